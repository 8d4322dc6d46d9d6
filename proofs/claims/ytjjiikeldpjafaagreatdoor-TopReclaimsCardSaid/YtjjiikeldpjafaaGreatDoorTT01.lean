/- The walk of schedule. The conditions: what the slice of bytes reads as. -/
import Derived.Deep.RegionHeld3
import Derived.Deep.CutRange
import Derived.Test.YtjjiikeldpjafaaGreatDoorTT00
import Derived.Deep.MidRow
import Derived.Laws.CopyOwn
namespace Go.Proofs.YtjjiikeldpjafaaGreatDoor
open Go.RowKit Go.BigFrame
def ucells (n:Nat)(g:Nat→Nat):Array Value:=((List.range n).map fun y=>Value.int .u32 (g y)).toArray
theorem ucells_size (n:Nat)(g:Nat→Nat):(ucells n g).size=n:=by simp[ucells]
theorem ucells_get (n:Nat)(g:Nat→Nat)(y:Nat)(h:y < n):(ucells n g)[y]?=some (.int .u32 (g y)):=by
 simp[ucells,h]
def upd (g:Nat→Nat)(y:Nat)(v:Nat):Nat→Nat:=fun z=>if z=y then v else g z
theorem ucells_set (n:Nat)(g:Nat→Nat)(y:Nat)(v:Nat)(h:y < n):(ucells n g).setIfInBounds y (.int .u32 v)=ucells n (upd g y v):=by
 apply Array.ext_getElem?
 intro i
 rw[Array.getElem?_setIfInBounds]
 by_cases hi:i < n
 ·rw[ucells_get _ _ _ hi]
  by_cases e:y=i
  ·subst e
   rw[if_pos rfl,if_pos (by rw[ucells_size];exact h),ucells_get _ _ _ h];simp[upd]
  ·rw[if_neg e,ucells_get _ _ _ hi];simp[upd,Ne.symm e]
 ·rw[Array.getElem?_eq_none (by rw[ucells_size];omega),if_neg (by omega),Array.getElem?_eq_none (by rw[ucells_size];omega)]
theorem ucells_one (n:Nat)(g:Nat→Nat):(ucells n g).all (·.oneCell')=true:=by
 rw[Array.all_eq_true_iff_forall_mem]
 intro v hv
 simp[ucells]at hv
 obtain⟨y,_,rfl⟩:=hv
 rfl
theorem ucells_congr {n:Nat}{g g':Nat→Nat}(h:∀ i,i < n→g i=g' i):ucells n g=ucells n g':=by
 unfold ucells
 congr 1
 apply List.map_congr_left
 intro i hi
 rw[h i (List.mem_range.1 hi)]
theorem getD_ge {l:List Nat}{i:Nat}(h:l.length≤i):l.getD i 0=0:=by rw[List.getD_eq_getElem?_getD,List.getElem?_eq_none h];rfl
theorem getD_lt {l:List Nat}{i:Nat}(h:i < l.length):l[i]?=some (l.getD i 0):=by rw[List.getD_eq_getElem?_getD,List.getElem?_eq_getElem h];rfl
def lg (l:List Nat):Nat→Nat:=fun i=>l.getD i 0
theorem lg_snoc (l:List Nat)(x:Nat):upd (lg l) l.length x=lg (l++[x]):=by
 funext i
 unfold upd lg
 by_cases e:i=l.length
 ·subst e;simp
 ·rw[if_neg e]
  by_cases h:i < l.length
  ·simp[List.getD,List.getElem?_append_left h]
  ·rw[getD_ge (by omega),getD_ge (by rw[List.length_append];simp;omega)]
theorem ucells_snoc (n:Nat)(l:List Nat)(x:Nat)(k:Nat)(hk:k=l.length)(h:k < n):(ucells n (lg l)).setIfInBounds k (.int .u32 x)=ucells n (lg (l++[x])):=by
 subst hk
 rw[ucells_set _ _ _ _ h,lg_snoc]
/-! ### The list of words -/
def upW (w:List Nat):Nat→List Nat
 | 0=>w
 | n+1=>upW w n++[nextW (upW w n)]
theorem schedF_up (n:Nat)(w:List Nat):schedF n w=upW w n:=by
 have key:∀ m n,schedF m (upW w n)=upW w (n+m):=by
  intro m
  induction m with
  | zero=>intro n;rfl
  | succ m ih=>intro n;exact(ih (n+1)).trans (by rw[show n+1+m=n+(m+1) by omega])
 have:=key n 0
 rwa [Nat.zero_add]at this
theorem upW_length (w:List Nat)(n:Nat):(upW w n).length=w.length+n:=by
 induction n with
 | zero=>rfl
 | succ n ih=>rw[upW,List.length_append,ih];simp;omega
def All32 (l:List Nat):Prop:=∀ x∈l,x < 4294967296
theorem All32.get {l:List Nat}(h:All32 l)(i:Nat):l.getD i 0 < 4294967296:=by
 by_cases hi:i < l.length
 ·exact h _ (List.mem_of_getElem? (getD_lt hi))
 ·rw[getD_ge (by omega)];omega
theorem upW_32 {w:List Nat}(h:All32 w)(n:Nat):All32 (upW w n):=by
 induction n with
 | zero=>exact h
 | succ n ih =>
  intro x hx
  rw[upW,List.mem_append]at hx
  rcases hx with hx | hx
  ·exact ih x hx
  ·simp at hx;subst hx;exact Nat.mod_lt _ (by omega)
theorem zeroSched:ZeroIs Tryz.prog 313 (ucells 64 (lg [])):=fun w=>by kernel_rfl
theorem schedDesc:Tryz.prog.underlying 313=some (.array 64 156):=by kernel_rfl
theorem schedSize (g:Nat→Nat):(Tryz.prog.info? 313).map (·.size)=some (ucells 64 g).size:=by
 rw[ucells_size];kernel_rfl
def bcells (l:List Nat):List (List Value):=l.map fun n=>[.int .u8 (n:Nat)]
theorem SliceAt.bcell {w:World}{v:Value}{l:List Nat}(h:SliceAt w v 1 (bcells l)):∃ a cap,v=.slice a l.length cap∧l.length≤cap∧cap≤maxLen ∧
  ∀ k n,l[k]?=some n→∃ b off,a=some ⟨b,off,none⟩∧b < w.heap.size∧w.cell? ⟨b,off+k,none⟩=some (.int .u8 (n:Nat)):=by
 obtain⟨a,cap,hv,h1,h2,h3⟩:=h
 unfold bcells at *
 rw[List.length_map]at hv h1
 refine⟨a,cap,hv,h1,h2,fun k x hx=>?_⟩
 rcases h3 with h3 | ⟨b,off,ha,hb,hc⟩
 ·simp at h3;subst h3;simp at hx
 ·refine⟨b,off,ha,hb,?_⟩
  have:=hc k [.int .u8 (x:Nat)] (by rw[List.getElem?_map,hx];rfl) 0 _ rfl
  simpa using this
theorem SliceAt.bcell' {w:World}{v:Value}{l:List Nat}(h:SliceAt w v 1 (bcells l))(hl:0 < l.length):∃ b off cap,v=.slice (some ⟨b,off,none⟩) l.length cap∧l.length≤cap∧cap≤maxLen∧b < w.heap.size ∧
  ∀ k n,l[k]?=some n→w.cell? ⟨b,off+k,none⟩=some (.int .u8 (n:Nat)):=by
 obtain⟨a,cap,hv,h1,h2,h3⟩:=h.bcell
 obtain⟨b,off,rfl,hb,_⟩:=h3 0 _ (getD_lt hl)
 refine⟨b,off,cap,hv,h1,h2,hb,fun k x hx=>?_⟩
 obtain⟨b',off',e,_,h⟩:=h3 k x hx
 cases e
 exact h
theorem word_or (a b c d:Nat)(ha:a < 256)(hb:b < 256)(hc:c < 256)(hd:d < 256) :
  bits BinOp.or IntKind.u32 (bits BinOp.or IntKind.u32 (bits BinOp.or IntKind.u32 ((a:Int)*16777216) ((b:Int)*65536)) ((c:Int)*256)) (d:Int)=((((a*16777216 ||| b*65536) ||| c*256) ||| d:Nat):Int):=by
 have e1:(a:Int)*16777216=((a*16777216:Nat):Int):=by omega
 have e2:(b:Int)*65536=((b*65536:Nat):Int):=by omega
 have e3:(c:Int)*256=((c*256:Nat):Int):=by omega
 have o1:a*16777216 ||| b*65536 < 4294967296:=Nat.or_lt_two_pow (n:=32) (by omega) (by omega)
 have o2:(a*16777216 ||| b*65536) ||| c*256 < 4294967296:=Nat.or_lt_two_pow (n:=32) o1 (by omega)
 rw[e1,e2,e3,u32_or_nat _ _ (by omega) (by omega),u32_or_nat _ _ o1 (by omega),u32_or_nat _ _ o2 (by omega)]
theorem below_own_set {n:Nat}{w wr:World}{o:Nat}(h:Below n w wr)(hn:n≤wr.heap.size)(b:Nat)(hb:n≤b)(v:Value)(q:Nat):Below n w ((wr.drewN q).setCell ⟨b,o,none⟩ v) :=
 h.grown (grown_setCell (grown_drewN (grown_refl _ _) q) ⟨b,o,none⟩ (.inl rfl) v) hn (fun j e=>by cases e;exact hb)
theorem slice_ints2 {w:World}{b:Nat}{T:TypeId}{fz:Nat × Nat}{x y:Nat}(h:w.heap[b]?=some (.cells #[.int .i64 (x:Nat),.int .i64 (y:Nat)] T fz)):SliceAt w (.slice (some ⟨b,0,none⟩) 2 2) 1 (icells ([x,y].map fun(n:Nat)=>(n:Int))):=by
 refine⟨_,2,rfl,Nat.le_refl _,by decide,.inr ⟨b,0,rfl,(ltA h),?_⟩⟩
 intro i c hi j u hj
 rw[cell_of_row w b _ _ _ fz h]
 match i,hi with
 | 0,hi=>simp[icells]at hi;subst hi;match j,hj with | 0,hj=>simpa using hj
 | 1,hi=>simp[icells]at hi;subst hi;match j,hj with | 0,hj=>simpa using hj
theorem slice_ints3 {w:World}{b:Nat}{T:TypeId}{fz:Nat × Nat}{x y z:Nat}(h:w.heap[b]?=some (.cells #[.int .i64 (x:Nat),.int .i64 (y:Nat),.int .i64 (z:Nat)] T fz)):SliceAt w (.slice (some ⟨b,0,none⟩) 3 3) 1 (icells ([x,y,z].map fun(n:Nat)=>(n:Int))):=by
 refine⟨_,3,rfl,Nat.le_refl _,by decide,.inr ⟨b,0,rfl,(ltA h),?_⟩⟩
 intro i c hi j u hj
 rw[cell_of_row w b _ _ _ fz h]
 match i,hi with
 | 0,hi=>simp[icells]at hi;subst hi;match j,hj with | 0,hj=>simpa using hj
 | 1,hi=>simp[icells]at hi;subst hi;match j,hj with | 0,hj=>simpa using hj
 | 2,hi=>simp[icells]at hi;subst hi;match j,hj with | 0,hj=>simpa using hj
theorem oneF (a:Addr):∃ F:World→Value,∀ W:World,(W.cell? a).isSome=true→W.cell? a=some (F W):=by
 refine⟨fun W=>(W.cell? a).getD undef,fun W h=>?_⟩
 show W.cell? a=some ((W.cell? a).getD undef)
 cases h':W.cell? a with
 | none=>rw[h']at h;cases h
 | some v=>rfl
theorem setCell_off (W:World)(v:Value)(b i j:Nat)(h:i≠j):(W.setCell ⟨b,i,none⟩ v).cell? ⟨b,j,none⟩=W.cell? ⟨b,j,none⟩ :=
 World.cell?_setCell_other _ _ _ _ (by intro e;exact h (congrArg Addr.off e))
theorem setCell_isSome (W:World)(v:Value)(a:Addr):((W.setCell a v).cell? a).isSome=(W.cell? a).isSome:=by
 cases h:W.cell? a with
 | some u=>rw[World.cell?_setCell_same _ _ _ h];rfl
 | none =>
  unfold World.cell? World.setCell at *
  simp only[Array.getElem?_modify,if_true]at *
  cases h2:W.heap[a.block]? with
  | none=>rfl
  | some o =>
   rw[h2]at h
   cases o <;> first | rfl | skip
   simp only[Option.map_some]at *
   split
   ·rfl
   ·rename_i h3
    rw[if_neg h3]at h
    rw[Array.getElem?_setIfInBounds]
    have h5:=Array.getElem?_eq_none_iff.1 h
    rw[if_pos rfl,if_neg (by omega)]
theorem row_after {b i:Nat}{c:Array Value}{T:TypeId}(W:World)(V:Value)(o o':Obj)(hs:b < W.heap.size)(h:W.heap[b]?=some (.cells c T (0,0))):(((W.setCell ⟨b,i,none⟩ V).alloc o).alloc o').drew.heap[b]?=some (.cells (c.setIfInBounds i V) T (0,0)):=by
 show(((W.setCell ⟨b,i,none⟩ V).alloc o).alloc o').heap[b]?=_
 rw[Below.heap_alloc _ _ _ (by simp[World.setCell];omega),Below.heap_alloc _ _ _ (by simp[World.setCell];omega),heap_setCell_same _ h]
theorem below_after {b i:Nat}{W W0:World}{V:Value}{o o':Obj}(h:Below b W0 W)(hs:b < W.heap.size):Below b W0 (((W.setCell ⟨b,i,none⟩ V).alloc o).alloc o').drew:=by
 have h1:=below_drewN (((h.grown (grown_setCell (grown_refl W _) ⟨b,i,none⟩ (.inl rfl) V) (by omega) (fun j e=>by cases e;exact Nat.le_refl _)).alloc (by simp[World.setCell];omega) o).alloc (by simp[World.setCell];omega) o') 1
 exact h1
theorem sched_sum (x0 x1 x2 x3:Nat)(r1:x1 < 4294967296)(r3:x3 < 4294967296) :
  ((((x0:Int)+bits BinOp.xor IntKind.u32 ((rotr x1 7 ^^^ rotr x1 18:Nat):Int) ((x1:Int) / 8)) % 4294967296+(x2:Int)) % 4294967296+bits BinOp.xor IntKind.u32 ((rotr x3 17 ^^^ rotr x3 19:Nat):Int) ((x3:Int) / 1024)) % 4294967296=(((x0+sg0 x1+x2+sg1 x3) % 4294967296:Nat):Int):=by
 have e1:(x1:Int) / 8=((x1 / 8:Nat):Int):=by omega
 have e2:(x3:Int) / 1024=((x3 / 1024:Nat):Int):=by omega
 have l1:rotr x1 7 ^^^ rotr x1 18 < 4294967296:=Nat.xor_lt_two_pow (n:=32) (rotr_lt _ _ r1) (rotr_lt _ _ r1)
 have l2:rotr x3 17 ^^^ rotr x3 19 < 4294967296:=Nat.xor_lt_two_pow (n:=32) (rotr_lt _ _ r3) (rotr_lt _ _ r3)
 rw[e1,e2,u32_xor_nat _ _ l1 (by omega),u32_xor_nat _ _ l2 (by omega)]
 unfold sg0 sg1
 generalize (rotr x1 7 ^^^ rotr x1 18) ^^^ x1 / 8=p
 generalize (rotr x3 17 ^^^ rotr x3 19) ^^^ x3 / 1024=q
 omega
theorem at_new (W:World)(o:Obj):(W.alloc o).drew.heap[W.heap.size]?=some o:=heap_alloc_new W o
theorem at_past (W:World)(o o':Obj):((W.alloc o).alloc o').drew.heap[W.heap.size]?=some o:=by
 show((W.alloc o).alloc o').heap[W.heap.size]?=some o
 rw[Below.heap_alloc _ _ _ (by simp)]
 exact heap_alloc_new W o
theorem at_second (W:World)(o o':Obj):((W.alloc o).alloc o').drew.heap[W.heap.size+1]?=some o':=by
 have:=heap_alloc_new (W.alloc o) o'
 have e:(W.alloc o).heap.size=W.heap.size+1:=by simp
 rw[e]at this
 exact this
theorem mixed2 (x a b:Nat)(A B:Int){w:World}{bk:Nat}{T:TypeId}{fz:Nat × Nat}(hx:x < 4294967296)(ha:1≤a∧a≤31∧A=(a:Nat))(hb:1≤b∧b≤31∧B=(b:Nat))(h:w.heap[bk]?=some (.cells #[.int .i64 A,.int .i64 B] T fz)) :
  Calls Tryz.prog 189 #[.int .u32 x,.slice (some ⟨bk,0,none⟩) 2 2] w fun e w'=>e=.returned (.int .u32 (rotr x a ^^^ rotr x b:Nat))∧w=w':=by
 obtain⟨a1,a2,rfl⟩:=ha
 obtain⟨b1,b2,rfl⟩:=hb
 have:=mixed_any x [a,b] hx (slice_ints2 h) (by intro n hn;simp at hn;rcases hn with rfl | rfl;exact⟨a1,a2⟩;exact⟨b1,b2⟩)
 have e:mixN x [a,b]=rotr x a ^^^ rotr x b:=by simp[mixN]
 rwa [e]at this
theorem mixed3 (x a b c:Nat)(A B C:Int){w:World}{bk:Nat}{T:TypeId}{fz:Nat × Nat}(hx:x < 4294967296)(ha:1≤a∧a≤31∧A=(a:Nat))(hb:1≤b∧b≤31∧B=(b:Nat))(hc:1≤c∧c≤31∧C=(c:Nat))(h:w.heap[bk]?=some (.cells #[.int .i64 A,.int .i64 B,.int .i64 C] T fz)) :
  Calls Tryz.prog 189 #[.int .u32 x,.slice (some ⟨bk,0,none⟩) 3 3] w fun e w'=>e=.returned (.int .u32 ((rotr x a ^^^ rotr x b) ^^^ rotr x c:Nat))∧w=w':=by
 obtain⟨a1,a2,rfl⟩:=ha
 obtain⟨b1,b2,rfl⟩:=hb
 obtain⟨c1,c2,rfl⟩:=hc
 have:=mixed_any x [a,b,c] hx (slice_ints3 h) (by intro n hn;simp at hn;rcases hn with rfl | rfl | rfl;exact⟨a1,a2⟩;exact⟨b1,b2⟩;exact⟨c1,c2⟩)
 have e:mixN x [a,b,c]=(rotr x a ^^^ rotr x b) ^^^ rotr x c:=by simp[mixN]
 rwa [e]at this
theorem xor_lt {a b:Nat}(ha:a < 4294967296)(hb:b < 4294967296):a ^^^ b < 4294967296:=Nat.xor_lt_two_pow (n:=32) ha hb
theorem first16_upto (b:List Nat)(k:Nat):(List.range (k+1)).map (wordN b)=(List.range k).map (wordN b)++[wordN b k]:=by
 rw[List.range_succ,List.map_append];rfl
set_option maxHeartbeats 4000000 in
set_option maxRecDepth 100000 in
theorem schedule_any {w:World}{v:Value}{l:List Nat}(hv:SliceAt w v 1 (bcells l))(hl:l.length=64)(h8:∀ x∈l,x < 256) :
  Calls Tryz.prog 188 #[v] w fun e w'=>e=.returned (.agg (ucells 64 (lg (sched l))))∧Below w.heap.size w w':=by
 obtain⟨b,off,cap,rfl,l1,l2,hb,l3⟩:=hv.bcell' (by omega)
 rw[hl]at l1 ⊢
 have H3:=zh l3
 have H8:=zh h8
 have HL:=zh hl
 clear l3 hv h8 hl
 have HS0:Hid (sched l=upW (first16 l) 48):=zh (schedF_up _ _)
 obtain⟨R,hR⟩:∃ R,R=sched l:=⟨_,rfl⟩
 rw[← hR]at HS0 ⊢
 clear hR
 unfold maxLen at l2
 go_enter Tryz.func188,Tryz.ntmps188
 go_wp2_with (refine wpList_allocA 313 (ucells 64 (lg [])) zeroSched rfl rfl ?_)
 have HB0:Hid (Below w.heap.size w (w.alloc (.cells (ucells 64 (lg [])) 313))):=zh (br0.alloc (Nat.le_refl _) _)
 have hg0:Hid ((w.alloc (.cells (ucells 64 (lg [])) 313)).heap[w.heap.size]?=some (.cells (ucells 64 (lg [])) 313 (0,0))):=zh (heap_alloc_new _ _)
 generalize w.alloc (.cells (ucells 64 (lg [])) 313)=W0 at *
 go_loopw [3,7] (fun _ i wr=>∃ k:Nat,k≤16∧i=.int .i64 k∧Hid (wr.heap[w.heap.size]?=some (.cells (ucells 64 (lg ((List.range k).map (wordN l)))) 313 (0,0)))∧Hid (Below w.heap.size w wr)) (fun _ i wr=>16 - (intOf i).toNat)
 case atStart=>exact⟨0,by omega,rfl,hg0,HB0⟩
 case round =>
  obtain⟨k,hk,rfl,hg,hB⟩:=hrel
  by_cases hlt:k < 16
  ·have i0:=getD_lt (l:=l) (i:=4*k) (by rw[HL.out];omega)
   have i1:=getD_lt (l:=l) (i:=4*k+1) (by rw[HL.out];omega)
   have i2:=getD_lt (l:=l) (i:=4*k+2) (by rw[HL.out];omega)
   have i3:=getD_lt (l:=l) (i:=4*k+3) (by rw[HL.out];omega)
   have r0:=H8.out _ (List.mem_of_getElem? i0)
   have r1:=H8.out _ (List.mem_of_getElem? i1)
   have r2:=H8.out _ (List.mem_of_getElem? i2)
   have r3:=H8.out _ (List.mem_of_getElem? i3)
   have HW:Hid (wordN l k=((l.getD (4*k) 0*16777216 ||| l.getD (4*k+1) 0*65536) ||| l.getD (4*k+2) 0*256) ||| l.getD (4*k+3) 0):=rfl
   generalize l.getD (4*k) 0=x0 at *
   generalize l.getD (4*k+1) 0=x1 at *
   generalize l.getD (4*k+2) 0=x2 at *
   generalize l.getD (4*k+3) 0=x3 at *
   have hg':=hB.out
   have d0:=cell_keepB hg' hb (H3.out _ _ i0)
   have d1:=cell_keepB hg' hb (H3.out _ _ i1)
   have d2:=cell_keepB hg' hb (H3.out _ _ i2)
   have d3:=cell_keepB hg' hb (H3.out _ _ i3)
   have cf:wr.frozen? ⟨w.heap.size,k,none⟩=false:=by simp[World.frozen?,hg.out]
   have cw:wr.cell? ⟨w.heap.size,k,none⟩=some (.int .u32 (lg ((List.range k).map (wordN l)) k:Nat)):=by rw[cell_of_row wr _ k _ _ _ hg.out,ucells_get _ _ _ (by omega)]
   generalize lg ((List.range k).map (wordN l)) k=z0 at *
   clear i0 i1 i2 i3 hg'
   go_wp2
   refine wp_region_quiet_tail 35 (fun w'=>∃ n,w'=wr.drewN n) (by kernel_rfl) (by kernel_rfl) ⟨1,rfl⟩ ?_
   simp only[List.take_succ_cons,List.take_zero,List.drop_succ_cons,List.drop_zero]
   repeat (go_big_quiet_step (fail))
   refine wpQuiet_nil ?_
   rintro _ ⟨nq,rfl⟩
   go_wp2
   go_roundw
   case rel =>
    refine⟨k+1,by omega,by go_num,?_,below_own_set hB.out hB.out.size _ (Nat.le_refl _) _ _⟩
    have h1:(wr.drewN nq).heap[w.heap.size]?=wr.heap[w.heap.size]?:=rfl
    show(World.setCell _ _ _).heap[w.heap.size]?=_
    rw[heap_setCell_same _ (h1.trans hg.out),word_or _ _ _ _ r0 r1 r2 r3,ucells_snoc 64 _ _ k (by simp) (by omega),first16_upto,HW.out]
   case measure=>simp[intOf];omega
  ·have e16:k=16:=by omega
   rw[e16]at hg
   clear hk
   have HA:All32 (first16 l):=by
    intro x hx
    unfold first16 at hx
    rw[List.mem_map]at hx
    obtain⟨i,hi,rfl⟩:=hx
    have hi':=List.mem_range.1 hi
    have i0:=H8.out _ (List.mem_of_getElem? (getD_lt (l:=l) (i:=4*i) (by have:=HL.out;omega)))
    have i1:=H8.out _ (List.mem_of_getElem? (getD_lt (l:=l) (i:=4*i+1) (by have:=HL.out;omega)))
    have i2:=H8.out _ (List.mem_of_getElem? (getD_lt (l:=l) (i:=4*i+2) (by have:=HL.out;omega)))
    have i3:=H8.out _ (List.mem_of_getElem? (getD_lt (l:=l) (i:=4*i+3) (by have:=HL.out;omega)))
    exact Nat.or_lt_two_pow (n:=32) (Nat.or_lt_two_pow (n:=32) (Nat.or_lt_two_pow (n:=32) (by omega) (by omega)) (by omega)) (by omega)
   have HN:(first16 l).length=16:=by simp[first16]
   obtain⟨U,hU⟩:∃ U:Nat→List Nat,U=upW (first16 l):=⟨_,rfl⟩
   have hg1:Hid (wr.heap[w.heap.size]?=some (.cells (ucells 64 (lg (U 0))) 313 (0,0))):=by rw[hU];exact hg
   have HU:Hid ((∀ k,(U k).length=k+16)∧(∀ k,All32 (U k))∧(∀ k,U (k+1)=U k++[nextW (U k)])∧R=U 48):=zh (by
    rw[hU]
    exact⟨fun k=>by rw[upW_length,HN];omega,fun k=>upW_32 HA k,fun k=>rfl,HS0.out⟩)
   clear hg hU HA HN e16
   go_wp2
   clear hlt
   go_loopw [4,5,6] (fun i _ _ wr=>∃ k:Nat,k≤48∧i=.int .i64 ((k:Int)+16)∧Hid (wr.heap[w.heap.size]?=some (.cells (ucells 64 (lg (U k))) 313 (0,0)))∧Hid (Below w.heap.size w wr)) (fun i _ _ wr=>64 - (intOf i).toNat)
   case atStart=>exact⟨0,by omega,rfl,hg1,hB⟩
   case round =>
    obtain⟨k,hk,rfl,hg,hB⟩:=hrel
    by_cases hlt:k < 48
    ·obtain⟨hlen,hA,hn,_⟩:=HU.out
     have hlen:=hlen k
     have hA:=hA k
     have hn:=hn k
     have hn:U (k+1)=U k++[((U k).getD k 0+sg0 ((U k).getD (k+1) 0)+(U k).getD (k+9) 0+sg1 ((U k).getD (k+14) 0)) % 4294967296]:=by
      rw[hn,nextW,hlen];rfl
     have r0:=hA.get k
     have r1:=hA.get (k+1)
     have r2:=hA.get (k+9)
     have r3:=hA.get (k+14)
     have cf:wr.frozen? ⟨w.heap.size,k+16,none⟩=false:=by simp[World.frozen?,hg.out]
     have hc:∀ i,i < 64→wr.cell? ⟨w.heap.size,i,none⟩=some (.int .u32 ((U k).getD i 0:Nat)):=by
      intro i hi
      rw[cell_of_row wr _ i _ _ _ hg.out,ucells_get _ _ _ hi];rfl
     have C0:=zh (hc k (by omega))
     have C1:=zh (hc (k+1) (by omega))
     have C2:=zh (hc (k+9) (by omega))
     have C3:=zh (hc (k+14) (by omega))
     have CW:=zh (hc (k+16) (by omega))
     have CF:=zh cf
     have F0:Hid (IntKind.i64.wrap ((k:Int)+16 - 16)=(k:Int)):=zh (by rw[IntWalk.i64_in _ (by omega)];omega)
     have F1:Hid (IntKind.i64.wrap ((k:Int)+16 - 15)=((k+1:Nat):Int)):=zh (by rw[IntWalk.i64_in _ (by omega)];omega)
     have F2:Hid (IntKind.i64.wrap ((k:Int)+16 - 7)=((k+9:Nat):Int)):=zh (by rw[IntWalk.i64_in _ (by omega)];omega)
     have F3:Hid (IntKind.i64.wrap ((k:Int)+16 - 2)=((k+14:Nat):Int)):=zh (by rw[IntWalk.i64_in _ (by omega)];omega)
     have HNx:=zh hn
     have HLn:=zh hlen
     clear hn hA hc hlen cf
     generalize (U k).getD k 0=x0 at *
     generalize (U k).getD (k+1) 0=x1 at *
     generalize (U k).getD (k+9) 0=x2 at *
     generalize (U k).getD (k+14) 0=x3 at *
     generalize (U k).getD (k+16) 0=x4 at *
     go_wp2
     have c1:=C1.out
     have c3:=C3.out
     have f1:=F1.out
     have f3:=F3.out
     go_quiet (fail)
     clear c1 c3 f1 f3
     go_wp2
     have hs:w.heap.size < (wr.drewN nq).heap.size:=(ltA hg.out)
     have c0:(wr.drewN nq).cell? ⟨w.heap.size,k,none⟩=some (.int .u32 x0):=C0.out
     have c2:(wr.drewN nq).cell? ⟨w.heap.size,k+9,none⟩=some (.int .u32 x2):=C2.out
     have cw:(wr.drewN nq).cell? ⟨w.heap.size,k+16,none⟩=some (.int .u32 x4):=CW.out
     have cf:(wr.drewN nq).frozen? ⟨w.heap.size,k+16,none⟩=false:=CF.out
     have hgd:Hid ((wr.drewN nq).heap[w.heap.size]?=some (.cells (ucells 64 (lg (U k))) 313 (0,0))):=hg
     have hBd:Hid (Below w.heap.size w (wr.drewN nq)):=zh (below_drewN hB.out _)
     generalize wr.drewN nq=wq at *
     have f0:=F0.out
     have f2:=F2.out
     have f4:(k:Int)+16=((k+16:Nat):Int):=by omega
     have b0:(0:Int)≤(k:Int)∧(k:Int) < 64:=by omega
     have b2:(0:Int)≤((k+9:Nat):Int)∧((k+9:Nat):Int) < 64:=by omega
     have b4:(0:Int)≤((k+16:Nat):Int)∧((k+16:Nat):Int) < 64:=by omega
     obtain⟨k9,hk9⟩:∃ k9,k9=k+9:=⟨_,rfl⟩
     obtain⟨k16,hk16⟩:∃ k16,k16=k+16:=⟨_,rfl⟩
     rw[← hk9]at c2 f2 b2
     rw[← hk16]at cw cf b4 f4
     rw[f4]
     rw[f4]at f0 f2
     have HK16:=zh hk16
     have HK9:=zh hk9
     clear C0 C1 C2 C3 CW CF F0 F1 F2 F3 hk9 hk16 f4
     obtain⟨b01,b02⟩:=b0
     obtain⟨b21,b22⟩:=b2
     obtain⟨b41,b42⟩:=b4
     have M1:=zh (mixed2 x1 7 18 7 18 r1 ⟨by decide,by decide,by decide⟩ ⟨by decide,by decide,by decide⟩ (at_new wq (.cells #[.int .i64 7,.int .i64 18] 3)))
     have M2:=zh (mixed2 x1 7 18 7 18 r1 ⟨by decide,by decide,by decide⟩ ⟨by decide,by decide,by decide⟩ (at_past wq (.cells #[.int .i64 7,.int .i64 18] 3) (.cells #[.int .i64 17,.int .i64 19] 3)))
     have M3:=zh (mixed2 x1 7 18 7 18 r1 ⟨by decide,by decide,by decide⟩ ⟨by decide,by decide,by decide⟩ (at_second wq (.cells #[.int .i64 17,.int .i64 19] 3) (.cells #[.int .i64 7,.int .i64 18] 3)))
     have N1:=zh (mixed2 x3 17 19 17 19 r3 ⟨by decide,by decide,by decide⟩ ⟨by decide,by decide,by decide⟩ (at_new wq (.cells #[.int .i64 17,.int .i64 19] 3)))
     have N2:=zh (mixed2 x3 17 19 17 19 r3 ⟨by decide,by decide,by decide⟩ ⟨by decide,by decide,by decide⟩ (at_past wq (.cells #[.int .i64 17,.int .i64 19] 3) (.cells #[.int .i64 7,.int .i64 18] 3)))
     have N3:=zh (mixed2 x3 17 19 17 19 r3 ⟨by decide,by decide,by decide⟩ ⟨by decide,by decide,by decide⟩ (at_second wq (.cells #[.int .i64 7,.int .i64 18] 3) (.cells #[.int .i64 17,.int .i64 19] 3)))
     obtain⟨F,hF⟩:=oneF ⟨w.heap.size,k16,none⟩
     have cw':=hF wq (by rw[cw];rfl)
     have HF:=zh hF
     have n0:k16≠k:=by have:=HK16.out;omega
     have n2:k16≠k9:=by have:=HK16.out;have:=HK9.out;omega
     clear hF cw
     go_region_held3 (fun w'=>w'.cell? ⟨w.heap.size,k,none⟩=some (.int .u32 x0)∧w'.cell? ⟨w.heap.size,k9,none⟩=some (.int .u32 x2)∧w'.cell? ⟨w.heap.size,k16,none⟩=some (F w')∧w'.frozen? ⟨w.heap.size,k16,none⟩=false)
      (refine⟨?_,?_,?_,?_⟩ <;> first | (refine HF.out _ ?_;simp (maxDischargeDepth:=9) [*,World.cell?_alloc_some,setCell_isSome];done) | (simp (maxDischargeDepth:=9) [*,World.cell?_alloc_some,frozen?_alloc_cells,setCell_off];done)) ((first | (go_at_call 189;(with_reducible refine M1.out.mono ?_);rintro e w' ⟨rfl,rfl⟩) | (go_at_call 189;(with_reducible refine M2.out.mono ?_);rintro e w' ⟨rfl,rfl⟩) | (go_at_call 189;(with_reducible refine M3.out.mono ?_);rintro e w' ⟨rfl,rfl⟩) | (go_at_call 189;(with_reducible refine N1.out.mono ?_);rintro e w' ⟨rfl,rfl⟩) | (go_at_call 189;(with_reducible refine N2.out.mono ?_);rintro e w' ⟨rfl,rfl⟩) | (go_at_call 189;(with_reducible refine N3.out.mono ?_);rintro e w' ⟨rfl,rfl⟩)))
     all_goals
      go_wp2
      go_roundw
      case rel =>
       refine⟨k+1,by omega,?_,?_,?_⟩
       ·have:=HK16.out
        congr 1;omega
       ·refine(row_after wq _ _ _ hs hgd.out).trans ?_
        rw[sched_sum x0 x1 x2 x3 r1 r3,ucells_snoc 64 _ _ k16 (by rw[HLn.out,HK16.out]) (by omega),HNx.out]
       ·exact below_after hBd.out hs
      case measure=>have:=HK16.out;simp[intOf];omega
    ·obtain rfl:k=48:=by omega
     have HG:Hid (wr.heap[w.heap.size]?=some (.cells (ucells 64 (lg R)) 313 (0,0))):=zh (by rw[HU.out.2.2.2];exact hg.out)
     obtain⟨Z,hZ⟩:∃ Z,Z=ucells 64 (lg R):=⟨_,rfl⟩
     have z1:Hid ((Tryz.prog.info? 313).map (·.size)=some Z.size):=zh (by rw[hZ];exact schedSize _)
     have z3:Hid (Z.all (·.oneCell')=true):=zh (by rw[hZ];exact ucells_one _ _)
     rw[← hZ]at HG
     have HZ:=zh hZ
     clear hZ hg HU hg1
     go_wp2_with (first | (refine wpList_loadA 313 _ w.heap.size 313 Z (0,0) _ rfl rfl rfl HG.out schedDesc rfl z1.out ?_) | (refine wpList_store_row rfl 313 _ _ rfl w.heap.size Z rfl rfl 313 Z HG.out z1.out rfl z3.out ?_))
     refine bodyPost_ret (results_cell_row rfl _ _ w.heap.size 313 Z (0,0) _ rfl (setRow_heap _ _ _ _ _ _ HG.out) schedDesc rfl z1.out) rfl ⟨by rw[HZ.out],?_⟩
     exact hB.out.trans ⟨rfl,rfl,rfl,by simp,fun j hj=>setRow_other _ _ _ _ (by omega)⟩
def Env (w:World):Prop:=w.rangeAt 0 0 (ucells 64 (lg kN)).toList
theorem Env.below {B:Nat}{w w':World}(h:Env w)(hb:Below B w w')(hB:0 < B):Env w':=fun j v hj=>by
 rw[hb.cell (p:=⟨0,0+j,none⟩) hB];exact h j v hj
def hcells (v:H8):Array Value:=#[.int .u32 (v.a:Nat),.int .u32 (v.b:Nat),.int .u32 (v.c:Nat),.int .u32 (v.d:Nat),.int .u32 (v.e:Nat),.int .u32 (v.f:Nat),.int .u32 (v.g:Nat),.int .u32 (v.h:Nat)]
def H32 (v:H8):Prop:=v.a < 4294967296∧v.b < 4294967296∧v.c < 4294967296∧v.d < 4294967296∧v.e < 4294967296∧v.f < 4294967296∧v.g < 4294967296∧v.h < 4294967296
theorem H32.round {v:H8}(h:H32 v)(k w:Nat):H32 (roundH v k w):=by
 obtain⟨h1,h2,h3,h4,h5,h6,h7,h8⟩:=h
 exact⟨Nat.mod_lt _ (by omega),h1,h2,h3,Nat.mod_lt _ (by omega),h5,h6,h7⟩
theorem H32.add (x y:H8):H32 (addH x y):=⟨Nat.mod_lt _ (by omega),Nat.mod_lt _ (by omega),Nat.mod_lt _ (by omega),Nat.mod_lt _ (by omega),Nat.mod_lt _ (by omega),Nat.mod_lt _ (by omega),Nat.mod_lt _ (by omega),Nat.mod_lt _ (by omega)⟩
def upH (W:List Nat)(v:H8):Nat→H8
 | 0=>v
 | k+1=>roundH (upH W v k) (kN.getD k 0) (W.getD k 0)
theorem roundsH_up (n:Nat)(K W:List Nat)(v:H8)(hK:K.length=n)(hW:W.length=n)(f:Nat→H8)(h0:f 0=v)(hs:∀ k,k < n→f (k+1)=roundH (f k) (K.getD k 0) (W.getD k 0)):roundsH K W v=f n:=by
 induction n generalizing K W v f with
 | zero =>
  obtain rfl:=List.eq_nil_of_length_eq_zero hK
  exact h0.symm
 | succ n ih =>
  match K,W,hK,hW with
  | k::K,w::W,hK,hW =>
   unfold roundsH
   refine ih K W _ (by simpa using hK) (by simpa using hW) (fun j=>f (j+1)) ?_ ?_
   ·have:=hs 0 (by omega)
    rw[h0]at this
    simpa using this
   ·intro j hj
    have:=hs (j+1) (by omega)
    simpa using this
theorem roundsH_upH (W:List Nat)(v:H8)(hW:W.length=64):roundsH kN W v=upH W v 64:=roundsH_up 64 kN W v rfl hW (upH W v) rfl (fun _ _=>rfl)
theorem upH_32 {W:List Nat}{v:H8}(h:H32 v)(k:Nat):H32 (upH W v k):=by
 induction k with
 | zero=>exact h
 | succ k ih=>exact ih.round _ _
theorem sched_length (l:List Nat):(sched l).length=64:=by
 unfold sched
 rw[schedF_up,upW_length]
 simp[first16]
theorem sched_32 {l:List Nat}(hl:l.length=64)(h8:∀ x∈l,x < 256):All32 (sched l):=by
 unfold sched
 rw[schedF_up]
 refine upW_32 ?_ 48
 intro x hx
 unfold first16 at hx
 rw[List.mem_map]at hx
 obtain⟨i,hi,rfl⟩:=hx
 have hi':=List.mem_range.1 hi
 have i0:=h8 _ (List.mem_of_getElem? (getD_lt (l:=l) (i:=4*i) (by omega)))
 have i1:=h8 _ (List.mem_of_getElem? (getD_lt (l:=l) (i:=4*i+1) (by omega)))
 have i2:=h8 _ (List.mem_of_getElem? (getD_lt (l:=l) (i:=4*i+2) (by omega)))
 have i3:=h8 _ (List.mem_of_getElem? (getD_lt (l:=l) (i:=4*i+3) (by omega)))
 exact Nat.or_lt_two_pow (n:=32) (Nat.or_lt_two_pow (n:=32) (Nat.or_lt_two_pow (n:=32) (by omega) (by omega)) (by omega)) (by omega)
theorem kN_32:All32 kN:=by unfold All32;decide
theorem zeroWords:ZeroIs Tryz.prog 281 (hcells ⟨0,0,0,0,0,0,0,0⟩):=fun w=>by kernel_rfl
theorem wordsDesc:Tryz.prog.underlying 281=some (.array 8 156):=by kernel_rfl
theorem wordsSize (v:H8):(Tryz.prog.info? 281).map (·.size)=some (hcells v).size:=by
 show _=some 8
 kernel_rfl
theorem hcells_one (v:H8):(hcells v).all (·.oneCell')=true:=by simp[hcells,Value.oneCell']
theorem uindex (g:Nat→Nat)(k:Nat)(hk:k < 64)(w:World):(Instr.index 313 (.agg (ucells 64 g)) (.int .i64 k)).run Tryz.prog w=.ok (.int .u32 (g k:Nat)) w:=by
 have hn:0≤(k:Int)∧(k:Int) < ((64:Nat):Int):=by omega
 simp[Instr.index,run_underlying schedDesc,asIntOf,hn,go_sem,ucells_get _ _ _ hk]
 intro h;omega
theorem and_lt {a b:Nat}(ha:a < 4294967296):a &&& b < 4294967296:=Nat.lt_of_le_of_lt Nat.and_le_left ha
theorem xor_max (e:Nat)(he:e < 4294967296):bits BinOp.xor IntKind.u32 IntKind.u32.max (e:Int)=((4294967295 - e:Nat):Int):=by
 have h1:IntKind.u32.max=((4294967295:Nat):Int):=by decide
 rw[h1,u32_xor_nat _ _ (by omega) he]
 congr 1
 apply Nat.eq_of_testBit_eq
 intro i
 rw[Nat.testBit_xor,show 4294967295 - e=2 ^ 32 - (e+1) by omega,Nat.testBit_two_pow_sub_succ he,show 4294967295=2 ^ 32 - 1 by rfl,Nat.testBit_two_pow_sub_one]
 by_cases hi:i < 32
 ·simp[hi]
 ·have:e.testBit i=false:=Nat.testBit_lt_two_pow (Nat.lt_of_lt_of_le he (Nat.pow_le_pow_right (n:=2) (by omega) (by omega:32≤i)))
  simp[hi,this]
theorem t1_int (a b c d e f g h k w:Nat)(he:e < 4294967296)(hf:f < 4294967296)(hg:g < 4294967296) :
  IntKind.u32.wrap (IntKind.u32.wrap (IntKind.u32.wrap (IntKind.u32.wrap ((h:Int)+(((rotr e 6 ^^^ rotr e 11) ^^^ rotr e 25:Nat):Int))+bits BinOp.xor IntKind.u32 (bits BinOp.and IntKind.u32 (e:Int) (f:Int)) (bits BinOp.and IntKind.u32 (bits BinOp.xor IntKind.u32 IntKind.u32.max (e:Int)) (g:Int)))+(k:Int))+(w:Int))=((t1 ⟨a,b,c,d,e,f,g,h⟩ k w:Nat):Int):=by
 rw[xor_max e he,u32_and_nat _ _ he hf,u32_and_nat _ _ (by omega) hg,u32_xor_nat _ _ (and_lt he) (and_lt (by omega))]
 unfold t1 Sg1 chN
 simp only[]
 generalize (rotr e 6 ^^^ rotr e 11) ^^^ rotr e 25=p
 generalize (e &&& f) ^^^ ((4294967295 - e) &&& g)=q
 rw[IntKind.wrap_u32',IntKind.wrap_u32',IntKind.wrap_u32',IntKind.wrap_u32']
 omega
theorem t2_int (a b c d e f g h:Nat)(ha:a < 4294967296)(hb:b < 4294967296)(hc:c < 4294967296) :
  IntKind.u32.wrap ((((rotr a 2 ^^^ rotr a 13) ^^^ rotr a 22:Nat):Int)+bits BinOp.xor IntKind.u32 (bits BinOp.xor IntKind.u32 (bits BinOp.and IntKind.u32 (a:Int) (b:Int)) (bits BinOp.and IntKind.u32 (a:Int) (c:Int))) (bits BinOp.and IntKind.u32 (b:Int) (c:Int)))=((t2 ⟨a,b,c,d,e,f,g,h⟩:Nat):Int):=by
 rw[u32_and_nat _ _ ha hb,u32_and_nat _ _ ha hc,u32_and_nat _ _ hb hc,u32_xor_nat _ _ (and_lt ha) (and_lt ha),u32_xor_nat _ _ (Nat.xor_lt_two_pow (n:=32) (and_lt ha) (and_lt ha)) (and_lt hb)]
 unfold t2 Sg0 majN
 simp only[]
 generalize (rotr a 2 ^^^ rotr a 13) ^^^ rotr a 22=p
 generalize ((a &&& b) ^^^ (a &&& c)) ^^^ (b &&& c)=q
 rw[IntKind.wrap_u32']
 omega
def hl (v:H8):List Nat:=[v.a,v.b,v.c,v.d,v.e,v.f,v.g,v.h]
theorem hcells_u (v:H8):hcells v=ucells 8 (lg (hl v)):=rfl
def addG (H v:H8)(k:Nat):Nat→Nat:=fun i=>if i < k then(lg (hl H) i+lg (hl v) i) % 4294967296 else lg (hl H) i
theorem addG_zero (H v:H8):ucells 8 (addG H v 0)=hcells H:=by
 rw[hcells_u]
 exact ucells_congr (fun i _=>by unfold addG;rw[if_neg (by omega)])
theorem addG_succ (H v:H8)(k:Nat):upd (addG H v k) k ((lg (hl H) k+lg (hl v) k) % 4294967296)=addG H v (k+1):=by
 funext i
 unfold upd addG
 by_cases e:i=k
 ·subst e;simp
 ·rw[if_neg e]
  by_cases h:i < k
  ·rw[if_pos h,if_pos (by omega)]
  ·rw[if_neg h,if_neg (by omega)]
theorem addG_all (H v:H8):ucells 8 (addG H v 8)=hcells (addH H v):=by
 rw[hcells_u]
 refine ucells_congr (fun i hi=>?_)
 unfold addG
 rw[if_pos hi]
 match i,hi with
 | 0,_ | 1,_ | 2,_ | 3,_ | 4,_ | 5,_ | 6,_ | 7,_=>rfl
theorem hl_lt {v:H8}(h:H32 v)(i:Nat):lg (hl v) i < 4294967296:=by
 refine All32.get (l:=hl v) ?_ i
 obtain⟨h1,h2,h3,h4,h5,h6,h7,h8⟩:=h
 intro x hx
 simp only[hl,List.mem_cons,List.not_mem_nil,or_false]at hx
 rcases hx with rfl | rfl | rfl | rfl | rfl | rfl | rfl | rfl <;> assumption
set_option maxHeartbeats 4000000 in
set_option maxRecDepth 100000 in
theorem add_any {w:World}{bh:Nat}{v:Value}{H:H8}{l:List Nat}(hH:w.heap[bh]?=some (.cells (hcells H) 281 (0,0)))(h32:H32 H)(hv:SliceAt w v 1 (bcells l))(hl:l.length=64)(h8:∀ x∈l,x < 256)(he:Env w)(hg:0 < w.heap.size) :
  Calls Tryz.prog 169 #[.pointer (some ⟨bh,0,none⟩),v] w fun e w'=>e=.returned (.tuple #[])∧w'.heap[bh]?=some (.cells (hcells (blockH H l)) 281 (0,0))∧w.grownBy w' (some bh):=by
 obtain⟨W,hW⟩:∃ W,W=sched l:=⟨_,rfl⟩
 have HWL:Hid (W.length=64):=zh (by rw[hW];exact sched_length l)
 have HW32:Hid (All32 W):=zh (by rw[hW];exact sched_32 hl h8)
 have HBL:Hid (blockH H l=addH H (roundsH kN W H)):=zh (by rw[hW];rfl)
 have HSC:Hid (Calls Tryz.prog 188 #[v] w fun e w'=>e=.returned (.agg (ucells 64 (lg W)))∧Below w.heap.size w w'):=zh (by rw[hW];exact schedule_any hv hl h8)
 clear hW hv hl h8
 have HH:=zh hH
 have H32':=zh h32
 have HE:=zh he
 have HG:=zh hg
 have hbh:bh < w.heap.size:=(ltA hH)
 clear hH h32 he hg
 obtain⟨Z,hZ⟩:∃ Z,Z=ucells 64 (lg W):=⟨_,rfl⟩
 have z1:Hid ((Tryz.prog.info? 313).map (·.size)=some Z.size):=zh (by rw[hZ];exact schedSize _)
 have z2:Hid ((ucells 64 (lg [])).size=Z.size):=zh (by rw[hZ,ucells_size,ucells_size])
 have z3:Hid (Z.all (·.oneCell')=true):=zh (by rw[hZ];exact ucells_one _ _)
 rw[← hZ]at HSC
 have HZ:=zh hZ
 clear hZ
 obtain⟨KZ,hKZ⟩:∃ KZ,KZ=(ucells 64 (lg kN)).toList:=⟨_,rfl⟩
 have k1:Hid ((Tryz.prog.info? 313).map (·.size)=some KZ.length):=zh (by rw[hKZ];have:=schedSize (lg kN);simpa using this)
 have HKZ:=zh hKZ
 clear hKZ
 go_enter Tryz.func169,Tryz.ntmps169
 go_wp2_with (first | (go_at_call 188;refine HSC.out.mono ?_;rintro e w1 ⟨rfl,hb1⟩;have HB1:=zh (hb1.alloc hb1.size (.cells Z 313));have HH1:Hid ((w1.alloc (.cells Z 313)).heap[bh]?=some (.cells (hcells H) 281 (0,0))):=zh ((HB1.out.block _ hbh).trans HH.out);have hs1:=hb1.size;clear hb1) | (refine wpList_declA 313 (ucells 64 (lg [])) Z 4 (.tmp 14) zeroSched rfl rfl rfl rfl rfl rfl rfl z1.out z2.out z3.out ?_) | (refine wpList_loadA 281 _ bh 281 (hcells H) (0,0) _ rfl rfl rfl HH1.out wordsDesc rfl (wordsSize _) ?_) | (refine wpList_declA 281 (hcells ⟨0,0,0,0,0,0,0,0⟩) (hcells H) 5 (.tmp 17) zeroWords rfl rfl rfl rfl rfl rfl rfl (wordsSize _) rfl (hcells_one _) ?_) | (refine wpList_load_mid rfl 313 _ rfl 0 0 rfl KZ _ ?_ schedDesc rfl k1.out ?_))
 ·rw[HKZ.out];exact HE.out.below (HB1.out.alloc (by simp;omega) _) HG.out
 have HB2:Hid (Below w.heap.size w ((w1.alloc (.cells Z 313)).alloc (.cells (hcells H) 281))):=zh (HB1.out.alloc (by simp;omega) _)
 have h4:Hid (((w1.alloc (.cells Z 313)).alloc (.cells (hcells H) 281)).heap[w1.heap.size]?=some (.cells Z 313 (0,0))):=zh (at_past w1 _ _)
 have h5:Hid (((w1.alloc (.cells Z 313)).alloc (.cells (hcells H) 281)).heap[w1.heap.size+1]?=some (.cells (hcells H) 281 (0,0))):=zh (at_second w1 _ _)
 generalize (w1.alloc (.cells Z 313)).alloc (.cells (hcells H) 281)=W2 at *
 clear HSC z1 z2 z3 k1 HB1 HH1
 obtain⟨V,hV⟩:∃ V:Nat→H8,V=upH W H:=⟨_,rfl⟩
 have HV:Hid (V 0=H∧(∀ k,V (k+1)=roundH (V k) (kN.getD k 0) (W.getD k 0))∧(∀ k,H32 (V k))∧roundsH kN W H=V 64):=zh (by
  rw[hV]
  exact⟨rfl,fun _=>rfl,fun k=>upH_32 H32'.out k,roundsH_upH W H HWL.out⟩)
 clear hV
 go_loopw [6,7,8,9,10,11,19] (fun _ _ _ _ _ _ i wr=>∃ k:Nat,k≤64∧i=.int .i64 k∧Hid (wr.heap[w1.heap.size]?=some (.cells Z 313 (0,0)))∧Hid (wr.heap[w1.heap.size+1]?=some (.cells (hcells (V k)) 281 (0,0)))∧Hid (Below w.heap.size w wr)) (fun _ _ _ _ _ _ i wr=>64 - (intOf i).toNat)
 case atStart=>exact⟨0,by omega,rfl,h4,zh (by rw[HV.out.1];exact h5.out),HB2⟩
 case round =>
  obtain⟨k,hk,rfl,g4,g5,hB⟩:=hrel
  by_cases hlt:k < 64
  ·have hix:=uindex (lg kN) k hlt wr
   have HIX:Hid ((Instr.index 313 (.agg KZ.toArray) (.int .i64 k)).run Tryz.prog wr=.ok (.int .u32 (kN.getD k 0:Nat)) wr):=zh (by rw[HKZ.out];exact hix)
   have rk:=kN_32.get k
   have rw':=HW32.out.get k
   obtain⟨ra,rb,rc,rd,re,rf,rg,rh⟩:=HV.out.2.2.1 k
   have CW:Hid (wr.cell? ⟨w1.heap.size,k,none⟩=some (.int .u32 (W.getD k 0:Nat))):=zh (by
    rw[cell_of_row wr _ k _ _ _ g4.out,HZ.out,ucells_get _ _ _ hlt];rfl)
   have hc:∀ i,wr.cell? ⟨w1.heap.size+1,i,none⟩=(hcells (V k))[i]?:=fun i=>cell_of_row wr _ i _ _ _ g5.out
   have C0:Hid (wr.cell? ⟨w1.heap.size+1,0,none⟩=some (.int .u32 ((V k).a:Nat))):=zh (hc 0)
   have C1:Hid (wr.cell? ⟨w1.heap.size+1,1,none⟩=some (.int .u32 ((V k).b:Nat))):=zh (hc 1)
   have C2:Hid (wr.cell? ⟨w1.heap.size+1,2,none⟩=some (.int .u32 ((V k).c:Nat))):=zh (hc 2)
   have C4:Hid (wr.cell? ⟨w1.heap.size+1,4,none⟩=some (.int .u32 ((V k).e:Nat))):=zh (hc 4)
   have C5:Hid (wr.cell? ⟨w1.heap.size+1,5,none⟩=some (.int .u32 ((V k).f:Nat))):=zh (hc 5)
   have C6:Hid (wr.cell? ⟨w1.heap.size+1,6,none⟩=some (.int .u32 ((V k).g:Nat))):=zh (hc 6)
   have C7:Hid (wr.cell? ⟨w1.heap.size+1,7,none⟩=some (.int .u32 ((V k).h:Nat))):=zh (hc 7)
   have HN:Hid (hcells (V (k+1))=hcells (roundH ⟨(V k).a,(V k).b,(V k).c,(V k).d,(V k).e,(V k).f,(V k).g,(V k).h⟩ (kN.getD k 0) (W.getD k 0))):=zh (by rw[HV.out.2.1 k])
   have g5:Hid (wr.heap[w1.heap.size+1]?=some (.cells (hcells ⟨(V k).a,(V k).b,(V k).c,(V k).d,(V k).e,(V k).f,(V k).g,(V k).h⟩) 281 (0,0))):=g5
   clear hc hix
   generalize (V k).a=a at *
   generalize (V k).b=b at *
   generalize (V k).c=c at *
   generalize (V k).d=d at *
   generalize (V k).e=e at *
   generalize (V k).f=f at *
   generalize (V k).g=g at *
   generalize (V k).h=hh at *
   generalize W.getD k 0=ww at *
   generalize kN.getD k 0=kk at *
   go_wp2_with (refine wpList_indexA 313 _ _ KZ.toArray k _ rfl rfl rfl rfl HIX.out ?_)
   have c0:=C0.out
   have c4:=C4.out
   go_quiet (fail)
   clear c0 c4
   go_wp2
   have g4:Hid ((wr.drewN nq).heap[w1.heap.size]?=some (.cells Z 313 (0,0))):=g4
   have g5:Hid ((wr.drewN nq).heap[w1.heap.size+1]?=some (.cells (hcells ⟨a,b,c,d,e,f,g,hh⟩) 281 (0,0))):=g5
   have c5:(wr.drewN nq).cell? ⟨w1.heap.size+1,5,none⟩=some (.int .u32 (f:Nat)):=C5.out
   have c6:(wr.drewN nq).cell? ⟨w1.heap.size+1,6,none⟩=some (.int .u32 (g:Nat)):=C6.out
   have c7:(wr.drewN nq).cell? ⟨w1.heap.size+1,7,none⟩=some (.int .u32 (hh:Nat)):=C7.out
   have cw:(wr.drewN nq).cell? ⟨w1.heap.size,k,none⟩=some (.int .u32 (ww:Nat)):=CW.out
   have C1:Hid ((wr.drewN nq).cell? ⟨w1.heap.size+1,1,none⟩=some (.int .u32 (b:Nat))):=C1
   have C2:Hid ((wr.drewN nq).cell? ⟨w1.heap.size+1,2,none⟩=some (.int .u32 (c:Nat))):=C2
   have hB:Hid (Below w.heap.size w (wr.drewN nq)):=zh (below_drewN hB.out _)
   generalize wr.drewN nq=wq at *
   have M1:=zh (mixed3 e 6 11 25 6 11 25 re ⟨by decide,by decide,by decide⟩ ⟨by decide,by decide,by decide⟩ ⟨by decide,by decide,by decide⟩ (at_new wq (.cells #[.int .i64 6,.int .i64 11,.int .i64 25] 3)))
   go_region_held3 (fun w'=>w'.cell? ⟨w1.heap.size+1,5,none⟩=some (.int .u32 (f:Nat))∧w'.cell? ⟨w1.heap.size+1,6,none⟩=some (.int .u32 (g:Nat))∧w'.cell? ⟨w1.heap.size+1,7,none⟩=some (.int .u32 (hh:Nat))∧w'.cell? ⟨w1.heap.size,k,none⟩=some (.int .u32 (ww:Nat)))
    (simp[*,World.cell?_alloc_some]) ((first | (go_at_call 189;(with_reducible refine M1.out.mono ?_);rintro e w' ⟨rfl,rfl⟩)))
   have T1:=t1_int a b c d e f g hh kk ww re rf rg
   have T1l:t1 ⟨a,b,c,d,e,f,g,hh⟩ kk ww < 4294967296:=Nat.mod_lt _ (by omega)
   have HN:Hid (hcells (V (k+1))=#[.int .u32 ((t1 ⟨a,b,c,d,e,f,g,hh⟩ kk ww+t2 ⟨a,b,c,d,e,f,g,hh⟩) % 4294967296:Nat),.int .u32 (a:Nat),.int .u32 (b:Nat),.int .u32 (c:Nat),.int .u32 ((d+t1 ⟨a,b,c,d,e,f,g,hh⟩ kk ww) % 4294967296:Nat),.int .u32 (e:Nat),.int .u32 (f:Nat),.int .u32 (g:Nat)]):=HN
   rw[T1]
   clear T1
   generalize t1 ⟨a,b,c,d,e,f,g,hh⟩ kk ww=T at *
   have hsq:w1.heap.size+1 < wq.heap.size:=(ltA g5.out)
   have g4:Hid ((wq.alloc (.cells #[.int .i64 6,.int .i64 11,.int .i64 25] 3)).drew.heap[w1.heap.size]?=some (.cells Z 313 (0,0))):=zh ((Below.heap_alloc _ _ _ (by omega)).trans g4.out)
   have g5:Hid ((wq.alloc (.cells #[.int .i64 6,.int .i64 11,.int .i64 25] 3)).drew.heap[w1.heap.size+1]?=some (.cells (hcells ⟨a,b,c,d,e,f,g,hh⟩) 281 (0,0))):=zh ((Below.heap_alloc _ _ _ (by omega)).trans g5.out)
   have hB:Hid (Below w.heap.size w (wq.alloc (.cells #[.int .i64 6,.int .i64 11,.int .i64 25] 3)).drew):=zh (below_drewN (hB.out.alloc (by omega) _) 1)
   clear C1 C2 M1 c5 c6 c7 cw hsq
   generalize (wq.alloc (.cells #[.int .i64 6,.int .i64 11,.int .i64 25] 3)).drew=wp at *
   go_wp2
   have c1:wp.cell? ⟨w1.heap.size+1,1,none⟩=some (.int .u32 (b:Nat)):=cell_of_row wp _ 1 _ _ _ g5.out
   have c2:wp.cell? ⟨w1.heap.size+1,2,none⟩=some (.int .u32 (c:Nat)):=cell_of_row wp _ 2 _ _ _ g5.out
   have M2:=zh (mixed3 a 2 13 22 2 13 22 ra ⟨by decide,by decide,by decide⟩ ⟨by decide,by decide,by decide⟩ ⟨by decide,by decide,by decide⟩ (at_new wp (.cells #[.int .i64 2,.int .i64 13,.int .i64 22] 3)))
   go_region_held3 (fun w'=>w'.cell? ⟨w1.heap.size+1,1,none⟩=some (.int .u32 (b:Nat))∧w'.cell? ⟨w1.heap.size+1,2,none⟩=some (.int .u32 (c:Nat)))
    (simp[*,World.cell?_alloc_some]) ((first | (go_at_call 189;(with_reducible refine M2.out.mono ?_);rintro e w' ⟨rfl,rfl⟩)))
   have T2:=t2_int a b c d e f g hh ra rb rc
   have T2l:t2 ⟨a,b,c,d,e,f,g,hh⟩ < 4294967296:=Nat.mod_lt _ (by omega)
   rw[T2]
   clear T2
   generalize t2 ⟨a,b,c,d,e,f,g,hh⟩=U at *
   have hsq:w1.heap.size+1 < wp.heap.size:=(ltA g5.out)
   have g4:Hid ((wp.alloc (.cells #[.int .i64 2,.int .i64 13,.int .i64 22] 3)).drew.heap[w1.heap.size]?=some (.cells Z 313 (0,0))):=zh ((Below.heap_alloc _ _ _ (by omega)).trans g4.out)
   have g5:Hid ((wp.alloc (.cells #[.int .i64 2,.int .i64 13,.int .i64 22] 3)).drew.heap[w1.heap.size+1]?=some (.cells (hcells ⟨a,b,c,d,e,f,g,hh⟩) 281 (0,0))):=zh ((Below.heap_alloc _ _ _ (by omega)).trans g5.out)
   have hB:Hid (Below w.heap.size w (wp.alloc (.cells #[.int .i64 2,.int .i64 13,.int .i64 22] 3)).drew):=zh (below_drewN (hB.out.alloc (by omega) _) 1)
   clear c1 c2 M2 hsq
   generalize (wp.alloc (.cells #[.int .i64 2,.int .i64 13,.int .i64 22] 3)).drew=wo at *
   go_wp2
   refine wp_region_quiet_tail 2 (fun w'=>∃ n,w'=wo.drewN n) (by kernel_rfl) (by kernel_rfl) ⟨1,rfl⟩ ?_
   simp only[List.take_succ_cons,List.take_zero,List.drop_succ_cons,List.drop_zero]
   repeat (go_big_quiet_step (fail))
   refine wpQuiet_nil ?_
   rintro _ ⟨nr,rfl⟩
   have g4:Hid ((wo.drewN nr).heap[w1.heap.size]?=some (.cells Z 313 (0,0))):=g4
   have g5:Hid ((wo.drewN nr).heap[w1.heap.size+1]?=some (.cells (hcells ⟨a,b,c,d,e,f,g,hh⟩) 281 (0,0))):=g5
   have hB:Hid (Below w.heap.size w (wo.drewN nr)):=zh (below_drewN hB.out _)
   generalize wo.drewN nr=wn at *
   refine wpList_copy_own rfl (.tmp 69) (.tmp 70) 157 157 rfl 156 (by kernel_rfl) (by kernel_rfl) (w1.heap.size+1) 1 7 7 ⟨w1.heap.size+1,0,none⟩ 7 8 rfl rfl (hcells ⟨a,b,c,d,e,f,g,hh⟩) 281 g5.out [.int .u32 (a:Nat),.int .u32 (b:Nat),.int .u32 (c:Nat),.int .u32 (d:Nat),.int .u32 (e:Nat),.int .u32 (f:Nat),.int .u32 (g:Nat)] rfl ?_ (by simp[hcells]) ?_ ?_
   ·intro j u hj
    rw[Addr.add_mid,cell_of_row wn _ _ _ _ _ g5.out,Nat.zero_add]
    have hj7:j < 7:=by simpa using (List.getElem?_eq_some_iff.1 hj).1
    match j,hj7,hj with
    | 0,_,hj | 1,_,hj | 2,_,hj | 3,_,hj | 4,_,hj | 5,_,hj | 6,_,hj=>exact hj
   ·intro u hu
    simp only[List.mem_cons,List.not_mem_nil,or_false]at hu
    rcases hu with rfl | rfl | rfl | rfl | rfl | rfl | rfl <;> rfl
   show wpList _ _ _ _ _ (wn.setRow (w1.heap.size+1) (hcells ⟨a,a,b,c,d,e,f,g⟩))
   have g4:Hid ((wn.setRow (w1.heap.size+1) (hcells ⟨a,a,b,c,d,e,f,g⟩)).heap[w1.heap.size]?=some (.cells Z 313 (0,0))):=zh ((setRow_other _ _ _ _ (by omega)).trans g4.out)
   have g5:Hid ((wn.setRow (w1.heap.size+1) (hcells ⟨a,a,b,c,d,e,f,g⟩)).heap[w1.heap.size+1]?=some (.cells (hcells ⟨a,a,b,c,d,e,f,g⟩) 281 (0,0))):=zh (setRow_heap _ _ _ _ _ _ g5.out)
   have hB:Hid (Below w.heap.size w (wn.setRow (w1.heap.size+1) (hcells ⟨a,a,b,c,d,e,f,g⟩))):=zh (below_setRow hB.out (by omega) _)
   generalize wn.setRow (w1.heap.size+1) (hcells ⟨a,a,b,c,d,e,f,g⟩)=wm at *
   have c0:wm.cell? ⟨w1.heap.size+1,0,none⟩=some (.int .u32 (a:Nat)):=cell_of_row wm _ 0 _ _ _ g5.out
   have c4:wm.cell? ⟨w1.heap.size+1,4,none⟩=some (.int .u32 (d:Nat)):=cell_of_row wm _ 4 _ _ _ g5.out
   have f0:wm.frozen? ⟨w1.heap.size+1,0,none⟩=false:=by simp[World.frozen?,g5.out]
   have f4:wm.frozen? ⟨w1.heap.size+1,4,none⟩=false:=by simp[World.frozen?,g5.out]
   go_wp2
   go_roundw
   case rel =>
    refine⟨k+1,by omega,by go_num,?_,?_,?_⟩
    ·show(World.setCell _ _ _).heap[w1.heap.size]?=_
     rw[Below.heap_setCell _ _ _ _ (by simp),Below.heap_setCell _ _ _ _ (by simp)]
     exact g4.out
    ·show(World.setCell _ _ _).heap[w1.heap.size+1]?=_
     rw[heap_setCell_same _ (heap_setCell_same _ g5.out),HN.out]
     have e1:((T:Int)+(U:Int)) % 4294967296=(((T+U) % 4294967296:Nat):Int):=by omega
     have e2:((d:Int)+(T:Int)) % 4294967296=(((d+T) % 4294967296:Nat):Int):=by omega
     rw[e1,e2]
     rfl
    ·exact(hB.out.grown (grown_setCell (grown_setCell (grown_refl _ _) ⟨w1.heap.size+1,0,none⟩ (.inl rfl) _) ⟨w1.heap.size+1,4,none⟩ (.inl rfl) _) hB.out.size (fun j e=>by cases e;show w.heap.size≤w1.heap.size+1;omega))
   case measure=>simp[intOf];omega
  ·have e64:k=64:=by omega
   rw[e64]at g5
   have HB:Hid (blockH H l=addH H (V 64)):=zh (by rw[HBL.out,HV.out.2.2.2])
   have rV:=HV.out.2.2.1 64
   generalize V 64=Y at *
   clear hk HV e64 g4 h4 h5 HB2 HWL HW32 HBL HZ HKZ HE HG
   go_wp2
   clear hlt
   have gh:Hid (wr.heap[bh]?=some (.cells (ucells 8 (addG H Y 0)) 281 (0,0))):=zh (by rw[addG_zero];exact(hB.out.block _ hbh).trans HH.out)
   have gy:Hid (wr.heap[w1.heap.size+1]?=some (.cells (ucells 8 (lg (hl Y))) 281 (0,0))):=g5
   have HW:Hid (w.grownBy wr (some bh)):=zh (by
    have:=hB.out
    exact⟨this.os,this.tape,this.output,this.size,fun i hi _=>this.block i hi⟩)
   clear g5 hB
   go_loopw [12,82] (fun _ i wr=>∃ k:Nat,k≤8∧i=.int .i64 k∧Hid (wr.heap[bh]?=some (.cells (ucells 8 (addG H Y k)) 281 (0,0)))∧Hid (wr.heap[w1.heap.size+1]?=some (.cells (ucells 8 (lg (hl Y))) 281 (0,0)))∧Hid (w.grownBy wr (some bh))) (fun _ i wr=>8 - (intOf i).toNat)
   case atStart=>exact⟨0,by omega,rfl,gh,gy,HW⟩
   case round =>
    obtain⟨k,hk,rfl,gh,gy,HW⟩:=hrel
    by_cases hlt:k < 8
    ·have r1:=hl_lt H32'.out k
     have r2:=hl_lt rV k
     have c1:wr.cell? ⟨bh,k,none⟩=some (.int .u32 (lg (hl H) k:Nat)):=by
      rw[cell_of_row wr _ k _ _ _ gh.out,ucells_get _ _ _ hlt]
      unfold addG
      rw[if_neg (by omega)]
     have c2:wr.cell? ⟨w1.heap.size+1,k,none⟩=some (.int .u32 (lg (hl Y) k:Nat)):=by
      rw[cell_of_row wr _ k _ _ _ gy.out,ucells_get _ _ _ hlt]
     have f1:wr.frozen? ⟨bh,k,none⟩=false:=by simp[World.frozen?,gh.out]
     have HS:Hid (upd (addG H Y k) k ((lg (hl H) k+lg (hl Y) k) % 4294967296)=addG H Y (k+1)):=zh (addG_succ H Y k)
     generalize lg (hl H) k=p at *
     generalize lg (hl Y) k=q at *
     go_wp2
     refine wp_region_quiet_tail 11 (fun w'=>∃ n,w'=wr.drewN n) (by kernel_rfl) (by kernel_rfl) ⟨1,rfl⟩ ?_
     simp only[List.take_succ_cons,List.take_zero,List.drop_succ_cons,List.drop_zero]
     repeat (go_big_quiet_step (fail))
     refine wpQuiet_nil ?_
     rintro _ ⟨nr,rfl⟩
     go_wp2
     go_roundw
     case rel =>
      refine⟨k+1,by omega,by go_num,?_,?_,?_⟩
      ·show(World.setCell _ _ _).heap[bh]?=_
       have g':(wr.drewN nr).heap[bh]?=some (.cells (ucells 8 (addG H Y k)) 281 (0,0)):=gh.out
       rw[heap_setCell_same _ g']
       have e1:((p:Int)+(q:Int)) % 4294967296=(((p+q) % 4294967296:Nat):Int):=by omega
       rw[e1,ucells_set _ _ _ _ hlt,HS.out]
      ·show(World.setCell _ _ _).heap[w1.heap.size+1]?=_
       rw[Below.heap_setCell _ _ _ _ (by simp;omega)]
       exact gy.out
      ·exact grown_setCell (grown_drewN HW.out _) _ (.inl rfl) _
     case measure=>simp[intOf];omega
    ·have e8:k=8:=by omega
     rw[e8]at gh
     go_wp2
     go_end0
     refine⟨rfl,?_,HW.out⟩
     rw[HB.out,← addG_all]
     exact gh.out
end Go.Proofs.YtjjiikeldpjafaaGreatDoor
