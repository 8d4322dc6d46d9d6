/- The map of package quorum from values to who votes for them: plain facts, and in memory. No condition but lengths. -/
import Derived.StringKeys
import Derived.Test.YtggdcnjaofflbaaGreatDoorMM12
import Derived.Maps.OwnIn
namespace Go.Proofs.YtggdcnjaofflbaaGreatDoor
open Go.RowKit Go.BigFrame Go.WideShapes
abbrev DW:=DataW Unit
def keyL (s:ByteArray):Lit:=.string s.data.toList
theorem keyL_lit (s:ByteArray):WideAt.IsKeyLit (keyL s):=by
 unfold keyL
 constructor <;> simp
theorem keyL_inj {s t:ByteArray}(h:keyL s=keyL t):s=t:=by
 unfold keyL at h
 injection h with h
 exact ByteArray.ext (Array.toList_inj.1 h)
def ReadsU (D:DW)(M:ByteArray→Nat):Prop:=Maps.IsMap D∧∀ s,Maps.has D (keyL s)=decide (M s≠0)∧D.atKey (keyL s) (.lit (.int .u64 0))=.lit (.int .u64 (M s:Nat))
theorem readsU_nil:ReadsU (.map []) (fun _=>0):=⟨Maps.isMap_empty,fun _=>⟨rfl,rfl⟩⟩
theorem readsU_put {D:DW}{M:ByteArray→Nat}(h:ReadsU D M)(s:ByteArray)(n:Nat)(hn:n≠0):ReadsU (D.put (keyL s) (.lit (.int .u64 (n:Nat)))) (fun t=>if t=s then n else M t):=by
 refine⟨h.1.put _ _,fun t=>?_⟩
 show Maps.has _ _=decide ((if t=s then n else M t)≠0)∧_=DataW.lit (.int .u64 ((if t=s then n else M t:Nat):Int))
 by_cases e:t=s
 ·subst e
  rw[if_pos rfl,Maps.has_put_same h.1 (keyL_lit _) _,Maps.atKey_put_same h.1 (keyL_lit _) _ _]
  exact⟨(decide_eq_true hn).symm,rfl⟩
 ·have hne:keyL t≠keyL s:=fun h=>e (keyL_inj h)
  rw[if_neg e]
  exact⟨(Maps.has_put_other hne _).trans (h.2 t).1,(Maps.atKey_put_other hne _ _).trans (h.2 t).2⟩
theorem mask_snoc (ks:List ByteArray)(num stp:Int)(val:ByteArray)(v:VoteP):∀(l:List VoteP) (m:Nat),maskV ks num stp val (l++[v]) m=if inSlot ks num stp v=true∧v.val=val then maskV ks num stp val l m ||| 2 ^ v.car.toNat else maskV ks num stp val l m
 | [],m=>rfl
 | u::l,m=>by
  rw[List.cons_append,maskV,maskV,mask_snoc ks num stp val v l]
theorem mask_filter (ks:List ByteArray)(num stp:Int)(val:ByteArray):∀(l:List VoteP) (m:Nat),maskV ks num stp val (l.filter (genV ks)) m=maskV ks num stp val l m
 | [],m=>rfl
 | v::l,m=>by
  cases h:genV ks v with
  | true=>rw[List.filter_cons_of_pos (by simpa using h),maskV,maskV,mask_filter ks num stp val l]
  | false =>
   rw[List.filter_cons_of_neg (by simp[h]),maskV,mask_filter ks num stp val l]
   have e:¬ (inSlot ks num stp v=true∧v.val=val):=by
    rintro⟨h',_⟩
    rw[(slot_facts h').1]at h
    cases h
   rw[if_neg e]
/-! ### In memory -/
def MapU (w:World)(B n:Nat)(D:DW):Prop:=w.ownsMap Tryz.prog 9 (plainElem Tryz.prog 117) B n D
theorem lawU:Maps.Keyed Tryz.prog 9:=Maps.string_keyed Tryz.underlying9
theorem zeroU (w:World):(zeroValue 117).run Tryz.prog w=.ok (.int .u64 0) w:=by kernel_rfl
theorem keyU {s:ByteArray}(h:s.size≤maxLen):keyOf Tryz.prog 9 (.string s)=some (keyL s):=Go.WideMaps.keyOf_string_mk Tryz.underlying9 h
theorem MapU.below {w w':World}{B n:Nat}{D:DW}(h:MapU w B n D)(hb:Below w.heap.size w w'):MapU w' B n D:=World.ownsMap.kept h (below_grownQ hb) (by simp)
theorem MapU.look {w:World}{B n:Nat}{D:DW}{M:ByteArray→Nat}(h:MapU w B n D)(hr:ReadsU D M)(s:ByteArray)(hs:s.size≤maxLen):(Instr.lookup 118 (.map (some B)) (.string s) false).run Tryz.prog w=.ok (.int .u64 (M s:Nat)) w:=by
 obtain⟨c,hrun,hat,_⟩:=World.ownsMap.lookup_int h lawU (t:=118) (e:=117) Tryz.underlying118 Tryz.underlying117 (zeroU w) (keyU hs)
 rw[(hr.2 s).2]at hat
 have e:c=(M s:Nat):=(Lit.int.inj (DataW.lit.inj hat)).2.symm
 rw[hrun,e]
theorem abide_map {α:Type}{row:Option Nat}{B b:Nat}(hb:b < B)(hr:some b≠row)(n:List α→Nat)(D:List α→DW):Abide row B (fun pre W=>MapU W b (n pre) (D pre)) :=
 ⟨fun pre A C h hs=>World.ownsMap.kept h hs.1 hr,
  fun pre A C r h hg hr'=>World.ownsMap.kept h hg (fun e=>by
  have e:=e.symm
  rcases hr' with hr' | ⟨k,o,hr',hk,_,_⟩
  ·rw[hr']at e;cases e
  ·rw[hr']at e;cases e;omega)⟩
end Go.Proofs.YtggdcnjaofflbaaGreatDoor
/- The iterator over the genuine votes of a list. The conditions: what the slices read as, lengths of keys, the table of constants. -/
namespace Go.Proofs.YtggdcnjaofflbaaGreatDoor
open Go.RowKit Go.BigFrame Go.Shelf
attribute [local go_sem] Oper.semAt_some
abbrev GV (ks:List ByteArray):={ v:VoteP // genV ks v=true }
def GV.enc {ks:List ByteArray}(x:GV ks):Array Value:=#[vagg x.1]
set_option maxHeartbeats 400000 in
theorem genuine_fn (ka:Option Addr)(kn kc:Nat)(a:Option Addr)(n c:Nat)(w:World) :
  Calls Tryz.prog 108 #[.agg #[.slice ka kn kc],.slice a n c] w fun e w'=>e=.returned (.func (.func 146) #[] #[.pointer (some ⟨w.heap.size+1,0,none⟩),.pointer (some ⟨w.heap.size,0,none⟩)])∧w'=(w.alloc (.cells #[.slice ka kn kc] 31)).alloc (.cells #[.slice a n c] 35):=by
 go_enter Tryz.func108,Tryz.ntmps108
 go_wp2
 go_ret
 exact⟨rfl,rfl⟩
def GenK (n₀ b1 b2:Nat)(A B:World):Prop:=Below n₀ A B∧B.heap[b1]?=A.heap[b1]?∧B.heap[b2]?=A.heap[b2]?
theorem GenK.trans {n₀ b1 b2:Nat}{A B C:World}(h:GenK n₀ b1 b2 A B)(h':GenK n₀ b1 b2 B C):GenK n₀ b1 b2 A C:=⟨h.1.trans h'.1,h'.2.1.trans h.2.1,h'.2.2.trans h.2.2⟩
set_option maxRecDepth 100000 in
set_option maxHeartbeats 2000000 in
theorem gen_iter (wd w0:World){kv x:Value}{ks:List ByteArray}{l:List VoteP}(hr:SS wd kv ks)(hks:∀ k∈ks,k.size≤1000)(hl:VS wd x l)(he:Env wd)(hg:3 < wd.heap.size)(hb:Below wd.heap.size wd w0)(b1 b2:Nat)
  (h1:w0.heap[b1]?=some (.cells #[x] 35 (0,0))) (h2:w0.heap[b2]?=some (.cells #[kv] 31 (0,0))) :
  Iter Tryz.prog 146 #[.pointer (some ⟨b1,0,none⟩),.pointer (some ⟨b2,0,none⟩)] (GV.enc (ks:=ks)) (GenK wd.heap.size b1 b2) none (fun xs=>xs.map (·.1)=l.filter (genV ks)) (fun _=>True) l.length w0:=by
 intro F m hF hro lb J Jx W hW hJ hJx hY h0
 obtain⟨a,cap,rfl,l1,l2,l3⟩:=hl.opened
 obtain⟨ka,kn,kc,rfl⟩:∃ a n c,kv=.slice a n c:=by obtain⟨a,c,h,_⟩:=hr.opened;exact⟨_,_,_,h⟩
 have hbl1:b1 < w0.heap.size:=(ltA h1)
 have hbl2:b2 < w0.heap.size:=(ltA h2)
 have H3:=zh l3
 have HR:=zh hr
 have HKS:=zh hks
 have HE:=zh he
 have HG:=zh hg
 have g1:=(hW.block b1 hbl1).trans h1
 have G2:=zh ((hW.block b2 hbl2).trans h2)
 have GB:=zh (hb.trans (hW.mono hb.size))
 clear l3 hr hks he hg h1 h2 hW hb
 unfold maxLen at l2
 obtain⟨n,hn⟩:∃ n,n=l.length:=⟨_,rfl⟩
 rw[← hn]at l1 hY g1
 have HN:=zh hn
 clear hn hl
 have c1:W.cell? ⟨b1,0,none⟩=some (.slice a n cap):=cell_of_row W _ 0 _ _ _ g1
 refine callsIn_of_wp Tryz.func146 rfl (hF.1 _) ?_ hro
 simp only[Tryz.ntmps146,List.size_toArray,List.length_cons,List.length_nil,Nat.reduceAdd,Nat.reduceSub,Array.replicate_succ,Array.replicate_zero,List.push_toArray,List.append_toArray,List.nil_append,List.cons_append]
 gi_wp2
 clear c1 g1
 gi_loopw [8] (fun i wr=>∃(k:Nat) (pre:List (GV ks)),k≤n∧i=.int .i64 k∧Hid (pre.map (·.1)=(l.take k).filter (genV ks))∧Hid (Below wd.heap.size wd wr)∧Hid (wr.heap[b2]?=some (.cells #[.slice ka kn kc] 31 (0,0)))∧J pre wr) (fun i wr=>n - (intOf i).toNat)
 case atStart =>
  exact⟨0,[],by omega,rfl,zh (by rw[List.take_zero];rfl),GB,G2,h0⟩
 case round =>
  clear GB G2
  obtain⟨k,pre,hk,rfl,hpre,hB,hC2,hJs⟩:=hrel
  by_cases hlt:k < n
  ·obtain⟨y,ey⟩:∃ y,l[k]?=some y:=⟨_,List.getElem?_eq_getElem (by rw[← HN.out];exact hlt)⟩
   obtain⟨b,off,rfl,hb,d⟩:=H3.out k y ey
   obtain⟨d0,d1,d2,d3,d4⟩:=d.keep hB.out hb
   have hs:=hB.out.size
   have hb2:=(ltA hC2.out)
   have hlen:pre.length < n:=by
    have e1:=congrArg List.length hpre.out
    rw[List.length_map]at e1
    have e2:=List.length_filter_le (genV ks) (l.take k)
    rw[List.length_take]at e2
    omega
   have HT:Hid ((l.take (k+1)).filter (genV ks)=(l.take k).filter (genV ks)++(if genV ks y=true then[y]else[])):=zh (by
    rw[List.take_add_one,ey,List.filter_append]
    cases h:genV ks y <;> simp[h])
   obtain⟨W2,hW2⟩:∃ W2,W2=wr.alloc (.cells #[.int .i64 y.car,.int .i64 y.num,.int .i64 y.stp,.string y.val,.string y.sl] 27):=⟨_,rfl⟩
   have HB2:Hid (Below wr.heap.size wr W2):=zh (by rw[hW2];exact br0.alloc (Nat.le_refl _) _)
   have HBd:=zh (hB.out.trans (HB2.out.mono hs))
   have HI:=zh (isGen_any (HR.out.below HBd.out) HKS.out y (HE.out.below HBd.out HG.out) (Nat.lt_of_lt_of_le HG.out HBd.out.size))
   have hvb:wr.heap.size < W2.heap.size:=by rw[hW2];simp
   have HV:Hid (∀ W,Below W2.heap.size W2 W→W.cell? ⟨wr.heap.size,0,none⟩=some (.int .i64 y.car)∧W.cell? ⟨wr.heap.size,1,none⟩=some (.int .i64 y.num)∧W.cell? ⟨wr.heap.size,2,none⟩=some (.int .i64 y.stp)∧W.cell? ⟨wr.heap.size,3,none⟩=some (.string y.val)∧W.cell? ⟨wr.heap.size,4,none⟩=some (.string y.sl)):=zh (fun W hW=>vcellsAt ((hW.block _ hvb).trans (by rw[hW2];exact heap_alloc_new wr _)))
   have hC3:W2.heap[b2]?=some (.cells #[.slice ka kn kc] 31 (0,0)):=(HB2.out.block b2 hb2).trans hC2.out
   have c2:wr.cell? ⟨b2,0,none⟩=some (.slice ka kn kc):=cell_of_row wr _ 0 _ _ _ hC2.out
   have HC3:=zh hC3
   have HW2:=zh hW2
   clear ey d hC3 hW2
   cases hgy:genV ks y with
   | false =>
    have HNX:Hid (pre.map (·.1)=(l.take (k+1)).filter (genV ks)):=zh (by rw[HT.out,hgy,hpre.out];simp)
    rw[hgy]at HI
    clear hgy HT
    obtain⟨vc,vn,vs,vv,vl⟩:=y
    simp only at d0 d1 d2 d3 d4 HI HW2 HV
    gi_wp2_with (refine⟨hF.1 _,fun h=>(by rw[hF.2.1]at h;cases h),?_⟩;rw[← HW2.out];refine(callsIn_of_calls hF HI.out).mono ?_;rintro e w3 ⟨rfl,hb3⟩)
    refine⟨fun _ h=>(by cases h),?_⟩
    gi_wp2
    go_roundw
    case rel =>
     have hB3:=HB2.out.trans (hb3.mono HB2.out.size)
     exact⟨k+1,pre,by omega,by go_num,HNX,zh (hB.out.trans (hB3.mono hs)),zh ((hB3.block b2 hb2).trans hC2.out),hJ _ _ _ hJs ⟨below_grownQ hB3,fun b hb=>by cases hb⟩⟩
    case measure=>simp[intOf];omega
   | true =>
    have HNX:Hid ((pre++[(⟨y,hgy⟩:GV ks)]).map (·.1)=(l.take (k+1)).filter (genV ks)):=zh (by rw[HT.out,hgy,List.map_append,hpre.out];simp)
    obtain⟨z,hz⟩:∃ z:GV ks,z=⟨y,hgy⟩:=⟨_,rfl⟩
    rw[← hz]at HNX
    have hzy:z.1=y:=by rw[hz]
    rw[hgy]at HI
    have HY:=zh (fun W hJW=>hY pre z W hJW hlen)
    clear hgy HT hY hz
    obtain⟨zv,hzv⟩:=z
    simp only at hzy
    subst hzy
    obtain⟨vc,vn,vs,vv,vl⟩:=zv
    simp only at d0 d1 d2 d3 d4 HI HW2 HV HY
    gi_wp2_with (refine⟨hF.1 _,fun h=>(by rw[hF.2.1]at h;cases h),?_⟩;rw[← HW2.out];refine(callsIn_of_calls hF HI.out).mono ?_;rintro e w3 ⟨rfl,hb3⟩;have hB3:=zh (HB2.out.trans (hb3.mono HB2.out.size));obtain⟨f0,f1,f2,f3,f4⟩:=HV.out w3 hb3;obtain⟨fn,tmps,assign,body,hy,hRR⟩:=HY.out w3 (hJ _ _ _ hJs ⟨below_grownQ hB3.out,fun b hb=>by cases hb⟩);dsimp only [GV.enc,vagg]at hy;clear hb3)
    refine⟨fun h=>(by rw[hF.2.1]at h;cases h),hRR.mono ?_⟩
    have hC4:Hid (w3.heap[b2]?=some (.cells #[.slice ka kn kc] 31 (0,0))):=zh ((hB3.out.block b2 hb2).trans hC2.out)
    have hB4:=zh (hB.out.trans (hB3.out.mono hs))
    rintro e W4 (⟨rfl,hJ4,hk4⟩ | ⟨rfl,hJx4⟩)
    ·gi_wp2
     go_roundw
     case rel=>exact⟨k+1,_,by omega,by go_num,HNX,zh (hB4.out.trans hk4.1),zh (hk4.2.2.trans hC4.out),hJ4⟩
     case measure=>simp[intOf];omega
    ·gi_wp2
     refine bodyPost_ret (results_none rfl _ _ _) rfl ?_
     exact⟨⟨_,rfl⟩,.inr ⟨_,trivial,hJx4⟩⟩
  ·obtain rfl:k=n:=by omega
   gi_wp2
   go_end0
   refine⟨⟨_,rfl⟩,.inl ⟨pre,?_,hJs⟩⟩
   rw[hpre.out,HN.out,List.take_length]
end Go.Proofs.YtggdcnjaofflbaaGreatDoor
/- Walk of package quorum: votes. The conditions: what the slices read as, lengths of keys, the table of constants. -/
namespace Go.Proofs.YtggdcnjaofflbaaGreatDoor
open Go.RowKit Go.BigFrame Go.Shelf
attribute [local go_sem] Oper.semAt_some
theorem at6 (w:World)(o0 o1 o2 o3 o4 o5:Obj)(W:World)(hW:W=((((((w.alloc o0).alloc o1).alloc o2).alloc o3).alloc o4).alloc o5)):Below w.heap.size w W∧W.heap.size=w.heap.size+6 ∧
  W.heap[w.heap.size]?=some o0∧W.heap[w.heap.size+1]?=some o1∧W.heap[w.heap.size+1+1]?=some o2∧W.heap[w.heap.size+1+1+1]?=some o3∧W.heap[w.heap.size+1+1+1+1]?=some o4∧W.heap[w.heap.size+1+1+1+1+1]?=some o5:=by
 obtain⟨h0,h1,h2,h3,h4,h5,h6⟩:=at5 w o0 o1 o2 o3 o4
 generalize (((((w.alloc o0).alloc o1).alloc o2).alloc o3).alloc o4)=V at *
 subst hW
 have e:=heap_alloc_new V o5
 rw[h1]at e
 exact⟨h0.alloc h0.size _,by rw[World.size_alloc,h1],(Below.heap_alloc _ _ _ (by omega)).trans h2,(Below.heap_alloc _ _ _ (by omega)).trans h3,(Below.heap_alloc _ _ _ (by omega)).trans h4,(Below.heap_alloc _ _ _ (by omega)).trans h5,(Below.heap_alloc _ _ _ (by omega)).trans h6,e⟩
theorem ones_ne {m i:Nat}:m ||| 2 ^ i≠0:=by
 intro e
 have h:=congrArg (Nat.testBit · i) e
 simp at h
theorem maskV_step {ks:List ByteArray}{num stp:Int}{L:List VoteP}{v:VoteP}(hin:inSlot ks num stp v=true):(fun s=>maskV ks num stp s (L++[v]) 0)=fun t=>if t=v.val then maskV ks num stp v.val L 0 ||| 2 ^ v.car.toNat else maskV ks num stp t L 0:=by
 funext t
 rw[mask_snoc]
 by_cases e:t=v.val
 ·rw[if_pos e,if_pos ⟨hin,e.symm⟩,e]
 ·rw[if_neg e,if_neg (fun h=>e h.2.symm)]
theorem maskV_skip {ks:List ByteArray}{num stp:Int}{L:List VoteP}{v:VoteP}(hin:inSlot ks num stp v=false):(fun s=>maskV ks num stp s (L++[v]) 0)=fun s=>maskV ks num stp s L 0:=by
 funext t
 rw[mask_snoc,if_neg (fun h=>by rw[hin]at h;cases h.1)]
def VotesAt (w:World)(ks:List ByteArray)(num stp:Int)(kv x:Value)(L:List VoteP)(W:World):Prop :=
 (∃ n D,MapU W (w.heap.size+1+1) n D∧(ReadsU D (fun s=>maskV ks num stp s L 0)∧n≤L.length))∧(W.heap[w.heap.size+1]?=some (.cells #[.int .i64 num,.int .i64 stp] 25 (0,0)) ∧
  (W.heap[w.heap.size+1+1+1]?=some (.cells #[.map (some (w.heap.size+1+1))] 118 (0,0))∧(W.heap[w.heap.size+1+1+1+1]?=some (.cells #[kv] 31 (0,0))∧(W.heap[w.heap.size+1+1+1+1+1]?=some (.cells #[x] 35 (0,0))∧Below w.heap.size w W))))
theorem votesAt_abide (w:World)(ks:List ByteArray)(num stp:Int)(kv x:Value)(B:Nat)(hB:w.heap.size+6≤B):Abide (α:=GV ks) none B (fun pre W=>VotesAt w ks num stp kv x (pre.map (·.1)) W) :=
 abide_and (abide_ex fun n=>abide_ex fun D=>abide_and (abide_map (by omega) (by simp) (fun _=>n) (fun _=>D)) (abide_pure _ _ _)) (abide_and (abide_cells (fun _=>.cells _ _ _) (fun _=>rfl) (by simp)) (abide_and (abide_cells (fun _=>.cells _ _ _) (fun _=>rfl) (by simp)) (abide_and (abide_cells (fun _=>.cells _ _ _) (fun _=>rfl) (by simp)) (abide_and (abide_cells (fun _=>.cells _ _ _) (fun _=>rfl) (by simp)) (abide_below (by omega) (Nat.le_refl _) (fun q e=>by cases e))))))
set_option maxHeartbeats 4000000 in
set_option maxRecDepth 100000 in
theorem votes_any {w:World}{kv x:Value}{ks:List ByteArray}{l:List VoteP}(hr:SS w kv ks)(hks:∀ k∈ks,k.size≤1000)(hl:VS w x l)(num stp:Int)(he:Env w)(hg:3 < w.heap.size) :
  Calls Tryz.prog 77 #[.agg #[kv],.agg #[.int .i64 num,.int .i64 stp],x] w fun e w'=>∃ B n D,e=.returned (.map (some B))∧MapU w' B n D∧ReadsU D (fun s=>maskV ks num stp s l 0)∧w.heap.size≤B∧Below w.heap.size w w':=by
 obtain⟨ka,kn,kc,rfl⟩:∃ a n c,kv=.slice a n c:=by obtain⟨a,c,h,_⟩:=hr.opened;exact⟨_,_,_,h⟩
 obtain⟨a,cap,rfl,l1,l2,_⟩:=hl.opened
 unfold maxLen at l2
 obtain⟨n,hn⟩:∃ n,n=l.length:=⟨_,rfl⟩
 rw[← hn]at l1
 have HR:=zh hr
 have HKS:=zh hks
 have HL:=zh hl
 have HE:=zh he
 have HG:=zh hg
 have hnl:Hid (n=l.length):=zh hn
 clear hr hks hl he hg
 rw[← hn]at HL ⊢
 clear hn
 have hmm:=@run_makeMap Tryz.prog
 refine calls_of_callsIn (n:=8) Wide.wide (callsIn_of_wp_marks Tryz.func77 rfl trivial ?_)
 simp only[Tryz.ntmps77,List.size_toArray,List.length_cons,List.length_nil,Nat.reduceAdd,Nat.reduceSub,Array.replicate_succ,Array.replicate_zero,List.push_toArray,List.append_toArray,List.nil_append,List.cons_append]
 refine wpIn_wide.2 ?_
 go_wp2_with (go_at_call 108;refine(genuine_fn _ _ _ _ _ _ _).mono ?_;rintro e w1 ⟨rfl,rfl⟩)
 obtain⟨W6,hW6⟩:∃ W6,W6=((((((w.alloc (.cells #[.slice ka kn kc] 31)).alloc (.cells #[.int .i64 num,.int .i64 stp] 25)).alloc (.map #[] 0)).alloc (.cells #[.map (some (w.heap.size+1+1))] 118)).alloc (.cells #[.slice ka kn kc] 31)).alloc (.cells #[.slice a n cap] 35)):=⟨_,rfl⟩
 rw[← hW6]
 obtain⟨h0,h1,h2,h3,h4,h5,h6,h7⟩:=at6 w _ _ _ _ _ _ W6 hW6
 have HM6:Hid (MapU W6 (w.heap.size+1+1) 0 (.map [])):=zh (by
  have e:=World.ownsMap_made ((w.alloc (.cells #[.slice ka kn kc] 31)).alloc (.cells #[.int .i64 num,.int .i64 stp] 25)) Tryz.prog 9 (plainElem (H:=Unit) Tryz.prog 117)
  rw[World.size_alloc,World.size_alloc]at e
  rw[hW6]
  exact World.ownsMap.kept (World.ownsMap.kept (World.ownsMap.kept e (World.grownBy_alloc _ _ none) (by simp)) (World.grownBy_alloc _ _ none) (by simp)) (World.grownBy_alloc _ _ none) (by simp))
 have HV6:Hid (VotesAt w ks num stp (.slice ka kn kc) (.slice a n cap) [] W6):=zh ⟨⟨0,_,HM6.out,readsU_nil,Nat.le_refl _⟩,h3,h5,h6,h7,h0⟩
 have hs6:w.heap.size+6≤W6.heap.size:=by omega
 have HI6:=zh (gen_iter w W6 HR.out HKS.out HL.out HE.out HG.out h0 (w.heap.size+1+1+1+1+1) (w.heap.size+1+1+1+1) h7 h6)
 clear h0 h1 h2 h3 h4 h5 h6 h7 HM6 hW6 hmm
 refine(wpIn_wide (n:=8)).1 ?_
 refine wpIn_rangeA (n:=8) Wide.wide rfl (gf:=146) (lb:=#[.pointer (some ⟨w.heap.size+1+1+1+1+1,0,none⟩),.pointer (some ⟨w.heap.size+1+1+1+1,0,none⟩)]) ?ev (fun args w=>?enter) HI6.out br0 (fun x=>rfl) (fun q e=>by cases e) (fun h h'=>h.trans h') (fun W l o o' h1 h2 h3 h4=>?kb)
  (fun pre W=>VotesAt w ks num stp (.slice ka kn kc) (.slice a n cap) (pre.map (·.1)) W) (fun _ _ _=>False) (votesAt_abide w ks num stp _ _ _ hs6) (fun _=>abide_false _ _) HV6.out
  (fun a x a' W=>∃ q,W.heap[q]?=some (.cells #[.int .i64 x.1.car,.int .i64 x.1.num,.int .i64 x.1.stp,.string x.1.val,.string x.1.sl] 27 (0,0))∧a'=⟨(a.tmps.setIfInBounds 13 (vagg x.1)).setIfInBounds 8 (.pointer (some ⟨q,0,none⟩)),[]⟩)
  (fun x a' W l o o' h1 h2 h3 h4=>?a1) (fun A C h1 h2=>?kg) (fun l pre x W K hI hK=>?assign) (fun lr pre x a' W hI hlen hA=>?body) (fun Dm xs W hDm hS hI hDd=>?done) (fun Dm c pre W hD hS hI=>hI.elim)
 case a1 =>
  obtain⟨q,hq,ha⟩:=h1
  exact⟨q,(World.putObj_heap_other (fun e=>by subst e;rw[h3]at hq;cases hq;cases h4)).trans hq,ha⟩
 case kg=>exact⟨br0.grown h2 (by omega) (fun j e=>by cases e),h2.block _ (by omega) (by simp),h2.block _ (by omega) (by simp)⟩
 case assign =>
  unfold GV.enc vagg at *
  simp only[List.zip_toArray,List.zip_cons_cons,List.zip_nil_right,List.foldl_toArray',List.foldl_cons,List.foldl_nil,List.setIfInBounds_toArray,List.set_cons_succ,List.set_cons_zero]
  gi_wp2
  exact hK _ _ ⟨W.heap.size,heap_alloc_new _ _,rfl⟩ (World.grownBy_alloc _ _ _)
 case ev=>rfl
 case enter=>kernel_rfl
 case kb=>exact⟨br0.grown (grownBy_putObj' W l o') (by have:=(ltA h2);omega) (fun j e=>by cases e;omega),World.putObj_heap_other (fun e=>by omega),World.putObj_heap_other (fun e=>by omega)⟩
 case body =>
  obtain⟨q,hq,rfl⟩:=hA
  obtain⟨⟨m,D,g1,g2,g3⟩,g4,g5,g6,g7,g8⟩:=hI
  obtain⟨v,hv⟩:=x
  simp only at hq
  obtain⟨v0,v1,v2,v3,v4⟩:=vcellsAt hq
  have c1:W.cell? ⟨w.heap.size+1,0,none⟩=some (.int .i64 num):=cell_of_row W _ 0 _ _ _ g4
  have c2:W.cell? ⟨w.heap.size+1,1,none⟩=some (.int .i64 stp):=cell_of_row W _ 1 _ _ _ g4
  have c3:W.cell? ⟨w.heap.size+1+1+1,0,none⟩=some (.map (some (w.heap.size+1+1))):=cell_of_row W _ 0 _ _ _ g5
  have hgf:=gen_facts hv
  have hsW:w.heap.size+6≤W.heap.size:=by have:=(ltA g7);omega
  have hin:inSlot ks num stp v=decide (v.num=num∧v.stp=stp):=by unfold inSlot;rw[hv,Bool.true_and]
  have hs:=fun W=>eqlSlot v.num v.stp num stp W
  have G1:=zh g1
  have G2:=zh (And.intro g2 g3)
  have GK:=zh (And.intro g4 (And.intro g5 (And.intro g6 (And.intro g7 g8))))
  have hmlen:(pre.map (·.1)).length < n:=by rw[List.length_map,hnl.out];exact hlen
  clear g1 g2 g3 g4 g5 g6 g7 g8 hq
  obtain⟨L,hL⟩:∃ L,L=pre.map (·.1):=⟨_,rfl⟩
  have HMP:Hid (((pre++[(⟨v,hv⟩:GV ks)]).map (·.1))=L++[v]):=zh (by rw[List.map_append,hL];rfl)
  rw[← hL]at hmlen G2
  clear hL
  obtain⟨X,hX⟩:∃ X:GV ks,X=⟨v,hv⟩:=⟨_,rfl⟩
  rw[← hX]at HMP ⊢
  have hXv:X.1=v:=by rw[hX]
  rw[hXv]
  clear hX hXv
  cases hD:decide (v.num=num∧v.stp=stp)with
  | false =>
   rw[hD]at hin hs
   have HSK:=zh (maskV_skip (L:=L) hin)
   clear hin hD hgf
   obtain⟨vc,vn,vs,vv,vl⟩:=v
   unfold vagg
   simp only at v0 v1 v2 v3 v4 hs
   simp only[List.setIfInBounds_toArray,List.set_cons_succ,List.set_cons_zero]
   gi_wp2
   refine⟨⟨Nat.le_refl _,fun q o _ hq _=>hq⟩,⟨Below.refl _ _,rfl,rfl⟩,?_⟩
   show VotesAt _ _ _ _ _ _ (List.map _ _) _
   rw[HMP.out]
   exact⟨⟨m,D,G1.out,by rw[HSK.out];exact G2.out.1,by rw[List.length_append];have:=G2.out.2;omega⟩,GK.out⟩
  | true =>
   rw[hD]at hin hs
   have HSK:=zh (maskV_step (L:=L) hin)
   clear hin hD
   obtain⟨vc,vn,vs,vv,vl⟩:=v
   unfold vagg
   simp only at v0 v1 v2 v3 v4 hs hgf HSK
   obtain⟨c,hc⟩:=Int.eq_ofNat_of_zero_le hgf.1.1
   subst hc
   have hc8:c < 8:=by omega
   simp only[List.setIfInBounds_toArray,List.set_cons_succ,List.set_cons_zero]
   gi_wp2
   have hlk:∀ q,(Instr.lookup 118 (.map (some (w.heap.size+1+1))) (.string vv) false).run Tryz.prog (W.drewN q)=.ok (.int .u64 (maskV ks num stp vv L 0:Nat)) (W.drewN q):=fun q=>MapU.look (World.ownsMap.kept G1.out (below_grownQ (below_drewN br0 q)) (by simp)) G2.out.1 vv (by rw[hgf.2.2.2.2];decide)
   have hM:=mask_lt ks num stp vv L 0 (by decide)
   obtain⟨M,hMe⟩:∃ M,M=maskV ks num stp vv L 0:=⟨_,rfl⟩
   rw[← hMe]at hlk hM HSK
   clear hMe
   refine wpIn_region_quiet_tail 8 (fun w'=>∃ q,w'=W.drewN q) (Wide.inRound Wide.wide _) (by kernel_rfl) (by kernel_rfl) ⟨1,rfl⟩ ?_
   simp only[List.take_succ_cons,List.take_zero,List.drop_succ_cons,List.drop_zero]
   repeat (go_big_quiet_step (fail))
   refine wpQuiet_nil ?_
   rintro _ ⟨nq,rfl⟩
   have hor:bits BinOp.or IntKind.u64 (M:Int) (IntKind.u64.wrap (2 ^ c))=((M ||| 2 ^ c:Nat):Int):=by
    have hp:(2:Nat) ^ c < 256:=Nat.lt_of_lt_of_le (Nat.pow_lt_pow_right (by decide) hc8) (by decide)
    have e:((2:Int) ^ c)=((2 ^ c:Nat):Int):=by rw[Int.natCast_pow];rfl
    rw[e]
    generalize 2 ^ c=P at *
    rw[IntKind.wrap_u64,show((P:Int) % 18446744073709551616)=(P:Int)from by omega]
    exact u64_or_nat M P (by omega) (by omega)
   rw[hor]
   have hO:=or_lt256 hM hc8
   obtain⟨N,hN⟩:∃ N,N=M ||| 2 ^ c:=⟨_,rfl⟩
   have HN0:Hid (N≠0):=zh (by rw[hN];exact ones_ne)
   have HSK2:Hid ((fun s=>maskV ks num stp s (L++[⟨(c:Int),vn,vs,vv,vl⟩]) 0)=fun t=>if t=vv then N else maskV ks num stp t L 0):=zh (by rw[HSK.out,hN];rfl)
   rw[← hN]at hO ⊢
   clear hN hor HSK hs hlk v0 v1 v2 v3 v4 c1 c2 c3
   have HK:=zh (keyU (s:=vv) (by rw[hgf.2.2.2.2];decide))
   have HV:=zh (plainElem_int (H:=Unit) Tryz.underlying117 (a:=((N:Nat):Int)) (q:=.u64) (by
    exact WalkArith.wf_u64 ⟨by omega,by omega⟩))
   have HMW:Hid (MapU (W.drewN nq) (w.heap.size+1+1) m D):=zh (World.ownsMap.kept G1.out (below_grownQ (below_drewN br0 nq)) (by simp))
   have hm63:m < maxLen:=by have:=G2.out.2;unfold maxLen;omega
   gi_wp2_with (gi_at_mapUpdate;refine wpListIn_mapUpdate_own _ rfl _ _ _ 118 rfl 9 117 lawU Tryz.underlying118 _ (w.heap.size+1+1) m D rfl HMW.out hm63 _ _ _ rfl rfl HK.out _ [] HV.out ?_;intro w1 hown1 hgrow1)
   have hkeep:∀(k:Nat) (o:Obj),W.heap[k]?=some o→k≠w.heap.size+1+1→w1.heap[k]?=some o:=fun k o hk hne=>(hgrow1.block k (by show k < (W.drewN nq).heap.size;exact(ltA hk)) (fun e=>hne (Option.some.inj e))).trans hk
   have hbw:Below w.heap.size w w1:=(below_drewN GK.out.2.2.2.2 nq).grown hgrow1 (by show w.heap.size≤W.heap.size;omega) (fun j e=>by cases e;omega)
   have hbW:Below w.heap.size W w1:=(below_drewN br0 nq).grown hgrow1 (by show w.heap.size≤W.heap.size;omega) (fun j e=>by cases e;omega)
   refine⟨⟨hbW.size,fun k o hk ho _=>hkeep k o ho (by omega)⟩,⟨hbW,(hkeep _ _ GK.out.2.2.2.1 (by omega)).trans GK.out.2.2.2.1.symm,(hkeep _ _ GK.out.2.2.1 (by omega)).trans GK.out.2.2.1.symm⟩,?_⟩
   show VotesAt _ _ _ _ _ _ (List.map _ _) _
   rw[HMP.out]
   refine⟨⟨m+1,_,hown1,?_,by rw[List.length_append];have:=G2.out.2;simp only[List.length_cons,List.length_nil];omega⟩,hkeep _ _ GK.out.1 (by omega),hkeep _ _ GK.out.2.1 (by omega),hkeep _ _ GK.out.2.2.1 (by omega),hkeep _ _ GK.out.2.2.2.1 (by omega),hbw⟩
   rw[HSK2.out]
   exact readsU_put G2.out.1 vv N HN0.out
 case done =>
  obtain⟨⟨m,D,g1,g2,_⟩,_,g5,g6,g7,g8⟩:=hI
  have c3:W.cell? ⟨w.heap.size+1+1+1,0,none⟩=some (.map (some (w.heap.size+1+1))):=cell_of_row W _ 0 _ _ _ g5
  have G1:=zh g1
  have G8:=zh g8
  have HDd:=zh hDd
  have HRD:Hid (ReadsU D (fun s=>maskV ks num stp s l 0)):=zh (by
   have e:(fun s=>maskV ks num stp s l 0)=fun s=>maskV ks num stp s (xs.map (·.1)) 0:=by
    funext s
    rw[hS,mask_filter]
   rw[e]
   exact g2)
  have hDm':w.heap.size+6≤Dm:=by omega
  clear hS g1 g2 g5 g6 g7 g8 hDd hDm
  show Exit.inBlock _ _ _ (Act.mk _ [{ target:=.collected Dm,args:=#[] }]) W
  go_wp2
  have hM:Marks (w.heap.size+6) [Dm] W:=⟨by simp,fun D' hD=>by
   rw[List.mem_singleton]at hD
   subst hD
   exact⟨hDm',HDd.out⟩⟩
  refine leaves_marks (B:=w.heap.size+6) [Dm] W hM (fun W'' hT=>⟨_,results_tmp rfl _ _ _,w.heap.size+1+1,m,D,rfl,?_,HRD.out,by omega,G8.out.trans (hT.below.mono (by omega))⟩)
  obtain⟨es,clock,hb,F,hn,hD⟩:=G1.out
  exact⟨es,clock,(hT.old _ (by omega)).trans hb,F,hn,hD⟩
end Go.Proofs.YtggdcnjaofflbaaGreatDoor
/- Owned slices of votes; walks of package quorum: isPool, Prove. The conditions: what the slices read as, the tables of constants. -/
namespace Go.Proofs.YtggdcnjaofflbaaGreatDoor
open Go.RowKit Go.BigFrame
def OwnV (w:World)(base:Nat)(v:Value)(l:List VoteP):Prop:=OwnE w base 27 5 v (l.map vcells)
theorem vcells_len (l:List VoteP):∀ c∈l.map vcells,c.length=5:=by
 intro c hc
 obtain⟨v,_,rfl⟩:=List.mem_map.1 hc
 rfl
theorem OwnV.vs {w:World}{base:Nat}{v:Value}{l:List VoteP}(h:OwnV w base v l):VS w v l:=OwnE.slice h (vcells_len l)
theorem OwnV.form {w:World}{base:Nat}{v:Value}{l:List VoteP}(h:OwnV w base v l):∃ a cap,v=.slice a l.length cap:=by
 obtain⟨a,c,h⟩:=OwnE.form h
 rw[List.length_map]at h
 exact⟨a,c,h⟩
theorem infoVote3:(Tryz.prog.info? 27).map (fun i=>(i.zero,i.size,i.bytes))=some (some (.agg #[.int .i64 0,.int .i64 0,.int .i64 0,.string ⟨#[]⟩,.string ⟨#[]⟩]),5,56):=by kernel_rfl
section
variable {ops:Array Oper} {rest:List Oper} {o:Oper} {a:Act} {w:World} {Q:Exit→Act→World→Prop}
theorem wpList_append_vote (s x:Operand)(base:Nat)(v:Value)(l:List VoteP)(y:VoteP)(b:Nat)(fr:Nat × Nat)(hown:OwnV w base v l)(hlen:l.length≤1000000)(hbase:base≤w.heap.size)(hb:w.heap[b]?=some (.cells #[.int .i64 y.car,.int .i64 y.num,.int .i64 y.stp,.string y.val,.string y.sl] 27 fr))
  (hgd:o.guard=none) (ho:o.op=.call { callee:=.builtin .append,args:=#[s,x],argTypes:=#[35,35] }) (hs:a.eval s=v) (hx:a.eval x=.slice (some ⟨b,0,none⟩) 1 1)
  (h:∀ v' w',OwnV w' base v' (l++[y])→w.grownBy w' v.ownBlock→wpList Tryz.prog ops Q rest (a.put o.dst v') w'):wpList Tryz.prog ops Q (o::rest) a w :=
 wpList_append_el 35 27 5 56 _ (by kernel_rfl) infoVote3 rfl (by decide) hgd s x ho base v (l.map vcells) hs hown b (vcells y) rfl (fun u hu=>by simp only[vcells,List.mem_cons,List.not_mem_nil,or_false]at hu;rcases hu with rfl | rfl | rfl | rfl | rfl <;> rfl) hx fr hb
  (by rw[List.length_map];unfold maxLen;omega) (by rw[List.length_map];omega) hbase (fun v' w' h1 h2=>h v' w' (by unfold OwnV;rw[List.map_append];exact h1) h2)
end
set_option maxHeartbeats 1000000 in
theorem isPool_any {w:World}{kv x:Value}{ks:List ByteArray}{l:List VoteP}(hr:SS w kv ks)(hl:VS w x l) :
  Calls Tryz.prog 76 #[.agg #[kv],x] w fun e w'=>e=.returned (.bool (isPool ks l))∧Below w.heap.size w w':=by
 obtain⟨ka,kn,kc,rfl⟩:∃ a n c,kv=.slice a n c:=by obtain⟨a,c,h,_⟩:=hr.opened;exact⟨_,_,_,h⟩
 obtain⟨a,cap,rfl,l1,l2,_⟩:=hl.opened
 have HB1:Hid (Below w.heap.size w (w.alloc (.cells #[.slice ka kn kc] 31))):=zh (br0.alloc (Nat.le_refl _) _)
 have HV:=zh (qvalid_any (hr.below HB1.out))
 have HR:Hid (isPool ks l=(validC ks && decide ((l.length:Int)≤60))):=zh (by
  unfold isPool
  refine congrArg _ ?_
  rw[Bool.eq_iff_iff,decide_eq_true_iff,decide_eq_true_iff]
  omega)
 generalize isPool ks l=R at *
 generalize validC ks=V at *
 generalize l.length=n at *
 clear hr hl
 cases V
 all_goals
  go_enter Tryz.func76,Tryz.ntmps76
  go_wp2_with (go_at_call 53;refine HV.out.mono ?_;rintro e w1 ⟨rfl,hb1⟩)
  go_ret
  exact⟨ret_bool HR.out.symm,q_next HB1.out hb1⟩
/-! ### Prove -/
theorem proveV_no1 {ks:List ByteArray}{num stp:Int}{val:ByteArray}{l:List VoteP}(h:isPool ks l=false):proveV ks num stp val l=none:=by
 unfold proveV
 rw[if_neg (fun h'=>by rw[h]at h';cases h'.1)]
theorem proveV_no2 {ks:List ByteArray}{num stp:Int}{val:ByteArray}{l:List VoteP}(h:(whoL ks num stp val l).length < enoughC ks):proveV ks num stp val l=none:=by
 unfold proveV
 rw[if_neg (fun h'=>by omega)]
theorem proveV_yes {ks:List ByteArray}{num stp:Int}{val:ByteArray}{l:List VoteP}(h:isPool ks l=true)(h':enoughC ks≤(whoL ks num stp val l).length):proveV ks num stp val l=some (((whoL ks num stp val l).take (enoughC ks)).map (mkV ks num stp val)):=by
 unfold proveV
 rw[if_pos ⟨h,h'⟩]
def ProveIs (w:World)(o:Option (List VoteP))(e:Ending)(w':World):Prop:=∃ v,e=.returned (.tuple #[v,.bool o.isSome])∧VS w' v (o.getD [])∧Below w.heap.size w w'
theorem proveIs_none {w w':World}{e:Ending}(h:e=.returned (.tuple #[.slice none 0 0,.bool false]))(hb:Below w.heap.size w w'):ProveIs w none e w':=⟨_,h,VS.nil _,hb⟩
end Go.Proofs.YtggdcnjaofflbaaGreatDoor
/- Walk of the reference: Pool. The conditions: what the slice reads as, the integers' ranges. -/
namespace Go.Proofs.YtggdcnjaofflbaaGreatDoor
open Go.RowKit Go.BigFrame
def Int4 (q:R4):Prop:=I64 q.l∧I64 q.r∧I64 q.lo∧I64 q.hi
theorem RAt.keepQ {B:Nat}{w w':World}{b o:Nat}{v:R4}(h:RAt w b o v)(hb:Below B w w')(hlt:b < B):RAt w' b o v :=
 ⟨cell_keepB hb hlt h.1,cell_keepB hb hlt h.2.1,cell_keepB hb hlt h.2.2.1,cell_keepB hb hlt h.2.2.2⟩
def PlAt (w:World)(v:Value)(l:List VoteP)(W:World):Prop:=Below w.heap.size w W∧OwnV W w.heap.size v l
theorem PlAt.far {w:World}{v:Value}{l:List VoteP}{W W':World}(h:PlAt w v l W)(hb:Below W.heap.size W W'):PlAt w v l W':=⟨q_next h.1 hb,OwnE.far h.2 hb (Nat.le_refl _)⟩
theorem four_at {W:World}{b:Nat}{c0 c1 c2 c3:Value}{T:TypeId}(h:W.heap[b]?=some (.cells #[c0,c1,c2,c3] T (0,0))):W.cell? ⟨b,0,none⟩=some c0∧W.cell? ⟨b,1,none⟩=some c1∧W.cell? ⟨b,2,none⟩=some c2∧W.cell? ⟨b,3,none⟩=some c3 :=
 ⟨cell_of_row W _ 0 _ _ _ h,cell_of_row W _ 1 _ _ _ h,cell_of_row W _ 2 _ _ _ h,cell_of_row W _ 3 _ _ _ h⟩
theorem wrap64_I64 (x:Int):I64 (wrap64 x):=by
 unfold I64 wrap64
 omega
set_option maxHeartbeats 4000000 in
set_option maxRecDepth 100000 in
theorem pool_own {w:World}{x:Value}{xs:List R4}(hx:RS w x xs)(hi:∀ q∈xs,Int4 q) :
  Calls Tryz.prog 15 #[x] w fun e w'=>∃ v,e=.returned v∧OwnV w' w.heap.size v (poolN xs)∧Below w.heap.size w w':=by
 obtain⟨xa,xc,rfl,hxl,hxm,hx3⟩:=hx.opened
 unfold maxLen at hxm
 have HI:=zh hi
 have HX3:=zh hx3
 have HNX:=zh (fun k (h:xs.length≤k∨30≤k)=>poolN_done (xs:=xs) h)
 obtain⟨n,hn⟩:∃ n,n=xs.length:=⟨_,rfl⟩
 rw[← hn]at HNX ⊢
 rw[← hn]at hxl
 have hn9:n≤9223372036854775807:=by omega
 have HN:=zh hn
 clear hx hi hx3 hn hxl hxm
 go_enter Tryz.func15,Tryz.ntmps15
 go_wp2
 go_loopw [3,4] (fun v i wr=>∃ k:Nat,k≤30∧k≤n∧i=.int .i64 k∧Hid (PlAt w v (poolN (xs.take k)) wr)) (fun _ i _=>30 - (intOf i).toNat)
 case atStart=>exact⟨0,by omega,by omega,rfl,zh ⟨Below.refl _ _,by rw[List.take_zero];exact OwnE.nil _ _ _ _⟩⟩
 case round =>
  obtain⟨k,hk,hkn,rfl,hP⟩:=hrel
  by_cases hlt:k < n∧k < 30
  ·obtain⟨hk1,hk2⟩:=hlt
   obtain⟨y,ey⟩:∃ y,xs[k]?=some y:=⟨_,List.getElem?_eq_getElem (by rw[← HN.out];exact hk1)⟩
   obtain⟨xb,xo,rfl,hxb,hy⟩:=HX3.out k y ey
   have hI4:=HI.out y (List.mem_of_getElem? ey)
   have HSN:=zh (poolN_snoc ey hk2)
   have hPL:(poolN (xs.take k)).length=k:=by unfold poolN;rw[List.length_map,List.length_take,List.length_take,← HN.out];omega
   obtain⟨y0,y1,y2,y3⟩:=y
   obtain⟨i0,i1,i2,i3⟩:=hI4
   simp only at i0 i1 i2 i3 HSN
   obtain⟨va,vc,hv⟩:=hP.out.2.form
   rw[hPL]at hv
   subst hv
   obtain⟨PL,hPLe⟩:∃ PL,PL=poolN (xs.take k):=⟨_,rfl⟩
   rw[← hPLe]at hP HSN hPL
   have HPL:=zh hPL
   obtain⟨g0,g1,g2,g3⟩:=RAt.keepQ hy hP.out.1 hxb
   have tk:(k:Int) < (n:Int):=by omega
   have tk0:(0:Int)≤(k:Int):=by omega
   have tk3:(k:Int) < 30:=by omega
   clear HI HX3 HNX hPLe hPL ey hy
   have hpc:=pickI_range y0 (show(0:Int) < 7 by omega)
   obtain⟨c,hc⟩:∃ c:Nat,pickI y0 7=(c:Int):=⟨(pickI y0 7).toNat,by omega⟩
   have HP7:=zh (fun W=>pickQ_any y0 7 W i0 (by omega) (by omega))
   have HPD:=zh (fun W=>pickQ_any y3 16 W i3 (by omega) (by omega))
   have HAT:=zh (fun W=>at_any y1 i1 W)
   have HVL:=zh (fun W=>valN_any y2 i2 W)
   have HV1:=zh (fun W=>valN_any (wrap64 (y2+1)) (wrap64_I64 _) W)
   have HKY:=zh (fun W=>keyQ_any c (by omega) W)
   have hnr:=atNum_range y1
   have hsr:=atStp_range y1
   have hvs:=valN_size y2
   rw[hc]at HP7 hpc
   have HBV:Hid (baseV y0 y1 y2=⟨(c:Int),atNum y1,atStp y1,valN y2,sealV (keyQ c) ⟨(c:Int),atNum y1,atStp y1,valN y2,⟨#[]⟩⟩⟩):=zh (by unfold baseV;rw[hc,Int.toNat_natCast])
   have HBP:Hid (poolV y0 y1 y2 y3=if pickI y3 16=14 then { baseV y0 y1 y2 with val:=valN (wrap64 (y2+1)) } else if pickI y3 16=15 then { baseV y0 y1 y2 with car:=((c:Int)+1) % 8 } else baseV y0 y1 y2):=zh (by unfold poolV;rw[hc])
   have hkey:=keyQ_size c
   generalize atNum y1=num at *
   generalize atStp y1=stp at *
   generalize valN y2=val at *
   generalize valN (wrap64 (y2+1))=val1 at *
   generalize keyQ c=key at *
   generalize poolV y0 y1 y2 y3=PV at *
   generalize baseV y0 y1 y2=BV at *
   have HCT:=zh (fun W=>rcontent_any ⟨(c:Int),num,stp,val,⟨#[]⟩⟩ ⟨⟨by show(0:Int)≤c;omega,by show(c:Int)≤7;omega⟩,⟨by show 0≤num;omega,by show num≤99999999;omega⟩,⟨by show 0≤stp;omega,by show stp≤1000;omega⟩,hvs⟩ W)
   have hcl:(voteC ⟨(c:Int),num,stp,val,⟨#[]⟩⟩).size≤48:=voteC_le hvs
   obtain⟨SL,hSL⟩:∃ SL,SL=sealV key ⟨(c:Int),num,stp,val,⟨#[]⟩⟩:=⟨_,rfl⟩
   rw[← hSL]at HBV
   have hSL2:SL=nodeS key (leafS (voteC ⟨(c:Int),num,stp,val,⟨#[]⟩⟩)):=hSL
   generalize voteC ⟨(c:Int),num,stp,val,⟨#[]⟩⟩=CT at *
   have HSE:=zh (fun W=>rseal_any key CT (by omega) (by omega) W)
   rw[← hSL2]at HSE
   clear hSL hSL2 hkey hcl hnr hsr hvs hc i0 i1 i2 i3
   go_upto_region 6 with fail
   obtain⟨W5,hW5⟩:∃ W5,W5=wr.alloc (.cells #[.int .i64 y0,.int .i64 y1,.int .i64 y2,.int .i64 y3] 103):=⟨_,rfl⟩
   rw[← hW5]
   have HB5:Hid (Below wr.heap.size wr W5):=zh (by rw[hW5];exact br0.alloc (Nat.le_refl _) _)
   have HY5:Hid (W5.heap[wr.heap.size]?=some (.cells #[.int .i64 y0,.int .i64 y1,.int .i64 y2,.int .i64 y3] 103 (0,0))):=zh (by rw[hW5];exact heap_alloc_new wr _)
   obtain⟨b5,hb5⟩:∃ b5,b5=wr.heap.size:=⟨_,rfl⟩
   rw[← hb5]at HY5 ⊢
   have HY:Hid (∀ W,Below W5.heap.size W5 W→W.cell? ⟨b5,0,none⟩=some (.int .i64 y0)∧W.cell? ⟨b5,1,none⟩=some (.int .i64 y1)∧W.cell? ⟨b5,2,none⟩=some (.int .i64 y2)∧W.cell? ⟨b5,3,none⟩=some (.int .i64 y3)):=zh (fun W hW=>by
    have h:=(hW.block b5 (ltA HY5.out)).trans HY5.out
    exact⟨cell_of_row W _ 0 _ _ _ h,cell_of_row W _ 1 _ _ _ h,cell_of_row W _ 2 _ _ _ h,cell_of_row W _ 3 _ _ _ h⟩)
   clear hW5 hb5 g0 g1 g2 g3
   refine wp_region_noPanic ?_
   refine wp_region_lexB [.q 0,.q 1,.q 3,.q 4,.q 6,.q 7,.an 10,.b 2,.b 5,.b 8,.q 9,.co 10,.l 11] (by kernel_rfl) (by kernel_rfl) (fun _ _ _ _ h=>h) ?_
   iterate 6(refine wpFl_qL (v:=?_) rfl (Or.inl ⟨by rfl,?_⟩) ?_;rotate_left;(focus(intro w' hSw;obtain⟨y0,y1,y2,y3⟩:=HY.out w' hSw;go_simp;(try with_reducible rfl);done));simp only[Act.put,zzA,zzB,zzC])
   refine wpFl_anL rfl (.cells #[.int .i64 0,.int .i64 0,.int .i64 0,.string ⟨#[]⟩,.string ⟨#[]⟩] 27 (0,0)) (fun n=>.pointer (some ⟨n,0,none⟩)) ⟨by rfl,fun w'=>?_⟩ ?_
   focus(go_simp;done)
   refine wpFl_bL rfl (fun waa hnaa hsaa K hK=>?_)
   go_simp
   go_at_call 54
   (with_reducible refine(HP7.out _).mono ?_)
   rintro e w' ⟨rfl,hw'⟩
   replace hw':=hw'.symm
   subst hw'
   refine hK.out _ _ hsaa (Keeps.below br0) ?_
   clear hK K hnaa hsaa
   refine wpFl_bL rfl (fun wab hnab hsab K hK=>?_)
   go_simp
   go_at_call 13
   (with_reducible refine(HAT.out _).mono ?_)
   rintro e wbb ⟨rfl,hbb⟩
   refine hK.out _ _ (q_next hsab hbb) (Keeps.below hbb) ?_
   clear hK K hnab hsab hbb
   refine wpFl_bL rfl (fun wac hnac hsac K hK=>?_)
   go_simp
   go_at_call 14
   (with_reducible refine(HVL.out _).mono ?_)
   rintro e wbc ⟨rfl,hbc⟩
   refine hK.out _ _ (q_next hsac hbc) (Keeps.below hbc) ?_
   clear hK K hnac hsac hbc
   refine wpFl_qL (v:=?_) rfl (Or.inl ⟨by rfl,?_⟩) ?_
   rotate_left
   focus(intro w' hSw;go_simp;(try with_reducible rfl);done)
   simp only[Act.put,zzA,zzB,zzC]
   refine wpFl_coL rfl (.cells #[.int .i64 0,.int .i64 0,.int .i64 0,.string ⟨#[]⟩,.string ⟨#[]⟩] 27 (0,0)) (fun n=>.pointer (some ⟨n,0,none⟩)) (by rfl) (N':=[]) (by rfl) (fun bv w6 hn_w6 hs_w6 hb_bv hz_bv=>?_)
   simp only[Act.put,zzA,zzB,zzC]
   refine wpFl_lL rfl (fun w7 hn_w7 hs_w7 K hK=>?_)
   have HZ:=zh ((hn_w7.block bv (ltA hz_bv)).trans hz_bv)
   obtain⟨z0,z1,z2,z3,z4⟩:=vcellsAt HZ.out
   have zf:∀ j,w7.frozen? ⟨bv,j,none⟩=false:=fun j=>by unfold World.frozen?;rw[HZ.out];simp
   go_simp
   refine hK.out _ _ (NoPanic.normal ?_)
   clear hK K
   have HV8:=zh (vfive_heap HZ.out (.int .i64 c) (.int .i64 num) (.int .i64 stp) (.string val) (.string ⟨#[]⟩))
   have HB8:=zh (vfive_below hs_w7 hb_bv (.int .i64 c) (.int .i64 num) (.int .i64 stp) (.string val) (.string ⟨#[]⟩))
   generalize (((((w7.setCell ⟨bv,0,none⟩ (.int .i64 c)).setCell ⟨bv,1,none⟩ (.int .i64 num)).setCell ⟨bv,2,none⟩ (.int .i64 stp)).setCell ⟨bv,3,none⟩ (.string val)).setCell ⟨bv,4,none⟩ (.string ⟨#[]⟩))=w8 at *
   clear z0 z1 z2 z3 z4 zf HZ hn_w7 hs_w7 hz_bv hn_w6 hs_w6
   have HVC:Hid (∀ W,Below w8.heap.size w8 W→_):=zh (fun W (hW:Below w8.heap.size w8 W)=>And.intro (HY.out W (q_next HB8.out hW)) (vcellsAt ((hW.block _ (ltA HV8.out)).trans HV8.out)))
   go_upto_region 7 with fail
   refine wp_region_noPanic ?_
   refine wp_region_lexB [.q 0,.q 1,.q 3,.b 2,.b 4,.b 5,.q 6,.l 7] (by kernel_rfl) (by kernel_rfl) (fun _ _ _ _ h=>h) ?_
   iterate 3(refine wpFl_qL (v:=?_) rfl (Or.inl ⟨by rfl,?_⟩) ?_;rotate_left;(focus(intro w' hSw;obtain⟨-,v0,v1,v2,v3,v4⟩:=HVC.out w' hSw;go_simp;(try with_reducible rfl);done));simp only[Act.put,zzA,zzB,zzC])
   refine wpFl_bL rfl (fun wad hnad hsad K hK=>?_)
   go_simp
   go_at_call 25
   (with_reducible refine(HKY.out _).mono ?_)
   rintro e wbd ⟨rfl,hbd⟩
   refine hK.out _ _ (q_next hsad hbd) (Keeps.below hbd) ?_
   clear hK K hnad hsad hbd
   refine wpFl_bL rfl (fun wae hnae hsae K hK=>?_)
   go_simp
   go_at_call 40
   (with_reducible refine(HCT.out _).mono ?_)
   rintro e wbe ⟨rfl,hbe⟩
   refine hK.out _ _ (q_next hsae hbe) (Keeps.below hbe) ?_
   clear hK K hnae hsae hbe
   refine wpFl_bL rfl (fun waf hnaf hsaf K hK=>?_)
   go_simp
   go_at_call 56
   (with_reducible refine(HSE.out _).mono ?_)
   rintro e wbf ⟨rfl,hbf⟩
   refine hK.out _ _ (q_next hsaf hbf) (Keeps.below hbf) ?_
   clear hK K hnaf hsaf hbf
   refine wpFl_qL (v:=?_) rfl (Or.inl ⟨by rfl,?_⟩) ?_
   rotate_left
   focus(intro w' hSw;go_simp;(try with_reducible rfl);done)
   simp only[Act.put,zzA,zzB,zzC]
   refine wpFl_lL rfl (fun w9 hn_w9 hs_w9 K hK=>?_)
   obtain⟨-,v0,v1,v2,v3,v4⟩:=HVC.out w9 hs_w9
   have HZ:=zh ((hs_w9.block bv (ltA HV8.out)).trans HV8.out)
   have zf:∀ j,w9.frozen? ⟨bv,j,none⟩=false:=fun j=>by unfold World.frozen?;rw[HZ.out];simp
   go_simp
   refine hK.out _ _ (NoPanic.normal ?_)
   clear hK K
   have HV10:=zh (heap_setCell_same (i:=4) (.string SL) HZ.out)
   have HB10:Hid (Below wr.heap.size wr (w9.setCell ⟨bv,4,none⟩ (.string SL))):=zh (((q_next HB5.out (q_next HB8.out hs_w9))).setCell (p:=⟨bv,4,none⟩) (by have:=HB5.out.size;show wr.heap.size≤bv;omega) _)
   have HY10:Hid ((w9.setCell ⟨bv,4,none⟩ (.string SL)).heap[b5]?=_):=zh ((Below.heap_setCell _ _ _ _ (by have:=(ltA HY5.out);show b5≠bv;omega)).trans ((hs_w9.block b5 (by have:=HB8.out.size;have:=(ltA HY5.out);omega)).trans ((HB8.out.block b5 (ltA HY5.out)).trans HY5.out)))
   have hb5v:b5 < bv:=by have:=(ltA HY5.out);omega
   have hwbv:wr.heap.size≤bv:=by have:=HB5.out.size;omega
   generalize w9.setCell ⟨bv,4,none⟩ (.string SL)=w10 at *
   clear v0 v1 v2 v3 v4 zf HZ hn_w9 hs_w9 HVC HV8 HB8 HY HY5 HB5 hb_bv
   obtain⟨y0',y1',y2',y3'⟩:=four_at HY10.out
   obtain⟨v0,v1,v2,v3,v4⟩:=vcellsAt HV10.out
   have zf:∀ j,w10.frozen? ⟨bv,j,none⟩=false:=fun j=>by unfold World.frozen?;rw[HV10.out];simp
   have hpd:=pickI_range y3 (show(0:Int) < 16 by omega)
   obtain⟨d,hd⟩:∃ d:Nat,pickI y3 16=(d:Int):=⟨(pickI y3 16).toNat,by omega⟩
   rw[hd]at HPD HBP
   clear hd hpd
   have hP14:d=14∨d=15∨(d≠14∧d≠15):=by omega
   rcases hP14 with h14 | h15 | ⟨h14,h15⟩
   ·subst h14
    have HPX:Hid (PV=⟨(c:Int),num,stp,val1,SL⟩):=zh (by rw[HBP.out,if_pos (show((14:Nat):Int)=14 from rfl),HBV.out])
    go_upto_region 13 with(first | (go_at_call 54;(with_reducible refine(HPD.out _).mono ?_);rintro e w' ⟨rfl,hw'⟩;replace hw':=hw'.symm;subst hw') | (go_at_call 14;(with_reducible refine(HV1.out _).mono ?_);rintro e w11 ⟨rfl,hb11⟩;clear v0 v1 v2 v3 v4 zf y0' y1' y2' y3';have HV11:=zh ((hb11.block _ (ltA HV10.out)).trans HV10.out);obtain⟨v0,v1,v2,v3,v4⟩:=vcellsAt HV11.out;have zf:∀ j,w11.frozen? ⟨bv,j,none⟩=false:=(fun j=>by unfold World.frozen?;rw[HV11.out];simp)))
    obtain⟨wx,hwx⟩:∃ wx,wx=w11.setCell ⟨bv,3,none⟩ (.string val1):=⟨_,rfl⟩
    have HVx:Hid (wx.heap[bv]?=some (.cells #[.int .i64 c,.int .i64 num,.int .i64 stp,.string val1,.string SL] 27 (0,0))):=zh (by rw[hwx];exact heap_setCell_same (i:=3) (.string val1) HV11.out)
    have HBx:Hid (Below wr.heap.size wr wx):=zh (by rw[hwx];exact((HB10.out.trans (hb11.mono HB10.out.size))).setCell (p:=⟨bv,3,none⟩) (by show wr.heap.size≤bv;omega) _)
    rw[← hwx]
    clear hwx
    try clear v0 v1 v2 v3 v4 zf
    try clear y0' y1' y2' y3'
    obtain⟨v0,v1,v2,v3,v4⟩:=vcellsAt HVx.out
    have HOx:=zh (hP.out.far HBx.out)
    have HOA:Hid (OwnV (wx.alloc (.cells #[.int .i64 c,.int .i64 num,.int .i64 stp,.string val1,.string SL] 27)) w.heap.size (.slice va k vc) PL):=zh (OwnE.alloc HOx.out.2 _)
    have HNA:=zh (heap_alloc_new wx (.cells #[.int .i64 c,.int .i64 num,.int .i64 stp,.string val1,.string SL] 27))
    have HBA:=zh (HOx.out.1.alloc HOx.out.1.size (.cells #[.int .i64 c,.int .i64 num,.int .i64 stp,.string val1,.string SL] 27))
    have hl6:Hid (PL.length≤1000000):=zh (by rw[HPL.out];omega)
    go_wp2_with (at_builtin;refine wpList_append_vote _ _ w.heap.size _ PL ⟨(c:Int),num,stp,val1,SL⟩ wx.heap.size _ HOA.out hl6.out HBA.out.size HNA.out rfl rfl rfl rfl ?_;intro v7 w12 hown7 hgr7;have HO7:=zh hown7;have HB7:=zh (HBA.out.grown hgr7 HBA.out.size (fun j e=>OwnE.ge HOA.out j e));clear hown7 hgr7)
    go_roundw
    case rel=>exact⟨k+1,by omega,by omega,by go_num,zh (by rw[HSN.out,HPX.out];exact⟨HB7.out,HO7.out⟩)⟩
    case measure=>simp[intOf];omega
   ·subst h15
    have HPX:Hid (PV=⟨((c:Int)+1) % 8,num,stp,val,SL⟩):=zh (by rw[HBP.out,if_neg (show ¬ ((15:Nat):Int)=14 by decide),if_pos (show((15:Nat):Int)=15 from rfl),HBV.out])
    go_upto_region 13 with(go_at_call 54;(with_reducible refine(HPD.out _).mono ?_);rintro e w' ⟨rfl,hw'⟩;replace hw':=hw'.symm;subst hw')
    obtain⟨wx,hwx⟩:∃ wx,wx=w10.setCell ⟨bv,0,none⟩ (.int .i64 (((c:Int)+1) % 8)):=⟨_,rfl⟩
    have HVx:Hid (wx.heap[bv]?=some (.cells #[.int .i64 (((c:Int)+1) % 8),.int .i64 num,.int .i64 stp,.string val,.string SL] 27 (0,0))):=zh (by rw[hwx];exact heap_setCell_same (i:=0) (.int .i64 (((c:Int)+1) % 8)) HV10.out)
    have HBx:Hid (Below wr.heap.size wr wx):=zh (by rw[hwx];exact HB10.out.setCell (p:=⟨bv,0,none⟩) (by show wr.heap.size≤bv;omega) _)
    rw[← hwx]
    clear hwx
    try clear v0 v1 v2 v3 v4 zf
    try clear y0' y1' y2' y3'
    obtain⟨v0,v1,v2,v3,v4⟩:=vcellsAt HVx.out
    have HOx:=zh (hP.out.far HBx.out)
    have HOA:Hid (OwnV (wx.alloc (.cells #[.int .i64 (((c:Int)+1) % 8),.int .i64 num,.int .i64 stp,.string val,.string SL] 27)) w.heap.size (.slice va k vc) PL):=zh (OwnE.alloc HOx.out.2 _)
    have HNA:=zh (heap_alloc_new wx (.cells #[.int .i64 (((c:Int)+1) % 8),.int .i64 num,.int .i64 stp,.string val,.string SL] 27))
    have HBA:=zh (HOx.out.1.alloc HOx.out.1.size (.cells #[.int .i64 (((c:Int)+1) % 8),.int .i64 num,.int .i64 stp,.string val,.string SL] 27))
    have hl6:Hid (PL.length≤1000000):=zh (by rw[HPL.out];omega)
    go_wp2_with (at_builtin;refine wpList_append_vote _ _ w.heap.size _ PL ⟨(((c:Int)+1) % 8:Int),num,stp,val,SL⟩ wx.heap.size _ HOA.out hl6.out HBA.out.size HNA.out rfl rfl rfl rfl ?_;intro v7 w12 hown7 hgr7;have HO7:=zh hown7;have HB7:=zh (HBA.out.grown hgr7 HBA.out.size (fun j e=>OwnE.ge HOA.out j e));clear hown7 hgr7)
    go_roundw
    case rel=>exact⟨k+1,by omega,by omega,by go_num,zh (by rw[HSN.out,HPX.out];exact⟨HB7.out,HO7.out⟩)⟩
    case measure=>simp[intOf];omega
   ·have t14:¬ (d:Int)=14:=by omega
    have t15:¬ (d:Int)=15:=by omega
    have HPX:Hid (PV=⟨(c:Int),num,stp,val,SL⟩):=zh (by rw[HBP.out,if_neg t14,if_neg t15,HBV.out])
    go_upto_region 13 with(go_at_call 54;(with_reducible refine(HPD.out _).mono ?_);rintro e w' ⟨rfl,hw'⟩;replace hw':=hw'.symm;subst hw')
    obtain⟨wx,hwx⟩:∃ wx,wx=w10:=⟨_,rfl⟩
    have HVx:Hid (wx.heap[bv]?=some (.cells #[.int .i64 c,.int .i64 num,.int .i64 stp,.string val,.string SL] 27 (0,0))):=zh (by rw[hwx];exact HV10.out)
    have HBx:Hid (Below wr.heap.size wr wx):=zh (by rw[hwx];exact HB10.out)
    rw[← hwx]
    clear hwx
    try clear v0 v1 v2 v3 v4 zf
    try clear y0' y1' y2' y3'
    obtain⟨v0,v1,v2,v3,v4⟩:=vcellsAt HVx.out
    have HOx:=zh (hP.out.far HBx.out)
    have HOA:Hid (OwnV (wx.alloc (.cells #[.int .i64 c,.int .i64 num,.int .i64 stp,.string val,.string SL] 27)) w.heap.size (.slice va k vc) PL):=zh (OwnE.alloc HOx.out.2 _)
    have HNA:=zh (heap_alloc_new wx (.cells #[.int .i64 c,.int .i64 num,.int .i64 stp,.string val,.string SL] 27))
    have HBA:=zh (HOx.out.1.alloc HOx.out.1.size (.cells #[.int .i64 c,.int .i64 num,.int .i64 stp,.string val,.string SL] 27))
    have hl6:Hid (PL.length≤1000000):=zh (by rw[HPL.out];omega)
    go_wp2_with (at_builtin;refine wpList_append_vote _ _ w.heap.size _ PL ⟨(c:Int),num,stp,val,SL⟩ wx.heap.size _ HOA.out hl6.out HBA.out.size HNA.out rfl rfl rfl rfl ?_;intro v7 w12 hown7 hgr7;have HO7:=zh hown7;have HB7:=zh (HBA.out.grown hgr7 HBA.out.size (fun j e=>OwnE.ge HOA.out j e));clear hown7 hgr7)
    go_roundw
    case rel=>exact⟨k+1,by omega,by omega,by go_num,zh (by rw[HSN.out,HPX.out];exact⟨HB7.out,HO7.out⟩)⟩
    case measure=>simp[intOf];omega
  ·have HF:Hid (poolN (xs.take k)=poolN xs):=zh (HNX.out k (by omega))
   rw[HF.out]at hP
   clear HF HNX HI HX3
   have HR:=zh hP.out.2
   have hlt2:¬ (k < n∧k < 30):=hlt
   by_cases hkn2:k < n
   ·have tk:(k:Int) < (n:Int):=by omega
    have tk3:¬ (k:Int) < 30:=by omega
    go_wp2
    go_ret
    exact⟨_,rfl,HR.out,hP.out.1⟩
   ·have tk:¬ (k:Int) < (n:Int):=by omega
    go_wp2
    go_ret
    exact⟨_,rfl,HR.out,hP.out.1⟩
theorem pool_any {w:World}{x:Value}{xs:List R4}(hx:RS w x xs)(hi:∀ q∈xs,Int4 q) :
  Calls Tryz.prog 15 #[x] w fun e w'=>∃ v,e=.returned v∧VS w' v (poolN xs)∧Below w.heap.size w w' :=
 (pool_own hx hi).mono fun _ _ ⟨v,h1,h2,h3⟩=>⟨v,h1,h2.vs,h3⟩
end Go.Proofs.YtggdcnjaofflbaaGreatDoor
/- The tables of constants that package quorum reads. No condition. -/
namespace Go.Proofs.YtggdcnjaofflbaaGreatDoor
open Go.RowKit Go.BigFrame
structure QEnv (w:World):Prop where
 env:Env w
 round:3 < w.heap.size
 tab:Tab w
 tabs:1 < w.heap.size
theorem QEnv.step {w w':World}(h:QEnv w)(hb:Below w.heap.size w w'):QEnv w':=⟨h.env.below hb h.round,Nat.lt_of_lt_of_le h.round hb.size,h.tab.below hb h.tabs,Nat.lt_of_lt_of_le h.tabs hb.size⟩
end Go.Proofs.YtggdcnjaofflbaaGreatDoor
