/- The walk of words.digest. The condition: the words' range. -/
import Derived.Laws.IdiomStrings
import Derived.Test.YtjjiikeldpjafaaGreatDoorTT01
import Derived.ArgAppend
import Derived.OrdersIn
import Derived.TacticsIn
import Derived.RangeFuncNested
import Derived.Shelf.Abstract
import Derived.OwnWalkIn
import Derived.TacticsInMore
import Derived.LoopNIn
import Derived.LoopIn
namespace Go.Proofs.YtjjiikeldpjafaaGreatDoor
open Go.RowKit Go.BigFrame
def bytesC (n:Nat)(g:Nat→Nat):Array Value:=((List.range n).map fun y=>Value.int .u8 (g y)).toArray
theorem bytesC_size (n:Nat)(g:Nat→Nat):(bytesC n g).size=n:=by simp[bytesC]
theorem bytesC_get (n:Nat)(g:Nat→Nat)(y:Nat)(h:y < n):(bytesC n g)[y]?=some (.int .u8 (g y)):=by
 simp[bytesC,h]
theorem bytesC_snoc (n:Nat)(l:List Nat)(x:Nat)(k:Nat)(hk:k=l.length)(h:k < n):(bytesC n (lg l)).setIfInBounds k (.int .u8 x)=bytesC n (lg (l++[x])):=by
 subst hk
 rw[← lg_snoc]
 apply Array.ext_getElem?
 intro i
 rw[Array.getElem?_setIfInBounds]
 by_cases hi:i < n
 ·rw[bytesC_get _ _ _ hi]
  by_cases e:l.length=i
  ·subst e
   rw[if_pos rfl,if_pos (by rw[bytesC_size];exact h),bytesC_get _ _ _ h];simp[upd]
  ·rw[if_neg e,bytesC_get _ _ _ hi];simp[upd,Ne.symm e]
 ·rw[Array.getElem?_eq_none (by rw[bytesC_size];omega),if_neg (by omega),Array.getElem?_eq_none (by rw[bytesC_size];omega)]
theorem zeroB32:ZeroIs Tryz.prog 316 (bytesC 32 (lg [])):=fun w=>by kernel_rfl
def wordsB (l:List Nat):List Nat:=(l.map bytesOfW).flatten
theorem wordsB_snoc (l:List Nat)(x:Nat):wordsB (l++[x])=wordsB l++bytesOfW x:=by simp[wordsB]
theorem wordsB_length (l:List Nat):(wordsB l).length=4*l.length:=by
 induction l with
 | nil=>rfl
 | cons x l ih=>simp only[wordsB,List.map_cons,List.flatten_cons,List.length_append,List.length_cons]at *;rw[ih];simp[bytesOfW];omega
theorem bytesOfH_words (v:H8):bytesOfH v=wordsB (hl v):=by simp[bytesOfH,wordsB,hl]
theorem bytesOfW_get (x k:Nat)(h:k < 4):(bytesOfW x)[k]?=some (x / 2 ^ (24 - 8*k) % 256):=by
 match k,h with
 | 0,_ | 1,_ | 2,_=>rfl
 | 3,_=>simp[bytesOfW]
theorem bytesOfW_lt (x:Nat):∀ y∈bytesOfW x,y < 256:=by
 intro y hy
 simp only[bytesOfW,List.mem_cons,List.not_mem_nil,or_false]at hy
 rcases hy with rfl | rfl | rfl | rfl <;> omega
theorem bytesOfH_lt (v:H8):∀ y∈bytesOfH v,y < 256:=by
 intro y hy
 simp only[bytesOfH,List.mem_append]at hy
 rcases hy with h | h | h | h | h | h | h | h <;> exact bytesOfW_lt _ y h
def strOf (l:List Nat):ByteArray:=⟨(l.map UInt8.ofNat).toArray⟩
theorem strOf_size (l:List Nat):(strOf l).size=l.length:=by simp[strOf,ByteArray.size]
theorem wpList_convS {P:Program}{ops:Array Oper}{rest:List Oper}{o:Oper}{a:Act}{w:World}{Q:Exit→Act→World→Prop}(l:List Nat)(h8:∀ y∈l,y < 256)(src dst e:TypeId)(x:Operand)(b off n cap:Nat)(hg:o.guard=none)(ho:o.op=.convert src dst x)(hx:a.eval x=.slice (some ⟨b,off,none⟩) n cap)(hn:n=l.length)
  (hs:P.underlying src=some (.slice e)) (he:P.underlying e=some (.int .u8)) (hd:P.underlying dst=some .string)
  (hc:∀ j y,l[j]?=some y→w.cell? ⟨b,off+j,none⟩=some (.int .u8 (y:Nat))) (h:wpList P ops Q rest (a.put o.dst (.string (strOf l))) w):wpList P ops Q (o::rest) a w:=by
 refine wpList_run hg ?_ h
 have hr:=run_convert_bytes_back (P:=P) w src dst e ⟨b,off,none⟩ cap (l.map UInt8.ofNat) hs he hd (fun j hj=>by
  rw[List.length_map]at hj
  rw[Addr.add_mid,hc j l[j] (List.getElem?_eq_getElem hj)]
  have h1:=h8 _ (List.getElem_mem hj)
  simp only[List.getElem_map]
  rw[UInt8.toNat_ofNat_of_lt' (by simpa using h1)])
 rw[List.length_map,← hn]at hr
 unfold execOp
 simp only[ho,hx]
 simp[hr,strOf]
theorem windex (v:H8)(k:Nat)(hk:k < 8)(w:World):(Instr.index 281 (.agg (hcells v)) (.int .i64 k)).run Tryz.prog w=.ok (.int .u32 (lg (hl v) k:Nat)) w:=by
 have hn:0≤(k:Int)∧(k:Int) < ((8:Nat):Int):=by omega
 have hg:(hcells v)[k]?=some (.int .u32 (lg (hl v) k:Nat)):=by rw[hcells_u,ucells_get _ _ _ hk]
 simp[Instr.index,run_underlying wordsDesc,asIntOf,hn,go_sem,hg]
 intro h;omega
set_option maxHeartbeats 4000000 in
set_option maxRecDepth 100000 in
theorem wdigest_any (v:H8)(w:World)(h32:H32 v) :
  Calls Tryz.prog 170 #[.agg (hcells v)] w fun e w'=>e=.returned (.string (strOf (bytesOfH v)))∧Below w.heap.size w w':=by
 have HR:Hid (bytesOfH v=wordsB (hl v)):=zh (bytesOfH_words v)
 have HL:Hid (∀ y∈bytesOfH v,y < 256):=zh (bytesOfH_lt v)
 generalize bytesOfH v=R at *
 have HS:Hid (∀ i,lg (hl v) i < 4294967296):=zh (hl_lt h32)
 have HI:Hid (∀ k:Nat,k < 8→∀ w,(Instr.index 281 (.agg (hcells v)) (.int .i64 k)).run Tryz.prog w=.ok (.int .u32 (lg (hl v) k:Nat)) w):=zh (windex v)
 have HT:Hid (∀ k,k < 8→(hl v).take (k+1)=(hl v).take k++[lg (hl v) k]):=zh (fun k hk=>by
  rw[List.take_add_one,getD_lt (l:=hl v) (by simpa [hl]using hk)];rfl)
 have h1:=wordsSize v
 have h3:=hcells_one v
 obtain⟨Z,hZ⟩:∃ Z,Z=hcells v:=⟨_,rfl⟩
 rw[← hZ]at h1 h3 HI ⊢
 have H1:=zh h1
 have H3:=zh h3
 clear h1 h3 hZ h32
 obtain⟨L,hL⟩:∃ L,L=hl v:=⟨_,rfl⟩
 have HLn:Hid (L.length=8):=zh (by rw[hL];rfl)
 rw[← hL]at HR HS HI HT
 clear hL
 go_enter Tryz.func170,Tryz.ntmps170
 go_wp2_with (first | (refine wpList_boxA 281 (.tmp 0) Z rfl rfl rfl ?_) | (refine wpList_allocA 316 (bytesC 32 (lg [])) zeroB32 rfl rfl ?_) | (refine wpList_loadA 281 _ w.heap.size 281 Z (0,0) _ rfl rfl rfl ?_ wordsDesc rfl H1.out ?_))
 ·exact at_past w _ _
 have hb:Hid (((w.alloc (.cells Z 281)).alloc (.cells (bytesC 32 (lg [])) 316)).heap[w.heap.size+1]?=some (.cells (bytesC 32 (lg [])) 316 (0,0))):=zh (at_second w _ _)
 have hB:Hid (Below w.heap.size w ((w.alloc (.cells Z 281)).alloc (.cells (bytesC 32 (lg [])) 316))):=zh ((br0.alloc (Nat.le_refl _) _).alloc (by simp) _)
 generalize (w.alloc (.cells Z 281)).alloc (.cells (bytesC 32 (lg [])) 316)=W0 at *
 clear H1 H3
 go_loopw [4,5,6,8] (fun _ _ _ i wr=>∃ k:Nat,k≤8∧i=.int .i64 k∧Hid (wr.heap[w.heap.size+1]?=some (.cells (bytesC 32 (lg (wordsB (L.take k)))) 316 (0,0)))∧Hid (Below w.heap.size w wr)) (fun _ _ _ i wr=>8 - (intOf i).toNat)
 case atStart=>exact⟨0,by omega,rfl,hb,hB⟩
 case round =>
  obtain⟨k,hk,rfl,hg,hB'⟩:=hrel
  by_cases hlt:k < 8
  ·have HIX:=zh (HI.out k hlt wr)
   have hx:=HS.out k
   have HTk:Hid (wordsB (L.take (k+1))=wordsB (L.take k)++bytesOfW (lg L k)):=zh (by rw[HT.out k hlt,wordsB_snoc])
   have HLk:Hid ((wordsB (L.take k)).length=4*k):=zh (by rw[wordsB_length,List.length_take,HLn.out,Nat.min_eq_left (by omega)])
   have HG:Hid (∀ j,j < 4→(bytesOfW (lg L k)).take (j+1)=(bytesOfW (lg L k)).take j++[lg L k / 2 ^ (24 - 8*j) % 256]):=zh (fun j hj=>by rw[List.take_add_one,bytesOfW_get _ _ hj];rfl)
   generalize lg L k=x at *
   have HF:Hid ((bytesOfW x).take 4=bytesOfW x):=zh rfl
   have hg0:Hid (wr.heap[w.heap.size+1]?=some (.cells (bytesC 32 (lg (wordsB (L.take k)++(bytesOfW x).take 0))) 316 (0,0))):=zh (by rw[List.take_zero,List.append_nil];exact hg.out)
   generalize wordsB (L.take k)=A at *
   obtain⟨T,hT⟩:∃ T:Nat→List Nat,T=fun j=>(bytesOfW x).take j:=⟨_,rfl⟩
   have HT0:Hid ((∀ j,T j=(bytesOfW x).take j)):=zh (fun j=>by rw[hT])
   have hg1:Hid (wr.heap[w.heap.size+1]?=some (.cells (bytesC 32 (lg (A++T 0))) 316 (0,0))):=zh (by rw[HT0.out];exact hg0.out)
   have HTs:Hid (∀ j,j < 4→T (j+1)=T j++[x / 2 ^ (24 - 8*j) % 256]):=zh (fun j hj=>by rw[HT0.out,HT0.out];exact HG.out j hj)
   have HTl:Hid (∀ j,j≤4→(T j).length=j):=zh (fun j hj=>by rw[HT0.out,List.length_take];simp[bytesOfW];omega)
   have HT4:Hid (A++T 4=wordsB (L.take (k+1))):=zh (by rw[HT0.out,HF.out,HTk.out])
   clear hT hg hg0 HF HG HTk HT0
   go_wp2_with (refine wpList_indexA 281 _ _ Z k _ rfl rfl rfl rfl HIX.out ?_)
   go_loopw [6,12] (fun _ i wr=>∃ j:Nat,j≤4∧i=.int .i64 j∧Hid (wr.heap[w.heap.size+1]?=some (.cells (bytesC 32 (lg (A++T j))) 316 (0,0)))∧Hid (Below w.heap.size w wr)) (fun _ i wr=>4 - (intOf i).toNat)
   case atStart=>exact⟨0,by omega,rfl,hg1,hB'⟩
   case round =>
    obtain⟨j,hj,rfl,hg,hB2⟩:=hrel
    by_cases hltj:j < 4
    ·obtain⟨p,hp⟩:∃ p,p=4*k+j:=⟨_,rfl⟩
     obtain⟨q,hq⟩:∃ q,q=24 - 8*j:=⟨_,rfl⟩
     have f1:IntKind.i64.wrap (4*(k:Int))=4*(k:Int):=IntWalk.i64_in _ (by omega)
     have f2:IntKind.i64.wrap (4*(k:Int)+(j:Int))=(p:Int):=by rw[IntWalk.i64_in _ (by omega)];omega
     have f3:IntKind.i64.wrap (8*(j:Int))=8*(j:Int):=IntWalk.i64_in _ (by omega)
     have f4:IntKind.i64.wrap (24 - 8*(j:Int))=(q:Int):=by rw[IntWalk.i64_in _ (by omega)];omega
     have b1:(0:Int)≤(p:Int)∧(p:Int) < 32:=by omega
     have b2:p < 32:=by omega
     have b3:q < 32:=by omega
     have c1:wr.cell? ⟨w.heap.size+1,p,none⟩=some (.int .u8 (lg (A++T j) p:Nat)):=by
      rw[cell_of_row wr _ p _ _ _ hg.out,bytesC_get _ _ _ b2]
     have g1:wr.frozen? ⟨w.heap.size+1,p,none⟩=false:=by simp[World.frozen?,hg.out]
     have HTj:Hid (T (j+1)=T j++[x / 2 ^ q % 256]):=zh (by rw[hq];exact HTs.out j hltj)
     have HP:Hid (p=(A++T j).length):=zh (by rw[List.length_append,HLk.out,HTl.out j (by omega)];exact hp)
     obtain⟨b11,b12⟩:=b1
     clear hp hq
     go_wp2
     go_roundw
     case rel =>
      refine⟨j+1,by omega,by go_num,?_,?_⟩
      ·show(World.setCell _ _ _).heap[w.heap.size+1]?=_
       rw[heap_setCell_same _ hg.out]
       have e1:(x:Int) / 2 ^ q % 256=((x / 2 ^ q % 256:Nat):Int):=by rw[Int.natCast_emod,Int.natCast_ediv,Int.natCast_pow];rfl
       rw[e1,bytesC_snoc 32 _ _ p HP.out b2,List.append_assoc,HTj.out]
      ·exact hB2.out.grown (grown_setCell (grown_refl _ _) ⟨w.heap.size+1,p,none⟩ (.inl rfl) _) hB2.out.size (fun j e=>by cases e;show w.heap.size≤w.heap.size+1;omega)
     case measure=>simp[intOf];omega
    ·have e4:j=4:=by omega
     rw[e4]at hg
     go_wp2
     go_roundw
     case rel=>exact⟨k+1,by omega,by go_num,by rw[← HT4.out];exact hg.out,hB2.out⟩
     case measure=>simp[intOf];omega
  ·have e8:k=8:=by omega
   rw[e8]at hg
   have HC:Hid (∀ j y,R[j]?=some y→wr.cell? ⟨w.heap.size+1,0+j,none⟩=some (.int .u8 (y:Nat))):=zh (fun j y hj=>by
    rw[Nat.zero_add,cell_of_row wr _ j _ _ _ hg.out]
    have h2:L.take 8=L:=List.take_of_length_le (by rw[HLn.out];omega)
    have h3:j < 32:=by
     have h4:=(List.getElem?_eq_some_iff.1 hj).1
     rw[HR.out,wordsB_length,HLn.out]at h4
     omega
    rw[bytesC_get _ _ _ h3,h2,← HR.out]
    unfold lg
    rw[List.getD_eq_getElem?_getD,hj];rfl)
   have HN:Hid (32=R.length):=zh (by rw[HR.out,wordsB_length,HLn.out])
   go_wp2_with (refine wpList_convS R HL.out 88 9 5 _ (w.heap.size+1) 0 32 32 rfl rfl rfl HN.out (by kernel_rfl) (by kernel_rfl) (by kernel_rfl) HC.out ?_)
   go_ret
   exact⟨rfl,hB'.out⟩
end Go.Proofs.YtjjiikeldpjafaaGreatDoor
/- A buffer of bytes of the call's own, whether its row is marked or not: a string's bytes, one byte more. The conditions: lengths. -/
namespace Go.Proofs.YtjjiikeldpjafaaGreatDoor
open Go.RowKit Go.BigFrame
def BufB (w:World)(base:Nat)(v:Value)(xs:List Nat):Prop :=
 ∃ g cap,v=.slice (some ⟨g,0,none⟩) xs.length cap∧xs.length≤cap∧cap≤maxLen∧base≤g∧g < w.heap.size ∧
  (∀ j y,xs[j]?=some y→w.cell? ⟨g,j,none⟩=some (.int .u8 (y:Nat)))∧(∀ j,j < cap→(w.cell? ⟨g,j,none⟩).isSome=true∧w.frozen? ⟨g,j,none⟩=false)
theorem BufB.keep {w w':World}{base:Nat}{v:Value}{xs:List Nat}(h:BufB w base v xs)(hb:Below w.heap.size w w'):BufB w' base v xs:=by
 obtain⟨g,cap,rfl,h1,h2,h3,h4,h5,h6⟩:=h
 refine⟨g,cap,rfl,h1,h2,h3,Nat.lt_of_lt_of_le h4 hb.size,fun j y hj=>?_,fun j hj=>?_⟩
 ·rw[hb.cell (p:=⟨g,j,none⟩) h4];exact h5 j y hj
 ·rw[hb.cell (p:=⟨g,j,none⟩) h4,hb.frozen (p:=⟨g,j,none⟩) h4];exact h6 j hj
def bytesS (s:ByteArray):List Nat:=s.data.toList.map UInt8.toNat
theorem bytesS_length (s:ByteArray):(bytesS s).length=s.size:=by
 unfold bytesS
 rw[List.length_map,Array.length_toList]
 rfl
theorem bytesS_lt (s:ByteArray):∀ y∈bytesS s,y < 256:=by
 intro y hy
 unfold bytesS at hy
 rw[List.mem_map]at hy
 obtain⟨b,_,rfl⟩:=hy
 exact b.toNat_lt
section
variable {P:Program} {ops:Array Oper} {rest:List Oper} {o:Oper} {a:Act} {w:World} {Q:Exit→Act→World→Prop}
theorem wpList_strBytes (base:Nat)(s:ByteArray)(src dst e:TypeId)(x:Operand)(hg:o.guard=none)(ho:o.op=.convert src dst x)(hx:a.eval x=.string s)(hsz:s.size≤maxLen)(hbase:base≤w.heap.size)
  (hs:P.underlying src=some .string) (hd:P.underlying dst=some (.slice e)) (he:P.underlying e=some (.int .u8))
  (h:∀ v w',BufB w' base v (bytesS s)→Below w.heap.size w w'→wpList P ops Q rest (a.put o.dst v) w'):wpList P ops Q (o::rest) a w:=by
 have hr:=run_bytes_of_string (P:=P) w src dst e s hs hd he
 have hcap:=grownCap_ge w s.size 0 e
 have hcm:=grownCap_le_maxLen w s.size 0 e hsz
 generalize grownCap w s.size 0 e=cap at *
 have hsize:(bytesRow s cap).size=cap:=by
  unfold bytesRow
  rw[Array.size_append,Array.size_map,Array.size_replicate]
  have:s.data.size=s.size:=rfl
  omega
 refine wpList_run hg (v:=.slice (some ⟨w.heap.size,0,none⟩) s.size cap) (w':=w.drew.alloc (.cells (bytesRow s cap) e ((bytesRow s cap).size,(bytesRow s cap).size+1))) ?_ ?_
 ·unfold execOp
  simp only[ho,hx]
  simp[hr]
 refine h _ _ ⟨w.heap.size,cap,by rw[bytesS_length],by rw[bytesS_length];exact hcap,hcm,hbase,by simp,fun j y hj=>?_,fun j hj=>⟨?_,?_⟩⟩ (below_drewN (br0.alloc (Nat.le_refl _) _) 1)
 ·have hj':j < s.size:=by have:=(List.getElem?_eq_some_iff.1 hj).1;rwa [bytesS_length]at this
  show(w.drew.alloc _).cell? ⟨w.drew.heap.size,j,none⟩=_
  rw[World.cell?_alloc_mark,bytesRow_at s cap j hj']
  unfold bytesS at hj
  rw[List.getElem?_map,Array.getElem?_toList,Array.getElem?_eq_getElem hj']at hj
  cases hj
  rfl
 ·show((w.drew.alloc _).cell? ⟨w.drew.heap.size,j,none⟩).isSome=true
  rw[World.cell?_alloc_mark,Array.getElem?_eq_getElem (by rw[hsize];exact hj)]
  rfl
 ·show(w.drew.alloc _).frozen? ⟨w.drew.heap.size,j,none⟩=false
  rw[World.frozen?_alloc_mark,hsize]
  simp
  omega
theorem wpList_appendB (t e:TypeId)(z:Value)(ht:P.underlying t=some (.slice e))(hinfo:(P.info? e).map (fun i=>(i.zero,i.size,i.bytes))=some (some z,1,1))(hz:z.cells.size=1)
  (hgd:o.guard=none) (s x:Operand) (ho:o.op=.call { callee:=.builtin .append,args:=#[s,x],argTypes:=#[t,t] })
  (base:Nat) (v:Value) (xs:List Nat) (hs:a.eval s=v) (hown:BufB w base v xs) (b:Nat) (y:Nat) (hx:a.eval x=.slice (some ⟨b,0,none⟩) 1 1)
  (hb:w.cell? ⟨b,0,none⟩=some (.int .u8 (y:Nat))) (hlen:xs.length+1≤140737488355328) (hbase:base≤w.heap.size)
  (h:∀ v' w',BufB w' base v' (xs++[y])→Below base w w'→wpList P ops Q rest (a.put o.dst v') w'):wpList P ops Q (o::rest) a w:=by
 obtain⟨i,i1,i2,i3,i4⟩:=info_parts hinfo
 obtain⟨g,cap,rfl,h1,h2,h3,h4,h5,h6⟩:=hown
 refine wpList_append_arg w hgd s x t ho e i z 1 1 ht i1 i2 i3 i4 hz (by decide) g 0 xs.length cap (xs.map fun y:Nat=>Value.int .u8 (y:Nat)) hs (by simp) ?_ ⟨b,0,none⟩ 1 1 [.int .u8 (y:Nat)] hx rfl ?_ ?_ ?_ ?_ ?_ ?_ ?_
 ·intro j u hj
  rw[List.getElem?_map]at hj
  cases hq:xs[j]? with
  | none=>rw[hq]at hj;cases hj
  | some q=>rw[hq]at hj;cases hj;rw[Nat.zero_add];exact h5 j q hq
 ·intro j u hj
  match j,hj with
  | 0,hj=>cases hj;exact hb
 ·intro u hu
  simp only[List.mem_cons,List.not_mem_nil,or_false]at hu
  subst hu;rfl
 ·intro hr j hj
  have hj0:j=0:=by simp at hj;exact hj
  subst hj0
  have:=h6 xs.length (by omega)
  simpa using this
 ·unfold maxLen;omega
 ·omega
 ·intro hr
  have e1:(0+xs.length*1)=xs.length:=by omega
  rw[e1]
  have e2:w.setCells g xs.length [.int .u8 (y:Nat)]=w.setCell ⟨g,xs.length,none⟩ (.int .u8 (y:Nat)):=rfl
  rw[e2]
  have hset:(w.setCell ⟨g,xs.length,none⟩ (.int .u8 (y:Nat))).heap.size=w.heap.size:=by simp[World.setCell]
  refine h _ _ ⟨g,cap,by rw[List.length_append];rfl,by rw[List.length_append];exact hr,h2,h3,by rw[hset];exact h4,fun j q hj=>?_,fun j hj=>⟨?_,?_⟩⟩ ((Below.refl base w).grown (grown_setCell (grown_refl _ _) ⟨g,xs.length,none⟩ (.inl rfl) _) hbase (fun j e=>by cases e;exact h3))
  ·by_cases e:j=xs.length
   ·subst e
    simp at hj
    subst hj
    exact World.cell?_setCell_same' _ _ _ (h6 _ (by omega)).1
   ·rw[setCell_off _ _ _ _ _ (fun e'=>e e'.symm)]
    refine h5 j q ?_
    have hlt:j < (xs++[y]).length:=(List.getElem?_eq_some_iff.1 hj).1
    rw[List.length_append]at hlt
    simp at hlt
    rwa [List.getElem?_append_left (by omega)]at hj
  ·by_cases e:j=xs.length
   ·subst e
    rw[setCell_isSome]
    exact(h6 _ (by omega)).1
   ·rw[setCell_off _ _ _ _ _ (fun e'=>e e'.symm)]
    exact(h6 j hj).1
  ·rw[World.frozen?_setCell]
   exact(h6 j hj).2
 ·intro hr v' w' ho2 hg2
  obtain⟨hl,h7⟩:=ho2
  rcases h7 with⟨_,h7⟩ | ⟨g',cap',cur,rfl,hbg,hgg,hnc,hcm,hcs,htake⟩
  ·omega
  ·have hc:∀ j,w'.cell? ⟨g',j,none⟩=cur[j]?:=fun j=>cell_of_row w' g' j cur e (0,0) hgg
   refine h _ _ ⟨g',cap',by rw[List.length_append];rfl,by rw[List.length_append];exact hnc,hcm,Nat.le_trans hbase hbg,(ltA hgg),fun j q hj=>?_,fun j hj=>⟨?_,?_⟩⟩ ⟨hg2.os,hg2.tape,hg2.output,hg2.size,fun k hk=>hg2.block k (by omega) (by simp)⟩
   ·have hj':((xs++[y]).map fun y:Nat=>Value.int .u8 (y:Nat))[j]?=some (.int .u8 (q:Nat)):=by rw[List.getElem?_map,hj];rfl
    rw[List.map_append]at hj'
    have h8:(cur.toList.take ((xs.length+1)*1))[j]?=some (.int .u8 (q:Nat)):=by rw[htake];exact hj'
    rw[List.getElem?_take]at h8
    split at h8
    ·rw[hc];simpa using h8
    ·cases h8
   ·rw[hc,Array.getElem?_eq_getElem (by omega)];rfl
   ·simp[World.frozen?,hgg]
end
end Go.Proofs.YtjjiikeldpjafaaGreatDoor
/- The region's law of the text Reg inside a round of a range over a function. The conditions are closed facts of the region; the fence is wide. -/
namespace Go.Proofs.YtjjiikeldpjafaaGreatDoor
section
variable {F:Fence} {n:Nat} {P:Program} {md:Region.Mode}
def Wide (F:Fence):Prop:=(∀ f,F.fn f)∧F.depth=none∧F.alive=false
theorem Wide.wide:Wide Fence.wide:=⟨fun _=>trivial,rfl,rfl⟩
theorem Wide.inRound {F:Fence}(h:Wide F)(l:Nat):Wide (F.inRound l):=h
theorem fenced_of_wide {F:Fence}(hF:Wide F)(m:Machine):m.fenced P F:=by
 intro g _
 refine⟨fun h=>?_,Or.inl (hF.1 _),fun _ _=>hF.1 _,fun _ h=>?_⟩
 ·rw[hF.2.2]at h;cases h
 ·rw[hF.2.1]at h;cases h
theorem stepsIn_of_wide {F:Fence}(hF:Wide F){m m':Machine}(h:Steps P m m'):StepsIn (Machine.fenced P F) P m m':=by
 obtain⟨k,hk⟩:=h
 induction k generalizing m with
 | zero=>simp[runN]at hk;exact hk ▸ .refl _
 | succ k ih =>
  simp only[runN]at hk
  cases hs:step P m with
  | next m₁=>rw[hs]at hk;exact .head (fenced_of_wide hF _) hs (ih hk)
  | ended o w=>rw[hs]at hk;simp at hk
theorem callsIn_of_calls {F:Fence}(hF:Wide F){f:FuncId}{args:Array Value}{w:World}{R:Ending→World→Prop}(h:Calls P f args w R):CallsIn F n P f args w R :=
 ⟨hF.1 f,fun cs _=>by
  obtain⟨e,w',fr,r,s,x⟩:=h cs
  refine⟨e,w',fr,r,?_,x⟩
  cases e with
  | returned v=>exact stepsIn_of_wide hF s
  | panicked chain=>exact stepsIn_of_wide hF s
  | outgrown=>exact s⟩
theorem calls_of_callsIn {F:Fence}(hF:Wide F){f:FuncId}{args:Array Value}{w:World}{R:Ending→World→Prop}(h:CallsIn F n P f args w R):Calls P f args w R:=fun cs=>by
 obtain⟨e,w',fr,r,s,x⟩:=h.2 cs (fun _ h=>by rw[hF.2.1]at h;cases h)
 exact⟨e,w',fr,r,s.comes,x⟩
theorem wpIn_of_quiet {C:World→Prop}{o:Oper}{a:Act}{K:Act→Prop}{K':Act→World→Prop}{Q':Exit→Act→World→Prop}{w:World}(hF:Wide F)(hw:C w)(h:∀ a w',C w'→K a→K' a w')(hh:o.quiet P a C K):o.wpIn F n P a w K' Q':=by
 obtain⟨v,h1,h2⟩:=hh
 have h3:=h1 w hw
 refine⟨fun f _=>hF.1 f,?_⟩
 unfold Oper.quietAt at h3
 have hnd:∀ c,o.op≠.defer c:=by
  intro c hc
  unfold execOp at h3
  simp only[hc,Sem.run_bind]at h3
  generalize (resolve a.eval c o.type).run P w=r at h3
  cases r with
  | ok d w1=>simp[Result.andThen,Oper.quietUpon]at h3
  | halt x w1=>simp[Result.andThen,Oper.quietUpon]at h3
 rw[Oper.semAt_eq _ _ _ hnd]
 generalize (execOp a.eval o).run P w=r at *
 cases r with
 | ok m w' =>
  cases m <;> simp only[Oper.quietUpon]at h3 <;> simp only[Oper.uponIn]
  case value u =>
   obtain⟨e1,e2⟩:=h3
   rw[e1,e2]
   exact h _ _ hw h2
  case skip =>
   obtain⟨e1,e2⟩:=h3
   rw[e1,← e2]
   exact h _ _ hw h2
  case enter f args =>
   obtain⟨e1,hc⟩:=h3
   rw[e1]
   refine⟨fun hd=>(by rw[hF.2.1]at hd;cases hd),callsIn_of_calls hF (hc.mono ?_)⟩
   rintro e w'' ⟨he,hw''⟩
   subst he
   exact h _ _ hw'' h2
 | halt x w'=>simp only[Oper.quietUpon]at h3
theorem wpOpIn_of_qOp {C:World→Prop}{ops:Array Oper}{i:Nat}{a:Act}{K:Act→Prop}{K':Act→World→Prop}{Q':Exit→Act→World→Prop}{w:World}(hF:Wide F)(hC:C w)(h:∀ a w',C w'→K a→K' a w')(hh:qOp P ops C i K a):wpOpIn F n P ops Q' i K' a w:=by
 unfold qOp at hh
 unfold wpOpIn
 split
 ·rename_i ho;simp only[ho]at hh;exact h _ _ hC hh
 ·rename_i o ho
  simp only[ho]at hh
  split
  ·rename_i hw;simp only[hw,if_true]at hh;exact wpIn_of_quiet hF hC h hh
  ·rename_i hw;simp only[hw]at hh;exact⟨fun f _=>hF.1 f,h _ _ hC hh⟩
theorem wpAnyIn_more {ops:Array Oper}{Q:Exit→Act→World→Prop}:∀(m:Nat) (listed:Array Bool) (a:Act) (w:World),wpAnyIn F n P md ops Q m listed a w→wpAnyIn F n P md ops Q (m+1) listed a w
 | 0,_,_,_,h=>⟨fun _=>h.2,fun i hi=>by rw[h.1]at hi;cases hi⟩
 | m+1,_,_,_,h=>⟨h.1,fun i hi=>wpOpIn_mono (fun a w=>wpAnyIn_more m _ a w) (h.2 i hi)⟩
theorem wpAnyIn_add {ops:Array Oper}{Q:Exit→Act→World→Prop}{listed:Array Bool}{a:Act}{w:World}{g:Nat}(h:wpAnyIn F n P md ops Q g listed a w):∀ k,wpAnyIn F n P md ops Q (k+g) listed a w
 | 0=>by rw[Nat.zero_add];exact h
 | k+1=>by rw[show k+1+g=(k+g)+1 by omega];exact wpAnyIn_more _ _ _ _ (wpAnyIn_add h k)
theorem wpAnyIn_seq {ops:Array Oper}{Q':Exit→Act→World→Prop}:∀(l:List Oper) (k:Nat) (listed:Array Bool) (a:Act) (w:World),(∀ j,l[j]?=ops[k+j]?) →
  Region.seqB md ops l.length k listed=true→wpListIn F n P ops Q' l a w→wpAnyIn F n P md ops Q' l.length listed a w
 | [],_,_,_,_,_,hB,h=>⟨by simpa [Region.seqB]using hB,h⟩
 | o::l,k,listed,a,w,hl,hB,h=>by
  have h0:ops[k]?=some o:=by simpa using (hl 0).symm
  simp only[List.length_cons,Region.seqB,Bool.and_eq_true,decide_eq_true_eq]at hB
  refine⟨fun h1=>(by rw[hB.1]at h1;cases h1),fun i hi=>?_⟩
  rw[hB.1]at hi
  have hik:i=k:=by simpa using hi
  subst hik
  have hw:wpOpIn F n P ops Q' i (wpListIn F n P ops Q' l) a w:=by unfold wpOpIn;simp only[h0];exact h
  exact wpOpIn_mono (fun a' w' h'=>wpAnyIn_seq l (i+1) _ a' w' (fun j=>by have:=hl (j+1);simpa [Nat.add_assoc,Nat.add_comm 1 j]using this) hB.2 h') hw
theorem anyIn_of_headQ {l:List Oper}{m g:Nat}{C:World→Prop}{Lq:Act→Prop}{Q:Exit→Act→World→Prop}(hF:Wide F)(hB:headB l.toArray m=true)(hs:Region.sinkB .any l.toArray m=true)(hc:Region.chainB .any l.toArray m=true)(hn:m < l.toArray.size)
  (hfin:∀ x a w,HeadInv .any l.toArray m x→(∀ i,i < m→x.getD i true=true)→C w→Lq a→wpAnyIn F n P .any l.toArray Q g x a w) :
  ∀(fuel:Nat) (x y:Array Bool) (a:Act) (w:World),HeadInv .any l.toArray m x→SameTo m x y→m≤y.size→C w→wpAnyQ P .any (l.take m).toArray C Lq fuel y a→wpAnyIn F n P .any l.toArray Q (fuel+g) x a w:=by
 intro fuel
 induction fuel with
 | zero =>
  intro x y a w inv hxy hy hC h
  obtain⟨h1,h2⟩:=h
  rw[Nat.zero_add]
  refine hfin x a w inv ?_ hC h2
  apply Classical.byContradiction
  intro hx
  obtain⟨i,hi,hr⟩:=head_ready hB hx (by rw[inv.size];omega)
  have:=(ready_head hB hxy hi).2 hr
  rw[h1]at this;cases this
 | succ fuel ih =>
  intro x y a w inv hxy hy hC h
  by_cases hx:∀ i,i < m→x.getD i true=true
  ·refine wpAnyIn_add (hfin x a w inv hx hC (h.1 ?_)) _
   apply List.eq_nil_iff_forall_not_mem.2
   intro i hi
   have hin:i < m:=by
    obtain⟨_,o,ho,_⟩:=mem_ready.1 hi
    have:=(ltA ho)
    simp at this;omega
   have:=(mem_ready.1 ((ready_head hB hxy hin).1 hi)).1
   rw[hx i hin]at this;cases this
  ·rw[show fuel+1+g=(fuel+g)+1 by omega]
   obtain⟨m',hm,hmr⟩:=head_ready hB hx (by rw[inv.size];omega)
   have hmu:=(mem_ready.1 hmr).1
   refine⟨fun h0=>(by rw[h0]at hmr;cases hmr),fun i hi=>?_⟩
   have hin:i < m:=by
    rcases Nat.lt_or_ge i m with h' | h'
    ·exact h'
    ·exact absurd hi (tail_waits hs hc hn inv _ m' rfl hm hmu i h')
   have hq:=h.2 i ((ready_head hB hxy hin).2 hi)
   have hq':qOp P l.toArray C i (wpAnyQ P .any (l.take m).toArray C Lq fuel (y.setIfInBounds i true)) a:=by
    unfold qOp at hq ⊢
    rw[take_get hin]at hq
    obtain⟨o,ho,_,_⟩:=headB_spec hB hin
    rw[ho]at hq ⊢
    simp only[]at hq ⊢
    rw[wanted_head hB hin ho]at hq
    exact hq
   refine wpOpIn_of_qOp hF hC (fun a' w' hC' hK=>ih (x.setIfInBounds i true) (y.setIfInBounds i true) a' w' (inv.set hi hin) ?_ (by simpa using hy) hC' hK) hq'
   intro j hj
   have hxs:m≤x.size:=by rw[inv.size];omega
   by_cases e:i=j
   ·subst e
    have h1:i < x.size:=by omega
    have h2:i < y.size:=by omega
    simp[Array.getD,h1,h2]
   ·rw[getD_set_ne true e,getD_set_ne false e,getD_set_ne true e,getD_set_ne false e]
    exact hxy j hj
theorem listed_eq {l:List Oper}{m:Nat}{x:Array Bool}(hn:m < l.length)(inv:HeadInv .any l.toArray m x)(hx:∀ i,i < m→x.getD i true=true) :
  x=((List.replicate m true++List.replicate (l.length - m) false).toArray):=by
 apply Array.ext_getElem?
 intro i
 by_cases hi:i < m
 ·have h1:=hx i hi
  have h2:i < x.size:=by rw[inv.size];simp;omega
  simp only[Array.getD,h2,dif_pos]at h1
  rw[Array.getElem?_eq_getElem h2]
  simp only[Array.getInternal_eq_getElem]at h1
  rw[h1]
  simp[List.getElem?_append,hi]
 ·by_cases hi2:i < l.length
  ·have h1:=inv.tail i (by omega) (by simpa using hi2)
   have h2:i < x.size:=by rw[inv.size];simpa using hi2
   simp only[Array.getD,h2,dif_pos]at h1
   rw[Array.getElem?_eq_getElem h2]
   simp only[Array.getInternal_eq_getElem]at h1
   rw[h1]
   simp[List.getElem?_append,hi,List.getElem?_replicate];omega
  ·rw[Array.getElem?_eq_none (by rw[inv.size];simp;omega)]
   simp[List.getElem?_append,hi,List.getElem?_replicate];omega
theorem wpIn_region_quiet_tail {id:Nat}{Q:Exit→Act→World→Prop}{a:Act}{w:World}{l:List Oper}(m:Nat)(C:World→Prop)(hF:Wide F)(hm:P.follows .mixedOrders=true)(hB:tailB l m=true)(hC:C { w with drawn:=w.drawn+1 })
  (h:wpQuiet P (l.take m).toArray C (fun a'=>∀ w',C w'→wpListIn F n P l.toArray Q (l.drop m) a' w') (l.take m) a):(Code.region id l.toArray true).wpIn F n P Q a w:=by
 simp only[tailB,Bool.and_eq_true,decide_eq_true_eq]at hB
 obtain⟨⟨⟨⟨⟨hlex,hhd⟩,hs⟩,hc⟩,hn⟩,hseq⟩:=hB
 have hn':m < l.toArray.size:=by simpa using hn
 simp only[Region.lexB,Bool.and_eq_true]at hlex
 have hq:=wpAnyQ_lex (C:=C) (md:=.any) hlex.1 (l.take m) 0 (Array.replicate (l.take m).toArray.size false) a (by simp) (by simpa using hlex.2) h
 have htl:(l.take m).length=m:=by simp;omega
 refine wpIn_region_any hm ?_
 have inv0:HeadInv .any l.toArray m (Array.replicate l.toArray.size false) :=
  ⟨by simp,fun j oj _ hl=>(by rw[getD_replicate_false]at hl;cases hl),fun t _ ht=>getD_in (by simpa using ht) (getD_replicate_false _ _)⟩
 have key:=anyIn_of_headQ (F:=F) (n:=n) (g:=l.length - m) (Q:=Q) (Lq:=fun a'=>∀ w',C w'→wpListIn F n P l.toArray Q (l.drop m) a' w') (C:=C) hF hhd hs hc hn' (fun x a w inv hx hC hL=>by
  have hxe:=listed_eq hn inv hx
  have h4:=wpAnyIn_seq (F:=F) (n:=n) (md:=.any) (Q':=Q) (l.drop m) m x a w (fun j=>by simp[List.getElem?_drop]) (by rw[List.length_drop,hxe];exact hseq) (hL w hC)
  rwa [List.length_drop]at h4) (l.take m).length (Array.replicate l.toArray.size false) (Array.replicate (l.take m).toArray.size false) a _ inv0 (fun i hi=>by
   rw[getD_replicate_false,getD_replicate_false,getD_in (by simpa using by omega) (getD_replicate_false _ _),getD_in (by simpa using by omega) (getD_replicate_false _ _)]
   exact⟨rfl,rfl⟩) (by simp;omega) hC hq
 rw[htl]at key
 have e:m+(l.length - m)=l.toArray.size:=by simp;omega
 rw[e]at key
 exact key
end
end Go.Proofs.YtjjiikeldpjafaaGreatDoor
/- A range over a function whose iterator may write one block of its own (a captured variable): the iterator's contract and the law of the statement. The fence is wide; the conditions are what the body keeps. -/
namespace Go.Proofs.YtjjiikeldpjafaaGreatDoor
open Go.RowKit
section
variable {P:Program} {α:Type}
def IStep (row:Option Nat)(A C:World):Prop:=A.grownBy C row∧∀ b,row=some b→∃ c c' e fz,A.heap[b]?=some (.cells c e fz)∧C.heap[b]?=some (.cells c' e fz)
theorem IStep.write {A:World}{b i:Nat}{c:Array Value}{e:TypeId}{fz:Nat × Nat}(h:A.heap[b]?=some (.cells c e fz))(v:Value):IStep (some b) A (A.setCell ⟨b,i,none⟩ v) :=
 ⟨grown_setCell (grown_refl _ _) _ (.inl rfl) _,fun b' hb=>by cases hb;exact⟨_,_,_,_,h,heap_setCell_same _ h⟩⟩
def Iter (P:Program)(gf:Nat)(lb:Array Value)(encs:α→Array Value)(Kp:World→World→Prop)(row:Option Nat)(S Sp:List α→Prop)(N:Nat)(w0:World):Prop :=
 ∀(F:Fence) (n:Nat),Wide F→F.round=none→∀(l:Nat) (J Jx:List α→World→Prop) (W:World),Below w0.heap.size w0 W →
  (∀ pre A B,J pre A→IStep row A B→J pre B)→(∀ pre A B,Jx pre A→IStep row A B→Jx pre B) →
  (∀ pre x W1,J pre W1→pre.length < N→YieldAt F (n - 1) P l (encs x) W1 fun e W' =>
   (e=.returned (.bool true)∧J (pre++[x]) W'∧Kp W1 W')∨(e=.returned (.bool false)∧Jx (pre++[x]) W')) →
  J [] W →
  CallsIn F n P gf (#[.func (.yield l) #[] #[]]++lb) W fun e W'=>(∃ v,e=.returned v)∧((∃ xs,S xs∧J xs W')∨(∃ pre,Sp pre∧Jx pre W'))
def Abide (row:Option Nat)(B:Nat)(I:List α→World→Prop):Prop :=
 (∀ pre A C,I pre A→IStep row A C→I pre C) ∧
 ∀ pre A C r,I pre A→A.grownBy C r→(r=none∨∃ k o,r=some k∧B≤k∧A.heap[k]?=some o∧o.isCells=false)→I pre C
theorem abide_false (row:Option Nat)(B:Nat):Abide (α:=α) row B (fun _ _=>False):=⟨fun _ _ _ h _=>h,fun _ _ _ _ h _ _=>h⟩
theorem abide_pure (row:Option Nat)(B:Nat)(p:List α→Prop):Abide row B (fun pre _=>p pre):=⟨fun _ _ _ h _=>h,fun _ _ _ _ h _ _=>h⟩
theorem abide_and {row:Option Nat}{B:Nat}{I I':List α→World→Prop}(h:Abide row B I)(h':Abide row B I'):Abide row B (fun pre W=>I pre W∧I' pre W) :=
 ⟨fun pre A C hi hs=>⟨h.1 pre A C hi.1 hs,h'.1 pre A C hi.2 hs⟩,fun pre A C r hi hg hr=>⟨h.2 pre A C r hi.1 hg hr,h'.2 pre A C r hi.2 hg hr⟩⟩
theorem abide_ex {row:Option Nat}{B:Nat}{β:Type}{I:β→List α→World→Prop}(h:∀ v,Abide row B (I v)):Abide row B (fun pre W=>∃ v,I v pre W) :=
 ⟨fun pre A C ⟨v,hi⟩ hs=>⟨v,(h v).1 pre A C hi hs⟩,fun pre A C r ⟨v,hi⟩ hg hr=>⟨v,(h v).2 pre A C r hi hg hr⟩⟩
theorem abide_cells {row:Option Nat}{B k:Nat}(f:List α→Obj)(hf:∀ pre,(f pre).isCells=true)(hk:row≠some k):Abide row B (fun pre W=>W.heap[k]?=some (f pre)) :=
 ⟨fun pre A C h hs=>(hs.1.block k (ltA h) (fun e=>hk e.symm)).trans h,
  fun pre A C r h hg hr=>(hg.block k (ltA h) (fun e=>by
  rcases hr with hr | ⟨k',o,hr,_,ho,hc⟩
  ·rw[hr]at e;cases e
  ·rw[hr]at e;cases e;rw[h]at ho;cases ho;rw[hf]at hc;cases hc)).trans h⟩
theorem abide_own {B k:Nat}{e:TypeId}{fz:Nat × Nat}:Abide (α:=α) (some k) B (fun _ W=>∃ c,W.heap[k]?=some (.cells c e fz)) :=
 ⟨fun pre A C ⟨c,h⟩ hs=>by
  obtain⟨c1,c2,e1,f1,g1,g2⟩:=hs.2 k rfl
  rw[h]at g1;cases g1
  exact⟨c2,g2⟩,
  fun pre A C r ⟨c,h⟩ hg hr=>⟨c,(hg.block k (ltA h) (fun e'=>by
  rcases hr with hr | ⟨k',o,hr,_,ho,hc⟩
  ·rw[hr]at e';cases e'
  ·rw[hr]at e';cases e';rw[h]at ho;cases ho;cases hc)).trans h⟩⟩
theorem abide_old {row:Option Nat}{B k:Nat}(o:Obj)(hkB:k < B)(hk:row≠some k):Abide (α:=α) row B (fun _ W=>W.heap[k]?=some o) :=
 ⟨fun pre A C h hs=>(hs.1.block k (ltA h) (fun e=>hk e.symm)).trans h,
  fun pre A C r h hg hr=>(hg.block k (ltA h) (fun e=>by
  rcases hr with hr | ⟨k',o,hr,h1,_,_⟩
  ·rw[hr]at e;cases e
  ·rw[hr]at e;cases e;omega)).trans h⟩
theorem abide_below {row:Option Nat}{B n₀:Nat}{w0:World}(hB:n₀≤B)(hn:n₀≤w0.heap.size)(hk:∀ k,row=some k→n₀≤k):Abide (α:=α) row B (fun _ W=>Below n₀ w0 W) :=
 ⟨fun pre A C h hs=>h.grown hs.1 (Nat.le_trans hn h.size) hk,
  fun pre A C r h hg hr=>h.grown hg (Nat.le_trans hn h.size) (fun k e=>by
  rcases hr with hr | ⟨k',o,hr,h1,_,_⟩
  ·rw[hr]at e;cases e
  ·rw[hr]at e;cases e;omega)⟩
theorem abide_owns {B base k:Nat}{e e':TypeId}{fz:Nat × Nat}{size:Nat}(v:Value)(n:List α→Nat)(xs:List α→List Value)(hne:e≠e') :
  Abide (some k) B (fun pre W=>W.ownsRow base e size v (n pre) (xs pre)∧∃ c,W.heap[k]?=some (.cells c e' fz)):=by
 refine⟨fun pre A C h hs=>⟨h.1.kept hs.1 ?_,(abide_own (α:=α) (B:=B)).1 pre A C h.2 hs⟩,fun pre A C r h hg hr=>⟨h.1.kept hg ?_,(abide_own (α:=α) (B:=B)).2 pre A C r h.2 hg hr⟩⟩
 ·obtain⟨ho,c,hc⟩:=h
  rcases ho.2 with⟨rfl,_⟩ | ⟨g,cap,cur,rfl,_,hgg,_⟩
  ·exact .inl rfl
  ·refine .inr (fun eq=>?_)
   have:g=k:=by simpa [Value.ownBlock]using eq
   subst this
   rw[hgg]at hc;cases hc;exact hne rfl
 ·obtain⟨ho,c,hc⟩:=h
  rcases ho.2 with⟨rfl,_⟩ | ⟨g,cap,cur,rfl,_,hgg,_⟩
  ·exact .inl rfl
  ·refine .inr (fun eq=>?_)
   rcases hr with hr | ⟨k',o,hr,_,ho',hc'⟩
   ·rw[hr]at eq;simp[Value.ownBlock]at eq
   ·rw[hr]at eq
    have:g=k':=by simpa [Value.ownBlock]using eq
    subst this
    rw[hgg]at ho';cases ho';cases hc'
def recOf (fn:Nat)(a:Act)(ps:Array Tmp)(assign body:Code)(D:Nat)(st:LoopState)(pe:Option Code):Loop :=
 { state:=st,pending:=pe,fn,tmps:=a.tmps,params:=ps,assign,body,defers:=D }
def Book (w:World)(r:Loop)(W:World):Prop:=W.heap[w.heap.size+1]?=some (.loop r)∧W.heap[w.heap.size]?=some (.deferred (some []))
theorem Book.grown {w A C:World}{r:Loop}{row:Option Nat}(h:Book w r A)(hg:A.grownBy C row)(hrow:∀ k,row=some k→k < w.heap.size):Book w r C :=
 ⟨(hg.block _ (ltA h.1) (fun e=>by have:=hrow _ e.symm;omega)).trans h.1,
  (hg.block _ (ltA h.2) (fun e=>by have:=hrow _ e.symm;omega)).trans h.2⟩
theorem Book.keeps {w A C:World}{r:Loop}(h:Book w r A)(hk:KeepsFrom w.heap.size A C):Book w r C :=
 ⟨hk.same _ _ (by omega) h.1 rfl,hk.same _ _ (Nat.le_refl _) h.2 rfl⟩
theorem Book.put {w A:World}{r:Loop}(h:Book w r A)(r':Loop):Book w r' (A.putObj (w.heap.size+1) (.loop r')) :=
 ⟨World.putObj_heap_same (ltA h.1),(World.putObj_heap_other (by omega)).trans h.2⟩
def mark (D:Nat):Deferred:={ target:=.collected D,args:=#[] }
def Marks (B:Nat)(Ds:List Nat)(W:World):Prop:=Ds.Nodup∧∀ D∈Ds,B≤D∧W.heap[D]?=some (.deferred (some []))
structure Taken (B:Nat) (W W':World):Prop where
 os:W'.os=W.os
 tape:W'.tape=W.tape
 output:W'.output=W.output
 size:W'.heap.size=W.heap.size
 old:∀ k,k < B→W'.heap[k]?=W.heap[k]?
 cells:∀(k:Nat) (o:Obj),W.heap[k]?=some o→o.isCells=true→W'.heap[k]?=some o
theorem Taken.refl (B:Nat)(W:World):Taken B W W:=⟨rfl,rfl,rfl,rfl,fun _ _=>rfl,fun _ _ h _=>h⟩
theorem Taken.below {B:Nat}{W W':World}(h:Taken B W W'):Below B W W':=⟨h.os,h.tape,h.output,Nat.le_of_eq h.size.symm,h.old⟩
theorem leaves_marks {F:Fence}{q:Nat}{fn:Func}{tmps:Array Value}{R:Ending→World→Prop}{B:Nat}:∀(Ds:List Nat) (W:World),Marks B Ds W →
  (∀ W',Taken B W W'→∃ v,(results fn tmps).run P W'=.ok v W'∧R (.returned v) W')→LeavesInM F q P fn tmps R (Ds.map mark) .returning W
 | [],W,_,h=>by
  obtain⟨v,h1,h2⟩:=h W (Taken.refl B W)
  exact⟨v,h1,h2⟩
 | D::Ds,W,hm,h=>by
  obtain⟨hnd,hall⟩:=hm
  have hD:=hall D (by simp)
  have hlt:D < W.heap.size:=(ltA hD.2)
  have hnot:D ∉ Ds:=(List.nodup_cons.1 hnd).1
  refine⟨by simp,.inl ⟨D,_,rfl,run_takeDeferred hD.2,leaves_marks (B:=B) Ds (W.putObj D (.deferred none)) ⟨(List.nodup_cons.1 hnd).2,fun D' hD'=>?_⟩ (fun W' ht=>h W' ?_)⟩⟩
  ·have:=hall D' (by simp[hD'])
   exact⟨this.1,(World.putObj_heap_other (by intro e;subst e;exact hnot hD')).trans this.2⟩
  ·have hp:=grownBy_putObj' W D (.deferred none)
   refine⟨ht.os.trans hp.os,ht.tape.trans hp.tape,ht.output.trans hp.output,ht.size.trans (by simp),fun k hk=>(ht.old k hk).trans (World.putObj_heap_other (by omega)),fun k o hk ho=>ht.cells k o ?_ ho⟩
   refine(World.putObj_heap_other (by intro e;rw[e,hD.2]at hk;cases hk;cases ho)).trans hk
theorem Taken.owns {B base size n:Nat}{e:TypeId}{v:Value}{xs:List Value}{W W':World}(h:Taken B W W')(ho:W.ownsRow base e size v n xs):W'.ownsRow base e size v n xs:=by
 obtain⟨hl,h2⟩:=ho
 refine⟨hl,?_⟩
 rcases h2 with h2 | ⟨g,cap,cur,hv,hb,hg,hr⟩
 ·exact .inl h2
 ·exact .inr ⟨g,cap,cur,hv,hb,h.cells _ _ hg rfl,hr⟩
theorem wpIn_range {F:Fence}{n:Nat}{g:Operand}{ps:Array Tmp}{assign body:Code}{Q:Exit→Act→World→Prop}{a:Act}{w:World}
  (hF:Wide F) (hro:F.round=none) {gf:Nat} {lb:Array Value} (hg:a.eval g=.func (.func gf) #[] lb) (eg:∀ args w,(callFunc gf args).run P w=.ok (.enter gf args) w)
  {encs:α→Array Value} {Kp:World→World→Prop} {row:Option Nat} {S Sp:List α→Prop} {N:Nat} {w0:World} (hseq:Iter P gf lb encs Kp row S Sp N w0)
  (hb0:Below w0.heap.size w0 w) (hps:∀ x,(encs x).size=ps.size) (hrow:∀ k,row=some k→k < w.heap.size)
  (hKt:∀ {A B C:World},Kp A B→Kp B C→Kp A C) (hKb:∀(W:World) (l:Nat) (o o':Obj),w.heap.size≤l→W.heap[l]?=some o→o.isCells=false→o.isWalk=false→Kp W (W.putObj l o'))
  (I:List α→World→Prop) (Ix:Code→List α→World→Prop) (hI:Abide row w.heap.size I) (hIx:∀ c,Abide row w.heap.size (Ix c)) (h0:I [] w) (a₁:α→Act)
  (hassign:∀(l:Nat) (x:α) (W:World) (K:Act→World→Prop),K (a₁ x) W →
   assign.wpIn (F.inRound l) (n - 1 - 1) P (Exit.then K (fun _ _ _=>False)) { tmps:=(ps.zip (encs x)).foldl (fun t (p,v)=>t.setIfInBounds p v) a.tmps,defers:=[] } W)
  (hbody:∀(l:Nat) (pre:List α) (x:α) (W:World),I pre W→pre.length < N→body.wpIn (F.inRound l) (n - 1 - 1) P (ownPostG w.heap.size Kp I Ix (pre++[x]) W) (a₁ x) W)
  (hdone:∀(D:Nat) (xs:List α) (W:World),w.heap.size≤D→S xs→I xs W→W.heap[D]?=some (.deferred (some []))→Q .normal { a with defers:={ target:=.collected D,args:=#[] }::a.defers } W)
  (hstop:∀(D:Nat) (c:Code) (pre:List α) (W:World),w.heap.size≤D→Sp pre→Ix c pre W→W.heap[D]?=some (.deferred (some []))→c.wpIn F n P Q { a with defers:={ target:=.collected D,args:=#[] }::a.defers } W) :
  (Code.rangeFunc g ps assign body).wpIn F n P Q a w:=by
 refine wpIn_rangeFunc ?_
 intro fn hfn
 rw[hro]
 obtain⟨rec,hrec⟩:∃ rec:LoopState→Option Code→Loop,rec=recOf fn a ps assign body w.heap.size:=⟨_,rfl⟩
 have hparams:∀ st pe,(rec st pe).params=ps:=by intro st pe;rw[hrec];rfl
 obtain⟨W1,hW1⟩:∃ W1,(w.alloc (.deferred (some []))).alloc (.loop (rec .ready none))=W1:=⟨_,rfl⟩
 have hsz:W1.heap.size=w.heap.size+2:=by rw[← hW1];simp
 have hB1:Book w (rec .ready none) W1:=by
  rw[← hW1]
  exact⟨heap_alloc2_new w _ _,heap_alloc2_old w _ _⟩
 have hI1:I [] W1:=by
  rw[← hW1]
  exact hI.2 _ _ _ none (hI.2 _ _ _ none h0 (World.grownBy_alloc w _ none) (.inl rfl)) (World.grownBy_alloc _ _ none) (.inl rfl)
 have hb1:Below w0.heap.size w0 W1:=by
  rw[← hW1];exact hb0.trans ((((Below.refl _ w).alloc (Nat.le_refl _) _).alloc (by simp) _).mono hb0.size)
 -- a turn of the record is borne by all
 have put:∀ {Z:List α→World→Prop} (pre:List α) (W:World) (r r':Loop),Abide row w.heap.size Z→Z pre W→Book w r W→Z pre (W.putObj (w.heap.size+1) (.loop r')) :=
  fun pre W r r' hZ hz hb=>hZ.2 pre W _ (some (w.heap.size+1)) hz (grownBy_putObj' W _ _) (.inr ⟨_,_,rfl,by omega,hb.1,rfl⟩)
 refine⟨w.heap.size+1,[{ target:=.collected w.heap.size,args:=#[] }],W1,{ target:=.fn (.func gf) lb,args:=#[.func (.yield (w.heap.size+1)) #[] #[]] },W1,gf,
  #[.func (.yield (w.heap.size+1)) #[] #[]]++lb,W1,?_,?_,?_,?_,?_,?_⟩
 ·rw[← hW1,hrec];exact run_enterLoop_outer _ _ _ _ _
 ·simp only[resolve,hg]
  simp[go_sem]
 ·intro f' _;exact hF.1 f'
 ·simp[invoke,go_sem,eg]
 ·intro h;rw[hF.2.1]at h;cases h
 refine(hseq F (n - 1) hF hro (w.heap.size+1) (fun pre W=>I pre W∧Book w (rec .ready none) W) (fun pre W=>∃ c,Ix c pre W∧Book w (rec .done (some c)) W) W1 hb1
  (fun pre A B h hg'=>⟨hI.1 pre A B h.1 hg',h.2.grown hg'.1 hrow⟩)
  (fun pre A B h hg'=>let ⟨c,hc,hk⟩:=h;⟨c,(hIx c).1 pre A B hc hg',hk.grown hg'.1 hrow⟩) ?round ⟨hI1,hB1⟩).mono ?behind
 case round =>
  rintro pre x W ⟨hi,hk⟩ hlen
  have hy:=run_yield (P:=P) (args:=encs x) hk.1 (by rw[hparams];exact hps x)
  rw[hrec]at hy
  refine⟨fn,_,assign,body,hy,roundIn_of_wpIn hfn (hassign _ x W _ ⟨_,run_beginRound hk.1 (by rw[hrec];rfl),?_⟩)⟩
  have hbusy:=hk.put { rec .ready none with state:=.busy }
  have hKp1:Kp W (W.putObj (w.heap.size+1) (.loop { rec .ready none with state:=.busy })):=hKb _ _ _ _ (by omega) hk.1 rfl rfl
  refine wpIn_mono (hbody _ pre x _ (put pre W _ _ hI hi hk) hlen) ?_
  -- what the round's end leaves
  have fin:∀(jump:Option Code) (W3:World),KeepsFrom w.heap.size (W.putObj (w.heap.size+1) (.loop { rec .ready none with state:=.busy })) W3 →
    (Instr.endRound (w.heap.size+1) jump).run P W3=.ok (.bool jump.isNone) (W3.putObj (w.heap.size+1) (.loop (rec (if jump.isNone then .ready else .done) jump)))∧Book w { rec .ready none with state:=.busy } W3:=fun jump W3 hk3=>by
   have hb3:=hbusy.keeps hk3
   refine⟨?_,hb3⟩
   have:=run_endRound (P:=P) jump hb3.1
   rw[hrec]at this ⊢
   exact this
  have leave:∀(c:Code) (W3:World),KeepsFrom w.heap.size (W.putObj (w.heap.size+1) (.loop { rec .ready none with state:=.busy })) W3∧Ix c (pre++[x]) W3 →
    ∃ v w',(Instr.endRound (w.heap.size+1) (some c)).run P W3=.ok v w'∧((Ending.returned v=.returned (.bool true)∧(I (pre++[x]) w'∧Book w (rec .ready none) w')∧Kp W w')∨(Ending.returned v=.returned (.bool false)∧∃ c,Ix c (pre++[x]) w'∧Book w (rec .done (some c)) w')):=fun c W3 hp=>by
   obtain⟨hk3,hi3⟩:=hp
   obtain⟨hr,hb3⟩:=fin (some c) W3 hk3
   exact⟨_,_,hr,.inr ⟨rfl,c,put _ W3 _ _ (hIx c) hi3 hb3,hb3.put _⟩⟩
  rintro e a3 W3 hp
  cases e with
  | normal =>
   obtain⟨hk3,hkp3,hi3⟩:=hp
   obtain⟨hr,hb3⟩:=fin none W3 hk3
   exact⟨_,_,hr,.inl ⟨rfl,⟨put _ W3 _ _ hI hi3 hb3,hb3.put _⟩,hKt (hKt hKp1 hkp3) (hKb _ _ _ _ (by omega) hb3.1 rfl rfl)⟩⟩
  | ret=>exact leave .ret W3 hp
  | exit id=>exact leave (.exit id) W3 hp
  | goto t=>exact leave (.goto t) W3 hp
  | panic ch=>exact hp.elim
  | outgrown=>exact hp.elim
 case behind =>
  rintro e W2 ⟨⟨v,rfl⟩,(⟨xs,hS,hi,hk⟩ | ⟨pre,hSp,c,hi,hk⟩)⟩
  ·refine⟨none,_,?_,hdone _ xs _ (Nat.le_refl _) hS (put _ W2 _ { rec .ready none with state:=.exhausted } hI hi hk) (hk.put _).2⟩
   have:=run_endLoop (P:=P) hk.1 (by rw[hrec];simp[recOf])
   rw[hrec]at this ⊢
   exact this
  ·refine⟨some c,_,?_,hstop _ c pre _ (Nat.le_refl _) hSp (put _ W2 _ { rec .done (some c)with state:=.exhausted } (hIx c) hi hk) (hk.put _).2⟩
   have:=run_endLoop (P:=P) hk.1 (by rw[hrec];simp[recOf])
   rw[hrec]at this ⊢
   exact this
end
end Go.Proofs.YtjjiikeldpjafaaGreatDoor
/- slices.Chunk and its iterator; the walk of digest.Sum. The conditions: lengths, the table of constants. -/
namespace Go.Proofs.YtjjiikeldpjafaaGreatDoor
open Go.RowKit Go.BigFrame Go.Shelf
attribute [local go_sem] Oper.semAt_some
set_option maxHeartbeats 400000 in
theorem chunk_any (a:Option Addr)(n c:Nat)(w:World) :
  Calls Tryz.prog 168 #[.slice a n c,.int .i64 64] w fun e w'=>e=.returned (.func (.func 187) #[] #[.pointer (some ⟨w.heap.size,0,none⟩),.pointer (some ⟨w.heap.size+1,0,none⟩)])∧w'=(w.alloc (.cells #[.slice a n c] 88)).alloc (.cells #[.int .i64 64] 3):=by
 go_enter Tryz.func168,Tryz.ntmps168
 go_wp2
 go_ret
 exact⟨rfl,rfl⟩
def chunkV (g k:Nat):Array Value:=#[.slice (some ⟨g,64*k,none⟩) 64 64]
set_option maxRecDepth 100000 in
set_option maxHeartbeats 1000000 in
theorem chunk1_iter (b1 b2 g cap N:Nat)(w0:World)(hN:64*N≤cap)(hcap:cap≤maxLen)(h1:w0.heap[b1]?=some (.cells #[.slice (some ⟨g,0,none⟩) (64*N) cap] 88 (0,0)))(h2:w0.heap[b2]?=some (.cells #[.int .i64 64] 3 (0,0))) :
  Iter Tryz.prog 187 #[.pointer (some ⟨b1,0,none⟩),.pointer (some ⟨b2,0,none⟩)] (fun k:Fin N=>chunkV g k.1) (fun A B=>B.heap[b1]?=A.heap[b1]?∧B.heap[b2]?=A.heap[b2]?) none (fun xs=>xs.map (fun x=>x.1)=List.range N) (fun _=>True) N w0:=by
 intro F m hF hro l J Jx W hW hJ hJx hY h0
 have hbl1:b1 < w0.heap.size:=(ltA h1)
 have hbl2:b2 < w0.heap.size:=(ltA h2)
 have H1:Hid (W.heap[b1]?=some (.cells #[.slice (some ⟨g,0,none⟩) (64*N) cap] 88 (0,0))):=zh ((hW.block b1 hbl1).trans h1)
 have H2:Hid (W.heap[b2]?=some (.cells #[.int .i64 64] 3 (0,0))):=zh ((hW.block b2 hbl2).trans h2)
 clear h1 h2 hW
 unfold maxLen at hcap
 obtain⟨n,hn⟩:∃ n,n=64*N:=⟨_,rfl⟩
 rw[← hn]at H1 hN
 have HNn:=zh hn
 clear hn
 refine callsIn_of_wp Tryz.func187 rfl (hF.1 _) ?_ hro
 simp only[Tryz.ntmps187,List.size_toArray,List.length_cons,List.length_nil,Nat.reduceAdd,Nat.reduceSub,Array.replicate_succ,Array.replicate_zero,List.push_toArray,List.append_toArray,List.nil_append,List.cons_append]
 gi_wp2
 gi_loopw [4,5] (fun i _ wr=>∃(pre:List (Fin N)) (k p:Nat),k≤N∧Hid (pre.map (fun x=>x.1)=List.range k)∧Hid (p=64*k)∧i=.int .i64 p∧Hid (wr.heap[b1]?=some (.cells #[.slice (some ⟨g,0,none⟩) n cap] 88 (0,0)))∧Hid (wr.heap[b2]?=some (.cells #[.int .i64 64] 3 (0,0)))∧J pre wr) (fun i _ wr=>n - (intOf i).toNat)
 case atStart=>exact⟨[],0,0,by omega,rfl,rfl,rfl,H1,H2,h0⟩
 case round =>
  obtain⟨pre,k,p,hk,hpre,hp,rfl,g1,g2,hJs⟩:=hrel
  have c1:wr.cell? ⟨b1,0,none⟩=some (.slice (some ⟨g,0,none⟩) n cap):=cell_of_row wr _ 0 _ _ _ g1.out
  have c2:wr.cell? ⟨b2,0,none⟩=some (.int .i64 64):=cell_of_row wr _ 0 _ _ _ g2.out
  by_cases hlt:k < N
  ·have hpn:p+64≤n:=by have:=hp.out;have:=HNn.out;omega
   have f1:IntKind.i64.wrap ((p:Int)+64)=((p+64:Nat):Int):=by rw[IntWalk.i64_in _ (by omega)];omega
   gi_wp2
   refine wpIn_region_quiet_tail 6 (fun w'=>∃ q,w'=wr.drewN q) hF (by kernel_rfl) (by kernel_rfl) ⟨1,rfl⟩ ?_
   simp only[List.take_succ_cons,List.take_zero,List.drop_succ_cons,List.drop_zero]
   repeat (go_big_quiet_step (fail))
   refine wpQuiet_nil ?_
   rintro _ ⟨nq,rfl⟩
   have g1:Hid ((wr.drewN nq).heap[b1]?=some (.cells #[.slice (some ⟨g,0,none⟩) n cap] 88 (0,0))):=g1
   have g2:Hid ((wr.drewN nq).heap[b2]?=some (.cells #[.int .i64 64] 3 (0,0))):=g2
   have hJs:=hJ _ _ (wr.drewN nq) hJs ⟨grown_drewN (grown_refl _ _) nq,fun b hb=>by cases hb⟩
   generalize wr.drewN nq=wz at *
   have c1:wz.cell? ⟨b1,0,none⟩=some (.slice (some ⟨g,0,none⟩) n cap):=cell_of_row wz _ 0 _ _ _ g1.out
   obtain⟨fn,tmps,assign,body,hy,hR⟩:=hY pre ⟨k,hlt⟩ wz hJs (by have:=congrArg List.length hpre.out;simp at this;omega)
   have hy:Sem.run _ _ _=_:=hy
   unfold chunkV at hy
   rw[← hp.out]at hy
   gi_wp2
   refine⟨fun h=>(by rw[hF.2.1]at h;cases h),hR.mono ?_⟩
   clear c1 c2
   rintro e W3 (⟨rfl,hJ3,hk3⟩ | ⟨rfl,hJx3⟩)
   ·have h1:Hid (W3.heap[b1]?=some (.cells #[.slice (some ⟨g,0,none⟩) n cap] 88 (0,0))):=zh (hk3.1.trans g1.out)
    have h2:Hid (W3.heap[b2]?=some (.cells #[.int .i64 64] 3 (0,0))):=zh (hk3.2.trans g2.out)
    have c2:W3.cell? ⟨b2,0,none⟩=some (.int .i64 64):=cell_of_row W3 _ 0 _ _ _ h2.out
    clear hk3
    gi_wp2
    go_roundw
    case rel=>exact⟨pre++[⟨k,hlt⟩],k+1,p+64,by omega,zh (by rw[List.map_append,hpre.out,List.range_succ];rfl),zh (by rw[hp.out];omega),rfl,h1,h2,hJ3⟩
    case measure=>simp[intOf];omega
   ·gi_wp2
    refine bodyPost_ret (results_none rfl _ _ _) rfl ?_
    exact⟨⟨_,rfl⟩,.inr ⟨_,trivial,hJx3⟩⟩
  ·have ek:k=N:=by omega
   rw[ek]at hpre
   have hpn:p=n:=by rw[hp.out,HNn.out,ek]
   subst hpn
   clear ek
   gi_wp2
   go_end0
   exact⟨⟨_,rfl⟩,.inl ⟨pre,hpre.out,hJs⟩⟩
end Go.Proofs.YtjjiikeldpjafaaGreatDoor
