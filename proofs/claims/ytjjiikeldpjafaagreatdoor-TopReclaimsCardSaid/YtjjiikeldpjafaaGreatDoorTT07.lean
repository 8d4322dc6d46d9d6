/- strings.Builder's methods at a builder that lies in a writer's block: copyCheck, WriteString, String. The conditions: what the builder holds, lengths. -/
import Derived.Lib.Builder
import Derived.Lib.UnsafeStr
import Derived.Lib.AppendStr
import Derived.Laws.Externs
import Derived.Test.YtjjiikeldpjafaaGreatDoorTT06
namespace Go.Proofs.YtjjiikeldpjafaaGreatDoor
open Go.RowKit Go.BigFrame Go.Shelf
theorem builderSize:(Tryz.prog.info? 102).map (·.size)=some 2:=by kernel_rfl
theorem builderLies:liesAt Tryz.prog Tryz.prog.depth 272 (2 / Tryz.prog.cellsOf 272) 0 102 1=true:=by kernel_rfl
set_option maxHeartbeats 1000000 in
set_option maxRecDepth 100000 in
theorem copyCheck_used (b:Nat)(w:World)(h0:w.cell? ⟨b,0,none⟩=some (.pointer (some ⟨b,0,none⟩))) :
  Calls Tryz.prog 68 #[.pointer (some ⟨b,0,none⟩)] w fun e w'=>e=.returned (.tuple #[])∧w'=w:=by
 obtain⟨j,hj,_⟩:=Option.map_eq_some_iff.1 builderSize
 go_enter Tryz.func68,Tryz.ntmps68
 go_wp2
 rw[Lib.run_neq_ptr_same w _ Tryz.underlying100 hj]
 go_wp2
 go_end0
 exact⟨rfl,rfl⟩
set_option maxHeartbeats 1000000 in
set_option maxRecDepth 100000 in
theorem copyCheck_fresh (b:Nat)(w:World)(h0:w.cell? ⟨b,0,none⟩=some (.pointer none))(hsh:w.shape? b=some (272,2))(hfz:w.frozen? ⟨b,0,none⟩=false) :
  Calls Tryz.prog 68 #[.pointer (some ⟨b,0,none⟩)] w fun e w'=>e=.returned (.tuple #[])∧w'=w.setCell ⟨b,0,none⟩ (.pointer (some ⟨b,0,none⟩)):=by
 obtain⟨j,hj,hjs⟩:=Option.map_eq_some_iff.1 builderSize
 go_enter Tryz.func68,Tryz.ntmps68
 go_wp2
 rw[Lib.run_to_unsafe w ⟨b,0,none⟩ Tryz.underlying100 Tryz.underlying196 hj (by rw[hjs];decide) hsh (Nat.zero_lt_succ 1)]
 simp only[Result.andThen]
 rw[Oper.upon_value]
 go_wp2
 rw[run_callFunc_extern Tryz.func97 (by kernel_rfl) (by kernel_rfl) (by kernel_rfl) (e:=Extern.AbiNoEscape.same) (by kernel_rfl)]
 rw[Lib.run_noEscape]
 simp only[Result.andThen]
 rw[Oper.upon_value]
 go_wp2
 rw[Lib.run_from_unsafe w ⟨b,0,none⟩ Tryz.underlying196 Tryz.underlying100 hj hsh builderLies]
 simp only[Result.andThen]
 rw[Oper.upon_value]
 go_wp2
 go_end0
 exact⟨rfl,rfl⟩
theorem copyCheck_any (B b:Nat)(bs:List Value)(w:World)(h:Lib.IsBuilder 272 5 B b bs w) :
  Calls Tryz.prog 68 #[.pointer (some ⟨b,0,none⟩)] w fun e w'=>e=.returned (.tuple #[])∧(Lib.BuilderAt 272 5 B b (.pointer (some ⟨b,0,none⟩)) bs w'∧Below B w w'):=by
 rcases h with h | h
 ·refine(copyCheck_fresh b w h.cell0 h.shape h.frozen0).mono ?_
  rintro e w' ⟨rfl,rfl⟩
  exact⟨rfl,h.used _,(Below.refl B w).setCell (p:=⟨b,0,none⟩) h.1 _⟩
 ·refine(copyCheck_used b w h.cell0).mono ?_
  rintro e w' ⟨rfl,rfl⟩
  exact⟨rfl,h,Below.refl B _⟩
set_option maxHeartbeats 2000000 in
set_option maxRecDepth 100000 in
theorem writeString_any (B b:Nat)(bs:List Value)(s:ByteArray)(w:World)(h:Lib.IsBuilder 272 5 B b bs w)(hlen:bs.length+s.size≤140737488355328)(hBw:B≤w.heap.size) :
  Calls Tryz.prog 31 #[.pointer (some ⟨b,0,none⟩),.string s] w fun e w'=>e=.returned (.tuple #[.int .i64 s.size,.nilIface])∧(Lib.BuilderAt 272 5 B b (.pointer (some ⟨b,0,none⟩)) (bs++Lib.strCells s) w'∧Below B w w'):=by
 obtain⟨i0,hi,hz0,hz1,hz2⟩:=info_parts infoByte
 go_enter Tryz.func31,Tryz.ntmps31
 go_wp2_with (go_at_call 68;refine(copyCheck_any B b bs _ h).mono ?_)
 rintro e w1 ⟨rfl,h1,hb1⟩
 obtain⟨hB,v,hbk,hown,hne⟩:=h1
 have c0:w1.cell? ⟨b,0,none⟩=some (.pointer (some ⟨b,0,none⟩)):=by rw[Lib.cell_of_heap hbk];rfl
 have c1:w1.cell? ⟨b,1,none⟩=some v:=by rw[Lib.cell_of_heap hbk];rfl
 go_wp2_with (at_builtin;refine Lib.wpList_append_own_string _ rfl _ _ 88 9 rfl B 5 i0 (by kernel_rfl) (by kernel_rfl) hi hz0 hz1 hz2 _ _ _ rfl hown s rfl ?c3 ?c4 ?c5 ?_)
 case c3=>unfold maxLen;omega
 case c4=>omega
 case c5=>have:=hb1.size;omega
 intro v' w2 hown' hgrow _
 have hlt:b < w1.heap.size:=by
  rcases Nat.lt_or_ge b w1.heap.size with h' | h'
  ·exact h'
  ·simp[Array.getElem?_eq_none h']at hbk
 have hb2:w2.heap[b]?=some (.cells #[.pointer (some ⟨b,0,none⟩),v] 272 (0,0)):=by
  rw[hgrow.block b hlt (fun e=>hne e.symm)]
  exact hbk
 have d0:w2.cell? ⟨b,0,none⟩=some (.pointer (some ⟨b,0,none⟩)):=by rw[Lib.cell_of_heap hb2];rfl
 have d1:w2.cell? ⟨b,1,none⟩=some v:=by rw[Lib.cell_of_heap hb2];rfl
 have f1:w2.frozen? ⟨b,1,none⟩=false:=Lib.frozen_of_heap hb2 1
 obtain⟨ao,n',cap,rfl⟩:∃ ao n' cap,v'=.slice ao n' cap:=by
  rcases hown'.2 with⟨hv,_⟩ | ⟨g,cap,cur,hv,_⟩
  ·exact⟨_,_,_,hv⟩
  ·exact⟨_,_,_,hv⟩
 go_wp2
 go_ret2
 refine⟨rfl,?_,?_⟩
 ·exact Lib.BuilderAt.put (T:=272) (e:=5) hB hb2 (bs':=bs++Lib.strCells s) (by simpa [Lib.strCells_length]using hown') (by decide)
 ·exact(hb1.grown hgrow (by have:=hb1.size;omega) (fun k hk=>(hown.lt k hk).1)).setCell (p:=⟨b,1,none⟩) hB _
set_option maxHeartbeats 1000000 in
set_option maxRecDepth 100000 in
theorem bstring_any (B b:Nat)(l:List UInt8)(w:World)(h:Lib.BuilderAt 272 5 B b (.pointer (some ⟨b,0,none⟩)) (Lib.byteCells l) w)(h0:l≠[]) :
  Calls Tryz.prog 32 #[.pointer (some ⟨b,0,none⟩)] w fun e w'=>e=.returned (.string ⟨l.toArray⟩)∧Below B w w':=by
 obtain⟨hB,v,hbk,hown,hne⟩:=h
 have hl0:l.length≠0:=by simpa using h0
 rw[Lib.byteCells_length]at hown
 obtain⟨g,cap,cur,rfl,hbg,hg,hnc,hcm,hcs,htake⟩:∃ g cap cur,v=.slice (some ⟨g,0,none⟩) l.length cap∧B≤g∧w.heap[g]?=some (.cells cur 5 (0,0))∧l.length≤cap∧cap≤maxLen∧cur.size=cap*1∧cur.toList.take (l.length*1)=Lib.byteCells l:=by
  rcases hown.2 with⟨_,hz⟩ | ⟨g,cap,cur,hv,r⟩
  ·exact absurd hz hl0
  ·exact⟨g,cap,cur,hv,r⟩
 have c1:w.drew.cell? ⟨b,1,none⟩=some (.slice (some ⟨g,0,none⟩) l.length cap):=by
  have:w.drew.heap[b]?=some (.cells #[.pointer (some ⟨b,0,none⟩),.slice (some ⟨g,0,none⟩) l.length cap] 272 (0,0)):=hbk
  rw[Lib.cell_of_heap this];rfl
 have hSD:(Builtin.unsafeSliceData_ #[88] 154 #[.slice (some ⟨g,0,none⟩) l.length cap]).run Tryz.prog w.drew=.ok (.pointer (some ⟨g,0,none⟩)) w.drew :=
  Lib.run_unsafeSliceData_row _ _ _ _ _ _ (by omega)
 have hUS:(Builtin.unsafeString_ #[154,3] 9 #[.pointer (some ⟨g,0,none⟩),.int .i64 l.length]).run Tryz.prog w.drew=.ok (.string ⟨l.toArray⟩) (w.drew.freeze ⟨g,0,none⟩ l.length):=by
  refine Lib.run_unsafeString_row w.drew 154 3 9 5 (by kernel_rfl) (by kernel_rfl) g cur.size (by have hg':w.drew.heap[g]?=some (.cells cur 5 (0,0)):=hg;simp[World.shape?,hg']) l h0 (by omega) (by unfold maxLen at hcm;omega) ?_
  intro j x hx
  have:=hown.cells (g:=g) rfl j (.int .u8 x.toNat) (by simp[Lib.byteCells,hx])
  exact this
 go_enter Tryz.func32,Tryz.ntmps32
 go_wp2
 go_region
 all_goals (go_wp2;go_ret;exact⟨rfl,Lib.below_freeze (Below.drew (Below.refl B w)) (p:=⟨g,0,none⟩) hbg _⟩)
end Go.Proofs.YtjjiikeldpjafaaGreatDoor
/- Walks of package register: isWithin, isKey, Valid. The conditions: what the slices read as. -/
namespace Go.Proofs.YtjjiikeldpjafaaGreatDoor
open Go.RowKit Go.BigFrame
set_option maxHeartbeats 400000 in
theorem within_any (n lo hi:Int)(w:World) :
  Calls Tryz.prog 119 #[.int .i64 n,.int .i64 lo,.int .i64 hi] w fun e w'=>e=.returned (.bool (decide (lo≤n∧n≤hi)))∧w'=w:=by
 by_cases h1:lo≤n
 ·have hd:decide (lo≤n)=true:=decide_eq_true h1
  go_enter Tryz.func119,Tryz.ntmps119
  go_wp2
  go_ret
  refine⟨ret_bool ?_,rfl⟩
  rw[Bool.eq_iff_iff]
  simp
  try omega
 ·have hd:decide (lo≤n)=false:=decide_eq_false h1
  go_enter Tryz.func119,Tryz.ntmps119
  go_wp2
  go_ret
  refine⟨ret_bool ?_,rfl⟩
  simp
set_option maxHeartbeats 400000 in
theorem isKey_any (s:ByteArray)(w:World):Calls Tryz.prog 117 #[.string s] w fun e w'=>e=.returned (.bool (decide (s.size=32)))∧w'=w:=by
 go_enter Tryz.func117,Tryz.ntmps117
 go_wp2
 go_ret
 refine⟨ret_bool ?_,rfl⟩
 rw[Bool.eq_iff_iff]
 simp
 try omega
theorem valid1_fn:PredFn 157 (fun s=>decide (1000 < s.size)):=by
 refine⟨fun _ _=>by kernel_rfl,fun s w=>?_⟩
 go_enter Tryz.func157,Tryz.ntmps157
 go_wp2
 go_ret
 refine⟨ret_bool ?_,rfl⟩
 rw[Bool.eq_iff_iff]
 simp
 try omega
theorem validB_is (car:Int)(xs:List ByteArray):validB ⟨car,xs⟩=(decide (0≤car∧car≤7) && (decide ((xs.length:Int)≤60) && !(xs.any fun s=>decide (1000 < s.size)))):=by
 rw[Bool.eq_iff_iff]
 simp[validB]
 constructor
 ·rintro⟨a,b,c,d⟩
  exact⟨⟨a,b⟩,by omega,d⟩
 ·rintro⟨⟨a,b⟩,c,d⟩
  exact⟨a,b,by omega,d⟩
set_option maxHeartbeats 1000000 in
theorem valid_any (car:Int){w:World}{v:Value}{xs:List ByteArray}(hr:SS w v xs) :
  Calls Tryz.prog 118 #[.agg #[.int .i64 car,v]] w fun e w'=>e=.returned (.bool (validB ⟨car,xs⟩))∧w'=w.alloc (.cells #[.int .i64 car,v] 134):=by
 obtain⟨a,cap,rfl,l1,l2,l3⟩:=hr.opened
 have HC:=zh (containsS_any 157 _ valid1_fn (hr.below (w':=w.alloc (.cells #[.int .i64 car,.slice a xs.length cap] 134)) (br0.alloc (Nat.le_refl _) _)))
 rw[validB_is]
 generalize xs.any (fun s=>decide (1000 < s.size))=b at *
 generalize xs.length=n at *
 clear l3 hr
 by_cases h1:0≤car∧car≤7
 ·have d1:decide (0≤car∧car≤7)=true:=decide_eq_true h1
  by_cases h2:(n:Int)≤60
  ·have d2:decide ((n:Int)≤60)=true:=decide_eq_true h2
   go_enter Tryz.func118,Tryz.ntmps118
   go_wp2_with (first | (go_at_call 119;refine(within_any _ _ _ _).mono ?_;rintro e w1 ⟨rfl,rfl⟩;rw[d1]) | (go_at_call 99;refine HC.out.mono ?_;rintro e w1 ⟨rfl,rfl⟩))
   go_ret
   refine⟨ret_bool ?_,rfl⟩
   simp[d1,d2]
  ·have d2:decide ((n:Int)≤60)=false:=decide_eq_false h2
   go_enter Tryz.func118,Tryz.ntmps118
   go_wp2_with (first | (go_at_call 119;refine(within_any _ _ _ _).mono ?_;rintro e w1 ⟨rfl,rfl⟩;rw[d1]) | (go_at_call 99;refine HC.out.mono ?_;rintro e w1 ⟨rfl,rfl⟩))
   go_ret
   refine⟨ret_bool ?_,rfl⟩
   simp[d1,d2]
 ·have d1:decide (0≤car∧car≤7)=false:=decide_eq_false h1
  go_enter Tryz.func118,Tryz.ntmps118
  go_wp2_with (first | (go_at_call 119;refine(within_any _ _ _ _).mono ?_;rintro e w1 ⟨rfl,rfl⟩;rw[d1]) | (go_at_call 99;refine HC.out.mono ?_;rintro e w1 ⟨rfl,rfl⟩))
  go_ret
  refine⟨ret_bool ?_,rfl⟩
  simp[d1]
end Go.Proofs.YtjjiikeldpjafaaGreatDoor
/- wire.PutInt at a small number: one group. The condition: the number is from 0 to 63. -/
namespace Go.Proofs.YtjjiikeldpjafaaGreatDoor
open Go.RowKit Go.BigFrame Go.Shelf
attribute [local go_sem] Oper.semAt_some
set_option maxHeartbeats 400000 in
theorem groups_any (z:Nat)(w:World) :
  Calls Tryz.prog 96 #[.int .u64 z] w fun e w'=>e=.returned (.func (.func 142) #[] #[.pointer (some ⟨w.heap.size,0,none⟩)])∧w'=w.alloc (.cells #[.int .u64 z] 195):=by
 go_enter Tryz.func96,Tryz.ntmps96
 go_wp2
 go_ret
 exact⟨rfl,rfl⟩
theorem low7:∀ z:Fin 128,bits BinOp.and IntKind.u64 ((z.val:Nat):Int) 127 % 256=((z.val:Nat):Int):=by decide +kernel
set_option maxRecDepth 100000 in
set_option maxHeartbeats 1000000 in
theorem groups1_iter (b z:Nat)(hz:z < 128)(w0:World)(h1:w0.heap[b]?=some (.cells #[.int .u64 z] 195 (0,0))) :
  Iter Tryz.prog 142 #[.pointer (some ⟨b,0,none⟩)] (fun _:Unit=>#[.int .u8 z,.bool true]) (fun A B=>B.heap[b]?=A.heap[b]?) none (fun ys=>ys.length=1) (fun _=>True) 1 w0:=by
 intro F m hF hro l J Jx W hW hJ hJx hY h0
 have hbl1:b < w0.heap.size:=(ltA h1)
 have H1:Hid (W.heap[b]?=some (.cells #[.int .u64 z] 195 (0,0))):=zh ((hW.block b hbl1).trans h1)
 clear h1 hW
 have cI:W.cell? ⟨b,0,none⟩=some (.int .u64 z):=cell_of_row W _ 0 _ _ _ H1.out
 refine callsIn_of_wp Tryz.func142 rfl (hF.1 _) ?_ hro
 simp only[Tryz.ntmps142,List.size_toArray,List.length_cons,List.length_nil,Nat.reduceAdd,Nat.reduceSub,Array.replicate_succ,Array.replicate_zero,List.push_toArray,List.append_toArray,List.nil_append,List.cons_append]
 have hlt:(z:Int) < 128:=by omega
 obtain⟨fn,tmps,assign,body,hy,hR⟩:=hY [] () W h0 (by decide)
 have hy:Sem.run _ (Instr.yield l #[.int .u8 (z:Nat),.bool true]) _=_:=hy
 have hand:bits BinOp.and IntKind.u64 (z:Int) 127 % 256=(z:Int):=low7 ⟨z,hz⟩
 gi_wp2
 gi_loopw [3] (fun _ wr=>wr=W) (fun _ wr=>0)
 case atStart=>rfl
 case round =>
  subst hrel
  gi_wp2
  refine⟨fun h=>(by rw[hF.2.1]at h;cases h),hR.mono ?_⟩
  rintro e W3 (⟨rfl,hJ3,hk3⟩ | ⟨rfl,hJx3⟩)
  ·gi_wp2
   refine bodyPost_ret (results_none rfl _ _ _) rfl ?_
   exact⟨⟨_,rfl⟩,.inl ⟨[()],rfl,hJ3⟩⟩
  ·gi_wp2
   refine bodyPost_ret (results_none rfl _ _ _) rfl ?_
   exact⟨⟨_,rfl⟩,.inr ⟨_,trivial,hJx3⟩⟩
theorem wpListIn_append_el {F:Fence}{n:Nat}{P:Program}{ops:Array Oper}{rest:List Oper}{o:Oper}{a:Act}{w:World}{Q:Exit→Act→World→Prop}(t e:TypeId)(size bytes:Nat)(z:Value)(ht:P.underlying t=some (.slice e))(hinfo:(P.info? e).map (fun i=>(i.zero,i.size,i.bytes))=some (some z,size,bytes))(hzs:z.cells.size=size)(hsz:0 < size)
  (hgd:o.guard=none) (s x:Operand) (ho:o.op=.call { callee:=.builtin .append,args:=#[s,x],argTypes:=#[t,t] })
  (base:Nat) (v:Value) (css:List (List Value)) (hs:a.eval s=v) (hown:OwnE w base e size v css) (b:Nat) (c:List Value) (hc:c.length=size) (hone:∀ u∈c,u.oneCell'=true) (hx:a.eval x=.slice (some ⟨b,0,none⟩) 1 1) (fr:Nat × Nat)
  (hb:w.heap[b]?=some (.cells c.toArray e fr)) (h63:css.length+1≤maxLen) (hbytes:(css.length+1)*bytes≤140737488355328) (hbase:base≤w.heap.size)
  (h:∀ v' w',OwnE w' base e size v' (css++[c])→w.grownBy w' v.ownBlock→wpListIn F n P ops Q rest (a.put o.dst v') w'):wpListIn F n P ops Q (o::rest) a w:=by
 obtain⟨i,i1,i2,i3,i4⟩:=info_parts hinfo
 refine wpListIn_append_own w hgd s x t ho base e i z size bytes ht i1 i2 i3 i4 hzs hsz v _ _ hs hown ⟨b,0,none⟩ 1 1 c hx (by omega) ?_ hone h63 hbytes hbase ?_
 ·intro j u hj
  rw[Addr.add_mid,cell_of_row w _ (0+j) _ _ _ hb,Nat.zero_add,List.getElem?_toArray]
  exact hj
 ·intro v' w' h1 h2 _
  refine h v' w' ?_ h2
  unfold OwnE
  rw[List.length_append,List.flatten_append]
  simpa using h1
theorem OwnE.one_form {w:World}{base:Nat}{e:TypeId}{v u:Value}(h:OwnE w base e 1 v ([]++[[u]])) :
  ∃ g cap cur,v=.slice (some ⟨g,0,none⟩) 1 cap∧base≤g∧w.heap[g]?=some (.cells cur e (0,0))∧cur[0]?=some u∧1≤cap∧cap≤maxLen:=by
 unfold OwnE at h
 rcases h.2 with⟨_,h0⟩ | ⟨g,cap,cur,hv,hb,hg,h1,h2,h3,h4⟩
 ·simp at h0
 ·refine⟨g,cap,cur,by simpa using hv,hb,hg,?_,by simpa using h1,h2⟩
  have h5:=congrArg (·[0]?) h4
  simpa using h5
theorem infoU8:(Tryz.prog.info? 5).map (fun i=>(i.zero,i.size,i.bytes))=some (some (.int .u8 0),1,1):=by kernel_rfl
theorem xor0:∀ n:Fin 64,bits BinOp.xor IntKind.u64 (((n.val:Nat):Int)*2) 0=((2*n.val:Nat):Int):=by decide +kernel
theorem shr63 (n:Nat)(hn:n < 64)(w:World):(Op.shift BinOp.shr IntKind.i64 (n:Int) IntKind.u64 63).run Tryz.prog w=.ok (.int .i64 0) w:=by
 have h:n=0∨n=1∨n=2∨n=3∨n=4∨n=5∨n=6∨n=7∨n=8∨n=9∨n=10∨n=11∨n=12∨n=13∨n=14∨n=15∨n=16∨n=17∨n=18∨n=19∨n=20∨n=21∨n=22∨n=23∨n=24∨n=25∨n=26∨n=27∨n=28∨n=29∨n=30∨n=31∨n=32∨n=33∨n=34∨n=35∨n=36∨n=37∨n=38∨n=39∨n=40∨n=41∨n=42∨n=43∨n=44∨n=45∨n=46∨n=47∨n=48∨n=49∨n=50∨n=51∨n=52∨n=53∨n=54∨n=55∨n=56∨n=57∨n=58∨n=59∨n=60∨n=61∨n=62∨n=63:=by omega
 rcases h with rfl | rfl | rfl | rfl | rfl | rfl | rfl | rfl | rfl | rfl | rfl | rfl | rfl | rfl | rfl | rfl | rfl | rfl | rfl | rfl | rfl | rfl | rfl | rfl | rfl | rfl | rfl | rfl | rfl | rfl | rfl | rfl | rfl | rfl | rfl | rfl | rfl | rfl | rfl | rfl | rfl | rfl | rfl | rfl | rfl | rfl | rfl | rfl | rfl | rfl | rfl | rfl | rfl | rfl | rfl | rfl | rfl | rfl | rfl | rfl | rfl | rfl | rfl | rfl <;> rfl
theorem wpList_shr63 {ops:Array Oper}{rest:List Oper}{o:Oper}{a:Act}{w:World}{Q:Exit→Act→World→Prop}(n:Nat)(hn:n < 64)(x y:Operand)(hgd:o.guard=none)(ho:o.op=Op.binOp BinOp.shr 3 x y 118)(hx:a.eval x=.int .i64 n)(hy:a.eval y=.int .u64 63)
  (h:wpList Tryz.prog ops Q rest (a.put o.dst (.int .i64 0)) w):wpList Tryz.prog ops Q (o::rest) a w:=by
 refine wpList_run hgd ?_ h
 unfold execOp
 simp only[ho,hx,hy]
 simp only[go_sem]
 simp[shr63 n hn w]
set_option maxHeartbeats 100000 in
set_option maxRecDepth 100000 in
theorem putInt_any (n:Nat)(hn:n < 64)(w:World) :
  Calls Tryz.prog 67 #[.int .i64 n] w fun e w'=>e=.returned (.tuple #[.string (strOf [2*n]),.int .i64 0])∧Below w.heap.size w w':=by
 have h1:decide ((n:Int) < -4611686018427387903)=false:=decide_eq_false (by omega)
 have h2:decide ((4611686018427387903:Int) < (n:Int))=false:=decide_eq_false (by omega)
 have hq:(n:Int) / 9223372036854775808=0:=by omega
 obtain⟨z,hz⟩:∃ z,z=2*n:=⟨_,rfl⟩
 have hz128:z < 128:=by omega
 have hxor:bits BinOp.xor IntKind.u64 ((n:Int)*2) 0=(z:Int):=by rw[hz];exact xor0 ⟨n,hn⟩
 rw[← hz]
 clear hz
 refine calls_of_callsIn (n:=8) Wide.wide (callsIn_of_wp_marks Tryz.func67 rfl trivial ?_)
 simp only[Tryz.ntmps67,List.size_toArray,List.length_cons,List.length_nil,Nat.reduceAdd,Nat.reduceSub,Array.replicate_succ,Array.replicate_zero,List.push_toArray,List.append_toArray,List.nil_append,List.cons_append]
 refine wpIn_wide.2 ?_
 go_wp2_with (first | (refine wpList_shr63 n hn (.tmp 16) (.const (.int .u64 63)) rfl rfl rfl rfl ?_) | (go_at_call 96;(try rw[hxor]);refine(groups_any z _).mono ?_;rintro e w1 ⟨rfl,rfl⟩))
 obtain⟨W5,hW5⟩:∃ W5,W5=(w.alloc (.cells #[.slice none 0 0] 88)).alloc (.cells #[.int .u64 z] 195):=⟨_,rfl⟩
 rw[← hW5]
 have HB0:Hid (W5.heap[w.heap.size]?=some (.cells #[.slice none 0 0] 88 (0,0))):=zh (by rw[hW5];exact at_past w _ _)
 have HB1:Hid (W5.heap[w.heap.size+1]?=some (.cells #[.int .u64 z] 195 (0,0))):=zh (by rw[hW5];exact at_second w _ _)
 have HBw:Hid (Below w.heap.size w W5):=zh (by rw[hW5];exact(br0.alloc (by omega) _).alloc (by simp) _)
 have hs5:W5.heap.size=w.heap.size+2:=by rw[hW5];simp
 obtain⟨b0,hb0⟩:∃ b0,b0=w.heap.size:=⟨_,rfl⟩
 rw[← hb0]at HB0 HB1 hs5 ⊢
 have hwb:w.heap.size≤b0:=by omega
 clear hb0 hW5
 refine(wpIn_wide (n:=8)).1 ?_
 refine wpIn_range (n:=8) Wide.wide rfl (gf:=142) (lb:=#[.pointer (some ⟨b0+1,0,none⟩)]) ?ev (fun args w=>?enter) (groups1_iter (b0+1) z hz128 W5 HB1.out) br0 (fun x=>rfl) (fun q e=>by cases e) (fun h h'=>h'.trans h) (fun W l o o' h1 h2 h3 h4=>?kb)
  (fun pre W=>(∃(v:Value) (g:Nat) (cur:Array Value) (e:TypeId) (fz:Nat × Nat),W.heap[b0]?=some (.cells #[v] 88 (0,0))∧(W.heap[g]?=some (.cells cur e fz)∧((pre=[]→v=.slice none 0 0)∧(pre≠[]→(∃ cap,v=.slice (some ⟨g,0,none⟩) 1 cap)∧cur[0]?=some (.int .u8 z)))))∧(W.heap[b0+1]?=some (.cells #[.int .u64 z] 195 (0,0))∧Below w.heap.size w W))
  (fun _ _ _=>False) ?abide (fun _=>abide_false _ _) ⟨⟨_,_,_,_,_,HB0.out,HB0.out,fun _=>rfl,fun h=>absurd rfl h⟩,HB1.out,HBw.out⟩ (fun x=>⟨#[Value.int IntKind.i64 n,undef,Value.string ⟨#[]⟩,Value.int IntKind.i64 0,Value.pointer (some ⟨b0,0,none⟩),Value.int IntKind.u8 z,Value.bool true,Value.int IntKind.i64 n,Value.bool false,Value.bool false,Value.int IntKind.i64 n,Value.bool false,Value.bool false,Value.int IntKind.i64 n,Value.int IntKind.u64 n,Value.int IntKind.u64 ((n:Int)*2),Value.int IntKind.i64 n,Value.int IntKind.i64 0,Value.int IntKind.u64 0,Value.int IntKind.u64 z,Value.func (Fn.func 142) #[] #[Value.pointer (some ⟨b0+1,0,none⟩)],Value.int IntKind.u8 z,Value.bool true,undef,undef,undef,undef,undef,undef,undef,undef,undef,undef],[]⟩) (fun l x W K hK=>?assign) (fun l pre x W hI hlen=>?body) (fun Dm xs W hDm hS hI hDd=>?done) (fun Dm c pre W hD hS hI=>hI.elim)
 case assign =>
  simp only[List.zip_toArray,List.zip_cons_cons,List.zip_nil_right,List.foldl_toArray',List.foldl_cons,List.foldl_nil,List.setIfInBounds_toArray,List.set_cons_succ,List.set_cons_zero]
  gi_wp2
  exact hK
 case ev=>rfl
 case enter=>kernel_rfl
 case kb=>exact World.putObj_heap_other (fun e=>by omega)
 case abide=>exact abide_and (abide_ex fun v=>abide_ex fun g=>abide_ex fun cur=>abide_ex fun e=>abide_ex fun fz=>abide_and (abide_cells (fun _=>.cells #[v] 88) (fun _=>rfl) (by simp)) (abide_and (abide_cells (fun _=>.cells cur e fz) (fun _=>rfl) (by simp)) (abide_pure _ _ _))) (abide_and (abide_old _ (by omega) (by simp)) (abide_below (by omega) (Nat.le_refl _) (fun q e=>by cases e)))
 case body =>
  obtain rfl:pre=[]:=List.eq_nil_of_length_eq_zero (by omega)
  obtain⟨⟨v,g,cur,e,fz,g1,_,hv,_⟩,g2,g3⟩:=hI
  obtain rfl:=hv rfl
  have hs7:=g3.size
  have hb0W:b0+1 < W.heap.size:=(ltA g2)
  have c1:W.cell? ⟨b0,0,none⟩=some (.slice none 0 0):=cell_of_row W _ 0 _ _ _ g1
  have G1:=zh g1
  have G2:=zh g2
  have G3:=zh g3
  clear g1 g2 g3 hv
  gi_wp2_with (refine wpListIn_append_el 88 5 1 1 _ (by kernel_rfl) infoU8 rfl (by decide) rfl (.tmp 27) (.tmp 29) rfl W.heap.size _ [] rfl (OwnE.nil _ _ _ _) W.heap.size [.int .u8 z] rfl (fun u hu=>by rw[List.mem_singleton]at hu;subst hu;rfl) rfl (0,0) (heap_alloc_new _ _) (by decide) (by decide) (by simp) ?_;intro v3 w3 ho3 hg3;obtain⟨g3,cap3,cur3,rfl,hbg3,hgg3,hcu3,hcc3,hcm3⟩:=ho3.one_form;have HG3:Hid ((W.alloc (.cells #[.int .u8 z] 5)).grownBy w3 none):=zh hg3;clear ho3 hg3;have HH3:=zh hgg3;have HU3:=zh hcu3;clear hgg3 hcu3;have HC3:Hid (w3.heap[b0]?=some (.cells #[.slice none 0 0] 88 (0,0))):=zh ((HG3.out.block _ (by simp;omega) (by simp)).trans ((Below.heap_alloc _ _ _ (by omega)).trans G1.out));have d1:w3.cell? ⟨b0,0,none⟩=some (.slice none 0 0):=cell_of_row w3 _ 0 _ _ _ HC3.out;have cf1:w3.frozen? ⟨b0,0,none⟩=false:=(by simp[World.frozen?,HC3.out]))
  have hset:w3.grownBy (w3.setCell ⟨b0,0,none⟩ (.slice (some ⟨g3,0,none⟩) 1 cap3)) (some b0):=grown_setCell (grown_refl _ _) _ (.inl rfl) _
  have keep:∀(q:Nat) (o:Obj),W.heap[q]?=some o→q≠b0→(w3.setCell ⟨b0,0,none⟩ (.slice (some ⟨g3,0,none⟩) 1 cap3)).heap[q]?=some o:=fun q o hq hne=>by
   have hql:=(ltA hq)
   have hq1:=(HG3.out.block q (by simp;omega) (by simp)).trans ((Below.heap_alloc _ _ _ hql).trans hq)
   exact(hset.block q (ltA hq1) (fun e=>hne (Option.some.inj e))).trans hq1
  have hsz3:W.heap.size+1≤w3.heap.size:=by have:=HG3.out.size;simpa using this
  refine⟨⟨by have:=hset.size;omega,fun q o hB hq hnc=>keep q o hq (fun e=>?_)⟩,(keep _ _ G2.out (by omega)).trans G2.out.symm,⟨_,g3,cur3,5,(0,0),?_,?_,fun h=>absurd h (by simp),fun _=>⟨⟨cap3,rfl⟩,HU3.out⟩⟩,keep _ _ G2.out (by omega),?_⟩
  ·subst e
   rw[G1.out]at hq
   cases hq
   exact absurd hnc (by simp[Obj.isCells])
  ·rw[heap_setCell_same _ HC3.out]
   rfl
  ·exact(hset.block g3 (ltA HH3.out) (fun e=>by have:=Option.some.inj e;omega)).trans HH3.out
  ·have hb1:Below w.heap.size w w3:=((G3.out.alloc hs7 _).grown HG3.out (by simp;omega) (fun j e=>by cases e))
   exact hb1.grown hset (by omega) (fun j e=>by cases e;exact hwb)
 case done =>
  obtain⟨⟨v,g,cur,e,fz,g1,g4,_,hv⟩,_,g3⟩:=hI
  have hxs:xs≠[]:=fun e=>by rw[e]at hS;cases hS
  obtain⟨⟨cap,rfl⟩,hcu⟩:=hv hxs
  have c1:W.cell? ⟨b0,0,none⟩=some (.slice (some ⟨g,0,none⟩) 1 cap):=cell_of_row W _ 0 _ _ _ g1
  have HC:Hid (∀ j y,[z][j]?=some y→W.cell? ⟨g,0+j,none⟩=some (.int .u8 (y:Nat))):=zh (fun j y hj=>by
   match j,hj with
   | 0,hj =>
    cases hj
    rw[Nat.zero_add,cell_of_row W _ 0 _ _ _ g4]
    exact hcu)
  have G4:=zh g3
  have HDd:=zh hDd
  have hsW:=g3.size
  clear hS g1 g3 g4 hDd hcu hv
  show Exit.inBlock _ _ _ (Act.mk _ [{ target:=.collected Dm,args:=#[] }]) W
  go_wp2_with (refine wpList_convS [z] (fun y hy=>by rw[List.mem_singleton]at hy;omega) 88 9 5 _ g 0 1 cap rfl rfl rfl rfl (by kernel_rfl) (by kernel_rfl) (by kernel_rfl) HC.out ?_)
  have hM:Marks w.heap.size [Dm] W:=⟨by simp,fun D hD=>by
   rw[List.mem_singleton]at hD
   subst hD
   exact⟨by omega,HDd.out⟩⟩
  refine leaves_marks (B:=w.heap.size) [Dm] W hM (fun W'' hT=>⟨_,results_tmp2 rfl _ _ _,?_,G4.out.trans hT.below⟩)
  rfl
end Go.Proofs.YtjjiikeldpjafaaGreatDoor
/- Walks of package register: the writer's number, what is signed for a head. The conditions: the numbers are small, lengths, the table of constants. -/
namespace Go.Proofs.YtjjiikeldpjafaaGreatDoor
open Go.RowKit Go.BigFrame
theorem below_grown {w w':World}(hb:Below w.heap.size w w'):w.grownBy w' none:=⟨hb.os,hb.tape,hb.output,hb.size,fun i hi _=>hb.block i hi⟩
theorem builder_keep {T e:TypeId}{B b:Nat}{p:Value}{bs:List Value}{w w':World}(h:Lib.BuilderAt T e B b p bs w)(hb:Below w.heap.size w w'):Lib.BuilderAt T e B b p bs w':=by
 have hlt:=h.lt
 obtain⟨hB,v,hbk,hown,hne⟩:=h
 refine⟨hB,v,(hb.block b hlt).trans hbk,?_,hne⟩
 exact owns_any hown (below_grown hb)
theorem isBuilder_keep {T e:TypeId}{B b:Nat}{bs:List Value}{w w':World}(h:Lib.IsBuilder T e B b bs w)(hb:Below w.heap.size w w'):Lib.IsBuilder T e B b bs w':=by
 rcases h with h | h
 ·exact .inl (builder_keep h hb)
 ·exact .inr (builder_keep h hb)
set_option maxHeartbeats 1000000 in
theorem number_any (B b:Nat)(bs:List Value)(i:Int)(n:Nat)(hi:i=n)(hn:n < 64)(w:World)(h:Lib.IsBuilder 272 5 B b bs w)(hlen:bs.length≤1000000)(hBw:B≤w.heap.size) :
  Calls Tryz.prog 159 #[.pointer (some ⟨b,0,none⟩),.int .i64 i] w fun e w'=>e=.returned (.tuple #[])∧Lib.BuilderAt 272 5 B b (.pointer (some ⟨b,0,none⟩)) (bs++Lib.strCells (strOf [2*n])) w'∧Below B w w':=by
 subst hi
 have HP:=zh (putInt_any n hn w)
 have HW:Hid (∀ W,Below w.heap.size w W→Calls Tryz.prog 31 #[.pointer (some ⟨b,0,none⟩),.string (strOf [2*n])] W fun e w'=>e=.returned (.tuple #[.int .i64 (strOf [2*n]).size,.nilIface])∧(Lib.BuilderAt 272 5 B b (.pointer (some ⟨b,0,none⟩)) (bs++Lib.strCells (strOf [2*n])) w'∧Below B W w')):=zh (fun W hW =>
  writeString_any B b bs (strOf [2*n]) W (isBuilder_keep h hW) (by rw[strOf_size];simp;omega) (Nat.le_trans hBw hW.size))
 obtain⟨S,hS⟩:∃ S,S=strOf [2*n]:=⟨_,rfl⟩
 rw[← hS]at HP HW ⊢
 clear hS h
 go_enter Tryz.func159,Tryz.ntmps159
 go_wp2_with (first | (go_at_call 67;refine HP.out.mono ?_;rintro e w1 ⟨rfl,hb1⟩;have HB1:=zh hb1;clear hb1) | (go_at_call 31;refine(HW.out _ HB1.out).mono ?_;rintro e w2 ⟨rfl,hb2,hb3⟩))
 go_end0
 exact⟨rfl,hb2,(HB1.out.mono hBw).trans hb3⟩
def headV (h:HeadP):Value:=.agg #[.int .i64 h.car,.int .i64 h.siz,.string h.root,.string h.sl]
theorem cells_content (c s:Nat)(root:ByteArray):(((([]:List Value)++Lib.strCells (strOf [2*4]))++Lib.strCells (strOf [2*c]))++Lib.strCells (strOf [2*s]))++Lib.strCells root=Lib.byteCells ([8,UInt8.ofNat (2*c),UInt8.ofNat (2*s)]++root.data.toList):=by
 rw[Lib.byteCells_append]
 rfl
set_option maxHeartbeats 2000000 in
set_option maxRecDepth 100000 in
theorem sealed_any (key:ByteArray)(car siz:Int)(root sl:ByteArray)(c s:Nat)(hc:car=c)(hs:siz=s)(hc6:c < 64)(hs6:s < 64)(w:World)(hk:key.size≤1000)(hr:root.size≤1000)(he:Env w)(hg:0 < w.heap.size) :
  Calls Tryz.prog 121 #[.string key,.agg #[.int .i64 car,.int .i64 siz,.string root,.string sl]] w fun e w'=>e=.returned (.string (signedB key ⟨car,siz,root,sl⟩))∧Below w.heap.size w w':=by
 have HE:=zh he
 have HG:=zh hg
 clear he hg
 have hR:Hid (signedB key ⟨car,siz,root,sl⟩=nodeS key (leafS ⟨([8,UInt8.ofNat (2*c),UInt8.ofNat (2*s)]++root.data.toList).toArray⟩)):=zh (by subst hc hs;rfl)
 obtain⟨R,hR0⟩:∃ R,R=signedB key ⟨car,siz,root,sl⟩:=⟨_,rfl⟩
 rw[← hR0]at hR ⊢
 have HCc:=zh hc
 have HSs:=zh hs
 clear hR0 hc hs
 go_enter Tryz.func121,Tryz.ntmps121
 go_wp2_with fail
 obtain⟨W1,hW1⟩:∃ W1,W1=(w.alloc (.cells #[.int .i64 car,.int .i64 siz,.string root,.string sl] 66)).alloc (.cells #[.pointer none,.slice none 0 0] 272):=⟨_,rfl⟩
 rw[← hW1]
 have HB1:Hid (Below w.heap.size w W1):=zh (by rw[hW1];exact(br0.alloc (Nat.le_refl _) _).alloc (by simp) _)
 have HH1:Hid (W1.heap[w.heap.size]?=some (.cells #[.int .i64 car,.int .i64 siz,.string root,.string sl] 66 (0,0))):=zh (by rw[hW1];exact at_past w _ _)
 have HF1:Hid (Lib.IsBuilder 272 5 (w.heap.size+1) (w.heap.size+1) [] W1):=zh (by
  have:=Lib.fresh_isBuilder 272 5 (w.alloc (.cells #[.int .i64 car,.int .i64 siz,.string root,.string sl] 66))
  rw[World.size_alloc]at this
  rw[hW1]
  exact this)
 have hs1:W1.heap.size=w.heap.size+2:=by rw[hW1];simp
 clear hW1
 refine(number_any (w.heap.size+1) (w.heap.size+1) [] 4 4 rfl (by omega) W1 HF1.out (by simp) (by omega)).mono ?_
 rintro e w1 ⟨rfl,hf2,hb2⟩
 have HF2:=zh hf2
 have HB2:=zh hb2
 have HH2:Hid (w1.heap[w.heap.size]?=some (.cells #[.int .i64 car,.int .i64 siz,.string root,.string sl] 66 (0,0))):=zh ((hb2.block w.heap.size (by omega)).trans HH1.out)
 have cc2:w1.cell? ⟨w.heap.size,0,none⟩=some (.int .i64 car):=cell_of_row w1 _ 0 _ _ _ HH2.out
 have hs2:=hb2.size
 clear hf2 hb2
 go_wp2_with fail
 clear cc2
 refine(number_any (w.heap.size+1) (w.heap.size+1) _ car c HCc.out hc6 w1 (.inr HF2.out) (by simp[Lib.strCells_length,strOf_size]) (by omega)).mono ?_
 rintro e w2 ⟨rfl,hf3,hb3⟩
 have HF3:=zh hf3
 have HB3:=zh (HB2.out.trans hb3)
 have HH3:Hid (w2.heap[w.heap.size]?=some (.cells #[.int .i64 car,.int .i64 siz,.string root,.string sl] 66 (0,0))):=zh ((hb3.block w.heap.size (by omega)).trans HH2.out)
 have cc3:w2.cell? ⟨w.heap.size,1,none⟩=some (.int .i64 siz):=cell_of_row w2 _ 1 _ _ _ HH3.out
 have hs3:=hb3.size
 clear hf3 hb3
 go_wp2_with fail
 clear cc3
 refine(number_any (w.heap.size+1) (w.heap.size+1) _ siz s HSs.out hs6 w2 (.inr HF3.out) (by simp[Lib.strCells_length,strOf_size]) (by omega)).mono ?_
 rintro e w3 ⟨rfl,hf4,hb4⟩
 have HF4:=zh hf4
 have HB4:=zh (HB3.out.trans hb4)
 have HH4:Hid (w3.heap[w.heap.size]?=some (.cells #[.int .i64 car,.int .i64 siz,.string root,.string sl] 66 (0,0))):=zh ((hb4.block w.heap.size (by omega)).trans HH3.out)
 have cc4:w3.cell? ⟨w.heap.size,2,none⟩=some (.string root):=cell_of_row w3 _ 2 _ _ _ HH4.out
 have hs4:=hb4.size
 clear hf4 hb4
 go_wp2_with fail
 clear cc4
 refine(writeString_any (w.heap.size+1) (w.heap.size+1) _ root w3 (.inr HF4.out) (by simp[Lib.strCells_length,strOf_size];omega) (by omega)).mono ?_
 rintro e w4 ⟨rfl,hf5,hb5⟩
 rw[cells_content]at hf5
 have HF5:=zh hf5
 have HB5:=zh (HB4.out.trans hb5)
 have hs5:=hb5.size
 clear hf5 hb5
 go_wp2_with fail
 refine(bstring_any (w.heap.size+1) (w.heap.size+1) _ w4 HF5.out (by simp)).mono ?_
 rintro e w5 ⟨rfl,hb6⟩
 have HB6:=zh (HB5.out.trans hb6)
 have hs6:=hb6.size
 clear hb6
 have HT:Hid (Below w.heap.size w w5):=zh (HB1.out.trans (HB6.out.mono (by omega)))
 have hcs:((⟨([8,UInt8.ofNat (2*c),UInt8.ofNat (2*s)]++root.data.toList).toArray⟩:ByteArray)).size≤1003:=by
  show(List.toArray _).size≤_
  simp only[List.size_toArray,List.length_append,List.length_cons,List.length_nil,Array.length_toList]
  have:root.data.size=root.size:=rfl
  omega
 obtain⟨C,hC⟩:∃ C:ByteArray,C=⟨([8,UInt8.ofNat (2*c),UInt8.ofNat (2*s)]++root.data.toList).toArray⟩:=⟨_,rfl⟩
 rw[← hC]at hR hcs ⊢
 clear hC
 go_wp2_with fail
 refine(leaf_any C w5 (by omega) (HE.out.below (HT.out.mono (by omega)) HG.out) (Nat.lt_of_lt_of_le HG.out HT.out.size)).mono ?_
 rintro e w6 ⟨rfl,hb7⟩
 have HT2:=zh (HT.out.trans (hb7.mono (by have:=HT.out.size;omega)))
 clear hb7
 go_wp2_with fail
 refine(node_any key (leafS C) w6 (by omega) (by rw[leafS_size];omega) (HE.out.below (HT2.out.mono (by omega)) HG.out) (Nat.lt_of_lt_of_le HG.out HT2.out.size)).mono ?_
 rintro e w7 ⟨rfl,hb8⟩
 rw[← hR.out]
 go_wp2_with fail
 go_ret
 refine⟨rfl,?_⟩
 exact HT2.out.trans (hb8.mono (by have:=HT2.out.size;omega))
end Go.Proofs.YtjjiikeldpjafaaGreatDoor
/- Walks of package register: Genuine. The conditions: lengths, the table of constants. -/
namespace Go.Proofs.YtjjiikeldpjafaaGreatDoor
open Go.RowKit Go.BigFrame
theorem genuine_no (key:ByteArray)(car siz:Int)(root sl:ByteArray)(h:¬ (key.size=32∧(0≤car∧car≤7)∧(0≤siz∧siz≤60)∧root.size=32)):genuineB key ⟨car,siz,root,sl⟩=false:=by
 unfold genuineB
 apply decide_eq_false
 rintro⟨a,b,c,d,_⟩
 exact h ⟨a,b,c,d⟩
theorem genuine_yes (key:ByteArray)(car siz:Int)(root sl:ByteArray)(h0:key.size=32)(h1:0≤car∧car≤7)(h2:0≤siz∧siz≤60)(h3:root.size=32):genuineB key ⟨car,siz,root,sl⟩=decide (sl=signedB key ⟨car,siz,root,sl⟩):=by
 unfold genuineB
 rw[Bool.eq_iff_iff,decide_eq_true_iff,decide_eq_true_iff]
 exact⟨fun h=>h.2.2.2.2,fun h=>⟨h0,h1,h2,h3,h⟩⟩
set_option maxHeartbeats 4000000 in
set_option maxRecDepth 100000 in
theorem genuine_any (key:ByteArray)(car siz:Int)(root sl:ByteArray)(w:World)(hk:key.size≤1000)(hr:root.size≤1000)(he:Env w)(hg:0 < w.heap.size) :
  Calls Tryz.prog 85 #[.string key,.agg #[.int .i64 car,.int .i64 siz,.string root,.string sl]] w fun e w'=>e=.returned (.bool (genuineB key ⟨car,siz,root,sl⟩))∧Below w.heap.size w w':=by
 have HE:=zh he
 have HG:=zh hg
 clear he hg
 by_cases h0:key.size=32
 ·have d0:decide (key.size=32)=true:=decide_eq_true h0
  by_cases h1:0≤car∧car≤7
  ·have d1:decide (0≤car∧car≤7)=true:=decide_eq_true h1
   by_cases h2:0≤siz∧siz≤60
   ·have d2:decide (0≤siz∧siz≤60)=true:=decide_eq_true h2
    by_cases h3:root.size=32
    ·have HY:=zh (genuine_yes key car siz root sl h0 h1 h2 h3)
     obtain⟨c,hc⟩:=Int.eq_ofNat_of_zero_le h1.1
     obtain⟨s,hs⟩:=Int.eq_ofNat_of_zero_le h2.1
     obtain⟨G,hG⟩:∃ G,G=genuineB key ⟨car,siz,root,sl⟩:=⟨_,rfl⟩
     rw[← hG]at HY ⊢
     clear hG
     have HS:Hid (∀ W:World,Below w.heap.size w W→Calls Tryz.prog 121 #[.string key,.agg #[.int .i64 car,.int .i64 siz,.string root,.string sl]] W fun e w'=>e=.returned (.string (signedB key ⟨car,siz,root,sl⟩))∧Below W.heap.size W w'):=zh (fun W hW=>sealed_any key car siz root sl c s hc hs (by omega) (by omega) W hk hr (HE.out.below hW HG.out) (Nat.lt_of_lt_of_le HG.out hW.size))
     generalize signedB key ⟨car,siz,root,sl⟩=Z at *
     have b3:((root.size:Int) == 32)=true:=by rw[h3];rfl
     clear h0 h1 h2 h3 hc hs
     go_enter Tryz.func85,Tryz.ntmps85
     go_wp2_with (go_at_call 119;refine(within_any _ _ _ _).mono ?_;rintro e w1 ⟨rfl,rfl⟩;(first | rw[d1] | rw[d2]))
     have hC:∀ W:World,Below w.heap.size w W→W.heap[w.heap.size]?=some (.cells #[.int .i64 car,.int .i64 siz,.string root,.string sl] 66 (0,0))→W.cell? ⟨w.heap.size,0,none⟩=some (.int .i64 car)∧W.cell? ⟨w.heap.size,1,none⟩=some (.int .i64 siz)∧W.cell? ⟨w.heap.size,2,none⟩=some (.string root)∧W.cell? ⟨w.heap.size,3,none⟩=some (.string sl):=fun W _ h=>⟨cell_of_row W _ 0 _ _ _ h,cell_of_row W _ 1 _ _ _ h,cell_of_row W _ 2 _ _ _ h,cell_of_row W _ 3 _ _ _ h⟩
     have HC:=zh hC
     clear hC
     have HB0:Hid (∀ q,Below w.heap.size w ((w.alloc (.cells #[.int .i64 car,.int .i64 siz,.string root,.string sl] 66)).drewN q)):=zh (fun q=>below_drewN (br0.alloc (Nat.le_refl _) _) q)
     have HH0:Hid (∀ q,((w.alloc (.cells #[.int .i64 car,.int .i64 siz,.string root,.string sl] 66)).drewN q).heap[w.heap.size]?=some (.cells #[.int .i64 car,.int .i64 siz,.string root,.string sl] 66 (0,0))):=zh (fun q=>heap_alloc_new w _)
     have C0:=(HC.out _ (HB0.out 1) (HH0.out 1)).1
     have C1:=(HC.out _ (HB0.out 1) (HH0.out 1)).2.1
     have C2:=(HC.out _ (HB0.out 1) (HH0.out 1)).2.2.1
     have C3:=(HC.out _ (HB0.out 1) (HH0.out 1)).2.2.2
     go_region_held3 (fun w'=>w'.cell? ⟨w.heap.size,0,none⟩=some (.int .i64 car)∧w'.cell? ⟨w.heap.size,1,none⟩=some (.int .i64 siz)∧w'.cell? ⟨w.heap.size,2,none⟩=some (.string root)∧w'.cell? ⟨w.heap.size,3,none⟩=some (.string sl))
      (first | (exact⟨C0,C1,C2,C3⟩) | (exact HC2.out) | (simp[*];done))
      ((first | (go_at_call 117;refine(isKey_any _ _).mono ?_;rintro e w1 ⟨rfl,rfl⟩;rw[d0]) | (go_at_call 121;refine(HS.out _ (HB0.out 1)).mono ?_;rintro e w2 ⟨rfl,hb2⟩;have HC2:=zh (HC.out _ ((HB0.out 1).trans (hb2.mono (HB0.out 1).size)) ((hb2.block _ (by simp)).trans (HH0.out 1)));have HB2:=zh ((HB0.out 1).trans (hb2.mono (HB0.out 1).size));clear hb2)))
     all_goals
      go_wp2
      go_ret
      refine⟨ret_bool ?_,HB2.out⟩
      rw[HY.out,same_str]
    ·have b3:((root.size:Int) == 32)=false:=by simp;omega
     have HN:=zh (genuine_no key car siz root sl (by omega))
     rw[HN.out]
     clear HN
     go_enter Tryz.func85,Tryz.ntmps85
     go_wp2_with (go_at_call 119;refine(within_any _ _ _ _).mono ?_;rintro e w1 ⟨rfl,rfl⟩;(first | rw[d1] | rw[d2]))
     go_quiet ((refine(isKey_any _ _).mono ?_;rintro e w1 ⟨rfl,rfl⟩;rw[d0];exact⟨rfl,_,rfl⟩))
     go_wp2
     go_ret
     exact⟨rfl,below_drewN (br0.alloc (Nat.le_refl _) _) _⟩
   ·have d2:decide (0≤siz∧siz≤60)=false:=decide_eq_false h2
    have HN:=zh (genuine_no key car siz root sl (by omega))
    rw[HN.out]
    clear HN
    go_enter Tryz.func85,Tryz.ntmps85
    go_wp2_with (go_at_call 119;refine(within_any _ _ _ _).mono ?_;rintro e w1 ⟨rfl,rfl⟩;(first | rw[d1] | rw[d2]))
    go_quiet ((refine(isKey_any _ _).mono ?_;rintro e w1 ⟨rfl,rfl⟩;rw[d0];exact⟨rfl,_,rfl⟩))
    go_wp2
    go_ret
    exact⟨rfl,below_drewN (br0.alloc (Nat.le_refl _) _) _⟩
  ·have d1:decide (0≤car∧car≤7)=false:=decide_eq_false h1
   have HN:=zh (genuine_no key car siz root sl (by omega))
   rw[HN.out]
   clear HN
   go_enter Tryz.func85,Tryz.ntmps85
   go_wp2_with (go_at_call 119;refine(within_any _ _ _ _).mono ?_;rintro e w1 ⟨rfl,rfl⟩;(first | rw[d1] | rw[d2]))
   go_quiet ((refine(isKey_any _ _).mono ?_;rintro e w1 ⟨rfl,rfl⟩;rw[d0];exact⟨rfl,_,rfl⟩))
   go_wp2
   go_ret
   exact⟨rfl,below_drewN (br0.alloc (Nat.le_refl _) _) _⟩
 ·have d0:decide (key.size=32)=false:=decide_eq_false h0
  by_cases h1:0≤car∧car≤7
  ·have d1:decide (0≤car∧car≤7)=true:=decide_eq_true h1
   by_cases h2:0≤siz∧siz≤60
   ·have d2:decide (0≤siz∧siz≤60)=true:=decide_eq_true h2
    by_cases h3:root.size=32
    ·have b3:((root.size:Int) == 32)=true:=by rw[h3];rfl
     have HN:=zh (genuine_no key car siz root sl (by omega))
     rw[HN.out]
     clear HN
     go_enter Tryz.func85,Tryz.ntmps85
     go_wp2_with (go_at_call 119;refine(within_any _ _ _ _).mono ?_;rintro e w1 ⟨rfl,rfl⟩;(first | rw[d1] | rw[d2]))
     go_quiet ((refine(isKey_any _ _).mono ?_;rintro e w1 ⟨rfl,rfl⟩;rw[d0];exact⟨rfl,_,rfl⟩))
     go_wp2
     go_ret
     exact⟨rfl,below_drewN (br0.alloc (Nat.le_refl _) _) _⟩
    ·have b3:((root.size:Int) == 32)=false:=by simp;omega
     have HN:=zh (genuine_no key car siz root sl (by omega))
     rw[HN.out]
     clear HN
     go_enter Tryz.func85,Tryz.ntmps85
     go_wp2_with (go_at_call 119;refine(within_any _ _ _ _).mono ?_;rintro e w1 ⟨rfl,rfl⟩;(first | rw[d1] | rw[d2]))
     go_quiet ((refine(isKey_any _ _).mono ?_;rintro e w1 ⟨rfl,rfl⟩;rw[d0];exact⟨rfl,_,rfl⟩))
     go_wp2
     go_ret
     exact⟨rfl,below_drewN (br0.alloc (Nat.le_refl _) _) _⟩
   ·have d2:decide (0≤siz∧siz≤60)=false:=decide_eq_false h2
    have HN:=zh (genuine_no key car siz root sl (by omega))
    rw[HN.out]
    clear HN
    go_enter Tryz.func85,Tryz.ntmps85
    go_wp2_with (go_at_call 119;refine(within_any _ _ _ _).mono ?_;rintro e w1 ⟨rfl,rfl⟩;(first | rw[d1] | rw[d2]))
    go_quiet ((refine(isKey_any _ _).mono ?_;rintro e w1 ⟨rfl,rfl⟩;rw[d0];exact⟨rfl,_,rfl⟩))
    go_wp2
    go_ret
    exact⟨rfl,below_drewN (br0.alloc (Nat.le_refl _) _) _⟩
  ·have d1:decide (0≤car∧car≤7)=false:=decide_eq_false h1
   have HN:=zh (genuine_no key car siz root sl (by omega))
   rw[HN.out]
   clear HN
   go_enter Tryz.func85,Tryz.ntmps85
   go_wp2_with (go_at_call 119;refine(within_any _ _ _ _).mono ?_;rintro e w1 ⟨rfl,rfl⟩;(first | rw[d1] | rw[d2]))
   go_quiet ((refine(isKey_any _ _).mono ?_;rintro e w1 ⟨rfl,rfl⟩;rw[d0];exact⟨rfl,_,rfl⟩))
   go_wp2
   go_ret
   exact⟨rfl,below_drewN (br0.alloc (Nat.le_refl _) _) _⟩
end Go.Proofs.YtjjiikeldpjafaaGreatDoor
