/- TopReclaims: slices.AppendSeq, Collect at a claim's statuses. The conditions: what the iterator gives. -/
import Derived.Maps.OwnIn
import Derived.Test.YtjjiikeldpjafaaGreatDoorTT23
namespace Go.Proofs.YtjjiikeldpjafaaGreatDoor
open Go.RowKit Go.BigFrame
attribute [local go_sem] Oper.semAt_some
def stCl (x:St):List Value:=[.int .i64 x.1,.int .i64 x.2.1,.int .i64 x.2.2]
theorem infoStatus3:(Tryz.prog.info? 217).map (fun i=>(i.zero,i.size,i.bytes))=some (some (.agg #[.int .i64 0,.int .i64 0,.int .i64 0]),3,24):=by kernel_rfl
theorem wpListIn_append_elAt {F:Fence}{n:Nat}{P:Program}{ops:Array Oper}{rest:List Oper}{o:Oper}{a:Act}{w:World}{Q:Exit→Act→World→Prop}(t e:TypeId)(size bytes:Nat)(z:Value)(ht:P.underlying t=some (.slice e))(hinfo:(P.info? e).map (fun i=>(i.zero,i.size,i.bytes))=some (some z,size,bytes))(hzs:z.cells.size=size)(hsz:0 < size)
  (hgd:o.guard=none) (s x:Operand) (ho:o.op=.call { callee:=.builtin .append,args:=#[s,x],argTypes:=#[t,t] })
  (base:Nat) (v:Value) (css:List (List Value)) (hs:a.eval s=v) (hown:OwnE w base e size v css) (b:Nat) (c:List Value) (hc:c.length=size) (hone:∀ u∈c,u.oneCell'=true) (hx:a.eval x=.slice (some ⟨b,0,none⟩) 1 1) (fr:Nat × Nat)
  (hb:w.heap[b]?=some (.cells c.toArray e fr)) (h63:css.length+1≤maxLen) (hbytes:(css.length+1)*bytes≤140737488355328) (hbase:base≤w.heap.size)
  (h:∀ v' w',OwnE w' base e size v' (css++[c])→w.grownBy w' v.ownBlock→(v'.ownBlock=v.ownBlock∨v'.ownBlock=some w.heap.size)→wpListIn F n P ops Q rest (a.put o.dst v') w'):wpListIn F n P ops Q (o::rest) a w:=by
 obtain⟨i,i1,i2,i3,i4⟩:=info_parts hinfo
 refine wpListIn_append_own_at w hgd s x t ho base e i z size bytes ht i1 i2 i3 i4 hzs hsz v _ _ hs hown ⟨b,0,none⟩ 1 1 c hx (by omega) ?_ hone h63 hbytes hbase ?_
 ·intro j u hj
  rw[Addr.add_mid,cell_of_row w _ (0+j) _ _ _ hb,Nat.zero_add,List.getElem?_toArray]
  exact hj
 ·intro v' w' h1 h2 _ h4
  refine h v' w' ?_ h2 h4
  unfold OwnE
  rw[List.length_append,List.flatten_append]
  simpa using h1
theorem abideS_ownN {α:Type}{R:Nat→Prop}{B base size:Nat}{e:TypeId}(v:Value)(f:List α→List (List Value))(hR:∀ k,R k→v.ownBlock≠some k):AbideS (α:=α) R B (fun pre W=>OwnE W base e size v (f pre)) :=
 ⟨fun pre A C h ⟨r,hg,hr⟩=>World.ownsRow.kept h hg (by
  cases r with
  | none =>
   cases hv:v.ownBlock with
   | none=>exact .inl rfl
   | some x=>exact .inr (by simp)
  | some b=>exact .inr (fun e'=>hR b (hr b rfl) e')),
  fun pre A C r h hg hr=>World.ownsRow.kept h hg (by
  rcases hr with hr | ⟨k,o,hr,_,ho,hc⟩
  ·rw[hr]
   cases hv:v.ownBlock with
   | none=>exact .inl rfl
   | some x=>exact .inr (by simp)
  ·rcases h.2 with⟨rfl,_⟩ | ⟨g,cap,cur,rfl,_,hgg,_⟩
   ·exact .inl rfl
   ·refine .inr (fun e'=>?_)
    rw[hr]at e'
    have e2:g=k:=by simpa [Value.ownBlock]using e'
    subst e2
    rw[hgg]at ho
    cases ho
    cases hc)⟩
def SeqI (B sb:Nat)(w:World)(nb:Nat)(pre:List St)(W:World):Prop :=
 (∃ v,v.ownBlock≠some nb∧(W.heap[sb]?=some (.cells #[v] 213 (0,0))∧OwnE W w.heap.size 217 3 v (pre.map stCl)))∧Below B w W
set_option maxHeartbeats 4000000 in
set_option maxRecDepth 100000 in
theorem appendSeqC_any {c:Mc}{w:World}{bm bl:Nat}(L0:List St)(hI:∀ W,Below w.heap.size w W→IterN Tryz.prog 178 #[.pointer (some ⟨bm,0,none⟩),.pointer (some ⟨bl,0,none⟩)] stE StKp (StR c) (fun xs=>xs=L0) (fun _=>True) 4 W){B:Nat}(hB:B≤c.mb)(hmb:c.mb < w.heap.size) :
  Calls Tryz.prog 177 #[.slice none 0 0,.func (.func 178) #[] #[.pointer (some ⟨bm,0,none⟩),.pointer (some ⟨bl,0,none⟩)]] w fun e w'=>∃ v,e=.returned v∧OwnE w' w.heap.size 217 3 v (L0.map stCl)∧Below B w w':=by
 obtain⟨W1,hW1⟩:∃ W1,W1=w.alloc (.cells #[.slice none 0 0] 213):=⟨_,rfl⟩
 have HB1:Hid (Below w.heap.size w W1):=zh (by rw[hW1];exact br0.alloc (Nat.le_refl _) _)
 have HP1:Hid (W1.heap[w.heap.size]?=some (.cells #[.slice none 0 0] 213 (0,0))):=zh (by rw[hW1];exact heap_alloc_new w _)
 have hs1:W1.heap.size=w.heap.size+1:=by rw[hW1];simp
 have HI:=zh (hI W1 HB1.out)
 have HW1:=zh hW1
 clear hI hW1
 refine calls_of_callsIn (n:=8) Wide.wide (callsIn_of_wp_marks Tryz.func177 rfl trivial ?_)
 simp only[Tryz.ntmps177,List.size_toArray,List.length_cons,List.length_nil,Nat.reduceAdd,Nat.reduceSub,Array.replicate_succ,Array.replicate_zero,List.push_toArray,List.append_toArray,List.nil_append,List.cons_append]
 refine wpIn_wide.2 ?_
 go_wp2
 rw[← HW1.out]
 refine(wpIn_wide (n:=8)).1 ?_
 refine wpIn_rangeN (n:=8) Wide.wide rfl (gf:=178) (lb:=#[.pointer (some ⟨bm,0,none⟩),.pointer (some ⟨bl,0,none⟩)]) ?ev (fun args w=>?enter) HI.out br0 (fun x=>rfl) (fun nb k h1 h2=>?hrow) (fun _ h h'=>h.trans h') (fun nb W o o' h1 h2 h3 h4=>?kb)
  (SeqI B w.heap.size w) (fun _ _ _ _=>False) (fun nb hnb=>?abide) (fun _ _ _=>abideS_false _ _) (fun nb hnb=>⟨⟨_,by simp[Value.ownBlock],HP1.out,OwnE.nil _ _ _ _⟩,HB1.out.mono (by omega)⟩)
  (fun a x a' W=>∃ q,W.heap[q]?=some (stC x)∧a'=⟨(a.tmps.setIfInBounds 7 (.agg #[.int .i64 x.1,.int .i64 x.2.1,.int .i64 x.2.2])).setIfInBounds 5 (.pointer (some ⟨q,0,none⟩)),[]⟩)
  (fun x a' W l o o' h1 h2 h3 h4=>?a1) (fun nb A C h1 h2=>StKp.grown h2) (fun l nb pre x W K hI hK=>?assign) (fun lr nb pre x a' W hnb hlt hI hlen hA=>?body) (fun Dm nb xs W hDm hnb hS hI hDd=>?done) (fun Dm c nb pre W hD hnb hS hI=>hI.elim)
 case hrow=>rcases h2 with rfl | rfl <;> omega
 case kb =>
  have k:∀ {c:Nat} {o2:Obj},W.heap[c]?=some o2→c≠W1.heap.size+1→(W.putObj (W1.heap.size+1) o').heap[c]?=some o2:=fun g1 g2=>(World.putObj_heap_other g2).trans g1
  refine⟨by simp[World.putObj],fun k2 cs T g _ _=>k g (fun e=>?_),fun cs g=>k g (by omega),fun k2 es clk g=>k g (fun e=>?_)⟩
  ·subst e
   rw[h2]at g
   cases g
   cases h3
  ·subst e
   rw[h2]at g
   cases g
   exact h4 _ _ rfl
 case a1 =>
  obtain⟨q,hq,ha⟩:=h1
  exact⟨q,(World.putObj_heap_other (fun e=>by subst e;rw[h3]at hq;cases hq;cases h4)).trans hq,ha⟩
 case ev=>rfl
 case enter=>kernel_rfl
 case assign =>
  obtain⟨s,t,z⟩:=x
  unfold stE stC at *
  simp only[List.zip_toArray,List.zip_cons_cons,List.zip_nil_right,List.foldl_toArray',List.foldl_cons,List.foldl_nil,List.setIfInBounds_toArray,List.set_cons_succ,List.set_cons_zero]
  gi_wp2
  exact hK _ _ ⟨W.heap.size,heap_alloc_new _ _,rfl⟩ (World.grownBy_alloc _ _ _)
 case abide =>
  refine abideS_and (abideS_ex fun v=>?_) (abideS_below (by omega) (by omega) (fun k hk=>by rcases hk with rfl | rfl <;> omega))
  by_cases hv:v.ownBlock=some nb
  ·exact⟨fun _ _ _ h=>absurd hv h.1,fun _ _ _ _ h=>absurd hv h.1⟩
  ·by_cases hv2:v.ownBlock=some c.mb
   ·have hF:∀(pre:List St) (W:World),¬ OwnE W w.heap.size 217 3 v (pre.map stCl):=fun pre W h=>by
     have:=OwnE.ge h _ hv2
     omega
    exact⟨fun _ _ _ h=>absurd h.2.2 (hF _ _),fun _ _ _ _ h=>absurd h.2.2 (hF _ _)⟩
   ·refine abideS_and (abideS_pure _ _ (fun _=>v.ownBlock≠some nb)) (abideS_and (abideS_cells (fun _=>.cells #[v] 213 (0,0)) (fun _=>rfl) (fun hk=>?_)) (abideS_ownN v _ (fun k hk e=>?_)))
    ·rcases hk with h | h <;> omega
    ·rcases hk with rfl | rfl
     ·exact hv2 e
     ·exact hv e
 case body =>
  obtain⟨q,hq,rfl⟩:=hA
  obtain⟨⟨v,hvn,g1,g2⟩,g3⟩:=hI
  obtain⟨s,t,z⟩:=x
  obtain⟨v0,v1,v2⟩:=three_cellsC hq
  simp only at v0 v1 v2
  have c1:W.cell? ⟨w.heap.size,0,none⟩=some v:=cell_of_row W _ 0 _ _ _ g1
  have hsW:=(ltA g1)
  obtain⟨va,vc,hv⟩:=OwnE.form g2
  have hLl:(pre.map stCl).length < 4:=by rw[List.length_map];exact hlen
  obtain⟨L,hL⟩:∃ L,L=pre.map stCl:=⟨_,rfl⟩
  have HMP:Hid ((pre++[(s,t,z)]).map stCl=L++[[.int .i64 s,.int .i64 t,.int .i64 z]]):=zh (by rw[List.map_append,hL];rfl)
  rw[← hL]at g2 hv hLl
  subst hv
  have G1:=zh g1
  have G2:=zh g2
  have G3:=zh g3
  have HVN:=zh hvn
  clear g1 g2 g3 hL hvn
  simp only[List.setIfInBounds_toArray,List.set_cons_succ,List.set_cons_zero]
  have HC0:=zh (heap_alloc_new W (.cells #[.int .i64 s,.int .i64 t,.int .i64 z] 217))
  gi_wp2_with (refine wpListIn_append_elAt 213 217 3 24 _ (by kernel_rfl) infoStatus3 rfl (by decide) rfl (.tmp 8) (.tmp 10) rfl w.heap.size (.slice va L.length vc) L rfl (OwnE.alloc G2.out _) W.heap.size [.int .i64 s,.int .i64 t,.int .i64 z] rfl (fun u hu=>by simp only[List.mem_cons,List.not_mem_nil,or_false]at hu;rcases hu with rfl | rfl | rfl <;> rfl) rfl (0,0) (heap_alloc_new _ _) (by unfold maxLen;omega) (by omega) (by simp;omega) ?_;intro v3 w3 ho3 hg3 hat3;have HG3:=zh hg3;have HO3:=zh ho3;have HAT:=zh hat3;clear ho3 hg3 hat3;have HC3:Hid (w3.heap[w.heap.size]?=some (.cells #[.slice va L.length vc] 213 (0,0))):=zh ((HG3.out.block _ (by simp;omega) (own_ne G2.out G1.out (fun c e=>by cases e))).trans ((Below.heap_alloc _ _ _ hsW).trans G1.out));have d1:w3.cell? ⟨w.heap.size,0,none⟩=some (.slice va L.length vc):=cell_of_row w3 _ 0 _ _ _ HC3.out;have cf1:w3.frozen? ⟨w.heap.size,0,none⟩=false:=(by simp[World.frozen?,HC3.out]);obtain⟨a3,cp3,hv3⟩:=HO3.out.form;generalize (L++[[Value.int .i64 s,.int .i64 t,.int .i64 z]]).length=M3 at hv3;subst hv3)
  have hset:w3.grownBy (w3.setCell ⟨w.heap.size,0,none⟩ (.slice a3 M3 cp3)) (some w.heap.size):=grown_setCell (grown_refl _ _) _ (.inl rfl) _
  have hbw3:Below B w w3:=(G3.out.alloc (by have:=G3.out.size;omega) _).grown HG3.out (by simp;have:=G3.out.size;omega) (fun j e=>Nat.le_trans (by omega) (OwnE.ge G2.out j e))
  have hbW3:Below w.heap.size W w3:=((Below.refl _ W).alloc (Nat.le_of_lt hsW) _).grown HG3.out (by simp;omega) (fun j e=>OwnE.ge G2.out j e)
  have hbW4:Below w.heap.size W (w3.setCell ⟨w.heap.size,0,none⟩ (.slice a3 M3 cp3)):=hbW3.grown hset (by have:=hbW3.size;omega) (fun j e=>by cases e;exact Nat.le_refl _)
  have hn3:(Value.slice a3 M3 cp3).ownBlock≠some nb:=fun e=>by
   rcases HAT.out with h | h
   ·exact HVN.out (h.symm.trans e)
   ·rw[e]at h
    injection h with h
    simp at h
    omega
  -- what is not the row's own stays
  have keep:∀ {k:Nat} {o:Obj},W.heap[k]?=some o→(Value.slice va L.length vc).ownBlock≠some k→k≠w.heap.size→(w3.setCell ⟨w.heap.size,0,none⟩ (.slice a3 M3 cp3)).heap[k]?=some o:=fun {k o} g1 g2 g3=>by
   have hkl:=(ltA g1)
   have h3:w3.heap[k]?=some o:=(HG3.out.block k (by simp;omega) (fun e=>g2 e.symm)).trans ((Below.heap_alloc _ _ _ hkl).trans g1)
   exact(Below.heap_setCell _ _ _ _ g3).trans h3
  have hown:∀ {k:Nat} {o:Obj},W.heap[k]?=some o→(∀ c,o≠.cells c 217 (0,0))→(Value.slice va L.length vc).ownBlock≠some k:=fun g1 g2 e=>own_ne G2.out g1 g2 e.symm
  have hsb:∀ {k:Nat} {o:Obj},W.heap[k]?=some o→(∀ c,o≠.cells c 213 (0,0))→k≠w.heap.size:=fun g1 g2 e=>by
   subst e
   rw[G1.out]at g1
   cases g1
   exact g2 _ rfl
  refine⟨⟨hbW4.size |> Nat.le_trans (Nat.le_refl _),fun k o hk ho hnc=>?_⟩,⟨hbW4.size,fun k cs T g hT1 hT2=>?_,fun cs g=>?_,fun k es clk g=>?_⟩,?_⟩
  ·exact keep ho (hown ho (fun c e=>by subst e;cases hnc)) (hsb ho (fun c e=>by subst e;cases hnc))
  ·exact keep g (hown g (fun c e=>by injection e with _ e _;exact hT1 e)) (hsb g (fun c e=>by injection e with _ e _;exact hT2 e))
  ·exact keep g HVN.out (by omega)
  ·exact keep g (hown g (fun c e=>by cases e)) (hsb g (fun c e=>by cases e))
  ·refine⟨⟨_,hn3,?_,?_⟩,hbw3.grown hset (by have:=hbw3.size;omega) (fun j e=>by cases e;omega)⟩
   ·rw[heap_setCell_same _ HC3.out]
    rfl
   ·rw[HMP.out]
    exact HO3.out.grownX HC3.out (fun c e=>by cases e) hset
 case done =>
  obtain⟨⟨v,hvn,g1,g2⟩,g3⟩:=hI
  subst hS
  have c1:W.cell? ⟨w.heap.size,0,none⟩=some v:=cell_of_row W _ 0 _ _ _ g1
  have hsW:=(ltA g1)
  have G2:=zh g2
  have G3:=zh g3
  have HDd:=zh hDd
  have hDm':w.heap.size+1≤Dm:=by omega
  obtain⟨va,vc,hv⟩:=G2.out.form
  generalize (xs.map stCl).length=M at hv
  subst hv
  clear g1 g2 g3 hvn hDd hDm
  show Exit.inBlock _ _ _ (Act.mk _ [{ target:=.collected Dm,args:=#[] }]) W
  go_wp2
  have hM:Marks (w.heap.size+1) [Dm] W:=⟨by simp,fun D' hD=>by
   rw[List.mem_singleton]at hD
   subst hD
   exact⟨hDm',HDd.out⟩⟩
  refine leaves_marks (B:=w.heap.size+1) [Dm] W hM (fun W'' hT=>⟨_,results_tmp rfl _ _ _,.slice va M vc,rfl,Taken.owns hT G2.out,G3.out.trans (hT.below.mono (by omega))⟩)
end Go.Proofs.YtjjiikeldpjafaaGreatDoor
/- TopReclaims: slices.Collect, claim.Timeline. The conditions: the claim is right. -/
namespace Go.Proofs.YtjjiikeldpjafaaGreatDoor
open Go.RowKit Go.BigFrame
attribute [local go_sem] Oper.semAt_some
set_option maxHeartbeats 1000000 in
theorem collectC_any {c:Mc}{w:World}{bm bl:Nat}(L0:List St)(hI:∀ W,Below w.heap.size w W→IterN Tryz.prog 178 #[.pointer (some ⟨bm,0,none⟩),.pointer (some ⟨bl,0,none⟩)] stE StKp (StR c) (fun xs=>xs=L0) (fun _=>True) 4 W){B:Nat}(hB:B≤c.mb)(hmb:c.mb < w.heap.size) :
  Calls Tryz.prog 150 #[.func (.func 178) #[] #[.pointer (some ⟨bm,0,none⟩),.pointer (some ⟨bl,0,none⟩)]] w fun e w'=>∃ v,e=.returned v∧OwnE w' w.heap.size 217 3 v (L0.map stCl)∧Below B w w':=by
 have H:=zh (appendSeqC_any L0 hI hB hmb)
 clear hI
 go_enter Tryz.func150,Tryz.ntmps150
 go_wp2_with (go_at_call 177;refine H.out.mono ?_;rintro e w1 ⟨v,rfl,h5,h6⟩;have H5:=zh h5;have H6:=zh h6;clear h5 h6)
 go_ret
 exact⟨_,rfl,H5.out,H6.out⟩
def mcOf (a0 a1 a2 a3 cn cf ct ch ca:Int)(cb:Bool):Mc:={ a0:=a0,a1:=a1,a2:=a2,a3:=a3,cn:=cn,cf:=cf,ct:=ct,ch:=ch,ca:=ca,cb:=cb,mb:=0,bd:=0,be:=0 }
def tlOf (c:Mc):Option Int→List St
 | none=>[staK c 0,staK c 1,staK c 2,staK c 3]
 | some s=>stOne c s
theorem tlOf_len (c:Mc)(o:Option Int):(tlOf c o).length=4:=by
 cases o with
 | none=>rfl
 | some s =>
  show(stOne c s).length=4
  unfold stOne
  split <;> rfl
set_option maxHeartbeats 2000000 in
set_option maxRecDepth 100000 in
theorem timeline_any {a0 a1 a2 a3 cn cf ct ch ca:Int}{o:Option Int}(hc:ClOk a0 a1 a2 a3 cn cf ct ch ca o)(cb:Bool){w:World}{lv:Value}(hv:EvAt w lv o) :
  Calls Tryz.prog 111 #[.agg #[.int .i64 a0,.int .i64 a1,.int .i64 a2,.int .i64 a3],.agg #[.int .i64 cn,.int .i64 cf,.int .i64 ct,.int .i64 ch,.int .i64 ca,.bool cb],lv] w fun e w' =>
   ∃ v,e=.returned (.tuple #[v,.int .i64 0])∧SliceAt w' v 3 ((tlOf (mcOf a0 a1 a2 a3 cn cf ct ch ca cb) o).map stCl)∧Below w.heap.size w w':=by
 have HO:=zh (fun W (hW:Below w.heap.size w W)=>openC_any hc cb (hv.step hW))
 have HEV:=zh hv
 have HA:=zh hc
 clear hv hc
 have hform:∃(a:Option Addr) (m:Nat),lv=.slice a m m:=by
  cases o with
  | none=>exact⟨none,0,HEV.out⟩
  | some s=>obtain⟨eb,h1,-⟩:=HEV.out;exact⟨_,1,h1⟩
 obtain⟨av,m,rfl⟩:=hform
 obtain⟨W1,hW1⟩:∃ W1,W1=w.alloc (.cells #[.int .i64 a0,.int .i64 a1,.int .i64 a2,.int .i64 a3] 53):=⟨_,rfl⟩
 have HBW1:Hid (Below w.heap.size w W1):=zh (by rw[hW1];exact br0.alloc (Nat.le_refl _) _)
 have HXW1:Hid (W1.heap[w.heap.size]?=some (.cells #[.int .i64 a0,.int .i64 a1,.int .i64 a2,.int .i64 a3] 53 (0,0))):=zh (by rw[hW1];exact heap_alloc_new w _)
 have hsW1:Hid (W1.heap.size=w.heap.size+1):=zh (by rw[hW1];simp)
 have HWW1:=zh hW1
 clear hW1
 obtain⟨W2,hW2⟩:∃ W2,W2=W1.alloc (.cells #[.int .i64 cn,.int .i64 cf,.int .i64 ct,.int .i64 ch,.int .i64 ca,.bool cb] 34):=⟨_,rfl⟩
 have HBW2:Hid (Below W1.heap.size W1 W2):=zh (by rw[hW2];exact br0.alloc (Nat.le_refl _) _)
 have HXW2:Hid (W2.heap[W1.heap.size]?=some (.cells #[.int .i64 cn,.int .i64 cf,.int .i64 ct,.int .i64 ch,.int .i64 ca,.bool cb] 34 (0,0))):=zh (by rw[hW2];exact heap_alloc_new W1 _)
 have hsW2:Hid (W2.heap.size=W1.heap.size+1):=zh (by rw[hW2];simp)
 have HWW2:=zh hW2
 clear hW2
 have HB2:=zh (q_next HBW1.out HBW2.out)
 obtain⟨r0,r1,r2,r3⟩:=fourT_cells (kept_block HXW1.out HBW2.out)
 have HXC:Hid (W2.heap[w.heap.size+1]?=some (.cells #[.int .i64 cn,.int .i64 cf,.int .i64 ct,.int .i64 ch,.int .i64 ca,.bool cb] 34 (0,0))):=zh (by rw[← hsW1.out];exact HXW2.out)
 obtain⟨d0,d1,d2,d3,d4,d5⟩:=six_cells HXC.out
 go_enter Tryz.func111,Tryz.ntmps111
 go_upto_region 1 with fail
 rw[← HWW1.out,← HWW2.out]
 clear HWW1 HWW2
 go_upto_region 4 with(go_at_call 149;(with_reducible refine(HO.out _ HB2.out).mono ?_);clear r0 r1 r2 r3 d0 d1 d2 d3 d4 d5;rintro e w3 ⟨mb,bd,be,rfl,hma,hef,hbx,hge⟩;have HM3:=zh hma;have HE3:=zh hef;have HB3:=zh hbx;have HGE:=zh hge;clear hma hef hbx hge)
 obtain⟨c,hcd⟩:∃ c:Mc,c={ mcOf a0 a1 a2 a3 cn cf ct ch ca cb with mb:=mb,bd:=bd,be:=be }:=⟨_,rfl⟩
 have hok:c.Ok:=by
  have h:=HA.out
  rw[hcd]
  exact⟨h.h0,h.h1,h.h3,h.a⟩
 have htl:tlOf c o=tlOf (mcOf a0 a1 a2 a3 cn cf ct ch ca cb) o:=by
  rw[hcd]
  cases o <;> rfl
 have HIT:Hid (∀ W,Below w3.heap.size w3 W→∀ bm bl,W.heap[bm]?=some (.cells #[.pointer (some ⟨mb,0,none⟩)] 259 (0,0))→W.heap[bl]?=some (.cells #[.slice av m m] 84 (0,0))→∀ V,Below W.heap.size W V→IterN Tryz.prog 178 #[.pointer (some ⟨bm,0,none⟩),.pointer (some ⟨bl,0,none⟩)] stE StKp (StR c) (fun xs=>xs=tlOf (mcOf a0 a1 a2 a3 cn cf ct ch ca cb) o) (fun _=>True) 4 V):=zh (fun W hW bm bl g1 g2 V hV=>by
  have hw3V:=q_next hW hV
  have hpre:StPre c bm bl (.slice av m m) (.slice none 0 0) V:=by
   rw[hcd]
   obtain⟨es,clk,f1,f2⟩:=HE3.out
   exact⟨kept_block g1 hV,kept_block g2 hV,⟨kept_block HM3.out.cells hw3V,kept_block HM3.out.dues hw3V⟩,es,clk,kept_block f1 hw3V,f2⟩
  rw[← htl]
  cases o with
  | none =>
   have he:=HEV.out
   injection he with e1 e2 e3
   subst e1 e2
   exact statuses_nil hok hpre
  | some s =>
   obtain⟨eb,h1,h2⟩:=HEV.out.step (q_next HB2.out (q_next HB3.out hw3V))
   injection h1 with e1 e2 e3
   subst e1 e2
   have h3:=HA.out.ev s rfl
   exact statuses_one hok (by rw[hcd];exact h3.1) h3.2 hpre h2)
 have HCM:Hid (c.mb=mb):=zh (by rw[hcd])
 have HML:Hid (mb < w3.heap.size):=zh (ltA HM3.out.cells)
 clear hcd hok htl
 go_wp2_with (first | (go_at_call 151;(with_reducible refine(statusesFn_any _ av m m mb rfl _).mono ?_);rintro e w4 ⟨bm,bl,rfl,h1,h2,h3⟩;have HB4:=zh h3;have HCL:=zh (collectC_any _ (HIT.out _ h3 bm bl h1 h2) (B:=w.heap.size) (by rw[HCM.out];exact Nat.le_trans HB2.out.size HGE.out) (by rw[HCM.out];exact Nat.lt_of_lt_of_le HML.out h3.size));clear h1 h2 h3) | (go_at_call 150;(with_reducible refine HCL.out.mono ?_);rintro e w5 ⟨v,rfl,h5,h6⟩;have H5:=zh h5;have H6:=zh h6;clear h5 h6))
 exact bodyPost_ret (results_tmp2 rfl _ _ _) rfl ⟨v,rfl,OwnE.slice H5.out (fun c hc=>by obtain⟨x,_,rfl⟩:=List.mem_map.1 hc;rfl),(q_next HB2.out (q_next HB3.out HB4.out)).trans (H6.out)⟩
end Go.Proofs.YtjjiikeldpjafaaGreatDoor
/- TopReclaims: the life of a number that is assigned once: what is valid, what is formed. The conditions: ranges. -/
namespace Go.Proofs.YtjjiikeldpjafaaGreatDoor
open Go.RowKit Go.BigFrame
attribute [local go_sem] Oper.semAt_some
def ruleC:Array Value:=#[.int .i64 0,.int .i64 0,.bool false,.int .i64 1,.int .i64 1,.bool true,.int .i64 2,.int .i64 1,.bool true,.int .i64 2,.int .i64 2,.bool false,.int .i64 4,.int .i64 1,.bool false,.int .i64 6,.int .i64 3,.bool false,.int .i64 8,.int .i64 1,.bool false,.int .i64 8,.int .i64 0,.bool false]
set_option maxHeartbeats 2000000 in
set_option maxRecDepth 100000 in
theorem rulesL_any (w:World):Calls Tryz.prog 174 #[] w fun e w'=>e=.returned (.slice (some ⟨w.heap.size,0,none⟩) 8 8)∧w'.heap[w.heap.size]?=some (.cells ruleC 289 (0,0))∧Below w.heap.size w w':=by
 have HB:=zh ((Below.refl w.heap.size w).alloc (Nat.le_refl _) (.cells ruleC 289))
 have HX:=zh (heap_alloc_new w (.cells ruleC 289))
 unfold ruleC at *
 go_enter Tryz.func174,Tryz.ntmps174
 go_wp2
 go_ret
 exact⟨rfl,HX.out,HB.out⟩
set_option maxHeartbeats 2000000 in
set_option maxRecDepth 100000 in
theorem validL_zero (w:World):Calls Tryz.prog 172 #[.agg #[.int .i64 0,.int .i64 (-1),.int .i64 0,.int .i64 0]] w fun e w'=>e=.returned (.bool true)∧Below w.heap.size w w':=by
 have HB:=zh ((Below.refl w.heap.size w).alloc (Nat.le_refl _) (.cells #[.int .i64 0,.int .i64 (-1),.int .i64 0,.int .i64 0] 162))
 go_enter Tryz.func172,Tryz.ntmps172
 go_wp2_with (go_at_call 154;refine(inL_yes _ _ _ (by omega) (by omega) _).mono ?_;rintro e w' ⟨rfl,hw'⟩;replace hw':=hw'.symm;subst hw')
 go_ret
 exact⟨rfl,HB.out⟩
set_option maxHeartbeats 2000000 in
set_option maxRecDepth 100000 in
theorem formedL_any (ch:Int)(h:0≤ch∧ch≤63)(w:World):Calls Tryz.prog 173 #[.agg #[.int .i64 1,.int .i64 0,.int .i64 ch]] w fun e w'=>e=.returned (.bool true)∧Below w.heap.size w w':=by
 obtain⟨W1,hW1⟩:∃ W1,W1=w.alloc (.cells #[.int .i64 1,.int .i64 0,.int .i64 ch] 116):=⟨_,rfl⟩
 have HBW1:Hid (Below w.heap.size w W1):=zh (by rw[hW1];exact br0.alloc (Nat.le_refl _) _)
 have HXW1:Hid (W1.heap[w.heap.size]?=some (.cells #[.int .i64 1,.int .i64 0,.int .i64 ch] 116 (0,0))):=zh (by rw[hW1];exact heap_alloc_new w _)
 have hsW1:Hid (W1.heap.size=w.heap.size+1):=zh (by rw[hW1];simp)
 have HWW1:=zh hW1
 clear hW1
 have HC:Hid (∀ W,Below W1.heap.size W1 W→(W.cell? ⟨w.heap.size,0,none⟩=some (.int .i64 1)∧W.cell? ⟨w.heap.size,1,none⟩=some (.int .i64 0)∧W.cell? ⟨w.heap.size,2,none⟩=some (.int .i64 ch))):=zh (fun W hW=>three_cellsC (kept_block HXW1.out hW))
 obtain⟨c0,c1,c2⟩:=HC.out W1 br0
 go_enter Tryz.func173,Tryz.ntmps173
 go_upto_region 1 with fail
 rw[← HWW1.out]
 clear HWW1
 go_upto_region 3 with(go_at_call 154;refine(inL_yes _ _ _ (by omega) (by omega) _).mono ?_;rintro e w' ⟨rfl,hw'⟩;replace hw':=hw'.symm;subst hw')
 refine wp_region_noPanic ?_
 refine wp_region_lexB [.q 1,.q 2,.b 0,.q 3,.q 4,.b 5] (by kernel_rfl) (by kernel_rfl) (fun _ _ _ _ h=>h) ?_
 iterate 2(refine wpFl_qL (v:=?_) rfl (Or.inl ⟨by rfl,?_⟩) ?_;rotate_left;(focus(intro w' hSw;obtain⟨c0,c1,c2⟩:=HC.out w' hSw;go_simp;(try with_reducible rfl);done));simp only[Act.put,zzA,zzB,zzC])
 refine wpFl_bL rfl (fun wa hna hsa K hK=>?_)
 go_simp
 go_at_call 174
 (with_reducible refine(rulesL_any _).mono ?_)
 rintro e wb ⟨rfl,hxb,hbb⟩
 have HBW:=zh (below_next hsa hbb)
 have HXB:=zh hxb
 refine hK.out _ _ (below_next hsa hbb) (Keeps.below hbb) ?_
 clear hK K hna hsa hbb hxb
 generalize wa.heap.size=rb at *
 iterate 2(refine wpFl_qL (v:=?_) rfl (Or.inl ⟨by rfl,?_⟩) ?_;rotate_left;(focus(intro w' hSw;go_simp;(try with_reducible rfl);done));simp only[Act.put,zzA,zzB,zzC])
 refine wpFl_bL rfl (fun wc hnc hsc K hK=>?_)
 have r5:=cell_of_row wc rb 5 _ _ _ (kept_block HXB.out hnc)
 simp only[ruleC]at r5
 have HBC:=zh hsc
 go_simp
 refine hK.out _ _ hsc (Keeps.below br0) ?_
 clear hK K hnc hsc r5
 refine wpFl_nil ?_
 refine NoPanic.normal ?_
 obtain⟨c0,c1,c2⟩:=HC.out wc HBC.out
 go_wp2_with (go_at_call 154;refine(inL_yes _ _ _ (by omega) (by omega) _).mono ?_;rintro e w' ⟨rfl,hw'⟩;replace hw':=hw'.symm;subst hw')
 go_ret
 exact⟨rfl,q_next HBW1.out HBC.out⟩
end Go.Proofs.YtjjiikeldpjafaaGreatDoor
/- TopReclaims: life.Step where a free number is assigned. The conditions: the holder's range. -/
namespace Go.Proofs.YtjjiikeldpjafaaGreatDoor
open Go.RowKit Go.BigFrame
attribute [local go_sem] Oper.semAt_some
theorem infoLine:(Tryz.prog.info? 162).map (·.size)=some 4:=by kernel_rfl
structure LnAt (w:World) (rb:Nat) (ch:Int) (X:Array Value) (V:World):Prop where
 hb:Below w.heap.size w V
 l:V.heap[w.heap.size]?=some (.cells X 162 (0,0))
 e:V.heap[w.heap.size+1]?=some (.cells #[.int .i64 1,.int .i64 0,.int .i64 ch] 116 (0,0))
 r:V.heap[w.heap.size+1+1]?=some (.cells #[.int .i64 0,.int .i64 0,.int .i64 0,.int .i64 0] 162 (0,0))
 u:V.heap[rb]?=some (.cells #[.int .i64 1,.int .i64 1,.bool true] 289 (0,0))
 n:w.heap.size+1+1 < rb
theorem LnAt.step {w:World}{rb:Nat}{ch:Int}{X:Array Value}{V V':World}(h:LnAt w rb ch X V)(hb:Below V.heap.size V V'):LnAt w rb ch X V':=⟨q_next h.hb hb,kept_block h.l hb,kept_block h.e hb,kept_block h.r hb,kept_block h.u hb,h.n⟩
theorem LnAt.set {w:World}{rb:Nat}{ch:Int}{X:Array Value}{V:World}(h:LnAt w rb ch X V)(i:Nat)(v:Value):LnAt w rb ch (X.setIfInBounds i v) (V.setCell ⟨w.heap.size,i,none⟩ v):=by
 have k:∀ {c:Nat} {o:Obj},V.heap[c]?=some o→c≠w.heap.size→(V.setCell ⟨w.heap.size,i,none⟩ v).heap[c]?=some o:=fun g1 g2=>(Below.heap_setCell _ _ _ _ g2).trans g1
 have hn:=h.n
 exact⟨h.hb.setCell (p:=⟨w.heap.size,i,none⟩) (Nat.le_refl _) _,heap_setCell_same (i:=i) _ h.l,k h.e (by omega),k h.r (by omega),k h.u (by omega),h.n⟩
set_option maxHeartbeats 4000000 in
set_option maxRecDepth 100000 in
theorem stepL_any (ch:Int)(h:0≤ch∧ch≤63)(w:World):Calls Tryz.prog 147 #[.agg #[.int .i64 0,.int .i64 (-1),.int .i64 0,.int .i64 0],.agg #[.int .i64 1,.int .i64 0,.int .i64 ch]] w fun e w'=>e=.returned (.tuple #[.agg #[.int .i64 1,.int .i64 ch,.int .i64 1,.int .i64 0],.int .i64 0])∧Below w.heap.size w w':=by
 obtain⟨W1,hW1⟩:∃ W1,W1=w.alloc (.cells #[.int .i64 0,.int .i64 (-1),.int .i64 0,.int .i64 0] 162):=⟨_,rfl⟩
 have HBW1:Hid (Below w.heap.size w W1):=zh (by rw[hW1];exact br0.alloc (Nat.le_refl _) _)
 have HXW1:Hid (W1.heap[w.heap.size]?=some (.cells #[.int .i64 0,.int .i64 (-1),.int .i64 0,.int .i64 0] 162 (0,0))):=zh (by rw[hW1];exact heap_alloc_new w _)
 have hsW1:Hid (W1.heap.size=w.heap.size+1):=zh (by rw[hW1];simp)
 have HWW1:=zh hW1
 clear hW1
 obtain⟨W2,hW2⟩:∃ W2,W2=W1.alloc (.cells #[.int .i64 1,.int .i64 0,.int .i64 ch] 116):=⟨_,rfl⟩
 have HBW2:Hid (Below W1.heap.size W1 W2):=zh (by rw[hW2];exact br0.alloc (Nat.le_refl _) _)
 have HXW2:Hid (W2.heap[W1.heap.size]?=some (.cells #[.int .i64 1,.int .i64 0,.int .i64 ch] 116 (0,0))):=zh (by rw[hW2];exact heap_alloc_new W1 _)
 have hsW2:Hid (W2.heap.size=W1.heap.size+1):=zh (by rw[hW2];simp)
 have HWW2:=zh hW2
 clear hW2
 obtain⟨W3,hW3⟩:∃ W3,W3=W2.alloc (.cells #[.int .i64 0,.int .i64 0,.int .i64 0,.int .i64 0] 162):=⟨_,rfl⟩
 have HBW3:Hid (Below W2.heap.size W2 W3):=zh (by rw[hW3];exact br0.alloc (Nat.le_refl _) _)
 have HXW3:Hid (W3.heap[W2.heap.size]?=some (.cells #[.int .i64 0,.int .i64 0,.int .i64 0,.int .i64 0] 162 (0,0))):=zh (by rw[hW3];exact heap_alloc_new W2 _)
 have hsW3:Hid (W3.heap.size=W2.heap.size+1):=zh (by rw[hW3];simp)
 have HWW3:=zh hW3
 clear hW3
 have HB3:=zh (q_next HBW1.out (q_next HBW2.out HBW3.out))
 have HL:Hid (∀ W,Below W3.heap.size W3 W→W.heap[w.heap.size]?=some (.cells #[.int .i64 0,.int .i64 (-1),.int .i64 0,.int .i64 0] 162 (0,0))):=zh (fun W hW=>kept_block HXW1.out (q_next HBW2.out (q_next HBW3.out hW)))
 have HE:Hid (∀ W,Below W3.heap.size W3 W→W.heap[w.heap.size+1]?=some (.cells #[.int .i64 1,.int .i64 0,.int .i64 ch] 116 (0,0))):=zh (fun W hW=>by rw[← hsW1.out];exact kept_block HXW2.out (q_next HBW3.out hW))
 have HR:Hid (∀ W,Below W3.heap.size W3 W→W.heap[w.heap.size+1+1]?=some (.cells #[.int .i64 0,.int .i64 0,.int .i64 0,.int .i64 0] 162 (0,0))):=zh (fun W hW=>by rw[← hsW1.out,← hsW2.out];exact kept_block HXW3.out hW)
 have HG3:Hid (w.heap.size+1+1 < W3.heap.size):=zh (by rw[hsW3.out,hsW2.out,hsW1.out];omega)
 have HF:=zh (fun W=>formedL_any ch h W)
 obtain⟨d0,d1,d2,d3⟩:=fourT_cells (HL.out W3 br0)
 obtain⟨c0,c1,c2⟩:=three_cellsC (HE.out W3 br0)
 have hne:((-1:Int) == ch)=false:=by rw[beq_eq_false_iff_ne];omega
 have hbt:bits BinOp.and IntKind.i64 1 1=1:=by decide +kernel
 clear HXW1 HXW2 HXW3 HBW1 HBW2 HBW3 hsW1 hsW2 hsW3
 go_enter Tryz.func147,Tryz.ntmps147
 go_upto_region 1 with fail
 rw[← HWW1.out,← HWW2.out,← HWW3.out]
 clear HWW1 HWW2 HWW3
 go_upto_region 3 with(first | (go_at_call 172;(with_reducible refine(validL_zero _).mono ?_);clear c0 c1 c2 d0 d1 d2 d3;rintro e w4 ⟨rfl,hbx⟩;have HB4:=zh hbx;obtain⟨d0,d1,d2,d3⟩:=fourT_cells (HL.out w4 hbx);obtain⟨c0,c1,c2⟩:=three_cellsC (HE.out w4 hbx);clear hbx) | (go_at_call 173;(with_reducible refine(HF.out _).mono ?_);clear c0 c1 c2 d0 d1 d2 d3;rintro e w5 ⟨rfl,hbx⟩;have HB5:=zh (q_next HB4.out hbx);obtain⟨d0,d1,d2,d3⟩:=fourT_cells (HL.out w5 HB5.out);obtain⟨c0,c1,c2⟩:=three_cellsC (HE.out w5 HB5.out);clear hbx))
 clear c0 c1 c2 d0 d1 d2 d3
 refine wp_region_noPanic ?_
 refine wp_region_lexB [.q 1,.q 2,.an 5,.b 0,.q 3,.b 4,.co 5,.b 6] (by kernel_rfl) (by kernel_rfl) (fun _ _ _ _ h=>h) ?_
 iterate 2(refine wpFl_qL (v:=?_) rfl (Or.inl ⟨by rfl,?_⟩) ?_;rotate_left;(focus(intro w' hSw;obtain⟨c0,c1,c2⟩:=three_cellsC (HE.out w' (q_next HB5.out hSw));go_simp;(try with_reducible rfl);done));simp only[Act.put,zzA,zzB,zzC])
 refine wpFl_anL rfl (.cells #[.int .i64 0,.int .i64 0,.bool false] 289 (0,0)) (fun n=>.pointer (some ⟨n,0,none⟩)) ⟨by rfl,fun w'=>?_⟩ ?_
 focus(go_simp;done)
 refine wpFl_bL rfl (fun wa hna hsa K hK=>?_)
 go_simp
 go_at_call 174
 (with_reducible refine(rulesL_any _).mono ?_)
 rintro e wb ⟨rfl,hxb,hbb⟩
 have HXB:=zh hxb
 refine hK.out _ _ (below_next hsa hbb) (Keeps.below hbb) ?_
 clear hK K hna hsa hbb hxb
 generalize wa.heap.size=ru at *
 refine wpFl_qL (v:=?_) rfl (Or.inl ⟨by rfl,?_⟩) ?_
 rotate_left
 focus(intro w' hSw;go_simp;(try with_reducible rfl);done)
 simp only[Act.put,zzA,zzB,zzC]
 refine wpFl_bL rfl (fun wc hnc hsc K hK=>?_)
 have r3:=cell_of_row wc ru 3 _ _ _ (kept_block HXB.out hnc)
 have r4:=cell_of_row wc ru 4 _ _ _ (kept_block HXB.out hnc)
 have r5:=cell_of_row wc ru 5 _ _ _ (kept_block HXB.out hnc)
 simp only[ruleC]at r3 r4 r5
 go_simp
 refine hK.out _ _ hsc (Keeps.below br0) ?_
 clear hK K hnc hsc r3 r4 r5 HXB
 refine wpFl_coL rfl (.cells #[.int .i64 0,.int .i64 0,.bool false] 289 (0,0)) (fun n=>.pointer (some ⟨n,0,none⟩)) (by rfl) (N':=[]) (by rfl) (fun rb we hn_we hs_we hb_rb hz_rb=>?_)
 simp only[Act.put,zzA,zzB,zzC]
 refine wpFl_bL rfl (fun wf hnf hsf K hK=>?_)
 have HZ:=zh (kept_block hz_rb hnf)
 obtain⟨z0,z1,z2⟩:=three_cellsC HZ.out
 have zf:∀ j,wf.frozen? ⟨rb,j,none⟩=false:=fun j=>by unfold World.frozen?;rw[HZ.out];simp
 go_simp
 have HBD:=zh (three_belowC hsf hb_rb (.int .i64 1) (.int .i64 1) (.bool true))
 have HZN:=zh (three_heapC HZ.out (.int .i64 1) (.int .i64 1) (.bool true))
 have HRB:Hid (w.heap.size+1+1 < rb):=zh (by have:=HG3.out;have:=HB5.out.size;omega)
 refine hK.out _ _ HBD.out Keeps.nil ?_
 clear hK K hnf hsf z0 z1 z2 zf HZ hn_we hs_we hb_rb hz_rb
 generalize ((wf.setCell ⟨rb,0,none⟩ (.int .i64 1)).setCell ⟨rb,1,none⟩ (.int .i64 1)).setCell ⟨rb,2,none⟩ (.bool true)=w6 at *
 refine wpFl_nil ?_
 refine NoPanic.normal ?_
 have HB6:=zh (q_next HB5.out HBD.out)
 have HN6:Hid (LnAt w rb ch #[.int .i64 0,.int .i64 (-1),.int .i64 0,.int .i64 0] w6):=zh ⟨q_next HB3.out HB6.out,HL.out w6 HB6.out,HE.out w6 HB6.out,HR.out w6 HB6.out,HZN.out,HRB.out⟩
 obtain⟨d0,d1,d2,d3⟩:=fourT_cells HN6.out.l
 obtain⟨c0,c1,c2⟩:=three_cellsC HN6.out.e
 obtain⟨z0,z1,z2⟩:=three_cellsC HN6.out.u
 go_upto_region 6 with fail
 clear d0 d1 d2 d3 c0 c1 c2 z0 z1 z2 HZN HB6 HBD HL HE HR HRB HG3
 refine wp_region_noPanic ?_
 refine wp_region_lexF [.q 0,.q 1,.q 2,.q 3,.q 4,.b 5,.q 6,.b 7] (fun V=>∃ X,LnAt w rb ch X V) (by kernel_rfl) (by kernel_rfl) (fun _ _ _ _ h=>h) (fun _ _ ⟨X,h⟩ h'=>⟨X,h.step h'⟩) ⟨_,HN6.out.step (Below.drew br0)⟩ ?_
 iterate 5(refine wpFl_qL (v:=?_) rfl (Or.inl ⟨by rfl,?_⟩) ?_;rotate_left;(focus(intro w' hSw;obtain⟨X,hX⟩:=hSw;obtain⟨c0,c1,c2⟩:=three_cellsC hX.e;obtain⟨z0,z1,z2⟩:=three_cellsC hX.u;go_simp;(try with_reducible rfl);done));simp only[Act.put,zzA,zzB,zzC])
 refine wpFl_bS rfl (fun wa hna hsa K hK=>?_)
 have HNa:=zh (HN6.out.step (q_next (Below.drew (Below.refl _ w6)) hna))
 have hLa:=hna.size
 obtain⟨d0,d1,d2,d3⟩:=fourT_cells HNa.out.l
 have zf:∀ j,wa.frozen? ⟨w.heap.size,j,none⟩=false:=fun j=>by unfold World.frozen?;rw[HNa.out.l];simp
 go_simp
 have HNb:=zh (HNa.out.set 0 (.int .i64 1))
 have HLb:Hid (w6.heap.size≤wa.heap.size):=zh hLa
 refine hK.out _ _ ⟨_,HNb.out⟩ (by simpa using HLb.out) Keeps.nil ?_
 clear hK K hna hsa hLa d0 d1 d2 d3 zf HNa HN6
 simp only[List.setIfInBounds_toArray,List.set_cons_zero]at HNb
 refine wpFl_qL (v:=?_) rfl (Or.inl ⟨by rfl,?_⟩) ?_
 rotate_left
 focus(intro w' hSw;go_simp;(try with_reducible rfl);done)
 simp only[Act.put,zzA,zzB,zzC]
 refine wpFl_bS rfl (fun wc hnc hsc K hK=>?_)
 have HNc:=zh (HNb.out.step hnc)
 have hLc:w6.heap.size≤wc.heap.size:=Nat.le_trans HLb.out (by have:=hnc.size;simpa using this)
 obtain⟨d0,d1,d2,d3⟩:=fourT_cells HNc.out.l
 have zf:∀ j,wc.frozen? ⟨w.heap.size,j,none⟩=false:=fun j=>by unfold World.frozen?;rw[HNc.out.l];simp
 go_simp
 have HNd:=zh (HNc.out.set 3 (.int .i64 0))
 refine hK.out _ _ ⟨_,HNd.out⟩ (by simpa using hLc) Keeps.nil ?_
 clear hK K hnc hsc hLc d0 d1 d2 d3 zf HNc HNb HLb
 simp only[List.setIfInBounds_toArray,List.set_cons_zero,List.set_cons_succ]at HNd
 generalize wc.setCell ⟨w.heap.size,3,none⟩ (.int .i64 0)=wd at *
 refine wpFl_nil ?_
 refine NoPanic.normal ?_
 obtain⟨d0,d1,d2,d3⟩:=fourT_cells HNd.out.l
 obtain⟨c0,c1,c2⟩:=three_cellsC HNd.out.e
 obtain⟨z0,z1,z2⟩:=three_cellsC HNd.out.u
 have zf:∀ j,wd.frozen? ⟨w.heap.size,j,none⟩=false:=fun j=>by unfold World.frozen?;rw[HNd.out.l];simp
 go_upto_region 9 with fail
 have HNe:=zh (HNd.out.set 1 (.int .i64 ch))
 simp only[List.setIfInBounds_toArray,List.set_cons_zero,List.set_cons_succ]at HNe
 clear d0 d1 d2 d3 c0 c1 c2 z0 z1 z2 zf HNd
 generalize wd.setCell ⟨w.heap.size,1,none⟩ (.int .i64 ch)=we at *
 obtain⟨d0,d1,d2,d3⟩:=fourT_cells HNe.out.l
 have zf:∀ j,we.frozen? ⟨w.heap.size,j,none⟩=false:=fun j=>by unfold World.frozen?;rw[HNe.out.l];simp
 go_upto_region 10 with fail
 have HNf:=zh (HNe.out.set 2 (.int .i64 1))
 simp only[List.setIfInBounds_toArray,List.set_cons_zero,List.set_cons_succ]at HNf
 clear d0 d1 d2 d3 zf HNe
 generalize we.setCell ⟨w.heap.size,2,none⟩ (.int .i64 1)=wf' at *
 obtain⟨d0,d1,d2,d3⟩:=fourT_cells HNf.out.l
 obtain⟨g0,g1,g2,g3⟩:=fourT_cells HNf.out.r
 have zf:∀ j,wf'.frozen? ⟨w.heap.size+1+1,j,none⟩=false:=fun j=>by unfold World.frozen?;rw[HNf.out.r];simp
 go_wp2
 exact bodyPost_ret (results_cellA_tmp rfl _ (w.heap.size+1+1) 162 #[.int .i64 1,.int .i64 ch,.int .i64 1,.int .i64 0] (0,0) _ rfl (four_heap HNf.out.r _ _ _ _) Tryz.underlying162 rfl infoLine) rfl ⟨rfl,four_below HNf.out.hb (by omega) _ _ _ _⟩
end Go.Proofs.YtjjiikeldpjafaaGreatDoor
/- TopReclaims: the iterator over the lines of a life of one event. The conditions: what the blocks hold. -/
namespace Go.Proofs.YtjjiikeldpjafaaGreatDoor
open Go.RowKit Go.BigFrame
attribute [local go_sem] Oper.semAt_some
abbrev Ln:=Int × Int × Int × Int × Int
def lnE (x:Ln):Array Value:=#[.int .i64 x.1,.agg #[.int .i64 x.2.1,.int .i64 x.2.2.1,.int .i64 x.2.2.2.1,.int .i64 x.2.2.2.2]]
structure LnKp (nb:Nat) (A B:World):Prop where
 size:A.heap.size≤B.heap.size
 cells:∀(k:Nat) (cs:Array Value) (T:TypeId),A.heap[k]?=some (.cells cs T (0,0))→(nb≤k∨(T≠162∧T≠3))→B.heap[k]?=some (.cells cs T (0,0))
theorem LnKp.trans {nb:Nat}{A B C:World}(h:LnKp nb A B)(h':LnKp nb B C):LnKp nb A C :=
 ⟨Nat.le_trans h.size h'.size,fun k cs T g1 g2=>h'.cells k cs T (h.cells k cs T g1 g2) g2⟩
theorem LnKp.grown {nb:Nat}{A B:World}(h:A.grownBy B none):LnKp nb A B :=
 ⟨h.size,fun _ _ _ g _=>(h.block _ (ltA g) (by simp)).trans g⟩
set_option maxHeartbeats 4000000 in
set_option maxRecDepth 100000 in
theorem lines_iter {ch:Int}(hch:0≤ch∧ch≤63){bl eb c:Nat}{w0:World}(hl:w0.heap[bl]?=some (.cells #[.slice (some ⟨eb,0,none⟩) 1 c] 55 (0,0)))(he:w0.heap[eb]?=some (.cells #[.int .i64 1,.int .i64 0,.int .i64 ch] 116 (0,0))) :
  IterN Tryz.prog 146 #[.pointer (some ⟨bl,0,none⟩)] lnE LnKp (fun nb b=>b=nb) (fun xs=>xs=[(-1,0,-1,0,0),(0,1,ch,1,0)]) (fun _=>True) 2 w0:=by
 intro F n hF hro lb J Jx W hW hJ hJx hY h0
 have HL:=zh ((hW.block _ (ltA hl)).trans hl)
 have HE:=zh ((hW.block _ (ltA he)).trans he)
 have HJ:=zh hJ
 have HS:=zh (fun W=>stepL_any ch hch W)
 have HB1:Hid (Below W.heap.size W (W.alloc (.cells #[.int .i64 0,.int .i64 (-1),.int .i64 0,.int .i64 0] 162))):=zh (br0.alloc (Nat.le_refl _) _)
 have HX1:=zh (heap_alloc_new W (.cells #[.int .i64 0,.int .i64 (-1),.int .i64 0,.int .i64 0] 162))
 have HJ1:=zh (hJ W.heap.size [] W _ (Nat.le_refl _) (h0 _ (Nat.le_refl _)) (IStepS.below HB1.out))
 obtain⟨fn,tmps,assign,body,hy,hRR⟩:=hY W.heap.size [] (-1,0,-1,0,0) _ (Nat.le_refl _) (ltA HX1.out) HJ1.out (by decide)
 dsimp only [lnE]at hy
 have HY:=zh hY
 clear hl he hW hJ hJx hY h0
 refine callsIn_of_wp Tryz.func146 rfl (hF.1 _) ?_ hro
 simp only[Tryz.ntmps146,List.size_toArray,List.length_cons,List.length_nil,Nat.reduceAdd,Nat.reduceSub,Array.replicate_succ,Array.replicate_zero,List.push_toArray,List.append_toArray,List.nil_append,List.cons_append]
 gi_wp2
 refine⟨fun h=>(by rw[hF.2.1]at h;cases h),hRR.mono ?_⟩
 rintro r W4 (⟨rfl,hJ4,hk4⟩ | ⟨rfl,hJx4⟩)
 rotate_left
 ·clear hy hRR
  gi_wp2
  refine bodyPost_ret (results_none rfl _ _ _) rfl ?_
  exact⟨⟨_,rfl⟩,.inr ⟨_,_,Nat.le_refl _,trivial,hJx4⟩⟩
 have HJ4:=zh hJ4
 have HL4:=zh (hk4.cells _ _ _ (kept_block HL.out HB1.out) (.inr (by decide)))
 have HE4:=zh (hk4.cells _ _ _ (kept_block HE.out HB1.out) (.inr (by decide)))
 have HX4:=zh (hk4.cells _ _ _ HX1.out (.inl (Nat.le_refl _)))
 obtain⟨nb,hnb⟩:∃ nb,nb=W.heap.size:=⟨_,rfl⟩
 have HNB:Hid (W.heap.size≤nb):=zh (by omega)
 rw[← hnb]at HX4 HJ4
 clear hy hRR hk4 hJ4 HJ1 HX1 HB1
 have gl:=cell_of_row W4 _ 0 _ _ _ HL4.out
 gi_wp2
 rw[← hnb]
 clear hnb
 gi_loopw [15] (fun i wr=>(i=.int .i64 0∧wr=W4)∨(i=.int .i64 1∧Hid (J nb [(-1,0,-1,0,0),(0,1,ch,1,0)] wr))) (fun i _=>1 - (intOf i).toNat)
 case atStart=>exact .inl ⟨rfl,rfl⟩
 case round =>
  rcases hrel with⟨rfl,rfl⟩ | ⟨rfl,hJs⟩
  ·obtain⟨c0,c1,c2⟩:=three_cellsC HE4.out
   have HA5:=zh ((Below.refl wr.heap.size wr).alloc (Nat.le_refl _) (.cells #[.int .i64 1,.int .i64 0,.int .i64 ch] 116))
   have HX5:=zh (kept_block HX4.out HA5.out)
   have HJ5:=zh (HJ.out nb _ wr _ HNB.out HJ4.out (IStepS.below HA5.out))
   obtain⟨d0,d1,d2,d3⟩:=fourT_cells HX5.out
   gi_wp2
   generalize wr.alloc (.cells #[.int .i64 1,.int .i64 0,.int .i64 ch] 116)=W5 at *
   refine⟨hF.1 _,fun h=>(by rw[hF.2.1]at h;cases h),(callsIn_of_calls hF (HS.out _)).mono ?_⟩
   rintro r W6 ⟨rfl,hb6⟩
   have HX6:=zh (kept_block HX5.out hb6)
   have HJ6:=zh (HJ.out nb _ W5 _ HNB.out HJ5.out (IStepS.below hb6))
   have HA7:=zh ((Below.refl W6.heap.size W6).alloc (Nat.le_refl _) (.cells #[.int .i64 1,.int .i64 ch,.int .i64 1,.int .i64 0] 162))
   have HX7:=zh (kept_block HX6.out HA7.out)
   have HN7:=zh (heap_alloc_new W6 (.cells #[.int .i64 1,.int .i64 ch,.int .i64 1,.int .i64 0] 162))
   have HJ7:=zh (HJ.out nb _ W6 _ HNB.out HJ6.out (IStepS.below HA7.out))
   have HLT:Hid (nb < W6.heap.size):=zh (ltA HX6.out)
   obtain⟨fn,tmps,assign,body,hy,hRR⟩:=HY.out nb _ (0,1,ch,1,0) _ HNB.out (ltA HX7.out) HJ7.out (show 1 < 2 by decide)
   dsimp only [lnE]at hy
   have HYH:=zh HY
   clear HY hb6 d0 d1 d2 d3 c0 c1 c2 gl
   gi_wp2
   generalize W6.alloc (.cells #[.int .i64 1,.int .i64 ch,.int .i64 1,.int .i64 0] 162)=W7 at *
   refine⟨fun h=>(by rw[hF.2.1]at h;cases h),hRR.mono ?_⟩
   rintro r W8 (⟨rfl,hJ8,hk8⟩ | ⟨rfl,hJx8⟩)
   ·have HN8:=zh (hk8.cells _ _ _ HN7.out (.inl (Nat.le_of_lt HLT.out)))
    have HX8:=zh (hk8.cells _ _ _ HX7.out (.inl (Nat.le_refl _)))
    have HJ8:Hid (J nb [(-1,0,-1,0,0),(0,1,ch,1,0)] W8):=zh hJ8
    obtain⟨e0,e1,e2,e3⟩:=fourT_cells HN8.out
    obtain⟨d0,d1,d2,d3⟩:=fourT_cells HX8.out
    have zf:∀ i,W8.frozen? ⟨nb,i,none⟩=false:=(fun i=>by unfold World.frozen?;rw[HX8.out];simp)
    clear hy hRR hk8 hJ8
    gi_wp2
    go_roundw
    case rel=>exact .inr ⟨by go_num,zh (HJ.out nb _ W8 _ HNB.out HJ8.out ⟨some nb,four_grownT W8 nb _ _ _ _,fun b e=>by cases e;rfl⟩)⟩
    case measure=>decide
   ·clear hy hRR
    gi_wp2
    refine bodyPost_ret (results_none rfl _ _ _) rfl ?_
    exact⟨⟨_,rfl⟩,.inr ⟨nb,_,HNB.out,trivial,hJx8⟩⟩
  ·gi_wp2
   go_end0
   exact⟨⟨_,rfl⟩,.inl ⟨nb,_,HNB.out,rfl,hJs.out⟩⟩
end Go.Proofs.YtjjiikeldpjafaaGreatDoor
/- A region that draws its order, walked as LexF does, in a round of a range over a function. The fence is wide; no operation defers. -/
namespace Go.Proofs.YtjjiikeldpjafaaGreatDoor
open Go.RowKit
section
variable {F:Fence} {q:Nat} {P:Program} {Q:Exit→Act→World→Prop}
theorem opIn_of_op (hF:Wide F){l:List Oper}(hd:noDefer l=true){i:Nat}{K:Act→World→Prop}{a:Act}{w:World}(h:wpOp P l.toArray (OnlyN Q) i K a w):wpOpIn F q P l.toArray Q i K a w:=by
 unfold wpOp at h
 unfold wpOpIn
 cases ho:l.toArray[i]? with
 | none=>rw[ho]at h;exact h
 | some o =>
  rw[ho]at h
  simp only at h ⊢
  have hm:o∈l:=List.mem_of_getElem? (by rw[← List.getElem?_toArray];exact ho)
  split
  ·rename_i hw
   rw[if_pos hw]at h
   rcases h with h | h
   ·exact operIn_of_wp hF (noDefer_spec hd o hm) h
   ·exact absurd h.2 (not_letsOut Q)
  ·rename_i hw
   rw[if_neg hw]at h
   exact⟨fun f _=>hF.1 f,h⟩
theorem anyIn_of_any (hF:Wide F){md:Region.Mode}{l:List Oper}(hd:noDefer l=true):∀(f:Nat) (listed:Array Bool) (a:Act) (w:World),wpAny P md l.toArray (OnlyN Q) f listed a w→wpAnyIn F q P md l.toArray Q f listed a w
 | 0,_,_,_,h=>⟨h.1,h.2.2⟩
 | f+1,_,_,_,h=>⟨fun e=>(h.1 e).2,fun i hi=>opIn_of_op hF hd (wpOp_mono (fun a w h'=>anyIn_of_any hF hd f _ a w h') (h.2 i hi))⟩
theorem wpIn_region_lexF (hF:Wide F){id:Nat}{l:List Oper}{a:Act}{w:World}(ord:List FStep)(S:World→Prop)(hm:P.follows .mixedOrders=true)(hB:lexFB .any l.toArray ord=true)(hd:noDefer l=true)
  (hSN:∀ w w',S w→Below w.heap.size w w'→S w') (hS:S w.drew) (h:wpFl P l.toArray w.heap.size S (OnlyN Q) ord [] a w.drew):(Code.region id l.toArray true).wpIn F q P Q a w:=by
 unfold lexFB at hB
 simp only[Bool.and_eq_true]at hB
 obtain⟨⟨⟨hs,h1⟩,h2⟩,h3⟩:=hB
 refine wpIn_region_any hm (anyIn_of_any hF hd _ _ _ _ (wpAny_of_S (S:=S) (last:=lastOf l.toArray.size ord) _ _ _ _ ?_))
 have:=wpAnyS_of_fl (P:=P) (Q:=OnlyN Q) (base:=w.heap.size) h1 hs (fun c a a' w hq=>by cases hq.1) hSN ord [] [] [] l.length [] [] a w.drew w.drew h3 h2 ⟨by rw[undone_nil];simp,fun j=>by simp,List.nodup_nil,fun k=>by simp[lookK],fun f hf=>absurd hf List.not_mem_nil,fun k hk=>absurd hk List.not_mem_nil,fun x hx=>absurd hx List.not_mem_nil,fun k z V hk=>by simp[lookK]at hk,Below.refl _ _,Nat.le_refl _,hS,fun _=>rfl⟩ h
 rw[tookA_nil]at this
 simpa [putsE]using this
end
end Go.Proofs.YtjjiikeldpjafaaGreatDoor
