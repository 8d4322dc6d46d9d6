/- TopReclaims: the functions that lay what follows by itself, and what follows an event. No condition. -/
import Derived.Deep.Cut
import Derived.Test.YtjjiikeldpjafaaGreatDoorTT20
namespace Go.Proofs.YtjjiikeldpjafaaGreatDoor
open Go.RowKit
theorem wpOp_value {P:Program}{Q:Exit→Act→World→Prop}{l:List Oper}{i:Nat}{o:Oper}{v:Value}{K:Act→World→Prop}{a:Act}{w w':World}(ho:l[i]?=some o)(hg:o.guard=none)
  (hr:(execOp a.eval o).run P w=.ok (.value v) w') (hK:K (a.put o.dst v) w'):wpOp P l.toArray Q i K a w:=by
 unfold wpOp
 rw[List.getElem?_toArray,ho]
 simp only[Region.wanted,hg,if_true]
 left
 unfold Oper.wp
 rw[hr]
 exact hK
theorem wpOp_skip {P:Program}{Q:Exit→Act→World→Prop}{l:List Oper}{i:Nat}{o:Oper}{K:Act→World→Prop}{a:Act}{w w':World}(ho:l[i]?=some o)(hg:o.guard=none)
  (hr:(execOp a.eval o).run P w=.ok .skip w') (hK:K (a.put o.dst undef) w'):wpOp P l.toArray Q i K a w:=by
 unfold wpOp
 rw[List.getElem?_toArray,ho]
 simp only[Region.wanted,hg,if_true]
 left
 unfold Oper.wp
 rw[hr]
 exact hK
structure EffInv (w:World) (L:List Nat) (a:Act) (W:World):Prop where
 below:Below w.heap.size w W
 defers:a.defers=[]
 size:a.tmps.size=11
 t1:0∈L→a.tmps.getD 1 undef=.map (some w.heap.size)
 tk:∀ x∈effL,effOp x - 1∈L→a.tmps.getD (effOp x / 2+1) undef=effKey x
 t10:17∈L→a.tmps.getD 10 undef=.map (some w.heap.size)
 t0:18∈L→a.tmps.getD 0 undef=.map (some w.heap.size)
 fresh:0 ∉ L→W.heap.size=w.heap.size
 map:0∈L→∃ es clk,W.heap[w.heap.size]?=some (.map es clk)∧EffAt L es
 dep:∀ x∈effL,effOp x∈L→0∈L
theorem getD_set_same (t:Array Value){d:Nat}(h:d < t.size)(v:Value):(t.setIfInBounds d v).getD d undef=v:=by
 simp[Array.getD,h]
theorem getD_set_ne (t:Array Value){d e:Nat}(h:d≠e)(v:Value):(t.setIfInBounds d v).getD e undef=t.getD e undef:=by
 simp[Array.getD_eq_getD_getElem?,Array.getElem?_setIfInBounds_ne h]
theorem EffInv.build {w:World}{L:List Nat}{a:Act}{W:World}(h:EffInv w L a W){x:Int × Int × Int}(hx:x∈effL):EffInv w ((effOp x - 1)::L) (a.put (some (effOp x / 2+1)) (effKey x)) W:=by
 have hlt:∀ x∈effL,2≤effOp x / 2+1∧effOp x / 2+1 < 10∧effOp x - 1≠0∧effOp x - 1≠17∧effOp x - 1≠18:=by decide
 obtain⟨h1,h2,h3,h4,h5⟩:=hlt x hx
 have hne:∀ x∈effL,∀ y∈effL,effOp x - 1=effOp y - 1∨effOp x / 2+1≠effOp y / 2+1:=by decide
 have hni:∀ y∈effL,∀ x∈effL,effOp y≠effOp x - 1:=by decide
 have hin:∀ y∈effL,∀ x∈effL,effOp y - 1=effOp x - 1→y=x:=by decide
 constructor
 ·exact h.below
 ·exact h.defers
 ·simp[Act.put,h.size]
 ·intro hm
  show(a.tmps.setIfInBounds _ _).getD 1 undef=_
  rw[getD_set_ne _ (by omega)]
  exact h.t1 (by rcases List.mem_cons.1 hm with e | e;exact absurd e.symm h3;exact e)
 ·intro y hy hm
  show(a.tmps.setIfInBounds _ _).getD _ undef=_
  rcases List.mem_cons.1 hm with e | e
  ·rw[hin y hy x hx e]
   exact getD_set_same _ (by rw[h.size];omega) _
  ·rcases hne x hx y hy with g | g
   ·rw[hin y hy x hx g.symm]
    exact getD_set_same _ (by rw[h.size];omega) _
   ·rw[getD_set_ne _ g]
    exact h.tk y hy e
 ·intro hm
  show(a.tmps.setIfInBounds _ _).getD 10 undef=_
  rw[getD_set_ne _ (by omega)]
  exact h.t10 (by rcases List.mem_cons.1 hm with e | e;exact absurd e.symm h4;exact e)
 ·intro hm
  show(a.tmps.setIfInBounds _ _).getD 0 undef=_
  rw[getD_set_ne _ (by omega)]
  exact h.t0 (by rcases List.mem_cons.1 hm with e | e;exact absurd e.symm h5;exact e)
 ·exact fun hm=>h.fresh (fun e=>hm (List.mem_cons_of_mem _ e))
 ·intro hm
  obtain⟨es,clk,g1,g2⟩:=h.map (by rcases List.mem_cons.1 hm with e | e;exact absurd e.symm h3;exact e)
  exact⟨es,clk,g1,g2.more (fun y hy=>hni y hy x hx)⟩
 ·intro y hy hm
  refine List.mem_cons_of_mem _ (h.dep y hy ?_)
  rcases List.mem_cons.1 hm with e | e
  ·exact absurd e (hni y hy x hx)
  ·exact e
theorem EffInv.insert {w:World}{L:List Nat}{a:Act}{W:World}(h:EffInv w L a W){x:Int × Int × Int}(hx:x∈effL)(h0:0∈L)(hL:effOp x ∉ L) :
  ∃ W',(Instr.mapUpdate 294 (.map (some w.heap.size)) (effKey x) (.int .i64 x.2.2)).run Tryz.prog W=.ok () W'∧EffInv w (effOp x::L) a W':=by
 obtain⟨es,clk,g1,g2⟩:=h.map h0
 refine⟨_,eff_insert g1 g2 hx hL,?_⟩
 have hni:∀ y∈effL,∀ x∈effL,effOp y - 1≠effOp x:=by decide
 have hlt:∀ x∈effL,effOp x≠17∧effOp x≠18:=by decide
 obtain⟨h4,h5⟩:=hlt x hx
 have drop:∀ {i:Nat},i≠effOp x→i∈effOp x::L→i∈L:=fun hne hm=>by
  rcases List.mem_cons.1 hm with e | e
  ·exact absurd e hne
  ·exact e
 constructor
 ·exact h.below.grown (grownBy_putObj' W _ _) (h.below.size) (fun j e=>by cases e;exact Nat.le_refl _)
 ·exact h.defers
 ·exact h.size
 ·exact fun _=>h.t1 h0
 ·exact fun y hy hm=>h.tk y hy (drop (hni y hy x hx) hm)
 ·exact fun hm=>h.t10 (drop (Ne.symm h4) hm)
 ·exact fun hm=>h.t0 (drop (Ne.symm h5) hm)
 ·exact fun hm=>absurd (List.mem_cons_of_mem _ h0) hm
 ·intro _
  exact⟨_,_,World.putObj_heap_same (ltA g1),g2.push hx clk⟩
 ·exact fun _ _ _=>List.mem_cons_of_mem _ h0
theorem eff_step {w:World}{L:List Nat}{a:Act}{W:World}{Q:Exit→Act→World→Prop}{l:List Oper}{o:Oper}(hI:EffInv w L a W){x:Int × Int × Int}(hx:x∈effL)(ho:l[effOp x]?=some o)(hi:effOp x ∉ L)
  (hg:o.guard=none) (hop:o={ dst:=none,op:=.insert 294 (.tmp 1) (.tmp (effOp x / 2+1)) (.const (.int .i64 x.2.2)),type:=0,pos:=o.pos,after:=o.after,guard:=none }) (h0:0∈L) (hk:effOp x - 1∈L) :
  wpOp Tryz.prog l.toArray Q (effOp x) (fun a' w'=>EffInv w (effOp x::L) a' w') a W:=by
 obtain⟨W',h1,h2⟩:=hI.insert hx h0 hi
 have e1:a.eval (.tmp 1)=.map (some w.heap.size):=hI.t1 h0
 have e2:a.eval (.tmp (effOp x / 2+1))=effKey x:=hI.tk x hx hk
 refine wpOp_skip ho hg (w':=W') ?_ (by rw[hop];exact h2)
 rw[hop]
 show((Instr.mapUpdate 294 (a.eval (.tmp 1)) (a.eval (.tmp (effOp x / 2+1))) (.int .i64 x.2.2)) >>= fun _=>pure Next.skip).run Tryz.prog W=_
 rw[e1,e2,Sem.run_bind,h1]
 rfl
theorem EffInv.start (w:World)(a:Act)(hs:a.tmps.size=11)(hd:a.defers=[]):EffInv w [] a w.drew where
 below:=Below.drew br0
 defers:=hd
 size:=hs
 t1:=fun h=>absurd h List.not_mem_nil
 tk:=fun _ _ h=>absurd h List.not_mem_nil
 t10:=fun h=>absurd h List.not_mem_nil
 t0:=fun h=>absurd h List.not_mem_nil
 fresh:=fun _=>rfl
 map:=fun h=>absurd h List.not_mem_nil
 dep:=fun _ _ h=>absurd h List.not_mem_nil
theorem EffInv.made {w:World}{L:List Nat}{a:Act}{W:World}(h:EffInv w L a W)(h0:0 ∉ L):EffInv w (0::L) (a.put (some 1) (.map (some w.heap.size))) (W.alloc (.map #[] 0)):=by
 have hs:=h.fresh h0
 have hni:∀ x∈effL,effOp x≠0∧effOp x - 1≠0∧effOp x / 2+1≠1:=by decide
 have drop:∀ {i:Nat},i≠0→i∈0::L→i∈L:=fun hne hm=>by
  rcases List.mem_cons.1 hm with e | e
  ·exact absurd e hne
  ·exact e
 constructor
 ·exact h.below.alloc (by omega) _
 ·exact h.defers
 ·simp[Act.put,h.size]
 ·intro _
  exact getD_set_same _ (by rw[h.size];omega) _
 ·intro y hy hm
  obtain⟨_,k2,k3⟩:=hni y hy
  show(a.tmps.setIfInBounds _ _).getD _ undef=_
  rw[getD_set_ne _ (Ne.symm k3)]
  exact h.tk y hy (drop k2 hm)
 ·intro hm
  show(a.tmps.setIfInBounds _ _).getD 10 undef=_
  rw[getD_set_ne _ (by omega)]
  exact h.t10 (drop (by omega) hm)
 ·intro hm
  show(a.tmps.setIfInBounds _ _).getD 0 undef=_
  rw[getD_set_ne _ (by omega)]
  exact h.t0 (drop (by omega) hm)
 ·exact fun hm=>absurd (List.mem_cons_self ..) hm
 ·intro _
  exact⟨#[],0,by rw[← hs];exact heap_alloc_new W _,EffAt.none (fun x hx hm=>h0 (h.dep x hx (drop (hni x hx).1 hm)))⟩
 ·exact fun _ _ _=>List.mem_cons_self ..
theorem EffInv.moved {w:World}{L:List Nat}{a:Act}{W:World}(h:EffInv w L a W){i d:Nat}(hid:i=17∧d=10∨i=18∧d=0):EffInv w (i::L) (a.put (some d) (.map (some w.heap.size))) W:=by
 have hni:∀ x∈effL,effOp x < 17∧2≤effOp x / 2+1∧effOp x / 2+1 < 10:=by decide
 have drop:∀ {j:Nat},j≠i→j∈i::L→j∈L:=fun hne hm=>by
  rcases List.mem_cons.1 hm with e | e
  ·exact absurd e hne
  ·exact e
 constructor
 ·exact h.below
 ·exact h.defers
 ·simp[Act.put,h.size]
 ·intro hm
  show(a.tmps.setIfInBounds _ _).getD 1 undef=_
  rw[getD_set_ne _ (by omega)]
  exact h.t1 (drop (by omega) hm)
 ·intro y hy hm
  obtain⟨k1,k2,k3⟩:=hni y hy
  show(a.tmps.setIfInBounds _ _).getD _ undef=_
  rw[getD_set_ne _ (by omega)]
  exact h.tk y hy (drop (by omega) hm)
 ·intro hm
  show(a.tmps.setIfInBounds _ _).getD 10 undef=_
  rcases hid with⟨rfl,rfl⟩ | ⟨rfl,rfl⟩
  ·exact getD_set_same _ (by rw[h.size];omega) _
  ·rw[getD_set_ne _ (by omega)]
   exact h.t10 (drop (by omega) hm)
 ·intro hm
  show(a.tmps.setIfInBounds _ _).getD 0 undef=_
  rcases hid with⟨rfl,rfl⟩ | ⟨rfl,rfl⟩
  ·rw[getD_set_ne _ (by omega)]
   exact h.t0 (drop (by omega) hm)
  ·exact getD_set_same _ (by rw[h.size];omega) _
 ·exact fun hm=>h.fresh (fun e=>hm (List.mem_cons_of_mem _ e))
 ·intro hm
  obtain⟨es,clk,g1,g2⟩:=h.map (drop (by omega) hm)
  exact⟨es,clk,g1,g2.more (fun y hy=>by have:=(hni y hy).1;omega)⟩
 ·intro y hy hm
  exact List.mem_cons_of_mem _ (h.dep y hy (drop (by have:=(hni y hy).1;omega) hm))
def EffAll (es:Array MapEntry):Prop:=∃ L,(∀ x∈effL,effOp x∈L)∧EffAt L es
theorem effects_any (w:World):Calls Tryz.prog 176 #[] w fun e w'=>∃ es clk,e=.returned (.map (some w.heap.size))∧Below w.heap.size w w'∧w'.heap[w.heap.size]?=some (.map es clk)∧EffAll es:=by
 have hlt:∀ x∈effL,effOp x < 19:=by decide
 go_enter Tryz.func176,Tryz.ntmps176
 go_upto_region 1 with fail
 refine wp_region_inv (by kernel_rfl) (by kernel_rfl) (EffInv w) (EffInv.start w _ rfl rfl) (fun L a W hI hall=>?_) (fun L a W i o hI hi ho hd=>?_)
 ·obtain⟨es,clk,g1,g2⟩:=hI.map (hall 0 (by decide))
  have ht:=hI.t0 (hall 18 (by decide))
  obtain⟨tm,df⟩:=a
  obtain rfl:df=[]:=hI.defers
  rename_i hKK
  refine hKK _ _ (wp_ret ?_)
  exact bodyPost_ret (results_tmp rfl _ _ _) rfl ⟨es,clk,congrArg Ending.returned ht,hI.below,g1,L,fun x hx=>hall _ (hlt x hx),g2⟩
 ·have hil:i < 19:=(List.getElem?_eq_some_iff.1 ho).1
  rcases(by omega:i=0∨i=1∨i=2∨i=3∨i=4∨i=5∨i=6∨i=7∨i=8∨i=9∨i=10∨i=11∨i=12∨i=13∨i=14∨i=15∨i=16∨i=17∨i=18)with rfl | rfl | rfl | rfl | rfl | rfl | rfl | rfl | rfl | rfl | rfl | rfl | rfl | rfl | rfl | rfl | rfl | rfl | rfl
  ·obtain rfl:=Option.some.inj ho
   exact wpOp_value ho rfl (by rw[← hI.fresh hi];rfl) (hI.made hi)
  ·obtain rfl:=Option.some.inj ho
   exact wpOp_value ho rfl (by kernel_rfl) (hI.build (x:=(1,1,3)) (by decide))
  ·obtain rfl:=Option.some.inj ho
   exact eff_step hI (x:=(1,1,3)) (by decide) ho hi rfl rfl (hd ⟨0,.data⟩ (by simp) rfl) (hd ⟨1,.data⟩ (by simp) rfl)
  ·obtain rfl:=Option.some.inj ho
   exact wpOp_value ho rfl (by kernel_rfl) (hI.build (x:=(2,1,2)) (by decide))
  ·obtain rfl:=Option.some.inj ho
   exact eff_step hI (x:=(2,1,2)) (by decide) ho hi rfl rfl (hd ⟨0,.data⟩ (by simp) rfl) (hd ⟨3,.data⟩ (by simp) rfl)
  ·obtain rfl:=Option.some.inj ho
   exact wpOp_value ho rfl (by kernel_rfl) (hI.build (x:=(3,2,3)) (by decide))
  ·obtain rfl:=Option.some.inj ho
   exact eff_step hI (x:=(3,2,3)) (by decide) ho hi rfl rfl (hd ⟨0,.data⟩ (by simp) rfl) (hd ⟨5,.data⟩ (by simp) rfl)
  ·obtain rfl:=Option.some.inj ho
   exact wpOp_value ho rfl (by kernel_rfl) (hI.build (x:=(4,2,6)) (by decide))
  ·obtain rfl:=Option.some.inj ho
   exact eff_step hI (x:=(4,2,6)) (by decide) ho hi rfl rfl (hd ⟨0,.data⟩ (by simp) rfl) (hd ⟨7,.data⟩ (by simp) rfl)
  ·obtain rfl:=Option.some.inj ho
   exact wpOp_value ho rfl (by kernel_rfl) (hI.build (x:=(5,1,7)) (by decide))
  ·obtain rfl:=Option.some.inj ho
   exact eff_step hI (x:=(5,1,7)) (by decide) ho hi rfl rfl (hd ⟨0,.data⟩ (by simp) rfl) (hd ⟨9,.data⟩ (by simp) rfl)
  ·obtain rfl:=Option.some.inj ho
   exact wpOp_value ho rfl (by kernel_rfl) (hI.build (x:=(5,2,7)) (by decide))
  ·obtain rfl:=Option.some.inj ho
   exact eff_step hI (x:=(5,2,7)) (by decide) ho hi rfl rfl (hd ⟨0,.data⟩ (by simp) rfl) (hd ⟨11,.data⟩ (by simp) rfl)
  ·obtain rfl:=Option.some.inj ho
   exact wpOp_value ho rfl (by kernel_rfl) (hI.build (x:=(5,3,7)) (by decide))
  ·obtain rfl:=Option.some.inj ho
   exact eff_step hI (x:=(5,3,7)) (by decide) ho hi rfl rfl (hd ⟨0,.data⟩ (by simp) rfl) (hd ⟨13,.data⟩ (by simp) rfl)
  ·obtain rfl:=Option.some.inj ho
   exact wpOp_value ho rfl (by kernel_rfl) (hI.build (x:=(6,4,8)) (by decide))
  ·obtain rfl:=Option.some.inj ho
   exact eff_step hI (x:=(6,4,8)) (by decide) ho hi rfl rfl (hd ⟨0,.data⟩ (by simp) rfl) (hd ⟨15,.data⟩ (by simp) rfl)
  ·obtain rfl:=Option.some.inj ho
   have h0:0∈L:=hd ⟨0,.data⟩ (by simp) rfl
   have e1:a.eval (.tmp 1)=.map (some w.heap.size):=hI.t1 h0
   exact wpOp_value (v:=.map (some w.heap.size)) ho rfl (by show Result.ok (Next.value (a.eval (.tmp 1))) W=_;rw[e1]) (hI.moved (.inl ⟨rfl,rfl⟩))
  ·obtain rfl:=Option.some.inj ho
   have h0:17∈L:=hd ⟨17,.data⟩ (by simp) rfl
   have e1:a.eval (.tmp 10)=.map (some w.heap.size):=hI.t10 h0
   exact wpOp_value (v:=.map (some w.heap.size)) ho rfl (by show Result.ok (Next.value (a.eval (.tmp 10))) W=_;rw[e1]) (hI.moved (.inr ⟨rfl,rfl⟩))
end Go.Proofs.YtjjiikeldpjafaaGreatDoor
/- TopReclaims: what happens by itself. No condition. -/
namespace Go.Proofs.YtjjiikeldpjafaaGreatDoor
open Go.RowKit Go.BigFrame
def dueV (k:Nat):Value:=.agg #[.func (.func (match k with | 0=>191 | 1=>192 | 2=>193 | _=>194)) #[] #[],.int .i64 (match k with | 0=>3 | 1=>3 | 2=>4 | _=>5)]
def dueEs (k:Nat):Array MapEntry:=((List.range k).map fun j:Nat=>{ key:=.int .i64 ((j:Int)+1),val:=dueV j,born:=j }).toArray
theorem due_insert {w:World}{b k:Nat}(hk:k < 4)(hb:w.heap[b]?=some (.map (dueEs k) k)) :
  (Instr.mapUpdate 292 (.map (some b)) (.int .i64 ((k:Int)+1)) (dueV k)).run Tryz.prog w=.ok () (w.putObj b (.map (dueEs (k+1)) (k+1))):=by
 have h1:∀ k:Nat,k < 4→(Instr.findKey 3 (.int .i64 ((k:Int)+1)) (dueEs k).toList).run Tryz.prog w=.ok none w:=by
  intro k hk
  rcases(by omega:k=0∨k=1∨k=2∨k=3)with rfl | rfl | rfl | rfl <;> kernel_rfl
 have h2:(Instr.checkKey false 10000 3 (.int .i64 ((k:Int)+1))).run Tryz.prog w=.ok () w:=by kernel_rfl
 have h3:(dueEs k).push { key:=.int .i64 ((k:Int)+1),val:=dueV k,born:=k }=dueEs (k+1):=by
  unfold dueEs
  rw[List.range_succ,List.map_append]
  simp
 simp[Instr.mapUpdate,run_underlying Tryz.underlying292,MapKept.run_getObj_map hb,h2,h1 k hk,MapKept.run_setObj_map _ hb,Result.andThen,World.putObj,h3]
theorem wpList_due {w:World}{ops:Array Oper}{rest:List Oper}{o:Oper}{a:Act}{Q:Exit→Act→World→Prop}(hg:o.guard=none)(m x v:Operand)(hop:o.op=Op.insert 292 m x v)(b k:Nat)(hk:k < 4)
  (hm:a.eval m=.map (some b)) (hx:a.eval x=.int .i64 ((k:Int)+1)) (hv:a.eval v=dueV k) (hb:w.heap[b]?=some (.map (dueEs k) k))
  (hK:∀ w',w'.heap[b]?=some (.map (dueEs (k+1)) (k+1))→w.grownBy w' (some b)→wpList Tryz.prog ops Q rest (a.put o.dst undef) w'):wpList Tryz.prog ops Q (o::rest) a w:=by
 refine wpList_plain hg fun K' hK'=>?_
 have hrun:=due_insert hk hb
 unfold Oper.wp
 simp[execOp,hop,hm,hx,hv,hrun,Result.andThen]
 exact hK' _ _ (hK _ (World.putObj_heap_same (ltA hb)) (grownBy_putObj' w _ _))
theorem due_look {w:World}{b:Nat}(hb:w.heap[b]?=some (.map (dueEs 4) 4)){k:Nat}(hk:k < 4) :
  (Instr.lookup 292 (.map (some b)) (.int .i64 ((k:Int)+1)) true).run Tryz.prog w=.ok (.tuple #[dueV k,.bool true]) w:=by
 have h1:∀ k:Nat,k < 4→(Instr.findKey 3 (.int .i64 ((k:Int)+1)) (dueEs 4).toList).run Tryz.prog w=.ok (some (k,dueV k)) w:=by
  intro k hk
  rcases(by omega:k=0∨k=1∨k=2∨k=3)with rfl | rfl | rfl | rfl <;> kernel_rfl
 have h2:∀ e,(Instr.checkKey e 10000 3 (.int .i64 ((k:Int)+1))).run Tryz.prog w=.ok () w:=by intro e;kernel_rfl
 simp[Instr.lookup,run_underlying Tryz.underlying292,MapKept.run_getObj_map hb,h2,h1 k hk,Result.andThen]
theorem due_miss {w:World}{b:Nat}(hb:w.heap[b]?=some (.map (dueEs 4) 4)){s:Int}(hs:s=5∨s=8) :
  (Instr.lookup 292 (.map (some b)) (.int .i64 s) true).run Tryz.prog w=.ok (.tuple #[.agg #[.nilFunc,.int .i64 0],.bool false]) w:=by
 have h1:(Instr.findKey 3 (.int .i64 s) (dueEs 4).toList).run Tryz.prog w=.ok none w:=by
  rcases hs with rfl | rfl <;> kernel_rfl
 have h2:∀ e,(Instr.checkKey e 10000 3 (.int .i64 s)).run Tryz.prog w=.ok () w:=by intro e;kernel_rfl
 have hz:(zeroValue 303).run Tryz.prog w=.ok (.agg #[.nilFunc,.int .i64 0]) w:=by kernel_rfl
 simp[Instr.lookup,run_underlying Tryz.underlying292,MapKept.run_getObj_map hb,h2,h1,hz,Result.andThen]
set_option maxHeartbeats 1000000 in
theorem dues_any (w:World):Calls Tryz.prog 175 #[] w fun e w'=>e=.returned (.map (some w.heap.size))∧Below w.heap.size w w'∧w'.heap[w.heap.size]?=some (.map (dueEs 4) 4):=by
 have hmm:=@run_makeMap Tryz.prog
 have h0:(w.alloc (.map #[] 0)).heap[w.heap.size]?=some (.map (dueEs 0) 0):=heap_alloc_new w _
 have HB:=zh ((Below.refl w.heap.size w).alloc (Nat.le_refl _) (.map #[] 0))
 have HH:=zh h0
 clear h0
 go_enter Tryz.func175,Tryz.ntmps175
 go_wp2_with (first | (refine wpList_due rfl _ _ _ rfl w.heap.size 0 (by omega) rfl rfl rfl HH.out ?_;intro w1 h1 g1;have HH1:=zh h1;have HB1:=zh (HB.out.grown g1 (by simp) (fun j e=>by cases e;exact Nat.le_refl _));clear h1 g1) | (refine wpList_due rfl _ _ _ rfl w.heap.size 1 (by omega) rfl rfl rfl HH1.out ?_;intro w2 h1 g1;have HH2:=zh h1;have HB2:=zh (HB1.out.grown g1 HB1.out.size (fun j e=>by cases e;exact Nat.le_refl _));clear h1 g1) | (refine wpList_due rfl _ _ _ rfl w.heap.size 2 (by omega) rfl rfl rfl HH2.out ?_;intro w3 h1 g1;have HH3:=zh h1;have HB3:=zh (HB2.out.grown g1 HB2.out.size (fun j e=>by cases e;exact Nat.le_refl _));clear h1 g1) | (refine wpList_due rfl _ _ _ rfl w.heap.size 3 (by omega) rfl rfl rfl HH3.out ?_;intro w4 h1 g1;have HH4:=zh h1;have HB4:=zh (HB3.out.grown g1 HB3.out.size (fun j e=>by cases e;exact Nat.le_refl _));clear h1 g1))
 go_ret
 exact⟨rfl,HB4.out,HH4.out⟩
end Go.Proofs.YtjjiikeldpjafaaGreatDoor
/- TopReclaims: the status of a state that begins. The conditions: what the machine's block holds. -/
namespace Go.Proofs.YtjjiikeldpjafaaGreatDoor
open Go.RowKit Go.BigFrame
attribute [local go_sem] Oper.semAt_some
theorem three_cellsC {W:World}{b:Nat}{c0 c1 c2:Value}{T:TypeId}(h:W.heap[b]?=some (.cells #[c0,c1,c2] T (0,0))):W.cell? ⟨b,0,none⟩=some c0∧W.cell? ⟨b,1,none⟩=some c1∧W.cell? ⟨b,2,none⟩=some c2 :=
 ⟨cell_of_row W _ 0 _ _ _ h,cell_of_row W _ 1 _ _ _ h,cell_of_row W _ 2 _ _ _ h⟩
theorem three_heapC {W:World}{b:Nat}{c0 c1 c2:Value}{T:TypeId}(h:W.heap[b]?=some (.cells #[c0,c1,c2] T (0,0)))(x0 x1 x2:Value) :
  (((W.setCell ⟨b,0,none⟩ x0).setCell ⟨b,1,none⟩ x1).setCell ⟨b,2,none⟩ x2).heap[b]?=some (.cells #[x0,x1,x2] T (0,0)):=by
 have h0:=heap_setCell_same (i:=0) x0 h
 have h1:=heap_setCell_same (i:=1) x1 h0
 have h2:=heap_setCell_same (i:=2) x2 h1
 simpa using h2
theorem three_belowC {w W:World}{b B:Nat}(h:Below B w W)(hb:B≤b)(x0 x1 x2:Value):Below B w (((W.setCell ⟨b,0,none⟩ x0).setCell ⟨b,1,none⟩ x1).setCell ⟨b,2,none⟩ x2) :=
 ((h.setCell (p:=⟨b,0,none⟩) hb x0).setCell (p:=⟨b,1,none⟩) hb x1).setCell (p:=⟨b,2,none⟩) hb x2
theorem infoStatus:(Tryz.prog.info? 217).map (·.size)=some 3:=by kernel_rfl
theorem rlAnswer_any (a0 a1 a2 a3:Int)(w:World):Calls Tryz.prog 191 #[.agg #[.int .i64 a0,.int .i64 a1,.int .i64 a2,.int .i64 a3]] w fun e w'=>e=.returned (.int .i64 a0)∧Below w.heap.size w w':=by
 have HB:=zh ((Below.refl w.heap.size w).alloc (Nat.le_refl _) (.cells #[.int .i64 a0,.int .i64 a1,.int .i64 a2,.int .i64 a3] 209))
 go_enter Tryz.func191,Tryz.ntmps191
 go_wp2
 go_ret
 exact⟨rfl,HB.out⟩
theorem rlCooling_any (a0 a1 a2 a3:Int)(w:World):Calls Tryz.prog 193 #[.agg #[.int .i64 a0,.int .i64 a1,.int .i64 a2,.int .i64 a3]] w fun e w'=>e=.returned (.int .i64 a1)∧Below w.heap.size w w':=by
 have HB:=zh ((Below.refl w.heap.size w).alloc (Nat.le_refl _) (.cells #[.int .i64 a0,.int .i64 a1,.int .i64 a2,.int .i64 a3] 209))
 go_enter Tryz.func193,Tryz.ntmps193
 go_wp2
 go_ret
 exact⟨rfl,HB.out⟩
theorem rlReverse_any (a0 a1 a2 a3:Int)(w:World):Calls Tryz.prog 194 #[.agg #[.int .i64 a0,.int .i64 a1,.int .i64 a2,.int .i64 a3]] w fun e w'=>e=.returned (.int .i64 a3)∧Below w.heap.size w w':=by
 have HB:=zh ((Below.refl w.heap.size w).alloc (Nat.le_refl _) (.cells #[.int .i64 a0,.int .i64 a1,.int .i64 a2,.int .i64 a3] 209))
 go_enter Tryz.func194,Tryz.ntmps194
 go_wp2
 go_ret
 exact⟨rfl,HB.out⟩
structure MAt (w:World) (mb:Nat) (a0 a1 a2 a3 cn cf ct ch ca:Int) (cb:Bool) (bd be:Nat) (vv:Value):Prop where
 cells:w.heap[mb]?=some (.cells #[.int .i64 a0,.int .i64 a1,.int .i64 a2,.int .i64 a3,.int .i64 cn,.int .i64 cf,.int .i64 ct,.int .i64 ch,.int .i64 ca,.bool cb,.map (some bd),.map (some be),vv] 297 (0,0))
 dues:w.heap[bd]?=some (.map (dueEs 4) 4)
set_option maxHeartbeats 2000000 in
set_option maxRecDepth 100000 in
theorem beginsAsked {w:World}{mb bd be:Nat}{a0 a1 a2 a3 cn cf ct ch ca:Int}{cb:Bool}{vv:Value}(hm:MAt w mb a0 a1 a2 a3 cn cf ct ch ca cb bd be vv)(since:Int)(h0:0≤since)(h1:since≤30000000)(h2:1≤a0∧a0≤1000000) :
  Calls Tryz.prog 179 #[.pointer (some ⟨mb,0,none⟩),.int .i64 1,.int .i64 since] w fun e w'=>e=.returned (.agg #[.int .i64 1,.int .i64 since,.int .i64 (since+a0)])∧Below w.heap.size w w':=by
 have HM:=zh hm
 have HLW:=zh (fun W=>rlAnswer_any a0 a1 a2 a3 W)
 have hw:IntKind.i64.wrap (since+a0)=since+a0:=IntWalk.i64_in _ (by omega)
 obtain⟨W1,hW1⟩:∃ W1,W1=w.alloc (.cells #[.int .i64 0,.int .i64 0,.int .i64 0] 217):=⟨_,rfl⟩
 have HBW1:Hid (Below w.heap.size w W1):=zh (by rw[hW1];exact br0.alloc (Nat.le_refl _) _)
 have HXW1:Hid (W1.heap[w.heap.size]?=some (.cells #[.int .i64 0,.int .i64 0,.int .i64 0] 217 (0,0))):=zh (by rw[hW1];exact heap_alloc_new w _)
 have hsW1:Hid (W1.heap.size=w.heap.size+1):=zh (by rw[hW1];simp)
 have HWW1:=zh hW1
 clear hW1
 obtain⟨W2,hW2⟩:∃ W2,W2=W1.alloc (.cells #[.int .i64 1,.int .i64 since,.int .i64 (-1)] 217):=⟨_,rfl⟩
 have HBW2:Hid (Below W1.heap.size W1 W2):=zh (by rw[hW2];exact br0.alloc (Nat.le_refl _) _)
 have HXW2:Hid (W2.heap[W1.heap.size]?=some (.cells #[.int .i64 1,.int .i64 since,.int .i64 (-1)] 217 (0,0))):=zh (by rw[hW2];exact heap_alloc_new W1 _)
 have hsW2:Hid (W2.heap.size=W1.heap.size+1):=zh (by rw[hW2];simp)
 have HWW2:=zh hW2
 clear hW2
 have HB2:=zh (q_next HBW1.out HBW2.out)
 have hl:=due_look (w:=W2) (kept_block hm.dues HB2.out) (k:=0) (by omega)
 have hm11:w.cell? ⟨mb,10,none⟩=some (.map (some bd)):=cell_of_row w _ 10 _ _ _ hm.cells
 have hc10:W2.cell? ⟨mb,10,none⟩=some (.map (some bd)):=cell_of_row W2 _ 10 _ _ _ (kept_block hm.cells HB2.out)
 have hl2:(Instr.lookup 292 (.map (some bd)) (.int .i64 1) true).run Tryz.prog W2=.ok (.tuple #[.agg #[.func (.func 191) #[] #[],.int .i64 3],.bool true]) W2:=hl
 clear hl hm hm11
 go_enter Tryz.func179,Tryz.ntmps179
 go_upto_region 2 with fail
 rw[← HWW1.out,← HWW2.out]
 clear HWW1 HWW2
 have HZ0:=zh (heap_alloc_new W2 (.cells #[.nilFunc,.int .i64 0] 303))
 have z0:=cell_of_row _ _ 0 _ _ _ HZ0.out
 have z1:=cell_of_row _ _ 1 _ _ _ HZ0.out
 have zf:∀ j,(W2.alloc (.cells #[.nilFunc,.int .i64 0] 303)).frozen? ⟨W2.heap.size,j,none⟩=false:=fun j=>by unfold World.frozen?;rw[HZ0.out];simp
 have hs0:(store ⟨W2.heap.size,0,none⟩ (.func (.func 191) #[] #[])).run Tryz.prog (W2.alloc (.cells #[.nilFunc,.int .i64 0] 303))=.ok () ((W2.alloc (.cells #[.nilFunc,.int .i64 0] 303)).setCell ⟨W2.heap.size,0,none⟩ (.func (.func 191) #[] #[])):=by simp[store,Sem.run,z0,zf]
 have z1':((W2.alloc (.cells #[.nilFunc,.int .i64 0] 303)).setCell ⟨W2.heap.size,0,none⟩ (.func (.func 191) #[] #[])).cell? ⟨W2.heap.size,1,none⟩=some (.int .i64 0):=cell_of_row _ _ 1 _ _ _ (heap_setCell_same (i:=0) _ HZ0.out)
 go_upto_region 4 with fail
 obtain⟨W3,hW3⟩:∃ W3,W3=W2.alloc (.cells #[.func (.func 191) #[] #[],.int .i64 3] 303):=⟨_,rfl⟩
 have HBW3:Hid (Below W2.heap.size W2 W3):=zh (by rw[hW3];exact br0.alloc (Nat.le_refl _) _)
 have HXW3:Hid (W3.heap[W2.heap.size]?=some (.cells #[.func (.func 191) #[] #[],.int .i64 3] 303 (0,0))):=zh (by rw[hW3];exact heap_alloc_new W2 _)
 have hsW3:Hid (W3.heap.size=W2.heap.size+1):=zh (by rw[hW3];simp)
 have HWW3:=zh hW3
 clear hW3
 rw[← HWW3.out]
 clear hl2 hc10 z0 z1 z1' zf hs0 HZ0 HWW3
 have HB3:=zh (q_next HB2.out HBW3.out)
 have HY:Hid (∀ W,Below W3.heap.size W3 W→(W.cell? ⟨W2.heap.size,0,none⟩=some (.func (.func 191) #[] #[])∧W.cell? ⟨mb,0,none⟩=some (.int .i64 a0)∧W.cell? ⟨mb,1,none⟩=some (.int .i64 a1)∧W.cell? ⟨mb,2,none⟩=some (.int .i64 a2)∧W.cell? ⟨mb,3,none⟩=some (.int .i64 a3))):=zh (fun W hW=>by
  have h1:=kept_block HXW3.out hW
  have h2:=kept_block HM.out.cells (q_next HB3.out hW)
  exact⟨cell_of_row W _ 0 _ _ _ h1,cell_of_row W _ 0 _ _ _ h2,cell_of_row W _ 1 _ _ _ h2,cell_of_row W _ 2 _ _ _ h2,cell_of_row W _ 3 _ _ _ h2⟩)
 have HZ2:Hid (W3.heap[w.heap.size+1]?=some (.cells #[.int .i64 1,.int .i64 since,.int .i64 (-1)] 217 (0,0))):=zh (by rw[← hsW1.out];exact kept_block HXW2.out HBW3.out)
 have HZ1:Hid (W3.heap[w.heap.size]?=some (.cells #[.int .i64 0,.int .i64 0,.int .i64 0] 217 (0,0))):=zh (kept_block HXW1.out (q_next HBW2.out HBW3.out))
 refine wp_region_noPanic ?_
 refine wp_region_lexB [.q 0,.q 1,.q 2,.q 3,.q 4,.q 5,.q 6,.b 7,.q 8,.q 9,.l 10] (by kernel_rfl) (by kernel_rfl) (fun _ _ _ _ h=>h) ?_
 iterate 7(refine wpFl_qL (v:=?_) rfl (Or.inl ⟨by rfl,?_⟩) ?_;rotate_left;(focus(intro w' hSw;obtain⟨d0,m0,m1,m2,m3⟩:=HY.out w' hSw;go_simp;(try with_reducible rfl);done));simp only[Act.put,zzA,zzB,zzC])
 refine wpFl_bL rfl (fun wa hna hsa K hK=>?_)
 go_simp
 go_at_call 191
 (with_reducible refine(HLW.out _).mono ?_)
 rintro e wb ⟨rfl,hbb⟩
 refine hK.out _ _ (below_next hsa hbb) (Keeps.below hbb) ?_
 clear hK K hna hsa hbb
 iterate 2(refine wpFl_qL (v:=?_) rfl (Or.inl ⟨by rfl,?_⟩) ?_;rotate_left;(focus(intro w' hSw;go_simp;(try with_reducible rfl);done));simp only[Act.put,zzA,zzB,zzC])
 refine wpFl_lL rfl (fun wc hnc hsc K hK=>?_)
 have s1:=kept_block HZ1.out hsc
 have s2:=kept_block HZ2.out hsc
 have HBC:=zh (q_next HB3.out hsc)
 obtain⟨g0,g1,g2⟩:=three_cellsC s2
 have zf:∀ j,wc.frozen? ⟨w.heap.size+1,j,none⟩=false:=fun j=>by unfold World.frozen?;rw[s2];simp
 go_simp
 refine hK.out _ _ ?_
 clear hK K hnc hsc
 refine NoPanic.normal ?_
 have HS2:=zh (heap_setCell_same (i:=2) (.int .i64 (since+a0)) s2)
 have HS1:Hid ((wc.setCell ⟨w.heap.size+1,2,none⟩ (.int .i64 (since+a0))).heap[w.heap.size]?=some (.cells #[.int .i64 0,.int .i64 0,.int .i64 0] 217 (0,0))):=zh ((Below.heap_setCell _ _ _ _ (by show w.heap.size≠w.heap.size+1;omega)).trans s1)
 have HBD:Hid (Below w.heap.size w (wc.setCell ⟨w.heap.size+1,2,none⟩ (.int .i64 (since+a0)))):=zh (HBC.out.setCell (p:=⟨w.heap.size+1,2,none⟩) (by simp) _)
 clear s1 s2 g0 g1 g2 zf
 generalize wc.setCell ⟨w.heap.size+1,2,none⟩ (.int .i64 (since+a0))=wd at *
 obtain⟨g0,g1,g2⟩:=three_cellsC HS2.out
 obtain⟨k0,k1,k2⟩:=three_cellsC HS1.out
 have zf:∀ j,wd.frozen? ⟨w.heap.size,j,none⟩=false:=fun j=>by unfold World.frozen?;rw[HS1.out];simp
 go_wp2
 exact bodyPost_ret (results_cell_row rfl _ _ w.heap.size 217 #[.int .i64 1,.int .i64 since,.int .i64 (since+a0)] (0,0) _ rfl (three_heapC HS1.out _ _ _) Tryz.underlying217 rfl infoStatus) rfl ⟨rfl,three_belowC HBD.out (Nat.le_refl _) _ _ _⟩
set_option maxHeartbeats 2000000 in
set_option maxRecDepth 100000 in
theorem beginsCooling {w:World}{mb bd be:Nat}{a0 a1 a2 a3 cn cf ct ch ca:Int}{cb:Bool}{vv:Value}(hm:MAt w mb a0 a1 a2 a3 cn cf ct ch ca cb bd be vv)(since:Int)(h0:0≤since)(h1:since≤30000000)(h2:1≤a1∧a1≤1000000) :
  Calls Tryz.prog 179 #[.pointer (some ⟨mb,0,none⟩),.int .i64 3,.int .i64 since] w fun e w'=>e=.returned (.agg #[.int .i64 3,.int .i64 since,.int .i64 (since+a1)])∧Below w.heap.size w w':=by
 have HM:=zh hm
 have HLW:=zh (fun W=>rlCooling_any a0 a1 a2 a3 W)
 have hw:IntKind.i64.wrap (since+a1)=since+a1:=IntWalk.i64_in _ (by omega)
 obtain⟨W1,hW1⟩:∃ W1,W1=w.alloc (.cells #[.int .i64 0,.int .i64 0,.int .i64 0] 217):=⟨_,rfl⟩
 have HBW1:Hid (Below w.heap.size w W1):=zh (by rw[hW1];exact br0.alloc (Nat.le_refl _) _)
 have HXW1:Hid (W1.heap[w.heap.size]?=some (.cells #[.int .i64 0,.int .i64 0,.int .i64 0] 217 (0,0))):=zh (by rw[hW1];exact heap_alloc_new w _)
 have hsW1:Hid (W1.heap.size=w.heap.size+1):=zh (by rw[hW1];simp)
 have HWW1:=zh hW1
 clear hW1
 obtain⟨W2,hW2⟩:∃ W2,W2=W1.alloc (.cells #[.int .i64 3,.int .i64 since,.int .i64 (-1)] 217):=⟨_,rfl⟩
 have HBW2:Hid (Below W1.heap.size W1 W2):=zh (by rw[hW2];exact br0.alloc (Nat.le_refl _) _)
 have HXW2:Hid (W2.heap[W1.heap.size]?=some (.cells #[.int .i64 3,.int .i64 since,.int .i64 (-1)] 217 (0,0))):=zh (by rw[hW2];exact heap_alloc_new W1 _)
 have hsW2:Hid (W2.heap.size=W1.heap.size+1):=zh (by rw[hW2];simp)
 have HWW2:=zh hW2
 clear hW2
 have HB2:=zh (q_next HBW1.out HBW2.out)
 have hl:=due_look (w:=W2) (kept_block hm.dues HB2.out) (k:=2) (by omega)
 have hm11:w.cell? ⟨mb,10,none⟩=some (.map (some bd)):=cell_of_row w _ 10 _ _ _ hm.cells
 have hc10:W2.cell? ⟨mb,10,none⟩=some (.map (some bd)):=cell_of_row W2 _ 10 _ _ _ (kept_block hm.cells HB2.out)
 have hl2:(Instr.lookup 292 (.map (some bd)) (.int .i64 3) true).run Tryz.prog W2=.ok (.tuple #[.agg #[.func (.func 193) #[] #[],.int .i64 4],.bool true]) W2:=hl
 clear hl hm hm11
 go_enter Tryz.func179,Tryz.ntmps179
 go_upto_region 2 with fail
 rw[← HWW1.out,← HWW2.out]
 clear HWW1 HWW2
 have HZ0:=zh (heap_alloc_new W2 (.cells #[.nilFunc,.int .i64 0] 303))
 have z0:=cell_of_row _ _ 0 _ _ _ HZ0.out
 have z1:=cell_of_row _ _ 1 _ _ _ HZ0.out
 have zf:∀ j,(W2.alloc (.cells #[.nilFunc,.int .i64 0] 303)).frozen? ⟨W2.heap.size,j,none⟩=false:=fun j=>by unfold World.frozen?;rw[HZ0.out];simp
 have hs0:(store ⟨W2.heap.size,0,none⟩ (.func (.func 193) #[] #[])).run Tryz.prog (W2.alloc (.cells #[.nilFunc,.int .i64 0] 303))=.ok () ((W2.alloc (.cells #[.nilFunc,.int .i64 0] 303)).setCell ⟨W2.heap.size,0,none⟩ (.func (.func 193) #[] #[])):=by simp[store,Sem.run,z0,zf]
 have z1':((W2.alloc (.cells #[.nilFunc,.int .i64 0] 303)).setCell ⟨W2.heap.size,0,none⟩ (.func (.func 193) #[] #[])).cell? ⟨W2.heap.size,1,none⟩=some (.int .i64 0):=cell_of_row _ _ 1 _ _ _ (heap_setCell_same (i:=0) _ HZ0.out)
 go_upto_region 4 with fail
 obtain⟨W3,hW3⟩:∃ W3,W3=W2.alloc (.cells #[.func (.func 193) #[] #[],.int .i64 4] 303):=⟨_,rfl⟩
 have HBW3:Hid (Below W2.heap.size W2 W3):=zh (by rw[hW3];exact br0.alloc (Nat.le_refl _) _)
 have HXW3:Hid (W3.heap[W2.heap.size]?=some (.cells #[.func (.func 193) #[] #[],.int .i64 4] 303 (0,0))):=zh (by rw[hW3];exact heap_alloc_new W2 _)
 have hsW3:Hid (W3.heap.size=W2.heap.size+1):=zh (by rw[hW3];simp)
 have HWW3:=zh hW3
 clear hW3
 rw[← HWW3.out]
 clear hl2 hc10 z0 z1 z1' zf hs0 HZ0 HWW3
 have HB3:=zh (q_next HB2.out HBW3.out)
 have HY:Hid (∀ W,Below W3.heap.size W3 W→(W.cell? ⟨W2.heap.size,0,none⟩=some (.func (.func 193) #[] #[])∧W.cell? ⟨mb,0,none⟩=some (.int .i64 a0)∧W.cell? ⟨mb,1,none⟩=some (.int .i64 a1)∧W.cell? ⟨mb,2,none⟩=some (.int .i64 a2)∧W.cell? ⟨mb,3,none⟩=some (.int .i64 a3))):=zh (fun W hW=>by
  have h1:=kept_block HXW3.out hW
  have h2:=kept_block HM.out.cells (q_next HB3.out hW)
  exact⟨cell_of_row W _ 0 _ _ _ h1,cell_of_row W _ 0 _ _ _ h2,cell_of_row W _ 1 _ _ _ h2,cell_of_row W _ 2 _ _ _ h2,cell_of_row W _ 3 _ _ _ h2⟩)
 have HZ2:Hid (W3.heap[w.heap.size+1]?=some (.cells #[.int .i64 3,.int .i64 since,.int .i64 (-1)] 217 (0,0))):=zh (by rw[← hsW1.out];exact kept_block HXW2.out HBW3.out)
 have HZ1:Hid (W3.heap[w.heap.size]?=some (.cells #[.int .i64 0,.int .i64 0,.int .i64 0] 217 (0,0))):=zh (kept_block HXW1.out (q_next HBW2.out HBW3.out))
 refine wp_region_noPanic ?_
 refine wp_region_lexB [.q 0,.q 1,.q 2,.q 3,.q 4,.q 5,.q 6,.b 7,.q 8,.q 9,.l 10] (by kernel_rfl) (by kernel_rfl) (fun _ _ _ _ h=>h) ?_
 iterate 7(refine wpFl_qL (v:=?_) rfl (Or.inl ⟨by rfl,?_⟩) ?_;rotate_left;(focus(intro w' hSw;obtain⟨d0,m0,m1,m2,m3⟩:=HY.out w' hSw;go_simp;(try with_reducible rfl);done));simp only[Act.put,zzA,zzB,zzC])
 refine wpFl_bL rfl (fun wa hna hsa K hK=>?_)
 go_simp
 go_at_call 193
 (with_reducible refine(HLW.out _).mono ?_)
 rintro e wb ⟨rfl,hbb⟩
 refine hK.out _ _ (below_next hsa hbb) (Keeps.below hbb) ?_
 clear hK K hna hsa hbb
 iterate 2(refine wpFl_qL (v:=?_) rfl (Or.inl ⟨by rfl,?_⟩) ?_;rotate_left;(focus(intro w' hSw;go_simp;(try with_reducible rfl);done));simp only[Act.put,zzA,zzB,zzC])
 refine wpFl_lL rfl (fun wc hnc hsc K hK=>?_)
 have s1:=kept_block HZ1.out hsc
 have s2:=kept_block HZ2.out hsc
 have HBC:=zh (q_next HB3.out hsc)
 obtain⟨g0,g1,g2⟩:=three_cellsC s2
 have zf:∀ j,wc.frozen? ⟨w.heap.size+1,j,none⟩=false:=fun j=>by unfold World.frozen?;rw[s2];simp
 go_simp
 refine hK.out _ _ ?_
 clear hK K hnc hsc
 refine NoPanic.normal ?_
 have HS2:=zh (heap_setCell_same (i:=2) (.int .i64 (since+a1)) s2)
 have HS1:Hid ((wc.setCell ⟨w.heap.size+1,2,none⟩ (.int .i64 (since+a1))).heap[w.heap.size]?=some (.cells #[.int .i64 0,.int .i64 0,.int .i64 0] 217 (0,0))):=zh ((Below.heap_setCell _ _ _ _ (by show w.heap.size≠w.heap.size+1;omega)).trans s1)
 have HBD:Hid (Below w.heap.size w (wc.setCell ⟨w.heap.size+1,2,none⟩ (.int .i64 (since+a1)))):=zh (HBC.out.setCell (p:=⟨w.heap.size+1,2,none⟩) (by simp) _)
 clear s1 s2 g0 g1 g2 zf
 generalize wc.setCell ⟨w.heap.size+1,2,none⟩ (.int .i64 (since+a1))=wd at *
 obtain⟨g0,g1,g2⟩:=three_cellsC HS2.out
 obtain⟨k0,k1,k2⟩:=three_cellsC HS1.out
 have zf:∀ j,wd.frozen? ⟨w.heap.size,j,none⟩=false:=fun j=>by unfold World.frozen?;rw[HS1.out];simp
 go_wp2
 exact bodyPost_ret (results_cell_row rfl _ _ w.heap.size 217 #[.int .i64 3,.int .i64 since,.int .i64 (since+a1)] (0,0) _ rfl (three_heapC HS1.out _ _ _) Tryz.underlying217 rfl infoStatus) rfl ⟨rfl,three_belowC HBD.out (Nat.le_refl _) _ _ _⟩
set_option maxHeartbeats 2000000 in
set_option maxRecDepth 100000 in
theorem beginsEffective {w:World}{mb bd be:Nat}{a0 a1 a2 a3 cn cf ct ch ca:Int}{cb:Bool}{vv:Value}(hm:MAt w mb a0 a1 a2 a3 cn cf ct ch ca cb bd be vv)(since:Int)(h0:0≤since)(h1:since≤30000000)(h2:1≤a3∧a3≤1000000) :
  Calls Tryz.prog 179 #[.pointer (some ⟨mb,0,none⟩),.int .i64 4,.int .i64 since] w fun e w'=>e=.returned (.agg #[.int .i64 4,.int .i64 since,.int .i64 (since+a3)])∧Below w.heap.size w w':=by
 have HM:=zh hm
 have HLW:=zh (fun W=>rlReverse_any a0 a1 a2 a3 W)
 have hw:IntKind.i64.wrap (since+a3)=since+a3:=IntWalk.i64_in _ (by omega)
 obtain⟨W1,hW1⟩:∃ W1,W1=w.alloc (.cells #[.int .i64 0,.int .i64 0,.int .i64 0] 217):=⟨_,rfl⟩
 have HBW1:Hid (Below w.heap.size w W1):=zh (by rw[hW1];exact br0.alloc (Nat.le_refl _) _)
 have HXW1:Hid (W1.heap[w.heap.size]?=some (.cells #[.int .i64 0,.int .i64 0,.int .i64 0] 217 (0,0))):=zh (by rw[hW1];exact heap_alloc_new w _)
 have hsW1:Hid (W1.heap.size=w.heap.size+1):=zh (by rw[hW1];simp)
 have HWW1:=zh hW1
 clear hW1
 obtain⟨W2,hW2⟩:∃ W2,W2=W1.alloc (.cells #[.int .i64 4,.int .i64 since,.int .i64 (-1)] 217):=⟨_,rfl⟩
 have HBW2:Hid (Below W1.heap.size W1 W2):=zh (by rw[hW2];exact br0.alloc (Nat.le_refl _) _)
 have HXW2:Hid (W2.heap[W1.heap.size]?=some (.cells #[.int .i64 4,.int .i64 since,.int .i64 (-1)] 217 (0,0))):=zh (by rw[hW2];exact heap_alloc_new W1 _)
 have hsW2:Hid (W2.heap.size=W1.heap.size+1):=zh (by rw[hW2];simp)
 have HWW2:=zh hW2
 clear hW2
 have HB2:=zh (q_next HBW1.out HBW2.out)
 have hl:=due_look (w:=W2) (kept_block hm.dues HB2.out) (k:=3) (by omega)
 have hm11:w.cell? ⟨mb,10,none⟩=some (.map (some bd)):=cell_of_row w _ 10 _ _ _ hm.cells
 have hc10:W2.cell? ⟨mb,10,none⟩=some (.map (some bd)):=cell_of_row W2 _ 10 _ _ _ (kept_block hm.cells HB2.out)
 have hl2:(Instr.lookup 292 (.map (some bd)) (.int .i64 4) true).run Tryz.prog W2=.ok (.tuple #[.agg #[.func (.func 194) #[] #[],.int .i64 5],.bool true]) W2:=hl
 clear hl hm hm11
 go_enter Tryz.func179,Tryz.ntmps179
 go_upto_region 2 with fail
 rw[← HWW1.out,← HWW2.out]
 clear HWW1 HWW2
 have HZ0:=zh (heap_alloc_new W2 (.cells #[.nilFunc,.int .i64 0] 303))
 have z0:=cell_of_row _ _ 0 _ _ _ HZ0.out
 have z1:=cell_of_row _ _ 1 _ _ _ HZ0.out
 have zf:∀ j,(W2.alloc (.cells #[.nilFunc,.int .i64 0] 303)).frozen? ⟨W2.heap.size,j,none⟩=false:=fun j=>by unfold World.frozen?;rw[HZ0.out];simp
 have hs0:(store ⟨W2.heap.size,0,none⟩ (.func (.func 194) #[] #[])).run Tryz.prog (W2.alloc (.cells #[.nilFunc,.int .i64 0] 303))=.ok () ((W2.alloc (.cells #[.nilFunc,.int .i64 0] 303)).setCell ⟨W2.heap.size,0,none⟩ (.func (.func 194) #[] #[])):=by simp[store,Sem.run,z0,zf]
 have z1':((W2.alloc (.cells #[.nilFunc,.int .i64 0] 303)).setCell ⟨W2.heap.size,0,none⟩ (.func (.func 194) #[] #[])).cell? ⟨W2.heap.size,1,none⟩=some (.int .i64 0):=cell_of_row _ _ 1 _ _ _ (heap_setCell_same (i:=0) _ HZ0.out)
 go_upto_region 4 with fail
 obtain⟨W3,hW3⟩:∃ W3,W3=W2.alloc (.cells #[.func (.func 194) #[] #[],.int .i64 5] 303):=⟨_,rfl⟩
 have HBW3:Hid (Below W2.heap.size W2 W3):=zh (by rw[hW3];exact br0.alloc (Nat.le_refl _) _)
 have HXW3:Hid (W3.heap[W2.heap.size]?=some (.cells #[.func (.func 194) #[] #[],.int .i64 5] 303 (0,0))):=zh (by rw[hW3];exact heap_alloc_new W2 _)
 have hsW3:Hid (W3.heap.size=W2.heap.size+1):=zh (by rw[hW3];simp)
 have HWW3:=zh hW3
 clear hW3
 rw[← HWW3.out]
 clear hl2 hc10 z0 z1 z1' zf hs0 HZ0 HWW3
 have HB3:=zh (q_next HB2.out HBW3.out)
 have HY:Hid (∀ W,Below W3.heap.size W3 W→(W.cell? ⟨W2.heap.size,0,none⟩=some (.func (.func 194) #[] #[])∧W.cell? ⟨mb,0,none⟩=some (.int .i64 a0)∧W.cell? ⟨mb,1,none⟩=some (.int .i64 a1)∧W.cell? ⟨mb,2,none⟩=some (.int .i64 a2)∧W.cell? ⟨mb,3,none⟩=some (.int .i64 a3))):=zh (fun W hW=>by
  have h1:=kept_block HXW3.out hW
  have h2:=kept_block HM.out.cells (q_next HB3.out hW)
  exact⟨cell_of_row W _ 0 _ _ _ h1,cell_of_row W _ 0 _ _ _ h2,cell_of_row W _ 1 _ _ _ h2,cell_of_row W _ 2 _ _ _ h2,cell_of_row W _ 3 _ _ _ h2⟩)
 have HZ2:Hid (W3.heap[w.heap.size+1]?=some (.cells #[.int .i64 4,.int .i64 since,.int .i64 (-1)] 217 (0,0))):=zh (by rw[← hsW1.out];exact kept_block HXW2.out HBW3.out)
 have HZ1:Hid (W3.heap[w.heap.size]?=some (.cells #[.int .i64 0,.int .i64 0,.int .i64 0] 217 (0,0))):=zh (kept_block HXW1.out (q_next HBW2.out HBW3.out))
 refine wp_region_noPanic ?_
 refine wp_region_lexB [.q 0,.q 1,.q 2,.q 3,.q 4,.q 5,.q 6,.b 7,.q 8,.q 9,.l 10] (by kernel_rfl) (by kernel_rfl) (fun _ _ _ _ h=>h) ?_
 iterate 7(refine wpFl_qL (v:=?_) rfl (Or.inl ⟨by rfl,?_⟩) ?_;rotate_left;(focus(intro w' hSw;obtain⟨d0,m0,m1,m2,m3⟩:=HY.out w' hSw;go_simp;(try with_reducible rfl);done));simp only[Act.put,zzA,zzB,zzC])
 refine wpFl_bL rfl (fun wa hna hsa K hK=>?_)
 go_simp
 go_at_call 194
 (with_reducible refine(HLW.out _).mono ?_)
 rintro e wb ⟨rfl,hbb⟩
 refine hK.out _ _ (below_next hsa hbb) (Keeps.below hbb) ?_
 clear hK K hna hsa hbb
 iterate 2(refine wpFl_qL (v:=?_) rfl (Or.inl ⟨by rfl,?_⟩) ?_;rotate_left;(focus(intro w' hSw;go_simp;(try with_reducible rfl);done));simp only[Act.put,zzA,zzB,zzC])
 refine wpFl_lL rfl (fun wc hnc hsc K hK=>?_)
 have s1:=kept_block HZ1.out hsc
 have s2:=kept_block HZ2.out hsc
 have HBC:=zh (q_next HB3.out hsc)
 obtain⟨g0,g1,g2⟩:=three_cellsC s2
 have zf:∀ j,wc.frozen? ⟨w.heap.size+1,j,none⟩=false:=fun j=>by unfold World.frozen?;rw[s2];simp
 go_simp
 refine hK.out _ _ ?_
 clear hK K hnc hsc
 refine NoPanic.normal ?_
 have HS2:=zh (heap_setCell_same (i:=2) (.int .i64 (since+a3)) s2)
 have HS1:Hid ((wc.setCell ⟨w.heap.size+1,2,none⟩ (.int .i64 (since+a3))).heap[w.heap.size]?=some (.cells #[.int .i64 0,.int .i64 0,.int .i64 0] 217 (0,0))):=zh ((Below.heap_setCell _ _ _ _ (by show w.heap.size≠w.heap.size+1;omega)).trans s1)
 have HBD:Hid (Below w.heap.size w (wc.setCell ⟨w.heap.size+1,2,none⟩ (.int .i64 (since+a3)))):=zh (HBC.out.setCell (p:=⟨w.heap.size+1,2,none⟩) (by simp) _)
 clear s1 s2 g0 g1 g2 zf
 generalize wc.setCell ⟨w.heap.size+1,2,none⟩ (.int .i64 (since+a3))=wd at *
 obtain⟨g0,g1,g2⟩:=three_cellsC HS2.out
 obtain⟨k0,k1,k2⟩:=three_cellsC HS1.out
 have zf:∀ j,wd.frozen? ⟨w.heap.size,j,none⟩=false:=fun j=>by unfold World.frozen?;rw[HS1.out];simp
 go_wp2
 exact bodyPost_ret (results_cell_row rfl _ _ w.heap.size 217 #[.int .i64 4,.int .i64 since,.int .i64 (since+a3)] (0,0) _ rfl (three_heapC HS1.out _ _ _) Tryz.underlying217 rfl infoStatus) rfl ⟨rfl,three_belowC HBD.out (Nat.le_refl _) _ _ _⟩
set_option maxHeartbeats 2000000 in
set_option maxRecDepth 100000 in
theorem beginsLast {w:World}{mb bd be:Nat}{a0 a1 a2 a3 cn cf ct ch ca:Int}{cb:Bool}{vv:Value}(hm:MAt w mb a0 a1 a2 a3 cn cf ct ch ca cb bd be vv)(since:Int){st:Int}(hs:st=5∨st=8) :
  Calls Tryz.prog 179 #[.pointer (some ⟨mb,0,none⟩),.int .i64 st,.int .i64 since] w fun e w'=>e=.returned (.agg #[.int .i64 st,.int .i64 since,.int .i64 (-1)])∧Below w.heap.size w w':=by
 have HM:=zh hm
 obtain⟨W1,hW1⟩:∃ W1,W1=w.alloc (.cells #[.int .i64 0,.int .i64 0,.int .i64 0] 217):=⟨_,rfl⟩
 have HBW1:Hid (Below w.heap.size w W1):=zh (by rw[hW1];exact br0.alloc (Nat.le_refl _) _)
 have HXW1:Hid (W1.heap[w.heap.size]?=some (.cells #[.int .i64 0,.int .i64 0,.int .i64 0] 217 (0,0))):=zh (by rw[hW1];exact heap_alloc_new w _)
 have hsW1:Hid (W1.heap.size=w.heap.size+1):=zh (by rw[hW1];simp)
 have HWW1:=zh hW1
 clear hW1
 obtain⟨W2,hW2⟩:∃ W2,W2=W1.alloc (.cells #[.int .i64 st,.int .i64 since,.int .i64 (-1)] 217):=⟨_,rfl⟩
 have HBW2:Hid (Below W1.heap.size W1 W2):=zh (by rw[hW2];exact br0.alloc (Nat.le_refl _) _)
 have HXW2:Hid (W2.heap[W1.heap.size]?=some (.cells #[.int .i64 st,.int .i64 since,.int .i64 (-1)] 217 (0,0))):=zh (by rw[hW2];exact heap_alloc_new W1 _)
 have hsW2:Hid (W2.heap.size=W1.heap.size+1):=zh (by rw[hW2];simp)
 have HWW2:=zh hW2
 clear hW2
 have HB2:=zh (q_next HBW1.out HBW2.out)
 have hl:=due_miss (w:=W2) (kept_block hm.dues HB2.out) hs
 have hc10:W2.cell? ⟨mb,10,none⟩=some (.map (some bd)):=cell_of_row W2 _ 10 _ _ _ (kept_block hm.cells HB2.out)
 clear hm hs
 have HZ0:=zh (heap_alloc_new W2 (.cells #[.nilFunc,.int .i64 0] 303))
 have z0:=cell_of_row _ _ 0 _ _ _ HZ0.out
 have z1:=cell_of_row _ _ 1 _ _ _ HZ0.out
 have zf:∀ j,(W2.alloc (.cells #[.nilFunc,.int .i64 0] 303)).frozen? ⟨W2.heap.size,j,none⟩=false:=fun j=>by unfold World.frozen?;rw[HZ0.out];simp
 have hs0:(store ⟨W2.heap.size,0,none⟩ .nilFunc).run Tryz.prog (W2.alloc (.cells #[.nilFunc,.int .i64 0] 303))=.ok () ((W2.alloc (.cells #[.nilFunc,.int .i64 0] 303)).setCell ⟨W2.heap.size,0,none⟩ .nilFunc):=by simp[store,Sem.run,z0,zf]
 have z1':((W2.alloc (.cells #[.nilFunc,.int .i64 0] 303)).setCell ⟨W2.heap.size,0,none⟩ .nilFunc).cell? ⟨W2.heap.size,1,none⟩=some (.int .i64 0):=cell_of_row _ _ 1 _ _ _ (heap_setCell_same (i:=0) _ HZ0.out)
 go_enter Tryz.func179,Tryz.ntmps179
 go_upto_region 2 with fail
 rw[← HWW1.out,← HWW2.out]
 clear HWW1 HWW2
 go_upto_region 5 with fail
 obtain⟨W3,hW3⟩:∃ W3,W3=W2.alloc (.cells #[.nilFunc,.int .i64 0] 303):=⟨_,rfl⟩
 have HBW3:Hid (Below W2.heap.size W2 W3):=zh (by rw[hW3];exact br0.alloc (Nat.le_refl _) _)
 have HXW3:Hid (W3.heap[W2.heap.size]?=some (.cells #[.nilFunc,.int .i64 0] 303 (0,0))):=zh (by rw[hW3];exact heap_alloc_new W2 _)
 have hsW3:Hid (W3.heap.size=W2.heap.size+1):=zh (by rw[hW3];simp)
 have HWW3:=zh hW3
 clear hW3
 rw[← HWW3.out]
 clear hl hc10 z0 z1 z1' zf hs0 HZ0 HWW3
 have HB3:=zh (q_next HB2.out HBW3.out)
 have HZ2:Hid (W3.heap[w.heap.size+1]?=some (.cells #[.int .i64 st,.int .i64 since,.int .i64 (-1)] 217 (0,0))):=zh (by rw[← hsW1.out];exact kept_block HXW2.out HBW3.out)
 have HZ1:Hid (W3.heap[w.heap.size]?=some (.cells #[.int .i64 0,.int .i64 0,.int .i64 0] 217 (0,0))):=zh (kept_block HXW1.out (q_next HBW2.out HBW3.out))
 obtain⟨g0,g1,g2⟩:=three_cellsC HZ2.out
 obtain⟨k0,k1,k2⟩:=three_cellsC HZ1.out
 have zf:∀ j,W3.frozen? ⟨w.heap.size,j,none⟩=false:=fun j=>by unfold World.frozen?;rw[HZ1.out];simp
 go_wp2
 exact bodyPost_ret (results_cell_row rfl _ _ w.heap.size 217 #[.int .i64 st,.int .i64 since,.int .i64 (-1)] (0,0) _ rfl (three_heapC HZ1.out _ _ _) Tryz.underlying217 rfl infoStatus) rfl ⟨rfl,three_belowC HB3.out (Nat.le_refl _) _ _ _⟩
end Go.Proofs.YtjjiikeldpjafaaGreatDoor
/- TopReclaims: the state after a reversal for lack of a wish. The conditions: what the machine's block holds. -/
namespace Go.Proofs.YtjjiikeldpjafaaGreatDoor
open Go.RowKit Go.BigFrame
attribute [local go_sem] Oper.semAt_some
theorem effAll_yes {w:World}{b clk:Nat}{es:Array MapEntry}(hb:w.heap[b]?=some (.map es clk))(h:EffAll es) :
  (Instr.lookup 294 (.map (some b)) (.agg #[.int .i64 6,.int .i64 4]) true).run Tryz.prog w=.ok (.tuple #[.int .i64 8,.bool true]) w:=by
 obtain⟨L,h1,h2⟩:=h
 exact eff_look hb h2 (x:=(6,4,8)) (by decide) (h1 _ (by decide))
theorem effAll_no {w:World}{b clk:Nat}{es:Array MapEntry}(hb:w.heap[b]?=some (.map es clk))(h:EffAll es) :
  (Instr.lookup 294 (.map (some b)) (.agg #[.int .i64 6,.int .i64 5]) true).run Tryz.prog w=.ok (.tuple #[.int .i64 0,.bool false]) w:=by
 obtain⟨L,h1,h2⟩:=h
 exact eff_miss hb h2
set_option maxHeartbeats 2000000 in
set_option maxRecDepth 100000 in
theorem after_eff {w:World}{mb bd be clk:Nat}{es:Array MapEntry}{a0 a1 a2 a3 cn cf ct ch ca:Int}{cb:Bool}{vv:Value}(hm:MAt w mb a0 a1 a2 a3 cn cf ct ch ca cb bd be vv)(he:w.heap[be]?=some (.map es clk))(hes:EffAll es)(t:Int) :
  Calls Tryz.prog 181 #[.pointer (some ⟨mb,0,none⟩),.int .i64 4,.agg #[.int .i64 6,.int .i64 t,.int .i64 1]] w fun e w'=>e=.returned (.tuple #[.int .i64 8,.bool (!cb)])∧Below w.heap.size w w':=by
 obtain⟨W1,hW1⟩:∃ W1,W1=w.alloc (.cells #[.int .i64 6,.int .i64 t,.int .i64 1] 83):=⟨_,rfl⟩
 have HBW1:Hid (Below w.heap.size w W1):=zh (by rw[hW1];exact br0.alloc (Nat.le_refl _) _)
 have HXW1:Hid (W1.heap[w.heap.size]?=some (.cells #[.int .i64 6,.int .i64 t,.int .i64 1] 83 (0,0))):=zh (by rw[hW1];exact heap_alloc_new w _)
 have HWW1:=zh hW1
 clear hW1
 have HY:Hid (∀ W,Below W1.heap.size W1 W→((Instr.lookup 294 (.map (some be)) (.agg #[.int .i64 6,.int .i64 4]) true).run Tryz.prog W=.ok (.tuple #[.int .i64 8,.bool true]) W)∧W.cell? ⟨mb,11,none⟩=some (.map (some be))∧W.cell? ⟨mb,9,none⟩=some (.bool cb)∧W.cell? ⟨w.heap.size,0,none⟩=some (.int .i64 6)∧W.cell? ⟨w.heap.size,1,none⟩=some (.int .i64 t)∧W.cell? ⟨w.heap.size,2,none⟩=some (.int .i64 1)):=zh (fun W hW=>by
  have h2:=kept_block hm.cells (q_next HBW1.out hW)
  exact⟨effAll_yes (kept_block he (q_next HBW1.out hW)) hes,cell_of_row W _ 11 _ _ _ h2,cell_of_row W _ 9 _ _ _ h2,three_cellsC (kept_block HXW1.out hW)⟩)
 clear hm he hes
 go_enter Tryz.func181,Tryz.ntmps181
 go_upto_region 1 with fail
 rw[← HWW1.out]
 clear HWW1
 refine wp_region_noPanic ?_
 refine wp_region_lexB [.q 0,.q 1,.q 2,.q 3,.q 4,.q 5,.q 6,.q 7,.q 8,.q 9,.q 10,.q 11,.q 12,.q 13] (by kernel_rfl) (by kernel_rfl) (fun _ _ _ _ h=>h) ?_
 iterate 14(refine wpFl_qL (v:=?_) rfl (Or.inl ⟨by rfl,?_⟩) ?_;rotate_left;(focus(intro w' hSw;obtain⟨hl,m0,m1,d0,d1,d2⟩:=HY.out w' hSw;go_simp;(try with_reducible rfl);done));simp only[Act.put,zzA,zzB,zzC])
 refine wpFl_nil ?_
 refine NoPanic.normal ?_
 have HBd:Hid (Below w.heap.size w W1.drew):=zh (Below.drew HBW1.out)
 obtain⟨-,-,m1,d0,d1,d2⟩:=HY.out W1.drew (Below.drew br0)
 generalize W1.drew=W2 at *
 go_wp2
 exact bodyPost_ret (results_tmp2 rfl _ _ _) rfl ⟨rfl,HBd.out⟩
set_option maxHeartbeats 2000000 in
set_option maxRecDepth 100000 in
theorem after_fin {w:World}{mb bd be clk:Nat}{es:Array MapEntry}{a0 a1 a2 a3 cn cf ct ch ca:Int}{cb:Bool}{vv:Value}(hm:MAt w mb a0 a1 a2 a3 cn cf ct ch ca cb bd be vv)(he:w.heap[be]?=some (.map es clk))(hes:EffAll es)(t:Int) :
  Calls Tryz.prog 181 #[.pointer (some ⟨mb,0,none⟩),.int .i64 5,.agg #[.int .i64 6,.int .i64 t,.int .i64 1]] w fun e w'=>e=.returned (.tuple #[.int .i64 0,.bool false])∧Below w.heap.size w w':=by
 obtain⟨W1,hW1⟩:∃ W1,W1=w.alloc (.cells #[.int .i64 6,.int .i64 t,.int .i64 1] 83):=⟨_,rfl⟩
 have HBW1:Hid (Below w.heap.size w W1):=zh (by rw[hW1];exact br0.alloc (Nat.le_refl _) _)
 have HXW1:Hid (W1.heap[w.heap.size]?=some (.cells #[.int .i64 6,.int .i64 t,.int .i64 1] 83 (0,0))):=zh (by rw[hW1];exact heap_alloc_new w _)
 have HWW1:=zh hW1
 clear hW1
 have HY:Hid (∀ W,Below W1.heap.size W1 W→((Instr.lookup 294 (.map (some be)) (.agg #[.int .i64 6,.int .i64 5]) true).run Tryz.prog W=.ok (.tuple #[.int .i64 0,.bool false]) W)∧W.cell? ⟨mb,11,none⟩=some (.map (some be))∧W.cell? ⟨mb,9,none⟩=some (.bool cb)∧W.cell? ⟨w.heap.size,0,none⟩=some (.int .i64 6)∧W.cell? ⟨w.heap.size,1,none⟩=some (.int .i64 t)∧W.cell? ⟨w.heap.size,2,none⟩=some (.int .i64 1)):=zh (fun W hW=>by
  have h2:=kept_block hm.cells (q_next HBW1.out hW)
  exact⟨effAll_no (kept_block he (q_next HBW1.out hW)) hes,cell_of_row W _ 11 _ _ _ h2,cell_of_row W _ 9 _ _ _ h2,three_cellsC (kept_block HXW1.out hW)⟩)
 clear hm he hes
 go_enter Tryz.func181,Tryz.ntmps181
 go_upto_region 1 with fail
 rw[← HWW1.out]
 clear HWW1
 refine wp_region_noPanic ?_
 refine wp_region_lexB [.q 0,.q 1,.q 2,.q 3,.q 4,.q 5,.q 6,.q 7,.q 8,.q 9,.q 10,.q 11,.q 12,.q 13] (by kernel_rfl) (by kernel_rfl) (fun _ _ _ _ h=>h) ?_
 iterate 14(refine wpFl_qL (v:=?_) rfl (Or.inl ⟨by rfl,?_⟩) ?_;rotate_left;(focus(intro w' hSw;obtain⟨hl,m0,m1,d0,d1,d2⟩:=HY.out w' hSw;go_simp;(try with_reducible rfl);done));simp only[Act.put,zzA,zzB,zzC])
 refine wpFl_nil ?_
 refine NoPanic.normal ?_
 have HBd:Hid (Below w.heap.size w W1.drew):=zh (Below.drew HBW1.out)
 obtain⟨-,-,m1,d0,d1,d2⟩:=HY.out W1.drew (Below.drew br0)
 generalize W1.drew=W2 at *
 go_wp2
 exact bodyPost_ret (results_tmp2 rfl _ _ _) rfl ⟨rfl,HBd.out⟩
end Go.Proofs.YtjjiikeldpjafaaGreatDoor
