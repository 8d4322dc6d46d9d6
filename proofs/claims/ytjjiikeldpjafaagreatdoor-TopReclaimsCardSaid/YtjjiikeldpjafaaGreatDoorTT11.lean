/- A region that draws its order, in which memory is made at any time: one walk in a given order serves. An operation that makes a block is announced when all that it waits for has come up, and collected later: its block may have been made at any time between. The conditions are closed facts of the region. -/
import Derived.Test.YtjjiikeldpjafaaGreatDoorTT10
namespace Go.Proofs.YtjjiikeldpjafaaGreatDoor
open Go.RowKit
inductive FStep
 | q (k:Nat)
 | b (k:Nat)
 | an (k:Nat)
 | co (k:Nat)
 | l (k:Nat)
abbrev Ann:=Nat × Obj × (Nat→Value)
def dropK:List Ann→Nat→List Ann
 | [],_=>[]
 | x::N,k=>if x.1=k then dropK N k else x::dropK N k
def lookK:List Ann→Nat→Option (Obj × (Nat→Value))
 | [],_=>none
 | x::N,k=>if x.1=k then some x.2 else lookK N k
theorem look_drop (N:List Ann)(k i:Nat)(h:i≠k):lookK (dropK N k) i=lookK N i:=by
 induction N with
 | nil=>rfl
 | cons x N ih =>
  rw[dropK]
  by_cases h1:x.1=k
  ·rw[if_pos h1,ih,lookK,if_neg (fun e=>h (e.symm.trans h1))]
  ·rw[if_neg h1,lookK,lookK,ih]
theorem drop_sub (N:List Ann)(k:Nat):∀ x∈dropK N k,x∈N∧x.1≠k:=by
 induction N with
 | nil=>intro x hx;simp[dropK]at hx
 | cons y N ih =>
  intro x hx
  rw[dropK]at hx
  by_cases h1:y.1=k
  ·rw[if_pos h1]at hx
   exact⟨List.mem_cons_of_mem _ (ih x hx).1,(ih x hx).2⟩
  ·rw[if_neg h1]at hx
   rcases List.mem_cons.1 hx with e | e
   ·subst e;exact⟨by simp,h1⟩
   ·exact⟨List.mem_cons_of_mem _ (ih x e).1,(ih x e).2⟩
theorem look_mem {N:List Ann}{k:Nat}{y:Obj × (Nat→Value)}(h:lookK N k=some y):(k,y)∈N:=by
 induction N with
 | nil=>cases h
 | cons x N ih =>
  rw[lookK]at h
  by_cases h1:x.1=k
  ·rw[if_pos h1]at h
   cases h
   subst h1
   simp
  ·rw[if_neg h1]at h
   exact List.mem_cons_of_mem _ (ih h)
def undone:Nat→List Nat→Nat
 | 0,_=>0
 | s+1,L=>undone s L+if L.contains s=true then 0 else 1
theorem undone_out (s:Nat)(L:List Nat)(i:Nat)(h:s≤i):undone s (i::L)=undone s L:=by
 induction s with
 | zero=>rfl
 | succ s ih =>
  rw[undone,undone,ih (by omega)]
  have:(i::L).contains s=L.contains s:=by
   rw[List.contains_cons]
   have:(s == i)=false:=by simp;omega
   rw[this,Bool.false_or]
  rw[this]
theorem undone_cons (s:Nat)(L:List Nat)(i:Nat)(h:i < s)(hi:i ∉ L):undone s (i::L)+1=undone s L:=by
 induction s with
 | zero=>omega
 | succ s ih =>
  rw[undone,undone]
  by_cases e:i=s
  ·subst e
   rw[undone_out i L i (Nat.le_refl _),if_pos (by simp),if_neg (by simpa using hi)]
  ·have h2:(i::L).contains s=L.contains s:=by
    rw[List.contains_cons]
    have:(s == i)=false:=by simp;omega
    rw[this,Bool.false_or]
   rw[h2,← ih (by omega)]
   omega
theorem undone_nil (s:Nat):undone s []=s:=by
 induction s with
 | zero=>rfl
 | succ s ih=>rw[undone,ih];simp
def apart2 (ops:Array Oper)(x y:Oper):Bool:=x.apart ops y && y.apart ops x
def apartAll (ops:Array Oper)(ok:Oper)(ns:List Nat):Bool:=ns.all fun f=>match ops[f]? with
 | none=>false
 | some o=>apart2 ops ok o
def waitsIn (md:Region.Mode)(ok:Oper)(t:List Nat)(s:Nat):Bool:=ok.after.all fun e=>!Region.binds md e || (t.contains e.on && decide (e.on < s))
def othersWait (md:Region.Mode)(ops:Array Oper)(t ns:List Nat)(k:Nat)(own:Bool):Bool:=(List.range ops.size).all fun j=>t.contains j || ns.contains j || (own && j == k) || match ops[j]? with
 | none=>true
 | some oj=>oj.after.any fun e=>Region.binds md e && !t.contains e.on && (e.on == k || !ns.contains e.on)
def lexFC (md:Region.Mode)(ops:Array Oper):List Nat→List Nat→List FStep→Bool
 | t,ns,[]=>ns.isEmpty && (List.range ops.size).all fun j=>t.contains j
 | t,ns,.q k::r=>(match ops[k]? with
  | none=>false
  | some ok=>!t.contains k && !ns.contains k && waitsIn md ok t ops.size && apartAll ops ok ns && (List.range ops.size).all fun j=>t.contains j || j == k || match ops[j]? with
   | none=>true
   | some oj=>oj.after.any (fun e=>Region.binds md e && e.on == k) || ok.apart ops oj) && lexFC md ops (k::t) ns r
 | t,ns,.b k::r=>(match ops[k]? with
  | none=>false
  | some ok=>!t.contains k && !ns.contains k && waitsIn md ok t ops.size && apartAll ops ok ns && othersWait md ops t ns k true) && lexFC md ops (k::t) ns r
 | t,ns,.an k::r=>(match ops[k]? with
  | none=>false
  | some ok=>!t.contains k && !ns.contains k && waitsIn md ok t ops.size && apartAll ops ok ns) && lexFC md ops t (k::ns) r
 | t,ns,.co k::r=>(match ops[k]? with
  | none=>false
  | some ok=>ns.contains k && !t.contains k && waitsIn md ok t ops.size && othersWait md ops t ns k false) && lexFC md ops (k::t) (ns.filter fun j=>j != k) r
 | t,ns,.l k::r=>(match ops[k]? with
  | none=>false
  | some ok=>!t.contains k && waitsIn md ok t ops.size && ns.isEmpty && r.isEmpty && (List.range ops.size).all fun j=>t.contains j || j == k)
def lastOk (md:Region.Mode)(ops:Array Oper)(last:Nat):Bool:=match ops[last]? with
 | none=>true
 | some o=>(List.range ops.size).all fun j=>j == last || o.after.any fun e=>Region.binds md e && e.on == j
def lastOf (s:Nat):List FStep→Nat
 | []=>s
 | .l k::_=>k
 | _::r=>lastOf s r
def plainStep (last:Nat):FStep→Bool
 | .q k=>k != last
 | .b k=>k != last
 | .an k=>k != last
 | .co k=>k != last
 | .l k=>k == last
section
variable {P:Program} {ops:Array Oper} {Q:Exit→Act→World→Prop} {md:Region.Mode} {S:World→Prop} {base:Nat}
def Makes (P:Program)(ops:Array Oper)(o:Oper)(z:Obj)(V:Nat→Value)(a:Act):Prop :=
 Region.wanted o (yielded ops a.tmps)=true∧∀ w:World,(execOp a.eval o).run P w=.ok (.value (V w.heap.size)) (w.alloc z)
theorem Makes.of_same {o:Oper}{z:Obj}{V:Nat→Value}{a a':Act}(h:Makes P ops o z V a)(he:execOp a'.eval o=execOp a.eval o)(hw:Region.wanted o (yielded ops a'.tmps)=Region.wanted o (yielded ops a.tmps)):Makes P ops o z V a':=by
 unfold Makes at *
 rw[he,hw]
 exact h
def Keeps (base:Nat)(N:List Ann)(w w':World):Prop:=∀ x∈N,∀ i:Nat,base≤i→w.heap[i]?=some x.2.1→w'.heap[i]?=some x.2.1
theorem Keeps.below {N:List Ann}{w w':World}(h:Below w.heap.size w w'):Keeps base N w w':=fun _ _ i _ hi=>(h.block i (ltA hi)).trans hi
theorem Keeps.nil {w w':World}:Keeps base [] w w':=fun _ h=>absurd h List.not_mem_nil
def wpFl (P:Program)(ops:Array Oper)(base:Nat)(S:World→Prop)(Q:Exit→Act→World→Prop):List FStep→List Ann→Act→World→Prop
 | [],_,a,w=>Q .normal a w
 | .q k::r,N,a,w=>∃ o,ops[k]?=some o∧∃ v,YieldsIf P ops S o v a∧wpFl P ops base S Q r N (a.put o.dst v) w
 | .an k::r,N,a,w=>∃ o,ops[k]?=some o∧∃ z V,Makes P ops o z V a∧wpFl P ops base S Q r ((k,z,V)::N) a w
 | .b k::r,N,a,w=>∀ w1,Below w.heap.size w w1→S w1→wpOp P ops Q k (fun a' w'=>S w'∧base≤w'.heap.size∧Keeps base N w1 w'∧wpFl P ops base S Q r N a' w') a w1
 | .co k::r,N,a,w=>∃ o,ops[k]?=some o∧∃ z V,lookK N k=some (z,V)∧∀ b w1,Below w.heap.size w w1→S w1→base≤b→w1.heap[b]?=some z→wpFl P ops base S Q r (dropK N k) (a.put o.dst (V b)) w1
 | .l k::_,_,a,w=>∀ w1,Below w.heap.size w w1→S w1→wpOp P ops Q k (fun a' w'=>Q .normal a' w') a w1
def wpAnyS (P:Program)(md:Region.Mode)(ops:Array Oper)(Q:Exit→Act→World→Prop)(S:World→Prop)(last:Nat):Nat→Array Bool→Act→World→Prop
 | 0,listed,a,w=>Region.ready md ops listed=[]∧Q .normal a w
 | f+1,listed,a,w=>(Region.ready md ops listed=[]→Q .normal a w)∧∀ i∈Region.ready md ops listed,wpOp P ops Q i (fun a' w'=>(i≠last→S w')∧wpAnyS P md ops Q S last f (listed.setIfInBounds i true) a' w') a w
theorem wpAny_of_S {last:Nat}:∀(f:Nat) (listed:Array Bool) (a:Act) (w:World),wpAnyS P md ops Q S last f listed a w→wpAny P md ops Q f listed a w
 | 0,_,_,_,h=>h
 | f+1,_,_,_,h=>⟨h.1,fun i hi=>wpOp_mono (fun a' w' hh=>wpAny_of_S f _ a' w' hh.2) (h.2 i hi)⟩
theorem wpAnyS_done {last:Nat}{listed:Array Bool}{a:Act}{w:World}(hr:Region.ready md ops listed=[])(h:Q .normal a w):∀ f,wpAnyS P md ops Q S last f listed a w
 | 0=>⟨hr,h⟩
 | _+1=>⟨fun _=>h,by rw[hr];simp⟩
theorem wpAnyS_first {last i:Nat}{oi:Oper}{v:Value}(hi:ops[i]?=some oi)(hsel:∀(j:Nat) (o:Oper) cs b,ops[j]?=some o→o.op≠.select cs b)(hQ:∀ c a w,Q (.panic c) (a.put oi.dst v) w→Q (.panic c) a w)
  (hil:i≠last) (hlast:∀ o,ops[last]?=some o→∃ e∈o.after,Region.binds md e=true∧e.on=i):∀(f:Nat) (listed:Array Bool) (a:Act) (w:World),
  (∀ j oj,ops[j]?=some oj→j≠i→listed.getD j true=false→(∀ e∈oj.after,Region.binds md e=true→e.on≠i)→oi.apart ops oj=true) →
  i∈Region.ready md ops listed→YieldsIf P ops S oi v a→S w→wpAnyS P md ops Q S last f (listed.setIfInBounds i true) (a.put oi.dst v) w→wpAnyS P md ops Q S last (f+1) listed a w:=by
 intro f
 induction f with
 | zero =>
  intro listed a w _ hr hy hS H
  refine⟨fun e=>(by rw[e]at hr;cases hr),fun j hj=>?_⟩
  by_cases hji:j=i
  ·subst hji
   exact hy.wpOp hi hS ⟨fun _=>hS,H⟩
  ·have h1:=ready_mono hj hji
   rw[H.1]at h1
   cases h1
 | succ f ih =>
  intro listed a w hfree hr hy hS H
  refine⟨fun e=>(by rw[e]at hr;cases hr),fun j hj=>?_⟩
  by_cases hji:j=i
  ·subst hji
   exact hy.wpOp hi hS ⟨fun _=>hS,H⟩
  ·obtain⟨hun,oj,hoj,hdep⟩:=mem_ready.1 hj
   have hiu:=(mem_ready.1 hr).1
   have hilt:=(ltA hi)
   have hnoti:∀ e∈oj.after,Region.binds md e=true→e.on≠i:=by
    intro e he hb hei
    have h1:=hdep e he hb
    rw[hei]at h1
    rcases Nat.lt_or_ge i listed.size with h2 | h2
    ·simp[h2]at hiu h1
     rw[hiu]at h1
     cases h1
    ·simp[Array.getElem?_eq_none h2]at h1
   have hjl:j≠last:=by
    intro e
    subst e
    obtain⟨e,he,hb,hei⟩:=hlast oj hoj
    exact hnoti e he hb hei
   have h3:=wpOp_putIf hoj (hfree j oj hoj hji hun hnoti) (fun cs b=>hsel i oi cs b hi) (fun cs b=>hsel j oj cs b hoj) hQ hy (H.2 j (ready_mono hj hji))
   refine wpOp_mono (fun a' w' h4=>?_) h3
   obtain⟨hy',hS',hrest⟩:=h4
   have hS'':=hS' hjl
   refine⟨fun _=>hS'',ih (listed.setIfInBounds j true) a' w' ?_ (ready_mono hr (Ne.symm hji)) hy' hS'' ?_⟩
   ·intro k ok hok hki hunk hno
    refine hfree k ok hok hki ?_ hno
    by_cases hjk:j=k
    ·subst hjk;exact hun
    ·rw[getD_set_ne true hjk]at hunk;exact hunk
   ·rw[Array.setIfInBounds_comm _ _ hji]
    exact hrest
theorem wpOp_with {j:Nat}{oj:Oper}{R:Act→Prop}(hj:ops[j]?=some oj)(hput:∀ a u,R a→R (a.put oj.dst u))(hdef:∀(a:Act) d,R a→R { a with defers:=d::a.defers }){K:Act→World→Prop}{a:Act}{w:World}(hR:R a)
  (h:wpOp P ops Q j K a w):wpOp P ops Q j (fun a' w'=>R a'∧K a' w') a w:=by
 unfold wpOp at *
 simp only[hj]at *
 split
 ·rename_i hw
  simp only[hw,if_true]at h
  rcases h with h | h
  case inr=>exact .inr h
  refine .inl ?_
  unfold Oper.wp at *
  generalize (execOp a.eval oj).run P w=r at *
  cases r with
  | ok n w' =>
   cases n <;> simp only[Oper.upon]at h ⊢
   case value u=>exact⟨hput a u hR,h⟩
   case skip=>exact⟨hput a _ hR,h⟩
   case defer d=>exact⟨hput _ _ (hdef a d hR),h⟩
   case enter f args =>
    refine Calls.mono h fun e w'' he=>?_
    cases e with
    | returned u=>exact⟨hput a u hR,he⟩
    | panicked c=>exact he
    | outgrown=>exact he
   case row row args=>exact Rows.mono h fun u w'' he=>⟨hput a u hR,he⟩
  | halt x w' =>
   cases x <;> simp only[Oper.upon]at h ⊢
   case panic u=>exact h
 ·rename_i hw
  simp only[hw]at h
  exact⟨hput a _ hR,h⟩
theorem wpOp_under {j:Nat}{oj:Oper}{d:Option Tmp}{v:Value}(hj:ops[j]?=some oj)(h1:∀ e,d=some e→e ∉ oj.looksAt ops)(h2:∀ e,d=some e→oj.dst≠some e)
  (hsj:∀ cs b,oj.op≠.select cs b) (hQ:∀(c:_) (a a':Act) (w:World),Q (.panic c) a w→Q (.panic c) a' w) {K:Act→World→Prop} {a:Act} {w:World} (h:wpOp P ops Q j K a w) :
  wpOp P ops Q j (fun a'' w'=>∃ a',a''=a'.put d v∧K a' w') (a.put d v) w:=by
 unfold wpOp at *
 simp only[hj]at *
 rw[wanted_put oj a d v h1]
 split
 ·rename_i hw
  simp only[hw,if_true]at h
  rcases h with h | ⟨hasks,hlets⟩
  case inr=>exact .inr ⟨by unfold Oper.asks at *;rw[execOp_put oj hsj a d v h1];exact hasks,hlets⟩
  refine .inl ?_
  unfold Oper.wp at *
  rw[execOp_put oj hsj a d v h1]
  generalize (execOp a.eval oj).run P w=r at *
  cases r with
  | ok n w' =>
   cases n <;> simp only[Oper.upon]at h ⊢
   case value u=>exact⟨_,Act.put_comm a v u h2,h⟩
   case skip=>exact⟨_,Act.put_comm a v undef h2,h⟩
   case defer d' =>
    refine⟨_,?_,h⟩
    rw[Act.put_defers]
    exact Act.put_comm _ v undef h2
   case enter f args =>
    refine Calls.mono h fun e w'' he=>?_
    cases e with
    | returned u=>exact⟨_,Act.put_comm a v u h2,he⟩
    | panicked c=>exact hQ _ _ _ _ he
    | outgrown=>exact he
   case row row args=>exact Rows.mono h fun u w'' he=>⟨_,Act.put_comm a v u h2,he⟩
  | halt x w' =>
   cases x <;> simp only[Oper.upon]at h ⊢
   case panic u=>exact hQ _ _ _ _ h
 ·rename_i hw
  simp only[hw]at h
  exact⟨_,Act.put_comm a v undef h2,h⟩
def dstOf (ops:Array Oper)(k:Nat):Option Tmp:=(ops[k]?).bind (·.dst)
def putsE (ops:Array Oper):List (Nat × Value)→Act→Act
 | [],a=>a
 | x::E,a=>(putsE ops E a).put (dstOf ops x.1) x.2
def FarFrom (ops:Array Oper)(o:Oper)(E:List (Nat × Value)):Prop:=∀ x∈E,(∀ e,dstOf ops x.1=some e→e ∉ o.looksAt ops)∧(∀ e,dstOf ops x.1=some e→o.dst≠some e)
theorem puts_same {o:Oper}(hs:∀ cs b,o.op≠.select cs b):∀ {E:List (Nat × Value)},FarFrom ops o E→∀ a:Act,execOp (putsE ops E a).eval o=execOp a.eval o∧Region.wanted o (yielded ops (putsE ops E a).tmps)=Region.wanted o (yielded ops a.tmps)
 | [],_,_=>⟨rfl,rfl⟩
 | x::E,h,a=>by
  obtain⟨i1,i2⟩:=puts_same hs (E:=E) (fun y hy=>h y (List.mem_cons_of_mem _ hy)) a
  obtain⟨h1,_⟩:=h x (by simp)
  exact⟨(execOp_put o hs _ _ x.2 h1).trans i1,(wanted_put o _ _ x.2 h1).trans i2⟩
theorem puts_comm {d:Option Tmp}{u:Value}:∀ {E:List (Nat × Value)},(∀ x∈E,∀ e,dstOf ops x.1=some e→d≠some e)→∀ a:Act,(putsE ops E a).put d u=putsE ops E (a.put d u)
 | [],_,_=>rfl
 | x::E,h,a=>by
  show((putsE ops E a).put (dstOf ops x.1) x.2).put d u=(putsE ops E (a.put d u)).put (dstOf ops x.1) x.2
  rw[← puts_comm (E:=E) (fun y hy=>h y (List.mem_cons_of_mem _ hy)) a]
  exact Act.put_comm _ x.2 u (h x (by simp))
theorem wpOp_puts {j:Nat}{oj:Oper}(hj:ops[j]?=some oj)(hsj:∀ cs b,oj.op≠.select cs b)(hQ:∀(c:_) (a a':Act) (w:World),Q (.panic c) a w→Q (.panic c) a' w){K:Act→World→Prop}{w:World}{a:Act}:∀ {E:List (Nat × Value)},FarFrom ops oj E→wpOp P ops Q j K a w →
  wpOp P ops Q j (fun a'' w'=>∃ a',a''=putsE ops E a'∧K a' w') (putsE ops E a) w
 | [],_,h=>wpOp_mono (fun a' w' hh=>⟨a',rfl,hh⟩) h
 | x::E,hf,h=>by
  have ih:=wpOp_puts hj hsj hQ (E:=E) (fun y hy=>hf y (List.mem_cons_of_mem _ hy)) h
  obtain⟨h1,h2⟩:=hf x (by simp)
  refine wpOp_mono ?_ (wpOp_under (v:=x.2) hj h1 h2 hsj hQ ih)
  rintro a'' w' ⟨a1,rfl,a2,rfl,hk⟩
  exact⟨a2,rfl,hk⟩
def dropE:List (Nat × Value)→Nat→List (Nat × Value)
 | [],_=>[]
 | x::E,k=>if x.1=k then dropE E k else x::dropE E k
theorem mem_dropE {E:List (Nat × Value)}{k:Nat}{x:Nat × Value}:x∈dropE E k ↔ x∈E∧x.1≠k:=by
 induction E with
 | nil=>simp[dropE]
 | cons y E ih =>
  rw[dropE]
  by_cases h:y.1=k
  ·rw[if_pos h,ih]
   constructor
   ·rintro⟨a,b⟩;exact⟨List.mem_cons_of_mem _ a,b⟩
   ·rintro⟨a,b⟩
    rcases List.mem_cons.1 a with e | e
    ·subst e;exact absurd h b
    ·exact⟨e,b⟩
  ·rw[if_neg h,List.mem_cons,ih,List.mem_cons]
   constructor
   ·rintro(e | ⟨a,b⟩)
    ·subst e;exact⟨.inl rfl,h⟩
    ·exact⟨.inr a,b⟩
   ·rintro⟨e | a,b⟩
    ·exact .inl e
    ·exact .inr ⟨a,b⟩
theorem dropE_none {E:List (Nat × Value)}{k:Nat}(h:∀ x∈E,x.1≠k):dropE E k=E:=by
 induction E with
 | nil=>rfl
 | cons x E ih=>rw[dropE,if_neg (h x (by simp)),ih (fun y hy=>h y (List.mem_cons_of_mem _ hy))]
theorem puts_take {k:Nat}{v:Value}:∀ {E:List (Nat × Value)},(E.map (·.1)).Nodup→(∀ y∈E,y.1≠k→∀ e,dstOf ops y.1=some e→dstOf ops k≠some e)→(k,v)∈E→∀ a:Act,putsE ops E a=putsE ops (dropE E k) (a.put (dstOf ops k) v)
 | [],_,_,h,_=>absurd h List.not_mem_nil
 | x::E,hn,hd,hx,a=>by
  rw[List.map_cons,List.nodup_cons]at hn
  by_cases h:x.1=k
  ·have hx':x=(k,v):=by
    rcases List.mem_cons.1 hx with e | e
    ·exact e.symm
    ·exact absurd (List.mem_map.2 ⟨(k,v),e,h.symm⟩) hn.1
   have hE:∀ y∈E,y.1≠k:=fun y hy e=>hn.1 (List.mem_map.2 ⟨y,hy,e.trans h.symm⟩)
   rw[dropE,if_pos h,dropE_none hE,hx']
   exact puts_comm (fun y hy=>hd y (List.mem_cons_of_mem _ hy) (hE y hy)) a
  ·rw[dropE,if_neg h]
   show(putsE ops E a).put (dstOf ops x.1) x.2=(putsE ops (dropE E k) (a.put (dstOf ops k) v)).put (dstOf ops x.1) x.2
   rw[puts_take hn.2 (fun y hy=>hd y (List.mem_cons_of_mem _ hy)) (by
    rcases List.mem_cons.1 hx with e | e
    ·subst e;exact absurd rfl h
    ·exact e) a]
theorem apart2_spec {x y:Oper}(h:apart2 ops x y=true):x.apart ops y=true∧y.apart ops x=true:=by
 unfold apart2 at h
 rwa [Bool.and_eq_true]at h
theorem apartAll_spec {ok:Oper}{ns:List Nat}(h:apartAll ops ok ns=true){f:Nat}(hf:f∈ns):∃ o,ops[f]?=some o∧ok.apart ops o=true∧o.apart ops ok=true:=by
 unfold apartAll at h
 rw[List.all_eq_true]at h
 have:=h f hf
 cases ho:ops[f]? with
 | none=>rw[ho]at this;cases this
 | some o =>
  rw[ho]at this
  exact⟨o,rfl,apart2_spec this⟩
structure FInv (P:Program) (ops:Array Oper) (base:Nat) (S:World→Prop) (t ns:List Nat) (N:List Ann) (n:Nat) (L:List Nat) (E:List (Nat × Value)) (a:Act) (w wr:World):Prop where
 fuel:undone ops.size L≤n
 mem:∀ j,j∈L ↔ j∈t∨∃ x∈E,x.1=j
 nd:(E.map (·.1)).Nodup
 nsl:∀ k,k∈ns ↔ ∃ y,lookK N k=some y
 ap:∀ f∈ns,∀ g∈ns,f≠g→∀ of og,ops[f]?=some of→ops[g]?=some og→apart2 ops of og=true
 out:∀ k∈ns,k ∉ t
 early:∀ x∈E,∃ z V b,lookK N x.1=some (z,V)∧x.2=V b∧base≤b∧wr.heap[b]?=some z
 made:∀ k z V,lookK N k=some (z,V)→∃ o,ops[k]?=some o∧Makes P ops o z V a
 below:Below w.heap.size w wr
 base:base≤w.heap.size
 hS:S wr
 eqw:E=[]→w=wr
theorem FInv.inNs {t ns:List Nat}{N:List Ann}{n:Nat}{L:List Nat}{E:List (Nat × Value)}{a:Act}{w wr:World}(h:FInv P ops base S t ns N n L E a w wr){x:Nat × Value}(hx:x∈E):x.1∈ns:=by
 obtain⟨z,V,_,h1,_⟩:=h.early x hx
 exact(h.nsl x.1).2 ⟨_,h1⟩
theorem FInv.far {t ns:List Nat}{N:List Ann}{n:Nat}{L:List Nat}{E:List (Nat × Value)}{a:Act}{w wr:World}(h:FInv P ops base S t ns N n L E a w wr){ok:Oper}(ha:apartAll ops ok ns=true):FarFrom ops ok E:=by
 intro x hx
 obtain⟨o,ho,h1,h2⟩:=apartAll_spec ha (h.inNs hx)
 obtain⟨_,s2,s3⟩:=Oper.apart_spec h1
 have e:dstOf ops x.1=o.dst:=by unfold dstOf;rw[ho];rfl
 rw[e]
 exact⟨s3,fun e' he' hk=>s2 e' hk he'⟩
theorem FInv.notL {t ns:List Nat}{N:List Ann}{n:Nat}{L:List Nat}{E:List (Nat × Value)}{a:Act}{w wr:World}(h:FInv P ops base S t ns N n L E a w wr){k:Nat}(h1:k ∉ t)(h2:k ∉ ns):k ∉ L:=by
 intro hk
 rcases(h.mem k).1 hk with e | ⟨x,hx,e⟩
 ·exact h1 e
 ·subst e;exact h2 (h.inNs hx)
theorem wpOp_make {i:Nat}{o:Oper}{z:Obj}{V:Nat→Value}{a:Act}{w:World}(ho:ops[i]?=some o)(hm:Makes P ops o z V a){K:Act→World→Prop}(h:K (a.put o.dst (V w.heap.size)) (w.alloc z)):wpOp P ops Q i K a w:=by
 unfold Go.wpOp
 simp only[ho]
 obtain⟨hw,hv⟩:=hm
 simp only[hw,if_true,Oper.wp,hv w,Oper.upon]
 exact .inl h
theorem FInv.step {t ns:List Nat}{N:List Ann}{n:Nat}{L:List Nat}{E:List (Nat × Value)}{a:Act}{w wr:World}(hs:Region.noSelect ops=true)(hSN:∀ w w',S w→Below w.heap.size w w'→S w')(h:FInv P ops base S t ns N (n+1) L E a w wr){i:Nat}(hi:i∈ns)(hL:i ∉ L) :
  ∃ o z V,ops[i]?=some o∧Makes P ops o z V (putsE ops E a)∧FInv P ops base S t ns N n (i::L) ((i,V wr.heap.size)::E) a w (wr.alloc z):=by
 obtain⟨⟨z,V⟩,hy⟩:=(h.nsl i).1 hi
 obtain⟨o,ho,hm⟩:=h.made i z V hy
 have hlt:i < ops.size:=(ltA ho)
 have hiE:∀ x∈E,x.1≠i:=fun x hx e=>hL ((h.mem i).2 (.inr ⟨x,hx,e⟩))
 have hfar:FarFrom ops o E:=by
  intro x hx
  obtain⟨z',V',_,h1,_⟩:=h.early x hx
  obtain⟨o',ho',_⟩:=h.made x.1 z' V' h1
  have h2:=h.ap i hi x.1 (h.inNs hx) (hiE x hx).symm o o' ho ho'
  obtain⟨s1,s2,s3⟩:=Oper.apart_spec (apart2_spec h2).1
  have e:dstOf ops x.1=o'.dst:=by unfold dstOf;rw[ho'];rfl
  rw[e]
  exact⟨s3,fun e' he' hk=>s2 e' hk he'⟩
 obtain⟨p1,p2⟩:=puts_same (fun cs b=>Region.noSelect_spec hs i o cs b ho) hfar a
 have hb:Below w.heap.size w (wr.alloc z):=h.below.alloc h.below.size z
 refine⟨o,z,V,ho,hm.of_same p1 p2,⟨?_,?_,?_,h.nsl,h.ap,h.out,?_,h.made,hb,h.base,hSN _ _ h.hS (br0.alloc (Nat.le_refl _) z),fun e=>absurd e (List.cons_ne_nil _ _)⟩⟩
 ·have:=undone_cons ops.size L i hlt hL
  have:=h.fuel
  omega
 ·intro j
  rw[List.mem_cons,h.mem j]
  constructor
  ·rintro(e | e | ⟨x,hx,e⟩)
   ·exact .inr ⟨_,List.mem_cons_self ..,e.symm⟩
   ·exact .inl e
   ·exact .inr ⟨x,List.mem_cons_of_mem _ hx,e⟩
  ·rintro(e | ⟨x,hx,e⟩)
   ·exact .inr (.inl e)
   ·rcases List.mem_cons.1 hx with e' | e'
    ·subst e';exact .inl e.symm
    ·exact .inr (.inr ⟨x,e',e⟩)
 ·rw[List.map_cons,List.nodup_cons]
  refine⟨fun hx=>?_,h.nd⟩
  obtain⟨x,hx,e⟩:=List.mem_map.1 hx
  exact hiE x hx e
 ·intro x hx
  rcases List.mem_cons.1 hx with e | e
  ·subst e
   exact⟨z,V,wr.heap.size,hy,rfl,Nat.le_trans h.base h.below.size,by show(wr.heap.push z)[wr.heap.size]?=_;simp⟩
  ·obtain⟨z',V',b,h1,h2,h3,h4⟩:=h.early x e
   exact⟨z',V',b,h1,h2,h3,(Below.heap_alloc wr z b (ltA h4)).trans h4⟩
theorem waitsIn_spec {ok:Oper}{t:List Nat}{s:Nat}(h:waitsIn md ok t s=true){e:_}(he:e∈ok.after)(hb:Region.binds md e=true):e.on∈t∧e.on < s:=by
 unfold waitsIn at h
 have h2:=(Array.all_eq_true'.1 h) e he
 rw[hb]at h2
 simpa using h2
theorem inReady {ok:Oper}{k:Nat}{t L:List Nat}(ho:ops[k]?=some ok)(hk:k ∉ L)(hw:waitsIn md ok t ops.size=true)(hL:∀ j∈t,j∈L):k∈Region.ready md ops (tookA ops.size L):=by
 refine mem_ready.2 ⟨by rw[tookA_getD,if_pos (ltA ho)];simpa using hk,ok,ho,fun e he hb=>?_⟩
 obtain⟨h1,h2⟩:=waitsIn_spec hw he hb
 rw[tookA_getD,if_pos h2]
 simpa using hL _ h1
theorem ready_only {t ns L:List Nat}{k:Nat}{own:Bool}(h:othersWait md ops t ns k own=true)(hL:∀ j,j∈L→j∈t∨j∈ns)(hk:k ∉ L){i:Nat}(hi:i∈Region.ready md ops (tookA ops.size L))(ht:∀ j∈t,j∈L):i ∉ L∧(i∈ns∨(own=true∧i=k)):=by
 obtain⟨h1,oi,hoi,h3⟩:=mem_ready.1 hi
 have hlt:=(ltA hoi)
 rw[tookA_getD,if_pos hlt]at h1
 have hiL:i ∉ L:=by simpa using h1
 refine⟨hiL,?_⟩
 unfold othersWait at h
 rw[List.all_eq_true]at h
 have h2:=h i (List.mem_range.2 hlt)
 rw[hoi]at h2
 simp only[Bool.or_eq_true,Bool.and_eq_true,List.contains_iff_mem,beq_iff_eq]at h2
 rcases h2 with((h2 | h2) | h2) | h2
 ·exact absurd (ht i h2) hiL
 ·exact .inl h2
 ·exact .inr h2
 ·exfalso
  obtain⟨e,he,hbe⟩:=Array.any_eq_true'.1 h2
  simp only[Bool.and_eq_true,Bool.or_eq_true,Bool.not_eq_true',beq_iff_eq]at hbe
  obtain⟨⟨hb,hnt⟩,hor⟩:=hbe
  have h4:=h3 e he hb
  rw[tookA_getD]at h4
  split at h4
  ·have h5:e.on∈L:=by simpa using h4
   have h6:e.on ∉ t:=by simpa using hnt
   rcases hor with h7 | h7
   ·exact hk (h7 ▸ h5)
   ·rcases hL _ h5 with h8 | h8
    ·exact h6 h8
    ·have h9:e.on ∉ ns:=by simpa using h7
     exact h9 h8
  ·cases h4
theorem last_waits {last i:Nat}(h:lastOk md ops last=true)(hi:i < ops.size)(hne:i≠last):∀ o,ops[last]?=some o→∃ e∈o.after,Region.binds md e=true∧e.on=i:=by
 intro o ho
 unfold lastOk at h
 rw[ho]at h
 simp only[List.all_eq_true]at h
 have h2:=h i (List.mem_range.2 hi)
 simp only[Bool.or_eq_true,beq_iff_eq]at h2
 rcases h2 with h2 | h2
 ·exact absurd h2 hne
 ·obtain⟨e,he,hb⟩:=Array.any_eq_true'.1 h2
  simp only[Bool.and_eq_true,beq_iff_eq]at hb
  exact⟨e,he,hb.1,hb.2⟩
theorem wpAnyS_of_fl {last:Nat}(hlast:lastOk md ops last=true)(hs:Region.noSelect ops=true)(hQ:∀(c:_) (a a':Act) (w:World),Q (.panic c) a w→Q (.panic c) a' w)(hSN:∀ w w',S w→Below w.heap.size w w'→S w') :
  ∀(r:List FStep) (t ns:List Nat) (N:List Ann) (n:Nat) (L:List Nat) (E:List (Nat × Value)) (a:Act) (w wr:World),lexFC md ops t ns r=true→r.all (plainStep last)=true→FInv P ops base S t ns N n L E a w wr→wpFl P ops base S Q r N a w→wpAnyS P md ops Q S last n (tookA ops.size L) (putsE ops E a) wr:=by
 intro r
 induction r with
 | nil =>
  intro t ns N n L E a w wr hc _ hI h
  unfold lexFC at hc
  rw[Bool.and_eq_true,List.all_eq_true]at hc
  obtain⟨hc1,hc2⟩:=hc
  have hns:ns=[]:=by cases ns with | nil=>rfl | cons=>cases hc1
  have hE:E=[]:=by
   cases E with
   | nil=>rfl
   | cons x E =>
    have:=hI.inNs (x:=x) (by simp)
    rw[hns]at this
    simp at this
  subst hE
  refine wpAnyS_done ?_ ?_ n
  ·apply List.eq_nil_iff_forall_not_mem.2
   intro i hi
   obtain⟨h1,o,ho,_⟩:=mem_ready.1 hi
   have hlt:=(ltA ho)
   rw[tookA_getD,if_pos hlt]at h1
   have h2:i∈L:=(hI.mem i).2 (.inl (by simpa using hc2 i (List.mem_range.2 hlt)))
   have h3:i ∉ L:=by simpa using h1
   exact h3 h2
  ·rw[← hI.eqw rfl]
   exact h
 | cons st r ih =>
  intro t ns N n L E a w wr hc hp hI h
  rw[List.all_cons,Bool.and_eq_true]at hp
  obtain⟨hp1,hp2⟩:=hp
  have hTL:∀ j∈t,j∈L:=fun j hj=>(hI.mem j).2 (.inl hj)
  have hLT:∀ j,j∈L→j∈t∨j∈ns:=fun j hj=>by
   rcases(hI.mem j).1 hj with e | ⟨x,hx,e⟩
   ·exact .inl e
   ·exact .inr (e ▸ hI.inNs hx)
  cases st with
  | q k =>
   unfold wpFl at h
   obtain⟨o,ho,v,hy,h⟩:=h
   unfold lexFC at hc
   rw[ho]at hc
   simp only[Bool.and_eq_true,Bool.not_eq_true']at hc
   obtain⟨⟨⟨⟨⟨hc1,hc2⟩,hc3⟩,hc4⟩,hc5⟩,hc6⟩:=hc
   have hkt:k ∉ t:=by simpa using hc1
   have hkn:k ∉ ns:=by simpa using hc2
   have hkL:=hI.notL hkt hkn
   have hlt:k < ops.size:=(ltA ho)
   have hu:=undone_cons ops.size L k hlt hkL
   obtain⟨n',rfl⟩:∃ n',n=n'+1:=⟨n - 1,by have:=hI.fuel;omega⟩
   rw[List.all_eq_true]at hc5
   have hfar:=hI.far hc4
   obtain⟨p1,p2⟩:=puts_same (fun cs b=>Region.noSelect_spec hs k o cs b ho) hfar a
   refine wpAnyS_first ho (Region.noSelect_spec hs) (fun c a w hq=>hQ c _ _ w hq) (by simpa [plainStep]using hp1) (last_waits hlast hlt (by simpa [plainStep]using hp1)) n' _ _ wr ?_ (inReady ho hkL hc3 hTL) (hy.of_same p1 p2) hI.hS ?_
   ·intro j oj hoj hne hun hno
    have hjl:=(ltA hoj)
    rw[tookA_getD,if_pos hjl]at hun
    have hjL:j ∉ L:=by simpa using hun
    have h2:=hc5 j (List.mem_range.2 hjl)
    rw[hoj]at h2
    simp only[Bool.or_eq_true,List.contains_iff_mem,beq_iff_eq]at h2
    rcases h2 with(h2 | h2) | h2 | h2
    ·exact absurd (hTL j h2) hjL
    ·exact absurd h2 hne
    ·obtain⟨e,he,hbe⟩:=Array.any_eq_true'.1 h2
     simp only[Bool.and_eq_true,beq_iff_eq]at hbe
     exact absurd hbe.2 (hno e he hbe.1)
    ·exact h2
   ·rw[tookA_cons,puts_comm (fun x hx e he=>(hfar x hx).2 e he)]
    refine ih (k::t) ns N n' (k::L) E _ w wr hc6 hp2 ⟨by have:=hI.fuel;omega,fun j=>?_,hI.nd,hI.nsl,hI.ap,fun j hj=>?_,hI.early,fun j z V hj=>?_,hI.below,hI.base,hI.hS,hI.eqw⟩ h
    ·rw[List.mem_cons,List.mem_cons,hI.mem j,or_assoc]
    ·rw[List.mem_cons]
     rintro(e | e)
     ·exact hkn (e ▸ hj)
     ·exact hI.out j hj e
    ·obtain⟨oj,hoj,hm⟩:=hI.made j z V hj
     obtain⟨oj',hoj',h1,h2⟩:=apartAll_spec hc4 ((hI.nsl j).2 ⟨_,hj⟩)
     rw[hoj]at hoj'
     cases hoj'
     have h3:=(Oper.apart_spec h1).1
     exact⟨oj,hoj,hm.of_same (execOp_put oj (fun cs b=>Region.noSelect_spec hs j oj cs b hoj) a o.dst v h3) (wanted_put oj a o.dst v h3)⟩
  | an k =>
   unfold wpFl at h
   obtain⟨o,ho,z,V,hm,h⟩:=h
   unfold lexFC at hc
   rw[ho]at hc
   simp only[Bool.and_eq_true,Bool.not_eq_true']at hc
   obtain⟨⟨⟨⟨hc1,hc2⟩,hc3⟩,hc4⟩,hc6⟩:=hc
   have hkt:k ∉ t:=by simpa using hc1
   have hkn:k ∉ ns:=by simpa using hc2
   have hl:∀ j,j≠k→lookK ((k,z,V)::N) j=lookK N j:=fun j hj=>by rw[lookK,if_neg (fun e=>hj e.symm)]
   have hlk:lookK ((k,z,V)::N) k=some (z,V):=by rw[lookK,if_pos rfl]
   refine ih t (k::ns) ((k,z,V)::N) n L E a w wr hc6 hp2 ⟨hI.fuel,hI.mem,hI.nd,fun j=>?_,?_,fun j hj=>?_,fun x hx=>?_,fun j z' V' hj=>?_,hI.below,hI.base,hI.hS,hI.eqw⟩ h
   ·by_cases e:j=k
    ·subst e
     exact⟨fun _=>⟨_,hlk⟩,fun _=>by simp⟩
    ·rw[hl j e,List.mem_cons,← hI.nsl j]
     exact⟨fun h=>h.resolve_left e,.inr⟩
   ·intro f hf g hg hne of og hof hog
    rcases List.mem_cons.1 hf with e | e
    ·subst e
     rcases List.mem_cons.1 hg with e' | e'
     ·exact absurd e'.symm hne
     ·obtain⟨og',hog',h1,h2⟩:=apartAll_spec hc4 e'
      rw[hog]at hog'
      cases hog'
      rw[ho]at hof
      cases hof
      unfold apart2
      rw[h1,h2]
      rfl
    ·rcases List.mem_cons.1 hg with e' | e'
     ·subst e'
      obtain⟨of',hof',h1,h2⟩:=apartAll_spec hc4 e
      rw[hof]at hof'
      cases hof'
      rw[ho]at hog
      cases hog
      unfold apart2
      rw[h1,h2]
      rfl
     ·exact hI.ap f e g e' hne of og hof hog
   ·rcases List.mem_cons.1 hj with e | e
    ·subst e;exact hkt
    ·exact hI.out j e
   ·obtain⟨z',V',b,h1,h2⟩:=hI.early x hx
    exact⟨z',V',b,by rw[hl x.1 (fun e=>hkn (e ▸ hI.inNs hx))];exact h1,h2⟩
   ·by_cases e:j=k
    ·subst e
     rw[hlk]at hj
     cases hj
     exact⟨o,ho,hm⟩
    ·rw[hl j e]at hj
     exact hI.made j z' V' hj
  | b k =>
   have h0:=h
   unfold wpFl at h0
   unfold lexFC at hc
   cases ho:ops[k]? with
   | none=>rw[ho]at hc;cases hc
   | some o =>
   rw[ho]at hc
   simp only[Bool.and_eq_true,Bool.not_eq_true']at hc
   obtain⟨⟨⟨⟨⟨hc1,hc2⟩,hc3⟩,hc4⟩,hc5⟩,hc6⟩:=hc
   have hkt:k ∉ t:=by simpa using hc1
   have hkn:k ∉ ns:=by simpa using hc2
   have hlt:k < ops.size:=(ltA ho)
   clear h hTL hLT
   induction n generalizing L E wr with
   | zero =>
    have hu:=undone_cons ops.size L k hlt (hI.notL hkt hkn)
    have:=hI.fuel
    omega
   | succ n ihn =>
    have hTL:∀ j∈t,j∈L:=fun j hj=>(hI.mem j).2 (.inl hj)
    have hLT:∀ j,j∈L→j∈t∨j∈ns:=fun j hj=>by
     rcases(hI.mem j).1 hj with e | ⟨x,hx,e⟩
     ·exact .inl e
     ·exact .inr (e ▸ hI.inNs hx)
    have hkL:=hI.notL hkt hkn
    have hin:=inReady ho hkL hc3 hTL
    refine⟨fun e=>(by rw[e]at hin;cases hin),fun i hi=>?_⟩
    obtain⟨hiL,hor⟩:=ready_only hc5 hLT hkL hi hTL
    rcases hor with hin' | ⟨_,hik⟩
    ·obtain⟨oi,z,V,hoi,hm,hI'⟩:=hI.step hs hSN hin' hiL
     refine wpOp_make hoi hm ⟨fun _=>hI'.hS,?_⟩
     rw[tookA_cons]
     have e:(putsE ops E a).put oi.dst (V wr.heap.size)=putsE ops ((i,V wr.heap.size)::E) a:=by
      show _=(putsE ops E a).put (dstOf ops i) _
      unfold dstOf
      rw[hoi]
      rfl
     rw[e]
     exact ihn (i::L) _ _ hI'
    ·subst hik
     have hfar:=hI.far hc4
     have hsel:=fun cs b=>Region.noSelect_spec hs i o cs b ho
     have h1:=wpOp_with (R:=fun a=>∀ j z V,lookK N j=some (z,V)→∃ oj,ops[j]?=some oj∧Makes P ops oj z V a) ho (fun a u hR j z V hj=>by
      obtain⟨oj,hoj,hm⟩:=hR j z V hj
      obtain⟨oj',hoj',q1,_⟩:=apartAll_spec hc4 ((hI.nsl j).2 ⟨_,hj⟩)
      rw[hoj]at hoj'
      cases hoj'
      have h3:=(Oper.apart_spec q1).1
      exact⟨oj,hoj,hm.of_same (execOp_put oj (fun cs b=>Region.noSelect_spec hs j oj cs b hoj) a o.dst u h3) (wanted_put oj a o.dst u h3)⟩) (fun a d hR j z V hj=>by
      obtain⟨oj,hoj,hm⟩:=hR j z V hj
      exact⟨oj,hoj,hm.of_same rfl rfl⟩) hI.made (h0 wr hI.below hI.hS)
     refine wpOp_mono ?_ (wpOp_puts ho hsel hQ hfar h1)
     rintro a'' w' ⟨a',rfl,hR,hS',hbs,hkeep,hrest⟩
     refine⟨fun _=>hS',?_⟩
     rw[tookA_cons]
     have hu:=undone_cons ops.size L i hlt hiL
     refine ih (i::t) ns N n (i::L) E a' w' w' hc6 hp2 ⟨by have:=hI.fuel;omega,fun j=>?_,hI.nd,hI.nsl,hI.ap,fun j hj=>?_,fun x hx=>?_,hR,Below.refl _ _,hbs,hS',fun _=>rfl⟩ hrest
     ·rw[List.mem_cons,List.mem_cons,hI.mem j,or_assoc]
     ·rw[List.mem_cons]
      rintro(e | e)
      ·exact hkn (e ▸ hj)
      ·exact hI.out j hj e
     ·obtain⟨z,V,b,q1,q2,q3,q4⟩:=hI.early x hx
      exact⟨z,V,b,q1,q2,q3,hkeep _ (look_mem q1) b q3 q4⟩
  | co k =>
   have h0:=h
   unfold wpFl at h0
   obtain⟨o,ho,z,V,hzv,h0⟩:=h0
   unfold lexFC at hc
   rw[ho]at hc
   simp only[Bool.and_eq_true,Bool.not_eq_true']at hc
   obtain⟨⟨⟨⟨hc1,hc2⟩,hc3⟩,hc5⟩,hc6⟩:=hc
   have hkt:k ∉ t:=by simpa using hc2
   have hkn:k∈ns:=by simpa using hc1
   have hlt:k < ops.size:=(ltA ho)
   clear h hTL hLT
   -- the block has come already
   have here:∀ {n:Nat} {L:List Nat} {E:List (Nat × Value)} {wr:World},FInv P ops base S t ns N n L E a w wr→(∃ x∈E,x.1=k)→wpAnyS P md ops Q S last n (tookA ops.size L) (putsE ops E a) wr:=by
    intro n L E wr hI hx
    obtain⟨x,hx,hxk⟩:=hx
    obtain⟨z',V',b,h1,h2,h3,h4⟩:=hI.early x hx
    rw[hxk,hzv]at h1
    cases h1
    have hdst:dstOf ops k=o.dst:=by unfold dstOf;rw[ho];rfl
    have hx':(k,V b)∈E:=by rw[← hxk,← h2];exact hx
    have hfar:∀ y∈E,y.1≠k→∀ e,dstOf ops y.1=some e→dstOf ops k≠some e:=by
     intro y hy hne e he hk
     obtain⟨z2,V2,_,g1,_⟩:=hI.early y hy
     obtain⟨oy,hoy,_⟩:=hI.made y.1 z2 V2 g1
     have h5:=hI.ap y.1 (hI.inNs hy) k hkn hne oy o hoy ho
     have h6:=(Oper.apart_spec (apart2_spec h5).1).2.1
     have e1:dstOf ops y.1=oy.dst:=by unfold dstOf;rw[hoy];rfl
     rw[e1]at he
     rw[hdst]at hk
     exact h6 e he hk
    rw[puts_take hI.nd hfar hx' a,hdst]
    have hsub:∀ x∈dropE E k,x∈E∧x.1≠k:=fun x hx=>mem_dropE.1 hx
    refine ih (k::t) (ns.filter fun j=>j != k) (dropK N k) n L (dropE E k) _ wr wr hc6 hp2 ⟨hI.fuel,fun j=>?_,?_,fun j=>?_,?_,fun j hj=>?_,fun x hx=>?_,fun j z' V' hj=>?_,Below.refl _ _,Nat.le_trans hI.base hI.below.size,hI.hS,fun _=>rfl⟩ (h0 b wr hI.below hI.hS h3 h4)
    ·rw[hI.mem j,List.mem_cons]
     constructor
     ·rintro(e | ⟨y,hy,e⟩)
      ·exact .inl (.inr e)
      ·by_cases hjk:j=k
       ·exact .inl (.inl hjk)
       ·exact .inr ⟨y,mem_dropE.2 ⟨hy,by rw[e];exact hjk⟩,e⟩
     ·rintro((e | e) | ⟨y,hy,e⟩)
      ·exact .inr ⟨x,hx,by rw[hxk,e]⟩
      ·exact .inl e
      ·exact .inr ⟨y,(hsub y hy).1,e⟩
    ·have:∀(E:List (Nat × Value)),(E.map (·.1)).Nodup→((dropE E k).map (·.1)).Nodup:=by
      intro E
      induction E with
      | nil=>intro h;exact h
      | cons y E ihE =>
       intro hn
       rw[List.map_cons,List.nodup_cons]at hn
       rw[dropE]
       by_cases hy:y.1=k
       ·rw[if_pos hy];exact ihE hn.2
       ·rw[if_neg hy,List.map_cons,List.nodup_cons]
        refine⟨fun hm=>?_,ihE hn.2⟩
        obtain⟨u,hu,e⟩:=List.mem_map.1 hm
        exact hn.1 (List.mem_map.2 ⟨u,(mem_dropE.1 hu).1,e⟩)
     exact this E hI.nd
    ·rw[List.mem_filter,hI.nsl j]
     by_cases e:j=k
     ·subst e
      constructor
      ·rintro⟨_,h⟩;simp at h
      ·rintro⟨y,hy⟩
       exact absurd rfl (drop_sub N j _ (look_mem hy)).2
     ·rw[look_drop N k j e]
      exact⟨fun h=>h.1,fun h=>⟨h,by simpa using e⟩⟩
    ·intro f hf g hg hne of og hof hog
     exact hI.ap f (List.mem_filter.1 hf).1 g (List.mem_filter.1 hg).1 hne of og hof hog
    ·obtain⟨h5,h6⟩:=List.mem_filter.1 hj
     rw[List.mem_cons]
     rintro(e | e)
     ·subst e;simp at h6
     ·exact hI.out j h5 e
    ·obtain⟨hxE,hxn⟩:=hsub x hx
     obtain⟨z2,V2,b2,g1,g2⟩:=hI.early x hxE
     exact⟨z2,V2,b2,by rw[look_drop N k x.1 hxn];exact g1,g2⟩
    ·have hjk:j≠k:=(drop_sub N k _ (look_mem hj)).2
     rw[look_drop N k j hjk]at hj
     obtain⟨oj,hoj,hm⟩:=hI.made j z' V' hj
     have h5:=hI.ap k hkn j ((hI.nsl j).2 ⟨_,hj⟩) hjk.symm o oj ho hoj
     have h3':=(Oper.apart_spec (apart2_spec h5).1).1
     exact⟨oj,hoj,hm.of_same (execOp_put oj (fun cs b=>Region.noSelect_spec hs j oj cs b hoj) a o.dst (V b) h3') (wanted_put oj a o.dst (V b) h3')⟩
   induction n generalizing L E wr with
   | zero =>
    by_cases hx:∃ x∈E,x.1=k
    ·exact here hI hx
    ·have hkL:k ∉ L:=fun hk=>by
      rcases(hI.mem k).1 hk with e | e
      ·exact hkt e
      ·exact hx e
     have hu:=undone_cons ops.size L k hlt hkL
     have:=hI.fuel
     omega
   | succ n ihn =>
    by_cases hx:∃ x∈E,x.1=k
    ·exact here hI hx
    ·have hTL:∀ j∈t,j∈L:=fun j hj=>(hI.mem j).2 (.inl hj)
     have hLT:∀ j,j∈L→j∈t∨j∈ns:=fun j hj=>by
      rcases(hI.mem j).1 hj with e | ⟨x,hx,e⟩
      ·exact .inl e
      ·exact .inr (e ▸ hI.inNs hx)
     have hkL:k ∉ L:=fun hk=>by
      rcases(hI.mem k).1 hk with e | e
      ·exact hkt e
      ·exact hx e
     have hin:=inReady ho hkL hc3 hTL
     refine⟨fun e=>(by rw[e]at hin;cases hin),fun i hi=>?_⟩
     obtain⟨hiL,hor⟩:=ready_only hc5 hLT hkL hi hTL
     rcases hor with hin' | ⟨hf,_⟩
     ·obtain⟨oi,z',V',hoi,hm,hI'⟩:=hI.step hs hSN hin' hiL
      refine wpOp_make hoi hm ⟨fun _=>hI'.hS,?_⟩
      rw[tookA_cons]
      have e:(putsE ops E a).put oi.dst (V' wr.heap.size)=putsE ops ((i,V' wr.heap.size)::E) a:=by
       show _=(putsE ops E a).put (dstOf ops i) _
       unfold dstOf
       rw[hoi]
       rfl
      rw[e]
      exact ihn (i::L) _ _ hI'
     ·cases hf
  | l k =>
   unfold wpFl at h
   unfold lexFC at hc
   cases ho:ops[k]? with
   | none=>rw[ho]at hc;cases hc
   | some o =>
   rw[ho]at hc
   simp only[Bool.and_eq_true,Bool.not_eq_true']at hc
   obtain⟨⟨⟨⟨hc1,hc2⟩,hc3⟩,hc4⟩,hc5⟩:=hc
   have hkt:k ∉ t:=by simpa using hc1
   have hns:ns=[]:=by cases ns with | nil=>rfl | cons=>cases hc3
   have hkl:k=last:=by simpa [plainStep]using hp1
   have hE:E=[]:=by
    cases E with
    | nil=>rfl
    | cons x E =>
     have:=hI.inNs (x:=x) (by simp)
     rw[hns]at this
     simp at this
   subst hE
   have hkn:k ∉ ns:=by rw[hns];simp
   have hkL:=hI.notL hkt hkn
   have hlt:k < ops.size:=(ltA ho)
   have hu:=undone_cons ops.size L k hlt hkL
   obtain⟨n',rfl⟩:∃ n',n=n'+1:=⟨n - 1,by have:=hI.fuel;omega⟩
   have hin:=inReady ho hkL hc2 hTL
   rw[List.all_eq_true]at hc5
   refine⟨fun e=>(by rw[e]at hin;cases hin),fun i hi=>?_⟩
   obtain⟨h1,oi,hoi,_⟩:=mem_ready.1 hi
   have hil:=(ltA hoi)
   rw[tookA_getD,if_pos hil]at h1
   have hiL:i ∉ L:=by simpa using h1
   have h2:=hc5 i (List.mem_range.2 hil)
   simp only[Bool.or_eq_true,List.contains_iff_mem,beq_iff_eq]at h2
   rcases h2 with h2 | h2
   ·exact absurd (hTL i h2) hiL
   ·subst h2
    refine wpOp_mono (fun a' w' hq=>⟨fun hne=>absurd hkl hne,?_⟩) (h wr hI.below hI.hS)
    rw[tookA_cons]
    refine wpAnyS_done ?_ hq n'
    apply List.eq_nil_iff_forall_not_mem.2
    intro j hj
    obtain⟨g1,oj,hoj,_⟩:=mem_ready.1 hj
    have hjl:=(ltA hoj)
    rw[tookA_getD,if_pos hjl]at g1
    have hjL:j ∉ i::L:=by simpa using g1
    have g2:=hc5 j (List.mem_range.2 hjl)
    simp only[Bool.or_eq_true,List.contains_iff_mem,beq_iff_eq]at g2
    rcases g2 with g2 | g2
    ·exact hjL (List.mem_cons_of_mem _ (hTL j g2))
    ·exact hjL (g2 ▸ List.mem_cons_self ..)
def lexFB (md:Region.Mode)(ops:Array Oper)(ord:List FStep):Bool:=Region.noSelect ops && lastOk md ops (lastOf ops.size ord) && ord.all (plainStep (lastOf ops.size ord)) && lexFC md ops [] [] ord
theorem wp_region_lexF {id:Nat}{l:List Oper}{a:Act}{w:World}(ord:List FStep)(S:World→Prop)(hm:P.follows .mixedOrders=true)(hB:lexFB .any l.toArray ord=true)(hQ:∀(c:_) (a a':Act) (w:World),Q (.panic c) a w→Q (.panic c) a' w)
  (hSN:∀ w w',S w→Below w.heap.size w w'→S w') (hS:S w.drew) (h:wpFl P l.toArray w.heap.size S Q ord [] a w.drew):(Code.region id l.toArray true).wp P Q a w:=by
 unfold lexFB at hB
 simp only[Bool.and_eq_true]at hB
 obtain⟨⟨⟨hs,h1⟩,h2⟩,h3⟩:=hB
 refine wp_region_any hm (wpAny_of_S (S:=S) (last:=lastOf l.toArray.size ord) _ _ _ _ ?_)
 have:=wpAnyS_of_fl (P:=P) (base:=w.heap.size) h1 hs hQ hSN ord [] [] [] l.length [] [] a w.drew w.drew h3 h2 ⟨by rw[undone_nil];simp,fun j=>by simp,List.nodup_nil,fun k=>by simp[lookK],fun f hf=>absurd hf List.not_mem_nil,fun k hk=>absurd hk List.not_mem_nil,fun x hx=>absurd hx List.not_mem_nil,fun k z V hk=>by simp[lookK]at hk,Below.refl _ _,Nat.le_refl _,hS,fun _=>rfl⟩ h
 rw[tookA_nil]at this
 simpa [putsE]using this
/-! ### The steps, the operations a list, S: nothing old is changed -/
abbrev OldKept (w0:World):World→Prop:=fun W=>Below w0.heap.size w0 W
theorem wp_region_lexB {id:Nat}{l:List Oper}{a:Act}{w:World}(ord:List FStep)(hm:P.follows .mixedOrders=true)(hB:lexFB .any l.toArray ord=true)(hQ:∀(c:_) (a a':Act) (w:World),Q (.panic c) a w→Q (.panic c) a' w)
  (h:wpFl P l.toArray w.heap.size (OldKept w) Q ord [] a w.drew):(Code.region id l.toArray true).wp P Q a w :=
 wp_region_lexF ord (OldKept w) hm hB hQ (fun _ _ h h'=>h.trans (h'.mono h.size)) (Below.drew br0) h
theorem wpFl_qL {l:List Oper}{k:Nat}{o:Oper}{r:List FStep}{N:List Ann}{v:Value}{a:Act}{w:World}(ho:l[k]?=some o)(hy:YieldsIf P l.toArray S o v a)(h:wpFl P l.toArray base S Q r N (a.put o.dst v) w):wpFl P l.toArray base S Q (.q k::r) N a w:=by
 unfold wpFl
 exact⟨o,by rw[List.getElem?_toArray];exact ho,v,hy,h⟩
theorem wpFl_anL {l:List Oper}{k:Nat}{o:Oper}{r:List FStep}{N:List Ann}{a:Act}{w:World}(ho:l[k]?=some o)(z:Obj)(V:Nat→Value)(hm:Makes P l.toArray o z V a)(h:wpFl P l.toArray base S Q r ((k,z,V)::N) a w):wpFl P l.toArray base S Q (.an k::r) N a w:=by
 unfold wpFl
 exact⟨o,by rw[List.getElem?_toArray];exact ho,z,V,hm,h⟩
theorem wpFl_coL {l:List Oper}{k:Nat}{o:Oper}{r:List FStep}{N N':List Ann}{a:Act}{w:World}(ho:l[k]?=some o)(z:Obj)(V:Nat→Value)(hl:lookK N k=some (z,V))(hd:dropK N k=N')
  (h:∀ b w1,Below w.heap.size w w1→S w1→base≤b→w1.heap[b]?=some z→wpFl P l.toArray base S Q r N' (a.put o.dst (V b)) w1):wpFl P l.toArray base S Q (.co k::r) N a w:=by
 unfold wpFl
 subst hd
 exact⟨o,by rw[List.getElem?_toArray];exact ho,z,V,hl,h⟩
theorem wpFl_bL {l:List Oper}{k:Nat}{o:Oper}{r:List FStep}{N:List Ann}{a:Act}{w w0:World}(ho:l[k]?=some o)
  (h:∀ w1,Below w.heap.size w w1→Below w0.heap.size w0 w1→∀ K':Act→World→Prop,Shut (∀ a w',Below w0.heap.size w0 w'→Keeps w0.heap.size N w1 w'→wpFl P l.toArray w0.heap.size (OldKept w0) Q r N a w'→K' a w')→if Region.wanted o (yielded l.toArray a.tmps)=true then Oper.wp P o a w1 K' Q else K' (a.put o.dst undef) w1):wpFl P l.toArray w0.heap.size (OldKept w0) Q (.b k::r) N a w:=by
 unfold wpFl
 intro w1 h1 h2
 exact wpOp_step (by rw[List.getElem?_toArray];exact ho) (fun K' hK=>h w1 h1 h2 K' (fun a w' q1 q2 q3=>hK a w' ⟨q1,q1.size,q2,q3⟩))
theorem wpFl_bS {l:List Oper}{k:Nat}{o:Oper}{r:List FStep}{N:List Ann}{a:Act}{w:World}(ho:l[k]?=some o)
  (h:∀ w1,Below w.heap.size w w1→S w1→∀ K':Act→World→Prop,Shut (∀ a w',S w'→base≤w'.heap.size→Keeps base N w1 w'→wpFl P l.toArray base S Q r N a w'→K' a w')→if Region.wanted o (yielded l.toArray a.tmps)=true then Oper.wp P o a w1 K' Q else K' (a.put o.dst undef) w1):wpFl P l.toArray base S Q (.b k::r) N a w:=by
 unfold wpFl
 intro w1 h1 h2
 exact wpOp_step (by rw[List.getElem?_toArray];exact ho) (fun K' hK=>h w1 h1 h2 K' (fun a w' q1 q2 q3 q4=>hK a w' ⟨q1,q2,q3,q4⟩))
theorem wpFl_lL {l:List Oper}{k:Nat}{o:Oper}{r:List FStep}{N:List Ann}{a:Act}{w:World}(ho:l[k]?=some o)
  (h:∀ w1,Below w.heap.size w w1→S w1→∀ K':Act→World→Prop,Shut (∀ a w',Q .normal a w'→K' a w')→if Region.wanted o (yielded l.toArray a.tmps)=true then Oper.wp P o a w1 K' Q else K' (a.put o.dst undef) w1):wpFl P l.toArray base S Q (.l k::r) N a w:=by
 unfold wpFl
 intro w1 h1 h2
 exact wpOp_step (by rw[List.getElem?_toArray];exact ho) (fun K' hK=>h w1 h1 h2 K' hK)
theorem wpFl_nil {a:Act}{w:World}(h:Q .normal a w):wpFl P ops base S Q [] [] a w:=by
 unfold wpFl
 exact h
end
open Go.RowKit Go.BigFrame
set_option maxHeartbeats 1000000 in
theorem rotated_any (x n:Nat)(w:World)(hx:x < 4294967296)(h1:1≤n)(h2:n≤31) :
  Calls Tryz.prog 104 #[.int .u32 x,.int .i64 n] w fun e w'=>e=.returned (.int .u32 (rotr x n:Nat))∧∃ m,w'=w.drewN m:=by
 have f1:IntKind.i64.wrap (32 - (n:Int))=((32 - n:Nat):Int):=by rw[IntWalk.i64_in _ (by omega)];omega
 have b1:(0:Int)≤(n:Int):=by omega
 have b2:(0:Int)≤((32 - n:Nat):Int):=by omega
 obtain⟨k,hk⟩:∃ k,k=32 - n:=⟨_,rfl⟩
 have HK:=zh hk
 rw[← hk]at f1 b2
 have hk31:k≤31:=by omega
 clear hk
 go_enter Tryz.func104,Tryz.ntmps104
 go_wp2
 go_quiet (fail)
 go_wp2
 go_ret
 refine⟨ret_int ?_,_,rfl⟩
 have g1:x*2 ^ k % 4294967296 < 4294967296:=Nat.mod_lt _ (by omega)
 have g2:x / 2 ^ n < 4294967296:=Nat.lt_of_le_of_lt (Nat.div_le_self _ _) hx
 have c1:((x*2 ^ k % 4294967296:Nat):Int)=(x:Int)*2 ^ k % 4294967296:=by rw[Int.natCast_emod,Int.natCast_mul,Int.natCast_pow];rfl
 have c2:((x / 2 ^ n:Nat):Int)=(x:Int) / 2 ^ n:=by rw[Int.natCast_ediv,Int.natCast_pow];rfl
 rw[← c1,← c2,u32_or_nat _ _ g2 g1,Nat.or_comm,HK.out]
 rfl
def wcells (l:List Nat):List (List Value):=l.map fun n=>[.int .u32 (n:Nat)]
theorem wcells_one (l:List Nat):∀ c∈wcells l,c.length=1:=by
 intro c hc
 unfold wcells at hc
 obtain⟨n,_,rfl⟩:=List.mem_map.1 hc
 rfl
theorem wcells_len (l:List Nat):(wcells l).length=l.length:=List.length_map ..
theorem wcells_flat (l:List Nat):(wcells l).flatten=l.map fun n=>Value.int .u32 (n:Nat):=by
 unfold wcells
 induction l with
 | nil=>rfl
 | cons x l ih=>simp[ih]
def WS (w:World)(v:Value)(l:List Nat):Prop:=SliceAt w v 1 (wcells l)
theorem WS.below {w w':World}{v:Value}{l:List Nat}(h:WS w v l)(hb:Below w.heap.size w w'):WS w' v l:=SliceAt.below h hb
theorem WS.opened {w:World}{v:Value}{l:List Nat}(h:WS w v l)(hl:0 < l.length):∃ b off cap,v=.slice (some ⟨b,off,none⟩) l.length cap∧l.length≤cap∧cap≤maxLen∧b < w.heap.size ∧
  ∀ k n,l[k]?=some n→w.cell? ⟨b,off+k,none⟩=some (.int .u32 (n:Nat)):=by
 obtain⟨a,cap,hv,h1,h2,h3⟩:=h
 unfold wcells at *
 rw[List.length_map]at hv h1
 rcases h3 with h3 | ⟨b,off,ha,hb,hc⟩
 ·simp at h3;subst h3;simp at hl
 ·subst ha
  refine⟨b,off,cap,hv,h1,h2,hb,fun k x hx=>?_⟩
  have:=hc k [.int .u32 (x:Nat)] (by rw[List.getElem?_map,hx];rfl) 0 _ rfl
  simpa using this
def OwnW (w:World)(base:Nat)(v:Value)(l:List Nat):Prop:=OwnE w base 156 1 v (wcells l)
def OwnB (w:World)(base:Nat)(v:Value)(l:List Nat):Prop:=OwnE w base 5 1 v (bcells l)
theorem OwnW.ws {w:World}{base:Nat}{v:Value}{l:List Nat}(h:OwnW w base v l):WS w v l:=OwnE.slice h (wcells_one l)
theorem bcells_one (l:List Nat):∀ c∈bcells l,c.length=1:=by
 intro c hc
 unfold bcells at hc
 obtain⟨n,_,rfl⟩:=List.mem_map.1 hc
 rfl
theorem bcells_len (l:List Nat):(bcells l).length=l.length:=List.length_map ..
theorem OwnB.bs {w:World}{base:Nat}{v:Value}{l:List Nat}(h:OwnB w base v l):SliceAt w v 1 (bcells l):=OwnE.slice h (bcells_one l)
theorem infoU32:(Tryz.prog.info? 156).map (fun i=>(i.zero,i.size,i.bytes))=some (some (.int .u32 0),1,4):=by kernel_rfl
section
variable {ops:Array Oper} {rest:List Oper} {o:Oper} {a:Act} {w:World} {Q:Exit→Act→World→Prop}
theorem wpList_append_word (s x:Operand)(base:Nat)(v:Value)(xs:List Nat)(b:Nat)(y:Int)(n:Nat)(hy:y=n)(fr:Nat × Nat)(hown:OwnW w base v xs)(hlen:xs.length≤100000)(hbase:base≤w.heap.size)
  (hb:w.heap[b]?=some (.cells #[.int .u32 y] 156 fr)) (hgd:o.guard=none) (ho:o.op=.call { callee:=.builtin .append,args:=#[s,x],argTypes:=#[157,157] }) (hs:a.eval s=v) (hx:a.eval x=.slice (some ⟨b,0,none⟩) 1 1)
  (h:∀ v' w',OwnW w' base v' (xs++[n])→w.grownBy w' v.ownBlock→wpList Tryz.prog ops Q rest (a.put o.dst v') w'):wpList Tryz.prog ops Q (o::rest) a w :=
 wpList_append_el 157 156 1 4 _ (by kernel_rfl) infoU32 rfl (by decide) hgd s x ho base v (wcells xs) hs hown b [.int .u32 y] rfl (fun u hu=>by rw[List.mem_singleton]at hu;subst hu;rfl) hx fr hb
  (by rw[wcells_len];unfold maxLen;omega) (by rw[wcells_len];omega) hbase fun v' w' h1 h2=>h v' w' (by unfold OwnW wcells;rw[List.map_append];subst hy;exact h1) h2
theorem wpList_append_byte (s x:Operand)(base:Nat)(v:Value)(xs:List Nat)(b:Nat)(y:Int)(n:Nat)(hy:y=n)(fr:Nat × Nat)(hown:OwnB w base v xs)(hlen:xs.length≤1100000000)(hbase:base≤w.heap.size)
  (hb:w.heap[b]?=some (.cells #[.int .u8 y] 5 fr)) (hgd:o.guard=none) (ho:o.op=.call { callee:=.builtin .append,args:=#[s,x],argTypes:=#[88,88] }) (hs:a.eval s=v) (hx:a.eval x=.slice (some ⟨b,0,none⟩) 1 1)
  (h:∀ v' w',OwnB w' base v' (xs++[n])→w.grownBy w' v.ownBlock→wpList Tryz.prog ops Q rest (a.put o.dst v') w'):wpList Tryz.prog ops Q (o::rest) a w :=
 wpList_append_el 88 5 1 1 _ (by kernel_rfl) infoByte rfl (by decide) hgd s x ho base v (bcells xs) hs hown b [.int .u8 y] rfl (fun u hu=>by rw[List.mem_singleton]at hu;subst hu;rfl) hx fr hb
  (by rw[bcells_len];unfold maxLen;omega) (by rw[bcells_len];omega) hbase fun v' w' h1 h2=>h v' w' (by unfold OwnB bcells;rw[List.map_append];subst hy;exact h1) h2
end
theorem WS.lit {w:World}{b n:Nat}{T:TypeId}{fz:Nat × Nat}(l:List Nat)(h:w.heap[b]?=some (.cells (l.map fun n=>Value.int .u32 (n:Nat)).toArray T fz))(hn:n=l.length)(hm:l.length≤1000):WS w (.slice (some ⟨b,0,none⟩) n n) l:=by
 subst hn
 refine⟨_,l.length,by rw[wcells_len],by rw[wcells_len];exact Nat.le_refl _,by unfold maxLen;omega,.inr ⟨b,0,rfl,(ltA h),fun i c hi j u hj=>?_⟩⟩
 unfold wcells at hi
 rw[List.getElem?_map]at hi
 obtain⟨x,hx,rfl⟩:=Option.map_eq_some_iff.1 hi
 have hj0:j=0:=by have:=(List.getElem?_eq_some_iff.1 hj).1;simp at this;omega
 subst hj0
 rw[cell_of_row w b _ _ T fz h,Nat.zero_add,Nat.mul_one,Nat.add_zero,List.getElem?_toArray,List.getElem?_map,hx]
 simpa using hj
set_option maxHeartbeats 1000000 in
set_option maxRecDepth 100000 in
theorem constants_any (w:World):Calls Tryz.prog 105 #[] w fun e w'=>∃ v,e=.returned v∧WS w' v kN∧Below w.heap.size w w':=by
 go_enter Tryz.func105,Tryz.ntmps105
 go_wp2
 go_ret
 exact⟨_,rfl,WS.lit kN (heap_alloc_new w _) rfl (by decide),br0.alloc (Nat.le_refl _) _⟩
end Go.Proofs.YtjjiikeldpjafaaGreatDoor
