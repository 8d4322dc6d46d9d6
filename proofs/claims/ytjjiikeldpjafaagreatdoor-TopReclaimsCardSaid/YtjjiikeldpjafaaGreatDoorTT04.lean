/- slices.Backward and its iterators, at strings and at sides. The conditions: what the slices read as. -/
import Derived.Test.YtjjiikeldpjafaaGreatDoorTT03
namespace Go.Proofs.YtjjiikeldpjafaaGreatDoor
open Go.RowKit Go.BigFrame Go.Shelf
attribute [local go_sem] Oper.semAt_some
set_option maxHeartbeats 400000 in
theorem backS_any (a:Option Addr)(n c:Nat)(w:World) :
  Calls Tryz.prog 158 #[.slice a n c] w fun e w'=>e=.returned (.func (.func 184) #[] #[.pointer (some ⟨w.heap.size,0,none⟩)])∧w'=w.alloc (.cells #[.slice a n c] 47):=by
 go_enter Tryz.func158,Tryz.ntmps158
 go_wp2
 go_ret
 exact⟨rfl,rfl⟩
set_option maxHeartbeats 400000 in
theorem backSide_any (a:Option Addr)(n c:Nat)(w:World) :
  Calls Tryz.prog 127 #[.slice a n c] w fun e w'=>e=.returned (.func (.func 163) #[] #[.pointer (some ⟨w.heap.size,0,none⟩)])∧w'=w.alloc (.cells #[.slice a n c] 230):=by
 go_enter Tryz.func127,Tryz.ntmps127
 go_wp2
 go_ret
 exact⟨rfl,rfl⟩
abbrev DgS:={ p:Nat × ByteArray // p.2.size=32 }
abbrev DgX:={ p:Nat × (ByteArray × Bool) // p.2.1.size=32 }
theorem drop_rev {α:Type}{xs:List α}{k:Nat}{x:α}(h:xs[k]?=some x):(xs.drop k).reverse=(xs.drop (k+1)).reverse++[x]:=by
 rw[List.drop_eq_getElem_cons (List.getElem?_eq_some_iff.1 h).1,List.reverse_cons]
 congr 2
 exact(List.getElem?_eq_some_iff.1 h).2
set_option maxRecDepth 100000 in
set_option maxHeartbeats 1000000 in
theorem backS1_iter (b1 g n cap:Nat)(a:Option Addr)(o:Obj)(xs:List ByteArray)(w0:World)(hn:n=xs.length)(hcap:cap≤maxLen)(hnc:n≤cap)(h32:∀ x∈xs,x.size=32)(h1:w0.heap[b1]?=some (.cells #[.slice a n cap] 47 (0,0)))(h2:w0.heap[g]?=some o)
  (hcl:∀ W:World,W.heap[g]?=some o→∀ k s,xs[k]?=some s→∃ b off,a=some ⟨b,off,none⟩∧W.cell? ⟨b,off+k,none⟩=some (.string s)) :
  Iter Tryz.prog 184 #[.pointer (some ⟨b1,0,none⟩)] (fun x:DgS=>#[.int .i64 (x.1.1:Nat),.string x.1.2]) (fun A B=>B.heap[b1]?=A.heap[b1]?∧B.heap[g]?=A.heap[g]?) none (fun ys=>ys.map (fun x=>x.1.2)=xs.reverse) (fun _=>True) n w0:=by
 intro F m hF hro l J Jx W hW hJ hJx hY h0
 have hbl1:b1 < w0.heap.size:=(ltA h1)
 have hbl2:g < w0.heap.size:=(ltA h2)
 have H1:Hid (W.heap[b1]?=some (.cells #[.slice a n cap] 47 (0,0))):=zh ((hW.block b1 hbl1).trans h1)
 have H2:Hid (W.heap[g]?=some o):=zh ((hW.block g hbl2).trans h2)
 have HCL:=zh hcl
 have H32:=zh h32
 have HN:=zh hn
 clear h1 h2 hW hcl h32 hn
 unfold maxLen at hcap
 have cI:W.cell? ⟨b1,0,none⟩=some (.slice a n cap):=cell_of_row W _ 0 _ _ _ H1.out
 refine callsIn_of_wp Tryz.func184 rfl (hF.1 _) ?_ hro
 simp only[Tryz.ntmps184,List.size_toArray,List.length_cons,List.length_nil,Nat.reduceAdd,Nat.reduceSub,Array.replicate_succ,Array.replicate_zero,List.push_toArray,List.append_toArray,List.nil_append,List.cons_append]
 have f0:IntKind.i64.wrap ((n:Int) - 1)=(n:Int) - 1:=IntWalk.i64_in _ (by omega)
 gi_wp2
 clear cI f0
 gi_loopw [3] (fun i wr=>∃(pre:List DgS) (k:Nat),k≤n∧i=.int .i64 ((k:Int) - 1)∧Hid (pre.map (fun x=>x.1.2)=(xs.drop k).reverse)∧Hid (wr.heap[b1]?=some (.cells #[.slice a n cap] 47 (0,0)))∧Hid (wr.heap[g]?=some o)∧J pre wr) (fun i wr=>(intOf i+1).toNat)
 case atStart=>exact⟨[],n,by omega,by go_num,zh (by rw[HN.out,List.drop_length];rfl),H1,H2,h0⟩
 case round =>
  obtain⟨pre,k,hk,rfl,hpre,g1,g2,hJs⟩:=hrel
  have c1:wr.cell? ⟨b1,0,none⟩=some (.slice a n cap):=cell_of_row wr _ 0 _ _ _ g1.out
  by_cases hlt:0 < k
  ·obtain⟨j,hj⟩:∃ j,k=j+1:=⟨k - 1,by omega⟩
   subst hj
   have e1:((j+1:Nat):Int) - 1=(j:Int):=by omega
   rw[e1]
   obtain⟨x,hx⟩:∃ x,xs[j]?=some x:=⟨_,List.getElem?_eq_getElem (by rw[← HN.out];omega)⟩
   obtain⟨b,off,rfl,c2⟩:=HCL.out wr g2.out j x hx
   have hx32:=H32.out x (List.mem_of_getElem? hx)
   have HD:=zh (drop_rev hx)
   have hlen:pre.length < n:=by
    have h3:=congrArg List.length hpre.out
    rw[List.length_map,List.length_reverse,List.length_drop,← HN.out]at h3
    omega
   obtain⟨fn,tmps,assign,body,hy,hR⟩:=hY pre ⟨(j,x),hx32⟩ wr hJs hlen
   have hy:Sem.run _ (Instr.yield l #[.int .i64 (j:Nat),.string x]) _=_:=hy
   have b1':(j:Int) < (n:Int):=by omega
   have hw64:wrap64 ((j:Int) - 1)=(j:Int) - 1:=IntWalk.wrap64_in _ ⟨by omega,by omega⟩
   clear hx e1
   gi_wp2
   refine⟨fun h=>(by rw[hF.2.1]at h;cases h),hR.mono ?_⟩
   rintro e W3 (⟨rfl,hJ3,hk3⟩ | ⟨rfl,hJx3⟩)
   ·have h1:Hid (W3.heap[b1]?=some (.cells #[.slice (some ⟨b,off,none⟩) n cap] 47 (0,0))):=zh (hk3.1.trans g1.out)
    have h2:Hid (W3.heap[g]?=some o):=zh (hk3.2.trans g2.out)
    clear hk3
    gi_wp2
    go_roundw
    case rel=>exact⟨pre++[⟨(j,x),hx32⟩],j,by omega,by go_num,zh (by rw[List.map_append,hpre.out,HD.out];rfl),h1,h2,hJ3⟩
    case measure=>simp[intOf] <;> omega
   ·gi_wp2
    refine bodyPost_ret (results_none rfl _ _ _) rfl ?_
    exact⟨⟨_,rfl⟩,.inr ⟨_,trivial,hJx3⟩⟩
  ·have ek:k=0:=by omega
   subst ek
   have e1:((0:Nat):Int) - 1=-1:=by omega
   rw[e1]
   gi_wp2
   go_end0
   exact⟨⟨_,rfl⟩,.inl ⟨pre,hpre.out,hJs⟩⟩
set_option maxRecDepth 100000 in
set_option maxHeartbeats 1000000 in
theorem backSide1_iter (b1 g n cap:Nat)(a:Option Addr)(o:Obj)(xs:List (ByteArray × Bool))(w0:World)(hn:n=xs.length)(hcap:cap≤maxLen)(hnc:n≤cap)(h32:∀ x∈xs,x.1.size=32)(h1:w0.heap[b1]?=some (.cells #[.slice a n cap] 230 (0,0)))(h2:w0.heap[g]?=some o)
  (hcl:∀ W:World,W.heap[g]?=some o→∀ k s,xs[k]?=some s→∃ b off,a=some ⟨b,off,none⟩∧W.cell? ⟨b,off+k*2,none⟩=some (.string s.1)∧W.cell? ⟨b,off+k*2+1,none⟩=some (.bool s.2)) :
  Iter Tryz.prog 163 #[.pointer (some ⟨b1,0,none⟩)] (fun x:DgX=>#[.int .i64 (x.1.1:Nat),.agg #[.string x.1.2.1,.bool x.1.2.2]]) (fun A B=>B.heap[b1]?=A.heap[b1]?∧B.heap[g]?=A.heap[g]?) none (fun ys=>ys.map (fun x=>x.1.2)=xs.reverse) (fun _=>True) n w0:=by
 intro F m hF hro l J Jx W hW hJ hJx hY h0
 have hbl1:b1 < w0.heap.size:=(ltA h1)
 have hbl2:g < w0.heap.size:=(ltA h2)
 have H1:Hid (W.heap[b1]?=some (.cells #[.slice a n cap] 230 (0,0))):=zh ((hW.block b1 hbl1).trans h1)
 have H2:Hid (W.heap[g]?=some o):=zh ((hW.block g hbl2).trans h2)
 have HCL:=zh hcl
 have H32:=zh h32
 have HN:=zh hn
 clear h1 h2 hW hcl h32 hn
 unfold maxLen at hcap
 have cI:W.cell? ⟨b1,0,none⟩=some (.slice a n cap):=cell_of_row W _ 0 _ _ _ H1.out
 refine callsIn_of_wp Tryz.func163 rfl (hF.1 _) ?_ hro
 simp only[Tryz.ntmps163,List.size_toArray,List.length_cons,List.length_nil,Nat.reduceAdd,Nat.reduceSub,Array.replicate_succ,Array.replicate_zero,List.push_toArray,List.append_toArray,List.nil_append,List.cons_append]
 have f0:IntKind.i64.wrap ((n:Int) - 1)=(n:Int) - 1:=IntWalk.i64_in _ (by omega)
 gi_wp2
 clear cI f0
 gi_loopw [3] (fun i wr=>∃(pre:List DgX) (k:Nat),k≤n∧i=.int .i64 ((k:Int) - 1)∧Hid (pre.map (fun x=>x.1.2)=(xs.drop k).reverse)∧Hid (wr.heap[b1]?=some (.cells #[.slice a n cap] 230 (0,0)))∧Hid (wr.heap[g]?=some o)∧J pre wr) (fun i wr=>(intOf i+1).toNat)
 case atStart=>exact⟨[],n,by omega,by go_num,zh (by rw[HN.out,List.drop_length];rfl),H1,H2,h0⟩
 case round =>
  obtain⟨pre,k,hk,rfl,hpre,g1,g2,hJs⟩:=hrel
  have c1:wr.cell? ⟨b1,0,none⟩=some (.slice a n cap):=cell_of_row wr _ 0 _ _ _ g1.out
  by_cases hlt:0 < k
  ·obtain⟨j,hj⟩:∃ j,k=j+1:=⟨k - 1,by omega⟩
   subst hj
   have e1:((j+1:Nat):Int) - 1=(j:Int):=by omega
   rw[e1]
   obtain⟨x,hx⟩:∃ x,xs[j]?=some x:=⟨_,List.getElem?_eq_getElem (by rw[← HN.out];omega)⟩
   obtain⟨b,off,rfl,c2,c3⟩:=HCL.out wr g2.out j x hx
   have hx32:=H32.out x (List.mem_of_getElem? hx)
   have HD:=zh (drop_rev hx)
   have hlen:pre.length < n:=by
    have h3:=congrArg List.length hpre.out
    rw[List.length_map,List.length_reverse,List.length_drop,← HN.out]at h3
    omega
   obtain⟨fn,tmps,assign,body,hy,hR⟩:=hY pre ⟨(j,x),hx32⟩ wr hJs hlen
   have hy:Sem.run _ (Instr.yield l #[.int .i64 (j:Nat),.agg #[.string x.1,.bool x.2]]) _=_:=hy
   have b1':(j:Int) < (n:Int):=by omega
   have hw64:wrap64 ((j:Int) - 1)=(j:Int) - 1:=IntWalk.wrap64_in _ ⟨by omega,by omega⟩
   clear hx e1
   gi_wp2
   refine⟨fun h=>(by rw[hF.2.1]at h;cases h),hR.mono ?_⟩
   rintro e W3 (⟨rfl,hJ3,hk3⟩ | ⟨rfl,hJx3⟩)
   ·have h1:Hid (W3.heap[b1]?=some (.cells #[.slice (some ⟨b,off,none⟩) n cap] 230 (0,0))):=zh (hk3.1.trans g1.out)
    have h2:Hid (W3.heap[g]?=some o):=zh (hk3.2.trans g2.out)
    clear hk3
    gi_wp2
    go_roundw
    case rel=>exact⟨pre++[⟨(j,x),hx32⟩],j,by omega,by go_num,zh (by rw[List.map_append,hpre.out,HD.out];rfl),h1,h2,hJ3⟩
    case measure=>simp[intOf] <;> omega
   ·gi_wp2
    refine bodyPost_ret (results_none rfl _ _ _) rfl ?_
    exact⟨⟨_,rfl⟩,.inr ⟨_,trivial,hJx3⟩⟩
  ·have ek:k=0:=by omega
   subst ek
   have e1:((0:Nat):Int) - 1=-1:=by omega
   rw[e1]
   gi_wp2
   go_end0
   exact⟨⟨_,rfl⟩,.inl ⟨pre,hpre.out,hJs⟩⟩
end Go.Proofs.YtjjiikeldpjafaaGreatDoor
/- Proofs of entries and of growth: what they are, that they are accepted, how long they are. Plain theory, no condition. -/
namespace Go.Proofs.YtjjiikeldpjafaaGreatDoor
section
variable {S:Type} (leaf:S→S) (node:S→S→S) (none':S)
def downL (l:List S)(i:Nat):List S :=
 if _h:l.length≤1 then[]
 else if i < leftN l.length then rootL leaf node none' (l.drop (leftN l.length))::downL (l.take (leftN l.length)) i
 else rootL leaf node none' (l.take (leftN l.length))::downL (l.drop (leftN l.length)) (i - leftN l.length)
termination_by l.length
decreasing_by
 ·have:=leftN_lt (n:=l.length) (by omega);rw[List.length_take];omega
 ·have:=leftN_lt (n:=l.length) (by omega);have:=leftN_pos l.length;rw[List.length_drop];omega
def valueL (s:S):List S→Nat→Nat→Option S
 | [],n,_=>if n≤1 then some (leaf s)else none
 | x::r,n,i=>if n≤1 then none
  else if i < leftN n then(valueL s r (leftN n) i).map (fun v=>node v x)
  else(valueL s r (n - leftN n) (i - leftN n)).map (fun v=>node x v)
theorem value_down (l:List S)(i:Nat)(s:S)(h:l[i]?=some s):valueL leaf node s (downL leaf node none' l i) l.length i=some (rootL leaf node none' l):=by
 obtain⟨n,hn⟩:∃ n,l.length=n:=⟨_,rfl⟩
 induction n using Nat.strongRecOn generalizing l i with
 | _ n ih =>
  have hi:i < l.length:=by
   rcases Nat.lt_or_ge i l.length with h' | h'
   ·exact h'
   ·rw[List.getElem?_eq_none h']at h;cases h
  rw[downL]
  split
  ·rename_i h1
   obtain⟨a,rfl⟩:∃ a,l=[a]:=by
    match l,h1,hi with
    | [a],_,_=>exact⟨a,rfl⟩
   have:i=0:=by simp at hi;omega
   subst this
   simp at h
   subst h
   rfl
  ·rename_i h1
   have h3:=leftN_lt (n:=l.length) (by omega)
   have h4:=leftN_pos l.length
   rw[rootL_two leaf node none' l (by omega)]
   generalize hk:leftN l.length=k at *
   split
   ·rename_i h2
    have:=ih k (by omega) (l.take k) i (by rw[List.getElem?_take_of_lt h2];exact h) (by rw[List.length_take];omega)
    rw[List.length_take,Nat.min_eq_left (by omega)]at this
    rw[valueL,if_neg (by omega),hk,if_pos h2,this]
    rfl
   ·rename_i h2
    have:=ih (n - k) (by omega) (l.drop k) (i - k) (by rw[List.getElem?_drop,show k+(i - k)=i by omega];exact h) (by rw[List.length_drop];omega)
    rw[List.length_drop]at this
    rw[valueL,if_neg (by omega),hk,if_neg h2,this]
    rfl
theorem downL_len (l:List S)(i:Nat):(downL leaf node none' l i).length≤l.length:=by
 obtain⟨n,hn⟩:∃ n,l.length=n:=⟨_,rfl⟩
 induction n using Nat.strongRecOn generalizing l i with
 | _ n ih =>
  rw[downL]
  split
  ·simp
  ·have h3:=leftN_lt (n:=l.length) (by omega)
   have h4:=leftN_pos l.length
   split
   ·have:=ih (leftN l.length) (by omega) (l.take (leftN l.length)) i (by rw[List.length_take];omega)
    rw[List.length_take]at this
    simp only[List.length_cons];omega
   ·have:=ih (l.length - leftN l.length) (by omega) (l.drop (leftN l.length)) (i - leftN l.length) (by rw[List.length_drop])
    rw[List.length_drop]at this
    simp only[List.length_cons];omega
theorem downL_all (p:S→Prop)(hr:∀ l,l≠[]→p (rootL leaf node none' l))(l:List S)(i:Nat):∀ x∈downL leaf node none' l i,p x:=by
 obtain⟨n,hn⟩:∃ n,l.length=n:=⟨_,rfl⟩
 induction n using Nat.strongRecOn generalizing l i with
 | _ n ih =>
  rw[downL]
  split
  ·simp
  ·have h3:=leftN_lt (n:=l.length) (by omega)
   have h4:=leftN_pos l.length
   split
   ·intro x hx
    rcases List.mem_cons.1 hx with rfl | hx
    ·refine hr _ fun e=>?_
     have:=congrArg List.length e
     rw[List.length_drop,List.length_nil]at this;omega
    ·exact ih (leftN l.length) (by omega) (l.take (leftN l.length)) i (by rw[List.length_take];omega) x hx
   ·intro x hx
    rcases List.mem_cons.1 hx with rfl | hx
    ·refine hr _ fun e=>?_
     have:=congrArg List.length e
     rw[List.length_take,List.length_nil]at this;omega
    ·exact ih (l.length - leftN l.length) (by omega) (l.drop (leftN l.length)) (i - leftN l.length) (by rw[List.length_drop]) x hx
end
end Go.Proofs.YtjjiikeldpjafaaGreatDoor
/- A region that draws its order: operations that only read, then a tail in one order of which the first few may come up ahead of some reads. One walk of the text's order serves, plain or in a round. The conditions are closed facts of the region, and what the late reads read. -/
namespace Go.Proofs.YtjjiikeldpjafaaGreatDoor
section
variable {F:Fence} {q:Nat} {P:Program}
def OnlyN (Q:Exit→Act→World→Prop):Exit→Act→World→Prop:=fun e a w=>e=.normal∧Q .normal a w
def wpTail (P:Program)(ops:Array Oper)(Q:Exit→Act→World→Prop)(D:World→Prop):Nat→List Oper→Act→World→Prop
 | 0,l,a,w=>wpList P ops (OnlyN Q) l a w
 | _+1,[],a,w=>OnlyN Q .normal a w
 | m+1,o::rest,a,w=>o.wp P a w (fun a' w'=>D w'∧wpTail P ops Q D m rest a' w') (OnlyN Q)
theorem not_letsOut (Q:Exit→Act→World→Prop):¬ LetsOut (OnlyN Q):=fun⟨_,_,h,_⟩=>by cases h
theorem rowsIn_of_rows (hF:Wide F){row:String}{args:Array Value}{w:World}{R:Value→World→Prop}(h:Rows P row args w R):RowsIn F q P row args w R:=fun c cs _=>by
 obtain⟨v,w',r,s⟩:=h c cs
 exact⟨v,w',r,stepsIn_of_wide hF s⟩
theorem operIn_of_wp (hF:Wide F){o:Oper}{a:Act}{w:World}{K:Act→World→Prop}{Q:Exit→Act→World→Prop}(hd:∀ c,o.op≠.defer c)(h:o.wp P a w K (OnlyN Q)):o.wpIn F q P a w K Q:=by
 refine⟨fun f _=>hF.1 f,?_⟩
 rw[Oper.semAt_eq _ _ _ hd]
 unfold Oper.wp at h
 have hnd:F.depth.isSome=true→1≤q:=fun e=>by rw[hF.2.1]at e;cases e
 generalize (execOp a.eval o).run P w=r at *
 cases r with
 | ok m w' =>
  cases m <;> simp only[Oper.upon]at h <;> simp only[Oper.uponIn]
  case value v=>exact h
  case skip=>exact h
  case defer d=>exact h
  case enter f args =>
   refine⟨hnd,callsIn_of_calls hF (h.mono ?_)⟩
   intro e w'' he
   cases e with
   | returned v=>exact he
   | panicked chain=>exact absurd he.1 (by simp)
   | outgrown=>exact absurd he (not_letsOut Q)
  case row row args=>exact⟨hnd,rowsIn_of_rows hF h⟩
 | halt x w' =>
  cases x <;> simp only[Oper.upon]at h
  exact absurd h.1 (by simp)
theorem listIn_of_list (hF:Wide F){ops:Array Oper}{Q:Exit→Act→World→Prop}:∀(l:List Oper),(∀ o∈l,∀ c,o.op≠.defer c)→∀(a:Act) (w:World),wpList P ops (OnlyN Q) l a w→wpListIn F q P ops Q l a w
 | [],_,_,_,h=>h.2
 | o::l,hd,a,w,h=>by
  simp only[wpList]at h
  simp only[wpListIn]
  split
  ·rename_i hw
   rw[if_pos hw]at h
   rcases h with h | h
   ·exact Oper.wpIn_mono (fun a w h'=>listIn_of_list hF l (fun o ho=>hd o (by simp[ho])) a w h') (operIn_of_wp hF (hd o (by simp)) h)
   ·exact absurd h.2 (not_letsOut Q)
  ·rename_i hw
   rw[if_neg hw]at h
   exact⟨fun f _=>hF.1 f,listIn_of_list hF l (fun o ho=>hd o (by simp[ho])) _ w h⟩
def noDefer (l:List Oper):Bool:=l.all fun o=>match o.op with | .defer _=>false | _=>true
theorem noDefer_spec {l:List Oper}(h:noDefer l=true):∀ o∈l,∀ c,o.op≠.defer c:=by
 intro o ho c hc
 have:=List.all_eq_true.1 h o ho
 simp[hc]at this
/-! ### What the text's order yields -/
def singleB (ops:Array Oper)(k:Nat):Bool :=
 (List.range k).all fun i=>(List.range k).all fun j=>i == j || match ops[i]?,ops[j]? with
  | some oi,some oj=>match oj.dst with
   | some d=>(!(oi.looksAt ops).contains d || oi.after.any (fun e=>Region.binds .any e && e.on == j)) && oi.dst != some d
   | none=>true
  | _,_=>false
def selfB (ops:Array Oper)(k size:Nat):Bool :=
 (List.range k).all fun i=>match ops[i]? with
  | some o=>match o.dst with
   | some d=>!(o.looksAt ops).contains d && decide (d < size)
   | none=>true
  | none=>false
theorem singleB_spec {ops:Array Oper}{k i j:Nat}{oi oj:Oper}{d:Tmp}(h:singleB ops k=true)(hi:i < k)(hj:j < k)(hne:i≠j)(hoi:ops[i]?=some oi)(hoj:ops[j]?=some oj)(hd:oj.dst=some d) :
  (d∈oi.looksAt ops→∃ e∈oi.after,Region.binds .any e=true∧e.on=j)∧oi.dst≠some d:=by
 have h1:=List.all_eq_true.1 (List.all_eq_true.1 h i (List.mem_range.2 hi)) j (List.mem_range.2 hj)
 simp only[hoi,hoj,hd,Bool.or_eq_true,Bool.and_eq_true]at h1
 rcases h1 with h1 | ⟨h1,h2⟩
 ·exact absurd (by simpa using h1) hne
 ·refine⟨fun hm=>?_,by simpa using h2⟩
  rcases h1 with h1 | h1
  ·simp[hm]at h1
  ·obtain⟨e,he,hb⟩:=Array.any_eq_true'.1 h1
   simp only[Bool.and_eq_true,beq_iff_eq]at hb
   exact⟨e,he,hb.1,hb.2⟩
theorem selfB_spec {ops:Array Oper}{k size i:Nat}{o:Oper}{d:Tmp}(h:selfB ops k size=true)(hi:i < k)(ho:ops[i]?=some o)(hd:o.dst=some d):d ∉ o.looksAt ops∧d < size:=by
 have h1:=List.all_eq_true.1 h i (List.mem_range.2 hi)
 simp only[ho,hd,Bool.and_eq_true]at h1
 exact⟨by simpa using h1.1,by simpa using h1.2⟩
theorem exec_same {ops:Array Oper}{o:Oper}{a b:Act}(hs:∀ cs c,o.op≠.select cs c)(h:∀ t∈o.looksAt ops,a.tmps[t]?=b.tmps[t]?):execOp a.eval o=execOp b.eval o:=by
 refine execOp_congr o hs (fun x hx=>?_)
 cases x with
 | tmp t =>
  have:t∈o.looksAt ops:=List.mem_append_left _ (List.mem_filterMap.2 ⟨.tmp t,by simpa using hx,rfl⟩)
  have h1:=h t this
  simp only[Act.eval,Array.getD_eq_getD_getElem?,h1]
 | _=>rfl
theorem wanted_same {ops:Array Oper}{o:Oper}{a b:Act}(h:∀ t∈o.looksAt ops,a.tmps[t]?=b.tmps[t]?):Region.wanted o (yielded ops a.tmps)=Region.wanted o (yielded ops b.tmps):=by
 unfold Region.wanted
 cases hg:o.guard with
 | none=>rfl
 | some p =>
  obtain⟨j,c⟩:=p
  simp only[yielded]
  cases hd:(ops[j]?).bind (·.dst)with
  | none=>rfl
  | some t =>
   have:t∈o.looksAt ops:=List.mem_append_right _ (by rw[hg];simp[hd])
   simp[h t this]
def Good (P:Program)(ops:Array Oper)(C:World→Prop)(b:Act)(o:Oper):Prop :=
 (Region.wanted o (yielded ops b.tmps)=true∧∃ v,(∀ d,o.dst=some d→b.tmps[d]?=some v)∧∀ w,C w→o.quietAt P b C w v) ∨
 (Region.wanted o (yielded ops b.tmps)=false∧∀ d,o.dst=some d→b.tmps[d]?=some undef)
theorem put_other (a:Act)(dst:Option Tmp)(v:Value)(s:Nat)(h:dst≠some s):(a.put dst v).tmps[s]?=a.tmps[s]?:=by
 cases dst with
 | none=>rfl
 | some d =>
  have:d≠s:=fun e=>h (by rw[e])
  simp[Act.put,Array.getElem?_setIfInBounds_ne this]
theorem put_self (a:Act)(d:Tmp)(v:Value)(h:d < a.tmps.size):(a.put (some d) v).tmps[d]?=some v:=by
 simp[Act.put,h]
theorem put_size (a:Act)(dst:Option Tmp)(v:Value):(a.put dst v).tmps.size=a.tmps.size:=by
 cases dst <;> simp[Act.put]
theorem put_defers (a:Act)(dst:Option Tmp)(v:Value):(a.put dst v).defers=a.defers:=by
 cases dst <;> rfl
theorem lex_spec {ops:Array Oper}{C:World→Prop}{Lq:Act→Prop}{k:Nat}(hsel:Region.noSelect ops=true)(hB:headB ops k=true)(h1:singleB ops k=true):∀(l:List Oper) (i:Nat) (a:Act),(∀ j,j < l.length→l[j]?=ops[i+j]?)→i+l.length≤k→selfB ops k a.tmps.size=true →
  wpQuiet P ops C Lq l a→∃ b,Lq b∧(∀ j o,i≤j→j < i+l.length→ops[j]?=some o→Good P ops C b o)∧b.tmps.size=a.tmps.size∧b.defers=a.defers ∧
   (∀ s,(∀ j o,i≤j→j < i+l.length→ops[j]?=some o→o.dst≠some s)→b.tmps[s]?=a.tmps[s]?)
 | [],i,a,_,_,_,h=>⟨a,h,fun j o h1 h2 _=>by simp at h2;omega,rfl,rfl,fun _ _=>rfl⟩
 | o::l,i,a,hl,hk,hz,h=>by
  have h0:ops[i]?=some o:=by simpa using (hl 0 (by simp)).symm
  have hik:i < k:=by simp at hk;omega
  have hl':∀ j,j < l.length→l[j]?=ops[i+1+j]?:=fun j hj=>by have:=hl (j+1) (by simp;omega);simpa [Nat.add_assoc,Nat.add_comm 1 j]using this
  -- what is put
  obtain⟨v,hv,hr⟩:∃ v,((Region.wanted o (yielded ops a.tmps)=true∧∀ w,C w→o.quietAt P a C w v)∨(Region.wanted o (yielded ops a.tmps)=false∧v=undef))∧wpQuiet P ops C Lq l (a.put o.dst v):=by
   simp only[wpQuiet]at h
   split at h
   ·rename_i hw;obtain⟨v,g1,g2⟩:=h;exact⟨v,.inl ⟨hw,g1⟩,g2⟩
   ·rename_i hw;exact⟨undef,.inr ⟨by simpa using hw,rfl⟩,h⟩
  obtain⟨b,b1,b2,b3,b4,b5⟩:=lex_spec hsel hB h1 l (i+1) (a.put o.dst v) hl' (by simp at hk;omega) (by rw[put_size];exact hz) hr
  have later:∀ j o',i+1≤j→j < i+1+l.length→ops[j]?=some o'→∀ d,o'.dst=some d→d ∉ o.looksAt ops∧o.dst≠some d:=fun j o' g1 g2 g3 d hd=>by
   have hs:=singleB_spec h1 hik (by simp at hk;omega) (by omega) h0 g3 hd
   refine⟨fun hm=>?_,hs.2⟩
   obtain⟨e,he,hb,hon⟩:=hs.1 hm
   obtain⟨o'',ho'',hlt,_⟩:=headB_spec hB hik
   rw[h0]at ho'';cases ho''
   have:=hlt e he hb
   omega
  have same:∀ t∈o.looksAt ops,b.tmps[t]?=a.tmps[t]?:=fun t ht=>by
   rw[b5 t (fun j o' g1 g2 g3 e=>(later j o' g1 g2 g3 t e).1 ht)]
   exact put_other _ _ _ _ (fun e=>(selfB_spec hz hik h0 e).1 ht)
  have slot:∀ d,o.dst=some d→b.tmps[d]?=some v:=fun d hd=>by
   rw[b5 d (fun j o' g1 g2 g3 e=>(later j o' g1 g2 g3 d e).2 hd),hd]
   exact put_self _ _ _ (selfB_spec hz hik h0 hd).2
  refine⟨b,b1,?_,by rw[b3,put_size],by rw[b4,put_defers],?_⟩
  ·intro j o' g1 g2 g3
   by_cases e:j=i
   ·subst e
    rw[h0]at g3;cases g3
    rcases hv with⟨w1,w2⟩ | ⟨w1,rfl⟩
    ·refine .inl ⟨by rw[wanted_same same];exact w1,v,slot,fun w hw=>?_⟩
     have:=w2 w hw
     unfold Oper.quietAt at *
     rw[exec_same (fun cs c=>Region.noSelect_spec hsel _ _ cs c h0) same]
     exact this
    ·exact .inr ⟨by rw[wanted_same same];exact w1,slot⟩
   ·exact b2 j o' (by omega) (by simp at g2;omega) g3
  ·intro s hs
   rw[b5 s (fun j o' g1 g2 g3=>hs j o' (by omega) (by simp;omega) g3)]
   exact put_other _ _ _ _ (hs i o (Nat.le_refl _) (by simp) h0)
/-! ### Whatever order is drawn -/
def unl (x:Array Bool)(k:Nat):Nat:=((List.range k).filter fun i=>!x.getD i true).length
theorem unl_set (x:Array Bool)(i:Nat)(hs:i < x.size)(hu:x.getD i true=false):∀ k,(i < k→unl (x.setIfInBounds i true) k+1=unl x k)∧(k≤i→unl (x.setIfInBounds i true) k=unl x k)
 | 0=>⟨fun h=>by omega,fun _=>rfl⟩
 | k+1=>by
  have ih:=unl_set x i hs hu k
  have e:∀ y:Array Bool,unl y (k+1)=unl y k+(if y.getD k true=true then 0 else 1):=fun y=>by
   unfold unl
   rw[List.range_succ,List.filter_append,List.length_append]
   have:(List.filter (fun i=>!y.getD i true) [k]).length=if y.getD k true=true then 0 else 1:=by
    rw[List.filter_cons]
    cases y.getD k true <;> rfl
   rw[this]
  rw[e,e]
  by_cases hik:i=k
  ·subst hik
   refine⟨fun _=>?_,fun h=>by omega⟩
   have h1:(x.setIfInBounds i true).getD i true=true:=by simp[Array.getD,hs]
   rw[h1,hu,ih.2 (Nat.le_refl _)]
   simp
  ·rw[getD_set_ne true hik]
   exact⟨fun h=>by rw[← ih.1 (by omega)];omega,fun h=>by rw[ih.2 (by omega)]⟩
def lateB (ops:Array Oper)(n m:Nat)(late:List Nat):Bool :=
 ((List.range n).all fun i=>late.contains i || (List.range (n+1)).any fun j=>decide (i < j) && !late.contains j && Region.waitsFor .any ops j i) &&
 ((List.range m).all fun t=>t == 0 || Region.waitsFor .any ops (n+t) (n+t - 1)) &&
 ((List.range (n+m)).all fun i=>!(late.contains i || decide (n≤i)) || match ops[i]? with | some o=>o.guard.isNone | none=>false) && !late.contains n
theorem late_first {ops:Array Oper}{n m:Nat}{late:List Nat}(h:lateB ops n m late=true){x:Array Bool}(hcl:∀ j oj,ops[j]?=some oj→x.getD j false=true→∀ e∈oj.after,Region.binds .any e=true→x.getD e.on false=true)
  (hn:x.getD n false=true):∀ d i,n - i=d→i < n→late.contains i=false→x.getD i false=true:=by
 intro d
 induction d using Nat.strongRecOn with
 | _ d ih =>
  intro i hd hi hl
  simp only[lateB,Bool.and_eq_true]at h
  have h1:=List.all_eq_true.1 h.1.1.1 i (List.mem_range.2 hi)
  rw[hl,Bool.false_or]at h1
  obtain⟨j,hj,hj2⟩:=List.any_eq_true.1 h1
  simp only[Bool.and_eq_true,decide_eq_true_eq,Bool.not_eq_true']at hj2
  obtain⟨⟨h2,h3⟩,h4⟩:=hj2
  obtain⟨oj,hoj,e,he,hb,hon⟩:=Region.waitsFor_spec h4
  have hjn:j≤n:=by have:=List.mem_range.1 hj;omega
  have hjl:x.getD j false=true:=by
   by_cases e:j=n
   ·rw[e];exact hn
   ·exact ih (n - j) (by omega) j rfl (by omega) h3
  rw[← hon]
  exact hcl j oj hoj hjl e he hb
theorem wp_transfer {o:Oper}{a c:Act}{w:World}{K K':Act→World→Prop}{Q:Exit→Act→World→Prop}(he:execOp a.eval o=execOp c.eval o)(hd:a.defers=c.defers)
  (hK:∀ df v w',K ({ c with defers:=df }.put o.dst v) w'→K' ({ a with defers:=df }.put o.dst v) w') (h:o.wp P c w K (OnlyN Q)):o.wp P a w K' (OnlyN Q):=by
 unfold Oper.wp at *
 rw[he]
 have hK0:∀ v w',K (c.put o.dst v) w'→K' (a.put o.dst v) w':=fun v w' hk=>by
  have:=hK c.defers v w' hk
  rw[← hd]at this
  exact this
 generalize (execOp c.eval o).run P w=r at *
 cases r with
 | ok m w' =>
  cases m <;> simp only[Oper.upon]at h ⊢
  case value v=>exact hK0 _ _ h
  case skip=>exact hK0 _ _ h
  case defer d=>rw[hd];exact hK _ _ _ h
  case enter f args =>
   refine h.mono ?_
   intro e w'' hh
   cases e with
   | returned v=>exact hK0 _ _ hh
   | panicked chain=>exact absurd hh.1 (by simp)
   | outgrown=>exact absurd hh (not_letsOut Q)
  case row row args=>exact Rows.mono h (fun _ _ hh=>hK0 _ _ hh)
 | halt x w' =>
  cases x <;> simp only[Oper.upon]at h ⊢
  exact absurd h.1 (by simp)
theorem opIn_value (hF:Wide F){ops:Array Oper}{i:Nat}{o:Oper}{a:Act}{w w':World}{v:Value}{K:Act→World→Prop}{Q:Exit→Act→World→Prop}(hd:∀ c,o.op≠.defer c)(ho:ops[i]?=some o)(hw:Region.wanted o (yielded ops a.tmps)=true)
  (hr:(execOp a.eval o).run P w=.ok (.value v) w') (hK:K (a.put o.dst v) w'):wpOpIn F q P ops Q i K a w:=by
 unfold wpOpIn
 simp only[ho]
 rw[if_pos hw]
 refine⟨fun f _=>hF.1 f,?_⟩
 rw[Oper.semAt_eq _ _ _ hd,hr]
 exact hK
structure Way (ops:Array Oper) (n m j:Nat) (b a c:Act) (x:Array Bool):Prop where
 inv:HeadInv .any ops (n+m) x
 tail:∀ t,n≤t→t < n+m→(x.getD t true=true ↔ t < n+j)
 size:a.tmps.size=b.tmps.size
 defers:a.defers=c.defers
 csize:c.tmps.size=b.tmps.size
 done:∀ i,i < n→x.getD i true=true→∀ o d,ops[i]?=some o→o.dst=some d→a.tmps[d]?=b.tmps[d]?
 old:∀ s,(∀ i o,i < n+j→ops[i]?=some o→o.dst≠some s)→a.tmps[s]?=b.tmps[s]?
 star1:∀ i o d,i < n→ops[i]?=some o→o.dst=some d→c.tmps[d]?=b.tmps[d]?
 star2:∀ s,(∀ i o,i < n→ops[i]?=some o→o.dst≠some s)→c.tmps[s]?=a.tmps[s]?
theorem anyIn_late (hF:Wide F){l:List Oper}{n m g:Nat}{late:List Nat}{C D:World→Prop}{Q:Exit→Act→World→Prop}{b:Act}
  (hsel:Region.noSelect l.toArray=true) (hdef:noDefer l=true) (hB:headB l.toArray (n+m)=true) (h1:singleB l.toArray (n+m)=true) (hself:selfB l.toArray (n+m) b.tmps.size=true) (hlate:lateB l.toArray n m late=true)
  (hs:Region.sinkB .any l.toArray (n+m)=true) (hc:Region.chainB .any l.toArray (n+m)=true) (hn:n+m < l.length) (hg:g=l.length - (n+m))
  (hseq:Region.seqB .any l.toArray (l.length - (n+m)) (n+m) ((List.replicate (n+m) true++List.replicate (l.length - (n+m)) false).toArray)=true)
  (hgood:∀ i o,i < n→l.toArray[i]?=some o→Good P l.toArray C b o)
  (hD:∀ w,D w→∀ i o,late.contains i=true→l.toArray[i]?=some o→∃ v,(execOp b.eval o).run P w=.ok (.value v) w∧∀ d,o.dst=some d→b.tmps[d]?=some v) :
  ∀(fuel j:Nat) (x:Array Bool) (a c:Act) (w:World),j≤m→unl x (n+m)≤fuel→Way l.toArray n m j b a c x→(j=0→C w∧c=b)→(0 < j→D w)→(j=0→∀ w,C w→D w∧wpTail P l.toArray Q D m (l.drop n) b w)→(0 < j→wpTail P l.toArray Q D (m - j) (l.drop (n+j)) c w) →
   wpAnyIn F q P .any l.toArray Q (fuel+g) x a w:=by
 have hdf:∀(i:Nat) (o:Oper),l.toArray[i]?=some o→∀ c,o.op≠.defer c:=fun i o ho=>noDefer_spec hdef o (by
  have:=Array.mem_of_getElem? ho
  simpa using this)
 have hsl:∀(i:Nat) (o:Oper),l.toArray[i]?=some o→∀ cs c,o.op≠.select cs c:=fun i o ho cs c=>Region.noSelect_spec hsel i o cs c ho
 have hlast:=hlate
 simp only[lateB,Bool.and_eq_true]at hlast
 obtain⟨⟨⟨_,hchain⟩,hguard⟩,hnl⟩:=hlast
 have hn':n+m < l.toArray.size:=by simpa using hn
 -- all are listed: the rest goes in the text's order
 have finish:∀(j:Nat) (x:Array Bool) (a c:Act) (w:World),j≤m→(∀ i,i < n+m→x.getD i true=true)→Way l.toArray n m j b a c x→(j=0→C w∧c=b)→(j=0→∀ w,C w→D w∧wpTail P l.toArray Q D m (l.drop n) b w)→(0 < j→wpTail P l.toArray Q D (m - j) (l.drop (n+j)) c w) →
   wpAnyIn F q P .any l.toArray Q g x a w:=by
  intro j x a c w hj hx W h0 hC hT
  have hjm:j=m:=by
   by_cases hm:m=0
   ·omega
   ·have:=(W.tail (n+m - 1) (by omega) (by omega)).1 (hx _ (by omega))
    omega
  subst hjm
  have hR:wpList P l.toArray (OnlyN Q) (l.drop (n+j)) c w:=by
   by_cases hz:j=0
   ·subst hz
    obtain⟨hCw,rfl⟩:=h0 rfl
    have:=(hC rfl w hCw).2
    simpa [wpTail]using this
   ·have:=hT (by omega)
    rw[Nat.sub_self]at this
    exact this
  have hac:a=c:=by
   have ht:a.tmps=c.tmps:=by
    apply Array.ext_getElem?
    intro s
    by_cases hs:∃ i o,i < n∧l.toArray[i]?=some o∧o.dst=some s
    ·obtain⟨i,o,hi,ho,hd⟩:=hs
     rw[W.done i hi (hx i (by omega)) o s ho hd,W.star1 i o s hi ho hd]
    ·rw[W.star2 s (fun i o hi ho hd=>hs ⟨i,o,hi,ho,hd⟩)]
   have hd:=W.defers
   obtain⟨t1,d1⟩:=a
   obtain⟨t2,d2⟩:=c
   simp only at ht hd
   subst ht hd
   rfl
  subst hac
  have hxe:=listed_eq hn W.inv hx
  have h4:=wpAnyIn_seq (F:=F) (n:=q) (md:=.any) (Q':=Q) (l.drop (n+j)) (n+j) x a w (fun i=>by simp[List.getElem?_drop]) (by rw[List.length_drop,hxe];exact hseq)
   (listIn_of_list hF _ (fun o ho=>noDefer_spec hdef o (List.mem_of_mem_drop ho)) a w hR)
  rw[List.length_drop]at h4
  rw[hg];exact h4
 intro fuel
 induction fuel with
 | zero =>
  intro j x a c w hj hu W h0 hjD hC hT
  rw[Nat.zero_add]
  refine finish j x a c w hj ?_ W h0 hC hT
  intro i hi
  cases h:x.getD i true with
  | true=>rfl
  | false =>
   have:i∈(List.range (n+m)).filter fun i=>!x.getD i true:=by
    rw[List.mem_filter]
    exact⟨List.mem_range.2 hi,by rw[h];rfl⟩
   have:=List.length_pos_of_mem this
   unfold unl at hu
   omega
 | succ fuel ih =>
  intro j x a c w hj hu W h0 hjD hC hT
  by_cases hx:∀ i,i < n+m→x.getD i true=true
  ·exact wpAnyIn_add (finish j x a c w hj hx W h0 hC hT) _
  rw[show fuel+1+g=(fuel+g)+1 by omega]
  have hxs:x.size=l.toArray.size:=W.inv.size
  obtain⟨m',hm',hmr⟩:=head_ready hB hx (by rw[hxs];omega)
  have hmu:=(mem_ready.1 hmr).1
  refine⟨fun e=>(by rw[e]at hmr;cases hmr),fun i hi=>?_⟩
  have hik:i < n+m:=by
   rcases Nat.lt_or_ge i (n+m)with h' | h'
   ·exact h'
   ·exact absurd hi (tail_waits hs hc hn' W.inv _ m' rfl hm' hmu i h')
  obtain⟨hun,o,ho,hall⟩:=mem_ready.1 hi
  have hix:i < x.size:=by rw[hxs];omega
  have hu':unl (x.setIfInBounds i true) (n+m)≤fuel:=by
   have:=(unl_set x i hix hun (n+m)).1 hik
   omega
  have hinv':=W.inv.set hi hik
  obtain⟨o',ho',hlt,_⟩:=headB_spec hB hik
  rw[ho]at ho';cases ho'
  -- a slot that the operation looks at,written by an operation of the head: that one is listed
  have looked:∀ t∈o.looksAt l.toArray,∀ j' oj,j' < n+m→l.toArray[j']?=some oj→oj.dst=some t→j' < i∧x.getD j' true=true:=fun t ht j' oj hj' hoj hd=>by
   by_cases e:i=j'
   ·subst e;rw[ho]at hoj;cases hoj;exact absurd ht (selfB_spec hself hik ho hd).1
   ·obtain⟨ed,hed,hb,hon⟩:=(singleB_spec h1 hik hj' e ho hoj hd).1 ht
    have h2:=hall ed hed hb
    have h3:=hlt ed hed hb
    rw[hon]at h2 h3
    refine⟨h3,?_⟩
    have:j' < x.size:=by omega
    simpa [Array.getD,this]using h2
  by_cases hin:i < n
  ·-- a read of the head
   have same:∀ t∈o.looksAt l.toArray,a.tmps[t]?=b.tmps[t]?:=fun t ht=>by
    by_cases hs:∃ j' oj,j' < n∧l.toArray[j']?=some oj∧oj.dst=some t
    ·obtain⟨j',oj,hj',hoj,hd⟩:=hs
     exact W.done j' hj' (looked t ht j' oj (by omega) hoj hd).2 oj t hoj hd
    ·refine W.old t (fun j' oj hj' hoj hd=>?_)
     by_cases e:j' < n
     ·exact hs ⟨j',oj,e,hoj,hd⟩
     ·have:=(looked t ht j' oj (by omega) hoj hd).1
      omega
   have hex:execOp a.eval o=execOp b.eval o:=exec_same (hsl i o ho) same
   have hwa:Region.wanted o (yielded l.toArray a.tmps)=Region.wanted o (yielded l.toArray b.tmps):=wanted_same same
   -- behind it
   have next:∀(v:Value) (w':World),(∀ d,o.dst=some d→b.tmps[d]?=some v)→(j=0→C w')→(0 < j→w'=w)→wpAnyIn F q P .any l.toArray Q (fuel+g) (x.setIfInBounds i true) (a.put o.dst v) w':=fun v w' hv hCw hww=>by
    refine ih j _ _ c w' hj hu' ?_ (fun e=>⟨hCw e,(h0 e).2⟩) (fun e=>by rw[hww e];exact hjD e) hC (fun e=>by rw[hww e];exact hT e)
    refine⟨hinv',?_,by rw[put_size];exact W.size,by rw[put_defers];exact W.defers,W.csize,?_,?_,W.star1,?_⟩
    ·intro t h1' h2'
     rw[getD_set_ne true (by omega:i≠t)]
     exact W.tail t h1' h2'
    ·intro i' hi' hl o' d ho'' hd
     by_cases e:i=i'
     ·subst e
      rw[ho]at ho'';cases ho''
      rw[hd,put_self _ _ _ (by rw[W.size];exact(selfB_spec hself hik ho hd).2),hv d hd]
     ·rw[getD_set_ne true e]at hl
      rw[put_other _ _ _ _ (fun e'=>(singleB_spec h1 hik (by omega) e ho ho'' hd).2 e')]
      exact W.done i' hi' hl o' d ho'' hd
    ·intro s hs
     rw[put_other _ _ _ _ (hs i o (by omega) ho)]
     exact W.old s hs
    ·intro s hs
     rw[put_other _ _ _ _ (hs i o hin ho)]
     exact W.star2 s hs
   rcases hgood i o hin ho with⟨hw,v,hv,hq⟩ | ⟨hw,hv⟩
   ·by_cases hj0:j=0
    ·-- in the class C
     have hCw:=(h0 hj0).1
     have h3:=hq w hCw
     unfold Oper.quietAt at h3
     rw[← hex]at h3
     unfold wpOpIn
     simp only[ho]
     rw[if_pos (by rw[hwa];exact hw)]
     refine⟨fun f _=>hF.1 f,?_⟩
     rw[Oper.semAt_eq _ _ _ (hdf i o ho)]
     generalize (execOp a.eval o).run P w=r at h3
     cases r with
     | ok nx w' =>
      cases nx <;> simp only[Oper.quietUpon]at h3 <;> simp only[Oper.uponIn]
      case value u =>
       obtain⟨e1,e2⟩:=h3
       rw[e2]
       exact next v w' hv (fun _=>by rw[e1];exact hCw) (fun h=>by omega)
      case skip =>
       obtain⟨e1,e2⟩:=h3
       rw[← e2]
       exact next v w' hv (fun _=>by rw[e1];exact hCw) (fun h=>by omega)
      case enter f args =>
       obtain⟨e1,hcall⟩:=h3
       rw[e1]
       refine⟨fun hd=>(by rw[hF.2.1]at hd;cases hd),callsIn_of_calls hF (hcall.mono ?_)⟩
       rintro e w'' ⟨he,hw''⟩
       subst he
       exact next v w'' hv (fun _=>hw'') (fun h=>by omega)
     | halt z w'=>simp only[Oper.quietUpon]at h3
    ·-- late: a read
     have hnl':x.getD n true=true:=(W.tail n (Nat.le_refl _) (by omega)).2 (by omega)
     have hnf:x.getD n false=true:=by
      have:n < x.size:=by rw[hxs];omega
      simpa [Array.getD,this]using hnl'
     have hlt':late.contains i=true:=by
      cases hc':late.contains i with
      | true=>rfl
      | false =>
       have:=late_first hlate W.inv.closed hnf _ i rfl hin hc'
       have h5:x.getD i true=true:=by
        simpa [Array.getD,hix]using this
       rw[h5]at hun;cases hun
     obtain⟨v',hr,hv'⟩:=hD w (hjD (by omega)) i o hlt' ho
     rw[← hex]at hr
     exact opIn_value hF (hdf i o ho) ho (by rw[hwa];exact hw) hr (next v' w hv' (fun e=>absurd e hj0) (fun _=>rfl))
   ·unfold wpOpIn
    simp only[ho]
    rw[if_neg (by rw[hwa,hw];simp)]
    exact⟨fun f _=>hF.1 f,next undef w hv (fun e=>(h0 e).1) (fun _=>rfl)⟩
  ·-- an operation of the tail
   have hij:i=n+j:=by
    have h2:¬ i < n+j:=fun h=>by
     have:=(W.tail i (by omega) hik).2 h
     rw[hun]at this;cases this
    by_cases e:i=n+j
    ·exact e
    ·exfalso
     have h3:=List.all_eq_true.1 hchain (i - n) (List.mem_range.2 (by omega))
     have h4:(i - n == 0)=false:=by simp;omega
     rw[h4,Bool.false_or,show n+(i - n)=i by omega]at h3
     obtain⟨oi,hoi,e',he',hb',hon'⟩:=Region.waitsFor_spec h3
     rw[ho]at hoi;cases hoi
     have h5:=hall e' he' hb'
     rw[hon']at h5
     have h6:x.getD (i - 1) true=true:=by
      have:i - 1 < x.size:=by omega
      simpa [Array.getD,this]using h5
     have:=(W.tail (i - 1) (by omega) (by omega)).1 h6
     omega
   subst hij
   have hg':o.guard=none:=by
    have h3:=List.all_eq_true.1 hguard (n+j) (List.mem_range.2 hik)
    have h4:(late.contains (n+j) || decide (n≤n+j))=true:=by simp
    rw[h4,ho]at h3
    simpa using h3
   have hw:Region.wanted o (yielded l.toArray a.tmps)=true:=by simp[Region.wanted,hg']
   have same:∀ t∈o.looksAt l.toArray,a.tmps[t]?=c.tmps[t]?:=fun t ht=>by
    by_cases hs:∃ j' oj,j' < n∧l.toArray[j']?=some oj∧oj.dst=some t
    ·obtain⟨j',oj,hj',hoj,hd⟩:=hs
     rw[W.done j' hj' (looked t ht j' oj (by omega) hoj hd).2 oj t hoj hd,W.star1 j' oj t hj' hoj hd]
    ·rw[W.star2 t (fun i o hi ho hd=>hs ⟨i,o,hi,ho,hd⟩)]
   have hex:execOp a.eval o=execOp c.eval o:=exec_same (hsl _ o ho) same
   have hdrop:l.drop (n+j)=o::l.drop (n+j+1):=by
    have:l[n+j]?=some o:=by simpa using ho
    obtain⟨hlt2,he2⟩:=List.getElem?_eq_some_iff.1 this
    rw[List.drop_eq_getElem_cons hlt2,he2]
   have hrest:wpTail P l.toArray Q D (m - j) (l.drop (n+j)) c w:=by
    by_cases hz:j=0
    ·subst hz
     obtain⟨hCw,rfl⟩:=h0 rfl
     simpa using (hC rfl w hCw).2
    ·exact hT (by omega)
   rw[show m - j=(m - (j+1))+1 by omega,hdrop]at hrest
   simp only[wpTail]at hrest
   unfold wpOpIn
   simp only[ho]
   rw[if_pos hw]
   refine operIn_of_wp hF (hdf _ o ho) (wp_transfer hex W.defers (fun df v w' hk=>?_) hrest)
   refine ih (j+1) _ _ ({ c with defers:=df }.put o.dst v) w' (by omega) hu' ?_ (fun e=>by omega) (fun _=>hk.1) (fun e=>by omega) (fun _=>by
    have:=hk.2
    rw[show n+(j+1)=n+j+1 by omega]
    exact this)
   have hnoth:∀ i' o' d,i' < n→l.toArray[i']?=some o'→o'.dst=some d→o.dst≠some d:=fun i' o' d hi' ho' hd=>(singleB_spec h1 hik (by omega) (by omega) ho ho' hd).2
   refine⟨hinv',?_,by rw[put_size];exact W.size,by rw[put_defers,put_defers],by rw[put_size];exact W.csize,?_,?_,?_,?_⟩
   ·intro t h1' h2'
    by_cases e:n+j=t
    ·subst e
     have:(x.setIfInBounds (n+j) true).getD (n+j) true=true:=by simp[Array.getD,hix]
     rw[this]
     exact⟨fun _=>by omega,fun _=>rfl⟩
    ·rw[getD_set_ne true e,W.tail t h1' h2']
     omega
   ·intro i' hi' hl o' d ho' hd
    rw[getD_set_ne true (by omega:n+j≠i')]at hl
    rw[put_other _ _ _ _ (hnoth i' o' d hi' ho' hd)]
    exact W.done i' hi' hl o' d ho' hd
   ·intro s hs
    rw[put_other _ _ _ _ (hs (n+j) o (by omega) ho)]
    exact W.old s (fun i' o' hi' ho'=>hs i' o' (by omega) ho')
   ·intro i' o' d hi' ho' hd
    rw[put_other _ _ _ _ (hnoth i' o' d hi' ho' hd)]
    exact W.star1 i' o' d hi' ho' hd
   ·intro s hs
    by_cases e:o.dst=some s
    ·have hsz:=(selfB_spec hself hik ho e).2
     rw[e,put_self _ _ _ (by show s < c.tmps.size;rw[W.csize];exact hsz),put_self _ _ _ (by show s < a.tmps.size;rw[W.size];exact hsz)]
    ·rw[put_other _ _ _ _ e,put_other _ _ _ _ e]
     exact W.star2 s hs
def lateAllB (l:List Oper)(n m size:Nat)(late:List Nat):Bool :=
 Region.noSelect l.toArray && noDefer l && headB l.toArray (n+m) && singleB l.toArray (n+m) && selfB l.toArray (n+m) size && lateB l.toArray n m late &&
  Region.sinkB .any l.toArray (n+m) && Region.chainB .any l.toArray (n+m) && decide (n+m < l.length) &&
  Region.seqB .any l.toArray (l.length - (n+m)) (n+m) ((List.replicate (n+m) true++List.replicate (l.length - (n+m)) false).toArray)
theorem headB_mono {ops:Array Oper}{n k:Nat}(h:headB ops k=true)(hn:n≤k):headB ops n=true:=by
 unfold headB at *
 rw[List.all_eq_true]at *
 intro i hi
 exact h i (List.mem_range.2 (by have:=List.mem_range.1 hi;omega))
theorem singleB_mono {ops:Array Oper}{n k:Nat}(h:singleB ops k=true)(hn:n≤k):singleB ops n=true:=by
 unfold singleB at *
 rw[List.all_eq_true]at *
 intro i hi
 have h1:=h i (List.mem_range.2 (by have:=List.mem_range.1 hi;omega))
 rw[List.all_eq_true]at *
 intro j hj
 exact h1 j (List.mem_range.2 (by have:=List.mem_range.1 hj;omega))
theorem selfB_mono {ops:Array Oper}{n k size:Nat}(h:selfB ops k size=true)(hn:n≤k):selfB ops n size=true:=by
 unfold selfB at *
 rw[List.all_eq_true]at *
 intro i hi
 exact h i (List.mem_range.2 (by have:=List.mem_range.1 hi;omega))
theorem wpIn_region_late {id:Nat}{Q:Exit→Act→World→Prop}{a:Act}{w:World}{l:List Oper}(n m:Nat)(late:List Nat)(C D:World→Prop)(hF:Wide F)(hm:P.follows .mixedOrders=true)(hB:lateAllB l n m a.tmps.size late=true)(hC:C { w with drawn:=w.drawn+1 })
  (h:wpQuiet P l.toArray C (fun b=>(∀ w,D w→∀ i o,late.contains i=true→l.toArray[i]?=some o→∃ v,(execOp b.eval o).run P w=.ok (.value v) w∧∀ d,o.dst=some d→b.tmps[d]?=some v)∧(∀ w,C w→D w∧wpTail P l.toArray Q D m (l.drop n) b w)) (l.take n) a):(Code.region id l.toArray true).wpIn F q P Q a w:=by
 simp only[lateAllB,Bool.and_eq_true,decide_eq_true_eq]at hB
 obtain⟨⟨⟨⟨⟨⟨⟨⟨⟨hsel,hdef⟩,hhd⟩,hsg⟩,hself⟩,hlate⟩,hs⟩,hc⟩,hn⟩,hseq⟩:=hB
 have htl:(l.take n).length=n:=by simp;omega
 obtain⟨b,⟨hb1,hb2⟩,hgood,hsz,hdf,hold⟩:=lex_spec (k:=n) hsel (headB_mono hhd (by omega)) (singleB_mono hsg (by omega)) (l.take n) 0 a (fun j hj=>by
  have hj':j < n:=by rw[htl]at hj;exact hj
  simp[hj']) (by rw[htl];omega) (selfB_mono hself (by omega)) h
 rw[htl]at hgood hold
 refine wpIn_region_any hm ?_
 have inv0:HeadInv .any l.toArray (n+m) (Array.replicate l.toArray.size false) :=
  ⟨by simp,fun j oj _ hl=>(by rw[getD_replicate_false]at hl;cases hl),fun t _ ht=>getD_in (by simpa using ht) (getD_replicate_false _ _)⟩
 have way0:Way l.toArray n m 0 b a b (Array.replicate l.toArray.size false):=by
  refine⟨inv0,?_,hsz.symm,hdf.symm,rfl,?_,?_,fun _ _ _ _ _ _=>rfl,fun s hs=>hold s (fun j o _ h2 h3=>hs j o (by omega) h3)⟩
  ·intro t h1 h2
   rw[getD_in (by simpa using by omega) (getD_replicate_false _ _)]
   constructor
   ·intro e;cases e
   ·intro e;omega
  ·intro i hi hl
   rw[getD_in (by simpa using by omega) (getD_replicate_false _ _)]at hl
   cases hl
  ·intro s hs
   exact(hold s (fun j o _ h2 h3=>hs j o (by omega) h3)).symm
 have key:=anyIn_late (F:=F) (q:=q) (Q:=Q) (g:=l.length - (n+m)) hF hsel hdef hhd hsg (by rw[hsz];exact hself) hlate hs hc hn rfl hseq (fun i o hi ho=>hgood i o (by omega) (by omega) ho) hb1 (n+m) 0 (Array.replicate l.toArray.size false) a b _ (by omega) (by
   unfold unl
   refine Nat.le_trans (List.length_filter_le _ _) (by simp)) way0
  (fun _=>⟨hC,rfl⟩) (fun e=>by omega) (fun _=>hb2) (fun e=>by omega)
 have e:n+m+(l.length - (n+m))=l.toArray.size:=by simp;omega
 rw[e]at key
 exact key
theorem wp_region_late {id:Nat}{Q:Exit→Act→World→Prop}{a:Act}{w:World}{l:List Oper}(n m:Nat)(late:List Nat)(C D:World→Prop)(hm:P.follows .mixedOrders=true)(hB:lateAllB l n m a.tmps.size late=true)(hC:C { w with drawn:=w.drawn+1 })
  (h:wpQuiet P l.toArray C (fun b=>(∀ w,D w→∀ i o,late.contains i=true→l.toArray[i]?=some o→∃ v,(execOp b.eval o).run P w=.ok (.value v) w∧∀ d,o.dst=some d→b.tmps[d]?=some v)∧(∀ w,C w→D w∧wpTail P l.toArray Q D m (l.drop n) b w)) (l.take n) a):(Code.region id l.toArray true).wp P Q a w :=
 wpIn_wide.1 (wpIn_region_late (q:=0) n m late C D Wide.wide hm hB hC h)
theorem wpTail_step {ops:Array Oper}{Q:Exit→Act→World→Prop}{D:World→Prop}{m:Nat}{o:Oper}{rest:List Oper}{a:Act}{w:World}(hg:o.guard=none)
  (h:wpList P #[o] (OnlyN fun _ a' w'=>D w'∧wpTail P ops Q D m rest a' w') [o] a w):wpTail P ops Q D (m+1) (o::rest) a w:=by
 unfold wpTail
 simp only[wpList,Region.wanted,hg,if_true]at h
 replace h:=h.resolve_right (fun hh=>absurd hh.2 (not_letsOut _))
 unfold Oper.wp at *
 generalize (execOp a.eval o).run P w=r at *
 cases r with
 | ok m w' =>
  cases m <;> simp only[Oper.upon]at h ⊢
  case value v=>exact h.2
  case skip=>exact h.2
  case defer d=>exact h.2
  case enter f args =>
   refine h.mono ?_
   intro e w'' hh
   cases e with
   | returned v=>exact hh.2
   | panicked chain=>exact absurd hh.1 (by simp)
   | outgrown=>exact absurd hh (not_letsOut _)
  case row row args=>exact Rows.mono h (fun _ _ hh=>hh.2)
 | halt x w' =>
  cases x <;> simp only[Oper.upon]at h ⊢
  exact absurd h.1 (by simp)
end
end Go.Proofs.YtjjiikeldpjafaaGreatDoor
