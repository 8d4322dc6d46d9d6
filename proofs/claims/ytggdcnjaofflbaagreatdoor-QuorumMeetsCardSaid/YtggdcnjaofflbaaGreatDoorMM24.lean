/- Append to a slice without room: a new row. The conditions: what the slices read as, lengths. -/
import Derived.Deep.AppendSrc
import Derived.Deep.Upon
import Derived.Test.YtggdcnjaofflbaaGreatDoorMM22
namespace Go.Proofs.YtggdcnjaofflbaaGreatDoor
open Go.RowKit Go.BigFrame
theorem flatG_get {size:Nat}:∀(css:List (List Value)) (_:∀ c∈css,c.length=size) (j:Nat) (u:Value),css.flatten[j]?=some u→∃ k i c,css[k]?=some c∧c[i]?=some u∧j=k*size+i
 | [],_,j,u,h=>by simp at h
 | c::css,hc,j,u,h=>by
  rw[List.flatten_cons]at h
  have h5:c.length=size:=hc c (List.mem_cons_self ..)
  rcases Nat.lt_or_ge j size with hj | hj
  ·rw[List.getElem?_append_left (by omega)]at h
   exact⟨0,j,c,rfl,h,by omega⟩
  ·rw[List.getElem?_append_right (by omega),h5]at h
   obtain⟨k,i,c',h1,h2,h3⟩:=flatG_get css (fun c h=>hc c (List.mem_cons_of_mem _ h)) (j - size) u h
   exact⟨k+1,i,c',h1,h2,by rw[Nat.succ_mul];omega⟩
theorem flatG_len {size:Nat}:∀(css:List (List Value)),(∀ c∈css,c.length=size)→css.flatten.length=css.length*size
 | [],_=>by simp
 | c::css,h=>by
  rw[List.flatten_cons,List.length_append,flatG_len css (fun c hc=>h c (List.mem_cons_of_mem _ hc)),List.length_cons,Nat.succ_mul,h c (List.mem_cons_self ..)]
  omega
theorem SliceAt.flat {w:World}{a:Option Addr}{n cap size:Nat}{css:List (List Value)}(h:SliceAt w (.slice a n cap) size css)(hl:∀ c∈css,c.length=size)(P:Program):(Builtin.firstCells size n (.slice a n cap)).run P w=.ok css.flatten.toArray w:=by
 obtain⟨a',cap',e,h1,h2,h3⟩:=h
 injection e with e1 e2 e3
 subst e1 e2 e3
 rcases h3 with h3 | ⟨b,off,ha,hb,hc⟩
 ·subst h3
  cases a with
  | none=>exact run_firstCells_none w size _ _ _
  | some a=>exact run_firstCells_some w size _ a _ _ [] (by simp) (by intro _ _ h;simp at h)
 ·subst ha
  refine run_firstCells_some w size _ ⟨b,off,none⟩ _ _ css.flatten (flatG_len css hl) fun j u hj=>?_
  obtain⟨k,i,c,h1,h2,rfl⟩:=flatG_get css hl j u hj
  rw[Addr.add_mid,← Nat.add_assoc]
  exact hc k c h1 i u h2
section
variable {P:Program}
theorem run_append_fit (w:World)(t ty e:TypeId)(size bytes:Nat)(i:TypeInfo)(z:Value)(ht:P.underlying t=some (.slice e))(hi:P.info? e=some i)(hz:i.zero=some z)(hsize:i.size=size)(hby:i.bytes=bytes)(hzs:z.cells.size=size)
  {a b:Option Addr} {n m c:Nat} {css dss:List (List Value)} (h1:SliceAt w (.slice a n n) size css) (h2:SliceAt w (.slice b m c) size dss)
  (l1:∀ c∈css,c.length=size) (l2:∀ c∈dss,c.length=size) (o2:∀ c∈dss,∀ u∈c,u.oneCell'=true) (hm:0 < m) (h63:n+m≤100000) (hbt:bytes≤1000) :
  ∃ cap w',(Builtin.append_ #[t,t] ty #[.slice a n n,.slice b m c]).run P w=.ok (.slice (some ⟨w.heap.size,0,none⟩) (n+m) cap) w' ∧
   OwnE w' w.heap.size e size (.slice (some ⟨w.heap.size,0,none⟩) (n+m) cap) (css++dss)∧Below w.heap.size w w':=by
 subst hsize hby
 have hn:n=css.length:=by obtain⟨_,_,e,_⟩:=h1;injection e
 have hmm:m=dss.length:=by obtain⟨_,_,e,_⟩:=h2;injection e
 have hbd:Below w.heap.size w w.drew:=Below.drew br0
 have hold:=SliceAt.flat (h1.below hbd) l1 P
 have hsrc:Src P i.size t (.slice b m c) m dss.flatten w:=by
  refine⟨.inl ⟨e,ht⟩,fun w'=>?_,SliceAt.flat h2 l2 P,SliceAt.flat (h2.below hbd) l2 P,?_,?_⟩
  ·cases b <;> rfl
  ·rw[hmm];exact flatG_len dss l2
  ·intro u hu
   obtain⟨c,hc,hu⟩:=List.mem_flatten.1 hu
   exact o2 c hc u hu
 have hg:n < n+m:=by omega
 have hbytes:(n+m)*i.bytes≤140737488355328:=Nat.le_trans (Nat.mul_le_mul h63 hbt) (by decide)
 have hrun:=run_append_grow_src (P:=P) w t t ty e i z ht hi hz a n n css.flatten hold (.slice b m c) m dss.flatten hsrc hg (by omega) (growslice_fits hg hbytes)
 have hge:=grownCap_ge w (n+m) n e
 have hcm:=grownCap_le_maxLen w (n+m) n e (by unfold maxLen;omega)
 have hL:(css.flatten++dss.flatten).length=(n+m)*i.size:=by rw[List.length_append,flatG_len css l1,flatG_len dss l2,Nat.add_mul,hn,hmm]
 generalize grownCap w (n+m) n e=gc at *
 refine⟨gc,_,hrun,⟨?_,.inr ⟨w.heap.size,gc,_,by rw[List.length_append,← hn,← hmm],Nat.le_refl _,heap_alloc_new w.drew _,by rw[List.length_append,← hn,← hmm];exact hge,hcm,?_,?_⟩⟩,hbd.alloc (Nat.le_refl _) _⟩
 ·rw[List.flatten_append,hL,List.length_append,hn,hmm]
 ·rw[Array.size_append,List.size_toArray,hL,size_zeroCells,hzs,← Nat.add_mul]
  congr 1
  omega
 ·rw[Array.toList_append,List.toList_toArray,List.length_append,← hn,← hmm,← hL,List.take_append_of_le_length (Nat.le_refl _),List.take_length,List.flatten_append]
theorem exec_append {o:Oper}{a:Act}{w w':World}(s x:Operand)(t:TypeId)(ho:o.op=.call { callee:=.builtin .append,args:=#[s,x],argTypes:=#[t,t] }){v1 v2 v:Value}(hs:a.eval s=v1)(hx:a.eval x=v2)
  (hr:(Builtin.append_ #[t,t] o.type #[v1,v2]).run P w=.ok v w'):(execOp a.eval o).run P w=.ok (.value v) w':=by
 unfold execOp
 simp only[ho,resolve,invoke,builtin,Sem.run_bind,Sem.run_pure,Result.andThen_ok,List.map_toArray,List.map_cons,List.map_nil,hs,hx,hr]
end
section
variable {ops:Array Oper} {o:Oper} {a:Act} {w:World} {Q:Exit→Act→World→Prop} {K:Act→World→Prop} {E:Prop}
theorem step_append_fit (t e:TypeId)(size bytes:Nat)(z:Value)(ht:Tryz.prog.underlying t=some (.slice e))(hinfo:(Tryz.prog.info? e).map (fun i=>(i.zero,i.size,i.bytes))=some (some z,size,bytes))(hzs:z.cells.size=size)(hby:bytes≤1000)
  (hgd:o.guard=none) (s x:Operand) (ho:o.op=.call { callee:=.builtin .append,args:=#[s,x],argTypes:=#[t,t] })
  {sa sb:Option Addr} {n m c:Nat} {css dss:List (List Value)} (hs:a.eval s=.slice sa n n) (hx:a.eval x=.slice sb m c) (h1:SliceAt w (.slice sa n n) size css) (h2:SliceAt w (.slice sb m c) size dss)
  (l1:∀ c∈css,c.length=size) (l2:∀ c∈dss,c.length=size) (o2:∀ c∈dss,∀ u∈c,u.oneCell'=true) (hm:0 < m) (h63:n+m≤100000)
  (h:∀ cap w',OwnE w' w.heap.size e size (.slice (some ⟨w.heap.size,0,none⟩) (n+m) cap) (css++dss)→Below w.heap.size w w'→K (a.put o.dst (.slice (some ⟨w.heap.size,0,none⟩) (n+m) cap)) w') :
  if Region.wanted o (yielded ops a.tmps)=true then Oper.wp Tryz.prog o a w K Q else E:=by
 have hw:Region.wanted o (yielded ops a.tmps)=true:=by simp[Region.wanted,hgd]
 rw[if_pos hw]
 obtain⟨i,i1,i2,i3,i4⟩:=info_parts hinfo
 obtain⟨cap,w',hrun,r1,r2⟩:=run_append_fit (P:=Tryz.prog) w t o.type e size bytes i z ht i1 i2 i3 i4 hzs h1 h2 l1 l2 o2 hm h63 hby
 unfold Oper.wp
 simp[execOp,ho,resolve,invoke,builtin,hs,hx,hrun,Result.andThen]
 exact h cap w' r1 r2
theorem step_append_any (t e:TypeId)(size bytes:Nat)(z:Value)(ht:Tryz.prog.underlying t=some (.slice e))(hinfo:(Tryz.prog.info? e).map (fun i=>(i.zero,i.size,i.bytes))=some (some z,size,bytes))(hzs:z.cells.size=size)(hby:bytes≤1000)
  (hgd:o.guard=none) (s x:Operand) (ho:o.op=.call { callee:=.builtin .append,args:=#[s,x],argTypes:=#[t,t] })
  {sa sb:Option Addr} {n m c:Nat} {css dss:List (List Value)} (hs:a.eval s=.slice sa n n) (hx:a.eval x=.slice sb m c) (h1:SliceAt w (.slice sa n n) size css) (h2:SliceAt w (.slice sb m c) size dss)
  (l1:∀ c∈css,c.length=size) (l2:∀ c∈dss,c.length=size) (o2:∀ c∈dss,∀ u∈c,u.oneCell'=true) (h63:n+m≤100000)
  (h:∀ sv c' w',SliceAt w' (.slice sv (n+m) c') size (css++dss)→Below w.heap.size w w'→K (a.put o.dst (.slice sv (n+m) c')) w') :
  if Region.wanted o (yielded ops a.tmps)=true then Oper.wp Tryz.prog o a w K Q else E:=by
 have hmm:m=dss.length:=by obtain⟨_,_,e,_⟩:=h2;injection e
 rcases Nat.eq_zero_or_pos m with h0 | h0
 ·have hd:dss=[]:=List.eq_nil_of_length_eq_zero (hmm.symm.trans h0)
  subst hd
  subst h0
  have hw:Region.wanted o (yielded ops a.tmps)=true:=by simp[Region.wanted,hgd]
  rw[if_pos hw]
  obtain⟨i,i1,i2,i3,i4⟩:=info_parts hinfo
  have hsrc:Src Tryz.prog i.size t (.slice sb 0 c) 0 [] w:=by
   cases sb with
   | none=>exact Src.ofNil w (e':=e) ht c
   | some ad=>exact Src.ofSlice w (e':=e) ht ad 0 c [] (by simp) (by simp) (by simp)
  have hr:=run_append_nothing w t t o.type e i ht i1 sa n n (Nat.le_refl _) _ hsrc
  have hop:=exec_append s x t ho hs hx hr
  unfold Oper.wp
  rw[hop]
  refine h sa n w ?_ br0
  rw[List.append_nil]
  exact h1
 ·refine step_append_fit t e size bytes z ht hinfo hzs hby hgd s x ho hs hx h1 h2 l1 l2 o2 h0 h63 fun cap w' r1 r2=>?_
  exact h _ cap w' (OwnE.slice r1 (fun c hc=>by rcases List.mem_append.1 hc with hc | hc;exact l1 c hc;exact l2 c hc)) r2
end
/-! ### Parts of a slice -/
theorem SliceAt.fit {w:World}{a:Option Addr}{n cap size:Nat}{cs:List (List Value)}(h:SliceAt w (.slice a n cap) size cs)(k:Nat)(hk:k≤n):SliceAt w (.slice a k k) size (cs.take k):=by
 obtain⟨a',cap',e,h1,h2,h3⟩:=h
 injection e with e1 e2 e3
 subst e1 e2 e3
 refine⟨a,k,?_,?_,by omega,?_⟩
 ·rw[List.length_take,Nat.min_eq_left hk]
 ·rw[List.length_take,Nat.min_eq_left hk];exact Nat.le_refl _
 ·rcases h3 with h3 | ⟨b,off,ha,hb,hc⟩
  ·left;rw[h3];simp
  ·right
   refine⟨b,off,ha,hb,fun i c hi j u hj=>?_⟩
   rw[List.getElem?_take]at hi
   split at hi
   ·exact hc i c hi j u hj
   ·cases hi
theorem SliceAt.rest {w:World}{b off n cap size:Nat}{cs:List (List Value)}(h:SliceAt w (.slice (some ⟨b,off,none⟩) n cap) size cs)(k:Nat)(hk:k≤n):SliceAt w (.slice (some ⟨b,off+k*size,none⟩) (n - k) (cap - k)) size (cs.drop k):=by
 obtain⟨a',cap',e,h1,h2,h3⟩:=h
 injection e with e1 e2 e3
 subst e1 e2 e3
 refine⟨_,_,by rw[List.length_drop],by rw[List.length_drop];omega,by omega,?_⟩
 rcases h3 with h3 | ⟨b',off',ha,hb,hc⟩
 ·left;rw[h3];simp
 ·right
  injection ha with ha
  injection ha with hb1 ho1
  subst hb1 ho1
  refine⟨_,_,rfl,hb,fun i c hi j u hj=>?_⟩
  rw[List.getElem?_drop]at hi
  have:=hc (k+i) c hi j u hj
  rw[Nat.add_mul,← Nat.add_assoc]at this
  exact this
theorem snocM {α:Type}{l:List α}{k:Nat}{x:α}(h:l[k]?=some x):l.take (k+1)=l.take k++[x]:=by rw[List.take_add_one,h];rfl
def isWho (who:Nat)(v:VoteP):Bool:=decide (v.car=(who:Int))
def ownW (who:Nat)(pool:List VoteP):List VoteP:=(pool.filter (isWho who)).take 10
theorem ownW_snoc {who:Nat}{l:List VoteP}{k:Nat}{x:VoteP}(h:l[k]?=some x):ownW who (l.take (k+1))=ownW who (l.take k)++if isWho who x=true∧(ownW who (l.take k)).length < 10 then[x]else[]:=by
 unfold ownW
 rw[snocM h,List.filter_append,List.take_append,List.length_take]
 cases e:isWho who x with
 | false=>simp[e]
 | true =>
  have:[x].filter (isWho who)=[x]:=by simp[e]
  rw[this]
  by_cases hl:((l.take k).filter (isWho who)).length < 10
  ·rw[if_pos ⟨rfl,by omega⟩,List.take_of_length_le (l:=[x]) (by simp;omega)]
  ·rw[if_neg (by omega)]
   have:10 - ((l.take k).filter (isWho who)).length=0:=by omega
   rw[this,List.take_zero]
theorem ownW_len (who:Nat)(l:List VoteP):(ownW who l).length≤10:=by
 unfold ownW
 rw[List.length_take]
 omega
theorem ownW_mem {who:Nat}{l:List VoteP}{v:VoteP}(h:v∈ownW who l):v∈l∧v.car=(who:Int):=by
 have h:=List.mem_of_mem_take h
 rw[List.mem_filter]at h
 exact⟨h.1,of_decide_eq_true h.2⟩
theorem entsW_snoc (v:VoteP):∀ l:List VoteP,entsW (l++[v])=entsW l++[elseS,encV v]
 | []=>rfl
 | u::l=>by
  show elseS::encV u::entsW (l++[v])=elseS::encV u::(entsW l++[elseS,encV v])
  rw[entsW_snoc v l]
theorem enc_most {v:VoteP}(h:formedV v=true):(encV v).size≤80:=by
 obtain⟨_,_,_,h4,h5⟩:=formed_facts h
 unfold encV
 rw[ByteArray.size_append,voteC_size,h4,h5]
 have a:=grp_len 3 (2*(5:Int).toNat)
 have b:=grp_len 3 (2*v.car.toNat)
 have c:=grp_len 3 (2*v.num.toNat)
 have d:=grp_len 3 (2*v.stp.toNat)
 unfold putN
 omega
theorem else_size:elseS.size=14:=by decide +kernel
theorem entsW_size:∀ l:List VoteP,(∀ v∈l,formedV v=true)→∀ s∈entsW l,s.size≤1000
 | [],_,s,hs=>by cases hs
 | v::l,h,s,hs=>by
  have e:entsW (v::l)=elseS::encV v::entsW l:=rfl
  rw[e]at hs
  rcases List.mem_cons.1 hs with rfl | hs
  ·rw[else_size];decide
  ·rcases List.mem_cons.1 hs with rfl | hs
   ·have:=enc_most (h v List.mem_cons_self)
    omega
   ·exact entsW_size l (fun u hu=>h u (List.mem_cons_of_mem _ hu)) s hs
theorem own_valid {who:Nat}{l:List VoteP}(hw:who≤7)(hf:∀ v∈l,formedV v=true):validB ⟨(who:Int),entsW (ownW who l)⟩=true:=by
 unfold validB
 have h:=ownW_len who l
 exact decide_eq_true ⟨by show(0:Int)≤(who:Int);omega,by show(who:Int)≤7;omega,by show(entsW (ownW who l)).length≤60;rw[entsW_len];omega,entsW_size _ fun v hv=>hf v (ownW_mem hv).1⟩
def bitW (b i:Nat):Bool:=decide (b / 2 ^ i % 2=1)
def isW (b n:Nat):List Nat:=(List.range n).filter (bitW b)
theorem isW_snoc (b n:Nat):isW b (n+1)=isW b n++if bitW b n=true then[n]else[]:=by
 unfold isW
 rw[List.range_succ,List.filter_append]
 cases h:bitW b n <;> simp[h]
theorem isW_asc (b n:Nat):(isW b n).Pairwise (· < ·):=List.Pairwise.filter _ List.pairwise_lt_range
theorem isW_lt {b n i:Nat}(h:i∈isW b n):i < n:=List.mem_range.1 (List.mem_filter.1 h).1
def wantTo (b:Nat)(own:List VoteP)(i:Nat):List VoteP:=(isW b i).filterMap fun i=>own[i]?
theorem want_snoc {b:Nat}{own:List VoteP}{i:Nat}{v:VoteP}(h:own[i]?=some v):wantTo b own (i+1)=wantTo b own i++if bitW b i=true then[v]else[]:=by
 unfold wantTo
 rw[isW_snoc,List.filterMap_append]
 cases e:bitW b i <;> simp[h]
theorem shownW_snoc (b i:Nat):shownW (isW b (i+1))=shownW (isW b i)++if bitW b i=true then[2*i,2*i+1]else[]:=by
 unfold shownW
 rw[isW_snoc,List.flatMap_append]
 cases e:bitW b i <;> simp
theorem want_len (b:Nat)(own:List VoteP)(i:Nat):(wantTo b own i).length≤i:=by
 unfold wantTo
 have h1:=List.length_filterMap_le (fun i=>own[i]?) (isW b i)
 have h2:=List.length_filter_le (bitW b) (List.range i)
 rw[List.length_range]at h2
 unfold isW at *
 omega
theorem shownW_len (b i:Nat):(shownW (isW b i)).length≤2*i:=by
 induction i with
 | zero=>simp[isW,shownW]
 | succ i ih =>
  rw[shownW_snoc,List.length_append]
  split <;> simp <;> omega
def partW (b who:Nat)(pool:List VoteP):PartP:=partS (keyQ who) (who:Int) (entsW (ownW who pool)) (entsW (ownW who pool)).length (shownW (isW b (ownW who pool).length))
def wantW (b who:Nat)(pool:List VoteP):List VoteP:=wantTo b (ownW who pool) (ownW who pool).length
section
variable {m b who:Nat} {pool:List VoteP}
theorem partW_votes (hm:m=1∨m=4∨m=7)(hw:who < m)(hf:∀ v∈pool,formedV v=true):votesIn (madeQ m) (partW b who pool)=wantW b who pool:=by
 have h:=votes_part (ks:=madeQ m) (who:=who) (by rw[madeQ_len];exact hw) (by rw[madeQ_get hw];rfl) (own:=ownW who pool) (fun v hv=>⟨hf v (ownW_mem hv).1,(ownW_mem hv).2⟩) (own_valid (by omega) hf) (isW_asc b _) (fun i hi=>isW_lt hi)
 rw[madeQ_get hw]at h
 exact h
theorem partW_check (hm:m=1∨m=4∨m=7)(hw:who < m)(hf:∀ v∈pool,formedV v=true):checkB (keyQ who) (partW b who pool)=true:=by
 refine part_check rfl (own_valid (by omega) hf) (Nat.le_refl _) (shown_asc _ (isW_asc b _)) ?_
 rw[entsW_len]
 exact shown_lt _ _ fun i hi=>isW_lt hi
theorem partW_car:(partW b who pool).head.car=(who:Int):=rfl
end
theorem meet_two {m b p q:Nat}{pool:List VoteP}(hm:m=1∨m=4∨m=7)(hp:p < m)(hq:q < m)(hf:∀ v∈pool,formedV v=true) :
  meetV (madeQ m) [partW b p pool,partW b q pool]=sortedV (madeQ m) (wantW b p pool++wantW b q pool)
  ∧ meetV (madeQ m) [partW b q pool,partW b p pool,partW b p pool,partW b q pool]=sortedV (madeQ m) (wantW b p pool++wantW b q pool):=by
 have h1:meetV (madeQ m) [partW b p pool,partW b q pool]=sortedV (madeQ m) (wantW b p pool++wantW b q pool):=by
  unfold meetV
  rw[if_pos ⟨madeQ_valid hm,by simp⟩]
  simp only[List.flatMap_cons,List.flatMap_nil,List.append_nil]
  rw[partW_votes hm hp hf,partW_votes hm hq hf]
 refine⟨h1,?_⟩
 rw[← h1]
 refine meet_same (fun z=>?_) (by simp) (by simp)
 simp only[List.mem_cons,List.not_mem_nil,or_false]
 constructor
 ·rintro(h | h | h | h)
  ·exact .inr h
  ·exact .inl h
  ·exact .inl h
  ·exact .inr h
 ·rintro(h | h)
  ·exact .inr (.inl h)
  ·exact .inl h
theorem found_gen {ks:List ByteArray}(hk:validC ks=true){W:List VoteP}{u:VoteP}(h:u∈W):((sortedV ks W).any fun a=>decide (a=u))=genuineV ks u:=by
 rw[Bool.eq_iff_iff,List.any_eq_true]
 unfold genuineV
 rw[hk,Bool.true_and]
 constructor
 ·rintro⟨a,ha,e⟩
  rw[← of_decide_eq_true e]
  exact(sortedV_mem.1 ha).2
 ·intro hg
  exact⟨u,sortedV_mem.2 ⟨h,hg⟩,decide_eq_true rfl⟩
theorem found_want {ks:List ByteArray}{W:List VoteP}{a:VoteP}(h:a∈sortedV ks W):(W.any fun u=>decide (a=u))=true:=List.any_eq_true.2 ⟨a,(sortedV_mem.1 h).1,decide_eq_true rfl⟩
theorem sorted_next {ks:List ByteArray}{W:List VoteP}{k:Nat}{a c:VoteP}(ha:(sortedV ks W)[k]?=some a)(hc:(sortedV ks W)[k+1]?=some c):a≠c:=by
 obtain⟨h1,rfl⟩:=List.getElem?_eq_some_iff.1 ha
 obtain⟨h2,rfl⟩:=List.getElem?_eq_some_iff.1 hc
 have:=List.pairwise_iff_getElem.1 (sortedV_ok ks W) k (k+1) h1 h2 (by omega)
 intro e
 rw[e]at this
 exact ltV_irrefl _ this
def bentW (p:PartP)(x:ItemP)(xs:List ItemP)(s:ByteArray):PartP:=⟨p.head,⟨x.idx,s,x.prf⟩::xs⟩
theorem bent_law {m b p:Nat}{pool:List VoteP}(hm:m=1∨m=4∨m=7)(hp:p < m)(hf:∀ v∈pool,formedV v=true){x:ItemP}{xs:List ItemP}(hx:(partW b p pool).items=x::xs){v:VoteP}{s:ByteArray}
  (hv:v∈meetV (madeQ m) [bentW (partW b p pool) x xs s]) (hn:v ∉ wantW b p pool) :
  checkB (keyQ p) (bentW (partW b p pool) x xs s)=true∧verifyB (partW b p pool).head.root (partW b p pool).head.siz x.idx s x.prf=true∧verifyB (partW b p pool).head.root (partW b p pool).head.siz x.idx x.ent x.prf=true:=by
 have hn2:v ∉ xs.filterMap (itemVote (partW b p pool).head.car):=by
  intro h
  have h2:=partW_votes (b:=b) hm hp hf
  unfold votesIn at h2
  rw[if_pos ⟨⟨by rw[partW_car];omega,by rw[partW_car,madeQ_len];omega⟩,by rw[partW_car,Int.toNat_natCast,madeQ_get hp];exact partW_check hm hp hf⟩,hx]at h2
  refine hn ?_
  rw[← h2,List.filterMap_cons]
  split
  ·exact h
  ·exact List.mem_cons_of_mem _ h
 obtain⟨h1,h2,h3⟩:=meet_bent (h:=(partW b p pool).head) (x:=x) (xs:=xs) hv hn2
 rw[partW_car,Int.toNat_natCast,madeQ_get hp]at h3
 refine⟨h3,h2,?_⟩
 have h4:=partW_check (b:=b) hm hp hf
 unfold checkB at h4
 rw[hx,Bool.and_eq_true]at h4
 have h5:=h4.2
 unfold itemsOk itemOk at h5
 simp only[Bool.and_eq_true]at h5
 exact h5.1.2
theorem SliceAt.grownT {w w':World}{v:Value}{size:Nat}{cs:List (List Value)}{T:TypeId}(h:SliceAt w v size cs)(ht:RowTy w T v){r:Option Nat}(hg:w.grownBy w' r)(hr:∀ k,r=some k→∀ cs fr,w.heap[k]?≠some (.cells cs T fr)):SliceAt w' v size cs∧RowTy w' T v:=by
 have key:∀(a:Addr) (n c:Nat),v=.slice (some a) n c→n=0∨w'.heap[a.block]?=w.heap[a.block]?:=fun a n c e=>by
  rcases ht a n c e with h0 | ⟨cs,fr,h0⟩
  ·exact .inl h0
  ·refine .inr (hg.block _ (ltA h0) (fun e'=>?_))
   exact hr _ e'.symm cs fr h0
 refine⟨?_,fun a n c e=>?_⟩
 ·obtain⟨a,cap,hv,h1,h2,h3⟩:=h
  refine⟨a,cap,hv,h1,h2,?_⟩
  rcases h3 with h3 | ⟨b,off,rfl,hb,hc⟩
  ·exact .inl h3
  ·rcases key _ _ _ hv with h0 | h0
   ·exact .inl (List.eq_nil_of_length_eq_zero h0)
   ·refine .inr ⟨b,off,rfl,Nat.lt_of_lt_of_le hb hg.size,fun i c hi j u hj=>?_⟩
    have:=hc i c hi j u hj
    rw[← this]
    simp[World.cell?,h0]
 ·rcases key a n c e with h0 | h0
  ·exact .inl h0
  ·rcases ht a n c e with h1 | ⟨cs,fr,h1⟩
   ·exact .inl h1
   ·exact .inr ⟨cs,fr,h0.trans h1⟩
theorem IT.grownT {w w':World}{v:Value}{its:List ItemP}(h:IT w v its){b:Nat}{cs:Array Value}{T:TypeId}{fr:Nat × Nat}(hb:w.heap[b]?=some (.cells cs T fr))(h1:T≠98)(h2:T≠9)(hg:w.grownBy w' (some b)):IT w' v its:=by
 obtain⟨ys,hys,hi⟩:=h
 have n1:∀ U,T≠U→∀ k,some b=some k→∀ cs fr,w.heap[k]?≠some (.cells cs U fr):=fun U hU k e cs' fr' e'=>by
  cases e
  rw[hb]at e'
  cases e'
  exact hU rfl
 obtain⟨a1,a2⟩:=SliceAt.grownT hi.is.1 hi.ty hg (n1 _ h1)
 have hp:=fun y hy=>SliceAt.grownT (hi.is.2 y hy) (hi.tp y hy) hg (n1 _ h2)
 exact⟨ys,hys,⟨a1,fun y hy=>(hp y hy).1⟩,a2,fun y hy=>(hp y hy).2⟩
end Go.Proofs.YtggdcnjaofflbaaGreatDoor
