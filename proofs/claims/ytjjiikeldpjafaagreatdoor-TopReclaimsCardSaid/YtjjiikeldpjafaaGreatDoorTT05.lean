/- Owned slices of strings and of integers; the walk of digest.Root. The conditions: what the slice reads as, lengths, the table of constants. -/
import Derived.OwnWalk
import Derived.Test.YtjjiikeldpjafaaGreatDoorTT04
namespace Go.Proofs.YtjjiikeldpjafaaGreatDoor
open Go.RowKit Go.BigFrame Go.Shelf
attribute [local go_sem] Oper.semAt_some
def OwnE (w:World)(base:Nat)(e:TypeId)(size:Nat)(v:Value)(css:List (List Value)):Prop:=w.ownsRow base e size v css.length css.flatten
section
variable {P:Program} {ops:Array Oper} {rest:List Oper} {o:Oper} {a:Act} {w:World} {Q:Exit→Act→World→Prop}
theorem wpList_append_el (t e:TypeId)(size bytes:Nat)(z:Value)(ht:P.underlying t=some (.slice e))(hinfo:(P.info? e).map (fun i=>(i.zero,i.size,i.bytes))=some (some z,size,bytes))(hzs:z.cells.size=size)(hsz:0 < size)
  (hgd:o.guard=none) (s x:Operand) (ho:o.op=.call { callee:=.builtin .append,args:=#[s,x],argTypes:=#[t,t] })
  (base:Nat) (v:Value) (css:List (List Value)) (hs:a.eval s=v) (hown:OwnE w base e size v css) (b:Nat) (c:List Value) (hc:c.length=size) (hone:∀ u∈c,u.oneCell'=true) (hx:a.eval x=.slice (some ⟨b,0,none⟩) 1 1) (fr:Nat × Nat)
  (hb:w.heap[b]?=some (.cells c.toArray e fr)) (h63:css.length+1≤maxLen) (hbytes:(css.length+1)*bytes≤140737488355328) (hbase:base≤w.heap.size)
  (h:∀ v' w',OwnE w' base e size v' (css++[c])→w.grownBy w' v.ownBlock→wpList P ops Q rest (a.put o.dst v') w'):wpList P ops Q (o::rest) a w:=by
 obtain⟨i,i1,i2,i3,i4⟩:=info_parts hinfo
 refine wpList_append_own w hgd s x t ho base e i z size bytes ht i1 i2 i3 i4 hzs hsz v _ _ hs hown ⟨b,0,none⟩ 1 1 c hx (by omega) ?_ hone h63 hbytes hbase ?_
 ·intro j u hj
  rw[Addr.add_mid,cell_of_row w _ (0+j) _ _ _ hb,Nat.zero_add,List.getElem?_toArray]
  exact hj
 ·intro v' w' h1 h2 _
  refine h v' w' ?_ h2
  unfold OwnE
  rw[List.length_append,List.flatten_append]
  simpa using h1
end
theorem OwnE.nil (w:World)(base:Nat)(e:TypeId)(size:Nat):OwnE w base e size (.slice none 0 0) []:=⟨by simp,.inl ⟨rfl,rfl⟩⟩
theorem OwnE.far {w w':World}{base base':Nat}{e:TypeId}{size:Nat}{v:Value}{css:List (List Value)}(h:OwnE w base e size v css)(hb:Below base' w w')(hbb:w.heap.size≤base'):OwnE w' base e size v css :=
 owns_any h ⟨hb.os,hb.tape,hb.output,hb.size,fun i hi _=>hb.block i (by omega)⟩
theorem OwnE.alloc {w:World}{base:Nat}{e:TypeId}{size:Nat}{v:Value}{css:List (List Value)}(h:OwnE w base e size v css)(o:Obj):OwnE (w.alloc o) base e size v css :=
 owns_any h (World.grownBy_alloc _ _ _)
theorem OwnE.drewN {w:World}{base:Nat}{e:TypeId}{size:Nat}{v:Value}{css:List (List Value)}(h:OwnE w base e size v css)(n:Nat):OwnE (w.drewN n) base e size v css :=
 owns_any h (grown_drewN (grown_refl _ _) n)
theorem OwnE.ge {w:World}{base:Nat}{e:TypeId}{size:Nat}{v:Value}{css:List (List Value)}(ho:OwnE w base e size v css):∀ j,v.ownBlock=some j→base≤j:=by
 intro j hj
 rcases ho.2 with⟨rfl,_⟩ | ⟨g,cap,cur,rfl,hbg,_⟩
 ·simp[Value.ownBlock]at hj
 ·have:j=g:=by simpa [Value.ownBlock]using hj.symm
  omega
theorem below_own {base:Nat}{w w1 w2:World}{e:TypeId}{size:Nat}{v:Value}{css:List (List Value)}(h:Below w.heap.size w w1)(ho:OwnE w1 base e size v css)(hg:w1.grownBy w2 v.ownBlock)(hB:w.heap.size≤base):Below w.heap.size w w2 :=
 h.grown hg h.size (fun j e=>Nat.le_trans hB (ho.ge j e))
theorem OwnE.other {w w':World}{base base':Nat}{e e':TypeId}{size size':Nat}{v v':Value}{css css':List (List Value)}(h:OwnE w base e size v css)(h':OwnE w base' e' size' v' css')(hne:e≠e')(hg:w.grownBy w' v.ownBlock):OwnE w' base' e' size' v' css':=by
 refine World.ownsRow.kept h' hg ?_
 rcases h'.2 with⟨rfl,_⟩ | ⟨g,cap,cur,rfl,_,hgg,_⟩
 ·exact .inl rfl
 ·refine .inr (fun e1=>?_)
  exact absurd e1 (own_ne h hgg (fun c hc=>by injection hc with _ h2 _;exact hne h2.symm))
theorem OwnE.slice {w:World}{base:Nat}{e:TypeId}{size:Nat}{v:Value}{css:List (List Value)}(h:OwnE w base e size v css)(hs:∀ c∈css,c.length=size):SliceAt w v size css:=SliceAt.of_owns (base:=base) (e:=e) h hs
theorem OwnE.form {w:World}{base:Nat}{e:TypeId}{size:Nat}{v:Value}{css:List (List Value)}(h:OwnE w base e size v css):∃ a cap,v=.slice a css.length cap:=by
 rcases h.2 with⟨rfl,h0⟩ | ⟨g,cap,cur,rfl,_⟩
 ·exact⟨none,0,by rw[h0]⟩
 ·exact⟨_,_,rfl⟩
theorem OwnE.cut {w:World}{base:Nat}{e:TypeId}{size:Nat}{a:Option Addr}{n cap:Nat}{css:List (List Value)}(h:OwnE w base e size (.slice a n cap) css)(hs:∀ c∈css,c.length=size)(k:Nat)(hk:k≤n)(hn:0 < n):OwnE w base e size (.slice a k cap) (css.take k):=by
 have hflat:∀(l:List (List Value)) (k:Nat),(∀ c∈l,c.length=size)→k≤l.length→(l.take k).flatten=l.flatten.take (k*size):=by
  intro l
  induction l with
  | nil=>intro k _ hk;simp at hk;subst hk;simp
  | cons c l ih =>
   intro k hl hk
   cases k with
   | zero=>simp
   | succ k =>
    have hc:=hl c (by simp)
    rw[List.take_succ_cons,List.flatten_cons,List.flatten_cons,ih k (fun c hc=>hl c (by simp[hc])) (by simpa using hk),Nat.succ_mul,Nat.add_comm,← hc,List.take_length_add_append]
 obtain⟨hl,h2⟩:=h
 rcases h2 with⟨hv,h0⟩ | ⟨g,cap',cur,hv,hb,hg,hnc,hcm,hcs,htake⟩
 ·injection hv with _ h3 _
  omega
 ·injection hv with e1 e2 e3
  subst e1 e3
  have hkl:k≤css.length:=by omega
  have hlen:(css.take k).length=k:=by rw[List.length_take];omega
  unfold OwnE World.ownsRow
  rw[hlen,hflat css k hs hkl]
  refine⟨?_,.inr ⟨g,cap,cur,rfl,hb,hg,by omega,hcm,hcs,?_⟩⟩
  ·rw[List.length_take,hl]
   exact Nat.min_eq_left (Nat.mul_le_mul_right _ hkl)
  ·rw[← htake,List.take_take,Nat.min_eq_left (Nat.mul_le_mul_right _ hkl)]
theorem scells_one (xs:List ByteArray):∀ c∈scells xs,c.length=1:=by
 intro c hc
 unfold scells at hc
 rw[List.mem_map]at hc
 obtain⟨x,_,rfl⟩:=hc
 rfl
theorem icells_one (xs:List Int):∀ c∈icells xs,c.length=1:=by
 intro c hc
 unfold icells at hc
 rw[List.mem_map]at hc
 obtain⟨x,_,rfl⟩:=hc
 rfl
theorem infoStr:(Tryz.prog.info? 9).map (fun i=>(i.zero,i.size,i.bytes))=some (some (.string ⟨#[]⟩),1,16):=by kernel_rfl
theorem infoInt:(Tryz.prog.info? 3).map (fun i=>(i.zero,i.size,i.bytes))=some (some (.int .i64 0),1,8):=by kernel_rfl
def OwnS (w:World)(base:Nat)(v:Value)(xs:List ByteArray):Prop:=OwnE w base 9 1 v (scells xs)
def OwnI (w:World)(base:Nat)(v:Value)(xs:List Int):Prop:=OwnE w base 3 1 v (icells xs)
section
variable {ops:Array Oper} {rest:List Oper} {o:Oper} {a:Act} {w:World} {Q:Exit→Act→World→Prop}
theorem wpList_append_str (s x:Operand)(base:Nat)(v:Value)(xs:List ByteArray)(b:Nat)(y:ByteArray)(fr:Nat × Nat)(hown:OwnS w base v xs)(hlen:xs.length≤100000)(hbase:base≤w.heap.size)
  (hb:w.heap[b]?=some (.cells #[.string y] 9 fr)) (hgd:o.guard=none) (ho:o.op=.call { callee:=.builtin .append,args:=#[s,x],argTypes:=#[47,47] }) (hs:a.eval s=v) (hx:a.eval x=.slice (some ⟨b,0,none⟩) 1 1)
  (h:∀ v' w',OwnS w' base v' (xs++[y])→w.grownBy w' v.ownBlock→wpList Tryz.prog ops Q rest (a.put o.dst v') w'):wpList Tryz.prog ops Q (o::rest) a w :=
 wpList_append_el 47 9 1 16 _ (by kernel_rfl) infoStr rfl (by decide) hgd s x ho base v (scells xs) hs hown b [.string y] rfl (fun u hu=>by rw[List.mem_singleton]at hu;subst hu;rfl) hx fr hb
  (by unfold scells;rw[List.length_map];unfold maxLen;omega) (by unfold scells;rw[List.length_map];omega) hbase fun v' w' h1 h2=>h v' w' (by unfold OwnS scells;rw[List.map_append];exact h1) h2
theorem wpList_append_int (s x:Operand)(base:Nat)(v:Value)(xs:List Int)(b:Nat)(y:Int)(fr:Nat × Nat)(hown:OwnI w base v xs)(hlen:xs.length≤100000)(hbase:base≤w.heap.size)
  (hb:w.heap[b]?=some (.cells #[.int .i64 y] 3 fr)) (hgd:o.guard=none) (ho:o.op=.call { callee:=.builtin .append,args:=#[s,x],argTypes:=#[60,60] }) (hs:a.eval s=v) (hx:a.eval x=.slice (some ⟨b,0,none⟩) 1 1)
  (h:∀ v' w',OwnI w' base v' (xs++[y])→w.grownBy w' v.ownBlock→wpList Tryz.prog ops Q rest (a.put o.dst v') w'):wpList Tryz.prog ops Q (o::rest) a w :=
 wpList_append_el 60 3 1 8 _ (by kernel_rfl) infoInt rfl (by decide) hgd s x ho base v (icells xs) hs hown b [.int .i64 y] rfl (fun u hu=>by rw[List.mem_singleton]at hu;subst hu;rfl) hx fr hb
  (by unfold icells;rw[List.length_map];unfold maxLen;omega) (by unfold icells;rw[List.length_map];omega) hbase fun v' w' h1 h2=>h v' w' (by unfold OwnI icells;rw[List.map_append];exact h1) h2
end
theorem OwnS.ss {w:World}{base:Nat}{v:Value}{xs:List ByteArray}(h:OwnS w base v xs):SS w v xs:=OwnE.slice h (scells_one xs)
theorem OwnI.is {w:World}{base:Nat}{v:Value}{xs:List Int}(h:OwnI w base v xs):SliceAt w v 1 (icells xs):=OwnE.slice h (icells_one xs)
end Go.Proofs.YtjjiikeldpjafaaGreatDoor
/- The walk of digest.Root. The conditions: what the slice reads as, lengths, the table of constants. -/
namespace Go.Proofs.YtjjiikeldpjafaaGreatDoor
open Go.RowKit Go.BigFrame Go.Shelf
attribute [local go_sem] Oper.semAt_some
def rootB (l:List ByteArray):ByteArray:=rootL leafS nodeS (sumS ⟨#[]⟩) l
theorem rootB_size (l:List ByteArray):(rootB l).size=32:=by
 unfold rootB rootL
 cases l.length with
 | zero=>exact sumS_size _
 | succ n =>
  unfold rootF
  split
  ·exact sumS_size _
  ·exact leafS_size _
  ·exact nodeS_size _ _
def Stack (l:List ByteArray)(k:Nat)(ks:List Nat)(ps:List (List ByteArray)):Prop:=Parts ks ps∧Falls ks∧ps.flatten=l.take k
def StackW (l:List ByteArray)(k:Nat)(ks:List Nat)(ps:List (List ByteArray))(kk:Nat)(p:List ByteArray):Prop:=Parts ks ps∧p.length=2 ^ kk∧Almost ks kk∧ps.flatten++p=l.take k
theorem Stack.start (l:List ByteArray):Stack l 0 [] []:=⟨.nil,trivial,by simp⟩
theorem Stack.push {l:List ByteArray}{k:Nat}{ks:List Nat}{ps:List (List ByteArray)}(h:Stack l k ks ps)(s:ByteArray)(hs:l[k]?=some s):StackW l (k+1) ks ps 0 [s] :=
 ⟨h.1,rfl,almost_zero h.2.1,by rw[h.2.2,List.take_add_one,hs];rfl⟩
theorem StackW.done {l:List ByteArray}{k:Nat}{ks:List Nat}{ps:List (List ByteArray)}{kk:Nat}{p:List ByteArray}(h:StackW l k ks ps kk p)(hne:∀ ks' m,ks=ks'++[m]→m≠kk):Stack l k (ks++[kk]) (ps++[p]) :=
 ⟨h.1.snoc kk p h.2.1,almost_done h.2.2.1 hne,by rw[List.flatten_append,← h.2.2.2];simp⟩
theorem StackW.merge {l:List ByteArray}{k:Nat}{ks:List Nat}{ps:List (List ByteArray)}{kk:Nat}{p:List ByteArray}(h:StackW l k (ks++[kk]) ps kk p):∃ ps' q,ps=ps'++[q]∧StackW l k ks ps' (kk+1) (q++p)∧rootB (q++p)=nodeS (rootB q) (rootB p):=by
 obtain⟨h1,h2,h3,h4⟩:=h
 obtain⟨ps',q,rfl,h5,h6⟩:=h1.unsnoc kk
 refine⟨ps',q,rfl,⟨h5,?_,almost_merge h3,?_⟩,?_⟩
 ·rw[List.length_append,h6,h2,Nat.pow_succ];omega
 ·rw[← h4,List.flatten_append];simp
 ·have:=Nat.two_pow_pos kk
  exact rootL_join leafS nodeS (sumS ⟨#[]⟩) q p kk h6 (by omega) (by omega)
theorem Stack.len {l:List ByteArray}{k:Nat}{ks:List Nat}{ps:List (List ByteArray)}(h:Stack l k ks ps):ks.length=ps.length∧ps.length≤l.length:=by
 refine⟨h.1.len,?_⟩
 have h1:∀ {ks:List Nat} {ps:List (List ByteArray)},Parts ks ps→ps.length≤ps.flatten.length:=by
  intro ks ps hp
  induction hp with
  | nil=>simp
  | @cons k p ks ps h1 h2 ih =>
   have:=Nat.two_pow_pos k
   simp only[List.length_cons,List.flatten_cons,List.length_append]
   omega
 have h2:=h1 h.1
 rw[h.2.2,List.length_take]at h2
 omega
theorem StackW.bound {l:List ByteArray}{k:Nat}{ks:List Nat}{ps:List (List ByteArray)}{kk:Nat}{p:List ByteArray}(h:StackW l k ks ps kk p):ks.length=ps.length∧2 ^ kk≤l.length∧ps.length≤l.length:=by
 have h1:∀ {ks:List Nat} {ps:List (List ByteArray)},Parts ks ps→ps.length≤ps.flatten.length:=by
  intro ks ps hp
  induction hp with
  | nil=>simp
  | @cons k p ks ps h1 h2 ih =>
   have:=Nat.two_pow_pos k
   simp only[List.length_cons,List.flatten_cons,List.length_append]
   omega
 have h2:=h1 h.1
 have h3:=congrArg List.length h.2.2.2
 rw[List.length_append,List.length_take,h.2.1]at h3
 have h4:=Nat.two_pow_pos kk
 generalize 2 ^ kk=z at *
 exact⟨h.1.len,by omega,by omega⟩
def wholeL (ps:List (List ByteArray)):List ByteArray:=ps.map rootB
def sizesL (ks:List Nat):List Int:=ks.map fun k=>((2 ^ k:Nat):Int)
def RootAt (w W:World)(vw vs:Value)(ws:List ByteArray)(ss:List Int):Prop:=OwnS W w.heap.size vw ws∧OwnI W w.heap.size vs ss∧Below w.heap.size w W
theorem RootAt.far {w W W':World}{vw vs:Value}{ws:List ByteArray}{ss:List Int}(h:RootAt w W vw vs ws ss)(hb:Below W.heap.size W W'):RootAt w W' vw vs ws ss :=
 ⟨h.1.far hb (Nat.le_refl _),h.2.1.far hb (Nat.le_refl _),h.2.2.trans (hb.mono h.2.2.size)⟩
theorem RootAt.alloc {w W:World}{vw vs:Value}{ws:List ByteArray}{ss:List Int}(h:RootAt w W vw vs ws ss)(o:Obj):RootAt w (W.alloc o) vw vs ws ss:=h.far (br0.alloc (Nat.le_refl _) _)
theorem RootAt.drew {w W:World}{vw vs:Value}{ws:List ByteArray}{ss:List Int}(h:RootAt w W vw vs ws ss)(n:Nat):RootAt w (W.drewN n) vw vs ws ss:=h.far (below_drewN br0 n)
theorem RootAt.putS {w W W':World}{vw vs vw' vc:Value}{ws ws' wc:List ByteArray}{ss:List Int}(h:RootAt w W vw vs ws ss)(hc:OwnS W w.heap.size vc wc)(ho:OwnS W' w.heap.size vw' ws')(hg:W.grownBy W' vc.ownBlock):RootAt w W' vw' vs ws' ss :=
 ⟨ho,OwnE.other hc h.2.1 (by decide) hg,below_own h.2.2 hc hg (Nat.le_refl _)⟩
theorem RootAt.putI {w W W':World}{vw vs vs' vc:Value}{ws:List ByteArray}{ss ss' sc:List Int}(h:RootAt w W vw vs ws ss)(hc:OwnI W w.heap.size vc sc)(ho:OwnI W' w.heap.size vs' ss')(hg:W.grownBy W' vc.ownBlock):RootAt w W' vw vs' ws ss' :=
 ⟨OwnE.other hc h.1 (by decide) hg,ho,below_own h.2.2 hc hg (Nat.le_refl _)⟩
theorem RootAt.slices {w W:World}{vw vs:Value}{ws:List ByteArray}{ss:List Int}(h:RootAt w W vw vs ws ss):(∃ a cap,vw=.slice a ws.length cap)∧∃ a cap,vs=.slice a ss.length cap:=by
 obtain⟨a,cap,h1⟩:=h.1.form
 obtain⟨b,cap',h2⟩:=h.2.1.form
 unfold scells at h1
 unfold icells at h2
 rw[List.length_map]at h1 h2
 exact⟨⟨a,cap,h1⟩,⟨b,cap',h2⟩⟩
theorem foldS_foldr (ini:List ByteArray)(last:ByteArray):foldS nodeS (sumS ⟨#[]⟩) (ini++[last])=ini.reverse.foldl (fun out r=>nodeS r out) last:=by
 rw[List.foldl_reverse]
 induction ini with
 | nil=>rfl
 | cons r ini ih =>
  have e:∀(t:List ByteArray),t≠[]→foldS nodeS (sumS ⟨#[]⟩) (r::t)=nodeS r (foldS nodeS (sumS ⟨#[]⟩) t):=by
   intro t ht
   cases t with
   | nil=>exact absurd rfl ht
   | cons a t=>rfl
  rw[List.cons_append,e _ (by simp),ih]
  rfl
def backF (last:ByteArray)(xs:List DgS):ByteArray:=xs.foldl (fun out x=>nodeS x.1.2 out) last
theorem backF_snoc (last:ByteArray)(xs:List DgS)(x:DgS):backF last (xs++[x])=nodeS x.1.2 (backF last xs):=by simp[backF]
theorem backF_size (last:ByteArray)(h:last.size=32)(xs:List DgS):(backF last xs).size=32:=by
 rcases List.eq_nil_or_concat xs with rfl | ⟨ys,y,rfl⟩
 ·exact h
 ·rw[List.concat_eq_append,backF_snoc];exact nodeS_size _ _
theorem backF_all (last:ByteArray)(xs:List DgS)(ini:List ByteArray)(h:xs.map (fun x=>x.1.2)=ini.reverse):backF last xs=ini.reverse.foldl (fun out r=>nodeS r out) last:=by
 rw[← h,List.foldl_map];rfl
theorem scells_flat (xs:List ByteArray):(scells xs).flatten=xs.map Value.string:=by
 unfold scells
 induction xs with
 | nil=>rfl
 | cons x xs ih=>rw[List.map_cons,List.flatten_cons,ih,List.map_cons];rfl
theorem OwnS.block {w:World}{base:Nat}{a:Option Addr}{n cap:Nat}{xs:List ByteArray}(h:OwnS w base (.slice a n cap) xs)(hn:0 < n):∃ g o,a=some ⟨g,0,none⟩∧w.heap[g]?=some o∧base≤g∧n≤cap∧cap≤maxLen∧∀ W:World,W.heap[g]?=some o→∀ k s,xs[k]?=some s→W.cell? ⟨g,k,none⟩=some (.string s):=by
 rcases h.2 with⟨hv,h0⟩ | ⟨g,cap',cur,hv,hb,hg,hnc,hcm,hcs,htake⟩
 ·injection hv with _ h3 _
  omega
 ·injection hv with e1 e2 e3
  subst e1 e3
  refine⟨g,_,rfl,hg,hb,by omega,hcm,fun W hW k s hk=>?_⟩
  rw[cell_of_row W g k _ _ _ hW]
  have h1:(scells xs).flatten[k]?=some (.string s):=by
   rw[scells_flat,List.getElem?_map,hk];rfl
  rw[← htake,List.getElem?_take]at h1
  split at h1
  ·simpa using h1
  ·cases h1
theorem OwnS.at {w:World}{base:Nat}{a:Option Addr}{n cap:Nat}{xs:List ByteArray}(h:OwnS w base (.slice a n cap) xs)(hn:0 < n):∃ g,a=some ⟨g,0,none⟩∧g < w.heap.size∧base≤g∧xs.length=n∧n≤cap∧cap≤maxLen∧∀ k s,xs[k]?=some s→w.cell? ⟨g,k,none⟩=some (.string s):=by
 have hs:=h.ss
 rcases h.2 with⟨hv,h0⟩ | ⟨g,cap',cur,hv,hb,hg,hnc,hcm,hcs,htake⟩
 ·injection hv with _ h3 _
  omega
 ·injection hv with e1 e2 e3
  subst e1 e3
  have hl:xs.length=n:=by rw[e2];unfold scells;rw[List.length_map]
  refine⟨g,rfl,(ltA hg),hb,hl,by omega,hcm,fun k s hk=>?_⟩
  obtain⟨a',cap'',hv',_,_,h4⟩:=hs.opened
  injection hv' with e4 e5 e6
  subst e4
  obtain⟨b,off,e,_,hc⟩:=h4 k s hk
  cases e
  simpa using hc
theorem OwnI.at {w:World}{base:Nat}{a:Option Addr}{n cap:Nat}{xs:List Int}(h:OwnI w base (.slice a n cap) xs)(hn:0 < n):∃ g,a=some ⟨g,0,none⟩∧g < w.heap.size∧base≤g∧xs.length=n∧n≤cap∧cap≤maxLen∧∀ k s,xs[k]?=some s→w.cell? ⟨g,k,none⟩=some (.int .i64 s):=by
 have hs:=h.is
 rcases h.2 with⟨hv,h0⟩ | ⟨g,cap',cur,hv,hb,hg,hnc,hcm,hcs,htake⟩
 ·injection hv with _ h3 _
  omega
 ·injection hv with e1 e2 e3
  subst e1 e3
  have hl:xs.length=n:=by rw[e2];unfold icells;rw[List.length_map]
  refine⟨g,rfl,(ltA hg),hb,hl,by omega,hcm,fun k s hk=>?_⟩
  obtain⟨a',cap'',hv',_,_,h4⟩:=hs.icell
  injection hv' with e4 e5 e6
  subst e4
  obtain⟨b,off,e,_,hc⟩:=h4 k s hk
  cases e
  simpa using hc
theorem RootAt.forms {w W:World}{vw vs:Value}{ws:List ByteArray}{ss:List Int}(h:RootAt w W vw vs ws ss)(m:Nat)(h1:ws.length=m)(h2:ss.length=m):∃ a cap a' cap',vw=.slice a m cap∧vs=.slice a' m cap':=by
 obtain⟨⟨a,cap,e1⟩,⟨b,cap',e2⟩⟩:=h.slices
 exact⟨a,cap,b,cap',by rw[e1,h1],by rw[e2,h2]⟩
def InStack (xs:List ByteArray)(k m:Nat)(ws:List ByteArray)(ss:List Int):Prop:=∃ ks ps kk p,StackW xs k ks ps kk p∧ws=wholeL (ps++[p])∧ss=sizesL (ks++[kk])∧m=ks.length+1
theorem InStack.len {xs:List ByteArray}{k m:Nat}{ws:List ByteArray}{ss:List Int}(h:InStack xs k m ws ss):ws.length=m∧ss.length=m∧m≤xs.length+1∧1≤m:=by
 obtain⟨ks,ps,kk,p,h1,rfl,rfl,rfl⟩:=h
 obtain⟨h2,_,h3⟩:=h1.bound
 have e1:(wholeL (ps++[p])).length=ps.length+1:=by simp[wholeL]
 have e2:(sizesL (ks++[kk])).length=ks.length+1:=by simp[sizesL]
 rw[e1,e2]
 omega
theorem InStack.one {xs:List ByteArray}{k:Nat}{ws:List ByteArray}{ss:List Int}(h:InStack xs k 1 ws ss):∃ ks ps,Stack xs k ks ps∧ws=wholeL ps∧ss=sizesL ks:=by
 obtain⟨ks,ps,kk,p,h1,rfl,rfl,h2⟩:=h
 obtain rfl:ks=[]:=List.eq_nil_of_length_eq_zero (by omega)
 exact⟨_,_,h1.done (fun ks' m e=>by simp at e),rfl,rfl⟩
theorem InStack.two {xs:List ByteArray}{k m:Nat}{ws:List ByteArray}{ss:List Int}(h:InStack xs k (m+2) ws ss):∃(y z:ByteArray) (i j:Nat),ws[m]?=some y∧ws[m+1]?=some z∧ss[m]?=some ((2 ^ i:Nat):Int)∧ss[m+1]?=some ((2 ^ j:Nat):Int)∧y.size=32∧z.size=32∧2 ^ i≤xs.length∧2 ^ j≤xs.length ∧
  (i≠j→∃ ks ps,Stack xs k ks ps∧ws=wholeL ps∧ss=sizesL ks)∧(i=j→InStack xs k (m+1) (ws.take m++[nodeS y z]) (ss.take m++[((2*2 ^ j:Nat):Int)])):=by
 obtain⟨ks,ps,kk,p,h1,rfl,rfl,h2⟩:=h
 rcases List.eq_nil_or_concat ks with rfl | ⟨ks',i,rfl⟩
 ·simp at h2
 rw[List.concat_eq_append]at *
 obtain⟨ps',q,rfl,h5,h6⟩:=h1.1.unsnoc i
 have hm:ks'.length=m:=by simp at h2;omega
 have hm2:ps'.length=m:=by rw[← h5.len];exact hm
 have hb:=h1.bound
 have hq:2 ^ i≤xs.length:=by
  have h3:=congrArg List.length h1.2.2.2
  rw[List.length_append,List.length_take,List.flatten_append,List.length_append]at h3
  simp[h6]at h3
  have:=Nat.two_pow_pos i
  generalize 2 ^ i=z at *
  omega
 have ew:wholeL (ps'++[q]++[p])=wholeL ps'++[rootB q,rootB p]:=by simp[wholeL]
 have es:sizesL (ks'++[i]++[kk])=sizesL ks'++[((2 ^ i:Nat):Int),((2 ^ kk:Nat):Int)]:=by simp[sizesL]
 have lw:(wholeL ps').length=m:=by unfold wholeL;rw[List.length_map];exact hm2
 have ls:(sizesL ks').length=m:=by unfold sizesL;rw[List.length_map];exact hm
 rw[ew,es]
 refine⟨rootB q,rootB p,i,kk,?_,?_,?_,?_,rootB_size _,rootB_size _,hq,hb.2.1,?_,?_⟩
 ·rw[List.getElem?_append_right (by omega),lw,Nat.sub_self];rfl
 ·rw[List.getElem?_append_right (by omega),lw,show m+1 - m=1 by omega];rfl
 ·rw[List.getElem?_append_right (by omega),ls,Nat.sub_self];rfl
 ·rw[List.getElem?_append_right (by omega),ls,show m+1 - m=1 by omega];rfl
 ·intro hne
  refine⟨_,_,h1.done (fun ks'' m' e=>?_),by rw[← ew],by rw[← es]⟩
  have:=List.append_inj_right' e rfl
  simp at this
  omega
 ·intro he
  subst he
  obtain⟨ps'',q',e1,h7,h8⟩:=h1.merge
  obtain⟨rfl,e2⟩:=List.append_inj' e1 rfl
  simp at e2
  subst e2
  refine⟨ks',ps',i+1,q++p,h7,?_,?_,by omega⟩
  ·rw[← lw,List.take_left,← h8];simp[wholeL]
  ·rw[← ls,List.take_left]
   simp only[sizesL,List.map_append,List.map_cons,List.map_nil,Nat.pow_succ]
   rw[Nat.mul_comm]
set_option maxHeartbeats 4000000 in
set_option maxRecDepth 100000 in
theorem root_any {w:World}{v:Value}{xs:List ByteArray}(hr:SS w v xs)(hl:xs.length≤1000)(hx:∀ x∈xs,x.size≤100000)(he:Env w)(hg:0 < w.heap.size) :
  Calls Tryz.prog 120 #[v] w fun e w'=>e=.returned (.string (rootB xs))∧Below w.heap.size w w':=by
 obtain⟨a,cap,rfl,l1,l2,l3⟩:=hr.opened
 have H3:=zh l3
 have HX:=zh hx
 have HE:=zh he
 have HG:=zh hg
 clear l3 hr hx he hg
 unfold maxLen at l2
 obtain⟨n,hn⟩:∃ n,n=xs.length:=⟨_,rfl⟩
 rw[← hn]at l1 hl ⊢
 have HN:=zh hn
 clear hn
 obtain⟨RR,hRR0⟩:∃ RR,RR=rootB xs:=⟨_,rfl⟩
 rw[← hRR0]
 have HRR0:=zh hRR0
 clear hRR0
 refine calls_of_callsIn (n:=8) Wide.wide (callsIn_of_wp_marks Tryz.func120 rfl trivial ?_)
 simp only[Tryz.ntmps120,List.size_toArray,List.length_cons,List.length_nil,Nat.reduceAdd,Nat.reduceSub,Array.replicate_succ,Array.replicate_zero,List.push_toArray,List.append_toArray,List.nil_append,List.cons_append]
 refine wpIn_wide.2 ?_
 go_wp2
 go_loopw [3,4,6,7,13] (fun vw vs _ _ i wr=>∃(k:Nat) (ws:List ByteArray) (ss:List Int),k≤n∧i=.int .i64 k∧Hid (∃ ks ps,Stack xs k ks ps∧ws=wholeL ps∧ss=sizesL ks)∧Hid (RootAt w wr vw vs ws ss)) (fun _ _ _ _ i wr=>n - (intOf i).toNat)
 case atStart=>exact⟨0,[],[],by omega,rfl,zh ⟨[],[],Stack.start xs,rfl,rfl⟩,zh ⟨OwnE.nil _ _ _ _,OwnE.nil _ _ _ _,Below.refl _ _⟩⟩
 case round =>
  obtain⟨k,ws,ss,hk,rfl,hst,hR⟩:=hrel
  obtain⟨⟨aw,cw,hvw⟩,⟨az,cz,hvs⟩⟩:=hR.out.slices
  subst hvw hvs
  by_cases hlt:k < n
  ·obtain⟨q,eq⟩:∃ q,xs[k]?=some q:=⟨_,List.getElem?_eq_getElem (by rw[← HN.out];exact hlt)⟩
   obtain⟨b,off,rfl,hb,c1⟩:=H3.out k q eq
   have d1:=cell_keepB hR.out.2.2 hb c1
   have hq:=HX.out q (List.mem_of_getElem? eq)
   have EQ:=zh eq
   have HLf:=zh (leaf_any q wr (by omega) (HE.out.below hR.out.2.2 HG.out) (Nat.lt_of_lt_of_le HG.out hR.out.2.2.size))
   have hwl:Hid (ws.length≤1000∧ss.length=ws.length):=zh (by
    obtain⟨ks,ps,h1,h2,h3⟩:=hst.out
    have h4:=h1.len
    rw[h2,h3]
    unfold wholeL sizesL
    rw[List.length_map,List.length_map]
    have:=HN.out
    omega)
   obtain⟨M,hM⟩:∃ M,M=ws.length+1:=⟨_,rfl⟩
   have HM:Hid ((ws++[leafS q]).length=M∧(ss++[(1:Int)]).length=M):=zh (by have:=hwl.out;simp;omega)
   have HIS:Hid (InStack xs (k+1) M (ws++[leafS q]) (ss++[(1:Int)])):=zh (by
    obtain⟨ks,ps,h1,h2,h3⟩:=hst.out
    refine⟨ks,ps,0,[q],h1.push q EQ.out,?_,?_,?_⟩
    ·rw[h2];simp[wholeL,rootB,rootL_one]
    ·rw[h3];simp[sizesL]
    ·rw[hM,h2];unfold wholeL;rw[List.length_map,h1.1.len])
   clear eq c1 hM
   go_wp2_with (first | (go_at_call 64;refine HLf.out.mono ?_;rintro e w1 ⟨rfl,hb1⟩;have HR1:=zh ((hR.out.far hb1).alloc (.cells #[.string (leafS q)] 9));have hs1:=zh hb1.size;clear hb1) | (at_builtin;refine wpList_append_str (.tmp 17) (.tmp 20) w.heap.size _ ws w1.heap.size (leafS q) (0,0) HR1.out.1 (by have:=hwl.out.1;omega) HR1.out.2.2.size (heap_alloc_new _ _) rfl rfl rfl rfl ?_;intro v2 w2 ho2 hg2;have HR2:=zh ((HR1.out.putS HR1.out.1 ho2 hg2).alloc (.cells #[.int .i64 1] 3));clear ho2 hg2) | (at_builtin;refine wpList_append_int (.tmp 22) (.tmp 23) w.heap.size _ ss w2.heap.size 1 (0,0) HR2.out.2.1 (by have:=hwl.out;omega) HR2.out.2.2.size (heap_alloc_new _ _) rfl rfl rfl rfl ?_;intro v3 w3 ho3 hg3;have HR3:=zh (HR2.out.putI HR2.out.2.1 ho3 hg3);clear ho3 hg3;obtain⟨a2,c2,a3,c3,hv2,hv3⟩:=HR3.out.forms M (by rw[HM.out.1]) (by rw[HM.out.2]);subst hv2 hv3))
   generalize ws++[leafS q]=ws3 at *
   generalize ss++[(1:Int)]=ss3 at *
   clear HR1 HR2 hs1 HLf hwl hst hR HM EQ d1
   go_loopw [3,4,7] (fun vw vs i wr=>∃(m:Nat) (ws:List ByteArray) (ss:List Int) (a:Option Addr) (c:Nat) (a':Option Addr) (c':Nat),vw=.slice a m c∧vs=.slice a' m c'∧i=.int .i64 m∧Hid (InStack xs (k+1) m ws ss)∧Hid (RootAt w wr vw vs ws ss)) (fun _ _ i wr=>(intOf i).toNat)
   case atStart=>exact⟨M,ws3,ss3,a2,c2,a3,c3,rfl,rfl,rfl,HIS,HR3⟩
   case round =>
    obtain⟨m,ws,ss,a,c,a',c',rfl,rfl,rfl,hst,hR⟩:=hrel
    have hlen:=hst.out.len
    have hlx:=HN.out
    have HLn:=zh hlen
    have hm1000:1≤m∧m≤1001:=by omega
    clear hlen hlx
    obtain⟨hm1,hm2⟩:=hm1000
    by_cases h1:m=1
    ·have hst1:Hid (∃ ks ps,Stack xs (k+1) ks ps∧ws=wholeL ps∧ss=sizesL ks):=zh ((h1 ▸ hst.out:InStack xs (k+1) 1 ws ss).one)
     have hd:decide ((1:Int) < (m:Int))=false:=decide_eq_false (by omega)
     clear h1 hm2
     go_wp2
     go_quiet (fail)
     go_wp2
     go_roundw
     case rel=>exact⟨k+1,ws,ss,by omega,by go_num,hst1,zh (hR.out.drew _)⟩
     case measure=>simp[intOf];omega
    ·obtain⟨p,hp⟩:∃ p,m=p+2:=⟨m - 2,by omega⟩
     obtain⟨q1,hq1⟩:∃ q1,q1=p+1:=⟨_,rfl⟩
     have hst':InStack xs (k+1) (p+2) ws ss:=hp ▸ hst.out
     obtain⟨y,z,i,j,i1,i2,i3,i4,hy,hz,hi,hj,hne,heq⟩:=hst'.two
     rw[← hq1]at i2 i4
     obtain⟨gz,rfl,hgz,hbz,lz1,lz2,lz3,cz⟩:=hR.out.2.1.at (by omega)
     obtain⟨gw,rfl,hgw,hbw,lw1,lw2,lw3,cw⟩:=hR.out.1.at (by omega)
     have z1:=cz p _ i3
     have z2:=cz q1 _ i4
     have CW1:=zh (cw p _ i1)
     have CW2:=zh (cw q1 _ i2)
     have HNE:=zh hne
     have HEQ:=zh heq
     have hXY:2 ^ i=2 ^ j ↔ i=j:=Nat.pow_right_inj (by omega)
     have HXY:=zh hXY
     have hX:=HN.out ▸ hi
     have hY:=HN.out ▸ hj
     have HLW:Hid (ws.length=m∧ss.length=m):=zh ⟨lw1,lz1⟩
     generalize 2 ^ i=X at *
     generalize 2 ^ j=Y at *
     have f1:IntKind.i64.wrap ((m:Int) - 2)=(p:Int):=by rw[IntWalk.i64_in _ (by omega)];omega
     have f2:IntKind.i64.wrap ((m:Int) - 1)=(q1:Int):=by rw[IntWalk.i64_in _ (by omega)];omega
     have hd:decide ((1:Int) < (m:Int))=true:=decide_eq_true (by omega)
     have b1:(p:Int) < (m:Int):=by omega
     have b2:(q1:Int) < (m:Int):=by omega
     have I4:=zh i4
     have HP:=zh hp
     have HQ1:=zh hq1
     clear hne heq hXY hi hj cz cw i1 i2 i3 i4 hst' hp hq1 lw1 lz1 h1
     unfold maxLen at lw3 lz3
     by_cases hij:X=Y
     ·have hst2:=zh (HEQ.out (HXY.out.1 hij))
      have hb1:((X:Int) == (Y:Int))=true:=by simp;omega
      subst hij
      go_wp2
      go_quiet (fail)
      go_wp2
      have hR:Hid (RootAt w (wr.drewN nq) (.slice (some ⟨gw,0,none⟩) m c) (.slice (some ⟨gz,0,none⟩) m c') ws ss):=zh (hR.out.drew _)
      have cw1:(wr.drewN nq).cell? ⟨gw,p,none⟩=some (.string y):=CW1.out
      have cw2:(wr.drewN nq).cell? ⟨gw,q1,none⟩=some (.string z):=CW2.out
      have hgz:gz < (wr.drewN nq).heap.size:=hgz
      have hgw:gw < (wr.drewN nq).heap.size:=hgw
      clear z1 z2 CW1 CW2
      generalize wr.drewN nq=wx at *
      refine wp_region_late 14 2 [0,1,2,3] (fun w'=>∃ n,w'=wx.drewN n) (fun _=>True) (by kernel_rfl) (by kernel_rfl) ⟨1,rfl⟩ ?_
      simp only[List.take_succ_cons,List.take_zero,List.drop_succ_cons,List.drop_zero]
      repeat (go_big_quiet_step (fail))
      refine wpQuiet_nil ?_
      have hpc:p≤c:=by omega
      refine⟨fun W _ i o hi ho=>?late,?_⟩
      case late =>
       have hi4:i=0∨i=1∨i=2∨i=3:=by simpa using hi
       rcases hi4 with rfl | rfl | rfl | rfl
       ·simp only[List.getElem?_toArray,List.getElem?_cons_zero,Option.some.injEq]at ho
        subst ho
        refine⟨.slice (some ⟨gw,0,none⟩) m c,?_,fun d hd=>by simp at hd;subst hd;rfl⟩
        simp[execOp,go_sem]
       ·simp only[List.getElem?_toArray,List.getElem?_cons_succ,List.getElem?_cons_zero,Option.some.injEq]at ho
        subst ho
        refine⟨.int .i64 (m:Nat),?_,fun d hd=>by simp at hd;subst hd;rfl⟩
        simp[execOp,go_sem]
       ·simp only[List.getElem?_toArray,List.getElem?_cons_succ,List.getElem?_cons_zero,Option.some.injEq]at ho
        subst ho
        refine⟨.int .i64 (p:Nat),?_,fun d hd=>by simp at hd;subst hd;rfl⟩
        simp[execOp,go_sem,f1]
       ·simp only[List.getElem?_toArray,List.getElem?_cons_succ,List.getElem?_cons_zero,Option.some.injEq]at ho
        subst ho
        refine⟨.slice (some ⟨gw,0,none⟩) p c,?_,fun d hd=>by simp at hd;subst hd;rfl⟩
        simp[execOp,go_sem]
        intro h
        omega
      rintro _ ⟨nq2,rfl⟩
      refine⟨trivial,?_⟩
      have hR2:Hid (RootAt w (wx.drewN nq2) (.slice (some ⟨gw,0,none⟩) m c) (.slice (some ⟨gz,0,none⟩) m c') ws ss):=zh (hR.out.drew _)
      clear cw1 cw2 hR
      generalize wx.drewN nq2=wy at *
      have HNd:=zh (node_any y z wy (by omega) (by omega) (HE.out.below hR2.out.2.2 HG.out) (Nat.lt_of_lt_of_le HG.out hR2.out.2.2.size))
      have hzs:=nodeS_size y z
      have hst2:=hst2
      generalize nodeS y z=N at *
      refine wpTail_step rfl ?_
      go_wp2_with (go_at_call 63;refine HNd.out.mono ?_;rintro e w2 ⟨rfl,hb2⟩)
      refine⟨rfl,trivial,?_⟩
      have HR3:=zh ((hR2.out.far hb2).alloc (.cells #[.string N] 9))
      refine wpTail_step rfl ?_
      go_wp2
      refine⟨rfl,trivial,?_⟩
      unfold wpTail
      have HC:=zh (show OwnS (w2.alloc (.cells #[.string N] 9)) w.heap.size (.slice (some ⟨gw,0,none⟩) p c) (ws.take p) by
       have:=HR3.out.1.cut (scells_one ws) p (by omega) (by omega)
       unfold OwnS scells at *
       rw[List.map_take]
       exact this)
      refine wpList_append_str (.tmp 47) (.tmp 59) w.heap.size _ (ws.take p) w2.heap.size N (0,0) HC.out (by rw[List.length_take];omega) HR3.out.2.2.size (heap_alloc_new _ _) rfl rfl rfl rfl ?_
      intro v3 w3 ho3 hg3
      have HR4:=zh (HR3.out.putS HC.out ho3 hg3)
      have hq1p:(ws.take p++[N]).length=q1:=by rw[List.length_append,List.length_take];have:=HLW.out.1;have:=HQ1.out;simp;omega
      obtain⟨⟨a4,c4,hv3⟩,_⟩:=HR4.out.slices
      rw[hq1p]at hv3
      subst hv3
      obtain⟨gz',e1,hgz4,_,_,_,_,cz⟩:=HR4.out.2.1.at (by omega)
      cases e1
      have z4:=cz q1 _ I4.out
      clear cz hg3 ho3 HC HR3 hb2 hq1p HNd hzs
      have f5:IntKind.i64.wrap (2*(X:Int))=((2*X:Nat):Int):=by rw[IntWalk.i64_in _ (by omega)];omega
      go_wp2
      refine⟨rfl,?_⟩
      go_wp2
      refine wp_region_late 10 1 [0,1,2,3] (fun w'=>∃ n,w'=w3.drewN n) (fun _=>True) (by kernel_rfl) (by kernel_rfl) ⟨1,rfl⟩ ?_
      simp only[List.take_succ_cons,List.take_zero,List.drop_succ_cons,List.drop_zero]
      repeat (go_big_quiet_step (fail))
      refine wpQuiet_nil ?_
      have hpc:p≤c':=by omega
      refine⟨fun W _ i o hi ho=>?late,?_⟩
      case late =>
       have hi4:i=0∨i=1∨i=2∨i=3:=by simpa using hi
       rcases hi4 with rfl | rfl | rfl | rfl
       ·simp only[List.getElem?_toArray,List.getElem?_cons_zero,Option.some.injEq]at ho
        subst ho
        refine⟨.slice (some ⟨gz,0,none⟩) m c',?_,fun d hd=>by simp at hd;subst hd;rfl⟩
        simp[execOp,go_sem]
       ·simp only[List.getElem?_toArray,List.getElem?_cons_succ,List.getElem?_cons_zero,Option.some.injEq]at ho
        subst ho
        refine⟨.int .i64 (m:Nat),?_,fun d hd=>by simp at hd;subst hd;rfl⟩
        simp[execOp,go_sem]
       ·simp only[List.getElem?_toArray,List.getElem?_cons_succ,List.getElem?_cons_zero,Option.some.injEq]at ho
        subst ho
        refine⟨.int .i64 (p:Nat),?_,fun d hd=>by simp at hd;subst hd;rfl⟩
        simp[execOp,go_sem,f1]
       ·simp only[List.getElem?_toArray,List.getElem?_cons_succ,List.getElem?_cons_zero,Option.some.injEq]at ho
        subst ho
        refine⟨.slice (some ⟨gz,0,none⟩) p c',?_,fun d hd=>by simp at hd;subst hd;rfl⟩
        simp[execOp,go_sem]
        intro h
        omega
      rintro _ ⟨nq3,rfl⟩
      refine⟨trivial,?_⟩
      have hR5:Hid (RootAt w (w3.drewN nq3) (.slice a4 q1 c4) (.slice (some ⟨gz,0,none⟩) m c') (ws.take p++[N]) ss):=zh (HR4.out.drew _)
      clear z4
      generalize w3.drewN nq3=w4 at *
      refine wpTail_step rfl ?_
      go_wp2
      refine⟨rfl,trivial,?_⟩
      unfold wpTail
      have HR6:=zh (hR5.out.alloc (.cells #[.int .i64 (2*X:Nat)] 3))
      have HC:=zh (show OwnI (w4.alloc (.cells #[.int .i64 (2*X:Nat)] 3)) w.heap.size (.slice (some ⟨gz,0,none⟩) p c') (ss.take p) by
       have:=HR6.out.2.1.cut (icells_one ss) p (by omega) (by omega)
       unfold OwnI icells at *
       rw[List.map_take]
       exact this)
      refine wpList_append_int (.tmp 64) (.tmp 71) w.heap.size _ (ss.take p) w4.heap.size (2*X:Nat) (0,0) HC.out (by rw[List.length_take];omega) HR6.out.2.2.size (heap_alloc_new _ _) rfl rfl rfl rfl ?_
      intro v5 w5 ho5 hg5
      have HR7:=zh (HR6.out.putI HC.out ho5 hg5)
      have hq1p:(ss.take p++[((2*X:Nat):Int)]).length=q1:=by rw[List.length_append,List.length_take];have:=HLW.out.2;have:=HQ1.out;simp;omega
      obtain⟨_,⟨a5,c5,hv5⟩⟩:=HR7.out.slices
      rw[hq1p]at hv5
      subst hv5
      have HIS2:Hid (InStack xs (k+1) q1 (ws.take p++[N]) (ss.take p++[((2*X:Nat):Int)])):=zh (by rw[HQ1.out];exact hst2.out)
      clear HC ho5 hg5 hq1p
      go_wp2
      refine⟨rfl,?_⟩
      go_wp2
      go_roundw
      case rel =>
       exact⟨q1,_,_,_,_,_,_,rfl,rfl,by go_num,HIS2,HR7⟩
      case measure=>simp[intOf];omega
     ·have hst1:=zh (HNE.out (fun e=>hij (HXY.out.2 e)))
      have hb1:((X:Int) == (Y:Int))=false:=by simp;omega
      go_wp2
      go_quiet (fail)
      go_wp2
      go_roundw
      case rel=>exact⟨k+1,ws,ss,by omega,by go_num,hst1,zh (hR.out.drew _)⟩
      case measure=>simp[intOf];omega
  ·have ek:k=n:=by omega
   have hF:Hid (RR=foldS nodeS (sumS ⟨#[]⟩) ws∧∀ x∈ws,x.size=32):=zh (by
    obtain⟨ks,ps,h1,h2,_⟩:=hst.out
    have h3:ps.flatten=xs:=by rw[h1.2.2,ek,HN.out,List.take_length]
    refine⟨?_,?_⟩
    ·rw[HRR0.out,h2]
     have:=foldS_root leafS nodeS (sumS ⟨#[]⟩) h1.1 h1.2.1
     rw[h3]at this
     exact this.symm
    ·rw[h2]
     intro x hx
     unfold wholeL at hx
     rw[List.mem_map]at hx
     obtain⟨p,_,rfl⟩:=hx
     exact rootB_size p)
   have hwl:ws.length≤1000:=by
    obtain⟨ks,ps,h1,h2,h3⟩:=hst.out
    have h4:=h1.len
    rw[h2]
    unfold wholeL
    rw[List.length_map]
    have:=HN.out
    omega
   clear ek hst H3 HX HN HRR0
   rcases List.eq_nil_or_concat ws with rfl | ⟨ini,last,rfl⟩
   ·have hRR:Hid (RR=sumS ⟨#[]⟩):=zh hF.out.1
    have HSm:=zh (sum_any ⟨#[]⟩ wr (by decide) (HE.out.below hR.out.2.2 HG.out) (Nat.lt_of_lt_of_le HG.out hR.out.2.2.size))
    go_wp2_with (go_at_call 140;refine HSm.out.mono ?_;rintro e w1 ⟨rfl,hb1⟩)
    refine leaves_marks (B:=w.heap.size) [] w1 ⟨List.nodup_nil,fun D h=>absurd h List.not_mem_nil⟩ (fun W'' hT=>⟨_,results_tmp rfl _ _ _,?_,(hR.out.2.2.trans (hb1.mono hR.out.2.2.size)).trans hT.below⟩)
    rw[hRR.out]
    rfl
   ·rw[List.concat_eq_append]at *
    have hRR:Hid (RR=ini.reverse.foldl (fun out r=>nodeS r out) last):=zh (by rw[hF.out.1,foldS_foldr])
    have hlast:last.size=32:=hF.out.2 last (by simp)
    have hini:Hid (∀ x∈ini,x.size=32):=zh (fun x hx=>hF.out.2 x (by simp[hx]))
    have hlen:(ini++[last]).length=ini.length+1:=by simp
    rw[hlen]at hR hwl ⊢
    obtain⟨gw,o,rfl,hgo,hgb,hnc,hcm,hcl⟩:=hR.out.1.block (by omega)
    have cl:=hcl wr hgo ini.length last (by simp)
    have HCL:Hid (∀ W:World,W.heap[gw]?=some o→∀ k s,ini[k]?=some s→∃ b off,some (⟨gw,0,none⟩:Addr)=some ⟨b,off,none⟩∧W.cell? ⟨b,off+k,none⟩=some (.string s)):=zh (fun W hW k s hk=>⟨gw,0,rfl,by
     rw[Nat.zero_add]
     exact hcl W hW k s (by rw[List.getElem?_append_left (List.getElem?_eq_some_iff.1 hk).1];exact hk)⟩)
    obtain⟨p,hp⟩:∃ p,p=ini.length:=⟨_,rfl⟩
    rw[← hp]at cl hwl hnc hlen hR ⊢
    have HP:=zh hp
    have HGO:=zh hgo
    have HCM:=zh hcm
    unfold maxLen at hcm
    have f1:IntKind.i64.wrap (((p+1:Nat):Int) - 1)=(p:Int):=by rw[IntWalk.i64_in _ (by omega)];omega
    have b1:(p:Int) < ((p+1:Nat):Int):=by omega
    clear hp hgo hcl hF hlen
    go_wp2_with (go_at_call 158;refine(backS_any _ _ _ _).mono ?_;rintro e w' ⟨rfl,rfl⟩)
    have hsw:=hR.out.2.2.size
    have hgl:gw < wr.heap.size:=(ltA HGO.out)
    have HBw:Hid (Below w.heap.size w ((wr.alloc (.cells #[.string last] 9)).alloc (.cells #[.slice (some ⟨gw,0,none⟩) p cw] 47))):=zh ((hR.out.2.2.alloc (by omega) _).alloc (by simp;omega) _)
    obtain⟨FB,hFB⟩:∃ FB:List DgS→ByteArray,FB=backF last:=⟨_,rfl⟩
    have HFB:Hid (FB []=last∧(∀ pre x,FB (pre++[x])=nodeS x.1.2 (FB pre))∧(∀ pre,(FB pre).size=32)∧∀ xs,xs.map (fun x=>x.1.2)=ini.reverse→FB xs=RR):=zh (by
     rw[hFB]
     exact⟨rfl,fun pre x=>backF_snoc last pre x,fun pre=>backF_size last hlast pre,fun xs h=>by rw[hRR.out,backF_all last xs ini h]⟩)
    have HBO:Hid (((wr.alloc (.cells #[.string last] 9)).alloc (.cells #[.slice (some ⟨gw,0,none⟩) p cw] 47)).heap[wr.heap.size]?=some (.cells #[.string (FB [])] 9 (0,0))):=zh (by rw[HFB.out.1];exact at_past wr _ _)
    have HB1:Hid (((wr.alloc (.cells #[.string last] 9)).alloc (.cells #[.slice (some ⟨gw,0,none⟩) p cw] 47)).heap[wr.heap.size+1]?=some (.cells #[.slice (some ⟨gw,0,none⟩) p cw] 47 (0,0))):=zh (at_second wr _ _)
    have HBG:Hid (((wr.alloc (.cells #[.string last] 9)).alloc (.cells #[.slice (some ⟨gw,0,none⟩) p cw] 47)).heap[gw]?=some o):=zh ((Below.heap_alloc _ _ _ (by simp;omega)).trans ((Below.heap_alloc _ _ _ (by omega)).trans HGO.out))
    have hs5:((wr.alloc (.cells #[.string last] 9)).alloc (.cells #[.slice (some ⟨gw,0,none⟩) p cw] 47)).heap.size=wr.heap.size+2:=by simp
    generalize (wr.alloc (.cells #[.string last] 9)).alloc (.cells #[.slice (some ⟨gw,0,none⟩) p cw] 47)=W5 at *
    clear cl hFB hRR HGO hlast
    refine(wpIn_wide (n:=8)).1 ?_
    refine wpIn_range (n:=8) Wide.wide rfl (gf:=184) (lb:=#[.pointer (some ⟨wr.heap.size+1,0,none⟩)]) ?ev (fun args w=>?enter) (backS1_iter (wr.heap.size+1) gw p cw (some ⟨gw,0,none⟩) o ini W5 HP.out HCM.out (by omega) hini.out HB1.out HBG.out HCL.out) br0 (fun x=>rfl) (fun q e=>by cases e) (fun h h'=>⟨h'.1.trans h.1,h'.2.trans h.2⟩) (fun W l o o' h1 h2 h3 h4=>?kb)
     (fun pre W=>W.heap[wr.heap.size]?=some (.cells #[.string (FB pre)] 9 (0,0))∧(W.heap[wr.heap.size+1]?=some (.cells #[.slice (some ⟨gw,0,none⟩) p cw] 47 (0,0))∧(W.heap[gw]?=some o∧Below w.heap.size w W)))
     (fun _ _ _=>False) ?abide (fun _=>abide_false _ _) ⟨HBO.out,HB1.out,HBG.out,HBw.out⟩ (fun x=>⟨#[Value.slice a n cap,undef,Value.string ⟨#[]⟩,Value.slice (some ⟨gw,0,none⟩) (p+1) cw,Value.slice az ss.length cz,undef,u6,u7,Value.pointer (some ⟨wr.heap.size,0,none⟩),undef,Value.string x.1.2,Value.slice a n cap,Value.int IntKind.i64 (n:Nat),Value.int IntKind.i64 (k:Nat),Value.bool false,u15,u16,u17,u18,u19,u20,u21,u22,u23,u24,u25,u26,u27,u28,u29,u30,u31,u32,u33,u34,u35,u36,u37,u38,u39,u40,u41,u42,u43,u44,u45,u46,u47,u48,u49,u50,u51,u52,u53,u54,u55,u56,u57,u58,u59,u60,u61,u62,u63,u64,u65,u66,u67,u68,u69,u70,u71,u72,u73,Value.slice (some ⟨gw,0,none⟩) (p+1) cw,Value.int IntKind.i64 ((p:Int)+1),Value.bool ((p:Int)+1 == 0),undef,Value.slice (some ⟨gw,0,none⟩) (p+1) cw,Value.slice (some ⟨gw,0,none⟩) (p+1) cw,Value.int IntKind.i64 ((p:Int)+1),Value.int IntKind.i64 (p:Nat),Value.pointer (some ⟨gw,p,none⟩),Value.string last,Value.slice (some ⟨gw,0,none⟩) (p+1) cw,Value.slice (some ⟨gw,0,none⟩) (p+1) cw,Value.int IntKind.i64 ((p:Int)+1),Value.int IntKind.i64 (p:Nat),Value.slice (some ⟨gw,0,none⟩) p cw,Value.func (Fn.func 184) #[] #[Value.pointer (some ⟨wr.heap.size+1,0,none⟩)],Value.int IntKind.i64 (x.1.1:Nat),Value.string x.1.2,undef,undef,undef,undef],[]⟩) (fun l x W K hK=>?assign) (fun l pre x W hI hlen=>?body) (fun Dm xs W hDm hS hI hDd=>?done) (fun Dm c pre W hD hS hI=>hI.elim)
    case assign =>
     simp only[List.zip_toArray,List.zip_cons_cons,List.zip_nil_right,List.foldl_toArray',List.foldl_cons,List.foldl_nil,List.setIfInBounds_toArray,List.set_cons_succ,List.set_cons_zero]
     gi_wp2
     exact hK
    case ev=>rfl
    case enter=>kernel_rfl
    case kb=>exact⟨World.putObj_heap_other (fun e=>by omega),World.putObj_heap_other (fun e=>by omega)⟩
    case abide=>exact abide_and (abide_cells (fun pre=>.cells #[.string (FB pre)] 9) (fun _=>rfl) (by simp)) (abide_and (abide_old _ (by omega) (by simp)) (abide_and (abide_old _ (by omega) (by simp)) (abide_below (by omega) (Nat.le_refl _) (fun q e=>by cases e))))
    case body =>
     obtain⟨g1,g2,g3,g4⟩:=hI
     have hs7:=g4.size
     have hwW:wr.heap.size+1 < W.heap.size:=(ltA g2)
     have hx32:=x.2
     have HN1:=zh (node_any x.1.2 (FB pre) W (by omega) (by have:=HFB.out.2.2.1 pre;omega) (HE.out.below g4 HG.out) (Nat.lt_of_lt_of_le HG.out hs7))
     have c1:W.cell? ⟨wr.heap.size,0,none⟩=some (.string (FB pre)):=cell_of_row W _ 0 _ _ _ g1
     have G1:=zh g1
     have G2:=zh g2
     have G3:=zh g3
     have G4:=zh g4
     clear g1 g2 g3 g4
     have hFN:=HFB.out.2.1 pre x
     have HFN:=zh hFN
     clear hFN
     gi_wp2_with (refine⟨trivial,?_⟩;gi_at_call 63;refine(callsIn_of_calls (Wide.inRound Wide.wide _) HN1.out).mono ?_;rintro e W' ⟨rfl,hb⟩;rw[← HFN.out];have HG1':Hid (W'.heap[wr.heap.size]?=some (.cells #[.string (FB pre)] 9 (0,0))):=zh ((hb.block _ (by omega)).trans G1.out);have c2:W'.cell? ⟨wr.heap.size,0,none⟩=some (.string (FB pre)):=cell_of_row W' _ 0 _ _ _ HG1'.out;have cf2:W'.frozen? ⟨wr.heap.size,0,none⟩=false:=(by simp[World.frozen?,HG1'.out]);have HB':=zh hb;clear hb)
     have hset:W'.grownBy (W'.setCell ⟨wr.heap.size,0,none⟩ (.string (FB (pre++[x])))) (some wr.heap.size):=grown_setCell (grown_refl _ _) _ (.inl rfl) _
     have keep:∀(q:Nat) (o:Obj),W.heap[q]?=some o→q≠wr.heap.size→(W'.setCell ⟨wr.heap.size,0,none⟩ (.string (FB (pre++[x])))).heap[q]?=some o:=fun q o hq hne=>by
      have hq1:=(HB'.out.block q (ltA hq)).trans hq
      exact(hset.block q (ltA hq1) (fun e=>hne (Option.some.inj e))).trans hq1
     refine⟨⟨Nat.le_trans HB'.out.size hset.size,fun q o hB hq hnc=>keep q o hq (by omega)⟩,⟨(keep _ _ G2.out (by omega)).trans G2.out.symm,(keep _ _ G3.out (by omega)).trans G3.out.symm⟩,?_,keep _ _ G2.out (by omega),keep _ _ G3.out (by omega),?_⟩
     ·show(World.setCell _ _ _).heap[wr.heap.size]?=_
      rw[heap_setCell_same _ HG1'.out]
      rfl
     ·exact((G4.out.trans (HB'.out.mono hs7)).grown hset (Nat.le_trans hs7 HB'.out.size) (fun j e=>by cases e;exact hsw))
    case done =>
     obtain⟨g1,_,_,g4⟩:=hI
     have c1:W.cell? ⟨wr.heap.size,0,none⟩=some (.string (FB xs)):=cell_of_row W _ 0 _ _ _ g1
     have HRF:=zh (HFB.out.2.2.2 xs hS)
     have G4:=zh g4
     have HDd:=zh hDd
     have hsW:=g4.size
     clear hS g1 g4 hDd
     show Exit.inBlock _ _ _ (Act.mk _ [{ target:=.collected Dm,args:=#[] }]) W
     go_wp2
     have hM:Marks w.heap.size [Dm] W:=⟨by simp,fun D hD=>by
      rw[List.mem_singleton]at hD
      subst hD
      exact⟨by omega,HDd.out⟩⟩
     refine leaves_marks (B:=w.heap.size) [Dm] W hM (fun W'' hT=>⟨_,results_tmp rfl _ _ _,?_,G4.out.trans hT.below⟩)
     rw[← HRF.out]
     rfl
end Go.Proofs.YtjjiikeldpjafaaGreatDoor
