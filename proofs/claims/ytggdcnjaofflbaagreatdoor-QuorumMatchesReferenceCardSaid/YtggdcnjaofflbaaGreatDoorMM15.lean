/- Walks: slices.Collect, SortFunc, SortedFunc at the genuine votes. The conditions: what the slices read as, lengths of keys, the table of constants. -/
import Derived.Sort.OwnSorted
import Derived.Test.YtggdcnjaofflbaaGreatDoorMM14
import Derived.Lib.SliceRun
namespace Go.Proofs.YtggdcnjaofflbaaGreatDoor
open Go.RowKit Go.BigFrame Go.Shelf Go.Sort Go.Lib
theorem flat_votes (d:Array VoteP):(flatK vcells 5 d).toList=(d.toList.map vcells).flatten:=by
 symm
 have hl:((d.toList.map vcells).flatten).length=d.size*5:=by
  rw[flat_lenQ _ (vcells_len _),List.length_map,Array.length_toList]
 refine List.ext_getElem? fun j=>?_
 by_cases hj:j < d.size*5
 ·obtain⟨u,hu⟩:∃ u,((d.toList.map vcells).flatten)[j]?=some u:=⟨_,List.getElem?_eq_getElem (by rw[hl];exact hj)⟩
  obtain⟨i,r,c,h1,h2,h3⟩:=flat_atQ _ (vcells_len _) j u hu
  rw[List.getElem?_map]at h1
  obtain⟨x,hx,rfl⟩:=Option.map_eq_some_iff.1 h1
  have hr:r < 5:=(List.getElem?_eq_some_iff.1 h2).1
  have hi:=(List.getElem?_eq_some_iff.1 hx).1
  rw[Array.length_toList]at hi
  rw[Array.getElem?_toList]at hx
  have hdx:d[i]! = x:=by
   rw[getElem!_pos d i hi]
   rw[Array.getElem?_eq_getElem hi]at hx
   exact Option.some.inj hx
  have e1:j / 5=i:=by omega
  have e2:j % 5=r:=by omega
  have h4:=get_flatK vcells 5 d j hj
  rw[e1,e2,hdx]at h4
  have h5:j < (flatK vcells 5 d).size:=by rw[size_flatK];exact hj
  rw[hu,Array.getElem?_toList,Array.getElem?_eq_getElem h5,← getElem!_pos _ j h5,h4]
  rw[List.getElem!_eq_getElem?_getD,h2]
  rfl
 ·rw[List.getElem?_eq_none (by rw[hl];omega),List.getElem?_eq_none (by rw[Array.length_toList,size_flatK];omega)]
theorem holdsK_of_block {w:World}{g:Nat}{cur:Array Value}{e:TypeId}{d:Array VoteP}(hb:w.heap[g]?=some (.cells cur e (0,0)))(ht:cur.toList.take (d.size*5)=(d.toList.map vcells).flatten):HoldsK vcells 5 w g 0 d:=by
 intro j hj
 rw[size_flatK]at hj
 refine⟨?_,by simp[World.frozen?,hb]⟩
 have h1:(cur.toList.take (d.size*5))[j]?=(flatK vcells 5 d).toList[j]?:=by rw[ht,flat_votes]
 rw[List.getElem?_take_of_lt hj,Array.getElem?_toList,Array.getElem?_toList]at h1
 have h5:j < (flatK vcells 5 d).size:=by rw[size_flatK];exact hj
 rw[Nat.zero_add,cell_of_row w g j _ _ _ hb,h1,Array.getElem?_eq_getElem h5,getElem!_pos _ j h5]
 rfl
theorem heap_putRowK {w:World}{g:Nat}{cur:Array Value}{e:TypeId}{fr:Nat × Nat}(d:Array VoteP)(hb:w.heap[g]?=some (.cells cur e fr)) :
  (putRowK vcells 5 w g 0 d).heap[g]?=some (.cells (putCells id 0 (flatK vcells 5 d) cur) e fr):=by
 simp[putRowK,putRow,mapBlock,Array.getElem?_modify,hb,onCells]
theorem grownBy_putRowK (w:World)(g:Nat)(d:Array VoteP):w.grownBy (putRowK vcells 5 w g 0 d) (some g):=by
 refine⟨rfl,rfl,rfl,by simp[putRowK,putRow,mapBlock],fun k hk hne=>?_⟩
 have:g≠k:=fun e=>hne (by rw[e])
 simp[putRowK,putRow,mapBlock,Array.getElem?_modify,this]
theorem take_putK (cur:Array Value)(d:Array VoteP)(h:d.size*5≤cur.size):(putCells id 0 (flatK vcells 5 d) cur).toList.take (d.size*5)=(d.toList.map vcells).flatten:=by
 rw[← flat_votes]
 apply List.ext_getElem?
 intro j
 by_cases hj:j < d.size*5
 ·have h5:j < (flatK vcells 5 d).size:=by rw[size_flatK];exact hj
  rw[List.getElem?_take_of_lt hj,Array.getElem?_toList,Array.getElem?_toList,Array.getElem?_eq_getElem h5]
  rw[← getElem!_pos _ j h5]
  simp[putCells,hj,show j < cur.size by omega]
 ·rw[List.getElem?_take_eq_none (by omega),List.getElem?_eq_none (by rw[Array.length_toList,size_flatK];omega)]
theorem ownV_put {w:World}{base g cap:Nat}{cur:Array Value}{n:Nat}{d:Array VoteP}(hbase:base≤g)(hb:w.heap[g]?=some (.cells cur 27 (0,0)))
  (hn:n=d.size) (h1:n≤cap) (h2:cap≤maxLen) (h3:cur.size=cap*5):OwnV (putRowK vcells 5 w g 0 d) base (.slice (some ⟨g,0,none⟩) n cap) d.toList:=by
 subst hn
 refine⟨?_,.inr ⟨g,cap,_,?_,hbase,heap_putRowK d hb,by rw[List.length_map,Array.length_toList];exact h1,h2,by simp[putCells,h3],?_⟩⟩
 ·rw[flat_lenQ _ (vcells_len _)]
 ·rw[List.length_map,Array.length_toList]
 ·rw[List.length_map,Array.length_toList]
  exact take_putK cur d (by rw[h3];exact Nat.mul_le_mul_right 5 h1)
theorem sortFunc_any {w:World}{base:Nat}{v:Value}{l:List VoteP}(h:OwnV w base v l)(hl6:l.length≤1000000) :
  Calls Tryz.prog 148 #[v,.func (.func 115) #[] #[]] w fun e w'=>e=.returned (.tuple #[])∧∃ d':Array VoteP,PermIn 0 l.length l.toArray d'∧SortedIn (fun a b=>decide (cmpV a b < 0)) 0 l.length d'∧OwnV w' base v d'.toList∧w.grownBy w' v.ownBlock:=by
 rcases h.2 with⟨rfl,h0⟩ | ⟨g,cap,cur,rfl,hg,hb,h1,h2,h3,h4⟩
 ·rw[List.length_map]at h0
  obtain rfl:=List.length_eq_zero_iff.1 h0
  refine(AnyF.slices_SortFunc_none { Tryz.sortF with } none 0 _ w).mono ?_
  rintro e w' ⟨he,rfl⟩
  exact⟨he,#[],⟨rfl,fun _ _=>rfl,List.Perm.refl _⟩,fun i j _ _ hj=>by simp at hj,h,grown_refl _ _⟩
 ·rw[List.length_map]at h1 h4 ⊢
  have eg:∀ args w,(callFunc 115 args).run Tryz.prog w=.ok (.enter 115 args) w:=enters_of Tryz.func115 (by kernel_rfl) rfl
  have hH:HoldsK vcells 5 w g 0 l.toArray:=holdsK_of_block hb (by simpa using h4)
  have hc:=AnyQ.slices_SortFunc Tryz.sortF 5 Tryz.isAgg27 Tryz.sizeOf27 vcells (fun _=>rfl) vcells_one cmpV cmpV_swo 115 #[] g 0 cap l.toArray w eg (fun m os dk hdk x y=>cmpfn_any x y _) hH (ltA hb) (by rw[List.size_toArray];omega)
  rw[List.size_toArray]at hc
  refine hc.mono ?_
  rintro e w' ⟨he,d',n,os,hp,hs,rfl⟩
  refine⟨he,d',hp,hs,?_,?_⟩
  ·have hd:d'.size=l.length:=by rw[hp.1,List.size_toArray]
   have o1:OwnV (putRowK vcells 5 (Sort.ahead w n) g 0 d') base (.slice (some ⟨g,0,none⟩) l.length cap) d'.toList:=ownV_put hg hb hd.symm h1 h2 h3
   refine owns_any o1 ⟨rfl,rfl,rfl,by simp[sortWorldK,grow],fun k hk _=>?_⟩
   exact heap_grow_old _ _ hk
  ·have g1:w.grownBy (putRowK vcells 5 (Sort.ahead w n) g 0 d') (some g):=by
    have:=grownBy_putRowK (Sort.ahead w n) g d'
    exact⟨this.os,this.tape,this.output,this.size,this.block⟩
   exact⟨g1.os,g1.tape,g1.output,by simp[sortWorldK,grow];have:=g1.size;omega,fun k hk hne=>(heap_grow_old _ _ (by have:=g1.size;omega)).trans (g1.block k hk hne)⟩
set_option maxHeartbeats 1000000 in
theorem collect_any {wd w:World}{kv x:Value}{ks:List ByteArray}{l:List VoteP}(hr:SS wd kv ks)(hks:∀ k∈ks,k.size≤1000)(hl:VS wd x l)(hl6:l.length≤1000000)(he:Env wd)(hg:3 < wd.heap.size)(hb:Below wd.heap.size wd w)(b1 b2:Nat)
  (h1:w.heap[b1]?=some (.cells #[x] 35 (0,0))) (h2:w.heap[b2]?=some (.cells #[kv] 31 (0,0))) :
  Calls Tryz.prog 147 #[.func (.func 146) #[] #[.pointer (some ⟨b1,0,none⟩),.pointer (some ⟨b2,0,none⟩)]] w fun e w'=>∃ v,e=.returned v∧OwnV w' w.heap.size v (l.filter (genV ks))∧Below w.heap.size w w':=by
 have H:=zh (appendSeq_any hr hks hl hl6 he hg hb b1 b2 h1 h2)
 generalize l.filter (genV ks)=R at *
 clear hr hks hl he hg hb h1 h2
 go_enter Tryz.func147,Tryz.ntmps147
 go_wp2_with (go_at_call 168;refine H.out.mono ?_;rintro e w1 ⟨v,rfl,h5,h6⟩;have H5:=zh h5;have H6:=zh h6;clear h5 h6)
 go_ret
 exact⟨v,rfl,H5.out,H6.out⟩
set_option maxHeartbeats 1000000 in
theorem sortedFunc_any {wd w:World}{kv x:Value}{ks:List ByteArray}{l:List VoteP}(hr:SS wd kv ks)(hks:∀ k∈ks,k.size≤1000)(hl:VS wd x l)(hl6:l.length≤1000000)(he:Env wd)(hg:3 < wd.heap.size)(hb:Below wd.heap.size wd w)(b1 b2:Nat)
  (h1:w.heap[b1]?=some (.cells #[x] 35 (0,0))) (h2:w.heap[b2]?=some (.cells #[kv] 31 (0,0))) :
  Calls Tryz.prog 114 #[.func (.func 146) #[] #[.pointer (some ⟨b1,0,none⟩),.pointer (some ⟨b2,0,none⟩)],.func (.func 115) #[] #[]] w fun e w'=>∃ v,e=.returned v∧∃ d':Array VoteP,PermIn 0 (l.filter (genV ks)).length (l.filter (genV ks)).toArray d'∧SortedIn (fun a b=>decide (cmpV a b < 0)) 0 (l.filter (genV ks)).length d'∧OwnV w' w.heap.size v d'.toList∧Below w.heap.size w w':=by
 have H:=zh (collect_any hr hks hl hl6 he hg hb b1 b2 h1 h2)
 have hR6:(l.filter (genV ks)).length≤1000000:=Nat.le_trans (List.length_filter_le _ _) hl6
 generalize l.filter (genV ks)=R at *
 clear hr hks hl he hg hb h1 h2
 go_enter Tryz.func114,Tryz.ntmps114
 go_wp2_with (first | (go_at_call 147;refine H.out.mono ?_;rintro e w1 ⟨v,rfl,h5,h6⟩;have H5:=zh h5;have H6:=zh h6;clear h5 h6) | (go_at_call 148;refine(sortFunc_any H5.out hR6).mono ?_;rintro e w2 ⟨rfl,d',hp,hs,h7,h8⟩;have HP:=zh hp;have HS:=zh hs;have H7:=zh h7;have H8:=zh h8;clear hp hs h7 h8))
 go_ret
 exact⟨v,rfl,d',HP.out,HS.out,H7.out,below_own H6.out H5.out H8.out (Nat.le_refl _)⟩
open Go.RowKit Go.BigFrame
theorem eqVote_iff (u v:VoteP):u=v ↔ u.car=v.car∧u.num=v.num∧u.stp=v.stp∧u.val=v.val∧u.sl=v.sl:=by
 obtain⟨a,b,c,d,e⟩:=u
 obtain⟨a',b',c',d',e'⟩:=v
 simp
theorem eqlVote (u v:VoteP)(w:World):(binOp .eql 27 (vagg u) (vagg v)).run Tryz.prog w=.ok (.bool (decide (u=v))) w:=by
 obtain⟨a,b,c,d,f⟩:=u
 obtain⟨a',b',c',d',f'⟩:=v
 have h1:=run_equalIn_struct (P:=Tryz.prog) w 9999 27 #[.int .i64 a,.int .i64 b,.int .i64 c,.string d,.string f] #[.int .i64 a',.int .i64 b',.int .i64 c',.string d',.string f'] (by kernel_rfl) (by kernel_rfl)
 have e:decide ((⟨a,b,c,d,f⟩:VoteP)=⟨a',b',c',d',f'⟩)=(a == a' && b == b' && c == c' && decide (d=d') && decide (f=f')):=by
  rw[Bool.eq_iff_iff,decide_eq_true_iff,eqVote_iff];simp[and_assoc]
 have g1:=same_str d d'
 have g2:=same_str f f'
 rw[e]
 unfold vagg
 rw[run_eql_struct,show(10000:Nat)=9999+1 from rfl,h1]
 simp only[go_sem,Program.fieldsOf]
 by_cases e1:a=a' <;> by_cases e2:b=b' <;> by_cases e3:c=c' <;> by_cases e4:d=d' <;> by_cases e5:f=f' <;> simp[go_sem,e1,e2,e3,e4,e5,g1,g2]
theorem neqVote (u v:VoteP)(w:World):(binOp .neq 27 (vagg u) (vagg v)).run Tryz.prog w=.ok (.bool (!decide (u=v))) w:=by
 have h:=eqlVote u v w
 unfold vagg at *
 rw[run_eql_struct]at h
 rw[run_neq_struct]
 generalize (Op.equalIn 10000 27 _ _).run Tryz.prog w=r at *
 cases r with
 | ok b w' =>
  simp only[Result.andThen_ok]at h ⊢
  injection h with h1 h2
  injection h1 with h1
  subst h1 h2
  rfl
 | _=>cases h
theorem flat_setV:∀(xs:List VoteP) (k:Nat) (v:VoteP),k < xs.length →
  ((xs.set k v).map vcells).flatten=((((((xs.map vcells).flatten.set (k*5) (.int .i64 v.car)).set (k*5+1) (.int .i64 v.num)).set (k*5+2) (.int .i64 v.stp)).set (k*5+3) (.string v.val)).set (k*5+4) (.string v.sl))
 | [],k,v,h=>by simp at h
 | x::xs,0,v,_=>by
  simp[vcells]
 | x::xs,k+1,v,h=>by
  have ih:=flat_setV xs k v (by simpa using h)
  have hl:(vcells x).length=5:=rfl
  simp only[List.set_cons_succ,List.map_cons,List.flatten_cons]
  rw[ih]
  rw[List.set_append_right _ _ (by rw[hl];omega),List.set_append_right _ _ (by rw[hl];omega),List.set_append_right _ _ (by rw[hl];omega),List.set_append_right _ _ (by rw[hl];omega),List.set_append_right _ _ (by rw[hl];omega),hl]
  rw[show(k+1)*5 - 5=k*5 by omega,show(k+1)*5+1 - 5=k*5+1 by omega,show(k+1)*5+2 - 5=k*5+2 by omega,show(k+1)*5+3 - 5=k*5+3 by omega,show(k+1)*5+4 - 5=k*5+4 by omega]
theorem OwnV.set {w:World}{base g n cap:Nat}{xs:List VoteP}(h:OwnV w base (.slice (some ⟨g,0,none⟩) n cap) xs)(k:Nat)(hk:k < xs.length)(v:VoteP) :
  OwnV (((((w.setCell ⟨g,k*5,none⟩ (.int .i64 v.car)).setCell ⟨g,k*5+1,none⟩ (.int .i64 v.num)).setCell ⟨g,k*5+2,none⟩ (.int .i64 v.stp)).setCell ⟨g,k*5+3,none⟩ (.string v.val)).setCell ⟨g,k*5+4,none⟩ (.string v.sl)) base (.slice (some ⟨g,0,none⟩) n cap) (xs.set k v):=by
 obtain⟨h0,h1⟩:=h
 rcases h1 with⟨h2,_⟩ | ⟨g',cap',cur,hv,hb,hg,hn,hm,hs,ht⟩
 ·cases h2
 ·cases hv
  refine⟨?_,.inr ⟨g,cap,((((cur.setIfInBounds (k*5) (.int .i64 v.car)).setIfInBounds (k*5+1) (.int .i64 v.num)).setIfInBounds (k*5+2) (.int .i64 v.stp)).setIfInBounds (k*5+3) (.string v.val)).setIfInBounds (k*5+4) (.string v.sl),?_,hb,?_,?_,hm,?_,?_⟩⟩
  ·rw[flat_setV xs k v hk]
   simp only[List.length_set,List.length_map]at h0 ⊢
   exact h0
  ·simp only[List.length_map,List.length_set]
  ·exact heap_setCell_same _ (heap_setCell_same _ (heap_setCell_same _ (heap_setCell_same _ (heap_setCell_same _ hg))))
  ·simpa using hn
  ·simpa using hs
  ·rw[flat_setV xs k v hk]
   simp only[Array.toList_setIfInBounds,List.take_set,List.length_map,List.length_set]
   rw[List.length_map]at ht
   rw[ht]
theorem OwnV.cells {w:World}{base g n cap:Nat}{xs:List VoteP}(h:OwnV w base (.slice (some ⟨g,0,none⟩) n cap) xs):(∀ j,w.frozen? ⟨g,j,none⟩=false)∧n=xs.length∧n≤cap∧cap≤maxLen∧∀(k:Nat) (v:VoteP),xs[k]?=some v→w.cell? ⟨g,k*5,none⟩=some (.int .i64 v.car)∧w.cell? ⟨g,k*5+1,none⟩=some (.int .i64 v.num)∧w.cell? ⟨g,k*5+2,none⟩=some (.int .i64 v.stp)∧w.cell? ⟨g,k*5+3,none⟩=some (.string v.val)∧w.cell? ⟨g,k*5+4,none⟩=some (.string v.sl):=by
 have hv:=OwnV.vs h
 obtain⟨a,c,he,h1,h2,h3⟩:=hv.opened
 have hf:∀ j,w.frozen? ⟨g,j,none⟩=false:=by
  rcases h.2 with⟨h2,_⟩ | ⟨g',cap',cur,hv',hb,hg,_⟩
  ·cases h2
  ·injection hv' with e1 _ _
   injection e1 with e1
   injection e1 with e1 _ _
   subst e1
   intro j
   simp[World.frozen?,hg]
 injection he with e1 e2 e3
 subst e2 e3
 refine⟨hf,rfl,h1,h2,fun k v hk=>?_⟩
 ·obtain⟨b,o,hb,hbl,d⟩:=h3 k v hk
  rw[← e1]at hb
  injection hb with hb
  injection hb with e4 e5 _
  subst e4 e5
  obtain⟨d0,d1,d2,d3,d4⟩:=d
  simp only[Nat.zero_add]at d0 d1 d2 d3 d4
  exact⟨d0,d1,d2,d3,d4⟩
theorem run_clear_k {P:Program}(w:World)(t e:TypeId)(z:Value)(k:Nat)(ht:P.underlying t=some (.slice e))(hv:∀ w,(zeroValue e).run P w=.ok z w)(hz:z.cells.size=k)(h1:∀ u∈z.cells,u.oneCell'=true)(b o n c:Nat)(hn:0 < n)(hk:0 < k)
  (hc:∀ j,j < n*k→(w.cell? ⟨b,o+j,none⟩).isSome=true) (hf:∀ j,j < n*k→w.frozen? ⟨b,o+j,none⟩=false) :
  ∃ vs:List Value,∀ ty,(Builtin.clear_ #[t] ty #[.slice (some ⟨b,o,none⟩) n c]).run P w=.ok (.tuple #[]) (w.setCells b o vs):=by
 refine⟨(Builtin.zeroCells z.cells n).toList,fun ty=>?_⟩
 have hlen:(Builtin.zeroCells z.cells n).toList.length=n*k:=by simp[Builtin.zeroCells,hz]
 have hst:=run_storeCells_cells (P:=P) b o (Builtin.zeroCells z.cells n).toList 0 w (by rw[hlen];simpa using hc) (by rw[hlen];simpa using hf) (by
  intro v hv'
  simp only[Builtin.zeroCells,hz,Array.toList_map,List.mem_map]at hv'
  obtain⟨i,_,rfl⟩:=hv'
  have hi:i % k < z.cells.size:=by rw[hz];exact Nat.mod_lt _ hk
  first
   | (rw[getElem!_pos z.cells _ hi];exact h1 _ (Array.getElem_mem hi))
   | (simp only[Array.getElem?_eq_getElem hi];exact h1 _ (Array.getElem_mem hi)))
 simp only[Nat.add_zero]at hst
 obtain⟨m,rfl⟩:∃ m,n=m+1:=⟨n - 1,by omega⟩
 simp[Builtin.clear_,run_underlying ht,hv,hst]
theorem setCells_block {g:Nat}{e:TypeId}{fr:Nat × Nat}:∀(vs:List Value) (o:Nat) (w:World) (cur:Array Value),w.heap[g]?=some (.cells cur e fr) →
  w.grownBy (w.setCells g o vs) (some g)∧∃ cur':Array Value,(w.setCells g o vs).heap[g]?=some (.cells cur' e fr)∧cur'.size=cur.size∧∀ j,j < o→cur'[j]?=cur[j]?
 | [],o,w,cur,h=>⟨grown_refl _ _,cur,h,rfl,fun _ _=>rfl⟩
 | v::r,o,w,cur,h=>by
  have hs:w.grownBy (w.setCell ⟨g,o,none⟩ v) (some g):=grown_setCell (grown_refl _ _) _ (.inl rfl) _
  obtain⟨h1,cur',h2,h3,h4⟩:=setCells_block r (o+1) (w.setCell ⟨g,o,none⟩ v) (cur.setIfInBounds o v) (heap_setCell_same _ h)
  refine⟨⟨h1.os.trans hs.os,h1.tape.trans hs.tape,h1.output.trans hs.output,Nat.le_trans hs.size h1.size,fun k hk hne=>(h1.block k (Nat.lt_of_lt_of_le hk hs.size) hne).trans (hs.block k hk hne)⟩,cur',h2,by rw[h3];simp,fun j hj=>?_⟩
  rw[h4 j (by omega),Array.getElem?_setIfInBounds,if_neg (by omega)]
theorem OwnV.cut {w:World}{base g n cap:Nat}{xs:List VoteP}(h:OwnV w base (.slice (some ⟨g,0,none⟩) n cap) xs)(k:Nat)(hk:k≤n)(vs:List Value) :
  OwnV (w.setCells g (k*5) vs) base (.slice (some ⟨g,0,none⟩) k cap) (xs.take k)∧w.grownBy (w.setCells g (k*5) vs) (some g):=by
 have hn:=(OwnV.cells h).2.1
 obtain⟨h0,h1⟩:=h
 rcases h1 with⟨h2,_⟩ | ⟨g',cap',cur,hv,hb,hg,hn',hm,hs,ht⟩
 ·cases h2
 ·cases hv
  obtain⟨e1,cur',e2,e3,e4⟩:=setCells_block vs (k*5) w cur hg
  have hlk:((xs.take k).map vcells).length=k:=by rw[List.length_map,List.length_take];omega
  refine⟨⟨?_,.inr ⟨g,cap,cur',?_,hb,e2,by omega,hm,by rw[e3,hs],?_⟩⟩,e1⟩
  ·rw[flat_lenQ _ (vcells_len _)]
  ·rw[hlk]
  ·rw[hlk]
   have hcur:cur'.toList.take (k*5)=cur.toList.take (k*5):=by
    refine List.ext_getElem? fun j=>?_
    by_cases hj:j < k*5
    ·rw[List.getElem?_take_of_lt hj,List.getElem?_take_of_lt hj,Array.getElem?_toList,Array.getElem?_toList]
     exact e4 j hj
    ·rw[List.getElem?_take_eq_none (by omega),List.getElem?_take_eq_none (by omega)]
   rw[hcur]
   have h5:cur.toList.take (k*5)=(cur.toList.take ((xs.map vcells).length*5)).take (k*5):=by
    rw[List.take_take,Nat.min_eq_left]
    rw[List.length_map]
    omega
   rw[h5,ht]
   have h6:((xs.map vcells).flatten)=((xs.take k).map vcells).flatten++((xs.drop k).map vcells).flatten:=by
    rw[← List.flatten_append,← List.map_append,List.take_append_drop]
   rw[h6,List.take_append_of_le_length (by rw[flat_lenQ _ (vcells_len _),hlk];exact Nat.le_refl _)]
   rw[List.take_of_length_le]
   rw[flat_lenQ _ (vcells_len _),hlk]
   exact Nat.le_refl _
structure RowIs (w:World) (base g n cap:Nat) (dk:Array VoteP) (W:World):Prop where
 own:OwnV W base (.slice (some ⟨g,0,none⟩) n cap) dk.toList
 grow:w.grownBy W (some g)
theorem RowIs.drew {w:World}{base g n cap:Nat}{dk:Array VoteP}{W:World}(h:RowIs w base g n cap dk W)(q:Nat):RowIs w base g n cap dk (W.drewN q):=⟨OwnE.drewN h.own q,grown_drewN h.grow q⟩
theorem RowIs.el {w:World}{base g n cap:Nat}{dk:Array VoteP}{W:World}(h:RowIs w base g n cap dk W)(j:Nat)(hj:j < dk.size):W.cell? ⟨g,j*5,none⟩=some (.int .i64 dk[j]!.car)∧W.cell? ⟨g,j*5+1,none⟩=some (.int .i64 dk[j]!.num)∧W.cell? ⟨g,j*5+2,none⟩=some (.int .i64 dk[j]!.stp)∧W.cell? ⟨g,j*5+3,none⟩=some (.string dk[j]!.val)∧W.cell? ⟨g,j*5+4,none⟩=some (.string dk[j]!.sl) :=
 (OwnV.cells h.own).2.2.2.2 j dk[j]! (by rw[Array.getElem?_toList,Array.getElem?_eq_getElem hj,getElem!_pos dk j hj])
theorem RowIs.old {w:World}{base g n cap:Nat}{dk:Array VoteP}{W:World}(h:RowIs w base g n cap dk W):n=dk.size∧(∀ j,W.frozen? ⟨g,j,none⟩=false)∧∀ j,j < n*5→(W.cell? ⟨g,j,none⟩).isSome=true:=by
 obtain⟨h1,h2,h3,h4,h5⟩:=OwnV.cells h.own
 rw[Array.length_toList]at h2
 refine⟨h2,h1,fun j hj=>?_⟩
 obtain⟨a0,a1,a2,a3,a4⟩:=h.el (j / 5) (by omega)
 have e:j=j / 5*5+j % 5:=by omega
 have hr:j % 5 < 5:=Nat.mod_lt _ (by omega)
 generalize j / 5=q at *
 generalize j % 5=r at *
 subst e
 match r,hr with
 | 0,_=>rw[Nat.add_zero,a0];rfl
 | 1,_=>rw[a1];rfl
 | 2,_=>rw[a2];rfl
 | 3,_=>rw[a3];rfl
 | 4,_=>rw[a4];rfl
theorem RowIs.clr {w:World}{base g n cap:Nat}{dk:Array VoteP}{W:World}(h:RowIs w base g n cap dk W)(k:Nat)(hk:k < n):∃ vs:List Value,(∀ ty,(Builtin.clear_ #[35] ty #[.slice (some ⟨g,k*5,none⟩) (n - k) (cap - k)]).run Tryz.prog W=.ok (.tuple #[]) (W.setCells g (k*5) vs))∧OwnV (W.setCells g (k*5) vs) base (.slice (some ⟨g,0,none⟩) k cap) (dk.toList.take k)∧w.grownBy (W.setCells g (k*5) vs) (some g):=by
 obtain⟨h1,h2,h3⟩:=h.old
 obtain⟨vs,hv⟩:=run_clear_k (P:=Tryz.prog) W 35 27 (.agg #[.int .i64 0,.int .i64 0,.int .i64 0,.string ⟨#[]⟩,.string ⟨#[]⟩]) 5 (by kernel_rfl) Tryz.zeroValue27 rfl (by
  intro u hu
  simp only[Value.cells,Array.mem_def]at hu
  simp at hu
  rcases hu with rfl | rfl <;> rfl) g (k*5) (n - k) (cap - k) (by omega) (by omega) (fun j hj=>h3 _ (by have:=Nat.sub_mul n k 5;omega)) (fun j _=>h2 _)
 obtain⟨h4,h5⟩:=OwnV.cut h.own k (Nat.le_of_lt hk) vs
 have hg:=h.grow
 exact⟨vs,hv,h4,⟨h5.os.trans hg.os,h5.tape.trans hg.tape,h5.output.trans hg.output,Nat.le_trans hg.size h5.size,fun i hi hne=>(h5.block i (Nat.lt_of_lt_of_le hi hg.size) hne).trans (hg.block i hi hne)⟩⟩
theorem compInv_take {d dk:Array VoteP}{k:Nat}(h:CompInv d d.size k dk):dk.toList.take k=compactUpTo d d.size:=by
 refine List.ext_getElem? fun j=>?_
 have hk:=h.lt
 have hs:=h.size
 by_cases hj:j < k
 ·rw[List.getElem?_take_of_lt hj,h.low j hj,Array.getElem?_toList,Array.getElem?_eq_getElem (by omega),getElem!_pos dk j (by omega)]
 ·rw[List.getElem?_take_eq_none (by omega),List.getElem?_eq_none (by rw[h.len];omega)]
theorem RowIs.put {w:World}{base g n cap:Nat}{dk:Array VoteP}{W:World}(h:RowIs w base g n cap dk W)(k:Nat)(hk:k < dk.size)(v:VoteP) :
  RowIs w base g n cap (dk.setIfInBounds k v) (((((W.setCell ⟨g,k*5,none⟩ (.int .i64 v.car)).setCell ⟨g,k*5+1,none⟩ (.int .i64 v.num)).setCell ⟨g,k*5+2,none⟩ (.int .i64 v.stp)).setCell ⟨g,k*5+3,none⟩ (.string v.val)).setCell ⟨g,k*5+4,none⟩ (.string v.sl)):=by
 refine⟨?_,?_⟩
 ·have:=OwnV.set h.own k (by rw[Array.length_toList];exact hk) v
  rwa [← Array.toList_setIfInBounds]at this
 ·exact grown_setCell (grown_setCell (grown_setCell (grown_setCell (grown_setCell h.grow _ (.inl rfl) _) _ (.inl rfl) _) _ (.inl rfl) _) _ (.inl rfl) _) _ (.inl rfl) _
def CompIs (w:World)(base:Nat)(v:Value)(d:Array VoteP)(e:Ending)(w':World):Prop:=∃ v',e=.returned v'∧OwnV w' base v' (compactUpTo d d.size)∧w.grownBy w' v.ownBlock
set_option maxHeartbeats 8000000 in
set_option maxRecDepth 100000 in
theorem compact_any {w:World}{base:Nat}{v:Value}{d:Array VoteP}(h:OwnV w base v d.toList)(hl6:d.size≤1000000) :
  Calls Tryz.prog 113 #[v] w (CompIs w base v d):=by
 have HS:Hid ((∀ j,j < d.size→keeps d j=true)→compactUpTo d d.size=d.toList):=zh fun hall=>by rw[compactUpTo_all d _ hall,range_map_get]
 obtain⟨va,vc,hv⟩:=OwnV.form h
 rw[Array.length_toList]at hv
 subst hv
 by_cases h2:d.size < 2
 ·have HH:=zh h
  clear h
  obtain⟨n,hn⟩:∃ n,n=d.size:=⟨_,rfl⟩
  have HN:=zh hn
  rw[← hn]at h2 hl6 HH ⊢
  clear hn
  go_enter Tryz.func113,Tryz.ntmps113
  go_wp2
  go_ret
  refine⟨_,rfl,?_,grown_refl _ _⟩
  rw[HS.out (fun j hj=>keeps_lt_one d j (by rw[← HN.out]at hj;omega))]
  exact HH.out
 ·obtain⟨g,hg⟩:∃ g,va=some ⟨g,0,none⟩:=by
   rcases h.2 with⟨h3,_⟩ | ⟨g,cap,cur,h3,_⟩
   ·injection h3 with _ h4 _
    omega
   ·injection h3 with h4 _ _
    exact⟨g,h4⟩
  subst hg
  have HRW:Hid (RowIs w base g d.size vc d w):=zh ⟨h,grown_refl _ _⟩
  obtain⟨-,-,hc1,hc2,-⟩:=OwnV.cells h
  unfold maxLen at hc2
  have HGW:=(h.lt g rfl).2
  clear h
  obtain⟨n,hn⟩:∃ n,n=d.size:=⟨_,rfl⟩
  rw[← hn]at h2 hl6 HRW HS hc1
  have HN:=zh hn
  show Calls Tryz.prog 113 #[.slice _ d.size _] w _
  rw[← hn]
  clear hn
  go_enter Tryz.func113,Tryz.ntmps113
  go_wp2
  go_loopw [3] (fun i wr=>∃ k:Nat,1≤k∧k≤n∧i=.int .i64 k∧Hid (∀ j,j < k→keeps d j=true)∧Hid (RowIs w base g n vc d wr)) (fun i _=>n - (intOf i).toNat)
  case atStart=>exact⟨1,Nat.le_refl _,by omega,rfl,zh (keeps_lt_one d),HRW⟩
  case round =>
   obtain⟨k,hk1,hkn,rfl,hall,HR⟩:=hrel
   by_cases hlt:k < n
   ·obtain⟨p,rfl⟩:∃ p,k=p+1:=⟨k - 1,by omega⟩
    obtain⟨a0,a1,a2,a3,a4⟩:=HR.out.el (p+1) (by rw[← HN.out];exact hlt)
    obtain⟨b0,b1,b2,b3,b4⟩:=HR.out.el p (by rw[← HN.out];omega)
    have HE:=zh (fun W=>eqlVote d[p+1]! d[p]! W)
    have HX:Hid (d[p+1]! = d[p]!→keeps d (p+1)=false):=zh fun h=>keeps_neg (by omega) h
    have HY:Hid (d[p+1]!≠d[p]!→keeps d (p+1)=true):=zh fun h=>keeps_pos h
    generalize d[p+1]! = x at *
    generalize d[p]! = y at *
    have hpk:((p+1:Nat):Int) < (n:Int):=by omega
    have hpk0:(0:Int)≤((p+1:Nat):Int):=by omega
    have hp1:IntKind.i64.wrap (((p+1:Nat):Int) - 1)=(p:Int):=by rw[IntWalk.i64_in _ (by omega)];omega
    by_cases hdup:x=y
    ·subst hdup
     have HK:=zh (HX.out rfl)
     obtain⟨xc,xn,xs,xv,xl⟩:=x
     have he:=HE.out
     rw[decide_eq_true rfl]at he
     unfold vagg at he
     simp only at a0 a1 a2 a3 a4 b0 b1 b2 b3 b4 he
     have HST:=zh (show CompInv d (p+1+1) (p+1) d from CompInv.start hall.out HK.out)
     clear HE HX HY HK hall
     go_wp2
     go_quiet (fail)
     clear he a0 a1 a2 a3 a4 b0 b1 b2 b3 b4
     have HR1:=zh (HR.out.drew nq)
     clear HR
     generalize wr.drewN nq=W1 at *
     go_wp2
     obtain⟨L,hL⟩:∃ L,L=n - (p+1):=⟨_,rfl⟩
     obtain⟨C,hC⟩:∃ C,C=vc - (p+1):=⟨_,rfl⟩
     rw[← hL,← hC]
     have HC:=zh hC
     have HL:=zh hL
     clear hC hL
     go_loopw [3,5] (fun s i wr=>∃(kk m:Nat) (dk:Array VoteP),s=.int .i64 kk∧i=.int .i64 (m+1)∧p+1+(m+1)≤n∧kk < p+1+(m+1)∧Hid (CompInv d (p+1+(m+1)) kk dk)∧Hid (RowIs w base g n vc dk wr)) (fun _ i _=>n - (intOf i).toNat)
     case atStart=>exact⟨p+1,0,d,rfl,rfl,by omega,by omega,HST,HR1⟩
     case round =>
      obtain⟨kk,m,dk,rfl,rfl,hle,hkk,hI,HR2⟩:=hrel
      have hds:dk.size=n:=by rw[hI.out.size,HN.out]
      by_cases hlt2:p+1+(m+1) < n
      ·obtain⟨c0,c1,c2,c3,c4⟩:=HR2.out.el (p+1+(m+1)) (by rw[hds];exact hlt2)
       obtain⟨b0,b1,b2,b3,b4⟩:=HR2.out.el (p+1+m) (by rw[hds];omega)
       obtain⟨k0,k1,k2,k3,k4⟩:=HR2.out.el kk (by rw[hds];omega)
       rw[hI.out.high (p+1+(m+1)) (by omega)]at c0 c1 c2 c3 c4
       rw[hI.out.high (p+1+m) (by omega)]at b0 b1 b2 b3 b4
       obtain⟨hfz,-⟩:=OwnV.cells HR2.out.own
       have HE:=zh (fun W=>neqVote d[p+1+(m+1)]! d[p+1+m]! W)
       have HX:Hid (d[p+1+(m+1)]! = d[p+1+m]!→CompInv d (p+1+(m+1)+1) kk dk):=zh fun h=>hI.out.skip (keeps_neg (by omega) h)
       have HY:Hid (d[p+1+(m+1)]!≠d[p+1+m]!→CompInv d (p+1+(m+1)+1) (kk+1) (dk.setIfInBounds kk d[p+1+(m+1)]!)):=zh fun h=>hI.out.keep (by rw[← HN.out];exact hlt2) (keeps_pos h)
       have e1:(p+1+(m+1))*5=(p+1)*5+(m+1)*5:=Nat.add_mul _ _ _
       have e2:(p+1+m)*5=(p+1)*5+m*5:=Nat.add_mul _ _ _
       rw[e1]at c0 c1 c2 c3 c4
       rw[e2]at b0 b1 b2 b3 b4
       clear e1 e2
       generalize d[p+1+(m+1)]! = x at *
       generalize d[p+1+m]! = y at *
       generalize dk[kk]! = z at *
       have hm0:(0:Int)≤((m:Int)+1):=by omega
       have hml:((m:Int)+1) < (L:Int):=by have:=HL.out;omega
       have hml':(m:Int) < (L:Int):=by have:=HL.out;omega
       have hm1:IntKind.i64.wrap ((m:Int)+1 - 1)=(m:Int):=by rw[IntWalk.i64_in _ (by omega)];omega
       have hkn2:(kk:Int) < (n:Int):=by omega
       have hkn3:(0:Int)≤(kk:Int):=by omega
       have hkn4:kk < n:=by omega
       by_cases hdup:x=y
       ·have HK:=zh (HX.out hdup)
        subst hdup
        obtain⟨xc,xn,xs,xv,xl⟩:=x
        have he:=HE.out
        rw[decide_eq_true rfl]at he
        unfold vagg at he
        simp only at c0 c1 c2 c3 c4 b0 b1 b2 b3 b4 he
        clear HE HX HY k0 k1 k2 k3 k4 hfz hI
        go_wp2
        go_quiet (fail)
        go_wp2
        go_roundw
        case rel=>exact⟨kk,m+1,dk,rfl,by go_num,by omega,by omega,HK,zh (HR2.out.drew _)⟩
        case measure=>simp[intOf];omega
       ·have HK:=zh (HY.out hdup)
        have hd:decide (x=y)=false:=decide_eq_false hdup
        obtain⟨xc,xn,xs,xv,xl⟩:=x
        obtain⟨yc,yn,ys,yv,yl⟩:=y
        obtain⟨zc,zn,zs,zv,zl⟩:=z
        have he:=HE.out
        rw[hd]at he
        unfold vagg at he
        simp only at c0 c1 c2 c3 c4 b0 b1 b2 b3 b4 k0 k1 k2 k3 k4 he
        clear HE HX HY hI hd hdup
        go_wp2
        go_quiet (fail)
        go_wp2
        go_roundw
        case rel=>exact⟨kk+1,m+1,_,by go_num,by go_num,by omega,by omega,HK,zh ((HR2.out.drew _).put kk (by rw[hds];omega) _)⟩
        case measure=>simp[intOf];omega
      ·have hend:p+1+(m+1)=n:=by omega
       obtain rfl:L=m+1:=by have:=HL.out;omega
       have hkk2:kk < n:=by omega
       obtain⟨vs,hcl,hown,hgr⟩:=HR2.out.clr kk hkk2
       have HO:=zh hown
       have HG:=zh hgr
       have HT:=zh (show dk.toList.take kk=compactUpTo d n by
        have h:=hI.out
        rw[hend]at h
        rw[HN.out]at h ⊢
        exact compInv_take h)
       have h0:(0:Int)≤(kk:Int):=by omega
       have h1:(kk:Int)≤(n:Int):=by omega
       have h3:(kk:Int)≤(vc:Int):=by omega
       clear hown hgr hend HC HL hI HR2 hds
       generalize wr.setCells g (kk*5) vs=W9 at *
       go_wp2
       go_ret
       refine⟨_,rfl,?_,HG.out⟩
       have h:=HO.out
       rw[HT.out]at h
       rw[← HN.out]
       exact h
    ·have HK:=zh (HY.out hdup)
     have hd:decide (x=y)=false:=decide_eq_false hdup
     obtain⟨xc,xn,xs,xv,xl⟩:=x
     obtain⟨yc,yn,ys,yv,yl⟩:=y
     have he:=HE.out
     rw[hd]at he
     unfold vagg at he
     simp only at a0 a1 a2 a3 a4 b0 b1 b2 b3 b4 he
     clear HE HX HY hd hdup
     go_wp2
     go_quiet (fail)
     clear he a0 a1 a2 a3 a4 b0 b1 b2 b3 b4
     go_wp2
     go_roundw
     case rel =>
      refine⟨p+1+1,by omega,by omega,by go_num,zh fun j hj=>?_,zh (HR.out.drew _)⟩
      by_cases e:j=p+1
      ·subst e;exact HK.out
      ·exact hall.out j (by omega)
     case measure=>simp[intOf];omega
   ·obtain rfl:k=n:=by omega
    go_wp2
    go_ret
    refine⟨_,rfl,?_,?_⟩
    ·rw[← HN.out,HS.out (fun j hj=>hall.out j hj)]
     exact HR.out.own
    ·exact HR.out.grow
theorem OwnV.lower {w:World}{base base':Nat}{v:Value}{l:List VoteP}(h:OwnV w base v l)(hb:base'≤base):OwnV w base' v l:=by
 obtain⟨h1,h2⟩:=h
 refine⟨h1,?_⟩
 rcases h2 with h2 | ⟨g,cap,cur,a,b,c⟩
 ·exact .inl h2
 ·exact .inr ⟨g,cap,cur,a,Nat.le_trans hb b,c⟩
set_option maxHeartbeats 1000000 in
theorem sorted_any {w:World}{kv x:Value}{ks:List ByteArray}{l:List VoteP}(hr:SS w kv ks)(hks:∀ k∈ks,k.size≤1000)(hl:VS w x l)(hl6:l.length≤1000000)(he:Env w)(hg:3 < w.heap.size) :
  Calls Tryz.prog 81 #[.agg #[kv],x] w fun e w'=>∃ v,e=.returned v∧OwnV w' w.heap.size v (sortedV ks l)∧Below w.heap.size w w':=by
 obtain⟨ka,kn,kc,rfl⟩:∃ a n c,kv=.slice a n c:=by obtain⟨a,c,h,_⟩:=hr.opened;exact⟨_,_,_,h⟩
 obtain⟨a,cap,rfl,-,-,-⟩:=hl.opened
 obtain⟨n,hn⟩:∃ n,n=l.length:=⟨_,rfl⟩
 rw[← hn]at hl ⊢
 clear hn
 obtain⟨W1,hW1⟩:∃ W1,W1=w.alloc (.cells #[.slice ka kn kc] 31):=⟨_,rfl⟩
 have HB1:Hid (Below w.heap.size w W1):=zh (by rw[hW1];exact br0.alloc (Nat.le_refl _) _)
 obtain⟨W2,hW2⟩:∃ W2,W2=(W1.alloc (.cells #[.slice ka kn kc] 31)).alloc (.cells #[.slice a n cap] 35):=⟨_,rfl⟩
 have HB2:Hid (Below w.heap.size w W2):=zh (by rw[hW2];exact(HB1.out.alloc HB1.out.size _).alloc (by have:=HB1.out.size;simp;omega) _)
 have HF:=zh (genuine_fn ka kn kc a n cap W1)
 have HG:=zh (sortedFunc_any hr hks hl hl6 he hg HB2.out (W1.heap.size+1) W1.heap.size (by rw[hW2];exact heap_alloc2_new _ _ _) (by rw[hW2];exact heap_alloc2_old _ _ _))
 have HR:Hid (∀ d':Array VoteP,PermIn 0 (l.filter (genV ks)).length (l.filter (genV ks)).toArray d'→SortedIn (fun a b=>decide (cmpV a b < 0)) 0 (l.filter (genV ks)).length d'→compactUpTo d' d'.size=sortedV ks l∧d'.size≤1000000):=zh fun d' h1 h2=>⟨compact_sorted ks l (l.filter (genV ks)).toArray d' rfl (by rw[List.size_toArray];exact h1) (by rw[List.size_toArray];exact h2),by
  rw[h1.1,List.size_toArray]
  exact Nat.le_trans (List.length_filter_le _ _) hl6⟩
 have hc:W1.cell? ⟨w.heap.size,0,none⟩=some (.slice ka kn kc):=cell_of_row W1 _ 0 _ _ _ (by rw[hW1];exact heap_alloc_new w _)
 have HW1:=zh hW1
 have HW2:=zh hW2
 generalize sortedV ks l=R at *
 generalize l.filter (genV ks)=F at *
 clear hW1 hW2 hr hks hl he hg
 go_enter Tryz.func81,Tryz.ntmps81
 go_upto_region 1 with fail
 rw[← HW1.out]
 go_wp2_with (first | (go_at_call 108;refine HF.out.mono ?_;rintro e w2 ⟨rfl,hw2⟩;rw[← HW2.out]at hw2;replace hw2:=hw2.symm;subst hw2) | (go_at_call 114;refine HG.out.mono ?_;rintro e w3 ⟨v,rfl,d',hp,hs,h5,h6⟩;have HD:=zh (HR.out d' hp hs);have H5:=zh h5;have H6:=zh h6;clear hp hs h5 h6) | (go_at_call 113;refine(compact_any H5.out HD.out.2).mono ?_;rintro e w4 ⟨v',rfl,h7,h8⟩;have H7:=zh h7;have H8:=zh h8;clear h7 h8))
 go_ret
 refine⟨_,rfl,?_,?_⟩
 ·have h:=H7.out
  rw[HD.out.1]at h
  exact OwnV.lower h HB2.out.size
 ·exact(HB2.out.trans (H6.out.mono HB2.out.size)).grown H8.out (by have:=HB2.out.size;have:=H6.out.size;omega) (fun j e=>Nat.le_trans HB2.out.size (OwnE.ge H5.out j e))
def LowKept (w0:World)(B:Nat)(W:World):Prop:=B≤w0.heap.size∧Below B w0 W
theorem LowKept.more {w0:World}{B:Nat}(w w':World)(h:LowKept w0 B w)(h':Below w.heap.size w w'):LowKept w0 B w' :=
 ⟨h.1,h.2.trans (h'.mono (Nat.le_trans h.1 h.2.size))⟩
theorem LowKept.set {w0 W:World}{B:Nat}(h:LowKept w0 B W){b:Nat}(hb:B≤b)(j:Nat)(v:Value):LowKept w0 B (W.setCell ⟨b,j,none⟩ v):=⟨h.1,h.2.setCell (p:=⟨b,j,none⟩) hb v⟩
end Go.Proofs.YtggdcnjaofflbaaGreatDoor
