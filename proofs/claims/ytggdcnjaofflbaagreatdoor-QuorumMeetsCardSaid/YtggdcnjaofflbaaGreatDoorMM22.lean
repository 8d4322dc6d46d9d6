/- Walks: slices.AppendSeq, Collect at the genuine votes. The conditions: what the slices read as, lengths of keys, the table of constants. -/
import Derived.Test.YtggdcnjaofflbaaGreatDoorMM21
import Derived.Sort.OwnSorted
import Derived.Lib.SliceRun
namespace Go.Proofs.YtggdcnjaofflbaaGreatDoor
open Go.RowKit Go.BigFrame Go.Shelf
attribute [local go_sem] Oper.semAt_some
theorem abide_ownE {α:Type}{B base size:Nat}{e:TypeId}(v:Value)(f:List α→List (List Value)):Abide (α:=α) none B (fun pre W=>OwnE W base e size v (f pre)) :=
 ⟨fun pre A C h hs=>owns_any h hs.1,
  fun pre A C r h hg hr=>World.ownsRow.kept h hg (by
  rcases hr with hr | ⟨k,o,hr,_,ho,hc⟩
  ·rw[hr]
   cases hv:v.ownBlock with
   | none=>exact .inl rfl
   | some x=>exact .inr (by simp)
  ·rcases h.2 with⟨rfl,_⟩ | ⟨g,cap,cur,rfl,_,hgg,_⟩
   ·exact .inl rfl
   ·refine .inr (fun e'=>?_)
    rw[hr]at e'
    have e2:g=k:=by simpa [Value.ownBlock]using e'
    subst e2
    rw[hgg]at ho
    cases ho
    cases hc)⟩
set_option maxHeartbeats 4000000 in
set_option maxRecDepth 100000 in
theorem appendSeq_any {wd w:World}{kv x:Value}{ks:List ByteArray}{l:List VoteP}(hr:SS wd kv ks)(hks:∀ k∈ks,k.size≤1000)(hl:VS wd x l)(hl6:l.length≤1000000)(he:Env wd)(hg:3 < wd.heap.size)(hb:Below wd.heap.size wd w)(b1 b2:Nat)
  (h1:w.heap[b1]?=some (.cells #[x] 35 (0,0))) (h2:w.heap[b2]?=some (.cells #[kv] 31 (0,0))) :
  Calls Tryz.prog 168 #[.slice none 0 0,.func (.func 146) #[] #[.pointer (some ⟨b1,0,none⟩),.pointer (some ⟨b2,0,none⟩)]] w fun e w'=>∃ v,e=.returned v∧OwnV w' w.heap.size v (l.filter (genV ks))∧Below w.heap.size w w':=by
 have hl1:=(ltA h1)
 have hl2:=(ltA h2)
 obtain⟨W1,hW1⟩:∃ W1,W1=w.alloc (.cells #[.slice none 0 0] 35):=⟨_,rfl⟩
 have HB1:Hid (Below w.heap.size w W1):=zh (by rw[hW1];exact br0.alloc (Nat.le_refl _) _)
 have HP1:Hid (W1.heap[w.heap.size]?=some (.cells #[.slice none 0 0] 35 (0,0))):=zh (by rw[hW1];exact heap_alloc_new w _)
 have hs1:W1.heap.size=w.heap.size+1:=by rw[hW1];simp
 have HI:=zh (gen_iter wd W1 hr hks hl he hg (hb.trans (HB1.out.mono hb.size)) b1 b2 ((HB1.out.block b1 hl1).trans h1) ((HB1.out.block b2 hl2).trans h2))
 have hwd:=hb.size
 have HW1:=zh hW1
 clear hr hks he hg hb h1 h2 hW1
 refine calls_of_callsIn (n:=8) Wide.wide (callsIn_of_wp_marks Tryz.func168 rfl trivial ?_)
 simp only[Tryz.ntmps168,List.size_toArray,List.length_cons,List.length_nil,Nat.reduceAdd,Nat.reduceSub,Array.replicate_succ,Array.replicate_zero,List.push_toArray,List.append_toArray,List.nil_append,List.cons_append]
 refine wpIn_wide.2 ?_
 go_wp2
 rw[← HW1.out]
 refine(wpIn_wide (n:=8)).1 ?_
 refine wpIn_rangeA (n:=8) Wide.wide rfl (gf:=146) (lb:=#[.pointer (some ⟨b1,0,none⟩),.pointer (some ⟨b2,0,none⟩)]) ?ev (fun args w=>?enter) HI.out br0 (fun x=>rfl) (fun q e=>by cases e) (fun h h'=>h.trans h') (fun W l o o' h1 h2 h3 h4=>?kb)
  (fun pre W=>(∃ v,W.heap[w.heap.size]?=some (.cells #[v] 35 (0,0))∧OwnE W w.heap.size 27 5 v ((pre.map (·.1)).map vcells))∧Below w.heap.size w W) (fun _ _ _=>False) ?abide (fun _=>abide_false _ _) ⟨⟨_,HP1.out,OwnE.nil _ _ _ _⟩,HB1.out⟩
  (fun a x a' W=>∃ q,W.heap[q]?=some (.cells #[.int .i64 x.1.car,.int .i64 x.1.num,.int .i64 x.1.stp,.string x.1.val,.string x.1.sl] 27 (0,0))∧a'=⟨(a.tmps.setIfInBounds 7 (vagg x.1)).setIfInBounds 5 (.pointer (some ⟨q,0,none⟩)),[]⟩)
  (fun x a' W l o o' h1 h2 h3 h4=>?a1) (fun A C h1 h2=>?kg) (fun l pre x W K hI hK=>?assign) (fun lr pre x a' W hI hlen hA=>?body) (fun Dm xs W hDm hS hI hDd=>?done) (fun Dm c pre W hD hS hI=>hI.elim)
 case a1 =>
  obtain⟨q,hq,ha⟩:=h1
  exact⟨q,(World.putObj_heap_other (fun e=>by subst e;rw[h3]at hq;cases hq;cases h4)).trans hq,ha⟩
 case kg=>exact⟨br0.grown h2 (by omega) (fun j e=>by cases e),h2.block _ (by omega) (by simp),h2.block _ (by omega) (by simp)⟩
 case assign =>
  unfold GV.enc vagg at *
  simp only[List.zip_toArray,List.zip_cons_cons,List.zip_nil_right,List.foldl_toArray',List.foldl_cons,List.foldl_nil,List.setIfInBounds_toArray,List.set_cons_succ,List.set_cons_zero]
  gi_wp2
  exact hK _ _ ⟨W.heap.size,heap_alloc_new _ _,rfl⟩ (World.grownBy_alloc _ _ _)
 case ev=>rfl
 case enter=>kernel_rfl
 case kb=>exact⟨br0.grown (grownBy_putObj' W l o') (by have:=(ltA h2);omega) (fun j e=>by cases e;omega),World.putObj_heap_other (fun e=>by omega),World.putObj_heap_other (fun e=>by omega)⟩
 case abide=>exact abide_and (abide_ex fun v=>abide_and (abide_cells (fun _=>.cells #[v] 35) (fun _=>rfl) (by simp)) (abide_ownE (α:=GV ks) v (fun pre=>(pre.map (·.1)).map vcells))) (abide_below (by omega) (Nat.le_refl _) (fun q e=>by cases e))
 case body =>
  obtain⟨q,hq,rfl⟩:=hA
  obtain⟨⟨v,g1,g2⟩,g3⟩:=hI
  obtain⟨y,hy⟩:=x
  simp only at hq
  obtain⟨v0,v1,v2,v3,v4⟩:=vcellsAt hq
  have c1:W.cell? ⟨w.heap.size,0,none⟩=some v:=cell_of_row W _ 0 _ _ _ g1
  have hsW:=(ltA g1)
  have hqW:=(ltA hq)
  obtain⟨L,hL⟩:∃ L,L=pre.map (·.1):=⟨_,rfl⟩
  have HMP:Hid (((pre++[(⟨y,hy⟩:GV ks)]).map (·.1))=L++[y]):=zh (by rw[List.map_append,hL];rfl)
  have hLl:L.length < l.length:=by rw[hL,List.length_map];exact hlen
  rw[← hL]at g2
  clear hL
  obtain⟨X,hX⟩:∃ X:GV ks,X=⟨y,hy⟩:=⟨_,rfl⟩
  rw[← hX]at HMP ⊢
  have hXv:X.1=y:=by rw[hX]
  rw[hXv]
  clear hX hXv hq
  obtain⟨va,vc,hv⟩:=OwnV.form g2
  subst hv
  have G1:=zh g1
  have G2:=zh g2
  have G3:=zh g3
  clear g1 g2 g3
  have hcl:(L.map vcells).length < l.length:=by rw[List.length_map];exact hLl
  obtain⟨yc,yn,ys,yv,yl⟩:=y
  unfold vagg
  simp only at v0 v1 v2 v3 v4
  simp only[List.setIfInBounds_toArray,List.set_cons_succ,List.set_cons_zero]
  gi_wp2_with (refine wpListIn_append_el 35 27 5 56 _ (by kernel_rfl) infoVote3 rfl (by decide) rfl (.tmp 8) (.tmp 10) rfl w.heap.size (.slice va L.length vc) (L.map vcells) rfl (OwnE.alloc G2.out _) W.heap.size (vcells ⟨yc,yn,ys,yv,yl⟩) rfl (vcells_one _) rfl (0,0) (heap_alloc_new _ _) (by unfold maxLen;omega) (by omega) (by simp;omega) ?_;intro v3 w3 ho3 hg3;have HG3:=zh hg3;have HO3:=zh ho3;clear ho3 hg3;have HC3:Hid (w3.heap[w.heap.size]?=some (.cells #[.slice va L.length vc] 35 (0,0))):=zh ((HG3.out.block _ (by simp;omega) (own_ne G2.out G1.out (fun c e=>by cases e))).trans ((Below.heap_alloc _ _ _ hsW).trans G1.out));have d1:w3.cell? ⟨w.heap.size,0,none⟩=some (.slice va L.length vc):=cell_of_row w3 _ 0 _ _ _ HC3.out;have cf1:w3.frozen? ⟨w.heap.size,0,none⟩=false:=(by simp[World.frozen?,HC3.out]);obtain⟨a3,cp3,hv3⟩:=HO3.out.form;generalize (L.map vcells++[vcells ⟨yc,yn,ys,yv,yl⟩]).length=M3 at hv3;subst hv3)
  have hset:w3.grownBy (w3.setCell ⟨w.heap.size,0,none⟩ (.slice a3 M3 cp3)) (some w.heap.size):=grown_setCell (grown_refl _ _) _ (.inl rfl) _
  have hbw3:Below w.heap.size w w3:=(G3.out.alloc G3.out.size _).grown HG3.out (by simp;omega) (fun j e=>OwnE.ge G2.out j e)
  have hbW3:Below w.heap.size W w3:=((Below.refl _ W).alloc (Nat.le_of_lt hsW) _).grown HG3.out (by simp;omega) (fun j e=>OwnE.ge G2.out j e)
  have hbW4:Below w.heap.size W (w3.setCell ⟨w.heap.size,0,none⟩ (.slice a3 M3 cp3)):=hbW3.grown hset (by have:=hbW3.size;omega) (fun j e=>by cases e;exact Nat.le_refl _)
  refine⟨⟨hbW4.size,fun k o hk ho hnc=>?_⟩,⟨hbW4.mono hwd,hbW4.block _ hl1,hbW4.block _ hl2⟩,?_⟩
  ·have hkl:=(ltA ho)
   have h3:w3.heap[k]?=some o:=(HG3.out.block k (by simp;omega) (own_ne G2.out ho (fun c e=>by subst e;cases hnc))).trans ((Below.heap_alloc _ _ _ hkl).trans ho)
   exact(hset.block k (ltA h3) (fun e=>by
    have:=Option.some.inj e
    subst this
    rw[G1.out]at ho
    cases ho
    cases hnc)).trans h3
  ·show(∃ v,_∧OwnE _ _ _ _ _ ((List.map _ _).map vcells))∧_
   rw[HMP.out,List.map_append]
   refine⟨⟨_,?_,HO3.out.grownX HC3.out (fun c e=>by cases e) hset⟩,hbw3.grown hset (by have:=hbw3.size;omega) (fun j e=>by cases e;exact Nat.le_refl _)⟩
   rw[heap_setCell_same _ HC3.out]
   rfl
 case done =>
  obtain⟨⟨v,g1,g2⟩,g3⟩:=hI
  have c1:W.cell? ⟨w.heap.size,0,none⟩=some v:=cell_of_row W _ 0 _ _ _ g1
  have G1:=zh g1
  have G2:Hid (OwnV W w.heap.size v (l.filter (genV ks))):=zh (by rw[← hS];exact g2)
  have G3:=zh g3
  have HDd:=zh hDd
  have hsW:=(ltA g1)
  have hDm':w.heap.size+1≤Dm:=by omega
  obtain⟨va,vc,hv⟩:=G2.out.form
  subst hv
  clear hS g1 g2 g3 hDd hDm
  show Exit.inBlock _ _ _ (Act.mk _ [{ target:=.collected Dm,args:=#[] }]) W
  go_wp2
  have hM:Marks (w.heap.size+1) [Dm] W:=⟨by simp,fun D' hD=>by
   rw[List.mem_singleton]at hD
   subst hD
   exact⟨hDm',HDd.out⟩⟩
  refine leaves_marks (B:=w.heap.size+1) [Dm] W hM (fun W'' hT=>⟨_,results_tmp rfl _ _ _,.slice va (l.filter (genV ks)).length vc,rfl,Taken.owns hT G2.out,G3.out.trans (hT.below.mono (by omega))⟩)
end Go.Proofs.YtggdcnjaofflbaaGreatDoor
/- Walks: slices.Collect, SortFunc, SortedFunc at the genuine votes. The conditions: what the slices read as, lengths of keys, the table of constants. -/
namespace Go.Proofs.YtggdcnjaofflbaaGreatDoor
open Go.RowKit Go.BigFrame Go.Shelf Go.Sort Go.Lib
theorem flat_votes (d:Array VoteP):(flatK vcells 5 d).toList=(d.toList.map vcells).flatten:=by
 symm
 have hl:((d.toList.map vcells).flatten).length=d.size*5:=by
  rw[flat_lenQ _ (vcells_len _),List.length_map,Array.length_toList]
 refine List.ext_getElem? fun j=>?_
 by_cases hj:j < d.size*5
 ·obtain⟨u,hu⟩:∃ u,((d.toList.map vcells).flatten)[j]?=some u:=⟨_,List.getElem?_eq_getElem (by rw[hl];exact hj)⟩
  obtain⟨i,r,c,h1,h2,h3⟩:=flat_atQ _ (vcells_len _) j u hu
  rw[List.getElem?_map]at h1
  obtain⟨x,hx,rfl⟩:=Option.map_eq_some_iff.1 h1
  have hr:r < 5:=(List.getElem?_eq_some_iff.1 h2).1
  have hi:=(List.getElem?_eq_some_iff.1 hx).1
  rw[Array.length_toList]at hi
  rw[Array.getElem?_toList]at hx
  have hdx:d[i]! = x:=by
   rw[getElem!_pos d i hi]
   rw[Array.getElem?_eq_getElem hi]at hx
   exact Option.some.inj hx
  have e1:j / 5=i:=by omega
  have e2:j % 5=r:=by omega
  have h4:=get_flatK vcells 5 d j hj
  rw[e1,e2,hdx]at h4
  have h5:j < (flatK vcells 5 d).size:=by rw[size_flatK];exact hj
  rw[hu,Array.getElem?_toList,Array.getElem?_eq_getElem h5,← getElem!_pos _ j h5,h4]
  rw[List.getElem!_eq_getElem?_getD,h2]
  rfl
 ·rw[List.getElem?_eq_none (by rw[hl];omega),List.getElem?_eq_none (by rw[Array.length_toList,size_flatK];omega)]
theorem holdsK_of_block {w:World}{g:Nat}{cur:Array Value}{e:TypeId}{d:Array VoteP}(hb:w.heap[g]?=some (.cells cur e (0,0)))(ht:cur.toList.take (d.size*5)=(d.toList.map vcells).flatten):HoldsK vcells 5 w g 0 d:=by
 intro j hj
 rw[size_flatK]at hj
 refine⟨?_,by simp[World.frozen?,hb]⟩
 have h1:(cur.toList.take (d.size*5))[j]?=(flatK vcells 5 d).toList[j]?:=by rw[ht,flat_votes]
 rw[List.getElem?_take_of_lt hj,Array.getElem?_toList,Array.getElem?_toList]at h1
 have h5:j < (flatK vcells 5 d).size:=by rw[size_flatK];exact hj
 rw[Nat.zero_add,cell_of_row w g j _ _ _ hb,h1,Array.getElem?_eq_getElem h5,getElem!_pos _ j h5]
 rfl
theorem heap_putRowK {w:World}{g:Nat}{cur:Array Value}{e:TypeId}{fr:Nat × Nat}(d:Array VoteP)(hb:w.heap[g]?=some (.cells cur e fr)) :
  (putRowK vcells 5 w g 0 d).heap[g]?=some (.cells (putCells id 0 (flatK vcells 5 d) cur) e fr):=by
 simp[putRowK,putRow,mapBlock,Array.getElem?_modify,hb,onCells]
theorem grownBy_putRowK (w:World)(g:Nat)(d:Array VoteP):w.grownBy (putRowK vcells 5 w g 0 d) (some g):=by
 refine⟨rfl,rfl,rfl,by simp[putRowK,putRow,mapBlock],fun k hk hne=>?_⟩
 have:g≠k:=fun e=>hne (by rw[e])
 simp[putRowK,putRow,mapBlock,Array.getElem?_modify,this]
theorem take_putK (cur:Array Value)(d:Array VoteP)(h:d.size*5≤cur.size):(putCells id 0 (flatK vcells 5 d) cur).toList.take (d.size*5)=(d.toList.map vcells).flatten:=by
 rw[← flat_votes]
 apply List.ext_getElem?
 intro j
 by_cases hj:j < d.size*5
 ·have h5:j < (flatK vcells 5 d).size:=by rw[size_flatK];exact hj
  rw[List.getElem?_take_of_lt hj,Array.getElem?_toList,Array.getElem?_toList,Array.getElem?_eq_getElem h5]
  rw[← getElem!_pos _ j h5]
  simp[putCells,hj,show j < cur.size by omega]
 ·rw[List.getElem?_take_eq_none (by omega),List.getElem?_eq_none (by rw[Array.length_toList,size_flatK];omega)]
theorem ownV_put {w:World}{base g cap:Nat}{cur:Array Value}{n:Nat}{d:Array VoteP}(hbase:base≤g)(hb:w.heap[g]?=some (.cells cur 27 (0,0)))
  (hn:n=d.size) (h1:n≤cap) (h2:cap≤maxLen) (h3:cur.size=cap*5):OwnV (putRowK vcells 5 w g 0 d) base (.slice (some ⟨g,0,none⟩) n cap) d.toList:=by
 subst hn
 refine⟨?_,.inr ⟨g,cap,_,?_,hbase,heap_putRowK d hb,by rw[List.length_map,Array.length_toList];exact h1,h2,by simp[putCells,h3],?_⟩⟩
 ·rw[flat_lenQ _ (vcells_len _)]
 ·rw[List.length_map,Array.length_toList]
 ·rw[List.length_map,Array.length_toList]
  exact take_putK cur d (by rw[h3];exact Nat.mul_le_mul_right 5 h1)
theorem sortFunc_any {w:World}{base:Nat}{v:Value}{l:List VoteP}(h:OwnV w base v l)(hl6:l.length≤1000000) :
  Calls Tryz.prog 148 #[v,.func (.func 115) #[] #[]] w fun e w'=>e=.returned (.tuple #[])∧∃ d':Array VoteP,PermIn 0 l.length l.toArray d'∧SortedIn (fun a b=>decide (cmpV a b < 0)) 0 l.length d'∧OwnV w' base v d'.toList∧w.grownBy w' v.ownBlock:=by
 rcases h.2 with⟨rfl,h0⟩ | ⟨g,cap,cur,rfl,hg,hb,h1,h2,h3,h4⟩
 ·rw[List.length_map]at h0
  obtain rfl:=List.length_eq_zero_iff.1 h0
  refine(AnyF.slices_SortFunc_none { Tryz.sortF with } none 0 _ w).mono ?_
  rintro e w' ⟨he,rfl⟩
  exact⟨he,#[],⟨rfl,fun _ _=>rfl,List.Perm.refl _⟩,fun i j _ _ hj=>by simp at hj,h,grown_refl _ _⟩
 ·rw[List.length_map]at h1 h4 ⊢
  have eg:∀ args w,(callFunc 115 args).run Tryz.prog w=.ok (.enter 115 args) w:=enters_of Tryz.func115 (by kernel_rfl) rfl
  have hH:HoldsK vcells 5 w g 0 l.toArray:=holdsK_of_block hb (by simpa using h4)
  have hc:=AnyQ.slices_SortFunc Tryz.sortF 5 Tryz.isAgg27 Tryz.sizeOf27 vcells (fun _=>rfl) vcells_one cmpV cmpV_swo 115 #[] g 0 cap l.toArray w eg (fun m os dk hdk x y=>cmpfn_any x y _) hH (ltA hb) (by rw[List.size_toArray];omega)
  rw[List.size_toArray]at hc
  refine hc.mono ?_
  rintro e w' ⟨he,d',n,os,hp,hs,rfl⟩
  refine⟨he,d',hp,hs,?_,?_⟩
  ·have hd:d'.size=l.length:=by rw[hp.1,List.size_toArray]
   have o1:OwnV (putRowK vcells 5 (Sort.ahead w n) g 0 d') base (.slice (some ⟨g,0,none⟩) l.length cap) d'.toList:=ownV_put hg hb hd.symm h1 h2 h3
   refine owns_any o1 ⟨rfl,rfl,rfl,by simp[sortWorldK,grow],fun k hk _=>?_⟩
   exact heap_grow_old _ _ hk
  ·have g1:w.grownBy (putRowK vcells 5 (Sort.ahead w n) g 0 d') (some g):=by
    have:=grownBy_putRowK (Sort.ahead w n) g d'
    exact⟨this.os,this.tape,this.output,this.size,this.block⟩
   exact⟨g1.os,g1.tape,g1.output,by simp[sortWorldK,grow];have:=g1.size;omega,fun k hk hne=>(heap_grow_old _ _ (by have:=g1.size;omega)).trans (g1.block k hk hne)⟩
set_option maxHeartbeats 1000000 in
theorem collect_any {wd w:World}{kv x:Value}{ks:List ByteArray}{l:List VoteP}(hr:SS wd kv ks)(hks:∀ k∈ks,k.size≤1000)(hl:VS wd x l)(hl6:l.length≤1000000)(he:Env wd)(hg:3 < wd.heap.size)(hb:Below wd.heap.size wd w)(b1 b2:Nat)
  (h1:w.heap[b1]?=some (.cells #[x] 35 (0,0))) (h2:w.heap[b2]?=some (.cells #[kv] 31 (0,0))) :
  Calls Tryz.prog 147 #[.func (.func 146) #[] #[.pointer (some ⟨b1,0,none⟩),.pointer (some ⟨b2,0,none⟩)]] w fun e w'=>∃ v,e=.returned v∧OwnV w' w.heap.size v (l.filter (genV ks))∧Below w.heap.size w w':=by
 have H:=zh (appendSeq_any hr hks hl hl6 he hg hb b1 b2 h1 h2)
 generalize l.filter (genV ks)=R at *
 clear hr hks hl he hg hb h1 h2
 go_enter Tryz.func147,Tryz.ntmps147
 go_wp2_with (go_at_call 168;refine H.out.mono ?_;rintro e w1 ⟨v,rfl,h5,h6⟩;have H5:=zh h5;have H6:=zh h6;clear h5 h6)
 go_ret
 exact⟨v,rfl,H5.out,H6.out⟩
set_option maxHeartbeats 1000000 in
theorem sortedFunc_any {wd w:World}{kv x:Value}{ks:List ByteArray}{l:List VoteP}(hr:SS wd kv ks)(hks:∀ k∈ks,k.size≤1000)(hl:VS wd x l)(hl6:l.length≤1000000)(he:Env wd)(hg:3 < wd.heap.size)(hb:Below wd.heap.size wd w)(b1 b2:Nat)
  (h1:w.heap[b1]?=some (.cells #[x] 35 (0,0))) (h2:w.heap[b2]?=some (.cells #[kv] 31 (0,0))) :
  Calls Tryz.prog 114 #[.func (.func 146) #[] #[.pointer (some ⟨b1,0,none⟩),.pointer (some ⟨b2,0,none⟩)],.func (.func 115) #[] #[]] w fun e w'=>∃ v,e=.returned v∧∃ d':Array VoteP,PermIn 0 (l.filter (genV ks)).length (l.filter (genV ks)).toArray d'∧SortedIn (fun a b=>decide (cmpV a b < 0)) 0 (l.filter (genV ks)).length d'∧OwnV w' w.heap.size v d'.toList∧Below w.heap.size w w':=by
 have H:=zh (collect_any hr hks hl hl6 he hg hb b1 b2 h1 h2)
 have hR6:(l.filter (genV ks)).length≤1000000:=Nat.le_trans (List.length_filter_le _ _) hl6
 generalize l.filter (genV ks)=R at *
 clear hr hks hl he hg hb h1 h2
 go_enter Tryz.func114,Tryz.ntmps114
 go_wp2_with (first | (go_at_call 147;refine H.out.mono ?_;rintro e w1 ⟨v,rfl,h5,h6⟩;have H5:=zh h5;have H6:=zh h6;clear h5 h6) | (go_at_call 148;refine(sortFunc_any H5.out hR6).mono ?_;rintro e w2 ⟨rfl,d',hp,hs,h7,h8⟩;have HP:=zh hp;have HS:=zh hs;have H7:=zh h7;have H8:=zh h8;clear hp hs h7 h8))
 go_ret
 exact⟨v,rfl,d',HP.out,HS.out,H7.out,below_own H6.out H5.out H8.out (Nat.le_refl _)⟩
end Go.Proofs.YtggdcnjaofflbaaGreatDoor
/- Two votes compared. No condition. -/
namespace Go.Proofs.YtggdcnjaofflbaaGreatDoor
open Go.RowKit Go.BigFrame
theorem eqVote_iff (u v:VoteP):u=v ↔ u.car=v.car∧u.num=v.num∧u.stp=v.stp∧u.val=v.val∧u.sl=v.sl:=by
 obtain⟨a,b,c,d,e⟩:=u
 obtain⟨a',b',c',d',e'⟩:=v
 simp
theorem eqlVote (u v:VoteP)(w:World):(binOp .eql 27 (vagg u) (vagg v)).run Tryz.prog w=.ok (.bool (decide (u=v))) w:=by
 obtain⟨a,b,c,d,f⟩:=u
 obtain⟨a',b',c',d',f'⟩:=v
 have h1:=run_equalIn_struct (P:=Tryz.prog) w 9999 27 #[.int .i64 a,.int .i64 b,.int .i64 c,.string d,.string f] #[.int .i64 a',.int .i64 b',.int .i64 c',.string d',.string f'] (by kernel_rfl) (by kernel_rfl)
 have e:decide ((⟨a,b,c,d,f⟩:VoteP)=⟨a',b',c',d',f'⟩)=(a == a' && b == b' && c == c' && decide (d=d') && decide (f=f')):=by
  rw[Bool.eq_iff_iff,decide_eq_true_iff,eqVote_iff];simp[and_assoc]
 have g1:=same_str d d'
 have g2:=same_str f f'
 rw[e]
 unfold vagg
 rw[run_eql_struct,show(10000:Nat)=9999+1 from rfl,h1]
 simp only[go_sem,Program.fieldsOf]
 by_cases e1:a=a' <;> by_cases e2:b=b' <;> by_cases e3:c=c' <;> by_cases e4:d=d' <;> by_cases e5:f=f' <;> simp[go_sem,e1,e2,e3,e4,e5,g1,g2]
theorem neqVote (u v:VoteP)(w:World):(binOp .neq 27 (vagg u) (vagg v)).run Tryz.prog w=.ok (.bool (!decide (u=v))) w:=by
 have h:=eqlVote u v w
 unfold vagg at *
 rw[run_eql_struct]at h
 rw[run_neq_struct]
 generalize (Op.equalIn 10000 27 _ _).run Tryz.prog w=r at *
 cases r with
 | ok b w' =>
  simp only[Result.andThen_ok]at h ⊢
  injection h with h1 h2
  injection h1 with h1
  subst h1 h2
  rfl
 | _=>cases h
end Go.Proofs.YtggdcnjaofflbaaGreatDoor
/- Walk: slices.Compact at votes. The conditions: what the slice owns. -/
namespace Go.Proofs.YtggdcnjaofflbaaGreatDoor
open Go.RowKit Go.BigFrame Go.Shelf Go.Sort Go.Lib
theorem flat_setV:∀(xs:List VoteP) (k:Nat) (v:VoteP),k < xs.length →
  ((xs.set k v).map vcells).flatten=((((((xs.map vcells).flatten.set (k*5) (.int .i64 v.car)).set (k*5+1) (.int .i64 v.num)).set (k*5+2) (.int .i64 v.stp)).set (k*5+3) (.string v.val)).set (k*5+4) (.string v.sl))
 | [],k,v,h=>by simp at h
 | x::xs,0,v,_=>by
  simp[vcells]
 | x::xs,k+1,v,h=>by
  have ih:=flat_setV xs k v (by simpa using h)
  have hl:(vcells x).length=5:=rfl
  simp only[List.set_cons_succ,List.map_cons,List.flatten_cons]
  rw[ih]
  rw[List.set_append_right _ _ (by rw[hl];omega),List.set_append_right _ _ (by rw[hl];omega),List.set_append_right _ _ (by rw[hl];omega),List.set_append_right _ _ (by rw[hl];omega),List.set_append_right _ _ (by rw[hl];omega),hl]
  rw[show(k+1)*5 - 5=k*5 by omega,show(k+1)*5+1 - 5=k*5+1 by omega,show(k+1)*5+2 - 5=k*5+2 by omega,show(k+1)*5+3 - 5=k*5+3 by omega,show(k+1)*5+4 - 5=k*5+4 by omega]
theorem OwnV.set {w:World}{base g n cap:Nat}{xs:List VoteP}(h:OwnV w base (.slice (some ⟨g,0,none⟩) n cap) xs)(k:Nat)(hk:k < xs.length)(v:VoteP) :
  OwnV (((((w.setCell ⟨g,k*5,none⟩ (.int .i64 v.car)).setCell ⟨g,k*5+1,none⟩ (.int .i64 v.num)).setCell ⟨g,k*5+2,none⟩ (.int .i64 v.stp)).setCell ⟨g,k*5+3,none⟩ (.string v.val)).setCell ⟨g,k*5+4,none⟩ (.string v.sl)) base (.slice (some ⟨g,0,none⟩) n cap) (xs.set k v):=by
 obtain⟨h0,h1⟩:=h
 rcases h1 with⟨h2,_⟩ | ⟨g',cap',cur,hv,hb,hg,hn,hm,hs,ht⟩
 ·cases h2
 ·cases hv
  refine⟨?_,.inr ⟨g,cap,((((cur.setIfInBounds (k*5) (.int .i64 v.car)).setIfInBounds (k*5+1) (.int .i64 v.num)).setIfInBounds (k*5+2) (.int .i64 v.stp)).setIfInBounds (k*5+3) (.string v.val)).setIfInBounds (k*5+4) (.string v.sl),?_,hb,?_,?_,hm,?_,?_⟩⟩
  ·rw[flat_setV xs k v hk]
   simp only[List.length_set,List.length_map]at h0 ⊢
   exact h0
  ·simp only[List.length_map,List.length_set]
  ·exact heap_setCell_same _ (heap_setCell_same _ (heap_setCell_same _ (heap_setCell_same _ (heap_setCell_same _ hg))))
  ·simpa using hn
  ·simpa using hs
  ·rw[flat_setV xs k v hk]
   simp only[Array.toList_setIfInBounds,List.take_set,List.length_map,List.length_set]
   rw[List.length_map]at ht
   rw[ht]
theorem OwnV.cells {w:World}{base g n cap:Nat}{xs:List VoteP}(h:OwnV w base (.slice (some ⟨g,0,none⟩) n cap) xs):(∀ j,w.frozen? ⟨g,j,none⟩=false)∧n=xs.length∧n≤cap∧cap≤maxLen∧∀(k:Nat) (v:VoteP),xs[k]?=some v→w.cell? ⟨g,k*5,none⟩=some (.int .i64 v.car)∧w.cell? ⟨g,k*5+1,none⟩=some (.int .i64 v.num)∧w.cell? ⟨g,k*5+2,none⟩=some (.int .i64 v.stp)∧w.cell? ⟨g,k*5+3,none⟩=some (.string v.val)∧w.cell? ⟨g,k*5+4,none⟩=some (.string v.sl):=by
 have hv:=OwnV.vs h
 obtain⟨a,c,he,h1,h2,h3⟩:=hv.opened
 have hf:∀ j,w.frozen? ⟨g,j,none⟩=false:=by
  rcases h.2 with⟨h2,_⟩ | ⟨g',cap',cur,hv',hb,hg,_⟩
  ·cases h2
  ·injection hv' with e1 _ _
   injection e1 with e1
   injection e1 with e1 _ _
   subst e1
   intro j
   simp[World.frozen?,hg]
 injection he with e1 e2 e3
 subst e2 e3
 refine⟨hf,rfl,h1,h2,fun k v hk=>?_⟩
 ·obtain⟨b,o,hb,hbl,d⟩:=h3 k v hk
  rw[← e1]at hb
  injection hb with hb
  injection hb with e4 e5 _
  subst e4 e5
  obtain⟨d0,d1,d2,d3,d4⟩:=d
  simp only[Nat.zero_add]at d0 d1 d2 d3 d4
  exact⟨d0,d1,d2,d3,d4⟩
theorem run_clear_k {P:Program}(w:World)(t e:TypeId)(z:Value)(k:Nat)(ht:P.underlying t=some (.slice e))(hv:∀ w,(zeroValue e).run P w=.ok z w)(hz:z.cells.size=k)(h1:∀ u∈z.cells,u.oneCell'=true)(b o n c:Nat)(hn:0 < n)(hk:0 < k)
  (hc:∀ j,j < n*k→(w.cell? ⟨b,o+j,none⟩).isSome=true) (hf:∀ j,j < n*k→w.frozen? ⟨b,o+j,none⟩=false) :
  ∃ vs:List Value,∀ ty,(Builtin.clear_ #[t] ty #[.slice (some ⟨b,o,none⟩) n c]).run P w=.ok (.tuple #[]) (w.setCells b o vs):=by
 refine⟨(Builtin.zeroCells z.cells n).toList,fun ty=>?_⟩
 have hlen:(Builtin.zeroCells z.cells n).toList.length=n*k:=by simp[Builtin.zeroCells,hz]
 have hst:=run_storeCells_cells (P:=P) b o (Builtin.zeroCells z.cells n).toList 0 w (by rw[hlen];simpa using hc) (by rw[hlen];simpa using hf) (by
  intro v hv'
  simp only[Builtin.zeroCells,hz,Array.toList_map,List.mem_map]at hv'
  obtain⟨i,_,rfl⟩:=hv'
  have hi:i % k < z.cells.size:=by rw[hz];exact Nat.mod_lt _ hk
  first
   | (rw[getElem!_pos z.cells _ hi];exact h1 _ (Array.getElem_mem hi))
   | (simp only[Array.getElem?_eq_getElem hi];exact h1 _ (Array.getElem_mem hi)))
 simp only[Nat.add_zero]at hst
 obtain⟨m,rfl⟩:∃ m,n=m+1:=⟨n - 1,by omega⟩
 simp[Builtin.clear_,run_underlying ht,hv,hst]
theorem setCells_block {g:Nat}{e:TypeId}{fr:Nat × Nat}:∀(vs:List Value) (o:Nat) (w:World) (cur:Array Value),w.heap[g]?=some (.cells cur e fr) →
  w.grownBy (w.setCells g o vs) (some g)∧∃ cur':Array Value,(w.setCells g o vs).heap[g]?=some (.cells cur' e fr)∧cur'.size=cur.size∧∀ j,j < o→cur'[j]?=cur[j]?
 | [],o,w,cur,h=>⟨grown_refl _ _,cur,h,rfl,fun _ _=>rfl⟩
 | v::r,o,w,cur,h=>by
  have hs:w.grownBy (w.setCell ⟨g,o,none⟩ v) (some g):=grown_setCell (grown_refl _ _) _ (.inl rfl) _
  obtain⟨h1,cur',h2,h3,h4⟩:=setCells_block r (o+1) (w.setCell ⟨g,o,none⟩ v) (cur.setIfInBounds o v) (heap_setCell_same _ h)
  refine⟨⟨h1.os.trans hs.os,h1.tape.trans hs.tape,h1.output.trans hs.output,Nat.le_trans hs.size h1.size,fun k hk hne=>(h1.block k (Nat.lt_of_lt_of_le hk hs.size) hne).trans (hs.block k hk hne)⟩,cur',h2,by rw[h3];simp,fun j hj=>?_⟩
  rw[h4 j (by omega),Array.getElem?_setIfInBounds,if_neg (by omega)]
theorem OwnV.cut {w:World}{base g n cap:Nat}{xs:List VoteP}(h:OwnV w base (.slice (some ⟨g,0,none⟩) n cap) xs)(k:Nat)(hk:k≤n)(vs:List Value) :
  OwnV (w.setCells g (k*5) vs) base (.slice (some ⟨g,0,none⟩) k cap) (xs.take k)∧w.grownBy (w.setCells g (k*5) vs) (some g):=by
 have hn:=(OwnV.cells h).2.1
 obtain⟨h0,h1⟩:=h
 rcases h1 with⟨h2,_⟩ | ⟨g',cap',cur,hv,hb,hg,hn',hm,hs,ht⟩
 ·cases h2
 ·cases hv
  obtain⟨e1,cur',e2,e3,e4⟩:=setCells_block vs (k*5) w cur hg
  have hlk:((xs.take k).map vcells).length=k:=by rw[List.length_map,List.length_take];omega
  refine⟨⟨?_,.inr ⟨g,cap,cur',?_,hb,e2,by omega,hm,by rw[e3,hs],?_⟩⟩,e1⟩
  ·rw[flat_lenQ _ (vcells_len _)]
  ·rw[hlk]
  ·rw[hlk]
   have hcur:cur'.toList.take (k*5)=cur.toList.take (k*5):=by
    refine List.ext_getElem? fun j=>?_
    by_cases hj:j < k*5
    ·rw[List.getElem?_take_of_lt hj,List.getElem?_take_of_lt hj,Array.getElem?_toList,Array.getElem?_toList]
     exact e4 j hj
    ·rw[List.getElem?_take_eq_none (by omega),List.getElem?_take_eq_none (by omega)]
   rw[hcur]
   have h5:cur.toList.take (k*5)=(cur.toList.take ((xs.map vcells).length*5)).take (k*5):=by
    rw[List.take_take,Nat.min_eq_left]
    rw[List.length_map]
    omega
   rw[h5,ht]
   have h6:((xs.map vcells).flatten)=((xs.take k).map vcells).flatten++((xs.drop k).map vcells).flatten:=by
    rw[← List.flatten_append,← List.map_append,List.take_append_drop]
   rw[h6,List.take_append_of_le_length (by rw[flat_lenQ _ (vcells_len _),hlk];exact Nat.le_refl _)]
   rw[List.take_of_length_le]
   rw[flat_lenQ _ (vcells_len _),hlk]
   exact Nat.le_refl _
end Go.Proofs.YtggdcnjaofflbaaGreatDoor
/- Walk: slices.Compact at votes. The conditions: what the slice owns. -/
namespace Go.Proofs.YtggdcnjaofflbaaGreatDoor
open Go.RowKit Go.BigFrame Go.Shelf Go.Sort Go.Lib
structure RowIs (w:World) (base g n cap:Nat) (dk:Array VoteP) (W:World):Prop where
 own:OwnV W base (.slice (some ⟨g,0,none⟩) n cap) dk.toList
 grow:w.grownBy W (some g)
theorem RowIs.drew {w:World}{base g n cap:Nat}{dk:Array VoteP}{W:World}(h:RowIs w base g n cap dk W)(q:Nat):RowIs w base g n cap dk (W.drewN q):=⟨OwnE.drewN h.own q,grown_drewN h.grow q⟩
theorem RowIs.el {w:World}{base g n cap:Nat}{dk:Array VoteP}{W:World}(h:RowIs w base g n cap dk W)(j:Nat)(hj:j < dk.size):W.cell? ⟨g,j*5,none⟩=some (.int .i64 dk[j]!.car)∧W.cell? ⟨g,j*5+1,none⟩=some (.int .i64 dk[j]!.num)∧W.cell? ⟨g,j*5+2,none⟩=some (.int .i64 dk[j]!.stp)∧W.cell? ⟨g,j*5+3,none⟩=some (.string dk[j]!.val)∧W.cell? ⟨g,j*5+4,none⟩=some (.string dk[j]!.sl) :=
 (OwnV.cells h.own).2.2.2.2 j dk[j]! (by rw[Array.getElem?_toList,Array.getElem?_eq_getElem hj,getElem!_pos dk j hj])
theorem RowIs.old {w:World}{base g n cap:Nat}{dk:Array VoteP}{W:World}(h:RowIs w base g n cap dk W):n=dk.size∧(∀ j,W.frozen? ⟨g,j,none⟩=false)∧∀ j,j < n*5→(W.cell? ⟨g,j,none⟩).isSome=true:=by
 obtain⟨h1,h2,h3,h4,h5⟩:=OwnV.cells h.own
 rw[Array.length_toList]at h2
 refine⟨h2,h1,fun j hj=>?_⟩
 obtain⟨a0,a1,a2,a3,a4⟩:=h.el (j / 5) (by omega)
 have e:j=j / 5*5+j % 5:=by omega
 have hr:j % 5 < 5:=Nat.mod_lt _ (by omega)
 generalize j / 5=q at *
 generalize j % 5=r at *
 subst e
 match r,hr with
 | 0,_=>rw[Nat.add_zero,a0];rfl
 | 1,_=>rw[a1];rfl
 | 2,_=>rw[a2];rfl
 | 3,_=>rw[a3];rfl
 | 4,_=>rw[a4];rfl
theorem RowIs.clr {w:World}{base g n cap:Nat}{dk:Array VoteP}{W:World}(h:RowIs w base g n cap dk W)(k:Nat)(hk:k < n):∃ vs:List Value,(∀ ty,(Builtin.clear_ #[35] ty #[.slice (some ⟨g,k*5,none⟩) (n - k) (cap - k)]).run Tryz.prog W=.ok (.tuple #[]) (W.setCells g (k*5) vs))∧OwnV (W.setCells g (k*5) vs) base (.slice (some ⟨g,0,none⟩) k cap) (dk.toList.take k)∧w.grownBy (W.setCells g (k*5) vs) (some g):=by
 obtain⟨h1,h2,h3⟩:=h.old
 obtain⟨vs,hv⟩:=run_clear_k (P:=Tryz.prog) W 35 27 (.agg #[.int .i64 0,.int .i64 0,.int .i64 0,.string ⟨#[]⟩,.string ⟨#[]⟩]) 5 (by kernel_rfl) Tryz.zeroValue27 rfl (by
  intro u hu
  simp only[Value.cells,Array.mem_def]at hu
  simp at hu
  rcases hu with rfl | rfl <;> rfl) g (k*5) (n - k) (cap - k) (by omega) (by omega) (fun j hj=>h3 _ (by have:=Nat.sub_mul n k 5;omega)) (fun j _=>h2 _)
 obtain⟨h4,h5⟩:=OwnV.cut h.own k (Nat.le_of_lt hk) vs
 have hg:=h.grow
 exact⟨vs,hv,h4,⟨h5.os.trans hg.os,h5.tape.trans hg.tape,h5.output.trans hg.output,Nat.le_trans hg.size h5.size,fun i hi hne=>(h5.block i (Nat.lt_of_lt_of_le hi hg.size) hne).trans (hg.block i hi hne)⟩⟩
theorem compInv_take {d dk:Array VoteP}{k:Nat}(h:CompInv d d.size k dk):dk.toList.take k=compactUpTo d d.size:=by
 refine List.ext_getElem? fun j=>?_
 have hk:=h.lt
 have hs:=h.size
 by_cases hj:j < k
 ·rw[List.getElem?_take_of_lt hj,h.low j hj,Array.getElem?_toList,Array.getElem?_eq_getElem (by omega),getElem!_pos dk j (by omega)]
 ·rw[List.getElem?_take_eq_none (by omega),List.getElem?_eq_none (by rw[h.len];omega)]
theorem RowIs.put {w:World}{base g n cap:Nat}{dk:Array VoteP}{W:World}(h:RowIs w base g n cap dk W)(k:Nat)(hk:k < dk.size)(v:VoteP) :
  RowIs w base g n cap (dk.setIfInBounds k v) (((((W.setCell ⟨g,k*5,none⟩ (.int .i64 v.car)).setCell ⟨g,k*5+1,none⟩ (.int .i64 v.num)).setCell ⟨g,k*5+2,none⟩ (.int .i64 v.stp)).setCell ⟨g,k*5+3,none⟩ (.string v.val)).setCell ⟨g,k*5+4,none⟩ (.string v.sl)):=by
 refine⟨?_,?_⟩
 ·have:=OwnV.set h.own k (by rw[Array.length_toList];exact hk) v
  rwa [← Array.toList_setIfInBounds]at this
 ·exact grown_setCell (grown_setCell (grown_setCell (grown_setCell (grown_setCell h.grow _ (.inl rfl) _) _ (.inl rfl) _) _ (.inl rfl) _) _ (.inl rfl) _) _ (.inl rfl) _
def CompIs (w:World)(base:Nat)(v:Value)(d:Array VoteP)(e:Ending)(w':World):Prop:=∃ v',e=.returned v'∧OwnV w' base v' (compactUpTo d d.size)∧w.grownBy w' v.ownBlock
set_option maxHeartbeats 8000000 in
set_option maxRecDepth 100000 in
theorem compact_any {w:World}{base:Nat}{v:Value}{d:Array VoteP}(h:OwnV w base v d.toList)(hl6:d.size≤1000000) :
  Calls Tryz.prog 113 #[v] w (CompIs w base v d):=by
 have HS:Hid ((∀ j,j < d.size→keeps d j=true)→compactUpTo d d.size=d.toList):=zh fun hall=>by rw[compactUpTo_all d _ hall,range_map_get]
 obtain⟨va,vc,hv⟩:=OwnV.form h
 rw[Array.length_toList]at hv
 subst hv
 by_cases h2:d.size < 2
 ·have HH:=zh h
  clear h
  obtain⟨n,hn⟩:∃ n,n=d.size:=⟨_,rfl⟩
  have HN:=zh hn
  rw[← hn]at h2 hl6 HH ⊢
  clear hn
  go_enter Tryz.func113,Tryz.ntmps113
  go_wp2
  go_ret
  refine⟨_,rfl,?_,grown_refl _ _⟩
  rw[HS.out (fun j hj=>keeps_lt_one d j (by rw[← HN.out]at hj;omega))]
  exact HH.out
 ·obtain⟨g,hg⟩:∃ g,va=some ⟨g,0,none⟩:=by
   rcases h.2 with⟨h3,_⟩ | ⟨g,cap,cur,h3,_⟩
   ·injection h3 with _ h4 _
    omega
   ·injection h3 with h4 _ _
    exact⟨g,h4⟩
  subst hg
  have HRW:Hid (RowIs w base g d.size vc d w):=zh ⟨h,grown_refl _ _⟩
  obtain⟨-,-,hc1,hc2,-⟩:=OwnV.cells h
  unfold maxLen at hc2
  have HGW:=(h.lt g rfl).2
  clear h
  obtain⟨n,hn⟩:∃ n,n=d.size:=⟨_,rfl⟩
  rw[← hn]at h2 hl6 HRW HS hc1
  have HN:=zh hn
  show Calls Tryz.prog 113 #[.slice _ d.size _] w _
  rw[← hn]
  clear hn
  go_enter Tryz.func113,Tryz.ntmps113
  go_wp2
  go_loopw [3] (fun i wr=>∃ k:Nat,1≤k∧k≤n∧i=.int .i64 k∧Hid (∀ j,j < k→keeps d j=true)∧Hid (RowIs w base g n vc d wr)) (fun i _=>n - (intOf i).toNat)
  case atStart=>exact⟨1,Nat.le_refl _,by omega,rfl,zh (keeps_lt_one d),HRW⟩
  case round =>
   obtain⟨k,hk1,hkn,rfl,hall,HR⟩:=hrel
   by_cases hlt:k < n
   ·obtain⟨p,rfl⟩:∃ p,k=p+1:=⟨k - 1,by omega⟩
    obtain⟨a0,a1,a2,a3,a4⟩:=HR.out.el (p+1) (by rw[← HN.out];exact hlt)
    obtain⟨b0,b1,b2,b3,b4⟩:=HR.out.el p (by rw[← HN.out];omega)
    have HE:=zh (fun W=>eqlVote d[p+1]! d[p]! W)
    have HX:Hid (d[p+1]! = d[p]!→keeps d (p+1)=false):=zh fun h=>keeps_neg (by omega) h
    have HY:Hid (d[p+1]!≠d[p]!→keeps d (p+1)=true):=zh fun h=>keeps_pos h
    generalize d[p+1]! = x at *
    generalize d[p]! = y at *
    have hpk:((p+1:Nat):Int) < (n:Int):=by omega
    have hpk0:(0:Int)≤((p+1:Nat):Int):=by omega
    have hp1:IntKind.i64.wrap (((p+1:Nat):Int) - 1)=(p:Int):=by rw[IntWalk.i64_in _ (by omega)];omega
    by_cases hdup:x=y
    ·subst hdup
     have HK:=zh (HX.out rfl)
     obtain⟨xc,xn,xs,xv,xl⟩:=x
     have he:=HE.out
     rw[decide_eq_true rfl]at he
     unfold vagg at he
     simp only at a0 a1 a2 a3 a4 b0 b1 b2 b3 b4 he
     have HST:=zh (show CompInv d (p+1+1) (p+1) d from CompInv.start hall.out HK.out)
     clear HE HX HY HK hall
     go_wp2
     go_quiet (fail)
     clear he a0 a1 a2 a3 a4 b0 b1 b2 b3 b4
     have HR1:=zh (HR.out.drew nq)
     clear HR
     generalize wr.drewN nq=W1 at *
     go_wp2
     obtain⟨L,hL⟩:∃ L,L=n - (p+1):=⟨_,rfl⟩
     obtain⟨C,hC⟩:∃ C,C=vc - (p+1):=⟨_,rfl⟩
     rw[← hL,← hC]
     have HC:=zh hC
     have HL:=zh hL
     clear hC hL
     go_loopw [3,5] (fun s i wr=>∃(kk m:Nat) (dk:Array VoteP),s=.int .i64 kk∧i=.int .i64 (m+1)∧p+1+(m+1)≤n∧kk < p+1+(m+1)∧Hid (CompInv d (p+1+(m+1)) kk dk)∧Hid (RowIs w base g n vc dk wr)) (fun _ i _=>n - (intOf i).toNat)
     case atStart=>exact⟨p+1,0,d,rfl,rfl,by omega,by omega,HST,HR1⟩
     case round =>
      obtain⟨kk,m,dk,rfl,rfl,hle,hkk,hI,HR2⟩:=hrel
      have hds:dk.size=n:=by rw[hI.out.size,HN.out]
      by_cases hlt2:p+1+(m+1) < n
      ·obtain⟨c0,c1,c2,c3,c4⟩:=HR2.out.el (p+1+(m+1)) (by rw[hds];exact hlt2)
       obtain⟨b0,b1,b2,b3,b4⟩:=HR2.out.el (p+1+m) (by rw[hds];omega)
       obtain⟨k0,k1,k2,k3,k4⟩:=HR2.out.el kk (by rw[hds];omega)
       rw[hI.out.high (p+1+(m+1)) (by omega)]at c0 c1 c2 c3 c4
       rw[hI.out.high (p+1+m) (by omega)]at b0 b1 b2 b3 b4
       obtain⟨hfz,-⟩:=OwnV.cells HR2.out.own
       have HE:=zh (fun W=>neqVote d[p+1+(m+1)]! d[p+1+m]! W)
       have HX:Hid (d[p+1+(m+1)]! = d[p+1+m]!→CompInv d (p+1+(m+1)+1) kk dk):=zh fun h=>hI.out.skip (keeps_neg (by omega) h)
       have HY:Hid (d[p+1+(m+1)]!≠d[p+1+m]!→CompInv d (p+1+(m+1)+1) (kk+1) (dk.setIfInBounds kk d[p+1+(m+1)]!)):=zh fun h=>hI.out.keep (by rw[← HN.out];exact hlt2) (keeps_pos h)
       have e1:(p+1+(m+1))*5=(p+1)*5+(m+1)*5:=Nat.add_mul _ _ _
       have e2:(p+1+m)*5=(p+1)*5+m*5:=Nat.add_mul _ _ _
       rw[e1]at c0 c1 c2 c3 c4
       rw[e2]at b0 b1 b2 b3 b4
       clear e1 e2
       generalize d[p+1+(m+1)]! = x at *
       generalize d[p+1+m]! = y at *
       generalize dk[kk]! = z at *
       have hm0:(0:Int)≤((m:Int)+1):=by omega
       have hml:((m:Int)+1) < (L:Int):=by have:=HL.out;omega
       have hml':(m:Int) < (L:Int):=by have:=HL.out;omega
       have hm1:IntKind.i64.wrap ((m:Int)+1 - 1)=(m:Int):=by rw[IntWalk.i64_in _ (by omega)];omega
       have hkn2:(kk:Int) < (n:Int):=by omega
       have hkn3:(0:Int)≤(kk:Int):=by omega
       have hkn4:kk < n:=by omega
       by_cases hdup:x=y
       ·have HK:=zh (HX.out hdup)
        subst hdup
        obtain⟨xc,xn,xs,xv,xl⟩:=x
        have he:=HE.out
        rw[decide_eq_true rfl]at he
        unfold vagg at he
        simp only at c0 c1 c2 c3 c4 b0 b1 b2 b3 b4 he
        clear HE HX HY k0 k1 k2 k3 k4 hfz hI
        go_wp2
        go_quiet (fail)
        go_wp2
        go_roundw
        case rel=>exact⟨kk,m+1,dk,rfl,by go_num,by omega,by omega,HK,zh (HR2.out.drew _)⟩
        case measure=>simp[intOf];omega
       ·have HK:=zh (HY.out hdup)
        have hd:decide (x=y)=false:=decide_eq_false hdup
        obtain⟨xc,xn,xs,xv,xl⟩:=x
        obtain⟨yc,yn,ys,yv,yl⟩:=y
        obtain⟨zc,zn,zs,zv,zl⟩:=z
        have he:=HE.out
        rw[hd]at he
        unfold vagg at he
        simp only at c0 c1 c2 c3 c4 b0 b1 b2 b3 b4 k0 k1 k2 k3 k4 he
        clear HE HX HY hI hd hdup
        go_wp2
        go_quiet (fail)
        go_wp2
        go_roundw
        case rel=>exact⟨kk+1,m+1,_,by go_num,by go_num,by omega,by omega,HK,zh ((HR2.out.drew _).put kk (by rw[hds];omega) _)⟩
        case measure=>simp[intOf];omega
      ·have hend:p+1+(m+1)=n:=by omega
       obtain rfl:L=m+1:=by have:=HL.out;omega
       have hkk2:kk < n:=by omega
       obtain⟨vs,hcl,hown,hgr⟩:=HR2.out.clr kk hkk2
       have HO:=zh hown
       have HG:=zh hgr
       have HT:=zh (show dk.toList.take kk=compactUpTo d n by
        have h:=hI.out
        rw[hend]at h
        rw[HN.out]at h ⊢
        exact compInv_take h)
       have h0:(0:Int)≤(kk:Int):=by omega
       have h1:(kk:Int)≤(n:Int):=by omega
       have h3:(kk:Int)≤(vc:Int):=by omega
       clear hown hgr hend HC HL hI HR2 hds
       generalize wr.setCells g (kk*5) vs=W9 at *
       go_wp2
       go_ret
       refine⟨_,rfl,?_,HG.out⟩
       have h:=HO.out
       rw[HT.out]at h
       rw[← HN.out]
       exact h
    ·have HK:=zh (HY.out hdup)
     have hd:decide (x=y)=false:=decide_eq_false hdup
     obtain⟨xc,xn,xs,xv,xl⟩:=x
     obtain⟨yc,yn,ys,yv,yl⟩:=y
     have he:=HE.out
     rw[hd]at he
     unfold vagg at he
     simp only at a0 a1 a2 a3 a4 b0 b1 b2 b3 b4 he
     clear HE HX HY hd hdup
     go_wp2
     go_quiet (fail)
     clear he a0 a1 a2 a3 a4 b0 b1 b2 b3 b4
     go_wp2
     go_roundw
     case rel =>
      refine⟨p+1+1,by omega,by omega,by go_num,zh fun j hj=>?_,zh (HR.out.drew _)⟩
      by_cases e:j=p+1
      ·subst e;exact HK.out
      ·exact hall.out j (by omega)
     case measure=>simp[intOf];omega
   ·obtain rfl:k=n:=by omega
    go_wp2
    go_ret
    refine⟨_,rfl,?_,?_⟩
    ·rw[← HN.out,HS.out (fun j hj=>hall.out j hj)]
     exact HR.out.own
    ·exact HR.out.grow
end Go.Proofs.YtggdcnjaofflbaaGreatDoor
/- Walk of package quorum: sorted. The conditions: what the slices read as, lengths of keys, the table of constants. -/
namespace Go.Proofs.YtggdcnjaofflbaaGreatDoor
open Go.RowKit Go.BigFrame Go.Shelf Go.Sort Go.Lib
theorem OwnV.lower {w:World}{base base':Nat}{v:Value}{l:List VoteP}(h:OwnV w base v l)(hb:base'≤base):OwnV w base' v l:=by
 obtain⟨h1,h2⟩:=h
 refine⟨h1,?_⟩
 rcases h2 with h2 | ⟨g,cap,cur,a,b,c⟩
 ·exact .inl h2
 ·exact .inr ⟨g,cap,cur,a,Nat.le_trans hb b,c⟩
set_option maxHeartbeats 1000000 in
theorem sorted_any {w:World}{kv x:Value}{ks:List ByteArray}{l:List VoteP}(hr:SS w kv ks)(hks:∀ k∈ks,k.size≤1000)(hl:VS w x l)(hl6:l.length≤1000000)(he:Env w)(hg:3 < w.heap.size) :
  Calls Tryz.prog 81 #[.agg #[kv],x] w fun e w'=>∃ v,e=.returned v∧OwnV w' w.heap.size v (sortedV ks l)∧Below w.heap.size w w':=by
 obtain⟨ka,kn,kc,rfl⟩:∃ a n c,kv=.slice a n c:=by obtain⟨a,c,h,_⟩:=hr.opened;exact⟨_,_,_,h⟩
 obtain⟨a,cap,rfl,-,-,-⟩:=hl.opened
 obtain⟨n,hn⟩:∃ n,n=l.length:=⟨_,rfl⟩
 rw[← hn]at hl ⊢
 clear hn
 obtain⟨W1,hW1⟩:∃ W1,W1=w.alloc (.cells #[.slice ka kn kc] 31):=⟨_,rfl⟩
 have HB1:Hid (Below w.heap.size w W1):=zh (by rw[hW1];exact br0.alloc (Nat.le_refl _) _)
 obtain⟨W2,hW2⟩:∃ W2,W2=(W1.alloc (.cells #[.slice ka kn kc] 31)).alloc (.cells #[.slice a n cap] 35):=⟨_,rfl⟩
 have HB2:Hid (Below w.heap.size w W2):=zh (by rw[hW2];exact(HB1.out.alloc HB1.out.size _).alloc (by have:=HB1.out.size;simp;omega) _)
 have HF:=zh (genuine_fn ka kn kc a n cap W1)
 have HG:=zh (sortedFunc_any hr hks hl hl6 he hg HB2.out (W1.heap.size+1) W1.heap.size (by rw[hW2];exact heap_alloc2_new _ _ _) (by rw[hW2];exact heap_alloc2_old _ _ _))
 have HR:Hid (∀ d':Array VoteP,PermIn 0 (l.filter (genV ks)).length (l.filter (genV ks)).toArray d'→SortedIn (fun a b=>decide (cmpV a b < 0)) 0 (l.filter (genV ks)).length d'→compactUpTo d' d'.size=sortedV ks l∧d'.size≤1000000):=zh fun d' h1 h2=>⟨compact_sorted ks l (l.filter (genV ks)).toArray d' rfl (by rw[List.size_toArray];exact h1) (by rw[List.size_toArray];exact h2),by
  rw[h1.1,List.size_toArray]
  exact Nat.le_trans (List.length_filter_le _ _) hl6⟩
 have hc:W1.cell? ⟨w.heap.size,0,none⟩=some (.slice ka kn kc):=cell_of_row W1 _ 0 _ _ _ (by rw[hW1];exact heap_alloc_new w _)
 have HW1:=zh hW1
 have HW2:=zh hW2
 generalize sortedV ks l=R at *
 generalize l.filter (genV ks)=F at *
 clear hW1 hW2 hr hks hl he hg
 go_enter Tryz.func81,Tryz.ntmps81
 go_upto_region 1 with fail
 rw[← HW1.out]
 go_wp2_with (first | (go_at_call 108;refine HF.out.mono ?_;rintro e w2 ⟨rfl,hw2⟩;rw[← HW2.out]at hw2;replace hw2:=hw2.symm;subst hw2) | (go_at_call 114;refine HG.out.mono ?_;rintro e w3 ⟨v,rfl,d',hp,hs,h5,h6⟩;have HD:=zh (HR.out d' hp hs);have H5:=zh h5;have H6:=zh h6;clear hp hs h5 h6) | (go_at_call 113;refine(compact_any H5.out HD.out.2).mono ?_;rintro e w4 ⟨v',rfl,h7,h8⟩;have H7:=zh h7;have H8:=zh h8;clear h7 h8))
 go_ret
 refine⟨_,rfl,?_,?_⟩
 ·have h:=H7.out
  rw[HD.out.1]at h
  exact OwnV.lower h HB2.out.size
 ·exact(HB2.out.trans (H6.out.mono HB2.out.size)).grown H8.out (by have:=HB2.out.size;have:=H6.out.size;omega) (fun j e=>Nat.le_trans HB2.out.size (OwnE.ge H5.out j e))
end Go.Proofs.YtggdcnjaofflbaaGreatDoor
/- Meet, plain: the votes that parts of registers show. No condition. -/
namespace Go.Proofs.YtggdcnjaofflbaaGreatDoor
def itemVote (who:Int)(x:ItemP):Option VoteP:=(decodeV x.ent).bind fun v=>if v.car=who then some v else none
def votesIn (ks:List ByteArray)(p:PartP):List VoteP :=
 if(0≤p.head.car∧p.head.car < ks.length)∧checkB (ks.getD p.head.car.toNat ⟨#[]⟩) p=true then p.items.filterMap (itemVote p.head.car)else[]
def meetV (ks:List ByteArray)(l:List PartP):List VoteP:=if validC ks=true∧l.length≤20 then sortedV ks (l.flatMap (votesIn ks))else[]
def elseS:ByteArray:="something else".toUTF8
theorem else_none:decodeV elseS=none:=by decide +kernel
theorem item_else (who:Int)(x:ItemP)(h:x.ent=elseS):itemVote who x=none:=by
 unfold itemVote
 rw[h,else_none]
 rfl
theorem item_enc (who:Int)(x:ItemP)(v:VoteP)(h:x.ent=encV v)(hf:formedV v=true)(hc:v.car=who):itemVote who x=some v:=by
 unfold itemVote
 rw[h,decode_enc hf]
 show(if v.car=who then some v else none)=some v
 rw[if_pos hc]
def entsW:List VoteP→List ByteArray
 | []=>[]
 | v::vs=>elseS::encV v::entsW vs
theorem entsW_len:∀ vs:List VoteP,(entsW vs).length=2*vs.length
 | []=>rfl
 | v::vs=>by
  show(entsW vs).length+1+1=2*(vs.length+1)
  rw[entsW_len vs]
  omega
theorem entsW_even:∀(vs:List VoteP) (i:Nat),i < vs.length→(entsW vs).getD (2*i) ⟨#[]⟩=elseS
 | [],_,h=>absurd h (Nat.not_lt_zero _)
 | _::_,0,_=>rfl
 | _::vs,i+1,h=>entsW_even vs i (Nat.lt_of_succ_lt_succ h)
theorem entsW_odd:∀(vs:List VoteP) (i:Nat) (h:i < vs.length),(entsW vs).getD (2*i+1) ⟨#[]⟩=encV vs[i]
 | [],_,h=>absurd h (Nat.not_lt_zero _)
 | _::_,0,_=>rfl
 | _::vs,i+1,h=>entsW_odd vs i (Nat.lt_of_succ_lt_succ h)
def shownW (is:List Nat):List Nat:=is.flatMap fun i=>[2*i,2*i+1]
theorem votes_shown (who:Int)(own:List VoteP)(n:Nat)(ho:∀ v∈own,formedV v=true∧v.car=who) :
  ∀ is:List Nat,(∀ i∈is,i < own.length)→((shownW is).map (idxItem (entsW own) n)).filterMap (itemVote who)=is.filterMap fun i=>own[i]?
 | [],_=>rfl
 | i::is,h=>by
  have hi:=h i List.mem_cons_self
  have ih:=votes_shown who own n ho is fun j hj=>h j (List.mem_cons_of_mem _ hj)
  have e:shownW (i::is)=2*i::(2*i+1)::shownW is:=rfl
  rw[e,List.map_cons,List.map_cons,List.filterMap_cons,item_else who _ (entsW_even own i hi)]
  show((idxItem (entsW own) n (2*i+1))::(shownW is).map (idxItem (entsW own) n)).filterMap (itemVote who)=_
  obtain⟨h1,h2⟩:=ho own[i] (List.getElem_mem hi)
  rw[List.filterMap_cons,item_enc who _ own[i] (entsW_odd own i hi) h1 h2,ih,List.filterMap_cons,List.getElem?_eq_getElem hi]
theorem shown_asc:∀ is:List Nat,is.Pairwise (· < ·)→(shownW is).Pairwise (· < ·)
 | [],_=>List.Pairwise.nil
 | i::is,h=>by
  rw[List.pairwise_cons]at h
  have e:shownW (i::is)=2*i::(2*i+1)::shownW is:=rfl
  have hm:∀ j∈shownW is,2*i+1 < j:=by
   intro j hj
   obtain⟨k,hk,hj⟩:=List.mem_flatMap.1 hj
   have:=h.1 k hk
   simp only[List.mem_cons,List.not_mem_nil,or_false]at hj
   omega
  rw[e,List.pairwise_cons,List.pairwise_cons]
  refine⟨fun j hj=>?_,hm,shown_asc is h.2⟩
  rcases List.mem_cons.1 hj with rfl | hj
  ·omega
  ·have:=hm j hj
   omega
theorem shown_lt (is:List Nat)(n:Nat)(h:∀ i∈is,i < n):∀ j∈shownW is,j < 2*n:=by
 intro j hj
 obtain⟨k,hk,hj⟩:=List.mem_flatMap.1 hj
 have:=h k hk
 simp only[List.mem_cons,List.not_mem_nil,or_false]at hj
 omega
theorem votes_part {ks:List ByteArray}{who:Nat}(hw:who < ks.length)(hk:(ks.getD who ⟨#[]⟩).size=32){own:List VoteP}(ho:∀ v∈own,formedV v=true∧v.car=(who:Int))
  (hv:validB ⟨(who:Int),entsW own⟩=true) {is:List Nat} (hp:is.Pairwise (· < ·)) (hi:∀ i∈is,i < own.length) :
  votesIn ks (partS (ks.getD who ⟨#[]⟩) (who:Int) (entsW own) (entsW own).length (shownW is))=is.filterMap fun i=>own[i]?:=by
 have hc:checkB (ks.getD who ⟨#[]⟩) (partS (ks.getD who ⟨#[]⟩) (who:Int) (entsW own) (entsW own).length (shownW is))=true:=by
  refine part_check hk hv (Nat.le_refl _) (shown_asc is hp) ?_
  rw[entsW_len]
  exact shown_lt is _ hi
 unfold votesIn
 rw[if_pos ⟨⟨by show(0:Int)≤(who:Int);omega,by show(who:Int) < _;omega⟩,hc⟩]
 exact votes_shown (who:Int) own _ ho is hi
theorem meet_bent {ks:List ByteArray}{h:HeadP}{x:ItemP}{xs:List ItemP}{s:ByteArray}{v:VoteP}(hm:v∈meetV ks [⟨h,⟨x.idx,s,x.prf⟩::xs⟩])(hn:v ∉ xs.filterMap (itemVote h.car)) :
  decodeV s=some v∧verifyB h.root h.siz x.idx s x.prf=true∧checkB (ks.getD h.car.toNat ⟨#[]⟩) ⟨h,⟨x.idx,s,x.prf⟩::xs⟩=true:=by
 unfold meetV at hm
 by_cases hc:validC ks=true∧[(⟨h,⟨x.idx,s,x.prf⟩::xs⟩:PartP)].length≤20
 ·rw[if_pos hc]at hm
  have h1:=(sortedV_mem.1 hm).1
  rw[List.flatMap_cons,List.flatMap_nil,List.append_nil]at h1
  unfold votesIn at h1
  by_cases hb:(0≤h.car∧h.car < ks.length)∧checkB (ks.getD h.car.toNat ⟨#[]⟩) ⟨h,⟨x.idx,s,x.prf⟩::xs⟩=true
  ·rw[if_pos hb]at h1
   have hs:verifyB h.root h.siz x.idx s x.prf=true:=by
    have h2:=hb.2
    unfold checkB at h2
    rw[Bool.and_eq_true]at h2
    have h3:=h2.2
    unfold itemsOk itemOk at h3
    rw[Bool.and_eq_true,Bool.and_eq_true]at h3
    exact h3.1.2
   refine⟨?_,hs,hb.2⟩
   rw[List.filterMap_cons]at h1
   cases hd:decodeV s with
   | none =>
    have:itemVote h.car ⟨x.idx,s,x.prf⟩=none:=by
     unfold itemVote
     rw[hd]
     rfl
    rw[this]at h1
    exact absurd h1 hn
   | some u =>
    by_cases hu:u.car=h.car
    ·have:itemVote h.car ⟨x.idx,s,x.prf⟩=some u:=by
      unfold itemVote
      rw[hd]
      show(if u.car=h.car then some u else none)=some u
      rw[if_pos hu]
     rw[this]at h1
     rcases List.mem_cons.1 h1 with rfl | h1
     ·rfl
     ·exact absurd h1 hn
    ·have:itemVote h.car ⟨x.idx,s,x.prf⟩=none:=by
      unfold itemVote
      rw[hd]
      show(if u.car=h.car then some u else none)=none
      rw[if_neg hu]
     rw[this]at h1
     exact absurd h1 hn
  ·rw[if_neg hb]at h1
   cases h1
 ·rw[if_neg hc]at hm
  cases hm
theorem meet_same {ks:List ByteArray}{l m:List PartP}(h:∀ p,p∈l ↔ p∈m)(hl:l.length≤20)(hm:m.length≤20):meetV ks l=meetV ks m:=by
 unfold meetV
 by_cases hc:validC ks=true
 ·rw[if_pos ⟨hc,hl⟩,if_pos ⟨hc,hm⟩]
  refine sortedV_same fun v=>?_
  rw[List.mem_flatMap,List.mem_flatMap]
  constructor
  ·rintro⟨p,hp,hv⟩
   exact⟨p,(h p).1 hp,hv⟩
  ·rintro⟨p,hp,hv⟩
   exact⟨p,(h p).2 hp,hv⟩
 ·rw[if_neg fun h=>hc h.1,if_neg fun h=>hc h.1]
end Go.Proofs.YtggdcnjaofflbaaGreatDoor
/- What Meet's walks keep. No condition. -/
namespace Go.Proofs.YtggdcnjaofflbaaGreatDoor
open Go.RowKit Go.BigFrame
def PartOk (z:PartP):Prop:=z.head.root.size≤1000∧z.items.length≤10000∧∀ y∈z.items,y.prf.length≤1000∧y.ent.size≤1000000
def MeetIs (w:World)(l:List VoteP)(e:Ending)(w':World):Prop:=∃ v,e=.returned v∧VS w' v l∧Below w.heap.size w w'
def MeAt (w:World)(v:Value)(l:List VoteP)(W:World):Prop:=Below w.heap.size w W∧OwnV W w.heap.size v l
theorem MeAt.far {w:World}{v:Value}{l:List VoteP}{W W':World}(h:MeAt w v l W)(hb:Below W.heap.size W W'):MeAt w v l W':=⟨q_next h.1 hb,OwnE.far h.2 hb (Nat.le_refl _)⟩
theorem MeAt.append {w:World}{v v':Value}{l l':List VoteP}{W W':World}{o:Obj}(h:MeAt w v l W)(hg:(W.alloc o).grownBy W' v.ownBlock)(ho:OwnV W' w.heap.size v' l'):MeAt w v' l' W' :=
 ⟨(h.1.alloc h.1.size o).grown hg (by have:=h.1.size;simp;omega) (fun j e=>OwnE.ge h.2 j e),ho⟩
theorem meets_snoc {ks:List ByteArray}{l:List PartP}{k:Nat}{z:PartP}(h:l[k]?=some z):(l.take (k+1)).flatMap (votesIn ks)=(l.take k).flatMap (votesIn ks)++votesIn ks z:=by
 rw[List.take_add_one,h,List.flatMap_append]
 simp
theorem items_snoc {who:Int}{l:List ItemP}{k:Nat}{y:ItemP}(h:l[k]?=some y):(l.take (k+1)).filterMap (itemVote who)=(l.take k).filterMap (itemVote who)++(itemVote who y).toList:=by
 rw[List.take_add_one,h,List.filterMap_append]
 simp only[Option.toList_some,List.filterMap_cons,List.filterMap_nil]
 cases itemVote who y <;> rfl
theorem vcellsAt5 {w:World}{b:Nat}{v0 v1 v2 v3 v4:Value}{T:TypeId}(h:w.heap[b]?=some (.cells #[v0,v1,v2,v3,v4] T (0,0))):w.cell? ⟨b,0,none⟩=some v0∧w.cell? ⟨b,1,none⟩=some v1∧w.cell? ⟨b,2,none⟩=some v2∧w.cell? ⟨b,3,none⟩=some v3∧w.cell? ⟨b,4,none⟩=some v4 :=
 ⟨cell_of_row w _ 0 _ _ _ h,cell_of_row w _ 1 _ _ _ h,cell_of_row w _ 2 _ _ _ h,cell_of_row w _ 3 _ _ _ h,cell_of_row w _ 4 _ _ _ h⟩
end Go.Proofs.YtggdcnjaofflbaaGreatDoor
