/- TopReclaims: life.Run at a life of one event. The conditions: what the blocks hold. -/
import Derived.Test.YtjjiikeldpjafaaGreatDoorTT24
namespace Go.Proofs.YtjjiikeldpjafaaGreatDoor
open Go.RowKit Go.BigFrame
attribute [local go_sem] Oper.semAt_some
set_option maxHeartbeats 400000 in
theorem linesFn_any (a:Option Addr)(n c:Nat)(w:World):Calls Tryz.prog 107 #[.slice a n c] w fun e w'=>e=.returned (.func (.func 146) #[] #[.pointer (some ⟨w.heap.size,0,none⟩)])∧w'=w.alloc (.cells #[.slice a n c] 55):=by
 have hmf:∀(fn:Fn) (first cap:Array Value) (w:World),(Instr.makeFunc fn first cap).run Tryz.prog w=.ok (.func fn first cap) w:=fun _ _ _ _=>rfl
 go_enter Tryz.func107,Tryz.ntmps107
 go_wp2
 go_ret
 exact⟨rfl,rfl⟩
theorem results_line {fn:Func}{w:World}{g:Nat}{X:Array Value}(h:fn.results=#[.cell 2 162,.tmp 3,.tmp 4])(tmps:Array Value)(h2:tmps.getD 2 undef=.pointer (some ⟨g,0,none⟩))(hX:X.size=4)(hg:w.heap[g]?=some (.cells X 162 (0,0))) :
  (results fn tmps).run Tryz.prog w=.ok (.tuple #[.agg X,tmps.getD 3 undef,tmps.getD 4 undef]) w:=by
 have l1:=run_loadVar_row (P:=Tryz.prog) w g 162 162 X (0,0) _ hg Tryz.underlying162 rfl (by rw[hX];exact infoLine)
 have h2':tmps[2]?.getD undef=.pointer (some ⟨g,0,none⟩):=by simpa using h2
 simp only[results,h]
 simp[Result.andThen,h2',asAddr,l1]
def runN (pre:List Ln):Int:=match pre.getLast? with
 | none=>0
 | some x=>IntKind.i64.wrap (x.1+1)
def runX (pre:List Ln):Array Value:=match pre.getLast? with
 | none=>#[.int .i64 0,.int .i64 0,.int .i64 0,.int .i64 0]
 | some x=>#[.int .i64 x.2.1,.int .i64 x.2.2.1,.int .i64 x.2.2.2.1,.int .i64 x.2.2.2.2]
theorem runN_snoc (pre:List Ln)(x:Ln):runN (pre++[x])=IntKind.i64.wrap (x.1+1):=by
 unfold runN
 rw[List.getLast?_concat]
theorem runX_snoc (pre:List Ln)(x:Ln):runX (pre++[x])=#[.int .i64 x.2.1,.int .i64 x.2.2.1,.int .i64 x.2.2.2.1,.int .i64 x.2.2.2.2]:=by
 unfold runX
 rw[List.getLast?_concat]
def RunI (w:World)(pre:List Ln)(W:World):Prop :=
 (W.heap[w.heap.size]?=some (.cells #[.int .i64 0,.int .i64 0,.int .i64 0,.int .i64 0] 162 (0,0))∧W.heap[w.heap.size+1]?=some (.cells #[.int .i64 (runN pre)] 3 (0,0))∧W.heap[w.heap.size+1+1]?=some (.cells (runX pre) 162 (0,0)))∧Below w.heap.size w W
structure RunAt (w W:World) (n:Int) (X:Array Value) (V:World):Prop where
 hb:Below w.heap.size w V
 r:V.heap[w.heap.size]?=some (.cells #[.int .i64 0,.int .i64 0,.int .i64 0,.int .i64 0] 162 (0,0))
 n:V.heap[w.heap.size+1]?=some (.cells #[.int .i64 n] 3 (0,0))
 x:V.heap[w.heap.size+1+1]?=some (.cells X 162 (0,0))
 size:W.heap.size≤V.heap.size
 keep:∀(k:Nat) (o:Obj),W.heap[k]?=some o→k≠w.heap.size+1→k≠w.heap.size+1+1→V.heap[k]?=some o
section
variable {w W V V':World} {n:Int} {X:Array Value}
theorem RunAt.step (h:RunAt w W n X V)(hb:Below V.heap.size V V'):RunAt w W n X V' :=
 ⟨q_next h.hb hb,kept_block h.r hb,kept_block h.n hb,kept_block h.x hb,Nat.le_trans h.size hb.size,fun k o h1 h2 h3=>kept_block (h.keep k o h1 h2 h3) hb⟩
theorem RunAt.setN (h:RunAt w W n X V)(m:Int):RunAt w W m X (V.setCell ⟨w.heap.size+1,0,none⟩ (.int .i64 m)):=by
 have k:∀ {c:Nat} {o:Obj},V.heap[c]?=some o→c≠w.heap.size+1→(V.setCell ⟨w.heap.size+1,0,none⟩ (.int .i64 m)).heap[c]?=some o:=fun g1 g2=>(Below.heap_setCell _ _ _ _ g2).trans g1
 exact⟨h.hb.setCell (p:=⟨w.heap.size+1,0,none⟩) (by show w.heap.size≤w.heap.size+1;omega) _,k h.r (by omega),heap_setCell_same (i:=0) _ h.n,k h.x (by omega),by have:=h.size;simpa using this,fun c o h1 h2 h3=>k (h.keep c o h1 h2 h3) h2⟩
theorem RunAt.setX (h:RunAt w W n X V)(i:Nat)(v:Value):RunAt w W n (X.setIfInBounds i v) (V.setCell ⟨w.heap.size+1+1,i,none⟩ v):=by
 have k:∀ {c:Nat} {o:Obj},V.heap[c]?=some o→c≠w.heap.size+1+1→(V.setCell ⟨w.heap.size+1+1,i,none⟩ v).heap[c]?=some o:=fun g1 g2=>(Below.heap_setCell _ _ _ _ g2).trans g1
 exact⟨h.hb.setCell (p:=⟨w.heap.size+1+1,i,none⟩) (by show w.heap.size≤w.heap.size+1+1;omega) _,k h.r (by omega),k h.n (by omega),heap_setCell_same (i:=i) _ h.x,by have:=h.size;simpa using this,fun c o h1 h2 h3=>k (h.keep c o h1 h2 h3) h3⟩
theorem RunAt.setAll {x0 x1 x2 x3:Value}(h:RunAt w W n #[x0,x1,x2,x3] V)(c0 c1 c2 c3:Value):RunAt w W n #[c0,c1,c2,c3] ((((V.setCell ⟨w.heap.size+1+1,0,none⟩ c0).setCell ⟨w.heap.size+1+1,1,none⟩ c1).setCell ⟨w.heap.size+1+1,2,none⟩ c2).setCell ⟨w.heap.size+1+1,3,none⟩ c3):=by
 have h1:=h.setX 0 c0
 have h2:=h1.setX 1 c1
 have h3:=h2.setX 2 c2
 have h4:=h3.setX 3 c3
 simpa using h4
end
theorem four_heapKeep {V:World}{b q:Nat}{o:Obj}(h:V.heap[q]?=some o)(hne:q≠b)(c0 c1 c2 c3:Value):((((V.setCell ⟨b,0,none⟩ c0).setCell ⟨b,1,none⟩ c1).setCell ⟨b,2,none⟩ c2).setCell ⟨b,3,none⟩ c3).heap[q]?=some o :=
 (Below.heap_setCell _ _ _ _ hne).trans ((Below.heap_setCell _ _ _ _ hne).trans ((Below.heap_setCell _ _ _ _ hne).trans ((Below.heap_setCell _ _ _ _ hne).trans h)))
theorem runX_four (pre:List Ln):∃ x0 x1 x2 x3,runX pre=#[x0,x1,x2,x3]:=by
 unfold runX
 cases pre.getLast? with
 | none=>exact⟨_,_,_,_,rfl⟩
 | some x=>exact⟨_,_,_,_,rfl⟩
set_option maxHeartbeats 4000000 in
set_option maxRecDepth 100000 in
theorem runL_any {ch:Int}(hch:0≤ch∧ch≤63){w:World}{eb c:Nat}(hc:1≤c)(he:w.heap[eb]?=some (.cells #[.int .i64 1,.int .i64 0,.int .i64 ch] 116 (0,0))) :
  Calls Tryz.prog 74 #[.slice (some ⟨eb,0,none⟩) 1 c] w fun e w'=>e=.returned (.tuple #[.agg #[.int .i64 1,.int .i64 ch,.int .i64 1,.int .i64 0],.int .i64 1,.int .i64 0])∧Below w.heap.size w w':=by
 obtain⟨W1,hW1⟩:∃ W1,W1=w.alloc (.cells #[.int .i64 0,.int .i64 0,.int .i64 0,.int .i64 0] 162):=⟨_,rfl⟩
 obtain⟨W2,hW2⟩:∃ W2,W2=W1.alloc (.cells #[.int .i64 0] 3):=⟨_,rfl⟩
 obtain⟨W3,hW3⟩:∃ W3,W3=W2.alloc (.cells #[.int .i64 0,.int .i64 0,.int .i64 0,.int .i64 0] 162):=⟨_,rfl⟩
 have s1:W1.heap.size=w.heap.size+1:=by rw[hW1];simp
 have s2:W2.heap.size=w.heap.size+1+1:=by rw[hW2];simp[s1]
 have s3:W3.heap.size=w.heap.size+1+1+1:=by rw[hW3];simp[s2]
 have b1:Below w.heap.size w W1:=by rw[hW1];exact br0.alloc (Nat.le_refl _) _
 have b2:Below W1.heap.size W1 W2:=by rw[hW2];exact br0.alloc (Nat.le_refl _) _
 have b3:Below W2.heap.size W2 W3:=by rw[hW3];exact br0.alloc (Nat.le_refl _) _
 have HI3:Hid (RunI w [] W3):=zh (by
  have x1:W1.heap[w.heap.size]?=some (.cells #[.int .i64 0,.int .i64 0,.int .i64 0,.int .i64 0] 162 (0,0)):=by rw[hW1];exact heap_alloc_new w _
  have x2:W2.heap[w.heap.size+1]?=some (.cells #[.int .i64 0] 3 (0,0)):=by rw[← s1,hW2];exact heap_alloc_new W1 _
  have x3:W3.heap[w.heap.size+1+1]?=some (.cells #[.int .i64 0,.int .i64 0,.int .i64 0,.int .i64 0] 162 (0,0)):=by rw[← s2,hW3];exact heap_alloc_new W2 _
  exact⟨⟨kept_block x1 (q_next b2 b3),kept_block x2 b3,x3⟩,q_next b1 (q_next b2 b3)⟩)
 have HE3:=zh (kept_block he HI3.out.2)
 have HS3:=zh s3
 have HW1:=zh hW1
 have HW2:=zh hW2
 have HW3:=zh hW3
 have hmin:¬ ((40:Int) < 1):=by decide
 have hc':(1:Int)≤(c:Int):=by omega
 have hmn:min (1:Int) 40=1:=by decide
 clear hW1 hW2 hW3 b1 b2 b3 s1 s2 s3 he
 refine calls_of_callsIn (n:=8) Wide.wide (callsIn_of_wp_marks Tryz.func74 rfl trivial ?_)
 simp only[Tryz.ntmps74,List.size_toArray,List.length_cons,List.length_nil,Nat.reduceAdd,Nat.reduceSub,Array.replicate_succ,Array.replicate_zero,List.push_toArray,List.append_toArray,List.nil_append,List.cons_append]
 refine wpIn_wide.2 ?_
 go_upto_region 2 with fail
 rw[← HW1.out,← HW2.out,← HW3.out]
 clear HW1 HW2 HW3
 go_wp2_with (go_at_call 107;refine(linesFn_any _ _ _ _).mono ?_;rintro e w4 ⟨rfl,hw⟩;have HW4:=zh hw;clear hw)
 have hb4:Below W3.heap.size W3 w4:=by rw[HW4.out];exact br0.alloc (Nat.le_refl _) _
 have hx4:w4.heap[W3.heap.size]?=some (.cells #[.slice (some ⟨eb,0,none⟩) 1 c] 55 (0,0)):=by rw[HW4.out];exact heap_alloc_new W3 _
 have HIT:=zh (lines_iter hch hx4 (kept_block HE3.out hb4))
 have HI4:Hid (RunI w [] w4):=zh ⟨⟨kept_block HI3.out.1.1 hb4,kept_block HI3.out.1.2.1 hb4,kept_block HI3.out.1.2.2 hb4⟩,q_next HI3.out.2 hb4⟩
 have hlt:w.heap.size+1+1+1 < w4.heap.size:=by have:=HS3.out;have:=(ltA hx4);omega
 clear hb4 hx4 HW4
 refine(wpIn_wide (n:=8)).1 ?_
 refine wpIn_rangeN (n:=8) Wide.wide rfl (gf:=146) (lb:=#[.pointer (some ⟨W3.heap.size,0,none⟩)]) ?ev (fun args w=>?enter) HIT.out br0 (fun x=>rfl) (fun nb k h1 h2=>?hrow) (fun _ h h'=>h.trans h') (fun nb W o o' h1 h2 h3 h4=>?kb)
  (fun _ pre W=>RunI w pre W) (fun _ _ _ _=>False) (fun nb hnb=>?abide) (fun _ _ _=>abideS_false _ _) (fun nb hnb=>HI4.out)
  (fun a x a' W=>∃ q,w.heap.size+1+1 < q∧W.heap[q]?=some (.cells #[.int .i64 x.2.1,.int .i64 x.2.2.1,.int .i64 x.2.2.2.1,.int .i64 x.2.2.2.2] 162 (0,0))∧a'=⟨(((a.tmps.setIfInBounds 16 (.int .i64 x.1)).setIfInBounds 17 (.agg #[.int .i64 x.2.1,.int .i64 x.2.2.1,.int .i64 x.2.2.2.1,.int .i64 x.2.2.2.2])).setIfInBounds 7 (.int .i64 x.1)).setIfInBounds 8 (.pointer (some ⟨q,0,none⟩)),[]⟩)
  (fun x a' W l o o' h1 h2 h3 h4=>?a1) (fun nb A C h1 h2=>LnKp.grown h2) (fun l nb pre x W K hI hK=>?assign) (fun lr nb pre x a' W hnb hlt hI hlen hA=>?body) (fun Dm nb xs W hDm hnb hS hI hDd=>?done) (fun Dm c nb pre W hD hnb hS hI=>hI.elim)
 case hrow=>omega
 case kb =>
  refine⟨by simp[World.putObj],fun k2 cs T g _=>(World.putObj_heap_other (fun e=>?_)).trans g⟩
  subst e
  rw[h2]at g
  cases g
  cases h3
 case a1 =>
  obtain⟨q,hq0,hq,ha⟩:=h1
  exact⟨q,hq0,(World.putObj_heap_other (fun e=>by subst e;rw[h3]at hq;cases hq;cases h4)).trans hq,ha⟩
 case ev=>rfl
 case enter=>kernel_rfl
 case assign =>
  have hsz:=hI.2.size
  obtain⟨i,s,h,e,z⟩:=x
  have hq:=(ltA hI.1.2.2)
  unfold lnE at *
  simp only[List.zip_toArray,List.zip_cons_cons,List.zip_nil_right,List.foldl_toArray',List.foldl_cons,List.foldl_nil,List.setIfInBounds_toArray,List.set_cons_succ,List.set_cons_zero]
  gi_wp2
  exact hK _ _ ⟨W.heap.size,hq,heap_alloc_new _ _,rfl⟩ (World.grownBy_alloc _ _ _)
 case abide =>
  refine abideS_and (abideS_and (abideS_cells (fun _=>.cells #[.int .i64 0,.int .i64 0,.int .i64 0,.int .i64 0] 162) (fun _=>rfl) (by omega)) (abideS_and (abideS_cells (fun pre=>.cells #[.int .i64 (runN pre)] 3) (fun _=>rfl) (by omega)) (abideS_cells (fun pre=>.cells (runX pre) 162) (fun _=>rfl) (by omega)))) (abideS_below (by omega) (Nat.le_refl _) (fun k hk=>by omega))
 case body =>
  obtain⟨q,hq0,hq,rfl⟩:=hA
  obtain⟨⟨g0,g1,g2⟩,g3⟩:=hI
  obtain⟨i,s,h,e,z⟩:=x
  simp only at hq
  obtain⟨v0,v1,v2,v3⟩:=fourT_cells hq
  simp only[List.setIfInBounds_toArray,List.set_cons_succ,List.set_cons_zero]
  gi_wp2
  obtain⟨y0,y1,y2,y3,hy⟩:=runX_four pre
  rw[hy]at g2
  have HR:=zh (RunAt.mk (w:=w) (W:=W) g3 g0 g1 g2 (Nat.le_refl _) (fun _ _ h _ _=>h))
  have HG1:=zh g1
  have HG2:=zh g2
  clear g0 g1 g2 g3 v0 v1 v2 v3
  refine wpIn_region_lexF (Wide.inRound Wide.wide _) [.q 0,.q 1,.q 2,.b 3,.b 4] (fun V=>V.heap[q]?=some (.cells #[.int .i64 s,.int .i64 h,.int .i64 e,.int .i64 z] 162 (0,0))) (by kernel_rfl) (by kernel_rfl) (by kernel_rfl) (fun _ _ h h'=>kept_block h h') hq ?_
  iterate 3(refine wpFl_qL (v:=?_) rfl (Or.inl ⟨by rfl,?_⟩) ?_;rotate_left;(focus(intro w' hSw;(try dsimp only at hSw);obtain⟨v0,v1,v2,v3⟩:=fourT_cells hSw;go_simp;(try with_reducible rfl);done));simp only[Act.put,zzA,zzB,zzC])
  refine wpFl_bS rfl (fun wa hna hsa K hK=>?_)
  have HRa:=zh (HR.out.step (q_next (Below.drew (Below.refl _ W)) hna))
  have n0:=cell_of_row wa _ 0 _ _ _ HRa.out.n
  have zf:∀ j,wa.frozen? ⟨w.heap.size+1,j,none⟩=false:=fun j=>by unfold World.frozen?;rw[HRa.out.n];simp
  go_simp
  have HRb:=zh (HRa.out.setN (IntKind.i64.wrap (i+1)))
  refine hK.out _ _ ((Below.heap_setCell _ _ _ _ (by show q≠w.heap.size+1;omega)).trans hsa) HRb.out.size Keeps.nil ?_
  clear hK K hna hsa n0 zf HRa HR
  refine wpFl_bS rfl (fun wc hnc hsc K hK=>?_)
  have HRc:=zh (HRb.out.step hnc)
  obtain⟨n0,n1,n2,n3⟩:=fourT_cells HRc.out.x
  have zf:∀ j,wc.frozen? ⟨w.heap.size+1+1,j,none⟩=false:=fun j=>by unfold World.frozen?;rw[HRc.out.x];simp
  go_simp
  have HRd:=zh (HRc.out.setAll (.int .i64 s) (.int .i64 h) (.int .i64 e) (.int .i64 z))
  refine hK.out _ _ ((four_heapKeep hsc (by omega) _ _ _ _)) HRd.out.size Keeps.nil ?_
  clear hK K hnc hsc n0 n1 n2 n3 zf HRc HRb
  refine wpFl_nil ⟨rfl,?_⟩
  refine⟨⟨HRd.out.size,fun k o hk ho _=>HRd.out.keep k o ho (by omega) (by omega)⟩,⟨HRd.out.size,fun k cs T g hT=>HRd.out.keep k _ g (fun e=>?_) (fun e=>?_)⟩,⟨HRd.out.r,by rw[runN_snoc];exact HRd.out.n,by rw[runX_snoc];exact HRd.out.x⟩,HRd.out.hb⟩
  ·subst e
   rcases hT with h | ⟨_,h⟩
   ·omega
   ·rw[HG1.out]at g
    injection g with g
    injection g with _ g _
    exact h g.symm
  ·subst e
   rcases hT with h | ⟨h,_⟩
   ·omega
   ·rw[HG2.out]at g
    injection g with g
    injection g with _ g _
    exact h g.symm
 case done =>
  subst hS
  have HI:=zh hI
  have HDd:=zh hDd
  have hn:W.heap[w.heap.size+1]?=some (.cells #[.int .i64 1] 3 (0,0)):=hI.1.2.1
  have hx:W.heap[w.heap.size+1+1]?=some (.cells #[.int .i64 1,.int .i64 ch,.int .i64 1,.int .i64 0] 162 (0,0)):=hI.1.2.2
  have HN:=zh hn
  have HX:=zh hx
  have n0:=cell_of_row W _ 0 _ _ _ hn
  clear hI hDd hn hx
  show Exit.inBlock _ _ _ (Act.mk _ [{ target:=.collected Dm,args:=#[] }]) W
  go_upto_region 8 with fail
  clear n0
  refine wp_region_noPanic ?_
  refine wp_region_lexF [.q 0,.q 1,.b 2,.q 3,.q 4] (fun V=>V.heap[w.heap.size+1]?=some (.cells #[.int .i64 1] 3 (0,0))∧V.heap[w.heap.size+1+1]?=some (.cells #[.int .i64 1,.int .i64 ch,.int .i64 1,.int .i64 0] 162 (0,0))) (by kernel_rfl) (by kernel_rfl) (fun _ _ _ _ h=>h) (fun _ _ h h'=>⟨kept_block h.1 h',kept_block h.2 h'⟩) ⟨HN.out,HX.out⟩ ?_
  iterate 2(refine wpFl_qL (v:=?_) rfl (Or.inl ⟨by rfl,?_⟩) ?_;rotate_left;(focus(intro w' hSw;(try dsimp only at hSw);obtain⟨v0,v1,v2,v3⟩:=fourT_cells hSw.2;have n0:=cell_of_row w' _ 0 _ _ _ hSw.1;go_simp;(try with_reducible rfl);done));simp only[Act.put,zzA,zzB,zzC])
  refine wpFl_bS rfl (fun wa hna hsa K hK=>?_)
  have hba:Below W.heap.size W wa:=q_next (Below.drew (Below.refl _ W)) hna
  have HRa:=zh (kept_block HI.out.1.1 hba)
  have HDa:=zh (kept_block HDd.out hba)
  have HBa:=zh (q_next HI.out.2 hba)
  obtain⟨n0,n1,n2,n3⟩:=fourT_cells HRa.out
  have zf:∀ j,wa.frozen? ⟨w.heap.size,j,none⟩=false:=fun j=>by unfold World.frozen?;rw[HRa.out];simp
  have hla:W.heap.size≤wa.heap.size:=hba.size
  go_simp
  have HRe:=zh (four_heap HRa.out (.int .i64 1) (.int .i64 ch) (.int .i64 1) (.int .i64 0))
  have HBe:=zh (four_below HBa.out (Nat.le_refl _) (.int .i64 1) (.int .i64 ch) (.int .i64 1) (.int .i64 0))
  have HDe:=zh (four_heapKeep HDa.out (b:=w.heap.size) (by omega) (.int .i64 1) (.int .i64 ch) (.int .i64 1) (.int .i64 0))
  refine hK.out _ _ ⟨four_heapKeep hsa.1 (by omega) _ _ _ _,four_heapKeep hsa.2 (by omega) _ _ _ _⟩ (by simpa using hla) Keeps.nil ?_
  clear hK K hna hsa hba n0 n1 n2 n3 zf hla HRa HDa HBa
  generalize (((wa.setCell ⟨w.heap.size,0,none⟩ (.int .i64 1)).setCell ⟨w.heap.size,1,none⟩ (.int .i64 ch)).setCell ⟨w.heap.size,2,none⟩ (.int .i64 1)).setCell ⟨w.heap.size,3,none⟩ (.int .i64 0)=we at *
  iterate 2(refine wpFl_qL (v:=?_) rfl (Or.inl ⟨by rfl,?_⟩) ?_;rotate_left;(focus(intro w' hSw;go_simp;(try with_reducible rfl);done));simp only[Act.put,zzA,zzB,zzC])
  refine wpFl_nil ?_
  refine NoPanic.normal ?_
  go_wp2
  have hM:Marks (w.heap.size+1) [Dm] we:=⟨by simp,fun D' hD=>by
   rw[List.mem_singleton]at hD
   subst hD
   exact⟨by omega,HDe.out⟩⟩
  refine leaves_marks (B:=w.heap.size+1) [Dm] we hM (fun W'' hT=>⟨_,results_line rfl _ rfl rfl ((hT.old _ (by omega)).trans HRe.out),rfl,HBe.out.trans (hT.below.mono (by omega))⟩)
end Go.Proofs.YtjjiikeldpjafaaGreatDoor
/- TopReclaims: life.At at a life of one event. The conditions: what the blocks hold, ranges. -/
namespace Go.Proofs.YtjjiikeldpjafaaGreatDoor
open Go.RowKit Go.BigFrame
attribute [local go_sem] Oper.semAt_some
set_option maxHeartbeats 1000000 in
theorem at1_no {w:World}{b1 b2 eb c:Nat}{t ch:Int}(ht:0≤t)(h1:w.heap[b1]?=some (.cells #[.slice (some ⟨eb,0,none⟩) 1 c] 55 (0,0)))(h2:w.heap[b2]?=some (.cells #[.int .i64 t] 3 (0,0)))(he:w.heap[eb]?=some (.cells #[.int .i64 1,.int .i64 0,.int .i64 ch] 116 (0,0))) :
  Calls Tryz.prog 156 #[.int .i64 0,.pointer (some ⟨b1,0,none⟩),.pointer (some ⟨b2,0,none⟩)] w fun e w'=>e=.returned (.bool false)∧Below w.heap.size w w':=by
 have HC:=zh (fun W (hW:Below w.heap.size w W)=>And.intro (cell_of_row W b1 0 _ _ _ (kept_block h1 hW)) (And.intro (cell_of_row W b2 0 _ _ _ (kept_block h2 hW)) (three_cellsC (kept_block he hW))))
 have hlt:¬ t < 0:=by omega
 clear h1 h2 he
 go_enter Tryz.func156,Tryz.ntmps156
 go_upto_region 1 with fail
 refine wp_region_noPanic ?_
 refine wp_region_lexB [.q 0,.q 1,.q 2,.q 3,.q 4,.q 5,.q 6,.q 7] (by kernel_rfl) (by kernel_rfl) (fun _ _ _ _ h=>h) ?_
 iterate 8(refine wpFl_qL (v:=?_) rfl (Or.inl ⟨by rfl,?_⟩) ?_;rotate_left;(focus(intro w' hSw;obtain⟨g1,g2,c0,c1,c2⟩:=HC.out w' hSw;go_simp;(try with_reducible rfl);done));simp only[Act.put,zzA,zzB,zzC])
 refine wpFl_nil ?_
 refine NoPanic.normal ?_
 go_wp2
 go_ret
 exact⟨by first | rfl | exact congrArg (fun b=>Ending.returned (.bool b)) (decide_eq_false hlt),Below.drew br0⟩
set_option maxHeartbeats 1000000 in
theorem search_one {w:World}{b1 b2 eb c:Nat}{t ch:Int}(ht:0≤t)(h1:w.heap[b1]?=some (.cells #[.slice (some ⟨eb,0,none⟩) 1 c] 55 (0,0)))(h2:w.heap[b2]?=some (.cells #[.int .i64 t] 3 (0,0)))(he:w.heap[eb]?=some (.cells #[.int .i64 1,.int .i64 0,.int .i64 ch] 116 (0,0))) :
  Calls Tryz.prog 155 #[.int .i64 1,.func (.func 156) #[] #[.pointer (some ⟨b1,0,none⟩),.pointer (some ⟨b2,0,none⟩)]] w fun e w'=>e=.returned (.int .i64 1)∧Below w.heap.size w w':=by
 have HA:=zh (at1_no ht h1 h2 he)
 clear h1 h2 he
 go_enter Tryz.func155,Tryz.ntmps155
 go_wp2
 go_loopw [5,6] (fun i j wr=>(i=.int .i64 0∧j=.int .i64 1∧wr=w)∨(i=.int .i64 1∧j=.int .i64 1∧Hid (Below w.heap.size w wr))) (fun i _ _=>1 - (intOf i).toNat)
 case atStart=>exact .inl ⟨rfl,rfl,rfl⟩
 case round =>
  rcases hrel with⟨rfl,rfl,rfl⟩ | ⟨rfl,rfl,hB⟩
  ·go_wp2_with (go_at_call 156;(with_reducible refine HA.out.mono ?_);rintro e w1 ⟨rfl,hb⟩;have HB:=zh hb;clear hb)
   go_roundw
   case rel=>exact .inr ⟨by go_num,rfl,HB⟩
   case measure=>decide
  ·go_wp2
   go_ret
   exact⟨rfl,hB.out⟩
set_option maxHeartbeats 4000000 in
set_option maxRecDepth 100000 in
theorem atL_any {ch t:Int}(hch:0≤ch∧ch≤63)(ht:0≤t)(ht2:t≤10000000){w:World}{eb c:Nat}(hc:1≤c)(he:w.heap[eb]?=some (.cells #[.int .i64 1,.int .i64 0,.int .i64 ch] 116 (0,0))) :
  Calls Tryz.prog 116 #[.slice (some ⟨eb,0,none⟩) 1 c,.int .i64 t] w fun e w'=>e=.returned (.tuple #[.agg #[.int .i64 1,.int .i64 ch,.int .i64 1,.int .i64 0],.bool true])∧Below w.heap.size w w':=by
 have hmf:∀(fn:Fn) (first cap:Array Value) (w:World),(Instr.makeFunc fn first cap).run Tryz.prog w=.ok (.func fn first cap) w:=fun _ _ _ _=>rfl
 have HR:=zh (fun W (hW:Below w.heap.size w W)=>runL_any hch hc (kept_block he hW))
 have hc':(1:Int)≤(c:Int):=by omega
 obtain⟨W1,hW1⟩:∃ W1,W1=w.alloc (.cells #[.slice (some ⟨eb,0,none⟩) 1 c] 55):=⟨_,rfl⟩
 have HBW1:Hid (Below w.heap.size w W1):=zh (by rw[hW1];exact br0.alloc (Nat.le_refl _) _)
 have HXW1:Hid (W1.heap[w.heap.size]?=some (.cells #[.slice (some ⟨eb,0,none⟩) 1 c] 55 (0,0))):=zh (by rw[hW1];exact heap_alloc_new w _)
 have hsW1:Hid (W1.heap.size=w.heap.size+1):=zh (by rw[hW1];simp)
 have HWW1:=zh hW1
 clear hW1
 obtain⟨W2,hW2⟩:∃ W2,W2=W1.alloc (.cells #[.int .i64 t] 3):=⟨_,rfl⟩
 have HBW2:Hid (Below W1.heap.size W1 W2):=zh (by rw[hW2];exact br0.alloc (Nat.le_refl _) _)
 have HXW2:Hid (W2.heap[W1.heap.size]?=some (.cells #[.int .i64 t] 3 (0,0))):=zh (by rw[hW2];exact heap_alloc_new W1 _)
 have hsW2:Hid (W2.heap.size=W1.heap.size+1):=zh (by rw[hW2];simp)
 have HWW2:=zh hW2
 clear hW2
 obtain⟨W3,hW3⟩:∃ W3,W3=W2.alloc (.cells #[.int .i64 0,.int .i64 0,.int .i64 0,.int .i64 0] 162):=⟨_,rfl⟩
 have HBW3:Hid (Below W2.heap.size W2 W3):=zh (by rw[hW3];exact br0.alloc (Nat.le_refl _) _)
 have HXW3:Hid (W3.heap[W2.heap.size]?=some (.cells #[.int .i64 0,.int .i64 0,.int .i64 0,.int .i64 0] 162 (0,0))):=zh (by rw[hW3];exact heap_alloc_new W2 _)
 have hsW3:Hid (W3.heap.size=W2.heap.size+1):=zh (by rw[hW3];simp)
 have HWW3:=zh hW3
 clear hW3
 have HB3:=zh (q_next HBW1.out (q_next HBW2.out HBW3.out))
 have H1:Hid (∀ W,Below W3.heap.size W3 W→W.heap[w.heap.size]?=some (.cells #[.slice (some ⟨eb,0,none⟩) 1 c] 55 (0,0))):=zh (fun W hW=>kept_block HXW1.out (q_next HBW2.out (q_next HBW3.out hW)))
 have H2:Hid (∀ W,Below W3.heap.size W3 W→W.heap[w.heap.size+1]?=some (.cells #[.int .i64 t] 3 (0,0))):=zh (fun W hW=>by rw[← hsW1.out];exact kept_block HXW2.out (q_next HBW3.out hW))
 have H3:Hid (∀ W,Below W3.heap.size W3 W→W.heap[w.heap.size+1+1]?=some (.cells #[.int .i64 0,.int .i64 0,.int .i64 0,.int .i64 0] 162 (0,0))):=zh (fun W hW=>by rw[← hsW1.out,← hsW2.out];exact kept_block HXW3.out hW)
 have HG3:Hid (w.heap.size+1+1 < W3.heap.size):=zh (by rw[hsW3.out,hsW2.out,hsW1.out];omega)
 have HSE:=zh (fun W (hW:Below W3.heap.size W3 W)=>search_one ht (H1.out W hW) (H2.out W hW) (kept_block he (q_next HB3.out hW)))
 have g1:=cell_of_row W3 _ 0 _ _ _ (H1.out W3 br0)
 have g2:=cell_of_row W3 _ 0 _ _ _ (H2.out W3 br0)
 clear HXW1 HXW2 HXW3 HBW1 HBW2 HBW3 hsW1 hsW2 hsW3 he
 go_enter Tryz.func116,Tryz.ntmps116
 go_upto_region 1 with fail
 rw[← HWW1.out,← HWW2.out,← HWW3.out]
 clear HWW1 HWW2 HWW3
 go_upto_region 2 with(go_at_call 74;(with_reducible refine(HR.out _ HB3.out).mono ?_);clear g1 g2;rintro e w4 ⟨rfl,hbx⟩;have HB4:=zh hbx;clear hbx)
 have HA4:=zh ((Below.refl w4.heap.size w4).alloc (Nat.le_refl _) (.cells #[.int .i64 1,.int .i64 ch,.int .i64 1,.int .i64 0] 162))
 generalize w4.alloc (.cells #[.int .i64 1,.int .i64 ch,.int .i64 1,.int .i64 0] 162)=w5 at *
 have HB5:=zh (q_next HB4.out HA4.out)
 have g2:=cell_of_row w5 _ 0 _ _ _ (H2.out w5 HB5.out)
 go_upto_region 4 with(go_at_call 154;refine(inL_yes _ _ _ (by omega) (by omega) _).mono ?_;rintro e w' ⟨rfl,hw'⟩;replace hw':=hw'.symm;subst hw')
 clear g2 HA4
 refine wp_region_noPanic ?_
 refine wp_region_lexB [.q 0,.q 1,.q 2,.q 3,.an 11,.b 4,.q 5,.b 6,.q 7,.q 8,.q 9,.q 10,.co 11,.b 12,.q 13,.q 14] (by kernel_rfl) (by kernel_rfl) (fun _ _ _ _ h=>h) ?_
 iterate 4(refine wpFl_qL (v:=?_) rfl (Or.inl ⟨by rfl,?_⟩) ?_;rotate_left;(focus(intro w' hSw;have g1:=cell_of_row w' _ 0 _ _ _ (H1.out w' (q_next HB5.out hSw));go_simp;(try with_reducible rfl);done));simp only[Act.put,zzA,zzB,zzC])
 refine wpFl_anL rfl (.cells #[.int .i64 0,.int .i64 0,.int .i64 0,.int .i64 0] 162 (0,0)) (fun n=>.pointer (some ⟨n,0,none⟩)) ⟨by rfl,fun w'=>?_⟩ ?_
 focus(go_simp;done)
 refine wpFl_bL rfl (fun wa hna hsa K hK=>?_)
 go_simp
 go_at_call 155
 (with_reducible refine(HSE.out _ (q_next HB5.out hsa)).mono ?_)
 rintro e wb ⟨rfl,hbb⟩
 refine hK.out _ _ (below_next hsa hbb) (Keeps.below hbb) ?_
 clear hK K hna hsa hbb
 refine wpFl_qL (v:=?_) rfl (Or.inl ⟨by rfl,?_⟩) ?_
 rotate_left
 focus(intro w' hSw;go_simp;(try with_reducible rfl);done)
 simp only[Act.put,zzA,zzB,zzC]
 refine wpFl_bL rfl (fun wc hnc hsc K hK=>?_)
 go_simp
 go_at_call 74
 (with_reducible refine(HR.out _ (q_next HB3.out (q_next HB5.out hsc))).mono ?_)
 rintro e wd ⟨rfl,hbd⟩
 refine hK.out _ _ (below_next hsc hbd) (Keeps.below hbd) ?_
 clear hK K hnc hsc hbd
 iterate 4(refine wpFl_qL (v:=?_) rfl (Or.inl ⟨by rfl,?_⟩) ?_;rotate_left;(focus(intro w' hSw;go_simp;(try with_reducible rfl);done));simp only[Act.put,zzA,zzB,zzC])
 refine wpFl_coL rfl (.cells #[.int .i64 0,.int .i64 0,.int .i64 0,.int .i64 0] 162 (0,0)) (fun n=>.pointer (some ⟨n,0,none⟩)) (by rfl) (N':=[]) (by rfl) (fun nb we hn_we hs_we hb_nb hz_nb=>?_)
 simp only[Act.put,zzA,zzB,zzC]
 refine wpFl_bL rfl (fun wf hnf hsf K hK=>?_)
 have HZ:=zh (kept_block hz_nb hnf)
 obtain⟨z0,z1,z2,z3⟩:=fourT_cells HZ.out
 have zf:∀ j,wf.frozen? ⟨nb,j,none⟩=false:=fun j=>by unfold World.frozen?;rw[HZ.out];simp
 go_simp
 have HBD:=zh (four_below hsf hb_nb (.int .i64 1) (.int .i64 ch) (.int .i64 1) (.int .i64 0))
 have HZN:=zh (four_heap HZ.out (.int .i64 1) (.int .i64 ch) (.int .i64 1) (.int .i64 0))
 refine hK.out _ _ HBD.out Keeps.nil ?_
 clear hK K hnf hsf z0 z1 z2 z3 zf HZ hn_we hs_we hb_nb hz_nb
 generalize (((wf.setCell ⟨nb,0,none⟩ (.int .i64 1)).setCell ⟨nb,1,none⟩ (.int .i64 ch)).setCell ⟨nb,2,none⟩ (.int .i64 1)).setCell ⟨nb,3,none⟩ (.int .i64 0)=w6 at *
 iterate 2(refine wpFl_qL (v:=?_) rfl (Or.inl ⟨by rfl,?_⟩) ?_;rotate_left;(focus(intro w' hSw;go_simp;(try with_reducible rfl);done));simp only[Act.put,zzA,zzB,zzC])
 refine wpFl_nil ?_
 refine NoPanic.normal ?_
 have HB6:=zh (q_next HB5.out HBD.out)
 have HR6:=zh (H3.out w6 HB6.out)
 obtain⟨z0,z1,z2,z3⟩:=fourT_cells HZN.out
 obtain⟨r0,r1,r2,r3⟩:=fourT_cells HR6.out
 have zf:∀ j,w6.frozen? ⟨w.heap.size+1+1,j,none⟩=false:=fun j=>by unfold World.frozen?;rw[HR6.out];simp
 go_wp2
 exact bodyPost_ret (results_cellA_tmp rfl _ (w.heap.size+1+1) 162 #[.int .i64 1,.int .i64 ch,.int .i64 1,.int .i64 0] (0,0) _ rfl (four_heap HR6.out _ _ _ _) Tryz.underlying162 rfl infoLine) rfl ⟨rfl,four_below (q_next HB3.out HB6.out) (by omega) _ _ _ _⟩
set_option maxHeartbeats 2000000 in
set_option maxRecDepth 100000 in
theorem lifeAt_any {ch t:Int}(hch:0≤ch∧ch≤63)(ht:0≤t)(ht2:t≤10000000){w:World}{eb c:Nat}(hc:1≤c)(he:w.heap[eb]?=some (.cells #[.int .i64 1,.int .i64 0,.int .i64 ch] 116 (0,0))) :
  Calls Tryz.prog 80 #[.slice (some ⟨eb,0,none⟩) 1 c,.int .i64 t] w fun e w'=>e=.returned (.tuple #[.agg #[.int .i64 1,.int .i64 ch,.int .i64 1,.int .i64 0],.int .i64 0])∧Below w.heap.size w w':=by
 have HA:=zh (fun W (hW:Below w.heap.size w W)=>atL_any hch ht ht2 hc (kept_block he hW))
 clear he
 obtain⟨W1,hW1⟩:∃ W1,W1=w.alloc (.cells #[.int .i64 0,.int .i64 0,.int .i64 0,.int .i64 0] 162):=⟨_,rfl⟩
 have HBW1:Hid (Below w.heap.size w W1):=zh (by rw[hW1];exact br0.alloc (Nat.le_refl _) _)
 have HXW1:Hid (W1.heap[w.heap.size]?=some (.cells #[.int .i64 0,.int .i64 0,.int .i64 0,.int .i64 0] 162 (0,0))):=zh (by rw[hW1];exact heap_alloc_new w _)
 have hsW1:Hid (W1.heap.size=w.heap.size+1):=zh (by rw[hW1];simp)
 have HWW1:=zh hW1
 clear hW1
 go_enter Tryz.func80,Tryz.ntmps80
 go_upto_region 1 with fail
 rw[← HWW1.out]
 clear HWW1
 go_upto_region 2 with(go_at_call 116;(with_reducible refine(HA.out _ HBW1.out).mono ?_);rintro e w4 ⟨rfl,hbx⟩;have HB4:=zh hbx;clear hbx)
 have HA4:=zh ((Below.refl w4.heap.size w4).alloc (Nat.le_refl _) (.cells #[.int .i64 1,.int .i64 ch,.int .i64 1,.int .i64 0] 162))
 have HX4:=zh (heap_alloc_new w4 (.cells #[.int .i64 1,.int .i64 ch,.int .i64 1,.int .i64 0] 162))
 have HR5:=zh (kept_block (kept_block HXW1.out HB4.out) HA4.out)
 obtain⟨z0,z1,z2,z3⟩:=fourT_cells HX4.out
 obtain⟨r0,r1,r2,r3⟩:=fourT_cells HR5.out
 generalize w4.alloc (.cells #[.int .i64 1,.int .i64 ch,.int .i64 1,.int .i64 0] 162)=w5 at *
 have zf:∀ j,w5.frozen? ⟨w.heap.size,j,none⟩=false:=fun j=>by unfold World.frozen?;rw[HR5.out];simp
 go_wp2
 exact bodyPost_ret (results_cellA_tmp rfl _ w.heap.size 162 #[.int .i64 1,.int .i64 ch,.int .i64 1,.int .i64 0] (0,0) _ rfl (four_heap HR5.out _ _ _ _) Tryz.underlying162 rfl infoLine) rfl ⟨rfl,four_below (q_next HBW1.out (q_next HB4.out HA4.out)) (Nat.le_refl _) _ _ _ _⟩
end Go.Proofs.YtjjiikeldpjafaaGreatDoor
/- TopReclaims: happenings that are in order are not moved. The conditions: what the slices read as. -/
namespace Go.Proofs.YtjjiikeldpjafaaGreatDoor
open Go.RowKit Go.BigFrame
attribute [local go_sem] Oper.semAt_some
set_option maxHeartbeats 400000 in
theorem isNaN_no (x:Int)(w:World):Calls Tryz.prog 153 #[.int .i64 x] w fun e w'=>e=.returned (.bool false)∧w'=w:=by
 go_enter Tryz.func153,Tryz.ntmps153
 go_wp2
 go_ret
 exact⟨by simp,rfl⟩
set_option maxHeartbeats 1000000 in
theorem compareI_ge (x y:Int)(h:y≤x)(w:World):Calls Tryz.prog 115 #[.int .i64 x,.int .i64 y] w fun e w'=>e=.returned (.int .i64 (if y=x then 0 else 1))∧w'=w:=by
 have h1:¬ x < y:=by omega
 have HN:=zh isNaN_no
 go_enter Tryz.func115,Tryz.ntmps115
 by_cases h2:y=x
 ·have h3:¬ y < x:=by omega
  go_wp2_with (go_at_call 153;(with_reducible refine(HN.out _ _).mono ?_);rintro e w' ⟨rfl,hw'⟩;replace hw':=hw'.symm;subst hw')
  go_ret
  exact⟨rfl,rfl⟩
 ·have h3:y < x:=by omega
  go_wp2_with (go_at_call 153;(with_reducible refine(HN.out _ _).mono ?_);rintro e w' ⟨rfl,hw'⟩;replace hw':=hw'.symm;subst hw')
  go_ret
  exact⟨rfl,rfl⟩
set_option maxHeartbeats 1000000 in
theorem or_two (c:Int)(hc:c=0∨c=1){w:World}{b:Nat}(hb:w.heap[b]?=some (.cells #[.int .i64 c,.int .i64 0] 3 (0,0))) :
  Calls Tryz.prog 114 #[.slice (some ⟨b,0,none⟩) 2 2] w fun e w'=>e=.returned (.int .i64 c)∧w'=w:=by
 have c0:=cell_of_row w _ 0 _ _ _ hb
 have c1:=cell_of_row w _ 1 _ _ _ hb
 have n10:((1:Int) != 0)=true:=by decide
 have n00:((0:Int) != 0)=false:=by decide
 clear hb
 go_enter Tryz.func114,Tryz.ntmps114
 go_wp2
 go_loopw [8] (fun i wr=>wr=w∧(i=.int .i64 0∨(i=.int .i64 1∧c=0)∨(i=.int .i64 2∧c=0))) (fun i _=>2 - (intOf i).toNat)
 case atStart=>exact⟨rfl,.inl rfl⟩
 case round =>
  obtain⟨rfl,rfl | ⟨rfl,rfl⟩ | ⟨rfl,rfl⟩⟩:=hrel
  ·rcases hc with rfl | rfl
   ·go_wp2
    go_roundw
    case rel=>exact⟨by first | trivial | rfl,.inr (.inl ⟨by go_num,by first | trivial | rfl⟩)⟩
    case measure=>decide
   ·go_wp2
    go_ret
    exact⟨rfl,rfl⟩
  ·go_wp2
   go_roundw
   case rel=>exact⟨by first | trivial | rfl,.inr (.inr ⟨by go_num,by first | trivial | rfl⟩)⟩
   case measure=>decide
  ·go_wp2
   go_ret
   exact⟨rfl,rfl⟩
end Go.Proofs.YtjjiikeldpjafaaGreatDoor
/- TopReclaims: sorting happenings that are in order. The conditions: what the slice reads as. -/
namespace Go.Proofs.YtjjiikeldpjafaaGreatDoor
open Go.RowKit Go.BigFrame
attribute [local go_sem] Oper.semAt_some
abbrev Hap:=Int × Int × Bool
def hapC (x:Hap):List Value:=[.int .i64 x.1,.int .i64 x.2.1,.bool x.2.2]
set_option maxHeartbeats 2000000 in
set_option maxRecDepth 100000 in
theorem hapCmp_any (t s:Int)(hts:t≤s)(w:World):Calls Tryz.prog 113 #[.agg #[.int .i64 s,.int .i64 0,.bool true],.agg #[.int .i64 t,.int .i64 0,.bool false]] w fun e w'=>e=.returned (.int .i64 (if t=s then 0 else 1))∧Below w.heap.size w w':=by
 obtain⟨W1,hW1⟩:∃ W1,W1=w.alloc (.cells #[.int .i64 s,.int .i64 0,.bool true] 170):=⟨_,rfl⟩
 have HBW1:Hid (Below w.heap.size w W1):=zh (by rw[hW1];exact br0.alloc (Nat.le_refl _) _)
 have HXW1:Hid (W1.heap[w.heap.size]?=some (.cells #[.int .i64 s,.int .i64 0,.bool true] 170 (0,0))):=zh (by rw[hW1];exact heap_alloc_new w _)
 have hsW1:Hid (W1.heap.size=w.heap.size+1):=zh (by rw[hW1];simp)
 have HWW1:=zh hW1
 clear hW1
 obtain⟨W2,hW2⟩:∃ W2,W2=W1.alloc (.cells #[.int .i64 t,.int .i64 0,.bool false] 170):=⟨_,rfl⟩
 have HBW2:Hid (Below W1.heap.size W1 W2):=zh (by rw[hW2];exact br0.alloc (Nat.le_refl _) _)
 have HXW2:Hid (W2.heap[W1.heap.size]?=some (.cells #[.int .i64 t,.int .i64 0,.bool false] 170 (0,0))):=zh (by rw[hW2];exact heap_alloc_new W1 _)
 have hsW2:Hid (W2.heap.size=W1.heap.size+1):=zh (by rw[hW2];simp)
 have HWW2:=zh hW2
 clear hW2
 have HB2:=zh (q_next HBW1.out HBW2.out)
 have HC:Hid (∀ W,Below W2.heap.size W2 W→((W.cell? ⟨w.heap.size,0,none⟩=some (.int .i64 s)∧W.cell? ⟨w.heap.size,1,none⟩=some (.int .i64 0)∧W.cell? ⟨w.heap.size,2,none⟩=some (.bool true))∧(W.cell? ⟨w.heap.size+1,0,none⟩=some (.int .i64 t)∧W.cell? ⟨w.heap.size+1,1,none⟩=some (.int .i64 0)∧W.cell? ⟨w.heap.size+1,2,none⟩=some (.bool false)))):=zh (fun W hW=>⟨three_cellsC (kept_block HXW1.out (q_next HBW2.out hW)),by rw[← hsW1.out];exact three_cellsC (kept_block HXW2.out hW)⟩)
 have hor:(if t=s then(0:Int)else 1)=0∨(if t=s then(0:Int)else 1)=1:=by split <;> simp
 have HOR:=zh hor
 have H1:=zh (fun W=>compareI_ge s t hts W)
 have H2:=zh (fun W=>compareI_ge 0 0 (by decide) W)
 clear hor
 go_enter Tryz.func113,Tryz.ntmps113
 go_upto_region 1 with fail
 rw[← HWW1.out,← HWW2.out]
 clear HWW1 HWW2
 refine wp_region_noPanic ?_
 refine wp_region_lexB [.q 0,.q 1,.q 2,.q 3,.q 5,.q 6,.q 7,.q 8,.b 4,.b 9,.an 10,.co 10,.b 11,.q 12] (by kernel_rfl) (by kernel_rfl) (fun _ _ _ _ h=>h) ?_
 iterate 8(refine wpFl_qL (v:=?_) rfl (Or.inl ⟨by rfl,?_⟩) ?_;rotate_left;(focus(intro w' hSw;obtain⟨⟨a0,a1,a2⟩,c0,c1,c2⟩:=HC.out w' hSw;go_simp;(try with_reducible rfl);done));simp only[Act.put,zzA,zzB,zzC])
 refine wpFl_bL rfl (fun wa hna hsa K hK=>?_)
 go_simp
 go_at_call 115
 (with_reducible refine(H1.out _).mono ?_)
 rintro e w' ⟨rfl,hw'⟩
 replace hw':=hw'.symm
 subst hw'
 refine hK.out _ _ hsa (Keeps.below br0) ?_
 clear hK K hna hsa
 refine wpFl_bL rfl (fun wc hnc hsc K hK=>?_)
 go_simp
 go_at_call 115
 (with_reducible refine(H2.out _).mono ?_)
 rintro e w' ⟨rfl,hw'⟩
 replace hw':=hw'.symm
 subst hw'
 refine hK.out _ _ hsc (Keeps.below br0) ?_
 clear hK K hnc hsc
 refine wpFl_anL rfl (.cells #[.int .i64 (if t=s then 0 else 1),.int .i64 0] 3 (0,0)) (fun n=>.slice (some ⟨n,0,none⟩) 2 2) ⟨by rfl,fun w'=>?_⟩ ?_
 focus(go_simp;done)
 refine wpFl_coL rfl (.cells #[.int .i64 (if t=s then 0 else 1),.int .i64 0] 3 (0,0)) (fun n=>.slice (some ⟨n,0,none⟩) 2 2) (by rfl) (N':=[]) (by rfl) (fun nb we hn_we hs_we hb_nb hz_nb=>?_)
 simp only[Act.put,zzA,zzB,zzC]
 refine wpFl_bL rfl (fun wf hnf hsf K hK=>?_)
 have HO:=zh (or_two _ HOR.out (kept_block hz_nb hnf))
 have HBf:=zh hsf
 go_simp
 go_at_call 114
 (with_reducible refine HO.out.mono ?_)
 rintro e w' ⟨rfl,hw'⟩
 replace hw':=hw'.symm
 subst hw'
 refine hK.out _ _ hsf (Keeps.below br0) ?_
 clear hK K hnf hsf hn_we hs_we hb_nb hz_nb HO
 refine wpFl_qL (v:=?_) rfl (Or.inl ⟨by rfl,?_⟩) ?_
 rotate_left
 focus(intro w' hSw;go_simp;(try with_reducible rfl);done)
 simp only[Act.put,zzA,zzB,zzC]
 refine wpFl_nil ?_
 refine NoPanic.normal ?_
 go_wp2
 all_goals go_ret
 all_goals exact⟨rfl,q_next HB2.out HBf.out⟩
end Go.Proofs.YtjjiikeldpjafaaGreatDoor
/- TopReclaims: sorting one happening, or two that are in order. The conditions: what the slice reads as. -/
namespace Go.Proofs.YtjjiikeldpjafaaGreatDoor
open Go.RowKit Go.BigFrame
attribute [local go_sem] Oper.semAt_some
set_option maxHeartbeats 1000000 in
theorem insOne_any (a:Option Addr)(n c:Nat)(f:Value)(w:World):Calls Tryz.prog 182 #[.slice a n c,.int .i64 0,.int .i64 1,f] w fun e w'=>(∃ v,e=.returned v)∧Below w.heap.size w w':=by
 go_enter Tryz.func182,Tryz.ntmps182
 go_wp2
 go_loopw [8] (fun i wr=>i=.int .i64 1∧wr=w) (fun _ _=>0)
 case atStart=>exact⟨rfl,rfl⟩
 case round =>
  obtain⟨rfl,rfl⟩:=hrel
  go_wp2
  go_end0
  exact⟨⟨_,rfl⟩,Below.refl _ _⟩
structure TwoH (w:World) (b off:Nat) (t s:Int):Prop where
 t0:w.cell? ⟨b,off,none⟩=some (.int .i64 t)
 t1:w.cell? ⟨b,off+1,none⟩=some (.int .i64 0)
 t2:w.cell? ⟨b,off+2,none⟩=some (.bool false)
 s0:w.cell? ⟨b,off+3,none⟩=some (.int .i64 s)
 s1:w.cell? ⟨b,off+4,none⟩=some (.int .i64 0)
 s2:w.cell? ⟨b,off+5,none⟩=some (.bool true)
 lt:b < w.heap.size
theorem TwoH.step {w w':World}{b off:Nat}{t s:Int}(h:TwoH w b off t s)(hb:Below w.heap.size w w'):TwoH w' b off t s :=
 ⟨(hb.cell (p:=⟨b,off,none⟩) h.lt).trans h.t0,(hb.cell (p:=⟨b,off+1,none⟩) h.lt).trans h.t1,(hb.cell (p:=⟨b,off+2,none⟩) h.lt).trans h.t2,(hb.cell (p:=⟨b,off+3,none⟩) h.lt).trans h.s0,(hb.cell (p:=⟨b,off+4,none⟩) h.lt).trans h.s1,(hb.cell (p:=⟨b,off+5,none⟩) h.lt).trans h.s2,Nat.lt_of_lt_of_le h.lt hb.size⟩
set_option maxHeartbeats 2000000 in
set_option maxRecDepth 100000 in
theorem insTwo_any {b off c:Nat}{t s:Int}(hts:t≤s){w:World}(h:TwoH w b off t s):Calls Tryz.prog 182 #[.slice (some ⟨b,off,none⟩) 2 c,.int .i64 0,.int .i64 2,.func (.func 113) #[] #[]] w fun e w'=>(∃ v,e=.returned v)∧Below w.heap.size w w':=by
 have H:=zh (fun W=>hapCmp_any t s hts W)
 obtain⟨d,hd⟩:∃ d:Int,d=if t=s then 0 else 1:=⟨_,rfl⟩
 have hd0:¬ d < 0:=by rw[hd];split <;> omega
 simp only[← hd]at H
 clear hd
 have HT:=zh h
 clear h
 go_enter Tryz.func182,Tryz.ntmps182
 go_wp2
 go_loopw [8] (fun i wr=>(i=.int .i64 1∧wr=w)∨(i=.int .i64 2∧Hid (Below w.heap.size w wr))) (fun i _=>2 - (intOf i).toNat)
 case atStart=>exact .inl ⟨rfl,rfl⟩
 case round =>
  rcases hrel with⟨rfl,rfl⟩ | ⟨rfl,hb⟩
  ·go_wp2
   go_loopw [9] (fun i wq=>i=.int .i64 1∧wq=wr) (fun _ _=>0)
   case atStart=>exact⟨rfl,rfl⟩
   case round =>
    obtain⟨rfl,rfl⟩:=hrel
    go_upto_region 4 with fail
    have wz:IntKind.i64.wrap 0=0:=by decide +kernel
    refine wp_region_noPanic ?_
    refine wp_region_lexB [.q 0,.q 1,.q 2,.q 3,.q 4,.q 5,.q 6,.q 7,.q 8,.q 9,.q 10,.q 11,.q 12,.q 13,.b 14,.q 15,.q 16] (by kernel_rfl) (by kernel_rfl) (fun _ _ _ _ h=>h) ?_
    iterate 14(refine wpFl_qL (v:=?_) rfl (Or.inl ⟨by rfl,?_⟩) ?_;rotate_left;(focus(intro w' hSw;obtain⟨x0,x1,x2,y0,y1,y2,-⟩:=HT.out.step hSw;go_simp;(try with_reducible rfl);done));simp only[Act.put,zzA,zzB,zzC])
    refine wpFl_bL rfl (fun wa hna hsa K hK=>?_)
    go_simp
    go_at_call 113
    (with_reducible refine(H.out _).mono ?_)
    rintro e w' ⟨rfl,hbb⟩
    have HB:=zh (below_next hsa hbb)
    refine hK.out _ _ HB.out (Keeps.below hbb) ?_
    clear hK K hna hsa hbb
    iterate 2(refine wpFl_qL (v:=?_) rfl (Or.inl ⟨by rfl,?_⟩) ?_;rotate_left;(focus(intro w' hSw;go_simp;(try with_reducible rfl);done));simp only[Act.put,zzA,zzB,zzC])
    refine wpFl_nil ?_
    refine NoPanic.normal ?_
    go_wp2
    go_roundw
    case rel=>exact .inr ⟨by go_num,HB⟩
    case measure=>decide
  ·go_wp2
   go_end0
   exact⟨⟨_,rfl⟩,hb.out⟩
set_option maxHeartbeats 1000000 in
theorem stabOne_any (a:Option Addr)(c:Nat)(w:World):Calls Tryz.prog 152 #[.slice a 1 c,.int .i64 1,.func (.func 113) #[] #[]] w fun e w'=>(∃ v,e=.returned v)∧Below w.heap.size w w':=by
 have H:=zh (insOne_any a 1 c (.func (.func 113) #[] #[]) w)
 skip
 go_enter Tryz.func152,Tryz.ntmps152
 go_wp2
 go_loopw [7,8] (fun j i wr=>j=.int .i64 0∧i=.int .i64 20∧wr=w) (fun _ _ _=>0)
 case atStart=>exact⟨rfl,rfl,rfl⟩
 case round =>
  obtain⟨rfl,rfl,rfl⟩:=hrel
  go_wp2_with (go_at_call 182;(with_reducible refine H.out.mono ?_);rintro e w4 ⟨⟨v,rfl⟩,h4⟩;have H4:=zh h4;clear h4)
  go_loopw [6] (fun i wq=>i=.int .i64 20∧wq=w4) (fun _ _=>0)
  case atStart=>exact⟨rfl,rfl⟩
  case round =>
   obtain⟨rfl,rfl⟩:=hrel
   go_wp2
   go_end0
   exact⟨⟨_,rfl⟩,H4.out⟩
set_option maxHeartbeats 1000000 in
theorem sortOne_any (a:Option Addr)(c:Nat)(w:World):Calls Tryz.prog 112 #[.slice a 1 c,.func (.func 113) #[] #[]] w fun e w'=>(∃ v,e=.returned v)∧Below w.heap.size w w':=by
 have H:=zh (stabOne_any a c w)
 skip
 go_enter Tryz.func112,Tryz.ntmps112
 go_wp2_with (go_at_call 152;(with_reducible refine H.out.mono ?_);rintro e w4 ⟨⟨v,rfl⟩,h4⟩;have H4:=zh h4;clear h4)
 go_end0
 exact⟨⟨_,rfl⟩,H4.out⟩
set_option maxHeartbeats 1000000 in
theorem stabTwo_any {b off c:Nat}{t s:Int}(hts:t≤s){w:World}(h:TwoH w b off t s):Calls Tryz.prog 152 #[.slice (some ⟨b,off,none⟩) 2 c,.int .i64 2,.func (.func 113) #[] #[]] w fun e w'=>(∃ v,e=.returned v)∧Below w.heap.size w w':=by
 have H:=zh (insTwo_any (c:=c) hts h)
 clear h
 go_enter Tryz.func152,Tryz.ntmps152
 go_wp2
 go_loopw [7,8] (fun j i wr=>j=.int .i64 0∧i=.int .i64 20∧wr=w) (fun _ _ _=>0)
 case atStart=>exact⟨rfl,rfl,rfl⟩
 case round =>
  obtain⟨rfl,rfl,rfl⟩:=hrel
  go_wp2_with (go_at_call 182;(with_reducible refine H.out.mono ?_);rintro e w4 ⟨⟨v,rfl⟩,h4⟩;have H4:=zh h4;clear h4)
  go_loopw [6] (fun i wq=>i=.int .i64 20∧wq=w4) (fun _ _=>0)
  case atStart=>exact⟨rfl,rfl⟩
  case round =>
   obtain⟨rfl,rfl⟩:=hrel
   go_wp2
   go_end0
   exact⟨⟨_,rfl⟩,H4.out⟩
set_option maxHeartbeats 1000000 in
theorem sortTwo_any {b off c:Nat}{t s:Int}(hts:t≤s){w:World}(h:TwoH w b off t s):Calls Tryz.prog 112 #[.slice (some ⟨b,off,none⟩) 2 c,.func (.func 113) #[] #[]] w fun e w'=>(∃ v,e=.returned v)∧Below w.heap.size w w':=by
 have H:=zh (stabTwo_any (c:=c) hts h)
 clear h
 go_enter Tryz.func112,Tryz.ntmps112
 go_wp2_with (go_at_call 152;(with_reducible refine H.out.mono ?_);rintro e w4 ⟨⟨v,rfl⟩,h4⟩;have H4:=zh h4;clear h4)
 go_end0
 exact⟨⟨_,rfl⟩,H4.out⟩
end Go.Proofs.YtjjiikeldpjafaaGreatDoor
