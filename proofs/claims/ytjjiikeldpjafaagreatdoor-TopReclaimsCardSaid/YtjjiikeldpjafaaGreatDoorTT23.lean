/- TopReclaims: the iterator over the statuses of a claim that is reversed for lack of a wish. The conditions: what the blocks hold. -/
import Derived.Test.YtjjiikeldpjafaaGreatDoorTT22
namespace Go.Proofs.YtjjiikeldpjafaaGreatDoor
open Go.RowKit Go.BigFrame
attribute [local go_sem] Oper.semAt_some
def finalT (c:Mc):Int:=c.ca+c.a0+c.a1+c.a3
def stOne (c:Mc)(s:Int):List St:=if s < finalT c∧c.cb=false then[staK c 0,staK c 1,staK c 2,(8,s,-1)]else[staK c 0,staK c 1,staK c 2,staK c 3]
def StFin (c:Mc)(s:Int)(x:St)(pre:List St):Prop:=(x.2.2 < 0∧pre=stOne c s)∨(x=staK c 2∧pre.length=3∧pre++[staK c 3]=stOne c s)
theorem unlikeC {W:World}{b c:Nat}{cs ds:Array Value}{T U:TypeId}(h:W.heap[b]?=some (.cells cs T (0,0)))(h':W.heap[c]?=some (.cells ds U (0,0)))(hT:T≠U):b≠c:=by
 intro e
 subst e
 rw[h]at h'
 injection h' with h'
 injection h' with _ e _
 exact hT e
theorem below_of_none {A B:World}(h:A.grownBy B none):Below A.heap.size A B:=⟨h.os,h.tape,h.output,h.size,fun i hi=>h.block i hi (by simp)⟩
theorem StAt.void {c:Mc}{bm bl byy nb:Nat}{yv lv vv:Value}{x:St}{W:World}(h:StAt c bm bl byy nb yv lv vv x W)(v:Value):StAt c bm bl byy nb yv lv v x (W.setCell ⟨c.mb,12,none⟩ v):=by
 have hmc:=h.mach.cells
 have hn:∀ {k:Nat} {cs:Array Value} {T:TypeId},W.heap[k]?=some (.cells cs T (0,0))→T≠297→k≠c.mb:=fun g hT=>unlikeC g hmc hT
 have k:∀ {k:Nat} {o:Obj},W.heap[k]?=some o→k≠c.mb→(W.setCell ⟨c.mb,12,none⟩ v).heap[k]?=some o:=fun g1 g2=>(Below.heap_setCell _ _ _ _ g2).trans g1
 have km:∀ {k:Nat} {es:Array MapEntry} {clk:Nat},W.heap[k]?=some (.map es clk)→k≠c.mb:=fun g e=>by
  subst e
  rw[hmc]at g
  cases g
 obtain⟨es,clk,g1,g2⟩:=h.eff
 refine⟨k h.m (hn h.m (by decide)),k h.l (hn h.l (by decide)),k h.y (hn h.y (by decide)),k h.now (hn h.now (by decide)),⟨?_,k h.mach.dues (km h.mach.dues)⟩,⟨es,clk,k g1 (km g1),g2⟩⟩
 have:=heap_setCell_same (i:=12) v hmc
 simpa using this
set_option maxHeartbeats 8000000 in
set_option maxRecDepth 100000 in
theorem statuses_one {c:Mc}(hc:c.Ok){bm bl eb:Nat}{s:Int}(hs:c.ca+c.a0+c.a1≤s)(hs2:s≤20000000){w0:World}(h:StPre c bm bl (.slice (some ⟨eb,0,none⟩) 1 1) (.slice none 0 0) w0)
  (he:w0.heap[eb]?=some (.cells #[.int .i64 6,.int .i64 s,.int .i64 1] 83 (0,0))) :
  IterN Tryz.prog 178 #[.pointer (some ⟨bm,0,none⟩),.pointer (some ⟨bl,0,none⟩)] stE StKp (StR c) (fun xs=>xs=stOne c s) (fun _=>True) 4 w0:=by
 obtain⟨vv,hvv⟩:∃ vv,vv=Value.slice none 0 0:=⟨_,rfl⟩
 rw[← hvv]at h
 intro F n hF hro lb J Jx W hW hJ hJx hY h0
 have HP:=zh (h.step hW)
 have HE:=zh ((hW.block _ (ltA he)).trans he)
 clear he
 have HJ:=zh hJ
 have HY:=zh hY
 have H0:=zh h0
 have HC:=zh hc
 have hmf:∀(fn:Fn) (first cap:Array Value) (w:World),(Instr.makeFunc fn first cap).run Tryz.prog w=.ok (.func fn first cap) w:=fun _ _ _ _=>rfl
 obtain⟨W1,hW1⟩:∃ W1,W1=W.alloc (.cells #[.func (.yield lb) #[] #[]] 299):=⟨_,rfl⟩
 have HB1:Hid (Below W.heap.size W W1):=zh (by rw[hW1];exact br0.alloc (Nat.le_refl _) _)
 have HX1:Hid (W1.heap[W.heap.size]?=some (.cells #[.func (.yield lb) #[] #[]] 299 (0,0))):=zh (by rw[hW1];exact heap_alloc_new W _)
 have HW1:=zh hW1
 have HD:Hid (∀ V,Below W1.heap.size W1 V→(V.cell? ⟨bm,0,none⟩=some (.pointer (some ⟨c.mb,0,none⟩))∧V.cell? ⟨c.mb,8,none⟩=some (.int .i64 c.ca))):=zh (fun V hV=>by
  have hx:=HP.out.step (q_next HB1.out hV)
  exact⟨cell_of_row V _ 0 _ _ _ hx.m,cell_of_row V _ 8 _ _ _ hx.mach.cells⟩)
 have HBG:Hid (∀ V,Below W1.heap.size W1 V→Calls Tryz.prog 179 #[.pointer (some ⟨c.mb,0,none⟩),.int .i64 1,.int .i64 c.ca] V fun e w'=>e=.returned (.agg #[.int .i64 1,.int .i64 c.ca,.int .i64 (c.ca+c.a0)])∧Below V.heap.size V w'):=zh (fun V hV=>by
  have hm:=(HP.out.step (q_next HB1.out hV)).mach
  have h2:=HC.out.h0
  have h3:=HC.out.ha
  exact beginsAsked hm _ (by omega) (by omega) h2)
 clear hW1 h hc hW hJ hJx hY h0
 refine callsIn_of_wp Tryz.func178 rfl (hF.1 _) ?_ hro
 simp only[Tryz.ntmps178,List.size_toArray,List.length_cons,List.length_nil,Nat.reduceAdd,Nat.reduceSub,Array.replicate_succ,Array.replicate_zero,List.push_toArray,List.append_toArray,List.nil_append,List.cons_append]
 gi_wp2
 rw[← HW1.out]
 clear HW1
 refine wpIn_of_wp hF hro ?_
 refine wp_region_noPanic ?_
 refine wp_region_lexB [.q 0,.q 1,.q 2,.q 3,.q 4,.q 5,.an 7,.b 6,.co 7,.b 8] (by kernel_rfl) (by kernel_rfl) (fun _ _ _ _ h=>h) ?_
 iterate 6(refine wpFl_qL (v:=?_) rfl (Or.inl ⟨by rfl,?_⟩) ?_;rotate_left;(focus(intro w' hSw;obtain⟨g0,g1⟩:=HD.out w' hSw;go_simp;(try with_reducible rfl);done));simp only[Act.put,zzA,zzB,zzC])
 refine wpFl_anL rfl (.cells #[.int .i64 0,.int .i64 0,.int .i64 0] 217 (0,0)) (fun n=>.pointer (some ⟨n,0,none⟩)) ⟨by rfl,fun w'=>?_⟩ ?_
 focus(go_simp;done)
 refine wpFl_bL rfl (fun wa hna hsa K hK=>?_)
 go_simp
 go_at_call 179
 (with_reducible refine(HBG.out _ hsa).mono ?_)
 rintro r wb ⟨rfl,hbb⟩
 refine hK.out _ _ (below_next hsa hbb) (Keeps.below hbb) ?_
 clear hK K hna hsa hbb
 refine wpFl_coL rfl (.cells #[.int .i64 0,.int .i64 0,.int .i64 0] 217 (0,0)) (fun n=>.pointer (some ⟨n,0,none⟩)) (by rfl) (N':=[]) (by rfl) (fun nb we hn_we hs_we hb_nb hz_nb=>?_)
 simp only[Act.put,zzA,zzB,zzC]
 refine wpFl_bL rfl (fun wf hnf hsf K hK=>?_)
 have HZ:=zh (kept_block hz_nb hnf)
 obtain⟨z0,z1,z2⟩:=three_cellsC HZ.out
 have zf:∀ j,wf.frozen? ⟨nb,j,none⟩=false:=fun j=>by unfold World.frozen?;rw[HZ.out];simp
 go_simp
 have HBD:=zh (three_belowC hsf hb_nb (.int .i64 1) (.int .i64 c.ca) (.int .i64 (c.ca+c.a0)))
 have HZN:=zh (three_heapC HZ.out (.int .i64 1) (.int .i64 c.ca) (.int .i64 (c.ca+c.a0)))
 refine hK.out _ _ HBD.out Keeps.nil ?_
 clear hK K hnf hsf z0 z1 z2 zf HZ
 have HNB:Hid (W.heap.size≤nb):=zh (Nat.le_trans HB1.out.size hb_nb)
 clear hn_we hs_we hb_nb hz_nb
 generalize (((wf.setCell ⟨nb,0,none⟩ (.int .i64 1)).setCell ⟨nb,1,none⟩ (.int .i64 c.ca)).setCell ⟨nb,2,none⟩ (.int .i64 (c.ca+c.a0)))=wd at *
 have HBW:=zh (q_next HB1.out HBD.out)
 have HS1:Hid (StAt c bm bl W.heap.size nb (.func (.yield lb) #[] #[]) (.slice (some ⟨eb,0,none⟩) 1 1) vv (staK c 0) wd):=zh (by
  have hx:=HP.out.step HBW.out
  exact⟨hx.m,hx.l,kept_block HX1.out HBD.out,HZN.out,hx.mach,hx.eff⟩)
 have HJ1:=zh (HJ.out nb [] W wd HNB.out (H0.out nb HNB.out) (IStepS.below HBW.out))
 clear HD HBG H0 HBD HZN HX1
 obtain⟨fn,tmps,assign,body,hy,hRR⟩:=HY.out nb [] (staK c 0) wd HNB.out (ltA HS1.out.now) HJ1.out (by decide)
 dsimp only [stE,staK]at hy
 obtain⟨g0,g1,g2⟩:=three_cellsC HS1.out.now
 simp only[staK]at g0 g1 g2
 have gy:=cell_of_row wd _ 0 _ _ _ HS1.out.y
 refine wpFl_nil ?_
 refine NoPanic.normal ?_
 gi_wp2
 refine⟨fun h=>(by rw[hF.2.1]at h;cases h),hRR.mono ?_⟩
 rintro r W4 (⟨rfl,hJ4,hk4⟩ | ⟨rfl,hJx4⟩)
 rotate_left
 ·clear hy hRR g0 g1 g2 gy
  gi_wp2
  refine bodyPost_ret (results_none rfl _ _ _) rfl ?_
  exact⟨⟨_,rfl⟩,.inr ⟨nb,_,HNB.out,trivial,hJx4⟩⟩
 have HS4:=zh (HS1.out.kp hk4)
 have HJ4:=zh hJ4
 have HE4:=zh (hk4.cells _ _ _ (kept_block HE.out HBW.out) (by decide) (by decide))
 have gl:=cell_of_row W4 _ 0 _ _ _ HS4.out.l
 clear hy hRR hk4 hJ4 g0 g1 g2 gy HS1 HJ1 HBW
 gi_wp2
 gi_loopw [24] (fun i wr=>(i=.int .i64 0∧wr=W4)∨(i=.int .i64 1∧∃ x pre vw,Hid (StAt c bm bl W.heap.size nb (.func (.yield lb) #[] #[]) (.slice (some ⟨eb,0,none⟩) 1 1) vw x wr)∧Hid (J nb pre wr)∧Hid (StFin c s x pre))) (fun i _=>1 - (intOf i).toNat)
 case atStart=>exact .inl ⟨rfl,rfl⟩
 case round =>
  rcases hrel with⟨rfl,rfl⟩ | ⟨rfl,x,pre,vw,hS,hJs,hFin⟩
  ·obtain⟨e0,e1,e2⟩:=three_cellsC HE4.out
   have HA5:=zh ((Below.refl wr.heap.size wr).alloc (Nat.le_refl _) (.cells #[.int .i64 6,.int .i64 s,.int .i64 1] 83))
   have HX5:=zh (heap_alloc_new wr (.cells #[.int .i64 6,.int .i64 s,.int .i64 1] 83))
   gi_wp2
   have HS5:=zh (HS4.out.step HA5.out)
   have HJ5:=zh (HJ.out nb _ wr _ HNB.out HJ4.out (IStepS.below HA5.out))
   generalize wr.alloc (.cells #[.int .i64 6,.int .i64 s,.int .i64 1] 83)=W5 at *
   obtain⟨xb,hxb⟩:∃ xb,xb=wr.heap.size:=⟨_,rfl⟩
   rw[← hxb]at HX5 ⊢
   clear hxb HA5 HS4 HJ4 HE4 e0 e1 e2 gl
   obtain⟨b0,b1,b3,ba⟩:=HC.out
   by_cases hf:finalT c≤s
   ·have HU:Hid (∀ j,0≤j→j < 3→(staK c j).2.2≤s):=zh (fun j _ hj=>by
     unfold finalT at hf
     rcases(by omega:j=0∨j=1∨j=2)with rfl | rfl | rfl <;> simp only[staK] <;> omega)
    refine⟨hF.1 _,fun h=>(by rw[hF.2.1]at h;cases h),(alone_any hF hro HC.out (fun pre A B=>HJ.out nb pre A B HNB.out) (fun pre x W1 h1 h2 h3=>HY.out nb pre x W1 HNB.out h1 h2 h3) s (k:=0) (e:=3) (by decide) (by decide) HU.out (.inl (by decide:(-1:Int) < 0)) HS5.out HJ5.out (show 1+3≤4 by decide)).mono ?_⟩
    rintro r W6 (⟨rfl,h1,h2,h3⟩ | ⟨rfl,pre',h2⟩)
    rotate_left
    ·have H2:=zh h2
     clear h2
     gi_wp2
     refine bodyPost_ret (results_none rfl _ _ _) rfl ?_
     exact⟨⟨_,rfl⟩,.inr ⟨nb,_,HNB.out,trivial,H2.out⟩⟩
    have HS6:=zh h1
    have HJ6:=zh h2
    have HX6:=zh (h3 _ _ _ HX5.out (by decide) (by decide))
    clear h1 h2 h3 HS5 HJ5 HX5
    obtain⟨es,clk,f1,f2⟩:=HS6.out.eff
    have HAF:=zh (after_fin HS6.out.mach f1 f2 s)
    clear f1 f2
    obtain⟨x0,x1,x2⟩:=three_cellsC HX6.out
    obtain⟨n0,n1,n2⟩:=three_cellsC HS6.out.now
    simp only[staK]at n0 n1 n2
    have m0:=cell_of_row W6 _ 0 _ _ _ HS6.out.m
    gi_wp2
    refine⟨hF.1 _,fun h=>(by rw[hF.2.1]at h;cases h),(callsIn_of_calls hF HAF.out).mono ?_⟩
    rintro r W7 ⟨rfl,hb7⟩
    have HS7:=zh (HS6.out.step hb7)
    have HJ7:=zh (HJ.out nb _ W6 _ HNB.out HJ6.out (IStepS.below hb7))
    have HX7:=zh (kept_block HX6.out hb7)
    clear hb7 x0 x1 x2 n0 n1 n2 m0 HAF HS6 HJ6 HX6
    gi_wp2
    refine wpIn_of_wp hF hro ?_
    refine wp_region_noPanic ?_
    refine wp_region_lexF [.q 0,.q 1,.q 2,.q 3,.q 5,.an 6,.b 4,.co 6,.b 7,.q 8,.q 9,.b 10] (fun V=>V.heap[bm]?=some (.cells #[.pointer (some ⟨c.mb,0,none⟩)] 259 (0,0))) (by kernel_rfl) (by kernel_rfl) (fun _ _ _ _ h=>h) (fun _ _ h h'=>kept_block h h') HS7.out.m ?_
    iterate 5(refine wpFl_qL (v:=?_) rfl (Or.inl ⟨by rfl,?_⟩) ?_;rotate_left;(focus(intro w' hSw;(try dsimp only at hSw);have g0:=cell_of_row w' _ 0 _ _ _ hSw;go_simp;(try with_reducible rfl);done));simp only[Act.put,zzA,zzB,zzC])
    refine wpFl_anL rfl (.cells #[.int .i64 0] 3 (0,0)) (fun n=>.slice (some ⟨n,0,none⟩) 1 1) ⟨by rfl,fun w'=>?_⟩ ?_
    focus(go_simp;done)
    refine wpFl_bS rfl (fun wa hna hsa K hK=>?_)
    have hna':=q_next (Below.drew (Below.refl _ W7)) hna
    have HSa:=zh (HS7.out.step hna')
    have HJa:=zh (HJ.out nb _ W7 _ HNB.out HJ7.out (IStepS.below hna'))
    have HLa:Hid (W7.heap.size≤wa.heap.size):=zh hna'.size
    have c12:=cell_of_row wa _ 12 _ _ _ HSa.out.mach.cells
    rw[hvv]at c12
    go_simp
    refine hK.out _ _ hsa HLa.out (Keeps.below br0) ?_
    clear hK K hna hna' hsa c12
    refine wpFl_coL rfl (.cells #[.int .i64 0] 3 (0,0)) (fun n=>.slice (some ⟨n,0,none⟩) 1 1) (by rfl) (N':=[]) (by rfl) (fun b6 we hn_we hs_we hb_b6 hz_b6=>?_)
    simp only[Act.put,zzA,zzB,zzC]
    have HSe:=zh (HSa.out.step hn_we)
    have HJe:=zh (HJ.out nb _ wa _ HNB.out HJa.out (IStepS.below hn_we))
    have HZa:=zh hz_b6
    have HLe:Hid (W7.heap.size≤we.heap.size):=zh (Nat.le_trans HLa.out hn_we.size)
    clear hn_we hs_we hb_b6 hz_b6 HSa HJa HLa
    refine wpFl_bS rfl (fun wg hng hsg K hK=>?_)
    have HSg:=zh (HSe.out.step hng)
    have HJg:=zh (HJ.out nb _ we _ HNB.out HJe.out (IStepS.below hng))
    have HZg:=zh (kept_block HZa.out hng)
    have HLg:Hid (W7.heap.size≤wg.heap.size):=zh (Nat.le_trans HLe.out hng.size)
    refine step_append_int rfl (.tmp 48) (.tmp 50) 0 rfl (b:=b6) rfl rfl HZg.out (fun v' wc hown hg=>?_)
    have hbc:Below wg.heap.size wg wc:=below_of_none hg
    have HSc:=zh (HSg.out.step hbc)
    have HJc:=zh (HJ.out nb _ wg _ HNB.out HJg.out (IStepS.below hbc))
    have HLc:Hid (W7.heap.size≤wc.heap.size):=zh (Nat.le_trans HLg.out hbc.size)
    obtain⟨va,vp,hv'⟩:=OwnE.form hown
    subst hv'
    refine hK.out _ _ HSc.out.m HLc.out Keeps.nil ?_
    clear hK K hng hsg hown hg hbc HSg HJg HZg HLg HSe HJe HZa HLe
    simp only[Act.put,zzA,zzB,zzC]
    iterate 2(refine wpFl_qL (v:=?_) rfl (Or.inl ⟨by rfl,?_⟩) ?_;rotate_left;(focus(intro w' hSw;go_simp;(try with_reducible rfl);done));simp only[Act.put,zzA,zzB,zzC])
    refine wpFl_bS rfl (fun wd' hnd hsd K hK=>?_)
    have HSd:=zh (HSc.out.step hnd)
    have HJd:=zh (HJ.out nb _ wc _ HNB.out HJc.out (IStepS.below hnd))
    have HLd:Hid (W7.heap.size≤wd'.heap.size):=zh (Nat.le_trans HLc.out hnd.size)
    have c12:=cell_of_row wd' _ 12 _ _ _ HSd.out.mach.cells
    have zf:∀ j,wd'.frozen? ⟨c.mb,j,none⟩=false:=fun j=>by unfold World.frozen?;rw[HSd.out.mach.cells];simp
    go_simp
    have HS8:=zh (HSd.out.void (.slice va 1 vp))
    have HJ8:=zh (HJ.out nb _ wd' (wd'.setCell ⟨c.mb,12,none⟩ (.slice va 1 vp)) HNB.out HJd.out ⟨some c.mb,grown_setCell (grown_refl _ _) ⟨c.mb,12,none⟩ (.inl rfl) _,fun b e=>by cases e;exact .inl rfl⟩)
    refine hK.out _ _ HS8.out.m (by simpa using HLd.out) Keeps.nil ?_
    clear hK K hnd hsd c12 zf HSc HJc HLc HSd HJd HLd
    refine wpFl_nil ?_
    refine NoPanic.normal ?_
    gi_wp2
    exact⟨.inr ⟨rfl,_,_,_,HS8,HJ8,zh (.inl ⟨(by decide:(-1:Int) < 0),by unfold stOne;rw[if_neg (by omega)];rfl⟩)⟩,by decide⟩
   ·have HU:Hid (∀ j,0≤j→j < 2→(staK c j).2.2≤s):=zh (fun j _ hj=>by
     rcases(by omega:j=0∨j=1)with rfl | rfl <;> simp only[staK] <;> omega)
    have HE2:Hid (s < (staK c 2).2.2):=zh (by unfold finalT at hf;simp only[staK];omega)
    cases hcb:c.cb with
    | true =>
     refine⟨hF.1 _,fun h=>(by rw[hF.2.1]at h;cases h),(alone_any hF hro HC.out (fun pre A B=>HJ.out nb pre A B HNB.out) (fun pre x W1 h1 h2 h3=>HY.out nb pre x W1 HNB.out h1 h2 h3) s (k:=0) (e:=2) (by decide) (by decide) HU.out (.inr HE2.out) HS5.out HJ5.out (show 1+2≤4 by decide)).mono ?_⟩
     rintro r W6 (⟨rfl,h1,h2,h3⟩ | ⟨rfl,pre',h2⟩)
     rotate_left
     ·have H2:=zh h2
      clear h2
      gi_wp2
      refine bodyPost_ret (results_none rfl _ _ _) rfl ?_
      exact⟨⟨_,rfl⟩,.inr ⟨nb,_,HNB.out,trivial,H2.out⟩⟩
     have HS6:=zh h1
     have HJ6:=zh h2
     have HX6:=zh (h3 _ _ _ HX5.out (by decide) (by decide))
     clear h1 h2 h3 HS5 HJ5 HX5
     obtain⟨es,clk,f1,f2⟩:=HS6.out.eff
     have HAF:=zh (after_eff HS6.out.mach f1 f2 s)
     rw[hcb]at HAF
     clear f1 f2
     obtain⟨x0,x1,x2⟩:=three_cellsC HX6.out
     obtain⟨n0,n1,n2⟩:=three_cellsC HS6.out.now
     simp only[staK]at n0 n1 n2
     have m0:=cell_of_row W6 _ 0 _ _ _ HS6.out.m
     gi_wp2
     refine⟨hF.1 _,fun h=>(by rw[hF.2.1]at h;cases h),(callsIn_of_calls hF HAF.out).mono ?_⟩
     rintro r W7 ⟨rfl,hb7⟩
     have HS7:=zh (HS6.out.step hb7)
     have HJ7:=zh (HJ.out nb _ W6 _ HNB.out HJ6.out (IStepS.below hb7))
     have HX7:=zh (kept_block HX6.out hb7)
     clear hb7 x0 x1 x2 n0 n1 n2 m0 HAF HS6 HJ6 HX6
     gi_wp2
     refine wpIn_of_wp hF hro ?_
     refine wp_region_noPanic ?_
     refine wp_region_lexF [.q 0,.q 1,.q 2,.q 3,.q 5,.an 6,.b 4,.co 6,.b 7,.q 8,.q 9,.b 10] (fun V=>V.heap[bm]?=some (.cells #[.pointer (some ⟨c.mb,0,none⟩)] 259 (0,0))) (by kernel_rfl) (by kernel_rfl) (fun _ _ _ _ h=>h) (fun _ _ h h'=>kept_block h h') HS7.out.m ?_
     iterate 5(refine wpFl_qL (v:=?_) rfl (Or.inl ⟨by rfl,?_⟩) ?_;rotate_left;(focus(intro w' hSw;(try dsimp only at hSw);have g0:=cell_of_row w' _ 0 _ _ _ hSw;go_simp;(try with_reducible rfl);done));simp only[Act.put,zzA,zzB,zzC])
     refine wpFl_anL rfl (.cells #[.int .i64 0] 3 (0,0)) (fun n=>.slice (some ⟨n,0,none⟩) 1 1) ⟨by rfl,fun w'=>?_⟩ ?_
     focus(go_simp;done)
     refine wpFl_bS rfl (fun wa hna hsa K hK=>?_)
     have hna':=q_next (Below.drew (Below.refl _ W7)) hna
     have HSa:=zh (HS7.out.step hna')
     have HJa:=zh (HJ.out nb _ W7 _ HNB.out HJ7.out (IStepS.below hna'))
     have HLa:Hid (W7.heap.size≤wa.heap.size):=zh hna'.size
     have c12:=cell_of_row wa _ 12 _ _ _ HSa.out.mach.cells
     rw[hvv]at c12
     go_simp
     refine hK.out _ _ hsa HLa.out (Keeps.below br0) ?_
     clear hK K hna hna' hsa c12
     refine wpFl_coL rfl (.cells #[.int .i64 0] 3 (0,0)) (fun n=>.slice (some ⟨n,0,none⟩) 1 1) (by rfl) (N':=[]) (by rfl) (fun b6 we hn_we hs_we hb_b6 hz_b6=>?_)
     simp only[Act.put,zzA,zzB,zzC]
     have HSe:=zh (HSa.out.step hn_we)
     have HJe:=zh (HJ.out nb _ wa _ HNB.out HJa.out (IStepS.below hn_we))
     have HZa:=zh hz_b6
     have HLe:Hid (W7.heap.size≤we.heap.size):=zh (Nat.le_trans HLa.out hn_we.size)
     clear hn_we hs_we hb_b6 hz_b6 HSa HJa HLa
     refine wpFl_bS rfl (fun wg hng hsg K hK=>?_)
     have HSg:=zh (HSe.out.step hng)
     have HJg:=zh (HJ.out nb _ we _ HNB.out HJe.out (IStepS.below hng))
     have HZg:=zh (kept_block HZa.out hng)
     have HLg:Hid (W7.heap.size≤wg.heap.size):=zh (Nat.le_trans HLe.out hng.size)
     refine step_append_int rfl (.tmp 48) (.tmp 50) 0 rfl (b:=b6) rfl rfl HZg.out (fun v' wc hown hg=>?_)
     have hbc:Below wg.heap.size wg wc:=below_of_none hg
     have HSc:=zh (HSg.out.step hbc)
     have HJc:=zh (HJ.out nb _ wg _ HNB.out HJg.out (IStepS.below hbc))
     have HLc:Hid (W7.heap.size≤wc.heap.size):=zh (Nat.le_trans HLg.out hbc.size)
     obtain⟨va,vp,hv'⟩:=OwnE.form hown
     subst hv'
     refine hK.out _ _ HSc.out.m HLc.out Keeps.nil ?_
     clear hK K hng hsg hown hg hbc HSg HJg HZg HLg HSe HJe HZa HLe
     simp only[Act.put,zzA,zzB,zzC]
     iterate 2(refine wpFl_qL (v:=?_) rfl (Or.inl ⟨by rfl,?_⟩) ?_;rotate_left;(focus(intro w' hSw;go_simp;(try with_reducible rfl);done));simp only[Act.put,zzA,zzB,zzC])
     refine wpFl_bS rfl (fun wd' hnd hsd K hK=>?_)
     have HSd:=zh (HSc.out.step hnd)
     have HJd:=zh (HJ.out nb _ wc _ HNB.out HJc.out (IStepS.below hnd))
     have HLd:Hid (W7.heap.size≤wd'.heap.size):=zh (Nat.le_trans HLc.out hnd.size)
     have c12:=cell_of_row wd' _ 12 _ _ _ HSd.out.mach.cells
     have zf:∀ j,wd'.frozen? ⟨c.mb,j,none⟩=false:=fun j=>by unfold World.frozen?;rw[HSd.out.mach.cells];simp
     go_simp
     have HS8:=zh (HSd.out.void (.slice va 1 vp))
     have HJ8:=zh (HJ.out nb _ wd' (wd'.setCell ⟨c.mb,12,none⟩ (.slice va 1 vp)) HNB.out HJd.out ⟨some c.mb,grown_setCell (grown_refl _ _) ⟨c.mb,12,none⟩ (.inl rfl) _,fun b e=>by cases e;exact .inl rfl⟩)
     refine hK.out _ _ HS8.out.m (by simpa using HLd.out) Keeps.nil ?_
     clear hK K hnd hsd c12 zf HSc HJc HLc HSd HJd HLd
     refine wpFl_nil ?_
     refine NoPanic.normal ?_
     gi_wp2
     exact⟨.inr ⟨rfl,_,_,_,HS8,HJ8,zh (.inr ⟨rfl,rfl,by unfold stOne;rw[if_neg (by rw[hcb];simp)];rfl⟩)⟩,by decide⟩
    | false =>
     refine⟨hF.1 _,fun h=>(by rw[hF.2.1]at h;cases h),(alone_any hF hro HC.out (fun pre A B=>HJ.out nb pre A B HNB.out) (fun pre x W1 h1 h2 h3=>HY.out nb pre x W1 HNB.out h1 h2 h3) s (k:=0) (e:=2) (by decide) (by decide) HU.out (.inr HE2.out) HS5.out HJ5.out (show 1+2≤4 by decide)).mono ?_⟩
     rintro r W6 (⟨rfl,h1,h2,h3⟩ | ⟨rfl,pre',h2⟩)
     rotate_left
     ·have H2:=zh h2
      clear h2
      gi_wp2
      refine bodyPost_ret (results_none rfl _ _ _) rfl ?_
      exact⟨⟨_,rfl⟩,.inr ⟨nb,_,HNB.out,trivial,H2.out⟩⟩
     have HS6:=zh h1
     have HJ6:=zh h2
     have HX6:=zh (h3 _ _ _ HX5.out (by decide) (by decide))
     clear h1 h2 h3 HS5 HJ5 HX5
     obtain⟨es,clk,f1,f2⟩:=HS6.out.eff
     have HAF:=zh (after_eff HS6.out.mach f1 f2 s)
     rw[hcb]at HAF
     clear f1 f2
     obtain⟨x0,x1,x2⟩:=three_cellsC HX6.out
     obtain⟨n0,n1,n2⟩:=three_cellsC HS6.out.now
     simp only[staK]at n0 n1 n2
     have m0:=cell_of_row W6 _ 0 _ _ _ HS6.out.m
     gi_wp2
     refine⟨hF.1 _,fun h=>(by rw[hF.2.1]at h;cases h),(callsIn_of_calls hF HAF.out).mono ?_⟩
     rintro r W7 ⟨rfl,hb7⟩
     have HS7:=zh (HS6.out.step hb7)
     have HJ7:=zh (HJ.out nb _ W6 _ HNB.out HJ6.out (IStepS.below hb7))
     have HX7:=zh (kept_block HX6.out hb7)
     clear hb7 x0 x1 x2 n0 n1 n2 m0 HAF HS6 HJ6 HX6
     have HBL:=zh (beginsLast HS7.out.mach s (st:=8) (.inr rfl))
     obtain⟨x0,x1,x2⟩:=three_cellsC HX7.out
     have m0:=cell_of_row W7 _ 0 _ _ _ HS7.out.m
     gi_wp2
     refine⟨hF.1 _,fun h=>(by rw[hF.2.1]at h;cases h),(callsIn_of_calls hF HBL.out).mono ?_⟩
     rintro r W8 ⟨rfl,hb8⟩
     have HS8:=zh (HS7.out.step hb8)
     have HJ8:=zh (HJ.out nb _ W7 _ HNB.out HJ7.out (isteps_nb (nb:=nb) hb8 (.inr rfl) (.int .i64 8) (.int .i64 s) (.int .i64 (-1))))
     obtain⟨n0,n1,n2⟩:=three_cellsC HS8.out.now
     have zf:∀ i,W8.frozen? ⟨nb,i,none⟩=false:=(fun i=>by unfold World.frozen?;rw[HS8.out.now];simp[stC])
     have y0:=cell_of_row W8 _ 0 _ _ _ HS8.out.y
     have hne:¬ W.heap.size=nb:=unlikeC HS8.out.y HS8.out.now (by decide)
     clear hb8 x0 x1 x2 m0 HBL
     have HP8:=zh (HS8.out.put (8,s,-1))
     simp only at HP8
     obtain⟨fn2,tmps2,assign2,body2,hy2,hRR2⟩:=HY.out nb _ (8,s,-1) _ HNB.out (ltA HP8.out.now) HJ8.out (show 3 < 4 by decide)
     dsimp only [stE]at hy2
     have HYH:=zh HY
     clear HY
     gi_wp2
     refine⟨fun h=>(by rw[hF.2.1]at h;cases h),hRR2.mono ?_⟩
     rintro r W9 (⟨rfl,hJ9,hk9⟩ | ⟨rfl,hJx9⟩)
     ·have HS9:=zh (HP8.out.kp hk9)
      have HJ9:=zh hJ9
      clear hy2 hRR2 hk9 hJ9 n0 n1 n2 zf y0
      gi_wp2
      go_roundw
      case rel=>exact .inr ⟨by go_num,_,_,_,HS9,HJ9,zh (.inl ⟨(by decide:(-1:Int) < 0),by unfold stOne;rw[if_pos ⟨by omega,hcb⟩];rfl⟩)⟩
      case measure=>decide
     ·clear hy2 hRR2 n0 n1 n2 zf y0
      gi_wp2
      refine bodyPost_ret (results_none rfl _ _ _) rfl ?_
      exact⟨⟨_,rfl⟩,.inr ⟨nb,_,HNB.out,trivial,hJx9⟩⟩
  ·clear gl HE4 HS4 HJ4
   rcases hFin.out with⟨hx,hp⟩ | ⟨rfl,hlen,hp⟩
   ·gi_wp2
    refine⟨hF.1 _,fun h=>(by rw[hF.2.1]at h;cases h),(alone_none hF hro hS.out _ hx).mono ?_⟩
    rintro r W5 ⟨rfl,rfl⟩
    gi_wp2
    go_end0
    exact⟨⟨_,rfl⟩,.inl ⟨nb,_,HNB.out,hp,hJs.out⟩⟩
   ·have HU:Hid (∀ j,2≤j→j < 3→(staK c j).2.2≤4611686018427387904):=zh (fun j hj2 hj=>by
     obtain⟨h0,h1,h3,ha⟩:=HC.out
     rcases(by omega:j=2)with rfl
     simp only[staK]
     omega)
    gi_wp2
    refine⟨hF.1 _,fun h=>(by rw[hF.2.1]at h;cases h),(alone_any hF hro HC.out (fun pre A B=>HJ.out nb pre A B HNB.out) (fun pre x W1 h1 h2 h3=>HY.out nb pre x W1 HNB.out h1 h2 h3) _ (k:=2) (e:=3) (by decide) (by decide) HU.out (.inl (by decide:(-1:Int) < 0)) hS.out hJs.out (by omega)).mono ?_⟩
    rintro r W5 (⟨rfl,h1,h2,-⟩ | ⟨rfl,pre',h2⟩)
    ·have H2:=zh h2
     clear h1 h2
     gi_wp2
     go_end0
     exact⟨⟨_,rfl⟩,.inl ⟨nb,_,HNB.out,hp,H2.out⟩⟩
    ·have H2:=zh h2
     clear h2
     gi_wp2
     go_end0
     exact⟨⟨_,rfl⟩,.inr ⟨nb,_,HNB.out,trivial,H2.out⟩⟩
end Go.Proofs.YtjjiikeldpjafaaGreatDoor
/- TopReclaims: claim.Valid, without events or with a reversal for lack of a wish. The conditions: ranges. -/
namespace Go.Proofs.YtjjiikeldpjafaaGreatDoor
open Go.RowKit Go.BigFrame
attribute [local go_sem] Oper.semAt_some
set_option maxHeartbeats 1000000 in
theorem validBad_no {w:World}{lb:Nat}{ca s:Int}(h1:ca≤s)(h2:s≤20000000)(hl:w.heap[lb]?=some (.cells #[.int .i64 ca] 3 (0,0))) :
  Calls Tryz.prog 109 #[.agg #[.int .i64 6,.int .i64 s,.int .i64 1],.pointer (some ⟨lb,0,none⟩)] w fun e w'=>e=.returned (.bool false)∧w.grownBy w' (some lb):=by
 obtain⟨W1,hW1⟩:∃ W1,W1=w.alloc (.cells #[.int .i64 6,.int .i64 s,.int .i64 1] 83):=⟨_,rfl⟩
 have HG1:Hid (w.grownBy W1 none):=zh (by rw[hW1];exact World.grownBy_alloc _ _ _)
 have HX1:Hid (W1.heap[w.heap.size]?=some (.cells #[.int .i64 6,.int .i64 s,.int .i64 1] 83 (0,0))):=zh (by rw[hW1];exact heap_alloc_new w _)
 have HL1:Hid (W1.heap[lb]?=some (.cells #[.int .i64 ca] 3 (0,0))):=zh ((HG1.out.block _ (ltA hl) (by simp)).trans hl)
 have HW1:=zh hW1
 have c0:=cell_of_row W1 _ 0 _ _ _ HL1.out
 have zf:∀ j,W1.frozen? ⟨lb,j,none⟩=false:=fun j=>by unfold World.frozen?;rw[HL1.out];simp
 obtain⟨x0,x1,x2⟩:=three_cellsC HX1.out
 have hne:¬ w.heap.size=lb:=unlikeC HX1.out HL1.out (by decide)
 clear hW1 hl
 go_enter Tryz.func109,Tryz.ntmps109
 go_upto_region 1 with fail
 rw[← HW1.out]
 clear HW1
 go_wp2_with (go_at_call 69;refine(inC_yes _ _ _ (by omega) (by omega) _).mono ?_;rintro e w' ⟨rfl,hw'⟩;replace hw':=hw'.symm;subst hw')
 go_ret
 exact⟨rfl,(HG1.out.but (some lb)).trans (grown_setCell (grown_refl _ _) ⟨lb,0,none⟩ (.inl rfl) _)⟩
set_option maxHeartbeats 1000000 in
theorem idxE_nil (f:Value)(w:World):Calls Tryz.prog 148 #[.slice none 0 0,f] w fun e w'=>e=.returned (.int .i64 (-1))∧w'=w:=by
 go_enter Tryz.func148,Tryz.ntmps148
 go_wp2
 go_loopw [8] (fun i wr=>i=.int .i64 0∧wr=w) (fun _ _=>0)
 case atStart=>exact⟨rfl,rfl⟩
 case round =>
  obtain⟨rfl,rfl⟩:=hrel
  go_wp2
  go_ret
  exact⟨rfl,rfl⟩
set_option maxHeartbeats 1000000 in
theorem idxE_one {w:World}{lb eb:Nat}{ca s:Int}(h1:ca≤s)(h2:s≤20000000)(hl:w.heap[lb]?=some (.cells #[.int .i64 ca] 3 (0,0)))(he:w.heap[eb]?=some (.cells #[.int .i64 6,.int .i64 s,.int .i64 1] 83 (0,0))) :
  Calls Tryz.prog 148 #[.slice (some ⟨eb,0,none⟩) 1 1,.func (.func 109) #[] #[.pointer (some ⟨lb,0,none⟩)]] w fun e w'=>e=.returned (.int .i64 (-1))∧w.grownBy w' (some lb):=by
 have HB:=zh (validBad_no h1 h2 hl)
 have HE:=zh he
 clear he hl
 go_enter Tryz.func148,Tryz.ntmps148
 go_wp2
 go_loopw [8] (fun i wr=>(i=.int .i64 0∧wr=w)∨(i=.int .i64 1∧Hid (w.grownBy wr (some lb)))) (fun i _=>1 - (intOf i).toNat)
 case atStart=>exact .inl ⟨rfl,rfl⟩
 case round =>
  rcases hrel with⟨rfl,rfl⟩ | ⟨rfl,hg⟩
  ·obtain⟨x0,x1,x2⟩:=three_cellsC HE.out
   go_wp2_with (go_at_call 109;(with_reducible refine HB.out.mono ?_);rintro e w1 ⟨rfl,hg⟩;have HG:=zh hg;clear hg)
   go_roundw
   case rel=>exact .inr ⟨by go_num,HG⟩
   case measure=>decide
  ·go_wp2
   go_ret
   exact⟨rfl,hg.out⟩
set_option maxHeartbeats 1000000 in
theorem cfE_nil (f:Value)(w:World):Calls Tryz.prog 110 #[.slice none 0 0,f] w fun e w'=>e=.returned (.bool false)∧w'=w:=by
 have H:=zh (idxE_nil f w)
 go_enter Tryz.func110,Tryz.ntmps110
 go_wp2_with (go_at_call 148;(with_reducible refine H.out.mono ?_);rintro e w1 ⟨rfl,hw⟩;subst hw)
 go_ret
 exact⟨rfl,rfl⟩
set_option maxHeartbeats 1000000 in
theorem cfE_one {w:World}{lb eb:Nat}{ca s:Int}(h1:ca≤s)(h2:s≤20000000)(hl:w.heap[lb]?=some (.cells #[.int .i64 ca] 3 (0,0)))(he:w.heap[eb]?=some (.cells #[.int .i64 6,.int .i64 s,.int .i64 1] 83 (0,0))) :
  Calls Tryz.prog 110 #[.slice (some ⟨eb,0,none⟩) 1 1,.func (.func 109) #[] #[.pointer (some ⟨lb,0,none⟩)]] w fun e w'=>e=.returned (.bool false)∧w.grownBy w' (some lb):=by
 have H:=zh (idxE_one h1 h2 hl he)
 clear hl he
 go_enter Tryz.func110,Tryz.ntmps110
 go_wp2_with (go_at_call 148;(with_reducible refine H.out.mono ?_);rintro e w1 ⟨rfl,hg⟩;have HG:=zh hg;clear hg)
 go_ret
 exact⟨rfl,HG.out⟩
def EvAt (W:World)(lv:Value):Option Int→Prop
 | none=>lv=.slice none 0 0
 | some s=>∃ eb,lv=.slice (some ⟨eb,0,none⟩) 1 1∧W.heap[eb]?=some (.cells #[.int .i64 6,.int .i64 s,.int .i64 1] 83 (0,0))
theorem EvAt.step {W W':World}{lv:Value}{o:Option Int}(h:EvAt W lv o)(hb:Below W.heap.size W W'):EvAt W' lv o:=by
 cases o with
 | none=>exact h
 | some s =>
  obtain⟨eb,h1,h2⟩:=h
  exact⟨eb,h1,kept_block h2 hb⟩
structure ClOk (a0 a1 a2 a3 cn cf ct ch ca:Int) (o:Option Int):Prop where
 h0:1≤a0∧a0≤1000000
 h1:1≤a1∧a1≤1000000
 h2:1≤a2∧a2≤1000000
 h3:1≤a3∧a3≤1000000
 n:0≤cn∧cn≤99999999
 f:0≤cf∧cf≤7
 t:0≤ct∧ct≤7
 ne:cf≠ct
 h:0≤ch∧ch≤63
 a:0≤ca∧ca≤10000000
 ev:∀ s,o=some s→ca+a0+a1≤s∧s≤20000000
set_option maxHeartbeats 2000000 in
set_option maxRecDepth 100000 in
theorem validC_any {a0 a1 a2 a3 cn cf ct ch ca:Int}{o:Option Int}(hc:ClOk a0 a1 a2 a3 cn cf ct ch ca o)(cb:Bool){w:World}{lv:Value}(hv:EvAt w lv o) :
  Calls Tryz.prog 75 #[.agg #[.int .i64 a0,.int .i64 a1,.int .i64 a2,.int .i64 a3],.agg #[.int .i64 cn,.int .i64 cf,.int .i64 ct,.int .i64 ch,.int .i64 ca,.bool cb],lv] w fun e w'=>e=.returned (.bool true)∧Below w.heap.size w w':=by
 have hmf:∀(fn:Fn) (first cap:Array Value) (w:World),(Instr.makeFunc fn first cap).run Tryz.prog w=.ok (.func fn first cap) w:=fun _ _ _ _=>rfl
 have HAV:=zh (fun W=>areValid_yes a0 a1 a2 a3 hc.h0 hc.h1 hc.h2 hc.h3 W)
 have HIC:=zh (fun W=>isClaim_yes cn cf ct ch ca cb hc.n.1 hc.n.2 hc.f.1 hc.f.2 hc.t.1 hc.t.2 hc.ne hc.h.1 hc.h.2 hc.a.1 hc.a.2 W)
 have HEV:=zh hv
 have HO:=zh hc.ev
 have HA:=zh hc
 clear hv hc
 obtain⟨W1,hW1⟩:∃ W1,W1=w.alloc (.cells #[.int .i64 a0,.int .i64 a1,.int .i64 a2,.int .i64 a3] 53):=⟨_,rfl⟩
 have HBW1:Hid (Below w.heap.size w W1):=zh (by rw[hW1];exact br0.alloc (Nat.le_refl _) _)
 have HXW1:Hid (W1.heap[w.heap.size]?=some (.cells #[.int .i64 a0,.int .i64 a1,.int .i64 a2,.int .i64 a3] 53 (0,0))):=zh (by rw[hW1];exact heap_alloc_new w _)
 have hsW1:Hid (W1.heap.size=w.heap.size+1):=zh (by rw[hW1];simp)
 have HWW1:=zh hW1
 clear hW1
 obtain⟨W2,hW2⟩:∃ W2,W2=W1.alloc (.cells #[.int .i64 cn,.int .i64 cf,.int .i64 ct,.int .i64 ch,.int .i64 ca,.bool cb] 34):=⟨_,rfl⟩
 have HBW2:Hid (Below W1.heap.size W1 W2):=zh (by rw[hW2];exact br0.alloc (Nat.le_refl _) _)
 have HXW2:Hid (W2.heap[W1.heap.size]?=some (.cells #[.int .i64 cn,.int .i64 cf,.int .i64 ct,.int .i64 ch,.int .i64 ca,.bool cb] 34 (0,0))):=zh (by rw[hW2];exact heap_alloc_new W1 _)
 have hsW2:Hid (W2.heap.size=W1.heap.size+1):=zh (by rw[hW2];simp)
 have HWW2:=zh hW2
 clear hW2
 have HB2:=zh (q_next HBW1.out HBW2.out)
 have HC2:Hid (∀ W,Below W2.heap.size W2 W→W.heap[w.heap.size+1]?=some (.cells #[.int .i64 cn,.int .i64 cf,.int .i64 ct,.int .i64 ch,.int .i64 ca,.bool cb] 34 (0,0))):=zh (fun W hW=>by rw[← hsW1.out];exact kept_block HXW2.out hW)
 obtain⟨r0,r1,r2,r3⟩:=fourT_cells (kept_block HXW1.out HBW2.out)
 obtain⟨d0,d1,d2,d3,d4,d5⟩:=six_cells (HC2.out W2 br0)
 have hform:∃(a:Option Addr) (m:Nat),lv=.slice a m m∧(m:Int)≤1:=by
  cases o with
  | none=>exact⟨none,0,HEV.out,by decide⟩
  | some s=>obtain⟨eb,h1,-⟩:=HEV.out;exact⟨_,1,h1,by decide⟩
 obtain⟨av,m,rfl,hm⟩:=hform
 have hm2:¬ (20:Int) < (m:Int):=by omega
 clear hm
 go_enter Tryz.func75,Tryz.ntmps75
 go_upto_region 1 with fail
 rw[← HWW1.out,← HWW2.out]
 clear HWW1 HWW2
 go_upto_region 3 with(first | (go_at_call 108;(with_reducible refine(HAV.out _).mono ?_);clear r0 r1 r2 r3 d0 d1 d2 d3 d4 d5;rintro e w3 ⟨rfl,hbx⟩;have HB3:=zh hbx;obtain⟨d0,d1,d2,d3,d4,d5⟩:=six_cells (HC2.out w3 hbx);clear hbx) | (go_at_call 33;(with_reducible refine(HIC.out _).mono ?_);clear d0 d1 d2 d3 d4 d5;rintro e w4 ⟨rfl,hbx⟩;have HB4:=zh (q_next HB3.out hbx);obtain⟨d0,d1,d2,d3,d4,d5⟩:=six_cells (HC2.out w4 HB4.out);clear hbx))
 have HB5:=zh (q_next HB2.out HB4.out)
 have HA5:=zh ((Below.refl w4.heap.size w4).alloc (Nat.le_refl _) (.cells #[.int .i64 ca] 3))
 have HX5:=zh (heap_alloc_new w4 (.cells #[.int .i64 ca] 3))
 go_upto_region 4 with fail
 have HCF:Hid (Calls Tryz.prog 110 #[.slice av m m,.func (.func 109) #[] #[.pointer (some ⟨w4.heap.size,0,none⟩)]] (w4.alloc (.cells #[.int .i64 ca] 3)) fun e w'=>e=.returned (.bool false)∧(w4.alloc (.cells #[.int .i64 ca] 3)).grownBy w' (some w4.heap.size)):=zh (by
  have hev:=(HEV.out.step HB5.out).step HA5.out
  cases o with
  | none =>
   injection hev with e1 e2 e3
   subst e1 e2
   refine(cfE_nil _ _).mono ?_
   rintro e w' ⟨rfl,rfl⟩
   exact⟨rfl,grown_refl _ _⟩
  | some s =>
   obtain⟨eb,h1,h2⟩:=hev
   injection h1 with e1 e2 e3
   subst e1 e2
   have h3:=HO.out s rfl
   have h4:=HA.out
   exact cfE_one (by have:=h4.h0;have:=h4.h1;omega) h3.2 HX5.out h2)
 have HB6:=zh (q_next HB5.out HA5.out)
 have hge:=HB5.out.size
 generalize w4.alloc (.cells #[.int .i64 ca] 3)=W5 at *
 go_wp2_with (go_at_call 110;(with_reducible refine HCF.out.mono ?_);rintro e w6 ⟨rfl,hg⟩;have HG:=zh hg;clear hg)
 go_ret
 exact⟨rfl,HB6.out.grown HG.out HB6.out.size (fun j e=>by cases e;exact hge)⟩
end Go.Proofs.YtjjiikeldpjafaaGreatDoor
/- TopReclaims: claim.open; the statuses' iterator as a value. The conditions: ranges. -/
namespace Go.Proofs.YtjjiikeldpjafaaGreatDoor
open Go.RowKit Go.BigFrame
attribute [local go_sem] Oper.semAt_some
set_option maxHeartbeats 2000000 in
set_option maxRecDepth 100000 in
theorem openC_any {a0 a1 a2 a3 cn cf ct ch ca:Int}{o:Option Int}(hc:ClOk a0 a1 a2 a3 cn cf ct ch ca o)(cb:Bool){w:World}{lv:Value}(hv:EvAt w lv o) :
  Calls Tryz.prog 149 #[.agg #[.int .i64 a0,.int .i64 a1,.int .i64 a2,.int .i64 a3],.agg #[.int .i64 cn,.int .i64 cf,.int .i64 ct,.int .i64 ch,.int .i64 ca,.bool cb],lv] w fun e w' =>
   ∃ mb bd be,e=.returned (.tuple #[.pointer (some ⟨mb,0,none⟩),.int .i64 0])∧MAt w' mb a0 a1 a2 a3 cn cf ct ch ca cb bd be (.slice none 0 0)∧(∃ es clk,w'.heap[be]?=some (.map es clk)∧EffAll es)∧Below w.heap.size w w'∧w.heap.size≤mb:=by
 have HV:=zh (fun W (hW:Below w.heap.size w W)=>validC_any hc cb (hv.step hW))
 clear hc hv
 obtain⟨W1,hW1⟩:∃ W1,W1=w.alloc (.cells #[.int .i64 a0,.int .i64 a1,.int .i64 a2,.int .i64 a3] 53):=⟨_,rfl⟩
 have HBW1:Hid (Below w.heap.size w W1):=zh (by rw[hW1];exact br0.alloc (Nat.le_refl _) _)
 have HXW1:Hid (W1.heap[w.heap.size]?=some (.cells #[.int .i64 a0,.int .i64 a1,.int .i64 a2,.int .i64 a3] 53 (0,0))):=zh (by rw[hW1];exact heap_alloc_new w _)
 have hsW1:Hid (W1.heap.size=w.heap.size+1):=zh (by rw[hW1];simp)
 have HWW1:=zh hW1
 clear hW1
 obtain⟨W2,hW2⟩:∃ W2,W2=W1.alloc (.cells #[.int .i64 cn,.int .i64 cf,.int .i64 ct,.int .i64 ch,.int .i64 ca,.bool cb] 34):=⟨_,rfl⟩
 have HBW2:Hid (Below W1.heap.size W1 W2):=zh (by rw[hW2];exact br0.alloc (Nat.le_refl _) _)
 have HXW2:Hid (W2.heap[W1.heap.size]?=some (.cells #[.int .i64 cn,.int .i64 cf,.int .i64 ct,.int .i64 ch,.int .i64 ca,.bool cb] 34 (0,0))):=zh (by rw[hW2];exact heap_alloc_new W1 _)
 have hsW2:Hid (W2.heap.size=W1.heap.size+1):=zh (by rw[hW2];simp)
 have HWW2:=zh hW2
 clear hW2
 have HB2:=zh (q_next HBW1.out HBW2.out)
 have HC2:Hid (∀ W,Below W2.heap.size W2 W→W.heap[w.heap.size+1]?=some (.cells #[.int .i64 cn,.int .i64 cf,.int .i64 ct,.int .i64 ch,.int .i64 ca,.bool cb] 34 (0,0))):=zh (fun W hW=>by rw[← hsW1.out];exact kept_block HXW2.out hW)
 have HC1:Hid (∀ W,Below W2.heap.size W2 W→W.heap[w.heap.size]?=some (.cells #[.int .i64 a0,.int .i64 a1,.int .i64 a2,.int .i64 a3] 53 (0,0))):=zh (fun W hW=>kept_block HXW1.out (q_next HBW2.out hW))
 obtain⟨r0,r1,r2,r3⟩:=fourT_cells (HC1.out W2 br0)
 obtain⟨d0,d1,d2,d3,d4,d5⟩:=six_cells (HC2.out W2 br0)
 go_enter Tryz.func149,Tryz.ntmps149
 go_upto_region 1 with fail
 rw[← HWW1.out,← HWW2.out]
 clear HWW1 HWW2
 go_upto_region 3 with(go_at_call 75;(with_reducible refine(HV.out _ HB2.out).mono ?_);clear r0 r1 r2 r3 d0 d1 d2 d3 d4 d5;rintro e w3 ⟨rfl,hbx⟩;have HB3:=zh hbx;clear hbx)
 have HF3:=zh (fun W (hW:Below w3.heap.size w3 W)=>And.intro (fourT_cells (HC1.out W (q_next HB3.out hW))) (six_cells (HC2.out W (q_next HB3.out hW))))
 refine wp_region_noPanic ?_
 refine wp_region_lexB [.q 0,.q 1,.b 2,.b 3,.q 4,.an 5,.co 5,.q 6,.q 7] (by kernel_rfl) (by kernel_rfl) (fun _ _ _ _ h=>h) ?_
 iterate 2(refine wpFl_qL (v:=?_) rfl (Or.inl ⟨by rfl,?_⟩) ?_;rotate_left;(focus(intro w' hSw;obtain⟨⟨r0,r1,r2,r3⟩,d0,d1,d2,d3,d4,d5⟩:=HF3.out w' hSw;go_simp;(try with_reducible rfl);done));simp only[Act.put,zzA,zzB,zzC])
 refine wpFl_bL rfl (fun wa hna hsa K hK=>?_)
 go_simp
 go_at_call 175
 (with_reducible refine(dues_any _).mono ?_)
 rintro e wb ⟨rfl,hbb,hdb⟩
 have HBB:=zh (below_next hsa hbb)
 have HDB:=zh hdb
 obtain⟨bd,hbd⟩:∃ bd,bd=wa.heap.size:=⟨_,rfl⟩
 rw[← hbd]at HDB ⊢
 refine hK.out _ _ (below_next hsa hbb) (Keeps.below hbb) ?_
 clear hK K hna hsa hbb hdb hbd
 refine wpFl_bL rfl (fun wc hnc hsc K hK=>?_)
 go_simp
 go_at_call 176
 (with_reducible refine(effects_any _).mono ?_)
 rintro e wd ⟨es,clk,rfl,hbd,hed,hef⟩
 have HDD:=zh (kept_block HDB.out (q_next hnc hbd))
 have HED:=zh hed
 have HEF:=zh hef
 have HBD:=zh (below_next hsc hbd)
 obtain⟨be,hbe⟩:∃ be,be=wc.heap.size:=⟨_,rfl⟩
 rw[← hbe]at HED ⊢
 refine hK.out _ _ (below_next hsc hbd) (Keeps.below hbd) ?_
 clear hK K hnc hsc hbd hed hef hbe HBB HDB
 refine wpFl_qL (v:=?_) rfl (Or.inl ⟨by rfl,?_⟩) ?_
 rotate_left
 focus(intro w' hSw;go_simp;(try with_reducible rfl);done)
 simp only[Act.put,zzA,zzB,zzC]
 refine wpFl_anL rfl (.cells #[.int .i64 a0,.int .i64 a1,.int .i64 a2,.int .i64 a3,.int .i64 cn,.int .i64 cf,.int .i64 ct,.int .i64 ch,.int .i64 ca,.bool cb,.map (some bd),.map (some be),.slice none 0 0] 297 (0,0)) (fun n=>.pointer (some ⟨n,0,none⟩)) ⟨by rfl,fun w'=>?_⟩ ?_
 focus(go_simp;done)
 refine wpFl_coL rfl (.cells #[.int .i64 a0,.int .i64 a1,.int .i64 a2,.int .i64 a3,.int .i64 cn,.int .i64 cf,.int .i64 ct,.int .i64 ch,.int .i64 ca,.bool cb,.map (some bd),.map (some be),.slice none 0 0] 297 (0,0)) (fun n=>.pointer (some ⟨n,0,none⟩)) (by rfl) (N':=[]) (by rfl) (fun mb we hn_we hs_we hb_mb hz_mb=>?_)
 simp only[Act.put,zzA,zzB,zzC]
 have HDE:=zh (kept_block HDD.out hn_we)
 have HEE:=zh (kept_block HED.out hn_we)
 have HME:=zh hz_mb
 have HGE:Hid (w.heap.size≤mb):=zh (Nat.le_trans (q_next HB2.out HB3.out).size hb_mb)
 have HBE:Hid (Below w.heap.size w we):=zh (q_next HB2.out (q_next HB3.out hs_we))
 clear hn_we hs_we hb_mb hz_mb HDD HED HBD
 iterate 2(refine wpFl_qL (v:=?_) rfl (Or.inl ⟨by rfl,?_⟩) ?_;rotate_left;(focus(intro w' hSw;go_simp;(try with_reducible rfl);done));simp only[Act.put,zzA,zzB,zzC])
 refine wpFl_nil ?_
 refine NoPanic.normal ?_
 go_wp2
 exact bodyPost_ret (results_tmp2 rfl _ _ _) rfl ⟨mb,bd,be,rfl,⟨HME.out,HDE.out⟩,⟨es,clk,HEE.out,HEF.out⟩,HBE.out,HGE.out⟩
set_option maxHeartbeats 1000000 in
theorem statusesFn_any (mv:Value)(a:Option Addr)(n k:Nat)(mb:Nat)(hmv:mv=.pointer (some ⟨mb,0,none⟩))(w:World) :
  Calls Tryz.prog 151 #[mv,.slice a n k] w fun e w'=>∃ bm bl,e=.returned (.func (.func 178) #[] #[.pointer (some ⟨bm,0,none⟩),.pointer (some ⟨bl,0,none⟩)])∧w'.heap[bm]?=some (.cells #[.pointer (some ⟨mb,0,none⟩)] 259 (0,0))∧w'.heap[bl]?=some (.cells #[.slice a n k] 84 (0,0))∧Below w.heap.size w w':=by
 subst hmv
 have hmf:∀(fn:Fn) (first cap:Array Value) (w:World),(Instr.makeFunc fn first cap).run Tryz.prog w=.ok (.func fn first cap) w:=fun _ _ _ _=>rfl
 obtain⟨W1,hW1⟩:∃ W1,W1=w.alloc (.cells #[.pointer (some ⟨mb,0,none⟩)] 259):=⟨_,rfl⟩
 have HBW1:Hid (Below w.heap.size w W1):=zh (by rw[hW1];exact br0.alloc (Nat.le_refl _) _)
 have HXW1:Hid (W1.heap[w.heap.size]?=some (.cells #[.pointer (some ⟨mb,0,none⟩)] 259 (0,0))):=zh (by rw[hW1];exact heap_alloc_new w _)
 have hsW1:Hid (W1.heap.size=w.heap.size+1):=zh (by rw[hW1];simp)
 have HWW1:=zh hW1
 clear hW1
 obtain⟨W2,hW2⟩:∃ W2,W2=W1.alloc (.cells #[.slice a n k] 84):=⟨_,rfl⟩
 have HBW2:Hid (Below W1.heap.size W1 W2):=zh (by rw[hW2];exact br0.alloc (Nat.le_refl _) _)
 have HXW2:Hid (W2.heap[W1.heap.size]?=some (.cells #[.slice a n k] 84 (0,0))):=zh (by rw[hW2];exact heap_alloc_new W1 _)
 have hsW2:Hid (W2.heap.size=W1.heap.size+1):=zh (by rw[hW2];simp)
 have HWW2:=zh hW2
 clear hW2
 go_enter Tryz.func151,Tryz.ntmps151
 go_wp2
 rw[← HWW1.out,← HWW2.out]
 go_ret
 exact⟨w.heap.size,w.heap.size+1,rfl,kept_block HXW1.out HBW2.out,by rw[← hsW1.out];exact HXW2.out,q_next HBW1.out HBW2.out⟩
end Go.Proofs.YtjjiikeldpjafaaGreatDoor
