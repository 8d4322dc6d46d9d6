/- TopReclaims: the walk of the reference's Made. The conditions: what the chain's slice reads as; the types' ranges. -/
import Derived.Test.YtjjiikeldpjafaaGreatDoorTT16
namespace Go.Proofs.YtjjiikeldpjafaaGreatDoor
open Go.RowKit Go.BigFrame
def s0S (hd r0 r1 s0 s1:Int):ScP:={ who:=pickI hd 10,rf:=pickI r0 10000,rt:=pickI r0 10000+1+pickI r1 1000,sf:=pickI s0 10000,st:=pickI s0 10000+1+pickI s1 1000 }
def rawW (ho ca se:Int)(s:ScP):WishP:={ sg:=s.who,ho:=ho,rf:=s.rf,rt:=s.rt,ca:=ca,se:=se,sf:=s.sf,st:=s.st,sl:=⟨#[]⟩ }
def signW (ho ca se:Int)(s:ScP):WishP:={ rawW ho ca se s with sl:=sealK (keyW s.who) (wishC (rawW ho ca se s)) }
theorem s0_ok (hd r0 r1 s0 s1:Int):ScOk (s0S hd r0 r1 s0 s1):=by
 have h1:=pickI_range hd (show(0:Int) < 10 by omega)
 have h2:=pickI_range r0 (show(0:Int) < 10000 by omega)
 have h3:=pickI_range r1 (show(0:Int) < 1000 by omega)
 have h4:=pickI_range s0 (show(0:Int) < 10000 by omega)
 have h5:=pickI_range s1 (show(0:Int) < 1000 by omega)
 unfold ScOk s0S
 simp only
 omega
theorem MkAt.fill {w:World}{NC:Array Value}{br bs bw:Nat}{rf rt sf st ho ca se:Int}{lv:Value}{l:List ProxP}{W:World}(h:MkAt w NC br bs bw rf rt sf st ho ca se lv l W)(a b c d e:Int)(W':World)
  (hW:W'=((((W.setCell ⟨bw,0,none⟩ (.int .i64 a)).setCell ⟨bw,2,none⟩ (.int .i64 b)).setCell ⟨bw,3,none⟩ (.int .i64 c)).setCell ⟨bw,6,none⟩ (.int .i64 d)).setCell ⟨bw,7,none⟩ (.int .i64 e)) :
  Below w.heap.size w W'∧W'.heap[bw]?=some (.cells #[.int .i64 a,.int .i64 ho,.int .i64 b,.int .i64 c,.int .i64 ca,.int .i64 se,.int .i64 d,.int .i64 e,.string ⟨#[]⟩] 31 (0,0))∧W'.heap[w.heap.size+1]?=some (.cells zwish 31 (0,0))∧OwnP W' w.heap.size lv l:=by
 have hnw:=h.nw
 have hle:w.heap.size≤bw:=by omega
 have hne:w.heap.size+1≠bw:=by omega
 subst hW
 refine⟨((((h.hb.setCell (p:=⟨bw,0,none⟩) hle _).setCell (p:=⟨bw,2,none⟩) hle _).setCell (p:=⟨bw,3,none⟩) hle _).setCell (p:=⟨bw,6,none⟩) hle _).setCell (p:=⟨bw,7,none⟩) hle _,?_,setOther (setOther (setOther (setOther (setOther h.hz hne _) hne _) hne _) hne _) hne _,?_⟩
 ·have h0:=heap_setCell_same (i:=0) (.int .i64 a) h.hw
  have h1:=heap_setCell_same (i:=2) (.int .i64 b) h0
  have h2:=heap_setCell_same (i:=3) (.int .i64 c) h1
  have h3:=heap_setCell_same (i:=6) (.int .i64 d) h2
  have h4:=heap_setCell_same (i:=7) (.int .i64 e) h3
  simpa using h4
 ·exact OwnE.grownT h.own h.hw (fun c e=>by injection e with _ e;exact absurd e (by decide)) (grown_setCell (grown_setCell (grown_setCell (grown_setCell (grown_setCell (grown_refl _ _) ⟨bw,0,none⟩ (.inl rfl) _) ⟨bw,2,none⟩ (.inl rfl) _) ⟨bw,3,none⟩ (.inl rfl) _) ⟨bw,6,none⟩ (.inl rfl) _) ⟨bw,7,none⟩ (.inl rfl) _)
theorem nine_grown (W:World)(b:Nat)(x0 x1 x2 x3 x4 x5 x6 x7 x8:Value) :
  W.grownBy (((((((((W.setCell ⟨b,0,none⟩ x0).setCell ⟨b,1,none⟩ x1).setCell ⟨b,2,none⟩ x2).setCell ⟨b,3,none⟩ x3).setCell ⟨b,4,none⟩ x4).setCell ⟨b,5,none⟩ x5).setCell ⟨b,6,none⟩ x6).setCell ⟨b,7,none⟩ x7).setCell ⟨b,8,none⟩ x8) (some b) :=
 grown_setCell (grown_setCell (grown_setCell (grown_setCell (grown_setCell (grown_setCell (grown_setCell (grown_setCell (grown_setCell (grown_refl _ _) ⟨b,0,none⟩ (.inl rfl) _) ⟨b,1,none⟩ (.inl rfl) _) ⟨b,2,none⟩ (.inl rfl) _) ⟨b,3,none⟩ (.inl rfl) _) ⟨b,4,none⟩ (.inl rfl) _) ⟨b,5,none⟩ (.inl rfl) _) ⟨b,6,none⟩ (.inl rfl) _) ⟨b,7,none⟩ (.inl rfl) _) ⟨b,8,none⟩ (.inl rfl) _
theorem own_lt {w:World}{base size:Nat}{e:TypeId}{v:Value}{css:List (List Value)}(h:OwnE w base e size v css){g:Nat}(hg:v.ownBlock=some g):g < w.heap.size:=by
 rcases h.2 with⟨hv,_⟩ | ⟨g',cap,cur,hv,_,hgg,_⟩
 ·rw[hv]at hg
  cases hg
 ·rw[hv]at hg
  obtain rfl:g'=g:=Option.some.inj hg
  exact(ltA hgg)
theorem raw_formed {ho ca se:Int}{s:ScP}(h:ScOk s)(h1:0≤ho∧ho < 10)(h2:0≤ca∧ca < 8)(h3:0≤se∧se < 1000):formedW (rawW ho ca se s)=true:=by
 obtain⟨a,b,c⟩:=h
 unfold formedW rawW
 refine decide_eq_true ?_
 simp only
 omega
set_option maxHeartbeats 8000000 in
set_option maxRecDepth 100000 in
theorem made15_any {w:World}(hd r0 r1 s0 s1 cr sr:Int)(i0:I64 hd)(i1:I64 r0)(i2:I64 r1)(i3:I64 s0)(i4:I64 s1)(i5:I64 cr)(i6:I64 sr){cv:Value}{ys:List Y5}(hy:Y5S w cv ys)(hi:∀ y∈ys,I64 y.1∧I64 y.2.1∧I64 y.2.2.1∧I64 y.2.2.2.1∧I64 y.2.2.2.2) :
  Calls Tryz.prog 20 #[.agg #[.int .i64 hd,.int .i64 r0,.int .i64 r1,.int .i64 s0,.int .i64 s1,.int .i64 cr,.int .i64 sr,cv]] w fun e w' =>
   ∃ lv,e=.returned (.tuple #[wagg (signW (pickI hd 10) (pickI cr 8) (pickI sr 1000) (stS (ys.take 4) (s0S hd r0 r1 s0 s1))),lv])∧OwnP w' w.heap.size lv (chS (ys.take 4) (s0S hd r0 r1 s0 s1))∧Below w.heap.size w w':=by
 have HY:=zh hy
 have HI:=zh hi
 have HS0:=zh (s0_ok hd r0 r1 s0 s1)
 obtain⟨S0,hS0⟩:∃ S,S=s0S hd r0 r1 s0 s1:=⟨_,rfl⟩
 rw[← hS0]at HS0 ⊢
 have HSE:=zh hS0
 have q0:=pickI_range hd (show(0:Int) < 10 by omega)
 have q1:=pickI_range r0 (show(0:Int) < 10000 by omega)
 have q2:=pickI_range r1 (show(0:Int) < 1000 by omega)
 have q3:=pickI_range s0 (show(0:Int) < 10000 by omega)
 have q4:=pickI_range s1 (show(0:Int) < 1000 by omega)
 have q5:=pickI_range cr (show(0:Int) < 8 by omega)
 have q6:=pickI_range sr (show(0:Int) < 1000 by omega)
 have HP0:=zh (fun W=>pick15_any hd 10 W i0 (by omega) (by omega))
 have HP1:=zh (fun W=>pick15_any r0 10000 W i1 (by omega) (by omega))
 have HP2:=zh (fun W=>pick15_any r1 1000 W i2 (by omega) (by omega))
 have HP3:=zh (fun W=>pick15_any s0 10000 W i3 (by omega) (by omega))
 have HP4:=zh (fun W=>pick15_any s1 1000 W i4 (by omega) (by omega))
 have HP5:=zh (fun W=>pick15_any cr 8 W i5 (by omega) (by omega))
 have HP6:=zh (fun W=>pick15_any sr 1000 W i6 (by omega) (by omega))
 have HSV:Hid (S0={ who:=pickI hd 10,rf:=pickI r0 10000,rt:=pickI r0 10000+1+pickI r1 1000,sf:=pickI s0 10000,st:=pickI s0 10000+1+pickI s1 1000 }):=zh hS0
 clear HSE hS0
 generalize pickI hd 10=p0 at *
 generalize pickI r0 10000=p1 at *
 generalize pickI r1 1000=p2 at *
 generalize pickI s0 10000=p3 at *
 generalize pickI s1 1000=p4 at *
 generalize pickI cr 8=p5 at *
 generalize pickI sr 1000=p6 at *
 obtain⟨ya,yc,hyv,hyl,hym,-⟩:=hy
 rw[List.length_map]at hyv hyl
 obtain⟨n,hn⟩:∃ n,n=ys.length:=⟨_,rfl⟩
 rw[← hn]at hyv hyl
 have HN9:=zh hn
 subst hyv
 have hn9:n≤9223372036854775807:=by unfold maxLen at hym;omega
 clear hn hi hyl hym
 obtain⟨W1,hW1⟩:∃ W1,W1=w.alloc (.cells #[.int .i64 hd,.int .i64 r0,.int .i64 r1,.int .i64 s0,.int .i64 s1,.int .i64 cr,.int .i64 sr,.slice ya n yc] 25):=⟨_,rfl⟩
 have HB1:Hid (Below w.heap.size w W1):=zh (by rw[hW1];exact br0.alloc (Nat.le_refl _) _)
 have HX1:Hid (W1.heap[w.heap.size]?=some (.cells #[.int .i64 hd,.int .i64 r0,.int .i64 r1,.int .i64 s0,.int .i64 s1,.int .i64 cr,.int .i64 sr,.slice ya n yc] 25 (0,0))):=zh (by rw[hW1];exact heap_alloc_new w _)
 have hs1:W1.heap.size=w.heap.size+1:=by rw[hW1];simp
 obtain⟨W2,hW2⟩:∃ W2,W2=W1.alloc (.cells zwish 31):=⟨_,rfl⟩
 have HB2:Hid (Below W1.heap.size W1 W2):=zh (by rw[hW2];exact br0.alloc (Nat.le_refl _) _)
 have HZ2:Hid (W2.heap[w.heap.size+1]?=some (.cells zwish 31 (0,0))):=zh (by rw[hW2,← hs1];exact heap_alloc_new W1 _)
 have HN:Hid (∀ W,Below W2.heap.size W2 W→W.heap[w.heap.size]?=some (.cells #[.int .i64 hd,.int .i64 r0,.int .i64 r1,.int .i64 s0,.int .i64 s1,.int .i64 cr,.int .i64 sr,.slice ya n yc] 25 (0,0))):=zh (fun W hW=>kept_block HX1.out (q_next HB2.out hW))
 have HBW2:=zh (q_next HB1.out HB2.out)
 have hs2:W2.heap.size=w.heap.size+2:=by rw[hW2];simp[hs1]
 have HS2:=zh hs2
 have HW1:=zh hW1
 have HW2:=zh hW2
 clear hW1 hW2 hs1 hs2 HB1 HB2 HX1
 unfold zwish at HW2
 obtain⟨c0,c1,c2,c3,c4,c5,c6,c7⟩:=eight_cells (HN.out W2 br0)
 go_enter Tryz.func20,Tryz.ntmps20
 go_upto_region 1 with fail
 rw[← HW1.out,← HW2.out]
 go_upto_region 3 with(first | (go_at_call 56;(with_reducible refine(HP1.out _).mono ?_);rintro e w' ⟨rfl,hw'⟩;replace hw':=hw'.symm;subst hw') | (go_at_call 56;(with_reducible refine(HP2.out _).mono ?_);rintro e w' ⟨rfl,hw'⟩;replace hw':=hw'.symm;subst hw'))
 obtain⟨W3,hW3⟩:∃ W,W=W2.alloc (.cells #[.int .i64 p1,.int .i64 (p1+1+p2)] 28):=⟨_,rfl⟩
 have HV_W3:Hid (W3.heap[W2.heap.size]?=some (.cells #[.int .i64 p1,.int .i64 (p1+1+p2)] 28 (0,0))):=zh (by rw[hW3];exact heap_alloc_new W2 _)
 have HS_W3:Hid (Below W2.heap.size W2 W3):=zh (by rw[hW3];exact br0.alloc (Nat.le_refl _) _)
 have HB_W3:=zh (q_next HBW2.out HS_W3.out)
 rw[← hW3]
 obtain⟨br,hbr⟩:∃ b,b=W2.heap.size:=⟨_,rfl⟩
 rw[← hbr]at HV_W3 ⊢
 have HL_br:Hid (w.heap.size≤br):=zh (by rw[hbr];exact HBW2.out.size)
 clear hW3 hbr
 clear c0 c1 c2 c3 c4 c5 c6 c7
 obtain⟨c0,c1,c2,c3,c4,c5,c6,c7⟩:=eight_cells (HN.out W3 HS_W3.out)
 go_upto_region 5 with(first | (go_at_call 56;(with_reducible refine(HP3.out _).mono ?_);rintro e w' ⟨rfl,hw'⟩;replace hw':=hw'.symm;subst hw') | (go_at_call 56;(with_reducible refine(HP4.out _).mono ?_);rintro e w' ⟨rfl,hw'⟩;replace hw':=hw'.symm;subst hw'))
 obtain⟨W4,hW4⟩:∃ W,W=W3.alloc (.cells #[.int .i64 p3,.int .i64 (p3+1+p4)] 29):=⟨_,rfl⟩
 have HV_W4:Hid (W4.heap[W3.heap.size]?=some (.cells #[.int .i64 p3,.int .i64 (p3+1+p4)] 29 (0,0))):=zh (by rw[hW4];exact heap_alloc_new W3 _)
 have HS_W4:Hid (Below W3.heap.size W3 W4):=zh (by rw[hW4];exact br0.alloc (Nat.le_refl _) _)
 have HB_W4:=zh (q_next HB_W3.out HS_W4.out)
 rw[← hW4]
 obtain⟨bs,hbs⟩:∃ b,b=W3.heap.size:=⟨_,rfl⟩
 rw[← hbs]at HV_W4 ⊢
 have HL_bs:Hid (w.heap.size≤bs):=zh (by rw[hbs];exact HB_W3.out.size)
 clear hW4 hbs
 clear c0 c1 c2 c3 c4 c5 c6 c7
 obtain⟨c0,c1,c2,c3,c4,c5,c6,c7⟩:=eight_cells (HN.out W4 (q_next HS_W3.out HS_W4.out))
 go_upto_region 6 with(first | (go_at_call 56;(with_reducible refine(HP0.out _).mono ?_);rintro e w' ⟨rfl,hw'⟩;replace hw':=hw'.symm;subst hw'))
 clear c0 c1 c2 c3 c4 c5 c6 c7
 have HN4:=zh (fun W (hW:Below W4.heap.size W4 W)=>eight_cells (HN.out W (q_next (q_next HS_W3.out HS_W4.out) hW)))
 refine wp_region_noPanic ?_
 refine wp_region_lexB [.q 0,.q 1,.q 2,.q 4,.q 5,.an 8,.b 3,.b 6,.q 7,.co 8,.b 9] (by kernel_rfl) (by kernel_rfl) (fun _ _ _ _ h=>h) ?_
 iterate 5(refine wpFl_qL (v:=?_) rfl (Or.inl ⟨by rfl,?_⟩) ?_;rotate_left;(focus(intro w' hSw;obtain⟨c0,c1,c2,c3,c4,c5,c6,c7⟩:=HN4.out w' hSw;go_simp;(try with_reducible rfl);done));simp only[Act.put,zzA,zzB,zzC])
 refine wpFl_anL rfl (.cells #[.int .i64 0,.int .i64 0,.int .i64 0,.int .i64 0,.int .i64 0,.int .i64 0,.int .i64 0,.int .i64 0,.string ⟨#[]⟩] 31 (0,0)) (fun n=>.pointer (some ⟨n,0,none⟩)) ⟨by rfl,fun w'=>?_⟩ ?_
 focus(go_simp;done)
 refine wpFl_bL rfl (fun wa5 hna5 hsa5 K hK=>?_)
 go_simp
 go_at_call 56
 (with_reducible refine(HP5.out _).mono ?_)
 rintro e w' ⟨rfl,hw'⟩
 replace hw':=hw'.symm
 subst hw'
 refine hK.out _ _ hsa5 (Keeps.below br0) ?_
 clear hK K hna5 hsa5
 refine wpFl_bL rfl (fun wa6 hna6 hsa6 K hK=>?_)
 go_simp
 go_at_call 56
 (with_reducible refine(HP6.out _).mono ?_)
 rintro e w' ⟨rfl,hw'⟩
 replace hw':=hw'.symm
 subst hw'
 refine hK.out _ _ hsa6 (Keeps.below br0) ?_
 clear hK K hna6 hsa6
 refine wpFl_qL (v:=?_) rfl (Or.inl ⟨by rfl,?_⟩) ?_
 rotate_left
 focus(intro w' hSw;go_simp;(try with_reducible rfl);done)
 simp only[Act.put,zzA,zzB,zzC]
 refine wpFl_coL rfl (.cells #[.int .i64 0,.int .i64 0,.int .i64 0,.int .i64 0,.int .i64 0,.int .i64 0,.int .i64 0,.int .i64 0,.string ⟨#[]⟩] 31 (0,0)) (fun n=>.pointer (some ⟨n,0,none⟩)) (by rfl) (N':=[]) (by rfl) (fun bw wq hn_wq hs_wq hb_bw hz_bw=>?_)
 simp only[Act.put,zzA,zzB,zzC]
 refine wpFl_bL rfl (fun wf hnf hsf K hK=>?_)
 have HZ:=zh (kept_block hz_bw hnf)
 obtain⟨z0,z1,z2,z3,z4,z5,z6,z7,z8⟩:=nine_cells HZ.out
 have zf:=thaw HZ.out
 go_simp
 have HBw:=zh (nine_below hsf hb_bw (.int .i64 0) (.int .i64 p0) (.int .i64 0) (.int .i64 0) (.int .i64 p5) (.int .i64 p6) (.int .i64 0) (.int .i64 0) (.string ⟨#[]⟩))
 have HVw:=zh (nine_heap HZ.out (.int .i64 0) (.int .i64 p0) (.int .i64 0) (.int .i64 0) (.int .i64 p5) (.int .i64 p6) (.int .i64 0) (.int .i64 0) (.string ⟨#[]⟩))
 refine hK.out _ _ HBw.out Keeps.nil ?_
 clear hK K z0 z1 z2 z3 z4 z5 z6 z7 z8 zf HZ hnf hsf hz_bw hn_wq hs_wq
 generalize (((((((((wf.setCell ⟨bw,0,none⟩ (.int .i64 0)).setCell ⟨bw,1,none⟩ (.int .i64 p0)).setCell ⟨bw,2,none⟩ (.int .i64 0)).setCell ⟨bw,3,none⟩ (.int .i64 0)).setCell ⟨bw,4,none⟩ (.int .i64 p5)).setCell ⟨bw,5,none⟩ (.int .i64 p6)).setCell ⟨bw,6,none⟩ (.int .i64 0)).setCell ⟨bw,7,none⟩ (.int .i64 0)).setCell ⟨bw,8,none⟩ (.string ⟨#[]⟩))=W5 at *
 refine wpFl_nil ?_
 refine NoPanic.normal ?_
 have HM5:Hid (MkAt w #[.int .i64 hd,.int .i64 r0,.int .i64 r1,.int .i64 s0,.int .i64 s1,.int .i64 cr,.int .i64 sr,.slice ya n yc] br bs bw p1 (p1+1+p2) p3 (p3+1+p4) p0 p5 p6 (.slice none 0 0) [] W5):=zh {
  hb:=q_next HB_W4.out HBw.out
  hn:=HN.out W5 (q_next (q_next HS_W3.out HS_W4.out) HBw.out)
  hz:=kept_block HZ2.out (q_next (q_next HS_W3.out HS_W4.out) HBw.out)
  hr:=kept_block HV_W3.out (q_next HS_W4.out HBw.out)
  hs:=kept_block HV_W4.out HBw.out
  hw:=HVw.out
  nr:=HL_br.out
  ns:=HL_bs.out
  nw:=by
   have h1:=HS2.out
   have h2:=(q_next HS_W3.out HS_W4.out).size
   omega
  own:=OwnE.nil _ _ _ _ }
 clear HN4 HN HZ2 HV_W3 HV_W4 HVw HBw HL_br HL_bs HS_W3 HS_W4 HB_W3 HB_W4 HBW2 HS2 hb_bw HP0 HP1 HP2 HP3 HP4 HP5 HP6 HW1 HW2
 obtain⟨m,hm⟩:∃ m,m=min n 4:=⟨_,rfl⟩
 have hm1:m≤n:=by omega
 have hm2:m≤4:=by omega
 have HMM:=zh hm
 clear hm i0 i1 i2 i3 i4 i5 i6
 go_wp2
 go_loopw [8,10,11] (fun wh lv i wr=>∃(k:Nat) (s:ScP),k≤m∧i=.int .i64 k∧wh=.int .i64 s.who∧Hid (s=stS (ys.take k) S0)∧Hid (MkAt w #[.int .i64 hd,.int .i64 r0,.int .i64 r1,.int .i64 s0,.int .i64 s1,.int .i64 cr,.int .i64 sr,.slice ya n yc] br bs bw s.rf s.rt s.sf s.st p0 p5 p6 lv (chS (ys.take k) S0) wr)) (fun _ _ i _=>m - (intOf i).toNat)
 case atStart=>exact⟨0,S0,by omega,rfl,by rw[HSV.out],zh rfl,zh (by rw[HSV.out];exact HM5.out)⟩
 case round =>
  clear HM5
  obtain⟨k,s,hk,rfl,rfl,hS,hM⟩:=hrel
  by_cases hlt:k < m
  ·have tk:(k:Int) < (n:Int):=by omega
   have tk0:(0:Int)≤(k:Int):=by omega
   have tk4:(k:Int) < 4:=by omega
   obtain⟨y,ey⟩:∃ y,ys[k]?=some y:=⟨_,List.getElem?_eq_getElem (by rw[← HN9.out];omega)⟩
   have hyi:=HI.out y (List.mem_of_getElem? ey)
   have hok:ScOk s:=by rw[hS.out];exact st_ok _ HS0.out
   have HSN:Hid (nextS s y=stS (ys.take (k+1)) S0):=zh (by rw[List.take_add_one,ey];exact(congrArg (fun z=>nextS z y) hS.out).trans (stS_snoc _ _ _).symm)
   have HCN:Hid (chS (ys.take k) S0++[proxyS s y]=chS (ys.take (k+1)) S0):=zh (by rw[List.take_add_one,ey,hS.out];exact(chS_snoc _ _ _).symm)
   obtain⟨L,hL⟩:∃ L,L=chS (ys.take k) S0:=⟨_,rfl⟩
   rw[← hL]at hM HCN
   have HLL:Hid (L.length≤1000000):=zh (by rw[hL,chS_len,List.length_take];omega)
   obtain⟨yb,yo,rfl,hyb,hyc⟩:=SliceAt.eachT HY.out (k:=k) (cs:=y5cells y) (by rw[List.getElem?_map,ey];rfl)
   have d0:=cell_keepB hM.out.hb hyb (hyc 0 _ rfl)
   have d1:=cell_keepB hM.out.hb hyb (hyc 1 _ rfl)
   have d2:=cell_keepB hM.out.hb hyb (hyc 2 _ rfl)
   have d3:=cell_keepB hM.out.hb hyb (hyc 3 _ rfl)
   have d4:=cell_keepB hM.out.hb hyb (hyc 4 _ rfl)
   rw[Nat.add_zero]at d0
   obtain⟨y0,y1,y2,y3,y4⟩:=y
   obtain⟨who,rf,rt,sf,st⟩:=s
   have HRW:=zh (prox_formed hok (y0,y1,y2,y3,y4) ⟨#[]⟩)
   obtain⟨⟨o1,o2⟩,⟨o3,o4,o5⟩,o6,o7,o8⟩:=hok
   simp only at o1 o2 o3 o4 o5 o6 o7 o8 hM d0 d1 d2 d3 d4 hyi
   obtain⟨wn,rfl⟩:∃ wn:Nat,who=(wn:Int):=⟨who.toNat,by omega⟩
   obtain⟨j0,j1,j2,j3,j4⟩:=hyi
   have t9:=pickI_range y0 (show(0:Int) < 9 by omega)
   have HPK:=zh (fun W=>pick15_any y0 9 W j0 (by omega) (by omega))
   have htw:toS (wn:Int) y0=((wn:Int)+1+pickI y0 9).tmod 10:=by unfold toS;rw[Int.tmod_eq_emod_of_nonneg (by omega)]
   obtain⟨tw,htw2⟩:∃ tw,tw=toS (wn:Int) y0:=⟨_,rfl⟩
   rw[← htw2]at htw
   generalize pickI y0 9=py at *
   have g1:IntKind.i64.wrap ((wn:Int)+1)=(wn:Int)+1:=IntWalk.i64_in _ (by omega)
   have g2:IntKind.i64.wrap ((wn:Int)+1+py)=(wn:Int)+1+py:=IntWalk.i64_in _ (by omega)
   have HTW:=zh htw.symm
   have HTV:=zh htw2
   clear htw htw2 hL ey hyb hyc
   obtain⟨c0,c1,c2,c3,c4,c5,c6,c7⟩:=eight_cells hM.out.hn
   go_upto_region 12 with fail
   clear c0 c1 c2 c3 c4 c5 c6 c7 d0 d1 d2 d3 d4
   have HBr:=zh hM.out.hb
   obtain⟨wa,hwa⟩:∃ W,W=wr.alloc (.cells #[.int .i64 y0,.int .i64 y1,.int .i64 y2,.int .i64 y3,.int .i64 y4] 143):=⟨_,rfl⟩
   have HV_wa:Hid (wa.heap[wr.heap.size]?=some (.cells #[.int .i64 y0,.int .i64 y1,.int .i64 y2,.int .i64 y3,.int .i64 y4] 143 (0,0))):=zh (by rw[hwa];exact heap_alloc_new wr _)
   have HS_wa:Hid (Below wr.heap.size wr wa):=zh (by rw[hwa];exact br0.alloc (Nat.le_refl _) _)
   have HB_wa:=zh (q_next HBr.out HS_wa.out)
   rw[← hwa]
   obtain⟨by',hby'⟩:∃ b,b=wr.heap.size:=⟨_,rfl⟩
   rw[← hby']at HV_wa ⊢
   have HL_by':Hid (wr.heap.size≤by'):=zh (by rw[hby'];exact Nat.le_refl _)
   clear hwa hby'
   have HMa:=zh (hM.out.step HS_wa.out)
   have HQ:=zh (fun W (hW:Below wa.heap.size wa W)=>And.intro (five_cellsT (kept_block HV_wa.out hW)) (And.intro (two_cells (kept_block HMa.out.hr hW)) (two_cells (kept_block HMa.out.hs hW))))
   have HLT:=zh (fun g (hg:u10.ownBlock=some g)=>own_lt hM.out.own hg)
   clear hM HB_wa HBr
   have HFP:Hid (formedP ⟨wn,tw,rf,rt,sf,st,⟨#[]⟩⟩=true):=zh (by rw[HTV.out];exact HRW.out)
   obtain⟨sl,hsl⟩:∃ sl,sl=sealK (keyW wn) (proxC ⟨wn,tw,rf,rt,sf,st,⟨#[]⟩⟩):=⟨_,rfl⟩
   have HSG:Hid (∀ W,Calls Tryz.prog 57 #[.string (keyW wn),.agg #[.int .i64 (wn:Int),.int .i64 tw,.int .i64 rf,.int .i64 rt,.int .i64 sf,.int .i64 st,.string ⟨#[]⟩]] W fun e w'=>e=.returned (.tuple #[.agg #[.int .i64 (wn:Int),.int .i64 tw,.int .i64 rf,.int .i64 rt,.int .i64 sf,.int .i64 st,.string sl],.int .i64 0])∧Below W.heap.size W w'):=zh (fun W=>by rw[hsl];exact signP15_any (keyW wn) (keyW_size _) ⟨wn,tw,rf,rt,sf,st,⟨#[]⟩⟩ HFP.out W)
   have HKY:=zh (fun W=>key15_any wn (by omega) W)
   have HPV:Hid (proxyS ⟨wn,rf,rt,sf,st⟩ (y0,y1,y2,y3,y4)=⟨wn,tw,rf,rt,sf,st,sl⟩):=zh (by rw[hsl];unfold proxyS rawP;simp only;rw[← HTV.out])
   generalize keyW (wn:Int)=KW at *
   clear hsl HFP HRW
   refine wp_region_noPanic ?_
   refine wp_region_lexB [.q 0,.q 1,.q 2,.q 3,.q 4,.q 8,.q 9,.an 11,.b 5,.q 6,.q 7,.q 10,.co 11,.b 12] (by kernel_rfl) (by kernel_rfl) (fun _ _ _ _ h=>h) ?_
   iterate 7(refine wpFl_qL (v:=?_) rfl (Or.inl ⟨by rfl,?_⟩) ?_;rotate_left;(focus(intro w' hSw;obtain⟨⟨v0,v1,v2,v3,v4⟩,⟨a0,a1,-⟩,b0,b1,-⟩:=HQ.out w' hSw;go_simp;(try with_reducible rfl);done));simp only[Act.put,zzA,zzB,zzC])
   refine wpFl_anL rfl (.cells #[.int .i64 0,.int .i64 0,.int .i64 0,.int .i64 0,.int .i64 0,.int .i64 0,.string ⟨#[]⟩] 96 (0,0)) (fun n=>.pointer (some ⟨n,0,none⟩)) ⟨by rfl,fun w'=>?_⟩ ?_
   focus(go_simp;done)
   refine wpFl_bL rfl (fun wa9 hna9 hsa9 K hK=>?_)
   go_simp
   go_at_call 56
   (with_reducible refine(HPK.out _).mono ?_)
   rintro e w' ⟨rfl,hw'⟩
   replace hw':=hw'.symm
   subst hw'
   refine hK.out _ _ hsa9 (Keeps.below br0) ?_
   clear hK K hna9 hsa9
   iterate 3(refine wpFl_qL (v:=?_) rfl (Or.inl ⟨by rfl,?_⟩) ?_;rotate_left;(focus(intro w' hSw;have e9:=HTW.out;go_simp;(try with_reducible rfl);done));simp only[Act.put,zzA,zzB,zzC])
   refine wpFl_coL rfl (.cells #[.int .i64 0,.int .i64 0,.int .i64 0,.int .i64 0,.int .i64 0,.int .i64 0,.string ⟨#[]⟩] 96 (0,0)) (fun n=>.pointer (some ⟨n,0,none⟩)) (by rfl) (N':=[]) (by rfl) (fun bp wp hn_wp hs_wp hb_bp hz_bp=>?_)
   simp only[Act.put,zzA,zzB,zzC]
   refine wpFl_bL rfl (fun wf2 hnf hsf K hK=>?_)
   have HZ:=zh (kept_block hz_bp hnf)
   obtain⟨z0,z1,z2,z3,z4,z5,z6⟩:=seven_cells HZ.out
   have zf:=thaw HZ.out
   go_simp
   have HBp:=zh (seven_below hsf hb_bp (.int .i64 (wn:Int)) (.int .i64 tw) (.int .i64 rf) (.int .i64 rt) (.int .i64 sf) (.int .i64 st) (.string ⟨#[]⟩))
   have HVp:=zh (seven_heap HZ.out (.int .i64 (wn:Int)) (.int .i64 tw) (.int .i64 rf) (.int .i64 rt) (.int .i64 sf) (.int .i64 st) (.string ⟨#[]⟩))
   refine hK.out _ _ HBp.out Keeps.nil ?_
   clear hK K z0 z1 z2 z3 z4 z5 z6 zf HZ hnf hsf hz_bp hn_wp hs_wp
   generalize ((((((wf2.setCell ⟨bp,0,none⟩ (.int .i64 (wn:Int))).setCell ⟨bp,1,none⟩ (.int .i64 tw)).setCell ⟨bp,2,none⟩ (.int .i64 rf)).setCell ⟨bp,3,none⟩ (.int .i64 rt)).setCell ⟨bp,4,none⟩ (.int .i64 sf)).setCell ⟨bp,5,none⟩ (.int .i64 st)).setCell ⟨bp,6,none⟩ (.string ⟨#[]⟩)=wb1 at *
   refine wpFl_nil ?_
   refine NoPanic.normal ?_
   have HLP:=zh hb_bp
   clear hb_bp
   go_upto_region 13 with fail
   refine wp_region_noPanic ?_
   refine wp_region_lexB [.q 0,.q 2,.an 7,.b 1,.b 3,.q 4,.q 5,.q 6,.co 7,.b 8,.q 9] (by kernel_rfl) (by kernel_rfl) (fun _ _ _ _ h=>h) ?_
   iterate 2(refine wpFl_qL (v:=?_) rfl (Or.inl ⟨by rfl,?_⟩) ?_;rotate_left;(focus(intro w' hSw;obtain⟨v0,v1,v2,v3,v4,v5,v6⟩:=seven_cells (kept_block HVp.out hSw);go_simp;(try with_reducible rfl);done));simp only[Act.put,zzA,zzB,zzC])
   refine wpFl_anL rfl (.cells #[.int .i64 0,.int .i64 0,.int .i64 0,.int .i64 0,.int .i64 0,.int .i64 0,.string ⟨#[]⟩] 96 (0,0)) (fun n=>.pointer (some ⟨n,0,none⟩)) ⟨by rfl,fun w'=>?_⟩ ?_
   focus(go_simp;done)
   refine wpFl_bL rfl (fun wak hnak hsak K hK=>?_)
   go_simp
   go_at_call 5
   (with_reducible refine(HKY.out _).mono ?_)
   rintro e wbk ⟨rfl,hbk⟩
   refine hK.out _ _ (q_next hsak hbk) (Keeps.below hbk) ?_
   clear hK K hnak hsak
   refine wpFl_bL rfl (fun wag hnag hsag K hK=>?_)
   go_simp
   go_at_call 57
   (with_reducible refine(HSG.out _).mono ?_)
   rintro e wbg ⟨rfl,hbg⟩
   refine hK.out _ _ (q_next hsag hbg) (Keeps.below hbg) ?_
   clear hK K hnag hsag
   iterate 3(refine wpFl_qL (v:=?_) rfl (Or.inl ⟨by rfl,?_⟩) ?_;rotate_left;(focus(intro w' hSw;go_simp;(try with_reducible rfl);done));simp only[Act.put,zzA,zzB,zzC])
   refine wpFl_coL rfl (.cells #[.int .i64 0,.int .i64 0,.int .i64 0,.int .i64 0,.int .i64 0,.int .i64 0,.string ⟨#[]⟩] 96 (0,0)) (fun n=>.pointer (some ⟨n,0,none⟩)) (by rfl) (N':=[]) (by rfl) (fun bg wg hn_wg hs_wg hb_bg hz_bg=>?_)
   simp only[Act.put,zzA,zzB,zzC]
   refine wpFl_bL rfl (fun wf3 hnf hsf K hK=>?_)
   have HZ:=zh (kept_block hz_bg hnf)
   obtain⟨z0,z1,z2,z3,z4,z5,z6⟩:=seven_cells HZ.out
   have zf:=thaw HZ.out
   go_simp
   have HBg:=zh (seven_below hsf hb_bg (.int .i64 (wn:Int)) (.int .i64 tw) (.int .i64 rf) (.int .i64 rt) (.int .i64 sf) (.int .i64 st) (.string sl))
   have HVg:=zh (seven_heap HZ.out (.int .i64 (wn:Int)) (.int .i64 tw) (.int .i64 rf) (.int .i64 rt) (.int .i64 sf) (.int .i64 st) (.string sl))
   refine hK.out _ _ HBg.out Keeps.nil ?_
   clear hK K z0 z1 z2 z3 z4 z5 z6 zf HZ hnf hsf hz_bg hn_wg hs_wg
   generalize ((((((wf3.setCell ⟨bg,0,none⟩ (.int .i64 (wn:Int))).setCell ⟨bg,1,none⟩ (.int .i64 tw)).setCell ⟨bg,2,none⟩ (.int .i64 rf)).setCell ⟨bg,3,none⟩ (.int .i64 rt)).setCell ⟨bg,4,none⟩ (.int .i64 sf)).setCell ⟨bg,5,none⟩ (.int .i64 st)).setCell ⟨bg,6,none⟩ (.string sl)=wb2 at *
   refine wpFl_qL (v:=?_) rfl (Or.inl ⟨by rfl,?_⟩) ?_
   rotate_left
   focus(intro w' hSw;go_simp;(try with_reducible rfl);done)
   simp only[Act.put,zzA,zzB,zzC]
   refine wpFl_nil ?_
   refine NoPanic.normal ?_
   have HMb:=zh (HMa.out.step (q_next HBp.out HBg.out))
   have HYb:=zh (kept_block HV_wa.out (q_next HBp.out HBg.out))
   have HPb:=zh (kept_block HVp.out HBg.out)
   have HLP2:Hid (wr.heap.size≤bp):=zh (Nat.le_trans HS_wa.out.size HLP.out)
   clear HMa HV_wa HVp HBp HBg HS_wa HQ hb_bg HLP HPK HKY HSG HL_by'
   have HBA:Hid (Below wb2.heap.size wb2 (wb2.alloc (.cells #[.int .i64 (wn:Int),.int .i64 tw,.int .i64 rf,.int .i64 rt,.int .i64 sf,.int .i64 st,.string sl] 96))):=zh (br0.alloc (Nat.le_refl _) _)
   have HMc:=zh (HMb.out.step HBA.out)
   have HNA:=zh (heap_alloc_new wb2 (.cells #[.int .i64 (wn:Int),.int .i64 tw,.int .i64 rf,.int .i64 rt,.int .i64 sf,.int .i64 st,.string sl] 96))
   have HYc:=zh (kept_block HYb.out HBA.out)
   have HPc:=zh (kept_block HPb.out HBA.out)
   obtain⟨v0,v1,v2,v3,v4,v5,v6⟩:=seven_cells HVg.out
   have hszc:=HMc.out.hb.size
   go_upto_region 15 with(at_builtin;refine wpList_append_prox _ _ w.heap.size _ L ⟨wn,tw,rf,rt,sf,st,sl⟩ wb2.heap.size _ HMc.out.own HLL.out hszc HNA.out rfl rfl rfl rfl ?_;intro lv2 wc hown hgr;have HMd:=zh (HMc.out.app hown hgr);have HYd:=zh (own_keepsT HMc.out.own hgr HYc.out (by decide));have HPd:=zh ((hgr.block _ (ltA HPc.out) (fun e=>by have h1:=HLT.out _ e.symm;have h2:=HLP2.out;omega)).trans HPc.out);clear hown hgr)
   clear v0 v1 v2 v3 v4 v5 v6 HMc HNA HYc HPc HBA HMb HYb HPb HVg hszc
   obtain⟨v0,v1,v2,v3,v4,v5,v6⟩:=seven_cells HPd.out
   go_upto_region 16 with fail
   clear v0 v1 v2 v3 v4 v5 v6 HPd HLT HLP2
   have HN1:=zh (fun W=>narrow_any rf rt y1 y2 j1 j2 o3 o4 (by omega) W)
   have HN2:=zh (fun W=>narrow_any sf st y3 y4 j3 j4 o6 o7 (by omega) W)
   have HSV2:Hid (nextS ⟨wn,rf,rt,sf,st⟩ (y0,y1,y2,y3,y4)=⟨tw,narF rf rt y1,narT rf rt y1 y2,narF sf st y3,narT sf st y3 y4⟩):=zh (by rw[HTV.out];rfl)
   generalize narF rf rt y1=rf2 at *
   generalize narT rf rt y1 y2=rt2 at *
   generalize narF sf st y3=sf2 at *
   generalize narT sf st y3 y4=st2 at *
   have HM1:=zh (HMd.out.setR rf2 rt2)
   have HY1:Hid (((wc.setCell ⟨br,0,none⟩ (.int .i64 rf2)).setCell ⟨br,1,none⟩ (.int .i64 rt2)).heap[by']?=some (.cells #[.int .i64 y0,.int .i64 y1,.int .i64 y2,.int .i64 y3,.int .i64 y4] 143 (0,0))):=zh (setOther (setOther HYd.out (unlike HYd.out HMd.out.hr (by decide)) _) (unlike HYd.out HMd.out.hr (by decide)) _)
   obtain⟨v0,v1,v2,v3,v4⟩:=five_cellsT HYd.out
   obtain⟨a0,a1,af⟩:=two_cells HMd.out.hr
   go_upto_region 17 with(go_at_call 58;(with_reducible refine(HN1.out _).mono ?_);rintro e w' ⟨rfl,hw'⟩;replace hw':=hw'.symm;subst hw')
   clear v0 v1 v2 v3 v4 a0 a1 af HYd HMd HN1
   generalize (wc.setCell ⟨br,0,none⟩ (.int .i64 rf2)).setCell ⟨br,1,none⟩ (.int .i64 rt2)=wd at *
   obtain⟨v0,v1,v2,v3,v4⟩:=five_cellsT HY1.out
   obtain⟨a0,a1,af⟩:=two_cells HM1.out.hs
   have HM2:=zh (HM1.out.setS sf2 st2)
   go_wp2_with (go_at_call 58;(with_reducible refine(HN2.out _).mono ?_);rintro e w' ⟨rfl,hw'⟩;replace hw':=hw'.symm;subst hw')
   go_roundw
   case rel=>exact⟨k+1,⟨tw,rf2,rt2,sf2,st2⟩,by omega,by go_num,rfl,zh (HSV2.out.symm.trans HSN.out),zh (by rw[← HCN.out,HPV.out];exact HM2.out)⟩
   case measure=>simp[intOf];omega
  ·obtain rfl:k=m:=by omega
   have HTK:Hid (ys.take k=ys.take 4):=zh (by
    have h1:=HMM.out
    have h2:=HN9.out
    by_cases h:n≤4
    ·rw[List.take_of_length_le (by omega),List.take_of_length_le (by omega)]
    ·rw[show k=4 by omega])
   rw[HTK.out]at hS hM
   have hok:ScOk s:=by rw[hS.out];exact st_ok _ HS0.out
   obtain⟨c0,c1,c2,c3,c4,c5,c6,c7⟩:=eight_cells hM.out.hn
   have htest:(k:Int)=n∨((k:Int)=4∧(k:Int) < n):=by
    have h1:=HMM.out
    omega
   go_upto_region 9 with fail
   go_cut [63] (fun t wx=>t=.bool false∧Hid (wx=wr))
   case first =>
    rcases htest with h | ⟨h,h'⟩
    ·have tk:¬ (k:Int) < (n:Int):=by omega
     clear h
     go_wp2
     go_meet
     case rel=>exact⟨rfl,zh rfl⟩
    ·have tk4:¬ (k:Int) < 4:=by omega
     clear h
     go_wp2
     go_meet
     case rel=>exact⟨rfl,zh rfl⟩
   case rest =>
   obtain⟨ht63,hwx⟩:=hcut
   subst ht63
   obtain rfl:=hwx.out
   clear hwx htest c0 c1 c2 c3 c4 c5 c6 c7 HTK HMM HN9 HI HY HS0
   rename_i hKK
   refine hKK _ _ ?_
   iterate 4 go_step
   clear hKK
   have HFW:=zh (raw_formed hok q0 q5 q6)
   obtain⟨who,rf,rt,sf,st⟩:=s
   obtain⟨⟨o1,o2⟩,-⟩:=hok
   simp only at o1 o2 hM
   obtain⟨wn,rfl⟩:∃ wn:Nat,who=(wn:Int):=⟨who.toNat,by omega⟩
   obtain⟨L,hL⟩:∃ L,L=chS (ys.take 4) S0:=⟨_,rfl⟩
   rw[← hL]at hM
   have HL:=zh hL
   obtain⟨SL,hsl⟩:∃ sl,sl=sealK (keyW wn) (wishC (rawW p0 p5 p6 ⟨wn,rf,rt,sf,st⟩)):=⟨_,rfl⟩
   have HSG:Hid (∀ W,Calls Tryz.prog 59 #[.string (keyW wn),.agg #[.int .i64 (wn:Int),.int .i64 p0,.int .i64 rf,.int .i64 rt,.int .i64 p5,.int .i64 p6,.int .i64 sf,.int .i64 st,.string ⟨#[]⟩]] W fun e w'=>e=.returned (.tuple #[.agg #[.int .i64 (wn:Int),.int .i64 p0,.int .i64 rf,.int .i64 rt,.int .i64 p5,.int .i64 p6,.int .i64 sf,.int .i64 st,.string SL],.int .i64 0])∧Below W.heap.size W w'):=zh (fun W=>by rw[hsl];exact signW15_any (keyW wn) (keyW_size _) (rawW p0 p5 p6 ⟨wn,rf,rt,sf,st⟩) HFW.out W)
   have HKY:=zh (fun W=>key15_any wn (by omega) W)
   have HRES:Hid (wagg (signW p0 p5 p6 (stS (ys.take 4) S0))=.agg #[.int .i64 (wn:Int),.int .i64 p0,.int .i64 rf,.int .i64 rt,.int .i64 p5,.int .i64 p6,.int .i64 sf,.int .i64 st,.string SL]):=zh (by rw[← hS.out,hsl];rfl)
   generalize keyW (wn:Int)=KW at *
   clear hsl hL HFW hS
   have hne1:=unlike hM.out.hr hM.out.hw (by decide)
   have hne2:=unlike hM.out.hs hM.out.hw (by decide)
   obtain⟨z0,z1,z2,z3,z4,z5,z6,z7,z8⟩:=nine_cells hM.out.hw
   have zf:=thaw hM.out.hw
   obtain⟨a0,a1,-⟩:=two_cells hM.out.hr
   obtain⟨b0,b1,-⟩:=two_cells hM.out.hs
   go_upto_region 21 with fail
   clear z0 z1 z2 z3 z4 z5 z6 z7 z8 zf a0 a1 b0 b1 hne1 hne2
   have hfill:=hM.out.fill wn rf rt sf st _ rfl
   generalize ((((wc.setCell ⟨bw,0,none⟩ (.int .i64 (wn:Int))).setCell ⟨bw,2,none⟩ (.int .i64 rf)).setCell ⟨bw,3,none⟩ (.int .i64 rt)).setCell ⟨bw,6,none⟩ (.int .i64 sf)).setCell ⟨bw,7,none⟩ (.int .i64 st)=wx at *
   have HXB:=zh hfill.1
   have HXW:=zh hfill.2.1
   have HXZ:=zh hfill.2.2.1
   have HXO:=zh hfill.2.2.2
   clear hfill hM
   refine wp_region_noPanic ?_
   refine wp_region_lexB [.q 0,.q 2,.an 7,.b 1,.b 3,.q 4,.q 5,.q 6,.co 7,.b 8,.q 9] (by kernel_rfl) (by kernel_rfl) (fun _ _ _ _ h=>h) ?_
   iterate 2(refine wpFl_qL (v:=?_) rfl (Or.inl ⟨by rfl,?_⟩) ?_;rotate_left;(focus(intro w' hSw;obtain⟨v0,v1,v2,v3,v4,v5,v6,v7,v8⟩:=nine_cells (kept_block HXW.out hSw);go_simp;(try with_reducible rfl);done));simp only[Act.put,zzA,zzB,zzC])
   refine wpFl_anL rfl (.cells #[.int .i64 0,.int .i64 0,.int .i64 0,.int .i64 0,.int .i64 0,.int .i64 0,.int .i64 0,.int .i64 0,.string ⟨#[]⟩] 31 (0,0)) (fun n=>.pointer (some ⟨n,0,none⟩)) ⟨by rfl,fun w'=>?_⟩ ?_
   focus(go_simp;done)
   refine wpFl_bL rfl (fun wak hnak hsak K hK=>?_)
   go_simp
   go_at_call 5
   (with_reducible refine(HKY.out _).mono ?_)
   rintro e wbk ⟨rfl,hbk⟩
   refine hK.out _ _ (q_next hsak hbk) (Keeps.below hbk) ?_
   clear hK K hnak hsak
   refine wpFl_bL rfl (fun wag hnag hsag K hK=>?_)
   go_simp
   go_at_call 59
   (with_reducible refine(HSG.out _).mono ?_)
   rintro e wbg ⟨rfl,hbg⟩
   refine hK.out _ _ (q_next hsag hbg) (Keeps.below hbg) ?_
   clear hK K hnag hsag
   iterate 3(refine wpFl_qL (v:=?_) rfl (Or.inl ⟨by rfl,?_⟩) ?_;rotate_left;(focus(intro w' hSw;go_simp;(try with_reducible rfl);done));simp only[Act.put,zzA,zzB,zzC])
   refine wpFl_coL rfl (.cells #[.int .i64 0,.int .i64 0,.int .i64 0,.int .i64 0,.int .i64 0,.int .i64 0,.int .i64 0,.int .i64 0,.string ⟨#[]⟩] 31 (0,0)) (fun n=>.pointer (some ⟨n,0,none⟩)) (by rfl) (N':=[]) (by rfl) (fun bg wg hn_wg hs_wg hb_bg hz_bg=>?_)
   simp only[Act.put,zzA,zzB,zzC]
   refine wpFl_bL rfl (fun wf4 hnf hsf K hK=>?_)
   have HZ:=zh (kept_block hz_bg hnf)
   obtain⟨z0,z1,z2,z3,z4,z5,z6,z7,z8⟩:=nine_cells HZ.out
   have zf:=thaw HZ.out
   go_simp
   have HBg:=zh (nine_below hsf hb_bg (.int .i64 (wn:Int)) (.int .i64 p0) (.int .i64 rf) (.int .i64 rt) (.int .i64 p5) (.int .i64 p6) (.int .i64 sf) (.int .i64 st) (.string SL))
   have HVg:=zh (nine_heap HZ.out (.int .i64 (wn:Int)) (.int .i64 p0) (.int .i64 rf) (.int .i64 rt) (.int .i64 p5) (.int .i64 p6) (.int .i64 sf) (.int .i64 st) (.string SL))
   refine hK.out _ _ HBg.out Keeps.nil ?_
   clear hK K z0 z1 z2 z3 z4 z5 z6 z7 z8 zf HZ hnf hsf hz_bg hn_wg hs_wg
   generalize ((((((((wf4.setCell ⟨bg,0,none⟩ (.int .i64 (wn:Int))).setCell ⟨bg,1,none⟩ (.int .i64 p0)).setCell ⟨bg,2,none⟩ (.int .i64 rf)).setCell ⟨bg,3,none⟩ (.int .i64 rt)).setCell ⟨bg,4,none⟩ (.int .i64 p5)).setCell ⟨bg,5,none⟩ (.int .i64 p6)).setCell ⟨bg,6,none⟩ (.int .i64 sf)).setCell ⟨bg,7,none⟩ (.int .i64 st)).setCell ⟨bg,8,none⟩ (.string SL)=wy at *
   refine wpFl_qL (v:=?_) rfl (Or.inl ⟨by rfl,?_⟩) ?_
   rotate_left
   focus(intro w' hSw;go_simp;(try with_reducible rfl);done)
   simp only[Act.put,zzA,zzB,zzC]
   refine wpFl_nil ?_
   refine NoPanic.normal ?_
   have HYB:=zh (q_next HXB.out HBg.out)
   have HYZ:=zh (kept_block HXZ.out HBg.out)
   have HYO:=zh (OwnE.far HXO.out HBg.out (Nat.le_refl _))
   clear HXB HXZ HXO HXW HBg hb_bg HKY HSG
   obtain⟨v0,v1,v2,v3,v4,v5,v6,v7,v8⟩:=nine_cells HVg.out
   unfold zwish at HYZ
   have HLE:Hid (w.heap.size≤w.heap.size+1):=zh (Nat.le_succ _)
   obtain⟨rb,hrb⟩:∃ rb,rb=w.heap.size+1:=⟨_,rfl⟩
   rw[← hrb]at HYZ HLE ⊢
   clear hrb
   obtain⟨z0,z1,z2,z3,z4,z5,z6,z7,z8⟩:=nine_cells HYZ.out
   have zf:=thaw HYZ.out
   have HF:=zh (nine_heap HYZ.out (.int .i64 (wn:Int)) (.int .i64 p0) (.int .i64 rf) (.int .i64 rt) (.int .i64 p5) (.int .i64 p6) (.int .i64 sf) (.int .i64 st) (.string SL))
   have HBF:=zh (nine_below HYB.out HLE.out (.int .i64 (wn:Int)) (.int .i64 p0) (.int .i64 rf) (.int .i64 rt) (.int .i64 p5) (.int .i64 p6) (.int .i64 sf) (.int .i64 st) (.string SL))
   have HOF:Hid (OwnP (((((((((wy.setCell ⟨rb,0,none⟩ (.int .i64 (wn:Int))).setCell ⟨rb,1,none⟩ (.int .i64 p0)).setCell ⟨rb,2,none⟩ (.int .i64 rf)).setCell ⟨rb,3,none⟩ (.int .i64 rt)).setCell ⟨rb,4,none⟩ (.int .i64 p5)).setCell ⟨rb,5,none⟩ (.int .i64 p6)).setCell ⟨rb,6,none⟩ (.int .i64 sf)).setCell ⟨rb,7,none⟩ (.int .i64 st)).setCell ⟨rb,8,none⟩ (.string SL)) w.heap.size u10 L):=zh (OwnE.grownT HYO.out HYZ.out (fun c e=>by injection e with _ e;exact absurd e (by decide)) (nine_grown _ _ (.int .i64 (wn:Int)) (.int .i64 p0) (.int .i64 rf) (.int .i64 rt) (.int .i64 p5) (.int .i64 p6) (.int .i64 sf) (.int .i64 st) (.string SL)))
   go_wp2
   exact bodyPost_ret (results_cellA_tmp rfl _ rb 31 #[.int .i64 (wn:Int),.int .i64 p0,.int .i64 rf,.int .i64 rt,.int .i64 p5,.int .i64 p6,.int .i64 sf,.int .i64 st,.string SL] (0,0) _ rfl HF.out Tryz.underlying31 rfl infoWish) rfl ⟨_,by rw[HRES.out],by rw[← HL.out];exact HOF.out,HBF.out⟩
theorem eight_heap {W:World}{b:Nat}{c0 c1 c2 c3 c4 c5 c6 c7:Value}{T:TypeId}(h:W.heap[b]?=some (.cells #[c0,c1,c2,c3,c4,c5,c6,c7] T (0,0)))(x0 x1 x2 x3 x4 x5 x6 x7:Value) :
  ((((((((W.setCell ⟨b,0,none⟩ x0).setCell ⟨b,1,none⟩ x1).setCell ⟨b,2,none⟩ x2).setCell ⟨b,3,none⟩ x3).setCell ⟨b,4,none⟩ x4).setCell ⟨b,5,none⟩ x5).setCell ⟨b,6,none⟩ x6).setCell ⟨b,7,none⟩ x7).heap[b]?=some (.cells #[x0,x1,x2,x3,x4,x5,x6,x7] T (0,0)):=by
 have h0:=heap_setCell_same (i:=0) x0 h
 have h1:=heap_setCell_same (i:=1) x1 h0
 have h2:=heap_setCell_same (i:=2) x2 h1
 have h3:=heap_setCell_same (i:=3) x3 h2
 have h4:=heap_setCell_same (i:=4) x4 h3
 have h5:=heap_setCell_same (i:=5) x5 h4
 have h6:=heap_setCell_same (i:=6) x6 h5
 have h7:=heap_setCell_same (i:=7) x7 h6
 simpa using h7
theorem eight_below {w W:World}{b B:Nat}(h:Below B w W)(hb:B≤b)(x0 x1 x2 x3 x4 x5 x6 x7:Value) :
  Below B w ((((((((W.setCell ⟨b,0,none⟩ x0).setCell ⟨b,1,none⟩ x1).setCell ⟨b,2,none⟩ x2).setCell ⟨b,3,none⟩ x3).setCell ⟨b,4,none⟩ x4).setCell ⟨b,5,none⟩ x5).setCell ⟨b,6,none⟩ x6).setCell ⟨b,7,none⟩ x7) :=
 (((((((h.setCell (p:=⟨b,0,none⟩) hb x0).setCell (p:=⟨b,1,none⟩) hb x1).setCell (p:=⟨b,2,none⟩) hb x2).setCell (p:=⟨b,3,none⟩) hb x3).setCell (p:=⟨b,4,none⟩) hb x4).setCell (p:=⟨b,5,none⟩) hb x5).setCell (p:=⟨b,6,none⟩) hb x6).setCell (p:=⟨b,7,none⟩) hb x7
theorem eight_grownT (W:World)(b:Nat)(x0 x1 x2 x3 x4 x5 x6 x7:Value):W.grownBy ((((((((W.setCell ⟨b,0,none⟩ x0).setCell ⟨b,1,none⟩ x1).setCell ⟨b,2,none⟩ x2).setCell ⟨b,3,none⟩ x3).setCell ⟨b,4,none⟩ x4).setCell ⟨b,5,none⟩ x5).setCell ⟨b,6,none⟩ x6).setCell ⟨b,7,none⟩ x7) (some b) :=
 grown_setCell (grown_setCell (grown_setCell (grown_setCell (grown_setCell (grown_setCell (grown_setCell (grown_setCell (grown_refl _ _) ⟨b,0,none⟩ (.inl rfl) _) ⟨b,1,none⟩ (.inl rfl) _) ⟨b,2,none⟩ (.inl rfl) _) ⟨b,3,none⟩ (.inl rfl) _) ⟨b,4,none⟩ (.inl rfl) _) ⟨b,5,none⟩ (.inl rfl) _) ⟨b,6,none⟩ (.inl rfl) _) ⟨b,7,none⟩ (.inl rfl) _
theorem sixteen_heap {W:World}{b:Nat}{c0 c1 c2 c3 c4 c5 c6 c7 c8 c9 c10 c11 c12 c13 c14 c15:Value}{T:TypeId}(h:W.heap[b]?=some (.cells #[c0,c1,c2,c3,c4,c5,c6,c7,c8,c9,c10,c11,c12,c13,c14,c15] T (0,0)))(x0 x1 x2 x3 x4 x5 x6 x7 x8 x9 x10 x11 x12 x13 x14 x15:Value) :
  ((((((((((((((((W.setCell ⟨b,0,none⟩ x0).setCell ⟨b,1,none⟩ x1).setCell ⟨b,2,none⟩ x2).setCell ⟨b,3,none⟩ x3).setCell ⟨b,4,none⟩ x4).setCell ⟨b,5,none⟩ x5).setCell ⟨b,6,none⟩ x6).setCell ⟨b,7,none⟩ x7).setCell ⟨b,8,none⟩ x8).setCell ⟨b,9,none⟩ x9).setCell ⟨b,10,none⟩ x10).setCell ⟨b,11,none⟩ x11).setCell ⟨b,12,none⟩ x12).setCell ⟨b,13,none⟩ x13).setCell ⟨b,14,none⟩ x14).setCell ⟨b,15,none⟩ x15).heap[b]?=some (.cells #[x0,x1,x2,x3,x4,x5,x6,x7,x8,x9,x10,x11,x12,x13,x14,x15] T (0,0)):=by
 have h0:=heap_setCell_same (i:=0) x0 h
 have h1:=heap_setCell_same (i:=1) x1 h0
 have h2:=heap_setCell_same (i:=2) x2 h1
 have h3:=heap_setCell_same (i:=3) x3 h2
 have h4:=heap_setCell_same (i:=4) x4 h3
 have h5:=heap_setCell_same (i:=5) x5 h4
 have h6:=heap_setCell_same (i:=6) x6 h5
 have h7:=heap_setCell_same (i:=7) x7 h6
 have h8:=heap_setCell_same (i:=8) x8 h7
 have h9:=heap_setCell_same (i:=9) x9 h8
 have h10:=heap_setCell_same (i:=10) x10 h9
 have h11:=heap_setCell_same (i:=11) x11 h10
 have h12:=heap_setCell_same (i:=12) x12 h11
 have h13:=heap_setCell_same (i:=13) x13 h12
 have h14:=heap_setCell_same (i:=14) x14 h13
 have h15:=heap_setCell_same (i:=15) x15 h14
 simpa using h15
theorem sixteen_below {w W:World}{b B:Nat}(h:Below B w W)(hb:B≤b)(x0 x1 x2 x3 x4 x5 x6 x7 x8 x9 x10 x11 x12 x13 x14 x15:Value) :
  Below B w ((((((((((((((((W.setCell ⟨b,0,none⟩ x0).setCell ⟨b,1,none⟩ x1).setCell ⟨b,2,none⟩ x2).setCell ⟨b,3,none⟩ x3).setCell ⟨b,4,none⟩ x4).setCell ⟨b,5,none⟩ x5).setCell ⟨b,6,none⟩ x6).setCell ⟨b,7,none⟩ x7).setCell ⟨b,8,none⟩ x8).setCell ⟨b,9,none⟩ x9).setCell ⟨b,10,none⟩ x10).setCell ⟨b,11,none⟩ x11).setCell ⟨b,12,none⟩ x12).setCell ⟨b,13,none⟩ x13).setCell ⟨b,14,none⟩ x14).setCell ⟨b,15,none⟩ x15) :=
 (((((((((((((((h.setCell (p:=⟨b,0,none⟩) hb x0).setCell (p:=⟨b,1,none⟩) hb x1).setCell (p:=⟨b,2,none⟩) hb x2).setCell (p:=⟨b,3,none⟩) hb x3).setCell (p:=⟨b,4,none⟩) hb x4).setCell (p:=⟨b,5,none⟩) hb x5).setCell (p:=⟨b,6,none⟩) hb x6).setCell (p:=⟨b,7,none⟩) hb x7).setCell (p:=⟨b,8,none⟩) hb x8).setCell (p:=⟨b,9,none⟩) hb x9).setCell (p:=⟨b,10,none⟩) hb x10).setCell (p:=⟨b,11,none⟩) hb x11).setCell (p:=⟨b,12,none⟩) hb x12).setCell (p:=⟨b,13,none⟩) hb x13).setCell (p:=⟨b,14,none⟩) hb x14).setCell (p:=⟨b,15,none⟩) hb x15
theorem sixteen_grownT (W:World)(b:Nat)(x0 x1 x2 x3 x4 x5 x6 x7 x8 x9 x10 x11 x12 x13 x14 x15:Value):W.grownBy ((((((((((((((((W.setCell ⟨b,0,none⟩ x0).setCell ⟨b,1,none⟩ x1).setCell ⟨b,2,none⟩ x2).setCell ⟨b,3,none⟩ x3).setCell ⟨b,4,none⟩ x4).setCell ⟨b,5,none⟩ x5).setCell ⟨b,6,none⟩ x6).setCell ⟨b,7,none⟩ x7).setCell ⟨b,8,none⟩ x8).setCell ⟨b,9,none⟩ x9).setCell ⟨b,10,none⟩ x10).setCell ⟨b,11,none⟩ x11).setCell ⟨b,12,none⟩ x12).setCell ⟨b,13,none⟩ x13).setCell ⟨b,14,none⟩ x14).setCell ⟨b,15,none⟩ x15) (some b) :=
 grown_setCell (grown_setCell (grown_setCell (grown_setCell (grown_setCell (grown_setCell (grown_setCell (grown_setCell (grown_setCell (grown_setCell (grown_setCell (grown_setCell (grown_setCell (grown_setCell (grown_setCell (grown_setCell (grown_refl _ _) ⟨b,0,none⟩ (.inl rfl) _) ⟨b,1,none⟩ (.inl rfl) _) ⟨b,2,none⟩ (.inl rfl) _) ⟨b,3,none⟩ (.inl rfl) _) ⟨b,4,none⟩ (.inl rfl) _) ⟨b,5,none⟩ (.inl rfl) _) ⟨b,6,none⟩ (.inl rfl) _) ⟨b,7,none⟩ (.inl rfl) _) ⟨b,8,none⟩ (.inl rfl) _) ⟨b,9,none⟩ (.inl rfl) _) ⟨b,10,none⟩ (.inl rfl) _) ⟨b,11,none⟩ (.inl rfl) _) ⟨b,12,none⟩ (.inl rfl) _) ⟨b,13,none⟩ (.inl rfl) _) ⟨b,14,none⟩ (.inl rfl) _) ⟨b,15,none⟩ (.inl rfl) _
theorem sixteen_cells {W:World}{b:Nat}{c0 c1 c2 c3 c4 c5 c6 c7 c8 c9 c10 c11 c12 c13 c14 c15:Value}{T:TypeId}(h:W.heap[b]?=some (.cells #[c0,c1,c2,c3,c4,c5,c6,c7,c8,c9,c10,c11,c12,c13,c14,c15] T (0,0))) :
  W.cell? ⟨b,0,none⟩=some c0∧W.cell? ⟨b,1,none⟩=some c1∧W.cell? ⟨b,2,none⟩=some c2∧W.cell? ⟨b,3,none⟩=some c3∧W.cell? ⟨b,4,none⟩=some c4∧W.cell? ⟨b,5,none⟩=some c5∧W.cell? ⟨b,6,none⟩=some c6∧W.cell? ⟨b,7,none⟩=some c7∧W.cell? ⟨b,8,none⟩=some c8∧W.cell? ⟨b,9,none⟩=some c9∧W.cell? ⟨b,10,none⟩=some c10∧W.cell? ⟨b,11,none⟩=some c11∧W.cell? ⟨b,12,none⟩=some c12∧W.cell? ⟨b,13,none⟩=some c13∧W.cell? ⟨b,14,none⟩=some c14∧W.cell? ⟨b,15,none⟩=some c15 :=
 ⟨cell_of_row W _ 0 _ _ _ h,cell_of_row W _ 1 _ _ _ h,cell_of_row W _ 2 _ _ _ h,cell_of_row W _ 3 _ _ _ h,cell_of_row W _ 4 _ _ _ h,cell_of_row W _ 5 _ _ _ h,cell_of_row W _ 6 _ _ _ h,cell_of_row W _ 7 _ _ _ h,cell_of_row W _ 8 _ _ _ h,cell_of_row W _ 9 _ _ _ h,cell_of_row W _ 10 _ _ _ h,cell_of_row W _ 11 _ _ _ h,cell_of_row W _ 12 _ _ _ h,cell_of_row W _ 13 _ _ _ h,cell_of_row W _ 14 _ _ _ h,cell_of_row W _ 15 _ _ _ h⟩
theorem six_heap {W:World}{b:Nat}{c0 c1 c2 c3 c4 c5:Value}{T:TypeId}(h:W.heap[b]?=some (.cells #[c0,c1,c2,c3,c4,c5] T (0,0)))(x0 x1 x2 x3 x4 x5:Value) :
  ((((((W.setCell ⟨b,0,none⟩ x0).setCell ⟨b,1,none⟩ x1).setCell ⟨b,2,none⟩ x2).setCell ⟨b,3,none⟩ x3).setCell ⟨b,4,none⟩ x4).setCell ⟨b,5,none⟩ x5).heap[b]?=some (.cells #[x0,x1,x2,x3,x4,x5] T (0,0)):=by
 have h0:=heap_setCell_same (i:=0) x0 h
 have h1:=heap_setCell_same (i:=1) x1 h0
 have h2:=heap_setCell_same (i:=2) x2 h1
 have h3:=heap_setCell_same (i:=3) x3 h2
 have h4:=heap_setCell_same (i:=4) x4 h3
 have h5:=heap_setCell_same (i:=5) x5 h4
 simpa using h5
theorem six_below {w W:World}{b B:Nat}(h:Below B w W)(hb:B≤b)(x0 x1 x2 x3 x4 x5:Value) :
  Below B w ((((((W.setCell ⟨b,0,none⟩ x0).setCell ⟨b,1,none⟩ x1).setCell ⟨b,2,none⟩ x2).setCell ⟨b,3,none⟩ x3).setCell ⟨b,4,none⟩ x4).setCell ⟨b,5,none⟩ x5) :=
 (((((h.setCell (p:=⟨b,0,none⟩) hb x0).setCell (p:=⟨b,1,none⟩) hb x1).setCell (p:=⟨b,2,none⟩) hb x2).setCell (p:=⟨b,3,none⟩) hb x3).setCell (p:=⟨b,4,none⟩) hb x4).setCell (p:=⟨b,5,none⟩) hb x5
theorem six_cells {W:World}{b:Nat}{c0 c1 c2 c3 c4 c5:Value}{T:TypeId}(h:W.heap[b]?=some (.cells #[c0,c1,c2,c3,c4,c5] T (0,0))) :
  W.cell? ⟨b,0,none⟩=some c0∧W.cell? ⟨b,1,none⟩=some c1∧W.cell? ⟨b,2,none⟩=some c2∧W.cell? ⟨b,3,none⟩=some c3∧W.cell? ⟨b,4,none⟩=some c4∧W.cell? ⟨b,5,none⟩=some c5 :=
 ⟨cell_of_row W _ 0 _ _ _ h,cell_of_row W _ 1 _ _ _ h,cell_of_row W _ 2 _ _ _ h,cell_of_row W _ 3 _ _ _ h,cell_of_row W _ 4 _ _ _ h,cell_of_row W _ 5 _ _ _ h⟩
theorem four_heap {W:World}{b:Nat}{c0 c1 c2 c3:Value}{T:TypeId}(h:W.heap[b]?=some (.cells #[c0,c1,c2,c3] T (0,0)))(x0 x1 x2 x3:Value) :
  ((((W.setCell ⟨b,0,none⟩ x0).setCell ⟨b,1,none⟩ x1).setCell ⟨b,2,none⟩ x2).setCell ⟨b,3,none⟩ x3).heap[b]?=some (.cells #[x0,x1,x2,x3] T (0,0)):=by
 have h0:=heap_setCell_same (i:=0) x0 h
 have h1:=heap_setCell_same (i:=1) x1 h0
 have h2:=heap_setCell_same (i:=2) x2 h1
 have h3:=heap_setCell_same (i:=3) x3 h2
 simpa using h3
theorem four_below {w W:World}{b B:Nat}(h:Below B w W)(hb:B≤b)(x0 x1 x2 x3:Value) :
  Below B w ((((W.setCell ⟨b,0,none⟩ x0).setCell ⟨b,1,none⟩ x1).setCell ⟨b,2,none⟩ x2).setCell ⟨b,3,none⟩ x3) :=
 (((h.setCell (p:=⟨b,0,none⟩) hb x0).setCell (p:=⟨b,1,none⟩) hb x1).setCell (p:=⟨b,2,none⟩) hb x2).setCell (p:=⟨b,3,none⟩) hb x3
theorem four_grownT (W:World)(b:Nat)(x0 x1 x2 x3:Value):W.grownBy ((((W.setCell ⟨b,0,none⟩ x0).setCell ⟨b,1,none⟩ x1).setCell ⟨b,2,none⟩ x2).setCell ⟨b,3,none⟩ x3) (some b) :=
 grown_setCell (grown_setCell (grown_setCell (grown_setCell (grown_refl _ _) ⟨b,0,none⟩ (.inl rfl) _) ⟨b,1,none⟩ (.inl rfl) _) ⟨b,2,none⟩ (.inl rfl) _) ⟨b,3,none⟩ (.inl rfl) _
theorem fourT_cells {W:World}{b:Nat}{c0 c1 c2 c3:Value}{T:TypeId}(h:W.heap[b]?=some (.cells #[c0,c1,c2,c3] T (0,0))) :
  W.cell? ⟨b,0,none⟩=some c0∧W.cell? ⟨b,1,none⟩=some c1∧W.cell? ⟨b,2,none⟩=some c2∧W.cell? ⟨b,3,none⟩=some c3 :=
 ⟨cell_of_row W _ 0 _ _ _ h,cell_of_row W _ 1 _ _ _ h,cell_of_row W _ 2 _ _ _ h,cell_of_row W _ 3 _ _ _ h⟩
def keysN (k:Nat):List ByteArray:=(List.range k).map fun i:Nat=>keyW (i:Int)
theorem keysN_snoc (k:Nat):keysN (k+1)=keysN k++[keyW (k:Int)]:=by
 unfold keysN
 rw[List.range_succ,List.map_append]
 rfl
theorem keysN_len (k:Nat):(keysN k).length=k:=by
 unfold keysN
 rw[List.length_map,List.length_range]
set_option maxHeartbeats 2000000 in
set_option maxRecDepth 100000 in
theorem keys15_any (w:World):Calls Tryz.prog 10 #[] w fun e w'=>∃ v,e=.returned v∧OwnS w' w.heap.size v (keysN 10)∧Below w.heap.size w w':=by
 have HO0:Hid (OwnS w w.heap.size (.slice none 0 0) (keysN 0)):=zh (OwnE.nil _ _ _ _)
 go_enter Tryz.func10,Tryz.ntmps10
 go_wp2
 go_loopw [1,2] (fun v i wr=>∃ k:Nat,k≤10∧i=.int .i64 k∧Hid (OwnS wr w.heap.size v (keysN k))∧Hid (Below w.heap.size w wr)) (fun _ i _=>10 - (intOf i).toNat)
 case atStart=>exact⟨0,by omega,rfl,HO0,zh br0⟩
 case round =>
  clear HO0
  obtain⟨k,hk,rfl,hO,hB⟩:=hrel
  by_cases hlt:k < 10
  ·have tk:(k:Int) < 10:=by omega
   have HK:=zh (fun W=>key15_any k (by omega) W)
   have HS:=zh (keysN_snoc k)
   have HL:Hid ((keysN k).length≤100000):=zh (by rw[keysN_len];omega)
   generalize keyW (k:Int)=KW at *
   generalize keysN k=X at *
   go_wp2_with (first | (go_at_call 5;(with_reducible refine(HK.out _).mono ?_);rintro e w2 ⟨rfl,hb2⟩;have HB2:=zh (q_next hB.out hb2);have HO2:=zh (OwnE.alloc (OwnE.far hO.out hb2 (Nat.le_refl _)) (.cells #[.string KW] 9));have HBA:=zh (HB2.out.alloc HB2.out.size (.cells #[.string KW] 9));have HNA:=zh (heap_alloc_new w2 (.cells #[.string KW] 9));clear hb2) | (at_builtin;refine wpList_append_str _ _ w.heap.size _ X w2.heap.size KW _ HO2.out HL.out HBA.out.size HNA.out rfl rfl rfl rfl ?_;intro v3 w3 hown3 hgr3;have HO3:=zh hown3;have HB3:=zh (HBA.out.grown hgr3 HBA.out.size (fun j e=>OwnE.ge HO2.out j e));clear hown3 hgr3))
   go_roundw
   case rel=>exact⟨k+1,by omega,by go_num,zh (by rw[HS.out];exact HO3.out),HB3⟩
   case measure=>simp[intOf];omega
  ·obtain rfl:k=10:=by omega
   go_wp2
   go_ret
   exact⟨_,rfl,hO.out,hB.out⟩
/-! ### Rules -/
def ruleI (x:Int):Int:=if pickI (x.tdiv 16) 4=3 then 1+pickI x 86400 else 1+pickI x 12
theorem ruleI_range (x:Int):1≤ruleI x∧ruleI x≤86400:=by
 have h1:=pickI_range x (show(0:Int) < 86400 by omega)
 have h2:=pickI_range x (show(0:Int) < 12 by omega)
 unfold ruleI
 split <;> omega
theorem tdiv16 {x:Int}(h:I64 x):I64 (x.tdiv 16):=by
 obtain⟨h1,h2⟩:=h
 have e:x.tdiv 16=if 0≤x then x / 16 else -((-x) / 16):=by
  by_cases h:0≤x
  ·rw[if_pos h,Int.tdiv_eq_ediv_of_nonneg h]
  ·rw[if_neg h]
   have h3:x=-(-x):=by omega
   rw[h3,Int.neg_tdiv,Int.tdiv_eq_ediv_of_nonneg (by omega)]
   simp
 rw[e]
 unfold I64
 split <;> omega
theorem infoRules:(Tryz.prog.info? 53).map (·.size)=some 4:=by kernel_rfl
theorem infoChain:(Tryz.prog.info? 58).map (·.size)=some 8:=by kernel_rfl
theorem infoTport:(Tryz.prog.info? 36).map (·.size)=some 16:=by kernel_rfl
set_option maxHeartbeats 400000 in
theorem isKeyW_any (s:ByteArray)(w:World):Calls Tryz.prog 21 #[.string s] w fun e w'=>e=.returned (.bool (isDig s))∧w=w':=by
 go_enter Tryz.func21,Tryz.ntmps21
 go_wp2
 go_ret
 refine⟨ret_bool ?_,rfl⟩
 unfold isDig
 rw[Bool.eq_iff_iff]
 simp
 try omega
theorem why1_fn:PredFn 98 (fun s=>!isDig s):=by
 refine⟨fun _ _=>by kernel_rfl,fun s w=>?_⟩
 go_enter Tryz.func98,Tryz.ntmps98
 go_wp2_with (go_at_call 21;refine(isKeyW_any s _).mono ?_;rintro e w1 ⟨rfl,rfl⟩)
 go_ret
 exact⟨rfl,rfl⟩
theorem keysN_any (k:Nat):(keysN k).any (fun s=>!isDig s)=false:=by
 rw[List.any_eq_false]
 intro s hs
 unfold keysN at hs
 obtain⟨i,-,rfl⟩:=List.mem_map.1 hs
 have h:=keyW_size (i:Int)
 unfold isDig
 simp[h]
theorem keysBad_no {w:World}{v:Value}{k:Nat}(hr:SS w v (keysN k)) :
  Calls Tryz.prog 99 #[v,.func (.func 98) #[] #[]] w fun e w'=>e=.returned (.bool false)∧w=w':=by
 have h:=containsS_any 98 _ why1_fn hr
 rw[keysN_any]at h
 exact h
theorem keysN_at {k i:Nat}(h:i < k):(keysN k)[i]?=some (keyW (i:Int)):=by
 unfold keysN
 rw[List.getElem?_map,List.getElem?_range h]
 rfl
end Go.Proofs.YtjjiikeldpjafaaGreatDoor
