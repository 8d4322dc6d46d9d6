/- Walk of package quorum: Blame at two lists that have an element. The conditions: what the slices read as, the table of constants. -/
import Derived.Test.YtggdcnjaofflbaaGreatDoorMM16
namespace Go.Proofs.YtggdcnjaofflbaaGreatDoor
open Go.RowKit Go.BigFrame
theorem blameV_bad {ks:List ByteArray}{v u:VoteP}{ta tb:List VoteP}(h:¬ ((v.num=u.num∧v.stp=u.stp)∧v.val≠u.val∧checkV ks v.num v.stp v.val (v::ta)=true∧checkV ks u.num u.stp u.val (u::tb)=true)):blameV ks (v::ta) (u::tb)=none:=by
 unfold blameV
 simp only
 rw[if_neg h]
theorem VAt.cells0 {W:World}{b o:Nat}{v:VoteP}(h:VAt W b (o+0*5) v):W.cell? ⟨b,o,none⟩=some (.int .i64 v.car)∧W.cell? ⟨b,o+1,none⟩=some (.int .i64 v.num)∧W.cell? ⟨b,o+2,none⟩=some (.int .i64 v.stp)∧W.cell? ⟨b,o+3,none⟩=some (.string v.val)∧W.cell? ⟨b,o+4,none⟩=some (.string v.sl):=by
 rw[Nat.zero_mul,Nat.add_zero]at h
 exact h
set_option maxHeartbeats 16000000 in
set_option maxRecDepth 100000 in
theorem blame_bad {w:World}{kv x y:Value}{ks:List ByteArray}{v u:VoteP}{ta tb:List VoteP}(hr:SS w kv ks)(ha:VS w x (v::ta))(hb:VS w y (u::tb))(he:Env w)(hg:3 < w.heap.size)
  (hbad:¬ ((v.num=u.num∧v.stp=u.stp)∧v.val≠u.val∧checkV ks v.num v.stp v.val (v::ta)=true∧checkV ks u.num u.stp u.val (u::tb)=true)) :
  Calls Tryz.prog 31 #[.agg #[kv],x,y] w (BlameIs w (blameV ks (v::ta) (u::tb))):=by
 obtain⟨ka,kn,kc,rfl⟩:∃ a n c,kv=.slice a n c:=by obtain⟨a,c,h,_⟩:=hr.opened;exact⟨_,_,_,h⟩
 obtain⟨aa,ac,rfl,al1,al2,al3⟩:=ha.opened
 obtain⟨ba,bc,rfl,bl1,bl2,bl3⟩:=hb.opened
 obtain⟨ab,ao,rfl,hab,hac⟩:=al3 0 v rfl
 obtain⟨bb,bo,rfl,hbb,hbc⟩:=bl3 0 u rfl
 have HN:=zh (blameV_bad hbad)
 obtain⟨W1,hW1⟩:∃ W1,W1=w.alloc (.cells #[.slice ka kn kc] 31):=⟨_,rfl⟩
 have HB1:Hid (Below w.heap.size w W1):=zh (by rw[hW1];exact br0.alloc (Nat.le_refl _) _)
 have HH1:Hid (W1.heap[w.heap.size]?=some (.cells #[.slice ka kn kc] 31 (0,0))):=zh (by rw[hW1];exact heap_alloc_new w _)
 have HC1:Hid (∀ W,Below W1.heap.size W1 W→W.cell? ⟨w.heap.size,0,none⟩=some (.slice ka kn kc)∧(W.cell? ⟨ab,ao,none⟩=some (.int .i64 v.car)∧W.cell? ⟨ab,ao+1,none⟩=some (.int .i64 v.num)∧W.cell? ⟨ab,ao+2,none⟩=some (.int .i64 v.stp)∧W.cell? ⟨ab,ao+3,none⟩=some (.string v.val)∧W.cell? ⟨ab,ao+4,none⟩=some (.string v.sl))∧(W.cell? ⟨bb,bo,none⟩=some (.int .i64 u.car)∧W.cell? ⟨bb,bo+1,none⟩=some (.int .i64 u.num)∧W.cell? ⟨bb,bo+2,none⟩=some (.int .i64 u.stp)∧W.cell? ⟨bb,bo+3,none⟩=some (.string u.val)∧W.cell? ⟨bb,bo+4,none⟩=some (.string u.sl))):=zh (fun W hW =>
  ⟨cell_of_row W _ 0 _ _ _ ((hW.block _ (ltA HH1.out)).trans HH1.out),(VAt.keep hac (q_next HB1.out hW) hab).cells0,(VAt.keep hbc (q_next HB1.out hW) hbb).cells0⟩)
 have HKA:Hid (∀ W,Below w.heap.size w W→Calls Tryz.prog 39 #[.agg #[.slice ka kn kc],.agg #[.int .i64 v.num,.int .i64 v.stp],.string v.val,.slice (some ⟨ab,ao,none⟩) (v::ta).length ac] W fun e w'=>e=.returned (.bool (checkV ks v.num v.stp v.val (v::ta)))∧Below W.heap.size W w'):=zh (fun W hW=>qcheck_any (hr.below hW) (ha.below hW) _ _ _ (he.below hW hg) (Nat.lt_of_lt_of_le hg hW.size))
 have HKB:Hid (∀ W,Below w.heap.size w W→Calls Tryz.prog 39 #[.agg #[.slice ka kn kc],.agg #[.int .i64 u.num,.int .i64 u.stp],.string u.val,.slice (some ⟨bb,bo,none⟩) (u::tb).length bc] W fun e w'=>e=.returned (.bool (checkV ks u.num u.stp u.val (u::tb)))∧Below W.heap.size W w'):=zh (fun W hW=>qcheck_any (hr.below hW) (hb.below hW) _ _ _ (he.below hW hg) (Nat.lt_of_lt_of_le hg hW.size))
 have HW1:=zh hW1
 have hsl:=fun X=>neqSlot v.num v.stp u.num u.stp X
 have hst:=same_str v.val u.val
 have hna:(((v::ta).length:Int) == 0)=false:=by simp;omega
 have hnb:(((u::tb).length:Int) == 0)=false:=by simp;omega
 have hpa:0 < (v::ta).length:=by simp
 have hpb:0 < (u::tb).length:=by simp
 obtain⟨D2,hD2⟩:∃ D2,D2=decide (v.num=u.num∧v.stp=u.stp):=⟨_,rfl⟩
 obtain⟨D3,hD3⟩:∃ D3,D3=decide (v.val=u.val):=⟨_,rfl⟩
 obtain⟨D4,hD4⟩:∃ D4,D4=checkV ks v.num v.stp v.val (v::ta):=⟨_,rfl⟩
 obtain⟨D5,hD5⟩:∃ D5,D5=checkV ks u.num u.stp u.val (u::tb):=⟨_,rfl⟩
 have hd:D2=false∨(D2=true∧D3=true)∨(D2=true∧D3=false∧D4=false)∨(D2=true∧D3=false∧D4=true∧D5=false):=by
  cases h2:D2
  ·exact .inl rfl
  ·cases h3:D3
   ·cases h4:D4
    ·exact .inr (.inr (.inl ⟨rfl,rfl,rfl⟩))
    ·cases h5:D5
     ·exact .inr (.inr (.inr ⟨rfl,rfl,rfl,rfl⟩))
     ·exact absurd ⟨of_decide_eq_true (hD2.symm.trans h2),of_decide_eq_false (hD3.symm.trans h3),hD4.symm.trans h4,hD5.symm.trans h5⟩ hbad
   ·exact .inr (.inl ⟨rfl,rfl⟩)
 rw[← hD2]at hsl
 rw[← hD3]at hst
 rw[← hD4]at HKA
 rw[← hD5]at HKB
 clear hD2 hD3 hD4 hD5 hbad hr ha hb he hg al3 bl3 hac hbc hW1 HH1 al1 al2 bl1 bl2 hab hbb
 generalize (v::ta).length=na at *
 generalize (u::tb).length=nb at *
 have hpa':(0:Int) < (na:Int):=by omega
 have hpb':(0:Int) < (nb:Int):=by omega
 generalize hBV:blameV ks (v::ta) (u::tb)=RES at *
 have HBV:=zh hBV
 clear hBV
 obtain⟨vc,vn,vs,vv,vl⟩:=v
 obtain⟨uc,un,us,uv,ul⟩:=u
 simp only at HC1 HKA HKB hsl hst
 rcases hd with rfl | ⟨rfl,rfl⟩ | ⟨rfl,rfl,rfl⟩ | ⟨rfl,rfl,rfl,rfl⟩
 ·go_enter Tryz.func31,Tryz.ntmps31
  go_upto_region 1 with fail
  rw[← HW1.out]
  refine wp_region_noPanic ?_
  refine wp_region_lexB [.q 0,.q 1,.q 2,.q 3,.q 4,.q 5,.q 6,.q 7,.q 8,.q 9,.q 10,.q 11,.q 12,.q 13,.q 14,.q 15,.q 16,.q 17,.q 18,.q 19,.q 20,.q 21,.q 22,.q 23,.q 24,.q 25,.q 26,.q 27,.q 28,.q 29,.q 30,.q 31,.q 32,.q 33,.q 34,.q 35,.q 36,.q 37,.q 38,.q 39,.q 40,.q 41,.q 42,.q 43,.q 44,.q 45,.q 46,.q 47,.q 48,.q 49,.q 50,.q 51,.q 52,.q 53,.q 54,.q 55,.q 56,.q 57] (by kernel_rfl) (by kernel_rfl) (fun _ _ _ _ h=>h) ?_
  iterate 4(refine wpFl_qL (v:=?_) rfl (Or.inl ⟨by rfl,?_⟩) ?_;rotate_left;(focus(intro w' hSw;obtain⟨k0,⟨a0,a1,a2,a3,a4⟩,b0,b1,b2,b3,b4⟩:=HC1.out w' hSw;go_simp;(try with_reducible rfl);done));simp only[Act.put,zzA,zzB,zzC])
  iterate 3(refine wpFl_qL (v:=?_) rfl (Or.inl ⟨by rfl,?_⟩) ?_;rotate_left;(focus(intro w' hSw;obtain⟨k0,⟨a0,a1,a2,a3,a4⟩,b0,b1,b2,b3,b4⟩:=HC1.out w' hSw;go_simp;(try with_reducible rfl);done));simp only[Act.put,zzA,zzB,zzC])
  refine wpFl_qL (v:=?_) rfl (Or.inl ⟨by rfl,?_⟩) ?_
  rotate_left
  focus(intro w' hSw;go_simp;(try with_reducible rfl);done)
  simp only[Act.put,zzA,zzB,zzC]
  refine wpFl_qL (v:=?_) rfl (Or.inl ⟨by rfl,?_⟩) ?_
  rotate_left
  focus(intro w' hSw;go_simp;(try with_reducible rfl);done)
  simp only[Act.put,zzA,zzB,zzC]
  iterate 9(refine wpFl_qL (v:=?_) rfl (Or.inl ⟨by rfl,?_⟩) ?_;rotate_left;(focus(intro w' hSw;obtain⟨k0,⟨a0,a1,a2,a3,a4⟩,b0,b1,b2,b3,b4⟩:=HC1.out w' hSw;go_simp;(try with_reducible rfl);done));simp only[Act.put,zzA,zzB,zzC])
  refine wpFl_qL (v:=?_) rfl (Or.inl ⟨by rfl,?_⟩) ?_
  rotate_left
  focus(intro w' hSw;go_simp;(try with_reducible rfl);done)
  simp only[Act.put,zzA,zzB,zzC]
  refine wpFl_qL (v:=?_) rfl (Or.inl ⟨by rfl,?_⟩) ?_
  rotate_left
  focus(intro w' hSw;go_simp;(try with_reducible rfl);done)
  simp only[Act.put,zzA,zzB,zzC]
  iterate 9(refine wpFl_qL (v:=undef) rfl (Or.inr ⟨by rfl,rfl⟩) ?_;simp only[Act.put,zzA,zzB,zzC])
  refine wpFl_qL (v:=?_) rfl (Or.inl ⟨by rfl,?_⟩) ?_
  rotate_left
  focus(intro w' hSw;go_simp;(try with_reducible rfl);done)
  simp only[Act.put,zzA,zzB,zzC]
  refine wpFl_qL (v:=?_) rfl (Or.inl ⟨by rfl,?_⟩) ?_
  rotate_left
  focus(intro w' hSw;go_simp;(try with_reducible rfl);done)
  simp only[Act.put,zzA,zzB,zzC]
  iterate 12(refine wpFl_qL (v:=undef) rfl (Or.inr ⟨by rfl,rfl⟩) ?_;simp only[Act.put,zzA,zzB,zzC])
  refine wpFl_qL (v:=?_) rfl (Or.inl ⟨by rfl,?_⟩) ?_
  rotate_left
  focus(intro w' hSw;go_simp;(try with_reducible rfl);done)
  simp only[Act.put,zzA,zzB,zzC]
  refine wpFl_qL (v:=?_) rfl (Or.inl ⟨by rfl,?_⟩) ?_
  rotate_left
  focus(intro w' hSw;go_simp;(try with_reducible rfl);done)
  simp only[Act.put,zzA,zzB,zzC]
  iterate 12(refine wpFl_qL (v:=undef) rfl (Or.inr ⟨by rfl,rfl⟩) ?_;simp only[Act.put,zzA,zzB,zzC])
  refine wpFl_qL (v:=?_) rfl (Or.inl ⟨by rfl,?_⟩) ?_
  rotate_left
  focus(intro w' hSw;go_simp;(try with_reducible rfl);done)
  simp only[Act.put,zzA,zzB,zzC]
  refine wpFl_nil ?_
  refine NoPanic.normal ?_
  go_wp2
  go_ret2
  rw[HN.out]
  exact blameIs_none rfl (q_next HB1.out (Below.drew br0))
 ·go_enter Tryz.func31,Tryz.ntmps31
  go_upto_region 1 with fail
  rw[← HW1.out]
  refine wp_region_noPanic ?_
  refine wp_region_lexB [.q 0,.q 1,.q 2,.q 3,.q 4,.q 5,.q 6,.q 7,.q 8,.q 9,.q 10,.q 11,.q 12,.q 13,.q 14,.q 15,.q 16,.q 17,.q 18,.q 19,.q 20,.q 21,.q 22,.q 23,.q 24,.q 25,.q 26,.q 27,.q 28,.q 29,.q 30,.q 31,.q 32,.q 33,.q 34,.q 35,.q 36,.q 37,.q 38,.q 39,.q 40,.q 41,.q 42,.q 43,.q 44,.q 45,.q 46,.q 47,.q 48,.q 49,.q 50,.q 51,.q 52,.q 53,.q 54,.q 55,.q 56,.q 57] (by kernel_rfl) (by kernel_rfl) (fun _ _ _ _ h=>h) ?_
  iterate 4(refine wpFl_qL (v:=?_) rfl (Or.inl ⟨by rfl,?_⟩) ?_;rotate_left;(focus(intro w' hSw;obtain⟨k0,⟨a0,a1,a2,a3,a4⟩,b0,b1,b2,b3,b4⟩:=HC1.out w' hSw;go_simp;(try with_reducible rfl);done));simp only[Act.put,zzA,zzB,zzC])
  iterate 3(refine wpFl_qL (v:=?_) rfl (Or.inl ⟨by rfl,?_⟩) ?_;rotate_left;(focus(intro w' hSw;obtain⟨k0,⟨a0,a1,a2,a3,a4⟩,b0,b1,b2,b3,b4⟩:=HC1.out w' hSw;go_simp;(try with_reducible rfl);done));simp only[Act.put,zzA,zzB,zzC])
  refine wpFl_qL (v:=?_) rfl (Or.inl ⟨by rfl,?_⟩) ?_
  rotate_left
  focus(intro w' hSw;go_simp;(try with_reducible rfl);done)
  simp only[Act.put,zzA,zzB,zzC]
  refine wpFl_qL (v:=?_) rfl (Or.inl ⟨by rfl,?_⟩) ?_
  rotate_left
  focus(intro w' hSw;go_simp;(try with_reducible rfl);done)
  simp only[Act.put,zzA,zzB,zzC]
  iterate 9(refine wpFl_qL (v:=?_) rfl (Or.inl ⟨by rfl,?_⟩) ?_;rotate_left;(focus(intro w' hSw;obtain⟨k0,⟨a0,a1,a2,a3,a4⟩,b0,b1,b2,b3,b4⟩:=HC1.out w' hSw;go_simp;(try with_reducible rfl);done));simp only[Act.put,zzA,zzB,zzC])
  refine wpFl_qL (v:=?_) rfl (Or.inl ⟨by rfl,?_⟩) ?_
  rotate_left
  focus(intro w' hSw;go_simp;(try with_reducible rfl);done)
  simp only[Act.put,zzA,zzB,zzC]
  refine wpFl_qL (v:=?_) rfl (Or.inl ⟨by rfl,?_⟩) ?_
  rotate_left
  focus(intro w' hSw;go_simp;(try with_reducible rfl);done)
  simp only[Act.put,zzA,zzB,zzC]
  iterate 9(refine wpFl_qL (v:=?_) rfl (Or.inl ⟨by rfl,?_⟩) ?_;rotate_left;(focus(intro w' hSw;obtain⟨k0,⟨a0,a1,a2,a3,a4⟩,b0,b1,b2,b3,b4⟩:=HC1.out w' hSw;go_simp;(try with_reducible rfl);done));simp only[Act.put,zzA,zzB,zzC])
  refine wpFl_qL (v:=?_) rfl (Or.inl ⟨by rfl,?_⟩) ?_
  rotate_left
  focus(intro w' hSw;go_simp;(try with_reducible rfl);done)
  simp only[Act.put,zzA,zzB,zzC]
  refine wpFl_qL (v:=?_) rfl (Or.inl ⟨by rfl,?_⟩) ?_
  rotate_left
  focus(intro w' hSw;go_simp;(try with_reducible rfl);done)
  simp only[Act.put,zzA,zzB,zzC]
  iterate 12(refine wpFl_qL (v:=undef) rfl (Or.inr ⟨by rfl,rfl⟩) ?_;simp only[Act.put,zzA,zzB,zzC])
  refine wpFl_qL (v:=?_) rfl (Or.inl ⟨by rfl,?_⟩) ?_
  rotate_left
  focus(intro w' hSw;go_simp;(try with_reducible rfl);done)
  simp only[Act.put,zzA,zzB,zzC]
  refine wpFl_qL (v:=?_) rfl (Or.inl ⟨by rfl,?_⟩) ?_
  rotate_left
  focus(intro w' hSw;go_simp;(try with_reducible rfl);done)
  simp only[Act.put,zzA,zzB,zzC]
  iterate 12(refine wpFl_qL (v:=undef) rfl (Or.inr ⟨by rfl,rfl⟩) ?_;simp only[Act.put,zzA,zzB,zzC])
  refine wpFl_qL (v:=?_) rfl (Or.inl ⟨by rfl,?_⟩) ?_
  rotate_left
  focus(intro w' hSw;go_simp;(try with_reducible rfl);done)
  simp only[Act.put,zzA,zzB,zzC]
  refine wpFl_nil ?_
  refine NoPanic.normal ?_
  go_wp2
  go_ret2
  rw[HN.out]
  exact blameIs_none rfl (q_next HB1.out (Below.drew br0))
 ·go_enter Tryz.func31,Tryz.ntmps31
  go_upto_region 1 with fail
  rw[← HW1.out]
  refine wp_region_noPanic ?_
  refine wp_region_lexB [.q 0,.q 1,.q 2,.q 3,.q 4,.q 5,.q 6,.q 7,.q 8,.q 9,.q 10,.q 11,.q 12,.q 13,.q 14,.q 15,.q 16,.q 17,.q 18,.q 19,.q 20,.q 21,.q 22,.q 23,.q 24,.q 25,.q 26,.q 27,.q 28,.q 29,.q 30,.q 31,.q 32,.q 33,.q 34,.q 35,.q 36,.q 37,.q 38,.q 39,.q 40,.b 41,.q 42,.q 43,.q 44,.q 45,.q 46,.q 47,.q 48,.q 49,.q 50,.q 51,.q 52,.q 53,.q 54,.q 55,.q 56,.q 57] (by kernel_rfl) (by kernel_rfl) (fun _ _ _ _ h=>h) ?_
  iterate 4(refine wpFl_qL (v:=?_) rfl (Or.inl ⟨by rfl,?_⟩) ?_;rotate_left;(focus(intro w' hSw;obtain⟨k0,⟨a0,a1,a2,a3,a4⟩,b0,b1,b2,b3,b4⟩:=HC1.out w' hSw;go_simp;(try with_reducible rfl);done));simp only[Act.put,zzA,zzB,zzC])
  iterate 3(refine wpFl_qL (v:=?_) rfl (Or.inl ⟨by rfl,?_⟩) ?_;rotate_left;(focus(intro w' hSw;obtain⟨k0,⟨a0,a1,a2,a3,a4⟩,b0,b1,b2,b3,b4⟩:=HC1.out w' hSw;go_simp;(try with_reducible rfl);done));simp only[Act.put,zzA,zzB,zzC])
  refine wpFl_qL (v:=?_) rfl (Or.inl ⟨by rfl,?_⟩) ?_
  rotate_left
  focus(intro w' hSw;go_simp;(try with_reducible rfl);done)
  simp only[Act.put,zzA,zzB,zzC]
  refine wpFl_qL (v:=?_) rfl (Or.inl ⟨by rfl,?_⟩) ?_
  rotate_left
  focus(intro w' hSw;go_simp;(try with_reducible rfl);done)
  simp only[Act.put,zzA,zzB,zzC]
  iterate 9(refine wpFl_qL (v:=?_) rfl (Or.inl ⟨by rfl,?_⟩) ?_;rotate_left;(focus(intro w' hSw;obtain⟨k0,⟨a0,a1,a2,a3,a4⟩,b0,b1,b2,b3,b4⟩:=HC1.out w' hSw;go_simp;(try with_reducible rfl);done));simp only[Act.put,zzA,zzB,zzC])
  refine wpFl_qL (v:=?_) rfl (Or.inl ⟨by rfl,?_⟩) ?_
  rotate_left
  focus(intro w' hSw;go_simp;(try with_reducible rfl);done)
  simp only[Act.put,zzA,zzB,zzC]
  refine wpFl_qL (v:=?_) rfl (Or.inl ⟨by rfl,?_⟩) ?_
  rotate_left
  focus(intro w' hSw;go_simp;(try with_reducible rfl);done)
  simp only[Act.put,zzA,zzB,zzC]
  iterate 9(refine wpFl_qL (v:=?_) rfl (Or.inl ⟨by rfl,?_⟩) ?_;rotate_left;(focus(intro w' hSw;obtain⟨k0,⟨a0,a1,a2,a3,a4⟩,b0,b1,b2,b3,b4⟩:=HC1.out w' hSw;go_simp;(try with_reducible rfl);done));simp only[Act.put,zzA,zzB,zzC])
  refine wpFl_qL (v:=?_) rfl (Or.inl ⟨by rfl,?_⟩) ?_
  rotate_left
  focus(intro w' hSw;go_simp;(try with_reducible rfl);done)
  simp only[Act.put,zzA,zzB,zzC]
  refine wpFl_qL (v:=?_) rfl (Or.inl ⟨by rfl,?_⟩) ?_
  rotate_left
  focus(intro w' hSw;go_simp;(try with_reducible rfl);done)
  simp only[Act.put,zzA,zzB,zzC]
  iterate 10(refine wpFl_qL (v:=?_) rfl (Or.inl ⟨by rfl,?_⟩) ?_;rotate_left;(focus(intro w' hSw;obtain⟨k0,⟨a0,a1,a2,a3,a4⟩,b0,b1,b2,b3,b4⟩:=HC1.out w' hSw;go_simp;(try with_reducible rfl);done));simp only[Act.put,zzA,zzB,zzC])
  refine wpFl_bL rfl (fun wa1 hna1 hsa1 K hK=>?_)
  go_simp
  go_at_call 39
  refine(HKA.out wa1 (q_next HB1.out hsa1)).mono ?_
  rintro e wb1 ⟨rfl,hb1⟩
  have HBC1:=zh (q_next hsa1 hb1)
  refine hK.out _ _ HBC1.out (Keeps.below hb1) ?_
  clear hK K hna1 hsa1 hb1
  refine wpFl_qL (v:=?_) rfl (Or.inl ⟨by rfl,?_⟩) ?_
  rotate_left
  focus(intro w' hSw;go_simp;(try with_reducible rfl);done)
  simp only[Act.put,zzA,zzB,zzC]
  refine wpFl_qL (v:=?_) rfl (Or.inl ⟨by rfl,?_⟩) ?_
  rotate_left
  focus(intro w' hSw;go_simp;(try with_reducible rfl);done)
  simp only[Act.put,zzA,zzB,zzC]
  refine wpFl_qL (v:=?_) rfl (Or.inl ⟨by rfl,?_⟩) ?_
  rotate_left
  focus(intro w' hSw;go_simp;(try with_reducible rfl);done)
  simp only[Act.put,zzA,zzB,zzC]
  iterate 12(refine wpFl_qL (v:=undef) rfl (Or.inr ⟨by rfl,rfl⟩) ?_;simp only[Act.put,zzA,zzB,zzC])
  refine wpFl_qL (v:=?_) rfl (Or.inl ⟨by rfl,?_⟩) ?_
  rotate_left
  focus(intro w' hSw;go_simp;(try with_reducible rfl);done)
  simp only[Act.put,zzA,zzB,zzC]
  refine wpFl_nil ?_
  refine NoPanic.normal ?_
  go_wp2
  go_ret2
  rw[HN.out]
  exact blameIs_none rfl (q_next HB1.out HBC1.out)
 ·go_enter Tryz.func31,Tryz.ntmps31
  go_upto_region 1 with fail
  rw[← HW1.out]
  refine wp_region_noPanic ?_
  refine wp_region_lexB [.q 0,.q 1,.q 2,.q 3,.q 4,.q 5,.q 6,.q 7,.q 8,.q 9,.q 10,.q 11,.q 12,.q 13,.q 14,.q 15,.q 16,.q 17,.q 18,.q 19,.q 20,.q 21,.q 22,.q 23,.q 24,.q 25,.q 26,.q 27,.q 28,.q 29,.q 30,.q 31,.q 32,.q 33,.q 34,.q 35,.q 36,.q 37,.q 38,.q 39,.q 40,.b 41,.q 42,.q 43,.q 44,.q 45,.q 46,.q 47,.q 48,.q 49,.q 50,.q 51,.q 52,.q 53,.q 54,.b 55,.q 56,.q 57] (by kernel_rfl) (by kernel_rfl) (fun _ _ _ _ h=>h) ?_
  iterate 4(refine wpFl_qL (v:=?_) rfl (Or.inl ⟨by rfl,?_⟩) ?_;rotate_left;(focus(intro w' hSw;obtain⟨k0,⟨a0,a1,a2,a3,a4⟩,b0,b1,b2,b3,b4⟩:=HC1.out w' hSw;go_simp;(try with_reducible rfl);done));simp only[Act.put,zzA,zzB,zzC])
  iterate 3(refine wpFl_qL (v:=?_) rfl (Or.inl ⟨by rfl,?_⟩) ?_;rotate_left;(focus(intro w' hSw;obtain⟨k0,⟨a0,a1,a2,a3,a4⟩,b0,b1,b2,b3,b4⟩:=HC1.out w' hSw;go_simp;(try with_reducible rfl);done));simp only[Act.put,zzA,zzB,zzC])
  refine wpFl_qL (v:=?_) rfl (Or.inl ⟨by rfl,?_⟩) ?_
  rotate_left
  focus(intro w' hSw;go_simp;(try with_reducible rfl);done)
  simp only[Act.put,zzA,zzB,zzC]
  refine wpFl_qL (v:=?_) rfl (Or.inl ⟨by rfl,?_⟩) ?_
  rotate_left
  focus(intro w' hSw;go_simp;(try with_reducible rfl);done)
  simp only[Act.put,zzA,zzB,zzC]
  iterate 9(refine wpFl_qL (v:=?_) rfl (Or.inl ⟨by rfl,?_⟩) ?_;rotate_left;(focus(intro w' hSw;obtain⟨k0,⟨a0,a1,a2,a3,a4⟩,b0,b1,b2,b3,b4⟩:=HC1.out w' hSw;go_simp;(try with_reducible rfl);done));simp only[Act.put,zzA,zzB,zzC])
  refine wpFl_qL (v:=?_) rfl (Or.inl ⟨by rfl,?_⟩) ?_
  rotate_left
  focus(intro w' hSw;go_simp;(try with_reducible rfl);done)
  simp only[Act.put,zzA,zzB,zzC]
  refine wpFl_qL (v:=?_) rfl (Or.inl ⟨by rfl,?_⟩) ?_
  rotate_left
  focus(intro w' hSw;go_simp;(try with_reducible rfl);done)
  simp only[Act.put,zzA,zzB,zzC]
  iterate 9(refine wpFl_qL (v:=?_) rfl (Or.inl ⟨by rfl,?_⟩) ?_;rotate_left;(focus(intro w' hSw;obtain⟨k0,⟨a0,a1,a2,a3,a4⟩,b0,b1,b2,b3,b4⟩:=HC1.out w' hSw;go_simp;(try with_reducible rfl);done));simp only[Act.put,zzA,zzB,zzC])
  refine wpFl_qL (v:=?_) rfl (Or.inl ⟨by rfl,?_⟩) ?_
  rotate_left
  focus(intro w' hSw;go_simp;(try with_reducible rfl);done)
  simp only[Act.put,zzA,zzB,zzC]
  refine wpFl_qL (v:=?_) rfl (Or.inl ⟨by rfl,?_⟩) ?_
  rotate_left
  focus(intro w' hSw;go_simp;(try with_reducible rfl);done)
  simp only[Act.put,zzA,zzB,zzC]
  iterate 10(refine wpFl_qL (v:=?_) rfl (Or.inl ⟨by rfl,?_⟩) ?_;rotate_left;(focus(intro w' hSw;obtain⟨k0,⟨a0,a1,a2,a3,a4⟩,b0,b1,b2,b3,b4⟩:=HC1.out w' hSw;go_simp;(try with_reducible rfl);done));simp only[Act.put,zzA,zzB,zzC])
  refine wpFl_bL rfl (fun wa1 hna1 hsa1 K hK=>?_)
  go_simp
  go_at_call 39
  refine(HKA.out wa1 (q_next HB1.out hsa1)).mono ?_
  rintro e wb1 ⟨rfl,hb1⟩
  have HBC1:=zh (q_next hsa1 hb1)
  refine hK.out _ _ HBC1.out (Keeps.below hb1) ?_
  clear hK K hna1 hsa1 hb1
  refine wpFl_qL (v:=?_) rfl (Or.inl ⟨by rfl,?_⟩) ?_
  rotate_left
  focus(intro w' hSw;go_simp;(try with_reducible rfl);done)
  simp only[Act.put,zzA,zzB,zzC]
  refine wpFl_qL (v:=?_) rfl (Or.inl ⟨by rfl,?_⟩) ?_
  rotate_left
  focus(intro w' hSw;go_simp;(try with_reducible rfl);done)
  simp only[Act.put,zzA,zzB,zzC]
  refine wpFl_qL (v:=?_) rfl (Or.inl ⟨by rfl,?_⟩) ?_
  rotate_left
  focus(intro w' hSw;go_simp;(try with_reducible rfl);done)
  simp only[Act.put,zzA,zzB,zzC]
  iterate 10(refine wpFl_qL (v:=?_) rfl (Or.inl ⟨by rfl,?_⟩) ?_;rotate_left;(focus(intro w' hSw;obtain⟨k0,⟨a0,a1,a2,a3,a4⟩,b0,b1,b2,b3,b4⟩:=HC1.out w' hSw;go_simp;(try with_reducible rfl);done));simp only[Act.put,zzA,zzB,zzC])
  refine wpFl_bL rfl (fun wa2 hna2 hsa2 K hK=>?_)
  go_simp
  go_at_call 39
  refine(HKB.out wa2 (q_next HB1.out hsa2)).mono ?_
  rintro e wb2 ⟨rfl,hb2⟩
  have HBC2:=zh (q_next hsa2 hb2)
  refine hK.out _ _ HBC2.out (Keeps.below hb2) ?_
  clear hK K hna2 hsa2 hb2
  refine wpFl_qL (v:=?_) rfl (Or.inl ⟨by rfl,?_⟩) ?_
  rotate_left
  focus(intro w' hSw;go_simp;(try with_reducible rfl);done)
  simp only[Act.put,zzA,zzB,zzC]
  refine wpFl_qL (v:=?_) rfl (Or.inl ⟨by rfl,?_⟩) ?_
  rotate_left
  focus(intro w' hSw;go_simp;(try with_reducible rfl);done)
  simp only[Act.put,zzA,zzB,zzC]
  refine wpFl_nil ?_
  refine NoPanic.normal ?_
  go_wp2
  go_ret2
  rw[HN.out]
  exact blameIs_none rfl (q_next HB1.out HBC2.out)
end Go.Proofs.YtggdcnjaofflbaaGreatDoor
