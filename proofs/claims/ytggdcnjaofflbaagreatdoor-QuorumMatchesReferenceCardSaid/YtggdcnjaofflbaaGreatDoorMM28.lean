/- Walk of the reference: Blame, where it says nothing. The conditions: lengths. -/
import Derived.Test.YtggdcnjaofflbaaGreatDoorMM23
namespace Go.Proofs.YtggdcnjaofflbaaGreatDoor
open Go.RowKit Go.BigFrame
set_option maxHeartbeats 8000000 in
set_option maxRecDepth 100000 in
theorem rblame_short {w:World}{kv x y:Value}{ks:List ByteArray}{a b:List VoteP}(ha:VS w x a)(hb:VS w y b)(hk:∃ p n c,kv=.slice p n c)(h:a=[]∨b=[]) :
  Calls Tryz.prog 32 #[.agg #[kv],x,y] w (BlameIs w (blameV ks a b)):=by
 obtain⟨ka,kn,kc,rfl⟩:=hk
 obtain⟨aa,ac,rfl,_,_,_⟩:=ha.opened
 obtain⟨ba,bc,rfl,_,_,_⟩:=hb.opened
 have HN:Hid (blameV ks a b=none):=zh (by
  rcases h with h | h
  ·subst h;rfl
  ·subst h;exact blameV_nil2 _ _)
 obtain⟨W1,hW1⟩:∃ W1,W1=w.alloc (.cells #[.slice ka kn kc] 31):=⟨_,rfl⟩
 have HB1:Hid (Below w.heap.size w W1):=zh (by rw[hW1];exact br0.alloc (Nat.le_refl _) _)
 have HW1:=zh hW1
 have hcase:(a.length=0)∨(a.length≠0∧b.length=0):=by
  rcases h with h | h
  ·exact .inl (by rw[h];rfl)
  ·by_cases e:a.length=0
   ·exact .inl e
   ·exact .inr ⟨e,by rw[h];rfl⟩
 clear ha hb h hW1
 generalize a.length=na at *
 generalize b.length=nb at *
 rcases hcase with rfl | ⟨hna,rfl⟩
 ·go_enter Tryz.func32,Tryz.ntmps32
  go_upto_region 1 with fail
  rw[← HW1.out]
  refine wp_region_noPanic ?_
  refine wp_region_lexB [.q 0,.q 1,.q 2,.q 3,.q 4,.q 5,.q 6,.q 7,.q 8,.q 9,.q 10,.q 11,.q 12,.q 13,.q 14,.q 15,.q 16,.q 17,.q 18,.q 19,.q 20,.q 21,.q 22,.q 23,.q 24,.q 25,.q 26,.q 27,.q 28,.q 29,.q 30,.q 31,.q 32,.q 33,.q 34,.q 35,.q 36,.q 37,.q 38,.q 39,.q 40,.q 41,.q 42,.q 43,.q 44,.q 45,.q 46,.q 47,.q 48,.q 49,.q 50,.q 51,.q 52,.q 53,.q 54,.q 55,.q 56,.q 57] (by kernel_rfl) (by kernel_rfl) (fun _ _ _ _ h=>h) ?_
  iterate 4(refine wpFl_qL (v:=?_) rfl (Or.inl ⟨by rfl,?_⟩) ?_;rotate_left;(focus(intro w' hSw;go_simp;(try with_reducible rfl);done));simp only[Act.put,zzA,zzB,zzC])
  iterate 3(refine wpFl_qL (v:=undef) rfl (Or.inr ⟨by rfl,rfl⟩) ?_;simp only[Act.put,zzA,zzB,zzC])
  refine wpFl_qL (v:=?_) rfl (Or.inl ⟨by rfl,?_⟩) ?_
  rotate_left
  focus(intro w' hSw;go_simp;(try with_reducible rfl);done)
  simp only[Act.put,zzA,zzB,zzC]
  refine wpFl_qL (v:=?_) rfl (Or.inl ⟨by rfl,?_⟩) ?_
  rotate_left
  focus(intro w' hSw;go_simp;(try with_reducible rfl);done)
  simp only[Act.put,zzA,zzB,zzC]
  iterate 9(refine wpFl_qL (v:=undef) rfl (Or.inr ⟨by rfl,rfl⟩) ?_;simp only[Act.put,zzA,zzB,zzC])
  refine wpFl_qL (v:=?_) rfl (Or.inl ⟨by rfl,?_⟩) ?_
  rotate_left
  focus(intro w' hSw;go_simp;(try with_reducible rfl);done)
  simp only[Act.put,zzA,zzB,zzC]
  refine wpFl_qL (v:=?_) rfl (Or.inl ⟨by rfl,?_⟩) ?_
  rotate_left
  focus(intro w' hSw;go_simp;(try with_reducible rfl);done)
  simp only[Act.put,zzA,zzB,zzC]
  iterate 9(refine wpFl_qL (v:=undef) rfl (Or.inr ⟨by rfl,rfl⟩) ?_;simp only[Act.put,zzA,zzB,zzC])
  refine wpFl_qL (v:=?_) rfl (Or.inl ⟨by rfl,?_⟩) ?_
  rotate_left
  focus(intro w' hSw;go_simp;(try with_reducible rfl);done)
  simp only[Act.put,zzA,zzB,zzC]
  refine wpFl_qL (v:=?_) rfl (Or.inl ⟨by rfl,?_⟩) ?_
  rotate_left
  focus(intro w' hSw;go_simp;(try with_reducible rfl);done)
  simp only[Act.put,zzA,zzB,zzC]
  iterate 12(refine wpFl_qL (v:=undef) rfl (Or.inr ⟨by rfl,rfl⟩) ?_;simp only[Act.put,zzA,zzB,zzC])
  refine wpFl_qL (v:=?_) rfl (Or.inl ⟨by rfl,?_⟩) ?_
  rotate_left
  focus(intro w' hSw;go_simp;(try with_reducible rfl);done)
  simp only[Act.put,zzA,zzB,zzC]
  refine wpFl_qL (v:=?_) rfl (Or.inl ⟨by rfl,?_⟩) ?_
  rotate_left
  focus(intro w' hSw;go_simp;(try with_reducible rfl);done)
  simp only[Act.put,zzA,zzB,zzC]
  iterate 12(refine wpFl_qL (v:=undef) rfl (Or.inr ⟨by rfl,rfl⟩) ?_;simp only[Act.put,zzA,zzB,zzC])
  refine wpFl_qL (v:=?_) rfl (Or.inl ⟨by rfl,?_⟩) ?_
  rotate_left
  focus(intro w' hSw;go_simp;(try with_reducible rfl);done)
  simp only[Act.put,zzA,zzB,zzC]
  refine wpFl_nil ?_
  refine NoPanic.normal ?_
  go_wp2
  go_ret2
  rw[HN.out]
  exact blameIs_none rfl (q_next HB1.out (Below.drew br0))
 ·have hd:((na:Int) == 0)=false:=by simp;omega
  go_enter Tryz.func32,Tryz.ntmps32
  go_upto_region 1 with fail
  rw[← HW1.out]
  refine wp_region_noPanic ?_
  refine wp_region_lexB [.q 0,.q 1,.q 2,.q 3,.q 4,.q 5,.q 6,.q 7,.q 8,.q 9,.q 10,.q 11,.q 12,.q 13,.q 14,.q 15,.q 16,.q 17,.q 18,.q 19,.q 20,.q 21,.q 22,.q 23,.q 24,.q 25,.q 26,.q 27,.q 28,.q 29,.q 30,.q 31,.q 32,.q 33,.q 34,.q 35,.q 36,.q 37,.q 38,.q 39,.q 40,.q 41,.q 42,.q 43,.q 44,.q 45,.q 46,.q 47,.q 48,.q 49,.q 50,.q 51,.q 52,.q 53,.q 54,.q 55,.q 56,.q 57] (by kernel_rfl) (by kernel_rfl) (fun _ _ _ _ h=>h) ?_
  iterate 4(refine wpFl_qL (v:=?_) rfl (Or.inl ⟨by rfl,?_⟩) ?_;rotate_left;(focus(intro w' hSw;go_simp;(try with_reducible rfl);done));simp only[Act.put,zzA,zzB,zzC])
  iterate 3(refine wpFl_qL (v:=?_) rfl (Or.inl ⟨by rfl,?_⟩) ?_;rotate_left;(focus(intro w' hSw;go_simp;(try with_reducible rfl);done));simp only[Act.put,zzA,zzB,zzC])
  refine wpFl_qL (v:=?_) rfl (Or.inl ⟨by rfl,?_⟩) ?_
  rotate_left
  focus(intro w' hSw;go_simp;(try with_reducible rfl);done)
  simp only[Act.put,zzA,zzB,zzC]
  refine wpFl_qL (v:=?_) rfl (Or.inl ⟨by rfl,?_⟩) ?_
  rotate_left
  focus(intro w' hSw;go_simp;(try with_reducible rfl);done)
  simp only[Act.put,zzA,zzB,zzC]
  iterate 9(refine wpFl_qL (v:=undef) rfl (Or.inr ⟨by rfl,rfl⟩) ?_;simp only[Act.put,zzA,zzB,zzC])
  refine wpFl_qL (v:=?_) rfl (Or.inl ⟨by rfl,?_⟩) ?_
  rotate_left
  focus(intro w' hSw;go_simp;(try with_reducible rfl);done)
  simp only[Act.put,zzA,zzB,zzC]
  refine wpFl_qL (v:=?_) rfl (Or.inl ⟨by rfl,?_⟩) ?_
  rotate_left
  focus(intro w' hSw;go_simp;(try with_reducible rfl);done)
  simp only[Act.put,zzA,zzB,zzC]
  iterate 9(refine wpFl_qL (v:=undef) rfl (Or.inr ⟨by rfl,rfl⟩) ?_;simp only[Act.put,zzA,zzB,zzC])
  refine wpFl_qL (v:=?_) rfl (Or.inl ⟨by rfl,?_⟩) ?_
  rotate_left
  focus(intro w' hSw;go_simp;(try with_reducible rfl);done)
  simp only[Act.put,zzA,zzB,zzC]
  refine wpFl_qL (v:=?_) rfl (Or.inl ⟨by rfl,?_⟩) ?_
  rotate_left
  focus(intro w' hSw;go_simp;(try with_reducible rfl);done)
  simp only[Act.put,zzA,zzB,zzC]
  iterate 12(refine wpFl_qL (v:=undef) rfl (Or.inr ⟨by rfl,rfl⟩) ?_;simp only[Act.put,zzA,zzB,zzC])
  refine wpFl_qL (v:=?_) rfl (Or.inl ⟨by rfl,?_⟩) ?_
  rotate_left
  focus(intro w' hSw;go_simp;(try with_reducible rfl);done)
  simp only[Act.put,zzA,zzB,zzC]
  refine wpFl_qL (v:=?_) rfl (Or.inl ⟨by rfl,?_⟩) ?_
  rotate_left
  focus(intro w' hSw;go_simp;(try with_reducible rfl);done)
  simp only[Act.put,zzA,zzB,zzC]
  iterate 12(refine wpFl_qL (v:=undef) rfl (Or.inr ⟨by rfl,rfl⟩) ?_;simp only[Act.put,zzA,zzB,zzC])
  refine wpFl_qL (v:=?_) rfl (Or.inl ⟨by rfl,?_⟩) ?_
  rotate_left
  focus(intro w' hSw;go_simp;(try with_reducible rfl);done)
  simp only[Act.put,zzA,zzB,zzC]
  refine wpFl_nil ?_
  refine NoPanic.normal ?_
  go_wp2
  go_ret2
  rw[HN.out]
  exact blameIs_none rfl (q_next HB1.out (Below.drew br0))
set_option maxHeartbeats 16000000 in
set_option maxRecDepth 100000 in
theorem rblame_bad {w:World}{kv x y:Value}{ks:List ByteArray}{v u:VoteP}{ta tb:List VoteP}(hr:SS w kv ks)(hks:∀ k∈ks,k.size≤1000)(hkn:ks.length≤1000)(ha:VS w x (v::ta))(hb:VS w y (u::tb))
  (hbad:¬ ((v.num=u.num∧v.stp=u.stp)∧v.val≠u.val∧checkV ks v.num v.stp v.val (v::ta)=true∧checkV ks u.num u.stp u.val (u::tb)=true)) :
  Calls Tryz.prog 32 #[.agg #[kv],x,y] w (BlameIs w (blameV ks (v::ta) (u::tb))):=by
 obtain⟨ka,kn,kc,rfl⟩:∃ a n c,kv=.slice a n c:=by obtain⟨a,c,h,_⟩:=hr.opened;exact⟨_,_,_,h⟩
 obtain⟨aa,ac,rfl,al1,al2,al3⟩:=ha.opened
 obtain⟨ba,bc,rfl,bl1,bl2,bl3⟩:=hb.opened
 obtain⟨ab,ao,rfl,hab,hac⟩:=al3 0 v rfl
 obtain⟨bb,bo,rfl,hbb,hbc⟩:=bl3 0 u rfl
 have HN:=zh (blameV_bad hbad)
 obtain⟨W1,hW1⟩:∃ W1,W1=w.alloc (.cells #[.slice ka kn kc] 31):=⟨_,rfl⟩
 have HB1:Hid (Below w.heap.size w W1):=zh (by rw[hW1];exact br0.alloc (Nat.le_refl _) _)
 have HH1:Hid (W1.heap[w.heap.size]?=some (.cells #[.slice ka kn kc] 31 (0,0))):=zh (by rw[hW1];exact heap_alloc_new w _)
 have HC1:Hid (∀ W,Below W1.heap.size W1 W→W.cell? ⟨w.heap.size,0,none⟩=some (.slice ka kn kc)∧(W.cell? ⟨ab,ao,none⟩=some (.int .i64 v.car)∧W.cell? ⟨ab,ao+1,none⟩=some (.int .i64 v.num)∧W.cell? ⟨ab,ao+2,none⟩=some (.int .i64 v.stp)∧W.cell? ⟨ab,ao+3,none⟩=some (.string v.val)∧W.cell? ⟨ab,ao+4,none⟩=some (.string v.sl))∧(W.cell? ⟨bb,bo,none⟩=some (.int .i64 u.car)∧W.cell? ⟨bb,bo+1,none⟩=some (.int .i64 u.num)∧W.cell? ⟨bb,bo+2,none⟩=some (.int .i64 u.stp)∧W.cell? ⟨bb,bo+3,none⟩=some (.string u.val)∧W.cell? ⟨bb,bo+4,none⟩=some (.string u.sl))):=zh (fun W hW =>
  ⟨cell_of_row W _ 0 _ _ _ ((hW.block _ (ltA HH1.out)).trans HH1.out),(VAt.keep hac (q_next HB1.out hW) hab).cells0,(VAt.keep hbc (q_next HB1.out hW) hbb).cells0⟩)
 have HKA:Hid (∀ W,Below w.heap.size w W→Calls Tryz.prog 58 #[.agg #[.slice ka kn kc],.agg #[.int .i64 v.num,.int .i64 v.stp],.string v.val,.slice (some ⟨ab,ao,none⟩) (v::ta).length ac] W fun e w'=>e=.returned (.bool (checkV ks v.num v.stp v.val (v::ta)))∧Below W.heap.size W w'):=zh (fun W hW=>rcheck19_any (hr.below hW) hks (ha.below hW) _ _ _ hkn)
 have HKB:Hid (∀ W,Below w.heap.size w W→Calls Tryz.prog 58 #[.agg #[.slice ka kn kc],.agg #[.int .i64 u.num,.int .i64 u.stp],.string u.val,.slice (some ⟨bb,bo,none⟩) (u::tb).length bc] W fun e w'=>e=.returned (.bool (checkV ks u.num u.stp u.val (u::tb)))∧Below W.heap.size W w'):=zh (fun W hW=>rcheck19_any (hr.below hW) hks (hb.below hW) _ _ _ hkn)
 have HW1:=zh hW1
 have hsl:=fun X=>neqSlot v.num v.stp u.num u.stp X
 have hst:=same_str v.val u.val
 have hna:(((v::ta).length:Int) == 0)=false:=by simp;omega
 have hnb:(((u::tb).length:Int) == 0)=false:=by simp;omega
 have hpa:0 < (v::ta).length:=by simp
 have hpb:0 < (u::tb).length:=by simp
 obtain⟨D2,hD2⟩:∃ D2,D2=decide (v.num=u.num∧v.stp=u.stp):=⟨_,rfl⟩
 obtain⟨D3,hD3⟩:∃ D3,D3=decide (v.val=u.val):=⟨_,rfl⟩
 obtain⟨D4,hD4⟩:∃ D4,D4=checkV ks v.num v.stp v.val (v::ta):=⟨_,rfl⟩
 obtain⟨D5,hD5⟩:∃ D5,D5=checkV ks u.num u.stp u.val (u::tb):=⟨_,rfl⟩
 have hd:D2=false∨(D2=true∧D3=true)∨(D2=true∧D3=false∧D4=false)∨(D2=true∧D3=false∧D4=true∧D5=false):=by
  cases h2:D2
  ·exact .inl rfl
  ·cases h3:D3
   ·cases h4:D4
    ·exact .inr (.inr (.inl ⟨rfl,rfl,rfl⟩))
    ·cases h5:D5
     ·exact .inr (.inr (.inr ⟨rfl,rfl,rfl,rfl⟩))
     ·exact absurd ⟨of_decide_eq_true (hD2.symm.trans h2),of_decide_eq_false (hD3.symm.trans h3),hD4.symm.trans h4,hD5.symm.trans h5⟩ hbad
   ·exact .inr (.inl ⟨rfl,rfl⟩)
 rw[← hD2]at hsl
 rw[← hD3]at hst
 rw[← hD4]at HKA
 rw[← hD5]at HKB
 clear hD2 hD3 hD4 hD5 hbad hr ha hb al3 bl3 hac hbc hW1 HH1 al1 al2 bl1 bl2 hab hbb
 generalize (v::ta).length=na at *
 generalize (u::tb).length=nb at *
 have hpa':(0:Int) < (na:Int):=by omega
 have hpb':(0:Int) < (nb:Int):=by omega
 generalize hBV:blameV ks (v::ta) (u::tb)=RES at *
 have HBV:=zh hBV
 clear hBV
 obtain⟨vc,vn,vs,vv,vl⟩:=v
 obtain⟨uc,un,us,uv,ul⟩:=u
 simp only at HC1 HKA HKB hsl hst
 rcases hd with rfl | ⟨rfl,rfl⟩ | ⟨rfl,rfl,rfl⟩ | ⟨rfl,rfl,rfl,rfl⟩
 ·go_enter Tryz.func32,Tryz.ntmps32
  go_upto_region 1 with fail
  rw[← HW1.out]
  refine wp_region_noPanic ?_
  refine wp_region_lexB [.q 0,.q 1,.q 2,.q 3,.q 4,.q 5,.q 6,.q 7,.q 8,.q 9,.q 10,.q 11,.q 12,.q 13,.q 14,.q 15,.q 16,.q 17,.q 18,.q 19,.q 20,.q 21,.q 22,.q 23,.q 24,.q 25,.q 26,.q 27,.q 28,.q 29,.q 30,.q 31,.q 32,.q 33,.q 34,.q 35,.q 36,.q 37,.q 38,.q 39,.q 40,.q 41,.q 42,.q 43,.q 44,.q 45,.q 46,.q 47,.q 48,.q 49,.q 50,.q 51,.q 52,.q 53,.q 54,.q 55,.q 56,.q 57] (by kernel_rfl) (by kernel_rfl) (fun _ _ _ _ h=>h) ?_
  iterate 4(refine wpFl_qL (v:=?_) rfl (Or.inl ⟨by rfl,?_⟩) ?_;rotate_left;(focus(intro w' hSw;obtain⟨k0,⟨a0,a1,a2,a3,a4⟩,b0,b1,b2,b3,b4⟩:=HC1.out w' hSw;go_simp;(try with_reducible rfl);done));simp only[Act.put,zzA,zzB,zzC])
  iterate 3(refine wpFl_qL (v:=?_) rfl (Or.inl ⟨by rfl,?_⟩) ?_;rotate_left;(focus(intro w' hSw;obtain⟨k0,⟨a0,a1,a2,a3,a4⟩,b0,b1,b2,b3,b4⟩:=HC1.out w' hSw;go_simp;(try with_reducible rfl);done));simp only[Act.put,zzA,zzB,zzC])
  refine wpFl_qL (v:=?_) rfl (Or.inl ⟨by rfl,?_⟩) ?_
  rotate_left
  focus(intro w' hSw;go_simp;(try with_reducible rfl);done)
  simp only[Act.put,zzA,zzB,zzC]
  refine wpFl_qL (v:=?_) rfl (Or.inl ⟨by rfl,?_⟩) ?_
  rotate_left
  focus(intro w' hSw;go_simp;(try with_reducible rfl);done)
  simp only[Act.put,zzA,zzB,zzC]
  iterate 9(refine wpFl_qL (v:=?_) rfl (Or.inl ⟨by rfl,?_⟩) ?_;rotate_left;(focus(intro w' hSw;obtain⟨k0,⟨a0,a1,a2,a3,a4⟩,b0,b1,b2,b3,b4⟩:=HC1.out w' hSw;go_simp;(try with_reducible rfl);done));simp only[Act.put,zzA,zzB,zzC])
  refine wpFl_qL (v:=?_) rfl (Or.inl ⟨by rfl,?_⟩) ?_
  rotate_left
  focus(intro w' hSw;go_simp;(try with_reducible rfl);done)
  simp only[Act.put,zzA,zzB,zzC]
  refine wpFl_qL (v:=?_) rfl (Or.inl ⟨by rfl,?_⟩) ?_
  rotate_left
  focus(intro w' hSw;go_simp;(try with_reducible rfl);done)
  simp only[Act.put,zzA,zzB,zzC]
  iterate 9(refine wpFl_qL (v:=undef) rfl (Or.inr ⟨by rfl,rfl⟩) ?_;simp only[Act.put,zzA,zzB,zzC])
  refine wpFl_qL (v:=?_) rfl (Or.inl ⟨by rfl,?_⟩) ?_
  rotate_left
  focus(intro w' hSw;go_simp;(try with_reducible rfl);done)
  simp only[Act.put,zzA,zzB,zzC]
  refine wpFl_qL (v:=?_) rfl (Or.inl ⟨by rfl,?_⟩) ?_
  rotate_left
  focus(intro w' hSw;go_simp;(try with_reducible rfl);done)
  simp only[Act.put,zzA,zzB,zzC]
  iterate 12(refine wpFl_qL (v:=undef) rfl (Or.inr ⟨by rfl,rfl⟩) ?_;simp only[Act.put,zzA,zzB,zzC])
  refine wpFl_qL (v:=?_) rfl (Or.inl ⟨by rfl,?_⟩) ?_
  rotate_left
  focus(intro w' hSw;go_simp;(try with_reducible rfl);done)
  simp only[Act.put,zzA,zzB,zzC]
  refine wpFl_qL (v:=?_) rfl (Or.inl ⟨by rfl,?_⟩) ?_
  rotate_left
  focus(intro w' hSw;go_simp;(try with_reducible rfl);done)
  simp only[Act.put,zzA,zzB,zzC]
  iterate 12(refine wpFl_qL (v:=undef) rfl (Or.inr ⟨by rfl,rfl⟩) ?_;simp only[Act.put,zzA,zzB,zzC])
  refine wpFl_qL (v:=?_) rfl (Or.inl ⟨by rfl,?_⟩) ?_
  rotate_left
  focus(intro w' hSw;go_simp;(try with_reducible rfl);done)
  simp only[Act.put,zzA,zzB,zzC]
  refine wpFl_nil ?_
  refine NoPanic.normal ?_
  go_wp2
  go_ret2
  rw[HN.out]
  exact blameIs_none rfl (q_next HB1.out (Below.drew br0))
 ·go_enter Tryz.func32,Tryz.ntmps32
  go_upto_region 1 with fail
  rw[← HW1.out]
  refine wp_region_noPanic ?_
  refine wp_region_lexB [.q 0,.q 1,.q 2,.q 3,.q 4,.q 5,.q 6,.q 7,.q 8,.q 9,.q 10,.q 11,.q 12,.q 13,.q 14,.q 15,.q 16,.q 17,.q 18,.q 19,.q 20,.q 21,.q 22,.q 23,.q 24,.q 25,.q 26,.q 27,.q 28,.q 29,.q 30,.q 31,.q 32,.q 33,.q 34,.q 35,.q 36,.q 37,.q 38,.q 39,.q 40,.q 41,.q 42,.q 43,.q 44,.q 45,.q 46,.q 47,.q 48,.q 49,.q 50,.q 51,.q 52,.q 53,.q 54,.q 55,.q 56,.q 57] (by kernel_rfl) (by kernel_rfl) (fun _ _ _ _ h=>h) ?_
  iterate 4(refine wpFl_qL (v:=?_) rfl (Or.inl ⟨by rfl,?_⟩) ?_;rotate_left;(focus(intro w' hSw;obtain⟨k0,⟨a0,a1,a2,a3,a4⟩,b0,b1,b2,b3,b4⟩:=HC1.out w' hSw;go_simp;(try with_reducible rfl);done));simp only[Act.put,zzA,zzB,zzC])
  iterate 3(refine wpFl_qL (v:=?_) rfl (Or.inl ⟨by rfl,?_⟩) ?_;rotate_left;(focus(intro w' hSw;obtain⟨k0,⟨a0,a1,a2,a3,a4⟩,b0,b1,b2,b3,b4⟩:=HC1.out w' hSw;go_simp;(try with_reducible rfl);done));simp only[Act.put,zzA,zzB,zzC])
  refine wpFl_qL (v:=?_) rfl (Or.inl ⟨by rfl,?_⟩) ?_
  rotate_left
  focus(intro w' hSw;go_simp;(try with_reducible rfl);done)
  simp only[Act.put,zzA,zzB,zzC]
  refine wpFl_qL (v:=?_) rfl (Or.inl ⟨by rfl,?_⟩) ?_
  rotate_left
  focus(intro w' hSw;go_simp;(try with_reducible rfl);done)
  simp only[Act.put,zzA,zzB,zzC]
  iterate 9(refine wpFl_qL (v:=?_) rfl (Or.inl ⟨by rfl,?_⟩) ?_;rotate_left;(focus(intro w' hSw;obtain⟨k0,⟨a0,a1,a2,a3,a4⟩,b0,b1,b2,b3,b4⟩:=HC1.out w' hSw;go_simp;(try with_reducible rfl);done));simp only[Act.put,zzA,zzB,zzC])
  refine wpFl_qL (v:=?_) rfl (Or.inl ⟨by rfl,?_⟩) ?_
  rotate_left
  focus(intro w' hSw;go_simp;(try with_reducible rfl);done)
  simp only[Act.put,zzA,zzB,zzC]
  refine wpFl_qL (v:=?_) rfl (Or.inl ⟨by rfl,?_⟩) ?_
  rotate_left
  focus(intro w' hSw;go_simp;(try with_reducible rfl);done)
  simp only[Act.put,zzA,zzB,zzC]
  iterate 9(refine wpFl_qL (v:=?_) rfl (Or.inl ⟨by rfl,?_⟩) ?_;rotate_left;(focus(intro w' hSw;obtain⟨k0,⟨a0,a1,a2,a3,a4⟩,b0,b1,b2,b3,b4⟩:=HC1.out w' hSw;go_simp;(try with_reducible rfl);done));simp only[Act.put,zzA,zzB,zzC])
  refine wpFl_qL (v:=?_) rfl (Or.inl ⟨by rfl,?_⟩) ?_
  rotate_left
  focus(intro w' hSw;go_simp;(try with_reducible rfl);done)
  simp only[Act.put,zzA,zzB,zzC]
  refine wpFl_qL (v:=?_) rfl (Or.inl ⟨by rfl,?_⟩) ?_
  rotate_left
  focus(intro w' hSw;go_simp;(try with_reducible rfl);done)
  simp only[Act.put,zzA,zzB,zzC]
  iterate 12(refine wpFl_qL (v:=undef) rfl (Or.inr ⟨by rfl,rfl⟩) ?_;simp only[Act.put,zzA,zzB,zzC])
  refine wpFl_qL (v:=?_) rfl (Or.inl ⟨by rfl,?_⟩) ?_
  rotate_left
  focus(intro w' hSw;go_simp;(try with_reducible rfl);done)
  simp only[Act.put,zzA,zzB,zzC]
  refine wpFl_qL (v:=?_) rfl (Or.inl ⟨by rfl,?_⟩) ?_
  rotate_left
  focus(intro w' hSw;go_simp;(try with_reducible rfl);done)
  simp only[Act.put,zzA,zzB,zzC]
  iterate 12(refine wpFl_qL (v:=undef) rfl (Or.inr ⟨by rfl,rfl⟩) ?_;simp only[Act.put,zzA,zzB,zzC])
  refine wpFl_qL (v:=?_) rfl (Or.inl ⟨by rfl,?_⟩) ?_
  rotate_left
  focus(intro w' hSw;go_simp;(try with_reducible rfl);done)
  simp only[Act.put,zzA,zzB,zzC]
  refine wpFl_nil ?_
  refine NoPanic.normal ?_
  go_wp2
  go_ret2
  rw[HN.out]
  exact blameIs_none rfl (q_next HB1.out (Below.drew br0))
 ·go_enter Tryz.func32,Tryz.ntmps32
  go_upto_region 1 with fail
  rw[← HW1.out]
  refine wp_region_noPanic ?_
  refine wp_region_lexB [.q 0,.q 1,.q 2,.q 3,.q 4,.q 5,.q 6,.q 7,.q 8,.q 9,.q 10,.q 11,.q 12,.q 13,.q 14,.q 15,.q 16,.q 17,.q 18,.q 19,.q 20,.q 21,.q 22,.q 23,.q 24,.q 25,.q 26,.q 27,.q 28,.q 29,.q 30,.q 31,.q 32,.q 33,.q 34,.q 35,.q 36,.q 37,.q 38,.q 39,.q 40,.b 41,.q 42,.q 43,.q 44,.q 45,.q 46,.q 47,.q 48,.q 49,.q 50,.q 51,.q 52,.q 53,.q 54,.q 55,.q 56,.q 57] (by kernel_rfl) (by kernel_rfl) (fun _ _ _ _ h=>h) ?_
  iterate 4(refine wpFl_qL (v:=?_) rfl (Or.inl ⟨by rfl,?_⟩) ?_;rotate_left;(focus(intro w' hSw;obtain⟨k0,⟨a0,a1,a2,a3,a4⟩,b0,b1,b2,b3,b4⟩:=HC1.out w' hSw;go_simp;(try with_reducible rfl);done));simp only[Act.put,zzA,zzB,zzC])
  iterate 3(refine wpFl_qL (v:=?_) rfl (Or.inl ⟨by rfl,?_⟩) ?_;rotate_left;(focus(intro w' hSw;obtain⟨k0,⟨a0,a1,a2,a3,a4⟩,b0,b1,b2,b3,b4⟩:=HC1.out w' hSw;go_simp;(try with_reducible rfl);done));simp only[Act.put,zzA,zzB,zzC])
  refine wpFl_qL (v:=?_) rfl (Or.inl ⟨by rfl,?_⟩) ?_
  rotate_left
  focus(intro w' hSw;go_simp;(try with_reducible rfl);done)
  simp only[Act.put,zzA,zzB,zzC]
  refine wpFl_qL (v:=?_) rfl (Or.inl ⟨by rfl,?_⟩) ?_
  rotate_left
  focus(intro w' hSw;go_simp;(try with_reducible rfl);done)
  simp only[Act.put,zzA,zzB,zzC]
  iterate 9(refine wpFl_qL (v:=?_) rfl (Or.inl ⟨by rfl,?_⟩) ?_;rotate_left;(focus(intro w' hSw;obtain⟨k0,⟨a0,a1,a2,a3,a4⟩,b0,b1,b2,b3,b4⟩:=HC1.out w' hSw;go_simp;(try with_reducible rfl);done));simp only[Act.put,zzA,zzB,zzC])
  refine wpFl_qL (v:=?_) rfl (Or.inl ⟨by rfl,?_⟩) ?_
  rotate_left
  focus(intro w' hSw;go_simp;(try with_reducible rfl);done)
  simp only[Act.put,zzA,zzB,zzC]
  refine wpFl_qL (v:=?_) rfl (Or.inl ⟨by rfl,?_⟩) ?_
  rotate_left
  focus(intro w' hSw;go_simp;(try with_reducible rfl);done)
  simp only[Act.put,zzA,zzB,zzC]
  iterate 9(refine wpFl_qL (v:=?_) rfl (Or.inl ⟨by rfl,?_⟩) ?_;rotate_left;(focus(intro w' hSw;obtain⟨k0,⟨a0,a1,a2,a3,a4⟩,b0,b1,b2,b3,b4⟩:=HC1.out w' hSw;go_simp;(try with_reducible rfl);done));simp only[Act.put,zzA,zzB,zzC])
  refine wpFl_qL (v:=?_) rfl (Or.inl ⟨by rfl,?_⟩) ?_
  rotate_left
  focus(intro w' hSw;go_simp;(try with_reducible rfl);done)
  simp only[Act.put,zzA,zzB,zzC]
  refine wpFl_qL (v:=?_) rfl (Or.inl ⟨by rfl,?_⟩) ?_
  rotate_left
  focus(intro w' hSw;go_simp;(try with_reducible rfl);done)
  simp only[Act.put,zzA,zzB,zzC]
  iterate 10(refine wpFl_qL (v:=?_) rfl (Or.inl ⟨by rfl,?_⟩) ?_;rotate_left;(focus(intro w' hSw;obtain⟨k0,⟨a0,a1,a2,a3,a4⟩,b0,b1,b2,b3,b4⟩:=HC1.out w' hSw;go_simp;(try with_reducible rfl);done));simp only[Act.put,zzA,zzB,zzC])
  refine wpFl_bL rfl (fun wa1 hna1 hsa1 K hK=>?_)
  go_simp
  go_at_call 58
  refine(HKA.out wa1 (q_next HB1.out hsa1)).mono ?_
  rintro e wb1 ⟨rfl,hb1⟩
  have HBC1:=zh (q_next hsa1 hb1)
  refine hK.out _ _ HBC1.out (Keeps.below hb1) ?_
  clear hK K hna1 hsa1 hb1
  refine wpFl_qL (v:=?_) rfl (Or.inl ⟨by rfl,?_⟩) ?_
  rotate_left
  focus(intro w' hSw;go_simp;(try with_reducible rfl);done)
  simp only[Act.put,zzA,zzB,zzC]
  refine wpFl_qL (v:=?_) rfl (Or.inl ⟨by rfl,?_⟩) ?_
  rotate_left
  focus(intro w' hSw;go_simp;(try with_reducible rfl);done)
  simp only[Act.put,zzA,zzB,zzC]
  refine wpFl_qL (v:=?_) rfl (Or.inl ⟨by rfl,?_⟩) ?_
  rotate_left
  focus(intro w' hSw;go_simp;(try with_reducible rfl);done)
  simp only[Act.put,zzA,zzB,zzC]
  iterate 12(refine wpFl_qL (v:=undef) rfl (Or.inr ⟨by rfl,rfl⟩) ?_;simp only[Act.put,zzA,zzB,zzC])
  refine wpFl_qL (v:=?_) rfl (Or.inl ⟨by rfl,?_⟩) ?_
  rotate_left
  focus(intro w' hSw;go_simp;(try with_reducible rfl);done)
  simp only[Act.put,zzA,zzB,zzC]
  refine wpFl_nil ?_
  refine NoPanic.normal ?_
  go_wp2
  go_ret2
  rw[HN.out]
  exact blameIs_none rfl (q_next HB1.out HBC1.out)
 ·go_enter Tryz.func32,Tryz.ntmps32
  go_upto_region 1 with fail
  rw[← HW1.out]
  refine wp_region_noPanic ?_
  refine wp_region_lexB [.q 0,.q 1,.q 2,.q 3,.q 4,.q 5,.q 6,.q 7,.q 8,.q 9,.q 10,.q 11,.q 12,.q 13,.q 14,.q 15,.q 16,.q 17,.q 18,.q 19,.q 20,.q 21,.q 22,.q 23,.q 24,.q 25,.q 26,.q 27,.q 28,.q 29,.q 30,.q 31,.q 32,.q 33,.q 34,.q 35,.q 36,.q 37,.q 38,.q 39,.q 40,.b 41,.q 42,.q 43,.q 44,.q 45,.q 46,.q 47,.q 48,.q 49,.q 50,.q 51,.q 52,.q 53,.q 54,.b 55,.q 56,.q 57] (by kernel_rfl) (by kernel_rfl) (fun _ _ _ _ h=>h) ?_
  iterate 4(refine wpFl_qL (v:=?_) rfl (Or.inl ⟨by rfl,?_⟩) ?_;rotate_left;(focus(intro w' hSw;obtain⟨k0,⟨a0,a1,a2,a3,a4⟩,b0,b1,b2,b3,b4⟩:=HC1.out w' hSw;go_simp;(try with_reducible rfl);done));simp only[Act.put,zzA,zzB,zzC])
  iterate 3(refine wpFl_qL (v:=?_) rfl (Or.inl ⟨by rfl,?_⟩) ?_;rotate_left;(focus(intro w' hSw;obtain⟨k0,⟨a0,a1,a2,a3,a4⟩,b0,b1,b2,b3,b4⟩:=HC1.out w' hSw;go_simp;(try with_reducible rfl);done));simp only[Act.put,zzA,zzB,zzC])
  refine wpFl_qL (v:=?_) rfl (Or.inl ⟨by rfl,?_⟩) ?_
  rotate_left
  focus(intro w' hSw;go_simp;(try with_reducible rfl);done)
  simp only[Act.put,zzA,zzB,zzC]
  refine wpFl_qL (v:=?_) rfl (Or.inl ⟨by rfl,?_⟩) ?_
  rotate_left
  focus(intro w' hSw;go_simp;(try with_reducible rfl);done)
  simp only[Act.put,zzA,zzB,zzC]
  iterate 9(refine wpFl_qL (v:=?_) rfl (Or.inl ⟨by rfl,?_⟩) ?_;rotate_left;(focus(intro w' hSw;obtain⟨k0,⟨a0,a1,a2,a3,a4⟩,b0,b1,b2,b3,b4⟩:=HC1.out w' hSw;go_simp;(try with_reducible rfl);done));simp only[Act.put,zzA,zzB,zzC])
  refine wpFl_qL (v:=?_) rfl (Or.inl ⟨by rfl,?_⟩) ?_
  rotate_left
  focus(intro w' hSw;go_simp;(try with_reducible rfl);done)
  simp only[Act.put,zzA,zzB,zzC]
  refine wpFl_qL (v:=?_) rfl (Or.inl ⟨by rfl,?_⟩) ?_
  rotate_left
  focus(intro w' hSw;go_simp;(try with_reducible rfl);done)
  simp only[Act.put,zzA,zzB,zzC]
  iterate 9(refine wpFl_qL (v:=?_) rfl (Or.inl ⟨by rfl,?_⟩) ?_;rotate_left;(focus(intro w' hSw;obtain⟨k0,⟨a0,a1,a2,a3,a4⟩,b0,b1,b2,b3,b4⟩:=HC1.out w' hSw;go_simp;(try with_reducible rfl);done));simp only[Act.put,zzA,zzB,zzC])
  refine wpFl_qL (v:=?_) rfl (Or.inl ⟨by rfl,?_⟩) ?_
  rotate_left
  focus(intro w' hSw;go_simp;(try with_reducible rfl);done)
  simp only[Act.put,zzA,zzB,zzC]
  refine wpFl_qL (v:=?_) rfl (Or.inl ⟨by rfl,?_⟩) ?_
  rotate_left
  focus(intro w' hSw;go_simp;(try with_reducible rfl);done)
  simp only[Act.put,zzA,zzB,zzC]
  iterate 10(refine wpFl_qL (v:=?_) rfl (Or.inl ⟨by rfl,?_⟩) ?_;rotate_left;(focus(intro w' hSw;obtain⟨k0,⟨a0,a1,a2,a3,a4⟩,b0,b1,b2,b3,b4⟩:=HC1.out w' hSw;go_simp;(try with_reducible rfl);done));simp only[Act.put,zzA,zzB,zzC])
  refine wpFl_bL rfl (fun wa1 hna1 hsa1 K hK=>?_)
  go_simp
  go_at_call 58
  refine(HKA.out wa1 (q_next HB1.out hsa1)).mono ?_
  rintro e wb1 ⟨rfl,hb1⟩
  have HBC1:=zh (q_next hsa1 hb1)
  refine hK.out _ _ HBC1.out (Keeps.below hb1) ?_
  clear hK K hna1 hsa1 hb1
  refine wpFl_qL (v:=?_) rfl (Or.inl ⟨by rfl,?_⟩) ?_
  rotate_left
  focus(intro w' hSw;go_simp;(try with_reducible rfl);done)
  simp only[Act.put,zzA,zzB,zzC]
  refine wpFl_qL (v:=?_) rfl (Or.inl ⟨by rfl,?_⟩) ?_
  rotate_left
  focus(intro w' hSw;go_simp;(try with_reducible rfl);done)
  simp only[Act.put,zzA,zzB,zzC]
  refine wpFl_qL (v:=?_) rfl (Or.inl ⟨by rfl,?_⟩) ?_
  rotate_left
  focus(intro w' hSw;go_simp;(try with_reducible rfl);done)
  simp only[Act.put,zzA,zzB,zzC]
  iterate 10(refine wpFl_qL (v:=?_) rfl (Or.inl ⟨by rfl,?_⟩) ?_;rotate_left;(focus(intro w' hSw;obtain⟨k0,⟨a0,a1,a2,a3,a4⟩,b0,b1,b2,b3,b4⟩:=HC1.out w' hSw;go_simp;(try with_reducible rfl);done));simp only[Act.put,zzA,zzB,zzC])
  refine wpFl_bL rfl (fun wa2 hna2 hsa2 K hK=>?_)
  go_simp
  go_at_call 58
  refine(HKB.out wa2 (q_next HB1.out hsa2)).mono ?_
  rintro e wb2 ⟨rfl,hb2⟩
  have HBC2:=zh (q_next hsa2 hb2)
  refine hK.out _ _ HBC2.out (Keeps.below hb2) ?_
  clear hK K hna2 hsa2 hb2
  refine wpFl_qL (v:=?_) rfl (Or.inl ⟨by rfl,?_⟩) ?_
  rotate_left
  focus(intro w' hSw;go_simp;(try with_reducible rfl);done)
  simp only[Act.put,zzA,zzB,zzC]
  refine wpFl_qL (v:=?_) rfl (Or.inl ⟨by rfl,?_⟩) ?_
  rotate_left
  focus(intro w' hSw;go_simp;(try with_reducible rfl);done)
  simp only[Act.put,zzA,zzB,zzC]
  refine wpFl_nil ?_
  refine NoPanic.normal ?_
  go_wp2
  go_ret2
  rw[HN.out]
  exact blameIs_none rfl (q_next HB1.out HBC2.out)
def pairsQ (a b:List VoteP):List (VoteP × VoteP):=a.flatMap fun v=>(b.filter fun w=>decide (v.car=w.car)).map fun w=>(v,w)
theorem find_one (c:Int):∀ b:List VoteP,(b.map fun v=>v.car).Pairwise (· < ·)→(b.filter fun w=>decide (c=w.car))=(b.find? fun w=>decide (w.car=c)).toList
 | [],_=>rfl
 | w::b,h=>by
  rw[List.map_cons,List.pairwise_cons]at h
  by_cases e:w.car=c
  ·rw[List.filter_cons_of_pos (by simpa using e.symm),List.find?_cons_of_pos (by simpa using e)]
   have:b.filter (fun w=>decide (c=w.car))=[]:=by
    rw[List.filter_eq_nil_iff]
    intro u hu he
    have h1:=h.1 u.car (List.mem_map_of_mem hu)
    have h2:=of_decide_eq_true he
    omega
   rw[this]
   rfl
  ·rw[List.filter_cons_of_neg (by simp;exact fun h=>e h.symm),List.find?_cons_of_neg (by simpa using e)]
   exact find_one c b h.2
theorem pairs_blame (a b:List VoteP)(h:(b.map fun v=>v.car).Pairwise (· < ·)):pairsQ a b=blameL a b:=by
 unfold pairsQ blameL
 induction a with
 | nil=>rfl
 | cons v a ih =>
  rw[List.flatMap_cons,List.filterMap_cons,ih,find_one v.car b h]
  cases b.find? fun w=>decide (w.car=v.car)with
  | none=>rfl
  | some w=>rfl
theorem check_asc {ks:List ByteArray}{num stp:Int}{val:ByteArray}{l:List VoteP}(h:checkV ks num stp val l=true):(l.map fun v=>v.car).Pairwise (· < ·):=by
 unfold checkV at h
 simp only[Bool.and_eq_true,decide_eq_true_eq]at h
 exact h.1.2
theorem pairsQ_snoc {a b:List VoteP}{i:Nat}{v:VoteP}(h:a[i]?=some v):pairsQ (a.take (i+1)) b=pairsQ (a.take i) b++(b.filter fun w=>decide (v.car=w.car)).map fun w=>(v,w):=by
 unfold pairsQ
 rw[List.take_add_one,h,List.flatMap_append]
 simp
def rowQ (v:VoteP)(b:List VoteP)(k:Nat):List (VoteP × VoteP):=((b.take k).filter fun w=>decide (v.car=w.car)).map fun w=>(v,w)
theorem rowQ_snoc {v:VoteP}{b:List VoteP}{k:Nat}{w:VoteP}(h:b[k]?=some w):rowQ v b (k+1)=rowQ v b k++if v.car=w.car then[(v,w)]else[]:=by
 unfold rowQ
 rw[List.take_add_one,h,List.filter_append,List.map_append]
 by_cases e:v.car=w.car
 ·simp[e]
 ·simp[e]
theorem rowQ_all (v:VoteP)(b:List VoteP):rowQ v b b.length=(b.filter fun w=>decide (v.car=w.car)).map fun w=>(v,w):=by
 unfold rowQ
 rw[List.take_length]
theorem rowQ_len (v:VoteP)(b:List VoteP)(k:Nat):(rowQ v b k).length≤b.length:=by
 unfold rowQ
 rw[List.length_map]
 have h1:=List.length_filter_le (fun w:VoteP=>decide (v.car=w.car)) (b.take k)
 have h2:=List.length_take_le' k b
 omega
theorem pairsQ_len (a b:List VoteP):(pairsQ a b).length≤a.length*b.length:=by
 unfold pairsQ
 induction a with
 | nil=>simp
 | cons v a ih =>
  rw[List.flatMap_cons,List.length_append,List.length_cons,Nat.add_mul,Nat.one_mul]
  have h1:((b.filter fun w=>decide (v.car=w.car)).map fun w=>(v,w)).length≤b.length:=by
   rw[List.length_map]
   exact List.length_filter_le _ b
  omega
end Go.Proofs.YtggdcnjaofflbaaGreatDoor
