/- Walk of the reference: Blame. The conditions: lengths. -/
import Derived.Test.YtggdcnjaofflbaaGreatDoorMM28
namespace Go.Proofs.YtggdcnjaofflbaaGreatDoor
open Go.RowKit Go.BigFrame
set_option maxHeartbeats 16000000 in
set_option maxRecDepth 100000 in
theorem rblame_good {w:World}{kv x y:Value}{ks:List ByteArray}{v u:VoteP}{ta tb:List VoteP}(hr:SS w kv ks)(hks:∀ k∈ks,k.size≤1000)(hkn:ks.length≤1000)(ha:VS w x (v::ta))(hb:VS w y (u::tb))
  (hgood:(v.num=u.num∧v.stp=u.stp)∧v.val≠u.val∧checkV ks v.num v.stp v.val (v::ta)=true∧checkV ks u.num u.stp u.val (u::tb)=true) :
  Calls Tryz.prog 32 #[.agg #[kv],x,y] w (BlameIs w (blameV ks (v::ta) (u::tb))):=by
 obtain⟨ka,kn,kc,rfl⟩:∃ a n c,kv=.slice a n c:=by obtain⟨a,c,h,_⟩:=hr.opened;exact⟨_,_,_,h⟩
 obtain⟨aa,ac,rfl,al1,al2,al3⟩:=ha.opened
 obtain⟨ba,bc,rfl,bl1,bl2,bl3⟩:=hb.opened
 obtain⟨ab,ao,rfl,hab,hac⟩:=al3 0 v rfl
 obtain⟨bb,bo,rfl,hbb,hbc⟩:=bl3 0 u rfl
 have HN:=zh (blameV_good hgood)
 obtain⟨W1,hW1⟩:∃ W1,W1=w.alloc (.cells #[.slice ka kn kc] 31):=⟨_,rfl⟩
 have HB1:Hid (Below w.heap.size w W1):=zh (by rw[hW1];exact br0.alloc (Nat.le_refl _) _)
 have HH1:Hid (W1.heap[w.heap.size]?=some (.cells #[.slice ka kn kc] 31 (0,0))):=zh (by rw[hW1];exact heap_alloc_new w _)
 have HC1:Hid (∀ W,Below W1.heap.size W1 W→W.cell? ⟨w.heap.size,0,none⟩=some (.slice ka kn kc)∧(W.cell? ⟨ab,ao,none⟩=some (.int .i64 v.car)∧W.cell? ⟨ab,ao+1,none⟩=some (.int .i64 v.num)∧W.cell? ⟨ab,ao+2,none⟩=some (.int .i64 v.stp)∧W.cell? ⟨ab,ao+3,none⟩=some (.string v.val)∧W.cell? ⟨ab,ao+4,none⟩=some (.string v.sl))∧(W.cell? ⟨bb,bo,none⟩=some (.int .i64 u.car)∧W.cell? ⟨bb,bo+1,none⟩=some (.int .i64 u.num)∧W.cell? ⟨bb,bo+2,none⟩=some (.int .i64 u.stp)∧W.cell? ⟨bb,bo+3,none⟩=some (.string u.val)∧W.cell? ⟨bb,bo+4,none⟩=some (.string u.sl))):=zh (fun W hW =>
  ⟨cell_of_row W _ 0 _ _ _ ((hW.block _ (ltA HH1.out)).trans HH1.out),(VAt.keep hac (q_next HB1.out hW) hab).cells0,(VAt.keep hbc (q_next HB1.out hW) hbb).cells0⟩)
 have HKA:Hid (∀ W,Below w.heap.size w W→Calls Tryz.prog 58 #[.agg #[.slice ka kn kc],.agg #[.int .i64 v.num,.int .i64 v.stp],.string v.val,.slice (some ⟨ab,ao,none⟩) (v::ta).length ac] W fun e w'=>e=.returned (.bool (checkV ks v.num v.stp v.val (v::ta)))∧Below W.heap.size W w'):=zh (fun W hW=>rcheck19_any (hr.below hW) hks (ha.below hW) _ _ _ hkn)
 have HKB:Hid (∀ W,Below w.heap.size w W→Calls Tryz.prog 58 #[.agg #[.slice ka kn kc],.agg #[.int .i64 u.num,.int .i64 u.stp],.string u.val,.slice (some ⟨bb,bo,none⟩) (u::tb).length bc] W fun e w'=>e=.returned (.bool (checkV ks u.num u.stp u.val (u::tb)))∧Below W.heap.size W w'):=zh (fun W hW=>rcheck19_any (hr.below hW) hks (hb.below hW) _ _ _ hkn)
 have HW1:=zh hW1
 have hsl:=fun X=>neqSlot v.num v.stp u.num u.stp X
 have hst:=same_str v.val u.val
 have hna:(((v::ta).length:Int) == 0)=false:=by simp;omega
 have hnb:(((u::tb).length:Int) == 0)=false:=by simp;omega
 have hpa:0 < (v::ta).length:=by simp
 have hpb:0 < (u::tb).length:=by simp
 rw[decide_eq_true hgood.1]at hsl
 rw[decide_eq_false hgood.2.1]at hst
 rw[hgood.2.2.1]at HKA
 rw[hgood.2.2.2]at HKB
 have HVA:=zh ha
 have hla:(v::ta).length≤7:=by
  have h1:=check_facts hgood.2.2.1
  have h2:=enough_len h1.1
  have h3:=valid_le h1.1
  omega
 have hlb:(u::tb).length≤7:=by
  have h1:=check_facts hgood.2.2.2
  have h2:=enough_len h1.1
  have h3:=valid_le h1.1
  omega
 have HVB:=zh hb
 have HAA:=zh (pairs_blame (u::tb) (v::ta) (check_asc hgood.2.2.1))
 have HAB:=zh (pairs_blame (v::ta) (u::tb) (check_asc hgood.2.2.2))
 obtain⟨D,hD⟩:∃ D,D=decide (u.val.toList < v.val.toList):=⟨_,rfl⟩
 have hls:=bytesLess_eq v.val.toList u.val.toList
 have hgt:Op.bytesLess v.val.toList u.val.toList=!D:=by
  rw[hls,hD]
  rw[Bool.eq_iff_iff,Bool.not_eq_true',decide_eq_false_iff_not,decide_eq_true_iff]
  constructor
  ·intro h h1
   exact u8l_irrefl _ (u8l_trans h h1)
  ·intro h
   rcases u8l_tri v.val.toList u.val.toList with h1 | h1 | h1
   ·exact h1
   ·exact absurd (bytes_ext h1) hgood.2.1
   ·exact absurd h1 h
 have HRS:Hid (blameV ks (v::ta) (u::tb)=some (if D=true then blameL (u::tb) (v::ta)else blameL (v::ta) (u::tb))):=zh (by
  rw[HN.out,hD]
  by_cases h:u.val.toList < v.val.toList
  ·rw[if_pos h,if_pos (decide_eq_true h)]
  ·rw[if_neg h,if_neg (by rw[decide_eq_false h];decide)])
 clear hD hls hgood hr ha hb al3 bl3 hac hbc hW1 HH1 hab hbb
 obtain⟨na,hna'⟩:∃ na,na=(v::ta).length:=⟨_,rfl⟩
 obtain⟨nb,hnb'⟩:∃ nb,nb=(u::tb).length:=⟨_,rfl⟩
 have HN7:Hid (na=(v::ta).length∧nb=(u::tb).length∧na≤7∧nb≤7):=zh ⟨hna',hnb',by rw[hna'];exact hla,by rw[hnb'];exact hlb⟩
 rw[← hna']at hna hpa HKA HVA al1 ⊢
 rw[← hnb']at hnb hpb HKB HVB bl1 ⊢
 clear hna' hnb' hla hlb
 have hpa':(0:Int) < (na:Int):=by omega
 have hpb':(0:Int) < (nb:Int):=by omega
 have HNAB:Hid (na=(v::ta).length∧nb=(u::tb).length∧na≤7∧nb≤7):=zh HN7.out
 clear HN HN7
 obtain⟨A,hA⟩:∃ A,A=v::ta:=⟨_,rfl⟩
 obtain⟨B,hB⟩:∃ B,B=u::tb:=⟨_,rfl⟩
 rw[← hA,← hB]at HRS HNAB HAA HAB ⊢
 rw[← hA]at HVA
 rw[← hB]at HVB
 clear hA hB
 obtain⟨vc,vn,vs,vv,vl⟩:=v
 obtain⟨uc,un,us,uv,ul⟩:=u
 simp only at HC1 HKA HKB hsl hst hgt
 go_enter Tryz.func32,Tryz.ntmps32
 go_upto_region 1 with fail
 rw[← HW1.out]
 refine wp_region_noPanic ?_
 refine wp_region_lexB [.q 0,.q 1,.q 2,.q 3,.q 4,.q 5,.q 6,.q 7,.q 8,.q 9,.q 10,.q 11,.q 12,.q 13,.q 14,.q 15,.q 16,.q 17,.q 18,.q 19,.q 20,.q 21,.q 22,.q 23,.q 24,.q 25,.q 26,.q 27,.q 28,.q 29,.q 30,.q 31,.q 32,.q 33,.q 34,.q 35,.q 36,.q 37,.q 38,.q 39,.q 40,.b 41,.q 42,.q 43,.q 44,.q 45,.q 46,.q 47,.q 48,.q 49,.q 50,.q 51,.q 52,.q 53,.q 54,.b 55,.q 56,.q 57] (by kernel_rfl) (by kernel_rfl) (fun _ _ _ _ h=>h) ?_
 iterate 4(refine wpFl_qL (v:=?_) rfl (Or.inl ⟨by rfl,?_⟩) ?_;rotate_left;(focus(intro w' hSw;obtain⟨k0,⟨a0,a1,a2,a3,a4⟩,b0,b1,b2,b3,b4⟩:=HC1.out w' hSw;go_simp;(try with_reducible rfl);done));simp only[Act.put,zzA,zzB,zzC])
 iterate 3(refine wpFl_qL (v:=?_) rfl (Or.inl ⟨by rfl,?_⟩) ?_;rotate_left;(focus(intro w' hSw;obtain⟨k0,⟨a0,a1,a2,a3,a4⟩,b0,b1,b2,b3,b4⟩:=HC1.out w' hSw;go_simp;(try with_reducible rfl);done));simp only[Act.put,zzA,zzB,zzC])
 refine wpFl_qL (v:=?_) rfl (Or.inl ⟨by rfl,?_⟩) ?_
 rotate_left
 focus(intro w' hSw;go_simp;(try with_reducible rfl);done)
 simp only[Act.put,zzA,zzB,zzC]
 refine wpFl_qL (v:=?_) rfl (Or.inl ⟨by rfl,?_⟩) ?_
 rotate_left
 focus(intro w' hSw;go_simp;(try with_reducible rfl);done)
 simp only[Act.put,zzA,zzB,zzC]
 iterate 9(refine wpFl_qL (v:=?_) rfl (Or.inl ⟨by rfl,?_⟩) ?_;rotate_left;(focus(intro w' hSw;obtain⟨k0,⟨a0,a1,a2,a3,a4⟩,b0,b1,b2,b3,b4⟩:=HC1.out w' hSw;go_simp;(try with_reducible rfl);done));simp only[Act.put,zzA,zzB,zzC])
 refine wpFl_qL (v:=?_) rfl (Or.inl ⟨by rfl,?_⟩) ?_
 rotate_left
 focus(intro w' hSw;go_simp;(try with_reducible rfl);done)
 simp only[Act.put,zzA,zzB,zzC]
 refine wpFl_qL (v:=?_) rfl (Or.inl ⟨by rfl,?_⟩) ?_
 rotate_left
 focus(intro w' hSw;go_simp;(try with_reducible rfl);done)
 simp only[Act.put,zzA,zzB,zzC]
 iterate 9(refine wpFl_qL (v:=?_) rfl (Or.inl ⟨by rfl,?_⟩) ?_;rotate_left;(focus(intro w' hSw;obtain⟨k0,⟨a0,a1,a2,a3,a4⟩,b0,b1,b2,b3,b4⟩:=HC1.out w' hSw;go_simp;(try with_reducible rfl);done));simp only[Act.put,zzA,zzB,zzC])
 refine wpFl_qL (v:=?_) rfl (Or.inl ⟨by rfl,?_⟩) ?_
 rotate_left
 focus(intro w' hSw;go_simp;(try with_reducible rfl);done)
 simp only[Act.put,zzA,zzB,zzC]
 refine wpFl_qL (v:=?_) rfl (Or.inl ⟨by rfl,?_⟩) ?_
 rotate_left
 focus(intro w' hSw;go_simp;(try with_reducible rfl);done)
 simp only[Act.put,zzA,zzB,zzC]
 iterate 10(refine wpFl_qL (v:=?_) rfl (Or.inl ⟨by rfl,?_⟩) ?_;rotate_left;(focus(intro w' hSw;obtain⟨k0,⟨a0,a1,a2,a3,a4⟩,b0,b1,b2,b3,b4⟩:=HC1.out w' hSw;go_simp;(try with_reducible rfl);done));simp only[Act.put,zzA,zzB,zzC])
 refine wpFl_bL rfl (fun wa1 hna1 hsa1 K hK=>?_)
 go_simp
 go_at_call 58
 refine(HKA.out wa1 (q_next HB1.out hsa1)).mono ?_
 rintro e wb1 ⟨rfl,hb1⟩
 have HBC1:=zh (q_next hsa1 hb1)
 refine hK.out _ _ HBC1.out (Keeps.below hb1) ?_
 clear hK K hna1 hsa1 hb1
 refine wpFl_qL (v:=?_) rfl (Or.inl ⟨by rfl,?_⟩) ?_
 rotate_left
 focus(intro w' hSw;go_simp;(try with_reducible rfl);done)
 simp only[Act.put,zzA,zzB,zzC]
 refine wpFl_qL (v:=?_) rfl (Or.inl ⟨by rfl,?_⟩) ?_
 rotate_left
 focus(intro w' hSw;go_simp;(try with_reducible rfl);done)
 simp only[Act.put,zzA,zzB,zzC]
 refine wpFl_qL (v:=?_) rfl (Or.inl ⟨by rfl,?_⟩) ?_
 rotate_left
 focus(intro w' hSw;go_simp;(try with_reducible rfl);done)
 simp only[Act.put,zzA,zzB,zzC]
 iterate 10(refine wpFl_qL (v:=?_) rfl (Or.inl ⟨by rfl,?_⟩) ?_;rotate_left;(focus(intro w' hSw;obtain⟨k0,⟨a0,a1,a2,a3,a4⟩,b0,b1,b2,b3,b4⟩:=HC1.out w' hSw;go_simp;(try with_reducible rfl);done));simp only[Act.put,zzA,zzB,zzC])
 refine wpFl_bL rfl (fun wa2 hna2 hsa2 K hK=>?_)
 go_simp
 go_at_call 58
 refine(HKB.out wa2 (q_next HB1.out hsa2)).mono ?_
 rintro e wb2 ⟨rfl,hb2⟩
 have HBC2:=zh (q_next hsa2 hb2)
 refine hK.out _ _ HBC2.out (Keeps.below hb2) ?_
 clear hK K hna2 hsa2 hb2
 refine wpFl_qL (v:=?_) rfl (Or.inl ⟨by rfl,?_⟩) ?_
 rotate_left
 focus(intro w' hSw;go_simp;(try with_reducible rfl);done)
 simp only[Act.put,zzA,zzB,zzC]
 refine wpFl_qL (v:=?_) rfl (Or.inl ⟨by rfl,?_⟩) ?_
 rotate_left
 focus(intro w' hSw;go_simp;(try with_reducible rfl);done)
 simp only[Act.put,zzA,zzB,zzC]
 refine wpFl_nil ?_
 refine NoPanic.normal ?_
 go_upto_region 3 with fail
 skip
 have HBL:Hid (BlAt w (.slice none 0 0) [] wb2.drew):=zh ⟨q_next HB1.out (q_next HBC2.out (Below.drew br0)),OwnE.nil _ _ _ _⟩
 cases D
 ·have hbl:Op.bytesLess vv.toList uv.toList=true:=hgt
  clear hgt
  refine wp_region_noPanic ?_
  refine wp_region_lexB [.q 0,.q 1,.q 2,.q 3,.q 4,.q 5,.q 6,.q 7,.q 8] (by kernel_rfl) (by kernel_rfl) (fun _ _ _ _ h=>h) ?_
  iterate 9(refine wpFl_qL (v:=?_) rfl (Or.inl ⟨by rfl,?_⟩) ?_;rotate_left;(focus(intro w' hSw;obtain⟨k0,⟨a0,a1,a2,a3,a4⟩,b0,b1,b2,b3,b4⟩:=HC1.out w' (q_next HBC2.out hSw);go_simp;(try with_reducible rfl);done));simp only[Act.put,zzA,zzB,zzC])
  refine wpFl_nil ?_
  refine NoPanic.normal ?_
  have HNA:=zh HNAB.out.1
  have HNB:=zh HNAB.out.2.1
  have hn7:=HNAB.out.2.2
  have HLQ:Hid (∀ k,(pairsQ (A.take k) B).length≤49):=zh (fun k=>by
   have h1:=pairsQ_len (A.take k) B
   have h2:=List.length_take_le' k A
   rw[← HNA.out]at h2
   rw[← HNB.out]at h1
   have h3:(A.take k).length*nb≤7*7:=Nat.mul_le_mul (by omega) (by omega)
   omega)
  have HLR:Hid (∀ y t,(rowQ y B t).length≤7):=zh (fun y t=>by
   have h1:=rowQ_len y B t
   rw[← HNB.out]at h1
   omega)
  go_upto_region 5 with fail
  go_wp2
  go_loopw [8,9] (fun out i wr=>∃(k m:Nat) (va:Option Addr) (vc:Nat),k≤na∧i=.int .i64 k∧out=.slice va m vc∧Hid ((pairsQ (A.take k) B).length=m)∧Hid (BlAt w (.slice va m vc) (pairsQ (A.take k) B) wr)) (fun _ i _=>na - (intOf i).toNat)
  case atStart=>exact⟨0,0,none,0,by omega,rfl,rfl,zh rfl,HBL⟩
  case round =>
   obtain⟨k,m,va,vc,hk,rfl,rfl,hlen,hP⟩:=hrel
   by_cases hlt:k < na
   ·obtain⟨y,ey⟩:∃ y,A[k]?=some y:=⟨_,List.getElem?_eq_getElem (by rw[← HNA.out];assumption)⟩
    obtain⟨a2,c2,e2,_,_,h3⟩:=HVA.out.opened
    obtain⟨b',o',hbo,hb',d⟩:=h3 k y ey
    have he1:(⟨ab,ao,none⟩:Addr)=⟨b',o',none⟩:=by
     injection e2 with e3 _ _
     rw[← e3]at hbo
     exact Option.some.inj hbo
    injection he1 with e4 e5 _
    subst e4 e5
    have HDY:Hid (∀ W,Below w.heap.size w W→VAt W ab (ao+k*5) y):=zh (fun W hW=>d.keep hW hb')
    clear d h3 e2 hbo hb'
    have HSN:=zh (pairsQ_snoc (b:=B) ey)
    have HRA:=zh (rowQ_all y B)
    have HR0:Hid (pairsQ (A.take k) B++rowQ y B 0=pairsQ (A.take k) B):=zh (by unfold rowQ;simp)
    have hpk:(k:Int) < (na:Int):=by omega
    have hpk0:(0:Int)≤(k:Int):=by omega
    have hw1:IntKind.i64.wrap ((k:Int)+1)=(k:Int)+1:=IntWalk.i64_in _ (by omega)
    clear ey
    go_wp2
    go_loopw [8,10] (fun out i wr=>∃(t m2:Nat) (vx:Option Addr) (xc:Nat),t≤nb∧i=.int .i64 t∧out=.slice vx m2 xc∧Hid ((pairsQ (A.take k) B++rowQ y B t).length=m2)∧Hid (BlAt w (.slice vx m2 xc) (pairsQ (A.take k) B++rowQ y B t) wr)) (fun _ i _=>nb - (intOf i).toNat)
    case atStart=>exact⟨0,m,va,vc,by omega,rfl,rfl,by rw[HR0.out];exact hlen,by rw[HR0.out];exact hP⟩
    case round =>
     clear HR0 hlen hP
     obtain⟨t,m2,vx,xc,ht,rfl,rfl,hlen2,hP2⟩:=hrel
     by_cases hlt2:t < nb
     ·obtain⟨u,eu⟩:∃ y,B[t]?=some y:=⟨_,List.getElem?_eq_getElem (by rw[← HNB.out];assumption)⟩
      obtain⟨a2,c2,e2,_,_,h3⟩:=HVB.out.opened
      obtain⟨b',o',hbo,hb',d⟩:=h3 t u eu
      have he1:(⟨bb,bo,none⟩:Addr)=⟨b',o',none⟩:=by
       injection e2 with e3 _ _
       rw[← e3]at hbo
       exact Option.some.inj hbo
      injection he1 with e4 e5 _
      subst e4 e5
      have HDU:Hid (∀ W,Below w.heap.size w W→VAt W bb (bo+t*5) u):=zh (fun W hW=>d.keep hW hb')
      clear d h3 e2 hbo hb'
      have HSR:=zh (rowQ_snoc (v:=y) eu)
      have hpt:(t:Int) < (nb:Int):=by omega
      have hpt0:(0:Int)≤(t:Int):=by omega
      have hw2:IntKind.i64.wrap ((t:Int)+1)=(t:Int)+1:=IntWalk.i64_in _ (by omega)
      have hm2:m2≤56:=by
       have h1:=HLQ.out k
       have h2:=HLR.out y t
       have h3:=hlen2.out
       rw[List.length_append]at h3
       omega
      obtain⟨yc,yn,ys,yv,yl⟩:=y
      obtain⟨uc',un',us',uv',ul'⟩:=u
      have HC2:Hid (∀ W,Below wr.heap.size wr W→(W.cell? ⟨ab,ao+k*5,none⟩=some (.int .i64 yc)∧W.cell? ⟨ab,ao+k*5+1,none⟩=some (.int .i64 yn)∧W.cell? ⟨ab,ao+k*5+2,none⟩=some (.int .i64 ys)∧W.cell? ⟨ab,ao+k*5+3,none⟩=some (.string yv)∧W.cell? ⟨ab,ao+k*5+4,none⟩=some (.string yl))∧(W.cell? ⟨bb,bo+t*5,none⟩=some (.int .i64 uc')∧W.cell? ⟨bb,bo+t*5+1,none⟩=some (.int .i64 un')∧W.cell? ⟨bb,bo+t*5+2,none⟩=some (.int .i64 us')∧W.cell? ⟨bb,bo+t*5+3,none⟩=some (.string uv')∧W.cell? ⟨bb,bo+t*5+4,none⟩=some (.string ul'))):=zh (fun W hW=>⟨HDY.out W (q_next hP2.out.1 hW),HDU.out W (q_next hP2.out.1 hW)⟩)
      go_upto_region 12 with fail
      by_cases hc:yc=uc'
      ·have hce:(yc == uc')=true:=by simp[hc]
       have HNX:=zh (show pairsQ (A.take k) B++rowQ ⟨yc,yn,ys,yv,yl⟩ B (t+1)=(pairsQ (A.take k) B++rowQ ⟨yc,yn,ys,yv,yl⟩ B t)++[(⟨yc,yn,ys,yv,yl⟩,⟨uc',un',us',uv',ul'⟩)] by rw[HSR.out,if_pos hc,List.append_assoc])
       clear HSR eu hc
       refine wp_region_noPanic ?_
       refine wp_region_lexB [.q 0,.q 1,.q 2,.q 3,.q 4,.q 5,.q 6,.q 7,.q 8,.q 9,.q 10] (by kernel_rfl) (by kernel_rfl) (fun _ _ _ _ h=>h) ?_
       iterate 11(refine wpFl_qL (v:=?_) rfl (Or.inl ⟨by rfl,?_⟩) ?_;rotate_left;(focus(intro w' hSw;obtain⟨⟨g0,g1,g2,g3,g4⟩,f0,f1,f2,f3,f4⟩:=HC2.out w' hSw;go_simp;(try with_reducible rfl);done));simp only[Act.put,zzA,zzB,zzC])
       refine wpFl_nil ?_
       refine NoPanic.normal ?_
       go_upto_region 13 with fail
       obtain⟨w9,hw9⟩:∃ W,W=World.drew wr:=⟨_,rfl⟩
       rw[← hw9]
       have HP9:Hid (BlAt w (.slice vx m2 xc) (pairsQ (A.take k) B++rowQ ⟨yc,yn,ys,yv,yl⟩ B t) w9):=zh (hP2.out.far (by rw[hw9];exact Below.drew br0))
       clear hw9 HC2
       have HC9:Hid (∀ W,LowKept w9 w.heap.size W→(W.cell? ⟨ab,ao+k*5,none⟩=some (.int .i64 yc)∧W.cell? ⟨ab,ao+k*5+1,none⟩=some (.int .i64 yn)∧W.cell? ⟨ab,ao+k*5+2,none⟩=some (.int .i64 ys)∧W.cell? ⟨ab,ao+k*5+3,none⟩=some (.string yv)∧W.cell? ⟨ab,ao+k*5+4,none⟩=some (.string yl))∧(W.cell? ⟨bb,bo+t*5,none⟩=some (.int .i64 uc')∧W.cell? ⟨bb,bo+t*5+1,none⟩=some (.int .i64 un')∧W.cell? ⟨bb,bo+t*5+2,none⟩=some (.int .i64 us')∧W.cell? ⟨bb,bo+t*5+3,none⟩=some (.string uv')∧W.cell? ⟨bb,bo+t*5+4,none⟩=some (.string ul'))):=zh (fun W hW=>⟨HDY.out W (HP9.out.1.trans hW.2),HDU.out W (HP9.out.1.trans hW.2)⟩)
       have HS9:Hid (LowKept w9 w.heap.size w9.drew):=zh ⟨HP9.out.1.size,(Below.drew br0).mono HP9.out.1.size⟩
       refine wp_region_noPanic ?_
       refine wp_region_lexF [.q 0,.q 1,.q 2,.q 3,.q 4,.q 5,.q 6,.q 7,.q 8,.q 9,.an 10,.co 10,.b 11,.q 12] (LowKept w9 w.heap.size) (by kernel_rfl) (by kernel_rfl) (fun _ _ _ _ h=>h) LowKept.more HS9.out ?_
       iterate 10(refine wpFl_qL (v:=?_) rfl (Or.inl ⟨by rfl,?_⟩) ?_;rotate_left;(focus(intro w' hSw;obtain⟨⟨g0,g1,g2,g3,g4⟩,f0,f1,f2,f3,f4⟩:=HC9.out w' hSw;go_simp;(try with_reducible rfl);done));simp only[Act.put,zzA,zzB,zzC])
       refine wpFl_anL rfl (.cells #[.int .i64 yc,.int .i64 yn,.int .i64 ys,.string yv,.string yl,.int .i64 uc',.int .i64 un',.int .i64 us',.string uv',.string ul'] 45 (0,0)) (fun n=>.slice (some ⟨n,0,none⟩) 1 1) ⟨by rfl,fun w'=>?_⟩ ?_
       focus(go_simp;done)
       refine wpFl_coL rfl (.cells #[.int .i64 yc,.int .i64 yn,.int .i64 ys,.string yv,.string yl,.int .i64 uc',.int .i64 un',.int .i64 us',.string uv',.string ul'] 45 (0,0)) (fun n=>.slice (some ⟨n,0,none⟩) 1 1) (by rfl) (N':=[]) (by rfl) (fun ba wa hn_wa hs_wa hb_ba hz_ba=>?_)
       simp only[Act.put,zzA,zzB,zzC]
       refine wpFl_bS rfl (fun wb hnb hsb K hK=>?_)
       have HZ:=zh ((hnb.block ba (ltA hz_ba)).trans hz_ba)
       have HPb:=zh ((HP9.out.far (q_next (Below.drew br0) hn_wa)).far hnb)
       refine step_append_double _ _ w.heap.size (.slice vx m2 xc) _ (⟨yc,yn,ys,yv,yl⟩,⟨uc',un',us',uv',ul'⟩) ba (0,0) HPb.out.2 (by rw[hlen2.out];omega) HPb.out.1.size HZ.out rfl rfl rfl rfl ?_
       intro v8 wc8 hown8 hgr8
       have HPc:=zh (HPb.out.append hgr8 hown8)
       have HSc:Hid (LowKept w9 w.heap.size wc8):=zh ⟨hsb.1,hsb.2.grown hgr8 (Nat.le_trans hsb.1 hsb.2.size) (fun j e=>OwnE.ge HPb.out.2 j e)⟩
       refine hK.out _ _ HSc.out (Nat.le_trans hsb.2.size hgr8.size) Keeps.nil ?_
       clear hK K
       obtain⟨va8,vc8,hv8⟩:=OwnD.form hown8
       rw[List.length_append,hlen2.out]at hv8
       simp only[List.length_cons,List.length_nil,Nat.zero_add]at hv8
       clear hown8 hgr8 hnb hsb HZ HPb HSc hs_wa hb_ba hz_ba hn_wa
       subst hv8
       refine wpFl_qL (v:=?_) rfl (Or.inl ⟨by rfl,?_⟩) ?_
       rotate_left
       focus(intro w' hSw;go_simp;(try with_reducible rfl);done)
       simp only[Act.put,zzA,zzB,zzC]
       refine wpFl_nil ?_
       refine NoPanic.normal ?_
       go_wp2
       go_roundw
       case rel =>
        refine⟨t+1,m2+1,va8,vc8,by omega,by go_num,rfl,?_,?_⟩
        ·rw[HNX.out,List.length_append,hlen2.out];exact zh rfl
        ·rw[HNX.out];exact HPc
       case measure=>simp[intOf];omega
      ·have hce:(yc == uc')=false:=by simp[hc]
       have HNX:=zh (show pairsQ (A.take k) B++rowQ ⟨yc,yn,ys,yv,yl⟩ B (t+1)=pairsQ (A.take k) B++rowQ ⟨yc,yn,ys,yv,yl⟩ B t by rw[HSR.out,if_neg hc,List.append_nil])
       clear HSR eu hc
       refine wp_region_noPanic ?_
       refine wp_region_lexB [.q 0,.q 1,.q 2,.q 3,.q 4,.q 5,.q 6,.q 7,.q 8,.q 9,.q 10] (by kernel_rfl) (by kernel_rfl) (fun _ _ _ _ h=>h) ?_
       iterate 11(refine wpFl_qL (v:=?_) rfl (Or.inl ⟨by rfl,?_⟩) ?_;rotate_left;(focus(intro w' hSw;obtain⟨⟨g0,g1,g2,g3,g4⟩,f0,f1,f2,f3,f4⟩:=HC2.out w' hSw;go_simp;(try with_reducible rfl);done));simp only[Act.put,zzA,zzB,zzC])
       refine wpFl_nil ?_
       refine NoPanic.normal ?_
       go_wp2
       go_roundw
       case rel =>
        refine⟨t+1,m2,vx,xc,by omega,by go_num,rfl,?_,?_⟩
        ·rw[HNX.out];exact hlen2
        ·rw[HNX.out];exact zh (hP2.out.far (Below.drew br0))
       case measure=>simp[intOf];omega
     ·obtain rfl:t=nb:=by omega
      have HNX:=zh (show pairsQ (A.take (k+1)) B=pairsQ (A.take k) B++rowQ y B t by rw[HSN.out,← HRA.out,← HNB.out])
      have hpt:¬ (t:Int) < (t:Int):=by omega
      go_wp2
      go_roundw
      case rel =>
       refine⟨k+1,m2,vx,xc,by omega,by go_num,rfl,?_,?_⟩
       ·rw[HNX.out];exact hlen2
       ·rw[HNX.out];exact hP2
      case measure=>simp[intOf];omega
   ·obtain rfl:k=na:=by omega
    have hpk:¬ (k:Int) < (k:Int):=by omega
    go_wp2
    go_ret2
    rw[HRS.out]
    refine⟨_,rfl,?_,hP.out.1⟩
    have e:(A.take k)=A:=by rw[HNA.out,List.take_length]
    have h2:=hP.out.2.ds
    rw[e,HAB.out]at h2
    exact h2
 ·have hbl:Op.bytesLess vv.toList uv.toList=false:=hgt
  clear hgt
  refine wp_region_noPanic ?_
  refine wp_region_lexB [.q 0,.q 1,.q 2,.q 3,.q 4,.q 5,.q 6,.q 7,.q 8] (by kernel_rfl) (by kernel_rfl) (fun _ _ _ _ h=>h) ?_
  iterate 9(refine wpFl_qL (v:=?_) rfl (Or.inl ⟨by rfl,?_⟩) ?_;rotate_left;(focus(intro w' hSw;obtain⟨k0,⟨a0,a1,a2,a3,a4⟩,b0,b1,b2,b3,b4⟩:=HC1.out w' (q_next HBC2.out hSw);go_simp;(try with_reducible rfl);done));simp only[Act.put,zzA,zzB,zzC])
  refine wpFl_nil ?_
  refine NoPanic.normal ?_
  have HNA:=zh HNAB.out.2.1
  have HNB:=zh HNAB.out.1
  have hn7:=HNAB.out.2.2
  have HLQ:Hid (∀ k,(pairsQ (B.take k) A).length≤49):=zh (fun k=>by
   have h1:=pairsQ_len (B.take k) A
   have h2:=List.length_take_le' k B
   rw[← HNA.out]at h2
   rw[← HNB.out]at h1
   have h3:(B.take k).length*na≤7*7:=Nat.mul_le_mul (by omega) (by omega)
   omega)
  have HLR:Hid (∀ y t,(rowQ y A t).length≤7):=zh (fun y t=>by
   have h1:=rowQ_len y A t
   rw[← HNB.out]at h1
   omega)
  go_upto_region 5 with fail
  go_wp2
  go_loopw [8,9] (fun out i wr=>∃(k m:Nat) (va:Option Addr) (vc:Nat),k≤nb∧i=.int .i64 k∧out=.slice va m vc∧Hid ((pairsQ (B.take k) A).length=m)∧Hid (BlAt w (.slice va m vc) (pairsQ (B.take k) A) wr)) (fun _ i _=>nb - (intOf i).toNat)
  case atStart=>exact⟨0,0,none,0,by omega,rfl,rfl,zh rfl,HBL⟩
  case round =>
   obtain⟨k,m,va,vc,hk,rfl,rfl,hlen,hP⟩:=hrel
   by_cases hlt:k < nb
   ·obtain⟨y,ey⟩:∃ y,B[k]?=some y:=⟨_,List.getElem?_eq_getElem (by rw[← HNA.out];assumption)⟩
    obtain⟨a2,c2,e2,_,_,h3⟩:=HVB.out.opened
    obtain⟨b',o',hbo,hb',d⟩:=h3 k y ey
    have he1:(⟨bb,bo,none⟩:Addr)=⟨b',o',none⟩:=by
     injection e2 with e3 _ _
     rw[← e3]at hbo
     exact Option.some.inj hbo
    injection he1 with e4 e5 _
    subst e4 e5
    have HDY:Hid (∀ W,Below w.heap.size w W→VAt W bb (bo+k*5) y):=zh (fun W hW=>d.keep hW hb')
    clear d h3 e2 hbo hb'
    have HSN:=zh (pairsQ_snoc (b:=A) ey)
    have HRA:=zh (rowQ_all y A)
    have HR0:Hid (pairsQ (B.take k) A++rowQ y A 0=pairsQ (B.take k) A):=zh (by unfold rowQ;simp)
    have hpk:(k:Int) < (nb:Int):=by omega
    have hpk0:(0:Int)≤(k:Int):=by omega
    have hw1:IntKind.i64.wrap ((k:Int)+1)=(k:Int)+1:=IntWalk.i64_in _ (by omega)
    clear ey
    go_wp2
    go_loopw [8,10] (fun out i wr=>∃(t m2:Nat) (vx:Option Addr) (xc:Nat),t≤na∧i=.int .i64 t∧out=.slice vx m2 xc∧Hid ((pairsQ (B.take k) A++rowQ y A t).length=m2)∧Hid (BlAt w (.slice vx m2 xc) (pairsQ (B.take k) A++rowQ y A t) wr)) (fun _ i _=>na - (intOf i).toNat)
    case atStart=>exact⟨0,m,va,vc,by omega,rfl,rfl,by rw[HR0.out];exact hlen,by rw[HR0.out];exact hP⟩
    case round =>
     clear HR0 hlen hP
     obtain⟨t,m2,vx,xc,ht,rfl,rfl,hlen2,hP2⟩:=hrel
     by_cases hlt2:t < na
     ·obtain⟨u,eu⟩:∃ y,A[t]?=some y:=⟨_,List.getElem?_eq_getElem (by rw[← HNB.out];assumption)⟩
      obtain⟨a2,c2,e2,_,_,h3⟩:=HVA.out.opened
      obtain⟨b',o',hbo,hb',d⟩:=h3 t u eu
      have he1:(⟨ab,ao,none⟩:Addr)=⟨b',o',none⟩:=by
       injection e2 with e3 _ _
       rw[← e3]at hbo
       exact Option.some.inj hbo
      injection he1 with e4 e5 _
      subst e4 e5
      have HDU:Hid (∀ W,Below w.heap.size w W→VAt W ab (ao+t*5) u):=zh (fun W hW=>d.keep hW hb')
      clear d h3 e2 hbo hb'
      have HSR:=zh (rowQ_snoc (v:=y) eu)
      have hpt:(t:Int) < (na:Int):=by omega
      have hpt0:(0:Int)≤(t:Int):=by omega
      have hw2:IntKind.i64.wrap ((t:Int)+1)=(t:Int)+1:=IntWalk.i64_in _ (by omega)
      have hm2:m2≤56:=by
       have h1:=HLQ.out k
       have h2:=HLR.out y t
       have h3:=hlen2.out
       rw[List.length_append]at h3
       omega
      obtain⟨yc,yn,ys,yv,yl⟩:=y
      obtain⟨uc',un',us',uv',ul'⟩:=u
      have HC2:Hid (∀ W,Below wr.heap.size wr W→(W.cell? ⟨bb,bo+k*5,none⟩=some (.int .i64 yc)∧W.cell? ⟨bb,bo+k*5+1,none⟩=some (.int .i64 yn)∧W.cell? ⟨bb,bo+k*5+2,none⟩=some (.int .i64 ys)∧W.cell? ⟨bb,bo+k*5+3,none⟩=some (.string yv)∧W.cell? ⟨bb,bo+k*5+4,none⟩=some (.string yl))∧(W.cell? ⟨ab,ao+t*5,none⟩=some (.int .i64 uc')∧W.cell? ⟨ab,ao+t*5+1,none⟩=some (.int .i64 un')∧W.cell? ⟨ab,ao+t*5+2,none⟩=some (.int .i64 us')∧W.cell? ⟨ab,ao+t*5+3,none⟩=some (.string uv')∧W.cell? ⟨ab,ao+t*5+4,none⟩=some (.string ul'))):=zh (fun W hW=>⟨HDY.out W (q_next hP2.out.1 hW),HDU.out W (q_next hP2.out.1 hW)⟩)
      go_upto_region 12 with fail
      by_cases hc:yc=uc'
      ·have hce:(yc == uc')=true:=by simp[hc]
       have HNX:=zh (show pairsQ (B.take k) A++rowQ ⟨yc,yn,ys,yv,yl⟩ A (t+1)=(pairsQ (B.take k) A++rowQ ⟨yc,yn,ys,yv,yl⟩ A t)++[(⟨yc,yn,ys,yv,yl⟩,⟨uc',un',us',uv',ul'⟩)] by rw[HSR.out,if_pos hc,List.append_assoc])
       clear HSR eu hc
       refine wp_region_noPanic ?_
       refine wp_region_lexB [.q 0,.q 1,.q 2,.q 3,.q 4,.q 5,.q 6,.q 7,.q 8,.q 9,.q 10] (by kernel_rfl) (by kernel_rfl) (fun _ _ _ _ h=>h) ?_
       iterate 11(refine wpFl_qL (v:=?_) rfl (Or.inl ⟨by rfl,?_⟩) ?_;rotate_left;(focus(intro w' hSw;obtain⟨⟨g0,g1,g2,g3,g4⟩,f0,f1,f2,f3,f4⟩:=HC2.out w' hSw;go_simp;(try with_reducible rfl);done));simp only[Act.put,zzA,zzB,zzC])
       refine wpFl_nil ?_
       refine NoPanic.normal ?_
       go_upto_region 13 with fail
       obtain⟨w9,hw9⟩:∃ W,W=World.drew wr:=⟨_,rfl⟩
       rw[← hw9]
       have HP9:Hid (BlAt w (.slice vx m2 xc) (pairsQ (B.take k) A++rowQ ⟨yc,yn,ys,yv,yl⟩ A t) w9):=zh (hP2.out.far (by rw[hw9];exact Below.drew br0))
       clear hw9 HC2
       have HC9:Hid (∀ W,LowKept w9 w.heap.size W→(W.cell? ⟨bb,bo+k*5,none⟩=some (.int .i64 yc)∧W.cell? ⟨bb,bo+k*5+1,none⟩=some (.int .i64 yn)∧W.cell? ⟨bb,bo+k*5+2,none⟩=some (.int .i64 ys)∧W.cell? ⟨bb,bo+k*5+3,none⟩=some (.string yv)∧W.cell? ⟨bb,bo+k*5+4,none⟩=some (.string yl))∧(W.cell? ⟨ab,ao+t*5,none⟩=some (.int .i64 uc')∧W.cell? ⟨ab,ao+t*5+1,none⟩=some (.int .i64 un')∧W.cell? ⟨ab,ao+t*5+2,none⟩=some (.int .i64 us')∧W.cell? ⟨ab,ao+t*5+3,none⟩=some (.string uv')∧W.cell? ⟨ab,ao+t*5+4,none⟩=some (.string ul'))):=zh (fun W hW=>⟨HDY.out W (HP9.out.1.trans hW.2),HDU.out W (HP9.out.1.trans hW.2)⟩)
       have HS9:Hid (LowKept w9 w.heap.size w9.drew):=zh ⟨HP9.out.1.size,(Below.drew br0).mono HP9.out.1.size⟩
       refine wp_region_noPanic ?_
       refine wp_region_lexF [.q 0,.q 1,.q 2,.q 3,.q 4,.q 5,.q 6,.q 7,.q 8,.q 9,.an 10,.co 10,.b 11,.q 12] (LowKept w9 w.heap.size) (by kernel_rfl) (by kernel_rfl) (fun _ _ _ _ h=>h) LowKept.more HS9.out ?_
       iterate 10(refine wpFl_qL (v:=?_) rfl (Or.inl ⟨by rfl,?_⟩) ?_;rotate_left;(focus(intro w' hSw;obtain⟨⟨g0,g1,g2,g3,g4⟩,f0,f1,f2,f3,f4⟩:=HC9.out w' hSw;go_simp;(try with_reducible rfl);done));simp only[Act.put,zzA,zzB,zzC])
       refine wpFl_anL rfl (.cells #[.int .i64 yc,.int .i64 yn,.int .i64 ys,.string yv,.string yl,.int .i64 uc',.int .i64 un',.int .i64 us',.string uv',.string ul'] 45 (0,0)) (fun n=>.slice (some ⟨n,0,none⟩) 1 1) ⟨by rfl,fun w'=>?_⟩ ?_
       focus(go_simp;done)
       refine wpFl_coL rfl (.cells #[.int .i64 yc,.int .i64 yn,.int .i64 ys,.string yv,.string yl,.int .i64 uc',.int .i64 un',.int .i64 us',.string uv',.string ul'] 45 (0,0)) (fun n=>.slice (some ⟨n,0,none⟩) 1 1) (by rfl) (N':=[]) (by rfl) (fun ba wa hn_wa hs_wa hb_ba hz_ba=>?_)
       simp only[Act.put,zzA,zzB,zzC]
       refine wpFl_bS rfl (fun wb hnb hsb K hK=>?_)
       have HZ:=zh ((hnb.block ba (ltA hz_ba)).trans hz_ba)
       have HPb:=zh ((HP9.out.far (q_next (Below.drew br0) hn_wa)).far hnb)
       refine step_append_double _ _ w.heap.size (.slice vx m2 xc) _ (⟨yc,yn,ys,yv,yl⟩,⟨uc',un',us',uv',ul'⟩) ba (0,0) HPb.out.2 (by rw[hlen2.out];omega) HPb.out.1.size HZ.out rfl rfl rfl rfl ?_
       intro v8 wc8 hown8 hgr8
       have HPc:=zh (HPb.out.append hgr8 hown8)
       have HSc:Hid (LowKept w9 w.heap.size wc8):=zh ⟨hsb.1,hsb.2.grown hgr8 (Nat.le_trans hsb.1 hsb.2.size) (fun j e=>OwnE.ge HPb.out.2 j e)⟩
       refine hK.out _ _ HSc.out (Nat.le_trans hsb.2.size hgr8.size) Keeps.nil ?_
       clear hK K
       obtain⟨va8,vc8,hv8⟩:=OwnD.form hown8
       rw[List.length_append,hlen2.out]at hv8
       simp only[List.length_cons,List.length_nil,Nat.zero_add]at hv8
       clear hown8 hgr8 hnb hsb HZ HPb HSc hs_wa hb_ba hz_ba hn_wa
       subst hv8
       refine wpFl_qL (v:=?_) rfl (Or.inl ⟨by rfl,?_⟩) ?_
       rotate_left
       focus(intro w' hSw;go_simp;(try with_reducible rfl);done)
       simp only[Act.put,zzA,zzB,zzC]
       refine wpFl_nil ?_
       refine NoPanic.normal ?_
       go_wp2
       go_roundw
       case rel =>
        refine⟨t+1,m2+1,va8,vc8,by omega,by go_num,rfl,?_,?_⟩
        ·rw[HNX.out,List.length_append,hlen2.out];exact zh rfl
        ·rw[HNX.out];exact HPc
       case measure=>simp[intOf];omega
      ·have hce:(yc == uc')=false:=by simp[hc]
       have HNX:=zh (show pairsQ (B.take k) A++rowQ ⟨yc,yn,ys,yv,yl⟩ A (t+1)=pairsQ (B.take k) A++rowQ ⟨yc,yn,ys,yv,yl⟩ A t by rw[HSR.out,if_neg hc,List.append_nil])
       clear HSR eu hc
       refine wp_region_noPanic ?_
       refine wp_region_lexB [.q 0,.q 1,.q 2,.q 3,.q 4,.q 5,.q 6,.q 7,.q 8,.q 9,.q 10] (by kernel_rfl) (by kernel_rfl) (fun _ _ _ _ h=>h) ?_
       iterate 11(refine wpFl_qL (v:=?_) rfl (Or.inl ⟨by rfl,?_⟩) ?_;rotate_left;(focus(intro w' hSw;obtain⟨⟨g0,g1,g2,g3,g4⟩,f0,f1,f2,f3,f4⟩:=HC2.out w' hSw;go_simp;(try with_reducible rfl);done));simp only[Act.put,zzA,zzB,zzC])
       refine wpFl_nil ?_
       refine NoPanic.normal ?_
       go_wp2
       go_roundw
       case rel =>
        refine⟨t+1,m2,vx,xc,by omega,by go_num,rfl,?_,?_⟩
        ·rw[HNX.out];exact hlen2
        ·rw[HNX.out];exact zh (hP2.out.far (Below.drew br0))
       case measure=>simp[intOf];omega
     ·obtain rfl:t=na:=by omega
      have HNX:=zh (show pairsQ (B.take (k+1)) A=pairsQ (B.take k) A++rowQ y A t by rw[HSN.out,← HRA.out,← HNB.out])
      have hpt:¬ (t:Int) < (t:Int):=by omega
      go_wp2
      go_roundw
      case rel =>
       refine⟨k+1,m2,vx,xc,by omega,by go_num,rfl,?_,?_⟩
       ·rw[HNX.out];exact hlen2
       ·rw[HNX.out];exact hP2
      case measure=>simp[intOf];omega
   ·obtain rfl:k=nb:=by omega
    have hpk:¬ (k:Int) < (k:Int):=by omega
    go_wp2
    go_ret2
    rw[HRS.out]
    refine⟨_,rfl,?_,hP.out.1⟩
    have e:(B.take k)=B:=by rw[HNA.out,List.take_length]
    have h2:=hP.out.2.ds
    rw[e,HAA.out]at h2
    exact h2
theorem rblame_any {w:World}{kv x y:Value}{ks:List ByteArray}{a b:List VoteP}(hr:SS w kv ks)(hks:∀ k∈ks,k.size≤1000)(hkn:ks.length≤1000)(ha:VS w x a)(hb:VS w y b) :
  Calls Tryz.prog 32 #[.agg #[kv],x,y] w (BlameIs w (blameV ks a b)):=by
 have hk:∃ p n c,kv=.slice p n c:=by obtain⟨a,c,h,_⟩:=hr.opened;exact⟨_,_,_,h⟩
 cases a with
 | nil=>exact rblame_short ha hb hk (.inl rfl)
 | cons v ta =>
  cases b with
  | nil=>exact rblame_short ha hb hk (.inr rfl)
  | cons u tb =>
   by_cases h:(v.num=u.num∧v.stp=u.stp)∧v.val≠u.val∧checkV ks v.num v.stp v.val (v::ta)=true∧checkV ks u.num u.stp u.val (u::tb)=true
   ·exact rblame_good hr hks hkn ha hb h
   ·exact rblame_bad hr hks hkn ha hb h
def rtQN1 (c:Code):Code:=rtQ (rtQ (rtQ (rtQ (rtQ (rtQ (rtQ (rtQ (rtQ (rtQ (rtQ (rtQ (rtQ (rtQ (rtQ (rtQ (rtQ (rtQ (rtQ (c)))))))))))))))))))
theorem tailQN1 {c L:Code}(h:∃ a0 a1 a2 a3 a4 a5 a6 a7 a8 a9 a10 a11 a12 a13 a14 a15 a16 a17 a18:Code,Tryz.f3.body=some (a0.seq (a1.seq (a2.seq (a3.seq (a4.seq (a5.seq (a6.seq (a7.seq (a8.seq (a9.seq (a10.seq (a11.seq (a12.seq (a13.seq (a14.seq (a15.seq (a16.seq (a17.seq (a18.seq (c)))))))))))))))))))))(hL:Tryz.f3.body.map rtQN1=some L:=by rfl):c=L:=by
 obtain⟨a0,a1,a2,a3,a4,a5,a6,a7,a8,a9,a10,a11,a12,a13,a14,a15,a16,a17,a18,e⟩:=h
 rw[e]at hL
 exact Option.some.inj hL
set_option maxHeartbeats 16000000 in
set_option maxRecDepth 100000 in
theorem mref_blame {w wb:World}(HBW:Hid (Below w.heap.size w wb))(HE:Hid (QEnv wb))(bc m kc:Nat)(ka:Option Addr)(ks:List ByteArray)(va vb vo:Value)(A B O:List VoteP)(hm:m=ks.length)(hks:Hid (∀ k∈ks,k.size≤1000))(hm2:m≤1000)
  (HK:Hid (SS wb (.slice ka m kc) ks)) (HA:Hid (VS wb va A)) (HB:Hid (VS wb vb B)) (HO:Hid (VS wb vo O)) (HC:Hid (∀ W,Below wb.heap.size wb W→W.cell? ⟨bc,0,none⟩=some (.slice ka m kc))) {u0 u1 u2 u3 u4 u5 u6 u7 u8 u9 u10 u11 u12 u13 u14 u15 u16 u17 u18 u21 u22 u23 u25 u26 u27 u28 u29 u30 u31 u32 u33 u34 u35 u36 u37 u38 u39 u40 u41 u42 u43 u44 u45 u46 u47 u48 u49 u51 u53 u54 u55 u56 u57 u58 u59 u60 u61 u62 u63 u64 u65 u66 u67 u68 u69 u70 u71 u72 u73 u74 u75 u76 u77 u78 u79 u80 u81 u82 u83 u84 u85 u86 u87 u88 u89 u90 u91 u92 u93 u94 u95 u96 u97 u98 u99 u100 u101 u102 u103 u104 u105 u106 u107 u108 u109 u110 u111 u112 u113 u114 u115 u116 u117 u118 u119 u120 u121 u122 u123 u124 u125 u126 u127 u128 u129 u130 u131 u132 u133 u134 u135 u136 u137 u138 u139 u140 u141 u142 u143 u144 u145 u146 u147 u148 u149 u150 u151 u152 u153 u154 u155 u156 u157 u158 u159 u160 u161 u162 u163 u164 u165 u166 u167 u168 u169 u170 u171 u172 u173 u174 u175 u176 u177 u178 u179 u180 u181 u182 u183 u184 u185 u186 u187 u188 u189 u190 u191 u192 u193 u194 u195 u196 u197 u198 u199 u200 u201 u202 u203 u204 u205 u206 u207 u208 u209 u210 u211 u212 u213 u214 u215 u216 u217 u218 u219 u220 u221 u222 u223 u224 u225 u226 u227 u228 u229 u230 u231 u232 u233 u234 u235 u236 u237 u238 u239 u240 u241 u242 u243 u244 u245 u246 u247 u248 u249 u250 u251 u252 u253 u254 u255 u256 u257 u258 u259 u260 u261 u262 u263 u264 u265 u266 u267 u268 u269 u270 u271 u272 u273 u274 u275 u276 u277 u278 u279 u280 u281 u282 u283 u284 u285 u286 u287 u288 u289 u290 u291 u292 u293 u294 u295 u296 u297 u298 u299 u300 u301 u302 u303 u304 u305 u306 u307 u308 u309 u310 u311 u312 u313 u314 u315 u316 u317 u318 u319 u320 u321 u322 u323 u324 u325 u326 u327 u328 u329 u330 u331 u332 u333 u334 u335 u336 u337 u338 u339 u340 u341 u342 u343 u344 u345 u346 u347 u348 u349 u350 u351 u352 u353 u354 u355 u356 u357 u358 u359 u360 u361 u362 u363 u364 u365 u366 u367 u368 u369 u370 u371 u372 u373 u374 u375 u376 u377 u378 u379 u380 u381 u382 u383 u384 u385 u386 u387 u388 u389 u390 u391 u392 u393 u394 u395 u396 u397 u398 u399 u400 u401 u402 u403 u404 u405 u406 u407 u408 u409 u410 u411 u412 u413 u414 u415 u416 u417 u418 u419 u420 u421 u422 u423 u424 u425 u426 u427 u428 u429 u430 u431 u432 u433 u434 u435 u436 u437 u438 u439:Value} :
  ∃ c:Code,(∃ a0 a1 a2 a3 a4 a5 a6 a7 a8 a9 a10 a11 a12 a13 a14 a15 a16 a17 a18:Code,Tryz.f3.body=some (a0.seq (a1.seq (a2.seq (a3.seq (a4.seq (a5.seq (a6.seq (a7.seq (a8.seq (a9.seq (a10.seq (a11.seq (a12.seq (a13.seq (a14.seq (a15.seq (a16.seq (a17.seq (a18.seq (c)))))))))))))))))))))∧c.wp Tryz.prog (bodyPost Tryz.prog Tryz.f3 fun e w'=>e=.returned (.bool true)∧Below w.heap.size w w') { tmps:=#[u0,u1,u2,u3,u4,u5,u6,u7,u8,u9,u10,u11,u12,u13,u14,u15,u16,u17,u18,.bool true,.pointer (some ⟨bc,0,none⟩),u21,u22,u23,vo,u25,u26,u27,u28,u29,u30,u31,u32,u33,u34,u35,u36,u37,u38,u39,u40,u41,u42,u43,u44,u45,u46,u47,u48,u49,va,u51,vb,u53,u54,u55,u56,u57,u58,u59,u60,u61,u62,u63,u64,u65,u66,u67,u68,u69,u70,u71,u72,u73,u74,u75,u76,u77,u78,u79,u80,u81,u82,u83,u84,u85,u86,u87,u88,u89,u90,u91,u92,u93,u94,u95,u96,u97,u98,u99,u100,u101,u102,u103,u104,u105,u106,u107,u108,u109,u110,u111,u112,u113,u114,u115,u116,u117,u118,u119,u120,u121,u122,u123,u124,u125,u126,u127,u128,u129,u130,u131,u132,u133,u134,u135,u136,u137,u138,u139,u140,u141,u142,u143,u144,u145,u146,u147,u148,u149,u150,u151,u152,u153,u154,u155,u156,u157,u158,u159,u160,u161,u162,u163,u164,u165,u166,u167,u168,u169,u170,u171,u172,u173,u174,u175,u176,u177,u178,u179,u180,u181,u182,u183,u184,u185,u186,u187,u188,u189,u190,u191,u192,u193,u194,u195,u196,u197,u198,u199,u200,u201,u202,u203,u204,u205,u206,u207,u208,u209,u210,u211,u212,u213,u214,u215,u216,u217,u218,u219,u220,u221,u222,u223,u224,u225,u226,u227,u228,u229,u230,u231,u232,u233,u234,u235,u236,u237,u238,u239,u240,u241,u242,u243,u244,u245,u246,u247,u248,u249,u250,u251,u252,u253,u254,u255,u256,u257,u258,u259,u260,u261,u262,u263,u264,u265,u266,u267,u268,u269,u270,u271,u272,u273,u274,u275,u276,u277,u278,u279,u280,u281,u282,u283,u284,u285,u286,u287,u288,u289,u290,u291,u292,u293,u294,u295,u296,u297,u298,u299,u300,u301,u302,u303,u304,u305,u306,u307,u308,u309,u310,u311,u312,u313,u314,u315,u316,u317,u318,u319,u320,u321,u322,u323,u324,u325,u326,u327,u328,u329,u330,u331,u332,u333,u334,u335,u336,u337,u338,u339,u340,u341,u342,u343,u344,u345,u346,u347,u348,u349,u350,u351,u352,u353,u354,u355,u356,u357,u358,u359,u360,u361,u362,u363,u364,u365,u366,u367,u368,u369,u370,u371,u372,u373,u374,u375,u376,u377,u378,u379,u380,u381,u382,u383,u384,u385,u386,u387,u388,u389,u390,u391,u392,u393,u394,u395,u396,u397,u398,u399,u400,u401,u402,u403,u404,u405,u406,u407,u408,u409,u410,u411,u412,u413,u414,u415,u416,u417,u418,u419,u420,u421,u422,u423,u424,u425,u426,u427,u428,u429,u430,u431,u432,u433,u434,u435,u436,u437,u438,u439],defers:=[] } wb:=by
 refine⟨_,⟨_,_,_,_,_,_,_,_,_,_,_,_,_,_,_,_,_,_,_,rfl⟩,?_⟩
 have hk1:ks.length≤1000:=by omega
 have HKL:=zh hk1
 clear hm hm2 hk1
 obtain⟨aa,an,ac,ha⟩:=HA.out.form
 obtain⟨ba,bn,bc',hb⟩:=HB.out.form
 obtain⟨oa,on1,oc,ho⟩:=HO.out.form
 obtain⟨W1,hW1⟩:∃ W1,W1=wb.alloc (.cells #[va,vb,vb,va,va,va,va,vo,.slice none 0 0,vb] 52):=⟨_,rfl⟩
 have HB1:Hid (Below wb.heap.size wb W1):=zh (by rw[hW1];exact br0.alloc (Nat.le_refl _) _)
 have HX1:Hid (W1.heap[wb.heap.size]?=some (.cells #[va,vb,vb,va,va,va,va,vo,.slice none 0 0,vb] 52 (0,0))):=zh (by rw[hW1];exact heap_alloc_new wb _)
 have HW1:=zh hW1
 clear hW1
 obtain⟨br,hbr⟩:∃ b,b=wb.heap.size:=⟨_,rfl⟩
 rw[← hbr]at HX1
 have HPR:Hid (∀ k,k < 5→∃(xa:Option Addr) (xn xc:Nat) (ya:Option Addr) (yn yc:Nat) (X Y:List VoteP),(∀ W,Below W1.heap.size W1 W→W.cell? ⟨br,k*2,none⟩=some (.slice xa xn xc)∧W.cell? ⟨br,k*2+1,none⟩=some (.slice ya yn yc))∧VS wb (.slice xa xn xc) X∧VS wb (.slice ya yn yc) Y):=zh (fun k hk=>by
  have hrow:∀ W,Below W1.heap.size W1 W→W.heap[br]?=some (.cells #[va,vb,vb,va,va,va,va,vo,.slice none 0 0,vb] 52 (0,0)):=fun W hW=>(hW.block _ (ltA HX1.out)).trans HX1.out
  have hA:=HA.out
  have hB:=HB.out
  have hO:=HO.out
  rw[ha]at hA
  rw[hb]at hB
  rw[ho]at hO
  match k,hk with
  | 0,_=>exact⟨_,_,_,_,_,_,_,_,fun W hW=>⟨by rw[← ha];exact cell_of_row W _ 0 _ _ _ (hrow W hW),by rw[← hb];exact cell_of_row W _ 1 _ _ _ (hrow W hW)⟩,hA,hB⟩
  | 1,_=>exact⟨_,_,_,_,_,_,_,_,fun W hW=>⟨by rw[← hb];exact cell_of_row W _ 2 _ _ _ (hrow W hW),by rw[← ha];exact cell_of_row W _ 3 _ _ _ (hrow W hW)⟩,hB,hA⟩
  | 2,_=>exact⟨_,_,_,_,_,_,_,_,fun W hW=>⟨by rw[← ha];exact cell_of_row W _ 4 _ _ _ (hrow W hW),by rw[← ha];exact cell_of_row W _ 5 _ _ _ (hrow W hW)⟩,hA,hA⟩
  | 3,_=>exact⟨_,_,_,_,_,_,_,_,fun W hW=>⟨by rw[← ha];exact cell_of_row W _ 6 _ _ _ (hrow W hW),by rw[← ho];exact cell_of_row W _ 7 _ _ _ (hrow W hW)⟩,hA,hO⟩
  | 4,_=>exact⟨none,0,0,_,_,_,[],_,fun W hW=>⟨cell_of_row W _ 8 _ _ _ (hrow W hW),by rw[← hb];exact cell_of_row W _ 9 _ _ _ (hrow W hW)⟩,VS.nil _,hB⟩)
 rw[ha,hb,ho]at HW1
 subst ha hb ho
 go_upto_region 42 with fail
 rw[← HW1.out,← hbr]
 clear HX1 HW1 hbr
 go_wp2
 go_loopw [407] (fun i wr=>∃ k:Nat,k≤5∧i=.int .i64 k∧Hid (Below W1.heap.size W1 wr)) (fun i _=>5 - (intOf i).toNat)
 case atStart=>exact⟨0,by omega,rfl,zh br0⟩
 case round =>
  obtain⟨k,hk,rfl,hB⟩:=hrel
  by_cases hlt:k < 5
  ·have tk:(k:Int) < 5:=by omega
   have tk0:(0:Int)≤(k:Int):=by omega
   obtain⟨xa,xn,xc,ya,yn,yc,X,Y,hcell,hX,hY⟩:=HPR.out k hlt
   obtain⟨r0,r1⟩:=hcell wr hB.out
   go_upto_region 44 with fail
   clear r0 r1
   obtain⟨W8,hW8⟩:∃ W,W=wr.alloc (.cells #[.slice xa xn xc,.slice ya yn yc] 52):=⟨_,rfl⟩
   have HV_W8:Hid (W8.heap[wr.heap.size]?=some (.cells #[.slice xa xn xc,.slice ya yn yc] 52 (0,0))):=zh (by rw[hW8];exact heap_alloc_new wr _)
   have HS_W8:Hid (Below wr.heap.size wr W8):=zh (by rw[hW8];exact br0.alloc (Nat.le_refl _) _)
   have HB_W8:=zh (q_next hB.out HS_W8.out)
   rw[← hW8]
   obtain⟨be,hbe⟩:∃ b,b=wr.heap.size:=⟨_,rfl⟩
   rw[← hbe]at HV_W8 ⊢
   clear hW8 hbe
   have HB8:=zh (q_next HB1.out HB_W8.out)
   have HQ:=zh (blame_any (HK.out.below HB8.out) (hX.below HB8.out) (hY.below HB8.out) (HE.out.step HB8.out).env (HE.out.step HB8.out).round)
   have HR:=zh (fun W (hW:Below wb.heap.size wb W)=>rblame_any (HK.out.below hW) hks.out HKL.out (hX.below hW) (hY.below hW))
   have HCE:Hid (∀ W,Below W8.heap.size W8 W→W.cell? ⟨bc,0,none⟩=some (.slice ka m kc)∧W.cell? ⟨be,0,none⟩=some (.slice xa xn xc)∧W.cell? ⟨be,1,none⟩=some (.slice ya yn yc)):=zh (fun W hW=>by
    have h:=(hW.block _ (ltA HV_W8.out)).trans HV_W8.out
    exact⟨HC.out W (q_next HB8.out hW),cell_of_row W _ 0 _ _ _ h,cell_of_row W _ 1 _ _ _ h⟩)
   clear hX hY hcell HS_W8 HV_W8
   generalize blameV ks X Y=R at *
   obtain⟨c0,p0,p1⟩:=HCE.out W8 br0
   go_upto_region 45 with(go_at_call 31;(with_reducible refine HQ.out.mono ?_);clear c0 p0 p1;rintro e w2 ⟨d1,rfl,hd1,hb2⟩;have HB2:=zh hb2;have HD1:=zh hd1;obtain⟨c0,p0,p1⟩:=HCE.out w2 HB2.out)
   have HR2:=zh (HR.out w2 (q_next HB8.out HB2.out))
   go_upto_region 46 with(go_at_call 32;(with_reducible refine HR2.out.mono ?_);clear c0 p0 p1;rintro e w3 ⟨d2,rfl,hd2,hb3⟩;have HB3:=zh (q_next HB2.out hb3);have HD2:=zh hd2;have HD3:=zh (HD1.out.below hb3))
   have HSD:=zh (sameD_any HD3.out HD2.out)
   rw[decide_eq_true rfl]at HSD
   go_wp2_with (go_at_call 33;(with_reducible refine HSD.out.mono ?_);rintro e w4 ⟨rfl,hb4⟩;have HB4:=zh (q_next HB3.out hb4))
   go_roundw
   case rel=>exact⟨k+1,by omega,by go_num,zh (q_next HB_W8.out HB4.out)⟩
   case measure=>simp[intOf];omega
  ·obtain rfl:k=5:=by omega
   go_wp2
   go_ret
   exact⟨rfl,HBW.out.trans ((q_next HB1.out hB.out).mono HBW.out.size)⟩
end Go.Proofs.YtggdcnjaofflbaaGreatDoor
