/- Walk of package quorum: Blame at two proofs that contradict each other. The conditions: what the slices read as, the table of constants. -/
import Derived.Test.YtggdcnjaofflbaaGreatDoorMM17
namespace Go.Proofs.YtggdcnjaofflbaaGreatDoor
open Go.RowKit Go.BigFrame
theorem blameV_good {ks:List ByteArray}{v u:VoteP}{ta tb:List VoteP}(h:(v.num=u.num∧v.stp=u.stp)∧v.val≠u.val∧checkV ks v.num v.stp v.val (v::ta)=true∧checkV ks u.num u.stp u.val (u::tb)=true):blameV ks (v::ta) (u::tb)=some (if u.val.toList < v.val.toList then blameL (u::tb) (v::ta)else blameL (v::ta) (u::tb)):=by
 unfold blameV
 simp only
 rw[if_pos h]
def BlAt (w:World)(v:Value)(l:List (VoteP × VoteP))(W:World):Prop:=Below w.heap.size w W∧OwnD W w.heap.size v l
theorem BlAt.far {w W W':World}{v:Value}{l:List (VoteP × VoteP)}(h:BlAt w v l W)(hb:Below W.heap.size W W'):BlAt w v l W':=⟨q_next h.1 hb,OwnE.far h.2 hb (Nat.le_refl _)⟩
theorem BlAt.append {w W W':World}{v v':Value}{l l':List (VoteP × VoteP)}(h:BlAt w v l W)(hg:W.grownBy W' v.ownBlock)(ho:OwnD W' w.heap.size v' l'):BlAt w v' l' W':=⟨h.1.grown hg h.1.size (fun j e=>OwnE.ge h.2 j e),ho⟩
def blame1 (b:List VoteP)(v:VoteP):Option (VoteP × VoteP):=(b.find? fun w=>decide (w.car=v.car)).map fun w=>(v,w)
theorem blameL_snoc {a b:List VoteP}{k:Nat}{v:VoteP}(h:a[k]?=some v):(a.take (k+1)).filterMap (blame1 b)=(a.take k).filterMap (blame1 b)++(blame1 b v).toList:=by
 rw[take_snocQ h,List.filterMap_append]
 cases hb:blame1 b v with
 | none=>rw[List.filterMap_cons_none hb];rfl
 | some d=>rw[List.filterMap_cons_some hb];rfl
theorem idxP_find (p:VoteP→Bool):∀(l:List VoteP) (k:Nat),(idxP (fun _ v=>p v) l k=-1∧l.find? p=none)∨∃(j:Nat) (u:VoteP),idxP (fun _ v=>p v) l k=((k+j:Nat):Int)∧l[j]?=some u∧l.find? p=some u
 | [],k=>.inl ⟨rfl,rfl⟩
 | v::t,k=>by
  rw[idxP]
  by_cases h:p v=true
  ·rw[if_pos h,List.find?_cons_of_pos h]
   exact .inr ⟨0,v,rfl,rfl,rfl⟩
  ·rw[if_neg h,List.find?_cons_of_neg h]
   rcases idxP_find p t (k+1)with⟨h1,h2⟩ | ⟨j,u,h1,h2,h3⟩
   ·exact .inl ⟨h1,h2⟩
   ·exact .inr ⟨j+1,u,by rw[h1];congr 1;omega,h2,h3⟩
set_option maxHeartbeats 16000000 in
set_option maxRecDepth 100000 in
theorem blame_good {w:World}{kv x y:Value}{ks:List ByteArray}{v u:VoteP}{ta tb:List VoteP}(hr:SS w kv ks)(ha:VS w x (v::ta))(hb:VS w y (u::tb))(he:Env w)(hg:3 < w.heap.size)
  (hgood:(v.num=u.num∧v.stp=u.stp)∧v.val≠u.val∧checkV ks v.num v.stp v.val (v::ta)=true∧checkV ks u.num u.stp u.val (u::tb)=true) :
  Calls Tryz.prog 31 #[.agg #[kv],x,y] w (BlameIs w (blameV ks (v::ta) (u::tb))):=by
 obtain⟨ka,kn,kc,rfl⟩:∃ a n c,kv=.slice a n c:=by obtain⟨a,c,h,_⟩:=hr.opened;exact⟨_,_,_,h⟩
 obtain⟨aa,ac,rfl,al1,al2,al3⟩:=ha.opened
 obtain⟨ba,bc,rfl,bl1,bl2,bl3⟩:=hb.opened
 obtain⟨ab,ao,rfl,hab,hac⟩:=al3 0 v rfl
 obtain⟨bb,bo,rfl,hbb,hbc⟩:=bl3 0 u rfl
 have HN:=zh (blameV_good hgood)
 obtain⟨W1,hW1⟩:∃ W1,W1=w.alloc (.cells #[.slice ka kn kc] 31):=⟨_,rfl⟩
 have HB1:Hid (Below w.heap.size w W1):=zh (by rw[hW1];exact br0.alloc (Nat.le_refl _) _)
 have HH1:Hid (W1.heap[w.heap.size]?=some (.cells #[.slice ka kn kc] 31 (0,0))):=zh (by rw[hW1];exact heap_alloc_new w _)
 have HC1:Hid (∀ W,Below W1.heap.size W1 W→W.cell? ⟨w.heap.size,0,none⟩=some (.slice ka kn kc)∧(W.cell? ⟨ab,ao,none⟩=some (.int .i64 v.car)∧W.cell? ⟨ab,ao+1,none⟩=some (.int .i64 v.num)∧W.cell? ⟨ab,ao+2,none⟩=some (.int .i64 v.stp)∧W.cell? ⟨ab,ao+3,none⟩=some (.string v.val)∧W.cell? ⟨ab,ao+4,none⟩=some (.string v.sl))∧(W.cell? ⟨bb,bo,none⟩=some (.int .i64 u.car)∧W.cell? ⟨bb,bo+1,none⟩=some (.int .i64 u.num)∧W.cell? ⟨bb,bo+2,none⟩=some (.int .i64 u.stp)∧W.cell? ⟨bb,bo+3,none⟩=some (.string u.val)∧W.cell? ⟨bb,bo+4,none⟩=some (.string u.sl))):=zh (fun W hW =>
  ⟨cell_of_row W _ 0 _ _ _ ((hW.block _ (ltA HH1.out)).trans HH1.out),(VAt.keep hac (q_next HB1.out hW) hab).cells0,(VAt.keep hbc (q_next HB1.out hW) hbb).cells0⟩)
 have HKA:Hid (∀ W,Below w.heap.size w W→Calls Tryz.prog 39 #[.agg #[.slice ka kn kc],.agg #[.int .i64 v.num,.int .i64 v.stp],.string v.val,.slice (some ⟨ab,ao,none⟩) (v::ta).length ac] W fun e w'=>e=.returned (.bool (checkV ks v.num v.stp v.val (v::ta)))∧Below W.heap.size W w'):=zh (fun W hW=>qcheck_any (hr.below hW) (ha.below hW) _ _ _ (he.below hW hg) (Nat.lt_of_lt_of_le hg hW.size))
 have HKB:Hid (∀ W,Below w.heap.size w W→Calls Tryz.prog 39 #[.agg #[.slice ka kn kc],.agg #[.int .i64 u.num,.int .i64 u.stp],.string u.val,.slice (some ⟨bb,bo,none⟩) (u::tb).length bc] W fun e w'=>e=.returned (.bool (checkV ks u.num u.stp u.val (u::tb)))∧Below W.heap.size W w'):=zh (fun W hW=>qcheck_any (hr.below hW) (hb.below hW) _ _ _ (he.below hW hg) (Nat.lt_of_lt_of_le hg hW.size))
 have HW1:=zh hW1
 have hsl:=fun X=>neqSlot v.num v.stp u.num u.stp X
 have hst:=same_str v.val u.val
 have hna:(((v::ta).length:Int) == 0)=false:=by simp;omega
 have hnb:(((u::tb).length:Int) == 0)=false:=by simp;omega
 have hpa:0 < (v::ta).length:=by simp
 have hpb:0 < (u::tb).length:=by simp
 rw[decide_eq_true hgood.1]at hsl
 rw[decide_eq_false hgood.2.1]at hst
 rw[hgood.2.2.1]at HKA
 rw[hgood.2.2.2]at HKB
 have HVA:=zh ha
 have hla:(v::ta).length≤7:=by
  have h1:=check_facts hgood.2.2.1
  have h2:=enough_len h1.1
  have h3:=valid_le h1.1
  omega
 have hlb:(u::tb).length≤7:=by
  have h1:=check_facts hgood.2.2.2
  have h2:=enough_len h1.1
  have h3:=valid_le h1.1
  omega
 have HVB:=zh hb
 obtain⟨D,hD⟩:∃ D,D=decide (u.val.toList < v.val.toList):=⟨_,rfl⟩
 have hls:=bytesLess_eq v.val.toList u.val.toList
 have hgt:Op.bytesLess v.val.toList u.val.toList=!D:=by
  rw[hls,hD]
  rw[Bool.eq_iff_iff,Bool.not_eq_true',decide_eq_false_iff_not,decide_eq_true_iff]
  constructor
  ·intro h h1
   exact u8l_irrefl _ (u8l_trans h h1)
  ·intro h
   rcases u8l_tri v.val.toList u.val.toList with h1 | h1 | h1
   ·exact h1
   ·exact absurd (bytes_ext h1) hgood.2.1
   ·exact absurd h1 h
 have HRS:Hid (blameV ks (v::ta) (u::tb)=some (if D=true then blameL (u::tb) (v::ta)else blameL (v::ta) (u::tb))):=zh (by
  rw[HN.out,hD]
  by_cases h:u.val.toList < v.val.toList
  ·rw[if_pos h,if_pos (decide_eq_true h)]
  ·rw[if_neg h,if_neg (by rw[decide_eq_false h];decide)])
 clear hD hls hgood hr ha hb he hg al3 bl3 hac hbc hW1 HH1 hab hbb
 obtain⟨na,hna'⟩:∃ na,na=(v::ta).length:=⟨_,rfl⟩
 obtain⟨nb,hnb'⟩:∃ nb,nb=(u::tb).length:=⟨_,rfl⟩
 have HN7:Hid (na=(v::ta).length∧nb=(u::tb).length∧na≤7∧nb≤7):=zh ⟨hna',hnb',by rw[hna'];exact hla,by rw[hnb'];exact hlb⟩
 rw[← hna']at hna hpa HKA HVA al1 ⊢
 rw[← hnb']at hnb hpb HKB HVB bl1 ⊢
 clear hna' hnb' hla hlb
 have hpa':(0:Int) < (na:Int):=by omega
 have hpb':(0:Int) < (nb:Int):=by omega
 have HNAB:Hid (na=(v::ta).length∧nb=(u::tb).length∧na≤7∧nb≤7):=zh HN7.out
 clear HN HN7
 obtain⟨A,hA⟩:∃ A,A=v::ta:=⟨_,rfl⟩
 obtain⟨B,hB⟩:∃ B,B=u::tb:=⟨_,rfl⟩
 rw[← hA,← hB]at HRS HNAB ⊢
 rw[← hA]at HVA
 rw[← hB]at HVB
 clear hA hB
 obtain⟨vc,vn,vs,vv,vl⟩:=v
 obtain⟨uc,un,us,uv,ul⟩:=u
 simp only at HC1 HKA HKB hsl hst hgt
 go_enter Tryz.func31,Tryz.ntmps31
 go_upto_region 1 with fail
 rw[← HW1.out]
 refine wp_region_noPanic ?_
 refine wp_region_lexB [.q 0,.q 1,.q 2,.q 3,.q 4,.q 5,.q 6,.q 7,.q 8,.q 9,.q 10,.q 11,.q 12,.q 13,.q 14,.q 15,.q 16,.q 17,.q 18,.q 19,.q 20,.q 21,.q 22,.q 23,.q 24,.q 25,.q 26,.q 27,.q 28,.q 29,.q 30,.q 31,.q 32,.q 33,.q 34,.q 35,.q 36,.q 37,.q 38,.q 39,.q 40,.b 41,.q 42,.q 43,.q 44,.q 45,.q 46,.q 47,.q 48,.q 49,.q 50,.q 51,.q 52,.q 53,.q 54,.b 55,.q 56,.q 57] (by kernel_rfl) (by kernel_rfl) (fun _ _ _ _ h=>h) ?_
 iterate 4(refine wpFl_qL (v:=?_) rfl (Or.inl ⟨by rfl,?_⟩) ?_;rotate_left;(focus(intro w' hSw;obtain⟨k0,⟨a0,a1,a2,a3,a4⟩,b0,b1,b2,b3,b4⟩:=HC1.out w' hSw;go_simp;(try with_reducible rfl);done));simp only[Act.put,zzA,zzB,zzC])
 iterate 3(refine wpFl_qL (v:=?_) rfl (Or.inl ⟨by rfl,?_⟩) ?_;rotate_left;(focus(intro w' hSw;obtain⟨k0,⟨a0,a1,a2,a3,a4⟩,b0,b1,b2,b3,b4⟩:=HC1.out w' hSw;go_simp;(try with_reducible rfl);done));simp only[Act.put,zzA,zzB,zzC])
 refine wpFl_qL (v:=?_) rfl (Or.inl ⟨by rfl,?_⟩) ?_
 rotate_left
 focus(intro w' hSw;go_simp;(try with_reducible rfl);done)
 simp only[Act.put,zzA,zzB,zzC]
 refine wpFl_qL (v:=?_) rfl (Or.inl ⟨by rfl,?_⟩) ?_
 rotate_left
 focus(intro w' hSw;go_simp;(try with_reducible rfl);done)
 simp only[Act.put,zzA,zzB,zzC]
 iterate 9(refine wpFl_qL (v:=?_) rfl (Or.inl ⟨by rfl,?_⟩) ?_;rotate_left;(focus(intro w' hSw;obtain⟨k0,⟨a0,a1,a2,a3,a4⟩,b0,b1,b2,b3,b4⟩:=HC1.out w' hSw;go_simp;(try with_reducible rfl);done));simp only[Act.put,zzA,zzB,zzC])
 refine wpFl_qL (v:=?_) rfl (Or.inl ⟨by rfl,?_⟩) ?_
 rotate_left
 focus(intro w' hSw;go_simp;(try with_reducible rfl);done)
 simp only[Act.put,zzA,zzB,zzC]
 refine wpFl_qL (v:=?_) rfl (Or.inl ⟨by rfl,?_⟩) ?_
 rotate_left
 focus(intro w' hSw;go_simp;(try with_reducible rfl);done)
 simp only[Act.put,zzA,zzB,zzC]
 iterate 9(refine wpFl_qL (v:=?_) rfl (Or.inl ⟨by rfl,?_⟩) ?_;rotate_left;(focus(intro w' hSw;obtain⟨k0,⟨a0,a1,a2,a3,a4⟩,b0,b1,b2,b3,b4⟩:=HC1.out w' hSw;go_simp;(try with_reducible rfl);done));simp only[Act.put,zzA,zzB,zzC])
 refine wpFl_qL (v:=?_) rfl (Or.inl ⟨by rfl,?_⟩) ?_
 rotate_left
 focus(intro w' hSw;go_simp;(try with_reducible rfl);done)
 simp only[Act.put,zzA,zzB,zzC]
 refine wpFl_qL (v:=?_) rfl (Or.inl ⟨by rfl,?_⟩) ?_
 rotate_left
 focus(intro w' hSw;go_simp;(try with_reducible rfl);done)
 simp only[Act.put,zzA,zzB,zzC]
 iterate 10(refine wpFl_qL (v:=?_) rfl (Or.inl ⟨by rfl,?_⟩) ?_;rotate_left;(focus(intro w' hSw;obtain⟨k0,⟨a0,a1,a2,a3,a4⟩,b0,b1,b2,b3,b4⟩:=HC1.out w' hSw;go_simp;(try with_reducible rfl);done));simp only[Act.put,zzA,zzB,zzC])
 refine wpFl_bL rfl (fun wa1 hna1 hsa1 K hK=>?_)
 go_simp
 go_at_call 39
 refine(HKA.out wa1 (q_next HB1.out hsa1)).mono ?_
 rintro e wb1 ⟨rfl,hb1⟩
 have HBC1:=zh (q_next hsa1 hb1)
 refine hK.out _ _ HBC1.out (Keeps.below hb1) ?_
 clear hK K hna1 hsa1 hb1
 refine wpFl_qL (v:=?_) rfl (Or.inl ⟨by rfl,?_⟩) ?_
 rotate_left
 focus(intro w' hSw;go_simp;(try with_reducible rfl);done)
 simp only[Act.put,zzA,zzB,zzC]
 refine wpFl_qL (v:=?_) rfl (Or.inl ⟨by rfl,?_⟩) ?_
 rotate_left
 focus(intro w' hSw;go_simp;(try with_reducible rfl);done)
 simp only[Act.put,zzA,zzB,zzC]
 refine wpFl_qL (v:=?_) rfl (Or.inl ⟨by rfl,?_⟩) ?_
 rotate_left
 focus(intro w' hSw;go_simp;(try with_reducible rfl);done)
 simp only[Act.put,zzA,zzB,zzC]
 iterate 10(refine wpFl_qL (v:=?_) rfl (Or.inl ⟨by rfl,?_⟩) ?_;rotate_left;(focus(intro w' hSw;obtain⟨k0,⟨a0,a1,a2,a3,a4⟩,b0,b1,b2,b3,b4⟩:=HC1.out w' hSw;go_simp;(try with_reducible rfl);done));simp only[Act.put,zzA,zzB,zzC])
 refine wpFl_bL rfl (fun wa2 hna2 hsa2 K hK=>?_)
 go_simp
 go_at_call 39
 refine(HKB.out wa2 (q_next HB1.out hsa2)).mono ?_
 rintro e wb2 ⟨rfl,hb2⟩
 have HBC2:=zh (q_next hsa2 hb2)
 refine hK.out _ _ HBC2.out (Keeps.below hb2) ?_
 clear hK K hna2 hsa2 hb2
 refine wpFl_qL (v:=?_) rfl (Or.inl ⟨by rfl,?_⟩) ?_
 rotate_left
 focus(intro w' hSw;go_simp;(try with_reducible rfl);done)
 simp only[Act.put,zzA,zzB,zzC]
 refine wpFl_qL (v:=?_) rfl (Or.inl ⟨by rfl,?_⟩) ?_
 rotate_left
 focus(intro w' hSw;go_simp;(try with_reducible rfl);done)
 simp only[Act.put,zzA,zzB,zzC]
 refine wpFl_nil ?_
 refine NoPanic.normal ?_
 go_upto_region 3 with fail
 skip
 have HBL:Hid (BlAt w (.slice none 0 0) [] wb2.drew):=zh ⟨q_next HB1.out (q_next HBC2.out (Below.drew br0)),OwnE.nil _ _ _ _⟩
 cases D
 ·have hbl:Op.bytesLess vv.toList uv.toList=true:=hgt
  clear hgt
  refine wp_region_noPanic ?_
  refine wp_region_lexB [.q 0,.q 1,.q 2,.q 3,.q 4,.q 5,.q 6,.q 7,.q 8] (by kernel_rfl) (by kernel_rfl) (fun _ _ _ _ h=>h) ?_
  iterate 9(refine wpFl_qL (v:=?_) rfl (Or.inl ⟨by rfl,?_⟩) ?_;rotate_left;(focus(intro w' hSw;obtain⟨k0,⟨a0,a1,a2,a3,a4⟩,b0,b1,b2,b3,b4⟩:=HC1.out w' (q_next HBC2.out hSw);go_simp;(try with_reducible rfl);done));simp only[Act.put,zzA,zzB,zzC])
  refine wpFl_nil ?_
  refine NoPanic.normal ?_
  have HNA:=zh HNAB.out.1
  have HNB:=zh HNAB.out.2.1
  have hn7:=HNAB.out.2.2
  go_upto_region 5 with fail
  go_wp2
  go_loopw [8,83] (fun out i wr=>∃(k m:Nat) (va:Option Addr) (vc:Nat),k≤na∧i=.int .i64 k∧out=.slice va m vc∧m≤k∧Hid ((((A).take k).filterMap (blame1 B)).length=m)∧Hid (BlAt w (.slice va m vc) (((A).take k).filterMap (blame1 B)) wr)) (fun _ i _=>na - (intOf i).toNat)
  case atStart=>exact⟨0,0,none,0,by omega,rfl,rfl,Nat.le_refl _,zh rfl,HBL⟩
  case round =>
   obtain⟨k,m,va,vc,hk,rfl,rfl,hmk,hlen,hP⟩:=hrel
   by_cases hlt:k < na
   ·obtain⟨y,ey⟩:∃ y,A[k]?=some y:=⟨_,List.getElem?_eq_getElem (by rw[← HNA.out];exact hlt)⟩
    obtain⟨a2,c2,e2,_,_,h3⟩:=HVA.out.opened
    obtain⟨b',o',hbo,hb',d⟩:=h3 k y ey
    have he1:(⟨ab,ao,none⟩:Addr)=⟨b',o',none⟩:=by
     injection e2 with e3 _ _
     rw[← e3]at hbo
     exact Option.some.inj hbo
    injection he1 with e4 e5 _
    subst e4 e5
    obtain⟨d0,d1,d2,d3,d4⟩:=d.keep hP.out.1 hb'
    have HSN:=zh (blameL_snoc (b:=B) ey)
    clear d h3 e2 hbo hb' ey
    have hpk:(k:Int) < (na:Int):=by omega
    have hpk0:(0:Int)≤(k:Int):=by omega
    obtain⟨W8,hW8⟩:∃ W8,W8=wr.alloc (.cells #[.int .i64 y.car,.int .i64 y.num,.int .i64 y.stp,.string y.val,.string y.sl] 27):=⟨_,rfl⟩
    have HB8:Hid (Below wr.heap.size wr W8):=zh (by rw[hW8];exact br0.alloc (Nat.le_refl _) _)
    have HV8:Hid (W8.heap[wr.heap.size]?=some (.cells #[.int .i64 y.car,.int .i64 y.num,.int .i64 y.stp,.string y.val,.string y.sl] 27 (0,0))):=zh (by rw[hW8];exact heap_alloc_new wr _)
    have HP8:=zh (hP.out.far HB8.out)
    have HIX:=indexV_blame wr.heap.size (fun _ v=>decide (v.car=y.car)) (fun _ W=>Below W8.heap.size W8 W) (HVB.out.below HP8.out.1) br0 (fun _ W hW=>HVB.out.below (q_next HP8.out.1 hW)) (fun _ v W _ _ hW=>by
     have hl:=(ltA HV8.out)
     refine(blamefn_any wr.heap.size y.car v W (cell_of_row W _ 0 _ _ _ ((hW.block _ hl).trans HV8.out)) (Nat.lt_of_lt_of_le hl hW.size)).mono ?_
     rintro e w' ⟨rfl,hb⟩
     exact⟨rfl,q_next hW hb⟩)
    have HFI:=zh (idxP_find (fun v=>decide (v.car=y.car)) B 0)
    have HB1y:Hid (blame1 B y=((B).find? fun w=>decide (w.car=y.car)).map fun w=>(y,w)):=zh rfl
    obtain⟨idx,hidx⟩:∃ idx,idx=idxP (fun _ v=>decide (v.car=y.car)) B 0:=⟨_,rfl⟩
    rw[← hidx]at HIX HFI
    have HII:=zh HIX
    have HW8:=zh hW8
    clear hidx HIX hW8
    obtain⟨yc,yn,ys,yv,yl⟩:=y
    simp only at d0 d1 d2 d3 d4 HW8 HV8
    rcases HFI.out with⟨hi1,hf1⟩ | ⟨j,u,hi1,hj1,hf1⟩
    ·subst hi1
     have HNX:=zh (show(((A).take (k+1)).filterMap (blame1 B))=(((A).take k).filterMap (blame1 B)) by rw[HSN.out,HB1y.out,hf1];simp)
     clear hf1 HFI HSN HB1y
     go_upto_region 9 with fail
     rw[← HW8.out]
     go_wp2_with (go_at_call 74;refine HII.out.mono ?_;rintro e w9 ⟨rfl,_,hb9⟩)
     go_roundw
     case rel =>
      refine⟨k+1,m,va,vc,by omega,by go_num,rfl,by omega,?_,?_⟩
      ·rw[HNX.out];exact hlen
      ·rw[HNX.out];exact zh (HP8.out.far hb9)
     case measure=>simp[intOf];omega
    ·have HNX:=zh (show(((A).take (k+1)).filterMap (blame1 B))=(((A).take k).filterMap (blame1 B))++[(⟨yc,yn,ys,yv,yl⟩,u)] by rw[HSN.out,HB1y.out,hf1];rfl)
     rw[Nat.zero_add]at hi1
     subst hi1
     obtain⟨a2,c2,e2,_,_,h3⟩:=HVB.out.opened
     obtain⟨b',o',hbo,hb',d⟩:=h3 j u hj1
     have he1:(⟨bb,bo,none⟩:Addr)=⟨b',o',none⟩:=by
      injection e2 with e3 _ _
      rw[← e3]at hbo
      exact Option.some.inj hbo
     injection he1 with e4 e5 _
     subst e4 e5
     have hjn:j < nb:=by rw[HNB.out];exact(List.getElem?_eq_some_iff.1 hj1).1
     have HDU:Hid (∀ W,Below w.heap.size w W→VAt W bb (bo+j*5) u):=zh (fun W hW=>d.keep hW hb')
     clear hf1 HFI HSN HB1y d h3 e2 hbo hb' hj1
     have hjp:(j:Int) < (nb:Int):=by omega
     have hjp0:(0:Int)≤(j:Int):=by omega
     have hge:decide ((0:Int)≤(j:Int))=true:=decide_eq_true hjp0
     go_upto_region 9 with fail
     rw[← HW8.out]
     go_upto_region 11 with(go_at_call 74;refine HII.out.mono ?_;rintro e w9 ⟨rfl,_,hb9⟩)
     have HP9:=zh (HP8.out.far hb9)
     have HV9:=zh ((hb9.block _ (ltA HV8.out)).trans HV8.out)
     clear hb9 HV8 HP8 HII d0 d1 d2 d3 d4 HB8 HW8
     obtain⟨uc',un',us',uv',ul'⟩:=u
     have HC9:Hid (∀ W,BoxKept w9 w.heap.size wr.heap.size (.cells #[.int .i64 yc,.int .i64 yn,.int .i64 ys,.string yv,.string yl] 27 (0,0)) W→(W.cell? ⟨wr.heap.size,0,none⟩=some (.int .i64 yc)∧W.cell? ⟨wr.heap.size,1,none⟩=some (.int .i64 yn)∧W.cell? ⟨wr.heap.size,2,none⟩=some (.int .i64 ys)∧W.cell? ⟨wr.heap.size,3,none⟩=some (.string yv)∧W.cell? ⟨wr.heap.size,4,none⟩=some (.string yl))∧(W.cell? ⟨bb,bo+j*5,none⟩=some (.int .i64 uc')∧W.cell? ⟨bb,bo+j*5+1,none⟩=some (.int .i64 un')∧W.cell? ⟨bb,bo+j*5+2,none⟩=some (.int .i64 us')∧W.cell? ⟨bb,bo+j*5+3,none⟩=some (.string uv')∧W.cell? ⟨bb,bo+j*5+4,none⟩=some (.string ul'))):=zh (fun W hW =>
      ⟨vcellsAt hW.2.2,HDU.out W (HP9.out.1.trans hW.2.1)⟩)
     have HS9:Hid (BoxKept w9 w.heap.size wr.heap.size (.cells #[.int .i64 yc,.int .i64 yn,.int .i64 ys,.string yv,.string yl] 27 (0,0)) w9.drew):=zh ⟨HP9.out.1.size,(Below.drew br0).mono HP9.out.1.size,HV9.out⟩
     refine wp_region_noPanic ?_
     refine wp_region_lexF [.q 0,.q 1,.q 2,.q 3,.q 4,.q 5,.q 6,.an 7,.co 7,.b 8,.q 9] (BoxKept w9 w.heap.size wr.heap.size (.cells #[.int .i64 yc,.int .i64 yn,.int .i64 ys,.string yv,.string yl] 27 (0,0))) (by kernel_rfl) (by kernel_rfl) (fun _ _ _ _ h=>h) BoxKept.more HS9.out ?_
     iterate 7(refine wpFl_qL (v:=?_) rfl (Or.inl ⟨by rfl,?_⟩) ?_;rotate_left;(focus(intro w' hSw;obtain⟨⟨g0,g1,g2,g3,g4⟩,f0,f1,f2,f3,f4⟩:=HC9.out w' hSw;go_simp;(try with_reducible rfl);done));simp only[Act.put,zzA,zzB,zzC])
     refine wpFl_anL rfl (.cells #[.int .i64 yc,.int .i64 yn,.int .i64 ys,.string yv,.string yl,.int .i64 uc',.int .i64 un',.int .i64 us',.string uv',.string ul'] 45 (0,0)) (fun n=>.slice (some ⟨n,0,none⟩) 1 1) ⟨by rfl,fun w'=>?_⟩ ?_
     focus(go_simp;done)
     refine wpFl_coL rfl (.cells #[.int .i64 yc,.int .i64 yn,.int .i64 ys,.string yv,.string yl,.int .i64 uc',.int .i64 un',.int .i64 us',.string uv',.string ul'] 45 (0,0)) (fun n=>.slice (some ⟨n,0,none⟩) 1 1) (by rfl) (N':=[]) (by rfl) (fun ba wa hn_wa hs_wa hb_ba hz_ba=>?_)
     simp only[Act.put,zzA,zzB,zzC]
     refine wpFl_bS rfl (fun wb hnb hsb K hK=>?_)
     have HZ:=zh ((hnb.block ba (ltA hz_ba)).trans hz_ba)
     have HPb:=zh ((HP9.out.far (q_next (Below.drew br0) hn_wa)).far hnb)
     refine step_append_double _ _ w.heap.size (.slice va m vc) _ (⟨yc,yn,ys,yv,yl⟩,⟨uc',un',us',uv',ul'⟩) ba (0,0) HPb.out.2 (by rw[hlen.out];omega) HPb.out.1.size HZ.out rfl rfl rfl rfl ?_
     intro v8 wc8 hown8 hgr8
     have HPc:=zh (HPb.out.append hgr8 hown8)
     have HSc:Hid (BoxKept w9 w.heap.size wr.heap.size (.cells #[.int .i64 yc,.int .i64 yn,.int .i64 ys,.string yv,.string yl] 27 (0,0)) wc8):=zh ⟨hsb.1,hsb.2.1.grown hgr8 (Nat.le_trans hsb.1 hsb.2.1.size) (fun j e=>OwnE.ge HPb.out.2 j e),(hgr8.block _ (ltA hsb.2.2) (own_ne HPb.out.2 hsb.2.2 (fun c e=>by cases e))).trans hsb.2.2⟩
     refine hK.out _ _ HSc.out (Nat.le_trans hsb.2.1.size hgr8.size) Keeps.nil ?_
     clear hK K
     obtain⟨va8,vc8,hv8⟩:=OwnD.form hown8
     rw[List.length_append,hlen.out]at hv8
     simp only[List.length_cons,List.length_nil,Nat.zero_add]at hv8
     clear hown8 hgr8 hnb hsb HZ HPb HSc hs_wa hb_ba hz_ba hn_wa
     subst hv8
     refine wpFl_qL (v:=?_) rfl (Or.inl ⟨by rfl,?_⟩) ?_
     rotate_left
     focus(intro w' hSw;go_simp;(try with_reducible rfl);done)
     simp only[Act.put,zzA,zzB,zzC]
     refine wpFl_nil ?_
     refine NoPanic.normal ?_
     go_wp2
     go_roundw
     case rel =>
      refine⟨k+1,m+1,va8,vc8,by omega,by go_num,rfl,by omega,?_,?_⟩
      ·rw[HNX.out,List.length_append,hlen.out];rfl
      ·rw[HNX.out];exact HPc
     case measure=>simp[intOf];omega
   ·obtain rfl:k=na:=by omega
    go_wp2
    go_ret2
    rw[HRS.out]
    refine⟨_,rfl,?_,hP.out.1⟩
    have e:(A.take k)=A:=by rw[HNA.out,List.take_length]
    have h2:=hP.out.2.ds
    rw[e]at h2
    exact h2
 ·have hbl:Op.bytesLess vv.toList uv.toList=false:=hgt
  clear hgt
  refine wp_region_noPanic ?_
  refine wp_region_lexB [.q 0,.q 1,.q 2,.q 3,.q 4,.q 5,.q 6,.q 7,.q 8] (by kernel_rfl) (by kernel_rfl) (fun _ _ _ _ h=>h) ?_
  iterate 9(refine wpFl_qL (v:=?_) rfl (Or.inl ⟨by rfl,?_⟩) ?_;rotate_left;(focus(intro w' hSw;obtain⟨k0,⟨a0,a1,a2,a3,a4⟩,b0,b1,b2,b3,b4⟩:=HC1.out w' (q_next HBC2.out hSw);go_simp;(try with_reducible rfl);done));simp only[Act.put,zzA,zzB,zzC])
  refine wpFl_nil ?_
  refine NoPanic.normal ?_
  have HNA:=zh HNAB.out.2.1
  have HNB:=zh HNAB.out.1
  have hn7:=HNAB.out.2.2
  go_upto_region 5 with fail
  go_wp2
  go_loopw [8,83] (fun out i wr=>∃(k m:Nat) (va:Option Addr) (vc:Nat),k≤nb∧i=.int .i64 k∧out=.slice va m vc∧m≤k∧Hid ((((B).take k).filterMap (blame1 A)).length=m)∧Hid (BlAt w (.slice va m vc) (((B).take k).filterMap (blame1 A)) wr)) (fun _ i _=>nb - (intOf i).toNat)
  case atStart=>exact⟨0,0,none,0,by omega,rfl,rfl,Nat.le_refl _,zh rfl,HBL⟩
  case round =>
   obtain⟨k,m,va,vc,hk,rfl,rfl,hmk,hlen,hP⟩:=hrel
   by_cases hlt:k < nb
   ·obtain⟨y,ey⟩:∃ y,B[k]?=some y:=⟨_,List.getElem?_eq_getElem (by rw[← HNA.out];exact hlt)⟩
    obtain⟨a2,c2,e2,_,_,h3⟩:=HVB.out.opened
    obtain⟨b',o',hbo,hb',d⟩:=h3 k y ey
    have he1:(⟨bb,bo,none⟩:Addr)=⟨b',o',none⟩:=by
     injection e2 with e3 _ _
     rw[← e3]at hbo
     exact Option.some.inj hbo
    injection he1 with e4 e5 _
    subst e4 e5
    obtain⟨d0,d1,d2,d3,d4⟩:=d.keep hP.out.1 hb'
    have HSN:=zh (blameL_snoc (b:=A) ey)
    clear d h3 e2 hbo hb' ey
    have hpk:(k:Int) < (nb:Int):=by omega
    have hpk0:(0:Int)≤(k:Int):=by omega
    obtain⟨W8,hW8⟩:∃ W8,W8=wr.alloc (.cells #[.int .i64 y.car,.int .i64 y.num,.int .i64 y.stp,.string y.val,.string y.sl] 27):=⟨_,rfl⟩
    have HB8:Hid (Below wr.heap.size wr W8):=zh (by rw[hW8];exact br0.alloc (Nat.le_refl _) _)
    have HV8:Hid (W8.heap[wr.heap.size]?=some (.cells #[.int .i64 y.car,.int .i64 y.num,.int .i64 y.stp,.string y.val,.string y.sl] 27 (0,0))):=zh (by rw[hW8];exact heap_alloc_new wr _)
    have HP8:=zh (hP.out.far HB8.out)
    have HIX:=indexV_blame wr.heap.size (fun _ v=>decide (v.car=y.car)) (fun _ W=>Below W8.heap.size W8 W) (HVA.out.below HP8.out.1) br0 (fun _ W hW=>HVA.out.below (q_next HP8.out.1 hW)) (fun _ v W _ _ hW=>by
     have hl:=(ltA HV8.out)
     refine(blamefn_any wr.heap.size y.car v W (cell_of_row W _ 0 _ _ _ ((hW.block _ hl).trans HV8.out)) (Nat.lt_of_lt_of_le hl hW.size)).mono ?_
     rintro e w' ⟨rfl,hb⟩
     exact⟨rfl,q_next hW hb⟩)
    have HFI:=zh (idxP_find (fun v=>decide (v.car=y.car)) A 0)
    have HB1y:Hid (blame1 A y=((A).find? fun w=>decide (w.car=y.car)).map fun w=>(y,w)):=zh rfl
    obtain⟨idx,hidx⟩:∃ idx,idx=idxP (fun _ v=>decide (v.car=y.car)) A 0:=⟨_,rfl⟩
    rw[← hidx]at HIX HFI
    have HII:=zh HIX
    have HW8:=zh hW8
    clear hidx HIX hW8
    obtain⟨yc,yn,ys,yv,yl⟩:=y
    simp only at d0 d1 d2 d3 d4 HW8 HV8
    rcases HFI.out with⟨hi1,hf1⟩ | ⟨j,u,hi1,hj1,hf1⟩
    ·subst hi1
     have HNX:=zh (show(((B).take (k+1)).filterMap (blame1 A))=(((B).take k).filterMap (blame1 A)) by rw[HSN.out,HB1y.out,hf1];simp)
     clear hf1 HFI HSN HB1y
     go_upto_region 9 with fail
     rw[← HW8.out]
     go_wp2_with (go_at_call 74;refine HII.out.mono ?_;rintro e w9 ⟨rfl,_,hb9⟩)
     go_roundw
     case rel =>
      refine⟨k+1,m,va,vc,by omega,by go_num,rfl,by omega,?_,?_⟩
      ·rw[HNX.out];exact hlen
      ·rw[HNX.out];exact zh (HP8.out.far hb9)
     case measure=>simp[intOf];omega
    ·have HNX:=zh (show(((B).take (k+1)).filterMap (blame1 A))=(((B).take k).filterMap (blame1 A))++[(⟨yc,yn,ys,yv,yl⟩,u)] by rw[HSN.out,HB1y.out,hf1];rfl)
     rw[Nat.zero_add]at hi1
     subst hi1
     obtain⟨a2,c2,e2,_,_,h3⟩:=HVA.out.opened
     obtain⟨b',o',hbo,hb',d⟩:=h3 j u hj1
     have he1:(⟨ab,ao,none⟩:Addr)=⟨b',o',none⟩:=by
      injection e2 with e3 _ _
      rw[← e3]at hbo
      exact Option.some.inj hbo
     injection he1 with e4 e5 _
     subst e4 e5
     have hjn:j < na:=by rw[HNB.out];exact(List.getElem?_eq_some_iff.1 hj1).1
     have HDU:Hid (∀ W,Below w.heap.size w W→VAt W ab (ao+j*5) u):=zh (fun W hW=>d.keep hW hb')
     clear hf1 HFI HSN HB1y d h3 e2 hbo hb' hj1
     have hjp:(j:Int) < (na:Int):=by omega
     have hjp0:(0:Int)≤(j:Int):=by omega
     have hge:decide ((0:Int)≤(j:Int))=true:=decide_eq_true hjp0
     go_upto_region 9 with fail
     rw[← HW8.out]
     go_upto_region 11 with(go_at_call 74;refine HII.out.mono ?_;rintro e w9 ⟨rfl,_,hb9⟩)
     have HP9:=zh (HP8.out.far hb9)
     have HV9:=zh ((hb9.block _ (ltA HV8.out)).trans HV8.out)
     clear hb9 HV8 HP8 HII d0 d1 d2 d3 d4 HB8 HW8
     obtain⟨uc',un',us',uv',ul'⟩:=u
     have HC9:Hid (∀ W,BoxKept w9 w.heap.size wr.heap.size (.cells #[.int .i64 yc,.int .i64 yn,.int .i64 ys,.string yv,.string yl] 27 (0,0)) W→(W.cell? ⟨wr.heap.size,0,none⟩=some (.int .i64 yc)∧W.cell? ⟨wr.heap.size,1,none⟩=some (.int .i64 yn)∧W.cell? ⟨wr.heap.size,2,none⟩=some (.int .i64 ys)∧W.cell? ⟨wr.heap.size,3,none⟩=some (.string yv)∧W.cell? ⟨wr.heap.size,4,none⟩=some (.string yl))∧(W.cell? ⟨ab,ao+j*5,none⟩=some (.int .i64 uc')∧W.cell? ⟨ab,ao+j*5+1,none⟩=some (.int .i64 un')∧W.cell? ⟨ab,ao+j*5+2,none⟩=some (.int .i64 us')∧W.cell? ⟨ab,ao+j*5+3,none⟩=some (.string uv')∧W.cell? ⟨ab,ao+j*5+4,none⟩=some (.string ul'))):=zh (fun W hW =>
      ⟨vcellsAt hW.2.2,HDU.out W (HP9.out.1.trans hW.2.1)⟩)
     have HS9:Hid (BoxKept w9 w.heap.size wr.heap.size (.cells #[.int .i64 yc,.int .i64 yn,.int .i64 ys,.string yv,.string yl] 27 (0,0)) w9.drew):=zh ⟨HP9.out.1.size,(Below.drew br0).mono HP9.out.1.size,HV9.out⟩
     refine wp_region_noPanic ?_
     refine wp_region_lexF [.q 0,.q 1,.q 2,.q 3,.q 4,.q 5,.q 6,.an 7,.co 7,.b 8,.q 9] (BoxKept w9 w.heap.size wr.heap.size (.cells #[.int .i64 yc,.int .i64 yn,.int .i64 ys,.string yv,.string yl] 27 (0,0))) (by kernel_rfl) (by kernel_rfl) (fun _ _ _ _ h=>h) BoxKept.more HS9.out ?_
     iterate 7(refine wpFl_qL (v:=?_) rfl (Or.inl ⟨by rfl,?_⟩) ?_;rotate_left;(focus(intro w' hSw;obtain⟨⟨g0,g1,g2,g3,g4⟩,f0,f1,f2,f3,f4⟩:=HC9.out w' hSw;go_simp;(try with_reducible rfl);done));simp only[Act.put,zzA,zzB,zzC])
     refine wpFl_anL rfl (.cells #[.int .i64 yc,.int .i64 yn,.int .i64 ys,.string yv,.string yl,.int .i64 uc',.int .i64 un',.int .i64 us',.string uv',.string ul'] 45 (0,0)) (fun n=>.slice (some ⟨n,0,none⟩) 1 1) ⟨by rfl,fun w'=>?_⟩ ?_
     focus(go_simp;done)
     refine wpFl_coL rfl (.cells #[.int .i64 yc,.int .i64 yn,.int .i64 ys,.string yv,.string yl,.int .i64 uc',.int .i64 un',.int .i64 us',.string uv',.string ul'] 45 (0,0)) (fun n=>.slice (some ⟨n,0,none⟩) 1 1) (by rfl) (N':=[]) (by rfl) (fun ba wa hn_wa hs_wa hb_ba hz_ba=>?_)
     simp only[Act.put,zzA,zzB,zzC]
     refine wpFl_bS rfl (fun wb hnb hsb K hK=>?_)
     have HZ:=zh ((hnb.block ba (ltA hz_ba)).trans hz_ba)
     have HPb:=zh ((HP9.out.far (q_next (Below.drew br0) hn_wa)).far hnb)
     refine step_append_double _ _ w.heap.size (.slice va m vc) _ (⟨yc,yn,ys,yv,yl⟩,⟨uc',un',us',uv',ul'⟩) ba (0,0) HPb.out.2 (by rw[hlen.out];omega) HPb.out.1.size HZ.out rfl rfl rfl rfl ?_
     intro v8 wc8 hown8 hgr8
     have HPc:=zh (HPb.out.append hgr8 hown8)
     have HSc:Hid (BoxKept w9 w.heap.size wr.heap.size (.cells #[.int .i64 yc,.int .i64 yn,.int .i64 ys,.string yv,.string yl] 27 (0,0)) wc8):=zh ⟨hsb.1,hsb.2.1.grown hgr8 (Nat.le_trans hsb.1 hsb.2.1.size) (fun j e=>OwnE.ge HPb.out.2 j e),(hgr8.block _ (ltA hsb.2.2) (own_ne HPb.out.2 hsb.2.2 (fun c e=>by cases e))).trans hsb.2.2⟩
     refine hK.out _ _ HSc.out (Nat.le_trans hsb.2.1.size hgr8.size) Keeps.nil ?_
     clear hK K
     obtain⟨va8,vc8,hv8⟩:=OwnD.form hown8
     rw[List.length_append,hlen.out]at hv8
     simp only[List.length_cons,List.length_nil,Nat.zero_add]at hv8
     clear hown8 hgr8 hnb hsb HZ HPb HSc hs_wa hb_ba hz_ba hn_wa
     subst hv8
     refine wpFl_qL (v:=?_) rfl (Or.inl ⟨by rfl,?_⟩) ?_
     rotate_left
     focus(intro w' hSw;go_simp;(try with_reducible rfl);done)
     simp only[Act.put,zzA,zzB,zzC]
     refine wpFl_nil ?_
     refine NoPanic.normal ?_
     go_wp2
     go_roundw
     case rel =>
      refine⟨k+1,m+1,va8,vc8,by omega,by go_num,rfl,by omega,?_,?_⟩
      ·rw[HNX.out,List.length_append,hlen.out];rfl
      ·rw[HNX.out];exact HPc
     case measure=>simp[intOf];omega
   ·obtain rfl:k=nb:=by omega
    go_wp2
    go_ret2
    rw[HRS.out]
    refine⟨_,rfl,?_,hP.out.1⟩
    have e:(B.take k)=B:=by rw[HNA.out,List.take_length]
    have h2:=hP.out.2.ds
    rw[e]at h2
    exact h2
end Go.Proofs.YtggdcnjaofflbaaGreatDoor
