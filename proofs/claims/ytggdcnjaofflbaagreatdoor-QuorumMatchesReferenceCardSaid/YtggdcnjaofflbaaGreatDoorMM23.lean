/- Walks of the reference: Genuine. The conditions: lengths of keys. -/
import Derived.Test.YtggdcnjaofflbaaGreatDoorMM22
namespace Go.Proofs.YtggdcnjaofflbaaGreatDoor
open Go.RowKit Go.BigFrame
set_option maxHeartbeats 4000000 in
theorem rgen19_any {w:World}{kv:Value}{ks:List ByteArray}(hr:SS w kv ks)(hks:∀ k∈ks,k.size≤1000)(v:VoteP) :
  Calls Tryz.prog 22 #[.agg #[kv],vagg v] w fun e w'=>e=.returned (.bool (genuineV ks v))∧Below w.heap.size w w':=by
 obtain⟨ka,kc,rfl,hkl,hkm,hk3⟩:=hr.opened
 have HK3:=zh hk3
 have HKZ:=zh hks
 obtain⟨W1,hW1⟩:∃ W1,W1=w.alloc (.cells #[.slice ka ks.length kc] 31):=⟨_,rfl⟩
 have HB1:Hid (Below w.heap.size w W1):=zh (by rw[hW1];exact br0.alloc (Nat.le_refl _) _)
 have HX1:Hid (W1.heap[w.heap.size]?=some (.cells #[.slice ka ks.length kc] 31 (0,0))):=zh (by rw[hW1];exact heap_alloc_new w _)
 obtain⟨car,num,stp,val,sl⟩:=v
 obtain⟨W2,hW2⟩:∃ W2,W2=W1.alloc (.cells #[.int .i64 car,.int .i64 num,.int .i64 stp,.string val,.string sl] 27):=⟨_,rfl⟩
 have HB2:Hid (Below W1.heap.size W1 W2):=zh (by rw[hW2];exact br0.alloc (Nat.le_refl _) _)
 have HX2:Hid (W2.heap[W1.heap.size]?=some (.cells #[.int .i64 car,.int .i64 num,.int .i64 stp,.string val,.string sl] 27 (0,0))):=zh (by rw[hW2];exact heap_alloc_new W1 _)
 have hsz:W1.heap.size=w.heap.size+1:=by rw[hW1];simp
 have HB12:=zh (HB1.out.trans (HB2.out.mono HB1.out.size))
 rw[hsz]at HX2
 have HC:=zh (fun W (hW:Below W2.heap.size W2 W)=>And.intro (cell_of_row W _ 0 _ _ _ (((q_next HB2.out hW).block _ (ltA HX1.out)).trans HX1.out)) (vcellsAt ((hW.block _ (ltA HX2.out)).trans HX2.out)))
 have HRV:=zh (fun W (hW:Below W2.heap.size W2 W)=>rvalid_any (hr.below (q_next HB12.out hW)))
 have HRF:=zh (fun W=>rformed_any ⟨car,num,stp,val,sl⟩ W)
 have HW1:=zh hW1
 have HW2:=zh hW2
 clear hW1 hW2 hk3 hks hkl hkm
 simp only[vagg]at HRF ⊢
 obtain⟨bv,hbv⟩:∃ b,b=validC ks:=⟨_,rfl⟩
 obtain⟨bf,hbf⟩:∃ b,b=formedV ⟨car,num,stp,val,sl⟩:=⟨_,rfl⟩
 have HG:Hid (genuineV ks ⟨car,num,stp,val,sl⟩=(bv && (bf && decide (car < ks.length) && decide (sl=sealV (ks.getD car.toNat ⟨#[]⟩) ⟨car,num,stp,val,sl⟩)))):=zh (by rw[hbv,hbf];rfl)
 have HBF:=zh hbf
 rw[← hbv]at HRV
 rw[← hbf]at HRF
 rw[HG.out]
 clear hbv hbf HG hr
 cases bv with
 | false =>
  go_enter Tryz.func22,Tryz.ntmps22
  go_upto_region 1 with fail
  rw[← HW1.out,← HW2.out]
  refine wp_region_noPanic ?_
  refine wp_region_lexB [.q 0,.b 1,.q 2,.q 3,.q 4,.q 5,.q 6,.q 7,.q 8,.q 9,.q 10,.q 11,.q 12,.q 13,.q 14,.q 15,.q 16,.q 17,.q 18,.q 19,.q 20,.q 21,.q 22,.q 23,.q 24,.q 25,.q 26,.q 27,.q 28] (by kernel_rfl) (by kernel_rfl) (fun _ _ _ _ h=>h) ?_
  refine wpFl_qL (v:=?_) rfl (Or.inl ⟨by rfl,?_⟩) ?_
  rotate_left
  focus(intro w' hSw;obtain⟨c0,d0,d1,d2,d3,d4⟩:=HC.out w' hSw;go_simp;(try with_reducible rfl);done)
  simp only[Act.put,zzA,zzB,zzC]
  refine wpFl_bL rfl (fun waa hnaa hsaa K hK=>?_)
  go_simp
  go_at_call 59
  (with_reducible refine(HRV.out _ hsaa).mono ?_)
  rintro e wba ⟨rfl,hba⟩
  have HBF2:=zh (q_next hsaa hba)
  refine hK.out _ _ (q_next hsaa hba) (Keeps.below hba) ?_
  clear hK K hnaa hsaa
  refine wpFl_qL (v:=?_) rfl (Or.inl ⟨by rfl,?_⟩) ?_
  rotate_left
  focus(intro w' hSw;go_simp;(try with_reducible rfl);done)
  simp only[Act.put,zzA,zzB,zzC]
  iterate 2(refine wpFl_qL (v:=undef) rfl (Or.inr ⟨by rfl,rfl⟩) ?_;simp only[Act.put,zzA,zzB,zzC])
  iterate 2(refine wpFl_qL (v:=?_) rfl (Or.inl ⟨by rfl,?_⟩) ?_;rotate_left;(focus(intro w' hSw;go_simp;(try with_reducible rfl);done));simp only[Act.put,zzA,zzB,zzC])
  iterate 6(refine wpFl_qL (v:=undef) rfl (Or.inr ⟨by rfl,rfl⟩) ?_;simp only[Act.put,zzA,zzB,zzC])
  iterate 2(refine wpFl_qL (v:=?_) rfl (Or.inl ⟨by rfl,?_⟩) ?_;rotate_left;(focus(intro w' hSw;go_simp;(try with_reducible rfl);done));simp only[Act.put,zzA,zzB,zzC])
  iterate 12(refine wpFl_qL (v:=undef) rfl (Or.inr ⟨by rfl,rfl⟩) ?_;simp only[Act.put,zzA,zzB,zzC])
  iterate 2(refine wpFl_qL (v:=?_) rfl (Or.inl ⟨by rfl,?_⟩) ?_;rotate_left;(focus(intro w' hSw;go_simp;(try with_reducible rfl);done));simp only[Act.put,zzA,zzB,zzC])
  refine wpFl_nil ?_
  refine NoPanic.normal ?_
  go_wp2
  go_ret
  exact⟨rfl,q_next HB12.out HBF2.out⟩
 | true =>
 cases bf with
 | false =>
  go_enter Tryz.func22,Tryz.ntmps22
  go_upto_region 1 with fail
  rw[← HW1.out,← HW2.out]
  refine wp_region_noPanic ?_
  refine wp_region_lexB [.q 0,.b 1,.q 2,.q 3,.b 4,.q 5,.q 6,.q 7,.q 8,.q 9,.q 10,.q 11,.q 12,.q 13,.q 14,.q 15,.q 16,.q 17,.q 18,.q 19,.q 20,.q 21,.q 22,.q 23,.q 24,.q 25,.q 26,.q 27,.q 28] (by kernel_rfl) (by kernel_rfl) (fun _ _ _ _ h=>h) ?_
  refine wpFl_qL (v:=?_) rfl (Or.inl ⟨by rfl,?_⟩) ?_
  rotate_left
  focus(intro w' hSw;obtain⟨c0,d0,d1,d2,d3,d4⟩:=HC.out w' hSw;go_simp;(try with_reducible rfl);done)
  simp only[Act.put,zzA,zzB,zzC]
  refine wpFl_bL rfl (fun waa hnaa hsaa K hK=>?_)
  go_simp
  go_at_call 59
  (with_reducible refine(HRV.out _ hsaa).mono ?_)
  rintro e wba ⟨rfl,hba⟩
  have HBF2:=zh (q_next hsaa hba)
  refine hK.out _ _ (q_next hsaa hba) (Keeps.below hba) ?_
  clear hK K hnaa hsaa
  iterate 2(refine wpFl_qL (v:=?_) rfl (Or.inl ⟨by rfl,?_⟩) ?_;rotate_left;(focus(intro w' hSw;obtain⟨c0,d0,d1,d2,d3,d4⟩:=HC.out w' hSw;go_simp;(try with_reducible rfl);done));simp only[Act.put,zzA,zzB,zzC])
  refine wpFl_bL rfl (fun wab hnab hsab K hK=>?_)
  go_simp
  go_at_call 64
  (with_reducible refine(HRF.out _).mono ?_)
  rintro e wbb ⟨rfl,hbb⟩
  have HBF3:=zh (q_next hsab hbb)
  refine hK.out _ _ (q_next hsab hbb) (Keeps.below hbb) ?_
  clear hK K hnab hsab
  iterate 2(refine wpFl_qL (v:=?_) rfl (Or.inl ⟨by rfl,?_⟩) ?_;rotate_left;(focus(intro w' hSw;go_simp;(try with_reducible rfl);done));simp only[Act.put,zzA,zzB,zzC])
  iterate 6(refine wpFl_qL (v:=undef) rfl (Or.inr ⟨by rfl,rfl⟩) ?_;simp only[Act.put,zzA,zzB,zzC])
  iterate 2(refine wpFl_qL (v:=?_) rfl (Or.inl ⟨by rfl,?_⟩) ?_;rotate_left;(focus(intro w' hSw;go_simp;(try with_reducible rfl);done));simp only[Act.put,zzA,zzB,zzC])
  iterate 12(refine wpFl_qL (v:=undef) rfl (Or.inr ⟨by rfl,rfl⟩) ?_;simp only[Act.put,zzA,zzB,zzC])
  iterate 2(refine wpFl_qL (v:=?_) rfl (Or.inl ⟨by rfl,?_⟩) ?_;rotate_left;(focus(intro w' hSw;go_simp;(try with_reducible rfl);done));simp only[Act.put,zzA,zzB,zzC])
  refine wpFl_nil ?_
  refine NoPanic.normal ?_
  go_wp2
  go_ret
  exact⟨rfl,q_next HB12.out HBF3.out⟩
 | true =>
  have HS:=zh (small_formed HBF.out.symm)
  obtain⟨h0,h7⟩:=HS.out.1
  simp only at h0 h7
  by_cases hlt:car < ks.length
  ·obtain⟨c,rfl⟩:=Int.eq_ofNat_of_zero_le h0
   have hlt2:c < ks.length:=by omega
   obtain⟨key,hk⟩:∃ k,ks[c]?=some k:=⟨_,List.getElem?_eq_getElem hlt2⟩
   obtain⟨kb,ko,rfl,hkb,hkc⟩:=HK3.out c key hk
   have hkz:=HKZ.out key (List.mem_of_getElem? hk)
   have HKK:=zh (fun W (hW:Below W2.heap.size W2 W)=>cell_keepB (q_next HB12.out hW) hkb hkc)
   have HCO:=zh (fun W=>rcontent_any ⟨(c:Int),num,stp,val,sl⟩ HS.out W)
   have hz:=voteC_le HS.out.2.2.2
   have hcv:sealV (ks.getD (Int.toNat (c:Int)) ⟨#[]⟩) ⟨(c:Int),num,stp,val,sl⟩=nodeS key (leafS (voteC ⟨(c:Int),num,stp,val,sl⟩)):=by
    rw[Int.toNat_natCast,List.getD_eq_getElem?_getD,hk]
    rfl
   rw[hcv,decide_eq_true hlt]
   generalize voteC ⟨(c:Int),num,stp,val,sl⟩=C at *
   have HSE:=zh (fun W=>rseal_any key C hkz (by omega) W)
   generalize nodeS key (leafS C)=S at *
   have hss:=same_str sl S
   obtain⟨ee,hee⟩:∃ ee,ee=decide (sl=S):=⟨_,rfl⟩
   rw[← hee]at hss ⊢
   have tc0:(0:Int)≤(c:Int):=by omega
   have tcl:(c:Int) < (ks.length:Int):=by omega
   clear hee hcv hk hkb hkc hlt hlt2 HS h0 h7 HK3 HKZ HBF
   go_enter Tryz.func22,Tryz.ntmps22
   go_upto_region 1 with fail
   rw[← HW1.out,← HW2.out]
   refine wp_region_noPanic ?_
   refine wp_region_lexB [.q 0,.b 1,.q 2,.q 3,.b 4,.q 5,.q 6,.q 7,.q 8,.q 9,.q 10,.q 11,.q 12,.q 13,.q 14,.q 15,.q 16,.q 17,.q 18,.q 19,.q 20,.q 21,.q 22,.q 23,.b 24,.b 25,.q 26,.q 27,.q 28] (by kernel_rfl) (by kernel_rfl) (fun _ _ _ _ h=>h) ?_
   refine wpFl_qL (v:=?_) rfl (Or.inl ⟨by rfl,?_⟩) ?_
   rotate_left
   focus(intro w' hSw;obtain⟨c0,d0,d1,d2,d3,d4⟩:=HC.out w' hSw;go_simp;(try with_reducible rfl);done)
   simp only[Act.put,zzA,zzB,zzC]
   refine wpFl_bL rfl (fun waa hnaa hsaa K hK=>?_)
   go_simp
   go_at_call 59
   (with_reducible refine(HRV.out _ hsaa).mono ?_)
   rintro e wba ⟨rfl,hba⟩
   have HBF2:=zh (q_next hsaa hba)
   refine hK.out _ _ (q_next hsaa hba) (Keeps.below hba) ?_
   clear hK K hnaa hsaa
   iterate 2(refine wpFl_qL (v:=?_) rfl (Or.inl ⟨by rfl,?_⟩) ?_;rotate_left;(focus(intro w' hSw;obtain⟨c0,d0,d1,d2,d3,d4⟩:=HC.out w' hSw;go_simp;(try with_reducible rfl);done));simp only[Act.put,zzA,zzB,zzC])
   refine wpFl_bL rfl (fun wab hnab hsab K hK=>?_)
   go_simp
   go_at_call 64
   (with_reducible refine(HRF.out _).mono ?_)
   rintro e wbb ⟨rfl,hbb⟩
   have HBF3:=zh (q_next hsab hbb)
   refine hK.out _ _ (q_next hsab hbb) (Keeps.below hbb) ?_
   clear hK K hnab hsab
   iterate 19(refine wpFl_qL (v:=?_) rfl (Or.inl ⟨by rfl,?_⟩) ?_;rotate_left;(focus(intro w' hSw;obtain⟨c0,d0,d1,d2,d3,d4⟩:=HC.out w' hSw;have kk:=HKK.out w' hSw;go_simp;(try with_reducible rfl);done));simp only[Act.put,zzA,zzB,zzC])
   refine wpFl_bL rfl (fun wac hnac hsac K hK=>?_)
   go_simp
   go_at_call 40
   (with_reducible refine(HCO.out _).mono ?_)
   rintro e wbc ⟨rfl,hbc⟩
   refine hK.out _ _ (q_next hsac hbc) (Keeps.below hbc) ?_
   clear hK K hnac hsac
   refine wpFl_bL rfl (fun wad hnad hsad K hK=>?_)
   go_simp
   go_at_call 56
   (with_reducible refine(HSE.out _).mono ?_)
   rintro e wbd ⟨rfl,hbd⟩
   have HBF4:=zh (q_next hsad hbd)
   refine hK.out _ _ (q_next hsad hbd) (Keeps.below hbd) ?_
   clear hK K hnad hsad
   iterate 3(refine wpFl_qL (v:=?_) rfl (Or.inl ⟨by rfl,?_⟩) ?_;rotate_left;(focus(intro w' hSw;go_simp;(try with_reducible rfl);done));simp only[Act.put,zzA,zzB,zzC])
   refine wpFl_nil ?_
   refine NoPanic.normal ?_
   go_wp2
   go_ret
   exact⟨by cases ee <;> rfl,q_next HB12.out HBF4.out⟩
  ·rw[decide_eq_false hlt]
   go_enter Tryz.func22,Tryz.ntmps22
   go_upto_region 1 with fail
   rw[← HW1.out,← HW2.out]
   refine wp_region_noPanic ?_
   refine wp_region_lexB [.q 0,.b 1,.q 2,.q 3,.b 4,.q 5,.q 6,.q 7,.q 8,.q 9,.q 10,.q 11,.q 12,.q 13,.q 14,.q 15,.q 16,.q 17,.q 18,.q 19,.q 20,.q 21,.q 22,.q 23,.q 24,.q 25,.q 26,.q 27,.q 28] (by kernel_rfl) (by kernel_rfl) (fun _ _ _ _ h=>h) ?_
   refine wpFl_qL (v:=?_) rfl (Or.inl ⟨by rfl,?_⟩) ?_
   rotate_left
   focus(intro w' hSw;obtain⟨c0,d0,d1,d2,d3,d4⟩:=HC.out w' hSw;go_simp;(try with_reducible rfl);done)
   simp only[Act.put,zzA,zzB,zzC]
   refine wpFl_bL rfl (fun waa hnaa hsaa K hK=>?_)
   go_simp
   go_at_call 59
   (with_reducible refine(HRV.out _ hsaa).mono ?_)
   rintro e wba ⟨rfl,hba⟩
   have HBF2:=zh (q_next hsaa hba)
   refine hK.out _ _ (q_next hsaa hba) (Keeps.below hba) ?_
   clear hK K hnaa hsaa
   iterate 2(refine wpFl_qL (v:=?_) rfl (Or.inl ⟨by rfl,?_⟩) ?_;rotate_left;(focus(intro w' hSw;obtain⟨c0,d0,d1,d2,d3,d4⟩:=HC.out w' hSw;go_simp;(try with_reducible rfl);done));simp only[Act.put,zzA,zzB,zzC])
   refine wpFl_bL rfl (fun wab hnab hsab K hK=>?_)
   go_simp
   go_at_call 64
   (with_reducible refine(HRF.out _).mono ?_)
   rintro e wbb ⟨rfl,hbb⟩
   have HBF3:=zh (q_next hsab hbb)
   refine hK.out _ _ (q_next hsab hbb) (Keeps.below hbb) ?_
   clear hK K hnab hsab
   iterate 10(refine wpFl_qL (v:=?_) rfl (Or.inl ⟨by rfl,?_⟩) ?_;rotate_left;(focus(intro w' hSw;obtain⟨c0,d0,d1,d2,d3,d4⟩:=HC.out w' hSw;go_simp;(try with_reducible rfl);done));simp only[Act.put,zzA,zzB,zzC])
   iterate 12(refine wpFl_qL (v:=undef) rfl (Or.inr ⟨by rfl,rfl⟩) ?_;simp only[Act.put,zzA,zzB,zzC])
   iterate 2(refine wpFl_qL (v:=?_) rfl (Or.inl ⟨by rfl,?_⟩) ?_;rotate_left;(focus(intro w' hSw;go_simp;(try with_reducible rfl);done));simp only[Act.put,zzA,zzB,zzC])
   refine wpFl_nil ?_
   refine NoPanic.normal ?_
   go_wp2
   go_ret
   exact⟨rfl,q_next HB12.out HBF3.out⟩
def okAtQ (ks:List ByteArray)(num stp:Int)(val:ByteArray)(prev:Option VoteP)(v:VoteP):Bool :=
 genuineV ks v && (decide (v.num=num∧v.stp=stp) && (decide (v.val=val) && (prev.all fun u=>decide (u.car < v.car))))
def prevQ (l:List VoteP):Nat→Option VoteP
 | 0=>none
 | k+1=>l[k]?
theorem asc_allQ {l:List VoteP}(h:∀(k:Nat) (u v:VoteP),l[k]?=some u→l[k+1]?=some v→u.car < v.car):(l.map fun v=>v.car).Pairwise (· < ·):=by
 induction l with
 | nil=>exact List.Pairwise.nil
 | cons a l ih =>
  have ih:=ih fun k u v h1 h2=>h (k+1) u v h1 h2
  rw[List.map_cons,List.pairwise_cons]
  refine⟨fun c hc=>?_,ih⟩
  cases l with
  | nil=>cases hc
  | cons b l =>
   have hab:=h 0 a b rfl rfl
   rw[List.map_cons]at hc ih
   rcases List.mem_cons.1 hc with e | hc
   ·rw[e];exact hab
   ·exact Int.lt_trans hab ((List.pairwise_cons.1 ih).1 c hc)
theorem check_all {ks:List ByteArray}{num stp:Int}{val:ByteArray}{l:List VoteP}(hv:validC ks=true)(hl:l.length=enoughC ks)(h:∀(k:Nat) (v:VoteP),l[k]?=some v→okAtQ ks num stp val (prevQ l k) v=true):checkV ks num stp val l=true:=by
 have h1:∀ v∈l,decide (v.num=num∧v.stp=stp∧v.val=val)=true∧genV ks v=true:=by
  intro v hm
  obtain⟨k,hk⟩:=List.getElem?_of_mem hm
  have a:=h k v hk
  unfold okAtQ genuineV at a
  rw[hv]at a
  simp only[Bool.true_and,Bool.and_eq_true,decide_eq_true_eq]at a
  exact⟨decide_eq_true ⟨a.2.1.1,a.2.1.2,a.2.2.1⟩,a.1⟩
 have h2:(l.map fun v=>v.car).Pairwise (· < ·):=asc_allQ fun k u v hu hw=>by
  have a:=h (k+1) v hw
  have e:prevQ l (k+1)=some u:=hu
  rw[e]at a
  unfold okAtQ at a
  simp only[Bool.and_eq_true,Option.all_some,decide_eq_true_eq]at a
  exact a.2.2.2
 unfold checkV
 rw[hv,decide_eq_true hl,decide_eq_true h2,Bool.true_and,Bool.true_and,Bool.true_and,List.all_eq_true]
 intro v hm
 rw[Bool.and_eq_true]
 exact h1 v hm
theorem check_miss {ks:List ByteArray}{num stp:Int}{val:ByteArray}{l:List VoteP}{k:Nat}{v:VoteP}(hk:l[k]?=some v)(h:okAtQ ks num stp val (prevQ l k) v=false):checkV ks num stp val l=false:=by
 cases hc:checkV ks num stp val l with
 | false=>rfl
 | true =>
  unfold checkV at hc
  simp only[Bool.and_eq_true,List.all_eq_true,decide_eq_true_eq]at hc
  obtain⟨⟨⟨hv,hl⟩,hp⟩,ha⟩:=hc
  obtain⟨⟨a1,a2,a3⟩,a4⟩:=ha v (List.mem_of_getElem? hk)
  have:okAtQ ks num stp val (prevQ l k) v=true:=by
   unfold okAtQ genuineV
   rw[hv,a4,decide_eq_true ⟨a1,a2⟩,decide_eq_true a3]
   cases k with
   | zero=>rfl
   | succ k =>
    show(true && (true && (true && (l[k]?).all _)))=true
    obtain⟨hk1,rfl⟩:=List.getElem?_eq_some_iff.1 hk
    rw[List.getElem?_eq_getElem (by omega)]
    have:=List.pairwise_iff_getElem.1 hp k (k+1) (by simp;omega) (by simpa using hk1) (by omega)
    simp only[List.getElem_map]at this
    simp[this]
  rw[this]at h
  cases h
theorem check_len {ks:List ByteArray}{num stp:Int}{val:ByteArray}{l:List VoteP}(h:¬ l.length=enoughC ks):checkV ks num stp val l=false:=by
 unfold checkV
 rw[decide_eq_false h]
 simp
theorem check_inv {ks:List ByteArray}{num stp:Int}{val:ByteArray}{l:List VoteP}(h:validC ks=false):checkV ks num stp val l=false:=by
 unfold checkV
 rw[h]
 simp
set_option maxHeartbeats 8000000 in
set_option maxRecDepth 100000 in
theorem rcheck19_any {w:World}{kv x:Value}{ks:List ByteArray}{l:List VoteP}(hr:SS w kv ks)(hks:∀ k∈ks,k.size≤1000)(hx:VS w x l)(num stp:Int)(val:ByteArray)(hkn:ks.length≤1000) :
  Calls Tryz.prog 58 #[.agg #[kv],.agg #[.int .i64 num,.int .i64 stp],.string val,x] w fun e w'=>e=.returned (.bool (checkV ks num stp val l))∧Below w.heap.size w w':=by
 obtain⟨ka,kc,hke,-,-,-⟩:=hr.opened
 obtain⟨kn,hkn2⟩:∃ n,n=ks.length:=⟨_,rfl⟩
 rw[← hkn2]at hke hkn
 subst hke
 have HKN:=zh hkn2
 obtain⟨la,lc,rfl,hll,hlm,hl3⟩:=hx.opened
 have HL3:=zh hl3
 obtain⟨N,hN⟩:∃ N,N=l.length:=⟨_,rfl⟩
 rw[← hN]at hll ⊢
 have HN:=zh hN
 have hN9:N≤9223372036854775807:=by unfold maxLen at hlm;omega
 obtain⟨W1,hW1⟩:∃ W1,W1=w.alloc (.cells #[.slice ka kn kc] 31):=⟨_,rfl⟩
 have HB1:Below w.heap.size w W1:=by rw[hW1];exact br0.alloc (Nat.le_refl _) _
 have hs1:W1.heap.size=w.heap.size+1:=by rw[hW1];simp
 have HX1:W1.heap[w.heap.size]?=some (.cells #[.slice ka kn kc] 31 (0,0)):=by rw[hW1];exact heap_alloc_new w _
 obtain⟨W2,hW2⟩:∃ W2,W2=W1.alloc (.cells #[.int .i64 num,.int .i64 stp] 25):=⟨_,rfl⟩
 have HB2:Below W1.heap.size W1 W2:=by rw[hW2];exact br0.alloc (Nat.le_refl _) _
 have hs2:W2.heap.size=w.heap.size+2:=by rw[hW2];simp[hs1]
 have HX2:W2.heap[w.heap.size+1]?=some (.cells #[.int .i64 num,.int .i64 stp] 25 (0,0)):=by rw[hW2,← hs1];exact heap_alloc_new W1 _
 have HBA:=zh (HB1.trans (HB2.mono HB1.size))
 have HY1:=zh (fun W (hW:Below W2.heap.size W2 W)=>And.intro (cell_of_row W _ 0 _ _ _ (((q_next HB2 hW).block _ (by omega)).trans HX1)) (two_at ((hW.block _ (by omega)).trans HX2)))
 have HW1:=zh hW1
 have HW2:=zh hW2
 have HGR:=zh (fun W (hW:Below W2.heap.size W2 W) v=>rgen19_any (hr.below (q_next HBA.out hW)) hks v)
 have HRV:=zh (fun W (hW:Below W2.heap.size W2 W)=>rvalid_any (hr.below (q_next HBA.out hW)))
 have HRQ:=zh (fun W=>rquorum_any ka kn kc W hkn)
 obtain⟨q,hq⟩:∃ q,q=2*((kn - 1) / 3)+1:=⟨_,rfl⟩
 rw[← hq]at HRQ
 have HEN:Hid (enoughC ks=q):=zh (by unfold enoughC;rw[← hkn2,hq])
 obtain⟨va,hva⟩:∃ b,b=validC ks:=⟨_,rfl⟩
 rw[← hva]at HRV
 have HVA:=zh hva
 obtain⟨c0,t0,t1⟩:=HY1.out W2 br0
 obtain⟨R,hR⟩:∃ R,R=checkV ks num stp val l:=⟨_,rfl⟩
 rw[← hR]
 have HRR:=zh hR
 clear hW1 hW2 HB1 HB2 HX1 HX2 hs1 hs2 hr hks hx hl3 hN hll hlm hq hva hR hkn2
 go_enter Tryz.func58,Tryz.ntmps58
 go_upto_region 1 with fail
 rw[← HW1.out,← HW2.out]
 cases va with
 | false =>
  go_wp2_with (go_at_call 59;(with_reducible refine(HRV.out _ br0).mono ?_);rintro e wa ⟨rfl,ha⟩)
  go_ret
  exact⟨by rw[HRR.out,check_inv HVA.out.symm];rfl,HBA.out.trans (ha.mono HBA.out.size)⟩
 | true =>
  by_cases hlen:N=q
  ·have hnq:((N:Int) != (q:Int))=false:=by simp[hlen]
   subst hlen
   go_upto_block 0 with(first | (go_at_call 59;(with_reducible refine(HRV.out _ br0).mono ?_);clear c0 t0 t1;rintro e wa ⟨rfl,ha⟩;obtain⟨c0,t0,t1⟩:=HY1.out wa ha) | (go_at_call 72;(with_reducible refine(HRQ.out _).mono ?_);rintro e wb ⟨rfl,hb⟩))
   have HI0:Hid (∀(j:Nat) (v:VoteP),j < 0→l[j]?=some v→okAtQ ks num stp val (prevQ l j) v=true):=zh (fun j v h=>by omega)
   have HS0:=zh (q_next ha hb)
   clear c0 t0 t1 ha hb
   go_wp2
   go_loopw [9] (fun i wr=>∃ k:Nat,k≤N∧i=.int .i64 k∧Hid (∀(j:Nat) (v:VoteP),j < k→l[j]?=some v→okAtQ ks num stp val (prevQ l j) v=true)∧Hid (Below W2.heap.size W2 wr)) (fun i _=>N - (intOf i).toNat)
   case atStart=>exact⟨0,by omega,rfl,HI0,HS0⟩
   case round =>
    clear HI0 HS0
    obtain⟨k,hk,rfl,hI,hB⟩:=hrel
    by_cases hlt:k < N
    ·have tk:(k:Int) < (N:Int):=by omega
     have tk0:(0:Int)≤(k:Int):=by omega
     obtain⟨v,ev⟩:∃ v,l[k]?=some v:=⟨_,List.getElem?_eq_getElem (by rw[← HN.out];exact hlt)⟩
     obtain⟨lb,lo,rfl,hlb,hlv⟩:=HL3.out k v ev
     have HC:=zh (fun W (hW:Below wr.heap.size wr W)=>And.intro (HY1.out W (q_next hB.out hW)).1 (And.intro (HY1.out W (q_next hB.out hW)).2 (hlv.keep (q_next HBA.out (q_next hB.out hW)) hlb)))
     have HGN:=zh (fun W (hW:Below wr.heap.size wr W)=>HGR.out W (q_next hB.out hW) v)
     have HEV:=zh ev
     have HMS:=zh (fun h=>check_miss (ks:=ks) (num:=num) (stp:=stp) (val:=val) ev h)
     obtain⟨g,hg⟩:∃ g,g=genuineV ks v:=⟨_,rfl⟩
     rw[← hg]at HGN
     have HOK:Hid (okAtQ ks num stp val (prevQ l k) v=(g && (decide (v.num=num∧v.stp=stp) && (decide (v.val=val) && ((prevQ l k).all fun u=>decide (u.car < v.car)))))):=zh (by rw[hg];rfl)
     obtain⟨vcar,vnum,vstp,vv,vl⟩:=v
     simp only[vagg]at HGN
     simp only at HOK
     have HSL:=zh (fun W=>neqSlot vnum vstp num stp W)
     have hss:=same_str vv val
     generalize decide (vnum=num∧vstp=stp)=se at *
     generalize decide (vv=val)=eu at *
     have hsl:=HSL.out
     clear ev hlv hg
     go_upto_region 6 with fail
     cases g with
     | false =>
      refine wp_region_noPanic ?_
      refine wp_region_lexB [.q 0,.q 1,.q 2,.q 3,.q 4,.b 5,.q 6,.q 7,.q 8,.q 9,.q 10,.q 11,.q 12,.q 13,.q 14,.q 15,.q 16,.q 17,.q 18,.q 19,.q 20,.q 21,.q 22,.q 23,.q 24,.q 25,.q 26,.q 27,.q 28,.q 29,.q 30,.q 31,.q 32,.q 33,.q 34,.q 35,.q 36,.q 37,.q 38,.q 39,.q 40,.q 41,.q 42] (by kernel_rfl) (by kernel_rfl) (fun _ _ _ _ h=>h) ?_
      iterate 5(refine wpFl_qL (v:=?_) rfl (Or.inl ⟨by rfl,?_⟩) ?_;rotate_left;(focus(intro w' hSw;obtain⟨c0,⟨t0,t1⟩,v0,v1,v2,v3,v4⟩:=HC.out w' hSw;go_simp;(try with_reducible rfl);done));simp only[Act.put,zzA,zzB,zzC])
      refine wpFl_bL rfl (fun waa hnaa hsaa K hK=>?_)
      go_simp
      go_at_call 22
      (with_reducible refine(HGN.out _ hsaa).mono ?_)
      rintro e wba ⟨rfl,hba⟩
      have HBF:=zh (q_next hB.out (q_next hsaa hba))
      refine hK.out _ _ (q_next hsaa hba) (Keeps.below hba) ?_
      clear hK K hnaa hsaa
      iterate 2(refine wpFl_qL (v:=?_) rfl (Or.inl ⟨by rfl,?_⟩) ?_;rotate_left;(focus(intro w' hSw;go_simp;(try with_reducible rfl);done));simp only[Act.put,zzA,zzB,zzC])
      iterate 7(refine wpFl_qL (v:=undef) rfl (Or.inr ⟨by rfl,rfl⟩) ?_;simp only[Act.put,zzA,zzB,zzC])
      iterate 2(refine wpFl_qL (v:=?_) rfl (Or.inl ⟨by rfl,?_⟩) ?_;rotate_left;(focus(intro w' hSw;go_simp;(try with_reducible rfl);done));simp only[Act.put,zzA,zzB,zzC])
      iterate 7(refine wpFl_qL (v:=undef) rfl (Or.inr ⟨by rfl,rfl⟩) ?_;simp only[Act.put,zzA,zzB,zzC])
      iterate 2(refine wpFl_qL (v:=?_) rfl (Or.inl ⟨by rfl,?_⟩) ?_;rotate_left;(focus(intro w' hSw;go_simp;(try with_reducible rfl);done));simp only[Act.put,zzA,zzB,zzC])
      iterate 16(refine wpFl_qL (v:=undef) rfl (Or.inr ⟨by rfl,rfl⟩) ?_;simp only[Act.put,zzA,zzB,zzC])
      refine wpFl_qL (v:=?_) rfl (Or.inl ⟨by rfl,?_⟩) ?_
      rotate_left
      focus(intro w' hSw;go_simp;(try with_reducible rfl);done)
      simp only[Act.put,zzA,zzB,zzC]
      refine wpFl_nil ?_
      refine NoPanic.normal ?_
      have HNO:=zh (HMS.out HOK.out)
      go_wp2
      go_ret
      exact⟨by rw[HRR.out,HNO.out];rfl,HBA.out.trans (HBF.out.mono HBA.out.size)⟩
     | true =>
     cases se with
     | false =>
      refine wp_region_noPanic ?_
      refine wp_region_lexB [.q 0,.q 1,.q 2,.q 3,.q 4,.b 5,.q 6,.q 7,.q 8,.q 9,.q 10,.q 11,.q 12,.q 13,.q 14,.q 15,.q 16,.q 17,.q 18,.q 19,.q 20,.q 21,.q 22,.q 23,.q 24,.q 25,.q 26,.q 27,.q 28,.q 29,.q 30,.q 31,.q 32,.q 33,.q 34,.q 35,.q 36,.q 37,.q 38,.q 39,.q 40,.q 41,.q 42] (by kernel_rfl) (by kernel_rfl) (fun _ _ _ _ h=>h) ?_
      iterate 5(refine wpFl_qL (v:=?_) rfl (Or.inl ⟨by rfl,?_⟩) ?_;rotate_left;(focus(intro w' hSw;obtain⟨c0,⟨t0,t1⟩,v0,v1,v2,v3,v4⟩:=HC.out w' hSw;go_simp;(try with_reducible rfl);done));simp only[Act.put,zzA,zzB,zzC])
      refine wpFl_bL rfl (fun waa hnaa hsaa K hK=>?_)
      go_simp
      go_at_call 22
      (with_reducible refine(HGN.out _ hsaa).mono ?_)
      rintro e wba ⟨rfl,hba⟩
      have HBF:=zh (q_next hB.out (q_next hsaa hba))
      refine hK.out _ _ (q_next hsaa hba) (Keeps.below hba) ?_
      clear hK K hnaa hsaa
      iterate 11(refine wpFl_qL (v:=?_) rfl (Or.inl ⟨by rfl,?_⟩) ?_;rotate_left;(focus(intro w' hSw;obtain⟨c0,⟨t0,t1⟩,v0,v1,v2,v3,v4⟩:=HC.out w' hSw;go_simp;(try with_reducible rfl);done));simp only[Act.put,zzA,zzB,zzC])
      iterate 7(refine wpFl_qL (v:=undef) rfl (Or.inr ⟨by rfl,rfl⟩) ?_;simp only[Act.put,zzA,zzB,zzC])
      iterate 2(refine wpFl_qL (v:=?_) rfl (Or.inl ⟨by rfl,?_⟩) ?_;rotate_left;(focus(intro w' hSw;go_simp;(try with_reducible rfl);done));simp only[Act.put,zzA,zzB,zzC])
      iterate 16(refine wpFl_qL (v:=undef) rfl (Or.inr ⟨by rfl,rfl⟩) ?_;simp only[Act.put,zzA,zzB,zzC])
      refine wpFl_qL (v:=?_) rfl (Or.inl ⟨by rfl,?_⟩) ?_
      rotate_left
      focus(intro w' hSw;go_simp;(try with_reducible rfl);done)
      simp only[Act.put,zzA,zzB,zzC]
      refine wpFl_nil ?_
      refine NoPanic.normal ?_
      have HNO:=zh (HMS.out HOK.out)
      go_wp2
      go_ret
      exact⟨by rw[HRR.out,HNO.out];rfl,HBA.out.trans (HBF.out.mono HBA.out.size)⟩
     | true =>
     cases eu with
     | false =>
      refine wp_region_noPanic ?_
      refine wp_region_lexB [.q 0,.q 1,.q 2,.q 3,.q 4,.b 5,.q 6,.q 7,.q 8,.q 9,.q 10,.q 11,.q 12,.q 13,.q 14,.q 15,.q 16,.q 17,.q 18,.q 19,.q 20,.q 21,.q 22,.q 23,.q 24,.q 25,.q 26,.q 27,.q 28,.q 29,.q 30,.q 31,.q 32,.q 33,.q 34,.q 35,.q 36,.q 37,.q 38,.q 39,.q 40,.q 41,.q 42] (by kernel_rfl) (by kernel_rfl) (fun _ _ _ _ h=>h) ?_
      iterate 5(refine wpFl_qL (v:=?_) rfl (Or.inl ⟨by rfl,?_⟩) ?_;rotate_left;(focus(intro w' hSw;obtain⟨c0,⟨t0,t1⟩,v0,v1,v2,v3,v4⟩:=HC.out w' hSw;go_simp;(try with_reducible rfl);done));simp only[Act.put,zzA,zzB,zzC])
      refine wpFl_bL rfl (fun waa hnaa hsaa K hK=>?_)
      go_simp
      go_at_call 22
      (with_reducible refine(HGN.out _ hsaa).mono ?_)
      rintro e wba ⟨rfl,hba⟩
      have HBF:=zh (q_next hB.out (q_next hsaa hba))
      refine hK.out _ _ (q_next hsaa hba) (Keeps.below hba) ?_
      clear hK K hnaa hsaa
      iterate 20(refine wpFl_qL (v:=?_) rfl (Or.inl ⟨by rfl,?_⟩) ?_;rotate_left;(focus(intro w' hSw;obtain⟨c0,⟨t0,t1⟩,v0,v1,v2,v3,v4⟩:=HC.out w' hSw;go_simp;(try with_reducible rfl);done));simp only[Act.put,zzA,zzB,zzC])
      iterate 16(refine wpFl_qL (v:=undef) rfl (Or.inr ⟨by rfl,rfl⟩) ?_;simp only[Act.put,zzA,zzB,zzC])
      refine wpFl_qL (v:=?_) rfl (Or.inl ⟨by rfl,?_⟩) ?_
      rotate_left
      focus(intro w' hSw;go_simp;(try with_reducible rfl);done)
      simp only[Act.put,zzA,zzB,zzC]
      refine wpFl_nil ?_
      refine NoPanic.normal ?_
      have HNO:=zh (HMS.out HOK.out)
      go_wp2
      go_ret
      exact⟨by rw[HRR.out,HNO.out];rfl,HBA.out.trans (HBF.out.mono HBA.out.size)⟩
     | true =>
     cases k with
     | zero =>
      simp only[Nat.zero_mul,Nat.add_zero]at HC
      refine wp_region_noPanic ?_
      refine wp_region_lexB [.q 0,.q 1,.q 2,.q 3,.q 4,.b 5,.q 6,.q 7,.q 8,.q 9,.q 10,.q 11,.q 12,.q 13,.q 14,.q 15,.q 16,.q 17,.q 18,.q 19,.q 20,.q 21,.q 22,.q 23,.q 24,.q 25,.q 26,.q 27,.q 28,.q 29,.q 30,.q 31,.q 32,.q 33,.q 34,.q 35,.q 36,.q 37,.q 38,.q 39,.q 40,.q 41,.q 42] (by kernel_rfl) (by kernel_rfl) (fun _ _ _ _ h=>h) ?_
      iterate 5(refine wpFl_qL (v:=?_) rfl (Or.inl ⟨by rfl,?_⟩) ?_;rotate_left;(focus(intro w' hSw;obtain⟨c0,⟨t0,t1⟩,v0,v1,v2,v3,v4⟩:=HC.out w' hSw;go_simp;(try with_reducible rfl);done));simp only[Act.put,zzA,zzB,zzC])
      refine wpFl_bL rfl (fun waa hnaa hsaa K hK=>?_)
      go_simp
      go_at_call 22
      (with_reducible refine(HGN.out _ hsaa).mono ?_)
      rintro e wba ⟨rfl,hba⟩
      have HBF:=zh (q_next hB.out (q_next hsaa hba))
      refine hK.out _ _ (q_next hsaa hba) (Keeps.below hba) ?_
      clear hK K hnaa hsaa
      iterate 23(refine wpFl_qL (v:=?_) rfl (Or.inl ⟨by rfl,?_⟩) ?_;rotate_left;(focus(intro w' hSw;obtain⟨c0,⟨t0,t1⟩,v0,v1,v2,v3,v4⟩:=HC.out w' hSw;go_simp;(try with_reducible rfl);done));simp only[Act.put,zzA,zzB,zzC])
      iterate 12(refine wpFl_qL (v:=undef) rfl (Or.inr ⟨by rfl,rfl⟩) ?_;simp only[Act.put,zzA,zzB,zzC])
      iterate 2(refine wpFl_qL (v:=?_) rfl (Or.inl ⟨by rfl,?_⟩) ?_;rotate_left;(focus(intro w' hSw;go_simp;(try with_reducible rfl);done));simp only[Act.put,zzA,zzB,zzC])
      refine wpFl_nil ?_
      refine NoPanic.normal ?_
      go_wp2
      go_roundw
      case rel=>exact⟨0+1,by omega,by go_num,zh (fun j v hj hv=>by
       rcases Nat.lt_or_ge j (0)with h | h
       ·exact hI.out j v h hv
       ·obtain rfl:j=0:=by omega
        rw[HEV.out]at hv
        cases hv
        exact HOK.out),HBF⟩
      case measure=>simp[intOf];omega
     | succ k =>
      obtain⟨u,eu⟩:∃ u,l[k]?=some u:=⟨_,List.getElem?_eq_getElem (by rw[← HN.out];omega)⟩
      obtain⟨lb2,lo2,e2,hlb2,⟨hu0,-,-,-,-⟩⟩:=HL3.out k u eu
      obtain⟨rfl,rfl⟩:lb2=lb∧lo2=lo:=by
       injection e2 with e
       injection e with e1 e2
       exact⟨e1.symm,e2.symm⟩
      have HPV:=zh (fun W (hW:Below wr.heap.size wr W)=>cell_keepB (q_next HBA.out (q_next hB.out hW)) hlb2 hu0)
      have epr:prevQ l (k+1)=some u:=eu
      rw[epr]at HOK
      simp only[Option.all_some]at HOK
      rw[← epr]at HOK
      obtain⟨ucar,unum,ustp,uv,ul⟩:=u
      simp only at HOK HPV
      have tk':(k:Int)+1 < (N:Int):=by omega
      have tk0':(0:Int)≤(k:Int)+1:=by omega
      have tk1':(0:Int) < (k:Int)+1:=by omega
      have tk2':(0:Int)≤(k:Int):=by omega
      have tk3':(k:Int) < (N:Int):=by omega
      have hwk:IntKind.i64.wrap (k:Int)=(k:Int):=IntWalk.i64_in _ (by omega)
      clear eu epr e2 hu0
      by_cases hc:ucar < vcar
      ·have hcl:¬ vcar≤ucar:=by omega
       rw[decide_eq_true hc]at HOK
       refine wp_region_noPanic ?_
       refine wp_region_lexB [.q 0,.q 1,.q 2,.q 3,.q 4,.b 5,.q 6,.q 7,.q 8,.q 9,.q 10,.q 11,.q 12,.q 13,.q 14,.q 15,.q 16,.q 17,.q 18,.q 19,.q 20,.q 21,.q 22,.q 23,.q 24,.q 25,.q 26,.q 27,.q 28,.q 29,.q 30,.q 31,.q 32,.q 33,.q 34,.q 35,.q 36,.q 37,.q 38,.q 39,.q 40,.q 41,.q 42] (by kernel_rfl) (by kernel_rfl) (fun _ _ _ _ h=>h) ?_
       iterate 5(refine wpFl_qL (v:=?_) rfl (Or.inl ⟨by rfl,?_⟩) ?_;rotate_left;(focus(intro w' hSw;obtain⟨c0,⟨t0,t1⟩,v0,v1,v2,v3,v4⟩:=HC.out w' hSw;go_simp;(try with_reducible rfl);done));simp only[Act.put,zzA,zzB,zzC])
       refine wpFl_bL rfl (fun waa hnaa hsaa K hK=>?_)
       go_simp
       go_at_call 22
       (with_reducible refine(HGN.out _ hsaa).mono ?_)
       rintro e wba ⟨rfl,hba⟩
       have HBF:=zh (q_next hB.out (q_next hsaa hba))
       refine hK.out _ _ (q_next hsaa hba) (Keeps.below hba) ?_
       clear hK K hnaa hsaa
       iterate 37(refine wpFl_qL (v:=?_) rfl (Or.inl ⟨by rfl,?_⟩) ?_;rotate_left;(focus(intro w' hSw;obtain⟨c0,⟨t0,t1⟩,v0,v1,v2,v3,v4⟩:=HC.out w' hSw;have p0:=HPV.out w' hSw;go_simp;(try with_reducible rfl);done));simp only[Act.put,zzA,zzB,zzC])
       refine wpFl_nil ?_
       refine NoPanic.normal ?_
       go_wp2
       go_roundw
       case rel=>exact⟨k+1+1,by omega,by go_num,zh (fun j v hj hv=>by
        rcases Nat.lt_or_ge j (k+1)with h | h
        ·exact hI.out j v h hv
        ·obtain rfl:j=k+1:=by omega
         rw[HEV.out]at hv
         cases hv
         exact HOK.out),HBF⟩
       case measure=>simp[intOf];omega
      ·have hcl:vcar≤ucar:=by omega
       rw[decide_eq_false hc]at HOK
       refine wp_region_noPanic ?_
       refine wp_region_lexB [.q 0,.q 1,.q 2,.q 3,.q 4,.b 5,.q 6,.q 7,.q 8,.q 9,.q 10,.q 11,.q 12,.q 13,.q 14,.q 15,.q 16,.q 17,.q 18,.q 19,.q 20,.q 21,.q 22,.q 23,.q 24,.q 25,.q 26,.q 27,.q 28,.q 29,.q 30,.q 31,.q 32,.q 33,.q 34,.q 35,.q 36,.q 37,.q 38,.q 39,.q 40,.q 41,.q 42] (by kernel_rfl) (by kernel_rfl) (fun _ _ _ _ h=>h) ?_
       iterate 5(refine wpFl_qL (v:=?_) rfl (Or.inl ⟨by rfl,?_⟩) ?_;rotate_left;(focus(intro w' hSw;obtain⟨c0,⟨t0,t1⟩,v0,v1,v2,v3,v4⟩:=HC.out w' hSw;go_simp;(try with_reducible rfl);done));simp only[Act.put,zzA,zzB,zzC])
       refine wpFl_bL rfl (fun waa hnaa hsaa K hK=>?_)
       go_simp
       go_at_call 22
       (with_reducible refine(HGN.out _ hsaa).mono ?_)
       rintro e wba ⟨rfl,hba⟩
       have HBF:=zh (q_next hB.out (q_next hsaa hba))
       refine hK.out _ _ (q_next hsaa hba) (Keeps.below hba) ?_
       clear hK K hnaa hsaa
       iterate 37(refine wpFl_qL (v:=?_) rfl (Or.inl ⟨by rfl,?_⟩) ?_;rotate_left;(focus(intro w' hSw;obtain⟨c0,⟨t0,t1⟩,v0,v1,v2,v3,v4⟩:=HC.out w' hSw;have p0:=HPV.out w' hSw;go_simp;(try with_reducible rfl);done));simp only[Act.put,zzA,zzB,zzC])
       refine wpFl_nil ?_
       refine NoPanic.normal ?_
       have HNO:=zh (HMS.out HOK.out)
       go_wp2
       go_ret
       exact⟨by rw[HRR.out,HNO.out];rfl,HBA.out.trans (HBF.out.mono HBA.out.size)⟩
    ·obtain rfl:k=N:=by omega
     have tk:¬ (k:Int) < (k:Int):=by omega
     have HYS:=zh (check_all HVA.out.symm (by rw[HEN.out,← HN.out]) (fun j v hv=>hI.out j v (by rw[HN.out];exact(List.getElem?_eq_some_iff.1 hv).1) hv))
     go_wp2
     go_ret
     exact⟨by rw[HRR.out,HYS.out];rfl,HBA.out.trans (hB.out.mono HBA.out.size)⟩
  ·have hnq:((N:Int) != (q:Int))=true:=by simp;omega
   have hnq2:¬ (N:Int)=(q:Int):=by omega
   go_wp2_with (first | (go_at_call 59;(with_reducible refine(HRV.out _ br0).mono ?_);clear c0 t0 t1;rintro e wa ⟨rfl,ha⟩;obtain⟨c0,t0,t1⟩:=HY1.out wa ha) | (go_at_call 72;(with_reducible refine(HRQ.out _).mono ?_);rintro e wb ⟨rfl,hb⟩))
   go_ret
   exact⟨by rw[HRR.out,check_len (by rw[HEN.out,← HN.out];exact hlen)];rfl,HBA.out.trans ((q_next ha hb).mono HBA.out.size)⟩
def isFor (ks:List ByteArray)(car num stp:Int)(val:ByteArray)(v:VoteP):Bool:=decide (v.car=car) && (decide (v.num=num∧v.stp=stp) && (decide (v.val=val) && genuineV ks v))
def findR (o:Option VoteP):Value:=match o with
 | some v=>.tuple #[vagg v,.bool true]
 | none=>.tuple #[.agg #[.int .i64 0,.int .i64 0,.int .i64 0,.string ⟨#[]⟩,.string ⟨#[]⟩],.bool false]
theorem find_snoc {l:List VoteP}{k:Nat}{v:VoteP}(p:VoteP→Bool)(h:l[k]?=some v):(l.take (k+1)).find? p=((l.take k).find? p).or (if p v=true then some v else none):=by
 rw[List.take_add_one,h,List.find?_append]
 congr 1
 cases e:p v <;> simp[e]
set_option maxHeartbeats 4000000 in
theorem rfind_any {w:World}{kv x:Value}{ks:List ByteArray}{l:List VoteP}(hr:SS w kv ks)(hks:∀ k∈ks,k.size≤1000)(hx:VS w x l)(car num stp:Int)(val:ByteArray)(o:Option VoteP)(ho:l.find? (isFor ks car num stp val)=o) :
  Calls Tryz.prog 73 #[.agg #[kv],.int .i64 car,.agg #[.int .i64 num,.int .i64 stp],.string val,x] w fun e w'=>e=.returned (findR o)∧Below w.heap.size w w':=by
 obtain⟨ka,kc,hke,-,-,-⟩:=hr.opened
 obtain⟨kn,hkn⟩:∃ n,n=ks.length:=⟨_,rfl⟩
 rw[← hkn]at hke
 subst hke
 clear hkn
 obtain⟨la,lc,rfl,hll,hlm,hl3⟩:=hx.opened
 have HL3:=zh hl3
 obtain⟨N,hN⟩:∃ N,N=l.length:=⟨_,rfl⟩
 rw[← hN]at hll ⊢
 have HN:=zh hN
 have hN9:N≤9223372036854775807:=by unfold maxLen at hlm;omega
 have HOF:=zh ho
 obtain⟨W1,hW1⟩:∃ W1,W1=w.alloc (.cells #[.slice ka kn kc] 31):=⟨_,rfl⟩
 have HB1:Below w.heap.size w W1:=by rw[hW1];exact br0.alloc (Nat.le_refl _) _
 have hs1:W1.heap.size=w.heap.size+1:=by rw[hW1];simp
 have HX1:W1.heap[w.heap.size]?=some (.cells #[.slice ka kn kc] 31 (0,0)):=by rw[hW1];exact heap_alloc_new w _
 obtain⟨W2,hW2⟩:∃ W2,W2=W1.alloc (.cells #[.int .i64 num,.int .i64 stp] 25):=⟨_,rfl⟩
 have HB2:Below W1.heap.size W1 W2:=by rw[hW2];exact br0.alloc (Nat.le_refl _) _
 have hs2:W2.heap.size=w.heap.size+2:=by rw[hW2];simp[hs1]
 have HX2:W2.heap[w.heap.size+1]?=some (.cells #[.int .i64 num,.int .i64 stp] 25 (0,0)):=by rw[hW2,← hs1];exact heap_alloc_new W1 _
 obtain⟨W3,hW3⟩:∃ W3,W3=W2.alloc (.cells #[.int .i64 0,.int .i64 0,.int .i64 0,.string ⟨#[]⟩,.string ⟨#[]⟩] 27):=⟨_,rfl⟩
 have HB3:Below W2.heap.size W2 W3:=by rw[hW3];exact br0.alloc (Nat.le_refl _) _
 have hs3:W3.heap.size=w.heap.size+3:=by rw[hW3];simp[hs2]
 have HX3:W3.heap[w.heap.size+1+1]?=some (.cells #[.int .i64 0,.int .i64 0,.int .i64 0,.string ⟨#[]⟩,.string ⟨#[]⟩] 27 (0,0)):=by rw[hW3,show w.heap.size+1+1=W2.heap.size from hs2.symm];exact heap_alloc_new W2 _
 have HBA:=zh (HB1.trans ((HB2.trans (HB3.mono HB2.size)).mono HB1.size))
 have HY1:=zh (fun W (hW:Below W3.heap.size W3 W)=>And.intro (((q_next HB2 (q_next HB3 hW)).block _ (by omega)).trans HX1) (And.intro (((q_next HB3 hW).block _ (by omega)).trans HX2) ((hW.block _ (by omega)).trans HX3)))
 have HW1:=zh hW1
 have HW2:=zh hW2
 have HW3:=zh hW3
 have HGR:=zh (fun W (hW:Below W3.heap.size W3 W) v=>rgen19_any (hr.below (q_next HBA.out hW)) hks v)
 have HF0:Hid ((l.take 0).find? (isFor ks car num stp val)=none):=zh rfl
 have HS3:=zh hs3
 clear hW1 hW2 hW3 HB1 HB2 HB3 HX1 HX2 HX3 hs1 hs2 hs3 hr hks hx hl3 ho hN hll hlm
 go_enter Tryz.func73,Tryz.ntmps73
 go_upto_region 1 with fail
 rw[← HW1.out,← HW2.out,← HW3.out]
 go_wp2
 go_loopw [12] (fun i wr=>∃ k:Nat,k≤N∧i=.int .i64 k∧Hid ((l.take k).find? (isFor ks car num stp val)=none)∧Hid (Below W3.heap.size W3 wr)) (fun i _=>N - (intOf i).toNat)
 case atStart=>exact⟨0,by omega,rfl,HF0,zh br0⟩
 case round =>
  clear HF0
  obtain⟨k,hk,rfl,hF,hB⟩:=hrel
  by_cases hlt:k < N
  ·have tk:(k:Int) < (N:Int):=by omega
   have tk0:(0:Int)≤(k:Int):=by omega
   obtain⟨v,ev⟩:∃ v,l[k]?=some v:=⟨_,List.getElem?_eq_getElem (by rw[← HN.out];exact hlt)⟩
   obtain⟨lb,lo,rfl,hlb,hlv⟩:=HL3.out k v ev
   have HFT:=zh (find_snoc (isFor ks car num stp val) ev)
   have HFW:Hid (isFor ks car num stp val v=true→o=some v):=zh (fun h=>by
    have h1:=HFT.out
    rw[hF.out,if_pos h,Option.none_or]at h1
    have h2:l.find? (isFor ks car num stp val)=some v:=by
     rw[← List.take_append_drop (k+1) l,List.find?_append,h1]
     rfl
    rw[← HOF.out,h2])
   obtain⟨d0,d1,d2,d3,d4⟩:=hlv.keep (q_next HBA.out hB.out) hlb
   have HGN:=zh (fun W (hW:Below wr.heap.size wr W)=>HGR.out W (q_next hB.out hW) v)
   obtain⟨g,hg⟩:∃ g,g=genuineV ks v:=⟨_,rfl⟩
   rw[← hg]at HGN
   have HIF:Hid (isFor ks car num stp val v=(decide (v.car=car) && (decide (v.num=num∧v.stp=stp) && (decide (v.val=val) && g)))):=zh (by rw[hg];rfl)
   obtain⟨vcar,vnum,vstp,vv,vl⟩:=v
   simp only[vagg]at HGN
   simp only at d0 d1 d2 d3 d4 HIF
   have HSL:=zh (fun W=>eqlSlot vnum vstp num stp W)
   have hss:=same_str vv val
   have hbq:(vcar == car)=decide (vcar=car):=by rw[Bool.eq_iff_iff];simp
   generalize decide (vnum=num∧vstp=stp)=se at *
   generalize decide (vv=val)=eu at *
   generalize decide (vcar=car)=ce at *
   have hsl:=HSL.out
   clear ev hlv hg
   go_upto_region 5 with fail
   clear d0 d1 d2 d3 d4
   obtain⟨W4,hW4⟩:∃ W,W=wr.alloc (.cells #[.int .i64 vcar,.int .i64 vnum,.int .i64 vstp,.string vv,.string vl] 27):=⟨_,rfl⟩
   have HV_W4:Hid (W4.heap[wr.heap.size]?=some (.cells #[.int .i64 vcar,.int .i64 vnum,.int .i64 vstp,.string vv,.string vl] 27 (0,0))):=zh (by rw[hW4];exact heap_alloc_new wr _)
   have HS_W4:Hid (Below wr.heap.size wr W4):=zh (by rw[hW4];exact br0.alloc (Nat.le_refl _) _)
   have HB_W4:=zh (q_next hB.out HS_W4.out)
   rw[← hW4]
   obtain⟨vb,hvb⟩:∃ b,b=wr.heap.size:=⟨_,rfl⟩
   rw[← hvb]at HV_W4 ⊢
   clear hW4 hvb
   have HC4:=zh (fun W (hW:Below W4.heap.size W4 W)=>And.intro (HY1.out W (q_next HB_W4.out hW)) (vcellsAt ((hW.block _ (ltA HV_W4.out)).trans HV_W4.out)))
   have HGW:=zh (HGN.out W4 HS_W4.out)
   clear HGN
   obtain⟨⟨r1,r2,r3⟩,y0,y1,y2,y3,y4⟩:=HC4.out W4 br0
   have c0:=cell_of_row W4 _ 0 _ _ _ r1
   have s0:=cell_of_row W4 _ 0 _ _ _ r2
   have s1:=cell_of_row W4 _ 1 _ _ _ r2
   clear r1 r2 r3
   cases ce with
   | false =>
    go_wp2
    go_roundw
    case rel=>exact⟨k+1,by omega,by go_num,zh (by rw[HFT.out,hF.out,if_neg (by rw[HIF.out];simp)];rfl),HB_W4⟩
    case measure=>simp[intOf];omega
   | true =>
    cases se with
    | false =>
     go_wp2
     go_roundw
     case rel=>exact⟨k+1,by omega,by go_num,zh (by rw[HFT.out,hF.out,if_neg (by rw[HIF.out];simp)];rfl),HB_W4⟩
     case measure=>simp[intOf];omega
    | true =>
     cases eu with
     | false =>
      go_wp2
      go_roundw
      case rel=>exact⟨k+1,by omega,by go_num,zh (by rw[HFT.out,hF.out,if_neg (by rw[HIF.out];simp)];rfl),HB_W4⟩
      case measure=>simp[intOf];omega
     | true =>
      cases g with
      | false =>
       go_wp2_with (go_at_call 22;(with_reducible refine HGW.out.mono ?_);rintro e wg ⟨rfl,hbg⟩;have HBG:=zh (q_next HB_W4.out hbg);clear c0 s0 s1 y0 y1 y2 y3 y4;obtain⟨⟨-,-,r3⟩,y0,y1,y2,y3,y4⟩:=HC4.out wg hbg;have HZ:=zh r3;clear r3;obtain⟨z0,z1,z2,z3,z4⟩:=vcellsAt HZ.out;have zf:∀ j,wg.frozen? ⟨w.heap.size+1+1,j,none⟩=false:=fun j=>by(unfold World.frozen?;rw[HZ.out];simp))
       go_roundw
       case rel=>exact⟨k+1,by omega,by go_num,zh (by rw[HFT.out,hF.out,if_neg (by rw[HIF.out];simp)];rfl),HBG⟩
       case measure=>simp[intOf];omega
      | true =>
       have HOS:=zh (HFW.out (by rw[HIF.out];rfl))
       go_wp2_with (go_at_call 22;(with_reducible refine HGW.out.mono ?_);rintro e wg ⟨rfl,hbg⟩;have HBG:=zh (q_next HB_W4.out hbg);clear c0 s0 s1 y0 y1 y2 y3 y4;obtain⟨⟨-,-,r3⟩,y0,y1,y2,y3,y4⟩:=HC4.out wg hbg;have HZ:=zh r3;clear r3;obtain⟨z0,z1,z2,z3,z4⟩:=vcellsAt HZ.out;have zf:∀ j,wg.frozen? ⟨w.heap.size+1+1,j,none⟩=false:=fun j=>by(unfold World.frozen?;rw[HZ.out];simp))
       refine bodyPost_ret (results_cellA_tmp rfl _ (w.heap.size+1+1) 27 #[.int .i64 vcar,.int .i64 vnum,.int .i64 vstp,.string vv,.string vl] (0,0) _ rfl (vfive_heap HZ.out _ _ _ _ _) Tryz.underlying27 rfl infoVote) rfl ⟨?_,vfive_below (HBA.out.trans (HBG.out.mono HBA.out.size)) (by omega) _ _ _ _ _⟩
       rw[HOS.out]
       rfl
  ·obtain rfl:k=N:=by omega
   have tk:¬ (k:Int) < (k:Int):=by omega
   have hno:o=none:=by
    have h:=hF.out
    rw[HN.out,List.take_length]at h
    rw[← HOF.out,h]
   have HNO:=zh hno
   clear hno
   obtain⟨-,-,r3⟩:=HY1.out wr hB.out
   have HZ:=zh r3
   clear r3
   obtain⟨z0,z1,z2,z3,z4⟩:=vcellsAt HZ.out
   have zf:∀ j,wr.frozen? ⟨w.heap.size+1+1,j,none⟩=false:=fun j=>by unfold World.frozen?;rw[HZ.out];simp
   go_wp2
   refine bodyPost_ret (results_cellA_tmp rfl _ (w.heap.size+1+1) 27 #[.int .i64 0,.int .i64 0,.int .i64 0,.string ⟨#[]⟩,.string ⟨#[]⟩] (0,0) _ rfl (vfive_heap HZ.out _ _ _ _ _) Tryz.underlying27 rfl infoVote) rfl ⟨?_,vfive_below (HBA.out.trans (hB.out.mono HBA.out.size)) (by omega) _ _ _ _ _⟩
   rw[HNO.out]
   rfl
theorem isFor_mk {ks:List ByteArray}(hv:validC ks=true)(num stp:Int)(val:ByteArray)(i:Nat)(v:VoteP):isFor ks i num stp val v=(genV ks v && decide (v=mkV ks num stp val i)):=by
 rw[Bool.eq_iff_iff]
 unfold isFor genuineV
 rw[hv]
 simp only[Bool.and_eq_true,decide_eq_true_eq,Bool.true_and]
 constructor
 ·rintro⟨h1,⟨h2,h3⟩,h4,h5⟩
  refine⟨h5,?_⟩
  have:=gen_mk h5
  rw[h1,h2,h3,h4]at this
  rw[Int.toNat_natCast]at this
  exact this
 ·rintro⟨h5,h⟩
  refine⟨?_,⟨?_,?_⟩,?_,h5⟩ <;> (rw[h];rfl)
theorem find_is {ks:List ByteArray}(hv:validC ks=true)(num stp:Int)(val:ByteArray)(i:Nat)(pool:List VoteP) :
  pool.find? (isFor ks i num stp val)=if(pool.any fun v=>genV ks v && decide (v=mkV ks num stp val i))=true then some (mkV ks num stp val i)else none:=by
 induction pool with
 | nil=>rfl
 | cons a l ih =>
  rw[List.find?_cons,List.any_cons,← isFor_mk hv num stp val i a]
  cases h:isFor ks i num stp val a with
  | true =>
   rw[isFor_mk hv,Bool.and_eq_true]at h
   simp only[Bool.true_or,if_true]
   exact congrArg some (of_decide_eq_true h.2)
  | false =>
   rw[Bool.false_or]
   exact ih
theorem find_votes {ks:List ByteArray}(hv:validC ks=true)(num stp:Int)(val:ByteArray)(i:Nat)(pool:List VoteP) :
  pool.find? (isFor ks i num stp val)=if votesFor ks num stp val pool i=true then some (mkV ks num stp val i)else none:=by
 rw[find_is hv]
 have e:(pool.any fun v=>genV ks v && decide (v=mkV ks num stp val i))=votesFor ks num stp val pool i:=by
  unfold votesFor
  congr 1
  funext v
  rw[← isFor_mk hv,Bool.eq_iff_iff]
  unfold isFor genuineV
  rw[hv]
  simp only[Bool.and_eq_true,decide_eq_true_eq,Bool.true_and]
  constructor
  ·rintro⟨h1,⟨h2,h3⟩,h4,h5⟩
   exact⟨h5,h2,h3,h4,h1⟩
  ·rintro⟨h5,h2,h3,h4,h1⟩
   exact⟨h1,⟨h2,h3⟩,h4,h5⟩
 rw[e]
def upTo (ks:List ByteArray)(num stp:Int)(val:ByteArray)(pool:List VoteP)(i:Nat):List VoteP:=(((List.range i).filter (votesFor ks num stp val pool)).map (mkV ks num stp val))
theorem upTo_snoc (ks:List ByteArray)(num stp:Int)(val:ByteArray)(pool:List VoteP)(i:Nat):upTo ks num stp val pool (i+1)=upTo ks num stp val pool i++(if votesFor ks num stp val pool i=true then[mkV ks num stp val i]else[]):=by
 unfold upTo
 rw[List.range_succ,List.filter_append,List.map_append]
 cases h:votesFor ks num stp val pool i <;> simp[h]
theorem prove_full {ks:List ByteArray}{num stp:Int}{val:ByteArray}{pool:List VoteP}{i:Nat}(hp:isPool ks pool=true)(hi:i≤ks.length)(h:(upTo ks num stp val pool i).length=enoughC ks) :
  proveV ks num stp val pool=some (upTo ks num stp val pool i):=by
 have hr:List.range ks.length=List.range i++(List.range (ks.length - i)).map (i+·):=by
  rw[← List.range_add]
  congr 1
  omega
 have hw:whoL ks num stp val pool=(List.range i).filter (votesFor ks num stp val pool)++((List.range (ks.length - i)).map (i+·)).filter (votesFor ks num stp val pool):=by
  unfold whoL
  rw[hr,List.filter_append]
 have hl:((List.range i).filter (votesFor ks num stp val pool)).length=enoughC ks:=by
  unfold upTo at h
  rw[List.length_map]at h
  exact h
 unfold proveV
 rw[if_pos ⟨hp,by rw[hw,List.length_append];omega⟩,hw,← hl,List.take_left]
 rfl
theorem prove_less {ks:List ByteArray}{num stp:Int}{val:ByteArray}{pool:List VoteP}(h:(upTo ks num stp val pool ks.length).length < enoughC ks):proveV ks num stp val pool=none:=by
 unfold proveV
 rw[if_neg]
 rintro⟨_,h2⟩
 unfold upTo at h
 rw[List.length_map]at h
 unfold whoL at h2
 omega
theorem prove_bad {ks:List ByteArray}{num stp:Int}{val:ByteArray}{pool:List VoteP}(h:isPool ks pool=false):proveV ks num stp val pool=none:=by
 unfold proveV
 rw[if_neg]
 rintro⟨h1,_⟩
 rw[h]at h1
 cases h1
end Go.Proofs.YtggdcnjaofflbaaGreatDoor
