/- The reference's Check of parts, at this seat. The conditions: what the slices read as, lengths. -/
import Derived.Test.YtggdcnjaofflbaaGreatDoorMM29
namespace Go.Proofs.YtggdcnjaofflbaaGreatDoor
open Go.RowKit Go.BigFrame
set_option maxHeartbeats 8000000 in
set_option maxRecDepth 100000 in
theorem rcheck_any (key:ByteArray)(car siz:Int)(root sl:ByteArray){w:World}{v:Value}{ys:List (ItemP × Value)}(hi:IS w v ys)(hk:key.size≤1000)(hl:ys.length≤100000)(hp:∀ y∈ys,y.1.prf.length≤1000) :
  Calls Tryz.prog 92 #[.string key,.agg #[.int .i64 car,.int .i64 siz,.string root,.string sl,v]] w fun e w'=>e=.returned (.bool (checkB key ⟨⟨car,siz,root,sl⟩,ys.map (·.1)⟩))∧Below w.heap.size w w':=by
 obtain⟨a,cap,rfl,l1,l2,l3⟩:=hi.opened
 have H3:=zh l3
 have HI:=zh hi
 have HP:=zh hp
 clear l3 hi hp
 unfold maxLen at l2
 have HR0:Hid (checkB key ⟨⟨car,siz,root,sl⟩,ys.map (·.1)⟩=(genuineB key ⟨car,siz,root,sl⟩ && itemsFrom root siz ys 0)):=zh rfl
 obtain⟨RR,hRR⟩:∃ RR,RR=checkB key ⟨⟨car,siz,root,sl⟩,ys.map (·.1)⟩:=⟨_,rfl⟩
 rw[← hRR]at HR0 ⊢
 clear hRR
 obtain⟨n,hn⟩:∃ n,n=ys.length:=⟨_,rfl⟩
 rw[← hn]at l1 hl ⊢
 have HN:=zh hn
 clear hn
 obtain⟨W1,hW1⟩:∃ W1,W1=w.alloc (.cells #[.int .i64 car,.int .i64 siz,.string root,.string sl,.slice a n cap] 92):=⟨_,rfl⟩
 have HB1:Hid (Below w.heap.size w W1):=zh (by rw[hW1];exact br0.alloc (Nat.le_refl _) _)
 have HX1:Hid (W1.heap[w.heap.size]?=some (.cells #[.int .i64 car,.int .i64 siz,.string root,.string sl,.slice a n cap] 92 (0,0))):=zh (by rw[hW1];exact heap_alloc_new w _)
 have HG1:=zh (rgenuine18_any key car siz root sl W1 hk)
 have HGP:Hid (genuineB key ⟨car,siz,root,sl⟩=true→∃ s:Nat,siz=s∧s≤60):=zh (fun g=>by
  obtain⟨_,_,⟨a1,a2⟩,_⟩:=genuine_parts g
  simp only at a1 a2
  obtain⟨m,hm⟩:=Int.eq_ofNat_of_zero_le a1
  exact⟨m,hm,by omega⟩)
 generalize genuineB key ⟨car,siz,root,sl⟩=g1 at *
 have HW1:=zh hW1
 clear hW1
 obtain⟨x0,x1,x2,x3,x4⟩:=pfive HX1.out
 cases g1 with
 | false =>
  go_enter Tryz.func92,Tryz.ntmps92
  go_upto_region 1 with fail
  rw[← HW1.out]
  go_wp2_with fail
  refine HG1.out.mono ?_
  rintro e w3 ⟨rfl,hb3⟩
  go_wp2
  go_ret
  exact⟨by rw[HR0.out];rfl,HB1.out.trans (hb3.mono HB1.out.size)⟩
 | true =>
  obtain⟨s,rfl,hs60⟩:=HGP.out rfl
  have HR:Hid (RR=itemsFrom root s ys 0):=zh (by rw[HR0.out];rfl)
  clear HR0 HGP
  go_enter Tryz.func92,Tryz.ntmps92
  go_upto_region 1 with fail
  rw[← HW1.out]
  go_wp2_with fail
  refine HG1.out.mono ?_
  rintro e w3 ⟨rfl,hb3⟩
  have HB3:=zh (HB1.out.trans (hb3.mono HB1.out.size))
  have HX3:=zh (kept_block HX1.out hb3)
  clear hb3 HG1 HX1 HB1 HW1 x0 x1 x2 x3 x4
  go_wp2
  go_loopw [5] (fun i wr=>∃ k:Nat,k≤n∧i=.int .i64 k∧Hid (RR=itemsFrom root s ys k)∧Hid (Below w.heap.size w wr)∧Hid (wr.heap[w.heap.size]?=some (.cells #[.int .i64 car,.int .i64 s,.string root,.string sl,.slice a n cap] 92 (0,0)))) (fun i _=>n - (intOf i).toNat)
  case atStart=>exact⟨0,by omega,rfl,HR,HB3,HX3⟩
  case round =>
   obtain⟨k,hk',rfl,hR,hB,hX⟩:=hrel
   clear HR HB3 HX3
   obtain⟨x0,x1,x2,x3,x4⟩:=pfive hX.out
   by_cases hlt:k < n
   ·obtain⟨y,ey⟩:∃ y,ys[k]?=some y:=⟨_,List.getElem?_eq_getElem (by rw[← HN.out];exact hlt)⟩
    obtain⟨b,off,rfl,hb,c0,c1,c2⟩:=H3.out k y ey
    have d0:=cell_keepB hB.out hb c0
    have d1:=cell_keepB hB.out hb c1
    have d2:=cell_keepB hB.out hb c2
    clear c0 c1 c2
    have HSt:=zh (itemsFrom_step root s ey)
    have HM:=zh (List.mem_of_getElem? ey)
    clear ey
    obtain⟨⟨ix,en,pr⟩,pv⟩:=y
    simp only at d0 d1 d2 HSt
    have hss:=HI.out.2 _ HM.out
    have HPl:Hid (pr.length≤1000):=zh (HP.out _ HM.out)
    simp only at hss
    obtain⟨pa,pc,rfl⟩:=hss.form2
    obtain⟨pm,hpm⟩:∃ pm,pm=pr.length:=⟨_,rfl⟩
    rw[← hpm]at hss d2
    have HSS:=zh hss
    clear hss hpm HM
    have tk:(k:Int) < (n:Int):=by omega
    have tk0:(0:Int)≤(k:Int):=by omega
    go_upto_region 7 with fail
    have HY7:Hid ((wr.alloc (.cells #[.int .i64 ix,.string en,.slice pa pm pc] 98)).heap[wr.heap.size]?=some (.cells #[.int .i64 ix,.string en,.slice pa pm pc] 98 (0,0))):=zh (heap_alloc_new wr _)
    have HB7:Hid (Below w.heap.size w (wr.alloc (.cells #[.int .i64 ix,.string en,.slice pa pm pc] 98))):=zh (below_next hB.out (br0.alloc (Nat.le_refl _) _))
    have HX7:=zh (kept_block hX.out (br0.alloc (Nat.le_refl _) (.cells #[.int .i64 ix,.string en,.slice pa pm pc] 98)))
    obtain⟨W7,hW7⟩:∃ W,W=wr.alloc (.cells #[.int .i64 ix,.string en,.slice pa pm pc] 98):=⟨_,rfl⟩
    rw[← hW7]at HY7 HB7 HX7 ⊢
    generalize wr.heap.size=xb at *
    clear hW7 hX hB d0 d1 d2 x0 x1 x2 x3 x4
    have HL:Hid (∀ W,Below W7.heap.size W7 W→(W.cell? ⟨w.heap.size,0,none⟩=some (.int .i64 car)∧W.cell? ⟨w.heap.size,1,none⟩=some (.int .i64 s)∧W.cell? ⟨w.heap.size,2,none⟩=some (.string root)∧W.cell? ⟨w.heap.size,3,none⟩=some (.string sl)∧W.cell? ⟨w.heap.size,4,none⟩=some (.slice (some ⟨b,off,none⟩) n cap))∧W.cell? ⟨xb,0,none⟩=some (.int .i64 ix)∧W.cell? ⟨xb,1,none⟩=some (.string en)∧W.cell? ⟨xb,2,none⟩=some (.slice pa pm pc)):=zh (fun W hW=>by
     have h:=fun i=>cell_of_row W xb i _ _ _ (kept_block HY7.out hW)
     exact⟨pfive (kept_block HX7.out hW),h 0,h 1,h 2⟩)
    obtain⟨T,hT⟩:∃ T,T=itemOk root s ⟨ix,en,pr⟩ (prevI ys k):=⟨_,rfl⟩
    have HT:Hid (T=(decide (∀ j,prevI ys k=some j→j < ix) && decide (en.size≤1000) && verifyB root s ix en pr)):=zh (by rw[hT];rfl)
    have HSt2:Hid (RR=(T && itemsFrom root s ys (k+1))):=zh (by rw[hR.out,HSt.out,HT.out])
    clear hT HSt hR
    go_cut [59] (fun t wx=>t=.bool (!T)∧Hid (Below W7.heap.size W7 wx))
    case first =>
     by_cases hen:en.size≤1000
     ·have he1:decide ((1000:Int) < (en.size:Int))=false:=decide_eq_false (by omega)
      have he2:decide (en.size≤1000)=true:=decide_eq_true hen
      have HV:=zh (fun W (hW:Below W7.heap.size W7 W)=>rverify_any root en s ix (SS.below HSS.out (below_next HB7.out hW)) HPl.out (by omega) (by omega))
      generalize verifyB root s ix en pr=vb at *
      by_cases h0:k=0
      ·have HF:Hid (T=vb):=zh (by rw[HT.out,he2,decide_eq_true (fun j h=>by rw[h0]at h;cases h)];cases vb <;> rfl)
       have bk:decide ((0:Int) < (k:Int))=false:=decide_eq_false (by omega)
       have H0:=zh h0
       clear h0
       refine wp_region_noPanic ?_
       refine wp_region_lexB [.q 0,.q 1,.q 2,.q 3,.q 4,.q 5,.q 6,.q 7,.q 8,.q 9,.q 10,.q 11,.q 12,.q 13,.q 14,.q 15,.q 16,.q 17,.q 18,.q 19,.q 20,.q 21,.q 22,.q 23,.q 24,.q 25,.q 26,.q 27,.q 28,.q 29,.q 30,.q 31,.q 32,.b 33,.q 34,.q 35] (by kernel_rfl) (by kernel_rfl) (fun _ _ _ _ h=>h) ?_
       iterate 3(refine wpFl_qL (v:=?_) rfl (Or.inl ⟨by rfl,?_⟩) ?_;rotate_left;(focus(intro w' hSw;obtain⟨⟨_,e1,e2,_,e4⟩,f0,f1,f2⟩:=HL.out w' hSw;go_simp;(try with_reducible rfl);done));simp only[Act.put,zzA,zzB,zzC])
       refine wpFl_qL (v:=.bool false) rfl (Or.inl ⟨by rfl,?_⟩) ?_
       focus(intro w' hSw;go_simp;done)
       simp only[Act.put,zzA,zzB,zzC]
       iterate 2(refine wpFl_qL (v:=?_) rfl (Or.inl ⟨by rfl,?_⟩) ?_;rotate_left;(focus(intro w' hSw;go_simp;(try with_reducible rfl);done));simp only[Act.put,zzA,zzB,zzC])
       refine wpFl_qL (v:=.bool false) rfl (Or.inl ⟨by rfl,?_⟩) ?_
       focus(intro w' hSw;go_simp;exact H0.out)
       simp only[Act.put,zzA,zzB,zzC]
       refine wpFl_qL (v:=?_) rfl (Or.inl ⟨by rfl,?_⟩) ?_
       rotate_left
       focus(intro w' hSw;go_simp;(try with_reducible rfl);done)
       simp only[Act.put,zzA,zzB,zzC]
       iterate 10(refine wpFl_qL (v:=undef) rfl (Or.inr ⟨by rfl,rfl⟩) ?_;simp only[Act.put,zzA,zzB,zzC])
       refine wpFl_qL (v:=.bool false) rfl (Or.inl ⟨by rfl,?_⟩) ?_
       focus(intro w' hSw;go_simp;done)
       simp only[Act.put,zzA,zzB,zzC]
       refine wpFl_qL (v:=.bool false) rfl (Or.inl ⟨by rfl,?_⟩) ?_
       focus(intro w' hSw;go_simp;done)
       simp only[Act.put,zzA,zzB,zzC]
       refine wpFl_qL (v:=?_) rfl (Or.inl ⟨by rfl,?_⟩) ?_
       rotate_left
       focus(intro w' hSw;go_simp;(try with_reducible rfl);done)
       simp only[Act.put,zzA,zzB,zzC]
       iterate 12(refine wpFl_qL (v:=?_) rfl (Or.inl ⟨by rfl,?_⟩) ?_;rotate_left;(focus(intro w' hSw;obtain⟨⟨_,e1,e2,_,e4⟩,f0,f1,f2⟩:=HL.out w' hSw;go_simp;(try with_reducible rfl);done));simp only[Act.put,zzA,zzB,zzC])
       refine wpFl_bL rfl (fun w8 hn8 hs8 K hK=>?_)
       go_simp
       go_at_call 96
       (with_reducible refine(HV.out _ hs8).mono ?_)
       rintro e w9 ⟨rfl,hb9⟩
       have HB9:=zh (below_next hs8 hb9)
       refine hK.out _ _ HB9.out (Keeps.below hb9) ?_
       clear hK K hn8 hs8 hb9
       refine wpFl_qL (v:=.bool (!vb)) rfl (Or.inl ⟨by rfl,?_⟩) ?_
       focus(intro w' hSw;cases vb <;> go_simp;done)
       simp only[Act.put,zzA,zzB,zzC]
       refine wpFl_qL (v:=.bool (!vb)) rfl (Or.inl ⟨by rfl,?_⟩) ?_
       focus(intro w' hSw;cases vb <;> go_simp;done)
       simp only[Act.put,zzA,zzB,zzC]
       refine wpFl_nil ?_
       refine NoPanic.normal ?_
       go_wp2
       go_meet
       case rel=>exact⟨by simp[HF.out],HB9⟩
      ·have H0:Hid (0 < k):=zh (Nat.pos_of_ne_zero h0)
       obtain⟨j,hj⟩:∃ j,k=j+1:=⟨k - 1,by omega⟩
       obtain⟨y',ey'⟩:∃ y,ys[j]?=some y:=⟨_,List.getElem?_eq_getElem (by rw[← HN.out];omega)⟩
       obtain⟨b',off',eb,hb',c0,_,_⟩:=H3.out j y' ey'
       cases eb
       have HPV:=zh (fun W (hW:Below W7.heap.size W7 W)=>cell_keepB (below_next HB7.out hW) hb' c0)
       clear c0
       have f1:IntKind.i64.wrap ((k:Int) - 1)=(j:Int):=by
        rw[show(k:Int) - 1=(j:Int) by omega]
        exact IntWalk.i64_in _ (by omega)
       have b1:(0:Int)≤(j:Int):=by omega
       have b2:(j:Int) < (n:Int):=by omega
       have bk:decide ((0:Int) < (k:Int))=true:=decide_eq_true (by omega)
       have HPr:Hid (prevI ys k=some y'.1.idx):=zh (by rw[hj];show ys[j]?.map _=_;rw[ey'];rfl)
       clear ey' hj
       generalize y'.1.idx=iy at *
       by_cases hlt2:iy < ix
       ·have hd:decide (ix≤iy)=false:=decide_eq_false (by omega)
        have HF:Hid (T=vb):=zh (by rw[HT.out,he2,decide_eq_true (fun j' h=>by rw[HPr.out]at h;cases h;exact hlt2)];cases vb <;> rfl)
        refine wp_region_noPanic ?_
        refine wp_region_lexB [.q 0,.q 1,.q 2,.q 3,.q 4,.q 5,.q 6,.q 7,.q 8,.q 9,.q 10,.q 11,.q 12,.q 13,.q 14,.q 15,.q 16,.q 17,.q 18,.q 19,.q 20,.q 21,.q 22,.q 23,.q 24,.q 25,.q 26,.q 27,.q 28,.q 29,.q 30,.q 31,.q 32,.b 33,.q 34,.q 35] (by kernel_rfl) (by kernel_rfl) (fun _ _ _ _ h=>h) ?_
        iterate 3(refine wpFl_qL (v:=?_) rfl (Or.inl ⟨by rfl,?_⟩) ?_;rotate_left;(focus(intro w' hSw;obtain⟨⟨_,e1,e2,_,e4⟩,f0,f1,f2⟩:=HL.out w' hSw;go_simp;(try with_reducible rfl);done));simp only[Act.put,zzA,zzB,zzC])
        refine wpFl_qL (v:=.bool false) rfl (Or.inl ⟨by rfl,?_⟩) ?_
        focus(intro w' hSw;go_simp;done)
        simp only[Act.put,zzA,zzB,zzC]
        iterate 2(refine wpFl_qL (v:=?_) rfl (Or.inl ⟨by rfl,?_⟩) ?_;rotate_left;(focus(intro w' hSw;go_simp;(try with_reducible rfl);done));simp only[Act.put,zzA,zzB,zzC])
        refine wpFl_qL (v:=.bool true) rfl (Or.inl ⟨by rfl,?_⟩) ?_
        focus(intro w' hSw;go_simp;exact H0.out)
        simp only[Act.put,zzA,zzB,zzC]
        refine wpFl_qL (v:=?_) rfl (Or.inl ⟨by rfl,?_⟩) ?_
        rotate_left
        focus(intro w' hSw;go_simp;(try with_reducible rfl);done)
        simp only[Act.put,zzA,zzB,zzC]
        iterate 9(refine wpFl_qL (v:=?_) rfl (Or.inl ⟨by rfl,?_⟩) ?_;rotate_left;(focus(intro w' hSw;obtain⟨⟨_,e1,e2,_,e4⟩,f0,f1,f2⟩:=HL.out w' hSw;have p0:=HPV.out w' hSw;go_simp;(try with_reducible rfl);done));simp only[Act.put,zzA,zzB,zzC])
        refine wpFl_qL (v:=.bool false) rfl (Or.inl ⟨by rfl,?_⟩) ?_
        focus(intro w' hSw;go_simp;done)
        simp only[Act.put,zzA,zzB,zzC]
        refine wpFl_qL (v:=.bool false) rfl (Or.inl ⟨by rfl,?_⟩) ?_
        focus(intro w' hSw;go_simp;done)
        simp only[Act.put,zzA,zzB,zzC]
        refine wpFl_qL (v:=.bool false) rfl (Or.inl ⟨by rfl,?_⟩) ?_
        focus(intro w' hSw;go_simp;done)
        simp only[Act.put,zzA,zzB,zzC]
        refine wpFl_qL (v:=?_) rfl (Or.inl ⟨by rfl,?_⟩) ?_
        rotate_left
        focus(intro w' hSw;go_simp;(try with_reducible rfl);done)
        simp only[Act.put,zzA,zzB,zzC]
        iterate 12(refine wpFl_qL (v:=?_) rfl (Or.inl ⟨by rfl,?_⟩) ?_;rotate_left;(focus(intro w' hSw;obtain⟨⟨_,e1,e2,_,e4⟩,f0,f1,f2⟩:=HL.out w' hSw;go_simp;(try with_reducible rfl);done));simp only[Act.put,zzA,zzB,zzC])
        refine wpFl_bL rfl (fun w8 hn8 hs8 K hK=>?_)
        go_simp
        go_at_call 96
        (with_reducible refine(HV.out _ hs8).mono ?_)
        rintro e w9 ⟨rfl,hb9⟩
        have HB9:=zh (below_next hs8 hb9)
        refine hK.out _ _ HB9.out (Keeps.below hb9) ?_
        clear hK K hn8 hs8 hb9
        refine wpFl_qL (v:=.bool (!vb)) rfl (Or.inl ⟨by rfl,?_⟩) ?_
        focus(intro w' hSw;cases vb <;> go_simp;done)
        simp only[Act.put,zzA,zzB,zzC]
        refine wpFl_qL (v:=.bool (!vb)) rfl (Or.inl ⟨by rfl,?_⟩) ?_
        focus(intro w' hSw;cases vb <;> go_simp;done)
        simp only[Act.put,zzA,zzB,zzC]
        refine wpFl_nil ?_
        refine NoPanic.normal ?_
        go_wp2
        go_meet
        case rel=>exact⟨by simp[HF.out],HB9⟩
       ·have hd:decide (ix≤iy)=true:=decide_eq_true (by omega)
        have HF:Hid (T=false):=zh (by rw[HT.out,decide_eq_false (fun h=>hlt2 (h iy HPr.out))];rfl)
        refine wp_region_noPanic ?_
        refine wp_region_lexB [.q 0,.q 1,.q 2,.q 3,.q 4,.q 5,.q 6,.q 7,.q 8,.q 9,.q 10,.q 11,.q 12,.q 13,.q 14,.q 15,.q 16,.q 17,.q 18,.q 19,.q 20,.q 21,.q 22,.q 23,.q 24,.q 25,.q 26,.q 27,.q 28,.q 29,.q 30,.q 31,.q 32,.q 33,.q 34,.q 35] (by kernel_rfl) (by kernel_rfl) (fun _ _ _ _ h=>h) ?_
        iterate 3(refine wpFl_qL (v:=?_) rfl (Or.inl ⟨by rfl,?_⟩) ?_;rotate_left;(focus(intro w' hSw;obtain⟨⟨_,e1,e2,_,e4⟩,f0,f1,f2⟩:=HL.out w' hSw;go_simp;(try with_reducible rfl);done));simp only[Act.put,zzA,zzB,zzC])
        refine wpFl_qL (v:=.bool false) rfl (Or.inl ⟨by rfl,?_⟩) ?_
        focus(intro w' hSw;go_simp;done)
        simp only[Act.put,zzA,zzB,zzC]
        iterate 2(refine wpFl_qL (v:=?_) rfl (Or.inl ⟨by rfl,?_⟩) ?_;rotate_left;(focus(intro w' hSw;go_simp;(try with_reducible rfl);done));simp only[Act.put,zzA,zzB,zzC])
        refine wpFl_qL (v:=.bool true) rfl (Or.inl ⟨by rfl,?_⟩) ?_
        focus(intro w' hSw;go_simp;exact H0.out)
        simp only[Act.put,zzA,zzB,zzC]
        refine wpFl_qL (v:=?_) rfl (Or.inl ⟨by rfl,?_⟩) ?_
        rotate_left
        focus(intro w' hSw;go_simp;(try with_reducible rfl);done)
        simp only[Act.put,zzA,zzB,zzC]
        iterate 9(refine wpFl_qL (v:=?_) rfl (Or.inl ⟨by rfl,?_⟩) ?_;rotate_left;(focus(intro w' hSw;obtain⟨⟨_,e1,e2,_,e4⟩,f0,f1,f2⟩:=HL.out w' hSw;have p0:=HPV.out w' hSw;go_simp;(try with_reducible rfl);done));simp only[Act.put,zzA,zzB,zzC])
        refine wpFl_qL (v:=.bool true) rfl (Or.inl ⟨by rfl,?_⟩) ?_
        focus(intro w' hSw;go_simp;done)
        simp only[Act.put,zzA,zzB,zzC]
        refine wpFl_qL (v:=.bool true) rfl (Or.inl ⟨by rfl,?_⟩) ?_
        focus(intro w' hSw;go_simp;done)
        simp only[Act.put,zzA,zzB,zzC]
        refine wpFl_qL (v:=.bool true) rfl (Or.inl ⟨by rfl,?_⟩) ?_
        focus(intro w' hSw;go_simp;done)
        simp only[Act.put,zzA,zzB,zzC]
        refine wpFl_qL (v:=?_) rfl (Or.inl ⟨by rfl,?_⟩) ?_
        rotate_left
        focus(intro w' hSw;go_simp;(try with_reducible rfl);done)
        simp only[Act.put,zzA,zzB,zzC]
        iterate 14(refine wpFl_qL (v:=undef) rfl (Or.inr ⟨by rfl,rfl⟩) ?_;simp only[Act.put,zzA,zzB,zzC])
        refine wpFl_qL (v:=.bool true) rfl (Or.inl ⟨by rfl,?_⟩) ?_
        focus(intro w' hSw;go_simp;done)
        simp only[Act.put,zzA,zzB,zzC]
        refine wpFl_nil ?_
        refine NoPanic.normal ?_
        go_wp2
        go_meet
        case rel=>exact⟨by simp[HF.out],zh (Below.drew br0)⟩
     ·have he1:decide ((1000:Int) < (en.size:Int))=true:=decide_eq_true (by omega)
      have HF:Hid (T=false):=zh (by rw[HT.out,decide_eq_false hen,Bool.and_false];rfl)
      refine wp_region_noPanic ?_
      refine wp_region_lexB [.q 0,.q 1,.q 2,.q 3,.q 4,.q 5,.q 6,.q 7,.q 8,.q 9,.q 10,.q 11,.q 12,.q 13,.q 14,.q 15,.q 16,.q 17,.q 18,.q 19,.q 20,.q 21,.q 22,.q 23,.q 24,.q 25,.q 26,.q 27,.q 28,.q 29,.q 30,.q 31,.q 32,.q 33,.q 34,.q 35] (by kernel_rfl) (by kernel_rfl) (fun _ _ _ _ h=>h) ?_
      iterate 3(refine wpFl_qL (v:=?_) rfl (Or.inl ⟨by rfl,?_⟩) ?_;rotate_left;(focus(intro w' hSw;obtain⟨⟨_,e1,e2,_,e4⟩,f0,f1,f2⟩:=HL.out w' hSw;go_simp;(try with_reducible rfl);done));simp only[Act.put,zzA,zzB,zzC])
      refine wpFl_qL (v:=.bool true) rfl (Or.inl ⟨by rfl,?_⟩) ?_
      focus(intro w' hSw;go_simp;done)
      simp only[Act.put,zzA,zzB,zzC]
      refine wpFl_qL (v:=?_) rfl (Or.inl ⟨by rfl,?_⟩) ?_
      rotate_left
      focus(intro w' hSw;go_simp;(try with_reducible rfl);done)
      simp only[Act.put,zzA,zzB,zzC]
      iterate 14(refine wpFl_qL (v:=undef) rfl (Or.inr ⟨by rfl,rfl⟩) ?_;simp only[Act.put,zzA,zzB,zzC])
      refine wpFl_qL (v:=.bool true) rfl (Or.inl ⟨by rfl,?_⟩) ?_
      focus(intro w' hSw;go_simp;done)
      simp only[Act.put,zzA,zzB,zzC]
      refine wpFl_qL (v:=?_) rfl (Or.inl ⟨by rfl,?_⟩) ?_
      rotate_left
      focus(intro w' hSw;go_simp;(try with_reducible rfl);done)
      simp only[Act.put,zzA,zzB,zzC]
      iterate 14(refine wpFl_qL (v:=undef) rfl (Or.inr ⟨by rfl,rfl⟩) ?_;simp only[Act.put,zzA,zzB,zzC])
      refine wpFl_qL (v:=.bool true) rfl (Or.inl ⟨by rfl,?_⟩) ?_
      focus(intro w' hSw;go_simp;done)
      simp only[Act.put,zzA,zzB,zzC]
      refine wpFl_nil ?_
      refine NoPanic.normal ?_
      go_wp2
      go_meet
      case rel=>exact⟨by simp[HF.out],zh (Below.drew br0)⟩
    case rest =>
    obtain⟨ht,HBc⟩:=hcut
    subst ht
    have HB8:=zh (below_next HB7.out HBc.out)
    have HX8:=zh (kept_block HX7.out HBc.out)
    cases T with
    | false =>
     have HF:Hid (RR=false):=zh (by rw[HSt2.out];rfl)
     go_wp2
     go_ret
     exact⟨by rw[HF.out];rfl,HB8.out⟩
    | true =>
     have HF:Hid (RR=itemsFrom root s ys (k+1)):=zh (by rw[HSt2.out];rfl)
     go_wp2
     go_roundw
     case rel=>exact⟨k+1,by omega,by go_num,HF,HB8,HX8⟩
     case measure=>simp[intOf];omega
   ·have tk:¬ (k:Int) < (n:Int):=by omega
    have HF:Hid (RR=true):=zh (by rw[hR.out,itemsFrom_end _ _ _ _ (by rw[← HN.out];omega)])
    go_wp2
    go_ret
    exact⟨by rw[HF.out];rfl,hB.out⟩
def PartOkR (z:PartP):Prop:=z.items.length≤1000∧∀ y∈z.items,y.prf.length≤1000∧y.ent.size≤1000000
set_option maxHeartbeats 16000000 in
set_option maxRecDepth 100000 in
theorem rmeet_any {w:World}{kv x:Value}{ks:List ByteArray}{zs:List (PartP × Value)}(hr:SS w kv ks)(hks:∀ k∈ks,k.size≤1000)(hz:PS w x zs)(hok:∀ z:PartP × Value,z∈zs→PartOkR z.1) :
  Calls Tryz.prog 50 #[.agg #[kv],x] w (MeetIs w (meetV ks (zs.map (·.1)))):=by
 obtain⟨ka,kc,rfl,-,-,hk3⟩:=hr.opened
 have HR:=zh hr
 have HK3:=zh hk3
 have HZ:=zh hz
 obtain⟨xa,xc,rfl,-,-,hx3⟩:=hz.opened
 have HX3:=zh hx3
 have HOK:=zh hok
 have HKS:=zh hks
 obtain⟨W1,hW1⟩:∃ W1,W1=w.alloc (.cells #[.slice ka ks.length kc] 31):=⟨_,rfl⟩
 have HB1:Hid (Below w.heap.size w W1):=zh (by rw[hW1];exact br0.alloc (Nat.le_refl _) _)
 have HH1:Hid (W1.heap[w.heap.size]?=some (.cells #[.slice ka ks.length kc] 31 (0,0))):=zh (by rw[hW1];exact heap_alloc_new w _)
 have HPL:=zh (rvalid_any (hr.below HB1.out))
 have HRN:Hid (validC ks=false∨20 < zs.length→meetV ks (zs.map (·.1))=[]):=zh fun h=>by
  unfold meetV
  rw[if_neg (by
   rw[List.length_map]
   rcases h with h | h
   ·rw[h];rintro⟨h,_⟩;cases h
   ·rintro⟨_,h'⟩;omega)]
 have HRY:Hid (validC ks=true→zs.length≤20→meetV ks (zs.map (·.1))=sortedG ks ((zs.map (·.1)).flatMap (votesIn ks))):=zh fun h h'=>by
  unfold meetV
  rw[if_pos ⟨h,by rw[List.length_map];exact h'⟩,sortedG_yes h]
 have HW1:=zh hW1
 obtain⟨PL,hPL⟩:∃ PL,PL=validC ks:=⟨_,rfl⟩
 rw[← hPL]at HPL HRN HRY
 have hc2:W1.cell? ⟨w.heap.size,0,none⟩=some (.slice ka ks.length kc):=cell_of_row W1 _ 0 _ _ _ HH1.out
 obtain⟨kn,hkn⟩:∃ n,n=ks.length:=⟨_,rfl⟩
 have HKN:=zh hkn
 obtain⟨n,hn⟩:∃ n,n=zs.length:=⟨_,rfl⟩
 have HN:=zh hn
 have HKL:Hid (PL=true→kn≤7):=zh (fun h=>by rw[hPL]at h;rcases valid_len h with h | h | h <;> omega)
 rw[← hn]at HRN HRY
 rw[← hkn]at HPL hc2 HW1 HH1
 generalize meetV ks (zs.map (·.1))=RES at *
 show Calls Tryz.prog 50 #[.agg #[.slice _ ks.length _],.slice _ zs.length _] w _
 rw[← hn,← hkn]
 clear hr hks hz hok hW1 hPL hk3 hx3 hkn hn
 cases PL with
 | false =>
  have HE2:=HRN.out (.inl rfl)
  subst HE2
  go_enter Tryz.func50,Tryz.ntmps50
  go_upto_region 1 with fail
  rw[← HW1.out]
  go_wp2_with (go_at_call 59;refine HPL.out.mono ?_;rintro e w2 ⟨rfl,h2⟩;have H2:=zh h2;clear h2)
  go_ret
  exact⟨_,rfl,VS.nil _,q_next HB1.out H2.out⟩
 | true =>
  by_cases h20:20 < n
  ·have HE2:=HRN.out (.inr h20)
   subst HE2
   have h20':(20:Int) < (n:Int):=by omega
   go_enter Tryz.func50,Tryz.ntmps50
   go_upto_region 1 with fail
   rw[← HW1.out]
   go_wp2_with (go_at_call 59;refine HPL.out.mono ?_;rintro e w2 ⟨rfl,h2⟩;have H2:=zh h2;clear h2)
   go_ret
   exact⟨_,rfl,VS.nil _,q_next HB1.out H2.out⟩
  ·have hRES:=zh (HRY.out rfl (by omega))
   have hkn7:=HKL.out rfl
   have h20':¬ (20:Int) < (n:Int):=by omega
   clear HRN HRY HKL
   go_enter Tryz.func50,Tryz.ntmps50
   go_upto_region 1 with fail
   rw[← HW1.out]
   go_upto_region 4 with(go_at_call 59;refine HPL.out.mono ?_;rintro e w2 ⟨rfl,h2⟩;have HM0:=zh (show MeAt W1 (.slice none 0 0) [] w2 from⟨h2,OwnE.nil _ _ _ _⟩);clear h2)
   clear HPL hc2
   go_wp2
   rw[show decide ((20:Int) < (n:Int))=false from decide_eq_false (by omega)]
   obtain⟨F,hF⟩:∃ F:Nat→List VoteP,F=fun i=>((zs.map (·.1)).take i).flatMap (votesIn ks):=⟨_,rfl⟩
   have HF0:Hid (F 0=[]):=zh (by rw[hF];rfl)
   have HFS:Hid (∀(i:Nat) (z:PartP × Value),zs[i]?=some z→F (i+1)=F i++votesIn ks z.1):=zh (fun i z hz=>by
    rw[hF]
    exact meets_snoc (by rw[List.getElem?_map,hz];rfl))
   have HFN:Hid (RES=sortedG ks (F n)):=zh (by
    rw[hRES.out,hF]
    show _=sortedG ks (((zs.map (·.1)).take n).flatMap (votesIn ks))
    rw[List.take_of_length_le (by rw[List.length_map,HN.out];exact Nat.le_refl _)])
   clear hF hRES
   go_loopw [5,6] (fun out ip wr=>∃(i m:Nat) (oa:Option Addr) (oc:Nat),i≤n∧ip=.int .i64 i∧out=.slice oa m oc∧m≤1000*i∧Hid ((F i).length=m)∧Hid (MeAt W1 (.slice oa m oc) (F i) wr)) (fun _ ip _=>n - (intOf ip).toNat)
   case atStart=>exact⟨0,0,none,0,by omega,rfl,rfl,Nat.le_refl _,zh (by rw[HF0.out];rfl),by rw[HF0.out];exact HM0⟩
   case round =>
    obtain⟨i,m,oa,oc,hi,rfl,rfl,hm,hlen,hM⟩:=hrel
    by_cases hlt:i < n
    ·obtain⟨z,ez⟩:∃ y,zs[i]?=some y:=⟨_,List.getElem?_eq_getElem (by rw[← HN.out];exact hlt)⟩
     obtain⟨gb,go,rfl,hgb,hzat⟩:=HX3.out i z ez
     obtain⟨ys,hys,hist⟩:=HZ.out.2 z (List.mem_of_getElem? ez)
     have hpo:=HOK.out z (List.mem_of_getElem? ez)
     have HS1:=zh (HFS.out i z ez)
     obtain⟨⟨⟨pc,ps,pr,pl⟩,its⟩,iv⟩:=z
     obtain⟨p2,p3⟩:=hpo
     simp only at hys hist p2 p3 HS1
     obtain⟨ia,ic,hiv,-,-,hi3⟩:=hist.is.opened
     subst hiv
     obtain⟨ni,hni⟩:∃ ni,ni=ys.length:=⟨_,rfl⟩
     have hitl:its.length=ni:=by rw[← hys,List.length_map,hni]
     have HIS:=zh hist.is
     rw[← hni]at hzat HIS
     have HNI:=zh hni
     have HI3:=zh hi3
     have HBM:=zh (q_next HB1.out hM.out.1)
     have HPA:=zh (fun W (hW:Below w.heap.size w W)=>hzat.keep hW hgb)
     (try simp only at HPA)
     have hpk0:(0:Int)≤(i:Int):=by omega
     have hpk:(i:Int) < (n:Int):=by omega
     have HCH:Hid (∀ key:ByteArray,key.size≤1000→∀ W,Below wr.heap.size wr W→Calls Tryz.prog 92 #[.string key,.agg #[.int .i64 pc,.int .i64 ps,.string pr,.string pl,.slice ia ni ic]] W fun e w'=>e=.returned (.bool (checkB key ⟨⟨pc,ps,pr,pl⟩,its⟩))∧Below W.heap.size W w'):=zh fun key hkey W hW=>by
      have h:=rcheck_any key pc ps pr pl (HIS.out.below (q_next HBM.out hW)) hkey (by rw[← HNI.out];omega) (fun y hy=>(p3 y.1 (by rw[← hys];exact List.mem_map_of_mem hy)).1)
      rw[hys]at h
      exact h
     have hitm:=zh p3
     clear hist hi3 hni hzat p3 ez
     obtain⟨R,hR⟩:∃ R,R=!(decide (0≤pc∧pc < (kn:Int)) && checkB (ks.getD pc.toNat ⟨#[]⟩) ⟨⟨pc,ps,pr,pl⟩,its⟩):=⟨_,rfl⟩
     have HRN2:Hid (R=true→F (i+1)=F i):=zh fun h=>by
      rw[HS1.out,votesIn,if_neg,List.append_nil]
      rintro⟨h1,h2⟩
      rw[HKN.out]at hR
      rw[hR,decide_eq_true h1]at h
      simp only[Bool.true_and]at h
      rw[h2]at h
      cases h
     have HRY2:Hid (R=false→F (i+1)=F i++its.filterMap (itemVote pc)):=zh fun h=>by
      rw[HS1.out,votesIn,if_pos]
      rw[hR]at h
      simp only[Bool.not_eq_false',Bool.and_eq_true,decide_eq_true_iff]at h
      rw[HKN.out]at h
      exact h
     have HRR:=zh hR
     have hys2:=zh hys
     clear hR HS1 hys
     obtain⟨c0,c1,c2,c3,c4⟩:=HPA.out wr HBM.out
     go_upto_region 8 with fail
     clear c0 c1 c2 c3 c4
     have hkw:IntKind.i64.wrap ((kn:Int) - 1)=(kn:Int) - 1:=IntWalk.i64_in _ (by omega)
     have HIN:=zh (fun W=>rin_any pc 0 ((kn:Int) - 1) W)
     go_cut [50] (fun t wx=>t=.bool R∧Hid (Below wr.heap.size wr wx))
     case first =>
      by_cases hin:0≤pc∧pc < (kn:Int)
      ·obtain⟨j,rfl⟩:∃ j:Nat,pc=(j:Int):=⟨pc.toNat,by omega⟩
       have hj:j < kn:=by omega
       obtain⟨key,ek⟩:∃ y,ks[j]?=some y:=⟨_,List.getElem?_eq_getElem (by rw[← HKN.out];exact hj)⟩
       obtain⟨kb,ko,rfl,hkb,hkc⟩:=HK3.out j key ek
       have hksz:=HKS.out key (List.mem_of_getElem? ek)
       have HCK:=zh (HCH.out key hksz)
       have hget:ks.getD ((j:Int)).toNat ⟨#[]⟩=key:=by
        rw[Int.toNat_natCast,List.getD_eq_getElem?_getD,ek]
        rfl
       obtain⟨C,hC⟩:∃ C,C=checkB key ⟨⟨(j:Int),ps,pr,pl⟩,its⟩:=⟨_,rfl⟩
       have hRC:R=!C:=by rw[HRR.out,hget,decide_eq_true hin,hC];rfl
       rw[← hC]at HCK
       have hdin:decide ((0:Int)≤(j:Int)∧(j:Int)≤(kn:Int) - 1)=true:=decide_eq_true (by omega)
       rw[hdin]at HIN
       have HCL:=zh fun W (hW:Below wr.heap.size wr W)=>And.intro (cell_of_row W _ 0 _ _ _ (((q_next hM.out.1 hW).block _ (ltA HH1.out)).trans HH1.out)) (And.intro (cell_keepB (q_next HBM.out hW) hkb hkc) (HPA.out W (q_next HBM.out hW)))
       have hj0:(0:Int)≤(j:Int):=by omega
       have hj1:(j:Int) < (kn:Int):=by omega
       subst hRC
       clear hdin hC hget HRR hkc hkb ek hin
       refine wp_region_noPanic ?_
       refine wp_region_lexB [.q 0,.q 1,.q 2,.q 3,.q 4,.b 5,.q 6,.q 7,.q 8,.q 9,.q 10,.q 11,.q 12,.q 13,.q 14,.q 15,.q 16,.b 17,.q 18,.q 19] (by kernel_rfl) (by kernel_rfl) (fun _ _ _ _ h=>h) ?_
       iterate 5(refine wpFl_qL (v:=?_) rfl (Or.inl ⟨by rfl,?_⟩) ?_;rotate_left;(focus(intro w' hSw;obtain⟨f0,f1,f2,f3,f4,f5,f6⟩:=HCL.out w' hSw;go_simp;(try with_reducible rfl);done));simp only[Act.put,zzA,zzB,zzC])
       refine wpFl_bL rfl (fun wa hna hsa K hK=>?_)
       go_simp
       go_at_call 91
       refine(HIN.out wa).mono ?_
       rintro e wb ⟨rfl,hwb⟩
       replace hwb:=hwb.symm
       subst hwb
       refine hK.out _ _ hsa (Keeps.below br0) ?_
       clear hK K hna hsa
       iterate 11(refine wpFl_qL (v:=?_) rfl (Or.inl ⟨by rfl,?_⟩) ?_;rotate_left;(focus(intro w' hSw;obtain⟨f0,f1,f2,f3,f4,f5,f6⟩:=HCL.out w' hSw;go_simp;(try with_reducible rfl);done));simp only[Act.put,zzA,zzB,zzC])
       refine wpFl_bL rfl (fun wc hnc hsc K hK=>?_)
       go_simp
       go_at_call 92
       refine(HCK.out wc hsc).mono ?_
       rintro e wd ⟨rfl,hbd⟩
       have HBD:=zh (q_next hsc hbd)
       refine hK.out _ _ HBD.out (Keeps.below hbd) ?_
       clear hK K hnc hsc hbd
       iterate 2(refine wpFl_qL (v:=?_) rfl (Or.inl ⟨by rfl,?_⟩) ?_;rotate_left;(focus(intro w' hSw;go_simp;(try with_reducible rfl);done));simp only[Act.put,zzA,zzB,zzC])
       refine wpFl_nil ?_
       refine NoPanic.normal ?_
       go_wp2
       go_meet
       case rel=>exact⟨rfl,HBD⟩
      ·have hRC:R=true:=by rw[HRR.out,decide_eq_false hin];rfl
       have hdin:decide ((0:Int)≤pc∧pc≤(kn:Int) - 1)=false:=decide_eq_false (by omega)
       rw[hdin]at HIN
       have HCL:Hid (∀ W,Below wr.heap.size wr W→W.cell? ⟨w.heap.size,0,none⟩=some (.slice ka kn kc)):=zh fun W hW=>cell_of_row W _ 0 _ _ _ (((q_next hM.out.1 hW).block _ (ltA HH1.out)).trans HH1.out)
       subst hRC
       clear hdin HRR hin
       refine wp_region_noPanic ?_
       refine wp_region_lexB [.q 0,.q 1,.q 2,.q 3,.q 4,.b 5,.q 6,.q 7,.q 8,.q 9,.q 10,.q 11,.q 12,.q 13,.q 14,.q 15,.q 16,.q 17,.q 18,.q 19] (by kernel_rfl) (by kernel_rfl) (fun _ _ _ _ h=>h) ?_
       iterate 5(refine wpFl_qL (v:=?_) rfl (Or.inl ⟨by rfl,?_⟩) ?_;rotate_left;(focus(intro w' hSw;have f0:=HCL.out w' hSw;go_simp;(try with_reducible rfl);done));simp only[Act.put,zzA,zzB,zzC])
       refine wpFl_bL rfl (fun wa hna hsa K hK=>?_)
       go_simp
       go_at_call 91
       refine(HIN.out wa).mono ?_
       rintro e wb ⟨rfl,hwb⟩
       replace hwb:=hwb.symm
       subst hwb
       have HBD:=zh hsa
       refine hK.out _ _ hsa (Keeps.below br0) ?_
       clear hK K hna hsa
       iterate 2(refine wpFl_qL (v:=?_) rfl (Or.inl ⟨by rfl,?_⟩) ?_;rotate_left;(focus(intro w' hSw;go_simp;(try with_reducible rfl);done));simp only[Act.put,zzA,zzB,zzC])
       iterate 11(refine wpFl_qL (v:=undef) rfl (Or.inr ⟨by rfl,rfl⟩) ?_;simp only[Act.put,zzA,zzB,zzC])
       refine wpFl_qL (v:=?_) rfl (Or.inl ⟨by rfl,?_⟩) ?_
       rotate_left
       focus(intro w' hSw;go_simp;(try with_reducible rfl);done)
       simp only[Act.put,zzA,zzB,zzC]
       refine wpFl_nil ?_
       refine NoPanic.normal ?_
       go_wp2
       go_meet
       case rel=>exact⟨rfl,HBD⟩
     case rest =>
      obtain⟨ht46,HB3⟩:=hcut
      subst ht46
      obtain⟨w3,hw3⟩:∃ W,W=wc:=⟨_,rfl⟩
      rw[← hw3]at HB3 ⊢
      clear hw3 wc HIN hkw HCH HRR
      have HM3:=zh (hM.out.far HB3.out)
      clear HB3 hM HBM
      cases R with
      | true =>
       have HF2:=zh (HRN2.out rfl)
       clear HRN2 HRY2
       go_wp2
       go_roundw
       case rel =>
        refine⟨i+1,m,oa,oc,by omega,by go_num,rfl,by omega,?_,?_⟩
        ·rw[HF2.out];exact hlen
        ·rw[HF2.out];exact HM3
       case measure=>simp[intOf];omega
      | false =>
       have HFY:=zh (HRY2.out rfl)
       clear HRN2 HRY2
       have hni:ni≤1000:=by rw[← hitl];exact p2
       obtain⟨G,hG⟩:∃ G:Nat→List VoteP,G=fun k=>(its.take k).filterMap (itemVote pc):=⟨_,rfl⟩
       have HG0:Hid (G 0=[]):=zh (by rw[hG];rfl)
       have HGS:Hid (∀(k:Nat) (y:ItemP),its[k]?=some y→G (k+1)=G k++(itemVote pc y).toList):=zh (fun k y hy=>by
        rw[hG]
        exact items_snoc hy)
       have HGN:Hid (its.filterMap (itemVote pc)=G ni):=zh (by
        rw[hG]
        show _=(its.take ni).filterMap (itemVote pc)
        rw[List.take_of_length_le (by rw[hitl];exact Nat.le_refl _)])
       have HYS:Hid (∀(k:Nat) (y:ItemP × Value),ys[k]?=some y→its[k]?=some y.1):=zh (fun k y hy=>by rw[← hys2.out,List.getElem?_map,hy];rfl)
       clear hG hitl p2
       go_wp2
       go_loopw [5,8] (fun out kp wx=>∃(k m2:Nat) (oa2:Option Addr) (oc2:Nat),k≤ni∧kp=.int .i64 k∧out=.slice oa2 m2 oc2∧m2≤m+k∧Hid ((F i++G k).length=m2)∧Hid (MeAt W1 (.slice oa2 m2 oc2) (F i++G k) wx)) (fun _ kp _=>ni - (intOf kp).toNat)
       case atStart=>exact⟨0,m,oa,oc,by omega,rfl,rfl,by omega,zh (by rw[HG0.out,List.append_nil];exact hlen.out),by rw[HG0.out,List.append_nil];exact HM3⟩
       case round =>
        obtain⟨k,m2,oa2,oc2,hk,rfl,rfl,hm2,hlen2,hM4⟩:=hrel
        have hbw:=zh (q_next HB1.out hM4.out.1)
        obtain⟨c0,c1,c2,c3,c4⟩:=HPA.out wr hbw.out
        by_cases hlt2:k < ni
        ·obtain⟨y,ey⟩:∃ y,ys[k]?=some y:=⟨_,List.getElem?_eq_getElem (by rw[← HNI.out];exact hlt2)⟩
         obtain⟨ib,io,rfl,hib,d0,d1,d2⟩:=HI3.out k y ey
         have HGk:=zh (HGS.out k y.1 (HYS.out k y ey))
         have hent:=(hitm.out y.1 (List.mem_of_getElem? (HYS.out k y ey))).2
         replace d1:=cell_keepB hbw.out hib d1
         obtain⟨⟨yi,ye,yp⟩,yv⟩:=y
         simp only at d1 HGk hent
         have hk0:(0:Int)≤(k:Int):=by omega
         have hk1:(k:Int) < (ni:Int):=by omega
         have HDE:=zh (fun W=>rdecode_any ye hent W)
         clear d0 d2 ey hent
         cases hd:decodeV ye with
         | none =>
          have HG2:Hid (F i++G (k+1)=F i++G k):=zh (by rw[HGk.out];unfold itemVote;rw[hd];simp)
          rw[hd]at HDE
          clear hd HGk
          go_wp2_with (go_at_call 29;refine(HDE.out _).mono ?_;rintro e w6 ⟨rfl,h6⟩;have HM6:=zh (hM4.out.far (q_next h6 (br0.alloc (Nat.le_refl _) (.cells #[.int .i64 0,.int .i64 0,.int .i64 0,.string ⟨#[]⟩,.string ⟨#[]⟩] 27))));clear h6;unfold castR)
          go_roundw
          case rel =>
           refine⟨k+1,m2,oa2,oc2,by omega,by go_num,rfl,by omega,?_,?_⟩
           ·rw[HG2.out];exact hlen2
           ·rw[HG2.out];exact HM6
          case measure=>simp[intOf];omega
         | some v =>
          rw[hd]at HDE
          obtain⟨vc,vn,vs,vv,vl⟩:=v
          by_cases hvc:vc=pc
          ·have HG2:Hid (F i++G (k+1)=(F i++G k)++[⟨vc,vn,vs,vv,vl⟩]):=zh (by
            rw[HGk.out,List.append_assoc]
            unfold itemVote
            rw[hd]
            simp only[Option.bind_some]
            rw[if_pos hvc]
            rfl)
           clear hd HGk
           replace hvc:=hvc.symm
           subst hvc
           have hdv:(pc == pc)=true:=by simp
           go_upto_region 13 with(go_at_call 29;refine(HDE.out _).mono ?_;rintro e w6 ⟨rfl,h6⟩;have HM6:=zh (hM4.out.far (q_next h6 (br0.alloc (Nat.le_refl _) (.cells #[.int .i64 pc,.int .i64 vn,.int .i64 vs,.string vv,.string vl] 27))));clear h6;unfold castR vagg)
           obtain⟨W7,hW7⟩:∃ W7,W7=w6.alloc (.cells #[.int .i64 pc,.int .i64 vn,.int .i64 vs,.string vv,.string vl] 27):=⟨_,rfl⟩
           obtain⟨v0,v1,v2,v3,v4⟩:=vcellsAt (w:=W7) (b:=w6.heap.size) (by rw[hW7];exact heap_alloc_new w6 _)
           rw[← hW7]at HM6 ⊢
           clear hW7
           go_upto_region 14 with fail
           go_wp2_with (at_builtin;refine wpList_append_vote (.tmp 82) (.tmp 84) W1.heap.size (.slice oa2 m2 oc2) (F i++G k) ⟨pc,vn,vs,vv,vl⟩ W7.heap.size (0,0) (OwnE.alloc HM6.out.2 _) (by rw[hlen2.out];omega) (by have:=HM6.out.1.size;simp;omega) (heap_alloc_new _ _) rfl rfl rfl rfl ?_;intro v9 w9 ho9 hg9;have HM9:=zh (HM6.out.append hg9 ho9);clear hg9;obtain⟨va9,vc9,hv9⟩:=ho9.form;rw[List.length_append,hlen2.out]at hv9;simp only[List.length_cons,List.length_nil,Nat.zero_add]at hv9;clear ho9;subst hv9)
           go_roundw
           case rel =>
            refine⟨k+1,m2+1,va9,vc9,by omega,by go_num,rfl,by omega,?_,?_⟩
            ·rw[HG2.out,List.length_append,hlen2.out];exact zh rfl
            ·rw[HG2.out];exact HM9
           case measure=>simp[intOf];omega
          ·have HG2:Hid (F i++G (k+1)=F i++G k):=zh (by
            rw[HGk.out]
            unfold itemVote
            rw[hd]
            simp only[Option.bind_some]
            rw[if_neg hvc]
            simp)
           clear hd HGk
           have hdv:(vc == pc)=false:=by simp[hvc]
           go_upto_region 13 with(go_at_call 29;refine(HDE.out _).mono ?_;rintro e w6 ⟨rfl,h6⟩;have HM6:=zh (hM4.out.far (q_next h6 (br0.alloc (Nat.le_refl _) (.cells #[.int .i64 vc,.int .i64 vn,.int .i64 vs,.string vv,.string vl] 27))));clear h6;unfold castR vagg)
           obtain⟨W7,hW7⟩:∃ W7,W7=w6.alloc (.cells #[.int .i64 vc,.int .i64 vn,.int .i64 vs,.string vv,.string vl] 27):=⟨_,rfl⟩
           have v0:=cell_of_row W7 w6.heap.size 0 _ _ _ (by rw[hW7];exact heap_alloc_new w6 _)
           rw[← hW7]at HM6 ⊢
           clear hW7
           go_wp2
           go_roundw
           case rel =>
            refine⟨k+1,m2,oa2,oc2,by omega,by go_num,rfl,by omega,?_,?_⟩
            ·rw[HG2.out];exact hlen2
            ·rw[HG2.out];exact HM6
           case measure=>simp[intOf];omega
        ·obtain rfl:k=ni:=by omega
         have HF2:Hid (F (i+1)=F i++G k):=zh (by rw[HFY.out,HGN.out])
         go_wp2
         go_roundw
         case rel =>
          refine⟨i+1,m2,oa2,oc2,by omega,by go_num,rfl,by omega,?_,?_⟩
          ·rw[HF2.out];exact hlen2
          ·rw[HF2.out];exact hM4
         case measure=>simp[intOf];omega
    ·obtain rfl:i=n:=by omega
     have hk4:=cell_of_row wr _ 0 _ _ _ ((hM.out.1.block _ (ltA HH1.out)).trans HH1.out)
     have HB4:=zh (q_next HB1.out hM.out.1)
     have HSO:Hid (Calls Tryz.prog 93 #[.agg #[.slice ka ks.length kc],.slice oa (F i).length oc] wr fun e w'=>∃ v,e=.returned v∧VS w' v (sortedG ks (F i))∧Below wr.heap.size wr w'):=zh (by
      have hv:=OwnV.vs hM.out.2
      rw[← hlen.out]at hv
      exact rsorted_any (HR.out.below HB4.out) HKS.out hv (by rw[hlen.out];omega))
     rw[hlen.out,← HKN.out,← HFN.out]at HSO
     clear hM
     go_wp2_with (go_at_call 93;refine HSO.out.mono ?_;rintro e w8 ⟨v,rfl,h8,h9⟩;have H8:=zh h8;have H9:=zh h9;clear h8 h9)
     go_ret
     exact⟨v,rfl,H8.out,q_next HB4.out H9.out⟩
end Go.Proofs.YtggdcnjaofflbaaGreatDoor
