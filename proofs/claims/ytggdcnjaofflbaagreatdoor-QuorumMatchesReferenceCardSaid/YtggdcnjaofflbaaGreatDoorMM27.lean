/- Walks of the reference: Doubles. The conditions: lengths. -/
import Derived.Test.YtggdcnjaofflbaaGreatDoorMM26
namespace Go.Proofs.YtggdcnjaofflbaaGreatDoor
open Go.RowKit Go.BigFrame
theorem one_move {q a b:VoteP}(h:oneV a b=true):oneV q b=oneV q a:=by
 rw[Bool.eq_iff_iff]
 unfold oneV at *
 simp only[decide_eq_true_eq]at *
 obtain⟨h1,h2,h3⟩:=h
 constructor
 ·rintro⟨g1,g2,g3⟩
  exact⟨g1.trans h1.symm,g2.trans h2.symm,g3.trans h3.symm⟩
 ·rintro⟨g1,g2,g3⟩
  exact⟨g1.trans h1,g2.trans h2,g3.trans h3⟩
def fstQ (L:List VoteP)(a:VoteP):Nat→Bool
 | 0=>true
 | k+1=>!((L[k]?).any fun q=>oneV q a)
theorem dblC_ref (L:List VoteP)(p:Nat)(a b:VoteP):dblC L p a b=(fstQ L a p && oneV a b):=by
 unfold dblC
 cases h:oneV a b with
 | false=>simp
 | true =>
  rw[Bool.true_and,Bool.and_true]
  cases p with
  | zero=>rfl
  | succ k =>
   show(decide (k+1=0) || !((L[k+1 - 1]?).any fun q=>oneV q b))=!((L[k]?).any fun q=>oneV q a)
   rw[decide_eq_false (by omega),Bool.false_or,Nat.add_sub_cancel]
   cases L[k]? with
   | none=>rfl
   | some q=>simp only[Option.any_some];rw[one_move h]
set_option maxHeartbeats 16000000 in
set_option maxRecDepth 100000 in
theorem rdoubles_any {w:World}{kv x:Value}{ks:List ByteArray}{l:List VoteP}(hr:SS w kv ks)(hks:∀ k∈ks,k.size≤1000)(hl:VS w x l) :
  Calls Tryz.prog 61 #[.agg #[kv],x] w (DoubIs w (doublesV ks l)):=by
 have HS:=zh hl
 have HRS:=zh hr
 obtain⟨ka,kc,rfl,-,-,-⟩:=hr.opened
 obtain⟨xa,xc,rfl,-,-,-⟩:=hl.opened
 obtain⟨W1,hW1⟩:∃ W1,W1=w.alloc (.cells #[.slice ka ks.length kc] 31):=⟨_,rfl⟩
 have HB1:Hid (Below w.heap.size w W1):=zh (by rw[hW1];exact br0.alloc (Nat.le_refl _) _)
 have HH1:Hid (W1.heap[w.heap.size]?=some (.cells #[.slice ka ks.length kc] 31 (0,0))):=zh (by rw[hW1];exact heap_alloc_new w _)
 have HPL:=zh (rvalid_any (HRS.out.below HB1.out))
 have HSO:Hid (l.length≤60→∀ W,Below w.heap.size w W→Calls Tryz.prog 93 #[.agg #[.slice ka ks.length kc],.slice xa l.length xc] W fun e w'=>∃ v,e=.returned v∧VS w' v (sortedG ks l)∧Below W.heap.size W w'):=zh fun h60 W hW =>
  rsorted_any (HRS.out.below hW) hks (HS.out.below hW) (by omega)
 have HRN:Hid (validC ks=false∨60 < l.length→doublesV ks l=[]):=zh fun h=>by
  unfold doublesV
  rw[if_neg (by
   unfold isPool
   rcases h with h | h
   ·rw[h];simp
   ·rw[decide_eq_false (by omega)];simp)]
 have HRY:Hid (validC ks=true→l.length≤60→doublesV ks l=dblL none (sortedG ks l)∧(sortedG ks l).length≤60):=zh fun h h60=>by
  refine⟨?_,Nat.le_trans (sortedG_len ks l) h60⟩
  unfold doublesV
  rw[if_pos (by unfold isPool;rw[h,decide_eq_true h60];rfl),sortedG_yes h]
 have HW1:=zh hW1
 obtain⟨PL,hPL⟩:∃ PL,PL=validC ks:=⟨_,rfl⟩
 rw[← hPL]at HPL HRN HRY
 generalize doublesV ks l=RES at *
 generalize sortedG ks l=S at *
 generalize l.length=ln at *
 generalize ks.length=kn at *
 have hc1:∀ W,Below W1.heap.size W1 W→W.cell? ⟨w.heap.size,0,none⟩=some (.slice ka kn kc):=fun W hW=>cell_of_row W _ 0 _ _ _ ((hW.block _ (ltA HH1.out)).trans HH1.out)
 have HC1:=zh hc1
 have hc2:=hc1 W1 br0
 clear hr hks hl hW1 hPL hc1
 cases PL with
 | false =>
  have HE:=HRN.out (.inl rfl)
  subst HE
  go_enter Tryz.func61,Tryz.ntmps61
  go_upto_region 1 with fail
  rw[← HW1.out]
  go_wp2_with (go_at_call 59;refine HPL.out.mono ?_;rintro e w2 ⟨rfl,h2⟩;have H2:=zh h2;clear h2)
  go_ret
  exact⟨_,rfl,DS.nil _,q_next HB1.out H2.out⟩
 | true =>
 by_cases h60:60 < ln
 ·have HE:=HRN.out (.inr h60)
  subst HE
  have h60':(60:Int) < (ln:Int):=by omega
  go_enter Tryz.func61,Tryz.ntmps61
  go_upto_region 1 with fail
  rw[← HW1.out]
  go_wp2_with (go_at_call 59;refine HPL.out.mono ?_;rintro e w2 ⟨rfl,h2⟩;have H2:=zh h2;clear h2)
  go_ret
  exact⟨_,rfl,DS.nil _,q_next HB1.out H2.out⟩
 ·obtain⟨hRES,hS60⟩:=HRY.out rfl (by omega)
  have HRES:=zh hRES
  have HSO2:=zh (HSO.out (by omega))
  have h60':¬ (60:Int) < (ln:Int):=by omega
  clear HRN HRY HSO hRES
  go_enter Tryz.func61,Tryz.ntmps61
  go_upto_region 1 with fail
  rw[← HW1.out]
  go_upto_region 3 with(go_at_call 59;refine HPL.out.mono ?_;rintro e w2 ⟨rfl,h2⟩)
  have H2:=zh h2
  have hc3:=HC1.out w2 h2
  clear h2 hc2
  go_upto_region 4 with(go_at_call 93;refine(HSO2.out _ (q_next HB1.out H2.out)).mono ?_;rintro e w4 ⟨v,rfl,h4,h5⟩;obtain⟨va,vc,hv,hvl,hvm,-⟩:=h4.opened;obtain⟨n,hn⟩:∃ n,n=S.length:=⟨_,rfl⟩;rw[← hn]at hv hvl hS60;have HV0:=zh h4;clear h4;subst hv;have HN:=zh hn;clear hn)
  have HV:=HV0
  have HBL:Hid (BlAt w4 (.slice none 0 0) [] w4):=zh ⟨Below.refl _ _,OwnE.nil _ _ _ _⟩
  have HB4:=zh (q_next HB1.out (q_next H2.out h5))
  clear h5 hc3 hvl hvm HC1 H2 HB1 HSO2 HW1 HPL HS HV0
  go_upto_region 6 with fail
  go_wp2
  go_loopw [6,7] (fun out i wr=>∃(p m:Nat) (oa:Option Addr) (oc:Nat),p≤n∧i=.int .i64 p∧out=.slice oa m oc∧m≤p∧Hid ((dblL none (S.take (p+1))).length=m)∧Hid (BlAt w4 (.slice oa m oc) (dblL none (S.take (p+1))) wr)) (fun _ i _=>n - (intOf i).toNat)
  case atStart=>exact⟨0,0,none,0,by omega,rfl,rfl,Nat.le_refl _,zh (by rw[dblL_one];rfl),by rw[dblL_one];exact HBL⟩
  case round =>
   obtain⟨p,m,oa,oc,hpn,rfl,rfl,hmp,hlen,hP⟩:=hrel
   have hw1:IntKind.i64.wrap ((p:Int)+1)=(p:Int)+1:=IntWalk.i64_in _ (by omega)
   by_cases hlt:p+1 < n
   ·obtain⟨b,eb⟩:∃ y,S[p+1]?=some y:=⟨_,List.getElem?_eq_getElem (by rw[← HN.out];exact hlt)⟩
    obtain⟨a,ea⟩:∃ y,S[p]?=some y:=⟨_,List.getElem?_eq_getElem (by rw[← HN.out];omega)⟩
    have HV1:Hid (VS w4 (.slice va n vc) S):=HV
    obtain⟨gb,gof,rfl⟩:=HV1.out.addr eb
    obtain⟨hgb,hvb⟩:=HV1.out.here eb
    obtain⟨_,hva⟩:=HV1.out.here ea
    have HAW:Hid (∀ W,Below w4.heap.size w4 W→VAt W gb (gof+p*5) a):=zh (fun W hW=>VAt.keep hva hW hgb)
    have HBW:Hid (∀ W,Below w4.heap.size w4 W→VAt W gb (gof+(p+1)*5) b):=zh (fun W hW=>VAt.keep hvb hW hgb)
    have HT:=zh (dblL_take ea eb)
    have hpk0:(0:Int)≤(p:Int)+1:=by omega
    have hpk:(p:Int)+1 < (n:Int):=by omega
    have hpn0:(0:Int)≤(p:Int):=by omega
    have hpn1:(p:Int) < (n:Int):=by omega
    obtain⟨F1,hF1⟩:∃ F1,F1=fstQ S a p:=⟨_,rfl⟩
    obtain⟨O1,hO1⟩:∃ O1,O1=oneV a b:=⟨_,rfl⟩
    have hRR:=dblC_ref S p a b
    rw[← hF1,← hO1]at hRR
    rw[hRR]at HT
    have HF1:=zh hF1
    have HO1:=zh hO1
    clear hF1 hO1 hRR eb ea
    go_upto_region 8 with fail
    go_cut [8] (fun t wx=>t=.bool F1∧Hid (Below wr.heap.size wr wx))
    case first =>
     clear HBW HT hlen HO1
     have HAC:Hid (∀ W,Below wr.heap.size wr W→(W.cell? ⟨gb,gof+p*5,none⟩=some (.int .i64 a.car)∧W.cell? ⟨gb,gof+p*5+1,none⟩=some (.int .i64 a.num)∧W.cell? ⟨gb,gof+p*5+2,none⟩=some (.int .i64 a.stp)∧W.cell? ⟨gb,gof+p*5+3,none⟩=some (.string a.val)∧W.cell? ⟨gb,gof+p*5+4,none⟩=some (.string a.sl))):=zh fun W hW=>HAW.out W (q_next hP.out.1 hW)
     obtain⟨r,hr⟩ | hp0:(∃ r,r+1=p)∨p=0:=by
      cases p with
      | zero=>exact .inr rfl
      | succ r=>exact .inl ⟨r,rfl⟩
     ·obtain⟨q,eq⟩:∃ y,S[r]?=some y:=⟨_,List.getElem?_eq_getElem (by rw[← HN.out];omega)⟩
      obtain⟨_,hvq⟩:=HV1.out.here eq
      have HCQ:Hid (∀ W,Below wr.heap.size wr W→(W.cell? ⟨gb,gof+p*5,none⟩=some (.int .i64 a.car)∧W.cell? ⟨gb,gof+p*5+1,none⟩=some (.int .i64 a.num)∧W.cell? ⟨gb,gof+p*5+2,none⟩=some (.int .i64 a.stp)∧W.cell? ⟨gb,gof+p*5+3,none⟩=some (.string a.val)∧W.cell? ⟨gb,gof+p*5+4,none⟩=some (.string a.sl))∧(W.cell? ⟨gb,gof+r*5,none⟩=some (.int .i64 q.car)∧W.cell? ⟨gb,gof+r*5+1,none⟩=some (.int .i64 q.num)∧W.cell? ⟨gb,gof+r*5+2,none⟩=some (.int .i64 q.stp)∧W.cell? ⟨gb,gof+r*5+3,none⟩=some (.string q.val)∧W.cell? ⟨gb,gof+r*5+4,none⟩=some (.string q.sl))):=zh fun W hW=>⟨HAC.out W hW,VAt.keep hvq (q_next hP.out.1 hW) hgb⟩
      have hF:F1=!oneV q a:=by
       rw[HF1.out,← hr]
       show(!((S[r]?).any fun q=>oneV q a))=_
       rw[eq]
       rfl
      have HSL:=zh (fun W=>neqSlot q.num q.stp a.num a.stp W)
      have hpe:((p:Int) == 0)=false:=by simp;omega
      have hr2:IntKind.i64.wrap ((p:Int) - 1)=(r:Int):=by rw[IntWalk.i64_in _ (by omega)];omega
      have hr0:(0:Int)≤(r:Int):=by omega
      have hr1:(r:Int) < (n:Int):=by omega
      by_cases hqc:q.car=a.car
      ·have hqe:(q.car != a.car)=false:=by simp[hqc]
       have hF2:F1=!decide (q.num=a.num∧q.stp=a.stp):=by rw[hF];unfold oneV;simp[hqc]
       subst hF2
       generalize decide (q.num=a.num∧q.stp=a.stp)=se at *
       clear hF hqc HF1 HAC HAW hvq eq hr
       obtain⟨ac,an,at1,av,al⟩:=a
       obtain⟨qc,qn,qs,qv,ql⟩:=q
       simp only at HCQ HSL hqe
       have hsl:=HSL.out
       refine wp_region_noPanic ?_
       refine wp_region_lexB [.q 0,.q 1,.q 2,.q 3,.q 4,.q 5,.q 6,.q 7,.q 8,.q 9,.q 10,.q 11,.q 12,.q 13,.q 14,.q 15,.q 16,.q 17,.q 18,.q 19,.q 20,.q 21,.q 22,.q 23,.q 24,.q 25,.q 26,.q 27,.q 28,.q 29,.q 30,.q 31,.q 32] (by kernel_rfl) (by kernel_rfl) (fun _ _ _ _ h=>h) ?_
       iterate 33(refine wpFl_qL (v:=?_) rfl (Or.inl ⟨by rfl,?_⟩) ?_;rotate_left;(focus(intro w' hSw;obtain⟨⟨a0,a1,a2,a3,a4⟩,q0,q1,q2,q3,q4⟩:=HCQ.out w' hSw;go_simp;(try with_reducible rfl);done));simp only[Act.put,zzA,zzB,zzC])
       refine wpFl_nil ?_
       refine NoPanic.normal ?_
       go_wp2
       go_meet
       case rel=>exact⟨rfl,zh (Below.drew br0)⟩
      ·have hqe:(q.car != a.car)=true:=by simp[hqc]
       have hF2:F1=true:=by rw[hF];unfold oneV;simp[hqc]
       subst hF2
       clear hF hqc HF1 HAC HAW hvq eq hr HSL
       obtain⟨ac,an,at1,av,al⟩:=a
       obtain⟨qc,qn,qs,qv,ql⟩:=q
       simp only at HCQ hqe
       refine wp_region_noPanic ?_
       refine wp_region_lexB [.q 0,.q 1,.q 2,.q 3,.q 4,.q 5,.q 6,.q 7,.q 8,.q 9,.q 10,.q 11,.q 12,.q 13,.q 14,.q 15,.q 16,.q 17,.q 18,.q 19,.q 20,.q 21,.q 22,.q 23,.q 24,.q 25,.q 26,.q 27,.q 28,.q 29,.q 30,.q 31,.q 32] (by kernel_rfl) (by kernel_rfl) (fun _ _ _ _ h=>h) ?_
       iterate 18(refine wpFl_qL (v:=?_) rfl (Or.inl ⟨by rfl,?_⟩) ?_;rotate_left;(focus(intro w' hSw;obtain⟨⟨a0,a1,a2,a3,a4⟩,q0,q1,q2,q3,q4⟩:=HCQ.out w' hSw;go_simp;(try with_reducible rfl);done));simp only[Act.put,zzA,zzB,zzC])
       iterate 13(refine wpFl_qL (v:=undef) rfl (Or.inr ⟨by rfl,rfl⟩) ?_;simp only[Act.put,zzA,zzB,zzC])
       iterate 2(refine wpFl_qL (v:=?_) rfl (Or.inl ⟨by rfl,?_⟩) ?_;rotate_left;(focus(intro w' hSw;go_simp;(try with_reducible rfl);done));simp only[Act.put,zzA,zzB,zzC])
       refine wpFl_nil ?_
       refine NoPanic.normal ?_
       go_wp2
       go_meet
       case rel=>exact⟨rfl,zh (Below.drew br0)⟩
     ·subst hp0
      have hf:F1=true:=HF1.out
      subst hf
      refine wp_region_noPanic ?_
      refine wp_region_lexB [.q 0,.q 1,.q 2,.q 3,.q 4,.q 5,.q 6,.q 7,.q 8,.q 9,.q 10,.q 11,.q 12,.q 13,.q 14,.q 15,.q 16,.q 17,.q 18,.q 19,.q 20,.q 21,.q 22,.q 23,.q 24,.q 25,.q 26,.q 27,.q 28,.q 29,.q 30,.q 31,.q 32] (by kernel_rfl) (by kernel_rfl) (fun _ _ _ _ h=>h) ?_
      iterate 3(refine wpFl_qL (v:=?_) rfl (Or.inl ⟨by rfl,?_⟩) ?_;rotate_left;(focus(intro w' hSw;go_simp;(try with_reducible rfl);done));simp only[Act.put,zzA,zzB,zzC])
      iterate 13(refine wpFl_qL (v:=undef) rfl (Or.inr ⟨by rfl,rfl⟩) ?_;simp only[Act.put,zzA,zzB,zzC])
      iterate 2(refine wpFl_qL (v:=?_) rfl (Or.inl ⟨by rfl,?_⟩) ?_;rotate_left;(focus(intro w' hSw;go_simp;(try with_reducible rfl);done));simp only[Act.put,zzA,zzB,zzC])
      iterate 13(refine wpFl_qL (v:=undef) rfl (Or.inr ⟨by rfl,rfl⟩) ?_;simp only[Act.put,zzA,zzB,zzC])
      iterate 2(refine wpFl_qL (v:=?_) rfl (Or.inl ⟨by rfl,?_⟩) ?_;rotate_left;(focus(intro w' hSw;go_simp;(try with_reducible rfl);done));simp only[Act.put,zzA,zzB,zzC])
      refine wpFl_nil ?_
      refine NoPanic.normal ?_
      go_wp2
      go_meet
      case rel=>exact⟨rfl,zh (Below.drew br0)⟩
    case rest =>
     obtain⟨ht8,HB8⟩:=hcut
     subst ht8
     obtain⟨w8,hw8⟩:∃ W,W=wc:=⟨_,rfl⟩
     rw[← hw8]at HB8 ⊢
     clear hw8 wc HF1
     have HP8:Hid (BlAt w4 (.slice oa m oc) (dblL none (S.take (p+1))) w8):=zh (hP.out.far HB8.out)
     clear hP HB8
     go_upto_region 9 with fail
     go_cut [87] (fun t wx=>t=.bool (F1 && O1)∧Hid (Below w8.heap.size w8 wx))
     case first =>
      have HCB:Hid (∀ W,Below w8.heap.size w8 W→(W.cell? ⟨gb,gof+p*5,none⟩=some (.int .i64 a.car)∧W.cell? ⟨gb,gof+p*5+1,none⟩=some (.int .i64 a.num)∧W.cell? ⟨gb,gof+p*5+2,none⟩=some (.int .i64 a.stp)∧W.cell? ⟨gb,gof+p*5+3,none⟩=some (.string a.val)∧W.cell? ⟨gb,gof+p*5+4,none⟩=some (.string a.sl))∧(W.cell? ⟨gb,gof+(p+1)*5,none⟩=some (.int .i64 b.car)∧W.cell? ⟨gb,gof+(p+1)*5+1,none⟩=some (.int .i64 b.num)∧W.cell? ⟨gb,gof+(p+1)*5+2,none⟩=some (.int .i64 b.stp)∧W.cell? ⟨gb,gof+(p+1)*5+3,none⟩=some (.string b.val)∧W.cell? ⟨gb,gof+(p+1)*5+4,none⟩=some (.string b.sl))):=zh fun W hW=>⟨HAW.out W (q_next HP8.out.1 hW),HBW.out W (q_next HP8.out.1 hW)⟩
      clear HAW HBW HT hlen
      cases F1 with
      | false =>
       refine wp_region_noPanic ?_
       refine wp_region_lexB [.q 0,.q 1,.q 2,.q 3,.q 4,.q 5,.q 6,.q 7,.q 8,.q 9,.q 10,.q 11,.q 12,.q 13,.q 14,.q 15,.q 16,.q 17,.q 18,.q 19,.q 20,.q 21,.q 22,.q 23,.q 24,.q 25,.q 26,.q 27,.q 28] (by kernel_rfl) (by kernel_rfl) (fun _ _ _ _ h=>h) ?_
       iterate 2(refine wpFl_qL (v:=?_) rfl (Or.inl ⟨by rfl,?_⟩) ?_;rotate_left;(focus(intro w' hSw;go_simp;(try with_reducible rfl);done));simp only[Act.put,zzA,zzB,zzC])
       iterate 12(refine wpFl_qL (v:=undef) rfl (Or.inr ⟨by rfl,rfl⟩) ?_;simp only[Act.put,zzA,zzB,zzC])
       iterate 2(refine wpFl_qL (v:=?_) rfl (Or.inl ⟨by rfl,?_⟩) ?_;rotate_left;(focus(intro w' hSw;go_simp;(try with_reducible rfl);done));simp only[Act.put,zzA,zzB,zzC])
       iterate 12(refine wpFl_qL (v:=undef) rfl (Or.inr ⟨by rfl,rfl⟩) ?_;simp only[Act.put,zzA,zzB,zzC])
       refine wpFl_qL (v:=?_) rfl (Or.inl ⟨by rfl,?_⟩) ?_
       rotate_left
       focus(intro w' hSw;go_simp;(try with_reducible rfl);done)
       simp only[Act.put,zzA,zzB,zzC]
       refine wpFl_nil ?_
       refine NoPanic.normal ?_
       go_wp2
       go_meet
       case rel=>exact⟨rfl,zh (Below.drew br0)⟩
      | true =>
       have HSL:=zh (fun W=>eqlSlot b.num b.stp a.num a.stp W)
       by_cases hqc:b.car=a.car
       ·have hqe:(b.car == a.car)=true:=by simp[hqc]
        have hO2:O1=decide (b.num=a.num∧b.stp=a.stp):=by
         rw[HO1.out]
         unfold oneV
         rw[Bool.eq_iff_iff]
         simp only[decide_eq_true_eq]
         exact⟨fun h=>⟨h.2.1.symm,h.2.2.symm⟩,fun h=>⟨hqc.symm,h.1.symm,h.2.symm⟩⟩
        subst hO2
        generalize decide (b.num=a.num∧b.stp=a.stp)=se at *
        clear hqc HO1
        obtain⟨ac,an,at1,av,al⟩:=a
        obtain⟨bc,bn,bs,bv,bl⟩:=b
        simp only at HCB HSL hqe
        have hsl:=HSL.out
        refine wp_region_noPanic ?_
        refine wp_region_lexB [.q 0,.q 1,.q 2,.q 3,.q 4,.q 5,.q 6,.q 7,.q 8,.q 9,.q 10,.q 11,.q 12,.q 13,.q 14,.q 15,.q 16,.q 17,.q 18,.q 19,.q 20,.q 21,.q 22,.q 23,.q 24,.q 25,.q 26,.q 27,.q 28] (by kernel_rfl) (by kernel_rfl) (fun _ _ _ _ h=>h) ?_
        iterate 29(refine wpFl_qL (v:=?_) rfl (Or.inl ⟨by rfl,?_⟩) ?_;rotate_left;(focus(intro w' hSw;obtain⟨⟨a0,a1,a2,a3,a4⟩,b0,b1,b2,b3,b4⟩:=HCB.out w' hSw;go_simp;(try with_reducible rfl);done));simp only[Act.put,zzA,zzB,zzC])
        refine wpFl_nil ?_
        refine NoPanic.normal ?_
        go_wp2
        go_meet
        case rel=>exact⟨by first | rfl | simp,zh (Below.drew br0)⟩
       ·have hqe:(b.car == a.car)=false:=by simp[hqc]
        have hO2:O1=false:=by
         rw[HO1.out]
         unfold oneV
         rw[decide_eq_false_iff_not]
         exact fun h=>hqc h.1.symm
        subst hO2
        clear hqc HO1 HSL
        obtain⟨ac,an,at1,av,al⟩:=a
        obtain⟨bc,bn,bs,bv,bl⟩:=b
        simp only at HCB hqe
        refine wp_region_noPanic ?_
        refine wp_region_lexB [.q 0,.q 1,.q 2,.q 3,.q 4,.q 5,.q 6,.q 7,.q 8,.q 9,.q 10,.q 11,.q 12,.q 13,.q 14,.q 15,.q 16,.q 17,.q 18,.q 19,.q 20,.q 21,.q 22,.q 23,.q 24,.q 25,.q 26,.q 27,.q 28] (by kernel_rfl) (by kernel_rfl) (fun _ _ _ _ h=>h) ?_
        iterate 16(refine wpFl_qL (v:=?_) rfl (Or.inl ⟨by rfl,?_⟩) ?_;rotate_left;(focus(intro w' hSw;obtain⟨⟨a0,a1,a2,a3,a4⟩,b0,b1,b2,b3,b4⟩:=HCB.out w' hSw;go_simp;(try with_reducible rfl);done));simp only[Act.put,zzA,zzB,zzC])
        iterate 12(refine wpFl_qL (v:=undef) rfl (Or.inr ⟨by rfl,rfl⟩) ?_;simp only[Act.put,zzA,zzB,zzC])
        refine wpFl_qL (v:=?_) rfl (Or.inl ⟨by rfl,?_⟩) ?_
        rotate_left
        focus(intro w' hSw;go_simp;(try with_reducible rfl);done)
        simp only[Act.put,zzA,zzB,zzC]
        refine wpFl_nil ?_
        refine NoPanic.normal ?_
        go_wp2
        go_meet
        case rel=>exact⟨by first | rfl | simp,zh (Below.drew br0)⟩
     case rest =>
      obtain⟨ht87,HB5⟩:=hcut
      subst ht87
      obtain⟨w9,hw9⟩:∃ W,W=wc:=⟨_,rfl⟩
      rw[← hw9]at HB5 ⊢
      clear hw9 wc HO1
      have HP9:Hid (BlAt w4 (.slice oa m oc) (dblL none (S.take (p+1))) w9):=zh (HP8.out.far HB5.out)
      clear HP8 HB5
      generalize (F1 && O1)=R at *
      cases R with
      | false =>
       have HT2:Hid (dblL none (S.take (p+1+1))=dblL none (S.take (p+1))):=zh (by rw[HT.out];exact List.append_nil _)
       clear HT
       go_wp2
       go_roundw
       case rel =>
        refine⟨p+1,m,oa,oc,by omega,by go_num,rfl,by omega,?_,?_⟩
        ·rw[HT2.out];exact hlen
        ·rw[HT2.out];exact HP9
       case measure=>simp[intOf];omega
      | true =>
       have HT2:Hid (dblL none (S.take (p+1+1))=dblL none (S.take (p+1))++[(a,b)]):=zh (by rw[HT.out];rfl)
       clear HT
       have HC9:Hid (∀ W,LowKept w9 w4.heap.size W→(W.cell? ⟨gb,gof+p*5,none⟩=some (.int .i64 a.car)∧W.cell? ⟨gb,gof+p*5+1,none⟩=some (.int .i64 a.num)∧W.cell? ⟨gb,gof+p*5+2,none⟩=some (.int .i64 a.stp)∧W.cell? ⟨gb,gof+p*5+3,none⟩=some (.string a.val)∧W.cell? ⟨gb,gof+p*5+4,none⟩=some (.string a.sl))∧(W.cell? ⟨gb,gof+(p+1)*5,none⟩=some (.int .i64 b.car)∧W.cell? ⟨gb,gof+(p+1)*5+1,none⟩=some (.int .i64 b.num)∧W.cell? ⟨gb,gof+(p+1)*5+2,none⟩=some (.int .i64 b.stp)∧W.cell? ⟨gb,gof+(p+1)*5+3,none⟩=some (.string b.val)∧W.cell? ⟨gb,gof+(p+1)*5+4,none⟩=some (.string b.sl))):=zh fun W hW =>
        ⟨HAW.out W (HP9.out.1.trans hW.2),HBW.out W (HP9.out.1.trans hW.2)⟩
       clear HAW HBW
       obtain⟨ac,an,at1,av,al⟩:=a
       obtain⟨bc,bn,bs,bv,bl⟩:=b
       simp only at HC9
       go_upto_region 10 with fail
       have HS9:Hid (LowKept w9 w4.heap.size w9.drew):=zh ⟨HP9.out.1.size,(Below.drew br0).mono HP9.out.1.size⟩
       refine wp_region_noPanic ?_
       refine wp_region_lexF [.q 0,.q 1,.q 2,.q 3,.q 4,.q 5,.q 6,.q 7,.q 8,.q 9,.q 10,.an 11,.co 11,.b 12,.q 13] (LowKept w9 w4.heap.size) (by kernel_rfl) (by kernel_rfl) (fun _ _ _ _ h=>h) LowKept.more HS9.out ?_
       iterate 11(refine wpFl_qL (v:=?_) rfl (Or.inl ⟨by rfl,?_⟩) ?_;rotate_left;(focus(intro w' hSw;obtain⟨⟨a0,a1,a2,a3,a4⟩,b0,b1,b2,b3,b4⟩:=HC9.out w' hSw;go_simp;(try with_reducible rfl);done));simp only[Act.put,zzA,zzB,zzC])
       refine wpFl_anL rfl (.cells #[.int .i64 ac,.int .i64 an,.int .i64 at1,.string av,.string al,.int .i64 bc,.int .i64 bn,.int .i64 bs,.string bv,.string bl] 45 (0,0)) (fun n=>.slice (some ⟨n,0,none⟩) 1 1) ⟨by rfl,fun w'=>?_⟩ ?_
       focus(go_simp;done)
       refine wpFl_coL rfl (.cells #[.int .i64 ac,.int .i64 an,.int .i64 at1,.string av,.string al,.int .i64 bc,.int .i64 bn,.int .i64 bs,.string bv,.string bl] 45 (0,0)) (fun n=>.slice (some ⟨n,0,none⟩) 1 1) (by rfl) (N':=[]) (by rfl) (fun ba wa hn_wa hs_wa hb_ba hz_ba=>?_)
       simp only[Act.put,zzA,zzB,zzC]
       refine wpFl_bS rfl (fun wb hnb hsb K hK=>?_)
       have HZ:=zh ((hnb.block ba (ltA hz_ba)).trans hz_ba)
       have HPb:=zh ((HP9.out.far (q_next (Below.drew br0) hn_wa)).far hnb)
       refine step_append_double _ _ w4.heap.size (.slice oa m oc) _ (⟨ac,an,at1,av,al⟩,⟨bc,bn,bs,bv,bl⟩) ba (0,0) HPb.out.2 (by rw[hlen.out];omega) HPb.out.1.size HZ.out rfl rfl rfl rfl ?_
       intro v8 wc8 hown8 hgr8
       have HPc:=zh (HPb.out.append hgr8 hown8)
       have HSc:Hid (LowKept w9 w4.heap.size wc8):=zh ⟨hsb.1,hsb.2.grown hgr8 (Nat.le_trans hsb.1 hsb.2.size) (fun j e=>OwnE.ge HPb.out.2 j e)⟩
       refine hK.out _ _ HSc.out (Nat.le_trans hsb.2.size hgr8.size) Keeps.nil ?_
       clear hK K
       obtain⟨va8,vc8,hv8⟩:=OwnD.form hown8
       rw[List.length_append,hlen.out]at hv8
       simp only[List.length_cons,List.length_nil,Nat.zero_add]at hv8
       clear hown8 hgr8 hnb hsb HZ HPb HSc hs_wa hb_ba hz_ba hn_wa
       subst hv8
       refine wpFl_qL (v:=?_) rfl (Or.inl ⟨by rfl,?_⟩) ?_
       rotate_left
       focus(intro w' hSw;go_simp;(try with_reducible rfl);done)
       simp only[Act.put,zzA,zzB,zzC]
       refine wpFl_nil ?_
       refine NoPanic.normal ?_
       go_wp2
       go_roundw
       case rel =>
        refine⟨p+1,m+1,va8,vc8,by omega,by go_num,rfl,by omega,?_,?_⟩
        ·rw[HT2.out,List.length_append,hlen.out];exact zh rfl
        ·rw[HT2.out];exact HPc
       case measure=>simp[intOf];omega
   ·have hpk:¬ (p:Int)+1 < (n:Int):=by omega
    have hfin:S.take (p+1)=S:=List.take_of_length_le (by rw[← HN.out];omega)
    rw[hfin]at hP
    go_wp2
    go_ret
    exact⟨_,rfl,by rw[HRES.out];exact OwnD.ds hP.out.2,q_next HB4.out hP.out.1⟩
set_option maxHeartbeats 16000000 in
set_option maxRecDepth 100000 in
theorem agree_any {w:World}(he:QEnv w){kv x:Value}{ks:List ByteArray}{l:List VoteP}(hr:SS w kv ks)(hks:∀ k∈ks,k.size≤1000)(hkn:ks.length≤1000)(hl:VS w x l)(num stp:Int)(val:ByteArray)(hval:val.size≤maxLen) :
  Calls Tryz.prog 18 #[.agg #[kv],.agg #[.int .i64 num,.int .i64 stp],.string val,x] w fun e w'=>e=.returned (.bool true)∧Below w.heap.size w w':=by
 obtain⟨P,hP⟩:∃ P,P=proveV ks num stp val l:=⟨_,rfl⟩
 obtain⟨D,hD⟩:∃ D,D=decidedV ks num stp l:=⟨_,rfl⟩
 obtain⟨CA,hCA⟩:∃ C,C=checkV ks num stp val l:=⟨_,rfl⟩
 obtain⟨CB,hCB⟩:∃ C,C=checkV ks num stp val (P.getD []):=⟨_,rfl⟩
 obtain⟨V,hV⟩:∃ V,V=validC ks:=⟨_,rfl⟩
 obtain⟨T,hT⟩:∃ T,T=tallyV ks num stp l:=⟨_,rfl⟩
 obtain⟨U,hU⟩:∃ U,U=doublesV ks l:=⟨_,rfl⟩
 have HP1:Hid (∀ W,Below w.heap.size w W→Calls Tryz.prog 34 #[.agg #[kv],.agg #[.int .i64 num,.int .i64 stp],.string val,x] W (ProveIs W P)):=zh fun W hW=>by
  have h:=he.step hW
  exact hP ▸ prove_any (hr.below hW) (hl.below hW) num stp val hval h.env h.round h.tab h.tabs
 have HP2:Hid (∀ W,Below w.heap.size w W→Calls Tryz.prog 30 #[.agg #[kv],.agg #[.int .i64 num,.int .i64 stp],.string val,x] W (ProveIs W P)):=zh fun W hW =>
  hP ▸ rprove19_any (hr.below hW) hks (hl.below hW) num stp val hkn
 have HD1:Hid (∀ W,Below w.heap.size w W→Calls Tryz.prog 44 #[.agg #[kv],.agg #[.int .i64 num,.int .i64 stp],x] W fun e w'=>e=.returned (decR D)∧Below W.heap.size W w'):=zh fun W hW=>by
  have h:=he.step hW
  exact hD ▸ decided_any (hr.below hW) (hl.below hW) num stp hkn h.env h.round
 have HD2:Hid (∀ W,Below w.heap.size w W→Calls Tryz.prog 57 #[.agg #[kv],.agg #[.int .i64 num,.int .i64 stp],x] W fun e w'=>e=.returned (decR D)∧Below W.heap.size W w'):=zh fun W hW =>
  hD ▸ rdecided_any (hr.below hW) hks (hl.below hW) num stp hkn
 have HK1:Hid (∀ W,Below w.heap.size w W→Calls Tryz.prog 39 #[.agg #[kv],.agg #[.int .i64 num,.int .i64 stp],.string val,x] W fun e w'=>e=.returned (.bool CA)∧Below W.heap.size W w'):=zh fun W hW=>by
  have h:=he.step hW
  exact hCA ▸ qcheck_any (hr.below hW) (hl.below hW) num stp val h.env h.round
 have HK2:Hid (∀ W,Below w.heap.size w W→Calls Tryz.prog 58 #[.agg #[kv],.agg #[.int .i64 num,.int .i64 stp],.string val,x] W fun e w'=>e=.returned (.bool CA)∧Below W.heap.size W w'):=zh fun W hW =>
  hCA ▸ rcheck19_any (hr.below hW) hks (hl.below hW) num stp val hkn
 have HK3:Hid (∀ W,Below w.heap.size w W→∀ v,VS W v (P.getD [])→Calls Tryz.prog 39 #[.agg #[kv],.agg #[.int .i64 num,.int .i64 stp],.string val,v] W fun e w'=>e=.returned (.bool CB)∧Below W.heap.size W w'):=zh fun W hW v hv=>by
  have h:=he.step hW
  exact hCB ▸ qcheck_any (hr.below hW) hv num stp val h.env h.round
 have HK4:Hid (∀ W,Below w.heap.size w W→∀ v,VS W v (P.getD [])→Calls Tryz.prog 58 #[.agg #[kv],.agg #[.int .i64 num,.int .i64 stp],.string val,v] W fun e w'=>e=.returned (.bool CB)∧Below W.heap.size W w'):=zh fun W hW v hv =>
  hCB ▸ rcheck19_any (hr.below hW) hks hv num stp val hkn
 have HV1:Hid (∀ W,Below w.heap.size w W→Calls Tryz.prog 53 #[.agg #[kv]] W fun e w'=>e=.returned (.bool V)∧Below W.heap.size W w'):=zh fun W hW=>hV ▸ qvalid_any (hr.below hW)
 have HV2:Hid (∀ W,Below w.heap.size w W→Calls Tryz.prog 59 #[.agg #[kv]] W fun e w'=>e=.returned (.bool V)∧Below W.heap.size W w'):=zh fun W hW=>hV ▸ rvalid_any (hr.below hW)
 have HT1:Hid (∀ W,Below w.heap.size w W→Calls Tryz.prog 38 #[.agg #[kv],.agg #[.int .i64 num,.int .i64 stp],x] W (TalIs W T)):=zh fun W hW=>by
  have h:=he.step hW
  exact hT ▸ tallies_any (hr.below hW) (hl.below hW) num stp h.env h.round
 have HT2:Hid (∀ W,Below w.heap.size w W→Calls Tryz.prog 60 #[.agg #[kv],.agg #[.int .i64 num,.int .i64 stp],x] W (TalIs W T)):=zh fun W hW =>
  hT ▸ rtallies_any (hr.below hW) hks (hl.below hW) num stp hkn
 have HU1:Hid (∀ W,Below w.heap.size w W→Calls Tryz.prog 35 #[.agg #[kv],x] W (DoubIs W U)):=zh fun W hW=>by
  have h:=he.step hW
  exact hU ▸ doubles_any (hr.below hW) hks (hl.below hW) h.env h.round
 have HU2:Hid (∀ W,Below w.heap.size w W→Calls Tryz.prog 61 #[.agg #[kv],x] W (DoubIs W U)):=zh fun W hW =>
  hU ▸ rdoubles_any (hr.below hW) hks (hl.below hW)
 obtain⟨ka,kn,kc,rfl⟩:∃ a n c,kv=.slice a n c:=by obtain⟨a,c,h,_⟩:=hr.opened;exact⟨_,_,_,h⟩
 obtain⟨xa,xn,xc,rfl⟩:=hl.form
 obtain⟨W1,hW1⟩:∃ W1,W1=w.alloc (.cells #[.slice ka kn kc] 31):=⟨_,rfl⟩
 have HB1:Below w.heap.size w W1:=by rw[hW1];exact br0.alloc (Nat.le_refl _) _
 have hs1:W1.heap.size=w.heap.size+1:=by rw[hW1];simp
 have HX1:W1.heap[w.heap.size]?=some (.cells #[.slice ka kn kc] 31 (0,0)):=by rw[hW1];exact heap_alloc_new w _
 obtain⟨W2,hW2⟩:∃ W2,W2=W1.alloc (.cells #[.int .i64 num,.int .i64 stp] 25):=⟨_,rfl⟩
 have HB2:Below W1.heap.size W1 W2:=by rw[hW2];exact br0.alloc (Nat.le_refl _) _
 have HX2:W2.heap[w.heap.size+1]?=some (.cells #[.int .i64 num,.int .i64 stp] 25 (0,0)):=by rw[hW2,← hs1];exact heap_alloc_new W1 _
 have hs2:W2.heap.size=w.heap.size+2:=by rw[hW2];simp[hs1]
 have HB12:=zh (q_next HB1 HB2)
 have HC0:Hid (∀ W,Below W2.heap.size W2 W→W.cell? ⟨w.heap.size,0,none⟩=some (.slice ka kn kc)∧W.cell? ⟨w.heap.size+1,0,none⟩=some (.int .i64 num)∧W.cell? ⟨w.heap.size+1,1,none⟩=some (.int .i64 stp)):=zh fun W hW =>
  ⟨cell_of_row W _ 0 _ _ _ (((q_next HB2 hW).block _ (by omega)).trans HX1),cell_of_row W _ 0 _ _ _ ((hW.block _ (by omega)).trans HX2),cell_of_row W _ 1 _ _ _ ((hW.block _ (by omega)).trans HX2)⟩
 have HW1:=zh hW1
 have HW2:=zh hW2
 clear he hr hks hkn hl hval hP hD hCA hCB hV hT hU hW1 hW2 HB1 HB2 HX1 HX2 hs1 hs2
 have HR:Hid (Below W2.heap.size W2 W2):=zh br0
 obtain⟨c0,s0,s1⟩:=HC0.out W2 HR.out
 cases D with
 | none =>
  simp only[decR]at HD1 HD2
  go_enter Tryz.func18,Tryz.ntmps18
  go_upto_region 1 with fail
  rw[← HW1.out,← HW2.out]
  go_upto_region 2 with(go_at_call 34;(with_reducible refine(HP1.out _ (q_next HB12.out HR.out)).mono ?_);clear c0 s0 s1;rintro e w1 ⟨va,rfl,hva,hb1⟩;replace HR:=zh (q_next HR.out hb1);have HVA:=zh hva;clear hva;obtain⟨c0,s0,s1⟩:=HC0.out w1 HR.out)
  go_upto_region 3 with(go_at_call 30;(with_reducible refine(HP2.out _ (q_next HB12.out HR.out)).mono ?_);clear c0 s0 s1;rintro e w2 ⟨vb,rfl,hvb,hb2⟩;replace HR:=zh (q_next HR.out hb2);have HVB:=zh hvb;replace HVA:=zh (HVA.out.below hb2);clear hvb;obtain⟨c0,s0,s1⟩:=HC0.out w2 HR.out)
  go_upto_region 4 with(go_at_call 44;(with_reducible refine(HD1.out _ (q_next HB12.out HR.out)).mono ?_);clear c0 s0 s1;rintro e w3 ⟨rfl,hb3⟩;replace HR:=zh (q_next HR.out hb3);replace HVA:=zh (HVA.out.below hb3);replace HVB:=zh (HVB.out.below hb3);obtain⟨c0,s0,s1⟩:=HC0.out w3 HR.out)
  go_upto_region 5 with(go_at_call 57;(with_reducible refine(HD2.out _ (q_next HB12.out HR.out)).mono ?_);clear c0 s0 s1;rintro e w4 ⟨rfl,hb4⟩;replace HR:=zh (q_next HR.out hb4);replace HVA:=zh (HVA.out.below hb4);replace HVB:=zh (HVB.out.below hb4);obtain⟨c0,s0,s1⟩:=HC0.out w4 HR.out)
  clear c0 s0 s1
  refine wp_region_noPanic ?_
  refine wp_region_lexB [.q 0,.q 1,.q 2,.q 3,.q 4,.q 5,.q 6,.q 7,.q 8,.q 9,.q 10,.q 11,.q 12,.q 13,.q 14,.q 15,.b 16,.q 17,.q 18,.q 19,.q 20,.q 21,.q 22,.q 24,.q 25,.q 26,.q 27,.b 23,.b 28,.q 29,.q 30,.q 31,.q 32,.q 33,.q 34,.q 35,.q 37,.q 38,.q 39,.q 40,.b 36,.b 41,.q 42,.q 43,.q 44,.q 45,.q 47,.b 46,.b 48,.q 49,.q 50,.q 51,.q 52,.q 53,.q 54,.q 56,.q 57,.q 58,.b 55,.b 59,.b 60,.q 61,.q 62,.q 63,.q 64,.q 66,.q 67,.b 65,.b 68,.b 69,.q 70,.q 71] (by kernel_rfl) (by kernel_rfl) (fun _ _ _ _ h=>h) ?_
  iterate 16(refine wpFl_qL (v:=?_) rfl (Or.inl ⟨by rfl,?_⟩) ?_;rotate_left;(focus(intro w' hSw;obtain⟨c0,s0,s1⟩:=HC0.out w' (q_next HR.out hSw);go_simp;(try with_reducible rfl);done));simp only[Act.put,zzA,zzB,zzC])
  refine wpFl_bL rfl (fun wa5 hna5 hsa5 K hK=>?_)
  go_simp
  go_at_call 49
  (with_reducible refine(sameV_any (HVA.out.below hsa5) (HVB.out.below hsa5)).mono ?_)
  rintro e wb5 ⟨rfl,hb5⟩
  refine hK.out _ _ (q_next hsa5 hb5) (Keeps.below hb5) ?_
  clear hK K hna5 hsa5
  iterate 10(refine wpFl_qL (v:=?_) rfl (Or.inl ⟨by rfl,?_⟩) ?_;rotate_left;(focus(intro w' hSw;obtain⟨c0,s0,s1⟩:=HC0.out w' (q_next HR.out hSw);go_simp;(try with_reducible rfl);done));simp only[Act.put,zzA,zzB,zzC])
  refine wpFl_bL rfl (fun wa6 hna6 hsa6 K hK=>?_)
  go_simp
  go_at_call 39
  (with_reducible refine(HK1.out _ (q_next HB12.out (q_next HR.out hsa6))).mono ?_)
  rintro e wb6 ⟨rfl,hb6⟩
  refine hK.out _ _ (q_next hsa6 hb6) (Keeps.below hb6) ?_
  clear hK K hna6 hsa6
  refine wpFl_bL rfl (fun wa7 hna7 hsa7 K hK=>?_)
  go_simp
  go_at_call 58
  (with_reducible refine(HK2.out _ (q_next HB12.out (q_next HR.out hsa7))).mono ?_)
  rintro e wb7 ⟨rfl,hb7⟩
  refine hK.out _ _ (q_next hsa7 hb7) (Keeps.below hb7) ?_
  clear hK K hna7 hsa7
  iterate 11(refine wpFl_qL (v:=?_) rfl (Or.inl ⟨by rfl,?_⟩) ?_;rotate_left;(focus(intro w' hSw;obtain⟨c0,s0,s1⟩:=HC0.out w' (q_next HR.out hSw);go_simp;(try with_reducible rfl);done));simp only[Act.put,zzA,zzB,zzC])
  refine wpFl_bL rfl (fun wa8 hna8 hsa8 K hK=>?_)
  go_simp
  go_at_call 39
  (with_reducible refine(HK3.out _ (q_next HB12.out (q_next HR.out hsa8)) _ (HVB.out.below hsa8)).mono ?_)
  rintro e wb8 ⟨rfl,hb8⟩
  refine hK.out _ _ (q_next hsa8 hb8) (Keeps.below hb8) ?_
  clear hK K hna8 hsa8
  refine wpFl_bL rfl (fun wa9 hna9 hsa9 K hK=>?_)
  go_simp
  go_at_call 58
  (with_reducible refine(HK4.out _ (q_next HB12.out (q_next HR.out hsa9)) _ (HVB.out.below hsa9)).mono ?_)
  rintro e wb9 ⟨rfl,hb9⟩
  refine hK.out _ _ (q_next hsa9 hb9) (Keeps.below hb9) ?_
  clear hK K hna9 hsa9
  iterate 5(refine wpFl_qL (v:=?_) rfl (Or.inl ⟨by rfl,?_⟩) ?_;rotate_left;(focus(intro w' hSw;obtain⟨c0,s0,s1⟩:=HC0.out w' (q_next HR.out hSw);go_simp;(try with_reducible rfl);done));simp only[Act.put,zzA,zzB,zzC])
  refine wpFl_bL rfl (fun wa10 hna10 hsa10 K hK=>?_)
  go_simp
  go_at_call 53
  (with_reducible refine(HV1.out _ (q_next HB12.out (q_next HR.out hsa10))).mono ?_)
  rintro e wb10 ⟨rfl,hb10⟩
  refine hK.out _ _ (q_next hsa10 hb10) (Keeps.below hb10) ?_
  clear hK K hna10 hsa10
  refine wpFl_bL rfl (fun wa11 hna11 hsa11 K hK=>?_)
  go_simp
  go_at_call 59
  (with_reducible refine(HV2.out _ (q_next HB12.out (q_next HR.out hsa11))).mono ?_)
  rintro e wb11 ⟨rfl,hb11⟩
  refine hK.out _ _ (q_next hsa11 hb11) (Keeps.below hb11) ?_
  clear hK K hna11 hsa11
  iterate 9(refine wpFl_qL (v:=?_) rfl (Or.inl ⟨by rfl,?_⟩) ?_;rotate_left;(focus(intro w' hSw;obtain⟨c0,s0,s1⟩:=HC0.out w' (q_next HR.out hSw);go_simp;(try with_reducible rfl);done));simp only[Act.put,zzA,zzB,zzC])
  refine wpFl_bL rfl (fun wa12 hna12 hsa12 K hK=>?_)
  go_simp
  go_at_call 38
  (with_reducible refine(HT1.out _ (q_next HB12.out (q_next HR.out hsa12))).mono ?_)
  rintro e wb12 ⟨ta,rfl,hta,hb12⟩
  have HTA:=zh hta
  refine hK.out _ _ (q_next hsa12 hb12) (Keeps.below hb12) ?_
  clear hK K hna12 hsa12
  refine wpFl_bL rfl (fun wa13 hna13 hsa13 K hK=>?_)
  go_simp
  go_at_call 60
  (with_reducible refine(HT2.out _ (q_next HB12.out (q_next HR.out hsa13))).mono ?_)
  rintro e wb13 ⟨tb,rfl,htb,hb13⟩
  have HTB:=zh htb
  have HTC:=zh ((HTA.out.below hna13).below hb13)
  refine hK.out _ _ (q_next hsa13 hb13) (Keeps.below hb13) ?_
  clear hK K hna13 hsa13
  refine wpFl_bL rfl (fun wa14 hna14 hsa14 K hK=>?_)
  go_simp
  go_at_call 45
  (with_reducible refine(sameT_any (HTC.out.below hna14) (HTB.out.below hna14)).mono ?_)
  rintro e wb14 ⟨rfl,hb14⟩
  refine hK.out _ _ (q_next hsa14 hb14) (Keeps.below hb14) ?_
  clear hK K hna14 hsa14
  iterate 6(refine wpFl_qL (v:=?_) rfl (Or.inl ⟨by rfl,?_⟩) ?_;rotate_left;(focus(intro w' hSw;obtain⟨c0,s0,s1⟩:=HC0.out w' (q_next HR.out hSw);go_simp;(try with_reducible rfl);done));simp only[Act.put,zzA,zzB,zzC])
  refine wpFl_bL rfl (fun wa15 hna15 hsa15 K hK=>?_)
  go_simp
  go_at_call 35
  (with_reducible refine(HU1.out _ (q_next HB12.out (q_next HR.out hsa15))).mono ?_)
  rintro e wb15 ⟨da,rfl,hda,hb15⟩
  have HDA:=zh hda
  refine hK.out _ _ (q_next hsa15 hb15) (Keeps.below hb15) ?_
  clear hK K hna15 hsa15
  refine wpFl_bL rfl (fun wa16 hna16 hsa16 K hK=>?_)
  go_simp
  go_at_call 61
  (with_reducible refine(HU2.out _ (q_next HB12.out (q_next HR.out hsa16))).mono ?_)
  rintro e wb16 ⟨db,rfl,hdb,hb16⟩
  have HDB:=zh hdb
  have HDC:=zh ((HDA.out.below hna16).below hb16)
  refine hK.out _ _ (q_next hsa16 hb16) (Keeps.below hb16) ?_
  clear hK K hna16 hsa16
  refine wpFl_bL rfl (fun wa17 hna17 hsa17 K hK=>?_)
  go_simp
  go_at_call 33
  (with_reducible refine(sameD_any (HDC.out.below hna17) (HDB.out.below hna17)).mono ?_)
  rintro e wb17 ⟨rfl,hb17⟩
  have HRZ:=zh (q_next HR.out (q_next hsa17 hb17))
  refine hK.out _ _ (q_next hsa17 hb17) (Keeps.below hb17) ?_
  clear hK K hna17 hsa17
  iterate 2(refine wpFl_qL (v:=?_) rfl (Or.inl ⟨by rfl,?_⟩) ?_;rotate_left;(focus(intro w' hSw;obtain⟨c0,s0,s1⟩:=HC0.out w' (q_next HR.out hSw);go_simp;(try with_reducible rfl);done));simp only[Act.put,zzA,zzB,zzC])
  refine wpFl_nil ?_
  refine NoPanic.normal ?_
  go_wp2
  go_ret
  exact⟨ret_bool (by simp),q_next HB12.out HRZ.out⟩
 | some d =>
  simp only[decR]at HD1 HD2
  go_enter Tryz.func18,Tryz.ntmps18
  go_upto_region 1 with fail
  rw[← HW1.out,← HW2.out]
  go_upto_region 2 with(go_at_call 34;(with_reducible refine(HP1.out _ (q_next HB12.out HR.out)).mono ?_);clear c0 s0 s1;rintro e w1 ⟨va,rfl,hva,hb1⟩;replace HR:=zh (q_next HR.out hb1);have HVA:=zh hva;clear hva;obtain⟨c0,s0,s1⟩:=HC0.out w1 HR.out)
  go_upto_region 3 with(go_at_call 30;(with_reducible refine(HP2.out _ (q_next HB12.out HR.out)).mono ?_);clear c0 s0 s1;rintro e w2 ⟨vb,rfl,hvb,hb2⟩;replace HR:=zh (q_next HR.out hb2);have HVB:=zh hvb;replace HVA:=zh (HVA.out.below hb2);clear hvb;obtain⟨c0,s0,s1⟩:=HC0.out w2 HR.out)
  go_upto_region 4 with(go_at_call 44;(with_reducible refine(HD1.out _ (q_next HB12.out HR.out)).mono ?_);clear c0 s0 s1;rintro e w3 ⟨rfl,hb3⟩;replace HR:=zh (q_next HR.out hb3);replace HVA:=zh (HVA.out.below hb3);replace HVB:=zh (HVB.out.below hb3);obtain⟨c0,s0,s1⟩:=HC0.out w3 HR.out)
  go_upto_region 5 with(go_at_call 57;(with_reducible refine(HD2.out _ (q_next HB12.out HR.out)).mono ?_);clear c0 s0 s1;rintro e w4 ⟨rfl,hb4⟩;replace HR:=zh (q_next HR.out hb4);replace HVA:=zh (HVA.out.below hb4);replace HVB:=zh (HVB.out.below hb4);obtain⟨c0,s0,s1⟩:=HC0.out w4 HR.out)
  clear c0 s0 s1
  refine wp_region_noPanic ?_
  refine wp_region_lexB [.q 0,.q 1,.q 2,.q 3,.q 4,.q 5,.q 6,.q 7,.q 8,.q 9,.q 10,.q 11,.q 12,.q 13,.q 14,.q 15,.b 16,.q 17,.q 18,.q 19,.q 20,.q 21,.q 22,.q 24,.q 25,.q 26,.q 27,.b 23,.b 28,.q 29,.q 30,.q 31,.q 32,.q 33,.q 34,.q 35,.q 37,.q 38,.q 39,.q 40,.b 36,.b 41,.q 42,.q 43,.q 44,.q 45,.q 47,.b 46,.b 48,.q 49,.q 50,.q 51,.q 52,.q 53,.q 54,.q 56,.q 57,.q 58,.b 55,.b 59,.b 60,.q 61,.q 62,.q 63,.q 64,.q 66,.q 67,.b 65,.b 68,.b 69,.q 70,.q 71] (by kernel_rfl) (by kernel_rfl) (fun _ _ _ _ h=>h) ?_
  iterate 16(refine wpFl_qL (v:=?_) rfl (Or.inl ⟨by rfl,?_⟩) ?_;rotate_left;(focus(intro w' hSw;obtain⟨c0,s0,s1⟩:=HC0.out w' (q_next HR.out hSw);go_simp;(try with_reducible rfl);done));simp only[Act.put,zzA,zzB,zzC])
  refine wpFl_bL rfl (fun wa5 hna5 hsa5 K hK=>?_)
  go_simp
  go_at_call 49
  (with_reducible refine(sameV_any (HVA.out.below hsa5) (HVB.out.below hsa5)).mono ?_)
  rintro e wb5 ⟨rfl,hb5⟩
  refine hK.out _ _ (q_next hsa5 hb5) (Keeps.below hb5) ?_
  clear hK K hna5 hsa5
  iterate 10(refine wpFl_qL (v:=?_) rfl (Or.inl ⟨by rfl,?_⟩) ?_;rotate_left;(focus(intro w' hSw;obtain⟨c0,s0,s1⟩:=HC0.out w' (q_next HR.out hSw);go_simp;(try with_reducible rfl);done));simp only[Act.put,zzA,zzB,zzC])
  refine wpFl_bL rfl (fun wa6 hna6 hsa6 K hK=>?_)
  go_simp
  go_at_call 39
  (with_reducible refine(HK1.out _ (q_next HB12.out (q_next HR.out hsa6))).mono ?_)
  rintro e wb6 ⟨rfl,hb6⟩
  refine hK.out _ _ (q_next hsa6 hb6) (Keeps.below hb6) ?_
  clear hK K hna6 hsa6
  refine wpFl_bL rfl (fun wa7 hna7 hsa7 K hK=>?_)
  go_simp
  go_at_call 58
  (with_reducible refine(HK2.out _ (q_next HB12.out (q_next HR.out hsa7))).mono ?_)
  rintro e wb7 ⟨rfl,hb7⟩
  refine hK.out _ _ (q_next hsa7 hb7) (Keeps.below hb7) ?_
  clear hK K hna7 hsa7
  iterate 11(refine wpFl_qL (v:=?_) rfl (Or.inl ⟨by rfl,?_⟩) ?_;rotate_left;(focus(intro w' hSw;obtain⟨c0,s0,s1⟩:=HC0.out w' (q_next HR.out hSw);go_simp;(try with_reducible rfl);done));simp only[Act.put,zzA,zzB,zzC])
  refine wpFl_bL rfl (fun wa8 hna8 hsa8 K hK=>?_)
  go_simp
  go_at_call 39
  (with_reducible refine(HK3.out _ (q_next HB12.out (q_next HR.out hsa8)) _ (HVB.out.below hsa8)).mono ?_)
  rintro e wb8 ⟨rfl,hb8⟩
  refine hK.out _ _ (q_next hsa8 hb8) (Keeps.below hb8) ?_
  clear hK K hna8 hsa8
  refine wpFl_bL rfl (fun wa9 hna9 hsa9 K hK=>?_)
  go_simp
  go_at_call 58
  (with_reducible refine(HK4.out _ (q_next HB12.out (q_next HR.out hsa9)) _ (HVB.out.below hsa9)).mono ?_)
  rintro e wb9 ⟨rfl,hb9⟩
  refine hK.out _ _ (q_next hsa9 hb9) (Keeps.below hb9) ?_
  clear hK K hna9 hsa9
  iterate 5(refine wpFl_qL (v:=?_) rfl (Or.inl ⟨by rfl,?_⟩) ?_;rotate_left;(focus(intro w' hSw;obtain⟨c0,s0,s1⟩:=HC0.out w' (q_next HR.out hSw);go_simp;(try with_reducible rfl);done));simp only[Act.put,zzA,zzB,zzC])
  refine wpFl_bL rfl (fun wa10 hna10 hsa10 K hK=>?_)
  go_simp
  go_at_call 53
  (with_reducible refine(HV1.out _ (q_next HB12.out (q_next HR.out hsa10))).mono ?_)
  rintro e wb10 ⟨rfl,hb10⟩
  refine hK.out _ _ (q_next hsa10 hb10) (Keeps.below hb10) ?_
  clear hK K hna10 hsa10
  refine wpFl_bL rfl (fun wa11 hna11 hsa11 K hK=>?_)
  go_simp
  go_at_call 59
  (with_reducible refine(HV2.out _ (q_next HB12.out (q_next HR.out hsa11))).mono ?_)
  rintro e wb11 ⟨rfl,hb11⟩
  refine hK.out _ _ (q_next hsa11 hb11) (Keeps.below hb11) ?_
  clear hK K hna11 hsa11
  iterate 9(refine wpFl_qL (v:=?_) rfl (Or.inl ⟨by rfl,?_⟩) ?_;rotate_left;(focus(intro w' hSw;obtain⟨c0,s0,s1⟩:=HC0.out w' (q_next HR.out hSw);go_simp;(try with_reducible rfl);done));simp only[Act.put,zzA,zzB,zzC])
  refine wpFl_bL rfl (fun wa12 hna12 hsa12 K hK=>?_)
  go_simp
  go_at_call 38
  (with_reducible refine(HT1.out _ (q_next HB12.out (q_next HR.out hsa12))).mono ?_)
  rintro e wb12 ⟨ta,rfl,hta,hb12⟩
  have HTA:=zh hta
  refine hK.out _ _ (q_next hsa12 hb12) (Keeps.below hb12) ?_
  clear hK K hna12 hsa12
  refine wpFl_bL rfl (fun wa13 hna13 hsa13 K hK=>?_)
  go_simp
  go_at_call 60
  (with_reducible refine(HT2.out _ (q_next HB12.out (q_next HR.out hsa13))).mono ?_)
  rintro e wb13 ⟨tb,rfl,htb,hb13⟩
  have HTB:=zh htb
  have HTC:=zh ((HTA.out.below hna13).below hb13)
  refine hK.out _ _ (q_next hsa13 hb13) (Keeps.below hb13) ?_
  clear hK K hna13 hsa13
  refine wpFl_bL rfl (fun wa14 hna14 hsa14 K hK=>?_)
  go_simp
  go_at_call 45
  (with_reducible refine(sameT_any (HTC.out.below hna14) (HTB.out.below hna14)).mono ?_)
  rintro e wb14 ⟨rfl,hb14⟩
  refine hK.out _ _ (q_next hsa14 hb14) (Keeps.below hb14) ?_
  clear hK K hna14 hsa14
  iterate 6(refine wpFl_qL (v:=?_) rfl (Or.inl ⟨by rfl,?_⟩) ?_;rotate_left;(focus(intro w' hSw;obtain⟨c0,s0,s1⟩:=HC0.out w' (q_next HR.out hSw);go_simp;(try with_reducible rfl);done));simp only[Act.put,zzA,zzB,zzC])
  refine wpFl_bL rfl (fun wa15 hna15 hsa15 K hK=>?_)
  go_simp
  go_at_call 35
  (with_reducible refine(HU1.out _ (q_next HB12.out (q_next HR.out hsa15))).mono ?_)
  rintro e wb15 ⟨da,rfl,hda,hb15⟩
  have HDA:=zh hda
  refine hK.out _ _ (q_next hsa15 hb15) (Keeps.below hb15) ?_
  clear hK K hna15 hsa15
  refine wpFl_bL rfl (fun wa16 hna16 hsa16 K hK=>?_)
  go_simp
  go_at_call 61
  (with_reducible refine(HU2.out _ (q_next HB12.out (q_next HR.out hsa16))).mono ?_)
  rintro e wb16 ⟨db,rfl,hdb,hb16⟩
  have HDB:=zh hdb
  have HDC:=zh ((HDA.out.below hna16).below hb16)
  refine hK.out _ _ (q_next hsa16 hb16) (Keeps.below hb16) ?_
  clear hK K hna16 hsa16
  refine wpFl_bL rfl (fun wa17 hna17 hsa17 K hK=>?_)
  go_simp
  go_at_call 33
  (with_reducible refine(sameD_any (HDC.out.below hna17) (HDB.out.below hna17)).mono ?_)
  rintro e wb17 ⟨rfl,hb17⟩
  have HRZ:=zh (q_next HR.out (q_next hsa17 hb17))
  refine hK.out _ _ (q_next hsa17 hb17) (Keeps.below hb17) ?_
  clear hK K hna17 hsa17
  iterate 2(refine wpFl_qL (v:=?_) rfl (Or.inl ⟨by rfl,?_⟩) ?_;rotate_left;(focus(intro w' hSw;obtain⟨c0,s0,s1⟩:=HC0.out w' (q_next HR.out hSw);go_simp;(try with_reducible rfl);done));simp only[Act.put,zzA,zzB,zzC])
  refine wpFl_nil ?_
  refine NoPanic.normal ?_
  go_wp2
  go_ret
  exact⟨ret_bool (by simp),q_next HB12.out HRZ.out⟩
end Go.Proofs.YtggdcnjaofflbaaGreatDoor
