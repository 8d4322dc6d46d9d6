/- Walks of the reference: Tallies. The conditions: lengths. -/
import Derived.Test.YtggdcnjaofflbaaGreatDoorMM25
namespace Go.Proofs.YtggdcnjaofflbaaGreatDoor
open Go.RowKit Go.BigFrame
theorem tcells_oneR (l:List (ByteArray × Nat)):∀ c∈l.map tcells,∀ u∈c,u.oneCell'=true:=fun c hc u hu=>by
 obtain⟨y,_,rfl⟩:=List.mem_map.1 hc
 simp only[tcells,List.mem_cons,List.not_mem_nil,or_false]at hu
 rcases hu with rfl | rfl <;> rfl
theorem one_tallyR {w:World}{b:Nat}{v:ByteArray × Nat}(h:w.heap[b]?=some (.cells #[.string v.1,.int .i64 (v.2:Int)] 68 (0,0))):SliceAt w (.slice (some ⟨b,0,none⟩) 1 1) 2 [tcells v]:=by
 refine⟨_,1,rfl,Nat.le_refl _,by decide,.inr ⟨b,0,rfl,(ltA h),fun i c hi j u hj=>?_⟩⟩
 match i,hi with
 | 0,hi =>
  cases hi
  rw[Nat.zero_mul,Nat.zero_add,cell_of_row w b j _ _ _ h,List.getElem?_toArray]
  exact hj
set_option maxHeartbeats 16000000 in
set_option maxRecDepth 100000 in
theorem rtallies_any {w:World}{kv x:Value}{ks:List ByteArray}{l:List VoteP}(hr:SS w kv ks)(hks:∀ k∈ks,k.size≤1000)(hx:VS w x l)(num stp:Int)(hkn:ks.length≤1000) :
  Calls Tryz.prog 60 #[.agg #[kv],.agg #[.int .i64 num,.int .i64 stp],x] w (TalIs w (tallyV ks num stp l)):=by
 obtain⟨ka,kc,hke,-,-,-⟩:=hr.opened
 obtain⟨kn,hkn2⟩:∃ n,n=ks.length:=⟨_,rfl⟩
 rw[← hkn2]at hke hkn
 subst hke
 have HKN:=zh hkn2
 obtain⟨la,lc,hxe,hll,hlm,hl3⟩:=hx.opened
 subst hxe
 have HL3:=zh hl3
 obtain⟨N,hN⟩:∃ N,N=l.length:=⟨_,rfl⟩
 rw[← hN]at hll hx ⊢
 have HN:=zh hN
 have hN9:N≤9223372036854775807:=by unfold maxLen at hlm;omega
 obtain⟨W1,hW1⟩:∃ W1,W1=w.alloc (.cells #[.slice ka kn kc] 31):=⟨_,rfl⟩
 have HB1:Below w.heap.size w W1:=by rw[hW1];exact br0.alloc (Nat.le_refl _) _
 have hs1:W1.heap.size=w.heap.size+1:=by rw[hW1];simp
 have HX1:W1.heap[w.heap.size]?=some (.cells #[.slice ka kn kc] 31 (0,0)):=by rw[hW1];exact heap_alloc_new w _
 obtain⟨W2,hW2⟩:∃ W2,W2=W1.alloc (.cells #[.int .i64 num,.int .i64 stp] 25):=⟨_,rfl⟩
 have HB2:Below W1.heap.size W1 W2:=by rw[hW2];exact br0.alloc (Nat.le_refl _) _
 have hs2:W2.heap.size=w.heap.size+2:=by rw[hW2];simp[hs1]
 have HX2:W2.heap[w.heap.size+1]?=some (.cells #[.int .i64 num,.int .i64 stp] 25 (0,0)):=by rw[hW2,← hs1];exact heap_alloc_new W1 _
 have HBA:=zh (HB1.trans (HB2.mono HB1.size))
 have HY1:=zh (fun W (hW:Below W2.heap.size W2 W)=>And.intro (cell_of_row W _ 0 _ _ _ (((q_next HB2 hW).block _ (by omega)).trans HX1)) (two_at ((hW.block _ (by omega)).trans HX2)))
 have HW1:=zh hW1
 have HW2:=zh hW2
 have HGR:=zh (fun W (hW:Below W2.heap.size W2 W) v=>rgen19_any (hr.below (q_next HBA.out hW)) hks v)
 have HRV:=zh (fun W (hW:Below W2.heap.size W2 W)=>rvalid_any (hr.below (q_next HBA.out hW)))
 have HFI:=zh (fun W (hW:Below W2.heap.size W2 W) (i:Nat) (val:ByteArray) o ho=>rfind_any (hr.below (q_next HBA.out hW)) hks (hx.below (q_next HBA.out hW)) (i:Int) num stp val o ho)
 obtain⟨va,hva⟩:∃ b,b=validC ks:=⟨_,rfl⟩
 rw[← hva]at HRV
 have HVA:=zh hva
 obtain⟨c0,t0,t1⟩:=HY1.out W2 br0
 obtain⟨R,hR⟩:∃ R,R=tallyV ks num stp l:=⟨_,rfl⟩
 rw[← hR]
 have HRR:=zh hR
 have HS0:Hid (TS W2 (.slice none 0 0) (talQ ks num stp l (l.take 0))):=zh (TS.nil _)
 clear hW1 hW2 HB1 HB2 HX1 HX2 hs1 hs2 hr hks hx hN hll hlm hl3 hva hR hkn2
 go_enter Tryz.func60,Tryz.ntmps60
 go_upto_region 1 with fail
 rw[← HW1.out,← HW2.out]
 cases va with
 | false =>
  have hno:R=[]:=by rw[HRR.out];exact tallyV_no (by unfold isPool;rw[← HVA.out];rfl)
  have HNO:=zh hno
  clear hno
  go_wp2_with (go_at_call 59;(with_reducible refine(HRV.out _ br0).mono ?_);rintro e wa ⟨rfl,ha⟩)
  go_ret
  exact⟨_,rfl,by rw[HNO.out];exact TS.nil _,HBA.out.trans (ha.mono HBA.out.size)⟩
 | true =>
  by_cases h60:N≤60
  ·have hgt:¬ (60:Int) < (N:Int):=by omega
   have HRT:Hid (R=talQ ks num stp l l):=zh (by rw[HRR.out,talQ_all (by unfold isPool;rw[← HVA.out,← HN.out,decide_eq_true h60];rfl)])
   have HGV:Hid (∀ v,genuineV ks v=genV ks v):=zh (fun v=>by unfold genuineV;rw[← HVA.out];rfl)
   go_upto_block 0 with(go_at_call 59;(with_reducible refine(HRV.out _ br0).mono ?_);clear c0 t0 t1;rintro e wa ⟨rfl,ha⟩)
   have HS1:=zh (HS0.out.below ha)
   have HBa:=zh ha
   clear ha HS0
   go_wp2
   go_loopw [7,8] (fun v i wr=>∃(k:Nat) (v':Value),k≤N∧v=v'∧i=.int .i64 k∧Hid (TS wr v' (talQ ks num stp l (l.take k)))∧Hid (v'=.slice none 0 0∨∃ g n c,v'=.slice (some ⟨g,0,none⟩) n c)∧Hid (Below W2.heap.size W2 wr)) (fun _ i _=>N - (intOf i).toNat)
   case atStart=>exact⟨0,_,by omega,rfl,rfl,HS1,zh (.inl rfl),HBa⟩
   case round =>
    clear HS1 HBa
    obtain⟨k,v',hk,rfl,rfl,hS,hFO,hB⟩:=hrel
    by_cases hlt:k < N
    ·have tk:(k:Int) < (N:Int):=by omega
     have tk0:(0:Int)≤(k:Int):=by omega
     obtain⟨v,ev⟩:∃ v,l[k]?=some v:=⟨_,List.getElem?_eq_getElem (by rw[← HN.out];exact hlt)⟩
     obtain⟨lb,lo,rfl,hlb,hlv⟩:=HL3.out k v ev
     have HIS:Hid (inSlot ks num stp v=(genuineV ks v && decide (v.num=num∧v.stp=stp))):=zh (by rw[HGV.out];rfl)
     have HTO:=zh (fun h=>talQ_out (ks:=ks) (num:=num) (stp:=stp) (pool:=l) ev h)
     have HTI:=zh (fun j h=>talQ_in (ks:=ks) (num:=num) (stp:=stp) (pool:=l) (j:=j) ev h)
     have hLl:(talQ ks num stp l (l.take k)).length≤60:=by
      have h1:=talQ_len ks num stp l (l.take k)
      have h2:=List.length_take_le k l
      omega
     obtain⟨L,hL⟩:∃ L,L=talQ ks num stp l (l.take k):=⟨_,rfl⟩
     rw[← hL]at hS HTO HTI hLl
     have HV:=zh (fun W (hW:Below wr.heap.size wr W)=>hlv.keep (q_next HBA.out (q_next hB.out hW)) hlb)
     have HC:=zh (fun W (hW:Below wr.heap.size wr W)=>And.intro (HY1.out W (q_next hB.out hW)) (HV.out W hW))
     have HGN:=zh (fun W (hW:Below wr.heap.size wr W)=>HGR.out W (q_next hB.out hW) v)
     obtain⟨g,hg⟩:∃ g,g=genuineV ks v:=⟨_,rfl⟩
     rw[← hg]at HGN HIS
     obtain⟨oa,oc,rfl,hol,hom,ho3⟩:=hS.out.opened
     have HO3:=zh ho3
     have HVV:=zh (show TS wr (.slice oa L.length oc) L from hS.out)
     obtain⟨n,hn⟩:∃ n,n=L.length:=⟨_,rfl⟩
     rw[← hn]at hLl HVV hFO hol HTI ⊢
     have HNL:=zh hn
     obtain⟨vcar,vnum,vstp,vv,vl⟩:=v
     simp only[vagg]at HGN
     simp only at HIS HTI HV HC
     have HSL:=zh (fun W=>neqSlot vnum vstp num stp W)
     have HFV:=zh (fun W (hW:Below wr.heap.size wr W) (i:Nat)=>HFI.out W (q_next hB.out hW) i vv _ (find_votes HVA.out.symm num stp vv i l))
     obtain⟨CT,hCT⟩:∃ CT:Nat→Nat,CT=cntTo ks num stp vv l:=⟨_,rfl⟩
     obtain⟨VF,hVF⟩:∃ VF:Nat→Bool,VF=votesFor ks num stp vv l:=⟨_,rfl⟩
     have HCS:Hid (∀ i,CT (i+1)=CT i+if VF i=true then 1 else 0):=zh (fun i=>by rw[hCT,hVF];exact cntTo_succ ..)
     have HCL:Hid (∀ i,CT i≤i):=zh (fun i=>by rw[hCT];exact cntTo_le ..)
     have HC0:Hid (CT 0=0):=zh (by rw[hCT];rfl)
     have HCA:Hid ((whoL ks num stp vv l).length=CT kn):=zh (by rw[hCT,HKN.out];rfl)
     rw[← hVF]at HFV
     rw[HCA.out]at HTI
     generalize decide (vnum=num∧vstp=stp)=se at *
     have hsl:=HSL.out
     clear ev hlv hL hg ho3 hS hn hCT hVF
     unfold maxLen at hom
     go_upto_region 7 with fail
     cases se with
     | false =>
      refine wp_region_noPanic ?_
      refine wp_region_lexB [.q 0,.q 1,.q 2,.q 3,.q 4,.q 5,.q 6,.q 7,.q 8,.q 9,.q 10,.q 11,.q 12,.q 13,.q 14,.q 15] (by kernel_rfl) (by kernel_rfl) (fun _ _ _ _ h=>h) ?_
      iterate 8(refine wpFl_qL (v:=?_) rfl (Or.inl ⟨by rfl,?_⟩) ?_;rotate_left;(focus(intro w' hSw;obtain⟨⟨c0,s0,s1⟩,v0,v1,v2,v3,v4⟩:=HC.out w' hSw;go_simp;(try with_reducible rfl);done));simp only[Act.put,zzA,zzB,zzC])
      iterate 7(refine wpFl_qL (v:=undef) rfl (Or.inr ⟨by rfl,rfl⟩) ?_;simp only[Act.put,zzA,zzB,zzC])
      refine wpFl_qL (v:=?_) rfl (Or.inl ⟨by rfl,?_⟩) ?_
      rotate_left
      focus(intro w' hSw;go_simp;(try with_reducible rfl);done)
      simp only[Act.put,zzA,zzB,zzC]
      refine wpFl_nil ?_
      refine NoPanic.normal ?_
      go_wp2
      go_roundw
      case rel=>exact⟨k+1,_,by omega,rfl,by go_num,zh (by rw[HTO.out (by rw[HIS.out,Bool.and_false])];exact HVV.out.below (Below.drew br0)),hFO,zh (Below.drew hB.out)⟩
      case measure=>simp[intOf];omega
     | true =>
     refine wp_region_noPanic ?_
     refine wp_region_lexB [.q 0,.q 1,.q 2,.q 3,.q 4,.q 5,.q 6,.q 7,.q 8,.q 9,.q 10,.q 11,.q 12,.b 13,.q 14,.q 15] (by kernel_rfl) (by kernel_rfl) (fun _ _ _ _ h=>h) ?_
     iterate 13(refine wpFl_qL (v:=?_) rfl (Or.inl ⟨by rfl,?_⟩) ?_;rotate_left;(focus(intro w' hSw;obtain⟨⟨c0,s0,s1⟩,v0,v1,v2,v3,v4⟩:=HC.out w' hSw;go_simp;(try with_reducible rfl);done));simp only[Act.put,zzA,zzB,zzC])
     refine wpFl_bL rfl (fun waa hnaa hsaa K hK=>?_)
     go_simp
     go_at_call 22
     (with_reducible refine(HGN.out _ hsaa).mono ?_)
     rintro e wba ⟨rfl,hba⟩
     have HBF:=zh (q_next hsaa hba)
     refine hK.out _ _ (q_next hsaa hba) (Keeps.below hba) ?_
     clear hK K hnaa hsaa
     iterate 2(refine wpFl_qL (v:=?_) rfl (Or.inl ⟨by rfl,?_⟩) ?_;rotate_left;(focus(intro w' hSw;go_simp;(try with_reducible rfl);done));simp only[Act.put,zzA,zzB,zzC])
     refine wpFl_nil ?_
     refine NoPanic.normal ?_
     cases g with
     | false =>
      go_wp2
      go_roundw
      case rel=>exact⟨k+1,_,by omega,rfl,by go_num,zh (by rw[HTO.out (by rw[HIS.out];rfl)];exact HVV.out.below HBF.out),hFO,zh (q_next hB.out HBF.out)⟩
      case measure=>simp[intOf];omega
     | true =>
      have HTJ:=zh (fun j=>HTI.out j HIS.out)
      have HI0:Hid (∀(m:Nat) (t:ByteArray × Nat),m < 0→L[m]?=some t→t.1.toList < vv.toList):=zh (fun m a h=>by omega)
      clear HC HGN HTI HTO HIS HSL hsl
      go_upto_block 2 with fail
      go_cut [9] (fun i wx=>∃ j:Nat,j≤n∧i=.int .i64 j∧Hid (∀(m:Nat) (t:ByteArray × Nat),m < j→L[m]?=some t→t.1.toList < vv.toList)∧Hid (∀ t:ByteArray × Nat,L[j]?=some t→¬ t.1.toList < vv.toList)∧Hid (Below wr.heap.size wr wx))
      case first =>
       go_wp2
       go_loopw [9] (fun i wq=>∃ j:Nat,j≤n∧i=.int .i64 j∧Hid (∀(m:Nat) (t:ByteArray × Nat),m < j→L[m]?=some t→t.1.toList < vv.toList)∧Hid (Below wr.heap.size wr wq)) (fun i _=>n - (intOf i).toNat)
       case atStart=>exact⟨0,by omega,rfl,HI0,HBF⟩
       case round =>
        clear HI0
        obtain⟨j,hj,rfl,hI,hB2⟩:=hrel
        by_cases hltj:j < n
        ·have tj:(j:Int) < (n:Int):=by omega
         have tj0:(0:Int)≤(j:Int):=by omega
         obtain⟨u,eu⟩:∃ u,L[j]?=some u:=⟨_,List.getElem?_eq_getElem (by rw[← HNL.out];exact hltj)⟩
         obtain⟨ob,oo,rfl,hob,hou,-⟩:=HO3.out j u eu
         have HC9:=zh (fun W (hW:Below wr.heap.size wr W)=>And.intro (cell_keepB (q_next hB2.out hW) hob hou) (HV.out W (q_next hB2.out hW)))
         have HEU:=zh eu
         obtain⟨ut,uc⟩:=u
         simp only at HC9
         have hlv:Op.bytesLess ut.toList vv.toList=decide (ut.toList < vv.toList):=bytesLess_eq ..
         obtain⟨b,hb⟩:∃ b,b=decide (ut.toList < vv.toList):=⟨_,rfl⟩
         rw[← hb]at hlv
         have HLT:=zh hb
         clear eu hou hb
         go_upto_region 9 with fail
         refine wp_region_noPanic ?_
         refine wp_region_lexB [.q 0,.q 1,.q 2,.q 3,.q 4,.q 5,.q 6,.q 7,.q 8,.q 9,.q 10,.q 11,.q 12,.q 13,.q 14,.q 15,.q 16] (by kernel_rfl) (by kernel_rfl) (fun _ _ _ _ h=>h) ?_
         iterate 17(refine wpFl_qL (v:=?_) rfl (Or.inl ⟨by rfl,?_⟩) ?_;rotate_left;(focus(intro w' hSw;obtain⟨o0,v0,v1,v2,v3,v4⟩:=HC9.out w' hSw;go_simp;(try with_reducible rfl);done));simp only[Act.put,zzA,zzB,zzC])
         refine wpFl_nil ?_
         refine NoPanic.normal ?_
         cases b with
         | true =>
          go_wp2
          go_roundw
          case rel=>exact⟨j+1,by omega,by go_num,zh (fun m a hm ha=>by
           rcases Nat.lt_or_ge m j with h | h
           ·exact hI.out m a h ha
           ·obtain rfl:m=j:=by omega
            rw[HEU.out]at ha
            cases ha
            exact of_decide_eq_true HLT.out.symm),zh (Below.drew hB2.out)⟩
          case measure=>simp[intOf];omega
         | false =>
          go_wp2
          go_meet
          case rel=>exact⟨j,by omega,rfl,hI,zh (fun a ha=>by
           rw[HEU.out]at ha
           cases ha
           exact of_decide_eq_false HLT.out.symm),zh (Below.drew hB2.out)⟩
        ·obtain rfl:j=n:=by omega
         have tj:¬ (j:Int) < (j:Int):=by omega
         go_upto_region 9 with fail
         refine wp_region_noPanic ?_
         refine wp_region_lexB [.q 0,.q 1,.q 2,.q 3,.q 4,.q 5,.q 6,.q 7,.q 8,.q 9,.q 10,.q 11,.q 12,.q 13,.q 14,.q 15,.q 16] (by kernel_rfl) (by kernel_rfl) (fun _ _ _ _ h=>h) ?_
         iterate 5(refine wpFl_qL (v:=?_) rfl (Or.inl ⟨by rfl,?_⟩) ?_;rotate_left;(focus(intro w' hSw;go_simp;(try with_reducible rfl);done));simp only[Act.put,zzA,zzB,zzC])
         iterate 11(refine wpFl_qL (v:=undef) rfl (Or.inr ⟨by rfl,rfl⟩) ?_;simp only[Act.put,zzA,zzB,zzC])
         refine wpFl_qL (v:=?_) rfl (Or.inl ⟨by rfl,?_⟩) ?_
         rotate_left
         focus(intro w' hSw;go_simp;(try with_reducible rfl);done)
         simp only[Act.put,zzA,zzB,zzC]
         refine wpFl_nil ?_
         refine NoPanic.normal ?_
         go_wp2
         go_meet
         case rel=>exact⟨j,by omega,rfl,hI,zh (fun a ha=>by rw[List.getElem?_eq_none (by rw[← HNL.out];exact Nat.le_refl _)]at ha;cases ha),zh (Below.drew hB2.out)⟩
      case rest =>
      obtain⟨j,hj,rfl,hI,hE,hB2⟩:=hcut
      have HIV:=zh (HTJ.out j hj hI.out hE.out)
      obtain⟨eq,heq⟩:∃ eq,eq=decide ((L[j]?.map (·.1))=some vv):=⟨_,rfl⟩
      have HEQ:=zh heq
      clear HTJ HI0 hI hE heq
      rename_i hKK
      refine hKK _ _ ?_
      go_upto_region 11 with fail
      go_cut [79] (fun t wx=>t=.bool eq∧Hid (Below wr.heap.size wr wx))
      case first =>
       by_cases hltj:j < n
       ·have tj:(j:Int) < (n:Int):=by omega
        have tj0:(0:Int)≤(j:Int):=by omega
        obtain⟨u,eu⟩:∃ u,L[j]?=some u:=⟨_,List.getElem?_eq_getElem (by rw[← HNL.out];exact hltj)⟩
        obtain⟨ob,oo,rfl,hob,hou,-⟩:=HO3.out j u eu
        have HC9:=zh (fun W (hW:Below wc.heap.size wc W)=>And.intro (cell_keepB (q_next hB2.out hW) hob hou) (HV.out W (q_next hB2.out hW)))
        obtain⟨ut,uc⟩:=u
        simp only at HC9
        have hss:=same_str ut vv
        have hsv:decide (ut=vv)=eq:=by rw[HEQ.out,eu];simp
        rw[hsv]at hss
        clear eu hou hsv
        refine wp_region_noPanic ?_
        refine wp_region_lexB [.q 0,.q 1,.q 2,.q 3,.q 4,.q 5,.q 6,.q 7,.q 8,.q 9,.q 10,.q 11,.q 12,.q 13,.q 14,.q 15,.q 16] (by kernel_rfl) (by kernel_rfl) (fun _ _ _ _ h=>h) ?_
        iterate 17(refine wpFl_qL (v:=?_) rfl (Or.inl ⟨by rfl,?_⟩) ?_;rotate_left;(focus(intro w' hSw;obtain⟨o0,v0,v1,v2,v3,v4⟩:=HC9.out w' hSw;go_simp;(try with_reducible rfl);done));simp only[Act.put,zzA,zzB,zzC])
        refine wpFl_nil ?_
        refine NoPanic.normal ?_
        go_wp2
        go_meet
        case rel=>exact⟨rfl,zh (Below.drew hB2.out)⟩
       ·obtain rfl:j=n:=by omega
        have tj:¬ (j:Int) < (j:Int):=by omega
        have heq:eq=false:=by rw[HEQ.out,List.getElem?_eq_none (by rw[← HNL.out];exact Nat.le_refl _)];rfl
        subst heq
        refine wp_region_noPanic ?_
        refine wp_region_lexB [.q 0,.q 1,.q 2,.q 3,.q 4,.q 5,.q 6,.q 7,.q 8,.q 9,.q 10,.q 11,.q 12,.q 13,.q 14,.q 15,.q 16] (by kernel_rfl) (by kernel_rfl) (fun _ _ _ _ h=>h) ?_
        iterate 5(refine wpFl_qL (v:=?_) rfl (Or.inl ⟨by rfl,?_⟩) ?_;rotate_left;(focus(intro w' hSw;go_simp;(try with_reducible rfl);done));simp only[Act.put,zzA,zzB,zzC])
        iterate 11(refine wpFl_qL (v:=undef) rfl (Or.inr ⟨by rfl,rfl⟩) ?_;simp only[Act.put,zzA,zzB,zzC])
        refine wpFl_qL (v:=?_) rfl (Or.inl ⟨by rfl,?_⟩) ?_
        rotate_left
        focus(intro w' hSw;go_simp;(try with_reducible rfl);done)
        simp only[Act.put,zzA,zzB,zzC]
        refine wpFl_nil ?_
        refine NoPanic.normal ?_
        go_wp2
        go_meet
        case rel=>exact⟨rfl,zh (Below.drew hB2.out)⟩
      case rest =>
      obtain⟨he79,HB3⟩:=hcut
      subst he79
      clear hB2
      cases eq with
      | true =>
       have HNW:Hid (talQ ks num stp l (l.take (k+1))=L):=zh (by rw[HIV.out,if_pos (of_decide_eq_true HEQ.out.symm)])
       go_wp2
       go_roundw
       case rel=>exact⟨k+1,_,by omega,rfl,by go_num,zh (by rw[HNW.out];exact HVV.out.below HB3.out),hFO,zh (q_next hB.out HB3.out)⟩
       case measure=>simp[intOf];omega
      | false =>
       have HNW:Hid (talQ ks num stp l (l.take (k+1))=L.take j++(vv,CT kn)::L.drop j):=zh (by rw[HIV.out,if_neg (of_decide_eq_false HEQ.out.symm)])
       have htb0:=HB3.out.size
       obtain⟨v0,v1,v2,v3,v4⟩:=HV.out wc HB3.out
       go_upto_block 4 with fail
       obtain⟨W12,hW12⟩:∃ W,W=wc.alloc (.cells #[.string vv,.int .i64 0] 68):=⟨_,rfl⟩
       have HT0:Hid (W12.heap[wc.heap.size]?=some (.cells #[.string vv,.int .i64 ((CT 0:Nat):Int)] 68 (0,0))):=zh (by rw[hW12,HC0.out];exact heap_alloc_new wc _)
       have HB12:Hid (Below wr.heap.size wr W12):=zh (by rw[hW12];exact HB3.out.alloc htb0 _)
       rw[← hW12]
       obtain⟨tb,htb⟩:∃ b,b=wc.heap.size:=⟨_,rfl⟩
       rw[← htb]at HT0 htb0 ⊢
       clear hW12 htb v0 v1 v2 v3 v4 HB3 HEQ HIV HBF
       go_cut [11] (fun i wx=>i=.int .i64 kn∧Hid (Below wr.heap.size wr wx)∧Hid (wx.heap[tb]?=some (.cells #[.string vv,.int .i64 ((CT kn:Nat):Int)] 68 (0,0))))
       case first =>
        go_wp2
        go_loopw [11] (fun i wq=>∃ i':Nat,i'≤kn∧i=.int .i64 i'∧Hid (Below wr.heap.size wr wq)∧Hid (wq.heap[tb]?=some (.cells #[.string vv,.int .i64 ((CT i':Nat):Int)] 68 (0,0)))) (fun i _=>kn - (intOf i).toNat)
        case atStart=>exact⟨0,by omega,rfl,HB12,HT0⟩
        case round =>
         clear HT0 HB12
         obtain⟨i,hi,rfl,hB4,hT⟩:=hrel
         obtain⟨c0,t0,t1⟩:=HY1.out wr (q_next hB.out hB4.out)
         have e0:=cell_of_row wr _ 0 _ _ _ hT.out
         by_cases hlti:i < kn
         ·have ti:(i:Int) < (kn:Int):=by omega
          have HFD:=zh (HFV.out wr hB4.out i)
          have HCN:=zh (HCS.out i)
          have hci:=HCL.out i
          have HTW:=zh (fun W (hW:Below wr.heap.size wr W)=>(hW.block tb (ltA hT.out)).trans hT.out)
          obtain⟨c,hc⟩:∃ c,c=CT i:=⟨_,rfl⟩
          rw[← hc]at HCN HTW hci
          obtain⟨b,hb⟩:∃ b,b=VF i:=⟨_,rfl⟩
          rw[← hb]at HFD HCN
          obtain⟨z,hz⟩:∃ z,z=mkV ks num stp vv i:=⟨_,rfl⟩
          rw[← hz]at HFD
          obtain⟨zc,zn,zs,zv,zl⟩:=z
          clear hc hb hz hT
          cases b with
          | false =>
           simp only[Bool.false_eq_true,if_false,findR,Nat.add_zero]at HFD HCN
           go_wp2_with (go_at_call 73;(with_reducible refine HFD.out.mono ?_);rintro e wy ⟨rfl,hy⟩)
           go_roundw
           case rel=>exact⟨i+1,by omega,by go_num,zh ((q_next hB4.out hy).alloc (q_next hB4.out hy).size _),zh (by rw[HCN.out];exact HTW.out _ (hy.alloc hy.size _))⟩
           case measure=>simp[intOf];omega
          | true =>
           simp only[if_true,findR,vagg]at HFD HCN
           go_upto_region 17 with(go_at_call 73;(with_reducible refine HFD.out.mono ?_);rintro e wy ⟨rfl,hy⟩)
           obtain⟨W7,hW7⟩:∃ W,W=wy.alloc (.cells #[.int .i64 zc,.int .i64 zn,.int .i64 zs,.string zv,.string zl] 27):=⟨_,rfl⟩
           have HB7:Hid (Below wr.heap.size wr W7):=zh (by rw[hW7];exact hy.alloc hy.size _)
           rw[← hW7]
           have hT7:=HTW.out W7 HB7.out
           have g1:=cell_of_row W7 _ 1 _ _ _ hT7
           have gf:∀ j,W7.frozen? ⟨tb,j,none⟩=false:=fun j=>by unfold World.frozen?;rw[hT7];simp
           have hw1:IntKind.i64.wrap ((c:Int)+1)=(c:Int)+1:=IntWalk.i64_in _ (by omega)
           have HT8:=zh (heap_setCell_same (i:=1) (.int .i64 ((c:Int)+1)) hT7)
           have HB8:=zh ((q_next hB4.out HB7.out).setCell (p:=⟨tb,1,none⟩) (by exact htb0) (.int .i64 ((c:Int)+1)))
           clear hW7 hT7 c0 t0 t1 e0
           go_wp2
           go_roundw
           case rel=>exact⟨i+1,by omega,by go_num,HB8,zh (by rw[HCN.out];exact HT8.out)⟩
           case measure=>simp[intOf];omega
         ·obtain rfl:i=kn:=by omega
          have ti:¬ (i:Int) < (i:Int):=by omega
          go_wp2
          go_meet
          case rel=>exact⟨rfl,hB4,hT⟩
       case rest =>
       obtain⟨hi11,HBq,HTC⟩:=hcut
       subst hi11
       have HTB:=zh (fun W (hW:Below wc.heap.size wc W)=>two_at ((hW.block tb (ltA HTC.out)).trans HTC.out))
       generalize CT kn=cn at *
       clear HT0 HB12 HTC HFV HCS HCL HC0 HCA
       rename_i hKK
       refine hKK _ _ ?_
       rcases hFO.out with hnil | ⟨g,n',c',hsome⟩
       ·injection hnil with hs1 hs2 hs3
        subst hs1 hs2 hs3
        obtain rfl:j=0:=by omega
        have hL0:L=[]:=List.eq_nil_of_length_eq_zero HNL.out.symm
        have HLZ:=zh hL0
        clear hL0
        go_upto_region 19 with fail
        refine wp_region_noPanic ?_
        refine wp_region_lexB [.q 0,.q 1,.q 2,.q 3,.q 4,.q 6,.q 7,.q 8,.an 5,.co 5,.b 9,.b 10,.q 11] (by kernel_rfl) (by kernel_rfl) (fun _ _ _ _ h=>h) ?_
        iterate 8(refine wpFl_qL (v:=?_) rfl (Or.inl ⟨by rfl,?_⟩) ?_;rotate_left;(focus(intro w' hSw;obtain⟨t0,t1⟩:=HTB.out w' hSw;go_simp;(try with_reducible rfl);done));simp only[Act.put,zzA,zzB,zzC])
        refine wpFl_anL rfl (.cells #[.string vv,.int .i64 (cn:Int)] 68 (0,0)) (fun n=>.slice (some ⟨n,0,none⟩) 1 1) ⟨by rfl,fun w'=>?_⟩ ?_
        focus(go_simp;done)
        refine wpFl_coL rfl (.cells #[.string vv,.int .i64 (cn:Int)] 68 (0,0)) (fun n=>.slice (some ⟨n,0,none⟩) 1 1) (by rfl) (N':=[]) (by rfl) (fun ba we hn_we hs_we hb_ba hz_ba=>?_)
        simp only[Act.put,zzA,zzB,zzC]
        refine wpFl_bL rfl (fun wf hnf hsf K hK=>?_)
        have HZ:=zh ((hnf.block ba (ltA hz_ba)).trans hz_ba)
        have h1:SliceAt wf (.slice (some ⟨ba,0,none⟩) 1 1) 2 [tcells (vv,cn)]:=one_tallyR (v:=(vv,cn)) HZ.out
        have h2:SliceAt wf (.slice none 0 0) 2 ((L.drop 0).map tcells):=by
          rw[HLZ.out]
          exact SliceAt.nil _ _
        refine step_append_any 65 68 2 24 _ (by kernel_rfl) infoTally3 rfl (by decide) rfl _ _ rfl (css:=[tcells (vv,cn)]) (dss:=(L.drop 0).map tcells) rfl rfl h1 h2 (tcells_len [(vv,cn)]) (tcells_len _) (tcells_oneR _) (by omega) ?_
        intro sv c2 wg hsl hbg
        refine hK.out _ _ (q_next hsf hbg) (Keeps.below hbg) ?_
        clear hK K
        simp only[Act.put,zzA,zzB,zzC]
        refine wpFl_bL rfl (fun wh hnh hsh K hK=>?_)
        have h3:SliceAt wh (.slice none 0 0) 2 ((L.take 0).map tcells):=SliceAt.nil _ _
        refine step_append_fit 65 68 2 24 _ (by kernel_rfl) infoTally3 rfl (by decide) rfl _ _ rfl rfl rfl h3 (hsl.below hnh) (tcells_len _) (tcells_len ((vv,cn)::L.drop 0)) (tcells_oneR ((vv,cn)::L.drop 0)) (by omega) (by omega) ?_
        intro cap wi hown hbi
        refine hK.out _ _ (q_next hsh hbi) (Keeps.below hbi) ?_
        clear hK K
        have HOW:=zh (OwnE.slice hown (fun c hc=>by rcases List.mem_append.1 hc with hc | hc;exact tcells_len _ c hc;exact tcells_len ((vv,cn)::L.drop 0) c hc))
        have HBI:=zh (q_next hB.out (q_next HBq.out (q_next hsh hbi)))
        simp only[Act.put,zzA,zzB,zzC]
        refine wpFl_qL (v:=?_) rfl (Or.inl ⟨by rfl,?_⟩) ?_
        rotate_left
        focus(intro w' hSw;go_simp;(try with_reducible rfl);done)
        simp only[Act.put,zzA,zzB,zzC]
        refine wpFl_nil ?_
        refine NoPanic.normal ?_
        go_wp2
        go_roundw
        case rel =>
         refine⟨k+1,_,by omega,rfl,by go_num,zh ?_,zh (.inr ⟨_,_,_,rfl⟩),HBI⟩
         rw[HNW.out]
         have r:=HOW.out
         unfold TS
         rw[List.map_append,List.map_cons]
         exact r
        case measure=>simp[intOf];omega
       ·injection hsome with hs1 hs2 hs3
        subst hs1 hs2 hs3
        have tj0:(0:Int)≤(j:Int):=by omega
        have tjc:(j:Int)≤(oc:Int):=by omega
        have tjn:(j:Int)≤(n:Int):=by omega
        have ujc:j≤oc:=by omega
        have ujn:j≤n:=by omega
        have uno:n≤oc:=by omega
        by_cases hjn:j=n
        ·subst hjn
         by_cases hcj:oc=j
         ·subst hcj
          go_upto_region 19 with fail
          refine wp_region_noPanic ?_
          refine wp_region_lexB [.q 0,.q 1,.q 2,.q 3,.q 4,.q 6,.q 7,.q 8,.an 5,.co 5,.b 9,.b 10,.q 11] (by kernel_rfl) (by kernel_rfl) (fun _ _ _ _ h=>h) ?_
          iterate 8(refine wpFl_qL (v:=?_) rfl (Or.inl ⟨by rfl,?_⟩) ?_;rotate_left;(focus(intro w' hSw;obtain⟨t0,t1⟩:=HTB.out w' hSw;go_simp;(try with_reducible rfl);done));simp only[Act.put,zzA,zzB,zzC])
          refine wpFl_anL rfl (.cells #[.string vv,.int .i64 (cn:Int)] 68 (0,0)) (fun n=>.slice (some ⟨n,0,none⟩) 1 1) ⟨by rfl,fun w'=>?_⟩ ?_
          focus(go_simp;done)
          refine wpFl_coL rfl (.cells #[.string vv,.int .i64 (cn:Int)] 68 (0,0)) (fun n=>.slice (some ⟨n,0,none⟩) 1 1) (by rfl) (N':=[]) (by rfl) (fun ba we hn_we hs_we hb_ba hz_ba=>?_)
          simp only[Act.put,zzA,zzB,zzC]
          refine wpFl_bL rfl (fun wf hnf hsf K hK=>?_)
          have HZ:=zh ((hnf.block ba (ltA hz_ba)).trans hz_ba)
          have h1:SliceAt wf (.slice (some ⟨ba,0,none⟩) 1 1) 2 [tcells (vv,cn)]:=one_tallyR (v:=(vv,cn)) HZ.out
          have h2:SliceAt wf (.slice (some ⟨g,0,none⟩) 0 0) 2 ((L.drop oc).map tcells):=by
            have e:L.drop oc=[]:=List.drop_eq_nil_of_le (by rw[← HNL.out];exact Nat.le_refl _)
            rw[e]
            exact⟨_,_,rfl,Nat.le_refl _,Nat.zero_le _,.inl rfl⟩
          refine step_append_any 65 68 2 24 _ (by kernel_rfl) infoTally3 rfl (by decide) rfl _ _ rfl (css:=[tcells (vv,cn)]) (dss:=(L.drop oc).map tcells) rfl rfl h1 h2 (tcells_len [(vv,cn)]) (tcells_len _) (tcells_oneR _) (by omega) ?_
          intro sv c2 wg hsl hbg
          refine hK.out _ _ (q_next hsf hbg) (Keeps.below hbg) ?_
          clear hK K
          simp only[Act.put,zzA,zzB,zzC]
          refine wpFl_bL rfl (fun wh hnh hsh K hK=>?_)
          have h3:SliceAt wh (.slice (some ⟨g,0,none⟩) oc oc) 2 ((L.take oc).map tcells):=by
           have r:=SliceAt.fit (TS.below HVV.out (q_next HBq.out hsh)) oc (Nat.le_refl _)
           rw[← List.map_take]at r
           exact r
          refine step_append_fit 65 68 2 24 _ (by kernel_rfl) infoTally3 rfl (by decide) rfl _ _ rfl rfl rfl h3 (hsl.below hnh) (tcells_len _) (tcells_len ((vv,cn)::L.drop oc)) (tcells_oneR ((vv,cn)::L.drop oc)) (by omega) (by omega) ?_
          intro cap wi hown hbi
          refine hK.out _ _ (q_next hsh hbi) (Keeps.below hbi) ?_
          clear hK K
          have HOW:=zh (OwnE.slice hown (fun c hc=>by rcases List.mem_append.1 hc with hc | hc;exact tcells_len _ c hc;exact tcells_len ((vv,cn)::L.drop oc) c hc))
          have HBI:=zh (q_next hB.out (q_next HBq.out (q_next hsh hbi)))
          simp only[Act.put,zzA,zzB,zzC]
          refine wpFl_qL (v:=?_) rfl (Or.inl ⟨by rfl,?_⟩) ?_
          rotate_left
          focus(intro w' hSw;go_simp;(try with_reducible rfl);done)
          simp only[Act.put,zzA,zzB,zzC]
          refine wpFl_nil ?_
          refine NoPanic.normal ?_
          go_wp2
          go_roundw
          case rel =>
           refine⟨k+1,_,by omega,rfl,by go_num,zh ?_,zh (.inr ⟨_,_,_,rfl⟩),HBI⟩
           rw[HNW.out]
           have r:=HOW.out
           unfold TS
           rw[List.map_append,List.map_cons]
           exact r
          case measure=>simp[intOf];omega
         ·
          go_upto_region 19 with fail
          refine wp_region_noPanic ?_
          refine wp_region_lexB [.q 0,.q 1,.q 2,.q 3,.q 4,.q 6,.q 7,.q 8,.an 5,.co 5,.b 9,.b 10,.q 11] (by kernel_rfl) (by kernel_rfl) (fun _ _ _ _ h=>h) ?_
          iterate 8(refine wpFl_qL (v:=?_) rfl (Or.inl ⟨by rfl,?_⟩) ?_;rotate_left;(focus(intro w' hSw;obtain⟨t0,t1⟩:=HTB.out w' hSw;go_simp;(try with_reducible rfl);done));simp only[Act.put,zzA,zzB,zzC])
          refine wpFl_anL rfl (.cells #[.string vv,.int .i64 (cn:Int)] 68 (0,0)) (fun n=>.slice (some ⟨n,0,none⟩) 1 1) ⟨by rfl,fun w'=>?_⟩ ?_
          focus(go_simp;done)
          refine wpFl_coL rfl (.cells #[.string vv,.int .i64 (cn:Int)] 68 (0,0)) (fun n=>.slice (some ⟨n,0,none⟩) 1 1) (by rfl) (N':=[]) (by rfl) (fun ba we hn_we hs_we hb_ba hz_ba=>?_)
          simp only[Act.put,zzA,zzB,zzC]
          refine wpFl_bL rfl (fun wf hnf hsf K hK=>?_)
          have HZ:=zh ((hnf.block ba (ltA hz_ba)).trans hz_ba)
          have h1:SliceAt wf (.slice (some ⟨ba,0,none⟩) 1 1) 2 [tcells (vv,cn)]:=one_tallyR (v:=(vv,cn)) HZ.out
          have h2:SliceAt wf (.slice (some ⟨g,j*2,none⟩) 0 (oc - j)) 2 ((L.drop j).map tcells):=by
            have r:=SliceAt.rest (TS.below HVV.out (q_next HBq.out hsf)) j ujn
            rw[Nat.zero_add,← List.map_drop,Nat.sub_self]at r
            exact r
          refine step_append_any 65 68 2 24 _ (by kernel_rfl) infoTally3 rfl (by decide) rfl _ _ rfl (css:=[tcells (vv,cn)]) (dss:=(L.drop j).map tcells) rfl rfl h1 h2 (tcells_len [(vv,cn)]) (tcells_len _) (tcells_oneR _) (by omega) ?_
          intro sv c2 wg hsl hbg
          refine hK.out _ _ (q_next hsf hbg) (Keeps.below hbg) ?_
          clear hK K
          simp only[Act.put,zzA,zzB,zzC]
          refine wpFl_bL rfl (fun wh hnh hsh K hK=>?_)
          have h3:SliceAt wh (.slice (some ⟨g,0,none⟩) j j) 2 ((L.take j).map tcells):=by
           have r:=SliceAt.fit (TS.below HVV.out (q_next HBq.out hsh)) j ujn
           rw[← List.map_take]at r
           exact r
          refine step_append_fit 65 68 2 24 _ (by kernel_rfl) infoTally3 rfl (by decide) rfl _ _ rfl rfl rfl h3 (hsl.below hnh) (tcells_len _) (tcells_len ((vv,cn)::L.drop j)) (tcells_oneR ((vv,cn)::L.drop j)) (by omega) (by omega) ?_
          intro cap wi hown hbi
          refine hK.out _ _ (q_next hsh hbi) (Keeps.below hbi) ?_
          clear hK K
          have HOW:=zh (OwnE.slice hown (fun c hc=>by rcases List.mem_append.1 hc with hc | hc;exact tcells_len _ c hc;exact tcells_len ((vv,cn)::L.drop j) c hc))
          have HBI:=zh (q_next hB.out (q_next HBq.out (q_next hsh hbi)))
          simp only[Act.put,zzA,zzB,zzC]
          refine wpFl_qL (v:=?_) rfl (Or.inl ⟨by rfl,?_⟩) ?_
          rotate_left
          focus(intro w' hSw;go_simp;(try with_reducible rfl);done)
          simp only[Act.put,zzA,zzB,zzC]
          refine wpFl_nil ?_
          refine NoPanic.normal ?_
          go_wp2
          go_roundw
          case rel =>
           refine⟨k+1,_,by omega,rfl,by go_num,zh ?_,zh (.inr ⟨_,_,_,rfl⟩),HBI⟩
           rw[HNW.out]
           have r:=HOW.out
           unfold TS
           rw[List.map_append,List.map_cons]
           exact r
          case measure=>simp[intOf];omega
        ·have hcj:¬ oc=j:=by omega
         go_upto_region 19 with fail
         refine wp_region_noPanic ?_
         refine wp_region_lexB [.q 0,.q 1,.q 2,.q 3,.q 4,.q 6,.q 7,.q 8,.an 5,.co 5,.b 9,.b 10,.q 11] (by kernel_rfl) (by kernel_rfl) (fun _ _ _ _ h=>h) ?_
         iterate 8(refine wpFl_qL (v:=?_) rfl (Or.inl ⟨by rfl,?_⟩) ?_;rotate_left;(focus(intro w' hSw;obtain⟨t0,t1⟩:=HTB.out w' hSw;go_simp;(try with_reducible rfl);done));simp only[Act.put,zzA,zzB,zzC])
         refine wpFl_anL rfl (.cells #[.string vv,.int .i64 (cn:Int)] 68 (0,0)) (fun n=>.slice (some ⟨n,0,none⟩) 1 1) ⟨by rfl,fun w'=>?_⟩ ?_
         focus(go_simp;done)
         refine wpFl_coL rfl (.cells #[.string vv,.int .i64 (cn:Int)] 68 (0,0)) (fun n=>.slice (some ⟨n,0,none⟩) 1 1) (by rfl) (N':=[]) (by rfl) (fun ba we hn_we hs_we hb_ba hz_ba=>?_)
         simp only[Act.put,zzA,zzB,zzC]
         refine wpFl_bL rfl (fun wf hnf hsf K hK=>?_)
         have HZ:=zh ((hnf.block ba (ltA hz_ba)).trans hz_ba)
         have h1:SliceAt wf (.slice (some ⟨ba,0,none⟩) 1 1) 2 [tcells (vv,cn)]:=one_tallyR (v:=(vv,cn)) HZ.out
         have h2:SliceAt wf (.slice (some ⟨g,j*2,none⟩) (n - j) (oc - j)) 2 ((L.drop j).map tcells):=by
           have r:=SliceAt.rest (TS.below HVV.out (q_next HBq.out hsf)) j ujn
           rw[Nat.zero_add,← List.map_drop]at r
           exact r
         refine step_append_any 65 68 2 24 _ (by kernel_rfl) infoTally3 rfl (by decide) rfl _ _ rfl (css:=[tcells (vv,cn)]) (dss:=(L.drop j).map tcells) rfl rfl h1 h2 (tcells_len [(vv,cn)]) (tcells_len _) (tcells_oneR _) (by omega) ?_
         intro sv c2 wg hsl hbg
         refine hK.out _ _ (q_next hsf hbg) (Keeps.below hbg) ?_
         clear hK K
         simp only[Act.put,zzA,zzB,zzC]
         refine wpFl_bL rfl (fun wh hnh hsh K hK=>?_)
         have h3:SliceAt wh (.slice (some ⟨g,0,none⟩) j j) 2 ((L.take j).map tcells):=by
          have r:=SliceAt.fit (TS.below HVV.out (q_next HBq.out hsh)) j ujn
          rw[← List.map_take]at r
          exact r
         refine step_append_fit 65 68 2 24 _ (by kernel_rfl) infoTally3 rfl (by decide) rfl _ _ rfl rfl rfl h3 (hsl.below hnh) (tcells_len _) (tcells_len ((vv,cn)::L.drop j)) (tcells_oneR ((vv,cn)::L.drop j)) (by omega) (by omega) ?_
         intro cap wi hown hbi
         refine hK.out _ _ (q_next hsh hbi) (Keeps.below hbi) ?_
         clear hK K
         have HOW:=zh (OwnE.slice hown (fun c hc=>by rcases List.mem_append.1 hc with hc | hc;exact tcells_len _ c hc;exact tcells_len ((vv,cn)::L.drop j) c hc))
         have HBI:=zh (q_next hB.out (q_next HBq.out (q_next hsh hbi)))
         simp only[Act.put,zzA,zzB,zzC]
         refine wpFl_qL (v:=?_) rfl (Or.inl ⟨by rfl,?_⟩) ?_
         rotate_left
         focus(intro w' hSw;go_simp;(try with_reducible rfl);done)
         simp only[Act.put,zzA,zzB,zzC]
         refine wpFl_nil ?_
         refine NoPanic.normal ?_
         go_wp2
         go_roundw
         case rel =>
          refine⟨k+1,_,by omega,rfl,by go_num,zh ?_,zh (.inr ⟨_,_,_,rfl⟩),HBI⟩
          rw[HNW.out]
          have r:=HOW.out
          unfold TS
          rw[List.map_append,List.map_cons]
          exact r
         case measure=>simp[intOf];omega
    ·obtain rfl:k=N:=by omega
     have tk:¬ (k:Int) < (k:Int):=by omega
     have hfin:l.take k=l:=by rw[HN.out,List.take_length]
     rw[hfin,← HRT.out]at hS
     go_wp2
     go_ret
     exact⟨_,rfl,hS.out,HBA.out.trans (hB.out.mono HBA.out.size)⟩
  ·have hgt:(60:Int) < (N:Int):=by omega
   have hno:R=[]:=by rw[HRR.out];exact tallyV_no (by unfold isPool;rw[← HN.out,decide_eq_false h60];simp)
   have HNO:=zh hno
   clear hno
   go_wp2_with (go_at_call 59;(with_reducible refine(HRV.out _ br0).mono ?_);rintro e wa ⟨rfl,ha⟩)
   go_ret
   exact⟨_,rfl,by rw[HNO.out];exact TS.nil _,HBA.out.trans (ha.mono HBA.out.size)⟩
set_option maxHeartbeats 4000000 in
set_option maxRecDepth 100000 in
theorem rdecided_any {w:World}{kv x:Value}{ks:List ByteArray}{l:List VoteP}(hr:SS w kv ks)(hks:∀ k∈ks,k.size≤1000)(hx:VS w x l)(num stp:Int)(hkn:ks.length≤1000) :
  Calls Tryz.prog 57 #[.agg #[kv],.agg #[.int .i64 num,.int .i64 stp],x] w fun e w'=>e=.returned (decR (decidedV ks num stp l))∧Below w.heap.size w w':=by
 have HTL0:=zh (fun W (hW:Below w.heap.size w W)=>rtallies_any (hr.below hW) hks (hx.below hW) num stp hkn)
 obtain⟨ka,kc,hke,-,-,-⟩:=hr.opened
 obtain⟨kn,hkn2⟩:∃ n,n=ks.length:=⟨_,rfl⟩
 rw[← hkn2]at hke hkn
 subst hke
 obtain⟨la,ln,lc,rfl⟩:=hx.form
 have HRQ:=zh (fun W=>rquorum_any ka kn kc W hkn)
 obtain⟨q,hq⟩:∃ q,q=2*((kn - 1) / 3)+1:=⟨_,rfl⟩
 rw[← hq]at HRQ
 have hen:enoughC ks=q:=by unfold enoughC;rw[← hkn2,hq]
 obtain⟨TL,hTL⟩:∃ TL,TL=tallyV ks num stp l:=⟨_,rfl⟩
 rw[← hTL]at HTL0
 have HRES:Hid (decidedV ks num stp l=(TL.find? fun t=>decide (q≤t.2)).map (·.1)):=zh (by unfold decidedV;rw[hen,hTL])
 obtain⟨R,hR⟩:∃ R,R=decidedV ks num stp l:=⟨_,rfl⟩
 rw[← hR]at HRES ⊢
 obtain⟨W1,hW1⟩:∃ W1,W1=w.alloc (.cells #[.slice ka kn kc] 31):=⟨_,rfl⟩
 have HB1:Below w.heap.size w W1:=by rw[hW1];exact br0.alloc (Nat.le_refl _) _
 have hs1:W1.heap.size=w.heap.size+1:=by rw[hW1];simp
 have HX1:W1.heap[w.heap.size]?=some (.cells #[.slice ka kn kc] 31 (0,0)):=by rw[hW1];exact heap_alloc_new w _
 obtain⟨W2,hW2⟩:∃ W2,W2=W1.alloc (.cells #[.int .i64 num,.int .i64 stp] 25):=⟨_,rfl⟩
 have HB2:Below W1.heap.size W1 W2:=by rw[hW2];exact br0.alloc (Nat.le_refl _) _
 have HX2:W2.heap[w.heap.size+1]?=some (.cells #[.int .i64 num,.int .i64 stp] 25 (0,0)):=by rw[hW2,← hs1];exact heap_alloc_new W1 _
 have HBA:=zh (HB1.trans (HB2.mono HB1.size))
 have HY1:Hid (∀ W,Below W2.heap.size W2 W→W.cell? ⟨w.heap.size,0,none⟩=some (.slice ka kn kc)):=zh (fun W hW=>cell_of_row W _ 0 _ _ _ (((q_next HB2 hW).block _ (by omega)).trans HX1))
 have HTL:=zh (HTL0.out W2 HBA.out)
 have c0:=HY1.out W2 br0
 obtain⟨t0,t1⟩:=two_at HX2
 have HW1:=zh hW1
 have HW2:=zh hW2
 clear hW1 hW2 HB1 HB2 HX1 HX2 hs1 hr hks hx hq hR hTL hen hkn2 HTL0
 go_enter Tryz.func57,Tryz.ntmps57
 go_upto_region 1 with fail
 rw[← HW1.out,← HW2.out]
 go_upto_block 0 with(go_at_call 60;(with_reducible refine HTL.out.mono ?_);rintro e wa ⟨tv,rfl,htv,ha⟩;obtain⟨ta,tc,hte,htl,htm,ht3⟩:=htv.opened;obtain⟨N,hN⟩:∃ N,N=TL.length:=⟨_,rfl⟩;rw[← hN]at hte htl;subst hte;have HN:=zh hN;have HT3:=zh ht3;have HTM:=zh (And.intro htl htm);clear hN ht3 htv htl htm;have HBa:=zh ha;clear ha)
 have hN9:N≤9223372036854775807:=by
  obtain⟨h1,h2⟩:=HTM.out
  unfold maxLen at h2
  omega
 have HF0:Hid ((TL.take 0).find? (fun t=>decide (q≤t.2))=none):=zh rfl
 clear c0 t0 t1 HTL
 go_wp2
 go_loopw [9] (fun i wr=>∃ k:Nat,k≤N∧i=.int .i64 k∧Hid ((TL.take k).find? (fun t=>decide (q≤t.2))=none)∧Hid (Below wa.heap.size wa wr)) (fun i _=>N - (intOf i).toNat)
 case atStart=>exact⟨0,by omega,rfl,HF0,zh br0⟩
 case round =>
  clear HF0
  obtain⟨k,hk,rfl,hF,hB⟩:=hrel
  by_cases hlt:k < N
  ·have tk:(k:Int) < (N:Int):=by omega
   have tk0:(0:Int)≤(k:Int):=by omega
   obtain⟨t,et⟩:∃ t,TL[k]?=some t:=⟨_,List.getElem?_eq_getElem (by rw[← HN.out];exact hlt)⟩
   obtain⟨tb,tof,rfl,htb,ht0,ht1⟩:=HT3.out k t et
   have HFT:Hid ((TL.take (k+1)).find? (fun t=>decide (q≤t.2))=if q≤t.2 then some t else none):=zh (by
    rw[List.take_add_one,et,List.find?_append,hF.out,Option.none_or]
    by_cases h:q≤t.2
    ·simp[h]
    ·simp[h])
   have HFA:Hid (q≤t.2→TL.find? (fun t=>decide (q≤t.2))=some t):=zh (fun h=>by
    have e:TL=TL.take (k+1)++TL.drop (k+1):=(List.take_append_drop ..).symm
    rw[e,List.find?_append,HFT.out,if_pos h]
    rfl)
   obtain⟨tv,tn⟩:=t
   simp only at ht0 ht1
   have HC:=zh (fun W (hW:Below wr.heap.size wr W)=>And.intro (cell_keepB (q_next hB.out hW) htb ht1) (HY1.out W (q_next HBa.out (q_next hB.out hW))))
   clear et ht1
   go_upto_region 5 with fail
   refine wp_region_noPanic ?_
   refine wp_region_lexB [.q 0,.q 1,.q 2,.q 3,.q 4,.q 5,.b 6,.q 7] (by kernel_rfl) (by kernel_rfl) (fun _ _ _ _ h=>h) ?_
   iterate 6(refine wpFl_qL (v:=?_) rfl (Or.inl ⟨by rfl,?_⟩) ?_;rotate_left;(focus(intro w' hSw;obtain⟨t1,c0⟩:=HC.out w' hSw;go_simp;(try with_reducible rfl);done));simp only[Act.put,zzA,zzB,zzC])
   refine wpFl_bL rfl (fun waa hnaa hsaa K hK=>?_)
   go_simp
   go_at_call 72
   (with_reducible refine(HRQ.out _).mono ?_)
   rintro e wba ⟨rfl,hba⟩
   have HBF:=zh (q_next hB.out (q_next hsaa hba))
   refine hK.out _ _ (q_next hsaa hba) (Keeps.below hba) ?_
   clear hK K hnaa hsaa
   by_cases hge:q≤tn
   ·have hgi:(q:Int)≤(tn:Int):=by omega
    have HRS:Hid (R=some tv):=zh (by rw[HRES.out,HFA.out hge];rfl)
    have d0:=cell_keepB HBF.out htb ht0
    refine wpFl_qL (v:=?_) rfl (Or.inl ⟨by rfl,?_⟩) ?_
    rotate_left
    focus(intro w' hSw;go_simp;(try with_reducible rfl);done)
    simp only[Act.put,zzA,zzB,zzC]
    refine wpFl_nil ?_
    refine NoPanic.normal ?_
    go_wp2
    exact bodyPost_ret (results_tmp2 rfl _ _ _) rfl ⟨by rw[HRS.out];rfl,HBA.out.trans ((q_next HBa.out HBF.out).mono HBA.out.size)⟩
   ·have hgi:¬ (q:Int)≤(tn:Int):=by omega
    refine wpFl_qL (v:=?_) rfl (Or.inl ⟨by rfl,?_⟩) ?_
    rotate_left
    focus(intro w' hSw;go_simp;(try with_reducible rfl);done)
    simp only[Act.put,zzA,zzB,zzC]
    refine wpFl_nil ?_
    refine NoPanic.normal ?_
    go_wp2
    go_roundw
    case rel=>exact⟨k+1,by omega,by go_num,zh (by rw[HFT.out,if_neg hge]),HBF⟩
    case measure=>simp[intOf];omega
  ·obtain rfl:k=N:=by omega
   have tk:¬ (k:Int) < (k:Int):=by omega
   have HRS:Hid (R=none):=zh (by
    rw[HRES.out]
    have:=hF.out
    rw[HN.out,List.take_length]at this
    rw[this]
    rfl)
   go_wp2
   exact bodyPost_ret (results_tmp2 rfl _ _ _) rfl ⟨by rw[HRS.out];rfl,HBA.out.trans ((q_next HBa.out hB.out).mono HBA.out.size)⟩
end Go.Proofs.YtggdcnjaofflbaaGreatDoor
