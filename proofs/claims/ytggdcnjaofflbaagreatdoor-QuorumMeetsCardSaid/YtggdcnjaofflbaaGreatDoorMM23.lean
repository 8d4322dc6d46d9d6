/- Walk of package quorum: Meet. The conditions: what the slices read as, lengths, the table of constants. -/
import Derived.Test.YtggdcnjaofflbaaGreatDoorMM22
namespace Go.Proofs.YtggdcnjaofflbaaGreatDoor
open Go.RowKit Go.BigFrame
theorem own_less {w:World}{base base':Nat}{v:Value}{l:List VoteP}(h:OwnV w base v l)(hb:base'≤base):OwnV w base' v l :=
 ⟨h.1,h.2.imp id fun⟨g,cap,cur,e1,h1,r⟩=>⟨g,cap,cur,e1,Nat.le_trans hb h1,r⟩⟩
def MeetOwn (w:World)(l:List VoteP)(e:Ending)(w':World):Prop:=∃ v,e=.returned v∧OwnV w' w.heap.size v l∧Below w.heap.size w w'
set_option maxHeartbeats 16000000 in
set_option maxRecDepth 100000 in
theorem meet_own {w:World}{kv x:Value}{ks:List ByteArray}{zs:List (PartP × Value)}(hr:SS w kv ks)(hks:∀ k∈ks,k.size≤1000)(hz:PS w x zs)(hok:∀ z:PartP × Value,z∈zs→PartOk z.1)(he:Env w)(hg:3 < w.heap.size) :
  Calls Tryz.prog 48 #[.agg #[kv],x] w (MeetOwn w (meetV ks (zs.map (·.1)))):=by
 obtain⟨ka,kc,rfl,-,-,hk3⟩:=hr.opened
 have HR:=zh hr
 have HK3:=zh hk3
 have HZ:=zh hz
 obtain⟨xa,xc,rfl,-,-,hx3⟩:=hz.opened
 have HX3:=zh hx3
 have HOK:=zh hok
 have HKS:=zh hks
 have HE:=zh he
 have HG:=zh hg
 obtain⟨W1,hW1⟩:∃ W1,W1=w.alloc (.cells #[.slice ka ks.length kc] 31):=⟨_,rfl⟩
 have HB1:Hid (Below w.heap.size w W1):=zh (by rw[hW1];exact br0.alloc (Nat.le_refl _) _)
 have HH1:Hid (W1.heap[w.heap.size]?=some (.cells #[.slice ka ks.length kc] 31 (0,0))):=zh (by rw[hW1];exact heap_alloc_new w _)
 have HPL:=zh (qvalid_any (hr.below HB1.out))
 have HRN:Hid (validC ks=false∨20 < zs.length→meetV ks (zs.map (·.1))=[]):=zh fun h=>by
  unfold meetV
  rw[if_neg (by
   rw[List.length_map]
   rcases h with h | h
   ·rw[h];rintro⟨h,_⟩;cases h
   ·rintro⟨_,h'⟩;omega)]
 have HRY:Hid (validC ks=true→zs.length≤20→meetV ks (zs.map (·.1))=sortedV ks ((zs.map (·.1)).flatMap (votesIn ks))):=zh fun h h'=>by
  unfold meetV
  rw[if_pos ⟨h,by rw[List.length_map];exact h'⟩]
 have HW1:=zh hW1
 obtain⟨PL,hPL⟩:∃ PL,PL=validC ks:=⟨_,rfl⟩
 rw[← hPL]at HPL HRN HRY
 have hc2:W1.cell? ⟨w.heap.size,0,none⟩=some (.slice ka ks.length kc):=cell_of_row W1 _ 0 _ _ _ HH1.out
 obtain⟨kn,hkn⟩:∃ n,n=ks.length:=⟨_,rfl⟩
 have HKN:=zh hkn
 obtain⟨n,hn⟩:∃ n,n=zs.length:=⟨_,rfl⟩
 have HN:=zh hn
 have HKL:Hid (PL=true→kn≤7):=zh (fun h=>by rw[hPL]at h;rcases valid_len h with h | h | h <;> omega)
 rw[← hn]at HRN HRY
 rw[← hkn]at HPL hc2 HW1 HH1
 generalize meetV ks (zs.map (·.1))=RES at *
 show Calls Tryz.prog 48 #[.agg #[.slice _ ks.length _],.slice _ zs.length _] w _
 rw[← hn,← hkn]
 clear hr hks hz hok he hg hW1 hPL hk3 hx3 hkn hn
 cases PL with
 | false =>
  have HE2:=HRN.out (.inl rfl)
  subst HE2
  go_enter Tryz.func48,Tryz.ntmps48
  go_upto_region 1 with fail
  rw[← HW1.out]
  go_wp2_with (go_at_call 53;refine HPL.out.mono ?_;rintro e w2 ⟨rfl,h2⟩;have H2:=zh h2;clear h2)
  go_ret
  exact⟨_,rfl,OwnE.nil _ _ _ _,q_next HB1.out H2.out⟩
 | true =>
  by_cases h20:20 < n
  ·have HE2:=HRN.out (.inr h20)
   subst HE2
   have h20':(20:Int) < (n:Int):=by omega
   go_enter Tryz.func48,Tryz.ntmps48
   go_upto_region 1 with fail
   rw[← HW1.out]
   go_wp2_with (go_at_call 53;refine HPL.out.mono ?_;rintro e w2 ⟨rfl,h2⟩;have H2:=zh h2;clear h2)
   go_ret
   exact⟨_,rfl,OwnE.nil _ _ _ _,q_next HB1.out H2.out⟩
  ·have hRES:=zh (HRY.out rfl (by omega))
   have hkn7:=HKL.out rfl
   have h20':¬ (20:Int) < (n:Int):=by omega
   clear HRN HRY HKL
   go_enter Tryz.func48,Tryz.ntmps48
   go_upto_region 1 with fail
   rw[← HW1.out]
   go_upto_region 4 with(go_at_call 53;refine HPL.out.mono ?_;rintro e w2 ⟨rfl,h2⟩;have HM0:=zh (show MeAt W1 (.slice none 0 0) [] w2 from⟨h2,OwnE.nil _ _ _ _⟩);clear h2)
   clear HPL hc2
   go_wp2
   rw[show decide ((20:Int) < (n:Int))=false from decide_eq_false (by omega)]
   obtain⟨F,hF⟩:∃ F:Nat→List VoteP,F=fun i=>((zs.map (·.1)).take i).flatMap (votesIn ks):=⟨_,rfl⟩
   have HF0:Hid (F 0=[]):=zh (by rw[hF];rfl)
   have HFS:Hid (∀(i:Nat) (z:PartP × Value),zs[i]?=some z→F (i+1)=F i++votesIn ks z.1):=zh (fun i z hz=>by
    rw[hF]
    exact meets_snoc (by rw[List.getElem?_map,hz];rfl))
   have HFN:Hid (RES=sortedV ks (F n)):=zh (by
    rw[hRES.out,hF]
    show _=sortedV ks (((zs.map (·.1)).take n).flatMap (votesIn ks))
    rw[List.take_of_length_le (by rw[List.length_map,HN.out];exact Nat.le_refl _)])
   clear hF hRES
   go_loopw [5,23] (fun out ip wr=>∃(i m:Nat) (oa:Option Addr) (oc:Nat),i≤n∧ip=.int .i64 i∧out=.slice oa m oc∧m≤10000*i∧Hid ((F i).length=m)∧Hid (MeAt W1 (.slice oa m oc) (F i) wr)) (fun _ ip _=>n - (intOf ip).toNat)
   case atStart=>exact⟨0,0,none,0,by omega,rfl,rfl,Nat.le_refl _,zh (by rw[HF0.out];rfl),by rw[HF0.out];exact HM0⟩
   case round =>
    obtain⟨i,m,oa,oc,hi,rfl,rfl,hm,hlen,hM⟩:=hrel
    by_cases hlt:i < n
    ·obtain⟨z,ez⟩:∃ y,zs[i]?=some y:=⟨_,List.getElem?_eq_getElem (by rw[← HN.out];exact hlt)⟩
     obtain⟨gb,go,rfl,hgb,hzat⟩:=HX3.out i z ez
     obtain⟨ys,hys,hist⟩:=HZ.out.2 z (List.mem_of_getElem? ez)
     have hpo:=HOK.out z (List.mem_of_getElem? ez)
     have HS1:=zh (HFS.out i z ez)
     obtain⟨⟨⟨pc,ps,pr,pl⟩,its⟩,iv⟩:=z
     obtain⟨p1,p2,p3⟩:=hpo
     simp only at hys hist p1 p2 p3 HS1
     obtain⟨ia,ic,hiv,-,-,hi3⟩:=hist.is.opened
     subst hiv
     obtain⟨ni,hni⟩:∃ ni,ni=ys.length:=⟨_,rfl⟩
     have hitl:its.length=ni:=by rw[← hys,List.length_map,hni]
     have HIS:=zh hist.is
     rw[← hni]at hzat HIS
     have HNI:=zh hni
     have HI3:=zh hi3
     obtain⟨c0,c1,c2,c3,c4⟩:=hzat.keep (q_next HB1.out hM.out.1) hgb
     simp only at c0 c1 c2 c3 c4
     have hpk0:(0:Int)≤(i:Int):=by omega
     have hpk:(i:Int) < (n:Int):=by omega
     obtain⟨W2,hW2⟩:∃ W2,W2=wr.alloc (.cells #[.int .i64 pc,.int .i64 ps,.string pr,.string pl,.slice ia ni ic] 92):=⟨_,rfl⟩
     have HBw2:Hid (Below w.heap.size w W2):=zh (by rw[hW2];exact q_next (q_next HB1.out hM.out.1) (br0.alloc (Nat.le_refl _) _))
     have HM2:Hid (MeAt W1 (.slice oa m oc) (F i) W2):=zh (by rw[hW2];exact hM.out.far (br0.alloc (Nat.le_refl _) _))
     have HP2:Hid (W2.heap[wr.heap.size]?=some (.cells #[.int .i64 pc,.int .i64 ps,.string pr,.string pl,.slice ia ni ic] 92 (0,0))):=zh (by rw[hW2];exact heap_alloc_new wr _)
     have HK2:Hid (W2.heap[w.heap.size]?=some (.cells #[.slice ka kn kc] 31 (0,0))):=zh ((HM2.out.1.block _ (ltA HH1.out)).trans HH1.out)
     have HW2:=zh hW2
     have HCH:Hid (∀ key:ByteArray,key.size≤1000→∀ W,Below W2.heap.size W2 W→Calls Tryz.prog 51 #[.string key,.agg #[.int .i64 pc,.int .i64 ps,.string pr,.string pl,.slice ia ni ic]] W fun e w'=>e=.returned (.bool (checkB key ⟨⟨pc,ps,pr,pl⟩,its⟩))∧Below W.heap.size W w'):=zh fun key hkey W hW=>by
      have hBW:=q_next HBw2.out hW
      have h:=check_any key pc ps pr pl (HIS.out.below hBW) hkey p1 (by rw[← HNI.out];omega) (fun y hy=>(p3 y.1 (by rw[← hys];exact List.mem_map_of_mem hy)).1) (HE.out.below hBW HG.out) (Nat.lt_of_lt_of_le HG.out hBW.size)
      rw[hys]at h
      exact h
     have hitm:=zh p3
     clear hist hi3 hni hzat hW2 p1 p3 hgb ez
     obtain⟨R,hR⟩:∃ R,R=!(decide (0≤pc∧pc < (kn:Int)) && checkB (ks.getD pc.toNat ⟨#[]⟩) ⟨⟨pc,ps,pr,pl⟩,its⟩):=⟨_,rfl⟩
     have HRN2:Hid (R=true→F (i+1)=F i):=zh fun h=>by
      rw[HS1.out,votesIn,if_neg,List.append_nil]
      rintro⟨h1,h2⟩
      rw[HKN.out]at hR
      rw[hR,decide_eq_true h1]at h
      simp only[Bool.true_and]at h
      rw[h2]at h
      cases h
     have HRY2:Hid (R=false→F (i+1)=F i++its.filterMap (itemVote pc)):=zh fun h=>by
      rw[HS1.out,votesIn,if_pos]
      rw[hR]at h
      simp only[Bool.not_eq_false',Bool.and_eq_true,decide_eq_true_iff]at h
      rw[HKN.out]at h
      exact h
     have HRR:=zh hR
     have hys2:=zh hys
     clear hR HS1 hys
     go_upto_region 7 with fail
     rw[← HW2.out]
     clear c0 c1 c2 c3 c4 HW2
     obtain⟨c0,c1,c2,c3,c4⟩:=vcellsAt5 HP2.out
     go_upto_region 8 with fail
     have hkw:IntKind.i64.wrap ((kn:Int) - 1)=(kn:Int) - 1:=IntWalk.i64_in _ (by omega)
     have HIN:=zh (fun W=>isIn_any pc 0 ((kn:Int) - 1) W)
     clear c0 c1 c2 c3 c4
     go_cut [46] (fun t wx=>t=.bool R∧Hid (Below W2.heap.size W2 wx))
     case first =>
      by_cases hin:0≤pc∧pc < (kn:Int)
      ·obtain⟨j,rfl⟩:∃ j:Nat,pc=(j:Int):=⟨pc.toNat,by omega⟩
       have hj:j < kn:=by omega
       obtain⟨key,ek⟩:∃ y,ks[j]?=some y:=⟨_,List.getElem?_eq_getElem (by rw[← HKN.out];exact hj)⟩
       obtain⟨kb,ko,rfl,hkb,hkc⟩:=HK3.out j key ek
       have hksz:=HKS.out key (List.mem_of_getElem? ek)
       have HCK:=zh (HCH.out key hksz)
       have hget:ks.getD ((j:Int)).toNat ⟨#[]⟩=key:=by
        rw[Int.toNat_natCast,List.getD_eq_getElem?_getD,ek]
        rfl
       obtain⟨C,hC⟩:∃ C,C=checkB key ⟨⟨(j:Int),ps,pr,pl⟩,its⟩:=⟨_,rfl⟩
       have hRC:R=!C:=by rw[HRR.out,hget,decide_eq_true hin,hC];rfl
       rw[← hC]at HCK
       have hdin:decide ((0:Int)≤(j:Int)∧(j:Int)≤(kn:Int) - 1)=true:=decide_eq_true (by omega)
       rw[hdin]at HIN
       have HCL:Hid (∀ W,Below W2.heap.size W2 W→W.cell? ⟨w.heap.size,0,none⟩=some (.slice (some ⟨kb,ko,none⟩) kn kc)∧W.cell? ⟨kb,ko+j,none⟩=some (.string key)∧W.cell? ⟨wr.heap.size,0,none⟩=some (.int .i64 (j:Int))∧W.cell? ⟨wr.heap.size,1,none⟩=some (.int .i64 ps)∧W.cell? ⟨wr.heap.size,2,none⟩=some (.string pr)∧W.cell? ⟨wr.heap.size,3,none⟩=some (.string pl)∧W.cell? ⟨wr.heap.size,4,none⟩=some (.slice ia ni ic)):=zh fun W hW =>
        ⟨cell_of_row W _ 0 _ _ _ ((hW.block _ (ltA HK2.out)).trans HK2.out),cell_keepB (q_next HBw2.out hW) hkb hkc,vcellsAt5 ((hW.block _ (ltA HP2.out)).trans HP2.out)⟩
       have hj0:(0:Int)≤(j:Int):=by omega
       have hj1:(j:Int) < (kn:Int):=by omega
       subst hRC
       clear hdin hC hget HRR hkc hkb ek hin
       refine wp_region_noPanic ?_
       refine wp_region_lexB [.q 0,.q 1,.q 2,.q 3,.q 4,.b 5,.q 6,.q 7,.q 8,.q 9,.q 10,.q 11,.q 12,.q 13,.b 14,.q 15,.q 16] (by kernel_rfl) (by kernel_rfl) (fun _ _ _ _ h=>h) ?_
       iterate 5(refine wpFl_qL (v:=?_) rfl (Or.inl ⟨by rfl,?_⟩) ?_;rotate_left;(focus(intro w' hSw;obtain⟨f0,f1,f2,f3,f4,f5,f6⟩:=HCL.out w' hSw;go_simp;(try with_reducible rfl);done));simp only[Act.put,zzA,zzB,zzC])
       refine wpFl_bL rfl (fun wa hna hsa K hK=>?_)
       go_simp
       go_at_call 90
       refine(HIN.out wa).mono ?_
       rintro e wb ⟨rfl,rfl⟩
       refine hK.out _ _ hsa (Keeps.below br0) ?_
       clear hK K hna hsa
       iterate 8(refine wpFl_qL (v:=?_) rfl (Or.inl ⟨by rfl,?_⟩) ?_;rotate_left;(focus(intro w' hSw;obtain⟨f0,f1,f2,f3,f4,f5,f6⟩:=HCL.out w' hSw;go_simp;(try with_reducible rfl);done));simp only[Act.put,zzA,zzB,zzC])
       refine wpFl_bL rfl (fun wc hnc hsc K hK=>?_)
       go_simp
       go_at_call 51
       refine(HCK.out wc hsc).mono ?_
       rintro e wd ⟨rfl,hbd⟩
       have HBD:=zh (q_next hsc hbd)
       refine hK.out _ _ HBD.out (Keeps.below hbd) ?_
       clear hK K hnc hsc hbd
       iterate 2(refine wpFl_qL (v:=?_) rfl (Or.inl ⟨by rfl,?_⟩) ?_;rotate_left;(focus(intro w' hSw;go_simp;(try with_reducible rfl);done));simp only[Act.put,zzA,zzB,zzC])
       refine wpFl_nil ?_
       refine NoPanic.normal ?_
       go_wp2
       go_meet
       case rel=>exact⟨rfl,HBD⟩
      ·have hRC:R=true:=by rw[HRR.out,decide_eq_false hin];rfl
       have hdin:decide ((0:Int)≤pc∧pc≤(kn:Int) - 1)=false:=decide_eq_false (by omega)
       rw[hdin]at HIN
       have HCL:Hid (∀ W,Below W2.heap.size W2 W→W.cell? ⟨w.heap.size,0,none⟩=some (.slice ka kn kc)):=zh fun W hW=>cell_of_row W _ 0 _ _ _ ((hW.block _ (ltA HK2.out)).trans HK2.out)
       subst hRC
       clear hdin HRR hin
       refine wp_region_noPanic ?_
       refine wp_region_lexB [.q 0,.q 1,.q 2,.q 3,.q 4,.b 5,.q 6,.q 7,.q 8,.q 9,.q 10,.q 11,.q 12,.q 13,.q 14,.q 15,.q 16] (by kernel_rfl) (by kernel_rfl) (fun _ _ _ _ h=>h) ?_
       iterate 5(refine wpFl_qL (v:=?_) rfl (Or.inl ⟨by rfl,?_⟩) ?_;rotate_left;(focus(intro w' hSw;have f0:=HCL.out w' hSw;go_simp;(try with_reducible rfl);done));simp only[Act.put,zzA,zzB,zzC])
       refine wpFl_bL rfl (fun wa hna hsa K hK=>?_)
       go_simp
       go_at_call 90
       refine(HIN.out wa).mono ?_
       rintro e wb ⟨rfl,rfl⟩
       have HBD:=zh hsa
       refine hK.out _ _ hsa (Keeps.below br0) ?_
       clear hK K hna hsa
       iterate 2(refine wpFl_qL (v:=?_) rfl (Or.inl ⟨by rfl,?_⟩) ?_;rotate_left;(focus(intro w' hSw;go_simp;(try with_reducible rfl);done));simp only[Act.put,zzA,zzB,zzC])
       iterate 8(refine wpFl_qL (v:=undef) rfl (Or.inr ⟨by rfl,rfl⟩) ?_;simp only[Act.put,zzA,zzB,zzC])
       refine wpFl_qL (v:=?_) rfl (Or.inl ⟨by rfl,?_⟩) ?_
       rotate_left
       focus(intro w' hSw;go_simp;(try with_reducible rfl);done)
       simp only[Act.put,zzA,zzB,zzC]
       refine wpFl_nil ?_
       refine NoPanic.normal ?_
       go_wp2
       go_meet
       case rel=>exact⟨rfl,HBD⟩
     case rest =>
      obtain⟨ht46,HB3⟩:=hcut
      subst ht46
      obtain⟨w3,hw3⟩:∃ W,W=wc:=⟨_,rfl⟩
      rw[← hw3]at HB3 ⊢
      clear hw3 wc HIN hkw HCH HRR
      have HM3:=zh (HM2.out.far HB3.out)
      have HP3:=zh ((HB3.out.block _ (ltA HP2.out)).trans HP2.out)
      have HBw3:=zh (q_next HBw2.out HB3.out)
      clear HM2 HP2 HK2 HBw2 HB3 hM
      cases R with
      | true =>
       have HF2:=zh (HRN2.out rfl)
       clear HRN2 HRY2
       go_wp2
       go_roundw
       case rel =>
        refine⟨i+1,m,oa,oc,by omega,by go_num,rfl,by omega,?_,?_⟩
        ·rw[HF2.out];exact hlen
        ·rw[HF2.out];exact HM3
       case measure=>simp[intOf];omega
      | false =>
       have HFY:=zh (HRY2.out rfl)
       clear HRN2 HRY2
       have hni:ni≤10000:=by rw[← hitl];exact p2
       obtain⟨G,hG⟩:∃ G:Nat→List VoteP,G=fun k=>(its.take k).filterMap (itemVote pc):=⟨_,rfl⟩
       have HG0:Hid (G 0=[]):=zh (by rw[hG];rfl)
       have HGS:Hid (∀(k:Nat) (y:ItemP),its[k]?=some y→G (k+1)=G k++(itemVote pc y).toList):=zh (fun k y hy=>by
        rw[hG]
        exact items_snoc hy)
       have HGN:Hid (its.filterMap (itemVote pc)=G ni):=zh (by
        rw[hG]
        show _=(its.take ni).filterMap (itemVote pc)
        rw[List.take_of_length_le (by rw[hitl];exact Nat.le_refl _)])
       have HYS:Hid (∀(k:Nat) (y:ItemP × Value),ys[k]?=some y→its[k]?=some y.1):=zh (fun k y hy=>by rw[← hys2.out,List.getElem?_map,hy];rfl)
       clear hG hitl p2
       obtain⟨c0,c1,c2,c3,c4⟩:=vcellsAt5 HP3.out
       go_upto_region 10 with fail
       clear c0 c1 c2 c3 c4 HP3
       go_wp2
       go_loopw [5,50] (fun out kp wx=>∃(k m2:Nat) (oa2:Option Addr) (oc2:Nat),k≤ni∧kp=.int .i64 k∧out=.slice oa2 m2 oc2∧m2≤m+k∧Hid ((F i++G k).length=m2)∧Hid (MeAt W1 (.slice oa2 m2 oc2) (F i++G k) wx)) (fun _ kp _=>ni - (intOf kp).toNat)
       case atStart=>exact⟨0,m,oa,oc,by omega,rfl,rfl,by omega,zh (by rw[HG0.out,List.append_nil];exact hlen.out),by rw[HG0.out,List.append_nil];exact HM3⟩
       case round =>
        obtain⟨k,m2,oa2,oc2,hk,rfl,rfl,hm2,hlen2,hM4⟩:=hrel
        by_cases hlt2:k < ni
        ·obtain⟨y,ey⟩:∃ y,ys[k]?=some y:=⟨_,List.getElem?_eq_getElem (by rw[← HNI.out];exact hlt2)⟩
         obtain⟨ib,io,rfl,hib,d0,d1,d2⟩:=HI3.out k y ey
         have HGk:=zh (HGS.out k y.1 (HYS.out k y ey))
         have hent:=(hitm.out y.1 (List.mem_of_getElem? (HYS.out k y ey))).2
         have hbw:=zh (q_next HB1.out hM4.out.1)
         replace d0:=cell_keepB hbw.out hib d0
         replace d1:=cell_keepB hbw.out hib d1
         replace d2:=cell_keepB hbw.out hib d2
         obtain⟨⟨yi,ye,yp⟩,yv⟩:=y
         simp only at d0 d1 d2 HGk hent
         have hk0:(0:Int)≤(k:Int):=by omega
         have hk1:(k:Int) < (ni:Int):=by omega
         obtain⟨ya,yn,yc,hyv⟩:∃ a n c,yv=.slice a n c:=by
          obtain⟨a,c,h,_⟩:=(HIS.out.2 _ (List.mem_of_getElem? ey)).opened
          exact⟨_,_,_,h⟩
         subst hyv
         obtain⟨W5,hW5⟩:∃ W5,W5=wr.alloc (.cells #[.int .i64 yi,.string ye,.slice ya yn yc] 98):=⟨_,rfl⟩
         have HM5:Hid (MeAt W1 (.slice oa2 m2 oc2) (F i++G k) W5):=zh (by rw[hW5];exact hM4.out.far (br0.alloc (Nat.le_refl _) _))
         have hy5:W5.heap[wr.heap.size]?=some (.cells #[.int .i64 yi,.string ye,.slice ya yn yc] 98 (0,0)):=by rw[hW5];exact heap_alloc_new wr _
         have y1:=cell_of_row W5 _ 1 _ _ _ hy5
         have HDE:=zh (decode_any ye hent W5)
         have HW5:=zh hW5
         clear hW5 hy5 ey hent
         cases hd:decodeV ye with
         | none =>
          have HG2:Hid (F i++G (k+1)=F i++G k):=zh (by rw[HGk.out];unfold itemVote;rw[hd];simp)
          rw[hd]at HDE
          clear hd HGk
          go_upto_region 12 with fail
          rw[← HW5.out]
          go_wp2_with (go_at_call 28;refine HDE.out.mono ?_;rintro e w6 ⟨rfl,h6⟩;have HM6:=zh (HM5.out.far (q_next h6 (br0.alloc (Nat.le_refl _) (.cells #[.int .i64 0,.int .i64 0,.int .i64 0,.string ⟨#[]⟩,.string ⟨#[]⟩] 27))));clear h6;unfold castR)
          go_roundw
          case rel =>
           refine⟨k+1,m2,oa2,oc2,by omega,by go_num,rfl,by omega,?_,?_⟩
           ·rw[HG2.out];exact hlen2
           ·rw[HG2.out];exact HM6
          case measure=>simp[intOf];omega
         | some v =>
          rw[hd]at HDE
          obtain⟨vc,vn,vs,vv,vl⟩:=v
          by_cases hvc:vc=pc
          ·have HG2:Hid (F i++G (k+1)=(F i++G k)++[⟨vc,vn,vs,vv,vl⟩]):=zh (by
            rw[HGk.out,List.append_assoc]
            unfold itemVote
            rw[hd]
            simp only[Option.bind_some]
            rw[if_pos hvc]
            rfl)
           clear hd HGk
           replace hvc:=hvc.symm
           subst hvc
           have hdv:(pc == pc)=true:=by simp
           go_upto_region 12 with fail
           rw[← HW5.out]
           go_upto_region 13 with(go_at_call 28;refine HDE.out.mono ?_;rintro e w6 ⟨rfl,h6⟩;have HM6:=zh (HM5.out.far (q_next h6 (br0.alloc (Nat.le_refl _) (.cells #[.int .i64 pc,.int .i64 vn,.int .i64 vs,.string vv,.string vl] 27))));clear h6;unfold castR vagg)
           obtain⟨W7,hW7⟩:∃ W7,W7=w6.alloc (.cells #[.int .i64 pc,.int .i64 vn,.int .i64 vs,.string vv,.string vl] 27):=⟨_,rfl⟩
           obtain⟨v0,v1,v2,v3,v4⟩:=vcellsAt (w:=W7) (b:=w6.heap.size) (by rw[hW7];exact heap_alloc_new w6 _)
           rw[← hW7]at HM6 ⊢
           clear hW7
           go_upto_region 14 with fail
           go_wp2_with (at_builtin;refine wpList_append_vote (.tmp 68) (.tmp 70) W1.heap.size (.slice oa2 m2 oc2) (F i++G k) ⟨pc,vn,vs,vv,vl⟩ W7.heap.size (0,0) (OwnE.alloc HM6.out.2 _) (by rw[hlen2.out];omega) (by have:=HM6.out.1.size;simp;omega) (heap_alloc_new _ _) rfl rfl rfl rfl ?_;intro v9 w9 ho9 hg9;have HM9:=zh (HM6.out.append hg9 ho9);clear hg9;obtain⟨va9,vc9,hv9⟩:=ho9.form;rw[List.length_append,hlen2.out]at hv9;simp only[List.length_cons,List.length_nil,Nat.zero_add]at hv9;clear ho9;subst hv9)
           go_roundw
           case rel =>
            refine⟨k+1,m2+1,va9,vc9,by omega,by go_num,rfl,by omega,?_,?_⟩
            ·rw[HG2.out,List.length_append,hlen2.out];exact zh rfl
            ·rw[HG2.out];exact HM9
           case measure=>simp[intOf];omega
          ·have HG2:Hid (F i++G (k+1)=F i++G k):=zh (by
            rw[HGk.out]
            unfold itemVote
            rw[hd]
            simp only[Option.bind_some]
            rw[if_neg hvc]
            simp)
           clear hd HGk
           have hdv:(vc == pc)=false:=by simp[hvc]
           go_upto_region 12 with fail
           rw[← HW5.out]
           go_upto_region 13 with(go_at_call 28;refine HDE.out.mono ?_;rintro e w6 ⟨rfl,h6⟩;have HM6:=zh (HM5.out.far (q_next h6 (br0.alloc (Nat.le_refl _) (.cells #[.int .i64 vc,.int .i64 vn,.int .i64 vs,.string vv,.string vl] 27))));clear h6;unfold castR vagg)
           obtain⟨W7,hW7⟩:∃ W7,W7=w6.alloc (.cells #[.int .i64 vc,.int .i64 vn,.int .i64 vs,.string vv,.string vl] 27):=⟨_,rfl⟩
           have v0:=cell_of_row W7 w6.heap.size 0 _ _ _ (by rw[hW7];exact heap_alloc_new w6 _)
           rw[← hW7]at HM6 ⊢
           clear hW7
           go_wp2
           go_roundw
           case rel =>
            refine⟨k+1,m2,oa2,oc2,by omega,by go_num,rfl,by omega,?_,?_⟩
            ·rw[HG2.out];exact hlen2
            ·rw[HG2.out];exact HM6
           case measure=>simp[intOf];omega
        ·obtain rfl:k=ni:=by omega
         have HF2:Hid (F (i+1)=F i++G k):=zh (by rw[HFY.out,HGN.out])
         go_wp2
         go_roundw
         case rel =>
          refine⟨i+1,m2,oa2,oc2,by omega,by go_num,rfl,by omega,?_,?_⟩
          ·rw[HF2.out];exact hlen2
          ·rw[HF2.out];exact hM4
         case measure=>simp[intOf];omega
    ·obtain rfl:i=n:=by omega
     have hk4:=cell_of_row wr _ 0 _ _ _ ((hM.out.1.block _ (ltA HH1.out)).trans HH1.out)
     have HB4:=zh (q_next HB1.out hM.out.1)
     have HSO:Hid (Calls Tryz.prog 81 #[.agg #[.slice ka ks.length kc],.slice oa (F i).length oc] wr fun e w'=>∃ v,e=.returned v∧OwnV w' wr.heap.size v (sortedV ks (F i))∧Below wr.heap.size wr w'):=zh (by
      have hv:=OwnV.vs hM.out.2
      rw[← hlen.out]at hv
      exact sorted_any (HR.out.below HB4.out) HKS.out hv (by rw[hlen.out];omega) (HE.out.below HB4.out HG.out) (Nat.lt_of_lt_of_le HG.out HB4.out.size))
     rw[hlen.out,← HKN.out,← HFN.out]at HSO
     clear hM
     go_wp2_with (go_at_call 81;refine HSO.out.mono ?_;rintro e w8 ⟨v,rfl,h8,h9⟩;have H8:=zh h8;have H9:=zh h9;clear h8 h9)
     go_ret
     exact⟨v,rfl,own_less H8.out HB4.out.size,q_next HB4.out H9.out⟩
theorem meet_any {w:World}{kv x:Value}{ks:List ByteArray}{zs:List (PartP × Value)}(hr:SS w kv ks)(hks:∀ k∈ks,k.size≤1000)(hz:PS w x zs)(hok:∀ z:PartP × Value,z∈zs→PartOk z.1)(he:Env w)(hg:3 < w.heap.size) :
  Calls Tryz.prog 48 #[.agg #[kv],x] w (MeetIs w (meetV ks (zs.map (·.1)))) :=
 (meet_own hr hks hz hok he hg).mono fun _ _ ⟨v,h1,h2,h3⟩=>⟨v,h1,OwnV.vs h2,h3⟩
def rtQ:Code→Code
 | .seq _ b=>b
 | c=>c
theorem wp_of_eqM {P:Program}{c L:Code}{Q:Exit→Act→World→Prop}{a:Act}{w:World}(h:c.wp P Q a w)(e:c=L):L.wp P Q a w:=e ▸ h
theorem PS.oneM {w:World}{b:Nat}{z:PartP × Value}{fz:Nat × Nat}(h:w.heap[b]?=some (.cells #[.int .i64 z.1.head.car,.int .i64 z.1.head.siz,.string z.1.head.root,.string z.1.head.sl,z.2] 92 fz))(hp:IT w z.2 z.1.items):PS w (.slice (some ⟨b,0,none⟩) 1 1) [z] :=
 ⟨slice_lit (cs:=ptcells [z]) h (fun c hc=>by simp[ptcells]at hc;subst hc;rfl) rfl (by simp[ptcells]),fun y hy=>by rw[List.mem_singleton.1 hy];exact hp⟩
def rtQM1 (c:Code):Code:=rtQ (rtQ (rtQ (rtQ (rtQ (rtQ (rtQ (rtQ (rtQ (rtQ (rtQ (rtQ (rtQ (rtQ (rtQ (rtQ (rtQ (rtQ (rtQ (rtQ (rtQ (c)))))))))))))))))))))
theorem tailQM1 {c L:Code}(h:∃ a0 a1 a2 a3 a4 a5 a6 a7 a8 a9 a10 a11 a12 a13 a14 a15 a16 a17 a18 a19 a20:Code,Tryz.f10.body=some (a0.seq (a1.seq (a2.seq (a3.seq (a4.seq (a5.seq (a6.seq (a7.seq (a8.seq (a9.seq (a10.seq (a11.seq (a12.seq (a13.seq (a14.seq (a15.seq (a16.seq (a17.seq (a18.seq (a19.seq (a20.seq (c)))))))))))))))))))))))(hL:Tryz.f10.body.map rtQM1=some L:=by rfl):c=L:=by
 obtain⟨a0,a1,a2,a3,a4,a5,a6,a7,a8,a9,a10,a11,a12,a13,a14,a15,a16,a17,a18,a19,a20,e⟩:=h
 rw[e]at hL
 exact Option.some.inj hL
set_option maxHeartbeats 16000000 in
set_option maxRecDepth 100000 in
theorem meets_last {w wb:World}(HBW:Hid (Below w.heap.size w wb))(HEB:Hid (QEnv wb))(bc bp bv m kc who kb ko n:Nat)(ia:Option Addr)(ic:Nat)(siz num stp:Int)(root sl s was val vsl:ByteArray)(x:ItemP)(xs:List ItemP)
  (hm:m=1∨m=4∨m=7) (hwm:who < m) (hsz:siz≤60) (hs1:s.size≤1000) (hs2:was.size≤1000) (hrt:root.size≤1000) (hxl:xs.length≤100) (hpr:x.prf.length≤1000) (hpx:Hid (∀ y∈xs,y.prf.length≤1000∧y.ent.size≤1000000))
  (HK:Hid (SS wb (.slice (some ⟨kb,ko,none⟩) m kc) (madeQ m))) (HCB:Hid (∀ W,Below wb.heap.size wb W→W.cell? ⟨bc,0,none⟩=some (.slice (some ⟨kb,ko,none⟩) m kc)∧W.cell? ⟨kb,ko+who,none⟩=some (.string (keyQ who))))
  (HP:Hid (wb.heap[bp]?=some (.cells #[.int .i64 (who:Int),.int .i64 siz,.string root,.string sl,.slice ia n ic] 92 (0,0)))) (HI:Hid (IT wb (.slice ia n ic) (⟨x.idx,s,x.prf⟩::xs)))
  (HV:Hid (wb.heap[bv]?=some (.cells #[.int .i64 (who:Int),.int .i64 num,.int .i64 stp,.string val,.string vsl] 27 (0,0))))
  (HG:Hid ((⟨(who:Int),num,stp,val,vsl⟩:VoteP)∈meetV (madeQ m) [⟨⟨(who:Int),siz,root,sl⟩,⟨x.idx,s,x.prf⟩::xs⟩]→checkB (keyQ who) ⟨⟨(who:Int),siz,root,sl⟩,⟨x.idx,s,x.prf⟩::xs⟩=true∧verifyB root siz x.idx s x.prf=true∧verifyB root siz x.idx was x.prf=true)) {u0 u1 u2 u3 u4 u5 u6 u7 u8 u9 u10 u11 u12 u13 u14 u15 u17 u18 u19 u20 u21 u22 u23 u24 u25 u26 u27 u28 u29 u30 u31 u32 u33 u34 u35 u36 u42 u43 u44 u45 u46 u47 u48 u49 u50 u51 u52 u53 u54 u55 u56 u57 u58 u59 u60 u61 u62 u63 u64 u65 u66 u67 u68 u69 u70 u71 u72 u73 u74 u75 u76 u77 u78 u79 u80 u81 u82 u83 u84 u85 u86 u87 u88 u89 u90 u91 u92 u93 u94 u95 u96 u97 u98 u99 u100 u101 u102 u103 u104 u105 u106 u107 u108 u109 u110 u111 u112 u113 u114 u115 u116 u117 u118 u119 u120 u121 u122 u123 u124 u125 u126 u127 u128 u129 u130 u131 u132 u133 u134 u135 u136 u137 u138 u139 u140 u141 u142 u143 u144 u145 u146 u147 u148 u149 u150 u151 u152 u153 u154 u155 u156 u157 u158 u159 u160 u161 u162 u163 u164 u165 u166 u167 u168 u169 u170 u171 u172 u173 u174 u175 u176 u177 u178 u179 u180 u181 u182 u183 u184 u185 u186 u187 u188 u189 u190 u191 u192 u193 u194 u195 u196 u197 u198 u199 u200 u201 u202 u203 u204 u205 u206 u207 u208 u209 u210 u211 u212 u213 u214 u215 u216 u217 u218 u219 u220 u221 u222 u223 u224 u225 u226 u227 u228 u229 u230 u231 u232 u233 u234 u235 u236 u237 u238 u239 u240 u241 u242 u243 u244 u245 u246 u247 u248 u249 u250 u251 u252 u253 u254 u255 u256 u257 u258 u259 u260 u261 u262 u263 u264 u265 u266 u267 u268 u269 u270 u271 u272 u273 u274 u275 u276 u277 u278 u279 u280 u281 u282 u283 u284 u285 u286 u287 u288 u289 u290 u291 u292 u293 u294 u295 u296 u297 u298 u299 u300 u301 u302 u303 u304 u305 u306 u307 u308 u309 u310 u311 u312 u313 u314:Value} :
  ∃ c:Code,(∃ a0 a1 a2 a3 a4 a5 a6 a7 a8 a9 a10 a11 a12 a13 a14 a15 a16 a17 a18 a19 a20:Code,Tryz.f10.body=some (a0.seq (a1.seq (a2.seq (a3.seq (a4.seq (a5.seq (a6.seq (a7.seq (a8.seq (a9.seq (a10.seq (a11.seq (a12.seq (a13.seq (a14.seq (a15.seq (a16.seq (a17.seq (a18.seq (a19.seq (a20.seq (c)))))))))))))))))))))))∧c.wp Tryz.prog (bodyPost Tryz.prog Tryz.f10 fun e w'=>e=.returned (.bool true)∧Below w.heap.size w w') { tmps:=#[u0,u1,u2,u3,u4,u5,u6,u7,u8,u9,u10,u11,u12,u13,u14,u15,.pointer (some ⟨bc,0,none⟩),u17,u18,u19,u20,u21,u22,u23,u24,u25,u26,u27,u28,u29,u30,u31,u32,u33,u34,u35,u36,.pointer (some ⟨bp,0,none⟩),.pointer (some ⟨bv,0,none⟩),.string s,.int .i64 0,.string was,u42,u43,u44,u45,u46,u47,u48,u49,u50,u51,u52,u53,u54,u55,u56,u57,u58,u59,u60,u61,u62,u63,u64,u65,u66,u67,u68,u69,u70,u71,u72,u73,u74,u75,u76,u77,u78,u79,u80,u81,u82,u83,u84,u85,u86,u87,u88,u89,u90,u91,u92,u93,u94,u95,u96,u97,u98,u99,u100,u101,u102,u103,u104,u105,u106,u107,u108,u109,u110,u111,u112,u113,u114,u115,u116,u117,u118,u119,u120,u121,u122,u123,u124,u125,u126,u127,u128,u129,u130,u131,u132,u133,u134,u135,u136,u137,u138,u139,u140,u141,u142,u143,u144,u145,u146,u147,u148,u149,u150,u151,u152,u153,u154,u155,u156,u157,u158,u159,u160,u161,u162,u163,u164,u165,u166,u167,u168,u169,u170,u171,u172,u173,u174,u175,u176,u177,u178,u179,u180,u181,u182,u183,u184,u185,u186,u187,u188,u189,u190,u191,u192,u193,u194,u195,u196,u197,u198,u199,u200,u201,u202,u203,u204,u205,u206,u207,u208,u209,u210,u211,u212,u213,u214,u215,u216,u217,u218,u219,u220,u221,u222,u223,u224,u225,u226,u227,u228,u229,u230,u231,u232,u233,u234,u235,u236,u237,u238,u239,u240,u241,u242,u243,u244,u245,u246,u247,u248,u249,u250,u251,u252,u253,u254,u255,u256,u257,u258,u259,u260,u261,u262,u263,u264,u265,u266,u267,u268,u269,u270,u271,u272,u273,u274,u275,u276,u277,u278,u279,u280,u281,u282,u283,u284,u285,u286,u287,u288,u289,u290,u291,u292,u293,u294,u295,u296,u297,u298,u299,u300,u301,u302,u303,u304,u305,u306,u307,u308,u309,u310,u311,u312,u313,u314],defers:=[] } wb:=by
 refine⟨_,⟨_,_,_,_,_,_,_,_,_,_,_,_,_,_,_,_,_,_,_,_,_,rfl⟩,?_⟩
 have hvk:=madeQ_valid hm
 have HC:=zh (fun W (hW:Below wb.heap.size wb W)=>And.intro (HCB.out W hW) (And.intro (pfive ((hW.block bp (ltA HP.out)).trans HP.out)) (vcellsAt ((hW.block bv (ltA HV.out)).trans HV.out))))
 have HIS:=zh (fun W (hW:Below wb.heap.size wb W)=>HI.out.below hW)
 have hpk:PartOk ⟨⟨(who:Int),siz,root,sl⟩,⟨x.idx,s,x.prf⟩::xs⟩:=⟨hrt,by show(xs.length+1)≤10000;omega,fun y hy=>by
  rcases List.mem_cons.1 hy with rfl | hy
  ·exact⟨hpr,by show s.size≤1000000;omega⟩
  ·exact hpx.out y hy⟩
 obtain⟨⟨c0,-⟩,⟨p0,p1,p2,p3,p4⟩,-,-,-,-,-⟩:=HC.out wb br0
 obtain⟨W1,hW1⟩:∃ W1,W1=wb.alloc (.cells #[.int .i64 (who:Int),.int .i64 siz,.string root,.string sl,.slice ia n ic] 92):=⟨_,rfl⟩
 have HB1:Hid (Below wb.heap.size wb W1):=zh (by rw[hW1];exact br0.alloc (Nat.le_refl _) _)
 have hX1:W1.heap[wb.heap.size]?=some (.cells #[.int .i64 (who:Int),.int .i64 siz,.string root,.string sl,.slice ia n ic] 92 (0,0)):=by rw[hW1];exact heap_alloc_new wb _
 have hE1:=HEB.out.step HB1.out
 have HME:=zh (meet_any (HK.out.below HB1.out) (valid_sizes hvk) (PS.oneM (z:=(⟨⟨(who:Int),siz,root,sl⟩,⟨x.idx,s,x.prf⟩::xs⟩,.slice ia n ic)) hX1 (HIS.out W1 HB1.out)) (fun z hz=>by rw[List.mem_singleton.1 hz];exact hpk) hE1.env hE1.round)
 simp only[List.map_cons,List.map_nil]at HME
 have HCK:=zh (fun W (hW:Below wb.heap.size wb W)=>by
  obtain⟨ys,hys,hist⟩:=HIS.out W hW
  have h:=check_any (keyQ who) (who:Int) siz root sl hist.is (by rw[keyQ_size];decide) hrt (by
   have:ys.length=xs.length+1:=by
    have:=congrArg List.length hys
    rw[List.length_map]at this
    exact this
   omega) (fun y hy=>by
   have hm2:y.1∈(⟨x.idx,s,x.prf⟩::xs:List ItemP):=by rw[← hys];exact List.mem_map_of_mem hy
   exact(hpk.2.2 y.1 hm2).1) (HEB.out.step hW).env (HEB.out.step hW).round
  rw[hys]at h
  exact h)
 have HLS:=zh (fun W=>r2leaf_any s W (by omega))
 have HLW:=zh (fun W=>r2leaf_any was W (by omega))
 have HDP:=zh (fun W (hW:Below wb.heap.size wb W) (hne:was≠s) h1 h2=>deep_any (who:Int) siz root sl was s (HIS.out W hW) (by omega) (by omega) hpr (by omega) hne h1 h2)
 obtain⟨A,hA⟩:∃ A,A=meetV (madeQ m) [⟨⟨(who:Int),siz,root,sl⟩,⟨x.idx,s,x.prf⟩::xs⟩]:=⟨_,rfl⟩
 rw[← hA]at HME HG
 have HW1:=zh hW1
 clear hA hW1 hX1 hE1 hpk
 go_upto_block 14 with(rw[← HW1.out];go_at_call 48;(with_reducible refine HME.out.mono ?_);rintro e w2 ⟨vl,rfl,hvl,hb2⟩;have HL:=zh hvl;have HB2:=zh (q_next HB1.out hb2);obtain⟨la,lc,rfl,hll,hlm,hl3⟩:=hvl.opened;have HL3:=zh hl3;have HLM:=zh hlm;clear hvl hb2 hl3 hlm hll)
 obtain⟨N,hN⟩:∃ N,N=A.length:=⟨_,rfl⟩
 rw[← hN]
 have HN:=zh hN
 have hN9:N≤9223372036854775807:=by
  have h1:=HLM.out
  obtain⟨_,_,e,h2,h3,_⟩:=HL.out.opened
  unfold maxLen at h3
  rw[hN]
  omega
 clear hN c0 p0 p1 p2 p3 p4 HME HW1 HLM
 go_wp2
 go_loopw [284] (fun i wr=>∃ k:Nat,k≤N∧i=.int .i64 k∧Hid (Below w2.heap.size w2 wr)) (fun i _=>N - (intOf i).toNat)
 case atStart=>exact⟨0,by omega,rfl,zh br0⟩
 case round =>
  obtain⟨k,hk,rfl,hB⟩:=hrel
  by_cases hlt:k < N
  ·have tk:(k:Int) < (N:Int):=by omega
   have tk0:(0:Int)≤(k:Int):=by omega
   obtain⟨u,eu⟩:∃ u,A[k]?=some u:=⟨_,List.getElem?_eq_getElem (by rw[← HN.out];exact hlt)⟩
   obtain⟨ub,uo,rfl,hub,hua⟩:=HL3.out k u eu
   have HMU:=zh (List.mem_of_getElem? eu)
   obtain⟨e0,e1,e2,e3,e4⟩:=hua.keep hB.out hub
   have HEQ:=zh (fun W=>eqlVote u ⟨(who:Int),num,stp,val,vsl⟩ W)
   obtain⟨eq,heq⟩:∃ eq,eq=decide (u=⟨(who:Int),num,stp,val,vsl⟩):=⟨_,rfl⟩
   rw[← heq]at HEQ
   have HEE:=zh heq
   obtain⟨ucar,unum,ustp,uv,ul⟩:=u
   simp only[vagg]at HEQ
   simp only at e0 e1 e2 e3 e4
   clear eu hua heq
   have HB4:=zh (q_next HB2.out hB.out)
   go_upto_region 65 with fail
   obtain⟨W5,hW5⟩:∃ W5,W5=wr.alloc (.cells #[.int .i64 ucar,.int .i64 unum,.int .i64 ustp,.string uv,.string ul] 27):=⟨_,rfl⟩
   have HS5:Hid (Below wr.heap.size wr W5):=zh (by rw[hW5];exact br0.alloc (Nat.le_refl _) _)
   have hX5:W5.heap[wr.heap.size]?=some (.cells #[.int .i64 ucar,.int .i64 unum,.int .i64 ustp,.string uv,.string ul] 27 (0,0)):=by rw[hW5];exact heap_alloc_new wr _
   have HB5:=zh (q_next HB4.out HS5.out)
   rw[← hW5]
   clear hW5 e0 e1 e2 e3 e4
   obtain⟨e0,e1,e2,e3,e4⟩:=vcellsAt hX5
   obtain⟨-,-,v0,v1,v2,v3,v4⟩:=HC.out W5 HB5.out
   have hel:=HEQ.out
   clear hX5
   cases eq with
   | false =>
    go_wp2
    go_roundw
    case rel=>exact⟨k+1,by omega,by go_num,zh (q_next hB.out HS5.out)⟩
    case measure=>simp[intOf];omega
   | true =>
    have hu:(⟨ucar,unum,ustp,uv,ul⟩:VoteP)=⟨(who:Int),num,stp,val,vsl⟩:=of_decide_eq_true HEE.out.symm
    obtain⟨hck,hv1,hv2⟩:=HG.out (hu ▸ HMU.out)
    rw[hck]at HCK
    have HD2:=zh (fun W (hW:Below wb.heap.size wb W) (hne:was≠s)=>HDP.out W hW hne hv2 hv1)
    have hss:=same_str (leafS s) (leafS was)
    obtain⟨le,hle⟩:∃ le,le=decide (leafS s=leafS was):=⟨_,rfl⟩
    rw[← hle]at hss
    have HNE:Hid (le=false→was≠s):=zh (fun h e=>by rw[hle,e]at h;simp at h)
    have tw0:(0:Int)≤(who:Int):=by omega
    have twm:(who:Int) < (m:Int):=by omega
    generalize leafS s=ls1 at *
    generalize leafS was=ls2 at *
    clear hu hck hv1 hv2 hle HDP HEE HMU HG
    go_upto_region 66 with fail
    clear e0 e1 e2 e3 e4 v0 v1 v2 v3 v4 hel HEQ
    cases le with
    | true =>
     refine wp_region_noPanic ?_
     refine wp_region_lexB [.q 0,.q 1,.q 2,.q 3,.q 4,.q 5,.q 6,.b 7,.q 8,.q 9,.q 11,.b 10,.b 12,.q 13,.q 14,.q 15,.q 16,.q 17,.q 18,.q 19,.q 20,.q 21] (by kernel_rfl) (by kernel_rfl) (fun _ _ _ _ h=>h) ?_
     iterate 7(refine wpFl_qL (v:=?_) rfl (Or.inl ⟨by rfl,?_⟩) ?_;rotate_left;(focus(intro w' hSw;obtain⟨⟨c0,k0⟩,⟨p0,p1,p2,p3,p4⟩,v0,v1,v2,v3,v4⟩:=HC.out w' (q_next HB5.out hSw);go_simp;(try with_reducible rfl);done));simp only[Act.put,zzA,zzB,zzC])
     refine wpFl_bL rfl (fun waa hnaa hsaa K hK=>?_)
     go_simp
     go_at_call 51
     (with_reducible refine(HCK.out _ (q_next HB5.out hsaa)).mono ?_)
     rintro e wba ⟨rfl,hba⟩
     refine hK.out _ _ (q_next hsaa hba) (Keeps.below hba) ?_
     clear hK K hnaa hsaa
     iterate 3(refine wpFl_qL (v:=?_) rfl (Or.inl ⟨by rfl,?_⟩) ?_;rotate_left;(focus(intro w' hSw;go_simp;(try with_reducible rfl);done));simp only[Act.put,zzA,zzB,zzC])
     refine wpFl_bL rfl (fun wab hnab hsab K hK=>?_)
     go_simp
     go_at_call 42
     (with_reducible refine(HLS.out _).mono ?_)
     rintro e wbb ⟨rfl,hbb⟩
     refine hK.out _ _ (q_next hsab hbb) (Keeps.below hbb) ?_
     clear hK K hnab hsab
     refine wpFl_bL rfl (fun wac hnac hsac K hK=>?_)
     go_simp
     go_at_call 42
     (with_reducible refine(HLW.out _).mono ?_)
     rintro e wbc ⟨rfl,hbc⟩
     have HBF:=zh (q_next HB5.out (q_next hsac hbc))
     refine hK.out _ _ (q_next hsac hbc) (Keeps.below hbc) ?_
     clear hK K hnac hsac
     iterate 3(refine wpFl_qL (v:=?_) rfl (Or.inl ⟨by rfl,?_⟩) ?_;rotate_left;(focus(intro w' hSw;go_simp;(try with_reducible rfl);done));simp only[Act.put,zzA,zzB,zzC])
     iterate 4(refine wpFl_qL (v:=undef) rfl (Or.inr ⟨by rfl,rfl⟩) ?_;simp only[Act.put,zzA,zzB,zzC])
     iterate 2(refine wpFl_qL (v:=?_) rfl (Or.inl ⟨by rfl,?_⟩) ?_;rotate_left;(focus(intro w' hSw;go_simp;(try with_reducible rfl);done));simp only[Act.put,zzA,zzB,zzC])
     refine wpFl_nil ?_
     refine NoPanic.normal ?_
     go_wp2
     go_ret
     exact⟨rfl,HBW.out.trans (HBF.out.mono HBW.out.size)⟩
    | false =>
     refine wp_region_noPanic ?_
     refine wp_region_lexB [.q 0,.q 1,.q 2,.q 3,.q 4,.q 5,.q 6,.b 7,.q 8,.q 9,.q 11,.b 10,.b 12,.q 13,.q 14,.q 15,.q 16,.q 17,.q 18,.b 19,.q 20,.q 21] (by kernel_rfl) (by kernel_rfl) (fun _ _ _ _ h=>h) ?_
     iterate 7(refine wpFl_qL (v:=?_) rfl (Or.inl ⟨by rfl,?_⟩) ?_;rotate_left;(focus(intro w' hSw;obtain⟨⟨c0,k0⟩,⟨p0,p1,p2,p3,p4⟩,v0,v1,v2,v3,v4⟩:=HC.out w' (q_next HB5.out hSw);go_simp;(try with_reducible rfl);done));simp only[Act.put,zzA,zzB,zzC])
     refine wpFl_bL rfl (fun waa hnaa hsaa K hK=>?_)
     go_simp
     go_at_call 51
     (with_reducible refine(HCK.out _ (q_next HB5.out hsaa)).mono ?_)
     rintro e wba ⟨rfl,hba⟩
     refine hK.out _ _ (q_next hsaa hba) (Keeps.below hba) ?_
     clear hK K hnaa hsaa
     iterate 3(refine wpFl_qL (v:=?_) rfl (Or.inl ⟨by rfl,?_⟩) ?_;rotate_left;(focus(intro w' hSw;go_simp;(try with_reducible rfl);done));simp only[Act.put,zzA,zzB,zzC])
     refine wpFl_bL rfl (fun wab hnab hsab K hK=>?_)
     go_simp
     go_at_call 42
     (with_reducible refine(HLS.out _).mono ?_)
     rintro e wbb ⟨rfl,hbb⟩
     refine hK.out _ _ (q_next hsab hbb) (Keeps.below hbb) ?_
     clear hK K hnab hsab
     refine wpFl_bL rfl (fun wac hnac hsac K hK=>?_)
     go_simp
     go_at_call 42
     (with_reducible refine(HLW.out _).mono ?_)
     rintro e wbc ⟨rfl,hbc⟩
     refine hK.out _ _ (q_next hsac hbc) (Keeps.below hbc) ?_
     clear hK K hnac hsac
     iterate 6(refine wpFl_qL (v:=?_) rfl (Or.inl ⟨by rfl,?_⟩) ?_;rotate_left;(focus(intro w' hSw;obtain⟨⟨c0,k0⟩,⟨p0,p1,p2,p3,p4⟩,v0,v1,v2,v3,v4⟩:=HC.out w' (q_next HB5.out hSw);go_simp;(try with_reducible rfl);done));simp only[Act.put,zzA,zzB,zzC])
     refine wpFl_bL rfl (fun wad hnad hsad K hK=>?_)
     go_simp
     go_at_call 52
     (with_reducible refine(HD2.out _ (q_next HB5.out hsad) (HNE.out rfl)).mono ?_)
     rintro e wbd ⟨rfl,hbd⟩
     have HBF:=zh (q_next HB5.out (q_next hsad hbd))
     refine hK.out _ _ (q_next hsad hbd) (Keeps.below hbd) ?_
     clear hK K hnad hsad
     iterate 2(refine wpFl_qL (v:=?_) rfl (Or.inl ⟨by rfl,?_⟩) ?_;rotate_left;(focus(intro w' hSw;go_simp;(try with_reducible rfl);done));simp only[Act.put,zzA,zzB,zzC])
     refine wpFl_nil ?_
     refine NoPanic.normal ?_
     go_wp2
     go_ret
     exact⟨rfl,HBW.out.trans (HBF.out.mono HBW.out.size)⟩
  ·obtain rfl:k=N:=by omega
   have tk:¬ (k:Int) < (k:Int):=by omega
   go_wp2
   go_ret
   exact⟨rfl,HBW.out.trans ((q_next HB2.out hB.out).mono HBW.out.size)⟩
def castL (i:Nat)(num stp:Int)(val:ByteArray):VoteP:=(castV (keyQ i) (i:Int) num stp val []).getD ⟨0,0,0,⟨#[]⟩,⟨#[]⟩⟩
theorem castR_is (o:Option VoteP):∃ c,castR o=.tuple #[vagg (o.getD ⟨0,0,0,⟨#[]⟩,⟨#[]⟩⟩),.int .i64 c]:=by
 cases o with
 | none=>exact⟨190,rfl⟩
 | some v=>exact⟨0,rfl⟩
set_option maxHeartbeats 4000000 in
set_option maxRecDepth 100000 in
theorem castL_any (i:Nat)(hi:i < 256)(num stp:Int)(val:ByteArray)(w:World)(he:Env w)(hg:3 < w.heap.size) :
  Calls Tryz.prog 43 #[.int .i64 i,.agg #[.int .i64 num,.int .i64 stp],.string val] w fun e w'=>e=.returned (vagg (castL i num stp val))∧Below w.heap.size w w':=by
 obtain⟨W1,hW1⟩:∃ W1,W1=(w.alloc (.cells #[.int .i64 num,.int .i64 stp] 25)).alloc (.cells #[.int .i64 0,.int .i64 0,.int .i64 0,.string ⟨#[]⟩,.string ⟨#[]⟩] 27):=⟨_,rfl⟩
 have HB1:Hid (Below w.heap.size w W1):=zh (by rw[hW1];exact(br0.alloc (Nat.le_refl _) _).alloc (by simp) _)
 have hs1:w.heap.size+1 < W1.heap.size:=by rw[hW1];simp
 have HH0:Hid (W1.heap[w.heap.size]?=some (.cells #[.int .i64 num,.int .i64 stp] 25 (0,0))):=zh (by rw[hW1];exact at_past w _ _)
 have HH1:Hid (W1.heap[w.heap.size+1]?=some (.cells #[.int .i64 0,.int .i64 0,.int .i64 0,.string ⟨#[]⟩,.string ⟨#[]⟩] 27 (0,0))):=zh (by rw[hW1];exact at_second w _ _)
 have HCL:Hid (∀ W,Below W1.heap.size W1 W→W.cell? ⟨w.heap.size,0,none⟩=some (.int .i64 num)∧W.cell? ⟨w.heap.size,1,none⟩=some (.int .i64 stp)):=zh fun W hW =>
  ⟨cell_of_row W _ 0 _ _ _ ((hW.block _ (by omega)).trans HH0.out),cell_of_row W _ 1 _ _ _ ((hW.block _ (by omega)).trans HH0.out)⟩
 obtain⟨code,hcode⟩:=castR_is (castV (keyQ i) (i:Int) num stp val [])
 have HK:Hid (∀ W,Calls Tryz.prog 25 #[.int .i64 i] W fun e w'=>e=.returned (.string (keyQ i))∧Below W.heap.size W w'):=zh fun W=>keyQ_any i hi W
 have HC:Hid (∀ W,Below W1.heap.size W1 W→Calls Tryz.prog 23 #[.string (keyQ i),.int .i64 i,.slice none 0 0,.agg #[.int .i64 num,.int .i64 stp],.string val] W fun e w'=>e=.returned (.tuple #[vagg (castL i num stp val),.int .i64 code])∧Below W.heap.size W w'):=zh fun W hW=>by
  have hBW:=HB1.out.trans (hW.mono HB1.out.size)
  have h:=cast_any (keyQ i) i num stp val (VS.nil W) (by rw[keyQ_size];decide) (he.below hBW hg) (Nat.lt_of_lt_of_le hg hBW.size)
  rw[hcode]at h
  exact h
 have HW1:=zh hW1
 generalize castL i num stp val=v at *
 generalize keyQ i=key at *
 clear hW1 hcode he hg
 obtain⟨vc,vn,vs,vv,vl⟩:=v
 unfold vagg at HC ⊢
 simp only at HC ⊢
 go_enter Tryz.func43,Tryz.ntmps43
 go_upto_region 1 with fail
 rw[← HW1.out]
 refine wp_region_noPanic ?_
 refine wp_region_lexB [.q 0,.q 2,.q 3,.q 4,.an 9,.b 1,.b 5,.q 6,.q 7,.q 8,.co 9,.b 10,.q 11] (by kernel_rfl) (by kernel_rfl) (fun _ _ _ _ h=>h) ?_
 iterate 4(refine wpFl_qL (v:=?_) rfl (Or.inl ⟨by rfl,?_⟩) ?_;rotate_left;(focus(intro w' hSw;obtain⟨s0,s1⟩:=HCL.out w' hSw;go_simp;(try with_reducible rfl);done));simp only[Act.put,zzA,zzB,zzC])
 refine wpFl_anL rfl (.cells #[.int .i64 0,.int .i64 0,.int .i64 0,.string ⟨#[]⟩,.string ⟨#[]⟩] 27 (0,0)) (fun n=>.pointer (some ⟨n,0,none⟩)) ⟨by rfl,fun w'=>?_⟩ ?_
 focus(go_simp;done)
 refine wpFl_bL rfl (fun wa hna hsa K hK=>?_)
 go_simp
 go_at_call 25
 refine(HK.out wa).mono ?_
 rintro e wb ⟨rfl,hb⟩
 refine hK.out _ _ (q_next hsa hb) (Keeps.below hb) ?_
 clear hK K hna hsa hb
 refine wpFl_bL rfl (fun wc hnc hsc K hK=>?_)
 go_simp
 go_at_call 23
 refine(HC.out wc hsc).mono ?_
 rintro e wd ⟨rfl,hb⟩
 refine hK.out _ _ (q_next hsc hb) (Keeps.below hb) ?_
 clear hK K hnc hsc hb
 iterate 3(refine wpFl_qL (v:=?_) rfl (Or.inl ⟨by rfl,?_⟩) ?_;rotate_left;(focus(intro w' hSw;go_simp;(try with_reducible rfl);done));simp only[Act.put,zzA,zzB,zzC])
 refine wpFl_coL rfl (.cells #[.int .i64 0,.int .i64 0,.int .i64 0,.string ⟨#[]⟩,.string ⟨#[]⟩] 27 (0,0)) (fun n=>.pointer (some ⟨n,0,none⟩)) (by rfl) (N':=[]) (by rfl) (fun bv we hn_we hs_we hb_bv hz_bv=>?_)
 simp only[Act.put,zzA,zzB,zzC]
 refine wpFl_bL rfl (fun wf hnf hsf K hK=>?_)
 have HZ:=zh ((hnf.block bv (ltA hz_bv)).trans hz_bv)
 obtain⟨z0,z1,z2,z3,z4⟩:=vcellsAt HZ.out
 have zf:∀ j,wf.frozen? ⟨bv,j,none⟩=false:=fun j=>by unfold World.frozen?;rw[HZ.out];simp
 go_simp
 refine hK.out _ _ (vfive_below hsf hb_bv _ _ _ _ _) Keeps.nil ?_
 clear hK K
 have HV:=zh (vfive_heap HZ.out (.int .i64 vc) (.int .i64 vn) (.int .i64 vs) (.string vv) (.string vl))
 have HB9:=zh (vfive_below hsf hb_bv (.int .i64 vc) (.int .i64 vn) (.int .i64 vs) (.string vv) (.string vl))
 generalize (((((wf.setCell ⟨bv,0,none⟩ (.int .i64 vc)).setCell ⟨bv,1,none⟩ (.int .i64 vn)).setCell ⟨bv,2,none⟩ (.int .i64 vs)).setCell ⟨bv,3,none⟩ (.string vv)).setCell ⟨bv,4,none⟩ (.string vl))=wg at *
 clear z0 z1 z2 z3 z4 zf HZ hnf hsf hb_bv hz_bv hn_we hs_we
 refine wpFl_qL (v:=?_) rfl (Or.inl ⟨by rfl,?_⟩) ?_
 rotate_left
 focus(intro w' hSw;go_simp;(try with_reducible rfl);done)
 simp only[Act.put,zzA,zzB,zzC]
 refine wpFl_nil ?_
 refine NoPanic.normal ?_
 have HR:=zh ((HB9.out.block (w.heap.size+1) hs1).trans HH1.out)
 obtain⟨z0,z1,z2,z3,z4⟩:=vcellsAt HR.out
 obtain⟨v0,v1,v2,v3,v4⟩:=vcellsAt HV.out
 have zf:∀ j,wg.frozen? ⟨w.heap.size+1,j,none⟩=false:=fun j=>by unfold World.frozen?;rw[HR.out];simp
 have HBw:=zh (HB1.out.trans (HB9.out.mono HB1.out.size))
 go_wp2
 exact bodyPost_ret (results_cell_row rfl _ _ (w.heap.size+1) 27 #[.int .i64 vc,.int .i64 vn,.int .i64 vs,.string vv,.string vl] (0,0) _ rfl (vfive_heap HR.out _ _ _ _ _) Tryz.underlying27 rfl infoVote) rfl ⟨rfl,vfive_below HBw.out (by omega) _ _ _ _ _⟩
theorem castL_mk {n i:Nat}(hi:i < n)(hn:n≤7){num stp:Int}(h1:0≤num∧num≤99999999)(h2:0≤stp∧stp≤1000){val:ByteArray}(hv:val.size=32):castL i num stp val=mkV (madeQ n) num stp val i:=by
 have e:(madeQ n).getD i ⟨#[]⟩=keyQ i:=madeQ_get hi
 unfold castL
 rw[castV_yes (key:=keyQ i) (car:=(i:Int)) (num:=num) (stp:=stp) (val:=val) (hist:=[]) (decide_eq_true ⟨⟨by show(0:Int)≤(i:Int);omega,by show(i:Int)≤7;omega⟩,h1,h2,hv,keyQ_size i⟩) rfl]
 unfold mkV
 rw[e]
 rfl
/-! ### QuorumGrows -/
end Go.Proofs.YtggdcnjaofflbaaGreatDoor
