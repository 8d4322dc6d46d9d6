/- Walks of the reference: sorted. The conditions: lengths. -/
import Derived.Test.YtggdcnjaofflbaaGreatDoorMM24
namespace Go.Proofs.YtggdcnjaofflbaaGreatDoor
open Go.RowKit Go.BigFrame
theorem vcells_onesR (l:List VoteP):∀ c∈l.map vcells,c.length=5:=vcells_len l
theorem vcells_oneR (l:List VoteP):∀ c∈l.map vcells,∀ u∈c,u.oneCell'=true:=fun c hc u hu=>by
 obtain⟨y,_,rfl⟩:=List.mem_map.1 hc
 simp only[vcells,List.mem_cons,List.not_mem_nil,or_false]at hu
 rcases hu with rfl | rfl | rfl | rfl | rfl <;> rfl
theorem one_voteR {w:World}{b:Nat}{v:VoteP}(h:w.heap[b]?=some (.cells #[.int .i64 v.car,.int .i64 v.num,.int .i64 v.stp,.string v.val,.string v.sl] 27 (0,0))):SliceAt w (.slice (some ⟨b,0,none⟩) 1 1) 5 [vcells v]:=by
 refine⟨_,1,rfl,Nat.le_refl _,by decide,.inr ⟨b,0,rfl,(ltA h),fun i c hi j u hj=>?_⟩⟩
 match i,hi with
 | 0,hi =>
  cases hi
  rw[Nat.zero_mul,Nat.zero_add,cell_of_row w b j _ _ _ h,List.getElem?_toArray]
  exact hj
set_option maxHeartbeats 8000000 in
set_option maxRecDepth 100000 in
theorem rsorted_any {w:World}{kv x:Value}{ks:List ByteArray}{l:List VoteP}(hr:SS w kv ks)(hks:∀ k∈ks,k.size≤1000)(hx:VS w x l)(hl:l.length≤50000) :
  Calls Tryz.prog 93 #[.agg #[kv],x] w fun e w'=>∃ v,e=.returned v∧VS w' v (sortedG ks l)∧Below w.heap.size w w':=by
 obtain⟨ka,kc,rfl,hkl,hkm,hk3⟩:=hr.opened
 obtain⟨la,lc,rfl,hll,hlm,hl3⟩:=hx.opened
 have HL3:=zh hl3
 have HR:=zh hr
 have HKZ:=zh hks
 obtain⟨N,hN⟩:∃ N,N=l.length:=⟨_,rfl⟩
 rw[← hN]at hl ⊢
 have HN:=zh hN
 obtain⟨W1,hW1⟩:∃ W1,W1=w.alloc (.cells #[.slice ka ks.length kc] 31):=⟨_,rfl⟩
 have HB1:Hid (Below w.heap.size w W1):=zh (by rw[hW1];exact br0.alloc (Nat.le_refl _) _)
 have HX1:Hid (W1.heap[w.heap.size]?=some (.cells #[.slice ka ks.length kc] 31 (0,0))):=zh (by rw[hW1];exact heap_alloc_new w _)
 have HC1:=zh (fun W (hW:Below W1.heap.size W1 W)=>cell_of_row W _ 0 _ _ _ ((hW.block _ (ltA HX1.out)).trans HX1.out))
 have HW1:=zh hW1
 have HS0:Hid (VS W1 (.slice none 0 0) (sortedG ks (l.take 0))):=zh (VS.nil _)
 clear hW1 hN hkl hkm hk3 hll hlm hl3 hr hks hx
 go_enter Tryz.func93,Tryz.ntmps93
 go_upto_region 1 with fail
 rw[← HW1.out]
 go_wp2
 go_loopw [5,6] (fun v i wr=>∃(k:Nat) (v':Value),k≤N∧v=v'∧i=.int .i64 k∧Hid (VS wr v' (sortedG ks (l.take k)))∧Hid (v'=.slice none 0 0∨∃ g n c,v'=.slice (some ⟨g,0,none⟩) n c)∧Hid (Below W1.heap.size W1 wr)) (fun _ i _=>N - (intOf i).toNat)
 case atStart=>exact⟨0,_,by omega,rfl,rfl,HS0,zh (.inl rfl),zh br0⟩
 case round =>
  clear HS0
  obtain⟨k,v',hk,rfl,rfl,hS,hFO,hB⟩:=hrel
  by_cases hlt:k < N
  ·have tk:(k:Int) < (N:Int):=by omega
   have tk0:(0:Int)≤(k:Int):=by omega
   obtain⟨v,ev⟩:∃ v,l[k]?=some v:=⟨_,List.getElem?_eq_getElem (by rw[← HN.out];exact hlt)⟩
   obtain⟨lb,lo,rfl,hlb,hlv⟩:=HL3.out k v ev
   have HSN:=zh (sortedG_snoc (ks:=ks) ev)
   have hLl:(sortedG ks (l.take k)).length≤50000:=by
    have h1:=sortedG_len ks (l.take k)
    have h2:=List.length_take_le k l
    omega
   obtain⟨L,hL⟩:∃ L,L=sortedG ks (l.take k):=⟨_,rfl⟩
   rw[← hL]at hS HSN hLl
   have HV:=zh (fun W (hW:Below wr.heap.size wr W)=>hlv.keep (q_next HB1.out (q_next hB.out hW)) hlb)
   have HC:=zh (fun W (hW:Below wr.heap.size wr W)=>And.intro (HC1.out W (q_next hB.out hW)) (HV.out W hW))
   have HGN:=zh (fun W (hW:Below wr.heap.size wr W)=>rgen19_any (HR.out.below (q_next HB1.out (q_next hB.out hW))) HKZ.out v)
   obtain⟨g,hg⟩:∃ g,g=genuineV ks v:=⟨_,rfl⟩
   rw[← hg]at HGN HSN
   have HBE:=zh (fun a=>rbefore_any a v)
   have HNE:=zh (fun a W=>neqVote a v W)
   obtain⟨oa,oc,rfl,hol,hom,ho3⟩:=hS.out.opened
   have HO3:=zh ho3
   have HVV:=zh (show VS wr (.slice oa L.length oc) L from hS.out)
   obtain⟨n,hn⟩:∃ n,n=L.length:=⟨_,rfl⟩
   rw[← hn]at hLl HVV hFO hol ⊢
   have HNL:=zh hn
   obtain⟨vcar,vnum,vstp,vv,vl⟩:=v
   simp only[vagg]at HGN HBE
   clear ev hlv hL hg ho3 hS hn
   unfold maxLen at hom
   go_upto_region 5 with fail
   refine wp_region_noPanic ?_
   refine wp_region_lexB [.q 0,.q 1,.q 2,.q 3,.q 4,.b 5,.q 6] (by kernel_rfl) (by kernel_rfl) (fun _ _ _ _ h=>h) ?_
   iterate 5(refine wpFl_qL (v:=?_) rfl (Or.inl ⟨by rfl,?_⟩) ?_;rotate_left;(focus(intro w' hSw;obtain⟨c0,v0,v1,v2,v3,v4⟩:=HC.out w' hSw;go_simp;(try with_reducible rfl);done));simp only[Act.put,zzA,zzB,zzC])
   refine wpFl_bL rfl (fun waa hnaa hsaa K hK=>?_)
   go_simp
   go_at_call 22
   (with_reducible refine(HGN.out _ hsaa).mono ?_)
   rintro e wba ⟨rfl,hba⟩
   have HBF:=zh (q_next hsaa hba)
   refine hK.out _ _ (q_next hsaa hba) (Keeps.below hba) ?_
   clear hK K hnaa hsaa
   refine wpFl_qL (v:=?_) rfl (Or.inl ⟨by rfl,?_⟩) ?_
   rotate_left
   focus(intro w' hSw;go_simp;(try with_reducible rfl);done)
   simp only[Act.put,zzA,zzB,zzC]
   refine wpFl_nil ?_
   refine NoPanic.normal ?_
   cases g with
   | false =>
    go_wp2
    go_roundw
    case rel=>exact⟨k+1,_,by omega,rfl,by go_num,zh (by rw[HSN.out,if_neg (by decide)];exact HVV.out.below HBF.out),hFO,zh (q_next hB.out HBF.out)⟩
    case measure=>simp[intOf];omega
   | true =>
    have HBg:=zh (q_next hB.out HBF.out)
    have HVb:=zh (HVV.out.below HBF.out)
    obtain⟨hvb1,hcell⟩:True∧True:=⟨trivial,trivial⟩
    clear hvb1 hcell HC HGN
    have HI0:Hid (∀(m:Nat) a,m < 0→L[m]?=some a→ltV a ⟨vcar,vnum,vstp,vv,vl⟩):=zh (fun m a h=>by omega)
    go_upto_block 2 with fail
    go_cut [7] (fun i wx=>∃ j:Nat,j≤n∧i=.int .i64 j∧Hid (∀(m:Nat) a,m < j→L[m]?=some a→ltV a ⟨vcar,vnum,vstp,vv,vl⟩)∧Hid (∀ a,L[j]?=some a→¬ ltV a ⟨vcar,vnum,vstp,vv,vl⟩)∧Hid (Below wr.heap.size wr wx))
    case first =>
     go_wp2
     go_loopw [7] (fun i wq=>∃ j:Nat,j≤n∧i=.int .i64 j∧Hid (∀(m:Nat) a,m < j→L[m]?=some a→ltV a ⟨vcar,vnum,vstp,vv,vl⟩)∧Hid (Below wr.heap.size wr wq)) (fun i _=>n - (intOf i).toNat)
     case atStart=>exact⟨0,by omega,rfl,HI0,HBF⟩
     case round =>
      clear HI0
      obtain⟨j,hj,rfl,hI,hB2⟩:=hrel
      by_cases hltj:j < n
      ·have tj:(j:Int) < (n:Int):=by omega
       have tj0:(0:Int)≤(j:Int):=by omega
       obtain⟨u,eu⟩:∃ u,L[j]?=some u:=⟨_,List.getElem?_eq_getElem (by rw[← HNL.out];exact hltj)⟩
       obtain⟨ob,oo,rfl,hob,hou⟩:=HO3.out j u eu
       have HC7:=zh (fun W (hW:Below wr.heap.size wr W)=>And.intro (hou.keep (q_next hB2.out hW) hob) (HV.out W (q_next hB2.out hW)))
       have HBU:=zh (fun W=>HBE.out u W)
       have HEU:=zh eu
       obtain⟨b,hb⟩:∃ b,b=decide (ltV u ⟨vcar,vnum,vstp,vv,vl⟩):=⟨_,rfl⟩
       rw[← hb]at HBU
       have HLT:=zh hb
       obtain⟨ucar,unum,ustp,uv,ul⟩:=u
       simp only at HBU
       clear eu hou hb
       go_upto_region 7 with fail
       refine wp_region_noPanic ?_
       refine wp_region_lexB [.q 0,.q 1,.q 2,.q 3,.q 4,.q 5,.q 6,.q 7,.q 8,.q 9,.q 10,.q 11,.q 12,.b 13,.q 14] (by kernel_rfl) (by kernel_rfl) (fun _ _ _ _ h=>h) ?_
       iterate 13(refine wpFl_qL (v:=?_) rfl (Or.inl ⟨by rfl,?_⟩) ?_;rotate_left;(focus(intro w' hSw;obtain⟨⟨o0,o1,o2,o3,o4⟩,v0,v1,v2,v3,v4⟩:=HC7.out w' hSw;go_simp;(try with_reducible rfl);done));simp only[Act.put,zzA,zzB,zzC])
       refine wpFl_bL rfl (fun wac hnac hsac K hK=>?_)
       go_simp
       go_at_call 131
       (with_reducible refine(HBU.out _).mono ?_)
       rintro e wbc ⟨rfl,hbc⟩
       have HBG:=zh (q_next hB2.out (q_next hsac hbc))
       refine hK.out _ _ (q_next hsac hbc) (Keeps.below hbc) ?_
       clear hK K hnac hsac
       refine wpFl_qL (v:=?_) rfl (Or.inl ⟨by rfl,?_⟩) ?_
       rotate_left
       focus(intro w' hSw;go_simp;(try with_reducible rfl);done)
       simp only[Act.put,zzA,zzB,zzC]
       refine wpFl_nil ?_
       refine NoPanic.normal ?_
       cases b with
       | true =>
        go_wp2
        go_roundw
        case rel=>exact⟨j+1,by omega,by go_num,zh (fun m a hm ha=>by
         rcases Nat.lt_or_ge m j with h | h
         ·exact hI.out m a h ha
         ·obtain rfl:m=j:=by omega
          rw[HEU.out]at ha
          cases ha
          exact of_decide_eq_true HLT.out.symm),HBG⟩
        case measure=>simp[intOf];omega
       | false =>
        go_wp2
        go_meet
        case rel=>exact⟨j,by omega,rfl,hI,zh (fun a ha=>by
         rw[HEU.out]at ha
         cases ha
         exact of_decide_eq_false HLT.out.symm),HBG⟩
      ·obtain rfl:j=n:=by omega
       have tj:¬ (j:Int) < (j:Int):=by omega
       go_upto_region 7 with fail
       refine wp_region_noPanic ?_
       refine wp_region_lexB [.q 0,.q 1,.q 2,.q 3,.q 4,.q 5,.q 6,.q 7,.q 8,.q 9,.q 10,.q 11,.q 12,.q 13,.q 14] (by kernel_rfl) (by kernel_rfl) (fun _ _ _ _ h=>h) ?_
       iterate 5(refine wpFl_qL (v:=?_) rfl (Or.inl ⟨by rfl,?_⟩) ?_;rotate_left;(focus(intro w' hSw;go_simp;(try with_reducible rfl);done));simp only[Act.put,zzA,zzB,zzC])
       iterate 9(refine wpFl_qL (v:=undef) rfl (Or.inr ⟨by rfl,rfl⟩) ?_;simp only[Act.put,zzA,zzB,zzC])
       refine wpFl_qL (v:=?_) rfl (Or.inl ⟨by rfl,?_⟩) ?_
       rotate_left
       focus(intro w' hSw;go_simp;(try with_reducible rfl);done)
       simp only[Act.put,zzA,zzB,zzC]
       refine wpFl_nil ?_
       refine NoPanic.normal ?_
       go_wp2
       go_meet
       case rel=>exact⟨j,by omega,rfl,hI,zh (fun a ha=>by rw[List.getElem?_eq_none (by rw[← HNL.out];exact Nat.le_refl _)]at ha;cases ha),zh (Below.drew hB2.out)⟩
    case rest =>
    obtain⟨j,hj,rfl,hI,hE,hB2⟩:=hcut
    rename_i hKK
    refine hKK _ _ ?_
    have HIV:=zh (insV_pos ⟨vcar,vnum,vstp,vv,vl⟩ L j (by rw[← HNL.out];exact hj) hI.out hE.out)
    have HBj:=zh (q_next hB.out hB2.out)
    have hins:L[j]?≠some ⟨vcar,vnum,vstp,vv,vl⟩→insV ⟨vcar,vnum,vstp,vv,vl⟩ L=L.take j++⟨vcar,vnum,vstp,vv,vl⟩::L.drop j:=fun h=>by rw[HIV.out,if_neg h]
    have HINS:=zh hins
    clear hins
    rcases hFO.out with hnil | ⟨g,n',c',hsome⟩
    ·injection hnil with hs1 hs2 hs3
     subst hs1 hs2 hs3
     obtain rfl:j=0:=by omega
     have hL0:L=[]:=List.eq_nil_of_length_eq_zero HNL.out.symm
     have HLZ:=zh hL0
     have HNW:=zh (HINS.out (by rw[hL0];exact fun e=>by cases e))
     clear hL0
     go_upto_region 9 with fail
     refine wp_region_noPanic ?_
     refine wp_region_lexB [.q 0,.q 1,.q 2,.q 3,.q 4,.q 5,.q 6,.q 7,.q 8,.q 9,.q 10,.q 11,.q 12,.q 13,.q 14] (by kernel_rfl) (by kernel_rfl) (fun _ _ _ _ h=>h) ?_
     iterate 5(refine wpFl_qL (v:=?_) rfl (Or.inl ⟨by rfl,?_⟩) ?_;rotate_left;(focus(intro w' hSw;go_simp;(try with_reducible rfl);done));simp only[Act.put,zzA,zzB,zzC])
     iterate 9(refine wpFl_qL (v:=undef) rfl (Or.inr ⟨by rfl,rfl⟩) ?_;simp only[Act.put,zzA,zzB,zzC])
     refine wpFl_qL (v:=?_) rfl (Or.inl ⟨by rfl,?_⟩) ?_
     rotate_left
     focus(intro w' hSw;go_simp;(try with_reducible rfl);done)
     simp only[Act.put,zzA,zzB,zzC]
     refine wpFl_nil ?_
     refine NoPanic.normal ?_
     go_upto_region 10 with fail
     have HBq:Hid (Below wr.heap.size wr wc.drew):=zh (Below.drew hB2.out)
     generalize wc.drew=wd at *
     have HV10:=zh (fun W (hW:Below wd.heap.size wd W)=>HV.out W (q_next HBq.out hW))
     refine wp_region_noPanic ?_
     refine wp_region_lexB [.q 0,.q 1,.q 2,.q 3,.q 4,.q 5,.q 6,.q 7,.q 9,.q 10,.q 11,.an 8,.co 8,.b 12,.b 13,.q 14] (by kernel_rfl) (by kernel_rfl) (fun _ _ _ _ h=>h) ?_
     iterate 11(refine wpFl_qL (v:=?_) rfl (Or.inl ⟨by rfl,?_⟩) ?_;rotate_left;(focus(intro w' hSw;obtain⟨v0,v1,v2,v3,v4⟩:=HV10.out w' hSw;go_simp;(try with_reducible rfl);done));simp only[Act.put,zzA,zzB,zzC])
     refine wpFl_anL rfl (.cells #[.int .i64 vcar,.int .i64 vnum,.int .i64 vstp,.string vv,.string vl] 27 (0,0)) (fun n=>.slice (some ⟨n,0,none⟩) 1 1) ⟨by rfl,fun w'=>?_⟩ ?_
     focus(go_simp;done)
     refine wpFl_coL rfl (.cells #[.int .i64 vcar,.int .i64 vnum,.int .i64 vstp,.string vv,.string vl] 27 (0,0)) (fun n=>.slice (some ⟨n,0,none⟩) 1 1) (by rfl) (N':=[]) (by rfl) (fun ba we hn_we hs_we hb_ba hz_ba=>?_)
     simp only[Act.put,zzA,zzB,zzC]
     refine wpFl_bL rfl (fun wf hnf hsf K hK=>?_)
     have HZ:=zh ((hnf.block ba (ltA hz_ba)).trans hz_ba)
     have h1:SliceAt wf (.slice (some ⟨ba,0,none⟩) 1 1) 5 [vcells ⟨vcar,vnum,vstp,vv,vl⟩]:=one_voteR (v:=⟨vcar,vnum,vstp,vv,vl⟩) HZ.out
     have h2:SliceAt wf (.slice none 0 0) 5 ((L.drop 0).map vcells):=by
       rw[HLZ.out]
       exact SliceAt.nil _ _
     refine step_append_any 35 27 5 56 _ (by kernel_rfl) infoVote3 rfl (by decide) rfl _ _ rfl (css:=[vcells ⟨vcar,vnum,vstp,vv,vl⟩]) (dss:=(L.drop 0).map vcells) rfl rfl h1 h2 (vcells_onesR [⟨vcar,vnum,vstp,vv,vl⟩]) (vcells_onesR _) (vcells_oneR _) (by omega) ?_
     intro sv c2 wg hsl hbg
     refine hK.out _ _ (q_next hsf hbg) (Keeps.below hbg) ?_
     clear hK K
     simp only[Act.put,zzA,zzB,zzC]
     refine wpFl_bL rfl (fun wh hnh hsh K hK=>?_)
     have h3:SliceAt wh (.slice none 0 0) 5 ((L.take 0).map vcells):=SliceAt.nil _ _
     refine step_append_fit 35 27 5 56 _ (by kernel_rfl) infoVote3 rfl (by decide) rfl _ _ rfl rfl rfl h3 (hsl.below hnh) (vcells_onesR _) (vcells_onesR (⟨vcar,vnum,vstp,vv,vl⟩::L.drop 0)) (vcells_oneR (⟨vcar,vnum,vstp,vv,vl⟩::L.drop 0)) (by omega) (by omega) ?_
     intro cap wi hown hbi
     refine hK.out _ _ (q_next hsh hbi) (Keeps.below hbi) ?_
     clear hK K
     have HOW:=zh (OwnE.slice hown (fun c hc=>by rcases List.mem_append.1 hc with hc | hc;exact vcells_onesR _ c hc;exact vcells_onesR (⟨vcar,vnum,vstp,vv,vl⟩::L.drop 0) c hc))
     have HBI:=zh (q_next hB.out (q_next HBq.out (q_next hsh hbi)))
     simp only[Act.put,zzA,zzB,zzC]
     refine wpFl_qL (v:=?_) rfl (Or.inl ⟨by rfl,?_⟩) ?_
     rotate_left
     focus(intro w' hSw;go_simp;(try with_reducible rfl);done)
     simp only[Act.put,zzA,zzB,zzC]
     refine wpFl_nil ?_
     refine NoPanic.normal ?_
     go_wp2
     go_roundw
     case rel =>
      refine⟨k+1,_,by omega,rfl,by go_num,zh ?_,zh (.inr ⟨_,_,_,rfl⟩),HBI⟩
      rw[HSN.out,if_pos rfl,HNW.out]
      have r:=HOW.out
      unfold VS
      rw[List.map_append,List.map_cons]
      exact r
     case measure=>simp[intOf];omega
    ·injection hsome with hs1 hs2 hs3
     subst hs1 hs2 hs3
     have tj0:(0:Int)≤(j:Int):=by omega
     have tjc:(j:Int)≤(oc:Int):=by omega
     have tjn:(j:Int)≤(n:Int):=by omega
     have ujc:j≤oc:=by omega
     have ujn:j≤n:=by omega
     have uno:n≤oc:=by omega
     by_cases hjn:j=n
     ·have hne:=HINS.out (by rw[List.getElem?_eq_none (by rw[← HNL.out,hjn];exact Nat.le_refl _)];exact fun e=>by cases e)
      have HNW:=zh hne
      clear hne
      subst hjn
      go_upto_region 9 with fail
      refine wp_region_noPanic ?_
      refine wp_region_lexB [.q 0,.q 1,.q 2,.q 3,.q 4,.q 5,.q 6,.q 7,.q 8,.q 9,.q 10,.q 11,.q 12,.q 13,.q 14] (by kernel_rfl) (by kernel_rfl) (fun _ _ _ _ h=>h) ?_
      iterate 5(refine wpFl_qL (v:=?_) rfl (Or.inl ⟨by rfl,?_⟩) ?_;rotate_left;(focus(intro w' hSw;go_simp;(try with_reducible rfl);done));simp only[Act.put,zzA,zzB,zzC])
      iterate 9(refine wpFl_qL (v:=undef) rfl (Or.inr ⟨by rfl,rfl⟩) ?_;simp only[Act.put,zzA,zzB,zzC])
      refine wpFl_qL (v:=?_) rfl (Or.inl ⟨by rfl,?_⟩) ?_
      rotate_left
      focus(intro w' hSw;go_simp;(try with_reducible rfl);done)
      simp only[Act.put,zzA,zzB,zzC]
      refine wpFl_nil ?_
      refine NoPanic.normal ?_
      by_cases hcj:oc=j
      ·subst hcj
       go_upto_region 10 with fail
       have HBq:Hid (Below wr.heap.size wr wc.drew):=zh (Below.drew hB2.out)
       generalize wc.drew=wd at *
       have HV10:=zh (fun W (hW:Below wd.heap.size wd W)=>HV.out W (q_next HBq.out hW))
       refine wp_region_noPanic ?_
       refine wp_region_lexB [.q 0,.q 1,.q 2,.q 3,.q 4,.q 5,.q 6,.q 7,.q 9,.q 10,.q 11,.an 8,.co 8,.b 12,.b 13,.q 14] (by kernel_rfl) (by kernel_rfl) (fun _ _ _ _ h=>h) ?_
       iterate 11(refine wpFl_qL (v:=?_) rfl (Or.inl ⟨by rfl,?_⟩) ?_;rotate_left;(focus(intro w' hSw;obtain⟨v0,v1,v2,v3,v4⟩:=HV10.out w' hSw;go_simp;(try with_reducible rfl);done));simp only[Act.put,zzA,zzB,zzC])
       refine wpFl_anL rfl (.cells #[.int .i64 vcar,.int .i64 vnum,.int .i64 vstp,.string vv,.string vl] 27 (0,0)) (fun n=>.slice (some ⟨n,0,none⟩) 1 1) ⟨by rfl,fun w'=>?_⟩ ?_
       focus(go_simp;done)
       refine wpFl_coL rfl (.cells #[.int .i64 vcar,.int .i64 vnum,.int .i64 vstp,.string vv,.string vl] 27 (0,0)) (fun n=>.slice (some ⟨n,0,none⟩) 1 1) (by rfl) (N':=[]) (by rfl) (fun ba we hn_we hs_we hb_ba hz_ba=>?_)
       simp only[Act.put,zzA,zzB,zzC]
       refine wpFl_bL rfl (fun wf hnf hsf K hK=>?_)
       have HZ:=zh ((hnf.block ba (ltA hz_ba)).trans hz_ba)
       have h1:SliceAt wf (.slice (some ⟨ba,0,none⟩) 1 1) 5 [vcells ⟨vcar,vnum,vstp,vv,vl⟩]:=one_voteR (v:=⟨vcar,vnum,vstp,vv,vl⟩) HZ.out
       have h2:SliceAt wf (.slice (some ⟨g,0,none⟩) 0 0) 5 ((L.drop oc).map vcells):=by
         have e:L.drop oc=[]:=List.drop_eq_nil_of_le (by rw[← HNL.out];exact Nat.le_refl _)
         rw[e]
         exact⟨_,_,rfl,Nat.le_refl _,Nat.zero_le _,.inl rfl⟩
       refine step_append_any 35 27 5 56 _ (by kernel_rfl) infoVote3 rfl (by decide) rfl _ _ rfl (css:=[vcells ⟨vcar,vnum,vstp,vv,vl⟩]) (dss:=(L.drop oc).map vcells) rfl rfl h1 h2 (vcells_onesR [⟨vcar,vnum,vstp,vv,vl⟩]) (vcells_onesR _) (vcells_oneR _) (by omega) ?_
       intro sv c2 wg hsl hbg
       refine hK.out _ _ (q_next hsf hbg) (Keeps.below hbg) ?_
       clear hK K
       simp only[Act.put,zzA,zzB,zzC]
       refine wpFl_bL rfl (fun wh hnh hsh K hK=>?_)
       have h3:SliceAt wh (.slice (some ⟨g,0,none⟩) oc oc) 5 ((L.take oc).map vcells):=by
        have r:=SliceAt.fit (VS.below HVV.out (q_next HBq.out hsh)) oc (Nat.le_refl _)
        rw[← List.map_take]at r
        exact r
       refine step_append_fit 35 27 5 56 _ (by kernel_rfl) infoVote3 rfl (by decide) rfl _ _ rfl rfl rfl h3 (hsl.below hnh) (vcells_onesR _) (vcells_onesR (⟨vcar,vnum,vstp,vv,vl⟩::L.drop oc)) (vcells_oneR (⟨vcar,vnum,vstp,vv,vl⟩::L.drop oc)) (by omega) (by omega) ?_
       intro cap wi hown hbi
       refine hK.out _ _ (q_next hsh hbi) (Keeps.below hbi) ?_
       clear hK K
       have HOW:=zh (OwnE.slice hown (fun c hc=>by rcases List.mem_append.1 hc with hc | hc;exact vcells_onesR _ c hc;exact vcells_onesR (⟨vcar,vnum,vstp,vv,vl⟩::L.drop oc) c hc))
       have HBI:=zh (q_next hB.out (q_next HBq.out (q_next hsh hbi)))
       simp only[Act.put,zzA,zzB,zzC]
       refine wpFl_qL (v:=?_) rfl (Or.inl ⟨by rfl,?_⟩) ?_
       rotate_left
       focus(intro w' hSw;go_simp;(try with_reducible rfl);done)
       simp only[Act.put,zzA,zzB,zzC]
       refine wpFl_nil ?_
       refine NoPanic.normal ?_
       go_wp2
       go_roundw
       case rel =>
        refine⟨k+1,_,by omega,rfl,by go_num,zh ?_,zh (.inr ⟨_,_,_,rfl⟩),HBI⟩
        rw[HSN.out,if_pos rfl,HNW.out]
        have r:=HOW.out
        unfold VS
        rw[List.map_append,List.map_cons]
        exact r
       case measure=>simp[intOf];omega
      ·
       go_upto_region 10 with fail
       have HBq:Hid (Below wr.heap.size wr wc.drew):=zh (Below.drew hB2.out)
       generalize wc.drew=wd at *
       have HV10:=zh (fun W (hW:Below wd.heap.size wd W)=>HV.out W (q_next HBq.out hW))
       refine wp_region_noPanic ?_
       refine wp_region_lexB [.q 0,.q 1,.q 2,.q 3,.q 4,.q 5,.q 6,.q 7,.q 9,.q 10,.q 11,.an 8,.co 8,.b 12,.b 13,.q 14] (by kernel_rfl) (by kernel_rfl) (fun _ _ _ _ h=>h) ?_
       iterate 11(refine wpFl_qL (v:=?_) rfl (Or.inl ⟨by rfl,?_⟩) ?_;rotate_left;(focus(intro w' hSw;obtain⟨v0,v1,v2,v3,v4⟩:=HV10.out w' hSw;go_simp;(try with_reducible rfl);done));simp only[Act.put,zzA,zzB,zzC])
       refine wpFl_anL rfl (.cells #[.int .i64 vcar,.int .i64 vnum,.int .i64 vstp,.string vv,.string vl] 27 (0,0)) (fun n=>.slice (some ⟨n,0,none⟩) 1 1) ⟨by rfl,fun w'=>?_⟩ ?_
       focus(go_simp;done)
       refine wpFl_coL rfl (.cells #[.int .i64 vcar,.int .i64 vnum,.int .i64 vstp,.string vv,.string vl] 27 (0,0)) (fun n=>.slice (some ⟨n,0,none⟩) 1 1) (by rfl) (N':=[]) (by rfl) (fun ba we hn_we hs_we hb_ba hz_ba=>?_)
       simp only[Act.put,zzA,zzB,zzC]
       refine wpFl_bL rfl (fun wf hnf hsf K hK=>?_)
       have HZ:=zh ((hnf.block ba (ltA hz_ba)).trans hz_ba)
       have h1:SliceAt wf (.slice (some ⟨ba,0,none⟩) 1 1) 5 [vcells ⟨vcar,vnum,vstp,vv,vl⟩]:=one_voteR (v:=⟨vcar,vnum,vstp,vv,vl⟩) HZ.out
       have h2:SliceAt wf (.slice (some ⟨g,j*5,none⟩) 0 (oc - j)) 5 ((L.drop j).map vcells):=by
         have r:=SliceAt.rest (VS.below HVV.out (q_next HBq.out hsf)) j ujn
         rw[Nat.zero_add,← List.map_drop,Nat.sub_self]at r
         exact r
       refine step_append_any 35 27 5 56 _ (by kernel_rfl) infoVote3 rfl (by decide) rfl _ _ rfl (css:=[vcells ⟨vcar,vnum,vstp,vv,vl⟩]) (dss:=(L.drop j).map vcells) rfl rfl h1 h2 (vcells_onesR [⟨vcar,vnum,vstp,vv,vl⟩]) (vcells_onesR _) (vcells_oneR _) (by omega) ?_
       intro sv c2 wg hsl hbg
       refine hK.out _ _ (q_next hsf hbg) (Keeps.below hbg) ?_
       clear hK K
       simp only[Act.put,zzA,zzB,zzC]
       refine wpFl_bL rfl (fun wh hnh hsh K hK=>?_)
       have h3:SliceAt wh (.slice (some ⟨g,0,none⟩) j j) 5 ((L.take j).map vcells):=by
        have r:=SliceAt.fit (VS.below HVV.out (q_next HBq.out hsh)) j ujn
        rw[← List.map_take]at r
        exact r
       refine step_append_fit 35 27 5 56 _ (by kernel_rfl) infoVote3 rfl (by decide) rfl _ _ rfl rfl rfl h3 (hsl.below hnh) (vcells_onesR _) (vcells_onesR (⟨vcar,vnum,vstp,vv,vl⟩::L.drop j)) (vcells_oneR (⟨vcar,vnum,vstp,vv,vl⟩::L.drop j)) (by omega) (by omega) ?_
       intro cap wi hown hbi
       refine hK.out _ _ (q_next hsh hbi) (Keeps.below hbi) ?_
       clear hK K
       have HOW:=zh (OwnE.slice hown (fun c hc=>by rcases List.mem_append.1 hc with hc | hc;exact vcells_onesR _ c hc;exact vcells_onesR (⟨vcar,vnum,vstp,vv,vl⟩::L.drop j) c hc))
       have HBI:=zh (q_next hB.out (q_next HBq.out (q_next hsh hbi)))
       simp only[Act.put,zzA,zzB,zzC]
       refine wpFl_qL (v:=?_) rfl (Or.inl ⟨by rfl,?_⟩) ?_
       rotate_left
       focus(intro w' hSw;go_simp;(try with_reducible rfl);done)
       simp only[Act.put,zzA,zzB,zzC]
       refine wpFl_nil ?_
       refine NoPanic.normal ?_
       go_wp2
       go_roundw
       case rel =>
        refine⟨k+1,_,by omega,rfl,by go_num,zh ?_,zh (.inr ⟨_,_,_,rfl⟩),HBI⟩
        rw[HSN.out,if_pos rfl,HNW.out]
        have r:=HOW.out
        unfold VS
        rw[List.map_append,List.map_cons]
        exact r
       case measure=>simp[intOf];omega
     ·have tjl:(j:Int) < (n:Int):=by omega
      have hje:((j:Int) == (n:Int))=false:=by simp;omega
      have hje2:¬ (j:Int)=(n:Int):=by omega
      have hcj:¬ oc=j:=by omega
      obtain⟨u,eu⟩:∃ u,L[j]?=some u:=⟨_,List.getElem?_eq_getElem (by rw[← HNL.out];omega)⟩
      obtain⟨ob,oo,hoe,hob,hou⟩:=HO3.out j u eu
      obtain⟨rfl,rfl⟩:g=ob∧0=oo:=by
       injection hoe with e
       injection e with e1 e2
       exact⟨e1,e2⟩
      rw[Nat.zero_add]at hou
      have HC9:=zh (fun W (hW:Below wc.heap.size wc W)=>And.intro (hou.keep (q_next hB2.out hW) hob) (HV.out W (q_next hB2.out hW)))
      have HNU:=zh (fun W=>HNE.out u W)
      have HEU:=zh eu
      obtain⟨b,hb⟩:∃ b,b=decide (u=⟨vcar,vnum,vstp,vv,vl⟩):=⟨_,rfl⟩
      rw[← hb]at HNU
      have HLT:=zh hb
      obtain⟨ucar,unum,ustp,uv,ul⟩:=u
      simp only[vagg]at HNU
      have hnu:=HNU.out
      clear eu hou hb hoe
      go_upto_region 9 with fail
      refine wp_region_noPanic ?_
      refine wp_region_lexB [.q 0,.q 1,.q 2,.q 3,.q 4,.q 5,.q 6,.q 7,.q 8,.q 9,.q 10,.q 11,.q 12,.q 13,.q 14] (by kernel_rfl) (by kernel_rfl) (fun _ _ _ _ h=>h) ?_
      iterate 15(refine wpFl_qL (v:=?_) rfl (Or.inl ⟨by rfl,?_⟩) ?_;rotate_left;(focus(intro w' hSw;obtain⟨⟨o0,o1,o2,o3,o4⟩,v0,v1,v2,v3,v4⟩:=HC9.out w' hSw;go_simp;(try with_reducible rfl);done));simp only[Act.put,zzA,zzB,zzC])
      refine wpFl_nil ?_
      refine NoPanic.normal ?_
      cases b with
      | true =>
       go_wp2
       go_roundw
       case rel =>
        refine⟨k+1,_,by omega,rfl,by go_num,zh ?_,hFO,zh (Below.drew HBj.out)⟩
        rw[HSN.out,if_pos rfl,HIV.out,if_pos (by rw[HEU.out];exact congrArg some (of_decide_eq_true HLT.out.symm))]
        exact HVV.out.below (Below.drew hB2.out)
       case measure=>simp[intOf];omega
      | false =>
       have HNW:=zh (HINS.out (by
        rw[HEU.out]
        exact fun e=>of_decide_eq_false HLT.out.symm (Option.some.inj e)))
       go_upto_region 10 with fail
       have HBq:Hid (Below wr.heap.size wr wc.drew):=zh (Below.drew hB2.out)
       generalize wc.drew=wd at *
       have HV10:=zh (fun W (hW:Below wd.heap.size wd W)=>HV.out W (q_next HBq.out hW))
       refine wp_region_noPanic ?_
       refine wp_region_lexB [.q 0,.q 1,.q 2,.q 3,.q 4,.q 5,.q 6,.q 7,.q 9,.q 10,.q 11,.an 8,.co 8,.b 12,.b 13,.q 14] (by kernel_rfl) (by kernel_rfl) (fun _ _ _ _ h=>h) ?_
       iterate 11(refine wpFl_qL (v:=?_) rfl (Or.inl ⟨by rfl,?_⟩) ?_;rotate_left;(focus(intro w' hSw;obtain⟨v0,v1,v2,v3,v4⟩:=HV10.out w' hSw;go_simp;(try with_reducible rfl);done));simp only[Act.put,zzA,zzB,zzC])
       refine wpFl_anL rfl (.cells #[.int .i64 vcar,.int .i64 vnum,.int .i64 vstp,.string vv,.string vl] 27 (0,0)) (fun n=>.slice (some ⟨n,0,none⟩) 1 1) ⟨by rfl,fun w'=>?_⟩ ?_
       focus(go_simp;done)
       refine wpFl_coL rfl (.cells #[.int .i64 vcar,.int .i64 vnum,.int .i64 vstp,.string vv,.string vl] 27 (0,0)) (fun n=>.slice (some ⟨n,0,none⟩) 1 1) (by rfl) (N':=[]) (by rfl) (fun ba we hn_we hs_we hb_ba hz_ba=>?_)
       simp only[Act.put,zzA,zzB,zzC]
       refine wpFl_bL rfl (fun wf hnf hsf K hK=>?_)
       have HZ:=zh ((hnf.block ba (ltA hz_ba)).trans hz_ba)
       have h1:SliceAt wf (.slice (some ⟨ba,0,none⟩) 1 1) 5 [vcells ⟨vcar,vnum,vstp,vv,vl⟩]:=one_voteR (v:=⟨vcar,vnum,vstp,vv,vl⟩) HZ.out
       have h2:SliceAt wf (.slice (some ⟨g,j*5,none⟩) (n - j) (oc - j)) 5 ((L.drop j).map vcells):=by
         have r:=SliceAt.rest (VS.below HVV.out (q_next HBq.out hsf)) j ujn
         rw[Nat.zero_add,← List.map_drop]at r
         exact r
       refine step_append_any 35 27 5 56 _ (by kernel_rfl) infoVote3 rfl (by decide) rfl _ _ rfl (css:=[vcells ⟨vcar,vnum,vstp,vv,vl⟩]) (dss:=(L.drop j).map vcells) rfl rfl h1 h2 (vcells_onesR [⟨vcar,vnum,vstp,vv,vl⟩]) (vcells_onesR _) (vcells_oneR _) (by omega) ?_
       intro sv c2 wg hsl hbg
       refine hK.out _ _ (q_next hsf hbg) (Keeps.below hbg) ?_
       clear hK K
       simp only[Act.put,zzA,zzB,zzC]
       refine wpFl_bL rfl (fun wh hnh hsh K hK=>?_)
       have h3:SliceAt wh (.slice (some ⟨g,0,none⟩) j j) 5 ((L.take j).map vcells):=by
        have r:=SliceAt.fit (VS.below HVV.out (q_next HBq.out hsh)) j ujn
        rw[← List.map_take]at r
        exact r
       refine step_append_fit 35 27 5 56 _ (by kernel_rfl) infoVote3 rfl (by decide) rfl _ _ rfl rfl rfl h3 (hsl.below hnh) (vcells_onesR _) (vcells_onesR (⟨vcar,vnum,vstp,vv,vl⟩::L.drop j)) (vcells_oneR (⟨vcar,vnum,vstp,vv,vl⟩::L.drop j)) (by omega) (by omega) ?_
       intro cap wi hown hbi
       refine hK.out _ _ (q_next hsh hbi) (Keeps.below hbi) ?_
       clear hK K
       have HOW:=zh (OwnE.slice hown (fun c hc=>by rcases List.mem_append.1 hc with hc | hc;exact vcells_onesR _ c hc;exact vcells_onesR (⟨vcar,vnum,vstp,vv,vl⟩::L.drop j) c hc))
       have HBI:=zh (q_next hB.out (q_next HBq.out (q_next hsh hbi)))
       simp only[Act.put,zzA,zzB,zzC]
       refine wpFl_qL (v:=?_) rfl (Or.inl ⟨by rfl,?_⟩) ?_
       rotate_left
       focus(intro w' hSw;go_simp;(try with_reducible rfl);done)
       simp only[Act.put,zzA,zzB,zzC]
       refine wpFl_nil ?_
       refine NoPanic.normal ?_
       go_wp2
       go_roundw
       case rel =>
        refine⟨k+1,_,by omega,rfl,by go_num,zh ?_,zh (.inr ⟨_,_,_,rfl⟩),HBI⟩
        rw[HSN.out,if_pos rfl,HNW.out]
        have r:=HOW.out
        unfold VS
        rw[List.map_append,List.map_cons]
        exact r
       case measure=>simp[intOf];omega
  ·obtain rfl:k=N:=by omega
   have tk:¬ (k:Int) < (k:Int):=by omega
   have hfin:l.take k=l:=by rw[HN.out,List.take_length]
   rw[hfin]at hS
   go_wp2
   go_ret
   exact⟨_,rfl,hS.out,HB1.out.trans (hB.out.mono HB1.out.size)⟩
theorem insBs_snocT (x:ByteArray):∀(xs L:List ByteArray),insBs L (xs++[x])=insB x (insBs L xs)
 | [],_=>rfl
 | y::xs,L=>by rw[List.cons_append,insBs,insBs,insBs_snocT x xs]
theorem insB_lenT (x:ByteArray):∀ L:List ByteArray,(insB x L).length≤L.length+1
 | []=>by simp[insB]
 | a::l=>by
  unfold insB
  have:=insB_lenT x l
  split
  ·simp;omega
  ·split <;> simp
theorem insBs_lenT:∀(xs L:List ByteArray),(insBs L xs).length≤L.length+xs.length
 | [],L=>by simp[insBs]
 | y::xs,L=>by
  have h1:=insBs_lenT xs (insB y L)
  have h2:=insB_lenT y L
  rw[insBs,List.length_cons]
  omega
theorem insB_pos (x:ByteArray):∀(L:List ByteArray) (k:Nat),k≤L.length→(∀(j:Nat) (v:ByteArray),j < k→L[j]?=some v→v.toList < x.toList)→(∀ v:ByteArray,L[k]?=some v→¬ v.toList < x.toList) →
  insB x L=(if L[k]?=some x then L else L.take k++x::L.drop k)
 | [],k,hk,_,_=>by
  have:k=0:=by simpa using hk
  subst this
  simp[insB]
 | a::l,0,_,_,h2=>by
  have h:=h2 a rfl
  unfold insB
  rw[if_neg h]
  by_cases e:a=x
  ·rw[if_pos e,if_pos (by rw[e];rfl)]
  ·rw[if_neg e,if_neg (by simpa using e)]
   rfl
 | a::l,k+1,hk,h1,h2=>by
  have h:=h1 0 a (by omega) rfl
  unfold insB
  rw[if_pos h,insB_pos x l k (by simpa using hk) (fun j v hj hv=>h1 (j+1) v (by omega) hv) (fun v hv=>h2 v hv)]
  rw[List.getElem?_cons_succ]
  by_cases e:l[k]?=some x
  ·rw[if_pos e,if_pos e]
  ·rw[if_neg e,if_neg e]
   rfl
def talQ (ks:List ByteArray)(num stp:Int)(pool l:List VoteP):List (ByteArray × Nat):=(valsV ks num stp l).map fun u=>(u,(whoL ks num stp u pool).length)
theorem talQ_all {ks:List ByteArray}{num stp:Int}{pool:List VoteP}(h:isPool ks pool=true):talQ ks num stp pool pool=tallyV ks num stp pool:=by
 unfold tallyV
 rw[if_pos h]
 rfl
theorem valsV_snoc {ks:List ByteArray}{num stp:Int}{l:List VoteP}{k:Nat}{x:VoteP}(h:l[k]?=some x):valsV ks num stp (l.take (k+1))=if inSlot ks num stp x=true then insB x.val (valsV ks num stp (l.take k))else valsV ks num stp (l.take k):=by
 unfold valsV
 rw[List.take_add_one,h,List.filter_append,List.map_append]
 cases e:inSlot ks num stp x with
 | true =>
  rw[if_pos rfl]
  have:((some x).toList.filter (inSlot ks num stp)).map (fun v=>v.val)=[x.val]:=by simp[e]
  rw[this,insBs_snocT]
 | false =>
  rw[if_neg (by decide)]
  have:((some x).toList.filter (inSlot ks num stp)).map (fun v=>v.val)=[]:=by simp[e]
  rw[this,List.append_nil]
theorem valsV_lenT (ks:List ByteArray)(num stp:Int)(l:List VoteP):(valsV ks num stp l).length≤l.length:=by
 unfold valsV
 have h1:=insBs_lenT ((l.filter (inSlot ks num stp)).map fun v=>v.val) []
 have h2:=List.length_filter_le (inSlot ks num stp) l
 simp at h1
 omega
theorem talQ_len (ks:List ByteArray)(num stp:Int)(pool l:List VoteP):(talQ ks num stp pool l).length≤l.length:=by
 unfold talQ
 rw[List.length_map]
 exact valsV_lenT ks num stp l
theorem talQ_out {ks:List ByteArray}{num stp:Int}{pool l:List VoteP}{k:Nat}{x:VoteP}(h:l[k]?=some x)(hi:inSlot ks num stp x=false):talQ ks num stp pool (l.take (k+1))=talQ ks num stp pool (l.take k):=by
 unfold talQ
 rw[valsV_snoc h,hi,if_neg (by decide)]
theorem talQ_in {ks:List ByteArray}{num stp:Int}{pool l:List VoteP}{k j:Nat}{x:VoteP}(h:l[k]?=some x)(hi:inSlot ks num stp x=true)(hj:j≤(talQ ks num stp pool (l.take k)).length)
  (h1:∀(m:Nat) (t:ByteArray × Nat),m < j→(talQ ks num stp pool (l.take k))[m]?=some t→t.1.toList < x.val.toList) (h2:∀ t:ByteArray × Nat,(talQ ks num stp pool (l.take k))[j]?=some t→¬ t.1.toList < x.val.toList) :
  talQ ks num stp pool (l.take (k+1))=if((talQ ks num stp pool (l.take k))[j]?.map (·.1))=some x.val then talQ ks num stp pool (l.take k)
   else(talQ ks num stp pool (l.take k)).take j++(x.val,(whoL ks num stp x.val pool).length)::(talQ ks num stp pool (l.take k)).drop j:=by
 have e1:∀ m:Nat,(talQ ks num stp pool (l.take k))[m]?=((valsV ks num stp (l.take k))[m]?).map fun u=>(u,(whoL ks num stp u pool).length):=fun m=>by
  unfold talQ
  rw[List.getElem?_map]
 have hp:=insB_pos x.val (valsV ks num stp (l.take k)) j (by unfold talQ at hj;rw[List.length_map]at hj;exact hj)
  (fun m v hm hv=>h1 m (v,(whoL ks num stp v pool).length) hm (by rw[e1,hv];rfl)) (fun v hv=>h2 (v,(whoL ks num stp v pool).length) (by rw[e1,hv];rfl))
 have e2:(talQ ks num stp pool (l.take k))[j]?.map (·.1)=(valsV ks num stp (l.take k))[j]?:=by
  rw[e1]
  cases (valsV ks num stp (l.take k))[j]? <;> rfl
 rw[e2]
 have e3:talQ ks num stp pool (l.take (k+1))=(insB x.val (valsV ks num stp (l.take k))).map fun u=>(u,(whoL ks num stp u pool).length):=by
  unfold talQ
  rw[valsV_snoc h,hi,if_pos rfl]
 rw[e3,hp]
 by_cases e:(valsV ks num stp (l.take k))[j]?=some x.val
 ·rw[if_pos e,if_pos e]
  rfl
 ·rw[if_neg e,if_neg e]
  unfold talQ
  rw[List.map_append,List.map_cons,List.map_take,List.map_drop]
def cntTo (ks:List ByteArray)(num stp:Int)(val:ByteArray)(pool:List VoteP)(n:Nat):Nat:=((List.range n).filter (votesFor ks num stp val pool)).length
theorem cntTo_succ (ks:List ByteArray)(num stp:Int)(val:ByteArray)(pool:List VoteP)(n:Nat):cntTo ks num stp val pool (n+1)=cntTo ks num stp val pool n+if votesFor ks num stp val pool n=true then 1 else 0:=by
 unfold cntTo
 rw[List.range_succ,List.filter_append,List.length_append]
 cases h:votesFor ks num stp val pool n <;> simp[h]
theorem cntTo_le (ks:List ByteArray)(num stp:Int)(val:ByteArray)(pool:List VoteP)(n:Nat):cntTo ks num stp val pool n≤n:=by
 have h:=List.length_filter_le (votesFor ks num stp val pool) (List.range n)
 rw[List.length_range]at h
 exact h
end Go.Proofs.YtggdcnjaofflbaaGreatDoor
