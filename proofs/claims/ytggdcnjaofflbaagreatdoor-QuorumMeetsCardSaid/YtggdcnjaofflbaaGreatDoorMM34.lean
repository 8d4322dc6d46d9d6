/- Walk of the law: QuorumMeets. The conditions: what the row holds, the tables of constants. -/
import Derived.Test.YtggdcnjaofflbaaGreatDoorMM33
namespace Go.Proofs.YtggdcnjaofflbaaGreatDoor
open Go.RowKit Go.BigFrame
def castI (l:List Nat):List Int:=l.map fun i:Nat=>(i:Int)
theorem castI_app (l m:List Nat):castI (l++m)=castI l++castI m:=List.map_append
theorem reg_own {w:World}{base:Nat}{v:Value}{css:List (List Value)}{T:TypeId}{size:Nat}(h:OwnE w base T size v css){k:Nat}{cs:Array Value}{U:TypeId}{fr:Nat × Nat}(hk:w.heap[k]?=some (.cells cs U fr))(hU:U≠T):some k≠v.ownBlock :=
 own_ne h hk (fun c e=>by injection e with _ e2 _;exact hU e2)
set_option maxHeartbeats 32000000 in
set_option maxRecDepth 100000 in
theorem meets_walk {w:World}{x:Value}{xs:List R4}(n shown one two at1 value:Int)(hx:RS w x xs)(hi:∀ q∈xs,Int4 q)(i0:I64 n)(i1:I64 shown)(i2:I64 one)(i3:I64 two)(i4:I64 at1)(i5:I64 value)(he:QEnv w) :
  Calls Tryz.prog 10 #[.int .i64 n,x,.int .i64 shown,.int .i64 one,.int .i64 two,.int .i64 at1,.int .i64 value] w fun e w'=>e=.returned (.bool true)∧Below w.heap.size w w':=by
 have HSA:=zh (sane_any he)
 have HMA:=zh (fun W=>made19_any n i0 W)
 have HX:=zh hx
 have HI:=zh hi
 have HE:=zh he
 have hm:=madeN_or n
 have hp1:=pickI_range one (show(0:Int) < (madeN n:Int) by omega)
 have hq1:=pickI_range two (show(0:Int) < (madeN n:Int) by omega)
 have hb1:=pickI_range shown (show(0:Int) < 1024 by omega)
 have HP1:=zh (fun W=>lpickQ_any one (madeN n) W i2 (by omega) (by omega))
 have HP2:=zh (fun W=>lpickQ_any two (madeN n) W i3 (by omega) (by omega))
 have HP3:Hid (∀ W,Calls Tryz.prog 16 #[.int .i64 shown,.int .i64 1024] W fun e w'=>e=.returned (.int .i64 (pickI shown 1024))∧w'=W):=zh (fun W=>lpickQ_any shown 1024 W i1 (by omega) (by omega))
 obtain⟨p,hp2⟩:∃ p:Nat,pickI one (madeN n)=(p:Int):=⟨(pickI one (madeN n)).toNat,by omega⟩
 obtain⟨q,hq2⟩:∃ p:Nat,pickI two (madeN n)=(p:Int):=⟨(pickI two (madeN n)).toNat,by omega⟩
 obtain⟨b,hb2⟩:∃ p:Nat,pickI shown 1024=(p:Int):=⟨(pickI shown 1024).toNat,by omega⟩
 rw[hp2]at HP1 hp1
 rw[hq2]at HP2 hq1
 rw[hb2]at HP3 hb1
 generalize madeN n=m at *
 have hp:p < m:=by omega
 have hq:q < m:=by omega
 have HMM:=zh hm
 have hOl:=poolN_len xs
 have HFO:Hid (∀ y∈poolN xs,formedV y=true):=zh (fun y hy=>poolN_formed hy)
 have HPO:=zh (fun W (hW:Below w.heap.size w W)=>pool_own (hx.below hW) hi)
 generalize poolN xs=O at *
 have hm1:0 < m:=by omega
 clear hx hi he hp2 hq2 hb2 hp1 hq1 hb1 hm
 go_enter Tryz.func10,Tryz.ntmps10
 go_upto_region 4 with(go_at_call 11;refine HSA.out.mono ?_;rintro e w2 ⟨rfl,hb2⟩)
 go_upto_region 5 with(go_at_call 12;refine(HMA.out _).mono ?_;rintro e w3 ⟨kv,rfl,hks,hb3⟩;obtain⟨ka,kc,hkv,-,-,hk3⟩:=hks.opened;rw[madeQ_len]at hkv;subst hkv)
 have hkey:∀ j,j < m→(madeQ m)[j]?=some (keyQ j):=fun j hj=>by
  have e:=madeQ_get hj
  rw[List.getD_eq_getElem?_getD]at e
  obtain⟨k,hk⟩:∃ k,(madeQ m)[j]?=some k:=⟨_,List.getElem?_eq_getElem (by rw[madeQ_len];exact hj)⟩
  rw[hk]at e ⊢
  exact congrArg some e
 obtain⟨kb,ko,rfl,hkb,-⟩:=hk3 0 _ (hkey 0 hm1)
 have HKC:Hid (∀ j,j < m→w3.cell? ⟨kb,ko+j,none⟩=some (.string (keyQ j))):=zh (fun j hj=>by
  obtain⟨b',o',e,_,h⟩:=hk3 j _ (hkey j hj)
  injection e with e
  injection e with e1 e2
  subst e1 e2
  exact h)
 have HB3:=zh (q_next hb2 hb3)
 have HK3:=zh hks
 clear hb2 hb3 hks hk3 hkey
 obtain⟨w4,hw4⟩:∃ W,W=w3.alloc (.cells #[.slice (some ⟨kb,ko,none⟩) m kc] 31):=⟨_,rfl⟩
 have HV_w4:Hid (w4.heap[w3.heap.size]?=some (.cells #[.slice (some ⟨kb,ko,none⟩) m kc] 31 (0,0))):=zh (by rw[hw4];exact heap_alloc_new w3 _)
 have HS_w4:Hid (Below w3.heap.size w3 w4):=zh (by rw[hw4];exact br0.alloc (Nat.le_refl _) _)
 have HB_w4:=zh (q_next HB3.out HS_w4.out)
 rw[← hw4]
 obtain⟨bc,hbc⟩:∃ b,b=w3.heap.size:=⟨_,rfl⟩
 rw[← hbc]at HV_w4 ⊢
 clear hw4 hbc
 have HPO2:=zh (HPO.out w4 HB_w4.out)
 go_upto_region 9 with(go_at_call 15;(with_reducible refine HPO2.out.mono ?_);rintro e w5 ⟨vp,rfl,hvp,hb5⟩;obtain⟨pa,pc,hvpe⟩:=hvp.form;have HVP5:=zh hvp.vs;clear hvp;obtain⟨M,hM⟩:∃ M,M=O.length:=⟨_,rfl⟩;rw[← hM]at hvpe;subst hvpe;clear hM)
 have HB5:=zh (q_next HB_w4.out hb5)
 have HCB5:Hid (∀ W,Below w5.heap.size w5 W→W.cell? ⟨bc,0,none⟩=some (.slice (some ⟨kb,ko,none⟩) m kc)∧∀ j,j < m→W.cell? ⟨kb,ko+j,none⟩=some (.string (keyQ j))):=zh (fun W hW =>
  ⟨cell_of_row W _ 0 _ _ _ (((q_next hb5 hW).block bc (ltA HV_w4.out)).trans HV_w4.out),fun j hj=>cell_keepB (q_next HS_w4.out (q_next hb5 hW)) hkb (HKC.out j hj)⟩)
 have HK5:=zh (HK3.out.below (q_next HS_w4.out hb5))
 clear hb5 HV_w4 HS_w4 HB_w4 HB3 HK3 HKC HPO HPO2 HSA HMA
 refine wp_region_noPanic ?_
 refine wp_region_lexB [.q 0,.q 1,.q 2,.q 3,.q 5,.q 6,.q 7,.q 8,.q 12,.b 4,.b 9,.an 10,.co 10,.q 11] (by kernel_rfl) (by kernel_rfl) (fun _ _ _ _ h=>h) ?_
 iterate 9(refine wpFl_qL (v:=?_) rfl (Or.inl ⟨by rfl,?_⟩) ?_;rotate_left;(focus(intro w' hSw;obtain⟨c0,-⟩:=HCB5.out w' hSw;go_simp;(try with_reducible rfl);done));simp only[Act.put,zzA,zzB,zzC])
 refine wpFl_bL rfl (fun waa hnaa hsaa K hK=>?_)
 go_simp
 go_at_call 16
 (with_reducible refine(HP1.out _).mono ?_)
 rintro e w' ⟨rfl,hw'⟩
 replace hw':=hw'.symm
 subst hw'
 refine hK.out _ _ hsaa (Keeps.below br0) ?_
 clear hK K hnaa hsaa
 refine wpFl_bL rfl (fun wab hnab hsab K hK=>?_)
 go_simp
 go_at_call 16
 (with_reducible refine(HP2.out _).mono ?_)
 rintro e w' ⟨rfl,hw'⟩
 replace hw':=hw'.symm
 subst hw'
 refine hK.out _ _ hsab (Keeps.below br0) ?_
 clear hK K hnab hsab
 refine wpFl_anL rfl (.cells #[.int .i64 (p:Int),.int .i64 (q:Int)] 3 (0,0)) (fun n=>.slice (some ⟨n,0,none⟩) 2 2) ⟨by rfl,fun w'=>?_⟩ ?_
 focus(go_simp;done)
 refine wpFl_coL rfl (.cells #[.int .i64 (p:Int),.int .i64 (q:Int)] 3 (0,0)) (fun n=>.slice (some ⟨n,0,none⟩) 2 2) (by rfl) (N':=[]) (by rfl) (fun ab w9 hn_w9 hs_w9 hb_ab hz_ab=>?_)
 simp only[Act.put,zzA,zzB,zzC]
 refine wpFl_qL (v:=?_) rfl (Or.inl ⟨by rfl,?_⟩) ?_
 rotate_left
 focus(intro w' hSw;go_simp;(try with_reducible rfl);done)
 simp only[Act.put,zzA,zzB,zzC]
 refine wpFl_nil ?_
 refine NoPanic.normal ?_
 have HB9:=zh (q_next HB5.out hs_w9)
 have HE9:=zh (HE.out.step HB9.out)
 have HK9:=zh (HK5.out.below hs_w9)
 have HVP9:=zh (HVP5.out.below hs_w9)
 have HCB9:=zh (fun W (hW:Below w9.heap.size w9 W)=>HCB5.out W (q_next hs_w9 hW))
 obtain⟨WF,hWF⟩:∃ WF:Nat→Nat,WF=fun k=>if k=0 then p else q:=⟨_,rfl⟩
 have HWF:=zh hWF
 have HWm:Hid (∀ k,WF k < m):=zh (fun k=>by rw[hWF];dsimp only;split <;> assumption)
 have HAR:Hid (∀ k,k < 2→∀ W,Below w9.heap.size w9 W→W.cell? ⟨ab,k,none⟩=some (.int .i64 (WF k:Int))):=zh (fun k hk W hW=>by
  have h:=two_at ((hW.block ab (ltA hz_ab)).trans hz_ab)
  rw[hWF]
  have:k=0∨k=1:=by omega
  rcases this with rfl | rfl
  ·exact h.1
  ·exact h.2)
 have HM0:=zh (MtAt.start w9)
 clear hz_ab hb_ab hn_w9 hs_w9 HB5 HK5 HVP5 HCB5 hWF HX HI HE HP1 HP2
 go_upto_block 0 with fail
 go_cut [18,19,20] (fun v u t wx=>∃(v' u' t':Value) (zs ys:List (PartP × Value)) (B:Nat) (wl:List VoteP),v=v'∧u=u'∧t=t'∧Hid (zs.map (·.1)=[partW b p O,partW b q O])∧Hid (ys.map (·.1)=[partW b q O,partW b p O])∧Hid (wl=wantW b p O++wantW b q O)∧B≤wx.heap.size∧Hid (Lt v' B)∧Hid (MtAt w9 wx v' zs B u' ys t' wl))
 case first =>
  go_wp2
  go_loopw [18,19,20,64] (fun v u t i wr=>∃(k:Nat) (v' u' t':Value) (zs ys:List (PartP × Value)) (B:Nat) (wl:List VoteP),k≤2∧i=.int .i64 k∧v=v'∧u=u'∧t=t'∧wl.length≤10*k∧Hid (zs.map (·.1)=(List.range k).map fun j=>partW b (WF j) O)∧Hid (ys.map (·.1)=((List.range k).map fun j=>partW b (WF j) O).reverse)∧Hid (wl=(List.range k).flatMap fun j=>wantW b (WF j) O)∧B≤wr.heap.size∧Hid (Lt v' B)∧Hid (MtAt w9 wr v' zs B u' ys t' wl)) (fun _ _ _ i _=>2 - (intOf i).toNat)
  case atStart=>exact⟨0,_,_,_,[],[],w9.heap.size,[],by omega,rfl,rfl,rfl,rfl,by simp,zh rfl,zh rfl,zh rfl,Nat.le_refl _,zh (fun g e=>by cases e),HM0⟩
  case round =>
   clear HM0
   obtain⟨k,v,u,t,zs,ys,B,wl,hk,rfl,rfl,rfl,rfl,hwl,hz,hy,hw,hBs,hL,hM⟩:=hrel
   obtain⟨va,vc,hv⟩:=OwnE.form hM.out.own
   obtain⟨vn,hvn⟩:∃ n,n=(ptcells zs).length:=⟨_,rfl⟩
   rw[← hvn]at hv
   subst hv
   obtain⟨ua,uc,hu⟩:=OwnE.form hM.out.back
   obtain⟨un,hun⟩:∃ n,n=(ptcells ys).length:=⟨_,rfl⟩
   rw[← hun]at hu
   subst hu
   obtain⟨ta,tc,ht⟩:=hM.out.want.form
   obtain⟨tn,htn⟩:∃ n,n=wl.length:=⟨_,rfl⟩
   rw[← htn]at ht
   subst ht
   have hzl:zs.length≤2:=by
    have:=congrArg List.length hz.out
    rw[List.length_map,List.length_map,List.length_range]at this
    omega
   have hyl:ys.length≤2:=by
    have:=congrArg List.length hy.out
    rw[List.length_map,List.length_reverse,List.length_map,List.length_range]at this
    omega
   clear hvn hun htn
   by_cases hlt:k < 2
   ·have tk:(k:Int) < 2:=by omega
    have tk0:(0:Int)≤(k:Int):=by omega
    have hcell:=HAR.out k hlt wr hM.out.below
    have hhm:=HWm.out k
    have HRZ:Hid ((List.range (k+1)).map (fun j=>partW b (WF j) O)=(List.range k).map (fun j=>partW b (WF j) O)++[partW b (WF k) O]):=zh (by rw[List.range_succ,List.map_append];rfl)
    have HRW:Hid ((List.range (k+1)).flatMap (fun j=>wantW b (WF j) O)=(List.range k).flatMap (fun j=>wantW b (WF j) O)++wantW b (WF k) O):=zh (by rw[List.range_succ,List.flatMap_append];simp)
    obtain⟨h,hh⟩:∃ h,h=WF k:=⟨_,rfl⟩
    rw[← hh]at hcell hhm HRZ HRW
    have HWR:=zh (written_any h (HVP9.out.below hM.out.below) (by omega) HFO.out)
    obtain⟨OW,hOW⟩:∃ OW,OW=ownW h O:=⟨_,rfl⟩
    have hOWl:=ownW_len h O
    have HVAL:=zh (own_valid (who:=h) (l:=O) (by have:=HMM.out;omega) HFO.out)
    have HPW:Hid (partW b h O=partS (keyQ h) (h:Int) (entsW OW) (entsW OW).length (shownW (isW b OW.length))):=zh (by rw[hOW];rfl)
    have HWW:Hid (wantW b h O=wantTo b OW OW.length):=zh (by rw[hOW];rfl)
    rw[← hOW]at HWR hOWl HVAL
    clear hh hOW
    go_upto_region 13 with(go_at_call 46;(with_reducible refine HWR.out.mono ?_);rintro e wq ⟨rv,ov,rfl,hrv,hov,hbq⟩;obtain⟨ra,rc,hre⟩:=OwnE.form hrv;obtain⟨oa,oc,hoe⟩:=hov.form;obtain⟨rn,hrn⟩:∃ n,n=(scells (entsW OW)).length:=⟨_,rfl⟩;obtain⟨L,hLe⟩:∃ n,n=OW.length:=⟨_,rfl⟩;rw[← hrn]at hre;rw[← hLe]at hoe;subst hre hoe;have HRN:=zh hrn;have HLE:=zh hLe;clear hrn hLe)
    have HBq:=zh (q_next hM.out.below hbq)
    have HMq:=zh (hM.out.far hbq)
    have HRq:=zh hrv
    have HOq:=zh hov
    have hwrq:=hbq.size
    clear hbq hrv hov HWR
    obtain⟨wb,hwb⟩:∃ W,W=wq.alloc (.cells #[.int .i64 (h:Int),.slice ra rn rc] 85):=⟨_,rfl⟩
    have HV_wb:Hid (wb.heap[wq.heap.size]?=some (.cells #[.int .i64 (h:Int),.slice ra rn rc] 85 (0,0))):=zh (by rw[hwb];exact heap_alloc_new wq _)
    have HS_wb:Hid (Below wq.heap.size wq wb):=zh (by rw[hwb];exact br0.alloc (Nat.le_refl _) _)
    have HB_wb:=zh (q_next HBq.out HS_wb.out)
    rw[← hwb]
    obtain⟨br,hbr⟩:∃ b,b=wq.heap.size:=⟨_,rfl⟩
    rw[← hbr]at HV_wb ⊢
    clear hwb hbr
    have HMb:=zh (HMq.out.far HS_wb.out)
    have HRb:=zh (OwnE.far HRq.out HS_wb.out (Nat.le_refl _))
    have HOb:=zh (OwnE.far HOq.out HS_wb.out (Nat.le_refl _))
    obtain⟨R0,hR0⟩:∃ r,r=(Value.slice ta tn tc).ownBlock:=⟨_,rfl⟩
    have HR0:=zh hR0
    have hlt0:∀ g,R0=some g→g < wr.heap.size:=fun g e=>(World.ownsRow.lt hM.out.want g (hR0.symm.trans e)).2
    have HO3:Hid (∀ j y,OW[j]?=some y→∃ ob off,oa=some ⟨ob,off,none⟩∧ob < wb.heap.size∧some ob≠R0∧VAt wb ob (off+j*5) y):=zh (fun j y hy=>by
     obtain⟨a',c',e,-,-,h3⟩:=(OwnV.vs HOb.out).opened
     obtain⟨ob,off,e2,h4,h5⟩:=h3 j y hy
     injection e with e1 _ _
     have e3:=e1.trans e2
     refine⟨ob,off,e3,h4,fun e4=>?_,h5⟩
     have h6:=hlt0 ob e4.symm
     rw[e3]at HOb
     have h7:=OwnE.ge HOb.out ob rfl
     omega)
    have HMW:=zh (fun j (hj:j≤L)=>want_len b OW j)
    have HT0:Hid (OwnV wb w9.heap.size (.slice ta tn tc) (wl++wantTo b OW 0)):=zh (by
     have:wantTo b OW 0=[]:=rfl
     rw[this,List.append_nil]
     exact HMb.out.want)
    have hwl2:wl.length≤20:=by omega
    have hL10:L≤10:=by rw[HLE.out];exact hOWl
    clear hR0 hlt0 HMq HRq HOq
    go_upto_block 2 with fail
    go_cut [20,25] (fun t l wx=>∃(t' l':Value),t=t'∧l=l'∧Hid (wb.grownBy wx R0)∧Hid (OwnV wx w9.heap.size t' (wl++wantTo b OW L))∧Hid (OwnI wx wb.heap.size l' (castI (shownW (isW b L)))))
    case first =>
     go_wp2
     go_loopw [20,25,26] (fun t l j wx=>∃(i:Nat) (t' l':Value),i≤L∧j=.int .i64 i∧t=t'∧l=l'∧Hid (wb.grownBy wx R0)∧Hid (OwnV wx w9.heap.size t' (wl++wantTo b OW i))∧Hid (OwnI wx wb.heap.size l' (castI (shownW (isW b i))))∧Hid (t'.ownBlock=R0∨∀ g,t'.ownBlock=some g→wb.heap.size≤g)) (fun _ _ j _=>L - (intOf j).toNat)
     case atStart=>exact⟨0,_,_,by omega,rfl,rfl,rfl,zh (grown_refl _ _),HT0,zh (OwnE.nil _ _ _ _),zh (.inl HR0.out.symm)⟩
     case round =>
      clear HT0
      obtain⟨i,t',l',hi,rfl,rfl,rfl,hG,hT,hI,hN⟩:=hrel
      obtain⟨ta',tc',ht'⟩:=hT.out.form
      obtain⟨XL,hXL⟩:∃ X,X=wl++wantTo b OW i:=⟨_,rfl⟩
      have hXl:XL.length≤1000:=by
       have:=want_len b OW i
       rw[hXL,List.length_append]
       omega
      rw[← hXL]at hT ht'
      have HXE:=zh hXL
      obtain⟨tn',htn'⟩:∃ n,n=XL.length:=⟨_,rfl⟩
      rw[← htn']at ht'
      subst ht'
      obtain⟨la',lc',hl'⟩:=OwnE.form hI.out
      obtain⟨ln',hln'⟩:∃ n,n=(icells (castI (shownW (isW b i)))).length:=⟨_,rfl⟩
      rw[← hln']at hl'
      subst hl'
      have HNN:=zh htn'
      clear hXL htn' hln'
      by_cases hlti:i < L
      ·have ti:(i:Int) < (L:Int):=by omega
       have ti0:(0:Int)≤(i:Int):=by omega
       obtain⟨y,ey⟩:∃ y,OW[i]?=some y:=⟨_,List.getElem?_eq_getElem (by rw[← HLE.out];exact hlti)⟩
       obtain⟨ob,off,rfl,hob,hor,hoy⟩:=HO3.out i y ey
       have HWS:=zh (want_snoc (b:=b) ey)
       have HSS:=zh (shownW_snoc b i)
       have hsl:=shownW_len b i
       have HYC:=zh (fun W (hW:wb.grownBy W R0)=>hoy.grown hob hor hW)
       obtain⟨tt,htt⟩:∃ t,t=b / 2 ^ i:=⟨_,rfl⟩
       have hsh:(b:Int) / 2 ^ i=(tt:Int):=by rw[htt];push_cast;rfl
       have HBT:Hid (bitW b i=decide (tt % 2=1)):=zh (by rw[htt];rfl)
       obtain⟨XS,hXS⟩:∃ X,X=castI (shownW (isW b i)):=⟨_,rfl⟩
       have hXSl:XS.length≤100:=by
        rw[hXS]
        unfold castI
        rw[List.length_map]
        omega
       rw[← hXS]at hI
       have HXS:=zh hXS
       obtain⟨ycar,ynum,ystp,yv,yl⟩:=y
       clear ey hoy htt hXS hsl
       by_cases hbit:tt % 2=1
       ·have hr2:(tt:Int) % 2=1:=by omega
        have HW2:Hid (wl++wantTo b OW (i+1)=XL++[⟨ycar,ynum,ystp,yv,yl⟩]):=zh (by rw[HWS.out,if_pos (by rw[HBT.out];exact decide_eq_true hbit),← List.append_assoc,← HXE.out])
        have HS2:Hid (castI (shownW (isW b (i+1)))=XS++[2*(i:Int),2*(i:Int)+1]):=zh (by
         rw[HSS.out,if_pos (by rw[HBT.out];exact decide_eq_true hbit),castI_app,← HXS.out]
         simp[castI])
        have hm2:IntKind.i64.wrap (2*(i:Int))=2*(i:Int):=IntWalk.i64_in _ (by omega)
        have hm3:IntKind.i64.wrap (2*(i:Int)+1)=2*(i:Int)+1:=IntWalk.i64_in _ (by omega)
        go_upto_region 18 with(go_at_call 16;(with_reducible refine(HP3.out _).mono ?_);rintro e w' ⟨rfl,hw'⟩;replace hw':=hw'.symm;subst hw')
        have HIA:=zh (OwnE.alloc hI.out (.cells #[.int .i64 (2*(i:Int)),.int .i64 (2*(i:Int)+1)] 3))
        have HNA:=zh (heap_alloc_new wr (.cells #[.int .i64 (2*(i:Int)),.int .i64 (2*(i:Int)+1)] 3))
        have HBA:Hid (wb.heap.size≤(wr.alloc (.cells #[.int .i64 (2*(i:Int)),.int .i64 (2*(i:Int)+1)] 3)).heap.size):=zh (by have:=hG.out.size;simp;omega)
        have hxs:XS.length≤100000:=by omega
        go_upto_region 19 with(at_builtin;refine wpList_append_ints2 rfl _ _ wb.heap.size _ XS (2*(i:Int)) (2*(i:Int)+1) wr.heap.size _ HIA.out hxs HBA.out HNA.out rfl rfl rfl ?_;intro l7 w7 hown7 hgr7;have HI7:=zh hown7;have HG7:=zh (grown_row (grown_alloc hG.out _) hgr7 (.inr (fun g e=>OwnE.ge hI.out g e)));have HT7:=zh (OwnE.other HIA.out (OwnE.alloc hT.out _) (by decide) hgr7);obtain⟨la7,lc7,hl7⟩:=OwnE.form hown7;obtain⟨ln7,hln7⟩:∃ n,n=(icells (XS++[2*(i:Int),2*(i:Int)+1])).length:=⟨_,rfl⟩;rw[← hln7]at hl7;clear hown7 hgr7 hln7;subst hl7)
        obtain⟨y0,y1,y2,y3,y4⟩:=HYC.out w7 HG7.out
        (try simp only at y0 y1 y2 y3 y4)
        have HOA:=zh (OwnE.alloc HT7.out (.cells #[.int .i64 ycar,.int .i64 ynum,.int .i64 ystp,.string yv,.string yl] 27))
        have HNB:=zh (heap_alloc_new w7 (.cells #[.int .i64 ycar,.int .i64 ynum,.int .i64 ystp,.string yv,.string yl] 27))
        have HBB:Hid (w9.heap.size≤(w7.alloc (.cells #[.int .i64 ycar,.int .i64 ynum,.int .i64 ystp,.string yv,.string yl] 27)).heap.size):=zh (by have h1:=HG7.out.size;have h2:=HB_wb.out.size;simp;omega)
        have hxl:XL.length≤1000000:=by omega
        clear HIA HNA HBA
        go_wp2_with (at_builtin;refine wpList_append_voteB _ _ w9.heap.size _ XL ⟨ycar,ynum,ystp,yv,yl⟩ w7.heap.size _ HOA.out hxl HBB.out HNB.out rfl rfl rfl rfl ?_;intro g9 c9 w12 hown9 hgr9 hgg9;have HT9:=zh hown9;have HG9:=zh (grown_row (grown_alloc HG7.out _) hgr9 hN.out);have HI9:=zh (OwnE.other HOA.out (OwnE.alloc HI7.out _) (by decide) hgr9);have HGG:=zh hgg9;clear hown9 hgr9 hgg9)
        go_roundw
        case rel =>
         refine⟨i+1,_,_,by omega,by go_num,rfl,rfl,HG9,by rw[HW2.out];exact HT9,by rw[HS2.out];exact HI9,zh ?_⟩
         rcases HGG.out with e | e
         ·rcases hN.out with e2 | e2
          ·exact .inl (e.symm.trans e2)
          ·exact .inr (fun g eg=>e2 g (e.trans eg))
         ·refine .inr (fun g eg=>?_)
          have e3:g9=g:=Option.some.inj eg
          have h1:=HG7.out.size
          rw[← e3,e]
          simp
          omega
        case measure=>simp[intOf];omega
       ·have hr2:(tt:Int) % 2=0:=by omega
        have HW2:Hid (wl++wantTo b OW (i+1)=XL):=zh (by rw[HWS.out,if_neg (by rw[HBT.out,decide_eq_false hbit];decide),List.append_nil,← HXE.out])
        have HS2:Hid (castI (shownW (isW b (i+1)))=XS):=zh (by rw[HSS.out,if_neg (by rw[HBT.out,decide_eq_false hbit];decide),List.append_nil,← HXS.out])
        go_wp2_with (go_at_call 16;(with_reducible refine(HP3.out _).mono ?_);rintro e w' ⟨rfl,hw'⟩;replace hw':=hw'.symm;subst hw')
        go_roundw
        case rel=>exact⟨i+1,_,_,by omega,by go_num,rfl,rfl,hG,by rw[HW2.out];exact hT,by rw[HS2.out];exact hI,hN⟩
        case measure=>simp[intOf];omega
      ·obtain rfl:i=L:=by omega
       have ti:¬ (i:Int) < (i:Int):=by omega
       go_wp2
       go_meet
       case rel=>exact⟨_,_,rfl,rfl,hG,by rw[← HXE.out];exact hT,hI⟩
    case rest =>
    obtain⟨t',l',ht20,hl25,HGc,HTc,HIc⟩:=hcut
    replace ht20:=ht20.symm
    replace hl25:=hl25.symm
    subst ht20 hl25
    obtain⟨ta2,tc2,ht2⟩:=HTc.out.form
    obtain⟨tn2,htn2⟩:∃ n,n=(wl++wantTo b OW L).length:=⟨_,rfl⟩
    rw[← htn2]at ht2
    obtain⟨la,lc,hl2⟩:=OwnE.form HIc.out
    obtain⟨ln,hln⟩:∃ n,n=(icells (castI (shownW (isW b L)))).length:=⟨_,rfl⟩
    rw[← hln]at hl2
    subst ht2 hl2
    clear htn2 hln
    have hgc:wb.grownBy wc (Value.slice ta tn tc).ownBlock:=by rw[← HR0.out];exact HGc.out
    have HMc:=zh (HMb.out.votes hgc HTc.out)
    have HSc:=zh (OwnS.ss (OwnE.other HMb.out.want HRb.out (by decide) hgc))
    have HVc:=zh ((hgc.block br (ltA HV_wb.out) (reg_own HMb.out.want HV_wb.out (by decide))).trans HV_wb.out)
    have hwc1:=hgc.size
    have hwb1:=HS_wb.out.size
    obtain⟨siz,root,sl,its,hpe,-,-,-,-⟩:=partW_let b h HFO.out
    have HPE:=zh hpe
    obtain⟨pl,hpl⟩:∃ n,n=its.length:=⟨_,rfl⟩
    have HSH:Hid (∀ W,Below wc.heap.size wc W→Calls Tryz.prog 47 #[.string (keyQ h),.agg #[.int .i64 (h:Int),.slice ra rn rc],.int .i64 (rn:Int),.slice la ln lc] W fun e w'=>∃(a:Option Addr) (c:Nat),e=.returned (.tuple #[.agg #[.int .i64 (h:Int),.int .i64 siz,.string root,.string sl,.slice a pl c],.int .i64 0])∧IT w' (.slice a pl c) its∧Below W.heap.size W w'):=zh (fun W hW=>by
     have hrn:rn=(entsW OW).length:=by rw[HRN.out];unfold scells;rw[List.length_map]
     have hs:=HSc.out.below hW
     have hE:=HE9.out.step (q_next HMc.out.below hW)
     rw[hrn]at hs ⊢
     rw[hpl]
     refine show_part hs (IL.below (show IL wc (.slice la ln lc) (castI (shownW (isW b L)))from OwnI.is HIc.out) hW) (keyQ_size h) HVAL.out (shown_asc _ (isW_asc b L)) ?_ ?_ hE.env hE.round (h:Int) siz root sl its ?_
     ·rw[entsW_len,← HLE.out]
      exact shown_lt _ _ fun i hi=>isW_lt hi
     ·have:=shownW_len b L
      omega
     ·rw[← HPE.out,HPW.out,← HLE.out])
    have HCR:=zh (fun W (hW:Below wc.heap.size wc W)=>And.intro (HCB9.out W (q_next HMc.out.below hW)).1 (And.intro ((HCB9.out W (q_next HMc.out.below hW)).2 h hhm) (two_at ((hW.block br (ltA HVc.out)).trans HVc.out))))
    have hvlt:∀ g,(Value.slice va vn vc).ownBlock=some g→g < wr.heap.size:=fun g e=>(World.ownsRow.lt hM.out.own g e).2
    have HVL:=zh hvlt
    have th0:(0:Int)≤(h:Int):=by omega
    have thm:(h:Int) < (m:Int):=by omega
    clear hpe hpl hgc hvlt HGc HTc HIc HMb HRb HOb HO3 HV_wb HT0 HMW
    go_upto_region 20 with fail
    refine wp_region_noPanic ?_
    refine wp_region_lexB [.q 0,.q 1,.q 2,.q 3,.q 4,.q 5,.q 6,.q 7,.q 8,.q 9,.an 14,.b 10,.q 11,.q 12,.q 13,.co 14,.b 15,.q 16] (by kernel_rfl) (by kernel_rfl) (fun _ _ _ _ h=>h) ?_
    iterate 10(refine wpFl_qL (v:=?_) rfl (Or.inl ⟨by rfl,?_⟩) ?_;rotate_left;(focus(intro w' hSw;obtain⟨c0,kk,r0,r1⟩:=HCR.out w' hSw;go_simp;(try with_reducible rfl);done));simp only[Act.put,zzA,zzB,zzC])
    refine wpFl_anL rfl (.cells #[.int .i64 0,.int .i64 0,.string ⟨#[]⟩,.string ⟨#[]⟩,.slice none 0 0] 92 (0,0)) (fun n=>.pointer (some ⟨n,0,none⟩)) ⟨by rfl,fun w'=>?_⟩ ?_
    focus(go_simp;done)
    refine wpFl_bL rfl (fun waa hnaa hsaa K hK=>?_)
    go_simp
    go_at_call 47
    (with_reducible refine(HSH.out _ hsaa).mono ?_)
    rintro e wba ⟨pa1,pc1,rfl,hit,hba⟩
    have HIT:=zh hit
    clear hit
    refine hK.out _ _ (q_next hsaa hba) (Keeps.below hba) ?_
    clear hK K hnaa hsaa
    iterate 3(refine wpFl_qL (v:=?_) rfl (Or.inl ⟨by rfl,?_⟩) ?_;rotate_left;(focus(intro w' hSw;go_simp;(try with_reducible rfl);done));simp only[Act.put,zzA,zzB,zzC])
    refine wpFl_coL rfl (.cells #[.int .i64 0,.int .i64 0,.string ⟨#[]⟩,.string ⟨#[]⟩,.slice none 0 0] 92 (0,0)) (fun n=>.pointer (some ⟨n,0,none⟩)) (by rfl) (N':=[]) (by rfl) (fun pb wk hn_wk hs_wk hb_pb hz_pb=>?_)
    simp only[Act.put,zzA,zzB,zzC]
    refine wpFl_bL rfl (fun wf hnf hsf K hK=>?_)
    have HZ:=zh ((hnf.block pb (ltA hz_pb)).trans hz_pb)
    have HIT2:=zh (IT.below (IT.below HIT.out hn_wk) hnf)
    obtain⟨z0,z1,z2,z3,z4⟩:=pfive HZ.out
    have zf:∀ j,wf.frozen? ⟨pb,j,none⟩=false:=fun j=>by unfold World.frozen?;rw[HZ.out];simp
    go_simp
    refine hK.out _ _ (five_below hsf hb_pb _ _ _ _ _) Keeps.nil ?_
    clear hK K
    have HP20:=zh (five_heap HZ.out (.int .i64 (h:Int)) (.int .i64 siz) (.string root) (.string sl) (.slice pa1 pl pc1))
    have HB20:=zh (five_below hsf hb_pb (.int .i64 (h:Int)) (.int .i64 siz) (.string root) (.string sl) (.slice pa1 pl pc1))
    have HIT20:=zh (IT.grownT HIT2.out HZ.out (by decide) (by decide) (five_grown wf pb (.int .i64 (h:Int)) (.int .i64 siz) (.string root) (.string sl) (.slice pa1 pl pc1)))
    have hpbw:wc.heap.size≤pb:=hb_pb
    generalize (((((wf.setCell ⟨pb,0,none⟩ (.int .i64 (h:Int))).setCell ⟨pb,1,none⟩ (.int .i64 siz)).setCell ⟨pb,2,none⟩ (.string root)).setCell ⟨pb,3,none⟩ (.string sl)).setCell ⟨pb,4,none⟩ (.slice pa1 pl pc1))=w20 at *
    clear z0 z1 z2 z3 z4 zf HZ HIT HIT2 hnf hsf hn_wk hs_wk hz_pb hb_pb HSH HCR
    refine wpFl_qL (v:=?_) rfl (Or.inl ⟨by rfl,?_⟩) ?_
    rotate_left
    focus(intro w' hSw;go_simp;(try with_reducible rfl);done)
    simp only[Act.put,zzA,zzB,zzC]
    refine wpFl_nil ?_
    refine NoPanic.normal ?_
    have HM20:=zh (HMc.out.far HB20.out)
    obtain⟨PZ,hPZ⟩:∃ z:PartP × Value,z=(⟨⟨(h:Int),siz,root,sl⟩,its⟩,.slice pa1 pl pc1):=⟨_,rfl⟩
    have HPZ:=zh hPZ
    have HMl:=zh (HM20.out.far (br0.alloc (Nat.le_refl _) (.cells #[.int .i64 (h:Int),.int .i64 siz,.string root,.string sl,.slice pa1 pl pc1] 92)))
    have HIl:=zh (HIT20.out.below (br0.alloc (Nat.le_refl _) (.cells #[.int .i64 (h:Int),.int .i64 siz,.string root,.string sl,.slice pa1 pl pc1] 92)))
    have HPl:Hid (PS (w20.alloc (.cells #[.int .i64 (h:Int),.int .i64 siz,.string root,.string sl,.slice pa1 pl pc1] 92)) (.slice (some ⟨w20.heap.size,0,none⟩) 1 1) [PZ]):=zh (by
     rw[hPZ]
     exact PS.oneM (heap_alloc_new w20 _) HIl.out)
    have hzl1:zs.length+[PZ].length≤1000000:=by simp;omega
    have hyl1:[PZ].length+ys.length≤1000000:=by simp;omega
    have hbl1:=HMl.out.below.size
    have hpb20:=(ltA HP20.out)
    have HNE:Hid (some pb≠(Value.slice va vn vc).ownBlock):=zh (fun e=>by
     have:=HVL.out pb e.symm
     omega)
    have HITP:Hid (IT (w20.alloc (.cells #[.int .i64 (h:Int),.int .i64 siz,.string root,.string sl,.slice pa1 pl pc1] 92)) PZ.2 PZ.1.items):=zh (by rw[hPZ];exact HIl.out)
    have hpb21:pb < (w20.alloc (.cells #[.int .i64 (h:Int),.int .i64 siz,.string root,.string sl,.slice pa1 pl pc1] 92)).heap.size:=by simp;omega
    clear hPZ
    obtain⟨c0,c1,c2,c3,c4⟩:=pfive HP20.out
    go_upto_region 24 with(at_builtin;refine wpList_append_partsM rfl _ _ w9.heap.size (.slice va vn vc) zs [PZ] (.slice (some ⟨w20.heap.size,0,none⟩) 1 1) HMl.out.own HPl.out hzl1 hbl1 rfl rfl rfl ?_;intro v7 w7 hown7 hgr7;have HM23:=zh (HMl.out.part hL.out HITP.out hgr7 hown7);have HP23:=zh ((hgr7.block pb hpb21 HNE.out).trans (alloc_at HP20.out));obtain⟨va7,vc7,hv7⟩:=OwnE.form hown7;obtain⟨vn7,hvn7⟩:∃ n,n=(ptcells (zs++[PZ])).length:=⟨_,rfl⟩;rw[← hvn7]at hv7;clear hown7 hgr7 hvn7;subst hv7)
    clear c0 c1 c2 c3 c4
    obtain⟨c0,c1,c2,c3,c4⟩:=pfive HP23.out
    have HOl:Hid (OwnE (w7.alloc (.cells #[.int .i64 (h:Int),.int .i64 siz,.string root,.string sl,.slice pa1 pl pc1] 92)) w7.heap.size 92 5 (.slice (some ⟨w7.heap.size,0,none⟩) 1 1) (ptcells [PZ])):=zh (by
     rw[HPZ.out]
     exact World.ownsRow_lit w7 #[.int .i64 (h:Int),.int .i64 siz,.string root,.string sl,.slice pa1 pl pc1] 1 (Nat.le_refl _) (by decide) rfl)
    have HBl7:=zh (HM23.out.far (br0.alloc (Nat.le_refl _) (.cells #[.int .i64 (h:Int),.int .i64 siz,.string root,.string sl,.slice pa1 pl pc1] 92))).bs
    have hbl2:w7.heap.size≤(w7.alloc (.cells #[.int .i64 (h:Int),.int .i64 siz,.string root,.string sl,.slice pa1 pl pc1] 92)).heap.size:=by simp
    go_wp2_with (at_builtin;refine wpList_append_partsM rfl _ _ w7.heap.size _ [PZ] ys (.slice ua un uc) HOl.out HBl7.out hyl1 hbl2 rfl rfl rfl ?_;intro u9 w12 hown9 hgr9;have HB12:=zh ((br0.alloc (Nat.le_refl _) _).grown hgr9 hbl2 (fun j e=>OwnE.ge HOl.out j e));have HT:=zh (HM23.out.turn HB12.out hown9 (fun z hz=>by
     rcases List.mem_append.1 hz with hz | hz
     ·rw[List.mem_singleton.1 hz]
      exact(HM23.out.its PZ (by simp)).below HB12.out
     ·exact(HM23.out.bits z hz).below HB12.out));obtain⟨ua9,uc9,hu9⟩:=OwnE.form hown9;obtain⟨un9,hun9⟩:∃ n,n=(ptcells ([PZ]++ys)).length:=⟨_,rfl⟩;rw[← hun9]at hu9;clear hown9 hgr9 hun9;subst hu9)
    go_roundw
    case rel =>
     refine⟨k+1,_,_,_,zs++[PZ],[PZ]++ys,w7.heap.size,wl++wantTo b OW L,by omega,by go_num,rfl,rfl,rfl,?_,zh ?_,zh ?_,zh ?_,HB12.out.size,zh HT.out.2,zh HT.out.1⟩
     ·have:=want_len b OW L
      rw[List.length_append]
      omega
     ·rw[List.map_append,hz.out,HRZ.out,HPZ.out,HPE.out]
      rfl
     ·rw[List.map_append,hy.out,HRZ.out,List.reverse_append,HPZ.out,HPE.out]
      rfl
     ·rw[HRW.out,HWW.out,← HLE.out,← hw.out]
    case measure=>simp[intOf];omega
   ·obtain rfl:k=2:=by omega
    have tk:¬ ((2:Nat):Int) < 2:=by omega
    have h0:WF 0=p:=by rw[HWF.out];rfl
    have h1:WF 1=q:=by rw[HWF.out];rfl
    have hr2:List.range 2=[0,1]:=rfl
    rw[hr2]at hz hy hw
    simp only[List.map_cons,List.map_nil,List.reverse_cons,List.reverse_nil,List.nil_append,List.cons_append,List.flatMap_cons,List.flatMap_nil,List.append_nil,h0,h1]at hz hy hw
    go_wp2
    go_meet
    case rel=>exact⟨_,_,_,zs,ys,B,wl,rfl,rfl,rfl,hz,hy,hw,hBs,hL,hM⟩
 case rest =>
 obtain⟨v,u,t,zs,ys,B,wl,hv,hu,ht,hz,hy,hw,hBf,HLF,hM⟩:=hcut
 replace hv:=hv.symm
 replace hu:=hu.symm
 replace ht:=ht.symm
 subst hv hu ht
 rename_i hKK
 obtain⟨iv1,iv2,hzs⟩:∃ i1 i2,zs=[(partW b p O,i1),(partW b q O,i2)]:=by
  have hz:=hz.out
  match zs,hz with
  | [(_,j1),(_,j2)],hz =>
   simp only[List.map_cons,List.map_nil]at hz
   injection hz with e1 e2
   injection e2 with e2 _
   subst e1 e2
   exact⟨j1,j2,rfl⟩
 obtain⟨jv2,jv1,hys⟩:∃ i1 i2,ys=[(partW b q O,i1),(partW b p O,i2)]:=by
  have hy:=hy.out
  match ys,hy with
  | [(_,j1),(_,j2)],hz =>
   simp only[List.map_cons,List.map_nil]at hz
   injection hz with e1 e2
   injection e2 with e2 _
   subst e1 e2
   exact⟨j1,j2,rfl⟩
 have hwe:=hw.out
 rw[hzs,hys,hwe]at hM
 have HMF:=hM
 clear hz hy hw hzs hys hwe hM
 refine hKK _ _ (wp_of_eqM (meets_ask HB9 HE9 bc m kc kb ko b p q B v u t iv1 iv2 jv1 jv2 O at1 value HMM.out hp hq HFO i4 i5 HK9 HCB9 HMF HLF hBf).choose_spec.2 ?_)
 exact tailQM4 (meets_ask HB9 HE9 bc m kc kb ko b p q B v u t iv1 iv2 jv1 jv2 O at1 value HMM.out hp hq HFO i4 i5 HK9 HCB9 HMF HLF hBf).choose_spec.1
end Go.Proofs.YtggdcnjaofflbaaGreatDoor
