/- Walk of the law: TopReclaims. The conditions: the types' ranges, what the slice reads as. -/
import Derived.Test.YtjjiikeldpjafaaGreatDoorTT30
namespace Go.Proofs.YtjjiikeldpjafaaGreatDoor
open Go.RowKit Go.BigFrame
set_option maxHeartbeats 16000000 in
set_option maxRecDepth 100000 in
theorem top_walk (hd r0 r1 s0 s1 cr sr x1 x2 x3 y0 y1 y2 y3 x5 x6 x7 x8:Int){w:World}{u:Value}{ys:List Y5}(ix:I64 hd∧I64 r0∧I64 r1∧I64 s0∧I64 s1∧I64 cr∧I64 sr)(i1:I64 x1)(i2:I64 x2)(i3:I64 x3)(iy:I64 y0∧I64 y1∧I64 y2∧I64 y3)(i5:I64 x5)(i6:I64 x6)(i7:I64 x7)(i8:I64 x8)
  (hy:Y5S w u ys) (hyi:∀ y∈ys,I64 y.1∧I64 y.2.1∧I64 y.2.2.1∧I64 y.2.2.2.1∧I64 y.2.2.2.2) (he:Env w∧0 < w.heap.size) :
  Calls Tryz.prog 3 #[.agg #[.int .i64 hd,.int .i64 r0,.int .i64 r1,.int .i64 s0,.int .i64 s1,.int .i64 cr,.int .i64 sr,u],.int .i64 x1,.int .i64 x2,.int .i64 x3,.agg #[.int .i64 y0,.int .i64 y1,.int .i64 y2,.int .i64 y3],.int .i64 x5,.int .i64 x6,.int .i64 x7,.int .i64 x8] w fun e w'=>e=.returned (.bool true)∧Below w.heap.size w w':=by
 obtain⟨ya,n,yc,rfl⟩:∃ ya n yc,u=.slice ya n yc:=by
  obtain⟨a,c,h,-⟩:=id hy
  exact⟨a,_,c,h⟩
 have HM15:=zh (fun W (hW:Below w.heap.size w W)=>made15_any (w:=W) hd r0 r1 s0 s1 cr sr ix.1 ix.2.1 ix.2.2.1 ix.2.2.2.1 ix.2.2.2.2.1 ix.2.2.2.2.2.1 ix.2.2.2.2.2.2 (SliceAt.below hy hW) hyi)
 have hX:signW (pickI hd 10) (pickI cr 8) (pickI sr 1000) (stS (ys.take 4) (s0S hd r0 r1 s0 s1))=wishT (pickI hd 10) (pickI cr 8) (pickI sr 1000) (stS (ys.take 4) (s0S hd r0 r1 s0 s1)) (sealK (keyW (stS (ys.take 4) (s0S hd r0 r1 s0 s1)).who) (wishC (wishT (pickI hd 10) (pickI cr 8) (pickI sr 1000) (stS (ys.take 4) (s0S hd r0 r1 s0 s1)) ⟨#[]⟩))):=rfl
 rw[hX]at HM15
 have hS:=s0_ok hd r0 r1 s0 s1
 have hF:=st_ok (ys.take 4) hS
 have hca:=pickI_range cr (show(0:Int) < 8 by omega)
 have hse:=pickI_range sr (show(0:Int) < 1000 by omega)
 have hho:=pickI_range hd (show(0:Int) < 10 by omega)
 have HCA:=zh (fun sl hsl=>made_caok hS ys hca hse sl hsl)
 have hw0:(s0S hd r0 r1 s0 s1).who=pickI hd 10:=rfl
 rw[hw0]at HCA
 clear hX hw0 hS hy hyi ix
 generalize chS (ys.take 4) (s0S hd r0 r1 s0 s1)=L at *
 generalize stS (ys.take 4) (s0S hd r0 r1 s0 s1)=F at *
 generalize pickI cr 8=ctI at *
 generalize pickI hd 10=ho at *
 generalize pickI sr 1000=se at *
 obtain⟨ct,rfl⟩:=Int.eq_ofNat_of_zero_le hca.1
 obtain⟨who,rf,rt,sf,st⟩:=F
 obtain⟨⟨w1,w2⟩,⟨f1,f2,f3⟩,g1,g2,g3⟩:=hF
 simp only at w1 w2 f1 f2 f3 g1 g2 g3
 obtain⟨sg,rfl⟩:=Int.eq_ofNat_of_zero_le w1
 unfold wishT at HM15 HCA
 simp only at HM15 HCA
 obtain⟨C,hC⟩:∃ C,C=wishC { sg:=(sg:Int),ho:=ho,rf:=rf,rt:=rt,ca:=(ct:Int),se:=se,sf:=sf,st:=st,sl:=⟨#[]⟩ }:=⟨_,rfl⟩
 have HC:=zh hC
 rw[← hC]at HM15
 obtain⟨sl,hsl⟩:∃ sl,sl=sealK (keyW (sg:Int)) C:=⟨_,rfl⟩
 have HSL:=zh hsl
 have hsz:sl.size=32:=by rw[hsl];rfl
 rw[← hsl]at HM15
 clear hC hsl
 obtain⟨cf,hcf⟩:∃ cf,cf=fromI (ct:Int) x1:=⟨_,rfl⟩
 have hcr:=fromI_range (ct:Int) x1
 have hcn:=fromI_ne (ct:Int) x1
 rw[← hcf]at hcr hcn
 have HMT:Hid (∀ W,Below w.heap.size w W→Calls Tryz.prog 4 #[.agg #[.int .i64 hd,.int .i64 r0,.int .i64 r1,.int .i64 s0,.int .i64 s1,.int .i64 cr,.int .i64 sr,.slice ya n yc],.int .i64 x1] W fun e w'=>∃ la ln lc,e=.returned (.agg #[.int .i64 (sg:Int),.int .i64 ho,.int .i64 rf,.int .i64 rt,.int .i64 (ct:Int),.int .i64 se,.int .i64 sf,.int .i64 st,.string sl,.slice la ln lc,.int .i64 rf,.int .i64 cf,.int .i64 (ct:Int),.int .i64 ho,.int .i64 sf,.bool false])∧PrS w' (.slice la ln lc) L∧Below W.heap.size W w'):=zh (fun W hW=>by
  rw[hcf]
  exact madeT_gen hd r0 r1 s0 s1 cr sr x1 ya n yc i1 ⟨(sg:Int),ho,rf,rt,(ct:Int),se,sf,st,sl⟩ L hca (zh (fun V hV=>HM15.out V (q_next hW hV))))
 have HCS1:Hid (∀ sl':ByteArray,wishC { sg:=(sg:Int),ho:=ho,rf:=rf,rt:=rt,ca:=(ct:Int),se:=se,sf:=sf,st:=st,sl:=sl' }=C):=zh (fun sl'=>by rw[HC.out];rfl)
 have HSD:Hid (∀ sl':ByteArray,sealedW { sg:=(sg:Int),ho:=ho,rf:=rf,rt:=rt,ca:=(ct:Int),se:=se,sf:=sf,st:=st,sl:=sl' }=decide (sl'=sealK (keyW (sg:Int)) C)):=zh (fun sl'=>by
  have h:=HCS1.out sl'
  show decide (sl'=sealK (keyW (sg:Int)) (wishC { sg:=(sg:Int),ho:=ho,rf:=rf,rt:=rt,ca:=(ct:Int),se:=se,sf:=sf,st:=st,sl:=sl' }))=_
  rw[h])
 have HCZ:Hid (C.size≤100000):=zh (by
  rw[HC.out]
  have h:=putsN_len (wishI { sg:=(sg:Int),ho:=ho,rf:=rf,rt:=rt,ca:=(ct:Int),se:=se,sf:=sf,st:=st,sl:=⟨#[]⟩ })
  have h2:(wishC { sg:=(sg:Int),ho:=ho,rf:=rf,rt:=rt,ca:=(ct:Int),se:=se,sf:=sf,st:=st,sl:=⟨#[]⟩ }).size=(putsN (wishI { sg:=(sg:Int),ho:=ho,rf:=rf,rt:=rt,ca:=(ct:Int),se:=se,sf:=sf,st:=st,sl:=⟨#[]⟩ })).length:=by
   unfold wishC bytesOf
   first | rfl | simp[ByteArray.size]
  have h3:(wishI { sg:=(sg:Int),ho:=ho,rf:=rf,rt:=rt,ca:=(ct:Int),se:=se,sf:=sf,st:=st,sl:=⟨#[]⟩ }).length=9:=rfl
  omega)
 clear hcf HM15 HC i1
 obtain⟨pk,hpk⟩:∃ pk:Nat,pickI x3 200=(pk:Int):=Int.eq_ofNat_of_zero_le (pickI_range x3 (show(0:Int) < 200 by omega)).1
 have hpk2:=(pickI_range x3 (show(0:Int) < 200 by omega)).2
 have HPK3:=zh (fun W=>pickT_any x3 200 W i3 (by omega) (by omega))
 rw[hpk]at HPK3 hpk2
 clear hpk i3
 obtain⟨kk,hkk⟩:∃ kk:Nat,kk=10+pk:=⟨_,rfl⟩
 have e1:IntKind.i64.wrap (10+(pk:Int))=(kk:Int):=by rw[hkk];exact(IntWalk.i64_in _ (by omega)).trans (by omega)
 have hkk1:10≤kk∧kk < 210:=by omega
 clear hkk hpk2
 have HK15:=zh (fun W=>key15_any kk (by omega) W)
 obtain⟨skey,hskey⟩:∃ k,k=keyW (kk:Int):=⟨_,rfl⟩
 have HSKE:=zh hskey
 have HSK:Hid (skey.size=32):=zh (by rw[hskey];exact keyW_size _)
 rw[← hskey]at HK15
 clear hskey
 obtain⟨pv,hpv⟩:∃ pv,pv=pickI x2 2:=⟨_,rfl⟩
 have HPV:=zh hpv
 have HPK2:=zh (fun W=>pickT_any x2 2 W i2 (by omega) (by omega))
 rw[← hpv]at HPK2
 clear hpv
 have HE:=zh he
 clear he
 obtain⟨W1,hW1⟩:∃ W1,W1=w.alloc (.cells #[.int .i64 hd,.int .i64 r0,.int .i64 r1,.int .i64 s0,.int .i64 s1,.int .i64 cr,.int .i64 sr,.slice ya n yc] 25):=⟨_,rfl⟩
 have HBW1:Hid (Below w.heap.size w W1):=zh (by rw[hW1];exact br0.alloc (Nat.le_refl _) _)
 have HXW1:Hid (W1.heap[w.heap.size]?=some (.cells #[.int .i64 hd,.int .i64 r0,.int .i64 r1,.int .i64 s0,.int .i64 s1,.int .i64 cr,.int .i64 sr,.slice ya n yc] 25 (0,0))):=zh (by rw[hW1];exact heap_alloc_new w _)
 have hsW1:Hid (W1.heap.size=w.heap.size+1):=zh (by rw[hW1];simp)
 have HWW1:=zh hW1
 clear hW1
 obtain⟨W2,hW2⟩:∃ W2,W2=W1.alloc (.cells #[.int .i64 y0,.int .i64 y1,.int .i64 y2,.int .i64 y3] 26):=⟨_,rfl⟩
 have HBW2:Hid (Below W1.heap.size W1 W2):=zh (by rw[hW2];exact br0.alloc (Nat.le_refl _) _)
 have HXW2:Hid (W2.heap[W1.heap.size]?=some (.cells #[.int .i64 y0,.int .i64 y1,.int .i64 y2,.int .i64 y3] 26 (0,0))):=zh (by rw[hW2];exact heap_alloc_new W1 _)
 have hsW2:Hid (W2.heap.size=W1.heap.size+1):=zh (by rw[hW2];simp)
 have HWW2:=zh hW2
 clear hW2
 have HX2:Hid (W2.heap[w.heap.size+1]?=some (.cells #[.int .i64 y0,.int .i64 y1,.int .i64 y2,.int .i64 y3] 26 (0,0))):=zh (by rw[← hsW1.out];exact HXW2.out)
 have HB2:=zh (q_next HBW1.out HBW2.out)
 obtain⟨c0,c1,c2,c3,c4,c5,c6,c7⟩:=eight_cells (kept_block HXW1.out HBW2.out)
 go_enter Tryz.func3,Tryz.ntmps3
 go_upto_region 1 with fail
 rw[← HWW1.out,← HWW2.out]
 clear HWW1 HWW2 HXW1 HXW2 HBW1 HBW2 hsW1 hsW2
 generalize w.heap.size+1=xb at HX2 ⊢
 have HM2:=zh (HMT.out W2 HB2.out)
 clear HMT
 go_upto_region 2 with(go_at_call 4;(with_reducible refine HM2.out.mono ?_);clear c0 c1 c2 c3 c4 c5 c6 c7;rintro e w3 ⟨la,ln,lc,rfl,hpr,hb3⟩;have HPR3:=zh hpr;have HB23:=zh hb3;clear hpr hb3)
 clear HM2
 obtain⟨tb,htb⟩:∃ tb,tb=w3.heap.size:=⟨_,rfl⟩
 have HBxw4:=zh ((Below.refl w3.heap.size w3).alloc (Nat.le_refl _) (.cells #[.int .i64 (sg:Int),.int .i64 ho,.int .i64 rf,.int .i64 rt,.int .i64 (ct:Int),.int .i64 se,.int .i64 sf,.int .i64 st,.string sl,.slice la ln lc,.int .i64 rf,.int .i64 cf,.int .i64 (ct:Int),.int .i64 ho,.int .i64 sf,.bool false] 36))
 have HXtb:=zh (heap_alloc_new w3 (.cells #[.int .i64 (sg:Int),.int .i64 ho,.int .i64 rf,.int .i64 rt,.int .i64 (ct:Int),.int .i64 se,.int .i64 sf,.int .i64 st,.string sl,.slice la ln lc,.int .i64 rf,.int .i64 cf,.int .i64 (ct:Int),.int .i64 ho,.int .i64 sf,.bool false] 36))
 rw[← htb]at HXtb ⊢
 clear htb
 generalize w3.alloc (.cells #[.int .i64 (sg:Int),.int .i64 ho,.int .i64 rf,.int .i64 rt,.int .i64 (ct:Int),.int .i64 se,.int .i64 sf,.int .i64 st,.string sl,.slice la ln lc,.int .i64 rf,.int .i64 cf,.int .i64 (ct:Int),.int .i64 ho,.int .i64 sf,.bool false] 36)=w4 at *
 obtain⟨z0,z1,z2,z3,z4,z5,z6,z7,z8,z9,z10,z11,z12,z13,z14,z15⟩:=sixteen_cells HXtb.out
 go_upto_region 3 with fail
 clear z0 z1 z2 z3 z4 z5 z6 z7 z8 z9 z10 z11 z12 z13 z14 z15
 obtain⟨wb,hwb⟩:∃ b,b=w4.heap.size:=⟨_,rfl⟩
 have hwb0:w4.heap.size≤wb:=by omega
 have HBx5:=zh ((Below.refl w4.heap.size w4).alloc (Nat.le_refl _) (.cells #[.int .i64 (sg:Int),.int .i64 ho,.int .i64 rf,.int .i64 rt,.int .i64 (ct:Int),.int .i64 se,.int .i64 sf,.int .i64 st,.string sl] 31))
 have HXwb:=zh (heap_alloc_new w4 (.cells #[.int .i64 (sg:Int),.int .i64 ho,.int .i64 rf,.int .i64 rt,.int .i64 (ct:Int),.int .i64 se,.int .i64 sf,.int .i64 st,.string sl] 31))
 rw[← hwb]at HXwb ⊢
 have HWB0:=zh hwb0
 clear hwb hwb0
 generalize w4.alloc (.cells #[.int .i64 (sg:Int),.int .i64 ho,.int .i64 rf,.int .i64 rt,.int .i64 (ct:Int),.int .i64 se,.int .i64 sf,.int .i64 st,.string sl] 31)=w5 at *
 go_upto_region 4 with(first | (go_at_call 6;(with_reducible refine(HPK3.out _).mono ?_);rintro e w' ⟨rfl,hw'⟩;replace hw':=hw'.symm;subst hw') | (go_at_call 5;(with_reducible refine(HK15.out _).mono ?_);rintro e w6 ⟨rfl,hb6⟩;have HB56:=zh hb6;clear hb6))
 clear HPK3 HK15 e1
 have HB46:=zh (q_next HBx5.out HB56.out)
 have HW6:=zh (kept_block HXwb.out HB56.out)
 have HB24:=zh (q_next HB23.out HBxw4.out)
 have HX4:=zh (kept_block HX2.out HB24.out)
 have HPR4:=zh (HPR3.out.below HBxw4.out)
 have HB4:=zh (q_next HB2.out HB24.out)
 clear HXwb HBx5 HB56 HX2 HPR3 HB23 HBxw4 HB24 HB2
 obtain⟨fg,hfg⟩:∃ fg,fg=decide (pv=1):=⟨_,rfl⟩
 have HFG:=zh hfg
 clear hfg
 go_cut [69]from 67 to 69 (fun t wx=>t=.bool fg∧wx=w6)
 case first =>
  by_cases hp:pv=1
  ·subst hp
   obtain rfl:fg=true:=HFG.out
   go_wp2_with (go_at_call 6;(with_reducible refine(HPK2.out _).mono ?_);rintro e w' ⟨rfl,hw'⟩;replace hw':=hw'.symm;subst hw')
   go_meet
   case rel=>exact⟨rfl,rfl⟩
  ·obtain rfl:fg=false:=by rw[HFG.out];exact decide_eq_false hp
   have hpb:(pv == 1)=false:=by simp[hp]
   go_wp2_with (go_at_call 6;(with_reducible refine(HPK2.out _).mono ?_);rintro e w' ⟨rfl,hw'⟩;replace hw':=hw'.symm;subst hw')
   go_meet
   case rel=>exact⟨rfl,rfl⟩
 case rest =>
 obtain⟨ht69,hwx⟩:=hcut
 replace hwx:=hwx.symm
 subst ht69 hwx
 clear HPK2
 refine wp_enterK (by assumption) ?_
 have HSG:Hid (∀ W,Below w4.heap.size w4 W→Calls Tryz.prog 7 #[.string skey,.agg #[.int .i64 (sg:Int),.int .i64 ho,.int .i64 rf,.int .i64 rt,.int .i64 (ct:Int),.int .i64 se,.int .i64 sf,.int .i64 st,.string sl]] W fun e w'=>e=.returned (.tuple #[.agg #[.int .i64 (sg:Int),.int .i64 ho,.int .i64 rf,.int .i64 rt,.int .i64 (ct:Int),.int .i64 se,.int .i64 sf,.int .i64 st,.string (sealK skey C)],.int .i64 0])∧Below W.heap.size W w'):=zh (fun W hW=>by
  have hB:=HB4.out.trans (hW.mono HB4.out.size)
  have h:=signWish_any skey HSK.out ⟨(sg:Int),ho,rf,rt,(ct:Int),se,sf,st,sl⟩ (HCA.out sl hsz).w.formed (HE.out.1.below hB HE.out.2) (Nat.lt_of_lt_of_le HE.out.2 hB.size)
  rw[HCS1.out sl]at h
  exact h)
 obtain⟨sl2,hsl2⟩:∃ s,s=sealK skey C:=⟨_,rfl⟩
 have HSL2:=zh hsl2
 rw[← hsl2]at HSG
 clear hsl2
 go_cut [22,23]from 70 to 78 (fun _ _ wx=>∃ sl3:ByteArray,Hid (sl3.size=32)∧Hid (sealedW ⟨(sg:Int),ho,rf,rt,(ct:Int),se,sf,st,sl3⟩=fg→collS [(⟨#[1]⟩:ByteArray)++skey++leafS C] [(⟨#[1]⟩:ByteArray)++keyW (sg:Int)++leafS C]=true)∧Hid (wx.heap[wb]?=some (.cells #[.int .i64 (sg:Int),.int .i64 ho,.int .i64 rf,.int .i64 rt,.int .i64 (ct:Int),.int .i64 se,.int .i64 sf,.int .i64 st,.string sl3] 31 (0,0)))∧Hid (Below w4.heap.size w4 wx))
 case first =>
  cases fg with
  | false =>
   go_wp2
   go_meet
   case rel=>exact⟨sl,zh hsz,zh (fun h=>by rw[HSD.out sl]at h;exact absurd HSL.out (of_decide_eq_false h)),HW6,HB46⟩
  | true =>
   obtain⟨c0,c1,c2,c3,c4,c5,c6,c7,c8⟩:=nine_cells HW6.out
   go_upto_region 6 with(go_at_call 7;(with_reducible refine(HSG.out _ HB46.out).mono ?_);clear c0 c1 c2 c3 c4 c5 c6 c7 c8;rintro e w7 ⟨rfl,hb7⟩;have HB7:=zh hb7;clear hb7)
   obtain⟨vb,hvb⟩:∃ vb,vb=w7.heap.size:=⟨_,rfl⟩
   have HBxw8:=zh ((Below.refl w7.heap.size w7).alloc (Nat.le_refl _) (.cells #[.int .i64 (sg:Int),.int .i64 ho,.int .i64 rf,.int .i64 rt,.int .i64 (ct:Int),.int .i64 se,.int .i64 sf,.int .i64 st,.string sl2] 31))
   have HXvb:=zh (heap_alloc_new w7 (.cells #[.int .i64 (sg:Int),.int .i64 ho,.int .i64 rf,.int .i64 rt,.int .i64 (ct:Int),.int .i64 se,.int .i64 sf,.int .i64 st,.string sl2] 31))
   rw[← hvb]at HXvb ⊢
   clear hvb
   generalize w7.alloc (.cells #[.int .i64 (sg:Int),.int .i64 ho,.int .i64 rf,.int .i64 rt,.int .i64 (ct:Int),.int .i64 se,.int .i64 sf,.int .i64 st,.string sl2] 31)=w8 at *
   have HB68:=zh (q_next HB7.out HBxw8.out)
   have HW8:=zh (kept_block HW6.out HB68.out)
   have HB48:=zh (q_next HB46.out HB68.out)
   go_upto_region 8 with fail
   obtain⟨d0,d1,d2,d3,d4,d5,d6,d7,d8⟩:=nine_cells HXvb.out
   obtain⟨c0,c1,c2,c3,c4,c5,c6,c7,c8⟩:=nine_cells HW8.out
   have zf:=thaw HW8.out
   go_wp2
   go_meet
   case rel =>
    refine⟨sl2,zh (by rw[HSL2.out];rfl),zh (fun h=>?_),zh (nine_heap HW8.out _ _ _ _ _ _ _ _ _),zh (nine_below HB48.out HWB0.out _ _ _ _ _ _ _ _ _)⟩
    rw[HSD.out sl2]at h
    have h1:=of_decide_eq_true h
    rw[HSKE.out]
    exact forged_coll ⟨by omega,by omega⟩ ⟨by omega,by omega⟩ (by omega) (by rw[← HSKE.out,← HSL2.out];exact h1)
 case rest =>
 obtain⟨sl3,HSZ,HCO,HWX,HBX⟩:=hcut
 refine wp_enterK (by assumption) ?_
 have HC3:=zh (HCA.out sl3 HSZ.out)
 have HBw:=zh (q_next HB4.out HBX.out)
 have HEw:=zh (And.intro (HE.out.1.below HBw.out HE.out.2) (Nat.lt_of_lt_of_le HE.out.2 HBw.out.size))
 have HT3:=zh (kept_block HXtb.out HBX.out)
 have HX3:=zh (kept_block HX4.out HBX.out)
 have HPR:=zh (HPR4.out.below HBX.out)
 have HWC:Hid (∀ W,Calls Tryz.prog 12 #[.agg #[.int .i64 (sg:Int),.int .i64 ho,.int .i64 rf,.int .i64 rt,.int .i64 (ct:Int),.int .i64 se,.int .i64 sf,.int .i64 st,.string sl3]] W fun e w'=>e=.returned (.string C)∧Below W.heap.size W w'):=zh (fun W=>by
  have h:=wishC15_any { sg:=(sg:Int),ho:=ho,rf:=rf,rt:=rt,ca:=(ct:Int),se:=se,sf:=sf,st:=st,sl:=sl3 } HC3.out.w.formed W
  rw[HCS1.out sl3]at h
  exact h)
 obtain⟨bd,hbd⟩:∃ bd,bd=sealedW ⟨(sg:Int),ho,rf,rt,(ct:Int),se,sf,st,sl3⟩:=⟨_,rfl⟩
 rw[← hbd]at HCO
 obtain⟨text,htext⟩:∃ t,t=encW ⟨(sg:Int),ho,rf,rt,(ct:Int),se,sf,st,sl3⟩ L:=⟨_,rfl⟩
 have HEN:Hid (∀ W,Below wc.heap.size wc W→Calls Tryz.prog 8 #[.agg #[.int .i64 (sg:Int),.int .i64 ho,.int .i64 rf,.int .i64 rt,.int .i64 (ct:Int),.int .i64 se,.int .i64 sf,.int .i64 st,.string sl3],.slice la ln lc] W fun e w'=>e=.returned (.tuple #[.string text,.int .i64 0])∧Below W.heap.size W w'):=zh (fun W hW=>by
  rw[htext]
  exact encodeW_any ⟨(sg:Int),ho,rf,rt,(ct:Int),se,sf,st,sl3⟩ HC3.out.w.formed HSZ.out HC3.out.w.chain HC3.out.sl (HPR.out.below hW) HC3.out.w.four)
 have HBK:Hid (∀ W vk,Below wc.heap.size wc W→SS W vk (keysN 10)→Calls Tryz.prog 9 #[vk,.agg #[.int .i64 (sg:Int),.int .i64 ho,.int .i64 rf,.int .i64 rt,.int .i64 (ct:Int),.int .i64 se,.int .i64 sf,.int .i64 st,.string sl3],.slice la ln lc,.agg #[.int .i64 rf,.int .i64 cf,.int .i64 (ct:Int),.int .i64 ho,.int .i64 sf,.bool false]] W fun e w'=>e=.returned (.tuple #[.agg #[.int .i64 rf,.int .i64 cf,.int .i64 (ct:Int),.int .i64 ho,.int .i64 sf,.bool bd],.int .i64 0])∧Below W.heap.size W w'):=zh (fun W vk hW hk=>by
  rw[hbd]
  exact back_any HC3.out.w cf false ⟨hcr.1,by omega⟩ ⟨hca.1,by simp only;omega⟩ hcn ⟨hho.1,by simp only;omega⟩ HC3.out.n HC3.out.a hk (HPR.out.below hW) (HEw.out.1.below hW HEw.out.2) (Nat.lt_of_lt_of_le HEw.out.2 hW.size))
 have HKP:Hid (∀(asked:Int) (W:World) (vk:Value) (c2:Int) (c3 c4:ByteArray) (ia:Option Addr) (ic:Nat),SS W vk (keysN 10)→PtAt W (.slice ia 1 ic) (caseB rf sf text)→Env W→0 < W.heap.size→Calls Tryz.prog 53 #[vk,.agg #[.int .i64 rf,.int .i64 ho,.int .i64 (ct:Int),.int .i64 sf,.int .i64 asked],.agg #[.int .i64 (ct:Int),.int .i64 c2,.string c3,.string c4,.slice ia 1 ic]] W fun e w'=>e=.returned (.bool bd)∧Below W.heap.size W w'):=zh (fun asked W vk c2 c3 c4 ia ic hk hi he hg=>by
  rw[hbd]
  rw[htext]at hi
  exact keeps_any HC3.out hk hi he hg)
 have HCS:Hid (CsOk (ct:Int) rf sf text):=zh ⟨by omega,HC3.out.n,HC3.out.a,by rw[htext];exact HC3.out.e⟩
 have HTX:Hid (0 < text.size):=zh (by rw[htext];exact HC3.out.e0)
 have HFC:Hid (bd=decide (pickI x2 2=1)→collS [(⟨#[1]⟩:ByteArray)++skey++leafS C] [(⟨#[1]⟩:ByteArray)++keyW (sg:Int)++leafS C]=true):=zh (by rw[← HPV.out,← HFG.out];exact HCO.out)
 clear hbd htext HCA HSD HCS1 HE HSG HSL HSL2 HSKE HWB0 HB46 HW6 HPR4 HX4 HXtb HBX HB4 HCO HPR HPV HFG HC3 hsz
 obtain⟨c0,c1,c2,c3,c4,c5,c6,c7,c8⟩:=nine_cells HWX.out
 obtain⟨z0,z1,z2,z3,z4,z5,z6,z7,z8,z9,z10,z11,z12,z13,z14,z15⟩:=sixteen_cells HT3.out
 go_upto_region 10 with(go_at_call 8;(with_reducible refine(HEN.out _ br0).mono ?_);clear c0 c1 c2 c3 c4 c5 c6 c7 c8 z0 z1 z2 z3 z4 z5 z6 z7 z8 z9 z10 z11 z12 z13 z14 z15;rintro e w9 ⟨rfl,hb9⟩;have HB9:=zh hb9;clear hb9)
 clear HEN
 have HRD:=zh (fun W (hW:Below w9.heap.size w9 W)=>And.intro (nine_cells (kept_block HWX.out (q_next HB9.out hW))) (sixteen_cells (kept_block HT3.out (q_next HB9.out hW))))
 refine wp_region_noPanic ?_
 refine wp_region_lexB [.q 1,.q 2,.q 3,.q 4,.q 5,.an 10,.b 0,.b 6,.q 7,.q 8,.q 9,.co 10,.b 11,.q 12] (by kernel_rfl) (by kernel_rfl) (fun _ _ _ _ h=>h) ?_
 iterate 5(refine wpFl_qL (v:=?_) rfl (Or.inl ⟨by rfl,?_⟩) ?_;rotate_left;(focus(intro w' hSw;obtain⟨⟨c0,c1,c2,c3,c4,c5,c6,c7,c8⟩,z0,z1,z2,z3,z4,z5,z6,z7,z8,z9,z10,z11,z12,z13,z14,z15⟩:=HRD.out w' hSw;go_simp;(try with_reducible rfl);done));simp only[Act.put,zzA,zzB,zzC])
 refine wpFl_anL rfl (.cells #[.int .i64 0,.int .i64 0,.int .i64 0,.int .i64 0,.int .i64 0,.bool false] 34 (0,0)) (fun n=>.pointer (some ⟨n,0,none⟩)) ⟨by rfl,fun w'=>?_⟩ ?_
 focus(go_simp;done)
 refine wpFl_bL rfl (fun wa hna hsa K hK=>?_)
 go_simp
 go_at_call 10
 (with_reducible refine(keys15_any _).mono ?_)
 rintro e wk ⟨vk,rfl,hok,hbk⟩
 have HKS:=zh (OwnS.ss hok)
 clear hok
 refine hK.out _ _ (below_next hsa hbk) (Keeps.below hbk) ?_
 clear hK K hna hsa hbk
 refine wpFl_bL rfl (fun wm hnm hsm K hK=>?_)
 have HKM:=zh (HKS.out.below hnm)
 go_simp
 go_at_call 9
 (with_reducible refine(HBK.out wm vk (q_next HB9.out hsm) HKM.out).mono ?_)
 rintro e wn ⟨rfl,hbn⟩
 refine hK.out _ _ (below_next hsm hbn) (Keeps.below hbn) ?_
 clear hK K hnm hsm hbn HKM HKS HBK
 iterate 3(refine wpFl_qL (v:=?_) rfl (Or.inl ⟨by rfl,?_⟩) ?_;rotate_left;(focus(intro w' hSw;go_simp;(try with_reducible rfl);done));simp only[Act.put,zzA,zzB,zzC])
 refine wpFl_coL rfl (.cells #[.int .i64 0,.int .i64 0,.int .i64 0,.int .i64 0,.int .i64 0,.bool false] 34 (0,0)) (fun n=>.pointer (some ⟨n,0,none⟩)) (by rfl) (N':=[]) (by rfl) (fun cb we hn_we hs_we hb_cb hz_cb=>?_)
 simp only[Act.put,zzA,zzB,zzC]
 refine wpFl_bL rfl (fun wf hnf hsf K hK=>?_)
 have HZ:=zh (kept_block hz_cb hnf)
 obtain⟨z0,z1,z2,z3,z4,z5⟩:=six_cells HZ.out
 have zf:=thaw HZ.out
 go_simp
 have HBr:=zh (six_below hsf hb_cb (.int .i64 rf) (.int .i64 cf) (.int .i64 (ct:Int)) (.int .i64 ho) (.int .i64 sf) (.bool bd))
 have HVr:=zh (six_heap HZ.out (.int .i64 rf) (.int .i64 cf) (.int .i64 (ct:Int)) (.int .i64 ho) (.int .i64 sf) (.bool bd))
 refine hK.out _ _ HBr.out Keeps.nil ?_
 clear hK K z0 z1 z2 z3 z4 z5 zf HZ hnf hsf hz_cb hn_we hs_we hb_cb HRD
 generalize (((((wf.setCell ⟨cb,0,none⟩ (.int .i64 rf)).setCell ⟨cb,1,none⟩ (.int .i64 cf)).setCell ⟨cb,2,none⟩ (.int .i64 (ct:Int))).setCell ⟨cb,3,none⟩ (.int .i64 ho)).setCell ⟨cb,4,none⟩ (.int .i64 sf)).setCell ⟨cb,5,none⟩ (.bool bd)=v8 at *
 refine wpFl_qL (v:=?_) rfl (Or.inl ⟨by rfl,?_⟩) ?_
 rotate_left
 focus(intro w' hSw;go_simp;(try with_reducible rfl);done)
 simp only[Act.put,zzA,zzB,zzC]
 refine wpFl_nil ?_
 refine NoPanic.normal ?_
 refine wp_enterZ (by assumption) ?_
 have HBc8:=zh (q_next HB9.out HBr.out)
 have HB8:=zh (q_next HBw.out HBc8.out)
 have HE8:=zh (And.intro (HEw.out.1.below HBc8.out HEw.out.2) (Nat.lt_of_lt_of_le HEw.out.2 HBc8.out.size))
 have HX8:=zh (kept_block HX3.out HBc8.out)
 have HW8:=zh (kept_block HWX.out HBc8.out)
 have hrf:0≤rf∧rf≤11000:=by omega
 have hsf4:0≤sf∧sf≤11000:=by omega
 have hct8:ct < 8:=by omega
 have hsg10:sg < 10:=by omega
 refine wp_of_eqZ (top_claim HB8 HE8 xb wb cb y0 y1 y2 y3 rf cf ho sf x2 x5 x6 x7 x8 sg ct ho rf rt (ct:Int) se sf st sl3 C skey text bd iy i2 i5 i6 i7 i8 hrf hcr hct8 hcn hho hsf4 hsg10 HSK HCZ HCS HTX HX8 HW8 HVr HWC HFC HKP).choose_spec.2 ?_
 exact tailQZ3 (top_claim HB8 HE8 xb wb cb y0 y1 y2 y3 rf cf ho sf x2 x5 x6 x7 x8 sg ct ho rf rt (ct:Int) se sf st sl3 C skey text bd iy i2 i5 i6 i7 i8 hrf hcr hct8 hcn hho hsf4 hsg10 HSK HCZ HCS HTX HX8 HW8 HVr HWC HFC HKP).choose_spec.1
end Go.Proofs.YtjjiikeldpjafaaGreatDoor
