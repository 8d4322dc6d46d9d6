/- Walk of package quorum: Cast, with a key of any length (if the vote is formed, the key has a digest's). -/
import Derived.Test.YtggdcnjaofflbaaGreatDoorMM23
namespace Go.Proofs.YtggdcnjaofflbaaGreatDoor
open Go.RowKit Go.BigFrame
set_option maxHeartbeats 4000000 in
set_option maxRecDepth 100000 in
theorem cast_free (key:ByteArray)(car num stp:Int)(val:ByteArray){w:World}{hv:Value}{hist:List VoteP}(hh:VS w hv hist)(he:Env w)(hg:3 < w.heap.size) :
  Calls Tryz.prog 23 #[.string key,.int .i64 car,hv,.agg #[.int .i64 num,.int .i64 stp],.string val] w fun e w'=>e=.returned (castR (castV key car num stp val hist))∧Below w.heap.size w w':=by
 obtain⟨a,n,cap,rfl⟩:=hh.form
 obtain⟨W5,hW5⟩:∃ W5,W5=(((((w.alloc (.cells #[.int .i64 car] 3)).alloc (.cells #[.int .i64 num,.int .i64 stp] 25)).alloc (.cells #[.string val] 9)).alloc (.cells #[.int .i64 0,.int .i64 0,.int .i64 0,.string ⟨#[]⟩,.string ⟨#[]⟩] 27)).alloc (.cells #[.int .i64 car,.int .i64 num,.int .i64 stp,.string val,.string key] 27)):=⟨_,rfl⟩
 have h5:=at5 w (.cells #[.int .i64 car] 3) (.cells #[.int .i64 num,.int .i64 stp] 25) (.cells #[.string val] 9) (.cells #[.int .i64 0,.int .i64 0,.int .i64 0,.string ⟨#[]⟩,.string ⟨#[]⟩] 27) (.cells #[.int .i64 car,.int .i64 num,.int .i64 stp,.string val,.string key] 27)
 rw[← hW5]at h5
 obtain⟨hB5,hs5,h50,h51,h52,h53,h54⟩:=h5
 have HB5:=zh hB5
 have HH5:=zh (And.intro h50 (And.intro h51 (And.intro h52 (And.intro h53 h54))))
 have HV5:=zh (hh.below hB5)
 have HE:=zh (he.below hB5 hg)
 have HG:=zh (Nat.lt_of_lt_of_le hg hB5.size)
 have HW5:=zh hW5
 clear hB5 h50 h51 h52 h53 h54 hW5 hh he hg
 -- what the closure asks
 have HCL:Hid (∀ W,Below W5.heap.size W5 W→Calls Tryz.prog 67 #[.slice a n cap,.func (.func 66) #[] #[.pointer (some ⟨w.heap.size,0,none⟩),.pointer (some ⟨w.heap.size+1,0,none⟩),.pointer (some ⟨w.heap.size+1+1,0,none⟩)]] W fun e w'=>e=.returned (.bool (hist.any (otherV car num stp val)))∧Below W5.heap.size W5 w'):=zh (fun W hW=>by
  refine(containsV_cast w.heap.size (w.heap.size+1) (w.heap.size+1+1) (fun _ v=>otherV car num stp val v) (fun _ W'=>Below W5.heap.size W5 W') (HV5.out.below hW) hW (fun _ W' h=>HV5.out.below h) (fun k v W' _ _ hW'=>?_)).mono ?_
  ·have c0:=cell_of_row W' _ 0 _ _ _ ((hW'.block _ (by omega)).trans HH5.out.1)
   have c1:=cell_of_row W' _ 0 _ _ _ ((hW'.block _ (by omega)).trans HH5.out.2.1)
   have c2:=cell_of_row W' _ 1 _ _ _ ((hW'.block _ (by omega)).trans HH5.out.2.1)
   have c3:=cell_of_row W' _ 0 _ _ _ ((hW'.block _ (by omega)).trans HH5.out.2.2.1)
   have hs:=hW'.size
   refine(castfn_any car num stp val w.heap.size (w.heap.size+1) (w.heap.size+1+1) v W' c0 c1 c2 c3 (by omega) (by omega) (by omega)).mono ?_
   rintro e w' ⟨rfl,hb⟩
   exact⟨rfl,q_next hW' hb⟩
  ·rintro e w' ⟨rfl,m,hb⟩
   refine⟨?_,hb⟩
   rw[any_zipIdx (otherV car num stp val) hist 0])
 have HF:=zh (isFormed_any ⟨car,num,stp,val,key⟩ W5)
 simp only at HF
 obtain⟨W6,hW6⟩:∃ W6,W6=W5.alloc (.cells #[.int .i64 car,.int .i64 num,.int .i64 stp,.string val,.string key] 27):=⟨_,rfl⟩
 rw[← hW6]at HF
 have HB6:Hid (Below W5.heap.size W5 W6):=zh (by rw[hW6];exact br0.alloc (Nat.le_refl _) _)
 clear hW6
 have e54:=vcellsAt HH5.out.2.2.2.2
 obtain⟨e0,e1,e2,e3,e4⟩:=e54
 -- the end without a vote
 have NO:∀ W,Below W5.heap.size W5 W→Below w.heap.size w W∧W.heap[w.heap.size+1+1+1]?=some (.cells #[.int .i64 0,.int .i64 0,.int .i64 0,.string ⟨#[]⟩,.string ⟨#[]⟩] 27 (0,0)):=fun W hW=>⟨HB5.out.trans (hW.mono HB5.out.size),(hW.block _ (by omega)).trans HH5.out.2.2.2.1⟩
 have HNO:=zh NO
 clear NO
 cases hf:formedV ⟨car,num,stp,val,key⟩with
 | false =>
  have HR:=zh (castV_no (hist:=hist) (.inl hf))
  rw[hf]at HF
  clear hf
  generalize castV key car num stp val hist=R at *
  go_enter Tryz.func23,Tryz.ntmps23
  go_upto_region 3 with fail
  rw[← HW5.out]
  have HZ:=zh (HNO.out W6 HB6.out)
  obtain⟨z0,z1,z2,z3,z4⟩:=vcellsAt HZ.out.2
  have zf:∀ j,W6.frozen? ⟨w.heap.size+1+1+1,j,none⟩=false:=fun j=>by unfold World.frozen?;rw[HZ.out.2];simp
  go_wp2_with (go_at_call 62;refine HF.out.mono ?_;rintro e w1 ⟨rfl,rfl⟩)
  refine bodyPost_ret (results_cellA_tmp rfl _ (w.heap.size+1+1+1) 27 #[.int .i64 0,.int .i64 0,.int .i64 0,.string ⟨#[]⟩,.string ⟨#[]⟩] (0,0) _ rfl (vfive_heap HZ.out.2 _ _ _ _ _) Tryz.underlying27 rfl infoVote) rfl ⟨?_,vfive_below HZ.out.1 (by omega) _ _ _ _ _⟩
  rw[HR.out]
  rfl
 | true =>
  rw[hf]at HF
  have hsm:=small_formed hf
  obtain⟨D,hD⟩:∃ D,D=hist.any (otherV car num stp val):=⟨_,rfl⟩
  have HN:Hid (D=true→castV key car num stp val hist=none):=zh (fun h=>castV_no (.inr (hD.symm.trans h)))
  have HY:Hid (D=false→castV key car num stp val hist=some ⟨car,num,stp,val,sealV key ⟨car,num,stp,val,key⟩⟩):=zh (fun h=>castV_yes hf (hD.symm.trans h))
  rw[← hD]at HCL
  have HS:Hid (∀ W,Below W5.heap.size W5 W→Calls Tryz.prog 68 #[.string key,.agg #[.int .i64 car,.int .i64 num,.int .i64 stp,.string val,.string key]] W fun e w'=>e=.returned (.string (sealV key ⟨car,num,stp,val,key⟩))∧Below W.heap.size W w'):=zh (fun W hW=>qseal_any key ⟨car,num,stp,val,key⟩ hsm (by have:=(formed_facts hf).2.2.2.2;simp only at this;omega) W (HE.out.below hW HG.out) (Nat.lt_of_lt_of_le HG.out hW.size))
  generalize castV key car num stp val hist=R at *
  generalize sealV key ⟨car,num,stp,val,key⟩=S at *
  clear hD hf hsm
  cases D
  ·have HR:=zh (HY.out rfl)
   clear HN HY
   go_enter Tryz.func23,Tryz.ntmps23
   go_upto_region 3 with fail
   rw[← HW5.out]
   go_upto_region 5 with(first | (go_at_call 62;refine HF.out.mono ?_;rintro e w1 ⟨rfl,rfl⟩) | (go_at_call 67;refine(HCL.out _ HB6.out).mono ?_;rintro e w2 ⟨rfl,hb2⟩))
   have HB2:=zh hb2
   have HV2:=zh ((hb2.block (w.heap.size+1+1+1+1) (by omega)).trans HH5.out.2.2.2.2)
   clear e0 e1 e2 e3 e4 hb2
   obtain⟨e0,e1,e2,e3,e4⟩:=vcellsAt HV2.out
   go_wp2_with fail
   refine(HS.out _ HB2.out).mono ?_
   rintro e w3 ⟨rfl,hb3⟩
   clear e0 e1 e2 e3 e4
   have HB3:=zh (q_next HB2.out hb3)
   have HV3:=zh ((hb3.block _ (ltA HV2.out)).trans HV2.out)
   clear hb3
   have HZ:=zh (HNO.out w3 HB3.out)
   obtain⟨e0,e1,e2,e3,e4⟩:=vcellsAt HV3.out
   have ef:∀ j,w3.frozen? ⟨w.heap.size+1+1+1+1,j,none⟩=false:=fun j=>by unfold World.frozen?;rw[HV3.out];simp
   go_upto_region 6 with fail
   obtain⟨w4,hw4⟩:∃ w4,w4=w3.setCell ⟨w.heap.size+1+1+1+1,4,none⟩ (.string S):=⟨_,rfl⟩
   rw[← hw4]
   have hg4:w3.grownBy w4 (some (w.heap.size+1+1+1+1)):=by rw[hw4];exact grown_setCell (grown_refl _ _) _ (.inl rfl) _
   have HV4:Hid (w4.heap[w.heap.size+1+1+1+1]?=some (.cells #[.int .i64 car,.int .i64 num,.int .i64 stp,.string val,.string S] 27 (0,0))):=zh (by rw[hw4];exact heap_setCell_same (i:=4) _ HV3.out)
   have HZ4:Hid (w4.heap[w.heap.size+1+1+1]?=some (.cells #[.int .i64 0,.int .i64 0,.int .i64 0,.string ⟨#[]⟩,.string ⟨#[]⟩] 27 (0,0))):=zh ((hg4.block _ (ltA HZ.out.2) (fun e=>by have:=Option.some.inj e;omega)).trans HZ.out.2)
   have HB4:Hid (Below w.heap.size w w4):=zh (by rw[hw4];exact HZ.out.1.setCell (p:=⟨w.heap.size+1+1+1+1,4,none⟩) (by show w.heap.size≤w.heap.size+1+1+1+1;omega) _)
   clear hw4 hg4 e0 e1 e2 e3 e4 ef
   obtain⟨e0,e1,e2,e3,e4⟩:=vcellsAt HV4.out
   obtain⟨z0,z1,z2,z3,z4⟩:=vcellsAt HZ4.out
   have zf:∀ j,w4.frozen? ⟨w.heap.size+1+1+1,j,none⟩=false:=fun j=>by unfold World.frozen?;rw[HZ4.out];simp
   go_wp2
   refine bodyPost_ret (results_cellA_tmp rfl _ (w.heap.size+1+1+1) 27 #[.int .i64 car,.int .i64 num,.int .i64 stp,.string val,.string S] (0,0) _ rfl (vfive_heap HZ4.out _ _ _ _ _) Tryz.underlying27 rfl infoVote) rfl ⟨?_,vfive_below HB4.out (by omega) _ _ _ _ _⟩
   rw[HR.out]
   rfl
  ·have HR:=zh (HN.out rfl)
   clear HN HY HS
   go_enter Tryz.func23,Tryz.ntmps23
   go_upto_region 3 with fail
   rw[← HW5.out]
   go_wp2_with (first | (go_at_call 62;refine HF.out.mono ?_;rintro e w1 ⟨rfl,rfl⟩) | (go_at_call 67;refine(HCL.out _ HB6.out).mono ?_;rintro e w2 ⟨rfl,hb2⟩;have HZ:=zh (HNO.out w2 hb2);clear hb2;obtain⟨z0,z1,z2,z3,z4⟩:=vcellsAt HZ.out.2;have zf:∀ j,w2.frozen? ⟨w.heap.size+1+1+1,j,none⟩=false:=fun j=>(by unfold World.frozen?;rw[HZ.out.2];simp)))
   refine bodyPost_ret (results_cellA_tmp rfl _ (w.heap.size+1+1+1) 27 #[.int .i64 0,.int .i64 0,.int .i64 0,.string ⟨#[]⟩,.string ⟨#[]⟩] (0,0) _ rfl (vfive_heap HZ.out.2 _ _ _ _ _) Tryz.underlying27 rfl infoVote) rfl ⟨?_,vfive_below HZ.out.1 (by omega) _ _ _ _ _⟩
   rw[HR.out]
   rfl
set_option maxHeartbeats 8000000 in
set_option maxRecDepth 100000 in
theorem rcast_any (key:ByteArray)(car num stp:Int)(val:ByteArray){w:World}{hv:Value}{hist:List VoteP}(hh:VS w hv hist) :
  Calls Tryz.prog 24 #[.string key,.int .i64 car,hv,.agg #[.int .i64 num,.int .i64 stp],.string val] w fun e w'=>e=.returned (castR (castV key car num stp val hist))∧Below w.heap.size w w':=by
 obtain⟨la,lc,rfl,hll,hlm,hl3⟩:=hh.opened
 have HL3:=zh hl3
 obtain⟨N,hN⟩:∃ N,N=hist.length:=⟨_,rfl⟩
 rw[← hN]at hll ⊢
 have HN:=zh hN
 have hN9:N≤9223372036854775807:=by unfold maxLen at hlm;omega
 obtain⟨W1,hW1⟩:∃ W1,W1=w.alloc (.cells #[.int .i64 num,.int .i64 stp] 25):=⟨_,rfl⟩
 have HB1:Below w.heap.size w W1:=by rw[hW1];exact br0.alloc (Nat.le_refl _) _
 have hs1:W1.heap.size=w.heap.size+1:=by rw[hW1];simp
 have HX1:W1.heap[w.heap.size]?=some (.cells #[.int .i64 num,.int .i64 stp] 25 (0,0)):=by rw[hW1];exact heap_alloc_new w _
 obtain⟨W2,hW2⟩:∃ W2,W2=W1.alloc (.cells #[.int .i64 0,.int .i64 0,.int .i64 0,.string ⟨#[]⟩,.string ⟨#[]⟩] 27):=⟨_,rfl⟩
 have HB2:Below W1.heap.size W1 W2:=by rw[hW2];exact br0.alloc (Nat.le_refl _) _
 have hs2:W2.heap.size=w.heap.size+2:=by rw[hW2];simp[hs1]
 have HX2:W2.heap[w.heap.size+1]?=some (.cells #[.int .i64 0,.int .i64 0,.int .i64 0,.string ⟨#[]⟩,.string ⟨#[]⟩] 27 (0,0)):=by rw[hW2,← hs1];exact heap_alloc_new W1 _
 obtain⟨W3,hW3⟩:∃ W3,W3=W2.alloc (.cells #[.int .i64 car,.int .i64 num,.int .i64 stp,.string val,.string key] 27):=⟨_,rfl⟩
 have HB3:Below W2.heap.size W2 W3:=by rw[hW3];exact br0.alloc (Nat.le_refl _) _
 have hs3:W3.heap.size=w.heap.size+3:=by rw[hW3];simp[hs2]
 have HX3:W3.heap[w.heap.size+1+1]?=some (.cells #[.int .i64 car,.int .i64 num,.int .i64 stp,.string val,.string key] 27 (0,0)):=by rw[hW3,show w.heap.size+1+1=W2.heap.size from hs2.symm];exact heap_alloc_new W2 _
 have HBA:=zh (HB1.trans ((HB2.trans (HB3.mono HB2.size)).mono HB1.size))
 have HY1:=zh (fun W (hW:Below W3.heap.size W3 W)=>And.intro (((q_next HB2 (q_next HB3 hW)).block _ (by omega)).trans HX1) (And.intro (((q_next HB3 hW).block _ (by omega)).trans HX2) ((hW.block _ (by omega)).trans HX3)))
 have HW1:=zh hW1
 have HW2:=zh hW2
 have HW3:=zh hW3
 have HS3:=zh hs3
 have hgt:w.heap.size < W3.heap.size:=by omega
 have HF:=zh (rformed_any ⟨car,num,stp,val,key⟩ W3)
 simp only at HF
 clear hW1 hW2 hW3 HB1 HB2 HB3 HX1 HX2 HX3 hs1 hs2 hs3 hh hl3 hN hll hlm hgt
 obtain⟨y0,y1,y2,y3,y4⟩:=vcellsAt (HY1.out W3 br0).2.2
 by_cases hk32:key.size=32
 ·have hkn:((key.size:Int) != 32)=false:=by simp[hk32]
  cases hf:formedV ⟨car,num,stp,val,key⟩with
  | false =>
   have HR:=zh (castV_no (hist:=hist) (.inl hf))
   rw[hf]at HF
   clear hf
   generalize castV key car num stp val hist=R at *
   go_enter Tryz.func24,Tryz.ntmps24
   go_upto_region 2 with fail
   rw[← HW1.out,← HW2.out,← HW3.out]
   go_wp2_with (go_at_call 64;refine HF.out.mono ?_;rintro e w4 ⟨rfl,hb4⟩;have HB4:=zh hb4;clear hb4 y0 y1 y2 y3 y4;obtain⟨y0,y1,y2,y3,y4⟩:=vcellsAt (HY1.out w4 HB4.out).2.2;have HZ:=zh (HY1.out w4 HB4.out).2.1;obtain⟨z0,z1,z2,z3,z4⟩:=vcellsAt HZ.out;have zf:∀ j,World.frozen? w4 ⟨w.heap.size+1,j,none⟩=false:=fun j=>by unfold World.frozen?;rw[HZ.out];simp)
   refine bodyPost_ret (results_cellA_tmp rfl _ (w.heap.size+1) 27 #[.int .i64 0,.int .i64 0,.int .i64 0,.string ⟨#[]⟩,.string ⟨#[]⟩] (0,0) _ rfl (vfive_heap HZ.out _ _ _ _ _) Tryz.underlying27 rfl infoVote) rfl ⟨?_,vfive_below (HBA.out.trans (HB4.out.mono HBA.out.size)) (by omega) _ _ _ _ _⟩
   rw[HR.out]
   rfl
  | true =>
   rw[hf]at HF
   have hsm:=small_formed hf
   have HCO:=zh (fun W=>rcontent_any ⟨car,num,stp,val,key⟩ hsm W)
   have HSE:=zh (fun W=>rseal_any key (voteC ⟨car,num,stp,val,key⟩) (by omega) (by have:=voteC_le (formed_facts hf).2.2.2.1;omega) W)
   simp only at HCO
   have HRN:Hid (hist.any (otherV car num stp val)=true→castV key car num stp val hist=none):=zh (fun h=>castV_no (.inr h))
   have HRY:Hid (hist.any (otherV car num stp val)=false→castV key car num stp val hist=some ⟨car,num,stp,val,nodeS key (leafS (voteC ⟨car,num,stp,val,key⟩))⟩):=zh (fun h=>castV_yes hf h)
   have HF0:Hid ((hist.take 0).any (otherV car num stp val)=false):=zh rfl
   generalize castV key car num stp val hist=R at *
   generalize nodeS key (leafS (voteC ⟨car,num,stp,val,key⟩))=SL at *
   generalize voteC ⟨car,num,stp,val,key⟩=CT at *
   clear hf hsm
   go_enter Tryz.func24,Tryz.ntmps24
   go_upto_region 2 with fail
   rw[← HW1.out,← HW2.out,← HW3.out]
   go_upto_region 4 with(go_at_call 64;refine HF.out.mono ?_;rintro e w4 ⟨rfl,hb4⟩;have HB4:=zh hb4;clear hb4 y0 y1 y2 y3 y4;obtain⟨y0,y1,y2,y3,y4⟩:=vcellsAt (HY1.out w4 HB4.out).2.2;have HZ:=zh (HY1.out w4 HB4.out).2.1;obtain⟨z0,z1,z2,z3,z4⟩:=vcellsAt HZ.out;have zf:∀ j,World.frozen? w4 ⟨w.heap.size+1,j,none⟩=false:=fun j=>by unfold World.frozen?;rw[HZ.out];simp)
   clear y0 y1 y2 y3 y4 z0 z1 z2 z3 z4 zf HF HW1 HW2 HW3 HZ
   go_wp2
   go_loopw [13] (fun i wr=>∃ k:Nat,k≤N∧i=.int .i64 k∧Hid ((hist.take k).any (otherV car num stp val)=false)∧Hid (Below W3.heap.size W3 wr)) (fun i _=>N - (intOf i).toNat)
   case atStart=>exact⟨0,by omega,rfl,HF0,HB4⟩
   case round =>
    clear HF0 HB4
    obtain⟨k,hk,rfl,hF,hB⟩:=hrel
    by_cases hlt:k < N
    ·have tk:(k:Int) < (N:Int):=by omega
     have tk0:(0:Int)≤(k:Int):=by omega
     have hw1:IntKind.i64.wrap ((k:Int)+1)=(k:Int)+1:=IntWalk.i64_in _ (by omega)
     obtain⟨v,ev⟩:∃ v,hist[k]?=some v:=⟨_,List.getElem?_eq_getElem (by rw[← HN.out];exact hlt)⟩
     obtain⟨lb,lo,rfl,hlb,hlv⟩:=HL3.out k v ev
     obtain⟨d0,d1,d2,d3,d4⟩:=hlv.keep (q_next HBA.out hB.out) hlb
     have HTA:Hid (otherV car num stp val v=true→hist.any (otherV car num stp val)=true):=zh (fun h=>List.any_eq_true.2 ⟨v,List.mem_of_getElem? ev,h⟩)
     have HTF:Hid (otherV car num stp val v=false→(hist.take (k+1)).any (otherV car num stp val)=false):=zh (fun h=>by
      rw[List.take_add_one,ev,List.any_append,hF.out]
      simp only[Option.toList_some,List.any_cons,List.any_nil,Bool.or_false,Bool.false_or]
      exact h)
     have HOV:Hid (otherV car num stp val v=((decide (v.car=car) && decide (v.num=num∧v.stp=stp)) && !decide (v.val=val))):=zh (by
      unfold otherV
      rw[Bool.eq_iff_iff]
      simp)
     rw[HOV.out]at HTA HTF
     obtain⟨vcar,vnum,vstp,vv,vl⟩:=v
     simp only at d0 d1 d2 d3 d4 HTA HTF
     have HSL:=zh (fun W=>eqlSlot vnum vstp num stp W)
     have hss:=same_str vv val
     have hbq:(vcar == car)=decide (vcar=car):=by rw[Bool.eq_iff_iff];simp
     obtain⟨c1,-,-⟩:=HY1.out wr hB.out
     have s0:=cell_of_row wr _ 0 _ _ _ c1
     have s1:=cell_of_row wr _ 1 _ _ _ c1
     have HZ:=zh (HY1.out wr hB.out).2.1
     obtain⟨z0,z1,z2,z3,z4⟩:=vcellsAt HZ.out
     have zf:∀ j,World.frozen? wr ⟨w.heap.size+1,j,none⟩=false:=fun j=>by unfold World.frozen?;rw[HZ.out];simp
     generalize decide (vnum=num∧vstp=stp)=se at *
     generalize decide (vv=val)=eu at *
     generalize decide (vcar=car)=ce at *
     have hsl:=HSL.out
     have HC:Hid (∀ W,Below wr.heap.size wr W→(W.cell? ⟨w.heap.size,0,none⟩=some (.int .i64 num)∧W.cell? ⟨w.heap.size,1,none⟩=some (.int .i64 stp))∧W.cell? ⟨lb,lo+k*5,none⟩=some (.int .i64 vcar)∧W.cell? ⟨lb,lo+k*5+1,none⟩=some (.int .i64 vnum)∧W.cell? ⟨lb,lo+k*5+2,none⟩=some (.int .i64 vstp)∧W.cell? ⟨lb,lo+k*5+3,none⟩=some (.string vv)∧W.cell? ⟨lb,lo+k*5+4,none⟩=some (.string vl)):=zh fun W hW =>
      ⟨⟨cell_of_row W _ 0 _ _ _ (HY1.out W (q_next hB.out hW)).1,cell_of_row W _ 1 _ _ _ (HY1.out W (q_next hB.out hW)).1⟩,hlv.keep (q_next HBA.out (q_next hB.out hW)) hlb⟩
     clear ev hlv HOV c1 s0 s1 d0 d1 d2 d3 d4
     cases ce with
     | false =>
      have HTK:=zh (HTF.out (by simp))
      clear HTA z0 z1 z2 z3 z4 zf
      go_upto_region 7 with fail
      refine wp_region_noPanic ?_
      refine wp_region_lexB [.q 0,.q 1,.q 2,.q 3,.q 4,.q 5,.q 6,.q 7,.q 8,.q 9,.q 10,.q 11,.q 12,.q 13,.q 14,.q 15,.q 16,.q 17,.q 18,.q 19,.q 20,.q 21,.q 22,.q 23,.q 24] (by kernel_rfl) (by kernel_rfl) (fun _ _ _ _ h=>h) ?_
      iterate 8(refine wpFl_qL (v:=?_) rfl (Or.inl ⟨by rfl,?_⟩) ?_;rotate_left;(focus(intro w' hSw;obtain⟨⟨s0,s1⟩,d0,d1,d2,d3,d4⟩:=HC.out w' hSw;go_simp;(try with_reducible rfl);done));simp only[Act.put,zzA,zzB,zzC])
      iterate 7(refine wpFl_qL (v:=undef) rfl (Or.inr ⟨by rfl,rfl⟩) ?_;simp only[Act.put,zzA,zzB,zzC])
      iterate 2(refine wpFl_qL (v:=?_) rfl (Or.inl ⟨by rfl,?_⟩) ?_;rotate_left;(focus(intro w' hSw;go_simp;(try with_reducible rfl);done));simp only[Act.put,zzA,zzB,zzC])
      iterate 7(refine wpFl_qL (v:=undef) rfl (Or.inr ⟨by rfl,rfl⟩) ?_;simp only[Act.put,zzA,zzB,zzC])
      refine wpFl_qL (v:=?_) rfl (Or.inl ⟨by rfl,?_⟩) ?_
      rotate_left
      focus(intro w' hSw;go_simp;(try with_reducible rfl);done)
      simp only[Act.put,zzA,zzB,zzC]
      refine wpFl_nil ?_
      refine NoPanic.normal ?_
      go_wp2
      go_roundw
      case rel=>exact⟨k+1,by omega,by go_num,HTK,zh (Below.drew hB.out)⟩
      case measure=>simp[intOf];omega
     | true =>
      cases se with
      | false =>
       have HTK:=zh (HTF.out (by simp))
       clear HTA z0 z1 z2 z3 z4 zf
       go_upto_region 7 with fail
       refine wp_region_noPanic ?_
       refine wp_region_lexB [.q 0,.q 1,.q 2,.q 3,.q 4,.q 5,.q 6,.q 7,.q 8,.q 9,.q 10,.q 11,.q 12,.q 13,.q 14,.q 15,.q 16,.q 17,.q 18,.q 19,.q 20,.q 21,.q 22,.q 23,.q 24] (by kernel_rfl) (by kernel_rfl) (fun _ _ _ _ h=>h) ?_
       iterate 17(refine wpFl_qL (v:=?_) rfl (Or.inl ⟨by rfl,?_⟩) ?_;rotate_left;(focus(intro w' hSw;obtain⟨⟨s0,s1⟩,d0,d1,d2,d3,d4⟩:=HC.out w' hSw;go_simp;(try with_reducible rfl);done));simp only[Act.put,zzA,zzB,zzC])
       iterate 7(refine wpFl_qL (v:=undef) rfl (Or.inr ⟨by rfl,rfl⟩) ?_;simp only[Act.put,zzA,zzB,zzC])
       refine wpFl_qL (v:=?_) rfl (Or.inl ⟨by rfl,?_⟩) ?_
       rotate_left
       focus(intro w' hSw;go_simp;(try with_reducible rfl);done)
       simp only[Act.put,zzA,zzB,zzC]
       refine wpFl_nil ?_
       refine NoPanic.normal ?_
       go_wp2
       go_roundw
       case rel=>exact⟨k+1,by omega,by go_num,HTK,zh (Below.drew hB.out)⟩
       case measure=>simp[intOf];omega
      | true =>
       cases eu with
       | true =>
        have HTK:=zh (HTF.out rfl)
        clear HTA z0 z1 z2 z3 z4 zf
        go_upto_region 7 with fail
        refine wp_region_noPanic ?_
        refine wp_region_lexB [.q 0,.q 1,.q 2,.q 3,.q 4,.q 5,.q 6,.q 7,.q 8,.q 9,.q 10,.q 11,.q 12,.q 13,.q 14,.q 15,.q 16,.q 17,.q 18,.q 19,.q 20,.q 21,.q 22,.q 23,.q 24] (by kernel_rfl) (by kernel_rfl) (fun _ _ _ _ h=>h) ?_
        iterate 25(refine wpFl_qL (v:=?_) rfl (Or.inl ⟨by rfl,?_⟩) ?_;rotate_left;(focus(intro w' hSw;obtain⟨⟨s0,s1⟩,d0,d1,d2,d3,d4⟩:=HC.out w' hSw;go_simp;(try with_reducible rfl);done));simp only[Act.put,zzA,zzB,zzC])
        refine wpFl_nil ?_
        refine NoPanic.normal ?_
        go_wp2
        go_roundw
        case rel=>exact⟨k+1,by omega,by go_num,HTK,zh (Below.drew hB.out)⟩
        case measure=>simp[intOf];omega
       | false =>
        have HR:=zh (HRN.out (HTA.out rfl))
        clear HTF
        go_upto_region 7 with fail
        refine wp_region_noPanic ?_
        refine wp_region_lexB [.q 0,.q 1,.q 2,.q 3,.q 4,.q 5,.q 6,.q 7,.q 8,.q 9,.q 10,.q 11,.q 12,.q 13,.q 14,.q 15,.q 16,.q 17,.q 18,.q 19,.q 20,.q 21,.q 22,.q 23,.q 24] (by kernel_rfl) (by kernel_rfl) (fun _ _ _ _ h=>h) ?_
        iterate 25(refine wpFl_qL (v:=?_) rfl (Or.inl ⟨by rfl,?_⟩) ?_;rotate_left;(focus(intro w' hSw;obtain⟨⟨s0,s1⟩,d0,d1,d2,d3,d4⟩:=HC.out w' hSw;go_simp;(try with_reducible rfl);done));simp only[Act.put,zzA,zzB,zzC])
        refine wpFl_nil ?_
        refine NoPanic.normal ?_
        go_wp2
        refine bodyPost_ret (results_cellA_tmp rfl _ (w.heap.size+1) 27 #[.int .i64 0,.int .i64 0,.int .i64 0,.string ⟨#[]⟩,.string ⟨#[]⟩] (0,0) _ rfl (vfive_heap HZ.out _ _ _ _ _) Tryz.underlying27 rfl infoVote) rfl ⟨?_,vfive_below (HBA.out.trans ((Below.drew hB.out).mono HBA.out.size)) (by omega) _ _ _ _ _⟩
        rw[HR.out]
        rfl
    ·obtain rfl:k=N:=by omega
     have tk:¬ (k:Int) < (k:Int):=by omega
     have HR:=zh (HRY.out (by
      have h:=hF.out
      rw[HN.out,List.take_length]at h
      exact h))
     obtain⟨y0,y1,y2,y3,y4⟩:=vcellsAt (HY1.out wr hB.out).2.2
     go_upto_region 10 with(first | (go_at_call 40;refine(HCO.out _).mono ?_;rintro e w5 ⟨rfl,hb5⟩;have HB5:=zh (q_next hB.out hb5);clear hb5 y0 y1 y2 y3 y4) | (go_at_call 56;refine(HSE.out _).mono ?_;rintro e w6 ⟨rfl,hb6⟩;have HB6:=zh (q_next HB5.out hb6);clear hb6;have HV6:=zh (HY1.out w6 HB6.out).2.2;obtain⟨y0,y1,y2,y3,y4⟩:=vcellsAt HV6.out;have ef:∀ j,World.frozen? w6 ⟨w.heap.size+1+1,j,none⟩=false:=fun j=>by unfold World.frozen?;rw[HV6.out];simp))
     obtain⟨w7,hw7⟩:∃ w7,w7=w6.setCell ⟨w.heap.size+1+1,4,none⟩ (.string SL):=⟨_,rfl⟩
     rw[← hw7]
     have hg7:w6.grownBy w7 (some (w.heap.size+1+1)):=by rw[hw7];exact grown_setCell (grown_refl _ _) _ (.inl rfl) _
     have HV7:Hid (w7.heap[w.heap.size+1+1]?=some (.cells #[.int .i64 car,.int .i64 num,.int .i64 stp,.string val,.string SL] 27 (0,0))):=zh (by rw[hw7];exact heap_setCell_same (i:=4) _ HV6.out)
     have hz6:=(HY1.out w6 HB6.out).2.1
     have HZ:Hid (w7.heap[w.heap.size+1]?=some (.cells #[.int .i64 0,.int .i64 0,.int .i64 0,.string ⟨#[]⟩,.string ⟨#[]⟩] 27 (0,0))):=zh ((hg7.block _ (ltA hz6) (fun e=>by have:=Option.some.inj e;omega)).trans hz6)
     have HB7:Hid (Below w.heap.size w w7):=zh (by rw[hw7];exact(HBA.out.trans (HB6.out.mono HBA.out.size)).setCell (p:=⟨w.heap.size+1+1,4,none⟩) (by show w.heap.size≤w.heap.size+1+1;omega) _)
     clear hw7 hg7 hz6 y0 y1 y2 y3 y4 ef HV6 HB6
     obtain⟨y0,y1,y2,y3,y4⟩:=vcellsAt HV7.out
     obtain⟨z0,z1,z2,z3,z4⟩:=vcellsAt HZ.out
     have zf:∀ j,World.frozen? w7 ⟨w.heap.size+1,j,none⟩=false:=fun j=>by unfold World.frozen?;rw[HZ.out];simp
     go_wp2
     refine bodyPost_ret (results_cellA_tmp rfl _ (w.heap.size+1) 27 #[.int .i64 car,.int .i64 num,.int .i64 stp,.string val,.string SL] (0,0) _ rfl (vfive_heap HZ.out _ _ _ _ _) Tryz.underlying27 rfl infoVote) rfl ⟨?_,vfive_below HB7.out (by omega) _ _ _ _ _⟩
     rw[HR.out]
     rfl
 ·have hkn:((key.size:Int) != 32)=true:=by
   rw[bne_iff_ne]
   intro h
   omega
  have hf:formedV ⟨car,num,stp,val,key⟩=false:=by
   rw[Bool.eq_false_iff]
   intro h
   exact hk32 (formed_facts h).2.2.2.2
  have HR:=zh (castV_no (hist:=hist) (.inl hf))
  clear hf HF
  generalize castV key car num stp val hist=R at *
  go_enter Tryz.func24,Tryz.ntmps24
  go_upto_region 2 with fail
  rw[← HW1.out,← HW2.out,← HW3.out]
  have HZ:=zh (HY1.out W3 br0).2.1
  obtain⟨z0,z1,z2,z3,z4⟩:=vcellsAt HZ.out
  have zf:∀ j,World.frozen? W3 ⟨w.heap.size+1,j,none⟩=false:=fun j=>by unfold World.frozen?;rw[HZ.out];simp
  go_wp2
  refine bodyPost_ret (results_cellA_tmp rfl _ (w.heap.size+1) 27 #[.int .i64 0,.int .i64 0,.int .i64 0,.string ⟨#[]⟩,.string ⟨#[]⟩] (0,0) _ rfl (vfive_heap HZ.out _ _ _ _ _) Tryz.underlying27 rfl infoVote) rfl ⟨?_,vfive_below (HBA.out.trans ((Below.refl W3.heap.size W3).mono HBA.out.size)) (by omega) _ _ _ _ _⟩
  rw[HR.out]
  rfl
theorem tenAt {W:World}{b:Nat}{T:TypeId}{v0 v1 v2 v3 v4 v5 v6 v7 v8 v9:Value}(h:W.heap[b]?=some (.cells #[v0,v1,v2,v3,v4,v5,v6,v7,v8,v9] T (0,0))) :
  (W.cell? ⟨b,0,none⟩=some v0∧W.cell? ⟨b,1,none⟩=some v1∧W.cell? ⟨b,2,none⟩=some v2∧W.cell? ⟨b,3,none⟩=some v3∧W.cell? ⟨b,4,none⟩=some v4) ∧
  W.cell? ⟨b,5,none⟩=some v5∧W.cell? ⟨b,6,none⟩=some v6∧W.cell? ⟨b,7,none⟩=some v7∧W.cell? ⟨b,8,none⟩=some v8∧W.cell? ⟨b,9,none⟩=some v9 :=
 ⟨⟨cell_of_row W b 0 _ _ _ h,cell_of_row W b 1 _ _ _ h,cell_of_row W b 2 _ _ _ h,cell_of_row W b 3 _ _ _ h,cell_of_row W b 4 _ _ _ h⟩,cell_of_row W b 5 _ _ _ h,cell_of_row W b 6 _ _ _ h,cell_of_row W b 7 _ _ _ h,cell_of_row W b 8 _ _ _ h,cell_of_row W b 9 _ _ _ h⟩
set_option maxHeartbeats 4000000 in
theorem rconv19_any {w:World}{kv:Value}{ks:List ByteArray}(hr:SS w kv ks)(hks:∀ k∈ks,k.size≤1000)(d:VoteP × VoteP) :
  Calls Tryz.prog 27 #[.agg #[kv],dagg d] w fun e w'=>e=.returned (.bool (convictsV ks d))∧Below w.heap.size w w':=by
 obtain⟨ka,kc,hke,-,-,-⟩:=hr.opened
 obtain⟨kn,hkn⟩:∃ n,n=ks.length:=⟨_,rfl⟩
 rw[← hkn]at hke
 subst hke
 clear hkn
 obtain⟨W1,hW1⟩:∃ W1,W1=w.alloc (.cells #[.slice ka kn kc] 31):=⟨_,rfl⟩
 have HB1:Hid (Below w.heap.size w W1):=zh (by rw[hW1];exact br0.alloc (Nat.le_refl _) _)
 have HX1:Hid (W1.heap[w.heap.size]?=some (.cells #[.slice ka kn kc] 31 (0,0))):=zh (by rw[hW1];exact heap_alloc_new w _)
 obtain⟨⟨ac,an,at1,av,al⟩,bc,bn,bt1,bv,bl⟩:=d
 obtain⟨W2,hW2⟩:∃ W2,W2=W1.alloc (.cells #[.int .i64 ac,.int .i64 an,.int .i64 at1,.string av,.string al,.int .i64 bc,.int .i64 bn,.int .i64 bt1,.string bv,.string bl] 45):=⟨_,rfl⟩
 have HB2:Hid (Below W1.heap.size W1 W2):=zh (by rw[hW2];exact br0.alloc (Nat.le_refl _) _)
 have HX2:Hid (W2.heap[W1.heap.size]?=some (.cells #[.int .i64 ac,.int .i64 an,.int .i64 at1,.string av,.string al,.int .i64 bc,.int .i64 bn,.int .i64 bt1,.string bv,.string bl] 45 (0,0))):=zh (by rw[hW2];exact heap_alloc_new W1 _)
 have hsz:W1.heap.size=w.heap.size+1:=by rw[hW1];simp
 have HB12:=zh (HB1.out.trans (HB2.out.mono HB1.out.size))
 rw[hsz]at HX2
 have HC:=zh (fun W (hW:Below W2.heap.size W2 W)=>And.intro (cell_of_row W _ 0 _ _ _ (((q_next HB2.out hW).block _ (ltA HX1.out)).trans HX1.out)) (tenAt ((hW.block _ (ltA HX2.out)).trans HX2.out)))
 have HG1:=zh (fun W (hW:Below W2.heap.size W2 W)=>rgen19_any (hr.below (q_next HB12.out hW)) hks ⟨ac,an,at1,av,al⟩)
 have HG2:=zh (fun W (hW:Below W2.heap.size W2 W)=>rgen19_any (hr.below (q_next HB12.out hW)) hks ⟨bc,bn,bt1,bv,bl⟩)
 obtain⟨g1,hg1⟩:∃ g,g=genuineV ks ⟨ac,an,at1,av,al⟩:=⟨_,rfl⟩
 obtain⟨g2,hg2⟩:∃ g,g=genuineV ks ⟨bc,bn,bt1,bv,bl⟩:=⟨_,rfl⟩
 rw[← hg1]at HG1
 rw[← hg2]at HG2
 have hcv:convictsV ks (⟨ac,an,at1,av,al⟩,⟨bc,bn,bt1,bv,bl⟩)=(g1 && (g2 && (decide (ac=bc) && (decide (an=bn∧at1=bt1) && decide (av.toList < bv.toList))))):=by
  unfold convictsV oneV
  rw[hg1,hg2,Bool.eq_iff_iff]
  simp only[Bool.and_eq_true,decide_eq_true_eq]
  constructor
  ·rintro⟨⟨⟨⟨h1,h2,h3⟩,h4⟩,h5⟩,h6⟩
   exact⟨h5,h6,h1,⟨h2,h3⟩,h4⟩
  ·rintro⟨h5,h6,h1,⟨h2,h3⟩,h4⟩
   exact⟨⟨⟨⟨h1,h2,h3⟩,h4⟩,h5⟩,h6⟩
 have hlv:Op.bytesLess av.toList bv.toList=decide (av.toList < bv.toList):=bytesLess_eq ..
 have HSL:=zh (fun W=>eqlSlot an at1 bn bt1 W)
 have hbq:(ac == bc)=decide (ac=bc):=by rw[Bool.eq_iff_iff];simp
 rw[hcv]
 have HW1:=zh hW1
 have HW2:=zh hW2
 clear hcv hg1 hg2 hW1 hW2 hr hks
 simp only[dagg,vagg]at HG1 HG2 ⊢
 generalize decide (an=bn∧at1=bt1)=se at *
 generalize decide (av.toList < bv.toList)=lt at *
 generalize decide (ac=bc)=ce at *
 have hsl:=HSL.out
 cases g1 <;> cases g2 <;> cases ce <;> cases se <;>
 ·go_enter Tryz.func27,Tryz.ntmps27
  go_upto_region 1 with fail
  rw[← HW1.out,← HW2.out]
  have hR:=zh (Below.refl W2.heap.size W2)
  obtain⟨c0,⟨d0,d1,d2,d3,d4⟩,e0,e1,e2,e3,e4⟩:=HC.out W2 hR.out
  go_wp2_with (go_at_call 22;(first | (with_reducible refine(HG1.out _ hR.out).mono ?_) | (with_reducible refine(HG2.out _ hR.out).mono ?_));clear c0 d0 d1 d2 d3 d4 e0 e1 e2 e3 e4;rintro e wa ⟨rfl,ha⟩;replace hR:=zh (q_next hR.out ha);obtain⟨c0,⟨d0,d1,d2,d3,d4⟩,e0,e1,e2,e3,e4⟩:=HC.out wa hR.out)
  go_ret
  exact⟨rfl,q_next HB12.out hR.out⟩
theorem scells_len (xs:List ByteArray):(scells xs).length=xs.length:=by unfold scells;rw[List.length_map]
theorem OwnE.mono {w:World}{base base' size:Nat}{e:TypeId}{v:Value}{css:List (List Value)}(h:OwnE w base e size v css)(hb:base'≤base):OwnE w base' e size v css :=
 ⟨h.1,h.2.imp id fun⟨g,cap,cur,e1,h1,r⟩=>⟨g,cap,cur,e1,Nat.le_trans hb h1,r⟩⟩
section
variable {ops:Array Oper} {rest:List Oper} {o:Oper} {a:Act} {w:World} {Q:Exit→Act→World→Prop} {K:Act→World→Prop} {E:Prop}
theorem wp_append_strs (s x:Operand)(base:Nat)(v:Value)(xs ys:List ByteArray)(vy:Value)(hown:OwnS w base v xs)(hy:SS w vy ys)(hy0:0 < ys.length)(hlen:xs.length+ys.length≤1000000)(hbase:base≤w.heap.size)
  (ho:o.op=.call { callee:=.builtin .append,args:=#[s,x],argTypes:=#[29,29] }) (hs:a.eval s=v) (hx:a.eval x=vy)
  (h:∀ v' w',OwnS w' base v' (xs++ys)→w.grownBy w' v.ownBlock→K (a.put o.dst v') w'):o.wp Tryz.prog a w K Q:=by
 obtain⟨ad,cap,rfl,_,_,hc⟩:=hy.opened
 obtain⟨b,off,rfl,hb,_⟩:=hc 0 _ (List.getElem?_eq_getElem hy0)
 obtain⟨i,i1,i2,i3,i4⟩:=info_parts infoStr
 refine wp_append_own w s x 29 ho base 9 i _ 1 16 (by kernel_rfl) i1 i2 i3 i4 rfl (by decide) v _ _ hs hown ⟨b,off,none⟩ ys.length cap (scells ys).flatten hx (by rw[scells_flat];simp) ?_ ?_ (by rw[scells_len];unfold maxLen;omega) (by rw[scells_len];omega) hbase ?_
 ·intro j u hj
  rw[scells_flat,List.getElem?_map]at hj
  obtain⟨y,hy,rfl⟩:=Option.map_eq_some_iff.1 hj
  obtain⟨b',off',e,_,c0⟩:=hc j y hy
  cases e
  rw[Addr.add_mid]
  exact c0
 ·intro u hu
  rw[scells_flat]at hu
  obtain⟨y,_,rfl⟩:=List.mem_map.1 hu
  rfl
 ·intro v' w' h1 h2 _
  refine h v' w' ?_ h2
  unfold OwnS OwnE
  have e:scells (xs++ys)=scells xs++scells ys:=by unfold scells;rw[List.map_append]
  rw[e,List.length_append,List.flatten_append,scells_len ys]
  exact h1
theorem step_append_strs (hgd:o.guard=none)(s x:Operand)(base:Nat)(v:Value)(xs ys:List ByteArray)(vy:Value)(hown:OwnS w base v xs)(hy:SS w vy ys)(hy0:0 < ys.length)(hlen:xs.length+ys.length≤1000000)(hbase:base≤w.heap.size)
  (ho:o.op=.call { callee:=.builtin .append,args:=#[s,x],argTypes:=#[29,29] }) (hs:a.eval s=v) (hx:a.eval x=vy)
  (h:∀ v' w',OwnS w' base v' (xs++ys)→w.grownBy w' v.ownBlock→K (a.put o.dst v') w'):if Region.wanted o (yielded ops a.tmps)=true then Oper.wp Tryz.prog o a w K Q else E:=by
 have hw:Region.wanted o (yielded ops a.tmps)=true:=by simp[Region.wanted,hgd]
 rw[if_pos hw]
 exact wp_append_strs s x base v xs ys vy hown hy hy0 hlen hbase ho hs hx h
end
theorem Keeps.own {base B size:Nat}{e:TypeId}{v:Value}{css:List (List Value)}{N:List Ann}{w w':World}(ho:OwnE w B e size v css)(hg:w.grownBy w' v.ownBlock)(hN:∀ x∈N,∀ c,x.2.1≠.cells c e (0,0)):Keeps base N w w' :=
 fun x hx i _ h=>(hg.block i (ltA h) (own_ne ho h (hN x hx))).trans h
theorem two_grown (W:World)(b:Nat)(x y:Value):W.grownBy ((W.setCell ⟨b,0,none⟩ x).setCell ⟨b,1,none⟩ y) (some b) :=
 grown_setCell (grown_setCell (grown_refl _ _) ⟨b,0,none⟩ (.inl rfl) x) ⟨b,1,none⟩ (.inl rfl) y
theorem kept_block {w w':World}{b:Nat}{o:Obj}(h:w.heap[b]?=some o)(hb:Below w.heap.size w w'):w'.heap[b]?=some o:=(hb.block b (ltA h)).trans h
theorem OwnS.two {W:World}{b B:Nat}{c0 c1 v:Value}{xs:List ByteArray}{T:TypeId}(h:OwnS W B v xs)(hb:W.heap[b]?=some (.cells #[c0,c1] T (0,0)))(hT:T≠9)(x y:Value):OwnS ((W.setCell ⟨b,0,none⟩ x).setCell ⟨b,1,none⟩ y) B v xs :=
 OwnE.grownT h hb (fun c e=>hT (by injection e)) (two_grown W b x y)
theorem SS.form2' {w:World}{v:Value}{xs:List ByteArray}(h:SS w v xs):∃ a c,v=.slice a xs.length c:=by
 obtain⟨a,c,h,_⟩:=h.opened
 exact⟨a,c,h⟩
/-! ### Nothing appended -/
theorem run_append_zero {P:Program}{w:World}(base:Nat)(t ty e:TypeId)(i:TypeInfo)(size:Nat)(ht:P.underlying t=some (.slice e))(hi:P.info? e=some i)
  (v:Value) (n:Nat) (xs:List Value) (hown:w.ownsRow base e size v n xs) (ad:Option Addr) (c:Nat) :
  (Builtin.append_ #[t,t] ty #[v,.slice ad 0 c]).run P w=.ok v w:=by
 rcases hown.2 with⟨rfl,rfl⟩ | ⟨g,cap,cur,rfl,_,_,hnc,_⟩
 ·cases ad <;> simp[Builtin.append_,run_underlying ht,sizeOf,typeInfo,hi,Builtin.lenOf,Builtin.firstCells,loadCells,loadCellsFrom]
 ·cases ad <;> simp[Builtin.append_,run_underlying ht,sizeOf,typeInfo,hi,Builtin.lenOf,Builtin.firstCells,hnc,storeCells,loadCells,loadCellsFrom]
section
variable {ops:Array Oper} {rest:List Oper} {o:Oper} {a:Act} {w:World} {Q:Exit→Act→World→Prop} {K:Act→World→Prop} {E:Prop}
theorem wp_append_zero (s x:Operand)(t e:TypeId)(i:TypeInfo)(ht:Tryz.prog.underlying t=some (.slice e))(hi:Tryz.prog.info? e=some i)(base size n:Nat)(v:Value)(xs:List Value)(hown:w.ownsRow base e size v n xs)(ad:Option Addr)(c:Nat)
  (ho:o.op=.call { callee:=.builtin .append,args:=#[s,x],argTypes:=#[t,t] }) (hs:a.eval s=v) (hx:a.eval x=.slice ad 0 c) (h:K (a.put o.dst v) w):o.wp Tryz.prog a w K Q:=by
 unfold Oper.wp execOp
 have hr:=run_append_zero (P:=Tryz.prog) (w:=w) base t o.type e i size ht hi v n xs hown ad c
 simp only[ho,resolve,invoke,builtin,Sem.run_bind,Sem.run_pure,Result.andThen_ok,List.map_toArray,List.map_cons,List.map_nil,hs,hx,hr]
 exact h
theorem step_append_all (hgd:o.guard=none)(s x:Operand)(base:Nat)(v:Value)(xs ys:List ByteArray)(vy:Value)(hown:OwnS w base v xs)(hy:SS w vy ys)(hlen:xs.length+ys.length≤1000000)(hbase:base≤w.heap.size)
  (ho:o.op=.call { callee:=.builtin .append,args:=#[s,x],argTypes:=#[29,29] }) (hs:a.eval s=v) (hx:a.eval x=vy)
  (h:∀ v' w',OwnS w' base v' (xs++ys)→w.grownBy w' v.ownBlock→K (a.put o.dst v') w'):if Region.wanted o (yielded ops a.tmps)=true then Oper.wp Tryz.prog o a w K Q else E:=by
 rcases Nat.eq_zero_or_pos ys.length with h0 | h0
 ·have hw:Region.wanted o (yielded ops a.tmps)=true:=by simp[Region.wanted,hgd]
  rw[if_pos hw]
  obtain⟨ad,c,e⟩:=hy.form2'
  have h1:ys=[]:=List.eq_nil_of_length_eq_zero h0
  subst h1
  subst e
  obtain⟨i,i1,_⟩:=info_parts infoStr
  exact wp_append_zero s x 29 9 i (by kernel_rfl) i1 base 1 _ v _ hown ad c ho hs hx (h v w (by rw[List.append_nil];exact hown) (grown_refl _ _))
 ·exact step_append_strs hgd s x base v xs ys vy hown hy h0 hlen hbase ho hs hx h
end
theorem cell_below {w W:World}{b B:Nat}(h:Below B w W)(hb:B≤b)(i:Nat)(v:Value):Below B w (W.setCell ⟨b,i,none⟩ v):=h.setCell (p:=⟨b,i,none⟩) hb v
theorem ten_below {w W:World}{b B:Nat}(h:Below B w W)(hb:B≤b)(v0 v1 v2 v3 v4 v5 v6 v7 v8 v9:Value) :
  Below B w ((((((((((W.setCell ⟨b,0,none⟩ v0).setCell ⟨b,1,none⟩ v1).setCell ⟨b,2,none⟩ v2).setCell ⟨b,3,none⟩ v3).setCell ⟨b,4,none⟩ v4).setCell ⟨b,5,none⟩ v5).setCell ⟨b,6,none⟩ v6).setCell ⟨b,7,none⟩ v7).setCell ⟨b,8,none⟩ v8).setCell ⟨b,9,none⟩ v9):=by
 refine cell_below ?_ hb 9 v9
 refine cell_below ?_ hb 8 v8
 refine cell_below ?_ hb 7 v7
 refine cell_below ?_ hb 6 v6
 refine cell_below ?_ hb 5 v5
 exact vfive_below h hb v0 v1 v2 v3 v4
theorem ten_heap {W:World}{b:Nat}{c0 c1 c2 c3 c4 c5 c6 c7 c8 c9:Value}{T:TypeId}(h:W.heap[b]?=some (.cells #[c0,c1,c2,c3,c4,c5,c6,c7,c8,c9] T (0,0)))(v0 v1 v2 v3 v4 v5 v6 v7 v8 v9:Value) :
  ((((((((((W.setCell ⟨b,0,none⟩ v0).setCell ⟨b,1,none⟩ v1).setCell ⟨b,2,none⟩ v2).setCell ⟨b,3,none⟩ v3).setCell ⟨b,4,none⟩ v4).setCell ⟨b,5,none⟩ v5).setCell ⟨b,6,none⟩ v6).setCell ⟨b,7,none⟩ v7).setCell ⟨b,8,none⟩ v8).setCell ⟨b,9,none⟩ v9).heap[b]?=some (.cells #[v0,v1,v2,v3,v4,v5,v6,v7,v8,v9] T (0,0)):=by
 have h0:(W.setCell ⟨b,0,none⟩ v0).heap[b]?=some (.cells #[v0,c1,c2,c3,c4,c5,c6,c7,c8,c9] T (0,0)):=heap_setCell_same (i:=0) v0 h
 have h1:((W.setCell ⟨b,0,none⟩ v0).setCell ⟨b,1,none⟩ v1).heap[b]?=some (.cells #[v0,v1,c2,c3,c4,c5,c6,c7,c8,c9] T (0,0)):=heap_setCell_same (i:=1) v1 h0
 have h2:(((W.setCell ⟨b,0,none⟩ v0).setCell ⟨b,1,none⟩ v1).setCell ⟨b,2,none⟩ v2).heap[b]?=some (.cells #[v0,v1,v2,c3,c4,c5,c6,c7,c8,c9] T (0,0)):=heap_setCell_same (i:=2) v2 h1
 have h3:((((W.setCell ⟨b,0,none⟩ v0).setCell ⟨b,1,none⟩ v1).setCell ⟨b,2,none⟩ v2).setCell ⟨b,3,none⟩ v3).heap[b]?=some (.cells #[v0,v1,v2,v3,c4,c5,c6,c7,c8,c9] T (0,0)):=heap_setCell_same (i:=3) v3 h2
 have h4:(((((W.setCell ⟨b,0,none⟩ v0).setCell ⟨b,1,none⟩ v1).setCell ⟨b,2,none⟩ v2).setCell ⟨b,3,none⟩ v3).setCell ⟨b,4,none⟩ v4).heap[b]?=some (.cells #[v0,v1,v2,v3,v4,c5,c6,c7,c8,c9] T (0,0)):=heap_setCell_same (i:=4) v4 h3
 have h5:((((((W.setCell ⟨b,0,none⟩ v0).setCell ⟨b,1,none⟩ v1).setCell ⟨b,2,none⟩ v2).setCell ⟨b,3,none⟩ v3).setCell ⟨b,4,none⟩ v4).setCell ⟨b,5,none⟩ v5).heap[b]?=some (.cells #[v0,v1,v2,v3,v4,v5,c6,c7,c8,c9] T (0,0)):=heap_setCell_same (i:=5) v5 h4
 have h6:(((((((W.setCell ⟨b,0,none⟩ v0).setCell ⟨b,1,none⟩ v1).setCell ⟨b,2,none⟩ v2).setCell ⟨b,3,none⟩ v3).setCell ⟨b,4,none⟩ v4).setCell ⟨b,5,none⟩ v5).setCell ⟨b,6,none⟩ v6).heap[b]?=some (.cells #[v0,v1,v2,v3,v4,v5,v6,c7,c8,c9] T (0,0)):=heap_setCell_same (i:=6) v6 h5
 have h7:((((((((W.setCell ⟨b,0,none⟩ v0).setCell ⟨b,1,none⟩ v1).setCell ⟨b,2,none⟩ v2).setCell ⟨b,3,none⟩ v3).setCell ⟨b,4,none⟩ v4).setCell ⟨b,5,none⟩ v5).setCell ⟨b,6,none⟩ v6).setCell ⟨b,7,none⟩ v7).heap[b]?=some (.cells #[v0,v1,v2,v3,v4,v5,v6,v7,c8,c9] T (0,0)):=heap_setCell_same (i:=7) v7 h6
 have h8:(((((((((W.setCell ⟨b,0,none⟩ v0).setCell ⟨b,1,none⟩ v1).setCell ⟨b,2,none⟩ v2).setCell ⟨b,3,none⟩ v3).setCell ⟨b,4,none⟩ v4).setCell ⟨b,5,none⟩ v5).setCell ⟨b,6,none⟩ v6).setCell ⟨b,7,none⟩ v7).setCell ⟨b,8,none⟩ v8).heap[b]?=some (.cells #[v0,v1,v2,v3,v4,v5,v6,v7,v8,c9] T (0,0)):=heap_setCell_same (i:=8) v8 h7
 exact heap_setCell_same (i:=9) v9 h8
end Go.Proofs.YtggdcnjaofflbaaGreatDoor
