/- TopReclaims: wish.Formed, wish.Encode. The conditions: what is formed, sizes of seals. -/
import Derived.Deep.CutBlock
import Derived.Test.YtjjiikeldpjafaaGreatDoorTT15
namespace Go.Proofs.YtjjiikeldpjafaaGreatDoor
open Go.RowKit Go.BigFrame Go.Shelf
set_option maxHeartbeats 2000000 in
set_option maxRecDepth 100000 in
theorem formedW_yes (x:WishP)(h:formedW x=true){w:World}{v:Value}{l:List ProxP}(hl:∀ p∈l,formedP p=true)(hv:PrS w v l)(h4:l.length≤4) :
  Calls Tryz.prog 27 #[wagg x,v] w fun e w'=>e=.returned (.bool true)∧Below w.heap.size w w':=by
 have HIW:=zh (fun W=>isWish_yes x h W)
 have HBP:=zh (fun W (hW:Below w.heap.size w W)=>badProxy_no hl (hv.below hW))
 obtain⟨m1,hm1⟩:∃ m1:Int,m1=-1:=⟨_,rfl⟩
 rw[← hm1]at HBP
 have h0:m1 < 0:=by omega
 obtain⟨a,c,rfl,-,-⟩:=hv.form
 have hn4:(l.length:Int)≤4:=by omega
 generalize l.length=n at *
 obtain⟨sg,ho,rf,rt,ca,se,sf,st,sl⟩:=x
 obtain⟨W1,hW1⟩:∃ W1,W1=w.alloc (.cells #[.int .i64 sg,.int .i64 ho,.int .i64 rf,.int .i64 rt,.int .i64 ca,.int .i64 se,.int .i64 sf,.int .i64 st,.string sl] 31):=⟨_,rfl⟩
 have HB1:Hid (Below w.heap.size w W1):=zh (by rw[hW1];exact br0.alloc (Nat.le_refl _) _)
 have HX1:Hid (W1.heap[w.heap.size]?=some (.cells #[.int .i64 sg,.int .i64 ho,.int .i64 rf,.int .i64 rt,.int .i64 ca,.int .i64 se,.int .i64 sf,.int .i64 st,.string sl] 31 (0,0))):=zh (by rw[hW1];exact heap_alloc_new w _)
 have HC:=zh (fun W (hW:Below W1.heap.size W1 W)=>kept_block HX1.out hW)
 have HR:Hid (Below W1.heap.size W1 W1):=zh br0
 have HW1:=zh hW1
 clear hW1 hm1 h hl hv h4
 unfold wagg at *
 simp only at HIW ⊢
 obtain⟨c0,c1,c2,c3,c4,c5,c6,c7,c8⟩:=nine_cells (HC.out W1 HR.out)
 go_enter Tryz.func27,Tryz.ntmps27
 go_upto_region 1 with fail
 rw[← HW1.out]
 go_wp2_with (first | (go_at_call 22;(with_reducible refine(HIW.out _).mono ?_);clear c0 c1 c2 c3 c4 c5 c6 c7 c8;rintro e w2 ⟨rfl,hbx⟩;replace HR:=zh (q_next HR.out hbx);clear hbx;obtain⟨c0,c1,c2,c3,c4,c5,c6,c7,c8⟩:=nine_cells (HC.out w2 HR.out)) | (go_at_call 65;(with_reducible refine(HBP.out _ (q_next HB1.out HR.out)).mono ?_);clear c0 c1 c2 c3 c4 c5 c6 c7 c8;rintro e w3 ⟨rfl,hbx⟩;replace HR:=zh (q_next HR.out hbx);clear hbx;obtain⟨c0,c1,c2,c3,c4,c5,c6,c7,c8⟩:=nine_cells (HC.out w3 HR.out)))
 go_ret
 exact⟨rfl,q_next HB1.out HR.out⟩
set_option maxHeartbeats 4000000 in
set_option maxRecDepth 100000 in
theorem encodeW_any (x:WishP)(h:formedW x=true)(hsl:x.sl.size=32){w:World}{v:Value}{l:List ProxP}(hl:∀ p∈l,formedP p=true)(hl2:∀ p∈l,p.sl.size=32)(hv:PrS w v l)(h4:l.length≤4) :
  Calls Tryz.prog 8 #[wagg x,v] w fun e w'=>e=.returned (.tuple #[.string (encW x l),.int .i64 0])∧Below w.heap.size w w':=by
 have HFO:=zh (fun W (hW:Below w.heap.size w W)=>formedW_yes x h hl (hv.below hW) h4)
 have HCF:=zh (fun W (hW:Below w.heap.size w W)=>cfProx_no 26 (open1_fn hl2) (hv.below hW))
 have HWW:=zh (fun(B b:Nat) (L:List UInt8) (W:World) (hB:WB B b L W) (hL:L.length≤10000) (hBw:B≤W.heap.size)=>wishWr_any B b L x h hB hL hBw)
 have HPF:=zh hl
 have HPS:=zh hl2
 have HV:=zh hv
 have HXT:Hid (∀ M,M=textL x l→M.length≤312):=zh (fun M hM=>by rw[hM];exact textL_len hsl h4 hl2)
 obtain⟨X,hX⟩:∃ X,X=putsN (wishI x)++x.sl.data.toList:=⟨_,rfl⟩
 have HT:Hid (textL x l=putN l.length++(proxsL l++X)):=zh (by rw[hX];rfl)
 obtain⟨wi,hwi⟩:∃ wi,wi=wishI x:=⟨_,rfl⟩
 rw[← hwi]at HWW hX
 have HX:=zh hX
 obtain⟨a,c,rfl,hlc,hcm⟩:=hv.form
 obtain⟨n,hn⟩:∃ n,n=l.length:=⟨_,rfl⟩
 rw[← hn]at HFO HCF HV HT hlc h4 ⊢
 have HN:=zh hn
 have HE:Hid (encW x l=bytesOf (putN n++(proxsL l++X))):=zh (by unfold encW;rw[HT.out])
 have hn9:n≤9223372036854775807:=by omega
 have HM:Hid ((putN n++(proxsL l++X)).length≤312):=zh (HXT.out _ HT.out.symm)
 clear hX hwi hn h hl hl2 hv hlc hcm HXT HT
 obtain⟨sg,ho,rf,rt,ca,se,sf,st,sl⟩:=x
 simp only at hsl
 obtain⟨W1,hW1⟩:∃ W1,W1=w.alloc (.cells #[.int .i64 sg,.int .i64 ho,.int .i64 rf,.int .i64 rt,.int .i64 ca,.int .i64 se,.int .i64 sf,.int .i64 st,.string sl] 31):=⟨_,rfl⟩
 have HB1:Hid (Below w.heap.size w W1):=zh (by rw[hW1];exact br0.alloc (Nat.le_refl _) _)
 have HX1:Hid (W1.heap[w.heap.size]?=some (.cells #[.int .i64 sg,.int .i64 ho,.int .i64 rf,.int .i64 rt,.int .i64 ca,.int .i64 se,.int .i64 sf,.int .i64 st,.string sl] 31 (0,0))):=zh (by rw[hW1];exact heap_alloc_new w _)
 have HC:=zh (fun W (hW:Below W1.heap.size W1 W)=>kept_block HX1.out hW)
 have HR:Hid (Below W1.heap.size W1 W1):=zh br0
 have HW1:=zh hW1
 clear hW1
 obtain⟨E,hE⟩:∃ E,E=encW ⟨sg,ho,rf,rt,ca,se,sf,st,sl⟩ l:=⟨_,rfl⟩
 rw[← hE]at HE ⊢
 clear hE
 unfold wagg at *
 simp only at HFO HWW HX ⊢
 obtain⟨c0,c1,c2,c3,c4,c5,c6,c7,c8⟩:=nine_cells (HC.out W1 HR.out)
 go_enter Tryz.func8,Tryz.ntmps8
 go_upto_region 1 with fail
 rw[← HW1.out]
 go_upto_region 4 with(first | (go_at_call 27;(with_reducible refine(HFO.out _ (q_next HB1.out HR.out)).mono ?_);clear c0 c1 c2 c3 c4 c5 c6 c7 c8;rintro e w2 ⟨rfl,hbx⟩;replace HR:=zh (q_next HR.out hbx);clear hbx;obtain⟨c0,c1,c2,c3,c4,c5,c6,c7,c8⟩:=nine_cells (HC.out w2 HR.out)) | (go_at_call 28;(with_reducible refine(HCF.out _ (q_next HB1.out HR.out)).mono ?_);clear c0 c1 c2 c3 c4 c5 c6 c7 c8;rintro e w3 ⟨rfl,hbx⟩;replace HR:=zh (q_next HR.out hbx);clear hbx;obtain⟨c0,c1,c2,c3,c4,c5,c6,c7,c8⟩:=nine_cells (HC.out w3 HR.out)))
 clear c0 c1 c2 c3 c4 c5 c6 c7 c8 HFO HCF
 obtain⟨Wb,hWb⟩:∃ W,W=w3.alloc (.cells #[.pointer none,.slice none 0 0] 104):=⟨_,rfl⟩
 have HBb:Hid (Below w3.heap.size w3 Wb):=zh (by rw[hWb];exact br0.alloc (Nat.le_refl _) _)
 have HFb:Hid (WB w3.heap.size w3.heap.size [] Wb):=zh (by rw[hWb];exact Lib.fresh_isBuilder 104 5 w3)
 have HWb:=zh hWb
 clear hWb
 obtain⟨Wl,hWl⟩:∃ W,W=Wb.alloc (.cells #[.int .i64 (n:Int)] 3):=⟨_,rfl⟩
 have HBl:Hid (Below Wb.heap.size Wb Wl):=zh (by rw[hWl];exact br0.alloc (Nat.le_refl _) _)
 have HXl:Hid (Wl.heap[Wb.heap.size]?=some (.cells (icells [(n:Int)]).flatten.toArray 3 (0,0))):=zh (by rw[hWl];exact heap_alloc_new Wb _)
 have HWl:=zh hWl
 clear hWl
 have HP1:=zh (numbers_any w3.heap.size w3.heap.size [] (HFb.out.keep HBl.out) (by simp) (Nat.le_trans HBb.out.size HBl.out.size) HXl.out (show 1=[(n:Int)].length from rfl) (by decide) (fun y hy=>by rw[List.mem_singleton.1 hy];omega))
 have HD0:=zh (HBb.out.trans (HBl.out.mono HBb.out.size))
 have HPN:Hid (([]:List UInt8)++putsN [(n:Int)]=putN n):=zh (by rw[List.nil_append,putsN_cons];exact List.append_nil _)
 rw[HPN.out]at HP1
 go_upto_region 5 with fail
 rw[← HWb.out]
 have hb3:∃ b,b=w3.heap.size:=⟨_,rfl⟩
 obtain⟨b,hb3⟩:=hb3
 rw[← hb3]at HP1 HD0 ⊢
 have HBE:=zh hb3
 clear hb3
 go_upto_region 6 with(go_at_call 29;rw[← HWl.out];(with_reducible refine HP1.out.mono ?_);rintro e w5 ⟨rfl,-,hu,hb5,-⟩;have HU5:=zh (hu (by decide));have HD5:=zh (HD0.out.trans hb5);clear hu hb5)
 clear HP1 HD0 HPN HWb HWl HXl HBl HFb HBb
 have HOLD:=zh (fun W (hW:Below b w3 W)=>q_next HR.out (show Below w3.heap.size w3 W by rw[← HBE.out];exact hW))
 have HVO:=zh (fun W (hW:Below b w3 W)=>q_next HB1.out (HOLD.out W hW))
 have HLB:=zh (fun W (hW:Below b w3 W)=>(show b≤W.heap.size by rw[HBE.out];exact hW.size))
 go_wp2
 go_loopw [31] (fun i wr=>∃ k:Nat,k≤n∧i=.int .i64 k∧Hid (WU b b (putN n++proxsL (l.take k)) wr)∧Hid (Below b w3 wr)) (fun i _=>n - (intOf i).toNat)
 case atStart=>exact⟨0,by omega,rfl,zh (by rw[List.take_zero];show WU b b (putN n++[]) w5;rw[List.append_nil];exact HU5.out),HD5⟩
 case round =>
  clear HU5 HD5
  obtain⟨k,hk,rfl,hU,hD⟩:=hrel
  by_cases hlt:k < n
  ·have tk:(k:Int) < (n:Int):=by omega
   have tk0:(0:Int)≤(k:Int):=by omega
   obtain⟨p,ep⟩:∃ p,l[k]?=some p:=⟨_,List.getElem?_eq_getElem (by rw[← HN.out];exact hlt)⟩
   obtain⟨pb,po,rfl,hpb,hpc⟩:=HV.out.at ep
   obtain⟨c0,c1,c2,c3,c4,c5,c6⟩:=hpc wr (HVO.out wr hD.out)
   have hpf:=HPF.out p (List.mem_of_getElem? ep)
   have hps:=HPS.out p (List.mem_of_getElem? ep)
   obtain⟨L,hL⟩:∃ L,L=putN n++proxsL (l.take k):=⟨_,rfl⟩
   have hLl:L.length≤1000:=by
    rw[hL,List.length_append]
    have h1:=proxsL_len (l:=l.take k) (fun q hq=>HPS.out q (List.mem_of_mem_take hq))
    have h2:=(putN_lenT (n:Int)).2
    rw[List.length_take]at h1
    omega
   have HSN:Hid (L++putsN (proxI p)++p.sl.data.toList=putN n++proxsL (l.take (k+1))):=zh (by rw[hL,List.take_add_one,ep];show _=putN n++proxsL (l.take k++[p]);rw[proxsL_snoc];unfold proxL;simp only[List.append_assoc])
   rw[← hL]at hU
   have hpl:=putsN_len (proxI p)
   have hpl2:(proxI p).length=7:=rfl
   have HPW:=zh (fun W (hW:Below wr.heap.size wr W)=>proxyWr_any b b L p hpf (WB.keep (.inr hU.out) hW) (by omega) (Nat.le_trans (HLB.out wr hD.out) hW.size))
   have HSW:=zh (fun(W:World) (hu:WU b b (L++putsN (proxI p)) W) (hb:b≤W.heap.size)=>wwrite_any b b (L++putsN (proxI p)) p.sl W (.inr hu) (by rw[List.length_append];omega) (by omega) hb)
   rw[HSN.out]at HSW
   generalize putsN (proxI p)=PP at *
   obtain⟨fr,tu,prf,prt,psf,pst,psl⟩:=p
   unfold pagg at HPW
   simp only at HPW HSW c0 c1 c2 c3 c4 c5 c6 hps
   have HBr:=zh (HVO.out wr hD.out)
   clear ep hpb hpc hL hLl HSN hpl hpl2 hpf hU
   go_upto_region 9 with fail
   clear c0 c1 c2 c3 c4 c5 c6
   obtain⟨wa,hwa⟩:∃ W,W=wr.alloc (.cells #[.int .i64 fr,.int .i64 tu,.int .i64 prf,.int .i64 prt,.int .i64 psf,.int .i64 pst,.string psl] 96):=⟨_,rfl⟩
   have HV_wa:Hid (wa.heap[wr.heap.size]?=some (.cells #[.int .i64 fr,.int .i64 tu,.int .i64 prf,.int .i64 prt,.int .i64 psf,.int .i64 pst,.string psl] 96 (0,0))):=zh (by rw[hwa];exact heap_alloc_new wr _)
   have HS_wa:Hid (Below wr.heap.size wr wa):=zh (by rw[hwa];exact br0.alloc (Nat.le_refl _) _)
   have HB_wa:=zh (q_next HBr.out HS_wa.out)
   rw[← hwa]
   obtain⟨bx,hbx⟩:∃ b,b=wr.heap.size:=⟨_,rfl⟩
   rw[← hbx]at HV_wa ⊢
   clear hwa hbx
   obtain⟨c0,c1,c2,c3,c4,c5,c6⟩:=seven_cells HV_wa.out
   have HPa:=zh (HPW.out wa HS_wa.out)
   go_upto_region 10 with(go_at_call 30;(with_reducible refine HPa.out.mono ?_);clear c0 c1 c2 c3 c4 c5 c6;rintro e wc ⟨rfl,hu,hb,hk2⟩;have HUc:=zh hu;have HDc:=zh ((hD.out.trans (HS_wa.out.mono (HLB.out wr hD.out))).trans hb);have HVc:=zh (hk2 _ _ _ HV_wa.out (by decide) (by decide));clear hu hb hk2)
   obtain⟨c0,c1,c2,c3,c4,c5,c6⟩:=seven_cells HVc.out
   have HSc:=zh (HSW.out wc HUc.out (HLB.out wc HDc.out))
   go_wp2_with (go_at_call 31;(with_reducible refine HSc.out.mono ?_);rintro e wd ⟨rfl,hu,hb,-⟩;have HUd:=zh hu;have HDd:=zh (HDc.out.trans hb);clear hu hb)
   go_roundw
   case rel=>exact⟨k+1,by omega,by go_num,HUd,HDd⟩
   case measure=>simp[intOf];omega
  ·obtain rfl:k=n:=by omega
   have tk:¬ (k:Int) < (k:Int):=by omega
   rw[HN.out,List.take_length,← HN.out]at hU
   obtain⟨L,hL⟩:∃ L,L=putN k++proxsL l:=⟨_,rfl⟩
   have hTL:(L++X).length≤312:=by rw[hL,List.append_assoc];exact HM.out
   have HEL:Hid (E=bytesOf (L++X)):=zh (by rw[HE.out,hL,List.append_assoc])
   have hXE:X.length=(putsN wi).length+32:=by rw[HX.out,List.length_append,size_list,hsl]
   rw[List.length_append]at hTL
   rw[← hL]at hU
   have HWr:=zh (HWW.out b b L wr (.inr hU.out) (by omega) (HLB.out wr hD.out))
   have HSL:=zh (fun(W:World) (hu:WU b b (L++putsN wi) W) (hb:b≤W.heap.size)=>wwrite_any b b (L++putsN wi) sl W (.inr hu) (by rw[List.length_append];omega) (by omega) hb)
   have e1:L++putsN wi++sl.data.toList=L++X:=by rw[HX.out,List.append_assoc]
   rw[e1]at HSL
   have HST:=zh (fun(W:World) (hu:WU b b (L++X) W)=>wBstring_any b b (L++X) W hu (by intro h;have:=congrArg List.length h;rw[List.length_append,List.length_nil]at this;omega))
   have e2:(⟨(L++X).toArray⟩:ByteArray)=E:=HEL.out.symm
   rw[e2]at HST
   clear hL hTL hXE e1 e2 hU HEL HM HE
   obtain⟨c0,c1,c2,c3,c4,c5,c6,c7,c8⟩:=nine_cells (HC.out wr (HOLD.out wr hD.out))
   go_upto_region 13 with(go_at_call 25;(with_reducible refine HWr.out.mono ?_);clear c0 c1 c2 c3 c4 c5 c6 c7 c8;rintro e wc ⟨rfl,hu,hb,-⟩;have HUc:=zh hu;have HDc:=zh (hD.out.trans hb);clear hu hb)
   obtain⟨c0,c1,c2,c3,c4,c5,c6,c7,c8⟩:=nine_cells (HC.out wc (HOLD.out wc HDc.out))
   have HSc:=zh (HSL.out wc HUc.out (HLB.out wc HDc.out))
   go_wp2_with (first | (go_at_call 31;(with_reducible refine HSc.out.mono ?_);clear c0 c1 c2 c3 c4 c5 c6 c7 c8;rintro e wd ⟨rfl,hu,hb,-⟩;have HUd:=zh hu;have HDd:=zh (HDc.out.trans hb);clear hu hb) | (go_at_call 32;(with_reducible refine(HST.out _ HUd.out).mono ?_);rintro e we ⟨rfl,hb⟩;have HDe:=zh (HDd.out.trans hb);clear hb))
   go_ret2
   exact⟨rfl,HVO.out _ HDe.out⟩
end Go.Proofs.YtjjiikeldpjafaaGreatDoor
/- TopReclaims: wish.isIn, wish.scope. The conditions: that what is granted is within what was granted before. -/
namespace Go.Proofs.YtjjiikeldpjafaaGreatDoor
open Go.RowKit Go.BigFrame
set_option maxHeartbeats 2000000 in
set_option maxRecDepth 100000 in
theorem isInW_yes (rf rt sf st:Int)(p:ProxP)(h:inP rf rt sf st p)(w:World) :
  Calls Tryz.prog 145 #[.agg #[.int .i64 rf,.int .i64 rt],.agg #[.int .i64 sf,.int .i64 st],pagg p] w fun e w'=>e=.returned (.bool true)∧Below w.heap.size w w':=by
 obtain⟨fr,tu,prf,prt,psf,pst,psl⟩:=p
 obtain⟨h1,h2,h3,h4⟩:=h
 simp only at h1 h2 h3 h4
 obtain⟨W1,hW1⟩:∃ W1,W1=w.alloc (.cells #[.int .i64 rf,.int .i64 rt] 28):=⟨_,rfl⟩
 have HBW1:Hid (Below w.heap.size w W1):=zh (by rw[hW1];exact br0.alloc (Nat.le_refl _) _)
 have HXW1:Hid (W1.heap[w.heap.size]?=some (.cells #[.int .i64 rf,.int .i64 rt] 28 (0,0))):=zh (by rw[hW1];exact heap_alloc_new w _)
 have hsW1:W1.heap.size=w.heap.size+1:=by rw[hW1];simp
 have HWW1:=zh hW1
 obtain⟨W2,hW2⟩:∃ W2,W2=W1.alloc (.cells #[.int .i64 sf,.int .i64 st] 29):=⟨_,rfl⟩
 have HBW2:Hid (Below W1.heap.size W1 W2):=zh (by rw[hW2];exact br0.alloc (Nat.le_refl _) _)
 have HXW2:Hid (W2.heap[W1.heap.size]?=some (.cells #[.int .i64 sf,.int .i64 st] 29 (0,0))):=zh (by rw[hW2];exact heap_alloc_new W1 _)
 have hsW2:W2.heap.size=W1.heap.size+1:=by rw[hW2];simp
 have HWW2:=zh hW2
 obtain⟨W3,hW3⟩:∃ W3,W3=W2.alloc (.cells #[.int .i64 fr,.int .i64 tu,.int .i64 prf,.int .i64 prt,.int .i64 psf,.int .i64 pst,.string psl] 96):=⟨_,rfl⟩
 have HBW3:Hid (Below W2.heap.size W2 W3):=zh (by rw[hW3];exact br0.alloc (Nat.le_refl _) _)
 have HXW3:Hid (W3.heap[W2.heap.size]?=some (.cells #[.int .i64 fr,.int .i64 tu,.int .i64 prf,.int .i64 prt,.int .i64 psf,.int .i64 pst,.string psl] 96 (0,0))):=zh (by rw[hW3];exact heap_alloc_new W2 _)
 have hsW3:W3.heap.size=W2.heap.size+1:=by rw[hW3];simp
 have HWW3:=zh hW3
 have g1:=kept_block HXW1.out (q_next HBW2.out HBW3.out)
 have g2:=kept_block HXW2.out HBW3.out
 have g3:=HXW3.out
 rw[hsW1]at g2
 rw[hsW2,hsW1]at g3
 obtain⟨a0,a1,-⟩:=two_cells g1
 obtain⟨b0,b1,-⟩:=two_cells g2
 obtain⟨c0,c1,c2,c3,c4,c5,c6⟩:=seven_cells g3
 have HB:=zh (q_next HBW1.out (q_next HBW2.out HBW3.out))
 clear g1 g2 g3 hW1 hW2 hW3 hsW1 hsW2 hsW3
 unfold pagg
 simp only
 go_enter Tryz.func145,Tryz.ntmps145
 go_upto_region 1 with fail
 rw[← HWW1.out,← HWW2.out,← HWW3.out]
 go_wp2
 go_ret
 exact⟨rfl,HB.out⟩
set_option maxHeartbeats 8000000 in
set_option maxRecDepth 100000 in
theorem scope_no (x:WishP){w:World}{v:Value}{l:List ProxP}(hv:PrS w v l)(h4:l.length≤4)(hs:∀(k:Nat) p q,l[k]?=some p→l[k+1]?=some q→inP q.rf q.rt q.sf q.st p)(hw:∀ p,l[l.length - 1]?=some p→inP x.rf x.rt x.sf x.st p) :
  Calls Tryz.prog 101 #[wagg x,v] w fun e w'=>e=.returned (.tuple #[.int .i64 (-1),.bool false])∧Below w.heap.size w w':=by
 have HS:=zh hs
 have HWI:=zh hw
 have HV:=zh hv
 obtain⟨a,c,rfl,hlc,hcm⟩:=hv.form
 obtain⟨n,hn⟩:∃ n,n=l.length:=⟨_,rfl⟩
 rw[← hn]at HV HWI hlc h4 ⊢
 have HN:=zh hn
 have hn9:n≤9223372036854775807:=by omega
 clear hn hs hw hv hlc hcm
 obtain⟨sg,ho,rf,rt,ca,se,sf,st,sl⟩:=x
 simp only at HWI
 obtain⟨W1,hW1⟩:∃ W1,W1=w.alloc (.cells #[.int .i64 sg,.int .i64 ho,.int .i64 rf,.int .i64 rt,.int .i64 ca,.int .i64 se,.int .i64 sf,.int .i64 st,.string sl] 31):=⟨_,rfl⟩
 have HB1:Hid (Below w.heap.size w W1):=zh (by rw[hW1];exact br0.alloc (Nat.le_refl _) _)
 have HX1:Hid (W1.heap[w.heap.size]?=some (.cells #[.int .i64 sg,.int .i64 ho,.int .i64 rf,.int .i64 rt,.int .i64 ca,.int .i64 se,.int .i64 sf,.int .i64 st,.string sl] 31 (0,0))):=zh (by rw[hW1];exact heap_alloc_new w _)
 have HW1:=zh hW1
 clear hW1
 unfold wagg
 simp only
 go_enter Tryz.func101,Tryz.ntmps101
 go_upto_region 1 with fail
 rw[← HW1.out]
 clear HW1
 go_wp2
 go_loopw [10] (fun i wr=>∃ k:Nat,k≤n∧i=.int .i64 k∧Hid (Below W1.heap.size W1 wr)) (fun i _=>n - (intOf i).toNat)
 case atStart=>exact⟨0,by omega,rfl,zh br0⟩
 case round =>
  obtain⟨k,hk,rfl,hB⟩:=hrel
  by_cases hlt:k < n
  ·have tk:(k:Int) < (n:Int):=by omega
   have tk0:(0:Int)≤(k:Int):=by omega
   obtain⟨p,ep⟩:∃ p,l[k]?=some p:=⟨_,List.getElem?_eq_getElem (by rw[← HN.out];exact hlt)⟩
   obtain⟨pb,po,rfl,hpb,hpc⟩:=HV.out.at ep
   have HBr:=zh (q_next HB1.out hB.out)
   obtain⟨c0,c1,c2,c3,c4,c5,c6⟩:=hpc wr HBr.out
   have HEP:=zh ep
   clear hpc ep hpb
   obtain⟨fr,tu,prf,prt,psf,pst,psl⟩:=p
   simp only at c0 c1 c2 c3 c4 c5 c6
   go_upto_region 4 with fail
   clear c0 c1 c2 c3 c4 c5 c6
   obtain⟨wa,hwa⟩:∃ W,W=wr.alloc (.cells #[.int .i64 fr,.int .i64 tu,.int .i64 prf,.int .i64 prt,.int .i64 psf,.int .i64 pst,.string psl] 96):=⟨_,rfl⟩
   have HV_wa:Hid (wa.heap[wr.heap.size]?=some (.cells #[.int .i64 fr,.int .i64 tu,.int .i64 prf,.int .i64 prt,.int .i64 psf,.int .i64 pst,.string psl] 96 (0,0))):=zh (by rw[hwa];exact heap_alloc_new wr _)
   have HS_wa:Hid (Below wr.heap.size wr wa):=zh (by rw[hwa];exact br0.alloc (Nat.le_refl _) _)
   have HB_wa:=zh (q_next HBr.out HS_wa.out)
   rw[← hwa]
   obtain⟨bx,hbx⟩:∃ b,b=wr.heap.size:=⟨_,rfl⟩
   rw[← hbx]at HV_wa ⊢
   clear hwa hbx
   have HRa:=zh (q_next hB.out HS_wa.out)
   cases k with
   | zero =>
    refine wp_region_noPanic ?_
    refine wp_region_lexB [.q 0,.q 1,.q 2,.q 3,.q 4,.q 5,.q 6,.q 7,.q 8,.q 9,.q 10,.q 11,.q 12,.q 13,.q 14] (by kernel_rfl) (by kernel_rfl) (fun _ _ _ _ h=>h) ?_
    iterate 3(refine wpFl_qL (v:=?_) rfl (Or.inl ⟨by rfl,?_⟩) ?_;rotate_left;(focus(intro w' hSw;go_simp;(try with_reducible rfl);done));simp only[Act.put,zzA,zzB,zzC])
    iterate 11(refine wpFl_qL (v:=undef) rfl (Or.inr ⟨by rfl,rfl⟩) ?_;simp only[Act.put,zzA,zzB,zzC])
    refine wpFl_qL (v:=?_) rfl (Or.inl ⟨by rfl,?_⟩) ?_
    rotate_left
    focus(intro w' hSw;go_simp;(try with_reducible rfl);done)
    simp only[Act.put,zzA,zzB,zzC]
    refine wpFl_nil ?_
    refine NoPanic.normal ?_
    go_wp2
    go_roundw
    case rel=>exact⟨1,by omega,rfl,zh (Below.drew HRa.out)⟩
    case measure=>simp[intOf];omega
   | succ k =>
    obtain⟨q,eq⟩:∃ q,l[k]?=some q:=⟨_,List.getElem?_eq_getElem (by rw[← HN.out];omega)⟩
    have hin:=HS.out k q _ eq HEP.out
    simp only at hin
    obtain⟨qb,qo,eqa,hqb,hqc⟩:=HV.out.at eq
    obtain⟨rfl,rfl⟩:qb=pb∧qo=po:=by
     injection eqa with e
     injection e with e1 e2
     exact⟨e1.symm,e2.symm⟩
    have HQ:=zh (fun W (hW:Below wa.heap.size wa W)=>And.intro (seven_cells (kept_block HV_wa.out hW)) (hqc W (q_next HB_wa.out hW)))
    have HIN:=zh (fun W=>isInW_yes prf prt psf pst q hin W)
    clear hqc eqa hin eq hqb
    obtain⟨qfr,qtu,qrf,qrt,qsf,qst,qsl⟩:=q
    unfold pagg at HIN
    unfold PxAt at HQ
    simp only at HIN HQ
    have t1:(0:Int) < (k:Int)+1:=by omega
    have t2:(0:Int)≤(k:Int):=by omega
    have t3:(k:Int) < (n:Int):=by omega
    have t4:IntKind.i64.wrap (k:Int)=(k:Int):=IntWalk.i64_in _ (by omega)
    refine wp_region_noPanic ?_
    refine wp_region_lexB [.q 0,.q 1,.q 2,.q 3,.q 4,.q 5,.q 6,.q 7,.q 8,.q 9,.q 10,.q 11,.b 12,.q 13,.q 14] (by kernel_rfl) (by kernel_rfl) (fun _ _ _ _ h=>h) ?_
    iterate 12(refine wpFl_qL (v:=?_) rfl (Or.inl ⟨by rfl,?_⟩) ?_;rotate_left;(focus(intro w' hSw;obtain⟨⟨p0,p1,p2,p3,p4,p5,p6⟩,q0,q1,q2,q3,q4,q5,q6⟩:=HQ.out w' hSw;go_simp;(try with_reducible rfl);done));simp only[Act.put,zzA,zzB,zzC])
    refine wpFl_bL rfl (fun wan hnan hsan K hK=>?_)
    go_simp
    go_at_call 145
    (with_reducible refine(HIN.out _).mono ?_)
    rintro e wbn ⟨rfl,hbn⟩
    have HSn:=zh (q_next hsan hbn)
    refine hK.out _ _ (q_next hsan hbn) (Keeps.below hbn) ?_
    clear hK K hnan hsan
    iterate 2(refine wpFl_qL (v:=?_) rfl (Or.inl ⟨by rfl,?_⟩) ?_;rotate_left;(focus(intro w' hSw;go_simp;(try with_reducible rfl);done));simp only[Act.put,zzA,zzB,zzC])
    refine wpFl_nil ?_
    refine NoPanic.normal ?_
    go_wp2
    go_roundw
    case rel=>exact⟨k+1+1,by omega,by go_num,zh (q_next HRa.out HSn.out)⟩
    case measure=>simp[intOf];omega
  ·obtain rfl:k=n:=by omega
   have tk:¬ (k:Int) < (k:Int):=by omega
   have HBr:=zh (q_next HB1.out hB.out)
   have HXr:=zh (kept_block HX1.out hB.out)
   have HXC:=zh (fun W (hW:Below wr.heap.size wr W)=>nine_cells (kept_block HXr.out hW))
   cases k with
   | zero =>
    go_upto_region 7 with fail
    refine wp_region_noPanic ?_
    refine wp_region_lexB [.q 0,.q 1,.q 2,.q 3,.q 4,.q 5,.q 6,.q 7,.q 8,.q 9,.q 10,.q 11,.q 12,.q 13,.q 14,.q 15,.q 16,.q 17,.q 18] (by kernel_rfl) (by kernel_rfl) (fun _ _ _ _ h=>h) ?_
    iterate 4(refine wpFl_qL (v:=?_) rfl (Or.inl ⟨by rfl,?_⟩) ?_;rotate_left;(focus(intro w' hSw;go_simp;(try with_reducible rfl);done));simp only[Act.put,zzA,zzB,zzC])
    iterate 12(refine wpFl_qL (v:=undef) rfl (Or.inr ⟨by rfl,rfl⟩) ?_;simp only[Act.put,zzA,zzB,zzC])
    iterate 3(refine wpFl_qL (v:=?_) rfl (Or.inl ⟨by rfl,?_⟩) ?_;rotate_left;(focus(intro w' hSw;go_simp;(try with_reducible rfl);done));simp only[Act.put,zzA,zzB,zzC])
    refine wpFl_nil ?_
    refine NoPanic.normal ?_
    go_wp2
    go_ret2
    exact⟨rfl,Below.drew HBr.out⟩
   | succ k =>
    obtain⟨q,eq⟩:∃ q,l[k]?=some q:=⟨_,List.getElem?_eq_getElem (by rw[← HN.out];omega)⟩
    have hin:=HWI.out q (by rw[Nat.add_sub_cancel];exact eq)
    obtain⟨qb,qo,rfl,hqb,hqc⟩:=HV.out.at eq
    have HQ:=zh (fun W (hW:Below wr.heap.size wr W)=>And.intro (HXC.out W hW) (hqc W (q_next HBr.out hW)))
    have HIN:=zh (fun W=>isInW_yes rf rt sf st q hin W)
    clear hqc hin eq hqb
    obtain⟨qfr,qtu,qrf,qrt,qsf,qst,qsl⟩:=q
    unfold pagg at HIN
    unfold PxAt at HQ
    simp only at HIN HQ
    have t1:(0:Int) < (k:Int)+1:=by omega
    have t2:(0:Int)≤(k:Int):=by omega
    have t3:(k:Int) < (k:Int)+1:=by omega
    have t4:IntKind.i64.wrap (k:Int)=(k:Int):=IntWalk.i64_in _ (by omega)
    go_upto_region 7 with fail
    refine wp_region_noPanic ?_
    refine wp_region_lexB [.q 0,.q 1,.q 2,.q 3,.q 4,.q 5,.q 6,.q 7,.q 8,.q 9,.q 10,.q 11,.q 12,.q 13,.b 14,.q 15,.q 16,.q 17,.q 18] (by kernel_rfl) (by kernel_rfl) (fun _ _ _ _ h=>h) ?_
    iterate 14(refine wpFl_qL (v:=?_) rfl (Or.inl ⟨by rfl,?_⟩) ?_;rotate_left;(focus(intro w' hSw;obtain⟨⟨p0,p1,p2,p3,p4,p5,p6,p7,p8⟩,q0,q1,q2,q3,q4,q5,q6⟩:=HQ.out w' hSw;go_simp;(try with_reducible rfl);done));simp only[Act.put,zzA,zzB,zzC])
    refine wpFl_bL rfl (fun wan hnan hsan K hK=>?_)
    go_simp
    go_at_call 145
    (with_reducible refine(HIN.out _).mono ?_)
    rintro e wbn ⟨rfl,hbn⟩
    have HSn:=zh (q_next hsan hbn)
    refine hK.out _ _ (q_next hsan hbn) (Keeps.below hbn) ?_
    clear hK K hnan hsan
    iterate 4(refine wpFl_qL (v:=?_) rfl (Or.inl ⟨by rfl,?_⟩) ?_;rotate_left;(focus(intro w' hSw;go_simp;(try with_reducible rfl);done));simp only[Act.put,zzA,zzB,zzC])
    refine wpFl_nil ?_
    refine NoPanic.normal ?_
    go_wp2
    go_ret2
    exact⟨rfl,q_next HBr.out HSn.out⟩
end Go.Proofs.YtjjiikeldpjafaaGreatDoor
/- TopReclaims: the iterator over who would have to grant, and sign. The conditions: what the slice reads as. -/
namespace Go.Proofs.YtjjiikeldpjafaaGreatDoor
open Go.RowKit Go.BigFrame Go.Shelf
attribute [local go_sem] Oper.semAt_some
def perK (ho:Int)(l:List ProxP)(k:Nat):List (Int × Int):=(List.range k).map fun i:Nat=>((i:Int),whoAt ho l i)
def perAll (ho:Int)(l:List ProxP):List (Int × Int):=perK ho l l.length++[(-1,whoAt ho l l.length)]
theorem perAll_mem (ho:Int){l:List ProxP}{k:Nat}(h:k < l.length):((k:Int),whoAt ho l k)∈perAll ho l:=List.mem_append_left _ (List.mem_map.2 ⟨k,List.mem_range.2 h,rfl⟩)
theorem perAll_end (ho:Int)(l:List ProxP):((-1:Int),whoAt ho l l.length)∈perAll ho l:=List.mem_append_right _ (List.mem_singleton.2 rfl)
def PerP (ho:Int)(l:List ProxP):Type:={x:Int × Int // x∈perAll ho l}
def perE {ho:Int}{l:List ProxP}(x:PerP ho l):Array Value:=#[.int .i64 x.1.1,.int .i64 x.1.2]
def PerKp (n₀:Nat)(A B:World):Prop:=Below n₀ A B∧∀(k:Nat) (cs:Array Value),A.heap[k]?=some (.cells cs 96 (0,0))→B.heap[k]?=some (.cells cs 96 (0,0))
theorem PerKp.trans {n₀:Nat}{A B C:World}(h:PerKp n₀ A B)(h':PerKp n₀ B C):PerKp n₀ A C:=⟨h.1.trans h'.1,fun k cs hk=>h'.2 k cs (h.2 k cs hk)⟩
set_option maxHeartbeats 400000 in
theorem persons_fn (ho:Int)(a:Option Addr)(n c:Nat)(w:World) :
  Calls Tryz.prog 100 #[.int .i64 ho,.slice a n c] w fun e w'=>e=.returned (.func (.func 144) #[] #[.pointer (some ⟨w.heap.size,0,none⟩),.pointer (some ⟨w.heap.size+1,0,none⟩)])∧w'=(w.alloc (.cells #[.int .i64 ho] 3)).alloc (.cells #[.slice a n c] 32):=by
 have hmf:∀(fn:Fn) (first cap:Array Value) (w:World),(Instr.makeFunc fn first cap).run Tryz.prog w=.ok (.func fn first cap) w:=fun _ _ _ _=>rfl
 go_enter Tryz.func100,Tryz.ntmps100
 go_wp2
 go_ret
 exact⟨rfl,rfl⟩
set_option maxRecDepth 100000 in
set_option maxHeartbeats 2000000 in
theorem persons_iter (wd w0:World)(ho:Int){v:Value}{l:List ProxP}(hv:PrS wd v l)(hb:Below wd.heap.size wd w0)(b1 b2:Nat)
  (h1:w0.heap[b1]?=some (.cells #[.int .i64 ho] 3 (0,0))) (h2:w0.heap[b2]?=some (.cells #[v] 32 (0,0))) :
  Iter Tryz.prog 144 #[.pointer (some ⟨b1,0,none⟩),.pointer (some ⟨b2,0,none⟩)] (perE (ho:=ho) (l:=l)) (PerKp wd.heap.size) none (fun _=>True) (fun _=>True) (l.length+1) w0:=by
 intro F m hF hro lb J Jx W hW hJ hJx hY h0
 obtain⟨a,c,rfl,hlc,hcm⟩:=hv.form
 have hbl1:b1 < w0.heap.size:=(ltA h1)
 have hbl2:b2 < w0.heap.size:=(ltA h2)
 have c1:W.cell? ⟨b1,0,none⟩=some (.int .i64 ho):=cell_of_row W _ 0 _ _ _ ((hW.block b1 hbl1).trans h1)
 have GB:=zh (hb.trans (hW.mono hb.size))
 obtain⟨n,hn⟩:∃ n,n=l.length:=⟨_,rfl⟩
 rw[← hn]at hlc hY h2 hv
 have c2:W.cell? ⟨b2,0,none⟩=some (.slice a n c):=cell_of_row W _ 0 _ _ _ ((hW.block b2 hbl2).trans h2)
 have HV:=zh hv
 have HN:=zh hn
 have hn9:n≤9223372036854775807:=by unfold maxLen at hcm;omega
 clear hn hv h1 h2 hW hb hlc hcm hbl1 hbl2
 refine callsIn_of_wp Tryz.func144 rfl (hF.1 _) ?_ hro
 simp only[Tryz.ntmps144,List.size_toArray,List.length_cons,List.length_nil,Nat.reduceAdd,Nat.reduceSub,Array.replicate_succ,Array.replicate_zero,List.push_toArray,List.append_toArray,List.nil_append,List.cons_append]
 gi_wp2
 clear c1 c2
 gi_loopw [4,10] (fun wh i wr=>∃ k:Nat,k≤n∧i=.int .i64 k∧wh=.int .i64 (whoAt ho l k)∧Hid (Below wd.heap.size wd wr)∧∃ pre:List (PerP ho l),pre.length=k∧J pre wr) (fun _ i _=>n - (intOf i).toNat)
 case atStart=>exact⟨0,by omega,rfl,rfl,GB,[],rfl,h0⟩
 case round =>
  clear GB h0
  obtain⟨k,hk,rfl,rfl,hB,pre,hpl,hJs⟩:=hrel
  by_cases hlt:k < n
  ·have tk:(k:Int) < (n:Int):=by omega
   have tk0:(0:Int)≤(k:Int):=by omega
   obtain⟨p,ep⟩:∃ p,l[k]?=some p:=⟨_,List.getElem?_eq_getElem (by rw[← HN.out];exact hlt)⟩
   obtain⟨pb,po,rfl,hpb,hpc⟩:=HV.out.at ep
   obtain⟨c0,c1,c2,c3,c4,c5,c6⟩:=hpc wr hB.out
   have HWN:Hid (whoAt ho l (k+1)=p.tu):=zh (by show(l[k]?.map ProxP.tu).getD 0=p.tu;rw[ep];rfl)
   have hlen:pre.length < n+1:=by omega
   have hmem:=perAll_mem ho (l:=l) (k:=k) (by rw[← HN.out];exact hlt)
   have HPL:=zh hpl
   clear hpl
   obtain⟨fr,tu,prf,prt,psf,pst,psl⟩:=p
   simp only at c0 c1 c2 c3 c4 c5 c6 HWN
   generalize whoAt ho l k=who at *
   have hgr:wr.grownBy (wr.alloc (.cells #[.int .i64 fr,.int .i64 tu,.int .i64 prf,.int .i64 prt,.int .i64 psf,.int .i64 pst,.string psl] 96)) none:=World.grownBy_alloc _ _ _
   obtain⟨fn,tmps,assign,body,hy,hRR⟩:=hY pre ⟨((k:Int),who),hmem⟩ (wr.alloc (.cells #[.int .i64 fr,.int .i64 tu,.int .i64 prf,.int .i64 prt,.int .i64 psf,.int .i64 pst,.string psl] 96)) (hJ _ _ _ hJs ⟨hgr,fun b hb=>by cases hb⟩) hlen
   have HBa:=zh (hB.out.alloc hB.out.size (.cells #[.int .i64 fr,.int .i64 tu,.int .i64 prf,.int .i64 prt,.int .i64 psf,.int .i64 pst,.string psl] 96))
   have HNA:=zh (heap_alloc_new wr (.cells #[.int .i64 fr,.int .i64 tu,.int .i64 prf,.int .i64 prt,.int .i64 psf,.int .i64 pst,.string psl] 96))
   dsimp only [perE]at hy
   have HY:=zh hY
   clear hY hpc ep hpb hgr hlen hJs
   gi_wp2
   refine⟨fun h=>(by rw[hF.2.1]at h;cases h),hRR.mono ?_⟩
   rintro e W4 (⟨rfl,hJ4,hk4⟩ | ⟨rfl,hJx4⟩)
   ·have hP4:=hk4.2 _ _ HNA.out
    have HB4:=zh (HBa.out.trans hk4.1)
    obtain⟨d0,d1,d2,d3,d4,d5,d6⟩:=seven_cells hP4
    have HJ4:=zh hJ4
    clear hP4 hk4 hJ4 hy hRR HY c0 c1 c2 c3 c4 c5 c6
    gi_wp2
    go_roundw
    case rel=>exact⟨k+1,by omega,by go_num,by rw[HWN.out],HB4,pre++[⟨((k:Int),who),hmem⟩],by rw[List.length_append,HPL.out];rfl,HJ4.out⟩
    case measure=>simp[intOf];omega
   ·clear hy hRR HY c0 c1 c2 c3 c4 c5 c6
    gi_wp2
    refine bodyPost_ret (results_none rfl _ _ _) rfl ?_
    exact⟨⟨_,rfl⟩,.inr ⟨_,trivial,hJx4⟩⟩
  ·obtain rfl:k=n:=by omega
   have tk:¬ (k:Int) < (k:Int):=by omega
   have hlen:pre.length < k+1:=by omega
   have hmem:((-1:Int),whoAt ho l k)∈perAll ho l:=by rw[HN.out];exact perAll_end ho l
   clear hpl
   obtain⟨fn,tmps,assign,body,hy,hRR⟩:=hY pre ⟨(-1,whoAt ho l k),hmem⟩ wr hJs hlen
   dsimp only [perE]at hy
   generalize whoAt ho l k=who at *
   clear hY hJs
   gi_wp2
   refine⟨fun h=>(by rw[hF.2.1]at h;cases h),hRR.mono ?_⟩
   rintro e W4 (⟨rfl,hJ4,hk4⟩ | ⟨rfl,hJx4⟩)
   ·clear hy hRR
    gi_wp2
    go_end0
    exact⟨⟨_,rfl⟩,.inl ⟨_,trivial,hJ4⟩⟩
   ·clear hy hRR
    gi_wp2
    go_end0
    exact⟨⟨_,rfl⟩,.inr ⟨_,trivial,hJx4⟩⟩
end Go.Proofs.YtjjiikeldpjafaaGreatDoor
