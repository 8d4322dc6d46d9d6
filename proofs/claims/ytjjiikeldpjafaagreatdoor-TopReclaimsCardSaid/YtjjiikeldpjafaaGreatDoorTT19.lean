/- TopReclaims: the port that integers determine ('made'). The conditions: ranges. -/
import Derived.Test.YtjjiikeldpjafaaGreatDoorTT18
import Derived.Recover
namespace Go.Proofs.YtjjiikeldpjafaaGreatDoor
open Go.RowKit Go.BigFrame
def fromI (ca oth:Int):Int:=(ca+1+pickI oth 7) % 8
theorem fromI_range (ca oth:Int):0≤fromI ca oth∧fromI ca oth < 8:=by
 unfold fromI
 omega
theorem fromI_ne (ca oth:Int):fromI ca oth≠ca:=by
 have h1:=pickI_range oth (show(0:Int) < 7 by omega)
 unfold fromI
 omega
set_option maxHeartbeats 8000000 in
set_option maxRecDepth 100000 in
theorem madeT_gen {w:World}(hd r0 r1 s0 s1 cr sr oth:Int)(ya:Option Addr)(n yc:Nat)(io:I64 oth)(X:WishP)(l:List ProxP)(hca:0≤X.ca∧X.ca < 8)
  (HM:Hid (∀ W,Below w.heap.size w W→Calls Tryz.prog 20 #[.agg #[.int .i64 hd,.int .i64 r0,.int .i64 r1,.int .i64 s0,.int .i64 s1,.int .i64 cr,.int .i64 sr,.slice ya n yc]] W fun e w'=>∃ lv,e=.returned (.tuple #[wagg X,lv])∧OwnP w' W.heap.size lv l∧Below W.heap.size W w')) :
  Calls Tryz.prog 4 #[.agg #[.int .i64 hd,.int .i64 r0,.int .i64 r1,.int .i64 s0,.int .i64 s1,.int .i64 cr,.int .i64 sr,.slice ya n yc],.int .i64 oth] w fun e w' =>
   ∃ la ln lc,e=.returned (.agg #[.int .i64 X.sg,.int .i64 X.ho,.int .i64 X.rf,.int .i64 X.rt,.int .i64 X.ca,.int .i64 X.se,.int .i64 X.sf,.int .i64 X.st,.string X.sl,.slice la ln lc,.int .i64 X.rf,.int .i64 (fromI X.ca oth),.int .i64 X.ca,.int .i64 X.ho,.int .i64 X.sf,.bool false])∧PrS w' (.slice la ln lc) l∧Below w.heap.size w w':=by
 obtain⟨sg,ho,rf,rt,ca,se,sf,st,sl⟩:=X
 simp only at hca ⊢
 have t7:=pickI_range oth (show(0:Int) < 7 by omega)
 have HPK:=zh (fun W=>pickT_any oth 7 W io (by omega) (by omega))
 obtain⟨fr,hfr⟩:∃ fr,fr=fromI ca oth:=⟨_,rfl⟩
 have htm:(ca+1+pickI oth 7).tmod 8=fr:=by rw[hfr];unfold fromI;rw[Int.tmod_eq_emod_of_nonneg (by omega)]
 rw[← hfr]
 generalize pickI oth 7=p7 at *
 have e1:IntKind.i64.wrap (ca+1)=ca+1:=IntWalk.i64_in _ (by omega)
 have e2:IntKind.i64.wrap (ca+1+p7)=ca+1+p7:=IntWalk.i64_in _ (by omega)
 have HTM:=zh htm
 clear htm hfr io
 unfold wagg at HM
 simp only at HM
 obtain⟨W1,hW1⟩:∃ W1,W1=w.alloc (.cells #[.int .i64 hd,.int .i64 r0,.int .i64 r1,.int .i64 s0,.int .i64 s1,.int .i64 cr,.int .i64 sr,.slice ya n yc] 25):=⟨_,rfl⟩
 have HBW1:Hid (Below w.heap.size w W1):=zh (by rw[hW1];exact br0.alloc (Nat.le_refl _) _)
 have HXW1:Hid (W1.heap[w.heap.size]?=some (.cells #[.int .i64 hd,.int .i64 r0,.int .i64 r1,.int .i64 s0,.int .i64 s1,.int .i64 cr,.int .i64 sr,.slice ya n yc] 25 (0,0))):=zh (by rw[hW1];exact heap_alloc_new w _)
 have hsW1:W1.heap.size=w.heap.size+1:=by rw[hW1];simp
 have HWW1:=zh hW1
 obtain⟨W2,hW2⟩:∃ W2,W2=W1.alloc (.cells #[.int .i64 0,.int .i64 0,.int .i64 0,.int .i64 0,.int .i64 0,.int .i64 0,.int .i64 0,.int .i64 0,.string ⟨#[]⟩,.slice none 0 0,.int .i64 0,.int .i64 0,.int .i64 0,.int .i64 0,.int .i64 0,.bool false] 36):=⟨_,rfl⟩
 have HBW2:Hid (Below W1.heap.size W1 W2):=zh (by rw[hW2];exact br0.alloc (Nat.le_refl _) _)
 have HXW2:Hid (W2.heap[W1.heap.size]?=some (.cells #[.int .i64 0,.int .i64 0,.int .i64 0,.int .i64 0,.int .i64 0,.int .i64 0,.int .i64 0,.int .i64 0,.string ⟨#[]⟩,.slice none 0 0,.int .i64 0,.int .i64 0,.int .i64 0,.int .i64 0,.int .i64 0,.bool false] 36 (0,0))):=zh (by rw[hW2];exact heap_alloc_new W1 _)
 have hsW2:W2.heap.size=W1.heap.size+1:=by rw[hW2];simp
 have HWW2:=zh hW2
 have HZ2:Hid (W2.heap[w.heap.size+1]?=some (.cells #[.int .i64 0,.int .i64 0,.int .i64 0,.int .i64 0,.int .i64 0,.int .i64 0,.int .i64 0,.int .i64 0,.string ⟨#[]⟩,.slice none 0 0,.int .i64 0,.int .i64 0,.int .i64 0,.int .i64 0,.int .i64 0,.bool false] 36 (0,0))):=zh (by rw[← hsW1];exact HXW2.out)
 have HB2:=zh (q_next HBW1.out HBW2.out)
 have HMr:=zh (HM.out W2 HB2.out)
 obtain⟨c0,c1,c2,c3,c4,c5,c6,c7⟩:=eight_cells (kept_block HXW1.out HBW2.out)
 clear HM hW1 hW2 hsW1 hsW2 HBW1 HBW2 HXW1 HXW2
 go_enter Tryz.func4,Tryz.ntmps4
 go_upto_region 1 with fail
 rw[← HWW1.out,← HWW2.out]
 clear HWW1 HWW2
 go_upto_region 2 with(go_at_call 20;(with_reducible refine HMr.out.mono ?_);rintro e w3 ⟨lv,rfl,hown,hb3⟩;have HO3:=zh hown;have HB3:=zh (q_next HB2.out hb3);have HZ3:=zh (kept_block HZ2.out hb3);clear c0 c1 c2 c3 c4 c5 c6 c7 hown hb3)
 obtain⟨w4,hw4⟩:∃ W,W=w3.alloc (.cells #[.int .i64 sg,.int .i64 ho,.int .i64 rf,.int .i64 rt,.int .i64 ca,.int .i64 se,.int .i64 sf,.int .i64 st,.string sl] 31):=⟨_,rfl⟩
 have HV_w4:Hid (w4.heap[w3.heap.size]?=some (.cells #[.int .i64 sg,.int .i64 ho,.int .i64 rf,.int .i64 rt,.int .i64 ca,.int .i64 se,.int .i64 sf,.int .i64 st,.string sl] 31 (0,0))):=zh (by rw[hw4];exact heap_alloc_new w3 _)
 have HS_w4:Hid (Below w3.heap.size w3 w4):=zh (by rw[hw4];exact br0.alloc (Nat.le_refl _) _)
 have HB_w4:=zh (q_next HB3.out HS_w4.out)
 rw[← hw4]
 obtain⟨bw,hbw⟩:∃ b,b=w3.heap.size:=⟨_,rfl⟩
 rw[← hbw]at HV_w4 ⊢
 clear hw4 hbw
 have HO4:=zh (OwnE.far HO3.out HS_w4.out (Nat.le_refl _))
 have HZ4:=zh (kept_block HZ3.out HS_w4.out)
 clear HO3 HZ3 HZ2 HB3 HMr HS_w4
 obtain⟨la,lc,hlv⟩:=OwnE.form HO4.out
 subst hlv
 obtain⟨ln,hln⟩:∃ k,k=(l.map pcells).length:=⟨_,rfl⟩
 rw[← hln]at HO4 ⊢
 clear hln
 refine wp_region_noPanic ?_
 refine wp_region_lexB [.q 0,.q 1,.q 2,.q 3,.q 4,.q 5,.q 6,.q 10,.q 11,.q 12,.q 13,.q 14,.q 15,.q 16,.an 18,.b 7,.q 8,.q 9,.q 17,.co 18,.b 19] (by kernel_rfl) (by kernel_rfl) (fun _ _ _ _ h=>h) ?_
 iterate 14(refine wpFl_qL (v:=?_) rfl (Or.inl ⟨by rfl,?_⟩) ?_;rotate_left;(focus(intro w' hSw;obtain⟨v0,v1,v2,v3,v4,v5,v6,v7,v8⟩:=nine_cells (kept_block HV_w4.out hSw);go_simp;(try with_reducible rfl);done));simp only[Act.put,zzA,zzB,zzC])
 refine wpFl_anL rfl (.cells #[.int .i64 0,.int .i64 0,.int .i64 0,.int .i64 0,.int .i64 0,.bool false] 34 (0,0)) (fun n=>.pointer (some ⟨n,0,none⟩)) ⟨by rfl,fun w'=>?_⟩ ?_
 focus(go_simp;done)
 refine wpFl_bL rfl (fun wa7 hna7 hsa7 K hK=>?_)
 go_simp
 go_at_call 6
 (with_reducible refine(HPK.out _).mono ?_)
 rintro e w' ⟨rfl,hw'⟩
 replace hw':=hw'.symm
 subst hw'
 refine hK.out _ _ hsa7 (Keeps.below br0) ?_
 clear hK K hna7 hsa7
 iterate 3(refine wpFl_qL (v:=?_) rfl (Or.inl ⟨by rfl,?_⟩) ?_;rotate_left;(focus(intro w' hSw;have e9:=HTM.out;go_simp;(try with_reducible rfl);done));simp only[Act.put,zzA,zzB,zzC])
 refine wpFl_coL rfl (.cells #[.int .i64 0,.int .i64 0,.int .i64 0,.int .i64 0,.int .i64 0,.bool false] 34 (0,0)) (fun n=>.pointer (some ⟨n,0,none⟩)) (by rfl) (N':=[]) (by rfl) (fun bc wq hn_wq hs_wq hb_bc hz_bc=>?_)
 simp only[Act.put,zzA,zzB,zzC]
 refine wpFl_bL rfl (fun wf hnf hsf K hK=>?_)
 have HZ:=zh (kept_block hz_bc hnf)
 obtain⟨z0,z1,z2,z3,z4,z5⟩:=six_cells HZ.out
 have zf:=thaw HZ.out
 go_simp
 have HBc:=zh (six_below hsf hb_bc (.int .i64 rf) (.int .i64 fr) (.int .i64 ca) (.int .i64 ho) (.int .i64 sf) (.bool false))
 have HVc:=zh (six_heap HZ.out (.int .i64 rf) (.int .i64 fr) (.int .i64 ca) (.int .i64 ho) (.int .i64 sf) (.bool false))
 refine hK.out _ _ HBc.out Keeps.nil ?_
 clear hK K z0 z1 z2 z3 z4 z5 zf HZ hnf hsf hz_bc hn_wq hs_wq hb_bc
 generalize (((((wf.setCell ⟨bc,0,none⟩ (.int .i64 rf)).setCell ⟨bc,1,none⟩ (.int .i64 fr)).setCell ⟨bc,2,none⟩ (.int .i64 ca)).setCell ⟨bc,3,none⟩ (.int .i64 ho)).setCell ⟨bc,4,none⟩ (.int .i64 sf)).setCell ⟨bc,5,none⟩ (.bool false)=w5 at *
 refine wpFl_nil ?_
 refine NoPanic.normal ?_
 have HB5:=zh (q_next HB_w4.out HBc.out)
 have HO5:=zh (OwnE.far HO4.out HBc.out (Nat.le_refl _))
 have HZ5:=zh (kept_block HZ4.out HBc.out)
 have HW5:=zh (kept_block HV_w4.out HBc.out)
 clear HO4 HZ4 HV_w4 HB_w4 HBc HPK HTM
 have HLE:Hid (w.heap.size≤w.heap.size+1):=zh (Nat.le_succ _)
 obtain⟨rb,hrb⟩:∃ rb,rb=w.heap.size+1:=⟨_,rfl⟩
 rw[← hrb]at HZ5 HLE ⊢
 clear hrb
 obtain⟨v0,v1,v2,v3,v4,v5,v6,v7,v8⟩:=nine_cells HW5.out
 obtain⟨y0,y1,y2,y3,y4,y5⟩:=six_cells HVc.out
 obtain⟨z0,z1,z2,z3,z4,z5,z6,z7,z8,z9,z10,z11,z12,z13,z14,z15⟩:=sixteen_cells HZ5.out
 have zf:=thaw HZ5.out
 have HF:=zh (sixteen_heap HZ5.out (.int .i64 sg) (.int .i64 ho) (.int .i64 rf) (.int .i64 rt) (.int .i64 ca) (.int .i64 se) (.int .i64 sf) (.int .i64 st) (.string sl) (.slice la ln lc) (.int .i64 rf) (.int .i64 fr) (.int .i64 ca) (.int .i64 ho) (.int .i64 sf) (.bool false))
 have HBF:=zh (sixteen_below HB5.out HLE.out (.int .i64 sg) (.int .i64 ho) (.int .i64 rf) (.int .i64 rt) (.int .i64 ca) (.int .i64 se) (.int .i64 sf) (.int .i64 st) (.string sl) (.slice la ln lc) (.int .i64 rf) (.int .i64 fr) (.int .i64 ca) (.int .i64 ho) (.int .i64 sf) (.bool false))
 have HOF:=zh (OwnP.ps (OwnE.grownT HO5.out HZ5.out (fun c e=>by injection e with _ e;exact absurd e (by decide)) (sixteen_grownT w5 rb (.int .i64 sg) (.int .i64 ho) (.int .i64 rf) (.int .i64 rt) (.int .i64 ca) (.int .i64 se) (.int .i64 sf) (.int .i64 st) (.string sl) (.slice la ln lc) (.int .i64 rf) (.int .i64 fr) (.int .i64 ca) (.int .i64 ho) (.int .i64 sf) (.bool false))))
 go_wp2
 exact bodyPost_ret (results_cell_row rfl _ _ rb 36 #[.int .i64 sg,.int .i64 ho,.int .i64 rf,.int .i64 rt,.int .i64 ca,.int .i64 se,.int .i64 sf,.int .i64 st,.string sl,.slice la ln lc,.int .i64 rf,.int .i64 fr,.int .i64 ca,.int .i64 ho,.int .i64 sf,.bool false] (0,0) _ rfl HF.out Tryz.underlying36 rfl infoTport) rfl ⟨_,_,_,rfl,HOF.out,HBF.out⟩
end Go.Proofs.YtjjiikeldpjafaaGreatDoor
/- TopReclaims: claims and rules that are valid. The conditions: that they are. -/
namespace Go.Proofs.YtjjiikeldpjafaaGreatDoor
open Go.RowKit Go.BigFrame
set_option maxHeartbeats 2000000 in
set_option maxRecDepth 100000 in
theorem isClaim_yes (cn cf ct ch ca:Int)(cb:Bool)(h1:0≤cn)(h2:cn≤99999999)(h3:0≤cf)(h4:cf≤7)(h5:0≤ct)(h6:ct≤7)(h7:cf≠ct)(h8:0≤ch)(h9:ch≤63)(h10:0≤ca)(h11:ca≤10000000)(w:World) :
  Calls Tryz.prog 33 #[.agg #[.int .i64 cn,.int .i64 cf,.int .i64 ct,.int .i64 ch,.int .i64 ca,.bool cb]] w fun e w'=>e=.returned (.bool true)∧Below w.heap.size w w':=by
 have HB:=zh ((Below.refl w.heap.size w).alloc (Nat.le_refl _) (.cells #[.int .i64 cn,.int .i64 cf,.int .i64 ct,.int .i64 ch,.int .i64 ca,.bool cb] 34))
 have hne:(cf != ct)=true:=by simpa using h7
 go_enter Tryz.func33,Tryz.ntmps33
 go_wp2_with (go_at_call 69;refine(inC_yes _ _ _ (by omega) (by omega) _).mono ?_;rintro e w' ⟨rfl,hw'⟩;replace hw':=hw'.symm;subst hw')
 go_ret
 exact⟨by first | rfl | exact ret_bool hne,HB.out⟩
set_option maxHeartbeats 2000000 in
set_option maxRecDepth 100000 in
theorem areValid_yes (a0 a1 a2 a3:Int)(h0:1≤a0∧a0≤1000000)(h1:1≤a1∧a1≤1000000)(h2:1≤a2∧a2≤1000000)(h3:1≤a3∧a3≤1000000)(w:World) :
  Calls Tryz.prog 108 #[.agg #[.int .i64 a0,.int .i64 a1,.int .i64 a2,.int .i64 a3]] w fun e w'=>e=.returned (.bool true)∧Below w.heap.size w w':=by
 obtain⟨W1,hW1⟩:∃ W1,W1=w.alloc (.cells #[.int .i64 a0,.int .i64 a1,.int .i64 a2,.int .i64 a3] 209):=⟨_,rfl⟩
 have HB1:Hid (Below w.heap.size w W1):=zh (by rw[hW1];exact br0.alloc (Nat.le_refl _) _)
 have HX1:Hid (W1.heap[w.heap.size]?=some (.cells #[.int .i64 a0,.int .i64 a1,.int .i64 a2,.int .i64 a3] 209 (0,0))):=zh (by rw[hW1];exact heap_alloc_new w _)
 obtain⟨W2,hW2⟩:∃ W2,W2=W1.alloc (.cells #[.int .i64 a0,.int .i64 a2,.int .i64 a1,.int .i64 a3] 3):=⟨_,rfl⟩
 have HB2:Hid (Below W1.heap.size W1 W2):=zh (by rw[hW2];exact br0.alloc (Nat.le_refl _) _)
 have HX2:Hid (W2.heap[W1.heap.size]?=some (.cells #[.int .i64 a0,.int .i64 a2,.int .i64 a1,.int .i64 a3] 3 (0,0))):=zh (by rw[hW2];exact heap_alloc_new W1 _)
 have HW1:=zh hW1
 have HW2:=zh hW2
 have HBB:=zh (q_next HB1.out HB2.out)
 obtain⟨c0,c1,c2,c3⟩:=fourT_cells HX1.out
 clear hW1 hW2
 have HG:Hid (∀ k:Nat,k < 4→∃ x:Int,(1≤x∧x≤1000000)∧∀ W,Below W2.heap.size W2 W→W.cell? ⟨W1.heap.size,k,none⟩=some (.int .i64 x)):=zh (fun k hk=>by
  match k,hk with
  | 0,_=>exact⟨a0,h0,fun W hW=>(fourT_cells (kept_block HX2.out hW)).1⟩
  | 1,_=>exact⟨a2,h2,fun W hW=>(fourT_cells (kept_block HX2.out hW)).2.1⟩
  | 2,_=>exact⟨a1,h1,fun W hW=>(fourT_cells (kept_block HX2.out hW)).2.2.1⟩
  | 3,_=>exact⟨a3,h3,fun W hW=>(fourT_cells (kept_block HX2.out hW)).2.2.2⟩)
 clear h0 h1 h2 h3
 go_enter Tryz.func108,Tryz.ntmps108
 go_upto_region 1 with fail
 rw[← HW1.out]
 go_wp2
 rw[← HW2.out]
 obtain⟨g,hg⟩:∃ g,g=W1.heap.size:=⟨_,rfl⟩
 rw[← hg]at HG ⊢
 clear hg HW1 HW2 c0 c1 c2 c3
 go_loopw [15] (fun i wr=>∃ k:Nat,k≤4∧i=.int .i64 k∧Hid (Below W2.heap.size W2 wr)) (fun i _=>4 - (intOf i).toNat)
 case atStart=>exact⟨0,by omega,rfl,zh br0⟩
 case round =>
  obtain⟨k,hk,rfl,hB⟩:=hrel
  by_cases hlt:k < 4
  ·have tk:(k:Int) < 4:=by omega
   have tk0:(0:Int)≤(k:Int):=by omega
   obtain⟨x,⟨x1,x2⟩,hx⟩:=HG.out k hlt
   have c0:=hx wr hB.out
   clear hx
   go_wp2_with (go_at_call 69;refine(inC_yes _ _ _ (by omega) (by omega) _).mono ?_;rintro e w' ⟨rfl,hw'⟩;replace hw':=hw'.symm;subst hw')
   go_roundw
   case rel=>exact⟨k+1,by omega,by go_num,hB⟩
   case measure=>simp[intOf];omega
  ·obtain rfl:k=4:=by omega
   go_wp2
   go_ret
   exact⟨rfl,q_next HBB.out hB.out⟩
end Go.Proofs.YtjjiikeldpjafaaGreatDoor
/- TopReclaims: wish.Valid, claim.Back. The conditions: the chain is right; the seal decides. -/
namespace Go.Proofs.YtjjiikeldpjafaaGreatDoor
open Go.RowKit Go.BigFrame Go.Shelf
attribute [local go_sem] Oper.semAt_some
structure WOk (x:WishP) (l:List ProxP) (nu t:Int):Prop where
 formed:formedW x=true
 n1:x.rf≤nu
 n2:nu≤x.rt - 1
 t1:x.sf≤t
 t2:t≤x.st - 1
 rt:0≤x.rt∧x.rt≤100000000
 st:0≤x.st∧x.st≤100000000
 chain:∀ p∈l,formedP p=true
 four:l.length≤4
 scope:∀(k:Nat) p q,l[k]?=some p→l[k+1]?=some q→inP q.rf q.rt q.sf q.st p
 inner:∀ p,l[l.length - 1]?=some p→inP x.rf x.rt x.sf x.st p
 person:∀(k:Nat) p,l[k]?=some p→p.fr=whoAt x.ho l k
 last:x.sg=whoAt x.ho l l.length
 bound:∀ p∈l,0≤p.fr∧p.fr < 10
 sg:0≤x.sg∧x.sg < 10
 sld:∀ p∈l,p.sl=sealK (keyW p.fr) (bytesOf (putsN (proxI p)))
def sealedW (x:WishP):Bool:=decide (x.sl=sealK (keyW x.sg) (bytesOf (putsN (wishI x))))
theorem why_ok {x:WishP}{l:List ProxP}{nu t:Int}(h:WOk x l nu t){w:World}{vk v:Value}(hk:SS w vk (keysN 10))(hv:PrS w v l)(he:Env w)(hg:0 < w.heap.size) :
  Calls Tryz.prog 70 #[vk,wagg x,v,.int .i64 nu,.int .i64 t] w fun e w'=>e=.returned (.tuple #[.int .i64 (if sealedW x then 0 else 6),.int .i64 (-1)])∧Below w.heap.size w w' :=
 why_any x h.formed nu t h.n1 h.n2 h.t1 h.t2 h.rt h.st hk hv h.chain h.four h.scope h.inner h.person h.last he hg h.bound h.sg h.sld (sealedW x) rfl
set_option maxHeartbeats 2000000 in
set_option maxRecDepth 100000 in
theorem validW_any {x:WishP}{l:List ProxP}{nu t:Int}(h:WOk x l nu t){w:World}{vk v:Value}(hk:SS w vk (keysN 10))(hv:PrS w v l)(he:Env w)(hg:0 < w.heap.size) :
  Calls Tryz.prog 34 #[vk,wagg x,v,.int .i64 nu,.int .i64 t] w fun e w'=>e=.returned (.bool (sealedW x))∧Below w.heap.size w w':=by
 have HWY:=zh (fun W (hW:Below w.heap.size w W)=>why_ok h (hk.below hW) (hv.below hW) (Env.below he hW hg) (Nat.lt_of_lt_of_le hg hW.size))
 obtain⟨bd,hbd⟩:∃ bd,bd=sealedW x:=⟨_,rfl⟩
 rw[← hbd]at HWY ⊢
 clear hbd h hk hv he hg
 obtain⟨sg,ho,rf,rt,ca,se,sf,st,sl⟩:=x
 unfold wagg at *
 simp only at HWY ⊢
 obtain⟨W1,hW1⟩:∃ W1,W1=w.alloc (.cells #[.int .i64 sg,.int .i64 ho,.int .i64 rf,.int .i64 rt,.int .i64 ca,.int .i64 se,.int .i64 sf,.int .i64 st,.string sl] 31):=⟨_,rfl⟩
 have HBW1:Hid (Below w.heap.size w W1):=zh (by rw[hW1];exact br0.alloc (Nat.le_refl _) _)
 have HXW1:Hid (W1.heap[w.heap.size]?=some (.cells #[.int .i64 sg,.int .i64 ho,.int .i64 rf,.int .i64 rt,.int .i64 ca,.int .i64 se,.int .i64 sf,.int .i64 st,.string sl] 31 (0,0))):=zh (by rw[hW1];exact heap_alloc_new w _)
 have hsW1:Hid (W1.heap.size=w.heap.size+1):=zh (by rw[hW1];simp)
 have HWW1:=zh hW1
 clear hW1
 obtain⟨c0,c1,c2,c3,c4,c5,c6,c7,c8⟩:=nine_cells HXW1.out
 go_enter Tryz.func34,Tryz.ntmps34
 go_upto_region 1 with fail
 rw[← HWW1.out]
 clear HWW1
 go_wp2_with (go_at_call 70;(with_reducible refine(HWY.out _ HBW1.out).mono ?_);rintro e w2 ⟨rfl,hbx⟩;have HB2:=zh hbx;clear hbx)
 all_goals go_ret
 all_goals exact⟨rfl,q_next HBW1.out HB2.out⟩
theorem infoClaimB:(Tryz.prog.info? 34).map (·.size)=some 6:=by kernel_rfl
set_option maxHeartbeats 4000000 in
set_option maxRecDepth 100000 in
theorem back_any {x:WishP}{l:List ProxP}{nu t:Int}(h:WOk x l nu t)(cf:Int)(cb:Bool)(hcf:0≤cf∧cf≤7)(hca:0≤x.ca∧x.ca≤7)(hne:cf≠x.ca)(hho:0≤x.ho∧x.ho≤63)(hnu:0≤nu∧nu≤99999999)(ht:0≤t∧t≤10000000){w:World}{vk v:Value}(hk:SS w vk (keysN 10))(hv:PrS w v l)(he:Env w)(hg:0 < w.heap.size) :
  Calls Tryz.prog 9 #[vk,wagg x,v,.agg #[.int .i64 nu,.int .i64 cf,.int .i64 x.ca,.int .i64 x.ho,.int .i64 t,.bool cb]] w fun e w'=>e=.returned (.tuple #[.agg #[.int .i64 nu,.int .i64 cf,.int .i64 x.ca,.int .i64 x.ho,.int .i64 t,.bool (sealedW x)],.int .i64 0])∧Below w.heap.size w w':=by
 have HWY:=zh (fun W (hW:Below w.heap.size w W)=>validW_any h (hk.below hW) (hv.below hW) (Env.below he hW hg) (Nat.lt_of_lt_of_le hg hW.size))
 have HIC:=zh (fun W=>isClaim_yes nu cf x.ca x.ho t cb hnu.1 hnu.2 hcf.1 hcf.2 hca.1 hca.2 hne hho.1 hho.2 ht.1 ht.2 W)
 obtain⟨bd,hbd⟩:∃ bd,bd=sealedW x:=⟨_,rfl⟩
 rw[← hbd]at HWY ⊢
 clear hbd h hk hv he hg hcf hca hne hho hnu ht
 obtain⟨sg,ho,rf,rt,ca,se,sf,st,sl⟩:=x
 unfold wagg at *
 simp only at HWY HIC ⊢
 obtain⟨W1,hW1⟩:∃ W1,W1=w.alloc (.cells #[.int .i64 sg,.int .i64 ho,.int .i64 rf,.int .i64 rt,.int .i64 ca,.int .i64 se,.int .i64 sf,.int .i64 st,.string sl] 31):=⟨_,rfl⟩
 have HBW1:Hid (Below w.heap.size w W1):=zh (by rw[hW1];exact br0.alloc (Nat.le_refl _) _)
 have HXW1:Hid (W1.heap[w.heap.size]?=some (.cells #[.int .i64 sg,.int .i64 ho,.int .i64 rf,.int .i64 rt,.int .i64 ca,.int .i64 se,.int .i64 sf,.int .i64 st,.string sl] 31 (0,0))):=zh (by rw[hW1];exact heap_alloc_new w _)
 have hsW1:Hid (W1.heap.size=w.heap.size+1):=zh (by rw[hW1];simp)
 have HWW1:=zh hW1
 clear hW1
 obtain⟨W2,hW2⟩:∃ W2,W2=W1.alloc (.cells #[.int .i64 nu,.int .i64 cf,.int .i64 ca,.int .i64 ho,.int .i64 t,.bool cb] 34):=⟨_,rfl⟩
 have HBW2:Hid (Below W1.heap.size W1 W2):=zh (by rw[hW2];exact br0.alloc (Nat.le_refl _) _)
 have HXW2:Hid (W2.heap[W1.heap.size]?=some (.cells #[.int .i64 nu,.int .i64 cf,.int .i64 ca,.int .i64 ho,.int .i64 t,.bool cb] 34 (0,0))):=zh (by rw[hW2];exact heap_alloc_new W1 _)
 have hsW2:Hid (W2.heap.size=W1.heap.size+1):=zh (by rw[hW2];simp)
 have HWW2:=zh hW2
 clear hW2
 obtain⟨W3,hW3⟩:∃ W3,W3=W2.alloc (.cells #[.int .i64 0,.int .i64 0,.int .i64 0,.int .i64 0,.int .i64 0,.bool false] 34):=⟨_,rfl⟩
 have HBW3:Hid (Below W2.heap.size W2 W3):=zh (by rw[hW3];exact br0.alloc (Nat.le_refl _) _)
 have HXW3:Hid (W3.heap[W2.heap.size]?=some (.cells #[.int .i64 0,.int .i64 0,.int .i64 0,.int .i64 0,.int .i64 0,.bool false] 34 (0,0))):=zh (by rw[hW3];exact heap_alloc_new W2 _)
 have hsW3:Hid (W3.heap.size=W2.heap.size+1):=zh (by rw[hW3];simp)
 have HWW3:=zh hW3
 clear hW3
 have HB3:=zh (q_next HBW1.out (q_next HBW2.out HBW3.out))
 have HY1:=zh (kept_block HXW1.out (q_next HBW2.out HBW3.out))
 have HY2:Hid (W3.heap[w.heap.size+1]?=some (.cells #[.int .i64 nu,.int .i64 cf,.int .i64 ca,.int .i64 ho,.int .i64 t,.bool cb] 34 (0,0))):=zh (by rw[← hsW1.out];exact kept_block HXW2.out HBW3.out)
 have HY3:Hid (W3.heap[w.heap.size+1+1]?=some (.cells #[.int .i64 0,.int .i64 0,.int .i64 0,.int .i64 0,.int .i64 0,.bool false] 34 (0,0))):=zh (by rw[← hsW1.out,← hsW2.out];exact HXW3.out)
 obtain⟨c0,c1,c2,c3,c4,c5,c6,c7,c8⟩:=nine_cells HY1.out
 obtain⟨d0,d1,d2,d3,d4,d5⟩:=six_cells HY2.out
 clear HBW1 HBW2 HBW3 HXW1 HXW2 HXW3 hsW1 hsW2 hsW3
 go_enter Tryz.func9,Tryz.ntmps9
 go_upto_region 1 with fail
 rw[← HWW1.out,← HWW2.out,← HWW3.out]
 clear HWW1 HWW2 HWW3
 go_wp2_with (first | (go_at_call 33;(with_reducible refine(HIC.out _).mono ?_);clear c0 c1 c2 c3 c4 c5 c6 c7 c8 d0 d1 d2 d3 d4 d5;rintro e w4 ⟨rfl,hbx⟩;have HB4:=zh hbx;obtain⟨c0,c1,c2,c3,c4,c5,c6,c7,c8⟩:=nine_cells (kept_block HY1.out hbx);obtain⟨d0,d1,d2,d3,d4,d5⟩:=six_cells (kept_block HY2.out hbx);clear hbx) | (go_at_call 34;(with_reducible refine(HWY.out _ (q_next HB3.out HB4.out)).mono ?_);clear c0 c1 c2 c3 c4 c5 c6 c7 c8 d0 d1 d2 d3 d4 d5;rintro e w5 ⟨rfl,hbx⟩;have HB5:=zh (q_next HB4.out hbx);have HK2:=zh (kept_block HY2.out HB5.out);obtain⟨d0,d1,d2,d3,d4,d5⟩:=six_cells HK2.out;have HK3:=zh (kept_block HY3.out HB5.out);obtain⟨g0,g1,g2,g3,g4,g5⟩:=six_cells HK3.out;have zf2:∀ j,w5.frozen? ⟨w.heap.size+1,j,none⟩=false:=(fun j=>by unfold World.frozen?;rw[HK2.out];simp);have zf3:∀ j,w5.frozen? ⟨w.heap.size+1+1,j,none⟩=false:=(fun j=>by unfold World.frozen?;rw[HK3.out];simp);clear hbx))
 have HK4:Hid ((w5.setCell ⟨w.heap.size+1,5,none⟩ (.bool bd)).heap[w.heap.size+1+1]?=some (.cells #[.int .i64 0,.int .i64 0,.int .i64 0,.int .i64 0,.int .i64 0,.bool false] 34 (0,0))):=zh ((Below.heap_setCell _ _ _ _ (by show w.heap.size+1+1≠w.heap.size+1;omega)).trans HK3.out)
 have HB6:Hid (Below w.heap.size w (w5.setCell ⟨w.heap.size+1,5,none⟩ (.bool bd))):=zh ((q_next HB3.out HB5.out).setCell (p:=⟨w.heap.size+1,5,none⟩) (by show w.heap.size≤w.heap.size+1;omega) _)
 exact bodyPost_ret (results_cellA_tmp rfl _ (w.heap.size+1+1) 34 #[.int .i64 nu,.int .i64 cf,.int .i64 ca,.int .i64 ho,.int .i64 t,.bool bd] (0,0) _ rfl (six_heap HK4.out _ _ _ _ _ _) Tryz.underlying34 rfl infoClaimB) rfl ⟨rfl,six_below HB6.out (by omega) _ _ _ _ _ _⟩
end Go.Proofs.YtjjiikeldpjafaaGreatDoor
/- TopReclaims: the reader of wishes: a number, a kind, a digest where they stand. The conditions: what the text has there. -/
namespace Go.Proofs.YtjjiikeldpjafaaGreatDoor
open Go.RowKit Go.BigFrame Go.Shelf
attribute [local go_sem] Oper.semAt_some
def RdAt (w:World)(rb:Nat)(s:ByteArray)(a:Nat):Prop:=w.heap[rb]?=some (.cells #[.string s,.int .i64 a] 245 (0,0))
theorem RdAt.set {w:World}{rb:Nat}{s:ByteArray}{a:Nat}(h:RdAt w rb s a)(b:Nat):RdAt (w.setCell ⟨rb,1,none⟩ (.int .i64 b)) rb s b:=heap_setCell_same (i:=1) _ h
set_option maxHeartbeats 2000000 in
set_option maxRecDepth 100000 in
theorem rdNumber_any {w:World}{rb:Nat}{s:ByteArray}{a:Nat}{n:Int}{rest:List UInt8}(hr:RdAt w rb s a)(h:s.data.toList.drop a=putN n++rest)(hn:0≤n∧n≤99999999)(hs:s.size≤1000) :
  Calls Tryz.prog 132 #[.pointer (some ⟨rb,0,none⟩)] w fun e w'=>e=.returned (.int .i64 n)∧RdAt w' rb s (a+(putN n).length)∧w.grownBy w' (some rb):=by
 obtain⟨h1,h2,h3⟩:=int_at h hn
 have HI:=zh (fun W=>int_any s a (by omega) (by omega) W)
 rw[h1]at HI
 unfold intR at HI
 simp only at HI
 obtain⟨k,hk⟩:∃ k,k=a+(putN n).length:=⟨_,rfl⟩
 rw[← hk]at HI ⊢
 have HR:=zh hr
 have HC:=zh (fun W (hW:Below w.heap.size w W)=>And.intro (cell_of_row W rb 0 _ _ _ (kept_block hr hW)) (cell_of_row W rb 1 _ _ _ (kept_block hr hW)))
 clear h h1 h2 h3 hk hr
 go_enter Tryz.func132,Tryz.ntmps132
 go_upto_region 1 with fail
 refine wp_region_noPanic ?_
 refine wp_region_lexB [.q 0,.q 1,.q 2,.q 3,.q 4,.q 5,.q 6,.q 7,.b 8,.q 9,.q 10,.q 11,.q 12,.q 13,.q 14,.q 15] (by kernel_rfl) (by kernel_rfl) (fun _ _ _ _ h=>h) ?_
 iterate 8(refine wpFl_qL (v:=?_) rfl (Or.inl ⟨by rfl,?_⟩) ?_;rotate_left;(focus(intro w' hSw;obtain⟨c0,c1⟩:=HC.out w' hSw;go_simp;(try with_reducible rfl);done));simp only[Act.put,zzA,zzB,zzC])
 refine wpFl_bL rfl (fun wa hna hsa K hK=>?_)
 go_simp
 go_at_call 165
 (with_reducible refine(HI.out _).mono ?_)
 rintro e wb ⟨rfl,hbb⟩
 subst hbb
 have HBW:=zh hsa
 refine hK.out _ _ hsa (Keeps.below br0) ?_
 clear hK K hna hsa
 iterate 7(refine wpFl_qL (v:=?_) rfl (Or.inl ⟨by rfl,?_⟩) ?_;rotate_left;(focus(intro w' hSw;go_simp;(try with_reducible rfl);done));simp only[Act.put,zzA,zzB,zzC])
 refine wpFl_nil ?_
 refine NoPanic.normal ?_
 have HRB:=zh (kept_block HR.out HBW.out)
 obtain⟨c0,c1⟩:=HC.out wb HBW.out
 have zf:∀ j,wb.frozen? ⟨rb,j,none⟩=false:=fun j=>by unfold World.frozen?;rw[HRB.out];simp
 go_wp2
 go_ret
 exact⟨rfl,RdAt.set HRB.out k,((below_grownQ HBW.out).but (some rb)).trans (grown_setCell (grown_refl _ _) ⟨rb,1,none⟩ (.inl rfl) _)⟩
set_option maxHeartbeats 2000000 in
set_option maxRecDepth 100000 in
theorem rdKind_any {w:World}{rb:Nat}{s:ByteArray}{a:Nat}{n:Int}{rest:List UInt8}(hr:RdAt w rb s a)(h:s.data.toList.drop a=putN n++rest)(hn:0≤n∧n≤99999999)(hs:s.size≤1000) :
  Calls Tryz.prog 133 #[.pointer (some ⟨rb,0,none⟩),.int .i64 n] w fun e w'=>e=.returned (.tuple #[])∧RdAt w' rb s (a+(putN n).length)∧w.grownBy w' (some rb):=by
 have HN:=zh (rdNumber_any hr h hn hs)
 clear hr h
 go_enter Tryz.func133,Tryz.ntmps133
 go_wp2_with (go_at_call 132;(with_reducible refine HN.out.mono ?_);rintro e w1 ⟨rfl,h1,h2⟩;have H1:=zh h1;have H2:=zh h2;clear h1 h2)
 go_end0
 exact⟨rfl,H1.out,H2.out⟩
set_option maxHeartbeats 2000000 in
set_option maxRecDepth 100000 in
theorem rdDigest_any {w:World}{rb:Nat}{s d:ByteArray}{a:Nat}{rest:List UInt8}(hr:RdAt w rb s a)(h:s.data.toList.drop a=d.data.toList++rest)(hd:d.size=32)(hs:s.size≤1000) :
  Calls Tryz.prog 134 #[.pointer (some ⟨rb,0,none⟩)] w fun e w'=>e=.returned (.string d)∧RdAt w' rb s (a+32)∧w.grownBy w' (some rb):=by
 obtain⟨h1,h2,h3⟩:=bytes_at h (by omega)
 rw[hd]at h1 h2
 have HR:=zh hr
 have HC:=zh (fun W (hW:Below w.heap.size w W)=>And.intro (cell_of_row W rb 0 _ _ _ (kept_block hr hW)) (cell_of_row W rb 1 _ _ _ (kept_block hr hW)))
 have e1:IntKind.i64.wrap ((s.size:Int) - (a:Int))=(s.size:Int) - (a:Int):=IntWalk.i64_in _ (by omega)
 have e2:IntKind.i64.wrap ((a:Int)+32)=(a:Int)+32:=IntWalk.i64_in _ (by omega)
 have e3:¬ ((s.size:Int) - (a:Int) < 32):=by omega
 have HX:=zh h2
 clear h h2 h3 hr
 go_enter Tryz.func134,Tryz.ntmps134
 go_upto_region 1 with fail
 refine wp_region_noPanic ?_
 refine wp_region_lexB [.q 0,.q 1,.q 2,.q 3,.q 4,.q 5,.q 6,.q 7,.q 8,.q 9,.q 10] (by kernel_rfl) (by kernel_rfl) (fun _ _ _ _ h=>h) ?_
 iterate 11(refine wpFl_qL (v:=?_) rfl (Or.inl ⟨by rfl,?_⟩) ?_;rotate_left;(focus(intro w' hSw;obtain⟨c0,c1⟩:=HC.out w' hSw;go_simp;(try with_reducible rfl);done));simp only[Act.put,zzA,zzB,zzC])
 refine wpFl_nil ?_
 refine NoPanic.normal ?_
 have HBD:Hid (Below w.heap.size w w.drew):=zh (Below.drew br0)
 generalize w.drew=w2 at *
 have HC2:=zh (fun W (hW:Below w2.heap.size w2 W)=>HC.out W (q_next HBD.out hW))
 go_upto_region 3 with fail
 have f1:(0:Int)≤(a:Int):=by omega
 have f2:(a:Int)≤(a:Int)+32:=by omega
 have f3:(a:Int)+32≤(s.size:Int):=by omega
 have f4:¬ (s.size:Int) < (a:Int)+32:=by omega
 have f5:((a:Int)+32).toNat=a+32:=by omega
 have f6:¬ ((a:Int)+32 < (a:Int)):=by omega
 refine wp_region_noPanic ?_
 refine wp_region_lexB [.q 0,.q 1,.q 2,.q 3,.q 4,.q 5,.q 6,.q 7,.q 8,.q 9,.q 10,.q 11,.q 12,.q 13,.q 14] (by kernel_rfl) (by kernel_rfl) (fun _ _ _ _ h=>h) ?_
 iterate 14(refine wpFl_qL (v:=?_) rfl (Or.inl ⟨by rfl,?_⟩) ?_;rotate_left;(focus(intro w' hSw;obtain⟨c0,c1⟩:=HC2.out w' hSw;go_simp;(try with_reducible rfl);done));simp only[Act.put,zzA,zzB,zzC])
 rw[HX.out]
 refine wpFl_qL (v:=?_) rfl (Or.inl ⟨by rfl,?_⟩) ?_
 rotate_left
 focus(intro w' hSw;go_simp;(try with_reducible rfl);done)
 simp only[Act.put,zzA,zzB,zzC]
 refine wpFl_nil ?_
 refine NoPanic.normal ?_
 have HBE:Hid (Below w.heap.size w w2.drew):=zh (Below.drew HBD.out)
 generalize w2.drew=wb at *
 have HRB:=zh (kept_block HR.out HBE.out)
 obtain⟨c0,c1⟩:=HC.out wb HBE.out
 have zf:∀ j,wb.frozen? ⟨rb,j,none⟩=false:=fun j=>by unfold World.frozen?;rw[HRB.out];simp
 go_wp2
 go_ret
 exact⟨rfl,by have h:=RdAt.set HRB.out (a+32);rw[show((a+32:Nat):Int)=(a:Int)+32 from by omega]at h;exact h,((below_grownQ HBE.out).but (some rb)).trans (grown_setCell (grown_refl _ _) ⟨rb,1,none⟩ (.inl rfl) _)⟩
end Go.Proofs.YtjjiikeldpjafaaGreatDoor
/- TopReclaims: the deferred functions of both Decodes, where nothing panics; what the reader reads, as lists. The conditions: what the text has there. -/
namespace Go.Proofs.YtjjiikeldpjafaaGreatDoor
open Go.RowKit Go.BigFrame Go.Shelf
attribute [local go_sem] Oper.semAt_some
set_option maxHeartbeats 1000000 in
theorem decodeW_idle (x y z:Value)(w:World):CallsD Tryz.prog 131 #[x,y,z] .returning w fun e u' w'=>e=.returned (.tuple #[])∧u'=.returning∧w'=w:=by
 refine callsD_of_wpS Tryz.func131 rfl fun c₀ cs hu=>?_
 apply wpS_seq
 apply wpS_region
 simp[wpOpsS,go_sem,recoverD,hu,Tryz.ntmps131,Exit.thenS]
 refine wpS_of_wp ?_
 go_wp2
 cases c₀
 simp_all [bodyPostS,results]
set_option maxHeartbeats 1000000 in
theorem decodeR_idle (x z:Value)(w:World):CallsD Tryz.prog 164 #[x,z] .returning w fun e u' w'=>e=.returned (.tuple #[])∧u'=.returning∧w'=w:=by
 refine callsD_of_wpS Tryz.func164 rfl fun c₀ cs hu=>?_
 apply wpS_seq
 apply wpS_region
 simp[wpOpsS,go_sem,recoverD,hu,Tryz.ntmps164,Exit.thenS]
 refine wpS_of_wp ?_
 go_wp2
 cases c₀
 simp_all [bodyPostS,results]
def Rd (w:World)(rb:Nat)(s:ByteArray)(L:List UInt8):Prop:=∃ a,RdAt w rb s a∧s.data.toList.drop a=L
theorem drop_next {s:ByteArray}{a:Nat}{A B:List UInt8}(h:s.data.toList.drop a=A++B):s.data.toList.drop (a+A.length)=B:=by
 rw[← List.drop_drop,h,List.drop_left]
theorem rdN {w:World}{rb:Nat}{s:ByteArray}{n:Int}{rest:List UInt8}(hr:Rd w rb s (putN n++rest))(hn:0≤n∧n≤99999999)(hs:s.size≤1000) :
  Calls Tryz.prog 132 #[.pointer (some ⟨rb,0,none⟩)] w fun e w'=>e=.returned (.int .i64 n)∧Rd w' rb s rest∧w.grownBy w' (some rb):=by
 obtain⟨a,h1,h2⟩:=hr
 refine(rdNumber_any h1 h2 hn hs).mono ?_
 rintro e w' ⟨g1,g2,g3⟩
 exact⟨g1,⟨_,g2,drop_next h2⟩,g3⟩
theorem rdK {w:World}{rb:Nat}{s:ByteArray}{n:Int}{rest:List UInt8}(hr:Rd w rb s (putN n++rest))(hn:0≤n∧n≤99999999)(hs:s.size≤1000) :
  Calls Tryz.prog 133 #[.pointer (some ⟨rb,0,none⟩),.int .i64 n] w fun e w'=>e=.returned (.tuple #[])∧Rd w' rb s rest∧w.grownBy w' (some rb):=by
 obtain⟨a,h1,h2⟩:=hr
 refine(rdKind_any h1 h2 hn hs).mono ?_
 rintro e w' ⟨g1,g2,g3⟩
 exact⟨g1,⟨_,g2,drop_next h2⟩,g3⟩
theorem rdD {w:World}{rb:Nat}{s d:ByteArray}{rest:List UInt8}(hr:Rd w rb s (d.data.toList++rest))(hd:d.size=32)(hs:s.size≤1000) :
  Calls Tryz.prog 134 #[.pointer (some ⟨rb,0,none⟩)] w fun e w'=>e=.returned (.string d)∧Rd w' rb s rest∧w.grownBy w' (some rb):=by
 obtain⟨a,h1,h2⟩:=hr
 refine(rdDigest_any h1 h2 hd hs).mono ?_
 rintro e w' ⟨g1,g2,g3⟩
 have e1:d.data.toList.length=32:=by rw[size_list,hd]
 exact⟨g1,⟨_,g2,by rw[← e1];exact drop_next h2⟩,g3⟩
theorem Rd.done {w:World}{rb:Nat}{s:ByteArray}(h:Rd w rb s []):∃ a,RdAt w rb s a∧s.size≤a:=by
 obtain⟨a,h1,h2⟩:=h
 refine⟨a,h1,?_⟩
 have:=congrArg List.length h2
 rw[List.length_drop,size_list]at this
 simp at this
 omega
end Go.Proofs.YtjjiikeldpjafaaGreatDoor
/- TopReclaims: what Decode keeps. The conditions: what the blocks hold. -/
namespace Go.Proofs.YtjjiikeldpjafaaGreatDoor
open Go.RowKit Go.BigFrame Go.Shelf
structure DecAt (w:World) (s:ByteArray) (L:List UInt8) (X:Array Value) (lv:Value) (l:List ProxP) (W:World):Prop where
 hb:Below w.heap.size w W
 hw:W.heap[w.heap.size]?=some (.cells X 31 (0,0))
 hl:W.heap[w.heap.size+1]?=some (.cells #[lv] 32 (0,0))
 he:W.heap[w.heap.size+1+1]?=some (.cells #[.int .i64 0] 40 (0,0))
 hr:Rd W (w.heap.size+1+1+1) s L
 own:OwnP W w.heap.size lv l
section
variable {w:World} {s:ByteArray} {L:List UInt8} {X:Array Value} {lv:Value} {l:List ProxP} {W W':World}
theorem DecAt.step (h:DecAt w s L X lv l W)(hb:Below W.heap.size W W'):DecAt w s L X lv l W' :=
 ⟨q_next h.hb hb,kept_block h.hw hb,kept_block h.hl hb,kept_block h.he hb,let ⟨a,h1,h2⟩:=h.hr;⟨a,kept_block h1 hb,h2⟩,OwnE.far h.own hb (Nat.le_refl _)⟩
theorem DecAt.turn (h:DecAt w s L X lv l W){L':List UInt8}(hr:Rd W' (w.heap.size+1+1+1) s L')(hg:W.grownBy W' (some (w.heap.size+1+1+1))):DecAt w s L' X lv l W':=by
 obtain⟨a,h1,h2⟩:=h.hr
 have k:∀ {c:Nat} {o:Obj},W.heap[c]?=some o→c≠w.heap.size+1+1+1→W'.heap[c]?=some o:=fun g1 g2=>(hg.block _ (ltA g1) (fun e=>g2 (by injection e))).trans g1
 exact⟨h.hb.grown hg h.hb.size (fun j e=>by cases e;omega),k h.hw (by omega),k h.hl (by omega),k h.he (by omega),hr,OwnE.grownT h.own h1 (fun c e=>by injection e with _ e;exact absurd e (by decide)) hg⟩
theorem DecAt.setP (h:DecAt w s L X lv l W){pb i:Nat}(hp:w.heap.size+1+1+1 < pb)(hne:lv.ownBlock≠some pb)(v:Value):DecAt w s L X lv l (W.setCell ⟨pb,i,none⟩ v):=by
 obtain⟨a,h1,h2⟩:=h.hr
 have k:∀ {c:Nat} {o:Obj},W.heap[c]?=some o→c≠pb→(W.setCell ⟨pb,i,none⟩ v).heap[c]?=some o:=fun g1 g2=>(Below.heap_setCell _ _ _ _ g2).trans g1
 have hg:W.grownBy (W.setCell ⟨pb,i,none⟩ v) (some pb):=grown_setCell (grown_refl _ _) ⟨pb,i,none⟩ (.inl rfl) _
 refine⟨h.hb.setCell (p:=⟨pb,i,none⟩) (by show w.heap.size≤pb;omega) _,k h.hw (by omega),k h.hl (by omega),k h.he (by omega),⟨a,k h1 (by omega),h2⟩,?_⟩
 refine⟨h.own.1,?_⟩
 exact(World.ownsRow.kept h.own hg (.inr (fun e=>hne e))).2
theorem DecAt.app (h:DecAt w s L X lv l W){lv':Value}{y:ProxP}(hown:OwnP W' w.heap.size lv' (l++[y]))(hg:W.grownBy W' lv.ownBlock):DecAt w s L X lv' (l++[y]) (W'.setCell ⟨w.heap.size+1,0,none⟩ lv'):=by
 obtain⟨a,h1,h2⟩:=h.hr
 have hl2:=own_keepsT h.own hg h.hl (by decide)
 have k:∀ {c:Nat} {cs:Array Value} {T:TypeId},W.heap[c]?=some (.cells cs T (0,0))→T≠96→c≠w.heap.size+1→(W'.setCell ⟨w.heap.size+1,0,none⟩ lv').heap[c]?=some (.cells cs T (0,0)):=fun g1 g2 g3=>(Below.heap_setCell _ _ _ _ g3).trans (own_keepsT h.own hg g1 g2)
 exact⟨(h.hb.grown hg h.hb.size (fun j e=>OwnE.ge h.own j e)).setCell (p:=⟨w.heap.size+1,0,none⟩) (by show w.heap.size≤w.heap.size+1;omega) _,k h.hw (by decide) (by omega),heap_setCell_same (i:=0) _ hl2,k h.he (by decide) (by omega),⟨a,k h1 (by decide) (by omega),h2⟩,
  OwnE.grownT hown hl2 (fun c e=>by injection e with _ e;exact absurd e (by decide)) (grown_setCell (grown_refl _ _) ⟨w.heap.size+1,0,none⟩ (.inl rfl) _)⟩
theorem DecAt.setW (h:DecAt w s L X lv l W)(i:Nat)(v:Value):DecAt w s L (X.setIfInBounds i v) lv l (W.setCell ⟨w.heap.size,i,none⟩ v):=by
 obtain⟨a,h1,h2⟩:=h.hr
 have k:∀ {c:Nat} {o:Obj},W.heap[c]?=some o→c≠w.heap.size→(W.setCell ⟨w.heap.size,i,none⟩ v).heap[c]?=some o:=fun g1 g2=>(Below.heap_setCell _ _ _ _ g2).trans g1
 exact⟨h.hb.setCell (p:=⟨w.heap.size,i,none⟩) (Nat.le_refl _) _,heap_setCell_same (i:=i) _ h.hw,k h.hl (by omega),k h.he (by omega),⟨a,k h1 (by omega),h2⟩,
  OwnE.grownT h.own h.hw (fun c e=>by injection e with _ e;exact absurd e (by decide)) (grown_setCell (grown_refl _ _) ⟨w.heap.size,i,none⟩ (.inl rfl) _)⟩
theorem DecAt.setL (h:DecAt w s L X lv l W):DecAt w s L X lv l (W.setCell ⟨w.heap.size+1,0,none⟩ lv):=by
 obtain⟨a,h1,h2⟩:=h.hr
 have k:∀ {c:Nat} {o:Obj},W.heap[c]?=some o→c≠w.heap.size+1→(W.setCell ⟨w.heap.size+1,0,none⟩ lv).heap[c]?=some o:=fun g1 g2=>(Below.heap_setCell _ _ _ _ g2).trans g1
 exact⟨h.hb.setCell (p:=⟨w.heap.size+1,0,none⟩) (by show w.heap.size≤w.heap.size+1;omega) _,k h.hw (by omega),heap_setCell_same (i:=0) _ h.hl,k h.he (by omega),⟨a,k h1 (by omega),h2⟩,
  OwnE.grownT h.own h.hl (fun c e=>by injection e with _ e;exact absurd e (by decide)) (grown_setCell (grown_refl _ _) ⟨w.heap.size+1,0,none⟩ (.inl rfl) _)⟩
theorem DecAt.setE (h:DecAt w s L X lv l W):DecAt w s L X lv l (W.setCell ⟨w.heap.size+1+1,0,none⟩ (.int .i64 0)):=by
 obtain⟨a,h1,h2⟩:=h.hr
 have k:∀ {c:Nat} {o:Obj},W.heap[c]?=some o→c≠w.heap.size+1+1→(W.setCell ⟨w.heap.size+1+1,0,none⟩ (.int .i64 0)).heap[c]?=some o:=fun g1 g2=>(Below.heap_setCell _ _ _ _ g2).trans g1
 exact⟨h.hb.setCell (p:=⟨w.heap.size+1+1,0,none⟩) (by show w.heap.size≤w.heap.size+1+1;omega) _,k h.hw (by omega),k h.hl (by omega),heap_setCell_same (i:=0) _ h.he,⟨a,k h1 (by omega),h2⟩,
  OwnE.grownT h.own h.he (fun c e=>by injection e with _ e;exact absurd e (by decide)) (grown_setCell (grown_refl _ _) ⟨w.heap.size+1+1,0,none⟩ (.inl rfl) _)⟩
theorem DecAt.setAll {c0 c1 c2 c3 c4 c5 c6 c7 c8:Value}(h:DecAt w s L #[c0,c1,c2,c3,c4,c5,c6,c7,c8] lv l W):DecAt w s L #[c0,c1,c2,c3,c4,c5,c6,c7,c8] lv l (((((((((W.setCell ⟨w.heap.size,0,none⟩ c0).setCell ⟨w.heap.size,1,none⟩ c1).setCell ⟨w.heap.size,2,none⟩ c2).setCell ⟨w.heap.size,3,none⟩ c3).setCell ⟨w.heap.size,4,none⟩ c4).setCell ⟨w.heap.size,5,none⟩ c5).setCell ⟨w.heap.size,6,none⟩ c6).setCell ⟨w.heap.size,7,none⟩ c7).setCell ⟨w.heap.size,8,none⟩ c8):=by
 have h1:=h.setW 0 c0
 have h2:=h1.setW 1 c1
 have h3:=h2.setW 2 c2
 have h4:=h3.setW 3 c3
 have h5:=h4.setW 4 c4
 have h6:=h5.setW 5 c5
 have h7:=h6.setW 6 c6
 have h8:=h7.setW 7 c7
 have h9:=h8.setW 8 c8
 simpa using h9
end
theorem infoWishD:(Tryz.prog.info? 31).map (·.size)=some 9:=by kernel_rfl
theorem run_loadOne {T:TypeId}{w:World}(hT:∀ w,(isAgg T).run Tryz.prog w=.ok false w){g:Nat}{x:Value}{U:TypeId}(hg:w.heap[g]?=some (.cells #[x] U (0,0))):(loadVar T ⟨g,0,none⟩).run Tryz.prog w=.ok x w:=by
 have c1:=cell_of_row w g 0 _ _ _ hg
 unfold loadVar
 rw[Sem.run_bind,hT]
 simp[Result.andThen,load,Sem.run,c1]
theorem results_dec {fn:Func}{w W:World}{s:ByteArray}{L:List UInt8}{X:Array Value}{lv:Value}{l:List ProxP}(hd:DecAt w s L X lv l W)(hX:X.size=9)(h:fn.results=#[.cell 2 31,.cell 3 32,.cell 4 40])(tmps:Array Value)
  (h2:tmps.getD 2 undef=.pointer (some ⟨w.heap.size,0,none⟩)) (h3:tmps.getD 3 undef=.pointer (some ⟨w.heap.size+1,0,none⟩)) (h4:tmps.getD 4 undef=.pointer (some ⟨w.heap.size+1+1,0,none⟩)) :
  (results fn tmps).run Tryz.prog W=.ok (.tuple #[.agg X,lv,.int .i64 0]) W:=by
 have l1:=run_loadVar_row (P:=Tryz.prog) W w.heap.size 31 31 X (0,0) _ hd.hw Tryz.underlying31 rfl (by rw[hX];exact infoWishD)
 have l2:=run_loadOne (T:=32) (fun w=>by kernel_rfl) hd.hl
 have l3:=run_loadOne (T:=40) (fun w=>by kernel_rfl) hd.he
 have h2':tmps[2]?.getD undef=.pointer (some ⟨w.heap.size,0,none⟩):=by simpa using h2
 have h3':tmps[3]?.getD undef=.pointer (some ⟨w.heap.size+1,0,none⟩):=by simpa using h3
 have h4':tmps[4]?.getD undef=.pointer (some ⟨w.heap.size+1+1,0,none⟩):=by simpa using h4
 simp only[results,h]
 simp[Sem.run_bind,Result.andThen,h2',h3',h4',asAddr,l1,l2,l3]
def pcut (xs:List Int)(k:Nat):Array Value:=(((xs.take k).map fun x=>Value.int .i64 x)++List.replicate (6 - k) (Value.int .i64 0)++[Value.string ⟨#[]⟩]).toArray
def wcut (xs:List Int)(k:Nat):Array Value:=(((xs.take k).map fun x=>Value.int .i64 x)++List.replicate (8 - k) (Value.int .i64 0)++[Value.string ⟨#[]⟩]).toArray
theorem putsN_at {xs:List Int}{k:Nat}{x:Int}(h:xs[k]?=some x)(rest:List UInt8):putsN (xs.drop k)++rest=putN x++(putsN (xs.drop (k+1))++rest):=by
 have hlt:=(List.getElem?_eq_some_iff.1 h).1
 rw[List.drop_eq_getElem_cons hlt,putsN_cons,List.append_assoc]
 rw[(List.getElem?_eq_some_iff.1 h).2]
end Go.Proofs.YtjjiikeldpjafaaGreatDoor
