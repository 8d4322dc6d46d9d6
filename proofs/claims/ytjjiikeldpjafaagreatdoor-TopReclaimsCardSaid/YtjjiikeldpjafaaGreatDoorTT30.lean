/- TopReclaims: reclaim.State at one reply. The conditions: ranges; what Check, keeps and lacks say. -/
import Derived.Test.YtjjiikeldpjafaaGreatDoorTT29
namespace Go.Proofs.YtjjiikeldpjafaaGreatDoor
open Go.RowKit Go.BigFrame
attribute [local go_sem] Oper.semAt_some
theorem run_store_fnZ (P:Program)(w:World)(a:Addr)(m:Mode)(fn:Fn)(first captured:Array Value):(store a (.func fn first captured) m).run P w=stored P w a (.func fn first captured) m:=run_store P w a _ m rfl
attribute [local go_sem] run_store_fnZ
set_option maxHeartbeats 1000000 in
theorem two_firsts {num ho ca am asked en rat c2:Int}{key c3 c4:ByteArray}{ia ka:Option Addr}{ic kn kc sb yb cb tb eb fb rb:Nat}{bd:Bool}{w W:World}
  (hs:SdOk ⟨num,ho,ca,am,asked,en,key,rat,c2,c3,c4,ia,ic,ka,kn,kc,sb,yb,cb,tb,eb,fb⟩ bd w) (hv:SvAt ⟨num,ho,ca,am,asked,en,key,rat,c2,c3,c4,ia,ic,ka,kn,kc,sb,yb,cb,tb,eb,fb⟩ w W)
  (hr:W.heap[rb]?=some (.cells #[.int .i64 rat,.int .i64 ca,.int .i64 c2,.string c3,.string c4,.slice ia 1 ic] 78 (0,0))) (bk:Bool) (hbk:bk=(decide (rat < en) && bd)) :
  Calls Tryz.prog 51 #[.slice (some ⟨rb,0,none⟩) 1 1,.func (.func 50) #[] #[],.func (.func 52) #[] #[.pointer (some ⟨fb,0,none⟩),.pointer (some ⟨sb,0,none⟩),.pointer (some ⟨cb,0,none⟩)]] W (fun e w'=>e=.returned (.tuple #[.int .i64 (if bk then rat else 0),.bool bk])∧Below W.heap.size W w') ∧
  (∀ W',Below W.heap.size W W'→Calls Tryz.prog 51 #[.slice (some ⟨rb,0,none⟩) 1 1,.func (.func 50) #[] #[],.func (.func 54) #[] #[.pointer (some ⟨fb,0,none⟩),.pointer (some ⟨cb,0,none⟩)]] W' fun e w'=>e=.returned (.tuple #[.int .i64 0,.bool false])∧Below W'.heap.size W' w') ∧
  (∀ W',Below W.heap.size W W'→W'.cell? ⟨tb,0,none⟩=some (.int .i64 en)∧W'.cell? ⟨eb,0,none⟩=some (.int .i64 en)):=by
 refine⟨?_,fun W' hW'=>?_,fun W' hW'=>⟨cell_of_row W' _ 0 _ _ _ (hv.step hW').t,cell_of_row W' _ 0 _ _ _ (hv.step hW').e⟩⟩
 ·have h3:=fun V (hV:Below W.heap.size W V)=>keepsFn_any hs (hv.step hV)
  simp only at h3
  rw[← hbk]at h3
  exact first3_any bk hr h3
 ·have h4:=fun V (hV:Below W'.heap.size W' V)=>lacksFn_any hs ((hv.step hW').step hV)
  simp only at h4
  have h:=first4_any false (kept_block hr hW') h4
  rw[if_neg (by decide)]at h
  exact h
set_option maxHeartbeats 4000000 in
set_option maxRecDepth 100000 in
theorem state_any {num ho ca am asked lim rat c2:Int}{key c3 c4:ByteArray}{ia ka:Option Addr}{ic kn kc rb:Nat}{bd:Bool}{w:World}
  (hk:key.size=32) (hl:1≤lim∧lim≤1000000) (h1:0≤num∧num≤99999999) (h2:0≤ho∧ho≤63) (h3:0≤ca∧ca≤7) (h4:0≤am∧am≤asked) (h5:asked≤10000000) (h6:asked≤rat)
  (hck:∀ W,Below w.heap.size w W→Calls Tryz.prog 49 #[.string key,.agg #[.int .i64 ca,.int .i64 c2,.string c3,.string c4,.slice ia 1 ic]] W fun e w'=>e=.returned (.bool true)∧Below W.heap.size W w')
  (hkp:∀ W,Below w.heap.size w W→Calls Tryz.prog 53 #[.slice ka kn kc,.agg #[.int .i64 num,.int .i64 ho,.int .i64 ca,.int .i64 am,.int .i64 asked],.agg #[.int .i64 ca,.int .i64 c2,.string c3,.string c4,.slice ia 1 ic]] W fun e w'=>e=.returned (.bool bd)∧Below W.heap.size W w')
  (hlk:∀ W,Below w.heap.size w W→Calls Tryz.prog 55 #[.agg #[.int .i64 ca,.int .i64 c2,.string c3,.string c4,.slice ia 1 ic],.int .i64 num] W fun e w'=>e=.returned (.bool false)∧Below W.heap.size W w')
  (hr:w.heap[rb]?=some (.cells #[.int .i64 rat,.int .i64 ca,.int .i64 c2,.string c3,.string c4,.slice ia 1 ic] 78 (0,0))) :
  Calls Tryz.prog 19 #[.slice ka kn kc,.string key,.int .i64 lim,.agg #[.int .i64 num,.int .i64 ho,.int .i64 ca,.int .i64 am,.int .i64 asked],.slice (some ⟨rb,0,none⟩) 1 1,.int .i64 (asked+lim)] w fun e w' =>
   e=.returned (.tuple #[.int .i64 (if(decide (rat < asked+lim) && bd)then 2 else 3),.int .i64 (if(decide (rat < asked+lim) && bd)then rat else asked+lim),.int .i64 0])∧Below w.heap.size w w':=by
 obtain⟨bk,hbk⟩:∃ bk,bk=(decide (rat < asked+lim) && bd):=⟨_,rfl⟩
 rw[← hbk]
 have HBK:=zh hbk
 clear hbk
 have hmf:∀(fn:Fn) (first cap:Array Value) (w:World),(Instr.makeFunc fn first cap).run Tryz.prog w=.ok (.func fn first cap) w:=fun _ _ _ _=>rfl
 have HL:=zh (fun W=>withR_yes lim 1 1000000 hl.1 hl.2 W)
 have HT:=zh (fun W=>withR_yes (asked+lim) asked 11000000 (by omega) (by omega) W)
 have HIC:=zh (fun W=>isChallenge_yes num ho ca am asked h2.1 h2.2 h3.1 h3.2 h1.1 h1.2 (by omega) h5 h4.1 h4.2 W)
 have HR:=zh hr
 have HSO:Hid (∀ eb fb,SdOk ⟨num,ho,ca,am,asked,asked+lim,key,rat,c2,c3,c4,ia,ic,ka,kn,kc,w.heap.size,w.heap.size+1,w.heap.size+1+1,w.heap.size+1+1+1,eb,fb⟩ bd w):=zh (fun eb fb=>⟨by simp only;omega,h6,hck,hkp,hlk⟩)
 have hk':(key.size:Int)=32:=by omega
 have hl1:=hl.1
 have hl2:=hl.2
 have ha0:0≤asked:=by omega
 clear hck hkp hlk hr h1 h2 h3 h4 h6 hl hk
 obtain⟨W1,hW1⟩:∃ W1,W1=w.alloc (.cells #[.slice ka kn kc] 47):=⟨_,rfl⟩
 have HBW1:Hid (Below w.heap.size w W1):=zh (by rw[hW1];exact br0.alloc (Nat.le_refl _) _)
 have HXW1:Hid (W1.heap[w.heap.size]?=some (.cells #[.slice ka kn kc] 47 (0,0))):=zh (by rw[hW1];exact heap_alloc_new w _)
 have hsW1:Hid (W1.heap.size=w.heap.size+1):=zh (by rw[hW1];simp)
 have HWW1:=zh hW1
 clear hW1
 obtain⟨W2,hW2⟩:∃ W2,W2=W1.alloc (.cells #[.string key] 9):=⟨_,rfl⟩
 have HBW2:Hid (Below W1.heap.size W1 W2):=zh (by rw[hW2];exact br0.alloc (Nat.le_refl _) _)
 have HXW2:Hid (W2.heap[W1.heap.size]?=some (.cells #[.string key] 9 (0,0))):=zh (by rw[hW2];exact heap_alloc_new W1 _)
 have hsW2:Hid (W2.heap.size=W1.heap.size+1):=zh (by rw[hW2];simp)
 have HWW2:=zh hW2
 clear hW2
 obtain⟨W3,hW3⟩:∃ W3,W3=W2.alloc (.cells #[.int .i64 num,.int .i64 ho,.int .i64 ca,.int .i64 am,.int .i64 asked] 64):=⟨_,rfl⟩
 have HBW3:Hid (Below W2.heap.size W2 W3):=zh (by rw[hW3];exact br0.alloc (Nat.le_refl _) _)
 have HXW3:Hid (W3.heap[W2.heap.size]?=some (.cells #[.int .i64 num,.int .i64 ho,.int .i64 ca,.int .i64 am,.int .i64 asked] 64 (0,0))):=zh (by rw[hW3];exact heap_alloc_new W2 _)
 have hsW3:Hid (W3.heap.size=W2.heap.size+1):=zh (by rw[hW3];simp)
 have HWW3:=zh hW3
 clear hW3
 obtain⟨W4,hW4⟩:∃ W4,W4=W3.alloc (.cells #[.int .i64 (asked+lim)] 3):=⟨_,rfl⟩
 have HBW4:Hid (Below W3.heap.size W3 W4):=zh (by rw[hW4];exact br0.alloc (Nat.le_refl _) _)
 have HXW4:Hid (W4.heap[W3.heap.size]?=some (.cells #[.int .i64 (asked+lim)] 3 (0,0))):=zh (by rw[hW4];exact heap_alloc_new W3 _)
 have hsW4:Hid (W4.heap.size=W3.heap.size+1):=zh (by rw[hW4];simp)
 have HWW4:=zh hW4
 clear hW4
 have HB4:=zh (q_next HBW1.out (q_next HBW2.out (q_next HBW3.out HBW4.out)))
 have HS4:Hid (W4.heap[w.heap.size]?=some (.cells #[.slice ka kn kc] 47 (0,0))):=zh (kept_block HXW1.out (q_next HBW2.out (q_next HBW3.out HBW4.out)))
 have HY4:Hid (W4.heap[w.heap.size+1]?=some (.cells #[.string key] 9 (0,0))):=zh (by rw[← hsW1.out];exact kept_block HXW2.out (q_next HBW3.out HBW4.out))
 have HC4:Hid (W4.heap[w.heap.size+1+1]?=some (.cells #[.int .i64 num,.int .i64 ho,.int .i64 ca,.int .i64 am,.int .i64 asked] 64 (0,0))):=zh (by rw[← hsW1.out,← hsW2.out];exact kept_block HXW3.out HBW4.out)
 have HT4:Hid (W4.heap[w.heap.size+1+1+1]?=some (.cells #[.int .i64 (asked+lim)] 3 (0,0))):=zh (by rw[← hsW1.out,← hsW2.out,← hsW3.out];exact HXW4.out)
 have k0:=cell_of_row W4 _ 0 _ _ _ HY4.out
 have t0:=cell_of_row W4 _ 0 _ _ _ HT4.out
 obtain⟨a0,a1,a2,a3,a4⟩:=five_cells HC4.out
 (try simp only at k0 t0 a0 a1 a2 a3 a4)
 go_enter Tryz.func19,Tryz.ntmps19
 go_upto_region 1 with fail
 rw[← HWW1.out,← HWW2.out,← HWW3.out,← HWW4.out]
 clear HWW1 HWW2 HWW3 HWW4 HXW1 HXW2 HXW3 HXW4 HBW1 HBW2 HBW3 HBW4 hsW1 hsW2 hsW3 hsW4
 go_upto_region 3 with(first | (go_at_call 42;(first | (with_reducible refine(HL.out _).mono ?_) | (with_reducible refine(HT.out _).mono ?_));rintro e w' ⟨rfl,hw'⟩;replace hw':=hw'.symm;subst hw') | (go_at_call 47;(with_reducible refine(HIC.out _).mono ?_);clear k0 t0 a0 a1 a2 a3 a4;rintro e w5 ⟨rfl,hb5⟩;have HB5:=zh (q_next HB4.out hb5);have HS5:=zh (kept_block HS4.out hb5);have HY5:=zh (kept_block HY4.out hb5);have HC5:=zh (kept_block HC4.out hb5);have HT5:=zh (kept_block HT4.out hb5);have t0:=cell_of_row w5 _ 0 _ _ _ HT5.out;obtain⟨a0,a1,a2,a3,a4⟩:=five_cells HC5.out;clear hb5))
 clear HB4 HS4 HY4 HC4 HT4 HL HT HIC
 go_upto_region 4 with fail
 clear t0 a0 a1 a2 a3 a4
 obtain⟨eb,heb⟩:∃ eb,eb=w5.heap.size:=⟨_,rfl⟩
 have HBxW6:=zh ((Below.refl w5.heap.size w5).alloc (Nat.le_refl _) (.cells #[.int .i64 (asked+lim)] 3))
 have HXeb:=zh (heap_alloc_new w5 (.cells #[.int .i64 (asked+lim)] 3))
 rw[← heb]at HXeb ⊢
 clear heb
 generalize w5.alloc (.cells #[.int .i64 (asked+lim)] 3)=W6 at *
 go_upto_region 5 with fail
 obtain⟨fb,hfb⟩:∃ fb,fb=W6.heap.size:=⟨_,rfl⟩
 have HBxW7:=zh ((Below.refl W6.heap.size W6).alloc (Nat.le_refl _) (.cells #[.func (.func 48) #[] #[.pointer (some ⟨w.heap.size+1+1,0,none⟩),.pointer (some ⟨eb,0,none⟩),.pointer (some ⟨w.heap.size+1+1+1,0,none⟩),.pointer (some ⟨w.heap.size+1,0,none⟩)]] 138))
 have HXfb:=zh (heap_alloc_new W6 (.cells #[.func (.func 48) #[] #[.pointer (some ⟨w.heap.size+1+1,0,none⟩),.pointer (some ⟨eb,0,none⟩),.pointer (some ⟨w.heap.size+1+1+1,0,none⟩),.pointer (some ⟨w.heap.size+1,0,none⟩)]] 138))
 rw[← hfb]at HXfb ⊢
 clear hfb
 generalize W6.alloc (.cells #[.func (.func 48) #[] #[.pointer (some ⟨w.heap.size+1+1,0,none⟩),.pointer (some ⟨eb,0,none⟩),.pointer (some ⟨w.heap.size+1+1+1,0,none⟩),.pointer (some ⟨w.heap.size+1,0,none⟩)]] 138)=W7 at *
 have HB57:=zh (q_next HBxW6.out HBxW7.out)
 have HB7:=zh (q_next HB5.out HB57.out)
 have HSV:Hid (SvAt ⟨num,ho,ca,am,asked,asked+lim,key,rat,c2,c3,c4,ia,ic,ka,kn,kc,w.heap.size,w.heap.size+1,w.heap.size+1+1,w.heap.size+1+1+1,eb,fb⟩ w W7):=zh ⟨HB7.out,kept_block HS5.out HB57.out,kept_block HY5.out HB57.out,kept_block HC5.out HB57.out,kept_block HT5.out HB57.out,kept_block HXeb.out HBxW7.out,HXfb.out⟩
 have HR7:=zh (kept_block HR.out HB7.out)
 clear HB57 HS5 HY5 HC5 HT5 HXeb HXfb HBxW6 HBxW7 HB5 HR
 obtain⟨h3,h4,hte⟩:=two_firsts (HSO.out eb fb) HSV.out HR7.out bk HBK.out
 have H3:=zh h3
 have H4:=zh h4
 have HTE:=zh hte
 clear h3 h4 hte
 clear HBK HSO HSV HR7
 cases bk with
 | true =>
  rw[if_pos rfl]at H3
  go_wp2_with (go_at_call 51;(first | ((with_reducible refine H3.out.mono ?_);rintro e w8 ⟨rfl,hb8⟩;have HB8:=zh hb8;clear hb8) | ((with_reducible refine(H4.out _ HB8.out).mono ?_);rintro e w9 ⟨rfl,hb9⟩;have HB9:=zh (q_next HB7.out (q_next HB8.out hb9));clear hb9)))
  exact bodyPost_ret (results_tmp3 rfl _ _ _) rfl ⟨rfl,HB9.out⟩
 | false =>
  rw[if_neg (by decide)]at H3
  go_upto_region 12 with(go_at_call 51;(first | ((with_reducible refine H3.out.mono ?_);rintro e w8 ⟨rfl,hb8⟩;have HB8:=zh hb8;clear hb8) | ((with_reducible refine(H4.out _ HB8.out).mono ?_);rintro e w9 ⟨rfl,hb9⟩;have HB9:=zh (q_next HB8.out hb9);clear hb9)))
  obtain⟨t0,e0⟩:=HTE.out _ HB9.out
  have HB10:=zh (q_next HB7.out HB9.out)
  go_upto_region 13 with fail
  have HE9:Hid (∀ W,Below w9.heap.size w9 W→W.cell? ⟨eb,0,none⟩=some (.int .i64 (asked+lim))):=zh (fun W hW=>(HTE.out W (q_next HB9.out hW)).2)
  clear t0 e0
  refine wp_region_noPanic ?_
  refine wp_region_lexB [.q 0,.q 1,.q 2,.q 3] (by kernel_rfl) (by kernel_rfl) (fun _ _ _ _ h=>h) ?_
  iterate 4(refine wpFl_qL (v:=?_) rfl (Or.inl ⟨by rfl,?_⟩) ?_;rotate_left;(focus(intro w' hSw;have e0:=HE9.out w' hSw;go_simp;(try with_reducible rfl);done));simp only[Act.put,zzA,zzB,zzC])
  refine wpFl_nil ?_
  refine NoPanic.normal ?_
  go_wp2
  exact bodyPost_ret (results_tmp3 rfl _ _ _) rfl ⟨rfl,Below.drew HB10.out⟩
end Go.Proofs.YtjjiikeldpjafaaGreatDoor
/- Walk of the law: TopReclaims, the answer and the state. The conditions: what the boxes hold, ranges, what keeps says. -/
namespace Go.Proofs.YtjjiikeldpjafaaGreatDoor
open Go.RowKit Go.BigFrame
def rtQZ2 (c:Code):Code:=rtQ (rtQ (rtQ (rtQ (rtQ (rtQ (rtQ (rtQ (rtQ (rtQ (rtQ (rtQ (rtQ (rtQ (rtQ (rtQ (rtQ (rtQ (c))))))))))))))))))
theorem tailQZ2 {c L:Code}(h:∃ a0 a1 a2 a3 a4 a5 a6 a7 a8 a9 a10 a11 a12 a13 a14 a15 a16 a17:Code,Tryz.f3.body=some (a0.seq (a1.seq (a2.seq (a3.seq (a4.seq (a5.seq (a6.seq (a7.seq (a8.seq (a9.seq (a10.seq (a11.seq (a12.seq (a13.seq (a14.seq (a15.seq (a16.seq (a17.seq (c))))))))))))))))))))(hL:Tryz.f3.body.map rtQZ2=some L:=by rfl):c=L:=by
 obtain⟨a0,a1,a2,a3,a4,a5,a6,a7,a8,a9,a10,a11,a12,a13,a14,a15,a16,a17,e⟩:=h
 rw[e]at hL
 exact Option.some.inj hL
set_option maxHeartbeats 16000000 in
set_option maxRecDepth 100000 in
theorem top_state {w wo:World}(HBW:Hid (Below w.heap.size w wo))(HEO:Hid (Env wo∧0 < wo.heap.size))(pb ub hb bl bp qb:Nat)(a0 a1 a2 a3 cn cf ct ch ca ef x6 x8 lim asked:Int)(own text:ByteArray)(bd:Bool)(hef:Hid (ef=ca+a0+a1))(hca:0≤ca)(h3:1≤a3∧a3≤1000000)(he0:0≤ef)(i6:I64 x6)(ix:I64 x8)
  (h1:ef≤asked) (h2:asked≤900000) (h4:1≤lim∧lim≤20) (hown:Hid (own.size=32)) (HCS:Hid (CsOk ct cn ca text)) (htx:Hid (0 < text.size)) (hch:0≤ch∧ch≤63) (hcc:ca≤asked)
  (HCL:Hid (∀ o,(∀ z,o=some z→ca+a0+a1≤z∧z≤1000000)→ClOk a0 a1 a2 a3 cn cf ct ch ca o))
  (HP:Hid (wo.heap[pb]?=some (.cells #[.int .i64 cn,.int .i64 cf,.int .i64 ct,.int .i64 ch,.int .i64 ca,.bool bd] 34 (0,0)))) (HU:Hid (wo.heap[ub]?=some (.cells #[.int .i64 a0,.int .i64 a1,.int .i64 a2,.int .i64 a3] 53 (0,0)))) (HH:Hid (wo.heap[hb]?=some (.cells #[.int .i64 cn,.int .i64 cf,.int .i64 a0,.int .i64 a1,.int .i64 a2,.int .i64 a3,.slice (some ⟨bl,0,none⟩) 1 1,.slice (some ⟨bp,0,none⟩) 1 1] 58 (0,0))))
  (HL:Hid (wo.heap[bl]?=some (.cells #[.int .i64 1,.int .i64 0,.int .i64 ch] 116 (0,0)))) (HO:Hid (wo.heap[bp]?=some (.cells #[.int .i64 cn,.int .i64 cf,.int .i64 ct,.int .i64 ch,.int .i64 ca,.bool bd,.slice none 0 0] 118 (0,0))))
  (HQ:Hid (wo.heap[qb]?=some (.cells #[.int .i64 cn,.int .i64 ch,.int .i64 ct,.int .i64 ca,.int .i64 asked] 64 (0,0))))
  (HKP:Hid (∀(W:World) (vk:Value) (c2:Int) (c3 c4:ByteArray) (ia:Option Addr) (ic:Nat),SS W vk (keysN 10)→PtAt W (.slice ia 1 ic) (caseB cn ca text)→Env W→0 < W.heap.size→Calls Tryz.prog 53 #[vk,.agg #[.int .i64 cn,.int .i64 ch,.int .i64 ct,.int .i64 ca,.int .i64 asked],.agg #[.int .i64 ct,.int .i64 c2,.string c3,.string c4,.slice ia 1 ic]] W fun e w'=>e=.returned (.bool bd)∧Below W.heap.size W w')) {u0 u1 u2 u3 u4 u5 u7 u9 u10 u11 u12 u13 u14 u15 u16 u17 u18 u19 u20 u21 u22 u23 u25 u27 u28 u32 u33 u34 u35 u36 u37 u41 u42 u43 u44 u45 u46 u47 u48 u49 u50 u51 u52 u53 u54 u55 u56 u57 u58 u59 u60 u61 u62 u63 u64 u65 u66 u67 u68 u69 u70 u71 u72 u73 u74 u75 u76 u77 u78 u79 u80 u81 u82 u83 u84 u85 u86 u87 u88 u89 u90 u91 u92 u93 u94 u95 u96 u97 u98 u99 u100 u101 u102 u103 u104 u105 u106 u107 u108 u109 u110 u111 u112 u113 u114 u115 u116 u117 u118 u119 u120 u121 u122 u123 u124 u125 u126 u127 u128 u129 u130 u131 u132 u133 u134 u135 u136 u137 u138 u139 u140 u141 u142 u143 u144 u145 u146 u147 u148 u149 u150 u151 u152 u153 u154 u155 u156 u157 u158 u159 u160 u161 u162 u163 u164 u165 u166 u167 u168 u169 u170 u171 u172 u173 u174 u175 u176 u177 u178 u179 u180 u181 u182 u183 u184 u185 u186 u187 u188 u189 u190 u191 u192 u193 u194 u195 u196 u197 u198 u199 u200 u201 u202 u203 u204 u205 u206 u207 u208 u209 u210 u211 u212 u213 u214 u215 u216 u217 u218 u219 u220 u221 u222 u223 u224 u225 u226 u227 u228 u229 u230 u231 u232 u233 u234 u235 u236 u237 u238 u239 u240 u241 u242 u243 u244 u245 u246 u247 u248 u249 u250 u251 u252 u253 u254 u255 u256 u257 u258 u259 u260 u261 u262 u263 u264 u265 u266 u267 u268 u269 u270 u271 u272 u273 u274 u275 u276 u277 u278 u279 u280 u281 u282 u283 u284 u285 u286 u287 u288 u289 u290 u291 u292 u293 u294 u295 u296 u297 u298 u299 u300 u301 u302 u303 u304 u305 u306 u307 u308 u309 u310 u311 u312 u313 u314 u315 u316 u317 u318 u319 u320 u321 u322 u323 u324 u325 u326 u327 u328 u329 u330 u331 u332 u333 u334 u335:Value} :
  ∃ c:Code,(∃ a0 a1 a2 a3 a4 a5 a6 a7 a8 a9 a10 a11 a12 a13 a14 a15 a16 a17:Code,Tryz.f3.body=some (a0.seq (a1.seq (a2.seq (a3.seq (a4.seq (a5.seq (a6.seq (a7.seq (a8.seq (a9.seq (a10.seq (a11.seq (a12.seq (a13.seq (a14.seq (a15.seq (a16.seq (a17.seq (c))))))))))))))))))))∧c.wp Tryz.prog (bodyPost Tryz.prog Tryz.f3 fun e w'=>e=.returned (.bool true)∧Below w.heap.size w w') { tmps:=#[u0,u1,u2,u3,u4,u5,.int .i64 x6,u7,.int .i64 x8,u9,u10,u11,u12,u13,u14,u15,u16,u17,u18,u19,u20,u21,u22,u23,.string text,u25,.pointer (some ⟨pb,0,none⟩),u27,u28,.pointer (some ⟨ub,0,none⟩),.pointer (some ⟨hb,0,none⟩),.int .i64 ef,u32,u33,u34,u35,u36,u37,.string own,.int .i64 lim,.pointer (some ⟨qb,0,none⟩),u41,u42,u43,u44,u45,u46,u47,u48,u49,u50,u51,u52,u53,u54,u55,u56,u57,u58,u59,u60,u61,u62,u63,u64,u65,u66,u67,u68,u69,u70,u71,u72,u73,u74,u75,u76,u77,u78,u79,u80,u81,u82,u83,u84,u85,u86,u87,u88,u89,u90,u91,u92,u93,u94,u95,u96,u97,u98,u99,u100,u101,u102,u103,u104,u105,u106,u107,u108,u109,u110,u111,u112,u113,u114,u115,u116,u117,u118,u119,u120,u121,u122,u123,u124,u125,u126,u127,u128,u129,u130,u131,u132,u133,u134,u135,u136,u137,u138,u139,u140,u141,u142,u143,u144,u145,u146,u147,u148,u149,u150,u151,u152,u153,u154,u155,u156,u157,u158,u159,u160,u161,u162,u163,u164,u165,u166,u167,u168,u169,u170,u171,u172,u173,u174,u175,u176,u177,u178,u179,u180,u181,u182,u183,u184,u185,u186,u187,u188,u189,u190,u191,u192,u193,u194,u195,u196,u197,u198,u199,u200,u201,u202,u203,u204,u205,u206,u207,u208,u209,u210,u211,u212,u213,u214,u215,u216,u217,u218,u219,u220,u221,u222,u223,u224,u225,u226,u227,u228,u229,u230,u231,u232,u233,u234,u235,u236,u237,u238,u239,u240,u241,u242,u243,u244,u245,u246,u247,u248,u249,u250,u251,u252,u253,u254,u255,u256,u257,u258,u259,u260,u261,u262,u263,u264,u265,u266,u267,u268,u269,u270,u271,u272,u273,u274,u275,u276,u277,u278,u279,u280,u281,u282,u283,u284,u285,u286,u287,u288,u289,u290,u291,u292,u293,u294,u295,u296,u297,u298,u299,u300,u301,u302,u303,u304,u305,u306,u307,u308,u309,u310,u311,u312,u313,u314,u315,u316,u317,u318,u319,u320,u321,u322,u323,u324,u325,u326,u327,u328,u329,u330,u331,u332,u333,u334,u335],defers:=[] } wo:=by
 refine⟨_,⟨_,_,_,_,_,_,_,_,_,_,_,_,_,_,_,_,_,_,rfl⟩,?_⟩
 obtain⟨c2,c3,c4,its,hpp⟩:∃ c2 c3 c4 its,(⟨⟨ct,c2,c3,c4⟩,its⟩:PartP)=partS own ct [caseB cn ca text] 1 [0]:=⟨_,_,_,_,rfl⟩
 have HPP:=zh hpp
 clear hpp
 have HBC:=zh ((Below.refl wo.heap.size wo).alloc (Nat.le_refl _) (.cells #[.int .i64 cn,.int .i64 ca,.string text] 73))
 have HXC:=zh (heap_alloc_new wo (.cells #[.int .i64 cn,.int .i64 ca,.string text] 73))
 have HAN:=zh (answer_any HCS.out HXC.out own hown.out (HEO.out.1.below HBC.out HEO.out.2) (Nat.lt_of_lt_of_le HEO.out.2 HBC.out.size) ct c2 c3 c4 its HPP.out)
 clear HXC
 obtain⟨p0,p1,p2,p3,p4,p5⟩:=six_cells HP.out
 have hpb:pb < wo.heap.size:=(ltA HP.out)
 go_upto_region 27 with(go_at_call 18;(with_reducible refine HAN.out.mono ?_);clear p0 p1 p2 p3 p4 p5;rintro e w2 ⟨ia,ic,ys,rfl,hys,his,hb2⟩;have HYS:=zh hys;have HIS:=zh his;have HB2:=zh (q_next HBC.out hb2);clear hys his hb2)
 clear HAN HBC hpb
 obtain⟨sb,hsb⟩:∃ sb,sb=w2.heap.size:=⟨_,rfl⟩
 have HBxw3:=zh ((Below.refl w2.heap.size w2).alloc (Nat.le_refl _) (.cells #[.int .i64 ct,.int .i64 c2,.string c3,.string c4,.slice ia 1 ic] 69))
 have HXsb:=zh (heap_alloc_new w2 (.cells #[.int .i64 ct,.int .i64 c2,.string c3,.string c4,.slice ia 1 ic] 69))
 rw[← hsb]at HXsb ⊢
 clear hsb
 generalize w2.alloc (.cells #[.int .i64 ct,.int .i64 c2,.string c3,.string c4,.slice ia 1 ic] 69)=w3 at *
 have HB3:=zh (q_next HB2.out HBxw3.out)
 have HIS3:=zh (HIS.out.below HBxw3.out)
 clear HIS HBxw3 HB2
 have HQC:=zh (fun W (hW:Below w3.heap.size w3 W)=>And.intro (five_cells (kept_block HQ.out (q_next HB3.out hW))) (five_cells (kept_block HXsb.out hW)))
 obtain⟨k6,hk6⟩:∃ k,k=pickI x6 30:=⟨_,rfl⟩
 have hk60:=pickI_range x6 (show(0:Int) < 30 by omega)
 have HPK:=zh (fun W=>pickT_any x6 30 W i6 (by omega) (by omega))
 rw[← hk6]at HPK hk60
 obtain⟨rat,hrat⟩:∃ rat,rat=asked+k6:=⟨_,rfl⟩
 have e6:IntKind.i64.wrap (asked+k6)=rat:=by rw[hrat];exact IntWalk.i64_in _ (by omega)
 have h5:asked≤rat∧rat≤900100:=by omega
 clear hk6 hrat i6
 refine wp_region_noPanic ?_
 refine wp_region_lexB [.q 0,.q 1,.q 2,.q 5,.an 7,.b 3,.q 4,.q 6,.co 7,.b 8] (by kernel_rfl) (by kernel_rfl) (fun _ _ _ _ h=>h) ?_
 iterate 4(refine wpFl_qL (v:=?_) rfl (Or.inl ⟨by rfl,?_⟩) ?_;rotate_left;(focus(intro w' hSw;obtain⟨⟨q0,q1,q2,q3,q4⟩,s0,s1,s2,s3,s4⟩:=HQC.out w' hSw;go_simp;(try with_reducible rfl);done));simp only[Act.put,zzA,zzB,zzC])
 refine wpFl_anL rfl (.cells #[.int .i64 0,.int .i64 0,.int .i64 0,.string ⟨#[]⟩,.string ⟨#[]⟩,.slice none 0 0] 78 (0,0)) (fun n=>.pointer (some ⟨n,0,none⟩)) ⟨by rfl,fun w'=>?_⟩ ?_
 focus(go_simp;done)
 refine wpFl_bL rfl (fun wa7 hna7 hsa7 K hK=>?_)
 go_simp
 go_at_call 6
 (with_reducible refine(HPK.out _).mono ?_)
 rintro e w' ⟨rfl,hw'⟩
 replace hw':=hw'.symm
 subst hw'
 refine hK.out _ _ hsa7 (Keeps.below br0) ?_
 clear hK K hna7 hsa7
 iterate 2(refine wpFl_qL (v:=?_) rfl (Or.inl ⟨by rfl,?_⟩) ?_;rotate_left;(focus(intro w' hSw;go_simp;(try with_reducible rfl);done));simp only[Act.put,zzA,zzB,zzC])
 refine wpFl_coL rfl (.cells #[.int .i64 0,.int .i64 0,.int .i64 0,.string ⟨#[]⟩,.string ⟨#[]⟩,.slice none 0 0] 78 (0,0)) (fun n=>.pointer (some ⟨n,0,none⟩)) (by rfl) (N':=[]) (by rfl) (fun rb wq hn_wq hs_wq hb_rb hz_rb=>?_)
 simp only[Act.put,zzA,zzB,zzC]
 refine wpFl_bL rfl (fun wf hnf hsf K hK=>?_)
 have HZ:=zh (kept_block hz_rb hnf)
 obtain⟨z0,z1,z2,z3,z4,z5⟩:=six_cells HZ.out
 have zf:=thaw HZ.out
 go_simp
 have HBr:=zh (six_below hsf hb_rb (.int .i64 rat) (.int .i64 ct) (.int .i64 c2) (.string c3) (.string c4) (.slice ia 1 ic))
 have HVr:=zh (six_heap HZ.out (.int .i64 rat) (.int .i64 ct) (.int .i64 c2) (.string c3) (.string c4) (.slice ia 1 ic))
 refine hK.out _ _ HBr.out Keeps.nil ?_
 clear hK K z0 z1 z2 z3 z4 z5 zf HZ hnf hsf hz_rb hn_wq hs_wq hb_rb
 generalize (((((wf.setCell ⟨rb,0,none⟩ (.int .i64 rat)).setCell ⟨rb,1,none⟩ (.int .i64 ct)).setCell ⟨rb,2,none⟩ (.int .i64 c2)).setCell ⟨rb,3,none⟩ (.string c3)).setCell ⟨rb,4,none⟩ (.string c4)).setCell ⟨rb,5,none⟩ (.slice ia 1 ic)=w5 at *
 refine wpFl_nil ?_
 refine NoPanic.normal ?_
 go_upto_region 28 with fail
 have HB5:=zh (q_next HB3.out HBr.out)
 have HIS5:=zh (HIS3.out.below HBr.out)
 clear HIS3 HQC HPK HBr HB3 HXsb e6
 have HQR:=zh (fun W (hW:Below w5.heap.size w5 W)=>And.intro (five_cells (kept_block HQ.out (q_next HB5.out hW))) (six_cells (kept_block HVr.out hW)))
 have e7:IntKind.i64.wrap (asked+lim)=asked+lim:=IntWalk.i64_in _ (by omega)
 have HE5:=zh (And.intro (HEO.out.1.below HB5.out HEO.out.2) (Nat.lt_of_lt_of_le HEO.out.2 HB5.out.size))
 obtain⟨kd,hkd⟩:∃ kd:Int,kd=if(decide (rat < asked+lim) && bd)then 2 else 3:=⟨_,rfl⟩
 obtain⟨s,hs⟩:∃ s:Int,s=if(decide (rat < asked+lim) && bd)then rat else asked+lim:=⟨_,rfl⟩
 have HST:Hid (∀(W:World) (ka:Option Addr) (kn kc rx:Nat),Below w5.heap.size w5 W→SS W (.slice ka kn kc) (keysN 10)→W.heap[rx]?=some (.cells #[.int .i64 rat,.int .i64 ct,.int .i64 c2,.string c3,.string c4,.slice ia 1 ic] 78 (0,0))→Calls Tryz.prog 19 #[.slice ka kn kc,.string own,.int .i64 lim,.agg #[.int .i64 cn,.int .i64 ch,.int .i64 ct,.int .i64 ca,.int .i64 asked],.slice (some ⟨rx,0,none⟩) 1 1,.int .i64 (asked+lim)] W fun e w'=>e=.returned (.tuple #[.int .i64 kd,.int .i64 s,.int .i64 0])∧Below W.heap.size W w'):=zh (fun W ka kn kc rx hW hS hR=>by
  have hE:=fun W' (hW':Below W.heap.size W W')=>And.intro (HE5.out.1.below (q_next hW hW') HE5.out.2) (Nat.lt_of_lt_of_le HE5.out.2 (q_next hW hW').size)
  have hP:=fun W' (hW':Below W.heap.size W W')=>part_at HPP.out HYS.out (HIS5.out.below (q_next hW hW'))
  have hc2:c2≠0:=by have h:=(hP W br0).2.2.1;simp only at h;omega
  rw[hkd,hs]
  exact state_any hown.out ⟨h4.1,by omega⟩ HCS.out.n hch HCS.out.t ⟨hca,hcc⟩ (by omega) h5.1 (fun W' hW'=>part_checks hown.out HCS.out HPP.out HYS.out (HIS5.out.below (q_next hW hW')) (hE W' hW').1 (hE W' hW').2) (fun W' hW'=>HKP.out W' _ c2 c3 c4 ia ic (hS.below hW') (hP W' hW').1 (hE W' hW').1 (hE W' hW').2) (fun W' hW'=>lacks_any HCS.out.n.1 HCS.out.n.2 HCS.out.a.1 HCS.out.a.2 HCS.out.e htx.out hc2 (hP W' hW').1) hR)
 have HKD:=zh hkd
 have HSN:=zh hs
 clear hkd hs HKP
 refine wp_region_noPanic ?_
 refine wp_region_lexB [.q 1,.q 2,.q 3,.q 4,.q 6,.q 7,.q 8,.q 9,.an 5,.b 0,.co 5,.b 10,.q 11,.q 12,.q 13,.q 14,.q 15,.q 16,.q 17] (by kernel_rfl) (by kernel_rfl) (fun _ _ _ _ h=>h) ?_
 iterate 8(refine wpFl_qL (v:=?_) rfl (Or.inl ⟨by rfl,?_⟩) ?_;rotate_left;(focus(intro w' hSw;obtain⟨⟨q0,q1,q2,q3,q4⟩,r0,r1,r2,r3,r4,r5⟩:=HQR.out w' hSw;go_simp;(try with_reducible rfl);done));simp only[Act.put,zzA,zzB,zzC])
 refine wpFl_anL rfl (.cells #[.int .i64 rat,.int .i64 ct,.int .i64 c2,.string c3,.string c4,.slice ia 1 ic] 78 (0,0)) (fun n=>.slice (some ⟨n,0,none⟩) 1 1) ⟨by rfl,fun w'=>?_⟩ ?_
 focus(go_simp;done)
 refine wpFl_bL rfl (fun wa hna hsa K hK=>?_)
 go_simp
 go_at_call 10
 (with_reducible refine(keys15_any _).mono ?_)
 rintro e wk ⟨vk,rfl,hok,hbk⟩
 have HSK:=zh (OwnS.ss hok)
 clear hok
 obtain⟨ka,kc,hkv,-⟩:=id HSK.out
 generalize (scells (keysN 10)).length=kn at hkv
 subst hkv
 refine hK.out _ _ (below_next hsa hbk) (Keeps.below hbk) ?_
 clear hK K hna hsa hbk
 refine wpFl_coL rfl (.cells #[.int .i64 rat,.int .i64 ct,.int .i64 c2,.string c3,.string c4,.slice ia 1 ic] 78 (0,0)) (fun n=>.slice (some ⟨n,0,none⟩) 1 1) (by rfl) (N':=[]) (by rfl) (fun rx we hn_we hs_we hb_rx hz_rx=>?_)
 simp only[Act.put,zzA,zzB,zzC]
 have HSE:=zh (HSK.out.below hn_we)
 clear HSK
 refine wpFl_bL rfl (fun wf hnf hsf K hK=>?_)
 have HSF:=zh (HSE.out.below hnf)
 have HRX:=zh (kept_block hz_rx hnf)
 go_simp
 go_at_call 19
 (with_reducible refine(HST.out wf ka kn kc rx hsf HSF.out HRX.out).mono ?_)
 rintro e wg ⟨rfl,hbg⟩
 have HBG:=zh (below_next hsf hbg)
 refine hK.out _ _ HBG.out (Keeps.below hbg) ?_
 clear hK K hnf hsf hbg HSF HRX HSE hn_we hs_we hb_rx hz_rx
 iterate 7(refine wpFl_qL (v:=?_) rfl (Or.inl ⟨by rfl,?_⟩) ?_;rotate_left;(focus(intro w' hSw;go_simp;(try with_reducible rfl);done));simp only[Act.put,zzA,zzB,zzC])
 refine wpFl_nil ?_
 refine NoPanic.normal ?_
 refine wp_enterZ (by assumption) ?_
 have HB59:=zh (q_next HB5.out HBG.out)
 have HB9:=zh (q_next HBW.out HB59.out)
 have HP9:=zh (kept_block HP.out HB59.out)
 have HU9:=zh (kept_block HU.out HB59.out)
 have HH9:=zh (kept_block HH.out HB59.out)
 have HL9:=zh (kept_block HL.out HB59.out)
 have HO9:=zh (kept_block HO.out HB59.out)
 have HQ9:=zh (kept_block HQ.out HB59.out)
 have HR9:=zh (kept_block HVr.out HBG.out)
 refine wp_of_eqZ (top_back HB9 pb ub hb bl bp qb rb a0 a1 a2 a3 cn cf ct ch ca ef s kd x8 lim asked rat c2 c3 c4 ia ic bd hef hca h3 he0 ix h1 h2 h4 h5 HKD HSN HCL HP9 HU9 HH9 HL9 HO9 HQ9 HR9).choose_spec.2 ?_
 exact tailQZ1 (top_back HB9 pb ub hb bl bp qb rb a0 a1 a2 a3 cn cf ct ch ca ef s kd x8 lim asked rat c2 c3 c4 ia ic bd hef hca h3 he0 ix h1 h2 h4 h5 HKD HSN HCL HP9 HU9 HH9 HL9 HO9 HQ9 HR9).choose_spec.1
end Go.Proofs.YtjjiikeldpjafaaGreatDoor
/- Walk of the law: TopReclaims, from the backed claim to the challenge. The conditions: what the boxes hold, ranges, what keeps says, the collision. -/
namespace Go.Proofs.YtjjiikeldpjafaaGreatDoor
open Go.RowKit Go.BigFrame
def rtQZ3 (c:Code):Code:=rtQ (rtQ (rtQ (rtQ (rtQ (rtQ (rtQ (c)))))))
theorem tailQZ3 {c L:Code}(h:∃ a0 a1 a2 a3 a4 a5 a6:Code,Tryz.f3.body=some (a0.seq (a1.seq (a2.seq (a3.seq (a4.seq (a5.seq (a6.seq (c)))))))))(hL:Tryz.f3.body.map rtQZ3=some L:=by rfl):c=L:=by
 obtain⟨a0,a1,a2,a3,a4,a5,a6,e⟩:=h
 rw[e]at hL
 exact Option.some.inj hL
set_option maxHeartbeats 16000000 in
set_option maxRecDepth 100000 in
theorem top_claim {w wo:World}(HBW:Hid (Below w.heap.size w wo))(HEO:Hid (Env wo∧0 < wo.heap.size))(xb wb pb:Nat)(y0 y1 y2 y3 cn cf ch ca x2 x5 x6 x7 x8:Int)(sg ct:Nat)(ho rf rt wa4 se sf st:Int)(sl C skey text:ByteArray)(bd:Bool)
  (iy:I64 y0∧I64 y1∧I64 y2∧I64 y3) (i2:I64 x2) (i5:I64 x5) (i6:I64 x6) (i7:I64 x7) (i8:I64 x8) (hcn:0≤cn∧cn≤11000) (hcf:0≤cf∧cf < 8) (hct:ct < 8) (hne:cf≠(ct:Int)) (hch:0≤ch∧ch < 10) (hca:0≤ca∧ca≤11000) (hsg:sg < 10) (hsk:Hid (skey.size=32)) (hC:Hid (C.size≤100000))
  (HCS:Hid (CsOk (ct:Int) cn ca text)) (htx:Hid (0 < text.size))
  (HX:Hid (wo.heap[xb]?=some (.cells #[.int .i64 y0,.int .i64 y1,.int .i64 y2,.int .i64 y3] 26 (0,0)))) (HW:Hid (wo.heap[wb]?=some (.cells #[.int .i64 (sg:Int),.int .i64 ho,.int .i64 rf,.int .i64 rt,.int .i64 wa4,.int .i64 se,.int .i64 sf,.int .i64 st,.string sl] 31 (0,0)))) (HP:Hid (wo.heap[pb]?=some (.cells #[.int .i64 cn,.int .i64 cf,.int .i64 (ct:Int),.int .i64 ch,.int .i64 ca,.bool bd] 34 (0,0))))
  (HWC:Hid (∀ W,Calls Tryz.prog 12 #[.agg #[.int .i64 (sg:Int),.int .i64 ho,.int .i64 rf,.int .i64 rt,.int .i64 wa4,.int .i64 se,.int .i64 sf,.int .i64 st,.string sl]] W fun e w'=>e=.returned (.string C)∧Below W.heap.size W w'))
  (HCO:Hid (bd=decide (pickI x2 2=1)→collS [(⟨#[1]⟩:ByteArray)++skey++leafS C] [(⟨#[1]⟩:ByteArray)++keyW (sg:Int)++leafS C]=true))
  (HKP:Hid (∀(asked:Int) (W:World) (vk:Value) (c2:Int) (c3 c4:ByteArray) (ia:Option Addr) (ic:Nat),SS W vk (keysN 10)→PtAt W (.slice ia 1 ic) (caseB cn ca text)→Env W→0 < W.heap.size→Calls Tryz.prog 53 #[vk,.agg #[.int .i64 cn,.int .i64 ch,.int .i64 (ct:Int),.int .i64 ca,.int .i64 asked],.agg #[.int .i64 (ct:Int),.int .i64 c2,.string c3,.string c4,.slice ia 1 ic]] W fun e w'=>e=.returned (.bool bd)∧Below W.heap.size W w')) {u0 u1 u3 u4 u9 u10 u11 u12 u14 u15 u16 u17 u18 u19 u22 u23 u28 u29 u30 u31 u32 u33 u34 u35 u36 u37 u38 u39 u40 u41 u42 u43 u44 u45 u46 u47 u48 u49 u50 u51 u52 u53 u54 u55 u56 u57 u58 u59 u60 u61 u62 u63 u64 u65 u66 u67 u68 u69 u70 u71 u72 u73 u74 u75 u76 u77 u78 u79 u80 u81 u82 u83 u84 u85 u86 u87 u88 u89 u90 u91 u92 u93 u94 u95 u96 u97 u98 u99 u100 u101 u102 u103 u104 u105 u106 u107 u108 u109 u110 u111 u112 u113 u114 u115 u116 u117 u118 u119 u120 u121 u122 u123 u124 u125 u126 u127 u128 u129 u130 u131 u132 u133 u134 u135 u136 u137 u138 u139 u140 u141 u142 u143 u144 u145 u146 u147 u148 u149 u150 u151 u152 u153 u154 u155 u156 u157 u158 u159 u160 u161 u162 u163 u164 u165 u166 u167 u168 u169 u170 u171 u172 u173 u174 u175 u176 u177 u178 u179 u180 u181 u182 u183 u184 u185 u186 u187 u188 u189 u190 u191 u192 u193 u194 u195 u196 u197 u198 u199 u200 u201 u202 u203 u204 u205 u206 u207 u208 u209 u210 u211 u212 u213 u214 u215 u216 u217 u218 u219 u220 u221 u222 u223 u224 u225 u226 u227 u228 u229 u230 u231 u232 u233 u234 u235 u236 u237 u238 u239 u240 u241 u242 u243 u244 u245 u246 u247 u248 u249 u250 u251 u252 u253 u254 u255 u256 u257 u258 u259 u260 u261 u262 u263 u264 u265 u266 u267 u268 u269 u270 u271 u272 u273 u274 u275 u276 u277 u278 u279 u280 u281 u282 u283 u284 u285 u286 u287 u288 u289 u290 u291 u292 u293 u294 u295 u296 u297 u298 u299 u300 u301 u302 u303 u304 u305 u306 u307 u308 u309 u310 u311 u312 u313 u314 u315 u316 u317 u318 u319 u320 u321 u322 u323 u324 u325 u326 u327 u328 u329 u330 u331 u332 u333 u334 u335:Value} :
  ∃ c:Code,(∃ a0 a1 a2 a3 a4 a5 a6:Code,Tryz.f3.body=some (a0.seq (a1.seq (a2.seq (a3.seq (a4.seq (a5.seq (a6.seq (c)))))))))∧c.wp Tryz.prog (bodyPost Tryz.prog Tryz.f3 fun e w'=>e=.returned (.bool true)∧Below w.heap.size w w') { tmps:=#[u0,u1,.int .i64 x2,u3,u4,.int .i64 x5,.int .i64 x6,.int .i64 x7,.int .i64 x8,u9,u10,u11,u12,.pointer (some ⟨xb,0,none⟩),u14,u15,u16,u17,u18,u19,.pointer (some ⟨wb,0,none⟩),.string skey,u22,u23,.string text,.int .i64 0,.pointer (some ⟨pb,0,none⟩),.int .i64 0,u28,u29,u30,u31,u32,u33,u34,u35,u36,u37,u38,u39,u40,u41,u42,u43,u44,u45,u46,u47,u48,u49,u50,u51,u52,u53,u54,u55,u56,u57,u58,u59,u60,u61,u62,u63,u64,u65,u66,u67,u68,u69,u70,u71,u72,u73,u74,u75,u76,u77,u78,u79,u80,u81,u82,u83,u84,u85,u86,u87,u88,u89,u90,u91,u92,u93,u94,u95,u96,u97,u98,u99,u100,u101,u102,u103,u104,u105,u106,u107,u108,u109,u110,u111,u112,u113,u114,u115,u116,u117,u118,u119,u120,u121,u122,u123,u124,u125,u126,u127,u128,u129,u130,u131,u132,u133,u134,u135,u136,u137,u138,u139,u140,u141,u142,u143,u144,u145,u146,u147,u148,u149,u150,u151,u152,u153,u154,u155,u156,u157,u158,u159,u160,u161,u162,u163,u164,u165,u166,u167,u168,u169,u170,u171,u172,u173,u174,u175,u176,u177,u178,u179,u180,u181,u182,u183,u184,u185,u186,u187,u188,u189,u190,u191,u192,u193,u194,u195,u196,u197,u198,u199,u200,u201,u202,u203,u204,u205,u206,u207,u208,u209,u210,u211,u212,u213,u214,u215,u216,u217,u218,u219,u220,u221,u222,u223,u224,u225,u226,u227,u228,u229,u230,u231,u232,u233,u234,u235,u236,u237,u238,u239,u240,u241,u242,u243,u244,u245,u246,u247,u248,u249,u250,u251,u252,u253,u254,u255,u256,u257,u258,u259,u260,u261,u262,u263,u264,u265,u266,u267,u268,u269,u270,u271,u272,u273,u274,u275,u276,u277,u278,u279,u280,u281,u282,u283,u284,u285,u286,u287,u288,u289,u290,u291,u292,u293,u294,u295,u296,u297,u298,u299,u300,u301,u302,u303,u304,u305,u306,u307,u308,u309,u310,u311,u312,u313,u314,u315,u316,u317,u318,u319,u320,u321,u322,u323,u324,u325,u326,u327,u328,u329,u330,u331,u332,u333,u334,u335],defers:=[] } wo:=by
 refine⟨_,⟨_,_,_,_,_,_,_,rfl⟩,?_⟩
 go_upto_region 13 with fail
 obtain⟨pv,hpv⟩:∃ pv,pv=pickI x2 2:=⟨_,rfl⟩
 have HPK:=zh (fun W=>pickT_any x2 2 W i2 (by omega) (by omega))
 rw[← hpv]at HPK HCO
 clear hpv
 have HPC:=zh (fun W (hW:Below wo.heap.size wo W)=>cell_of_row W _ 5 _ _ _ (kept_block HP.out hW))
 obtain⟨eb,heb⟩:∃ eb,eb=(bd == decide (pv=1)):=⟨_,rfl⟩
 have HEB:=zh heb
 clear heb
 go_cut [107]from 102 to 107 (fun t wx=>t=.bool eb∧Hid (Below wo.heap.size wo wx))
 case first =>
  by_cases hp:pv=1
  ·subst hp
   cases bd with
   | true =>
    obtain rfl:eb=true:=HEB.out
    refine wp_region_noPanic ?_
    refine wp_region_lexB [.q 0,.q 1,.q 2,.b 3,.q 4,.q 5] (by kernel_rfl) (by kernel_rfl) (fun _ _ _ _ h=>h) ?_
    iterate 3(refine wpFl_qL (v:=?_) rfl (Or.inl ⟨by rfl,?_⟩) ?_;rotate_left;(focus(intro w' hSw;have b5:=HPC.out w' hSw;go_simp;(try with_reducible rfl);done));simp only[Act.put,zzA,zzB,zzC])
    refine wpFl_bL rfl (fun wa1 hna1 hsa1 K hK=>?_)
    go_simp
    go_at_call 6
    (with_reducible refine(HPK.out _).mono ?_)
    rintro e w' ⟨rfl,hw'⟩
    replace hw':=hw'.symm
    subst hw'
    refine hK.out _ _ hsa1 (Keeps.below br0) ?_
    have HBW1:=zh hsa1
    clear hK K hna1 hsa1
    iterate 2(refine wpFl_qL (v:=?_) rfl (Or.inl ⟨by rfl,?_⟩) ?_;rotate_left;(focus(intro w' hSw;go_simp;(try with_reducible rfl);done));simp only[Act.put,zzA,zzB,zzC])
    refine wpFl_nil ?_
    refine NoPanic.normal ?_
    go_wp2
    go_meet
    case rel=>exact⟨by rfl,HBW1⟩
   | false =>
    obtain rfl:eb=false:=HEB.out
    refine wp_region_noPanic ?_
    refine wp_region_lexB [.q 0,.q 1,.q 2,.b 3,.q 4,.q 5] (by kernel_rfl) (by kernel_rfl) (fun _ _ _ _ h=>h) ?_
    iterate 3(refine wpFl_qL (v:=?_) rfl (Or.inl ⟨by rfl,?_⟩) ?_;rotate_left;(focus(intro w' hSw;have b5:=HPC.out w' hSw;go_simp;(try with_reducible rfl);done));simp only[Act.put,zzA,zzB,zzC])
    refine wpFl_bL rfl (fun wa1 hna1 hsa1 K hK=>?_)
    go_simp
    go_at_call 6
    (with_reducible refine(HPK.out _).mono ?_)
    rintro e w' ⟨rfl,hw'⟩
    replace hw':=hw'.symm
    subst hw'
    refine hK.out _ _ hsa1 (Keeps.below br0) ?_
    have HBW1:=zh hsa1
    clear hK K hna1 hsa1
    iterate 2(refine wpFl_qL (v:=?_) rfl (Or.inl ⟨by rfl,?_⟩) ?_;rotate_left;(focus(intro w' hSw;go_simp;(try with_reducible rfl);done));simp only[Act.put,zzA,zzB,zzC])
    refine wpFl_nil ?_
    refine NoPanic.normal ?_
    go_wp2
    go_meet
    case rel=>exact⟨by rfl,HBW1⟩
  ·have hpb:(pv == 1)=false:=by simp[hp]
   have hpd:decide (pv=1)=false:=decide_eq_false hp
   cases bd with
   | true =>
    obtain rfl:eb=false:=by rw[HEB.out,hpd];rfl
    refine wp_region_noPanic ?_
    refine wp_region_lexB [.q 0,.q 1,.q 2,.b 3,.q 4,.q 5] (by kernel_rfl) (by kernel_rfl) (fun _ _ _ _ h=>h) ?_
    iterate 3(refine wpFl_qL (v:=?_) rfl (Or.inl ⟨by rfl,?_⟩) ?_;rotate_left;(focus(intro w' hSw;have b5:=HPC.out w' hSw;go_simp;(try with_reducible rfl);done));simp only[Act.put,zzA,zzB,zzC])
    refine wpFl_bL rfl (fun wa1 hna1 hsa1 K hK=>?_)
    go_simp
    go_at_call 6
    (with_reducible refine(HPK.out _).mono ?_)
    rintro e w' ⟨rfl,hw'⟩
    replace hw':=hw'.symm
    subst hw'
    refine hK.out _ _ hsa1 (Keeps.below br0) ?_
    have HBW1:=zh hsa1
    clear hK K hna1 hsa1
    iterate 2(refine wpFl_qL (v:=?_) rfl (Or.inl ⟨by rfl,?_⟩) ?_;rotate_left;(focus(intro w' hSw;go_simp;(try with_reducible rfl);done));simp only[Act.put,zzA,zzB,zzC])
    refine wpFl_nil ?_
    refine NoPanic.normal ?_
    go_wp2
    go_meet
    case rel=>exact⟨by rfl,HBW1⟩
   | false =>
    obtain rfl:eb=true:=by rw[HEB.out,hpd];rfl
    refine wp_region_noPanic ?_
    refine wp_region_lexB [.q 0,.q 1,.q 2,.b 3,.q 4,.q 5] (by kernel_rfl) (by kernel_rfl) (fun _ _ _ _ h=>h) ?_
    iterate 3(refine wpFl_qL (v:=?_) rfl (Or.inl ⟨by rfl,?_⟩) ?_;rotate_left;(focus(intro w' hSw;have b5:=HPC.out w' hSw;go_simp;(try with_reducible rfl);done));simp only[Act.put,zzA,zzB,zzC])
    refine wpFl_bL rfl (fun wa1 hna1 hsa1 K hK=>?_)
    go_simp
    go_at_call 6
    (with_reducible refine(HPK.out _).mono ?_)
    rintro e w' ⟨rfl,hw'⟩
    replace hw':=hw'.symm
    subst hw'
    refine hK.out _ _ hsa1 (Keeps.below br0) ?_
    have HBW1:=zh hsa1
    clear hK K hna1 hsa1
    iterate 2(refine wpFl_qL (v:=?_) rfl (Or.inl ⟨by rfl,?_⟩) ?_;rotate_left;(focus(intro w' hSw;go_simp;(try with_reducible rfl);done));simp only[Act.put,zzA,zzB,zzC])
    refine wpFl_nil ?_
    refine NoPanic.normal ?_
    go_wp2
    go_meet
    case rel=>exact⟨by rfl,HBW1⟩
 case rest =>
 obtain⟨ht107,HBc⟩:=hcut
 subst ht107
 have HB1:=zh (q_next HBW.out HBc.out)
 have HE1:=zh (And.intro (HEO.out.1.below HBc.out HEO.out.2) (Nat.lt_of_lt_of_le HEO.out.2 HBc.out.size))
 have HX1:=zh (kept_block HX.out HBc.out)
 have HW1:=zh (kept_block HW.out HBc.out)
 have HP1:=zh (kept_block HP.out HBc.out)
 clear HX HW HP HEO HBW HBc HPC HPK
 cases eb with
 | true =>
  have hcol:=HCO.out (by have h:=HEB.out;revert h;cases bd <;> cases decide (pv=1) <;> simp)
  have HLF:=zh (fun W=>r2leaf_any C W (by have:=hC.out;omega))
  have HK15:=zh (fun W=>key15_any sg (by omega) W)
  have hls:(leafS C).size=32:=rfl
  have hks:=keyW_size (sg:Int)
  have hsk1:=hsk.out
  generalize leafS C=lf at *
  generalize keyW (sg:Int)=kw at *
  have HCD:Hid (∀ W b1 b2,W.heap[b1]?=some (.cells #[.string ((⟨#[1]⟩:ByteArray)++skey++lf)] 9 (0,0))→W.heap[b2]?=some (.cells #[.string ((⟨#[1]⟩:ByteArray)++kw++lf)] 9 (0,0))→Calls Tryz.prog 13 #[.slice (some ⟨b1,0,none⟩) 1 1,.slice (some ⟨b2,0,none⟩) 1 1] W fun e w'=>e=.returned (.bool true)∧Below W.heap.size W w'):=zh (fun W b1 b2 g1 g2=>by
   have hz:∀ k:ByteArray,k.size=32→((⟨#[1]⟩:ByteArray)++k++lf).size≤1000000:=fun k hk=>by
    have h1:=mark_size 1 k
    rw[ByteArray.size_append]
    omega
   have h:=collided_any (xs:=[(⟨#[1]⟩:ByteArray)++skey++lf]) (ys:=[(⟨#[1]⟩:ByteArray)++kw++lf]) (slice_litT (cs:=scells [(⟨#[1]⟩:ByteArray)++skey++lf]) g1 (scells_one _) rfl (by simp[scells])) (slice_litT (cs:=scells [(⟨#[1]⟩:ByteArray)++kw++lf]) g2 (scells_one _) rfl (by simp[scells])) (by simp) (by simp) (fun x hx=>by rw[List.mem_singleton.1 hx];exact hz _ hsk1) (fun x hx=>by rw[List.mem_singleton.1 hx];exact hz _ hks)
   rw[hcol]at h
   exact h)
  have z1:¬ 9223372036854775807 < 1+skey.size:=by omega
  have z2:¬ 9223372036854775807 < 1+skey.size+lf.size:=by omega
  have z3:¬ 9223372036854775807 < 1+kw.size:=by omega
  have z4:¬ 9223372036854775807 < 1+kw.size+lf.size:=by omega
  clear hls hks hsk1 hcol
  obtain⟨c0,c1,c2,c3,c4,c5,c6,c7,c8⟩:=nine_cells HW1.out
  go_wp2_with (first | (go_at_call 12;(with_reducible refine(HWC.out _).mono ?_);clear c0 c1 c2 c3 c4 c5 c6 c7 c8;rintro e va ⟨rfl,hba⟩;have HBa:=zh hba;clear hba) | (go_at_call 11;(with_reducible refine(HLF.out _).mono ?_);rintro e vb ⟨rfl,hbb⟩;have HBb:=zh (q_next HBa.out hbb);clear hbb;have c0:=(nine_cells (kept_block HW1.out HBb.out)).1;have hlt:wb < vb.heap.size:=(Array.getElem?_eq_some_iff.1 (kept_block HW1.out HBb.out)).1) | (go_at_call 5;(with_reducible refine(HK15.out _).mono ?_);clear c0 hlt;rintro e vd ⟨rfl,hbd⟩;have HBd:=zh hbd;clear hbd) | (go_at_call 13;refine(HCD.out _ _ _ (kept_block (kept_block (heap_alloc_new vb _) HBd.out) (br0.alloc (Nat.le_refl _) _)) (heap_alloc_new vd _)).mono ?_;rintro e vz ⟨rfl,hbz⟩;have HBz:=zh hbz;clear hbz))
  go_ret
  exact⟨rfl,q_next HB1.out (q_next HBb.out (q_next (br0.alloc (Nat.le_refl _) _) (q_next HBd.out (q_next (br0.alloc (Nat.le_refl _) _) HBz.out))))⟩
 | false =>
  clear HCO HWC HW1 HEB hsk hC
  have HMR:=zh (fun W=>madeRules_any y0 y1 y2 y3 iy.1 iy.2.1 iy.2.2.1 iy.2.2.2 W)
  have r0:=ruleI_range y0
  have r1:=ruleI_range y1
  have r3:=ruleI_range y3
  have HCL:=zh (fun o ho=>made_clok (x0:=y0) (x1:=y1) (x2:=y2) (x3:=y3) hcn hcf (show 0≤(ct:Int)∧(ct:Int) < 8 by omega) hne hch hca o ho)
  generalize ruleI y0=a0 at *
  generalize ruleI y1=a1 at *
  generalize ruleI y2=a2 at *
  generalize ruleI y3=a3 at *
  have g0:=cell_of_row wc _ 0 _ _ _ HX1.out
  have g1:=cell_of_row wc _ 1 _ _ _ HX1.out
  have g2:=cell_of_row wc _ 2 _ _ _ HX1.out
  have g3:=cell_of_row wc _ 3 _ _ _ HX1.out
  (try simp only at g0 g1 g2 g3)
  go_upto_region 17 with(go_at_call 14;(with_reducible refine(HMR.out _).mono ?_);clear g0 g1 g2 g3;rintro e v1 ⟨rfl,hb1⟩;have HBv1:=zh hb1;clear hb1)
  clear HX1 HMR iy
  obtain⟨ub,hub⟩:∃ ub,ub=v1.heap.size:=⟨_,rfl⟩
  have HBxv2:=zh ((Below.refl v1.heap.size v1).alloc (Nat.le_refl _) (.cells #[.int .i64 a0,.int .i64 a1,.int .i64 a2,.int .i64 a3] 53))
  have HXub:=zh (heap_alloc_new v1 (.cells #[.int .i64 a0,.int .i64 a1,.int .i64 a2,.int .i64 a3] 53))
  rw[← hub]at HXub ⊢
  clear hub
  generalize v1.alloc (.cells #[.int .i64 a0,.int .i64 a1,.int .i64 a2,.int .i64 a3] 53)=v2 at *
  have HBa2:=zh (q_next HBv1.out HBxv2.out)
  have HP2:=zh (kept_block HP1.out HBa2.out)
  clear HP1 HBv1 HBxv2
  obtain⟨p0,p1,p2,p3,p4,p5⟩:=six_cells HP2.out
  have u0:=cell_of_row v2 _ 0 _ _ _ HXub.out
  have u1:=cell_of_row v2 _ 1 _ _ _ HXub.out
  have u2:=cell_of_row v2 _ 2 _ _ _ HXub.out
  have u3:=cell_of_row v2 _ 3 _ _ _ HXub.out
  (try simp only at u0 u1 u2 u3)
  have HOF:=zh (fun W=>of_any a0 a1 a2 a3 cn cf (ct:Int) ch ca bd none 0 0 W)
  go_upto_region 18 with(go_at_call 15;(with_reducible refine(HOF.out _).mono ?_);clear p0 p1 p2 p3 p4 p5 u0 u1 u2 u3;rintro e v3 ⟨bl,bp,rfl,hof⟩;have HO3:=zh hof;clear hof)
  clear HOF
  obtain⟨hb,hhb⟩:∃ hb,hb=v3.heap.size:=⟨_,rfl⟩
  have HBxv4:=zh ((Below.refl v3.heap.size v3).alloc (Nat.le_refl _) (.cells #[.int .i64 cn,.int .i64 cf,.int .i64 a0,.int .i64 a1,.int .i64 a2,.int .i64 a3,.slice (some ⟨bl,0,none⟩) 1 1,.slice (some ⟨bp,0,none⟩) 1 1] 58))
  have HXhb:=zh (heap_alloc_new v3 (.cells #[.int .i64 cn,.int .i64 cf,.int .i64 a0,.int .i64 a1,.int .i64 a2,.int .i64 a3,.slice (some ⟨bl,0,none⟩) 1 1,.slice (some ⟨bp,0,none⟩) 1 1] 58))
  rw[← hhb]at HXhb ⊢
  clear hhb
  generalize v3.alloc (.cells #[.int .i64 cn,.int .i64 cf,.int .i64 a0,.int .i64 a1,.int .i64 a2,.int .i64 a3,.slice (some ⟨bl,0,none⟩) 1 1,.slice (some ⟨bp,0,none⟩) 1 1] 58)=v4 at *
  have HB24:=zh (q_next HO3.out.hb HBxv4.out)
  have HB4:=zh (q_next HBa2.out HB24.out)
  have HP4:=zh (kept_block HP2.out HB24.out)
  have HU4:=zh (kept_block HXub.out HB24.out)
  have HL4:=zh (kept_block HO3.out.hl HBxv4.out)
  have HO4:=zh (kept_block HO3.out.hp HBxv4.out)
  clear HB24 HBa2 HP2 HXub HO3 HBxv4
  obtain⟨p0,p1,p2,p3,p4,p5⟩:=six_cells HP4.out
  have u0:=cell_of_row v4 _ 0 _ _ _ HU4.out
  have u1:=cell_of_row v4 _ 1 _ _ _ HU4.out
  have u2:=cell_of_row v4 _ 2 _ _ _ HU4.out
  have u3:=cell_of_row v4 _ 3 _ _ _ HU4.out
  (try simp only at u0 u1 u2 u3)
  obtain⟨ef,hef⟩:∃ ef,ef=ca+a0+a1:=⟨_,rfl⟩
  have e1:IntKind.i64.wrap (ca+a0)=ca+a0:=IntWalk.i64_in _ (by omega)
  have e2:IntKind.i64.wrap (ca+a0+a1)=ef:=by rw[hef];exact IntWalk.i64_in _ (by omega)
  have e3:IntKind.i64.wrap (ef - 1)=ef - 1:=IntWalk.i64_in _ (by omega)
  have hef1:1≤ef∧ef≤200000:=by omega
  have hcc0:ca≤ef:=by omega
  have HEF:=zh hef
  clear hef
  go_upto_region 19 with fail
  clear p0 p1 p2 p3 p4 p5 u0 u1 u2 u3 e1 e2
  have HAT:Hid (∀(t:Int) (c:Int),0≤t→t≤20000000→c=(if t < ef then cf else(ct:Int))→∀ W,Below v4.heap.size v4 W→Calls Tryz.prog 16 #[.agg #[.int .i64 cn,.int .i64 cf,.int .i64 a0,.int .i64 a1,.int .i64 a2,.int .i64 a3,.slice (some ⟨bl,0,none⟩) 1 1,.slice (some ⟨bp,0,none⟩) 1 1],.int .i64 t] W fun e w'=>∃ v,e=.returned (.tuple #[.int .i64 c,v,.int .i64 0])∧Below W.heap.size W w'):=zh (fun t c h1 h2 h3 W hW=>by
   have h:=chainAt_any (HCL.out none (fun z hz=>by cases hz)) bd (kept_block HO4.out hW) rfl (kept_block HL4.out hW) t h1 h2
   rw[carT_none,← HEF.out,← h3]at h
   exact h)
  have HA1:=zh (HAT.out ef (ct:Int) (by omega) (by omega) (by rw[if_neg (by omega)]))
  have HA2:=zh (HAT.out (ef - 1) cf (by omega) (by omega) (by rw[if_pos (by omega)]))
  clear HAT
  obtain⟨b0,b1,b2,b3,b4,b5,b6,b7⟩:=eight_cells HXhb.out
  go_upto_region 20 with(go_at_call 16;(with_reducible refine(HA1.out _ br0).mono ?_);clear b0 b1 b2 b3 b4 b5 b6 b7;rintro e v5 ⟨vv5,rfl,hbv5⟩;have HBv5:=zh hbv5;clear hbv5)
  obtain⟨b0,b1,b2,b3,b4,b5,b6,b7⟩:=eight_cells (kept_block HXhb.out HBv5.out)
  go_upto_region 21 with(go_at_call 16;(with_reducible refine(HA2.out _ HBv5.out).mono ?_);clear b0 b1 b2 b3 b4 b5 b6 b7;rintro e v6 ⟨vv6,rfl,hbv6⟩;have HBv6:=zh hbv6;clear hbv6)
  have HB46:=zh (q_next HBv5.out HBv6.out)
  clear HBv5 HBv6 HA1 HA2 e3
  obtain⟨p0,p1,p2,p3,p4,p5⟩:=six_cells (kept_block HP4.out HB46.out)
  go_upto_region 23 with fail
  have HK18:=zh (fun W=>key18_any ct (by omega) W)
  go_upto_region 24 with(go_at_call 17;(with_reducible refine(HK18.out _).mono ?_);clear p0 p1 p2 p3 p4 p5;rintro e v7 ⟨rfl,hb7⟩;have HB7:=zh (q_next HB46.out hb7);clear hb7)
  clear HK18 HB46
  obtain⟨k7,hk7⟩:∃ k,k=pickI x7 20:=⟨_,rfl⟩
  have hk70:=pickI_range x7 (show(0:Int) < 20 by omega)
  have HPK7:=zh (fun W=>pickT_any x7 20 W i7 (by omega) (by omega))
  rw[← hk7]at HPK7 hk70
  obtain⟨lim,hlim⟩:∃ lim,lim=1+k7:=⟨_,rfl⟩
  have e4:IntKind.i64.wrap (1+k7)=lim:=by rw[hlim];exact IntWalk.i64_in _ (by omega)
  have h4:1≤lim∧lim≤20:=by omega
  clear hlim hk7
  go_upto_region 25 with(go_at_call 6;(with_reducible refine(HPK7.out _).mono ?_);rintro e w' ⟨rfl,hw'⟩;replace hw':=hw'.symm;subst hw')
  clear HPK7 e4 hk70
  have HPC:=zh (fun W (hW:Below v7.heap.size v7 W)=>six_cells (kept_block HP4.out (q_next HB7.out hW)))
  obtain⟨k5,hk5⟩:∃ k,k=pickI x5 30:=⟨_,rfl⟩
  have hk50:=pickI_range x5 (show(0:Int) < 30 by omega)
  have HPK5:=zh (fun W=>pickT_any x5 30 W i5 (by omega) (by omega))
  rw[← hk5]at HPK5 hk50
  obtain⟨asked,hasked⟩:∃ a,a=ef+k5:=⟨_,rfl⟩
  have e5:IntKind.i64.wrap (ef+k5)=asked:=by rw[hasked];exact IntWalk.i64_in _ (by omega)
  have h1:ef≤asked:=by omega
  have h2:asked≤900000:=by omega
  have hcc:ca≤asked:=by omega
  clear hasked hk5
  refine wp_region_noPanic ?_
  refine wp_region_lexB [.q 0,.q 1,.q 2,.q 3,.q 4,.q 5,.q 6,.q 7,.q 8,.q 9,.an 13,.b 10,.q 11,.q 12,.co 13,.b 14] (by kernel_rfl) (by kernel_rfl) (fun _ _ _ _ h=>h) ?_
  iterate 10(refine wpFl_qL (v:=?_) rfl (Or.inl ⟨by rfl,?_⟩) ?_;rotate_left;(focus(intro w' hSw;obtain⟨p0,p1,p2,p3,p4,p5⟩:=HPC.out w' hSw;go_simp;(try with_reducible rfl);done));simp only[Act.put,zzA,zzB,zzC])
  refine wpFl_anL rfl (.cells #[.int .i64 0,.int .i64 0,.int .i64 0,.int .i64 0,.int .i64 0] 64 (0,0)) (fun n=>.pointer (some ⟨n,0,none⟩)) ⟨by rfl,fun w'=>?_⟩ ?_
  focus(go_simp;done)
  refine wpFl_bL rfl (fun wa5 hna5 hsa5 K hK=>?_)
  go_simp
  go_at_call 6
  (with_reducible refine(HPK5.out _).mono ?_)
  rintro e w' ⟨rfl,hw'⟩
  replace hw':=hw'.symm
  subst hw'
  refine hK.out _ _ hsa5 (Keeps.below br0) ?_
  clear hK K hna5 hsa5
  iterate 2(refine wpFl_qL (v:=?_) rfl (Or.inl ⟨by rfl,?_⟩) ?_;rotate_left;(focus(intro w' hSw;go_simp;(try with_reducible rfl);done));simp only[Act.put,zzA,zzB,zzC])
  refine wpFl_coL rfl (.cells #[.int .i64 0,.int .i64 0,.int .i64 0,.int .i64 0,.int .i64 0] 64 (0,0)) (fun n=>.pointer (some ⟨n,0,none⟩)) (by rfl) (N':=[]) (by rfl) (fun qb wq hn_wq hs_wq hb_qb hz_qb=>?_)
  simp only[Act.put,zzA,zzB,zzC]
  refine wpFl_bL rfl (fun wf hnf hsf K hK=>?_)
  have HZ:=zh (kept_block hz_qb hnf)
  obtain⟨z0,z1,z2,z3,z4⟩:=five_cells HZ.out
  have zf:=thaw HZ.out
  go_simp
  have HBr:=zh (five_below hsf hb_qb (.int .i64 cn) (.int .i64 ch) (.int .i64 (ct:Int)) (.int .i64 ca) (.int .i64 asked))
  have HVr:=zh (five_heap HZ.out (.int .i64 cn) (.int .i64 ch) (.int .i64 (ct:Int)) (.int .i64 ca) (.int .i64 asked))
  refine hK.out _ _ HBr.out Keeps.nil ?_
  clear hK K z0 z1 z2 z3 z4 zf HZ hnf hsf hz_qb hn_wq hs_wq hb_qb
  generalize ((((wf.setCell ⟨qb,0,none⟩ (.int .i64 cn)).setCell ⟨qb,1,none⟩ (.int .i64 ch)).setCell ⟨qb,2,none⟩ (.int .i64 (ct:Int))).setCell ⟨qb,3,none⟩ (.int .i64 ca)).setCell ⟨qb,4,none⟩ (.int .i64 asked)=v8 at *
  refine wpFl_nil ?_
  refine NoPanic.normal ?_
  refine wp_enterZ (by assumption) ?_
  have HB48:=zh (q_next HB7.out HBr.out)
  have HB18:=zh (q_next HB4.out HB48.out)
  have HB9:=zh (q_next HB1.out HB18.out)
  have HE9:=zh (And.intro (HE1.out.1.below HB18.out HE1.out.2) (Nat.lt_of_lt_of_le HE1.out.2 HB18.out.size))
  have HP9:=zh (kept_block HP4.out HB48.out)
  have HU9:=zh (kept_block HU4.out HB48.out)
  have HH9:=zh (kept_block HXhb.out HB48.out)
  have HL9:=zh (kept_block HL4.out HB48.out)
  have HO9:=zh (kept_block HO4.out HB48.out)
  have HQ9:=zh HVr.out
  have HKP9:=zh (HKP.out asked)
  have HOWN:=zh (keyS_size (ct:Int))
  have h3:1≤a3∧a3≤1000000:=by omega
  have he0:0≤ef:=by omega
  have hch6:0≤ch∧ch≤63:=by omega
  refine wp_of_eqZ (top_state HB9 HE9 pb ub hb bl bp qb a0 a1 a2 a3 cn cf (ct:Int) ch ca ef x6 x8 lim asked (keyS (ct:Int)) text bd HEF hca.1 h3 he0 i6 i8 h1 h2 h4 HOWN HCS htx hch6 hcc HCL HP9 HU9 HH9 HL9 HO9 HQ9 HKP9).choose_spec.2 ?_
  exact tailQZ2 (top_state HB9 HE9 pb ub hb bl bp qb a0 a1 a2 a3 cn cf (ct:Int) ch ca ef x6 x8 lim asked (keyS (ct:Int)) text bd HEF hca.1 h3 he0 i6 i8 h1 h2 h4 HOWN HCS htx hch6 hcc HCL HP9 HU9 HH9 HL9 HO9 HQ9 HKP9).choose_spec.1
end Go.Proofs.YtjjiikeldpjafaaGreatDoor
