/- TopReclaims: wish.Why. The conditions: the chain is right; the seal decides. -/
import Derived.Test.YtjjiikeldpjafaaGreatDoorTT17
namespace Go.Proofs.YtjjiikeldpjafaaGreatDoor
open Go.RowKit Go.BigFrame Go.Shelf
attribute [local go_sem] Oper.semAt_some
theorem results_two_cells {fn:Func}{p q:Tmp}{w:World}(h:fn.results=#[.cell p 3,.cell q 3])(tmps:Array Value)(g k:Nat)(x y:Value)(hp:tmps.getD p undef=.pointer (some ⟨g,0,none⟩))(hq:tmps.getD q undef=.pointer (some ⟨k,0,none⟩))
  (hg:w.heap[g]?=some (.cells #[x] 3 (0,0))) (hk:w.heap[k]?=some (.cells #[y] 3 (0,0))):(results fn tmps).run Tryz.prog w=.ok (.tuple #[x,y]) w:=by
 have c1:=cell_of_row w g 0 _ _ _ hg
 have c2:=cell_of_row w k 0 _ _ _ hk
 have h1:(isAgg 3).run Tryz.prog w=.ok false w:=by kernel_rfl
 have l1:(loadVar 3 ⟨g,0,none⟩).run Tryz.prog w=.ok x w:=by
  unfold loadVar
  rw[Sem.run_bind,h1]
  simp[Result.andThen,load,Sem.run,c1]
 have l2:(loadVar 3 ⟨k,0,none⟩).run Tryz.prog w=.ok y w:=by
  unfold loadVar
  rw[Sem.run_bind,h1]
  simp[Result.andThen,load,Sem.run,c2]
 simp only[results,h]
 have hp':tmps[p]?.getD undef=.pointer (some ⟨g,0,none⟩):=by simpa using hp
 have hq':tmps[q]?.getD undef=.pointer (some ⟨k,0,none⟩):=by simpa using hq
 simp[Sem.run_bind,Result.andThen,hp',hq',asAddr,l1,l2]
set_option maxHeartbeats 4000000 in
set_option maxRecDepth 100000 in
theorem why_any (x:WishP)(hx:formedW x=true)(nu t:Int)(hn1:x.rf≤nu)(hn2:nu≤x.rt - 1)(ht1:x.sf≤t)(ht2:t≤x.st - 1)(hrt:0≤x.rt∧x.rt≤100000000)(hst:0≤x.st∧x.st≤100000000){w:World}{vk v:Value}{l:List ProxP}(hk:SS w vk (keysN 10))(hv:PrS w v l)(hl:∀ p∈l,formedP p=true)(h4:l.length≤4)
  (hs:∀(k:Nat) p q,l[k]?=some p→l[k+1]?=some q→inP q.rf q.rt q.sf q.st p) (hw:∀ p,l[l.length - 1]?=some p→inP x.rf x.rt x.sf x.st p) (hpe:∀(k:Nat) p,l[k]?=some p→p.fr=whoAt x.ho l k) (hla:x.sg=whoAt x.ho l l.length)
  (he:Env w) (hg:0 < w.heap.size) (hfr:∀ p∈l,0≤p.fr∧p.fr < 10) (hsg:0≤x.sg∧x.sg < 10) (hse:∀ p∈l,p.sl=sealK (keyW p.fr) (bytesOf (putsN (proxI p)))) (bd:Bool) (hsx:bd=decide (x.sl=sealK (keyW x.sg) (bytesOf (putsN (wishI x))))) :
  Calls Tryz.prog 70 #[vk,wagg x,v,.int .i64 nu,.int .i64 t] w fun e w'=>e=.returned (.tuple #[.int .i64 (if bd then 0 else 6),.int .i64 (-1)])∧Below w.heap.size w w':=by
 have hmf:∀(fn:Fn) (first cap:Array Value) (w:World),(Instr.makeFunc fn first cap).run Tryz.prog w=.ok (.func fn first cap) w:=fun _ _ _ _=>rfl
 have HCF:=zh (fun W (hW:Below w.heap.size w W)=>keysBad_no (hk.below hW))
 have HIW:=zh (fun W=>isWish_yes x hx W)
 have HBP:=zh (fun W (hW:Below w.heap.size w W)=>badProxy_no hl (hv.below hW))
 have HSC:=zh (fun W (hW:Below w.heap.size w W)=>scope_no x (hv.below hW) h4 hs hw)
 obtain⟨m1,hm1⟩:∃ m1:Int,m1=-1:=⟨_,rfl⟩
 obtain⟨ka,kc,rfl,hk1,hk2,-⟩:=SS.opened hk
 have hkn:(keysN 10).length=10:=keysN_len 10
 rw[hkn]at hk hk1 ⊢
 have HFP:=zh hl
 have HSX:=zh hsx
 have HSE:=zh hse
 have HFR:=zh hfr
 have HS3:=zh (fun(W:World) (hW:Below w.heap.size w W) (b:Nat) (hb:W.heap[b]?=some (.cells #[.int .i64 x.sg,.int .i64 x.ho,.int .i64 x.rf,.int .i64 x.rt,.int .i64 x.ca,.int .i64 x.se,.int .i64 x.sf,.int .i64 x.st,.string x.sl] 31 (0,0)))=>sealWhy3_any (keyW x.sg) (by rw[keyW_size];omega) x hx (Env.below he hW hg) (Nat.lt_of_lt_of_le hg hW.size) b hb)
 have HK:=zh hk
 have HS2:=zh (fun(W:World) (hW:Below w.heap.size w W) (b:Nat) (p:ProxP) (hp:p∈l) (hb:W.heap[b]?=some (.cells #[.int .i64 p.fr,.int .i64 p.tu,.int .i64 p.rf,.int .i64 p.rt,.int .i64 p.sf,.int .i64 p.st,.string p.sl] 96 (0,0)))=>sealWhy2_any (keyW p.fr) (by rw[keyW_size];omega) p (hl p hp) (Env.below he hW hg) (Nat.lt_of_lt_of_le hg hW.size) b hb)
 obtain⟨a,c,rfl,hlc,hcm⟩:=hv.form
 have HV:=zh hv
 have HPE:=zh hpe
 have HLA:=zh hla
 have HM1:=zh hm1
 have HN4:(l.length:Int)≤4:=by omega
 have h0m:m1 < 0:=by omega
 rw[← hm1]at HBP HSC
 obtain⟨n,hn⟩:∃ n,n=l.length:=⟨_,rfl⟩
 rw[← hn]at HN4 hlc HV ⊢
 obtain⟨sg,ho,rf,rt,ca,se,sf,st,sl⟩:=x
 rw[hkn]at HCF
 rw[← hn]at HBP HSC HLA
 obtain⟨W1,hW1⟩:∃ W1,W1=w.alloc (.cells #[.int .i64 sg,.int .i64 ho,.int .i64 rf,.int .i64 rt,.int .i64 ca,.int .i64 se,.int .i64 sf,.int .i64 st,.string sl] 31):=⟨_,rfl⟩
 have HB1:Hid (Below w.heap.size w W1):=zh (by rw[hW1];exact br0.alloc (Nat.le_refl _) _)
 have HX1:Hid (W1.heap[w.heap.size]?=some (.cells #[.int .i64 sg,.int .i64 ho,.int .i64 rf,.int .i64 rt,.int .i64 ca,.int .i64 se,.int .i64 sf,.int .i64 st,.string sl] 31 (0,0))):=zh (by rw[hW1];exact heap_alloc_new w _)
 obtain⟨W2,hW2⟩:∃ W2,W2=W1.alloc (.cells #[.slice a n c] 32):=⟨_,rfl⟩
 have HB2:Hid (Below W1.heap.size W1 W2):=zh (by rw[hW2];exact br0.alloc (Nat.le_refl _) _)
 have HX2:Hid (W2.heap[W1.heap.size]?=some (.cells #[.slice a n c] 32 (0,0))):=zh (by rw[hW2];exact heap_alloc_new W1 _)
 obtain⟨W3,hW3⟩:∃ W3,W3=W2.alloc (.cells #[.int .i64 0] 3):=⟨_,rfl⟩
 have HB3:Hid (Below W2.heap.size W2 W3):=zh (by rw[hW3];exact br0.alloc (Nat.le_refl _) _)
 have HX3:Hid (W3.heap[W2.heap.size]?=some (.cells #[.int .i64 0] 3 (0,0))):=zh (by rw[hW3];exact heap_alloc_new W2 _)
 obtain⟨W4,hW4⟩:∃ W4,W4=W3.alloc (.cells #[.int .i64 0] 3):=⟨_,rfl⟩
 have HB4:Hid (Below W3.heap.size W3 W4):=zh (by rw[hW4];exact br0.alloc (Nat.le_refl _) _)
 have HX4:Hid (W4.heap[W3.heap.size]?=some (.cells #[.int .i64 0] 3 (0,0))):=zh (by rw[hW4];exact heap_alloc_new W3 _)
 have HW1:=zh hW1
 have HW2:=zh hW2
 have HW3:=zh hW3
 have HW4:=zh hW4
 have s1:W1.heap.size=w.heap.size+1:=by rw[hW1];simp
 have s2:W2.heap.size=w.heap.size+1+1:=by rw[hW2];simp[s1]
 have s3:W3.heap.size=w.heap.size+1+1+1:=by rw[hW3];simp[s2]
 have s4:W4.heap.size=w.heap.size+1+1+1+1:=by rw[hW4];simp[s3]
 have HBB:Hid (Below w.heap.size w W4):=zh (q_next (q_next (q_next HB1.out HB2.out) HB3.out) HB4.out)
 have HS:=zh s4
 have HC:=zh (fun W (hW:Below W4.heap.size W4 W)=>nine_cells (kept_block HX1.out (q_next (q_next (q_next HB2.out HB3.out) HB4.out) hW)))
 have HXB:Hid (∀ W,Below W4.heap.size W4 W→W.heap[w.heap.size]?=some (.cells #[.int .i64 sg,.int .i64 ho,.int .i64 rf,.int .i64 rt,.int .i64 ca,.int .i64 se,.int .i64 sf,.int .i64 st,.string sl] 31 (0,0))):=zh (fun W (hW:Below W4.heap.size W4 W)=>kept_block HX1.out (q_next (q_next (q_next HB2.out HB3.out) HB4.out) hW))
 have HD:Hid (∀ W,Below W4.heap.size W4 W→W.cell? ⟨W1.heap.size,0,none⟩=some (.slice a n c)):=zh (fun W (hW:Below W4.heap.size W4 W)=>cell_of_row W W1.heap.size 0 _ _ _ (kept_block HX2.out (q_next (q_next HB3.out HB4.out) hW)))
 have HR:Hid (Below W4.heap.size W4 W4):=zh br0
 clear hW1 hW2 hW3 hW4 hx hl hs hw hpe hla hk hv hm1 hsx hse hfr
 have HEG:=zh (And.intro he hg)
 clear he hg
 have HY3:=zh (kept_block HX3.out HB4.out)
 rw[s1]at HD
 rw[s2]at HY3
 rw[s3]at HX4
 clear s1 s2 s3 s4
 have HN:=zh hn
 clear hn
 unfold wagg at *
 simp only at HSX HS3 hsg HIW HSC HPE HLA hrt hst hn1 hn2 ht1 ht2 ⊢
 obtain⟨c0,c1,c2,c3,c4,c5,c6,c7,c8⟩:=HC.out W4 HR.out
 have d0:=HD.out W4 HR.out
 refine calls_of_callsIn (n:=8) Wide.wide (callsIn_of_wp_marks Tryz.func70 rfl trivial ?_)
 simp only[Tryz.ntmps70,List.size_toArray,List.length_cons,List.length_nil,Nat.reduceAdd,Nat.reduceSub,Array.replicate_succ,Array.replicate_zero,List.push_toArray,List.append_toArray,List.nil_append,List.cons_append]
 refine wpIn_wide.2 ?_
 go_upto_region 1 with fail
 rw[← HW1.out,← HW2.out,← HW3.out,← HW4.out]
 clear HW1 HW2 HW3 HW4 HB1 HB2 HB3 HB4 HX1 HX2 HX3
 have e1:IntKind.i64.wrap (st - 1)=st - 1:=IntWalk.i64_in _ (by omega)
 have e2:IntKind.i64.wrap (rt - 1)=rt - 1:=IntWalk.i64_in _ (by omega)
 go_wp2_with (first | (go_at_call 99;(with_reducible refine(HCF.out _ (q_next HBB.out HR.out)).mono ?_);rintro e w1 ⟨rfl,rfl⟩) | (go_at_call 22;(with_reducible refine(HIW.out _).mono ?_);clear c0 c1 c2 c3 c4 c5 c6 c7 c8 d0;rintro e w2 ⟨rfl,hbx⟩;replace HR:=zh (q_next HR.out hbx);clear hbx;obtain⟨c0,c1,c2,c3,c4,c5,c6,c7,c8⟩:=HC.out w2 HR.out;have d0:=HD.out w2 HR.out) | (go_at_call 65;(with_reducible refine(HBP.out _ (q_next HBB.out HR.out)).mono ?_);clear c0 c1 c2 c3 c4 c5 c6 c7 c8 d0;rintro e w3 ⟨rfl,hbx⟩;replace HR:=zh (q_next HR.out hbx);clear hbx;obtain⟨c0,c1,c2,c3,c4,c5,c6,c7,c8⟩:=HC.out w3 HR.out;have d0:=HD.out w3 HR.out) | (go_at_call 60;(with_reducible refine(withW_yes _ _ _ (by omega) (by omega) _).mono ?_);rintro e w4 ⟨rfl,hw'⟩;replace hw':=hw'.symm;subst hw') | (go_at_call 100;refine(persons_fn _ _ _ _ _).mono ?_;rintro e w5 ⟨rfl,hw'⟩;have HW5:=zh hw';clear hw'))
 have hb5:Below w3.heap.size w3 w5:=by rw[HW5.out];exact(br0.alloc (Nat.le_refl _) _).alloc (by simp) _
 have HB5:=zh (q_next HBB.out (q_next HR.out hb5))
 have hp1:w5.heap[w3.heap.size]?=some (.cells #[.int .i64 ho] 3 (0,0)):=by rw[HW5.out];exact(Below.heap_alloc _ _ _ (by simp)).trans (heap_alloc_new _ _)
 have hp2:w5.heap[w3.heap.size+1]?=some (.cells #[.slice a n c] 32 (0,0)):=by rw[HW5.out];have h:=heap_alloc_new (w3.alloc (.cells #[.int .i64 ho] 3)) (.cells #[.slice a n c] 32);simpa using h
 have HIT:=zh (persons_iter w w5 ho HV.out HB5.out _ _ hp1 hp2)
 replace HR:=zh (q_next HR.out hb5)
 clear hp1 hp2 hb5 c0 c1 c2 c3 c4 c5 c6 c7 c8 d0 HW5
 generalize w3.heap.size=b3 at *
 have hww:w.heap.size≤w5.heap.size:=HB5.out.size
 refine(wpIn_wide (n:=8)).1 ?_
 refine wpIn_rangeA (n:=8) Wide.wide rfl (gf:=144) (lb:=#[.pointer (some ⟨b3,0,none⟩),.pointer (some ⟨b3+1,0,none⟩)]) ?ev (fun args w=>?enter) HIT.out br0 (fun x=>rfl) (fun q e=>by cases e) (fun h h'=>h.trans h') (fun W l o o' h1 h2 h3 h4=>?kb)
  (fun pre W=>Below w5.heap.size w5 W) (fun _ _ _=>False) ?abide (fun _=>abide_false _ _) br0
  (fun a x a' W=>a'=⟨(((a.tmps.setIfInBounds 67 (.int .i64 x.1.1)).setIfInBounds 68 (.int .i64 x.1.2)).setIfInBounds 14 (.int .i64 x.1.1)).setIfInBounds 15 (.int .i64 x.1.2),[]⟩)
  (fun x a' W l o o' h1 h2 h3 h4=>h1) (fun A C h1 h2=>?kg) (fun l pre x W K hI hK=>?assign) (fun lr pre x a' W hI hlen hA=>?body) (fun Dm xs W hDm hS hI hDd=>?done) (fun Dm c pre W hD hS hI=>hI.elim)
 case kg=>exact⟨br0.grown h2 (by omega) (fun j e=>by cases e),fun k cs hk=>(h2.block k (ltA hk) (by simp)).trans hk⟩
 case assign =>
  unfold perE at *
  obtain⟨⟨i,who⟩,hx⟩:=x
  simp only[List.zip_toArray,List.zip_cons_cons,List.zip_nil_right,List.foldl_toArray',List.foldl_cons,List.foldl_nil,List.setIfInBounds_toArray,List.set_cons_succ,List.set_cons_zero]
  gi_wp2
  exact hK _ _ rfl (grown_refl _ _)
 case ev=>rfl
 case enter=>kernel_rfl
 case kb=>exact⟨br0.grown (grownBy_putObj' W l o') (by have:=(ltA h2);omega) (fun j e=>by cases e;omega),fun k cs hk=>(World.putObj_heap_other (fun e=>by subst e;rw[h2]at hk;cases hk;cases h3)).trans hk⟩
 case abide=>exact abide_below (by omega) (Nat.le_refl _) (fun q e=>by cases e)
 case body =>
  subst hA
  obtain⟨⟨i,who⟩,hx⟩:=x
  have hB:=q_next HB5.out hI
  have HI:=zh hI
  obtain⟨c0,c1,c2,c3,c4,c5,c6,c7,c8⟩:=HC.out W (q_next HR.out hI)
  have d0:=HD.out W (q_next HR.out hI)
  obtain⟨X,hX⟩:∃ X:PerP ho l,X=⟨(i,who),hx⟩:=⟨_,rfl⟩
  rw[← hX]
  have hX1:X.1=(i,who):=by rw[hX]
  rw[hX1]
  clear hX hX1 hI hlen
  simp only[List.setIfInBounds_toArray,List.set_cons_succ,List.set_cons_zero]
  rcases List.mem_append.1 hx with hm | hm
  ·obtain⟨k,hk,e⟩:=List.mem_map.1 hm
   have hk':=List.mem_range.1 hk
   rw[← HN.out]at hk'
   injection e with e1 e2
   obtain⟨p,ep⟩:∃ p,l[k]?=some p:=⟨_,List.getElem?_eq_getElem (by rw[← HN.out];exact hk')⟩
   have hfr:=HPE.out k p ep
   obtain⟨pb,po,rfl,hpb,hpc⟩:=HV.out.at ep
   obtain⟨p0,p1,p2,p3,p4,p5,p6⟩:=hpc W hB
   rw[hfr,e2]at p0
   clear hx hm hk hfr e2 hpc ep hB p1 p2 p3 p4 p5 p6
   subst e1
   have tk:(k:Int) < (n:Int):=by omega
   have tk0:(0:Int)≤(k:Int):=by omega
   have tk1:¬ (k:Int) < 0:=by omega
   gi_wp2
   exact⟨⟨Nat.le_refl _,fun _ _ _ h _=>h⟩,⟨Below.refl _ _,fun _ _ h=>h⟩,HI.out⟩
  ·have e:=List.mem_singleton.1 hm
   injection e with e1 e2
   rw[← HN.out,← HLA.out]at e2
   rw[← HM1.out]at e1
   clear hx hm hB
   subst e1 e2
   have tk0:¬ (0:Int)≤i:=by omega
   gi_wp2
   exact⟨⟨Nat.le_refl _,fun _ _ _ h _=>h⟩,⟨Below.refl _ _,fun _ _ h=>h⟩,HI.out⟩
 case done =>
  have HDd:=zh hDd
  have HDm:Hid (W4.heap.size≤Dm):=zh (by have:=HR.out.size;omega)
  have hbw:=q_next HB5.out hI
  have hRW:=q_next HR.out hI
  clear hDd hI hS
  replace HR:=zh hRW
  obtain⟨c0,c1,c2,c3,c4,c5,c6,c7,c8⟩:=HC.out W HR.out
  have d0:=HD.out W HR.out
  clear hbw hRW
  show Exit.inBlock _ _ _ (Act.mk _ [{ target:=.collected Dm,args:=#[] }]) W
  go_wp2_with (go_at_call 101;(with_reducible refine(HSC.out _ (q_next HBB.out HR.out)).mono ?_);clear c0 c1 c2 c3 c4 c5 c6 c7 c8 d0;rintro e w6 ⟨rfl,hbx⟩;replace HR:=zh (q_next HR.out hbx);have HD6:=zh (kept_block HDd.out hbx);clear hbx;obtain⟨c0,c1,c2,c3,c4,c5,c6,c7,c8⟩:=HC.out w6 HR.out;have d0:=HD.out w6 HR.out)
  clear c0 c1 c2 c3 c4 c5 c6 c7 c8 d0 HDd
  have HR6:=zh (q_next HBB.out HR.out)
  go_loopw [101] (fun i wr=>∃ k:Nat,k≤n∧i=.int .i64 k∧Hid (Below w6.heap.size w6 wr)) (fun i _=>n - (intOf i).toNat)
  case atStart=>exact⟨0,by omega,rfl,zh br0⟩
  case round =>
   obtain⟨k,hk,rfl,hB⟩:=hrel
   by_cases hlt:k < n
   ·have tk:(k:Int) < (n:Int):=by omega
    have tk0:(0:Int)≤(k:Int):=by omega
    obtain⟨p,ep⟩:∃ p,l[k]?=some p:=⟨_,List.getElem?_eq_getElem (by rw[← HN.out];exact hlt)⟩
    have hm:=List.mem_of_getElem? ep
    have hf:=HFR.out p hm
    have hse:=HSE.out p hm
    have HSEAL:=zh (fun W hW b=>HS2.out W hW b p hm)
    obtain⟨pb,po,rfl,hpb,hpc⟩:=HV.out.at ep
    obtain⟨p0,p1,p2,p3,p4,p5,p6⟩:=hpc wr (q_next HR6.out hB.out)
    clear ep hm hpc
    obtain⟨fr,tu,prf,prt,psf,pst,psl⟩:=p
    simp only at p0 p1 p2 p3 p4 p5 p6 hf HSEAL hse
    rw[← hse]at HSEAL
    clear hse
    go_upto_region 22 with fail
    have HNW:=zh (heap_alloc_new wr (.cells #[.int .i64 fr,.int .i64 tu,.int .i64 prf,.int .i64 prt,.int .i64 psf,.int .i64 pst,.string psl] 96))
    have HBN:=zh (hB.out.alloc hB.out.size (.cells #[.int .i64 fr,.int .i64 tu,.int .i64 prf,.int .i64 prt,.int .i64 psf,.int .i64 pst,.string psl] 96))
    obtain⟨ka0,kc0,hke,-,-,hkc⟩:=SS.opened HK.out
    injection hke with hka hkn0 hkc0
    obtain⟨fn',rfl⟩:∃ m:Nat,fr=(m:Int):=⟨fr.toNat,by omega⟩
    have hkf:=keysN_at (k:=10) (i:=fn') (by omega)
    generalize wr.alloc (.cells #[.int .i64 (fn':Int),.int .i64 tu,.int .i64 prf,.int .i64 prt,.int .i64 psf,.int .i64 pst,.string psl] 96)=WN at *
    subst hka
    clear hkn0 hkc0
    obtain⟨kb,ko,rfl,hkb,hkc1⟩:=hkc fn' _ hkf
    have hbN:=q_next HR6.out HBN.out
    have k0:WN.cell? ⟨kb,ko+fn',none⟩=some (.string (keyW fn')):=cell_keepB hbN hkb hkc1
    have HK22:Hid (∀ W,Below WN.heap.size WN W→W.cell? ⟨kb,ko+fn',none⟩=some (.string (keyW fn'))):=zh (fun W hW=>cell_keepB (q_next hbN hW) hkb hkc1)
    clear hkc hkf hkc1 hkb p0 p1 p2 p3 p4 p5 p6
    obtain⟨n0,n1,n2,n3,n4,n5,n6⟩:=seven_cells HNW.out
    have hlt10:(fn':Int) < 10:=hf.2
    have hge10:¬ (10:Int)≤(fn':Int):=by omega
    have h00:(0:Int)≤(fn':Int):=by omega
    clear hbN
    have HSE22:=zh (fun W (hW:Below WN.heap.size WN W)=>HSEAL.out W (q_next (q_next HR6.out HBN.out) hW) wr.heap.size (kept_block HNW.out hW))
    have HC22:=zh (fun W (hW:Below WN.heap.size WN W)=>And.intro (seven_cells (kept_block HNW.out hW)) (HK22.out W hW))
    refine wp_region_noPanic ?_
    refine wp_region_lexB [.q 0,.q 1,.q 2,.q 3,.q 4,.q 5,.q 6,.q 7,.q 8,.q 9,.q 10,.q 11,.q 12,.q 13,.b 14,.q 15,.q 16] (by kernel_rfl) (by kernel_rfl) (fun _ _ _ _ h=>h) ?_
    iterate 14(refine wpFl_qL (v:=?_) rfl (Or.inl ⟨by rfl,?_⟩) ?_;rotate_left;(focus(intro w' hSw;obtain⟨⟨n0,n1,n2,n3,n4,n5,n6⟩,k0⟩:=HC22.out w' hSw;go_simp;(try with_reducible rfl);done));simp only[Act.put,zzA,zzB,zzC])
    refine wpFl_bL rfl (fun wa hna hsa K hK=>?_)
    go_simp
    go_at_call 23
    (with_reducible refine(HSE22.out _ hsa).mono ?_)
    rintro e wb ⟨rfl,hbb⟩
    have HBW:=zh (below_next hsa hbb)
    refine hK.out _ _ (below_next hsa hbb) (Keeps.below hbb) ?_
    clear hK K hna hsa hbb
    iterate 2(refine wpFl_qL (v:=?_) rfl (Or.inl ⟨by rfl,?_⟩) ?_;rotate_left;(focus(intro w' hSw;go_simp;(try with_reducible rfl);done));simp only[Act.put,zzA,zzB,zzC])
    refine wpFl_nil ?_
    refine NoPanic.normal ?_
    go_wp2
    go_roundw
    case rel=>exact⟨k+1,by omega,by go_num,zh (q_next HBN.out HBW.out)⟩
    case measure=>simp[intOf];omega
   ·obtain rfl:k=n:=by omega
    have tk:¬ (k:Int) < (k:Int):=by omega
    have HRW:=zh (q_next HR.out hB.out)
    obtain⟨ka0,kc0,hke,-,-,hkc⟩:=SS.opened HK.out
    injection hke with hka hkn0 hkc0
    obtain⟨sn,rfl⟩:∃ m:Nat,sg=(m:Int):=⟨sg.toNat,by omega⟩
    have hkf:=keysN_at (k:=10) (i:=sn) (by omega)
    subst hka
    clear hkn0 hkc0
    obtain⟨kb,ko,rfl,hkb,hkc1⟩:=hkc sn _ hkf
    have HC25:=zh (fun W (hW:Below wr.heap.size wr W)=>And.intro (HC.out W (q_next HRW.out hW)) (cell_keepB (q_next HBB.out (q_next HRW.out hW)) hkb hkc1))
    clear hkc hkf hkc1 hkb
    have hlt10:(sn:Int) < 10:=hsg.2
    have hge10:¬ (10:Int)≤(sn:Int):=by omega
    have h00:(0:Int)≤(sn:Int):=by omega
    obtain⟨SX,hSX⟩:∃ s,s=sealK (keyW (sn:Int)) (bytesOf (putsN (wishI ⟨(sn:Int),ho,rf,rt,ca,se,sf,st,sl⟩))):=⟨_,rfl⟩
    have HSE25:=zh (fun W (hW:Below wr.heap.size wr W)=>HS3.out W (q_next HBB.out (q_next HRW.out hW)) w.heap.size (HXB.out W (q_next HRW.out hW)))
    rw[← hSX]at HSX HSE25
    clear hSX
    go_upto_region 25 with fail
    refine wp_region_noPanic ?_
    refine wp_region_lexB [.q 0,.q 1,.q 2,.q 3,.q 4,.q 5,.q 6,.q 7,.q 8,.q 9,.q 10,.q 11,.q 12,.q 13,.b 14,.q 15,.q 16] (by kernel_rfl) (by kernel_rfl) (fun _ _ _ _ h=>h) ?_
    iterate 14(refine wpFl_qL (v:=?_) rfl (Or.inl ⟨by rfl,?_⟩) ?_;rotate_left;(focus(intro w' hSw;obtain⟨⟨c0,c1,c2,c3,c4,c5,c6,c7,c8⟩,k0⟩:=HC25.out w' hSw;go_simp;(try with_reducible rfl);done));simp only[Act.put,zzA,zzB,zzC])
    refine wpFl_bL rfl (fun wa hna hsa K hK=>?_)
    go_simp
    go_at_call 23
    (with_reducible refine(HSE25.out _ hsa).mono ?_)
    rintro e wb ⟨rfl,hbb⟩
    have HBW:=zh (below_next hsa hbb)
    refine hK.out _ _ (below_next hsa hbb) (Keeps.below hbb) ?_
    clear hK K hna hsa hbb
    have HRB:=zh (q_next HRW.out HBW.out)
    have HZ3:=zh (kept_block HY3.out HRB.out)
    have HZ4:=zh (kept_block HX4.out HRB.out)
    have HDL:Hid (w.heap.size+1+1+1+1≤Dm):=zh (by have:=HS.out;have:=HDm.out;omega)
    have HD7:=zh (kept_block HD6.out (q_next hB.out HBW.out))
    cases bd with
    | true =>
     obtain rfl:sl=SX:=of_decide_eq_true HSX.out.symm
     iterate 2(refine wpFl_qL (v:=?_) rfl (Or.inl ⟨by rfl,?_⟩) ?_;rotate_left;(focus(intro w' hSw;go_simp;(try with_reducible rfl);done));simp only[Act.put,zzA,zzB,zzC])
     refine wpFl_nil ?_
     refine NoPanic.normal ?_
     have y3:=cell_of_row wb _ 0 _ _ _ HZ3.out
     have y4:=cell_of_row wb _ 0 _ _ _ HZ4.out
     have zf3:∀ j,wb.frozen? ⟨w.heap.size+1+1,j,none⟩=false:=fun j=>by unfold World.frozen?;rw[HZ3.out];simp
     have zf4:∀ j,wb.frozen? ⟨w.heap.size+1+1+1,j,none⟩=false:=fun j=>by unfold World.frozen?;rw[HZ4.out];simp
     go_wp2
     have hM:Marks (w.heap.size+1+1+1+1) [Dm] ((wb.setCell ⟨w.heap.size+1+1,0,none⟩ (.int .i64 0)).setCell ⟨w.heap.size+1+1+1,0,none⟩ (.int .i64 (-1))):=⟨by simp,fun D' hD=>by
      rw[List.mem_singleton]at hD
      subst hD
      exact⟨HDL.out,(Below.heap_setCell _ _ _ _ (by show D'≠w.heap.size+1+1+1;have:=HDL.out;omega)).trans ((Below.heap_setCell _ _ _ _ (by show D'≠w.heap.size+1+1;have:=HDL.out;omega)).trans HD7.out)⟩⟩
     have HG3:Hid (((wb.setCell ⟨w.heap.size+1+1,0,none⟩ (.int .i64 0)).setCell ⟨w.heap.size+1+1+1,0,none⟩ (.int .i64 (-1))).heap[w.heap.size+1+1]?=some (.cells #[.int .i64 0] 3 (0,0))):=zh ((Below.heap_setCell _ _ _ _ (by show w.heap.size+1+1≠w.heap.size+1+1+1;omega)).trans (heap_setCell_same (i:=0) _ HZ3.out))
     have HG4:Hid (((wb.setCell ⟨w.heap.size+1+1,0,none⟩ (.int .i64 0)).setCell ⟨w.heap.size+1+1+1,0,none⟩ (.int .i64 (-1))).heap[w.heap.size+1+1+1]?=some (.cells #[.int .i64 (-1)] 3 (0,0))):=zh (heap_setCell_same (i:=0) _ ((Below.heap_setCell _ _ _ _ (by show w.heap.size+1+1+1≠w.heap.size+1+1;omega)).trans HZ4.out))
     have HGB:Hid (Below w.heap.size w ((wb.setCell ⟨w.heap.size+1+1,0,none⟩ (.int .i64 0)).setCell ⟨w.heap.size+1+1+1,0,none⟩ (.int .i64 (-1)))):=zh (((q_next HBB.out HRB.out).setCell (p:=⟨w.heap.size+1+1,0,none⟩) (by show w.heap.size≤w.heap.size+1+1;omega) _).setCell (p:=⟨w.heap.size+1+1+1,0,none⟩) (by show w.heap.size≤w.heap.size+1+1+1;omega) _)
     refine leaves_marks (B:=w.heap.size+1+1+1+1) [Dm] _ hM (fun W'' hT=>⟨_,results_two_cells rfl _ (w.heap.size+1+1) (w.heap.size+1+1+1) (.int .i64 0) (.int .i64 (-1)) rfl rfl ((hT.old _ (by omega)).trans HG3.out) ((hT.old _ (by omega)).trans HG4.out),rfl,HGB.out.trans (hT.below.mono (by omega))⟩)
    | false =>
     have hss:(sl.toList == SX.toList)=false:=by rw[same_str];exact HSX.out.symm
     iterate 2(refine wpFl_qL (v:=?_) rfl (Or.inl ⟨by rfl,?_⟩) ?_;rotate_left;(focus(intro w' hSw;go_simp;(try with_reducible rfl);done));simp only[Act.put,zzA,zzB,zzC])
     refine wpFl_nil ?_
     refine NoPanic.normal ?_
     have y3:=cell_of_row wb _ 0 _ _ _ HZ3.out
     have y4:=cell_of_row wb _ 0 _ _ _ HZ4.out
     have zf3:∀ j,wb.frozen? ⟨w.heap.size+1+1,j,none⟩=false:=fun j=>by unfold World.frozen?;rw[HZ3.out];simp
     have zf4:∀ j,wb.frozen? ⟨w.heap.size+1+1+1,j,none⟩=false:=fun j=>by unfold World.frozen?;rw[HZ4.out];simp
     go_wp2
     have hM:Marks (w.heap.size+1+1+1+1) [Dm] ((wb.setCell ⟨w.heap.size+1+1,0,none⟩ (.int .i64 6)).setCell ⟨w.heap.size+1+1+1,0,none⟩ (.int .i64 (-1))):=⟨by simp,fun D' hD=>by
      rw[List.mem_singleton]at hD
      subst hD
      exact⟨HDL.out,(Below.heap_setCell _ _ _ _ (by show D'≠w.heap.size+1+1+1;have:=HDL.out;omega)).trans ((Below.heap_setCell _ _ _ _ (by show D'≠w.heap.size+1+1;have:=HDL.out;omega)).trans HD7.out)⟩⟩
     have HG3:Hid (((wb.setCell ⟨w.heap.size+1+1,0,none⟩ (.int .i64 6)).setCell ⟨w.heap.size+1+1+1,0,none⟩ (.int .i64 (-1))).heap[w.heap.size+1+1]?=some (.cells #[.int .i64 6] 3 (0,0))):=zh ((Below.heap_setCell _ _ _ _ (by show w.heap.size+1+1≠w.heap.size+1+1+1;omega)).trans (heap_setCell_same (i:=0) _ HZ3.out))
     have HG4:Hid (((wb.setCell ⟨w.heap.size+1+1,0,none⟩ (.int .i64 6)).setCell ⟨w.heap.size+1+1+1,0,none⟩ (.int .i64 (-1))).heap[w.heap.size+1+1+1]?=some (.cells #[.int .i64 (-1)] 3 (0,0))):=zh (heap_setCell_same (i:=0) _ ((Below.heap_setCell _ _ _ _ (by show w.heap.size+1+1+1≠w.heap.size+1+1;omega)).trans HZ4.out))
     have HGB:Hid (Below w.heap.size w ((wb.setCell ⟨w.heap.size+1+1,0,none⟩ (.int .i64 6)).setCell ⟨w.heap.size+1+1+1,0,none⟩ (.int .i64 (-1)))):=zh (((q_next HBB.out HRB.out).setCell (p:=⟨w.heap.size+1+1,0,none⟩) (by show w.heap.size≤w.heap.size+1+1;omega) _).setCell (p:=⟨w.heap.size+1+1+1,0,none⟩) (by show w.heap.size≤w.heap.size+1+1+1;omega) _)
     refine leaves_marks (B:=w.heap.size+1+1+1+1) [Dm] _ hM (fun W'' hT=>⟨_,results_two_cells rfl _ (w.heap.size+1+1) (w.heap.size+1+1+1) (.int .i64 6) (.int .i64 (-1)) rfl rfl ((hT.old _ (by omega)).trans HG3.out) ((hT.old _ (by omega)).trans HG4.out),rfl,HGB.out.trans (hT.below.mono (by omega))⟩)
end Go.Proofs.YtjjiikeldpjafaaGreatDoor
/- TopReclaims: rules that integers determine. The conditions: ranges. -/
namespace Go.Proofs.YtjjiikeldpjafaaGreatDoor
open Go.RowKit Go.BigFrame
def yC (a0 a1 a2 a3:Int)(k:Nat):Array Value:=#[.int .i64 (if 0 < k then a0 else 0),.int .i64 (if 1 < k then a1 else 0),.int .i64 (if 2 < k then a2 else 0),.int .i64 (if 3 < k then a3 else 0)]
structure MrAt (w:World) (x0 x1 x2 x3:Int) (rb yb:Nat) (ys:Array Value) (W:World):Prop where
 hb:Below w.heap.size w W
 hx:W.heap[w.heap.size]?=some (.cells #[.int .i64 x0,.int .i64 x1,.int .i64 x2,.int .i64 x3] 26 (0,0))
 hr:W.heap[rb]?=some (.cells #[.int .i64 0,.int .i64 0,.int .i64 0,.int .i64 0] 53 (0,0))
 hy:W.heap[yb]?=some (.cells ys 26 (0,0))
 ny:w.heap.size < yb
 nr:w.heap.size≤rb
theorem MrAt.put {w W:World}{x0 x1 x2 x3:Int}{rb yb:Nat}{ys:Array Value}(h:MrAt w x0 x1 x2 x3 rb yb ys W)(k:Nat)(v:Value):MrAt w x0 x1 x2 x3 rb yb (ys.setIfInBounds k v) (W.setCell ⟨yb,k,none⟩ v) :=
 ⟨h.hb.setCell (p:=⟨yb,k,none⟩) (Nat.le_of_lt h.ny) v,setOther h.hx (Nat.ne_of_lt h.ny) v,setOther h.hr (fun e=>unlike h.hr h.hy (by decide) e) v,heap_setCell_same (i:=k) v h.hy,h.ny,h.nr⟩
set_option maxHeartbeats 8000000 in
set_option maxRecDepth 100000 in
theorem madeRules_any (x0 x1 x2 x3:Int)(i0:I64 x0)(i1:I64 x1)(i2:I64 x2)(i3:I64 x3)(w:World) :
  Calls Tryz.prog 14 #[.agg #[.int .i64 x0,.int .i64 x1,.int .i64 x2,.int .i64 x3]] w fun e w'=>e=.returned (.agg #[.int .i64 (ruleI x0),.int .i64 (ruleI x1),.int .i64 (ruleI x2),.int .i64 (ruleI x3)])∧Below w.heap.size w w':=by
 obtain⟨W1,hW1⟩:∃ W,W=w.alloc (.cells #[.int .i64 x0,.int .i64 x1,.int .i64 x2,.int .i64 x3] 26):=⟨_,rfl⟩
 have HB1:Hid (Below w.heap.size w W1):=zh (by rw[hW1];exact br0.alloc (Nat.le_refl _) _)
 have HX1:Hid (W1.heap[w.heap.size]?=some (.cells #[.int .i64 x0,.int .i64 x1,.int .i64 x2,.int .i64 x3] 26 (0,0))):=zh (by rw[hW1];exact heap_alloc_new w _)
 have hs1:W1.heap.size=w.heap.size+1:=by rw[hW1];simp
 obtain⟨W2,hW2⟩:∃ W,W=W1.alloc (.cells #[.int .i64 0,.int .i64 0,.int .i64 0,.int .i64 0] 53):=⟨_,rfl⟩
 have HB2:Hid (Below W1.heap.size W1 W2):=zh (by rw[hW2];exact br0.alloc (Nat.le_refl _) _)
 have HX2:Hid (W2.heap[w.heap.size+1]?=some (.cells #[.int .i64 0,.int .i64 0,.int .i64 0,.int .i64 0] 53 (0,0))):=zh (by rw[hW2,← hs1];exact heap_alloc_new W1 _)
 have hs2:W2.heap.size=w.heap.size+2:=by rw[hW2];simp[hs1]
 obtain⟨W3,hW3⟩:∃ W,W=W2.alloc (.cells #[.int .i64 0,.int .i64 0,.int .i64 0,.int .i64 0] 26):=⟨_,rfl⟩
 have HB3:Hid (Below W2.heap.size W2 W3):=zh (by rw[hW3];exact br0.alloc (Nat.le_refl _) _)
 have HX3:Hid (W3.heap[w.heap.size+2]?=some (.cells #[.int .i64 0,.int .i64 0,.int .i64 0,.int .i64 0] 26 (0,0))):=zh (by rw[hW3,← hs2];exact heap_alloc_new W2 _)
 have HM0:Hid (MrAt w x0 x1 x2 x3 (w.heap.size+1) (w.heap.size+1+1) (yC (ruleI x0) (ruleI x1) (ruleI x2) (ruleI x3) 0) W3):=zh ⟨q_next HB1.out (q_next HB2.out HB3.out),kept_block HX1.out (q_next HB2.out HB3.out),kept_block HX2.out HB3.out,HX3.out,by omega,by omega⟩
 have HW1:=zh hW1
 have HW2:=zh hW2
 have HW3:=zh hW3
 clear hW1 hW2 hW3 hs1 hs2 HB1 HB2 HB3 HX1 HX2 HX3
 obtain⟨a0,ha0'⟩:∃ a,a=ruleI x0:=⟨_,rfl⟩
 obtain⟨a1,ha1'⟩:∃ a,a=ruleI x1:=⟨_,rfl⟩
 obtain⟨a2,ha2'⟩:∃ a,a=ruleI x2:=⟨_,rfl⟩
 obtain⟨a3,ha3'⟩:∃ a,a=ruleI x3:=⟨_,rfl⟩
 rw[← ha0',← ha1',← ha2',← ha3']at HM0 ⊢
 have ha0:=zh ha0'
 have ha1:=zh ha1'
 have ha2:=zh ha2'
 have ha3:=zh ha3'
 clear ha0' ha1' ha2' ha3'
 go_enter Tryz.func14,Tryz.ntmps14
 go_upto_region 2 with fail
 rw[← HW1.out,← HW2.out,← HW3.out]
 clear HW1 HW2 HW3
 obtain⟨rb,hrb⟩:∃ b,b=w.heap.size+1:=⟨_,rfl⟩
 obtain⟨yb,hyb⟩:∃ b,b=w.heap.size+1+1:=⟨_,rfl⟩
 rw[← hyb,← hrb]at HM0 ⊢
 clear hrb hyb
 go_wp2
 go_loopw [4] (fun i wr=>∃ k:Nat,k≤4∧i=.int .i64 k∧Hid (MrAt w x0 x1 x2 x3 rb yb (yC a0 a1 a2 a3 k) wr)) (fun i _=>4 - (intOf i).toNat)
 case atStart=>exact⟨0,by omega,rfl,HM0⟩
 case round =>
  clear HM0
  obtain⟨k,hk,rfl,hM⟩:=hrel
  rcases(show k=0∨k=1∨k=2∨k=3∨k=4 by omega)with rfl | rfl | rfl | rfl | rfl
  ·obtain⟨v0,v1,v2,v3⟩:=fourT_cells hM.out.hx
   have hy:=hM.out.hy
   have ny:=hM.out.ny
   have hne:w.heap.size≠yb:=Nat.ne_of_lt ny
   unfold yC at hy
   obtain⟨u0',u1',u2',u3'⟩:=fourT_cells hy
   have uf:=thaw hy
   have HP1:=zh (fun W=>pick16_any x0 12 W i0 (by omega) (by omega))
   have HP2:=zh (fun W=>pick16_any (x0.tdiv 16) 4 W (tdiv16 i0) (by omega) (by omega))
   have HP3:=zh (fun W=>pick16_any x0 86400 W i0 (by omega) (by omega))
   have q1:=pickI_range x0 (show(0:Int) < 12 by omega)
   have q2:=pickI_range x0 (show(0:Int) < 86400 by omega)
   have hru:ruleI x0=if pickI (x0.tdiv 16) 4=3 then 1+pickI x0 86400 else 1+pickI x0 12:=rfl
   obtain⟨xd,hxd⟩:∃ xd,xd=x0.tdiv 16:=⟨_,rfl⟩
   have htd:wrap64 (x0.tdiv 16)=xd:=by
    have:=tdiv16 i0
    unfold I64 at this
    rw[hxd]
    exact IntWalk.wrap64_in _ this
   rw[← hxd]at HP2 hru
   clear hxd
   generalize pickI x0 12=p1 at *
   generalize pickI x0 86400=p2 at *
   generalize pickI xd 4=pd at *
   have e1:IntKind.i64.wrap (1+p1)=1+p1:=IntWalk.i64_in _ (by omega)
   have e2:IntKind.i64.wrap (1+p2)=1+p2:=IntWalk.i64_in _ (by omega)
   by_cases h3:pd=3
   ·rw[if_pos h3]at hru
    subst h3
    have HF:=zh ((hM.out.put 0 (.int .i64 (1+p1))).put 0 (.int .i64 (1+p2)))
    have HE:Hid (((yC a0 a1 a2 a3 0).setIfInBounds 0 (.int .i64 (1+p1))).setIfInBounds 0 (.int .i64 (1+p2))=yC a0 a1 a2 a3 1):=zh (by rw[← hru,← ha0.out];rfl)
    clear hru hy ny hM
    go_wp2_with (first | (go_at_call 37;(with_reducible refine(HP1.out _).mono ?_);rintro e w' ⟨rfl,hw'⟩;replace hw':=hw'.symm;subst hw') | (go_at_call 37;(with_reducible refine(HP2.out _).mono ?_);rintro e w' ⟨rfl,hw'⟩;replace hw':=hw'.symm;subst hw') | (go_at_call 37;(with_reducible refine(HP3.out _).mono ?_);rintro e w' ⟨rfl,hw'⟩;replace hw':=hw'.symm;subst hw'))
    go_roundw
    case rel=>exact⟨1,by omega,rfl,zh (by rw[← HE.out];exact HF.out)⟩
    case measure=>simp[intOf]
   ·rw[if_neg h3]at hru
    have HF:=zh (hM.out.put 0 (.int .i64 (1+p1)))
    have HE:Hid ((yC a0 a1 a2 a3 0).setIfInBounds 0 (.int .i64 (1+p1))=yC a0 a1 a2 a3 1):=zh (by rw[← hru,← ha0.out];rfl)
    clear hru hy ny hM
    go_wp2_with (first | (go_at_call 37;(with_reducible refine(HP1.out _).mono ?_);rintro e w' ⟨rfl,hw'⟩;replace hw':=hw'.symm;subst hw') | (go_at_call 37;(with_reducible refine(HP2.out _).mono ?_);rintro e w' ⟨rfl,hw'⟩;replace hw':=hw'.symm;subst hw'))
    go_roundw
    case rel=>exact⟨1,by omega,rfl,zh (by rw[← HE.out];exact HF.out)⟩
    case measure=>simp[intOf]
  ·obtain⟨v0,v1,v2,v3⟩:=fourT_cells hM.out.hx
   have hy:=hM.out.hy
   have ny:=hM.out.ny
   have hne:w.heap.size≠yb:=Nat.ne_of_lt ny
   unfold yC at hy
   obtain⟨u0',u1',u2',u3'⟩:=fourT_cells hy
   have uf:=thaw hy
   have HP1:=zh (fun W=>pick16_any x1 12 W i1 (by omega) (by omega))
   have HP2:=zh (fun W=>pick16_any (x1.tdiv 16) 4 W (tdiv16 i1) (by omega) (by omega))
   have HP3:=zh (fun W=>pick16_any x1 86400 W i1 (by omega) (by omega))
   have q1:=pickI_range x1 (show(0:Int) < 12 by omega)
   have q2:=pickI_range x1 (show(0:Int) < 86400 by omega)
   have hru:ruleI x1=if pickI (x1.tdiv 16) 4=3 then 1+pickI x1 86400 else 1+pickI x1 12:=rfl
   obtain⟨xd,hxd⟩:∃ xd,xd=x1.tdiv 16:=⟨_,rfl⟩
   have htd:wrap64 (x1.tdiv 16)=xd:=by
    have:=tdiv16 i1
    unfold I64 at this
    rw[hxd]
    exact IntWalk.wrap64_in _ this
   rw[← hxd]at HP2 hru
   clear hxd
   generalize pickI x1 12=p1 at *
   generalize pickI x1 86400=p2 at *
   generalize pickI xd 4=pd at *
   have e1:IntKind.i64.wrap (1+p1)=1+p1:=IntWalk.i64_in _ (by omega)
   have e2:IntKind.i64.wrap (1+p2)=1+p2:=IntWalk.i64_in _ (by omega)
   by_cases h3:pd=3
   ·rw[if_pos h3]at hru
    subst h3
    have HF:=zh ((hM.out.put 1 (.int .i64 (1+p1))).put 1 (.int .i64 (1+p2)))
    have HE:Hid (((yC a0 a1 a2 a3 1).setIfInBounds 1 (.int .i64 (1+p1))).setIfInBounds 1 (.int .i64 (1+p2))=yC a0 a1 a2 a3 2):=zh (by rw[← hru,← ha1.out];rfl)
    clear hru hy ny hM
    go_wp2_with (first | (go_at_call 37;(with_reducible refine(HP1.out _).mono ?_);rintro e w' ⟨rfl,hw'⟩;replace hw':=hw'.symm;subst hw') | (go_at_call 37;(with_reducible refine(HP2.out _).mono ?_);rintro e w' ⟨rfl,hw'⟩;replace hw':=hw'.symm;subst hw') | (go_at_call 37;(with_reducible refine(HP3.out _).mono ?_);rintro e w' ⟨rfl,hw'⟩;replace hw':=hw'.symm;subst hw'))
    go_roundw
    case rel=>exact⟨2,by omega,rfl,zh (by rw[← HE.out];exact HF.out)⟩
    case measure=>simp[intOf]
   ·rw[if_neg h3]at hru
    have HF:=zh (hM.out.put 1 (.int .i64 (1+p1)))
    have HE:Hid ((yC a0 a1 a2 a3 1).setIfInBounds 1 (.int .i64 (1+p1))=yC a0 a1 a2 a3 2):=zh (by rw[← hru,← ha1.out];rfl)
    clear hru hy ny hM
    go_wp2_with (first | (go_at_call 37;(with_reducible refine(HP1.out _).mono ?_);rintro e w' ⟨rfl,hw'⟩;replace hw':=hw'.symm;subst hw') | (go_at_call 37;(with_reducible refine(HP2.out _).mono ?_);rintro e w' ⟨rfl,hw'⟩;replace hw':=hw'.symm;subst hw'))
    go_roundw
    case rel=>exact⟨2,by omega,rfl,zh (by rw[← HE.out];exact HF.out)⟩
    case measure=>simp[intOf]
  ·obtain⟨v0,v1,v2,v3⟩:=fourT_cells hM.out.hx
   have hy:=hM.out.hy
   have ny:=hM.out.ny
   have hne:w.heap.size≠yb:=Nat.ne_of_lt ny
   unfold yC at hy
   obtain⟨u0',u1',u2',u3'⟩:=fourT_cells hy
   have uf:=thaw hy
   have HP1:=zh (fun W=>pick16_any x2 12 W i2 (by omega) (by omega))
   have HP2:=zh (fun W=>pick16_any (x2.tdiv 16) 4 W (tdiv16 i2) (by omega) (by omega))
   have HP3:=zh (fun W=>pick16_any x2 86400 W i2 (by omega) (by omega))
   have q1:=pickI_range x2 (show(0:Int) < 12 by omega)
   have q2:=pickI_range x2 (show(0:Int) < 86400 by omega)
   have hru:ruleI x2=if pickI (x2.tdiv 16) 4=3 then 1+pickI x2 86400 else 1+pickI x2 12:=rfl
   obtain⟨xd,hxd⟩:∃ xd,xd=x2.tdiv 16:=⟨_,rfl⟩
   have htd:wrap64 (x2.tdiv 16)=xd:=by
    have:=tdiv16 i2
    unfold I64 at this
    rw[hxd]
    exact IntWalk.wrap64_in _ this
   rw[← hxd]at HP2 hru
   clear hxd
   generalize pickI x2 12=p1 at *
   generalize pickI x2 86400=p2 at *
   generalize pickI xd 4=pd at *
   have e1:IntKind.i64.wrap (1+p1)=1+p1:=IntWalk.i64_in _ (by omega)
   have e2:IntKind.i64.wrap (1+p2)=1+p2:=IntWalk.i64_in _ (by omega)
   by_cases h3:pd=3
   ·rw[if_pos h3]at hru
    subst h3
    have HF:=zh ((hM.out.put 2 (.int .i64 (1+p1))).put 2 (.int .i64 (1+p2)))
    have HE:Hid (((yC a0 a1 a2 a3 2).setIfInBounds 2 (.int .i64 (1+p1))).setIfInBounds 2 (.int .i64 (1+p2))=yC a0 a1 a2 a3 3):=zh (by rw[← hru,← ha2.out];rfl)
    clear hru hy ny hM
    go_wp2_with (first | (go_at_call 37;(with_reducible refine(HP1.out _).mono ?_);rintro e w' ⟨rfl,hw'⟩;replace hw':=hw'.symm;subst hw') | (go_at_call 37;(with_reducible refine(HP2.out _).mono ?_);rintro e w' ⟨rfl,hw'⟩;replace hw':=hw'.symm;subst hw') | (go_at_call 37;(with_reducible refine(HP3.out _).mono ?_);rintro e w' ⟨rfl,hw'⟩;replace hw':=hw'.symm;subst hw'))
    go_roundw
    case rel=>exact⟨3,by omega,rfl,zh (by rw[← HE.out];exact HF.out)⟩
    case measure=>simp[intOf]
   ·rw[if_neg h3]at hru
    have HF:=zh (hM.out.put 2 (.int .i64 (1+p1)))
    have HE:Hid ((yC a0 a1 a2 a3 2).setIfInBounds 2 (.int .i64 (1+p1))=yC a0 a1 a2 a3 3):=zh (by rw[← hru,← ha2.out];rfl)
    clear hru hy ny hM
    go_wp2_with (first | (go_at_call 37;(with_reducible refine(HP1.out _).mono ?_);rintro e w' ⟨rfl,hw'⟩;replace hw':=hw'.symm;subst hw') | (go_at_call 37;(with_reducible refine(HP2.out _).mono ?_);rintro e w' ⟨rfl,hw'⟩;replace hw':=hw'.symm;subst hw'))
    go_roundw
    case rel=>exact⟨3,by omega,rfl,zh (by rw[← HE.out];exact HF.out)⟩
    case measure=>simp[intOf]
  ·obtain⟨v0,v1,v2,v3⟩:=fourT_cells hM.out.hx
   have hy:=hM.out.hy
   have ny:=hM.out.ny
   have hne:w.heap.size≠yb:=Nat.ne_of_lt ny
   unfold yC at hy
   obtain⟨u0',u1',u2',u3'⟩:=fourT_cells hy
   have uf:=thaw hy
   have HP1:=zh (fun W=>pick16_any x3 12 W i3 (by omega) (by omega))
   have HP2:=zh (fun W=>pick16_any (x3.tdiv 16) 4 W (tdiv16 i3) (by omega) (by omega))
   have HP3:=zh (fun W=>pick16_any x3 86400 W i3 (by omega) (by omega))
   have q1:=pickI_range x3 (show(0:Int) < 12 by omega)
   have q2:=pickI_range x3 (show(0:Int) < 86400 by omega)
   have hru:ruleI x3=if pickI (x3.tdiv 16) 4=3 then 1+pickI x3 86400 else 1+pickI x3 12:=rfl
   obtain⟨xd,hxd⟩:∃ xd,xd=x3.tdiv 16:=⟨_,rfl⟩
   have htd:wrap64 (x3.tdiv 16)=xd:=by
    have:=tdiv16 i3
    unfold I64 at this
    rw[hxd]
    exact IntWalk.wrap64_in _ this
   rw[← hxd]at HP2 hru
   clear hxd
   generalize pickI x3 12=p1 at *
   generalize pickI x3 86400=p2 at *
   generalize pickI xd 4=pd at *
   have e1:IntKind.i64.wrap (1+p1)=1+p1:=IntWalk.i64_in _ (by omega)
   have e2:IntKind.i64.wrap (1+p2)=1+p2:=IntWalk.i64_in _ (by omega)
   by_cases h3:pd=3
   ·rw[if_pos h3]at hru
    subst h3
    have HF:=zh ((hM.out.put 3 (.int .i64 (1+p1))).put 3 (.int .i64 (1+p2)))
    have HE:Hid (((yC a0 a1 a2 a3 3).setIfInBounds 3 (.int .i64 (1+p1))).setIfInBounds 3 (.int .i64 (1+p2))=yC a0 a1 a2 a3 4):=zh (by rw[← hru,← ha3.out];rfl)
    clear hru hy ny hM
    go_wp2_with (first | (go_at_call 37;(with_reducible refine(HP1.out _).mono ?_);rintro e w' ⟨rfl,hw'⟩;replace hw':=hw'.symm;subst hw') | (go_at_call 37;(with_reducible refine(HP2.out _).mono ?_);rintro e w' ⟨rfl,hw'⟩;replace hw':=hw'.symm;subst hw') | (go_at_call 37;(with_reducible refine(HP3.out _).mono ?_);rintro e w' ⟨rfl,hw'⟩;replace hw':=hw'.symm;subst hw'))
    go_roundw
    case rel=>exact⟨4,by omega,rfl,zh (by rw[← HE.out];exact HF.out)⟩
    case measure=>simp[intOf]
   ·rw[if_neg h3]at hru
    have HF:=zh (hM.out.put 3 (.int .i64 (1+p1)))
    have HE:Hid ((yC a0 a1 a2 a3 3).setIfInBounds 3 (.int .i64 (1+p1))=yC a0 a1 a2 a3 4):=zh (by rw[← hru,← ha3.out];rfl)
    clear hru hy ny hM
    go_wp2_with (first | (go_at_call 37;(with_reducible refine(HP1.out _).mono ?_);rintro e w' ⟨rfl,hw'⟩;replace hw':=hw'.symm;subst hw') | (go_at_call 37;(with_reducible refine(HP2.out _).mono ?_);rintro e w' ⟨rfl,hw'⟩;replace hw':=hw'.symm;subst hw'))
    go_roundw
    case rel=>exact⟨4,by omega,rfl,zh (by rw[← HE.out];exact HF.out)⟩
    case measure=>simp[intOf]
  ·have hy:=hM.out.hy
   unfold yC at hy
   simp only[Nat.zero_lt_succ,Nat.reduceLT,if_true]at hy
   obtain⟨v0,v1,v2,v3⟩:=fourT_cells hy
   obtain⟨z0,z1,z2,z3⟩:=fourT_cells hM.out.hr
   have zf:=thaw hM.out.hr
   have HF:=zh (four_heap hM.out.hr (.int .i64 a0) (.int .i64 a1) (.int .i64 a2) (.int .i64 a3))
   have HBF:=zh (four_below hM.out.hb hM.out.nr (.int .i64 a0) (.int .i64 a1) (.int .i64 a2) (.int .i64 a3))
   clear hM hy
   go_wp2
   exact bodyPost_ret (results_cell_row rfl _ _ rb 53 #[.int .i64 a0,.int .i64 a1,.int .i64 a2,.int .i64 a3] (0,0) _ rfl HF.out Tryz.underlying53 rfl infoRules) rfl ⟨rfl,HBF.out⟩
end Go.Proofs.YtjjiikeldpjafaaGreatDoor
/- TopReclaims: the chain of a claim ('of'). No condition. -/
namespace Go.Proofs.YtjjiikeldpjafaaGreatDoor
open Go.RowKit Go.BigFrame
structure OfAt (w:World) (cn cf ct ch ca:Int) (cb:Bool) (ev:Value) (bl bp:Nat) (W:World):Prop where
 hb:Below w.heap.size w W
 hl:W.heap[bl]?=some (.cells #[.int .i64 1,.int .i64 0,.int .i64 ch] 116 (0,0))
 hp:W.heap[bp]?=some (.cells #[.int .i64 cn,.int .i64 cf,.int .i64 ct,.int .i64 ch,.int .i64 ca,.bool cb,ev] 118 (0,0))
set_option maxHeartbeats 4000000 in
set_option maxRecDepth 100000 in
theorem of_any (a0 a1 a2 a3 cn cf ct ch ca:Int)(cb:Bool)(ea:Option Addr)(en ec:Nat)(w:World) :
  Calls Tryz.prog 15 #[.agg #[.int .i64 a0,.int .i64 a1,.int .i64 a2,.int .i64 a3],.agg #[.int .i64 cn,.int .i64 cf,.int .i64 ct,.int .i64 ch,.int .i64 ca,.bool cb],.slice ea en ec] w fun e w' =>
   ∃ bl bp,e=.returned (.agg #[.int .i64 cn,.int .i64 cf,.int .i64 a0,.int .i64 a1,.int .i64 a2,.int .i64 a3,.slice (some ⟨bl,0,none⟩) 1 1,.slice (some ⟨bp,0,none⟩) 1 1])∧OfAt w cn cf ct ch ca cb (.slice ea en ec) bl bp w':=by
 obtain⟨W1,hW1⟩:∃ W1,W1=w.alloc (.cells #[.int .i64 a0,.int .i64 a1,.int .i64 a2,.int .i64 a3] 53):=⟨_,rfl⟩
 have HBW1:Hid (Below w.heap.size w W1):=zh (by rw[hW1];exact br0.alloc (Nat.le_refl _) _)
 have HXW1:Hid (W1.heap[w.heap.size]?=some (.cells #[.int .i64 a0,.int .i64 a1,.int .i64 a2,.int .i64 a3] 53 (0,0))):=zh (by rw[hW1];exact heap_alloc_new w _)
 have hsW1:W1.heap.size=w.heap.size+1:=by rw[hW1];simp
 have HWW1:=zh hW1
 obtain⟨W2,hW2⟩:∃ W2,W2=W1.alloc (.cells #[.int .i64 cn,.int .i64 cf,.int .i64 ct,.int .i64 ch,.int .i64 ca,.bool cb] 34):=⟨_,rfl⟩
 have HBW2:Hid (Below W1.heap.size W1 W2):=zh (by rw[hW2];exact br0.alloc (Nat.le_refl _) _)
 have HXW2:Hid (W2.heap[W1.heap.size]?=some (.cells #[.int .i64 cn,.int .i64 cf,.int .i64 ct,.int .i64 ch,.int .i64 ca,.bool cb] 34 (0,0))):=zh (by rw[hW2];exact heap_alloc_new W1 _)
 have hsW2:W2.heap.size=W1.heap.size+1:=by rw[hW2];simp
 have HWW2:=zh hW2
 obtain⟨W3,hW3⟩:∃ W3,W3=W2.alloc (.cells #[.int .i64 0,.int .i64 0,.int .i64 0,.int .i64 0,.int .i64 0,.int .i64 0,.slice none 0 0,.slice none 0 0] 58):=⟨_,rfl⟩
 have HBW3:Hid (Below W2.heap.size W2 W3):=zh (by rw[hW3];exact br0.alloc (Nat.le_refl _) _)
 have HXW3:Hid (W3.heap[W2.heap.size]?=some (.cells #[.int .i64 0,.int .i64 0,.int .i64 0,.int .i64 0,.int .i64 0,.int .i64 0,.slice none 0 0,.slice none 0 0] 58 (0,0))):=zh (by rw[hW3];exact heap_alloc_new W2 _)
 have hsW3:W3.heap.size=W2.heap.size+1:=by rw[hW3];simp
 have HWW3:=zh hW3
 obtain⟨W4,hW4⟩:∃ W4,W4=W3.alloc (.cells #[.int .i64 1,.int .i64 0,.int .i64 ch] 116):=⟨_,rfl⟩
 have HBW4:Hid (Below W3.heap.size W3 W4):=zh (by rw[hW4];exact br0.alloc (Nat.le_refl _) _)
 have HXW4:Hid (W4.heap[W3.heap.size]?=some (.cells #[.int .i64 1,.int .i64 0,.int .i64 ch] 116 (0,0))):=zh (by rw[hW4];exact heap_alloc_new W3 _)
 have hsW4:W4.heap.size=W3.heap.size+1:=by rw[hW4];simp
 have HWW4:=zh hW4
 obtain⟨W5,hW5⟩:∃ W5,W5=W4.alloc (.cells #[.int .i64 cn,.int .i64 cf,.int .i64 ct,.int .i64 ch,.int .i64 ca,.bool cb,.slice ea en ec] 118):=⟨_,rfl⟩
 have HBW5:Hid (Below W4.heap.size W4 W5):=zh (by rw[hW5];exact br0.alloc (Nat.le_refl _) _)
 have HXW5:Hid (W5.heap[W4.heap.size]?=some (.cells #[.int .i64 cn,.int .i64 cf,.int .i64 ct,.int .i64 ch,.int .i64 ca,.bool cb,.slice ea en ec] 118 (0,0))):=zh (by rw[hW5];exact heap_alloc_new W4 _)
 have hsW5:W5.heap.size=W4.heap.size+1:=by rw[hW5];simp
 have HWW5:=zh hW5
 rw[hsW4]at HXW5
 have hb2:W2.heap.size=w.heap.size+1+1:=by rw[hsW2,hsW1]
 have HZ:Hid (W5.heap[w.heap.size+1+1]?=some (.cells #[.int .i64 0,.int .i64 0,.int .i64 0,.int .i64 0,.int .i64 0,.int .i64 0,.slice none 0 0,.slice none 0 0] 58 (0,0))):=zh (by rw[← hb2];exact kept_block HXW3.out (q_next HBW4.out HBW5.out))
 have HB5:Hid (Below w.heap.size w W5):=zh (q_next HBW1.out (q_next HBW2.out (q_next HBW3.out (q_next HBW4.out HBW5.out))))
 have HL5:=zh (kept_block HXW4.out HBW5.out)
 have hle:w.heap.size≤w.heap.size+1+1:=by omega
 have HZ3:Hid (W3.heap[w.heap.size+1+1]?=some (.cells #[.int .i64 0,.int .i64 0,.int .i64 0,.int .i64 0,.int .i64 0,.int .i64 0,.slice none 0 0,.slice none 0 0] 58 (0,0))):=zh (by rw[← hb2];exact HXW3.out)
 have h1:W3.heap[w.heap.size]?=some (.cells #[.int .i64 a0,.int .i64 a1,.int .i64 a2,.int .i64 a3] 53 (0,0)):=kept_block HXW1.out (q_next HBW2.out HBW3.out)
 have h2:W3.heap[w.heap.size+1]?=some (.cells #[.int .i64 cn,.int .i64 cf,.int .i64 ct,.int .i64 ch,.int .i64 ca,.bool cb] 34 (0,0)):=by rw[← hsW1];exact kept_block HXW2.out HBW3.out
 have HC4:Hid (W4.heap[w.heap.size+1]?=some (.cells #[.int .i64 cn,.int .i64 cf,.int .i64 ct,.int .i64 ch,.int .i64 ca,.bool cb] 34 (0,0))):=zh (kept_block h2 HBW4.out)
 obtain⟨r0,r1,r2,r3⟩:=fourT_cells h1
 obtain⟨c0,c1,c2,c3,c4,c5⟩:=six_cells h2
 have hlt1:=(ltA h1)
 have hlt2:=(ltA h2)
 have HF:=zh (eight_heap HZ.out (.int .i64 cn) (.int .i64 cf) (.int .i64 a0) (.int .i64 a1) (.int .i64 a2) (.int .i64 a3) (.slice (some ⟨W3.heap.size,0,none⟩) 1 1) (.slice (some ⟨W3.heap.size+1,0,none⟩) 1 1))
 have HBF:=zh (eight_below HB5.out hle (.int .i64 cn) (.int .i64 cf) (.int .i64 a0) (.int .i64 a1) (.int .i64 a2) (.int .i64 a3) (.slice (some ⟨W3.heap.size,0,none⟩) 1 1) (.slice (some ⟨W3.heap.size+1,0,none⟩) 1 1))
 have GR:=zh (eight_grownT W5 (w.heap.size+1+1) (.int .i64 cn) (.int .i64 cf) (.int .i64 a0) (.int .i64 a1) (.int .i64 a2) (.int .i64 a3) (.slice (some ⟨W3.heap.size,0,none⟩) 1 1) (.slice (some ⟨W3.heap.size+1,0,none⟩) 1 1))
 have HO:Hid (OfAt w cn cf ct ch ca cb (.slice ea en ec) W3.heap.size (W3.heap.size+1) ((((((((W5.setCell ⟨w.heap.size+1+1,0,none⟩ (.int .i64 cn)).setCell ⟨w.heap.size+1+1,1,none⟩ (.int .i64 cf)).setCell ⟨w.heap.size+1+1,2,none⟩ (.int .i64 a0)).setCell ⟨w.heap.size+1+1,3,none⟩ (.int .i64 a1)).setCell ⟨w.heap.size+1+1,4,none⟩ (.int .i64 a2)).setCell ⟨w.heap.size+1+1,5,none⟩ (.int .i64 a3)).setCell ⟨w.heap.size+1+1,6,none⟩ (.slice (some ⟨W3.heap.size,0,none⟩) 1 1)).setCell ⟨w.heap.size+1+1,7,none⟩ (.slice (some ⟨W3.heap.size+1,0,none⟩) 1 1))):=zh {
  hb:=HBF.out
  hl:=(GR.out.block _ (ltA HL5.out) (fun e=>unlike HL5.out HZ.out (by decide) (Option.some.inj e))).trans HL5.out
  hp:=(GR.out.block _ (ltA HXW5.out) (fun e=>unlike HXW5.out HZ.out (by decide) (Option.some.inj e))).trans HXW5.out }
 clear hb2 h1 h2 hW1 hW2 hW3 hW4 hW5 hsW1 hsW2 hsW3 hsW4 hsW5 HBF GR
 go_enter Tryz.func15,Tryz.ntmps15
 go_upto_region 1 with fail
 rw[← HWW1.out,← HWW2.out,← HWW3.out]
 have h24:=HC4.out
 rw[HWW4.out]at h24
 obtain⟨d0,d1,d2,d3,d4,d5⟩:=six_cells h24
 clear h24
 iterate 43 go_step
 rw[← HWW4.out,← HWW5.out]
 clear d0 d1 d2 d3 d4 d5 r0 r1 r2 r3 c0 c1 c2 c3 c4 c5 hlt1 hlt2
 obtain⟨z0,z1,z2,z3,z4,z5,z6,z7⟩:=eight_cells HZ.out
 have zf:=thaw HZ.out
 go_wp2
 exact bodyPost_ret (results_cell_row rfl _ _ (w.heap.size+1+1) 58 #[.int .i64 cn,.int .i64 cf,.int .i64 a0,.int .i64 a1,.int .i64 a2,.int .i64 a3,.slice (some ⟨W3.heap.size,0,none⟩) 1 1,.slice (some ⟨W3.heap.size+1,0,none⟩) 1 1] (0,0) _ rfl HF.out Tryz.underlying58 rfl infoChain) rfl ⟨_,_,rfl,HO.out⟩
end Go.Proofs.YtjjiikeldpjafaaGreatDoor
