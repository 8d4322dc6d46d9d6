/- TopReclaims: chain.Valid. The conditions: the claim is right. -/
import Derived.Test.YtjjiikeldpjafaaGreatDoorTT26
namespace Go.Proofs.YtjjiikeldpjafaaGreatDoor
open Go.RowKit Go.BigFrame
attribute [local go_sem] Oper.semAt_some
set_option maxHeartbeats 4000000 in
set_option maxRecDepth 100000 in
theorem validH_any {a0 a1 a2 a3 cn cf ct ch ca:Int}{o:Option Int}(hc:ClOk a0 a1 a2 a3 cn cf ct ch ca o)(cb:Bool){w:World}{pv:Value}{bp bl:Nat}
  (hp:w.heap[bp]?=some (.cells #[.int .i64 cn,.int .i64 cf,.int .i64 ct,.int .i64 ch,.int .i64 ca,.bool cb,pv] 118 (0,0))) (hv:EvAt w pv o)
  (hl:w.heap[bl]?=some (.cells #[.int .i64 1,.int .i64 0,.int .i64 ch] 116 (0,0))) :
  Calls Tryz.prog 38 #[.agg #[.int .i64 cn,.int .i64 cf,.int .i64 a0,.int .i64 a1,.int .i64 a2,.int .i64 a3,.slice (some ⟨bl,0,none⟩) 1 1,.slice (some ⟨bp,0,none⟩) 1 1]] w fun e w'=>e=.returned (.bool true)∧Below w.heap.size w w':=by
 have HVC:=zh (fun W (hW:Below w.heap.size w W)=>validC_any hc cb (hv.step hW))
 have HRU:=zh (fun W (hW:Below w.heap.size w W)=>runL_any hc.h (Nat.le_refl 1) (kept_block hl hW))
 have HP:=zh hp
 have hn:=hc.n
 have hf:=hc.f
 have ha:=hc.a
 have hform:∃(a:Option Addr) (m:Nat),pv=.slice a m m:=by
  cases o with
  | none=>exact⟨none,0,hv⟩
  | some s=>obtain⟨eb,h1,-⟩:=hv;exact⟨_,1,h1⟩
 clear hc hp hv hl
 obtain⟨av,m,rfl⟩:=hform
 have hlt:¬ ca < 0:=by omega
 obtain⟨W1,hW1⟩:∃ W1,W1=w.alloc (.cells #[.int .i64 cn,.int .i64 cf,.int .i64 a0,.int .i64 a1,.int .i64 a2,.int .i64 a3,.slice (some ⟨bl,0,none⟩) 1 1,.slice (some ⟨bp,0,none⟩) 1 1] 58):=⟨_,rfl⟩
 have HBW1:Hid (Below w.heap.size w W1):=zh (by rw[hW1];exact br0.alloc (Nat.le_refl _) _)
 have HXW1:Hid (W1.heap[w.heap.size]?=some (.cells #[.int .i64 cn,.int .i64 cf,.int .i64 a0,.int .i64 a1,.int .i64 a2,.int .i64 a3,.slice (some ⟨bl,0,none⟩) 1 1,.slice (some ⟨bp,0,none⟩) 1 1] 58 (0,0))):=zh (by rw[hW1];exact heap_alloc_new w _)
 have hsW1:Hid (W1.heap.size=w.heap.size+1):=zh (by rw[hW1];simp)
 have HWW1:=zh hW1
 clear hW1
 obtain⟨d0,d1,d2,d3,d4,d5,d6,d7⟩:=eight_cells HXW1.out
 go_enter Tryz.func38,Tryz.ntmps38
 go_upto_region 1 with fail
 rw[← HWW1.out]
 clear HWW1
 go_upto_region 2 with(go_at_call 74;(with_reducible refine(HRU.out _ HBW1.out).mono ?_);clear d0 d1 d2 d3 d4 d5 d6 d7;rintro e w4 ⟨rfl,hbx⟩;have HB4:=zh hbx;clear hbx)
 have HA5:=zh (q_next HB4.out ((Below.refl w4.heap.size w4).alloc (Nat.le_refl _) (.cells #[.int .i64 1,.int .i64 ch,.int .i64 1,.int .i64 0] 162)))
 generalize w4.alloc (.cells #[.int .i64 1,.int .i64 ch,.int .i64 1,.int .i64 0] 162)=w5 at *
 generalize w4.heap.size=lk at *
 clear HB4
 have HC5:=zh (kept_block HXW1.out HA5.out)
 have HP5:=zh (kept_block HP.out (q_next HBW1.out HA5.out))
 have HB5:=zh (q_next HBW1.out HA5.out)
 clear HA5 HXW1 HBW1 hsW1 HRU HP
 obtain⟨d0,d1,d2,d3,d4,d5,d6,d7⟩:=eight_cells HC5.out
 go_upto_region 6 with(go_at_call 39;refine(inH_yes _ _ _ (by omega) (by omega) _).mono ?_;rintro e w' ⟨rfl,hw'⟩;replace hw':=hw'.symm;subst hw')
 clear d0 d1 d2 d3 d4 d5 d6
 go_loopw [6,39] (fun l i wr=>(l=.int .i64 0∧i=.int .i64 0∧wr=w5)∨(i=.int .i64 1∧Hid (Below w.heap.size w wr))) (fun _ i _=>1 - (intOf i).toNat)
 case atStart=>exact .inl ⟨rfl,rfl,rfl⟩
 case round =>
  clear d7
  rcases hrel with⟨rfl,rfl,rfl⟩ | ⟨rfl,hb⟩
  ·obtain⟨p0,p1,p2,p3,p4,p5,p6⟩:=seven_cells HP5.out
   have HBA:=zh ((Below.refl wr.heap.size wr).alloc (Nat.le_refl _) (.cells #[.int .i64 cn,.int .i64 cf,.int .i64 ct,.int .i64 ch,.int .i64 ca,.bool cb,.slice av m m] 118))
   have HXA:=zh (heap_alloc_new wr (.cells #[.int .i64 cn,.int .i64 cf,.int .i64 ct,.int .i64 ch,.int .i64 ca,.bool cb,.slice av m m] 118))
   go_upto_region 8 with fail
   obtain⟨pb,hpb⟩:∃ pb,pb=wr.heap.size:=⟨_,rfl⟩
   rw[← hpb]at HXA ⊢
   clear hpb
   have HXC:=zh (kept_block HC5.out HBA.out)
   have HBW:=zh (q_next HB5.out HBA.out)
   generalize wr.alloc (.cells #[.int .i64 cn,.int .i64 cf,.int .i64 ct,.int .i64 ch,.int .i64 ca,.bool cb,.slice av m m] 118)=W2 at *
   clear p0 p1 p2 p3 p4 p5 p6 HBA HC5 HP5 HB5
   obtain⟨d0,d1,d2,d3,d4,d5,d6,d7⟩:=eight_cells HXC.out
   obtain⟨p0,p1,p2,p3,p4,p5,p6⟩:=seven_cells HXA.out
   go_upto_region 10 with(go_at_call 75;(with_reducible refine(HVC.out _ HBW.out).mono ?_);clear d0 d1 d2 d3 d4 d5 d6 d7 p0 p1 p2 p3 p4 p5 p6;rintro e w7 ⟨rfl,hb7⟩;have HB7:=zh (q_next HBW.out hb7);obtain⟨p0,p1,p2,p3,p4,p5,p6⟩:=seven_cells (kept_block HXA.out hb7);clear hb7)
   go_wp2
   clear p0 p1 p2 p3 p4 p5 p6
   go_roundw
   case rel=>exact .inr ⟨by go_num,HB7⟩
   case measure=>decide
  ·go_wp2
   go_ret
   exact⟨rfl,hb.out⟩
end Go.Proofs.YtjjiikeldpjafaaGreatDoor
/- TopReclaims: chain.At. The conditions: the claim is right. -/
namespace Go.Proofs.YtjjiikeldpjafaaGreatDoor
open Go.RowKit Go.BigFrame
attribute [local go_sem] Oper.semAt_some
def carT:List (Int × Int)→Int→Int→Int
 | [],c,_=>c
 | (a,d)::r,c,t=>if t < a then c else carT r d t
def lastC (c:Int)(l:List (Int × Int)):Int:=l.foldl (fun _ y=>y.2) c
theorem carT_all:∀(l r:List (Int × Int)) (c t:Int),(∀ y∈l,y.1≤t)→carT (l++r) c t=carT r (lastC c l) t
 | [],_,_,_,_=>rfl
 | (a,d)::l,r,c,t,h=>by
  have h1:a≤t:=h (a,d) (.head _)
  show(if t < a then c else carT (l++r) d t)=_
  rw[if_neg (by omega),carT_all l r d t (fun y hy=>h y (.tail _ hy))]
  rfl
theorem carT_stop (l r:List (Int × Int))(x:Int × Int)(c t:Int)(h:∀ y∈l,y.1≤t)(hx:t < x.1):carT (l++x::r) c t=lastC c l:=by
 rw[carT_all l _ c t h]
 show(if t < x.1 then _ else _)=_
 rw[if_pos hx]
theorem lastC_snoc (c:Int)(l:List (Int × Int))(x:Int × Int):lastC c (l++[x])=x.2:=by
 unfold lastC
 rw[List.foldl_append]
 rfl
def NowI (cf t:Int)(w:World)(kb tb:Nat)(pre:List Mom)(W:World):Prop :=
 (∃(p:Int × Int × Int) (a:Option Addr) (n c:Nat),W.heap[kb]?=some (.cells #[.int .i64 p.1,.int .i64 p.2.1,.int .i64 p.2.2,.slice a n c,.int .i64 (lastC cf (pre.map moK))] 124 (0,0)))∧W.heap[tb]?=some (.cells #[.int .i64 t] 3 (0,0))∧Below w.heap.size w W∧(∀ y∈pre.map moK,y.1≤t)
def NowX (cf t:Int)(w:World)(kb tb:Nat)(pre:List Mom)(W:World):Prop:=∃ l x,pre=l++[x]∧t < x.1.1∧NowI cf t w kb tb l W
set_option maxHeartbeats 1000000 in
theorem moments_any (cn cf a0 a1 a2 a3:Int)(bl bp:Nat)(w:World):Calls Tryz.prog 40 #[.agg #[.int .i64 cn,.int .i64 cf,.int .i64 a0,.int .i64 a1,.int .i64 a2,.int .i64 a3,.slice (some ⟨bl,0,none⟩) 1 1,.slice (some ⟨bp,0,none⟩) 1 1]] w fun e w'=>e=.returned (.func (.func 76) #[] #[.pointer (some ⟨w.heap.size,0,none⟩)])∧w'=w.alloc (.cells #[.int .i64 cn,.int .i64 cf,.int .i64 a0,.int .i64 a1,.int .i64 a2,.int .i64 a3,.slice (some ⟨bl,0,none⟩) 1 1,.slice (some ⟨bp,0,none⟩) 1 1] 58):=by
 have hmf:∀(fn:Fn) (first cap:Array Value) (w:World),(Instr.makeFunc fn first cap).run Tryz.prog w=.ok (.func fn first cap) w:=fun _ _ _ _=>rfl
 go_enter Tryz.func40,Tryz.ntmps40
 go_wp2
 go_ret
 exact⟨rfl,rfl⟩
set_option maxHeartbeats 4000000 in
set_option maxRecDepth 100000 in
theorem chainAt_any {a0 a1 a2 a3 cn cf ct ch ca:Int}{o:Option Int}(hc:ClOk a0 a1 a2 a3 cn cf ct ch ca o)(cb:Bool){w:World}{pv:Value}{bp bl:Nat}
  (hp:w.heap[bp]?=some (.cells #[.int .i64 cn,.int .i64 cf,.int .i64 ct,.int .i64 ch,.int .i64 ca,.bool cb,pv] 118 (0,0))) (hv:EvAt w pv o)
  (hl:w.heap[bl]?=some (.cells #[.int .i64 1,.int .i64 0,.int .i64 ch] 116 (0,0))) (t:Int) (ht:0≤t) (ht2:t≤20000000) :
  Calls Tryz.prog 16 #[.agg #[.int .i64 cn,.int .i64 cf,.int .i64 a0,.int .i64 a1,.int .i64 a2,.int .i64 a3,.slice (some ⟨bl,0,none⟩) 1 1,.slice (some ⟨bp,0,none⟩) 1 1],.int .i64 t] w fun e w' =>
   ∃ v,e=.returned (.tuple #[.int .i64 (carT (moL (mcOf a0 a1 a2 a3 cn cf ct ch ca cb) o) cf t),v,.int .i64 0])∧Below w.heap.size w w':=by
 have HVH:=zh (fun W (hW:Below w.heap.size w W)=>validH_any hc cb (kept_block hp hW) (hv.step hW) (kept_block hl hW))
 have HIT:=zh (fun W xb (hW:Below w.heap.size w W) hx=>moments_iter hc cb (xb:=xb) hx (kept_block hp hW) (hv.step hW) (kept_block hl hW))
 clear hc hp hv hl
 generalize moL (mcOf a0 a1 a2 a3 cn cf ct ch ca cb) o=ML at *
 obtain⟨W1,hW1⟩:∃ W1,W1=w.alloc (.cells #[.int .i64 cn,.int .i64 cf,.int .i64 a0,.int .i64 a1,.int .i64 a2,.int .i64 a3,.slice (some ⟨bl,0,none⟩) 1 1,.slice (some ⟨bp,0,none⟩) 1 1] 58):=⟨_,rfl⟩
 have HBW1:Hid (Below w.heap.size w W1):=zh (by rw[hW1];exact br0.alloc (Nat.le_refl _) _)
 have HXW1:Hid (W1.heap[w.heap.size]?=some (.cells #[.int .i64 cn,.int .i64 cf,.int .i64 a0,.int .i64 a1,.int .i64 a2,.int .i64 a3,.slice (some ⟨bl,0,none⟩) 1 1,.slice (some ⟨bp,0,none⟩) 1 1] 58 (0,0))):=zh (by rw[hW1];exact heap_alloc_new w _)
 have hsW1:Hid (W1.heap.size=w.heap.size+1):=zh (by rw[hW1];simp)
 have HWW1:=zh hW1
 clear hW1
 obtain⟨W2,hW2⟩:∃ W2,W2=W1.alloc (.cells #[.int .i64 t] 3):=⟨_,rfl⟩
 have HBW2:Hid (Below W1.heap.size W1 W2):=zh (by rw[hW2];exact br0.alloc (Nat.le_refl _) _)
 have HXW2:Hid (W2.heap[W1.heap.size]?=some (.cells #[.int .i64 t] 3 (0,0))):=zh (by rw[hW2];exact heap_alloc_new W1 _)
 have hsW2:Hid (W2.heap.size=W1.heap.size+1):=zh (by rw[hW2];simp)
 have HWW2:=zh hW2
 clear hW2
 have HB2:=zh (q_next HBW1.out HBW2.out)
 obtain⟨d0,d1,d2,d3,d4,d5,d6,d7⟩:=eight_cells (kept_block HXW1.out HBW2.out)
 have HT2:Hid (W2.heap[w.heap.size+1]?=some (.cells #[.int .i64 t] 3 (0,0))):=zh (by rw[← hsW1.out];exact HXW2.out)
 have e0:=cell_of_row W2 _ 0 _ _ _ HT2.out
 have HS2:Hid (W2.heap.size=w.heap.size+1+1):=zh (by rw[hsW2.out,hsW1.out])
 refine calls_of_callsIn (n:=8) Wide.wide (callsIn_of_wp_marks Tryz.func16 rfl trivial ?_)
 simp only[Tryz.ntmps16,List.size_toArray,List.length_cons,List.length_nil,Nat.reduceAdd,Nat.reduceSub,Array.replicate_succ,Array.replicate_zero,List.push_toArray,List.append_toArray,List.nil_append,List.cons_append]
 refine wpIn_wide.2 ?_
 go_upto_region 1 with fail
 rw[← HWW1.out,← HWW2.out]
 clear HWW1 HWW2
 go_upto_region 3 with(first | (go_at_call 38;(with_reducible refine(HVH.out _ HB2.out).mono ?_);clear d0 d1 d2 d3 d4 d5 d6 d7 e0;rintro e w3 ⟨rfl,hbx⟩;have HB3:=zh hbx;have e0:=cell_of_row w3 _ 0 _ _ _ (kept_block HT2.out hbx);clear hbx) | (go_at_call 39;(with_reducible refine(inH_yes _ _ _ ht ht2 _).mono ?_);rintro e w' ⟨rfl,hw'⟩;replace hw':=hw'.symm;subst hw'))
 clear e0
 obtain⟨d0,d1,d2,d3,d4,d5,d6,d7⟩:=eight_cells (kept_block HXW1.out (q_next HBW2.out HB3.out))
 have HA4:=zh ((Below.refl w3.heap.size w3).alloc (Nat.le_refl _) (.cells #[.int .i64 0,.int .i64 0,.int .i64 0,.slice none 0 0,.int .i64 cf] 124))
 have HK4:=zh (heap_alloc_new w3 (.cells #[.int .i64 0,.int .i64 0,.int .i64 0,.slice none 0 0,.int .i64 cf] 124))
 go_upto_region 4 with fail
 clear d0 d1 d2 d3 d4 d5 d6 d7
 have hk1:w.heap.size+1+1≤w3.heap.size:=by rw[← HS2.out];exact HB3.out.size
 obtain⟨kb,hkb⟩:∃ kb,kb=w3.heap.size:=⟨_,rfl⟩
 rw[← hkb]at HK4 hk1 ⊢
 clear hkb
 have HC4:=zh (kept_block HXW1.out (q_next HBW2.out (q_next HB3.out HA4.out)))
 have HT4:=zh (kept_block HT2.out (q_next HB3.out HA4.out))
 have HB4:=zh (q_next HB2.out (q_next HB3.out HA4.out))
 generalize w3.alloc (.cells #[.int .i64 0,.int .i64 0,.int .i64 0,.slice none 0 0,.int .i64 cf] 124)=W4 at *
 clear HA4 HB3 HB2 HT2 HBW1 HBW2 HXW1 HXW2 HVH
 obtain⟨d0,d1,d2,d3,d4,d5,d6,d7⟩:=eight_cells HC4.out
 go_wp2_with (go_at_call 40;(with_reducible refine(moments_any cn cf a0 a1 a2 a3 bl bp W4).mono ?_);clear d0 d1 d2 d3 d4 d5 d6 d7;rintro e w5 ⟨rfl,hw5⟩;have HW5:=zh hw5;clear hw5)
 have HB45:Hid (Below W4.heap.size W4 w5):=zh (by rw[HW5.out];exact br0.alloc (Nat.le_refl _) _)
 have HX5:Hid (w5.heap[W4.heap.size]?=some (.cells #[.int .i64 cn,.int .i64 cf,.int .i64 a0,.int .i64 a1,.int .i64 a2,.int .i64 a3,.slice (some ⟨bl,0,none⟩) 1 1,.slice (some ⟨bp,0,none⟩) 1 1] 58 (0,0))):=zh (by rw[HW5.out];exact heap_alloc_new W4 _)
 generalize W4.heap.size=xb at HX5 ⊢
 clear HW5
 have HB5:=zh (q_next HB4.out HB45.out)
 have HN5:Hid (NowI cf t w kb (w.heap.size+1) [] w5):=zh ⟨⟨(0,0,0),none,0,0,kept_block HK4.out HB45.out⟩,kept_block HT4.out HB45.out,HB5.out,fun y hy=>absurd hy List.not_mem_nil⟩
 have hk5:kb < w5.heap.size:=(ltA HN5.out.1.choose_spec.choose_spec.choose_spec.choose_spec)
 have HI:=zh (HIT.out w5 xb HB5.out HX5.out)
 clear HIT HB45 HK4 HC4 HT4 HB4 HX5
 have hIab:∀ nb,w5.heap.size+2≤nb→AbideS (fun k=>k=nb) w5.heap.size (NowI cf t w kb (w.heap.size+1)):=fun nb hnb =>
  abideS_and (abideS_ex fun p=>abideS_ex fun a=>abideS_ex fun n=>abideS_ex fun c=>abideS_cells (fun pre=>.cells #[.int .i64 p.1,.int .i64 p.2.1,.int .i64 p.2.2,.slice a n c,.int .i64 (lastC cf (pre.map moK))] 124 (0,0)) (fun _=>rfl) (by omega)) (abideS_and (abideS_cells (fun _=>.cells #[.int .i64 t] 3 (0,0)) (fun _=>rfl) (by omega)) (abideS_and (abideS_below (by omega) (Nat.le_refl _) (fun k hk=>by omega)) (abideS_pure _ _ (fun pre=>∀ y∈pre.map moK,y.1≤t))))
 refine(wpIn_wide (n:=8)).1 ?_
 refine wpIn_rangeN (n:=8) Wide.wide rfl (gf:=76) (lb:=#[.pointer (some ⟨xb,0,none⟩)]) ?ev (fun args w=>?enter) HI.out br0 (fun x=>rfl) (fun nb k h1 h2=>?hrow) (fun _ h h'=>h.trans h') (fun nb W o o' h1 h2 h3 h4=>?kb)
  (fun _=>NowI cf t w kb (w.heap.size+1)) (fun c _ pre W=>c=.exit 0∧NowX cf t w kb (w.heap.size+1) pre W) hIab (fun c nb hnb=>?abx) (fun nb hnb=>HN5.out)
  (fun a x a' W=>∃ q,kb < q∧W.heap[q]?=some (.cells #[.int .i64 x.1.1,.int .i64 x.1.2.1,.int .i64 x.1.2.2,.slice (some ⟨x.2.1.1,0,none⟩) x.2.1.2 x.2.1.2,.int .i64 x.2.2] 124 (0,0))∧a'=⟨(a.tmps.setIfInBounds 22 (.agg #[.int .i64 x.1.1,.int .i64 x.1.2.1,.int .i64 x.1.2.2,.slice (some ⟨x.2.1.1,0,none⟩) x.2.1.2 x.2.1.2,.int .i64 x.2.2])).setIfInBounds 8 (.pointer (some ⟨q,0,none⟩)),[]⟩)
  (fun x a' W l o o' h1 h2 h3 h4=>?a1) (fun nb A C h1 h2=>MoKp.grown h2) (fun l nb pre x W K hI hK=>?assign) (fun lr nb pre x a' W hnb hlt hI hlen hA=>?body) (fun Dm nb xs W hDm hnb hS hI hDd=>?done) (fun Dm c nb pre W hD hnb hS hI hDd=>?stp)
 case ev=>rfl
 case enter=>kernel_rfl
 case hrow=>omega
 case kb =>
  refine⟨by simp[World.putObj],fun k cs T g hT=>?_⟩
  refine(World.putObj_heap_other (fun e=>?_)).trans g
  subst e
  rw[h2]at g
  cases g
  cases h3
 case abx =>
  have hi:=hIab nb hnb
  exact⟨fun pre A C ⟨hc,l,x,h1,h2,h3⟩ hs=>⟨hc,l,x,h1,h2,hi.1 l A C h3 hs⟩,fun pre A C r ⟨hc,l,x,h1,h2,h3⟩ hg hr=>⟨hc,l,x,h1,h2,hi.2 l A C r h3 hg hr⟩⟩
 case a1 =>
  obtain⟨q,hq1,hq,ha⟩:=h1
  exact⟨q,hq1,(World.putObj_heap_other (fun e=>by subst e;rw[h3]at hq;cases hq;cases h4)).trans hq,ha⟩
 case assign =>
  obtain⟨⟨p1,p2,p3⟩,⟨g,n⟩,d⟩:=x
  have hkW:kb < W.heap.size:=(ltA hI.1.choose_spec.choose_spec.choose_spec.choose_spec)
  unfold moE at *
  simp only[List.zip_toArray,List.zip_cons_cons,List.zip_nil_right,List.foldl_toArray',List.foldl_cons,List.foldl_nil,List.setIfInBounds_toArray,List.set_cons_succ,List.set_cons_zero]
  gi_wp2
  exact hK _ _ ⟨W.heap.size,hkW,heap_alloc_new _ _,rfl⟩ (World.grownBy_alloc _ _ _)
 case body =>
  obtain⟨q,hq1,hq,rfl⟩:=hA
  obtain⟨⟨p1,p2,p3⟩,⟨g,n⟩,d⟩:=x
  simp only at hq
  have HI0:=zh hI
  obtain⟨⟨pp,fa,fn,fc,g1⟩,g2,g3,g4⟩:=hI
  have G1:=zh g1
  have G2:=zh g2
  have G3:=zh g3
  have G4:=zh g4
  have hsW:w5.heap.size≤W.heap.size:=by omega
  obtain⟨m0,m1,m2,m3,m4⟩:=five_cells hq
  have e0:=cell_of_row W _ 0 _ _ _ g2
  clear g1 g2 g3 g4
  simp only[List.setIfInBounds_toArray,List.set_cons_succ,List.set_cons_zero]
  by_cases h:t < p1
  ·have HH:=zh h
   gi_wp2
   exact⟨KeepsFrom.refl _ _,rfl,pre,_,rfl,HH.out,HI0.out⟩
  ·obtain⟨k0,k1,k2,k3,k4⟩:=five_cells G1.out
   have zf:∀ j,W.frozen? ⟨kb,j,none⟩=false:=fun j=>by unfold World.frozen?;rw[G1.out];simp
   have HH:=zh h
   have hneq:q≠kb:=by omega
   clear HI0
   gi_wp2
   have hgr:=five_grown W kb (.int .i64 p1) (.int .i64 p2) (.int .i64 p3) (.slice (some ⟨g,0,none⟩) n n) (.int .i64 d)
   have hne:w.heap.size+1≠kb:=by omega
   refine⟨KeepsFrom.of_grownBy hgr (fun j e=>by cases e;exact hk5),⟨hgr.size,fun k cs T g5 hT=>?_⟩,⟨(p1,p2,p3),some ⟨g,0,none⟩,n,n,?_⟩,?_,G3.out.grown hgr (by have:=G3.out.size;omega) (fun j e=>by cases e;omega),fun y hy=>?_⟩
   ·exact(hgr.block _ (ltA g5) (fun e=>by
     cases e
     rw[G1.out]at g5
     cases g5
     exact hT rfl)).trans g5
   ·rw[List.map_append,show List.map moK [(((p1,p2,p3),(g,n),d):Mom)]=[(p1,d)]from rfl,lastC_snoc]
    exact five_heap G1.out _ _ _ _ _
   ·exact(hgr.block _ (ltA G2.out) (fun e=>hne (by injection e with e))).trans G2.out
   ·rw[List.map_append,List.mem_append]at hy
    rcases hy with hy | hy
    ·exact G4.out y hy
    ·rw[List.mem_singleton.1 hy]
     have:=HH.out
     show p1≤t
     omega
 case done =>
  have hcar:carT ML cf t=lastC cf (xs.map moK):=by
   rw[← hS]
   have h:=carT_all (xs.map moK) [] cf t hI.2.2.2
   rw[List.append_nil]at h
   exact h
  have HD:=zh hDd
  have HDm:Hid (w5.heap.size≤Dm):=zh hDm
  have HCAR:=zh hcar
  clear hcar hS hDd hDm hIab HI HN5 hnb
  show Exit.inBlock _ _ _ (Act.mk _ [{ target:=.collected Dm,args:=#[] }]) W
  obtain⟨⟨pp,fa,fn,fc,g1⟩,g2,g3,g4⟩:=hI
  generalize lastC cf (xs.map moK)=LC at *
  have HK:=zh g1
  have HBW:=zh g3
  clear g1 g2 g3 g4
  go_upto_region 8 with fail
  have HDD:Hid (∀ V,Below W.heap.size W V→(V.cell? ⟨kb,4,none⟩=some (.int .i64 LC)∧V.cell? ⟨kb,3,none⟩=some (.slice fa fn fc))):=zh (fun V hV=>by
   obtain⟨k0,k1,k2,k3,k4⟩:=five_cells (kept_block HK.out hV)
   exact⟨k4,k3⟩)
  refine wp_region_noPanic ?_
  refine wp_region_lexB [.q 0,.q 1,.q 2,.q 3,.q 4,.q 5,.q 6] (by kernel_rfl) (by kernel_rfl) (fun _ _ _ _ h=>h) ?_
  iterate 7(refine wpFl_qL (v:=?_) rfl (Or.inl ⟨by rfl,?_⟩) ?_;rotate_left;(focus(intro w' hSw;obtain⟨k4,k3⟩:=HDD.out w' hSw;go_simp;(try with_reducible rfl);done));simp only[Act.put,zzA,zzB,zzC])
  refine wpFl_nil ?_
  refine NoPanic.normal ?_
  go_wp2
  have hdr:=Below.drew (Below.refl W.heap.size W)
  have hM:Marks w5.heap.size [Dm] W.drew:=⟨by simp,fun D' hD'=>by
   rw[List.mem_singleton]at hD'
   subst hD'
   exact⟨HDm.out,kept_block HD.out hdr⟩⟩
  have hsz:w.heap.size≤w5.heap.size:=by omega
  refine leaves_marks (B:=w5.heap.size) [Dm] _ hM (fun W'' hT=>⟨_,results_tmp3 rfl _ _ _,.slice fa fn fc,by rw[HCAR.out];rfl,(HBW.out.trans (hdr.mono HBW.out.size)).trans (hT.below.mono hsz)⟩)
 case stp =>
  obtain⟨rfl,l,x,rfl,hx,hI⟩:=hI
  have hcar:carT ML cf t=lastC cf (l.map moK):=by
   obtain⟨r,hr⟩:=hS
   rw[← hr,List.map_append,List.append_assoc]
   exact carT_stop (l.map moK) r (moK x) cf t hI.2.2.2 hx
  have HD:=zh hDd
  have HDm:Hid (w5.heap.size≤Dm):=zh hD
  have HCAR:=zh hcar
  clear hcar hS hDd hIab HI HN5 hnb hD hx
  refine wpIn_wide.2 ?_
  obtain⟨⟨pp,fa,fn,fc,g1⟩,g2,g3,g4⟩:=hI
  generalize lastC cf (l.map moK)=LC at *
  have HK:=zh g1
  have HBW:=zh g3
  clear g1 g2 g3 g4
  go_upto_region 8 with fail
  have HDD:Hid (∀ V,Below W.heap.size W V→(V.cell? ⟨kb,4,none⟩=some (.int .i64 LC)∧V.cell? ⟨kb,3,none⟩=some (.slice fa fn fc))):=zh (fun V hV=>by
   obtain⟨k0,k1,k2,k3,k4⟩:=five_cells (kept_block HK.out hV)
   exact⟨k4,k3⟩)
  refine wp_region_noPanic ?_
  refine wp_region_lexB [.q 0,.q 1,.q 2,.q 3,.q 4,.q 5,.q 6] (by kernel_rfl) (by kernel_rfl) (fun _ _ _ _ h=>h) ?_
  iterate 7(refine wpFl_qL (v:=?_) rfl (Or.inl ⟨by rfl,?_⟩) ?_;rotate_left;(focus(intro w' hSw;obtain⟨k4,k3⟩:=HDD.out w' hSw;go_simp;(try with_reducible rfl);done));simp only[Act.put,zzA,zzB,zzC])
  refine wpFl_nil ?_
  refine NoPanic.normal ?_
  go_wp2
  have hdr:=Below.drew (Below.refl W.heap.size W)
  have hM:Marks w5.heap.size [Dm] W.drew:=⟨by simp,fun D' hD'=>by
   rw[List.mem_singleton]at hD'
   subst hD'
   exact⟨HDm.out,kept_block HD.out hdr⟩⟩
  have hsz:w.heap.size≤w5.heap.size:=by omega
  refine leaves_marks (B:=w5.heap.size) [Dm] _ hM (fun W'' hT=>⟨_,results_tmp3 rfl _ _ _,.slice fa fn fc,by rw[HCAR.out];rfl,(HBW.out.trans (hdr.mono HBW.out.size)).trans (hT.below.mono hsz)⟩)
end Go.Proofs.YtjjiikeldpjafaaGreatDoor
/- TopReclaims: wire.PutString, reclaim.isFormed, reclaim.Encode. The conditions: sizes. -/
namespace Go.Proofs.YtjjiikeldpjafaaGreatDoor
open Go.RowKit Go.BigFrame
theorem bytesOf_toList (s:ByteArray):bytesOf s.data.toList=s:=by
 apply ByteArray.ext
 unfold bytesOf
 simp
set_option maxHeartbeats 2000000 in
set_option maxRecDepth 100000 in
theorem putString_any (s:ByteArray)(hs:s.size≤65536)(w:World) :
  Calls Tryz.prog 124 #[.string s] w fun e w'=>e=.returned (.tuple #[.string (bytesOf (putN s.size++s.data.toList)),.int .i64 0])∧Below w.heap.size w w':=by
 have HP:=zh (fun W=>wput_nat (s.size:Int) ⟨by omega,by omega⟩ W)
 have hz:(bytesOf (putN (s.size:Int))).size≤4:=by rw[bytesOf_size];exact(putN_lenT _).2
 have HE:Hid (bytesOf (putN (s.size:Int))++s=bytesOf (putN (s.size:Int)++s.data.toList)):=zh (by rw[← bytesOf_append,bytesOf_toList])
 have hn:(s.size:Int)≤65536:=by omega
 have hcat:¬ 9223372036854775807 < (bytesOf (putN (s.size:Int))).size+s.size:=by omega
 generalize bytesOf (putN (s.size:Int))=y at *
 clear hz hs
 rw[← HE.out]
 clear HE
 go_enter Tryz.func124,Tryz.ntmps124
 go_wp2_with (go_at_call 67;(with_reducible refine(HP.out _).mono ?_);rintro e w2 ⟨rfl,hb2⟩)
 go_ret2
 exact⟨rfl,hb2⟩
set_option maxHeartbeats 2000000 in
set_option maxRecDepth 100000 in
theorem isFormedR_yes (num at':Int)(ev:ByteArray)(h1:0≤num)(h2:num≤99999999)(h3:0≤at')(h4:at'≤10000000)(h5:ev.size≤900)(w:World) :
  Calls Tryz.prog 81 #[.agg #[.int .i64 num,.int .i64 at',.string ev]] w fun e w'=>e=.returned (.bool true)∧Below w.heap.size w w':=by
 have HB:=zh ((Below.refl w.heap.size w).alloc (Nat.le_refl _) (.cells #[.int .i64 num,.int .i64 at',.string ev] 73))
 have hz:(ev.size:Int)≤900:=by omega
 go_enter Tryz.func81,Tryz.ntmps81
 go_wp2_with (go_at_call 42;refine(withR_yes _ _ _ (by omega) (by omega) _).mono ?_;rintro e w' ⟨rfl,hw'⟩;replace hw':=hw'.symm;subst hw')
 go_ret
 exact⟨rfl,HB.out⟩
set_option maxHeartbeats 2000000 in
set_option maxRecDepth 100000 in
theorem isChallenge_yes (co oc rs li am:Int)(h1:0≤oc)(h2:oc≤63)(h3:0≤rs)(h4:rs≤7)(h5:0≤co)(h6:co≤99999999)(h7:0≤am)(h8:am≤10000000)(h9:0≤li)(h10:li≤am)(w:World) :
  Calls Tryz.prog 47 #[.agg #[.int .i64 co,.int .i64 oc,.int .i64 rs,.int .i64 li,.int .i64 am]] w fun e w'=>e=.returned (.bool true)∧Below w.heap.size w w':=by
 have HB:=zh ((Below.refl w.heap.size w).alloc (Nat.le_refl _) (.cells #[.int .i64 co,.int .i64 oc,.int .i64 rs,.int .i64 li,.int .i64 am] 64))
 go_enter Tryz.func47,Tryz.ntmps47
 go_wp2_with (go_at_call 42;refine(withR_yes _ _ _ (by omega) (by omega) _).mono ?_;rintro e w' ⟨rfl,hw'⟩;replace hw':=hw'.symm;subst hw')
 go_ret
 exact⟨rfl,HB.out⟩
theorem threeT_cells {b:Nat}{x y z:Value}{T:TypeId}{W:World}(h:W.heap[b]?=some (.cells #[x,y,z] T (0,0))) :
  W.cell? ⟨b,0,none⟩=some x∧W.cell? ⟨b,1,none⟩=some y∧W.cell? ⟨b,2,none⟩=some z :=
 ⟨cell_of_row W _ 0 _ _ _ h,cell_of_row W _ 1 _ _ _ h,cell_of_row W _ 2 _ _ _ h⟩
set_option maxHeartbeats 2000000 in
set_option maxRecDepth 100000 in
theorem encodeR_any (num at':Int)(ev:ByteArray)(h1:0≤num)(h2:num≤99999999)(h3:0≤at')(h4:at'≤10000000)(h5:ev.size≤900)(w:World) :
  Calls Tryz.prog 84 #[.agg #[.int .i64 num,.int .i64 at',.string ev]] w fun e w'=>e=.returned (.tuple #[.string (caseB num at' ev),.int .i64 0])∧Below w.heap.size w w':=by
 have HF:=zh (fun W=>isFormedR_yes num at' ev h1 h2 h3 h4 h5 W)
 have HP1:=zh (fun W=>wput_nat num ⟨h1,by omega⟩ W)
 have HP2:=zh (fun W=>wput_nat at' ⟨h3,by omega⟩ W)
 have HP3:=zh (fun W=>putString_any ev (by omega) W)
 have z1:(bytesOf (putN num)).size≤4:=by rw[bytesOf_size];exact(putN_lenT _).2
 have z2:(bytesOf (putN at')).size≤4:=by rw[bytesOf_size];exact(putN_lenT _).2
 have z3:(bytesOf (putN ev.size++ev.data.toList)).size≤904:=by rw[bytesOf_size,List.length_append,size_list];have:=(putN_lenT (ev.size:Int)).2;omega
 have HE:Hid (bytesOf (putN num)++bytesOf (putN at')++bytesOf (putN ev.size++ev.data.toList)=caseB num at' ev):=zh (by rw[bytesOf_append,bytesOf_append,List.append_assoc];rfl)
 rw[← HE.out]
 clear HE
 have hc1:¬ 9223372036854775807 < (bytesOf (putN num)).size+(bytesOf (putN at')).size:=by omega
 have hc2:¬ 9223372036854775807 < (bytesOf (putN num)++bytesOf (putN at')).size+(bytesOf (putN ev.size++ev.data.toList)).size:=by rw[ByteArray.size_append];omega
 generalize bytesOf (putN num)=y1 at *
 generalize bytesOf (putN at')=y2 at *
 generalize bytesOf (putN ev.size++ev.data.toList)=y3 at *
 clear z1 z2 z3 h1 h2 h3 h4 h5
 obtain⟨W1,hW1⟩:∃ W1,W1=w.alloc (.cells #[.int .i64 num,.int .i64 at',.string ev] 73):=⟨_,rfl⟩
 have HB1:Hid (Below w.heap.size w W1):=zh (by rw[hW1];exact br0.alloc (Nat.le_refl _) _)
 have HX1:Hid (W1.heap[w.heap.size]?=some (.cells #[.int .i64 num,.int .i64 at',.string ev] 73 (0,0))):=zh (by rw[hW1];exact heap_alloc_new w _)
 have HC:=zh (fun W (hW:Below W1.heap.size W1 W)=>kept_block HX1.out hW)
 have HR:Hid (Below W1.heap.size W1 W1):=zh br0
 have HW1:=zh hW1
 clear hW1
 obtain⟨c0,c1,c2⟩:=threeT_cells (HC.out W1 HR.out)
 go_enter Tryz.func84,Tryz.ntmps84
 go_upto_region 1 with fail
 rw[← HW1.out]
 go_wp2_with (first | (go_at_call 81;(with_reducible refine(HF.out _).mono ?_);clear c0 c1 c2;rintro e w2 ⟨rfl,hbx⟩;replace HR:=zh (q_next HR.out hbx);clear hbx;obtain⟨c0,c1,c2⟩:=threeT_cells (HC.out w2 HR.out)) | (go_at_call 124;(with_reducible refine(HP3.out _).mono ?_);clear c0 c1 c2;rintro e w3 ⟨rfl,hbx⟩;replace HR:=zh (q_next HR.out hbx);clear hbx;obtain⟨c0,c1,c2⟩:=threeT_cells (HC.out w3 HR.out)) | (go_at_call 67;(with_reducible refine(HP1.out _).mono ?_);clear c0 c1 c2;rintro e w4 ⟨rfl,hbx⟩;replace HR:=zh (q_next HR.out hbx);clear hbx;obtain⟨c0,c1,c2⟩:=threeT_cells (HC.out w4 HR.out)) | (go_at_call 67;(with_reducible refine(HP2.out _).mono ?_);clear c0 c1 c2;rintro e w5 ⟨rfl,hbx⟩;replace HR:=zh (q_next HR.out hbx);clear hbx;obtain⟨c0,c1,c2⟩:=threeT_cells (HC.out w5 HR.out)))
 go_ret2
 exact⟨rfl,q_next HB1.out HR.out⟩
end Go.Proofs.YtjjiikeldpjafaaGreatDoor
/- TopReclaims: reclaim.Valid, entries, Answer at one case. The conditions: ranges. -/
namespace Go.Proofs.YtjjiikeldpjafaaGreatDoor
open Go.RowKit Go.BigFrame
attribute [local go_sem] Oper.semAt_some
theorem two_cellsD {W:World}{b:Nat}{c0 c1:Value}{T:TypeId}(h:W.heap[b]?=some (.cells #[c0,c1] T (0,0))):W.cell? ⟨b,0,none⟩=some c0∧W.cell? ⟨b,1,none⟩=some c1:=⟨cell_of_row W b 0 _ _ _ h,cell_of_row W b 1 _ _ _ h⟩
structure CsOk (ct num am:Int) (ev:ByteArray):Prop where
 t:0≤ct∧ct≤7
 n:0≤num∧num≤99999999
 a:0≤am∧am≤10000000
 e:ev.size≤900
set_option maxHeartbeats 4000000 in
set_option maxRecDepth 100000 in
theorem validR_any {ct num am:Int}{ev:ByteArray}(hc:CsOk ct num am ev){w:World}{cb:Nat}(hp:w.heap[cb]?=some (.cells #[.int .i64 num,.int .i64 am,.string ev] 73 (0,0))) :
  Calls Tryz.prog 41 #[.agg #[.int .i64 ct,.slice (some ⟨cb,0,none⟩) 1 1]] w fun e w'=>e=.returned (.bool true)∧Below w.heap.size w w':=by
 have HP:=zh hp
 have HF:=zh (fun W=>isFormedR_yes num am ev hc.n.1 hc.n.2 hc.a.1 hc.a.2 hc.e W)
 have ht:=hc.t
 clear hp hc
 obtain⟨W1,hW1⟩:∃ W1,W1=w.alloc (.cells #[.int .i64 ct,.slice (some ⟨cb,0,none⟩) 1 1] 76):=⟨_,rfl⟩
 have HBW1:Hid (Below w.heap.size w W1):=zh (by rw[hW1];exact br0.alloc (Nat.le_refl _) _)
 have HXW1:Hid (W1.heap[w.heap.size]?=some (.cells #[.int .i64 ct,.slice (some ⟨cb,0,none⟩) 1 1] 76 (0,0))):=zh (by rw[hW1];exact heap_alloc_new w _)
 have hsW1:Hid (W1.heap.size=w.heap.size+1):=zh (by rw[hW1];simp)
 have HWW1:=zh hW1
 clear hW1
 obtain⟨d0,d1⟩:=two_cellsD HXW1.out
 go_enter Tryz.func41,Tryz.ntmps41
 go_upto_region 1 with fail
 rw[← HWW1.out]
 clear HWW1
 go_wp2
 go_loopw [8] (fun i wr=>(i=.int .i64 0∧wr=W1)∨(i=.int .i64 1∧Hid (Below W1.heap.size W1 wr))) (fun i _=>1 - (intOf i).toNat)
 case atStart=>exact .inl ⟨rfl,rfl⟩
 case round =>
  rcases hrel with⟨rfl,rfl⟩ | ⟨rfl,hb⟩
  ·obtain⟨p0,p1,p2⟩:=threeT_cells (kept_block HP.out HBW1.out)
   have HBA:=zh ((Below.refl wr.heap.size wr).alloc (Nat.le_refl _) (.cells #[.int .i64 num,.int .i64 am,.string ev] 73))
   have HXA:=zh (heap_alloc_new wr (.cells #[.int .i64 num,.int .i64 am,.string ev] 73))
   go_upto_region 4 with fail
   obtain⟨pb,hpb⟩:∃ pb,pb=wr.heap.size:=⟨_,rfl⟩
   rw[← hpb]at HXA ⊢
   clear hpb p0 p1 p2 d0 d1
   generalize wr.alloc (.cells #[.int .i64 num,.int .i64 am,.string ev] 73)=W2 at *
   have HD:Hid (∀ V,Below W2.heap.size W2 V→(V.cell? ⟨pb,0,none⟩=some (.int .i64 num)∧V.cell? ⟨pb,1,none⟩=some (.int .i64 am)∧V.cell? ⟨pb,2,none⟩=some (.string ev))):=zh (fun V hV=>threeT_cells (kept_block HXA.out hV))
   refine wp_region_noPanic ?_
   refine wp_region_lexB [.q 0,.b 1,.q 2,.q 3,.q 4,.q 5,.q 6,.q 7,.q 8,.q 9,.q 10,.q 11,.q 12,.q 13,.q 14,.q 15,.q 16,.q 17,.q 18] (by kernel_rfl) (by kernel_rfl) (fun _ _ _ _ h=>h) ?_
   refine wpFl_qL (v:=?_) rfl (Or.inl ⟨by rfl,?_⟩) ?_
   rotate_left
   focus(intro w' hSw;obtain⟨k0,k1,k2⟩:=HD.out w' hSw;go_simp;(try with_reducible rfl);done)
   simp only[Act.put,zzA,zzB,zzC]
   refine wpFl_bL rfl (fun wa hna hsa K hK=>?_)
   go_simp
   go_at_call 81
   (with_reducible refine(HF.out _).mono ?_)
   rintro e w' ⟨rfl,hbb⟩
   have HB:=zh (below_next hsa hbb)
   refine hK.out _ _ HB.out (Keeps.below hbb) ?_
   clear hK K hna hsa hbb
   iterate 5(refine wpFl_qL (v:=?_) rfl (Or.inl ⟨by rfl,?_⟩) ?_;rotate_left;(focus(intro w' hSw;go_simp;(try with_reducible rfl);done));simp only[Act.put,zzA,zzB,zzC])
   iterate 10(refine wpFl_qL (v:=undef) rfl (Or.inr ⟨by rfl,rfl⟩) ?_;simp only[Act.put,zzA,zzB,zzC])
   iterate 2(refine wpFl_qL (v:=?_) rfl (Or.inl ⟨by rfl,?_⟩) ?_;rotate_left;(focus(intro w' hSw;go_simp;(try with_reducible rfl);done));simp only[Act.put,zzA,zzB,zzC])
   refine wpFl_nil ?_
   refine NoPanic.normal ?_
   have HB3:=zh (q_next HBA.out HB.out)
   go_wp2
   go_roundw
   case rel=>exact .inr ⟨by go_num,HB3⟩
   case measure=>decide
  ·clear d0 d1
   obtain⟨d0,d1⟩:=two_cellsD (kept_block HXW1.out hb.out)
   go_wp2_with (go_at_call 42;(with_reducible refine(withR_yes _ _ _ ht.1 ht.2 _).mono ?_);rintro e w' ⟨rfl,hw'⟩;replace hw':=hw'.symm;subst hw')
   go_ret
   exact⟨rfl,q_next HBW1.out hb.out⟩
set_option maxHeartbeats 4000000 in
set_option maxRecDepth 100000 in
theorem entriesR_any {ct num am:Int}{ev:ByteArray}(hc:CsOk ct num am ev){w:World}{cb:Nat}(hp:w.heap[cb]?=some (.cells #[.int .i64 num,.int .i64 am,.string ev] 73 (0,0))) :
  Calls Tryz.prog 46 #[.agg #[.int .i64 ct,.slice (some ⟨cb,0,none⟩) 1 1]] w fun e w'=>∃ a c,e=.returned (.agg #[.int .i64 ct,.slice a 1 c])∧SS w' (.slice a 1 c) [caseB num am ev]∧Below w.heap.size w w':=by
 have HP:=zh hp
 have HEN:=zh (fun W=>encodeR_any num am ev hc.n.1 hc.n.2 hc.a.1 hc.a.2 hc.e W)
 clear hp hc
 generalize caseB num am ev=en at *
 obtain⟨W1,hW1⟩:∃ W1,W1=w.alloc (.cells #[.int .i64 ct,.slice (some ⟨cb,0,none⟩) 1 1] 76):=⟨_,rfl⟩
 have HBW1:Hid (Below w.heap.size w W1):=zh (by rw[hW1];exact br0.alloc (Nat.le_refl _) _)
 have HXW1:Hid (W1.heap[w.heap.size]?=some (.cells #[.int .i64 ct,.slice (some ⟨cb,0,none⟩) 1 1] 76 (0,0))):=zh (by rw[hW1];exact heap_alloc_new w _)
 have hsW1:Hid (W1.heap.size=w.heap.size+1):=zh (by rw[hW1];simp)
 have HWW1:=zh hW1
 clear hW1
 obtain⟨W2,hW2⟩:∃ W2,W2=W1.alloc (.cells #[.int .i64 0,.slice none 0 0] 134):=⟨_,rfl⟩
 have HBW2:Hid (Below W1.heap.size W1 W2):=zh (by rw[hW2];exact br0.alloc (Nat.le_refl _) _)
 have HXW2:Hid (W2.heap[W1.heap.size]?=some (.cells #[.int .i64 0,.slice none 0 0] 134 (0,0))):=zh (by rw[hW2];exact heap_alloc_new W1 _)
 have hsW2:Hid (W2.heap.size=W1.heap.size+1):=zh (by rw[hW2];simp)
 have HWW2:=zh hW2
 clear hW2
 obtain⟨W3,hW3⟩:∃ W3,W3=W2.alloc (.cells #[.int .i64 ct,.slice none 0 0] 134):=⟨_,rfl⟩
 have HBW3:Hid (Below W2.heap.size W2 W3):=zh (by rw[hW3];exact br0.alloc (Nat.le_refl _) _)
 have HXW3:Hid (W3.heap[W2.heap.size]?=some (.cells #[.int .i64 ct,.slice none 0 0] 134 (0,0))):=zh (by rw[hW3];exact heap_alloc_new W2 _)
 have hsW3:Hid (W3.heap.size=W2.heap.size+1):=zh (by rw[hW3];simp)
 have HWW3:=zh hW3
 clear hW3
 have HB3:=zh (q_next HBW1.out (q_next HBW2.out HBW3.out))
 have HR2:Hid (∀ V,Below W3.heap.size W3 V→V.heap[w.heap.size+1]?=some (.cells #[.int .i64 0,.slice none 0 0] 134 (0,0))):=zh (fun V hV=>by rw[← hsW1.out];exact kept_block HXW2.out (q_next HBW3.out hV))
 have HR3:Hid (W3.heap[w.heap.size+1+1]?=some (.cells #[.int .i64 ct,.slice none 0 0] 134 (0,0))):=zh (by rw[← hsW1.out,← hsW2.out];exact HXW3.out)
 obtain⟨d0,d1⟩:=two_cellsD HXW1.out
 go_enter Tryz.func46,Tryz.ntmps46
 go_upto_region 1 with fail
 rw[← HWW1.out,← HWW2.out]
 clear d0 d1
 obtain⟨d0,d1⟩:=two_cellsD (kept_block HXW1.out HBW2.out)
 go_upto_region 2 with fail
 rw[← HWW3.out]
 clear d0 d1 HWW1 HWW2 HWW3
 obtain⟨d0,d1⟩:=two_cellsD (kept_block HXW1.out (q_next HBW2.out HBW3.out))
 rw[hsW2.out,hsW1.out]
 go_wp2
 clear d0 d1
 go_loopw [14] (fun i wr=>(i=.int .i64 0∧wr=W3)∨(i=.int .i64 1∧∃ a c,Hid (wr.heap[w.heap.size+1]?=some (.cells #[.int .i64 0,.slice none 0 0] 134 (0,0)))∧Hid (wr.heap[w.heap.size+1+1]?=some (.cells #[.int .i64 ct,.slice a 1 c] 134 (0,0)))∧Hid (OwnS wr w.heap.size (.slice a 1 c) [en])∧Hid (Below w.heap.size w wr))) (fun i _=>1 - (intOf i).toNat)
 case atStart=>exact .inl ⟨rfl,rfl⟩
 case round =>
  rcases hrel with⟨rfl,rfl⟩ | ⟨rfl,a,c,hz,hr,hs,hb⟩
  ·obtain⟨p0,p1,p2⟩:=threeT_cells (kept_block HP.out HB3.out)
   have HBA:=zh ((Below.refl wr.heap.size wr).alloc (Nat.le_refl _) (.cells #[.int .i64 num,.int .i64 am,.string ev] 73))
   have HXA:=zh (heap_alloc_new wr (.cells #[.int .i64 num,.int .i64 am,.string ev] 73))
   go_upto_region 5 with fail
   generalize wr.alloc (.cells #[.int .i64 num,.int .i64 am,.string ev] 73)=W4 at *
   generalize wr.heap.size=pb at HXA ⊢
   clear p0 p1 p2
   obtain⟨p0,p1,p2⟩:=threeT_cells HXA.out
   go_upto_region 6 with(go_at_call 84;(with_reducible refine(HEN.out _).mono ?_);clear p0 p1 p2;rintro e W5 ⟨rfl,hbb⟩;have HB5:=zh (q_next HBA.out hbb);clear hbb)
   have HR5:=zh (kept_block HR3.out HB5.out)
   have HZ5:=zh (HR2.out W5 HB5.out)
   obtain⟨r0,r1⟩:=two_cellsD HR5.out
   go_wp2_with (refine wpList_append_str (.tmp 24) (.tmp 26) W5.heap.size (.slice none 0 0) [] W5.heap.size en (0,0) (OwnE.nil _ _ _ _) (by simp) (by simp) (heap_alloc_new _ _) rfl rfl rfl rfl ?_;intro v3 w3 ho3 hg3;have HG3:=zh (q_next ((Below.refl _ W5).alloc (Nat.le_refl _) _) (below_of_none hg3));have HO3:=zh ho3;clear ho3 hg3 r0 r1;obtain⟨a3,c3,hv3⟩:=OwnE.form HO3.out;subst hv3;have HR6:=zh (kept_block HR5.out HG3.out);obtain⟨r0,r1⟩:=two_cellsD HR6.out;have zf:∀ j,w3.frozen? ⟨w.heap.size+1+1,j,none⟩=false:=(fun j=>by unfold World.frozen?;rw[HR6.out];simp))
   clear r0 r1 zf
   have hst:w3.grownBy (w3.setCell ⟨w.heap.size+1+1,1,none⟩ (.slice a3 1 c3)) (some (w.heap.size+1+1)):=grown_setCell (grown_refl _ _) ⟨w.heap.size+1+1,1,none⟩ (.inl rfl) _
   have hz7:=(Below.heap_setCell w3 ⟨w.heap.size+1+1,1,none⟩ (.slice a3 1 c3) _ (show w.heap.size+1≠w.heap.size+1+1 by omega)).trans (kept_block HZ5.out HG3.out)
   have hr7:=heap_setCell_same (i:=1) (.slice a3 1 c3) HR6.out
   simp only[List.setIfInBounds_toArray,List.set_cons_zero,List.set_cons_succ]at hr7
   have hs7:=OwnE.mono (base':=w.heap.size) (OwnE.grownX HO3.out HR6.out (fun c e=>by cases e) hst) (q_next HB3.out HB5.out).size
   have hb7:=(q_next (q_next HB3.out HB5.out) HG3.out).setCell (p:=⟨w.heap.size+1+1,1,none⟩) (by show w.heap.size≤w.heap.size+1+1;omega) (.slice a3 1 c3)
   have HALL:=zh (And.intro hz7 (And.intro hr7 (And.intro hs7 hb7)))
   clear hst hz7 hr7 hs7 hb7
   go_roundw
   case rel=>exact .inr ⟨by go_num,_,_,zh HALL.out.1,zh HALL.out.2.1,zh HALL.out.2.2.1,zh HALL.out.2.2.2⟩
   case measure=>decide
  ·obtain⟨r0,r1⟩:=two_cellsD hr.out
   obtain⟨z0,z1⟩:=two_cellsD hz.out
   have zf:∀ j,wr.frozen? ⟨w.heap.size+1,j,none⟩=false:=(fun j=>by unfold World.frozen?;rw[hz.out];simp)
   go_wp2
   have hb7:=(hb.out.setCell (p:=⟨w.heap.size+1,0,none⟩) (by show w.heap.size≤w.heap.size+1;omega) (.int .i64 ct)).setCell (p:=⟨w.heap.size+1,1,none⟩) (by show w.heap.size≤w.heap.size+1;omega) (.slice a 1 c)
   have hz7:=heap_setCell_same (i:=1) (.slice a 1 c) (heap_setCell_same (i:=0) (.int .i64 ct) hz.out)
   simp only[List.setIfInBounds_toArray,List.set_cons_zero,List.set_cons_succ]at hz7
   have hs7:=OwnE.grownX hs.out hz.out (fun c e=>by cases e) ((grown_setCell (grown_refl wr _) ⟨w.heap.size+1,0,none⟩ (.inl rfl) (.int .i64 ct)).trans (grown_setCell (grown_refl _ _) ⟨w.heap.size+1,1,none⟩ (.inl rfl) (.slice a 1 c)))
   exact bodyPost_ret (results_cell_row rfl _ _ (w.heap.size+1) 134 #[.int .i64 ct,.slice a 1 c] (0,0) _ rfl hz7 Tryz.underlying134 rfl infoReg) rfl ⟨a,c,rfl,OwnS.ss hs7,hb7⟩
end Go.Proofs.YtjjiikeldpjafaaGreatDoor
/- TopReclaims: reclaim.Answer at one case. The conditions: ranges. -/
namespace Go.Proofs.YtjjiikeldpjafaaGreatDoor
open Go.RowKit Go.BigFrame
attribute [local go_sem] Oper.semAt_some
theorem SliceAt.grownTT {w w':World}{v:Value}{size:Nat}{cs:List (List Value)}{T:TypeId}(h:SliceAt w v size cs)(ht:RowTy w T v){r:Option Nat}(hg:w.grownBy w' r)(hr:∀ k,r=some k→∀ cs fr,w.heap[k]?≠some (.cells cs T fr)):SliceAt w' v size cs∧RowTy w' T v:=by
 have key:∀(a:Addr) (n c:Nat),v=.slice (some a) n c→n=0∨w'.heap[a.block]?=w.heap[a.block]?:=fun a n c e=>by
  rcases ht a n c e with h0 | ⟨cs,fr,h0⟩
  ·exact .inl h0
  ·refine .inr (hg.block _ (ltA h0) (fun e'=>?_))
   exact hr _ e'.symm cs fr h0
 refine⟨?_,fun a n c e=>?_⟩
 ·obtain⟨a,cap,hv,h1,h2,h3⟩:=h
  refine⟨a,cap,hv,h1,h2,?_⟩
  rcases h3 with h3 | ⟨b,off,rfl,hb,hc⟩
  ·exact .inl h3
  ·rcases key _ _ _ hv with h0 | h0
   ·exact .inl (List.eq_nil_of_length_eq_zero h0)
   ·refine .inr ⟨b,off,rfl,Nat.lt_of_lt_of_le hb hg.size,fun i c hi j u hj=>?_⟩
    have:=hc i c hi j u hj
    rw[← this]
    simp[World.cell?,h0]
 ·rcases key a n c e with h0 | h0
  ·exact .inl h0
  ·rcases ht a n c e with h1 | ⟨cs,fr,h1⟩
   ·exact .inl h1
   ·exact .inr ⟨cs,fr,h0.trans h1⟩
theorem ISt.grownT {w w':World}{v:Value}{ys:List (ItemP × Value)}(hi:ISt w v ys){b:Nat}{cs:Array Value}{T:TypeId}{fr:Nat × Nat}(hb:w.heap[b]?=some (.cells cs T fr))(h1:T≠180)(h2:T≠9)(hg:w.grownBy w' (some b)):ISt w' v ys:=by
 have n1:∀ U,T≠U→∀ k,some b=some k→∀ cs fr,w.heap[k]?≠some (.cells cs U fr):=fun U hU k e cs' fr' e'=>by
  cases e
  rw[hb]at e'
  cases e'
  exact hU rfl
 obtain⟨a1,a2⟩:=SliceAt.grownTT hi.is.1 hi.ty hg (n1 _ h1)
 have hp:=fun y hy=>SliceAt.grownTT (hi.is.2 y hy) (hi.tp y hy) hg (n1 _ h2)
 exact⟨⟨a1,fun y hy=>(hp y hy).1⟩,a2,fun y hy=>(hp y hy).2⟩
set_option maxHeartbeats 1000000 in
theorem ans1_any (num am:Int)(ev:ByteArray)(w:World):Calls Tryz.prog 44 #[.agg #[.int .i64 num,.int .i64 am,.string ev],.int .i64 num] w fun e w'=>e=.returned (.int .i64 0)∧Below w.heap.size w w':=by
 have hz:num - num=0:=by omega
 have wz:IntKind.i64.wrap 0=0:=by decide +kernel
 obtain⟨W1,hW1⟩:∃ W1,W1=w.alloc (.cells #[.int .i64 num,.int .i64 am,.string ev] 73):=⟨_,rfl⟩
 have HBW1:Hid (Below w.heap.size w W1):=zh (by rw[hW1];exact br0.alloc (Nat.le_refl _) _)
 have HXW1:Hid (W1.heap[w.heap.size]?=some (.cells #[.int .i64 num,.int .i64 am,.string ev] 73 (0,0))):=zh (by rw[hW1];exact heap_alloc_new w _)
 have hsW1:Hid (W1.heap.size=w.heap.size+1):=zh (by rw[hW1];simp)
 have HWW1:=zh hW1
 clear hW1
 obtain⟨p0,p1,p2⟩:=threeT_cells HXW1.out
 go_enter Tryz.func44,Tryz.ntmps44
 go_upto_region 1 with fail
 rw[← HWW1.out]
 go_wp2
 go_ret
 exact⟨rfl,HBW1.out⟩
set_option maxHeartbeats 1000000 in
theorem bsf_one (num am:Int)(ev:ByteArray){w:World}{cb:Nat}(hp:w.heap[cb]?=some (.cells #[.int .i64 num,.int .i64 am,.string ev] 73 (0,0))) :
  Calls Tryz.prog 43 #[.slice (some ⟨cb,0,none⟩) 1 1,.int .i64 num,.func (.func 44) #[] #[]] w fun e w'=>e=.returned (.tuple #[.int .i64 0,.bool true])∧Below w.heap.size w w':=by
 have HA:=zh (fun W=>ans1_any num am ev W)
 have HP:=zh hp
 clear hp
 go_enter Tryz.func43,Tryz.ntmps43
 go_wp2
 go_loopw [9,10] (fun i j wr=>(i=.int .i64 0∧j=.int .i64 1∧wr=w)∨(i=.int .i64 0∧j=.int .i64 0∧Hid (Below w.heap.size w wr))) (fun _ j _=>(intOf j).toNat)
 case atStart=>exact .inl ⟨rfl,rfl,rfl⟩
 case round =>
  rcases hrel with⟨rfl,rfl,rfl⟩ | ⟨rfl,rfl,hB⟩
  ·obtain⟨p0,p1,p2⟩:=threeT_cells HP.out
   go_wp2_with (go_at_call 44;(with_reducible refine(HA.out _).mono ?_);clear p0 p1 p2;rintro e w1 ⟨rfl,hb⟩;have HB:=zh hb;clear hb)
   go_roundw
   case rel=>exact .inr ⟨by go_num,rfl,HB⟩
   case measure=>decide
  ·obtain⟨p0,p1,p2⟩:=threeT_cells (kept_block HP.out hB.out)
   go_wp2_with (go_at_call 44;(with_reducible refine(HA.out _).mono ?_);clear p0 p1 p2;rintro e w1 ⟨rfl,hb⟩;have HB:=zh (q_next hB.out hb);clear hb)
   exact bodyPost_ret (results_tmp2 rfl _ _ _) rfl ⟨rfl,HB.out⟩
theorem show_partT {w:World}{rv vl:Value}{key:ByteArray}{car:Int}{xs:List ByteArray}{is:List Nat}(hr:SS w rv xs)(hl:IL w vl (is.map fun i:Nat=>(i:Int)))(hk:key.size=32)(hv:validB ⟨car,xs⟩=true)(hp:is.Pairwise (· < ·))(hlt:∀ i∈is,i < xs.length)(hll:is.length≤100000)(he:Env w)(hg:0 < w.heap.size)
  (c1 c2:Int) (c3 c4:ByteArray) (its:List ItemP) (hpp:(⟨⟨c1,c2,c3,c4⟩,its⟩:PartP)=partS key car xs xs.length is) :
  Calls Tryz.prog 45 #[.string key,.agg #[.int .i64 car,rv],.int .i64 (xs.length:Int),vl] w fun e w'=>∃(a:Option Addr) (c:Nat) (ys:List (ItemP × Value)),e=.returned (.tuple #[.agg #[.int .i64 c1,.int .i64 c2,.string c3,.string c4,.slice a its.length c],.int .i64 0])∧ys.map (·.1)=its∧ISt w' (.slice a its.length c) ys∧Below w.heap.size w w':=by
 refine(show_yes hr hl hk hv (Nat.le_refl _) (by rw[List.length_map];exact hll) he hg).mono ?_
 have hi:=items_asc xs xs.length is none hp hlt (fun j h=>by cases h)
 unfold partS at hpp
 injection hpp with hh hits
 rintro e w' ⟨h,hb⟩
 rcases h with⟨h0,_⟩ | ⟨v',ys,h1,h2,h3⟩
 ·rw[hi]at h0
  cases h0
 ·rw[hi]at h1
  have h1:=Option.some.inj h1
  rw[← hits]at h1
  rw[← hh]at h2
  obtain⟨a,c,hva,_⟩:=h3.is.opened
  have hyl:ys.length=its.length:=by rw[h1,List.length_map]
  rw[hyl]at hva
  subst hva
  exact⟨a,c,ys,h2,h1.symm,h3,hb⟩
set_option maxHeartbeats 4000000 in
set_option maxRecDepth 100000 in
theorem answer_any {ct num am:Int}{ev:ByteArray}(hc:CsOk ct num am ev){w:World}{cb:Nat}(hp:w.heap[cb]?=some (.cells #[.int .i64 num,.int .i64 am,.string ev] 73 (0,0)))(key:ByteArray)(hk:key.size=32)(he:Env w)(hg:0 < w.heap.size)
  (c1 c2:Int) (c3 c4:ByteArray) (its:List ItemP) (hpp:(⟨⟨c1,c2,c3,c4⟩,its⟩:PartP)=partS key ct [caseB num am ev] 1 [0]) :
  Calls Tryz.prog 18 #[.string key,.agg #[.int .i64 ct,.slice (some ⟨cb,0,none⟩) 1 1],.int .i64 num] w fun e w'=>∃(a:Option Addr) (c:Nat) (ys:List (ItemP × Value)),e=.returned (.tuple #[.agg #[.int .i64 c1,.int .i64 c2,.string c3,.string c4,.slice a 1 c],.int .i64 0])∧ys.map (·.1)=its∧ISt w' (.slice a 1 c) ys∧Below w.heap.size w w':=by
 have hn:=hc.n
 have hil:its.length=1:=by
  have h:=congrArg PartP.items hpp
  simp only at h
  rw[h]
  rfl
 have hval:validB ⟨ct,[caseB num am ev]⟩=true:=by
  unfold validB
  exact decide_eq_true ⟨hc.t.1,hc.t.2,by simp,fun s hs=>by rw[List.mem_singleton.1 hs];exact Nat.le_trans (caseB_size _ _ _) (by have:=hc.e;omega)⟩
 have HV:=zh (fun W (hW:Below w.heap.size w W)=>validR_any hc (kept_block hp hW))
 have HE:=zh (fun W (hW:Below w.heap.size w W)=>entriesR_any hc (kept_block hp hW))
 have HBS:=zh (fun W (hW:Below w.heap.size w W)=>bsf_one num am ev (kept_block hp hW))
 have HSH:Hid (∀ W rv vl,Below w.heap.size w W→SS W rv [caseB num am ev]→IL W vl [0]→Calls Tryz.prog 45 #[.string key,.agg #[.int .i64 ct,rv],.int .i64 1,vl] W fun e w'=>∃(a:Option Addr) (c:Nat) (ys:List (ItemP × Value)),e=.returned (.tuple #[.agg #[.int .i64 c1,.int .i64 c2,.string c3,.string c4,.slice a 1 c],.int .i64 0])∧ys.map (·.1)=its∧ISt w' (.slice a 1 c) ys∧Below W.heap.size W w'):=zh (fun W rv vl hW hs hi=>by
  have h:=show_partT (is:=[0]) hs hi hk hval (by simp) (by simp) (by simp) (he.below hW hg) (Nat.lt_of_lt_of_le hg hW.size) c1 c2 c3 c4 its hpp
  rw[hil]at h
  exact h)
 clear hp hk he hg hpp hval hc hil
 generalize caseB num am ev=en at *
 obtain⟨W1,hW1⟩:∃ W1,W1=w.alloc (.cells #[.int .i64 ct,.slice (some ⟨cb,0,none⟩) 1 1] 76):=⟨_,rfl⟩
 have HBW1:Hid (Below w.heap.size w W1):=zh (by rw[hW1];exact br0.alloc (Nat.le_refl _) _)
 have HXW1:Hid (W1.heap[w.heap.size]?=some (.cells #[.int .i64 ct,.slice (some ⟨cb,0,none⟩) 1 1] 76 (0,0))):=zh (by rw[hW1];exact heap_alloc_new w _)
 have hsW1:Hid (W1.heap.size=w.heap.size+1):=zh (by rw[hW1];simp)
 have HWW1:=zh hW1
 clear hW1
 obtain⟨W2,hW2⟩:∃ W2,W2=W1.alloc (.cells #[.int .i64 0,.int .i64 0,.string ⟨#[]⟩,.string ⟨#[]⟩,.slice none 0 0] 69):=⟨_,rfl⟩
 have HBW2:Hid (Below W1.heap.size W1 W2):=zh (by rw[hW2];exact br0.alloc (Nat.le_refl _) _)
 have HXW2:Hid (W2.heap[W1.heap.size]?=some (.cells #[.int .i64 0,.int .i64 0,.string ⟨#[]⟩,.string ⟨#[]⟩,.slice none 0 0] 69 (0,0))):=zh (by rw[hW2];exact heap_alloc_new W1 _)
 have hsW2:Hid (W2.heap.size=W1.heap.size+1):=zh (by rw[hW2];simp)
 have HWW2:=zh hW2
 clear hW2
 have HB2:=zh (q_next HBW1.out HBW2.out)
 have HD2:=zh (kept_block HXW1.out HBW2.out)
 have HZ2:Hid (W2.heap[w.heap.size+1]?=some (.cells #[.int .i64 0,.int .i64 0,.string ⟨#[]⟩,.string ⟨#[]⟩,.slice none 0 0] 69 (0,0))):=zh (by rw[← hsW1.out];exact HXW2.out)
 obtain⟨d0,d1⟩:=two_cellsD HD2.out
 go_enter Tryz.func18,Tryz.ntmps18
 go_upto_region 1 with fail
 rw[← HWW1.out,← HWW2.out]
 clear HWW1 HWW2
 go_upto_region 3 with(first | (go_at_call 41;(with_reducible refine(HV.out _ HB2.out).mono ?_);clear d0 d1;rintro e w3 ⟨rfl,hbx⟩;have HB3:=zh hbx;clear hbx) | (go_at_call 42;(with_reducible refine(withR_yes _ _ _ hn.1 hn.2 _).mono ?_);rintro e w' ⟨rfl,hw'⟩;replace hw':=hw'.symm;subst hw'))
 obtain⟨d0,d1⟩:=two_cellsD (kept_block HD2.out HB3.out)
 have HB3':=zh (q_next HB2.out HB3.out)
 go_upto_region 5 with(go_at_call 43;(with_reducible refine(HBS.out _ HB3'.out).mono ?_);clear d0 d1;rintro e w4 ⟨rfl,hbx⟩;have HB4:=zh (q_next HB3.out hbx);clear hbx)
 have HA5:=zh ((Below.refl w4.heap.size w4).alloc (Nat.le_refl _) (.cells #[.int .i64 0] 3))
 have HL5:=zh (heap_alloc_new w4 (.cells #[.int .i64 0] 3))
 go_upto_region 13 with fail
 generalize w4.alloc (.cells #[.int .i64 0] 3)=W5 at *
 generalize w4.heap.size=lb at HL5 ⊢
 have HB5:=zh (q_next HB4.out HA5.out)
 have HD:Hid (∀ V,Below W5.heap.size W5 V→(V.cell? ⟨w.heap.size,0,none⟩=some (.int .i64 ct)∧V.cell? ⟨w.heap.size,1,none⟩=some (.slice (some ⟨cb,0,none⟩) 1 1))):=zh (fun V hV=>two_cellsD (kept_block HD2.out (q_next HB5.out hV)))
 have HZ5:=zh (kept_block HZ2.out HB5.out)
 have HBW:=zh (q_next HB2.out HB5.out)
 clear HA5 HB4 HB3 HB3' HB5 HZ2 HD2 HB2 HBW1 HBW2 HXW1 HXW2
 refine wp_region_noPanic ?_
 refine wp_region_lexB [.q 0,.q 1,.q 3,.q 4,.q 5,.q 6,.an 11,.b 2,.b 7,.q 8,.q 9,.q 10,.co 11,.b 12,.q 13] (by kernel_rfl) (by kernel_rfl) (fun _ _ _ _ h=>h) ?_
 iterate 6(refine wpFl_qL (v:=?_) rfl (Or.inl ⟨by rfl,?_⟩) ?_;rotate_left;(focus(intro w' hSw;obtain⟨k0,k1⟩:=HD.out w' hSw;go_simp;(try with_reducible rfl);done));simp only[Act.put,zzA,zzB,zzC])
 refine wpFl_anL rfl (.cells #[.int .i64 0,.int .i64 0,.string ⟨#[]⟩,.string ⟨#[]⟩,.slice none 0 0] 69 (0,0)) (fun n=>.pointer (some ⟨n,0,none⟩)) ⟨by rfl,fun w'=>?_⟩ ?_
 focus(go_simp;done)
 refine wpFl_bL rfl (fun wa hna hsa K hK=>?_)
 go_simp
 go_at_call 46
 (with_reducible refine(HE.out _ (q_next HBW.out hsa)).mono ?_)
 rintro e wb ⟨ra,rc,rfl,hss,hbb⟩
 have HSS:=zh hss
 refine hK.out _ _ (below_next hsa hbb) (Keeps.below hbb) ?_
 clear hK K hna hsa hbb hss
 refine wpFl_bL rfl (fun wc hnc hsc K hK=>?_)
 have HIL:Hid (IL wc (.slice (some ⟨lb,0,none⟩) 1 1) [0]):=zh ⟨some ⟨lb,0,none⟩,1,rfl,Nat.le_refl _,by unfold maxLen;omega,.inr ⟨lb,0,rfl,(Array.getElem?_eq_some_iff.1 (kept_block HL5.out hsc)).1,fun i c hi j u hj=>by
  cases i with
  | zero =>
   obtain rfl:=Option.some.inj hi
   cases j with
   | zero=>obtain rfl:=Option.some.inj hj;exact cell_of_row wc _ 0 _ _ _ (kept_block HL5.out hsc)
   | succ j=>cases hj
  | succ i=>cases hi⟩⟩
 have HS2:=zh (HSH.out wc _ _ (q_next HBW.out hsc) (HSS.out.below hnc) HIL.out)
 go_simp
 go_at_call 45
 (with_reducible refine HS2.out.mono ?_)
 rintro e wd ⟨ia,ic,ys,rfl,hys,his,hbd⟩
 have HIS:=zh his
 have HYS:=zh hys
 refine hK.out _ _ (below_next hsc hbd) (Keeps.below hbd) ?_
 clear hK K hnc hsc hbd his hys HS2 HIL HSS
 iterate 3(refine wpFl_qL (v:=?_) rfl (Or.inl ⟨by rfl,?_⟩) ?_;rotate_left;(focus(intro w' hSw;go_simp;(try with_reducible rfl);done));simp only[Act.put,zzA,zzB,zzC])
 refine wpFl_coL rfl (.cells #[.int .i64 0,.int .i64 0,.string ⟨#[]⟩,.string ⟨#[]⟩,.slice none 0 0] 69 (0,0)) (fun n=>.pointer (some ⟨n,0,none⟩)) (by rfl) (N':=[]) (by rfl) (fun nb we hn_we hs_we hb_nb hz_nb=>?_)
 simp only[Act.put,zzA,zzB,zzC]
 refine wpFl_bL rfl (fun wf hnf hsf K hK=>?_)
 have HZ:=zh (kept_block hz_nb hnf)
 have HIS2:=zh ((HIS.out.below hn_we).below hnf)
 obtain⟨z0,z1,z2,z3,z4⟩:=five_cells HZ.out
 have zf:∀ j,wf.frozen? ⟨nb,j,none⟩=false:=fun j=>by unfold World.frozen?;rw[HZ.out];simp
 go_simp
 have HBD:=zh (five_below hsf hb_nb (.int .i64 c1) (.int .i64 c2) (.string c3) (.string c4) (.slice ia 1 ic))
 have HZN:=zh (five_heap HZ.out (.int .i64 c1) (.int .i64 c2) (.string c3) (.string c4) (.slice ia 1 ic))
 have HIN:=zh (ISt.grownT HIS2.out HZ.out (by decide) (by decide) (five_grown wf nb (.int .i64 c1) (.int .i64 c2) (.string c3) (.string c4) (.slice ia 1 ic)))
 refine hK.out _ _ HBD.out Keeps.nil ?_
 clear hK K hnf hsf z0 z1 z2 z3 z4 zf HZ hn_we hs_we hb_nb hz_nb HIS HIS2
 generalize ((((wf.setCell ⟨nb,0,none⟩ (.int .i64 c1)).setCell ⟨nb,1,none⟩ (.int .i64 c2)).setCell ⟨nb,2,none⟩ (.string c3)).setCell ⟨nb,3,none⟩ (.string c4)).setCell ⟨nb,4,none⟩ (.slice ia 1 ic)=w6 at *
 refine wpFl_qL (v:=?_) rfl (Or.inl ⟨by rfl,?_⟩) ?_
 rotate_left
 focus(intro w' hSw;go_simp;(try with_reducible rfl);done)
 simp only[Act.put,zzA,zzB,zzC]
 refine wpFl_nil ?_
 refine NoPanic.normal ?_
 have HR6:=zh (kept_block HZ5.out HBD.out)
 obtain⟨z0,z1,z2,z3,z4⟩:=five_cells HZN.out
 obtain⟨r0,r1,r2,r3,r4⟩:=five_cells HR6.out
 have zf:∀ j,w6.frozen? ⟨w.heap.size+1,j,none⟩=false:=fun j=>by unfold World.frozen?;rw[HR6.out];simp
 go_wp2
 exact bodyPost_ret (results_cellA_tmp rfl _ (w.heap.size+1) 69 #[.int .i64 c1,.int .i64 c2,.string c3,.string c4,.slice ia 1 ic] (0,0) _ rfl (five_heap HR6.out _ _ _ _ _) Tryz.underlying69 rfl infoPart) rfl ⟨ia,ic,ys,rfl,HYS.out,ISt.grownT HIN.out HR6.out (by decide) (by decide) (five_grown w6 (w.heap.size+1) _ _ _ _ _),five_below (q_next HBW.out HBD.out) (Nat.le_succ _) _ _ _ _ _⟩
end Go.Proofs.YtjjiikeldpjafaaGreatDoor
