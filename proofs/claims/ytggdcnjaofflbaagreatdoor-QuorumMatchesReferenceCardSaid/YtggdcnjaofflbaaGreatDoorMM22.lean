/- Walk of the law: sane. The conditions: the tables of constants. -/
import Derived.Test.YtggdcnjaofflbaaGreatDoorMM21
namespace Go.Proofs.YtggdcnjaofflbaaGreatDoor
open Go.RowKit Go.BigFrame
theorem wp_of_eqQ {P:Program}{c L:Code}{Q:Exit→Act→World→Prop}{a:Act}{w:World}(h:c.wp P Q a w)(e:c=L):L.wp P Q a w:=e ▸ h
theorem run_minS {P:Program}{ts:Array TypeId}{t:TypeId}{w:World}(x y:ByteArray)(h:x.toList < y.toList):(Builtin.min_ ts t #[.string y,.string x]).run P w=.ok (.string x) w:=by
 have h1:Op.bytesLess y.toList x.toList=false:=by
  rw[bytesLess_eq]
  exact decide_eq_false (fun h'=>u8l_irrefl _ (u8l_trans h h'))
 have h2:(y.toList == x.toList)=false:=by
  rw[Bool.eq_false_iff]
  intro e
  rw[beq_iff_eq]at e
  rw[e]at h
  exact u8l_irrefl _ h
 simp[Builtin.min_,Builtin.min2,Op.stringOp,h1,h2,asBool]
theorem run_maxS {P:Program}{ts:Array TypeId}{t:TypeId}{w:World}(x y:ByteArray)(h:x.toList < y.toList):(Builtin.max_ ts t #[.string y,.string x]).run P w=.ok (.string y) w:=by
 have h1:Op.bytesLess y.toList x.toList=false:=by
  rw[bytesLess_eq]
  exact decide_eq_false (fun h'=>u8l_irrefl _ (u8l_trans h h'))
 simp[Builtin.max_,Builtin.max2,Op.stringOp,h1,asBool]
set_option maxHeartbeats 4000000 in
set_option maxRecDepth 100000 in
theorem sane_any {w:World}(heq:QEnv w):Calls Tryz.prog 11 #[] w fun e w'=>e=.returned (.bool true)∧Below w.heap.size w w':=by
 have he:=heq.env
 have hg:=heq.round
 have ht:=heq.tab
 have hgt:=heq.tabs
 have HMA:=zh (made19_any 0 (by unfold I64;omega) w)
 rw[show madeN 0=4 from rfl]at HMA
 have HV0:Hid (∀ W,Calls Tryz.prog 14 #[.int .i64 0] W fun e w'=>e=.returned (.string (valQ 0))∧Below W.heap.size W w'):=zh (fun W=>valN_any 0 (by unfold I64;omega) W)
 have HV1:Hid (∀ W,Calls Tryz.prog 14 #[.int .i64 1] W fun e w'=>e=.returned (.string (valQ 1))∧Below W.heap.size W w'):=zh (fun W=>valN_any 1 (by unfold I64;omega) W)
 have hlt:=val10
 have s0:=valQ_size 0
 have s1:=valQ_size 1
 have hmin:=fun(ts:Array TypeId) (t:TypeId) (W:World)=>run_minS (P:=Tryz.prog) (ts:=ts) (t:=t) (w:=W) _ _ hlt
 have hmax:=fun(ts:Array TypeId) (t:TypeId) (W:World)=>run_maxS (P:=Tryz.prog) (ts:=ts) (t:=t) (w:=W) _ _ hlt
 generalize hy:valQ 0=y at *
 generalize hx:valQ 1=x at *
 have HXE:=zh hx.symm
 have HYE:=zh hy.symm
 clear hx hy
 go_enter Tryz.func11,Tryz.ntmps11
 go_upto_region 3 with(go_at_call 12;refine HMA.out.mono ?_;rintro e w1 ⟨kv,rfl,hks,hb1⟩;obtain⟨ka,kc,hkv,-,-,-⟩:=hks.opened;rw[madeQ_len]at hkv;subst hkv)
 have HKS:=zh hks
 have HB1:=zh hb1
 clear hks hb1
 obtain⟨W3,hW3⟩:∃ W3,W3=(w1.alloc (.cells #[.slice ka 4 kc] 31)).alloc (.cells #[.int .i64 55,.int .i64 0] 25):=⟨_,rfl⟩
 rw[← hW3]
 have HB3:Hid (Below w.heap.size w W3):=zh (by rw[hW3];exact(HB1.out.alloc HB1.out.size _).alloc (by have:=HB1.out.size;simp;omega) _)
 have HX1:Hid (W3.heap[w1.heap.size]?=some (.cells #[.slice ka 4 kc] 31 (0,0))):=zh (by rw[hW3];exact at_past w1 _ _)
 have HX2:Hid (W3.heap[w1.heap.size+1]?=some (.cells #[.int .i64 55,.int .i64 0] 25 (0,0))):=zh (by rw[hW3];exact at_second w1 _ _)
 have HKS3:Hid (SS W3 (.slice ka 4 kc) (madeQ 4)):=zh (HKS.out.below (by rw[hW3];exact(br0.alloc (Nat.le_refl _) _).alloc (by simp) _))
 have HB:=zh (Below.refl W3.heap.size W3)
 obtain⟨b1,hb1'⟩:∃ b1,b1=w1.heap.size:=⟨_,rfl⟩
 rw[← hb1']at HX1 HX2 ⊢
 clear hW3 hb1' HKS HB1 HMA
 go_wp2_with (first | (go_at_call 14;(with_reducible refine(HV0.out _).mono ?_);rintro e w2 ⟨rfl,hb2⟩;replace HB:=zh (q_next HB.out hb2);clear hb2) | (go_at_call 14;(with_reducible refine(HV1.out _).mono ?_);rintro e w2 ⟨rfl,hb2⟩;replace HB:=zh (q_next HB.out hb2);clear hb2))
 have HCL:Hid (∀ W,Below w2.heap.size w2 W→W.cell? ⟨b1+1,0,none⟩=some (.int .i64 55)∧W.cell? ⟨b1+1,1,none⟩=some (.int .i64 0)):=zh fun W hW =>
  ⟨cell_of_row W _ 0 _ _ _ (((q_next HB.out hW).block _ (ltA HX2.out)).trans HX2.out),cell_of_row W _ 1 _ _ _ (((q_next HB.out hW).block _ (ltA HX2.out)).trans HX2.out)⟩
 have HCA:Hid (∀(i:Nat) (v:ByteArray),i < 256→∀ W,Below w2.heap.size w2 W→Calls Tryz.prog 43 #[.int .i64 i,.agg #[.int .i64 55,.int .i64 0],.string v] W fun e w'=>e=.returned (vagg (castL i 55 0 v))∧Below W.heap.size W w'):=zh fun i v hi W hW=>by
  have hBW:=HB3.out.trans ((q_next HB.out hW).mono HB3.out.size)
  exact castL_any i hi 55 0 v W (he.below hBW hg) (Nat.lt_of_lt_of_le hg hBW.size)
 have HC1:=zh (HCA.out 3 y (by omega))
 have HC2:=zh (HCA.out 2 x (by omega))
 have HC3:=zh (HCA.out 1 x (by omega))
 have HC4:=zh (HCA.out 2 y (by omega))
 have HC5:=zh (HCA.out 0 x (by omega))
 obtain⟨v1,hv1⟩:∃ v,v=castL 3 55 0 y:=⟨_,rfl⟩
 obtain⟨v2,hv2⟩:∃ v,v=castL 2 55 0 x:=⟨_,rfl⟩
 obtain⟨v3,hv3⟩:∃ v,v=castL 1 55 0 x:=⟨_,rfl⟩
 obtain⟨v4,hv4⟩:∃ v,v=castL 2 55 0 y:=⟨_,rfl⟩
 obtain⟨v5,hv5⟩:∃ v,v=castL 0 55 0 x:=⟨_,rfl⟩
 rw[← hv1]at HC1
 rw[← hv2]at HC2
 rw[← hv3]at HC3
 rw[← hv4]at HC4
 rw[← hv5]at HC5
 obtain⟨c1,n1,s1',u1,l1⟩:=v1
 obtain⟨c2,n2,s2',u2,l2⟩:=v2
 obtain⟨c3,n3,s3',u3,l3⟩:=v3
 obtain⟨c4,n4,s4',u4,l4⟩:=v4
 obtain⟨c5,n5,s5',u5,l5⟩:=v5
 unfold vagg at HC1 HC2 HC3 HC4 HC5
 simp only at HC1 HC2 HC3 HC4 HC5
 have HVS:=zh (And.intro hv1 (And.intro hv2 (And.intro hv3 (And.intro hv4 hv5))))
 clear hv1 hv2 hv3 hv4 hv5
 refine wp_region_noPanic ?_
 refine wp_region_lexB [.q 0,.q 1,.q 3,.q 4,.q 6,.q 7,.q 9,.q 10,.q 12,.q 13,.b 2,.b 5,.b 8,.b 11,.b 14,.an 15,.co 15,.q 16] (by kernel_rfl) (by kernel_rfl) (fun _ _ _ _ h=>h) ?_
 iterate 10(refine wpFl_qL (v:=?_) rfl (Or.inl ⟨by rfl,?_⟩) ?_;rotate_left;(focus(intro w' hSw;obtain⟨f0,f1⟩:=HCL.out w' hSw;go_simp;(try with_reducible rfl);done));simp only[Act.put,zzA,zzB,zzC])
 refine wpFl_bL rfl (fun wa1 hna1 hsa1 K hK=>?_)
 go_simp
 go_at_call 43
 refine(HC1.out wa1 hsa1).mono ?_
 rintro e wb1 ⟨rfl,hb1⟩
 refine hK.out _ _ (q_next hsa1 hb1) (Keeps.below hb1) ?_
 clear hK K hna1 hsa1 hb1
 refine wpFl_bL rfl (fun wa2 hna2 hsa2 K hK=>?_)
 go_simp
 go_at_call 43
 refine(HC2.out wa2 hsa2).mono ?_
 rintro e wb2 ⟨rfl,hb2⟩
 refine hK.out _ _ (q_next hsa2 hb2) (Keeps.below hb2) ?_
 clear hK K hna2 hsa2 hb2
 refine wpFl_bL rfl (fun wa3 hna3 hsa3 K hK=>?_)
 go_simp
 go_at_call 43
 refine(HC3.out wa3 hsa3).mono ?_
 rintro e wb3 ⟨rfl,hb3⟩
 refine hK.out _ _ (q_next hsa3 hb3) (Keeps.below hb3) ?_
 clear hK K hna3 hsa3 hb3
 refine wpFl_bL rfl (fun wa4 hna4 hsa4 K hK=>?_)
 go_simp
 go_at_call 43
 refine(HC4.out wa4 hsa4).mono ?_
 rintro e wb4 ⟨rfl,hb4⟩
 refine hK.out _ _ (q_next hsa4 hb4) (Keeps.below hb4) ?_
 clear hK K hna4 hsa4 hb4
 refine wpFl_bL rfl (fun wa5 hna5 hsa5 K hK=>?_)
 go_simp
 go_at_call 43
 refine(HC5.out wa5 hsa5).mono ?_
 rintro e wb5 ⟨rfl,hb5⟩
 refine hK.out _ _ (q_next hsa5 hb5) (Keeps.below hb5) ?_
 clear hK K hna5 hsa5 hb5
 refine wpFl_anL rfl (.cells #[.int .i64 c1,.int .i64 n1,.int .i64 s1',.string u1,.string l1,.int .i64 c2,.int .i64 n2,.int .i64 s2',.string u2,.string l2,.int .i64 c3,.int .i64 n3,.int .i64 s3',.string u3,.string l3,.int .i64 c4,.int .i64 n4,.int .i64 s4',.string u4,.string l4,.int .i64 c5,.int .i64 n5,.int .i64 s5',.string u5,.string l5] 27 (0,0)) (fun n=>.slice (some ⟨n,0,none⟩) 5 5) ⟨by rfl,fun w'=>?_⟩ ?_
 focus(go_simp;done)
 refine wpFl_coL rfl (.cells #[.int .i64 c1,.int .i64 n1,.int .i64 s1',.string u1,.string l1,.int .i64 c2,.int .i64 n2,.int .i64 s2',.string u2,.string l2,.int .i64 c3,.int .i64 n3,.int .i64 s3',.string u3,.string l3,.int .i64 c4,.int .i64 n4,.int .i64 s4',.string u4,.string l4,.int .i64 c5,.int .i64 n5,.int .i64 s5',.string u5,.string l5] 27 (0,0)) (fun n=>.slice (some ⟨n,0,none⟩) 5 5) (by rfl) (N':=[]) (by rfl) (fun bp wp hn_wp hs_wp hb_bp hz_bp=>?_)
 simp only[Act.put,zzA,zzB,zzC]
 refine wpFl_qL (v:=?_) rfl (Or.inl ⟨by rfl,?_⟩) ?_
 rotate_left
 focus(intro w' hSw;go_simp;(try with_reducible rfl);done)
 simp only[Act.put,zzA,zzB,zzC]
 refine wpFl_nil ?_
 refine NoPanic.normal ?_
 have hk:validC (madeQ 4)=true:=madeQ_valid (.inr (.inl rfl))
 have h4:(madeQ 4).length=4:=madeQ_len 4
 have HPOOL:Hid (VS wp (.slice (some ⟨bp,0,none⟩) 5 5) (poolS (madeQ 4) x y)):=zh (by
  have h:=five_votes (v1:=⟨c1,n1,s1',u1,l1⟩) (v2:=⟨c2,n2,s2',u2,l2⟩) (v3:=⟨c3,n3,s3',u3,l3⟩) (v4:=⟨c4,n4,s4',u4,l4⟩) (v5:=⟨c5,n5,s5',u5,l5⟩) hz_bp
  obtain⟨e1,e2,e3,e4,e5⟩:=HVS.out
  rw[e1,e2,e3,e4,e5,castL_vS 3 (by omega) y s0,castL_vS 2 (by omega) x s1,castL_vS 1 (by omega) x s1,castL_vS 2 (by omega) y s0,castL_vS 0 (by omega) x s1]at h
  exact h)
 have HBP:=zh (HB3.out.trans ((q_next HB.out hs_wp).mono HB3.out.size))
 have HK4:=zh (HKS3.out.below (q_next HB.out hs_wp))
 have HC6:Hid (∀ W,Below wp.heap.size wp W→W.cell? ⟨b1,0,none⟩=some (.slice ka 4 kc)∧W.cell? ⟨b1+1,0,none⟩=some (.int .i64 55)∧W.cell? ⟨b1+1,1,none⟩=some (.int .i64 0)):=zh fun W hW =>
  ⟨cell_of_row W _ 0 _ _ _ (((q_next (q_next HB.out hs_wp) hW).block _ (ltA HX1.out)).trans HX1.out),cell_of_row W _ 0 _ _ _ (((q_next (q_next HB.out hs_wp) hW).block _ (ltA HX2.out)).trans HX2.out),cell_of_row W _ 1 _ _ _ (((q_next (q_next HB.out hs_wp) hW).block _ (ltA HX2.out)).trans HX2.out)⟩
 have HPX:Hid (∀ W,Below wp.heap.size wp W→Calls Tryz.prog 34 #[.agg #[.slice ka 4 kc],.agg #[.int .i64 55,.int .i64 0],.string x,.slice (some ⟨bp,0,none⟩) 5 5] W (ProveIs W (some [vS (madeQ 4) x 0,vS (madeQ 4) x 1,vS (madeQ 4) x 2]))):=zh fun W hW=>by
  have hBW:=q_next HBP.out hW
  have h:=prove_any (HK4.out.below hW) (HPOOL.out.below hW) 55 0 x (by rw[s1];decide) (he.below hBW hg) (Nat.lt_of_lt_of_le hg hBW.size) (ht.below hBW hgt) (Nat.lt_of_lt_of_le hgt hBW.size)
  rw[s_prove hk h4 s1 s0 hlt]at h
  exact h
 have HPY:Hid (∀ W,Below wp.heap.size wp W→Calls Tryz.prog 34 #[.agg #[.slice ka 4 kc],.agg #[.int .i64 55,.int .i64 0],.string y,.slice (some ⟨bp,0,none⟩) 5 5] W (ProveIs W none)):=zh fun W hW=>by
  have hBW:=q_next HBP.out hW
  have h:=prove_any (HK4.out.below hW) (HPOOL.out.below hW) 55 0 y (by rw[s0];decide) (he.below hBW hg) (Nat.lt_of_lt_of_le hg hBW.size) (ht.below hBW hgt) (Nat.lt_of_lt_of_le hgt hBW.size)
  rw[s_prove_y hk h4 s1 s0 hlt]at h
  exact h
 obtain⟨f0,f1,f2⟩:=HC6.out wp br0
 go_upto_region 7 with(go_at_call 34;refine(HPX.out _ br0).mono ?_;rintro e w6 ⟨vp,rfl,hp1,hb6⟩;simp only[Option.isSome_some])
 have HVP:=zh hp1
 have HW6:=zh hb6
 clear hp1 hb6 f0 f1 f2
 have HDX:Hid (∀ W,Below wp.heap.size wp W→Calls Tryz.prog 44 #[.agg #[.slice ka 4 kc],.agg #[.int .i64 55,.int .i64 0],.slice (some ⟨bp,0,none⟩) 5 5] W fun e w'=>e=.returned (.tuple #[.string x,.bool true])∧Below W.heap.size W w'):=zh fun W hW=>by
  have hBW:=q_next HBP.out hW
  have h:=decided_any (HK4.out.below hW) (HPOOL.out.below hW) 55 0 (by rw[h4];decide) (he.below hBW hg) (Nat.lt_of_lt_of_le hg hBW.size)
  rw[s_decided hk h4 s1 s0 hlt]at h
  exact h
 have HD1:Hid (∀ W,Below wp.heap.size wp W→Calls Tryz.prog 44 #[.agg #[.slice ka 4 kc],.agg #[.int .i64 55,.int .i64 1],.slice (some ⟨bp,0,none⟩) 5 5] W fun e w'=>e=.returned (.tuple #[.string ⟨#[]⟩,.bool false])∧Below W.heap.size W w'):=zh fun W hW=>by
  have hBW:=q_next HBP.out hW
  have h:=decided_any (HK4.out.below hW) (HPOOL.out.below hW) 55 1 (by rw[h4];decide) (he.below hBW hg) (Nat.lt_of_lt_of_le hg hBW.size)
  rw[s_decided1 hk h4 s1 s0 hlt]at h
  exact h
 obtain⟨f0,f1,f2⟩:=HC6.out w6 HW6.out
 go_upto_region 8 with(go_at_call 34;refine(HPY.out _ HW6.out).mono ?_;rintro e w7 ⟨vq,rfl,hp1,hb7⟩;simp only[Option.isSome_none])
 have HVQ:=zh hp1
 have HW7:=zh (q_next HW6.out hb7)
 replace HVP:=zh (HVP.out.below hb7)
 clear hp1 hb7 f0 f1 f2
 obtain⟨f0,f1,f2⟩:=HC6.out w7 HW7.out
 go_upto_region 9 with(go_at_call 44;refine(HDX.out _ HW7.out).mono ?_;rintro e w8 ⟨rfl,hb8⟩)
 have HW8:=zh (q_next HW7.out hb8)
 replace HVP:=zh (HVP.out.below hb8)
 clear hb8 f0 f1 f2
 obtain⟨f0,f1,f2⟩:=HC6.out w8 HW8.out
 go_upto_region 10 with(go_at_call 44;refine(HD1.out _ HW8.out).mono ?_;rintro e w9 ⟨rfl,hb9⟩)
 have HW9:=zh (q_next HW8.out hb9)
 replace HVP:=zh (HVP.out.below hb9)
 clear hb9 f0 f1 f2
 have HKE2:Hid (∀ W,Calls Tryz.prog 25 #[.int .i64 2] W fun e w'=>e=.returned (.string (keyQ 2))∧Below W.heap.size W w'):=zh fun W=>keyQ_any 2 (by omega) W
 have HKE0:Hid (∀ W,Calls Tryz.prog 25 #[.int .i64 0] W fun e w'=>e=.returned (.string (keyQ 0))∧Below W.heap.size W w'):=zh fun W=>keyQ_any 0 (by omega) W
 have HCN:Hid (∀ W,Below wp.heap.size wp W→Calls Tryz.prog 23 #[.string (keyQ 2),.int .i64 2,.slice (some ⟨bp,0,none⟩) 5 5,.agg #[.int .i64 55,.int .i64 0],.string y] W fun e w'=>e=.returned (.tuple #[.agg #[.int .i64 0,.int .i64 0,.int .i64 0,.string ⟨#[]⟩,.string ⟨#[]⟩],.int .i64 190])∧Below W.heap.size W w'):=zh fun W hW=>by
  have hBW:=q_next HBP.out hW
  have h:=cast_any (keyQ 2) 2 55 0 y (HPOOL.out.below hW) (by rw[keyQ_size];decide) (he.below hBW hg) (Nat.lt_of_lt_of_le hg hBW.size)
  rw[s_cast_no hk h4 s1 s0 hlt]at h
  exact h
 obtain⟨vo,hvo⟩:∃ v,v=vS (madeQ 4) x 0:=⟨_,rfl⟩
 have HCO:Hid (∀ W,Below wp.heap.size wp W→Calls Tryz.prog 23 #[.string (keyQ 0),.int .i64 0,.slice (some ⟨bp,0,none⟩) 5 5,.agg #[.int .i64 55,.int .i64 0],.string x] W fun e w'=>e=.returned (.tuple #[vagg vo,.int .i64 0])∧Below W.heap.size W w'):=zh fun W hW=>by
  have hBW:=q_next HBP.out hW
  have h:=cast_any (keyQ 0) 0 55 0 x (HPOOL.out.below hW) (by rw[keyQ_size];decide) (he.below hBW hg) (Nat.lt_of_lt_of_le hg hBW.size)
  have e0:keyQ 0=(madeQ 4).getD 0 ⟨#[]⟩:=(madeQ_get (by omega)).symm
  have hc:=s_cast hk h4 s1 s0 hlt 0 x (by omega) s1 (poolS (madeQ 4) x y) (s_own hk h4 s1 s0 hlt) (by rw[← e0];rfl)
  rw[← e0,← hvo]at hc
  rw[show((0:Nat):Int)=0 from rfl]at hc
  rw[hc]at h
  exact h
 obtain⟨oc,on1,os,ov,ol⟩:=vo
 have HVO:=zh hvo
 clear hvo
 unfold vagg at HCO
 simp only at HCO
 generalize keyQ 2=key2 at *
 generalize keyQ 0=key0 at *
 refine wp_region_noPanic ?_
 refine wp_region_lexB [.q 1,.q 2,.q 3,.an 8,.b 0,.b 4,.q 5,.q 6,.q 7,.co 8,.b 9,.q 10] (by kernel_rfl) (by kernel_rfl) (fun _ _ _ _ h=>h) ?_
 iterate 3(refine wpFl_qL (v:=?_) rfl (Or.inl ⟨by rfl,?_⟩) ?_;rotate_left;(focus(intro w' hSw;obtain⟨f0,f1,f2⟩:=HC6.out w' (q_next HW9.out hSw);go_simp;(try with_reducible rfl);done));simp only[Act.put,zzA,zzB,zzC])
 refine wpFl_anL rfl (.cells #[.int .i64 0,.int .i64 0,.int .i64 0,.string ⟨#[]⟩,.string ⟨#[]⟩] 27 (0,0)) (fun n=>.pointer (some ⟨n,0,none⟩)) ⟨by rfl,fun w'=>?_⟩ ?_
 focus(go_simp;done)
 refine wpFl_bL rfl (fun waa hnaa hsaa K hK=>?_)
 go_simp
 go_at_call 25
 refine(HKE2.out waa).mono ?_
 rintro e wba ⟨rfl,hba⟩
 refine hK.out _ _ (q_next hsaa hba) (Keeps.below hba) ?_
 clear hK K hnaa hsaa hba
 refine wpFl_bL rfl (fun wca hnca hsca K hK=>?_)
 go_simp
 go_at_call 23
 refine(HCN.out wca (q_next HW9.out hsca)).mono ?_
 rintro e wda ⟨rfl,hba⟩
 refine hK.out _ _ (q_next hsca hba) (Keeps.below hba) ?_
 clear hK K hnca hsca hba
 iterate 3(refine wpFl_qL (v:=?_) rfl (Or.inl ⟨by rfl,?_⟩) ?_;rotate_left;(focus(intro w' hSw;go_simp;(try with_reducible rfl);done));simp only[Act.put,zzA,zzB,zzC])
 refine wpFl_coL rfl (.cells #[.int .i64 0,.int .i64 0,.int .i64 0,.string ⟨#[]⟩,.string ⟨#[]⟩] 27 (0,0)) (fun n=>.pointer (some ⟨n,0,none⟩)) (by rfl) (N':=[]) (by rfl) (fun bva wea hn_wea hs_wea hb_bva hz_bva=>?_)
 simp only[Act.put,zzA,zzB,zzC]
 refine wpFl_bL rfl (fun wfa hnfa hsfa K hK=>?_)
 have HZ:=zh ((hnfa.block bva (ltA hz_bva)).trans hz_bva)
 obtain⟨z0,z1,z2,z3,z4⟩:=vcellsAt HZ.out
 have zf:∀ j,wfa.frozen? ⟨bva,j,none⟩=false:=fun j=>by unfold World.frozen?;rw[HZ.out];simp
 go_simp
 refine hK.out _ _ (vfive_below hsfa hb_bva _ _ _ _ _) Keeps.nil ?_
 clear hK K
 have HBXa:=zh (vfive_heap HZ.out (.int .i64 0) (.int .i64 0) (.int .i64 0) (.string ⟨#[]⟩) (.string ⟨#[]⟩))
 have HBw10:=zh (q_next HW9.out (vfive_below hsfa hb_bva (.int .i64 0) (.int .i64 0) (.int .i64 0) (.string ⟨#[]⟩) (.string ⟨#[]⟩)))
 replace HVP:=zh (HVP.out.below (vfive_below hsfa hb_bva (.int .i64 0) (.int .i64 0) (.int .i64 0) (.string ⟨#[]⟩) (.string ⟨#[]⟩)))
 generalize (((((wfa.setCell ⟨bva,0,none⟩ (.int .i64 0)).setCell ⟨bva,1,none⟩ (.int .i64 0)).setCell ⟨bva,2,none⟩ (.int .i64 0)).setCell ⟨bva,3,none⟩ (.string ⟨#[]⟩)).setCell ⟨bva,4,none⟩ (.string ⟨#[]⟩))=w10 at *
 clear z0 z1 z2 z3 z4 zf HZ hnfa hsfa hb_bva hz_bva hn_wea hs_wea
 refine wpFl_qL (v:=?_) rfl (Or.inl ⟨by rfl,?_⟩) ?_
 rotate_left
 focus(intro w' hSw;go_simp;(try with_reducible rfl);done)
 simp only[Act.put,zzA,zzB,zzC]
 refine wpFl_nil ?_
 refine NoPanic.normal ?_
 go_upto_region 11 with fail
 refine wp_region_noPanic ?_
 refine wp_region_lexB [.q 1,.q 2,.q 3,.an 8,.b 0,.b 4,.q 5,.q 6,.q 7,.co 8,.b 9,.q 10] (by kernel_rfl) (by kernel_rfl) (fun _ _ _ _ h=>h) ?_
 iterate 3(refine wpFl_qL (v:=?_) rfl (Or.inl ⟨by rfl,?_⟩) ?_;rotate_left;(focus(intro w' hSw;obtain⟨f0,f1,f2⟩:=HC6.out w' (q_next HBw10.out hSw);go_simp;(try with_reducible rfl);done));simp only[Act.put,zzA,zzB,zzC])
 refine wpFl_anL rfl (.cells #[.int .i64 0,.int .i64 0,.int .i64 0,.string ⟨#[]⟩,.string ⟨#[]⟩] 27 (0,0)) (fun n=>.pointer (some ⟨n,0,none⟩)) ⟨by rfl,fun w'=>?_⟩ ?_
 focus(go_simp;done)
 refine wpFl_bL rfl (fun wab hnab hsab K hK=>?_)
 go_simp
 go_at_call 25
 refine(HKE0.out wab).mono ?_
 rintro e wbb ⟨rfl,hbb⟩
 refine hK.out _ _ (q_next hsab hbb) (Keeps.below hbb) ?_
 clear hK K hnab hsab hbb
 refine wpFl_bL rfl (fun wcb hncb hscb K hK=>?_)
 go_simp
 go_at_call 23
 refine(HCO.out wcb (q_next HBw10.out hscb)).mono ?_
 rintro e wdb ⟨rfl,hbb⟩
 refine hK.out _ _ (q_next hscb hbb) (Keeps.below hbb) ?_
 clear hK K hncb hscb hbb
 iterate 3(refine wpFl_qL (v:=?_) rfl (Or.inl ⟨by rfl,?_⟩) ?_;rotate_left;(focus(intro w' hSw;go_simp;(try with_reducible rfl);done));simp only[Act.put,zzA,zzB,zzC])
 refine wpFl_coL rfl (.cells #[.int .i64 0,.int .i64 0,.int .i64 0,.string ⟨#[]⟩,.string ⟨#[]⟩] 27 (0,0)) (fun n=>.pointer (some ⟨n,0,none⟩)) (by rfl) (N':=[]) (by rfl) (fun bvb web hn_web hs_web hb_bvb hz_bvb=>?_)
 simp only[Act.put,zzA,zzB,zzC]
 refine wpFl_bL rfl (fun wfb hnfb hsfb K hK=>?_)
 have HZ:=zh ((hnfb.block bvb (ltA hz_bvb)).trans hz_bvb)
 obtain⟨z0,z1,z2,z3,z4⟩:=vcellsAt HZ.out
 have zf:∀ j,wfb.frozen? ⟨bvb,j,none⟩=false:=fun j=>by unfold World.frozen?;rw[HZ.out];simp
 go_simp
 refine hK.out _ _ (vfive_below hsfb hb_bvb _ _ _ _ _) Keeps.nil ?_
 clear hK K
 have HBXb:=zh (vfive_heap HZ.out (.int .i64 oc) (.int .i64 on1) (.int .i64 os) (.string ov) (.string ol))
 have HBw11:=zh (q_next HBw10.out (vfive_below hsfb hb_bvb (.int .i64 oc) (.int .i64 on1) (.int .i64 os) (.string ov) (.string ol)))
 replace HVP:=zh (HVP.out.below (vfive_below hsfb hb_bvb (.int .i64 oc) (.int .i64 on1) (.int .i64 os) (.string ov) (.string ol)))
 generalize (((((wfb.setCell ⟨bvb,0,none⟩ (.int .i64 oc)).setCell ⟨bvb,1,none⟩ (.int .i64 on1)).setCell ⟨bvb,2,none⟩ (.int .i64 os)).setCell ⟨bvb,3,none⟩ (.string ov)).setCell ⟨bvb,4,none⟩ (.string ol))=w11 at *
 clear z0 z1 z2 z3 z4 zf HZ hnfb hsfb hb_bvb hz_bvb hn_web hs_web
 refine wpFl_qL (v:=?_) rfl (Or.inl ⟨by rfl,?_⟩) ?_
 rotate_left
 focus(intro w' hSw;go_simp;(try with_reducible rfl);done)
 simp only[Act.put,zzA,zzB,zzC]
 refine wpFl_nil ?_
 refine NoPanic.normal ?_
 have HDB:Hid (∀ W,Below wp.heap.size wp W→Calls Tryz.prog 35 #[.agg #[.slice ka 4 kc],.slice (some ⟨bp,0,none⟩) 5 5] W (DoubIs W [(vS (madeQ 4) x 2,vS (madeQ 4) y 2)])):=zh fun W hW=>by
  have hBW:=q_next HBP.out hW
  have h:=doubles_any (HK4.out.below hW) (valid_sizes hk) (HPOOL.out.below hW) (he.below hBW hg) (Nat.lt_of_lt_of_le hg hBW.size)
  rw[s_doubles hk h4 s1 s0 hlt]at h
  exact h
 obtain⟨f0,f1,f2⟩:=HC6.out w11 HBw11.out
 go_upto_region 13 with(go_at_call 35;refine(HDB.out _ HBw11.out).mono ?_;rintro e w12 ⟨vd,rfl,hp1,hb12⟩)
 have HVD:=zh hp1
 have HBw12:=zh (q_next HBw11.out hb12)
 replace HVP:=zh (HVP.out.below hb12)
 replace HBXb:=zh ((hb12.block _ (ltA HBXb.out)).trans HBXb.out)
 clear hp1 hb12 f0 f1 f2
 obtain⟨va,hva⟩:∃ v,v=vS (madeQ 4) x 0:=⟨_,rfl⟩
 have HEa:Hid (∀ W,Below w12.heap.size w12 W→Calls Tryz.prog 43 #[.int .i64 0,.agg #[.int .i64 55,.int .i64 0],.string x] W fun e w'=>e=.returned (vagg va)∧Below W.heap.size W w'):=zh fun W hW=>by
  have h:=HCA.out 0 x (by omega) W (q_next hs_wp (q_next HBw12.out hW))
  rw[castL_vS 0 (by omega) x s1,← hva]at h
  exact h
 obtain⟨a1,a2,a3,a4,a5⟩:=va
 unfold vagg at HEa
 simp only at HEa
 have HQa:=zh hva
 clear hva
 obtain⟨vb,hvb⟩:∃ v,v=vS (madeQ 4) x 1:=⟨_,rfl⟩
 have HEb:Hid (∀ W,Below w12.heap.size w12 W→Calls Tryz.prog 43 #[.int .i64 1,.agg #[.int .i64 55,.int .i64 0],.string x] W fun e w'=>e=.returned (vagg vb)∧Below W.heap.size W w'):=zh fun W hW=>by
  have h:=HCA.out 1 x (by omega) W (q_next hs_wp (q_next HBw12.out hW))
  rw[castL_vS 1 (by omega) x s1,← hvb]at h
  exact h
 obtain⟨g1,g2,g3,g4,g5⟩:=vb
 unfold vagg at HEb
 simp only at HEb
 have HQb:=zh hvb
 clear hvb
 obtain⟨vc,hvc⟩:∃ v,v=vS (madeQ 4) x 2:=⟨_,rfl⟩
 have HEc:Hid (∀ W,Below w12.heap.size w12 W→Calls Tryz.prog 43 #[.int .i64 2,.agg #[.int .i64 55,.int .i64 0],.string x] W fun e w'=>e=.returned (vagg vc)∧Below W.heap.size W w'):=zh fun W hW=>by
  have h:=HCA.out 2 x (by omega) W (q_next hs_wp (q_next HBw12.out hW))
  rw[castL_vS 2 (by omega) x s1,← hvc]at h
  exact h
 obtain⟨c1,c2,c3,c4,c5⟩:=vc
 unfold vagg at HEc
 simp only at HEc
 have HQc:=zh hvc
 clear hvc
 obtain⟨vd,hvd⟩:∃ v,v=vS (madeQ 4) y 1:=⟨_,rfl⟩
 have HEd:Hid (∀ W,Below w12.heap.size w12 W→Calls Tryz.prog 43 #[.int .i64 1,.agg #[.int .i64 55,.int .i64 0],.string y] W fun e w'=>e=.returned (vagg vd)∧Below W.heap.size W w'):=zh fun W hW=>by
  have h:=HCA.out 1 y (by omega) W (q_next hs_wp (q_next HBw12.out hW))
  rw[castL_vS 1 (by omega) y s0,← hvd]at h
  exact h
 obtain⟨d1,d2,d3,d4,d5⟩:=vd
 unfold vagg at HEd
 simp only at HEd
 have HQd:=zh hvd
 clear hvd
 obtain⟨ve,hve⟩:∃ v,v=vS (madeQ 4) y 2:=⟨_,rfl⟩
 have HEe:Hid (∀ W,Below w12.heap.size w12 W→Calls Tryz.prog 43 #[.int .i64 2,.agg #[.int .i64 55,.int .i64 0],.string y] W fun e w'=>e=.returned (vagg ve)∧Below W.heap.size W w'):=zh fun W hW=>by
  have h:=HCA.out 2 y (by omega) W (q_next hs_wp (q_next HBw12.out hW))
  rw[castL_vS 2 (by omega) y s0,← hve]at h
  exact h
 obtain⟨e1,e2,e3,e4,e5⟩:=ve
 unfold vagg at HEe
 simp only at HEe
 have HQe:=zh hve
 clear hve
 obtain⟨vf,hvf⟩:∃ v,v=vS (madeQ 4) y 3:=⟨_,rfl⟩
 have HEf:Hid (∀ W,Below w12.heap.size w12 W→Calls Tryz.prog 43 #[.int .i64 3,.agg #[.int .i64 55,.int .i64 0],.string y] W fun e w'=>e=.returned (vagg vf)∧Below W.heap.size W w'):=zh fun W hW=>by
  have h:=HCA.out 3 y (by omega) W (q_next hs_wp (q_next HBw12.out hW))
  rw[castL_vS 3 (by omega) y s0,← hvf]at h
  exact h
 obtain⟨f1,f2,f3,f4,f5⟩:=vf
 unfold vagg at HEf
 simp only at HEf
 have HQf:=zh hvf
 clear hvf
 refine wp_region_noPanic ?_
 refine wp_region_lexB [.q 0,.q 1,.q 2,.q 4,.q 5,.q 7,.q 8,.q 11,.q 12,.q 14,.q 15,.q 17,.q 18,.b 3,.b 6,.b 9,.an 10,.b 13,.b 16,.b 19,.an 20,.co 10,.co 20,.b 21,.q 22,.q 23,.q 24,.q 25,.q 26] (by kernel_rfl) (by kernel_rfl) (fun _ _ _ _ h=>h) ?_
 iterate 13(refine wpFl_qL (v:=?_) rfl (Or.inl ⟨by rfl,?_⟩) ?_;rotate_left;(focus(intro w' hSw;obtain⟨f0,f1,f2⟩:=HC6.out w' (q_next HBw12.out hSw);go_simp;(try with_reducible rfl);done));simp only[Act.put,zzA,zzB,zzC])
 refine wpFl_bL rfl (fun waa hnaa hsaa K hK=>?_)
 go_simp
 go_at_call 43
 refine(HEa.out waa hsaa).mono ?_
 rintro e wba ⟨rfl,hba⟩
 refine hK.out _ _ (q_next hsaa hba) (Keeps.below hba) ?_
 clear hK K hnaa hsaa hba
 refine wpFl_bL rfl (fun wab hnab hsab K hK=>?_)
 go_simp
 go_at_call 43
 refine(HEb.out wab hsab).mono ?_
 rintro e wbb ⟨rfl,hbb⟩
 refine hK.out _ _ (q_next hsab hbb) (Keeps.below hbb) ?_
 clear hK K hnab hsab hbb
 refine wpFl_bL rfl (fun wac hnac hsac K hK=>?_)
 go_simp
 go_at_call 43
 refine(HEc.out wac hsac).mono ?_
 rintro e wbc ⟨rfl,hbc⟩
 refine hK.out _ _ (q_next hsac hbc) (Keeps.below hbc) ?_
 clear hK K hnac hsac hbc
 refine wpFl_anL rfl (.cells #[.int .i64 a1,.int .i64 a2,.int .i64 a3,.string a4,.string a5,.int .i64 g1,.int .i64 g2,.int .i64 g3,.string g4,.string g5,.int .i64 c1,.int .i64 c2,.int .i64 c3,.string c4,.string c5] 27 (0,0)) (fun n=>.slice (some ⟨n,0,none⟩) 3 3) ⟨by rfl,fun w'=>?_⟩ ?_
 focus(go_simp;done)
 refine wpFl_bL rfl (fun wad hnad hsad K hK=>?_)
 go_simp
 go_at_call 43
 refine(HEd.out wad hsad).mono ?_
 rintro e wbd ⟨rfl,hbd⟩
 refine hK.out _ _ (q_next hsad hbd) (Keeps.below hbd) ?_
 clear hK K hnad hsad hbd
 refine wpFl_bL rfl (fun wae hnae hsae K hK=>?_)
 go_simp
 go_at_call 43
 refine(HEe.out wae hsae).mono ?_
 rintro e wbe ⟨rfl,hbe⟩
 refine hK.out _ _ (q_next hsae hbe) (Keeps.below hbe) ?_
 clear hK K hnae hsae hbe
 refine wpFl_bL rfl (fun waf hnaf hsaf K hK=>?_)
 go_simp
 go_at_call 43
 refine(HEf.out waf hsaf).mono ?_
 rintro e wbf ⟨rfl,hbf⟩
 refine hK.out _ _ (q_next hsaf hbf) (Keeps.below hbf) ?_
 clear hK K hnaf hsaf hbf
 refine wpFl_anL rfl (.cells #[.int .i64 d1,.int .i64 d2,.int .i64 d3,.string d4,.string d5,.int .i64 e1,.int .i64 e2,.int .i64 e3,.string e4,.string e5,.int .i64 f1,.int .i64 f2,.int .i64 f3,.string f4,.string f5] 27 (0,0)) (fun n=>.slice (some ⟨n,0,none⟩) 3 3) ⟨by rfl,fun w'=>?_⟩ ?_
 focus(go_simp;done)
 refine wpFl_coL rfl (.cells #[.int .i64 a1,.int .i64 a2,.int .i64 a3,.string a4,.string a5,.int .i64 g1,.int .i64 g2,.int .i64 g3,.string g4,.string g5,.int .i64 c1,.int .i64 c2,.int .i64 c3,.string c4,.string c5] 27 (0,0)) (fun n=>.slice (some ⟨n,0,none⟩) 3 3) (by rfl) (N':=[(20,.cells #[.int .i64 d1,.int .i64 d2,.int .i64 d3,.string d4,.string d5,.int .i64 e1,.int .i64 e2,.int .i64 e3,.string e4,.string e5,.int .i64 f1,.int .i64 f2,.int .i64 f3,.string f4,.string f5] 27 (0,0),fun n=>.slice (some ⟨n,0,none⟩) 3 3)]) (by rfl) (fun bx wx hn_wx hs_wx hb_bx hz_bx=>?_)
 simp only[Act.put,zzA,zzB,zzC]
 refine wpFl_coL rfl (.cells #[.int .i64 d1,.int .i64 d2,.int .i64 d3,.string d4,.string d5,.int .i64 e1,.int .i64 e2,.int .i64 e3,.string e4,.string e5,.int .i64 f1,.int .i64 f2,.int .i64 f3,.string f4,.string f5] 27 (0,0)) (fun n=>.slice (some ⟨n,0,none⟩) 3 3) (by rfl) (N':=[]) (by rfl) (fun by1 wy hn_wy hs_wy hb_by1 hz_by1=>?_)
 simp only[Act.put,zzA,zzB,zzC]
 refine wpFl_bL rfl (fun wz hnz hsz K hK=>?_)
 have HVA:Hid (VS wz (.slice (some ⟨bx,0,none⟩) 3 3) [vS (madeQ 4) x 0,vS (madeQ 4) x 1,vS (madeQ 4) x 2]):=zh (by
  have h:=three_votes (v1:=⟨a1,a2,a3,a4,a5⟩) (v2:=⟨g1,g2,g3,g4,g5⟩) (v3:=⟨c1,c2,c3,c4,c5⟩) ((hnz.block _ (by have:=(ltA hz_bx);have:=hn_wy.size;omega)).trans ((hn_wy.block _ (ltA hz_bx)).trans hz_bx))
  rw[HQa.out,HQb.out,HQc.out]at h
  exact h)
 have HVB:Hid (VS wz (.slice (some ⟨by1,0,none⟩) 3 3) [vS (madeQ 4) y 1,vS (madeQ 4) y 2,vS (madeQ 4) y 3]):=zh (by
  have h:=three_votes (v1:=⟨d1,d2,d3,d4,d5⟩) (v2:=⟨e1,e2,e3,e4,e5⟩) (v3:=⟨f1,f2,f3,f4,f5⟩) ((hnz.block _ (ltA hz_by1)).trans hz_by1)
  rw[HQd.out,HQe.out,HQf.out]at h
  exact h)
 have HBL:Hid (Calls Tryz.prog 31 #[.agg #[.slice ka 4 kc],.slice (some ⟨bx,0,none⟩) 3 3,.slice (some ⟨by1,0,none⟩) 3 3] wz (BlameIs wz (some [(vS (madeQ 4) x 1,vS (madeQ 4) y 1),(vS (madeQ 4) x 2,vS (madeQ 4) y 2)]))):=zh (by
  have hW:=q_next HBw12.out hsz
  have hBW:=q_next HBP.out hW
  have h:=blame_good (HK4.out.below hW) HVA.out HVB.out (he.below hBW hg) (Nat.lt_of_lt_of_le hg hBW.size) (Classical.byContradiction fun hn=>by
   have e:=blameV_bad hn
   rw[s_blame hk h4 s1 s0 hlt]at e
   cases e)
  rw[s_blame hk h4 s1 s0 hlt]at h
  exact h)
 go_simp
 go_at_call 31
 refine HBL.out.mono ?_
 rintro e wb1 ⟨vb,rfl,hbl,hbb1⟩
 simp only[Option.isSome_some,if_true,Option.getD_some]at hbl ⊢
 refine hK.out _ _ (q_next hsz hbb1) (Keeps.below hbb1) ?_
 have HLB:=zh hbl
 have HLW:=zh (q_next hsz hbb1)
 clear hK K hbl
 iterate 5(refine wpFl_qL (v:=?_) rfl (Or.inl ⟨by rfl,?_⟩) ?_;rotate_left;(focus(intro w' hSw;go_simp;(try with_reducible rfl);done));simp only[Act.put,zzA,zzB,zzC])
 refine wpFl_nil ?_
 refine NoPanic.normal ?_
 have HEE:Hid (QEnv wb1):=zh (heq.step (HBP.out.trans ((q_next HBw12.out HLW.out).mono HBP.out.size)))
 have HBW:Hid (Below w.heap.size w wb1):=zh (HBP.out.trans ((q_next HBw12.out HLW.out).mono HBP.out.size))
 have HW3:Hid (Below W3.heap.size W3 wb1):=zh (q_next HB.out (q_next hs_wp (q_next HBw12.out HLW.out)))
 have H1:=zh ((HW3.out.block _ (ltA HX1.out)).trans HX1.out)
 have H2:=zh ((HW3.out.block _ (ltA HX2.out)).trans HX2.out)
 have H3:=zh ((HLW.out.block _ (ltA HBXb.out)).trans HBXb.out)
 have HKSE:=zh (HK4.out.below (q_next HBw12.out HLW.out))
 have HPOE:=zh (HPOOL.out.below (q_next HBw12.out HLW.out))
 have HVPE:=zh (HVP.out.below HLW.out)
 have HVDE:=zh (HVD.out.below HLW.out)
 rename_i hKK
 refine hKK _ _ ?_
 refine wp_of_eqQ (sane_tail HEE HBW b1 bvb ka kc x y oc on1 os ov ol (.slice (some ⟨bp,0,none⟩) 5 5) vp vd vb HXE HYE H1 H2 H3 HVO HKSE HPOE HVPE HVDE HLB _ _ _ _ _ _ _ _ _ _ _ _ _ _ _ _ _ _ _ _ _ _ _ _ _ _ _ _ _ _ _ _ _ _ _ _ _ _ _ _ _ _ _ _ _ _ _ _ _ _ _ _ _ _ _ _ _ _ _ _ _ _ _ _ _ _ _ _ _ _ _ _ _ _ _ _ _ _ _ _ _ _ _ _ _ _ _ _ _ _ _ _ _ _ _ _ _ _ _ _ _ _ _ _ _ _ _ _ _ _ _ _ _ _ _ _ _ _ _ _ _ _ _ _ _ _ _ _ _ _ _ _ _ _ _ _ _ _ _ _ _ _ _ _ _ _ _ _ _ _ _ _ _ _ _ _ _ _ _ _ _ _ _ _ _ _ _ _ _ _ _ _ _ _ _ _ _ _ _ _ _ _ _ _ _ _ _ _ _ _ _ _ _ _ _ _ _ _ _ _ _ _ _ _ _ _ _ _ _ _ _ _ _ _ _ _ _ _ _ _ _ _ _ _ _ _ _ _ _ _ _ _ _ _ _ _ _ _ _ _ _ _ _ _ _ _ _ _ _ _ _ _ _ _ _ _ _ _ _ _ _ _ _ _ _ _ _ _ _ _ _ _ _ _ _ _ _ _ _ _ _ _ _ _ _ _ _ _ _ _ _ _ _ _ _ _).choose_spec.2 ?_
 exact tailQS (sane_tail HEE HBW b1 bvb ka kc x y oc on1 os ov ol (.slice (some ⟨bp,0,none⟩) 5 5) vp vd vb HXE HYE H1 H2 H3 HVO HKSE HPOE HVPE HVDE HLB _ _ _ _ _ _ _ _ _ _ _ _ _ _ _ _ _ _ _ _ _ _ _ _ _ _ _ _ _ _ _ _ _ _ _ _ _ _ _ _ _ _ _ _ _ _ _ _ _ _ _ _ _ _ _ _ _ _ _ _ _ _ _ _ _ _ _ _ _ _ _ _ _ _ _ _ _ _ _ _ _ _ _ _ _ _ _ _ _ _ _ _ _ _ _ _ _ _ _ _ _ _ _ _ _ _ _ _ _ _ _ _ _ _ _ _ _ _ _ _ _ _ _ _ _ _ _ _ _ _ _ _ _ _ _ _ _ _ _ _ _ _ _ _ _ _ _ _ _ _ _ _ _ _ _ _ _ _ _ _ _ _ _ _ _ _ _ _ _ _ _ _ _ _ _ _ _ _ _ _ _ _ _ _ _ _ _ _ _ _ _ _ _ _ _ _ _ _ _ _ _ _ _ _ _ _ _ _ _ _ _ _ _ _ _ _ _ _ _ _ _ _ _ _ _ _ _ _ _ _ _ _ _ _ _ _ _ _ _ _ _ _ _ _ _ _ _ _ _ _ _ _ _ _ _ _ _ _ _ _ _ _ _ _ _ _ _ _ _ _ _ _ _ _ _ _ _ _ _ _ _ _ _ _ _ _ _ _ _ _ _ _ _ _ _ _).choose_spec.1
set_option maxHeartbeats 400000 in
theorem rin_any (n lo hi:Int)(w:World) :
  Calls Tryz.prog 91 #[.int .i64 n,.int .i64 lo,.int .i64 hi] w fun e w'=>e=.returned (.bool (decide (lo≤n∧n≤hi)))∧w'=w:=by
 by_cases h1:lo≤n
 ·have hd:decide (lo≤n)=true:=decide_eq_true h1
  go_enter Tryz.func91,Tryz.ntmps91
  go_wp2
  go_ret
  refine⟨ret_bool ?_,rfl⟩
  rw[Bool.eq_iff_iff]
  simp
  try omega
 ·have hd:decide (lo≤n)=false:=decide_eq_false h1
  go_enter Tryz.func91,Tryz.ntmps91
  go_wp2
  go_ret
  refine⟨ret_bool ?_,rfl⟩
  simp
set_option maxHeartbeats 2000000 in
theorem rformed_any (v:VoteP)(w:World) :
  Calls Tryz.prog 64 #[.agg #[.int .i64 v.car,.int .i64 v.num,.int .i64 v.stp,.string v.val,.string v.sl]] w fun e w'=>e=.returned (.bool (formedV v))∧Below w.heap.size w w':=by
 obtain⟨car,num,stp,val,sl⟩:=v
 have e:formedV ⟨car,num,stp,val,sl⟩=(decide (0≤car∧car≤7) && (decide (0≤num∧num≤99999999) && (decide (0≤stp∧stp≤1000) && (decide (val.size=32) && decide (sl.size=32))))):=by
  unfold formedV
  rw[Bool.eq_iff_iff]
  simp
 rw[e]
 have H1:=zh (rin_any car 0 7)
 have H2:=zh (rin_any num 0 99999999)
 have H3:=zh (rin_any stp 0 1000)
 have H4:((val.size:Int) == 32)=decide (val.size=32):=by rw[Bool.eq_iff_iff];simp;omega
 have H5:((sl.size:Int) == 32)=decide (sl.size=32):=by rw[Bool.eq_iff_iff];simp;omega
 generalize decide (0≤car∧car≤7)=b1 at *
 generalize decide (0≤num∧num≤99999999)=b2 at *
 generalize decide (0≤stp∧stp≤1000)=b3 at *
 generalize decide (val.size=32)=b4 at *
 generalize decide (sl.size=32)=b5 at *
 clear e
 obtain⟨W1,hW1⟩:∃ W1,W1=w.alloc (.cells #[.int .i64 car,.int .i64 num,.int .i64 stp,.string val,.string sl] 27):=⟨_,rfl⟩
 have HB1:Hid (Below w.heap.size w W1):=zh (by rw[hW1];exact br0.alloc (Nat.le_refl _) _)
 have HX1:Hid (W1.heap[w.heap.size]?=some (.cells #[.int .i64 car,.int .i64 num,.int .i64 stp,.string val,.string sl] 27 (0,0))):=zh (by rw[hW1];exact heap_alloc_new w _)
 obtain⟨d0,d1,d2,d3,d4⟩:=vcellsAt HX1.out
 have HW1:=zh hW1
 clear hW1
 go_enter Tryz.func64,Tryz.ntmps64
 go_upto_region 1 with fail
 rw[← HW1.out]
 cases b1 <;> cases b2 <;> cases b3 <;> cases b4 <;>
 ·go_wp2_with (go_at_call 91;(first | (with_reducible refine(H1.out _).mono ?_) | (with_reducible refine(H2.out _).mono ?_) | (with_reducible refine(H3.out _).mono ?_));rintro e w1 ⟨rfl,hw'⟩;replace hw':=hw'.symm;subst hw')
  go_ret
  exact⟨rfl,HB1.out⟩
set_option maxHeartbeats 1000000 in
theorem renc_no (v:VoteP)(hf:formedV v=false)(w:World) :
  Calls Tryz.prog 20 #[vagg v] w fun e w'=>e=.returned (.tuple #[.string ⟨#[]⟩,.int .i64 190])∧Below w.heap.size w w':=by
 have HF:=zh hf
 obtain⟨car,num,stp,val,sl⟩:=v
 have H1:=zh (fun W=>rformed_any ⟨car,num,stp,val,sl⟩ W)
 rw[hf]at H1
 obtain⟨W1,hW1⟩:∃ W1,W1=w.alloc (.cells #[.int .i64 car,.int .i64 num,.int .i64 stp,.string val,.string sl] 27):=⟨_,rfl⟩
 have HB1:Hid (Below w.heap.size w W1):=zh (by rw[hW1];exact br0.alloc (Nat.le_refl _) _)
 have HX1:Hid (W1.heap[w.heap.size]?=some (.cells #[.int .i64 car,.int .i64 num,.int .i64 stp,.string val,.string sl] 27 (0,0))):=zh (by rw[hW1];exact heap_alloc_new w _)
 have HC:=zh (fun W (hW:Below W1.heap.size W1 W)=>vcellsAt ((hW.block _ (ltA HX1.out)).trans HX1.out))
 have HW1:=zh hW1
 clear hW1 hf
 simp only[vagg]at H1 ⊢
 go_enter Tryz.func20,Tryz.ntmps20
 go_upto_region 1 with fail
 rw[← HW1.out]
 obtain⟨d0,d1,d2,d3,d4⟩:=HC.out W1 br0
 go_wp2_with (go_at_call 64;(with_reducible refine(H1.out _).mono ?_);rintro e w1 ⟨rfl,h1⟩)
 exact bodyPost_ret (results_tmp2 rfl _ _ _) rfl ⟨rfl,q_next HB1.out h1⟩
set_option maxHeartbeats 1000000 in
theorem renc_yes (v:VoteP)(hf:formedV v=true)(w:World) :
  Calls Tryz.prog 20 #[vagg v] w fun e w'=>e=.returned (.tuple #[.string (encV v),.int .i64 0])∧Below w.heap.size w w':=by
 have HF:=zh hf
 obtain⟨car,num,stp,val,sl⟩:=v
 have H1:=zh (fun W=>rformed_any ⟨car,num,stp,val,sl⟩ W)
 rw[hf]at H1
 obtain⟨W1,hW1⟩:∃ W1,W1=w.alloc (.cells #[.int .i64 car,.int .i64 num,.int .i64 stp,.string val,.string sl] 27):=⟨_,rfl⟩
 have HB1:Hid (Below w.heap.size w W1):=zh (by rw[hW1];exact br0.alloc (Nat.le_refl _) _)
 have HX1:Hid (W1.heap[w.heap.size]?=some (.cells #[.int .i64 car,.int .i64 num,.int .i64 stp,.string val,.string sl] 27 (0,0))):=zh (by rw[hW1];exact heap_alloc_new w _)
 have HC:=zh (fun W (hW:Below W1.heap.size W1 W)=>vcellsAt ((hW.block _ (ltA HX1.out)).trans HX1.out))
 have HW1:=zh hW1
 have HS:=zh (small_formed HF.out)
 have HCO:=zh (fun W=>rcontent_any ⟨car,num,stp,val,sl⟩ HS.out W)
 have hz:=voteC_le HS.out.2.2.2
 have hz2:=(formed_facts HF.out).2.2.2.2
 have hen:encV ⟨car,num,stp,val,sl⟩=voteC ⟨car,num,stp,val,sl⟩++sl:=rfl
 rw[hen]
 simp only at hz2
 clear hen HS HF
 generalize voteC ⟨car,num,stp,val,sl⟩=C at *
 have hs:¬ 9223372036854775807 < C.size+32:=by omega
 clear hW1 hf
 simp only[vagg]at H1 ⊢
 go_enter Tryz.func20,Tryz.ntmps20
 go_upto_region 1 with fail
 rw[← HW1.out]
 obtain⟨d0,d1,d2,d3,d4⟩:=HC.out W1 br0
 go_upto_region 3 with(go_at_call 64;(with_reducible refine(H1.out _).mono ?_);rintro e w1 ⟨rfl,h1⟩)
 have HB2:=zh (q_next HB1.out h1)
 have HC2:=zh (fun W (hW:Below w1.heap.size w1 W)=>HC.out W (q_next h1 hW))
 clear d0 d1 d2 d3 d4
 refine wp_region_noPanic ?_
 refine wp_region_lexB [.q 0,.q 2,.q 3,.b 1,.q 4,.q 5,.q 6] (by kernel_rfl) (by kernel_rfl) (fun _ _ _ _ h=>h) ?_
 iterate 3(refine wpFl_qL (v:=?_) rfl (Or.inl ⟨by rfl,?_⟩) ?_;rotate_left;(focus(intro w' hSw;obtain⟨d0,d1,d2,d3,d4⟩:=HC2.out w' hSw;go_simp;(try with_reducible rfl);done));simp only[Act.put,zzA,zzB,zzC])
 refine wpFl_bL rfl (fun waa hnaa hsaa K hK=>?_)
 go_simp
 go_at_call 40
 (with_reducible refine(HCO.out _).mono ?_)
 rintro e wba ⟨rfl,hba⟩
 have HBF:=zh (q_next hsaa hba)
 refine hK.out _ _ (q_next hsaa hba) (Keeps.below hba) ?_
 clear hK K hnaa hsaa
 iterate 3(refine wpFl_qL (v:=?_) rfl (Or.inl ⟨by rfl,?_⟩) ?_;rotate_left;(focus(intro w' hSw;go_simp;(try with_reducible rfl);done));simp only[Act.put,zzA,zzB,zzC])
 refine wpFl_nil ?_
 refine NoPanic.normal ?_
 go_wp2
 exact bodyPost_ret (results_tmp2 rfl _ _ _) rfl ⟨rfl,q_next HB2.out HBF.out⟩
theorem renc_any (v:VoteP)(o:Option ByteArray)(ho:encodeV v=o)(W:World):Calls Tryz.prog 20 #[vagg v] W fun e w'=>e=.returned (encR o)∧Below W.heap.size W w':=by
 subst ho
 unfold encodeV
 cases hf:formedV v with
 | false=>exact renc_no v hf W
 | true=>exact renc_yes v hf W
set_option maxHeartbeats 400000 in
theorem rfaults_any (a:Option Addr)(n c:Nat)(w:World)(hn:n≤1000) :
  Calls Tryz.prog 107 #[.agg #[.slice a n c]] w fun e w'=>e=.returned (.int .i64 (((n - 1) / 3:Nat):Int))∧Below w.heap.size w w':=by
 have t:((n:Int) - 1).tdiv 3=(((n - 1) / 3:Nat):Int):=by
  rcases Nat.eq_zero_or_pos n with rfl | h
  ·rfl
  ·have e:(n:Int) - 1=((n - 1:Nat):Int):=by omega
   rw[e]
   rfl
 go_enter Tryz.func107,Tryz.ntmps107
 go_wp2
 go_ret
 refine⟨?_,br0.alloc (Nat.le_refl _) _⟩
 exact congrArg (fun x=>Ending.returned (Value.int .i64 x)) (by omega)
set_option maxHeartbeats 400000 in
theorem rquorum_any (a:Option Addr)(n c:Nat)(w:World)(hn:n≤1000) :
  Calls Tryz.prog 72 #[.agg #[.slice a n c]] w fun e w'=>e=.returned (.int .i64 ((2*((n - 1) / 3)+1:Nat):Int))∧Below w.heap.size w w':=by
 have H:=zh (fun W=>rfaults_any a n c W hn)
 obtain⟨f,hf⟩:∃ f,f=(n - 1) / 3:=⟨_,rfl⟩
 have hf2:f≤1000:=by omega
 rw[← hf]at H ⊢
 clear hf
 have hB:Hid (Below w.heap.size w (w.alloc (.cells #[.slice a n c] 31))):=zh (br0.alloc (Nat.le_refl _) _)
 go_enter Tryz.func72,Tryz.ntmps72
 go_wp2_with (go_at_call 107;(with_reducible refine(H.out _).mono ?_);rintro e w1 ⟨rfl,h1⟩)
 go_ret
 refine⟨?_,q_next hB.out h1⟩
 have h2:wrap64 (wrap64 (2*(f:Int))+1)=((2*f+1:Nat):Int):=by
  rw[IntWalk.wrap64_in (2*(f:Int)) ⟨by omega,by omega⟩,IntWalk.wrap64_in _ ⟨by omega,by omega⟩]
  omega
 exact congrArg (fun x=>Ending.returned (Value.int .i64 x)) (by omega)
theorem SS.cellsC {w:World}{ka:Option Addr}{n kc:Nat}{ks:List ByteArray}(h:SS w (.slice ka n kc) ks):n=ks.length∧∀ i k,ks[i]?=some k→∃ b o,ka=some ⟨b,o,none⟩∧b < w.heap.size∧w.cell? ⟨b,o+i,none⟩=some (.string k):=by
 obtain⟨a,c,e,_,_,h3⟩:=h.opened
 injection e with e1 e2 e3
 subst e1
 exact⟨e2,h3⟩
set_option maxHeartbeats 1000000 in
theorem rvalid_any {w:World}{kv:Value}{ks:List ByteArray}(hr:SS w kv ks) :
  Calls Tryz.prog 59 #[.agg #[kv]] w fun e w'=>e=.returned (.bool (validC ks))∧Below w.heap.size w w':=by
 obtain⟨ka,kc,rfl,hkl,hkm,hk3⟩:=hr.opened
 have HK3:=zh hk3
 obtain⟨n,hn⟩:∃ n,n=ks.length:=⟨_,rfl⟩
 rw[← hn]at hkl ⊢
 have HN:=zh hn
 obtain⟨W1,hW1⟩:∃ W1,W1=w.alloc (.cells #[.slice ka n kc] 31):=⟨_,rfl⟩
 have HB1:Hid (Below w.heap.size w W1):=zh (by rw[hW1];exact br0.alloc (Nat.le_refl _) _)
 have c0:W1.cell? ⟨w.heap.size,0,none⟩=some (.slice ka n kc):=cell_of_row W1 _ 0 _ _ _ (by rw[hW1];exact heap_alloc_new w _)
 have HW1:=zh hW1
 obtain⟨ok,hok⟩:∃ ok,ok=decide (n=1∨n=4∨n=7):=⟨_,rfl⟩
 have HV:Hid (validC ks=(ok && ks.all isDig)):=zh (by rw[hok,hn];rfl)
 have HOK:=zh hok
 clear hk3 hn hW1 hkl hkm hr hok
 rw[HV.out]
 cases ok with
 | false =>
  have h:=of_decide_eq_false HOK.out.symm
  have h1:((n:Int) != 1)=true:=by simp;omega
  have h4:((n:Int) != 4)=true:=by simp;omega
  have h7:((n:Int) != 7)=true:=by simp;omega
  go_enter Tryz.func59,Tryz.ntmps59
  go_upto_region 1 with fail
  rw[← HW1.out]
  go_wp2
  go_ret
  exact⟨rfl,HB1.out⟩
 | true =>
  have h:=of_decide_eq_true HOK.out.symm
  have HD0:Hid ((ks.take 0).all isDig=true):=zh rfl
  go_enter Tryz.func59,Tryz.ntmps59
  go_upto_region 1 with fail
  rw[← HW1.out]
  rcases h with rfl | rfl | rfl
  ·
   go_wp2
   go_loopw [4] (fun i wr=>∃ k:Nat,k≤1∧i=.int .i64 k∧Hid ((ks.take k).all isDig=true)∧wr=W1) (fun i _=>1 - (intOf i).toNat)
   case atStart=>exact⟨0,by omega,rfl,HD0,rfl⟩
   case round =>
    obtain⟨k,hk,rfl,hD,rfl⟩:=hrel
    by_cases hlt:k < 1
    ·have tk:(k:Int) < 1:=by omega
     have tk0:(0:Int)≤(k:Int):=by omega
     obtain⟨s,es⟩:∃ s,ks[k]?=some s:=⟨_,List.getElem?_eq_getElem (by rw[← HN.out];exact hlt)⟩
     obtain⟨b,o,rfl,hb,hc⟩:=HK3.out k s es
     have kk:=cell_keepB HB1.out hb hc
     have HT:=zh (show(ks.take (k+1)).all isDig=((ks.take k).all isDig && isDig s) by rw[List.take_add_one,es,List.all_append];simp)
     by_cases hz:s.size=32
     ·go_wp2
      go_roundw
      case rel=>exact⟨k+1,by omega,by go_num,zh (by rw[HT.out,hD.out];exact decide_eq_true hz),by trivial⟩
      case measure=>simp[intOf];omega
     ·have hal:ks.all isDig=false:=by
       rw[List.all_eq_false]
       exact⟨s,List.mem_of_getElem? es,by unfold isDig;simp[hz]⟩
      have hz1:¬ (s.size:Int)=32:=by omega
      go_wp2
      go_ret
      exact⟨by rw[hal];rfl,HB1.out⟩
    ·obtain rfl:k=1:=by omega
     have hal:ks.all isDig=true:=by
      have:=hD.out
      rw[HN.out,List.take_length]at this
      exact this
     go_wp2
     go_ret
     exact⟨by rw[hal];rfl,HB1.out⟩
  ·
   go_wp2
   go_loopw [4] (fun i wr=>∃ k:Nat,k≤4∧i=.int .i64 k∧Hid ((ks.take k).all isDig=true)∧wr=W1) (fun i _=>4 - (intOf i).toNat)
   case atStart=>exact⟨0,by omega,rfl,HD0,rfl⟩
   case round =>
    obtain⟨k,hk,rfl,hD,rfl⟩:=hrel
    by_cases hlt:k < 4
    ·have tk:(k:Int) < 4:=by omega
     have tk0:(0:Int)≤(k:Int):=by omega
     obtain⟨s,es⟩:∃ s,ks[k]?=some s:=⟨_,List.getElem?_eq_getElem (by rw[← HN.out];exact hlt)⟩
     obtain⟨b,o,rfl,hb,hc⟩:=HK3.out k s es
     have kk:=cell_keepB HB1.out hb hc
     have HT:=zh (show(ks.take (k+1)).all isDig=((ks.take k).all isDig && isDig s) by rw[List.take_add_one,es,List.all_append];simp)
     by_cases hz:s.size=32
     ·go_wp2
      go_roundw
      case rel=>exact⟨k+1,by omega,by go_num,zh (by rw[HT.out,hD.out];exact decide_eq_true hz),by trivial⟩
      case measure=>simp[intOf];omega
     ·have hal:ks.all isDig=false:=by
       rw[List.all_eq_false]
       exact⟨s,List.mem_of_getElem? es,by unfold isDig;simp[hz]⟩
      have hz1:¬ (s.size:Int)=32:=by omega
      go_wp2
      go_ret
      exact⟨by rw[hal];rfl,HB1.out⟩
    ·obtain rfl:k=4:=by omega
     have hal:ks.all isDig=true:=by
      have:=hD.out
      rw[HN.out,List.take_length]at this
      exact this
     go_wp2
     go_ret
     exact⟨by rw[hal];rfl,HB1.out⟩
  ·
   go_wp2
   go_loopw [4] (fun i wr=>∃ k:Nat,k≤7∧i=.int .i64 k∧Hid ((ks.take k).all isDig=true)∧wr=W1) (fun i _=>7 - (intOf i).toNat)
   case atStart=>exact⟨0,by omega,rfl,HD0,rfl⟩
   case round =>
    obtain⟨k,hk,rfl,hD,rfl⟩:=hrel
    by_cases hlt:k < 7
    ·have tk:(k:Int) < 7:=by omega
     have tk0:(0:Int)≤(k:Int):=by omega
     obtain⟨s,es⟩:∃ s,ks[k]?=some s:=⟨_,List.getElem?_eq_getElem (by rw[← HN.out];exact hlt)⟩
     obtain⟨b,o,rfl,hb,hc⟩:=HK3.out k s es
     have kk:=cell_keepB HB1.out hb hc
     have HT:=zh (show(ks.take (k+1)).all isDig=((ks.take k).all isDig && isDig s) by rw[List.take_add_one,es,List.all_append];simp)
     by_cases hz:s.size=32
     ·go_wp2
      go_roundw
      case rel=>exact⟨k+1,by omega,by go_num,zh (by rw[HT.out,hD.out];exact decide_eq_true hz),by trivial⟩
      case measure=>simp[intOf];omega
     ·have hal:ks.all isDig=false:=by
       rw[List.all_eq_false]
       exact⟨s,List.mem_of_getElem? es,by unfold isDig;simp[hz]⟩
      have hz1:¬ (s.size:Int)=32:=by omega
      go_wp2
      go_ret
      exact⟨by rw[hal];rfl,HB1.out⟩
    ·obtain rfl:k=7:=by omega
     have hal:ks.all isDig=true:=by
      have:=hD.out
      rw[HN.out,List.take_length]at this
      exact this
     go_wp2
     go_ret
     exact⟨by rw[hal];rfl,HB1.out⟩
end Go.Proofs.YtggdcnjaofflbaaGreatDoor
