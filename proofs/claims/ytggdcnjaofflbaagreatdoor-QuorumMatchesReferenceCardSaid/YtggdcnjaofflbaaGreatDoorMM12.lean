/- Walk of the reference: Bent. The conditions: the integers' ranges. -/
import Derived.Test.YtggdcnjaofflbaaGreatDoorMM11
import Derived.Lib.Small
import Derived.Lib.Bytealg
import Derived.Lib.SlicesCompact
import Derived.Sort.Statements
import Derived.Lib.TrailingZeros
namespace Go.Proofs.YtggdcnjaofflbaaGreatDoor
open Go.RowKit Go.BigFrame
def BnAt (w:World)(P:Array Value)(W:World):Prop:=Below w.heap.size w W∧W.heap[w.heap.size]?=some (.cells P 27 (0,0))∧W.heap[w.heap.size+1]?=some (.cells #[.int .i64 0,.int .i64 0,.int .i64 0,.string ⟨#[]⟩,.string ⟨#[]⟩] 27 (0,0))
theorem BnAt.far {w:World}{P:Array Value}{W W':World}(h:BnAt w P W)(hb:Below W.heap.size W W'):BnAt w P W' :=
 ⟨q_next h.1 hb,(hb.block _ (ltA h.2.1)).trans h.2.1,(hb.block _ (ltA h.2.2)).trans h.2.2⟩
theorem BnAt.set {w:World}{P:Array Value}{W:World}(h:BnAt w P W)(k:Nat)(v:Value){P':Array Value}(e:P.setIfInBounds k v=P'):BnAt w P' (W.setCell ⟨w.heap.size,k,none⟩ v):=by
 subst e
 have hg:W.grownBy (W.setCell ⟨w.heap.size,k,none⟩ v) (some w.heap.size):=grown_setCell (grown_refl _ _) _ (.inl rfl) _
 exact⟨h.1.setCell (p:=⟨w.heap.size,k,none⟩) (Nat.le_refl _) _,heap_setCell_same (i:=k) _ h.2.1,(hg.block _ (ltA h.2.2) (fun e=>by have:=Option.some.inj e;omega)).trans h.2.2⟩
theorem BnAt.free {w:World}{P:Array Value}{W:World}(h:BnAt w P W):(∀ j,W.frozen? ⟨w.heap.size,j,none⟩=false)∧∀ j,W.frozen? ⟨w.heap.size+1,j,none⟩=false:=by
 refine⟨fun j=>?_,fun j=>?_⟩
 ·unfold World.frozen?;rw[h.2.1];simp
 ·unfold World.frozen?;rw[h.2.2];simp
theorem strOf_zeros (m:Nat):strOf (List.replicate m 0)=zerosB m:=by
 unfold strOf zerosB
 simp
theorem zeros_cells (W:World)(m:Nat)(j y:Nat)(h:(List.replicate m 0)[j]?=some y):(W.alloc (.cells (Array.replicate m (.int .u8 0)) 5)).cell? ⟨W.heap.size,0+j,none⟩=some (.int .u8 (y:Nat)):=by
 have hj:j < m:=by
  have:=(List.getElem?_eq_some_iff.1 h).1
  simpa using this
 rw[Nat.zero_add,cell_of_row _ _ j _ _ _ (heap_alloc_new W (.cells (Array.replicate m (.int .u8 0)) 5)),Array.getElem?_replicate,if_pos hj]
 rw[List.getElem?_replicate,if_pos hj]at h
 cases h
 rfl
set_option maxHeartbeats 2000000 in
set_option maxRecDepth 100000 in
theorem bent0 (car num stp:Int)(val sl:ByteArray)(how n:Int)(hh:I64 how)(hn:I64 n)(hk:pickI how 6=0)(w:World) :
  Calls Tryz.prog 17 #[.agg #[.int .i64 car,.int .i64 num,.int .i64 stp,.string val,.string sl],.int .i64 how,.int .i64 n] w fun e w'=>e=.returned (.agg #[.int .i64 n,.int .i64 num,.int .i64 stp,.string val,.string sl])∧Below w.heap.size w w':=by
 have HP:=zh (fun W=>pickQ_any how 6 W hh (by omega) (by omega))
 rw[hk]at HP
 have HV:=zh (fun W=>valN_any n hn W)
 have hpn:=pickI_range n (show(0:Int) < 3 by omega)
 have HP3:=zh (fun W=>pickQ_any n 3 W hn (by omega) (by omega))
 obtain⟨W2,hW2⟩:∃ W2,W2=(w.alloc (.cells #[.int .i64 car,.int .i64 num,.int .i64 stp,.string val,.string sl] 27)).alloc (.cells #[.int .i64 0,.int .i64 0,.int .i64 0,.string ⟨#[]⟩,.string ⟨#[]⟩] 27):=⟨_,rfl⟩
 have HA:Hid (BnAt w #[.int .i64 car,.int .i64 num,.int .i64 stp,.string val,.string sl] W2):=zh (by
  rw[hW2]
  exact⟨(br0.alloc (Nat.le_refl _) _).alloc (by simp) _,at_past w _ _,at_second w _ _⟩)
 have HW2:=zh hW2
 clear hW2 hk hh
 go_enter Tryz.func17,Tryz.ntmps17
 go_upto_block 1 with fail
 rw[← HW2.out]
 obtain⟨zf,ff⟩:=HA.out.free
 obtain⟨d0,d1,d2,d3,d4⟩:=vcellsAt HA.out.2.1
 go_upto_region 13 with(go_at_call 54;(with_reducible refine(HP.out _).mono ?_);rintro e w3 ⟨rfl,hw3⟩;replace hw3:=hw3.symm;subst hw3)
 obtain⟨WX,hWX⟩:∃ WX,WX=W2:=⟨_,rfl⟩
 have HX:=HA
 rw[← hWX]at HX ⊢
 clear hWX
 have HN:Hid (BnAt w #[.int .i64 n,.int .i64 num,.int .i64 stp,.string val,.string sl] (WX.setCell ⟨w.heap.size,0,none⟩ (.int .i64 n))):=zh (HX.out.set 0 (.int .i64 n) rfl)
 generalize WX.setCell ⟨w.heap.size,0,none⟩ (.int .i64 n)=WY at *
 clear zf ff HX HA d0 d1 d2 d3 d4
 have HEND:=zh (HN.out)
 obtain⟨zf,ff⟩:=HN.out.free
 obtain⟨d0,d1,d2,d3,d4⟩:=vcellsAt HN.out.2.1
 obtain⟨e0,e1,e2,e3,e4⟩:=vcellsAt HN.out.2.2
 go_wp2
 exact bodyPost_ret (results_cell_row rfl _ _ (w.heap.size+1) 27 #[.int .i64 n,.int .i64 num,.int .i64 stp,.string val,.string sl] (0,0) _ rfl (vfive_heap HN.out.2.2 _ _ _ _ _) Tryz.underlying27 rfl infoVote) rfl ⟨rfl,vfive_below HN.out.1 (Nat.le_succ _) _ _ _ _ _⟩
set_option maxHeartbeats 2000000 in
set_option maxRecDepth 100000 in
theorem bent1 (car num stp:Int)(val sl:ByteArray)(how n:Int)(hh:I64 how)(hn:I64 n)(hk:pickI how 6=1)(w:World) :
  Calls Tryz.prog 17 #[.agg #[.int .i64 car,.int .i64 num,.int .i64 stp,.string val,.string sl],.int .i64 how,.int .i64 n] w fun e w'=>e=.returned (.agg #[.int .i64 car,.int .i64 n,.int .i64 stp,.string val,.string sl])∧Below w.heap.size w w':=by
 have HP:=zh (fun W=>pickQ_any how 6 W hh (by omega) (by omega))
 rw[hk]at HP
 have HV:=zh (fun W=>valN_any n hn W)
 have hpn:=pickI_range n (show(0:Int) < 3 by omega)
 have HP3:=zh (fun W=>pickQ_any n 3 W hn (by omega) (by omega))
 obtain⟨W2,hW2⟩:∃ W2,W2=(w.alloc (.cells #[.int .i64 car,.int .i64 num,.int .i64 stp,.string val,.string sl] 27)).alloc (.cells #[.int .i64 0,.int .i64 0,.int .i64 0,.string ⟨#[]⟩,.string ⟨#[]⟩] 27):=⟨_,rfl⟩
 have HA:Hid (BnAt w #[.int .i64 car,.int .i64 num,.int .i64 stp,.string val,.string sl] W2):=zh (by
  rw[hW2]
  exact⟨(br0.alloc (Nat.le_refl _) _).alloc (by simp) _,at_past w _ _,at_second w _ _⟩)
 have HW2:=zh hW2
 clear hW2 hk hh
 go_enter Tryz.func17,Tryz.ntmps17
 go_upto_block 1 with fail
 rw[← HW2.out]
 obtain⟨zf,ff⟩:=HA.out.free
 obtain⟨d0,d1,d2,d3,d4⟩:=vcellsAt HA.out.2.1
 go_upto_region 13 with(go_at_call 54;(with_reducible refine(HP.out _).mono ?_);rintro e w3 ⟨rfl,hw3⟩;replace hw3:=hw3.symm;subst hw3)
 obtain⟨WX,hWX⟩:∃ WX,WX=W2:=⟨_,rfl⟩
 have HX:=HA
 rw[← hWX]at HX ⊢
 clear hWX
 have HN:Hid (BnAt w #[.int .i64 car,.int .i64 n,.int .i64 stp,.string val,.string sl] (WX.setCell ⟨w.heap.size,1,none⟩ (.int .i64 n))):=zh (HX.out.set 1 (.int .i64 n) rfl)
 generalize WX.setCell ⟨w.heap.size,1,none⟩ (.int .i64 n)=WY at *
 clear zf ff HX HA d0 d1 d2 d3 d4
 have HEND:=zh (HN.out)
 obtain⟨zf,ff⟩:=HN.out.free
 obtain⟨d0,d1,d2,d3,d4⟩:=vcellsAt HN.out.2.1
 obtain⟨e0,e1,e2,e3,e4⟩:=vcellsAt HN.out.2.2
 go_wp2
 exact bodyPost_ret (results_cell_row rfl _ _ (w.heap.size+1) 27 #[.int .i64 car,.int .i64 n,.int .i64 stp,.string val,.string sl] (0,0) _ rfl (vfive_heap HN.out.2.2 _ _ _ _ _) Tryz.underlying27 rfl infoVote) rfl ⟨rfl,vfive_below HN.out.1 (Nat.le_succ _) _ _ _ _ _⟩
set_option maxHeartbeats 2000000 in
set_option maxRecDepth 100000 in
theorem bent2 (car num stp:Int)(val sl:ByteArray)(how n:Int)(hh:I64 how)(hn:I64 n)(hk:pickI how 6=2)(w:World) :
  Calls Tryz.prog 17 #[.agg #[.int .i64 car,.int .i64 num,.int .i64 stp,.string val,.string sl],.int .i64 how,.int .i64 n] w fun e w'=>e=.returned (.agg #[.int .i64 car,.int .i64 num,.int .i64 n,.string val,.string sl])∧Below w.heap.size w w':=by
 have HP:=zh (fun W=>pickQ_any how 6 W hh (by omega) (by omega))
 rw[hk]at HP
 have HV:=zh (fun W=>valN_any n hn W)
 have hpn:=pickI_range n (show(0:Int) < 3 by omega)
 have HP3:=zh (fun W=>pickQ_any n 3 W hn (by omega) (by omega))
 obtain⟨W2,hW2⟩:∃ W2,W2=(w.alloc (.cells #[.int .i64 car,.int .i64 num,.int .i64 stp,.string val,.string sl] 27)).alloc (.cells #[.int .i64 0,.int .i64 0,.int .i64 0,.string ⟨#[]⟩,.string ⟨#[]⟩] 27):=⟨_,rfl⟩
 have HA:Hid (BnAt w #[.int .i64 car,.int .i64 num,.int .i64 stp,.string val,.string sl] W2):=zh (by
  rw[hW2]
  exact⟨(br0.alloc (Nat.le_refl _) _).alloc (by simp) _,at_past w _ _,at_second w _ _⟩)
 have HW2:=zh hW2
 clear hW2 hk hh
 go_enter Tryz.func17,Tryz.ntmps17
 go_upto_block 1 with fail
 rw[← HW2.out]
 obtain⟨zf,ff⟩:=HA.out.free
 obtain⟨d0,d1,d2,d3,d4⟩:=vcellsAt HA.out.2.1
 go_upto_region 13 with(go_at_call 54;(with_reducible refine(HP.out _).mono ?_);rintro e w3 ⟨rfl,hw3⟩;replace hw3:=hw3.symm;subst hw3)
 obtain⟨WX,hWX⟩:∃ WX,WX=W2:=⟨_,rfl⟩
 have HX:=HA
 rw[← hWX]at HX ⊢
 clear hWX
 have HN:Hid (BnAt w #[.int .i64 car,.int .i64 num,.int .i64 n,.string val,.string sl] (WX.setCell ⟨w.heap.size,2,none⟩ (.int .i64 n))):=zh (HX.out.set 2 (.int .i64 n) rfl)
 generalize WX.setCell ⟨w.heap.size,2,none⟩ (.int .i64 n)=WY at *
 clear zf ff HX HA d0 d1 d2 d3 d4
 have HEND:=zh (HN.out)
 obtain⟨zf,ff⟩:=HN.out.free
 obtain⟨d0,d1,d2,d3,d4⟩:=vcellsAt HN.out.2.1
 obtain⟨e0,e1,e2,e3,e4⟩:=vcellsAt HN.out.2.2
 go_wp2
 exact bodyPost_ret (results_cell_row rfl _ _ (w.heap.size+1) 27 #[.int .i64 car,.int .i64 num,.int .i64 n,.string val,.string sl] (0,0) _ rfl (vfive_heap HN.out.2.2 _ _ _ _ _) Tryz.underlying27 rfl infoVote) rfl ⟨rfl,vfive_below HN.out.1 (Nat.le_succ _) _ _ _ _ _⟩
set_option maxHeartbeats 2000000 in
set_option maxRecDepth 100000 in
theorem bent3 (car num stp:Int)(val sl:ByteArray)(how n:Int)(hh:I64 how)(hn:I64 n)(hk:pickI how 6=3)(w:World) :
  Calls Tryz.prog 17 #[.agg #[.int .i64 car,.int .i64 num,.int .i64 stp,.string val,.string sl],.int .i64 how,.int .i64 n] w fun e w'=>e=.returned (.agg #[.int .i64 car,.int .i64 num,.int .i64 stp,.string (valN n),.string sl])∧Below w.heap.size w w':=by
 have HP:=zh (fun W=>pickQ_any how 6 W hh (by omega) (by omega))
 rw[hk]at HP
 have HV:=zh (fun W=>valN_any n hn W)
 have hpn:=pickI_range n (show(0:Int) < 3 by omega)
 have HP3:=zh (fun W=>pickQ_any n 3 W hn (by omega) (by omega))
 obtain⟨W2,hW2⟩:∃ W2,W2=(w.alloc (.cells #[.int .i64 car,.int .i64 num,.int .i64 stp,.string val,.string sl] 27)).alloc (.cells #[.int .i64 0,.int .i64 0,.int .i64 0,.string ⟨#[]⟩,.string ⟨#[]⟩] 27):=⟨_,rfl⟩
 have HA:Hid (BnAt w #[.int .i64 car,.int .i64 num,.int .i64 stp,.string val,.string sl] W2):=zh (by
  rw[hW2]
  exact⟨(br0.alloc (Nat.le_refl _) _).alloc (by simp) _,at_past w _ _,at_second w _ _⟩)
 have HW2:=zh hW2
 clear hW2 hk hh
 go_enter Tryz.func17,Tryz.ntmps17
 go_upto_block 1 with fail
 rw[← HW2.out]
 obtain⟨zf,ff⟩:=HA.out.free
 obtain⟨d0,d1,d2,d3,d4⟩:=vcellsAt HA.out.2.1
 clear zf ff d0 d1 d2 d3 d4
 go_upto_region 13 with(first | (go_at_call 54;(with_reducible refine(HP.out _).mono ?_);rintro e w3 ⟨rfl,hw3⟩;replace hw3:=hw3.symm;subst hw3) | (go_at_call 14;(with_reducible refine(HV.out _).mono ?_);rintro e w4 ⟨rfl,hb4⟩;have HX:=zh (HA.out.far hb4);obtain⟨zf,ff⟩:=HX.out.free;obtain⟨d0,d1,d2,d3,d4⟩:=vcellsAt HX.out.2.1))
 obtain⟨WX,hWX⟩:∃ WX,WX=w4:=⟨_,rfl⟩
 rw[← hWX]at HX ⊢
 clear hWX
 have HN:Hid (BnAt w #[.int .i64 car,.int .i64 num,.int .i64 stp,.string (valN n),.string sl] (WX.setCell ⟨w.heap.size,3,none⟩ (.string (valN n)))):=zh (HX.out.set 3 (.string (valN n)) rfl)
 generalize WX.setCell ⟨w.heap.size,3,none⟩ (.string (valN n))=WY at *
 clear zf ff HX HA d0 d1 d2 d3 d4
 have HEND:=zh (HN.out)
 obtain⟨zf,ff⟩:=HN.out.free
 obtain⟨d0,d1,d2,d3,d4⟩:=vcellsAt HN.out.2.1
 obtain⟨e0,e1,e2,e3,e4⟩:=vcellsAt HN.out.2.2
 go_wp2
 exact bodyPost_ret (results_cell_row rfl _ _ (w.heap.size+1) 27 #[.int .i64 car,.int .i64 num,.int .i64 stp,.string (valN n),.string sl] (0,0) _ rfl (vfive_heap HN.out.2.2 _ _ _ _ _) Tryz.underlying27 rfl infoVote) rfl ⟨rfl,vfive_below HN.out.1 (Nat.le_succ _) _ _ _ _ _⟩
set_option maxHeartbeats 2000000 in
set_option maxRecDepth 100000 in
theorem bent4 (car num stp:Int)(val sl:ByteArray)(how n:Int)(hh:I64 how)(hn:I64 n)(hk:pickI how 6=4)(w:World) :
  Calls Tryz.prog 17 #[.agg #[.int .i64 car,.int .i64 num,.int .i64 stp,.string val,.string sl],.int .i64 how,.int .i64 n] w fun e w'=>e=.returned (.agg #[.int .i64 car,.int .i64 num,.int .i64 stp,.string val,.string (valN n)])∧Below w.heap.size w w':=by
 have HP:=zh (fun W=>pickQ_any how 6 W hh (by omega) (by omega))
 rw[hk]at HP
 have HV:=zh (fun W=>valN_any n hn W)
 have hpn:=pickI_range n (show(0:Int) < 3 by omega)
 have HP3:=zh (fun W=>pickQ_any n 3 W hn (by omega) (by omega))
 obtain⟨W2,hW2⟩:∃ W2,W2=(w.alloc (.cells #[.int .i64 car,.int .i64 num,.int .i64 stp,.string val,.string sl] 27)).alloc (.cells #[.int .i64 0,.int .i64 0,.int .i64 0,.string ⟨#[]⟩,.string ⟨#[]⟩] 27):=⟨_,rfl⟩
 have HA:Hid (BnAt w #[.int .i64 car,.int .i64 num,.int .i64 stp,.string val,.string sl] W2):=zh (by
  rw[hW2]
  exact⟨(br0.alloc (Nat.le_refl _) _).alloc (by simp) _,at_past w _ _,at_second w _ _⟩)
 have HW2:=zh hW2
 clear hW2 hk hh
 go_enter Tryz.func17,Tryz.ntmps17
 go_upto_block 1 with fail
 rw[← HW2.out]
 obtain⟨zf,ff⟩:=HA.out.free
 obtain⟨d0,d1,d2,d3,d4⟩:=vcellsAt HA.out.2.1
 clear zf ff d0 d1 d2 d3 d4
 go_upto_region 13 with(first | (go_at_call 54;(with_reducible refine(HP.out _).mono ?_);rintro e w3 ⟨rfl,hw3⟩;replace hw3:=hw3.symm;subst hw3) | (go_at_call 14;(with_reducible refine(HV.out _).mono ?_);rintro e w4 ⟨rfl,hb4⟩;have HX:=zh (HA.out.far hb4);obtain⟨zf,ff⟩:=HX.out.free;obtain⟨d0,d1,d2,d3,d4⟩:=vcellsAt HX.out.2.1))
 obtain⟨WX,hWX⟩:∃ WX,WX=w4:=⟨_,rfl⟩
 rw[← hWX]at HX ⊢
 clear hWX
 have HN:Hid (BnAt w #[.int .i64 car,.int .i64 num,.int .i64 stp,.string val,.string (valN n)] (WX.setCell ⟨w.heap.size,4,none⟩ (.string (valN n)))):=zh (HX.out.set 4 (.string (valN n)) rfl)
 generalize WX.setCell ⟨w.heap.size,4,none⟩ (.string (valN n))=WY at *
 clear zf ff HX HA d0 d1 d2 d3 d4
 have HEND:=zh (HN.out)
 obtain⟨zf,ff⟩:=HN.out.free
 obtain⟨d0,d1,d2,d3,d4⟩:=vcellsAt HN.out.2.1
 obtain⟨e0,e1,e2,e3,e4⟩:=vcellsAt HN.out.2.2
 go_wp2
 exact bodyPost_ret (results_cell_row rfl _ _ (w.heap.size+1) 27 #[.int .i64 car,.int .i64 num,.int .i64 stp,.string val,.string (valN n)] (0,0) _ rfl (vfive_heap HN.out.2.2 _ _ _ _ _) Tryz.underlying27 rfl infoVote) rfl ⟨rfl,vfive_below HN.out.1 (Nat.le_succ _) _ _ _ _ _⟩
set_option maxHeartbeats 2000000 in
set_option maxRecDepth 100000 in
theorem bent50 (car num stp:Int)(val sl:ByteArray)(how n:Int)(hh:I64 how)(hn:I64 n)(hk:pickI how 6=5)(ht:pickI n 3=0)(w:World) :
  Calls Tryz.prog 17 #[.agg #[.int .i64 car,.int .i64 num,.int .i64 stp,.string val,.string sl],.int .i64 how,.int .i64 n] w fun e w'=>e=.returned (.agg #[.int .i64 car,.int .i64 num,.int .i64 stp,.string (zerosB 31),.string sl])∧Below w.heap.size w w':=by
 have HP:=zh (fun W=>pickQ_any how 6 W hh (by omega) (by omega))
 rw[hk]at HP
 have HV:=zh (fun W=>valN_any n hn W)
 have hpn:=pickI_range n (show(0:Int) < 3 by omega)
 have HP3:=zh (fun W=>pickQ_any n 3 W hn (by omega) (by omega))
 obtain⟨W2,hW2⟩:∃ W2,W2=(w.alloc (.cells #[.int .i64 car,.int .i64 num,.int .i64 stp,.string val,.string sl] 27)).alloc (.cells #[.int .i64 0,.int .i64 0,.int .i64 0,.string ⟨#[]⟩,.string ⟨#[]⟩] 27):=⟨_,rfl⟩
 have HA:Hid (BnAt w #[.int .i64 car,.int .i64 num,.int .i64 stp,.string val,.string sl] W2):=zh (by
  rw[hW2]
  exact⟨(br0.alloc (Nat.le_refl _) _).alloc (by simp) _,at_past w _ _,at_second w _ _⟩)
 have HW2:=zh hW2
 clear hW2 hk hh
 have HMK:Hid (∀ W,(Instr.makeSlice 80 (.int .i64 31) (.int .i64 31)).run Tryz.prog W=.ok (.slice (some ⟨W.heap.size,0,none⟩) 31 31) (W.alloc (.cells (Array.replicate 31 (.int .u8 0)) 5))):=zh (fun _=>by kernel_rfl)
 rw[ht]at HP3
 have HS:=zh (strOf_zeros 31)
 have HC:Hid (∀ W:World,∀ j y,(List.replicate 31 0)[j]?=some y→(W.alloc (.cells (Array.replicate 31 (.int .u8 0)) 5)).cell? ⟨W.heap.size,0+j,none⟩=some (.int .u8 (y:Nat))):=zh (fun W=>zeros_cells W 31)
 have HZ:Hid (∀ y∈List.replicate 31 0,y < 256):=zh (fun y hy=>by rw[List.eq_of_mem_replicate hy];omega)
 have HL:Hid (31=(List.replicate 31 0).length):=zh (by simp)
 obtain⟨ZL,hZL⟩:∃ ZL,ZL=List.replicate 31 0:=⟨_,rfl⟩
 rw[← hZL]at HS HC HZ HL
 clear hZL ht hpn
 have hmk:=HMK.out
 go_enter Tryz.func17,Tryz.ntmps17
 go_upto_block 1 with fail
 rw[← HW2.out]
 obtain⟨zf,ff⟩:=HA.out.free
 obtain⟨d0,d1,d2,d3,d4⟩:=vcellsAt HA.out.2.1
 have HX:Hid (BnAt w #[.int .i64 car,.int .i64 num,.int .i64 stp,.string val,.string sl] (W2.alloc (.cells (Array.replicate 31 (.int .u8 0)) 5))):=zh (HA.out.far (br0.alloc (Nat.le_refl _) _))
 clear zf ff d0 d1 d2 d3 d4
 obtain⟨zf,ff⟩:=HX.out.free
 obtain⟨d0,d1,d2,d3,d4⟩:=vcellsAt HX.out.2.1
 go_upto_region 13 with(first | (go_at_call 54;(with_reducible refine(HP.out _).mono ?_);rintro e w3 ⟨rfl,hw3⟩;replace hw3:=hw3.symm;subst hw3) | (go_at_call 54;(with_reducible refine(HP3.out _).mono ?_);rintro e w3 ⟨rfl,hw3⟩;replace hw3:=hw3.symm;subst hw3) | (refine wpList_convS ZL HZ.out 80 9 5 _ W2.heap.size 0 31 31 rfl rfl rfl HL.out (by kernel_rfl) (by kernel_rfl) (by kernel_rfl) (HC.out _) ?_;rw[HS.out]))
 obtain⟨WX,hWX⟩:∃ WX,WX=W2.alloc (.cells (Array.replicate 31 (.int .u8 0)) 5):=⟨_,rfl⟩
 rw[← hWX]at HX ⊢
 clear hWX
 have HN:Hid (BnAt w #[.int .i64 car,.int .i64 num,.int .i64 stp,.string (zerosB 31),.string sl] (WX.setCell ⟨w.heap.size,3,none⟩ (.string (zerosB 31)))):=zh (HX.out.set 3 (.string (zerosB 31)) rfl)
 generalize WX.setCell ⟨w.heap.size,3,none⟩ (.string (zerosB 31))=WY at *
 clear zf ff HX HA d0 d1 d2 d3 d4
 have HEND:=zh (HN.out)
 obtain⟨zf,ff⟩:=HN.out.free
 obtain⟨d0,d1,d2,d3,d4⟩:=vcellsAt HN.out.2.1
 obtain⟨e0,e1,e2,e3,e4⟩:=vcellsAt HN.out.2.2
 go_wp2
 exact bodyPost_ret (results_cell_row rfl _ _ (w.heap.size+1) 27 #[.int .i64 car,.int .i64 num,.int .i64 stp,.string (zerosB 31),.string sl] (0,0) _ rfl (vfive_heap HN.out.2.2 _ _ _ _ _) Tryz.underlying27 rfl infoVote) rfl ⟨rfl,vfive_below HN.out.1 (Nat.le_succ _) _ _ _ _ _⟩
set_option maxHeartbeats 2000000 in
set_option maxRecDepth 100000 in
theorem bent51 (car num stp:Int)(val sl:ByteArray)(how n:Int)(hh:I64 how)(hn:I64 n)(hk:pickI how 6=5)(ht:pickI n 3=1)(w:World) :
  Calls Tryz.prog 17 #[.agg #[.int .i64 car,.int .i64 num,.int .i64 stp,.string val,.string sl],.int .i64 how,.int .i64 n] w fun e w'=>e=.returned (.agg #[.int .i64 car,.int .i64 num,.int .i64 stp,.string (zerosB 32),.string sl])∧Below w.heap.size w w':=by
 have HP:=zh (fun W=>pickQ_any how 6 W hh (by omega) (by omega))
 rw[hk]at HP
 have HV:=zh (fun W=>valN_any n hn W)
 have hpn:=pickI_range n (show(0:Int) < 3 by omega)
 have HP3:=zh (fun W=>pickQ_any n 3 W hn (by omega) (by omega))
 obtain⟨W2,hW2⟩:∃ W2,W2=(w.alloc (.cells #[.int .i64 car,.int .i64 num,.int .i64 stp,.string val,.string sl] 27)).alloc (.cells #[.int .i64 0,.int .i64 0,.int .i64 0,.string ⟨#[]⟩,.string ⟨#[]⟩] 27):=⟨_,rfl⟩
 have HA:Hid (BnAt w #[.int .i64 car,.int .i64 num,.int .i64 stp,.string val,.string sl] W2):=zh (by
  rw[hW2]
  exact⟨(br0.alloc (Nat.le_refl _) _).alloc (by simp) _,at_past w _ _,at_second w _ _⟩)
 have HW2:=zh hW2
 clear hW2 hk hh
 have HMK:Hid (∀ W,(Instr.makeSlice 80 (.int .i64 32) (.int .i64 32)).run Tryz.prog W=.ok (.slice (some ⟨W.heap.size,0,none⟩) 32 32) (W.alloc (.cells (Array.replicate 32 (.int .u8 0)) 5))):=zh (fun _=>by kernel_rfl)
 rw[ht]at HP3
 have HS:=zh (strOf_zeros 32)
 have HC:Hid (∀ W:World,∀ j y,(List.replicate 32 0)[j]?=some y→(W.alloc (.cells (Array.replicate 32 (.int .u8 0)) 5)).cell? ⟨W.heap.size,0+j,none⟩=some (.int .u8 (y:Nat))):=zh (fun W=>zeros_cells W 32)
 have HZ:Hid (∀ y∈List.replicate 32 0,y < 256):=zh (fun y hy=>by rw[List.eq_of_mem_replicate hy];omega)
 have HL:Hid (32=(List.replicate 32 0).length):=zh (by simp)
 obtain⟨ZL,hZL⟩:∃ ZL,ZL=List.replicate 32 0:=⟨_,rfl⟩
 rw[← hZL]at HS HC HZ HL
 clear hZL ht hpn
 have hmk:=HMK.out
 go_enter Tryz.func17,Tryz.ntmps17
 go_upto_block 1 with fail
 rw[← HW2.out]
 obtain⟨zf,ff⟩:=HA.out.free
 obtain⟨d0,d1,d2,d3,d4⟩:=vcellsAt HA.out.2.1
 have HX:Hid (BnAt w #[.int .i64 car,.int .i64 num,.int .i64 stp,.string val,.string sl] (W2.alloc (.cells (Array.replicate 32 (.int .u8 0)) 5))):=zh (HA.out.far (br0.alloc (Nat.le_refl _) _))
 clear zf ff d0 d1 d2 d3 d4
 obtain⟨zf,ff⟩:=HX.out.free
 obtain⟨d0,d1,d2,d3,d4⟩:=vcellsAt HX.out.2.1
 go_upto_region 13 with(first | (go_at_call 54;(with_reducible refine(HP.out _).mono ?_);rintro e w3 ⟨rfl,hw3⟩;replace hw3:=hw3.symm;subst hw3) | (go_at_call 54;(with_reducible refine(HP3.out _).mono ?_);rintro e w3 ⟨rfl,hw3⟩;replace hw3:=hw3.symm;subst hw3) | (refine wpList_convS ZL HZ.out 80 9 5 _ W2.heap.size 0 32 32 rfl rfl rfl HL.out (by kernel_rfl) (by kernel_rfl) (by kernel_rfl) (HC.out _) ?_;rw[HS.out]))
 obtain⟨WX,hWX⟩:∃ WX,WX=W2.alloc (.cells (Array.replicate 32 (.int .u8 0)) 5):=⟨_,rfl⟩
 rw[← hWX]at HX ⊢
 clear hWX
 have HN:Hid (BnAt w #[.int .i64 car,.int .i64 num,.int .i64 stp,.string (zerosB 32),.string sl] (WX.setCell ⟨w.heap.size,3,none⟩ (.string (zerosB 32)))):=zh (HX.out.set 3 (.string (zerosB 32)) rfl)
 generalize WX.setCell ⟨w.heap.size,3,none⟩ (.string (zerosB 32))=WY at *
 clear zf ff HX HA d0 d1 d2 d3 d4
 have HEND:=zh (HN.out)
 obtain⟨zf,ff⟩:=HN.out.free
 obtain⟨d0,d1,d2,d3,d4⟩:=vcellsAt HN.out.2.1
 obtain⟨e0,e1,e2,e3,e4⟩:=vcellsAt HN.out.2.2
 go_wp2
 exact bodyPost_ret (results_cell_row rfl _ _ (w.heap.size+1) 27 #[.int .i64 car,.int .i64 num,.int .i64 stp,.string (zerosB 32),.string sl] (0,0) _ rfl (vfive_heap HN.out.2.2 _ _ _ _ _) Tryz.underlying27 rfl infoVote) rfl ⟨rfl,vfive_below HN.out.1 (Nat.le_succ _) _ _ _ _ _⟩
set_option maxHeartbeats 2000000 in
set_option maxRecDepth 100000 in
theorem bent52 (car num stp:Int)(val sl:ByteArray)(how n:Int)(hh:I64 how)(hn:I64 n)(hk:pickI how 6=5)(ht:pickI n 3=2)(w:World) :
  Calls Tryz.prog 17 #[.agg #[.int .i64 car,.int .i64 num,.int .i64 stp,.string val,.string sl],.int .i64 how,.int .i64 n] w fun e w'=>e=.returned (.agg #[.int .i64 car,.int .i64 num,.int .i64 stp,.string (zerosB 33),.string sl])∧Below w.heap.size w w':=by
 have HP:=zh (fun W=>pickQ_any how 6 W hh (by omega) (by omega))
 rw[hk]at HP
 have HV:=zh (fun W=>valN_any n hn W)
 have hpn:=pickI_range n (show(0:Int) < 3 by omega)
 have HP3:=zh (fun W=>pickQ_any n 3 W hn (by omega) (by omega))
 obtain⟨W2,hW2⟩:∃ W2,W2=(w.alloc (.cells #[.int .i64 car,.int .i64 num,.int .i64 stp,.string val,.string sl] 27)).alloc (.cells #[.int .i64 0,.int .i64 0,.int .i64 0,.string ⟨#[]⟩,.string ⟨#[]⟩] 27):=⟨_,rfl⟩
 have HA:Hid (BnAt w #[.int .i64 car,.int .i64 num,.int .i64 stp,.string val,.string sl] W2):=zh (by
  rw[hW2]
  exact⟨(br0.alloc (Nat.le_refl _) _).alloc (by simp) _,at_past w _ _,at_second w _ _⟩)
 have HW2:=zh hW2
 clear hW2 hk hh
 have HMK:Hid (∀ W,(Instr.makeSlice 80 (.int .i64 33) (.int .i64 33)).run Tryz.prog W=.ok (.slice (some ⟨W.heap.size,0,none⟩) 33 33) (W.alloc (.cells (Array.replicate 33 (.int .u8 0)) 5))):=zh (fun _=>by kernel_rfl)
 rw[ht]at HP3
 have HS:=zh (strOf_zeros 33)
 have HC:Hid (∀ W:World,∀ j y,(List.replicate 33 0)[j]?=some y→(W.alloc (.cells (Array.replicate 33 (.int .u8 0)) 5)).cell? ⟨W.heap.size,0+j,none⟩=some (.int .u8 (y:Nat))):=zh (fun W=>zeros_cells W 33)
 have HZ:Hid (∀ y∈List.replicate 33 0,y < 256):=zh (fun y hy=>by rw[List.eq_of_mem_replicate hy];omega)
 have HL:Hid (33=(List.replicate 33 0).length):=zh (by simp)
 obtain⟨ZL,hZL⟩:∃ ZL,ZL=List.replicate 33 0:=⟨_,rfl⟩
 rw[← hZL]at HS HC HZ HL
 clear hZL ht hpn
 have hmk:=HMK.out
 go_enter Tryz.func17,Tryz.ntmps17
 go_upto_block 1 with fail
 rw[← HW2.out]
 obtain⟨zf,ff⟩:=HA.out.free
 obtain⟨d0,d1,d2,d3,d4⟩:=vcellsAt HA.out.2.1
 have HX:Hid (BnAt w #[.int .i64 car,.int .i64 num,.int .i64 stp,.string val,.string sl] (W2.alloc (.cells (Array.replicate 33 (.int .u8 0)) 5))):=zh (HA.out.far (br0.alloc (Nat.le_refl _) _))
 clear zf ff d0 d1 d2 d3 d4
 obtain⟨zf,ff⟩:=HX.out.free
 obtain⟨d0,d1,d2,d3,d4⟩:=vcellsAt HX.out.2.1
 go_upto_region 13 with(first | (go_at_call 54;(with_reducible refine(HP.out _).mono ?_);rintro e w3 ⟨rfl,hw3⟩;replace hw3:=hw3.symm;subst hw3) | (go_at_call 54;(with_reducible refine(HP3.out _).mono ?_);rintro e w3 ⟨rfl,hw3⟩;replace hw3:=hw3.symm;subst hw3) | (refine wpList_convS ZL HZ.out 80 9 5 _ W2.heap.size 0 33 33 rfl rfl rfl HL.out (by kernel_rfl) (by kernel_rfl) (by kernel_rfl) (HC.out _) ?_;rw[HS.out]))
 obtain⟨WX,hWX⟩:∃ WX,WX=W2.alloc (.cells (Array.replicate 33 (.int .u8 0)) 5):=⟨_,rfl⟩
 rw[← hWX]at HX ⊢
 clear hWX
 have HN:Hid (BnAt w #[.int .i64 car,.int .i64 num,.int .i64 stp,.string (zerosB 33),.string sl] (WX.setCell ⟨w.heap.size,3,none⟩ (.string (zerosB 33)))):=zh (HX.out.set 3 (.string (zerosB 33)) rfl)
 generalize WX.setCell ⟨w.heap.size,3,none⟩ (.string (zerosB 33))=WY at *
 clear zf ff HX HA d0 d1 d2 d3 d4
 have HEND:=zh (HN.out)
 obtain⟨zf,ff⟩:=HN.out.free
 obtain⟨d0,d1,d2,d3,d4⟩:=vcellsAt HN.out.2.1
 obtain⟨e0,e1,e2,e3,e4⟩:=vcellsAt HN.out.2.2
 go_wp2
 exact bodyPost_ret (results_cell_row rfl _ _ (w.heap.size+1) 27 #[.int .i64 car,.int .i64 num,.int .i64 stp,.string (zerosB 33),.string sl] (0,0) _ rfl (vfive_heap HN.out.2.2 _ _ _ _ _) Tryz.underlying27 rfl infoVote) rfl ⟨rfl,vfive_below HN.out.1 (Nat.le_succ _) _ _ _ _ _⟩
theorem rbent_any (v:VoteP)(how n:Int)(hh:I64 how)(hn:I64 n)(w:World) :
  Calls Tryz.prog 17 #[vagg v,.int .i64 how,.int .i64 n] w fun e w'=>e=.returned (vagg (bentV v how n))∧Below w.heap.size w w':=by
 obtain⟨car,num,stp,val,sl⟩:=v
 have hp:=pickI_range how (show(0:Int) < 6 by omega)
 have hq:=pickI_range n (show(0:Int) < 3 by omega)
 have h6:pickI how 6=0∨pickI how 6=1∨pickI how 6=2∨pickI how 6=3∨pickI how 6=4∨pickI how 6=5:=by omega
 have h3:pickI n 3=0∨pickI n 3=1∨pickI n 3=2:=by omega
 unfold bentV
 rcases h6 with h | h | h | h | h | h
 ·rw[if_pos h];exact bent0 car num stp val sl how n hh hn h w
 ·rw[if_neg (by omega),if_pos h];exact bent1 car num stp val sl how n hh hn h w
 ·rw[if_neg (by omega),if_neg (by omega),if_pos h];exact bent2 car num stp val sl how n hh hn h w
 ·rw[if_neg (by omega),if_neg (by omega),if_neg (by omega),if_pos h];exact bent3 car num stp val sl how n hh hn h w
 ·rw[if_neg (by omega),if_neg (by omega),if_neg (by omega),if_neg (by omega),if_pos h];exact bent4 car num stp val sl how n hh hn h w
 ·rw[if_neg (by omega),if_neg (by omega),if_neg (by omega),if_neg (by omega),if_neg (by omega)]
  rcases h3 with h3 | h3 | h3
  ·rw[h3];exact bent50 car num stp val sl how n hh hn h h3 w
  ·rw[h3];exact bent51 car num stp val sl how n hh hn h h3 w
  ·rw[h3];exact bent52 car num stp val sl how n hh hn h h3 w
open Go.Lib Go.Sort
theorem cmpB_lt:∀(a b:List UInt8),compareBytes a b < 0 ↔ a < b
 | [],[]=>by simp[compareBytes]
 | [],_::_=>by simp[compareBytes]
 | _::_,[]=>by simp[compareBytes]
 | x::a,y::b=>by
  unfold compareBytes
  rw[List.cons_lt_cons_iff]
  by_cases h:x < y
  ·simp[h]
  ·rw[if_neg h]
   by_cases h':y < x
   ·rw[if_pos h']
    have hne:x≠y:=by
     rintro rfl
     exact h h'
    simp[h,hne]
   ·rw[if_neg h']
    have he:x=y:=UInt8.le_antisymm (UInt8.not_lt.1 h') (UInt8.not_lt.1 h)
    subst he
    rw[cmpB_lt a b]
    simp[UInt8.lt_irrefl]
theorem cmpB_zero:∀(a b:List UInt8),compareBytes a b=0 ↔ a=b
 | [],[]=>by simp[compareBytes]
 | [],_::_=>by simp[compareBytes]
 | _::_,[]=>by simp[compareBytes]
 | x::a,y::b=>by
  unfold compareBytes
  by_cases h:x < y
  ·rw[if_pos h]
   have hne:x≠y:=by
    rintro rfl
    exact UInt8.lt_irrefl _ h
   simp[hne]
  ·rw[if_neg h]
   by_cases h':y < x
   ·rw[if_pos h']
    have hne:x≠y:=by
     rintro rfl
     exact UInt8.lt_irrefl _ h'
    simp[hne]
   ·rw[if_neg h']
    have he:x=y:=UInt8.le_antisymm (UInt8.not_lt.1 h') (UInt8.not_lt.1 h)
    subst he
    rw[cmpB_zero a b]
    simp
theorem cmpI_lt (x y:Int):compareInt x y < 0 ↔ x < y:=by
 unfold compareInt
 by_cases h:x < y
 ·simp[h]
 ·rw[if_neg h]
  by_cases h':x > y
  ·simp[h,h']
  ·simp[h,h']
theorem cmpI_zero (x y:Int):compareInt x y=0 ↔ x=y:=by
 unfold compareInt
 by_cases h:x < y
 ·rw[if_pos h]
  constructor
  ·intro e
   omega
  ·intro e
   omega
 ·rw[if_neg h]
  by_cases h':x > y
  ·rw[if_pos h']
   constructor
   ·intro e
    omega
   ·intro e
    omega
  ·rw[if_neg h']
   constructor
   ·intro _
    omega
   ·intro _
    rfl
def orL:List Int→Int
 | []=>0
 | x::xs=>if x=0 then orL xs else x
def cmpV (a b:VoteP):Int :=
 orL [compareInt a.car b.car,compareInt a.num b.num,compareInt a.stp b.stp,compareBytes a.val.toList b.val.toList,compareBytes a.sl.toList b.sl.toList]
theorem or_lt (x:Int)(xs:List Int):orL (x::xs) < 0 ↔ x < 0∨(x=0∧orL xs < 0):=by
 show(if x=0 then orL xs else x) < 0 ↔ _
 by_cases h:x=0
 ·rw[if_pos h]
  constructor
  ·intro e
   exact .inr ⟨h,e⟩
  ·rintro(e | ⟨_,e⟩)
   ·omega
   ·exact e
 ·rw[if_neg h]
  constructor
  ·intro e
   exact .inl e
  ·rintro(e | ⟨e,_⟩)
   ·exact e
   ·exact absurd e h
theorem or_nil:¬ orL [] < 0:=by
 show ¬ (0:Int) < 0
 omega
theorem cmpV_lt (a b:VoteP):cmpV a b < 0 ↔ ltV a b:=by
 unfold cmpV ltV
 rw[or_lt,or_lt,or_lt,or_lt,or_lt,cmpI_lt,cmpI_lt,cmpI_lt,cmpI_zero,cmpI_zero,cmpI_zero,cmpB_lt,cmpB_lt,cmpB_zero,cmpB_zero]
 constructor
 ·rintro(h | ⟨e,h | ⟨e2,h | ⟨e3,h | ⟨e4,h | ⟨_,h⟩⟩⟩⟩⟩)
  ·exact .inl h
  ·exact .inr ⟨e,.inl h⟩
  ·exact .inr ⟨e,.inr ⟨e2,.inl h⟩⟩
  ·exact .inr ⟨e,.inr ⟨e2,.inr ⟨e3,.inl h⟩⟩⟩
  ·exact .inr ⟨e,.inr ⟨e2,.inr ⟨e3,.inr ⟨e4,h⟩⟩⟩⟩
  ·exact absurd h or_nil
 ·rintro(h | ⟨e,h | ⟨e2,h | ⟨e3,h | ⟨e4,h⟩⟩⟩⟩)
  ·exact .inl h
  ·exact .inr ⟨e,.inl h⟩
  ·exact .inr ⟨e,.inr ⟨e2,.inl h⟩⟩
  ·exact .inr ⟨e,.inr ⟨e2,.inr ⟨e3,.inl h⟩⟩⟩
  ·exact .inr ⟨e,.inr ⟨e2,.inr ⟨e3,.inr ⟨e4,.inl h⟩⟩⟩⟩
theorem cmpV_swo:SWO (fun a b=>decide (cmpV a b < 0)):=by
 refine⟨fun x=>?_,fun x y z h h'=>?_,fun x y z h h'=>?_⟩
 ·refine decide_eq_false ?_
  rw[cmpV_lt]
  exact ltV_irrefl x
 ·have a:=of_decide_eq_true h
  have b:=of_decide_eq_true h'
  rw[cmpV_lt]at a b
  refine decide_eq_true ?_
  rw[cmpV_lt]
  exact ltV_trans a b
 ·have a:=of_decide_eq_false h
  have b:=of_decide_eq_false h'
  rw[cmpV_lt]at a b
  refine decide_eq_false ?_
  rw[cmpV_lt]
  intro hc
  rcases ltV_tri x y with h1 | h1 | h1
  ·exact a h1
  ·subst h1
   exact b hc
  ·exact b (ltV_trans h1 hc)
/-! ### Sorted and compacted -/
instance:Inhabited VoteP:=⟨⟨0,0,0,⟨#[]⟩,⟨#[]⟩⟩⟩
theorem compact_facts (d:Array VoteP)(hs:∀ i j,i < j→j < d.size→¬ ltV d[j]! d[i]!):∀ m,m≤d.size→(compactUpTo d m).Pairwise ltV∧(∀ v,v∈compactUpTo d m ↔ ∃ j,j < m∧d[j]! = v):=by
 intro m
 induction m with
 | zero =>
  intro _
  refine⟨List.Pairwise.nil,fun v=>?_⟩
  constructor
  ·intro h
   cases h
  ·rintro⟨j,h,_⟩
   omega
 | succ m ih =>
  intro hm
  obtain⟨h1,h2⟩:=ih (by omega)
  rw[compactUpTo_succ]
  by_cases hk:keeps d m=true
  ·rw[if_pos hk]
   constructor
   ·rw[List.pairwise_append]
    refine⟨h1,List.pairwise_singleton _ _,fun x hx y hy=>?_⟩
    rw[List.mem_singleton]at hy
    subst hy
    obtain⟨j,hj,rfl⟩:=(h2 x).1 hx
    have hk':=of_decide_eq_true (show decide _=true from hk)
    have hn:d[m]!≠d[m - 1]!:=by
     rcases hk' with h0 | h0
     ·omega
     ·exact h0
    have s1:=hs (m - 1) m (by omega) (by omega)
    have l1:ltV d[m - 1]! d[m]!:=by
     rcases ltV_tri d[m - 1]! d[m]! with t | t | t
     ·exact t
     ·exact absurd t.symm hn
     ·exact absurd t s1
    by_cases hjm:j=m - 1
    ·rw[hjm]
     exact l1
    ·have s2:=hs j (m - 1) (by omega) (by omega)
     rcases ltV_tri d[j]! d[m - 1]! with t | t | t
     ·exact ltV_trans t l1
     ·rw[t]
      exact l1
     ·exact absurd t s2
   ·intro v
    rw[List.mem_append,List.mem_singleton,h2]
    constructor
    ·rintro(⟨j,hj,e⟩ | e)
     ·exact⟨j,by omega,e⟩
     ·exact⟨m,by omega,e.symm⟩
    ·rintro⟨j,hj,e⟩
     by_cases h:j=m
     ·subst h
      exact .inr e.symm
     ·exact .inl ⟨j,by omega,e⟩
  ·rw[if_neg hk,List.append_nil]
   refine⟨h1,fun v=>?_⟩
   rw[h2]
   have hk':=of_decide_eq_false (show decide _=false from Bool.eq_false_iff.2 hk)
   constructor
   ·rintro⟨j,hj,e⟩
    exact⟨j,by omega,e⟩
   ·rintro⟨j,hj,e⟩
    by_cases h:j=m
    ·subst h
     have h0:j≠0:=fun h=>hk' (.inl h)
     have h3:d[j]! = d[j - 1]!:=Decidable.byContradiction fun h=>hk' (.inr h)
     exact⟨j - 1,by omega,h3 ▸ e⟩
    ·exact⟨j,by omega,e⟩
theorem compact_sorted (ks:List ByteArray)(l:List VoteP)(d d':Array VoteP)(hd:d.toList=l.filter (genV ks))(hp:PermIn 0 d.size d d')
  (hs:SortedIn (fun a b=>decide (cmpV a b < 0)) 0 d.size d'):compactUpTo d' d'.size=sortedV ks l:=by
 obtain⟨z1,_,z3⟩:=hp
 have hs':∀ i j,i < j→j < d'.size→¬ ltV d'[j]! d'[i]!:=by
  intro i j hij hj
  have:=of_decide_eq_false (hs i j (Nat.zero_le _) hij (z1 ▸ hj))
  rwa [cmpV_lt]at this
 obtain⟨h1,h2⟩:=compact_facts d' hs' d'.size (Nat.le_refl _)
 refine sortedV_is h1 fun v=>?_
 rw[h2]
 have e1:(d'.extract 0 d.size)=d':=by
  rw[← z1,Array.extract_size]
 have e2:(d.extract 0 d.size)=d:=Array.extract_size
 rw[e1,e2]at z3
 have hm:v∈d'.toList ↔ v∈d.toList:=z3.mem_iff
 rw[hd,List.mem_filter]at hm
 rw[← hm]
 constructor
 ·rintro⟨j,hj,e⟩
  rw[getElem!_pos d' j hj]at e
  rw[← e]
  exact Array.getElem_mem_toList hj
 ·intro h
  obtain⟨j,hj,e⟩:=List.getElem_of_mem h
  rw[Array.length_toList]at hj
  refine⟨j,hj,?_⟩
  rw[getElem!_pos d' j hj,← e]
  exact(Array.getElem_toList hj).symm
def bitsum:Nat→Nat→Nat
 | 0,_=>0
 | f+1,n=>n % 2+bitsum f (n / 2)
theorem bitsum_add (a k n:Nat):bitsum (a+k) n=bitsum a n+bitsum k (n / 2 ^ a):=by
 induction a generalizing n with
 | zero=>simp[bitsum]
 | succ a ih =>
  rw[show a+1+k=(a+k)+1 by omega,bitsum,bitsum,ih,Nat.div_div_eq_div_mul,show 2*2 ^ a=2 ^ (a+1) by rw[Nat.pow_succ,Nat.mul_comm]]
  omega
theorem bitsum_low (a n h:Nat):bitsum a (n+2 ^ a*h)=bitsum a n:=by
 induction a generalizing n with
 | zero=>simp[bitsum]
 | succ a ih =>
  rw[bitsum,bitsum]
  have e1:(n+2 ^ (a+1)*h) % 2=n % 2:=by rw[Nat.pow_succ,show 2 ^ a*2*h=2*(2 ^ a*h) by rw[Nat.mul_comm (2 ^ a) 2,Nat.mul_assoc]];omega
  have e2:(n+2 ^ (a+1)*h) / 2=n / 2+2 ^ a*h:=by rw[Nat.pow_succ,show 2 ^ a*2*h=2*(2 ^ a*h) by rw[Nat.mul_comm (2 ^ a) 2,Nat.mul_assoc]];omega
  rw[e1,e2,ih]
theorem bitsum_byte (k b h:Nat)(hb:b < 256):bitsum (8+k) (b+256*h)=bitsum 8 b+bitsum k h:=by
 rw[bitsum_add,show(256:Nat)=2 ^ 8 from rfl,bitsum_low]
 congr 2
 omega
theorem and_split (a c x y:Nat)(ha:a < 256)(hc:c < 256):(a+256*x) &&& (c+256*y)=(a &&& c)+256*(x &&& y):=by
 have e1:((a+256*x) &&& (c+256*y)) % 2 ^ 8=a &&& c:=by
  rw[Nat.and_mod_two_pow];congr 1 <;> omega
 have e2:((a+256*x) &&& (c+256*y)) / 2 ^ 8=x &&& y:=by
  rw[Nat.and_div_two_pow];congr 1 <;> omega
 omega
def q1 (n m:Nat):Nat:=(n / 2 &&& m)+(n &&& m)
def q2 (n m:Nat):Nat:=(n / 4 &&& m)+(n &&& m)
def q3 (n m:Nat):Nat:=(n / 16+n) &&& m
theorem q1_8:∀ b,b < 256→q1 b 85 < 256:=by decide +kernel
theorem q2_8:∀ b,b < 256→q2 (q1 b 85) 51 < 69∧q2 (q1 b 85) 51 % 16≤4:=by decide +kernel
theorem q3_8:∀ b,b < 256→q3 (q2 (q1 b 85) 51) 15=bitsum 8 b∧bitsum 8 b≤8:=by decide +kernel
theorem shift1:∀ b,b < 256→∀ t,t < 2→(b / 2+128*t) &&& 85=(b / 2) &&& 85:=by decide +kernel
theorem shift2:∀ b,b < 256→∀ t,t < 4→(b / 4+64*t) &&& 51=(b / 4) &&& 51:=by decide +kernel
theorem mask15:∀ c,c < 69→∀ t,t≤4→(c / 16+c+16*t) &&& 15=(c / 16+c) &&& 15:=by decide +kernel
theorem q1_step (b h m:Nat)(hb:b < 256):q1 (b+256*h) (85+256*m)=q1 b 85+256*q1 h m:=by
 unfold q1
 have e:(b+256*h) / 2=(b / 2+128*(h % 2))+256*(h / 2):=by omega
 rw[e,and_split _ _ _ _ (by omega) (by omega),and_split _ _ _ _ hb (by omega),shift1 b hb _ (by omega)]
 omega
theorem q2_step (c v m:Nat)(hc:c < 256):q2 (c+256*v) (51+256*m)=q2 c 51+256*q2 v m:=by
 unfold q2
 have e:(c+256*v) / 4=(c / 4+64*(v % 4))+256*(v / 4):=by omega
 rw[e,and_split _ _ _ _ (by omega) (by omega),and_split _ _ _ _ hc (by omega),shift2 c hc _ (by omega)]
 omega
theorem q3_step (c v m:Nat)(hc:c < 69)(hv:v % 16≤4):q3 (c+256*v) (15+256*m)=q3 c 15+256*q3 v m:=by
 unfold q3
 have e:(c+256*v) / 16+(c+256*v)=(c / 16+c+16*(v % 16))+256*(v / 16+v):=by omega
 rw[e,and_split _ _ _ _ (by omega) (by omega),mask15 c hc _ hv]
theorem lanes (b h m1 m2 m3:Nat)(hb:b < 256)(hh:q2 (q1 h m1) m2 % 16≤4) :
  q3 (q2 (q1 (b+256*h) (85+256*m1)) (51+256*m2)) (15+256*m3)=bitsum 8 b+256*q3 (q2 (q1 h m1) m2) m3∧q2 (q1 (b+256*h) (85+256*m1)) (51+256*m2) % 16≤4:=by
 have h1:=q1_8 b hb
 obtain⟨h2,h3⟩:=q2_8 b hb
 rw[q1_step b h m1 hb,q2_step _ _ m2 h1]
 refine⟨?_,by omega⟩
 rw[q3_step _ _ m3 h2 hh,(q3_8 b hb).1]
theorem ones_lanes (n:Nat)(hn:n < 18446744073709551616):∃ p0 p1 p2 p3 p4 p5 p6 p7:Nat,p0≤8∧p1≤8∧p2≤8∧p3≤8∧p4≤8∧p5≤8∧p6≤8∧p7≤8 ∧
  q3 (q2 (q1 n 6148914691236517205) 3689348814741910323) 1085102592571150095=p0+256*(p1+256*(p2+256*(p3+256*(p4+256*(p5+256*(p6+256*p7)))))) ∧
  bitsum 64 n=p0+p1+p2+p3+p4+p5+p6+p7:=by
 obtain⟨b0,n1,r0,e0⟩:∃ b h,b < 256∧n=b+256*h:=⟨n % 256,n / 256,by omega,by omega⟩
 obtain⟨b1,n2,r1,e1⟩:∃ b h,b < 256∧n1=b+256*h:=⟨n1 % 256,n1 / 256,by omega,by omega⟩
 obtain⟨b2,n3,r2,e2⟩:∃ b h,b < 256∧n2=b+256*h:=⟨n2 % 256,n2 / 256,by omega,by omega⟩
 obtain⟨b3,n4,r3,e3⟩:∃ b h,b < 256∧n3=b+256*h:=⟨n3 % 256,n3 / 256,by omega,by omega⟩
 obtain⟨b4,n5,r4,e4⟩:∃ b h,b < 256∧n4=b+256*h:=⟨n4 % 256,n4 / 256,by omega,by omega⟩
 obtain⟨b5,n6,r5,e5⟩:∃ b h,b < 256∧n5=b+256*h:=⟨n5 % 256,n5 / 256,by omega,by omega⟩
 obtain⟨b6,n7,r6,e6⟩:∃ b h,b < 256∧n6=b+256*h:=⟨n6 % 256,n6 / 256,by omega,by omega⟩
 have r7:n7 < 256:=by omega
 have s7:=q3_8 n7 r7
 have t7:=q2_8 n7 r7
 have m6:=lanes b6 n7 85 51 15 r6 t7.2
 have m5:=lanes b5 (b6+256*n7) 21845 13107 3855 r5 m6.2
 have m4:=lanes b4 (b5+256*(b6+256*n7)) 5592405 3355443 986895 r4 m5.2
 have m3:=lanes b3 _ 1431655765 858993459 252645135 r3 m4.2
 have m2:=lanes b2 _ 366503875925 219902325555 64677154575 r2 m3.2
 have m1:=lanes b1 _ 93824992236885 56294995342131 16557351571215 r1 m2.2
 have m0:=lanes b0 _ 24019198012642645 14411518807585587 4238682002231055 r0 m1.2
 refine⟨bitsum 8 b0,bitsum 8 b1,bitsum 8 b2,bitsum 8 b3,bitsum 8 b4,bitsum 8 b5,bitsum 8 b6,bitsum 8 n7,(q3_8 b0 r0).2,(q3_8 b1 r1).2,(q3_8 b2 r2).2,(q3_8 b3 r3).2,(q3_8 b4 r4).2,(q3_8 b5 r5).2,(q3_8 b6 r6).2,s7.2,?_,?_⟩
 ·subst e0 e1 e2 e3 e4 e5 e6
  have h0:=m0.1;have h1:=m1.1;have h2:=m2.1;have h3:=m3.1;have h4:=m4.1;have h5:=m5.1;have h6:=m6.1
  simp only[Nat.reduceMul,Nat.reduceAdd]at h0 h1 h2 h3 h4 h5 h6
  rw[h0,h1,h2,h3,h4,h5,h6,s7.1]
 ·subst e0 e1 e2 e3 e4 e5 e6
  rw[show(64:Nat)=8+56 from rfl,bitsum_byte _ _ _ r0,show(56:Nat)=8+48 from rfl,bitsum_byte _ _ _ r1,show(48:Nat)=8+40 from rfl,bitsum_byte _ _ _ r2,show(40:Nat)=8+32 from rfl,bitsum_byte _ _ _ r3,
   show(32:Nat)=8+24 from rfl,bitsum_byte _ _ _ r4,show(24:Nat)=8+16 from rfl,bitsum_byte _ _ _ r5,show(16:Nat)=8+8 from rfl,bitsum_byte _ _ _ r6]
  omega
theorem lanes_sum (p0 p1 p2 p3 p4 p5 p6 p7 a:Nat)(h0:p0≤8)(h1:p1≤8)(h2:p2≤8)(h3:p3≤8)(h4:p4≤8)(h5:p5≤8)(h6:p6≤8)(h7:p7≤8)
  (ha:a=p0+256*(p1+256*(p2+256*(p3+256*(p4+256*(p5+256*(p6+256*p7))))))) :
  ∃ a4 a5 a6:Nat,a+a / 256=a4∧a4+a4 / 65536=a5∧a5+a5 / 4294967296=a6∧a4 < 18446744073709551616∧a5 < 18446744073709551616∧a6 < 9223372036854775808∧a6 % 128=p0+p1+p2+p3+p4+p5+p6+p7:=by
 obtain⟨t6,e6⟩:∃ t,t=p6+256*p7:=⟨_,rfl⟩
 obtain⟨t5,e5⟩:∃ t,t=p5+256*t6:=⟨_,rfl⟩
 obtain⟨t4,e4⟩:∃ t,t=p4+256*t5:=⟨_,rfl⟩
 obtain⟨t3,e3⟩:∃ t,t=p3+256*t4:=⟨_,rfl⟩
 obtain⟨t2,e2⟩:∃ t,t=p2+256*t3:=⟨_,rfl⟩
 obtain⟨t1,e1⟩:∃ t,t=p1+256*t2:=⟨_,rfl⟩
 rw[← e6,← e5,← e4,← e3,← e2,← e1]at ha
 have b6:t6≤2056:=by omega
 have b5:t5≤526344:=by omega
 have b4:t4≤134744072:=by omega
 have b3:t3≤34494482440:=by omega
 have b2:t2≤8830587504648:=by omega
 have b1:t1≤2260630401189896:=by omega
 have d1:a / 256=t1:=by omega
 obtain⟨U,hU⟩:∃ U,U=t2+t3:=⟨_,rfl⟩
 obtain⟨a4,h4⟩:∃ x,x=a+t1:=⟨_,rfl⟩
 have f4:a4=(p0+p1)+256*(p1+p2)+65536*U:=by omega
 have d2:a4 / 65536=U:=by omega
 obtain⟨V,hV⟩:∃ V,V=t4+t5:=⟨_,rfl⟩
 have fU:U=(p2+p3)+256*(p3+p4)+65536*V:=by omega
 have fV:V=(p4+p5)+256*(p5+p6)+65536*(t6+p7):=by omega
 obtain⟨a5,h5⟩:∃ x,x=a4+U:=⟨_,rfl⟩
 have f5:a5=(p0+p1+p2+p3)+256*(p1+p2+p3+p4)+65536*(p2+p3+p4+p5)+16777216*(p3+p4+p5+p6)+4294967296*(V+(t6+p7)):=by
  clear h4 d1 d2 ha e1 e2 e3 e4 e5 hU hV
  omega
 have d3:a5 / 4294967296=V+(t6+p7):=by
  clear h4 d1 d2 ha e1 e2 e3 e4 e5 hU hV h5 f4 fU fV
  omega
 have bU:U≤8865081987088:=by omega
 have bV:V≤135270416:=by omega
 have c4:a4≤600000000000000000:=by clear h4 d1 d2 d3 ha e1 e2 e3 e4 e5 hU hV h5 fU fV f5;omega
 have c5:a5≤700000000000000000:=by clear h4 d1 d2 d3 ha e1 e2 e3 e4 e5 hU hV f4 fU fV f5;omega
 have g:V+(t6+p7)=(p4+p5+p6+p7)+128*(2*(p5+p6)+512*(t6+p7)+2*p7):=by
  clear h4 d1 d2 d3 ha e1 e2 e3 e4 e5 hU hV h5 f4 fU f5 c4 c5
  omega
 have c6:V+(t6+p7)≤135272480:=by clear h4 d1 d2 d3 ha e1 e2 e3 e4 e5 hU hV h5 f4 fU f5 c4 c5 g fV;omega
 refine⟨a4,a5,a5+(V+(t6+p7)),by rw[d1,h4],by rw[d2,h5],by rw[d3],by omega,by omega,by omega,?_⟩
 have g5:a5=(p0+p1+p2+p3)+128*(2*(p1+p2+p3+p4)+512*(p2+p3+p4+p5)+131072*(p3+p4+p5+p6)+33554432*(V+(t6+p7))):=by
  rw[f5];clear h4 d1 d2 d3 ha e1 e2 e3 e4 e5 hU hV h5 f4 fU fV f5 g c4 c5 c6 bU bV
  omega
 generalize 2*(p1+p2+p3+p4)+512*(p2+p3+p4+p5)+131072*(p3+p4+p5+p6)+33554432*(V+(t6+p7))=X at g5
 generalize 2*(p5+p6)+512*(t6+p7)+2*p7=Y at g
 rw[g,g5]
 clear h4 d1 d2 d3 ha e1 e2 e3 e4 e5 e6 hU hV h5 f4 fU fV f5 g g5 c4 c5 c6 bU bV b1 b2 b3 b4 b5 b6
 omega
def bitsL (m:Nat):List Nat:=(List.range 8).filter m.testBit
theorem bits_count:∀ m,m < 256→(bitsL m).length=bitsum 64 m:=by decide +kernel
theorem bits_drop:∀ m,m < 256→m≠0→∃ i,i < 8∧bitsL m=i::bitsL (m &&& (m - 1))∧m &&& (m - 1) < 256∧m &&& (18446744073709551616 - m)=2 ^ i:=by
 have h:∀ m,m < 256→m≠0→(List.range 8).any (fun i=>decide (bitsL m=i::bitsL (m &&& (m - 1))) && decide (m &&& (m - 1) < 256) && decide (m &&& (18446744073709551616 - m)=2 ^ i))=true:=by decide +kernel
 intro m hm h0
 obtain⟨i,hi,e⟩:=List.any_eq_true.1 (h m hm h0)
 rw[Bool.and_eq_true,Bool.and_eq_true]at e
 exact⟨i,List.mem_range.1 hi,of_decide_eq_true e.1.1,of_decide_eq_true e.1.2,of_decide_eq_true e.2⟩
theorem bits_zero:bitsL 0=[]:=by decide
def maskV (ks:List ByteArray)(num stp:Int)(val:ByteArray):List VoteP→Nat→Nat
 | [],m=>m
 | v::vs,m=>maskV ks num stp val vs (if inSlot ks num stp v=true∧v.val=val then m ||| 2 ^ v.car.toNat else m)
theorem or_lt256 {m i:Nat}(hm:m < 256)(hi:i < 8):m ||| 2 ^ i < 256:=by
 have h:2 ^ i < 2 ^ 8:=Nat.pow_lt_pow_right (by omega) hi
 exact Nat.or_lt_two_pow (n:=8) hm h
theorem slot_facts {ks:List ByteArray}{num stp:Int}{v:VoteP}(h:inSlot ks num stp v=true):genV ks v=true∧v.num=num∧v.stp=stp:=by
 unfold inSlot at h
 rw[Bool.and_eq_true]at h
 exact⟨h.1,of_decide_eq_true h.2⟩
theorem mask_lt (ks:List ByteArray)(num stp:Int)(val:ByteArray):∀(l:List VoteP) (m:Nat),m < 256→maskV ks num stp val l m < 256
 | [],m,h=>h
 | v::vs,m,h=>by
  refine mask_lt ks num stp val vs _ ?_
  by_cases hc:inSlot ks num stp v=true∧v.val=val
  ·rw[if_pos hc]
   have hg:=gen_facts (slot_facts hc.1).1
   exact or_lt256 h (by omega)
  ·rw[if_neg hc]
   exact h
theorem mask_bit (ks:List ByteArray)(num stp:Int)(val:ByteArray):∀(l:List VoteP) (m i:Nat),(maskV ks num stp val l m).testBit i=(m.testBit i || votesFor ks num stp val l i)
 | [],m,i=>by simp[maskV,votesFor]
 | v::vs,m,i=>by
  show(maskV ks num stp val vs _).testBit i=_
  rw[mask_bit ks num stp val vs _ i]
  have e:votesFor ks num stp val (v::vs) i=((genV ks v && decide (v.num=num∧v.stp=stp∧v.val=val∧v.car=i)) || votesFor ks num stp val vs i):=rfl
  rw[e,← Bool.or_assoc]
  congr 1
  by_cases hc:inSlot ks num stp v=true∧v.val=val
  ·rw[if_pos hc,Nat.testBit_or,Nat.testBit_two_pow]
   obtain⟨h1,h2,h3⟩:=slot_facts hc.1
   have hg:=gen_facts h1
   congr 1
   rw[h1,Bool.true_and]
   refine decide_eq_decide.2 ⟨fun h=>⟨h2,h3,hc.2,by omega⟩,fun h=>by omega⟩
  ·rw[if_neg hc]
   have:(genV ks v && decide (v.num=num∧v.stp=stp∧v.val=val∧v.car=i))=false:=by
    rw[Bool.eq_false_iff]
    intro h
    rw[Bool.and_eq_true]at h
    have h2:=of_decide_eq_true h.2
    refine hc ⟨?_,h2.2.2.1⟩
    unfold inSlot
    rw[h.1,Bool.true_and]
    exact decide_eq_true ⟨h2.1,h2.2.1⟩
   rw[this,Bool.or_false]
theorem mask_who {ks:List ByteArray}(hk:ks.length≤8)(num stp:Int)(val:ByteArray)(l:List VoteP):bitsL (maskV ks num stp val l 0)=whoL ks num stp val l:=by
 unfold bitsL whoL
 have e:(maskV ks num stp val l 0).testBit=votesFor ks num stp val l:=by
  funext i
  rw[mask_bit,Nat.zero_testBit,Bool.false_or]
 rw[e]
 obtain⟨n,hn⟩:∃ n,8=ks.length+n:=⟨8 - ks.length,by omega⟩
 rw[hn,List.range_add,List.filter_append]
 have:((List.range n).map (ks.length+·)).filter (votesFor ks num stp val l)=[]:=by
  rw[List.filter_eq_nil_iff]
  intro i hi h
  obtain⟨j,_,rfl⟩:=List.mem_map.1 hi
  obtain⟨v,_,hv⟩:=List.any_eq_true.1 h
  rw[Bool.and_eq_true]at hv
  have h1:=(gen_facts hv.1).2.1
  have h2:=(of_decide_eq_true hv.2).2.2.2
  omega
 rw[this,List.append_nil]
theorem bits_take:∀(k m:Nat),m < 256→k < (bitsL m).length→∃ i r,bitsL m=i::r∧bitsL (m &&& (m - 1))=r∧m &&& (m - 1) < 256∧m &&& (18446744073709551616 - m)=2 ^ i∧i < 8:=by
 intro k m hm hk
 have h0:m≠0:=by
  rintro rfl
  rw[bits_zero]at hk
  simp at hk
 obtain⟨i,h1,h2,h3,h4⟩:=bits_drop m hm h0
 exact⟨i,_,h2,rfl,h3,h4,h1⟩
theorem i64_mask7 (a:Nat)(h:a < 9223372036854775808):bits BinOp.and IntKind.i64 (a:Int) 127=((a % 128:Nat):Int):=by
 have h1:(BitVec.ofInt 64 (a:Int)).toNat=a:=by
  rw[BitVec.ofInt_natCast,BitVec.toNat_ofNat];exact Nat.mod_eq_of_lt (by omega)
 have h2:(BitVec.ofInt 64 (127:Int)).toNat=127:=rfl
 show IntKind.i64.wrap ((BitVec.ofInt 64 (a:Int) &&& BitVec.ofInt 64 127).toNat:Int)=_
 rw[BitVec.toNat_and,h1,h2,Nat.and_two_pow_sub_one_eq_mod a 7]
 rw[IntWalk.i64_in _ ⟨by omega,by omega⟩]
set_option maxHeartbeats 1000000 in
theorem ones_any (n:Nat)(w:World)(h1:n < 18446744073709551616) :
  Calls Tryz.prog 110 #[.int .u64 n] w fun e w'=>e=.returned (.int .i64 (bitsum 64 n:Nat))∧w=w':=by
 obtain⟨p0,p1,p2,p3,p4,p5,p6,p7,g0,g1,g2,g3,g4,g5,g6,g7,hl,hs⟩:=ones_lanes n h1
 obtain⟨a4,a5,a6,e4,e5,e6,l4,l5,l6,hm⟩:=lanes_sum p0 p1 p2 p3 p4 p5 p6 p7 _ g0 g1 g2 g3 g4 g5 g6 g7 hl
 have hres:((bitsum 64 n:Nat):Int)=((a6 % 128:Nat):Int):=by rw[hs,hm]
 have HR:=zh hres
 clear hres hs hm hl g0 g1 g2 g3 g4 g5 g6 g7
 clear p0 p1 p2 p3 p4 p5 p6 p7
 have b0:q1 n 6148914691236517205 < 18446744073709551616:=by
  have h1:n / 2 &&& 6148914691236517205≤6148914691236517205:=Nat.and_le_right
  have h2:n &&& 6148914691236517205≤6148914691236517205:=Nat.and_le_right
  unfold q1;omega
 have k1:IntKind.u64.wrap (bits BinOp.and IntKind.u64 ((n:Int) / 2) 6148914691236517205+bits BinOp.and IntKind.u64 (n:Int) 6148914691236517205)=((q1 n 6148914691236517205:Nat):Int):=by
  rw[show(n:Int) / 2=((n / 2:Nat):Int) by omega,show(6148914691236517205:Int)=((6148914691236517205:Nat):Int)from rfl,u64_and_nat _ _ (by omega) (by omega),u64_and_nat _ _ h1 (by omega),IntKind.wrap_u64]
  unfold q1 at *;omega
 generalize q1 n 6148914691236517205=x1 at *
 have b1:q2 x1 3689348814741910323 < 18446744073709551616:=by
  have h1:x1 / 4 &&& 3689348814741910323≤3689348814741910323:=Nat.and_le_right
  have h2:x1 &&& 3689348814741910323≤3689348814741910323:=Nat.and_le_right
  unfold q2;omega
 have k2:IntKind.u64.wrap (bits BinOp.and IntKind.u64 ((x1:Int) / 4) 3689348814741910323+bits BinOp.and IntKind.u64 (x1:Int) 3689348814741910323)=((q2 x1 3689348814741910323:Nat):Int):=by
  rw[show(x1:Int) / 4=((x1 / 4:Nat):Int) by omega,show(3689348814741910323:Int)=((3689348814741910323:Nat):Int)from rfl,u64_and_nat _ _ (by omega) (by omega),u64_and_nat _ _ b0 (by omega),IntKind.wrap_u64]
  unfold q2 at *;omega
 have b2':q2 x1 3689348814741910323≤7378697629483820646:=by
  have h1:x1 / 4 &&& 3689348814741910323≤3689348814741910323:=Nat.and_le_right
  have h2:x1 &&& 3689348814741910323≤3689348814741910323:=Nat.and_le_right
  unfold q2;omega
 generalize q2 x1 3689348814741910323=x2 at *
 have b3:q3 x2 1085102592571150095 < 18446744073709551616:=by
  have h1:(x2 / 16+x2) &&& 1085102592571150095≤1085102592571150095:=Nat.and_le_right
  unfold q3;omega
 have k3:bits BinOp.and IntKind.u64 (IntKind.u64.wrap ((x2:Int) / 16+(x2:Int))) 1085102592571150095=((q3 x2 1085102592571150095:Nat):Int):=by
  have e:IntKind.u64.wrap ((x2:Int) / 16+(x2:Int))=((x2 / 16+x2:Nat):Int):=by rw[IntKind.wrap_u64];omega
  rw[e,show(1085102592571150095:Int)=((1085102592571150095:Nat):Int)from rfl,u64_and_nat _ _ (by omega) (by omega)]
  rfl
 generalize q3 x2 1085102592571150095=x3 at *
 have k4:IntKind.u64.wrap ((x3:Int)+(x3:Int) / 256)=(a4:Int):=by rw[IntKind.wrap_u64];omega
 have k5:IntKind.u64.wrap ((a4:Int)+(a4:Int) / 65536)=(a5:Int):=by rw[IntKind.wrap_u64];omega
 have k6:IntKind.u64.wrap ((a5:Int)+(a5:Int) / 4294967296)=(a6:Int):=by rw[IntKind.wrap_u64];omega
 clear e4 e5 e6 l4 l5 b0 b1 b2' b3
 go_enter Tryz.func110,Tryz.ntmps110
 go_wp2
 go_ret
 refine⟨ret_int ?_,rfl⟩
 rw[HR.out]
 exact i64_mask7 a6 l6
def Tab (w:World):Prop:=∀ j,j < 64→w.cell? ⟨1,j,none⟩=some (.int .u8 (Lib.deBruijn64tab.getD j 0:Nat))
theorem Tab.below {B:Nat}{w w':World}(h:Tab w)(hb:Below B w w')(hB:1 < B):Tab w':=fun j hj=>(hb.cell (p:=⟨1,j,none⟩) hB).trans (h j hj)
theorem Tab.keep {w w':World}(h:Tab w)(hk:∀ o,w'.cell? ⟨1,o,none⟩=w.cell? ⟨1,o,none⟩):Tab w':=fun j hj=>(hk j).trans (h j hj)
theorem tz_key (a:Nat)(x:Nat)(hx:x < 18446744073709551616)(hx0:x≠0)(hlow:x &&& (18446744073709551616 - x)=a) :
  IntKind.u64.wrap (bits BinOp.and IntKind.u64 (x:Int) (IntKind.u64.wrap (-(x:Int)))*285870213051353865) / 288230376151711744=((a*285870213051353865 % 18446744073709551616 / 288230376151711744:Nat):Int):=by
 have e1:IntKind.u64.wrap (-(x:Int))=((18446744073709551616 - x:Nat):Int):=by rw[IntKind.wrap_u64];omega
 rw[e1,u64_and_nat x _ hx (by omega),hlow,IntKind.wrap_u64]
 omega
set_option maxHeartbeats 1000000 in
theorem tz_core (x k idx:Nat)(w:World)(hx0':((x:Int) == 0)=false)
  (key:IntKind.u64.wrap (bits BinOp.and IntKind.u64 (x:Int) (IntKind.u64.wrap (-(x:Int)))*285870213051353865) / 288230376151711744=(idx:Int))
  (hi:idx < 64) (hk:k < 64) (hcell:w.cell? ⟨1,idx,none⟩=some (.int .u8 k)) :
  Calls Tryz.prog 112 #[.int .u64 x] w fun e w'=>e=.returned (.int .i64 k)∧w=w':=by
 go_enter Tryz.func112,Tryz.ntmps112
 go_wp2_with (simp only[key])
 go_ret
 exact⟨rfl,rfl⟩
theorem tz_any (x k:Nat)(w:World)(hx:x < 18446744073709551616)(hx0:x≠0)(hlow:x &&& (18446744073709551616 - x)=2 ^ k)(hk:k < 64)(ht:Tab w) :
  Calls Tryz.prog 112 #[.int .u64 x] w fun e w'=>e=.returned (.int .i64 k)∧w=w':=by
 obtain⟨hi,htab⟩:=Lib.deBruijn64_at _ hk
 have hcell:=ht _ hi
 rw[htab]at hcell
 exact tz_core x k _ w (by simp;omega) (tz_key _ x hx hx0 hlow) hi hk hcell
set_option maxHeartbeats 400000 in
theorem onesU_any (n:Nat)(w:World)(h1:n < 256) :
  Calls Tryz.prog 78 #[.int .u64 n] w fun e w'=>e=.returned (.int .i64 ((bitsL n).length:Nat))∧w=w':=by
 have HO:=zh (ones_any n w (by omega))
 rw[← bits_count n h1]at HO
 generalize (bitsL n).length=m at *
 go_enter Tryz.func78,Tryz.ntmps78
 go_wp2_with (go_at_call 110;refine HO.out.mono ?_;rintro e w1 ⟨rfl,rfl⟩)
 go_ret
 exact⟨rfl,rfl⟩
set_option maxHeartbeats 400000 in
theorem tzU_any (x k:Nat)(w:World)(hx:x < 18446744073709551616)(hx0:x≠0)(hlow:x &&& (18446744073709551616 - x)=2 ^ k)(hk:k < 64)(ht:Tab w) :
  Calls Tryz.prog 80 #[.int .u64 x] w fun e w'=>e=.returned (.int .i64 k)∧w=w':=by
 have HO:=zh (tz_any x k w hx hx0 hlow hk ht)
 clear hlow
 go_enter Tryz.func80,Tryz.ntmps80
 go_wp2_with (go_at_call 112;refine HO.out.mono ?_;rintro e w1 ⟨rfl,rfl⟩)
 go_ret
 exact⟨rfl,rfl⟩
end Go.Proofs.YtggdcnjaofflbaaGreatDoor
