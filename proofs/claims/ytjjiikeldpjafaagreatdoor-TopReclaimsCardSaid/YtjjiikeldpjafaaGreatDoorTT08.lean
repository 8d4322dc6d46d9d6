/- Walks of package register: Sign. The conditions: what the slice reads as, lengths, the table of constants. -/
import Derived.Test.YtjjiikeldpjafaaGreatDoorTT07
namespace Go.Proofs.YtjjiikeldpjafaaGreatDoor
open Go.RowKit Go.BigFrame
theorem infoHead:(Tryz.prog.info? 66).map (·.size)=some 4:=by kernel_rfl
theorem infoPart:(Tryz.prog.info? 69).map (·.size)=some 5:=by kernel_rfl
theorem infoReg:(Tryz.prog.info? 134).map (·.size)=some 2:=by kernel_rfl
set_option maxHeartbeats 4000000 in
set_option maxRecDepth 100000 in
theorem sign_yes {key:ByteArray}{car:Int}{w:World}{v:Value}{xs:List ByteArray}{n:Nat}(hr:SS w v xs)(hk:key.size=32)(hv:validB ⟨car,xs⟩=true)(hn:n≤xs.length)(he:Env w)(hg:0 < w.heap.size) :
  Calls Tryz.prog 82 #[.string key,.agg #[.int .i64 car,v],.int .i64 n] w fun e w'=>e=.returned (.tuple #[headV (headS key car xs n),.int .i64 0])∧Below w.heap.size w w':=by
 obtain⟨v1,v2,v3,v4⟩:0≤car∧car≤7∧xs.length≤60∧∀ s∈xs,s.size≤1000:=valid_parts hv
 obtain⟨a,cap,rfl,l1,l2,l3⟩:=hr.opened
 have HV:=zh (fun W (hW:Below w.heap.size w W)=>valid_any car (hr.below hW))
 rw[hv]at HV
 have HRt:Hid (∀ W:World,Below w.heap.size w W→Calls Tryz.prog 120 #[.slice a n cap] W fun e w'=>e=.returned (.string (rootB (xs.take n)))∧Below W.heap.size W w'):=zh (fun W hW =>
  root_any ((hr.cut n hn).below hW) (by rw[List.length_take];omega) (fun x hx=>Nat.le_trans (v4 x (List.mem_of_mem_take hx)) (by omega)) (he.below hW hg) (Nat.lt_of_lt_of_le hg hW.size))
 have hrs:(rootB (xs.take n)).size=32:=rootB_size _
 have HHd:Hid (headS key car xs n=⟨car,n,rootB (xs.take n),signedB key ⟨car,n,rootB (xs.take n),⟨#[]⟩⟩⟩):=zh rfl
 obtain⟨H,hH⟩:∃ H,H=headS key car xs n:=⟨_,rfl⟩
 rw[← hH]at HHd ⊢
 generalize rootB (xs.take n)=R at *
 obtain⟨c,hc⟩:=Int.eq_ofNat_of_zero_le v1
 have HS:Hid (∀ W:World,Below w.heap.size w W→Calls Tryz.prog 121 #[.string key,.agg #[.int .i64 car,.int .i64 n,.string R,.string ⟨#[]⟩]] W fun e w'=>e=.returned (.string (signedB key ⟨car,n,R,⟨#[]⟩⟩))∧Below W.heap.size W w'):=zh (fun W hW=>sealed_any key car n R ⟨#[]⟩ c n hc rfl (by omega) (by omega) W (by omega) (by omega) (he.below hW hg) (Nat.lt_of_lt_of_le hg hW.size))
 generalize signedB key ⟨car,n,R,⟨#[]⟩⟩=Z at *
 have hn6:(n:Int)≤(xs.length:Int):=by omega
 generalize xs.length=m at *
 have d0:decide (key.size=32)=true:=decide_eq_true hk
 have d3:decide (0≤(n:Int)∧(n:Int)≤(m:Int))=true:=decide_eq_true ⟨by omega,hn6⟩
 clear l3 hr hv v1 v2 v3 v4 hc hH he hg
 have HB2:Hid (Below w.heap.size w ((w.alloc (.cells #[.int .i64 car,.slice a m cap] 134)).alloc (.cells #[.int .i64 0,.int .i64 0,.string ⟨#[]⟩,.string ⟨#[]⟩] 66))):=zh ((br0.alloc (Nat.le_refl _) _).alloc (by simp) _)
 go_enter Tryz.func82,Tryz.ntmps82
 go_wp2_with (first | (go_at_call 117;refine(isKey_any _ _).mono ?_;rintro e w1 ⟨rfl,rfl⟩;rw[d0]) | (go_at_call 118;refine(HV.out _ HB2.out).mono ?_;rintro e w2 ⟨rfl,rfl⟩) | (go_at_call 119;refine(within_any _ _ _ _).mono ?_;rintro e w3 ⟨rfl,rfl⟩;rw[d3]))
 have HB3:Hid (Below w.heap.size w (((w.alloc (.cells #[.int .i64 car,.slice a m cap] 134)).alloc (.cells #[.int .i64 0,.int .i64 0,.string ⟨#[]⟩,.string ⟨#[]⟩] 66)).alloc (.cells #[.int .i64 car,.slice a m cap] 134))):=zh (HB2.out.alloc (by simp <;> omega) _)
 have HZ3:Hid ((((w.alloc (.cells #[.int .i64 car,.slice a m cap] 134)).alloc (.cells #[.int .i64 0,.int .i64 0,.string ⟨#[]⟩,.string ⟨#[]⟩] 66)).alloc (.cells #[.int .i64 car,.slice a m cap] 134)).heap[w.heap.size+1]?=some (.cells #[.int .i64 0,.int .i64 0,.string ⟨#[]⟩,.string ⟨#[]⟩] 66 (0,0))):=zh ((Below.heap_alloc _ _ _ (by simp)).trans (at_second w _ _))
 have HA3:Hid ((((w.alloc (.cells #[.int .i64 car,.slice a m cap] 134)).alloc (.cells #[.int .i64 0,.int .i64 0,.string ⟨#[]⟩,.string ⟨#[]⟩] 66)).alloc (.cells #[.int .i64 car,.slice a m cap] 134)).heap[w.heap.size]?=some (.cells #[.int .i64 car,.slice a m cap] 134 (0,0))):=zh ((Below.heap_alloc _ _ _ (by simp <;> omega)).trans (at_past w _ _))
 have hs3:(((w.alloc (.cells #[.int .i64 car,.slice a m cap] 134)).alloc (.cells #[.int .i64 0,.int .i64 0,.string ⟨#[]⟩,.string ⟨#[]⟩] 66)).alloc (.cells #[.int .i64 car,.slice a m cap] 134)).heap.size=w.heap.size+3:=by simp
 generalize ((w.alloc (.cells #[.int .i64 car,.slice a m cap] 134)).alloc (.cells #[.int .i64 0,.int .i64 0,.string ⟨#[]⟩,.string ⟨#[]⟩] 66)).alloc (.cells #[.int .i64 car,.slice a m cap] 134)=W3 at *
 have hnc:n≤cap:=by omega
 unfold maxLen at l2
 have C0:W3.drew.cell? ⟨w.heap.size,0,none⟩=some (.int .i64 car):=cell_of_row W3 _ 0 _ _ _ HA3.out
 have C1:W3.drew.cell? ⟨w.heap.size,1,none⟩=some (.slice a m cap):=cell_of_row W3 _ 1 _ _ _ HA3.out
 have HBd:Hid (Below w.heap.size w W3.drew):=zh (below_drewN HB3.out 1)
 have HBv:Hid (Below w.heap.size w (W3.alloc (.cells #[.int .i64 0,.int .i64 0,.string ⟨#[]⟩,.string ⟨#[]⟩] 66)).drew):=zh (below_drewN (HB3.out.alloc (by omega) _) 1)
 have HCv:Hid ((W3.alloc (.cells #[.int .i64 0,.int .i64 0,.string ⟨#[]⟩,.string ⟨#[]⟩] 66)).heap[w.heap.size]?=some (.cells #[.int .i64 car,.slice a m cap] 134 (0,0))∧(W3.alloc (.cells #[.int .i64 0,.int .i64 0,.string ⟨#[]⟩,.string ⟨#[]⟩] 66)).heap[w.heap.size+1]?=some (.cells #[.int .i64 0,.int .i64 0,.string ⟨#[]⟩,.string ⟨#[]⟩] 66 (0,0))∧(W3.alloc (.cells #[.int .i64 0,.int .i64 0,.string ⟨#[]⟩,.string ⟨#[]⟩] 66)).heap[w.heap.size+3]?=some (.cells #[.int .i64 0,.int .i64 0,.string ⟨#[]⟩,.string ⟨#[]⟩] 66 (0,0))):=Lib.hid
  ⟨(Below.heap_alloc _ _ _ (by omega)).trans HA3.out,(Below.heap_alloc _ _ _ (by omega)).trans HZ3.out,by rw[← hs3];exact heap_alloc_new _ _⟩
 have hsv:(W3.alloc (.cells #[.int .i64 0,.int .i64 0,.string ⟨#[]⟩,.string ⟨#[]⟩] 66)).drew.heap.size=w.heap.size+4:=by show(W3.alloc _).heap.size=_;rw[World.size_alloc,hs3]
 have CV:(W3.alloc (.cells #[.int .i64 0,.int .i64 0,.string ⟨#[]⟩,.string ⟨#[]⟩] 66)).drew.cell? ⟨w.heap.size,0,none⟩=some (.int .i64 car)∧(W3.alloc (.cells #[.int .i64 0,.int .i64 0,.string ⟨#[]⟩,.string ⟨#[]⟩] 66)).drew.cell? ⟨w.heap.size,1,none⟩=some (.slice a m cap):=⟨cell_of_row (W3.alloc _) _ 0 _ _ _ HCv.out.1,cell_of_row (W3.alloc _) _ 1 _ _ _ HCv.out.1⟩
 have HCV:=zh CV
 clear CV
 go_region_held3 (fun w'=>w'.cell? ⟨w.heap.size,0,none⟩=some (.int .i64 car)∧w'.cell? ⟨w.heap.size,1,none⟩=some (.slice a m cap))
  (first | (exact⟨C0,C1⟩) | (exact HCV.out) | (exact HC2.out) | (exact HC5.out _) | (simp[World.cell?_setCell_other,HC2.out.1,HC2.out.2];done))
  ((first | (go_at_call 120;(with_reducible refine(HRt.out _ HBv.out).mono ?_);rintro e w4 ⟨rfl,hb4⟩;rw[hsv]at hb4;have HBw4:=zh (HBv.out.trans (hb4.mono (by omega)));have HA4:=zh ((hb4.block w.heap.size (by omega)).trans HCv.out.1);have HZ4:=zh ((hb4.block (w.heap.size+1) (by omega)).trans HCv.out.2.1);have HH4:=zh ((hb4.block (w.heap.size+3) (by omega)).trans HCv.out.2.2);clear hb4;have HC2:Hid (w4.cell? ⟨w.heap.size,0,none⟩=some (.int .i64 car)∧w4.cell? ⟨w.heap.size,1,none⟩=some (.slice a m cap)):=zh ⟨cell_of_row w4 _ 0 _ _ _ HA4.out,cell_of_row w4 _ 1 _ _ _ HA4.out⟩;have z0:w4.cell? ⟨w.heap.size+3,0,none⟩=some (.int .i64 0):=cell_of_row w4 _ 0 _ _ _ HH4.out;have z1:w4.cell? ⟨w.heap.size+3,1,none⟩=some (.int .i64 0):=cell_of_row w4 _ 1 _ _ _ HH4.out;have z2:w4.cell? ⟨w.heap.size+3,2,none⟩=some (.string ⟨#[]⟩):=cell_of_row w4 _ 2 _ _ _ HH4.out;have z3:w4.cell? ⟨w.heap.size+3,3,none⟩=some (.string ⟨#[]⟩):=cell_of_row w4 _ 3 _ _ _ HH4.out;have zf:∀ j,w4.frozen? ⟨w.heap.size+3,j,none⟩=false:=(fun j=>by simp[World.frozen?,HH4.out])) | (go_at_call 120;(with_reducible refine(HRt.out _ HBd.out).mono ?_);rintro e w4 ⟨rfl,hb4⟩;have HC2:Hid (w4.cell? ⟨w.heap.size,0,none⟩=some (.int .i64 car)∧w4.cell? ⟨w.heap.size,1,none⟩=some (.slice a m cap)):=zh ⟨(hb4.cell (p:=⟨w.heap.size,0,none⟩) (by show w.heap.size < W3.heap.size;omega)).trans C0,(hb4.cell (p:=⟨w.heap.size,1,none⟩) (by show w.heap.size < W3.heap.size;omega)).trans C1⟩;have HB4:=zh (HBd.out.trans (hb4.mono HBd.out.size));have HZ4:=zh ((hb4.block (w.heap.size+1) (by show w.heap.size+1 < W3.heap.size;omega)).trans HZ3.out);have hs4:=hb4.size;have HL5:Hid (W3.heap.size≤w4.heap.size):=zh hs4;have HC5:Hid (∀ o,(w4.alloc o).cell? ⟨w.heap.size,0,none⟩=some (.int .i64 car)∧(w4.alloc o).cell? ⟨w.heap.size,1,none⟩=some (.slice a m cap)):=zh (fun o=>have hl:w.heap.size < w4.heap.size:=(by have:W3.heap.size≤w4.heap.size:=hs4;omega);⟨(((Below.refl _ w4).alloc (Nat.le_refl _) o).cell (p:=⟨w.heap.size,0,none⟩) hl).trans HC2.out.1,(((Below.refl _ w4).alloc (Nat.le_refl _) o).cell (p:=⟨w.heap.size,1,none⟩) hl).trans HC2.out.2⟩);clear hb4 hs4)))
 ·have HH5:Hid ((w4.alloc (.cells #[.int .i64 car,.int .i64 n,.string R,.string ⟨#[]⟩] 66)).heap[w4.heap.size]?=some (.cells #[.int .i64 car,.int .i64 n,.string R,.string ⟨#[]⟩] 66 (0,0))):=zh (heap_alloc_new _ _)
  have hl4:w.heap.size+3≤w4.heap.size:=by have:=HL5.out;omega
  have HB5:Hid (Below w.heap.size w (w4.alloc (.cells #[.int .i64 car,.int .i64 n,.string R,.string ⟨#[]⟩] 66))):=zh (HB4.out.alloc (by omega) _)
  have HZ5:=zh ((Below.heap_alloc w4 (.cells #[.int .i64 car,.int .i64 n,.string R,.string ⟨#[]⟩] 66) (w.heap.size+1) (by omega)).trans HZ4.out)
  have hp:¬ w4.heap.size=w.heap.size+1:=by omega
  have hp0:w.heap.size≤w4.heap.size:=by omega
  clear HC5 HL5 HB4 HZ4 hl4
  rename_i hHeld
  clear hHeld
  generalize w4.alloc (.cells #[.int .i64 car,.int .i64 n,.string R,.string ⟨#[]⟩] 66)=W5 at *
  generalize w4.heap.size=p at *
  clear HC2 HCV HBd HBv HCv C0 C1 hsv HB3 HZ3 HA3 HV d0 d3 HRt
  have e0:W5.cell? ⟨p,0,none⟩=some (.int .i64 car):=cell_of_row W5 _ 0 _ _ _ HH5.out
  have e1:W5.cell? ⟨p,1,none⟩=some (.int .i64 n):=cell_of_row W5 _ 1 _ _ _ HH5.out
  have e2:W5.cell? ⟨p,2,none⟩=some (.string R):=cell_of_row W5 _ 2 _ _ _ HH5.out
  have e3:W5.cell? ⟨p,3,none⟩=some (.string ⟨#[]⟩):=cell_of_row W5 _ 3 _ _ _ HH5.out
  go_wp2_with fail
  refine(HS.out W5 HB5.out).mono ?_
  rintro e w6 ⟨rfl,hb6⟩
  clear e0 e1 e2 e3
  have HB6:=zh (HB5.out.trans (hb6.mono HB5.out.size))
  have HH6:=zh ((hb6.block p (ltA HH5.out)).trans HH5.out)
  have HZ6:=zh ((hb6.block (w.heap.size+1) (ltA HZ5.out)).trans HZ5.out)
  clear hb6
  have e0:w6.cell? ⟨p,0,none⟩=some (.int .i64 car):=cell_of_row w6 _ 0 _ _ _ HH6.out
  have e1:w6.cell? ⟨p,1,none⟩=some (.int .i64 n):=cell_of_row w6 _ 1 _ _ _ HH6.out
  have e2:w6.cell? ⟨p,2,none⟩=some (.string R):=cell_of_row w6 _ 2 _ _ _ HH6.out
  have e3:w6.cell? ⟨p,3,none⟩=some (.string ⟨#[]⟩):=cell_of_row w6 _ 3 _ _ _ HH6.out
  have ef:w6.frozen? ⟨p,3,none⟩=false:=by simp[World.frozen?,HH6.out]
  have y0:w6.cell? ⟨w.heap.size+1,0,none⟩=some (.int .i64 0):=cell_of_row w6 _ 0 _ _ _ HZ6.out
  have y1:w6.cell? ⟨w.heap.size+1,1,none⟩=some (.int .i64 0):=cell_of_row w6 _ 1 _ _ _ HZ6.out
  have y2:w6.cell? ⟨w.heap.size+1,2,none⟩=some (.string ⟨#[]⟩):=cell_of_row w6 _ 2 _ _ _ HZ6.out
  have y3:w6.cell? ⟨w.heap.size+1,3,none⟩=some (.string ⟨#[]⟩):=cell_of_row w6 _ 3 _ _ _ HZ6.out
  have yf:∀ j,w6.frozen? ⟨w.heap.size+1,j,none⟩=false:=fun j=>by simp[World.frozen?,HZ6.out]
  have hp':¬ w.heap.size+1=p:=fun e=>hp e.symm
  go_wp2_with fail
  have HR6:=zh (heap_setCell_same (i:=3) (.string Z) (heap_setCell_same (i:=2) (.string R) (heap_setCell_same (i:=1) (.int .i64 n) (heap_setCell_same (i:=0) (.int .i64 car) ((Below.heap_setCell w6 ⟨p,3,none⟩ (.string Z) (w.heap.size+1) hp').trans HZ6.out)))))
  refine bodyPost_ret (results_cellA_tmp rfl _ (w.heap.size+1) 66 #[.int .i64 car,.int .i64 n,.string R,.string Z] (0,0) _ rfl HR6.out Tryz.underlying66 rfl infoHead) rfl ⟨?_,?_⟩
  ·rw[HHd.out];rfl
  ·exact((((HB6.out.setCell (p:=⟨p,3,none⟩) hp0 _).setCell (p:=⟨w.heap.size+1,0,none⟩) (Nat.le_succ _) _).setCell (p:=⟨w.heap.size+1,1,none⟩) (Nat.le_succ _) _).setCell (p:=⟨w.heap.size+1,2,none⟩) (Nat.le_succ _) _).setCell (p:=⟨w.heap.size+1,3,none⟩) (Nat.le_succ _) _
 ·rename_i hHeld
  clear hHeld z0 z1 z2 z3 zf
  have HH5:Hid (((((w4.setCell ⟨w.heap.size+3,0,none⟩ (.int .i64 car)).setCell ⟨w.heap.size+3,1,none⟩ (.int .i64 n)).setCell ⟨w.heap.size+3,2,none⟩ (.string R)).setCell ⟨w.heap.size+3,3,none⟩ (.string ⟨#[]⟩)).heap[w.heap.size+3]?=some (.cells #[.int .i64 car,.int .i64 n,.string R,.string ⟨#[]⟩] 66 (0,0))):=zh (heap_setCell_same _ (heap_setCell_same _ (heap_setCell_same _ (heap_setCell_same _ HH4.out))))
  have HB5:Hid (Below w.heap.size w ((((w4.setCell ⟨w.heap.size+3,0,none⟩ (.int .i64 car)).setCell ⟨w.heap.size+3,1,none⟩ (.int .i64 n)).setCell ⟨w.heap.size+3,2,none⟩ (.string R)).setCell ⟨w.heap.size+3,3,none⟩ (.string ⟨#[]⟩))):=zh ((((HBw4.out.setCell (p:=⟨w.heap.size+3,0,none⟩) (by simp) _).setCell (p:=⟨w.heap.size+3,1,none⟩) (by simp) _).setCell (p:=⟨w.heap.size+3,2,none⟩) (by simp) _).setCell (p:=⟨w.heap.size+3,3,none⟩) (by simp) _)
  have HZ5:Hid (((((w4.setCell ⟨w.heap.size+3,0,none⟩ (.int .i64 car)).setCell ⟨w.heap.size+3,1,none⟩ (.int .i64 n)).setCell ⟨w.heap.size+3,2,none⟩ (.string R)).setCell ⟨w.heap.size+3,3,none⟩ (.string ⟨#[]⟩)).heap[w.heap.size+1]?=some (.cells #[.int .i64 0,.int .i64 0,.string ⟨#[]⟩,.string ⟨#[]⟩] 66 (0,0))):=zh (by
   rw[Below.heap_setCell _ _ _ _ (by simp),Below.heap_setCell _ _ _ _ (by simp),Below.heap_setCell _ _ _ _ (by simp),Below.heap_setCell _ _ _ _ (by simp)]
   exact HZ4.out)
  have hp:¬ w.heap.size+3=w.heap.size+1:=by omega
  have hp0:w.heap.size≤w.heap.size+3:=by omega
  clear HBw4 HZ4 HH4 HA4
  generalize (((w4.setCell ⟨w.heap.size+3,0,none⟩ (.int .i64 car)).setCell ⟨w.heap.size+3,1,none⟩ (.int .i64 n)).setCell ⟨w.heap.size+3,2,none⟩ (.string R)).setCell ⟨w.heap.size+3,3,none⟩ (.string ⟨#[]⟩)=W5 at *
  generalize w.heap.size+3=p at *
  clear HC2 HCV HBd HBv HCv C0 C1 hsv HB3 HZ3 HA3 HV d0 d3 HRt
  have e0:W5.cell? ⟨p,0,none⟩=some (.int .i64 car):=cell_of_row W5 _ 0 _ _ _ HH5.out
  have e1:W5.cell? ⟨p,1,none⟩=some (.int .i64 n):=cell_of_row W5 _ 1 _ _ _ HH5.out
  have e2:W5.cell? ⟨p,2,none⟩=some (.string R):=cell_of_row W5 _ 2 _ _ _ HH5.out
  have e3:W5.cell? ⟨p,3,none⟩=some (.string ⟨#[]⟩):=cell_of_row W5 _ 3 _ _ _ HH5.out
  go_wp2_with fail
  refine(HS.out W5 HB5.out).mono ?_
  rintro e w6 ⟨rfl,hb6⟩
  clear e0 e1 e2 e3
  have HB6:=zh (HB5.out.trans (hb6.mono HB5.out.size))
  have HH6:=zh ((hb6.block p (ltA HH5.out)).trans HH5.out)
  have HZ6:=zh ((hb6.block (w.heap.size+1) (ltA HZ5.out)).trans HZ5.out)
  clear hb6
  have e0:w6.cell? ⟨p,0,none⟩=some (.int .i64 car):=cell_of_row w6 _ 0 _ _ _ HH6.out
  have e1:w6.cell? ⟨p,1,none⟩=some (.int .i64 n):=cell_of_row w6 _ 1 _ _ _ HH6.out
  have e2:w6.cell? ⟨p,2,none⟩=some (.string R):=cell_of_row w6 _ 2 _ _ _ HH6.out
  have e3:w6.cell? ⟨p,3,none⟩=some (.string ⟨#[]⟩):=cell_of_row w6 _ 3 _ _ _ HH6.out
  have ef:w6.frozen? ⟨p,3,none⟩=false:=by simp[World.frozen?,HH6.out]
  have y0:w6.cell? ⟨w.heap.size+1,0,none⟩=some (.int .i64 0):=cell_of_row w6 _ 0 _ _ _ HZ6.out
  have y1:w6.cell? ⟨w.heap.size+1,1,none⟩=some (.int .i64 0):=cell_of_row w6 _ 1 _ _ _ HZ6.out
  have y2:w6.cell? ⟨w.heap.size+1,2,none⟩=some (.string ⟨#[]⟩):=cell_of_row w6 _ 2 _ _ _ HZ6.out
  have y3:w6.cell? ⟨w.heap.size+1,3,none⟩=some (.string ⟨#[]⟩):=cell_of_row w6 _ 3 _ _ _ HZ6.out
  have yf:∀ j,w6.frozen? ⟨w.heap.size+1,j,none⟩=false:=fun j=>by simp[World.frozen?,HZ6.out]
  have hp':¬ w.heap.size+1=p:=fun e=>hp e.symm
  go_wp2_with fail
  have HR6:=zh (heap_setCell_same (i:=3) (.string Z) (heap_setCell_same (i:=2) (.string R) (heap_setCell_same (i:=1) (.int .i64 n) (heap_setCell_same (i:=0) (.int .i64 car) ((Below.heap_setCell w6 ⟨p,3,none⟩ (.string Z) (w.heap.size+1) hp').trans HZ6.out)))))
  refine bodyPost_ret (results_cellA_tmp rfl _ (w.heap.size+1) 66 #[.int .i64 car,.int .i64 n,.string R,.string Z] (0,0) _ rfl HR6.out Tryz.underlying66 rfl infoHead) rfl ⟨?_,?_⟩
  ·rw[HHd.out];rfl
  ·exact((((HB6.out.setCell (p:=⟨p,3,none⟩) hp0 _).setCell (p:=⟨w.heap.size+1,0,none⟩) (Nat.le_succ _) _).setCell (p:=⟨w.heap.size+1,1,none⟩) (Nat.le_succ _) _).setCell (p:=⟨w.heap.size+1,2,none⟩) (Nat.le_succ _) _).setCell (p:=⟨w.heap.size+1,3,none⟩) (Nat.le_succ _) _
theorem genuine_parts {key:ByteArray}{h:HeadP}(e:genuineB key h=true):key.size=32∧(0≤h.car∧h.car≤7)∧(0≤h.siz∧h.siz≤60)∧h.root.size=32:=by
 unfold genuineB at e
 obtain⟨a,b,c,d,_⟩:=of_decide_eq_true e
 exact⟨a,b,c,d⟩
def itcells (l:List (ItemP × Value)):List (List Value):=l.map fun y=>[.int .i64 y.1.idx,.string y.1.ent,y.2]
def IS (w:World)(v:Value)(ys:List (ItemP × Value)):Prop:=SliceAt w v 3 (itcells ys)∧∀ y∈ys,SS w y.2 y.1.prf
theorem IS.below {w w':World}{v:Value}{ys:List (ItemP × Value)}(h:IS w v ys)(hb:Below w.heap.size w w'):IS w' v ys:=⟨h.1.below hb,fun y hy=>(h.2 y hy).below hb⟩
theorem IS.opened {w:World}{v:Value}{ys:List (ItemP × Value)}(h:IS w v ys):∃ a cap,v=.slice a ys.length cap∧ys.length≤cap∧cap≤maxLen ∧
  ∀ k y,ys[k]?=some y→∃ b off,a=some ⟨b,off,none⟩∧b < w.heap.size∧w.cell? ⟨b,off+k*3,none⟩=some (.int .i64 y.1.idx)∧w.cell? ⟨b,off+k*3+1,none⟩=some (.string y.1.ent)∧w.cell? ⟨b,off+k*3+2,none⟩=some y.2:=by
 obtain⟨⟨a,cap,hv,h1,h2,h3⟩,_⟩:=h
 unfold itcells at *
 rw[List.length_map]at hv h1
 refine⟨a,cap,hv,h1,h2,fun k y hy=>?_⟩
 rcases h3 with h3 | ⟨b,off,ha,hb,hc⟩
 ·simp at h3;subst h3;simp at hy
 ·have hk:(ys.map fun y=>[Value.int .i64 y.1.idx,.string y.1.ent,y.2])[k]?=some [.int .i64 y.1.idx,.string y.1.ent,y.2]:=by rw[List.getElem?_map,hy];rfl
  exact⟨b,off,ha,hb,hc k _ hk 0 _ rfl,hc k _ hk 1 _ rfl,hc k _ hk 2 _ rfl⟩
theorem verify_all {w:World}{v:Value}{pr:List ByteArray}(root s:ByteArray)(n:Nat)(i:Int)(hr:SS w v pr)(hl:pr.length≤1000)(hs:s.size≤100000)(he:Env w)(hg:0 < w.heap.size)(hn:n≤1000) :
  Calls Tryz.prog 86 #[.string root,.int .i64 n,.int .i64 i,.string s,v] w fun e w'=>e=.returned (.bool (verifyB root n i s pr))∧Below w.heap.size w w':=by
 by_cases hc:0≤i∧i < (n:Int)∧pr.all isDig=true
 ·have e:verifyB root n i s pr=verB root n i.toNat s pr:=by
   unfold verifyB
   rw[if_pos hc]
   rfl
  rw[e]
  obtain⟨h0,h1,ha⟩:=hc
  obtain⟨k,rfl⟩:=Int.eq_ofNat_of_zero_le h0
  exact verify_any root s n k hr hl hs he hg (by omega) (by omega) ha
 ·have e:verifyB root n i s pr=false:=by
   unfold verifyB
   rw[if_neg hc]
  rw[e]
  refine(verify_no root s n i hr ?_).mono ?_
  ·by_cases h0:i < 0
   ·exact .inl h0
   ·by_cases h1:(n:Int)≤i
    ·exact .inr (.inl h1)
    ·refine .inr (.inr ?_)
     by_cases h:pr.all isDig=true
     ·exact absurd ⟨by omega,by omega,h⟩ hc
     ·simpa using h
  ·rintro e w' ⟨rfl,rfl⟩
   exact⟨rfl,Below.refl _ _⟩
def prevI (ys:List (ItemP × Value)):Nat→Option Int
 | 0=>none
 | k+1=>ys[k]?.map (fun y=>y.1.idx)
def itemsFrom (root:ByteArray)(n:Int)(ys:List (ItemP × Value))(k:Nat):Bool:=itemsOk root n ((ys.drop k).map (·.1)) (prevI ys k)
theorem itemsFrom_step (root:ByteArray)(n:Int){ys:List (ItemP × Value)}{k:Nat}{y:ItemP × Value}(h:ys[k]?=some y) :
  itemsFrom root n ys k=(decide (∀ j,prevI ys k=some j→j < y.1.idx) && decide (y.1.ent.size≤1000) && verifyB root n y.1.idx y.1.ent y.1.prf && itemsFrom root n ys (k+1)):=by
 unfold itemsFrom
 rw[drop_get h]
 show(itemOk _ _ _ _ && itemsOk _ _ _ _)=_
 have e:prevI ys (k+1)=some y.1.idx:=by show ys[k]?.map _=_;rw[h];rfl
 rw[e]
 rfl
theorem itemsFrom_end (root:ByteArray)(n:Int)(ys:List (ItemP × Value))(k:Nat)(h:ys.length≤k):itemsFrom root n ys k=true:=by
 unfold itemsFrom
 rw[List.drop_eq_nil_of_le h]
 rfl
set_option maxHeartbeats 4000000 in
set_option maxRecDepth 100000 in
theorem check_any (key:ByteArray)(car siz:Int)(root sl:ByteArray){w:World}{v:Value}{ys:List (ItemP × Value)}(hi:IS w v ys)(hk:key.size≤1000)(hr:root.size≤1000)(hl:ys.length≤100000)(hp:∀ y∈ys,y.1.prf.length≤1000)(he:Env w)(hg:0 < w.heap.size) :
  Calls Tryz.prog 49 #[.string key,.agg #[.int .i64 car,.int .i64 siz,.string root,.string sl,v]] w fun e w'=>e=.returned (.bool (checkB key ⟨⟨car,siz,root,sl⟩,ys.map (·.1)⟩))∧Below w.heap.size w w':=by
 obtain⟨a,cap,rfl,l1,l2,l3⟩:=hi.opened
 have H3:=zh l3
 have HI:=zh hi
 have HP:=zh hp
 have HE:=zh he
 have HG:=zh hg
 clear l3 hi hp he hg
 unfold maxLen at l2
 have HR0:Hid (checkB key ⟨⟨car,siz,root,sl⟩,ys.map (·.1)⟩=(genuineB key ⟨car,siz,root,sl⟩ && itemsFrom root siz ys 0)):=zh rfl
 obtain⟨RR,hRR⟩:∃ RR,RR=checkB key ⟨⟨car,siz,root,sl⟩,ys.map (·.1)⟩:=⟨_,rfl⟩
 rw[← hRR]at HR0 ⊢
 clear hRR
 obtain⟨n,hn⟩:∃ n,n=ys.length:=⟨_,rfl⟩
 rw[← hn]at l1 hl ⊢
 have HN:=zh hn
 clear hn
 obtain⟨W1,hW1⟩:∃ W1,W1=w.alloc (.cells #[.int .i64 car,.int .i64 siz,.string root,.string sl,.slice a n cap] 69):=⟨_,rfl⟩
 have HB1:Hid (Below w.heap.size w W1):=zh (by rw[hW1];exact br0.alloc (Nat.le_refl _) _)
 have HX1:Hid (W1.heap[w.heap.size]?=some (.cells #[.int .i64 car,.int .i64 siz,.string root,.string sl,.slice a n cap] 69 (0,0))):=zh (by rw[hW1];exact heap_alloc_new w _)
 have HG1:=zh (genuine_any key car siz root sl W1 hk hr (HE.out.below HB1.out HG.out) (Nat.lt_of_lt_of_le HG.out HB1.out.size))
 have HGP:Hid (genuineB key ⟨car,siz,root,sl⟩=true→∃ s:Nat,siz=s∧s≤60):=zh (fun g=>by
  obtain⟨_,_,⟨a1,a2⟩,_⟩:=genuine_parts g
  simp only at a1 a2
  obtain⟨m,hm⟩:=Int.eq_ofNat_of_zero_le a1
  exact⟨m,hm,by omega⟩)
 generalize genuineB key ⟨car,siz,root,sl⟩=g1 at *
 have HW1:=zh hW1
 clear hW1
 cases g1 with
 | false =>
  go_enter Tryz.func49,Tryz.ntmps49
  go_wp2_with fail
  rw[← HW1.out]
  refine HG1.out.mono ?_
  rintro e w3 ⟨rfl,hb3⟩
  go_wp2
  go_ret
  exact⟨ret_bool (by rw[HR0.out];rfl),HB1.out.trans (hb3.mono HB1.out.size)⟩
 | true =>
  obtain⟨s,rfl,hs60⟩:=HGP.out rfl
  have HR:Hid (RR=itemsFrom root s ys 0):=zh (by rw[HR0.out];rfl)
  clear HR0 HGP
  go_enter Tryz.func49,Tryz.ntmps49
  go_wp2_with fail
  rw[← HW1.out]
  refine HG1.out.mono ?_
  rintro e w3 ⟨rfl,hb3⟩
  have HB3:=zh (HB1.out.trans (hb3.mono HB1.out.size))
  have HX3:=zh ((hb3.block _ (ltA HX1.out)).trans HX1.out)
  have x4:w3.cell? ⟨w.heap.size,4,none⟩=some (.slice a n cap):=cell_of_row w3 _ 4 _ _ _ HX3.out
  clear hb3 HG1 HX1 HB1 HW1
  go_wp2_with fail
  clear x4
  go_loopw [16] (fun i wr=>∃ k:Nat,k≤n∧i=.int .i64 k∧Hid (RR=itemsFrom root s ys k)∧Hid (Below w.heap.size w wr)∧Hid (wr.heap[w.heap.size]?=some (.cells #[.int .i64 car,.int .i64 s,.string root,.string sl,.slice a n cap] 69 (0,0)))) (fun i _=>n - (intOf i).toNat)
  case atStart=>exact⟨0,by omega,rfl,HR,HB3,HX3⟩
  case round =>
   obtain⟨k,hk',rfl,hR,hB,hX⟩:=hrel
   clear HR HB3 HX3
   by_cases hlt:k < n
   ·obtain⟨y,ey⟩:∃ y,ys[k]?=some y:=⟨_,List.getElem?_eq_getElem (by rw[← HN.out];exact hlt)⟩
    obtain⟨b,off,rfl,hb,c0,c1,c2⟩:=H3.out k y ey
    have d0:=cell_keepB hB.out hb c0
    have d1:=cell_keepB hB.out hb c1
    have d2:=cell_keepB hB.out hb c2
    clear c0 c1 c2
    have HSt:=zh (itemsFrom_step root s ey)
    have HEY:=zh ey
    have HM:=zh (List.mem_of_getElem? ey)
    clear ey
    obtain⟨⟨ix,en,pr⟩,pv⟩:=y
    simp only at d0 d1 d2 HSt
    have hss:=HI.out.2 _ HM.out
    have HPl:Hid (pr.length≤1000):=zh (HP.out _ HM.out)
    simp only at hss
    obtain⟨pa,pc,rfl,_,_,_⟩:=hss.opened
    obtain⟨pm,hpm⟩:∃ pm,pm=pr.length:=⟨_,rfl⟩
    rw[← hpm]at hss d2
    have HSS:=zh hss
    clear hss hpm HM
    have hwr:=hB.out.size
    go_wp2_with fail
    obtain⟨W4,hW4⟩:∃ W4,W4=wr.alloc (.cells #[.int .i64 ix,.string en,.slice pa pm pc] 180):=⟨_,rfl⟩
    rw[← hW4]
    have HB4:Hid (Below w.heap.size w W4):=zh (by rw[hW4];exact hB.out.alloc hwr _)
    have HX4:Hid (W4.heap[w.heap.size]?=some (.cells #[.int .i64 car,.int .i64 s,.string root,.string sl,.slice (some ⟨b,off,none⟩) n cap] 69 (0,0))):=zh (by rw[hW4];exact(Below.heap_alloc _ _ _ (ltA hX.out)).trans hX.out)
    have HY4:Hid (W4.heap[wr.heap.size]?=some (.cells #[.int .i64 ix,.string en,.slice pa pm pc] 180 (0,0))):=zh (by rw[hW4];exact heap_alloc_new wr _)
    have HVf:Hid (en.size≤1000→∀ W:World,Below w.heap.size w W→Calls Tryz.prog 86 #[.string root,.int .i64 s,.int .i64 ix,.string en,.slice pa pm pc] W fun e w'=>e=.returned (.bool (verifyB root s ix en pr))∧Below W.heap.size W w'):=zh (fun hen W hW=>by
     exact verify_all root en s ix (HSS.out.below hW) HPl.out (by omega) (HE.out.below hW HG.out) (Nat.lt_of_lt_of_le HG.out hW.size) (by omega))
    clear hW4 d0 d1 d2 hX
    obtain⟨p,hp⟩:∃ p,p=wr.heap.size:=⟨_,rfl⟩
    rw[← hp]at HY4 ⊢
    have hpw:w.heap.size≤p:=by omega
    clear hp hwr
    have x1:W4.cell? ⟨w.heap.size,1,none⟩=some (.int .i64 s):=cell_of_row W4 _ 1 _ _ _ HX4.out
    have x2:W4.cell? ⟨w.heap.size,2,none⟩=some (.string root):=cell_of_row W4 _ 2 _ _ _ HX4.out
    have x4:W4.cell? ⟨w.heap.size,4,none⟩=some (.slice (some ⟨b,off,none⟩) n cap):=cell_of_row W4 _ 4 _ _ _ HX4.out
    have y0:W4.cell? ⟨p,0,none⟩=some (.int .i64 ix):=cell_of_row W4 _ 0 _ _ _ HY4.out
    have y1:W4.cell? ⟨p,1,none⟩=some (.string en):=cell_of_row W4 _ 1 _ _ _ HY4.out
    have y2:W4.cell? ⟨p,2,none⟩=some (.slice pa pm pc):=cell_of_row W4 _ 2 _ _ _ HY4.out
    cases k with
    | zero =>
     have HAs:Hid (decide (∀ j,prevI ys 0=some j→j < ix)=true):=zh (decide_eq_true (fun j h=>by cases h))
     have HSt2:Hid (RR=(decide (en.size≤1000) && verifyB root s ix en pr && itemsFrom root s ys (0+1))):=zh (by rw[hR.out,HSt.out,HAs.out,Bool.true_and])
     clear HSt HAs
     go_quiet (fail)
     have z1:(W4.drewN nq).cell? ⟨w.heap.size,1,none⟩=some (.int .i64 s):=x1
     have z2:(W4.drewN nq).cell? ⟨w.heap.size,2,none⟩=some (.string root):=x2
     have z3:(W4.drewN nq).cell? ⟨p,0,none⟩=some (.int .i64 ix):=y0
     have z4:(W4.drewN nq).cell? ⟨p,1,none⟩=some (.string en):=y1
     have z5:(W4.drewN nq).cell? ⟨p,2,none⟩=some (.slice pa pm pc):=y2
     have HBn:Hid (Below w.heap.size w (W4.drewN nq)):=zh (below_drewN HB4.out nq)
     have HXn:Hid ((W4.drewN nq).heap[w.heap.size]?=some (.cells #[.int .i64 car,.int .i64 s,.string root,.string sl,.slice (some ⟨b,off,none⟩) n cap] 69 (0,0))):=HX4
     by_cases hen:en.size≤1000
     ·have he1:decide ((1000:Int) < (en.size:Int))=false:=decide_eq_false (by omega)
      have HV2:=zh (HVf.out hen _ HBn.out)
      have he2:decide (en.size≤1000)=true:=decide_eq_true hen
      generalize verifyB root s ix en pr=vb at *
      cases vb with
      | false =>
       have HF:Hid (RR=false):=zh (by rw[HSt2.out,he2];rfl)
       go_wp2_with (go_at_call 86;refine HV2.out.mono ?_;rintro e w5 ⟨rfl,hb5⟩)
       go_ret
       exact⟨ret_bool HF.out.symm,HBn.out.trans (hb5.mono HBn.out.size)⟩
      | true =>
       have HF:Hid (RR=itemsFrom root s ys (0+1)):=zh (by rw[HSt2.out,he2];rfl)
       go_wp2_with (go_at_call 86;refine HV2.out.mono ?_;rintro e w5 ⟨rfl,hb5⟩;have HB5:=zh (HBn.out.trans (hb5.mono HBn.out.size));have HX5:=zh ((hb5.block _ (ltA HXn.out)).trans HXn.out);clear hb5)
       go_roundw
       case rel=>exact⟨0+1,by omega,by go_num,HF,HB5,HX5⟩
       case measure=>simp[intOf];omega
     ·have he1:decide ((1000:Int) < (en.size:Int))=true:=decide_eq_true (by omega)
      have he2:decide (en.size≤1000)=false:=decide_eq_false hen
      have HF:Hid (RR=false):=zh (by rw[HSt2.out,he2];rfl)
      go_wp2
      go_ret
      exact⟨ret_bool HF.out.symm,HBn.out⟩
    | succ j =>
     obtain⟨y',ey'⟩:∃ y,ys[j]?=some y:=⟨_,List.getElem?_eq_getElem (by rw[← HN.out];omega)⟩
     obtain⟨b',off',eb,hb',c0,_,_⟩:=H3.out j y' ey'
     cases eb
     have v0:=cell_keepB HB4.out hb' c0
     clear c0
     have f1:IntKind.i64.wrap (j:Int)=(j:Int):=IntWalk.i64_in _ (by omega)
     have b1:(0:Int)≤(j:Int)∧(j:Int) < (n:Int):=by omega
     have b0:((j:Int)+1 == 0)=false:=by simp;omega
     have bj:j < n:=by omega
     have HPr:Hid (prevI ys (j+1)=some y'.1.idx):=zh (by show ys[j]?.map _=_;rw[ey'];rfl)
     clear ey'
     generalize y'.1.idx=iy at *
     obtain⟨b11,b12⟩:=b1
     by_cases hlt2:iy < ix
     ·have hd:decide (iy < ix)=true:=decide_eq_true hlt2
      have HAs:Hid (decide (∀ j',prevI ys (j+1)=some j'→j' < ix)=true):=zh (decide_eq_true (fun j' h=>by rw[HPr.out]at h;cases h;exact hlt2))
      clear hlt2
      have HSt2:Hid (RR=(decide (en.size≤1000) && verifyB root s ix en pr && itemsFrom root s ys ((j+1)+1))):=zh (by rw[hR.out,HSt.out,HAs.out,Bool.true_and])
      clear HSt HAs
      go_quiet (fail)
      have z1:(W4.drewN nq).cell? ⟨w.heap.size,1,none⟩=some (.int .i64 s):=x1
      have z2:(W4.drewN nq).cell? ⟨w.heap.size,2,none⟩=some (.string root):=x2
      have z3:(W4.drewN nq).cell? ⟨p,0,none⟩=some (.int .i64 ix):=y0
      have z4:(W4.drewN nq).cell? ⟨p,1,none⟩=some (.string en):=y1
      have z5:(W4.drewN nq).cell? ⟨p,2,none⟩=some (.slice pa pm pc):=y2
      have HBn:Hid (Below w.heap.size w (W4.drewN nq)):=zh (below_drewN HB4.out nq)
      have HXn:Hid ((W4.drewN nq).heap[w.heap.size]?=some (.cells #[.int .i64 car,.int .i64 s,.string root,.string sl,.slice (some ⟨b,off,none⟩) n cap] 69 (0,0))):=HX4
      by_cases hen:en.size≤1000
      ·have he1:decide ((1000:Int) < (en.size:Int))=false:=decide_eq_false (by omega)
       have HV2:=zh (HVf.out hen _ HBn.out)
       have he2:decide (en.size≤1000)=true:=decide_eq_true hen
       generalize verifyB root s ix en pr=vb at *
       cases vb with
       | false =>
        have HF:Hid (RR=false):=zh (by rw[HSt2.out,he2];rfl)
        go_wp2_with (go_at_call 86;refine HV2.out.mono ?_;rintro e w5 ⟨rfl,hb5⟩)
        go_ret
        exact⟨ret_bool HF.out.symm,HBn.out.trans (hb5.mono HBn.out.size)⟩
       | true =>
        have HF:Hid (RR=itemsFrom root s ys ((j+1)+1)):=zh (by rw[HSt2.out,he2];rfl)
        go_wp2_with (go_at_call 86;refine HV2.out.mono ?_;rintro e w5 ⟨rfl,hb5⟩;have HB5:=zh (HBn.out.trans (hb5.mono HBn.out.size));have HX5:=zh ((hb5.block _ (ltA HXn.out)).trans HXn.out);clear hb5)
        go_roundw
        case rel=>exact⟨(j+1)+1,by omega,by go_num,HF,HB5,HX5⟩
        case measure=>simp[intOf];omega
      ·have he1:decide ((1000:Int) < (en.size:Int))=true:=decide_eq_true (by omega)
       have he2:decide (en.size≤1000)=false:=decide_eq_false hen
       have HF:Hid (RR=false):=zh (by rw[HSt2.out,he2];rfl)
       go_wp2
       go_ret
       exact⟨ret_bool HF.out.symm,HBn.out⟩
     ·have hd:decide (iy < ix)=false:=decide_eq_false hlt2
      have HF:Hid (RR=false):=zh (by
       rw[hR.out,HSt.out,decide_eq_false (fun h=>hlt2 (h iy HPr.out))]
       rfl)
      clear hlt2
      go_quiet (fail)
      go_wp2
      go_ret
      exact⟨ret_bool HF.out.symm,below_drewN HB4.out nq⟩
   ·have ek:k=n:=by omega
    have HT:Hid (RR=true):=zh (by rw[hR.out];exact itemsFrom_end root s ys k (by rw[← HN.out];omega))
    go_wp2
    go_ret
    exact⟨ret_bool HT.out.symm,hB.out⟩
end Go.Proofs.YtjjiikeldpjafaaGreatDoor
