/- Owned slices of votes; walks of package quorum: isPool, Prove. The conditions: what the slices read as, the tables of constants. -/
import Derived.Test.YtggdcnjaofflbaaGreatDoorMM16
import Derived.Stop.LaidErr
namespace Go.Proofs.YtggdcnjaofflbaaGreatDoor
open Go.RowKit Go.BigFrame
def OwnV (w:World)(base:Nat)(v:Value)(l:List VoteP):Prop:=OwnE w base 27 5 v (l.map vcells)
theorem vcells_len (l:List VoteP):∀ c∈l.map vcells,c.length=5:=by
 intro c hc
 obtain⟨v,_,rfl⟩:=List.mem_map.1 hc
 rfl
theorem OwnV.vs {w:World}{base:Nat}{v:Value}{l:List VoteP}(h:OwnV w base v l):VS w v l:=OwnE.slice h (vcells_len l)
theorem OwnV.form {w:World}{base:Nat}{v:Value}{l:List VoteP}(h:OwnV w base v l):∃ a cap,v=.slice a l.length cap:=by
 obtain⟨a,c,h⟩:=OwnE.form h
 rw[List.length_map]at h
 exact⟨a,c,h⟩
theorem infoVote3:(Tryz.prog.info? 27).map (fun i=>(i.zero,i.size,i.bytes))=some (some (.agg #[.int .i64 0,.int .i64 0,.int .i64 0,.string ⟨#[]⟩,.string ⟨#[]⟩]),5,56):=by kernel_rfl
section
variable {ops:Array Oper} {rest:List Oper} {o:Oper} {a:Act} {w:World} {Q:Exit→Act→World→Prop}
theorem wpList_append_vote (s x:Operand)(base:Nat)(v:Value)(l:List VoteP)(y:VoteP)(b:Nat)(fr:Nat × Nat)(hown:OwnV w base v l)(hlen:l.length≤1000000)(hbase:base≤w.heap.size)(hb:w.heap[b]?=some (.cells #[.int .i64 y.car,.int .i64 y.num,.int .i64 y.stp,.string y.val,.string y.sl] 27 fr))
  (hgd:o.guard=none) (ho:o.op=.call { callee:=.builtin .append,args:=#[s,x],argTypes:=#[35,35] }) (hs:a.eval s=v) (hx:a.eval x=.slice (some ⟨b,0,none⟩) 1 1)
  (h:∀ v' w',OwnV w' base v' (l++[y])→w.grownBy w' v.ownBlock→wpList Tryz.prog ops Q rest (a.put o.dst v') w'):wpList Tryz.prog ops Q (o::rest) a w :=
 wpList_append_el 35 27 5 56 _ (by kernel_rfl) infoVote3 rfl (by decide) hgd s x ho base v (l.map vcells) hs hown b (vcells y) rfl (fun u hu=>by simp only[vcells,List.mem_cons,List.not_mem_nil,or_false]at hu;rcases hu with rfl | rfl | rfl | rfl | rfl <;> rfl) hx fr hb
  (by rw[List.length_map];unfold maxLen;omega) (by rw[List.length_map];omega) hbase (fun v' w' h1 h2=>h v' w' (by unfold OwnV;rw[List.map_append];exact h1) h2)
end
set_option maxHeartbeats 1000000 in
theorem isPool_any {w:World}{kv x:Value}{ks:List ByteArray}{l:List VoteP}(hr:SS w kv ks)(hl:VS w x l) :
  Calls Tryz.prog 76 #[.agg #[kv],x] w fun e w'=>e=.returned (.bool (isPool ks l))∧Below w.heap.size w w':=by
 obtain⟨ka,kn,kc,rfl⟩:∃ a n c,kv=.slice a n c:=by obtain⟨a,c,h,_⟩:=hr.opened;exact⟨_,_,_,h⟩
 obtain⟨a,cap,rfl,l1,l2,_⟩:=hl.opened
 have HB1:Hid (Below w.heap.size w (w.alloc (.cells #[.slice ka kn kc] 31))):=zh (br0.alloc (Nat.le_refl _) _)
 have HV:=zh (qvalid_any (hr.below HB1.out))
 have HR:Hid (isPool ks l=(validC ks && decide ((l.length:Int)≤60))):=zh (by
  unfold isPool
  refine congrArg _ ?_
  rw[Bool.eq_iff_iff,decide_eq_true_iff,decide_eq_true_iff]
  omega)
 generalize isPool ks l=R at *
 generalize validC ks=V at *
 generalize l.length=n at *
 clear hr hl
 cases V
 all_goals
  go_enter Tryz.func76,Tryz.ntmps76
  go_wp2_with (go_at_call 53;refine HV.out.mono ?_;rintro e w1 ⟨rfl,hb1⟩)
  go_ret
  exact⟨ret_bool HR.out.symm,q_next HB1.out hb1⟩
/-! ### Prove -/
theorem proveV_no1 {ks:List ByteArray}{num stp:Int}{val:ByteArray}{l:List VoteP}(h:isPool ks l=false):proveV ks num stp val l=none:=by
 unfold proveV
 rw[if_neg (fun h'=>by rw[h]at h';cases h'.1)]
theorem proveV_no2 {ks:List ByteArray}{num stp:Int}{val:ByteArray}{l:List VoteP}(h:(whoL ks num stp val l).length < enoughC ks):proveV ks num stp val l=none:=by
 unfold proveV
 rw[if_neg (fun h'=>by omega)]
theorem proveV_yes {ks:List ByteArray}{num stp:Int}{val:ByteArray}{l:List VoteP}(h:isPool ks l=true)(h':enoughC ks≤(whoL ks num stp val l).length):proveV ks num stp val l=some (((whoL ks num stp val l).take (enoughC ks)).map (mkV ks num stp val)):=by
 unfold proveV
 rw[if_pos ⟨h,h'⟩]
def ProveIs (w:World)(o:Option (List VoteP))(e:Ending)(w':World):Prop:=∃ v,e=.returned (.tuple #[v,.bool o.isSome])∧VS w' v (o.getD [])∧Below w.heap.size w w'
theorem proveIs_none {w w':World}{e:Ending}(h:e=.returned (.tuple #[.slice none 0 0,.bool false]))(hb:Below w.heap.size w w'):ProveIs w none e w':=⟨_,h,VS.nil _,hb⟩
def Int4 (q:R4):Prop:=I64 q.l∧I64 q.r∧I64 q.lo∧I64 q.hi
theorem RAt.keepQ {B:Nat}{w w':World}{b o:Nat}{v:R4}(h:RAt w b o v)(hb:Below B w w')(hlt:b < B):RAt w' b o v :=
 ⟨cell_keepB hb hlt h.1,cell_keepB hb hlt h.2.1,cell_keepB hb hlt h.2.2.1,cell_keepB hb hlt h.2.2.2⟩
def PlAt (w:World)(v:Value)(l:List VoteP)(W:World):Prop:=Below w.heap.size w W∧OwnV W w.heap.size v l
theorem PlAt.far {w:World}{v:Value}{l:List VoteP}{W W':World}(h:PlAt w v l W)(hb:Below W.heap.size W W'):PlAt w v l W':=⟨q_next h.1 hb,OwnE.far h.2 hb (Nat.le_refl _)⟩
theorem four_at {W:World}{b:Nat}{c0 c1 c2 c3:Value}{T:TypeId}(h:W.heap[b]?=some (.cells #[c0,c1,c2,c3] T (0,0))):W.cell? ⟨b,0,none⟩=some c0∧W.cell? ⟨b,1,none⟩=some c1∧W.cell? ⟨b,2,none⟩=some c2∧W.cell? ⟨b,3,none⟩=some c3 :=
 ⟨cell_of_row W _ 0 _ _ _ h,cell_of_row W _ 1 _ _ _ h,cell_of_row W _ 2 _ _ _ h,cell_of_row W _ 3 _ _ _ h⟩
theorem wrap64_I64 (x:Int):I64 (wrap64 x):=by
 unfold I64 wrap64
 omega
set_option maxHeartbeats 4000000 in
set_option maxRecDepth 100000 in
theorem pool_own {w:World}{x:Value}{xs:List R4}(hx:RS w x xs)(hi:∀ q∈xs,Int4 q) :
  Calls Tryz.prog 15 #[x] w fun e w'=>∃ v,e=.returned v∧OwnV w' w.heap.size v (poolN xs)∧Below w.heap.size w w':=by
 obtain⟨xa,xc,rfl,hxl,hxm,hx3⟩:=hx.opened
 unfold maxLen at hxm
 have HI:=zh hi
 have HX3:=zh hx3
 have HNX:=zh (fun k (h:xs.length≤k∨30≤k)=>poolN_done (xs:=xs) h)
 obtain⟨n,hn⟩:∃ n,n=xs.length:=⟨_,rfl⟩
 rw[← hn]at HNX ⊢
 rw[← hn]at hxl
 have hn9:n≤9223372036854775807:=by omega
 have HN:=zh hn
 clear hx hi hx3 hn hxl hxm
 go_enter Tryz.func15,Tryz.ntmps15
 go_wp2
 go_loopw [3,4] (fun v i wr=>∃ k:Nat,k≤30∧k≤n∧i=.int .i64 k∧Hid (PlAt w v (poolN (xs.take k)) wr)) (fun _ i _=>30 - (intOf i).toNat)
 case atStart=>exact⟨0,by omega,by omega,rfl,zh ⟨Below.refl _ _,by rw[List.take_zero];exact OwnE.nil _ _ _ _⟩⟩
 case round =>
  obtain⟨k,hk,hkn,rfl,hP⟩:=hrel
  by_cases hlt:k < n∧k < 30
  ·obtain⟨hk1,hk2⟩:=hlt
   obtain⟨y,ey⟩:∃ y,xs[k]?=some y:=⟨_,List.getElem?_eq_getElem (by rw[← HN.out];exact hk1)⟩
   obtain⟨xb,xo,rfl,hxb,hy⟩:=HX3.out k y ey
   have hI4:=HI.out y (List.mem_of_getElem? ey)
   have HSN:=zh (poolN_snoc ey hk2)
   have hPL:(poolN (xs.take k)).length=k:=by unfold poolN;rw[List.length_map,List.length_take,List.length_take,← HN.out];omega
   obtain⟨y0,y1,y2,y3⟩:=y
   obtain⟨i0,i1,i2,i3⟩:=hI4
   simp only at i0 i1 i2 i3 HSN
   obtain⟨va,vc,hv⟩:=hP.out.2.form
   rw[hPL]at hv
   subst hv
   obtain⟨PL,hPLe⟩:∃ PL,PL=poolN (xs.take k):=⟨_,rfl⟩
   rw[← hPLe]at hP HSN hPL
   have HPL:=zh hPL
   obtain⟨g0,g1,g2,g3⟩:=RAt.keepQ hy hP.out.1 hxb
   have tk:(k:Int) < (n:Int):=by omega
   have tk0:(0:Int)≤(k:Int):=by omega
   have tk3:(k:Int) < 30:=by omega
   clear HI HX3 HNX hPLe hPL ey hy
   have hpc:=pickI_range y0 (show(0:Int) < 7 by omega)
   obtain⟨c,hc⟩:∃ c:Nat,pickI y0 7=(c:Int):=⟨(pickI y0 7).toNat,by omega⟩
   have HP7:=zh (fun W=>pickQ_any y0 7 W i0 (by omega) (by omega))
   have HPD:=zh (fun W=>pickQ_any y3 16 W i3 (by omega) (by omega))
   have HAT:=zh (fun W=>at_any y1 i1 W)
   have HVL:=zh (fun W=>valN_any y2 i2 W)
   have HV1:=zh (fun W=>valN_any (wrap64 (y2+1)) (wrap64_I64 _) W)
   have HKY:=zh (fun W=>keyQ_any c (by omega) W)
   have hnr:=atNum_range y1
   have hsr:=atStp_range y1
   have hvs:=valN_size y2
   rw[hc]at HP7 hpc
   have HBV:Hid (baseV y0 y1 y2=⟨(c:Int),atNum y1,atStp y1,valN y2,sealV (keyQ c) ⟨(c:Int),atNum y1,atStp y1,valN y2,⟨#[]⟩⟩⟩):=zh (by unfold baseV;rw[hc,Int.toNat_natCast])
   have HBP:Hid (poolV y0 y1 y2 y3=if pickI y3 16=14 then { baseV y0 y1 y2 with val:=valN (wrap64 (y2+1)) } else if pickI y3 16=15 then { baseV y0 y1 y2 with car:=((c:Int)+1) % 8 } else baseV y0 y1 y2):=zh (by unfold poolV;rw[hc])
   have hkey:=keyQ_size c
   generalize atNum y1=num at *
   generalize atStp y1=stp at *
   generalize valN y2=val at *
   generalize valN (wrap64 (y2+1))=val1 at *
   generalize keyQ c=key at *
   generalize poolV y0 y1 y2 y3=PV at *
   generalize baseV y0 y1 y2=BV at *
   have HCT:=zh (fun W=>rcontent_any ⟨(c:Int),num,stp,val,⟨#[]⟩⟩ ⟨⟨by show(0:Int)≤c;omega,by show(c:Int)≤7;omega⟩,⟨by show 0≤num;omega,by show num≤99999999;omega⟩,⟨by show 0≤stp;omega,by show stp≤1000;omega⟩,hvs⟩ W)
   have hcl:(voteC ⟨(c:Int),num,stp,val,⟨#[]⟩⟩).size≤48:=voteC_le hvs
   obtain⟨SL,hSL⟩:∃ SL,SL=sealV key ⟨(c:Int),num,stp,val,⟨#[]⟩⟩:=⟨_,rfl⟩
   rw[← hSL]at HBV
   have hSL2:SL=nodeS key (leafS (voteC ⟨(c:Int),num,stp,val,⟨#[]⟩⟩)):=hSL
   generalize voteC ⟨(c:Int),num,stp,val,⟨#[]⟩⟩=CT at *
   have HSE:=zh (fun W=>rseal_any key CT (by omega) (by omega) W)
   rw[← hSL2]at HSE
   clear hSL hSL2 hkey hcl hnr hsr hvs hc i0 i1 i2 i3
   go_upto_region 6 with fail
   obtain⟨W5,hW5⟩:∃ W5,W5=wr.alloc (.cells #[.int .i64 y0,.int .i64 y1,.int .i64 y2,.int .i64 y3] 103):=⟨_,rfl⟩
   rw[← hW5]
   have HB5:Hid (Below wr.heap.size wr W5):=zh (by rw[hW5];exact br0.alloc (Nat.le_refl _) _)
   have HY5:Hid (W5.heap[wr.heap.size]?=some (.cells #[.int .i64 y0,.int .i64 y1,.int .i64 y2,.int .i64 y3] 103 (0,0))):=zh (by rw[hW5];exact heap_alloc_new wr _)
   obtain⟨b5,hb5⟩:∃ b5,b5=wr.heap.size:=⟨_,rfl⟩
   rw[← hb5]at HY5 ⊢
   have HY:Hid (∀ W,Below W5.heap.size W5 W→W.cell? ⟨b5,0,none⟩=some (.int .i64 y0)∧W.cell? ⟨b5,1,none⟩=some (.int .i64 y1)∧W.cell? ⟨b5,2,none⟩=some (.int .i64 y2)∧W.cell? ⟨b5,3,none⟩=some (.int .i64 y3)):=zh (fun W hW=>by
    have h:=(hW.block b5 (ltA HY5.out)).trans HY5.out
    exact⟨cell_of_row W _ 0 _ _ _ h,cell_of_row W _ 1 _ _ _ h,cell_of_row W _ 2 _ _ _ h,cell_of_row W _ 3 _ _ _ h⟩)
   clear hW5 hb5 g0 g1 g2 g3
   refine wp_region_noPanic ?_
   refine wp_region_lexB [.q 0,.q 1,.q 3,.q 4,.q 6,.q 7,.an 10,.b 2,.b 5,.b 8,.q 9,.co 10,.l 11] (by kernel_rfl) (by kernel_rfl) (fun _ _ _ _ h=>h) ?_
   iterate 6(refine wpFl_qL (v:=?_) rfl (Or.inl ⟨by rfl,?_⟩) ?_;rotate_left;(focus(intro w' hSw;obtain⟨y0,y1,y2,y3⟩:=HY.out w' hSw;go_simp;(try with_reducible rfl);done));simp only[Act.put,zzA,zzB,zzC])
   refine wpFl_anL rfl (.cells #[.int .i64 0,.int .i64 0,.int .i64 0,.string ⟨#[]⟩,.string ⟨#[]⟩] 27 (0,0)) (fun n=>.pointer (some ⟨n,0,none⟩)) ⟨by rfl,fun w'=>?_⟩ ?_
   focus(go_simp;done)
   refine wpFl_bL rfl (fun waa hnaa hsaa K hK=>?_)
   go_simp
   go_at_call 54
   (with_reducible refine(HP7.out _).mono ?_)
   rintro e w' ⟨rfl,hw'⟩
   replace hw':=hw'.symm
   subst hw'
   refine hK.out _ _ hsaa (Keeps.below br0) ?_
   clear hK K hnaa hsaa
   refine wpFl_bL rfl (fun wab hnab hsab K hK=>?_)
   go_simp
   go_at_call 13
   (with_reducible refine(HAT.out _).mono ?_)
   rintro e wbb ⟨rfl,hbb⟩
   refine hK.out _ _ (q_next hsab hbb) (Keeps.below hbb) ?_
   clear hK K hnab hsab hbb
   refine wpFl_bL rfl (fun wac hnac hsac K hK=>?_)
   go_simp
   go_at_call 14
   (with_reducible refine(HVL.out _).mono ?_)
   rintro e wbc ⟨rfl,hbc⟩
   refine hK.out _ _ (q_next hsac hbc) (Keeps.below hbc) ?_
   clear hK K hnac hsac hbc
   refine wpFl_qL (v:=?_) rfl (Or.inl ⟨by rfl,?_⟩) ?_
   rotate_left
   focus(intro w' hSw;go_simp;(try with_reducible rfl);done)
   simp only[Act.put,zzA,zzB,zzC]
   refine wpFl_coL rfl (.cells #[.int .i64 0,.int .i64 0,.int .i64 0,.string ⟨#[]⟩,.string ⟨#[]⟩] 27 (0,0)) (fun n=>.pointer (some ⟨n,0,none⟩)) (by rfl) (N':=[]) (by rfl) (fun bv w6 hn_w6 hs_w6 hb_bv hz_bv=>?_)
   simp only[Act.put,zzA,zzB,zzC]
   refine wpFl_lL rfl (fun w7 hn_w7 hs_w7 K hK=>?_)
   have HZ:=zh ((hn_w7.block bv (ltA hz_bv)).trans hz_bv)
   obtain⟨z0,z1,z2,z3,z4⟩:=vcellsAt HZ.out
   have zf:∀ j,w7.frozen? ⟨bv,j,none⟩=false:=fun j=>by unfold World.frozen?;rw[HZ.out];simp
   go_simp
   refine hK.out _ _ (NoPanic.normal ?_)
   clear hK K
   have HV8:=zh (vfive_heap HZ.out (.int .i64 c) (.int .i64 num) (.int .i64 stp) (.string val) (.string ⟨#[]⟩))
   have HB8:=zh (vfive_below hs_w7 hb_bv (.int .i64 c) (.int .i64 num) (.int .i64 stp) (.string val) (.string ⟨#[]⟩))
   generalize (((((w7.setCell ⟨bv,0,none⟩ (.int .i64 c)).setCell ⟨bv,1,none⟩ (.int .i64 num)).setCell ⟨bv,2,none⟩ (.int .i64 stp)).setCell ⟨bv,3,none⟩ (.string val)).setCell ⟨bv,4,none⟩ (.string ⟨#[]⟩))=w8 at *
   clear z0 z1 z2 z3 z4 zf HZ hn_w7 hs_w7 hz_bv hn_w6 hs_w6
   have HVC:Hid (∀ W,Below w8.heap.size w8 W→_):=zh (fun W (hW:Below w8.heap.size w8 W)=>And.intro (HY.out W (q_next HB8.out hW)) (vcellsAt ((hW.block _ (ltA HV8.out)).trans HV8.out)))
   go_upto_region 7 with fail
   refine wp_region_noPanic ?_
   refine wp_region_lexB [.q 0,.q 1,.q 3,.b 2,.b 4,.b 5,.q 6,.l 7] (by kernel_rfl) (by kernel_rfl) (fun _ _ _ _ h=>h) ?_
   iterate 3(refine wpFl_qL (v:=?_) rfl (Or.inl ⟨by rfl,?_⟩) ?_;rotate_left;(focus(intro w' hSw;obtain⟨-,v0,v1,v2,v3,v4⟩:=HVC.out w' hSw;go_simp;(try with_reducible rfl);done));simp only[Act.put,zzA,zzB,zzC])
   refine wpFl_bL rfl (fun wad hnad hsad K hK=>?_)
   go_simp
   go_at_call 25
   (with_reducible refine(HKY.out _).mono ?_)
   rintro e wbd ⟨rfl,hbd⟩
   refine hK.out _ _ (q_next hsad hbd) (Keeps.below hbd) ?_
   clear hK K hnad hsad hbd
   refine wpFl_bL rfl (fun wae hnae hsae K hK=>?_)
   go_simp
   go_at_call 40
   (with_reducible refine(HCT.out _).mono ?_)
   rintro e wbe ⟨rfl,hbe⟩
   refine hK.out _ _ (q_next hsae hbe) (Keeps.below hbe) ?_
   clear hK K hnae hsae hbe
   refine wpFl_bL rfl (fun waf hnaf hsaf K hK=>?_)
   go_simp
   go_at_call 56
   (with_reducible refine(HSE.out _).mono ?_)
   rintro e wbf ⟨rfl,hbf⟩
   refine hK.out _ _ (q_next hsaf hbf) (Keeps.below hbf) ?_
   clear hK K hnaf hsaf hbf
   refine wpFl_qL (v:=?_) rfl (Or.inl ⟨by rfl,?_⟩) ?_
   rotate_left
   focus(intro w' hSw;go_simp;(try with_reducible rfl);done)
   simp only[Act.put,zzA,zzB,zzC]
   refine wpFl_lL rfl (fun w9 hn_w9 hs_w9 K hK=>?_)
   obtain⟨-,v0,v1,v2,v3,v4⟩:=HVC.out w9 hs_w9
   have HZ:=zh ((hs_w9.block bv (ltA HV8.out)).trans HV8.out)
   have zf:∀ j,w9.frozen? ⟨bv,j,none⟩=false:=fun j=>by unfold World.frozen?;rw[HZ.out];simp
   go_simp
   refine hK.out _ _ (NoPanic.normal ?_)
   clear hK K
   have HV10:=zh (heap_setCell_same (i:=4) (.string SL) HZ.out)
   have HB10:Hid (Below wr.heap.size wr (w9.setCell ⟨bv,4,none⟩ (.string SL))):=zh (((q_next HB5.out (q_next HB8.out hs_w9))).setCell (p:=⟨bv,4,none⟩) (by have:=HB5.out.size;show wr.heap.size≤bv;omega) _)
   have HY10:Hid ((w9.setCell ⟨bv,4,none⟩ (.string SL)).heap[b5]?=_):=zh ((Below.heap_setCell _ _ _ _ (by have:=(ltA HY5.out);show b5≠bv;omega)).trans ((hs_w9.block b5 (by have:=HB8.out.size;have:=(ltA HY5.out);omega)).trans ((HB8.out.block b5 (ltA HY5.out)).trans HY5.out)))
   have hb5v:b5 < bv:=by have:=(ltA HY5.out);omega
   have hwbv:wr.heap.size≤bv:=by have:=HB5.out.size;omega
   generalize w9.setCell ⟨bv,4,none⟩ (.string SL)=w10 at *
   clear v0 v1 v2 v3 v4 zf HZ hn_w9 hs_w9 HVC HV8 HB8 HY HY5 HB5 hb_bv
   obtain⟨y0',y1',y2',y3'⟩:=four_at HY10.out
   obtain⟨v0,v1,v2,v3,v4⟩:=vcellsAt HV10.out
   have zf:∀ j,w10.frozen? ⟨bv,j,none⟩=false:=fun j=>by unfold World.frozen?;rw[HV10.out];simp
   have hpd:=pickI_range y3 (show(0:Int) < 16 by omega)
   obtain⟨d,hd⟩:∃ d:Nat,pickI y3 16=(d:Int):=⟨(pickI y3 16).toNat,by omega⟩
   rw[hd]at HPD HBP
   clear hd hpd
   have hP14:d=14∨d=15∨(d≠14∧d≠15):=by omega
   rcases hP14 with h14 | h15 | ⟨h14,h15⟩
   ·subst h14
    have HPX:Hid (PV=⟨(c:Int),num,stp,val1,SL⟩):=zh (by rw[HBP.out,if_pos (show((14:Nat):Int)=14 from rfl),HBV.out])
    go_upto_region 13 with(first | (go_at_call 54;(with_reducible refine(HPD.out _).mono ?_);rintro e w' ⟨rfl,hw'⟩;replace hw':=hw'.symm;subst hw') | (go_at_call 14;(with_reducible refine(HV1.out _).mono ?_);rintro e w11 ⟨rfl,hb11⟩;clear v0 v1 v2 v3 v4 zf y0' y1' y2' y3';have HV11:=zh ((hb11.block _ (ltA HV10.out)).trans HV10.out);obtain⟨v0,v1,v2,v3,v4⟩:=vcellsAt HV11.out;have zf:∀ j,w11.frozen? ⟨bv,j,none⟩=false:=(fun j=>by unfold World.frozen?;rw[HV11.out];simp)))
    obtain⟨wx,hwx⟩:∃ wx,wx=w11.setCell ⟨bv,3,none⟩ (.string val1):=⟨_,rfl⟩
    have HVx:Hid (wx.heap[bv]?=some (.cells #[.int .i64 c,.int .i64 num,.int .i64 stp,.string val1,.string SL] 27 (0,0))):=zh (by rw[hwx];exact heap_setCell_same (i:=3) (.string val1) HV11.out)
    have HBx:Hid (Below wr.heap.size wr wx):=zh (by rw[hwx];exact((HB10.out.trans (hb11.mono HB10.out.size))).setCell (p:=⟨bv,3,none⟩) (by show wr.heap.size≤bv;omega) _)
    rw[← hwx]
    clear hwx
    try clear v0 v1 v2 v3 v4 zf
    try clear y0' y1' y2' y3'
    obtain⟨v0,v1,v2,v3,v4⟩:=vcellsAt HVx.out
    have HOx:=zh (hP.out.far HBx.out)
    have HOA:Hid (OwnV (wx.alloc (.cells #[.int .i64 c,.int .i64 num,.int .i64 stp,.string val1,.string SL] 27)) w.heap.size (.slice va k vc) PL):=zh (OwnE.alloc HOx.out.2 _)
    have HNA:=zh (heap_alloc_new wx (.cells #[.int .i64 c,.int .i64 num,.int .i64 stp,.string val1,.string SL] 27))
    have HBA:=zh (HOx.out.1.alloc HOx.out.1.size (.cells #[.int .i64 c,.int .i64 num,.int .i64 stp,.string val1,.string SL] 27))
    have hl6:Hid (PL.length≤1000000):=zh (by rw[HPL.out];omega)
    go_wp2_with (at_builtin;refine wpList_append_vote _ _ w.heap.size _ PL ⟨(c:Int),num,stp,val1,SL⟩ wx.heap.size _ HOA.out hl6.out HBA.out.size HNA.out rfl rfl rfl rfl ?_;intro v7 w12 hown7 hgr7;have HO7:=zh hown7;have HB7:=zh (HBA.out.grown hgr7 HBA.out.size (fun j e=>OwnE.ge HOA.out j e));clear hown7 hgr7)
    go_roundw
    case rel=>exact⟨k+1,by omega,by omega,by go_num,zh (by rw[HSN.out,HPX.out];exact⟨HB7.out,HO7.out⟩)⟩
    case measure=>simp[intOf];omega
   ·subst h15
    have HPX:Hid (PV=⟨((c:Int)+1) % 8,num,stp,val,SL⟩):=zh (by rw[HBP.out,if_neg (show ¬ ((15:Nat):Int)=14 by decide),if_pos (show((15:Nat):Int)=15 from rfl),HBV.out])
    go_upto_region 13 with(go_at_call 54;(with_reducible refine(HPD.out _).mono ?_);rintro e w' ⟨rfl,hw'⟩;replace hw':=hw'.symm;subst hw')
    obtain⟨wx,hwx⟩:∃ wx,wx=w10.setCell ⟨bv,0,none⟩ (.int .i64 (((c:Int)+1) % 8)):=⟨_,rfl⟩
    have HVx:Hid (wx.heap[bv]?=some (.cells #[.int .i64 (((c:Int)+1) % 8),.int .i64 num,.int .i64 stp,.string val,.string SL] 27 (0,0))):=zh (by rw[hwx];exact heap_setCell_same (i:=0) (.int .i64 (((c:Int)+1) % 8)) HV10.out)
    have HBx:Hid (Below wr.heap.size wr wx):=zh (by rw[hwx];exact HB10.out.setCell (p:=⟨bv,0,none⟩) (by show wr.heap.size≤bv;omega) _)
    rw[← hwx]
    clear hwx
    try clear v0 v1 v2 v3 v4 zf
    try clear y0' y1' y2' y3'
    obtain⟨v0,v1,v2,v3,v4⟩:=vcellsAt HVx.out
    have HOx:=zh (hP.out.far HBx.out)
    have HOA:Hid (OwnV (wx.alloc (.cells #[.int .i64 (((c:Int)+1) % 8),.int .i64 num,.int .i64 stp,.string val,.string SL] 27)) w.heap.size (.slice va k vc) PL):=zh (OwnE.alloc HOx.out.2 _)
    have HNA:=zh (heap_alloc_new wx (.cells #[.int .i64 (((c:Int)+1) % 8),.int .i64 num,.int .i64 stp,.string val,.string SL] 27))
    have HBA:=zh (HOx.out.1.alloc HOx.out.1.size (.cells #[.int .i64 (((c:Int)+1) % 8),.int .i64 num,.int .i64 stp,.string val,.string SL] 27))
    have hl6:Hid (PL.length≤1000000):=zh (by rw[HPL.out];omega)
    go_wp2_with (at_builtin;refine wpList_append_vote _ _ w.heap.size _ PL ⟨(((c:Int)+1) % 8:Int),num,stp,val,SL⟩ wx.heap.size _ HOA.out hl6.out HBA.out.size HNA.out rfl rfl rfl rfl ?_;intro v7 w12 hown7 hgr7;have HO7:=zh hown7;have HB7:=zh (HBA.out.grown hgr7 HBA.out.size (fun j e=>OwnE.ge HOA.out j e));clear hown7 hgr7)
    go_roundw
    case rel=>exact⟨k+1,by omega,by omega,by go_num,zh (by rw[HSN.out,HPX.out];exact⟨HB7.out,HO7.out⟩)⟩
    case measure=>simp[intOf];omega
   ·have t14:¬ (d:Int)=14:=by omega
    have t15:¬ (d:Int)=15:=by omega
    have HPX:Hid (PV=⟨(c:Int),num,stp,val,SL⟩):=zh (by rw[HBP.out,if_neg t14,if_neg t15,HBV.out])
    go_upto_region 13 with(go_at_call 54;(with_reducible refine(HPD.out _).mono ?_);rintro e w' ⟨rfl,hw'⟩;replace hw':=hw'.symm;subst hw')
    obtain⟨wx,hwx⟩:∃ wx,wx=w10:=⟨_,rfl⟩
    have HVx:Hid (wx.heap[bv]?=some (.cells #[.int .i64 c,.int .i64 num,.int .i64 stp,.string val,.string SL] 27 (0,0))):=zh (by rw[hwx];exact HV10.out)
    have HBx:Hid (Below wr.heap.size wr wx):=zh (by rw[hwx];exact HB10.out)
    rw[← hwx]
    clear hwx
    try clear v0 v1 v2 v3 v4 zf
    try clear y0' y1' y2' y3'
    obtain⟨v0,v1,v2,v3,v4⟩:=vcellsAt HVx.out
    have HOx:=zh (hP.out.far HBx.out)
    have HOA:Hid (OwnV (wx.alloc (.cells #[.int .i64 c,.int .i64 num,.int .i64 stp,.string val,.string SL] 27)) w.heap.size (.slice va k vc) PL):=zh (OwnE.alloc HOx.out.2 _)
    have HNA:=zh (heap_alloc_new wx (.cells #[.int .i64 c,.int .i64 num,.int .i64 stp,.string val,.string SL] 27))
    have HBA:=zh (HOx.out.1.alloc HOx.out.1.size (.cells #[.int .i64 c,.int .i64 num,.int .i64 stp,.string val,.string SL] 27))
    have hl6:Hid (PL.length≤1000000):=zh (by rw[HPL.out];omega)
    go_wp2_with (at_builtin;refine wpList_append_vote _ _ w.heap.size _ PL ⟨(c:Int),num,stp,val,SL⟩ wx.heap.size _ HOA.out hl6.out HBA.out.size HNA.out rfl rfl rfl rfl ?_;intro v7 w12 hown7 hgr7;have HO7:=zh hown7;have HB7:=zh (HBA.out.grown hgr7 HBA.out.size (fun j e=>OwnE.ge HOA.out j e));clear hown7 hgr7)
    go_roundw
    case rel=>exact⟨k+1,by omega,by omega,by go_num,zh (by rw[HSN.out,HPX.out];exact⟨HB7.out,HO7.out⟩)⟩
    case measure=>simp[intOf];omega
  ·have HF:Hid (poolN (xs.take k)=poolN xs):=zh (HNX.out k (by omega))
   rw[HF.out]at hP
   clear HF HNX HI HX3
   have HR:=zh hP.out.2
   have hlt2:¬ (k < n∧k < 30):=hlt
   by_cases hkn2:k < n
   ·have tk:(k:Int) < (n:Int):=by omega
    have tk3:¬ (k:Int) < 30:=by omega
    go_wp2
    go_ret
    exact⟨_,rfl,HR.out,hP.out.1⟩
   ·have tk:¬ (k:Int) < (n:Int):=by omega
    go_wp2
    go_ret
    exact⟨_,rfl,HR.out,hP.out.1⟩
structure QEnv (w:World):Prop where
 env:Env w
 round:3 < w.heap.size
 tab:Tab w
 tabs:1 < w.heap.size
theorem QEnv.step {w w':World}(h:QEnv w)(hb:Below w.heap.size w w'):QEnv w':=⟨h.env.below hb h.round,Nat.lt_of_lt_of_le h.round hb.size,h.tab.below hb h.tabs,Nat.lt_of_lt_of_le h.tabs hb.size⟩
open Go.RowKit Go.WideShapes Go.ChangeShapes
section
variable {H:Type} {enc:TypeId × Value→H} {P:Program}
/-! ### A slice of arrays of four integers -/
theorem a4_open {W:World}{base:Nat}{sp:Nat→Bool}{held:Bool}{fuel:Nat}{t e:TypeId}{cs:List Value}{x:DataW H × List MemPlace}
  (ht:P.underlying t=some (.array 4 e)) (he:P.underlying e=some (.int .i64)) (hce:P.cellsOf e=1) (hct:P.cellsOf t=4) (h:DataW.trod enc P W base sp held fuel t cs=some x) :
  ∃ q:R4,cs=q.cells∧Int4 q:=by
 obtain⟨xs,m,_,_,hl,hxl,hi⟩:=DataW.trod_array ht h
 rw[hct]at hl
 rw[hce]at hi
 have key:∀ i,i < 4→∃ n,cs[i]?=some (.int .i64 n)∧I64 n:=by
  intro i h4
  have h1:=hi i h4
  rw[List.getElem?_eq_getElem (by omega)]at h1
  obtain⟨n,hc,_,hw⟩:=DataW.trod_int he h1
  refine⟨n,?_,bounds_i64 hw⟩
  have:=congrArg (·[0]?) hc
  simpa [List.getElem?_take,List.getElem?_drop]using this
 obtain⟨a,ha,ia⟩:=key 0 (by omega)
 obtain⟨b,hb,ib⟩:=key 1 (by omega)
 obtain⟨c,hc,ic⟩:=key 2 (by omega)
 obtain⟨d,hd,id⟩:=key 3 (by omega)
 refine⟨⟨a,b,c,d⟩,?_,ia,ib,ic,id⟩
 obtain⟨w,x,y,z,rfl⟩:∃ w x y z,cs=[w,x,y,z]:=by
  match cs,hl with
  | [w,x,y,z],_=>exact⟨w,x,y,z,rfl⟩
 simp only[List.getElem?_cons_zero,List.getElem?_cons_succ,Option.some.injEq]at ha hb hc hd
 subst ha hb hc hd
 rfl
theorem a4s_open {W:World}{sp:Nat→Bool}{held:Bool}{ts t e:TypeId}{v:Value}{d:DataW H}{ps:List MemPlace}
  (hts:P.underlying ts=some (.slice t)) (ht:P.underlying t=some (.array 4 e)) (he:P.underlying e=some (.int .i64)) (hce:P.cellsOf e=1) (hct:P.cellsOf t=4)
  (hval:Value.okWide P W .any 0 ts v) (h:DataW.Trod enc P W 0 sp held ts v d ps):∃ xs:List R4,RS W v xs∧∀ q∈xs,Int4 q:=by
 obtain⟨a,len,cap,rfl⟩:=okWide_slice hts hval
 obtain⟨fuel,h⟩:=h
 cases fuel with
 | zero=>simp[DataW.trod]at h
 | succ fuel =>
  rw[show(Value.slice a len cap).cells.toList=[.slice a len cap]from rfl]at h
  cases a with
  | none =>
   unfold DataW.trod at h
   rw[hts]at h
   split at h
   all_goals simp_all
   exact⟨[],RS.nil _,by simp⟩
  | some a =>
   unfold DataW.trod at h
   simp only[hts]at h
   split at h
   ·rename_i hc
    obtain⟨_,h1,h2⟩:=hc
    rw[Option.bind_eq_some_iff]at h
    obtain⟨elems,hel,_⟩:=h
    rw[hct]at hel
    have hlen:elems.length=len:=by simpa using mapM_some_length hel
    have key:∀ i,i < len→∃ q:R4,W.cells? 0 (a.add (i*4)) 4=some q.cells∧Int4 q:=by
     intro i hi
     have h3:=mapM_some_get hel i i (by simp[hi])
     rw[List.getElem?_eq_getElem (by omega),Option.bind_eq_some_iff]at h3
     obtain⟨cs,hcs,htr⟩:=h3
     obtain⟨q,rfl,hq⟩:=a4_open ht he hce hct htr
     exact⟨q,hcs,hq⟩
    have hall:∀ n,n≤len→∃ xs:List R4,xs.length=n∧∀ i q,xs[i]?=some q→W.cells? 0 (a.add (i*4)) 4=some q.cells∧Int4 q:=by
     intro n
     induction n with
     | zero=>intro _;exact⟨[],rfl,by simp⟩
     | succ n ih =>
      intro hn
      obtain⟨xs,hx,hxs⟩:=ih (by omega)
      obtain⟨q,hq⟩:=key n (by omega)
      refine⟨xs++[q],by simp[hx],fun i q' hi=>?_⟩
      rcases Nat.lt_or_ge i n with h' | h'
      ·rw[List.getElem?_append_left (by omega)]at hi
       exact hxs i q' hi
      ·rw[List.getElem?_append_right (by omega)]at hi
       obtain rfl:i=n:=by
        rcases Nat.eq_or_lt_of_le h' with h'' | h''
        ·omega
        ·rw[List.getElem?_eq_none (by simp;omega)]at hi;cases hi
       rw[hx,Nat.sub_self]at hi
       simp at hi
       subst hi
       exact hq
    obtain⟨xs,hx,hxs⟩:=hall len (Nat.le_refl _)
    refine⟨xs,⟨some a,cap,by rw[List.length_map,hx],by rw[List.length_map,hx];exact h1,h2,?_⟩,fun q hq=>?_⟩
    ·by_cases h0:len=0
     ·left
      rw[List.map_eq_nil_iff]
      exact List.eq_nil_of_length_eq_zero (by omega)
     ·right
      obtain⟨q0,hq0⟩:∃ q,xs[0]?=some q:=⟨_,List.getElem?_eq_getElem (by omega)⟩
      obtain⟨_,_,hc0⟩:=World.cells?_some (hxs 0 q0 hq0).1
      have h00:=hc0 0 (by omega)
      have hadd:(a.add (0*4)).add 0=a:=by simp[Addr.add]
      rw[hadd]at h00
      have hsp:a.spot=none:=spot_none (v:=.int .i64 q0.l) h00
      obtain⟨b,off,spot⟩:=a
      dsimp only at hsp
      subst hsp
      refine⟨b,off,rfl,World.block_lt_of_cell? W _ h00,fun i c hi j u hj=>?_⟩
      rw[List.getElem?_map]at hi
      obtain⟨q,hq,rfl⟩:=Option.map_eq_some_iff.1 hi
      obtain⟨_,_,hc⟩:=World.cells?_some (hxs i q hq).1
      have hj4:j < 4:=by
       rcases Nat.lt_or_ge j 4 with h' | h'
       ·exact h'
       ·rw[List.getElem?_eq_none (by simpa [R4.cells]using h')]at hj;cases hj
      have h4:=hc j hj4
      rw[hj]at h4
      have e1:((⟨b,off,none⟩:Addr).add (i*4)).add j=⟨b,off+i*4+j,none⟩:=by
       unfold Addr.add
       split
       ·split
        ·rename_i h5 h6;rw[h5,h6];simp
        ·rename_i h5 h6;rw[h5];simp
       ·split
        ·rename_i h5 h6;rw[h6];simp
        ·rfl
      rw[e1]at h4
      exact h4
    ·obtain⟨i,hi⟩:=List.getElem?_of_mem hq
     exact(hxs i q hi).2
   ·cases h
end
set_option maxHeartbeats 1000000 in
theorem r2left_any (n:Nat)(h2:2≤n)(hn:n≤1000000)(w:World):Calls Tryz.prog 163 #[.int .i64 n] w fun e w'=>e=.returned (.int .i64 (leftN n:Nat))∧w'=w:=by
 obtain⟨L,hL⟩:∃ L,L=leftN n:=⟨_,rfl⟩
 have HL:Hid (∀ j,2 ^ j < n→n≤2*2 ^ j→L=2 ^ j):=zh (fun j a b=>by rw[hL];exact leftN_of a b)
 rw[← hL]
 clear hL
 go_enter Tryz.func163,Tryz.ntmps163
 go_wp2
 go_loop [3] (fun v=>∃ j k:Nat,k < n∧v=.int .i64 k∧Hid (k=2 ^ j)) (fun v=>n - (intOf v).toNat)
 case atStart=>exact⟨0,1,by omega,rfl,rfl⟩
 case round =>
  obtain⟨j,k,hk,rfl,hj⟩:=hrel
  have hpos:0 < k:=by have:=hj.out;rw[this];exact Nat.two_pow_pos _
  have f1:IntKind.i64.wrap ((n:Int) - (k:Int))=(n:Int) - (k:Int):=IntWalk.i64_in _ (by omega)
  have f2:IntKind.i64.wrap (2*(k:Int))=2*(k:Int):=IntWalk.i64_in _ (by omega)
  by_cases hlt:k < n - k
  ·have t1:(k:Int) < (n:Int) - (k:Int):=by omega
   go_wp2
   go_round
   case rel=>exact⟨j+1,2*k,by omega,by congr 1,zh (by have:=hj.out;rw[this,Nat.pow_succ,Nat.mul_comm])⟩
   case measure=>simp[intOf];omega
  ·have t1:¬ (k:Int) < (n:Int) - (k:Int):=by omega
   have HR:Hid (L=k):=zh (by rw[hj.out];exact HL.out j (by rw[← hj.out];exact hk) (by rw[← hj.out];omega))
   go_wp2
   go_ret
   exact⟨ret_int (by rw[HR.out]),rfl⟩
theorem scells_len (xs:List ByteArray):(scells xs).length=xs.length:=by unfold scells;rw[List.length_map]
section
variable {ops:Array Oper} {rest:List Oper} {o:Oper} {a:Act} {w:World} {Q:Exit→Act→World→Prop} {K:Act→World→Prop} {E:Prop}
theorem wp_append_strs (s x:Operand)(base:Nat)(v:Value)(xs ys:List ByteArray)(vy:Value)(hown:OwnS w base v xs)(hy:SS w vy ys)(hy0:0 < ys.length)(hlen:xs.length+ys.length≤1000000)(hbase:base≤w.heap.size)
  (ho:o.op=.call { callee:=.builtin .append,args:=#[s,x],argTypes:=#[29,29] }) (hs:a.eval s=v) (hx:a.eval x=vy)
  (h:∀ v' w',OwnS w' base v' (xs++ys)→w.grownBy w' v.ownBlock→K (a.put o.dst v') w'):o.wp Tryz.prog a w K Q:=by
 obtain⟨ad,cap,rfl,_,_,hc⟩:=hy.opened
 obtain⟨b,off,rfl,hb,_⟩:=hc 0 _ (List.getElem?_eq_getElem hy0)
 obtain⟨i,i1,i2,i3,i4⟩:=info_parts infoStr
 refine wp_append_own w s x 29 ho base 9 i _ 1 16 (by kernel_rfl) i1 i2 i3 i4 rfl (by decide) v _ _ hs hown ⟨b,off,none⟩ ys.length cap (scells ys).flatten hx (by rw[scells_flat];simp) ?_ ?_ (by rw[scells_len];unfold maxLen;omega) (by rw[scells_len];omega) hbase ?_
 ·intro j u hj
  rw[scells_flat,List.getElem?_map]at hj
  obtain⟨y,hy,rfl⟩:=Option.map_eq_some_iff.1 hj
  obtain⟨b',off',e,_,c0⟩:=hc j y hy
  cases e
  rw[Addr.add_mid]
  exact c0
 ·intro u hu
  rw[scells_flat]at hu
  obtain⟨y,_,rfl⟩:=List.mem_map.1 hu
  rfl
 ·intro v' w' h1 h2 _
  refine h v' w' ?_ h2
  unfold OwnS OwnE
  have e:scells (xs++ys)=scells xs++scells ys:=by unfold scells;rw[List.map_append]
  rw[e,List.length_append,List.flatten_append,scells_len ys]
  exact h1
theorem wpList_append_strs (hgd:o.guard=none)(s x:Operand)(base:Nat)(v:Value)(xs ys:List ByteArray)(vy:Value)(hown:OwnS w base v xs)(hy:SS w vy ys)(hy0:0 < ys.length)(hlen:xs.length+ys.length≤1000000)(hbase:base≤w.heap.size)
  (ho:o.op=.call { callee:=.builtin .append,args:=#[s,x],argTypes:=#[29,29] }) (hs:a.eval s=v) (hx:a.eval x=vy)
  (h:∀ v' w',OwnS w' base v' (xs++ys)→w.grownBy w' v.ownBlock→wpList Tryz.prog ops Q rest (a.put o.dst v') w'):wpList Tryz.prog ops Q (o::rest) a w :=
 wpList_plain hgd fun _ hK=>wp_append_strs s x base v xs ys vy hown hy hy0 hlen hbase ho hs hx fun v' w' h1 h2=>hK _ _ (h v' w' h1 h2)
end
theorem kept_block {w w':World}{b:Nat}{o:Obj}(h:w.heap[b]?=some o)(hb:Below w.heap.size w w'):w'.heap[b]?=some o:=(hb.block b (ltA h)).trans h
theorem below_next {w W W':World}(h:Below w.heap.size w W)(h':Below W.heap.size W W'):Below w.heap.size w W':=h.trans (h'.mono h.size)
/-! ### Nothing appended -/
theorem run_append_zero {P:Program}{w:World}(base:Nat)(t ty e:TypeId)(i:TypeInfo)(size:Nat)(ht:P.underlying t=some (.slice e))(hi:P.info? e=some i)
  (v:Value) (n:Nat) (xs:List Value) (hown:w.ownsRow base e size v n xs) (ad:Option Addr) (c:Nat) :
  (Builtin.append_ #[t,t] ty #[v,.slice ad 0 c]).run P w=.ok v w:=by
 rcases hown.2 with⟨rfl,rfl⟩ | ⟨g,cap,cur,rfl,_,_,hnc,_⟩
 ·cases ad <;> simp[Builtin.append_,run_underlying ht,sizeOf,typeInfo,hi,Builtin.lenOf,Builtin.firstCells,loadCells,loadCellsFrom]
 ·cases ad <;> simp[Builtin.append_,run_underlying ht,sizeOf,typeInfo,hi,Builtin.lenOf,Builtin.firstCells,hnc,storeCells,loadCells,loadCellsFrom]
section
variable {ops:Array Oper} {rest:List Oper} {o:Oper} {a:Act} {w:World} {Q:Exit→Act→World→Prop} {K:Act→World→Prop} {E:Prop}
theorem wp_append_zero (s x:Operand)(t e:TypeId)(i:TypeInfo)(ht:Tryz.prog.underlying t=some (.slice e))(hi:Tryz.prog.info? e=some i)(base size n:Nat)(v:Value)(xs:List Value)(hown:w.ownsRow base e size v n xs)(ad:Option Addr)(c:Nat)
  (ho:o.op=.call { callee:=.builtin .append,args:=#[s,x],argTypes:=#[t,t] }) (hs:a.eval s=v) (hx:a.eval x=.slice ad 0 c) (h:K (a.put o.dst v) w):o.wp Tryz.prog a w K Q:=by
 unfold Oper.wp execOp
 have hr:=run_append_zero (P:=Tryz.prog) (w:=w) base t o.type e i size ht hi v n xs hown ad c
 simp only[ho,resolve,invoke,builtin,Sem.run_bind,Sem.run_pure,Result.andThen_ok,List.map_toArray,List.map_cons,List.map_nil,hs,hx,hr]
 exact h
end
end Go.Proofs.YtggdcnjaofflbaaGreatDoor
