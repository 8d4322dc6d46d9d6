/- TopReclaims: reclaim.Decode undoes Encode. The conditions: ranges. -/
import Derived.Test.YtjjiikeldpjafaaGreatDoorTT27
namespace Go.Proofs.YtjjiikeldpjafaaGreatDoor
open Go.RowKit Go.BigFrame Go.Shelf
attribute [local go_sem] Oper.semAt_some
theorem wint_at {s:ByteArray}{a:Nat}{n:Int}{rest:List UInt8}(h:s.data.toList.drop a=putN n++rest)(hn:0≤n∧n≤99999999)(hs:s.size≤1000)(w:World) :
  Calls Tryz.prog 165 #[.string s,.int .i64 a] w fun e w'=>e=.returned (.tuple #[.int .i64 n,.int .i64 ((a+(putN n).length:Nat):Int),.int .i64 0])∧w'=w:=by
 obtain⟨h1,h2,h3⟩:=int_at h hn
 have hi:=int_any s a (by omega) (by omega) w
 rw[h1]at hi
 exact hi
set_option maxHeartbeats 2000000 in
set_option maxRecDepth 100000 in
theorem wstr_at {s d:ByteArray}{a:Nat}(h:s.data.toList.drop a=putN d.size++d.data.toList)(hd:0 < d.size)(hd2:d.size≤900)(hs:s.size≤1000)(w:World) :
  Calls Tryz.prog 167 #[.string s,.int .i64 a] w fun e w'=>e=.returned (.tuple #[.string d,.int .i64 (s.size:Int),.int .i64 0])∧w'=w:=by
 have HI:=zh (wint_at h ⟨by omega,by omega⟩ hs w)
 obtain⟨-,-,h3⟩:=int_at h ⟨by omega,by omega⟩
 obtain⟨k,hk⟩:∃ k,k=a+(putN (d.size:Int)).length:=⟨_,rfl⟩
 rw[← hk]at HI h3
 have h3':s.data.toList.drop k=d.data.toList++[]:=by rw[h3,List.append_nil]
 obtain⟨g1,g2,g3⟩:=bytes_at h3' hd
 have hke:k+d.size=s.size:=by
  have:=congrArg List.length g3
  rw[List.length_drop,size_list]at this
  simp at this
  omega
 obtain⟨m,hm⟩:∃ m,m=d.size:=⟨_,rfl⟩
 rw[← hm]at HI hke hd hd2 g2
 have f0:¬ (m:Int) < 0:=by omega
 have f1:¬ (65536:Int) < (m:Int):=by omega
 have e1:IntKind.i64.wrap ((s.size:Int) - (k:Int))=(m:Int):=by rw[show(s.size:Int) - (k:Int)=(m:Int) by omega];exact IntWalk.i64_in _ (by omega)
 have e2:IntKind.i64.wrap ((k:Int)+(m:Int))=(s.size:Int):=by rw[show(k:Int)+(m:Int)=(s.size:Int) by omega];exact IntWalk.i64_in _ (by omega)
 have f3:(0:Int)≤(k:Int):=by omega
 have f4:(k:Int)≤(s.size:Int):=by omega
 have f5:¬ (s.size:Int) < (k:Int):=by omega
 rw[hke]at g2
 have HX:=zh g2
 clear h h3 h3' hk g1 g2 g3 hm hke hd hd2 hs
 go_enter Tryz.func167,Tryz.ntmps167
 go_wp2_with (go_at_call 165;(with_reducible refine HI.out.mono ?_);rintro e w' ⟨rfl,hw'⟩;replace hw':=hw'.symm;subst hw')
 rw[HX.out]
 exact bodyPost_ret (results_tmp3 rfl _ _ _) rfl ⟨rfl,rfl⟩
set_option maxHeartbeats 1000000 in
theorem mustR_ok (w:World):Calls Tryz.prog 166 #[.int .i64 0] w fun e w'=>(∃ v,e=.returned v)∧w'=w:=by
 go_enter Tryz.func166,Tryz.ntmps166
 go_wp2
 go_end0
 exact⟨⟨_,rfl⟩,rfl⟩
theorem infoPorted:(Tryz.prog.info? 73).map (·.size)=some 3:=by kernel_rfl
theorem results_decR {fn:Func}{W:World}{X:Array Value}{g k:Nat}(h2:W.heap[g]?=some (.cells X 73 (0,0)))(h3:W.heap[k]?=some (.cells #[.int .i64 0] 40 (0,0)))(hX:X.size=3)(h:fn.results=#[.cell 2 73,.cell 3 40])(tmps:Array Value)
  (g2:tmps.getD 2 undef=.pointer (some ⟨g,0,none⟩)) (g3:tmps.getD 3 undef=.pointer (some ⟨k,0,none⟩)) :
  (results fn tmps).run Tryz.prog W=.ok (.tuple #[.agg X,.int .i64 0]) W:=by
 have l1:=run_loadVar_row (P:=Tryz.prog) W g 73 73 X (0,0) _ h2 Tryz.underlying73 rfl (by rw[hX];exact infoPorted)
 have l3:=run_loadOne (T:=40) (fun w=>by kernel_rfl) h3
 have h2':tmps[2]?.getD undef=.pointer (some ⟨g,0,none⟩):=by simpa using g2
 have h3':tmps[3]?.getD undef=.pointer (some ⟨k,0,none⟩):=by simpa using g3
 simp only[results,h]
 simp[Sem.run_bind,Result.andThen,h2',h3',asAddr,l1,l3]
set_option maxHeartbeats 4000000 in
set_option maxRecDepth 100000 in
theorem decodeR_any (num am:Int)(ev:ByteArray)(h1:0≤num)(h2:num≤99999999)(h3:0≤am)(h4:am≤10000000)(h5:ev.size≤900)(h6:0 < ev.size)(w:World) :
  Calls Tryz.prog 130 #[.string (caseB num am ev)] w fun e w'=>e=.returned (.tuple #[.agg #[.int .i64 num,.int .i64 am,.string ev],.int .i64 0])∧Below w.heap.size w w':=by
 have hmf:∀(fn:Fn) (first cap:Array Value) (w:World),(Instr.makeFunc fn first cap).run Tryz.prog w=.ok (.func fn first cap) w:=fun _ _ _ _=>rfl
 have hsz:(caseB num am ev).size≤1000:=Nat.le_trans (caseB_size _ _ _) (by omega)
 have hs1:(caseB num am ev).data.toList=putN num++(putN am++(putN ev.size++ev.data.toList)):=by unfold caseB bytesOf caseL;rfl
 obtain⟨s,hs⟩:∃ s,s=caseB num am ev:=⟨_,rfl⟩
 rw[← hs]at hsz hs1 ⊢
 have d0:s.data.toList.drop 0=putN num++(putN am++(putN ev.size++ev.data.toList)):=by rw[List.drop_zero,hs1]
 obtain⟨-,-,d1⟩:=int_at d0 ⟨h1,h2⟩
 obtain⟨-,-,d2⟩:=int_at d1 ⟨h3,by omega⟩
 have HI0:=zh (fun W=>wint_at d0 ⟨h1,h2⟩ hsz W)
 have HI1:=zh (fun W=>wint_at d1 ⟨h3,by omega⟩ hsz W)
 have HI2:=zh (fun W=>wstr_at d2 h6 h5 hsz W)
 have HF:=zh (fun W=>isFormedR_yes num am ev h1 h2 h3 h4 h5 W)
 obtain⟨k1,hk1⟩:∃ k1,k1=0+(putN num).length:=⟨_,rfl⟩
 rw[← hk1]at HI0 HI1 HI2
 obtain⟨k2,hk2⟩:∃ k2,k2=k1+(putN am).length:=⟨_,rfl⟩
 rw[← hk2]at HI1 HI2
 simp only[Int.natCast_zero]at HI0
 clear d0 d1 d2 hk1 hk2 hs1 hsz hs h1 h2 h3 h4 h5 h6
 obtain⟨W1,hW1⟩:∃ W1,W1=w.alloc (.cells #[.int .i64 0,.int .i64 0,.string ⟨#[]⟩] 73):=⟨_,rfl⟩
 obtain⟨W2,hW2⟩:∃ W2,W2=W1.alloc (.cells #[.int .i64 0] 40):=⟨_,rfl⟩
 have s1:W1.heap.size=w.heap.size+1:=by rw[hW1];simp
 have HB2:Hid (Below w.heap.size w W2):=zh (by rw[hW2,hW1];exact(br0.alloc (Nat.le_refl _) _).alloc (by simp) _)
 have HP2:Hid (W2.heap[w.heap.size]?=some (.cells #[.int .i64 0,.int .i64 0,.string ⟨#[]⟩] 73 (0,0))):=zh (by rw[hW2];refine kept_block (w:=W1) ?_ (br0.alloc (Nat.le_refl _) _);rw[hW1];exact heap_alloc_new w _)
 have HE2:Hid (W2.heap[w.heap.size+1]?=some (.cells #[.int .i64 0] 40 (0,0))):=zh (by rw[← s1,hW2];exact heap_alloc_new W1 _)
 have HW1:=zh hW1
 have HW2:=zh hW2
 clear hW1 hW2 s1
 go_enter_defers Tryz.func130,Tryz.ntmps130
 go_upto_region 2 with fail
 rw[← HW1.out,← HW2.out]
 clear HW1 HW2
 go_upto_region 8 with(first | (go_at_call 165;(with_reducible refine(HI0.out _).mono ?_);rintro e w' ⟨rfl,hw'⟩;replace hw':=hw'.symm;subst hw') | (go_at_call 165;(with_reducible refine(HI1.out _).mono ?_);rintro e w' ⟨rfl,hw'⟩;replace hw':=hw'.symm;subst hw') | (go_at_call 167;(with_reducible refine(HI2.out _).mono ?_);rintro e w' ⟨rfl,hw'⟩;replace hw':=hw'.symm;subst hw') | (go_at_call 166;(with_reducible refine(mustR_ok _).mono ?_);rintro e w' ⟨⟨v,rfl⟩,hw'⟩;replace hw':=hw'.symm;subst hw'))
 obtain⟨p0,p1,p2⟩:=threeT_cells HP2.out
 have zf:∀ j,W2.frozen? ⟨w.heap.size,j,none⟩=false:=fun j=>by unfold World.frozen?;rw[HP2.out];simp
 go_upto_region 9 with fail
 have HP3:=zh (three_heapC HP2.out (.int .i64 num) (.int .i64 am) (.string ev))
 have HB3:=zh (three_belowC HB2.out (Nat.le_refl _) (.int .i64 num) (.int .i64 am) (.string ev))
 have hne:w.heap.size+1≠w.heap.size:=by omega
 have HE3:=zh ((Below.heap_setCell _ ⟨w.heap.size,2,none⟩ (.string ev) _ hne).trans ((Below.heap_setCell _ ⟨w.heap.size,1,none⟩ (.int .i64 am) _ hne).trans ((Below.heap_setCell _ ⟨w.heap.size,0,none⟩ (.int .i64 num) _ hne).trans HE2.out)))
 clear p0 p1 p2 zf HP2 HB2 HE2 hne
 generalize ((W2.setCell ⟨w.heap.size,0,none⟩ (.int .i64 num)).setCell ⟨w.heap.size,1,none⟩ (.int .i64 am)).setCell ⟨w.heap.size,2,none⟩ (.string ev)=W3 at *
 obtain⟨p0,p1,p2⟩:=threeT_cells HP3.out
 go_upto_region 11 with(go_at_call 81;(with_reducible refine(HF.out _).mono ?_);clear p0 p1 p2;rintro e W4 ⟨rfl,hb4⟩;have HB4:=zh hb4;clear hb4)
 have HP4:=zh (kept_block HP3.out HB4.out)
 have HE4:=zh (kept_block HE3.out HB4.out)
 have HB5:=zh (q_next HB3.out HB4.out)
 obtain⟨p0,p1,p2⟩:=threeT_cells HP4.out
 have e0:=cell_of_row W4 _ 0 _ _ _ HE4.out
 have zf:∀ j,W4.frozen? ⟨w.heap.size,j,none⟩=false:=fun j=>by unfold World.frozen?;rw[HP4.out];simp
 have ze:∀ j,W4.frozen? ⟨w.heap.size+1,j,none⟩=false:=fun j=>by unfold World.frozen?;rw[HE4.out];simp
 go_wp2
 have hne:w.heap.size≠w.heap.size+1:=by omega
 have hp:=three_heapC HP4.out (.int .i64 num) (.int .i64 am) (.string ev)
 have hg:=three_grownC W4 w.heap.size (.int .i64 num) (.int .i64 am) (.string ev)
 have hb:=three_belowC HB5.out (Nat.le_refl _) (.int .i64 num) (.int .i64 am) (.string ev)
 have he:=(hg.block _ (ltA HE4.out) (fun e=>hne (by injection e with e;exact e.symm))).trans HE4.out
 have hp2:=(Below.heap_setCell _ ⟨w.heap.size+1,0,none⟩ (.int .i64 0) _ hne).trans hp
 have he2:=heap_setCell_same (i:=0) (.int .i64 0) he
 simp only[List.setIfInBounds_toArray,List.set_cons_zero]at he2
 have hb2:=hb.setCell (p:=⟨w.heap.size+1,0,none⟩) (Nat.le_succ _) (.int .i64 0)
 refine leaves_cons (f:=164) (args:=#[.pointer (some ⟨w.heap.size,0,none⟩),.pointer (some ⟨w.heap.size+1,0,none⟩)]) (by simp) (by simp[go_sem]) ?_
 refine(decodeR_idle _ _ _).mono ?_
 rintro e u' w'' ⟨rfl,rfl,rfl⟩
 exact⟨_,results_decR hp2 he2 rfl rfl _ rfl rfl,rfl,hb2⟩
end Go.Proofs.YtjjiikeldpjafaaGreatDoor
/- TopReclaims: the cases of a part with one item. The conditions: what the items read as. -/
namespace Go.Proofs.YtjjiikeldpjafaaGreatDoor
open Go.RowKit Go.BigFrame
attribute [local go_sem] Oper.semAt_some
def casE (num am:Int)(ev:ByteArray)(_:Unit):Array Value:=#[.int .i64 0,.agg #[.int .i64 num,.int .i64 am,.string ev]]
def CasKp (_:Nat)(_ _:World):Prop:=True
set_option maxHeartbeats 4000000 in
set_option maxRecDepth 100000 in
theorem cases_iter {num am:Int}{ev:ByteArray}(h1:0≤num)(h2:num≤99999999)(h3:0≤am)(h4:am≤10000000)(h5:ev.size≤900)(h6:0 < ev.size){w0:World}{xb:Nat}{c1 c2:Int}{c3 c4:ByteArray}{ia:Option Addr}{ic:Nat}
  (hx:w0.heap[xb]?=some (.cells #[.int .i64 c1,.int .i64 c2,.string c3,.string c4,.slice ia 1 ic] 69 (0,0))) {y:ItemP × Value} (hi:IS w0 (.slice ia 1 ic) [y]) (hy0:y.1.idx=0) (hye:y.1.ent=caseB num am ev) :
  IterN Tryz.prog 129 #[.pointer (some ⟨xb,0,none⟩)] (casE num am ev) CasKp (fun _ _=>False) (fun xs=>xs=[()]) (fun pre=>pre=[()]) 1 w0:=by
 intro F n hF hro lb J Jx W hW hJ hJx hY h0
 have HJ:=zh hJ
 have HY:=zh hY
 have H0:=zh (h0 W.heap.size (Nat.le_refl _))
 have HX:=zh (kept_block hx hW)
 have HDC:=zh (fun W=>decodeR_any num am ev h1 h2 h3 h4 h5 h6 W)
 obtain⟨a,cap,e1,-,-,hit⟩:=(hi.below hW).opened
 obtain⟨b,off,e2,hlt,i0,i1,i2⟩:=hit 0 y rfl
 obtain⟨pa,pc,e3,-⟩:=(hi.2 y (.head _))
 generalize (scells y.1.prf).length=pn at e3
 rw[e3]at i2
 rw[hy0]at i0
 rw[hye]at i1
 injection e1 with e1 g1 g2
 clear g1 g2
 subst e1 e2
 simp only[Nat.zero_mul,Nat.add_zero]at i0 i1 i2
 obtain⟨p0,p1,p2,p3,p4⟩:=five_cells HX.out
 generalize caseB num am ev=en at *
 clear hJ hJx hY h0 hx hi hit hy0 hye h1 h2 h3 h4 h5 h6 hW e3
 refine callsIn_of_wp Tryz.func129 rfl (hF.1 _) ?_ hro
 simp only[Tryz.ntmps129,List.size_toArray,List.length_cons,List.length_nil,Nat.reduceAdd,Nat.reduceSub,Array.replicate_succ,Array.replicate_zero,List.push_toArray,List.append_toArray,List.nil_append,List.cons_append]
 gi_wp2
 gi_loopw [10] (fun i wr=>(i=.int .i64 0∧wr=W)∨(i=.int .i64 1∧Hid (J W.heap.size [()] wr))) (fun i _=>1 - (intOf i).toNat)
 case atStart=>exact .inl ⟨rfl,rfl⟩
 case round =>
  clear p0 p1 p2 p3 p4
  rcases hrel with⟨rfl,rfl⟩ | ⟨rfl,hJs⟩
  ·have HA1:=zh ((Below.refl wr.heap.size wr).alloc (Nat.le_refl _) (.cells #[.int .i64 0,.string en,.slice pa pn pc] 180))
   have HI1:=zh (heap_alloc_new wr (.cells #[.int .i64 0,.string en,.slice pa pn pc] 180))
   gi_upto_region 3 with fail
   clear i0 i1 i2
   generalize wr.alloc (.cells #[.int .i64 0,.string en,.slice pa pn pc] 180)=W1 at *
   obtain⟨ib,hib⟩:∃ ib,ib=wr.heap.size:=⟨_,rfl⟩
   rw[← hib]at HI1 ⊢
   have HIB:=zh hib
   clear hib
   obtain⟨q0,q1,q2⟩:=threeT_cells HI1.out
   gi_wp2
   refine⟨hF.1 _,fun h=>(by rw[hF.2.1]at h;cases h),(callsIn_of_calls hF (HDC.out _)).mono ?_⟩
   rintro r W2 ⟨rfl,hb2⟩
   have HI2:=zh (kept_block HI1.out hb2)
   have HB2:=zh (q_next HA1.out hb2)
   have HA3:=zh ((Below.refl W2.heap.size W2).alloc (Nat.le_refl _) (.cells #[.int .i64 num,.int .i64 am,.string ev] 73))
   have HP3:=zh (heap_alloc_new W2 (.cells #[.int .i64 num,.int .i64 am,.string ev] 73))
   clear q0 q1 q2 hb2 HI1 HA1
   gi_upto_region 4 with fail
   generalize W2.alloc (.cells #[.int .i64 num,.int .i64 am,.string ev] 73)=W3 at *
   generalize W2.heap.size=cb at HP3 ⊢
   have HI3:=zh (kept_block HI2.out HA3.out)
   have HB3:=zh (q_next HB2.out HA3.out)
   obtain⟨q0,q1,q2⟩:=threeT_cells HI3.out
   obtain⟨r0,r1,r2⟩:=threeT_cells HP3.out
   obtain⟨fn,tmps,assign,body,hy,hRR⟩:=HY.out wr.heap.size [] () W3 (Nat.le_refl _) (by rw[← HIB.out];exact(ltA HI3.out)) (HJ.out _ _ _ _ (Nat.le_refl _) H0.out (IStepS.below HB3.out)) (by decide)
   dsimp only [casE]at hy
   gi_wp2
   refine⟨fun h=>(by rw[hF.2.1]at h;cases h),hRR.mono ?_⟩
   rintro r W4 (⟨rfl,hJ4,-⟩ | ⟨rfl,hJx4⟩)
   ·have HJ4:=zh hJ4
    clear hy hRR q0 q1 q2 r0 r1 r2 hJ4
    gi_wp2
    go_roundw
    case rel=>exact .inr ⟨by go_num,HJ4⟩
    case measure=>decide
   ·clear hy hRR q0 q1 q2 r0 r1 r2
    gi_wp2
    refine bodyPost_ret (results_none rfl _ _ _) rfl ?_
    exact⟨⟨_,rfl⟩,.inr ⟨wr.heap.size,_,Nat.le_refl _,rfl,hJx4⟩⟩
  ·gi_wp2
   refine bodyPost_end (results_none rfl _ _ _) rfl ?_
   exact⟨⟨_,rfl⟩,.inl ⟨W.heap.size,_,Nat.le_refl _,rfl,hJs.out⟩⟩
set_option maxHeartbeats 1000000 in
theorem casesFn_any (c1 c2:Int)(c3 c4:ByteArray)(ia:Option Addr)(n ic:Nat)(w:World):Calls Tryz.prog 87 #[.agg #[.int .i64 c1,.int .i64 c2,.string c3,.string c4,.slice ia n ic]] w fun e w'=>e=.returned (.func (.func 129) #[] #[.pointer (some ⟨w.heap.size,0,none⟩)])∧w'=w.alloc (.cells #[.int .i64 c1,.int .i64 c2,.string c3,.string c4,.slice ia n ic] 69):=by
 have hmf:∀(fn:Fn) (first cap:Array Value) (w:World),(Instr.makeFunc fn first cap).run Tryz.prog w=.ok (.func fn first cap) w:=fun _ _ _ _=>rfl
 go_enter Tryz.func87,Tryz.ntmps87
 go_wp2
 go_ret
 exact⟨rfl,rfl⟩
end Go.Proofs.YtjjiikeldpjafaaGreatDoor
/- TopReclaims: reclaim.keeps at a part with one item. The conditions: the case, its wish and its chain are right. -/
namespace Go.Proofs.YtjjiikeldpjafaaGreatDoor
open Go.RowKit Go.BigFrame
attribute [local go_sem] Oper.semAt_some
structure CaOk (num am:Int) (x:WishP) (l:List ProxP):Prop where
 n:0≤num∧num≤99999999
 a:0≤am∧am≤10000000
 w:WOk x l num am
 sx:x.sl.size=32
 sl:∀ p∈l,p.sl.size=32
 rx:x.rt≤99999999
 rl:∀ p∈l,p.rt≤99999999
 e:(encW x l).size≤900
 e0:0 < (encW x l).size
structure PtAt (w:World) (v:Value) (en:ByteArray):Prop where
 h:∃(y:ItemP × Value),IS w v [y]∧y.1.idx=0∧y.1.ent=en
theorem PtAt.below {w w':World}{v:Value}{en:ByteArray}(h:PtAt w v en)(hb:Below w.heap.size w w'):PtAt w' v en:=⟨let ⟨y,h1,h2,h3⟩:=h.h;⟨y,h1.below hb,h2,h3⟩⟩
def KeI (w:World)(bd:Bool)(ka:Option Addr)(kn kc:Nat)(CH:Array Value)(pre:List Unit)(W:World):Prop :=
 W.heap[w.heap.size]?=some (.cells #[.slice ka kn kc] 47 (0,0))∧W.heap[w.heap.size+1]?=some (.cells CH 64 (0,0))∧W.heap[w.heap.size+1+1+1]?=some (.cells #[.bool false] 4 (0,0))∧Below w.heap.size w W∧(pre≠[]→bd=false)
def KeX (w:World)(bd:Bool)(_:List Unit)(W:World):Prop:=W.heap[w.heap.size+1+1+1]?=some (.cells #[.bool true] 4 (0,0))∧Below w.heap.size w W∧bd=true
theorem results_oneB {fn:Func}{W:World}{p g:Nat}{x:Bool}(h:fn.results=#[.cell p 4])(hg:W.heap[g]?=some (.cells #[.bool x] 4 (0,0)))(tmps:Array Value)(g2:tmps.getD p undef=.pointer (some ⟨g,0,none⟩)) :
  (results fn tmps).run Tryz.prog W=.ok (.bool x) W:=by
 have l1:=run_loadOne (T:=4) (fun w=>by kernel_rfl) hg
 have h2':tmps[p]?.getD undef=.pointer (some ⟨g,0,none⟩):=by simpa using g2
 simp only[results,h]
 simp[h2',asAddr,l1]
set_option maxHeartbeats 8000000 in
set_option maxRecDepth 100000 in
theorem keeps_any {num am asked:Int}{x:WishP}{l:List ProxP}(hc:CaOk num am x l){w:World}{vk:Value}{c1 c2:Int}{c3 c4:ByteArray}{ia:Option Addr}{ic:Nat}(hk:SS w vk (keysN 10))(hi:PtAt w (.slice ia 1 ic) (caseB num am (encW x l)))(he:Env w)(hg:0 < w.heap.size) :
  Calls Tryz.prog 53 #[vk,.agg #[.int .i64 num,.int .i64 x.ho,.int .i64 x.ca,.int .i64 am,.int .i64 asked],.agg #[.int .i64 c1,.int .i64 c2,.string c3,.string c4,.slice ia 1 ic]] w fun e w'=>e=.returned (.bool (sealedW x))∧Below w.heap.size w w':=by
 have HCI:=zh (fun(W:World) (hW:Below w.heap.size w W) (xb:Nat) (hx:W.heap[xb]?=some (.cells #[.int .i64 c1,.int .i64 c2,.string c3,.string c4,.slice ia 1 ic] 69 (0,0)))=>cases_iter hc.n.1 hc.n.2 hc.a.1 hc.a.2 hc.e hc.e0 hx (hi.below hW).h.choose_spec.1 (hi.below hW).h.choose_spec.2.1 (hi.below hW).h.choose_spec.2.2)
 have HDW:=zh (fun W=>decodeW_any x hc.w.formed hc.sx hc.w.chain hc.sl hc.w.four hc.rx hc.rl W)
 have HVW:=zh (fun(W:World) (v:Value) (hW:Below w.heap.size w W) (hv:PrS W v l)=>validW_any hc.w (hk.below hW) hv (Env.below he hW hg) (Nat.lt_of_lt_of_le hg hW.size))
 obtain⟨ka,kc,hkv,-⟩:=id hk
 generalize (scells (keysN 10)).length=kn at hkv
 subst hkv
 clear hc hk hi he hg
 generalize encW x l=ev at *
 obtain⟨bd,hbd⟩:∃ bd,bd=sealedW x:=⟨_,rfl⟩
 rw[← hbd]at HVW ⊢
 clear hbd
 obtain⟨sg,ho,rf,rt,ca,se,sf,st,sl⟩:=x
 unfold wagg at *
 simp only at HDW HVW ⊢
 obtain⟨W1,hW1⟩:∃ W1,W1=w.alloc (.cells #[.slice ka kn kc] 47):=⟨_,rfl⟩
 have HBW1:Hid (Below w.heap.size w W1):=zh (by rw[hW1];exact br0.alloc (Nat.le_refl _) _)
 have HXW1:Hid (W1.heap[w.heap.size]?=some (.cells #[.slice ka kn kc] 47 (0,0))):=zh (by rw[hW1];exact heap_alloc_new w _)
 have hsW1:Hid (W1.heap.size=w.heap.size+1):=zh (by rw[hW1];simp)
 have HWW1:=zh hW1
 clear hW1
 obtain⟨W2,hW2⟩:∃ W2,W2=W1.alloc (.cells #[.int .i64 num,.int .i64 ho,.int .i64 ca,.int .i64 am,.int .i64 asked] 64):=⟨_,rfl⟩
 have HBW2:Hid (Below W1.heap.size W1 W2):=zh (by rw[hW2];exact br0.alloc (Nat.le_refl _) _)
 have HXW2:Hid (W2.heap[W1.heap.size]?=some (.cells #[.int .i64 num,.int .i64 ho,.int .i64 ca,.int .i64 am,.int .i64 asked] 64 (0,0))):=zh (by rw[hW2];exact heap_alloc_new W1 _)
 have hsW2:Hid (W2.heap.size=W1.heap.size+1):=zh (by rw[hW2];simp)
 have HWW2:=zh hW2
 clear hW2
 obtain⟨W3,hW3⟩:∃ W3,W3=W2.alloc (.cells #[.int .i64 c1,.int .i64 c2,.string c3,.string c4,.slice ia 1 ic] 69):=⟨_,rfl⟩
 have HBW3:Hid (Below W2.heap.size W2 W3):=zh (by rw[hW3];exact br0.alloc (Nat.le_refl _) _)
 have HXW3:Hid (W3.heap[W2.heap.size]?=some (.cells #[.int .i64 c1,.int .i64 c2,.string c3,.string c4,.slice ia 1 ic] 69 (0,0))):=zh (by rw[hW3];exact heap_alloc_new W2 _)
 have hsW3:Hid (W3.heap.size=W2.heap.size+1):=zh (by rw[hW3];simp)
 have HWW3:=zh hW3
 clear hW3
 obtain⟨W4,hW4⟩:∃ W4,W4=W3.alloc (.cells #[.bool false] 4):=⟨_,rfl⟩
 have HBW4:Hid (Below W3.heap.size W3 W4):=zh (by rw[hW4];exact br0.alloc (Nat.le_refl _) _)
 have HXW4:Hid (W4.heap[W3.heap.size]?=some (.cells #[.bool false] 4 (0,0))):=zh (by rw[hW4];exact heap_alloc_new W3 _)
 have hsW4:Hid (W4.heap.size=W3.heap.size+1):=zh (by rw[hW4];simp)
 have HWW4:=zh hW4
 clear hW4
 have HB4:=zh (q_next HBW1.out (q_next HBW2.out (q_next HBW3.out HBW4.out)))
 have HP4:Hid (W4.heap[w.heap.size+1+1]?=some (.cells #[.int .i64 c1,.int .i64 c2,.string c3,.string c4,.slice ia 1 ic] 69 (0,0))):=zh (by rw[← hsW1.out,← hsW2.out];exact kept_block HXW3.out HBW4.out)
 have HI4:Hid (KeI w bd ka kn kc #[.int .i64 num,.int .i64 ho,.int .i64 ca,.int .i64 am,.int .i64 asked] [] W4):=zh ⟨kept_block HXW1.out (q_next HBW2.out (q_next HBW3.out HBW4.out)),by rw[← hsW1.out];exact kept_block HXW2.out (q_next HBW3.out HBW4.out),by rw[← hsW1.out,← hsW2.out,← hsW3.out];exact HXW4.out,HB4.out,fun h=>absurd rfl h⟩
 have HS4:Hid (W4.heap.size=w.heap.size+1+1+1+1):=zh (by rw[hsW4.out,hsW3.out,hsW2.out,hsW1.out])
 obtain⟨p0,p1,p2,p3,p4⟩:=five_cells HP4.out
 refine calls_of_callsIn (n:=8) Wide.wide (callsIn_of_wp_marks Tryz.func53 rfl trivial ?_)
 simp only[Tryz.ntmps53,List.size_toArray,List.length_cons,List.length_nil,Nat.reduceAdd,Nat.reduceSub,Array.replicate_succ,Array.replicate_zero,List.push_toArray,List.append_toArray,List.nil_append,List.cons_append]
 refine wpIn_wide.2 ?_
 go_upto_region 1 with fail
 rw[← HWW1.out,← HWW2.out,← HWW3.out,← HWW4.out]
 clear HWW1 HWW2 HWW3 HWW4 HXW1 HXW2 HXW3 HXW4 HBW1 HBW2 HBW3 HBW4 hsW1 hsW2 hsW3 hsW4
 go_wp2_with (go_at_call 87;(with_reducible refine(casesFn_any _ _ _ _ _ _ _ _).mono ?_);clear p0 p1 p2 p3 p4;rintro e w5 ⟨rfl,hw5⟩;have HW5:=zh hw5;clear hw5)
 have HB45:Hid (Below W4.heap.size W4 w5):=zh (by rw[HW5.out];exact br0.alloc (Nat.le_refl _) _)
 have HX5:Hid (w5.heap[W4.heap.size]?=some (.cells #[.int .i64 c1,.int .i64 c2,.string c3,.string c4,.slice ia 1 ic] 69 (0,0))):=zh (by rw[HW5.out];exact heap_alloc_new W4 _)
 have hk5:w.heap.size+1+1+1+1≤w5.heap.size:=by rw[← HS4.out];exact HB45.out.size
 generalize W4.heap.size=xb at HX5 ⊢
 clear HW5
 have HN5:Hid (KeI w bd ka kn kc #[.int .i64 num,.int .i64 ho,.int .i64 ca,.int .i64 am,.int .i64 asked] [] w5):=zh ⟨kept_block HI4.out.1 HB45.out,kept_block HI4.out.2.1 HB45.out,kept_block HI4.out.2.2.1 HB45.out,q_next HB4.out HB45.out,fun h=>absurd rfl h⟩
 have HI:=zh (HCI.out w5 (q_next HB4.out HB45.out) xb HX5.out)
 clear HCI HB45 HI4 HP4 HS4 HX5 HB4
 refine(wpIn_wide (n:=8)).1 ?_
 refine wpIn_rangeN (n:=8) Wide.wide rfl (gf:=129) (lb:=#[.pointer (some ⟨xb,0,none⟩)]) ?ev (fun args w=>?enter) HI.out br0 (fun x=>rfl) (fun nb k h1 h2=>h2.elim) (fun _ _ _=>trivial) (fun nb W o o' h1 h2 h3 h4=>trivial)
  (fun _=>KeI w bd ka kn kc #[.int .i64 num,.int .i64 ho,.int .i64 ca,.int .i64 am,.int .i64 asked]) (fun c _ pre W=>c=.ret∧KeX w bd pre W) (fun nb hnb=>?abide) (fun c nb hnb=>?abx) (fun nb hnb=>HN5.out)
  (fun a x a' W=>∃ q,w.heap.size+1+1+1 < q∧W.heap[q]?=some (.cells #[.int .i64 num,.int .i64 am,.string ev] 73 (0,0))∧a'=⟨((a.tmps.setIfInBounds 14 (.int .i64 0)).setIfInBounds 15 (.agg #[.int .i64 num,.int .i64 am,.string ev])).setIfInBounds 8 (.pointer (some ⟨q,0,none⟩)),[]⟩)
  (fun x a' W l o o' h1 h2 h3 h4=>?a1) (fun nb A C h1 h2=>trivial) (fun l nb pre x W K hI hK=>?assign) (fun lr nb pre x a' W hnb hlt hI hlen hA=>?body) (fun Dm nb xs W hDm hnb hS hI hDd=>?done) (fun Dm c nb pre W hD hnb hS hI hDd=>?stp)
 case ev=>rfl
 case enter=>kernel_rfl
 case abide=>exact abideS_and (abideS_cells (fun _=>.cells #[.slice ka kn kc] 47 (0,0)) (fun _=>rfl) (fun h=>h)) (abideS_and (abideS_cells (fun _=>.cells #[.int .i64 num,.int .i64 ho,.int .i64 ca,.int .i64 am,.int .i64 asked] 64 (0,0)) (fun _=>rfl) (fun h=>h)) (abideS_and (abideS_cells (fun _=>.cells #[.bool false] 4 (0,0)) (fun _=>rfl) (fun h=>h)) (abideS_and (abideS_below (by omega) (Nat.le_refl _) (fun k hk=>hk.elim)) (abideS_pure _ _ (fun pre=>pre≠[]→bd=false)))))
 case abx=>exact abideS_and (abideS_pure _ _ (fun _=>c=.ret)) (abideS_and (abideS_cells (fun _=>.cells #[.bool true] 4 (0,0)) (fun _=>rfl) (fun h=>h)) (abideS_and (abideS_below (by omega) (Nat.le_refl _) (fun k hk=>hk.elim)) (abideS_pure _ _ (fun _=>bd=true))))
 case a1 =>
  obtain⟨q,hq1,hq,ha⟩:=h1
  exact⟨q,hq1,(World.putObj_heap_other (fun e=>by subst e;rw[h3]at hq;cases hq;cases h4)).trans hq,ha⟩
 case assign =>
  have hkW:w.heap.size+1+1+1 < W.heap.size:=(ltA hI.2.2.1)
  unfold casE at *
  simp only[List.zip_toArray,List.zip_cons_cons,List.zip_nil_right,List.foldl_toArray',List.foldl_cons,List.foldl_nil,List.setIfInBounds_toArray,List.set_cons_succ,List.set_cons_zero]
  gi_wp2
  exact hK _ _ ⟨W.heap.size,hkW,heap_alloc_new _ _,rfl⟩ (World.grownBy_alloc _ _ _)
 case body =>
  obtain⟨q,hq1,hq,rfl⟩:=hA
  have hFr:Wide (Fence.wide.inRound lr):=Wide.inRound Wide.wide _
  have HQ:=zh hq
  have HI0:=zh hI
  obtain⟨q0,q1,q2⟩:=threeT_cells hq
  obtain⟨h0,h1,h2,h3,h4⟩:=five_cells HI0.out.2.1
  clear hI hq
  simp only[List.setIfInBounds_toArray,List.set_cons_succ,List.set_cons_zero]
  gi_upto_region 4 with fail
  clear q0 q1 q2 h0 h1 h2 h3 h4
  obtain⟨q0,q1,q2⟩:=threeT_cells HQ.out
  gi_wp2
  refine⟨trivial,(callsIn_of_calls hFr (HDW.out _)).mono ?_⟩
  rintro r W2 ⟨v,rfl,hps,hb2⟩
  obtain⟨va,vc,hva,-,-⟩:=hps.form
  generalize l.length=vn at hva
  subst hva
  have HPS:=zh hps
  have HA2:=zh hb2
  clear hps hb2 q0 q1 q2
  have HA3:=zh ((Below.refl W2.heap.size W2).alloc (Nat.le_refl _) (.cells #[.int .i64 sg,.int .i64 ho,.int .i64 rf,.int .i64 rt,.int .i64 ca,.int .i64 se,.int .i64 sf,.int .i64 st,.string sl] 31))
  have HW3:=zh (heap_alloc_new W2 (.cells #[.int .i64 sg,.int .i64 ho,.int .i64 rf,.int .i64 rt,.int .i64 ca,.int .i64 se,.int .i64 sf,.int .i64 st,.string sl] 31))
  gi_upto_region 5 with fail
  generalize W2.alloc (.cells #[.int .i64 sg,.int .i64 ho,.int .i64 rf,.int .i64 rt,.int .i64 ca,.int .i64 se,.int .i64 sf,.int .i64 st,.string sl] 31)=W3 at *
  generalize W2.heap.size=wb at HW3 ⊢
  have HB3:=zh (q_next HA2.out HA3.out)
  have HV3:=zh (HPS.out.below HA3.out)
  have HBW:=zh (HI0.out.2.2.2.1.trans (HB3.out.mono HI0.out.2.2.2.1.size))
  have HCV:=zh (HVW.out W3 _ HBW.out HV3.out)
  obtain⟨x0,x1,x2,x3,x4,x5,x6,x7,x8⟩:=nine_cells HW3.out
  obtain⟨h0,h1,h2,h3,h4⟩:=five_cells (kept_block HI0.out.2.1 HB3.out)
  have k0:=cell_of_row W3 _ 0 _ _ _ (kept_block HI0.out.1 HB3.out)
  gi_wp2
  refine⟨trivial,(callsIn_of_calls hFr HCV.out).mono ?_⟩
  rintro r W4 ⟨rfl,hb4⟩
  have HB4:=zh (q_next HB3.out hb4)
  clear x0 x1 x2 x3 x4 x5 x6 x7 x8 h0 h1 h2 h3 h4 k0 hb4
  have HR4:=zh (kept_block HI0.out.2.2.1 HB4.out)
  have HBW4:=zh (HI0.out.2.2.2.1.trans (HB4.out.mono HI0.out.2.2.2.1.size))
  cases bd with
  | true =>
   have r0:=cell_of_row W4 _ 0 _ _ _ HR4.out
   have zf:∀ j,W4.frozen? ⟨w.heap.size+1+1+1,j,none⟩=false:=fun j=>by unfold World.frozen?;rw[HR4.out];simp
   gi_wp2
   refine⟨KeepsFrom.trans ⟨HB4.out.size,fun k o _ hk _=>kept_block hk HB4.out⟩ (KeepsFrom.of_grownBy (grown_setCell (grown_refl _ _) ⟨w.heap.size+1+1+1,0,none⟩ (.inl rfl) (.bool true)) (fun j e=>by cases e;show w.heap.size+1+1+1 < _;omega)),rfl,?_,HBW4.out.setCell (p:=⟨w.heap.size+1+1+1,0,none⟩) (by show w.heap.size≤w.heap.size+1+1+1;omega) _,rfl⟩
   have h:=heap_setCell_same (i:=0) (.bool true) HR4.out
   simpa using h
  | false =>
   gi_wp2
   exact⟨⟨HB4.out.size,fun k o _ hk _=>kept_block hk HB4.out⟩,trivial,kept_block HI0.out.1 HB4.out,kept_block HI0.out.2.1 HB4.out,HR4.out,HBW4.out,fun _=>rfl⟩
 case done =>
  obtain⟨i1,i2,i3,i4,i5⟩:=hI
  have HBD:=zh (i5 (by rw[hS];simp))
  have HR:=zh i3
  have HB:=zh i4
  have HD:=zh hDd
  have HDm:Hid (w5.heap.size≤Dm):=zh hDm
  clear hS hDd hDm HI HN5 hnb i1 i2 i3 i4 i5
  show Exit.inBlock _ _ _ (Act.mk _ [{ target:=.collected Dm,args:=#[] }]) W
  have r0:=cell_of_row W _ 0 _ _ _ HR.out
  have zf:∀ j,W.frozen? ⟨w.heap.size+1+1+1,j,none⟩=false:=fun j=>by unfold World.frozen?;rw[HR.out];simp
  go_wp2
  have hr:=heap_setCell_same (i:=0) (.bool false) HR.out
  simp only[List.setIfInBounds_toArray,List.set_cons_zero]at hr
  have hM:Marks w5.heap.size [Dm] (W.setCell ⟨w.heap.size+1+1+1,0,none⟩ (.bool false)):=⟨by simp,fun D' hD'=>by
   rw[List.mem_singleton]at hD'
   subst hD'
   exact⟨HDm.out,(Below.heap_setCell _ _ _ _ (by show D'≠w.heap.size+1+1+1;have:=HDm.out;omega)).trans HD.out⟩⟩
  have hsz:w.heap.size≤w5.heap.size:=by omega
  refine leaves_marks (B:=w5.heap.size) [Dm] _ hM (fun W'' hT=>⟨_,results_oneB rfl ((hT.old _ (by omega)).trans hr) _ rfl,by rw[HBD.out],(HB.out.setCell (p:=⟨w.heap.size+1+1+1,0,none⟩) (by show w.heap.size≤w.heap.size+1+1+1;omega) _).trans (hT.below.mono hsz)⟩)
 case stp =>
  obtain⟨rfl,i1,i2,i3⟩:=hI
  have HBD:=zh i3
  have HR:=zh i1
  have HB:=zh i2
  have HD:=zh hDd
  have HDm:Hid (w5.heap.size≤Dm):=zh hD
  clear hS hDd HI HN5 hnb hD i1 i2 i3
  refine wpIn_wide.2 ?_
  go_wp2
  have hM:Marks w5.heap.size [Dm] W:=⟨by simp,fun D' hD'=>by
   rw[List.mem_singleton]at hD'
   subst hD'
   exact⟨HDm.out,HD.out⟩⟩
  have hsz:w.heap.size≤w5.heap.size:=by omega
  refine leaves_marks (B:=w5.heap.size) [Dm] _ hM (fun W'' hT=>⟨_,results_oneB rfl ((hT.old _ (by omega)).trans HR.out) _ rfl,by rw[HBD.out],HB.out.trans (hT.below.mono hsz)⟩)
end Go.Proofs.YtjjiikeldpjafaaGreatDoor
/- TopReclaims: reclaim.lacks at a part with one item that shows the number. The conditions: what the items read as. -/
namespace Go.Proofs.YtjjiikeldpjafaaGreatDoor
open Go.RowKit Go.BigFrame
attribute [local go_sem] Oper.semAt_some
def LaI (w:World)(num:Int)(PT:Array Value)(W:World):Prop :=
 W.heap[w.heap.size]?=some (.cells PT 69 (0,0))∧W.heap[w.heap.size+1]?=some (.cells #[.int .i64 num] 3 (0,0))∧W.heap[w.heap.size+1+1]?=some (.cells #[.bool false] 4 (0,0))∧(∃ i,W.heap[w.heap.size+1+1+1]?=some (.cells #[.int .i64 i] 3 (0,0)))∧W.heap[w.heap.size+1+1+1+1]?=some (.cells #[.bool false] 4 (0,0))∧Below w.heap.size w W
theorem LaI.step {w W W':World}{num:Int}{PT:Array Value}(h:LaI w num PT W)(hb:Below W.heap.size W W'):LaI w num PT W' :=
 ⟨kept_block h.1 hb,kept_block h.2.1 hb,kept_block h.2.2.1 hb,let ⟨i,hi⟩:=h.2.2.2.1;⟨i,kept_block hi hb⟩,kept_block h.2.2.2.2.1 hb,q_next h.2.2.2.2.2 hb⟩
theorem LaI.set {w W:World}{num i:Int}{PT:Array Value}(h:LaI w num PT W)(hl:W.heap[w.heap.size+1+1+1]?=some (.cells #[.int .i64 i] 3 (0,0))):LaI w num PT ((W.setCell ⟨w.heap.size+1+1+1,0,none⟩ (.int .i64 0)).setCell ⟨w.heap.size+1+1+1+1,0,none⟩ (.bool false)):=by
 have k:∀ {c:Nat} {o:Obj},W.heap[c]?=some o→c≠w.heap.size+1+1+1→c≠w.heap.size+1+1+1+1→((W.setCell ⟨w.heap.size+1+1+1,0,none⟩ (.int .i64 0)).setCell ⟨w.heap.size+1+1+1+1,0,none⟩ (.bool false)).heap[c]?=some o:=fun g1 g2 g3=>(Below.heap_setCell _ _ _ _ g3).trans ((Below.heap_setCell _ _ _ _ g2).trans g1)
 obtain⟨i1,i2,i3,-,i5,i6⟩:=h
 have a1:=heap_setCell_same (i:=0) (.int .i64 0) hl
 have a2:=(Below.heap_setCell (W.setCell ⟨w.heap.size+1+1+1,0,none⟩ (.int .i64 0)) ⟨w.heap.size+1+1+1+1,0,none⟩ (.bool false) (w.heap.size+1+1+1) (by show w.heap.size+1+1+1≠w.heap.size+1+1+1+1;omega)).trans a1
 have a3:=heap_setCell_same (i:=0) (.bool false) ((Below.heap_setCell W ⟨w.heap.size+1+1+1,0,none⟩ (.int .i64 0) (w.heap.size+1+1+1+1) (by show w.heap.size+1+1+1+1≠w.heap.size+1+1+1;omega)).trans i5)
 exact⟨k i1 (by omega) (by omega),k i2 (by omega) (by omega),k i3 (by omega) (by omega),⟨0,a2⟩,a3,(i6.setCell (p:=⟨w.heap.size+1+1+1,0,none⟩) (by show w.heap.size≤w.heap.size+1+1+1;omega) _).setCell (p:=⟨w.heap.size+1+1+1+1,0,none⟩) (by show w.heap.size≤w.heap.size+1+1+1+1;omega) _⟩
set_option maxHeartbeats 8000000 in
set_option maxRecDepth 100000 in
theorem lacks_any {num am:Int}{ev:ByteArray}(h1:0≤num)(h2:num≤99999999)(h3:0≤am)(h4:am≤10000000)(h5:ev.size≤900)(h6:0 < ev.size){w:World}{c1 c2:Int}{c3 c4:ByteArray}{ia:Option Addr}{ic:Nat}(hc2:c2≠0)(hi:PtAt w (.slice ia 1 ic) (caseB num am ev)) :
  Calls Tryz.prog 55 #[.agg #[.int .i64 c1,.int .i64 c2,.string c3,.string c4,.slice ia 1 ic],.int .i64 num] w fun e w'=>e=.returned (.bool false)∧Below w.heap.size w w':=by
 have HCI:=zh (fun(W:World) (hW:Below w.heap.size w W) (xb:Nat) (hx:W.heap[xb]?=some (.cells #[.int .i64 c1,.int .i64 c2,.string c3,.string c4,.slice ia 1 ic] 69 (0,0)))=>cases_iter h1 h2 h3 h4 h5 h6 hx (hi.below hW).h.choose_spec.1 (hi.below hW).h.choose_spec.2.1 (hi.below hW).h.choose_spec.2.2)
 have HC2:Hid ((c2 == (0:Int))=false):=zh (by simpa using hc2)
 clear h1 h2 h3 h4 h5 h6 hc2 hi
 obtain⟨W1,hW1⟩:∃ W1,W1=w.alloc (.cells #[.int .i64 c1,.int .i64 c2,.string c3,.string c4,.slice ia 1 ic] 69):=⟨_,rfl⟩
 have HBW1:Hid (Below w.heap.size w W1):=zh (by rw[hW1];exact br0.alloc (Nat.le_refl _) _)
 have HXW1:Hid (W1.heap[w.heap.size]?=some (.cells #[.int .i64 c1,.int .i64 c2,.string c3,.string c4,.slice ia 1 ic] 69 (0,0))):=zh (by rw[hW1];exact heap_alloc_new w _)
 have hsW1:Hid (W1.heap.size=w.heap.size+1):=zh (by rw[hW1];simp)
 have HWW1:=zh hW1
 clear hW1
 obtain⟨W2,hW2⟩:∃ W2,W2=W1.alloc (.cells #[.int .i64 num] 3):=⟨_,rfl⟩
 have HBW2:Hid (Below W1.heap.size W1 W2):=zh (by rw[hW2];exact br0.alloc (Nat.le_refl _) _)
 have HXW2:Hid (W2.heap[W1.heap.size]?=some (.cells #[.int .i64 num] 3 (0,0))):=zh (by rw[hW2];exact heap_alloc_new W1 _)
 have hsW2:Hid (W2.heap.size=W1.heap.size+1):=zh (by rw[hW2];simp)
 have HWW2:=zh hW2
 clear hW2
 obtain⟨W3,hW3⟩:∃ W3,W3=W2.alloc (.cells #[.bool false] 4):=⟨_,rfl⟩
 have HBW3:Hid (Below W2.heap.size W2 W3):=zh (by rw[hW3];exact br0.alloc (Nat.le_refl _) _)
 have HXW3:Hid (W3.heap[W2.heap.size]?=some (.cells #[.bool false] 4 (0,0))):=zh (by rw[hW3];exact heap_alloc_new W2 _)
 have hsW3:Hid (W3.heap.size=W2.heap.size+1):=zh (by rw[hW3];simp)
 have HWW3:=zh hW3
 clear hW3
 obtain⟨W4,hW4⟩:∃ W4,W4=W3.alloc (.cells #[.int .i64 (-1)] 3):=⟨_,rfl⟩
 have HBW4:Hid (Below W3.heap.size W3 W4):=zh (by rw[hW4];exact br0.alloc (Nat.le_refl _) _)
 have HXW4:Hid (W4.heap[W3.heap.size]?=some (.cells #[.int .i64 (-1)] 3 (0,0))):=zh (by rw[hW4];exact heap_alloc_new W3 _)
 have hsW4:Hid (W4.heap.size=W3.heap.size+1):=zh (by rw[hW4];simp)
 have HWW4:=zh hW4
 clear hW4
 obtain⟨W5,hW5⟩:∃ W5,W5=W4.alloc (.cells #[.bool false] 4):=⟨_,rfl⟩
 have HBW5:Hid (Below W4.heap.size W4 W5):=zh (by rw[hW5];exact br0.alloc (Nat.le_refl _) _)
 have HXW5:Hid (W5.heap[W4.heap.size]?=some (.cells #[.bool false] 4 (0,0))):=zh (by rw[hW5];exact heap_alloc_new W4 _)
 have hsW5:Hid (W5.heap.size=W4.heap.size+1):=zh (by rw[hW5];simp)
 have HWW5:=zh hW5
 clear hW5
 have HB35:=zh (q_next HBW4.out HBW5.out)
 have HB5:=zh (q_next HBW1.out (q_next HBW2.out (q_next HBW3.out HB35.out)))
 have HI5:Hid (LaI w num #[.int .i64 c1,.int .i64 c2,.string c3,.string c4,.slice ia 1 ic] W5):=zh ⟨kept_block HXW1.out (q_next HBW2.out (q_next HBW3.out HB35.out)),by rw[← hsW1.out];exact kept_block HXW2.out (q_next HBW3.out HB35.out),by rw[← hsW1.out,← hsW2.out];exact kept_block HXW3.out HB35.out,⟨-1,by rw[← hsW1.out,← hsW2.out,← hsW3.out];exact kept_block HXW4.out HBW5.out⟩,by rw[← hsW1.out,← hsW2.out,← hsW3.out,← hsW4.out];exact HXW5.out,HB5.out⟩
 have HS5:Hid (W5.heap.size=w.heap.size+1+1+1+1+1):=zh (by rw[hsW5.out,hsW4.out,hsW3.out,hsW2.out,hsW1.out])
 obtain⟨p0,p1,p2,p3,p4⟩:=five_cells HI5.out.1
 refine calls_of_callsIn (n:=8) Wide.wide (callsIn_of_wp_marks Tryz.func55 rfl trivial ?_)
 simp only[Tryz.ntmps55,List.size_toArray,List.length_cons,List.length_nil,Nat.reduceAdd,Nat.reduceSub,Array.replicate_succ,Array.replicate_zero,List.push_toArray,List.append_toArray,List.nil_append,List.cons_append]
 refine wpIn_wide.2 ?_
 go_upto_region 2 with fail
 rw[← HWW1.out,← HWW2.out,← HWW3.out,← HWW4.out,← HWW5.out]
 clear HWW1 HWW2 HWW3 HWW4 HWW5 HXW1 HXW2 HXW3 HXW4 HXW5 HBW1 HBW2 HBW3 HBW4 HBW5 hsW1 hsW2 hsW3 hsW4 hsW5 HB35
 go_wp2_with (go_at_call 87;(with_reducible refine(casesFn_any _ _ _ _ _ _ _ _).mono ?_);clear p0 p1 p2 p3 p4;rintro e w5 ⟨rfl,hw5⟩;have HW5:=zh hw5;clear hw5)
 have HB45:Hid (Below W5.heap.size W5 w5):=zh (by rw[HW5.out];exact br0.alloc (Nat.le_refl _) _)
 have HX5:Hid (w5.heap[W5.heap.size]?=some (.cells #[.int .i64 c1,.int .i64 c2,.string c3,.string c4,.slice ia 1 ic] 69 (0,0))):=zh (by rw[HW5.out];exact heap_alloc_new W5 _)
 have hk5:w.heap.size+1+1+1+1+1≤w5.heap.size:=by rw[← HS5.out];exact HB45.out.size
 generalize W5.heap.size=xb at HX5 ⊢
 clear HW5
 have HN5:Hid (LaI w num #[.int .i64 c1,.int .i64 c2,.string c3,.string c4,.slice ia 1 ic] w5):=zh (HI5.out.step HB45.out)
 have HI:=zh (HCI.out w5 (q_next HB5.out HB45.out) xb HX5.out)
 clear HCI HB45 HI5 HS5 HX5 HB5
 refine(wpIn_wide (n:=8)).1 ?_
 refine wpIn_rangeN (n:=8) Wide.wide rfl (gf:=129) (lb:=#[.pointer (some ⟨xb,0,none⟩)]) ?ev (fun args w=>?enter) HI.out br0 (fun x=>rfl) (fun nb k h1 h2=>h2.elim) (fun _ _ _=>trivial) (fun nb W o o' h1 h2 h3 h4=>trivial)
  (fun _ _=>LaI w num #[.int .i64 c1,.int .i64 c2,.string c3,.string c4,.slice ia 1 ic]) (fun _ _ _ _=>False) (fun nb hnb=>?abide) (fun c nb hnb=>abideS_false _ _) (fun nb hnb=>HN5.out)
  (fun a x a' W=>∃ q,w.heap.size+1+1+1+1 < q∧W.heap[q]?=some (.cells #[.int .i64 num,.int .i64 am,.string ev] 73 (0,0))∧a'=⟨(((a.tmps.setIfInBounds 12 (.int .i64 0)).setIfInBounds 13 (.agg #[.int .i64 num,.int .i64 am,.string ev])).setIfInBounds 7 (.int .i64 0)).setIfInBounds 8 (.pointer (some ⟨q,0,none⟩)),[]⟩)
  (fun x a' W l o o' h1 h2 h3 h4=>?a1) (fun nb A C h1 h2=>trivial) (fun l nb pre x W K hI hK=>?assign) (fun lr nb pre x a' W hnb hlt hI hlen hA=>?body) (fun Dm nb xs W hDm hnb hS hI hDd=>?done) (fun Dm c nb pre W hD hnb hS hI hDd=>hI.elim)
 case ev=>rfl
 case enter=>kernel_rfl
 case abide=>exact abideS_and (abideS_cells (fun _=>.cells #[.int .i64 c1,.int .i64 c2,.string c3,.string c4,.slice ia 1 ic] 69 (0,0)) (fun _=>rfl) (fun h=>h)) (abideS_and (abideS_cells (fun _=>.cells #[.int .i64 num] 3 (0,0)) (fun _=>rfl) (fun h=>h)) (abideS_and (abideS_cells (fun _=>.cells #[.bool false] 4 (0,0)) (fun _=>rfl) (fun h=>h)) (abideS_and (abideS_ex fun i=>abideS_cells (fun _=>.cells #[.int .i64 i] 3 (0,0)) (fun _=>rfl) (fun h=>h)) (abideS_and (abideS_cells (fun _=>.cells #[.bool false] 4 (0,0)) (fun _=>rfl) (fun h=>h)) (abideS_below (by omega) (Nat.le_refl _) (fun k hk=>hk.elim))))))
 case a1 =>
  obtain⟨q,hq1,hq,ha⟩:=h1
  exact⟨q,hq1,(World.putObj_heap_other (fun e=>by subst e;rw[h3]at hq;cases hq;cases h4)).trans hq,ha⟩
 case assign =>
  have hkW:w.heap.size+1+1+1+1 < W.heap.size:=(ltA hI.2.2.2.2.1)
  unfold casE at *
  simp only[List.zip_toArray,List.zip_cons_cons,List.zip_nil_right,List.foldl_toArray',List.foldl_cons,List.foldl_nil,List.setIfInBounds_toArray,List.set_cons_succ,List.set_cons_zero]
  gi_wp2
  exact hK _ _ ⟨W.heap.size,hkW,heap_alloc_new _ _,rfl⟩ (World.grownBy_alloc _ _ _)
 case body =>
  obtain⟨q,hq1,hq,rfl⟩:=hA
  have HI0:=zh hI
  obtain⟨i1,i2,i3,⟨i,i4⟩,i5,i6⟩:=hI
  obtain⟨q0,q1,q2⟩:=threeT_cells hq
  obtain⟨p0,p1,p2,p3,p4⟩:=five_cells i1
  have n0:=cell_of_row W _ 0 _ _ _ i2
  have l0:=cell_of_row W _ 0 _ _ _ i4
  have f0:=cell_of_row W _ 0 _ _ _ i5
  have zl:∀ j,W.frozen? ⟨w.heap.size+1+1+1,j,none⟩=false:=fun j=>by unfold World.frozen?;rw[i4];simp
  have zf:∀ j,W.frozen? ⟨w.heap.size+1+1+1+1,j,none⟩=false:=fun j=>by unfold World.frozen?;rw[i5];simp
  have I4:=zh i4
  clear i1 i2 i3 i4 i5 i6 hq
  simp only[List.setIfInBounds_toArray,List.set_cons_succ,List.set_cons_zero]
  gi_wp2
  have hg:W.grownBy (W.setCell ⟨w.heap.size+1+1+1,0,none⟩ (.int .i64 0)) (some (w.heap.size+1+1+1)):=grown_setCell (grown_refl _ _) ⟨w.heap.size+1+1+1,0,none⟩ (.inl rfl) _
  have hg2:(W.setCell ⟨w.heap.size+1+1+1,0,none⟩ (.int .i64 0)).grownBy ((W.setCell ⟨w.heap.size+1+1+1,0,none⟩ (.int .i64 0)).setCell ⟨w.heap.size+1+1+1+1,0,none⟩ (.bool false)) (some (w.heap.size+1+1+1+1)):=grown_setCell (grown_refl _ _) ⟨w.heap.size+1+1+1+1,0,none⟩ (.inl rfl) _
  refine⟨(KeepsFrom.of_grownBy hg (fun j e=>by cases e;show w.heap.size+1+1+1 < _;omega)).trans (KeepsFrom.of_grownBy hg2 (fun j e=>by cases e;show w.heap.size+1+1+1+1 < _;omega)),trivial,?_⟩
  exact HI0.out.set I4.out
 case done =>
  have HI1:=zh hI
  have HD:=zh hDd
  have HDm:Hid (w5.heap.size≤Dm):=zh hDm
  clear hS hDd hDm HI HN5 hnb hI
  show Exit.inBlock _ _ _ (Act.mk _ [{ target:=.collected Dm,args:=#[] }]) W
  have HR:=zh HI1.out.2.2.1
  have r0:=cell_of_row W _ 0 _ _ _ HR.out
  have zf:∀ j,W.frozen? ⟨w.heap.size+1+1,j,none⟩=false:=fun j=>by unfold World.frozen?;rw[HR.out];simp
  obtain⟨p0,p1,p2,p3,p4⟩:=five_cells HI1.out.1
  have hc2:=HC2.out
  go_wp2
  have hr:=heap_setCell_same (i:=0) (.bool false) HR.out
  simp only[List.setIfInBounds_toArray,List.set_cons_zero]at hr
  have hM:Marks w5.heap.size [Dm] (W.setCell ⟨w.heap.size+1+1,0,none⟩ (.bool false)):=⟨by simp,fun D' hD'=>by
   rw[List.mem_singleton]at hD'
   subst hD'
   exact⟨HDm.out,(Below.heap_setCell _ _ _ _ (by show D'≠w.heap.size+1+1;have:=HDm.out;omega)).trans HD.out⟩⟩
  have hsz:w.heap.size≤w5.heap.size:=by omega
  refine leaves_marks (B:=w5.heap.size) [Dm] _ hM (fun W'' hT=>⟨_,results_oneB rfl ((hT.old _ (by omega)).trans hr) _ rfl,rfl,(HI1.out.2.2.2.2.2.setCell (p:=⟨w.heap.size+1+1,0,none⟩) (by show w.heap.size≤w.heap.size+1+1;omega) _).trans (hT.below.mono hsz)⟩)
end Go.Proofs.YtjjiikeldpjafaaGreatDoor
/- TopReclaims: reclaim.State at one reply: the closures, and the first of the replies. The conditions: what the blocks hold. -/
namespace Go.Proofs.YtjjiikeldpjafaaGreatDoor
open Go.RowKit Go.BigFrame
attribute [local go_sem] Oper.semAt_some
theorem six_cellsR {W:World}{b:Nat}{c0 c1 c2 c3 c4 c5:Value}{T:TypeId}(h:W.heap[b]?=some (.cells #[c0,c1,c2,c3,c4,c5] T (0,0))) :
  W.cell? ⟨b,0,none⟩=some c0∧W.cell? ⟨b,1,none⟩=some c1∧W.cell? ⟨b,2,none⟩=some c2∧W.cell? ⟨b,3,none⟩=some c3∧W.cell? ⟨b,4,none⟩=some c4∧W.cell? ⟨b,5,none⟩=some c5 :=
 ⟨cell_of_row W b 0 _ _ _ h,cell_of_row W b 1 _ _ _ h,cell_of_row W b 2 _ _ _ h,cell_of_row W b 3 _ _ _ h,cell_of_row W b 4 _ _ _ h,cell_of_row W b 5 _ _ _ h⟩
structure Sd where
 num:Int
 ho:Int
 ca:Int
 am:Int
 asked:Int
 en:Int
 key:ByteArray
 rat:Int
 c2:Int
 c3:ByteArray
 c4:ByteArray
 ia:Option Addr
 ic:Nat
 ka:Option Addr
 kn:Nat
 kc:Nat
 sb:Nat
 yb:Nat
 cb:Nat
 tb:Nat
 eb:Nat
 fb:Nat
structure SvAt (d:Sd) (w W:World):Prop where
 b:Below w.heap.size w W
 s:W.heap[d.sb]?=some (.cells #[.slice d.ka d.kn d.kc] 47 (0,0))
 k:W.heap[d.yb]?=some (.cells #[.string d.key] 9 (0,0))
 c:W.heap[d.cb]?=some (.cells #[.int .i64 d.num,.int .i64 d.ho,.int .i64 d.ca,.int .i64 d.am,.int .i64 d.asked] 64 (0,0))
 t:W.heap[d.tb]?=some (.cells #[.int .i64 d.en] 3 (0,0))
 e:W.heap[d.eb]?=some (.cells #[.int .i64 d.en] 3 (0,0))
 f:W.heap[d.fb]?=some (.cells #[.func (.func 48) #[] #[.pointer (some ⟨d.cb,0,none⟩),.pointer (some ⟨d.eb,0,none⟩),.pointer (some ⟨d.tb,0,none⟩),.pointer (some ⟨d.yb,0,none⟩)]] 138 (0,0))
theorem SvAt.step {d:Sd}{w W W':World}(h:SvAt d w W)(hb:Below W.heap.size W W'):SvAt d w W' :=
 ⟨q_next h.b hb,kept_block h.s hb,kept_block h.k hb,kept_block h.c hb,kept_block h.t hb,kept_block h.e hb,kept_block h.f hb⟩
structure SdOk (d:Sd) (bd:Bool) (w:World):Prop where
 e:0≤d.asked∧d.asked < d.en∧d.en≤11000000
 r:d.asked≤d.rat
 ck:∀ W,Below w.heap.size w W→Calls Tryz.prog 49 #[.string d.key,.agg #[.int .i64 d.ca,.int .i64 d.c2,.string d.c3,.string d.c4,.slice d.ia 1 d.ic]] W fun e w'=>e=.returned (.bool true)∧Below W.heap.size W w'
 kp:∀ W,Below w.heap.size w W→Calls Tryz.prog 53 #[.slice d.ka d.kn d.kc,.agg #[.int .i64 d.num,.int .i64 d.ho,.int .i64 d.ca,.int .i64 d.am,.int .i64 d.asked],.agg #[.int .i64 d.ca,.int .i64 d.c2,.string d.c3,.string d.c4,.slice d.ia 1 d.ic]] W fun e w'=>e=.returned (.bool bd)∧Below W.heap.size W w'
 lk:∀ W,Below w.heap.size w W→Calls Tryz.prog 55 #[.agg #[.int .i64 d.ca,.int .i64 d.c2,.string d.c3,.string d.c4,.slice d.ia 1 d.ic],.int .i64 d.num] W fun e w'=>e=.returned (.bool false)∧Below W.heap.size W w'
set_option maxHeartbeats 4000000 in
set_option maxRecDepth 100000 in
theorem counts_any {d:Sd}{bd:Bool}{w W:World}(ho:SdOk d bd w)(h:SvAt d w W) :
  Calls Tryz.prog 48 #[.agg #[.int .i64 d.rat,.int .i64 d.ca,.int .i64 d.c2,.string d.c3,.string d.c4,.slice d.ia 1 d.ic],.pointer (some ⟨d.cb,0,none⟩),.pointer (some ⟨d.eb,0,none⟩),.pointer (some ⟨d.tb,0,none⟩),.pointer (some ⟨d.yb,0,none⟩)] W fun e w'=>e=.returned (.bool (decide (d.rat < d.en)))∧Below W.heap.size W w':=by
 have HS:=zh h
 have HCK:=zh ho.ck
 have h1:=ho.e
 have h2:=ho.r
 clear h ho
 obtain⟨num,ho,ca,am,asked,en,key,rat,c2,c3,c4,ia,ic,ka,kn,kc,sb,yb,cb,tb,eb,fb⟩:=d
 simp only at HCK h1 h2 ⊢
 have e1:IntKind.i64.wrap (en - 1)=en - 1:=IntWalk.i64_in _ (by omega)
 have hmin:min (en - 1) en=en - 1:=by omega
 have HWI:Hid (∀ W,Calls Tryz.prog 42 #[.int .i64 rat,.int .i64 asked,.int .i64 (en - 1)] W fun e w'=>e=.returned (.bool (decide (rat < en)))∧w'=W):=zh (fun W=>by
  have h:=withR_any rat asked (en - 1) W
  rw[show decide (asked≤rat∧rat≤en - 1)=decide (rat < en)from by rw[Bool.eq_iff_iff];simp;omega]at h
  exact h)
 obtain⟨tm,htm⟩:∃ tm,tm=decide (rat < en):=⟨_,rfl⟩
 rw[← htm]at HWI ⊢
 clear htm h1 h2
 obtain⟨W1,hW1⟩:∃ W1,W1=W.alloc (.cells #[.int .i64 rat,.int .i64 ca,.int .i64 c2,.string c3,.string c4,.slice ia 1 ic] 78):=⟨_,rfl⟩
 have HBW1:Hid (Below W.heap.size W W1):=zh (by rw[hW1];exact br0.alloc (Nat.le_refl _) _)
 have HXW1:Hid (W1.heap[W.heap.size]?=some (.cells #[.int .i64 rat,.int .i64 ca,.int .i64 c2,.string c3,.string c4,.slice ia 1 ic] 78 (0,0))):=zh (by rw[hW1];exact heap_alloc_new W _)
 have hsW1:Hid (W1.heap.size=W.heap.size+1):=zh (by rw[hW1];simp)
 have HWW1:=zh hW1
 clear hW1
 have HS1:=zh (HS.out.step HBW1.out)
 obtain⟨r0,r1,r2,r3,r4,r5⟩:=six_cellsR HXW1.out
 obtain⟨a0,a1,a2,a3,a4⟩:=five_cells HS1.out.c
 have t0:=cell_of_row W1 _ 0 _ _ _ HS1.out.t
 have e0:=cell_of_row W1 _ 0 _ _ _ HS1.out.e
 have k0:=cell_of_row W1 _ 0 _ _ _ HS1.out.k
 simp only at a0 a1 a2 a3 a4 t0 e0 k0
 have HC1:=zh (HCK.out W1 HS1.out.b)
 clear HS HCK
 go_enter Tryz.func48,Tryz.ntmps48
 go_upto_region 1 with fail
 rw[← HWW1.out]
 clear HWW1
 cases tm with
 | true =>
  go_wp2_with (first | (go_at_call 42;(with_reducible refine(HWI.out _).mono ?_);rintro e w' ⟨rfl,hw'⟩;replace hw':=hw'.symm;subst hw') | (go_at_call 49;(with_reducible refine HC1.out.mono ?_);rintro e w2 ⟨rfl,hb2⟩;have HB2:=zh hb2;clear hb2))
  go_ret
  exact⟨rfl,q_next HBW1.out HB2.out⟩
 | false =>
  go_wp2_with (go_at_call 42;(with_reducible refine(HWI.out _).mono ?_);rintro e w' ⟨rfl,hw'⟩;replace hw':=hw'.symm;subst hw')
  go_ret
  exact⟨rfl,HBW1.out⟩
end Go.Proofs.YtjjiikeldpjafaaGreatDoor
