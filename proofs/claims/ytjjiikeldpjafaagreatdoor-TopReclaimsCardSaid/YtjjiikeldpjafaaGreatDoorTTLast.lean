/- TopReclaims: the statement's card. The conditions are those of the statement. -/
import Derived.SevenTiedAt
import Derived.Test.YtjjiikeldpjafaaGreatDoorCards
import Derived.Test.YtjjiikeldpjafaaGreatDoorTie
import Derived.Test.YtjjiikeldpjafaaGreatDoorTT31
namespace Go.Proofs.YtjjiikeldpjafaaGreatDoor.lawTopReclaims
open Go.ChangeShapes Go.WideShapes Go.ChangeAt Go.RowKit
theorem own:ownKnob Tryz.prog.godebug=none:=by kernel_rfl
theorem gTab:Tryz.prog.globalNamed "dialtone/digest.round"=some 0:=by kernel_rfl
theorem gTabType:(Tryz.prog.globals[0]?).map (·.type)=some 313:=by kernel_rfl
theorem cellsTab:Tryz.prog.cellsOf 313=64:=by kernel_rfl
theorem cellsU32:Tryz.prog.cellsOf 156=1:=by kernel_rfl
theorem cellsInt:Tryz.prog.cellsOf 3=1:=by kernel_rfl
theorem cellsPair:Tryz.prog.cellsOf 22=2:=by kernel_rfl
theorem cellsInt4:Tryz.prog.cellsOf 26=4:=by kernel_rfl
theorem cellsInt5:Tryz.prog.cellsOf 143=5:=by kernel_rfl
theorem cellsInt5s:Tryz.prog.cellsOf 23=1:=by kernel_rfl
theorem cellsNumbers:Tryz.prog.cellsOf 25=8:=by kernel_rfl
theorem kids:Kids Tryz.prog (· < Tryz.prog.types.size):=kids_rows (by kernel_rfl) (by kernel_rfl)
theorem full:∀ t e,t < Tryz.prog.types.size→Tryz.prog.underlying t=some (.slice e)→0 < Tryz.prog.cellsOf e:=slices_full_of Tryz.prog (by kernel_rfl)
theorem inTable:∀ t∈Tryz.f3.params.toList,t < Tryz.prog.types.size:=by
 rw[Tryz.params3]
 exact of_decide_eq_true (by kernel_rfl)
theorem table {W:World}(h:laidMetH Tryz.prog Rows.topReclaimsRow.laid W):Lib.TabIs Tryz.prog W "dialtone/digest.round" .u32 (kN.map fun n:Nat=>(n:Int)) :=
 Lib.tabIs_of_head (rest:=[]) gTab gTabType Tryz.underlying313 Tryz.underlying156 cellsU32 cellsTab h
theorem env {W:World}(h:laidMetH Tryz.prog Rows.topReclaimsRow.laid W):Env W∧0 < W.heap.size:=by
 have hc:∀ j,j < 64→W.cell? ⟨0,j,none⟩=some (.int .u32 (kN.getD j 0:Nat)):=fun j hj=>by
  have h1:=(table h).cell gTab j (by rw[List.length_map];exact hj)
  rw[h1]
  congr 2
  rw[List.getD_eq_getElem?_getD,List.getElem?_map,List.getD_eq_getElem?_getD]
  cases kN[j]? <;> rfl
 refine⟨fun j v hv=>?_,World.block_lt_of_cell? W _ (hc 0 (by omega))⟩
 have hj:j < 64:=by
  have:=(List.getElem?_eq_some_iff.1 hv).1
  rw[Array.length_toList,ucells_size]at this
  exact this
 rw[Nat.zero_add,hc j hj,← hv,Array.getElem?_toList,ucells_get 64 _ j hj]
 rfl
set_option maxRecDepth 100000 in
theorem contract (H:Type)(enc:TypeId × Value→H)(W:World)(base:Nat)(args:Array Value)(ds gs:List (DataW H))(before:List MemPlace)
  (hval:∀(j:Nat) t v,Tryz.f3.params[j]?=some t→args[j]?=some v→Value.okWide Tryz.prog W .any base t v)
  (hW:DataW.Whole enc Tryz.prog Tryz.f3.params.toList Rows.topReclaimsSpec.vars false W args.toList ds gs before) (hL:laidMetH Tryz.prog Rows.topReclaimsRow.laid W) :
  Calls Tryz.prog 3 args W fun e W'=>∃ v,e=.returned v∧Rows.topReclaimsSpec.post enc Tryz.prog Tryz.f3 false true false false W args v W':=by
 have hW':=hW
 obtain⟨p,q,hA0,hV,rfl,hfz,hnd⟩:=hW
 have hA:DataW.TrodAll enc Tryz.prog W 0 (fun _=>true) true Tryz.f3.params.toList args.toList ds p:=hA0
 have hagain:=hA
 obtain⟨rfl,rfl⟩:=trodVars_none hV
 rw[Tryz.params3]at hA hval
 obtain⟨v0,vs0,d0,ds0,p0,q0,hargs0,rfl,rfl,h0,r0⟩:=trodAll_cons hA
 obtain⟨v1,vs1,d1,ds1,p1,q1,hargs1,rfl,rfl,h1,r1⟩:=trodAll_cons r0
 obtain⟨v2,vs2,d2,ds2,p2,q2,hargs2,rfl,rfl,h2,r2⟩:=trodAll_cons r1
 obtain⟨v3,vs3,d3,ds3,p3,q3,hargs3,rfl,rfl,h3,r3⟩:=trodAll_cons r2
 obtain⟨v4,vs4,d4,ds4,p4,q4,hargs4,rfl,rfl,h4,r4⟩:=trodAll_cons r3
 obtain⟨v5,vs5,d5,ds5,p5,q5,hargs5,rfl,rfl,h5,r5⟩:=trodAll_cons r4
 obtain⟨v6,vs6,d6,ds6,p6,q6,hargs6,rfl,rfl,h6,r6⟩:=trodAll_cons r5
 obtain⟨v7,vs7,d7,ds7,p7,q7,hargs7,rfl,rfl,h7,r7⟩:=trodAll_cons r6
 obtain⟨v8,vs8,d8,ds8,p8,q8,hargs8,rfl,rfl,h8,r8⟩:=trodAll_cons r7
 obtain⟨rfl,rfl,rfl⟩:=trodAll_nil r8
 subst hargs8
 subst hargs7
 subst hargs6
 subst hargs5
 subst hargs4
 subst hargs3
 subst hargs2
 subst hargs1
 obtain rfl:args=#[v0,v1,v2,v3,v4,v5,v6,v7,v8]:=by cases args;simp_all
 simp only[List.append_nil]at hW' hagain
 obtain⟨n0h,n0a,n0b,n0c,n0d,n0e,n0f,u0,ys0,rfl,ix0,hy0,hz0⟩:=numbers_open (P:=Tryz.prog) Tryz.underlying25 ⟨rfl,rfl⟩ ⟨rfl,rfl⟩ ⟨rfl,rfl⟩ ⟨rfl,rfl⟩ ⟨rfl,rfl⟩ ⟨rfl,rfl⟩ Tryz.underlying3 Tryz.underlying22 Tryz.underlying23 Tryz.underlying143 cellsInt cellsPair cellsInt5s cellsInt5 cellsNumbers (hval 0 25 v0 rfl rfl) h0
 obtain⟨x1,rfl,rfl,rfl,ix1⟩:=open_i64 Tryz.underlying3 (hval 1 3 v1 rfl rfl) h1
 obtain⟨x2,rfl,rfl,rfl,ix2⟩:=open_i64 Tryz.underlying3 (hval 2 3 v2 rfl rfl) h2
 obtain⟨x3,rfl,rfl,rfl,ix3⟩:=open_i64 Tryz.underlying3 (hval 3 3 v3 rfl rfl) h3
 obtain⟨x4a,x4b,x4c,x4d,rfl,ix4⟩:=four_open (P:=Tryz.prog) Tryz.underlying26 Tryz.underlying3 cellsInt cellsInt4 (hval 4 26 v4 rfl rfl) h4
 obtain⟨x5,rfl,rfl,rfl,ix5⟩:=open_i64 Tryz.underlying3 (hval 5 3 v5 rfl rfl) h5
 obtain⟨x6,rfl,rfl,rfl,ix6⟩:=open_i64 Tryz.underlying3 (hval 6 3 v6 rfl rfl) h6
 obtain⟨x7,rfl,rfl,rfl,ix7⟩:=open_i64 Tryz.underlying3 (hval 7 3 v7 rfl rfl) h7
 obtain⟨x8,rfl,rfl,rfl,ix8⟩:=open_i64 Tryz.underlying3 (hval 8 3 v8 rfl rfl) h8
 refine(top_walk n0h n0a n0b n0c n0d n0e n0f x1 x2 x3 x4a x4b x4c x4d x5 x6 x7 x8 ix0 ix1 ix2 ix3 ix4 ix5 ix6 ix7 ix8 hy0 hz0 (env hL)).mono fun e W' ⟨he,hb⟩=>?_
 subst he
 have hlt:=fun pl hp=>hW'.lt pl hp
 refine⟨_,rfl,post_below (pv:=[]) hW' (fun _ _ _=>trodAll_cons_mk (shut_bool Tryz.underlying4 _) trodAll_mk0) (fun sp hsp=>?_) (fun _ _=>rfl) (List.append_nil _).symm hb (ok_one (by kernel_rfl) rfl (okWide_bool_mk Tryz.underlying4 _))⟩
 exact(trodAll_below hb hagain hlt).respare kids full inTable hsp
noncomputable def laidWorld (os:Os):World :=
 { World.holding Tryz.prog os ⟨#[],#[],[]⟩with heap:=(World.holding Tryz.prog os ⟨#[],#[],[]⟩).heap.modify 0 fun
   | .cells _ t frozen=>.cells (kN.map fun n:Nat=>Value.int .u32 (n:Int)).toArray t frozen
   | o=>o }
theorem laid_met (os:Os):laidMet Tryz.prog Rows.topReclaimsRow.laid ((laidWorld os).forCall (fun _ _=>0) ⟨#[],#[.agg #[.int .i64 0,.int .i64 0,.int .i64 0,.int .i64 0,.int .i64 0,.int .i64 0,.int .i64 0,.slice none 0 0],.int .i64 0,.int .i64 0,.int .i64 0,.agg #[.int .i64 0,.int .i64 0,.int .i64 0,.int .i64 0],.int .i64 0,.int .i64 0,.int .i64 0,.int .i64 0],[]⟩).memory :=
 laidMet_of_run' 8 (by kernel_rfl) (by kernel_rfl)
theorem reads (os:Os){H:Type}(enc:TypeId × Value→H):∃ places,DataW.whole enc Tryz.prog ((laidWorld os).forCall (fun _ _=>0) ⟨#[],#[.agg #[.int .i64 0,.int .i64 0,.int .i64 0,.int .i64 0,.int .i64 0,.int .i64 0,.int .i64 0,.slice none 0 0],.int .i64 0,.int .i64 0,.int .i64 0,.agg #[.int .i64 0,.int .i64 0,.int .i64 0,.int .i64 0],.int .i64 0,.int .i64 0,.int .i64 0,.int .i64 0],[]⟩).memory Tryz.f3.params.toList Rows.topReclaimsSpec.vars false (#[.agg #[.int .i64 0,.int .i64 0,.int .i64 0,.int .i64 0,.int .i64 0,.int .i64 0,.int .i64 0,.slice none 0 0],.int .i64 0,.int .i64 0,.int .i64 0,.agg #[.int .i64 0,.int .i64 0,.int .i64 0,.int .i64 0],.int .i64 0,.int .i64 0,.int .i64 0,.int .i64 0]:Array Value).toList 8=some ([.agg [.lit (.int .i64 0),.agg [.lit (.int .i64 0),.lit (.int .i64 0)],.agg [.lit (.int .i64 0),.lit (.int .i64 0)],.lit (.int .i64 0),.lit (.int .i64 0),.nil],.lit (.int .i64 0),.lit (.int .i64 0),.lit (.int .i64 0),.agg [.lit (.int .i64 0),.lit (.int .i64 0),.lit (.int .i64 0),.lit (.int .i64 0)],.lit (.int .i64 0),.lit (.int .i64 0),.lit (.int .i64 0),.lit (.int .i64 0)],[],places) :=
 ⟨[],by kernel_rfl⟩
set_option maxRecDepth 100000 in
theorem lifted (os:Os)(started:os.Started)(H:Type)(enc:TypeId × Value→H)(F:Stop.Interp) :
  ReturnsInHanded {} Tryz.checked os 3 .any ((OpenSpec.ofChange Rows.topReclaimsSpec).preRow enc Tryz.prog Tryz.f3 Rows.topReclaimsRow.domain false Rows.topReclaimsRow.laid) (((OpenSpec.ofChange Rows.topReclaimsSpec).at F).post enc Tryz.prog Tryz.f3 false true false false):=by
 obtain⟨places,hx⟩:=reads os enc
 refine returnsInHanded_of_row (C:=Tryz.checked) (s:=OpenSpec.ofChange Rows.topReclaimsSpec) own started (by kernel_rfl) Tryz.func3
  (witness_row_at (enc:=enc) (C:=Tryz.checked) false (laidWorld os) #[.agg #[.int .i64 0,.int .i64 0,.int .i64 0,.int .i64 0,.int .i64 0,.int .i64 0,.int .i64 0,.slice none 0 0],.int .i64 0,.int .i64 0,.int .i64 0,.agg #[.int .i64 0,.int .i64 0,.int .i64 0,.int .i64 0],.int .i64 0,.int .i64 0,.int .i64 0,.int .i64 0] rfl (by kernel_rfl) (by kernel_rfl) (by kernel_rfl)
   (OpenSpec.preRow_of_cond 8 hx (by kernel_rfl) (fun k hk=>by cases hk) (by kernel_rfl) (laid_met os))) ?_
 intro W base args ds gs before hval hW _ _ _ hL _ _
 exact contract H enc W base args ds gs before hval hW hL
theorem said:Rows.TopReclaimsSaid :=
 OpenClaim.holds_of_cond 3 Tryz.f3 rfl rfl rfl rfl rfl rfl rfl ⟨rfl,rfl,rfl,rfl,rfl⟩ rfl rfl rfl rfl rfl (by kernel_rfl) Tryz.func3 (by kernel_rfl)
  (of_decide_eq_true (by kernel_rfl)) (by unfold Func.isWrapper;first | (rw[if_pos (by decide +kernel)];kernel_rfl) | (rw[if_neg (by decide +kernel)];exact⟨rfl,rfl⟩))
  (fun os started H enc _ F=>by rw[OpenClaim.pre_eq_preRow];exact lifted os started H enc F)
theorem plain (f:FuncId)(fn:Func)(hf:Tryz.pinned.checked.prog.funcNamed "dialtone/dialtonetop.TopReclaims"=some f) (hfn:Tryz.pinned.checked.prog.funcs[f]?=some fn) :
  true=Tryz.pinned.checked.prog.looks []∧∀(j:Nat) t,fn.params[j]?=some t→Tryz.pinned.checked.prog.wantsStandIn t=false:=by
 obtain rfl:f=3:=Option.some.inj ((show Tryz.prog.funcNamed "dialtone/dialtonetop.TopReclaims"=some 3 by kernel_rfl).symm.trans hf) |>.symm
 obtain rfl:fn=Tryz.f3:=(Option.some.inj (Tryz.func3.symm.trans hfn)).symm
 refine⟨by kernel_rfl,fun j t ht=>?_⟩
 have hm:=Array.mem_of_getElem? ht
 rw[Tryz.params3]at hm
 have ha:∀ t∈(#[25,3,3,3,26,3,3,3,3]:Array TypeId),Tryz.prog.wantsStandIn t=false:=by
  intro t ht
  simp at ht
  rcases ht with rfl | rfl | rfl | rfl
  all_goals kernel_rfl
 exact ha t hm
theorem card:Rows.TopReclaimsCardSaid :=
 Claim7.holds_tied_plain_at .later [] _ _ _ _ said (fun _ h=>by cases h) (by kernel_rfl) (fun _ h=>by cases h) topReclaims_row_tie rfl ⟨rfl,rfl⟩ (by kernel_rfl) rfl plain (by kernel_rfl)
end Go.Proofs.YtjjiikeldpjafaaGreatDoor.lawTopReclaims
