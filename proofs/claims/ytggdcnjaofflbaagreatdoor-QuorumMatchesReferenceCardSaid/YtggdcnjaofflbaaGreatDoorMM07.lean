/- Encodings of votes: no two formed votes have one content; the length of an encoding. No condition. -/
import Derived.Test.YtggdcnjaofflbaaGreatDoorMM06
namespace Go.Proofs.YtggdcnjaofflbaaGreatDoor
theorem formed_facts {v:VoteP}(h:formedV v=true):(0≤v.car∧v.car≤7)∧(0≤v.num∧v.num≤99999999)∧(0≤v.stp∧v.stp≤1000)∧v.val.size=32∧v.sl.size=32:=of_decide_eq_true h
theorem grp_len (f z:Nat):1≤(grp f z).length∧(grp f z).length≤f+1:=by
 induction f generalizing z with
 | zero=>simp[grp]
 | succ f ih =>
  unfold grp
  split
  ·simp
  ·have:=ih (z / 128)
   simp only[List.length_cons]
   omega
def encV (v:VoteP):ByteArray:=voteC v++v.sl
theorem voteC_size (v:VoteP):(voteC v).size=(putN 5).length+(putN v.car).length+(putN v.num).length+(putN v.stp).length+v.val.size:=by
 unfold voteC
 show(List.toArray _).size=_
 simp
 have:v.val.data.size=v.val.size:=rfl
 omega
end Go.Proofs.YtggdcnjaofflbaaGreatDoor
/- Walks of package quorum: isIn, isDigest, enough, isFormed, areOne. No condition but lengths. -/
namespace Go.Proofs.YtggdcnjaofflbaaGreatDoor
open Go.RowKit Go.BigFrame
set_option maxHeartbeats 400000 in
theorem isIn_any (n lo hi:Int)(w:World) :
  Calls Tryz.prog 90 #[.int .i64 n,.int .i64 lo,.int .i64 hi] w fun e w'=>e=.returned (.bool (decide (lo≤n∧n≤hi)))∧w'=w:=by
 by_cases h1:lo≤n
 ·have hd:decide (lo≤n)=true:=decide_eq_true h1
  go_enter Tryz.func90,Tryz.ntmps90
  go_wp2
  go_ret
  refine⟨ret_bool ?_,rfl⟩
  rw[Bool.eq_iff_iff]
  simp
  try omega
 ·have hd:decide (lo≤n)=false:=decide_eq_false h1
  go_enter Tryz.func90,Tryz.ntmps90
  go_wp2
  go_ret
  refine⟨ret_bool ?_,rfl⟩
  simp
set_option maxHeartbeats 400000 in
theorem qDigest_any (s:ByteArray)(w:World):Calls Tryz.prog 98 #[.string s] w fun e w'=>e=.returned (.bool (decide (s.size=32)))∧w'=w:=by
 go_enter Tryz.func98,Tryz.ntmps98
 go_wp2
 go_ret
 refine⟨ret_bool ?_,rfl⟩
 rw[Bool.eq_iff_iff]
 simp
 try omega
theorem qvalid1_fn:PredFn 97 (fun s=>!decide (s.size=32)):=by
 refine⟨fun _ _=>by kernel_rfl,fun s w=>?_⟩
 go_enter Tryz.func97,Tryz.ntmps97
 go_wp2_with (go_at_call 98;refine(qDigest_any _ _).mono ?_;rintro e w1 ⟨rfl,rfl⟩)
 go_ret
 exact⟨rfl,rfl⟩
set_option maxHeartbeats 400000 in
theorem enough_any (a:Option Addr)(n c:Nat)(w:World)(hn:n≤1000) :
  Calls Tryz.prog 79 #[.agg #[.slice a n c]] w fun e w'=>e=.returned (.int .i64 ((2*((n - 1) / 3)+1:Nat):Int))∧w'=w.alloc (.cells #[.slice a n c] 31):=by
 go_enter Tryz.func79,Tryz.ntmps79
 go_wp2
 go_ret
 refine⟨?_,rfl⟩
 have t:((n:Int) - 1).tdiv 3=(((n - 1) / 3:Nat):Int):=by
  rcases Nat.eq_zero_or_pos n with rfl | h
  ·rfl
  ·have e:(n:Int) - 1=((n - 1:Nat):Int):=by omega
   rw[e]
   rfl
 have h1:wrap64 (2*((n:Int) - 1).tdiv 3)=((2*((n - 1) / 3):Nat):Int):=by
  rw[t,IntWalk.wrap64_in _ ⟨by omega,by omega⟩]
  omega
 have h2:wrap64 (wrap64 (2*((n:Int) - 1).tdiv 3)+1)=((2*((n - 1) / 3)+1:Nat):Int):=by
  rw[h1,IntWalk.wrap64_in _ ⟨by omega,by omega⟩]
  omega
 exact congrArg (fun x=>Ending.returned (Value.int .i64 x)) h2
set_option maxHeartbeats 1000000 in
theorem isFormed_any (v:VoteP)(w:World) :
  Calls Tryz.prog 62 #[.agg #[.int .i64 v.car,.int .i64 v.num,.int .i64 v.stp,.string v.val,.string v.sl]] w fun e w'=>e=.returned (.bool (formedV v))∧w'=w.alloc (.cells #[.int .i64 v.car,.int .i64 v.num,.int .i64 v.stp,.string v.val,.string v.sl] 27):=by
 obtain⟨car,num,stp,val,sl⟩:=v
 have e:formedV ⟨car,num,stp,val,sl⟩=(decide (0≤car∧car≤7) && (decide (0≤num∧num≤99999999) && (decide (0≤stp∧stp≤1000) && (decide (val.size=32) && decide (sl.size=32))))):=by
  unfold formedV
  rw[Bool.eq_iff_iff]
  simp
 rw[e]
 have H1:=zh (isIn_any car 0 7)
 have H2:=zh (isIn_any num 0 99999999)
 have H3:=zh (isIn_any stp 0 1000)
 have H4:=zh (qDigest_any val)
 have H5:=zh (qDigest_any sl)
 generalize decide (0≤car∧car≤7)=b1 at *
 generalize decide (0≤num∧num≤99999999)=b2 at *
 generalize decide (0≤stp∧stp≤1000)=b3 at *
 generalize decide (val.size=32)=b4 at *
 generalize decide (sl.size=32)=b5 at *
 clear e
 cases b1 <;> cases b2 <;> cases b3 <;> cases b4 <;>
 ·go_enter Tryz.func62,Tryz.ntmps62
  go_wp2_with (first | (go_at_call 90;(first | (with_reducible refine(H1.out _).mono ?_) | (with_reducible refine(H2.out _).mono ?_) | (with_reducible refine(H3.out _).mono ?_));rintro e w1 ⟨rfl,rfl⟩) | (go_at_call 98;(first | (with_reducible refine(H4.out _).mono ?_) | (with_reducible refine(H5.out _).mono ?_));rintro e w1 ⟨rfl,rfl⟩))
  go_ret
  exact⟨rfl,rfl⟩
end Go.Proofs.YtggdcnjaofflbaaGreatDoor
/- strings.Builder's methods at a builder that lies in a block of its own: copyCheck, WriteString, String. The conditions: what the builder holds, lengths. -/
namespace Go.Proofs.YtggdcnjaofflbaaGreatDoor
open Go.RowKit Go.BigFrame Go.Shelf
theorem qBuilderSize:(Tryz.prog.info? 177).map (·.size)=some 2:=by kernel_rfl
theorem qBuilderLies:liesAt Tryz.prog Tryz.prog.depth 177 (2 / Tryz.prog.cellsOf 177) 0 177 1=true:=by kernel_rfl
set_option maxHeartbeats 1000000 in
set_option maxRecDepth 100000 in
theorem qCopyCheck_used (b:Nat)(w:World)(h0:w.cell? ⟨b,0,none⟩=some (.pointer (some ⟨b,0,none⟩))) :
  Calls Tryz.prog 165 #[.pointer (some ⟨b,0,none⟩)] w fun e w'=>e=.returned (.tuple #[])∧w'=w:=by
 obtain⟨j,hj,_⟩:=Option.map_eq_some_iff.1 qBuilderSize
 go_enter Tryz.func165,Tryz.ntmps165
 go_wp2
 rw[Lib.run_neq_ptr_same w _ Tryz.underlying175 hj]
 go_wp2
 go_end0
 exact⟨rfl,rfl⟩
set_option maxHeartbeats 1000000 in
set_option maxRecDepth 100000 in
theorem qCopyCheck_fresh (b:Nat)(w:World)(h0:w.cell? ⟨b,0,none⟩=some (.pointer none))(hsh:w.shape? b=some (177,2))(hfz:w.frozen? ⟨b,0,none⟩=false) :
  Calls Tryz.prog 165 #[.pointer (some ⟨b,0,none⟩)] w fun e w'=>e=.returned (.tuple #[])∧w'=w.setCell ⟨b,0,none⟩ (.pointer (some ⟨b,0,none⟩)):=by
 obtain⟨j,hj,hjs⟩:=Option.map_eq_some_iff.1 qBuilderSize
 go_enter Tryz.func165,Tryz.ntmps165
 go_wp2
 rw[Lib.run_to_unsafe w ⟨b,0,none⟩ Tryz.underlying175 Tryz.underlying225 hj (by rw[hjs];decide) hsh (Nat.zero_lt_succ 1)]
 simp only[Result.andThen]
 rw[Oper.upon_value]
 go_wp2
 rw[run_callFunc_extern Tryz.func188 (by kernel_rfl) (by kernel_rfl) (by kernel_rfl) (e:=Extern.AbiNoEscape.same) (by kernel_rfl)]
 rw[Lib.run_noEscape]
 simp only[Result.andThen]
 rw[Oper.upon_value]
 go_wp2
 rw[Lib.run_from_unsafe w ⟨b,0,none⟩ Tryz.underlying225 Tryz.underlying175 hj hsh qBuilderLies]
 simp only[Result.andThen]
 rw[Oper.upon_value]
 go_wp2
 go_end0
 exact⟨rfl,rfl⟩
theorem qCopyCheck_any (B b:Nat)(bs:List Value)(w:World)(h:Lib.IsBuilder 177 5 B b bs w) :
  Calls Tryz.prog 165 #[.pointer (some ⟨b,0,none⟩)] w fun e w'=>e=.returned (.tuple #[])∧(Lib.BuilderAt 177 5 B b (.pointer (some ⟨b,0,none⟩)) bs w'∧Below B w w'):=by
 rcases h with h | h
 ·refine(qCopyCheck_fresh b w h.cell0 h.shape h.frozen0).mono ?_
  rintro e w' ⟨rfl,rfl⟩
  exact⟨rfl,h.used _,(Below.refl B w).setCell (p:=⟨b,0,none⟩) h.1 _⟩
 ·refine(qCopyCheck_used b w h.cell0).mono ?_
  rintro e w' ⟨rfl,rfl⟩
  exact⟨rfl,h,Below.refl B _⟩
set_option maxHeartbeats 2000000 in
set_option maxRecDepth 100000 in
theorem qWriteString_any (B b:Nat)(bs:List Value)(s:ByteArray)(w:World)(h:Lib.IsBuilder 177 5 B b bs w)(hlen:bs.length+s.size≤140737488355328)(hBw:B≤w.heap.size) :
  Calls Tryz.prog 143 #[.pointer (some ⟨b,0,none⟩),.string s] w fun e w'=>e=.returned (.tuple #[.int .i64 s.size,.nilIface])∧(Lib.BuilderAt 177 5 B b (.pointer (some ⟨b,0,none⟩)) (bs++Lib.strCells s) w'∧Below B w w'):=by
 obtain⟨i0,hi,hz0,hz1,hz2⟩:=info_parts infoByte
 go_enter Tryz.func143,Tryz.ntmps143
 go_wp2_with (go_at_call 165;refine(qCopyCheck_any B b bs _ h).mono ?_)
 rintro e w1 ⟨rfl,h1,hb1⟩
 obtain⟨hB,v,hbk,hown,hne⟩:=h1
 have c0:w1.cell? ⟨b,0,none⟩=some (.pointer (some ⟨b,0,none⟩)):=by rw[Lib.cell_of_heap hbk];rfl
 have c1:w1.cell? ⟨b,1,none⟩=some v:=by rw[Lib.cell_of_heap hbk];rfl
 go_wp2_with (at_builtin;refine Lib.wpList_append_own_string _ rfl _ _ 80 9 rfl B 5 i0 (by kernel_rfl) (by kernel_rfl) hi hz0 hz1 hz2 _ _ _ rfl hown s rfl ?c3 ?c4 ?c5 ?_)
 case c3=>unfold maxLen;omega
 case c4=>omega
 case c5=>have:=hb1.size;omega
 intro v' w2 hown' hgrow _
 have hlt:b < w1.heap.size:=by
  rcases Nat.lt_or_ge b w1.heap.size with h' | h'
  ·exact h'
  ·simp[Array.getElem?_eq_none h']at hbk
 have hb2:w2.heap[b]?=some (.cells #[.pointer (some ⟨b,0,none⟩),v] 177 (0,0)):=by
  rw[hgrow.block b hlt (fun e=>hne e.symm)]
  exact hbk
 have d0:w2.cell? ⟨b,0,none⟩=some (.pointer (some ⟨b,0,none⟩)):=by rw[Lib.cell_of_heap hb2];rfl
 have d1:w2.cell? ⟨b,1,none⟩=some v:=by rw[Lib.cell_of_heap hb2];rfl
 have f1:w2.frozen? ⟨b,1,none⟩=false:=Lib.frozen_of_heap hb2 1
 obtain⟨ao,n',cap,rfl⟩:∃ ao n' cap,v'=.slice ao n' cap:=by
  rcases hown'.2 with⟨hv,_⟩ | ⟨g,cap,cur,hv,_⟩
  ·exact⟨_,_,_,hv⟩
  ·exact⟨_,_,_,hv⟩
 go_wp2
 go_ret2
 refine⟨rfl,?_,?_⟩
 ·exact Lib.BuilderAt.put (T:=177) (e:=5) hB hb2 (bs':=bs++Lib.strCells s) (by simpa [Lib.strCells_length]using hown') (by decide)
 ·exact(hb1.grown hgrow (by have:=hb1.size;omega) (fun k hk=>(hown.lt k hk).1)).setCell (p:=⟨b,1,none⟩) hB _
set_option maxHeartbeats 1000000 in
set_option maxRecDepth 100000 in
theorem qBstring_any (B b:Nat)(l:List UInt8)(w:World)(h:Lib.BuilderAt 177 5 B b (.pointer (some ⟨b,0,none⟩)) (Lib.byteCells l) w)(h0:l≠[]) :
  Calls Tryz.prog 144 #[.pointer (some ⟨b,0,none⟩)] w fun e w'=>e=.returned (.string ⟨l.toArray⟩)∧Below B w w':=by
 obtain⟨hB,v,hbk,hown,hne⟩:=h
 have hl0:l.length≠0:=by simpa using h0
 rw[Lib.byteCells_length]at hown
 obtain⟨g,cap,cur,rfl,hbg,hg,hnc,hcm,hcs,htake⟩:∃ g cap cur,v=.slice (some ⟨g,0,none⟩) l.length cap∧B≤g∧w.heap[g]?=some (.cells cur 5 (0,0))∧l.length≤cap∧cap≤maxLen∧cur.size=cap*1∧cur.toList.take (l.length*1)=Lib.byteCells l:=by
  rcases hown.2 with⟨_,hz⟩ | ⟨g,cap,cur,hv,r⟩
  ·exact absurd hz hl0
  ·exact⟨g,cap,cur,hv,r⟩
 have c1:w.drew.cell? ⟨b,1,none⟩=some (.slice (some ⟨g,0,none⟩) l.length cap):=by
  have:w.drew.heap[b]?=some (.cells #[.pointer (some ⟨b,0,none⟩),.slice (some ⟨g,0,none⟩) l.length cap] 177 (0,0)):=hbk
  rw[Lib.cell_of_heap this];rfl
 have hSD:(Builtin.unsafeSliceData_ #[80] 202 #[.slice (some ⟨g,0,none⟩) l.length cap]).run Tryz.prog w.drew=.ok (.pointer (some ⟨g,0,none⟩)) w.drew :=
  Lib.run_unsafeSliceData_row _ _ _ _ _ _ (by omega)
 have hUS:(Builtin.unsafeString_ #[202,3] 9 #[.pointer (some ⟨g,0,none⟩),.int .i64 l.length]).run Tryz.prog w.drew=.ok (.string ⟨l.toArray⟩) (w.drew.freeze ⟨g,0,none⟩ l.length):=by
  refine Lib.run_unsafeString_row w.drew 202 3 9 5 (by kernel_rfl) (by kernel_rfl) g cur.size (by have hg':w.drew.heap[g]?=some (.cells cur 5 (0,0)):=hg;simp[World.shape?,hg']) l h0 (by omega) (by unfold maxLen at hcm;omega) ?_
  intro j x hx
  have:=hown.cells (g:=g) rfl j (.int .u8 x.toNat) (by simp[Lib.byteCells,hx])
  exact this
 go_enter Tryz.func144,Tryz.ntmps144
 go_wp2
 go_region
 all_goals (go_wp2;go_ret;exact⟨rfl,Lib.below_freeze (Below.drew (Below.refl B w)) (p:=⟨g,0,none⟩) hbg _⟩)
end Go.Proofs.YtggdcnjaofflbaaGreatDoor
/- The iterator over the groups of seven bits of a number. The condition: the number is below 2^28. -/
namespace Go.Proofs.YtggdcnjaofflbaaGreatDoor
open Go.RowKit Go.BigFrame Go.Shelf
attribute [local go_sem] Oper.semAt_some
abbrev Grp:={ p:Nat × Bool // p.1 < 128 }
def Grp.enc (x:Grp):Array Value:=#[.int .u8 (x.1.1:Nat),.bool x.1.2]
def Grp.byte (x:Grp):UInt8:=UInt8.ofNat (if x.1.2 then x.1.1 else x.1.1+128)
def grpL (fuel:Nat)(z:Nat):List Grp:=match fuel with
 | 0=>[⟨(z % 128,true),Nat.mod_lt _ (by decide)⟩]
 | f+1=>if z < 128 then[⟨(z % 128,true),Nat.mod_lt _ (by decide)⟩]else⟨(z % 128,false),Nat.mod_lt _ (by decide)⟩::grpL f (z / 128)
theorem grpL_bytes:∀(f z:Nat),z < 128 ^ (f+1)→(grpL f z).map Grp.byte=grp f z
 | 0,z,h=>by
  unfold grpL grp Grp.byte
  simp only[List.map_cons,List.map_nil,if_true]
  rw[Nat.mod_eq_of_lt (by simpa using h)]
 | f+1,z,h=>by
  unfold grpL grp
  by_cases hz:z < 128
  ·rw[if_pos hz,if_pos hz]
   unfold Grp.byte
   simp only[List.map_cons,List.map_nil,if_true]
   rw[Nat.mod_eq_of_lt hz]
  ·rw[if_neg hz,if_neg hz,List.map_cons,grpL_bytes f (z / 128) (by rw[Nat.pow_succ]at h;omega)]
   rfl
theorem grpL_ne (f z:Nat):grpL f z≠[]:=by
 cases f <;> unfold grpL <;> (try split) <;> simp
theorem grpL_pos (f z r:Nat)(h:z < 128)(hr:r=z % 128)(hr':r < 128):grpL f z=[⟨(r,true),hr'⟩]:=by
 subst hr
 cases f with
 | zero=>rfl
 | succ f=>rw[grpL,if_pos h]
theorem grpL_neg (f z r q:Nat)(h:¬ z < 128)(hr:r=z % 128)(hr':r < 128)(hq:q=z / 128):grpL (f+1) z=⟨(r,false),hr'⟩::grpL f q:=by
 subst hr hq
 rw[grpL,if_neg h]
theorem and127 (z:Nat)(hz:z < 18446744073709551616):bits BinOp.and IntKind.u64 (z:Int) 127 % 256=((z % 128:Nat):Int):=by
 have h:=u64_and_nat z 127 hz (by decide)
 have e:((127:Nat):Int)=127:=rfl
 rw[e]at h
 rw[h,Nat.and_two_pow_sub_one_eq_mod z 7]
 omega
def u64At (w:World)(b:Nat):Nat:=match w.cell? ⟨b,0,none⟩with
 | some (.int _ n)=>n.toNat
 | _=>0
set_option maxRecDepth 100000 in
set_option maxHeartbeats 1000000 in
theorem groups_iter (b z:Nat)(hz:z < 268435456)(w0:World)(hb:w0.heap[b]?=some (.cells #[.int .u64 z] 144 (0,0))) :
  Iter Tryz.prog 187 #[.pointer (some ⟨b,0,none⟩)] Grp.enc (fun A B=>B.heap[b]?=A.heap[b]?) (some b) (fun xs=>xs=grpL 3 z) (fun _=>True) 4 w0:=by
 intro F m hF hro l J Jx W hW hJ hJx hY h0
 have hbl:b < w0.heap.size:=(ltA hb)
 have hbW:W.heap[b]?=some (.cells #[.int .u64 z] 144 (0,0)):=(hW.block b hbl).trans hb
 have HN:=zh hz
 clear hz hb hW
 refine callsIn_of_wp Tryz.func187 rfl (hF.1 _) ?_ hro
 simp only[Tryz.ntmps187,List.size_toArray,List.length_cons,List.length_nil,Nat.reduceAdd,Nat.reduceSub,Array.replicate_succ,Array.replicate_zero,List.push_toArray,List.append_toArray,List.nil_append,List.cons_append]
 gi_wp2
 gi_loopw [3] (fun u wr=>∃(pre:List Grp) (c f:Nat),f≤3∧Hid (wr.heap[b]?=some (.cells #[.int .u64 (c:Nat)] 144 (0,0)))∧Hid (pre++grpL f c=grpL 3 z∧c < 128 ^ (f+1)∧pre.length+f=3)∧J pre wr) (fun u wr=>u64At wr b)
 case atStart =>
  exact⟨[],z,3,by omega,hbW,⟨rfl,by have:=HN.out;omega,rfl⟩,h0⟩
 case round =>
  obtain⟨pre,c,f,hf3,hcell,hpre,hJs⟩:=hrel
  have c0:wr.cell? ⟨b,0,none⟩=some (.int .u64 (c:Nat)):=cell_of_row wr _ 0 _ _ _ hcell.out
  have cf:wr.frozen? ⟨b,0,none⟩=false:=frozen_of_row _ _ _ _ _ hcell.out
  have hc28:c < 268435456:=Nat.lt_of_lt_of_le hpre.out.2.1 (by
   have:128 ^ (f+1)≤128 ^ (3+1):=Nat.pow_le_pow_right (by decide) (by omega)
   simpa using this)
  obtain⟨r,hr⟩:∃ r,r=c % 128:=⟨_,rfl⟩
  have hr128:r < 128:=by rw[hr];exact Nat.mod_lt _ (by decide)
  have hand:bits BinOp.and IntKind.u64 (c:Int) 127 % 256=(r:Int):=by rw[hr];exact and127 c (by omega)
  have HRr:=zh hr
  clear hr
  have hlen:pre.length < 4:=by have:=hpre.out.2.2;omega
  by_cases hz:c < 128
  ·have hlt:decide ((c:Int) < 128)=true:=decide_eq_true (by omega)
   obtain⟨fn,tmps,assign,body,hy,hR⟩:=hY pre ⟨(r,true),hr128⟩ wr hJs hlen
   dsimp only [Grp.enc]at hy
   have HZ:=zh hz
   clear hz hc28
   gi_wp2
   refine⟨fun h=>(by rw[hF.2.1]at h;cases h),hR.mono ?_⟩
   rintro e W3 (⟨rfl,hJ3,hk3⟩ | ⟨rfl,hJx3⟩)
   ·gi_wp2
    refine bodyPost_ret (results_none rfl _ _ _) rfl ?_
    refine⟨⟨_,rfl⟩,.inl ⟨_,?_,hJ3⟩⟩
    rw[← hpre.out.1]
    refine congrArg (pre++·) ?_
    exact(grpL_pos f c r HZ.out HRr.out hr128).symm
   ·gi_wp2
    refine bodyPost_ret (results_none rfl _ _ _) rfl ?_
    exact⟨⟨_,rfl⟩,.inr ⟨_,trivial,hJx3⟩⟩
  ·have hlt:decide ((c:Int) < 128)=false:=decide_eq_false (by omega)
   obtain⟨f',rfl⟩:∃ f',f=f'+1:=by
    cases f with
    | zero=>exact absurd hpre.out.2.1 (by simpa using hz)
    | succ f'=>exact⟨f',rfl⟩
   have hnext:Hid ((pre++[⟨(r,false),hr128⟩])++grpL f' (c / 128)=grpL 3 z∧c / 128 < 128 ^ (f'+1)∧(pre++[(⟨(r,false),hr128⟩:Grp)]).length+f'=3):=by
    refine zh ⟨?_,?_,?_⟩
    ·rw[← hpre.out.1,List.append_assoc]
     refine congrArg (pre++·) ?_
     exact(grpL_neg f' c r (c / 128) hz HRr.out hr128 rfl).symm
    ·have:=hpre.out.2.1
     rw[Nat.pow_succ]at this
     omega
    ·have:=hpre.out.2.2
     simp only[List.length_append,List.length_cons,List.length_nil]
     omega
   obtain⟨fn,tmps,assign,body,hy,hR⟩:=hY pre ⟨(r,false),hr128⟩ wr hJs hlen
   dsimp only [Grp.enc]at hy
   obtain⟨q,hq⟩:∃ q,q=c / 128:=⟨_,rfl⟩
   have hsh:(c:Int) / 128=(q:Int):=by omega
   have hqc:Hid (q < c):=zh (by omega)
   rw[← hq]at hnext
   clear hz hc28 hq
   gi_wp2
   refine⟨fun h=>(by rw[hF.2.1]at h;cases h),hR.mono ?_⟩
   rintro e W3 (⟨rfl,hJ3,hk3⟩ | ⟨rfl,hJx3⟩)
   ·have hcell3:W3.heap[b]?=some (.cells #[.int .u64 (c:Nat)] 144 (0,0)):=hk3.trans hcell.out
    have c3:W3.cell? ⟨b,0,none⟩=some (.int .u64 (c:Nat)):=cell_of_row W3 _ 0 _ _ _ hcell3
    have cf3:W3.frozen? ⟨b,0,none⟩=false:=frozen_of_row _ _ _ _ _ hcell3
    have HC3:=zh hcell3
    clear hcell3 hk3
    gi_wp2
    go_roundw
    case rel =>
     refine⟨_,q,f',by omega,?_,hnext,?_⟩
     ·exact heap_setCell_same _ HC3.out
     ·exact hJ _ _ _ hJ3 (IStep.write HC3.out _)
    case measure =>
     have h1:(W3.setCell ⟨b,0,none⟩ (.int .u64 (q:Nat))).cell? ⟨b,0,none⟩=some (.int .u64 (q:Nat)) :=
      cell_of_row _ _ 0 _ _ _ (heap_setCell_same _ HC3.out)
     show u64At _ b < u64At _ b
     unfold u64At
     rw[h1,c0]
     simpa using hqc.out
   ·gi_wp2
    refine bodyPost_ret (results_none rfl _ _ _) rfl ?_
    exact⟨⟨_,rfl⟩,.inr ⟨_,trivial,hJx3⟩⟩
end Go.Proofs.YtggdcnjaofflbaaGreatDoor
/- wire.PutInt at a number below 2^27. The condition: the bounds. -/
namespace Go.Proofs.YtggdcnjaofflbaaGreatDoor
open Go.RowKit Go.BigFrame Go.Shelf
attribute [local go_sem] Oper.semAt_some
theorem OwnE.grownX {w w':World}{base size:Nat}{e:TypeId}{v:Value}{css:List (List Value)}(h:OwnE w base e size v css){k:Nat}{o:Obj}(hk:w.heap[k]?=some o)(hne:∀ c,o≠.cells c e (0,0))(hg:w.grownBy w' (some k)):OwnE w' base e size v css :=
 World.ownsRow.kept h hg (.inr (fun e'=>own_ne h hk hne e'.symm))
def Grp.nat (x:Grp):Nat:=if x.1.2 then x.1.1 else x.1.1+128
def gcells (pre:List Grp):List (List Value):=pre.map fun x=>[Value.int .u8 (x.nat:Nat)]
theorem Grp.nat_lt (x:Grp):x.nat < 256:=by
 unfold Grp.nat
 have:=x.2
 split <;> omega
theorem strOf_grp (xs:List Grp):strOf (xs.map Grp.nat)=⟨(xs.map Grp.byte).toArray⟩:=by
 unfold strOf
 rw[List.map_map]
 rfl
theorem or128:∀ g:Fin 128,bits BinOp.or IntKind.u8 ((g.val:Nat):Int) 128=((g.val+128:Nat):Int):=by decide +kernel
theorem shr63L (n:Nat)(hn:n < 134217728)(w:World):(Op.shift BinOp.shr IntKind.i64 (n:Int) IntKind.u64 63).run Tryz.prog w=.ok (.int .i64 0) w:=by
 have h:(n:Int).fdiv (2 ^ (min (63:Int).toNat IntKind.i64.bits))=0:=by
  have e:(2:Int) ^ (min (63:Int).toNat IntKind.i64.bits)=9223372036854775808:=by decide
  rw[e,Int.fdiv_eq_ediv_of_nonneg _ (by decide)]
  omega
 unfold Op.shift
 simp only[show ¬ ((63:Int) < 0)from by decide,if_false,h]
 rfl
theorem wpList_shr63L {ops:Array Oper}{rest:List Oper}{o:Oper}{a:Act}{w:World}{Q:Exit→Act→World→Prop}(n:Nat)(hn:n < 134217728)(x y:Operand)(hgd:o.guard=none)(t1 t2:TypeId)(ho:o.op=Op.binOp BinOp.shr t1 x y t2)(hx:a.eval x=.int .i64 n)(hy:a.eval y=.int .u64 63)
  (h:wpList Tryz.prog ops Q rest (a.put o.dst (.int .i64 0)) w):wpList Tryz.prog ops Q (o::rest) a w:=by
 refine wpList_run hgd ?_ h
 unfold execOp
 simp only[ho,hx,hy]
 simp only[go_sem]
 simp[shr63L n hn w]
theorem OwnE.bytes {w:World}{base:Nat}{v:Value}{xs:List Grp}(h:OwnE w base 5 1 v (gcells xs))(hne:xs≠[]):∃ g cap,v=.slice (some ⟨g,0,none⟩) xs.length cap∧∀ j y,(xs.map Grp.nat)[j]?=some y→w.cell? ⟨g,0+j,none⟩=some (.int .u8 (y:Nat)):=by
 have hl:(gcells xs).length=xs.length:=by unfold gcells;rw[List.length_map]
 rcases h.2 with⟨_,h0⟩ | ⟨g,cap,cur,hv,hb,hg,h1,h2,h3,h4⟩
 ·rw[hl]at h0
  exact absurd (List.eq_nil_of_length_eq_zero h0) hne
 ·rw[hl]at hv
  refine⟨g,cap,hv,fun j y hj=>?_⟩
  rw[List.getElem?_map]at hj
  cases hx:xs[j]? with
  | none=>rw[hx]at hj;cases hj
  | some x =>
   rw[hx]at hj
   cases hj
   have e:(gcells xs).flatten=xs.map fun x=>Value.int .u8 (x.nat:Nat):=by
    unfold gcells
    clear h h4 hx hl hne hv h1
    induction xs with
    | nil=>rfl
    | cons a t ih=>rw[List.map_cons,List.flatten_cons,ih];rfl
   have h5:=World.ownsRow.cells (g:=g) h (by rw[hv];rfl) j (.int .u8 (x.nat:Nat)) (by rw[e,List.getElem?_map,hx];rfl)
   rw[Addr.add_mid]at h5
   exact h5
set_option maxHeartbeats 400000 in
set_option maxRecDepth 100000 in
theorem putI_any (n:Nat)(hn:n < 134217728)(w:World) :
  Calls Tryz.prog 142 #[.int .i64 n] w fun e w'=>e=.returned (.tuple #[.string ⟨(putN n).toArray⟩,.int .i64 0])∧Below w.heap.size w w':=by
 have h1:decide ((n:Int) < -4611686018427387903)=false:=decide_eq_false (by omega)
 have h2:decide ((4611686018427387903:Int) < (n:Int))=false:=decide_eq_false (by omega)
 obtain⟨z,hz⟩:∃ z,z=2*n:=⟨_,rfl⟩
 have hz28:z < 268435456:=by omega
 have hxor:bits BinOp.xor IntKind.u64 ((n:Int)*2) 0=(z:Int):=by
  have h:=u64_xor_nat (n*2) 0 (by omega) (by decide)
  rw[Nat.xor_zero]at h
  rw[hz,Nat.mul_comm 2 n,← h]
  rfl
 have hshl:IntKind.u64.wrap ((n:Int)*2)=(n:Int)*2:=by rw[IntKind.wrap_u64];omega
 have hput:Hid (putN (n:Int)=grp 3 z):=zh (by unfold putN;rw[Int.toNat_natCast,hz])
 obtain⟨R,hR⟩:∃ R,R=putN (n:Int):=⟨_,rfl⟩
 rw[← hR]at hput ⊢
 clear hz hR
 refine calls_of_callsIn (n:=8) Wide.wide (callsIn_of_wp_marks Tryz.func142 rfl trivial ?_)
 simp only[Tryz.ntmps142,List.size_toArray,List.length_cons,List.length_nil,Nat.reduceAdd,Nat.reduceSub,Array.replicate_succ,Array.replicate_zero,List.push_toArray,List.append_toArray,List.nil_append,List.cons_append]
 refine wpIn_wide.2 ?_
 go_wp2_with (first | (refine wpList_shr63L n hn (.tmp 16) (.const (.int .u64 63)) rfl _ _ rfl rfl rfl ?_) | (go_at_call 164;(try rw[hxor]);refine(groups_any z _).mono ?_;rintro e w1 ⟨rfl,rfl⟩))
 obtain⟨W5,hW5⟩:∃ W5,W5=(w.alloc (.cells #[.slice none 0 0] 80)).alloc (.cells #[.int .u64 z] 144):=⟨_,rfl⟩
 rw[← hW5]
 have HB0:Hid (W5.heap[w.heap.size]?=some (.cells #[.slice none 0 0] 80 (0,0))):=zh (by rw[hW5];exact at_past w _ _)
 have HB1:Hid (W5.heap[w.heap.size+1]?=some (.cells #[.int .u64 z] 144 (0,0))):=zh (by rw[hW5];exact at_second w _ _)
 have HBw:Hid (Below w.heap.size w W5):=zh (by rw[hW5];exact(br0.alloc (by omega) _).alloc (by simp) _)
 have hs5:W5.heap.size=w.heap.size+2:=by rw[hW5];simp
 obtain⟨b0,hb0⟩:∃ b0,b0=w.heap.size:=⟨_,rfl⟩
 rw[← hb0]at HB0 HB1 hs5 ⊢
 have hwb:w.heap.size≤b0:=by omega
 clear hb0 hW5
 refine(wpIn_wide (n:=8)).1 ?_
 refine wpIn_range (n:=8) Wide.wide rfl (gf:=187) (lb:=#[.pointer (some ⟨b0+1,0,none⟩)]) ?ev (fun args w=>?enter) (groups_iter (b0+1) z hz28 W5 HB1.out) br0 (fun x=>rfl) (fun q e=>by cases e;omega) (fun h h'=>h'.trans h) (fun W l o o' h1 h2 h3 h4=>?kb)
  (fun pre W=>(∃ v,W.heap[b0]?=some (.cells #[v] 80 (0,0))∧(OwnE W w.heap.size 5 1 v (gcells pre)∧∃ c,W.heap[b0+1]?=some (.cells c 144 (0,0))))∧Below w.heap.size w W)
  (fun _ _ _=>False) ?abide (fun _=>abide_false _ _) ⟨⟨_,HB0.out,OwnE.nil _ _ _ _,_,HB1.out⟩,HBw.out⟩ (fun x=>⟨#[Value.int IntKind.i64 n,undef,Value.string ⟨#[]⟩,Value.int IntKind.i64 0,Value.pointer (some ⟨b0,0,none⟩),Value.int IntKind.u8 (x.1.1:Nat),Value.bool x.1.2,Value.int IntKind.i64 n,Value.bool false,Value.bool false,Value.int IntKind.i64 n,Value.bool false,Value.bool false,Value.int IntKind.i64 n,Value.int IntKind.u64 n,Value.int IntKind.u64 ((n:Int)*2),Value.int IntKind.i64 n,Value.int IntKind.i64 0,Value.int IntKind.u64 0,Value.int IntKind.u64 z,Value.func (Fn.func 187) #[] #[Value.pointer (some ⟨b0+1,0,none⟩)],Value.int IntKind.u8 (x.1.1:Nat),Value.bool x.1.2,undef,undef,undef,undef,undef,undef,undef,undef,undef,undef],[]⟩) (fun l x W K hK=>?assign) (fun l pre x W hI hlen=>?body) (fun Dm xs W hDm hS hI hDd=>?done) (fun Dm c pre W hD hS hI=>hI.elim)
 case assign =>
  simp only[Grp.enc,List.zip_toArray,List.zip_cons_cons,List.zip_nil_right,List.foldl_toArray',List.foldl_cons,List.foldl_nil,List.setIfInBounds_toArray,List.set_cons_succ,List.set_cons_zero]
  gi_wp2
  exact hK
 case ev=>rfl
 case enter=>kernel_rfl
 case kb=>exact World.putObj_heap_other (fun e=>by omega)
 case abide=>exact abide_and (abide_ex fun v=>abide_and (abide_cells (fun _=>.cells #[v] 80) (fun _=>rfl) (by simp)) (abide_owns (e:=5) (e':=144) v (fun pre=>(gcells pre).length) (fun pre=>(gcells pre).flatten) (by decide))) (abide_below (by omega) (Nat.le_refl _) (fun q e=>by cases e;omega))
 case body =>
  obtain⟨⟨v,g1,g2,c,g3⟩,g4⟩:=hI
  have hlc:(gcells pre).length < 4:=by unfold gcells;rw[List.length_map];exact hlen
  have hs7:=g4.size
  have c1:W.cell? ⟨b0,0,none⟩=some v:=cell_of_row W _ 0 _ _ _ g1
  have hb0W:b0+1 < W.heap.size:=(ltA g3)
  have hg0:gcells (pre++[x])=gcells pre++[[Value.int .u8 (x.nat:Nat)]]:=by unfold gcells;rw[List.map_append];rfl
  have HG0:=zh hg0
  have G1:=zh g1
  have G2:=zh g2
  have G3:=zh g3
  have G4:=zh g4
  obtain⟨va,vcp,hv⟩:=g2.form
  subst hv
  obtain⟨⟨g,last⟩,hg⟩:=x
  obtain⟨y,hy⟩:∃ y,y=Grp.nat ⟨(g,last),hg⟩:=⟨_,rfl⟩
  rw[← hy]at HG0
  have hor0:last=false→bits BinOp.or IntKind.u8 (g:Int) 128=(y:Int):=fun e=>by rw[hy,e];exact or128 ⟨g,hg⟩
  have hyv:(last=true∧y=g)∨last=false:=by
   rw[hy]
   cases last
   ·exact .inr rfl
   ·exact .inl ⟨rfl,rfl⟩
  clear g1 g2 g3 g4 hg0 hy
  rcases hyv with⟨rfl,rfl⟩ | rfl
  all_goals
   try have hor:=hor0 rfl
   clear hor0
   dsimp only
   gi_wp2_with (refine wpListIn_append_el 80 5 1 1 _ (by kernel_rfl) infoU8 rfl (by decide) rfl (.tmp 27) (.tmp 29) rfl w.heap.size (.slice va (gcells pre).length vcp) (gcells pre) rfl (G2.out.alloc _) W.heap.size [.int .u8 y] rfl (fun u hu=>by rw[List.mem_singleton]at hu;subst hu;rfl) rfl (0,0) (heap_alloc_new _ _) (by unfold maxLen;omega) (by omega) (by simp;omega) ?_;intro v3 w3 ho3 hg3;have HG3:=zh hg3;have HO3:=zh ho3;clear ho3 hg3;have HC3:Hid (w3.heap[b0]?=some (.cells #[.slice va (gcells pre).length vcp] 80 (0,0))):=zh ((HG3.out.block _ (by simp;omega) (own_ne G2.out G1.out (fun c e=>by cases e))).trans ((Below.heap_alloc _ _ _ (by omega)).trans G1.out));have d1:w3.cell? ⟨b0,0,none⟩=some (.slice va (gcells pre).length vcp):=cell_of_row w3 _ 0 _ _ _ HC3.out;have cf1:w3.frozen? ⟨b0,0,none⟩=false:=(by simp[World.frozen?,HC3.out]);obtain⟨a3,cp3,hv3⟩:=HO3.out.form;generalize (gcells pre++[[Value.int IntKind.u8 (y:Nat)]]).length=M3 at hv3;subst hv3)
   have hset:w3.grownBy (w3.setCell ⟨b0,0,none⟩ (.slice a3 M3 cp3)) (some b0):=grown_setCell (grown_refl _ _) _ (.inl rfl) _
   have HK3:Hid (w3.heap[b0+1]?=some (.cells c 144 (0,0))):=zh ((HG3.out.block _ (by simp;omega) (own_ne G2.out G3.out (fun c e=>by cases e))).trans ((Below.heap_alloc _ _ _ (by omega)).trans G3.out))
   have hbw3:Below w.heap.size w w3:=(G4.out.alloc hs7 _).grown HG3.out (by simp;omega) (fun j e=>G2.out.ge j e)
   refine⟨⟨?k1,fun q o hB hq hnc=>?k2⟩,?k3,⟨.slice a3 M3 cp3,?k4,?k5,c,?k6⟩,?k7⟩
   case k1=>have:=hset.size;have:=HG3.out.size;simp at this;omega
   case k2 =>
    have hql:=(ltA hq)
    have hq3:w3.heap[q]?=some o:=(HG3.out.block q (by simp;omega) (own_ne G2.out hq (fun c e=>by subst e;cases hnc))).trans ((Below.heap_alloc _ _ _ hql).trans hq)
    exact(hset.block q (ltA hq3) (fun e=>by
     have:=Option.some.inj e
     subst this
     rw[G1.out]at hq
     cases hq
     cases hnc)).trans hq3
   case k3=>exact((hset.block _ (ltA HK3.out) (fun e=>by have:=Option.some.inj e;omega)).trans HK3.out).trans G3.out.symm
   case k4 =>
    rw[heap_setCell_same _ HC3.out]
    rfl
   case k5 =>
    rw[HG0.out]
    exact HO3.out.grownX HC3.out (fun c e=>by cases e) hset
   case k6=>exact(hset.block _ (ltA HK3.out) (fun e=>by have:=Option.some.inj e;omega)).trans HK3.out
   case k7=>exact hbw3.grown hset (by have:=hbw3.size;omega) (fun j e=>by cases e;exact hwb)
 case done =>
  obtain⟨⟨v,g1,g2,c,g3⟩,g4⟩:=hI
  have hxs:xs≠[]:=by rw[hS];exact grpL_ne _ _
  obtain⟨g,cap,rfl,hcell⟩:=g2.bytes hxs
  have c1:W.cell? ⟨b0,0,none⟩=some (.slice (some ⟨g,0,none⟩) xs.length cap):=cell_of_row W _ 0 _ _ _ g1
  have HC:=zh hcell
  have G4:=zh g4
  have HDd:=zh hDd
  have hsW:=g4.size
  have HR:Hid (strOf (xs.map Grp.nat)=⟨R.toArray⟩):=zh (by rw[strOf_grp,hS,grpL_bytes 3 z (by simpa using hz28),hput.out])
  have hL:Hid (xs.length=(xs.map Grp.nat).length):=zh (by rw[List.length_map])
  have h256:Hid (∀ y∈xs.map Grp.nat,y < 256):=zh (fun y hy=>by
   obtain⟨x,_,rfl⟩:=List.mem_map.1 hy
   exact x.nat_lt)
  generalize xs.map Grp.nat=L at *
  clear hS g1 g2 g3 g4 hDd hcell hxs
  show Exit.inBlock _ _ _ (Act.mk _ [{ target:=.collected Dm,args:=#[] }]) W
  go_wp2_with (refine wpList_convS L h256.out 80 9 5 _ g 0 xs.length cap rfl rfl rfl hL.out (by kernel_rfl) (by kernel_rfl) (by kernel_rfl) HC.out ?_)
  have hM:Marks w.heap.size [Dm] W:=⟨by simp,fun D hD=>by
   rw[List.mem_singleton]at hD
   subst hD
   exact⟨by omega,HDd.out⟩⟩
  refine leaves_marks (B:=w.heap.size) [Dm] W hM (fun W'' hT=>⟨_,results_tmp2 rfl _ _ _,?_,G4.out.trans hT.below⟩)
  rw[HR.out]
  rfl
end Go.Proofs.YtggdcnjaofflbaaGreatDoor
/- A region that draws its order, in which calls wait for one another and all else only looks at cells that are kept: one walk in a given order serves. The conditions are closed facts of the region. -/
namespace Go.Proofs.YtggdcnjaofflbaaGreatDoor
def tookA (s:Nat)(t:List Nat):Array Bool:=((List.range s).map fun j=>t.contains j).toArray
theorem tookA_nil (s:Nat):tookA s []=Array.replicate s false:=by
 apply Array.ext
 ·simp[tookA]
 ·intro i h1 h2
  simp[tookA]
theorem tookA_cons (s k:Nat)(t:List Nat):(tookA s t).setIfInBounds k true=tookA s (k::t):=by
 apply Array.ext
 ·simp[tookA]
 ·intro i h1 h2
  rw[Array.getElem_setIfInBounds (by simpa using h1)]
  by_cases h:k=i
  ·subst h;simp[tookA]
  ·rw[if_neg h]
   simp[tookA]
   exact fun e=>absurd e.symm h
theorem tookA_getD (s j:Nat)(t:List Nat)(d:Bool):(tookA s t).getD j d=if j < s then t.contains j else d:=by
 unfold tookA Array.getD
 by_cases h:j < s
 ·simp[h]
 ·simp[h]
section
variable {P:Program} {ops:Array Oper} {Q:Exit→Act→World→Prop} {md:Region.Mode} {S:World→Prop} {bigs:List Nat}
end
end Go.Proofs.YtggdcnjaofflbaaGreatDoor
