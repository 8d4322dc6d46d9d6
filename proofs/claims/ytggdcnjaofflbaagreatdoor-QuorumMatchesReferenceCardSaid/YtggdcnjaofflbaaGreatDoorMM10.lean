/- The walk of the reference's Made. The conditions: what the slice reads as, ranges. -/
import Derived.Test.YtggdcnjaofflbaaGreatDoorMM09
import Derived.Deep.CutBlock
namespace Go.Proofs.YtggdcnjaofflbaaGreatDoor
open Go.RowKit Go.BigFrame
def MadeAt (w W:World)(car:Int)(v:Value)(xs:List ByteArray):Prop :=
 Below w.heap.size w W∧W.heap[w.heap.size]?=some (.cells #[.int .i64 0,.slice none 0 0] 85 (0,0))∧W.heap[w.heap.size+1]?=some (.cells #[.int .i64 car,v] 85 (0,0))∧OwnS W w.heap.size v xs
theorem alloc_at {w:World}{k:Nat}{o o':Obj}(h:w.heap[k]?=some o):(w.alloc o').heap[k]?=some o:=(Below.heap_alloc w o' k (ltA h)).trans h
theorem undrew {W w':World}(h:Below W.drew.heap.size W.drew w'):Below W.heap.size W w':=⟨h.os,h.tape,h.output,h.size,h.block⟩
theorem MadeAt.far {w W W':World}{car:Int}{v:Value}{xs:List ByteArray}(h:MadeAt w W car v xs)(hb:Below W.heap.size W W'):MadeAt w W' car v xs :=
 ⟨h.1.trans (hb.mono h.1.size),(hb.block _ (ltA h.2.1)).trans h.2.1,(hb.block _ (ltA h.2.2.1)).trans h.2.2.1,OwnE.far h.2.2.2 hb (Nat.le_refl _)⟩
theorem MadeAt.append {w W w7:World}{car:Int}{v:Value}{xs:List ByteArray}(h:MadeAt w W car v xs){y:ByteArray}{o:Obj}(hg:(W.alloc o).grownBy w7 v.ownBlock){v':Value}(ho:OwnS w7 w.heap.size v' (xs++[y])) :
  MadeAt w (w7.setCell ⟨w.heap.size+1,1,none⟩ v') car v' (xs++[y]):=by
 obtain⟨h1,h2,h3,h4⟩:=h
 have key:∀ {k:Nat} {c:Array Value},W.heap[k]?=some (.cells c 85 (0,0))→w7.heap[k]?=some (.cells c 85 (0,0)):=fun {k c} hk =>
  (hg.block k (by have:=(ltA hk);simp;omega) (own_ne h4 hk (fun c' e=>by cases e))).trans (alloc_at hk)
 have b7:Below w.heap.size w w7:=(h1.alloc h1.size o).grown hg (by have:=h1.size;simp;omega) (fun j e=>OwnE.ge h4 j e)
 have g3:=key h3
 refine⟨b7.setCell (p:=⟨w.heap.size+1,1,none⟩) (Nat.le_succ _) _,(Below.heap_setCell _ _ _ _ (by show w.heap.size≠w.heap.size+1;omega)).trans (key h2),?_,?_⟩
 ·rw[heap_setCell_same _ g3];rfl
 ·exact World.ownsRow.kept ho (grown_setCell (grown_refl _ _) ⟨w.heap.size+1,1,none⟩ (.inl rfl) _) (.inr (fun e'=>own_ne ho g3 (fun c' e=>by cases e) e'.symm))
theorem size_al {w:World}(W:World)(o:Obj)(h:w.heap.size≤W.heap.size):w.heap.size≤(W.alloc o).heap.size:=by simp;omega
theorem MadeAt.at7 {w W w7:World}{car:Int}{v:Value}{xs:List ByteArray}(h:MadeAt w W car v xs){o:Obj}(hg:(W.alloc o).grownBy w7 v.ownBlock):w7.cell? ⟨w.heap.size+1,1,none⟩=some v∧w7.frozen? ⟨w.heap.size+1,1,none⟩=false:=by
 obtain⟨_,_,h3,h4⟩:=h
 have:=(hg.block (w.heap.size+1) (by have:=(ltA h3);simp;omega) (own_ne h4 h3 (fun c' e=>by cases e))).trans (alloc_at h3)
 exact⟨cell_of_row w7 _ 1 _ _ _ this,by simp[World.frozen?,this]⟩
theorem ownS_snoc {w:World}{B:Nat}{v:Value}{xs:List ByteArray}{y:ByteArray}(h:w.ownsRow B 9 1 v ((scells xs).length+1) ((scells xs).flatten++[.string y])):OwnS w B v (xs++[y]):=by
 have e:scells (xs++[y])=scells xs++[[.string y]]:=by unfold scells;rw[List.map_append];rfl
 unfold OwnS OwnE
 rw[e,List.flatten_append,List.length_append]
 simpa using h
set_option maxHeartbeats 2000000 in
set_option maxRecDepth 100000 in
theorem rcontent_any (v:VoteP)(hs:SmallV v)(w:World) :
  Calls Tryz.prog 40 #[.agg #[.int .i64 v.car,.int .i64 v.num,.int .i64 v.stp,.string v.val,.string v.sl]] w fun e w'=>e=.returned (.string (voteC v))∧Below w.heap.size w w':=by
 obtain⟨car,num,stp,val,sl⟩:=v
 obtain⟨⟨c0,c1⟩,⟨n0,n1⟩,⟨s0,s1⟩,hv⟩:=hs
 simp only at c0 c1 n0 n1 s0 s1 hv
 obtain⟨c,rfl⟩:=Int.eq_ofNat_of_zero_le c0
 obtain⟨n,rfl⟩:=Int.eq_ofNat_of_zero_le n0
 obtain⟨s,rfl⟩:=Int.eq_ofNat_of_zero_le s0
 have HR:=zh (voteC_is c n s val sl)
 generalize voteC ⟨(c:Int),n,s,val,sl⟩=R at *
 obtain⟨PB,hPB⟩:∃ PB:Nat→ByteArray,PB=fun k=>⟨(putsL (([5,c,n,s]:List Nat).take k)).toArray⟩:=⟨_,rfl⟩
 obtain⟨PN,hPN⟩:∃ PN:Nat→ByteArray,PN=fun x=>⟨(putN (x:Int)).toArray⟩:=⟨_,rfl⟩
 have HP0:Hid (PB 0=⟨#[]⟩):=zh (by rw[hPB];rfl)
 have HP4:Hid (R=PB 4++val):=zh (by rw[HR.out,hPB];rfl)
 have HPS:Hid (∀ k x,([5,c,n,s]:List Nat)[k]?=some x→PB (k+1)=PB k++PN x):=zh (fun k x hx=>by
  rw[hPB,hPN]
  show(⟨(putsL _).toArray⟩:ByteArray)=_
  rw[putsL_snoc hx]
  refine ByteArray.ext ?_
  rw[ByteArray.data_append]
  simp)
 have HPZ:Hid (∀ k,(PB k).size≤16):=zh (fun k=>by
  rw[hPB]
  show(List.toArray _).size≤16
  rw[List.size_toArray]
  have:=putsL_len (([5,c,n,s]:List Nat).take k)
  have h4:(([5,c,n,s]:List Nat).take k).length≤4:=by rw[List.length_take];simp;omega
  omega)
 have HNZ:Hid (∀ x,(PN x).size≤4):=zh (fun x=>by
  rw[hPN]
  show(List.toArray _).size≤4
  rw[List.size_toArray]
  exact(putN_len _).2)
 have HPI:Hid (∀ x:Nat,x < 134217728→∀ W,Calls Tryz.prog 85 #[.int .i64 x] W fun e w'=>e=.returned (.tuple #[.string (PN x),.int .i64 0])∧Below W.heap.size W w'):=zh (fun x hx W=>by rw[hPN];exact r1putQ_any x hx W)
 clear hPB hPN HR
 obtain⟨W1,hW1⟩:∃ W1,W1=w.alloc (.cells #[.int .i64 (c:Nat),.int .i64 (n:Nat),.int .i64 (s:Nat),.string val,.string sl] 27):=⟨_,rfl⟩
 have HB1:Hid (Below w.heap.size w W1):=zh (by rw[hW1];exact br0.alloc (Nat.le_refl _) _)
 have HH1:Hid (W1.heap[w.heap.size]?=some (.cells #[.int .i64 (c:Nat),.int .i64 (n:Nat),.int .i64 (s:Nat),.string val,.string sl] 27 (0,0))):=zh (by rw[hW1];exact heap_alloc_new w _)
 obtain⟨W2,hW2⟩:∃ W2,W2=W1.alloc (.cells #[.int .i64 5,.int .i64 (c:Nat),.int .i64 (n:Nat),.int .i64 (s:Nat)] 3):=⟨_,rfl⟩
 have HB2:Hid (Below w.heap.size w W2):=zh (by rw[hW2];exact HB1.out.alloc HB1.out.size _)
 have HV2:Hid (W2.heap[w.heap.size]?=some (.cells #[.int .i64 (c:Nat),.int .i64 (n:Nat),.int .i64 (s:Nat),.string val,.string sl] 27 (0,0))):=zh (by rw[hW2];exact alloc_at HH1.out)
 have HA2:Hid (W2.heap[W1.heap.size]?=some (.cells #[.int .i64 5,.int .i64 (c:Nat),.int .i64 (n:Nat),.int .i64 (s:Nat)] 3 (0,0))):=zh (by rw[hW2];exact heap_alloc_new W1 _)
 obtain⟨d0,d1,d2,d3,d4⟩:=vcellsAt HH1.out
 have HW1:=zh hW1
 have HW2:=zh hW2
 clear hW1 hW2
 go_enter Tryz.func40,Tryz.ntmps40
 go_upto_region 2 with fail
 rw[← HW1.out]
 go_upto_block 3 with fail
 rw[← HW2.out]
 clear d0 d1 d2 d3 d4
 obtain⟨b0,hb0⟩:∃ b0,b0=w.heap.size:=⟨_,rfl⟩
 obtain⟨ba,hba⟩:∃ ba,ba=W1.heap.size:=⟨_,rfl⟩
 rw[← hb0]at HV2 ⊢
 rw[← hba]at HA2 ⊢
 clear hb0 hba HW1 HW2 HH1 HB1
 have h0:PB 0=⟨#[]⟩:=HP0.out
 go_wp2
 go_loopw [3,18] (fun s i wr=>∃ k:Nat,k≤4∧i=.int .i64 k∧s=.string (PB k)∧Hid (Below W2.heap.size W2 wr)) (fun _ i _=>4 - (intOf i).toNat)
 case atStart=>exact⟨0,by omega,rfl,by rw[h0],zh br0⟩
 case round =>
  clear h0
  obtain⟨k,hk,rfl,rfl,hB⟩:=hrel
  by_cases hlt:k < 4
  ·have tk:(k:Int) < 4:=by omega
   have tk0:(0:Int)≤(k:Int):=by omega
   obtain⟨x,hx⟩:∃ x,([5,c,n,s]:List Nat)[k]?=some x:=⟨_,List.getElem?_eq_getElem (by simp;omega)⟩
   have hx27:x < 134217728:=by
    have hm:=List.mem_of_getElem? hx
    simp only[List.mem_cons,List.not_mem_nil,or_false]at hm
    omega
   have HX:=zh (HPS.out k x hx)
   have hcl:wr.cell? ⟨ba,k,none⟩=some (.int .i64 (x:Nat)):=by
    rw[cell_of_row wr ba k _ _ _ ((hB.out.block ba (ltA HA2.out)).trans HA2.out)]
    match k,hlt,hx with
    | 0,_,hx=>cases hx;rfl
    | 1,_,hx=>cases hx;rfl
    | 2,_,hx=>cases hx;rfl
    | 3,_,hx=>cases hx;rfl
   have HPX:=zh (HPI.out x hx27)
   have hz1:=HPZ.out k
   have hz2:=HNZ.out x
   have hcat:¬ 9223372036854775807 < (PB k).size+(PN x).size:=by omega
   clear hx
   go_wp2_with (go_at_call 85;refine(HPX.out _).mono ?_;rintro e w3 ⟨rfl,hb3⟩)
   go_roundw
   case rel=>exact⟨k+1,by omega,by go_num,by rw[HX.out],zh (q_next hB.out hb3)⟩
   case measure=>simp[intOf];omega
  ·obtain rfl:k=4:=by omega
   obtain⟨d0,d1,d2,d3,d4⟩:=vcellsAt ((hB.out.block b0 (ltA HV2.out)).trans HV2.out)
   have hz1:=HPZ.out 4
   have hcat:¬ 9223372036854775807 < (PB 4).size+val.size:=by omega
   go_wp2
   go_ret
   exact⟨congrArg (fun x=>Ending.returned (Value.string x)) HP4.out.symm,HB2.out.trans (hB.out.mono HB2.out.size)⟩
set_option maxHeartbeats 1000000 in
theorem rseal_any (key s:ByteArray)(hk:key.size≤1000)(hs:s.size≤1000)(w:World) :
  Calls Tryz.prog 56 #[.string key,.string s] w fun e w'=>e=.returned (.string (nodeS key (leafS s)))∧Below w.heap.size w w':=by
 have H1:=zh (r2leaf_any s w (by omega))
 have hl:(leafS s).size=32:=leafS_size _
 generalize leafS s=L at *
 have H2:=zh (fun W=>r2node_any key L W (by omega) (by omega))
 generalize nodeS key L=R at *
 go_enter Tryz.func56,Tryz.ntmps56
 go_wp2_with (first | (go_at_call 42;refine H1.out.mono ?_;rintro e w1 ⟨rfl,h1⟩) | (go_at_call 103;refine(H2.out _).mono ?_;rintro e w2 ⟨rfl,h2⟩))
 go_ret
 exact⟨rfl,q_next h1 h2⟩
theorem check_facts {ks:List ByteArray}{num stp:Int}{val:ByteArray}{p:List VoteP}(h:checkV ks num stp val p=true):validC ks=true∧p.length=enoughC ks∧∀ v∈p,(v.num=num∧v.stp=stp∧v.val=val)∧genV ks v=true:=by
 unfold checkV at h
 rw[Bool.and_eq_true,Bool.and_eq_true,Bool.and_eq_true]at h
 refine⟨h.1.1.1,of_decide_eq_true h.1.1.2,fun v hv=>?_⟩
 have:=List.all_eq_true.1 h.2 v hv
 rw[Bool.and_eq_true]at this
 exact⟨of_decide_eq_true this.1,this.2⟩
/-! ### A quorum's value -/
/-! ### More votes -/
def keyQ (i:Nat):ByteArray:=sumS ⟨([99,97,114,114,105,101,114]++[UInt8.ofNat i]).toArray⟩
def valQ (n:Nat):ByteArray:=sumS ⟨#[118,UInt8.ofNat n]⟩
def madeQ (n:Nat):List ByteArray:=(List.range n).map keyQ
theorem keyQ_size (i:Nat):(keyQ i).size=32:=rfl
theorem valQ_size (i:Nat):(valQ i).size=32:=rfl
theorem madeQ_len (n:Nat):(madeQ n).length=n:=by unfold madeQ;rw[List.length_map,List.length_range]
theorem madeQ_get {n i:Nat}(h:i < n):(madeQ n).getD i ⟨#[]⟩=keyQ i:=by
 unfold madeQ
 rw[List.getD_eq_getElem?_getD,List.getElem?_map,List.getElem?_range h]
 rfl
theorem madeQ_valid {n:Nat}(h:n=1∨n=4∨n=7):validC (madeQ n)=true:=by
 unfold validC
 rw[Bool.and_eq_true]
 refine⟨decide_eq_true (by rw[madeQ_len];exact h),List.all_eq_true.2 fun s hs=>?_⟩
 obtain⟨i,_,rfl⟩:=List.mem_map.1 hs
 exact decide_eq_true (keyQ_size i)
theorem val10:(valQ 1).toList < (valQ 0).toList:=by decide +kernel
theorem valid_le {ks:List ByteArray}(h:validC ks=true):ks.length≤7:=by
 rcases valid_len h with h | h | h <;> omega
theorem genV_mk {ks:List ByteArray}(hk:validC ks=true){num stp:Int}{val:ByteArray}{i:Nat}(hn:0≤num∧num≤99999999)(hs:0≤stp∧stp≤1000)(hv:val.size=32)(hi:i < ks.length):genV ks (mkV ks num stp val i)=true:=by
 have h7:=valid_le hk
 have hf:formedV (mkV ks num stp val i)=true:=decide_eq_true ⟨⟨by show(0:Int)≤(i:Int);omega,by show(i:Int)≤7;omega⟩,hn,hs,hv,nodeS_size _ _⟩
 unfold genV
 rw[hf,Bool.true_and,Bool.and_eq_true]
 refine⟨decide_eq_true (by show(i:Int) < _;omega),decide_eq_true ?_⟩
 rfl
def votesL (ks:List ByteArray)(num stp:Int)(L:List (Nat × ByteArray)):List VoteP:=L.map fun p=>mkV ks num stp p.2 p.1
theorem votesFor_L {ks:List ByteArray}(hk:validC ks=true){num stp:Int}(hn:0≤num∧num≤99999999)(hs:0≤stp∧stp≤1000)(L:List (Nat × ByteArray))(hL:∀ p∈L,p.1 < ks.length∧p.2.size=32)(n' s':Int)(val:ByteArray)(i:Nat) :
  votesFor ks n' s' val (votesL ks num stp L) i=L.any fun p=>decide (num=n'∧stp=s'∧p.2=val∧p.1=i):=by
 unfold votesFor votesL
 rw[List.any_map]
 induction L with
 | nil=>rfl
 | cons p t ih =>
  rw[List.any_cons,List.any_cons,ih (fun q hq=>hL q (List.mem_cons_of_mem _ hq))]
  have hp:=hL p (by simp)
  refine congrArg (· || _) ?_
  show(genV ks (mkV ks num stp p.2 p.1) && decide _)=_
  rw[genV_mk hk hn hs hp.2 hp.1,Bool.true_and]
  refine decide_eq_decide.2 ⟨fun h=>⟨h.1,h.2.1,h.2.2.1,by have:=h.2.2.2;simp only[mkV]at this;omega⟩,fun h=>⟨h.1,h.2.1,h.2.2.1,by have:=h.2.2.2;simp only[mkV];omega⟩⟩
section
variable {ks:List ByteArray} {x y:ByteArray} (hk:validC ks=true) (h4:ks.length=4) (hx:x.size=32) (hy:y.size=32) (hlt:x.toList < y.toList)
def poolL (x y:ByteArray):List (Nat × ByteArray):=[(3,y),(2,x),(1,x),(2,y),(0,x)]
abbrev poolS (ks:List ByteArray)(x y:ByteArray):List VoteP:=votesL ks 55 0 (poolL x y)
abbrev vS (ks:List ByteArray)(x:ByteArray)(i:Nat):VoteP:=mkV ks 55 0 x i
include hk h4 hx hy hlt
set_option linter.unusedSectionVars false
theorem s_ne:x≠y:=fun e=>u8l_irrefl _ (e ▸ hlt)
theorem s_pl:∀ p∈poolL x y,p.1 < ks.length∧p.2.size=32:=by
 intro p hp
 rw[h4]
 unfold poolL at hp
 simp only[List.mem_cons,List.not_mem_nil,or_false]at hp
 rcases hp with rfl | rfl | rfl | rfl | rfl
 ·exact⟨by simp,hy⟩
 ·exact⟨by simp,hx⟩
 ·exact⟨by simp,hx⟩
 ·exact⟨by simp,hy⟩
 ·exact⟨by simp,hx⟩
theorem s_who (n' s':Int)(v:ByteArray):whoL ks n' s' v (poolS ks x y)=(List.range 4).filter fun i=>(poolL x y).any fun p=>decide (55=n'∧0=s'∧p.2=v∧p.1=i):=by
 unfold whoL
 rw[h4]
 exact List.filter_congr fun i _=>votesFor_L hk (by decide) (by decide) _ (s_pl hk h4 hx hy hlt) _ _ _ _
theorem s_whox:whoL ks 55 0 x (poolS ks x y)=[0,1,2]:=by
 rw[s_who hk h4 hx hy hlt]
 have hne:=s_ne hk h4 hx hy hlt
 have hne':y≠x:=fun e=>hne e.symm
 simp[poolL,hne',List.range_succ]
theorem s_whoy:whoL ks 55 0 y (poolS ks x y)=[2,3]:=by
 rw[s_who hk h4 hx hy hlt]
 have hne:=s_ne hk h4 hx hy hlt
 simp[poolL,hne,List.range_succ]
theorem s_who1 (v:ByteArray):whoL ks 55 1 v (poolS ks x y)=[]:=by
 rw[s_who hk h4 hx hy hlt]
 simp[poolL]
theorem s_enough:enoughC ks=3:=by unfold enoughC;rw[h4]
theorem s_pool:isPool ks (poolS ks x y)=true:=by
 unfold isPool
 rw[hk,Bool.true_and]
 exact decide_eq_true (by show(List.map _ (poolL x y)).length≤60;rw[List.length_map];unfold poolL;simp)
theorem s_prove:proveV ks 55 0 x (poolS ks x y)=some [vS ks x 0,vS ks x 1,vS ks x 2]:=by
 unfold proveV
 rw[s_whox hk h4 hx hy hlt,s_enough hk h4 hx hy hlt,if_pos ⟨s_pool hk h4 hx hy hlt,by decide⟩]
 rfl
theorem s_prove_y:proveV ks 55 0 y (poolS ks x y)=none:=by
 unfold proveV
 rw[s_whoy hk h4 hx hy hlt,s_enough hk h4 hx hy hlt,if_neg]
 rintro⟨_,h⟩
 revert h
 decide
theorem s_vals:valsV ks 55 0 (poolS ks x y)=[x,y]:=by
 refine sortB_one (valsV_ok _ _ _ _) (by unfold SortB;simp[hlt]) fun u=>?_
 rw[valsV_mem]
 simp only[s_who hk h4 hx hy hlt,List.mem_filter,List.mem_range,List.any_eq_true]
 constructor
 ·rintro⟨i,_,p,hp,hd⟩
  have hd:=of_decide_eq_true hd
  unfold poolL at hp
  simp only[List.mem_cons,List.not_mem_nil,or_false]at hp ⊢
  rw[← hd.2.2.1]
  rcases hp with rfl | rfl | rfl | rfl | rfl <;> simp
 ·intro hu
  simp only[List.mem_cons,List.not_mem_nil,or_false]at hu
  rcases hu with rfl | rfl
  ·exact⟨0,by decide,(0,u),by simp[poolL],by simp⟩
  ·exact⟨3,by decide,(3,u),by simp[poolL],by simp⟩
theorem s_tally:tallyV ks 55 0 (poolS ks x y)=[(x,3),(y,2)]:=by
 unfold tallyV
 rw[if_pos (s_pool hk h4 hx hy hlt),s_vals hk h4 hx hy hlt]
 simp only[List.map_cons,List.map_nil]
 rw[s_whox hk h4 hx hy hlt,s_whoy hk h4 hx hy hlt]
 rfl
theorem s_decided:decidedV ks 55 0 (poolS ks x y)=some x:=by
 unfold decidedV
 rw[s_tally hk h4 hx hy hlt,s_enough hk h4 hx hy hlt]
 rfl
theorem s_vals1:valsV ks 55 1 (poolS ks x y)=[]:=by
 refine List.eq_nil_iff_forall_not_mem.2 fun u hu=>?_
 rw[valsV_mem]at hu
 obtain⟨i,hi⟩:=hu
 rw[s_who1 hk h4 hx hy hlt]at hi
 cases hi
theorem s_decided1:decidedV ks 55 1 (poolS ks x y)=none:=by
 unfold decidedV tallyV
 rw[if_pos (s_pool hk h4 hx hy hlt),s_vals1 hk h4 hx hy hlt]
 rfl
theorem s_cast_no (key:ByteArray):castV key 2 55 0 y (poolS ks x y)=none:=by
 have hne:=s_ne hk h4 hx hy hlt
 have h1:((poolS ks x y).any fun w=>decide ((w.car=2∧w.num=55∧w.stp=0)∧w.val≠y))=true:=by
  refine List.any_eq_true.2 ⟨vS ks x 2,?_,decide_eq_true ⟨⟨rfl,rfl,rfl⟩,hne⟩⟩
  exact List.mem_map.2 ⟨(2,x),by simp[poolL],rfl⟩
 unfold castV castOk
 rw[h1]
 simp
theorem s_cast (i:Nat)(v:ByteArray)(hi:i < 4)(hv:v.size=32)(hist:List VoteP)(hh:(hist.any fun w=>decide ((w.car=(i:Int)∧w.num=55∧w.stp=0)∧w.val≠v))=false)(hkey:(ks.getD i ⟨#[]⟩).size=32):castV (ks.getD i ⟨#[]⟩) i 55 0 v hist=some (vS ks v i):=by
 unfold castV castOk
 rw[hh]
 have hf:formedV ⟨(i:Int),55,0,v,ks.getD i ⟨#[]⟩⟩=true:=decide_eq_true ⟨⟨by show(0:Int)≤(i:Int);omega,by show(i:Int)≤7;omega⟩,⟨by show(0:Int)≤55;omega,by show(55:Int)≤99999999;omega⟩,⟨by show(0:Int)≤0;omega,by show(0:Int)≤1000;omega⟩,hv,hkey⟩
 rw[hf]
 rfl
theorem s_own:((poolS ks x y).any fun w=>decide ((w.car=((0:Nat):Int)∧w.num=55∧w.stp=0)∧w.val≠x))=false:=by
 rw[List.any_eq_false]
 intro w hw hd
 have hd:=of_decide_eq_true hd
 obtain⟨p,hp,rfl⟩:=List.mem_map.1 hw
 have h0:p.1=0:=by have:=hd.1.1;simp only[mkV]at this;omega
 have h1:p.2≠x:=hd.2
 unfold poolL at hp
 simp only[List.mem_cons,List.not_mem_nil,or_false]at hp
 rcases hp with rfl | rfl | rfl | rfl | rfl
 ·cases h0
 ·cases h0
 ·cases h0
 ·cases h0
 ·exact h1 rfl
theorem s_gen (i:Nat)(v:ByteArray)(hi:i < 4)(hv:v.size=32):genV ks (vS ks v i)=true:=genV_mk hk (by decide) (by decide) hv (by omega)
theorem s_sorted:sortedV ks (poolS ks x y)=[vS ks x 0,vS ks x 1,vS ks x 2,vS ks y 2,vS ks y 3]:=by
 symm
 refine sortedV_is ?_ fun v=>?_
 ·have c:∀(i j:Nat) (a b:ByteArray),i < j→ltV (vS ks a i) (vS ks b j):=fun i j a b h=>.inl (by show(i:Int) < (j:Int);omega)
  have e:ltV (vS ks x 2) (vS ks y 2):=.inr ⟨rfl,.inr ⟨rfl,.inr ⟨rfl,.inl hlt⟩⟩⟩
  refine List.Pairwise.cons ?_ (List.Pairwise.cons ?_ (List.Pairwise.cons ?_ (List.Pairwise.cons ?_ (List.Pairwise.cons ?_ List.Pairwise.nil))))
  all_goals
   intro v hv
   simp only[List.mem_cons,List.not_mem_nil,or_false]at hv
  ·rcases hv with rfl | rfl | rfl | rfl <;> exact c _ _ _ _ (by decide)
  ·rcases hv with rfl | rfl | rfl <;> exact c _ _ _ _ (by decide)
  ·rcases hv with rfl | rfl
   ·exact e
   ·exact c _ _ _ _ (by decide)
  ·subst hv
   exact c _ _ _ _ (by decide)
 ·constructor
  ·intro hv
   simp only[List.mem_cons,List.not_mem_nil,or_false]at hv
   have m:∀ p∈poolL x y,vS ks p.2 p.1∈poolS ks x y:=fun p hp=>List.mem_map.2 ⟨p,hp,rfl⟩
   rcases hv with rfl | rfl | rfl | rfl | rfl
   ·exact⟨m (0,x) (by simp[poolL]),s_gen hk h4 hx hy hlt _ _ (by decide) hx⟩
   ·exact⟨m (1,x) (by simp[poolL]),s_gen hk h4 hx hy hlt _ _ (by decide) hx⟩
   ·exact⟨m (2,x) (by simp[poolL]),s_gen hk h4 hx hy hlt _ _ (by decide) hx⟩
   ·exact⟨m (2,y) (by simp[poolL]),s_gen hk h4 hx hy hlt _ _ (by decide) hy⟩
   ·exact⟨m (3,y) (by simp[poolL]),s_gen hk h4 hx hy hlt _ _ (by decide) hy⟩
  ·rintro⟨hv,_⟩
   obtain⟨p,hp,rfl⟩:=List.mem_map.1 hv
   unfold poolL at hp
   simp only[List.mem_cons,List.not_mem_nil,or_false]at hp ⊢
   rcases hp with rfl | rfl | rfl | rfl | rfl <;> simp
theorem s_doubles:doublesV ks (poolS ks x y)=[(vS ks x 2,vS ks y 2)]:=by
 unfold doublesV
 rw[if_pos (s_pool hk h4 hx hy hlt),s_sorted hk h4 hx hy hlt]
 simp[dblL,oneV,mkV]
theorem s_check (l:List Nat)(hl:l.length=3)(hp:l.Pairwise (· < ·))(h:∀ i∈l,i < 4)(v:ByteArray)(hv:v.size=32):checkV ks 55 0 v (l.map (vS ks v))=true:=by
 unfold checkV
 rw[hk,List.length_map,hl,s_enough hk h4 hx hy hlt,decide_eq_true rfl,Bool.true_and,Bool.true_and,Bool.and_eq_true]
 refine⟨decide_eq_true ?_,List.all_eq_true.2 fun w hw=>?_⟩
 ·rw[List.map_map,List.pairwise_map]
  exact hp.imp fun hab=>by simpa [mkV]using hab
 ·obtain⟨i,hi,rfl⟩:=List.mem_map.1 hw
  rw[s_gen hk h4 hx hy hlt _ _ (h i hi) hv,Bool.and_true]
  exact decide_eq_true ⟨rfl,rfl,rfl⟩
theorem s_check_x:checkV ks 55 0 x [vS ks x 0,vS ks x 1,vS ks x 2]=true:=s_check hk h4 hx hy hlt [0,1,2] rfl (by decide) (by decide) x hx
theorem s_check_y:checkV ks 55 0 y [vS ks x 0,vS ks x 1,vS ks x 2]=false:=by
 have hne:=s_ne hk h4 hx hy hlt
 cases hc:checkV ks 55 0 y [vS ks x 0,vS ks x 1,vS ks x 2]with
 | false=>rfl
 | true =>
  have:=(check_facts hc).2.2 (vS ks x 0) (by simp)
  exact absurd this.1.2.2 hne
theorem s_blame:blameV ks [vS ks x 0,vS ks x 1,vS ks x 2] [vS ks y 1,vS ks y 2,vS ks y 3]=some [(vS ks x 1,vS ks y 1),(vS ks x 2,vS ks y 2)]:=by
 have c1:=s_check_x hk h4 hx hy hlt
 have c2:=s_check hk h4 hx hy hlt [1,2,3] rfl (by decide) (by decide) y hy
 have hne:=s_ne hk h4 hx hy hlt
 have h3:¬ y.toList < x.toList:=fun h=>u8l_irrefl _ (u8l_trans h hlt)
 unfold blameV
 simp only
 rw[if_pos ⟨⟨rfl,rfl⟩,hne,c1,c2⟩]
 rw[if_neg (show ¬ (vS ks y 1).val.toList < (vS ks x 0).val.toList from h3)]
 have:=blame_mk ks 55 0 x y [0,1,2] [1,2,3]
 exact congrArg some this
theorem s_convicts:convictsV ks (vS ks x 2,vS ks y 2)=true:=by
 have g1:=s_gen hk h4 hx hy hlt 2 x (by decide) hx
 have g2:=s_gen hk h4 hx hy hlt 2 y (by decide) hy
 unfold convictsV genuineV
 have e:decide ((vS ks x 2,vS ks y 2).1.val.toList < (vS ks x 2,vS ks y 2).2.val.toList)=true:=decide_eq_true hlt
 rw[hk,g1,g2,e]
 simp[oneV,mkV]
theorem s_convicts_no:convictsV ks (vS ks y 2,vS ks x 2)=false:=by
 have h3:¬ y.toList < x.toList:=fun h=>u8l_irrefl _ (u8l_trans h hlt)
 unfold convictsV
 have e:decide ((vS ks y 2).val.toList < (vS ks x 2).val.toList)=false:=decide_eq_false h3
 rw[e]
 simp
theorem s_genuine:genuineV ks (vS ks x 0)=true:=by
 unfold genuineV
 rw[hk,s_gen hk h4 hx hy hlt 0 x (by decide) hx]
 rfl
theorem s_formed (i:Nat)(v:ByteArray)(hi:i < 4)(hv:v.size=32):formedV (vS ks v i)=true:=by
 have:=s_gen hk h4 hx hy hlt i v hi hv
 unfold genV at this
 rw[Bool.and_eq_true,Bool.and_eq_true]at this
 exact this.1.1
end
theorem s_none:validC []=false:=by decide
theorem s_decode_x {v:VoteP}(h:formedV v=true)(b:UInt8):decodeV (encV v++⟨#[b]⟩)=none:=by
 obtain⟨a1,a2,a3,a4,a5⟩:=formed_facts h
 unfold decodeV
 rw[ByteArray.data_append,Array.toList_append,encV_list]
 simp only[List.append_assoc]
 unfold decodeL
 rw[int_put (by omega)]
 simp only[List.drop_left]
 rw[int_put (by omega)]
 simp only[List.drop_left]
 rw[int_put (by omega)]
 simp only[List.drop_left]
 rw[int_put (by omega)]
 simp only[List.drop_left]
 unfold voteTail
 rw[if_neg]
 rintro⟨h1,_⟩
 have l1:v.val.data.toList.length=32:=by
  have:v.val.data.size=32:=a4
  rw[Array.length_toList]
  exact this
 have l2:v.sl.data.toList.length=32:=by
  have:v.sl.data.size=32:=a5
  rw[Array.length_toList]
  exact this
 simp only[List.length_append,l1,l2,List.length_cons,List.length_nil]at h1
 omega
set_option maxHeartbeats 400000 in
theorem lpickQ_any (c n:Int)(w:World)(hc:I64 c)(hn:0 < n)(hn':n≤9223372036854775807) :
  Calls Tryz.prog 16 #[.int .i64 c,.int .i64 n] w fun e w'=>e=.returned (.int .i64 (pickI c n))∧w'=w:=by
 obtain⟨hc1,hc2⟩:=hc
 by_cases h:c < 0
 ·go_enter Tryz.func16,Tryz.ntmps16
  go_wp2
  go_ret
  exact⟨ret_int (by rw[pickI,if_pos h,← Int.tmod_eq_emod_of_nonneg (by omega),Int.neg_tmod]),rfl⟩
 ·go_enter Tryz.func16,Tryz.ntmps16
  go_wp2
  go_ret
  exact⟨ret_int (by rw[pickI,if_neg (by omega)]),rfl⟩
set_option maxHeartbeats 400000 in
theorem pickQ_any (c n:Int)(w:World)(hc:I64 c)(hn:0 < n)(hn':n≤9223372036854775807) :
  Calls Tryz.prog 54 #[.int .i64 c,.int .i64 n] w fun e w'=>e=.returned (.int .i64 (pickI c n))∧w'=w:=by
 obtain⟨hc1,hc2⟩:=hc
 by_cases h:c < 0
 ·go_enter Tryz.func54,Tryz.ntmps54
  go_wp2
  go_ret
  exact⟨ret_int (by rw[pickI,if_pos h,← Int.tmod_eq_emod_of_nonneg (by omega),Int.neg_tmod]),rfl⟩
 ·go_enter Tryz.func54,Tryz.ntmps54
  go_wp2
  go_ret
  exact⟨ret_int (by rw[pickI,if_neg (by omega)]),rfl⟩
theorem keyQ_str (i:Nat):keyQ i=sumS ((⟨#[99,97,114,114,105,101,114]⟩:ByteArray)++strOf [i]):=by
 unfold keyQ
 refine congrArg sumS ?_
 refine ByteArray.ext ?_
 rw[ByteArray.data_append]
 simp[strOf]
theorem valQ_str (i:Nat):valQ i=sumS (strOf [118,i]):=by
 unfold valQ
 refine congrArg sumS ?_
 refine ByteArray.ext ?_
 simp[strOf]
set_option maxHeartbeats 1000000 in
theorem keyQ_any (i:Nat)(hi:i < 256)(w:World):Calls Tryz.prog 25 #[.int .i64 i] w fun e w'=>e=.returned (.string (keyQ i))∧Below w.heap.size w w':=by
 have hw:IntKind.u8.wrap (i:Int)=(i:Int):=by simp[IntKind.wrap,IntKind.bits,IntKind.signed];omega
 obtain⟨W1,hW1⟩:∃ W1,W1=w.alloc (.cells #[.int .u8 (i:Int)] 5):=⟨_,rfl⟩
 have HB1:Hid (Below w.heap.size w W1):=zh (by rw[hW1];exact br0.alloc (Nat.le_refl _) _)
 have HCl:Hid (∀ j z,[i][j]?=some z→W1.cell? ⟨w.heap.size,0+j,none⟩=some (.int .u8 (z:Nat))):=zh (fun j z hj=>by
  match j,hj with
  | 0,hj=>cases hj;exact cell_of_row W1 _ 0 _ _ _ (by rw[hW1];exact heap_alloc_new w _))
 have HS:=zh (r2sum_any ((⟨#[99,97,114,114,105,101,114]⟩:ByteArray)++strOf [i]) W1 (by rw[ByteArray.size_append];show 7+1≤_;omega))
 rw[← keyQ_str i]at HS
 have HW1:=zh hW1
 generalize keyQ i=R at *
 clear hW1
 go_enter Tryz.func25,Tryz.ntmps25
 go_wp2_with (first | (refine wpList_convS [i] (fun z hz=>by rw[List.mem_singleton]at hz;omega) 80 9 5 _ w.heap.size 0 1 1 rfl rfl rfl rfl (by kernel_rfl) (by kernel_rfl) (by kernel_rfl) (by rw[← HW1.out];exact HCl.out) ?_;rw[← HW1.out]) | (go_at_call 55;refine HS.out.mono ?_;rintro e w2 ⟨rfl,h2⟩))
 go_ret
 exact⟨rfl,q_next HB1.out h2⟩
def valN (n:Int):ByteArray:=valQ (pickI n 3).toNat
set_option maxHeartbeats 1000000 in
set_option maxRecDepth 100000 in
theorem valN_any (n:Int)(hn:I64 n)(w:World):Calls Tryz.prog 14 #[.int .i64 n] w fun e w'=>e=.returned (.string (valN n))∧Below w.heap.size w w':=by
 have hr:=pickI_range n (show(0:Int) < 3 by omega)
 have HP:=zh (fun W=>pickQ_any n 3 W hn (by omega) (by omega))
 obtain⟨i,hi⟩:∃ i:Nat,pickI n 3=(i:Int):=⟨(pickI n 3).toNat,by omega⟩
 have hv:valN n=valQ i:=by unfold valN;rw[hi];rfl
 rw[hv]
 rw[hi]at HP hr
 clear hi hv hn
 have hw:IntKind.u8.wrap (i:Int)=(i:Int):=by simp[IntKind.wrap,IntKind.bits,IntKind.signed];omega
 obtain⟨W1,hW1⟩:∃ W1,W1=w.alloc (.cells #[.int .u8 118,.int .u8 (i:Int)] 5):=⟨_,rfl⟩
 have HB1:Hid (Below w.heap.size w W1):=zh (by rw[hW1];exact br0.alloc (Nat.le_refl _) _)
 have HCl:Hid (∀ j z,[118,i][j]?=some z→W1.cell? ⟨w.heap.size,0+j,none⟩=some (.int .u8 (z:Nat))):=zh (fun j z hj=>by
  match j,hj with
  | 0,hj=>cases hj;exact cell_of_row W1 _ 0 _ _ _ (by rw[hW1];exact heap_alloc_new w _)
  | 1,hj=>cases hj;exact cell_of_row W1 _ 1 _ _ _ (by rw[hW1];exact heap_alloc_new w _))
 have HS:=zh (r2sum_any (strOf [118,i]) W1 (by rw[strOf_size];show 2≤_;omega))
 rw[← valQ_str i]at HS
 have HW1:=zh hW1
 generalize valQ i=R at *
 clear hW1
 go_enter Tryz.func14,Tryz.ntmps14
 go_wp2_with (first | (go_at_call 54;(with_reducible refine(HP.out _).mono ?_);rintro e w3 ⟨rfl,hw3⟩;replace hw3:=hw3.symm;subst hw3) | (refine wpList_convS [118,i] (fun z hz=>by simp at hz;omega) 80 9 5 _ w.heap.size 0 2 2 rfl rfl rfl rfl (by kernel_rfl) (by kernel_rfl) (by kernel_rfl) (by rw[← HW1.out];exact HCl.out) ?_;rw[← HW1.out]) | (go_at_call 55;refine HS.out.mono ?_;rintro e w2 ⟨rfl,h2⟩))
 go_ret
 exact⟨rfl,q_next HB1.out h2⟩
def atNum (n:Int):Int:=55+pickI n 2
def atStp (n:Int):Int:=pickI (n.tdiv 2) 2
theorem infoSlot:(Tryz.prog.info? 25).map (·.size)=some 2:=by kernel_rfl
set_option maxHeartbeats 1000000 in
set_option maxRecDepth 100000 in
theorem at_any (n:Int)(hn:I64 n)(w:World):Calls Tryz.prog 13 #[.int .i64 n] w fun e w'=>e=.returned (.agg #[.int .i64 (atNum n),.int .i64 (atStp n)])∧Below w.heap.size w w':=by
 have hr:=pickI_range n (show(0:Int) < 2 by omega)
 have hd:I64 (n.tdiv 2):=by
  obtain⟨h1,h2⟩:=hn
  unfold I64
  by_cases h:0≤n
  ·rw[Int.tdiv_eq_ediv_of_nonneg h]
   omega
  ·have e:n.tdiv 2=-((-n).tdiv 2):=by rw[Int.neg_tdiv,Int.neg_neg]
   rw[e,Int.tdiv_eq_ediv_of_nonneg (by omega)]
   omega
 have hq:wrap64 (n.tdiv 2)=n.tdiv 2:=by
  obtain⟨h1,h2⟩:=hd
  generalize n.tdiv 2=m at *
  unfold wrap64
  omega
 have HP1:=zh (fun W=>pickQ_any n 2 W hn (by omega) (by omega))
 have HP2:=zh (fun W=>pickQ_any (n.tdiv 2) 2 W hd (by omega) (by omega))
 clear hd
 unfold atNum atStp
 generalize pickI n 2=p at *
 generalize pickI (n.tdiv 2) 2=q at *
 have hw:IntKind.i64.wrap (55+p)=55+p:=IntWalk.i64_in _ (by omega)
 obtain⟨W1,hW1⟩:∃ W1,W1=w.alloc (.cells #[.int .i64 0,.int .i64 0] 25):=⟨_,rfl⟩
 have HB1:Hid (Below w.heap.size w W1):=zh (by rw[hW1];exact br0.alloc (Nat.le_refl _) _)
 have hh:W1.heap[w.heap.size]?=some (.cells #[.int .i64 0,.int .i64 0] 25 (0,0)):=by rw[hW1];exact heap_alloc_new w _
 have z0:=cell_of_row W1 _ 0 _ _ _ hh
 have z1:=cell_of_row W1 _ 1 _ _ _ hh
 have zf:∀ j,W1.frozen? ⟨w.heap.size,j,none⟩=false:=fun j=>by unfold World.frozen?;rw[hh];simp
 have HH:=zh (heap_setCell_same (i:=1) (.int .i64 q) (heap_setCell_same (i:=0) (.int .i64 (55+p)) hh))
 have HB2:=zh ((HB1.out.setCell (p:=⟨w.heap.size,0,none⟩) (Nat.le_refl _) (.int .i64 (55+p))).setCell (p:=⟨w.heap.size,1,none⟩) (Nat.le_refl _) (.int .i64 q))
 have HW1:=zh hW1
 clear hh hW1
 go_enter Tryz.func13,Tryz.ntmps13
 go_upto_region 1 with fail
 rw[← HW1.out]
 go_wp2_with (first | (go_at_call 54;(with_reducible refine(HP1.out _).mono ?_);rintro e w3 ⟨rfl,hw3⟩;replace hw3:=hw3.symm;subst hw3) | (go_at_call 54;(with_reducible refine(HP2.out _).mono ?_);rintro e w3 ⟨rfl,hw3⟩;replace hw3:=hw3.symm;subst hw3))
 exact bodyPost_ret (results_cell_row rfl _ _ w.heap.size 25 #[.int .i64 (55+p),.int .i64 q] (0,0) _ rfl HH.out Tryz.underlying25 rfl infoSlot) rfl ⟨rfl,HB2.out⟩
def baseV (a b c:Int):VoteP:=⟨pickI a 7,atNum b,atStp b,valN c,sealV (keyQ (pickI a 7).toNat) ⟨pickI a 7,atNum b,atStp b,valN c,⟨#[]⟩⟩⟩
def poolV (a b c d:Int):VoteP :=
 if pickI d 16=14 then { baseV a b c with val:=valN (wrap64 (c+1)) }
 else if pickI d 16=15 then { baseV a b c with car:=(pickI a 7+1) % 8 }
 else baseV a b c
def poolN (xs:List R4):List VoteP:=(xs.take 30).map fun q=>poolV q.l q.r q.lo q.hi
theorem valN_size (n:Int):(valN n).size=32:=valQ_size _
theorem atNum_range (n:Int):55≤atNum n∧atNum n≤56:=by
 have:=pickI_range n (show(0:Int) < 2 by omega)
 unfold atNum
 omega
theorem atStp_range (n:Int):0≤atStp n∧atStp n≤1:=by
 have:=pickI_range (n.tdiv 2) (show(0:Int) < 2 by omega)
 unfold atStp
 omega
theorem poolN_len (xs:List R4):(poolN xs).length≤30:=by
 unfold poolN
 rw[List.length_map,List.length_take]
 omega
theorem poolN_snoc {xs:List R4}{k:Nat}{q:R4}(h:xs[k]?=some q)(hk:k < 30):poolN (xs.take (k+1))=poolN (xs.take k)++[poolV q.l q.r q.lo q.hi]:=by
 unfold poolN
 rw[List.take_take,List.take_take,Nat.min_eq_right (by omega),Nat.min_eq_right (by omega),List.take_add_one,h,List.map_append]
 rfl
theorem poolN_done {xs:List R4}{k:Nat}(h:xs.length≤k∨30≤k):poolN (xs.take k)=poolN xs:=by
 unfold poolN
 rw[List.take_take]
 rcases h with h | h
 ·by_cases h2:30≤k
  ·rw[Nat.min_eq_left h2]
  ·rw[Nat.min_eq_right (by omega),List.take_of_length_le h,List.take_of_length_le (by omega)]
 ·rw[Nat.min_eq_left h]
def zerosB (n:Nat):ByteArray:=⟨(List.replicate n 0).toArray⟩
def bentV (v:VoteP)(how n:Int):VoteP :=
 if pickI how 6=0 then { v with car:=n }
 else if pickI how 6=1 then { v with num:=n }
 else if pickI how 6=2 then { v with stp:=n }
 else if pickI how 6=3 then { v with val:=valN n }
 else if pickI how 6=4 then { v with sl:=valN n }
 else { v with val:=zerosB (31+(pickI n 3).toNat) }
theorem voteC_le {v:VoteP}(hs:v.val.size=32):(voteC v).size≤48:=by
 have a:=voteC_size v
 have h1:=putN_len 5
 have h2:=putN_len v.car
 have h3:=putN_len v.num
 have h4:=putN_len v.stp
 omega
set_option maxHeartbeats 2000000 in
set_option maxRecDepth 100000 in
theorem qseal_any (key:ByteArray)(v:VoteP)(hs:SmallV v)(hk:key.size≤1000)(w:World)(he:Env w)(hg:3 < w.heap.size) :
  Calls Tryz.prog 68 #[.string key,.agg #[.int .i64 v.car,.int .i64 v.num,.int .i64 v.stp,.string v.val,.string v.sl]] w fun e w'=>e=.returned (.string (sealV key v))∧Below w.heap.size w w':=by
 have HE:=zh he
 have HG:=zh hg
 clear he hg
 have hcs:=voteC_le hs.2.2.2
 have HCt:=zh (fun W=>content_any' v hs W)
 have HR:Hid (sealV key v=nodeS key (leafS (voteC v))):=zh rfl
 generalize sealV key v=R at *
 generalize voteC v=C at *
 obtain⟨car,num,stp,val,sl⟩:=v
 simp only at HCt
 clear hs
 go_enter Tryz.func68,Tryz.ntmps68
 go_wp2_with fail
 obtain⟨W1,hW1⟩:∃ W1,W1=w.alloc (.cells #[.int .i64 car,.int .i64 num,.int .i64 stp,.string val,.string sl] 27):=⟨_,rfl⟩
 rw[← hW1]
 have HB1:Hid (Below w.heap.size w W1):=zh (by rw[hW1];exact br0.alloc (Nat.le_refl _) _)
 clear hW1
 refine(HCt.out W1).mono ?_
 rintro e w2 ⟨rfl,hb2⟩
 have HB2:=zh (q_next HB1.out hb2)
 clear hb2
 go_wp2_with fail
 refine(leaf_any C w2 (by omega) (HE.out.below HB2.out HG.out) (Nat.lt_of_lt_of_le HG.out HB2.out.size)).mono ?_
 rintro e w3 ⟨rfl,hb3⟩
 have HB3:=zh (q_next HB2.out hb3)
 clear hb3
 go_wp2_with fail
 refine(node_any key (leafS C) w3 (by omega) (by rw[leafS_size];omega) (HE.out.below HB3.out HG.out) (Nat.lt_of_lt_of_le HG.out HB3.out.size)).mono ?_
 rintro e w4 ⟨rfl,hb4⟩
 rw[← HR.out]
 go_wp2_with fail
 go_ret
 exact⟨rfl,q_next HB3.out hb4⟩
theorem genV_no1 {ks:List ByteArray}{v:VoteP}(h:formedV v=false):genV ks v=false:=by unfold genV;rw[h];rfl
theorem genV_no2 {ks:List ByteArray}{v:VoteP}(h:¬ v.car < ks.length):genV ks v=false:=by
 unfold genV
 rw[decide_eq_false h,Bool.and_false,Bool.false_and]
theorem genV_yes {ks:List ByteArray}{v:VoteP}(h:formedV v=true)(h':v.car < ks.length):genV ks v=decide (v.sl=sealV (ks.getD v.car.toNat ⟨#[]⟩) v):=by
 unfold genV
 rw[h,decide_eq_true h',Bool.true_and,Bool.true_and]
set_option maxHeartbeats 4000000 in
set_option maxRecDepth 100000 in
theorem isGen_any {w:World}{kv:Value}{ks:List ByteArray}(hr:SS w kv ks)(hks:∀ k∈ks,k.size≤1000)(v:VoteP)(he:Env w)(hg:3 < w.heap.size) :
  Calls Tryz.prog 65 #[.agg #[kv],.agg #[.int .i64 v.car,.int .i64 v.num,.int .i64 v.stp,.string v.val,.string v.sl]] w fun e w'=>e=.returned (.bool (genV ks v))∧Below w.heap.size w w':=by
 obtain⟨a,cap,rfl,l1,l2,l3⟩:=hr.opened
 have HE:=zh he
 have HG:=zh hg
 have H3:=zh l3
 clear he hg l3
 have HF:=zh (fun W=>isFormed_any v W)
 have HK:=zh hks
 have HRR:=zh hr
 clear hks hr
 unfold maxLen at l2
 obtain⟨n,hn⟩:∃ n,n=ks.length:=⟨_,rfl⟩
 have HN:=zh hn
 rw[← hn]at l1 ⊢
 clear hn
 obtain⟨W1,hW1⟩:∃ W1,W1=(w.alloc (.cells #[.slice a n cap] 31)).alloc (.cells #[.int .i64 v.car,.int .i64 v.num,.int .i64 v.stp,.string v.val,.string v.sl] 27):=⟨_,rfl⟩
 have HB1:Hid (Below w.heap.size w W1):=zh (by rw[hW1];exact(br0.alloc (Nat.le_refl _) _).alloc (by simp) _)
 have hs1:w.heap.size+1 < W1.heap.size:=by rw[hW1];simp
 have HC:Hid (∀ W,Below W1.heap.size W1 W→W.cell? ⟨w.heap.size,0,none⟩=some (.slice a n cap)∧W.cell? ⟨w.heap.size+1,0,none⟩=some (.int .i64 v.car)∧W.cell? ⟨w.heap.size+1,1,none⟩=some (.int .i64 v.num)∧W.cell? ⟨w.heap.size+1,2,none⟩=some (.int .i64 v.stp)∧W.cell? ⟨w.heap.size+1,3,none⟩=some (.string v.val)∧W.cell? ⟨w.heap.size+1,4,none⟩=some (.string v.sl)):=zh (fun W hW =>
  ⟨cell_of_row W _ 0 _ _ _ ((hW.block w.heap.size (by omega)).trans (by rw[hW1];exact at_past w _ _)),vcellsAt ((hW.block _ hs1).trans (by rw[hW1];exact at_second w _ _))⟩)
 have HK1:Hid (∀ k s,ks[k]?=some s→∃ b off,a=some ⟨b,off,none⟩∧∀ W,Below W1.heap.size W1 W→W.cell? ⟨b,off+k,none⟩=some (.string s)):=zh (fun k s hk=>by
  obtain⟨b,off,ha,hb,hc⟩:=H3.out k s hk
  exact⟨b,off,ha,fun W hW=>cell_keepB (HB1.out.trans (hW.mono HB1.out.size)) hb hc⟩)
 have HS:Hid (∀ key,key.size≤1000→SmallV v→∀ W,Below W1.heap.size W1 W→Calls Tryz.prog 68 #[.string key,.agg #[.int .i64 v.car,.int .i64 v.num,.int .i64 v.stp,.string v.val,.string v.sl]] W fun e w'=>e=.returned (.string (sealV key v))∧Below W.heap.size W w'):=zh (fun key hk hs W hW =>
  qseal_any key v hs hk W (HE.out.below (HB1.out.trans (hW.mono HB1.out.size)) HG.out) (Nat.lt_of_lt_of_le HG.out (Nat.le_trans HB1.out.size hW.size)))
 have HW1:=zh hW1
 clear hW1 H3 HRR
 cases hf:formedV v with
 | false =>
  have HR:=zh (genV_no1 (ks:=ks) hf)
  rw[hf]at HF
  generalize genV ks v=R at *
  clear hf HS
  obtain⟨car,num,stp,val,sl⟩:=v
  simp only at HF HC HW1
  go_enter Tryz.func65,Tryz.ntmps65
  go_upto_region 1 with fail
  rw[← HW1.out]
  refine wp_region_noPanic ?_
  refine wp_region_lexB [.q 0,.b 1,.q 2,.q 3,.q 4,.q 5,.q 6,.q 7,.q 8,.q 9,.q 10,.q 11,.q 12,.q 13,.q 14,.q 15,.q 16,.q 17,.q 18,.q 19,.q 20,.q 21,.q 22,.q 23] (by kernel_rfl) (by kernel_rfl) (fun _ _ _ _ h=>h) ?_
  refine wpFl_qL (v:=?_) rfl (Or.inl ⟨by rfl,?_⟩) ?_
  rotate_left
  focus(intro w' hSw;obtain⟨e0,d0,d1,d2,d3,d4⟩:=HC.out w' hSw;go_simp;(try with_reducible rfl);done)
  simp only[Act.put,zzA,zzB,zzC]
  refine wpFl_bL rfl (fun wb hnb hsb K hK=>?_)
  go_simp
  go_at_call 62
  refine(HF.out wb).mono ?_
  rintro e wc ⟨rfl,hwc⟩
  have hbc:Below wb.heap.size wb wc:=by rw[hwc];exact br0.alloc (Nat.le_refl _) _
  have HBC:=zh (q_next hsb hbc)
  refine hK.out _ _ HBC.out (Keeps.below hbc) ?_
  clear hK K hnb hsb hwc hbc
  refine wpFl_qL (v:=?_) rfl (Or.inl ⟨by rfl,?_⟩) ?_
  rotate_left
  focus(intro w' hSw;go_simp;(try with_reducible rfl);done)
  simp only[Act.put,zzA,zzB,zzC]
  iterate 6(refine wpFl_qL (v:=undef) rfl (Or.inr ⟨by rfl,rfl⟩) ?_;simp only[Act.put,zzA,zzB,zzC])
  iterate 2(refine wpFl_qL (v:=?_) rfl (Or.inl ⟨by rfl,?_⟩) ?_;rotate_left;(focus(intro w' hSw;go_simp;(try with_reducible rfl);done));simp only[Act.put,zzA,zzB,zzC])
  iterate 11(refine wpFl_qL (v:=undef) rfl (Or.inr ⟨by rfl,rfl⟩) ?_;simp only[Act.put,zzA,zzB,zzC])
  iterate 2(refine wpFl_qL (v:=?_) rfl (Or.inl ⟨by rfl,?_⟩) ?_;rotate_left;(focus(intro w' hSw;go_simp;(try with_reducible rfl);done));simp only[Act.put,zzA,zzB,zzC])
  refine wpFl_nil ?_
  refine NoPanic.normal ?_
  go_wp2
  go_ret
  exact⟨ret_bool HR.out.symm,HB1.out.trans (HBC.out.mono HB1.out.size)⟩
 | true =>
  have hsm:=small_formed hf
  obtain⟨c,hc⟩:=Int.eq_ofNat_of_zero_le hsm.1.1
  rw[hf]at HF
  by_cases hcn:c < n
  ·have HR:=zh (genV_yes (ks:=ks) hf (by rw[hc,← HN.out];omega))
   generalize genV ks v=R at *
   obtain⟨key,hkey⟩:∃ key,ks[c]?=some key:=⟨_,List.getElem?_eq_getElem (by rw[← HN.out];exact hcn)⟩
   obtain⟨b,off,rfl,hck⟩:=HK1.out c key hkey
   have hk1000:=HK.out key (List.mem_of_getElem? hkey)
   have hget:ks.getD v.car.toNat ⟨#[]⟩=key:=by
    rw[hc,Int.toNat_natCast,List.getD_eq_getElem?_getD,hkey]
    rfl
   rw[hget]at HR
   have HSK:=zh (HS.out key hk1000 hsm)
   have HCK:=zh hck
   clear hf HS HK HK1 hck hkey hget hsm
   obtain⟨car,num,stp,val,sl⟩:=v
   simp only at HF HC HSK HR hc HW1
   subst hc
   generalize sealV key ⟨(c:Int),num,stp,val,sl⟩=Z at *
   have hst:=same_str sl Z
   obtain⟨D,hD⟩:∃ D,D=decide (sl=Z):=⟨_,rfl⟩
   rw[← hD]at hst HR
   clear hD
   have hd:decide ((c:Int) < (n:Int))=true:=decide_eq_true (by omega)
   have hcn':(c:Int) < (n:Int):=by omega
   go_enter Tryz.func65,Tryz.ntmps65
   go_upto_region 1 with fail
   rw[← HW1.out]
   refine wp_region_noPanic ?_
   refine wp_region_lexB [.q 0,.b 1,.q 2,.q 3,.q 4,.q 5,.q 6,.q 7,.q 8,.q 9,.q 10,.q 11,.q 12,.q 13,.q 14,.q 15,.q 16,.q 17,.q 18,.q 19,.b 20,.q 21,.q 22,.q 23] (by kernel_rfl) (by kernel_rfl) (fun _ _ _ _ h=>h) ?_
   refine wpFl_qL (v:=?_) rfl (Or.inl ⟨by rfl,?_⟩) ?_
   rotate_left
   focus(intro w' hSw;obtain⟨e0,d0,d1,d2,d3,d4⟩:=HC.out w' hSw;go_simp;(try with_reducible rfl);done)
   simp only[Act.put,zzA,zzB,zzC]
   refine wpFl_bL rfl (fun wb hnb hsb K hK=>?_)
   go_simp
   go_at_call 62
   refine(HF.out wb).mono ?_
   rintro e wc ⟨rfl,hwc⟩
   have hbc:Below wb.heap.size wb wc:=by rw[hwc];exact br0.alloc (Nat.le_refl _) _
   have HBC:=zh (q_next hsb hbc)
   refine hK.out _ _ HBC.out (Keeps.below hbc) ?_
   clear hK K hnb hsb hwc hbc
   iterate 6(refine wpFl_qL (v:=?_) rfl (Or.inl ⟨by rfl,?_⟩) ?_;rotate_left;(focus(intro w' hSw;obtain⟨e0,d0,d1,d2,d3,d4⟩:=HC.out w' hSw;go_simp;(try with_reducible rfl);done));simp only[Act.put,zzA,zzB,zzC])
   refine wpFl_qL (v:=.bool true) rfl (Or.inl ⟨by rfl,?_⟩) ?_
   focus(intro w' hSw;go_simp;done)
   simp only[Act.put,zzA,zzB,zzC]
   iterate 11(refine wpFl_qL (v:=?_) rfl (Or.inl ⟨by rfl,?_⟩) ?_;rotate_left;(focus(intro w' hSw;obtain⟨e0,d0,d1,d2,d3,d4⟩:=HC.out w' hSw;have k0:=HCK.out w' hSw;go_simp;(try with_reducible rfl);done));simp only[Act.put,zzA,zzB,zzC])
   refine wpFl_bL rfl (fun wd hnd hsd K hK=>?_)
   go_simp
   go_at_call 68
   refine(HSK.out _ hsd).mono ?_
   rintro e we ⟨rfl,hbe⟩
   have HBE:=zh (q_next hsd hbe)
   refine hK.out _ _ HBE.out (Keeps.below hbe) ?_
   clear hK K hnd hsd hbe
   refine wpFl_qL (v:=.bool D) rfl (Or.inl ⟨by rfl,?_⟩) ?_
   focus(intro w' hSw;go_simp;done)
   simp only[Act.put,zzA,zzB,zzC]
   iterate 2(refine wpFl_qL (v:=?_) rfl (Or.inl ⟨by rfl,?_⟩) ?_;rotate_left;(focus(intro w' hSw;go_simp;(try with_reducible rfl);done));simp only[Act.put,zzA,zzB,zzC])
   refine wpFl_nil ?_
   refine NoPanic.normal ?_
   go_wp2
   go_ret
   exact⟨ret_bool HR.out.symm,HB1.out.trans (HBE.out.mono HB1.out.size)⟩
  ·have HR:=zh (genV_no2 (ks:=ks) (v:=v) (by rw[hc,← HN.out];omega))
   generalize genV ks v=R at *
   clear hf HS HK HK1 hsm
   obtain⟨car,num,stp,val,sl⟩:=v
   simp only at HF HC hc HW1
   subst hc
   have hd:decide ((c:Int) < (n:Int))=false:=decide_eq_false (by omega)
   go_enter Tryz.func65,Tryz.ntmps65
   go_upto_region 1 with fail
   rw[← HW1.out]
   refine wp_region_noPanic ?_
   refine wp_region_lexB [.q 0,.b 1,.q 2,.q 3,.q 4,.q 5,.q 6,.q 7,.q 8,.q 9,.q 10,.q 11,.q 12,.q 13,.q 14,.q 15,.q 16,.q 17,.q 18,.q 19,.q 20,.q 21,.q 22,.q 23] (by kernel_rfl) (by kernel_rfl) (fun _ _ _ _ h=>h) ?_
   refine wpFl_qL (v:=?_) rfl (Or.inl ⟨by rfl,?_⟩) ?_
   rotate_left
   focus(intro w' hSw;obtain⟨e0,d0,d1,d2,d3,d4⟩:=HC.out w' hSw;go_simp;(try with_reducible rfl);done)
   simp only[Act.put,zzA,zzB,zzC]
   refine wpFl_bL rfl (fun wb hnb hsb K hK=>?_)
   go_simp
   go_at_call 62
   refine(HF.out wb).mono ?_
   rintro e wc ⟨rfl,hwc⟩
   have hbc:Below wb.heap.size wb wc:=by rw[hwc];exact br0.alloc (Nat.le_refl _) _
   have HBC:=zh (q_next hsb hbc)
   refine hK.out _ _ HBC.out (Keeps.below hbc) ?_
   clear hK K hnb hsb hwc hbc
   iterate 6(refine wpFl_qL (v:=?_) rfl (Or.inl ⟨by rfl,?_⟩) ?_;rotate_left;(focus(intro w' hSw;obtain⟨e0,d0,d1,d2,d3,d4⟩:=HC.out w' hSw;go_simp;(try with_reducible rfl);done));simp only[Act.put,zzA,zzB,zzC])
   refine wpFl_qL (v:=.bool false) rfl (Or.inl ⟨by rfl,?_⟩) ?_
   focus(intro w' hSw;go_simp;done)
   simp only[Act.put,zzA,zzB,zzC]
   iterate 2(refine wpFl_qL (v:=?_) rfl (Or.inl ⟨by rfl,?_⟩) ?_;rotate_left;(focus(intro w' hSw;go_simp;(try with_reducible rfl);done));simp only[Act.put,zzA,zzB,zzC])
   iterate 11(refine wpFl_qL (v:=undef) rfl (Or.inr ⟨by rfl,rfl⟩) ?_;simp only[Act.put,zzA,zzB,zzC])
   iterate 2(refine wpFl_qL (v:=?_) rfl (Or.inl ⟨by rfl,?_⟩) ?_;rotate_left;(focus(intro w' hSw;go_simp;(try with_reducible rfl);done));simp only[Act.put,zzA,zzB,zzC])
   refine wpFl_nil ?_
   refine NoPanic.normal ?_
   go_wp2
   go_ret
   exact⟨ret_bool HR.out.symm,HB1.out.trans (HBC.out.mono HB1.out.size)⟩
/-! ### Genuine, Encode -/
theorem valid_sizes {ks:List ByteArray}(h:validC ks=true):∀ k∈ks,k.size≤1000:=by
 unfold validC at h
 rw[Bool.and_eq_true]at h
 intro k hk
 have:=of_decide_eq_true (show decide _=true from List.all_eq_true.1 h.2 k hk)
 omega
set_option maxHeartbeats 2000000 in
theorem gen_any {w:World}{kv:Value}{ks:List ByteArray}(hr:SS w kv ks)(v:VoteP)(he:Env w)(hg:3 < w.heap.size) :
  Calls Tryz.prog 21 #[.agg #[kv],.agg #[.int .i64 v.car,.int .i64 v.num,.int .i64 v.stp,.string v.val,.string v.sl]] w fun e w'=>e=.returned (.bool (genuineV ks v))∧Below w.heap.size w w':=by
 obtain⟨a,n,cap,rfl⟩:∃ a n c,kv=.slice a n c:=by obtain⟨a,c,h,_⟩:=hr.opened;exact⟨_,_,_,h⟩
 have HE:=zh he
 have HG:=zh hg
 clear he hg
 obtain⟨W1,hW1⟩:∃ W1,W1=(w.alloc (.cells #[.slice a n cap] 31)).alloc (.cells #[.int .i64 v.car,.int .i64 v.num,.int .i64 v.stp,.string v.val,.string v.sl] 27):=⟨_,rfl⟩
 have HB1:Hid (Below w.heap.size w W1):=zh (by rw[hW1];exact(br0.alloc (Nat.le_refl _) _).alloc (by simp) _)
 have hs1:w.heap.size+1 < W1.heap.size:=by rw[hW1];simp
 have HC:Hid (∀ W,Below W1.heap.size W1 W→W.cell? ⟨w.heap.size,0,none⟩=some (.slice a n cap)∧W.cell? ⟨w.heap.size+1,0,none⟩=some (.int .i64 v.car)∧W.cell? ⟨w.heap.size+1,1,none⟩=some (.int .i64 v.num)∧W.cell? ⟨w.heap.size+1,2,none⟩=some (.int .i64 v.stp)∧W.cell? ⟨w.heap.size+1,3,none⟩=some (.string v.val)∧W.cell? ⟨w.heap.size+1,4,none⟩=some (.string v.sl)):=zh (fun W hW =>
  ⟨cell_of_row W _ 0 _ _ _ ((hW.block w.heap.size (by omega)).trans (by rw[hW1];exact at_past w _ _)),vcellsAt ((hW.block _ hs1).trans (by rw[hW1];exact at_second w _ _))⟩)
 have HV:=zh (qvalid_any (hr.below HB1.out))
 have HI:Hid (validC ks=true→∀ W,Below W1.heap.size W1 W→Calls Tryz.prog 65 #[.agg #[.slice a n cap],.agg #[.int .i64 v.car,.int .i64 v.num,.int .i64 v.stp,.string v.val,.string v.sl]] W fun e w'=>e=.returned (.bool (genV ks v))∧Below W.heap.size W w'):=zh (fun h W hW =>
  isGen_any (hr.below (HB1.out.trans (hW.mono HB1.out.size))) (valid_sizes h) v (HE.out.below (HB1.out.trans (hW.mono HB1.out.size)) HG.out) (Nat.lt_of_lt_of_le HG.out (Nat.le_trans HB1.out.size hW.size)))
 have HR:Hid (genuineV ks v=(validC ks && genV ks v)):=zh rfl
 generalize genuineV ks v=R at *
 generalize genV ks v=G at *
 have HW1:=zh hW1
 clear hW1
 obtain⟨d,hd⟩:∃ d,d=validC ks:=⟨_,rfl⟩
 rw[← hd]at HV HI HR
 clear hd hr
 obtain⟨car,num,stp,val,sl⟩:=v
 simp only at HC HI HW1
 cases d
 ·go_enter Tryz.func21,Tryz.ntmps21
  go_wp2_with fail
  rw[← HW1.out]
  refine HV.out.mono ?_
  rintro e w2 ⟨rfl,hb2⟩
  have HB2:=zh (q_next HB1.out hb2)
  clear hb2
  go_wp2_with fail
  go_ret
  exact⟨ret_bool HR.out.symm,HB2.out⟩
 ·go_enter Tryz.func21,Tryz.ntmps21
  go_wp2_with fail
  rw[← HW1.out]
  refine HV.out.mono ?_
  rintro e w2 ⟨rfl,hb2⟩
  obtain⟨e0,d0,d1,d2,d3,d4⟩:=HC.out w2 hb2
  have HB2:=zh hb2
  clear hb2
  go_wp2_with fail
  refine(HI.out trivial w2 HB2.out).mono ?_
  rintro e w3 ⟨rfl,hb3⟩
  go_wp2_with fail
  go_ret
  exact⟨ret_bool HR.out.symm,(HB1.out.trans (HB2.out.mono HB1.out.size)).trans (hb3.mono (Nat.le_trans HB1.out.size HB2.out.size))⟩
theorem voteE_is (v:VoteP):encV v=voteC v++v.sl:=rfl
set_option maxHeartbeats 2000000 in
set_option maxRecDepth 100000 in
theorem enc_no (v:VoteP)(hf:formedV v=false)(w:World) :
  Calls Tryz.prog 19 #[.agg #[.int .i64 v.car,.int .i64 v.num,.int .i64 v.stp,.string v.val,.string v.sl]] w fun e w'=>e=.returned (.tuple #[.string ⟨#[]⟩,.int .i64 190])∧Below w.heap.size w w':=by
 have HF:=zh (isFormed_any v (w.alloc (.cells #[.int .i64 v.car,.int .i64 v.num,.int .i64 v.stp,.string v.val,.string v.sl] 27)))
 rw[hf]at HF
 have HB1:Hid (Below w.heap.size w ((w.alloc (.cells #[.int .i64 v.car,.int .i64 v.num,.int .i64 v.stp,.string v.val,.string v.sl] 27)).alloc (.cells #[.int .i64 v.car,.int .i64 v.num,.int .i64 v.stp,.string v.val,.string v.sl] 27))):=zh ((br0.alloc (Nat.le_refl _) _).alloc (by simp) _)
 obtain⟨car,num,stp,val,sl⟩:=v
 clear hf
 go_enter Tryz.func19,Tryz.ntmps19
 go_wp2_with (go_at_call 62;refine HF.out.mono ?_;rintro e w1 ⟨rfl,rfl⟩)
 go_ret2
 exact⟨rfl,HB1.out⟩
set_option maxHeartbeats 2000000 in
set_option maxRecDepth 100000 in
theorem enc_yes (v:VoteP)(hf:formedV v=true)(w:World) :
  Calls Tryz.prog 19 #[.agg #[.int .i64 v.car,.int .i64 v.num,.int .i64 v.stp,.string v.val,.string v.sl]] w fun e w'=>e=.returned (.tuple #[.string (encV v),.int .i64 0])∧Below w.heap.size w w':=by
 obtain⟨W1,hW1⟩:∃ W1,W1=w.alloc (.cells #[.int .i64 v.car,.int .i64 v.num,.int .i64 v.stp,.string v.val,.string v.sl] 27):=⟨_,rfl⟩
 have HF:=zh (isFormed_any v W1)
 rw[hf]at HF
 have HCt:=zh (fun W=>content_any' v (small_formed hf) W)
 have HR:=zh (voteE_is v)
 have hcat:¬ 9223372036854775807 < (voteC v).size+v.sl.size:=by
  have h1:=voteC_le (formed_facts hf).2.2.2.1
  have h2:=(formed_facts hf).2.2.2.2
  omega
 generalize encV v=R at *
 generalize voteC v=C at *
 obtain⟨W2,hW2⟩:∃ W2,W2=W1.alloc (.cells #[.int .i64 v.car,.int .i64 v.num,.int .i64 v.stp,.string v.val,.string v.sl] 27):=⟨_,rfl⟩
 rw[← hW2]at HF
 have HB1:Hid (Below w.heap.size w W2):=zh (by rw[hW2,hW1];exact(br0.alloc (Nat.le_refl _) _).alloc (by simp) _)
 have hs1:w.heap.size < W2.heap.size:=by rw[hW2,hW1];simp;omega
 have HC:Hid (∀ W,Below W2.heap.size W2 W→W.cell? ⟨w.heap.size,0,none⟩=some (.int .i64 v.car)∧W.cell? ⟨w.heap.size,1,none⟩=some (.int .i64 v.num)∧W.cell? ⟨w.heap.size,2,none⟩=some (.int .i64 v.stp)∧W.cell? ⟨w.heap.size,3,none⟩=some (.string v.val)∧W.cell? ⟨w.heap.size,4,none⟩=some (.string v.sl)):=zh (fun W hW =>
  vcellsAt ((hW.block _ hs1).trans (by rw[hW2,hW1];exact at_past w _ _)))
 have HW1:=zh hW1
 clear hW1 hf
 obtain⟨car,num,stp,val,sl⟩:=v
 simp only at HF HCt HC HR hW2 HW1 hcat
 have HW2:=zh hW2
 clear hW2
 go_enter Tryz.func19,Tryz.ntmps19
 go_upto_region 1 with fail
 rw[← HW1.out]
 have c1:W1.cell? ⟨w.heap.size,0,none⟩=some (.int .i64 car)∧W1.cell? ⟨w.heap.size,1,none⟩=some (.int .i64 num)∧W1.cell? ⟨w.heap.size,2,none⟩=some (.int .i64 stp)∧W1.cell? ⟨w.heap.size,3,none⟩=some (.string val)∧W1.cell? ⟨w.heap.size,4,none⟩=some (.string sl):=vcellsAt (T:=27) (by rw[HW1.out];exact heap_alloc_new w _)
 obtain⟨d0,d1,d2,d3,d4⟩:=c1
 go_upto_region 3 with(go_at_call 62;refine HF.out.mono ?_;rintro e w1 ⟨rfl,rfl⟩)
 clear d0 d1 d2 d3 d4 HF
 refine wp_region_noPanic ?_
 refine wp_region_lexB [.q 0,.q 2,.q 3,.b 1,.q 4,.q 5,.q 6] (by kernel_rfl) (by kernel_rfl) (fun _ _ _ _ h=>h) ?_
 iterate 3(refine wpFl_qL (v:=?_) rfl (Or.inl ⟨by rfl,?_⟩) ?_;rotate_left;(focus(intro w' hSw;obtain⟨d0,d1,d2,d3,d4⟩:=HC.out w' hSw;go_simp;(try with_reducible rfl);done));simp only[Act.put,zzA,zzB,zzC])
 refine wpFl_bL rfl (fun wb hnb hsb K hK=>?_)
 go_simp
 go_at_call 63
 refine(HCt.out wb).mono ?_
 rintro e wc ⟨rfl,hbc⟩
 have HBC:=zh (q_next hsb hbc)
 refine hK.out _ _ HBC.out (Keeps.below hbc) ?_
 clear hK K hnb hsb hbc
 iterate 3(refine wpFl_qL (v:=?_) rfl (Or.inl ⟨by rfl,?_⟩) ?_;rotate_left;(focus(intro w' hSw;go_simp;(try with_reducible rfl);done));simp only[Act.put,zzA,zzB,zzC])
 refine wpFl_nil ?_
 refine NoPanic.normal ?_
 go_wp2
 go_ret2
 refine⟨?_,HB1.out.trans (HBC.out.mono HB1.out.size)⟩
 rw[HR.out]
 rfl
end Go.Proofs.YtggdcnjaofflbaaGreatDoor
