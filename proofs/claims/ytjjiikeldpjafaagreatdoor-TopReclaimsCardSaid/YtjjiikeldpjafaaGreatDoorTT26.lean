/- TopReclaims: the effects and reversals of a chain with one port. The conditions: the claim is right. -/
import Derived.Test.YtjjiikeldpjafaaGreatDoorTT25
import Derived.Sort.CutIn
namespace Go.Proofs.YtjjiikeldpjafaaGreatDoor
open Go.RowKit Go.BigFrame
attribute [local go_sem] Oper.semAt_some
def effT (c:Mc):Int:=c.ca+c.a0+c.a1
def hapF (l:List St):List Hap:=l.filterMap fun x=>if x.1=4∨x.1=8 then some (x.2.1,0,decide (x.1=8))else none
def hapL (c:Mc):Option Int→List Hap
 | none=>[(effT c,0,false)]
 | some s=>if s < finalT c∧c.cb=false then[(effT c,0,false),(s,0,true)]else[(effT c,0,false)]
theorem hapF_tl (c:Mc)(o:Option Int):hapF (tlOf c o)=hapL c o:=by
 cases o with
 | none=>rfl
 | some s =>
  show hapF (stOne c s)=if s < finalT c∧c.cb=false then[(effT c,0,false),(s,0,true)]else[(effT c,0,false)]
  unfold stOne
  split <;> rfl
theorem hapF_snoc {L:List St}{k:Nat}{x:St}(h:L[k]?=some x):hapF (L.take (k+1))=hapF (L.take k)++(if x.1=4∨x.1=8 then[(x.2.1,0,decide (x.1=8))]else[]):=by
 rw[List.take_add_one,h]
 unfold hapF
 rw[List.filterMap_append]
 congr 1
 show List.filterMap _ [x]=_
 rw[List.filterMap_cons,List.filterMap_nil]
 split <;> simp_all
theorem hapF_len (L:List St):(hapF L).length≤L.length:=List.length_filterMap_le _ _
theorem infoHap3:(Tryz.prog.info? 170).map (fun i=>(i.zero,i.size,i.bytes))=some (some (.agg #[.int .i64 0,.int .i64 0,.bool false]),3,24):=by kernel_rfl
set_option maxHeartbeats 4000000 in
set_option maxRecDepth 100000 in
theorem haps_any {a0 a1 a2 a3 cn cf ct ch ca:Int}{o:Option Int}(hc:ClOk a0 a1 a2 a3 cn cf ct ch ca o)(cb:Bool){w:World}{lv:Value}{bp:Nat}(la:Option Addr)(ln lc:Nat)
  (hp:w.heap[bp]?=some (.cells #[.int .i64 cn,.int .i64 cf,.int .i64 ct,.int .i64 ch,.int .i64 ca,.bool cb,lv] 118 (0,0))) (hv:EvAt w lv o) :
  Calls Tryz.prog 78 #[.agg #[.int .i64 cn,.int .i64 cf,.int .i64 a0,.int .i64 a1,.int .i64 a2,.int .i64 a3,.slice la ln lc,.slice (some ⟨bp,0,none⟩) 1 1]] w fun e w' =>
   ∃ v,e=.returned v∧OwnE w' w.heap.size 170 3 v ((hapL (mcOf a0 a1 a2 a3 cn cf ct ch ca cb) o).map hapC)∧Below w.heap.size w w':=by
 have HEV:=zh hv
 have HA:=zh hc
 have HP:=zh hp
 have hform:∃(a:Option Addr) (m:Nat),lv=.slice a m m:=by
  cases o with
  | none=>exact⟨none,0,hv⟩
  | some s=>obtain⟨eb,h1,-⟩:=hv;exact⟨_,1,h1⟩
 clear hc hp hv
 obtain⟨av,m,rfl⟩:=hform
 obtain⟨mc,hmc⟩:∃ mc,mc=mcOf a0 a1 a2 a3 cn cf ct ch ca cb:=⟨_,rfl⟩
 have hso:∀ s,o=some s→effT mc≤s:=fun s hs=>by rw[hmc];exact(HA.out.ev s hs).1
 have HTL:=zh (fun W (hW:Below w.heap.size w W)=>timeline_any HA.out cb (HEV.out.step hW))
 rw[← hmc]at HTL ⊢
 clear hmc
 obtain⟨W1,hW1⟩:∃ W1,W1=w.alloc (.cells #[.int .i64 cn,.int .i64 cf,.int .i64 a0,.int .i64 a1,.int .i64 a2,.int .i64 a3,.slice la ln lc,.slice (some ⟨bp,0,none⟩) 1 1] 58):=⟨_,rfl⟩
 have HBW1:Hid (Below w.heap.size w W1):=zh (by rw[hW1];exact br0.alloc (Nat.le_refl _) _)
 have HXW1:Hid (W1.heap[w.heap.size]?=some (.cells #[.int .i64 cn,.int .i64 cf,.int .i64 a0,.int .i64 a1,.int .i64 a2,.int .i64 a3,.slice la ln lc,.slice (some ⟨bp,0,none⟩) 1 1] 58 (0,0))):=zh (by rw[hW1];exact heap_alloc_new w _)
 have hsW1:Hid (W1.heap.size=w.heap.size+1):=zh (by rw[hW1];simp)
 have HWW1:=zh hW1
 clear hW1
 obtain⟨d0,d1,d2,d3,d4,d5,d6,d7⟩:=eight_cells HXW1.out
 go_enter Tryz.func78,Tryz.ntmps78
 go_upto_region 1 with fail
 rw[← HWW1.out]
 clear HWW1
 go_wp2
 go_loopw [3,13] (fun l i wr=>(l=.slice none 0 0∧i=.int .i64 0∧wr=W1)∨(i=.int .i64 1∧Hid (Below w.heap.size w wr)∧Hid (OwnE wr w.heap.size 170 3 l ((hapL mc o).map hapC)))) (fun _ i _=>1 - (intOf i).toNat)
 case atStart=>exact .inl ⟨rfl,rfl,rfl⟩
 case round =>
  rcases hrel with⟨rfl,rfl,rfl⟩ | ⟨rfl,hb,hs⟩
  ·obtain⟨p0,p1,p2,p3,p4,p5,p6⟩:=seven_cells (kept_block HP.out HBW1.out)
   have HBA:=zh ((Below.refl wr.heap.size wr).alloc (Nat.le_refl _) (.cells #[.int .i64 cn,.int .i64 cf,.int .i64 ct,.int .i64 ch,.int .i64 ca,.bool cb,.slice av m m] 118))
   have HXA:=zh (heap_alloc_new wr (.cells #[.int .i64 cn,.int .i64 cf,.int .i64 ct,.int .i64 ch,.int .i64 ca,.bool cb,.slice av m m] 118))
   go_upto_region 5 with fail
   obtain⟨pb,hpb⟩:∃ pb,pb=wr.heap.size:=⟨_,rfl⟩
   rw[← hpb]at HXA ⊢
   clear hpb
   have HXC:=zh (kept_block HXW1.out HBA.out)
   have HBW:=zh (q_next HBW1.out HBA.out)
   generalize wr.alloc (.cells #[.int .i64 cn,.int .i64 cf,.int .i64 ct,.int .i64 ch,.int .i64 ca,.bool cb,.slice av m m] 118)=W2 at *
   clear d0 d1 d2 d3 d4 d5 d6 d7 p0 p1 p2 p3 p4 p5 p6 HBA
   obtain⟨d0,d1,d2,d3,d4,d5,d6,d7⟩:=eight_cells HXC.out
   obtain⟨p0,p1,p2,p3,p4,p5,p6⟩:=seven_cells HXA.out
   go_upto_region 6 with(go_at_call 111;(with_reducible refine(HTL.out _ HBW.out).mono ?_);rintro e w5 ⟨tv,rfl,hsl,hb5⟩;have HSL:=zh hsl;have HB5:=zh (q_next HBW.out hb5);clear hsl hb5)
   clear d0 d1 d2 d3 d4 d5 d6 d7 p0 p1 p2 p3 p4 p5 p6
   have HHL:Hid (hapF (tlOf mc o)=hapL mc o):=zh (hapF_tl mc o)
   have HLN:Hid ((tlOf mc o).length=4):=zh (tlOf_len mc o)
   generalize tlOf mc o=tl at *
   obtain⟨ta,tc,rfl,htc1,htc2,-⟩:=id HSL.out
   rw[List.length_map,HLN.out]at htc1 HSL ⊢
   clear htc1 htc2
   go_wp2
   go_loopw [3,30] (fun l i wr=>∃(k:Nat) (v:Value),k≤4∧l=v∧i=.int .i64 k∧Hid (Below w5.heap.size w5 wr)∧Hid (OwnE wr w5.heap.size 170 3 v ((hapF (tl.take k)).map hapC))) (fun _ i _=>4 - (intOf i).toNat)
   case atStart=>exact⟨0,_,by omega,rfl,rfl,zh br0,zh (OwnE.nil _ _ _ _)⟩
   case round =>
    obtain⟨k,v,hk,rfl,rfl,hB,hO⟩:=hrel
    by_cases hlt:k < 4
    ·have tk:(k:Int) < 4:=by omega
     have tk0:(0:Int)≤(k:Int):=by omega
     obtain⟨x,ep⟩:∃ x,tl[k]?=some x:=⟨_,List.getElem?_eq_getElem (by rw[HLN.out];exact hlt)⟩
     obtain⟨b,off,rfl,hb,hcc⟩:=SliceAt.eachT HSL.out (k:=k) (cs:=stCl x) (by rw[List.getElem?_map,ep];rfl)
     obtain⟨st,si,un⟩:=x
     have c0:=cell_keepB hB.out hb (hcc 0 _ rfl)
     have c1:=cell_keepB hB.out hb (hcc 1 _ rfl)
     have c2:=cell_keepB hB.out hb (hcc 2 _ rfl)
     simp only[Nat.add_zero]at c0
     clear hcc hb
     have g2:=hO.out
     obtain⟨va,vc,hv⟩:=OwnE.form g2
     have hLl:((hapF (tl.take k)).map hapC).length≤4:=by
      rw[List.length_map]
      have:=hapF_len (tl.take k)
      rw[List.length_take]at this
      omega
     obtain⟨L,hL⟩:∃ L,L=(hapF (tl.take k)).map hapC:=⟨_,rfl⟩
     clear hO
     have HB6:Hid (Below w5.heap.size w5 (wr.alloc (.cells #[.int .i64 st,.int .i64 si,.int .i64 un] 217))):=zh (hB.out.alloc hB.out.size _)
     have HX6:=zh (heap_alloc_new wr (.cells #[.int .i64 st,.int .i64 si,.int .i64 un] 217))
     replace g2:=OwnE.alloc g2 (.cells #[.int .i64 st,.int .i64 si,.int .i64 un] 217)
     have hcl:=zh (And.intro hv g2)
     clear hv g2
     go_upto_region 9 with fail
     generalize wr.alloc (.cells #[.int .i64 st,.int .i64 si,.int .i64 un] 217)=W6 at *
     generalize wr.heap.size=sb at *
     obtain⟨c0,c1,c2⟩:=three_cellsC HX6.out
     obtain⟨hv,g2⟩:=hcl.out
     clear hcl
     by_cases h4:st=4
     ·subst h4
      have HMP:Hid ((hapF (tl.take (k+1))).map hapC=L++[[.int .i64 si,.int .i64 0,.bool false]]):=zh (by rw[hapF_snoc ep,List.map_append,hL];rfl)
      rw[← hL]at g2 hv hLl
      subst hv
      have G2:=zh g2
      clear g2 hL
      have HC0:=zh (heap_alloc_new W6 (.cells #[.int .i64 si,.int .i64 0,.bool false] 170))
      have hsz6:=HB6.out.size
      go_wp2_with (refine wpList_append_el 167 170 3 24 _ (by kernel_rfl) infoHap3 rfl (by decide) rfl (.tmp 42) (.tmp 50) rfl w5.heap.size (.slice va L.length vc) L rfl (OwnE.alloc G2.out _) W6.heap.size [.int .i64 si,.int .i64 0,.bool false] rfl (fun u hu=>by simp only[List.mem_cons,List.not_mem_nil,or_false]at hu;rcases hu with rfl | rfl | rfl <;> rfl) rfl (0,0) (heap_alloc_new _ _) (by unfold maxLen;omega) (by omega) (by simp;omega) ?_;intro v3 w3 ho3 hg3;have HG3:=zh hg3;have HO3:=zh ho3;clear ho3 hg3)
      have HB7:Hid (Below w5.heap.size w5 w3):=zh ((HB6.out.alloc hsz6 _).grown HG3.out (by simp;omega) (fun j e=>OwnE.ge G2.out j e))
      go_roundw
      case rel=>exact⟨k+1,v3,by omega,rfl,by go_num,HB7,zh (by rw[HMP.out];exact HO3.out)⟩
      case measure=>simp[intOf];omega
     ·by_cases h8:st=8
      ·subst h8
       have HMP:Hid ((hapF (tl.take (k+1))).map hapC=L++[[.int .i64 si,.int .i64 0,.bool true]]):=zh (by rw[hapF_snoc ep,List.map_append,hL];rfl)
       rw[← hL]at g2 hv hLl
       subst hv
       have G2:=zh g2
       clear g2 hL
       have HC0:=zh (heap_alloc_new W6 (.cells #[.int .i64 si,.int .i64 0,.bool true] 170))
       have hsz6:=HB6.out.size
       go_wp2_with (refine wpList_append_el 167 170 3 24 _ (by kernel_rfl) infoHap3 rfl (by decide) rfl (.tmp 42) (.tmp 50) rfl w5.heap.size (.slice va L.length vc) L rfl (OwnE.alloc G2.out _) W6.heap.size [.int .i64 si,.int .i64 0,.bool true] rfl (fun u hu=>by simp only[List.mem_cons,List.not_mem_nil,or_false]at hu;rcases hu with rfl | rfl | rfl <;> rfl) rfl (0,0) (heap_alloc_new _ _) (by unfold maxLen;omega) (by omega) (by simp;omega) ?_;intro v3 w3 ho3 hg3;have HG3:=zh hg3;have HO3:=zh ho3;clear ho3 hg3)
       have HB7:Hid (Below w5.heap.size w5 w3):=zh ((HB6.out.alloc hsz6 _).grown HG3.out (by simp;omega) (fun j e=>OwnE.ge G2.out j e))
       go_roundw
       case rel=>exact⟨k+1,v3,by omega,rfl,by go_num,HB7,zh (by rw[HMP.out];exact HO3.out)⟩
       case measure=>simp[intOf];omega
      ·have e4:(st == (4:Int))=false:=by simpa using h4
       have e8:(st == (8:Int))=false:=by simpa using h8
       have HMP:Hid ((hapF (tl.take (k+1))).map hapC=L):=zh (by rw[hapF_snoc ep,if_neg (fun h=>h.elim h4 h8),List.append_nil,hL])
       rw[← hL]at g2
       have G2:=zh g2
       clear g2 hL hv h4 h8
       go_wp2
       go_roundw
       case rel=>exact⟨k+1,_,by omega,rfl,by go_num,HB6,zh (by rw[HMP.out];exact G2.out)⟩
       case measure=>simp[intOf];omega
    ·obtain rfl:k=4:=by omega
     have h0:=hO.out
     rw[List.take_of_length_le (by rw[HLN.out];exact Nat.le_refl _),HHL.out]at h0
     have HO:=zh (OwnE.mono h0 HB5.out.size)
     clear h0
     have HB7:=zh (HB5.out.trans (hB.out.mono HB5.out.size))
     clear hO
     go_wp2
     go_roundw
     case rel=>exact .inr ⟨by go_num,HB7,HO⟩
     case measure=>decide
  ·have hL:hapL mc o=[(effT mc,0,false)]∨∃ s,effT mc≤s∧hapL mc o=[(effT mc,0,false),(s,0,true)]:=by
    cases o with
    | none=>exact .inl rfl
    | some s =>
     by_cases h:s < finalT mc∧mc.cb=false
     ·exact .inr ⟨s,hso s rfl,by show(if _ then _ else _)=_;rw[if_pos h]⟩
     ·exact .inl (by show(if _ then _ else _)=_;rw[if_neg h])
   clear hso HA HEV HP HTL HXW1 HBW1 hsW1 d0 d1 d2 d3 d4 d5 d6 d7
   rcases hL with hL | ⟨s,hts,hL⟩
   ·rw[hL]at hs
    obtain⟨a,c,rfl⟩:=OwnE.form hs.out
    have HSO:=zh (sortOne_any a c wr)
    go_wp2_with (go_at_call 112;(with_reducible refine HSO.out.mono ?_);rintro e w6 ⟨⟨v,rfl⟩,h6⟩;have H6:=zh h6;clear h6)
    go_ret
    exact⟨_,rfl,by rw[hL];exact OwnE.far hs.out H6.out (Nat.le_refl _),q_next hb.out H6.out⟩
   ·rw[hL]at hs
    obtain⟨a,c,hv3,-,-,h3⟩:=OwnE.slice hs.out (fun c hc=>by obtain⟨x,_,rfl⟩:=List.mem_map.1 hc;rfl)
    subst hv3
    rcases h3 with h3 | ⟨b,off,rfl,hlt,hcc⟩
    ·cases h3
    have HSO:=zh (sortTwo_any (c:=c) hts (⟨by simpa using hcc 0 _ rfl 0 _ rfl,by simpa using hcc 0 _ rfl 1 _ rfl,by simpa using hcc 0 _ rfl 2 _ rfl,by simpa using hcc 1 _ rfl 0 _ rfl,by simpa using hcc 1 _ rfl 1 _ rfl,by simpa using hcc 1 _ rfl 2 _ rfl,hlt⟩:TwoH wr b off (effT mc) s))
    clear hcc
    go_wp2_with (go_at_call 112;(with_reducible refine HSO.out.mono ?_);rintro e w6 ⟨⟨v,rfl⟩,h6⟩;have H6:=zh h6;clear h6)
    go_ret
    exact⟨_,rfl,by rw[hL];exact OwnE.far hs.out H6.out (Nat.le_refl _),q_next hb.out H6.out⟩
end Go.Proofs.YtjjiikeldpjafaaGreatDoor
/- TopReclaims: slices.Index at ports; a turn that is handed on. The conditions: what the blocks hold. -/
namespace Go.Proofs.YtjjiikeldpjafaaGreatDoor
open Go.RowKit Go.BigFrame
attribute [local go_sem] Oper.semAt_some
set_option maxHeartbeats 1000000 in
theorem idxI_nil (x:Value)(w:World):Calls Tryz.prog 79 #[.slice none 0 0,x] w fun e w'=>e=.returned (.int .i64 (-1))∧w'=w:=by
 go_enter Tryz.func79,Tryz.ntmps79
 go_wp2
 go_loopw [8] (fun i wr=>i=.int .i64 0∧wr=w) (fun _ _=>0)
 case atStart=>exact⟨rfl,rfl⟩
 case round =>
  obtain⟨rfl,rfl⟩:=hrel
  go_wp2
  go_ret
  exact⟨rfl,rfl⟩
set_option maxHeartbeats 1000000 in
theorem idxI_one {w:World}{b c:Nat}(hb:w.cell? ⟨b,0,none⟩=some (.int .i64 0)):Calls Tryz.prog 79 #[.slice (some ⟨b,0,none⟩) 1 c,.int .i64 0] w fun e w'=>e=.returned (.int .i64 0)∧w'=w:=by
 go_enter Tryz.func79,Tryz.ntmps79
 go_wp2
 go_loopw [8] (fun i wr=>i=.int .i64 0∧wr=w) (fun _ _=>0)
 case atStart=>exact⟨rfl,rfl⟩
 case round =>
  obtain⟨rfl,rfl⟩:=hrel
  go_wp2
  go_ret
  exact⟨rfl,rfl⟩
abbrev Mom:=(Int × Int × Int) × (Nat × Nat) × Int
def moE (x:Mom):Array Value:=#[.agg #[.int .i64 x.1.1,.int .i64 x.1.2.1,.int .i64 x.1.2.2,.slice (some ⟨x.2.1.1,0,none⟩) x.2.1.2 x.2.1.2,.int .i64 x.2.2]]
theorem five_cells {W:World}{b:Nat}{c0 c1 c2 c3 c4:Value}{T:TypeId}(h:W.heap[b]?=some (.cells #[c0,c1,c2,c3,c4] T (0,0))) :
  W.cell? ⟨b,0,none⟩=some c0∧W.cell? ⟨b,1,none⟩=some c1∧W.cell? ⟨b,2,none⟩=some c2∧W.cell? ⟨b,3,none⟩=some c3∧W.cell? ⟨b,4,none⟩=some c4 :=
 ⟨cell_of_row W b 0 _ _ _ h,cell_of_row W b 1 _ _ _ h,cell_of_row W b 2 _ _ _ h,cell_of_row W b 3 _ _ _ h,cell_of_row W b 4 _ _ _ h⟩
structure TuAt (cn cf ct ch ca a0 a1 a2 a3:Int) (cb:Bool) (lv pv:Value) (xb fb yb bp lb:Nat) (fv:Value) (W:World):Prop where
 c:W.heap[xb]?=some (.cells #[.int .i64 cn,.int .i64 cf,.int .i64 a0,.int .i64 a1,.int .i64 a2,.int .i64 a3,lv,.slice (some ⟨bp,0,none⟩) 1 1] 58 (0,0))
 p:W.heap[bp]?=some (.cells #[.int .i64 cn,.int .i64 cf,.int .i64 ct,.int .i64 ch,.int .i64 ca,.bool cb,pv] 118 (0,0))
 f:W.heap[fb]?=some (.cells #[fv] 60 (0,0))
 y:W.heap[yb]?=some (.cells #[.func (.yield lb) #[] #[]] 166 (0,0))
section
variable {cn cf ct ch ca a0 a1 a2 a3:Int} {cb:Bool} {lv pv:Value} {xb fb yb bp lb:Nat} {fv:Value} {W W':World}
theorem TuAt.step (h:TuAt cn cf ct ch ca a0 a1 a2 a3 cb lv pv xb fb yb bp lb fv W)(hb:Below W.heap.size W W'):TuAt cn cf ct ch ca a0 a1 a2 a3 cb lv pv xb fb yb bp lb fv W' :=
 ⟨kept_block h.c hb,kept_block h.p hb,kept_block h.f hb,kept_block h.y hb⟩
end
set_option maxHeartbeats 4000000 in
set_option maxRecDepth 100000 in
theorem turnNone_any {F:Fence}{n m:Nat}(hF:Wide F)(hro:F.round=none){cn cf ct ch ca a0 a1 a2 a3:Int}{cb:Bool}{lv pv:Value}{xb fb yb bp lb:Nat}{fa:Option Addr}{fc:Nat}{W:World}(hS:TuAt cn cf ct ch ca a0 a1 a2 a3 cb lv pv xb fb yb bp lb (.slice fa 0 fc) W) 
  (t k:Int) {R:Nat × Nat→Ending→World→Prop} (hY:∀ v W1,Below W.heap.size W W1→YieldAt F m Tryz.prog lb (moE ((t,0,k),v,cf)) W1 (R v)) (hR:∀ v e W',R v e W'→∃ b,e=.returned (.bool b)) :
  CallsIn F n Tryz.prog 77 #[.int .i64 t,.int .i64 0,.int .i64 k,.pointer (some ⟨xb,0,none⟩),.pointer (some ⟨fb,0,none⟩),.pointer (some ⟨yb,0,none⟩)] W fun e W'=>∃ v,R v e W':=by
 have HS:=zh hS
 have HY:=zh hY
 have HR:=zh hR
 skip
 have hmk:∀ W:World,(Instr.makeSlice 60 (.int .i64 0) (.int .i64 0)).run Tryz.prog W=.ok (.slice (some ⟨W.heap.size,0,none⟩) 0 0) (W.alloc (.cells #[] 3)):=fun _=>by kernel_rfl
 clear hS hY hR
 refine callsIn_of_wp Tryz.func77 rfl (hF.1 _) ?_ hro
 simp only[Tryz.ntmps77,List.size_toArray,List.length_cons,List.length_nil,Nat.reduceAdd,Nat.reduceSub,Array.replicate_succ,Array.replicate_zero,List.push_toArray,List.append_toArray,List.nil_append,List.cons_append]
 obtain⟨d0,d1,d2,d3,d4,d5,d6,d7⟩:=eight_cells HS.out.c
 have f0:=cell_of_row W _ 0 _ _ _ HS.out.f
 have HM2:=zh (heap_alloc_new W (.cells #[.int .i64 t,.int .i64 0,.int .i64 k,.slice none 0 0,.int .i64 cf] 124))
 have HB2:=zh ((Below.refl W.heap.size W).alloc (Nat.le_refl _) (.cells #[.int .i64 t,.int .i64 0,.int .i64 k,.slice none 0 0,.int .i64 cf] 124))
 gi_upto_region 2 with fail
 clear d0 d1 d2 d3 d4 d5 d6 d7 f0
 have HS2:=zh (HS.out.step HB2.out)
 generalize W.alloc (.cells #[.int .i64 t,.int .i64 0,.int .i64 k,.slice none 0 0,.int .i64 cf] 124)=W2 at *
 obtain⟨mb,hmb⟩:∃ mb,mb=W.heap.size:=⟨_,rfl⟩
 rw[← hmb]at HM2 ⊢
 have HMB:Hid (W.heap.size≤mb):=zh (by omega)
 clear hmb
 have f0:=cell_of_row W2 _ 0 _ _ _ HS2.out.f
 have HA3:=zh ((Below.refl W2.heap.size W2).alloc (Nat.le_refl _) (.cells #[] 3))
 have HG3:=zh (heap_alloc_new W2 (.cells #[] 3))
 have HM3:=zh (kept_block HM2.out HA3.out)
 have HS3:=zh (HS2.out.step HA3.out)
 obtain⟨m0,m1,m2,m3,m4⟩:=five_cells HM3.out
 have zf:∀ j,(W2.alloc (.cells #[] 3)).frozen? ⟨mb,j,none⟩=false:=fun j=>by unfold World.frozen?;rw[HM3.out];simp
 have HB3:=zh (q_next HB2.out HA3.out)
 gi_upto_region 3 with fail
 have hne:W2.heap.size≠mb:=fun e=>by have:=(ltA HM2.out);omega
 have HB4:=zh (HB3.out.setCell (p:=⟨mb,3,none⟩) HMB.out (.slice (some ⟨W2.heap.size,0,none⟩) 0 0))
 have hm4:=heap_setCell_same (i:=3) (.slice (some ⟨W2.heap.size,0,none⟩) 0 0) HM3.out
 simp only[List.setIfInBounds_toArray,List.set_cons_zero,List.set_cons_succ]at hm4
 have HG4:=zh ((Below.heap_setCell (W2.alloc (.cells #[] 3)) ⟨mb,3,none⟩ (.slice (some ⟨W2.heap.size,0,none⟩) 0 0) _ hne).trans HG3.out)
 have HM4:=zh hm4
 have HS4:=zh (HS.out.step HB4.out)
 clear m0 m1 m2 m3 m4 zf f0 HM3 HS3 HB3 HA3 hm4 HG3
 generalize (W2.alloc (.cells #[] 3)).setCell ⟨mb,3,none⟩ (.slice (some ⟨W2.heap.size,0,none⟩) 0 0)=W4 at *
 have HGB:Hid (W.heap.size≤W2.heap.size):=zh HB2.out.size
 generalize W2.heap.size=g at *
 obtain⟨m0,m1,m2,m3,m4⟩:=five_cells HM4.out
 have f0:=cell_of_row W4 _ 0 _ _ _ HS4.out.f
 have hcp:(Builtin.copy_ #[60,60] 3 #[.slice (some ⟨g,0,none⟩) 0 0,.slice fa 0 fc]).run Tryz.prog W4=.ok (.int .i64 0) W4:=run_copy_none W4 _ _ _ 3 _ _ 0 0 0 fc (by kernel_rfl) (by kernel_rfl) rfl
 gi_upto_region 7 with fail
 clear m0 m1 m2 m3 m4 f0
 obtain⟨WZ,hWZ⟩:∃ WZ,WZ=W4:=⟨_,rfl⟩
 rw[← hWZ]at HB4 HM4 HS4 ⊢
 have HBZ:=HB4
 have HMZ:=HM4
 have HSZ:=HS4
 clear hWZ
 obtain⟨fn,tmps,assign,body,hy,hRR⟩:=yieldAt_any hF (HY.out (g,0) WZ HBZ.out) (n - 1)
 dsimp only [moE]at hy
 obtain⟨m0,m1,m2,m3,m4⟩:=five_cells HMZ.out
 have gy:=cell_of_row WZ _ 0 _ _ _ HSZ.out.y
 gi_wp2
 refine⟨fun h=>(by rw[hF.2.1]at h;cases h),hRR.mono ?_⟩
 rintro r W9 hr
 obtain⟨b,rfl⟩:=HR.out _ _ _ hr
 clear hy hRR m0 m1 m2 m3 m4 gy
 gi_wp2
 go_ret
 exact⟨_,hr⟩
set_option maxHeartbeats 4000000 in
set_option maxRecDepth 100000 in
theorem turnOne_any {F:Fence}{n m:Nat}(hF:Wide F)(hro:F.round=none){cn cf ct ch ca a0 a1 a2 a3:Int}{cb:Bool}{lv pv:Value}{xb fb yb bp lb:Nat}{fg fc:Nat}{W:World}(hS:TuAt cn cf ct ch ca a0 a1 a2 a3 cb lv pv xb fb yb bp lb (.slice (some ⟨fg,0,none⟩) 1 fc) W)(hg:W.cell? ⟨fg,0,none⟩=some (.int .i64 0)∧fg < W.heap.size)
  (t k:Int) {R:Nat × Nat→Ending→World→Prop} (hY:∀ v W1,Below W.heap.size W W1→YieldAt F m Tryz.prog lb (moE ((t,0,k),v,ct)) W1 (R v)) (hR:∀ v e W',R v e W'→∃ b,e=.returned (.bool b)) :
  CallsIn F n Tryz.prog 77 #[.int .i64 t,.int .i64 0,.int .i64 k,.pointer (some ⟨xb,0,none⟩),.pointer (some ⟨fb,0,none⟩),.pointer (some ⟨yb,0,none⟩)] W fun e W'=>∃ v,R v e W':=by
 have HS:=zh hS
 have HY:=zh hY
 have HR:=zh hR
 have HG:=zh hg
 have hmk:∀ W:World,(Instr.makeSlice 60 (.int .i64 1) (.int .i64 1)).run Tryz.prog W=.ok (.slice (some ⟨W.heap.size,0,none⟩) 1 1) (W.alloc (.cells #[.int .i64 0] 3)):=fun _=>by kernel_rfl
 clear hS hY hR hg
 refine callsIn_of_wp Tryz.func77 rfl (hF.1 _) ?_ hro
 simp only[Tryz.ntmps77,List.size_toArray,List.length_cons,List.length_nil,Nat.reduceAdd,Nat.reduceSub,Array.replicate_succ,Array.replicate_zero,List.push_toArray,List.append_toArray,List.nil_append,List.cons_append]
 obtain⟨d0,d1,d2,d3,d4,d5,d6,d7⟩:=eight_cells HS.out.c
 have f0:=cell_of_row W _ 0 _ _ _ HS.out.f
 have HM2:=zh (heap_alloc_new W (.cells #[.int .i64 t,.int .i64 0,.int .i64 k,.slice none 0 0,.int .i64 cf] 124))
 have HB2:=zh ((Below.refl W.heap.size W).alloc (Nat.le_refl _) (.cells #[.int .i64 t,.int .i64 0,.int .i64 k,.slice none 0 0,.int .i64 cf] 124))
 gi_upto_region 2 with fail
 clear d0 d1 d2 d3 d4 d5 d6 d7 f0
 have HS2:=zh (HS.out.step HB2.out)
 generalize W.alloc (.cells #[.int .i64 t,.int .i64 0,.int .i64 k,.slice none 0 0,.int .i64 cf] 124)=W2 at *
 obtain⟨mb,hmb⟩:∃ mb,mb=W.heap.size:=⟨_,rfl⟩
 rw[← hmb]at HM2 ⊢
 have HMB:Hid (W.heap.size≤mb):=zh (by omega)
 clear hmb
 have f0:=cell_of_row W2 _ 0 _ _ _ HS2.out.f
 have HA3:=zh ((Below.refl W2.heap.size W2).alloc (Nat.le_refl _) (.cells #[.int .i64 0] 3))
 have HG3:=zh (heap_alloc_new W2 (.cells #[.int .i64 0] 3))
 have HM3:=zh (kept_block HM2.out HA3.out)
 have HS3:=zh (HS2.out.step HA3.out)
 obtain⟨m0,m1,m2,m3,m4⟩:=five_cells HM3.out
 have zf:∀ j,(W2.alloc (.cells #[.int .i64 0] 3)).frozen? ⟨mb,j,none⟩=false:=fun j=>by unfold World.frozen?;rw[HM3.out];simp
 have HB3:=zh (q_next HB2.out HA3.out)
 gi_upto_region 3 with fail
 have hne:W2.heap.size≠mb:=fun e=>by have:=(ltA HM2.out);omega
 have HB4:=zh (HB3.out.setCell (p:=⟨mb,3,none⟩) HMB.out (.slice (some ⟨W2.heap.size,0,none⟩) 1 1))
 have hm4:=heap_setCell_same (i:=3) (.slice (some ⟨W2.heap.size,0,none⟩) 1 1) HM3.out
 simp only[List.setIfInBounds_toArray,List.set_cons_zero,List.set_cons_succ]at hm4
 have HG4:=zh ((Below.heap_setCell (W2.alloc (.cells #[.int .i64 0] 3)) ⟨mb,3,none⟩ (.slice (some ⟨W2.heap.size,0,none⟩) 1 1) _ hne).trans HG3.out)
 have HM4:=zh hm4
 have HS4:=zh (HS.out.step HB4.out)
 clear m0 m1 m2 m3 m4 zf f0 HM3 HS3 HB3 HA3 hm4 HG3
 generalize (W2.alloc (.cells #[.int .i64 0] 3)).setCell ⟨mb,3,none⟩ (.slice (some ⟨W2.heap.size,0,none⟩) 1 1)=W4 at *
 have HGB:Hid (W.heap.size≤W2.heap.size):=zh HB2.out.size
 generalize W2.heap.size=g at *
 obtain⟨m0,m1,m2,m3,m4⟩:=five_cells HM4.out
 have f0:=cell_of_row W4 _ 0 _ _ _ HS4.out.f
 have s0:=(HB4.out.cell (p:=⟨fg,0,none⟩) HG.out.2).trans HG.out.1
 have hcp:(Builtin.copy_ #[60,60] 3 #[.slice (some ⟨g,0,none⟩) 1 1,.slice (some ⟨fg,0,none⟩) 1 fc]).run Tryz.prog W4=.ok (.int .i64 1) (W4.setCell ⟨g,0,none⟩ (.int .i64 0)):=run_copy_cells W4 _ _ _ 3 g 0 1 1 ⟨fg,0,none⟩ 1 fc [.int .i64 0] (by kernel_rfl) (by kernel_rfl) rfl (fun j v hj=>by
  cases j with
  | zero=>obtain rfl:=Option.some.inj hj;exact s0
  | succ j=>cases hj) (fun j hj=>by
  obtain rfl:j=0:=by simp at hj;exact hj
  rw[cell_of_row W4 _ (0+0) _ _ _ HG4.out];rfl) (fun j hj=>by unfold World.frozen?;rw[HG4.out];simp) (fun v hv=>by rw[List.mem_singleton.1 hv];rfl)
 gi_upto_region 4 with fail
 have HB5:=zh (HB4.out.setCell (p:=⟨g,0,none⟩) HGB.out (.int .i64 0))
 have HM5:=zh ((Below.heap_setCell W4 ⟨g,0,none⟩ (.int .i64 0) _ (Ne.symm hne)).trans HM4.out)
 clear m0 m1 m2 m3 m4 f0 hcp s0 HG4 HM4 HB4 HS4
 have HS5:=zh (HS.out.step HB5.out)
 have HF5:=zh ((HB5.out.cell (p:=⟨fg,0,none⟩) HG.out.2).trans HG.out.1)
 have HL5:Hid (fg < (W4.setCell ⟨g,0,none⟩ (.int .i64 0)).heap.size):=zh (Nat.lt_of_lt_of_le HG.out.2 HB5.out.size)
 generalize W4.setCell ⟨g,0,none⟩ (.int .i64 0)=W5 at *
 have f0:=cell_of_row W5 _ 0 _ _ _ HS5.out.f
 gi_upto_region 6 with fail
 clear f0
 have wz:IntKind.i64.wrap 0=0:=by decide +kernel
 have HD:Hid (∀ V,Below W5.heap.size W5 V→(V.cell? ⟨xb,7,none⟩=some (.slice (some ⟨bp,0,none⟩) 1 1)∧V.cell? ⟨fb,0,none⟩=some (.slice (some ⟨fg,0,none⟩) 1 fc)∧V.cell? ⟨fg,0,none⟩=some (.int .i64 0)∧V.cell? ⟨bp,2,none⟩=some (.int .i64 ct))):=zh (fun V hV=>by
  have hx:=HS5.out.step hV
  exact⟨cell_of_row V _ 7 _ _ _ hx.c,cell_of_row V _ 0 _ _ _ hx.f,(hV.cell (p:=⟨fg,0,none⟩) HL5.out).trans HF5.out,cell_of_row V _ 2 _ _ _ hx.p⟩)
 refine wpIn_of_wp hF hro ?_
 refine wp_region_noPanic ?_
 refine wp_region_lexB [.q 0,.q 1,.q 2,.q 3,.q 4,.q 5,.q 6,.q 7,.q 8,.q 9,.q 10,.q 11,.l 12] (by kernel_rfl) (by kernel_rfl) (fun _ _ _ _ h=>h) ?_
 iterate 12(refine wpFl_qL (v:=?_) rfl (Or.inl ⟨by rfl,?_⟩) ?_;rotate_left;(focus(intro w' hSw;obtain⟨g0,g1,g2,g3⟩:=HD.out w' hSw;go_simp;(try with_reducible rfl);done));simp only[Act.put,zzA,zzB,zzC])
 refine wpFl_lL rfl (fun wc hnc hsc K hK=>?_)
 have HMc:=zh (kept_block HM5.out hsc)
 have HBc:=zh (HB5.out.trans (hsc.mono HB5.out.size))
 obtain⟨m0,m1,m2,m3,m4⟩:=five_cells HMc.out
 have zf:∀ i,wc.frozen? ⟨mb,i,none⟩=false:=(fun i=>by unfold World.frozen?;rw[HMc.out];simp)
 go_simp
 have HBZ:=zh (HBc.out.setCell (p:=⟨mb,4,none⟩) HMB.out (.int .i64 ct))
 have hmz:=heap_setCell_same (i:=4) (.int .i64 ct) HMc.out
 simp only[List.setIfInBounds_toArray,List.set_cons_zero,List.set_cons_succ]at hmz
 have HMZ:=zh hmz
 have HSZ:=zh (HS.out.step HBZ.out)
 refine hK.out _ _ (NoPanic.normal ?_)
 clear hK K hnc hsc m0 m1 m2 m3 m4 zf hmz HMc HBc HD HF5 HL5 HS5 HB5 HM5
 generalize wc.setCell ⟨mb,4,none⟩ (.int .i64 ct)=WZ at *
 obtain⟨fn,tmps,assign,body,hy,hRR⟩:=yieldAt_any hF (HY.out (g,1) WZ HBZ.out) (n - 1)
 dsimp only [moE]at hy
 obtain⟨m0,m1,m2,m3,m4⟩:=five_cells HMZ.out
 have gy:=cell_of_row WZ _ 0 _ _ _ HSZ.out.y
 gi_wp2
 refine⟨fun h=>(by rw[hF.2.1]at h;cases h),hRR.mono ?_⟩
 rintro r W9 hr
 obtain⟨b,rfl⟩:=HR.out _ _ _ hr
 clear hy hRR m0 m1 m2 m3 m4 gy
 gi_wp2
 go_ret
 exact⟨_,hr⟩
end Go.Proofs.YtjjiikeldpjafaaGreatDoor
/- TopReclaims: the moments of a chain with one port. The conditions: the claim is right. -/
namespace Go.Proofs.YtjjiikeldpjafaaGreatDoor
open Go.RowKit Go.BigFrame
attribute [local go_sem] Oper.semAt_some
def MoKp (_:Nat)(A B:World):Prop:=A.heap.size≤B.heap.size∧∀(k:Nat) (cs:Array Value) (T:TypeId),A.heap[k]?=some (.cells cs T (0,0))→T≠124→B.heap[k]?=some (.cells cs T (0,0))
theorem MoKp.trans {nb:Nat}{A B C:World}(h:MoKp nb A B)(h':MoKp nb B C):MoKp nb A C:=⟨Nat.le_trans h.1 h'.1,fun k cs T g1 g2=>h'.2 k cs T (h.2 k cs T g1 g2) g2⟩
theorem MoKp.below {nb:Nat}{A B:World}(h:Below A.heap.size A B):MoKp nb A B:=⟨h.size,fun _ _ _ g _=>kept_block g h⟩
theorem MoKp.grown {nb:Nat}{A B:World}(h:A.grownBy B none):MoKp nb A B:=⟨h.size,fun _ _ _ g _=>(h.block _ (ltA g) (by simp)).trans g⟩
theorem OwnE.kp {nb:Nat}{A B:World}(h:MoKp nb A B){base size:Nat}{e:TypeId}{v:Value}{css:List (List Value)}(ho:OwnE A base e size v css)(he:e≠124):OwnE B base e size v css:=by
 obtain⟨h1,h2⟩:=ho
 refine⟨h1,h2.imp_right ?_⟩
 rintro⟨g,cap,cur,hv,hb,hg,r⟩
 exact⟨g,cap,cur,hv,hb,h.2 _ _ _ hg he,r⟩
theorem yieldAt_mono {F:Fence}{m:Nat}{P:Program}{l:Nat}{args:Array Value}{W:World}{R R':Ending→World→Prop}(h:YieldAt F m P l args W R)(hRR:∀ e W',R e W'→R' e W'):YieldAt F m P l args W R':=by
 obtain⟨fn,tmps,assign,body,h1,h2,h3⟩:=h
 exact⟨fn,tmps,assign,body,h1,h2,fun c cs hr=>let ⟨e,w',g1,g2⟩:=h3 c cs hr;⟨e,w',hRR _ _ g1,g2⟩⟩
section
variable {cn cf ct ch ca a0 a1 a2 a3:Int} {cb:Bool} {lv pv:Value} {xb fb yb bp lb:Nat} {fv:Value} {W W':World}
theorem TuAt.kp {nb:Nat}(h:TuAt cn cf ct ch ca a0 a1 a2 a3 cb lv pv xb fb yb bp lb fv W)(hb:MoKp nb W W'):TuAt cn cf ct ch ca a0 a1 a2 a3 cb lv pv xb fb yb bp lb fv W' :=
 ⟨hb.2 _ _ _ h.c (by decide),hb.2 _ _ _ h.p (by decide),hb.2 _ _ _ h.f (by decide),hb.2 _ _ _ h.y (by decide)⟩
theorem TuAt.put (h:TuAt cn cf ct ch ca a0 a1 a2 a3 cb lv pv xb fb yb bp lb fv W)(v:Value):TuAt cn cf ct ch ca a0 a1 a2 a3 cb lv pv xb fb yb bp lb v (W.setCell ⟨fb,0,none⟩ v):=by
 have k:∀ {k:Nat} {cs:Array Value} {T:TypeId},W.heap[k]?=some (.cells cs T (0,0))→T≠60→(W.setCell ⟨fb,0,none⟩ v).heap[k]?=some (.cells cs T (0,0)):=fun g1 g2=>(Below.heap_setCell _ _ _ _ (unlikeC g1 h.f g2)).trans g1
 refine⟨k h.c (by decide),k h.p (by decide),?_,k h.y (by decide)⟩
 have:=heap_setCell_same (i:=0) v h.f
 simpa using this
end
def moL (c:Mc):Option Int→List (Int × Int)
 | none=>[(effT c,c.ct)]
 | some s=>if s < finalT c∧c.cb=false then[(effT c,c.ct),(s,c.cf)]else[(effT c,c.ct)]
def moK (x:Mom):Int × Int:=(x.1.1,x.2.2)
theorem hap_cases (c:Mc)(o:Option Int)(hso:∀ s,o=some s→effT c≤s):(hapL c o=[(effT c,0,false)]∧moL c o=[(effT c,c.ct)])∨∃ s,effT c≤s∧hapL c o=[(effT c,0,false),(s,0,true)]∧moL c o=[(effT c,c.ct),(s,c.cf)]:=by
 cases o with
 | none=>exact .inl ⟨rfl,rfl⟩
 | some s =>
  by_cases h:s < finalT c∧c.cb=false
  ·exact .inr ⟨s,hso s rfl,by show(if _ then _ else _)=_;rw[if_pos h],by show(if _ then _ else _)=_;rw[if_pos h]⟩
  ·exact .inl ⟨by show(if _ then _ else _)=_;rw[if_neg h],by show(if _ then _ else _)=_;rw[if_neg h]⟩
def moLeft:Value→Option Value→Nat
 | .bool true,some (.slice _ n _)=>n+1
 | _,_=>0
set_option maxHeartbeats 4000000 in
set_option maxRecDepth 100000 in
theorem moments_iter {a0 a1 a2 a3 cn cf ct ch ca:Int}{o:Option Int}(hc:ClOk a0 a1 a2 a3 cn cf ct ch ca o)(cb:Bool){w0:World}{pv:Value}{bp bl xb:Nat}
  (hx:w0.heap[xb]?=some (.cells #[.int .i64 cn,.int .i64 cf,.int .i64 a0,.int .i64 a1,.int .i64 a2,.int .i64 a3,.slice (some ⟨bl,0,none⟩) 1 1,.slice (some ⟨bp,0,none⟩) 1 1] 58 (0,0)))
  (hp:w0.heap[bp]?=some (.cells #[.int .i64 cn,.int .i64 cf,.int .i64 ct,.int .i64 ch,.int .i64 ca,.bool cb,pv] 118 (0,0))) (hv:EvAt w0 pv o)
  (hl:w0.heap[bl]?=some (.cells #[.int .i64 1,.int .i64 0,.int .i64 ch] 116 (0,0))) :
  IterN Tryz.prog 76 #[.pointer (some ⟨xb,0,none⟩)] moE MoKp (fun nb k=>k=nb) (fun xs=>xs.map moK=moL (mcOf a0 a1 a2 a3 cn cf ct ch ca cb) o) (fun pre=>∃ r,pre.map moK++r=moL (mcOf a0 a1 a2 a3 cn cf ct ch ca cb) o) 2 w0:=by
 intro F n hF hro lb J Jx W hW hJ hJx hY h0
 have HA:=zh hc
 have hh:=hc.h
 have ha:=hc.a
 have hr0:=hc.h0
 have hr1:=hc.h1
 have hform:∃(a:Option Addr) (m:Nat),pv=.slice a m m:=by
  cases o with
  | none=>exact⟨none,0,hv⟩
  | some s=>obtain⟨eb,h1,-⟩:=hv;exact⟨_,1,h1⟩
 obtain⟨mc,hmc⟩:∃ mc,mc=mcOf a0 a1 a2 a3 cn cf ct ch ca cb:=⟨_,rfl⟩
 have hso:∀ s,o=some s→effT mc≤s:=fun s hs=>by rw[hmc];exact(HA.out.ev s hs).1
 have het:effT mc=ca+a0+a1:=by rw[hmc];rfl
 have hmt:mc.ct=ct:=by rw[hmc];rfl
 have hmf2:mc.cf=cf:=by rw[hmc];rfl
 rw[← hmc]
 have HHP:Hid (∀ V,Below W.heap.size W V→Calls Tryz.prog 78 #[.agg #[.int .i64 cn,.int .i64 cf,.int .i64 a0,.int .i64 a1,.int .i64 a2,.int .i64 a3,.slice (some ⟨bl,0,none⟩) 1 1,.slice (some ⟨bp,0,none⟩) 1 1]] V fun e w'=>∃ v,e=.returned v∧OwnE w' V.heap.size 170 3 v ((hapL mc o).map hapC)∧Below V.heap.size V w'):=zh (fun V hV=>by
  rw[hmc]
  exact haps_any HA.out cb _ 1 1 (kept_block hp (q_next hW hV)) (hv.step (q_next hW hV)))
 have HX0:=zh (kept_block hx hW)
 have HP0:=zh (kept_block hp hW)
 have HLE:=zh (kept_block hl hW)
 have HJ:=zh hJ
 have HY:=zh hY
 have H0:=zh (h0 (W.heap.size+1) (by omega))
 have hmf:∀(fn:Fn) (first cap:Array Value) (w:World),(Instr.makeFunc fn first cap).run Tryz.prog w=.ok (.func fn first cap) w:=fun _ _ _ _=>rfl
 obtain⟨W1,hW1⟩:∃ W1,W1=W.alloc (.cells #[.func (.yield lb) #[] #[]] 166):=⟨_,rfl⟩
 obtain⟨W2,hW2⟩:∃ W2,W2=W1.alloc (.cells #[.slice none 0 0] 60):=⟨_,rfl⟩
 have hs1:W1.heap.size=W.heap.size+1:=by rw[hW1];simp
 have HB1:Hid (Below W.heap.size W W1):=zh (by rw[hW1];exact br0.alloc (Nat.le_refl _) _)
 have HB12:Hid (Below W1.heap.size W1 W2):=zh (by rw[hW2];exact br0.alloc (Nat.le_refl _) _)
 have HB2:=zh (q_next HB1.out HB12.out)
 have HT2:Hid (TuAt cn cf ct ch ca a0 a1 a2 a3 cb (.slice (some ⟨bl,0,none⟩) 1 1) pv xb (W.heap.size+1) W.heap.size bp lb (.slice none 0 0) W2):=zh ⟨kept_block HX0.out HB2.out,kept_block HP0.out HB2.out,by rw[← hs1,hW2];exact heap_alloc_new W1 _,kept_block (by rw[hW1];exact heap_alloc_new W _) HB12.out⟩
 have HW1:=zh hW1
 have HW2:=zh hW2
 obtain⟨av,m,rfl⟩:=hform
 clear hW1 hW2 hc hx hp hv hl hW hJ hJx hY h0 HX0 HP0 hmc HA
 refine callsIn_of_wp Tryz.func76 rfl (hF.1 _) ?_ hro
 simp only[Tryz.ntmps76,List.size_toArray,List.length_cons,List.length_nil,Nat.reduceAdd,Nat.reduceSub,Array.replicate_succ,Array.replicate_zero,List.push_toArray,List.append_toArray,List.nil_append,List.cons_append]
 gi_upto_region 2 with fail
 rw[← HW1.out,← HW2.out]
 clear HW1 HW2
 obtain⟨d0,d1,d2,d3,d4,d5,d6,d7⟩:=eight_cells HT2.out.c
 gi_upto_region 4 with fail
 have HH2:=zh (HHP.out W2 HB2.out)
 clear d0 d1 d2 d3 d4 d5 d6 d7
 obtain⟨d0,d1,d2,d3,d4,d5,d6,d7⟩:=eight_cells HT2.out.c
 gi_wp2
 refine⟨hF.1 _,fun h=>(by rw[hF.2.1]at h;cases h),(callsIn_of_calls hF HH2.out).mono ?_⟩
 rintro r W3 ⟨hpv,rfl,hown,hb3⟩
 have HO3:=zh hown
 have HT3:=zh (HT2.out.step hb3)
 have HB3:=zh (q_next HB2.out hb3)
 have HJ3:=zh (HJ.out (W.heap.size+1) [] W W3 (by omega) H0.out (IStepS.below HB3.out))
 obtain⟨ha,hcp,rfl⟩:=OwnE.form hown
 clear hown hb3 d0 d1 d2 d3 d4 d5 d6 d7 HH2 HHP HT2
 have hcase:=hap_cases mc o hso
 have hM:1≤(hapL mc o).length∧(hapL mc o)[0]?=some (effT mc,0,false):=by rcases hcase with⟨h,-⟩ | ⟨s,-,h,-⟩ <;> rw[h] <;> exact⟨by simp,rfl⟩
 rw[List.length_map]at HO3 ⊢
 have HCS:Hid (((hapL mc o).length=1∧moL mc o=[(effT mc,mc.ct)])∨∃ s,(hapL mc o).length=2∧(hapL mc o)[1]?=some (s,0,true)∧moL mc o=[(effT mc,mc.ct),(s,mc.cf)]):=zh (by
  rcases hcase with⟨h,h2⟩ | ⟨s,-,h,h2⟩
  ·exact .inl ⟨by rw[h];rfl,h2⟩
  ·exact .inr ⟨s,by rw[h];rfl,by rw[h];rfl,h2⟩)
 obtain⟨hM1,hL0⟩:=hM
 have HL0:=zh hL0
 clear hcase hso hL0
 generalize hapL mc o=L at *
 obtain⟨M,hMM⟩:∃ M,M=L.length:=⟨_,rfl⟩
 rw[← hMM]at HO3 hM1 HCS ⊢
 clear hMM
 have hM2:M≤2:=by rcases HCS.out with⟨h,-⟩ | ⟨s,h,-⟩ <;> omega
 rw[hmt,hmf2]at HCS
 clear hmt hmf2
 obtain⟨e,he⟩:∃ e,e=effT mc:=⟨_,rfl⟩
 rw[← he]at HL0 HCS het
 have HE:Hid (e=effT mc):=zh he
 have he0:0≤e:=by omega
 have he2:e≤20000000:=by omega
 clear he het
 gi_wp2
 gi_loopw [5,22] (fun cr i wr=>(cr=.int .i64 cf∧i=.int .i64 0∧wr=W3)∨(i=.int .i64 1∧∃ fg fc v,Hid (TuAt cn cf ct ch ca a0 a1 a2 a3 cb (.slice (some ⟨bl,0,none⟩) 1 1) (.slice av m m) xb (W.heap.size+1) W.heap.size bp lb (.slice (some ⟨fg,0,none⟩) 1 fc) wr)∧Hid (OwnE wr W.heap.size 3 1 (.slice (some ⟨fg,0,none⟩) 1 fc) [[.int .i64 0]])∧Hid (OwnE wr W2.heap.size 170 3 (.slice ha M hcp) (L.map hapC))∧Hid (J (W.heap.size+1) [((e,0,1),v,ct)] wr))∨(i=.int .i64 2∧M=2∧∃ xs,Hid (xs.map moK=moL mc o)∧Hid (J (W.heap.size+1) xs wr))) (fun _ i _=>2 - (intOf i).toNat)
 case atStart=>exact .inl ⟨rfl,rfl,rfl⟩
 case round =>
  rcases hrel with⟨rfl,rfl,rfl⟩ | ⟨rfl,fg,fc,v,hT,hFO,hO,hJs⟩ | ⟨rfl,hme,xs,hxs,hJs⟩
  ·have tM:(0:Int) < (M:Int):=by omega
   obtain⟨hb,ho,rfl,hlt,hcc⟩:=SliceAt.eachT (OwnE.slice HO3.out (fun c hc=>by obtain⟨x,_,rfl⟩:=List.mem_map.1 hc;rfl)) (k:=0) (cs:=hapC (e,0,false)) (by rw[List.getElem?_map,HL0.out];rfl)
   have c0:=hcc 0 _ rfl
   have c1:=hcc 1 _ rfl
   have c2:=hcc 2 _ rfl
   simp only[Nat.zero_mul,Nat.add_zero]at c0 c1 c2
   gi_upto_region 7 with fail
   obtain⟨hk,hhk⟩:∃ hk,hk=wr.heap.size:=⟨_,rfl⟩
   have HA4:=zh ((Below.refl wr.heap.size wr).alloc (Nat.le_refl _) (.cells #[.int .i64 e,.int .i64 0,.bool false] 170))
   have HH4:Hid ((wr.alloc (.cells #[.int .i64 e,.int .i64 0,.bool false] 170)).heap[hk]?=some (.cells #[.int .i64 e,.int .i64 0,.bool false] 170 (0,0))):=zh (by rw[hhk];exact heap_alloc_new wr _)
   rw[← hhk]
   clear hhk c0 c1 c2 hcc hlt
   have HT4:=zh (HT3.out.step HA4.out)
   have HO4:=zh (OwnE.far HO3.out HA4.out (Nat.le_refl _))
   have HL4:=zh (kept_block HLE.out (q_next HB3.out HA4.out))
   have HB4:=zh (q_next HB3.out HA4.out)
   generalize wr.alloc (.cells #[.int .i64 e,.int .i64 0,.bool false] 170)=W4 at *
   clear HA4 HT3 HO3 HLE
   obtain⟨h0,h1,h2⟩:=three_cellsC HH4.out
   have f0:=cell_of_row W4 _ 0 _ _ _ HT4.out.f
   gi_wp2
   refine⟨hF.1 _,fun h=>(by rw[hF.2.1]at h;cases h),(callsIn_of_calls hF (idxI_nil _ _)).mono ?_⟩
   rintro r w' ⟨rfl,hw'⟩
   replace hw':=hw'.symm
   subst hw'
   gi_upto_region 8 with fail
   obtain⟨d0,d1,d2,d3,d4,d5,d6,d7⟩:=eight_cells HT4.out.c
   obtain⟨p0,p1,p2,p3,p4,p5,p6⟩:=seven_cells HT4.out.p
   gi_upto_region 9 with fail
   obtain⟨xk,hxk⟩:∃ xk,xk=W4.heap.size:=⟨_,rfl⟩
   have HA5:=zh ((Below.refl W4.heap.size W4).alloc (Nat.le_refl _) (.cells #[.int .i64 cn,.int .i64 cf,.int .i64 ct,.int .i64 ch,.int .i64 ca,.bool cb] 34))
   have HX5:Hid ((W4.alloc (.cells #[.int .i64 cn,.int .i64 cf,.int .i64 ct,.int .i64 ch,.int .i64 ca,.bool cb] 34)).heap[xk]?=some (.cells #[.int .i64 cn,.int .i64 cf,.int .i64 ct,.int .i64 ch,.int .i64 ca,.bool cb] 34 (0,0))):=zh (by rw[hxk];exact heap_alloc_new W4 _)
   rw[← hxk]
   clear hxk h0 h1 h2 f0 d0 d1 d2 d3 d4 d5 d6 d7 p0 p1 p2 p3 p4 p5 p6
   have HT5:=zh (HT4.out.step HA5.out)
   have HO5:=zh (OwnE.far HO4.out HA5.out (Nat.le_refl _))
   have HL5:=zh (kept_block HL4.out HA5.out)
   have HH5:=zh (kept_block HH4.out HA5.out)
   have HB5:=zh (q_next HB4.out HA5.out)
   generalize W4.alloc (.cells #[.int .i64 cn,.int .i64 cf,.int .i64 ct,.int .i64 ch,.int .i64 ca,.bool cb] 34)=W5 at *
   clear HA5 HT4 HO4 HL4 HH4 HB4
   obtain⟨h0,h1,h2⟩:=three_cellsC HH5.out
   obtain⟨d0,d1,d2,d3,d4,d5,d6,d7⟩:=eight_cells HT5.out.c
   obtain⟨q,hq⟩:∃ q:Int,min e 10000000=q:=⟨_,rfl⟩
   have hq0:0≤q∧q≤10000000:=by omega
   have HLA:=zh (lifeAt_any hh hq0.1 hq0.2 (Nat.le_refl 1) HL5.out)
   clear hq0
   gi_wp2
   refine⟨hF.1 _,fun h=>(by rw[hF.2.1]at h;cases h),(callsIn_of_calls hF HLA.out).mono ?_⟩
   rintro r W6 ⟨rfl,hb6⟩
   have HT6:=zh (HT5.out.step hb6)
   have HO6:=zh (OwnE.far HO5.out hb6 (Nat.le_refl _))
   have HH6:=zh (kept_block HH5.out hb6)
   have HX6:=zh (kept_block HX5.out hb6)
   have HB6:=zh (q_next HB5.out hb6)
   clear hb6 hq h0 h1 h2 d0 d1 d2 d3 d4 d5 d6 d7 HT5 HO5 HH5 HX5 HB5 HLA HL5
   gi_upto_region 19 with fail
   obtain⟨yk,hyk⟩:∃ yk,yk=W6.heap.size:=⟨_,rfl⟩
   have HA7:=zh ((Below.refl W6.heap.size W6).alloc (Nat.le_refl _) (.cells #[.int .i64 1,.int .i64 ch,.int .i64 1,.int .i64 0] 162))
   have HY7:Hid ((W6.alloc (.cells #[.int .i64 1,.int .i64 ch,.int .i64 1,.int .i64 0] 162)).heap[yk]?=some (.cells #[.int .i64 1,.int .i64 ch,.int .i64 1,.int .i64 0] 162 (0,0))):=zh (by rw[hyk];exact heap_alloc_new W6 _)
   rw[← hyk]
   clear hyk
   have HT7:=zh (HT6.out.step HA7.out)
   have HO7:=zh (OwnE.far HO6.out HA7.out (Nat.le_refl _))
   have HH7:=zh (kept_block HH6.out HA7.out)
   have HX7:=zh (kept_block HX6.out HA7.out)
   have HB7:=zh (q_next HB6.out HA7.out)
   generalize W6.alloc (.cells #[.int .i64 1,.int .i64 ch,.int .i64 1,.int .i64 0] 162)=W7 at *
   clear HA7 HT6 HO6 HH6 HX6 HB6
   obtain⟨y0,y1,y2,y3⟩:=fourT_cells HY7.out
   obtain⟨x0,x1,x2,x3,x4,x5⟩:=six_cells HX7.out
   obtain⟨h0,h1,h2⟩:=three_cellsC HH7.out
   gi_upto_region 20 with fail
   clear y0 y1 y2 y3 x0 x1 x2 x3 x4 x5
   have f0:=cell_of_row W7 _ 0 _ _ _ HT7.out.f
   gi_upto_region 21 with(refine wpListIn_append_elAt 60 3 1 8 _ (by kernel_rfl) infoInt rfl (by decide) rfl (.tmp 94) (.tmp 97) rfl W7.heap.size (.slice none 0 0) [] rfl (OwnE.nil _ _ _ _) W7.heap.size [.int .i64 0] rfl (fun u hu=>by rw[List.mem_singleton.1 hu];rfl) rfl (0,0) (heap_alloc_new _ _) (by unfold maxLen;simp) (by simp) (by simp) ?_;intro v3 w3 ho3 hg3 hat3;have HG3:=zh (q_next ((Below.refl _ W7).alloc (Nat.le_refl _) _) (below_of_none hg3));have HF3:=zh ho3;have HT8:=zh (HT7.out.step HG3.out);clear ho3 hg3 hat3 f0;obtain⟨fg,fc,cur,hv3,-,-,-,-,-⟩:=OwnE.one_form HF3.out;subst hv3;have f0:=cell_of_row w3 _ 0 _ _ _ HT8.out.f;have zf:∀ j,w3.frozen? ⟨W.heap.size+1,j,none⟩=false:=(fun j=>by unfold World.frozen?;rw[HT8.out.f];simp))
   have hst:w3.grownBy (w3.setCell ⟨W.heap.size+1,0,none⟩ (.slice (some ⟨fg,0,none⟩) 1 fc)) (some (W.heap.size+1)):=grown_setCell (grown_refl _ _) ⟨W.heap.size+1,0,none⟩ (.inl rfl) _
   have HT9:=zh (HT8.out.put (.slice (some ⟨fg,0,none⟩) 1 fc))
   have HO9:=zh (OwnE.grownX (OwnE.far HO7.out HG3.out (Nat.le_refl _)) HT8.out.f (fun c e=>by cases e) hst)
   have HF9:=zh (OwnE.mono (OwnE.grownX HF3.out HT8.out.f (fun c e=>by cases e) hst) HB7.out.size)
   have HH9:=zh ((Below.heap_setCell w3 ⟨W.heap.size+1,0,none⟩ (.slice (some ⟨fg,0,none⟩) 1 fc) _ (unlikeC (kept_block HH7.out HG3.out) HT8.out.f (by decide))).trans (kept_block HH7.out HG3.out))
   have HJ9:=zh (HJ.out (W.heap.size+1) [] W (w3.setCell ⟨W.heap.size+1,0,none⟩ (.slice (some ⟨fg,0,none⟩) 1 fc)) (by omega) H0.out ⟨some (W.heap.size+1),((below_grownQ (q_next HB7.out HG3.out)).but (some (W.heap.size+1))).trans hst,fun b e=>by cases e;rfl⟩)
   clear h0 h1 h2 hst HT8 HT7 HO7 HF3 HH7 HX7 HY7 HG3 HB7 f0 zf
   generalize w3.setCell ⟨W.heap.size+1,0,none⟩ (.slice (some ⟨fg,0,none⟩) 1 fc)=W9 at *
   have hfg:W9.cell? ⟨fg,0,none⟩=some (.int .i64 0)∧fg < W9.heap.size:=by
    obtain⟨b,o,hb,h2,h3⟩:=SliceAt.eachT (OwnE.slice HF9.out (fun c hc=>by rw[List.mem_singleton.1 hc];rfl)) (k:=0) (cs:=[.int .i64 0]) rfl
    cases hb
    exact⟨by simpa using h3 0 _ rfl,h2⟩
   have HTU:=zh (turnOne_any (n:=n - 1) hF hro HT9.out hfg e 1 (R:=fun v r W'=>(r=.returned (.bool true)∧J (W.heap.size+1) [((e,0,1),v,ct)] W'∧MoKp (W.heap.size+1) W9 W')∨(r=.returned (.bool false)∧Jx (W.heap.size+1) [((e,0,1),v,ct)] W'))
    (fun v W1 hb=>yieldAt_mono (HY.out (W.heap.size+1) [] ((e,0,1),v,ct) W1 (by omega) (Nat.lt_of_lt_of_le (ltA HT9.out.f) hb.size) (HJ.out _ _ _ _ (by omega) HJ9.out (IStepS.below hb)) (by decide)) (fun r W' h=>h.imp (fun⟨h1,h2,h3⟩=>⟨h1,h2,(MoKp.below hb).trans h3⟩) id))
    (fun v r W' h=>h.elim (fun h=>⟨_,h.1⟩) (fun h=>⟨_,h.1⟩)))
   clear hfg
   obtain⟨h0,h1,h2⟩:=three_cellsC HH9.out
   gi_wp2
   refine⟨hF.1 _,fun h=>(by rw[hF.2.1]at h;cases h),HTU.out.mono ?_⟩
   rintro r W10 ⟨v,⟨rfl,hj,hk⟩ | ⟨rfl,hjx⟩⟩
   ·have HT10:=zh (HT9.out.kp hk)
    have HO10:=zh (OwnE.kp hk HO9.out (by decide))
    have HF10:=zh (OwnE.kp hk HF9.out (by decide))
    have HJ10:=zh hj
    clear hj hk HT9 HO9 HF9 HJ9 HTU HH9 h0 h1 h2
    have d1:=cell_of_row W10 _ 1 _ _ _ HT10.out.c
    have f0:=cell_of_row W10 _ 0 _ _ _ HT10.out.f
    gi_upto_region 29 with fail
    clear d1 f0
    have wz:IntKind.i64.wrap 0=0:=by decide +kernel
    have HD:Hid (∀ V,Below W10.heap.size W10 V→(V.cell? ⟨xb,7,none⟩=some (.slice (some ⟨bp,0,none⟩) 1 1)∧V.cell? ⟨W.heap.size+1,0,none⟩=some (.slice (some ⟨fg,0,none⟩) 1 fc)∧V.cell? ⟨fg,0,none⟩=some (.int .i64 0)∧V.cell? ⟨bp,2,none⟩=some (.int .i64 ct))):=zh (fun V hV=>by
     have hx:=HT10.out.step hV
     obtain⟨b,o,hb,h2,h3⟩:=SliceAt.eachT (OwnE.slice (OwnE.far HF10.out hV (Nat.le_refl _)) (fun c hc=>by rw[List.mem_singleton.1 hc];rfl)) (k:=0) (cs:=[.int .i64 0]) rfl
     cases hb
     exact⟨cell_of_row V _ 7 _ _ _ hx.c,cell_of_row V _ 0 _ _ _ hx.f,by simpa using h3 0 _ rfl,cell_of_row V _ 2 _ _ _ hx.p⟩)
    refine wpIn_of_wp hF hro ?_
    refine wp_region_noPanic ?_
    refine wp_region_lexB [.q 0,.q 1,.q 2,.q 3,.q 4,.q 5,.q 6,.q 7,.q 8,.q 9,.q 10,.q 11] (by kernel_rfl) (by kernel_rfl) (fun _ _ _ _ h=>h) ?_
    iterate 12(refine wpFl_qL (v:=?_) rfl (Or.inl ⟨by rfl,?_⟩) ?_;rotate_left;(focus(intro w' hSw;obtain⟨g0,g1,g2,g3⟩:=HD.out w' hSw;go_simp;(try with_reducible rfl);done));simp only[Act.put,zzA,zzB,zzC])
    refine wpFl_nil ?_
    refine NoPanic.normal ?_
    have HDR:=zh (Below.drew (Below.refl W10.heap.size W10))
    have HT11:=zh (HT10.out.step HDR.out)
    have HO11:=zh (OwnE.far HO10.out HDR.out (Nat.le_refl _))
    have HF11:=zh (OwnE.far HF10.out HDR.out (Nat.le_refl _))
    have HJ11:=zh (HJ.out _ _ _ _ (by omega) HJ10.out (IStepS.below HDR.out))
    clear HT10 HO10 HF10 HJ10 HDR HD
    generalize W10.drew=W11 at *
    gi_wp2
    go_roundw
    case rel=>exact .inr (.inl ⟨by go_num,fg,fc,v,HT11,HF11,HO11,HJ11⟩)
    case measure=>decide
   ·have HJX:=zh hjx
    clear hjx HT9 HO9 HF9 HJ9 HTU HH9 h0 h1 h2
    gi_wp2
    refine bodyPost_ret (results_none rfl _ _ _) rfl ?_
    exact⟨⟨_,rfl⟩,.inr ⟨W.heap.size+1,[((e,0,1),v,ct)],Nat.le_succ _,HCS.out.elim (fun h=>⟨[],by rw[h.2];rfl⟩) (fun⟨s,_,_,h⟩=>⟨[(s,cf)],by rw[h];rfl⟩),HJX.out⟩⟩
  ·clear HT3 HO3 HJ3 HLE HB3
   have hfg:wr.cell? ⟨fg,0,none⟩=some (.int .i64 0)∧fg < wr.heap.size:=by
    obtain⟨b,o,hb,h2,h3⟩:=SliceAt.eachT (OwnE.slice hFO.out (fun c hc=>by rw[List.mem_singleton.1 hc];rfl)) (k:=0) (cs:=[.int .i64 0]) rfl
    cases hb
    exact⟨by simpa using h3 0 _ rfl,h2⟩
   have HFG:=zh hfg
   clear hfg
   rcases HCS.out with⟨hme,hmo⟩ | ⟨s,hme,hL1,hmo⟩
   ·have HMO:=zh hmo
    have tM:¬ (1:Int) < (M:Int):=by omega
    clear hmo hme
    gi_wp2
    go_end0
    exact⟨⟨_,rfl⟩,.inl ⟨W.heap.size+1,Nat.le_succ _,[((e,0,1),v,ct)],by rw[HMO.out];rfl,hJs.out⟩⟩
   ·obtain⟨hb,ho,rfl,hlt,hcc⟩:=SliceAt.eachT (OwnE.slice hO.out (fun c hc=>by obtain⟨x,_,rfl⟩:=List.mem_map.1 hc;rfl)) (k:=1) (cs:=hapC (s,0,true)) (by rw[List.getElem?_map,hL1];rfl)
    have HMO:=zh hmo
    have HME:=zh hme
    have tM:(1:Int) < (M:Int):=by omega
    clear hme
    have c0:=hcc 0 _ rfl
    have c1:=hcc 1 _ rfl
    have c2:=hcc 2 _ rfl
    simp only[Nat.one_mul,Nat.add_zero,Nat.add_assoc,Nat.reduceAdd]at c0 c1 c2
    clear hmo hL1
    gi_upto_region 7 with fail
    obtain⟨hk,hhk⟩:∃ hk,hk=wr.heap.size:=⟨_,rfl⟩
    have HA4:=zh ((Below.refl wr.heap.size wr).alloc (Nat.le_refl _) (.cells #[.int .i64 s,.int .i64 0,.bool true] 170))
    have HH4:Hid ((wr.alloc (.cells #[.int .i64 s,.int .i64 0,.bool true] 170)).heap[hk]?=some (.cells #[.int .i64 s,.int .i64 0,.bool true] 170 (0,0))):=zh (by rw[hhk];exact heap_alloc_new wr _)
    rw[← hhk]
    clear hhk c0 c1 c2 hcc hlt
    have HT4:=zh (hT.out.step HA4.out)
    have HJ4:=zh (HJ.out _ _ _ _ (by omega) hJs.out (IStepS.below HA4.out))
    have HF4:=zh (And.intro ((HA4.out.cell (p:=⟨fg,0,none⟩) HFG.out.2).trans HFG.out.1) (Nat.lt_of_lt_of_le HFG.out.2 HA4.out.size))
    generalize wr.alloc (.cells #[.int .i64 s,.int .i64 0,.bool true] 170)=W4 at *
    clear HA4 hT hJs HFG hO hFO
    obtain⟨h0,h1,h2⟩:=three_cellsC HH4.out
    have f0:=cell_of_row W4 _ 0 _ _ _ HT4.out.f
    have HIX:=zh (idxI_one (c:=fc) HF4.out.1)
    gi_wp2
    refine⟨hF.1 _,fun h=>(by rw[hF.2.1]at h;cases h),(callsIn_of_calls hF HIX.out).mono ?_⟩
    rintro r w' ⟨rfl,hw'⟩
    replace hw':=hw'.symm
    subst hw'
    clear HIX
    gi_upto_region 8 with fail
    obtain⟨d0,d1,d2,d3,d4,d5,d6,d7⟩:=eight_cells HT4.out.c
    obtain⟨p0,p1,p2,p3,p4,p5,p6⟩:=seven_cells HT4.out.p
    gi_upto_region 9 with fail
    obtain⟨xk,hxk⟩:∃ xk,xk=W4.heap.size:=⟨_,rfl⟩
    have HA5:=zh ((Below.refl W4.heap.size W4).alloc (Nat.le_refl _) (.cells #[.int .i64 cn,.int .i64 cf,.int .i64 ct,.int .i64 ch,.int .i64 ca,.bool cb] 34))
    rw[← hxk]
    clear hxk h0 h1 h2 f0 d0 d1 d2 d3 d4 d5 d6 d7 p0 p1 p2 p3 p4 p5 p6
    have HT5:=zh (HT4.out.step HA5.out)
    have HJ5:=zh (HJ.out _ _ _ _ (by omega) HJ4.out (IStepS.below HA5.out))
    have HF5:=zh (And.intro ((HA5.out.cell (p:=⟨fg,0,none⟩) HF4.out.2).trans HF4.out.1) (Nat.lt_of_lt_of_le HF4.out.2 HA5.out.size))
    have HH5:=zh (kept_block HH4.out HA5.out)
    generalize W4.alloc (.cells #[.int .i64 cn,.int .i64 cf,.int .i64 ct,.int .i64 ch,.int .i64 ca,.bool cb] 34)=W5 at *
    clear HA5 HT4 HJ4 HF4 HH4
    obtain⟨h0,h1,h2⟩:=three_cellsC HH5.out
    gi_wp2
    clear h0 h1 h2
    gi_loopw [10] (fun k wq=>(k=.bool true∧wq=W5)∨(k=.bool true∧∃ v2,Hid (TuAt cn cf ct ch ca a0 a1 a2 a3 cb (.slice (some ⟨bl,0,none⟩) 1 1) (.slice av m m) xb (W.heap.size+1) W.heap.size bp lb (.slice (some ⟨fg,0,none⟩) 0 fc) wq)∧Hid (J (W.heap.size+1) [((e,0,1),v,ct),((s,0,3),v2,cf)] wq))∨(k=.bool false∧∃ pre,Hid (∃ r,pre.map moK++r=moL mc o)∧Hid (Jx (W.heap.size+1) pre wq))) (fun k wq=>moLeft k (wq.cell? ⟨W.heap.size+1,0,none⟩))
    case atStart=>exact .inl ⟨rfl,rfl⟩
    case round =>
     rcases hrel with⟨rfl,rfl⟩ | ⟨rfl,v2,hT,hJs⟩ | ⟨rfl,pre,hpr,hJx⟩
     ·have f0:=cell_of_row wr _ 0 _ _ _ HT5.out.f
      obtain⟨g0,glt⟩:=HF5.out
      obtain⟨h0,h1,h2⟩:=three_cellsC HH5.out
      have wz:IntKind.i64.wrap 0=0:=by decide +kernel
      have zf:∀ j,wr.frozen? ⟨W.heap.size+1,j,none⟩=false:=(fun j=>by unfold World.frozen?;rw[HT5.out.f];simp)
      have F0:=zh f0
      gi_upto_region 16 with fail
      have hst:wr.grownBy (wr.setCell ⟨W.heap.size+1,0,none⟩ (.slice (some ⟨fg,0,none⟩) 0 fc)) (some (W.heap.size+1)):=grown_setCell (grown_refl _ _) ⟨W.heap.size+1,0,none⟩ (.inl rfl) _
      have HT6:=zh (HT5.out.put (.slice (some ⟨fg,0,none⟩) 0 fc))
      have HH6:=zh ((Below.heap_setCell wr ⟨W.heap.size+1,0,none⟩ (.slice (some ⟨fg,0,none⟩) 0 fc) _ (unlikeC HH5.out HT5.out.f (by decide))).trans HH5.out)
      have HJ6:=zh (HJ.out (W.heap.size+1) [((e,0,1),v,ct)] wr (wr.setCell ⟨W.heap.size+1,0,none⟩ (.slice (some ⟨fg,0,none⟩) 0 fc)) (by omega) HJ5.out ⟨some (W.heap.size+1),hst,fun b e=>by cases e;rfl⟩)
      clear f0 g0 glt h0 h1 h2 zf hst HT5 HJ5 HF5 HH5
      generalize wr.setCell ⟨W.heap.size+1,0,none⟩ (.slice (some ⟨fg,0,none⟩) 0 fc)=W6 at *
      have HTU:=zh (turnNone_any (n:=n - 1) hF hro HT6.out s 3 (R:=fun v2 r W'=>(r=.returned (.bool true)∧J (W.heap.size+1) [((e,0,1),v,ct),((s,0,3),v2,cf)] W'∧MoKp (W.heap.size+1) W6 W')∨(r=.returned (.bool false)∧Jx (W.heap.size+1) [((e,0,1),v,ct),((s,0,3),v2,cf)] W'))
       (fun v2 W1 hb=>yieldAt_mono (HY.out (W.heap.size+1) [((e,0,1),v,ct)] ((s,0,3),v2,cf) W1 (by omega) (Nat.lt_of_lt_of_le (ltA HT6.out.f) hb.size) (HJ.out _ _ _ _ (by omega) HJ6.out (IStepS.below hb)) (by simp)) (fun r W' h=>h.imp (fun⟨h1,h2,h3⟩=>⟨h1,h2,(MoKp.below hb).trans h3⟩) id))
       (fun v r W' h=>h.elim (fun h=>⟨_,h.1⟩) (fun h=>⟨_,h.1⟩)))
      obtain⟨h0,h1,h2⟩:=three_cellsC HH6.out
      gi_wp2
      refine⟨hF.1 _,fun h=>(by rw[hF.2.1]at h;cases h),HTU.out.mono ?_⟩
      rintro r W7 ⟨v2,⟨rfl,hj,hk⟩ | ⟨rfl,hjx⟩⟩
      ·have HT7:=zh (HT6.out.kp hk)
       have HJ7:=zh hj
       clear hj hk HT6 HJ6 HTU HH6 h0 h1 h2
       gi_wp2
       go_roundw
       case rel=>exact .inr (.inl ⟨by go_num,v2,HT7,HJ7⟩)
       case measure =>
        rw[F0.out,cell_of_row W7 _ 0 _ _ _ HT7.out.f]
        exact(by decide:1 < 2)
      ·have HJX:=zh hjx
       clear hjx HT6 HJ6 HTU HH6 h0 h1 h2
       gi_wp2
       go_roundw
       case rel=>exact .inr (.inr ⟨by go_num,_,zh ⟨[],by rw[HMO.out];rfl⟩,HJX⟩)
       case measure =>
        rw[F0.out]
        exact(by decide:0 < 2)
     ·have f0:=cell_of_row wr _ 0 _ _ _ hT.out.f
      have d1:=cell_of_row wr _ 1 _ _ _ hT.out.c
      clear HT5 HJ5 HF5 HH5
      gi_wp2
      clear f0 d1
      go_roundw
      case rel=>exact .inr (.inr ⟨by go_num,HME.out,_,zh (by rw[HMO.out];rfl),hJs⟩)
      case measure=>decide
     ·clear HT5 HJ5 HF5 HH5
      gi_wp2
      refine bodyPost_ret (results_none rfl _ _ _) rfl ?_
      exact⟨⟨_,rfl⟩,.inr ⟨W.heap.size+1,pre,Nat.le_succ _,hpr.out,hJx.out⟩⟩
  ·have tM:¬ (2:Int) < (M:Int):=by omega
   clear hme
   gi_wp2
   go_end0
   exact⟨⟨_,rfl⟩,.inl ⟨W.heap.size+1,Nat.le_succ _,xs,hxs.out,hJs.out⟩⟩
end Go.Proofs.YtjjiikeldpjafaaGreatDoor
