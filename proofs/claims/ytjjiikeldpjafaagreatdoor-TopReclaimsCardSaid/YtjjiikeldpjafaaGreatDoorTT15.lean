/- From the data of a row: a slice of arrays of five integers, an array of four, the numbers that determine a wish. The conditions are those of the row. -/
import Derived.SliceStrings
import Derived.ChangeSame
import Derived.Test.YtjjiikeldpjafaaGreatDoorTT14
namespace Go.Proofs.YtjjiikeldpjafaaGreatDoor
open Go.RowKit Go.WideShapes Go.ChangeShapes
section
variable {H:Type} {enc:TypeId × Value→H} {P:Program}
theorem aN_open {W:World}{base:Nat}{sp:Nat→Bool}{held:Bool}{fuel n:Nat}{t e:TypeId}{cs:List Value}{x:DataW H × List MemPlace}
  (ht:P.underlying t=some (.array n e)) (he:P.underlying e=some (.int .i64)) (hce:P.cellsOf e=1) (hct:P.cellsOf t=n) (h:DataW.trod enc P W base sp held fuel t cs=some x) :
  ∃ l:List Int,l.length=n∧cs=l.map (Value.int .i64)∧∀ z∈l,I64 z:=by
 obtain⟨xs,m,_,_,hl,hxl,hi⟩:=DataW.trod_array ht h
 rw[hct]at hl
 rw[hce]at hi
 have key:∀ i,i < n→∃ z,cs[i]?=some (.int .i64 z)∧I64 z:=by
  intro i h4
  have h1:=hi i h4
  rw[List.getElem?_eq_getElem (by omega)]at h1
  obtain⟨z,hc,_,hw⟩:=DataW.trod_int he h1
  refine⟨z,?_,bounds_i64 hw⟩
  have:=congrArg (·[0]?) hc
  simpa [List.getElem?_take,List.getElem?_drop]using this
 refine⟨cs.map intOf,by rw[List.length_map,hl],List.ext_getElem? (fun i=>?_),fun z hz=>?_⟩
 ·rw[List.map_map,List.getElem?_map]
  by_cases hlt:i < n
  ·obtain⟨z,hz,_⟩:=key i hlt
   rw[hz]
   rfl
  ·rw[List.getElem?_eq_none (by omega)]
   rfl
 ·obtain⟨u,hu,rfl⟩:=List.mem_map.1 hz
  obtain⟨i,hi2⟩:=List.getElem?_of_mem hu
  have hlt:=(List.getElem?_eq_some_iff.1 hi2).1
  obtain⟨z,hz2,h64⟩:=key i (by omega)
  rw[hi2]at hz2
  cases hz2
  exact h64
theorem a5s_cells {W:World}{sp:Nat→Bool}{held:Bool}{ts t e:TypeId}{fuel:Nat}{cs:List Value}{x:DataW H × List MemPlace}
  (hts:P.underlying ts=some (.slice t)) (ht:P.underlying t=some (.array 5 e)) (he:P.underlying e=some (.int .i64)) (hce:P.cellsOf e=1) (hct:P.cellsOf t=5)
  (h:DataW.trod enc P W 0 sp held fuel ts cs=some x):∃(v:Value) (xs:List Y5),cs=[v]∧Y5S W v xs∧∀ y∈xs,I64 y.1∧I64 y.2.1∧I64 y.2.2.1∧I64 y.2.2.2.1∧I64 y.2.2.2.2:=by
 rcases DataW.trod_slice hts h with⟨rfl,_⟩ | ⟨a,len,cap,elems,rest,n,_,rfl,_,_,hl,hm,hlen,hel,_,_⟩
 ·exact⟨_,[],rfl,SliceAt.nil _ _,fun s hs=>absurd hs List.not_mem_nil⟩
 ·rw[hct]at hel
  have key:∀ i,i < len→∃ q:Y5,W.cells? 0 (a.add (i*5)) 5=some (y5cells q)∧(I64 q.1∧I64 q.2.1∧I64 q.2.2.1∧I64 q.2.2.2.1∧I64 q.2.2.2.2):=by
   intro i hi
   have h3:=hel i hi
   rw[List.getElem?_eq_getElem (by omega),Option.bind_eq_some_iff]at h3
   obtain⟨cs,hcs,htr⟩:=h3
   obtain⟨l,hl5,rfl,h64⟩:=aN_open ht he hce hct htr
   match l,hl5 with
   | [b0,b1,b2,b3,b4],_=>exact⟨(b0,b1,b2,b3,b4),hcs,h64 b0 (by simp),h64 b1 (by simp),h64 b2 (by simp),h64 b3 (by simp),h64 b4 (by simp)⟩
  have hall:∀ n,n≤len→∃ xs:List Y5,xs.length=n∧∀ i q,xs[i]?=some q→W.cells? 0 (a.add (i*5)) 5=some (y5cells q)∧(I64 q.1∧I64 q.2.1∧I64 q.2.2.1∧I64 q.2.2.2.1∧I64 q.2.2.2.2):=by
   intro n
   induction n with
   | zero=>intro _;exact⟨[],rfl,by simp⟩
   | succ n ih =>
    intro hn
    obtain⟨xs,hx,hxs⟩:=ih (by omega)
    obtain⟨q,hq⟩:=key n (by omega)
    refine⟨xs++[q],by simp[hx],fun i q' hi=>?_⟩
    rcases Nat.lt_or_ge i n with h' | h'
    ·rw[List.getElem?_append_left (by omega)]at hi
     exact hxs i q' hi
    ·rw[List.getElem?_append_right (by omega)]at hi
     obtain rfl:i=n:=by
      rcases Nat.eq_or_lt_of_le h' with h'' | h''
      ·omega
      ·rw[List.getElem?_eq_none (by simp;omega)]at hi;cases hi
     rw[hx,Nat.sub_self]at hi
     simp at hi
     subst hi
     exact hq
  obtain⟨xs,hx,hxs⟩:=hall len (Nat.le_refl _)
  refine⟨_,xs,rfl,⟨some a,cap,by rw[List.length_map,hx],by rw[List.length_map,hx];exact hl,hm,?_⟩,fun q hq=>?_⟩
  ·by_cases h0:len=0
   ·left
    rw[List.map_eq_nil_iff]
    exact List.eq_nil_of_length_eq_zero (by omega)
   ·right
    obtain⟨q0,hq0⟩:∃ q,xs[0]?=some q:=⟨_,List.getElem?_eq_getElem (by omega)⟩
    obtain⟨_,_,hc0⟩:=World.cells?_some (hxs 0 q0 hq0).1
    have h00:=hc0 0 (by omega)
    have hadd:(a.add (0*5)).add 0=a:=by simp[Addr.add]
    rw[hadd]at h00
    have hsp:a.spot=none:=spot_none (v:=.int .i64 q0.1) h00
    obtain⟨b,off,spot⟩:=a
    dsimp only at hsp
    subst hsp
    refine⟨b,off,rfl,World.block_lt_of_cell? W _ h00,fun i c hi j u hj=>?_⟩
    rw[List.getElem?_map]at hi
    obtain⟨q,hq,rfl⟩:=Option.map_eq_some_iff.1 hi
    obtain⟨_,_,hc⟩:=World.cells?_some (hxs i q hq).1
    have hj4:j < 5:=by
     rcases Nat.lt_or_ge j 5 with h' | h'
     ·exact h'
     ·rw[List.getElem?_eq_none (by simpa [y5cells]using h')]at hj;cases hj
    have h4:=hc j hj4
    rw[hj]at h4
    have e1:((⟨b,off,none⟩:Addr).add (i*5)).add j=⟨b,off+i*5+j,none⟩:=by
     unfold Addr.add
     split
     ·split
      ·rename_i h5 h6;rw[h5,h6];simp
      ·rename_i h5 h6;rw[h5];simp
     ·split
      ·rename_i h5 h6;rw[h6];simp
      ·rfl
    rw[e1]at h4
    exact h4
  ·obtain⟨i,hi⟩:=List.getElem?_of_mem hq
   exact(hxs i q hi).2
theorem four_open {W:World}{sp:Nat→Bool}{held:Bool}{r:Reach}{b0:Nat}{ts t:TypeId}{v:Value}{d:DataW H}{ps:List MemPlace}
  (hts:P.underlying ts=some (.array 4 t)) (ht:P.underlying t=some (.int .i64)) (hct:P.cellsOf t=1) (hcs:P.cellsOf ts=4)
  (hval:Value.okWide P W r b0 ts v) (h:DataW.Trod enc P W 0 sp held ts v d ps):∃ a b c e:Int,v=.agg #[.int .i64 a,.int .i64 b,.int .i64 c,.int .i64 e]∧I64 a∧I64 b∧I64 c∧I64 e:=by
 unfold Value.okWide at hval
 rw[hts]at hval
 obtain⟨cs,rfl,hsize,_⟩:=hval
 obtain⟨fuel,h⟩:=h
 obtain⟨l,hl,hcs2,h64⟩:=aN_open hts ht hct hcs h
 rw[show(Value.agg cs).cells.toList=cs.toList from rfl]at hcs2
 match l,hl with
 | [a,b,c,e],_ =>
  refine⟨a,b,c,e,?_,h64 a (by simp),h64 b (by simp),h64 c (by simp),h64 e (by simp)⟩
  congr 1
  exact Array.toList_inj.1 hcs2
theorem array8N {α:Type}{cs:Array α}(h:cs.size=8):∃ c0 c1 c2 c3 c4 c5 c6 c7,cs=#[c0,c1,c2,c3,c4,c5,c6,c7]:=by
 obtain⟨l⟩:=cs
 match l,h with
 | [c0,c1,c2,c3,c4,c5,c6,c7],_=>exact⟨c0,c1,c2,c3,c4,c5,c6,c7,rfl⟩
theorem numbers_open {W:World}{sp:Nat→Bool}{held:Bool}{r:Reach}{b0:Nat}{tv ti tp ts t5:TypeId}{f0 f1 f2 f3 f4 f5:Field}{v:Value}{d:DataW H}{ps:List MemPlace}
  (htv:P.underlying tv=some (.struct #[f0,f1,f2,f3,f4,f5])) (e0:f0.type=ti∧f0.offset=0) (e1:f1.type=tp∧f1.offset=1) (e2:f2.type=tp∧f2.offset=3) (e3:f3.type=ti∧f3.offset=5) (e4:f4.type=ti∧f4.offset=6) (e5:f5.type=ts∧f5.offset=7)
  (hti:P.underlying ti=some (.int .i64)) (htp:P.underlying tp=some (.array 2 ti)) (hts:P.underlying ts=some (.slice t5)) (ht5:P.underlying t5=some (.array 5 ti))
  (hci:P.cellsOf ti=1) (hcp:P.cellsOf tp=2) (hcs:P.cellsOf ts=1) (hc5:P.cellsOf t5=5) (hcv:P.cellsOf tv=8)
  (hval:Value.okWide P W r b0 tv v) (h:DataW.Trod enc P W 0 sp held tv v d ps):∃(hd r0 r1 s0 s1 cr sr:Int) (u:Value) (ys:List Y5),v=.agg #[.int .i64 hd,.int .i64 r0,.int .i64 r1,.int .i64 s0,.int .i64 s1,.int .i64 cr,.int .i64 sr,u]∧(I64 hd∧I64 r0∧I64 r1∧I64 s0∧I64 s1∧I64 cr∧I64 sr)∧Y5S W u ys∧∀ y∈ys,I64 y.1∧I64 y.2.1∧I64 y.2.2.1∧I64 y.2.2.2.1∧I64 y.2.2.2.2:=by
 obtain⟨cs,rfl,hsize⟩:=okWide_struct htv hval
 rw[hcv]at hsize
 obtain⟨c0,c1,c2,c3,c4,c5,c6,c7,rfl⟩:=array8N hsize
 obtain⟨fuel,h⟩:=h
 obtain⟨xs,n,_,_,_,hlen,hf⟩:=DataW.trod_struct htv h
 match xs,hlen with
 | [y0,y1,y2,y3,y4,y5],_ =>
  have h0:=hf 0 f0 rfl
  have h1:=hf 1 f1 rfl
  have h2:=hf 2 f2 rfl
  have h3:=hf 3 f3 rfl
  have h4:=hf 4 f4 rfl
  have h5:=hf 5 f5 rfl
  rw[show(Value.agg #[c0,c1,c2,c3,c4,c5,c6,c7]).cells.toList=[c0,c1,c2,c3,c4,c5,c6,c7]from rfl]at h0 h1 h2 h3 h4 h5
  rw[e0.1,e0.2,hci]at h0
  rw[e1.1,e1.2,hcp]at h1
  rw[e2.1,e2.2,hcp]at h2
  rw[e3.1,e3.2,hci]at h3
  rw[e4.1,e4.2,hci]at h4
  rw[e5.1,e5.2,hcs]at h5
  obtain⟨a,hc0,_,i0⟩:=DataW.trod_int hti h0
  obtain⟨l1,g1,hc1,i1⟩:=aN_open htp hti hci hcp h1
  obtain⟨l2,g2,hc2,i2⟩:=aN_open htp hti hci hcp h2
  obtain⟨b,hc3,_,i3⟩:=DataW.trod_int hti h3
  obtain⟨c,hc4,_,i4⟩:=DataW.trod_int hti h4
  obtain⟨u,ys,hc5',hy,hi⟩:=a5s_cells hts ht5 hti hci hc5 h5
  match l1,g1,l2,g2 with
  | [p0,p1],_,[q0,q1],_ =>
   simp only[List.drop_zero,List.drop_succ_cons,List.take_succ_cons,List.take_zero,List.cons.injEq,and_true,List.map_cons,List.map_nil]at hc0 hc1 hc2 hc3 hc4 hc5'
   obtain⟨rfl,rfl⟩:=hc1
   obtain⟨rfl,rfl⟩:=hc2
   subst hc0 hc3 hc4 hc5'
   exact⟨a,p0,p1,q0,q1,b,c,_,ys,rfl,⟨bounds_i64 i0,i1 p0 (by simp),i1 p1 (by simp),i2 q0 (by simp),i2 q1 (by simp),bounds_i64 i3,bounds_i64 i4⟩,hy,hi⟩
end
open Go.RowKit Go.BigFrame Go.Shelf
def KeepT (w w':World):Prop:=∀(k:Nat) (cs:Array Value) (T:TypeId),w.heap[k]?=some (.cells cs T (0,0))→T≠5→T≠104→w'.heap[k]?=some (.cells cs T (0,0))
theorem KeepT.refl (w:World):KeepT w w:=fun _ _ _ h _ _=>h
theorem KeepT.trans {a b c:World}(h:KeepT a b)(h':KeepT b c):KeepT a c:=fun k cs T hk h1 h2=>h' k cs T (h k cs T hk h1 h2) h1 h2
theorem KeepT.below {w w':World}(h:Below w.heap.size w w'):KeepT w w':=fun _ _ _ hk _ _=>kept_block hk h
theorem KeepT.setCell {w:World}{b i:Nat}{ds:Array Value}(h:w.heap[b]?=some (.cells ds 104 (0,0)))(v:Value):KeepT w (w.setCell ⟨b,i,none⟩ v):=fun _ _ _ hk _ h2=>setOther hk (unlike hk h h2) v
theorem KeepT.own {w w':World}{base n size:Nat}{v:Value}{xs:List Value}(h:w.ownsRow base 5 size v n xs)(hg:w.grownBy w' v.ownBlock):KeepT w w':=fun k _ _ hk h1 _=>(hg.block k (ltA hk) (own_ne h hk (fun c e=>by injection e with _ e;exact h1 e))).trans hk
theorem wBuilderSize:(Tryz.prog.info? 102).map (·.size)=some 2:=by kernel_rfl
theorem wBuilderLies:liesAt Tryz.prog Tryz.prog.depth 104 (2 / Tryz.prog.cellsOf 104) 0 102 1=true:=by kernel_rfl
set_option maxHeartbeats 1000000 in
set_option maxRecDepth 100000 in
theorem wCopyCheck_used (b:Nat)(w:World)(h0:w.cell? ⟨b,0,none⟩=some (.pointer (some ⟨b,0,none⟩))) :
  Calls Tryz.prog 68 #[.pointer (some ⟨b,0,none⟩)] w fun e w'=>e=.returned (.tuple #[])∧w'=w:=by
 obtain⟨j,hj,_⟩:=Option.map_eq_some_iff.1 wBuilderSize
 go_enter Tryz.func68,Tryz.ntmps68
 go_wp2
 rw[Lib.run_neq_ptr_same w _ Tryz.underlying100 hj]
 go_wp2
 go_end0
 exact⟨rfl,rfl⟩
set_option maxHeartbeats 1000000 in
set_option maxRecDepth 100000 in
theorem wCopyCheck_fresh (b:Nat)(w:World)(h0:w.cell? ⟨b,0,none⟩=some (.pointer none))(hsh:w.shape? b=some (104,2))(hfz:w.frozen? ⟨b,0,none⟩=false) :
  Calls Tryz.prog 68 #[.pointer (some ⟨b,0,none⟩)] w fun e w'=>e=.returned (.tuple #[])∧w'=w.setCell ⟨b,0,none⟩ (.pointer (some ⟨b,0,none⟩)):=by
 obtain⟨j,hj,hjs⟩:=Option.map_eq_some_iff.1 wBuilderSize
 go_enter Tryz.func68,Tryz.ntmps68
 go_wp2
 rw[Lib.run_to_unsafe w ⟨b,0,none⟩ Tryz.underlying100 Tryz.underlying196 hj (by rw[hjs];decide) hsh (Nat.zero_lt_succ 1)]
 simp only[Result.andThen]
 rw[Oper.upon_value]
 go_wp2
 rw[run_callFunc_extern Tryz.func97 (by kernel_rfl) (by kernel_rfl) (by kernel_rfl) (e:=Extern.AbiNoEscape.same) (by kernel_rfl)]
 rw[Lib.run_noEscape]
 simp only[Result.andThen]
 rw[Oper.upon_value]
 go_wp2
 rw[Lib.run_from_unsafe w ⟨b,0,none⟩ Tryz.underlying196 Tryz.underlying100 hj hsh wBuilderLies]
 simp only[Result.andThen]
 rw[Oper.upon_value]
 go_wp2
 go_end0
 exact⟨rfl,rfl⟩
theorem wCopyCheck_any (B b:Nat)(bs:List Value)(w:World)(h:Lib.IsBuilder 104 5 B b bs w) :
  Calls Tryz.prog 68 #[.pointer (some ⟨b,0,none⟩)] w fun e w'=>e=.returned (.tuple #[])∧(Lib.BuilderAt 104 5 B b (.pointer (some ⟨b,0,none⟩)) bs w'∧Below B w w'∧KeepT w w'):=by
 rcases h with h | h
 ·refine(wCopyCheck_fresh b w h.cell0 h.shape h.frozen0).mono ?_
  rintro e w' ⟨rfl,rfl⟩
  exact⟨rfl,h.used _,(Below.refl B w).setCell (p:=⟨b,0,none⟩) h.1 _,by obtain⟨_,_,hbk,_⟩:=h;exact KeepT.setCell hbk _⟩
 ·refine(wCopyCheck_used b w h.cell0).mono ?_
  rintro e w' ⟨rfl,rfl⟩
  exact⟨rfl,h,Below.refl B _,KeepT.refl _⟩
set_option maxHeartbeats 2000000 in
set_option maxRecDepth 100000 in
theorem wWriteString_any (B b:Nat)(bs:List Value)(s:ByteArray)(w:World)(h:Lib.IsBuilder 104 5 B b bs w)(hlen:bs.length+s.size≤140737488355328)(hBw:B≤w.heap.size) :
  Calls Tryz.prog 31 #[.pointer (some ⟨b,0,none⟩),.string s] w fun e w'=>e=.returned (.tuple #[.int .i64 s.size,.nilIface])∧(Lib.BuilderAt 104 5 B b (.pointer (some ⟨b,0,none⟩)) (bs++Lib.strCells s) w'∧Below B w w'∧KeepT w w'):=by
 obtain⟨i0,hi,hz0,hz1,hz2⟩:=info_parts infoByte
 go_enter Tryz.func31,Tryz.ntmps31
 go_wp2_with (go_at_call 68;refine(wCopyCheck_any B b bs _ h).mono ?_)
 rintro e w1 ⟨rfl,h1,hb1,hk1⟩
 obtain⟨hB,v,hbk,hown,hne⟩:=h1
 have c0:w1.cell? ⟨b,0,none⟩=some (.pointer (some ⟨b,0,none⟩)):=by rw[Lib.cell_of_heap hbk];rfl
 have c1:w1.cell? ⟨b,1,none⟩=some v:=by rw[Lib.cell_of_heap hbk];rfl
 go_wp2_with (at_builtin;refine Lib.wpList_append_own_string _ rfl _ _ 88 9 rfl B 5 i0 (by kernel_rfl) (by kernel_rfl) hi hz0 hz1 hz2 _ _ _ rfl hown s rfl ?c3 ?c4 ?c5 ?_)
 case c3=>unfold maxLen;omega
 case c4=>omega
 case c5=>have:=hb1.size;omega
 intro v' w2 hown' hgrow _
 have hlt:b < w1.heap.size:=by
  rcases Nat.lt_or_ge b w1.heap.size with h' | h'
  ·exact h'
  ·simp[Array.getElem?_eq_none h']at hbk
 have hb2:w2.heap[b]?=some (.cells #[.pointer (some ⟨b,0,none⟩),v] 104 (0,0)):=by
  rw[hgrow.block b hlt (fun e=>hne e.symm)]
  exact hbk
 have d0:w2.cell? ⟨b,0,none⟩=some (.pointer (some ⟨b,0,none⟩)):=by rw[Lib.cell_of_heap hb2];rfl
 have d1:w2.cell? ⟨b,1,none⟩=some v:=by rw[Lib.cell_of_heap hb2];rfl
 have f1:w2.frozen? ⟨b,1,none⟩=false:=Lib.frozen_of_heap hb2 1
 obtain⟨ao,n',cap,rfl⟩:∃ ao n' cap,v'=.slice ao n' cap:=by
  rcases hown'.2 with⟨hv,_⟩ | ⟨g,cap,cur,hv,_⟩
  ·exact⟨_,_,_,hv⟩
  ·exact⟨_,_,_,hv⟩
 go_wp2
 go_ret2
 refine⟨rfl,?_,?_,hk1.trans ((KeepT.own hown hgrow).trans (KeepT.setCell hb2 _))⟩
 ·exact Lib.BuilderAt.put (T:=104) (e:=5) hB hb2 (bs':=bs++Lib.strCells s) (by simpa [Lib.strCells_length]using hown') (by decide)
 ·exact(hb1.grown hgrow (by have:=hb1.size;omega) (fun k hk=>(hown.lt k hk).1)).setCell (p:=⟨b,1,none⟩) hB _
set_option maxHeartbeats 1000000 in
set_option maxRecDepth 100000 in
theorem wBstring_any (B b:Nat)(l:List UInt8)(w:World)(h:Lib.BuilderAt 104 5 B b (.pointer (some ⟨b,0,none⟩)) (Lib.byteCells l) w)(h0:l≠[]) :
  Calls Tryz.prog 32 #[.pointer (some ⟨b,0,none⟩)] w fun e w'=>e=.returned (.string ⟨l.toArray⟩)∧Below B w w':=by
 obtain⟨hB,v,hbk,hown,hne⟩:=h
 have hl0:l.length≠0:=by simpa using h0
 rw[Lib.byteCells_length]at hown
 obtain⟨g,cap,cur,rfl,hbg,hg,hnc,hcm,hcs,htake⟩:∃ g cap cur,v=.slice (some ⟨g,0,none⟩) l.length cap∧B≤g∧w.heap[g]?=some (.cells cur 5 (0,0))∧l.length≤cap∧cap≤maxLen∧cur.size=cap*1∧cur.toList.take (l.length*1)=Lib.byteCells l:=by
  rcases hown.2 with⟨_,hz⟩ | ⟨g,cap,cur,hv,r⟩
  ·exact absurd hz hl0
  ·exact⟨g,cap,cur,hv,r⟩
 have c1:w.drew.cell? ⟨b,1,none⟩=some (.slice (some ⟨g,0,none⟩) l.length cap):=by
  have:w.drew.heap[b]?=some (.cells #[.pointer (some ⟨b,0,none⟩),.slice (some ⟨g,0,none⟩) l.length cap] 104 (0,0)):=hbk
  rw[Lib.cell_of_heap this];rfl
 have hSD:(Builtin.unsafeSliceData_ #[88] 154 #[.slice (some ⟨g,0,none⟩) l.length cap]).run Tryz.prog w.drew=.ok (.pointer (some ⟨g,0,none⟩)) w.drew :=
  Lib.run_unsafeSliceData_row _ _ _ _ _ _ (by omega)
 have hUS:(Builtin.unsafeString_ #[154,3] 9 #[.pointer (some ⟨g,0,none⟩),.int .i64 l.length]).run Tryz.prog w.drew=.ok (.string ⟨l.toArray⟩) (w.drew.freeze ⟨g,0,none⟩ l.length):=by
  refine Lib.run_unsafeString_row w.drew 154 3 9 5 (by kernel_rfl) (by kernel_rfl) g cur.size (by have hg':w.drew.heap[g]?=some (.cells cur 5 (0,0)):=hg;simp[World.shape?,hg']) l h0 (by omega) (by unfold maxLen at hcm;omega) ?_
  intro j x hx
  have:=hown.cells (g:=g) rfl j (.int .u8 x.toNat) (by simp[Lib.byteCells,hx])
  exact this
 go_enter Tryz.func32,Tryz.ntmps32
 go_wp2
 go_region
 all_goals (go_wp2;go_ret;exact⟨rfl,Lib.below_freeze (Below.drew (Below.refl B w)) (p:=⟨g,0,none⟩) hbg _⟩)
abbrev WB (B b:Nat)(L:List UInt8)(w:World):Prop:=Lib.IsBuilder 104 5 B b (Lib.byteCells L) w
abbrev WU (B b:Nat)(L:List UInt8)(w:World):Prop:=Lib.BuilderAt 104 5 B b (.pointer (some ⟨b,0,none⟩)) (Lib.byteCells L) w
theorem WB.keep {B b:Nat}{L:List UInt8}{w w':World}(h:WB B b L w)(hb:Below w.heap.size w w'):WB B b L w':=isBuilder_keepQ h hb
theorem wput_nat (n:Int)(h:0≤n∧n≤100000000)(w:World):Calls Tryz.prog 67 #[.int .i64 n] w fun e w'=>e=.returned (.tuple #[.string (bytesOf (putN n)),.int .i64 0])∧Below w.heap.size w w':=by
 obtain⟨k,rfl⟩:∃ k:Nat,n=(k:Int):=⟨n.toNat,by omega⟩
 exact putI_any k (by omega) w
theorem wwrite_any (B b:Nat)(L:List UInt8)(s:ByteArray)(w:World)(h:WB B b L w)(hL:L.length≤100000)(hs:s.size≤100000)(hBw:B≤w.heap.size) :
  Calls Tryz.prog 31 #[.pointer (some ⟨b,0,none⟩),.string s] w fun e w'=>e=.returned (.tuple #[.int .i64 s.size,.nilIface])∧WU B b (L++s.data.toList) w'∧Below B w w'∧KeepT w w':=by
 refine(wWriteString_any B b _ s w h (by rw[Lib.byteCells_length];omega) hBw).mono ?_
 rintro e w' ⟨h1,h2,h3,h4⟩
 refine⟨h1,?_,h3,h4⟩
 show Lib.BuilderAt 104 5 B b (.pointer (some ⟨b,0,none⟩)) (Lib.byteCells (L++s.data.toList)) w'
 rw[Lib.byteCells_append,← Lib.strCells_eq]
 exact h2
set_option maxHeartbeats 2000000 in
set_option maxRecDepth 100000 in
theorem numbers_any (B b:Nat)(L:List UInt8){w:World}(h:WB B b L w)(hL:L.length≤10000)(hBw:B≤w.heap.size){g n:Nat}{l:List Int}(hg:w.heap[g]?=some (.cells (icells l).flatten.toArray 3 (0,0)))(hn:n=l.length)(hn2:n≤1000)(hl:∀ x∈l,0≤x∧x≤100000000) :
  Calls Tryz.prog 29 #[.pointer (some ⟨b,0,none⟩),.slice (some ⟨g,0,none⟩) n n] w fun e w'=>e=.returned (.tuple #[])∧WB B b (L++putsN l) w'∧(0 < n→WU B b (L++putsN l) w')∧Below B w w'∧KeepT w w':=by
 have HG:=zh hg
 have HN:=zh hn
 have HL:=zh hl
 have HB0:=zh h
 have HLL:=zh hL
 have HBW:=zh hBw
 clear hg hn hl h hL hBw
 go_enter Tryz.func29,Tryz.ntmps29
 go_wp2
 go_loopw [10] (fun i wr=>∃ k:Nat,k≤n∧i=.int .i64 k∧Hid (WB B b (L++putsN (l.take k)) wr)∧Hid (0 < k→WU B b (L++putsN (l.take k)) wr)∧Hid (Below B w wr)∧Hid (KeepT w wr)) (fun i _=>n - (intOf i).toNat)
 case atStart=>exact⟨0,by omega,rfl,zh (by rw[List.take_zero];show WB B b (L++[]) w;rw[List.append_nil];exact HB0.out),zh (fun h=>absurd h (by omega)),zh br0,zh (KeepT.refl _)⟩
 case round =>
  clear HB0
  obtain⟨k,hk,rfl,hB,hU,hW,hK⟩:=hrel
  by_cases hlt:k < n
  ·have tk:(k:Int) < (n:Int):=by omega
   have tk0:(0:Int)≤(k:Int):=by omega
   obtain⟨x,ex⟩:∃ x,l[k]?=some x:=⟨_,List.getElem?_eq_getElem (by rw[← HN.out];exact hlt)⟩
   have hx:=HL.out x (List.mem_of_getElem? ex)
   have hrow:=hK.out g _ _ HG.out (by decide) (by decide)
   have hsl:SliceAt wr (.slice (some ⟨g,0,none⟩) n n) 1 (icells l):=slice_litT hrow (icells_one _) (by unfold icells;rw[List.length_map];exact HN.out) (by unfold icells;rw[List.length_map,← HN.out];exact hn2)
   obtain⟨b',off,e1,_,hc⟩:=SliceAt.eachT hsl (k:=k) (cs:=[.int .i64 x]) (by unfold icells;rw[List.getElem?_map,ex];rfl)
   obtain⟨rfl,rfl⟩:b'=g∧off=0:=by
    injection e1 with e
    injection e with e1 e2
    exact⟨e1.symm,e2.symm⟩
   have c0:=hc 0 _ rfl
   rw[Nat.zero_add,Nat.mul_one,Nat.add_zero]at c0
   have HP:=zh (fun W=>wput_nat x hx W)
   have hpl:(putsN (l.take k)).length≤4000:=by
    have:=putsN_len (l.take k)
    rw[List.length_take]at this
    omega
   have hLL:=HLL.out
   have hsz:(bytesOf (putN x)).size≤4:=by rw[bytesOf_size];exact(putN_lenT x).2
   have HWR:=zh (fun W (hW2:Below wr.heap.size wr W)=>wwrite_any B b (L++putsN (l.take k)) (bytesOf (putN x)) W (hB.out.keep hW2) (by rw[List.length_append];omega) (by omega) (Nat.le_trans HBW.out (Nat.le_trans hW.out.size hW2.size)))
   have HX:Hid (L++putsN (l.take k)++(bytesOf (putN x)).data.toList=L++putsN (l.take (k+1))):=zh (by rw[list_bytesOf,List.append_assoc,List.take_add_one,ex];exact congrArg (L++·) (putsN_snoc _ _).symm)
   rw[HX.out]at HWR
   generalize bytesOf (putN x)=y at *
   clear hsl hrow hc e1 ex hx hpl hLL hsz HX
   go_wp2_with (first | (go_at_call 67;(with_reducible refine(HP.out _).mono ?_);clear c0;rintro e w2 ⟨rfl,hb2⟩;have HB2:=zh hb2;clear hb2) | (go_at_call 31;(with_reducible refine(HWR.out _ HB2.out).mono ?_);rintro e w3 ⟨rfl,hu3,hb3,hk3⟩;have HU3:=zh hu3;have HB3:=zh ((hW.out.trans (HB2.out.mono (Nat.le_trans HBW.out hW.out.size))).trans hb3);have HK3:=zh (hK.out.trans ((KeepT.below HB2.out).trans hk3));clear hu3 hb3 hk3))
   go_roundw
   case rel=>exact⟨k+1,by omega,by go_num,zh (.inr HU3.out),zh (fun _=>HU3.out),HB3,HK3⟩
   case measure=>simp[intOf];omega
  ·obtain rfl:k=n:=by omega
   have HT:Hid (l.take k=l):=zh (by rw[HN.out,List.take_length])
   rw[HT.out]at hB hU
   go_wp2
   go_end0
   exact⟨rfl,hB.out,hU.out,hW.out,hK.out⟩
set_option maxHeartbeats 400000 in
theorem isKeyW_yes (s:ByteArray)(hs:s.size=32)(w:World):Calls Tryz.prog 21 #[.string s] w fun e w'=>e=.returned (.bool true)∧w'=w:=by
 have h:(s.size:Int)=32:=by omega
 go_enter Tryz.func21,Tryz.ntmps21
 go_wp2
 go_ret
 exact⟨ret_bool (by simp),rfl⟩
set_option maxHeartbeats 2000000 in
set_option maxRecDepth 100000 in
theorem proxyWr_any (B b:Nat)(L:List UInt8)(x:ProxP)(h:formedP x=true){w:World}(hB:WB B b L w)(hL:L.length≤10000)(hBw:B≤w.heap.size) :
  Calls Tryz.prog 30 #[.pointer (some ⟨b,0,none⟩),pagg x] w fun e w'=>e=.returned (.tuple #[])∧WU B b (L++putsN (proxI x)) w'∧Below B w w'∧KeepT w w':=by
 have hr:=proxI_range h
 obtain⟨l,hl⟩:∃ l,l=proxI x:=⟨_,rfl⟩
 rw[← hl]at hr ⊢
 obtain⟨fr,tu,rf,rt,sf,st,sl⟩:=x
 obtain⟨W1,hW1⟩:∃ W1,W1=w.alloc (.cells #[.int .i64 fr,.int .i64 tu,.int .i64 rf,.int .i64 rt,.int .i64 sf,.int .i64 st,.string sl] 96):=⟨_,rfl⟩
 have HBW1:Hid (Below w.heap.size w W1):=zh (by rw[hW1];exact br0.alloc (Nat.le_refl _) _)
 have HXW1:Hid (W1.heap[w.heap.size]?=some (.cells #[.int .i64 fr,.int .i64 tu,.int .i64 rf,.int .i64 rt,.int .i64 sf,.int .i64 st,.string sl] 96 (0,0))):=zh (by rw[hW1];exact heap_alloc_new w _)
 have HWW1:=zh hW1
 clear hW1
 obtain⟨W2,hW2⟩:∃ W2,W2=W1.alloc (.cells #[.int .i64 2,.int .i64 fr,.int .i64 tu,.int .i64 rf,.int .i64 rt,.int .i64 sf,.int .i64 st] 3):=⟨_,rfl⟩
 have HBW2:Hid (Below W1.heap.size W1 W2):=zh (by rw[hW2];exact br0.alloc (Nat.le_refl _) _)
 have HXW2:Hid (W2.heap[W1.heap.size]?=some (.cells #[.int .i64 2,.int .i64 fr,.int .i64 tu,.int .i64 rf,.int .i64 rt,.int .i64 sf,.int .i64 st] 3 (0,0))):=zh (by rw[hW2];exact heap_alloc_new W1 _)
 have HWW2:=zh hW2
 clear hW2
 have HL:Hid (W2.heap[W1.heap.size]?=some (.cells (icells l).flatten.toArray 3 (0,0))):=zh (by rw[hl];exact HXW2.out)
 have HBB:=zh (q_next HBW1.out HBW2.out)
 have HP:=zh (numbers_any B b L (hB.keep HBB.out) hL (Nat.le_trans hBw HBB.out.size) HL.out (show 7=l.length by rw[hl];rfl) (by decide) hr)
 obtain⟨c0,c1,c2,c3,c4,c5,c6⟩:=seven_cells HXW1.out
 have HBM:=zh (HBB.out.mono hBw)
 unfold pagg
 simp only
 clear hl hr HL hB hBw
 go_enter Tryz.func30,Tryz.ntmps30
 go_upto_region 1 with fail
 rw[← HWW1.out]
 go_wp2_with (go_at_call 29;rw[← HWW2.out];(with_reducible refine HP.out.mono ?_);rintro e w3 ⟨rfl,-,hu,hb3,hk3⟩;have HU:=zh (hu (by decide));have HB3:=zh (HBM.out.trans hb3);have HK3:=zh ((KeepT.below HBB.out).trans hk3);clear hu hb3 hk3)
 go_end0
 exact⟨rfl,HU.out,HB3.out,HK3.out⟩
set_option maxHeartbeats 2000000 in
set_option maxRecDepth 100000 in
theorem wishWr_any (B b:Nat)(L:List UInt8)(x:WishP)(h:formedW x=true){w:World}(hB:WB B b L w)(hL:L.length≤10000)(hBw:B≤w.heap.size) :
  Calls Tryz.prog 25 #[.pointer (some ⟨b,0,none⟩),wagg x] w fun e w'=>e=.returned (.tuple #[])∧WU B b (L++putsN (wishI x)) w'∧Below B w w'∧KeepT w w':=by
 have hr:=wishI_range h
 obtain⟨l,hl⟩:∃ l,l=wishI x:=⟨_,rfl⟩
 rw[← hl]at hr ⊢
 obtain⟨sg,ho,rf,rt,ca,se,sf,st,sl⟩:=x
 obtain⟨W1,hW1⟩:∃ W1,W1=w.alloc (.cells #[.int .i64 sg,.int .i64 ho,.int .i64 rf,.int .i64 rt,.int .i64 ca,.int .i64 se,.int .i64 sf,.int .i64 st,.string sl] 31):=⟨_,rfl⟩
 have HBW1:Hid (Below w.heap.size w W1):=zh (by rw[hW1];exact br0.alloc (Nat.le_refl _) _)
 have HXW1:Hid (W1.heap[w.heap.size]?=some (.cells #[.int .i64 sg,.int .i64 ho,.int .i64 rf,.int .i64 rt,.int .i64 ca,.int .i64 se,.int .i64 sf,.int .i64 st,.string sl] 31 (0,0))):=zh (by rw[hW1];exact heap_alloc_new w _)
 have HWW1:=zh hW1
 clear hW1
 obtain⟨W2,hW2⟩:∃ W2,W2=W1.alloc (.cells #[.int .i64 1,.int .i64 sg,.int .i64 ho,.int .i64 rf,.int .i64 rt,.int .i64 ca,.int .i64 se,.int .i64 sf,.int .i64 st] 3):=⟨_,rfl⟩
 have HBW2:Hid (Below W1.heap.size W1 W2):=zh (by rw[hW2];exact br0.alloc (Nat.le_refl _) _)
 have HXW2:Hid (W2.heap[W1.heap.size]?=some (.cells #[.int .i64 1,.int .i64 sg,.int .i64 ho,.int .i64 rf,.int .i64 rt,.int .i64 ca,.int .i64 se,.int .i64 sf,.int .i64 st] 3 (0,0))):=zh (by rw[hW2];exact heap_alloc_new W1 _)
 have HWW2:=zh hW2
 clear hW2
 have HL:Hid (W2.heap[W1.heap.size]?=some (.cells (icells l).flatten.toArray 3 (0,0))):=zh (by rw[hl];exact HXW2.out)
 have HBB:=zh (q_next HBW1.out HBW2.out)
 have HP:=zh (numbers_any B b L (hB.keep HBB.out) hL (Nat.le_trans hBw HBB.out.size) HL.out (show 9=l.length by rw[hl];rfl) (by decide) hr)
 obtain⟨c0,c1,c2,c3,c4,c5,c6,c7,c8⟩:=nine_cells HXW1.out
 have HBM:=zh (HBB.out.mono hBw)
 unfold wagg
 simp only
 clear hl hr HL hB hBw
 go_enter Tryz.func25,Tryz.ntmps25
 go_upto_region 1 with fail
 rw[← HWW1.out]
 go_wp2_with (go_at_call 29;rw[← HWW2.out];(with_reducible refine HP.out.mono ?_);rintro e w3 ⟨rfl,-,hu,hb3,hk3⟩;have HU:=zh (hu (by decide));have HB3:=zh (HBM.out.trans hb3);have HK3:=zh ((KeepT.below HBB.out).trans hk3);clear hu hb3 hk3)
 go_end0
 exact⟨rfl,HU.out,HB3.out,HK3.out⟩
set_option maxHeartbeats 1000000 in
set_option maxRecDepth 100000 in
theorem signC_any (B b p:Nat)(L:List UInt8)(x:WishP)(h:formedW x=true){w:World}(hB:WB B b L w)(hL:L.length≤10000)(hBw:B≤w.heap.size)(hp:w.heap[p]?=some (.cells #[.int .i64 x.sg,.int .i64 x.ho,.int .i64 x.rf,.int .i64 x.rt,.int .i64 x.ca,.int .i64 x.se,.int .i64 x.sf,.int .i64 x.st,.string x.sl] 31 (0,0))) :
  Calls Tryz.prog 24 #[.pointer (some ⟨b,0,none⟩),.pointer (some ⟨p,0,none⟩)] w fun e w'=>e=.returned (.tuple #[])∧WU B b (L++putsN (wishI x)) w'∧Below B w w'∧KeepT w w':=by
 have HWR:=zh (wishWr_any B b L x h hB hL hBw)
 obtain⟨l,hl⟩:∃ l,l=L++putsN (wishI x):=⟨_,rfl⟩
 rw[← hl]at HWR ⊢
 obtain⟨sg,ho,rf,rt,ca,se,sf,st,sl⟩:=x
 simp only at hp
 obtain⟨c0,c1,c2,c3,c4,c5,c6,c7,c8⟩:=nine_cells hp
 unfold wagg at HWR
 simp only at HWR
 clear hl hB hp h
 go_enter Tryz.func24,Tryz.ntmps24
 go_wp2_with (go_at_call 25;(with_reducible refine HWR.out.mono ?_);rintro e w3 ⟨rfl,hu,hb3,hk3⟩;have HU:=zh hu;have HB3:=zh hb3;have HK3:=zh hk3;clear hu hb3 hk3)
 go_end0
 exact⟨rfl,HU.out,HB3.out,HK3.out⟩
set_option maxHeartbeats 1000000 in
set_option maxRecDepth 100000 in
theorem why2_any (B b p:Nat)(L:List UInt8)(x:ProxP)(h:formedP x=true){w:World}(hB:WB B b L w)(hL:L.length≤10000)(hBw:B≤w.heap.size)(hp:w.heap[p]?=some (.cells #[.int .i64 x.fr,.int .i64 x.tu,.int .i64 x.rf,.int .i64 x.rt,.int .i64 x.sf,.int .i64 x.st,.string x.sl] 96 (0,0))) :
  Calls Tryz.prog 102 #[.pointer (some ⟨b,0,none⟩),.pointer (some ⟨p,0,none⟩)] w fun e w'=>e=.returned (.tuple #[])∧WU B b (L++putsN (proxI x)) w'∧Below B w w'∧KeepT w w':=by
 have HWR:=zh (proxyWr_any B b L x h hB hL hBw)
 obtain⟨l,hl⟩:∃ l,l=L++putsN (proxI x):=⟨_,rfl⟩
 rw[← hl]at HWR ⊢
 obtain⟨fr,tu,rf,rt,sf,st,sl⟩:=x
 simp only at hp
 obtain⟨c0,c1,c2,c3,c4,c5,c6⟩:=seven_cells hp
 unfold pagg at HWR
 simp only at HWR
 clear hl hB hp h
 go_enter Tryz.func102,Tryz.ntmps102
 go_wp2_with (go_at_call 30;(with_reducible refine HWR.out.mono ?_);rintro e w3 ⟨rfl,hu,hb3,hk3⟩;have HU:=zh hu;have HB3:=zh hb3;have HK3:=zh hk3;clear hu hb3 hk3)
 go_end0
 exact⟨rfl,HU.out,HB3.out,HK3.out⟩
set_option maxHeartbeats 1000000 in
set_option maxRecDepth 100000 in
theorem why3_any (B b p:Nat)(L:List UInt8)(x:WishP)(h:formedW x=true){w:World}(hB:WB B b L w)(hL:L.length≤10000)(hBw:B≤w.heap.size)(hp:w.heap[p]?=some (.cells #[.int .i64 x.sg,.int .i64 x.ho,.int .i64 x.rf,.int .i64 x.rt,.int .i64 x.ca,.int .i64 x.se,.int .i64 x.sf,.int .i64 x.st,.string x.sl] 31 (0,0))) :
  Calls Tryz.prog 103 #[.pointer (some ⟨b,0,none⟩),.pointer (some ⟨p,0,none⟩)] w fun e w'=>e=.returned (.tuple #[])∧WU B b (L++putsN (wishI x)) w'∧Below B w w'∧KeepT w w':=by
 have HWR:=zh (wishWr_any B b L x h hB hL hBw)
 obtain⟨l,hl⟩:∃ l,l=L++putsN (wishI x):=⟨_,rfl⟩
 rw[← hl]at HWR ⊢
 obtain⟨sg,ho,rf,rt,ca,se,sf,st,sl⟩:=x
 simp only at hp
 obtain⟨c0,c1,c2,c3,c4,c5,c6,c7,c8⟩:=nine_cells hp
 unfold wagg at HWR
 simp only at HWR
 clear hl hB hp h
 go_enter Tryz.func103,Tryz.ntmps103
 go_wp2_with (go_at_call 25;(with_reducible refine HWR.out.mono ?_);rintro e w3 ⟨rfl,hu,hb3,hk3⟩;have HU:=zh hu;have HB3:=zh hb3;have HK3:=zh hk3;clear hu hb3 hk3)
 go_end0
 exact⟨rfl,HU.out,HB3.out,HK3.out⟩
set_option maxHeartbeats 2000000 in
set_option maxRecDepth 100000 in
theorem seal_gen (key:ByteArray)(hk:key.size≤1000)(gf:Nat)(cap:Value)(C:List UInt8)(hC:C≠[])(hCl:C.length≤10000){w:World}(he:Env w)(hg:0 < w.heap.size)
  (eg:∀ args w,(callFunc gf args).run Tryz.prog w=.ok (.enter gf args) w)
  (HG:Hid (∀ W,Below w.heap.size w W→WB w.heap.size w.heap.size [] W→Calls Tryz.prog gf #[.pointer (some ⟨w.heap.size,0,none⟩),cap] W fun e w'=>e=.returned (.tuple #[])∧WU w.heap.size w.heap.size C w'∧Below w.heap.size W w')) :
  Calls Tryz.prog 23 #[.string key,.func (.func gf) #[] #[cap]] w fun e w'=>e=.returned (.string (sealK key (bytesOf C)))∧Below w.heap.size w w':=by
 obtain⟨W1,hW1⟩:∃ W,W=w.alloc (.cells #[.pointer none,.slice none 0 0] 104):=⟨_,rfl⟩
 have HB1:Hid (Below w.heap.size w W1):=zh (by rw[hW1];exact br0.alloc (Nat.le_refl _) _)
 have HF1:WB w.heap.size w.heap.size [] W1:=by rw[hW1];exact Lib.fresh_isBuilder 104 5 w
 have HG1:=zh (HG.out W1 HB1.out HF1)
 have HE:=zh (fun W (hW:Below w.heap.size w W)=>And.intro (he.below hW hg) (Nat.lt_of_lt_of_le hg hW.size))
 have HLF:=zh (fun W (hW:Below w.heap.size w W)=>leaf_any (bytesOf C) W (by rw[bytesOf_size];omega) (HE.out W hW).1 (HE.out W hW).2)
 have HND:=zh (fun W (hW:Below w.heap.size w W)=>node_any key (leafS (bytesOf C)) W (by omega) (by show 32≤_;omega) (HE.out W hW).1 (HE.out W hW).2)
 have HST:=zh (fun W (hu:WU w.heap.size w.heap.size C W)=>wBstring_any w.heap.size w.heap.size C W hu hC)
 obtain⟨R,hR⟩:∃ R,R=sealK key (bytesOf C):=⟨_,rfl⟩
 have e1:nodeS key (leafS (bytesOf C))=R:=by rw[hR];rfl
 rw[e1]at HND
 rw[← hR]
 have e2:(⟨C.toArray⟩:ByteArray)=bytesOf C:=rfl
 rw[e2]at HST
 generalize leafS (bytesOf C)=lf at *
 generalize bytesOf C=D at *
 have hcf:=eg #[.pointer (some ⟨w.heap.size,0,none⟩),cap]
 have HW1:=zh hW1
 clear hR e1 e2 hW1 HF1 HG HE he hg hC hCl hk eg
 go_enter Tryz.func23,Tryz.ntmps23
 go_upto_region 2 with fail
 rw[← HW1.out]
 go_wp2
 refine HG1.out.mono ?_
 rintro e w2 ⟨rfl,hu,hb2⟩
 have HU:=zh hu
 have HB2:=zh (HB1.out.trans hb2)
 clear hu hb2 HG1 HW1
 go_wp2_with (first | (go_at_call 32;(with_reducible refine(HST.out _ HU.out).mono ?_);rintro e w3 ⟨rfl,hb3⟩;have HB3:=zh (HB2.out.trans hb3);clear hb3) | (go_at_call 64;(with_reducible refine(HLF.out _ HB3.out).mono ?_);rintro e w4 ⟨rfl,hb4⟩;have HB4:=zh (q_next HB3.out hb4);clear hb4) | (go_at_call 63;(with_reducible refine(HND.out _ HB4.out).mono ?_);rintro e w5 ⟨rfl,hb5⟩;have HB5:=zh (q_next HB4.out hb5);clear hb5))
 go_ret
 exact⟨rfl,HB5.out⟩
theorem wishI_ne (x:WishP):putsN (wishI x)≠[]:=by
 intro h
 have h1:=(putN_lenT 1).1
 have h2:putsN (wishI x)=putN 1++putsN [x.sg,x.ho,x.rf,x.rt,x.ca,x.se,x.sf,x.st]:=putsN_cons _ _
 rw[h]at h2
 have h3:=congrArg List.length h2
 rw[List.length_append,List.length_nil]at h3
 omega
theorem proxI_ne (x:ProxP):putsN (proxI x)≠[]:=by
 intro h
 have h1:=(putN_lenT 2).1
 have h2:putsN (proxI x)=putN 2++putsN [x.fr,x.tu,x.rf,x.rt,x.sf,x.st]:=putsN_cons _ _
 rw[h]at h2
 have h3:=congrArg List.length h2
 rw[List.length_append,List.length_nil]at h3
 omega
theorem sealSign_any (key:ByteArray)(hk:key.size≤1000)(x:WishP)(h:formedW x=true){w:World}(he:Env w)(hg:0 < w.heap.size)(p:Nat)(hp:w.heap[p]?=some (.cells #[.int .i64 x.sg,.int .i64 x.ho,.int .i64 x.rf,.int .i64 x.rt,.int .i64 x.ca,.int .i64 x.se,.int .i64 x.sf,.int .i64 x.st,.string x.sl] 31 (0,0))) :
  Calls Tryz.prog 23 #[.string key,.func (.func 24) #[] #[.pointer (some ⟨p,0,none⟩)]] w fun e w'=>e=.returned (.string (sealK key (bytesOf (putsN (wishI x)))))∧Below w.heap.size w w':=by
 have hl:=putsN_len (wishI x)
 have hl2:(wishI x).length=9:=rfl
 refine seal_gen key hk _ _ _ (wishI_ne x) (by omega) he hg (fun _ _=>by kernel_rfl) (zh fun W hW hB=>?_)
 refine(signC_any w.heap.size w.heap.size p [] x h hB (by simp) hW.size (kept_block hp hW)).mono ?_
 rintro e w' ⟨h1,h2,h3,-⟩
 exact⟨h1,h2,h3⟩
theorem sealWhy2_any (key:ByteArray)(hk:key.size≤1000)(x:ProxP)(h:formedP x=true){w:World}(he:Env w)(hg:0 < w.heap.size)(p:Nat)(hp:w.heap[p]?=some (.cells #[.int .i64 x.fr,.int .i64 x.tu,.int .i64 x.rf,.int .i64 x.rt,.int .i64 x.sf,.int .i64 x.st,.string x.sl] 96 (0,0))) :
  Calls Tryz.prog 23 #[.string key,.func (.func 102) #[] #[.pointer (some ⟨p,0,none⟩)]] w fun e w'=>e=.returned (.string (sealK key (bytesOf (putsN (proxI x)))))∧Below w.heap.size w w':=by
 have hl:=putsN_len (proxI x)
 have hl2:(proxI x).length=7:=rfl
 refine seal_gen key hk _ _ _ (proxI_ne x) (by omega) he hg (fun _ _=>by kernel_rfl) (zh fun W hW hB=>?_)
 refine(why2_any w.heap.size w.heap.size p [] x h hB (by simp) hW.size (kept_block hp hW)).mono ?_
 rintro e w' ⟨h1,h2,h3,-⟩
 exact⟨h1,h2,h3⟩
theorem sealWhy3_any (key:ByteArray)(hk:key.size≤1000)(x:WishP)(h:formedW x=true){w:World}(he:Env w)(hg:0 < w.heap.size)(p:Nat)(hp:w.heap[p]?=some (.cells #[.int .i64 x.sg,.int .i64 x.ho,.int .i64 x.rf,.int .i64 x.rt,.int .i64 x.ca,.int .i64 x.se,.int .i64 x.sf,.int .i64 x.st,.string x.sl] 31 (0,0))) :
  Calls Tryz.prog 23 #[.string key,.func (.func 103) #[] #[.pointer (some ⟨p,0,none⟩)]] w fun e w'=>e=.returned (.string (sealK key (bytesOf (putsN (wishI x)))))∧Below w.heap.size w w':=by
 have hl:=putsN_len (wishI x)
 have hl2:(wishI x).length=9:=rfl
 refine seal_gen key hk _ _ _ (wishI_ne x) (by omega) he hg (fun _ _=>by kernel_rfl) (zh fun W hW hB=>?_)
 refine(why3_any w.heap.size w.heap.size p [] x h hB (by simp) hW.size (kept_block hp hW)).mono ?_
 rintro e w' ⟨h1,h2,h3,-⟩
 exact⟨h1,h2,h3⟩
open Go.RowKit Go.BigFrame
set_option maxHeartbeats 4000000 in
set_option maxRecDepth 100000 in
theorem signWish_any (key:ByteArray)(hk:key.size=32)(x:WishP)(h:formedW x=true){w:World}(he:Env w)(hg:0 < w.heap.size) :
  Calls Tryz.prog 7 #[.string key,wagg x] w fun e w'=>e=.returned (.tuple #[wagg { x with sl:=sealK key (wishC x) },.int .i64 0])∧Below w.heap.size w w':=by
 have hmf:∀(fn:Fn) (first cap:Array Value) (w:World),(Instr.makeFunc fn first cap).run Tryz.prog w=.ok (.func fn first cap) w:=fun _ _ _ _=>rfl
 have HIK:=zh (fun W=>isKeyW_yes key hk W)
 have HIW:=zh (fun W=>isWish_yes x h W)
 obtain⟨R,hR⟩:∃ R,R=sealK key (wishC x):=⟨_,rfl⟩
 have HSL:=zh (fun(W:World) (h1:Env W) (h2:0 < W.heap.size) (p:Nat)=>sealSign_any key (by omega) x h h1 h2 p)
 have e1:sealK key (bytesOf (putsN (wishI x)))=R:=by rw[hR];rfl
 rw[e1]at HSL
 rw[← hR]
 clear hR e1 h hk
 obtain⟨sg,ho,rf,rt,ca,se,sf,st,sl⟩:=x
 simp only at HSL
 obtain⟨W1,hW1⟩:∃ W1,W1=w.alloc (.cells #[.int .i64 sg,.int .i64 ho,.int .i64 rf,.int .i64 rt,.int .i64 ca,.int .i64 se,.int .i64 sf,.int .i64 st,.string sl] 31):=⟨_,rfl⟩
 have HB1:Hid (Below w.heap.size w W1):=zh (by rw[hW1];exact br0.alloc (Nat.le_refl _) _)
 have HX1:Hid (W1.heap[w.heap.size]?=some (.cells #[.int .i64 sg,.int .i64 ho,.int .i64 rf,.int .i64 rt,.int .i64 ca,.int .i64 se,.int .i64 sf,.int .i64 st,.string sl] 31 (0,0))):=zh (by rw[hW1];exact heap_alloc_new w _)
 have hs1:W1.heap.size=w.heap.size+1:=by rw[hW1];simp
 obtain⟨W2,hW2⟩:∃ W2,W2=W1.alloc (.cells #[.int .i64 0,.int .i64 0,.int .i64 0,.int .i64 0,.int .i64 0,.int .i64 0,.int .i64 0,.int .i64 0,.string ⟨#[]⟩] 31):=⟨_,rfl⟩
 have HB2:Hid (Below W1.heap.size W1 W2):=zh (by rw[hW2];exact br0.alloc (Nat.le_refl _) _)
 have HX2:Hid (W2.heap[w.heap.size+1]?=some (.cells #[.int .i64 0,.int .i64 0,.int .i64 0,.int .i64 0,.int .i64 0,.int .i64 0,.int .i64 0,.int .i64 0,.string ⟨#[]⟩] 31 (0,0))):=zh (by rw[hW2,← hs1];exact heap_alloc_new W1 _)
 have HC:Hid (∀ W,Below W2.heap.size W2 W→W.heap[w.heap.size]?=some (.cells #[.int .i64 sg,.int .i64 ho,.int .i64 rf,.int .i64 rt,.int .i64 ca,.int .i64 se,.int .i64 sf,.int .i64 st,.string sl] 31 (0,0))):=zh (fun W hW=>kept_block HX1.out (q_next HB2.out hW))
 have HZ:Hid (∀ W,Below W2.heap.size W2 W→W.heap[w.heap.size+1]?=some (.cells #[.int .i64 0,.int .i64 0,.int .i64 0,.int .i64 0,.int .i64 0,.int .i64 0,.int .i64 0,.int .i64 0,.string ⟨#[]⟩] 31 (0,0))):=zh (fun W hW=>kept_block HX2.out hW)
 have HBB:=zh (q_next HB1.out HB2.out)
 have HSE:=zh (fun W (hW:Below W2.heap.size W2 W)=>HSL.out W (he.below (q_next HBB.out hW) hg) (Nat.lt_of_lt_of_le hg (q_next HBB.out hW).size) w.heap.size (HC.out W hW))
 have HR:Hid (Below W2.heap.size W2 W2):=zh br0
 have HW1:=zh hW1
 have HW2:=zh hW2
 clear hW1 hW2 hs1 HSL he hg
 obtain⟨c0,c1,c2,c3,c4,c5,c6,c7,c8⟩:=nine_cells (HC.out W2 HR.out)
 unfold wagg at *
 simp only at HIW ⊢
 go_enter Tryz.func7,Tryz.ntmps7
 go_upto_region 1 with fail
 rw[← HW1.out,← HW2.out]
 go_upto_region 4 with(first | (go_at_call 21;(with_reducible refine(HIK.out _).mono ?_);rintro e w' ⟨rfl,hw'⟩;replace hw':=hw'.symm;subst hw') | (go_at_call 22;(with_reducible refine(HIW.out _).mono ?_);clear c0 c1 c2 c3 c4 c5 c6 c7 c8;rintro e w3 ⟨rfl,hbx⟩;replace HR:=zh (q_next HR.out hbx);clear hbx;obtain⟨c0,c1,c2,c3,c4,c5,c6,c7,c8⟩:=nine_cells (HC.out w3 HR.out)) | (go_at_call 23;(with_reducible refine(HSE.out _ HR.out).mono ?_);clear c0 c1 c2 c3 c4 c5 c6 c7 c8;rintro e w5 ⟨rfl,hbx⟩;replace HR:=zh (q_next HR.out hbx);clear hbx;obtain⟨c0,c1,c2,c3,c4,c5,c6,c7,c8⟩:=nine_cells (HC.out w5 HR.out);have z0:=thaw (HC.out w5 HR.out)))
 clear c0 c1 c2 c3 c4 c5 c6 c7 c8 z0
 have HX6:Hid ((w5.setCell ⟨w.heap.size,8,none⟩ (.string R)).heap[w.heap.size]?=some (.cells #[.int .i64 sg,.int .i64 ho,.int .i64 rf,.int .i64 rt,.int .i64 ca,.int .i64 se,.int .i64 sf,.int .i64 st,.string R] 31 (0,0))):=zh (heap_setCell_same (i:=8) (.string R) (HC.out w5 HR.out))
 have HZ6:=zh (setOther (b:=w.heap.size) (i:=8) (HZ.out w5 HR.out) (Nat.succ_ne_self _) (.string R))
 have HB6:=zh ((q_next HBB.out HR.out).setCell (p:=⟨w.heap.size,8,none⟩) (Nat.le_refl _) (.string R))
 have HLE:Hid (w.heap.size≤w.heap.size+1):=zh (Nat.le_succ _)
 clear HC HZ HR HX1 HX2 HB1 HB2 HBB HW1 HW2 HIK HIW HSE hmf
 generalize w5.setCell ⟨w.heap.size,8,none⟩ (.string R)=w6 at *
 obtain⟨rb,hrb⟩:∃ rb,rb=w.heap.size+1:=⟨_,rfl⟩
 rw[← hrb]at HZ6 HLE ⊢
 clear hrb
 have HF:=zh (nine_heap HZ6.out (.int .i64 sg) (.int .i64 ho) (.int .i64 rf) (.int .i64 rt) (.int .i64 ca) (.int .i64 se) (.int .i64 sf) (.int .i64 st) (.string R))
 have HBF:=zh (nine_below HB6.out HLE.out (.int .i64 sg) (.int .i64 ho) (.int .i64 rf) (.int .i64 rt) (.int .i64 ca) (.int .i64 se) (.int .i64 sf) (.int .i64 st) (.string R))
 obtain⟨c0,c1,c2,c3,c4,c5,c6,c7,c8⟩:=nine_cells HX6.out
 obtain⟨r0,r1,r2,r3,r4,r5,r6,r7,r8⟩:=nine_cells HZ6.out
 have zf:=thaw HZ6.out
 go_wp2
 exact bodyPost_ret (results_cellA_tmp rfl _ rb 31 #[.int .i64 sg,.int .i64 ho,.int .i64 rf,.int .i64 rt,.int .i64 ca,.int .i64 se,.int .i64 sf,.int .i64 st,.string R] (0,0) _ rfl HF.out Tryz.underlying31 rfl infoWish) rfl ⟨rfl,HBF.out⟩
def PxAt (W:World)(b o:Nat)(p:ProxP):Prop:=W.cell? ⟨b,o,none⟩=some (.int .i64 p.fr)∧W.cell? ⟨b,o+1,none⟩=some (.int .i64 p.tu)∧W.cell? ⟨b,o+2,none⟩=some (.int .i64 p.rf)∧W.cell? ⟨b,o+3,none⟩=some (.int .i64 p.rt)∧W.cell? ⟨b,o+4,none⟩=some (.int .i64 p.sf)∧W.cell? ⟨b,o+5,none⟩=some (.int .i64 p.st)∧W.cell? ⟨b,o+6,none⟩=some (.string p.sl)
theorem PrS.at {w:World}{a:Option Addr}{n c:Nat}{l:List ProxP}(h:PrS w (.slice a n c) l){k:Nat}{p:ProxP}(hk:l[k]?=some p):∃ b o,a=some ⟨b,o,none⟩∧b < w.heap.size∧∀ W,Below w.heap.size w W→PxAt W b (o+k*7) p:=by
 obtain⟨b,o,ha,hb,hc⟩:=SliceAt.eachT h (k:=k) (cs:=pcells p) (by rw[List.getElem?_map,hk];rfl)
 exact⟨b,o,ha,hb,fun W hW=>⟨cell_keepB hW hb (hc 0 _ rfl),cell_keepB hW hb (hc 1 _ rfl),cell_keepB hW hb (hc 2 _ rfl),cell_keepB hW hb (hc 3 _ rfl),cell_keepB hW hb (hc 4 _ rfl),cell_keepB hW hb (hc 5 _ rfl),cell_keepB hW hb (hc 6 _ rfl)⟩⟩
theorem PrS.form {w:World}{v:Value}{l:List ProxP}(h:PrS w v l):∃ a c,v=.slice a l.length c∧l.length≤c∧c≤maxLen:=by
 obtain⟨a,c,h1,h2,h3,_⟩:=h
 rw[List.length_map]at h1 h2
 exact⟨a,c,h1,h2,h3⟩
theorem PrS.below {w w':World}{v:Value}{l:List ProxP}(h:PrS w v l)(hb:Below w.heap.size w w'):PrS w' v l:=SliceAt.below h hb
def NoFn (gf:Nat)(l:List ProxP):Prop:=(∀(x:Value) (w:World),(callFunc gf #[x]).run Tryz.prog w=.ok (.enter gf #[x]) w)∧∀ p∈l,∀ w,Calls Tryz.prog gf #[pagg p] w fun e w'=>e=.returned (.bool false)∧Below w.heap.size w w'
set_option maxHeartbeats 2000000 in
set_option maxRecDepth 100000 in
theorem ifProx_no (gf:Nat){w:World}{v:Value}{l:List ProxP}(hf:NoFn gf l)(hv:PrS w v l) :
  Calls Tryz.prog 66 #[v,.func (.func gf) #[] #[]] w fun e w'=>e=.returned (.int .i64 (-1))∧Below w.heap.size w w':=by
 obtain⟨a,c,rfl,h1,h2⟩:=hv.form
 obtain⟨n,hn⟩:∃ n,n=l.length:=⟨_,rfl⟩
 rw[← hn]at h1 hv ⊢
 have HN:=zh hn
 have HV:=zh hv
 have HF:=zh hf
 have hn9:n≤9223372036854775807:=by unfold maxLen at h2;omega
 clear hn hv hf h1 h2
 go_enter Tryz.func66,Tryz.ntmps66
 go_wp2
 go_loopw [8] (fun i wr=>∃ k:Nat,k≤n∧i=.int .i64 k∧Hid (Below w.heap.size w wr)) (fun i _=>n - (intOf i).toNat)
 case atStart=>exact⟨0,by omega,rfl,zh br0⟩
 case round =>
  obtain⟨k,hk,rfl,hB⟩:=hrel
  by_cases hlt:k < n
  ·have tk:(k:Int) < (n:Int):=by omega
   have tk0:(0:Int)≤(k:Int):=by omega
   obtain⟨p,ep⟩:∃ p,l[k]?=some p:=⟨_,List.getElem?_eq_getElem (by rw[← HN.out];exact hlt)⟩
   obtain⟨b,o,rfl,hb,hc⟩:=HV.out.at ep
   obtain⟨c0,c1,c2,c3,c4,c5,c6⟩:=hc wr hB.out
   have HC:=zh (HF.out.2 p (List.mem_of_getElem? ep) wr)
   have hcf:=HF.out.1 (pagg p)
   clear hc ep
   obtain⟨fr,tu,rf,rt,sf,st,sl⟩:=p
   unfold pagg at HC hcf
   simp only at HC hcf c0 c1 c2 c3 c4 c5 c6
   go_wp2
   refine HC.out.mono ?_
   rintro e w2 ⟨rfl,hb2⟩
   have HB2:=zh (q_next hB.out hb2)
   clear hb2 HC c0 c1 c2 c3 c4 c5 c6 hcf
   go_wp2
   go_roundw
   case rel=>exact⟨k+1,by omega,by go_num,HB2⟩
   case measure=>simp[intOf];omega
  ·obtain rfl:k=n:=by omega
   have tk:¬ (k:Int) < (k:Int):=by omega
   go_wp2
   go_ret
   exact⟨rfl,hB.out⟩
set_option maxHeartbeats 1000000 in
theorem cfProx_no (gf:Nat){w:World}{v:Value}{l:List ProxP}(hf:NoFn gf l)(hv:PrS w v l) :
  Calls Tryz.prog 28 #[v,.func (.func gf) #[] #[]] w fun e w'=>e=.returned (.bool false)∧Below w.heap.size w w':=by
 have HC:=zh (ifProx_no gf hf hv)
 obtain⟨m1,hm1⟩:∃ m1:Int,m1=-1:=⟨_,rfl⟩
 rw[← hm1]at HC
 have h0:¬ (0:Int)≤m1:=by omega
 obtain⟨a,c,rfl,-,-⟩:=hv.form
 generalize l.length=n at *
 clear hm1 hf hv
 go_enter Tryz.func28,Tryz.ntmps28
 go_wp2_with (go_at_call 66;(with_reducible refine HC.out.mono ?_);rintro e w1 ⟨rfl,hb1⟩;have HB1:=zh hb1;clear hb1)
 go_ret
 exact⟨ret_bool (by simp[h0]),HB1.out⟩
set_option maxHeartbeats 1000000 in
theorem bad1_fn {l:List ProxP}(h:∀ p∈l,formedP p=true):NoFn 94 l:=by
 refine⟨fun _ _=>by kernel_rfl,fun p hp w=>?_⟩
 have HP:=zh (fun W=>isProxy_yes p (h p hp) W)
 clear h hp
 obtain⟨fr,tu,rf,rt,sf,st,sl⟩:=p
 have HB:=zh ((Below.refl w.heap.size w).alloc (Nat.le_refl _) (.cells #[.int .i64 fr,.int .i64 tu,.int .i64 rf,.int .i64 rt,.int .i64 sf,.int .i64 st,.string sl] 96))
 unfold pagg at HP ⊢
 simp only at HP ⊢
 go_enter Tryz.func94,Tryz.ntmps94
 go_wp2_with (go_at_call 95;(with_reducible refine(HP.out _).mono ?_);rintro e w1 ⟨rfl,hb1⟩;have HB1:=zh (q_next HB.out hb1);clear hb1)
 go_ret
 exact⟨rfl,HB1.out⟩
set_option maxHeartbeats 1000000 in
theorem open1_fn {l:List ProxP}(h:∀ p∈l,p.sl.size=32):NoFn 26 l:=by
 refine⟨fun _ _=>by kernel_rfl,fun p hp w=>?_⟩
 have hs:=h p hp
 clear h hp
 obtain⟨fr,tu,rf,rt,sf,st,sl⟩:=p
 simp only at hs
 have HB:=zh ((Below.refl w.heap.size w).alloc (Nat.le_refl _) (.cells #[.int .i64 fr,.int .i64 tu,.int .i64 rf,.int .i64 rt,.int .i64 sf,.int .i64 st,.string sl] 96))
 unfold pagg
 simp only
 go_enter Tryz.func26,Tryz.ntmps26
 go_wp2
 go_ret
 exact⟨ret_bool (by simp),HB.out⟩
set_option maxHeartbeats 1000000 in
theorem badProxy_no {w:World}{v:Value}{l:List ProxP}(h:∀ p∈l,formedP p=true)(hv:PrS w v l) :
  Calls Tryz.prog 65 #[v] w fun e w'=>e=.returned (.int .i64 (-1))∧Below w.heap.size w w':=by
 have HC:=zh (ifProx_no 94 (bad1_fn h) hv)
 obtain⟨a,c,rfl,-,-⟩:=hv.form
 generalize l.length=n at *
 clear h hv
 go_enter Tryz.func65,Tryz.ntmps65
 go_wp2_with (go_at_call 66;(with_reducible refine HC.out.mono ?_);rintro e w1 ⟨rfl,hb1⟩;have HB1:=zh hb1;clear hb1)
 go_ret
 exact⟨rfl,HB1.out⟩
end Go.Proofs.YtjjiikeldpjafaaGreatDoor
