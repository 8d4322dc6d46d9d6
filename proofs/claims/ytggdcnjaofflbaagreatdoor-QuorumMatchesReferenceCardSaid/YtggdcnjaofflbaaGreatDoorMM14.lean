/- From the data of a row to what a walk asks: slices of arrays of four integers, bytes. The conditions are those of the row. -/
import Derived.Stop.LaidErr
import Derived.Test.YtggdcnjaofflbaaGreatDoorMM13
import Derived.SliceStrings
import Derived.ChangeSame
import Derived.Shelf.Small.Strs
import Derived.Shelf.Sort.Plain
import Derived.Shelf.Slices.In.SortNone
import Derived.Shelf.SlIter.Sorted
import Derived.Shelf.SlSortCmp.WholeK
import Derived.Shelf.SlicesG.Cmp
import Derived.Shelf.SlSortCmp.NoneTotal
namespace Go.Proofs.YtggdcnjaofflbaaGreatDoor
open Go.RowKit Go.WideShapes Go.ChangeShapes
section
variable {H:Type} {enc:TypeId × Value→H} {P:Program}
/-! ### A slice of arrays of four integers -/
theorem a4_open {W:World}{base:Nat}{sp:Nat→Bool}{held:Bool}{fuel:Nat}{t e:TypeId}{cs:List Value}{x:DataW H × List MemPlace}
  (ht:P.underlying t=some (.array 4 e)) (he:P.underlying e=some (.int .i64)) (hce:P.cellsOf e=1) (hct:P.cellsOf t=4) (h:DataW.trod enc P W base sp held fuel t cs=some x) :
  ∃ q:R4,cs=q.cells∧Int4 q:=by
 obtain⟨xs,m,_,_,hl,hxl,hi⟩:=DataW.trod_array ht h
 rw[hct]at hl
 rw[hce]at hi
 have key:∀ i,i < 4→∃ n,cs[i]?=some (.int .i64 n)∧I64 n:=by
  intro i h4
  have h1:=hi i h4
  rw[List.getElem?_eq_getElem (by omega)]at h1
  obtain⟨n,hc,_,hw⟩:=DataW.trod_int he h1
  refine⟨n,?_,bounds_i64 hw⟩
  have:=congrArg (·[0]?) hc
  simpa [List.getElem?_take,List.getElem?_drop]using this
 obtain⟨a,ha,ia⟩:=key 0 (by omega)
 obtain⟨b,hb,ib⟩:=key 1 (by omega)
 obtain⟨c,hc,ic⟩:=key 2 (by omega)
 obtain⟨d,hd,id⟩:=key 3 (by omega)
 refine⟨⟨a,b,c,d⟩,?_,ia,ib,ic,id⟩
 obtain⟨w,x,y,z,rfl⟩:∃ w x y z,cs=[w,x,y,z]:=by
  match cs,hl with
  | [w,x,y,z],_=>exact⟨w,x,y,z,rfl⟩
 simp only[List.getElem?_cons_zero,List.getElem?_cons_succ,Option.some.injEq]at ha hb hc hd
 subst ha hb hc hd
 rfl
theorem a4s_open {W:World}{sp:Nat→Bool}{held:Bool}{ts t e:TypeId}{v:Value}{d:DataW H}{ps:List MemPlace}
  (hts:P.underlying ts=some (.slice t)) (ht:P.underlying t=some (.array 4 e)) (he:P.underlying e=some (.int .i64)) (hce:P.cellsOf e=1) (hct:P.cellsOf t=4)
  (hval:Value.okWide P W .any 0 ts v) (h:DataW.Trod enc P W 0 sp held ts v d ps):∃ xs:List R4,RS W v xs∧∀ q∈xs,Int4 q:=by
 obtain⟨a,len,cap,rfl⟩:=okWide_slice hts hval
 obtain⟨fuel,h⟩:=h
 cases fuel with
 | zero=>simp[DataW.trod]at h
 | succ fuel =>
  rw[show(Value.slice a len cap).cells.toList=[.slice a len cap]from rfl]at h
  cases a with
  | none =>
   unfold DataW.trod at h
   rw[hts]at h
   split at h
   all_goals simp_all
   exact⟨[],RS.nil _,by simp⟩
  | some a =>
   unfold DataW.trod at h
   simp only[hts]at h
   split at h
   ·rename_i hc
    obtain⟨_,h1,h2⟩:=hc
    rw[Option.bind_eq_some_iff]at h
    obtain⟨elems,hel,_⟩:=h
    rw[hct]at hel
    have hlen:elems.length=len:=by simpa using mapM_some_length hel
    have key:∀ i,i < len→∃ q:R4,W.cells? 0 (a.add (i*4)) 4=some q.cells∧Int4 q:=by
     intro i hi
     have h3:=mapM_some_get hel i i (by simp[hi])
     rw[List.getElem?_eq_getElem (by omega),Option.bind_eq_some_iff]at h3
     obtain⟨cs,hcs,htr⟩:=h3
     obtain⟨q,rfl,hq⟩:=a4_open ht he hce hct htr
     exact⟨q,hcs,hq⟩
    have hall:∀ n,n≤len→∃ xs:List R4,xs.length=n∧∀ i q,xs[i]?=some q→W.cells? 0 (a.add (i*4)) 4=some q.cells∧Int4 q:=by
     intro n
     induction n with
     | zero=>intro _;exact⟨[],rfl,by simp⟩
     | succ n ih =>
      intro hn
      obtain⟨xs,hx,hxs⟩:=ih (by omega)
      obtain⟨q,hq⟩:=key n (by omega)
      refine⟨xs++[q],by simp[hx],fun i q' hi=>?_⟩
      rcases Nat.lt_or_ge i n with h' | h'
      ·rw[List.getElem?_append_left (by omega)]at hi
       exact hxs i q' hi
      ·rw[List.getElem?_append_right (by omega)]at hi
       obtain rfl:i=n:=by
        rcases Nat.eq_or_lt_of_le h' with h'' | h''
        ·omega
        ·rw[List.getElem?_eq_none (by simp;omega)]at hi;cases hi
       rw[hx,Nat.sub_self]at hi
       simp at hi
       subst hi
       exact hq
    obtain⟨xs,hx,hxs⟩:=hall len (Nat.le_refl _)
    refine⟨xs,⟨some a,cap,by rw[List.length_map,hx],by rw[List.length_map,hx];exact h1,h2,?_⟩,fun q hq=>?_⟩
    ·by_cases h0:len=0
     ·left
      rw[List.map_eq_nil_iff]
      exact List.eq_nil_of_length_eq_zero (by omega)
     ·right
      obtain⟨q0,hq0⟩:∃ q,xs[0]?=some q:=⟨_,List.getElem?_eq_getElem (by omega)⟩
      obtain⟨_,_,hc0⟩:=World.cells?_some (hxs 0 q0 hq0).1
      have h00:=hc0 0 (by omega)
      have hadd:(a.add (0*4)).add 0=a:=by simp[Addr.add]
      rw[hadd]at h00
      have hsp:a.spot=none:=spot_none (v:=.int .i64 q0.l) h00
      obtain⟨b,off,spot⟩:=a
      dsimp only at hsp
      subst hsp
      refine⟨b,off,rfl,World.block_lt_of_cell? W _ h00,fun i c hi j u hj=>?_⟩
      rw[List.getElem?_map]at hi
      obtain⟨q,hq,rfl⟩:=Option.map_eq_some_iff.1 hi
      obtain⟨_,_,hc⟩:=World.cells?_some (hxs i q hq).1
      have hj4:j < 4:=by
       rcases Nat.lt_or_ge j 4 with h' | h'
       ·exact h'
       ·rw[List.getElem?_eq_none (by simpa [R4.cells]using h')]at hj;cases hj
      have h4:=hc j hj4
      rw[hj]at h4
      have e1:((⟨b,off,none⟩:Addr).add (i*4)).add j=⟨b,off+i*4+j,none⟩:=by
       unfold Addr.add
       split
       ·split
        ·rename_i h5 h6;rw[h5,h6];simp
        ·rename_i h5 h6;rw[h5];simp
       ·split
        ·rename_i h5 h6;rw[h6];simp
        ·rfl
      rw[e1]at h4
      exact h4
    ·obtain⟨i,hi⟩:=List.getElem?_of_mem hq
     exact(hxs i q hi).2
   ·cases h
end
end Go.Proofs.YtggdcnjaofflbaaGreatDoor
/- From the data of a row: a vote, by value. The conditions are those of the row. -/
namespace Go.Proofs.YtggdcnjaofflbaaGreatDoor
open Go.RowKit Go.WideShapes Go.ChangeShapes
theorem array5V {α:Type}{cs:Array α}(h:cs.size=5):∃ c0 c1 c2 c3 c4,cs=#[c0,c1,c2,c3,c4]:=by
 obtain⟨l⟩:=cs
 match l,h with
 | [c0,c1,c2,c3,c4],_=>exact⟨c0,c1,c2,c3,c4,rfl⟩
section
variable {H:Type} {enc:TypeId × Value→H} {P:Program}
theorem vote_open {W:World}{sp:Nat→Bool}{held:Bool}{r:Reach}{b0:Nat}{tv ti tl t:TypeId}{f0 f1 f2 f3 g0 g1:Field}{v:Value}{d:DataW H}{ps:List MemPlace}
  (htv:P.underlying tv=some (.struct #[f0,f1,f2,f3])) (e0:f0.type=ti∧f0.offset=0) (e1:f1.type=tl∧f1.offset=1) (e2:f2.type=t∧f2.offset=3) (e3:f3.type=t∧f3.offset=4)
  (htl:P.underlying tl=some (.struct #[g0,g1])) (k0:g0.type=ti∧g0.offset=0) (k1:g1.type=ti∧g1.offset=1) (hti:P.underlying ti=some (.int .i64)) (ht:P.underlying t=some .string)
  (hci:P.cellsOf ti=1) (hcl:P.cellsOf tl=2) (hct:P.cellsOf t=1) (hcv:P.cellsOf tv=5)
  (hval:Value.okWide P W r b0 tv v) (h:DataW.Trod enc P W 0 sp held tv v d ps):∃(c n s:Int) (x y:ByteArray),v=.agg #[.int .i64 c,.int .i64 n,.int .i64 s,.string x,.string y]∧x.size≤maxLen∧y.size≤maxLen:=by
 obtain⟨cs,rfl,hsize⟩:=okWide_struct htv hval
 rw[hcv]at hsize
 obtain⟨c0,c1,c2,c3,c4,rfl⟩:=array5V hsize
 obtain⟨fuel,h⟩:=h
 obtain⟨xs,n,_,_,_,hlen,hf⟩:=DataW.trod_struct htv h
 match xs,hlen with
 | [y0,y1,y2,y3],_ =>
  have h0:=hf 0 f0 rfl
  have h1:=hf 1 f1 rfl
  have h2:=hf 2 f2 rfl
  have h3:=hf 3 f3 rfl
  rw[show(Value.agg #[c0,c1,c2,c3,c4]).cells.toList=[c0,c1,c2,c3,c4]from rfl]at h0 h1 h2 h3
  rw[e0.1,e0.2,hci]at h0
  rw[e1.1,e1.2,hcl]at h1
  rw[e2.1,e2.2,hct]at h2
  rw[e3.1,e3.2,hct]at h3
  obtain⟨a,hc0,_,_⟩:=DataW.trod_int hti h0
  obtain⟨z0,z1,n2,_,_,q0,q1⟩:=trod_struct2 htl h1
  rw[k0.1,k0.2,hci]at q0
  rw[k1.1,k1.2,hci]at q1
  obtain⟨b,hc1,_,_⟩:=DataW.trod_int hti q0
  obtain⟨c,hc2,_,_⟩:=DataW.trod_int hti q1
  obtain⟨x,hc3,_,hx⟩:=DataW.trod_string ht h2
  obtain⟨y,hc4,_,hy⟩:=DataW.trod_string ht h3
  simp only[List.drop_zero,List.drop_succ_cons,List.take_succ_cons,List.take_zero,List.cons.injEq,and_true]at hc0 hc1 hc2 hc3 hc4
  subst hc0 hc1 hc2 hc3 hc4
  exact⟨a,b,c,x,y,rfl,hx,hy⟩
end
end Go.Proofs.YtggdcnjaofflbaaGreatDoor
/- Rows of whatever element appended to an own row, in a region that draws its order. The conditions: what the slices read as, lengths. -/
namespace Go.Proofs.YtggdcnjaofflbaaGreatDoor
open Go.RowKit Go.BigFrame
theorem flat_lenQ {size:Nat}:∀(css:List (List Value)),(∀ c∈css,c.length=size)→css.flatten.length=css.length*size:=by
 intro css
 induction css with
 | nil=>intro _;simp
 | cons d css ih =>
  intro h
  rw[List.flatten_cons,List.length_append,ih (fun c hc=>h c (List.mem_cons_of_mem _ hc)),h d (List.mem_cons_self ..),List.length_cons,Nat.succ_mul]
  omega
theorem flat_atQ {size:Nat}:∀(css:List (List Value)),(∀ c∈css,c.length=size)→∀(j:Nat) (u:Value),css.flatten[j]?=some u→∃(i r:Nat) (c:List Value),css[i]?=some c∧c[r]?=some u∧j=i*size+r:=by
 intro css
 induction css with
 | nil=>intro _ j u h;simp at h
 | cons d css ih =>
  intro hs j u h
  have hd:d.length=size:=hs d (by simp)
  rw[List.flatten_cons]at h
  rcases Nat.lt_or_ge j d.length with h1 | h1
  ·rw[List.getElem?_append_left h1]at h
   exact⟨0,j,d,rfl,h,by omega⟩
  ·rw[List.getElem?_append_right h1]at h
   obtain⟨i,r,c,e1,e2,e3⟩:=ih (fun c hc=>hs c (by simp[hc])) _ u h
   exact⟨i+1,r,c,by simpa using e1,e2,by rw[Nat.succ_mul];omega⟩
theorem run_append_zeroQ {P:Program}{w:World}(base:Nat)(t ty e:TypeId)(i:TypeInfo)(size:Nat)(ht:P.underlying t=some (.slice e))(hi:P.info? e=some i)
  (v:Value) (n:Nat) (xs:List Value) (hown:w.ownsRow base e size v n xs) (ad:Option Addr) (c:Nat) :
  (Builtin.append_ #[t,t] ty #[v,.slice ad 0 c]).run P w=.ok v w:=by
 rcases hown.2 with⟨rfl,rfl⟩ | ⟨g,cap,cur,rfl,_,_,hnc,_⟩
 ·cases ad <;> simp[Builtin.append_,run_underlying ht,sizeOf,typeInfo,hi,Builtin.lenOf,Builtin.firstCells,loadCells,loadCellsFrom]
 ·cases ad <;> simp[Builtin.append_,run_underlying ht,sizeOf,typeInfo,hi,Builtin.lenOf,Builtin.firstCells,hnc,storeCells,loadCells,loadCellsFrom]
section
variable {ops:Array Oper} {rest:List Oper} {o:Oper} {a:Act} {w:World} {Q:Exit→Act→World→Prop} {K:Act→World→Prop} {E:Prop}
theorem wp_append_zeroQ (s x:Operand)(t e:TypeId)(i:TypeInfo)(ht:Tryz.prog.underlying t=some (.slice e))(hi:Tryz.prog.info? e=some i)(base size n:Nat)(v:Value)(xs:List Value)(hown:w.ownsRow base e size v n xs)(ad:Option Addr)(c:Nat)
  (ho:o.op=.call { callee:=.builtin .append,args:=#[s,x],argTypes:=#[t,t] }) (hs:a.eval s=v) (hx:a.eval x=.slice ad 0 c) (h:K (a.put o.dst v) w):o.wp Tryz.prog a w K Q:=by
 unfold Oper.wp execOp
 have hr:=run_append_zeroQ (P:=Tryz.prog) (w:=w) base t o.type e i size ht hi v n xs hown ad c
 simp only[ho,resolve,invoke,builtin,Sem.run_bind,Sem.run_pure,Result.andThen_ok,List.map_toArray,List.map_cons,List.map_nil,hs,hx,hr]
 exact h
theorem step_append_rowsQ (st e:TypeId)(size bytes:Nat)(z:Value)(ht:Tryz.prog.underlying st=some (.slice e))(hinfo:(Tryz.prog.info? e).map (fun i=>(i.zero,i.size,i.bytes))=some (some z,size,bytes))(hzs:z.cells.size=size)(hsz:0 < size)(hby:bytes≤1000)
  (hgd:o.guard=none) (s x:Operand) (base:Nat) (v:Value) (css dss:List (List Value)) (vy:Value) (hown:OwnE w base e size v css) (hy:SliceAt w vy size dss) (hd:∀ c∈dss,c.length=size∧∀ u∈c,u.oneCell'=true) (hlen:css.length+dss.length≤1000000) (hbase:base≤w.heap.size)
  (ho:o.op=.call { callee:=.builtin .append,args:=#[s,x],argTypes:=#[st,st] }) (hs:a.eval s=v) (hx:a.eval x=vy)
  (h:∀ v' w',OwnE w' base e size v' (css++dss)→w.grownBy w' v.ownBlock→K (a.put o.dst v') w'):if Region.wanted o (yielded ops a.tmps)=true then Oper.wp Tryz.prog o a w K Q else E:=by
 have hw:Region.wanted o (yielded ops a.tmps)=true:=by simp[Region.wanted,hgd]
 rw[if_pos hw]
 obtain⟨i,i1,i2,i3,i4⟩:=info_parts hinfo
 obtain⟨ad,cap,rfl,_,_,h3⟩:=hy
 rcases Nat.eq_zero_or_pos dss.length with h0 | h0
 ·have h1:dss=[]:=List.eq_nil_of_length_eq_zero h0
  subst h1
  exact wp_append_zeroQ s x st e i ht i1 base size _ v _ hown ad cap ho hs hx (h v w (by rw[List.append_nil];exact hown) (grown_refl _ _))
 ·rcases h3 with h3 | ⟨b,off,rfl,hb,hc⟩
  ·exfalso
   rw[h3]at h0
   exact Nat.lt_irrefl 0 h0
  refine wp_append_own w s x st ho base e i _ size bytes ht i1 i2 i3 i4 hzs hsz v _ _ hs hown ⟨b,off,none⟩ dss.length cap dss.flatten hx ?_ ?_ ?_ (by unfold maxLen;omega) (by have h1:=Nat.mul_le_mul hlen hby;omega) hbase ?_
  ·exact flat_lenQ dss (fun c hc=>(hd c hc).1)
  ·intro j u hj
   obtain⟨i,r,c,e1,e2,e3⟩:=flat_atQ _ (fun c hc=>(hd c hc).1) j u hj
   have:=hc i c e1 r u e2
   rw[Addr.add_mid,e3,← Nat.add_assoc]
   exact this
  ·intro u hu
   obtain⟨c,hc1,hu⟩:=List.mem_flatten.1 hu
   exact(hd c hc1).2 u hu
  ·intro v' w' h1 h2 _
   refine h v' w' ?_ h2
   unfold OwnE
   rw[List.length_append,List.flatten_append]
   exact h1
end
end Go.Proofs.YtggdcnjaofflbaaGreatDoor
/- Votes, doubles and tallies appended to own rows. The conditions: what the slices read as, lengths. -/
namespace Go.Proofs.YtggdcnjaofflbaaGreatDoor
open Go.RowKit Go.BigFrame
def OwnD (w:World)(base:Nat)(v:Value)(l:List (VoteP × VoteP)):Prop:=OwnE w base 45 10 v (l.map dcells)
theorem dcells_len (l:List (VoteP × VoteP)):∀ c∈l.map dcells,c.length=10:=by
 intro c hc
 obtain⟨v,_,rfl⟩:=List.mem_map.1 hc
 rfl
theorem OwnD.ds {w:World}{base:Nat}{v:Value}{l:List (VoteP × VoteP)}(h:OwnD w base v l):DS w v l:=OwnE.slice h (dcells_len l)
theorem OwnD.form {w:World}{base:Nat}{v:Value}{l:List (VoteP × VoteP)}(h:OwnD w base v l):∃ a cap,v=.slice a l.length cap:=by
 obtain⟨a,c,h⟩:=OwnE.form h
 rw[List.length_map]at h
 exact⟨a,c,h⟩
def OwnT (w:World)(base:Nat)(v:Value)(l:List (ByteArray × Nat)):Prop:=OwnE w base 68 2 v (l.map tcells)
theorem tcells_len (l:List (ByteArray × Nat)):∀ c∈l.map tcells,c.length=2:=by
 intro c hc
 obtain⟨v,_,rfl⟩:=List.mem_map.1 hc
 rfl
theorem OwnT.ts {w:World}{base:Nat}{v:Value}{l:List (ByteArray × Nat)}(h:OwnT w base v l):TS w v l:=OwnE.slice h (tcells_len l)
theorem OwnT.form {w:World}{base:Nat}{v:Value}{l:List (ByteArray × Nat)}(h:OwnT w base v l):∃ a cap,v=.slice a l.length cap:=by
 obtain⟨a,c,h⟩:=OwnE.form h
 rw[List.length_map]at h
 exact⟨a,c,h⟩
theorem infoDouble3:(Tryz.prog.info? 45).map (fun i=>(i.zero,i.size,i.bytes))=some (some (.agg #[.int .i64 0,.int .i64 0,.int .i64 0,.string ⟨#[]⟩,.string ⟨#[]⟩,.int .i64 0,.int .i64 0,.int .i64 0,.string ⟨#[]⟩,.string ⟨#[]⟩]),10,112):=by kernel_rfl
theorem infoTally3:(Tryz.prog.info? 68).map (fun i=>(i.zero,i.size,i.bytes))=some (some (.agg #[.string ⟨#[]⟩,.int .i64 0]),2,24):=by kernel_rfl
theorem row_one {w:World}{b:Nat}{c:List Value}{e:TypeId}{fr:Nat × Nat}{size:Nat}(h:w.heap[b]?=some (.cells c.toArray e fr)):SliceAt w (.slice (some ⟨b,0,none⟩) 1 1) size [c]:=by
 refine⟨_,1,rfl,Nat.le_refl _,by decide,.inr ⟨b,0,rfl,(ltA h),fun i cs hi j u hj=>?_⟩⟩
 match i,hi with
 | 0,hi =>
  cases hi
  rw[cell_of_row w _ _ _ _ _ h,List.getElem?_toArray]
  simpa using hj
theorem vcells_one (v:VoteP):∀ u∈vcells v,u.oneCell'=true:=by
 intro u hu
 simp only[vcells,List.mem_cons,List.not_mem_nil,or_false]at hu
 rcases hu with rfl | rfl | rfl | rfl | rfl <;> rfl
theorem dcells_one (d:VoteP × VoteP):∀ u∈dcells d,u.oneCell'=true:=by
 intro u hu
 unfold dcells at hu
 rcases List.mem_append.1 hu with hu | hu
 ·exact vcells_one _ u hu
 ·exact vcells_one _ u hu
section
variable {ops:Array Oper} {rest:List Oper} {o:Oper} {a:Act} {w:World} {Q:Exit→Act→World→Prop} {K:Act→World→Prop} {E:Prop}
theorem step_append_double (s x:Operand)(base:Nat)(v:Value)(l:List (VoteP × VoteP))(d:VoteP × VoteP)(b:Nat)(fr:Nat × Nat)(hown:OwnD w base v l)(hlen:l.length≤100000)(hbase:base≤w.heap.size)(hb:w.heap[b]?=some (.cells (dcells d).toArray 45 fr))
  (hgd:o.guard=none) (ho:o.op=.call { callee:=.builtin .append,args:=#[s,x],argTypes:=#[54,54] }) (hs:a.eval s=v) (hx:a.eval x=.slice (some ⟨b,0,none⟩) 1 1)
  (h:∀ v' w',OwnD w' base v' (l++[d])→w.grownBy w' v.ownBlock→K (a.put o.dst v') w'):if Region.wanted o (yielded ops a.tmps)=true then Oper.wp Tryz.prog o a w K Q else E :=
 step_append_rowsQ 54 45 10 112 _ (by kernel_rfl) infoDouble3 rfl (by decide) (by decide) hgd s x base v (l.map dcells) [dcells d] _ hown (row_one hb) (fun c hc=>by
  rw[List.mem_singleton]at hc
  subst hc
  exact⟨rfl,dcells_one d⟩) (by rw[List.length_map];simp;omega) hbase ho hs hx (fun v' w' h1 h2=>h v' w' (by unfold OwnD;rw[List.map_append];exact h1) h2)
theorem wpList_append_tally (s x:Operand)(base:Nat)(v:Value)(l:List (ByteArray × Nat))(y:ByteArray × Nat)(b:Nat)(fr:Nat × Nat)(hown:OwnT w base v l)(hlen:l.length≤1000000)(hbase:base≤w.heap.size)(hb:w.heap[b]?=some (.cells #[.string y.1,.int .i64 (y.2:Int)] 68 fr))
  (hgd:o.guard=none) (ho:o.op=.call { callee:=.builtin .append,args:=#[s,x],argTypes:=#[65,65] }) (hs:a.eval s=v) (hx:a.eval x=.slice (some ⟨b,0,none⟩) 1 1)
  (h:∀ v' w',OwnT w' base v' (l++[y])→w.grownBy w' v.ownBlock→wpList Tryz.prog ops Q rest (a.put o.dst v') w'):wpList Tryz.prog ops Q (o::rest) a w :=
 wpList_append_el 65 68 2 24 _ (by kernel_rfl) infoTally3 rfl (by decide) hgd s x ho base v (l.map tcells) hs hown b (tcells y) rfl (fun u hu=>by simp only[tcells,List.mem_cons,List.not_mem_nil,or_false]at hu;rcases hu with rfl | rfl <;> rfl) hx fr hb
  (by rw[List.length_map];unfold maxLen;omega) (by rw[List.length_map];omega) hbase (fun v' w' h1 h2=>h v' w' (by unfold OwnT;rw[List.map_append];exact h1) h2)
end
end Go.Proofs.YtggdcnjaofflbaaGreatDoor
/- The library's contracts laid at this program: strings.Compare, slices.Sort at strings, maps.Keys, slices.Sorted, slices.SortFunc at votes, cmp.Compare at int (written by the kit's tool). No condition. -/
namespace Go.Proofs
open Go.Shelf
def Tryz.qlays106_ren:Go.Shelf.Ren:=⟨fun | 106=>118 | 213=>150 | 265=>170 | n=>n,fun | 9=>9 | 3=>3 | n=>n,fun | n=>n⟩
theorem Tryz.qlays106:Go.Proofs.Lays.n106 Tryz.prog Tryz.qlays106_ren:={
 mixed:=by kernel_rfl
 f106:=Tryz.func118.trans (congrArg some (by kernel_rfl))
 f213:=Tryz.func150.trans (congrArg some (by kernel_rfl))
 f265:=Tryz.func170.trans (congrArg some (by kernel_rfl))
 t3:=Tryz.underlying3
 a3:=Tryz.isAgg3
 z3:=Tryz.sizeOf3
 v3:=Tryz.zeroValue3
 t9:=Tryz.underlying9
 a9:=Tryz.isAgg9
 z9:=Tryz.sizeOf9
 v9:=Tryz.zeroValue9 }
open Go.RowKit in
/-- strings.Compare: "Compare returns an integer comparing two strings lexicographically. The result will be 0 if a == b, -1 if a < b, and +1 if a > b.": IT RETURNS 'Lib.compareBytes a b'; the world is as it was. (LAID: no walk: one application.) -/
theorem Tryz.strings_Compare (a b:ByteArray)(w:World) :
  Calls Tryz.prog 118 #[.string a,.string b] w fun e w'=>e=.returned (.int .i64 (Lib.compareBytes a.data.toList b.data.toList))∧w'=w:=Any.strings_Compare Tryz.qlays106 a b w
def Tryz.qlays190_ren:Go.Shelf.Ren:=⟨fun | 190=>120 | 125=>153 | 258=>152 | 128=>180 | 129=>181 | 302=>171 | 303=>172 | 304=>173 | 305=>174 | 306=>175 | 307=>176 | 308=>177 | 309=>178 | 310=>179 | 333=>198 | 329=>199 | 330=>200 | 334=>201 | 335=>202 | 336=>203 | 344=>211 | n=>n,fun | 31=>29 | 9=>9 | 3=>3 | 46=>117 | 0=>0 | 51=>139 | 53=>144 | 4=>4 | 183=>208 | 182=>207 | 131=>213 | 5=>5 | 218=>232 | 222=>109 | 228=>244 | 229=>245 | n=>n,fun | n=>n⟩
theorem Tryz.qlays190:Go.Proofs.Lays.n190 Tryz.prog Tryz.qlays190_ren:={
 mixed:=by kernel_rfl
 f125:=Tryz.func153.trans (congrArg some (by kernel_rfl))
 f128:=Tryz.func180.trans (congrArg some (by kernel_rfl))
 f129:=Tryz.func181.trans (congrArg some (by kernel_rfl))
 f190:=Tryz.func120.trans (congrArg some (by kernel_rfl))
 f258:=Tryz.func152.trans (congrArg some (by kernel_rfl))
 f302:=Tryz.func171.trans (congrArg some (by kernel_rfl))
 f303:=Tryz.func172.trans (congrArg some (by kernel_rfl))
 f304:=Tryz.func173.trans (congrArg some (by kernel_rfl))
 f305:=Tryz.func174.trans (congrArg some (by kernel_rfl))
 f306:=Tryz.func175.trans (congrArg some (by kernel_rfl))
 f307:=Tryz.func176.trans (congrArg some (by kernel_rfl))
 f308:=Tryz.func177.trans (congrArg some (by kernel_rfl))
 f309:=Tryz.func178.trans (congrArg some (by kernel_rfl))
 f310:=Tryz.func179.trans (congrArg some (by kernel_rfl))
 f329:=Tryz.func199.trans (congrArg some (by kernel_rfl))
 f330:=Tryz.func200.trans (congrArg some (by kernel_rfl))
 f333:=Tryz.func198.trans (congrArg some (by kernel_rfl))
 f334:=Tryz.func201.trans (congrArg some (by kernel_rfl))
 f335:=Tryz.func202.trans (congrArg some (by kernel_rfl))
 f336:=Tryz.func203.trans (congrArg some (by kernel_rfl))
 f344:=Tryz.func211.trans (congrArg some (by kernel_rfl))
 t0:=Tryz.underlying0
 a0:=Tryz.isAgg0
 z0:=Tryz.sizeOf0
 v0:=Tryz.zeroValue0
 t3:=Tryz.underlying3
 a3:=Tryz.isAgg3
 z3:=Tryz.sizeOf3
 v3:=Tryz.zeroValue3
 t4:=Tryz.underlying4
 a4:=Tryz.isAgg4
 z4:=Tryz.sizeOf4
 v4:=Tryz.zeroValue4
 t5:=Tryz.underlying5
 a5:=Tryz.isAgg5
 z5:=Tryz.sizeOf5
 v5:=Tryz.zeroValue5
 t9:=Tryz.underlying9
 a9:=Tryz.isAgg9
 z9:=Tryz.sizeOf9
 v9:=Tryz.zeroValue9
 t31:=Tryz.underlying29
 a31:=Tryz.isAgg29
 z31:=Tryz.sizeOf29
 v31:=Tryz.zeroValue29
 t46:=Tryz.underlying117
 a46:=Tryz.isAgg117
 z46:=Tryz.sizeOf117
 v46:=Tryz.zeroValue117
 t51:=Tryz.underlying139
 a51:=Tryz.isAgg139
 z51:=Tryz.sizeOf139
 v51:=Tryz.zeroValue139
 t53:=Tryz.underlying144
 a53:=Tryz.isAgg144
 z53:=Tryz.sizeOf144
 v53:=Tryz.zeroValue144
 t131:=Tryz.underlying213
 a131:=Tryz.isAgg213
 z131:=Tryz.sizeOf213
 v131:=Tryz.zeroValue213
 t182:=Tryz.underlying207
 a182:=Tryz.isAgg207
 z182:=Tryz.sizeOf207
 v182:=Tryz.zeroValue207
 t183:=Tryz.underlying208
 a183:=Tryz.isAgg208
 z183:=Tryz.sizeOf208
 v183:=Tryz.zeroValue208
 t218:=Tryz.underlying232
 a218:=Tryz.isAgg232
 z218:=Tryz.sizeOf232
 v218:=Tryz.zeroValue232
 t222:=Tryz.underlying109
 a222:=Tryz.isAgg109
 z222:=Tryz.sizeOf109
 v222:=Tryz.zeroValue109
 t228:=Tryz.underlying244
 a228:=Tryz.isAgg244
 z228:=Tryz.sizeOf244
 v228:=Tryz.zeroValue244
 t229:=Tryz.underlying245
 a229:=Tryz.isAgg245
 z229:=Tryz.sizeOf245
 v229:=Tryz.zeroValue245 }
open Go.Sort Go.RowKit in
theorem Tryz.slices_Sort_string (blk off cap:Nat)(ss:List (List UInt8))(w:World)(hH:Holds encStr w blk off ss.toArray)(hblk:blk < w.heap.size)(hsz:ss.length < 4611686018427387904) :
  Calls Tryz.prog 120 #[.slice (some ⟨blk,off,none⟩) ss.length cap] w fun e w' =>
   e=.returned (.tuple #[])∧∃ n os,w'=grow (putRow encStr (Sort.ahead w n) blk off (ss.mergeSort fun x y=>decide (x≤y)).toArray) os:=Any.slices_Sort_string Tryz.qlays190 blk off cap ss w hH hblk hsz
open Go.RowKit Go.Sort in
/-- .. and plain. (LAID: no walk: one application.) -/
theorem Tryz.slices_Sort_string_none (p:Option Addr)(cap:Nat)(w:World) :
  Calls Tryz.prog 120 #[.slice p 0 cap] w fun e w'=>e=.returned (.tuple #[])∧w'=w:=Any.slices_Sort_string_none Tryz.qlays190 p cap w
def Tryz.keysA_ren:Go.Shelf.Ren:=⟨fun | 7=>83 | 10=>121 | n=>n,fun | 23=>118 | 26=>9 | 3=>117 | 28=>124 | 0=>0 | 27=>123 | 33=>136 | 4=>4 | n=>n,fun | n=>n⟩
theorem Tryz.keysA:Go.Proofs.SlLaysZ.n7 Tryz.prog Tryz.keysA_ren:={
 mixed:=by kernel_rfl
 f7:=⟨Tryz.f83.name,by decide,Tryz.func83.trans (congrArg some (by kernel_rfl))⟩
 f10:=⟨Tryz.f121.name,by decide,Tryz.func121.trans (congrArg some (by kernel_rfl))⟩
 t0:=Tryz.underlying0
 a0:=Tryz.isAgg0
 z0:=Tryz.sizeOf0
 v0:=Tryz.zeroValue0
 t4:=Tryz.underlying4
 a4:=Tryz.isAgg4
 z4:=Tryz.sizeOf4
 v4:=Tryz.zeroValue4
 t23:=Tryz.underlying118
 a23:=Tryz.isAgg118
 z23:=Tryz.sizeOf118
 v23:=Tryz.zeroValue118
 t26:=Tryz.underlying9
 a26:=Tryz.isAgg9
 z26:=Tryz.sizeOf9
 v26:=Tryz.zeroValue9
 t27:=Tryz.underlying123
 a27:=Tryz.isAgg123
 z27:=Tryz.sizeOf123
 v27:=Tryz.zeroValue123
 t28:=Tryz.underlying124
 a28:=Tryz.isAgg124
 z28:=Tryz.sizeOf124
 v28:=Tryz.zeroValue124
 t33:=Tryz.underlying136
 a33:=Tryz.isAgg136
 z33:=Tryz.sizeOf136
 v33:=Tryz.zeroValue136 }
def Tryz.sortedA_ren:Go.Shelf.Ren:=⟨fun | 6=>82 | 8=>119 | 9=>120 | 11=>151 | 13=>153 | 12=>152 | 23=>180 | 24=>181 | 14=>171 | 15=>172 | 16=>173 | 17=>174 | 18=>175 | 19=>176 | 20=>177 | 21=>178 | 22=>179 | 25=>198 | 26=>199 | 27=>200 | 28=>201 | 29=>202 | 30=>203 | 31=>211 | n=>n,fun | 26=>9 | 28=>124 | 24=>29 | 0=>0 | 3=>3 | 37=>117 | 48=>139 | 50=>144 | 4=>4 | 40=>208 | 39=>207 | 45=>213 | 5=>5 | 9=>9 | 51=>232 | 55=>109 | 57=>244 | 58=>245 | 33=>136 | n=>n,fun | n=>n⟩
theorem Tryz.sortedA:Go.Proofs.SlLaysZ.n6 Tryz.prog Tryz.sortedA_ren:={
 mixed:=by kernel_rfl
 f6:=⟨Tryz.f82.name,by decide,Tryz.func82.trans (congrArg some (by kernel_rfl))⟩
 f8:=⟨Tryz.f119.name,by decide,Tryz.func119.trans (congrArg some (by kernel_rfl))⟩
 f11:=⟨Tryz.f151.name,by decide,Tryz.func151.trans (congrArg some (by kernel_rfl))⟩
 t0:=Tryz.underlying0
 a0:=Tryz.isAgg0
 z0:=Tryz.sizeOf0
 v0:=Tryz.zeroValue0
 t24:=Tryz.underlying29
 a24:=Tryz.isAgg29
 z24:=Tryz.sizeOf29
 v24:=Tryz.zeroValue29
 t26:=Tryz.underlying9
 a26:=Tryz.isAgg9
 z26:=Tryz.sizeOf9
 v26:=Tryz.zeroValue9
 t28:=Tryz.underlying124
 a28:=Tryz.isAgg124
 z28:=Tryz.sizeOf124
 v28:=Tryz.zeroValue124
 i26:=by kernel_rfl }
def Tryz.sortF_ren:Go.Shelf.Ren:=⟨fun | 6=>148 | 15=>153 | 14=>169 | 28=>180 | 29=>181 | 20=>190 | 21=>191 | 22=>192 | 23=>193 | 24=>194 | 25=>195 | 26=>196 | 27=>197 | 46=>208 | 47=>199 | 48=>200 | 49=>209 | 50=>210 | 57=>214 | n=>n,fun | 22=>35 | 24=>27 | 25=>154 | 3=>3 | 39=>117 | 0=>0 | 53=>139 | 55=>144 | 4=>4 | 46=>208 | 45=>207 | 50=>213 | 5=>5 | 9=>9 | 66=>232 | 70=>109 | 76=>244 | 77=>245 | n=>n,fun | n=>n⟩
theorem Tryz.sortF:Go.Proofs.SlLaysF0.n6 Tryz.prog Tryz.sortF_ren:={
 mixed:=by kernel_rfl
 f6:=⟨Tryz.f148.name,by decide,Tryz.func148.trans (congrArg some (by kernel_rfl))⟩
 f14:=⟨Tryz.f169.name,by decide,Tryz.func169.trans (congrArg some (by kernel_rfl))⟩
 f15:=Tryz.func153.trans (congrArg some (by kernel_rfl))
 f20:=⟨Tryz.f190.name,by decide,Tryz.func190.trans (congrArg some (by kernel_rfl))⟩
 f21:=⟨Tryz.f191.name,by decide,Tryz.func191.trans (congrArg some (by kernel_rfl))⟩
 f22:=⟨Tryz.f192.name,by decide,Tryz.func192.trans (congrArg some (by kernel_rfl))⟩
 f23:=⟨Tryz.f193.name,by decide,Tryz.func193.trans (congrArg some (by kernel_rfl))⟩
 f24:=⟨Tryz.f194.name,by decide,Tryz.func194.trans (congrArg some (by kernel_rfl))⟩
 f25:=⟨Tryz.f195.name,by decide,Tryz.func195.trans (congrArg some (by kernel_rfl))⟩
 f26:=⟨Tryz.f196.name,by decide,Tryz.func196.trans (congrArg some (by kernel_rfl))⟩
 f27:=⟨Tryz.f197.name,by decide,Tryz.func197.trans (congrArg some (by kernel_rfl))⟩
 f28:=Tryz.func180.trans (congrArg some (by kernel_rfl))
 f29:=Tryz.func181.trans (congrArg some (by kernel_rfl))
 f46:=⟨Tryz.f208.name,by decide,Tryz.func208.trans (congrArg some (by kernel_rfl))⟩
 f47:=Tryz.func199.trans (congrArg some (by kernel_rfl))
 f48:=Tryz.func200.trans (congrArg some (by kernel_rfl))
 f49:=⟨Tryz.f209.name,by decide,Tryz.func209.trans (congrArg some (by kernel_rfl))⟩
 f50:=⟨Tryz.f210.name,by decide,Tryz.func210.trans (congrArg some (by kernel_rfl))⟩
 f57:=⟨Tryz.f214.name,by decide,Tryz.func214.trans (congrArg some (by kernel_rfl))⟩
 t0:=Tryz.underlying0
 a0:=Tryz.isAgg0
 z0:=Tryz.sizeOf0
 v0:=Tryz.zeroValue0
 t3:=Tryz.underlying3
 a3:=Tryz.isAgg3
 z3:=Tryz.sizeOf3
 v3:=Tryz.zeroValue3
 t4:=Tryz.underlying4
 a4:=Tryz.isAgg4
 z4:=Tryz.sizeOf4
 v4:=Tryz.zeroValue4
 t5:=Tryz.underlying5
 a5:=Tryz.isAgg5
 z5:=Tryz.sizeOf5
 v5:=Tryz.zeroValue5
 t9:=Tryz.underlying9
 a9:=Tryz.isAgg9
 z9:=Tryz.sizeOf9
 v9:=Tryz.zeroValue9
 t22:=Tryz.underlying35
 a22:=Tryz.isAgg35
 z22:=Tryz.sizeOf35
 v22:=Tryz.zeroValue35
 t25:=Tryz.underlying154
 a25:=Tryz.isAgg154
 z25:=Tryz.sizeOf154
 v25:=Tryz.zeroValue154
 t39:=Tryz.underlying117
 a39:=Tryz.isAgg117
 z39:=Tryz.sizeOf117
 v39:=Tryz.zeroValue117
 t45:=Tryz.underlying207
 a45:=Tryz.isAgg207
 z45:=Tryz.sizeOf207
 v45:=Tryz.zeroValue207
 t46:=Tryz.underlying208
 a46:=Tryz.isAgg208
 z46:=Tryz.sizeOf208
 v46:=Tryz.zeroValue208
 t50:=Tryz.underlying213
 a50:=Tryz.isAgg213
 z50:=Tryz.sizeOf213
 v50:=Tryz.zeroValue213
 t53:=Tryz.underlying139
 a53:=Tryz.isAgg139
 z53:=Tryz.sizeOf139
 v53:=Tryz.zeroValue139
 t55:=Tryz.underlying144
 a55:=Tryz.isAgg144
 z55:=Tryz.sizeOf144
 v55:=Tryz.zeroValue144
 t66:=Tryz.underlying232
 a66:=Tryz.isAgg232
 z66:=Tryz.sizeOf232
 v66:=Tryz.zeroValue232
 t70:=Tryz.underlying109
 a70:=Tryz.isAgg109
 z70:=Tryz.sizeOf109
 v70:=Tryz.zeroValue109
 t76:=Tryz.underlying244
 a76:=Tryz.isAgg244
 z76:=Tryz.sizeOf244
 v76:=Tryz.zeroValue244
 t77:=Tryz.underlying245
 a77:=Tryz.isAgg245
 z77:=Tryz.sizeOf245
 v77:=Tryz.zeroValue245 }
def Tryz.cmpC_ren:Go.Shelf.Ren:=⟨fun | 5=>117 | 7=>149 | n=>n,fun | 22=>3 | 3=>3 | 4=>4 | n=>n,fun | n=>n⟩
theorem Tryz.cmpC:Go.Proofs.SlLaysC2.n5 Tryz.prog Tryz.cmpC_ren:={
 mixed:=by kernel_rfl
 f5:=⟨Tryz.f117.name,by decide,Tryz.func117.trans (congrArg some (by kernel_rfl))⟩
 f7:=⟨Tryz.f149.name,by decide,Tryz.func149.trans (congrArg some (by kernel_rfl))⟩
 t3:=Tryz.underlying3
 a3:=Tryz.isAgg3
 z3:=Tryz.sizeOf3
 v3:=Tryz.zeroValue3
 t4:=Tryz.underlying4
 a4:=Tryz.isAgg4
 z4:=Tryz.sizeOf4
 v4:=Tryz.zeroValue4
 t22:=Tryz.underlying3
 a22:=Tryz.isAgg3
 z22:=Tryz.sizeOf3
 v22:=Tryz.zeroValue3 }
end Go.Proofs
/- The keys of the map of votes, sorted. The conditions: what the map reads as. -/
namespace Go.Proofs.YtggdcnjaofflbaaGreatDoor
open Go.RowKit Go.BigFrame Go.Shelf Go.Sort Go.Maps
theorem sortsU (m:Nat):AnyZ.SortsIn Tryz.prog Tryz.sortedA_ren Fence.wide m :=
 ⟨fun blk off cap ss W hH hblk hsz=>callsIn_wide.2 (Tryz.slices_Sort_string blk off cap ss W hH hblk hsz),
  fun p cap W=>callsIn_wide.2 (Tryz.slices_Sort_string_none p cap W)⟩
theorem keysU_any (mb:Option Nat)(w:World):Calls Tryz.prog 83 #[.map mb] w fun e w'=>e=.returned (.func (.func 121) #[] #[.pointer (some ⟨w.heap.size,0,none⟩)])∧w'=w.alloc (.cells #[.map mb] 118) :=
 (callsIn_wide (n:=6)).1 (AnyZ.keys_in Tryz.keysA Fence.wide 6 trivial rfl mb w)
def valL (ks:List ByteArray)(num stp:Int)(l:List VoteP):List (List UInt8):=(valsV ks num stp l).map fun s=>s.data.toList
theorem valL_sorted (ks:List ByteArray)(num stp:Int)(l:List VoteP):(valL ks num stp l).Pairwise (· < ·):=by
 unfold valL
 rw[List.pairwise_map]
 exact(valsV_ok ks num stp l).imp (fun h=>by rw[ByteArray.toList_eq,ByteArray.toList_eq]at h;exact h)
theorem mask_zero {ks:List ByteArray}(hk:ks.length≤8)(num stp:Int)(val:ByteArray)(l:List VoteP):maskV ks num stp val l 0≠0 ↔ val∈valsV ks num stp l:=by
 have h:=mask_who hk num stp val l
 have hlt:=mask_lt ks num stp val l 0 (by decide)
 rw[valsV_mem]
 generalize maskV ks num stp val l 0=M at *
 rw[← h]
 constructor
 ·intro hm
  obtain⟨i,_,h2,_⟩:=bits_drop M hlt hm
  exact⟨i,by rw[h2];simp⟩
 ·rintro⟨i,hi⟩ e
  rw[e,bits_zero]at hi
  cases hi
theorem valL_perm {w:World}{B n:Nat}{D:DW}{ks:List ByteArray}(hk:ks.length≤8){num stp:Int}{l:List VoteP}(hm:MapU w B n D)(hr:ReadsU D (fun s=>maskV ks num stp s l 0)):(valL ks num stp l).Perm (strKeys D):=by
 obtain⟨es,hD,hp,_⟩:=World.ownsMap.entries hm lawU
 obtain⟨es',hD',hk'⟩:=World.ownsMap.keysOf hm
 obtain rfl:es=es':=by rw[hD]at hD';simpa using hD'
 subst hD
 refine perm_strKeys hp (fun p hp'=>?_) (show List.Pairwise (·≠·) _ from(valL_sorted ks num stp l).imp (fun {a b} (h:a < b)=>fun(e:a=b)=>List.lt_irrefl b (by rw[e]at h;exact h))) (fun x=>?_)
 ·obtain⟨v,hv⟩:=hk' p hp'
  obtain⟨x,_,hx,_⟩:=Maps.keyOf_str Tryz.underlying9 hv
  exact⟨x,hx⟩
 ·have h1:=(hr.2 ⟨x.toArray⟩).1
  have e:keyL ⟨x.toArray⟩=.string x:=by unfold keyL;simp
  rw[e]at h1
  rw[h1,decide_eq_true_iff,mask_zero hk]
  unfold valL
  rw[List.mem_map]
  constructor
  ·rintro⟨s,hs,rfl⟩
   simpa using hs
  ·intro hs
   exact⟨_,hs,by simp⟩
theorem valL_mergeSort {w:World}{B n:Nat}{D:DW}{ks:List ByteArray}(hk:ks.length≤8){num stp:Int}{l:List VoteP}{ss:List (List UInt8)}(hm:MapU w B n D)(hr:ReadsU D (fun s=>maskV ks num stp s l 0))(hs:ss.Perm (strKeys D)):ss.mergeSort (fun x y=>decide (x≤y))=valL ks num stp l :=
 (mergeSort_of_perm (hs.trans (valL_perm hk hm hr).symm)).trans (List.mergeSort_of_pairwise ((valL_sorted ks num stp l).imp (fun h=>decide_eq_true (List.le_of_lt h))))
theorem insB_len (x:ByteArray):∀ L:List ByteArray,(insB x L).length≤L.length+1
 | []=>Nat.le_refl _
 | y::L=>by
  unfold insB
  have:=insB_len x L
  split
  ·simp only[List.length_cons]
   omega
  ·split
   ·simp
   ·simp
theorem insBs_len:∀(xs L:List ByteArray),(insBs L xs).length≤L.length+xs.length
 | [],L=>by simp[insBs]
 | x::xs,L=>by
  unfold insBs
  have h1:=insBs_len xs (insB x L)
  have h2:=insB_len x L
  simp only[List.length_cons]
  omega
theorem valsV_len (ks:List ByteArray)(num stp:Int)(l:List VoteP):(valsV ks num stp l).length≤l.length:=by
 unfold valsV
 refine Nat.le_trans (insBs_len _ _) ?_
 rw[List.length_nil,Nat.zero_add,List.length_map]
 exact List.length_filter_le _ _
theorem size_strKeys:∀ D:DW,Maps.IsMap D→Maps.size D=(strKeys D).length
 | .map es,_=>by simp[Maps.size,strKeys]
theorem sortedU_any {w:World}{Bm B n:Nat}{D:DW}{ks:List ByteArray}(hk:ks.length≤8){num stp:Int}{l:List VoteP}(hm:w.cell? ⟨Bm,0,none⟩=some (.map (some B)))(hb:Bm < w.heap.size)(hown:MapU w B n D)(hn:l.length≤1000000000)(hr:ReadsU D (fun s=>maskV ks num stp s l 0)) :
  Calls Tryz.prog 82 #[.func (.func 121) #[] #[.pointer (some ⟨Bm,0,none⟩)]] w fun e w'=>∃ v,e=.returned v∧OwnS w' w.heap.size v (valsV ks num stp l)∧Below w.heap.size w w':=by
 have hsz:Maps.size D≤1000000000:=by
  rw[size_strKeys D hr.1,← (valL_perm hk hown hr).length_eq]
  unfold valL
  rw[List.length_map]
  exact Nat.le_trans (valsV_len _ _ _ _) hn
 have hseq:SeqGives Fence.wide 3 Tryz.prog 121 #[.pointer (some ⟨Bm,0,none⟩)] encStr (fun ss=>ss.Perm (strKeys D)) (Maps.size D) w :=
  AnyZ.keys_gives (ρ:=Tryz.keysA_ren) { Tryz.keysA with } Fence.wide _ trivial rfl (by omega) Bm B n D _ hb hm hown
 have cS:=AnyZ.sorted_in Tryz.sortedA Fence.wide 6 trivial trivial trivial trivial rfl (by omega) (sortsU _) (enters_of Tryz.func120 (by kernel_rfl) rfl) 121 #[.pointer (some ⟨Bm,0,none⟩)] trivial (enters_of Tryz.func121 (by kernel_rfl) rfl) _ _ (by unfold maxLen;omega) (by omega) w hseq
 refine((callsIn_wide (n:=6)).1 cS).mono ?_
 rintro e w' ⟨v,ss,rfl,hS,hrow,_,hb'⟩
 refine⟨v,rfl,?_,hb'⟩
 have e1:=valL_mergeSort hk hown hr hS
 have e2:ss.length=(valsV ks num stp l).length:=by
  have:=congrArg List.length e1
  rw[List.length_mergeSort]at this
  rw[this]
  unfold valL
  rw[List.length_map]
 rw[e1,e2]at hrow
 unfold OwnS OwnE scells
 rw[List.length_map]
 have e3:((valsV ks num stp l).map fun s=>[Value.string s]).flatten=(valL ks num stp l).map encStr:=by
  unfold valL
  induction valsV ks num stp l with
  | nil=>rfl
  | cons a l ih=>rw[List.map_cons,List.flatten_cons,ih];rfl
 rw[e3]
 exact hrow
end Go.Proofs.YtggdcnjaofflbaaGreatDoor
/- Walks: cmp.Or at int, the comparison of votes. The conditions: what the slice reads as. -/
namespace Go.Proofs.YtggdcnjaofflbaaGreatDoor
open Go.RowKit Go.BigFrame
theorem orL_drop (l:List Int):∀(k:Nat),k≤l.length→(∀ j q,j < k→l[j]?=some q→q=0)→orL l=orL (l.drop k)
 | 0,_,_=>rfl
 | k+1,hk,h=>by
  rw[orL_drop l k (by omega) (fun j q hj hq=>h j q (by omega) hq)]
  obtain⟨x,hx⟩:∃ x,l[k]?=some x:=⟨_,List.getElem?_eq_getElem (by omega)⟩
  rw[drop_get hx,h k x (by omega) hx]
  rfl
set_option maxHeartbeats 1000000 in
theorem or_any {w:World}{v:Value}{l:List Int}(hi:SliceAt w v 1 (icells l)) :
  Calls Tryz.prog 116 #[v] w fun e w'=>e=.returned (.int .i64 (orL l))∧w'=w:=by
 obtain⟨a,cap,rfl,l1,l2,l3⟩:=hi
 have hlen:(icells l).length=l.length:=by unfold icells;rw[List.length_map]
 rw[hlen]at l1
 rw[hlen]
 have H3:Hid (∀ k x,l[k]?=some x→∃ b off,a=some ⟨b,off,none⟩∧w.cell? ⟨b,off+k,none⟩=some (.int .i64 x)):=zh (fun k x hx=>by
  rcases l3 with l3 | ⟨b,off,ha,_,hc⟩
  ·unfold icells at l3
   rw[List.map_eq_nil_iff]at l3
   subst l3
   cases hx
  ·refine⟨b,off,ha,?_⟩
   have hk:(icells l)[k]?=some [.int .i64 x]:=by unfold icells;rw[List.getElem?_map,hx];rfl
   have:=hc k _ hk 0 _ rfl
   simpa using this)
 clear l3 hlen
 unfold maxLen at l2
 obtain⟨m,hm⟩:∃ m,m=l.length:=⟨_,rfl⟩
 rw[← hm]at l1 ⊢
 have HM:=zh hm
 clear hm
 go_enter Tryz.func116,Tryz.ntmps116
 go_wp2
 go_loop [5,8] (fun _ i=>∃ k:Nat,k≤m∧i=.int .i64 k∧Hid (∀ j q,j < k→l[j]?=some q→q=0)) (fun _ i=>m - (intOf i).toNat)
 case atStart=>exact⟨0,by omega,rfl,(by intro j q hj;omega)⟩
 case round =>
  obtain⟨k,hk,rfl,hall⟩:=hrel
  by_cases hlt:k < m
  ·obtain⟨q,eq⟩:∃ q,l[k]?=some q:=⟨_,List.getElem?_eq_getElem (by rw[← HM.out];exact hlt)⟩
   obtain⟨b,off,rfl,c1⟩:=H3.out k q eq
   have EQ:=zh eq
   clear eq
   by_cases hp:q=0
   ·have HP:=zh hp
    have hp':(q != 0)=false:=by simp[hp]
    clear hp
    go_wp2
    go_round
    case rel =>
     refine⟨k+1,by omega,by go_num,?_⟩
     intro j q' hj hq
     by_cases hjk:j=k
     ·subst hjk;rw[EQ.out]at hq;cases hq;exact HP.out
     ·exact hall.out j q' (by omega) hq
    case measure=>simp[intOf];omega
   ·have HP:=zh hp
    have hp':(q != 0)=true:=by simp[hp]
    clear hp
    go_wp2
    go_ret
    refine⟨ret_int ?_,rfl⟩
    rw[orL_drop l k (by rw[← HM.out];omega) hall.out,drop_get EQ.out,orL,if_neg HP.out]
  ·go_wp2
   go_ret
   refine⟨ret_int ?_,rfl⟩
   rw[orL_drop l k (by rw[← HM.out];omega) hall.out,List.drop_eq_nil_of_le (by rw[← HM.out];omega),orL]
end Go.Proofs.YtggdcnjaofflbaaGreatDoor
/- Walk: the comparison of votes that slices.SortFunc is given. No condition. -/
namespace Go.Proofs.YtggdcnjaofflbaaGreatDoor
open Go.RowKit Go.BigFrame Go.Sort
theorem row5 (w:World)(b:Nat)(c0 c1 c2 c3 c4:Int)(h:w.heap[b]?=some (.cells #[.int .i64 c0,.int .i64 c1,.int .i64 c2,.int .i64 c3,.int .i64 c4] 3 (0,0))):SliceAt w (.slice (some ⟨b,0,none⟩) 5 5) 1 (icells [c0,c1,c2,c3,c4]):=by
 refine⟨_,5,rfl,Nat.le_refl _,by decide,.inr ⟨b,0,rfl,(ltA h),fun i cs hi j u hj=>?_⟩⟩
 have hc:∀ k x,([.int .i64 c0,.int .i64 c1,.int .i64 c2,.int .i64 c3,.int .i64 c4]:List Value)[k]?=some x→w.cell? ⟨b,k,none⟩=some x:=fun k x hx=>by
  rw[cell_of_row w _ k _ _ _ h,List.getElem?_toArray]
  exact hx
 match i,hi with
 | 0,hi =>
  cases hi
  match j,hj with
  | 0,hj=>cases hj;exact hc 0 _ rfl
 | 1,hi =>
  cases hi
  match j,hj with
  | 0,hj=>cases hj;exact hc 1 _ rfl
 | 2,hi =>
  cases hi
  match j,hj with
  | 0,hj=>cases hj;exact hc 2 _ rfl
 | 3,hi =>
  cases hi
  match j,hj with
  | 0,hj=>cases hj;exact hc 3 _ rfl
 | 4,hi =>
  cases hi
  match j,hj with
  | 0,hj=>cases hj;exact hc 4 _ rfl
theorem cmpC_any (x y:Int)(w:World):Calls Tryz.prog 117 #[.int .i64 x,.int .i64 y] w fun e w'=>e=.returned (.int .i64 (Lib.compareInt x y))∧w'=w:=AnyG.cmp_Compare_int Tryz.cmpC x y w
theorem cmpS_any (a b:ByteArray)(w:World):Calls Tryz.prog 118 #[.string a,.string b] w fun e w'=>e=.returned (.int .i64 (Lib.compareBytes a.toList b.toList))∧w'=w:=by
 rw[ByteArray.toList_eq,ByteArray.toList_eq]
 exact Tryz.strings_Compare a b w
set_option maxHeartbeats 4000000 in
set_option maxRecDepth 100000 in
theorem cmpfn_any (u v:VoteP)(w:World):Calls Tryz.prog 115 #[.agg #[.int .i64 u.car,.int .i64 u.num,.int .i64 u.stp,.string u.val,.string u.sl],.agg #[.int .i64 v.car,.int .i64 v.num,.int .i64 v.stp,.string v.val,.string v.sl]] w fun e w'=>e=.returned (.int .i64 (cmpV u v))∧∃ q os,w'=grow (w.drewN q) os:=by
 obtain⟨W2,hW2⟩:∃ W2,W2=(w.alloc (.cells #[.int .i64 u.car,.int .i64 u.num,.int .i64 u.stp,.string u.val,.string u.sl] 27)).alloc (.cells #[.int .i64 v.car,.int .i64 v.num,.int .i64 v.stp,.string v.val,.string v.sl] 27):=⟨_,rfl⟩
 obtain⟨a0,a1,a2,a3,a4⟩:=vcellsAt (show W2.heap[w.heap.size]?=some (.cells #[.int .i64 u.car,.int .i64 u.num,.int .i64 u.stp,.string u.val,.string u.sl] 27 (0,0)) by rw[hW2];exact at_past w _ _)
 obtain⟨b0,b1,b2,b3,b4⟩:=vcellsAt (show W2.heap[w.heap.size+1]?=some (.cells #[.int .i64 v.car,.int .i64 v.num,.int .i64 v.stp,.string v.val,.string v.sl] 27 (0,0)) by rw[hW2];exact at_second w _ _)
 have HR:Hid (cmpV u v=orL [Lib.compareInt u.car v.car,Lib.compareInt u.num v.num,Lib.compareInt u.stp v.stp,Lib.compareBytes u.val.toList v.val.toList,Lib.compareBytes u.sl.toList v.sl.toList]):=zh rfl
 have HW2:=zh hW2
 have H1:=zh (fun W=>cmpC_any u.car v.car W)
 have H2:=zh (fun W=>cmpC_any u.num v.num W)
 have H3:=zh (fun W=>cmpC_any u.stp v.stp W)
 have H4:=zh (fun W=>cmpS_any u.val v.val W)
 have H5:=zh (fun W=>cmpS_any u.sl v.sl W)
 generalize cmpV u v=R at *
 generalize Lib.compareInt u.car v.car=r1 at *
 generalize Lib.compareInt u.num v.num=r2 at *
 generalize Lib.compareInt u.stp v.stp=r3 at *
 generalize Lib.compareBytes u.val.toList v.val.toList=r4 at *
 generalize Lib.compareBytes u.sl.toList v.sl.toList=r5 at *
 clear hW2
 obtain⟨uc,un,us,uv,ul⟩:=u
 obtain⟨vc,vn,vs,vv,vl⟩:=v
 simp only at a0 a1 a2 a3 a4 b0 b1 b2 b3 b4 H1 H2 H3 H4 H5 HW2
 go_enter Tryz.func115,Tryz.ntmps115
 go_upto_region 1 with fail
 rw[← HW2.out]
 refine wp_region_quiet_tail 29 (fun w'=>∃ q,w'=W2.drewN q) (by kernel_rfl) (by kernel_rfl) ⟨1,rfl⟩ ?_
 simp only[List.take_succ_cons,List.take_zero,List.drop_succ_cons,List.drop_zero]
 repeat (go_big_quiet_step (first | ((with_reducible refine(H1.out _).mono ?_);rintro e w1 ⟨rfl,rfl⟩;exact⟨rfl,_,rfl⟩) | ((with_reducible refine(H2.out _).mono ?_);rintro e w1 ⟨rfl,rfl⟩;exact⟨rfl,_,rfl⟩) | ((with_reducible refine(H3.out _).mono ?_);rintro e w1 ⟨rfl,rfl⟩;exact⟨rfl,_,rfl⟩) | ((with_reducible refine(H4.out _).mono ?_);rintro e w1 ⟨rfl,rfl⟩;exact⟨rfl,_,rfl⟩) | ((with_reducible refine(H5.out _).mono ?_);rintro e w1 ⟨rfl,rfl⟩;exact⟨rfl,_,rfl⟩)))
 refine wpQuiet_nil ?_
 rintro _ ⟨nq,rfl⟩
 clear a0 a1 a2 a3 a4 b0 b1 b2 b3 b4 H1 H2 H3 H4 H5
 have HO:=zh (or_any (row5 ((W2.drewN nq).alloc (.cells #[.int .i64 r1,.int .i64 r2,.int .i64 r3,.int .i64 r4,.int .i64 r5] 3)) (W2.drewN nq).heap.size r1 r2 r3 r4 r5 (heap_alloc_new _ _)))
 rw[← HR.out]at HO
 go_wp2_with (go_at_call 116;refine HO.out.mono ?_;rintro e w3 ⟨rfl,rfl⟩)
 go_ret
 refine⟨rfl,nq,#[.cells #[.int .i64 uc,.int .i64 un,.int .i64 us,.string uv,.string ul] 27,.cells #[.int .i64 vc,.int .i64 vn,.int .i64 vs,.string vv,.string vl] 27,.cells #[.int .i64 r1,.int .i64 r2,.int .i64 r3,.int .i64 r4,.int .i64 r5] 3],?_⟩
 rw[HW2.out]
 rw[alloc_eq_grow,alloc_eq_grow,alloc_eq_grow]
 show grow (grow (grow (w.drewN nq) _) _) _=_
 rw[grow_grow,grow_grow]
 rfl
end Go.Proofs.YtggdcnjaofflbaaGreatDoor
/- Walks: slices.AppendSeq, Collect at the genuine votes. The conditions: what the slices read as, lengths of keys, the table of constants. -/
namespace Go.Proofs.YtggdcnjaofflbaaGreatDoor
open Go.RowKit Go.BigFrame Go.Shelf
attribute [local go_sem] Oper.semAt_some
theorem abide_ownE {α:Type}{B base size:Nat}{e:TypeId}(v:Value)(f:List α→List (List Value)):Abide (α:=α) none B (fun pre W=>OwnE W base e size v (f pre)) :=
 ⟨fun pre A C h hs=>owns_any h hs.1,
  fun pre A C r h hg hr=>World.ownsRow.kept h hg (by
  rcases hr with hr | ⟨k,o,hr,_,ho,hc⟩
  ·rw[hr]
   cases hv:v.ownBlock with
   | none=>exact .inl rfl
   | some x=>exact .inr (by simp)
  ·rcases h.2 with⟨rfl,_⟩ | ⟨g,cap,cur,rfl,_,hgg,_⟩
   ·exact .inl rfl
   ·refine .inr (fun e'=>?_)
    rw[hr]at e'
    have e2:g=k:=by simpa [Value.ownBlock]using e'
    subst e2
    rw[hgg]at ho
    cases ho
    cases hc)⟩
set_option maxHeartbeats 4000000 in
set_option maxRecDepth 100000 in
theorem appendSeq_any {wd w:World}{kv x:Value}{ks:List ByteArray}{l:List VoteP}(hr:SS wd kv ks)(hks:∀ k∈ks,k.size≤1000)(hl:VS wd x l)(hl6:l.length≤1000000)(he:Env wd)(hg:3 < wd.heap.size)(hb:Below wd.heap.size wd w)(b1 b2:Nat)
  (h1:w.heap[b1]?=some (.cells #[x] 35 (0,0))) (h2:w.heap[b2]?=some (.cells #[kv] 31 (0,0))) :
  Calls Tryz.prog 168 #[.slice none 0 0,.func (.func 146) #[] #[.pointer (some ⟨b1,0,none⟩),.pointer (some ⟨b2,0,none⟩)]] w fun e w'=>∃ v,e=.returned v∧OwnV w' w.heap.size v (l.filter (genV ks))∧Below w.heap.size w w':=by
 have hl1:=(ltA h1)
 have hl2:=(ltA h2)
 obtain⟨W1,hW1⟩:∃ W1,W1=w.alloc (.cells #[.slice none 0 0] 35):=⟨_,rfl⟩
 have HB1:Hid (Below w.heap.size w W1):=zh (by rw[hW1];exact br0.alloc (Nat.le_refl _) _)
 have HP1:Hid (W1.heap[w.heap.size]?=some (.cells #[.slice none 0 0] 35 (0,0))):=zh (by rw[hW1];exact heap_alloc_new w _)
 have hs1:W1.heap.size=w.heap.size+1:=by rw[hW1];simp
 have HI:=zh (gen_iter wd W1 hr hks hl he hg (hb.trans (HB1.out.mono hb.size)) b1 b2 ((HB1.out.block b1 hl1).trans h1) ((HB1.out.block b2 hl2).trans h2))
 have hwd:=hb.size
 have HW1:=zh hW1
 clear hr hks he hg hb h1 h2 hW1
 refine calls_of_callsIn (n:=8) Wide.wide (callsIn_of_wp_marks Tryz.func168 rfl trivial ?_)
 simp only[Tryz.ntmps168,List.size_toArray,List.length_cons,List.length_nil,Nat.reduceAdd,Nat.reduceSub,Array.replicate_succ,Array.replicate_zero,List.push_toArray,List.append_toArray,List.nil_append,List.cons_append]
 refine wpIn_wide.2 ?_
 go_wp2
 rw[← HW1.out]
 refine(wpIn_wide (n:=8)).1 ?_
 refine wpIn_rangeA (n:=8) Wide.wide rfl (gf:=146) (lb:=#[.pointer (some ⟨b1,0,none⟩),.pointer (some ⟨b2,0,none⟩)]) ?ev (fun args w=>?enter) HI.out br0 (fun x=>rfl) (fun q e=>by cases e) (fun h h'=>h.trans h') (fun W l o o' h1 h2 h3 h4=>?kb)
  (fun pre W=>(∃ v,W.heap[w.heap.size]?=some (.cells #[v] 35 (0,0))∧OwnE W w.heap.size 27 5 v ((pre.map (·.1)).map vcells))∧Below w.heap.size w W) (fun _ _ _=>False) ?abide (fun _=>abide_false _ _) ⟨⟨_,HP1.out,OwnE.nil _ _ _ _⟩,HB1.out⟩
  (fun a x a' W=>∃ q,W.heap[q]?=some (.cells #[.int .i64 x.1.car,.int .i64 x.1.num,.int .i64 x.1.stp,.string x.1.val,.string x.1.sl] 27 (0,0))∧a'=⟨(a.tmps.setIfInBounds 7 (vagg x.1)).setIfInBounds 5 (.pointer (some ⟨q,0,none⟩)),[]⟩)
  (fun x a' W l o o' h1 h2 h3 h4=>?a1) (fun A C h1 h2=>?kg) (fun l pre x W K hI hK=>?assign) (fun lr pre x a' W hI hlen hA=>?body) (fun Dm xs W hDm hS hI hDd=>?done) (fun Dm c pre W hD hS hI=>hI.elim)
 case a1 =>
  obtain⟨q,hq,ha⟩:=h1
  exact⟨q,(World.putObj_heap_other (fun e=>by subst e;rw[h3]at hq;cases hq;cases h4)).trans hq,ha⟩
 case kg=>exact⟨br0.grown h2 (by omega) (fun j e=>by cases e),h2.block _ (by omega) (by simp),h2.block _ (by omega) (by simp)⟩
 case assign =>
  unfold GV.enc vagg at *
  simp only[List.zip_toArray,List.zip_cons_cons,List.zip_nil_right,List.foldl_toArray',List.foldl_cons,List.foldl_nil,List.setIfInBounds_toArray,List.set_cons_succ,List.set_cons_zero]
  gi_wp2
  exact hK _ _ ⟨W.heap.size,heap_alloc_new _ _,rfl⟩ (World.grownBy_alloc _ _ _)
 case ev=>rfl
 case enter=>kernel_rfl
 case kb=>exact⟨br0.grown (grownBy_putObj' W l o') (by have:=(ltA h2);omega) (fun j e=>by cases e;omega),World.putObj_heap_other (fun e=>by omega),World.putObj_heap_other (fun e=>by omega)⟩
 case abide=>exact abide_and (abide_ex fun v=>abide_and (abide_cells (fun _=>.cells #[v] 35) (fun _=>rfl) (by simp)) (abide_ownE (α:=GV ks) v (fun pre=>(pre.map (·.1)).map vcells))) (abide_below (by omega) (Nat.le_refl _) (fun q e=>by cases e))
 case body =>
  obtain⟨q,hq,rfl⟩:=hA
  obtain⟨⟨v,g1,g2⟩,g3⟩:=hI
  obtain⟨y,hy⟩:=x
  simp only at hq
  obtain⟨v0,v1,v2,v3,v4⟩:=vcellsAt hq
  have c1:W.cell? ⟨w.heap.size,0,none⟩=some v:=cell_of_row W _ 0 _ _ _ g1
  have hsW:=(ltA g1)
  have hqW:=(ltA hq)
  obtain⟨L,hL⟩:∃ L,L=pre.map (·.1):=⟨_,rfl⟩
  have HMP:Hid (((pre++[(⟨y,hy⟩:GV ks)]).map (·.1))=L++[y]):=zh (by rw[List.map_append,hL];rfl)
  have hLl:L.length < l.length:=by rw[hL,List.length_map];exact hlen
  rw[← hL]at g2
  clear hL
  obtain⟨X,hX⟩:∃ X:GV ks,X=⟨y,hy⟩:=⟨_,rfl⟩
  rw[← hX]at HMP ⊢
  have hXv:X.1=y:=by rw[hX]
  rw[hXv]
  clear hX hXv hq
  obtain⟨va,vc,hv⟩:=OwnV.form g2
  subst hv
  have G1:=zh g1
  have G2:=zh g2
  have G3:=zh g3
  clear g1 g2 g3
  have hcl:(L.map vcells).length < l.length:=by rw[List.length_map];exact hLl
  obtain⟨yc,yn,ys,yv,yl⟩:=y
  unfold vagg
  simp only at v0 v1 v2 v3 v4
  simp only[List.setIfInBounds_toArray,List.set_cons_succ,List.set_cons_zero]
  gi_wp2_with (refine wpListIn_append_el 35 27 5 56 _ (by kernel_rfl) infoVote3 rfl (by decide) rfl (.tmp 8) (.tmp 10) rfl w.heap.size (.slice va L.length vc) (L.map vcells) rfl (OwnE.alloc G2.out _) W.heap.size (vcells ⟨yc,yn,ys,yv,yl⟩) rfl (vcells_one _) rfl (0,0) (heap_alloc_new _ _) (by unfold maxLen;omega) (by omega) (by simp;omega) ?_;intro v3 w3 ho3 hg3;have HG3:=zh hg3;have HO3:=zh ho3;clear ho3 hg3;have HC3:Hid (w3.heap[w.heap.size]?=some (.cells #[.slice va L.length vc] 35 (0,0))):=zh ((HG3.out.block _ (by simp;omega) (own_ne G2.out G1.out (fun c e=>by cases e))).trans ((Below.heap_alloc _ _ _ hsW).trans G1.out));have d1:w3.cell? ⟨w.heap.size,0,none⟩=some (.slice va L.length vc):=cell_of_row w3 _ 0 _ _ _ HC3.out;have cf1:w3.frozen? ⟨w.heap.size,0,none⟩=false:=(by simp[World.frozen?,HC3.out]);obtain⟨a3,cp3,hv3⟩:=HO3.out.form;generalize (L.map vcells++[vcells ⟨yc,yn,ys,yv,yl⟩]).length=M3 at hv3;subst hv3)
  have hset:w3.grownBy (w3.setCell ⟨w.heap.size,0,none⟩ (.slice a3 M3 cp3)) (some w.heap.size):=grown_setCell (grown_refl _ _) _ (.inl rfl) _
  have hbw3:Below w.heap.size w w3:=(G3.out.alloc G3.out.size _).grown HG3.out (by simp;omega) (fun j e=>OwnE.ge G2.out j e)
  have hbW3:Below w.heap.size W w3:=((Below.refl _ W).alloc (Nat.le_of_lt hsW) _).grown HG3.out (by simp;omega) (fun j e=>OwnE.ge G2.out j e)
  have hbW4:Below w.heap.size W (w3.setCell ⟨w.heap.size,0,none⟩ (.slice a3 M3 cp3)):=hbW3.grown hset (by have:=hbW3.size;omega) (fun j e=>by cases e;exact Nat.le_refl _)
  refine⟨⟨hbW4.size,fun k o hk ho hnc=>?_⟩,⟨hbW4.mono hwd,hbW4.block _ hl1,hbW4.block _ hl2⟩,?_⟩
  ·have hkl:=(ltA ho)
   have h3:w3.heap[k]?=some o:=(HG3.out.block k (by simp;omega) (own_ne G2.out ho (fun c e=>by subst e;cases hnc))).trans ((Below.heap_alloc _ _ _ hkl).trans ho)
   exact(hset.block k (ltA h3) (fun e=>by
    have:=Option.some.inj e
    subst this
    rw[G1.out]at ho
    cases ho
    cases hnc)).trans h3
  ·show(∃ v,_∧OwnE _ _ _ _ _ ((List.map _ _).map vcells))∧_
   rw[HMP.out,List.map_append]
   refine⟨⟨_,?_,HO3.out.grownX HC3.out (fun c e=>by cases e) hset⟩,hbw3.grown hset (by have:=hbw3.size;omega) (fun j e=>by cases e;exact Nat.le_refl _)⟩
   rw[heap_setCell_same _ HC3.out]
   rfl
 case done =>
  obtain⟨⟨v,g1,g2⟩,g3⟩:=hI
  have c1:W.cell? ⟨w.heap.size,0,none⟩=some v:=cell_of_row W _ 0 _ _ _ g1
  have G1:=zh g1
  have G2:Hid (OwnV W w.heap.size v (l.filter (genV ks))):=zh (by rw[← hS];exact g2)
  have G3:=zh g3
  have HDd:=zh hDd
  have hsW:=(ltA g1)
  have hDm':w.heap.size+1≤Dm:=by omega
  obtain⟨va,vc,hv⟩:=G2.out.form
  subst hv
  clear hS g1 g2 g3 hDd hDm
  show Exit.inBlock _ _ _ (Act.mk _ [{ target:=.collected Dm,args:=#[] }]) W
  go_wp2
  have hM:Marks (w.heap.size+1) [Dm] W:=⟨by simp,fun D' hD=>by
   rw[List.mem_singleton]at hD
   subst hD
   exact⟨hDm',HDd.out⟩⟩
  refine leaves_marks (B:=w.heap.size+1) [Dm] W hM (fun W'' hT=>⟨_,results_tmp rfl _ _ _,.slice va (l.filter (genV ks)).length vc,rfl,Taken.owns hT G2.out,G3.out.trans (hT.below.mono (by omega))⟩)
end Go.Proofs.YtggdcnjaofflbaaGreatDoor
