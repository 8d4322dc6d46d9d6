/- Walk of package quorum: Decode. The condition: the length of the string. -/
import Derived.Test.YtggdcnjaofflbaaGreatDoorMM18
import Derived.Test.YtggdcnjaofflbaaGreatDoorMM20
import Derived.Shelf.Small.Strs
import Derived.Shelf.Sort.Plain
import Derived.Shelf.Slices.In.SortNone
import Derived.Shelf.SlIter.Sorted
import Derived.Shelf.SlSortCmp.WholeK
import Derived.Shelf.SlicesG.Cmp
import Derived.Shelf.SlSortCmp.NoneTotal
namespace Go.Proofs.YtggdcnjaofflbaaGreatDoor
open Go.RowKit Go.BigFrame
def dec (i:Nat)(a c n t:Int)(l:List UInt8):Option VoteP:=match i with
 | 0=>decodeL l
 | 1=>match intL 9 0 0 l with
  | none=>none
  | some (c,k2)=>match intL 9 0 0 (l.drop k2)with
   | none=>none
   | some (num,k3)=>match intL 9 0 0 ((l.drop k2).drop k3)with
    | none=>none
    | some (stp,k4)=>voteTail a c num stp (((l.drop k2).drop k3).drop k4)
 | 2=>match intL 9 0 0 l with
  | none=>none
  | some (num,k3)=>match intL 9 0 0 (l.drop k3)with
   | none=>none
   | some (stp,k4)=>voteTail a c num stp ((l.drop k3).drop k4)
 | 3=>match intL 9 0 0 l with
  | none=>none
  | some (stp,k4)=>voteTail a c n stp (l.drop k4)
 | _=>voteTail a c n t l
theorem dec_none {i:Nat}(hi:i < 4)(a c n t:Int){l:List UInt8}(h:intL 9 0 0 l=none):dec i a c n t l=none:=by
 match i,hi with
 | 0,_=>unfold dec decodeL;simp only[h]
 | 1,_=>unfold dec;simp only[h]
 | 2,_=>unfold dec;simp only[h]
 | 3,_=>unfold dec;simp only[h]
theorem dec_some {i:Nat}(hi:i < 4)(a c n t:Int){l:List UInt8}{x:Int}{k:Nat}(h:intL 9 0 0 l=some (x,k)) :
  dec i a c n t l=dec (i+1) (if i=0 then x else a) (if i=1 then x else c) (if i=2 then x else n) (if i=3 then x else t) (l.drop k):=by
 match i,hi with
 | 0,_=>show decodeL l=_;unfold decodeL dec;simp only[h];rfl
 | 1,_=>show(match intL 9 0 0 l with | none=>none | some (c,k2)=>_)=_;simp only[h];rfl
 | 2,_=>show(match intL 9 0 0 l with | none=>none | some (c,k2)=>_)=_;simp only[h];rfl
 | 3,_=>show(match intL 9 0 0 l with | none=>none | some (c,k2)=>_)=_;simp only[h];rfl
theorem intL_len {l:List UInt8}{x:Int}{k:Nat}(h:intL 9 0 0 l=some (x,k)):k≤l.length:=by
 obtain⟨m,rest,_,_,h3,h4,_⟩:=intL_is 9 0 0 l x k h
 rw[h3,h4,List.length_append]
 omega
theorem bytes_take (s:ByteArray)(a b:Nat):bytesOf (((s.data.toList).drop a).take b)=s.extract a (a+b):=by
 refine ByteArray.ext ?_
 unfold bytesOf
 rw[ByteArray.data_extract]
 refine Array.ext' ?_
 rw[Array.toList_extract,List.extract]
 simp
theorem bytes_drop (s:ByteArray)(a:Nat):bytesOf ((s.data.toList).drop a)=s.extract a s.size:=by
 refine ByteArray.ext ?_
 unfold bytesOf
 rw[ByteArray.data_extract]
 refine Array.ext' ?_
 rw[Array.toList_extract,List.extract,List.take_of_length_le (by rw[List.length_drop];exact Nat.le_refl _)]
theorem tail_is (s:ByteArray)(at1:Nat)(a c n t:Int):dec 4 a c n t (s.data.toList.drop at1)=if s.size - at1=64∧a=5∧formedV ⟨c,n,t,s.extract at1 (at1+32),s.extract (at1+32) s.size⟩=true then some ⟨c,n,t,s.extract at1 (at1+32),s.extract (at1+32) s.size⟩else none:=by
 show voteTail a c n t _=_
 unfold voteTail
 have e:(s.data.toList.drop at1).length=s.size - at1:=by rw[List.length_drop];rfl
 rw[e,bytes_take,List.drop_drop,bytes_drop]
def DecAt (w:World)(a c n t:Int)(W:World):Prop:=Below w.heap.size w W∧W.heap[w.heap.size]?=some (.cells #[.int .i64 0,.int .i64 0,.int .i64 0,.string ⟨#[]⟩,.string ⟨#[]⟩] 27 (0,0))∧W.heap[w.heap.size+1]?=some (.cells #[.int .i64 c,.int .i64 n,.int .i64 t,.string ⟨#[]⟩,.string ⟨#[]⟩] 27 (0,0))
 ∧ W.heap[w.heap.size+1+1]?=some (.cells #[.int .i64 a] 3 (0,0))∧W.heap[w.heap.size+1+1+1]?=some (.cells #[.pointer (some ⟨w.heap.size+1+1,0,none⟩),.pointer (some ⟨w.heap.size+1,0,none⟩),.pointer (some ⟨w.heap.size+1,1,none⟩),.pointer (some ⟨w.heap.size+1,2,none⟩)] 109 (0,0))
theorem heap_alloc_old (w:World)(o:Obj)(k:Nat)(h:k < w.heap.size):(w.alloc o).heap[k]?=w.heap[k]?:=by
 simp only[World.alloc,Array.getElem?_push,Nat.ne_of_lt h,if_false]
theorem at_past' (w:World)(o o':Obj):((w.alloc o).alloc o').heap[w.heap.size+1]?=some o':=by
 have h:=heap_alloc_new (w.alloc o) o'
 rwa [show(w.alloc o).heap.size=w.heap.size+1 by simp]at h
theorem at_past'' (w:World)(o o' o'':Obj):(((w.alloc o).alloc o').alloc o'').heap[w.heap.size+1+1]?=some o'':=by
 have h:=heap_alloc_new ((w.alloc o).alloc o') o''
 rwa [show((w.alloc o).alloc o').heap.size=w.heap.size+1+1 by simp]at h
theorem at_past3 (w:World)(o o' o'' o3:Obj):((((w.alloc o).alloc o').alloc o'').alloc o3).heap[w.heap.size+1+1+1]?=some o3:=by
 have h:=heap_alloc_new (((w.alloc o).alloc o').alloc o'') o3
 rwa [show(((w.alloc o).alloc o').alloc o'').heap.size=w.heap.size+1+1+1 by simp]at h
theorem DecAt.ptr {w:World}{a c n t:Int}{W:World}(h:DecAt w a c n t W)(i:Nat)(hi:i < 4):W.cell? ⟨w.heap.size+1+1+1,i,none⟩=some (.pointer (some (if i=0 then⟨w.heap.size+1+1,0,none⟩else if i=1 then⟨w.heap.size+1,0,none⟩else if i=2 then⟨w.heap.size+1,1,none⟩else⟨w.heap.size+1,2,none⟩))):=by
 obtain⟨h1,h2,h3,h4,h5⟩:=h
 match i,hi with
 | 0,_=>exact cell_of_row W _ 0 _ _ _ h5
 | 1,_=>exact cell_of_row W _ 1 _ _ _ h5
 | 2,_=>exact cell_of_row W _ 2 _ _ _ h5
 | 3,_=>exact cell_of_row W _ 3 _ _ _ h5
theorem DecAt.st0 {w:World}{a c n t:Int}{W:World}(h:DecAt w a c n t W)(x:Int):DecAt w x c n t (W.setCell ⟨w.heap.size+1+1,0,none⟩ (.int .i64 x)):=by
 obtain⟨h1,h2,h3,h4,h5⟩:=h
 have hg:W.grownBy (W.setCell ⟨w.heap.size+1+1,0,none⟩ (.int .i64 x)) (some (w.heap.size+1+1)):=grown_setCell (grown_refl _ _) _ (.inl rfl) _
 exact⟨h1.setCell (p:=⟨w.heap.size+1+1,0,none⟩) (by show w.heap.size≤w.heap.size+1+1;omega) _,(hg.block _ (ltA h2) (fun e=>by have:=Option.some.inj e;omega)).trans h2,(hg.block _ (ltA h3) (fun e=>by have:=Option.some.inj e;omega)).trans h3,heap_setCell_same (i:=0) _ h4,(hg.block _ (ltA h5) (fun e=>by have:=Option.some.inj e;omega)).trans h5⟩
theorem DecAt.st1 {w:World}{a c n t:Int}{W:World}(h:DecAt w a c n t W)(x:Int):DecAt w a x n t (W.setCell ⟨w.heap.size+1,0,none⟩ (.int .i64 x)):=by
 obtain⟨h1,h2,h3,h4,h5⟩:=h
 have hg:W.grownBy (W.setCell ⟨w.heap.size+1,0,none⟩ (.int .i64 x)) (some (w.heap.size+1)):=grown_setCell (grown_refl _ _) _ (.inl rfl) _
 exact⟨h1.setCell (p:=⟨w.heap.size+1,0,none⟩) (by show w.heap.size≤w.heap.size+1;omega) _,(hg.block _ (ltA h2) (fun e=>by have:=Option.some.inj e;omega)).trans h2,heap_setCell_same (i:=0) _ h3,(hg.block _ (ltA h4) (fun e=>by have:=Option.some.inj e;omega)).trans h4,(hg.block _ (ltA h5) (fun e=>by have:=Option.some.inj e;omega)).trans h5⟩
theorem DecAt.st2 {w:World}{a c n t:Int}{W:World}(h:DecAt w a c n t W)(x:Int):DecAt w a c x t (W.setCell ⟨w.heap.size+1,1,none⟩ (.int .i64 x)):=by
 obtain⟨h1,h2,h3,h4,h5⟩:=h
 have hg:W.grownBy (W.setCell ⟨w.heap.size+1,1,none⟩ (.int .i64 x)) (some (w.heap.size+1)):=grown_setCell (grown_refl _ _) _ (.inl rfl) _
 exact⟨h1.setCell (p:=⟨w.heap.size+1,1,none⟩) (by show w.heap.size≤w.heap.size+1;omega) _,(hg.block _ (ltA h2) (fun e=>by have:=Option.some.inj e;omega)).trans h2,heap_setCell_same (i:=1) _ h3,(hg.block _ (ltA h4) (fun e=>by have:=Option.some.inj e;omega)).trans h4,(hg.block _ (ltA h5) (fun e=>by have:=Option.some.inj e;omega)).trans h5⟩
theorem DecAt.st3 {w:World}{a c n t:Int}{W:World}(h:DecAt w a c n t W)(x:Int):DecAt w a c n x (W.setCell ⟨w.heap.size+1,2,none⟩ (.int .i64 x)):=by
 obtain⟨h1,h2,h3,h4,h5⟩:=h
 have hg:W.grownBy (W.setCell ⟨w.heap.size+1,2,none⟩ (.int .i64 x)) (some (w.heap.size+1)):=grown_setCell (grown_refl _ _) _ (.inl rfl) _
 exact⟨h1.setCell (p:=⟨w.heap.size+1,2,none⟩) (by show w.heap.size≤w.heap.size+1;omega) _,(hg.block _ (ltA h2) (fun e=>by have:=Option.some.inj e;omega)).trans h2,heap_setCell_same (i:=2) _ h3,(hg.block _ (ltA h4) (fun e=>by have:=Option.some.inj e;omega)).trans h4,(hg.block _ (ltA h5) (fun e=>by have:=Option.some.inj e;omega)).trans h5⟩
def DecX (w:World)(c n t:Int)(v l:ByteArray)(W:World):Prop:=Below w.heap.size w W∧W.heap[w.heap.size]?=some (.cells #[.int .i64 0,.int .i64 0,.int .i64 0,.string ⟨#[]⟩,.string ⟨#[]⟩] 27 (0,0))∧W.heap[w.heap.size+1]?=some (.cells #[.int .i64 c,.int .i64 n,.int .i64 t,.string v,.string l] 27 (0,0))
theorem DecX.below {w:World}{c n t:Int}{v l:ByteArray}{W W':World}(h:DecX w c n t v l W)(hb:Below W.heap.size W W'):DecX w c n t v l W' :=
 ⟨q_next h.1 hb,(hb.block _ (ltA h.2.1)).trans h.2.1,(hb.block _ (ltA h.2.2)).trans h.2.2⟩
theorem DecX.st3 {w:World}{c n t:Int}{v l:ByteArray}{W:World}(h:DecX w c n t v l W)(x:ByteArray):DecX w c n t x l (W.setCell ⟨w.heap.size+1,3,none⟩ (.string x)):=by
 obtain⟨h1,h2,h3⟩:=h
 have hg:W.grownBy (W.setCell ⟨w.heap.size+1,3,none⟩ (.string x)) (some (w.heap.size+1)):=grown_setCell (grown_refl _ _) _ (.inl rfl) _
 exact⟨h1.setCell (p:=⟨w.heap.size+1,3,none⟩) (by show w.heap.size≤w.heap.size+1;omega) _,(hg.block _ (ltA h2) (fun e=>by have:=Option.some.inj e;omega)).trans h2,heap_setCell_same (i:=3) _ h3⟩
theorem DecX.st4 {w:World}{c n t:Int}{v l:ByteArray}{W:World}(h:DecX w c n t v l W)(x:ByteArray):DecX w c n t v x (W.setCell ⟨w.heap.size+1,4,none⟩ (.string x)):=by
 obtain⟨h1,h2,h3⟩:=h
 have hg:W.grownBy (W.setCell ⟨w.heap.size+1,4,none⟩ (.string x)) (some (w.heap.size+1)):=grown_setCell (grown_refl _ _) _ (.inl rfl) _
 exact⟨h1.setCell (p:=⟨w.heap.size+1,4,none⟩) (by show w.heap.size≤w.heap.size+1;omega) _,(hg.block _ (ltA h2) (fun e=>by have:=Option.some.inj e;omega)).trans h2,heap_setCell_same (i:=4) _ h3⟩
set_option maxHeartbeats 8000000 in
set_option maxRecDepth 100000 in
theorem decode_any (s:ByteArray)(hs:s.size≤1000000)(w:World) :
  Calls Tryz.prog 28 #[.string s] w fun e w'=>e=.returned (castR (decodeV s))∧Below w.heap.size w w':=by
 obtain⟨RES,hRES⟩:∃ R,R=decodeV s:=⟨_,rfl⟩
 rw[← hRES]
 have HRES:Hid (RES=dec 0 0 0 0 0 (s.data.toList.drop 0)):=zh hRES
 clear hRES
 go_enter Tryz.func28,Tryz.ntmps28
 go_upto_region 5 with fail
 obtain⟨W4,hW4⟩:∃ W4,W4=(((w.alloc (.cells #[.int .i64 0,.int .i64 0,.int .i64 0,.string ⟨#[]⟩,.string ⟨#[]⟩] 27)).alloc (.cells #[.int .i64 0,.int .i64 0,.int .i64 0,.string ⟨#[]⟩,.string ⟨#[]⟩] 27)).alloc (.cells #[.int .i64 0] 3)).alloc (.cells #[.pointer (some ⟨w.heap.size+1+1,0,none⟩),.pointer (some ⟨w.heap.size+1,0,none⟩),.pointer (some ⟨w.heap.size+1,1,none⟩),.pointer (some ⟨w.heap.size+1,2,none⟩)] 109):=⟨_,rfl⟩
 rw[← hW4]
 have HA:Hid (DecAt w 0 0 0 0 W4):=zh (by
  rw[hW4]
  exact⟨(((((Below.refl _ w).alloc (Nat.le_refl _) _).alloc (by simp) _).alloc (by simp <;> omega) _).alloc (by simp <;> omega) _),by rw[heap_alloc_old _ _ _ (by simp <;> omega),heap_alloc_old _ _ _ (by simp <;> omega),heap_alloc_old _ _ _ (by simp)];exact heap_alloc_new _ _,by rw[heap_alloc_old _ _ _ (by simp <;> omega),heap_alloc_old _ _ _ (by simp)];exact at_past' w _ _,by rw[heap_alloc_old _ _ _ (by simp)];exact at_past'' w _ _ _,at_past3 w _ _ _ _⟩)
 clear hW4
 go_wp2
 go_loopw [6,19] (fun ap ip wr=>∃(i p:Nat) (a c n t:Int),i≤4∧ip=.int .i64 i∧ap=.int .i64 p∧p≤s.size∧Hid (RES=dec i a c n t (s.data.toList.drop p))∧Hid (DecAt w a c n t wr)) (fun _ ip _=>4 - (intOf ip).toNat)
 case atStart=>exact⟨0,0,0,0,0,0,by omega,rfl,rfl,by omega,HRES,HA⟩
 case round =>
  obtain⟨i,p,a,c,n,t,hi,rfl,rfl,hp,hI,hD⟩:=hrel
  have HINT:=zh (int_any s p hp hs)
  by_cases hi4:i < 4
  ·cases hx:intL 9 0 0 (s.data.toList.drop p)with
   | none =>
    have HR:Hid (RES=none):=zh (hI.out.trans (dec_none hi4 a c n t hx))
    rw[hx]at HINT
    clear hx hI
    have hpt:=hD.out.ptr i hi4
    generalize (if i=0 then(⟨w.heap.size+1+1,0,none⟩:Addr)else if i=1 then⟨w.heap.size+1,0,none⟩else if i=2 then⟨w.heap.size+1,1,none⟩else⟨w.heap.size+1,2,none⟩)=P at *
    have hi0:(0:Int)≤(i:Int):=by omega
    have hi4':(i:Int) < 4:=by omega
    obtain⟨z0,z1,z2,z3,z4⟩:=vcellsAt hD.out.2.1
    have zf:∀ j,wr.frozen? ⟨w.heap.size,j,none⟩=false:=fun j=>by unfold World.frozen?;rw[hD.out.2.1];simp
    go_wp2_with (go_at_call 70;refine(HINT.out _).mono ?_;rintro e w1 ⟨rfl,rfl⟩;unfold intR)
    refine bodyPost_ret (results_cellA_tmp rfl _ w.heap.size 27 #[.int .i64 0,.int .i64 0,.int .i64 0,.string ⟨#[]⟩,.string ⟨#[]⟩] (0,0) _ rfl (vfive_heap hD.out.2.1 _ _ _ _ _) Tryz.underlying27 rfl infoVote) rfl ⟨?_,vfive_below hD.out.1 (Nat.le_refl _) _ _ _ _ _⟩
    rw[HR.out]
    rfl
   | some xk =>
    obtain⟨x,k⟩:=xk
    have HR:Hid (RES=dec (i+1) (if i=0 then x else a) (if i=1 then x else c) (if i=2 then x else n) (if i=3 then x else t) (s.data.toList.drop (p+k))):=zh (by rw[hI.out,dec_some hi4 a c n t hx,List.drop_drop])
    have hpk:p+k≤s.size:=by
     have:=intL_len hx
     rw[List.length_drop]at this
     have e:s.data.toList.length=s.size:=rfl
     omega
    rw[hx]at HINT
    clear hx hI
    have hcase:i=0∨i=1∨i=2∨i=3:=by omega
    have hpt:=hD.out.ptr i hi4
    rcases hcase with rfl | rfl | rfl | rfl
    ·simp at hpt
     obtain⟨b1,b2,b3,b4,b5⟩:=hD.out
     have z0:=cell_of_row wr _ 0 _ _ _ b4
     have zf:∀ j,wr.frozen? ⟨w.heap.size+1+1,j,none⟩=false:=fun j=>by unfold World.frozen?;rw[b4];simp
     have HD2:=zh (hD.out.st0 x)
     clear b1 b2 b3 b4 b5
     go_wp2_with (go_at_call 70;refine(HINT.out _).mono ?_;rintro e w1 ⟨rfl,rfl⟩;unfold intR)
     go_roundw
     case rel=>exact⟨1,p+k,x,c,n,t,by omega,rfl,by go_num,hpk,HR,HD2⟩
     case measure=>simp[intOf]
    ·simp at hpt
     obtain⟨b1,b2,b3,b4,b5⟩:=hD.out
     have z0:=cell_of_row wr _ 0 _ _ _ b3
     have zf:∀ j,wr.frozen? ⟨w.heap.size+1,j,none⟩=false:=fun j=>by unfold World.frozen?;rw[b3];simp
     have HD2:=zh (hD.out.st1 x)
     clear b1 b2 b3 b4 b5
     go_wp2_with (go_at_call 70;refine(HINT.out _).mono ?_;rintro e w1 ⟨rfl,rfl⟩;unfold intR)
     go_roundw
     case rel=>exact⟨2,p+k,a,x,n,t,by omega,rfl,by go_num,hpk,HR,HD2⟩
     case measure=>simp[intOf]
    ·simp at hpt
     obtain⟨b1,b2,b3,b4,b5⟩:=hD.out
     have z0:=cell_of_row wr _ 1 _ _ _ b3
     have zf:∀ j,wr.frozen? ⟨w.heap.size+1,j,none⟩=false:=fun j=>by unfold World.frozen?;rw[b3];simp
     have HD2:=zh (hD.out.st2 x)
     clear b1 b2 b3 b4 b5
     go_wp2_with (go_at_call 70;refine(HINT.out _).mono ?_;rintro e w1 ⟨rfl,rfl⟩;unfold intR)
     go_roundw
     case rel=>exact⟨3,p+k,a,c,x,t,by omega,rfl,by go_num,hpk,HR,HD2⟩
     case measure=>simp[intOf]
    ·simp at hpt
     obtain⟨b1,b2,b3,b4,b5⟩:=hD.out
     have z0:=cell_of_row wr _ 2 _ _ _ b3
     have zf:∀ j,wr.frozen? ⟨w.heap.size+1,j,none⟩=false:=fun j=>by unfold World.frozen?;rw[b3];simp
     have HD2:=zh (hD.out.st3 x)
     clear b1 b2 b3 b4 b5
     go_wp2_with (go_at_call 70;refine(HINT.out _).mono ?_;rintro e w1 ⟨rfl,rfl⟩;unfold intR)
     go_roundw
     case rel=>exact⟨4,p+k,a,c,n,x,by omega,rfl,by go_num,hpk,HR,HD2⟩
     case measure=>simp[intOf]
  ·obtain rfl:i=4:=by omega
   have HT:Hid (RES=if s.size - p=64∧a=5∧formedV ⟨c,n,t,s.extract p (p+32),s.extract (p+32) s.size⟩=true then some ⟨c,n,t,s.extract p (p+32),s.extract (p+32) s.size⟩else none):=zh (hI.out.trans (tail_is s p a c n t))
   have hw1:IntKind.i64.wrap ((s.size:Int) - (p:Int))=(s.size:Int) - (p:Int):=IntWalk.i64_in _ (by omega)
   have a0:=cell_of_row wr _ 0 _ _ _ hD.out.2.2.2.1
   obtain⟨z0,z1,z2,z3,z4⟩:=vcellsAt hD.out.2.1
   have zf:∀ j,wr.frozen? ⟨w.heap.size,j,none⟩=false:=fun j=>by unfold World.frozen?;rw[hD.out.2.1];simp
   clear hI HINT
   by_cases h64:s.size - p=64
   ·by_cases h5:a=5
    ·have h64':((s.size:Int) - (p:Int) != 64)=false:=by simp;omega
     have h5':(a != 5)=false:=by simp[h5]
     have hEX:Hid (RES=if formedV ⟨c,n,t,s.extract p (p+32),s.extract (p+32) s.size⟩=true then some ⟨c,n,t,s.extract p (p+32),s.extract (p+32) s.size⟩else none):=zh (by
      rw[HT.out]
      by_cases hf:formedV ⟨c,n,t,s.extract p (p+32),s.extract (p+32) s.size⟩=true
      ·rw[if_pos ⟨h64,h5,hf⟩,if_pos hf]
      ·rw[if_neg (fun h=>hf h.2.2),if_neg hf])
     clear HT
     have HX0:Hid (DecX w c n t ⟨#[]⟩ ⟨#[]⟩ wr):=zh ⟨hD.out.1,hD.out.2.1,hD.out.2.2.1⟩
     obtain⟨V,hV⟩:∃ V,V=s.extract p (p+32):=⟨_,rfl⟩
     obtain⟨L,hL⟩:∃ L,L=s.extract (p+32) s.size:=⟨_,rfl⟩
     rw[← hV,← hL]at hEX
     have hw2:IntKind.i64.wrap ((p:Int)+32)=(p:Int)+32:=IntWalk.i64_in _ (by omega)
     have hp0:(0:Int)≤(p:Int):=by omega
     have hp32:(p:Int)+32≤(s.size:Int):=by omega
     have hq1:(0:Int)≤(p:Int)+32:=by omega
     have hq2:(p:Int)≤(p:Int)+32:=by omega
     have hq3:((p:Int)+32).toNat=p+32:=by omega
     have hV2:s.extract p (p+32)=V:=hV.symm
     have hL2:s.extract (p+32) s.size=L:=hL.symm
     have h64n:(s.size:Int) - (p:Int)=64:=by omega
     clear hV hL hD z0 z1 z2 z3 z4 zf
     go_upto_region 14 with fail
     clear a0 h64' h64n h5' h64 h5 hw1
     have HS9:Hid (LowKept wr w.heap.size wr.drew):=zh ⟨HX0.out.1.size,(Below.drew br0).mono HX0.out.1.size⟩
     refine wp_region_noPanic ?_
     refine wp_region_lexF [.q 0,.q 1,.q 2,.q 3,.q 4,.q 5,.q 6,.q 7,.q 8,.q 9,.b 10,.q 11,.b 12] (LowKept wr w.heap.size) (by kernel_rfl) (by kernel_rfl) (fun _ _ _ _ h=>h) LowKept.more HS9.out ?_
     iterate 10(refine wpFl_qL (v:=?_) rfl (Or.inl ⟨by rfl,?_⟩) ?_;rotate_left;(focus(intro w' hSw;go_simp;(try with_reducible rfl);done));simp only[Act.put,zzA,zzB,zzC])
     refine wpFl_bS rfl (fun wb hnb hsb K hK=>?_)
     have HXb:=zh (HX0.out.below (q_next (Below.drew br0) hnb))
     have y3:=cell_of_row wb _ 3 _ _ _ HXb.out.2.2
     have yf:∀ j,wb.frozen? ⟨w.heap.size+1,j,none⟩=false:=fun j=>by unfold World.frozen?;rw[HXb.out.2.2];simp
     go_simp
     have HXc:=zh (HXb.out.st3 V)
     refine hK.out _ _ (LowKept.set hsb (by omega) _ _) (by simp;exact hsb.2.size) Keeps.nil ?_
     generalize wb.setCell ⟨w.heap.size+1,3,none⟩ (.string V)=wc at *
     clear hK K hnb hsb y3 yf HXb
     (try simp only[Act.put])
     refine wpFl_qL (v:=?_) rfl (Or.inl ⟨by rfl,?_⟩) ?_
     rotate_left
     focus(intro w' hSw;go_simp;(try with_reducible rfl);done)
     simp only[Act.put,zzA,zzB,zzC]
     refine wpFl_bS rfl (fun wd hnd hsd K hK=>?_)
     have HXd:=zh (HXc.out.below hnd)
     have y4:=cell_of_row wd _ 4 _ _ _ HXd.out.2.2
     have yf:∀ j,wd.frozen? ⟨w.heap.size+1,j,none⟩=false:=fun j=>by unfold World.frozen?;rw[HXd.out.2.2];simp
     go_simp
     have HXe:=zh (HXd.out.st4 L)
     refine hK.out _ _ (LowKept.set hsd (by omega) _ _) (by simp;exact hsd.2.size) Keeps.nil ?_
     generalize wd.setCell ⟨w.heap.size+1,4,none⟩ (.string L)=we at *
     clear hK K hnd hsd y4 yf HXd HXc HS9
     (try simp only[Act.put])
     refine wpFl_nil ?_
     refine NoPanic.normal ?_
     have HF:=zh (isFormed_any ⟨c,n,t,V,L⟩ we)
     simp only at HF
     obtain⟨W6,hW6⟩:∃ W6,W6=we.alloc (.cells #[.int .i64 c,.int .i64 n,.int .i64 t,.string V,.string L] 27):=⟨_,rfl⟩
     rw[← hW6]at HF
     have HX6:=zh (HXe.out.below (show Below we.heap.size we W6 by rw[hW6];exact br0.alloc (Nat.le_refl _) _))
     clear hW6 hV2 hL2
     obtain⟨e0,e1,e2,e3,e4⟩:=vcellsAt HXe.out.2.2
     obtain⟨z0,z1,z2,z3,z4⟩:=vcellsAt HX6.out.2.1
     obtain⟨f0,f1,f2,f3,f4⟩:=vcellsAt HX6.out.2.2
     have zf:∀ j,W6.frozen? ⟨w.heap.size,j,none⟩=false:=fun j=>by unfold World.frozen?;rw[HX6.out.2.1];simp
     cases hf:formedV ⟨c,n,t,V,L⟩with
     | false =>
      have HR:Hid (RES=none):=zh (hEX.out.trans (if_neg (by rw[hf];decide)))
      rw[hf]at HF
      clear hf hEX
      go_wp2_with (go_at_call 62;refine HF.out.mono ?_;rintro e w1 ⟨rfl,rfl⟩)
      refine bodyPost_ret (results_cellA_tmp rfl _ w.heap.size 27 #[.int .i64 0,.int .i64 0,.int .i64 0,.string ⟨#[]⟩,.string ⟨#[]⟩] (0,0) _ rfl (vfive_heap HX6.out.2.1 _ _ _ _ _) Tryz.underlying27 rfl infoVote) rfl ⟨?_,vfive_below HX6.out.1 (Nat.le_refl _) _ _ _ _ _⟩
      rw[HR.out]
      rfl
     | true =>
      have HR:Hid (RES=some ⟨c,n,t,V,L⟩):=zh (hEX.out.trans (if_pos hf))
      rw[hf]at HF
      clear hf hEX
      go_wp2_with (go_at_call 62;refine HF.out.mono ?_;rintro e w1 ⟨rfl,rfl⟩)
      refine bodyPost_ret (results_cellA_tmp rfl _ w.heap.size 27 #[.int .i64 c,.int .i64 n,.int .i64 t,.string V,.string L] (0,0) _ rfl (vfive_heap HX6.out.2.1 _ _ _ _ _) Tryz.underlying27 rfl infoVote) rfl ⟨?_,vfive_below HX6.out.1 (Nat.le_refl _) _ _ _ _ _⟩
      rw[HR.out]
      rfl
    ·have HR:Hid (RES=none):=zh (HT.out.trans (if_neg (fun h=>h5 h.2.1)))
     have h64':(s.size:Int) - (p:Int)=64:=by omega
     have h5':(a != 5)=true:=by simp[h5]
     clear HT
     go_wp2
     refine bodyPost_ret (results_cellA_tmp rfl _ w.heap.size 27 #[.int .i64 0,.int .i64 0,.int .i64 0,.string ⟨#[]⟩,.string ⟨#[]⟩] (0,0) _ rfl (vfive_heap hD.out.2.1 _ _ _ _ _) Tryz.underlying27 rfl infoVote) rfl ⟨?_,vfive_below hD.out.1 (Nat.le_refl _) _ _ _ _ _⟩
     rw[HR.out]
     rfl
   ·have HR:Hid (RES=none):=zh (HT.out.trans (if_neg (fun h=>h64 h.1)))
    have h64':((s.size:Int) - (p:Int) != 64)=true:=by simp;omega
    clear HT
    go_wp2
    refine bodyPost_ret (results_cellA_tmp rfl _ w.heap.size 27 #[.int .i64 0,.int .i64 0,.int .i64 0,.string ⟨#[]⟩,.string ⟨#[]⟩] (0,0) _ rfl (vfive_heap hD.out.2.1 _ _ _ _ _) Tryz.underlying27 rfl infoVote) rfl ⟨?_,vfive_below hD.out.1 (Nat.le_refl _) _ _ _ _ _⟩
    rw[HR.out]
    rfl
end Go.Proofs.YtggdcnjaofflbaaGreatDoor
/- The library's contracts laid at this program: strings.Compare, slices.Sort at strings, maps.Keys, slices.Sorted, slices.SortFunc at votes, cmp.Compare at int (written by the kit's tool). No condition. -/
namespace Go.Proofs
open Go.Shelf
def Tryz.qlays106_ren:Go.Shelf.Ren:=⟨fun | 106=>118 | 213=>150 | 265=>170 | n=>n,fun | 9=>9 | 3=>3 | n=>n,fun | n=>n⟩
theorem Tryz.qlays106:Go.Proofs.Lays.n106 Tryz.prog Tryz.qlays106_ren:={
 mixed:=by kernel_rfl
 f106:=Tryz.func118.trans (congrArg some (by kernel_rfl))
 f213:=Tryz.func150.trans (congrArg some (by kernel_rfl))
 f265:=Tryz.func170.trans (congrArg some (by kernel_rfl))
 t3:=Tryz.underlying3
 a3:=Tryz.isAgg3
 z3:=Tryz.sizeOf3
 v3:=Tryz.zeroValue3
 t9:=Tryz.underlying9
 a9:=Tryz.isAgg9
 z9:=Tryz.sizeOf9
 v9:=Tryz.zeroValue9 }
open Go.RowKit in
/-- strings.Compare: "Compare returns an integer comparing two strings lexicographically. The result will be 0 if a == b, -1 if a < b, and +1 if a > b.": IT RETURNS 'Lib.compareBytes a b'; the world is as it was. (LAID: no walk: one application.) -/
theorem Tryz.strings_Compare (a b:ByteArray)(w:World) :
  Calls Tryz.prog 118 #[.string a,.string b] w fun e w'=>e=.returned (.int .i64 (Lib.compareBytes a.data.toList b.data.toList))∧w'=w:=Any.strings_Compare Tryz.qlays106 a b w
def Tryz.qlays190_ren:Go.Shelf.Ren:=⟨fun | 190=>120 | 125=>153 | 258=>152 | 128=>180 | 129=>181 | 302=>171 | 303=>172 | 304=>173 | 305=>174 | 306=>175 | 307=>176 | 308=>177 | 309=>178 | 310=>179 | 333=>198 | 329=>199 | 330=>200 | 334=>201 | 335=>202 | 336=>203 | 344=>211 | n=>n,fun | 31=>29 | 9=>9 | 3=>3 | 46=>117 | 0=>0 | 51=>139 | 53=>144 | 4=>4 | 183=>208 | 182=>207 | 131=>213 | 5=>5 | 218=>232 | 222=>109 | 228=>244 | 229=>245 | n=>n,fun | n=>n⟩
theorem Tryz.qlays190:Go.Proofs.Lays.n190 Tryz.prog Tryz.qlays190_ren:={
 mixed:=by kernel_rfl
 f125:=Tryz.func153.trans (congrArg some (by kernel_rfl))
 f128:=Tryz.func180.trans (congrArg some (by kernel_rfl))
 f129:=Tryz.func181.trans (congrArg some (by kernel_rfl))
 f190:=Tryz.func120.trans (congrArg some (by kernel_rfl))
 f258:=Tryz.func152.trans (congrArg some (by kernel_rfl))
 f302:=Tryz.func171.trans (congrArg some (by kernel_rfl))
 f303:=Tryz.func172.trans (congrArg some (by kernel_rfl))
 f304:=Tryz.func173.trans (congrArg some (by kernel_rfl))
 f305:=Tryz.func174.trans (congrArg some (by kernel_rfl))
 f306:=Tryz.func175.trans (congrArg some (by kernel_rfl))
 f307:=Tryz.func176.trans (congrArg some (by kernel_rfl))
 f308:=Tryz.func177.trans (congrArg some (by kernel_rfl))
 f309:=Tryz.func178.trans (congrArg some (by kernel_rfl))
 f310:=Tryz.func179.trans (congrArg some (by kernel_rfl))
 f329:=Tryz.func199.trans (congrArg some (by kernel_rfl))
 f330:=Tryz.func200.trans (congrArg some (by kernel_rfl))
 f333:=Tryz.func198.trans (congrArg some (by kernel_rfl))
 f334:=Tryz.func201.trans (congrArg some (by kernel_rfl))
 f335:=Tryz.func202.trans (congrArg some (by kernel_rfl))
 f336:=Tryz.func203.trans (congrArg some (by kernel_rfl))
 f344:=Tryz.func211.trans (congrArg some (by kernel_rfl))
 t0:=Tryz.underlying0
 a0:=Tryz.isAgg0
 z0:=Tryz.sizeOf0
 v0:=Tryz.zeroValue0
 t3:=Tryz.underlying3
 a3:=Tryz.isAgg3
 z3:=Tryz.sizeOf3
 v3:=Tryz.zeroValue3
 t4:=Tryz.underlying4
 a4:=Tryz.isAgg4
 z4:=Tryz.sizeOf4
 v4:=Tryz.zeroValue4
 t5:=Tryz.underlying5
 a5:=Tryz.isAgg5
 z5:=Tryz.sizeOf5
 v5:=Tryz.zeroValue5
 t9:=Tryz.underlying9
 a9:=Tryz.isAgg9
 z9:=Tryz.sizeOf9
 v9:=Tryz.zeroValue9
 t31:=Tryz.underlying29
 a31:=Tryz.isAgg29
 z31:=Tryz.sizeOf29
 v31:=Tryz.zeroValue29
 t46:=Tryz.underlying117
 a46:=Tryz.isAgg117
 z46:=Tryz.sizeOf117
 v46:=Tryz.zeroValue117
 t51:=Tryz.underlying139
 a51:=Tryz.isAgg139
 z51:=Tryz.sizeOf139
 v51:=Tryz.zeroValue139
 t53:=Tryz.underlying144
 a53:=Tryz.isAgg144
 z53:=Tryz.sizeOf144
 v53:=Tryz.zeroValue144
 t131:=Tryz.underlying213
 a131:=Tryz.isAgg213
 z131:=Tryz.sizeOf213
 v131:=Tryz.zeroValue213
 t182:=Tryz.underlying207
 a182:=Tryz.isAgg207
 z182:=Tryz.sizeOf207
 v182:=Tryz.zeroValue207
 t183:=Tryz.underlying208
 a183:=Tryz.isAgg208
 z183:=Tryz.sizeOf208
 v183:=Tryz.zeroValue208
 t218:=Tryz.underlying232
 a218:=Tryz.isAgg232
 z218:=Tryz.sizeOf232
 v218:=Tryz.zeroValue232
 t222:=Tryz.underlying109
 a222:=Tryz.isAgg109
 z222:=Tryz.sizeOf109
 v222:=Tryz.zeroValue109
 t228:=Tryz.underlying244
 a228:=Tryz.isAgg244
 z228:=Tryz.sizeOf244
 v228:=Tryz.zeroValue244
 t229:=Tryz.underlying245
 a229:=Tryz.isAgg245
 z229:=Tryz.sizeOf245
 v229:=Tryz.zeroValue245 }
open Go.Sort Go.RowKit in
theorem Tryz.slices_Sort_string (blk off cap:Nat)(ss:List (List UInt8))(w:World)(hH:Holds encStr w blk off ss.toArray)(hblk:blk < w.heap.size)(hsz:ss.length < 4611686018427387904) :
  Calls Tryz.prog 120 #[.slice (some ⟨blk,off,none⟩) ss.length cap] w fun e w' =>
   e=.returned (.tuple #[])∧∃ n os,w'=grow (putRow encStr (Sort.ahead w n) blk off (ss.mergeSort fun x y=>decide (x≤y)).toArray) os:=Any.slices_Sort_string Tryz.qlays190 blk off cap ss w hH hblk hsz
open Go.RowKit Go.Sort in
/-- .. and plain. (LAID: no walk: one application.) -/
theorem Tryz.slices_Sort_string_none (p:Option Addr)(cap:Nat)(w:World) :
  Calls Tryz.prog 120 #[.slice p 0 cap] w fun e w'=>e=.returned (.tuple #[])∧w'=w:=Any.slices_Sort_string_none Tryz.qlays190 p cap w
def Tryz.keysA_ren:Go.Shelf.Ren:=⟨fun | 7=>83 | 10=>121 | n=>n,fun | 23=>118 | 26=>9 | 3=>117 | 28=>124 | 0=>0 | 27=>123 | 33=>136 | 4=>4 | n=>n,fun | n=>n⟩
theorem Tryz.keysA:Go.Proofs.SlLaysZ.n7 Tryz.prog Tryz.keysA_ren:={
 mixed:=by kernel_rfl
 f7:=⟨Tryz.f83.name,by decide,Tryz.func83.trans (congrArg some (by kernel_rfl))⟩
 f10:=⟨Tryz.f121.name,by decide,Tryz.func121.trans (congrArg some (by kernel_rfl))⟩
 t0:=Tryz.underlying0
 a0:=Tryz.isAgg0
 z0:=Tryz.sizeOf0
 v0:=Tryz.zeroValue0
 t4:=Tryz.underlying4
 a4:=Tryz.isAgg4
 z4:=Tryz.sizeOf4
 v4:=Tryz.zeroValue4
 t23:=Tryz.underlying118
 a23:=Tryz.isAgg118
 z23:=Tryz.sizeOf118
 v23:=Tryz.zeroValue118
 t26:=Tryz.underlying9
 a26:=Tryz.isAgg9
 z26:=Tryz.sizeOf9
 v26:=Tryz.zeroValue9
 t27:=Tryz.underlying123
 a27:=Tryz.isAgg123
 z27:=Tryz.sizeOf123
 v27:=Tryz.zeroValue123
 t28:=Tryz.underlying124
 a28:=Tryz.isAgg124
 z28:=Tryz.sizeOf124
 v28:=Tryz.zeroValue124
 t33:=Tryz.underlying136
 a33:=Tryz.isAgg136
 z33:=Tryz.sizeOf136
 v33:=Tryz.zeroValue136 }
def Tryz.sortedA_ren:Go.Shelf.Ren:=⟨fun | 6=>82 | 8=>119 | 9=>120 | 11=>151 | 13=>153 | 12=>152 | 23=>180 | 24=>181 | 14=>171 | 15=>172 | 16=>173 | 17=>174 | 18=>175 | 19=>176 | 20=>177 | 21=>178 | 22=>179 | 25=>198 | 26=>199 | 27=>200 | 28=>201 | 29=>202 | 30=>203 | 31=>211 | n=>n,fun | 26=>9 | 28=>124 | 24=>29 | 0=>0 | 3=>3 | 37=>117 | 48=>139 | 50=>144 | 4=>4 | 40=>208 | 39=>207 | 45=>213 | 5=>5 | 9=>9 | 51=>232 | 55=>109 | 57=>244 | 58=>245 | 33=>136 | n=>n,fun | n=>n⟩
theorem Tryz.sortedA:Go.Proofs.SlLaysZ.n6 Tryz.prog Tryz.sortedA_ren:={
 mixed:=by kernel_rfl
 f6:=⟨Tryz.f82.name,by decide,Tryz.func82.trans (congrArg some (by kernel_rfl))⟩
 f8:=⟨Tryz.f119.name,by decide,Tryz.func119.trans (congrArg some (by kernel_rfl))⟩
 f11:=⟨Tryz.f151.name,by decide,Tryz.func151.trans (congrArg some (by kernel_rfl))⟩
 t0:=Tryz.underlying0
 a0:=Tryz.isAgg0
 z0:=Tryz.sizeOf0
 v0:=Tryz.zeroValue0
 t24:=Tryz.underlying29
 a24:=Tryz.isAgg29
 z24:=Tryz.sizeOf29
 v24:=Tryz.zeroValue29
 t26:=Tryz.underlying9
 a26:=Tryz.isAgg9
 z26:=Tryz.sizeOf9
 v26:=Tryz.zeroValue9
 t28:=Tryz.underlying124
 a28:=Tryz.isAgg124
 z28:=Tryz.sizeOf124
 v28:=Tryz.zeroValue124
 i26:=by kernel_rfl }
def Tryz.sortF_ren:Go.Shelf.Ren:=⟨fun | 6=>148 | 15=>153 | 14=>169 | 28=>180 | 29=>181 | 20=>190 | 21=>191 | 22=>192 | 23=>193 | 24=>194 | 25=>195 | 26=>196 | 27=>197 | 46=>208 | 47=>199 | 48=>200 | 49=>209 | 50=>210 | 57=>214 | n=>n,fun | 22=>35 | 24=>27 | 25=>154 | 3=>3 | 39=>117 | 0=>0 | 53=>139 | 55=>144 | 4=>4 | 46=>208 | 45=>207 | 50=>213 | 5=>5 | 9=>9 | 66=>232 | 70=>109 | 76=>244 | 77=>245 | n=>n,fun | n=>n⟩
theorem Tryz.sortF:Go.Proofs.SlLaysF0.n6 Tryz.prog Tryz.sortF_ren:={
 mixed:=by kernel_rfl
 f6:=⟨Tryz.f148.name,by decide,Tryz.func148.trans (congrArg some (by kernel_rfl))⟩
 f14:=⟨Tryz.f169.name,by decide,Tryz.func169.trans (congrArg some (by kernel_rfl))⟩
 f15:=Tryz.func153.trans (congrArg some (by kernel_rfl))
 f20:=⟨Tryz.f190.name,by decide,Tryz.func190.trans (congrArg some (by kernel_rfl))⟩
 f21:=⟨Tryz.f191.name,by decide,Tryz.func191.trans (congrArg some (by kernel_rfl))⟩
 f22:=⟨Tryz.f192.name,by decide,Tryz.func192.trans (congrArg some (by kernel_rfl))⟩
 f23:=⟨Tryz.f193.name,by decide,Tryz.func193.trans (congrArg some (by kernel_rfl))⟩
 f24:=⟨Tryz.f194.name,by decide,Tryz.func194.trans (congrArg some (by kernel_rfl))⟩
 f25:=⟨Tryz.f195.name,by decide,Tryz.func195.trans (congrArg some (by kernel_rfl))⟩
 f26:=⟨Tryz.f196.name,by decide,Tryz.func196.trans (congrArg some (by kernel_rfl))⟩
 f27:=⟨Tryz.f197.name,by decide,Tryz.func197.trans (congrArg some (by kernel_rfl))⟩
 f28:=Tryz.func180.trans (congrArg some (by kernel_rfl))
 f29:=Tryz.func181.trans (congrArg some (by kernel_rfl))
 f46:=⟨Tryz.f208.name,by decide,Tryz.func208.trans (congrArg some (by kernel_rfl))⟩
 f47:=Tryz.func199.trans (congrArg some (by kernel_rfl))
 f48:=Tryz.func200.trans (congrArg some (by kernel_rfl))
 f49:=⟨Tryz.f209.name,by decide,Tryz.func209.trans (congrArg some (by kernel_rfl))⟩
 f50:=⟨Tryz.f210.name,by decide,Tryz.func210.trans (congrArg some (by kernel_rfl))⟩
 f57:=⟨Tryz.f214.name,by decide,Tryz.func214.trans (congrArg some (by kernel_rfl))⟩
 t0:=Tryz.underlying0
 a0:=Tryz.isAgg0
 z0:=Tryz.sizeOf0
 v0:=Tryz.zeroValue0
 t3:=Tryz.underlying3
 a3:=Tryz.isAgg3
 z3:=Tryz.sizeOf3
 v3:=Tryz.zeroValue3
 t4:=Tryz.underlying4
 a4:=Tryz.isAgg4
 z4:=Tryz.sizeOf4
 v4:=Tryz.zeroValue4
 t5:=Tryz.underlying5
 a5:=Tryz.isAgg5
 z5:=Tryz.sizeOf5
 v5:=Tryz.zeroValue5
 t9:=Tryz.underlying9
 a9:=Tryz.isAgg9
 z9:=Tryz.sizeOf9
 v9:=Tryz.zeroValue9
 t22:=Tryz.underlying35
 a22:=Tryz.isAgg35
 z22:=Tryz.sizeOf35
 v22:=Tryz.zeroValue35
 t25:=Tryz.underlying154
 a25:=Tryz.isAgg154
 z25:=Tryz.sizeOf154
 v25:=Tryz.zeroValue154
 t39:=Tryz.underlying117
 a39:=Tryz.isAgg117
 z39:=Tryz.sizeOf117
 v39:=Tryz.zeroValue117
 t45:=Tryz.underlying207
 a45:=Tryz.isAgg207
 z45:=Tryz.sizeOf207
 v45:=Tryz.zeroValue207
 t46:=Tryz.underlying208
 a46:=Tryz.isAgg208
 z46:=Tryz.sizeOf208
 v46:=Tryz.zeroValue208
 t50:=Tryz.underlying213
 a50:=Tryz.isAgg213
 z50:=Tryz.sizeOf213
 v50:=Tryz.zeroValue213
 t53:=Tryz.underlying139
 a53:=Tryz.isAgg139
 z53:=Tryz.sizeOf139
 v53:=Tryz.zeroValue139
 t55:=Tryz.underlying144
 a55:=Tryz.isAgg144
 z55:=Tryz.sizeOf144
 v55:=Tryz.zeroValue144
 t66:=Tryz.underlying232
 a66:=Tryz.isAgg232
 z66:=Tryz.sizeOf232
 v66:=Tryz.zeroValue232
 t70:=Tryz.underlying109
 a70:=Tryz.isAgg109
 z70:=Tryz.sizeOf109
 v70:=Tryz.zeroValue109
 t76:=Tryz.underlying244
 a76:=Tryz.isAgg244
 z76:=Tryz.sizeOf244
 v76:=Tryz.zeroValue244
 t77:=Tryz.underlying245
 a77:=Tryz.isAgg245
 z77:=Tryz.sizeOf245
 v77:=Tryz.zeroValue245 }
def Tryz.cmpC_ren:Go.Shelf.Ren:=⟨fun | 5=>117 | 7=>149 | n=>n,fun | 22=>3 | 3=>3 | 4=>4 | n=>n,fun | n=>n⟩
theorem Tryz.cmpC:Go.Proofs.SlLaysC2.n5 Tryz.prog Tryz.cmpC_ren:={
 mixed:=by kernel_rfl
 f5:=⟨Tryz.f117.name,by decide,Tryz.func117.trans (congrArg some (by kernel_rfl))⟩
 f7:=⟨Tryz.f149.name,by decide,Tryz.func149.trans (congrArg some (by kernel_rfl))⟩
 t3:=Tryz.underlying3
 a3:=Tryz.isAgg3
 z3:=Tryz.sizeOf3
 v3:=Tryz.zeroValue3
 t4:=Tryz.underlying4
 a4:=Tryz.isAgg4
 z4:=Tryz.sizeOf4
 v4:=Tryz.zeroValue4
 t22:=Tryz.underlying3
 a22:=Tryz.isAgg3
 z22:=Tryz.sizeOf3
 v22:=Tryz.zeroValue3 }
end Go.Proofs
/- The keys of the map of votes, sorted. The conditions: what the map reads as. -/
namespace Go.Proofs.YtggdcnjaofflbaaGreatDoor
open Go.RowKit Go.BigFrame Go.Shelf Go.Sort Go.Maps
theorem sortsU (m:Nat):AnyZ.SortsIn Tryz.prog Tryz.sortedA_ren Fence.wide m :=
 ⟨fun blk off cap ss W hH hblk hsz=>callsIn_wide.2 (Tryz.slices_Sort_string blk off cap ss W hH hblk hsz),
  fun p cap W=>callsIn_wide.2 (Tryz.slices_Sort_string_none p cap W)⟩
theorem keysU_any (mb:Option Nat)(w:World):Calls Tryz.prog 83 #[.map mb] w fun e w'=>e=.returned (.func (.func 121) #[] #[.pointer (some ⟨w.heap.size,0,none⟩)])∧w'=w.alloc (.cells #[.map mb] 118) :=
 (callsIn_wide (n:=6)).1 (AnyZ.keys_in Tryz.keysA Fence.wide 6 trivial rfl mb w)
def valL (ks:List ByteArray)(num stp:Int)(l:List VoteP):List (List UInt8):=(valsV ks num stp l).map fun s=>s.data.toList
theorem valL_sorted (ks:List ByteArray)(num stp:Int)(l:List VoteP):(valL ks num stp l).Pairwise (· < ·):=by
 unfold valL
 rw[List.pairwise_map]
 exact(valsV_ok ks num stp l).imp (fun h=>by rw[ByteArray.toList_eq,ByteArray.toList_eq]at h;exact h)
theorem mask_zero {ks:List ByteArray}(hk:ks.length≤8)(num stp:Int)(val:ByteArray)(l:List VoteP):maskV ks num stp val l 0≠0 ↔ val∈valsV ks num stp l:=by
 have h:=mask_who hk num stp val l
 have hlt:=mask_lt ks num stp val l 0 (by decide)
 rw[valsV_mem]
 generalize maskV ks num stp val l 0=M at *
 rw[← h]
 constructor
 ·intro hm
  obtain⟨i,_,h2,_⟩:=bits_drop M hlt hm
  exact⟨i,by rw[h2];simp⟩
 ·rintro⟨i,hi⟩ e
  rw[e,bits_zero]at hi
  cases hi
theorem valL_perm {w:World}{B n:Nat}{D:DW}{ks:List ByteArray}(hk:ks.length≤8){num stp:Int}{l:List VoteP}(hm:MapU w B n D)(hr:ReadsU D (fun s=>maskV ks num stp s l 0)):(valL ks num stp l).Perm (strKeys D):=by
 obtain⟨es,hD,hp,_⟩:=World.ownsMap.entries hm lawU
 obtain⟨es',hD',hk'⟩:=World.ownsMap.keysOf hm
 obtain rfl:es=es':=by rw[hD]at hD';simpa using hD'
 subst hD
 refine perm_strKeys hp (fun p hp'=>?_) (show List.Pairwise (·≠·) _ from(valL_sorted ks num stp l).imp (fun {a b} (h:a < b)=>fun(e:a=b)=>List.lt_irrefl b (by rw[e]at h;exact h))) (fun x=>?_)
 ·obtain⟨v,hv⟩:=hk' p hp'
  obtain⟨x,_,hx,_⟩:=Maps.keyOf_str Tryz.underlying9 hv
  exact⟨x,hx⟩
 ·have h1:=(hr.2 ⟨x.toArray⟩).1
  have e:keyL ⟨x.toArray⟩=.string x:=by unfold keyL;simp
  rw[e]at h1
  rw[h1,decide_eq_true_iff,mask_zero hk]
  unfold valL
  rw[List.mem_map]
  constructor
  ·rintro⟨s,hs,rfl⟩
   simpa using hs
  ·intro hs
   exact⟨_,hs,by simp⟩
theorem valL_mergeSort {w:World}{B n:Nat}{D:DW}{ks:List ByteArray}(hk:ks.length≤8){num stp:Int}{l:List VoteP}{ss:List (List UInt8)}(hm:MapU w B n D)(hr:ReadsU D (fun s=>maskV ks num stp s l 0))(hs:ss.Perm (strKeys D)):ss.mergeSort (fun x y=>decide (x≤y))=valL ks num stp l :=
 (mergeSort_of_perm (hs.trans (valL_perm hk hm hr).symm)).trans (List.mergeSort_of_pairwise ((valL_sorted ks num stp l).imp (fun h=>decide_eq_true (List.le_of_lt h))))
theorem insB_len (x:ByteArray):∀ L:List ByteArray,(insB x L).length≤L.length+1
 | []=>Nat.le_refl _
 | y::L=>by
  unfold insB
  have:=insB_len x L
  split
  ·simp only[List.length_cons]
   omega
  ·split
   ·simp
   ·simp
theorem insBs_len:∀(xs L:List ByteArray),(insBs L xs).length≤L.length+xs.length
 | [],L=>by simp[insBs]
 | x::xs,L=>by
  unfold insBs
  have h1:=insBs_len xs (insB x L)
  have h2:=insB_len x L
  simp only[List.length_cons]
  omega
theorem valsV_len (ks:List ByteArray)(num stp:Int)(l:List VoteP):(valsV ks num stp l).length≤l.length:=by
 unfold valsV
 refine Nat.le_trans (insBs_len _ _) ?_
 rw[List.length_nil,Nat.zero_add,List.length_map]
 exact List.length_filter_le _ _
theorem size_strKeys:∀ D:DW,Maps.IsMap D→Maps.size D=(strKeys D).length
 | .map es,_=>by simp[Maps.size,strKeys]
theorem sortedU_any {w:World}{Bm B n:Nat}{D:DW}{ks:List ByteArray}(hk:ks.length≤8){num stp:Int}{l:List VoteP}(hm:w.cell? ⟨Bm,0,none⟩=some (.map (some B)))(hb:Bm < w.heap.size)(hown:MapU w B n D)(hn:l.length≤1000000000)(hr:ReadsU D (fun s=>maskV ks num stp s l 0)) :
  Calls Tryz.prog 82 #[.func (.func 121) #[] #[.pointer (some ⟨Bm,0,none⟩)]] w fun e w'=>∃ v,e=.returned v∧OwnS w' w.heap.size v (valsV ks num stp l)∧Below w.heap.size w w':=by
 have hsz:Maps.size D≤1000000000:=by
  rw[size_strKeys D hr.1,← (valL_perm hk hown hr).length_eq]
  unfold valL
  rw[List.length_map]
  exact Nat.le_trans (valsV_len _ _ _ _) hn
 have hseq:SeqGives Fence.wide 3 Tryz.prog 121 #[.pointer (some ⟨Bm,0,none⟩)] encStr (fun ss=>ss.Perm (strKeys D)) (Maps.size D) w :=
  AnyZ.keys_gives (ρ:=Tryz.keysA_ren) { Tryz.keysA with } Fence.wide _ trivial rfl (by omega) Bm B n D _ hb hm hown
 have cS:=AnyZ.sorted_in Tryz.sortedA Fence.wide 6 trivial trivial trivial trivial rfl (by omega) (sortsU _) (enters_of Tryz.func120 (by kernel_rfl) rfl) 121 #[.pointer (some ⟨Bm,0,none⟩)] trivial (enters_of Tryz.func121 (by kernel_rfl) rfl) _ _ (by unfold maxLen;omega) (by omega) w hseq
 refine((callsIn_wide (n:=6)).1 cS).mono ?_
 rintro e w' ⟨v,ss,rfl,hS,hrow,_,hb'⟩
 refine⟨v,rfl,?_,hb'⟩
 have e1:=valL_mergeSort hk hown hr hS
 have e2:ss.length=(valsV ks num stp l).length:=by
  have:=congrArg List.length e1
  rw[List.length_mergeSort]at this
  rw[this]
  unfold valL
  rw[List.length_map]
 rw[e1,e2]at hrow
 unfold OwnS OwnE scells
 rw[List.length_map]
 have e3:((valsV ks num stp l).map fun s=>[Value.string s]).flatten=(valL ks num stp l).map encStr:=by
  unfold valL
  induction valsV ks num stp l with
  | nil=>rfl
  | cons a l ih=>rw[List.map_cons,List.flatten_cons,ih];rfl
 rw[e3]
 exact hrow
theorem orL_drop (l:List Int):∀(k:Nat),k≤l.length→(∀ j q,j < k→l[j]?=some q→q=0)→orL l=orL (l.drop k)
 | 0,_,_=>rfl
 | k+1,hk,h=>by
  rw[orL_drop l k (by omega) (fun j q hj hq=>h j q (by omega) hq)]
  obtain⟨x,hx⟩:∃ x,l[k]?=some x:=⟨_,List.getElem?_eq_getElem (by omega)⟩
  rw[drop_get hx,h k x (by omega) hx]
  rfl
set_option maxHeartbeats 1000000 in
theorem or_any {w:World}{v:Value}{l:List Int}(hi:SliceAt w v 1 (icells l)) :
  Calls Tryz.prog 116 #[v] w fun e w'=>e=.returned (.int .i64 (orL l))∧w'=w:=by
 obtain⟨a,cap,rfl,l1,l2,l3⟩:=hi
 have hlen:(icells l).length=l.length:=by unfold icells;rw[List.length_map]
 rw[hlen]at l1
 rw[hlen]
 have H3:Hid (∀ k x,l[k]?=some x→∃ b off,a=some ⟨b,off,none⟩∧w.cell? ⟨b,off+k,none⟩=some (.int .i64 x)):=zh (fun k x hx=>by
  rcases l3 with l3 | ⟨b,off,ha,_,hc⟩
  ·unfold icells at l3
   rw[List.map_eq_nil_iff]at l3
   subst l3
   cases hx
  ·refine⟨b,off,ha,?_⟩
   have hk:(icells l)[k]?=some [.int .i64 x]:=by unfold icells;rw[List.getElem?_map,hx];rfl
   have:=hc k _ hk 0 _ rfl
   simpa using this)
 clear l3 hlen
 unfold maxLen at l2
 obtain⟨m,hm⟩:∃ m,m=l.length:=⟨_,rfl⟩
 rw[← hm]at l1 ⊢
 have HM:=zh hm
 clear hm
 go_enter Tryz.func116,Tryz.ntmps116
 go_wp2
 go_loop [5,8] (fun _ i=>∃ k:Nat,k≤m∧i=.int .i64 k∧Hid (∀ j q,j < k→l[j]?=some q→q=0)) (fun _ i=>m - (intOf i).toNat)
 case atStart=>exact⟨0,by omega,rfl,(by intro j q hj;omega)⟩
 case round =>
  obtain⟨k,hk,rfl,hall⟩:=hrel
  by_cases hlt:k < m
  ·obtain⟨q,eq⟩:∃ q,l[k]?=some q:=⟨_,List.getElem?_eq_getElem (by rw[← HM.out];exact hlt)⟩
   obtain⟨b,off,rfl,c1⟩:=H3.out k q eq
   have EQ:=zh eq
   clear eq
   by_cases hp:q=0
   ·have HP:=zh hp
    have hp':(q != 0)=false:=by simp[hp]
    clear hp
    go_wp2
    go_round
    case rel =>
     refine⟨k+1,by omega,by go_num,?_⟩
     intro j q' hj hq
     by_cases hjk:j=k
     ·subst hjk;rw[EQ.out]at hq;cases hq;exact HP.out
     ·exact hall.out j q' (by omega) hq
    case measure=>simp[intOf];omega
   ·have HP:=zh hp
    have hp':(q != 0)=true:=by simp[hp]
    clear hp
    go_wp2
    go_ret
    refine⟨ret_int ?_,rfl⟩
    rw[orL_drop l k (by rw[← HM.out];omega) hall.out,drop_get EQ.out,orL,if_neg HP.out]
  ·go_wp2
   go_ret
   refine⟨ret_int ?_,rfl⟩
   rw[orL_drop l k (by rw[← HM.out];omega) hall.out,List.drop_eq_nil_of_le (by rw[← HM.out];omega),orL]
open Go.RowKit Go.BigFrame Go.Sort
theorem row5 (w:World)(b:Nat)(c0 c1 c2 c3 c4:Int)(h:w.heap[b]?=some (.cells #[.int .i64 c0,.int .i64 c1,.int .i64 c2,.int .i64 c3,.int .i64 c4] 3 (0,0))):SliceAt w (.slice (some ⟨b,0,none⟩) 5 5) 1 (icells [c0,c1,c2,c3,c4]):=by
 refine⟨_,5,rfl,Nat.le_refl _,by decide,.inr ⟨b,0,rfl,(ltA h),fun i cs hi j u hj=>?_⟩⟩
 have hc:∀ k x,([.int .i64 c0,.int .i64 c1,.int .i64 c2,.int .i64 c3,.int .i64 c4]:List Value)[k]?=some x→w.cell? ⟨b,k,none⟩=some x:=fun k x hx=>by
  rw[cell_of_row w _ k _ _ _ h,List.getElem?_toArray]
  exact hx
 match i,hi with
 | 0,hi =>
  cases hi
  match j,hj with
  | 0,hj=>cases hj;exact hc 0 _ rfl
 | 1,hi =>
  cases hi
  match j,hj with
  | 0,hj=>cases hj;exact hc 1 _ rfl
 | 2,hi =>
  cases hi
  match j,hj with
  | 0,hj=>cases hj;exact hc 2 _ rfl
 | 3,hi =>
  cases hi
  match j,hj with
  | 0,hj=>cases hj;exact hc 3 _ rfl
 | 4,hi =>
  cases hi
  match j,hj with
  | 0,hj=>cases hj;exact hc 4 _ rfl
theorem cmpC_any (x y:Int)(w:World):Calls Tryz.prog 117 #[.int .i64 x,.int .i64 y] w fun e w'=>e=.returned (.int .i64 (Lib.compareInt x y))∧w'=w:=AnyG.cmp_Compare_int Tryz.cmpC x y w
theorem cmpS_any (a b:ByteArray)(w:World):Calls Tryz.prog 118 #[.string a,.string b] w fun e w'=>e=.returned (.int .i64 (Lib.compareBytes a.toList b.toList))∧w'=w:=by
 rw[ByteArray.toList_eq,ByteArray.toList_eq]
 exact Tryz.strings_Compare a b w
set_option maxHeartbeats 4000000 in
set_option maxRecDepth 100000 in
theorem cmpfn_any (u v:VoteP)(w:World):Calls Tryz.prog 115 #[.agg #[.int .i64 u.car,.int .i64 u.num,.int .i64 u.stp,.string u.val,.string u.sl],.agg #[.int .i64 v.car,.int .i64 v.num,.int .i64 v.stp,.string v.val,.string v.sl]] w fun e w'=>e=.returned (.int .i64 (cmpV u v))∧∃ q os,w'=grow (w.drewN q) os:=by
 obtain⟨W2,hW2⟩:∃ W2,W2=(w.alloc (.cells #[.int .i64 u.car,.int .i64 u.num,.int .i64 u.stp,.string u.val,.string u.sl] 27)).alloc (.cells #[.int .i64 v.car,.int .i64 v.num,.int .i64 v.stp,.string v.val,.string v.sl] 27):=⟨_,rfl⟩
 obtain⟨a0,a1,a2,a3,a4⟩:=vcellsAt (show W2.heap[w.heap.size]?=some (.cells #[.int .i64 u.car,.int .i64 u.num,.int .i64 u.stp,.string u.val,.string u.sl] 27 (0,0)) by rw[hW2];exact at_past w _ _)
 obtain⟨b0,b1,b2,b3,b4⟩:=vcellsAt (show W2.heap[w.heap.size+1]?=some (.cells #[.int .i64 v.car,.int .i64 v.num,.int .i64 v.stp,.string v.val,.string v.sl] 27 (0,0)) by rw[hW2];exact at_second w _ _)
 have HR:Hid (cmpV u v=orL [Lib.compareInt u.car v.car,Lib.compareInt u.num v.num,Lib.compareInt u.stp v.stp,Lib.compareBytes u.val.toList v.val.toList,Lib.compareBytes u.sl.toList v.sl.toList]):=zh rfl
 have HW2:=zh hW2
 have H1:=zh (fun W=>cmpC_any u.car v.car W)
 have H2:=zh (fun W=>cmpC_any u.num v.num W)
 have H3:=zh (fun W=>cmpC_any u.stp v.stp W)
 have H4:=zh (fun W=>cmpS_any u.val v.val W)
 have H5:=zh (fun W=>cmpS_any u.sl v.sl W)
 generalize cmpV u v=R at *
 generalize Lib.compareInt u.car v.car=r1 at *
 generalize Lib.compareInt u.num v.num=r2 at *
 generalize Lib.compareInt u.stp v.stp=r3 at *
 generalize Lib.compareBytes u.val.toList v.val.toList=r4 at *
 generalize Lib.compareBytes u.sl.toList v.sl.toList=r5 at *
 clear hW2
 obtain⟨uc,un,us,uv,ul⟩:=u
 obtain⟨vc,vn,vs,vv,vl⟩:=v
 simp only at a0 a1 a2 a3 a4 b0 b1 b2 b3 b4 H1 H2 H3 H4 H5 HW2
 go_enter Tryz.func115,Tryz.ntmps115
 go_upto_region 1 with fail
 rw[← HW2.out]
 refine wp_region_quiet_tail 29 (fun w'=>∃ q,w'=W2.drewN q) (by kernel_rfl) (by kernel_rfl) ⟨1,rfl⟩ ?_
 simp only[List.take_succ_cons,List.take_zero,List.drop_succ_cons,List.drop_zero]
 repeat (go_big_quiet_step (first | ((with_reducible refine(H1.out _).mono ?_);rintro e w1 ⟨rfl,rfl⟩;exact⟨rfl,_,rfl⟩) | ((with_reducible refine(H2.out _).mono ?_);rintro e w1 ⟨rfl,rfl⟩;exact⟨rfl,_,rfl⟩) | ((with_reducible refine(H3.out _).mono ?_);rintro e w1 ⟨rfl,rfl⟩;exact⟨rfl,_,rfl⟩) | ((with_reducible refine(H4.out _).mono ?_);rintro e w1 ⟨rfl,rfl⟩;exact⟨rfl,_,rfl⟩) | ((with_reducible refine(H5.out _).mono ?_);rintro e w1 ⟨rfl,rfl⟩;exact⟨rfl,_,rfl⟩)))
 refine wpQuiet_nil ?_
 rintro _ ⟨nq,rfl⟩
 clear a0 a1 a2 a3 a4 b0 b1 b2 b3 b4 H1 H2 H3 H4 H5
 have HO:=zh (or_any (row5 ((W2.drewN nq).alloc (.cells #[.int .i64 r1,.int .i64 r2,.int .i64 r3,.int .i64 r4,.int .i64 r5] 3)) (W2.drewN nq).heap.size r1 r2 r3 r4 r5 (heap_alloc_new _ _)))
 rw[← HR.out]at HO
 go_wp2_with (go_at_call 116;refine HO.out.mono ?_;rintro e w3 ⟨rfl,rfl⟩)
 go_ret
 refine⟨rfl,nq,#[.cells #[.int .i64 uc,.int .i64 un,.int .i64 us,.string uv,.string ul] 27,.cells #[.int .i64 vc,.int .i64 vn,.int .i64 vs,.string vv,.string vl] 27,.cells #[.int .i64 r1,.int .i64 r2,.int .i64 r3,.int .i64 r4,.int .i64 r5] 3],?_⟩
 rw[HW2.out]
 rw[alloc_eq_grow,alloc_eq_grow,alloc_eq_grow]
 show grow (grow (grow (w.drewN nq) _) _) _=_
 rw[grow_grow,grow_grow]
 rfl
end Go.Proofs.YtggdcnjaofflbaaGreatDoor
