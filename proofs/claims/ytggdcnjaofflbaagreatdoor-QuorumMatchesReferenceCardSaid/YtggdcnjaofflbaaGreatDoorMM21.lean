/- Walk of package quorum: Decode. The condition: the length of the string. -/
import Derived.Test.YtggdcnjaofflbaaGreatDoorMM20
namespace Go.Proofs.YtggdcnjaofflbaaGreatDoor
open Go.RowKit Go.BigFrame
def dec (i:Nat)(a c n t:Int)(l:List UInt8):Option VoteP:=match i with
 | 0=>decodeL l
 | 1=>match intL 9 0 0 l with
  | none=>none
  | some (c,k2)=>match intL 9 0 0 (l.drop k2)with
   | none=>none
   | some (num,k3)=>match intL 9 0 0 ((l.drop k2).drop k3)with
    | none=>none
    | some (stp,k4)=>voteTail a c num stp (((l.drop k2).drop k3).drop k4)
 | 2=>match intL 9 0 0 l with
  | none=>none
  | some (num,k3)=>match intL 9 0 0 (l.drop k3)with
   | none=>none
   | some (stp,k4)=>voteTail a c num stp ((l.drop k3).drop k4)
 | 3=>match intL 9 0 0 l with
  | none=>none
  | some (stp,k4)=>voteTail a c n stp (l.drop k4)
 | _=>voteTail a c n t l
theorem dec_none {i:Nat}(hi:i < 4)(a c n t:Int){l:List UInt8}(h:intL 9 0 0 l=none):dec i a c n t l=none:=by
 match i,hi with
 | 0,_=>unfold dec decodeL;simp only[h]
 | 1,_=>unfold dec;simp only[h]
 | 2,_=>unfold dec;simp only[h]
 | 3,_=>unfold dec;simp only[h]
theorem dec_some {i:Nat}(hi:i < 4)(a c n t:Int){l:List UInt8}{x:Int}{k:Nat}(h:intL 9 0 0 l=some (x,k)) :
  dec i a c n t l=dec (i+1) (if i=0 then x else a) (if i=1 then x else c) (if i=2 then x else n) (if i=3 then x else t) (l.drop k):=by
 match i,hi with
 | 0,_=>show decodeL l=_;unfold decodeL dec;simp only[h];rfl
 | 1,_=>show(match intL 9 0 0 l with | none=>none | some (c,k2)=>_)=_;simp only[h];rfl
 | 2,_=>show(match intL 9 0 0 l with | none=>none | some (c,k2)=>_)=_;simp only[h];rfl
 | 3,_=>show(match intL 9 0 0 l with | none=>none | some (c,k2)=>_)=_;simp only[h];rfl
theorem intL_len {l:List UInt8}{x:Int}{k:Nat}(h:intL 9 0 0 l=some (x,k)):k≤l.length:=by
 obtain⟨m,rest,_,_,h3,h4,_⟩:=intL_is 9 0 0 l x k h
 rw[h3,h4,List.length_append]
 omega
theorem bytes_take (s:ByteArray)(a b:Nat):bytesOf (((s.data.toList).drop a).take b)=s.extract a (a+b):=by
 refine ByteArray.ext ?_
 unfold bytesOf
 rw[ByteArray.data_extract]
 refine Array.ext' ?_
 rw[Array.toList_extract,List.extract]
 simp
theorem bytes_drop (s:ByteArray)(a:Nat):bytesOf ((s.data.toList).drop a)=s.extract a s.size:=by
 refine ByteArray.ext ?_
 unfold bytesOf
 rw[ByteArray.data_extract]
 refine Array.ext' ?_
 rw[Array.toList_extract,List.extract,List.take_of_length_le (by rw[List.length_drop];exact Nat.le_refl _)]
theorem tail_is (s:ByteArray)(at1:Nat)(a c n t:Int):dec 4 a c n t (s.data.toList.drop at1)=if s.size - at1=64∧a=5∧formedV ⟨c,n,t,s.extract at1 (at1+32),s.extract (at1+32) s.size⟩=true then some ⟨c,n,t,s.extract at1 (at1+32),s.extract (at1+32) s.size⟩else none:=by
 show voteTail a c n t _=_
 unfold voteTail
 have e:(s.data.toList.drop at1).length=s.size - at1:=by rw[List.length_drop];rfl
 rw[e,bytes_take,List.drop_drop,bytes_drop]
def DecAt (w:World)(a c n t:Int)(W:World):Prop:=Below w.heap.size w W∧W.heap[w.heap.size]?=some (.cells #[.int .i64 0,.int .i64 0,.int .i64 0,.string ⟨#[]⟩,.string ⟨#[]⟩] 27 (0,0))∧W.heap[w.heap.size+1]?=some (.cells #[.int .i64 c,.int .i64 n,.int .i64 t,.string ⟨#[]⟩,.string ⟨#[]⟩] 27 (0,0))
 ∧ W.heap[w.heap.size+1+1]?=some (.cells #[.int .i64 a] 3 (0,0))∧W.heap[w.heap.size+1+1+1]?=some (.cells #[.pointer (some ⟨w.heap.size+1+1,0,none⟩),.pointer (some ⟨w.heap.size+1,0,none⟩),.pointer (some ⟨w.heap.size+1,1,none⟩),.pointer (some ⟨w.heap.size+1,2,none⟩)] 109 (0,0))
theorem heap_alloc_old (w:World)(o:Obj)(k:Nat)(h:k < w.heap.size):(w.alloc o).heap[k]?=w.heap[k]?:=by
 simp only[World.alloc,Array.getElem?_push,Nat.ne_of_lt h,if_false]
theorem at_past' (w:World)(o o':Obj):((w.alloc o).alloc o').heap[w.heap.size+1]?=some o':=by
 have h:=heap_alloc_new (w.alloc o) o'
 rwa [show(w.alloc o).heap.size=w.heap.size+1 by simp]at h
theorem at_past'' (w:World)(o o' o'':Obj):(((w.alloc o).alloc o').alloc o'').heap[w.heap.size+1+1]?=some o'':=by
 have h:=heap_alloc_new ((w.alloc o).alloc o') o''
 rwa [show((w.alloc o).alloc o').heap.size=w.heap.size+1+1 by simp]at h
theorem at_past3 (w:World)(o o' o'' o3:Obj):((((w.alloc o).alloc o').alloc o'').alloc o3).heap[w.heap.size+1+1+1]?=some o3:=by
 have h:=heap_alloc_new (((w.alloc o).alloc o').alloc o'') o3
 rwa [show(((w.alloc o).alloc o').alloc o'').heap.size=w.heap.size+1+1+1 by simp]at h
theorem DecAt.ptr {w:World}{a c n t:Int}{W:World}(h:DecAt w a c n t W)(i:Nat)(hi:i < 4):W.cell? ⟨w.heap.size+1+1+1,i,none⟩=some (.pointer (some (if i=0 then⟨w.heap.size+1+1,0,none⟩else if i=1 then⟨w.heap.size+1,0,none⟩else if i=2 then⟨w.heap.size+1,1,none⟩else⟨w.heap.size+1,2,none⟩))):=by
 obtain⟨h1,h2,h3,h4,h5⟩:=h
 match i,hi with
 | 0,_=>exact cell_of_row W _ 0 _ _ _ h5
 | 1,_=>exact cell_of_row W _ 1 _ _ _ h5
 | 2,_=>exact cell_of_row W _ 2 _ _ _ h5
 | 3,_=>exact cell_of_row W _ 3 _ _ _ h5
theorem DecAt.st0 {w:World}{a c n t:Int}{W:World}(h:DecAt w a c n t W)(x:Int):DecAt w x c n t (W.setCell ⟨w.heap.size+1+1,0,none⟩ (.int .i64 x)):=by
 obtain⟨h1,h2,h3,h4,h5⟩:=h
 have hg:W.grownBy (W.setCell ⟨w.heap.size+1+1,0,none⟩ (.int .i64 x)) (some (w.heap.size+1+1)):=grown_setCell (grown_refl _ _) _ (.inl rfl) _
 exact⟨h1.setCell (p:=⟨w.heap.size+1+1,0,none⟩) (by show w.heap.size≤w.heap.size+1+1;omega) _,(hg.block _ (ltA h2) (fun e=>by have:=Option.some.inj e;omega)).trans h2,(hg.block _ (ltA h3) (fun e=>by have:=Option.some.inj e;omega)).trans h3,heap_setCell_same (i:=0) _ h4,(hg.block _ (ltA h5) (fun e=>by have:=Option.some.inj e;omega)).trans h5⟩
theorem DecAt.st1 {w:World}{a c n t:Int}{W:World}(h:DecAt w a c n t W)(x:Int):DecAt w a x n t (W.setCell ⟨w.heap.size+1,0,none⟩ (.int .i64 x)):=by
 obtain⟨h1,h2,h3,h4,h5⟩:=h
 have hg:W.grownBy (W.setCell ⟨w.heap.size+1,0,none⟩ (.int .i64 x)) (some (w.heap.size+1)):=grown_setCell (grown_refl _ _) _ (.inl rfl) _
 exact⟨h1.setCell (p:=⟨w.heap.size+1,0,none⟩) (by show w.heap.size≤w.heap.size+1;omega) _,(hg.block _ (ltA h2) (fun e=>by have:=Option.some.inj e;omega)).trans h2,heap_setCell_same (i:=0) _ h3,(hg.block _ (ltA h4) (fun e=>by have:=Option.some.inj e;omega)).trans h4,(hg.block _ (ltA h5) (fun e=>by have:=Option.some.inj e;omega)).trans h5⟩
theorem DecAt.st2 {w:World}{a c n t:Int}{W:World}(h:DecAt w a c n t W)(x:Int):DecAt w a c x t (W.setCell ⟨w.heap.size+1,1,none⟩ (.int .i64 x)):=by
 obtain⟨h1,h2,h3,h4,h5⟩:=h
 have hg:W.grownBy (W.setCell ⟨w.heap.size+1,1,none⟩ (.int .i64 x)) (some (w.heap.size+1)):=grown_setCell (grown_refl _ _) _ (.inl rfl) _
 exact⟨h1.setCell (p:=⟨w.heap.size+1,1,none⟩) (by show w.heap.size≤w.heap.size+1;omega) _,(hg.block _ (ltA h2) (fun e=>by have:=Option.some.inj e;omega)).trans h2,heap_setCell_same (i:=1) _ h3,(hg.block _ (ltA h4) (fun e=>by have:=Option.some.inj e;omega)).trans h4,(hg.block _ (ltA h5) (fun e=>by have:=Option.some.inj e;omega)).trans h5⟩
theorem DecAt.st3 {w:World}{a c n t:Int}{W:World}(h:DecAt w a c n t W)(x:Int):DecAt w a c n x (W.setCell ⟨w.heap.size+1,2,none⟩ (.int .i64 x)):=by
 obtain⟨h1,h2,h3,h4,h5⟩:=h
 have hg:W.grownBy (W.setCell ⟨w.heap.size+1,2,none⟩ (.int .i64 x)) (some (w.heap.size+1)):=grown_setCell (grown_refl _ _) _ (.inl rfl) _
 exact⟨h1.setCell (p:=⟨w.heap.size+1,2,none⟩) (by show w.heap.size≤w.heap.size+1;omega) _,(hg.block _ (ltA h2) (fun e=>by have:=Option.some.inj e;omega)).trans h2,heap_setCell_same (i:=2) _ h3,(hg.block _ (ltA h4) (fun e=>by have:=Option.some.inj e;omega)).trans h4,(hg.block _ (ltA h5) (fun e=>by have:=Option.some.inj e;omega)).trans h5⟩
def DecX (w:World)(c n t:Int)(v l:ByteArray)(W:World):Prop:=Below w.heap.size w W∧W.heap[w.heap.size]?=some (.cells #[.int .i64 0,.int .i64 0,.int .i64 0,.string ⟨#[]⟩,.string ⟨#[]⟩] 27 (0,0))∧W.heap[w.heap.size+1]?=some (.cells #[.int .i64 c,.int .i64 n,.int .i64 t,.string v,.string l] 27 (0,0))
theorem DecX.below {w:World}{c n t:Int}{v l:ByteArray}{W W':World}(h:DecX w c n t v l W)(hb:Below W.heap.size W W'):DecX w c n t v l W' :=
 ⟨q_next h.1 hb,(hb.block _ (ltA h.2.1)).trans h.2.1,(hb.block _ (ltA h.2.2)).trans h.2.2⟩
theorem DecX.st3 {w:World}{c n t:Int}{v l:ByteArray}{W:World}(h:DecX w c n t v l W)(x:ByteArray):DecX w c n t x l (W.setCell ⟨w.heap.size+1,3,none⟩ (.string x)):=by
 obtain⟨h1,h2,h3⟩:=h
 have hg:W.grownBy (W.setCell ⟨w.heap.size+1,3,none⟩ (.string x)) (some (w.heap.size+1)):=grown_setCell (grown_refl _ _) _ (.inl rfl) _
 exact⟨h1.setCell (p:=⟨w.heap.size+1,3,none⟩) (by show w.heap.size≤w.heap.size+1;omega) _,(hg.block _ (ltA h2) (fun e=>by have:=Option.some.inj e;omega)).trans h2,heap_setCell_same (i:=3) _ h3⟩
theorem DecX.st4 {w:World}{c n t:Int}{v l:ByteArray}{W:World}(h:DecX w c n t v l W)(x:ByteArray):DecX w c n t v x (W.setCell ⟨w.heap.size+1,4,none⟩ (.string x)):=by
 obtain⟨h1,h2,h3⟩:=h
 have hg:W.grownBy (W.setCell ⟨w.heap.size+1,4,none⟩ (.string x)) (some (w.heap.size+1)):=grown_setCell (grown_refl _ _) _ (.inl rfl) _
 exact⟨h1.setCell (p:=⟨w.heap.size+1,4,none⟩) (by show w.heap.size≤w.heap.size+1;omega) _,(hg.block _ (ltA h2) (fun e=>by have:=Option.some.inj e;omega)).trans h2,heap_setCell_same (i:=4) _ h3⟩
set_option maxHeartbeats 8000000 in
set_option maxRecDepth 100000 in
theorem decode_any (s:ByteArray)(hs:s.size≤1000000)(w:World) :
  Calls Tryz.prog 28 #[.string s] w fun e w'=>e=.returned (castR (decodeV s))∧Below w.heap.size w w':=by
 obtain⟨RES,hRES⟩:∃ R,R=decodeV s:=⟨_,rfl⟩
 rw[← hRES]
 have HRES:Hid (RES=dec 0 0 0 0 0 (s.data.toList.drop 0)):=zh hRES
 clear hRES
 go_enter Tryz.func28,Tryz.ntmps28
 go_upto_region 5 with fail
 obtain⟨W4,hW4⟩:∃ W4,W4=(((w.alloc (.cells #[.int .i64 0,.int .i64 0,.int .i64 0,.string ⟨#[]⟩,.string ⟨#[]⟩] 27)).alloc (.cells #[.int .i64 0,.int .i64 0,.int .i64 0,.string ⟨#[]⟩,.string ⟨#[]⟩] 27)).alloc (.cells #[.int .i64 0] 3)).alloc (.cells #[.pointer (some ⟨w.heap.size+1+1,0,none⟩),.pointer (some ⟨w.heap.size+1,0,none⟩),.pointer (some ⟨w.heap.size+1,1,none⟩),.pointer (some ⟨w.heap.size+1,2,none⟩)] 109):=⟨_,rfl⟩
 rw[← hW4]
 have HA:Hid (DecAt w 0 0 0 0 W4):=zh (by
  rw[hW4]
  exact⟨(((((Below.refl _ w).alloc (Nat.le_refl _) _).alloc (by simp) _).alloc (by simp <;> omega) _).alloc (by simp <;> omega) _),by rw[heap_alloc_old _ _ _ (by simp <;> omega),heap_alloc_old _ _ _ (by simp <;> omega),heap_alloc_old _ _ _ (by simp)];exact heap_alloc_new _ _,by rw[heap_alloc_old _ _ _ (by simp <;> omega),heap_alloc_old _ _ _ (by simp)];exact at_past' w _ _,by rw[heap_alloc_old _ _ _ (by simp)];exact at_past'' w _ _ _,at_past3 w _ _ _ _⟩)
 clear hW4
 go_wp2
 go_loopw [6,19] (fun ap ip wr=>∃(i p:Nat) (a c n t:Int),i≤4∧ip=.int .i64 i∧ap=.int .i64 p∧p≤s.size∧Hid (RES=dec i a c n t (s.data.toList.drop p))∧Hid (DecAt w a c n t wr)) (fun _ ip _=>4 - (intOf ip).toNat)
 case atStart=>exact⟨0,0,0,0,0,0,by omega,rfl,rfl,by omega,HRES,HA⟩
 case round =>
  obtain⟨i,p,a,c,n,t,hi,rfl,rfl,hp,hI,hD⟩:=hrel
  have HINT:=zh (int_any s p hp hs)
  by_cases hi4:i < 4
  ·cases hx:intL 9 0 0 (s.data.toList.drop p)with
   | none =>
    have HR:Hid (RES=none):=zh (hI.out.trans (dec_none hi4 a c n t hx))
    rw[hx]at HINT
    clear hx hI
    have hpt:=hD.out.ptr i hi4
    generalize (if i=0 then(⟨w.heap.size+1+1,0,none⟩:Addr)else if i=1 then⟨w.heap.size+1,0,none⟩else if i=2 then⟨w.heap.size+1,1,none⟩else⟨w.heap.size+1,2,none⟩)=P at *
    have hi0:(0:Int)≤(i:Int):=by omega
    have hi4':(i:Int) < 4:=by omega
    obtain⟨z0,z1,z2,z3,z4⟩:=vcellsAt hD.out.2.1
    have zf:∀ j,wr.frozen? ⟨w.heap.size,j,none⟩=false:=fun j=>by unfold World.frozen?;rw[hD.out.2.1];simp
    go_wp2_with (go_at_call 70;refine(HINT.out _).mono ?_;rintro e w1 ⟨rfl,rfl⟩;unfold intR)
    refine bodyPost_ret (results_cellA_tmp rfl _ w.heap.size 27 #[.int .i64 0,.int .i64 0,.int .i64 0,.string ⟨#[]⟩,.string ⟨#[]⟩] (0,0) _ rfl (vfive_heap hD.out.2.1 _ _ _ _ _) Tryz.underlying27 rfl infoVote) rfl ⟨?_,vfive_below hD.out.1 (Nat.le_refl _) _ _ _ _ _⟩
    rw[HR.out]
    rfl
   | some xk =>
    obtain⟨x,k⟩:=xk
    have HR:Hid (RES=dec (i+1) (if i=0 then x else a) (if i=1 then x else c) (if i=2 then x else n) (if i=3 then x else t) (s.data.toList.drop (p+k))):=zh (by rw[hI.out,dec_some hi4 a c n t hx,List.drop_drop])
    have hpk:p+k≤s.size:=by
     have:=intL_len hx
     rw[List.length_drop]at this
     have e:s.data.toList.length=s.size:=rfl
     omega
    rw[hx]at HINT
    clear hx hI
    have hcase:i=0∨i=1∨i=2∨i=3:=by omega
    have hpt:=hD.out.ptr i hi4
    rcases hcase with rfl | rfl | rfl | rfl
    ·simp at hpt
     obtain⟨b1,b2,b3,b4,b5⟩:=hD.out
     have z0:=cell_of_row wr _ 0 _ _ _ b4
     have zf:∀ j,wr.frozen? ⟨w.heap.size+1+1,j,none⟩=false:=fun j=>by unfold World.frozen?;rw[b4];simp
     have HD2:=zh (hD.out.st0 x)
     clear b1 b2 b3 b4 b5
     go_wp2_with (go_at_call 70;refine(HINT.out _).mono ?_;rintro e w1 ⟨rfl,rfl⟩;unfold intR)
     go_roundw
     case rel=>exact⟨1,p+k,x,c,n,t,by omega,rfl,by go_num,hpk,HR,HD2⟩
     case measure=>simp[intOf]
    ·simp at hpt
     obtain⟨b1,b2,b3,b4,b5⟩:=hD.out
     have z0:=cell_of_row wr _ 0 _ _ _ b3
     have zf:∀ j,wr.frozen? ⟨w.heap.size+1,j,none⟩=false:=fun j=>by unfold World.frozen?;rw[b3];simp
     have HD2:=zh (hD.out.st1 x)
     clear b1 b2 b3 b4 b5
     go_wp2_with (go_at_call 70;refine(HINT.out _).mono ?_;rintro e w1 ⟨rfl,rfl⟩;unfold intR)
     go_roundw
     case rel=>exact⟨2,p+k,a,x,n,t,by omega,rfl,by go_num,hpk,HR,HD2⟩
     case measure=>simp[intOf]
    ·simp at hpt
     obtain⟨b1,b2,b3,b4,b5⟩:=hD.out
     have z0:=cell_of_row wr _ 1 _ _ _ b3
     have zf:∀ j,wr.frozen? ⟨w.heap.size+1,j,none⟩=false:=fun j=>by unfold World.frozen?;rw[b3];simp
     have HD2:=zh (hD.out.st2 x)
     clear b1 b2 b3 b4 b5
     go_wp2_with (go_at_call 70;refine(HINT.out _).mono ?_;rintro e w1 ⟨rfl,rfl⟩;unfold intR)
     go_roundw
     case rel=>exact⟨3,p+k,a,c,x,t,by omega,rfl,by go_num,hpk,HR,HD2⟩
     case measure=>simp[intOf]
    ·simp at hpt
     obtain⟨b1,b2,b3,b4,b5⟩:=hD.out
     have z0:=cell_of_row wr _ 2 _ _ _ b3
     have zf:∀ j,wr.frozen? ⟨w.heap.size+1,j,none⟩=false:=fun j=>by unfold World.frozen?;rw[b3];simp
     have HD2:=zh (hD.out.st3 x)
     clear b1 b2 b3 b4 b5
     go_wp2_with (go_at_call 70;refine(HINT.out _).mono ?_;rintro e w1 ⟨rfl,rfl⟩;unfold intR)
     go_roundw
     case rel=>exact⟨4,p+k,a,c,n,x,by omega,rfl,by go_num,hpk,HR,HD2⟩
     case measure=>simp[intOf]
  ·obtain rfl:i=4:=by omega
   have HT:Hid (RES=if s.size - p=64∧a=5∧formedV ⟨c,n,t,s.extract p (p+32),s.extract (p+32) s.size⟩=true then some ⟨c,n,t,s.extract p (p+32),s.extract (p+32) s.size⟩else none):=zh (hI.out.trans (tail_is s p a c n t))
   have hw1:IntKind.i64.wrap ((s.size:Int) - (p:Int))=(s.size:Int) - (p:Int):=IntWalk.i64_in _ (by omega)
   have a0:=cell_of_row wr _ 0 _ _ _ hD.out.2.2.2.1
   obtain⟨z0,z1,z2,z3,z4⟩:=vcellsAt hD.out.2.1
   have zf:∀ j,wr.frozen? ⟨w.heap.size,j,none⟩=false:=fun j=>by unfold World.frozen?;rw[hD.out.2.1];simp
   clear hI HINT
   by_cases h64:s.size - p=64
   ·by_cases h5:a=5
    ·have h64':((s.size:Int) - (p:Int) != 64)=false:=by simp;omega
     have h5':(a != 5)=false:=by simp[h5]
     have hEX:Hid (RES=if formedV ⟨c,n,t,s.extract p (p+32),s.extract (p+32) s.size⟩=true then some ⟨c,n,t,s.extract p (p+32),s.extract (p+32) s.size⟩else none):=zh (by
      rw[HT.out]
      by_cases hf:formedV ⟨c,n,t,s.extract p (p+32),s.extract (p+32) s.size⟩=true
      ·rw[if_pos ⟨h64,h5,hf⟩,if_pos hf]
      ·rw[if_neg (fun h=>hf h.2.2),if_neg hf])
     clear HT
     have HX0:Hid (DecX w c n t ⟨#[]⟩ ⟨#[]⟩ wr):=zh ⟨hD.out.1,hD.out.2.1,hD.out.2.2.1⟩
     obtain⟨V,hV⟩:∃ V,V=s.extract p (p+32):=⟨_,rfl⟩
     obtain⟨L,hL⟩:∃ L,L=s.extract (p+32) s.size:=⟨_,rfl⟩
     rw[← hV,← hL]at hEX
     have hw2:IntKind.i64.wrap ((p:Int)+32)=(p:Int)+32:=IntWalk.i64_in _ (by omega)
     have hp0:(0:Int)≤(p:Int):=by omega
     have hp32:(p:Int)+32≤(s.size:Int):=by omega
     have hq1:(0:Int)≤(p:Int)+32:=by omega
     have hq2:(p:Int)≤(p:Int)+32:=by omega
     have hq3:((p:Int)+32).toNat=p+32:=by omega
     have hV2:s.extract p (p+32)=V:=hV.symm
     have hL2:s.extract (p+32) s.size=L:=hL.symm
     have h64n:(s.size:Int) - (p:Int)=64:=by omega
     clear hV hL hD z0 z1 z2 z3 z4 zf
     go_upto_region 14 with fail
     clear a0 h64' h64n h5' h64 h5 hw1
     have HS9:Hid (LowKept wr w.heap.size wr.drew):=zh ⟨HX0.out.1.size,(Below.drew br0).mono HX0.out.1.size⟩
     refine wp_region_noPanic ?_
     refine wp_region_lexF [.q 0,.q 1,.q 2,.q 3,.q 4,.q 5,.q 6,.q 7,.q 8,.q 9,.b 10,.q 11,.b 12] (LowKept wr w.heap.size) (by kernel_rfl) (by kernel_rfl) (fun _ _ _ _ h=>h) LowKept.more HS9.out ?_
     iterate 10(refine wpFl_qL (v:=?_) rfl (Or.inl ⟨by rfl,?_⟩) ?_;rotate_left;(focus(intro w' hSw;go_simp;(try with_reducible rfl);done));simp only[Act.put,zzA,zzB,zzC])
     refine wpFl_bS rfl (fun wb hnb hsb K hK=>?_)
     have HXb:=zh (HX0.out.below (q_next (Below.drew br0) hnb))
     have y3:=cell_of_row wb _ 3 _ _ _ HXb.out.2.2
     have yf:∀ j,wb.frozen? ⟨w.heap.size+1,j,none⟩=false:=fun j=>by unfold World.frozen?;rw[HXb.out.2.2];simp
     go_simp
     have HXc:=zh (HXb.out.st3 V)
     refine hK.out _ _ (LowKept.set hsb (by omega) _ _) (by simp;exact hsb.2.size) Keeps.nil ?_
     generalize wb.setCell ⟨w.heap.size+1,3,none⟩ (.string V)=wc at *
     clear hK K hnb hsb y3 yf HXb
     (try simp only[Act.put])
     refine wpFl_qL (v:=?_) rfl (Or.inl ⟨by rfl,?_⟩) ?_
     rotate_left
     focus(intro w' hSw;go_simp;(try with_reducible rfl);done)
     simp only[Act.put,zzA,zzB,zzC]
     refine wpFl_bS rfl (fun wd hnd hsd K hK=>?_)
     have HXd:=zh (HXc.out.below hnd)
     have y4:=cell_of_row wd _ 4 _ _ _ HXd.out.2.2
     have yf:∀ j,wd.frozen? ⟨w.heap.size+1,j,none⟩=false:=fun j=>by unfold World.frozen?;rw[HXd.out.2.2];simp
     go_simp
     have HXe:=zh (HXd.out.st4 L)
     refine hK.out _ _ (LowKept.set hsd (by omega) _ _) (by simp;exact hsd.2.size) Keeps.nil ?_
     generalize wd.setCell ⟨w.heap.size+1,4,none⟩ (.string L)=we at *
     clear hK K hnd hsd y4 yf HXd HXc HS9
     (try simp only[Act.put])
     refine wpFl_nil ?_
     refine NoPanic.normal ?_
     have HF:=zh (isFormed_any ⟨c,n,t,V,L⟩ we)
     simp only at HF
     obtain⟨W6,hW6⟩:∃ W6,W6=we.alloc (.cells #[.int .i64 c,.int .i64 n,.int .i64 t,.string V,.string L] 27):=⟨_,rfl⟩
     rw[← hW6]at HF
     have HX6:=zh (HXe.out.below (show Below we.heap.size we W6 by rw[hW6];exact br0.alloc (Nat.le_refl _) _))
     clear hW6 hV2 hL2
     obtain⟨e0,e1,e2,e3,e4⟩:=vcellsAt HXe.out.2.2
     obtain⟨z0,z1,z2,z3,z4⟩:=vcellsAt HX6.out.2.1
     obtain⟨f0,f1,f2,f3,f4⟩:=vcellsAt HX6.out.2.2
     have zf:∀ j,W6.frozen? ⟨w.heap.size,j,none⟩=false:=fun j=>by unfold World.frozen?;rw[HX6.out.2.1];simp
     cases hf:formedV ⟨c,n,t,V,L⟩with
     | false =>
      have HR:Hid (RES=none):=zh (hEX.out.trans (if_neg (by rw[hf];decide)))
      rw[hf]at HF
      clear hf hEX
      go_wp2_with (go_at_call 62;refine HF.out.mono ?_;rintro e w1 ⟨rfl,rfl⟩)
      refine bodyPost_ret (results_cellA_tmp rfl _ w.heap.size 27 #[.int .i64 0,.int .i64 0,.int .i64 0,.string ⟨#[]⟩,.string ⟨#[]⟩] (0,0) _ rfl (vfive_heap HX6.out.2.1 _ _ _ _ _) Tryz.underlying27 rfl infoVote) rfl ⟨?_,vfive_below HX6.out.1 (Nat.le_refl _) _ _ _ _ _⟩
      rw[HR.out]
      rfl
     | true =>
      have HR:Hid (RES=some ⟨c,n,t,V,L⟩):=zh (hEX.out.trans (if_pos hf))
      rw[hf]at HF
      clear hf hEX
      go_wp2_with (go_at_call 62;refine HF.out.mono ?_;rintro e w1 ⟨rfl,rfl⟩)
      refine bodyPost_ret (results_cellA_tmp rfl _ w.heap.size 27 #[.int .i64 c,.int .i64 n,.int .i64 t,.string V,.string L] (0,0) _ rfl (vfive_heap HX6.out.2.1 _ _ _ _ _) Tryz.underlying27 rfl infoVote) rfl ⟨?_,vfive_below HX6.out.1 (Nat.le_refl _) _ _ _ _ _⟩
      rw[HR.out]
      rfl
    ·have HR:Hid (RES=none):=zh (HT.out.trans (if_neg (fun h=>h5 h.2.1)))
     have h64':(s.size:Int) - (p:Int)=64:=by omega
     have h5':(a != 5)=true:=by simp[h5]
     clear HT
     go_wp2
     refine bodyPost_ret (results_cellA_tmp rfl _ w.heap.size 27 #[.int .i64 0,.int .i64 0,.int .i64 0,.string ⟨#[]⟩,.string ⟨#[]⟩] (0,0) _ rfl (vfive_heap hD.out.2.1 _ _ _ _ _) Tryz.underlying27 rfl infoVote) rfl ⟨?_,vfive_below hD.out.1 (Nat.le_refl _) _ _ _ _ _⟩
     rw[HR.out]
     rfl
   ·have HR:Hid (RES=none):=zh (HT.out.trans (if_neg (fun h=>h64 h.1)))
    have h64':((s.size:Int) - (p:Int) != 64)=true:=by simp;omega
    clear HT
    go_wp2
    refine bodyPost_ret (results_cellA_tmp rfl _ w.heap.size 27 #[.int .i64 0,.int .i64 0,.int .i64 0,.string ⟨#[]⟩,.string ⟨#[]⟩] (0,0) _ rfl (vfive_heap hD.out.2.1 _ _ _ _ _) Tryz.underlying27 rfl infoVote) rfl ⟨?_,vfive_below hD.out.1 (Nat.le_refl _) _ _ _ _ _⟩
    rw[HR.out]
    rfl
def encR (o:Option ByteArray):Value:=match o with
 | none=>.tuple #[.string ⟨#[]⟩,.int .i64 190]
 | some s=>.tuple #[.string s,.int .i64 0]
theorem enc_any (v:VoteP)(o:Option ByteArray)(ho:encodeV v=o)(W:World):Calls Tryz.prog 19 #[vagg v] W fun e w'=>e=.returned (encR o)∧Below W.heap.size W w':=by
 subst ho
 unfold encodeV
 cases hf:formedV v with
 | false=>exact enc_no v hf W
 | true=>exact enc_yes v hf W
theorem two_at {W:World}{b:Nat}{c0 c1:Value}{T:TypeId}(h:W.heap[b]?=some (.cells #[c0,c1] T (0,0))):W.cell? ⟨b,0,none⟩=some c0∧W.cell? ⟨b,1,none⟩=some c1:=⟨cell_of_row W _ 0 _ _ _ h,cell_of_row W _ 1 _ _ _ h⟩
theorem two_tallies {w:World}{b:Nat}{x y:ByteArray}{m n:Nat}(h:w.heap[b]?=some (.cells #[.string x,.int .i64 (m:Int),.string y,.int .i64 (n:Int)] 68 (0,0))):TS w (.slice (some ⟨b,0,none⟩) 2 2) [(x,m),(y,n)]:=by
 refine⟨_,2,rfl,Nat.le_refl _,by decide,.inr ⟨b,0,rfl,(ltA h),fun i cs hi j u hj=>?_⟩⟩
 match i,hi with
 | 0,hi=>cases hi;match j,hj with
  | 0,hj=>cases hj;exact cell_of_row w b 0 _ _ _ h
  | 1,hj=>cases hj;exact cell_of_row w b 1 _ _ _ h
 | 1,hi=>cases hi;match j,hj with
  | 0,hj=>cases hj;exact cell_of_row w b 2 _ _ _ h
  | 1,hj=>cases hj;exact cell_of_row w b 3 _ _ _ h
theorem DAt.ten {w:World}{b o:Nat}{d:VoteP × VoteP}(h:DAt w b o d):w.cell? ⟨b,o,none⟩=some (.int .i64 d.1.car)∧w.cell? ⟨b,o+1,none⟩=some (.int .i64 d.1.num)∧w.cell? ⟨b,o+2,none⟩=some (.int .i64 d.1.stp)∧w.cell? ⟨b,o+3,none⟩=some (.string d.1.val)∧w.cell? ⟨b,o+4,none⟩=some (.string d.1.sl) ∧
  w.cell? ⟨b,o+5,none⟩=some (.int .i64 d.2.car)∧w.cell? ⟨b,o+6,none⟩=some (.int .i64 d.2.num)∧w.cell? ⟨b,o+7,none⟩=some (.int .i64 d.2.stp)∧w.cell? ⟨b,o+8,none⟩=some (.string d.2.val)∧w.cell? ⟨b,o+9,none⟩=some (.string d.2.sl) :=
 let ⟨⟨a0,a1,a2,a3,a4⟩,b0,b1,b2,b3,b4⟩:=h
 ⟨a0,a1,a2,a3,a4,b0,b1,b2,b3,b4⟩
theorem DAt.keep {B:Nat}{w w':World}{b o:Nat}{d:VoteP × VoteP}(h:DAt w b o d)(hb:Below B w w')(hlt:b < B):DAt w' b o d:=⟨h.1.keep hb hlt,h.2.keep hb hlt⟩
theorem eqlDouble2 (x y:VoteP × VoteP)(w:World):(binOp .eql 45 (dagg2 x) (dagg2 y)).run Tryz.prog w=.ok (.bool (decide (x=y))) w:=by
 have h:=eqlDouble x y w
 unfold dagg2 at *
 rw[run_eql_struct,h]
 rfl
def rtQS (c:Code):Code:=rtQ (rtQ (rtQ (rtQ (rtQ (rtQ (rtQ (rtQ (rtQ (rtQ (rtQ (rtQ (rtQ (rtQ (c))))))))))))))
theorem tailQS {c L:Code}(h:∃ a0 a1 a2 a3 a4 a5 a6 a7 a8 a9 a10 a11 a12 a13:Code,Tryz.f11.body=some (a0.seq (a1.seq (a2.seq (a3.seq (a4.seq (a5.seq (a6.seq (a7.seq (a8.seq (a9.seq (a10.seq (a11.seq (a12.seq (a13.seq (c))))))))))))))))(hL:Tryz.f11.body.map rtQS=some L:=by rfl):c=L:=by
 obtain⟨a0,a1,a2,a3,a4,a5,a6,a7,a8,a9,a10,a11,a12,a13,e⟩:=h
 rw[e]at hL
 exact Option.some.inj hL
set_option maxHeartbeats 16000000 in
set_option maxRecDepth 100000 in
theorem sane_tail {w w13:World}(HE:Hid (QEnv w13))(HBW:Hid (Below w.heap.size w w13))(b1 bo:Nat)(ka:Option Addr)(kc:Nat)(x y:ByteArray)(oc on1 os:Int)(ov ol:ByteArray)(vpool vp vd vb:Value)(HX:Hid (x=valQ 1))(HY:Hid (y=valQ 0))
  (H1:Hid (w13.heap[b1]?=some (.cells #[.slice ka 4 kc] 31 (0,0)))) (H2:Hid (w13.heap[b1+1]?=some (.cells #[.int .i64 55,.int .i64 0] 25 (0,0)))) (H3:Hid (w13.heap[bo]?=some (.cells #[.int .i64 oc,.int .i64 on1,.int .i64 os,.string ov,.string ol] 27 (0,0))))
  (HO:Hid ((⟨oc,on1,os,ov,ol⟩:VoteP)=vS (madeQ 4) x 0)) (HKS:Hid (SS w13 (.slice ka 4 kc) (madeQ 4))) (HPOOL:Hid (VS w13 vpool (poolS (madeQ 4) x y))) (HVP:Hid (VS w13 vp [vS (madeQ 4) x 0,vS (madeQ 4) x 1,vS (madeQ 4) x 2]))
  (HVD:Hid (DS w13 vd [(vS (madeQ 4) x 2,vS (madeQ 4) y 2)])) (HVB:Hid (DS w13 vb [(vS (madeQ 4) x 1,vS (madeQ 4) y 1),(vS (madeQ 4) x 2,vS (madeQ 4) y 2)])) (u0 u8 u12 u14 u21 u22 u23 u24 u25 u26 u27 u28 u29 u30 u31 u32 u33 u34 u35 u36 u37 u38 u39 u40 u41 u42 u43 u44 u45 u46 u47 u48 u49 u50 u51 u52 u53 u54 u55 u56 u57 u58 u59 u60 u61 u62 u63 u64 u65 u66 u67 u68 u69 u70 u71 u72 u73 u74 u75 u76 u77 u78 u79 u80 u81 u82 u83 u84 u85 u86 u87 u88 u89 u90 u91 u92 u93 u94 u95 u96 u97 u98 u99 u100 u101 u102 u103 u104 u105 u106 u107 u108 u109 u110 u111 u112 u113 u114 u115 u116 u117 u118 u119 u120 u121 u122 u123 u124 u125 u126 u127 u128 u129 u130 u131 u132 u133 u134 u135 u136 u137 u138 u139 u140 u141 u142 u143 u144 u145 u146 u147 u148 u149 u150 u151 u152 u153 u154 u155 u156 u157 u158 u159 u160 u161 u162 u163 u164 u165 u166 u167 u168 u169 u170 u171 u172 u173 u174 u175 u176 u177 u178 u179 u180 u181 u182 u183 u184 u185 u186 u187 u188 u189 u190 u191 u192 u193 u194 u195 u196 u197 u198 u199 u200 u201 u202 u203 u204 u205 u206 u207 u208 u209 u210 u211 u212 u213 u214 u215 u216 u217 u218 u219 u220 u221 u222 u223 u224 u225 u226 u227 u228 u229 u230 u231 u232 u233 u234 u235 u236 u237 u238 u239 u240 u241 u242 u243 u244 u245 u246 u247 u248 u249 u250 u251 u252 u253 u254 u255 u256 u257 u258 u259 u260 u261 u262 u263 u264 u265 u266 u267 u268 u269 u270 u271 u272 u273 u274 u275 u276 u277 u278 u279 u280 u281 u282 u283 u284 u285 u286 u287 u288 u289 u290 u291 u292 u293 u294 u295 u296 u297 u298 u299 u300 u301 u302 u303 u304 u305 u306 u307 u308 u309 u310 u311 u312:Value) :
  ∃ c:Code,(∃ a0 a1 a2 a3 a4 a5 a6 a7 a8 a9 a10 a11 a12 a13:Code,Tryz.f11.body=some (a0.seq (a1.seq (a2.seq (a3.seq (a4.seq (a5.seq (a6.seq (a7.seq (a8.seq (a9.seq (a10.seq (a11.seq (a12.seq (a13.seq (c))))))))))))))))∧c.wp Tryz.prog (bodyPost Tryz.prog Tryz.f11 fun e w'=>e=.returned (.bool true)∧Below w.heap.size w w') { tmps:=#[u0,.pointer (some ⟨b1,0,none⟩),.pointer (some ⟨b1+1,0,none⟩),.string x,.string y,vpool,vp,.bool true,u8,.bool false,.string x,.bool true,u12,.bool false,u14,.int .i64 190,.pointer (some ⟨bo,0,none⟩),.int .i64 0,vd,vb,.int .i64 0,u21,u22,u23,u24,u25,u26,u27,u28,u29,u30,u31,u32,u33,u34,u35,u36,u37,u38,u39,u40,u41,u42,u43,u44,u45,u46,u47,u48,u49,u50,u51,u52,u53,u54,u55,u56,u57,u58,u59,u60,u61,u62,u63,u64,u65,u66,u67,u68,u69,u70,u71,u72,u73,u74,u75,u76,u77,u78,u79,u80,u81,u82,u83,u84,u85,u86,u87,u88,u89,u90,u91,u92,u93,u94,u95,u96,u97,u98,u99,u100,u101,u102,u103,u104,u105,u106,u107,u108,u109,u110,u111,u112,u113,u114,u115,u116,u117,u118,u119,u120,u121,u122,u123,u124,u125,u126,u127,u128,u129,u130,u131,u132,u133,u134,u135,u136,u137,u138,u139,u140,u141,u142,u143,u144,u145,u146,u147,u148,u149,u150,u151,u152,u153,u154,u155,u156,u157,u158,u159,u160,u161,u162,u163,u164,u165,u166,u167,u168,u169,u170,u171,u172,u173,u174,u175,u176,u177,u178,u179,u180,u181,u182,u183,u184,u185,u186,u187,u188,u189,u190,u191,u192,u193,u194,u195,u196,u197,u198,u199,u200,u201,u202,u203,u204,u205,u206,u207,u208,u209,u210,u211,u212,u213,u214,u215,u216,u217,u218,u219,u220,u221,u222,u223,u224,u225,u226,u227,u228,u229,u230,u231,u232,u233,u234,u235,u236,u237,u238,u239,u240,u241,u242,u243,u244,u245,u246,u247,u248,u249,u250,u251,u252,u253,u254,u255,u256,u257,u258,u259,u260,u261,u262,u263,u264,u265,u266,u267,u268,u269,u270,u271,u272,u273,u274,u275,u276,u277,u278,u279,u280,u281,u282,u283,u284,u285,u286,u287,u288,u289,u290,u291,u292,u293,u294,u295,u296,u297,u298,u299,u300,u301,u302,u303,u304,u305,u306,u307,u308,u309,u310,u311,u312],defers:=[] } w13:=by
 refine⟨_,⟨_,_,_,_,_,_,_,_,_,_,_,_,_,_,rfl⟩,?_⟩
 have hk:validC (madeQ 4)=true:=madeQ_valid (.inr (.inl rfl))
 have h4:(madeQ 4).length=4:=madeQ_len 4
 have hlt:x.toList < y.toList:=by rw[HX.out,HY.out];exact val10
 have s1:x.size=32:=by rw[HX.out];exact valQ_size 1
 have s0:y.size=32:=by rw[HY.out];exact valQ_size 0
 have hf:formedV ⟨oc,on1,os,ov,ol⟩=true:=by rw[HO.out];exact s_formed hk h4 s1 s0 hlt 0 x (by omega) s1
 obtain⟨S,hS⟩:∃ S,S=encV ⟨oc,on1,os,ov,ol⟩:=⟨_,rfl⟩
 have HEN:Hid (∀ W,Calls Tryz.prog 19 #[.agg #[.int .i64 oc,.int .i64 on1,.int .i64 os,.string ov,.string ol]] W fun e w'=>e=.returned (.tuple #[.string S,.int .i64 0])∧Below W.heap.size W w'):=zh fun W=>by rw[hS];exact enc_yes _ hf W
 have hSz:S.size≤1000:=by
  have h5:=formed_facts hf
  have h6:=voteC_le (v:=⟨oc,on1,os,ov,ol⟩) h5.2.2.2.1
  have h7:ol.size=32:=h5.2.2.2.2
  rw[hS]
  show(voteC ⟨oc,on1,os,ov,ol⟩++ol).size≤1000
  rw[ByteArray.size_append]
  omega
 have HD1:Hid (∀ W,Calls Tryz.prog 28 #[.string S] W fun e w'=>e=.returned (.tuple #[.agg #[.int .i64 oc,.int .i64 on1,.int .i64 os,.string ov,.string ol],.int .i64 0])∧Below W.heap.size W w'):=zh fun W=>by
  have h:=decode_any S (by omega) W
  rw[hS,decode_enc hf]at h
  rw[hS]
  exact h
 have HD2:Hid (∀ W,Calls Tryz.prog 28 #[.string (S++⟨#[120]⟩)] W fun e w'=>e=.returned (.tuple #[.agg #[.int .i64 0,.int .i64 0,.int .i64 0,.string ⟨#[]⟩,.string ⟨#[]⟩],.int .i64 190])∧Below W.heap.size W w'):=zh fun W=>by
  have h:=decode_any (S++⟨#[120]⟩) (by rw[ByteArray.size_append];show S.size+1≤_;omega) W
  rw[show decodeV (S++⟨#[120]⟩)=none from by rw[hS];exact s_decode_x hf 120]at h
  exact h
 have hcat:¬ 9223372036854775807 < S.size+1:=by omega
 clear hS hf
 obtain⟨o0,o1,o2,o3,o4⟩:=vcellsAt H3.out
 go_upto_region 15 with(go_at_call 19;refine(HEN.out _).mono ?_;rintro e w14 ⟨rfl,hb14⟩)
 clear o0 o1 o2 o3 o4
 have HB14:=zh hb14
 clear hb14
 have HA:=zh (fun W (hW:Below w13.heap.size w13 W)=>And.intro (cell_of_row W _ 0 _ _ _ ((hW.block _ (ltA H1.out)).trans H1.out)) (And.intro (two_at ((hW.block _ (ltA H2.out)).trans H2.out)) (vcellsAt ((hW.block _ (ltA H3.out)).trans H3.out))))
 go_upto_region 16 with(go_at_call 28;(with_reducible refine(HD1.out _).mono ?_);rintro e w15 ⟨rfl,hb15⟩)
 have HB15:=zh (q_next HB14.out hb15)
 clear hb15
 obtain⟨w16,hw16⟩:∃ W,W=w15.alloc (.cells #[.int .i64 oc,.int .i64 on1,.int .i64 os,.string ov,.string ol] 27):=⟨_,rfl⟩
 have HV_w16:Hid (w16.heap[w15.heap.size]?=some (.cells #[.int .i64 oc,.int .i64 on1,.int .i64 os,.string ov,.string ol] 27 (0,0))):=zh (by rw[hw16];exact heap_alloc_new w15 _)
 have HS_w16:Hid (Below w15.heap.size w15 w16):=zh (by rw[hw16];exact br0.alloc (Nat.le_refl _) _)
 have HB_w16:=zh (q_next HB15.out HS_w16.out)
 rw[← hw16]
 obtain⟨b16,hb16⟩:∃ b,b=w15.heap.size:=⟨_,rfl⟩
 rw[← hb16]at HV_w16 ⊢
 clear hw16 hb16
 go_upto_region 17 with(go_at_call 28;(with_reducible refine(HD2.out _).mono ?_);rintro e w17 ⟨rfl,hb17⟩)
 have HB17:=zh (q_next HB_w16.out hb17)
 have HV17:=zh ((hb17.block _ (ltA HV_w16.out)).trans HV_w16.out)
 clear hb17
 obtain⟨w18,hw18⟩:∃ W,W=w17.alloc (.cells #[.int .i64 0,.int .i64 0,.int .i64 0,.string ⟨#[]⟩,.string ⟨#[]⟩] 27):=⟨_,rfl⟩
 have HV_w18:Hid (w18.heap[w17.heap.size]?=some (.cells #[.int .i64 0,.int .i64 0,.int .i64 0,.string ⟨#[]⟩,.string ⟨#[]⟩] 27 (0,0))):=zh (by rw[hw18];exact heap_alloc_new w17 _)
 have HS_w18:Hid (Below w17.heap.size w17 w18):=zh (by rw[hw18];exact br0.alloc (Nat.le_refl _) _)
 have HB_w18:=zh (q_next HB17.out HS_w18.out)
 rw[← hw18]
 obtain⟨b18,hb18⟩:∃ b,b=w17.heap.size:=⟨_,rfl⟩
 rw[← hb18]at HV_w18 ⊢
 clear hw18 hb18
 have HV18:=zh ((HS_w18.out.block _ (ltA HV17.out)).trans HV17.out)
 clear HV17 HV_w16 HD1 HD2 HEN hcat
 obtain⟨da,dc,hvd,-,-,hd3⟩:=HVD.out.opened
 obtain⟨ba,bc,hvb,-,-,hb3⟩:=HVB.out.opened
 simp only[List.length_cons,List.length_nil,Nat.reduceAdd]at hvd hvb
 subst hvd hvb
 have HD3:=zh hd3
 have HB3:=zh hb3
 clear hd3 hb3
 go_upto_region 19 with fail
 have HL:=zh HO.out
 have HB18:=zh HB_w18.out
 have HA2:=zh (fun W (hW:Below w18.heap.size w18 W)=>And.intro (HA.out W (q_next HB18.out hW)) (vcellsAt ((hW.block _ (ltA HV18.out)).trans HV18.out)))
 have HG1:=zh (qgen_w HE.out HKS.out ⟨oc,on1,os,ov,ol⟩ true (by rw[HO.out];exact s_genuine hk h4 s1 s0 hlt))
 have HG2:=zh (qgen_w HE.out HKS.out ⟨0,55,0,y,ol⟩ false (by
  have e:ol=(vS (madeQ 4) (valQ 1) 0).sl:=by rw[← HX.out];exact congrArg VoteP.sl HO.out
  rw[e,HY.out]
  exact s_forged))
 have HVA:Hid (∀ W,Below w13.heap.size w13 W→Calls Tryz.prog 53 #[.agg #[.slice ka 4 kc]] W fun e w'=>e=.returned (.bool true)∧Below W.heap.size W w'):=zh (fun W hW=>by
  have h:=qvalid_any (HKS.out.below hW)
  rw[hk]at h
  exact h)
 have HVE:Hid (∀ W,Calls Tryz.prog 53 #[.agg #[.slice none 0 0]] W fun e w'=>e=.returned (.bool false)∧Below W.heap.size W w'):=zh (fun W=>by
  have h:=qvalid_any (show SS W (.slice none 0 0) []from SliceAt.nil W 1)
  rw[s_none]at h
  exact h)
 have hno:=neqVote ⟨oc,on1,os,ov,ol⟩ ⟨oc,on1,os,ov,ol⟩
 rw[decide_eq_true rfl]at hno
 simp only[vagg,Bool.not_true]at HG1 HG2 hno
 obtain⟨⟨c0,⟨t0,t1⟩,o0,o1,o2,o3,o4⟩,-⟩:=HA2.out w18 br0
 go_upto_region 21 with(first | (go_at_call 21;(with_reducible refine(HG1.out _ HB18.out).mono ?_);rintro e w19 ⟨rfl,hb19⟩;have HB19:=zh hb19;clear c0 t0 t1 o0 o1 o2 o3 o4;obtain⟨⟨c0,⟨t0,t1⟩,o0,o1,o2,o3,o4⟩,-⟩:=HA2.out w19 HB19.out;clear hb19) | (go_at_call 21;(with_reducible refine(HG2.out _ (q_next HB18.out HB19.out)).mono ?_);rintro e w20 ⟨rfl,hb20⟩;have HB20:=zh (q_next HB19.out hb20);clear c0 t0 t1 o0 o1 o2 o3 o4;obtain⟨⟨c0,⟨t0,t1⟩,o0,o1,o2,o3,o4⟩,e0,e1,e2,e3,e4⟩:=HA2.out w20 HB20.out;clear hb20) | (go_at_call 53;(with_reducible refine(HVA.out _ (q_next HB18.out HB20.out)).mono ?_);rintro e w21 ⟨rfl,hbw21⟩;have HB21:=zh (q_next HB20.out hbw21);clear c0 t0 t1 o0 o1 o2 o3 o4;clear e0 e1 e2 e3 e4;obtain⟨⟨c0,⟨t0,t1⟩,o0,o1,o2,o3,o4⟩,e0,e1,e2,e3,e4⟩:=HA2.out w21 HB21.out;clear hbw21) | (go_at_call 53;(with_reducible refine(HVE.out _).mono ?_);rintro e w22 ⟨rfl,hbw22⟩;have HB22:=zh (q_next HB21.out hbw22);clear c0 t0 t1 o0 o1 o2 o3 o4;clear e0 e1 e2 e3 e4;obtain⟨⟨c0,⟨t0,t1⟩,o0,o1,o2,o3,o4⟩,e0,e1,e2,e3,e4⟩:=HA2.out w22 HB22.out;clear hbw22))
 have HBD:=zh (q_next HB18.out HB22.out)
 clear HB18 HB19 HB20 HB21 HB_w18 HB_w16 HS_w16 HS_w18 HB14 HB15 HB17 HV_w18 HV18 HG1 HG2 HVA HVE hno c0 t0 t1 o0 o1 o2 o3 o4 e0 e1 e2 e3 e4 HA2
 obtain⟨L1,hL1⟩:∃ L,(⟨1,55,0,x,L⟩:VoteP)=vS (madeQ 4) x 1:=⟨_,rfl⟩
 obtain⟨L2,hL2⟩:∃ L,(⟨2,55,0,x,L⟩:VoteP)=vS (madeQ 4) x 2:=⟨_,rfl⟩
 obtain⟨M1,hM1⟩:∃ L,(⟨1,55,0,y,L⟩:VoteP)=vS (madeQ 4) y 1:=⟨_,rfl⟩
 obtain⟨M2,hM2⟩:∃ L,(⟨2,55,0,y,L⟩:VoteP)=vS (madeQ 4) y 2:=⟨_,rfl⟩
 have HVP2:=HVP
 rw[← hL1,← hL2,← HO.out]at HVP2
 rw[← hL2,← hM2]at HD3
 rw[← hL2,← hM2,← hL1,← hM1]at HB3
 have HE1:=zh hL1
 have HE2:=zh hL2
 have HE4:=zh hM2
 clear hL1 hL2 hM1 hM2
 have HCA:Hid (∀(i:Nat) (v:ByteArray) (z:VoteP),i < 4→v.size=32→z=vS (madeQ 4) v i→∀ W,Below w13.heap.size w13 W→Calls Tryz.prog 43 #[.int .i64 i,.agg #[.int .i64 55,.int .i64 0],.string v] W fun e w'=>e=.returned (vagg z)∧Below W.heap.size W w'):=zh fun i v z hi hv hz W hW=>by
  have hE:=HE.out.step hW
  rw[hz,← castL_vS i hi v hv]
  exact castL_any i (by omega) 55 0 v W hE.env hE.round
 have HC0:=zh (HCA.out 0 x ⟨oc,on1,os,ov,ol⟩ (by omega) s1 HO.out)
 have HC1:=zh (HCA.out 1 x ⟨1,55,0,x,L1⟩ (by omega) s1 HE1.out)
 have HC2:=zh (HCA.out 2 x ⟨2,55,0,x,L2⟩ (by omega) s1 HE2.out)
 have HC3:=zh (HCA.out 2 y ⟨2,55,0,y,M2⟩ (by omega) s0 HE4.out)
 have HK1:=zh (qcheck_w HE.out HKS.out HVP.out 55 0 x true (s_check_x hk h4 s1 s0 hlt))
 have HK2:=zh (qcheck_w HE.out HKS.out HVP.out 55 0 y false (s_check_y hk h4 s1 s0 hlt))
 simp only[vagg,show((0:Nat):Int)=0 from rfl,show((1:Nat):Int)=1 from rfl,show((2:Nat):Int)=2 from rfl]at HC0 HC1 HC2 HC3
 refine wp_region_noPanic ?_
 refine wp_region_lexB [.q 0,.q 1,.q 2,.q 4,.q 5,.q 7,.q 8,.b 3,.b 6,.b 9,.an 10,.co 10,.b 11,.q 12,.q 13,.q 14,.q 15,.q 16,.b 17,.q 18,.q 19,.q 20,.q 21,.q 22,.q 23,.b 24,.q 25,.q 26,.q 27] (by kernel_rfl) (by kernel_rfl) (fun _ _ _ _ h=>h) ?_
 iterate 7(refine wpFl_qL (v:=?_) rfl (Or.inl ⟨by rfl,?_⟩) ?_;rotate_left;(focus(intro w' hSw;obtain⟨c0,⟨t0,t1⟩,-⟩:=HA.out w' (q_next HBD.out hSw);go_simp;(try with_reducible rfl);done));simp only[Act.put,zzA,zzB,zzC])
 refine wpFl_bL rfl (fun waa hnaa hsaa K hK=>?_)
 go_simp
 go_at_call 43
 (with_reducible refine(HC0.out _ (q_next HBD.out hsaa)).mono ?_)
 rintro e wba ⟨rfl,hba⟩
 refine hK.out _ _ (q_next hsaa hba) (Keeps.below hba) ?_
 clear hK K hnaa hsaa
 refine wpFl_bL rfl (fun wab hnab hsab K hK=>?_)
 go_simp
 go_at_call 43
 (with_reducible refine(HC1.out _ (q_next HBD.out hsab)).mono ?_)
 rintro e wbb ⟨rfl,hbb⟩
 refine hK.out _ _ (q_next hsab hbb) (Keeps.below hbb) ?_
 clear hK K hnab hsab
 refine wpFl_bL rfl (fun wac hnac hsac K hK=>?_)
 go_simp
 go_at_call 43
 (with_reducible refine(HC2.out _ (q_next HBD.out hsac)).mono ?_)
 rintro e wbc ⟨rfl,hbc⟩
 refine hK.out _ _ (q_next hsac hbc) (Keeps.below hbc) ?_
 clear hK K hnac hsac
 refine wpFl_anL rfl (.cells #[.int .i64 oc,.int .i64 on1,.int .i64 os,.string ov,.string ol,.int .i64 1,.int .i64 55,.int .i64 0,.string x,.string L1,.int .i64 2,.int .i64 55,.int .i64 0,.string x,.string L2] 27 (0,0)) (fun n=>.slice (some ⟨n,0,none⟩) 3 3) ⟨by rfl,fun w'=>?_⟩ ?_
 focus(go_simp;done)
 refine wpFl_coL rfl (.cells #[.int .i64 oc,.int .i64 on1,.int .i64 os,.string ov,.string ol,.int .i64 1,.int .i64 55,.int .i64 0,.string x,.string L1,.int .i64 2,.int .i64 55,.int .i64 0,.string x,.string L2] 27 (0,0)) (fun n=>.slice (some ⟨n,0,none⟩) 3 3) (by rfl) (N':=[]) (by rfl) (fun b3 w23 hn_w23 hs_w23 hb_b3 hz_b3=>?_)
 simp only[Act.put,zzA,zzB,zzC]
 refine wpFl_bL rfl (fun wad hnad hsad K hK=>?_)
 have HS3:=zh (sameV_any (HVP2.out.below (q_next HBD.out hsad)) (three_votes (v1:=⟨oc,on1,os,ov,ol⟩) (v2:=⟨1,55,0,x,L1⟩) (v3:=⟨2,55,0,x,L2⟩) ((hnad.block _ (ltA hz_b3)).trans hz_b3)))
 rw[decide_eq_true rfl]at HS3
 go_simp
 go_at_call 49
 (with_reducible refine HS3.out.mono ?_)
 rintro e wbd ⟨rfl,hbd⟩
 refine hK.out _ _ (q_next hsad hbd) (Keeps.below hbd) ?_
 clear hK K hnad hsad
 iterate 5(refine wpFl_qL (v:=?_) rfl (Or.inl ⟨by rfl,?_⟩) ?_;rotate_left;(focus(intro w' hSw;obtain⟨c0,⟨t0,t1⟩,-⟩:=HA.out w' (q_next HBD.out hSw);go_simp;(try with_reducible rfl);done));simp only[Act.put,zzA,zzB,zzC])
 refine wpFl_bL rfl (fun wae hnae hsae K hK=>?_)
 go_simp
 go_at_call 39
 (with_reducible refine(HK1.out _ (q_next HBD.out hsae)).mono ?_)
 rintro e wbe ⟨rfl,hbe⟩
 refine hK.out _ _ (q_next hsae hbe) (Keeps.below hbe) ?_
 clear hK K hnae hsae
 iterate 6(refine wpFl_qL (v:=?_) rfl (Or.inl ⟨by rfl,?_⟩) ?_;rotate_left;(focus(intro w' hSw;obtain⟨c0,⟨t0,t1⟩,-⟩:=HA.out w' (q_next HBD.out hSw);go_simp;(try with_reducible rfl);done));simp only[Act.put,zzA,zzB,zzC])
 refine wpFl_bL rfl (fun waf hnaf hsaf K hK=>?_)
 go_simp
 go_at_call 39
 (with_reducible refine(HK2.out _ (q_next HBD.out hsaf)).mono ?_)
 rintro e wbf ⟨rfl,hbf⟩
 have HBF:=zh (q_next hsaf hbf)
 refine hK.out _ _ (q_next hsaf hbf) (Keeps.below hbf) ?_
 clear hK K hnaf hsaf
 iterate 3(refine wpFl_qL (v:=?_) rfl (Or.inl ⟨by rfl,?_⟩) ?_;rotate_left;(focus(intro w' hSw;go_simp;(try with_reducible rfl);done));simp only[Act.put,zzA,zzB,zzC])
 refine wpFl_nil ?_
 refine NoPanic.normal ?_
 go_upto_region 22 with fail
 have HBE:=zh (q_next HBD.out HBF.out)
 clear HBF HS3 hba hbb hbc hbd hbe hbf hz_b3 hn_w23 hs_w23 hb_b3 HC0 HC1 HK1 HK2 HBD HB22
 obtain⟨db,do1,hda,hdb,hdv⟩:=HD3.out 0 _ rfl
 obtain⟨bb,bo1,hba,hbb,hbv0⟩:=HB3.out 0 _ rfl
 obtain⟨bb2,bo2,hba2,-,hbv1⟩:=HB3.out 1 _ rfl
 subst hda hba
 obtain⟨rfl,rfl⟩:bb2=bb∧bo2=bo1:=by
  injection hba2 with e
  injection e with e1 e2
  exact⟨e1.symm,e2.symm⟩
 rw[Nat.zero_mul,Nat.add_zero]at hdv hbv0
 rw[Nat.one_mul]at hbv1
 have HA3:=zh (fun W (hW:Below w13.heap.size w13 W)=>And.intro (HA.out W hW) (And.intro (hdv.keep hW hdb).ten (And.intro (hbv0.keep hW hbb).ten.1 (hbv1.keep hW hbb).ten)))
 have HQ1:=zh (eqlDouble2 (⟨2,55,0,x,L2⟩,⟨2,55,0,y,M2⟩) (⟨2,55,0,x,L2⟩,⟨2,55,0,y,M2⟩))
 have HV1:=zh (qconvicts_w HE.out HKS.out (⟨2,55,0,x,L2⟩,⟨2,55,0,y,M2⟩) true (by rw[HE2.out,HE4.out];exact s_convicts hk h4 s1 s0 hlt))
 have HV2:=zh (qconvicts_w HE.out HKS.out (⟨2,55,0,y,M2⟩,⟨2,55,0,x,L2⟩) false (by rw[HE2.out,HE4.out];exact s_convicts_no hk h4 s1 s0 hlt))
 rw[decide_eq_true rfl]at HQ1
 simp only[dagg,dagg2]at HQ1 HV1 HV2
 clear HD3 HB3 hdv hbv0 hbv1 hba2 HVP2 HVP
 have hq1:=HQ1.out
 refine wp_region_noPanic ?_
 refine wp_region_lexB [.q 0,.q 1,.q 2,.q 3,.q 4,.q 6,.q 7,.b 5,.b 8,.q 9,.q 10,.q 11,.q 12,.q 13,.q 14,.q 15,.q 16,.q 17,.q 18,.q 19,.q 20,.q 21,.q 22,.q 23,.q 24,.q 25,.q 26,.q 27,.q 28,.q 29,.q 30,.q 31,.q 32,.b 33,.q 34,.q 35,.q 36,.q 37,.q 38,.q 39,.q 40,.q 41,.q 42,.q 43,.q 44,.q 45,.b 46,.q 47,.q 48,.q 49] (by kernel_rfl) (by kernel_rfl) (fun _ _ _ _ h=>h) ?_
 iterate 7(refine wpFl_qL (v:=?_) rfl (Or.inl ⟨by rfl,?_⟩) ?_;rotate_left;(focus(intro w' hSw;obtain⟨⟨c0,⟨t0,t1⟩,-⟩,⟨d0,d1,d2,d3,d4,d5,d6,d7,d8,d9⟩,e0,f0,f1,f2,f3,f4,f5,f6,f7,f8,f9⟩:=HA3.out w' (q_next HBE.out hSw);go_simp;(try with_reducible rfl);done));simp only[Act.put,zzA,zzB,zzC])
 refine wpFl_bL rfl (fun waa hnaa hsaa K hK=>?_)
 go_simp
 go_at_call 43
 (with_reducible refine(HC2.out _ (q_next HBE.out hsaa)).mono ?_)
 rintro e wba ⟨rfl,hba⟩
 refine hK.out _ _ (q_next hsaa hba) (Keeps.below hba) ?_
 clear hK K hnaa hsaa
 refine wpFl_bL rfl (fun wab hnab hsab K hK=>?_)
 go_simp
 go_at_call 43
 (with_reducible refine(HC3.out _ (q_next HBE.out hsab)).mono ?_)
 rintro e wbb ⟨rfl,hbb⟩
 refine hK.out _ _ (q_next hsab hbb) (Keeps.below hbb) ?_
 clear hK K hnab hsab
 iterate 24(refine wpFl_qL (v:=?_) rfl (Or.inl ⟨by rfl,?_⟩) ?_;rotate_left;(focus(intro w' hSw;obtain⟨⟨c0,⟨t0,t1⟩,-⟩,⟨d0,d1,d2,d3,d4,d5,d6,d7,d8,d9⟩,e0,f0,f1,f2,f3,f4,f5,f6,f7,f8,f9⟩:=HA3.out w' (q_next HBE.out hSw);go_simp;(try with_reducible rfl);done));simp only[Act.put,zzA,zzB,zzC])
 refine wpFl_bL rfl (fun wac hnac hsac K hK=>?_)
 go_simp
 go_at_call 26
 (with_reducible refine(HV1.out _ (q_next HBE.out hsac)).mono ?_)
 rintro e wbc ⟨rfl,hbc⟩
 refine hK.out _ _ (q_next hsac hbc) (Keeps.below hbc) ?_
 clear hK K hnac hsac
 iterate 12(refine wpFl_qL (v:=?_) rfl (Or.inl ⟨by rfl,?_⟩) ?_;rotate_left;(focus(intro w' hSw;obtain⟨⟨c0,⟨t0,t1⟩,-⟩,⟨d0,d1,d2,d3,d4,d5,d6,d7,d8,d9⟩,e0,f0,f1,f2,f3,f4,f5,f6,f7,f8,f9⟩:=HA3.out w' (q_next HBE.out hSw);go_simp;(try with_reducible rfl);done));simp only[Act.put,zzA,zzB,zzC])
 refine wpFl_bL rfl (fun wad hnad hsad K hK=>?_)
 go_simp
 go_at_call 26
 (with_reducible refine(HV2.out _ (q_next HBE.out hsad)).mono ?_)
 rintro e wbd ⟨rfl,hbd⟩
 have HBF:=zh (q_next hsad hbd)
 refine hK.out _ _ (q_next hsad hbd) (Keeps.below hbd) ?_
 clear hK K hnad hsad
 iterate 3(refine wpFl_qL (v:=?_) rfl (Or.inl ⟨by rfl,?_⟩) ?_;rotate_left;(focus(intro w' hSw;go_simp;(try with_reducible rfl);done));simp only[Act.put,zzA,zzB,zzC])
 refine wpFl_nil ?_
 refine NoPanic.normal ?_
 have HBG:=zh (q_next HBE.out HBF.out)
 clear HBF hba hbb hbc hbd HC2 HC3 HV1 HV2 HQ1 hq1 HA3
 obtain⟨c0,⟨t0,t1⟩,-⟩:=HA.out _ HBG.out
 have HT1:=zh (tallies_w HE.out HKS.out HPOOL.out 55 0 [(x,3),(y,2)] (s_tally hk h4 s1 s0 hlt) _ HBG.out)
 have HST:Hid (∀(W:World) (v:Value),TS W v [(x,3),(y,2)]→Calls Tryz.prog 45 #[v,.slice (some ⟨W.heap.size,0,none⟩) 2 2] (W.alloc (.cells #[.string x,.int .i64 3,.string y,.int .i64 2] 68)) fun e w'=>e=.returned (.bool true)∧Below W.heap.size W w'):=zh fun W v hv=>by
  have ha:=(Below.refl W.heap.size W).alloc (Nat.le_refl _) (.cells #[.string x,.int .i64 3,.string y,.int .i64 2] 68)
  have h:=sameT_any (hv.below ha) (two_tallies (heap_alloc_new W (.cells #[.string x,.int .i64 3,.string y,.int .i64 2] 68)))
  rw[decide_eq_true rfl]at h
  exact h.mono fun e w' ⟨h1,h2⟩=>⟨h1,q_next ha h2⟩
 go_wp2_with (first | (go_at_call 38;(with_reducible refine HT1.out.mono ?_);rintro e w24 ⟨vt,rfl,htt,hbt⟩;have HTT:=zh htt;have HBT:=zh (q_next HBG.out hbt);clear htt hbt) | (go_at_call 45;(with_reducible refine(HST.out w24 vt HTT.out).mono ?_);rintro e w25 ⟨rfl,hb25⟩))
 go_ret
 exact⟨rfl,HBW.out.trans ((q_next HBT.out hb25).mono HBW.out.size)⟩
end Go.Proofs.YtggdcnjaofflbaaGreatDoor
