/- TopReclaims, plain: the texts of wishes, the entries of cases, their lengths. No condition. -/
import Derived.Test.YtjjiikeldpjafaaGreatDoorTT09
namespace Go.Proofs.YtjjiikeldpjafaaGreatDoor
theorem grp_lenT:∀(f z:Nat),1≤(grp f z).length∧(grp f z).length≤f+1
 | 0,_=>⟨Nat.le_refl _,Nat.le_refl _⟩
 | f+1,z=>by
  have h:=grp_lenT f (z / 128)
  unfold grp
  split
  ·exact⟨Nat.le_refl _,by simp⟩
  ·rw[List.length_cons]
   omega
theorem putN_lenT (n:Int):1≤(putN n).length∧(putN n).length≤4:=grp_lenT 3 _
theorem putsN_len:∀ l:List Int,(putsN l).length≤4*l.length
 | []=>by decide
 | n::l=>by
  have h:=putsN_len l
  have h2:=(putN_lenT n).2
  have e:putsN (n::l)=putN n++putsN l:=List.flatMap_cons
  rw[e,List.length_append,List.length_cons]
  omega
theorem putsN_cons (n:Int)(l:List Int):putsN (n::l)=putN n++putsN l:=List.flatMap_cons
theorem putsN_snoc (l:List Int)(n:Int):putsN (l++[n])=putsN l++putN n:=by
 unfold putsN
 rw[List.flatMap_append]
 simp
def proxL (p:ProxP):List UInt8:=putsN (proxI p)++p.sl.data.toList
def proxsL (l:List ProxP):List UInt8:=l.flatMap proxL
theorem proxsL_cons (p:ProxP)(l:List ProxP):proxsL (p::l)=proxL p++proxsL l:=List.flatMap_cons
theorem proxsL_snoc (l:List ProxP)(p:ProxP):proxsL (l++[p])=proxsL l++proxL p:=by
 unfold proxsL
 rw[List.flatMap_append]
 simp
def wishLT (w:WishP):List UInt8:=putsN (wishI w)++w.sl.data.toList
def textL (w:WishP)(l:List ProxP):List UInt8:=putN l.length++(proxsL l++wishLT w)
def encW (w:WishP)(l:List ProxP):ByteArray:=bytesOf (textL w l)
theorem size_list (s:ByteArray):s.data.toList.length=s.size:=by
 rw[Array.length_toList]
 rfl
theorem proxL_len {p:ProxP}(h:p.sl.size=32):(proxL p).length≤60:=by
 have h1:=putsN_len (proxI p)
 have e:(proxI p).length=7:=rfl
 unfold proxL
 rw[List.length_append,size_list,h]
 omega
theorem proxsL_len:∀ {l:List ProxP},(∀ p∈l,p.sl.size=32)→(proxsL l).length≤60*l.length
 | [],_=>by decide
 | p::l,h=>by
  have h1:=proxL_len (h p List.mem_cons_self)
  have h2:=proxsL_len (l:=l) (fun q hq=>h q (List.mem_cons_of_mem _ hq))
  rw[proxsL_cons,List.length_append,List.length_cons]
  omega
theorem textL_len {w:WishP}{l:List ProxP}(hw:w.sl.size=32)(hl:l.length≤4)(h:∀ p∈l,p.sl.size=32):(textL w l).length≤312:=by
 have h1:=proxsL_len h
 have h2:=(putN_lenT l.length).2
 have h3:=putsN_len (wishI w)
 have e:(wishI w).length=9:=rfl
 unfold textL wishLT
 rw[List.length_append,List.length_append,List.length_append,size_list,hw]
 omega
def caseL (num at':Int)(ev:ByteArray):List UInt8:=putN num++(putN at'++(putN ev.size++ev.data.toList))
def caseB (num at':Int)(ev:ByteArray):ByteArray:=bytesOf (caseL num at' ev)
theorem caseB_size (num at':Int)(ev:ByteArray):(caseB num at' ev).size≤ev.size+12:=by
 have h1:=(putN_lenT num).2
 have h2:=(putN_lenT at').2
 have h3:=(putN_lenT ev.size).2
 unfold caseB caseL
 rw[bytesOf_size,List.length_append,List.length_append,List.length_append,size_list]
 omega
theorem int_at {s:ByteArray}{a:Nat}{n:Int}{rest:List UInt8}(h:s.data.toList.drop a=putN n++rest)(hn:0≤n∧n≤99999999) :
  intL 9 0 0 (s.data.toList.drop a)=some (n,(putN n).length)∧a+(putN n).length≤s.size∧s.data.toList.drop (a+(putN n).length)=rest:=by
 have h0:=(putN_lenT n).1
 have hl:(s.data.toList.drop a).length=(putN n).length+rest.length:=by rw[h,List.length_append]
 rw[List.length_drop,size_list]at hl
 refine⟨by rw[h];exact int_put hn rest,by omega,?_⟩
 rw[← List.drop_drop,h,List.drop_left]
theorem bytes_at {s:ByteArray}{a:Nat}{d:ByteArray}{rest:List UInt8}(h:s.data.toList.drop a=d.data.toList++rest)(hd:0 < d.size) :
  a+d.size≤s.size∧s.extract a (a+d.size)=d∧s.data.toList.drop (a+d.size)=rest:=by
 have hl:(s.data.toList.drop a).length=d.size+rest.length:=by rw[h,List.length_append,size_list]
 rw[List.length_drop,size_list]at hl
 have h1:a+d.size≤s.size:=by omega
 refine⟨h1,?_,?_⟩
 ·apply ByteArray.ext
  rw[ByteArray.data_extract]
  apply Array.ext'
  rw[Array.toList_extract,List.extract_eq_take_drop,h,Nat.add_sub_cancel_left]
  rw[List.take_left' (size_list d)]
 ·rw[← List.drop_drop,h,List.drop_left' (size_list d)]
open Go.RowKit Go.BigFrame
set_option maxHeartbeats 400000 in
theorem pickT_any (c n:Int)(w:World)(hc:I64 c)(hn:0 < n)(hn':n≤9223372036854775807) :
  Calls Tryz.prog 6 #[.int .i64 c,.int .i64 n] w fun e w'=>e=.returned (.int .i64 (pickI c n))∧w'=w:=by
 obtain⟨hc1,hc2⟩:=hc
 by_cases h:c < 0
 ·go_enter Tryz.func6,Tryz.ntmps6
  go_wp2
  go_ret
  exact⟨ret_int (by rw[pickI,if_pos h,← Int.tmod_eq_emod_of_nonneg (by omega),Int.neg_tmod]),rfl⟩
 ·go_enter Tryz.func6,Tryz.ntmps6
  go_wp2
  go_ret
  exact⟨ret_int (by rw[pickI,if_neg (by omega)]),rfl⟩
set_option maxHeartbeats 400000 in
theorem pick15_any (c n:Int)(w:World)(hc:I64 c)(hn:0 < n)(hn':n≤9223372036854775807) :
  Calls Tryz.prog 56 #[.int .i64 c,.int .i64 n] w fun e w'=>e=.returned (.int .i64 (pickI c n))∧w'=w:=by
 obtain⟨hc1,hc2⟩:=hc
 by_cases h:c < 0
 ·go_enter Tryz.func56,Tryz.ntmps56
  go_wp2
  go_ret
  exact⟨ret_int (by rw[pickI,if_pos h,← Int.tmod_eq_emod_of_nonneg (by omega),Int.neg_tmod]),rfl⟩
 ·go_enter Tryz.func56,Tryz.ntmps56
  go_wp2
  go_ret
  exact⟨ret_int (by rw[pickI,if_neg (by omega)]),rfl⟩
set_option maxHeartbeats 400000 in
theorem pick16_any (c n:Int)(w:World)(hc:I64 c)(hn:0 < n)(hn':n≤9223372036854775807) :
  Calls Tryz.prog 37 #[.int .i64 c,.int .i64 n] w fun e w'=>e=.returned (.int .i64 (pickI c n))∧w'=w:=by
 obtain⟨hc1,hc2⟩:=hc
 by_cases h:c < 0
 ·go_enter Tryz.func37,Tryz.ntmps37
  go_wp2
  go_ret
  exact⟨ret_int (by rw[pickI,if_pos h,← Int.tmod_eq_emod_of_nonneg (by omega),Int.neg_tmod]),rfl⟩
 ·go_enter Tryz.func37,Tryz.ntmps37
  go_wp2
  go_ret
  exact⟨ret_int (by rw[pickI,if_neg (by omega)]),rfl⟩
theorem full_blockT {w:World}{base g n:Nat}{e:TypeId}{xs:List Value}(h:w.ownsRow base e 1 (.slice (some ⟨g,0,none⟩) n n) n xs):w.heap[g]?=some (.cells xs.toArray e (0,0)):=by
 rcases h.2 with⟨h1,_⟩ | ⟨g',cap,cur,hv,_,hg,_,_,hs,ht⟩
 ·cases h1
 ·injection hv with e1 e2 e3
  injection e1 with e1
  injection e1 with e1 _ _
  subst e1 e3
  rw[hg]
  congr 2
  have:cur.toList.take (n*1)=cur.toList:=List.take_of_length_le (by rw[Array.length_toList,hs];exact Nat.le_refl _)
  rw[this]at ht
  rw[← ht]
theorem keyS_strT (c:Nat):keyS (c:Int)=strOf (List.replicate 32 ((100+c) % 256)):=by
 unfold keyS strOf
 rw[List.map_replicate,show((100:Int)+(c:Int)).toNat=100+c by omega]
theorem keyW_str (c:Nat):keyW (c:Int)=strOf (List.replicate 32 (c % 256)):=by
 unfold keyW strOf
 rw[List.map_replicate,show((c:Int)).toNat=c by omega]
theorem zero32T:(madeCells (Value.int .u8 0).cells (32*1)).toList.toArray=bytesC 32 (lg []):=by kernel_rfl
set_option maxHeartbeats 1000000 in
set_option maxRecDepth 100000 in
theorem key18_any (c:Nat)(hc:c≤1000)(w:World):Calls Tryz.prog 17 #[.int .i64 c] w fun e w'=>e=.returned (.string (keyS c))∧Below w.heap.size w w':=by
 rw[keyS_strT]
 obtain⟨y,hy⟩:∃ y,y=(100+c) % 256:=⟨_,rfl⟩
 have hyl:y < 256:=by omega
 have HY:Hid (((100:Int)+(c:Int)) % 256=(y:Int)):=zh (by omega)
 rw[← hy]
 clear hy
 obtain⟨i0,hi0,hz0,hz1,hz2⟩:=info_parts infoByte
 go_enter Tryz.func17,Tryz.ntmps17
 go_wp2_with (at_make;refine wpList_make_full _ rfl _ _ 88 rfl w.heap.size 5 i0 _ 1 (by kernel_rfl) hi0 hz0 hz1 _ _ 32 32 32 rfl rfl rfl rfl (by rw[hz2];decide) (by decide) (Nat.le_refl _) ?_;intro w1 hown1 hgr1;have HO1:=zh (full_blockT hown1);have HB1:Hid (Below w.heap.size w w1):=zh ((Below.refl w.heap.size w).grown hgr1 (Nat.le_refl _) (fun j e=>by cases e));clear hown1 hgr1)
 have HC0:Hid (w1.heap[w.heap.size]?=some (.cells (bytesC 32 (lg (List.replicate 0 y))) 5 (0,0))):=zh (by rw[HO1.out,zero32T];rfl)
 go_loopw [4] (fun i wr=>∃ k:Nat,k≤32∧i=.int .i64 k∧Hid (wr.heap[w.heap.size]?=some (.cells (bytesC 32 (lg (List.replicate k y))) 5 (0,0)))∧Hid (Below w.heap.size w wr)) (fun i _=>32 - (intOf i).toNat)
 case atStart=>exact⟨0,by omega,rfl,HC0,HB1⟩
 case round =>
  obtain⟨k,hk,rfl,hC,hB⟩:=hrel
  by_cases hlt:k < 32
  ·have b1:(0:Int)≤(k:Int)∧(k:Int) < 32:=by omega
   have c1:wr.cell? ⟨w.heap.size,k,none⟩=some (.int .u8 (lg (List.replicate k y) k:Nat)):=by rw[cell_of_row wr _ k _ _ _ hC.out,bytesC_get _ _ _ hlt]
   have g1:wr.frozen? ⟨w.heap.size,k,none⟩=false:=by simp[World.frozen?,hC.out]
   have f1:IntKind.i64.wrap (100+(c:Int))=100+(c:Int):=IntWalk.i64_in _ (by omega)
   obtain⟨b11,b12⟩:=b1
   go_wp2
   go_roundw
   case rel =>
    refine⟨k+1,by omega,by go_num,?_,?_⟩
    ·show(World.setCell _ _ _).heap[w.heap.size]?=_
     rw[heap_setCell_same _ hC.out,HY.out,bytesC_snoc 32 _ y k (by rw[List.length_replicate]) hlt,List.replicate_succ']
    ·exact hB.out.grown (grown_setCell (grown_refl _ _) ⟨w.heap.size,k,none⟩ (.inl rfl) _) hB.out.size (fun j e=>by cases e;exact Nat.le_refl _)
   case measure=>simp[intOf];omega
  ·have ek:k=32:=by omega
   subst ek
   have HCl:Hid (∀ j z,(List.replicate 32 y)[j]?=some z→wr.cell? ⟨w.heap.size,0+j,none⟩=some (.int .u8 (z:Nat))):=zh (fun j z hj=>by
    have hj32:j < 32:=by
     have:=(List.getElem?_eq_some_iff.1 hj).1
     rw[List.length_replicate]at this
     exact this
    rw[Nat.zero_add,cell_of_row wr _ j _ _ _ hC.out,bytesC_get _ _ _ hj32]
    unfold lg
    rw[List.getD_eq_getElem?_getD,hj]
    rfl)
   go_wp2_with (refine wpList_convS (List.replicate 32 y) (fun z hz=>by rw[List.eq_of_mem_replicate hz];exact hyl) 88 9 5 _ w.heap.size 0 32 32 rfl rfl rfl (by rw[List.length_replicate]) (by kernel_rfl) (by kernel_rfl) (by kernel_rfl) HCl.out ?_)
   go_ret
   exact⟨rfl,hB.out⟩
set_option maxHeartbeats 1000000 in
set_option maxRecDepth 100000 in
theorem key15_any (c:Nat)(_hc:c≤1000)(w:World):Calls Tryz.prog 5 #[.int .i64 c] w fun e w'=>e=.returned (.string (keyW c))∧Below w.heap.size w w':=by
 rw[keyW_str]
 obtain⟨y,hy⟩:∃ y,y=c % 256:=⟨_,rfl⟩
 have hyl:y < 256:=by omega
 have HY:Hid ((c:Int) % 256=(y:Int)):=zh (by omega)
 rw[← hy]
 clear hy
 obtain⟨i0,hi0,hz0,hz1,hz2⟩:=info_parts infoByte
 go_enter Tryz.func5,Tryz.ntmps5
 go_wp2_with (at_make;refine wpList_make_full _ rfl _ _ 88 rfl w.heap.size 5 i0 _ 1 (by kernel_rfl) hi0 hz0 hz1 _ _ 32 32 32 rfl rfl rfl rfl (by rw[hz2];decide) (by decide) (Nat.le_refl _) ?_;intro w1 hown1 hgr1;have HO1:=zh (full_blockT hown1);have HB1:Hid (Below w.heap.size w w1):=zh ((Below.refl w.heap.size w).grown hgr1 (Nat.le_refl _) (fun j e=>by cases e));clear hown1 hgr1)
 have HC0:Hid (w1.heap[w.heap.size]?=some (.cells (bytesC 32 (lg (List.replicate 0 y))) 5 (0,0))):=zh (by rw[HO1.out,zero32T];rfl)
 go_loopw [4] (fun i wr=>∃ k:Nat,k≤32∧i=.int .i64 k∧Hid (wr.heap[w.heap.size]?=some (.cells (bytesC 32 (lg (List.replicate k y))) 5 (0,0)))∧Hid (Below w.heap.size w wr)) (fun i _=>32 - (intOf i).toNat)
 case atStart=>exact⟨0,by omega,rfl,HC0,HB1⟩
 case round =>
  obtain⟨k,hk,rfl,hC,hB⟩:=hrel
  by_cases hlt:k < 32
  ·have b1:(0:Int)≤(k:Int)∧(k:Int) < 32:=by omega
   have c1:wr.cell? ⟨w.heap.size,k,none⟩=some (.int .u8 (lg (List.replicate k y) k:Nat)):=by rw[cell_of_row wr _ k _ _ _ hC.out,bytesC_get _ _ _ hlt]
   have g1:wr.frozen? ⟨w.heap.size,k,none⟩=false:=by simp[World.frozen?,hC.out]
   obtain⟨b11,b12⟩:=b1
   go_wp2
   go_roundw
   case rel =>
    refine⟨k+1,by omega,by go_num,?_,?_⟩
    ·show(World.setCell _ _ _).heap[w.heap.size]?=_
     rw[heap_setCell_same _ hC.out,HY.out,bytesC_snoc 32 _ y k (by rw[List.length_replicate]) hlt,List.replicate_succ']
    ·exact hB.out.grown (grown_setCell (grown_refl _ _) ⟨w.heap.size,k,none⟩ (.inl rfl) _) hB.out.size (fun j e=>by cases e;exact Nat.le_refl _)
   case measure=>simp[intOf];omega
  ·have ek:k=32:=by omega
   subst ek
   have HCl:Hid (∀ j z,(List.replicate 32 y)[j]?=some z→wr.cell? ⟨w.heap.size,0+j,none⟩=some (.int .u8 (z:Nat))):=zh (fun j z hj=>by
    have hj32:j < 32:=by
     have:=(List.getElem?_eq_some_iff.1 hj).1
     rw[List.length_replicate]at this
     exact this
    rw[Nat.zero_add,cell_of_row wr _ j _ _ _ hC.out,bytesC_get _ _ _ hj32]
    unfold lg
    rw[List.getD_eq_getElem?_getD,hj]
    rfl)
   go_wp2_with (refine wpList_convS (List.replicate 32 y) (fun z hz=>by rw[List.eq_of_mem_replicate hz];exact hyl) 88 9 5 _ w.heap.size 0 32 32 rfl rfl rfl (by rw[List.length_replicate]) (by kernel_rfl) (by kernel_rfl) (by kernel_rfl) HCl.out ?_)
   go_ret
   exact⟨rfl,hB.out⟩
def tookA (s:Nat)(t:List Nat):Array Bool:=((List.range s).map fun j=>t.contains j).toArray
theorem tookA_nil (s:Nat):tookA s []=Array.replicate s false:=by
 apply Array.ext
 ·simp[tookA]
 ·intro i h1 h2
  simp[tookA]
theorem tookA_cons (s k:Nat)(t:List Nat):(tookA s t).setIfInBounds k true=tookA s (k::t):=by
 apply Array.ext
 ·simp[tookA]
 ·intro i h1 h2
  rw[Array.getElem_setIfInBounds (by simpa using h1)]
  by_cases h:k=i
  ·subst h;simp[tookA]
  ·rw[if_neg h]
   simp[tookA]
   exact fun e=>absurd e.symm h
theorem tookA_getD (s j:Nat)(t:List Nat)(d:Bool):(tookA s t).getD j d=if j < s then t.contains j else d:=by
 unfold tookA Array.getD
 by_cases h:j < s
 ·simp[h]
 ·simp[h]
section
variable {P:Program} {ops:Array Oper} {Q:Exit→Act→World→Prop} {md:Region.Mode} {S:World→Prop} {bigs:List Nat}
end
end Go.Proofs.YtjjiikeldpjafaaGreatDoor
