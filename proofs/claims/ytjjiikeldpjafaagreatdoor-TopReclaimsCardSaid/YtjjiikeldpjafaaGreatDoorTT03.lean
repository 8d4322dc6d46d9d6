/- The walk of digest.Sum. The conditions: the string's length, the table of constants. -/
import Derived.Test.YtjjiikeldpjafaaGreatDoorTT02
import Derived.Shelf.Strings.Builder1
import Derived.Shelf.Strings.Builder2
import Derived.Shelf.Strings.OnBuilder
import Derived.Shelf.Small.Bits
import Derived.Shelf.Slices.ReverseS
import Derived.Shelf.Slices.Cells
namespace Go.Proofs.YtjjiikeldpjafaaGreatDoor
open Go.RowKit Go.BigFrame Go.Shelf
attribute [local go_sem] Oper.semAt_some
theorem sumS_eq (s:ByteArray):sumS s=strOf (shaN (bytesS s)):=rfl
theorem padN_lt (l:List Nat)(h:∀ y∈l,y < 256):∀ y∈padN l,y < 256:=by
 intro y hy
 unfold padN lenBytes at hy
 simp only[List.mem_append,List.mem_cons,List.mem_replicate,List.not_mem_nil,or_false]at hy
 rcases hy with hy | rfl | ⟨_,rfl⟩ | hy
 ·exact h y hy
 ·omega
 ·omega
 ·rcases hy with rfl | rfl | rfl | rfl | rfl | rfl | rfl | rfl <;> omega
def upB (b:List Nat):Nat→H8
 | 0=>h0N
 | k+1=>blockH (upB b k) ((b.drop (64*k)).take 64)
theorem blocksF_up (n:Nat)(b:List Nat)(h:H8)(f:Nat→H8)(h0:f 0=h)(hs:∀ k,k < n→f (k+1)=blockH (f k) ((b.drop (64*k)).take 64)):blocksF n h b=f n:=by
 induction n generalizing b h f with
 | zero=>exact h0.symm
 | succ n ih =>
  unfold blocksF
  refine ih (b.drop 64) _ (fun j=>f (j+1)) ?_ ?_
  ·rw[hs 0 (by omega),h0];simp
  ·intro k hk
   rw[hs (k+1) (by omega),List.drop_drop,show 64+64*k=64*(k+1) by omega]
theorem shaN_up (l:List Nat)(n:Nat)(h:(padN l).length=64*n):shaN l=bytesOfH (upB (padN l) n):=by
 unfold shaN
 rw[h,Nat.mul_div_cancel_left _ (by omega),blocksF_up n (padN l) h0N (upB (padN l)) rfl (fun _ _=>rfl)]
theorem upB_32 (b:List Nat)(k:Nat):H32 (upB b k):=by
 cases k with
 | zero=>unfold upB h0N H32;decide
 | succ k=>exact H32.add _ _
theorem infoByte:(Tryz.prog.info? 5).map (fun i=>(i.zero,i.size,i.bytes))=some (some (.int .u8 0),1,1):=by kernel_rfl
theorem lenBytes_get (n m:Nat)(h:m < 8):(lenBytes n)[m]?=some (8*n / 2 ^ (8*(7 - m)) % 256):=by
 match m,h with
 | 0,_ | 1,_ | 2,_ | 3,_ | 4,_ | 5,_ | 6,_=>rfl
 | 7,_=>simp[lenBytes]
theorem padN_eq (l:List Nat):padN l=(l++128::List.replicate (zerosN l.length) 0)++lenBytes l.length:=by
 unfold padN
 rw[List.append_assoc];rfl
def foldB {N:Nat}(D:List Nat)(h:H8)(xs:List (Fin N)):H8:=xs.foldl (fun h k=>blockH h ((D.drop (64*k.1)).take 64)) h
theorem foldB_snoc {N:Nat}(D:List Nat)(h:H8)(xs:List (Fin N))(x:Fin N):foldB D h (xs++[x])=blockH (foldB D h xs) ((D.drop (64*x.1)).take 64):=by simp[foldB]
theorem foldB_32 {N:Nat}(D:List Nat)(h:H8)(hh:H32 h)(xs:List (Fin N)):H32 (foldB D h xs):=by
 induction xs generalizing h with
 | nil=>exact hh
 | cons x xs ih =>
  have:=ih (blockH h ((D.drop (64*x.1)).take 64)) (H32.add _ _)
  simpa [foldB]using this
theorem foldB_all {N:Nat}(D:List Nat)(xs:List (Fin N))(h:xs.map (fun x=>x.1)=List.range N):foldB D h0N xs=upB D N:=by
 have key:∀ m,(List.range m).foldl (fun h k=>blockH h ((D.drop (64*k)).take 64)) h0N=upB D m:=by
  intro m
  induction m with
  | zero=>rfl
  | succ m ih=>rw[List.range_succ,List.foldl_append,ih,List.foldl_cons,List.foldl_nil,upB]
 rw[← key N,← h,List.foldl_map]
 unfold foldB
 rfl
theorem chunk_slice {W:World}{g N k:Nat}{o:Obj}{D:List Nat}(hcl:∀ W:World,W.heap[g]?=some o→∀ j y,D[j]?=some y→W.cell? ⟨g,j,none⟩=some (.int .u8 (y:Nat)))(hD:D.length=64*N)(hk:k < N)(hW:W.heap[g]?=some o) :
  SliceAt W (.slice (some ⟨g,64*k,none⟩) 64 64) 1 (bcells ((D.drop (64*k)).take 64)):=by
 have hl:((D.drop (64*k)).take 64).length=64:=by rw[List.length_take,List.length_drop];omega
 refine⟨_,64,by unfold bcells;rw[List.length_map,hl],by unfold bcells;rw[List.length_map,hl];exact Nat.le_refl _,by decide,.inr ⟨g,64*k,rfl,(ltA hW),fun i c hi j u hj=>?_⟩⟩
 unfold bcells at hi
 rw[List.getElem?_map]at hi
 cases hx:((D.drop (64*k)).take 64)[i]? with
 | none=>rw[hx]at hi;cases hi
 | some y =>
  rw[hx]at hi
  cases hi
  match j,hj with
  | 0,hj =>
   cases hj
   rw[List.getElem?_take]at hx
   split at hx
   ·rw[List.getElem?_drop]at hx
    have:=hcl W hW _ y hx
    simpa using this
   ·cases hx
theorem chunk_len {D:List Nat}{N k:Nat}(hD:D.length=64*N)(hk:k < N):((D.drop (64*k)).take 64).length=64:=by rw[List.length_take,List.length_drop];omega
theorem chunk_lt {D:List Nat}(h:∀ y∈D,y < 256)(k:Nat):∀ y∈(D.drop (64*k)).take 64,y < 256:=fun y hy=>h y (List.mem_of_mem_drop (List.mem_of_mem_take hy))
def vlen:Value→Nat
 | .slice _ n _=>n
 | _=>0
theorem BufB.block {w:World}{base:Nat}{v:Value}{xs:List Nat}(h:BufB w base v xs):∃ g cap o,v=.slice (some ⟨g,0,none⟩) xs.length cap∧xs.length≤cap∧cap≤maxLen∧g < w.heap.size∧w.heap[g]?=some o∧base≤g∧∀ W:World,W.heap[g]?=some o→∀ j y,xs[j]?=some y→W.cell? ⟨g,j,none⟩=some (.int .u8 (y:Nat)):=by
 obtain⟨g,cap,rfl,h1,h2,h3,h4,h5,h6⟩:=h
 refine⟨g,cap,w.heap[g],rfl,h1,h2,h4,Array.getElem?_eq_getElem h4,h3,fun W hW j y hj=>?_⟩
 have e:W.cell? ⟨g,j,none⟩=w.cell? ⟨g,j,none⟩:=by
  simp[World.cell?,hW,Array.getElem?_eq_getElem h4]
 rw[e];exact h5 j y hj
theorem BufB.form {w:World}{base:Nat}{v:Value}{xs:List Nat}(h:BufB w base v xs):∃ g cap,v=.slice (some ⟨g,0,none⟩) xs.length cap:=by
 obtain⟨g,cap,rfl,_⟩:=h
 exact⟨g,cap,rfl⟩
def SumAt (w W:World)(v:Value)(xs:List Nat):Prop:=Below w.heap.size w W∧W.heap[w.heap.size]?=some (.cells (hcells h0N) 281 (0,0))∧BufB W (w.heap.size+1) v xs
theorem SumAt.size {w W:World}{v:Value}{xs:List Nat}(h:SumAt w W v xs):w.heap.size+1≤W.heap.size:=(ltA h.2.1)
theorem SumAt.alloc {w W:World}{v:Value}{xs:List Nat}(h:SumAt w W v xs)(o:Obj):SumAt w (W.alloc o) v xs :=
 ⟨h.1.alloc h.1.size _,(Below.heap_alloc _ _ _ h.size).trans h.2.1,h.2.2.keep (br0.alloc (Nat.le_refl _) _)⟩
theorem SumAt.next {w W W':World}{v v':Value}{xs ys:List Nat}(h:SumAt w W v xs)(hb:Below (w.heap.size+1) W W')(h':BufB W' (w.heap.size+1) v' ys):SumAt w W' v' ys :=
 ⟨h.1.trans (hb.mono (by omega)),(hb.block _ (by omega)).trans h.2.1,h'⟩
theorem SumAt.start (w:World){W':World}{v:Value}{xs:List Nat}(hb:Below (w.alloc (.cells (hcells h0N) 281)).heap.size (w.alloc (.cells (hcells h0N) 281)) W')(h':BufB W' (w.heap.size+1) v xs):SumAt w W' v xs:=by
 refine⟨(br0.alloc (Nat.le_refl _) _).trans (hb.mono (by simp)),(hb.block _ (by simp)).trans (heap_alloc_new _ _),h'⟩
theorem SumAt.len {w W:World}{v:Value}{xs:List Nat}(h:SumAt w W v xs):xs.length=vlen v:=by
 obtain⟨g,cap,rfl⟩:=h.2.2.form
 rfl
set_option maxHeartbeats 4000000 in
set_option maxRecDepth 100000 in
theorem sum_any (s:ByteArray)(w:World)(hs:s.size≤1000000000)(he:Env w)(hg:0 < w.heap.size) :
  Calls Tryz.prog 140 #[.string s] w fun e w'=>e=.returned (.string (sumS s))∧Below w.heap.size w w':=by
 have HB8:Hid (∀ y∈bytesS s,y < 256):=zh (bytesS_lt s)
 have HBL:Hid ((bytesS s).length=s.size):=zh (bytesS_length s)
 have HSS:Hid (sumS s=strOf (shaN (bytesS s))):=zh (sumS_eq s)
 obtain⟨B,hB⟩:∃ B,B=bytesS s:=⟨_,rfl⟩
 rw[← hB]at HB8 HBL HSS
 have HBq:=zh hB
 clear hB
 have HE:=zh he
 have HG:=zh hg
 clear he hg
 obtain⟨R,hR⟩:∃ R,R=sumS s:=⟨_,rfl⟩
 rw[← hR]at HSS ⊢
 clear hR
 refine calls_of_callsIn (n:=8) Wide.wide (callsIn_of_wp_marks Tryz.func140 rfl trivial ?_)
 simp only[Tryz.ntmps140,List.size_toArray,List.length_cons,List.length_nil,Nat.reduceAdd,Nat.reduceSub,Array.replicate_succ,Array.replicate_zero,List.push_toArray,List.append_toArray,List.nil_append,List.cons_append]
 refine wpIn_wide.2 ?_
 go_wp2_with (first | (refine wpList_strBytes (w.heap.size+1) s 9 88 5 _ rfl rfl rfl (by unfold maxLen;omega) (by simp) (by kernel_rfl) (by kernel_rfl) (by kernel_rfl) ?_;intro v1 w1 hbuf hb1;rw[← HBq.out]at hbuf;have HS1:=zh (SumAt.start w hb1 hbuf);clear hbuf hb1) | (at_builtin;refine wpList_appendB 88 5 _ (by kernel_rfl) infoByte rfl rfl _ _ rfl (w.heap.size+1) _ _ rfl (HS1.out.alloc _).2.2 w1.heap.size 128 rfl (cell_of_row _ _ 0 _ _ _ (heap_alloc_new _ _)) ?_ (HS1.out.alloc _).size ?_))
 ·rw[HBL.out];omega
 intro v2 w2 hbuf2 hb2
 have HS2:=zh ((HS1.out.alloc _).next hb2 hbuf2)
 clear hbuf2 hb2 HS1
 obtain⟨Zn,hZn⟩:∃ Zn,Zn=zerosN B.length:=⟨_,rfl⟩
 have HZn:=zh hZn
 have hzb:Zn < 64∧(s.size+1+Zn) % 64=56∧∀ j,j < Zn→(s.size+1+j) % 64≠56:=by
  rw[hZn,zerosN,HBL.out]
  refine⟨Nat.mod_lt _ (by omega),by omega,fun j hj=>by omega⟩
 have HZB:=zh hzb
 have hz64:=hzb.1
 clear hZn hzb
 go_wp2
 go_loopw [4] (fun v wr=>∃ j:Nat,j≤Zn∧Hid (SumAt w wr v (B++128::List.replicate j 0))) (fun v wr=>s.size+1+Zn - vlen v)
 case atStart=>exact⟨0,by omega,HS2⟩
 case round =>
  obtain⟨j,hj,hS⟩:=hrel
  obtain⟨g0,cap0,hv⟩:=hS.out.2.2.form
  have hl:(B++128::List.replicate j 0).length=s.size+1+j:=by simp only[List.length_append,List.length_cons,List.length_replicate,HBL.out];omega
  rw[hl]at hv
  obtain⟨n,hn⟩:∃ n,n=s.size+1+j:=⟨_,rfl⟩
  rw[← hn]at hv
  subst hv
  by_cases hlt:j < Zn
  ·have h56:¬ n % 64=56:=by rw[hn];exact HZB.out.2.2 j hlt
   have HL:=zh hl
   have HN:=zh hn
   clear hl hn
   have hb:((n:Int) % 64 != 56)=true:=by simp;omega
   go_wp2_with (at_builtin;refine wpList_appendB 88 5 _ (by kernel_rfl) infoByte rfl rfl _ _ rfl (w.heap.size+1) _ (B++128::List.replicate j 0) rfl (hS.out.alloc _).2.2 wr.heap.size 0 rfl (cell_of_row _ _ 0 _ _ _ (heap_alloc_new _ _)) (by rw[HL.out];omega) (hS.out.alloc _).size ?_;intro v3 w3 hbuf3 hb3;have HS3:=zh ((hS.out.alloc _).next hb3 hbuf3);clear hbuf3 hb3)
   go_roundw
   case rel =>
    refine⟨j+1,by omega,?_⟩
    have e:(B++128::List.replicate j 0)++[0]=B++128::List.replicate (j+1) 0:=by rw[List.replicate_succ',List.append_assoc];rfl
    rw[← e]
    exact HS3.out
   case measure =>
    have h3:=HS3.out.len
    have h4:vlen v3=n+1:=by rw[← h3,List.length_append,HL.out,HN.out];rfl
    have h5:vlen (.slice (some ⟨g0,0,none⟩) n cap0)=n:=rfl
    have h6:=HN.out
    show _ - vlen v3 < _ - vlen _
    rw[h4,h5]
    omega
  ·have ej:j=Zn:=by omega
   have h56:n % 64=56:=by rw[hn,ej];exact HZB.out.2.1
   have hb:((n:Int) % 64 != 56)=false:=by simp;omega
   rw[ej]at hS hn
   have HS4:Hid (SumAt w wr (.slice (some ⟨g0,0,none⟩) n cap0) (B++128::List.replicate Zn 0)):=hS
   have HN:=zh hn
   clear hl hS hn hj hlt ej HS2
   go_wp2
   clear hb h56
   obtain⟨A,hA⟩:∃ A,A=B++128::List.replicate Zn 0:=⟨_,rfl⟩
   have HAl:Hid (A.length=n):=zh (by rw[hA,HN.out];simp only[List.length_append,List.length_cons,List.length_replicate,HBL.out];omega)
   have HP:Hid (padN B=A++lenBytes s.size):=zh (by rw[hA,padN_eq,← HZn.out,HBL.out])
   have hnle:n≤1000000064:=by have:=HN.out;omega
   rw[← hA]at HS4
   have HS5:Hid (SumAt w wr (.slice (some ⟨g0,0,none⟩) n cap0) (A++(lenBytes s.size).take 0)):=zh (by rw[List.take_zero,List.append_nil];exact HS4.out)
   clear hA HS4 HZn
   obtain⟨T,hT⟩:∃ T:Nat→List Nat,T=fun m=>(lenBytes s.size).take m:=⟨_,rfl⟩
   have HT:Hid (T 0=[]∧T 8=lenBytes s.size∧(∀ m,m≤8→(T m).length=m)∧∀ m,m < 8→T (m+1)=T m++[8*s.size / 2 ^ (8*(7 - m)) % 256]):=zh (by
    rw[hT]
    refine⟨rfl,rfl,fun m hm=>?_,fun m hm=>?_⟩
    ·show((lenBytes s.size).take m).length=m
     rw[List.length_take];simp[lenBytes];omega
    ·show(lenBytes s.size).take (m+1)=(lenBytes s.size).take m++_
     rw[List.take_add_one,lenBytes_get _ _ hm];rfl)
   have HS5:Hid (SumAt w wr (.slice (some ⟨g0,0,none⟩) n cap0) (A++T 0)):=zh (by rw[hT];exact HS5.out)
   clear hT
   go_loopw [4,5] (fun v i wr=>∃ m:Nat,m≤8∧i=.int .i64 (7 - (m:Int))∧Hid (SumAt w wr v (A++T m))) (fun v i wr=>(intOf i+1).toNat)
   case atStart=>exact⟨0,by omega,rfl,HS5⟩
   case round =>
    obtain⟨m,hm,rfl,hS⟩:=hrel
    obtain⟨g,cap,hv⟩:=hS.out.2.2.form
    have hl:(A++T m).length=n+m:=by rw[List.length_append,HAl.out,HT.out.2.2.1 m hm]
    rw[hl]at hv
    subst hv
    by_cases hlt:m < 8
    ·obtain⟨q,hq⟩:∃ q,q=7 - m:=⟨_,rfl⟩
     obtain⟨r,hr⟩:∃ r,r=8*q:=⟨_,rfl⟩
     obtain⟨z,hz⟩:∃ z,z=8*s.size:=⟨_,rfl⟩
     have eq1:(7:Int) - (m:Int)=(q:Int):=by omega
     have f1:IntKind.i64.wrap (8*(s.size:Int))=(z:Int):=by rw[IntWalk.i64_in _ (by omega)];omega
     have f2:IntKind.i64.wrap (8*(q:Int))=(r:Int):=by rw[IntWalk.i64_in _ (by omega)];omega
     have hr64:r < 64:=by omega
     have hw64:wrap64 ((q:Int) - 1)=(q:Int) - 1:=IntWalk.wrap64_in _ ⟨by omega,by omega⟩
     have HTm:Hid (T (m+1)=T m++[z / 2 ^ r % 256]):=zh (by rw[hr,hq,hz];exact HT.out.2.2.2 m hlt)
     have HL:=zh hl
     have HQ:=zh eq1
     rw[eq1]
     clear hl hq hr hz eq1
     have E1:Hid (((z / 2 ^ r % 256:Nat):Int)=(z:Int) / 2 ^ r % 256):=zh (by rw[Int.natCast_emod,Int.natCast_ediv,Int.natCast_pow];rfl)
     go_wp2_with (at_builtin;refine wpList_appendB 88 5 _ (by kernel_rfl) infoByte rfl rfl _ _ rfl (w.heap.size+1) _ (A++T m) rfl (hS.out.alloc _).2.2 wr.heap.size (z / 2 ^ r % 256) rfl (by rw[E1.out];exact cell_of_row _ _ 0 _ _ _ (heap_alloc_new _ _)) (by rw[HL.out];omega) (hS.out.alloc _).size ?_;intro v3 w3 hbuf3 hb3;have HS3:=zh ((hS.out.alloc _).next hb3 hbuf3);clear hbuf3 hb3)
     go_roundw
     case rel =>
      refine⟨m+1,by omega,?_,?_⟩
      ·have:=HQ.out
       congr 1;omega
      ·rw[HTm.out,← List.append_assoc]
       exact HS3.out
     case measure =>
      have:=HQ.out
      simp[intOf];omega
    ·have em:m=8:=by omega
     have eq1:(7:Int) - (m:Int)=-1:=by omega
     rw[em]at hS hl
     rw[eq1]
     have eN:n+m=n+8:=by omega
     rw[eN]
     obtain⟨nb,hnb⟩:∃ nb,nb=n+8:=⟨_,rfl⟩
     obtain⟨N,hN⟩:∃ N,nb=64*N:=by
      have h1:=HZB.out.2.1
      have h2:=HN.out
      exact⟨(n+8) / 64,by omega⟩
     have HPl:Hid ((padN B).length=64*N):=zh (by rw[HP.out,← HT.out.2.1,hl,← hnb,hN])
     have HSP:Hid (SumAt w wr (.slice (some ⟨g,0,none⟩) nb cap) (padN B)):=zh (by rw[HP.out,← HT.out.2.1,hnb];exact hS.out)
     have HPB:Hid (∀ y∈padN B,y < 256):=zh (padN_lt B HB8.out)
     have HR:Hid (R=strOf (bytesOfH (upB (padN B) N))):=zh (by rw[HSS.out,shaN_up B N HPl.out])
     rw[← hnb]
     have HNB:=zh hN
     generalize padN B=D at *
     clear em eq1 eN hS hl hm hlt HT HP HAl HSS HZB HN HS5 hnb hN
     go_wp2_with (go_at_call 168;refine(chunk_any _ _ _ _).mono ?_;rintro e w3 ⟨rfl,rfl⟩)
     obtain⟨g',cap',o,hgv,hgc,hcm,hgl,hgo,hgb,hcl⟩:=HSP.out.2.2.block
     have hgv':=hgv
     injection hgv' with e1 e2 e3
     injection e1 with e1
     injection e1 with e1 _ _
     subst e1 e3
     have HDL:=zh e2
     rw[← e2]at hgc
     clear e2
     have HCL:=zh hcl
     have HGB0:=zh hgb
     clear hgb
     have HGO:=zh hgo
     rw[HNB.out]at hgc
     have HGC:=zh hgc
     have HCM:=zh hcm
     have hsw:=HSP.out.size
     have HBw:Hid (Below w.heap.size w ((wr.alloc (.cells #[.slice (some ⟨g,0,none⟩) nb cap] 88)).alloc (.cells #[.int .i64 64] 3))):=zh ((HSP.out.1.alloc (by omega) _).alloc (by simp;omega) _)
     have hb1:((wr.alloc (.cells #[.slice (some ⟨g,0,none⟩) nb cap] 88)).alloc (.cells #[.int .i64 64] 3)).heap[wr.heap.size]?=some (.cells #[.slice (some ⟨g,0,none⟩) nb cap] 88 (0,0)):=at_past wr _ _
     have hb2:((wr.alloc (.cells #[.slice (some ⟨g,0,none⟩) nb cap] 88)).alloc (.cells #[.int .i64 64] 3)).heap[wr.heap.size+1]?=some (.cells #[.int .i64 64] 3 (0,0)):=at_second wr _ _
     have hbh:((wr.alloc (.cells #[.slice (some ⟨g,0,none⟩) nb cap] 88)).alloc (.cells #[.int .i64 64] 3)).heap[w.heap.size]?=some (.cells (hcells h0N) 281 (0,0)):=(Below.heap_alloc _ _ _ (by simp;omega)).trans ((Below.heap_alloc _ _ _ (by omega)).trans HSP.out.2.1)
     have hbg:((wr.alloc (.cells #[.slice (some ⟨g,0,none⟩) nb cap] 88)).alloc (.cells #[.int .i64 64] 3)).heap[g]?=some o:=(Below.heap_alloc _ _ _ (by simp;omega)).trans ((Below.heap_alloc _ _ _ (by omega)).trans HGO.out)
     have HGB:Hid (w.heap.size+1≤g):=HGB0
     have hs5:((wr.alloc (.cells #[.slice (some ⟨g,0,none⟩) nb cap] 88)).alloc (.cells #[.int .i64 64] 3)).heap.size=wr.heap.size+2:=by simp
     generalize (wr.alloc (.cells #[.slice (some ⟨g,0,none⟩) nb cap] 88)).alloc (.cells #[.int .i64 64] 3)=W5 at *
     rw[HNB.out]at hb1
     clear hgv hcl hgo hgc hcm HSP
     obtain⟨FB,hFB⟩:∃ FB:List (Fin N)→H8,FB=foldB D h0N:=⟨_,rfl⟩
     have HFB:Hid (FB []=h0N∧(∀ pre x,FB (pre++[x])=blockH (FB pre) ((D.drop (64*x.1)).take 64))∧(∀ pre,H32 (FB pre))∧∀ xs,xs.map (fun x=>x.1)=List.range N→bytesOfH (FB xs)=bytesOfH (upB D N)):=zh (by
      rw[hFB]
      exact⟨rfl,fun pre x=>foldB_snoc D h0N pre x,fun pre=>foldB_32 D h0N (upB_32 D 0) pre,fun xs h=>by rw[foldB_all D xs h]⟩)
     have hbh':W5.heap[w.heap.size]?=some (.cells (hcells (FB [])) 281 (0,0)):=by rw[HFB.out.1];exact hbh
     have HBH:=zh hbh'
     have HB1:=zh hb1
     have HB2:=zh hb2
     have HBG:=zh hbg
     clear hbh hbh' hb1 hb2 hbg hFB
     refine(wpIn_wide (n:=8)).1 ?_
     refine wpIn_range (n:=8) Wide.wide rfl (gf:=187) (lb:=#[.pointer (some ⟨wr.heap.size,0,none⟩),.pointer (some ⟨wr.heap.size+1,0,none⟩)]) ?ev (fun args w=>?enter) (chunk1_iter wr.heap.size (wr.heap.size+1) g cap N W5 HGC.out HCM.out HB1.out HB2.out) br0 (fun x=>rfl) (fun q e=>by cases e) (fun h h'=>⟨h'.1.trans h.1,h'.2.trans h.2⟩) (fun W l o o' h1 h2 h3 h4=>?kb)
      (fun pre W=>W.heap[w.heap.size]?=some (.cells (hcells (FB pre)) 281 (0,0))∧(W.heap[wr.heap.size]?=some (.cells #[.slice (some ⟨g,0,none⟩) (64*N) cap] 88 (0,0))∧(W.heap[wr.heap.size+1]?=some (.cells #[.int .i64 64] 3 (0,0))∧(W.heap[g]?=some o∧Below w.heap.size w W))))
      (fun _ _ _=>False) ?abide (fun _=>abide_false _ _) ⟨HBH.out,HB1.out,HB2.out,HBG.out,HBw.out⟩ (fun x=>⟨#[.string s,undef,.string ⟨#[]⟩,.pointer (some ⟨w.heap.size,0,none⟩),.slice (some ⟨g,0,none⟩) nb cap,.int .i64 (-1),.slice (some ⟨g,64*x.1,none⟩) 64 64,.agg #[.int .u32 1779033703,.int .u32 3144134277,.int .u32 1013904242,.int .u32 2773480762,.int .u32 1359893119,.int .u32 2600822924,.int .u32 528734635,.int .u32 1541459225],.string s,v1,.slice (some ⟨w1.heap.size,0,none⟩) 1 1,v2,.slice (some ⟨g0,0,none⟩) n cap0,.int .i64 (n:Nat),.int .i64 ((n:Int) % 64),.bool false,u16,u17,u18,.int .i64 (-1),.bool false,u21,u22,u23,u24,u25,u26,u27,u28,u29,u30,u31,u32,.slice (some ⟨g,0,none⟩) nb cap,.func (.func 187) #[] #[.pointer (some ⟨wr.heap.size,0,none⟩),.pointer (some ⟨wr.heap.size+1,0,none⟩)],.slice (some ⟨g,64*x.1,none⟩) 64 64,undef,undef,undef,undef],[]⟩) (fun l x W K hK=>?assign) (fun l pre x W hI hlen=>?body) (fun Dm xs W hDm hS hI hDd=>?done) (fun Dm c pre W hD hS hI=>hI.elim)
     case assign =>
      simp only[chunkV,List.zip_toArray,List.zip_cons_cons,List.zip_nil_right,List.foldl_toArray',List.foldl_cons,List.foldl_nil,List.setIfInBounds_toArray,List.set_cons_succ,List.set_cons_zero]
      gi_wp2
      exact hK
     case ev=>rfl
     case enter=>kernel_rfl
     case kb =>
      exact⟨World.putObj_heap_other (fun e=>by omega),World.putObj_heap_other (fun e=>by omega)⟩
     case abide =>
      exact abide_and (abide_cells (fun pre=>.cells (hcells (FB pre)) 281) (fun _=>rfl) (by simp)) (abide_and (abide_old _ (by omega) (by simp)) (abide_and (abide_old _ (by omega) (by simp)) (abide_and (abide_old _ (by omega) (by simp)) (abide_below (by omega) (Nat.le_refl _) (fun q e=>by cases e)))))
     case body =>
      obtain⟨g1,g2,g3,g4,g5⟩:=hI
      have hs7:=g5.size
      have hwW:wr.heap.size+1 < W.heap.size:=(ltA g3)
      have HAD:=zh (add_any g1 (HFB.out.2.2.1 pre) (chunk_slice HCL.out HPl.out x.2 g4) (chunk_len HPl.out x.2) (chunk_lt HPB.out x.1) (HE.out.below g5 HG.out) (Nat.lt_of_lt_of_le HG.out hs7))
      have G2:=zh g2
      have G3:=zh g3
      have G4:=zh g4
      have G5:=zh g5
      have G1:=zh g1
      clear g1 g2 g3 g4 g5
      gi_wp2_with (refine⟨trivial,?_⟩;gi_at_call 169;refine(callsIn_of_calls (Wide.inRound Wide.wide _) HAD.out).mono ?_;rintro e W' ⟨rfl,h1,h2⟩)
      have keep:∀(q:Nat) (o:Obj),W.heap[q]?=some o→q≠w.heap.size→W'.heap[q]?=some o:=fun q o hq hne=>(h2.block q (ltA hq) (fun e=>hne (Option.some.inj e))).trans hq
      refine⟨⟨h2.size,fun q o hB hq hnc=>keep q o hq (by omega)⟩,⟨(keep _ _ G2.out (by omega)).trans G2.out.symm,(keep _ _ G3.out (by omega)).trans G3.out.symm⟩,?_,keep _ _ G2.out (by omega),keep _ _ G3.out (by omega),?_,?_⟩
      ·rw[HFB.out.2.1 pre x];exact h1
      ·refine keep _ _ G4.out ?_
       have:=HGB.out
       omega
      ·exact G5.out.grown h2 G5.out.size (fun j e=>by cases e;exact Nat.le_refl _)
     case done =>
      obtain⟨g1,_,_,_,g5⟩:=hI
      have hS':bytesOfH (FB xs)=bytesOfH (upB D N):=HFB.out.2.2.2 xs hS
      have HD:=zh (wdigest_any (FB xs) W (HFB.out.2.2.1 xs))
      have HR2:Hid (R=strOf (bytesOfH (FB xs))):=zh (by rw[HR.out,hS'])
      have G1:=zh g1
      have G5:=zh g5
      have HDd:=zh hDd
      have hsW:=g5.size
      clear hS hS' g1 g5 hDd
      show Exit.inBlock _ _ _ (Act.mk _ [{ target:=.collected Dm,args:=#[] }]) W
      go_wp2_with (first | (refine wpList_loadA 281 _ w.heap.size 281 (hcells (FB xs)) (0,0) _ rfl rfl rfl G1.out wordsDesc rfl (wordsSize _) ?_) | (go_at_call 170;refine HD.out.mono ?_;rintro e W' ⟨rfl,hb⟩))
      have hDl:Dm < W.heap.size:=(ltA HDd.out)
      have hM:Marks w.heap.size [Dm] W':=⟨by simp,fun D hD=>by
       rw[List.mem_singleton]at hD
       subst hD
       exact⟨by omega,(hb.block _ hDl).trans HDd.out⟩⟩
      refine leaves_marks (B:=w.heap.size) [Dm] W' hM (fun W'' hT=>⟨_,results_tmp rfl _ _ _,?_,(G5.out.trans (hb.mono hsW)).trans hT.below⟩)
      rw[HR2.out]
      rfl
end Go.Proofs.YtjjiikeldpjafaaGreatDoor
/- Trees of digests: plain theory. The root by halves, the root by a stack of whole parts, proofs of entries and their completeness. No condition. -/
namespace Go.Proofs.YtjjiikeldpjafaaGreatDoor
def leftN (n:Nat):Nat:=2 ^ Nat.log2 (n - 1)
theorem leftN_pos (n:Nat):0 < leftN n:=Nat.two_pow_pos _
theorem leftN_lt {n:Nat}(h:2≤n):leftN n < n:=by
 have:=Nat.log2_self_le (n:=n - 1) (by omega)
 unfold leftN
 omega
theorem leftN_of {n k:Nat}(h1:2 ^ k < n)(h2:n≤2*2 ^ k):leftN n=2 ^ k:=by
 unfold leftN
 congr 1
 have hn:n - 1≠0:=by have:=Nat.two_pow_pos k;omega
 rw[Nat.log2_eq_iff hn]
 rw[Nat.pow_succ]
 omega
section
variable {S:Type} (leaf:S→S) (node:S→S→S) (none':S)
def rootF:Nat→List S→S
 | 0,_=>none'
 | f+1,l=>match l with
  | []=>none'
  | [s]=>leaf s
  | l=>node (rootF f (l.take (leftN l.length))) (rootF f (l.drop (leftN l.length)))
def rootL (l:List S):S:=rootF leaf node none' l.length l
theorem rootF_two (f:Nat)(l:List S)(h:2≤l.length):rootF leaf node none' (f+1) l=node (rootF leaf node none' f (l.take (leftN l.length))) (rootF leaf node none' f (l.drop (leftN l.length))):=by
 match l,h with
 | _::_::_,_=>rfl
theorem rootF_more (f g:Nat)(l:List S)(hf:l.length≤f)(hg:l.length≤g):rootF leaf node none' f l=rootF leaf node none' g l:=by
 induction f generalizing g l with
 | zero =>
  have:l=[]:=List.eq_nil_of_length_eq_zero (by omega)
  subst this
  cases g <;> rfl
 | succ f ih =>
  cases g with
  | zero =>
   have:l=[]:=List.eq_nil_of_length_eq_zero (by omega)
   subst this;rfl
  | succ g =>
   rcases Nat.lt_or_ge l.length 2 with h | h
   ·match l,h with
    | [],_=>rfl
    | [_],_=>rfl
   ·have h3:=leftN_lt h
    have h4:=leftN_pos l.length
    rw[rootF_two leaf node none' f l h,rootF_two leaf node none' g l h]
    generalize leftN l.length=k at *
    rw[ih g (l.take k) (by rw[List.length_take];omega) (by rw[List.length_take];omega),ih g (l.drop k) (by rw[List.length_drop];omega) (by rw[List.length_drop];omega)]
theorem rootL_one (s:S):rootL leaf node none' [s]=leaf s:=rfl
theorem rootL_two (l:List S)(h:2≤l.length):rootL leaf node none' l=node (rootL leaf node none' (l.take (leftN l.length))) (rootL leaf node none' (l.drop (leftN l.length))):=by
 have h3:=leftN_lt h
 have h4:=leftN_pos l.length
 obtain⟨n,hn⟩:∃ n,l.length=n+1:=⟨l.length - 1,by omega⟩
 have e:rootL leaf node none' l=rootF leaf node none' (n+1) l:=by unfold rootL;rw[hn]
 rw[e,rootF_two leaf node none' n l h]
 generalize leftN l.length=k at *
 unfold rootL
 rw[rootF_more leaf node none' n (l.take k).length (l.take k) (by rw[List.length_take];omega) (Nat.le_refl _),rootF_more leaf node none' n (l.drop k).length (l.drop k) (by rw[List.length_drop];omega) (Nat.le_refl _)]
theorem rootL_join (a b:List S)(k:Nat)(ha:a.length=2 ^ k)(h1:0 < b.length)(h2:b.length≤2 ^ k):rootL leaf node none' (a++b)=node (rootL leaf node none' a) (rootL leaf node none' b):=by
 have h4:=Nat.two_pow_pos k
 have hl:leftN (a++b).length=2 ^ k:=leftN_of (by rw[List.length_append];omega) (by rw[List.length_append];omega)
 rw[rootL_two leaf node none' _ (by rw[List.length_append];omega),hl,← ha,List.take_left,List.drop_left]
/-! ### The stack of whole parts -/
def Falls:List Nat→Prop
 | []=>True
 | [_]=>True
 | k::m::t=>m < k∧Falls (m::t)
inductive Parts:List Nat→List (List S)→Prop
 | nil:Parts [] []
 | cons {k:Nat} {p:List S} {ks:List Nat} {ps:List (List S)}:p.length=2 ^ k→Parts ks ps→Parts (k::ks) (p::ps)
theorem Parts.len {ks:List Nat}{ps:List (List S)}(h:Parts ks ps):ks.length=ps.length:=by
 induction h with
 | nil=>rfl
 | cons _ _ ih=>simp[ih]
theorem Parts.snoc {ks:List Nat}{ps:List (List S)}(h:Parts ks ps)(k:Nat)(p:List S)(hp:p.length=2 ^ k):Parts (ks++[k]) (ps++[p]):=by
 induction h with
 | nil=>exact .cons hp .nil
 | cons h1 _ ih=>exact .cons h1 ih
theorem Parts.unsnoc {ks:List Nat}{ps:List (List S)}(k:Nat)(h:Parts (ks++[k]) ps):∃ ps' p,ps=ps'++[p]∧Parts ks ps'∧p.length=2 ^ k:=by
 induction ks generalizing ps with
 | nil =>
  cases h with
  | cons h1 h2=>cases h2;exact⟨[],_,rfl,.nil,h1⟩
 | cons a ks ih =>
  cases h with
  | cons h1 h2 =>
   obtain⟨ps',p,rfl,h3,h4⟩:=ih h2
   exact⟨_::ps',p,rfl,.cons h1 h3,h4⟩
theorem parts_sum {k:Nat}{ks:List Nat}{ps:List (List S)}(h:Parts (k::ks) ps)(hf:Falls (k::ks)):ps.flatten.length < 2*2 ^ k∧0 < ps.flatten.length:=by
 induction ks generalizing k ps with
 | nil =>
  cases h with
  | cons h1 h2 =>
   cases h2
   have:=Nat.two_pow_pos k
   simp[h1];omega
 | cons m ks ih =>
  cases h with
  | cons h1 h2 =>
   obtain⟨h3,h4⟩:=ih h2 hf.2
   have h5:2*2 ^ m≤2 ^ k:=by
    have:=Nat.pow_le_pow_right (n:=2) (by omega) (show m+1≤k from hf.1)
    rw[Nat.pow_succ]at this;omega
   simp only[List.flatten_cons,List.length_append]
   omega
def foldS:List S→S
 | []=>none'
 | [r]=>r
 | r::t=>node r (foldS t)
theorem foldS_root {ks:List Nat}{ps:List (List S)}(h:Parts ks ps)(hf:Falls ks):foldS node none' (ps.map (rootL leaf node none'))=rootL leaf node none' ps.flatten:=by
 induction ks generalizing ps with
 | nil=>cases h;rfl
 | cons k ks ih =>
  cases h with
  | @cons _ p _ ps h1 h2 =>
   cases ks with
   | nil=>cases h2;simp[foldS]
   | cons m ks =>
    have hs:=parts_sum h2 hf.2
    have h5:2*2 ^ m≤2 ^ k:=by
     have:=Nat.pow_le_pow_right (n:=2) (by omega) (show m+1≤k from hf.1)
     rw[Nat.pow_succ]at this;omega
    have e:=ih h2 hf.2
    cases h2 with
    | @cons _ p2 _ ps2 h6 h7 =>
     rw[List.flatten_cons,rootL_join leaf node none' p _ k h1 hs.2 (by omega),← e]
     rfl
theorem falls_snoc_lt {ks:List Nat}{m k:Nat}(h:Falls (ks++[m]))(hk:k < m):Falls (ks++[m]++[k]):=by
 induction ks with
 | nil=>exact⟨hk,trivial⟩
 | cons a ks ih =>
  cases ks with
  | nil=>exact⟨h.1,ih h.2⟩
  | cons b ks=>exact⟨h.1,ih h.2⟩
theorem falls_init {ks:List Nat}{m:Nat}(h:Falls (ks++[m])):Falls ks:=by
 induction ks with
 | nil=>trivial
 | cons a ks ih =>
  cases ks with
  | nil=>trivial
  | cons b ks=>exact⟨h.1,ih h.2⟩
def Almost (ks:List Nat)(k:Nat):Prop:=Falls ks∧∀ ks' m,ks=ks'++[m]→k≤m
theorem almost_zero {ks:List Nat}(h:Falls ks):Almost ks 0:=⟨h,fun _ _ _=>Nat.zero_le _⟩
theorem almost_done {ks:List Nat}{k:Nat}(h:Almost ks k)(hne:∀ ks' m,ks=ks'++[m]→m≠k):Falls (ks++[k]):=by
 rcases List.eq_nil_or_concat ks with rfl | ⟨ks',m,rfl⟩
 ·trivial
 ·rw[List.concat_eq_append]at *
  have h1:=h.2 ks' m rfl
  have h2:=hne ks' m rfl
  exact falls_snoc_lt h.1 (by omega)
theorem almost_merge {ks:List Nat}{k:Nat}(h:Almost (ks++[k]) k):Almost ks (k+1):=by
 refine⟨falls_init h.1,fun ks' m e=>?_⟩
 subst e
 have:Falls ([m]++[k]):=by
  have hf:=h.1
  clear h
  induction ks' with
  | nil=>exact hf
  | cons a ks ih =>
   cases ks with
   | nil=>exact ih hf.2
   | cons b ks=>exact ih hf.2
 exact this.1
end
end Go.Proofs.YtjjiikeldpjafaaGreatDoor
/- Contracts of the library (laid by the kit's tool; plain Lean): strings.Join, bits.Len. No condition. -/
namespace Go.Proofs
open Go.Shelf
def Tryz.lays156_ren:Go.Shelf.Ren:=⟨fun | 156=>141 | 165=>171 | 166=>31 | 169=>32 | 240=>68 | 241=>190 | 276=>97 | 277=>197 | n=>n,fun | 31=>47 | 9=>9 | 3=>3 | 4=>4 | 0=>0 | 20=>20 | 72=>102 | 76=>109 | 70=>100 | 37=>88 | 75=>108 | 127=>154 | 164=>196 | 5=>5 | 80=>111 | n=>n,fun | n=>n⟩
theorem Tryz.lays156:Go.Proofs.Lays.n156 Tryz.prog Tryz.lays156_ren:={
 mixed:=by kernel_rfl
 f156:=Tryz.func141.trans (congrArg some (by kernel_rfl))
 f165:=Tryz.func171.trans (congrArg some (by kernel_rfl))
 f166:=Tryz.func31.trans (congrArg some (by kernel_rfl))
 f169:=Tryz.func32.trans (congrArg some (by kernel_rfl))
 f240:=Tryz.func68.trans (congrArg some (by kernel_rfl))
 f241:=Tryz.func190.trans (congrArg some (by kernel_rfl))
 f276:=Tryz.func97.trans (congrArg some (by kernel_rfl))
 f277:=Tryz.func197.trans (congrArg some (by kernel_rfl))
 t0:=Tryz.underlying0
 a0:=Tryz.isAgg0
 z0:=Tryz.sizeOf0
 v0:=Tryz.zeroValue0
 t3:=Tryz.underlying3
 a3:=Tryz.isAgg3
 z3:=Tryz.sizeOf3
 v3:=Tryz.zeroValue3
 t4:=Tryz.underlying4
 a4:=Tryz.isAgg4
 z4:=Tryz.sizeOf4
 v4:=Tryz.zeroValue4
 t9:=Tryz.underlying9
 a9:=Tryz.isAgg9
 z9:=Tryz.sizeOf9
 v9:=Tryz.zeroValue9
 t20:=Tryz.underlying20
 a20:=Tryz.isAgg20
 z20:=Tryz.sizeOf20
 v20:=Tryz.zeroValue20
 t31:=Tryz.underlying47
 a31:=Tryz.isAgg47
 z31:=Tryz.sizeOf47
 v31:=Tryz.zeroValue47
 t37:=Tryz.underlying88
 a37:=Tryz.isAgg88
 z37:=Tryz.sizeOf88
 v37:=Tryz.zeroValue88
 t70:=Tryz.underlying100
 a70:=Tryz.isAgg100
 z70:=Tryz.sizeOf100
 v70:=Tryz.zeroValue100
 t72:=Tryz.underlying102
 a72:=Tryz.isAgg102
 z72:=Tryz.sizeOf102
 v72:=Tryz.zeroValue102
 t75:=Tryz.underlying108
 a75:=Tryz.isAgg108
 z75:=Tryz.sizeOf108
 v75:=Tryz.zeroValue108
 t76:=Tryz.underlying109
 a76:=Tryz.isAgg109
 z76:=Tryz.sizeOf109
 v76:=Tryz.zeroValue109
 t127:=Tryz.underlying154
 a127:=Tryz.isAgg154
 z127:=Tryz.sizeOf154
 v127:=Tryz.zeroValue154
 t164:=Tryz.underlying196
 a164:=Tryz.isAgg196
 z164:=Tryz.sizeOf196
 v164:=Tryz.zeroValue196 }
theorem Tryz.Builder_Extra_156:Builder.Extra Tryz.prog Tryz.lays156_ren:={
 sizeBuilder:=by kernel_rfl
 liesBuilder:=by kernel_rfl
 t5:=Tryz.underlying5
 a5:=Tryz.isAgg5
 z5:=Tryz.sizeOf5
 v5:=Tryz.zeroValue5
 infoByte:=by kernel_rfl
 cellsByte:=by kernel_rfl
 sizeByte:=by kernel_rfl
 neB5:=by decide }
open Go.RowKit in
/-- strings.Join: "Join concatenates the elements of its first argument to create a single string. The separator string sep is placed between elements in the resulting string.": HOWEVER MANY ELEMENTS. Below the heap's end the world is as it was. (LAID: no walk: one application.) -/
theorem Tryz.strings_Join (bk o c:Nat)(xs:List ByteArray)(sep:ByteArray)(w:World)(hcells:∀(j:Nat) x,xs[j]?=some x→w.cell? ⟨bk,o+j,none⟩=some (.string x))(hbk:bk < w.heap.size)(hN:xs.length≤140737488355328)(hcap:xs.length≤c)(hlen:(Lib.join (xs.map (·.data.toList)) sep.data.toList).length≤140737488355328) :
  Calls Tryz.prog 141 #[.slice (some ⟨bk,o,none⟩) xs.length c,.string sep] w fun e w'=>e=.returned (.string ⟨(Lib.join (xs.map (·.data.toList)) sep.data.toList).toArray⟩)∧Below w.heap.size w w':=Any.strings_Join Tryz.lays156 Tryz.Builder_Extra_156 bk o c xs sep w hcells hbk hN hcap hlen
def Tryz.lays125_ren:Go.Shelf.Ren:=⟨fun | 125=>160 | 128=>185 | 129=>186 | n=>n,fun | 46=>160 | 3=>3 | 51=>156 | 53=>195 | 4=>4 | 5=>5 | 9=>9 | n=>n,fun | n=>n⟩
theorem Tryz.lays125:Go.Proofs.Lays.n125 Tryz.prog Tryz.lays125_ren:={
 mixed:=by kernel_rfl
 f125:=Tryz.func160.trans (congrArg some (by kernel_rfl))
 f128:=Tryz.func185.trans (congrArg some (by kernel_rfl))
 f129:=Tryz.func186.trans (congrArg some (by kernel_rfl))
 t3:=Tryz.underlying3
 a3:=Tryz.isAgg3
 z3:=Tryz.sizeOf3
 v3:=Tryz.zeroValue3
 t4:=Tryz.underlying4
 a4:=Tryz.isAgg4
 z4:=Tryz.sizeOf4
 v4:=Tryz.zeroValue4
 t5:=Tryz.underlying5
 a5:=Tryz.isAgg5
 z5:=Tryz.sizeOf5
 v5:=Tryz.zeroValue5
 t9:=Tryz.underlying9
 a9:=Tryz.isAgg9
 z9:=Tryz.sizeOf9
 v9:=Tryz.zeroValue9
 t46:=Tryz.underlying160
 a46:=Tryz.isAgg160
 z46:=Tryz.sizeOf160
 v46:=Tryz.zeroValue160
 t51:=Tryz.underlying156
 a51:=Tryz.isAgg156
 z51:=Tryz.sizeOf156
 v51:=Tryz.zeroValue156
 t53:=Tryz.underlying195
 a53:=Tryz.isAgg195
 z53:=Tryz.sizeOf195
 v53:=Tryz.zeroValue195 }
theorem Tryz.bits_Len (x:Int)(w:World)(h0:0≤x)(h1:x≤18446744073709551615) :
  Calls Tryz.prog 160 #[.int .u64 x] w fun e w'=>e=.returned (.int .i64 (Lib.bitLen x.toNat))∧w'=w:=Any.bits_Len Tryz.lays125 x w h0 h1
def Tryz.laysNm217_ren:Go.Shelf.Ren:=⟨fun | 17=>123 | n=>n,fun | 24=>47 | 9=>9 | 3=>3 | 4=>4 | 0=>0 | n=>n,fun | n=>n⟩
theorem Tryz.laysNm217:Go.Proofs.Lays2.n17 Tryz.prog Tryz.laysNm217_ren:={
 mixed:=by kernel_rfl
 f17:=Tryz.func123.trans (congrArg some (by kernel_rfl))
 t0:=Tryz.underlying0
 a0:=Tryz.isAgg0
 z0:=Tryz.sizeOf0
 v0:=Tryz.zeroValue0
 t3:=Tryz.underlying3
 a3:=Tryz.isAgg3
 z3:=Tryz.sizeOf3
 v3:=Tryz.zeroValue3
 t4:=Tryz.underlying4
 a4:=Tryz.isAgg4
 z4:=Tryz.sizeOf4
 v4:=Tryz.zeroValue4
 t9:=Tryz.underlying9
 a9:=Tryz.isAgg9
 z9:=Tryz.sizeOf9
 v9:=Tryz.zeroValue9
 t24:=Tryz.underlying47
 a24:=Tryz.isAgg47
 z24:=Tryz.sizeOf47
 v24:=Tryz.zeroValue47 }
open Go.RowKit Go.Lib Go.Sort in
/-- The same at a slice of length 0, a nil one too: nothing is read, nothing written, nothing drawn. (LAID: no walk: one application.) -/
theorem Tryz.slices_Reverse_string_empty (a:Option Addr)(cap:Nat)(w:World) :
  Calls Tryz.prog 123 #[.slice a 0 cap] w fun e w'=>e=.returned (.tuple #[])∧w'=w:=Any.slices_Reverse_string_empty Tryz.laysNm217 a cap w
open Go.RowKit Go.Lib Go.Sort in
/-- slices.Reverse at []string, of an argument. (LAID: no walk: one application.) -/
theorem Tryz.slices_Reverse_string_cells (b off n c:Nat)(Sx:Nat→ByteArray)(w:World)(hbig:n≤9223372036854775807)(hc:∀ i,i < n→w.cell? ⟨b,off+i,none⟩=some (.string (Sx i)))(hf:∀ j,j < n→w.frozen? ⟨b,off+j,none⟩=false) :
  Calls Tryz.prog 123 #[.slice (some ⟨b,off,none⟩) n c] w fun e w'=>e=.returned (.tuple #[])∧∃ q,w'=(w.drewN q).setCells b off ((Lib.strsOf Sx n).reverse.map encStr):=Any.slices_Reverse_string_cells Tryz.laysNm217 b off n c Sx w hbig hc hf
end Go.Proofs
/- The walks of marked's function, Leaf, Node, left. The conditions: what the slices read as, lengths, the table of constants. -/
namespace Go.Proofs.YtjjiikeldpjafaaGreatDoor
open Go.RowKit Go.BigFrame
def scells (l:List ByteArray):List (List Value):=l.map fun s=>[.string s]
def SS (w:World)(v:Value)(xs:List ByteArray):Prop:=SliceAt w v 1 (scells xs)
theorem SS.below {w w':World}{v:Value}{xs:List ByteArray}(h:SS w v xs)(hb:Below w.heap.size w w'):SS w' v xs:=SliceAt.below h hb
theorem SS.opened {w:World}{v:Value}{xs:List ByteArray}(h:SS w v xs):∃ a cap,v=.slice a xs.length cap∧xs.length≤cap∧cap≤maxLen ∧
  ∀ k s,xs[k]?=some s→∃ b off,a=some ⟨b,off,none⟩∧b < w.heap.size∧w.cell? ⟨b,off+k,none⟩=some (.string s):=by
 obtain⟨a,cap,hv,h1,h2,h3⟩:=h
 unfold scells at *
 rw[List.length_map]at hv h1
 refine⟨a,cap,hv,h1,h2,fun k x hx=>?_⟩
 rcases h3 with h3 | ⟨b,off,ha,hb,hc⟩
 ·simp at h3;subst h3;simp at hx
 ·refine⟨b,off,ha,hb,?_⟩
  have:=hc k [.string x] (by rw[List.getElem?_map,hx];rfl) 0 _ rfl
  simpa using this
theorem SS.one {w:World}{b:Nat}{T:TypeId}{fz:Nat × Nat}{x:ByteArray}(h:w.heap[b]?=some (.cells #[.string x] T fz)):SS w (.slice (some ⟨b,0,none⟩) 1 1) [x]:=by
 refine⟨_,1,rfl,Nat.le_refl _,by decide,.inr ⟨b,0,rfl,(ltA h),?_⟩⟩
 intro i c hi j u hj
 rw[cell_of_row w b _ _ _ fz h]
 match i,hi with
 | 0,hi=>simp[scells]at hi;subst hi;match j,hj with | 0,hj=>simpa using hj
theorem SS.two {w:World}{b:Nat}{T:TypeId}{fz:Nat × Nat}{x y:ByteArray}(h:w.heap[b]?=some (.cells #[.string x,.string y] T fz)):SS w (.slice (some ⟨b,0,none⟩) 2 2) [x,y]:=by
 refine⟨_,2,rfl,Nat.le_refl _,by decide,.inr ⟨b,0,rfl,(ltA h),?_⟩⟩
 intro i c hi j u hj
 rw[cell_of_row w b _ _ _ fz h]
 match i,hi with
 | 0,hi=>simp[scells]at hi;subst hi;match j,hj with | 0,hj=>simpa using hj
 | 1,hi=>simp[scells]at hi;subst hi;match j,hj with | 0,hj=>simpa using hj
def joinB (xs:List ByteArray):ByteArray:=⟨(xs.map (·.data.toList)).flatten.toArray⟩
theorem joinB_eq (xs:List ByteArray):(⟨(Lib.join (xs.map (·.data.toList)) (ByteArray.mk #[]).data.toList).toArray⟩:ByteArray)=joinB xs:=by
 unfold joinB
 congr 2
 cases xs with
 | nil=>rfl
 | cons x xs =>
  rw[List.map_cons,Lib.join_cons]
  simp[Lib.joinTail,Function.comp_def]
theorem joinB_one (x:ByteArray):joinB [x]=x:=by simp[joinB]
theorem joinB_two (x y:ByteArray):joinB [x,y]=x++y:=by
 unfold joinB
 apply ByteArray.ext
 simp
def leafS (s:ByteArray):ByteArray:=sumS (⟨#[0]⟩++s)
def nodeS (a b:ByteArray):ByteArray:=sumS (⟨#[1]⟩++(a++b))
theorem leafS_size (s:ByteArray):(leafS s).size=32:=rfl
theorem nodeS_size (a b:ByteArray):(nodeS a b).size=32:=rfl
set_option maxHeartbeats 1000000 in
theorem marked1_any (mark:ByteArray)(bm:Nat){w:World}{v:Value}{xs:List ByteArray}(hm:w.cell? ⟨bm,0,none⟩=some (.string mark))(hbm:bm < w.heap.size)(hv:SS w v xs)(hx:0 < xs.length)(hxl:xs.length≤1000)(hsz:(joinB xs).size≤900000000)(hms:mark.size≤1000)(he:Env w)(hg:0 < w.heap.size) :
  Calls Tryz.prog 139 #[v,.pointer (some ⟨bm,0,none⟩)] w fun e w'=>e=.returned (.string (sumS (mark++joinB xs)))∧Below w.heap.size w w':=by
 obtain⟨a,cap,rfl,l1,l2,l3⟩:=hv.opened
 obtain⟨b,off,rfl,hb,-⟩:=l3 0 _ (List.getElem?_eq_getElem hx)
 have HJ:Hid (∀ W:World,Below w.heap.size w W→Calls Tryz.prog 141 #[.slice (some ⟨b,off,none⟩) xs.length cap,.string ⟨#[]⟩] W fun e w'=>e=.returned (.string (joinB xs))∧Below W.heap.size W w'):=zh (fun W hW=>by
  have:=Tryz.strings_Join b off cap xs ⟨#[]⟩ W (fun j x hj=>by
   obtain⟨b',off',e,_,h⟩:=l3 j x hj
   cases e
   exact cell_keepB hW hb h) (Nat.lt_of_lt_of_le hb hW.size) (by omega) l1 (by
    have h1:=congrArg ByteArray.size (joinB_eq xs)
    have h2:(⟨(Lib.join (xs.map (·.data.toList)) (ByteArray.mk #[]).data.toList).toArray⟩:ByteArray).size=(Lib.join (xs.map (·.data.toList)) (ByteArray.mk #[]).data.toList).length:=by show(List.toArray _).size=_;simp
    omega)
  rwa [joinB_eq]at this)
 have HSM:Hid (∀ W:World,Below w.heap.size w W→Calls Tryz.prog 140 #[.string (mark++joinB xs)] W fun e w'=>e=.returned (.string (sumS (mark++joinB xs)))∧Below W.heap.size W w'):=zh (fun W hW=>sum_any _ W (by
  have:(mark++joinB xs).size=mark.size+(joinB xs).size:=ByteArray.size_append
  omega) (he.below hW hg) (Nat.lt_of_lt_of_le hg hW.size))
 generalize joinB xs=X at *
 generalize xs.length=n at *
 have hz:mark.size+X.size≤281474976710656:=by omega
 have hz2:¬ 9223372036854775807 < mark.size+X.size:=by omega
 clear l3 hv he hx hsz
 go_enter Tryz.func139,Tryz.ntmps139
 go_wp2
 go_region_held3 (fun w'=>w'.cell? ⟨bm,0,none⟩=some (.string mark))
  (first | (simp[*];done) | (exact(HB1.out.cell (p:=⟨bm,0,none⟩) hbm).trans hm) | (exact(HB2.out.cell (p:=⟨bm,0,none⟩) hbm).trans hm)) ((first | (go_at_call 141;refine(HJ.out _ (below_drewN (Below.refl _ w) 1)).mono ?_;rintro e w1 ⟨rfl,hb1⟩;have HB1:=zh ((below_drewN (Below.refl _ w) 1).trans (hb1.mono (Nat.le_refl _)));clear hb1) | (go_at_call 140;refine(HSM.out _ HB1.out).mono ?_;rintro e w2 ⟨rfl,hb2⟩;have HB2:=zh (HB1.out.trans (hb2.mono HB1.out.size));clear hb2)))
 all_goals
  go_wp2
  go_ret
  exact⟨rfl,HB2.out⟩
set_option maxHeartbeats 400000 in
theorem marked_any (m:ByteArray)(w:World) :
  Calls Tryz.prog 93 #[.string m] w fun e w'=>e=.returned (.func (.func 139) #[] #[.pointer (some ⟨w.heap.size,0,none⟩)])∧w'=w.alloc (.cells #[.string m] 9):=by
 go_enter Tryz.func93,Tryz.ntmps93
 go_wp2
 go_ret
 exact⟨rfl,rfl⟩
set_option maxHeartbeats 1000000 in
theorem leaf_any (s:ByteArray)(w:World)(hs:s.size≤900000000)(he:Env w)(hg:0 < w.heap.size) :
  Calls Tryz.prog 64 #[.string s] w fun e w'=>e=.returned (.string (leafS s))∧Below w.heap.size w w':=by
 have HB2:Hid (Below w.heap.size w ((w.alloc (.cells #[.string ⟨#[0]⟩] 9)).alloc (.cells #[.string s] 9))):=zh ((br0.alloc (Nat.le_refl _) _).alloc (by simp) _)
 have HM:=zh (marked1_any (w:=(w.alloc (.cells #[.string ⟨#[0]⟩] 9)).alloc (.cells #[.string s] 9)) (v:=.slice (some ⟨w.heap.size+1,0,none⟩) 1 1) (xs:=[s]) ⟨#[0]⟩ w.heap.size (cell_of_row _ _ 0 _ _ _ (at_past w _ _)) (by simp <;> omega) (SS.one (at_second w _ _)) (by simp) (by simp) (by rw[joinB_one];exact hs) (by decide) (he.below HB2.out hg) (by simp <;> omega))
 rw[joinB_one]at HM
 have e:leafS s=sumS (⟨#[0]⟩++s):=rfl
 rw[e]
 clear he hg hs e
 go_enter Tryz.func64,Tryz.ntmps64
 go_wp2_with (first | (go_at_call 93;refine(marked_any _ _).mono ?_;rintro e w' ⟨rfl,rfl⟩) | (go_at_call 139;(with_reducible refine HM.out.mono ?_);rintro e w' ⟨rfl,hb⟩))
 go_ret
 exact⟨rfl,HB2.out.trans (hb.mono (by simp <;> omega))⟩
set_option maxHeartbeats 1000000 in
theorem node_any (x y:ByteArray)(w:World)(hx:x.size≤400000000)(hy:y.size≤400000000)(he:Env w)(hg:0 < w.heap.size) :
  Calls Tryz.prog 63 #[.string x,.string y] w fun e w'=>e=.returned (.string (nodeS x y))∧Below w.heap.size w w':=by
 have HB2:Hid (Below w.heap.size w ((w.alloc (.cells #[.string ⟨#[1]⟩] 9)).alloc (.cells #[.string x,.string y] 9))):=zh ((br0.alloc (Nat.le_refl _) _).alloc (by simp) _)
 have HM:=zh (marked1_any (w:=(w.alloc (.cells #[.string ⟨#[1]⟩] 9)).alloc (.cells #[.string x,.string y] 9)) (v:=.slice (some ⟨w.heap.size+1,0,none⟩) 2 2) (xs:=[x,y]) ⟨#[1]⟩ w.heap.size (cell_of_row _ _ 0 _ _ _ (at_past w _ _)) (by simp <;> omega) (SS.two (at_second w _ _)) (by simp) (by simp) (by rw[joinB_two,ByteArray.size_append];omega) (by decide) (he.below HB2.out hg) (by simp <;> omega))
 rw[joinB_two]at HM
 have e:nodeS x y=sumS (⟨#[1]⟩++(x++y)):=rfl
 rw[e]
 clear he hg hx hy e
 go_enter Tryz.func63,Tryz.ntmps63
 go_wp2_with (first | (go_at_call 93;refine(marked_any _ _).mono ?_;rintro e w' ⟨rfl,rfl⟩) | (go_at_call 139;(with_reducible refine HM.out.mono ?_);rintro e w' ⟨rfl,hb⟩))
 go_ret
 exact⟨rfl,HB2.out.trans (hb.mono (by simp <;> omega))⟩
/-! ### left -/
theorem bitLen_log (n:Nat)(h0:n≠0)(h:n < 2 ^ 64):Lib.bitLen n=Nat.log2 n+1:=by
 have h1:=Nat.log2_self_le h0
 have h2:=Nat.lt_log2_self (n:=n)
 rw[Lib.bitLen_shift (Nat.log2 n) n h1 h]
 have h3:n / 2 ^ Nat.log2 n=1:=by
  rw[Nat.div_eq_iff (Nat.two_pow_pos _)]
  rw[Nat.pow_succ]at h2
  omega
 rw[h3]
 rfl
set_option maxHeartbeats 400000 in
theorem left_any (n:Nat)(w:World)(h1:2≤n)(h2:n≤1000000) :
  Calls Tryz.prog 122 #[.int .i64 n] w fun e w'=>e=.returned (.int .i64 (leftN n:Nat))∧w'=w:=by
 have hl:Lib.bitLen (n - 1)=Nat.log2 (n - 1)+1:=bitLen_log (n - 1) (by omega) (by omega)
 have hk:Nat.log2 (n - 1) < 20:=by rw[Nat.log2_lt (by omega)];omega
 have e:leftN n=2 ^ Nat.log2 (n - 1):=rfl
 rw[e]
 obtain⟨m,hm⟩:∃ m,m=n - 1:=⟨_,rfl⟩
 rw[← hm]at hl hk ⊢
 have HC:=zh (Tryz.bits_Len (m:Int) w (by omega) (by omega))
 rw[Int.toNat_natCast,hl]at HC
 have f1:IntKind.i64.wrap ((n:Int) - 1)=(m:Int):=by rw[IntWalk.i64_in _ (by omega)];omega
 generalize Nat.log2 m=k at *
 have f2:IntKind.i64.wrap (((k+1:Nat):Int) - 1)=(k:Int):=by rw[IntWalk.i64_in _ (by omega)];omega
 have f3:IntKind.u64.wrap (m:Int)=(m:Int):=by rw[IntKind.wrap_u64];omega
 clear hl hm
 go_enter Tryz.func122,Tryz.ntmps122
 go_wp2_with (go_at_call 160;(with_reducible refine HC.out.mono ?_);rintro e w' ⟨rfl,rfl⟩)
 go_ret
 refine⟨ret_int ?_,rfl⟩
 have h3:2 ^ k < 2 ^ 20:=Nat.pow_lt_pow_right (by omega) hk
 have h4:((2 ^ k:Nat):Int)=(2:Int) ^ k:=by rw[Int.natCast_pow];rfl
 rw[← h4]
 generalize (2:Nat) ^ k=q at *
 exact IntWalk.wrap64_in _ ⟨by omega,by omega⟩
end Go.Proofs.YtjjiikeldpjafaaGreatDoor
/- slices.IndexFunc and ContainsFunc at strings, all, take, join of a side. The conditions: what the slices read as, lengths. -/
namespace Go.Proofs.YtjjiikeldpjafaaGreatDoor
open Go.RowKit Go.BigFrame
def firstIdx {α:Type}(p:α→Bool):List α→Int→Int
 | [],_=>-1
 | q::qs,i=>if p q then i else firstIdx p qs (i+1)
theorem firstIdx_neg {α:Type}(p:α→Bool)(qs:List α)(i:Int)(hi:0≤i):decide (0≤firstIdx p qs i)=qs.any p:=by
 induction qs generalizing i with
 | nil=>simp[firstIdx]
 | cons q qs ih =>
  simp only[firstIdx,List.any_cons]
  by_cases h:p q=true
  ·simp[h,hi]
  ·simp[h,ih (i+1) (by omega)]
theorem firstIdx_drop {α:Type}(p:α→Bool)(qs:List α)(k:Nat)(i:Int)(h:∀ j q,j < k→qs[j]?=some q→p q=false):k≤qs.length→firstIdx p qs i=firstIdx p (qs.drop k) (i+k):=by
 induction k generalizing qs i with
 | zero=>simp
 | succ k ih =>
  intro hk
  cases qs with
  | nil=>simp at hk
  | cons q qs =>
   have h0:=h 0 q (by omega) rfl
   simp only[firstIdx,h0,List.drop_succ_cons]
   rw[if_neg (by simp),ih qs (i+1) (fun j q hj hq=>h (j+1) q (by omega) (by simpa using hq)) (by simpa using hk)]
   congr 1;omega
theorem drop_get {α:Type}{xs:List α}{k:Nat}{q:α}(h:xs[k]?=some q):xs.drop k=q::xs.drop (k+1):=by
 have hk:=(List.getElem?_eq_some_iff.1 h).1
 rw[List.drop_eq_getElem_cons hk]
 rw[List.getElem?_eq_getElem hk]at h
 cases h;rfl
def PredFn (f:Nat)(p:ByteArray→Bool):Prop:=(∀(x:Value) (w:World),(callFunc f #[x]).run Tryz.prog w=.ok (.enter f #[x]) w)∧∀(s:ByteArray) (w:World),Calls Tryz.prog f #[.string s] w fun e w'=>e=.returned (.bool (p s))∧w=w'
set_option maxHeartbeats 1000000 in
theorem indexS_any (f:Nat)(p:ByteArray→Bool)(hf:PredFn f p){w:World}{v:Value}{xs:List ByteArray}(hr:SS w v xs) :
  Calls Tryz.prog 143 #[v,.func (.func f) #[] #[]] w fun e w'=>e=.returned (.int .i64 (firstIdx p xs 0))∧w=w':=by
 obtain⟨a,cap,rfl,l1,l2,l3⟩:=hr.opened
 have H3:=zh l3
 have HF:=zh hf
 clear l3 hr hf
 unfold maxLen at l2
 obtain⟨n,hn⟩:∃ n,n=xs.length:=⟨_,rfl⟩
 rw[← hn]at l1 ⊢
 have HN:=zh hn
 clear hn
 go_enter Tryz.func143,Tryz.ntmps143
 go_wp2
 go_loop [5,8] (fun _ i=>∃ k:Nat,k≤n∧i=.int .i64 k∧Hid (∀ j q,j < k→xs[j]?=some q→p q=false)) (fun _ i=>n - (intOf i).toNat)
 case atStart=>exact⟨0,by omega,rfl,(by intro j q hj;omega)⟩
 case round =>
  obtain⟨k,hk,rfl,hall⟩:=hrel
  by_cases hlt:k < n
  ·obtain⟨q,eq⟩:∃ q,xs[k]?=some q:=⟨_,List.getElem?_eq_getElem (by rw[← HN.out];exact hlt)⟩
   obtain⟨b,off,rfl,hb,c1⟩:=H3.out k q eq
   have EQ:=zh eq
   have hcf:=HF.out.1 (.string q)
   clear eq
   by_cases hp:p q=true
   ·have HP:=zh hp
    clear hp
    go_wp2
    refine(HF.out.2 q w).mono ?_
    rintro e w1 ⟨rfl,rfl⟩
    rw[HP.out]
    go_wp2
    go_ret
    refine⟨ret_int ?_,rfl⟩
    rw[firstIdx_drop p xs k 0 hall.out (by rw[← HN.out];omega)]
    rw[drop_get EQ.out,firstIdx,if_pos HP.out];omega
   ·have HP:Hid (p q=false):=zh (by simpa using hp)
    clear hp
    go_wp2
    refine(HF.out.2 q w).mono ?_
    rintro e w1 ⟨rfl,rfl⟩
    rw[HP.out]
    go_wp2
    go_round
    case rel =>
     refine⟨k+1,by omega,by go_num,?_⟩
     intro j q' hj hq
     by_cases hjk:j=k
     ·subst hjk;rw[EQ.out]at hq;cases hq;exact HP.out
     ·exact hall.out j q' (by omega) hq
    case measure=>simp[intOf];omega
  ·go_wp2
   go_ret
   refine⟨ret_int ?_,rfl⟩
   rw[firstIdx_drop p xs k 0 hall.out (by rw[← HN.out];omega),List.drop_eq_nil_of_le (by rw[← HN.out];omega),firstIdx]
set_option maxHeartbeats 400000 in
theorem containsS_any (f:Nat)(p:ByteArray→Bool)(hf:PredFn f p){w:World}{v:Value}{xs:List ByteArray}(hr:SS w v xs) :
  Calls Tryz.prog 99 #[v,.func (.func f) #[] #[]] w fun e w'=>e=.returned (.bool (xs.any p))∧w=w':=by
 have hf':=firstIdx_neg p xs 0 (by omega)
 have HF:=zh hf'
 clear hf'
 generalize hi:firstIdx p xs 0=i at *
 have hc:=indexS_any f p hf hr
 rw[hi]at hc
 clear hi
 have HC:=zh hc
 clear hc hf hr
 go_enter Tryz.func99,Tryz.ntmps99
 go_wp2_with (go_at_call 143;refine HC.out.mono ?_;rintro e w1 ⟨rfl,rfl⟩)
 go_ret
 exact⟨ret_bool HF.out,rfl⟩
/-! ### all, take, join -/
def isDig (s:ByteArray):Bool:=decide (s.size=32)
set_option maxHeartbeats 400000 in
theorem isDigest_any (s:ByteArray)(w:World):Calls Tryz.prog 162 #[.string s] w fun e w'=>e=.returned (.bool (isDig s))∧w=w':=by
 go_enter Tryz.func162,Tryz.ntmps162
 go_wp2
 go_ret
 refine⟨ret_bool ?_,rfl⟩
 unfold isDig
 rw[Bool.eq_iff_iff]
 simp
 try omega
theorem all1_fn:PredFn 161 (fun s=>!isDig s):=by
 refine⟨fun _ _=>by kernel_rfl,fun s w=>?_⟩
 go_enter Tryz.func161,Tryz.ntmps161
 go_wp2_with (go_at_call 162;refine(isDigest_any s _).mono ?_;rintro e w1 ⟨rfl,rfl⟩)
 go_ret
 exact⟨rfl,rfl⟩
set_option maxHeartbeats 400000 in
theorem allD_any {w:World}{v:Value}{xs:List ByteArray}(hr:SS w v xs) :
  Calls Tryz.prog 125 #[v] w fun e w'=>e=.returned (.bool (xs.all isDig))∧w=w':=by
 have hc:=containsS_any 161 _ all1_fn hr
 have e:(!xs.any fun s=>!isDig s)=xs.all isDig:=by
  rw[List.all_eq_not_any_not]
 generalize xs.any (fun s=>!isDig s)=b at *
 rw[← e]
 have HC:=zh hc
 clear hc e hr
 go_enter Tryz.func125,Tryz.ntmps125
 go_wp2_with (go_at_call 99;refine HC.out.mono ?_;rintro e w1 ⟨rfl,rfl⟩)
 go_ret
 exact⟨rfl,rfl⟩
theorem SS.cut {w:World}{a:Option Addr}{n cap:Nat}{xs:List ByteArray}(h:SS w (.slice a n cap) xs)(k:Nat)(hk:k≤n):SS w (.slice a k cap) (xs.take k):=by
 have:=SliceAt.cut h k hk
 unfold SS scells at *
 rw[List.map_take]
 exact this
set_option maxHeartbeats 400000 in
theorem take_none (a:Option Addr)(cap:Nat)(w:World) :
  Calls Tryz.prog 126 #[.slice a 0 cap] w fun e w'=>e=.returned (.tuple #[.string ⟨#[]⟩,.slice none 0 0,.bool false])∧w'=w:=by
 go_enter Tryz.func126,Tryz.ntmps126
 go_wp2
 refine bodyPost_ret (results_tmp3 rfl _ _ _) rfl ?_
 exact⟨rfl,rfl⟩
def sideS (x:ByteArray × Bool)(part:ByteArray):ByteArray:=if x.2 then nodeS x.1 part else nodeS part x.1
set_option maxHeartbeats 1000000 in
theorem sideJoin_any (r:ByteArray)(f:Bool)(part:ByteArray)(w:World)(h1:r.size≤400000000)(h2:part.size≤400000000)(he:Env w)(hg:0 < w.heap.size) :
  Calls Tryz.prog 128 #[.agg #[.string r,.bool f],.string part] w fun e w'=>e=.returned (.string (sideS (r,f) part))∧Below w.heap.size w w':=by
 have HB:Hid (Below w.heap.size w (w.alloc (.cells #[.string r,.bool f] 234))):=zh (br0.alloc (Nat.le_refl _) _)
 have he':Env (w.alloc (.cells #[.string r,.bool f] 234)):=he.below HB.out hg
 have hg':0 < (w.alloc (.cells #[.string r,.bool f] 234)).heap.size:=by simp <;> omega
 have HN1:=zh (node_any r part _ h1 h2 he' hg')
 have HN2:=zh (node_any part r _ h2 h1 he' hg')
 clear he he' hg'
 cases f
 ·have e:sideS (r,false) part=nodeS part r:=rfl
  rw[e]
  generalize nodeS part r=R at *
  clear HN1 e
  go_enter Tryz.func128,Tryz.ntmps128
  go_wp2_with (go_at_call 63;refine HN2.out.mono ?_;rintro e w1 ⟨rfl,hb⟩)
  go_ret
  exact⟨rfl,HB.out.trans (hb.mono (by simp <;> omega))⟩
 ·have e:sideS (r,true) part=nodeS r part:=rfl
  rw[e]
  generalize nodeS r part=R at *
  clear HN2 e
  go_enter Tryz.func128,Tryz.ntmps128
  go_wp2_with (go_at_call 63;refine HN1.out.mono ?_;rintro e w1 ⟨rfl,hb⟩)
  go_ret
  exact⟨rfl,HB.out.trans (hb.mono (by simp <;> omega))⟩
end Go.Proofs.YtjjiikeldpjafaaGreatDoor
