/- The reference's Check of parts, at this seat: what it leans on. The conditions: what the slices read as, lengths. -/
import Derived.Test.YtggdcnjaofflbaaGreatDoorMM17
namespace Go.Proofs.YtggdcnjaofflbaaGreatDoor
open Go.RowKit Go.BigFrame
theorem pfive {W:World}{b:Nat}{c0 c1 c2 c3 c4:Value}{T:TypeId}(h:W.heap[b]?=some (.cells #[c0,c1,c2,c3,c4] T (0,0))):W.cell? ⟨b,0,none⟩=some c0∧W.cell? ⟨b,1,none⟩=some c1∧W.cell? ⟨b,2,none⟩=some c2∧W.cell? ⟨b,3,none⟩=some c3∧W.cell? ⟨b,4,none⟩=some c4 :=
 ⟨cell_of_row W _ 0 _ _ _ h,cell_of_row W _ 1 _ _ _ h,cell_of_row W _ 2 _ _ _ h,cell_of_row W _ 3 _ _ _ h,cell_of_row W _ 4 _ _ _ h⟩
theorem SS.form2 {w:World}{v:Value}{xs:List ByteArray}(h:SS w v xs):∃ a c,v=.slice a xs.length c:=by
 obtain⟨a,c,h,_⟩:=h.opened
 exact⟨a,c,h⟩
theorem slice_lit {w:World}{b n size:Nat}{T:TypeId}{fz:Nat × Nat}{cs:List (List Value)}(h:w.heap[b]?=some (.cells cs.flatten.toArray T fz))(hs:∀ c∈cs,c.length=size)(hn:n=cs.length)(hm:cs.length≤1000):SliceAt w (.slice (some ⟨b,0,none⟩) n n) size cs:=by
 subst hn
 refine⟨_,cs.length,rfl,Nat.le_refl _,by unfold maxLen;omega,.inr ⟨b,0,rfl,(ltA h),fun i c hi j u hj=>?_⟩⟩
 have key:∀(ds:List (List Value)),(∀ c∈ds,c.length=size)→∀ i c,ds[i]?=some c→∀ j u,c[j]?=some u→ds.flatten[i*size+j]?=some u:=by
  intro ds
  induction ds with
  | nil=>intro _ i c hi;simp at hi
  | cons d ds ih =>
   intro hds i c hi j u hj
   cases i with
   | zero =>
    simp at hi;subst hi
    have hlt:j < d.length:=(List.getElem?_eq_some_iff.1 hj).1
    simp only[List.flatten_cons,Nat.zero_mul,Nat.zero_add]
    rw[List.getElem?_append_left hlt];exact hj
   | succ i =>
    simp at hi
    have hd:d.length=size:=hds d (by simp)
    have:=ih (fun c hc=>hds c (by simp[hc])) i c hi j u hj
    simp only[List.flatten_cons]
    rw[List.getElem?_append_right (by rw[hd,Nat.succ_mul];omega),← this]
    congr 1
    rw[hd,Nat.succ_mul];omega
 rw[cell_of_row w b _ _ T fz h,Nat.zero_add,List.getElem?_toArray]
 exact key cs hs i c hi j u hj
theorem four_cells {W:World}{b:Nat}{c0 c1 c2 c3:Value}{T:TypeId}(h:W.heap[b]?=some (.cells #[c0,c1,c2,c3] T (0,0))):W.cell? ⟨b,0,none⟩=some c0∧W.cell? ⟨b,1,none⟩=some c1∧W.cell? ⟨b,2,none⟩=some c2∧W.cell? ⟨b,3,none⟩=some c3 :=
 ⟨cell_of_row W _ 0 _ _ _ h,cell_of_row W _ 1 _ _ _ h,cell_of_row W _ 2 _ _ _ h,cell_of_row W _ 3 _ _ _ h⟩
set_option maxHeartbeats 400000 in
theorem rin18_any (n lo hi:Int)(w:World) :
  Calls Tryz.prog 158 #[.int .i64 n,.int .i64 lo,.int .i64 hi] w fun e w'=>e=.returned (.bool (decide (lo≤n∧n≤hi)))∧w'=w:=by
 by_cases h1:lo≤n
 ·have hd:decide (lo≤n)=true:=decide_eq_true h1
  go_enter Tryz.func158,Tryz.ntmps158
  go_wp2
  go_ret
  refine⟨ret_bool ?_,rfl⟩
  rw[Bool.eq_iff_iff]
  simp
  try omega
 ·have hd:decide (lo≤n)=false:=decide_eq_false h1
  go_enter Tryz.func158,Tryz.ntmps158
  go_wp2
  go_ret
  refine⟨ret_bool ?_,rfl⟩
  simp
  try omega
set_option maxHeartbeats 2000000 in
set_option maxRecDepth 100000 in
theorem rdigests_any {w:World}{v:Value}{pr:List ByteArray}(hv:SS w v pr)(hl:pr.length≤100000) :
  Calls Tryz.prog 136 #[v] w fun e w'=>e=.returned (.bool (pr.all isDig))∧Below w.heap.size w w':=by
 obtain⟨a,c,rfl,l1,l2,l3⟩:=hv.opened
 have HV:=zh l3
 obtain⟨R,hR⟩:∃ R,R=pr.all isDig:=⟨_,rfl⟩
 rw[← hR]
 have HR:=zh hR
 obtain⟨n,hn⟩:∃ n,n=pr.length:=⟨_,rfl⟩
 rw[← hn]at hl ⊢
 have HN:=zh hn
 clear l1 l2 l3 hv hR hn
 go_enter Tryz.func136,Tryz.ntmps136
 go_wp2
 go_loopw [3] (fun i wr=>∃ k:Nat,k≤n∧i=.int .i64 k∧Hid (∀ j x,j < k→pr[j]?=some x→x.size=32)∧wr=w) (fun i _=>n - (intOf i).toNat)
 case atStart=>exact⟨0,by omega,rfl,zh (fun j x hj=>by omega),rfl⟩
 case round =>
  obtain⟨k,hk,rfl,hall,rfl⟩:=hrel
  by_cases hlt:k < n
  ·obtain⟨x,ex⟩:∃ x,pr[k]?=some x:=⟨_,List.getElem?_eq_getElem (by rw[← HN.out];exact hlt)⟩
   obtain⟨b,off,rfl,hb,c0⟩:=HV.out k x ex
   have HEX:=zh ex
   have tk:(k:Int) < (n:Int):=by omega
   have tk0:(0:Int)≤(k:Int):=by omega
   clear ex
   by_cases h32:x.size=32
   ·have HN1:Hid (∀ j y,j < k+1→pr[j]?=some y→y.size=32):=zh (fun j y hj hy=>by
     rcases Nat.lt_or_ge j k with h | h
     ·exact hall.out j y h hy
     ·obtain rfl:j=k:=by omega
      rw[HEX.out]at hy
      cases hy
      exact h32)
    go_wp2
    go_roundw
    case rel=>exact⟨k+1,by omega,by go_num,HN1,trivial⟩
    case measure=>simp[intOf];omega
   ·have h33:¬ (x.size:Int)=32:=by omega
    have HF:Hid (R=false):=zh (by
     rw[HR.out,List.all_eq_false]
     refine⟨x,List.mem_of_getElem? HEX.out,?_⟩
     unfold isDig
     simp[h32])
    go_wp2
    go_ret
    exact⟨by rw[HF.out];rfl,Below.refl _ _⟩
  ·have tk:¬ (k:Int) < (n:Int):=by omega
   have HF:Hid (R=true):=zh (by
    rw[HR.out,List.all_eq_true]
    intro x hx
    obtain⟨j,hj⟩:=List.mem_iff_getElem?.1 hx
    have hjn:j < pr.length:=(List.getElem?_eq_some_iff.1 hj).1
    rw[← HN.out]at hjn
    unfold isDig
    exact decide_eq_true (hall.out j x (by omega) hj))
   go_wp2
   go_ret
   exact⟨by rw[HF.out];rfl,Below.refl _ _⟩
set_option maxHeartbeats 8000000 in
set_option maxRecDepth 100000 in
theorem rvalue_any (N:Nat):∀ {w:World} {v:Value} {pr:List ByteArray} (n i:Nat) (s:ByteArray),pr.length=N→SS w v pr→1≤n→n≤1000→i≤100000→s.size≤100000→(∀ x∈pr,x.size≤1000)→N≤1000 →
  Calls Tryz.prog 137 #[.int .i64 n,.int .i64 i,.string s,v] w fun e w'=>∃(u:ByteArray) (ok:Bool),e=.returned (.tuple #[.string u,.bool ok])∧u.size≤32∧(valueL leafS nodeS s pr.reverse n i=if ok=true then some u else none)∧Below w.heap.size w w':=by
 induction N with
 | zero =>
  intro w v pr n i s hl hv hn1 hn hi hs hp hN
  have hp0:pr=[]:=List.eq_nil_of_length_eq_zero hl
  subst hp0
  obtain⟨a,c,rfl,_,_,_⟩:=hv.opened
  have HLf:=zh (fun W=>r2leaf_any s W (by omega))
  have hls:(leafS s).size=32:=leafS_size _
  have HVL:Hid (valueL leafS nodeS s ([]:List ByteArray).reverse n i=if n≤1 then some (leafS s)else none):=zh rfl
  generalize leafS s=R at *
  show Calls _ _ #[.int .i64 n,.int .i64 i,.string s,.slice a 0 c] w fun e w'=>∃(u:ByteArray) (ok:Bool),e=.returned (.tuple #[.string u,.bool ok])∧u.size≤32∧(valueL leafS nodeS s ([]:List ByteArray).reverse n i=if ok=true then some u else none)∧Below w.heap.size w w'
  by_cases h1:n=1
  ·subst h1
   go_enter Tryz.func137,Tryz.ntmps137
   go_wp2_with (go_at_call 42;refine(HLf.out _).mono ?_;rintro e w1 ⟨rfl,hb⟩;have HB1:=zh hb;clear hb)
   go_ret2
   exact⟨R,true,rfl,by omega,by rw[HVL.out];rfl,HB1.out⟩
  ·have t1:¬ (n:Int)=1:=by omega
   have HVN:Hid (valueL leafS nodeS s ([]:List ByteArray).reverse n i=none):=zh (by rw[HVL.out,if_neg (by omega)])
   go_enter Tryz.func137,Tryz.ntmps137
   go_wp2
   go_ret2
   exact⟨⟨#[]⟩,false,rfl,by decide,by rw[HVN.out];rfl,Below.refl _ _⟩
 | succ N ih =>
  intro w v pr n i s hl hv hn1 hn hi hs hp hN
  obtain⟨a,c,rfl,l1,l2,l3⟩:=hv.opened
  obtain⟨M,hM⟩:∃ M,M=N+1:=⟨_,rfl⟩
  rw[← hM]at hl hN
  rw[hl]at hv l1 ⊢
  unfold maxLen at l2
  obtain⟨x,ex⟩:∃ x,pr[N]?=some x:=⟨_,List.getElem?_eq_getElem (by omega)⟩
  obtain⟨b,off,rfl,hb,c0⟩:=l3 N x ex
  have hrev:pr.reverse=x::(pr.take N).reverse:=by
   have e:pr=pr.take N++[x]:=by
    have h1:=List.take_add_one (l:=pr) (i:=N)
    rw[ex,← hM,← hl,List.take_length]at h1
    exact h1
   rw[e,List.reverse_append]
   rw[← e]
   rfl
  rw[hrev]
  clear hrev
  have hxs:=hp x (List.mem_of_getElem? ex)
  have f1:IntKind.i64.wrap ((M:Int) - 1)=(N:Int):=by rw[IntWalk.i64_in _ (by omega)];omega
  have u1:(N:Int)≤(M:Int):=by omega
  have u0:(0:Int)≤(N:Int):=by omega
  have u2:N≤c:=by omega
  have u3:(N:Int) < (M:Int):=by omega
  have u4:¬ (N:Int) < 0:=by omega
  by_cases h1:n=1
  ·subst h1
   have HLf:=zh (fun W=>r2leaf_any s W (by omega))
   have hls:(leafS s).size=32:=leafS_size _
   have HVN:Hid (valueL leafS nodeS s (x::(pr.take N).reverse) 1 i=none):=zh (by rw[valueL,if_pos (by omega)])
   generalize leafS s=R at *
   clear l3 hv ih
   go_enter Tryz.func137,Tryz.ntmps137
   go_wp2_with (go_at_call 42;refine(HLf.out _).mono ?_;rintro e w1 ⟨rfl,hb⟩;have HB1:=zh hb;clear hb)
   go_ret2
   exact⟨R,false,rfl,by omega,by rw[HVN.out];rfl,HB1.out⟩
  ·have h2:2≤n:=by omega
   have HLf:=zh (r2left_any n h2 (by omega) w)
   have h3:=leftN_lt h2
   have h4:=leftN_pos n
   have hv':SS w (.slice (some ⟨b,off,none⟩) N c) (pr.take N):=hv.cut N (by omega)
   have hpt:∀ x∈pr.take N,x.size≤1000:=fun x hx=>hp x (List.mem_of_mem_take hx)
   have hlt:(pr.take N).length=N:=by rw[List.length_take];omega
   have HVL:Hid (valueL leafS nodeS s (x::(pr.take N).reverse) n i=if i < leftN n then(valueL leafS nodeS s (pr.take N).reverse (leftN n) i).map (fun v=>nodeS v x)else(valueL leafS nodeS s (pr.take N).reverse (n - leftN n) (i - leftN n)).map (fun v=>nodeS x v)):=zh (by rw[valueL,if_neg (by omega)])
   have t1:¬ (n:Int)=1:=by omega
   obtain⟨k,hk⟩:∃ k,k=leftN n:=⟨_,rfl⟩
   rw[← hk]at h3 h4 HLf HVL
   clear hk
   by_cases hik:i < k
   ·have IH:=zh (ih k i s hlt hv' (by omega) (by omega) hi hs hpt (by omega))
    have ti:(i:Int) < (k:Int):=by omega
    have HB0:Hid (∀ W,Below w.heap.size w W→W.cell? ⟨b,off+N,none⟩=some (.string x)):=zh (fun W hW=>cell_keepB hW hb c0)
    have HV1:Hid (∀ u ok,(valueL leafS nodeS s (pr.take N).reverse k i=if ok=true then some u else none)→(valueL leafS nodeS s (x::(pr.take N).reverse) n i=if ok=true then some (nodeS u x)else none)):=zh (fun u ok h=>by
     rw[HVL.out,if_pos hik,h]
     cases ok <;> rfl)
    clear l3 hv hv' hpt hlt ih HVL ex
    generalize (pr.take N).reverse=PR at *
    go_enter Tryz.func137,Tryz.ntmps137
    go_wp2_with (first | (go_at_call 163;refine HLf.out.mono ?_;rintro e w' ⟨rfl,hw'⟩;replace hw':=hw'.symm;subst hw') | (go_at_call 137;refine IH.out.mono ?_;rintro e w1 ⟨u,ok,rfl,hu,huv,hb1⟩;have HB1:=zh hb1;have HU:=zh huv;have c1:=HB0.out _ hb1;clear hb1 huv) | (go_at_call 103;refine(r2node_any u x _ (by omega) (by omega)).mono ?_;rintro e w2 ⟨rfl,hb2⟩;have HB2:=zh (below_next HB1.out hb2);clear hb2))
    go_ret2
    exact⟨nodeS u x,ok,rfl,by rw[nodeS_size];omega,HV1.out u ok HU.out,HB2.out⟩
   ·have IH:=zh (ih (n - k) (i - k) s hlt hv' (by omega) (by omega) (by omega) hs hpt (by omega))
    have ti:¬ (i:Int) < (k:Int):=by omega
    have f2:IntKind.i64.wrap ((n:Int) - (k:Int))=((n - k:Nat):Int):=by rw[IntWalk.i64_in _ (by omega)];omega
    have f3:IntKind.i64.wrap ((i:Int) - (k:Int))=((i - k:Nat):Int):=by rw[IntWalk.i64_in _ (by omega)];omega
    have HB0:Hid (∀ W,Below w.heap.size w W→W.cell? ⟨b,off+N,none⟩=some (.string x)):=zh (fun W hW=>cell_keepB hW hb c0)
    have HV1:Hid (∀ u ok,(valueL leafS nodeS s (pr.take N).reverse (n - k) (i - k)=if ok=true then some u else none)→(valueL leafS nodeS s (x::(pr.take N).reverse) n i=if ok=true then some (nodeS x u)else none)):=zh (fun u ok h=>by
     rw[HVL.out,if_neg hik,h]
     cases ok <;> rfl)
    clear l3 hv hv' hpt hlt ih HVL ex
    generalize (pr.take N).reverse=PR at *
    generalize n - k=nk at *
    generalize i - k=ik at *
    go_enter Tryz.func137,Tryz.ntmps137
    go_wp2_with (first | (go_at_call 163;refine HLf.out.mono ?_;rintro e w' ⟨rfl,hw'⟩;replace hw':=hw'.symm;subst hw') | (go_at_call 137;refine IH.out.mono ?_;rintro e w1 ⟨u,ok,rfl,hu,huv,hb1⟩;have HB1:=zh hb1;have HU:=zh huv;have c1:=HB0.out _ hb1;clear hb1 huv) | (go_at_call 103;refine(r2node_any x u _ (by omega) (by omega)).mono ?_;rintro e w2 ⟨rfl,hb2⟩;have HB2:=zh (below_next HB1.out hb2);clear hb2))
    go_ret2
    exact⟨nodeS x u,ok,rfl,by rw[nodeS_size];omega,HV1.out u ok HU.out,HB2.out⟩
set_option maxHeartbeats 2000000 in
set_option maxRecDepth 100000 in
theorem rverify_any {w:World}{v:Value}{pr:List ByteArray}(root s:ByteArray)(n i:Int)(hv:SS w v pr)(hl:pr.length≤1000)(hs:s.size≤100000)(hn:n≤1000) :
  Calls Tryz.prog 96 #[.string root,.int .i64 n,.int .i64 i,.string s,v] w fun e w'=>e=.returned (.bool (verifyB root n i s pr))∧Below w.heap.size w w':=by
 have HD:=zh (rdigests_any hv (by omega))
 by_cases h0:i < 0
 ·have HF:Hid (verifyB root n i s pr=false):=zh (by unfold verifyB;rw[if_neg (by omega)])
  generalize verifyB root n i s pr=R at *
  generalize pr.all isDig=D at *
  go_enter Tryz.func96,Tryz.ntmps96
  go_wp2_with (go_at_call 136;refine HD.out.mono ?_;rintro e w1 ⟨rfl,hb⟩;have HB1:=zh hb;clear hb)
  go_ret
  exact⟨by rw[HF.out];rfl,HB1.out⟩
 ·by_cases h1:n≤i
  ·have HF:Hid (verifyB root n i s pr=false):=zh (by unfold verifyB;rw[if_neg (by omega)])
   generalize verifyB root n i s pr=R at *
   generalize pr.all isDig=D at *
   go_enter Tryz.func96,Tryz.ntmps96
   go_wp2_with (go_at_call 136;refine HD.out.mono ?_;rintro e w1 ⟨rfl,hb⟩;have HB1:=zh hb;clear hb)
   go_ret
   exact⟨by rw[HF.out];rfl,HB1.out⟩
  ·by_cases h2:pr.all isDig=true
   ·obtain⟨n',rfl⟩:=Int.eq_ofNat_of_zero_le (a:=n) (by omega)
    obtain⟨i',rfl⟩:=Int.eq_ofNat_of_zero_le (a:=i) (by omega)
    have h32:∀ x∈pr,x.size≤1000:=fun x hx=>by
     have:=List.all_eq_true.1 h2 x hx
     unfold isDig at this
     have:=of_decide_eq_true this
     omega
    have HVA:=zh (fun W (hW:Below w.heap.size w W)=>rvalue_any pr.length n' i' s rfl (SS.below hv hW) (by omega) (by omega) (by omega) hs h32 hl)
    have HVB:Hid (verifyB root n' i' s pr=decide (valueL leafS nodeS s pr.reverse n' i'=some root)):=zh (by unfold verifyB;rw[if_pos ⟨by omega,by omega,h2⟩];rfl)
    rw[h2]at HD
    have t1:¬ (i':Int) < 0:=by omega
    have t2:¬ (n':Int)≤(i':Int):=by omega
    clear h0 h1 h2 h32
    generalize verifyB root n' i' s pr=R at *
    generalize valueL leafS nodeS s pr.reverse n' i'=VL at *
    go_enter Tryz.func96,Tryz.ntmps96
    go_upto_region 5 with(first | (go_at_call 136;refine HD.out.mono ?_;rintro e w1 ⟨rfl,hb⟩;have HB1:=zh hb;clear hb) | (go_at_call 137;refine(HVA.out _ HB1.out).mono ?_;rintro e w2 ⟨u,ok,rfl,hu,huv,hb⟩;have HB2:=zh (below_next HB1.out hb);have HU:=zh huv;clear hb huv))
    cases ok with
    | false =>
     have HF:Hid (R=false):=zh (by rw[HVB.out,HU.out];rfl)
     go_wp2
     go_ret
     exact⟨by rw[HF.out];rfl,HB2.out⟩
    | true =>
     have hst:(u.toList == root.toList)=R:=by
      rw[same_str,HVB.out,HU.out]
      by_cases e:u=root
      ·rw[decide_eq_true e,e];simp
      ·rw[decide_eq_false e,decide_eq_false (fun h=>e (by injection h))]
     go_wp2
     go_ret
     exact⟨rfl,HB2.out⟩
   ·have h3:pr.all isDig=false:=by simpa using h2
    have HF:Hid (verifyB root n i s pr=false):=zh (by unfold verifyB;rw[if_neg (fun h=>h2 h.2.2)])
    rw[h3]at HD
    clear h2 h3
    generalize verifyB root n i s pr=R at *
    go_enter Tryz.func96,Tryz.ntmps96
    go_wp2_with (go_at_call 136;refine HD.out.mono ?_;rintro e w1 ⟨rfl,hb⟩;have HB1:=zh hb;clear hb)
    go_ret
    exact⟨by rw[HF.out];rfl,HB1.out⟩
theorem str_eq (a b:ByteArray)(R:Bool)(h:R=decide (a=b)):(a.toList == b.toList)=R:=by rw[same_str,h]
theorem content_size (h:HeadP):(contentB h).size=3+h.root.size:=by
 unfold contentB
 show(List.toArray _).size=_
 simp
 omega
set_option maxHeartbeats 4000000 in
set_option maxRecDepth 100000 in
theorem rseal18_any (key:ByteArray)(car siz:Int)(root sl:ByteArray)(hk:key.size≤1000)(hc:0≤car∧car≤7)(hs:0≤siz∧siz≤60)(hr:root.size≤1000)(w:World) :
  Calls Tryz.prog 159 #[.string key,.agg #[.int .i64 car,.int .i64 siz,.string root,.string sl]] w fun e w'=>e=.returned (.string (signedB key ⟨car,siz,root,sl⟩))∧Below w.heap.size w w':=by
 have HCn:=zh (fun W=>content_any ⟨car,siz,root,sl⟩ hc hs hr W)
 have hcs:(contentB ⟨car,siz,root,sl⟩).size≤2000:=by rw[content_size];simp only;omega
 have HSG:Hid (signedB key ⟨car,siz,root,sl⟩=nodeS key (leafS (contentB ⟨car,siz,root,sl⟩))):=zh rfl
 generalize signedB key ⟨car,siz,root,sl⟩=Z at *
 generalize contentB ⟨car,siz,root,sl⟩=C at *
 have HLf:=zh (fun W=>r2leaf_any C W (by omega))
 have hls:(leafS C).size=32:=leafS_size _
 generalize leafS C=L at *
 have HNd:=zh (fun W=>r2node_any key L W (by omega) (by omega))
 generalize nodeS key L=D at *
 have HBX:Hid (Below w.heap.size w (w.alloc (.cells #[.int .i64 car,.int .i64 siz,.string root,.string sl] 89))):=zh (br0.alloc (Nat.le_refl _) _)
 simp only at HCn
 go_enter Tryz.func159,Tryz.ntmps159
 go_wp2_with (first | (go_at_call 186;(with_reducible refine(HCn.out _).mono ?_);rintro e w1 ⟨rfl,hb⟩;have HB1:=zh (HBX.out.trans (hb.mono HBX.out.size));clear hb) | (go_at_call 42;(with_reducible refine(HLf.out _).mono ?_);rintro e w2 ⟨rfl,hb⟩;have HB2:=zh (below_next HB1.out hb);clear hb) | (go_at_call 103;(with_reducible refine(HNd.out _).mono ?_);rintro e w3 ⟨rfl,hb⟩;have HB3:=zh (below_next HB2.out hb);clear hb))
 go_ret
 exact⟨by rw[HSG.out];rfl,HB3.out⟩
set_option maxHeartbeats 8000000 in
set_option maxRecDepth 100000 in
theorem rgenuine18_any (key:ByteArray)(car siz:Int)(root sl:ByteArray)(w:World)(hk:key.size≤1000) :
  Calls Tryz.prog 130 #[.string key,.agg #[.int .i64 car,.int .i64 siz,.string root,.string sl]] w fun e w'=>e=.returned (.bool (genuineB key ⟨car,siz,root,sl⟩))∧Below w.heap.size w w':=by
 have HNO:=zh (genuine_no key car siz root sl)
 have HYS:=zh (genuine_yes key car siz root sl)
 generalize genuineB key ⟨car,siz,root,sl⟩=R at *
 have HBX:Hid (Below w.heap.size w (w.alloc (.cells #[.int .i64 car,.int .i64 siz,.string root,.string sl] 89))):=zh (br0.alloc (Nat.le_refl _) _)
 by_cases h0:key.size=32
 ·have HI1:=zh (fun W=>rin18_any car 0 7 W)
  have HI2:=zh (fun W=>rin18_any siz 0 60 W)
  by_cases h1:0≤car∧car≤7
  ·rw[decide_eq_true h1]at HI1
   by_cases h2:0≤siz∧siz≤60
   ·rw[decide_eq_true h2]at HI2
    by_cases h3:root.size=32
    ·have HR:=zh (HYS.out h0 h1 h2 h3)
     have HSL:=zh (fun W=>rseal18_any key car siz root sl hk h1 h2 (by omega) W)
     generalize signedB key ⟨car,siz,root,sl⟩=Z at *
     have hst:(sl.toList == Z.toList)=R:=str_eq _ _ _ HR.out
     have h3':¬ ¬ (root.size:Int)=32:=by omega
     clear h1 h2 HR HNO HYS
     go_enter Tryz.func130,Tryz.ntmps130
     go_upto_region 3 with(go_at_call 158;(first | (with_reducible refine(HI1.out _).mono ?_) | (with_reducible refine(HI2.out _).mono ?_));rintro e w' ⟨rfl,hw'⟩;replace hw':=hw'.symm;subst hw')
     have HC:Hid (∀ W,Below (w.alloc (.cells #[.int .i64 car,.int .i64 siz,.string root,.string sl] 89)).heap.size (w.alloc (.cells #[.int .i64 car,.int .i64 siz,.string root,.string sl] 89)) W→W.cell? ⟨w.heap.size,0,none⟩=some (.int .i64 car)∧W.cell? ⟨w.heap.size,1,none⟩=some (.int .i64 siz)∧W.cell? ⟨w.heap.size,2,none⟩=some (.string root)∧W.cell? ⟨w.heap.size,3,none⟩=some (.string sl)):=zh (fun W hW=>four_cells (kept_block (heap_alloc_new w _) hW))
     obtain⟨W0,hW0⟩:∃ W0,W0=w.alloc (.cells #[.int .i64 car,.int .i64 siz,.string root,.string sl] 89):=⟨_,rfl⟩
     rw[← hW0]at HC HBX ⊢
     clear hW0
     refine wp_region_noPanic ?_
     refine wp_region_lexB [.q 0,.q 1,.q 2,.q 3,.b 4,.q 5,.q 6] (by kernel_rfl) (by kernel_rfl) (fun _ _ _ _ h=>h) ?_
     iterate 4(refine wpFl_qL (v:=?_) rfl (Or.inl ⟨by rfl,?_⟩) ?_;rotate_left;(focus(intro w' hSw;obtain⟨c0,c1,c2,c3⟩:=HC.out w' hSw;go_simp;(try with_reducible rfl);done));simp only[Act.put,zzA,zzB,zzC])
     refine wpFl_bL rfl (fun w2 hn2 hs2 K hK=>?_)
     go_simp
     go_at_call 159
     refine(HSL.out _).mono ?_
     rintro e w3 ⟨rfl,hb3⟩
     have HB3:=zh (HBX.out.trans ((below_next hs2 hb3).mono HBX.out.size))
     refine hK.out _ _ (below_next hs2 hb3) (Keeps.below hb3) ?_
     clear hK K hn2 hs2 hb3
     iterate 2(refine wpFl_qL (v:=?_) rfl (Or.inl ⟨by rfl,?_⟩) ?_;rotate_left;(focus(intro w' hSw;go_simp;(try with_reducible rfl);done));simp only[Act.put,zzA,zzB,zzC])
     refine wpFl_nil ?_
     refine NoPanic.normal ?_
     go_wp2
     go_ret
     exact⟨rfl,HB3.out⟩
    ·have HF:Hid (R=false):=zh (HNO.out (fun h=>h3 h.2.2.2))
     have h3':¬ (root.size:Int)=32:=by omega
     clear h1 h2 HNO HYS
     go_enter Tryz.func130,Tryz.ntmps130
     go_wp2_with (go_at_call 158;(first | (with_reducible refine(HI1.out _).mono ?_) | (with_reducible refine(HI2.out _).mono ?_));rintro e w' ⟨rfl,hw'⟩;replace hw':=hw'.symm;subst hw')
     go_ret
     exact⟨by rw[HF.out];rfl,HBX.out⟩
   ·rw[decide_eq_false h2]at HI2
    have HF:Hid (R=false):=zh (HNO.out (fun h=>h2 h.2.2.1))
    clear h1 h2 HNO HYS
    go_enter Tryz.func130,Tryz.ntmps130
    go_wp2_with (go_at_call 158;(first | (with_reducible refine(HI1.out _).mono ?_) | (with_reducible refine(HI2.out _).mono ?_));rintro e w' ⟨rfl,hw'⟩;replace hw':=hw'.symm;subst hw')
    go_ret
    exact⟨by rw[HF.out];rfl,HBX.out⟩
  ·rw[decide_eq_false h1]at HI1
   have HF:Hid (R=false):=zh (HNO.out (fun h=>h1 h.2.1))
   clear h1 HNO HYS
   go_enter Tryz.func130,Tryz.ntmps130
   go_wp2_with (go_at_call 158;(with_reducible refine(HI1.out _).mono ?_);rintro e w' ⟨rfl,hw'⟩;replace hw':=hw'.symm;subst hw')
   go_ret
   exact⟨by rw[HF.out];rfl,HBX.out⟩
 ·have HF:Hid (R=false):=zh (HNO.out (fun h=>h0 h.1))
  have h0':¬ (key.size:Int)=32:=by omega
  clear HNO HYS
  go_enter Tryz.func130,Tryz.ntmps130
  go_wp2
  go_ret
  exact⟨by rw[HF.out];rfl,HBX.out⟩
set_option maxHeartbeats 4000000 in
set_option maxRecDepth 100000 in
theorem deep_any {w:World}{v:Value}{x:ItemP}{xs:List ItemP}(car siz:Int)(root sl one two:ByteArray)(hi:IT w v (x::xs))(h1:one.size≤100000)(h2:two.size≤100000)(hp:x.prf.length≤1000)(hs:siz≤1000)(hne:one≠two)
  (hv1:verifyB root siz x.idx one x.prf=true) (hv2:verifyB root siz x.idx two x.prf=true) :
  Calls Tryz.prog 52 #[.agg #[.int .i64 car,.int .i64 siz,.string root,.string sl,v],.string one,.string two] w fun e w'=>e=.returned (.bool true)∧Below w.heap.size w w':=by
 obtain⟨ys,hys,hist⟩:=hi
 cases ys with
 | nil=>cases hys
 | cons y ys =>
 rw[List.map_cons]at hys
 injection hys with hy hys
 obtain⟨ia,ic,rfl,-,-,h3⟩:=hist.is.opened
 obtain⟨ib,io,rfl,hib,d0,d1,d2⟩:=h3 0 y rfl
 have HSS:=zh (hist.is.2 y List.mem_cons_self)
 obtain⟨⟨yi,ye,yp⟩,yv⟩:=y
 simp only at hy HSS d0 d1 d2
 subst hy
 simp only at hp hv1 hv2
 simp only[Nat.zero_mul,Nat.add_zero]at d0 d1 d2
 obtain⟨ya,yn,yc,hyv⟩:∃ a n c,yv=.slice a n c:=by
  obtain⟨a,c,h,_⟩:=HSS.out.opened
  exact⟨_,_,_,h⟩
 subst hyv
 have hss:=same_str one two
 rw[decide_eq_false hne]at hss
 obtain⟨L,hL⟩:∃ L,L=(((⟨yi,ye,yp⟩,.slice ya yn yc):ItemP × Value)::ys).length:=⟨_,rfl⟩
 have hL0:0 < L:=by rw[hL];simp
 have hL1:(0:Int) < (L:Int):=by omega
 rw[← hL]
 have HV1:=zh (fun W (hW:Below w.heap.size w W)=>rverify_any root one siz yi (HSS.out.below hW) hp h1 hs)
 have HV2:=zh (fun W (hW:Below w.heap.size w W)=>rverify_any root two siz yi (HSS.out.below hW) hp h2 hs)
 rw[hv1]at HV1
 rw[hv2]at HV2
 have HD:=zh (fun W (hW:Below w.heap.size w W)=>And.intro (cell_keepB hW hib d0) (And.intro (cell_keepB hW hib d1) (cell_keepB hW hib d2)))
 clear hv1 hv2 hL d0 d1 d2 h3 hist hys hp hs h1 h2 hne
 go_enter Tryz.func52,Tryz.ntmps52
 go_upto_region 1 with fail
 obtain⟨W1,hW1⟩:∃ W1,W1=w.alloc (.cells #[.int .i64 car,.int .i64 siz,.string root,.string sl,.slice (some ⟨ib,io,none⟩) L ic] 92):=⟨_,rfl⟩
 have HB1:Hid (Below w.heap.size w W1):=zh (by rw[hW1];exact br0.alloc (Nat.le_refl _) _)
 have HH1:Hid (W1.heap[w.heap.size]?=some (.cells #[.int .i64 car,.int .i64 siz,.string root,.string sl,.slice (some ⟨ib,io,none⟩) L ic] 92 (0,0))):=zh (by rw[hW1];exact heap_alloc_new w _)
 rw[← hW1]
 clear hW1
 obtain⟨c0,c1,c2,c3,c4⟩:=pfive HH1.out
 obtain⟨d0,d1,d2⟩:=HD.out W1 HB1.out
 go_upto_region 2 with fail
 obtain⟨W2,hW2⟩:∃ W2,W2=W1.alloc (.cells #[.int .i64 yi,.string ye,.slice ya yn yc] 98):=⟨_,rfl⟩
 have HB2:Hid (Below W1.heap.size W1 W2):=zh (by rw[hW2];exact br0.alloc (Nat.le_refl _) _)
 have HH2:Hid (W2.heap[W1.heap.size]?=some (.cells #[.int .i64 yi,.string ye,.slice ya yn yc] 98 (0,0))):=zh (by rw[hW2];exact heap_alloc_new W1 _)
 rw[← hW2]
 clear hW2 c0 c1 c2 c3 c4 d0 d1 d2
 have HC:=zh (fun W (hW:Below W2.heap.size W2 W)=>And.intro (pfive (((below_next HB2.out hW).block _ (ltA HH1.out)).trans HH1.out)) (And.intro (cell_of_row W _ 0 _ _ _ ((hW.block _ (ltA HH2.out)).trans HH2.out)) (cell_of_row W _ 2 _ _ _ ((hW.block _ (ltA HH2.out)).trans HH2.out))))
 obtain⟨⟨c0,c1,c2,c3,c4⟩,e0,e2⟩:=HC.out W2 br0
 have HBW:=zh (below_next HB1.out HB2.out)
 go_wp2_with (first | (go_at_call 96;(with_reducible refine(HV1.out _ HBW.out).mono ?_);rintro e w3 ⟨rfl,hb3⟩;clear c0 c1 c2 c3 c4 e0 e2;obtain⟨⟨c0,c1,c2,c3,c4⟩,e0,e2⟩:=HC.out w3 hb3;have HB3:=zh (below_next HBW.out hb3);clear hb3) | (go_at_call 96;(with_reducible refine(HV2.out _ HB3.out).mono ?_);rintro e w4 ⟨rfl,hb4⟩;have HB4:=zh (below_next HB3.out hb4);clear hb4))
 go_ret
 exact⟨rfl,HB4.out⟩
theorem and7:∀ b:Fin 256,bits BinOp.and IntKind.u8 ((b.val:Nat):Int) 127=((b.val % 128:Nat):Int):=by decide +kernel
theorem xorz (h r:Nat)(hh:h < 4611686018427387904)(hr:r < 2):bits BinOp.xor IntKind.i64 (h:Int) (-(r:Int))=(if r=0 then(h:Int)else -(h:Int) - 1):=by
 have h1:(BitVec.ofInt 64 (h:Int)).toNat=h:=by
  rw[BitVec.ofInt_natCast,BitVec.toNat_ofNat];exact Nat.mod_eq_of_lt (by omega)
 show IntKind.i64.wrap ((BitVec.ofInt 64 (h:Int) ^^^ BitVec.ofInt 64 (-(r:Int))).toNat:Int)=_
 have hr2:r=0∨r=1:=by omega
 rcases hr2 with rfl | rfl
 ·rw[if_pos rfl,show BitVec.ofInt 64 (-((0:Nat):Int))=0#64 from rfl,BitVec.xor_zero,h1]
  exact IntWalk.i64_in _ (by omega)
 ·rw[if_neg (by decide),show BitVec.ofInt 64 (-((1:Nat):Int))=BitVec.allOnes 64 from by decide,BitVec.xor_allOnes,BitVec.toNat_not,h1]
  have e:((2 ^ 64 - 1 - h:Nat):Int)=-(h:Int) - 1+18446744073709551616:=by omega
  rw[e]
  simp[IntKind.wrap,IntKind.bits,IntKind.signed]
  omega
theorem or_add (z m i:Nat)(hz:z < 128 ^ i):z ||| m*128 ^ i=z+m*128 ^ i:=by
 have e:128 ^ i=2 ^ (7*i):=by rw[show 128=2 ^ 7 from rfl,← Nat.pow_mul]
 rw[e]at hz ⊢
 rw[Nat.mul_comm m,Nat.or_comm,← Nat.two_pow_add_eq_or_of_lt hz,Nat.add_comm]
theorem and1 (z r:Nat)(hz:z < 9223372036854775808)(hre:r=z % 2):bits BinOp.and IntKind.u64 (z:Int) 1=(r:Int):=by
 have e:=bits_and_u64_nat z 1 (by omega) (by omega)
 rw[hre,← Nat.and_one_is_mod]
 exact e
theorem pow9 (k:Nat)(hk:k < 9):128 ^ k≤72057594037927936:=by
 have h:128 ^ k≤128 ^ 8:=Nat.pow_le_pow_right (by decide) (by omega)
 rwa [show(128:Nat) ^ 8=72057594037927936 from by decide]at h
theorem z_bound (y m P:Nat)(hy:y < P)(hm:m < 128):y+m*P < P*128:=by
 have h1:m*P+P≤128*P:=by
  have:=Nat.mul_le_mul_right P (show m+1≤128 by omega)
  rwa [Nat.add_mul,Nat.one_mul]at this
 omega
theorem pow_int (m k:Nat):((m:Int)*2 ^ (7*k))=((m*128 ^ k:Nat):Int):=by
 rw[show(128:Nat)=2 ^ 7 from rfl,← Nat.pow_mul]
 push_cast
 rfl
theorem u64_in (x:Nat)(h:x < 18446744073709551616):IntKind.u64.wrap (x:Int)=(x:Int):=by rw[IntKind.wrap_u64];omega
theorem half_in (z h:Nat)(hz:z < 9223372036854775808)(hh:h=z / 2):wrap64 ((z:Int) / 2)=(h:Int):=by unfold wrap64;omega
theorem r_in (r:Nat)(hr:r < 2):wrap64 (r:Int)=(r:Int)∧wrap64 (-(r:Int))=-(r:Int):=by unfold wrap64;omega
theorem half_lt (z h:Nat)(hz:z < 9223372036854775808)(hh:h=z / 2):h < 4611686018427387904:=by omega
theorem byte_facts (y bn k:Nat)(hk:k < 9)(hy:y < 128 ^ k)(hb:bn < 256):∃ m q z h r:Nat,∃ N:Int,z=y+bn % 128*128 ^ k∧N=unzig z∧z < 128 ^ (k+1)∧bits BinOp.and IntKind.u8 (bn:Int) 127=(m:Int)∧IntKind.u64.wrap (m:Int)=(m:Int)∧IntKind.u64.wrap ((m:Int)*2 ^ (7*k))=(q:Int)∧bits BinOp.or IntKind.u64 (y:Int) (q:Int)=(z:Int)
  ∧ wrap64 ((z:Int) / 2)=(h:Int)∧bits BinOp.and IntKind.u64 (z:Int) 1=(r:Int)∧wrap64 (r:Int)=(r:Int)∧wrap64 (-(r:Int))=-(r:Int)∧bits BinOp.xor IntKind.i64 (h:Int) (-(r:Int))=N:=by
 have hP:=pow9 k hk
 have hm:bn % 128 < 128:=by omega
 have hz:=z_bound y (bn % 128) (128 ^ k) hy hm
 have hq:bn % 128*128 ^ k≤y+bn % 128*128 ^ k:=Nat.le_add_left _ _
 have hor:y ||| bn % 128*128 ^ k=y+bn % 128*128 ^ k:=or_add y (bn % 128) k hy
 have hpi:=pow_int (bn % 128) k
 have hpw:128 ^ (k+1)=128 ^ k*128:=Nat.pow_succ _ _
 generalize 128 ^ k=P at *
 have hzb:y+bn % 128*P < 9223372036854775808:=by omega
 refine⟨bn % 128,bn % 128*P,y+bn % 128*P,(y+bn % 128*P) / 2,(y+bn % 128*P) % 2,unzig (y+bn % 128*P),rfl,rfl,by rw[hpw];exact hz,and7 ⟨bn,hb⟩,u64_in _ (by omega),?_,?_,half_in _ _ hzb rfl,and1 _ _ hzb rfl,(r_in _ (Nat.mod_lt _ (by decide))).1,(r_in _ (Nat.mod_lt _ (by decide))).2,?_⟩
 ·rw[hpi];exact u64_in _ (by omega)
 ·rw[bits_or_u64_nat _ _ (by omega) (by omega),hor]
 ·rw[xorz _ _ (half_lt _ _ hzb rfl) (Nat.mod_lt _ (by decide))]
  unfold unzig
  generalize y+bn % 128*P=z
  rfl
def intR (a:Nat)(o:Option (Int × Nat)):Value:=match o with
 | some (n,k)=>.tuple #[.int .i64 n,.int .i64 ((a+k:Nat):Int),.int .i64 0]
 | none=>.tuple #[.int .i64 0,.int .i64 0,.int .i64 10]
set_option maxHeartbeats 4000000 in
set_option maxRecDepth 100000 in
theorem int_any (s:ByteArray)(a:Nat)(ha:a≤s.size)(hs:s.size≤1000000)(w:World) :
  Calls Tryz.prog 70 #[.string s,.int .i64 a] w fun e w'=>e=.returned (intR a (intL 9 0 0 (s.data.toList.drop a)))∧w'=w:=by
 have HRES:=zh (rfl:intR a (intL 9 0 0 (s.data.toList.drop a))=intR a (intL 9 0 0 (s.data.toList.drop a)))
 obtain⟨RES,hRES⟩:∃ R,R=intL 9 0 0 (s.data.toList.drop a):=⟨_,rfl⟩
 rw[← hRES]
 have HR:=zh hRES
 clear hRES HRES
 have h0:(0:Int)≤(a:Int):=by omega
 have h1:¬ ((s.size:Int) < (a:Int)):=by omega
 have h1':¬ (s.size < a):=by omega
 go_enter Tryz.func70,Tryz.ntmps70
 go_wp2
 go_loopw [7,19] (fun z i wr=>∃ k y:Nat,k≤9∧i=.int .i64 k∧z=.int .u64 y∧y < 128 ^ k∧a+k≤s.size∧Hid (RES=intL (9 - k) k y (s.data.toList.drop (a+k)))∧wr=w) (fun _ i _=>9 - (intOf i).toNat)
 case atStart=>exact⟨0,0,by omega,rfl,rfl,by decide,by omega,HR,rfl⟩
 case round =>
  obtain⟨k,y,hk,rfl,rfl,hy,hak,hI,rfl⟩:=hrel
  by_cases hk9:k < 9
  ·by_cases hend:a+k < s.size
   ·have hk0:(0:Int)≤(a:Int)+(k:Int):=by omega
    have hk1:(a:Int)+(k:Int) < (s.size:Int):=by omega
    have hk2:IntKind.i64.wrap ((a:Int)+(k:Int))=(a:Int)+(k:Int):=IntWalk.i64_in _ (by omega)
    have hget:s.data.toList.drop (a+k)=s[a+k]::s.data.toList.drop (a+(k+1)):=by
     have hlt:a+k < s.data.toList.length:=by rw[Array.length_toList];exact hend
     rw[List.drop_eq_getElem_cons hlt]
     rfl
    have HI2:=zh (hI.out.trans (congrArg (intL (9 - k) k y) hget))
    clear hI hget
    obtain⟨B,hB⟩:∃ B,B=s[a+k]:=⟨_,rfl⟩
    rw[← hB]at HI2
    have hB256:=B.toNat_lt
    have hbn:s[a+k].toNat=B.toNat:=by rw[hB]
    obtain⟨bn,hbe⟩:∃ bn,bn=B.toNat:=⟨_,rfl⟩
    rw[← hbe]at hbn hB256
    obtain⟨f,hf⟩:∃ f,9 - k=f+1:=⟨8 - k,by omega⟩
    obtain⟨m,q,z,h,r,N,hze,hNe,hzk,hm,hm2,hsh,hor,hh,hr1,hr2,hr3,hx⟩:=byte_facts y bn k hk9 hy hB256
    have HST:Hid (RES=if 128≤bn then intL f (k+1) z (s.data.toList.drop (a+(k+1)))else if(bn=0∧0 < k)∨N < -4611686018427387903 then none else some (N,k+1)):=zh (by
     rw[HI2.out,hf,intL,hNe,hze,hbe])
    have HF:=zh hf
    have HZK:=zh hzk
    have HY:=zh hy
    have HNE:=zh (And.intro hNe hze)
    clear hB hbe hf hze hNe HI2 hzk hy
    by_cases h128:128≤bn
    ·have HRS:=zh (HST.out.trans (if_pos h128))
     have h128':(128:Int)≤(bn:Int):=by omega
     clear HST
     go_wp2
     go_roundw
     case rel=>exact⟨k+1,z,by omega,by go_num,rfl,HZK.out,by omega,by rw[show 9 - (k+1)=f by have:=HF.out;omega];exact HRS,by trivial⟩
     case measure=>simp[intOf];omega
    ·have H2:=zh (HST.out.trans (if_neg h128))
     have h128':(bn:Int) < (128:Int):=by omega
     clear HST
     by_cases hbad:bn=0∧0 < k
     ·obtain⟨hb0,hkp⟩:=hbad
      have HRS:Hid (RES=none):=zh (H2.out.trans (if_pos (.inl ⟨hb0,hkp⟩)))
      subst hb0
      have hkp':(0:Int) < (k:Int):=by omega
      clear h128 h128' H2 HNE HF
      go_wp2
      (try simp only[Exit.inBlock,Exit.then]);refine bodyPost_ret (results_tmp3 rfl _ _ _) rfl ?_
      rw[HRS.out]
      exact⟨rfl,rfl⟩
     ·by_cases hN:N < -4611686018427387903
      ·have HRS:Hid (RES=none):=zh (H2.out.trans (if_pos (.inr hN)))
       have hb0:bn≠0:=fun e=>by
        have hk0:k=0:=by omega
        have hy0:=HY.out
        obtain⟨n1,n2⟩:=HNE.out
        subst hk0 e
        simp only[Nat.pow_zero]at hy0
        obtain rfl:y=0:=by omega
        subst n2
        subst n1
        revert hN
        decide
       clear H2 HNE HF
       go_wp2
       (try simp only[Exit.inBlock,Exit.then]);refine bodyPost_ret (results_tmp3 rfl _ _ _) rfl ?_
       rw[HRS.out]
       exact⟨rfl,rfl⟩
      ·have HRS:Hid (RES=some (N,k+1)):=zh (H2.out.trans (if_neg (by rintro(h | h);exact hbad h;exact hN h)))
       by_cases hb0:bn=0
       ·have hk0:k=0:=by omega
        have hy0:=HY.out
        obtain⟨n1,n2⟩:=HNE.out
        have hy00:y=0:=by
         rw[hk0,Nat.pow_zero]at hy0
         omega
        have HRT:Hid (RES=some (0,1)):=zh (by
         rw[HRS.out,hk0]
         subst hb0 hy00
         subst n2
         subst n1
         simp only[Nat.zero_mod,Nat.zero_mul,Nat.add_zero]
         rfl)
        have hkz:¬ (0:Int) < (k:Int):=by omega
        subst hb0 hy00
        clear HRS n1 n2 hm hm2 hsh hor hh hr1 hr2 hr3 hx hN HNE H2 HF HY hk0 hy0
        have g1:bits BinOp.and IntKind.u8 0 127=0:=by decide
        have g2:bits BinOp.or IntKind.u64 0 0=0:=by decide
        have g3:bits BinOp.and IntKind.u64 0 1=0:=by decide
        have g4:bits BinOp.xor IntKind.i64 0 0=0:=by decide
        have g5:IntKind.u64.wrap 0=0:=by decide
        have g6:wrap64 0=0:=by unfold wrap64;omega
        go_wp2
        (try simp only[Exit.inBlock,Exit.then]);refine bodyPost_ret (results_tmp3 rfl _ _ _) rfl ?_
        rw[HRT.out]
        exact⟨rfl,rfl⟩
       ·clear H2 HNE HF
        go_wp2
        (try simp only[Exit.inBlock,Exit.then]);refine bodyPost_ret (results_tmp3 rfl _ _ _) rfl ?_
        rw[HRS.out]
        exact⟨rfl,rfl⟩
   ·have HE:Hid (RES=none):=zh (by
     rw[hI.out,List.drop_eq_nil_of_le (by show s.data.size≤_;have:s.size=s.data.size:=rfl;omega)]
     obtain⟨f,hf⟩:∃ f,9 - k=f+1:=⟨8 - k,by omega⟩
     rw[hf]
     rfl)
    have hnl:(s.size:Int)≤(a:Int)+(k:Int):=by omega
    have hk2:IntKind.i64.wrap ((a:Int)+(k:Int))=(a:Int)+(k:Int):=IntWalk.i64_in _ (by omega)
    go_wp2
    (try simp only[Exit.inBlock,Exit.then]);refine bodyPost_ret (results_tmp3 rfl _ _ _) rfl ?_
    rw[HE.out]
    exact⟨rfl,rfl⟩
  ·obtain rfl:k=9:=by omega
   have HE:Hid (RES=none):=zh (hI.out.trans rfl)
   go_wp2
   (try simp only[Exit.inBlock,Exit.then]);refine bodyPost_ret (results_tmp3 rfl _ _ _) rfl ?_
   rw[HE.out]
   exact⟨rfl,rfl⟩
def LowKept (w0:World)(B:Nat)(W:World):Prop:=B≤w0.heap.size∧Below B w0 W
theorem LowKept.more {w0:World}{B:Nat}(w w':World)(h:LowKept w0 B w)(h':Below w.heap.size w w'):LowKept w0 B w' :=
 ⟨h.1,h.2.trans (h'.mono (Nat.le_trans h.1 h.2.size))⟩
theorem LowKept.set {w0 W:World}{B:Nat}(h:LowKept w0 B W){b:Nat}(hb:B≤b)(j:Nat)(v:Value):LowKept w0 B (W.setCell ⟨b,j,none⟩ v):=⟨h.1,h.2.setCell (p:=⟨b,j,none⟩) hb v⟩
end Go.Proofs.YtggdcnjaofflbaaGreatDoor
