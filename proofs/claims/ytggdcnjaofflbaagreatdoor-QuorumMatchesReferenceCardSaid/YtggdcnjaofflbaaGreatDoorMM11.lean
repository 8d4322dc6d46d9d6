/- slices.IndexFunc and slices.ContainsFunc over votes, with the closures of package quorum. The conditions: what each call of the closure says and keeps. -/
import Derived.Test.YtggdcnjaofflbaaGreatDoorMM10
namespace Go.Proofs.YtggdcnjaofflbaaGreatDoor
open Go.RowKit Go.BigFrame
def idxP (p:Nat→VoteP→Bool):List VoteP→Nat→Int
 | [],_=>-1
 | v::t,k=>if p k v then(k:Int)else idxP p t (k+1)
theorem idxP_drop (p:Nat→VoteP→Bool)(l:List VoteP):∀(m:Nat),m≤l.length→∀(k:Nat),(∀ j v,j < m→l[j]?=some v→p (k+j) v=false)→idxP p l k=idxP p (l.drop m) (k+m)
 | 0,_,k,_=>by rw[List.drop_zero];rfl
 | m+1,hm,k,h=>by
  cases l with
  | nil=>simp at hm
  | cons a t =>
   rw[List.drop_succ_cons,idxP]
   have h0:=h 0 a (by omega) rfl
   rw[Nat.add_zero]at h0
   rw[h0]
   simp only[Bool.false_eq_true,if_false]
   rw[idxP_drop p t m (by simpa using hm) (k+1) (fun j v hj hv=>by
    have:=h (j+1) v (by omega) hv
    rwa [show k+(j+1)=k+1+j from by omega]at this)]
   congr 1
   omega
theorem idxP_neg (p:Nat→VoteP→Bool):∀(l:List VoteP) (k:Nat),decide (0≤idxP p l k)=(l.zipIdx k).any fun y=>p y.2 y.1
 | [],k=>rfl
 | v::t,k=>by
  rw[idxP,List.zipIdx_cons,List.any_cons]
  by_cases h:p k v=true
  ·rw[if_pos h,h,Bool.true_or]
   exact decide_eq_true (by omega)
  ·rw[if_neg h,idxP_neg p t (k+1)]
   have:p k v=false:=by simpa using h
   rw[this,Bool.false_or]
set_option maxHeartbeats 2000000 in
theorem indexV_cast (b0:Nat)(b1:Nat)(b2:Nat)(p:Nat→VoteP→Bool)(I:Nat→World→Prop){w:World}{x:Value}{l:List VoteP}(hi:VS w x l)(h0:I 0 w)(hI:∀ k W,I k W→VS W x l)
  (ht:∀(k:Nat) (v:VoteP) (W:World),l[k]?=some v→(∀ j q,j < k→l[j]?=some q→p j q=false)→I k W→Calls Tryz.prog 66 #[vagg v,.pointer (some ⟨b0,0,none⟩),.pointer (some ⟨b1,0,none⟩),.pointer (some ⟨b2,0,none⟩)] W fun e w'=>e=.returned (.bool (p k v))∧I (k+1) w') :
  Calls Tryz.prog 74 #[x,.func (.func 66) #[] #[.pointer (some ⟨b0,0,none⟩),.pointer (some ⟨b1,0,none⟩),.pointer (some ⟨b2,0,none⟩)]] w fun e w'=>e=.returned (.int .i64 (idxP p l 0))∧∃ m,I m w':=by
 obtain⟨a,cap,rfl,l1,l2,l3⟩:=hi.opened
 have HV:=zh hI
 have HT:=zh ht
 have H0:=zh h0
 clear l3 hi ht hI h0
 unfold maxLen at l2
 obtain⟨n,hn⟩:∃ n,n=l.length:=⟨_,rfl⟩
 rw[← hn]at l1 HV ⊢
 have HN:=zh hn
 clear hn
 go_enter Tryz.func74,Tryz.ntmps74
 go_wp2
 go_loopw [8] (fun i wr=>∃ k:Nat,k≤n∧i=.int .i64 k∧Hid (∀ j q,j < k→l[j]?=some q→p j q=false)∧Hid (I k wr)) (fun i wr=>n - (intOf i).toNat)
 case atStart=>exact⟨0,by omega,rfl,(by intro j q hj;omega),H0⟩
 case round =>
  obtain⟨k,hk,rfl,hall,hB⟩:=hrel
  by_cases hlt:k < n
  ·obtain⟨y,ey⟩:∃ y,l[k]?=some y:=⟨_,List.getElem?_eq_getElem (by rw[← HN.out];exact hlt)⟩
   obtain⟨a',cap',e',_,_,l3⟩:=(HV.out k wr hB.out).opened
   have e1:a'=a:=by injection e' with h1 _ _;exact h1.symm
   subst e1
   clear e'
   obtain⟨b,off,rfl,hb,d0,d1,d2,d3,d4⟩:=l3 k y ey
   have HC:=zh (HT.out k y wr ey hall.out hB.out)
   have EY:=zh ey
   obtain⟨P0,hP0⟩:∃ P0,P0=p k y:=⟨_,rfl⟩
   rw[← hP0]at HC
   have HP0:=zh hP0
   clear ey hP0 l3 hb
   obtain⟨car,num,stp,val,sl⟩:=y
   simp only[vagg]at d0 d1 d2 d3 d4 HC
   cases P0
   ·go_wp2_with (go_at_call 66;refine HC.out.mono ?_;rintro e w1 ⟨rfl,hb1⟩)
    go_roundw
    case rel =>
     refine⟨k+1,by omega,by go_num,?_,hb1⟩
     intro j q' hj hq
     by_cases hjk:j=k
     ·subst hjk;rw[EY.out]at hq;cases hq;exact HP0.out.symm
     ·exact hall.out j q' (by omega) hq
    case measure=>simp[intOf];omega
   ·go_wp2_with (go_at_call 66;refine HC.out.mono ?_;rintro e w1 ⟨rfl,hb1⟩)
    go_ret
    refine⟨ret_int ?_,_,hb1⟩
    rw[idxP_drop p l k (by rw[← HN.out];omega) 0 (fun j v hj hv=>by rw[Nat.zero_add];exact hall.out j v hj hv),Nat.zero_add]
    rw[drop_get EY.out,idxP,if_pos HP0.out.symm]
  ·go_wp2
   go_ret
   refine⟨ret_int ?_,_,hB.out⟩
   have ek:k=n:=by omega
   rw[idxP_drop p l k (by rw[← HN.out];omega) 0 (fun j v hj hv=>by rw[Nat.zero_add];exact hall.out j v hj hv),List.drop_eq_nil_of_le (by rw[← HN.out];omega),idxP]
set_option maxHeartbeats 1000000 in
theorem containsV_cast (b0:Nat)(b1:Nat)(b2:Nat)(p:Nat→VoteP→Bool)(I:Nat→World→Prop){w:World}{x:Value}{l:List VoteP}(hi:VS w x l)(h0:I 0 w)(hI:∀ k W,I k W→VS W x l)
  (ht:∀(k:Nat) (v:VoteP) (W:World),l[k]?=some v→(∀ j q,j < k→l[j]?=some q→p j q=false)→I k W→Calls Tryz.prog 66 #[vagg v,.pointer (some ⟨b0,0,none⟩),.pointer (some ⟨b1,0,none⟩),.pointer (some ⟨b2,0,none⟩)] W fun e w'=>e=.returned (.bool (p k v))∧I (k+1) w') :
  Calls Tryz.prog 67 #[x,.func (.func 66) #[] #[.pointer (some ⟨b0,0,none⟩),.pointer (some ⟨b1,0,none⟩),.pointer (some ⟨b2,0,none⟩)]] w fun e w'=>e=.returned (.bool (l.zipIdx.any fun y=>p y.2 y.1))∧∃ m,I m w':=by
 have HF:=zh (idxP_neg p l 0)
 have hc:=indexV_cast b0 b1 b2 p I hi h0 hI ht
 generalize idxP p l 0=i at *
 generalize (l.zipIdx.any fun y=>p y.2 y.1)=bb at *
 have HC:=zh hc
 obtain⟨a,n,c,rfl⟩:=hi.form
 clear hc hi ht h0 hI
 go_enter Tryz.func67,Tryz.ntmps67
 go_wp2_with (go_at_call 74;refine HC.out.mono ?_;rintro e w1 ⟨rfl,hb1⟩)
 go_ret
 exact⟨ret_bool HF.out,hb1⟩
set_option maxHeartbeats 2000000 in
theorem indexV_check (b0:Nat)(b1:Nat)(b2:Nat)(b3:Nat)(p:Nat→VoteP→Bool)(I:Nat→World→Prop){w:World}{x:Value}{l:List VoteP}(hi:VS w x l)(h0:I 0 w)(hI:∀ k W,I k W→VS W x l)
  (ht:∀(k:Nat) (v:VoteP) (W:World),l[k]?=some v→(∀ j q,j < k→l[j]?=some q→p j q=false)→I k W→Calls Tryz.prog 84 #[vagg v,.pointer (some ⟨b0,0,none⟩),.pointer (some ⟨b1,0,none⟩),.pointer (some ⟨b2,0,none⟩),.pointer (some ⟨b3,0,none⟩)] W fun e w'=>e=.returned (.bool (p k v))∧I (k+1) w') :
  Calls Tryz.prog 74 #[x,.func (.func 84) #[] #[.pointer (some ⟨b0,0,none⟩),.pointer (some ⟨b1,0,none⟩),.pointer (some ⟨b2,0,none⟩),.pointer (some ⟨b3,0,none⟩)]] w fun e w'=>e=.returned (.int .i64 (idxP p l 0))∧∃ m,I m w':=by
 obtain⟨a,cap,rfl,l1,l2,l3⟩:=hi.opened
 have HV:=zh hI
 have HT:=zh ht
 have H0:=zh h0
 clear l3 hi ht hI h0
 unfold maxLen at l2
 obtain⟨n,hn⟩:∃ n,n=l.length:=⟨_,rfl⟩
 rw[← hn]at l1 HV ⊢
 have HN:=zh hn
 clear hn
 go_enter Tryz.func74,Tryz.ntmps74
 go_wp2
 go_loopw [8] (fun i wr=>∃ k:Nat,k≤n∧i=.int .i64 k∧Hid (∀ j q,j < k→l[j]?=some q→p j q=false)∧Hid (I k wr)) (fun i wr=>n - (intOf i).toNat)
 case atStart=>exact⟨0,by omega,rfl,(by intro j q hj;omega),H0⟩
 case round =>
  obtain⟨k,hk,rfl,hall,hB⟩:=hrel
  by_cases hlt:k < n
  ·obtain⟨y,ey⟩:∃ y,l[k]?=some y:=⟨_,List.getElem?_eq_getElem (by rw[← HN.out];exact hlt)⟩
   obtain⟨a',cap',e',_,_,l3⟩:=(HV.out k wr hB.out).opened
   have e1:a'=a:=by injection e' with h1 _ _;exact h1.symm
   subst e1
   clear e'
   obtain⟨b,off,rfl,hb,d0,d1,d2,d3,d4⟩:=l3 k y ey
   have HC:=zh (HT.out k y wr ey hall.out hB.out)
   have EY:=zh ey
   obtain⟨P0,hP0⟩:∃ P0,P0=p k y:=⟨_,rfl⟩
   rw[← hP0]at HC
   have HP0:=zh hP0
   clear ey hP0 l3 hb
   obtain⟨car,num,stp,val,sl⟩:=y
   simp only[vagg]at d0 d1 d2 d3 d4 HC
   cases P0
   ·go_wp2_with (go_at_call 84;refine HC.out.mono ?_;rintro e w1 ⟨rfl,hb1⟩)
    go_roundw
    case rel =>
     refine⟨k+1,by omega,by go_num,?_,hb1⟩
     intro j q' hj hq
     by_cases hjk:j=k
     ·subst hjk;rw[EY.out]at hq;cases hq;exact HP0.out.symm
     ·exact hall.out j q' (by omega) hq
    case measure=>simp[intOf];omega
   ·go_wp2_with (go_at_call 84;refine HC.out.mono ?_;rintro e w1 ⟨rfl,hb1⟩)
    go_ret
    refine⟨ret_int ?_,_,hb1⟩
    rw[idxP_drop p l k (by rw[← HN.out];omega) 0 (fun j v hj hv=>by rw[Nat.zero_add];exact hall.out j v hj hv),Nat.zero_add]
    rw[drop_get EY.out,idxP,if_pos HP0.out.symm]
  ·go_wp2
   go_ret
   refine⟨ret_int ?_,_,hB.out⟩
   have ek:k=n:=by omega
   rw[idxP_drop p l k (by rw[← HN.out];omega) 0 (fun j v hj hv=>by rw[Nat.zero_add];exact hall.out j v hj hv),List.drop_eq_nil_of_le (by rw[← HN.out];omega),idxP]
set_option maxHeartbeats 1000000 in
theorem containsV_check (b0:Nat)(b1:Nat)(b2:Nat)(b3:Nat)(p:Nat→VoteP→Bool)(I:Nat→World→Prop){w:World}{x:Value}{l:List VoteP}(hi:VS w x l)(h0:I 0 w)(hI:∀ k W,I k W→VS W x l)
  (ht:∀(k:Nat) (v:VoteP) (W:World),l[k]?=some v→(∀ j q,j < k→l[j]?=some q→p j q=false)→I k W→Calls Tryz.prog 84 #[vagg v,.pointer (some ⟨b0,0,none⟩),.pointer (some ⟨b1,0,none⟩),.pointer (some ⟨b2,0,none⟩),.pointer (some ⟨b3,0,none⟩)] W fun e w'=>e=.returned (.bool (p k v))∧I (k+1) w') :
  Calls Tryz.prog 67 #[x,.func (.func 84) #[] #[.pointer (some ⟨b0,0,none⟩),.pointer (some ⟨b1,0,none⟩),.pointer (some ⟨b2,0,none⟩),.pointer (some ⟨b3,0,none⟩)]] w fun e w'=>e=.returned (.bool (l.zipIdx.any fun y=>p y.2 y.1))∧∃ m,I m w':=by
 have HF:=zh (idxP_neg p l 0)
 have hc:=indexV_check b0 b1 b2 b3 p I hi h0 hI ht
 generalize idxP p l 0=i at *
 generalize (l.zipIdx.any fun y=>p y.2 y.1)=bb at *
 have HC:=zh hc
 obtain⟨a,n,c,rfl⟩:=hi.form
 clear hc hi ht h0 hI
 go_enter Tryz.func67,Tryz.ntmps67
 go_wp2_with (go_at_call 74;refine HC.out.mono ?_;rintro e w1 ⟨rfl,hb1⟩)
 go_ret
 exact⟨ret_bool HF.out,hb1⟩
set_option maxHeartbeats 2000000 in
theorem indexV_blame (b0:Nat)(p:Nat→VoteP→Bool)(I:Nat→World→Prop){w:World}{x:Value}{l:List VoteP}(hi:VS w x l)(h0:I 0 w)(hI:∀ k W,I k W→VS W x l)
  (ht:∀(k:Nat) (v:VoteP) (W:World),l[k]?=some v→(∀ j q,j < k→l[j]?=some q→p j q=false)→I k W→Calls Tryz.prog 75 #[vagg v,.pointer (some ⟨b0,0,none⟩)] W fun e w'=>e=.returned (.bool (p k v))∧I (k+1) w') :
  Calls Tryz.prog 74 #[x,.func (.func 75) #[] #[.pointer (some ⟨b0,0,none⟩)]] w fun e w'=>e=.returned (.int .i64 (idxP p l 0))∧∃ m,I m w':=by
 obtain⟨a,cap,rfl,l1,l2,l3⟩:=hi.opened
 have HV:=zh hI
 have HT:=zh ht
 have H0:=zh h0
 clear l3 hi ht hI h0
 unfold maxLen at l2
 obtain⟨n,hn⟩:∃ n,n=l.length:=⟨_,rfl⟩
 rw[← hn]at l1 HV ⊢
 have HN:=zh hn
 clear hn
 go_enter Tryz.func74,Tryz.ntmps74
 go_wp2
 go_loopw [8] (fun i wr=>∃ k:Nat,k≤n∧i=.int .i64 k∧Hid (∀ j q,j < k→l[j]?=some q→p j q=false)∧Hid (I k wr)) (fun i wr=>n - (intOf i).toNat)
 case atStart=>exact⟨0,by omega,rfl,(by intro j q hj;omega),H0⟩
 case round =>
  obtain⟨k,hk,rfl,hall,hB⟩:=hrel
  by_cases hlt:k < n
  ·obtain⟨y,ey⟩:∃ y,l[k]?=some y:=⟨_,List.getElem?_eq_getElem (by rw[← HN.out];exact hlt)⟩
   obtain⟨a',cap',e',_,_,l3⟩:=(HV.out k wr hB.out).opened
   have e1:a'=a:=by injection e' with h1 _ _;exact h1.symm
   subst e1
   clear e'
   obtain⟨b,off,rfl,hb,d0,d1,d2,d3,d4⟩:=l3 k y ey
   have HC:=zh (HT.out k y wr ey hall.out hB.out)
   have EY:=zh ey
   obtain⟨P0,hP0⟩:∃ P0,P0=p k y:=⟨_,rfl⟩
   rw[← hP0]at HC
   have HP0:=zh hP0
   clear ey hP0 l3 hb
   obtain⟨car,num,stp,val,sl⟩:=y
   simp only[vagg]at d0 d1 d2 d3 d4 HC
   cases P0
   ·go_wp2_with (go_at_call 75;refine HC.out.mono ?_;rintro e w1 ⟨rfl,hb1⟩)
    go_roundw
    case rel =>
     refine⟨k+1,by omega,by go_num,?_,hb1⟩
     intro j q' hj hq
     by_cases hjk:j=k
     ·subst hjk;rw[EY.out]at hq;cases hq;exact HP0.out.symm
     ·exact hall.out j q' (by omega) hq
    case measure=>simp[intOf];omega
   ·go_wp2_with (go_at_call 75;refine HC.out.mono ?_;rintro e w1 ⟨rfl,hb1⟩)
    go_ret
    refine⟨ret_int ?_,_,hb1⟩
    rw[idxP_drop p l k (by rw[← HN.out];omega) 0 (fun j v hj hv=>by rw[Nat.zero_add];exact hall.out j v hj hv),Nat.zero_add]
    rw[drop_get EY.out,idxP,if_pos HP0.out.symm]
  ·go_wp2
   go_ret
   refine⟨ret_int ?_,_,hB.out⟩
   have ek:k=n:=by omega
   rw[idxP_drop p l k (by rw[← HN.out];omega) 0 (fun j v hj hv=>by rw[Nat.zero_add];exact hall.out j v hj hv),List.drop_eq_nil_of_le (by rw[← HN.out];omega),idxP]
theorem eqlSlot (a b c d:Int)(w:World):(binOp .eql 25 (.agg #[.int .i64 a,.int .i64 b]) (.agg #[.int .i64 c,.int .i64 d])).run Tryz.prog w=.ok (.bool (decide (a=c∧b=d))) w:=by
 have h1:=run_equalIn_struct (P:=Tryz.prog) w 9999 25 #[.int .i64 a,.int .i64 b] #[.int .i64 c,.int .i64 d] (by kernel_rfl) (by kernel_rfl)
 have e:decide (a=c∧b=d)=(a == c && b == d):=by
  rw[Bool.eq_iff_iff];simp
 rw[e]
 rw[run_eql_struct,show(10000:Nat)=9999+1 from rfl,h1]
 simp only[go_sem,Program.fieldsOf]
 by_cases e1:a=c <;> by_cases e2:b=d <;> simp[go_sem,e1,e2]
theorem neqSlot (a b c d:Int)(w:World):(binOp .neq 25 (.agg #[.int .i64 a,.int .i64 b]) (.agg #[.int .i64 c,.int .i64 d])).run Tryz.prog w=.ok (.bool (!decide (a=c∧b=d))) w:=by
 have h1:=run_equalIn_struct (P:=Tryz.prog) w 9999 25 #[.int .i64 a,.int .i64 b] #[.int .i64 c,.int .i64 d] (by kernel_rfl) (by kernel_rfl)
 have e:decide (a=c∧b=d)=(a == c && b == d):=by
  rw[Bool.eq_iff_iff];simp
 rw[e]
 rw[run_neq_struct,show(10000:Nat)=9999+1 from rfl,h1]
 simp only[go_sem,Program.fieldsOf]
 by_cases e1:a=c <;> by_cases e2:b=d <;> simp[go_sem,e1,e2]
set_option maxHeartbeats 1000000 in
theorem areOne_any (v u:VoteP)(w:World):Calls Tryz.prog 69 #[vagg v,vagg u] w fun e w'=>e=.returned (.bool (oneV v u))∧Below w.heap.size w w':=by
 have HS:=zh (fun W=>eqlSlot v.num v.stp u.num u.stp W)
 have HR:Hid (oneV v u=(decide (v.car=u.car) && decide (v.num=u.num∧v.stp=u.stp))):=zh (by
  unfold oneV
  rw[Bool.eq_iff_iff]
  simp)
 have HB:Hid (Below w.heap.size w ((w.alloc (.cells #[.int .i64 v.car,.int .i64 v.num,.int .i64 v.stp,.string v.val,.string v.sl] 27)).alloc (.cells #[.int .i64 u.car,.int .i64 u.num,.int .i64 u.stp,.string u.val,.string u.sl] 27))):=zh ((br0.alloc (Nat.le_refl _) _).alloc (by simp) _)
 generalize oneV v u=R at *
 unfold vagg
 obtain⟨car,num,stp,val,sl⟩:=v
 obtain⟨car',num',stp',val',sl'⟩:=u
 simp only at HS HR HB
 have hs:=HS.out
 clear HS
 generalize decide (num=num'∧stp=stp')=D2 at *
 by_cases h:car=car'
 ·have hd:(car == car')=true:=by simp[h]
  have HR':Hid (R=D2):=zh (by rw[HR.out,decide_eq_true h,Bool.true_and])
  clear HR h
  go_enter Tryz.func69,Tryz.ntmps69
  go_wp2
  go_ret
  exact⟨ret_bool HR'.out.symm,HB.out⟩
 ·have hd:(car == car')=false:=by simp[h]
  have HR':Hid (R=false):=zh (by rw[HR.out,decide_eq_false h,Bool.false_and])
  clear HR h
  go_enter Tryz.func69,Tryz.ntmps69
  go_wp2
  go_ret
  exact⟨ret_bool HR'.out.symm,HB.out⟩
def otherV (car num stp:Int)(val:ByteArray)(w:VoteP):Bool:=decide ((w.car=car∧w.num=num∧w.stp=stp)∧w.val≠val)
set_option maxHeartbeats 1000000 in
theorem castfn_any (car num stp:Int)(val:ByteArray)(b0 b1 b2:Nat)(v:VoteP)(w:World)(h0:w.cell? ⟨b0,0,none⟩=some (.int .i64 car))(h1:w.cell? ⟨b1,0,none⟩=some (.int .i64 num))(h2:w.cell? ⟨b1,1,none⟩=some (.int .i64 stp))(h3:w.cell? ⟨b2,0,none⟩=some (.string val))(l0:b0 < w.heap.size)(l1:b1 < w.heap.size)(l2:b2 < w.heap.size) :
  Calls Tryz.prog 66 #[vagg v,.pointer (some ⟨b0,0,none⟩),.pointer (some ⟨b1,0,none⟩),.pointer (some ⟨b2,0,none⟩)] w fun e w'=>e=.returned (.bool (otherV car num stp val v))∧Below w.heap.size w w':=by
 have HS:=zh (fun W=>eqlSlot v.num v.stp num stp W)
 have HR:Hid (otherV car num stp val v=((decide (v.car=car) && decide (v.num=num∧v.stp=stp)) && !decide (v.val=val))):=zh (by
  unfold otherV
  rw[Bool.eq_iff_iff]
  simp)
 have HB:Hid (Below w.heap.size w (w.alloc (.cells #[.int .i64 v.car,.int .i64 v.num,.int .i64 v.stp,.string v.val,.string v.sl] 27))):=zh (br0.alloc (Nat.le_refl _) _)
 have hst:=same_str v.val val
 generalize otherV car num stp val v=R at *
 unfold vagg
 obtain⟨vc,vn,vs,vv,vl⟩:=v
 simp only at HS HR HB hst
 have hs:=HS.out
 clear HS
 generalize decide (vn=num∧vs=stp)=D2 at *
 generalize decide (vv=val)=D3 at *
 by_cases h:vc=car
 ·have hd:(vc == car)=true:=by simp[h]
  have HR':Hid (R=(D2 && !D3)):=zh (by rw[HR.out,decide_eq_true h,Bool.true_and])
  clear HR h
  cases D2 <;> cases D3
  all_goals
   go_enter Tryz.func66,Tryz.ntmps66
   go_wp2
   go_ret
   exact⟨ret_bool HR'.out.symm,HB.out⟩
 ·have hd:(vc == car)=false:=by simp[h]
  have HR':Hid (R=false):=zh (by rw[HR.out,decide_eq_false h];rfl)
  clear HR h
  go_enter Tryz.func66,Tryz.ntmps66
  go_wp2
  go_ret
  exact⟨ret_bool HR'.out.symm,HB.out⟩
set_option maxHeartbeats 1000000 in
theorem blamefn_any (b0:Nat)(car:Int)(v:VoteP)(w:World)(h0:w.cell? ⟨b0,0,none⟩=some (.int .i64 car))(l0:b0 < w.heap.size) :
  Calls Tryz.prog 75 #[vagg v,.pointer (some ⟨b0,0,none⟩)] w fun e w'=>e=.returned (.bool (decide (v.car=car)))∧Below w.heap.size w w':=by
 have HB:Hid (Below w.heap.size w (w.alloc (.cells #[.int .i64 v.car,.int .i64 v.num,.int .i64 v.stp,.string v.val,.string v.sl] 27))):=zh (br0.alloc (Nat.le_refl _) _)
 unfold vagg
 obtain⟨vc,vn,vs,vv,vl⟩:=v
 go_enter Tryz.func75,Tryz.ntmps75
 go_wp2
 go_ret
 refine⟨ret_bool ?_,HB.out⟩
 rw[Bool.eq_iff_iff]
 simp
/-! ### Cast -/
theorem infoVote:(Tryz.prog.info? 27).map (·.size)=some 5:=by kernel_rfl
theorem vfive_heap {W:World}{b:Nat}{c0 c1 c2 c3 c4:Value}{T:TypeId}(h:W.heap[b]?=some (.cells #[c0,c1,c2,c3,c4] T (0,0)))(v0 v1 v2 v3 v4:Value) :
  (((((W.setCell ⟨b,0,none⟩ v0).setCell ⟨b,1,none⟩ v1).setCell ⟨b,2,none⟩ v2).setCell ⟨b,3,none⟩ v3).setCell ⟨b,4,none⟩ v4).heap[b]?=some (.cells #[v0,v1,v2,v3,v4] T (0,0)):=by
 have h0:=heap_setCell_same (i:=0) v0 h
 have h1:=heap_setCell_same (i:=1) v1 h0
 have h2:=heap_setCell_same (i:=2) v2 h1
 have h3:=heap_setCell_same (i:=3) v3 h2
 exact heap_setCell_same (i:=4) v4 h3
theorem vfive_below {w W:World}{b B:Nat}(h:Below B w W)(hb:B≤b)(v0 v1 v2 v3 v4:Value) :
  Below B w (((((W.setCell ⟨b,0,none⟩ v0).setCell ⟨b,1,none⟩ v1).setCell ⟨b,2,none⟩ v2).setCell ⟨b,3,none⟩ v3).setCell ⟨b,4,none⟩ v4) :=
 ((((h.setCell (p:=⟨b,0,none⟩) hb _).setCell (p:=⟨b,1,none⟩) hb _).setCell (p:=⟨b,2,none⟩) hb _).setCell (p:=⟨b,3,none⟩) hb _).setCell (p:=⟨b,4,none⟩) hb _
theorem any_zipIdx {α:Type}(p:α→Bool):∀(l:List α) (k:Nat),((l.zipIdx k).any fun y=>p y.1)=l.any p
 | [],_=>rfl
 | a::t,k=>by rw[List.zipIdx_cons,List.any_cons,List.any_cons,any_zipIdx p t (k+1)]
theorem at5 (w:World)(o0 o1 o2 o3 o4:Obj):Below w.heap.size w (((((w.alloc o0).alloc o1).alloc o2).alloc o3).alloc o4)∧(((((w.alloc o0).alloc o1).alloc o2).alloc o3).alloc o4).heap.size=w.heap.size+5 ∧
  (((((w.alloc o0).alloc o1).alloc o2).alloc o3).alloc o4).heap[w.heap.size]?=some o0∧(((((w.alloc o0).alloc o1).alloc o2).alloc o3).alloc o4).heap[w.heap.size+1]?=some o1∧(((((w.alloc o0).alloc o1).alloc o2).alloc o3).alloc o4).heap[w.heap.size+1+1]?=some o2 ∧
  (((((w.alloc o0).alloc o1).alloc o2).alloc o3).alloc o4).heap[w.heap.size+1+1+1]?=some o3∧(((((w.alloc o0).alloc o1).alloc o2).alloc o3).alloc o4).heap[w.heap.size+1+1+1+1]?=some o4:=by
 refine⟨(((((br0.alloc (Nat.le_refl _) _).alloc (by simp) _).alloc (by simp <;> omega) _).alloc (by simp <;> omega) _).alloc (by simp <;> omega) _),by simp,?_,?_,?_,?_,?_⟩
 ·exact(Below.heap_alloc _ _ _ (by simp <;> omega)).trans ((Below.heap_alloc _ _ _ (by simp <;> omega)).trans ((Below.heap_alloc _ _ _ (by simp <;> omega)).trans ((Below.heap_alloc _ _ _ (by simp)).trans (heap_alloc_new w o0))))
 ·have:=heap_alloc_new (w.alloc o0) o1
  rw[World.size_alloc]at this
  exact(Below.heap_alloc _ _ _ (by simp <;> omega)).trans ((Below.heap_alloc _ _ _ (by simp <;> omega)).trans ((Below.heap_alloc _ _ _ (by simp)).trans this))
 ·have:=heap_alloc_new ((w.alloc o0).alloc o1) o2
  rw[World.size_alloc,World.size_alloc]at this
  exact(Below.heap_alloc _ _ _ (by simp <;> omega)).trans ((Below.heap_alloc _ _ _ (by simp)).trans this)
 ·have:=heap_alloc_new (((w.alloc o0).alloc o1).alloc o2) o3
  rw[World.size_alloc,World.size_alloc,World.size_alloc]at this
  exact(Below.heap_alloc _ _ _ (by simp)).trans this
 ·have:=heap_alloc_new ((((w.alloc o0).alloc o1).alloc o2).alloc o3) o4
  rw[World.size_alloc,World.size_alloc,World.size_alloc,World.size_alloc]at this
  exact this
def castR (o:Option VoteP):Value:=match o with
 | some v=>.tuple #[vagg v,.int .i64 0]
 | none=>.tuple #[.agg #[.int .i64 0,.int .i64 0,.int .i64 0,.string ⟨#[]⟩,.string ⟨#[]⟩],.int .i64 190]
theorem castV_no {key:ByteArray}{car num stp:Int}{val:ByteArray}{hist:List VoteP}(h:formedV ⟨car,num,stp,val,key⟩=false∨hist.any (otherV car num stp val)=true):castV key car num stp val hist=none:=by
 unfold castV castOk
 rw[if_neg]
 intro h'
 rw[Bool.and_eq_true]at h'
 rcases h with h | h
 ·rw[h]at h';cases h'.1
 ·have:=h'.2
  rw[Bool.not_eq_true']at this
  have e:(hist.any fun w=>decide ((w.car=car∧w.num=num∧w.stp=stp)∧w.val≠val))=true:=h
  rw[e]at this
  cases this
theorem castV_yes {key:ByteArray}{car num stp:Int}{val:ByteArray}{hist:List VoteP}(h:formedV ⟨car,num,stp,val,key⟩=true)(h':hist.any (otherV car num stp val)=false):castV key car num stp val hist=some ⟨car,num,stp,val,sealV key ⟨car,num,stp,val,key⟩⟩:=by
 unfold castV castOk
 have e:(hist.any fun w=>decide ((w.car=car∧w.num=num∧w.stp=stp)∧w.val≠val))=false:=h'
 rw[h,e]
 rfl
set_option maxHeartbeats 4000000 in
set_option maxRecDepth 100000 in
theorem cast_any (key:ByteArray)(car num stp:Int)(val:ByteArray){w:World}{hv:Value}{hist:List VoteP}(hh:VS w hv hist)(hk:key.size≤1000)(he:Env w)(hg:3 < w.heap.size) :
  Calls Tryz.prog 23 #[.string key,.int .i64 car,hv,.agg #[.int .i64 num,.int .i64 stp],.string val] w fun e w'=>e=.returned (castR (castV key car num stp val hist))∧Below w.heap.size w w':=by
 obtain⟨a,n,cap,rfl⟩:=hh.form
 obtain⟨W5,hW5⟩:∃ W5,W5=(((((w.alloc (.cells #[.int .i64 car] 3)).alloc (.cells #[.int .i64 num,.int .i64 stp] 25)).alloc (.cells #[.string val] 9)).alloc (.cells #[.int .i64 0,.int .i64 0,.int .i64 0,.string ⟨#[]⟩,.string ⟨#[]⟩] 27)).alloc (.cells #[.int .i64 car,.int .i64 num,.int .i64 stp,.string val,.string key] 27)):=⟨_,rfl⟩
 have h5:=at5 w (.cells #[.int .i64 car] 3) (.cells #[.int .i64 num,.int .i64 stp] 25) (.cells #[.string val] 9) (.cells #[.int .i64 0,.int .i64 0,.int .i64 0,.string ⟨#[]⟩,.string ⟨#[]⟩] 27) (.cells #[.int .i64 car,.int .i64 num,.int .i64 stp,.string val,.string key] 27)
 rw[← hW5]at h5
 obtain⟨hB5,hs5,h50,h51,h52,h53,h54⟩:=h5
 have HB5:=zh hB5
 have HH5:=zh (And.intro h50 (And.intro h51 (And.intro h52 (And.intro h53 h54))))
 have HV5:=zh (hh.below hB5)
 have HE:=zh (he.below hB5 hg)
 have HG:=zh (Nat.lt_of_lt_of_le hg hB5.size)
 have HW5:=zh hW5
 clear hB5 h50 h51 h52 h53 h54 hW5 hh he hg
 -- what the closure asks
 have HCL:Hid (∀ W,Below W5.heap.size W5 W→Calls Tryz.prog 67 #[.slice a n cap,.func (.func 66) #[] #[.pointer (some ⟨w.heap.size,0,none⟩),.pointer (some ⟨w.heap.size+1,0,none⟩),.pointer (some ⟨w.heap.size+1+1,0,none⟩)]] W fun e w'=>e=.returned (.bool (hist.any (otherV car num stp val)))∧Below W5.heap.size W5 w'):=zh (fun W hW=>by
  refine(containsV_cast w.heap.size (w.heap.size+1) (w.heap.size+1+1) (fun _ v=>otherV car num stp val v) (fun _ W'=>Below W5.heap.size W5 W') (HV5.out.below hW) hW (fun _ W' h=>HV5.out.below h) (fun k v W' _ _ hW'=>?_)).mono ?_
  ·have c0:=cell_of_row W' _ 0 _ _ _ ((hW'.block _ (by omega)).trans HH5.out.1)
   have c1:=cell_of_row W' _ 0 _ _ _ ((hW'.block _ (by omega)).trans HH5.out.2.1)
   have c2:=cell_of_row W' _ 1 _ _ _ ((hW'.block _ (by omega)).trans HH5.out.2.1)
   have c3:=cell_of_row W' _ 0 _ _ _ ((hW'.block _ (by omega)).trans HH5.out.2.2.1)
   have hs:=hW'.size
   refine(castfn_any car num stp val w.heap.size (w.heap.size+1) (w.heap.size+1+1) v W' c0 c1 c2 c3 (by omega) (by omega) (by omega)).mono ?_
   rintro e w' ⟨rfl,hb⟩
   exact⟨rfl,q_next hW' hb⟩
  ·rintro e w' ⟨rfl,m,hb⟩
   refine⟨?_,hb⟩
   rw[any_zipIdx (otherV car num stp val) hist 0])
 have HF:=zh (isFormed_any ⟨car,num,stp,val,key⟩ W5)
 simp only at HF
 obtain⟨W6,hW6⟩:∃ W6,W6=W5.alloc (.cells #[.int .i64 car,.int .i64 num,.int .i64 stp,.string val,.string key] 27):=⟨_,rfl⟩
 rw[← hW6]at HF
 have HB6:Hid (Below W5.heap.size W5 W6):=zh (by rw[hW6];exact br0.alloc (Nat.le_refl _) _)
 clear hW6
 have e54:=vcellsAt HH5.out.2.2.2.2
 obtain⟨e0,e1,e2,e3,e4⟩:=e54
 -- the end without a vote
 have NO:∀ W,Below W5.heap.size W5 W→Below w.heap.size w W∧W.heap[w.heap.size+1+1+1]?=some (.cells #[.int .i64 0,.int .i64 0,.int .i64 0,.string ⟨#[]⟩,.string ⟨#[]⟩] 27 (0,0)):=fun W hW=>⟨HB5.out.trans (hW.mono HB5.out.size),(hW.block _ (by omega)).trans HH5.out.2.2.2.1⟩
 have HNO:=zh NO
 clear NO
 cases hf:formedV ⟨car,num,stp,val,key⟩with
 | false =>
  have HR:=zh (castV_no (hist:=hist) (.inl hf))
  rw[hf]at HF
  clear hf
  generalize castV key car num stp val hist=R at *
  go_enter Tryz.func23,Tryz.ntmps23
  go_upto_region 3 with fail
  rw[← HW5.out]
  have HZ:=zh (HNO.out W6 HB6.out)
  obtain⟨z0,z1,z2,z3,z4⟩:=vcellsAt HZ.out.2
  have zf:∀ j,W6.frozen? ⟨w.heap.size+1+1+1,j,none⟩=false:=fun j=>by unfold World.frozen?;rw[HZ.out.2];simp
  go_wp2_with (go_at_call 62;refine HF.out.mono ?_;rintro e w1 ⟨rfl,rfl⟩)
  refine bodyPost_ret (results_cellA_tmp rfl _ (w.heap.size+1+1+1) 27 #[.int .i64 0,.int .i64 0,.int .i64 0,.string ⟨#[]⟩,.string ⟨#[]⟩] (0,0) _ rfl (vfive_heap HZ.out.2 _ _ _ _ _) Tryz.underlying27 rfl infoVote) rfl ⟨?_,vfive_below HZ.out.1 (by omega) _ _ _ _ _⟩
  rw[HR.out]
  rfl
 | true =>
  rw[hf]at HF
  have hsm:=small_formed hf
  obtain⟨D,hD⟩:∃ D,D=hist.any (otherV car num stp val):=⟨_,rfl⟩
  have HN:Hid (D=true→castV key car num stp val hist=none):=zh (fun h=>castV_no (.inr (hD.symm.trans h)))
  have HY:Hid (D=false→castV key car num stp val hist=some ⟨car,num,stp,val,sealV key ⟨car,num,stp,val,key⟩⟩):=zh (fun h=>castV_yes hf (hD.symm.trans h))
  rw[← hD]at HCL
  have HS:Hid (∀ W,Below W5.heap.size W5 W→Calls Tryz.prog 68 #[.string key,.agg #[.int .i64 car,.int .i64 num,.int .i64 stp,.string val,.string key]] W fun e w'=>e=.returned (.string (sealV key ⟨car,num,stp,val,key⟩))∧Below W.heap.size W w'):=zh (fun W hW=>qseal_any key ⟨car,num,stp,val,key⟩ hsm hk W (HE.out.below hW HG.out) (Nat.lt_of_lt_of_le HG.out hW.size))
  generalize castV key car num stp val hist=R at *
  generalize sealV key ⟨car,num,stp,val,key⟩=S at *
  clear hD hf hsm
  cases D
  ·have HR:=zh (HY.out rfl)
   clear HN HY
   go_enter Tryz.func23,Tryz.ntmps23
   go_upto_region 3 with fail
   rw[← HW5.out]
   go_upto_region 5 with(first | (go_at_call 62;refine HF.out.mono ?_;rintro e w1 ⟨rfl,rfl⟩) | (go_at_call 67;refine(HCL.out _ HB6.out).mono ?_;rintro e w2 ⟨rfl,hb2⟩))
   have HB2:=zh hb2
   have HV2:=zh ((hb2.block (w.heap.size+1+1+1+1) (by omega)).trans HH5.out.2.2.2.2)
   clear e0 e1 e2 e3 e4 hb2
   obtain⟨e0,e1,e2,e3,e4⟩:=vcellsAt HV2.out
   go_wp2_with fail
   refine(HS.out _ HB2.out).mono ?_
   rintro e w3 ⟨rfl,hb3⟩
   clear e0 e1 e2 e3 e4
   have HB3:=zh (q_next HB2.out hb3)
   have HV3:=zh ((hb3.block _ (ltA HV2.out)).trans HV2.out)
   clear hb3
   have HZ:=zh (HNO.out w3 HB3.out)
   obtain⟨e0,e1,e2,e3,e4⟩:=vcellsAt HV3.out
   have ef:∀ j,w3.frozen? ⟨w.heap.size+1+1+1+1,j,none⟩=false:=fun j=>by unfold World.frozen?;rw[HV3.out];simp
   go_upto_region 6 with fail
   obtain⟨w4,hw4⟩:∃ w4,w4=w3.setCell ⟨w.heap.size+1+1+1+1,4,none⟩ (.string S):=⟨_,rfl⟩
   rw[← hw4]
   have hg4:w3.grownBy w4 (some (w.heap.size+1+1+1+1)):=by rw[hw4];exact grown_setCell (grown_refl _ _) _ (.inl rfl) _
   have HV4:Hid (w4.heap[w.heap.size+1+1+1+1]?=some (.cells #[.int .i64 car,.int .i64 num,.int .i64 stp,.string val,.string S] 27 (0,0))):=zh (by rw[hw4];exact heap_setCell_same (i:=4) _ HV3.out)
   have HZ4:Hid (w4.heap[w.heap.size+1+1+1]?=some (.cells #[.int .i64 0,.int .i64 0,.int .i64 0,.string ⟨#[]⟩,.string ⟨#[]⟩] 27 (0,0))):=zh ((hg4.block _ (ltA HZ.out.2) (fun e=>by have:=Option.some.inj e;omega)).trans HZ.out.2)
   have HB4:Hid (Below w.heap.size w w4):=zh (by rw[hw4];exact HZ.out.1.setCell (p:=⟨w.heap.size+1+1+1+1,4,none⟩) (by show w.heap.size≤w.heap.size+1+1+1+1;omega) _)
   clear hw4 hg4 e0 e1 e2 e3 e4 ef
   obtain⟨e0,e1,e2,e3,e4⟩:=vcellsAt HV4.out
   obtain⟨z0,z1,z2,z3,z4⟩:=vcellsAt HZ4.out
   have zf:∀ j,w4.frozen? ⟨w.heap.size+1+1+1,j,none⟩=false:=fun j=>by unfold World.frozen?;rw[HZ4.out];simp
   go_wp2
   refine bodyPost_ret (results_cellA_tmp rfl _ (w.heap.size+1+1+1) 27 #[.int .i64 car,.int .i64 num,.int .i64 stp,.string val,.string S] (0,0) _ rfl (vfive_heap HZ4.out _ _ _ _ _) Tryz.underlying27 rfl infoVote) rfl ⟨?_,vfive_below HB4.out (by omega) _ _ _ _ _⟩
   rw[HR.out]
   rfl
  ·have HR:=zh (HN.out rfl)
   clear HN HY HS
   go_enter Tryz.func23,Tryz.ntmps23
   go_upto_region 3 with fail
   rw[← HW5.out]
   go_wp2_with (first | (go_at_call 62;refine HF.out.mono ?_;rintro e w1 ⟨rfl,rfl⟩) | (go_at_call 67;refine(HCL.out _ HB6.out).mono ?_;rintro e w2 ⟨rfl,hb2⟩;have HZ:=zh (HNO.out w2 hb2);clear hb2;obtain⟨z0,z1,z2,z3,z4⟩:=vcellsAt HZ.out.2;have zf:∀ j,w2.frozen? ⟨w.heap.size+1+1+1,j,none⟩=false:=fun j=>(by unfold World.frozen?;rw[HZ.out.2];simp)))
   refine bodyPost_ret (results_cellA_tmp rfl _ (w.heap.size+1+1+1) 27 #[.int .i64 0,.int .i64 0,.int .i64 0,.string ⟨#[]⟩,.string ⟨#[]⟩] (0,0) _ rfl (vfive_heap HZ.out.2 _ _ _ _ _) Tryz.underlying27 rfl infoVote) rfl ⟨?_,vfive_below HZ.out.1 (by omega) _ _ _ _ _⟩
   rw[HR.out]
   rfl
end Go.Proofs.YtggdcnjaofflbaaGreatDoor
