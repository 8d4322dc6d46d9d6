/- slices.SortFunc and slices.Compact over votes: what they give is the one sorted list. No condition. -/
import Derived.Lib.Small
import Derived.Lib.Bytealg
import Derived.Lib.SlicesCompact
import Derived.Sort.Statements
import Derived.Lib.TrailingZeros
import Derived.Test.YtggdcnjaofflbaaGreatDoorMM15
import Derived.StringKeys
import Derived.Maps.OwnIn
namespace Go.Proofs.YtggdcnjaofflbaaGreatDoor
open Go.Lib Go.Sort
theorem cmpB_lt:∀(a b:List UInt8),compareBytes a b < 0 ↔ a < b
 | [],[]=>by simp[compareBytes]
 | [],_::_=>by simp[compareBytes]
 | _::_,[]=>by simp[compareBytes]
 | x::a,y::b=>by
  unfold compareBytes
  rw[List.cons_lt_cons_iff]
  by_cases h:x < y
  ·simp[h]
  ·rw[if_neg h]
   by_cases h':y < x
   ·rw[if_pos h']
    have hne:x≠y:=by
     rintro rfl
     exact h h'
    simp[h,hne]
   ·rw[if_neg h']
    have he:x=y:=UInt8.le_antisymm (UInt8.not_lt.1 h') (UInt8.not_lt.1 h)
    subst he
    rw[cmpB_lt a b]
    simp[UInt8.lt_irrefl]
theorem cmpB_zero:∀(a b:List UInt8),compareBytes a b=0 ↔ a=b
 | [],[]=>by simp[compareBytes]
 | [],_::_=>by simp[compareBytes]
 | _::_,[]=>by simp[compareBytes]
 | x::a,y::b=>by
  unfold compareBytes
  by_cases h:x < y
  ·rw[if_pos h]
   have hne:x≠y:=by
    rintro rfl
    exact UInt8.lt_irrefl _ h
   simp[hne]
  ·rw[if_neg h]
   by_cases h':y < x
   ·rw[if_pos h']
    have hne:x≠y:=by
     rintro rfl
     exact UInt8.lt_irrefl _ h'
    simp[hne]
   ·rw[if_neg h']
    have he:x=y:=UInt8.le_antisymm (UInt8.not_lt.1 h') (UInt8.not_lt.1 h)
    subst he
    rw[cmpB_zero a b]
    simp
theorem cmpI_lt (x y:Int):compareInt x y < 0 ↔ x < y:=by
 unfold compareInt
 by_cases h:x < y
 ·simp[h]
 ·rw[if_neg h]
  by_cases h':x > y
  ·simp[h,h']
  ·simp[h,h']
theorem cmpI_zero (x y:Int):compareInt x y=0 ↔ x=y:=by
 unfold compareInt
 by_cases h:x < y
 ·rw[if_pos h]
  constructor
  ·intro e
   omega
  ·intro e
   omega
 ·rw[if_neg h]
  by_cases h':x > y
  ·rw[if_pos h']
   constructor
   ·intro e
    omega
   ·intro e
    omega
  ·rw[if_neg h']
   constructor
   ·intro _
    omega
   ·intro _
    rfl
def orL:List Int→Int
 | []=>0
 | x::xs=>if x=0 then orL xs else x
def cmpV (a b:VoteP):Int :=
 orL [compareInt a.car b.car,compareInt a.num b.num,compareInt a.stp b.stp,compareBytes a.val.toList b.val.toList,compareBytes a.sl.toList b.sl.toList]
theorem or_lt (x:Int)(xs:List Int):orL (x::xs) < 0 ↔ x < 0∨(x=0∧orL xs < 0):=by
 show(if x=0 then orL xs else x) < 0 ↔ _
 by_cases h:x=0
 ·rw[if_pos h]
  constructor
  ·intro e
   exact .inr ⟨h,e⟩
  ·rintro(e | ⟨_,e⟩)
   ·omega
   ·exact e
 ·rw[if_neg h]
  constructor
  ·intro e
   exact .inl e
  ·rintro(e | ⟨e,_⟩)
   ·exact e
   ·exact absurd e h
theorem or_nil:¬ orL [] < 0:=by
 show ¬ (0:Int) < 0
 omega
theorem cmpV_lt (a b:VoteP):cmpV a b < 0 ↔ ltV a b:=by
 unfold cmpV ltV
 rw[or_lt,or_lt,or_lt,or_lt,or_lt,cmpI_lt,cmpI_lt,cmpI_lt,cmpI_zero,cmpI_zero,cmpI_zero,cmpB_lt,cmpB_lt,cmpB_zero,cmpB_zero]
 constructor
 ·rintro(h | ⟨e,h | ⟨e2,h | ⟨e3,h | ⟨e4,h | ⟨_,h⟩⟩⟩⟩⟩)
  ·exact .inl h
  ·exact .inr ⟨e,.inl h⟩
  ·exact .inr ⟨e,.inr ⟨e2,.inl h⟩⟩
  ·exact .inr ⟨e,.inr ⟨e2,.inr ⟨e3,.inl h⟩⟩⟩
  ·exact .inr ⟨e,.inr ⟨e2,.inr ⟨e3,.inr ⟨e4,h⟩⟩⟩⟩
  ·exact absurd h or_nil
 ·rintro(h | ⟨e,h | ⟨e2,h | ⟨e3,h | ⟨e4,h⟩⟩⟩⟩)
  ·exact .inl h
  ·exact .inr ⟨e,.inl h⟩
  ·exact .inr ⟨e,.inr ⟨e2,.inl h⟩⟩
  ·exact .inr ⟨e,.inr ⟨e2,.inr ⟨e3,.inl h⟩⟩⟩
  ·exact .inr ⟨e,.inr ⟨e2,.inr ⟨e3,.inr ⟨e4,.inl h⟩⟩⟩⟩
theorem cmpV_swo:SWO (fun a b=>decide (cmpV a b < 0)):=by
 refine⟨fun x=>?_,fun x y z h h'=>?_,fun x y z h h'=>?_⟩
 ·refine decide_eq_false ?_
  rw[cmpV_lt]
  exact ltV_irrefl x
 ·have a:=of_decide_eq_true h
  have b:=of_decide_eq_true h'
  rw[cmpV_lt]at a b
  refine decide_eq_true ?_
  rw[cmpV_lt]
  exact ltV_trans a b
 ·have a:=of_decide_eq_false h
  have b:=of_decide_eq_false h'
  rw[cmpV_lt]at a b
  refine decide_eq_false ?_
  rw[cmpV_lt]
  intro hc
  rcases ltV_tri x y with h1 | h1 | h1
  ·exact a h1
  ·subst h1
   exact b hc
  ·exact b (ltV_trans h1 hc)
/-! ### Sorted and compacted -/
instance:Inhabited VoteP:=⟨⟨0,0,0,⟨#[]⟩,⟨#[]⟩⟩⟩
theorem compact_facts (d:Array VoteP)(hs:∀ i j,i < j→j < d.size→¬ ltV d[j]! d[i]!):∀ m,m≤d.size→(compactUpTo d m).Pairwise ltV∧(∀ v,v∈compactUpTo d m ↔ ∃ j,j < m∧d[j]! = v):=by
 intro m
 induction m with
 | zero =>
  intro _
  refine⟨List.Pairwise.nil,fun v=>?_⟩
  constructor
  ·intro h
   cases h
  ·rintro⟨j,h,_⟩
   omega
 | succ m ih =>
  intro hm
  obtain⟨h1,h2⟩:=ih (by omega)
  rw[compactUpTo_succ]
  by_cases hk:keeps d m=true
  ·rw[if_pos hk]
   constructor
   ·rw[List.pairwise_append]
    refine⟨h1,List.pairwise_singleton _ _,fun x hx y hy=>?_⟩
    rw[List.mem_singleton]at hy
    subst hy
    obtain⟨j,hj,rfl⟩:=(h2 x).1 hx
    have hk':=of_decide_eq_true (show decide _=true from hk)
    have hn:d[m]!≠d[m - 1]!:=by
     rcases hk' with h0 | h0
     ·omega
     ·exact h0
    have s1:=hs (m - 1) m (by omega) (by omega)
    have l1:ltV d[m - 1]! d[m]!:=by
     rcases ltV_tri d[m - 1]! d[m]! with t | t | t
     ·exact t
     ·exact absurd t.symm hn
     ·exact absurd t s1
    by_cases hjm:j=m - 1
    ·rw[hjm]
     exact l1
    ·have s2:=hs j (m - 1) (by omega) (by omega)
     rcases ltV_tri d[j]! d[m - 1]! with t | t | t
     ·exact ltV_trans t l1
     ·rw[t]
      exact l1
     ·exact absurd t s2
   ·intro v
    rw[List.mem_append,List.mem_singleton,h2]
    constructor
    ·rintro(⟨j,hj,e⟩ | e)
     ·exact⟨j,by omega,e⟩
     ·exact⟨m,by omega,e.symm⟩
    ·rintro⟨j,hj,e⟩
     by_cases h:j=m
     ·subst h
      exact .inr e.symm
     ·exact .inl ⟨j,by omega,e⟩
  ·rw[if_neg hk,List.append_nil]
   refine⟨h1,fun v=>?_⟩
   rw[h2]
   have hk':=of_decide_eq_false (show decide _=false from Bool.eq_false_iff.2 hk)
   constructor
   ·rintro⟨j,hj,e⟩
    exact⟨j,by omega,e⟩
   ·rintro⟨j,hj,e⟩
    by_cases h:j=m
    ·subst h
     have h0:j≠0:=fun h=>hk' (.inl h)
     have h3:d[j]! = d[j - 1]!:=Decidable.byContradiction fun h=>hk' (.inr h)
     exact⟨j - 1,by omega,h3 ▸ e⟩
    ·exact⟨j,by omega,e⟩
theorem compact_sorted (ks:List ByteArray)(l:List VoteP)(d d':Array VoteP)(hd:d.toList=l.filter (genV ks))(hp:PermIn 0 d.size d d')
  (hs:SortedIn (fun a b=>decide (cmpV a b < 0)) 0 d.size d'):compactUpTo d' d'.size=sortedV ks l:=by
 obtain⟨z1,_,z3⟩:=hp
 have hs':∀ i j,i < j→j < d'.size→¬ ltV d'[j]! d'[i]!:=by
  intro i j hij hj
  have:=of_decide_eq_false (hs i j (Nat.zero_le _) hij (z1 ▸ hj))
  rwa [cmpV_lt]at this
 obtain⟨h1,h2⟩:=compact_facts d' hs' d'.size (Nat.le_refl _)
 refine sortedV_is h1 fun v=>?_
 rw[h2]
 have e1:(d'.extract 0 d.size)=d':=by
  rw[← z1,Array.extract_size]
 have e2:(d.extract 0 d.size)=d:=Array.extract_size
 rw[e1,e2]at z3
 have hm:v∈d'.toList ↔ v∈d.toList:=z3.mem_iff
 rw[hd,List.mem_filter]at hm
 rw[← hm]
 constructor
 ·rintro⟨j,hj,e⟩
  rw[getElem!_pos d' j hj]at e
  rw[← e]
  exact Array.getElem_mem_toList hj
 ·intro h
  obtain⟨j,hj,e⟩:=List.getElem_of_mem h
  rw[Array.length_toList]at hj
  refine⟨j,hj,?_⟩
  rw[getElem!_pos d' j hj,← e]
  exact(Array.getElem_toList hj).symm
end Go.Proofs.YtggdcnjaofflbaaGreatDoor
/- The number of bits of a word, as bits.OnesCount64 reckons it: plain arithmetic. No condition but the word's range. -/
namespace Go.Proofs.YtggdcnjaofflbaaGreatDoor
def bitsum:Nat→Nat→Nat
 | 0,_=>0
 | f+1,n=>n % 2+bitsum f (n / 2)
theorem bitsum_add (a k n:Nat):bitsum (a+k) n=bitsum a n+bitsum k (n / 2 ^ a):=by
 induction a generalizing n with
 | zero=>simp[bitsum]
 | succ a ih =>
  rw[show a+1+k=(a+k)+1 by omega,bitsum,bitsum,ih,Nat.div_div_eq_div_mul,show 2*2 ^ a=2 ^ (a+1) by rw[Nat.pow_succ,Nat.mul_comm]]
  omega
theorem bitsum_low (a n h:Nat):bitsum a (n+2 ^ a*h)=bitsum a n:=by
 induction a generalizing n with
 | zero=>simp[bitsum]
 | succ a ih =>
  rw[bitsum,bitsum]
  have e1:(n+2 ^ (a+1)*h) % 2=n % 2:=by rw[Nat.pow_succ,show 2 ^ a*2*h=2*(2 ^ a*h) by rw[Nat.mul_comm (2 ^ a) 2,Nat.mul_assoc]];omega
  have e2:(n+2 ^ (a+1)*h) / 2=n / 2+2 ^ a*h:=by rw[Nat.pow_succ,show 2 ^ a*2*h=2*(2 ^ a*h) by rw[Nat.mul_comm (2 ^ a) 2,Nat.mul_assoc]];omega
  rw[e1,e2,ih]
theorem bitsum_byte (k b h:Nat)(hb:b < 256):bitsum (8+k) (b+256*h)=bitsum 8 b+bitsum k h:=by
 rw[bitsum_add,show(256:Nat)=2 ^ 8 from rfl,bitsum_low]
 congr 2
 omega
theorem and_split (a c x y:Nat)(ha:a < 256)(hc:c < 256):(a+256*x) &&& (c+256*y)=(a &&& c)+256*(x &&& y):=by
 have e1:((a+256*x) &&& (c+256*y)) % 2 ^ 8=a &&& c:=by
  rw[Nat.and_mod_two_pow];congr 1 <;> omega
 have e2:((a+256*x) &&& (c+256*y)) / 2 ^ 8=x &&& y:=by
  rw[Nat.and_div_two_pow];congr 1 <;> omega
 omega
def q1 (n m:Nat):Nat:=(n / 2 &&& m)+(n &&& m)
def q2 (n m:Nat):Nat:=(n / 4 &&& m)+(n &&& m)
def q3 (n m:Nat):Nat:=(n / 16+n) &&& m
theorem q1_8:∀ b,b < 256→q1 b 85 < 256:=by decide +kernel
theorem q2_8:∀ b,b < 256→q2 (q1 b 85) 51 < 69∧q2 (q1 b 85) 51 % 16≤4:=by decide +kernel
theorem q3_8:∀ b,b < 256→q3 (q2 (q1 b 85) 51) 15=bitsum 8 b∧bitsum 8 b≤8:=by decide +kernel
theorem shift1:∀ b,b < 256→∀ t,t < 2→(b / 2+128*t) &&& 85=(b / 2) &&& 85:=by decide +kernel
theorem shift2:∀ b,b < 256→∀ t,t < 4→(b / 4+64*t) &&& 51=(b / 4) &&& 51:=by decide +kernel
theorem mask15:∀ c,c < 69→∀ t,t≤4→(c / 16+c+16*t) &&& 15=(c / 16+c) &&& 15:=by decide +kernel
theorem q1_step (b h m:Nat)(hb:b < 256):q1 (b+256*h) (85+256*m)=q1 b 85+256*q1 h m:=by
 unfold q1
 have e:(b+256*h) / 2=(b / 2+128*(h % 2))+256*(h / 2):=by omega
 rw[e,and_split _ _ _ _ (by omega) (by omega),and_split _ _ _ _ hb (by omega),shift1 b hb _ (by omega)]
 omega
theorem q2_step (c v m:Nat)(hc:c < 256):q2 (c+256*v) (51+256*m)=q2 c 51+256*q2 v m:=by
 unfold q2
 have e:(c+256*v) / 4=(c / 4+64*(v % 4))+256*(v / 4):=by omega
 rw[e,and_split _ _ _ _ (by omega) (by omega),and_split _ _ _ _ hc (by omega),shift2 c hc _ (by omega)]
 omega
theorem q3_step (c v m:Nat)(hc:c < 69)(hv:v % 16≤4):q3 (c+256*v) (15+256*m)=q3 c 15+256*q3 v m:=by
 unfold q3
 have e:(c+256*v) / 16+(c+256*v)=(c / 16+c+16*(v % 16))+256*(v / 16+v):=by omega
 rw[e,and_split _ _ _ _ (by omega) (by omega),mask15 c hc _ hv]
theorem lanes (b h m1 m2 m3:Nat)(hb:b < 256)(hh:q2 (q1 h m1) m2 % 16≤4) :
  q3 (q2 (q1 (b+256*h) (85+256*m1)) (51+256*m2)) (15+256*m3)=bitsum 8 b+256*q3 (q2 (q1 h m1) m2) m3∧q2 (q1 (b+256*h) (85+256*m1)) (51+256*m2) % 16≤4:=by
 have h1:=q1_8 b hb
 obtain⟨h2,h3⟩:=q2_8 b hb
 rw[q1_step b h m1 hb,q2_step _ _ m2 h1]
 refine⟨?_,by omega⟩
 rw[q3_step _ _ m3 h2 hh,(q3_8 b hb).1]
theorem ones_lanes (n:Nat)(hn:n < 18446744073709551616):∃ p0 p1 p2 p3 p4 p5 p6 p7:Nat,p0≤8∧p1≤8∧p2≤8∧p3≤8∧p4≤8∧p5≤8∧p6≤8∧p7≤8 ∧
  q3 (q2 (q1 n 6148914691236517205) 3689348814741910323) 1085102592571150095=p0+256*(p1+256*(p2+256*(p3+256*(p4+256*(p5+256*(p6+256*p7)))))) ∧
  bitsum 64 n=p0+p1+p2+p3+p4+p5+p6+p7:=by
 obtain⟨b0,n1,r0,e0⟩:∃ b h,b < 256∧n=b+256*h:=⟨n % 256,n / 256,by omega,by omega⟩
 obtain⟨b1,n2,r1,e1⟩:∃ b h,b < 256∧n1=b+256*h:=⟨n1 % 256,n1 / 256,by omega,by omega⟩
 obtain⟨b2,n3,r2,e2⟩:∃ b h,b < 256∧n2=b+256*h:=⟨n2 % 256,n2 / 256,by omega,by omega⟩
 obtain⟨b3,n4,r3,e3⟩:∃ b h,b < 256∧n3=b+256*h:=⟨n3 % 256,n3 / 256,by omega,by omega⟩
 obtain⟨b4,n5,r4,e4⟩:∃ b h,b < 256∧n4=b+256*h:=⟨n4 % 256,n4 / 256,by omega,by omega⟩
 obtain⟨b5,n6,r5,e5⟩:∃ b h,b < 256∧n5=b+256*h:=⟨n5 % 256,n5 / 256,by omega,by omega⟩
 obtain⟨b6,n7,r6,e6⟩:∃ b h,b < 256∧n6=b+256*h:=⟨n6 % 256,n6 / 256,by omega,by omega⟩
 have r7:n7 < 256:=by omega
 have s7:=q3_8 n7 r7
 have t7:=q2_8 n7 r7
 have m6:=lanes b6 n7 85 51 15 r6 t7.2
 have m5:=lanes b5 (b6+256*n7) 21845 13107 3855 r5 m6.2
 have m4:=lanes b4 (b5+256*(b6+256*n7)) 5592405 3355443 986895 r4 m5.2
 have m3:=lanes b3 _ 1431655765 858993459 252645135 r3 m4.2
 have m2:=lanes b2 _ 366503875925 219902325555 64677154575 r2 m3.2
 have m1:=lanes b1 _ 93824992236885 56294995342131 16557351571215 r1 m2.2
 have m0:=lanes b0 _ 24019198012642645 14411518807585587 4238682002231055 r0 m1.2
 refine⟨bitsum 8 b0,bitsum 8 b1,bitsum 8 b2,bitsum 8 b3,bitsum 8 b4,bitsum 8 b5,bitsum 8 b6,bitsum 8 n7,(q3_8 b0 r0).2,(q3_8 b1 r1).2,(q3_8 b2 r2).2,(q3_8 b3 r3).2,(q3_8 b4 r4).2,(q3_8 b5 r5).2,(q3_8 b6 r6).2,s7.2,?_,?_⟩
 ·subst e0 e1 e2 e3 e4 e5 e6
  have h0:=m0.1;have h1:=m1.1;have h2:=m2.1;have h3:=m3.1;have h4:=m4.1;have h5:=m5.1;have h6:=m6.1
  simp only[Nat.reduceMul,Nat.reduceAdd]at h0 h1 h2 h3 h4 h5 h6
  rw[h0,h1,h2,h3,h4,h5,h6,s7.1]
 ·subst e0 e1 e2 e3 e4 e5 e6
  rw[show(64:Nat)=8+56 from rfl,bitsum_byte _ _ _ r0,show(56:Nat)=8+48 from rfl,bitsum_byte _ _ _ r1,show(48:Nat)=8+40 from rfl,bitsum_byte _ _ _ r2,show(40:Nat)=8+32 from rfl,bitsum_byte _ _ _ r3,
   show(32:Nat)=8+24 from rfl,bitsum_byte _ _ _ r4,show(24:Nat)=8+16 from rfl,bitsum_byte _ _ _ r5,show(16:Nat)=8+8 from rfl,bitsum_byte _ _ _ r6]
  omega
theorem lanes_sum (p0 p1 p2 p3 p4 p5 p6 p7 a:Nat)(h0:p0≤8)(h1:p1≤8)(h2:p2≤8)(h3:p3≤8)(h4:p4≤8)(h5:p5≤8)(h6:p6≤8)(h7:p7≤8)
  (ha:a=p0+256*(p1+256*(p2+256*(p3+256*(p4+256*(p5+256*(p6+256*p7))))))) :
  ∃ a4 a5 a6:Nat,a+a / 256=a4∧a4+a4 / 65536=a5∧a5+a5 / 4294967296=a6∧a4 < 18446744073709551616∧a5 < 18446744073709551616∧a6 < 9223372036854775808∧a6 % 128=p0+p1+p2+p3+p4+p5+p6+p7:=by
 obtain⟨t6,e6⟩:∃ t,t=p6+256*p7:=⟨_,rfl⟩
 obtain⟨t5,e5⟩:∃ t,t=p5+256*t6:=⟨_,rfl⟩
 obtain⟨t4,e4⟩:∃ t,t=p4+256*t5:=⟨_,rfl⟩
 obtain⟨t3,e3⟩:∃ t,t=p3+256*t4:=⟨_,rfl⟩
 obtain⟨t2,e2⟩:∃ t,t=p2+256*t3:=⟨_,rfl⟩
 obtain⟨t1,e1⟩:∃ t,t=p1+256*t2:=⟨_,rfl⟩
 rw[← e6,← e5,← e4,← e3,← e2,← e1]at ha
 have b6:t6≤2056:=by omega
 have b5:t5≤526344:=by omega
 have b4:t4≤134744072:=by omega
 have b3:t3≤34494482440:=by omega
 have b2:t2≤8830587504648:=by omega
 have b1:t1≤2260630401189896:=by omega
 have d1:a / 256=t1:=by omega
 obtain⟨U,hU⟩:∃ U,U=t2+t3:=⟨_,rfl⟩
 obtain⟨a4,h4⟩:∃ x,x=a+t1:=⟨_,rfl⟩
 have f4:a4=(p0+p1)+256*(p1+p2)+65536*U:=by omega
 have d2:a4 / 65536=U:=by omega
 obtain⟨V,hV⟩:∃ V,V=t4+t5:=⟨_,rfl⟩
 have fU:U=(p2+p3)+256*(p3+p4)+65536*V:=by omega
 have fV:V=(p4+p5)+256*(p5+p6)+65536*(t6+p7):=by omega
 obtain⟨a5,h5⟩:∃ x,x=a4+U:=⟨_,rfl⟩
 have f5:a5=(p0+p1+p2+p3)+256*(p1+p2+p3+p4)+65536*(p2+p3+p4+p5)+16777216*(p3+p4+p5+p6)+4294967296*(V+(t6+p7)):=by
  clear h4 d1 d2 ha e1 e2 e3 e4 e5 hU hV
  omega
 have d3:a5 / 4294967296=V+(t6+p7):=by
  clear h4 d1 d2 ha e1 e2 e3 e4 e5 hU hV h5 f4 fU fV
  omega
 have bU:U≤8865081987088:=by omega
 have bV:V≤135270416:=by omega
 have c4:a4≤600000000000000000:=by clear h4 d1 d2 d3 ha e1 e2 e3 e4 e5 hU hV h5 fU fV f5;omega
 have c5:a5≤700000000000000000:=by clear h4 d1 d2 d3 ha e1 e2 e3 e4 e5 hU hV f4 fU fV f5;omega
 have g:V+(t6+p7)=(p4+p5+p6+p7)+128*(2*(p5+p6)+512*(t6+p7)+2*p7):=by
  clear h4 d1 d2 d3 ha e1 e2 e3 e4 e5 hU hV h5 f4 fU f5 c4 c5
  omega
 have c6:V+(t6+p7)≤135272480:=by clear h4 d1 d2 d3 ha e1 e2 e3 e4 e5 hU hV h5 f4 fU f5 c4 c5 g fV;omega
 refine⟨a4,a5,a5+(V+(t6+p7)),by rw[d1,h4],by rw[d2,h5],by rw[d3],by omega,by omega,by omega,?_⟩
 have g5:a5=(p0+p1+p2+p3)+128*(2*(p1+p2+p3+p4)+512*(p2+p3+p4+p5)+131072*(p3+p4+p5+p6)+33554432*(V+(t6+p7))):=by
  rw[f5];clear h4 d1 d2 d3 ha e1 e2 e3 e4 e5 hU hV h5 f4 fU fV f5 g c4 c5 c6 bU bV
  omega
 generalize 2*(p1+p2+p3+p4)+512*(p2+p3+p4+p5)+131072*(p3+p4+p5+p6)+33554432*(V+(t6+p7))=X at g5
 generalize 2*(p5+p6)+512*(t6+p7)+2*p7=Y at g
 rw[g,g5]
 clear h4 d1 d2 d3 ha e1 e2 e3 e4 e5 e6 hU hV h5 f4 fU fV f5 g g5 c4 c5 c6 bU bV b1 b2 b3 b4 b5 b6
 omega
end Go.Proofs.YtggdcnjaofflbaaGreatDoor
/- Sets of carriers as bits: who votes for a value. No condition. -/
namespace Go.Proofs.YtggdcnjaofflbaaGreatDoor
def bitsL (m:Nat):List Nat:=(List.range 8).filter m.testBit
theorem bits_count:∀ m,m < 256→(bitsL m).length=bitsum 64 m:=by decide +kernel
theorem bits_drop:∀ m,m < 256→m≠0→∃ i,i < 8∧bitsL m=i::bitsL (m &&& (m - 1))∧m &&& (m - 1) < 256∧m &&& (18446744073709551616 - m)=2 ^ i:=by
 have h:∀ m,m < 256→m≠0→(List.range 8).any (fun i=>decide (bitsL m=i::bitsL (m &&& (m - 1))) && decide (m &&& (m - 1) < 256) && decide (m &&& (18446744073709551616 - m)=2 ^ i))=true:=by decide +kernel
 intro m hm h0
 obtain⟨i,hi,e⟩:=List.any_eq_true.1 (h m hm h0)
 rw[Bool.and_eq_true,Bool.and_eq_true]at e
 exact⟨i,List.mem_range.1 hi,of_decide_eq_true e.1.1,of_decide_eq_true e.1.2,of_decide_eq_true e.2⟩
theorem bits_zero:bitsL 0=[]:=by decide
def maskV (ks:List ByteArray)(num stp:Int)(val:ByteArray):List VoteP→Nat→Nat
 | [],m=>m
 | v::vs,m=>maskV ks num stp val vs (if inSlot ks num stp v=true∧v.val=val then m ||| 2 ^ v.car.toNat else m)
theorem or_lt256 {m i:Nat}(hm:m < 256)(hi:i < 8):m ||| 2 ^ i < 256:=by
 have h:2 ^ i < 2 ^ 8:=Nat.pow_lt_pow_right (by omega) hi
 exact Nat.or_lt_two_pow (n:=8) hm h
theorem slot_facts {ks:List ByteArray}{num stp:Int}{v:VoteP}(h:inSlot ks num stp v=true):genV ks v=true∧v.num=num∧v.stp=stp:=by
 unfold inSlot at h
 rw[Bool.and_eq_true]at h
 exact⟨h.1,of_decide_eq_true h.2⟩
theorem mask_lt (ks:List ByteArray)(num stp:Int)(val:ByteArray):∀(l:List VoteP) (m:Nat),m < 256→maskV ks num stp val l m < 256
 | [],m,h=>h
 | v::vs,m,h=>by
  refine mask_lt ks num stp val vs _ ?_
  by_cases hc:inSlot ks num stp v=true∧v.val=val
  ·rw[if_pos hc]
   have hg:=gen_facts (slot_facts hc.1).1
   exact or_lt256 h (by omega)
  ·rw[if_neg hc]
   exact h
theorem mask_bit (ks:List ByteArray)(num stp:Int)(val:ByteArray):∀(l:List VoteP) (m i:Nat),(maskV ks num stp val l m).testBit i=(m.testBit i || votesFor ks num stp val l i)
 | [],m,i=>by simp[maskV,votesFor]
 | v::vs,m,i=>by
  show(maskV ks num stp val vs _).testBit i=_
  rw[mask_bit ks num stp val vs _ i]
  have e:votesFor ks num stp val (v::vs) i=((genV ks v && decide (v.num=num∧v.stp=stp∧v.val=val∧v.car=i)) || votesFor ks num stp val vs i):=rfl
  rw[e,← Bool.or_assoc]
  congr 1
  by_cases hc:inSlot ks num stp v=true∧v.val=val
  ·rw[if_pos hc,Nat.testBit_or,Nat.testBit_two_pow]
   obtain⟨h1,h2,h3⟩:=slot_facts hc.1
   have hg:=gen_facts h1
   congr 1
   rw[h1,Bool.true_and]
   refine decide_eq_decide.2 ⟨fun h=>⟨h2,h3,hc.2,by omega⟩,fun h=>by omega⟩
  ·rw[if_neg hc]
   have:(genV ks v && decide (v.num=num∧v.stp=stp∧v.val=val∧v.car=i))=false:=by
    rw[Bool.eq_false_iff]
    intro h
    rw[Bool.and_eq_true]at h
    have h2:=of_decide_eq_true h.2
    refine hc ⟨?_,h2.2.2.1⟩
    unfold inSlot
    rw[h.1,Bool.true_and]
    exact decide_eq_true ⟨h2.1,h2.2.1⟩
   rw[this,Bool.or_false]
theorem mask_who {ks:List ByteArray}(hk:ks.length≤8)(num stp:Int)(val:ByteArray)(l:List VoteP):bitsL (maskV ks num stp val l 0)=whoL ks num stp val l:=by
 unfold bitsL whoL
 have e:(maskV ks num stp val l 0).testBit=votesFor ks num stp val l:=by
  funext i
  rw[mask_bit,Nat.zero_testBit,Bool.false_or]
 rw[e]
 obtain⟨n,hn⟩:∃ n,8=ks.length+n:=⟨8 - ks.length,by omega⟩
 rw[hn,List.range_add,List.filter_append]
 have:((List.range n).map (ks.length+·)).filter (votesFor ks num stp val l)=[]:=by
  rw[List.filter_eq_nil_iff]
  intro i hi h
  obtain⟨j,_,rfl⟩:=List.mem_map.1 hi
  obtain⟨v,_,hv⟩:=List.any_eq_true.1 h
  rw[Bool.and_eq_true]at hv
  have h1:=(gen_facts hv.1).2.1
  have h2:=(of_decide_eq_true hv.2).2.2.2
  omega
 rw[this,List.append_nil]
theorem bits_take:∀(k m:Nat),m < 256→k < (bitsL m).length→∃ i r,bitsL m=i::r∧bitsL (m &&& (m - 1))=r∧m &&& (m - 1) < 256∧m &&& (18446744073709551616 - m)=2 ^ i∧i < 8:=by
 intro k m hm hk
 have h0:m≠0:=by
  rintro rfl
  rw[bits_zero]at hk
  simp at hk
 obtain⟨i,h1,h2,h3,h4⟩:=bits_drop m hm h0
 exact⟨i,_,h2,rfl,h3,h4,h1⟩
end Go.Proofs.YtggdcnjaofflbaaGreatDoor
/- Walks of bits.OnesCount and bits.TrailingZeros at a word of 8 bits. The conditions: the range, the table that TrailingZeros64 reads. -/
namespace Go.Proofs.YtggdcnjaofflbaaGreatDoor
open Go.RowKit Go.BigFrame
theorem i64_mask7 (a:Nat)(h:a < 9223372036854775808):bits BinOp.and IntKind.i64 (a:Int) 127=((a % 128:Nat):Int):=by
 have h1:(BitVec.ofInt 64 (a:Int)).toNat=a:=by
  rw[BitVec.ofInt_natCast,BitVec.toNat_ofNat];exact Nat.mod_eq_of_lt (by omega)
 have h2:(BitVec.ofInt 64 (127:Int)).toNat=127:=rfl
 show IntKind.i64.wrap ((BitVec.ofInt 64 (a:Int) &&& BitVec.ofInt 64 127).toNat:Int)=_
 rw[BitVec.toNat_and,h1,h2,Nat.and_two_pow_sub_one_eq_mod a 7]
 rw[IntWalk.i64_in _ ⟨by omega,by omega⟩]
set_option maxHeartbeats 1000000 in
theorem ones_any (n:Nat)(w:World)(h1:n < 18446744073709551616) :
  Calls Tryz.prog 110 #[.int .u64 n] w fun e w'=>e=.returned (.int .i64 (bitsum 64 n:Nat))∧w=w':=by
 obtain⟨p0,p1,p2,p3,p4,p5,p6,p7,g0,g1,g2,g3,g4,g5,g6,g7,hl,hs⟩:=ones_lanes n h1
 obtain⟨a4,a5,a6,e4,e5,e6,l4,l5,l6,hm⟩:=lanes_sum p0 p1 p2 p3 p4 p5 p6 p7 _ g0 g1 g2 g3 g4 g5 g6 g7 hl
 have hres:((bitsum 64 n:Nat):Int)=((a6 % 128:Nat):Int):=by rw[hs,hm]
 have HR:=zh hres
 clear hres hs hm hl g0 g1 g2 g3 g4 g5 g6 g7
 clear p0 p1 p2 p3 p4 p5 p6 p7
 have b0:q1 n 6148914691236517205 < 18446744073709551616:=by
  have h1:n / 2 &&& 6148914691236517205≤6148914691236517205:=Nat.and_le_right
  have h2:n &&& 6148914691236517205≤6148914691236517205:=Nat.and_le_right
  unfold q1;omega
 have k1:IntKind.u64.wrap (bits BinOp.and IntKind.u64 ((n:Int) / 2) 6148914691236517205+bits BinOp.and IntKind.u64 (n:Int) 6148914691236517205)=((q1 n 6148914691236517205:Nat):Int):=by
  rw[show(n:Int) / 2=((n / 2:Nat):Int) by omega,show(6148914691236517205:Int)=((6148914691236517205:Nat):Int)from rfl,u64_and_nat _ _ (by omega) (by omega),u64_and_nat _ _ h1 (by omega),IntKind.wrap_u64]
  unfold q1 at *;omega
 generalize q1 n 6148914691236517205=x1 at *
 have b1:q2 x1 3689348814741910323 < 18446744073709551616:=by
  have h1:x1 / 4 &&& 3689348814741910323≤3689348814741910323:=Nat.and_le_right
  have h2:x1 &&& 3689348814741910323≤3689348814741910323:=Nat.and_le_right
  unfold q2;omega
 have k2:IntKind.u64.wrap (bits BinOp.and IntKind.u64 ((x1:Int) / 4) 3689348814741910323+bits BinOp.and IntKind.u64 (x1:Int) 3689348814741910323)=((q2 x1 3689348814741910323:Nat):Int):=by
  rw[show(x1:Int) / 4=((x1 / 4:Nat):Int) by omega,show(3689348814741910323:Int)=((3689348814741910323:Nat):Int)from rfl,u64_and_nat _ _ (by omega) (by omega),u64_and_nat _ _ b0 (by omega),IntKind.wrap_u64]
  unfold q2 at *;omega
 have b2':q2 x1 3689348814741910323≤7378697629483820646:=by
  have h1:x1 / 4 &&& 3689348814741910323≤3689348814741910323:=Nat.and_le_right
  have h2:x1 &&& 3689348814741910323≤3689348814741910323:=Nat.and_le_right
  unfold q2;omega
 generalize q2 x1 3689348814741910323=x2 at *
 have b3:q3 x2 1085102592571150095 < 18446744073709551616:=by
  have h1:(x2 / 16+x2) &&& 1085102592571150095≤1085102592571150095:=Nat.and_le_right
  unfold q3;omega
 have k3:bits BinOp.and IntKind.u64 (IntKind.u64.wrap ((x2:Int) / 16+(x2:Int))) 1085102592571150095=((q3 x2 1085102592571150095:Nat):Int):=by
  have e:IntKind.u64.wrap ((x2:Int) / 16+(x2:Int))=((x2 / 16+x2:Nat):Int):=by rw[IntKind.wrap_u64];omega
  rw[e,show(1085102592571150095:Int)=((1085102592571150095:Nat):Int)from rfl,u64_and_nat _ _ (by omega) (by omega)]
  rfl
 generalize q3 x2 1085102592571150095=x3 at *
 have k4:IntKind.u64.wrap ((x3:Int)+(x3:Int) / 256)=(a4:Int):=by rw[IntKind.wrap_u64];omega
 have k5:IntKind.u64.wrap ((a4:Int)+(a4:Int) / 65536)=(a5:Int):=by rw[IntKind.wrap_u64];omega
 have k6:IntKind.u64.wrap ((a5:Int)+(a5:Int) / 4294967296)=(a6:Int):=by rw[IntKind.wrap_u64];omega
 clear e4 e5 e6 l4 l5 b0 b1 b2' b3
 go_enter Tryz.func110,Tryz.ntmps110
 go_wp2
 go_ret
 refine⟨ret_int ?_,rfl⟩
 rw[HR.out]
 exact i64_mask7 a6 l6
def Tab (w:World):Prop:=∀ j,j < 64→w.cell? ⟨1,j,none⟩=some (.int .u8 (Lib.deBruijn64tab.getD j 0:Nat))
theorem Tab.below {B:Nat}{w w':World}(h:Tab w)(hb:Below B w w')(hB:1 < B):Tab w':=fun j hj=>(hb.cell (p:=⟨1,j,none⟩) hB).trans (h j hj)
theorem tz_key (a:Nat)(x:Nat)(hx:x < 18446744073709551616)(hx0:x≠0)(hlow:x &&& (18446744073709551616 - x)=a) :
  IntKind.u64.wrap (bits BinOp.and IntKind.u64 (x:Int) (IntKind.u64.wrap (-(x:Int)))*285870213051353865) / 288230376151711744=((a*285870213051353865 % 18446744073709551616 / 288230376151711744:Nat):Int):=by
 have e1:IntKind.u64.wrap (-(x:Int))=((18446744073709551616 - x:Nat):Int):=by rw[IntKind.wrap_u64];omega
 rw[e1,u64_and_nat x _ hx (by omega),hlow,IntKind.wrap_u64]
 omega
set_option maxHeartbeats 1000000 in
theorem tz_core (x k idx:Nat)(w:World)(hx0':((x:Int) == 0)=false)
  (key:IntKind.u64.wrap (bits BinOp.and IntKind.u64 (x:Int) (IntKind.u64.wrap (-(x:Int)))*285870213051353865) / 288230376151711744=(idx:Int))
  (hi:idx < 64) (hk:k < 64) (hcell:w.cell? ⟨1,idx,none⟩=some (.int .u8 k)) :
  Calls Tryz.prog 112 #[.int .u64 x] w fun e w'=>e=.returned (.int .i64 k)∧w=w':=by
 go_enter Tryz.func112,Tryz.ntmps112
 go_wp2_with (simp only[key])
 go_ret
 exact⟨rfl,rfl⟩
theorem tz_any (x k:Nat)(w:World)(hx:x < 18446744073709551616)(hx0:x≠0)(hlow:x &&& (18446744073709551616 - x)=2 ^ k)(hk:k < 64)(ht:Tab w) :
  Calls Tryz.prog 112 #[.int .u64 x] w fun e w'=>e=.returned (.int .i64 k)∧w=w':=by
 obtain⟨hi,htab⟩:=Lib.deBruijn64_at _ hk
 have hcell:=ht _ hi
 rw[htab]at hcell
 exact tz_core x k _ w (by simp;omega) (tz_key _ x hx hx0 hlow) hi hk hcell
set_option maxHeartbeats 400000 in
theorem onesU_any (n:Nat)(w:World)(h1:n < 256) :
  Calls Tryz.prog 78 #[.int .u64 n] w fun e w'=>e=.returned (.int .i64 ((bitsL n).length:Nat))∧w=w':=by
 have HO:=zh (ones_any n w (by omega))
 rw[← bits_count n h1]at HO
 generalize (bitsL n).length=m at *
 go_enter Tryz.func78,Tryz.ntmps78
 go_wp2_with (go_at_call 110;refine HO.out.mono ?_;rintro e w1 ⟨rfl,rfl⟩)
 go_ret
 exact⟨rfl,rfl⟩
set_option maxHeartbeats 400000 in
theorem tzU_any (x k:Nat)(w:World)(hx:x < 18446744073709551616)(hx0:x≠0)(hlow:x &&& (18446744073709551616 - x)=2 ^ k)(hk:k < 64)(ht:Tab w) :
  Calls Tryz.prog 80 #[.int .u64 x] w fun e w'=>e=.returned (.int .i64 k)∧w=w':=by
 have HO:=zh (tz_any x k w hx hx0 hlow hk ht)
 clear hlow
 go_enter Tryz.func80,Tryz.ntmps80
 go_wp2_with (go_at_call 112;refine HO.out.mono ?_;rintro e w1 ⟨rfl,rfl⟩)
 go_ret
 exact⟨rfl,rfl⟩
end Go.Proofs.YtggdcnjaofflbaaGreatDoor
/- The map of package quorum from values to who votes for them: plain facts, and in memory. No condition but lengths. -/
namespace Go.Proofs.YtggdcnjaofflbaaGreatDoor
open Go.RowKit Go.BigFrame Go.WideShapes
abbrev DW:=DataW Unit
def keyL (s:ByteArray):Lit:=.string s.data.toList
theorem keyL_lit (s:ByteArray):WideAt.IsKeyLit (keyL s):=by
 unfold keyL
 constructor <;> simp
theorem keyL_inj {s t:ByteArray}(h:keyL s=keyL t):s=t:=by
 unfold keyL at h
 injection h with h
 exact ByteArray.ext (Array.toList_inj.1 h)
def ReadsU (D:DW)(M:ByteArray→Nat):Prop:=Maps.IsMap D∧∀ s,Maps.has D (keyL s)=decide (M s≠0)∧D.atKey (keyL s) (.lit (.int .u64 0))=.lit (.int .u64 (M s:Nat))
theorem readsU_nil:ReadsU (.map []) (fun _=>0):=⟨Maps.isMap_empty,fun _=>⟨rfl,rfl⟩⟩
theorem readsU_put {D:DW}{M:ByteArray→Nat}(h:ReadsU D M)(s:ByteArray)(n:Nat)(hn:n≠0):ReadsU (D.put (keyL s) (.lit (.int .u64 (n:Nat)))) (fun t=>if t=s then n else M t):=by
 refine⟨h.1.put _ _,fun t=>?_⟩
 show Maps.has _ _=decide ((if t=s then n else M t)≠0)∧_=DataW.lit (.int .u64 ((if t=s then n else M t:Nat):Int))
 by_cases e:t=s
 ·subst e
  rw[if_pos rfl,Maps.has_put_same h.1 (keyL_lit _) _,Maps.atKey_put_same h.1 (keyL_lit _) _ _]
  exact⟨(decide_eq_true hn).symm,rfl⟩
 ·have hne:keyL t≠keyL s:=fun h=>e (keyL_inj h)
  rw[if_neg e]
  exact⟨(Maps.has_put_other hne _).trans (h.2 t).1,(Maps.atKey_put_other hne _ _).trans (h.2 t).2⟩
theorem mask_snoc (ks:List ByteArray)(num stp:Int)(val:ByteArray)(v:VoteP):∀(l:List VoteP) (m:Nat),maskV ks num stp val (l++[v]) m=if inSlot ks num stp v=true∧v.val=val then maskV ks num stp val l m ||| 2 ^ v.car.toNat else maskV ks num stp val l m
 | [],m=>rfl
 | u::l,m=>by
  rw[List.cons_append,maskV,maskV,mask_snoc ks num stp val v l]
theorem mask_filter (ks:List ByteArray)(num stp:Int)(val:ByteArray):∀(l:List VoteP) (m:Nat),maskV ks num stp val (l.filter (genV ks)) m=maskV ks num stp val l m
 | [],m=>rfl
 | v::l,m=>by
  cases h:genV ks v with
  | true=>rw[List.filter_cons_of_pos (by simpa using h),maskV,maskV,mask_filter ks num stp val l]
  | false =>
   rw[List.filter_cons_of_neg (by simp[h]),maskV,mask_filter ks num stp val l]
   have e:¬ (inSlot ks num stp v=true∧v.val=val):=by
    rintro⟨h',_⟩
    rw[(slot_facts h').1]at h
    cases h
   rw[if_neg e]
/-! ### In memory -/
def MapU (w:World)(B n:Nat)(D:DW):Prop:=w.ownsMap Tryz.prog 9 (plainElem Tryz.prog 117) B n D
theorem lawU:Maps.Keyed Tryz.prog 9:=Maps.string_keyed Tryz.underlying9
theorem zeroU (w:World):(zeroValue 117).run Tryz.prog w=.ok (.int .u64 0) w:=by kernel_rfl
theorem keyU {s:ByteArray}(h:s.size≤maxLen):keyOf Tryz.prog 9 (.string s)=some (keyL s):=Go.WideMaps.keyOf_string_mk Tryz.underlying9 h
theorem MapU.below {w w':World}{B n:Nat}{D:DW}(h:MapU w B n D)(hb:Below w.heap.size w w'):MapU w' B n D:=World.ownsMap.kept h (below_grownQ hb) (by simp)
theorem MapU.look {w:World}{B n:Nat}{D:DW}{M:ByteArray→Nat}(h:MapU w B n D)(hr:ReadsU D M)(s:ByteArray)(hs:s.size≤maxLen):(Instr.lookup 118 (.map (some B)) (.string s) false).run Tryz.prog w=.ok (.int .u64 (M s:Nat)) w:=by
 obtain⟨c,hrun,hat,_⟩:=World.ownsMap.lookup_int h lawU (t:=118) (e:=117) Tryz.underlying118 Tryz.underlying117 (zeroU w) (keyU hs)
 rw[(hr.2 s).2]at hat
 have e:c=(M s:Nat):=(Lit.int.inj (DataW.lit.inj hat)).2.symm
 rw[hrun,e]
theorem abide_map {α:Type}{row:Option Nat}{B b:Nat}(hb:b < B)(hr:some b≠row)(n:List α→Nat)(D:List α→DW):Abide row B (fun pre W=>MapU W b (n pre) (D pre)) :=
 ⟨fun pre A C h hs=>World.ownsMap.kept h hs.1 hr,
  fun pre A C r h hg hr'=>World.ownsMap.kept h hg (fun e=>by
  have e:=e.symm
  rcases hr' with hr' | ⟨k,o,hr',hk,_,_⟩
  ·rw[hr']at e;cases e
  ·rw[hr']at e;cases e;omega)⟩
end Go.Proofs.YtggdcnjaofflbaaGreatDoor
/- The iterator over the genuine votes of a list. The conditions: what the slices read as, lengths of keys, the table of constants. -/
namespace Go.Proofs.YtggdcnjaofflbaaGreatDoor
open Go.RowKit Go.BigFrame Go.Shelf
attribute [local go_sem] Oper.semAt_some
abbrev GV (ks:List ByteArray):={ v:VoteP // genV ks v=true }
def GV.enc {ks:List ByteArray}(x:GV ks):Array Value:=#[vagg x.1]
set_option maxHeartbeats 400000 in
theorem genuine_fn (ka:Option Addr)(kn kc:Nat)(a:Option Addr)(n c:Nat)(w:World) :
  Calls Tryz.prog 108 #[.agg #[.slice ka kn kc],.slice a n c] w fun e w'=>e=.returned (.func (.func 146) #[] #[.pointer (some ⟨w.heap.size+1,0,none⟩),.pointer (some ⟨w.heap.size,0,none⟩)])∧w'=(w.alloc (.cells #[.slice ka kn kc] 31)).alloc (.cells #[.slice a n c] 35):=by
 go_enter Tryz.func108,Tryz.ntmps108
 go_wp2
 go_ret
 exact⟨rfl,rfl⟩
def GenK (n₀ b1 b2:Nat)(A B:World):Prop:=Below n₀ A B∧B.heap[b1]?=A.heap[b1]?∧B.heap[b2]?=A.heap[b2]?
theorem GenK.trans {n₀ b1 b2:Nat}{A B C:World}(h:GenK n₀ b1 b2 A B)(h':GenK n₀ b1 b2 B C):GenK n₀ b1 b2 A C:=⟨h.1.trans h'.1,h'.2.1.trans h.2.1,h'.2.2.trans h.2.2⟩
set_option maxRecDepth 100000 in
set_option maxHeartbeats 2000000 in
theorem gen_iter (wd w0:World){kv x:Value}{ks:List ByteArray}{l:List VoteP}(hr:SS wd kv ks)(hks:∀ k∈ks,k.size≤1000)(hl:VS wd x l)(he:Env wd)(hg:3 < wd.heap.size)(hb:Below wd.heap.size wd w0)(b1 b2:Nat)
  (h1:w0.heap[b1]?=some (.cells #[x] 35 (0,0))) (h2:w0.heap[b2]?=some (.cells #[kv] 31 (0,0))) :
  Iter Tryz.prog 146 #[.pointer (some ⟨b1,0,none⟩),.pointer (some ⟨b2,0,none⟩)] (GV.enc (ks:=ks)) (GenK wd.heap.size b1 b2) none (fun xs=>xs.map (·.1)=l.filter (genV ks)) (fun _=>True) l.length w0:=by
 intro F m hF hro lb J Jx W hW hJ hJx hY h0
 obtain⟨a,cap,rfl,l1,l2,l3⟩:=hl.opened
 obtain⟨ka,kn,kc,rfl⟩:∃ a n c,kv=.slice a n c:=by obtain⟨a,c,h,_⟩:=hr.opened;exact⟨_,_,_,h⟩
 have hbl1:b1 < w0.heap.size:=(ltA h1)
 have hbl2:b2 < w0.heap.size:=(ltA h2)
 have H3:=zh l3
 have HR:=zh hr
 have HKS:=zh hks
 have HE:=zh he
 have HG:=zh hg
 have g1:=(hW.block b1 hbl1).trans h1
 have G2:=zh ((hW.block b2 hbl2).trans h2)
 have GB:=zh (hb.trans (hW.mono hb.size))
 clear l3 hr hks he hg h1 h2 hW hb
 unfold maxLen at l2
 obtain⟨n,hn⟩:∃ n,n=l.length:=⟨_,rfl⟩
 rw[← hn]at l1 hY g1
 have HN:=zh hn
 clear hn hl
 have c1:W.cell? ⟨b1,0,none⟩=some (.slice a n cap):=cell_of_row W _ 0 _ _ _ g1
 refine callsIn_of_wp Tryz.func146 rfl (hF.1 _) ?_ hro
 simp only[Tryz.ntmps146,List.size_toArray,List.length_cons,List.length_nil,Nat.reduceAdd,Nat.reduceSub,Array.replicate_succ,Array.replicate_zero,List.push_toArray,List.append_toArray,List.nil_append,List.cons_append]
 gi_wp2
 clear c1 g1
 gi_loopw [8] (fun i wr=>∃(k:Nat) (pre:List (GV ks)),k≤n∧i=.int .i64 k∧Hid (pre.map (·.1)=(l.take k).filter (genV ks))∧Hid (Below wd.heap.size wd wr)∧Hid (wr.heap[b2]?=some (.cells #[.slice ka kn kc] 31 (0,0)))∧J pre wr) (fun i wr=>n - (intOf i).toNat)
 case atStart =>
  exact⟨0,[],by omega,rfl,zh (by rw[List.take_zero];rfl),GB,G2,h0⟩
 case round =>
  clear GB G2
  obtain⟨k,pre,hk,rfl,hpre,hB,hC2,hJs⟩:=hrel
  by_cases hlt:k < n
  ·obtain⟨y,ey⟩:∃ y,l[k]?=some y:=⟨_,List.getElem?_eq_getElem (by rw[← HN.out];exact hlt)⟩
   obtain⟨b,off,rfl,hb,d⟩:=H3.out k y ey
   obtain⟨d0,d1,d2,d3,d4⟩:=d.keep hB.out hb
   have hs:=hB.out.size
   have hb2:=(ltA hC2.out)
   have hlen:pre.length < n:=by
    have e1:=congrArg List.length hpre.out
    rw[List.length_map]at e1
    have e2:=List.length_filter_le (genV ks) (l.take k)
    rw[List.length_take]at e2
    omega
   have HT:Hid ((l.take (k+1)).filter (genV ks)=(l.take k).filter (genV ks)++(if genV ks y=true then[y]else[])):=zh (by
    rw[List.take_add_one,ey,List.filter_append]
    cases h:genV ks y <;> simp[h])
   obtain⟨W2,hW2⟩:∃ W2,W2=wr.alloc (.cells #[.int .i64 y.car,.int .i64 y.num,.int .i64 y.stp,.string y.val,.string y.sl] 27):=⟨_,rfl⟩
   have HB2:Hid (Below wr.heap.size wr W2):=zh (by rw[hW2];exact br0.alloc (Nat.le_refl _) _)
   have HBd:=zh (hB.out.trans (HB2.out.mono hs))
   have HI:=zh (isGen_any (HR.out.below HBd.out) HKS.out y (HE.out.below HBd.out HG.out) (Nat.lt_of_lt_of_le HG.out HBd.out.size))
   have hvb:wr.heap.size < W2.heap.size:=by rw[hW2];simp
   have HV:Hid (∀ W,Below W2.heap.size W2 W→W.cell? ⟨wr.heap.size,0,none⟩=some (.int .i64 y.car)∧W.cell? ⟨wr.heap.size,1,none⟩=some (.int .i64 y.num)∧W.cell? ⟨wr.heap.size,2,none⟩=some (.int .i64 y.stp)∧W.cell? ⟨wr.heap.size,3,none⟩=some (.string y.val)∧W.cell? ⟨wr.heap.size,4,none⟩=some (.string y.sl)):=zh (fun W hW=>vcellsAt ((hW.block _ hvb).trans (by rw[hW2];exact heap_alloc_new wr _)))
   have hC3:W2.heap[b2]?=some (.cells #[.slice ka kn kc] 31 (0,0)):=(HB2.out.block b2 hb2).trans hC2.out
   have c2:wr.cell? ⟨b2,0,none⟩=some (.slice ka kn kc):=cell_of_row wr _ 0 _ _ _ hC2.out
   have HC3:=zh hC3
   have HW2:=zh hW2
   clear ey d hC3 hW2
   cases hgy:genV ks y with
   | false =>
    have HNX:Hid (pre.map (·.1)=(l.take (k+1)).filter (genV ks)):=zh (by rw[HT.out,hgy,hpre.out];simp)
    rw[hgy]at HI
    clear hgy HT
    obtain⟨vc,vn,vs,vv,vl⟩:=y
    simp only at d0 d1 d2 d3 d4 HI HW2 HV
    gi_wp2_with (refine⟨hF.1 _,fun h=>(by rw[hF.2.1]at h;cases h),?_⟩;rw[← HW2.out];refine(callsIn_of_calls hF HI.out).mono ?_;rintro e w3 ⟨rfl,hb3⟩)
    refine⟨fun _ h=>(by cases h),?_⟩
    gi_wp2
    go_roundw
    case rel =>
     have hB3:=HB2.out.trans (hb3.mono HB2.out.size)
     exact⟨k+1,pre,by omega,by go_num,HNX,zh (hB.out.trans (hB3.mono hs)),zh ((hB3.block b2 hb2).trans hC2.out),hJ _ _ _ hJs ⟨below_grownQ hB3,fun b hb=>by cases hb⟩⟩
    case measure=>simp[intOf];omega
   | true =>
    have HNX:Hid ((pre++[(⟨y,hgy⟩:GV ks)]).map (·.1)=(l.take (k+1)).filter (genV ks)):=zh (by rw[HT.out,hgy,List.map_append,hpre.out];simp)
    obtain⟨z,hz⟩:∃ z:GV ks,z=⟨y,hgy⟩:=⟨_,rfl⟩
    rw[← hz]at HNX
    have hzy:z.1=y:=by rw[hz]
    rw[hgy]at HI
    have HY:=zh (fun W hJW=>hY pre z W hJW hlen)
    clear hgy HT hY hz
    obtain⟨zv,hzv⟩:=z
    simp only at hzy
    subst hzy
    obtain⟨vc,vn,vs,vv,vl⟩:=zv
    simp only at d0 d1 d2 d3 d4 HI HW2 HV HY
    gi_wp2_with (refine⟨hF.1 _,fun h=>(by rw[hF.2.1]at h;cases h),?_⟩;rw[← HW2.out];refine(callsIn_of_calls hF HI.out).mono ?_;rintro e w3 ⟨rfl,hb3⟩;have hB3:=zh (HB2.out.trans (hb3.mono HB2.out.size));obtain⟨f0,f1,f2,f3,f4⟩:=HV.out w3 hb3;obtain⟨fn,tmps,assign,body,hy,hRR⟩:=HY.out w3 (hJ _ _ _ hJs ⟨below_grownQ hB3.out,fun b hb=>by cases hb⟩);dsimp only [GV.enc,vagg]at hy;clear hb3)
    refine⟨fun h=>(by rw[hF.2.1]at h;cases h),hRR.mono ?_⟩
    have hC4:Hid (w3.heap[b2]?=some (.cells #[.slice ka kn kc] 31 (0,0))):=zh ((hB3.out.block b2 hb2).trans hC2.out)
    have hB4:=zh (hB.out.trans (hB3.out.mono hs))
    rintro e W4 (⟨rfl,hJ4,hk4⟩ | ⟨rfl,hJx4⟩)
    ·gi_wp2
     go_roundw
     case rel=>exact⟨k+1,_,by omega,by go_num,HNX,zh (hB4.out.trans hk4.1),zh (hk4.2.2.trans hC4.out),hJ4⟩
     case measure=>simp[intOf];omega
    ·gi_wp2
     refine bodyPost_ret (results_none rfl _ _ _) rfl ?_
     exact⟨⟨_,rfl⟩,.inr ⟨_,trivial,hJx4⟩⟩
  ·obtain rfl:k=n:=by omega
   gi_wp2
   go_end0
   refine⟨⟨_,rfl⟩,.inl ⟨pre,?_,hJs⟩⟩
   rw[hpre.out,HN.out,List.take_length]
end Go.Proofs.YtggdcnjaofflbaaGreatDoor
/- Walk of package quorum: votes. The conditions: what the slices read as, lengths of keys, the table of constants. -/
namespace Go.Proofs.YtggdcnjaofflbaaGreatDoor
open Go.RowKit Go.BigFrame Go.Shelf
attribute [local go_sem] Oper.semAt_some
theorem at6 (w:World)(o0 o1 o2 o3 o4 o5:Obj)(W:World)(hW:W=((((((w.alloc o0).alloc o1).alloc o2).alloc o3).alloc o4).alloc o5)):Below w.heap.size w W∧W.heap.size=w.heap.size+6 ∧
  W.heap[w.heap.size]?=some o0∧W.heap[w.heap.size+1]?=some o1∧W.heap[w.heap.size+1+1]?=some o2∧W.heap[w.heap.size+1+1+1]?=some o3∧W.heap[w.heap.size+1+1+1+1]?=some o4∧W.heap[w.heap.size+1+1+1+1+1]?=some o5:=by
 obtain⟨h0,h1,h2,h3,h4,h5,h6⟩:=at5 w o0 o1 o2 o3 o4
 generalize (((((w.alloc o0).alloc o1).alloc o2).alloc o3).alloc o4)=V at *
 subst hW
 have e:=heap_alloc_new V o5
 rw[h1]at e
 exact⟨h0.alloc h0.size _,by rw[World.size_alloc,h1],(Below.heap_alloc _ _ _ (by omega)).trans h2,(Below.heap_alloc _ _ _ (by omega)).trans h3,(Below.heap_alloc _ _ _ (by omega)).trans h4,(Below.heap_alloc _ _ _ (by omega)).trans h5,(Below.heap_alloc _ _ _ (by omega)).trans h6,e⟩
theorem ones_ne {m i:Nat}:m ||| 2 ^ i≠0:=by
 intro e
 have h:=congrArg (Nat.testBit · i) e
 simp at h
theorem maskV_step {ks:List ByteArray}{num stp:Int}{L:List VoteP}{v:VoteP}(hin:inSlot ks num stp v=true):(fun s=>maskV ks num stp s (L++[v]) 0)=fun t=>if t=v.val then maskV ks num stp v.val L 0 ||| 2 ^ v.car.toNat else maskV ks num stp t L 0:=by
 funext t
 rw[mask_snoc]
 by_cases e:t=v.val
 ·rw[if_pos e,if_pos ⟨hin,e.symm⟩,e]
 ·rw[if_neg e,if_neg (fun h=>e h.2.symm)]
theorem maskV_skip {ks:List ByteArray}{num stp:Int}{L:List VoteP}{v:VoteP}(hin:inSlot ks num stp v=false):(fun s=>maskV ks num stp s (L++[v]) 0)=fun s=>maskV ks num stp s L 0:=by
 funext t
 rw[mask_snoc,if_neg (fun h=>by rw[hin]at h;cases h.1)]
def VotesAt (w:World)(ks:List ByteArray)(num stp:Int)(kv x:Value)(L:List VoteP)(W:World):Prop :=
 (∃ n D,MapU W (w.heap.size+1+1) n D∧(ReadsU D (fun s=>maskV ks num stp s L 0)∧n≤L.length))∧(W.heap[w.heap.size+1]?=some (.cells #[.int .i64 num,.int .i64 stp] 25 (0,0)) ∧
  (W.heap[w.heap.size+1+1+1]?=some (.cells #[.map (some (w.heap.size+1+1))] 118 (0,0))∧(W.heap[w.heap.size+1+1+1+1]?=some (.cells #[kv] 31 (0,0))∧(W.heap[w.heap.size+1+1+1+1+1]?=some (.cells #[x] 35 (0,0))∧Below w.heap.size w W))))
theorem votesAt_abide (w:World)(ks:List ByteArray)(num stp:Int)(kv x:Value)(B:Nat)(hB:w.heap.size+6≤B):Abide (α:=GV ks) none B (fun pre W=>VotesAt w ks num stp kv x (pre.map (·.1)) W) :=
 abide_and (abide_ex fun n=>abide_ex fun D=>abide_and (abide_map (by omega) (by simp) (fun _=>n) (fun _=>D)) (abide_pure _ _ _)) (abide_and (abide_cells (fun _=>.cells _ _ _) (fun _=>rfl) (by simp)) (abide_and (abide_cells (fun _=>.cells _ _ _) (fun _=>rfl) (by simp)) (abide_and (abide_cells (fun _=>.cells _ _ _) (fun _=>rfl) (by simp)) (abide_and (abide_cells (fun _=>.cells _ _ _) (fun _=>rfl) (by simp)) (abide_below (by omega) (Nat.le_refl _) (fun q e=>by cases e))))))
set_option maxHeartbeats 4000000 in
set_option maxRecDepth 100000 in
theorem votes_any {w:World}{kv x:Value}{ks:List ByteArray}{l:List VoteP}(hr:SS w kv ks)(hks:∀ k∈ks,k.size≤1000)(hl:VS w x l)(num stp:Int)(he:Env w)(hg:3 < w.heap.size) :
  Calls Tryz.prog 77 #[.agg #[kv],.agg #[.int .i64 num,.int .i64 stp],x] w fun e w'=>∃ B n D,e=.returned (.map (some B))∧MapU w' B n D∧ReadsU D (fun s=>maskV ks num stp s l 0)∧w.heap.size≤B∧Below w.heap.size w w':=by
 obtain⟨ka,kn,kc,rfl⟩:∃ a n c,kv=.slice a n c:=by obtain⟨a,c,h,_⟩:=hr.opened;exact⟨_,_,_,h⟩
 obtain⟨a,cap,rfl,l1,l2,_⟩:=hl.opened
 unfold maxLen at l2
 obtain⟨n,hn⟩:∃ n,n=l.length:=⟨_,rfl⟩
 rw[← hn]at l1
 have HR:=zh hr
 have HKS:=zh hks
 have HL:=zh hl
 have HE:=zh he
 have HG:=zh hg
 have hnl:Hid (n=l.length):=zh hn
 clear hr hks hl he hg
 rw[← hn]at HL ⊢
 clear hn
 have hmm:=@run_makeMap Tryz.prog
 refine calls_of_callsIn (n:=8) Wide.wide (callsIn_of_wp_marks Tryz.func77 rfl trivial ?_)
 simp only[Tryz.ntmps77,List.size_toArray,List.length_cons,List.length_nil,Nat.reduceAdd,Nat.reduceSub,Array.replicate_succ,Array.replicate_zero,List.push_toArray,List.append_toArray,List.nil_append,List.cons_append]
 refine wpIn_wide.2 ?_
 go_wp2_with (go_at_call 108;refine(genuine_fn _ _ _ _ _ _ _).mono ?_;rintro e w1 ⟨rfl,rfl⟩)
 obtain⟨W6,hW6⟩:∃ W6,W6=((((((w.alloc (.cells #[.slice ka kn kc] 31)).alloc (.cells #[.int .i64 num,.int .i64 stp] 25)).alloc (.map #[] 0)).alloc (.cells #[.map (some (w.heap.size+1+1))] 118)).alloc (.cells #[.slice ka kn kc] 31)).alloc (.cells #[.slice a n cap] 35)):=⟨_,rfl⟩
 rw[← hW6]
 obtain⟨h0,h1,h2,h3,h4,h5,h6,h7⟩:=at6 w _ _ _ _ _ _ W6 hW6
 have HM6:Hid (MapU W6 (w.heap.size+1+1) 0 (.map [])):=zh (by
  have e:=World.ownsMap_made ((w.alloc (.cells #[.slice ka kn kc] 31)).alloc (.cells #[.int .i64 num,.int .i64 stp] 25)) Tryz.prog 9 (plainElem (H:=Unit) Tryz.prog 117)
  rw[World.size_alloc,World.size_alloc]at e
  rw[hW6]
  exact World.ownsMap.kept (World.ownsMap.kept (World.ownsMap.kept e (World.grownBy_alloc _ _ none) (by simp)) (World.grownBy_alloc _ _ none) (by simp)) (World.grownBy_alloc _ _ none) (by simp))
 have HV6:Hid (VotesAt w ks num stp (.slice ka kn kc) (.slice a n cap) [] W6):=zh ⟨⟨0,_,HM6.out,readsU_nil,Nat.le_refl _⟩,h3,h5,h6,h7,h0⟩
 have hs6:w.heap.size+6≤W6.heap.size:=by omega
 have HI6:=zh (gen_iter w W6 HR.out HKS.out HL.out HE.out HG.out h0 (w.heap.size+1+1+1+1+1) (w.heap.size+1+1+1+1) h7 h6)
 clear h0 h1 h2 h3 h4 h5 h6 h7 HM6 hW6 hmm
 refine(wpIn_wide (n:=8)).1 ?_
 refine wpIn_rangeA (n:=8) Wide.wide rfl (gf:=146) (lb:=#[.pointer (some ⟨w.heap.size+1+1+1+1+1,0,none⟩),.pointer (some ⟨w.heap.size+1+1+1+1,0,none⟩)]) ?ev (fun args w=>?enter) HI6.out br0 (fun x=>rfl) (fun q e=>by cases e) (fun h h'=>h.trans h') (fun W l o o' h1 h2 h3 h4=>?kb)
  (fun pre W=>VotesAt w ks num stp (.slice ka kn kc) (.slice a n cap) (pre.map (·.1)) W) (fun _ _ _=>False) (votesAt_abide w ks num stp _ _ _ hs6) (fun _=>abide_false _ _) HV6.out
  (fun a x a' W=>∃ q,W.heap[q]?=some (.cells #[.int .i64 x.1.car,.int .i64 x.1.num,.int .i64 x.1.stp,.string x.1.val,.string x.1.sl] 27 (0,0))∧a'=⟨(a.tmps.setIfInBounds 13 (vagg x.1)).setIfInBounds 8 (.pointer (some ⟨q,0,none⟩)),[]⟩)
  (fun x a' W l o o' h1 h2 h3 h4=>?a1) (fun A C h1 h2=>?kg) (fun l pre x W K hI hK=>?assign) (fun lr pre x a' W hI hlen hA=>?body) (fun Dm xs W hDm hS hI hDd=>?done) (fun Dm c pre W hD hS hI=>hI.elim)
 case a1 =>
  obtain⟨q,hq,ha⟩:=h1
  exact⟨q,(World.putObj_heap_other (fun e=>by subst e;rw[h3]at hq;cases hq;cases h4)).trans hq,ha⟩
 case kg=>exact⟨br0.grown h2 (by omega) (fun j e=>by cases e),h2.block _ (by omega) (by simp),h2.block _ (by omega) (by simp)⟩
 case assign =>
  unfold GV.enc vagg at *
  simp only[List.zip_toArray,List.zip_cons_cons,List.zip_nil_right,List.foldl_toArray',List.foldl_cons,List.foldl_nil,List.setIfInBounds_toArray,List.set_cons_succ,List.set_cons_zero]
  gi_wp2
  exact hK _ _ ⟨W.heap.size,heap_alloc_new _ _,rfl⟩ (World.grownBy_alloc _ _ _)
 case ev=>rfl
 case enter=>kernel_rfl
 case kb=>exact⟨br0.grown (grownBy_putObj' W l o') (by have:=(ltA h2);omega) (fun j e=>by cases e;omega),World.putObj_heap_other (fun e=>by omega),World.putObj_heap_other (fun e=>by omega)⟩
 case body =>
  obtain⟨q,hq,rfl⟩:=hA
  obtain⟨⟨m,D,g1,g2,g3⟩,g4,g5,g6,g7,g8⟩:=hI
  obtain⟨v,hv⟩:=x
  simp only at hq
  obtain⟨v0,v1,v2,v3,v4⟩:=vcellsAt hq
  have c1:W.cell? ⟨w.heap.size+1,0,none⟩=some (.int .i64 num):=cell_of_row W _ 0 _ _ _ g4
  have c2:W.cell? ⟨w.heap.size+1,1,none⟩=some (.int .i64 stp):=cell_of_row W _ 1 _ _ _ g4
  have c3:W.cell? ⟨w.heap.size+1+1+1,0,none⟩=some (.map (some (w.heap.size+1+1))):=cell_of_row W _ 0 _ _ _ g5
  have hgf:=gen_facts hv
  have hsW:w.heap.size+6≤W.heap.size:=by have:=(ltA g7);omega
  have hin:inSlot ks num stp v=decide (v.num=num∧v.stp=stp):=by unfold inSlot;rw[hv,Bool.true_and]
  have hs:=fun W=>eqlSlot v.num v.stp num stp W
  have G1:=zh g1
  have G2:=zh (And.intro g2 g3)
  have GK:=zh (And.intro g4 (And.intro g5 (And.intro g6 (And.intro g7 g8))))
  have hmlen:(pre.map (·.1)).length < n:=by rw[List.length_map,hnl.out];exact hlen
  clear g1 g2 g3 g4 g5 g6 g7 g8 hq
  obtain⟨L,hL⟩:∃ L,L=pre.map (·.1):=⟨_,rfl⟩
  have HMP:Hid (((pre++[(⟨v,hv⟩:GV ks)]).map (·.1))=L++[v]):=zh (by rw[List.map_append,hL];rfl)
  rw[← hL]at hmlen G2
  clear hL
  obtain⟨X,hX⟩:∃ X:GV ks,X=⟨v,hv⟩:=⟨_,rfl⟩
  rw[← hX]at HMP ⊢
  have hXv:X.1=v:=by rw[hX]
  rw[hXv]
  clear hX hXv
  cases hD:decide (v.num=num∧v.stp=stp)with
  | false =>
   rw[hD]at hin hs
   have HSK:=zh (maskV_skip (L:=L) hin)
   clear hin hD hgf
   obtain⟨vc,vn,vs,vv,vl⟩:=v
   unfold vagg
   simp only at v0 v1 v2 v3 v4 hs
   simp only[List.setIfInBounds_toArray,List.set_cons_succ,List.set_cons_zero]
   gi_wp2
   refine⟨⟨Nat.le_refl _,fun q o _ hq _=>hq⟩,⟨Below.refl _ _,rfl,rfl⟩,?_⟩
   show VotesAt _ _ _ _ _ _ (List.map _ _) _
   rw[HMP.out]
   exact⟨⟨m,D,G1.out,by rw[HSK.out];exact G2.out.1,by rw[List.length_append];have:=G2.out.2;omega⟩,GK.out⟩
  | true =>
   rw[hD]at hin hs
   have HSK:=zh (maskV_step (L:=L) hin)
   clear hin hD
   obtain⟨vc,vn,vs,vv,vl⟩:=v
   unfold vagg
   simp only at v0 v1 v2 v3 v4 hs hgf HSK
   obtain⟨c,hc⟩:=Int.eq_ofNat_of_zero_le hgf.1.1
   subst hc
   have hc8:c < 8:=by omega
   simp only[List.setIfInBounds_toArray,List.set_cons_succ,List.set_cons_zero]
   gi_wp2
   have hlk:∀ q,(Instr.lookup 118 (.map (some (w.heap.size+1+1))) (.string vv) false).run Tryz.prog (W.drewN q)=.ok (.int .u64 (maskV ks num stp vv L 0:Nat)) (W.drewN q):=fun q=>MapU.look (World.ownsMap.kept G1.out (below_grownQ (below_drewN br0 q)) (by simp)) G2.out.1 vv (by rw[hgf.2.2.2.2];decide)
   have hM:=mask_lt ks num stp vv L 0 (by decide)
   obtain⟨M,hMe⟩:∃ M,M=maskV ks num stp vv L 0:=⟨_,rfl⟩
   rw[← hMe]at hlk hM HSK
   clear hMe
   refine wpIn_region_quiet_tail 8 (fun w'=>∃ q,w'=W.drewN q) (Wide.inRound Wide.wide _) (by kernel_rfl) (by kernel_rfl) ⟨1,rfl⟩ ?_
   simp only[List.take_succ_cons,List.take_zero,List.drop_succ_cons,List.drop_zero]
   repeat (go_big_quiet_step (fail))
   refine wpQuiet_nil ?_
   rintro _ ⟨nq,rfl⟩
   have hor:bits BinOp.or IntKind.u64 (M:Int) (IntKind.u64.wrap (2 ^ c))=((M ||| 2 ^ c:Nat):Int):=by
    have hp:(2:Nat) ^ c < 256:=Nat.lt_of_lt_of_le (Nat.pow_lt_pow_right (by decide) hc8) (by decide)
    have e:((2:Int) ^ c)=((2 ^ c:Nat):Int):=by rw[Int.natCast_pow];rfl
    rw[e]
    generalize 2 ^ c=P at *
    rw[IntKind.wrap_u64,show((P:Int) % 18446744073709551616)=(P:Int)from by omega]
    exact u64_or_nat M P (by omega) (by omega)
   rw[hor]
   have hO:=or_lt256 hM hc8
   obtain⟨N,hN⟩:∃ N,N=M ||| 2 ^ c:=⟨_,rfl⟩
   have HN0:Hid (N≠0):=zh (by rw[hN];exact ones_ne)
   have HSK2:Hid ((fun s=>maskV ks num stp s (L++[⟨(c:Int),vn,vs,vv,vl⟩]) 0)=fun t=>if t=vv then N else maskV ks num stp t L 0):=zh (by rw[HSK.out,hN];rfl)
   rw[← hN]at hO ⊢
   clear hN hor HSK hs hlk v0 v1 v2 v3 v4 c1 c2 c3
   have HK:=zh (keyU (s:=vv) (by rw[hgf.2.2.2.2];decide))
   have HV:=zh (plainElem_int (H:=Unit) Tryz.underlying117 (a:=((N:Nat):Int)) (q:=.u64) (by
    exact WalkArith.wf_u64 ⟨by omega,by omega⟩))
   have HMW:Hid (MapU (W.drewN nq) (w.heap.size+1+1) m D):=zh (World.ownsMap.kept G1.out (below_grownQ (below_drewN br0 nq)) (by simp))
   have hm63:m < maxLen:=by have:=G2.out.2;unfold maxLen;omega
   gi_wp2_with (gi_at_mapUpdate;refine wpListIn_mapUpdate_own _ rfl _ _ _ 118 rfl 9 117 lawU Tryz.underlying118 _ (w.heap.size+1+1) m D rfl HMW.out hm63 _ _ _ rfl rfl HK.out _ [] HV.out ?_;intro w1 hown1 hgrow1)
   have hkeep:∀(k:Nat) (o:Obj),W.heap[k]?=some o→k≠w.heap.size+1+1→w1.heap[k]?=some o:=fun k o hk hne=>(hgrow1.block k (by show k < (W.drewN nq).heap.size;exact(ltA hk)) (fun e=>hne (Option.some.inj e))).trans hk
   have hbw:Below w.heap.size w w1:=(below_drewN GK.out.2.2.2.2 nq).grown hgrow1 (by show w.heap.size≤W.heap.size;omega) (fun j e=>by cases e;omega)
   have hbW:Below w.heap.size W w1:=(below_drewN br0 nq).grown hgrow1 (by show w.heap.size≤W.heap.size;omega) (fun j e=>by cases e;omega)
   refine⟨⟨hbW.size,fun k o hk ho _=>hkeep k o ho (by omega)⟩,⟨hbW,(hkeep _ _ GK.out.2.2.2.1 (by omega)).trans GK.out.2.2.2.1.symm,(hkeep _ _ GK.out.2.2.1 (by omega)).trans GK.out.2.2.1.symm⟩,?_⟩
   show VotesAt _ _ _ _ _ _ (List.map _ _) _
   rw[HMP.out]
   refine⟨⟨m+1,_,hown1,?_,by rw[List.length_append];have:=G2.out.2;simp only[List.length_cons,List.length_nil];omega⟩,hkeep _ _ GK.out.1 (by omega),hkeep _ _ GK.out.2.1 (by omega),hkeep _ _ GK.out.2.2.1 (by omega),hkeep _ _ GK.out.2.2.2.1 (by omega),hbw⟩
   rw[HSK2.out]
   exact readsU_put G2.out.1 vv N HN0.out
 case done =>
  obtain⟨⟨m,D,g1,g2,_⟩,_,g5,g6,g7,g8⟩:=hI
  have c3:W.cell? ⟨w.heap.size+1+1+1,0,none⟩=some (.map (some (w.heap.size+1+1))):=cell_of_row W _ 0 _ _ _ g5
  have G1:=zh g1
  have G8:=zh g8
  have HDd:=zh hDd
  have HRD:Hid (ReadsU D (fun s=>maskV ks num stp s l 0)):=zh (by
   have e:(fun s=>maskV ks num stp s l 0)=fun s=>maskV ks num stp s (xs.map (·.1)) 0:=by
    funext s
    rw[hS,mask_filter]
   rw[e]
   exact g2)
  have hDm':w.heap.size+6≤Dm:=by omega
  clear hS g1 g2 g5 g6 g7 g8 hDd hDm
  show Exit.inBlock _ _ _ (Act.mk _ [{ target:=.collected Dm,args:=#[] }]) W
  go_wp2
  have hM:Marks (w.heap.size+6) [Dm] W:=⟨by simp,fun D' hD=>by
   rw[List.mem_singleton]at hD
   subst hD
   exact⟨hDm',HDd.out⟩⟩
  refine leaves_marks (B:=w.heap.size+6) [Dm] W hM (fun W'' hT=>⟨_,results_tmp rfl _ _ _,w.heap.size+1+1,m,D,rfl,?_,HRD.out,by omega,G8.out.trans (hT.below.mono (by omega))⟩)
  obtain⟨es,clock,hb,F,hn,hD⟩:=G1.out
  exact⟨es,clock,(hT.old _ (by omega)).trans hb,F,hn,hD⟩
end Go.Proofs.YtggdcnjaofflbaaGreatDoor
