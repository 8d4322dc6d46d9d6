/- Walks of package quorum: Valid, put, content, seal, isGenuine, Genuine, Encode. The conditions: what the slices read as, ranges, the table of constants. -/
import Derived.Test.YtjjiikeldpjafaaGreatDoorTT13
import Derived.Lib.Small
import Derived.Lib.Bytealg
import Derived.Lib.SlicesCompact
import Derived.Sort.Statements
import Derived.Lib.TrailingZeros
namespace Go.Proofs.YtjjiikeldpjafaaGreatDoor
open Go.RowKit Go.BigFrame
/-! ### Valid -/
/-! ### put -/
/-! ### content, seal -/
theorem grp_small {f z:Nat}(h:z < 128):grp f z=[UInt8.ofNat z]:=by
 cases f with
 | zero=>rfl
 | succ f=>rw[grp,if_pos h]
theorem grp_great {f z:Nat}(h:¬ z < 128):grp (f+1) z=UInt8.ofNat (z % 128+128)::grp f (z / 128):=by rw[grp,if_neg h]
theorem strOf_bytes (l:List Nat):strOf l=⟨(l.map UInt8.ofNat).toArray⟩:=rfl
/-! ### Sorted and compacted -/
def q1 (n m:Nat):Nat:=(n / 2 &&& m)+(n &&& m)
def q2 (n m:Nat):Nat:=(n / 4 &&& m)+(n &&& m)
def q3 (n m:Nat):Nat:=(n / 16+n) &&& m
theorem and7:∀ b:Fin 256,bits BinOp.and IntKind.u8 ((b.val:Nat):Int) 127=((b.val % 128:Nat):Int):=by decide +kernel
theorem xorz (h r:Nat)(hh:h < 4611686018427387904)(hr:r < 2):bits BinOp.xor IntKind.i64 (h:Int) (-(r:Int))=(if r=0 then(h:Int)else -(h:Int) - 1):=by
 have h1:(BitVec.ofInt 64 (h:Int)).toNat=h:=by
  rw[BitVec.ofInt_natCast,BitVec.toNat_ofNat];exact Nat.mod_eq_of_lt (by omega)
 show IntKind.i64.wrap ((BitVec.ofInt 64 (h:Int) ^^^ BitVec.ofInt 64 (-(r:Int))).toNat:Int)=_
 have hr2:r=0∨r=1:=by omega
 rcases hr2 with rfl | rfl
 ·rw[if_pos rfl,show BitVec.ofInt 64 (-((0:Nat):Int))=0#64 from rfl,BitVec.xor_zero,h1]
  exact IntWalk.i64_in _ (by omega)
 ·rw[if_neg (by decide),show BitVec.ofInt 64 (-((1:Nat):Int))=BitVec.allOnes 64 from by decide,BitVec.xor_allOnes,BitVec.toNat_not,h1]
  have e:((2 ^ 64 - 1 - h:Nat):Int)=-(h:Int) - 1+18446744073709551616:=by omega
  rw[e]
  simp[IntKind.wrap,IntKind.bits,IntKind.signed]
  omega
theorem or_add (z m i:Nat)(hz:z < 128 ^ i):z ||| m*128 ^ i=z+m*128 ^ i:=by
 have e:128 ^ i=2 ^ (7*i):=by rw[show 128=2 ^ 7 from rfl,← Nat.pow_mul]
 rw[e]at hz ⊢
 rw[Nat.mul_comm m,Nat.or_comm,← Nat.two_pow_add_eq_or_of_lt hz,Nat.add_comm]
theorem and1 (z r:Nat)(hz:z < 9223372036854775808)(hre:r=z % 2):bits BinOp.and IntKind.u64 (z:Int) 1=(r:Int):=by
 have e:=bits_and_u64_nat z 1 (by omega) (by omega)
 rw[hre,← Nat.and_one_is_mod]
 exact e
theorem pow9 (k:Nat)(hk:k < 9):128 ^ k≤72057594037927936:=by
 have h:128 ^ k≤128 ^ 8:=Nat.pow_le_pow_right (by decide) (by omega)
 rwa [show(128:Nat) ^ 8=72057594037927936 from by decide]at h
theorem z_bound (y m P:Nat)(hy:y < P)(hm:m < 128):y+m*P < P*128:=by
 have h1:m*P+P≤128*P:=by
  have:=Nat.mul_le_mul_right P (show m+1≤128 by omega)
  rwa [Nat.add_mul,Nat.one_mul]at this
 omega
theorem pow_int (m k:Nat):((m:Int)*2 ^ (7*k))=((m*128 ^ k:Nat):Int):=by
 rw[show(128:Nat)=2 ^ 7 from rfl,← Nat.pow_mul]
 push_cast
 rfl
theorem u64_in (x:Nat)(h:x < 18446744073709551616):IntKind.u64.wrap (x:Int)=(x:Int):=by rw[IntKind.wrap_u64];omega
theorem half_in (z h:Nat)(hz:z < 9223372036854775808)(hh:h=z / 2):wrap64 ((z:Int) / 2)=(h:Int):=by unfold wrap64;omega
theorem r_in (r:Nat)(hr:r < 2):wrap64 (r:Int)=(r:Int)∧wrap64 (-(r:Int))=-(r:Int):=by unfold wrap64;omega
theorem half_lt (z h:Nat)(hz:z < 9223372036854775808)(hh:h=z / 2):h < 4611686018427387904:=by omega
theorem byte_facts (y bn k:Nat)(hk:k < 9)(hy:y < 128 ^ k)(hb:bn < 256):∃ m q z h r:Nat,∃ N:Int,z=y+bn % 128*128 ^ k∧N=unzig z∧z < 128 ^ (k+1)∧bits BinOp.and IntKind.u8 (bn:Int) 127=(m:Int)∧IntKind.u64.wrap (m:Int)=(m:Int)∧IntKind.u64.wrap ((m:Int)*2 ^ (7*k))=(q:Int)∧bits BinOp.or IntKind.u64 (y:Int) (q:Int)=(z:Int)
  ∧ wrap64 ((z:Int) / 2)=(h:Int)∧bits BinOp.and IntKind.u64 (z:Int) 1=(r:Int)∧wrap64 (r:Int)=(r:Int)∧wrap64 (-(r:Int))=-(r:Int)∧bits BinOp.xor IntKind.i64 (h:Int) (-(r:Int))=N:=by
 have hP:=pow9 k hk
 have hm:bn % 128 < 128:=by omega
 have hz:=z_bound y (bn % 128) (128 ^ k) hy hm
 have hq:bn % 128*128 ^ k≤y+bn % 128*128 ^ k:=Nat.le_add_left _ _
 have hor:y ||| bn % 128*128 ^ k=y+bn % 128*128 ^ k:=or_add y (bn % 128) k hy
 have hpi:=pow_int (bn % 128) k
 have hpw:128 ^ (k+1)=128 ^ k*128:=Nat.pow_succ _ _
 generalize 128 ^ k=P at *
 have hzb:y+bn % 128*P < 9223372036854775808:=by omega
 refine⟨bn % 128,bn % 128*P,y+bn % 128*P,(y+bn % 128*P) / 2,(y+bn % 128*P) % 2,unzig (y+bn % 128*P),rfl,rfl,by rw[hpw];exact hz,and7 ⟨bn,hb⟩,u64_in _ (by omega),?_,?_,half_in _ _ hzb rfl,and1 _ _ hzb rfl,(r_in _ (Nat.mod_lt _ (by decide))).1,(r_in _ (Nat.mod_lt _ (by decide))).2,?_⟩
 ·rw[hpi];exact u64_in _ (by omega)
 ·rw[bits_or_u64_nat _ _ (by omega) (by omega),hor]
 ·rw[xorz _ _ (half_lt _ _ hzb rfl) (Nat.mod_lt _ (by decide))]
  unfold unzig
  generalize y+bn % 128*P=z
  rfl
def intR (a:Nat)(o:Option (Int × Nat)):Value:=match o with
 | some (n,k)=>.tuple #[.int .i64 n,.int .i64 ((a+k:Nat):Int),.int .i64 0]
 | none=>.tuple #[.int .i64 0,.int .i64 0,.int .i64 10]
set_option maxHeartbeats 4000000 in
set_option maxRecDepth 100000 in
theorem int_any (s:ByteArray)(a:Nat)(ha:a≤s.size)(hs:s.size≤1000000)(w:World) :
  Calls Tryz.prog 165 #[.string s,.int .i64 a] w fun e w'=>e=.returned (intR a (intL 9 0 0 (s.data.toList.drop a)))∧w'=w:=by
 have HRES:=zh (rfl:intR a (intL 9 0 0 (s.data.toList.drop a))=intR a (intL 9 0 0 (s.data.toList.drop a)))
 obtain⟨RES,hRES⟩:∃ R,R=intL 9 0 0 (s.data.toList.drop a):=⟨_,rfl⟩
 rw[← hRES]
 have HR:=zh hRES
 clear hRES HRES
 have h0:(0:Int)≤(a:Int):=by omega
 have h1:¬ ((s.size:Int) < (a:Int)):=by omega
 have h1':¬ (s.size < a):=by omega
 go_enter Tryz.func165,Tryz.ntmps165
 go_wp2
 go_loopw [7,19] (fun z i wr=>∃ k y:Nat,k≤9∧i=.int .i64 k∧z=.int .u64 y∧y < 128 ^ k∧a+k≤s.size∧Hid (RES=intL (9 - k) k y (s.data.toList.drop (a+k)))∧wr=w) (fun _ i _=>9 - (intOf i).toNat)
 case atStart=>exact⟨0,0,by omega,rfl,rfl,by decide,by omega,HR,rfl⟩
 case round =>
  obtain⟨k,y,hk,rfl,rfl,hy,hak,hI,rfl⟩:=hrel
  by_cases hk9:k < 9
  ·by_cases hend:a+k < s.size
   ·have hk0:(0:Int)≤(a:Int)+(k:Int):=by omega
    have hk1:(a:Int)+(k:Int) < (s.size:Int):=by omega
    have hk2:IntKind.i64.wrap ((a:Int)+(k:Int))=(a:Int)+(k:Int):=IntWalk.i64_in _ (by omega)
    have hget:s.data.toList.drop (a+k)=s[a+k]::s.data.toList.drop (a+(k+1)):=by
     have hlt:a+k < s.data.toList.length:=by rw[Array.length_toList];exact hend
     rw[List.drop_eq_getElem_cons hlt]
     rfl
    have HI2:=zh (hI.out.trans (congrArg (intL (9 - k) k y) hget))
    clear hI hget
    obtain⟨B,hB⟩:∃ B,B=s[a+k]:=⟨_,rfl⟩
    rw[← hB]at HI2
    have hB256:=B.toNat_lt
    have hbn:s[a+k].toNat=B.toNat:=by rw[hB]
    obtain⟨bn,hbe⟩:∃ bn,bn=B.toNat:=⟨_,rfl⟩
    rw[← hbe]at hbn hB256
    obtain⟨f,hf⟩:∃ f,9 - k=f+1:=⟨8 - k,by omega⟩
    obtain⟨m,q,z,h,r,N,hze,hNe,hzk,hm,hm2,hsh,hor,hh,hr1,hr2,hr3,hx⟩:=byte_facts y bn k hk9 hy hB256
    have HST:Hid (RES=if 128≤bn then intL f (k+1) z (s.data.toList.drop (a+(k+1)))else if(bn=0∧0 < k)∨N < -4611686018427387903 then none else some (N,k+1)):=zh (by
     rw[HI2.out,hf,intL,hNe,hze,hbe])
    have HF:=zh hf
    have HZK:=zh hzk
    have HY:=zh hy
    have HNE:=zh (And.intro hNe hze)
    clear hB hbe hf hze hNe HI2 hzk hy
    by_cases h128:128≤bn
    ·have HRS:=zh (HST.out.trans (if_pos h128))
     have h128':(128:Int)≤(bn:Int):=by omega
     clear HST
     go_wp2
     go_roundw
     case rel=>exact⟨k+1,z,by omega,by go_num,rfl,HZK.out,by omega,by rw[show 9 - (k+1)=f by have:=HF.out;omega];exact HRS,by trivial⟩
     case measure=>simp[intOf];omega
    ·have H2:=zh (HST.out.trans (if_neg h128))
     have h128':(bn:Int) < (128:Int):=by omega
     clear HST
     by_cases hbad:bn=0∧0 < k
     ·obtain⟨hb0,hkp⟩:=hbad
      have HRS:Hid (RES=none):=zh (H2.out.trans (if_pos (.inl ⟨hb0,hkp⟩)))
      subst hb0
      have hkp':(0:Int) < (k:Int):=by omega
      clear h128 h128' H2 HNE HF
      go_wp2
      (try simp only[Exit.inBlock,Exit.then]);refine bodyPost_ret (results_tmp3 rfl _ _ _) rfl ?_
      rw[HRS.out]
      exact⟨rfl,rfl⟩
     ·by_cases hN:N < -4611686018427387903
      ·have HRS:Hid (RES=none):=zh (H2.out.trans (if_pos (.inr hN)))
       have hb0:bn≠0:=fun e=>by
        have hk0:k=0:=by omega
        have hy0:=HY.out
        obtain⟨n1,n2⟩:=HNE.out
        subst hk0 e
        simp only[Nat.pow_zero]at hy0
        obtain rfl:y=0:=by omega
        subst n2
        subst n1
        revert hN
        decide
       clear H2 HNE HF
       go_wp2
       (try simp only[Exit.inBlock,Exit.then]);refine bodyPost_ret (results_tmp3 rfl _ _ _) rfl ?_
       rw[HRS.out]
       exact⟨rfl,rfl⟩
      ·have HRS:Hid (RES=some (N,k+1)):=zh (H2.out.trans (if_neg (by rintro(h | h);exact hbad h;exact hN h)))
       by_cases hb0:bn=0
       ·have hk0:k=0:=by omega
        have hy0:=HY.out
        obtain⟨n1,n2⟩:=HNE.out
        have hy00:y=0:=by
         rw[hk0,Nat.pow_zero]at hy0
         omega
        have HRT:Hid (RES=some (0,1)):=zh (by
         rw[HRS.out,hk0]
         subst hb0 hy00
         subst n2
         subst n1
         simp only[Nat.zero_mod,Nat.zero_mul,Nat.add_zero]
         rfl)
        have hkz:¬ (0:Int) < (k:Int):=by omega
        subst hb0 hy00
        clear HRS n1 n2 hm hm2 hsh hor hh hr1 hr2 hr3 hx hN HNE H2 HF HY hk0 hy0
        have g1:bits BinOp.and IntKind.u8 0 127=0:=by decide
        have g2:bits BinOp.or IntKind.u64 0 0=0:=by decide
        have g3:bits BinOp.and IntKind.u64 0 1=0:=by decide
        have g4:bits BinOp.xor IntKind.i64 0 0=0:=by decide
        have g5:IntKind.u64.wrap 0=0:=by decide
        have g6:wrap64 0=0:=by unfold wrap64;omega
        go_wp2
        (try simp only[Exit.inBlock,Exit.then]);refine bodyPost_ret (results_tmp3 rfl _ _ _) rfl ?_
        rw[HRT.out]
        exact⟨rfl,rfl⟩
       ·clear H2 HNE HF
        go_wp2
        (try simp only[Exit.inBlock,Exit.then]);refine bodyPost_ret (results_tmp3 rfl _ _ _) rfl ?_
        rw[HRS.out]
        exact⟨rfl,rfl⟩
   ·have HE:Hid (RES=none):=zh (by
     rw[hI.out,List.drop_eq_nil_of_le (by show s.data.size≤_;have:s.size=s.data.size:=rfl;omega)]
     obtain⟨f,hf⟩:∃ f,9 - k=f+1:=⟨8 - k,by omega⟩
     rw[hf]
     rfl)
    have hnl:(s.size:Int)≤(a:Int)+(k:Int):=by omega
    have hk2:IntKind.i64.wrap ((a:Int)+(k:Int))=(a:Int)+(k:Int):=IntWalk.i64_in _ (by omega)
    go_wp2
    (try simp only[Exit.inBlock,Exit.then]);refine bodyPost_ret (results_tmp3 rfl _ _ _) rfl ?_
    rw[HE.out]
    exact⟨rfl,rfl⟩
  ·obtain rfl:k=9:=by omega
   have HE:Hid (RES=none):=zh (hI.out.trans rfl)
   go_wp2
   (try simp only[Exit.inBlock,Exit.then]);refine bodyPost_ret (results_tmp3 rfl _ _ _) rfl ?_
   rw[HE.out]
   exact⟨rfl,rfl⟩
set_option maxHeartbeats 1000000 in
theorem zigzagG_any (z:Nat)(hz:z < 9223372036854775808)(h62:¬ unzig z < -4611686018427387903)(w:World):Calls Tryz.prog 106 #[.int .i64 (unzig z)] w fun e w'=>e=.returned (.int .u64 (z:Int))∧w'=w:=by
 have hcase:(∃ h:Nat,z=2*h∧unzig z=(h:Int))∨∃ h:Nat,z=2*h+1∧unzig z=-(h:Int) - 1:=by
  unfold unzig
  by_cases e:z % 2=0
  ·exact .inl ⟨z / 2,by omega,by rw[if_pos e]⟩
  ·exact .inr ⟨z / 2,by omega,by rw[if_neg e]⟩
 rcases hcase with⟨h,rfl,hu⟩ | ⟨h,rfl,hu⟩
 ·rw[hu]at h62 ⊢
  have t0:¬ (h:Int) < 0:=by omega
  clear hu h62
  go_enter Tryz.func106,Tryz.ntmps106
  go_wp2
  go_ret
  exact⟨ret_int (by omega),rfl⟩
 ·rw[hu]at h62 ⊢
  obtain⟨m,hm⟩:∃ m:Nat,m=h+1:=⟨_,rfl⟩
  have e1:-(h:Int) - 1=-(m:Int):=by omega
  have e2:2*h+1=2*m - 1:=by omega
  have hm0:0 < m:=by omega
  have hm1:m≤4611686018427387903:=by omega
  rw[e1,e2]
  have t0:-(m:Int) < 0:=by omega
  have e3:IntKind.i64.wrap (-(-(m:Int)))=(m:Int):=by rw[Int.neg_neg];exact IntWalk.i64_in _ (by omega)
  have e4:IntKind.u64.wrap (m:Int)=(m:Int):=u64_in _ (by omega)
  have e5:IntKind.u64.wrap ((m:Int)*2)=(m:Int)*2:=by rw[IntKind.wrap_u64];omega
  have e6:IntKind.u64.wrap ((m:Int)*2 - 1)=(m:Int)*2 - 1:=by rw[IntKind.wrap_u64];omega
  clear hu h62 hz hm e1 e2
  go_enter Tryz.func106,Tryz.ntmps106
  go_wp2
  go_ret
  exact⟨ret_int (by omega),rfl⟩
def PutAtG (z0 f z:Nat)(pre:List Nat):Prop:=z < 128 ^ (f+1)∧pre.length+f=8∧(∀ y∈pre,y < 256)∧pre.map UInt8.ofNat++grp f z=grp 8 z0
theorem PutAtG.next {z0 f z:Nat}{pre:List Nat}(h:PutAtG z0 f z pre)(hz:128≤z):∃ g,f=g+1∧PutAtG z0 g (z / 128) (pre++[z % 128+128]):=by
 obtain⟨h1,h2,h3,h4⟩:=h
 cases f with
 | zero=>simp at h1;omega
 | succ g =>
  refine⟨g,rfl,?_,by rw[List.length_append];simp;omega,?_,?_⟩
  ·rw[Nat.div_lt_iff_lt_mul (by decide)]
   rw[Nat.pow_succ]at h1
   exact h1
  ·intro y hy
   rcases List.mem_append.1 hy with e | e
   ·exact h3 y e
   ·rw[List.mem_singleton]at e
    omega
  ·rw[← h4,grp_great (by omega),List.map_append,List.append_assoc]
   rfl
theorem PutAtG.last {z0 f z:Nat}{pre:List Nat}(h:PutAtG z0 f z pre)(hz:z < 128):(∀ y∈pre++[z],y < 256)∧strOf (pre++[z])=bytesOf (grp 8 z0):=by
 obtain⟨h1,h2,h3,h4⟩:=h
 refine⟨?_,?_⟩
 ·intro y hy
  rcases List.mem_append.1 hy with e | e
  ·exact h3 y e
  ·rw[List.mem_singleton]at e
   omega
 ·rw[strOf_bytes,List.map_append]
  unfold bytesOf
  rw[← h4,grp_small hz]
  rfl
set_option maxHeartbeats 1000000 in
set_option maxRecDepth 100000 in
theorem r1putG_any (z0:Nat)(hz0:z0 < 9223372036854775808)(w:World)(h62:¬ unzig z0 < -4611686018427387903):Calls Tryz.prog 73 #[.int .i64 (unzig z0)] w fun e w'=>e=.returned (.tuple #[.string (bytesOf (grp 8 z0)),.int .i64 0])∧Below w.heap.size w w':=by
 have HZ:=zh (zigzagG_any z0 hz0 h62 w)
 have t2:¬ (4611686018427387903:Int) < unzig z0:=by unfold unzig;split <;> omega
 have HP:Hid (PutAtG z0 8 z0 []):=zh ⟨by omega,rfl,by simp,rfl⟩
 obtain⟨R,hR⟩:∃ R,R=bytesOf (grp 8 z0):=⟨_,rfl⟩
 rw[← hR]
 have HR:=zh hR
 clear hR
 obtain⟨n,hn⟩:∃ n,n=unzig z0:=⟨_,rfl⟩
 rw[← hn]at HZ t2 h62 ⊢
 clear hn
 go_enter Tryz.func73,Tryz.ntmps73
 go_wp2_with (go_at_call 106;refine HZ.out.mono ?_;rintro e w1 ⟨rfl,rfl⟩)
 go_loopw [4,5] (fun z v wr=>∃(f zn:Nat) (pre:List Nat),z=.int .u64 (zn:Int)∧zn≤z0∧Hid (PutAtG z0 f zn pre)∧Hid (OwnB wr w1.heap.size v pre)∧Hid (Below w1.heap.size w1 wr)) (fun z _ _=>(intOf z).toNat)
 case atStart=>exact⟨8,z0,[],rfl,Nat.le_refl _,HP,zh (OwnE.nil _ _ _ _),zh br0⟩
 case round =>
  clear HP HZ
  obtain⟨f,z,pre,rfl,hzl,hP,hO,hB⟩:=hrel
  obtain⟨va,vn,vc,hv,hvn⟩:=OwnB.form hO.out
  subst hv
  have HVN:=zh hvn
  clear hvn
  have hsz:=hB.out.size
  have HX:Hid (pre.length≤1100000000):=zh (by have:=hP.out.2.1;omega)
  have hz28:z < 9223372036854775808:=by omega
  by_cases hlt:128≤z
  ·have t4:(128:Int)≤(z:Int):=by omega
   obtain⟨g,hg,hN⟩:=hP.out.next hlt
   have HN:=zh hN
   clear hN hg
   have HY:Hid ((z:Int) % 128+128=((z % 128+128:Nat):Int)):=zh (by omega)
   have HQ:Hid ((z:Int) / 128=((z / 128:Nat):Int)):=zh (by omega)
   obtain⟨y,hy⟩:∃ y,y=z % 128+128:=⟨_,rfl⟩
   rw[← hy]at HY HN
   have HOA:Hid (OwnB (wr.alloc (.cells #[.int .u8 ((z:Int) % 128+128)] 5)) w1.heap.size (.slice va vn vc) pre):=zh (OwnE.alloc hO.out _)
   have HNA:=zh (heap_alloc_new wr (.cells #[.int .u8 ((z:Int) % 128+128)] 5))
   have HBA:=zh (hB.out.alloc hsz (.cells #[.int .u8 ((z:Int) % 128+128)] 5))
   have HZ0:=zh hz28
   clear hy hz28
   go_wp2_with (at_builtin;refine wpList_append_byte _ _ w1.heap.size _ pre wr.heap.size _ y HY.out _ HOA.out HX.out HBA.out.size HNA.out rfl rfl rfl rfl ?_;intro v7 w7 hown7 hgr7;have HO7:=zh hown7;have HB7:=zh (HBA.out.grown hgr7 HBA.out.size (fun j e=>OwnE.ge HOA.out j e));clear hown7 hgr7)
   go_roundw
   case rel=>exact⟨g,z / 128,pre++[y],congrArg (Value.int .u64) HQ.out,by omega,HN,HO7,HB7⟩
   case measure =>
    have hq:=HQ.out
    simp[intOf]
    omega
  ·have t4:¬ (128:Int)≤(z:Int):=by omega
   obtain⟨h256,hst⟩:=hP.out.last (by omega)
   have HST:Hid (strOf (pre++[z])=R):=zh (by rw[hst,HR.out])
   have H256:=zh h256
   have HY:Hid ((z:Int)=((z:Nat):Int)):=zh rfl
   have HOA:Hid (OwnB (wr.alloc (.cells #[.int .u8 (z:Int)] 5)) w1.heap.size (.slice va vn vc) pre):=zh (OwnE.alloc hO.out _)
   have HNA:=zh (heap_alloc_new wr (.cells #[.int .u8 (z:Int)] 5))
   have HBA:=zh (hB.out.alloc hsz (.cells #[.int .u8 (z:Int)] 5))
   have hz8:z < 128:=by omega
   clear h256 hst hP
   go_wp2_with (first | (at_builtin;refine wpList_append_byte _ _ w1.heap.size _ pre wr.heap.size _ z HY.out _ HOA.out HX.out HBA.out.size HNA.out rfl rfl rfl rfl ?_;intro v7 w7 hown7 hgr7;have HO7:=zh hown7;have HB7:=zh (HBA.out.grown hgr7 HBA.out.size (fun j e=>OwnE.ge HOA.out j e));clear hown7 hgr7;obtain⟨gx,ox,cx,hv7,_,_,_,hx3⟩:=HO7.out.cells (by simp);have HX3:=zh hx3;clear hx3;subst hv7) | (refine wpList_convS (pre++[z]) H256.out 88 9 5 _ gx ox _ cx rfl rfl rfl (by simp) (by kernel_rfl) (by kernel_rfl) (by kernel_rfl) HX3.out ?_))
   go_ret2
   exact⟨congrArg (fun s=>Ending.returned (.tuple #[.string s,.int .i64 0])) HST.out,HB7.out⟩
theorem bytesOf_append (a b:List UInt8):bytesOf a++bytesOf b=bytesOf (a++b):=by
 apply ByteArray.ext
 rw[ByteArray.data_append]
 unfold bytesOf
 simp
theorem putN_eight {n:Int}(h:0≤n∧n≤100000000):grp 8 (2*n.toNat)=putN n:=grp_fuel 3 8 _ (by show 2*n.toNat < 268435456;omega) (by decide)
theorem r1put_nat (n:Int)(h:0≤n∧n≤100000000)(w:World) :
  Calls Tryz.prog 73 #[.int .i64 n] w fun e w'=>e=.returned (.tuple #[.string (bytesOf (putN n)),.int .i64 0])∧Below w.heap.size w w':=by
 have e1:unzig (2*n.toNat)=n:=by rw[unzig_even];omega
 have h1:=r1putG_any (2*n.toNat) (by omega) w (by rw[e1];omega)
 rw[e1,putN_eight h]at h1
 exact h1
theorem bytesOf_puts_size (l:List Int):(bytesOf (putsN l)).size≤4*l.length:=by
 rw[bytesOf_size]
 exact putsN_len l
set_option maxHeartbeats 2000000 in
set_option maxRecDepth 100000 in
theorem puts15_any {w:World}{v:Value}{l:List Int}(hv:SliceAt w v 1 (icells l))(hl:∀ n∈l,0≤n∧n≤100000000)(hlen:l.length≤1000) :
  Calls Tryz.prog 36 #[v] w fun e w'=>e=.returned (.string (bytesOf (putsN l)))∧Below w.heap.size w w':=by
 obtain⟨a,cap,rfl,l1,l2,l3⟩:=SliceAt.icell hv
 have H3:=zh l3
 have HL:=zh hl
 obtain⟨n,hn⟩:∃ n,n=l.length:=⟨_,rfl⟩
 rw[← hn]at l1 hlen ⊢
 have HN:=zh hn
 clear l3 hl hv hn
 unfold maxLen at l2
 have HS0:Hid ((⟨#[]⟩:ByteArray)=bytesOf (putsN (l.take 0))):=zh rfl
 go_enter Tryz.func36,Tryz.ntmps36
 go_wp2
 go_loopw [3,4] (fun s i wr=>∃(k:Nat) (t:ByteArray),k≤n∧i=.int .i64 k∧s=.string t∧Hid (t=bytesOf (putsN (l.take k)))∧Hid (Below w.heap.size w wr)) (fun _ i _=>n - (intOf i).toNat)
 case atStart=>exact⟨0,_,by omega,rfl,rfl,HS0,zh br0⟩
 case round =>
  clear HS0
  obtain⟨k,t,hk,rfl,rfl,hT,hB⟩:=hrel
  by_cases hlt:k < n
  ·have tk:(k:Int) < (n:Int):=by omega
   have tk0:(0:Int)≤(k:Int):=by omega
   obtain⟨x,ex⟩:∃ x,l[k]?=some x:=⟨_,List.getElem?_eq_getElem (by rw[← HN.out];exact hlt)⟩
   obtain⟨b,off,rfl,hb,hc⟩:=H3.out k x ex
   have c0:=cell_keepB hB.out hb hc
   have hx:=HL.out x (List.mem_of_getElem? ex)
   have HP:=zh (fun W=>r1put_nat x hx W)
   have hsz:t.size≤4000:=by
    rw[hT.out]
    have h1:=bytesOf_puts_size (l.take k)
    rw[List.length_take]at h1
    omega
   have hps:(bytesOf (putN x)).size≤4:=by rw[bytesOf_size];exact(putN_lenT x).2
   have HX:Hid (t++bytesOf (putN x)=bytesOf (putsN (l.take (k+1)))):=zh (by rw[hT.out,bytesOf_append,List.take_add_one,ex];exact congrArg bytesOf (putsN_snoc _ _).symm)
   have hcat:¬ 9223372036854775807 < t.size+(bytesOf (putN x)).size:=by omega
   generalize bytesOf (putN x)=y at *
   clear ex hc hx hsz hps
   go_wp2_with (go_at_call 73;(with_reducible refine(HP.out _).mono ?_);clear c0;rintro e w2 ⟨rfl,hb2⟩;have HB2:=zh (q_next hB.out hb2);clear hb2)
   go_roundw
   case rel=>exact⟨k+1,_,by omega,by go_num,rfl,HX,HB2⟩
   case measure=>simp[intOf];omega
  ·obtain rfl:k=n:=by omega
   have tk:¬ (k:Int) < (k:Int):=by omega
   have HT:Hid (t=bytesOf (putsN l)):=zh (by rw[hT.out,HN.out,List.take_length])
   go_wp2
   go_ret
   exact⟨congrArg (fun s=>Ending.returned (Value.string s)) HT.out,hB.out⟩
theorem slice_litT {w:World}{b n size:Nat}{T:TypeId}{fz:Nat × Nat}{cs:List (List Value)}(h:w.heap[b]?=some (.cells cs.flatten.toArray T fz))(hs:∀ c∈cs,c.length=size)(hn:n=cs.length)(hm:cs.length≤1000):SliceAt w (.slice (some ⟨b,0,none⟩) n n) size cs:=by
 refine⟨some ⟨b,0,none⟩,n,by rw[hn],by omega,by unfold maxLen;omega,.inr ⟨b,0,rfl,(ltA h),fun i c hi j u hj=>?_⟩⟩
 have hfl:∀(l:List (List Value)),(∀ c∈l,c.length=size)→∀(i j:Nat) c u,l[i]?=some c→c[j]?=some u→l.flatten[i*size+j]?=some u:=by
  intro l
  induction l with
  | nil=>intro _ i j c u h1 _;cases h1
  | cons x l ih =>
   intro hl i j c u h1 h2
   have hx:=hl x List.mem_cons_self
   cases i with
   | zero =>
    cases h1
    have hj2:=(List.getElem?_eq_some_iff.1 h2).1
    rw[List.flatten_cons,Nat.zero_mul,Nat.zero_add,List.getElem?_append_left hj2]
    exact h2
   | succ i =>
    rw[List.flatten_cons,List.getElem?_append_right (by rw[hx,Nat.succ_mul];omega),hx]
    have:=ih (fun c hc=>hl c (List.mem_cons_of_mem _ hc)) i j c u h1 h2
    rw[show(i+1)*size+j - size=i*size+j by rw[Nat.succ_mul];omega]
    exact this
 have h2:=hfl cs hs i j c u hi hj
 refine cell_of_row w b _ _ _ fz h |>.trans ?_
 rw[← h2]
 simp
theorem proxI_range {p:ProxP}(h:formedP p=true):∀ n∈proxI p,0≤n∧n≤100000000:=by
 unfold formedP at h
 have h:=of_decide_eq_true h
 intro n hn
 unfold proxI at hn
 simp only[List.mem_cons,List.not_mem_nil,or_false]at hn
 omega
theorem wishI_range {x:WishP}(h:formedW x=true):∀ n∈wishI x,0≤n∧n≤100000000:=by
 unfold formedW at h
 have h:=of_decide_eq_true h
 intro n hn
 unfold wishI at hn
 simp only[List.mem_cons,List.not_mem_nil,or_false]at hn
 omega
set_option maxHeartbeats 2000000 in
set_option maxRecDepth 100000 in
theorem proxC15_any (x:ProxP)(h:formedP x=true)(w:World) :
  Calls Tryz.prog 91 #[pagg x] w fun e w'=>e=.returned (.string (proxC x))∧Below w.heap.size w w':=by
 obtain⟨R,hR⟩:∃ R,R=proxC x:=⟨_,rfl⟩
 have hr:=proxI_range h
 obtain⟨l,hl⟩:∃ l,l=proxI x:=⟨_,rfl⟩
 have HE:Hid (bytesOf (putsN l)=R):=zh (by rw[hR,hl];rfl)
 rw[← hl]at hr
 rw[← hR]
 clear hR h
 obtain⟨fr,tu,rf,rt,sf,st,sl⟩:=x
 obtain⟨W1,hW1⟩:∃ W1,W1=w.alloc (.cells #[.int .i64 fr,.int .i64 tu,.int .i64 rf,.int .i64 rt,.int .i64 sf,.int .i64 st,.string sl] 96):=⟨_,rfl⟩
 have HBW1:Hid (Below w.heap.size w W1):=zh (by rw[hW1];exact br0.alloc (Nat.le_refl _) _)
 have HXW1:Hid (W1.heap[w.heap.size]?=some (.cells #[.int .i64 fr,.int .i64 tu,.int .i64 rf,.int .i64 rt,.int .i64 sf,.int .i64 st,.string sl] 96 (0,0))):=zh (by rw[hW1];exact heap_alloc_new w _)
 have HWW1:=zh hW1
 clear hW1
 obtain⟨W2,hW2⟩:∃ W2,W2=W1.alloc (.cells #[.int .i64 2,.int .i64 fr,.int .i64 tu,.int .i64 rf,.int .i64 rt,.int .i64 sf,.int .i64 st] 3):=⟨_,rfl⟩
 have HBW2:Hid (Below W1.heap.size W1 W2):=zh (by rw[hW2];exact br0.alloc (Nat.le_refl _) _)
 have HXW2:Hid (W2.heap[W1.heap.size]?=some (.cells #[.int .i64 2,.int .i64 fr,.int .i64 tu,.int .i64 rf,.int .i64 rt,.int .i64 sf,.int .i64 st] 3 (0,0))):=zh (by rw[hW2];exact heap_alloc_new W1 _)
 have HWW2:=zh hW2
 clear hW2
 have HL:Hid (SliceAt W2 (.slice (some ⟨W1.heap.size,0,none⟩) 7 7) 1 (icells l)):=zh (by rw[hl];exact slice_litT HXW2.out (icells_one _) rfl (by simp[icells,proxI]))
 have HP:=zh (puts15_any HL.out hr (by rw[hl];simp[proxI]))
 rw[HE.out]at HP
 have HC:=seven_cells HXW1.out
 obtain⟨c0,c1,c2,c3,c4,c5,c6⟩:=HC
 unfold pagg
 simp only
 clear hl hr HL
 go_enter Tryz.func91,Tryz.ntmps91
 go_upto_region 1 with fail
 rw[← HWW1.out]
 go_wp2_with (go_at_call 36;rw[← HWW2.out];(with_reducible refine HP.out.mono ?_);rintro e w3 ⟨rfl,hb3⟩;have HB3:=zh hb3)
 go_ret
 exact⟨rfl,q_next HBW1.out (q_next HBW2.out HB3.out)⟩
set_option maxHeartbeats 2000000 in
set_option maxRecDepth 100000 in
theorem wishC15_any (x:WishP)(h:formedW x=true)(w:World) :
  Calls Tryz.prog 12 #[wagg x] w fun e w'=>e=.returned (.string (wishC x))∧Below w.heap.size w w':=by
 obtain⟨R,hR⟩:∃ R,R=wishC x:=⟨_,rfl⟩
 have hr:=wishI_range h
 obtain⟨l,hl⟩:∃ l,l=wishI x:=⟨_,rfl⟩
 have HE:Hid (bytesOf (putsN l)=R):=zh (by rw[hR,hl];rfl)
 rw[← hl]at hr
 rw[← hR]
 clear hR h
 obtain⟨sg,ho,rf,rt,ca,se,sf,st,sl⟩:=x
 obtain⟨W1,hW1⟩:∃ W1,W1=w.alloc (.cells #[.int .i64 sg,.int .i64 ho,.int .i64 rf,.int .i64 rt,.int .i64 ca,.int .i64 se,.int .i64 sf,.int .i64 st,.string sl] 31):=⟨_,rfl⟩
 have HBW1:Hid (Below w.heap.size w W1):=zh (by rw[hW1];exact br0.alloc (Nat.le_refl _) _)
 have HXW1:Hid (W1.heap[w.heap.size]?=some (.cells #[.int .i64 sg,.int .i64 ho,.int .i64 rf,.int .i64 rt,.int .i64 ca,.int .i64 se,.int .i64 sf,.int .i64 st,.string sl] 31 (0,0))):=zh (by rw[hW1];exact heap_alloc_new w _)
 have HWW1:=zh hW1
 clear hW1
 obtain⟨W2,hW2⟩:∃ W2,W2=W1.alloc (.cells #[.int .i64 1,.int .i64 sg,.int .i64 ho,.int .i64 rf,.int .i64 rt,.int .i64 ca,.int .i64 se,.int .i64 sf,.int .i64 st] 3):=⟨_,rfl⟩
 have HBW2:Hid (Below W1.heap.size W1 W2):=zh (by rw[hW2];exact br0.alloc (Nat.le_refl _) _)
 have HXW2:Hid (W2.heap[W1.heap.size]?=some (.cells #[.int .i64 1,.int .i64 sg,.int .i64 ho,.int .i64 rf,.int .i64 rt,.int .i64 ca,.int .i64 se,.int .i64 sf,.int .i64 st] 3 (0,0))):=zh (by rw[hW2];exact heap_alloc_new W1 _)
 have HWW2:=zh hW2
 clear hW2
 have HL:Hid (SliceAt W2 (.slice (some ⟨W1.heap.size,0,none⟩) 9 9) 1 (icells l)):=zh (by rw[hl];exact slice_litT HXW2.out (icells_one _) rfl (by simp[icells,wishI]))
 have HP:=zh (puts15_any HL.out hr (by rw[hl];simp[wishI]))
 rw[HE.out]at HP
 have HC:=nine_cells HXW1.out
 obtain⟨c0,c1,c2,c3,c4,c5,c6,c7,c8⟩:=HC
 unfold wagg
 simp only
 clear hl hr HL
 go_enter Tryz.func12,Tryz.ntmps12
 go_upto_region 1 with fail
 rw[← HWW1.out]
 go_wp2_with (go_at_call 36;rw[← HWW2.out];(with_reducible refine HP.out.mono ?_);rintro e w3 ⟨rfl,hb3⟩;have HB3:=zh hb3)
 go_ret
 exact⟨rfl,q_next HBW1.out (q_next HBW2.out HB3.out)⟩
set_option maxHeartbeats 1000000 in
theorem seal15_any (key c:ByteArray)(hk:key.size≤1000)(hc:c.size≤1000000)(w:World) :
  Calls Tryz.prog 90 #[.string key,.string c] w fun e w'=>e=.returned (.string (sealK key c))∧Below w.heap.size w w':=by
 have HL:=zh (r2leaf_any c w (by omega))
 have HN:=zh (fun W=>r2node_any key (leafS c) W (by omega) (by show 32≤_;omega))
 obtain⟨R,hR⟩:∃ R,R=sealK key c:=⟨_,rfl⟩
 have e:nodeS key (leafS c)=R:=by rw[hR];rfl
 rw[e]at HN
 rw[← hR]
 generalize leafS c=l at *
 clear hR e hk hc
 go_enter Tryz.func90,Tryz.ntmps90
 go_wp2_with (first | (go_at_call 11;(with_reducible refine HL.out.mono ?_);rintro e w1 ⟨rfl,hb1⟩;have HB1:=zh hb1) | (go_at_call 138;(with_reducible refine(HN.out _).mono ?_);rintro e w2 ⟨rfl,hb2⟩;have HB2:=zh (q_next HB1.out hb2)))
 go_ret
 exact⟨rfl,HB2.out⟩
theorem seven_heap {W:World}{b:Nat}{c0 c1 c2 c3 c4 c5 c6:Value}{T:TypeId}(h:W.heap[b]?=some (.cells #[c0,c1,c2,c3,c4,c5,c6] T (0,0)))(x0 x1 x2 x3 x4 x5 x6:Value) :
  (((((((W.setCell ⟨b,0,none⟩ x0).setCell ⟨b,1,none⟩ x1).setCell ⟨b,2,none⟩ x2).setCell ⟨b,3,none⟩ x3).setCell ⟨b,4,none⟩ x4).setCell ⟨b,5,none⟩ x5).setCell ⟨b,6,none⟩ x6).heap[b]?=some (.cells #[x0,x1,x2,x3,x4,x5,x6] T (0,0)):=by
 have h0:=heap_setCell_same (i:=0) x0 h
 have h1:=heap_setCell_same (i:=1) x1 h0
 have h2:=heap_setCell_same (i:=2) x2 h1
 have h3:=heap_setCell_same (i:=3) x3 h2
 have h4:=heap_setCell_same (i:=4) x4 h3
 have h5:=heap_setCell_same (i:=5) x5 h4
 have h6:=heap_setCell_same (i:=6) x6 h5
 simpa using h6
theorem nine_heap {W:World}{b:Nat}{c0 c1 c2 c3 c4 c5 c6 c7 c8:Value}{T:TypeId}(h:W.heap[b]?=some (.cells #[c0,c1,c2,c3,c4,c5,c6,c7,c8] T (0,0)))(x0 x1 x2 x3 x4 x5 x6 x7 x8:Value) :
  (((((((((W.setCell ⟨b,0,none⟩ x0).setCell ⟨b,1,none⟩ x1).setCell ⟨b,2,none⟩ x2).setCell ⟨b,3,none⟩ x3).setCell ⟨b,4,none⟩ x4).setCell ⟨b,5,none⟩ x5).setCell ⟨b,6,none⟩ x6).setCell ⟨b,7,none⟩ x7).setCell ⟨b,8,none⟩ x8).heap[b]?=some (.cells #[x0,x1,x2,x3,x4,x5,x6,x7,x8] T (0,0)):=by
 have h0:=heap_setCell_same (i:=0) x0 h
 have h1:=heap_setCell_same (i:=1) x1 h0
 have h2:=heap_setCell_same (i:=2) x2 h1
 have h3:=heap_setCell_same (i:=3) x3 h2
 have h4:=heap_setCell_same (i:=4) x4 h3
 have h5:=heap_setCell_same (i:=5) x5 h4
 have h6:=heap_setCell_same (i:=6) x6 h5
 have h7:=heap_setCell_same (i:=7) x7 h6
 have h8:=heap_setCell_same (i:=8) x8 h7
 simpa using h8
theorem seven_below {w W:World}{b B:Nat}(h:Below B w W)(hb:B≤b)(x0 x1 x2 x3 x4 x5 x6:Value) :
  Below B w (((((((W.setCell ⟨b,0,none⟩ x0).setCell ⟨b,1,none⟩ x1).setCell ⟨b,2,none⟩ x2).setCell ⟨b,3,none⟩ x3).setCell ⟨b,4,none⟩ x4).setCell ⟨b,5,none⟩ x5).setCell ⟨b,6,none⟩ x6) :=
 ((((((h.setCell (p:=⟨b,0,none⟩) hb x0).setCell (p:=⟨b,1,none⟩) hb x1).setCell (p:=⟨b,2,none⟩) hb x2).setCell (p:=⟨b,3,none⟩) hb x3).setCell (p:=⟨b,4,none⟩) hb x4).setCell (p:=⟨b,5,none⟩) hb x5).setCell (p:=⟨b,6,none⟩) hb x6
theorem nine_below {w W:World}{b B:Nat}(h:Below B w W)(hb:B≤b)(x0 x1 x2 x3 x4 x5 x6 x7 x8:Value) :
  Below B w (((((((((W.setCell ⟨b,0,none⟩ x0).setCell ⟨b,1,none⟩ x1).setCell ⟨b,2,none⟩ x2).setCell ⟨b,3,none⟩ x3).setCell ⟨b,4,none⟩ x4).setCell ⟨b,5,none⟩ x5).setCell ⟨b,6,none⟩ x6).setCell ⟨b,7,none⟩ x7).setCell ⟨b,8,none⟩ x8) :=
 ((((((((h.setCell (p:=⟨b,0,none⟩) hb x0).setCell (p:=⟨b,1,none⟩) hb x1).setCell (p:=⟨b,2,none⟩) hb x2).setCell (p:=⟨b,3,none⟩) hb x3).setCell (p:=⟨b,4,none⟩) hb x4).setCell (p:=⟨b,5,none⟩) hb x5).setCell (p:=⟨b,6,none⟩) hb x6).setCell (p:=⟨b,7,none⟩) hb x7).setCell (p:=⟨b,8,none⟩) hb x8
theorem thaw {W:World}{b:Nat}{cs:Array Value}{T:TypeId}(h:W.heap[b]?=some (.cells cs T (0,0))):∀ j,W.frozen? ⟨b,j,none⟩=false:=fun j=>by unfold World.frozen?;rw[h];simp
theorem infoProx:(Tryz.prog.info? 96).map (·.size)=some 7:=by kernel_rfl
theorem infoWish:(Tryz.prog.info? 31).map (·.size)=some 9:=by kernel_rfl
theorem setOther {W:World}{b c i:Nat}{o:Obj}(h:W.heap[c]?=some o)(hne:c≠b)(v:Value):(W.setCell ⟨b,i,none⟩ v).heap[c]?=some o :=
 ((grown_setCell (grown_refl W (some b)) ⟨b,i,none⟩ (.inl rfl) v).block c (ltA h) (fun e=>hne (Option.some.inj e))).trans h
set_option maxHeartbeats 4000000 in
set_option maxRecDepth 100000 in
theorem signP15_any (key:ByteArray)(hk:key.size=32)(x:ProxP)(h:formedP x=true)(w:World) :
  Calls Tryz.prog 57 #[.string key,pagg x] w fun e w'=>e=.returned (.tuple #[pagg { x with sl:=sealK key (proxC x) },.int .i64 0])∧Below w.heap.size w w':=by
 have HPX:=zh (fun W=>proxy15_yes x h W)
 have HCN:=zh (fun W=>proxC15_any x h W)
 have hcs:(proxC x).size≤1000000:=Nat.le_trans (bytesOf_puts_size _) (by simp[proxI])
 have HSE:=zh (fun W=>seal15_any key (proxC x) (by omega) hcs W)
 obtain⟨R,hR⟩:∃ R,R=sealK key (proxC x):=⟨_,rfl⟩
 rw[← hR]at HSE ⊢
 generalize proxC x=C at *
 clear hR hcs h
 obtain⟨fr,tu,rf,rt,sf,st,sl⟩:=x
 obtain⟨W1,hW1⟩:∃ W1,W1=w.alloc (.cells #[.int .i64 fr,.int .i64 tu,.int .i64 rf,.int .i64 rt,.int .i64 sf,.int .i64 st,.string sl] 96):=⟨_,rfl⟩
 have HBW1:Hid (Below w.heap.size w W1):=zh (by rw[hW1];exact br0.alloc (Nat.le_refl _) _)
 have HXW1:Hid (W1.heap[w.heap.size]?=some (.cells #[.int .i64 fr,.int .i64 tu,.int .i64 rf,.int .i64 rt,.int .i64 sf,.int .i64 st,.string sl] 96 (0,0))):=zh (by rw[hW1];exact heap_alloc_new w _)
 have HWW1:=zh hW1
 obtain⟨W2,hW2⟩:∃ W2,W2=W1.alloc (.cells #[.int .i64 0,.int .i64 0,.int .i64 0,.int .i64 0,.int .i64 0,.int .i64 0,.string ⟨#[]⟩] 96):=⟨_,rfl⟩
 have HBW2:Hid (Below W1.heap.size W1 W2):=zh (by rw[hW2];exact br0.alloc (Nat.le_refl _) _)
 have HXW2:Hid (W2.heap[W1.heap.size]?=some (.cells #[.int .i64 0,.int .i64 0,.int .i64 0,.int .i64 0,.int .i64 0,.int .i64 0,.string ⟨#[]⟩] 96 (0,0))):=zh (by rw[hW2];exact heap_alloc_new W1 _)
 have HWW2:=zh hW2
 have hs1:W1.heap.size=w.heap.size+1:=by rw[hW1];simp
 have HC:Hid (∀ W,Below W2.heap.size W2 W→W.heap[w.heap.size]?=some (.cells #[.int .i64 fr,.int .i64 tu,.int .i64 rf,.int .i64 rt,.int .i64 sf,.int .i64 st,.string sl] 96 (0,0))):=zh (fun W hW=>kept_block HXW1.out (q_next HBW2.out hW))
 have HZ:Hid (∀ W,Below W2.heap.size W2 W→W.heap[w.heap.size+1]?=some (.cells #[.int .i64 0,.int .i64 0,.int .i64 0,.int .i64 0,.int .i64 0,.int .i64 0,.string ⟨#[]⟩] 96 (0,0))):=zh (fun W hW=>by rw[← hs1];exact kept_block HXW2.out hW)
 have HR:Hid (Below W2.heap.size W2 W2):=zh br0
 clear hW1 hW2
 obtain⟨c0,c1,c2,c3,c4,c5,c6⟩:=seven_cells (HC.out W2 HR.out)
 unfold pagg at *
 simp only at HPX HCN ⊢
 go_enter Tryz.func57,Tryz.ntmps57
 go_upto_region 1 with fail
 rw[← HWW1.out,← HWW2.out]
 clear hs1
 go_upto_region 4 with(first | (go_at_call 89;(with_reducible refine(HPX.out _).mono ?_);clear c0 c1 c2 c3 c4 c5 c6;rintro e w3 ⟨rfl,hbx⟩;replace HR:=zh (q_next HR.out hbx);clear hbx;obtain⟨c0,c1,c2,c3,c4,c5,c6⟩:=seven_cells (HC.out w3 HR.out)) | (go_at_call 91;(with_reducible refine(HCN.out _).mono ?_);clear c0 c1 c2 c3 c4 c5 c6;rintro e w4 ⟨rfl,hbx⟩;replace HR:=zh (q_next HR.out hbx);clear hbx;obtain⟨c0,c1,c2,c3,c4,c5,c6⟩:=seven_cells (HC.out w4 HR.out)) | (go_at_call 90;(with_reducible refine(HSE.out _).mono ?_);clear c0 c1 c2 c3 c4 c5 c6;rintro e w5 ⟨rfl,hbx⟩;replace HR:=zh (q_next HR.out hbx);clear hbx;obtain⟨c0,c1,c2,c3,c4,c5,c6⟩:=seven_cells (HC.out w5 HR.out);have z0:=thaw (HC.out w5 HR.out)))
 clear c0 c1 c2 c3 c4 c5 c6 z0
 have HX6:Hid ((w5.setCell ⟨w.heap.size,6,none⟩ (.string R)).heap[w.heap.size]?=some (.cells #[.int .i64 fr,.int .i64 tu,.int .i64 rf,.int .i64 rt,.int .i64 sf,.int .i64 st,.string R] 96 (0,0))):=zh (heap_setCell_same (i:=6) (.string R) (HC.out w5 HR.out))
 have HZ6:=zh (setOther (b:=w.heap.size) (i:=6) (HZ.out w5 HR.out) (Nat.succ_ne_self _) (.string R))
 have HB6:=zh ((q_next HBW1.out (q_next HBW2.out HR.out)).setCell (p:=⟨w.heap.size,6,none⟩) (Nat.le_refl _) (.string R))
 have hle:w.heap.size≤w.heap.size+1:=Nat.le_succ _
 clear HC HZ HR HXW1 HXW2 HBW1 HBW2 HWW1 HWW2 HPX HCN HSE
 generalize w5.setCell ⟨w.heap.size,6,none⟩ (.string R)=w6 at *
 obtain⟨rb,hrb⟩:∃ rb,rb=w.heap.size+1:=⟨_,rfl⟩
 rw[← hrb]at HZ6 hle ⊢
 clear hrb
 have HLE:=zh hle
 clear hle
 obtain⟨c0,c1,c2,c3,c4,c5,c6⟩:=seven_cells HX6.out
 have HF:=zh (seven_heap HZ6.out (.int .i64 fr) (.int .i64 tu) (.int .i64 rf) (.int .i64 rt) (.int .i64 sf) (.int .i64 st) (.string R))
 have HBF:=zh (seven_below HB6.out HLE.out (.int .i64 fr) (.int .i64 tu) (.int .i64 rf) (.int .i64 rt) (.int .i64 sf) (.int .i64 st) (.string R))
 obtain⟨r0,r1,r2,r3,r4,r5,r6⟩:=seven_cells HZ6.out
 have zf:=thaw HZ6.out
 go_wp2
 exact bodyPost_ret (results_cellA_tmp rfl _ rb 96 #[.int .i64 fr,.int .i64 tu,.int .i64 rf,.int .i64 rt,.int .i64 sf,.int .i64 st,.string R] (0,0) _ rfl HF.out Tryz.underlying96 rfl infoProx) rfl ⟨rfl,HBF.out⟩
set_option maxHeartbeats 4000000 in
set_option maxRecDepth 100000 in
theorem signW15_any (key:ByteArray)(hk:key.size=32)(x:WishP)(h:formedW x=true)(w:World) :
  Calls Tryz.prog 59 #[.string key,wagg x] w fun e w'=>e=.returned (.tuple #[wagg { x with sl:=sealK key (wishC x) },.int .i64 0])∧Below w.heap.size w w':=by
 have HPX:=zh (fun W=>wish15_yes x h W)
 have HCN:=zh (fun W=>wishC15_any x h W)
 have hcs:(wishC x).size≤1000000:=Nat.le_trans (bytesOf_puts_size _) (by simp[wishI])
 have HSE:=zh (fun W=>seal15_any key (wishC x) (by omega) hcs W)
 obtain⟨R,hR⟩:∃ R,R=sealK key (wishC x):=⟨_,rfl⟩
 rw[← hR]at HSE ⊢
 generalize wishC x=C at *
 clear hR hcs h
 obtain⟨sg,ho,rf,rt,ca,se,sf,st,sl⟩:=x
 obtain⟨W1,hW1⟩:∃ W1,W1=w.alloc (.cells #[.int .i64 sg,.int .i64 ho,.int .i64 rf,.int .i64 rt,.int .i64 ca,.int .i64 se,.int .i64 sf,.int .i64 st,.string sl] 31):=⟨_,rfl⟩
 have HBW1:Hid (Below w.heap.size w W1):=zh (by rw[hW1];exact br0.alloc (Nat.le_refl _) _)
 have HXW1:Hid (W1.heap[w.heap.size]?=some (.cells #[.int .i64 sg,.int .i64 ho,.int .i64 rf,.int .i64 rt,.int .i64 ca,.int .i64 se,.int .i64 sf,.int .i64 st,.string sl] 31 (0,0))):=zh (by rw[hW1];exact heap_alloc_new w _)
 have HWW1:=zh hW1
 obtain⟨W2,hW2⟩:∃ W2,W2=W1.alloc (.cells #[.int .i64 0,.int .i64 0,.int .i64 0,.int .i64 0,.int .i64 0,.int .i64 0,.int .i64 0,.int .i64 0,.string ⟨#[]⟩] 31):=⟨_,rfl⟩
 have HBW2:Hid (Below W1.heap.size W1 W2):=zh (by rw[hW2];exact br0.alloc (Nat.le_refl _) _)
 have HXW2:Hid (W2.heap[W1.heap.size]?=some (.cells #[.int .i64 0,.int .i64 0,.int .i64 0,.int .i64 0,.int .i64 0,.int .i64 0,.int .i64 0,.int .i64 0,.string ⟨#[]⟩] 31 (0,0))):=zh (by rw[hW2];exact heap_alloc_new W1 _)
 have HWW2:=zh hW2
 have hs1:W1.heap.size=w.heap.size+1:=by rw[hW1];simp
 have HC:Hid (∀ W,Below W2.heap.size W2 W→W.heap[w.heap.size]?=some (.cells #[.int .i64 sg,.int .i64 ho,.int .i64 rf,.int .i64 rt,.int .i64 ca,.int .i64 se,.int .i64 sf,.int .i64 st,.string sl] 31 (0,0))):=zh (fun W hW=>kept_block HXW1.out (q_next HBW2.out hW))
 have HZ:Hid (∀ W,Below W2.heap.size W2 W→W.heap[w.heap.size+1]?=some (.cells #[.int .i64 0,.int .i64 0,.int .i64 0,.int .i64 0,.int .i64 0,.int .i64 0,.int .i64 0,.int .i64 0,.string ⟨#[]⟩] 31 (0,0))):=zh (fun W hW=>by rw[← hs1];exact kept_block HXW2.out hW)
 have HR:Hid (Below W2.heap.size W2 W2):=zh br0
 clear hW1 hW2
 obtain⟨c0,c1,c2,c3,c4,c5,c6,c7,c8⟩:=nine_cells (HC.out W2 HR.out)
 unfold wagg at *
 simp only at HPX HCN ⊢
 go_enter Tryz.func59,Tryz.ntmps59
 go_upto_region 1 with fail
 rw[← HWW1.out,← HWW2.out]
 clear hs1
 go_upto_region 4 with(first | (go_at_call 92;(with_reducible refine(HPX.out _).mono ?_);clear c0 c1 c2 c3 c4 c5 c6 c7 c8;rintro e w3 ⟨rfl,hbx⟩;replace HR:=zh (q_next HR.out hbx);clear hbx;obtain⟨c0,c1,c2,c3,c4,c5,c6,c7,c8⟩:=nine_cells (HC.out w3 HR.out)) | (go_at_call 12;(with_reducible refine(HCN.out _).mono ?_);clear c0 c1 c2 c3 c4 c5 c6 c7 c8;rintro e w4 ⟨rfl,hbx⟩;replace HR:=zh (q_next HR.out hbx);clear hbx;obtain⟨c0,c1,c2,c3,c4,c5,c6,c7,c8⟩:=nine_cells (HC.out w4 HR.out)) | (go_at_call 90;(with_reducible refine(HSE.out _).mono ?_);clear c0 c1 c2 c3 c4 c5 c6 c7 c8;rintro e w5 ⟨rfl,hbx⟩;replace HR:=zh (q_next HR.out hbx);clear hbx;obtain⟨c0,c1,c2,c3,c4,c5,c6,c7,c8⟩:=nine_cells (HC.out w5 HR.out);have z0:=thaw (HC.out w5 HR.out)))
 clear c0 c1 c2 c3 c4 c5 c6 c7 c8 z0
 have HX6:Hid ((w5.setCell ⟨w.heap.size,8,none⟩ (.string R)).heap[w.heap.size]?=some (.cells #[.int .i64 sg,.int .i64 ho,.int .i64 rf,.int .i64 rt,.int .i64 ca,.int .i64 se,.int .i64 sf,.int .i64 st,.string R] 31 (0,0))):=zh (heap_setCell_same (i:=8) (.string R) (HC.out w5 HR.out))
 have HZ6:=zh (setOther (b:=w.heap.size) (i:=8) (HZ.out w5 HR.out) (Nat.succ_ne_self _) (.string R))
 have HB6:=zh ((q_next HBW1.out (q_next HBW2.out HR.out)).setCell (p:=⟨w.heap.size,8,none⟩) (Nat.le_refl _) (.string R))
 have hle:w.heap.size≤w.heap.size+1:=Nat.le_succ _
 clear HC HZ HR HXW1 HXW2 HBW1 HBW2 HWW1 HWW2 HPX HCN HSE
 generalize w5.setCell ⟨w.heap.size,8,none⟩ (.string R)=w6 at *
 obtain⟨rb,hrb⟩:∃ rb,rb=w.heap.size+1:=⟨_,rfl⟩
 rw[← hrb]at HZ6 hle ⊢
 clear hrb
 have HLE:=zh hle
 clear hle
 obtain⟨c0,c1,c2,c3,c4,c5,c6,c7,c8⟩:=nine_cells HX6.out
 have HF:=zh (nine_heap HZ6.out (.int .i64 sg) (.int .i64 ho) (.int .i64 rf) (.int .i64 rt) (.int .i64 ca) (.int .i64 se) (.int .i64 sf) (.int .i64 st) (.string R))
 have HBF:=zh (nine_below HB6.out HLE.out (.int .i64 sg) (.int .i64 ho) (.int .i64 rf) (.int .i64 rt) (.int .i64 ca) (.int .i64 se) (.int .i64 sf) (.int .i64 st) (.string R))
 obtain⟨r0,r1,r2,r3,r4,r5,r6,r7,r8⟩:=nine_cells HZ6.out
 have zf:=thaw HZ6.out
 go_wp2
 exact bodyPost_ret (results_cellA_tmp rfl _ rb 31 #[.int .i64 sg,.int .i64 ho,.int .i64 rf,.int .i64 rt,.int .i64 ca,.int .i64 se,.int .i64 sf,.int .i64 st,.string R] (0,0) _ rfl HF.out Tryz.underlying31 rfl infoWish) rfl ⟨rfl,HBF.out⟩
set_option maxHeartbeats 1000000 in
/-- The ends moved towards each other. -/
theorem narrow_any (f t l r:Int)(hl:I64 l)(hr:I64 r)(h1:0≤f)(h2:f < t)(h3:t≤100000)(w:World) :
  Calls Tryz.prog 58 #[.int .i64 f,.int .i64 t,.int .i64 l,.int .i64 r] w fun e w'=>e=.returned (.tuple #[.int .i64 (narF f t l),.int .i64 (narT f t l r)])∧w'=w:=by
 have h4:=pickI_range l (show(0:Int) < t - f by omega)
 have hn:=nar_ok h2 l r
 obtain⟨a,ha⟩:∃ a,a=pickI l (t - f):=⟨_,rfl⟩
 have HP1:=zh (fun W=>pick15_any l (t - f) W hl (by omega) (by omega))
 have hnf:narF f t l=f+a:=by unfold narF;rw[ha]
 have HP2:=zh (fun W=>pick15_any r (t - (f+a)) W hr (by omega) (by omega))
 obtain⟨b,hb⟩:∃ b,b=pickI r (t - (f+a)):=⟨_,rfl⟩
 have hnt:narT f t l r=t - b:=by unfold narT;rw[hb,hnf]
 have h5:=pickI_range r (show(0:Int) < t - (f+a) by omega)
 rw[hnf,hnt]
 rw[← ha]at HP1 h4
 rw[← hb]at HP2 h5
 have e1:IntKind.i64.wrap (t - f)=t - f:=IntWalk.i64_in _ (by omega)
 have e2:IntKind.i64.wrap (f+a)=f+a:=IntWalk.i64_in _ (by omega)
 have e3:IntKind.i64.wrap (t - (f+a))=t - (f+a):=IntWalk.i64_in _ (by omega)
 have e4:IntKind.i64.wrap (t - b)=t - b:=IntWalk.i64_in _ (by omega)
 clear hb ha hnf hnt hn
 go_enter Tryz.func58,Tryz.ntmps58
 go_wp2_with (first | (go_at_call 56;(with_reducible refine(HP1.out _).mono ?_);rintro e w' ⟨rfl,hw'⟩;replace hw':=hw'.symm;subst hw') | (go_at_call 56;(with_reducible refine(HP2.out _).mono ?_);rintro e w' ⟨rfl,hw'⟩;replace hw':=hw'.symm;subst hw'))
 go_ret2
 exact⟨rfl,rfl⟩
def PrS (w:World)(v:Value)(l:List ProxP):Prop:=SliceAt w v 7 (l.map pcells)
def OwnP (w:World)(base:Nat)(v:Value)(l:List ProxP):Prop:=OwnE w base 96 7 v (l.map pcells)
theorem pcells_len (l:List ProxP):∀ c∈l.map pcells,c.length=7:=by
 intro c hc
 obtain⟨v,_,rfl⟩:=List.mem_map.1 hc
 rfl
theorem OwnP.ps {w:World}{base:Nat}{v:Value}{l:List ProxP}(h:OwnP w base v l):PrS w v l:=OwnE.slice h (pcells_len l)
theorem infoProx3:(Tryz.prog.info? 96).map (fun i=>(i.zero,i.size,i.bytes))=some (some (.agg #[.int .i64 0,.int .i64 0,.int .i64 0,.int .i64 0,.int .i64 0,.int .i64 0,.string ⟨#[]⟩]),7,64):=by kernel_rfl
section
variable {ops:Array Oper} {rest:List Oper} {o:Oper} {a:Act} {w:World} {Q:Exit→Act→World→Prop}
theorem wpList_append_prox (s x:Operand)(base:Nat)(v:Value)(l:List ProxP)(y:ProxP)(b:Nat)(fr:Nat × Nat)(hown:OwnP w base v l)(hlen:l.length≤1000000)(hbase:base≤w.heap.size)(hb:w.heap[b]?=some (.cells #[.int .i64 y.fr,.int .i64 y.tu,.int .i64 y.rf,.int .i64 y.rt,.int .i64 y.sf,.int .i64 y.st,.string y.sl] 96 fr))
  (hgd:o.guard=none) (ho:o.op=.call { callee:=.builtin .append,args:=#[s,x],argTypes:=#[32,32] }) (hs:a.eval s=v) (hx:a.eval x=.slice (some ⟨b,0,none⟩) 1 1)
  (h:∀ v' w',OwnP w' base v' (l++[y])→w.grownBy w' v.ownBlock→wpList Tryz.prog ops Q rest (a.put o.dst v') w'):wpList Tryz.prog ops Q (o::rest) a w :=
 wpList_append_el 32 96 7 64 _ (by kernel_rfl) infoProx3 rfl (by decide) hgd s x ho base v (l.map pcells) hs hown b (pcells y) rfl (fun u hu=>by simp only[pcells,List.mem_cons,List.not_mem_nil,or_false]at hu;rcases hu with rfl | rfl | rfl | rfl | rfl | rfl | rfl <;> rfl) hx fr hb
  (by rw[List.length_map];unfold maxLen;omega) (by rw[List.length_map];omega) hbase (fun v' w' h1 h2=>h v' w' (by unfold OwnP;rw[List.map_append];exact h1) h2)
end
theorem SliceAt.eachT {w:World}{a:Option Addr}{n c size:Nat}{css:List (List Value)}(h:SliceAt w (.slice a n c) size css){k:Nat}{cs:List Value}(hk:css[k]?=some cs) :
  ∃ b off,a=some ⟨b,off,none⟩∧b < w.heap.size∧∀ j u,cs[j]?=some u→w.cell? ⟨b,off+k*size+j,none⟩=some u:=by
 obtain⟨a',cap,hv,_,_,h3⟩:=h
 injection hv with e1 _ _
 subst e1
 rcases h3 with h3 | ⟨b,off,ha,hb,hc⟩
 ·rw[h3]at hk
  cases hk
 ·exact⟨b,off,ha,hb,fun j u hj=>hc k cs hk j u hj⟩
theorem five_cellsT {W:World}{b:Nat}{c0 c1 c2 c3 c4:Value}{T:TypeId}(h:W.heap[b]?=some (.cells #[c0,c1,c2,c3,c4] T (0,0))) :
  W.cell? ⟨b,0,none⟩=some c0∧W.cell? ⟨b,1,none⟩=some c1∧W.cell? ⟨b,2,none⟩=some c2∧W.cell? ⟨b,3,none⟩=some c3∧W.cell? ⟨b,4,none⟩=some c4 :=
 ⟨cell_of_row W _ 0 _ _ _ h,cell_of_row W _ 1 _ _ _ h,cell_of_row W _ 2 _ _ _ h,cell_of_row W _ 3 _ _ _ h,cell_of_row W _ 4 _ _ _ h⟩
theorem eight_cells {W:World}{b:Nat}{c0 c1 c2 c3 c4 c5 c6 c7:Value}{T:TypeId}(h:W.heap[b]?=some (.cells #[c0,c1,c2,c3,c4,c5,c6,c7] T (0,0))) :
  W.cell? ⟨b,0,none⟩=some c0∧W.cell? ⟨b,1,none⟩=some c1∧W.cell? ⟨b,2,none⟩=some c2∧W.cell? ⟨b,3,none⟩=some c3∧W.cell? ⟨b,4,none⟩=some c4∧W.cell? ⟨b,5,none⟩=some c5∧W.cell? ⟨b,6,none⟩=some c6∧W.cell? ⟨b,7,none⟩=some c7 :=
 ⟨cell_of_row W _ 0 _ _ _ h,cell_of_row W _ 1 _ _ _ h,cell_of_row W _ 2 _ _ _ h,cell_of_row W _ 3 _ _ _ h,cell_of_row W _ 4 _ _ _ h,cell_of_row W _ 5 _ _ _ h,cell_of_row W _ 6 _ _ _ h,cell_of_row W _ 7 _ _ _ h⟩
theorem unlike {W:World}{b c:Nat}{cs ds:Array Value}{T U:TypeId}(h:W.heap[b]?=some (.cells cs T (0,0)))(h':W.heap[c]?=some (.cells ds U (0,0)))(hT:T≠U):b≠c:=by
 intro e
 subst e
 rw[h]at h'
 injection h' with h'
 injection h' with _ e _
 exact hT e
def zwish:Array Value:=#[.int .i64 0,.int .i64 0,.int .i64 0,.int .i64 0,.int .i64 0,.int .i64 0,.int .i64 0,.int .i64 0,.string ⟨#[]⟩]
structure MkAt (w:World) (NC:Array Value) (br bs bw:Nat) (rf rt sf st ho ca se:Int) (lv:Value) (l:List ProxP) (W:World):Prop where
 hb:Below w.heap.size w W
 hn:W.heap[w.heap.size]?=some (.cells NC 25 (0,0))
 hz:W.heap[w.heap.size+1]?=some (.cells zwish 31 (0,0))
 hr:W.heap[br]?=some (.cells #[.int .i64 rf,.int .i64 rt] 28 (0,0))
 hs:W.heap[bs]?=some (.cells #[.int .i64 sf,.int .i64 st] 29 (0,0))
 hw:W.heap[bw]?=some (.cells #[.int .i64 0,.int .i64 ho,.int .i64 0,.int .i64 0,.int .i64 ca,.int .i64 se,.int .i64 0,.int .i64 0,.string ⟨#[]⟩] 31 (0,0))
 nr:w.heap.size≤br
 ns:w.heap.size≤bs
 nw:w.heap.size+2≤bw
 own:OwnP W w.heap.size lv l
theorem MkAt.step {w:World}{NC:Array Value}{br bs bw:Nat}{rf rt sf st ho ca se:Int}{lv:Value}{l:List ProxP}{W W':World}(h:MkAt w NC br bs bw rf rt sf st ho ca se lv l W)(hb:Below W.heap.size W W'):MkAt w NC br bs bw rf rt sf st ho ca se lv l W' :=
 ⟨q_next h.hb hb,kept_block h.hn hb,kept_block h.hz hb,kept_block h.hr hb,kept_block h.hs hb,kept_block h.hw hb,h.nr,h.ns,h.nw,OwnE.far h.own hb (Nat.le_refl _)⟩
theorem MkAt.setR {w:World}{NC:Array Value}{br bs bw:Nat}{rf rt sf st ho ca se:Int}{lv:Value}{l:List ProxP}{W:World}(h:MkAt w NC br bs bw rf rt sf st ho ca se lv l W)(x y:Int) :
  MkAt w NC br bs bw x y sf st ho ca se lv l ((W.setCell ⟨br,0,none⟩ (.int .i64 x)).setCell ⟨br,1,none⟩ (.int .i64 y)):=by
 have k:∀ {c:Nat} {o:Obj},W.heap[c]?=some o→c≠br→((W.setCell ⟨br,0,none⟩ (.int .i64 x)).setCell ⟨br,1,none⟩ (.int .i64 y)).heap[c]?=some o:=fun h1 h2=>setOther (setOther h1 h2 _) h2 _
 exact⟨two_below h.hb h.nr _ _,k h.hn (unlike h.hn h.hr (by decide)),k h.hz (unlike h.hz h.hr (by decide)),two_heap h.hr _ _,k h.hs (unlike h.hs h.hr (by decide)),k h.hw (unlike h.hw h.hr (by decide)),h.nr,h.ns,h.nw,
  OwnE.grownT h.own h.hr (fun c e=>by injection e with _ e;exact absurd e (by decide)) (two_grown W br _ _)⟩
theorem MkAt.setS {w:World}{NC:Array Value}{br bs bw:Nat}{rf rt sf st ho ca se:Int}{lv:Value}{l:List ProxP}{W:World}(h:MkAt w NC br bs bw rf rt sf st ho ca se lv l W)(x y:Int) :
  MkAt w NC br bs bw rf rt x y ho ca se lv l ((W.setCell ⟨bs,0,none⟩ (.int .i64 x)).setCell ⟨bs,1,none⟩ (.int .i64 y)):=by
 have k:∀ {c:Nat} {o:Obj},W.heap[c]?=some o→c≠bs→((W.setCell ⟨bs,0,none⟩ (.int .i64 x)).setCell ⟨bs,1,none⟩ (.int .i64 y)).heap[c]?=some o:=fun h1 h2=>setOther (setOther h1 h2 _) h2 _
 exact⟨two_below h.hb h.ns _ _,k h.hn (unlike h.hn h.hs (by decide)),k h.hz (unlike h.hz h.hs (by decide)),k h.hr (unlike h.hr h.hs (by decide)),two_heap h.hs _ _,k h.hw (unlike h.hw h.hs (by decide)),h.nr,h.ns,h.nw,
  OwnE.grownT h.own h.hs (fun c e=>by injection e with _ e;exact absurd e (by decide)) (two_grown W bs _ _)⟩
theorem own_keepsT {w w':World}{base size:Nat}{e T:TypeId}{v:Value}{css:List (List Value)}{c:Nat}{cs:Array Value}(ho:OwnE w base e size v css)(hg:w.grownBy w' v.ownBlock)(h:w.heap[c]?=some (.cells cs T (0,0)))(hT:T≠e):w'.heap[c]?=some (.cells cs T (0,0)) :=
 (hg.block c (ltA h) (own_ne ho h (fun d e=>by injection e with _ e;exact hT e))).trans h
theorem MkAt.app {w:World}{NC:Array Value}{br bs bw:Nat}{rf rt sf st ho ca se:Int}{lv lv':Value}{l:List ProxP}{y:ProxP}{W W':World}(h:MkAt w NC br bs bw rf rt sf st ho ca se lv l W)(hown:OwnP W' w.heap.size lv' (l++[y]))(hg:W.grownBy W' lv.ownBlock):MkAt w NC br bs bw rf rt sf st ho ca se lv' (l++[y]) W' :=
 ⟨h.hb.grown hg h.hb.size (fun j e=>OwnE.ge h.own j e),own_keepsT h.own hg h.hn (by decide),own_keepsT h.own hg h.hz (by decide),own_keepsT h.own hg h.hr (by decide),own_keepsT h.own hg h.hs (by decide),own_keepsT h.own hg h.hw (by decide),h.nr,h.ns,h.nw,hown⟩
def y5cells (y:Y5):List Value:=[.int .i64 y.1,.int .i64 y.2.1,.int .i64 y.2.2.1,.int .i64 y.2.2.2.1,.int .i64 y.2.2.2.2]
def Y5S (w:World)(v:Value)(l:List Y5):Prop:=SliceAt w v 5 (l.map y5cells)
end Go.Proofs.YtjjiikeldpjafaaGreatDoor
