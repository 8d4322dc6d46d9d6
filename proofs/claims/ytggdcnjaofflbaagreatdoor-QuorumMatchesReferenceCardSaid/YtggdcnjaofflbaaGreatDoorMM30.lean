/- The reference's numbers of whatever size. The conditions: the bounds of an encoded number. -/
import Derived.Test.YtggdcnjaofflbaaGreatDoorMM29
import Derived.Test.YtggdcnjaofflbaaGreatDoorMM24
namespace Go.Proofs.YtggdcnjaofflbaaGreatDoor
open Go.RowKit Go.BigFrame
set_option maxHeartbeats 1000000 in
theorem zigzagG_any (z:Nat)(hz:z < 9223372036854775808)(h62:¬ unzig z < -4611686018427387903)(w:World):Calls Tryz.prog 122 #[.int .i64 (unzig z)] w fun e w'=>e=.returned (.int .u64 (z:Int))∧w'=w:=by
 have hcase:(∃ h:Nat,z=2*h∧unzig z=(h:Int))∨∃ h:Nat,z=2*h+1∧unzig z=-(h:Int) - 1:=by
  unfold unzig
  by_cases e:z % 2=0
  ·exact .inl ⟨z / 2,by omega,by rw[if_pos e]⟩
  ·exact .inr ⟨z / 2,by omega,by rw[if_neg e]⟩
 rcases hcase with⟨h,rfl,hu⟩ | ⟨h,rfl,hu⟩
 ·rw[hu]at h62 ⊢
  have t0:¬ (h:Int) < 0:=by omega
  clear hu h62
  go_enter Tryz.func122,Tryz.ntmps122
  go_wp2
  go_ret
  exact⟨ret_int (by omega),rfl⟩
 ·rw[hu]at h62 ⊢
  obtain⟨m,hm⟩:∃ m:Nat,m=h+1:=⟨_,rfl⟩
  have e1:-(h:Int) - 1=-(m:Int):=by omega
  have e2:2*h+1=2*m - 1:=by omega
  have hm0:0 < m:=by omega
  have hm1:m≤4611686018427387903:=by omega
  rw[e1,e2]
  have t0:-(m:Int) < 0:=by omega
  have e3:IntKind.i64.wrap (-(-(m:Int)))=(m:Int):=by rw[Int.neg_neg];exact IntWalk.i64_in _ (by omega)
  have e4:IntKind.u64.wrap (m:Int)=(m:Int):=u64_in _ (by omega)
  have e5:IntKind.u64.wrap ((m:Int)*2)=(m:Int)*2:=by rw[IntKind.wrap_u64];omega
  have e6:IntKind.u64.wrap ((m:Int)*2 - 1)=(m:Int)*2 - 1:=by rw[IntKind.wrap_u64];omega
  clear hu h62 hz hm e1 e2
  go_enter Tryz.func122,Tryz.ntmps122
  go_wp2
  go_ret
  exact⟨ret_int (by omega),rfl⟩
def PutAtG (z0 f z:Nat)(pre:List Nat):Prop:=z < 128 ^ (f+1)∧pre.length+f=8∧(∀ y∈pre,y < 256)∧pre.map UInt8.ofNat++grp f z=grp 8 z0
theorem PutAtG.next {z0 f z:Nat}{pre:List Nat}(h:PutAtG z0 f z pre)(hz:128≤z):∃ g,f=g+1∧PutAtG z0 g (z / 128) (pre++[z % 128+128]):=by
 obtain⟨h1,h2,h3,h4⟩:=h
 cases f with
 | zero=>simp at h1;omega
 | succ g =>
  refine⟨g,rfl,?_,by rw[List.length_append];simp;omega,?_,?_⟩
  ·rw[Nat.div_lt_iff_lt_mul (by decide)]
   rw[Nat.pow_succ]at h1
   exact h1
  ·intro y hy
   rcases List.mem_append.1 hy with e | e
   ·exact h3 y e
   ·rw[List.mem_singleton]at e
    omega
  ·rw[← h4,grp_great (by omega),List.map_append,List.append_assoc]
   rfl
theorem PutAtG.last {z0 f z:Nat}{pre:List Nat}(h:PutAtG z0 f z pre)(hz:z < 128):(∀ y∈pre++[z],y < 256)∧strOf (pre++[z])=bytesOf (grp 8 z0):=by
 obtain⟨h1,h2,h3,h4⟩:=h
 refine⟨?_,?_⟩
 ·intro y hy
  rcases List.mem_append.1 hy with e | e
  ·exact h3 y e
  ·rw[List.mem_singleton]at e
   omega
 ·rw[strOf_bytes,List.map_append]
  unfold bytesOf
  rw[← h4,grp_small hz]
  rfl
set_option maxHeartbeats 1000000 in
set_option maxRecDepth 100000 in
theorem r1putG_any (z0:Nat)(hz0:z0 < 9223372036854775808)(w:World)(h62:¬ unzig z0 < -4611686018427387903):Calls Tryz.prog 85 #[.int .i64 (unzig z0)] w fun e w'=>e=.returned (.tuple #[.string (bytesOf (grp 8 z0)),.int .i64 0])∧Below w.heap.size w w':=by
 have HZ:=zh (zigzagG_any z0 hz0 h62 w)
 have t2:¬ (4611686018427387903:Int) < unzig z0:=by unfold unzig;split <;> omega
 have HP:Hid (PutAtG z0 8 z0 []):=zh ⟨by omega,rfl,by simp,rfl⟩
 obtain⟨R,hR⟩:∃ R,R=bytesOf (grp 8 z0):=⟨_,rfl⟩
 rw[← hR]
 have HR:=zh hR
 clear hR
 obtain⟨n,hn⟩:∃ n,n=unzig z0:=⟨_,rfl⟩
 rw[← hn]at HZ t2 h62 ⊢
 clear hn
 go_enter Tryz.func85,Tryz.ntmps85
 go_wp2_with (go_at_call 122;refine HZ.out.mono ?_;rintro e w1 ⟨rfl,rfl⟩)
 go_loopw [4,5] (fun z v wr=>∃(f zn:Nat) (pre:List Nat),z=.int .u64 (zn:Int)∧zn≤z0∧Hid (PutAtG z0 f zn pre)∧Hid (OwnB wr w1.heap.size v pre)∧Hid (Below w1.heap.size w1 wr)) (fun z _ _=>(intOf z).toNat)
 case atStart=>exact⟨8,z0,[],rfl,Nat.le_refl _,HP,zh (OwnE.nil _ _ _ _),zh br0⟩
 case round =>
  clear HP HZ
  obtain⟨f,z,pre,rfl,hzl,hP,hO,hB⟩:=hrel
  obtain⟨va,vn,vc,hv,hvn⟩:=OwnB.form hO.out
  subst hv
  have HVN:=zh hvn
  clear hvn
  have hsz:=hB.out.size
  have HX:Hid (pre.length≤1100000000):=zh (by have:=hP.out.2.1;omega)
  have hz28:z < 9223372036854775808:=by omega
  by_cases hlt:128≤z
  ·have t4:(128:Int)≤(z:Int):=by omega
   obtain⟨g,hg,hN⟩:=hP.out.next hlt
   have HN:=zh hN
   clear hN hg
   have HY:Hid ((z:Int) % 128+128=((z % 128+128:Nat):Int)):=zh (by omega)
   have HQ:Hid ((z:Int) / 128=((z / 128:Nat):Int)):=zh (by omega)
   obtain⟨y,hy⟩:∃ y,y=z % 128+128:=⟨_,rfl⟩
   rw[← hy]at HY HN
   have HOA:Hid (OwnB (wr.alloc (.cells #[.int .u8 ((z:Int) % 128+128)] 5)) w1.heap.size (.slice va vn vc) pre):=zh (OwnE.alloc hO.out _)
   have HNA:=zh (heap_alloc_new wr (.cells #[.int .u8 ((z:Int) % 128+128)] 5))
   have HBA:=zh (hB.out.alloc hsz (.cells #[.int .u8 ((z:Int) % 128+128)] 5))
   have HZ0:=zh hz28
   clear hy hz28
   go_wp2_with (at_builtin;refine wpList_append_byte _ _ w1.heap.size _ pre wr.heap.size _ y HY.out _ HOA.out HX.out HBA.out.size HNA.out rfl rfl rfl rfl ?_;intro v7 w7 hown7 hgr7;have HO7:=zh hown7;have HB7:=zh (HBA.out.grown hgr7 HBA.out.size (fun j e=>OwnE.ge HOA.out j e));clear hown7 hgr7)
   go_roundw
   case rel=>exact⟨g,z / 128,pre++[y],congrArg (Value.int .u64) HQ.out,by omega,HN,HO7,HB7⟩
   case measure =>
    have hq:=HQ.out
    simp[intOf]
    omega
  ·have t4:¬ (128:Int)≤(z:Int):=by omega
   obtain⟨h256,hst⟩:=hP.out.last (by omega)
   have HST:Hid (strOf (pre++[z])=R):=zh (by rw[hst,HR.out])
   have H256:=zh h256
   have HY:Hid ((z:Int)=((z:Nat):Int)):=zh rfl
   have HOA:Hid (OwnB (wr.alloc (.cells #[.int .u8 (z:Int)] 5)) w1.heap.size (.slice va vn vc) pre):=zh (OwnE.alloc hO.out _)
   have HNA:=zh (heap_alloc_new wr (.cells #[.int .u8 (z:Int)] 5))
   have HBA:=zh (hB.out.alloc hsz (.cells #[.int .u8 (z:Int)] 5))
   have hz8:z < 128:=by omega
   clear h256 hst hP
   go_wp2_with (first | (at_builtin;refine wpList_append_byte _ _ w1.heap.size _ pre wr.heap.size _ z HY.out _ HOA.out HX.out HBA.out.size HNA.out rfl rfl rfl rfl ?_;intro v7 w7 hown7 hgr7;have HO7:=zh hown7;have HB7:=zh (HBA.out.grown hgr7 HBA.out.size (fun j e=>OwnE.ge HOA.out j e));clear hown7 hgr7;obtain⟨gx,ox,cx,hv7,_,_,_,hx3⟩:=HO7.out.cells (by simp);have HX3:=zh hx3;clear hx3;subst hv7) | (refine wpList_convS (pre++[z]) H256.out 80 9 5 _ gx ox _ cx rfl rfl rfl (by simp) (by kernel_rfl) (by kernel_rfl) (by kernel_rfl) HX3.out ?_))
   go_ret2
   exact⟨congrArg (fun s=>Ending.returned (.tuple #[.string s,.int .i64 0])) HST.out,HB7.out⟩
set_option maxHeartbeats 1000000 in
theorem r1putNo_any (n:Int)(hn:n < -4611686018427387903)(w:World):Calls Tryz.prog 85 #[.int .i64 n] w fun e w'=>e=.returned (.tuple #[.string ⟨#[]⟩,.int .i64 10])∧w'=w:=by
 go_enter Tryz.func85,Tryz.ntmps85
 go_wp2
 refine bodyPost_ret (results_tmp2 rfl _ _ _) rfl ⟨rfl,rfl⟩
theorem read_put {L:List UInt8}{k z:Nat}{b:UInt8}(hI:intL 9 0 0 L=if(b.toNat=0∧0 < k)∨unzig z < -4611686018427387903 then none else some (unzig z,k+1))(hz:z < 9223372036854775808)(h62:¬ unzig z < -4611686018427387903) :
  grp 8 z=L.take (k+1) ↔ ¬ (b.toNat=0∧0 < k):=by
 constructor
 ·intro he hb
  rw[if_pos (.inl hb)]at hI
  have e1:L=grp 8 z++L.drop (k+1):=by rw[he,List.take_append_drop]
  have e2:unzig (0+z*128 ^ 0)=unzig z:=by rw[Nat.zero_add,Nat.pow_zero,Nat.mul_one]
  have h:=intL_grp 8 9 0 0 z (L.drop (k+1)) (by omega) (by omega) (by omega) (by rw[e2];exact h62)
  rw[← e1,hI]at h
  cases h
 ·intro hb
  rw[if_neg (by rintro(h | h);exact hb h;exact h62 h)]at hI
  obtain⟨m,rest,h1,h2,h3,h4,_⟩:=intL_is 9 0 0 L _ _ hI
  rw[Nat.zero_add,Nat.pow_zero,Nat.mul_one]at h2
  have hm:m=z:=by
   unfold unzig at h2
   split at h2 <;> split at h2 <;> omega
  rw[hm]at h3 h4
  rw[Nat.zero_add]at h4
  have h5:L=grp 8 z++rest:=h3
  rw[h4,h5]
  exact(List.take_left).symm
theorem byte_factsR (y bn k:Nat)(hk:k < 9)(hy:y < 128 ^ k):∃ m q z h:Nat,∃ N:Int,z=y+bn % 128*128 ^ k∧N=unzig z∧z < 128 ^ (k+1)∧z < 9223372036854775808∧((bn:Int) % 128)=(m:Int)∧m < 128∧IntKind.u64.wrap ((m:Int)*2 ^ (7*k))=(q:Int)∧IntKind.u64.wrap ((y:Int)+(q:Int))=(z:Int)
  ∧ IntKind.u64.wrap ((z:Int) / 2)=(h:Int)∧IntKind.i64.wrap (h:Int)=(h:Int)∧h < 4611686018427387904∧((z % 2=0∧N=(h:Int))∨(z % 2=1∧N=-(h:Int) - 1)):=by
 have hP:=pow9 k hk
 have hm:bn % 128 < 128:=by omega
 have hz:=z_bound y (bn % 128) (128 ^ k) hy hm
 have hq:bn % 128*128 ^ k≤y+bn % 128*128 ^ k:=Nat.le_add_left _ _
 have hpi:=pow_int (bn % 128) k
 have hpw:128 ^ (k+1)=128 ^ k*128:=Nat.pow_succ _ _
 generalize 128 ^ k=P at *
 have hzb:y+bn % 128*P < 9223372036854775808:=by omega
 refine⟨bn % 128,bn % 128*P,y+bn % 128*P,(y+bn % 128*P) / 2,unzig (y+bn % 128*P),rfl,rfl,by rw[hpw];exact hz,hzb,by omega,hm,?_,?_,?_,?_,half_lt _ _ hzb rfl,?_⟩
 ·rw[hpi];exact u64_in _ (by omega)
 ·have e:(y:Int)+((bn % 128*P:Nat):Int)=((y+bn % 128*P:Nat):Int):=by omega
  rw[e];exact u64_in _ (by omega)
 ·generalize y+bn % 128*P=z at *
  rw[IntKind.wrap_u64]
  omega
 ·have:=half_lt _ _ hzb (rfl:(y+bn % 128*P) / 2=(y+bn % 128*P) / 2)
  generalize (y+bn % 128*P) / 2=h at *
  exact IntWalk.i64_in _ (by omega)
 ·generalize y+bn % 128*P=z at *
  unfold unzig
  by_cases e:z % 2=0
  ·exact .inl ⟨e,by rw[if_pos e]⟩
  ·exact .inr ⟨by omega,by rw[if_neg e]⟩
set_option maxHeartbeats 4000000 in
set_option maxRecDepth 100000 in
theorem r1int_any (s:ByteArray)(a:Nat)(ha:a≤s.size)(hs:s.size≤1000000)(w:World) :
  Calls Tryz.prog 71 #[.string s,.int .i64 a] w fun e w'=>e=.returned (intR a (intL 9 0 0 (s.data.toList.drop a)))∧Below w.heap.size w w':=by
 obtain⟨RES,hRES⟩:∃ R,R=intL 9 0 0 (s.data.toList.drop a):=⟨_,rfl⟩
 rw[← hRES]
 have HR:=zh hRES
 have HRL:=HR
 clear hRES
 have h0:¬ ((a:Int) < 0):=by omega
 have h1:¬ ((s.size:Int) < (a:Int)):=by omega
 go_enter Tryz.func71,Tryz.ntmps71
 go_wp2
 go_loopw [7,8] (fun z i wr=>∃ k y:Nat,k≤9∧i=.int .i64 k∧z=.int .u64 y∧y < 128 ^ k∧a+k≤s.size∧Hid (RES=intL (9 - k) k y (s.data.toList.drop (a+k)))∧wr=w) (fun _ i _=>9 - (intOf i).toNat)
 case atStart=>exact⟨0,0,by omega,rfl,rfl,by decide,by omega,HR,rfl⟩
 case round =>
  obtain⟨k,y,hk,rfl,rfl,hy,hak,hI,hwr⟩:=hrel
  replace hwr:=hwr.symm
  subst hwr
  have hk2:IntKind.i64.wrap ((a:Int)+(k:Int))=(a:Int)+(k:Int):=IntWalk.i64_in _ (by omega)
  by_cases hk9:k < 9
  ·have tk9:(k:Int) < 9:=by omega
   by_cases hend:a+k < s.size
   ·have hk0:(0:Int)≤(a:Int)+(k:Int):=by omega
    have hk1:(a:Int)+(k:Int) < (s.size:Int):=by omega
    have hget:s.data.toList.drop (a+k)=s[a+k]::s.data.toList.drop (a+(k+1)):=by
     have hlt:a+k < s.data.toList.length:=by rw[Array.length_toList];exact hend
     rw[List.drop_eq_getElem_cons hlt]
     rfl
    have HI2:=zh (hI.out.trans (congrArg (intL (9 - k) k y) hget))
    clear hI hget
    obtain⟨B,hB⟩:∃ B,B=s[a+k]:=⟨_,rfl⟩
    rw[← hB]at HI2
    have hB256:=B.toNat_lt
    have hbn:s[a+k].toNat=B.toNat:=by rw[hB]
    obtain⟨bn,hbe⟩:∃ bn,bn=B.toNat:=⟨_,rfl⟩
    rw[← hbe]at hbn hB256
    obtain⟨f,hf⟩:∃ f,9 - k=f+1:=⟨8 - k,by omega⟩
    obtain⟨m,q,z,h,N,hze,hNe,hzk,hz63,hm,hm128,hsh,hadd,hhalf,hh64,hh62,hsg⟩:=byte_factsR y bn k hk9 hy
    have HST:Hid (RES=if 128≤bn then intL f (k+1) z (s.data.toList.drop (a+(k+1)))else if(bn=0∧0 < k)∨N < -4611686018427387903 then none else some (N,k+1)):=zh (by
     rw[HI2.out,hf,intL,hNe,hze,hbe])
    have HF:=zh hf
    have HZK:=zh hzk
    have HNE:=zh (And.intro hNe hze)
    have HSG:=zh hsg
    have hw5:IntKind.u64.wrap (bn:Int)=(bn:Int):=u64_in _ (by omega)
    clear hB hbe hf hze hNe HI2 hzk hy hsg
    by_cases h128:128≤bn
    ·have HRS:=zh (HST.out.trans (if_pos h128))
     have h128':(128:Int)≤(bn:Int):=by omega
     clear HST HNE HSG
     go_wp2
     go_roundw
     case rel=>exact⟨k+1,z,by omega,by go_num,rfl,HZK.out,by omega,by rw[show 9 - (k+1)=f by have:=HF.out;omega];exact HRS,by trivial⟩
     case measure=>simp[intOf];omega
    ·have H2:=zh (HST.out.trans (if_neg h128))
     have h128':¬ (128:Int)≤(bn:Int):=by omega
     clear HST HZK
     rcases HSG.out with⟨hpar,hNh⟩ | ⟨hpar,hNh⟩
     ·have hp2:((z:Int) % 2)=0:=by omega
      subst hNh
      obtain⟨N,hN⟩:∃ N:Int,N=(h:Int):=⟨_,rfl⟩
      rw[← hN]at H2 HNE hh64 hhalf
      clear hN hpar
      by_cases h62:N < -4611686018427387903
      ·have HRS:Hid (RES=none):=zh (H2.out.trans (if_pos (.inr h62)))
       have HPN:=zh (r1putNo_any N h62 w)
       clear H2 HNE HF HSG h62
       go_wp2_with (go_at_call 85;refine HPN.out.mono ?_;rintro e w1 ⟨rfl,rfl⟩)
       (try simp only[Exit.inBlock,Exit.then]);refine bodyPost_ret (results_tmp3 rfl _ _ _) rfl ?_
       rw[HRS.out]
       exact⟨rfl,Below.refl _ _⟩
      ·have HPG:Hid (Calls Tryz.prog 85 #[.int .i64 N] w fun e w'=>e=.returned (.tuple #[.string (bytesOf (grp 8 z)),.int .i64 0])∧Below w.heap.size w w'):=zh (by
        obtain⟨n1,n2⟩:=HNE.out
        rw[n1]at h62 ⊢
        exact r1putG_any z hz63 w h62)
       have HDE:Hid (RES=if bytesOf (grp 8 z)=s.extract a (a+(k+1))then some (N,k+1)else none):=zh (by
        obtain⟨n1,n2⟩:=HNE.out
        have hr:=HRL.out.symm.trans H2.out
        rw[n1]at hr h62
        have h:=read_put (b:=UInt8.ofNat bn) (k:=k) (z:=z) (L:=s.data.toList.drop a) (by rw[u8_nat hB256];exact hr) hz63 h62
        rw[u8_nat hB256]at h
        have e:bytesOf (grp 8 z)=s.extract a (a+(k+1)) ↔ grp 8 z=(s.data.toList.drop a).take (k+1):=by
         rw[← bytes_take]
         constructor
         ·intro e
          have:=congrArg (fun x:ByteArray=>x.data.toList) e
          simp only[list_bytesOf]at this
          exact this
         ·intro e
          rw[e]
        rw[H2.out]
        by_cases hbb:bn=0∧0 < k
        ·rw[if_pos (.inl hbb),if_neg (fun he=>h.1 (e.1 he) hbb)]
        ·rw[if_neg (by rw[n1];rintro(h1 | h1);exact hbb h1;exact h62 h1),if_pos (e.2 (h.2 hbb))])
       have hsl0:(a:Int)≤(a:Int)+(k:Int)+1:=by omega
       have hsl1:(a:Int)+(k:Int)+1≤(s.size:Int):=by omega
       have hsl2:IntKind.i64.wrap ((a:Int)+(k:Int)+1)=(a:Int)+(k:Int)+1:=IntWalk.i64_in _ (by omega)
       have hsl3:((a:Int)+(k:Int)+1).toNat=a+(k+1):=by omega
       have hsl4:(0:Int)≤(a:Int)+(k:Int)+1:=by omega
       obtain⟨T,hT⟩:∃ T,T=bytesOf (grp 8 z):=⟨_,rfl⟩
       obtain⟨S,hS⟩:∃ S,S=s.extract a (a+(k+1)):=⟨_,rfl⟩
       rw[← hT]at HPG HDE
       rw[← hS]at HDE
       have hSe:=hS.symm
       have hss:=same_str T S
       obtain⟨eu,heu⟩:∃ b,b=decide (T=S):=⟨_,rfl⟩
       rw[← heu]at hss
       have HEU:=zh heu
       clear H2 HNE HF h62 hT hS heu hz63 HSG
       cases eu with
       | true =>
        have HRS:Hid (RES=some (N,k+1)):=zh (HDE.out.trans (if_pos (of_decide_eq_true HEU.out.symm)))
        clear HDE HEU
        go_wp2_with (go_at_call 85;refine HPG.out.mono ?_;rintro e w1 ⟨rfl,hb1⟩;have HB1:=zh hb1;clear hb1)
        (try simp only[Exit.inBlock,Exit.then]);refine bodyPost_ret (results_tmp3 rfl _ _ _) rfl ?_
        rw[HRS.out]
        exact⟨rfl,HB1.out⟩
       | false =>
        have HRS:Hid (RES=none):=zh (HDE.out.trans (if_neg (of_decide_eq_false HEU.out.symm)))
        clear HDE HEU
        go_wp2_with (go_at_call 85;refine HPG.out.mono ?_;rintro e w1 ⟨rfl,hb1⟩;have HB1:=zh hb1;clear hb1)
        (try simp only[Exit.inBlock,Exit.then]);refine bodyPost_ret (results_tmp3 rfl _ _ _) rfl ?_
        rw[HRS.out]
        exact⟨rfl,HB1.out⟩
     ·have hp2:((z:Int) % 2)=1:=by omega
      have hn1:IntKind.i64.wrap (-(h:Int))=-(h:Int):=IntWalk.i64_in _ (by omega)
      have hn2:IntKind.i64.wrap (-(h:Int) - 1)=N:=by rw[hNh];exact IntWalk.i64_in _ (by omega)
      clear hpar hNh
      by_cases h62:N < -4611686018427387903
      ·have HRS:Hid (RES=none):=zh (H2.out.trans (if_pos (.inr h62)))
       have HPN:=zh (r1putNo_any N h62 w)
       clear H2 HNE HF HSG h62
       go_wp2_with (go_at_call 85;refine HPN.out.mono ?_;rintro e w1 ⟨rfl,rfl⟩)
       (try simp only[Exit.inBlock,Exit.then]);refine bodyPost_ret (results_tmp3 rfl _ _ _) rfl ?_
       rw[HRS.out]
       exact⟨rfl,Below.refl _ _⟩
      ·have HPG:Hid (Calls Tryz.prog 85 #[.int .i64 N] w fun e w'=>e=.returned (.tuple #[.string (bytesOf (grp 8 z)),.int .i64 0])∧Below w.heap.size w w'):=zh (by
        obtain⟨n1,n2⟩:=HNE.out
        rw[n1]at h62 ⊢
        exact r1putG_any z hz63 w h62)
       have HDE:Hid (RES=if bytesOf (grp 8 z)=s.extract a (a+(k+1))then some (N,k+1)else none):=zh (by
        obtain⟨n1,n2⟩:=HNE.out
        have hr:=HRL.out.symm.trans H2.out
        rw[n1]at hr h62
        have h:=read_put (b:=UInt8.ofNat bn) (k:=k) (z:=z) (L:=s.data.toList.drop a) (by rw[u8_nat hB256];exact hr) hz63 h62
        rw[u8_nat hB256]at h
        have e:bytesOf (grp 8 z)=s.extract a (a+(k+1)) ↔ grp 8 z=(s.data.toList.drop a).take (k+1):=by
         rw[← bytes_take]
         constructor
         ·intro e
          have:=congrArg (fun x:ByteArray=>x.data.toList) e
          simp only[list_bytesOf]at this
          exact this
         ·intro e
          rw[e]
        rw[H2.out]
        by_cases hbb:bn=0∧0 < k
        ·rw[if_pos (.inl hbb),if_neg (fun he=>h.1 (e.1 he) hbb)]
        ·rw[if_neg (by rw[n1];rintro(h1 | h1);exact hbb h1;exact h62 h1),if_pos (e.2 (h.2 hbb))])
       have hsl0:(a:Int)≤(a:Int)+(k:Int)+1:=by omega
       have hsl1:(a:Int)+(k:Int)+1≤(s.size:Int):=by omega
       have hsl2:IntKind.i64.wrap ((a:Int)+(k:Int)+1)=(a:Int)+(k:Int)+1:=IntWalk.i64_in _ (by omega)
       have hsl3:((a:Int)+(k:Int)+1).toNat=a+(k+1):=by omega
       have hsl4:(0:Int)≤(a:Int)+(k:Int)+1:=by omega
       obtain⟨T,hT⟩:∃ T,T=bytesOf (grp 8 z):=⟨_,rfl⟩
       obtain⟨S,hS⟩:∃ S,S=s.extract a (a+(k+1)):=⟨_,rfl⟩
       rw[← hT]at HPG HDE
       rw[← hS]at HDE
       have hSe:=hS.symm
       have hss:=same_str T S
       obtain⟨eu,heu⟩:∃ b,b=decide (T=S):=⟨_,rfl⟩
       rw[← heu]at hss
       have HEU:=zh heu
       clear H2 HNE HF h62 hT hS heu hz63 HSG
       cases eu with
       | true =>
        have HRS:Hid (RES=some (N,k+1)):=zh (HDE.out.trans (if_pos (of_decide_eq_true HEU.out.symm)))
        clear HDE HEU
        go_wp2_with (go_at_call 85;refine HPG.out.mono ?_;rintro e w1 ⟨rfl,hb1⟩;have HB1:=zh hb1;clear hb1)
        (try simp only[Exit.inBlock,Exit.then]);refine bodyPost_ret (results_tmp3 rfl _ _ _) rfl ?_
        rw[HRS.out]
        exact⟨rfl,HB1.out⟩
       | false =>
        have HRS:Hid (RES=none):=zh (HDE.out.trans (if_neg (of_decide_eq_false HEU.out.symm)))
        clear HDE HEU
        go_wp2_with (go_at_call 85;refine HPG.out.mono ?_;rintro e w1 ⟨rfl,hb1⟩;have HB1:=zh hb1;clear hb1)
        (try simp only[Exit.inBlock,Exit.then]);refine bodyPost_ret (results_tmp3 rfl _ _ _) rfl ?_
        rw[HRS.out]
        exact⟨rfl,HB1.out⟩
   ·have HE:Hid (RES=none):=zh (by
     rw[hI.out,List.drop_eq_nil_of_le (by show s.data.size≤_;have:s.size=s.data.size:=rfl;omega)]
     obtain⟨f,hf⟩:∃ f,9 - k=f+1:=⟨8 - k,by omega⟩
     rw[hf]
     rfl)
    have hnl:¬ (a:Int)+(k:Int) < (s.size:Int):=by omega
    go_wp2
    (try simp only[Exit.inBlock,Exit.then]);refine bodyPost_ret (results_tmp3 rfl _ _ _) rfl ?_
    rw[HE.out]
    exact⟨rfl,Below.refl _ _⟩
  ·obtain rfl:k=9:=by omega
   have HE:Hid (RES=none):=zh (hI.out.trans rfl)
   go_wp2
   (try simp only[Exit.inBlock,Exit.then]);refine bodyPost_ret (results_tmp3 rfl _ _ _) rfl ?_
   rw[HE.out]
   exact⟨rfl,Below.refl _ _⟩
def RDecAt (w:World)(a c n t:Int)(W:World):Prop:=Below w.heap.size w W∧W.heap[w.heap.size]?=some (.cells #[.int .i64 0,.int .i64 0,.int .i64 0,.string ⟨#[]⟩,.string ⟨#[]⟩] 27 (0,0))∧W.heap[w.heap.size+1]?=some (.cells #[.int .i64 a,.int .i64 c,.int .i64 n,.int .i64 t] 103 (0,0))
theorem RDecAt.below {w:World}{a c n t:Int}{W W':World}(h:RDecAt w a c n t W)(hb:Below W.heap.size W W'):RDecAt w a c n t W' :=
 ⟨q_next h.1 hb,(hb.block _ (ltA h.2.1)).trans h.2.1,(hb.block _ (ltA h.2.2)).trans h.2.2⟩
theorem RDecAt.st0 {w:World}{a c n t:Int}{W:World}(h:RDecAt w a c n t W)(x:Int):RDecAt w x c n t (W.setCell ⟨w.heap.size+1,0,none⟩ (.int .i64 x)):=by
 obtain⟨h1,h2,h3⟩:=h
 have hg:W.grownBy (W.setCell ⟨w.heap.size+1,0,none⟩ (.int .i64 x)) (some (w.heap.size+1)):=grown_setCell (grown_refl _ _) _ (.inl rfl) _
 exact⟨h1.setCell (p:=⟨w.heap.size+1,0,none⟩) (by show w.heap.size≤w.heap.size+1;omega) _,(hg.block _ (ltA h2) (fun e=>by have:=Option.some.inj e;omega)).trans h2,heap_setCell_same (i:=0) _ h3⟩
theorem RDecAt.st1 {w:World}{a c n t:Int}{W:World}(h:RDecAt w a c n t W)(x:Int):RDecAt w a x n t (W.setCell ⟨w.heap.size+1,1,none⟩ (.int .i64 x)):=by
 obtain⟨h1,h2,h3⟩:=h
 have hg:W.grownBy (W.setCell ⟨w.heap.size+1,1,none⟩ (.int .i64 x)) (some (w.heap.size+1)):=grown_setCell (grown_refl _ _) _ (.inl rfl) _
 exact⟨h1.setCell (p:=⟨w.heap.size+1,1,none⟩) (by show w.heap.size≤w.heap.size+1;omega) _,(hg.block _ (ltA h2) (fun e=>by have:=Option.some.inj e;omega)).trans h2,heap_setCell_same (i:=1) _ h3⟩
theorem RDecAt.st2 {w:World}{a c n t:Int}{W:World}(h:RDecAt w a c n t W)(x:Int):RDecAt w a c x t (W.setCell ⟨w.heap.size+1,2,none⟩ (.int .i64 x)):=by
 obtain⟨h1,h2,h3⟩:=h
 have hg:W.grownBy (W.setCell ⟨w.heap.size+1,2,none⟩ (.int .i64 x)) (some (w.heap.size+1)):=grown_setCell (grown_refl _ _) _ (.inl rfl) _
 exact⟨h1.setCell (p:=⟨w.heap.size+1,2,none⟩) (by show w.heap.size≤w.heap.size+1;omega) _,(hg.block _ (ltA h2) (fun e=>by have:=Option.some.inj e;omega)).trans h2,heap_setCell_same (i:=2) _ h3⟩
theorem RDecAt.st3 {w:World}{a c n t:Int}{W:World}(h:RDecAt w a c n t W)(x:Int):RDecAt w a c n x (W.setCell ⟨w.heap.size+1,3,none⟩ (.int .i64 x)):=by
 obtain⟨h1,h2,h3⟩:=h
 have hg:W.grownBy (W.setCell ⟨w.heap.size+1,3,none⟩ (.int .i64 x)) (some (w.heap.size+1)):=grown_setCell (grown_refl _ _) _ (.inl rfl) _
 exact⟨h1.setCell (p:=⟨w.heap.size+1,3,none⟩) (by show w.heap.size≤w.heap.size+1;omega) _,(hg.block _ (ltA h2) (fun e=>by have:=Option.some.inj e;omega)).trans h2,heap_setCell_same (i:=3) _ h3⟩
set_option maxHeartbeats 8000000 in
set_option maxRecDepth 100000 in
theorem rdecode_any (s:ByteArray)(hs:s.size≤1000000)(w:World) :
  Calls Tryz.prog 29 #[.string s] w fun e w'=>e=.returned (castR (decodeV s))∧Below w.heap.size w w':=by
 obtain⟨RES,hRES⟩:∃ R,R=decodeV s:=⟨_,rfl⟩
 rw[← hRES]
 have HRES:Hid (RES=dec 0 0 0 0 0 (s.data.toList.drop 0)):=zh hRES
 clear hRES
 go_enter Tryz.func29,Tryz.ntmps29
 go_upto_region 2 with fail
 obtain⟨W4,hW4⟩:∃ W4,W4=(w.alloc (.cells #[.int .i64 0,.int .i64 0,.int .i64 0,.string ⟨#[]⟩,.string ⟨#[]⟩] 27)).alloc (.cells #[.int .i64 0,.int .i64 0,.int .i64 0,.int .i64 0] 103):=⟨_,rfl⟩
 rw[← hW4]
 have HA:Hid (RDecAt w 0 0 0 0 W4):=zh (by
  rw[hW4]
  exact⟨((Below.refl _ w).alloc (Nat.le_refl _) _).alloc (by simp) _,by rw[heap_alloc_old _ _ _ (by simp)];exact heap_alloc_new _ _,at_past' w _ _⟩)
 clear hW4
 go_wp2
 go_loopw [5,6] (fun ap ip wr=>∃(i p:Nat) (a c n t:Int),i≤4∧ip=.int .i64 i∧ap=.int .i64 p∧p≤s.size∧Hid (RES=dec i a c n t (s.data.toList.drop p))∧Hid (RDecAt w a c n t wr)) (fun _ ip _=>4 - (intOf ip).toNat)
 case atStart=>exact⟨0,0,0,0,0,0,by omega,rfl,rfl,by omega,HRES,HA⟩
 case round =>
  obtain⟨i,p,a,c,n,t,hi,rfl,rfl,hp,hI,hD⟩:=hrel
  have HINT:=zh (fun W=>r1int_any s p hp hs W)
  by_cases hi4:i < 4
  ·have hi0:(0:Int)≤(i:Int):=by omega
   have hi4':(i:Int) < 4:=by omega
   cases hx:intL 9 0 0 (s.data.toList.drop p)with
   | none =>
    have HR:Hid (RES=none):=zh (hI.out.trans (dec_none hi4 a c n t hx))
    rw[hx]at HINT
    clear hx hI
    have HF2:=zh (fun W (hW:Below wr.heap.size wr W)=>And.intro (vcellsAt (hD.out.below hW).2.1) (fun j=>(by unfold World.frozen?;rw[(hD.out.below hW).2.1];simp:W.frozen? ⟨w.heap.size,j,none⟩=false)))
    go_wp2_with (go_at_call 71;refine(HINT.out _).mono ?_;rintro e w1 ⟨rfl,hb1⟩;unfold intR;obtain⟨⟨z0,z1,z2,z3,z4⟩,zf⟩:=HF2.out w1 hb1;have HX:=zh (hD.out.below hb1);clear hb1)
    (try simp only[Exit.inBlock,Exit.then])
    refine bodyPost_ret (results_cellA_tmp rfl _ w.heap.size 27 #[.int .i64 0,.int .i64 0,.int .i64 0,.string ⟨#[]⟩,.string ⟨#[]⟩] (0,0) _ rfl (vfive_heap HX.out.2.1 _ _ _ _ _) Tryz.underlying27 rfl infoVote) rfl ⟨?_,vfive_below HX.out.1 (Nat.le_refl _) _ _ _ _ _⟩
    rw[HR.out]
    rfl
   | some xk =>
    obtain⟨x,k⟩:=xk
    have HR:Hid (RES=dec (i+1) (if i=0 then x else a) (if i=1 then x else c) (if i=2 then x else n) (if i=3 then x else t) (s.data.toList.drop (p+k))):=zh (by rw[hI.out,dec_some hi4 a c n t hx,List.drop_drop])
    have hpk:p+k≤s.size:=by
     have:=intL_len hx
     rw[List.length_drop]at this
     have e:s.data.toList.length=s.size:=rfl
     omega
    rw[hx]at HINT
    clear hx hI
    have hcase:i=0∨i=1∨i=2∨i=3:=by omega
    rcases hcase with rfl | rfl | rfl | rfl
    ·obtain⟨b1,b2,b3⟩:=hD.out
     have hwz:wr.heap.size=wr.heap.size:=rfl
     have HD2:=zh (fun W (hW:Below wr.heap.size wr W)=>(hD.out.below hW).st0 x)
     have HF2:=zh (fun W (hW:Below wr.heap.size wr W)=>And.intro (cell_of_row W (w.heap.size+1) 0 _ _ _ (hD.out.below hW).2.2) (fun j=>(by unfold World.frozen?;rw[(hD.out.below hW).2.2];simp:W.frozen? ⟨w.heap.size+1,j,none⟩=false)))
     clear b1 b2 b3 hwz
     go_wp2_with (go_at_call 71;refine(HINT.out _).mono ?_;rintro e w1 ⟨rfl,hb1⟩;unfold intR;obtain⟨z0,zf⟩:=HF2.out w1 hb1;have HD3:=zh (HD2.out w1 hb1);clear hb1)
     go_roundw
     case rel=>exact⟨0+1,p+k,x,c,n,t,by omega,rfl,by go_num,hpk,HR,HD3⟩
     case measure=>simp[intOf]
    ·obtain⟨b1,b2,b3⟩:=hD.out
     have hwz:wr.heap.size=wr.heap.size:=rfl
     have HD2:=zh (fun W (hW:Below wr.heap.size wr W)=>(hD.out.below hW).st1 x)
     have HF2:=zh (fun W (hW:Below wr.heap.size wr W)=>And.intro (cell_of_row W (w.heap.size+1) 1 _ _ _ (hD.out.below hW).2.2) (fun j=>(by unfold World.frozen?;rw[(hD.out.below hW).2.2];simp:W.frozen? ⟨w.heap.size+1,j,none⟩=false)))
     clear b1 b2 b3 hwz
     go_wp2_with (go_at_call 71;refine(HINT.out _).mono ?_;rintro e w1 ⟨rfl,hb1⟩;unfold intR;obtain⟨z0,zf⟩:=HF2.out w1 hb1;have HD3:=zh (HD2.out w1 hb1);clear hb1)
     go_roundw
     case rel=>exact⟨1+1,p+k,a,x,n,t,by omega,rfl,by go_num,hpk,HR,HD3⟩
     case measure=>simp[intOf]
    ·obtain⟨b1,b2,b3⟩:=hD.out
     have hwz:wr.heap.size=wr.heap.size:=rfl
     have HD2:=zh (fun W (hW:Below wr.heap.size wr W)=>(hD.out.below hW).st2 x)
     have HF2:=zh (fun W (hW:Below wr.heap.size wr W)=>And.intro (cell_of_row W (w.heap.size+1) 2 _ _ _ (hD.out.below hW).2.2) (fun j=>(by unfold World.frozen?;rw[(hD.out.below hW).2.2];simp:W.frozen? ⟨w.heap.size+1,j,none⟩=false)))
     clear b1 b2 b3 hwz
     go_wp2_with (go_at_call 71;refine(HINT.out _).mono ?_;rintro e w1 ⟨rfl,hb1⟩;unfold intR;obtain⟨z0,zf⟩:=HF2.out w1 hb1;have HD3:=zh (HD2.out w1 hb1);clear hb1)
     go_roundw
     case rel=>exact⟨2+1,p+k,a,c,x,t,by omega,rfl,by go_num,hpk,HR,HD3⟩
     case measure=>simp[intOf]
    ·obtain⟨b1,b2,b3⟩:=hD.out
     have hwz:wr.heap.size=wr.heap.size:=rfl
     have HD2:=zh (fun W (hW:Below wr.heap.size wr W)=>(hD.out.below hW).st3 x)
     have HF2:=zh (fun W (hW:Below wr.heap.size wr W)=>And.intro (cell_of_row W (w.heap.size+1) 3 _ _ _ (hD.out.below hW).2.2) (fun j=>(by unfold World.frozen?;rw[(hD.out.below hW).2.2];simp:W.frozen? ⟨w.heap.size+1,j,none⟩=false)))
     clear b1 b2 b3 hwz
     go_wp2_with (go_at_call 71;refine(HINT.out _).mono ?_;rintro e w1 ⟨rfl,hb1⟩;unfold intR;obtain⟨z0,zf⟩:=HF2.out w1 hb1;have HD3:=zh (HD2.out w1 hb1);clear hb1)
     go_roundw
     case rel=>exact⟨3+1,p+k,a,c,n,x,by omega,rfl,by go_num,hpk,HR,HD3⟩
     case measure=>simp[intOf]
  ·obtain rfl:i=4:=by omega
   have HT:Hid (RES=if s.size - p=64∧a=5∧formedV ⟨c,n,t,s.extract p (p+32),s.extract (p+32) s.size⟩=true then some ⟨c,n,t,s.extract p (p+32),s.extract (p+32) s.size⟩else none):=zh (hI.out.trans (tail_is s p a c n t))
   have HX:=hD
   have a0:=cell_of_row wr _ 0 _ _ _ hD.out.2.2
   obtain⟨z0,z1,z2,z3,z4⟩:=vcellsAt hD.out.2.1
   have zf:∀ j,wr.frozen? ⟨w.heap.size,j,none⟩=false:=fun j=>by unfold World.frozen?;rw[hD.out.2.1];simp
   clear hI HINT
   by_cases h64:s.size - p=64
   ·by_cases h5:a=5
    ·have h64':((s.size:Int) != (p:Int)+64)=false:=by simp;omega
     have h5':(a != 5)=false:=by simp[h5]
     have hEX:Hid (RES=if formedV ⟨c,n,t,s.extract p (p+32),s.extract (p+32) s.size⟩=true then some ⟨c,n,t,s.extract p (p+32),s.extract (p+32) s.size⟩else none):=zh (by
      rw[HT.out]
      by_cases hf:formedV ⟨c,n,t,s.extract p (p+32),s.extract (p+32) s.size⟩=true
      ·rw[if_pos ⟨h64,h5,hf⟩,if_pos hf]
      ·rw[if_neg (fun h=>hf h.2.2),if_neg hf])
     clear HT
     obtain⟨V,hV⟩:∃ V,V=s.extract p (p+32):=⟨_,rfl⟩
     obtain⟨L,hL⟩:∃ L,L=s.extract (p+32) s.size:=⟨_,rfl⟩
     rw[← hV,← hL]at hEX
     have hw2:IntKind.i64.wrap ((p:Int)+32)=(p:Int)+32:=IntWalk.i64_in _ (by omega)
     have hw3:IntKind.i64.wrap ((p:Int)+64)=(p:Int)+64:=IntWalk.i64_in _ (by omega)
     have h64n:(s.size:Int)=(p:Int)+64:=by omega
     have hp0:(0:Int)≤(p:Int):=by omega
     have hp32:(p:Int)+32≤(s.size:Int):=by omega
     have hq1:(0:Int)≤(p:Int)+32:=by omega
     have hq2:(p:Int)≤(p:Int)+32:=by omega
     have hq3:((p:Int)+32).toNat=p+32:=by omega
     have hV2:s.extract p (p+32)=V:=hV.symm
     have hL2:s.extract (p+32) s.size=L:=hL.symm
     have hsz:=hs
     clear hV hL z0 z1 z2 z3 z4 zf
     go_upto_region 13 with fail
     clear a0 h64' h64n h5' h64 h5 hw3
     have HA4:=zh (fun W (hW:Below wr.heap.size wr W)=>And.intro (cell_of_row W (w.heap.size+1) 1 _ _ _ (hD.out.below hW).2.2) (And.intro (cell_of_row W (w.heap.size+1) 2 _ _ _ (hD.out.below hW).2.2) (cell_of_row W (w.heap.size+1) 3 _ _ _ (hD.out.below hW).2.2)))
     refine wp_region_noPanic ?_
     refine wp_region_lexB [.q 0,.q 1,.q 2,.q 3,.q 4,.q 5,.q 6,.q 7,.q 8,.q 9,.q 10,.q 11,.q 12,.q 13,.q 14,.q 15,.q 16,.an 17,.co 17,.b 18] (by kernel_rfl) (by kernel_rfl) (fun _ _ _ _ h=>h) ?_
     iterate 17(refine wpFl_qL (v:=?_) rfl (Or.inl ⟨by rfl,?_⟩) ?_;rotate_left;(focus(intro w' hSw;obtain⟨n1,n2,n3⟩:=HA4.out w' hSw;go_simp;(try with_reducible rfl);done));simp only[Act.put,zzA,zzB,zzC])
     refine wpFl_anL rfl (.cells #[.int .i64 0,.int .i64 0,.int .i64 0,.string ⟨#[]⟩,.string ⟨#[]⟩] 27 (0,0)) (fun n=>.pointer (some ⟨n,0,none⟩)) ⟨by rfl,fun w'=>?_⟩ ?_
     focus(go_simp;done)
     refine wpFl_coL rfl (.cells #[.int .i64 0,.int .i64 0,.int .i64 0,.string ⟨#[]⟩,.string ⟨#[]⟩] 27 (0,0)) (fun n=>.pointer (some ⟨n,0,none⟩)) (by rfl) (N':=[]) (by rfl) (fun vb wk hn_wk hs_wk hb_vb hz_vb=>?_)
     simp only[Act.put,zzA,zzB,zzC]
     refine wpFl_bL rfl (fun wd hnd hsd K hK=>?_)
     have HZ:=zh ((hnd.block vb (ltA hz_vb)).trans hz_vb)
     obtain⟨y0,y1,y2,y3,y4⟩:=vcellsAt HZ.out
     have yf:∀ j,wd.frozen? ⟨vb,j,none⟩=false:=fun j=>by unfold World.frozen?;rw[HZ.out];simp
     go_simp
     refine hK.out _ _ (vfive_below hsd hb_vb _ _ _ _ _) Keeps.nil ?_
     clear hK K
     have HV7:=zh (vfive_heap HZ.out (.int .i64 c) (.int .i64 n) (.int .i64 t) (.string V) (.string L))
     have HB7:=zh (vfive_below hsd hb_vb (.int .i64 c) (.int .i64 n) (.int .i64 t) (.string V) (.string L))
     generalize (((((wd.setCell ⟨vb,0,none⟩ (.int .i64 c)).setCell ⟨vb,1,none⟩ (.int .i64 n)).setCell ⟨vb,2,none⟩ (.int .i64 t)).setCell ⟨vb,3,none⟩ (.string V)).setCell ⟨vb,4,none⟩ (.string L))=w7 at *
     clear y0 y1 y2 y3 y4 yf HZ hnd hsd hn_wk hs_wk hz_vb hb_vb HA4
     refine wpFl_nil ?_
     refine NoPanic.normal ?_
     have HFM:=zh (fun W=>rformed_any ⟨c,n,t,V,L⟩ W)
     simp only at HFM
     obtain⟨e0,e1,e2,e3,e4⟩:=vcellsAt HV7.out
     have HG8:=zh (fun W (hW:Below w7.heap.size w7 W)=>And.intro (vcellsAt ((hW.block _ (ltA HV7.out)).trans HV7.out)) (And.intro (vcellsAt (hD.out.below (q_next HB7.out hW)).2.1) (fun j=>(by unfold World.frozen?;rw[(hD.out.below (q_next HB7.out hW)).2.1];simp:W.frozen? ⟨w.heap.size,j,none⟩=false))))
     cases hf:formedV ⟨c,n,t,V,L⟩with
     | false =>
      have HR:Hid (RES=none):=zh (hEX.out.trans (if_neg (by rw[hf];decide)))
      rw[hf]at HFM
      clear hf hEX HX
      go_wp2_with (go_at_call 64;refine(HFM.out _).mono ?_;rintro e w1 ⟨rfl,hb1⟩;clear e0 e1 e2 e3 e4;obtain⟨⟨e0,e1,e2,e3,e4⟩,⟨z0,z1,z2,z3,z4⟩,zf⟩:=HG8.out w1 hb1;have HX:=zh (hD.out.below (q_next HB7.out hb1));clear hb1)
      refine bodyPost_ret (results_cellA_tmp rfl _ w.heap.size 27 #[.int .i64 0,.int .i64 0,.int .i64 0,.string ⟨#[]⟩,.string ⟨#[]⟩] (0,0) _ rfl (vfive_heap HX.out.2.1 _ _ _ _ _) Tryz.underlying27 rfl infoVote) rfl ⟨?_,vfive_below HX.out.1 (Nat.le_refl _) _ _ _ _ _⟩
      rw[HR.out]
      rfl
     | true =>
      have HR:Hid (RES=some ⟨c,n,t,V,L⟩):=zh (hEX.out.trans (if_pos hf))
      rw[hf]at HFM
      clear hf hEX HX
      go_wp2_with (go_at_call 64;refine(HFM.out _).mono ?_;rintro e w1 ⟨rfl,hb1⟩;clear e0 e1 e2 e3 e4;obtain⟨⟨e0,e1,e2,e3,e4⟩,⟨z0,z1,z2,z3,z4⟩,zf⟩:=HG8.out w1 hb1;have HX:=zh (hD.out.below (q_next HB7.out hb1));clear hb1)
      refine bodyPost_ret (results_cellA_tmp rfl _ w.heap.size 27 #[.int .i64 c,.int .i64 n,.int .i64 t,.string V,.string L] (0,0) _ rfl (vfive_heap HX.out.2.1 _ _ _ _ _) Tryz.underlying27 rfl infoVote) rfl ⟨?_,vfive_below HX.out.1 (Nat.le_refl _) _ _ _ _ _⟩
      rw[HR.out]
      rfl
    ·have HR:Hid (RES=none):=zh (HT.out.trans (if_neg (fun h=>h5 h.2.1)))
     have h64':((s.size:Int) != (p:Int)+64)=false:=by simp;omega
     have h64n:(s.size:Int)=(p:Int)+64:=by omega
     have h5':(a != 5)=true:=by simp[h5]
     have hw3:IntKind.i64.wrap ((p:Int)+64)=(p:Int)+64:=IntWalk.i64_in _ (by omega)
     clear HT
     go_wp2
     refine bodyPost_ret (results_cellA_tmp rfl _ w.heap.size 27 #[.int .i64 0,.int .i64 0,.int .i64 0,.string ⟨#[]⟩,.string ⟨#[]⟩] (0,0) _ rfl (vfive_heap HX.out.2.1 _ _ _ _ _) Tryz.underlying27 rfl infoVote) rfl ⟨?_,vfive_below HX.out.1 (Nat.le_refl _) _ _ _ _ _⟩
     rw[HR.out]
     rfl
   ·have HR:Hid (RES=none):=zh (HT.out.trans (if_neg (fun h=>h64 h.1)))
    have h64':((s.size:Int) != (p:Int)+64)=true:=by simp;omega
    have h64n:¬ (s.size:Int)=(p:Int)+64:=by omega
    have hw3:IntKind.i64.wrap ((p:Int)+64)=(p:Int)+64:=IntWalk.i64_in _ (by omega)
    clear HT
    go_wp2
    refine bodyPost_ret (results_cellA_tmp rfl _ w.heap.size 27 #[.int .i64 0,.int .i64 0,.int .i64 0,.string ⟨#[]⟩,.string ⟨#[]⟩] (0,0) _ rfl (vfive_heap HX.out.2.1 _ _ _ _ _) Tryz.underlying27 rfl infoVote) rfl ⟨?_,vfive_below HX.out.1 (Nat.le_refl _) _ _ _ _ _⟩
    rw[HR.out]
    rfl
theorem extract_sizeN (s:ByteArray)(a b:Nat):(s.extract a b).size≤s.size:=by
 rw[ByteArray.size_extract]
 omega
theorem encR_is (v:VoteP):∃(S:ByteArray) (er:Int),encR (encodeV v)=.tuple #[.string S,.int .i64 er]∧S.size≤200:=by
 unfold encodeV
 cases hf:formedV v with
 | false=>exact⟨_,_,rfl,by decide⟩
 | true =>
  refine⟨_,_,rfl,?_⟩
  have h:=formed_facts hf
  have h2:=voteC_le h.2.2.2.1
  show(voteC v++v.sl).size≤200
  rw[ByteArray.size_append]
  omega
theorem castR_two (o:Option VoteP):∃(v:VoteP) (er:Int),castR o=.tuple #[vagg v,.int .i64 er]:=by
 cases o with
 | none=>exact⟨⟨0,0,0,⟨#[]⟩,⟨#[]⟩⟩,190,rfl⟩
 | some v=>exact⟨v,0,rfl⟩
theorem wp_enterQ2 {P:Program}{c:Code}{Q R:Exit→Act→World→Prop}{K:Act→World→Prop}{a:Act}{w:World}(hK:∀ a w,c.wp P Q a w→K a w)(h:c.wp P Q a w):Exit.then K R .normal a w:=hK a w h
def rtQN2 (c:Code):Code:=rtQ (rtQ (rtQ (rtQ (rtQ (rtQ (rtQ (rtQ (rtQ (rtQ (rtQ (rtQ (rtQ (rtQ (c))))))))))))))
theorem tailQN2 {c L:Code}(h:∃ a0 a1 a2 a3 a4 a5 a6 a7 a8 a9 a10 a11 a12 a13:Code,Tryz.f3.body=some (a0.seq (a1.seq (a2.seq (a3.seq (a4.seq (a5.seq (a6.seq (a7.seq (a8.seq (a9.seq (a10.seq (a11.seq (a12.seq (a13.seq (c))))))))))))))))(hL:Tryz.f3.body.map rtQN2=some L:=by rfl):c=L:=by
 obtain⟨a0,a1,a2,a3,a4,a5,a6,a7,a8,a9,a10,a11,a12,a13,e⟩:=h
 rw[e]at hL
 exact Option.some.inj hL
set_option maxHeartbeats 16000000 in
set_option maxRecDepth 100000 in
theorem mref_codes {w wb:World}(HBW:Hid (Below w.heap.size w wb))(HE:Hid (QEnv wb))(bc bs m kc k:Nat)(ka:Option Addr)(ks:List ByteArray)(vp vo:Value)(P O:List VoteP)(hk:k < O.length)(num stp value which:Int)(u text:ByteArray)(iw:I64 which)(hm:m=ks.length)(hks:Hid (∀ k∈ks,k.size≤1000))(hm2:m≤1000)
  (HK:Hid (SS wb (.slice ka m kc) ks)) (HP:Hid (VS wb vp P)) (HO:Hid (VS wb vo O)) (HC:Hid (∀ W,Below wb.heap.size wb W→W.cell? ⟨bc,0,none⟩=some (.slice ka m kc)∧W.cell? ⟨bs,0,none⟩=some (.int .i64 num)∧W.cell? ⟨bs,1,none⟩=some (.int .i64 stp))) {u0 u1 u2 u5 u6 u8 u9 u10 u11 u12 u13 u14 u15 u16 u17 u18 u26 u27 u28 u29 u30 u31 u32 u33 u34 u35 u36 u37 u38 u39 u40 u41 u42 u43 u44 u45 u46 u47 u48 u49 u50 u51 u52 u53 u54 u55 u56 u57 u58 u59 u60 u61 u62 u63 u64 u65 u66 u67 u68 u69 u70 u71 u72 u73 u74 u75 u76 u77 u78 u79 u80 u81 u82 u83 u84 u85 u86 u87 u88 u89 u90 u91 u92 u93 u94 u95 u96 u97 u98 u99 u100 u101 u102 u103 u104 u105 u106 u107 u108 u109 u110 u111 u112 u113 u114 u115 u116 u117 u118 u119 u120 u121 u122 u123 u124 u125 u126 u127 u128 u129 u130 u131 u132 u133 u134 u135 u136 u137 u138 u139 u140 u141 u142 u143 u144 u145 u146 u147 u148 u149 u150 u151 u152 u153 u154 u155 u156 u157 u158 u159 u160 u161 u162 u163 u164 u165 u166 u167 u168 u169 u170 u171 u172 u173 u174 u175 u176 u177 u178 u179 u180 u181 u182 u183 u184 u185 u186 u187 u188 u189 u190 u191 u192 u193 u194 u195 u196 u197 u198 u199 u200 u201 u202 u203 u204 u205 u206 u207 u208 u209 u210 u211 u212 u213 u214 u215 u216 u217 u218 u219 u220 u221 u222 u223 u224 u225 u226 u227 u228 u229 u230 u231 u232 u233 u234 u235 u236 u237 u238 u239 u240 u241 u242 u243 u244 u245 u246 u247 u248 u249 u250 u251 u252 u253 u254 u255 u256 u257 u258 u259 u260 u261 u262 u263 u264 u265 u266 u267 u268 u269 u270 u271 u272 u273 u274 u275 u276 u277 u278 u279 u280 u281 u282 u283 u284 u285 u286 u287 u288 u289 u290 u291 u292 u293 u294 u295 u296 u297 u298 u299 u300 u301 u302 u303 u304 u305 u306 u307 u308 u309 u310 u311 u312 u313 u314 u315 u316 u317 u318 u319 u320 u321 u322 u323 u324 u325 u326 u327 u328 u329 u330 u331 u332 u333 u334 u335 u336 u337 u338 u339 u340 u341 u342 u343 u344 u345 u346 u347 u348 u349 u350 u351 u352 u353 u354 u355 u356 u357 u358 u359 u360 u361 u362 u363 u364 u365 u366 u367 u368 u369 u370 u371 u372 u373 u374 u375 u376 u377 u378 u379 u380 u381 u382 u383 u384 u385 u386 u387 u388 u389 u390 u391 u392 u393 u394 u395 u396 u397 u398 u399 u400 u401 u402 u403 u404 u405 u406 u407 u408 u409 u410 u411 u412 u413 u414 u415 u416 u417 u418 u419 u420 u421 u422 u423 u424 u425 u426 u427 u428 u429 u430 u431 u432 u433 u434 u435 u436 u437 u438 u439:Value} :
  ∃ c:Code,(∃ a0 a1 a2 a3 a4 a5 a6 a7 a8 a9 a10 a11 a12 a13:Code,Tryz.f3.body=some (a0.seq (a1.seq (a2.seq (a3.seq (a4.seq (a5.seq (a6.seq (a7.seq (a8.seq (a9.seq (a10.seq (a11.seq (a12.seq (a13.seq (c))))))))))))))))∧c.wp Tryz.prog (bodyPost Tryz.prog Tryz.f3 fun e w'=>e=.returned (.bool true)∧Below w.heap.size w w') { tmps:=#[u0,u1,u2,.int .i64 value,.int .i64 which,u5,u6,.string text,u8,u9,u10,u11,u12,u13,u14,u15,u16,u17,u18,.bool true,.pointer (some ⟨bc,0,none⟩),.pointer (some ⟨bs,0,none⟩),.string u,vp,vo,.int .i64 (k:Int),u26,u27,u28,u29,u30,u31,u32,u33,u34,u35,u36,u37,u38,u39,u40,u41,u42,u43,u44,u45,u46,u47,u48,u49,u50,u51,u52,u53,u54,u55,u56,u57,u58,u59,u60,u61,u62,u63,u64,u65,u66,u67,u68,u69,u70,u71,u72,u73,u74,u75,u76,u77,u78,u79,u80,u81,u82,u83,u84,u85,u86,u87,u88,u89,u90,u91,u92,u93,u94,u95,u96,u97,u98,u99,u100,u101,u102,u103,u104,u105,u106,u107,u108,u109,u110,u111,u112,u113,u114,u115,u116,u117,u118,u119,u120,u121,u122,u123,u124,u125,u126,u127,u128,u129,u130,u131,u132,u133,u134,u135,u136,u137,u138,u139,u140,u141,u142,u143,u144,u145,u146,u147,u148,u149,u150,u151,u152,u153,u154,u155,u156,u157,u158,u159,u160,u161,u162,u163,u164,u165,u166,u167,u168,u169,u170,u171,u172,u173,u174,u175,u176,u177,u178,u179,u180,u181,u182,u183,u184,u185,u186,u187,u188,u189,u190,u191,u192,u193,u194,u195,u196,u197,u198,u199,u200,u201,u202,u203,u204,u205,u206,u207,u208,u209,u210,u211,u212,u213,u214,u215,u216,u217,u218,u219,u220,u221,u222,u223,u224,u225,u226,u227,u228,u229,u230,u231,u232,u233,u234,u235,u236,u237,u238,u239,u240,u241,u242,u243,u244,u245,u246,u247,u248,u249,u250,u251,u252,u253,u254,u255,u256,u257,u258,u259,u260,u261,u262,u263,u264,u265,u266,u267,u268,u269,u270,u271,u272,u273,u274,u275,u276,u277,u278,u279,u280,u281,u282,u283,u284,u285,u286,u287,u288,u289,u290,u291,u292,u293,u294,u295,u296,u297,u298,u299,u300,u301,u302,u303,u304,u305,u306,u307,u308,u309,u310,u311,u312,u313,u314,u315,u316,u317,u318,u319,u320,u321,u322,u323,u324,u325,u326,u327,u328,u329,u330,u331,u332,u333,u334,u335,u336,u337,u338,u339,u340,u341,u342,u343,u344,u345,u346,u347,u348,u349,u350,u351,u352,u353,u354,u355,u356,u357,u358,u359,u360,u361,u362,u363,u364,u365,u366,u367,u368,u369,u370,u371,u372,u373,u374,u375,u376,u377,u378,u379,u380,u381,u382,u383,u384,u385,u386,u387,u388,u389,u390,u391,u392,u393,u394,u395,u396,u397,u398,u399,u400,u401,u402,u403,u404,u405,u406,u407,u408,u409,u410,u411,u412,u413,u414,u415,u416,u417,u418,u419,u420,u421,u422,u423,u424,u425,u426,u427,u428,u429,u430,u431,u432,u433,u434,u435,u436,u437,u438,u439],defers:=[] } wb:=by
 refine⟨_,⟨_,_,_,_,_,_,_,_,_,_,_,_,_,_,rfl⟩,?_⟩
 have HKL:=zh (And.intro hm hm2)
 clear hm hm2
 obtain⟨v,ev⟩:∃ v,O[k]?=some v:=⟨_,List.getElem?_eq_getElem hk⟩
 obtain⟨oa,oc,rfl,hol,hom,ho3⟩:=HO.out.opened
 obtain⟨lb,lo,rfl,hlb,hlv⟩:=ho3 k v ev
 obtain⟨N,hN⟩:∃ N,N=O.length:=⟨_,rfl⟩
 rw[← hN]at hk hol HO ⊢
 obtain⟨d0,d1,d2,d3,d4⟩:=hlv.keep br0 hlb
 obtain⟨S,er,hS,hS2⟩:=encR_is v
 have HEN:=zh (fun W=>renc_any v _ rfl W)
 rw[hS]at HEN
 clear hN ho3 hlv ev hS hol hom
 unfold vagg at HEN
 have hk0:(0:Int)≤(k:Int):=by omega
 have hk1:(k:Int) < (N:Int):=by omega
 go_upto_region 30 with(go_at_call 20;(with_reducible refine(HEN.out _).mono ?_);rintro e w1 ⟨rfl,hb1⟩;have HB1:=zh hb1)
 clear d0 d1 d2 d3 d4 HEN hb1
 obtain⟨tn,htn⟩:∃ tn:Nat,min (text.size:Int) 100=(tn:Int):=⟨min text.size 100,by omega⟩
 have ht0:(0:Int)≤(tn:Int):=by omega
 have ht1:(tn:Int)≤(text.size:Int):=by omega
 have ht2:tn≤100:=by omega
 go_upto_region 31 with fail
 have hT:(text.extract 0 tn).size≤100:=by rw[ByteArray.size_extract];omega
 generalize text.extract 0 tn=T at *
 clear ht0 ht1 ht2 htn
 have hpk:=pickI_range which (show(0:Int) < 80 by omega)
 have HPK:=zh (fun W=>lpickQ_any which 80 W iw (by omega) (by omega))
 obtain⟨p,hp⟩:∃ p:Nat,pickI which 80=(p:Int):=⟨(pickI which 80).toNat,by omega⟩
 rw[hp]at HPK hpk
 obtain⟨an,han⟩:∃ an:Nat,min (S.size:Int) (p:Int)=(an:Int):=⟨min S.size p,by omega⟩
 have hn0:(0:Int)≤(an:Int):=by omega
 have hn1:(an:Int)≤(S.size:Int):=by omega
 have hcat:¬ 9223372036854775807 < S.size+T.size:=by omega
 clear hp
 go_upto_region 32 with(go_at_call 16;(with_reducible refine(HPK.out _).mono ?_);rintro e w' ⟨rfl,hw'⟩;replace hw':=hw'.symm;subst hw')
 obtain⟨W2,hW2⟩:∃ W2,W2=w1.alloc (.cells #[.string S,.string (S++T),.string T,.string (S.extract 0 an)] 9):=⟨_,rfl⟩
 have HB2:Hid (Below w1.heap.size w1 W2):=zh (by rw[hW2];exact br0.alloc (Nat.le_refl _) _)
 have HX2:Hid (W2.heap[w1.heap.size]?=some (.cells #[.string S,.string (S++T),.string T,.string (S.extract 0 an)] 9 (0,0))):=zh (by rw[hW2];exact heap_alloc_new w1 _)
 rw[← hW2]
 obtain⟨br,hbr⟩:∃ b,b=w1.heap.size:=⟨_,rfl⟩
 rw[← hbr]at HX2 ⊢
 have HZR:Hid (∀ j,j < 4→∃ z:ByteArray,z.size≤1000∧∀ W,Below W2.heap.size W2 W→W.cell? ⟨br,j,none⟩=some (.string z)):=zh (fun j hj=>by
  have hrow:∀ W,Below W2.heap.size W2 W→W.heap[br]?=some (.cells #[.string S,.string (S++T),.string T,.string (S.extract 0 an)] 9 (0,0)):=fun W hW=>(hW.block _ (ltA HX2.out)).trans HX2.out
  have h1:=extract_sizeN S 0 an
  have h2:(S++T).size=S.size+T.size:=ByteArray.size_append
  match j,hj with
  | 0,_=>exact⟨_,by omega,fun W hW=>cell_of_row W _ 0 _ _ _ (hrow W hW)⟩
  | 1,_=>exact⟨_,by rw[h2];omega,fun W hW=>cell_of_row W _ 1 _ _ _ (hrow W hW)⟩
  | 2,_=>exact⟨_,by omega,fun W hW=>cell_of_row W _ 2 _ _ _ (hrow W hW)⟩
  | 3,_=>exact⟨_,Nat.le_trans h1 (by omega),fun W hW=>cell_of_row W _ 3 _ _ _ (hrow W hW)⟩)
 clear hW2 hbr HX2 HPK hpk han hn0 hn1 hcat hT hS2
 have HBX:=zh (q_next HB1.out HB2.out)
 go_wp2
 go_loopw [350] (fun i wr=>∃ j:Nat,j≤4∧i=.int .i64 j∧Hid (Below W2.heap.size W2 wr)) (fun i _=>4 - (intOf i).toNat)
 case atStart=>exact⟨0,by omega,rfl,zh br0⟩
 case round =>
  obtain⟨j,hj,rfl,hB⟩:=hrel
  by_cases hlt:j < 4
  ·have tk:(j:Int) < 4:=by omega
   have tk0:(0:Int)≤(j:Int):=by omega
   obtain⟨z,hz,hcell⟩:=HZR.out j hlt
   have r0:=hcell wr hB.out
   have HD1:=zh (fun W=>decode_any z (by omega) W)
   have HD2:=zh (fun W=>rdecode_any z (by omega) W)
   obtain⟨q,eq,hq⟩:=castR_two (decodeV z)
   have HNE:=zh (fun W=>neqVote q q W)
   rw[hq]at HD1 HD2
   rw[decide_eq_true rfl]at HNE
   unfold vagg at HD1 HD2 HNE
   clear hq hcell
   obtain⟨qc,qn,qs,qv,ql⟩:=q
   simp only at HD1 HD2 HNE
   go_upto_region 35 with(go_at_call 28;(with_reducible refine(HD1.out _).mono ?_);clear r0;rintro e w3 ⟨rfl,hb3⟩;have HB3:=zh (q_next hB.out hb3))
   clear hb3
   obtain⟨W4,hW4⟩:∃ W,W=w3.alloc (.cells #[.int .i64 qc,.int .i64 qn,.int .i64 qs,.string qv,.string ql] 27):=⟨_,rfl⟩
   have HV_W4:Hid (W4.heap[w3.heap.size]?=some (.cells #[.int .i64 qc,.int .i64 qn,.int .i64 qs,.string qv,.string ql] 27 (0,0))):=zh (by rw[hW4];exact heap_alloc_new w3 _)
   have HS_W4:Hid (Below w3.heap.size w3 W4):=zh (by rw[hW4];exact br0.alloc (Nat.le_refl _) _)
   have HB_W4:=zh (q_next HB3.out HS_W4.out)
   rw[← hW4]
   obtain⟨b4,hb4⟩:∃ b,b=w3.heap.size:=⟨_,rfl⟩
   rw[← hb4]at HV_W4 ⊢
   clear hW4 hb4
   go_upto_region 36 with(go_at_call 29;(with_reducible refine(HD2.out _).mono ?_);rintro e w5 ⟨rfl,hb5⟩;have HB5:=zh (q_next HB_W4.out hb5))
   have HV5:=zh ((hb5.block _ (ltA HV_W4.out)).trans HV_W4.out)
   clear hb5
   obtain⟨W6,hW6⟩:∃ W,W=w5.alloc (.cells #[.int .i64 qc,.int .i64 qn,.int .i64 qs,.string qv,.string ql] 27):=⟨_,rfl⟩
   have HV_W6:Hid (W6.heap[w5.heap.size]?=some (.cells #[.int .i64 qc,.int .i64 qn,.int .i64 qs,.string qv,.string ql] 27 (0,0))):=zh (by rw[hW6];exact heap_alloc_new w5 _)
   have HS_W6:Hid (Below w5.heap.size w5 W6):=zh (by rw[hW6];exact br0.alloc (Nat.le_refl _) _)
   have HB_W6:=zh (q_next HB5.out HS_W6.out)
   rw[← hW6]
   obtain⟨b6,hb6⟩:∃ b,b=w5.heap.size:=⟨_,rfl⟩
   rw[← hb6]at HV_W6 ⊢
   clear hW6 hb6
   have HV6:=zh ((HS_W6.out.block _ (ltA HV5.out)).trans HV5.out)
   obtain⟨e0,e1,e2,e3,e4⟩:=vcellsAt HV6.out
   obtain⟨f0,f1,f2,f3,f4⟩:=vcellsAt HV_W6.out
   have hne:=HNE.out
   go_wp2
   go_roundw
   case rel=>exact⟨j+1,by omega,by go_num,HB_W6⟩
   case measure=>simp[intOf];omega
  ·obtain rfl:j=4:=by omega
   have HBR:=zh (q_next HBX.out hB.out)
   have HP1:=zh (fun W (hW:Below wb.heap.size wb W)=>rprove19_any (HK.out.below hW) hks.out (HP.out.below hW) num stp u (by rw[← HKL.out.1];exact HKL.out.2))
   have HP2:=zh (fun W (hW:Below wb.heap.size wb W)=>rprove19_any (HK.out.below hW) hks.out (HP.out.below hW) num stp (valN (IntKind.i64.wrap (value+1))) (by rw[← HKL.out.1];exact HKL.out.2))
   have HVL:=zh (fun W=>valN_any (IntKind.i64.wrap (value+1)) (by unfold I64 IntKind.wrap;simp[IntKind.bits,IntKind.signed];omega) W)
   obtain⟨A,hA⟩:∃ A,A=(proveV ks num stp u P).getD []:=⟨_,rfl⟩
   obtain⟨B,hB1⟩:∃ B,B=(proveV ks num stp (valN (IntKind.i64.wrap (value+1))) P).getD []:=⟨_,rfl⟩
   generalize valN (IntKind.i64.wrap (value+1))=u1 at *
   obtain⟨c0,s0,s1⟩:=HC.out wr HBR.out
   have HP1r:=zh (HP1.out wr HBR.out)
   go_upto_region 40 with(go_at_call 30;(with_reducible refine HP1r.out.mono ?_);clear c0 s0 s1;rintro e w3 ⟨v1,rfl,hv1,hb3⟩;have HB3:=zh (q_next HBR.out hb3);have HV1:=zh hv1)
   refine wp_region_noPanic ?_
   refine wp_region_lexB [.q 0,.q 1,.q 2,.q 3,.q 5,.b 4,.b 6,.q 7,.q 8,.q 9,.q 10,.q 11] (by kernel_rfl) (by kernel_rfl) (fun _ _ _ _ h=>h) ?_
   iterate 5(refine wpFl_qL (v:=?_) rfl (Or.inl ⟨by rfl,?_⟩) ?_;rotate_left;(focus(intro w' hSw;obtain⟨c0,s0,s1⟩:=HC.out w' (q_next HB3.out hSw);go_simp;(try with_reducible rfl);done));simp only[Act.put,zzA,zzB,zzC])
   refine wpFl_bL rfl (fun wa4 hna4 hsa4 K hK=>?_)
   go_simp
   go_at_call 14
   (with_reducible refine(HVL.out _).mono ?_)
   rintro e wb4 ⟨rfl,hb4⟩
   refine hK.out _ _ (q_next hsa4 hb4) (Keeps.below hb4) ?_
   clear hK K hna4 hsa4
   refine wpFl_bL rfl (fun wa6 hna6 hsa6 K hK=>?_)
   go_simp
   go_at_call 30
   (with_reducible refine(HP2.out _ (q_next HB3.out hsa6)).mono ?_)
   rintro e wb6 ⟨v2,rfl,hv2,hb6⟩
   have HV2:=zh hv2
   have HSZ:=zh (q_next hsa6 hb6)
   refine hK.out _ _ (q_next hsa6 hb6) (Keeps.below hb6) ?_
   clear hK K hna6 hsa6
   iterate 5(refine wpFl_qL (v:=?_) rfl (Or.inl ⟨by rfl,?_⟩) ?_;rotate_left;(focus(intro w' hSw;go_simp;(try with_reducible rfl);done));simp only[Act.put,zzA,zzB,zzC])
   refine wpFl_nil ?_
   refine NoPanic.normal ?_
   refine wp_enterQ2 (by assumption) ?_
   have HSY:=zh (q_next HB3.out HSZ.out)
   have HBZ:=zh (HBW.out.trans (HSY.out.mono HBW.out.size))
   have HEZ:=zh (HE.out.step HSY.out)
   have HKZ:=zh (HK.out.below HSY.out)
   have HAZ:=zh (HV1.out.below HSZ.out)
   have HOZ:=zh (HO.out.below HSY.out)
   have HCZ:=zh (fun W hW=>(HC.out W (q_next HSY.out hW)).1)
   refine wp_of_eqM (mref_blame HBZ HEZ bc m kc ka ks v1 v2 (.slice (some ⟨lb,lo,none⟩) N oc) _ _ O HKL.out.1 hks HKL.out.2 HKZ HAZ HV2 HOZ HCZ).choose_spec.2 ?_
   exact tailQN1 (mref_blame HBZ HEZ bc m kc ka ks v1 v2 (.slice (some ⟨lb,lo,none⟩) N oc) _ _ O HKL.out.1 hks HKL.out.2 HKZ HAZ HV2 HOZ HCZ).choose_spec.1
end Go.Proofs.YtggdcnjaofflbaaGreatDoor
