/- Walk of the reference's Int. The conditions: the place lies in the string, its length. -/
import Derived.Test.YtggdcnjaofflbaaGreatDoorMM27
namespace Go.Proofs.YtggdcnjaofflbaaGreatDoor
open Go.RowKit Go.BigFrame
theorem byte_factsR (y bn k:Nat)(hk:k < 9)(hy:y < 128 ^ k):∃ m q z h:Nat,∃ N:Int,z=y+bn % 128*128 ^ k∧N=unzig z∧z < 128 ^ (k+1)∧z < 9223372036854775808∧((bn:Int) % 128)=(m:Int)∧m < 128∧IntKind.u64.wrap ((m:Int)*2 ^ (7*k))=(q:Int)∧IntKind.u64.wrap ((y:Int)+(q:Int))=(z:Int)
  ∧ IntKind.u64.wrap ((z:Int) / 2)=(h:Int)∧IntKind.i64.wrap (h:Int)=(h:Int)∧h < 4611686018427387904∧((z % 2=0∧N=(h:Int))∨(z % 2=1∧N=-(h:Int) - 1)):=by
 have hP:=pow9 k hk
 have hm:bn % 128 < 128:=by omega
 have hz:=z_bound y (bn % 128) (128 ^ k) hy hm
 have hq:bn % 128*128 ^ k≤y+bn % 128*128 ^ k:=Nat.le_add_left _ _
 have hpi:=pow_int (bn % 128) k
 have hpw:128 ^ (k+1)=128 ^ k*128:=Nat.pow_succ _ _
 generalize 128 ^ k=P at *
 have hzb:y+bn % 128*P < 9223372036854775808:=by omega
 refine⟨bn % 128,bn % 128*P,y+bn % 128*P,(y+bn % 128*P) / 2,unzig (y+bn % 128*P),rfl,rfl,by rw[hpw];exact hz,hzb,by omega,hm,?_,?_,?_,?_,half_lt _ _ hzb rfl,?_⟩
 ·rw[hpi];exact u64_in _ (by omega)
 ·have e:(y:Int)+((bn % 128*P:Nat):Int)=((y+bn % 128*P:Nat):Int):=by omega
  rw[e];exact u64_in _ (by omega)
 ·generalize y+bn % 128*P=z at *
  rw[IntKind.wrap_u64]
  omega
 ·have:=half_lt _ _ hzb (rfl:(y+bn % 128*P) / 2=(y+bn % 128*P) / 2)
  generalize (y+bn % 128*P) / 2=h at *
  exact IntWalk.i64_in _ (by omega)
 ·generalize y+bn % 128*P=z at *
  unfold unzig
  by_cases e:z % 2=0
  ·exact .inl ⟨e,by rw[if_pos e]⟩
  ·exact .inr ⟨by omega,by rw[if_neg e]⟩
set_option maxHeartbeats 4000000 in
set_option maxRecDepth 100000 in
theorem r1int_any (s:ByteArray)(a:Nat)(ha:a≤s.size)(hs:s.size≤1000000)(w:World) :
  Calls Tryz.prog 71 #[.string s,.int .i64 a] w fun e w'=>e=.returned (intR a (intL 9 0 0 (s.data.toList.drop a)))∧Below w.heap.size w w':=by
 obtain⟨RES,hRES⟩:∃ R,R=intL 9 0 0 (s.data.toList.drop a):=⟨_,rfl⟩
 rw[← hRES]
 have HR:=zh hRES
 have HRL:=HR
 clear hRES
 have h0:¬ ((a:Int) < 0):=by omega
 have h1:¬ ((s.size:Int) < (a:Int)):=by omega
 go_enter Tryz.func71,Tryz.ntmps71
 go_wp2
 go_loopw [7,8] (fun z i wr=>∃ k y:Nat,k≤9∧i=.int .i64 k∧z=.int .u64 y∧y < 128 ^ k∧a+k≤s.size∧Hid (RES=intL (9 - k) k y (s.data.toList.drop (a+k)))∧wr=w) (fun _ i _=>9 - (intOf i).toNat)
 case atStart=>exact⟨0,0,by omega,rfl,rfl,by decide,by omega,HR,rfl⟩
 case round =>
  obtain⟨k,y,hk,rfl,rfl,hy,hak,hI,hwr⟩:=hrel
  replace hwr:=hwr.symm
  subst hwr
  have hk2:IntKind.i64.wrap ((a:Int)+(k:Int))=(a:Int)+(k:Int):=IntWalk.i64_in _ (by omega)
  by_cases hk9:k < 9
  ·have tk9:(k:Int) < 9:=by omega
   by_cases hend:a+k < s.size
   ·have hk0:(0:Int)≤(a:Int)+(k:Int):=by omega
    have hk1:(a:Int)+(k:Int) < (s.size:Int):=by omega
    have hget:s.data.toList.drop (a+k)=s[a+k]::s.data.toList.drop (a+(k+1)):=by
     have hlt:a+k < s.data.toList.length:=by rw[Array.length_toList];exact hend
     rw[List.drop_eq_getElem_cons hlt]
     rfl
    have HI2:=zh (hI.out.trans (congrArg (intL (9 - k) k y) hget))
    clear hI hget
    obtain⟨B,hB⟩:∃ B,B=s[a+k]:=⟨_,rfl⟩
    rw[← hB]at HI2
    have hB256:=B.toNat_lt
    have hbn:s[a+k].toNat=B.toNat:=by rw[hB]
    obtain⟨bn,hbe⟩:∃ bn,bn=B.toNat:=⟨_,rfl⟩
    rw[← hbe]at hbn hB256
    obtain⟨f,hf⟩:∃ f,9 - k=f+1:=⟨8 - k,by omega⟩
    obtain⟨m,q,z,h,N,hze,hNe,hzk,hz63,hm,hm128,hsh,hadd,hhalf,hh64,hh62,hsg⟩:=byte_factsR y bn k hk9 hy
    have HST:Hid (RES=if 128≤bn then intL f (k+1) z (s.data.toList.drop (a+(k+1)))else if(bn=0∧0 < k)∨N < -4611686018427387903 then none else some (N,k+1)):=zh (by
     rw[HI2.out,hf,intL,hNe,hze,hbe])
    have HF:=zh hf
    have HZK:=zh hzk
    have HNE:=zh (And.intro hNe hze)
    have HSG:=zh hsg
    have hw5:IntKind.u64.wrap (bn:Int)=(bn:Int):=u64_in _ (by omega)
    clear hB hbe hf hze hNe HI2 hzk hy hsg
    by_cases h128:128≤bn
    ·have HRS:=zh (HST.out.trans (if_pos h128))
     have h128':(128:Int)≤(bn:Int):=by omega
     clear HST HNE HSG
     go_wp2
     go_roundw
     case rel=>exact⟨k+1,z,by omega,by go_num,rfl,HZK.out,by omega,by rw[show 9 - (k+1)=f by have:=HF.out;omega];exact HRS,by trivial⟩
     case measure=>simp[intOf];omega
    ·have H2:=zh (HST.out.trans (if_neg h128))
     have h128':¬ (128:Int)≤(bn:Int):=by omega
     clear HST HZK
     rcases HSG.out with⟨hpar,hNh⟩ | ⟨hpar,hNh⟩
     ·have hp2:((z:Int) % 2)=0:=by omega
      subst hNh
      obtain⟨N,hN⟩:∃ N:Int,N=(h:Int):=⟨_,rfl⟩
      rw[← hN]at H2 HNE hh64 hhalf
      clear hN hpar
      by_cases h62:N < -4611686018427387903
      ·have HRS:Hid (RES=none):=zh (H2.out.trans (if_pos (.inr h62)))
       have HPN:=zh (r1putNo_any N h62 w)
       clear H2 HNE HF HSG h62
       go_wp2_with (go_at_call 85;refine HPN.out.mono ?_;rintro e w1 ⟨rfl,rfl⟩)
       (try simp only[Exit.inBlock,Exit.then]);refine bodyPost_ret (results_tmp3 rfl _ _ _) rfl ?_
       rw[HRS.out]
       exact⟨rfl,Below.refl _ _⟩
      ·have HPG:Hid (Calls Tryz.prog 85 #[.int .i64 N] w fun e w'=>e=.returned (.tuple #[.string (bytesOf (grp 8 z)),.int .i64 0])∧Below w.heap.size w w'):=zh (by
        obtain⟨n1,n2⟩:=HNE.out
        rw[n1]at h62 ⊢
        exact r1putG_any z hz63 w h62)
       have HDE:Hid (RES=if bytesOf (grp 8 z)=s.extract a (a+(k+1))then some (N,k+1)else none):=zh (by
        obtain⟨n1,n2⟩:=HNE.out
        have hr:=HRL.out.symm.trans H2.out
        rw[n1]at hr h62
        have h:=read_put (b:=UInt8.ofNat bn) (k:=k) (z:=z) (L:=s.data.toList.drop a) (by rw[u8_nat hB256];exact hr) hz63 h62
        rw[u8_nat hB256]at h
        have e:bytesOf (grp 8 z)=s.extract a (a+(k+1)) ↔ grp 8 z=(s.data.toList.drop a).take (k+1):=by
         rw[← bytes_take]
         constructor
         ·intro e
          have:=congrArg (fun x:ByteArray=>x.data.toList) e
          simp only[list_bytesOf]at this
          exact this
         ·intro e
          rw[e]
        rw[H2.out]
        by_cases hbb:bn=0∧0 < k
        ·rw[if_pos (.inl hbb),if_neg (fun he=>h.1 (e.1 he) hbb)]
        ·rw[if_neg (by rw[n1];rintro(h1 | h1);exact hbb h1;exact h62 h1),if_pos (e.2 (h.2 hbb))])
       have hsl0:(a:Int)≤(a:Int)+(k:Int)+1:=by omega
       have hsl1:(a:Int)+(k:Int)+1≤(s.size:Int):=by omega
       have hsl2:IntKind.i64.wrap ((a:Int)+(k:Int)+1)=(a:Int)+(k:Int)+1:=IntWalk.i64_in _ (by omega)
       have hsl3:((a:Int)+(k:Int)+1).toNat=a+(k+1):=by omega
       have hsl4:(0:Int)≤(a:Int)+(k:Int)+1:=by omega
       obtain⟨T,hT⟩:∃ T,T=bytesOf (grp 8 z):=⟨_,rfl⟩
       obtain⟨S,hS⟩:∃ S,S=s.extract a (a+(k+1)):=⟨_,rfl⟩
       rw[← hT]at HPG HDE
       rw[← hS]at HDE
       have hSe:=hS.symm
       have hss:=same_str T S
       obtain⟨eu,heu⟩:∃ b,b=decide (T=S):=⟨_,rfl⟩
       rw[← heu]at hss
       have HEU:=zh heu
       clear H2 HNE HF h62 hT hS heu hz63 HSG
       cases eu with
       | true =>
        have HRS:Hid (RES=some (N,k+1)):=zh (HDE.out.trans (if_pos (of_decide_eq_true HEU.out.symm)))
        clear HDE HEU
        go_wp2_with (go_at_call 85;refine HPG.out.mono ?_;rintro e w1 ⟨rfl,hb1⟩;have HB1:=zh hb1;clear hb1)
        (try simp only[Exit.inBlock,Exit.then]);refine bodyPost_ret (results_tmp3 rfl _ _ _) rfl ?_
        rw[HRS.out]
        exact⟨rfl,HB1.out⟩
       | false =>
        have HRS:Hid (RES=none):=zh (HDE.out.trans (if_neg (of_decide_eq_false HEU.out.symm)))
        clear HDE HEU
        go_wp2_with (go_at_call 85;refine HPG.out.mono ?_;rintro e w1 ⟨rfl,hb1⟩;have HB1:=zh hb1;clear hb1)
        (try simp only[Exit.inBlock,Exit.then]);refine bodyPost_ret (results_tmp3 rfl _ _ _) rfl ?_
        rw[HRS.out]
        exact⟨rfl,HB1.out⟩
     ·have hp2:((z:Int) % 2)=1:=by omega
      have hn1:IntKind.i64.wrap (-(h:Int))=-(h:Int):=IntWalk.i64_in _ (by omega)
      have hn2:IntKind.i64.wrap (-(h:Int) - 1)=N:=by rw[hNh];exact IntWalk.i64_in _ (by omega)
      clear hpar hNh
      by_cases h62:N < -4611686018427387903
      ·have HRS:Hid (RES=none):=zh (H2.out.trans (if_pos (.inr h62)))
       have HPN:=zh (r1putNo_any N h62 w)
       clear H2 HNE HF HSG h62
       go_wp2_with (go_at_call 85;refine HPN.out.mono ?_;rintro e w1 ⟨rfl,rfl⟩)
       (try simp only[Exit.inBlock,Exit.then]);refine bodyPost_ret (results_tmp3 rfl _ _ _) rfl ?_
       rw[HRS.out]
       exact⟨rfl,Below.refl _ _⟩
      ·have HPG:Hid (Calls Tryz.prog 85 #[.int .i64 N] w fun e w'=>e=.returned (.tuple #[.string (bytesOf (grp 8 z)),.int .i64 0])∧Below w.heap.size w w'):=zh (by
        obtain⟨n1,n2⟩:=HNE.out
        rw[n1]at h62 ⊢
        exact r1putG_any z hz63 w h62)
       have HDE:Hid (RES=if bytesOf (grp 8 z)=s.extract a (a+(k+1))then some (N,k+1)else none):=zh (by
        obtain⟨n1,n2⟩:=HNE.out
        have hr:=HRL.out.symm.trans H2.out
        rw[n1]at hr h62
        have h:=read_put (b:=UInt8.ofNat bn) (k:=k) (z:=z) (L:=s.data.toList.drop a) (by rw[u8_nat hB256];exact hr) hz63 h62
        rw[u8_nat hB256]at h
        have e:bytesOf (grp 8 z)=s.extract a (a+(k+1)) ↔ grp 8 z=(s.data.toList.drop a).take (k+1):=by
         rw[← bytes_take]
         constructor
         ·intro e
          have:=congrArg (fun x:ByteArray=>x.data.toList) e
          simp only[list_bytesOf]at this
          exact this
         ·intro e
          rw[e]
        rw[H2.out]
        by_cases hbb:bn=0∧0 < k
        ·rw[if_pos (.inl hbb),if_neg (fun he=>h.1 (e.1 he) hbb)]
        ·rw[if_neg (by rw[n1];rintro(h1 | h1);exact hbb h1;exact h62 h1),if_pos (e.2 (h.2 hbb))])
       have hsl0:(a:Int)≤(a:Int)+(k:Int)+1:=by omega
       have hsl1:(a:Int)+(k:Int)+1≤(s.size:Int):=by omega
       have hsl2:IntKind.i64.wrap ((a:Int)+(k:Int)+1)=(a:Int)+(k:Int)+1:=IntWalk.i64_in _ (by omega)
       have hsl3:((a:Int)+(k:Int)+1).toNat=a+(k+1):=by omega
       have hsl4:(0:Int)≤(a:Int)+(k:Int)+1:=by omega
       obtain⟨T,hT⟩:∃ T,T=bytesOf (grp 8 z):=⟨_,rfl⟩
       obtain⟨S,hS⟩:∃ S,S=s.extract a (a+(k+1)):=⟨_,rfl⟩
       rw[← hT]at HPG HDE
       rw[← hS]at HDE
       have hSe:=hS.symm
       have hss:=same_str T S
       obtain⟨eu,heu⟩:∃ b,b=decide (T=S):=⟨_,rfl⟩
       rw[← heu]at hss
       have HEU:=zh heu
       clear H2 HNE HF h62 hT hS heu hz63 HSG
       cases eu with
       | true =>
        have HRS:Hid (RES=some (N,k+1)):=zh (HDE.out.trans (if_pos (of_decide_eq_true HEU.out.symm)))
        clear HDE HEU
        go_wp2_with (go_at_call 85;refine HPG.out.mono ?_;rintro e w1 ⟨rfl,hb1⟩;have HB1:=zh hb1;clear hb1)
        (try simp only[Exit.inBlock,Exit.then]);refine bodyPost_ret (results_tmp3 rfl _ _ _) rfl ?_
        rw[HRS.out]
        exact⟨rfl,HB1.out⟩
       | false =>
        have HRS:Hid (RES=none):=zh (HDE.out.trans (if_neg (of_decide_eq_false HEU.out.symm)))
        clear HDE HEU
        go_wp2_with (go_at_call 85;refine HPG.out.mono ?_;rintro e w1 ⟨rfl,hb1⟩;have HB1:=zh hb1;clear hb1)
        (try simp only[Exit.inBlock,Exit.then]);refine bodyPost_ret (results_tmp3 rfl _ _ _) rfl ?_
        rw[HRS.out]
        exact⟨rfl,HB1.out⟩
   ·have HE:Hid (RES=none):=zh (by
     rw[hI.out,List.drop_eq_nil_of_le (by show s.data.size≤_;have:s.size=s.data.size:=rfl;omega)]
     obtain⟨f,hf⟩:∃ f,9 - k=f+1:=⟨8 - k,by omega⟩
     rw[hf]
     rfl)
    have hnl:¬ (a:Int)+(k:Int) < (s.size:Int):=by omega
    go_wp2
    (try simp only[Exit.inBlock,Exit.then]);refine bodyPost_ret (results_tmp3 rfl _ _ _) rfl ?_
    rw[HE.out]
    exact⟨rfl,Below.refl _ _⟩
  ·obtain rfl:k=9:=by omega
   have HE:Hid (RES=none):=zh (hI.out.trans rfl)
   go_wp2
   (try simp only[Exit.inBlock,Exit.then]);refine bodyPost_ret (results_tmp3 rfl _ _ _) rfl ?_
   rw[HE.out]
   exact⟨rfl,Below.refl _ _⟩
theorem two_at {W:World}{b:Nat}{c0 c1:Value}{T:TypeId}(h:W.heap[b]?=some (.cells #[c0,c1] T (0,0))):W.cell? ⟨b,0,none⟩=some c0∧W.cell? ⟨b,1,none⟩=some c1:=⟨cell_of_row W _ 0 _ _ _ h,cell_of_row W _ 1 _ _ _ h⟩
set_option maxHeartbeats 400000 in
theorem rin_any (n lo hi:Int)(w:World) :
  Calls Tryz.prog 91 #[.int .i64 n,.int .i64 lo,.int .i64 hi] w fun e w'=>e=.returned (.bool (decide (lo≤n∧n≤hi)))∧w'=w:=by
 by_cases h1:lo≤n
 ·have hd:decide (lo≤n)=true:=decide_eq_true h1
  go_enter Tryz.func91,Tryz.ntmps91
  go_wp2
  go_ret
  refine⟨ret_bool ?_,rfl⟩
  rw[Bool.eq_iff_iff]
  simp
  try omega
 ·have hd:decide (lo≤n)=false:=decide_eq_false h1
  go_enter Tryz.func91,Tryz.ntmps91
  go_wp2
  go_ret
  refine⟨ret_bool ?_,rfl⟩
  simp
set_option maxHeartbeats 2000000 in
theorem rformed_any (v:VoteP)(w:World) :
  Calls Tryz.prog 64 #[.agg #[.int .i64 v.car,.int .i64 v.num,.int .i64 v.stp,.string v.val,.string v.sl]] w fun e w'=>e=.returned (.bool (formedV v))∧Below w.heap.size w w':=by
 obtain⟨car,num,stp,val,sl⟩:=v
 have e:formedV ⟨car,num,stp,val,sl⟩=(decide (0≤car∧car≤7) && (decide (0≤num∧num≤99999999) && (decide (0≤stp∧stp≤1000) && (decide (val.size=32) && decide (sl.size=32))))):=by
  unfold formedV
  rw[Bool.eq_iff_iff]
  simp
 rw[e]
 have H1:=zh (rin_any car 0 7)
 have H2:=zh (rin_any num 0 99999999)
 have H3:=zh (rin_any stp 0 1000)
 have H4:((val.size:Int) == 32)=decide (val.size=32):=by rw[Bool.eq_iff_iff];simp;omega
 have H5:((sl.size:Int) == 32)=decide (sl.size=32):=by rw[Bool.eq_iff_iff];simp;omega
 generalize decide (0≤car∧car≤7)=b1 at *
 generalize decide (0≤num∧num≤99999999)=b2 at *
 generalize decide (0≤stp∧stp≤1000)=b3 at *
 generalize decide (val.size=32)=b4 at *
 generalize decide (sl.size=32)=b5 at *
 clear e
 obtain⟨W1,hW1⟩:∃ W1,W1=w.alloc (.cells #[.int .i64 car,.int .i64 num,.int .i64 stp,.string val,.string sl] 27):=⟨_,rfl⟩
 have HB1:Hid (Below w.heap.size w W1):=zh (by rw[hW1];exact br0.alloc (Nat.le_refl _) _)
 have HX1:Hid (W1.heap[w.heap.size]?=some (.cells #[.int .i64 car,.int .i64 num,.int .i64 stp,.string val,.string sl] 27 (0,0))):=zh (by rw[hW1];exact heap_alloc_new w _)
 obtain⟨d0,d1,d2,d3,d4⟩:=vcellsAt HX1.out
 have HW1:=zh hW1
 clear hW1
 go_enter Tryz.func64,Tryz.ntmps64
 go_upto_region 1 with fail
 rw[← HW1.out]
 cases b1 <;> cases b2 <;> cases b3 <;> cases b4 <;>
 ·go_wp2_with (go_at_call 91;(first | (with_reducible refine(H1.out _).mono ?_) | (with_reducible refine(H2.out _).mono ?_) | (with_reducible refine(H3.out _).mono ?_));rintro e w1 ⟨rfl,hw'⟩;replace hw':=hw'.symm;subst hw')
  go_ret
  exact⟨rfl,HB1.out⟩
def RDecAt (w:World)(a c n t:Int)(W:World):Prop:=Below w.heap.size w W∧W.heap[w.heap.size]?=some (.cells #[.int .i64 0,.int .i64 0,.int .i64 0,.string ⟨#[]⟩,.string ⟨#[]⟩] 27 (0,0))∧W.heap[w.heap.size+1]?=some (.cells #[.int .i64 a,.int .i64 c,.int .i64 n,.int .i64 t] 103 (0,0))
theorem RDecAt.below {w:World}{a c n t:Int}{W W':World}(h:RDecAt w a c n t W)(hb:Below W.heap.size W W'):RDecAt w a c n t W' :=
 ⟨q_next h.1 hb,(hb.block _ (ltA h.2.1)).trans h.2.1,(hb.block _ (ltA h.2.2)).trans h.2.2⟩
theorem RDecAt.st0 {w:World}{a c n t:Int}{W:World}(h:RDecAt w a c n t W)(x:Int):RDecAt w x c n t (W.setCell ⟨w.heap.size+1,0,none⟩ (.int .i64 x)):=by
 obtain⟨h1,h2,h3⟩:=h
 have hg:W.grownBy (W.setCell ⟨w.heap.size+1,0,none⟩ (.int .i64 x)) (some (w.heap.size+1)):=grown_setCell (grown_refl _ _) _ (.inl rfl) _
 exact⟨h1.setCell (p:=⟨w.heap.size+1,0,none⟩) (by show w.heap.size≤w.heap.size+1;omega) _,(hg.block _ (ltA h2) (fun e=>by have:=Option.some.inj e;omega)).trans h2,heap_setCell_same (i:=0) _ h3⟩
theorem RDecAt.st1 {w:World}{a c n t:Int}{W:World}(h:RDecAt w a c n t W)(x:Int):RDecAt w a x n t (W.setCell ⟨w.heap.size+1,1,none⟩ (.int .i64 x)):=by
 obtain⟨h1,h2,h3⟩:=h
 have hg:W.grownBy (W.setCell ⟨w.heap.size+1,1,none⟩ (.int .i64 x)) (some (w.heap.size+1)):=grown_setCell (grown_refl _ _) _ (.inl rfl) _
 exact⟨h1.setCell (p:=⟨w.heap.size+1,1,none⟩) (by show w.heap.size≤w.heap.size+1;omega) _,(hg.block _ (ltA h2) (fun e=>by have:=Option.some.inj e;omega)).trans h2,heap_setCell_same (i:=1) _ h3⟩
theorem RDecAt.st2 {w:World}{a c n t:Int}{W:World}(h:RDecAt w a c n t W)(x:Int):RDecAt w a c x t (W.setCell ⟨w.heap.size+1,2,none⟩ (.int .i64 x)):=by
 obtain⟨h1,h2,h3⟩:=h
 have hg:W.grownBy (W.setCell ⟨w.heap.size+1,2,none⟩ (.int .i64 x)) (some (w.heap.size+1)):=grown_setCell (grown_refl _ _) _ (.inl rfl) _
 exact⟨h1.setCell (p:=⟨w.heap.size+1,2,none⟩) (by show w.heap.size≤w.heap.size+1;omega) _,(hg.block _ (ltA h2) (fun e=>by have:=Option.some.inj e;omega)).trans h2,heap_setCell_same (i:=2) _ h3⟩
theorem RDecAt.st3 {w:World}{a c n t:Int}{W:World}(h:RDecAt w a c n t W)(x:Int):RDecAt w a c n x (W.setCell ⟨w.heap.size+1,3,none⟩ (.int .i64 x)):=by
 obtain⟨h1,h2,h3⟩:=h
 have hg:W.grownBy (W.setCell ⟨w.heap.size+1,3,none⟩ (.int .i64 x)) (some (w.heap.size+1)):=grown_setCell (grown_refl _ _) _ (.inl rfl) _
 exact⟨h1.setCell (p:=⟨w.heap.size+1,3,none⟩) (by show w.heap.size≤w.heap.size+1;omega) _,(hg.block _ (ltA h2) (fun e=>by have:=Option.some.inj e;omega)).trans h2,heap_setCell_same (i:=3) _ h3⟩
set_option maxHeartbeats 8000000 in
set_option maxRecDepth 100000 in
theorem rdecode_any (s:ByteArray)(hs:s.size≤1000000)(w:World) :
  Calls Tryz.prog 29 #[.string s] w fun e w'=>e=.returned (castR (decodeV s))∧Below w.heap.size w w':=by
 obtain⟨RES,hRES⟩:∃ R,R=decodeV s:=⟨_,rfl⟩
 rw[← hRES]
 have HRES:Hid (RES=dec 0 0 0 0 0 (s.data.toList.drop 0)):=zh hRES
 clear hRES
 go_enter Tryz.func29,Tryz.ntmps29
 go_upto_region 2 with fail
 obtain⟨W4,hW4⟩:∃ W4,W4=(w.alloc (.cells #[.int .i64 0,.int .i64 0,.int .i64 0,.string ⟨#[]⟩,.string ⟨#[]⟩] 27)).alloc (.cells #[.int .i64 0,.int .i64 0,.int .i64 0,.int .i64 0] 103):=⟨_,rfl⟩
 rw[← hW4]
 have HA:Hid (RDecAt w 0 0 0 0 W4):=zh (by
  rw[hW4]
  exact⟨((Below.refl _ w).alloc (Nat.le_refl _) _).alloc (by simp) _,by rw[heap_alloc_old _ _ _ (by simp)];exact heap_alloc_new _ _,at_past' w _ _⟩)
 clear hW4
 go_wp2
 go_loopw [5,6] (fun ap ip wr=>∃(i p:Nat) (a c n t:Int),i≤4∧ip=.int .i64 i∧ap=.int .i64 p∧p≤s.size∧Hid (RES=dec i a c n t (s.data.toList.drop p))∧Hid (RDecAt w a c n t wr)) (fun _ ip _=>4 - (intOf ip).toNat)
 case atStart=>exact⟨0,0,0,0,0,0,by omega,rfl,rfl,by omega,HRES,HA⟩
 case round =>
  obtain⟨i,p,a,c,n,t,hi,rfl,rfl,hp,hI,hD⟩:=hrel
  have HINT:=zh (fun W=>r1int_any s p hp hs W)
  by_cases hi4:i < 4
  ·have hi0:(0:Int)≤(i:Int):=by omega
   have hi4':(i:Int) < 4:=by omega
   cases hx:intL 9 0 0 (s.data.toList.drop p)with
   | none =>
    have HR:Hid (RES=none):=zh (hI.out.trans (dec_none hi4 a c n t hx))
    rw[hx]at HINT
    clear hx hI
    have HF2:=zh (fun W (hW:Below wr.heap.size wr W)=>And.intro (vcellsAt (hD.out.below hW).2.1) (fun j=>(by unfold World.frozen?;rw[(hD.out.below hW).2.1];simp:W.frozen? ⟨w.heap.size,j,none⟩=false)))
    go_wp2_with (go_at_call 71;refine(HINT.out _).mono ?_;rintro e w1 ⟨rfl,hb1⟩;unfold intR;obtain⟨⟨z0,z1,z2,z3,z4⟩,zf⟩:=HF2.out w1 hb1;have HX:=zh (hD.out.below hb1);clear hb1)
    (try simp only[Exit.inBlock,Exit.then])
    refine bodyPost_ret (results_cellA_tmp rfl _ w.heap.size 27 #[.int .i64 0,.int .i64 0,.int .i64 0,.string ⟨#[]⟩,.string ⟨#[]⟩] (0,0) _ rfl (vfive_heap HX.out.2.1 _ _ _ _ _) Tryz.underlying27 rfl infoVote) rfl ⟨?_,vfive_below HX.out.1 (Nat.le_refl _) _ _ _ _ _⟩
    rw[HR.out]
    rfl
   | some xk =>
    obtain⟨x,k⟩:=xk
    have HR:Hid (RES=dec (i+1) (if i=0 then x else a) (if i=1 then x else c) (if i=2 then x else n) (if i=3 then x else t) (s.data.toList.drop (p+k))):=zh (by rw[hI.out,dec_some hi4 a c n t hx,List.drop_drop])
    have hpk:p+k≤s.size:=by
     have:=intL_len hx
     rw[List.length_drop]at this
     have e:s.data.toList.length=s.size:=rfl
     omega
    rw[hx]at HINT
    clear hx hI
    have hcase:i=0∨i=1∨i=2∨i=3:=by omega
    rcases hcase with rfl | rfl | rfl | rfl
    ·obtain⟨b1,b2,b3⟩:=hD.out
     have hwz:wr.heap.size=wr.heap.size:=rfl
     have HD2:=zh (fun W (hW:Below wr.heap.size wr W)=>(hD.out.below hW).st0 x)
     have HF2:=zh (fun W (hW:Below wr.heap.size wr W)=>And.intro (cell_of_row W (w.heap.size+1) 0 _ _ _ (hD.out.below hW).2.2) (fun j=>(by unfold World.frozen?;rw[(hD.out.below hW).2.2];simp:W.frozen? ⟨w.heap.size+1,j,none⟩=false)))
     clear b1 b2 b3 hwz
     go_wp2_with (go_at_call 71;refine(HINT.out _).mono ?_;rintro e w1 ⟨rfl,hb1⟩;unfold intR;obtain⟨z0,zf⟩:=HF2.out w1 hb1;have HD3:=zh (HD2.out w1 hb1);clear hb1)
     go_roundw
     case rel=>exact⟨0+1,p+k,x,c,n,t,by omega,rfl,by go_num,hpk,HR,HD3⟩
     case measure=>simp[intOf]
    ·obtain⟨b1,b2,b3⟩:=hD.out
     have hwz:wr.heap.size=wr.heap.size:=rfl
     have HD2:=zh (fun W (hW:Below wr.heap.size wr W)=>(hD.out.below hW).st1 x)
     have HF2:=zh (fun W (hW:Below wr.heap.size wr W)=>And.intro (cell_of_row W (w.heap.size+1) 1 _ _ _ (hD.out.below hW).2.2) (fun j=>(by unfold World.frozen?;rw[(hD.out.below hW).2.2];simp:W.frozen? ⟨w.heap.size+1,j,none⟩=false)))
     clear b1 b2 b3 hwz
     go_wp2_with (go_at_call 71;refine(HINT.out _).mono ?_;rintro e w1 ⟨rfl,hb1⟩;unfold intR;obtain⟨z0,zf⟩:=HF2.out w1 hb1;have HD3:=zh (HD2.out w1 hb1);clear hb1)
     go_roundw
     case rel=>exact⟨1+1,p+k,a,x,n,t,by omega,rfl,by go_num,hpk,HR,HD3⟩
     case measure=>simp[intOf]
    ·obtain⟨b1,b2,b3⟩:=hD.out
     have hwz:wr.heap.size=wr.heap.size:=rfl
     have HD2:=zh (fun W (hW:Below wr.heap.size wr W)=>(hD.out.below hW).st2 x)
     have HF2:=zh (fun W (hW:Below wr.heap.size wr W)=>And.intro (cell_of_row W (w.heap.size+1) 2 _ _ _ (hD.out.below hW).2.2) (fun j=>(by unfold World.frozen?;rw[(hD.out.below hW).2.2];simp:W.frozen? ⟨w.heap.size+1,j,none⟩=false)))
     clear b1 b2 b3 hwz
     go_wp2_with (go_at_call 71;refine(HINT.out _).mono ?_;rintro e w1 ⟨rfl,hb1⟩;unfold intR;obtain⟨z0,zf⟩:=HF2.out w1 hb1;have HD3:=zh (HD2.out w1 hb1);clear hb1)
     go_roundw
     case rel=>exact⟨2+1,p+k,a,c,x,t,by omega,rfl,by go_num,hpk,HR,HD3⟩
     case measure=>simp[intOf]
    ·obtain⟨b1,b2,b3⟩:=hD.out
     have hwz:wr.heap.size=wr.heap.size:=rfl
     have HD2:=zh (fun W (hW:Below wr.heap.size wr W)=>(hD.out.below hW).st3 x)
     have HF2:=zh (fun W (hW:Below wr.heap.size wr W)=>And.intro (cell_of_row W (w.heap.size+1) 3 _ _ _ (hD.out.below hW).2.2) (fun j=>(by unfold World.frozen?;rw[(hD.out.below hW).2.2];simp:W.frozen? ⟨w.heap.size+1,j,none⟩=false)))
     clear b1 b2 b3 hwz
     go_wp2_with (go_at_call 71;refine(HINT.out _).mono ?_;rintro e w1 ⟨rfl,hb1⟩;unfold intR;obtain⟨z0,zf⟩:=HF2.out w1 hb1;have HD3:=zh (HD2.out w1 hb1);clear hb1)
     go_roundw
     case rel=>exact⟨3+1,p+k,a,c,n,x,by omega,rfl,by go_num,hpk,HR,HD3⟩
     case measure=>simp[intOf]
  ·obtain rfl:i=4:=by omega
   have HT:Hid (RES=if s.size - p=64∧a=5∧formedV ⟨c,n,t,s.extract p (p+32),s.extract (p+32) s.size⟩=true then some ⟨c,n,t,s.extract p (p+32),s.extract (p+32) s.size⟩else none):=zh (hI.out.trans (tail_is s p a c n t))
   have HX:=hD
   have a0:=cell_of_row wr _ 0 _ _ _ hD.out.2.2
   obtain⟨z0,z1,z2,z3,z4⟩:=vcellsAt hD.out.2.1
   have zf:∀ j,wr.frozen? ⟨w.heap.size,j,none⟩=false:=fun j=>by unfold World.frozen?;rw[hD.out.2.1];simp
   clear hI HINT
   by_cases h64:s.size - p=64
   ·by_cases h5:a=5
    ·have h64':((s.size:Int) != (p:Int)+64)=false:=by simp;omega
     have h5':(a != 5)=false:=by simp[h5]
     have hEX:Hid (RES=if formedV ⟨c,n,t,s.extract p (p+32),s.extract (p+32) s.size⟩=true then some ⟨c,n,t,s.extract p (p+32),s.extract (p+32) s.size⟩else none):=zh (by
      rw[HT.out]
      by_cases hf:formedV ⟨c,n,t,s.extract p (p+32),s.extract (p+32) s.size⟩=true
      ·rw[if_pos ⟨h64,h5,hf⟩,if_pos hf]
      ·rw[if_neg (fun h=>hf h.2.2),if_neg hf])
     clear HT
     obtain⟨V,hV⟩:∃ V,V=s.extract p (p+32):=⟨_,rfl⟩
     obtain⟨L,hL⟩:∃ L,L=s.extract (p+32) s.size:=⟨_,rfl⟩
     rw[← hV,← hL]at hEX
     have hw2:IntKind.i64.wrap ((p:Int)+32)=(p:Int)+32:=IntWalk.i64_in _ (by omega)
     have hw3:IntKind.i64.wrap ((p:Int)+64)=(p:Int)+64:=IntWalk.i64_in _ (by omega)
     have h64n:(s.size:Int)=(p:Int)+64:=by omega
     have hp0:(0:Int)≤(p:Int):=by omega
     have hp32:(p:Int)+32≤(s.size:Int):=by omega
     have hq1:(0:Int)≤(p:Int)+32:=by omega
     have hq2:(p:Int)≤(p:Int)+32:=by omega
     have hq3:((p:Int)+32).toNat=p+32:=by omega
     have hV2:s.extract p (p+32)=V:=hV.symm
     have hL2:s.extract (p+32) s.size=L:=hL.symm
     have hsz:=hs
     clear hV hL z0 z1 z2 z3 z4 zf
     go_upto_region 13 with fail
     clear a0 h64' h64n h5' h64 h5 hw3
     have HA4:=zh (fun W (hW:Below wr.heap.size wr W)=>And.intro (cell_of_row W (w.heap.size+1) 1 _ _ _ (hD.out.below hW).2.2) (And.intro (cell_of_row W (w.heap.size+1) 2 _ _ _ (hD.out.below hW).2.2) (cell_of_row W (w.heap.size+1) 3 _ _ _ (hD.out.below hW).2.2)))
     refine wp_region_noPanic ?_
     refine wp_region_lexB [.q 0,.q 1,.q 2,.q 3,.q 4,.q 5,.q 6,.q 7,.q 8,.q 9,.q 10,.q 11,.q 12,.q 13,.q 14,.q 15,.q 16,.an 17,.co 17,.b 18] (by kernel_rfl) (by kernel_rfl) (fun _ _ _ _ h=>h) ?_
     iterate 17(refine wpFl_qL (v:=?_) rfl (Or.inl ⟨by rfl,?_⟩) ?_;rotate_left;(focus(intro w' hSw;obtain⟨n1,n2,n3⟩:=HA4.out w' hSw;go_simp;(try with_reducible rfl);done));simp only[Act.put,zzA,zzB,zzC])
     refine wpFl_anL rfl (.cells #[.int .i64 0,.int .i64 0,.int .i64 0,.string ⟨#[]⟩,.string ⟨#[]⟩] 27 (0,0)) (fun n=>.pointer (some ⟨n,0,none⟩)) ⟨by rfl,fun w'=>?_⟩ ?_
     focus(go_simp;done)
     refine wpFl_coL rfl (.cells #[.int .i64 0,.int .i64 0,.int .i64 0,.string ⟨#[]⟩,.string ⟨#[]⟩] 27 (0,0)) (fun n=>.pointer (some ⟨n,0,none⟩)) (by rfl) (N':=[]) (by rfl) (fun vb wk hn_wk hs_wk hb_vb hz_vb=>?_)
     simp only[Act.put,zzA,zzB,zzC]
     refine wpFl_bL rfl (fun wd hnd hsd K hK=>?_)
     have HZ:=zh ((hnd.block vb (ltA hz_vb)).trans hz_vb)
     obtain⟨y0,y1,y2,y3,y4⟩:=vcellsAt HZ.out
     have yf:∀ j,wd.frozen? ⟨vb,j,none⟩=false:=fun j=>by unfold World.frozen?;rw[HZ.out];simp
     go_simp
     refine hK.out _ _ (vfive_below hsd hb_vb _ _ _ _ _) Keeps.nil ?_
     clear hK K
     have HV7:=zh (vfive_heap HZ.out (.int .i64 c) (.int .i64 n) (.int .i64 t) (.string V) (.string L))
     have HB7:=zh (vfive_below hsd hb_vb (.int .i64 c) (.int .i64 n) (.int .i64 t) (.string V) (.string L))
     generalize (((((wd.setCell ⟨vb,0,none⟩ (.int .i64 c)).setCell ⟨vb,1,none⟩ (.int .i64 n)).setCell ⟨vb,2,none⟩ (.int .i64 t)).setCell ⟨vb,3,none⟩ (.string V)).setCell ⟨vb,4,none⟩ (.string L))=w7 at *
     clear y0 y1 y2 y3 y4 yf HZ hnd hsd hn_wk hs_wk hz_vb hb_vb HA4
     refine wpFl_nil ?_
     refine NoPanic.normal ?_
     have HFM:=zh (fun W=>rformed_any ⟨c,n,t,V,L⟩ W)
     simp only at HFM
     obtain⟨e0,e1,e2,e3,e4⟩:=vcellsAt HV7.out
     have HG8:=zh (fun W (hW:Below w7.heap.size w7 W)=>And.intro (vcellsAt ((hW.block _ (ltA HV7.out)).trans HV7.out)) (And.intro (vcellsAt (hD.out.below (q_next HB7.out hW)).2.1) (fun j=>(by unfold World.frozen?;rw[(hD.out.below (q_next HB7.out hW)).2.1];simp:W.frozen? ⟨w.heap.size,j,none⟩=false))))
     cases hf:formedV ⟨c,n,t,V,L⟩with
     | false =>
      have HR:Hid (RES=none):=zh (hEX.out.trans (if_neg (by rw[hf];decide)))
      rw[hf]at HFM
      clear hf hEX HX
      go_wp2_with (go_at_call 64;refine(HFM.out _).mono ?_;rintro e w1 ⟨rfl,hb1⟩;clear e0 e1 e2 e3 e4;obtain⟨⟨e0,e1,e2,e3,e4⟩,⟨z0,z1,z2,z3,z4⟩,zf⟩:=HG8.out w1 hb1;have HX:=zh (hD.out.below (q_next HB7.out hb1));clear hb1)
      refine bodyPost_ret (results_cellA_tmp rfl _ w.heap.size 27 #[.int .i64 0,.int .i64 0,.int .i64 0,.string ⟨#[]⟩,.string ⟨#[]⟩] (0,0) _ rfl (vfive_heap HX.out.2.1 _ _ _ _ _) Tryz.underlying27 rfl infoVote) rfl ⟨?_,vfive_below HX.out.1 (Nat.le_refl _) _ _ _ _ _⟩
      rw[HR.out]
      rfl
     | true =>
      have HR:Hid (RES=some ⟨c,n,t,V,L⟩):=zh (hEX.out.trans (if_pos hf))
      rw[hf]at HFM
      clear hf hEX HX
      go_wp2_with (go_at_call 64;refine(HFM.out _).mono ?_;rintro e w1 ⟨rfl,hb1⟩;clear e0 e1 e2 e3 e4;obtain⟨⟨e0,e1,e2,e3,e4⟩,⟨z0,z1,z2,z3,z4⟩,zf⟩:=HG8.out w1 hb1;have HX:=zh (hD.out.below (q_next HB7.out hb1));clear hb1)
      refine bodyPost_ret (results_cellA_tmp rfl _ w.heap.size 27 #[.int .i64 c,.int .i64 n,.int .i64 t,.string V,.string L] (0,0) _ rfl (vfive_heap HX.out.2.1 _ _ _ _ _) Tryz.underlying27 rfl infoVote) rfl ⟨?_,vfive_below HX.out.1 (Nat.le_refl _) _ _ _ _ _⟩
      rw[HR.out]
      rfl
    ·have HR:Hid (RES=none):=zh (HT.out.trans (if_neg (fun h=>h5 h.2.1)))
     have h64':((s.size:Int) != (p:Int)+64)=false:=by simp;omega
     have h64n:(s.size:Int)=(p:Int)+64:=by omega
     have h5':(a != 5)=true:=by simp[h5]
     have hw3:IntKind.i64.wrap ((p:Int)+64)=(p:Int)+64:=IntWalk.i64_in _ (by omega)
     clear HT
     go_wp2
     refine bodyPost_ret (results_cellA_tmp rfl _ w.heap.size 27 #[.int .i64 0,.int .i64 0,.int .i64 0,.string ⟨#[]⟩,.string ⟨#[]⟩] (0,0) _ rfl (vfive_heap HX.out.2.1 _ _ _ _ _) Tryz.underlying27 rfl infoVote) rfl ⟨?_,vfive_below HX.out.1 (Nat.le_refl _) _ _ _ _ _⟩
     rw[HR.out]
     rfl
   ·have HR:Hid (RES=none):=zh (HT.out.trans (if_neg (fun h=>h64 h.1)))
    have h64':((s.size:Int) != (p:Int)+64)=true:=by simp;omega
    have h64n:¬ (s.size:Int)=(p:Int)+64:=by omega
    have hw3:IntKind.i64.wrap ((p:Int)+64)=(p:Int)+64:=IntWalk.i64_in _ (by omega)
    clear HT
    go_wp2
    refine bodyPost_ret (results_cellA_tmp rfl _ w.heap.size 27 #[.int .i64 0,.int .i64 0,.int .i64 0,.string ⟨#[]⟩,.string ⟨#[]⟩] (0,0) _ rfl (vfive_heap HX.out.2.1 _ _ _ _ _) Tryz.underlying27 rfl infoVote) rfl ⟨?_,vfive_below HX.out.1 (Nat.le_refl _) _ _ _ _ _⟩
    rw[HR.out]
    rfl
set_option maxHeartbeats 1000000 in
theorem rvalid_any {w:World}{kv:Value}{ks:List ByteArray}(hr:SS w kv ks) :
  Calls Tryz.prog 59 #[.agg #[kv]] w fun e w'=>e=.returned (.bool (validC ks))∧Below w.heap.size w w':=by
 obtain⟨ka,kc,rfl,hkl,hkm,hk3⟩:=hr.opened
 have HK3:=zh hk3
 obtain⟨n,hn⟩:∃ n,n=ks.length:=⟨_,rfl⟩
 rw[← hn]at hkl ⊢
 have HN:=zh hn
 obtain⟨W1,hW1⟩:∃ W1,W1=w.alloc (.cells #[.slice ka n kc] 31):=⟨_,rfl⟩
 have HB1:Hid (Below w.heap.size w W1):=zh (by rw[hW1];exact br0.alloc (Nat.le_refl _) _)
 have c0:W1.cell? ⟨w.heap.size,0,none⟩=some (.slice ka n kc):=cell_of_row W1 _ 0 _ _ _ (by rw[hW1];exact heap_alloc_new w _)
 have HW1:=zh hW1
 obtain⟨ok,hok⟩:∃ ok,ok=decide (n=1∨n=4∨n=7):=⟨_,rfl⟩
 have HV:Hid (validC ks=(ok && ks.all isDig)):=zh (by rw[hok,hn];rfl)
 have HOK:=zh hok
 clear hk3 hn hW1 hkl hkm hr hok
 rw[HV.out]
 cases ok with
 | false =>
  have h:=of_decide_eq_false HOK.out.symm
  have h1:((n:Int) != 1)=true:=by simp;omega
  have h4:((n:Int) != 4)=true:=by simp;omega
  have h7:((n:Int) != 7)=true:=by simp;omega
  go_enter Tryz.func59,Tryz.ntmps59
  go_upto_region 1 with fail
  rw[← HW1.out]
  go_wp2
  go_ret
  exact⟨rfl,HB1.out⟩
 | true =>
  have h:=of_decide_eq_true HOK.out.symm
  have HD0:Hid ((ks.take 0).all isDig=true):=zh rfl
  go_enter Tryz.func59,Tryz.ntmps59
  go_upto_region 1 with fail
  rw[← HW1.out]
  rcases h with rfl | rfl | rfl
  ·
   go_wp2
   go_loopw [4] (fun i wr=>∃ k:Nat,k≤1∧i=.int .i64 k∧Hid ((ks.take k).all isDig=true)∧wr=W1) (fun i _=>1 - (intOf i).toNat)
   case atStart=>exact⟨0,by omega,rfl,HD0,rfl⟩
   case round =>
    obtain⟨k,hk,rfl,hD,rfl⟩:=hrel
    by_cases hlt:k < 1
    ·have tk:(k:Int) < 1:=by omega
     have tk0:(0:Int)≤(k:Int):=by omega
     obtain⟨s,es⟩:∃ s,ks[k]?=some s:=⟨_,List.getElem?_eq_getElem (by rw[← HN.out];exact hlt)⟩
     obtain⟨b,o,rfl,hb,hc⟩:=HK3.out k s es
     have kk:=cell_keepB HB1.out hb hc
     have HT:=zh (show(ks.take (k+1)).all isDig=((ks.take k).all isDig && isDig s) by rw[List.take_add_one,es,List.all_append];simp)
     by_cases hz:s.size=32
     ·go_wp2
      go_roundw
      case rel=>exact⟨k+1,by omega,by go_num,zh (by rw[HT.out,hD.out];exact decide_eq_true hz),by trivial⟩
      case measure=>simp[intOf];omega
     ·have hal:ks.all isDig=false:=by
       rw[List.all_eq_false]
       exact⟨s,List.mem_of_getElem? es,by unfold isDig;simp[hz]⟩
      have hz1:¬ (s.size:Int)=32:=by omega
      go_wp2
      go_ret
      exact⟨by rw[hal];rfl,HB1.out⟩
    ·obtain rfl:k=1:=by omega
     have hal:ks.all isDig=true:=by
      have:=hD.out
      rw[HN.out,List.take_length]at this
      exact this
     go_wp2
     go_ret
     exact⟨by rw[hal];rfl,HB1.out⟩
  ·
   go_wp2
   go_loopw [4] (fun i wr=>∃ k:Nat,k≤4∧i=.int .i64 k∧Hid ((ks.take k).all isDig=true)∧wr=W1) (fun i _=>4 - (intOf i).toNat)
   case atStart=>exact⟨0,by omega,rfl,HD0,rfl⟩
   case round =>
    obtain⟨k,hk,rfl,hD,rfl⟩:=hrel
    by_cases hlt:k < 4
    ·have tk:(k:Int) < 4:=by omega
     have tk0:(0:Int)≤(k:Int):=by omega
     obtain⟨s,es⟩:∃ s,ks[k]?=some s:=⟨_,List.getElem?_eq_getElem (by rw[← HN.out];exact hlt)⟩
     obtain⟨b,o,rfl,hb,hc⟩:=HK3.out k s es
     have kk:=cell_keepB HB1.out hb hc
     have HT:=zh (show(ks.take (k+1)).all isDig=((ks.take k).all isDig && isDig s) by rw[List.take_add_one,es,List.all_append];simp)
     by_cases hz:s.size=32
     ·go_wp2
      go_roundw
      case rel=>exact⟨k+1,by omega,by go_num,zh (by rw[HT.out,hD.out];exact decide_eq_true hz),by trivial⟩
      case measure=>simp[intOf];omega
     ·have hal:ks.all isDig=false:=by
       rw[List.all_eq_false]
       exact⟨s,List.mem_of_getElem? es,by unfold isDig;simp[hz]⟩
      have hz1:¬ (s.size:Int)=32:=by omega
      go_wp2
      go_ret
      exact⟨by rw[hal];rfl,HB1.out⟩
    ·obtain rfl:k=4:=by omega
     have hal:ks.all isDig=true:=by
      have:=hD.out
      rw[HN.out,List.take_length]at this
      exact this
     go_wp2
     go_ret
     exact⟨by rw[hal];rfl,HB1.out⟩
  ·
   go_wp2
   go_loopw [4] (fun i wr=>∃ k:Nat,k≤7∧i=.int .i64 k∧Hid ((ks.take k).all isDig=true)∧wr=W1) (fun i _=>7 - (intOf i).toNat)
   case atStart=>exact⟨0,by omega,rfl,HD0,rfl⟩
   case round =>
    obtain⟨k,hk,rfl,hD,rfl⟩:=hrel
    by_cases hlt:k < 7
    ·have tk:(k:Int) < 7:=by omega
     have tk0:(0:Int)≤(k:Int):=by omega
     obtain⟨s,es⟩:∃ s,ks[k]?=some s:=⟨_,List.getElem?_eq_getElem (by rw[← HN.out];exact hlt)⟩
     obtain⟨b,o,rfl,hb,hc⟩:=HK3.out k s es
     have kk:=cell_keepB HB1.out hb hc
     have HT:=zh (show(ks.take (k+1)).all isDig=((ks.take k).all isDig && isDig s) by rw[List.take_add_one,es,List.all_append];simp)
     by_cases hz:s.size=32
     ·go_wp2
      go_roundw
      case rel=>exact⟨k+1,by omega,by go_num,zh (by rw[HT.out,hD.out];exact decide_eq_true hz),by trivial⟩
      case measure=>simp[intOf];omega
     ·have hal:ks.all isDig=false:=by
       rw[List.all_eq_false]
       exact⟨s,List.mem_of_getElem? es,by unfold isDig;simp[hz]⟩
      have hz1:¬ (s.size:Int)=32:=by omega
      go_wp2
      go_ret
      exact⟨by rw[hal];rfl,HB1.out⟩
    ·obtain rfl:k=7:=by omega
     have hal:ks.all isDig=true:=by
      have:=hD.out
      rw[HN.out,List.take_length]at this
      exact this
     go_wp2
     go_ret
     exact⟨by rw[hal];rfl,HB1.out⟩
set_option maxHeartbeats 4000000 in
theorem rgen19_any {w:World}{kv:Value}{ks:List ByteArray}(hr:SS w kv ks)(hks:∀ k∈ks,k.size≤1000)(v:VoteP) :
  Calls Tryz.prog 22 #[.agg #[kv],vagg v] w fun e w'=>e=.returned (.bool (genuineV ks v))∧Below w.heap.size w w':=by
 obtain⟨ka,kc,rfl,hkl,hkm,hk3⟩:=hr.opened
 have HK3:=zh hk3
 have HKZ:=zh hks
 obtain⟨W1,hW1⟩:∃ W1,W1=w.alloc (.cells #[.slice ka ks.length kc] 31):=⟨_,rfl⟩
 have HB1:Hid (Below w.heap.size w W1):=zh (by rw[hW1];exact br0.alloc (Nat.le_refl _) _)
 have HX1:Hid (W1.heap[w.heap.size]?=some (.cells #[.slice ka ks.length kc] 31 (0,0))):=zh (by rw[hW1];exact heap_alloc_new w _)
 obtain⟨car,num,stp,val,sl⟩:=v
 obtain⟨W2,hW2⟩:∃ W2,W2=W1.alloc (.cells #[.int .i64 car,.int .i64 num,.int .i64 stp,.string val,.string sl] 27):=⟨_,rfl⟩
 have HB2:Hid (Below W1.heap.size W1 W2):=zh (by rw[hW2];exact br0.alloc (Nat.le_refl _) _)
 have HX2:Hid (W2.heap[W1.heap.size]?=some (.cells #[.int .i64 car,.int .i64 num,.int .i64 stp,.string val,.string sl] 27 (0,0))):=zh (by rw[hW2];exact heap_alloc_new W1 _)
 have hsz:W1.heap.size=w.heap.size+1:=by rw[hW1];simp
 have HB12:=zh (HB1.out.trans (HB2.out.mono HB1.out.size))
 rw[hsz]at HX2
 have HC:=zh (fun W (hW:Below W2.heap.size W2 W)=>And.intro (cell_of_row W _ 0 _ _ _ (((q_next HB2.out hW).block _ (ltA HX1.out)).trans HX1.out)) (vcellsAt ((hW.block _ (ltA HX2.out)).trans HX2.out)))
 have HRV:=zh (fun W (hW:Below W2.heap.size W2 W)=>rvalid_any (hr.below (q_next HB12.out hW)))
 have HRF:=zh (fun W=>rformed_any ⟨car,num,stp,val,sl⟩ W)
 have HW1:=zh hW1
 have HW2:=zh hW2
 clear hW1 hW2 hk3 hks hkl hkm
 simp only[vagg]at HRF ⊢
 obtain⟨bv,hbv⟩:∃ b,b=validC ks:=⟨_,rfl⟩
 obtain⟨bf,hbf⟩:∃ b,b=formedV ⟨car,num,stp,val,sl⟩:=⟨_,rfl⟩
 have HG:Hid (genuineV ks ⟨car,num,stp,val,sl⟩=(bv && (bf && decide (car < ks.length) && decide (sl=sealV (ks.getD car.toNat ⟨#[]⟩) ⟨car,num,stp,val,sl⟩)))):=zh (by rw[hbv,hbf];rfl)
 have HBF:=zh hbf
 rw[← hbv]at HRV
 rw[← hbf]at HRF
 rw[HG.out]
 clear hbv hbf HG hr
 cases bv with
 | false =>
  go_enter Tryz.func22,Tryz.ntmps22
  go_upto_region 1 with fail
  rw[← HW1.out,← HW2.out]
  refine wp_region_noPanic ?_
  refine wp_region_lexB [.q 0,.b 1,.q 2,.q 3,.q 4,.q 5,.q 6,.q 7,.q 8,.q 9,.q 10,.q 11,.q 12,.q 13,.q 14,.q 15,.q 16,.q 17,.q 18,.q 19,.q 20,.q 21,.q 22,.q 23,.q 24,.q 25,.q 26,.q 27,.q 28] (by kernel_rfl) (by kernel_rfl) (fun _ _ _ _ h=>h) ?_
  refine wpFl_qL (v:=?_) rfl (Or.inl ⟨by rfl,?_⟩) ?_
  rotate_left
  focus(intro w' hSw;obtain⟨c0,d0,d1,d2,d3,d4⟩:=HC.out w' hSw;go_simp;(try with_reducible rfl);done)
  simp only[Act.put,zzA,zzB,zzC]
  refine wpFl_bL rfl (fun waa hnaa hsaa K hK=>?_)
  go_simp
  go_at_call 59
  (with_reducible refine(HRV.out _ hsaa).mono ?_)
  rintro e wba ⟨rfl,hba⟩
  have HBF2:=zh (q_next hsaa hba)
  refine hK.out _ _ (q_next hsaa hba) (Keeps.below hba) ?_
  clear hK K hnaa hsaa
  refine wpFl_qL (v:=?_) rfl (Or.inl ⟨by rfl,?_⟩) ?_
  rotate_left
  focus(intro w' hSw;go_simp;(try with_reducible rfl);done)
  simp only[Act.put,zzA,zzB,zzC]
  iterate 2(refine wpFl_qL (v:=undef) rfl (Or.inr ⟨by rfl,rfl⟩) ?_;simp only[Act.put,zzA,zzB,zzC])
  iterate 2(refine wpFl_qL (v:=?_) rfl (Or.inl ⟨by rfl,?_⟩) ?_;rotate_left;(focus(intro w' hSw;go_simp;(try with_reducible rfl);done));simp only[Act.put,zzA,zzB,zzC])
  iterate 6(refine wpFl_qL (v:=undef) rfl (Or.inr ⟨by rfl,rfl⟩) ?_;simp only[Act.put,zzA,zzB,zzC])
  iterate 2(refine wpFl_qL (v:=?_) rfl (Or.inl ⟨by rfl,?_⟩) ?_;rotate_left;(focus(intro w' hSw;go_simp;(try with_reducible rfl);done));simp only[Act.put,zzA,zzB,zzC])
  iterate 12(refine wpFl_qL (v:=undef) rfl (Or.inr ⟨by rfl,rfl⟩) ?_;simp only[Act.put,zzA,zzB,zzC])
  iterate 2(refine wpFl_qL (v:=?_) rfl (Or.inl ⟨by rfl,?_⟩) ?_;rotate_left;(focus(intro w' hSw;go_simp;(try with_reducible rfl);done));simp only[Act.put,zzA,zzB,zzC])
  refine wpFl_nil ?_
  refine NoPanic.normal ?_
  go_wp2
  go_ret
  exact⟨rfl,q_next HB12.out HBF2.out⟩
 | true =>
 cases bf with
 | false =>
  go_enter Tryz.func22,Tryz.ntmps22
  go_upto_region 1 with fail
  rw[← HW1.out,← HW2.out]
  refine wp_region_noPanic ?_
  refine wp_region_lexB [.q 0,.b 1,.q 2,.q 3,.b 4,.q 5,.q 6,.q 7,.q 8,.q 9,.q 10,.q 11,.q 12,.q 13,.q 14,.q 15,.q 16,.q 17,.q 18,.q 19,.q 20,.q 21,.q 22,.q 23,.q 24,.q 25,.q 26,.q 27,.q 28] (by kernel_rfl) (by kernel_rfl) (fun _ _ _ _ h=>h) ?_
  refine wpFl_qL (v:=?_) rfl (Or.inl ⟨by rfl,?_⟩) ?_
  rotate_left
  focus(intro w' hSw;obtain⟨c0,d0,d1,d2,d3,d4⟩:=HC.out w' hSw;go_simp;(try with_reducible rfl);done)
  simp only[Act.put,zzA,zzB,zzC]
  refine wpFl_bL rfl (fun waa hnaa hsaa K hK=>?_)
  go_simp
  go_at_call 59
  (with_reducible refine(HRV.out _ hsaa).mono ?_)
  rintro e wba ⟨rfl,hba⟩
  have HBF2:=zh (q_next hsaa hba)
  refine hK.out _ _ (q_next hsaa hba) (Keeps.below hba) ?_
  clear hK K hnaa hsaa
  iterate 2(refine wpFl_qL (v:=?_) rfl (Or.inl ⟨by rfl,?_⟩) ?_;rotate_left;(focus(intro w' hSw;obtain⟨c0,d0,d1,d2,d3,d4⟩:=HC.out w' hSw;go_simp;(try with_reducible rfl);done));simp only[Act.put,zzA,zzB,zzC])
  refine wpFl_bL rfl (fun wab hnab hsab K hK=>?_)
  go_simp
  go_at_call 64
  (with_reducible refine(HRF.out _).mono ?_)
  rintro e wbb ⟨rfl,hbb⟩
  have HBF3:=zh (q_next hsab hbb)
  refine hK.out _ _ (q_next hsab hbb) (Keeps.below hbb) ?_
  clear hK K hnab hsab
  iterate 2(refine wpFl_qL (v:=?_) rfl (Or.inl ⟨by rfl,?_⟩) ?_;rotate_left;(focus(intro w' hSw;go_simp;(try with_reducible rfl);done));simp only[Act.put,zzA,zzB,zzC])
  iterate 6(refine wpFl_qL (v:=undef) rfl (Or.inr ⟨by rfl,rfl⟩) ?_;simp only[Act.put,zzA,zzB,zzC])
  iterate 2(refine wpFl_qL (v:=?_) rfl (Or.inl ⟨by rfl,?_⟩) ?_;rotate_left;(focus(intro w' hSw;go_simp;(try with_reducible rfl);done));simp only[Act.put,zzA,zzB,zzC])
  iterate 12(refine wpFl_qL (v:=undef) rfl (Or.inr ⟨by rfl,rfl⟩) ?_;simp only[Act.put,zzA,zzB,zzC])
  iterate 2(refine wpFl_qL (v:=?_) rfl (Or.inl ⟨by rfl,?_⟩) ?_;rotate_left;(focus(intro w' hSw;go_simp;(try with_reducible rfl);done));simp only[Act.put,zzA,zzB,zzC])
  refine wpFl_nil ?_
  refine NoPanic.normal ?_
  go_wp2
  go_ret
  exact⟨rfl,q_next HB12.out HBF3.out⟩
 | true =>
  have HS:=zh (small_formed HBF.out.symm)
  obtain⟨h0,h7⟩:=HS.out.1
  simp only at h0 h7
  by_cases hlt:car < ks.length
  ·obtain⟨c,rfl⟩:=Int.eq_ofNat_of_zero_le h0
   have hlt2:c < ks.length:=by omega
   obtain⟨key,hk⟩:∃ k,ks[c]?=some k:=⟨_,List.getElem?_eq_getElem hlt2⟩
   obtain⟨kb,ko,rfl,hkb,hkc⟩:=HK3.out c key hk
   have hkz:=HKZ.out key (List.mem_of_getElem? hk)
   have HKK:=zh (fun W (hW:Below W2.heap.size W2 W)=>cell_keepB (q_next HB12.out hW) hkb hkc)
   have HCO:=zh (fun W=>rcontent_any ⟨(c:Int),num,stp,val,sl⟩ HS.out W)
   have hz:=voteC_le HS.out.2.2.2
   have hcv:sealV (ks.getD (Int.toNat (c:Int)) ⟨#[]⟩) ⟨(c:Int),num,stp,val,sl⟩=nodeS key (leafS (voteC ⟨(c:Int),num,stp,val,sl⟩)):=by
    rw[Int.toNat_natCast,List.getD_eq_getElem?_getD,hk]
    rfl
   rw[hcv,decide_eq_true hlt]
   generalize voteC ⟨(c:Int),num,stp,val,sl⟩=C at *
   have HSE:=zh (fun W=>rseal_any key C hkz (by omega) W)
   generalize nodeS key (leafS C)=S at *
   have hss:=same_str sl S
   obtain⟨ee,hee⟩:∃ ee,ee=decide (sl=S):=⟨_,rfl⟩
   rw[← hee]at hss ⊢
   have tc0:(0:Int)≤(c:Int):=by omega
   have tcl:(c:Int) < (ks.length:Int):=by omega
   clear hee hcv hk hkb hkc hlt hlt2 HS h0 h7 HK3 HKZ HBF
   go_enter Tryz.func22,Tryz.ntmps22
   go_upto_region 1 with fail
   rw[← HW1.out,← HW2.out]
   refine wp_region_noPanic ?_
   refine wp_region_lexB [.q 0,.b 1,.q 2,.q 3,.b 4,.q 5,.q 6,.q 7,.q 8,.q 9,.q 10,.q 11,.q 12,.q 13,.q 14,.q 15,.q 16,.q 17,.q 18,.q 19,.q 20,.q 21,.q 22,.q 23,.b 24,.b 25,.q 26,.q 27,.q 28] (by kernel_rfl) (by kernel_rfl) (fun _ _ _ _ h=>h) ?_
   refine wpFl_qL (v:=?_) rfl (Or.inl ⟨by rfl,?_⟩) ?_
   rotate_left
   focus(intro w' hSw;obtain⟨c0,d0,d1,d2,d3,d4⟩:=HC.out w' hSw;go_simp;(try with_reducible rfl);done)
   simp only[Act.put,zzA,zzB,zzC]
   refine wpFl_bL rfl (fun waa hnaa hsaa K hK=>?_)
   go_simp
   go_at_call 59
   (with_reducible refine(HRV.out _ hsaa).mono ?_)
   rintro e wba ⟨rfl,hba⟩
   have HBF2:=zh (q_next hsaa hba)
   refine hK.out _ _ (q_next hsaa hba) (Keeps.below hba) ?_
   clear hK K hnaa hsaa
   iterate 2(refine wpFl_qL (v:=?_) rfl (Or.inl ⟨by rfl,?_⟩) ?_;rotate_left;(focus(intro w' hSw;obtain⟨c0,d0,d1,d2,d3,d4⟩:=HC.out w' hSw;go_simp;(try with_reducible rfl);done));simp only[Act.put,zzA,zzB,zzC])
   refine wpFl_bL rfl (fun wab hnab hsab K hK=>?_)
   go_simp
   go_at_call 64
   (with_reducible refine(HRF.out _).mono ?_)
   rintro e wbb ⟨rfl,hbb⟩
   have HBF3:=zh (q_next hsab hbb)
   refine hK.out _ _ (q_next hsab hbb) (Keeps.below hbb) ?_
   clear hK K hnab hsab
   iterate 19(refine wpFl_qL (v:=?_) rfl (Or.inl ⟨by rfl,?_⟩) ?_;rotate_left;(focus(intro w' hSw;obtain⟨c0,d0,d1,d2,d3,d4⟩:=HC.out w' hSw;have kk:=HKK.out w' hSw;go_simp;(try with_reducible rfl);done));simp only[Act.put,zzA,zzB,zzC])
   refine wpFl_bL rfl (fun wac hnac hsac K hK=>?_)
   go_simp
   go_at_call 40
   (with_reducible refine(HCO.out _).mono ?_)
   rintro e wbc ⟨rfl,hbc⟩
   refine hK.out _ _ (q_next hsac hbc) (Keeps.below hbc) ?_
   clear hK K hnac hsac
   refine wpFl_bL rfl (fun wad hnad hsad K hK=>?_)
   go_simp
   go_at_call 56
   (with_reducible refine(HSE.out _).mono ?_)
   rintro e wbd ⟨rfl,hbd⟩
   have HBF4:=zh (q_next hsad hbd)
   refine hK.out _ _ (q_next hsad hbd) (Keeps.below hbd) ?_
   clear hK K hnad hsad
   iterate 3(refine wpFl_qL (v:=?_) rfl (Or.inl ⟨by rfl,?_⟩) ?_;rotate_left;(focus(intro w' hSw;go_simp;(try with_reducible rfl);done));simp only[Act.put,zzA,zzB,zzC])
   refine wpFl_nil ?_
   refine NoPanic.normal ?_
   go_wp2
   go_ret
   exact⟨by cases ee <;> rfl,q_next HB12.out HBF4.out⟩
  ·rw[decide_eq_false hlt]
   go_enter Tryz.func22,Tryz.ntmps22
   go_upto_region 1 with fail
   rw[← HW1.out,← HW2.out]
   refine wp_region_noPanic ?_
   refine wp_region_lexB [.q 0,.b 1,.q 2,.q 3,.b 4,.q 5,.q 6,.q 7,.q 8,.q 9,.q 10,.q 11,.q 12,.q 13,.q 14,.q 15,.q 16,.q 17,.q 18,.q 19,.q 20,.q 21,.q 22,.q 23,.q 24,.q 25,.q 26,.q 27,.q 28] (by kernel_rfl) (by kernel_rfl) (fun _ _ _ _ h=>h) ?_
   refine wpFl_qL (v:=?_) rfl (Or.inl ⟨by rfl,?_⟩) ?_
   rotate_left
   focus(intro w' hSw;obtain⟨c0,d0,d1,d2,d3,d4⟩:=HC.out w' hSw;go_simp;(try with_reducible rfl);done)
   simp only[Act.put,zzA,zzB,zzC]
   refine wpFl_bL rfl (fun waa hnaa hsaa K hK=>?_)
   go_simp
   go_at_call 59
   (with_reducible refine(HRV.out _ hsaa).mono ?_)
   rintro e wba ⟨rfl,hba⟩
   have HBF2:=zh (q_next hsaa hba)
   refine hK.out _ _ (q_next hsaa hba) (Keeps.below hba) ?_
   clear hK K hnaa hsaa
   iterate 2(refine wpFl_qL (v:=?_) rfl (Or.inl ⟨by rfl,?_⟩) ?_;rotate_left;(focus(intro w' hSw;obtain⟨c0,d0,d1,d2,d3,d4⟩:=HC.out w' hSw;go_simp;(try with_reducible rfl);done));simp only[Act.put,zzA,zzB,zzC])
   refine wpFl_bL rfl (fun wab hnab hsab K hK=>?_)
   go_simp
   go_at_call 64
   (with_reducible refine(HRF.out _).mono ?_)
   rintro e wbb ⟨rfl,hbb⟩
   have HBF3:=zh (q_next hsab hbb)
   refine hK.out _ _ (q_next hsab hbb) (Keeps.below hbb) ?_
   clear hK K hnab hsab
   iterate 10(refine wpFl_qL (v:=?_) rfl (Or.inl ⟨by rfl,?_⟩) ?_;rotate_left;(focus(intro w' hSw;obtain⟨c0,d0,d1,d2,d3,d4⟩:=HC.out w' hSw;go_simp;(try with_reducible rfl);done));simp only[Act.put,zzA,zzB,zzC])
   iterate 12(refine wpFl_qL (v:=undef) rfl (Or.inr ⟨by rfl,rfl⟩) ?_;simp only[Act.put,zzA,zzB,zzC])
   iterate 2(refine wpFl_qL (v:=?_) rfl (Or.inl ⟨by rfl,?_⟩) ?_;rotate_left;(focus(intro w' hSw;go_simp;(try with_reducible rfl);done));simp only[Act.put,zzA,zzB,zzC])
   refine wpFl_nil ?_
   refine NoPanic.normal ?_
   go_wp2
   go_ret
   exact⟨rfl,q_next HB12.out HBF3.out⟩
end Go.Proofs.YtggdcnjaofflbaaGreatDoor
