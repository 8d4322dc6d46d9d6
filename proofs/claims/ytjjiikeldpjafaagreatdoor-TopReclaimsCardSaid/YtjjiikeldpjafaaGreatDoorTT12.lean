/- The reference's SHA-256: the bytes that are added. The condition: the length. -/
import Derived.Test.YtjjiikeldpjafaaGreatDoorTT11
import Derived.Deep.DeepCutAuto
namespace Go.Proofs.YtjjiikeldpjafaaGreatDoor
open Go.RowKit Go.BigFrame
theorem bytesS_get (s:ByteArray)(k:Nat)(h:k < s.size):(bytesS s)[k]?=some s[k].toNat:=by
 unfold bytesS
 rw[List.getElem?_map,Array.getElem?_toList,Array.getElem?_eq_getElem h]
 rfl
theorem take_snoc {α:Type}{l:List α}{k:Nat}{x:α}(h:l[k]?=some x):l.take (k+1)=l.take k++[x]:=by
 rw[List.take_add_one,h];rfl
theorem zeros_test (n j:Nat)(hj:j≤zerosN n):((n+1+j) % 64=56) ↔ j=zerosN n:=by
 unfold zerosN at *
 omega
theorem zeros_le (n:Nat):zerosN n≤63:=by unfold zerosN;omega
theorem lenBytes_take (n m:Nat)(h:m < 8):(lenBytes n).take (m+1)=(lenBytes n).take m++[8*n / 2 ^ (8*(7 - m)) % 256]:=take_snoc (lenBytes_get n m h)
theorem OwnB.form {w:World}{base:Nat}{v:Value}{l:List Nat}(h:OwnB w base v l):∃ a n cap,v=.slice a n cap∧n=l.length:=by
 obtain⟨a,c,e⟩:=OwnE.form h
 exact⟨a,_,c,e,bcells_len l⟩
theorem OwnW.form {w:World}{base:Nat}{v:Value}{l:List Nat}(h:OwnW w base v l):∃ a n cap,v=.slice a n cap∧n=l.length:=by
 obtain⟨a,c,e⟩:=OwnE.form h
 exact⟨a,_,c,e,wcells_len l⟩
set_option maxHeartbeats 4000000 in
set_option maxRecDepth 100000 in
theorem extended_any (s:ByteArray)(w:World)(hs:s.size≤1000000000) :
  Calls Tryz.prog 71 #[.string s] w fun e w'=>∃ v,e=.returned v∧OwnB w' w.heap.size v (padN (bytesS s))∧Below w.heap.size w w':=by
 have HL:Hid ((bytesS s).length=s.size):=zh (bytesS_length s)
 obtain⟨R,hR⟩:∃ R,R=padN (bytesS s):=⟨_,rfl⟩
 rw[← hR]
 have HR:=zh hR
 clear hR
 go_enter Tryz.func71,Tryz.ntmps71
 go_wp2
 go_loopw [3,4] (fun v i wr=>∃ k:Nat,k≤s.size∧i=.int .i64 k∧Hid (OwnB wr w.heap.size v ((bytesS s).take k))∧Hid (Below w.heap.size w wr)) (fun _ i _=>s.size - (intOf i).toNat)
 case atStart=>exact⟨0,by omega,rfl,zh (OwnE.nil _ _ _ _),zh br0⟩
 case round =>
  obtain⟨k,hk,rfl,hO,hB⟩:=hrel
  obtain⟨va,vn,vc,hv,hvn⟩:=OwnB.form hO.out
  subst hv
  have HVN:=zh hvn
  clear hvn
  by_cases hlt:k < s.size
  ·have t1:(k:Int) < (s.size:Int):=by omega
   have HT:=zh (take_snoc (bytesS_get s k hlt))
   have HX:Hid (((bytesS s).take k).length≤1100000000):=zh (by rw[List.length_take];omega)
   generalize (bytesS s).take k=X at *
   have hsz:=hB.out.size
   have HOA:Hid (OwnB (wr.alloc (.cells #[.int .u8 (s[k].toNat:Nat)] 5)) w.heap.size (.slice va vn vc) X):=zh (OwnE.alloc hO.out _)
   have HNA:=zh (heap_alloc_new wr (.cells #[.int .u8 (s[k].toNat:Nat)] 5))
   have HBA:=zh (hB.out.alloc hsz (.cells #[.int .u8 (s[k].toNat:Nat)] 5))
   go_wp2_with (at_builtin;refine wpList_append_byte _ _ w.heap.size _ X wr.heap.size _ s[k].toNat rfl _ HOA.out HX.out HBA.out.size HNA.out rfl rfl rfl rfl ?_;intro v7 w7 hown7 hgr7;have HO7:=zh hown7;have HB7:=zh (HBA.out.grown hgr7 HBA.out.size (fun j e=>OwnE.ge HOA.out j e));clear hown7 hgr7)
   go_roundw
   case rel =>
    refine⟨k+1,by omega,by go_num,?_,HB7⟩
    rw[HT.out]
    exact HO7
   case measure=>simp[intOf];omega
  ·have ek:k=s.size:=by omega
   have HF:Hid ((bytesS s).take k=bytesS s):=zh (by rw[ek,← HL.out,List.take_length])
   rw[HF.out]at hO HVN
   have HP:Hid (R=(bytesS s++128::List.replicate (zerosN (bytesS s).length) 0)++lenBytes (bytesS s).length):=zh (HR.out.trans (padN_eq _))
   have HLE:=zh (zeros_le (bytesS s).length)
   have HZT:=zh (zeros_test (bytesS s).length)
   have HLB:=zh (lenBytes_take (bytesS s).length)
   have HL8:Hid (lenBytes (bytesS s).length=(lenBytes (bytesS s).length).take 8):=zh rfl
   have HL0:Hid ((lenBytes (bytesS s).length).take 0=[]):=zh rfl
   rw[HL.out]at HP HLE HZT HLB HL8 HL0
   have t1:¬ (k:Int) < (s.size:Int):=by omega
   obtain⟨n,hn⟩:∃ n,n=s.size:=⟨_,rfl⟩
   rw[← hn]at HP HLE HZT HLB HL8 HL0 HL
   have HNn:=zh hn
   have hn9:n≤1000000000:=by omega
   have HXl:Hid (((bytesS s).length≤1100000000)):=zh (by rw[HL.out];omega)
   clear HF hn HR
   generalize bytesS s=X at *
   generalize lenBytes n=LB at *
   generalize zerosN n=Z at *
   have hsz:=hB.out.size
   have HOA:Hid (OwnB (wr.alloc (.cells #[.int .u8 ((128:Nat):Int)] 5)) w.heap.size (.slice va vn vc) X):=zh (OwnE.alloc hO.out _)
   have HNA:=zh (heap_alloc_new wr (.cells #[.int .u8 ((128:Nat):Int)] 5))
   have HBA:=zh (hB.out.alloc hsz (.cells #[.int .u8 ((128:Nat):Int)] 5))
   go_wp2_with (at_builtin;refine wpList_append_byte _ _ w.heap.size _ X wr.heap.size _ 128 rfl _ HOA.out HXl.out HBA.out.size HNA.out rfl rfl rfl rfl ?_;intro v7 w7 hown7 hgr7;have HO7:Hid (OwnB w7 w.heap.size v7 (X++[128])):=zh hown7;have HB7:=zh (HBA.out.grown hgr7 HBA.out.size (fun j e=>OwnE.ge HOA.out j e));clear hown7 hgr7)
   rw[HL.out]at HVN
   obtain⟨va7,vn7,vc7,hv7,hvn7⟩:=OwnB.form HO7.out
   have HO8:Hid (OwnB w7 w.heap.size v7 (X++128::List.replicate 0 0)):=HO7
   have hZ63:=HLE.out
   subst hv7
   clear hvn7
   clear hO hB HOA HNA HBA HO7
   go_loopw [3] (fun v wr=>∃ j:Nat,j≤Z∧Hid (OwnB wr w.heap.size v (X++128::List.replicate j 0))∧Hid (Below w.heap.size w wr)) (fun v _=>65+n - vlen v)
   case atStart=>exact⟨0,by omega,HO8,HB7⟩
   case round =>
    obtain⟨j,hj,hO,hB⟩:=hrel
    obtain⟨va,vn,vc,hv,hvn⟩:=OwnB.form hO.out
    replace hvn:vn=n+1+j:=by
     rw[hvn,List.length_append,List.length_cons,List.length_replicate,HL.out];omega
    subst hv
    have hz:=HZT.out j hj
    have HXS:Hid ((X++128::List.replicate j 0).length≤1100000000):=zh (by rw[List.length_append,List.length_cons,List.length_replicate,HL.out];omega)
    have HRS:Hid ((X++128::List.replicate j 0)++[0]=X++128::List.replicate (j+1) 0):=zh (by
     rw[List.append_assoc,List.cons_append,← List.replicate_succ'])
    have HVN:=zh hvn
    obtain⟨XS,hXS⟩:∃ XS,XS=X++128::List.replicate j 0:=⟨_,rfl⟩
    rw[← hXS]at hO HXS HRS
    have HXE:=zh hXS
    clear hXS
    have hsz:=hB.out.size
    by_cases hjz:j=Z
    ·have e56:(vn:Int) % 64=56:=by have:=hz.2 hjz;omega
     clear hz hvn
     have HRZ:Hid (R=XS++LB.take 8):=zh (by rw[HP.out,HXE.out,hjz,← HL8.out])
     have HO9:Hid (OwnB wr w.heap.size (.slice va vn vc) (XS++LB.take 0)):=zh (by rw[HL0.out,List.append_nil];exact hO.out)
     have HXT:Hid (∀ k,(XS++LB.take k).length≤1100000000):=zh (fun k=>by
      rw[HXE.out,List.length_append,List.length_append,List.length_cons,List.length_replicate,HL.out]
      have:(LB.take k).length≤8:=by rw[HL8.out,List.take_take,List.length_take];omega
      omega)
     have HL9:=zh (fun m h=>congrArg (XS++·) (HLB.out m h))
     clear HP HL8 HL0 HRS HXE HXS hO HVN hsz HLB HXl HL hjz hj
     go_wp2
     clear e56
     go_loopw [3,5] (fun v i wr=>∃ k:Nat,k≤8∧i=.int .i64 (7 - (k:Int))∧Hid (OwnB wr w.heap.size v (XS++LB.take k))∧Hid (Below w.heap.size w wr)) (fun _ i _=>(intOf i+1).toNat)
     case atStart=>exact⟨0,by omega,by go_num,HO9,hB⟩
     case round =>
      clear HO9 hB
      obtain⟨k,hk,rfl,hO,hB⟩:=hrel
      obtain⟨va,vn,vc,hv,hvn⟩:=OwnB.form hO.out
      subst hv
      clear hvn
      have hsz:=hB.out.size
      by_cases h8:k < 8
      ·obtain⟨j,hj⟩:∃ j:Nat,j=7 - k:=⟨_,rfl⟩
       have ej:(7:Int) - (k:Int)=(j:Int):=by omega
       have HJ:=zh hj
       have tj:(0:Int)≤(j:Int):=by omega
       obtain⟨t,ht⟩:∃ t,t=8*n / 2 ^ (8*(7 - k)):=⟨_,rfl⟩
       have f1:IntKind.i64.wrap (8*(s.size:Int))=8*(s.size:Int):=IntWalk.i64_in _ (by omega)
       have f2:IntKind.i64.wrap (8*(j:Int))=((8*j:Nat):Int):=by rw[IntWalk.i64_in _ (by omega)];omega
       obtain⟨j8,hj8⟩:∃ j8,j8=8*j:=⟨_,rfl⟩
       rw[← hj8]at f2
       have tj8:(0:Int)≤(j8:Int):=by omega
       have f3:(8*(s.size:Int)) / 2 ^ min j8 64=(t:Int):=by
        rw[ht,hj8,hj,Int.natCast_ediv,Int.natCast_pow,HNn.out,Nat.min_eq_left (by omega)];rfl
       have HT:=zh (HL9.out k h8)
       rw[← ht]at HT
       have HXk:=zh (HXT.out k)
       rw[ej]
       clear ht hj hj8
       have HOA:Hid (OwnB (wr.alloc (.cells #[.int .u8 ((t:Int) % 256)] 5)) w.heap.size (.slice va vn vc) (XS++LB.take k)):=zh (OwnE.alloc hO.out _)
       have HNA:=zh (heap_alloc_new wr (.cells #[.int .u8 ((t:Int) % 256)] 5))
       have HBA:=zh (hB.out.alloc hsz (.cells #[.int .u8 ((t:Int) % 256)] 5))
       have HYY:Hid ((t:Int) % 256=((t % 256:Nat):Int)):=zh (by omega)
       have HTT:Hid ((XS++LB.take k)++[t % 256]=XS++LB.take (k+1)):=zh (by rw[HT.out,List.append_assoc])
       clear hO
       generalize XS++LB.take k=XK at *
       go_wp2_with (at_builtin;refine wpList_append_byte _ _ w.heap.size _ XK wr.heap.size _ (t % 256) HYY.out _ HOA.out HXk.out HBA.out.size HNA.out rfl rfl rfl rfl ?_;intro v7 w7 hown7 hgr7;have HO7:=zh hown7;have HB7:=zh (HBA.out.grown hgr7 HBA.out.size (fun j e=>OwnE.ge HOA.out j e));clear hown7 hgr7)
       have hj1:=HJ.out
       go_roundw
       case rel =>
        refine⟨k+1,by omega,?_,?_,HB7⟩
        ·congr 1;omega
        ·rw[← HTT.out]
         exact HO7
       case measure=>simp[intOf]
      ·have ek8:k=8:=by omega
       have ej:(7:Int) - (k:Int)=-1:=by omega
       rw[ej]
       rw[ek8,← HRZ.out]at hO
       clear ek8
       go_wp2
       go_ret
       exact⟨_,rfl,hO.out,hB.out⟩
    ·have e56:((vn:Int) % 64 != 56)=true:=by
      have:¬ (n+1+j) % 64=56:=fun h=>hjz (hz.1 h)
      simp only[bne_iff_ne,ne_eq]
      omega
     clear hz hvn
     have HOA:Hid (OwnB (wr.alloc (.cells #[.int .u8 ((0:Nat):Int)] 5)) w.heap.size (.slice va vn vc) XS):=zh (OwnE.alloc hO.out _)
     have HNA:=zh (heap_alloc_new wr (.cells #[.int .u8 ((0:Nat):Int)] 5))
     have HBA:=zh (hB.out.alloc hsz (.cells #[.int .u8 ((0:Nat):Int)] 5))
     go_wp2_with (at_builtin;refine wpList_append_byte _ _ w.heap.size _ XS wr.heap.size _ 0 rfl _ HOA.out HXS.out HBA.out.size HNA.out rfl rfl rfl rfl ?_;intro v7 w7 hown7 hgr7;have HO7:=zh hown7;have HB7:=zh (HBA.out.grown hgr7 HBA.out.size (fun j e=>OwnE.ge HOA.out j e));clear hown7 hgr7)
     go_roundw
     case rel =>
      refine⟨j+1,by omega,?_,HB7⟩
      rw[← HRS.out]
      exact HO7
     case measure =>
      obtain⟨va8,vn8,vc8,hv8,hvn8⟩:=OwnB.form HO7.out
      subst hv8
      have h1:vn8=n+1+j+1:=by rw[hvn8,List.length_append,HXE.out,List.length_append,List.length_cons,List.length_replicate,HL.out];simp;omega
      have h2:=HVN.out
      simp[vlen];omega
section
variable {ops:Array Oper} {rest:List Oper} {o:Oper} {a:Act} {w:World} {Q:Exit→Act→World→Prop}
theorem wpList_append_words (s x:Operand)(base:Nat)(v:Value)(xs ys:List Nat)(vy:Value)(hown:OwnW w base v xs)(hy:WS w vy ys)(hy0:0 < ys.length)(hlen:xs.length+ys.length≤100000)(hbase:base≤w.heap.size)
  (hgd:o.guard=none) (ho:o.op=.call { callee:=.builtin .append,args:=#[s,x],argTypes:=#[157,157] }) (hs:a.eval s=v) (hx:a.eval x=vy)
  (h:∀ v' w',OwnW w' base v' (xs++ys)→w.grownBy w' v.ownBlock→wpList Tryz.prog ops Q rest (a.put o.dst v') w'):wpList Tryz.prog ops Q (o::rest) a w:=by
 obtain⟨b,off,cap,rfl,_,_,_,hc⟩:=hy.opened hy0
 obtain⟨i,i1,i2,i3,i4⟩:=info_parts infoU32
 refine wpList_append_own w hgd s x 157 ho base 156 i _ 1 4 (by kernel_rfl) i1 i2 i3 i4 rfl (by decide) v _ _ hs hown ⟨b,off,none⟩ ys.length cap (wcells ys).flatten hx (by rw[wcells_flat];simp) ?_ ?_ (by rw[wcells_len];unfold maxLen;omega) (by rw[wcells_len];omega) hbase ?_
 ·intro j u hj
  rw[wcells_flat,List.getElem?_map]at hj
  obtain⟨y,hy,rfl⟩:=Option.map_eq_some_iff.1 hj
  rw[Addr.add_mid]
  exact hc j y hy
 ·intro u hu
  rw[wcells_flat]at hu
  obtain⟨y,_,rfl⟩:=List.mem_map.1 hu
  rfl
 ·intro v' w' h1 h2 _
  refine h v' w' ?_ h2
  unfold OwnW OwnE
  have e:wcells (xs++ys)=wcells xs++wcells ys:=by unfold wcells;rw[List.map_append]
  rw[e,List.length_append,List.flatten_append,wcells_len ys]
  exact h1
end
theorem sg0_int (x:Nat)(hx:x < 4294967296):bits BinOp.xor IntKind.u32 (bits BinOp.xor IntKind.u32 (rotr x 7:Nat) (rotr x 18:Nat)) ((x:Int) / 8)=((sg0 x:Nat):Int):=by
 have e1:(x:Int) / 8=((x / 8:Nat):Int):=by omega
 rw[e1,u32_xor_nat _ _ (rotr_lt _ _ hx) (rotr_lt _ _ hx),u32_xor_nat _ _ (xor_lt (rotr_lt _ _ hx) (rotr_lt _ _ hx)) (by omega)]
 rfl
theorem sg1_int (x:Nat)(hx:x < 4294967296):bits BinOp.xor IntKind.u32 (bits BinOp.xor IntKind.u32 (rotr x 17:Nat) (rotr x 19:Nat)) ((x:Int) / 1024)=((sg1 x:Nat):Int):=by
 have e1:(x:Int) / 1024=((x / 1024:Nat):Int):=by omega
 rw[e1,u32_xor_nat _ _ (rotr_lt _ _ hx) (rotr_lt _ _ hx),u32_xor_nat _ _ (xor_lt (rotr_lt _ _ hx) (rotr_lt _ _ hx)) (by omega)]
 rfl
theorem sg0_lt (x:Nat)(hx:x < 4294967296):sg0 x < 4294967296:=xor_lt (xor_lt (rotr_lt _ _ hx) (rotr_lt _ _ hx)) (by omega)
theorem sg1_lt (x:Nat)(hx:x < 4294967296):sg1 x < 4294967296:=xor_lt (xor_lt (rotr_lt _ _ hx) (rotr_lt _ _ hx)) (by omega)
theorem addH_get (H Y:H8)(k:Nat)(hk:k < 8):(hl (addH H Y))[k]?=some ((lg (hl H) k+lg (hl Y) k) % 4294967296):=by
 match k,hk with
 | 0,_ | 1,_ | 2,_ | 3,_ | 4,_ | 5,_ | 6,_ | 7,_=>rfl
theorem hl_get (H:H8)(k:Nat)(hk:k < 8):(hl H)[k]?=some (lg (hl H) k):=getD_lt (by rw[show(hl H).length=8 from rfl];exact hk)
set_option maxHeartbeats 8000000 in
set_option maxRecDepth 100000 in
theorem block_any {w:World}{vh vb:Value}{H:H8}{l:List Nat}(hh:WS w vh (hl H))(h32:H32 H)(hb:SliceAt w vb 1 (bcells l))(hl64:l.length=64)(h8:∀ x∈l,x < 256) :
  Calls Tryz.prog 72 #[vh,vb] w fun e w'=>∃ v,e=.returned v∧WS w' v (hl (blockH H l))∧Below w.heap.size w w':=by
 obtain⟨gh,oh,ch,rfl,q1,q2,hgh,q3⟩:=hh.opened (by simp[hl])
 obtain⟨gb,ob,cb,rfl,p1,p2,hgb,p3⟩:=hb.bcell' (by omega)
 have HH3:=zh q3
 have HB3:=zh p3
 have HHW:=zh hh
 have H8:=zh h8
 have HL:=zh hl64
 have H32':=zh h32
 have e8:(hl H).length=8:=rfl
 rw[e8]at q1 ⊢
 rw[hl64]at p1 ⊢
 unfold maxLen at q2 p2
 obtain⟨W,hW⟩:∃ W,W=sched l:=⟨_,rfl⟩
 have HS0:Hid (W=upW (first16 l) 48):=zh (by rw[hW];exact schedF_up _ _)
 have HWL:Hid (W.length=64):=zh (by rw[hW];exact sched_length l)
 have HW32:Hid (All32 W):=zh (by rw[hW];exact sched_32 hl64 h8)
 have HBL:Hid (blockH H l=addH H (roundsH kN W H)):=zh (by rw[hW];rfl)
 obtain⟨R,hR⟩:∃ R,R=blockH H l:=⟨_,rfl⟩
 rw[← hR]at HBL ⊢
 clear hR hW q3 p3 hh hb h8 hl64 h32 e8
 go_enter Tryz.func72,Tryz.ntmps72
 go_wp2
 go_loopw [5,6] (fun v i wr=>∃ k:Nat,k≤16∧i=.int .i64 k∧Hid (OwnW wr w.heap.size v ((List.range k).map (wordN l)))∧Hid (Below w.heap.size w wr)) (fun _ i wr=>16 - (intOf i).toNat)
 case atStart=>exact⟨0,by omega,rfl,zh (OwnE.nil _ _ _ _),zh br0⟩
 case round =>
  obtain⟨k,hk,rfl,hO,hB⟩:=hrel
  obtain⟨va,vn,vc,hv,hvn⟩:=OwnW.form hO.out
  subst hv
  have HVN:=zh hvn
  clear hvn
  by_cases hlt:k < 16
  ·have i0:=getD_lt (l:=l) (i:=4*k) (by rw[HL.out];omega)
   have i1:=getD_lt (l:=l) (i:=4*k+1) (by rw[HL.out];omega)
   have i2:=getD_lt (l:=l) (i:=4*k+2) (by rw[HL.out];omega)
   have i3:=getD_lt (l:=l) (i:=4*k+3) (by rw[HL.out];omega)
   have r0:=H8.out _ (List.mem_of_getElem? i0)
   have r1:=H8.out _ (List.mem_of_getElem? i1)
   have r2:=H8.out _ (List.mem_of_getElem? i2)
   have r3:=H8.out _ (List.mem_of_getElem? i3)
   have HW:Hid (wordN l k=((l.getD (4*k) 0*16777216 ||| l.getD (4*k+1) 0*65536) ||| l.getD (4*k+2) 0*256) ||| l.getD (4*k+3) 0):=rfl
   have HFX:Hid ((List.range (k+1)).map (wordN l)=(List.range k).map (wordN l)++[wordN l k]):=zh (first16_upto l k)
   rw[HW.out]at HFX
   generalize l.getD (4*k) 0=x0 at *
   generalize l.getD (4*k+1) 0=x1 at *
   generalize l.getD (4*k+2) 0=x2 at *
   generalize l.getD (4*k+3) 0=x3 at *
   have hg':=hB.out
   have d0:=cell_keepB hg' hgb (HB3.out _ _ i0)
   have d1:=cell_keepB hg' hgb (HB3.out _ _ i1)
   have d2:=cell_keepB hg' hgb (HB3.out _ _ i2)
   have d3:=cell_keepB hg' hgb (HB3.out _ _ i3)
   have HXl:Hid (((List.range k).map (wordN l)).length≤100000):=zh (by simp;omega)
   clear i0 i1 i2 i3 hg'
   generalize (List.range k).map (wordN l)=X at *
   go_wp2
   refine wp_region_late 34 1 [0] (fun w'=>∃ n,w'=wr.drewN n) (fun _=>True) (by kernel_rfl) (by kernel_rfl) ⟨1,rfl⟩ ?_
   simp only[List.take_succ_cons,List.take_zero,List.drop_succ_cons,List.drop_zero]
   repeat (go_big_quiet_step (fail))
   refine wpQuiet_nil ?_
   refine⟨fun W _ i o hi ho=>?late,?_⟩
   case late =>
    obtain rfl:i=0:=by simpa using hi
    simp only[List.getElem?_toArray,List.getElem?_cons_zero,Option.some.injEq]at ho
    subst ho
    refine⟨.slice va vn vc,?_,fun d hd=>by simp at hd;subst hd;rfl⟩
    simp[execOp,go_sem]
   rintro _ ⟨nq,rfl⟩
   refine⟨trivial,?_⟩
   clear d0 d1 d2 d3
   have hO:Hid (OwnW (wr.drewN nq) w.heap.size (.slice va vn vc) X):=zh (OwnE.drewN hO.out nq)
   have hB:Hid (Below w.heap.size w (wr.drewN nq)):=zh (below_drewN hB.out nq)
   generalize wr.drewN nq=wq at *
   have hwo:=word_or x0 x1 x2 x3 r0 r1 r2 r3
   rw[hwo]
   obtain⟨y,hy⟩:∃ y,y=(((x0*16777216 ||| x1*65536) ||| x2*256) ||| x3):=⟨_,rfl⟩
   rw[← hy]at HFX ⊢
   clear hwo hy
   have HOA:Hid (OwnW (wq.alloc (.cells #[.int .u32 (y:Nat)] 156)) w.heap.size (.slice va vn vc) X):=zh (OwnE.alloc hO.out _)
   have HNA:=zh (heap_alloc_new wq (.cells #[.int .u32 (y:Nat)] 156))
   have HBA:=zh (hB.out.alloc hB.out.size (.cells #[.int .u32 (y:Nat)] 156))
   refine wpTail_step rfl ?_
   go_wp2
   refine⟨rfl,trivial,?_⟩
   unfold wpTail
   go_wp2_with (at_builtin;refine wpList_append_word _ _ w.heap.size _ X wq.heap.size _ y rfl _ HOA.out HXl.out HBA.out.size HNA.out rfl rfl rfl rfl ?_;intro v7 w7 hown7 hgr7;have HO7:=zh hown7;have HB7:=zh (HBA.out.grown hgr7 HBA.out.size (fun j e=>OwnE.ge HOA.out j e));clear hown7 hgr7)
   refine⟨rfl,?_⟩
   go_wp2
   go_roundw
   case rel =>
    refine⟨k+1,by omega,by go_num,?_,HB7⟩
    rw[HFX.out]
    exact HO7
   case measure=>simp[intOf];omega
  ·have e16:k=16:=by omega
   rw[e16]at hO
   have HA:All32 (first16 l):=by
    intro x hx
    unfold first16 at hx
    rw[List.mem_map]at hx
    obtain⟨i,hi,rfl⟩:=hx
    have hi':=List.mem_range.1 hi
    have i0:=H8.out _ (List.mem_of_getElem? (getD_lt (l:=l) (i:=4*i) (by have:=HL.out;omega)))
    have i1:=H8.out _ (List.mem_of_getElem? (getD_lt (l:=l) (i:=4*i+1) (by have:=HL.out;omega)))
    have i2:=H8.out _ (List.mem_of_getElem? (getD_lt (l:=l) (i:=4*i+2) (by have:=HL.out;omega)))
    have i3:=H8.out _ (List.mem_of_getElem? (getD_lt (l:=l) (i:=4*i+3) (by have:=HL.out;omega)))
    exact Nat.or_lt_two_pow (n:=32) (Nat.or_lt_two_pow (n:=32) (Nat.or_lt_two_pow (n:=32) (by omega) (by omega)) (by omega)) (by omega)
   have HN:(first16 l).length=16:=by simp[first16]
   obtain⟨U,hU⟩:∃ U:Nat→List Nat,U=upW (first16 l):=⟨_,rfl⟩
   have hg1:Hid (OwnW wr w.heap.size (.slice va vn vc) (U 0)):=by rw[hU];exact hO
   have HU:Hid ((∀ k,(U k).length=k+16)∧(∀ k,All32 (U k))∧(∀ k,U (k+1)=U k++[nextW (U k)])∧W=U 48):=zh (by
    rw[hU]
    exact⟨fun k=>by rw[upW_length,HN];omega,fun k=>upW_32 HA k,fun k=>rfl,HS0.out⟩)
   clear hO hU HA HN e16 HVN HB3 H8 HL HS0 p1 p2 hgb
   go_wp2
   clear hlt
   go_loopw [5,7,8,9] (fun v i _ _ wr=>∃ k:Nat,k≤48∧i=.int .i64 ((k:Int)+16)∧Hid (OwnW wr w.heap.size v (U k))∧Hid (Below w.heap.size w wr)) (fun _ i _ _ wr=>64 - (intOf i).toNat)
   case atStart=>exact⟨0,by omega,rfl,hg1,hB⟩
   case round =>
    clear hg1 hB
    obtain⟨k,hk,rfl,hO,hB⟩:=hrel
    obtain⟨hlen,hA,hn,_⟩:=HU.out
    by_cases hlt:k < 48
    ·have hlen:=hlen k
     have hA:=hA k
     have hn:=hn k
     have hn:U (k+1)=U k++[((U k).getD k 0+sg0 ((U k).getD (k+1) 0)+(U k).getD (k+9) 0+sg1 ((U k).getD (k+14) 0)) % 4294967296]:=by
      rw[hn,nextW,hlen];rfl
     have r1:=hA.get (k+1)
     have r3:=hA.get (k+14)
     obtain⟨g,og,vc,rfl,_,_,hg,hc⟩:=hO.out.ws.opened (by omega)
     rw[hlen]at hO ⊢
     have C0:=zh (hc _ _ (getD_lt (l:=U k) (i:=k) (by omega)))
     have C1:=zh (hc _ _ (getD_lt (l:=U k) (i:=k+1) (by omega)))
     have C2:=zh (hc _ _ (getD_lt (l:=U k) (i:=k+9) (by omega)))
     have C3:=zh (hc _ _ (getD_lt (l:=U k) (i:=k+14) (by omega)))
     have F0:Hid (IntKind.i64.wrap ((k:Int)+16 - 16)=(k:Int)):=zh (by rw[IntWalk.i64_in _ (by omega)];omega)
     have F1:Hid (IntKind.i64.wrap ((k:Int)+16 - 15)=((k+1:Nat):Int)):=zh (by rw[IntWalk.i64_in _ (by omega)];omega)
     have F2:Hid (IntKind.i64.wrap ((k:Int)+16 - 7)=((k+9:Nat):Int)):=zh (by rw[IntWalk.i64_in _ (by omega)];omega)
     have F3:Hid (IntKind.i64.wrap ((k:Int)+16 - 2)=((k+14:Nat):Int)):=zh (by rw[IntWalk.i64_in _ (by omega)];omega)
     have HNx:=zh hn
     have HLn:=zh hlen
     clear hn hA hc hlen
     generalize (U k).getD k 0=x0 at *
     generalize (U k).getD (k+1) 0=x1 at *
     generalize (U k).getD (k+9) 0=x2 at *
     generalize (U k).getD (k+14) 0=x3 at *
     have c1:=C1.out
     have f1:=F1.out
     have bk1:((k+1:Nat):Int) < ((k+16:Nat):Int):=by omega
     have bk2:(0:Int)≤((k+1:Nat):Int):=by omega
     have R1:Hid (∀ n,Calls Tryz.prog 104 #[.int .u32 x1,.int .i64 7] (wr.drewN n) fun e w'=>e=.returned (.int .u32 (rotr x1 7:Nat))∧∃ m,w'=wr.drewN m):=zh (fun n=>Calls.quiet_of (rotated_any x1 7 _ r1 (by omega) (by omega)))
     have R2:Hid (∀ n,Calls Tryz.prog 104 #[.int .u32 x1,.int .i64 18] (wr.drewN n) fun e w'=>e=.returned (.int .u32 (rotr x1 18:Nat))∧∃ m,w'=wr.drewN m):=zh (fun n=>Calls.quiet_of (rotated_any x1 18 _ r1 (by omega) (by omega)))
     go_upto_region 9 with fail
     go_quiet ((go_at_call 104;first | (with_reducible exact R1.out _) | (with_reducible exact R2.out _)))
     rw[sg0_int x1 r1]
     have l0:=sg0_lt x1 r1
     generalize sg0 x1=s0 at *
     clear c1 f1 bk1 bk2 R1 R2 C1 F1 r1
     have C0:Hid ((wr.drewN nq).cell? ⟨g,og+k,none⟩=some (.int .u32 (x0:Nat))):=C0
     have C2:Hid ((wr.drewN nq).cell? ⟨g,og+(k+9),none⟩=some (.int .u32 (x2:Nat))):=C2
     have c3:(wr.drewN nq).cell? ⟨g,og+(k+14),none⟩=some (.int .u32 (x3:Nat)):=C3.out
     have hO:Hid (OwnW (wr.drewN nq) w.heap.size (.slice (some ⟨g,og,none⟩) (k+16) vc) (U k)):=zh (OwnE.drewN hO.out nq)
     have hB:Hid (Below w.heap.size w (wr.drewN nq)):=zh (below_drewN hB.out nq)
     have hg:g < (wr.drewN nq).heap.size:=hg
     clear C3
     generalize wr.drewN nq=wq at *
     have f3:=F3.out
     have bk1:((k+14:Nat):Int) < ((k+16:Nat):Int):=by omega
     have bk2:(0:Int)≤((k+14:Nat):Int):=by omega
     have R1:Hid (∀ n,Calls Tryz.prog 104 #[.int .u32 x3,.int .i64 17] (wq.drewN n) fun e w'=>e=.returned (.int .u32 (rotr x3 17:Nat))∧∃ m,w'=wq.drewN m):=zh (fun n=>Calls.quiet_of (rotated_any x3 17 _ r3 (by omega) (by omega)))
     have R2:Hid (∀ n,Calls Tryz.prog 104 #[.int .u32 x3,.int .i64 19] (wq.drewN n) fun e w'=>e=.returned (.int .u32 (rotr x3 19:Nat))∧∃ m,w'=wq.drewN m):=zh (fun n=>Calls.quiet_of (rotated_any x3 19 _ r3 (by omega) (by omega)))
     go_upto_region 10 with fail
     go_quiet ((go_at_call 104;first | (with_reducible exact R1.out _) | (with_reducible exact R2.out _)))
     rw[sg1_int x3 r3]
     have l1:=sg1_lt x3 r3
     generalize sg1 x3=s1 at *
     clear c3 f3 bk1 bk2 R1 R2 F3 r3
     have c0:(wq.drewN nq).cell? ⟨g,og+k,none⟩=some (.int .u32 (x0:Nat)):=C0.out
     have c2:(wq.drewN nq).cell? ⟨g,og+(k+9),none⟩=some (.int .u32 (x2:Nat)):=C2.out
     have hO:Hid (OwnW (wq.drewN nq) w.heap.size (.slice (some ⟨g,og,none⟩) (k+16) vc) (U k)):=zh (OwnE.drewN hO.out nq)
     have hB:Hid (Below w.heap.size w (wq.drewN nq)):=zh (below_drewN hB.out nq)
     have hg:g < (wq.drewN nq).heap.size:=hg
     clear C0 C2
     generalize wq.drewN nq=wp at *
     have f0:=F0.out
     have f2:=F2.out
     have b1:(k:Int) < ((k+16:Nat):Int):=by omega
     have b2:((k+9:Nat):Int) < ((k+16:Nat):Int):=by omega
     have b3:(0:Int)≤((k+9:Nat):Int):=by omega
     clear F0 F2
     go_wp2
     refine wp_region_late 16 1 [0] (fun w'=>∃ n,w'=wp.drewN n) (fun _=>True) (by kernel_rfl) (by kernel_rfl) ⟨1,rfl⟩ ?_
     simp only[List.take_succ_cons,List.take_zero,List.drop_succ_cons,List.drop_zero]
     repeat (go_big_quiet_step (fail))
     refine wpQuiet_nil ?_
     refine⟨fun W _ i o hi ho=>?late,?_⟩
     case late =>
      obtain rfl:i=0:=by simpa using hi
      simp only[List.getElem?_toArray,List.getElem?_cons_zero,Option.some.injEq]at ho
      subst ho
      refine⟨.slice (some ⟨g,og,none⟩) (k+16) vc,?_,fun d hd=>by simp at hd;subst hd;rfl⟩
      simp[execOp,go_sem]
     rintro _ ⟨nr,rfl⟩
     refine⟨trivial,?_⟩
     clear c0 c2 f0 f2 b1 b2 b3
     have hO:Hid (OwnW (wp.drewN nr) w.heap.size (.slice (some ⟨g,og,none⟩) (k+16) vc) (U k)):=zh (OwnE.drewN hO.out nr)
     have hB:Hid (Below w.heap.size w (wp.drewN nr)):=zh (below_drewN hB.out nr)
     have hy:(((x0:Int)+(s0:Int)+(x2:Int)) % 4294967296+(s1:Int)) % 4294967296=(((x0+s0+x2+s1) % 4294967296:Nat):Int):=by omega
     generalize wp.drewN nr=wo at *
     rw[hy]
     clear hy
     generalize (x0+s0+x2+s1) % 4294967296=y at *
     have HUl:Hid ((U k).length≤100000):=zh (by rw[HLn.out];omega)
     have HOA:Hid (OwnW (wo.alloc (.cells #[.int .u32 (y:Nat)] 156)) w.heap.size (.slice (some ⟨g,og,none⟩) (k+16) vc) (U k)):=zh (OwnE.alloc hO.out _)
     have HNA:=zh (heap_alloc_new wo (.cells #[.int .u32 (y:Nat)] 156))
     have HBA:=zh (hB.out.alloc hB.out.size (.cells #[.int .u32 (y:Nat)] 156))
     refine wpTail_step rfl ?_
     go_wp2
     refine⟨rfl,trivial,?_⟩
     unfold wpTail
     go_wp2_with (at_builtin;refine wpList_append_word _ _ w.heap.size _ (U k) wo.heap.size _ y rfl _ HOA.out HUl.out HBA.out.size HNA.out rfl rfl rfl rfl ?_;intro v7 w7 hown7 hgr7;have HO7:=zh hown7;have HB7:=zh (HBA.out.grown hgr7 HBA.out.size (fun j e=>OwnE.ge HOA.out j e));clear hown7 hgr7)
     refine⟨rfl,?_⟩
     go_wp2
     go_roundw
     case rel =>
      refine⟨k+1,by omega,?_,?_,HB7⟩
      ·congr 1
      ·rw[HNx.out]
       exact HO7
     case measure=>simp[intOf];omega
    ·have e48:k=48:=by omega
     have hW:=HU.out.2.2.2
     rw[e48,← hW]at hO
     obtain⟨gw,ow,cw,hv,_,_,hgw,hw3⟩:=hO.out.ws.opened (by rw[HWL.out];omega)
     rw[HWL.out]at hv
     subst hv
     have HW3:Hid (∀ k,k < 64→wr.cell? ⟨gw,ow+k,none⟩=some (.int .u32 (W.getD k 0:Nat))):=zh (fun k hk=>hw3 k _ (getD_lt (by rw[HWL.out];exact hk)))
     clear hO hw3 hW HU
     clear hk e48
     have hws:=hB.out.size
     go_upto_region 14 with(go_at_call 105;refine(constants_any _).mono ?_;rintro e w1 ⟨vk,rfl,hk1,hb1⟩;have HK1:=zh hk1;have HB1:=zh (hB.out.trans (hb1.mono hws));have HB11:=zh hb1;have hws1:=Nat.le_trans hws hb1.size;clear hk1 hb1)
     have HY1:Hid (WS w1 (.slice (some ⟨gh,oh,none⟩) 8 ch) (hl H)):=zh (HHW.out.below HB1.out)
     have hlen8:Hid ((hl H).length=8):=zh rfl
     have HN1:Hid (OwnW w1 w.heap.size (.slice none 0 0) []):=zh (OwnE.nil _ _ _ _)
     go_wp2_with (at_builtin;refine wpList_append_words _ _ w.heap.size (.slice none 0 0) [] (hl H) (.slice (some ⟨gh,oh,none⟩) 8 ch) HN1.out HY1.out (by rw[hlen8.out];decide) (by rw[hlen8.out];decide) hws1 rfl rfl rfl rfl ?_;intro v2 w2 hown2 hgr2;have HO2:Hid (OwnW w2 w.heap.size v2 (hl H)):=zh hown2;have HB2:=zh (HB1.out.grown hgr2 hws1 (fun j e=>by cases e));have hb12:=zh hgr2;clear hown2 hgr2)
     have HB12:Hid (Below w1.heap.size w1 w2):=zh ⟨hb12.out.os,hb12.out.tape,hb12.out.output,hb12.out.size,fun i hi=>hb12.out.block i hi (by simp[Value.ownBlock])⟩
     obtain⟨gk,ok,ck,hv,_,_,hgk,hk3⟩:=HK1.out.opened (by decide)
     have hk64:kN.length=64:=rfl
     rw[hk64]at hv
     subst hv
     have HKc:Hid (∀ k,k < 64→w2.cell? ⟨gk,ok+k,none⟩=some (.int .u32 (kN.getD k 0:Nat))):=zh (fun k hk=>cell_keepB HB12.out hgk (hk3 k _ (getD_lt (by rw[hk64];exact hk))))
     have HWc:Hid (∀ k,k < 64→w2.cell? ⟨gw,ow+k,none⟩=some (.int .u32 (W.getD k 0:Nat))):=zh (fun k hk=>cell_keepB (HB11.out.trans (HB12.out.mono HB11.out.size)) hgw (HW3.out k hk))
     have hgk2:gk < w2.heap.size:=Nat.lt_of_lt_of_le hgk HB12.out.size
     have hgw2:gw < w2.heap.size:=Nat.lt_of_lt_of_le hgw (Nat.le_trans HB11.out.size HB12.out.size)
     obtain⟨V,hV⟩:∃ V:Nat→H8,V=upH W H:=⟨_,rfl⟩
     have HV:Hid (V 0=H∧(∀ k,V (k+1)=roundH (V k) (kN.getD k 0) (W.getD k 0))∧(∀ k,H32 (V k))∧roundsH kN W H=V 64):=zh (by
      rw[hV]
      exact⟨rfl,fun _=>rfl,fun k=>upH_32 H32'.out k,roundsH_upH W H HWL.out⟩)
     have HV0:Hid (WS w2 v2 (hl (V 0))):=zh (by rw[HV.out.1];exact HO2.out.ws)
     clear hV hk64 hk3 HK1 HB11 HB12 hb12 HY1 hlen8 HN1 HO2 HB1 hws1 hws hgk hgw HW3 hB
     go_loopw [11,12,13,14,15,16] (fun v i _ _ _ _ wr=>∃ k:Nat,k≤64∧i=.int .i64 k∧Hid (WS wr v (hl (V k)))∧Hid (Below w2.heap.size w2 wr)) (fun _ i _ _ _ _ wr=>64 - (intOf i).toNat)
     case atStart=>exact⟨0,by omega,rfl,HV0,zh br0⟩
     case round =>
      clear HV0
      obtain⟨k,hk,rfl,hS,hB⟩:=hrel
      obtain⟨gv,ov,cv,hv,_,hcv,hgv,hv3⟩:=hS.out.opened (by simp[hl])
      have hvl:(hl (V k)).length=8:=rfl
      rw[hvl]at hv
      subst hv
      by_cases hlt:k < 64
      ·have C0:Hid (wr.cell? ⟨gv,ov,none⟩=some (.int .u32 ((V k).a:Nat))):=zh (hv3 0 _ rfl)
       have C1:Hid (wr.cell? ⟨gv,ov+1,none⟩=some (.int .u32 ((V k).b:Nat))):=zh (hv3 1 _ rfl)
       have C2:Hid (wr.cell? ⟨gv,ov+2,none⟩=some (.int .u32 ((V k).c:Nat))):=zh (hv3 2 _ rfl)
       have C3:Hid (wr.cell? ⟨gv,ov+3,none⟩=some (.int .u32 ((V k).d:Nat))):=zh (hv3 3 _ rfl)
       have C4:Hid (wr.cell? ⟨gv,ov+4,none⟩=some (.int .u32 ((V k).e:Nat))):=zh (hv3 4 _ rfl)
       have C5:Hid (wr.cell? ⟨gv,ov+5,none⟩=some (.int .u32 ((V k).f:Nat))):=zh (hv3 5 _ rfl)
       have C6:Hid (wr.cell? ⟨gv,ov+6,none⟩=some (.int .u32 ((V k).g:Nat))):=zh (hv3 6 _ rfl)
       have C7:Hid (wr.cell? ⟨gv,ov+7,none⟩=some (.int .u32 ((V k).h:Nat))):=zh (hv3 7 _ rfl)
       have CK:=zh (cell_keepB hB.out hgk2 (HKc.out k hlt))
       have CW:=zh (cell_keepB hB.out hgw2 (HWc.out k hlt))
       obtain⟨ra,rb,rc,rd,re,rf,rg,rh⟩:=HV.out.2.2.1 k
       have HN:Hid (hl (V (k+1))=hl (roundH ⟨(V k).a,(V k).b,(V k).c,(V k).d,(V k).e,(V k).f,(V k).g,(V k).h⟩ (kN.getD k 0) (W.getD k 0))):=zh (by rw[HV.out.2.1 k])
       clear hv3 hS
       generalize (V k).a=a at *
       generalize (V k).b=b at *
       generalize (V k).c=c at *
       generalize (V k).d=d at *
       generalize (V k).e=e at *
       generalize (V k).f=f at *
       generalize (V k).g=g at *
       generalize (V k).h=hh at *
       generalize W.getD k 0=ww at *
       generalize kN.getD k 0=kk at *
       have c0:=C0.out
       have c4:=C4.out
       have c5:=C5.out
       have c6:=C6.out
       have c7:=C7.out
       have ck:=CK.out
       have cw':=CW.out
       have tk0:(0:Int)≤(k:Int):=by omega
       have tk:(k:Int) < 64:=by omega
       have R1:Hid (∀ n,Calls Tryz.prog 104 #[.int .u32 e,.int .i64 6] (wr.drewN n) fun e' w'=>e'=.returned (.int .u32 (rotr e 6:Nat))∧∃ m,w'=wr.drewN m):=zh (fun n=>Calls.quiet_of (rotated_any e 6 _ re (by omega) (by omega)))
       have R2:Hid (∀ n,Calls Tryz.prog 104 #[.int .u32 e,.int .i64 11] (wr.drewN n) fun e' w'=>e'=.returned (.int .u32 (rotr e 11:Nat))∧∃ m,w'=wr.drewN m):=zh (fun n=>Calls.quiet_of (rotated_any e 11 _ re (by omega) (by omega)))
       have R3:Hid (∀ n,Calls Tryz.prog 104 #[.int .u32 e,.int .i64 25] (wr.drewN n) fun e' w'=>e'=.returned (.int .u32 (rotr e 25:Nat))∧∃ m,w'=wr.drewN m):=zh (fun n=>Calls.quiet_of (rotated_any e 25 _ re (by omega) (by omega)))
       have l6:=rotr_lt e 6 re
       have l11:=rotr_lt e 11 re
       have l25:=rotr_lt e 25 re
       have HT1:Hid (t1 ⟨a,b,c,d,e,f,g,hh⟩ kk ww=(hh+((rotr e 6 ^^^ rotr e 11) ^^^ rotr e 25)+((e &&& f) ^^^ ((4294967295 - e) &&& g))+kk+ww) % 4294967296):=zh rfl
       generalize rotr e 6=q6 at *
       generalize rotr e 11=q11 at *
       generalize rotr e 25=q25 at *
       have X1:=u32_xor_nat q6 q11 l6 l11
       have X2:=u32_xor_nat (q6 ^^^ q11) q25 (xor_lt l6 l11) l25
       have A1:=u32_and_nat e f re rf
       have N1:bits BinOp.xor IntKind.u32 (if IntKind.u32.signed=true then -1 else IntKind.u32.max) (e:Int)=((4294967295 - e:Nat):Int):=xor_max e re
       have A2:=u32_and_nat (4294967295 - e) g (by omega) rg
       have X3:=u32_xor_nat (e &&& f) ((4294967295 - e) &&& g) (and_lt re) (and_lt (by omega))
       have l3:=xor_lt (and_lt (b:=f) re) (and_lt (b:=g) (by omega:4294967295 - e < 4294967296))
       have l4:=xor_lt (xor_lt l6 l11) l25
       generalize (e &&& f) ^^^ ((4294967295 - e) &&& g)=ch' at *
       generalize (4294967295 - e) &&& g=a2 at *
       generalize 4294967295 - e=ne at *
       generalize e &&& f=a1 at *
       generalize (q6 ^^^ q11) ^^^ q25=p3 at *
       generalize q6 ^^^ q11=p2 at *
       go_upto_region 20 with fail
       go_quiet ((go_at_call 104;first | (with_reducible exact R1.out _) | (with_reducible exact R2.out _) | (with_reducible exact R3.out _)))
       have hy:(((hh:Int)+(p3:Int)+(ch':Int)+(kk:Int)) % 4294967296+(ww:Int)) % 4294967296=((t1 ⟨a,b,c,d,e,f,g,hh⟩ kk ww:Nat):Int):=by rw[HT1.out];omega
       rw[hy]
       clear hy HT1 X1 X2 A1 N1 A2 X3 l3 l4 l6 l11 l25 R1 R2 R3 c0 c4 c5 c6 c7 ck cw' C7 C0 C4
       have HN1:Hid (hl (V (k+1))=[(t1 ⟨a,b,c,d,e,f,g,hh⟩ kk ww+t2 ⟨a,b,c,d,e,f,g,hh⟩) % 4294967296,a,b,c,(d+t1 ⟨a,b,c,d,e,f,g,hh⟩ kk ww) % 4294967296,e,f,g]):=HN
       have T1l:t1 ⟨a,b,c,d,e,f,g,hh⟩ kk ww < 4294967296:=Nat.mod_lt _ (by omega)
       clear HN
       generalize t1 ⟨a,b,c,d,e,f,g,hh⟩ kk ww=T at *
       have c1:(wr.drewN nq).cell? ⟨gv,ov+1,none⟩=some (.int .u32 (b:Nat)):=C1.out
       have c2:(wr.drewN nq).cell? ⟨gv,ov+2,none⟩=some (.int .u32 (c:Nat)):=C2.out
       have C3:Hid ((wr.drewN nq).cell? ⟨gv,ov+3,none⟩=some (.int .u32 (d:Nat))):=C3
       have C5:Hid ((wr.drewN nq).cell? ⟨gv,ov+5,none⟩=some (.int .u32 (f:Nat))):=C5
       have C6:Hid ((wr.drewN nq).cell? ⟨gv,ov+6,none⟩=some (.int .u32 (g:Nat))):=C6
       have hB:Hid (Below w2.heap.size w2 (wr.drewN nq)):=zh (below_drewN hB.out nq)
       have C1':Hid ((wr.drewN nq).cell? ⟨gv,ov+1,none⟩=some (.int .u32 (b:Nat))):=C1
       have C2':Hid ((wr.drewN nq).cell? ⟨gv,ov+2,none⟩=some (.int .u32 (c:Nat))):=C2
       clear C1 C2
       generalize wr.drewN nq=wq at *
       have R1:Hid (∀ n,Calls Tryz.prog 104 #[.int .u32 a,.int .i64 2] (wq.drewN n) fun e' w'=>e'=.returned (.int .u32 (rotr a 2:Nat))∧∃ m,w'=wq.drewN m):=zh (fun n=>Calls.quiet_of (rotated_any a 2 _ ra (by omega) (by omega)))
       have R2:Hid (∀ n,Calls Tryz.prog 104 #[.int .u32 a,.int .i64 13] (wq.drewN n) fun e' w'=>e'=.returned (.int .u32 (rotr a 13:Nat))∧∃ m,w'=wq.drewN m):=zh (fun n=>Calls.quiet_of (rotated_any a 13 _ ra (by omega) (by omega)))
       have R3:Hid (∀ n,Calls Tryz.prog 104 #[.int .u32 a,.int .i64 22] (wq.drewN n) fun e' w'=>e'=.returned (.int .u32 (rotr a 22:Nat))∧∃ m,w'=wq.drewN m):=zh (fun n=>Calls.quiet_of (rotated_any a 22 _ ra (by omega) (by omega)))
       have l6:=rotr_lt a 2 ra
       have l11:=rotr_lt a 13 ra
       have l25:=rotr_lt a 22 ra
       have HT2:Hid (t2 ⟨a,b,c,d,e,f,g,hh⟩=(((rotr a 2 ^^^ rotr a 13) ^^^ rotr a 22)+(((a &&& b) ^^^ (a &&& c)) ^^^ (b &&& c))) % 4294967296):=zh rfl
       generalize rotr a 2=q6 at *
       generalize rotr a 13=q11 at *
       generalize rotr a 22=q25 at *
       have X1:=u32_xor_nat q6 q11 l6 l11
       have X2:=u32_xor_nat (q6 ^^^ q11) q25 (xor_lt l6 l11) l25
       have A1:=u32_and_nat a b ra rb
       have A2:=u32_and_nat a c ra rc
       have A3:=u32_and_nat b c rb rc
       have X3:=u32_xor_nat (a &&& b) (a &&& c) (and_lt ra) (and_lt ra)
       have X4:=u32_xor_nat ((a &&& b) ^^^ (a &&& c)) (b &&& c) (xor_lt (and_lt ra) (and_lt ra)) (and_lt rb)
       generalize ((a &&& b) ^^^ (a &&& c)) ^^^ (b &&& c)=mj at *
       generalize (a &&& b) ^^^ (a &&& c)=mi at *
       generalize a &&& b=a1' at *
       generalize a &&& c=a2' at *
       generalize b &&& c=a3' at *
       generalize (q6 ^^^ q11) ^^^ q25=p3' at *
       generalize q6 ^^^ q11=p2' at *
       go_upto_region 21 with fail
       go_quiet ((go_at_call 104;first | (with_reducible exact R1.out _) | (with_reducible exact R2.out _) | (with_reducible exact R3.out _)))
       have hy:((p3':Int)+(mj:Int)) % 4294967296=((t2 ⟨a,b,c,d,e,f,g,hh⟩:Nat):Int):=by rw[HT2.out];omega
       rw[hy]
       clear hy HT2 X1 X2 A1 A2 A3 X3 X4 l6 l11 l25 R1 R2 R3 c1 c2
       have T2l:t2 ⟨a,b,c,d,e,f,g,hh⟩ < 4294967296:=Nat.mod_lt _ (by omega)
       generalize t2 ⟨a,b,c,d,e,f,g,hh⟩=U2 at *
       have c1:(wq.drewN nq).cell? ⟨gv,ov+1,none⟩=some (.int .u32 (b:Nat)):=C1'.out
       have c2:(wq.drewN nq).cell? ⟨gv,ov+2,none⟩=some (.int .u32 (c:Nat)):=C2'.out
       have c3:(wq.drewN nq).cell? ⟨gv,ov+3,none⟩=some (.int .u32 (d:Nat)):=C3.out
       have c5:(wq.drewN nq).cell? ⟨gv,ov+5,none⟩=some (.int .u32 (f:Nat)):=C5.out
       have c6:(wq.drewN nq).cell? ⟨gv,ov+6,none⟩=some (.int .u32 (g:Nat)):=C6.out
       have hB:Hid (Below w2.heap.size w2 (wq.drewN nq)):=zh (below_drewN hB.out nq)
       clear C1' C2' C3 C5 C6
       generalize wq.drewN nq=wo at *
       have y1:((T:Int)+(U2:Int)) % 4294967296=(((T+U2) % 4294967296:Nat):Int):=by omega
       have y2:((d:Int)+(T:Int)) % 4294967296=(((d+T) % 4294967296:Nat):Int):=by omega
       have HY1:=zh y1
       have HY2:=zh y2
       clear y1 y2
       generalize (T+U2) % 4294967296=z1 at *
       generalize (d+T) % 4294967296=z2 at *
       go_wp2
       refine wp_region_quiet_tail 22 (fun w'=>∃ n,w'=wo.drewN n) (by kernel_rfl) (by kernel_rfl) ⟨1,rfl⟩ ?_
       simp only[List.take_succ_cons,List.take_zero,List.drop_succ_cons,List.drop_zero]
       repeat (go_big_quiet_step (fail))
       refine wpQuiet_nil ?_
       rintro _ ⟨nr,rfl⟩
       clear c1 c2 c3 c5 c6
       have hB:Hid (Below w2.heap.size w2 (wo.drewN nr)):=zh (below_drewN hB.out nr)
       generalize wo.drewN nr=wn at *
       have HX:Hid (WS (wn.alloc (.cells #[.int .u32 (((T:Int)+(U2:Int)) % 4294967296),.int .u32 (a:Nat),.int .u32 (b:Nat),.int .u32 (c:Nat),.int .u32 (((d:Int)+(T:Int)) % 4294967296),.int .u32 (e:Nat),.int .u32 (f:Nat),.int .u32 (g:Nat)] 156)) (.slice (some ⟨wn.heap.size,0,none⟩) 8 8) (hl (V (k+1)))):=zh (by
        rw[HN1.out,HY1.out,HY2.out]
        exact WS.lit [z1,a,b,c,z2,e,f,g] (heap_alloc_new wn _) rfl (by simp))
       have HBX:=zh (hB.out.alloc hB.out.size (.cells #[.int .u32 (((T:Int)+(U2:Int)) % 4294967296),.int .u32 (a:Nat),.int .u32 (b:Nat),.int .u32 (c:Nat),.int .u32 (((d:Int)+(T:Int)) % 4294967296),.int .u32 (e:Nat),.int .u32 (f:Nat),.int .u32 (g:Nat)] 156))
       go_wp2
       go_roundw
       case rel=>exact⟨k+1,by omega,by go_num,HX,HBX⟩
       case measure=>simp[intOf];omega
      ·have e64:k=64:=by omega
       have HY:Hid (R=addH H (V 64)):=zh (by rw[HBL.out,HV.out.2.2.2])
       have rV:=zh (HV.out.2.2.1 64)
       rw[e64]at hv3
       have HVc:Hid (∀ j n,(hl (V 64))[j]?=some n→wr.cell? ⟨gv,ov+j,none⟩=some (.int .u32 (n:Nat))):=zh hv3
       have HB9:=zh (HB2.out.trans (hB.out.mono HB2.out.size))
       clear hv3 hS HV HBL HKc HWc hk e64 hB hvl
       generalize V 64=Y at *
       obtain⟨wz,hwz⟩:∃ wz,wz=wr:=⟨_,rfl⟩
       subst hwz
       go_wp2
       have HHc:Hid (∀ j,j < 8→wz.cell? ⟨gh,oh+j,none⟩=some (.int .u32 (lg (hl H) j:Nat))):=zh (fun j hj=>cell_keepB HB9.out hgh (HH3.out j _ (hl_get H j hj)))
       have hgh9:gh < wz.heap.size:=Nat.lt_of_lt_of_le hgh HB9.out.size
       have HB0:Hid (Below wz.heap.size wz wz):=zh br0
       have HAG:=zh (addH_get H Y)
       have HLg:=zh (hl_get Y)
       generalize addH H Y=AH at *
       have HA8:Hid ((hl AH).take 8=hl AH):=zh rfl
       have HA0:Hid ((hl AH).take 0=[]):=zh rfl
       have hws9:=HB9.out.size
       clear hlt
       go_loopw [17,18] (fun v i wq=>∃ k:Nat,k≤8∧i=.int .i64 k∧Hid (OwnW wq wz.heap.size v ((hl AH).take k))∧Hid (Below wz.heap.size wz wq)) (fun _ i _=>8 - (intOf i).toNat)
       case atStart=>exact⟨0,by omega,rfl,zh (OwnE.nil _ _ _ _),HB0⟩
       case round =>
        obtain⟨k,hk,rfl,hO,hB⟩:=hrel
        obtain⟨va,vn,vc,hv,hvn⟩:=OwnW.form hO.out
        subst hv
        clear hvn
        by_cases hlt:k < 8
        ·have c1:=cell_keepB hB.out hgh9 (HHc.out k hlt)
         have c2:=cell_keepB hB.out hgv (HVc.out k _ (HLg.out k hlt))
         have r1:=hl_lt H32'.out k
         have r2:=hl_lt rV.out k
         have HT:=zh (take_snoc (HAG.out k hlt))
         generalize lg (hl H) k=x1 at *
         generalize lg (hl Y) k=x2 at *
         have tk:(k:Int) < 8:=by omega
         have tk0:(0:Int)≤(k:Int):=by omega
         have HXl:Hid (((hl AH).take k).length≤100000):=zh (by rw[List.length_take];omega)
         generalize (hl AH).take k=X at *
         go_wp2
         refine wp_region_late 10 1 [0] (fun w'=>∃ n,w'=wr.drewN n) (fun _=>True) (by kernel_rfl) (by kernel_rfl) ⟨1,rfl⟩ ?_
         simp only[List.take_succ_cons,List.take_zero,List.drop_succ_cons,List.drop_zero]
         repeat (go_big_quiet_step (fail))
         refine wpQuiet_nil ?_
         refine⟨fun W _ i o hi ho=>?late,?_⟩
         case late =>
          obtain rfl:i=0:=by simpa using hi
          simp only[List.getElem?_toArray,List.getElem?_cons_zero,Option.some.injEq]at ho
          subst ho
          refine⟨.slice va vn vc,?_,fun d hd=>by simp at hd;subst hd;rfl⟩
          simp[execOp,go_sem]
         rintro _ ⟨nr,rfl⟩
         refine⟨trivial,?_⟩
         clear c1 c2
         have hO:Hid (OwnW (wr.drewN nr) wz.heap.size (.slice va vn vc) X):=zh (OwnE.drewN hO.out nr)
         have hB:Hid (Below wz.heap.size wz (wr.drewN nr)):=zh (below_drewN hB.out nr)
         have hy:((x1:Int)+(x2:Int)) % 4294967296=(((x1+x2) % 4294967296:Nat):Int):=by omega
         generalize wr.drewN nr=wo at *
         rw[hy]
         clear hy
         generalize (x1+x2) % 4294967296=y at *
         have HOA:Hid (OwnW (wo.alloc (.cells #[.int .u32 (y:Nat)] 156)) wz.heap.size (.slice va vn vc) X):=zh (OwnE.alloc hO.out _)
         have HNA:=zh (heap_alloc_new wo (.cells #[.int .u32 (y:Nat)] 156))
         have HBA:=zh (hB.out.alloc hB.out.size (.cells #[.int .u32 (y:Nat)] 156))
         refine wpTail_step rfl ?_
         go_wp2
         refine⟨rfl,trivial,?_⟩
         unfold wpTail
         go_wp2_with (at_builtin;refine wpList_append_word _ _ wz.heap.size _ X wo.heap.size _ y rfl _ HOA.out HXl.out HBA.out.size HNA.out rfl rfl rfl rfl ?_;intro v7 w7 hown7 hgr7;have HO7:=zh hown7;have HB7:=zh (HBA.out.grown hgr7 HBA.out.size (fun j e=>OwnE.ge HOA.out j e));clear hown7 hgr7)
         refine⟨rfl,?_⟩
         go_wp2
         go_roundw
         case rel =>
          refine⟨k+1,by omega,by go_num,?_,HB7⟩
          rw[HT.out]
          exact HO7
         case measure=>simp[intOf];omega
        ·have e8:k=8:=by omega
         rw[e8,HA8.out,← HY.out]at hO
         clear e8 hk
         go_wp2
         go_ret
         exact⟨_,rfl,hO.out.ws,HB9.out.trans (hB.out.mono hws9)⟩
end Go.Proofs.YtjjiikeldpjafaaGreatDoor
