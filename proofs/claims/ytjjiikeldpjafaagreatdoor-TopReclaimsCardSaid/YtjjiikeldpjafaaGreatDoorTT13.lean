/- The reference's SHA-256: Sum, Leaf, Node. The condition: the length. -/
import Derived.Test.YtjjiikeldpjafaaGreatDoorTT12
import Derived.Maps.OwnSet
import Derived.Maps.RangeWalk
import Derived.Maps.StringElems
import Derived.Carry
namespace Go.Proofs.YtjjiikeldpjafaaGreatDoor
open Go.RowKit Go.BigFrame
theorem bcells_sub {W:World}{g off n c:Nat}{l:List Nat}(h:SliceAt W (.slice (some ⟨g,off,none⟩) n c) 1 (bcells l))(a m:Nat)(hm:0 < m)(ham:a+m≤l.length):SliceAt W (.slice (some ⟨g,off+a,none⟩) m (c - a)) 1 (bcells ((l.drop a).take m)):=by
 obtain⟨b,o,cap,e,h1,h2,h3,h4⟩:=h.bcell' (by omega)
 injection e with e1 e2 e3
 cases e1
 subst e2 e3
 have hl:((l.drop a).take m).length=m:=by rw[List.length_take,List.length_drop];omega
 refine⟨_,c - a,by rw[bcells_len,hl],by rw[bcells_len,hl];omega,by omega,.inr ⟨g,off+a,rfl,h3,fun i cc hi j u hj=>?_⟩⟩
 unfold bcells at hi
 rw[List.getElem?_map]at hi
 obtain⟨y,hy,rfl⟩:=Option.map_eq_some_iff.1 hi
 have hj0:j=0:=by have:=(List.getElem?_eq_some_iff.1 hj).1;simp at this;omega
 subst hj0
 rw[List.getElem?_take]at hy
 split at hy
 ·rw[List.getElem?_drop]at hy
  have:=h4 _ y hy
  rw[Nat.mul_one,Nat.add_zero,show off+a+i=off+(a+i) by omega,this]
  simpa using hj
 ·cases hy
section
variable {ops:Array Oper} {rest:List Oper} {o:Oper} {a:Act} {w:World} {Q:Exit→Act→World→Prop}
theorem wpList_append_four (s x:Operand)(base:Nat)(v:Value)(xs:List Nat)(b:Nat)(y0 y1 y2 y3:Int)(n0 n1 n2 n3:Nat)(e0:y0=n0)(e1:y1=n1)(e2:y2=n2)(e3:y3=n3)(fr:Nat × Nat)(hown:OwnB w base v xs)(hlen:xs.length≤1100000000)(hbase:base≤w.heap.size)
  (hb:w.heap[b]?=some (.cells #[.int .u8 y0,.int .u8 y1,.int .u8 y2,.int .u8 y3] 5 fr)) (hgd:o.guard=none) (ho:o.op=.call { callee:=.builtin .append,args:=#[s,x],argTypes:=#[88,88] }) (hs:a.eval s=v) (hx:a.eval x=.slice (some ⟨b,0,none⟩) 4 4)
  (h:∀ v' w',OwnB w' base v' (xs++[n0,n1,n2,n3])→w.grownBy w' v.ownBlock→wpList Tryz.prog ops Q rest (a.put o.dst v') w'):wpList Tryz.prog ops Q (o::rest) a w:=by
 subst e0 e1 e2 e3
 obtain⟨i,i1,i2,i3,i4⟩:=info_parts infoByte
 refine wpList_append_own w hgd s x 88 ho base 5 i _ 1 1 (by kernel_rfl) i1 i2 i3 i4 rfl (by decide) v _ _ hs hown ⟨b,0,none⟩ 4 4 [.int .u8 (n0:Nat),.int .u8 (n1:Nat),.int .u8 (n2:Nat),.int .u8 (n3:Nat)] hx rfl ?_ ?_ (by rw[bcells_len];unfold maxLen;omega) (by rw[bcells_len];omega) hbase ?_
 ·intro j u hj
  rw[Addr.add_mid,cell_of_row w _ (0+j) _ _ _ hb,Nat.zero_add,List.getElem?_toArray]
  exact hj
 ·intro u hu
  simp at hu
  rcases hu with rfl | rfl | rfl | rfl <;> rfl
 ·intro v' w' h1 h2 _
  refine h v' w' ?_ h2
  unfold OwnB OwnE
  have e:bcells (xs++[n0,n1,n2,n3])=bcells xs++[[.int .u8 (n0:Nat)],[.int .u8 (n1:Nat)],[.int .u8 (n2:Nat)],[.int .u8 (n3:Nat)]]:=by unfold bcells;rw[List.map_append];rfl
  rw[e,List.length_append,List.flatten_append]
  simpa using h1
end
theorem wordsB_take (l:List Nat)(k x:Nat)(h:l[k]?=some x):wordsB (l.take (k+1))=wordsB (l.take k)++[x / 16777216 % 256,x / 65536 % 256,x / 256 % 256,x % 256]:=by
 rw[take_snoc h,wordsB_snoc];rfl
theorem OwnB.cells {w:World}{base:Nat}{v:Value}{l:List Nat}(h:OwnB w base v l)(hl:0 < l.length):∃ b off cap,v=.slice (some ⟨b,off,none⟩) l.length cap∧l.length≤cap∧cap≤maxLen∧b < w.heap.size∧∀ k n,l[k]?=some n→w.cell? ⟨b,off+k,none⟩=some (.int .u8 (n:Nat)):=h.bs.bcell' hl
set_option maxHeartbeats 8000000 in
set_option maxRecDepth 100000 in
theorem r2sum_any (s:ByteArray)(w:World)(hs:s.size≤1000000000) :
  Calls Tryz.prog 35 #[.string s] w fun e w'=>e=.returned (.string (sumS s))∧Below w.heap.size w w':=by
 have HD8:Hid (∀ y∈padN (bytesS s),y < 256):=zh (padN_lt _ (bytesS_lt s))
 obtain⟨N1,hN1⟩:=padN_length (bytesS s)
 have hN9:64*(N1+1)≤1000000100:=by
  have e:(padN (bytesS s)).length=s.size+1+zerosN s.size+8:=by
   unfold padN lenBytes
   simp only[List.length_append,List.length_cons,List.length_replicate,List.length_nil,bytesS_length]
   omega
  have:=zeros_le s.size
  omega
 have HSS:Hid (sumS s=strOf (bytesOfH (upB (padN (bytesS s)) (N1+1)))):=zh (by rw[sumS_eq,shaN_up _ _ hN1])
 obtain⟨N,hN⟩:∃ N,N=N1+1:=⟨_,rfl⟩
 rw[← hN]at HSS hN1 hN9
 have hNpos:0 < N:=by omega
 have HE:=zh (fun W=>extended_any s W hs)
 obtain⟨D,hD⟩:∃ D,D=padN (bytesS s):=⟨_,rfl⟩
 rw[← hD]at HD8 HSS hN1 HE
 have HDl:=zh hN1
 obtain⟨R,hR⟩:∃ R,R=sumS s:=⟨_,rfl⟩
 rw[← hR]at HSS ⊢
 clear hR hD hN hN1
 obtain⟨V,hV⟩:∃ V:Nat→H8,V=upB D:=⟨_,rfl⟩
 have HV:Hid (V 0=h0N∧(∀ k,V (k+1)=blockH (V k) ((D.drop (64*k)).take 64))∧(∀ k,H32 (V k))∧R=strOf (bytesOfH (V N))):=zh (by
  rw[hV]
  exact⟨rfl,fun _=>rfl,fun k=>upB_32 D k,HSS.out⟩)
 clear hV HSS
 go_enter Tryz.func35,Tryz.ntmps35
 go_wp2_with (go_at_call 71;refine(HE.out _).mono ?_;rintro e w2 ⟨vd,rfl,ho2,hb2⟩;have HO2:=zh ho2;have HB2:=zh hb2;clear ho2 hb2)
 have HW1:Hid (WS (w.alloc (.cells #[.int .u32 1779033703,.int .u32 3144134277,.int .u32 1013904242,.int .u32 2773480762,.int .u32 1359893119,.int .u32 2600822924,.int .u32 528734635,.int .u32 1541459225] 156)) (.slice (some ⟨w.heap.size,0,none⟩) 8 8) (hl h0N)):=zh (WS.lit (hl h0N) (heap_alloc_new w _) rfl (by decide))
 have HB1:Hid (Below w.heap.size w (w.alloc (.cells #[.int .u32 1779033703,.int .u32 3144134277,.int .u32 1013904242,.int .u32 2773480762,.int .u32 1359893119,.int .u32 2600822924,.int .u32 528734635,.int .u32 1541459225] 156))):=zh (br0.alloc (Nat.le_refl _) _)
 generalize w.alloc (.cells #[.int .u32 1779033703,.int .u32 3144134277,.int .u32 1013904242,.int .u32 2773480762,.int .u32 1359893119,.int .u32 2600822924,.int .u32 528734635,.int .u32 1541459225] 156)=w1 at *
 have HV0:Hid (WS w2 (.slice (some ⟨w.heap.size,0,none⟩) 8 8) (hl (V 0))):=zh (by rw[HV.out.1];exact HW1.out.below HB2.out)
 have HB02:=zh (HB1.out.trans (HB2.out.mono HB1.out.size))
 obtain⟨gd,od,cd,hv,d1,d2,hgd,_⟩:=HO2.out.cells (by rw[HDl.out];omega)
 rw[HDl.out]at hv d1
 subst hv
 unfold maxLen at d2
 have HDS:Hid (SliceAt w2 (.slice (some ⟨gd,od,none⟩) (64*N) cd) 1 (bcells D)):=zh HO2.out.bs
 clear HW1 HB1 HB2 HO2 HE
 go_loopw [3,5] (fun v i wr=>∃ k:Nat,k≤N∧i=.int .i64 ((64*k:Nat):Int)∧Hid (WS wr v (hl (V k)))∧Hid (Below w2.heap.size w2 wr)) (fun _ i _=>64*N - (intOf i).toNat)
 case atStart=>exact⟨0,by omega,by simp,HV0,zh br0⟩
 case round =>
  obtain⟨k,hk,rfl,hS,hB⟩:=hrel
  obtain⟨gh,oh,ch,hv,q1,q2,hgh,hc3⟩:=hS.out.opened (by simp[hl])
  have h8l:(hl (V k)).length=8:=rfl
  rw[h8l]at hv q1
  subst hv
  unfold maxLen at q2
  have hws:=hB.out.size
  by_cases hlt:k < N
  ·have HBk:Hid (Calls Tryz.prog 72 #[.slice (some ⟨gh,oh,none⟩) 8 ch,.slice (some ⟨gd,od+64*k,none⟩) 64 (cd - 64*k)] wr fun e w'=>∃ v,e=.returned v∧WS w' v (hl (V (k+1)))∧Below wr.heap.size wr w'):=zh (by
    rw[HV.out.2.1 k]
    exact block_any hS.out (HV.out.2.2.1 k) (bcells_sub (HDS.out.below hB.out) (64*k) 64 (by omega) (by rw[HDl.out];omega)) (by rw[List.length_take,List.length_drop,HDl.out];omega) (fun x hx=>HD8.out x (List.mem_of_mem_drop (List.mem_of_mem_take hx))))
   have t1:((64*k:Nat):Int) < ((64*N:Nat):Int):=by omega
   have f1:IntKind.i64.wrap (((64*k:Nat):Int)+64)=((64*(k+1):Nat):Int):=by rw[IntWalk.i64_in _ (by omega)];omega
   clear hc3
   go_wp2_with (go_at_call 72;refine HBk.out.mono ?_;rintro e w3 ⟨v3,rfl,hs3,hb3⟩;have HS3:=zh hs3;have HB3:=zh (hB.out.trans (hb3.mono hws));clear hs3 hb3)
   go_roundw
   case rel=>exact⟨k+1,by omega,by congr 1,HS3,HB3⟩
   case measure=>simp[intOf];omega
  ·have eN:k=N:=by omega
   have t1:¬ ((64*k:Nat):Int) < ((64*N:Nat):Int):=by omega
   rw[eN]at hc3
   have HVR:=zh HV.out.2.2.2
   have HVc:Hid (∀ j n,(hl (V N))[j]?=some n→wr.cell? ⟨gh,oh+j,none⟩=some (.int .u32 (n:Nat))):=zh hc3
   have rV:=zh (HV.out.2.2.1 N)
   have HBW:=zh (HB02.out.trans (hB.out.mono HB02.out.size))
   clear hc3 hS HV h8l
   generalize V N=Y at *
   obtain⟨wz,hwz⟩:∃ wz,wz=wr:=⟨_,rfl⟩
   subst hwz
   go_wp2
   have HLg:=zh (hl_get Y)
   have HA8:Hid (wordsB ((hl Y).take 8)=bytesOfH Y):=zh (bytesOfH_words Y).symm
   have HA0:Hid (wordsB ((hl Y).take 0)=[]):=zh rfl
   have HAk:Hid (∀ k,(wordsB ((hl Y).take k)).length≤32):=zh (fun k=>by rw[wordsB_length,List.length_take];have:(hl Y).length=8:=rfl;omega)
   have HAT:=zh (fun k x=>wordsB_take (hl Y) k x)
   have HR8:=zh (bytesOfH_lt Y)
   have HRl:Hid ((bytesOfH Y).length=32):=zh (bytesOfH_length Y)
   clear hlt t1
   go_loopw [6,7] (fun v i wr=>∃ k:Nat,k≤8∧i=.int .i64 k∧Hid (OwnB wr wz.heap.size v (wordsB ((hl Y).take k)))∧Hid (Below wz.heap.size wz wr)) (fun _ i _=>8 - (intOf i).toNat)
   case atStart=>exact⟨0,by omega,rfl,zh (OwnE.nil _ _ _ _),zh br0⟩
   case round =>
    obtain⟨k,hk,rfl,hO,hB⟩:=hrel
    obtain⟨va,vn,vc,hv,hvn⟩:=OwnB.form hO.out
    by_cases hlt:k < 8
    ·subst hv
     clear hvn
     have c1:=cell_keepB hB.out hgh (HVc.out k _ (HLg.out k hlt))
     have r2:=hl_lt rV.out k
     have HT:=zh (HAT.out k _ (HLg.out k hlt))
     generalize lg (hl Y) k=x at *
     have tk:(k:Int) < 8:=by omega
     have tk0:(0:Int)≤(k:Int):=by omega
     have HXl:Hid ((wordsB ((hl Y).take k)).length≤1100000000):=zh (by have:=HAk.out k;omega)
     generalize wordsB ((hl Y).take k)=X at *
     go_wp2
     refine wp_region_late 24 1 [0] (fun w'=>∃ n,w'=wr.drewN n) (fun _=>True) (by kernel_rfl) (by kernel_rfl) ⟨1,rfl⟩ ?_
     simp only[List.take_succ_cons,List.take_zero,List.drop_succ_cons,List.drop_zero]
     repeat (go_big_quiet_step (fail))
     refine wpQuiet_nil ?_
     refine⟨fun W _ i o hi ho=>?late,?_⟩
     case late =>
      obtain rfl:i=0:=by simpa using hi
      simp only[List.getElem?_toArray,List.getElem?_cons_zero,Option.some.injEq]at ho
      subst ho
      refine⟨.slice va vn vc,?_,fun d hd=>by simp at hd;subst hd;rfl⟩
      simp[execOp,go_sem]
     rintro _ ⟨nr,rfl⟩
     refine⟨trivial,?_⟩
     clear c1
     have hO:Hid (OwnB (wr.drewN nr) wz.heap.size (.slice va vn vc) X):=zh (OwnE.drewN hO.out nr)
     have hB:Hid (Below wz.heap.size wz (wr.drewN nr)):=zh (below_drewN hB.out nr)
     generalize wr.drewN nr=wo at *
     have HOA:Hid (OwnB (wo.alloc (.cells #[.int .u8 ((x:Int) / 16777216),.int .u8 ((x:Int) / 65536 % 256),.int .u8 ((x:Int) / 256 % 256),.int .u8 ((x:Int) % 256)] 5)) wz.heap.size (.slice va vn vc) X):=zh (OwnE.alloc hO.out _)
     have HNA:=zh (heap_alloc_new wo (.cells #[.int .u8 ((x:Int) / 16777216),.int .u8 ((x:Int) / 65536 % 256),.int .u8 ((x:Int) / 256 % 256),.int .u8 ((x:Int) % 256)] 5))
     have HBA:=zh (hB.out.alloc hB.out.size (.cells #[.int .u8 ((x:Int) / 16777216),.int .u8 ((x:Int) / 65536 % 256),.int .u8 ((x:Int) / 256 % 256),.int .u8 ((x:Int) % 256)] 5))
     have E0:Hid ((x:Int) / 16777216=((x / 16777216 % 256:Nat):Int)):=zh (by omega)
     have E1:Hid ((x:Int) / 65536 % 256=((x / 65536 % 256:Nat):Int)):=zh (by omega)
     have E2:Hid ((x:Int) / 256 % 256=((x / 256 % 256:Nat):Int)):=zh (by omega)
     have E3:Hid ((x:Int) % 256=((x % 256:Nat):Int)):=zh (by omega)
     refine wpTail_step rfl ?_
     go_wp2
     refine⟨rfl,trivial,?_⟩
     unfold wpTail
     go_wp2_with (at_builtin;refine wpList_append_four _ _ wz.heap.size _ X wo.heap.size _ _ _ _ _ _ _ _ E0.out E1.out E2.out E3.out _ HOA.out HXl.out HBA.out.size HNA.out rfl rfl rfl rfl ?_;intro v7 w7 hown7 hgr7;have HO7:=zh hown7;have HB7:=zh (HBA.out.grown hgr7 HBA.out.size (fun j e=>OwnE.ge HOA.out j e));clear hown7 hgr7)
     refine⟨rfl,?_⟩
     go_wp2
     go_roundw
     case rel =>
      refine⟨k+1,by omega,by go_num,?_,HB7⟩
      rw[HT.out]
      exact HO7
     case measure=>simp[intOf];omega
    ·have e8:k=8:=by omega
     clear hv hvn
     rw[e8,HA8.out]at hO
     obtain⟨gx,ox,cx,hv,_,x2,_,hx3⟩:=hO.out.cells (by rw[HRl.out];omega)
     rw[HRl.out]at hv
     subst hv
     have HX3:=zh hx3
     clear hx3 hO hk
     have tk:¬ (k:Int) < 8:=by omega
     go_wp2_with (refine wpList_convS (bytesOfH Y) HR8.out 88 9 5 _ gx ox 32 cx rfl rfl rfl (by rw[HRl.out]) (by kernel_rfl) (by kernel_rfl) (by kernel_rfl) HX3.out ?_)
     go_ret
     exact⟨by rw[HVR.out];rfl,HBW.out.trans (hB.out.mono HBW.out.size)⟩
theorem mark_size (m:UInt8)(s:ByteArray):((⟨#[m]⟩:ByteArray)++s).size=s.size+1:=by
 rw[ByteArray.size_append]
 show 1+s.size=_
 omega
theorem leafS_eq (s:ByteArray):leafS s=sumS ((⟨#[0]⟩:ByteArray)++s):=rfl
theorem nodeS_eq (a b:ByteArray):nodeS a b=sumS ((⟨#[1]⟩:ByteArray)++(a++b)):=rfl
theorem r2mark_any (t u s:ByteArray)(h:t=u)(w:World)(hs:t.size≤1000000000)(hu:s=sumS u):Calls Tryz.prog 35 #[.string t] w fun e w'=>e=.returned (.string s)∧Below w.heap.size w w':=by
 subst h hu
 exact r2sum_any t w hs
theorem r2leaf_any (s:ByteArray)(w:World)(hs:s.size≤900000000):Calls Tryz.prog 11 #[.string s] w fun e w'=>e=.returned (.string (leafS s))∧Below w.heap.size w w':=by
 have hz:((⟨#[0]⟩:ByteArray)++s).size≤1000000000:=by have:=mark_size 0 s;omega
 obtain⟨R,hR⟩:∃ R,R=leafS s:=⟨_,rfl⟩
 have HS:=zh (r2mark_any ((⟨#[0]⟩:ByteArray)++s) _ R rfl w hz (hR.trans (leafS_eq s)))
 rw[← hR]
 clear hR hz
 go_enter Tryz.func11,Tryz.ntmps11
 go_wp2_with (go_at_call 35;refine HS.out.mono ?_;rintro e w1 ⟨rfl,hb⟩)
 go_ret
 exact⟨rfl,hb⟩
theorem r2node_any (a b:ByteArray)(w:World)(ha:a.size≤100000000)(hb:b.size≤100000000):Calls Tryz.prog 138 #[.string a,.string b] w fun e w'=>e=.returned (.string (nodeS a b))∧Below w.heap.size w w':=by
 have hz:((⟨#[1]⟩:ByteArray)++a++b).size≤1000000000:=by
  have:=mark_size 1 a
  rw[ByteArray.size_append]
  omega
 obtain⟨R,hR⟩:∃ R,R=nodeS a b:=⟨_,rfl⟩
 have HS:=zh (r2mark_any ((⟨#[1]⟩:ByteArray)++a++b) _ R ByteArray.append_assoc w hz (hR.trans (nodeS_eq a b)))
 rw[← hR]
 clear hR hz
 go_enter Tryz.func138,Tryz.ntmps138
 go_wp2_with (go_at_call 35;refine HS.out.mono ?_;rintro e w1 ⟨rfl,hb⟩)
 go_ret
 exact⟨rfl,hb⟩
end Go.Proofs.YtjjiikeldpjafaaGreatDoor
/- The reference's Hashed. The conditions: what the slice reads as, lengths. -/
namespace Go.Proofs.YtjjiikeldpjafaaGreatDoor
open Go.RowKit Go.BigFrame
theorem scells_len (xs:List ByteArray):(scells xs).length=xs.length:=by unfold scells;rw[List.length_map]
theorem OwnE.mono {w:World}{base base' size:Nat}{e:TypeId}{v:Value}{css:List (List Value)}(h:OwnE w base e size v css)(hb:base'≤base):OwnE w base' e size v css :=
 ⟨h.1,h.2.imp id fun⟨g,cap,cur,e1,h1,r⟩=>⟨g,cap,cur,e1,Nat.le_trans hb h1,r⟩⟩
section
variable {ops:Array Oper} {rest:List Oper} {o:Oper} {a:Act} {w:World} {Q:Exit→Act→World→Prop} {K:Act→World→Prop} {E:Prop}
end
end Go.Proofs.YtjjiikeldpjafaaGreatDoor
/- Facts for walks in which memory is made at any time: own rows, boxes of registers. The conditions: what the blocks hold. -/
namespace Go.Proofs.YtjjiikeldpjafaaGreatDoor
open Go.RowKit Go.BigFrame
theorem two_heap {W:World}{b:Nat}{c0 c1:Value}{T:TypeId}(h:W.heap[b]?=some (.cells #[c0,c1] T (0,0)))(x y:Value):((W.setCell ⟨b,0,none⟩ x).setCell ⟨b,1,none⟩ y).heap[b]?=some (.cells #[x,y] T (0,0)) :=
 heap_setCell_same (i:=1) y (heap_setCell_same (i:=0) x h)
theorem two_below {w W:World}{b B:Nat}(h:Below B w W)(hb:B≤b)(x y:Value):Below B w ((W.setCell ⟨b,0,none⟩ x).setCell ⟨b,1,none⟩ y) :=
 (h.setCell (p:=⟨b,0,none⟩) hb x).setCell (p:=⟨b,1,none⟩) hb y
theorem two_grown (W:World)(b:Nat)(x y:Value):W.grownBy ((W.setCell ⟨b,0,none⟩ x).setCell ⟨b,1,none⟩ y) (some b) :=
 grown_setCell (grown_setCell (grown_refl _ _) ⟨b,0,none⟩ (.inl rfl) x) ⟨b,1,none⟩ (.inl rfl) y
theorem two_cells {W:World}{b:Nat}{c0 c1:Value}{T:TypeId}(h:W.heap[b]?=some (.cells #[c0,c1] T (0,0))):W.cell? ⟨b,0,none⟩=some c0∧W.cell? ⟨b,1,none⟩=some c1∧(∀ j,W.frozen? ⟨b,j,none⟩=false) :=
 ⟨cell_of_row W _ 0 _ _ _ h,cell_of_row W _ 1 _ _ _ h,fun j=>by unfold World.frozen?;rw[h];simp⟩
theorem kept_block {w w':World}{b:Nat}{o:Obj}(h:w.heap[b]?=some o)(hb:Below w.heap.size w w'):w'.heap[b]?=some o:=(hb.block b (ltA h)).trans h
theorem below_next {w W W':World}(h:Below w.heap.size w W)(h':Below W.heap.size W W'):Below w.heap.size w W':=h.trans (h'.mono h.size)
/-! ### Nothing appended -/
section
variable {ops:Array Oper} {rest:List Oper} {o:Oper} {a:Act} {w:World} {Q:Exit→Act→World→Prop} {K:Act→World→Prop} {E:Prop}
end
end Go.Proofs.YtjjiikeldpjafaaGreatDoor
/- Small facts that the walks of TopReclaims share with the quorum's (the same names: no text of package quorum is imported beside it). No condition. -/
namespace Go.Proofs.YtjjiikeldpjafaaGreatDoor
open Go.RowKit Go.BigFrame
theorem q_next {w W W':World}(h:Below w.heap.size w W)(h':Below W.heap.size W W'):Below w.heap.size w W':=h.trans (h'.mono h.size)
theorem below_grownQ {w w':World}(hb:Below w.heap.size w w'):w.grownBy w' none:=⟨hb.os,hb.tape,hb.output,hb.size,fun i hi _=>hb.block i hi⟩
theorem builder_keepQ {T e:TypeId}{B b:Nat}{p:Value}{bs:List Value}{w w':World}(h:Lib.BuilderAt T e B b p bs w)(hb:Below w.heap.size w w'):Lib.BuilderAt T e B b p bs w':=by
 have hlt:=h.lt
 obtain⟨hB,v,hbk,hown,hne⟩:=h
 exact⟨hB,v,(hb.block b hlt).trans hbk,owns_any hown (below_grownQ hb),hne⟩
theorem isBuilder_keepQ {T e:TypeId}{B b:Nat}{bs:List Value}{w w':World}(h:Lib.IsBuilder T e B b bs w)(hb:Below w.heap.size w w'):Lib.IsBuilder T e B b bs w':=by
 rcases h with h | h
 ·exact .inl (builder_keepQ h hb)
 ·exact .inr (builder_keepQ h hb)
end Go.Proofs.YtjjiikeldpjafaaGreatDoor
/- TopReclaims: numbers within bounds, ranges, spells, proxies and wishes that are formed (the reference's and package wish's). The conditions: that they are. -/
namespace Go.Proofs.YtjjiikeldpjafaaGreatDoor
open Go.RowKit Go.BigFrame
def wagg (w:WishP):Value:=.agg #[.int .i64 w.sg,.int .i64 w.ho,.int .i64 w.rf,.int .i64 w.rt,.int .i64 w.ca,.int .i64 w.se,.int .i64 w.sf,.int .i64 w.st,.string w.sl]
def pagg (p:ProxP):Value:=.agg #[.int .i64 p.fr,.int .i64 p.tu,.int .i64 p.rf,.int .i64 p.rt,.int .i64 p.sf,.int .i64 p.st,.string p.sl]
def pcells (p:ProxP):List Value:=[.int .i64 p.fr,.int .i64 p.tu,.int .i64 p.rf,.int .i64 p.rt,.int .i64 p.sf,.int .i64 p.st,.string p.sl]
theorem nine_cells {W:World}{b:Nat}{c0 c1 c2 c3 c4 c5 c6 c7 c8:Value}{T:TypeId}(h:W.heap[b]?=some (.cells #[c0,c1,c2,c3,c4,c5,c6,c7,c8] T (0,0))) :
  W.cell? ⟨b,0,none⟩=some c0∧W.cell? ⟨b,1,none⟩=some c1∧W.cell? ⟨b,2,none⟩=some c2∧W.cell? ⟨b,3,none⟩=some c3∧W.cell? ⟨b,4,none⟩=some c4∧W.cell? ⟨b,5,none⟩=some c5∧W.cell? ⟨b,6,none⟩=some c6∧W.cell? ⟨b,7,none⟩=some c7∧W.cell? ⟨b,8,none⟩=some c8 :=
 ⟨cell_of_row W _ 0 _ _ _ h,cell_of_row W _ 1 _ _ _ h,cell_of_row W _ 2 _ _ _ h,cell_of_row W _ 3 _ _ _ h,cell_of_row W _ 4 _ _ _ h,cell_of_row W _ 5 _ _ _ h,cell_of_row W _ 6 _ _ _ h,cell_of_row W _ 7 _ _ _ h,cell_of_row W _ 8 _ _ _ h⟩
theorem seven_cells {W:World}{b:Nat}{c0 c1 c2 c3 c4 c5 c6:Value}{T:TypeId}(h:W.heap[b]?=some (.cells #[c0,c1,c2,c3,c4,c5,c6] T (0,0))) :
  W.cell? ⟨b,0,none⟩=some c0∧W.cell? ⟨b,1,none⟩=some c1∧W.cell? ⟨b,2,none⟩=some c2∧W.cell? ⟨b,3,none⟩=some c3∧W.cell? ⟨b,4,none⟩=some c4∧W.cell? ⟨b,5,none⟩=some c5∧W.cell? ⟨b,6,none⟩=some c6 :=
 ⟨cell_of_row W _ 0 _ _ _ h,cell_of_row W _ 1 _ _ _ h,cell_of_row W _ 2 _ _ _ h,cell_of_row W _ 3 _ _ _ h,cell_of_row W _ 4 _ _ _ h,cell_of_row W _ 5 _ _ _ h,cell_of_row W _ 6 _ _ _ h⟩
set_option maxHeartbeats 400000 in
theorem in15_any (n lo hi:Int)(w:World) :
  Calls Tryz.prog 135 #[.int .i64 n,.int .i64 lo,.int .i64 hi] w fun e w'=>e=.returned (.bool (decide (lo≤n∧n≤hi)))∧w'=w:=by
 by_cases h1:lo≤n
 ·have hd:decide (lo≤n)=true:=decide_eq_true h1
  go_enter Tryz.func135,Tryz.ntmps135
  go_wp2
  go_ret
  refine⟨ret_bool ?_,rfl⟩
  rw[Bool.eq_iff_iff]
  simp
  try omega
 ·have hd:decide (lo≤n)=false:=decide_eq_false h1
  go_enter Tryz.func135,Tryz.ntmps135
  go_wp2
  go_ret
  refine⟨ret_bool ?_,rfl⟩
  simp
  try omega
theorem in15_yes (n lo hi:Int)(h1:lo≤n)(h2:n≤hi)(w:World) :
  Calls Tryz.prog 135 #[.int .i64 n,.int .i64 lo,.int .i64 hi] w fun e w'=>e=.returned (.bool true)∧w'=w:=by
 have h:=in15_any n lo hi w
 rw[decide_eq_true ⟨h1,h2⟩]at h
 exact h
set_option maxHeartbeats 400000 in
theorem withW_any (n lo hi:Int)(w:World) :
  Calls Tryz.prog 60 #[.int .i64 n,.int .i64 lo,.int .i64 hi] w fun e w'=>e=.returned (.bool (decide (lo≤n∧n≤hi)))∧w'=w:=by
 by_cases h1:lo≤n
 ·have hd:decide (lo≤n)=true:=decide_eq_true h1
  go_enter Tryz.func60,Tryz.ntmps60
  go_wp2
  go_ret
  refine⟨ret_bool ?_,rfl⟩
  rw[Bool.eq_iff_iff]
  simp
  try omega
 ·have hd:decide (lo≤n)=false:=decide_eq_false h1
  go_enter Tryz.func60,Tryz.ntmps60
  go_wp2
  go_ret
  refine⟨ret_bool ?_,rfl⟩
  simp
  try omega
theorem withW_yes (n lo hi:Int)(h1:lo≤n)(h2:n≤hi)(w:World) :
  Calls Tryz.prog 60 #[.int .i64 n,.int .i64 lo,.int .i64 hi] w fun e w'=>e=.returned (.bool true)∧w'=w:=by
 have h:=withW_any n lo hi w
 rw[decide_eq_true ⟨h1,h2⟩]at h
 exact h
set_option maxHeartbeats 400000 in
theorem inC_any (n lo hi:Int)(w:World) :
  Calls Tryz.prog 69 #[.int .i64 n,.int .i64 lo,.int .i64 hi] w fun e w'=>e=.returned (.bool (decide (lo≤n∧n≤hi)))∧w'=w:=by
 by_cases h1:lo≤n
 ·have hd:decide (lo≤n)=true:=decide_eq_true h1
  go_enter Tryz.func69,Tryz.ntmps69
  go_wp2
  go_ret
  refine⟨ret_bool ?_,rfl⟩
  rw[Bool.eq_iff_iff]
  simp
  try omega
 ·have hd:decide (lo≤n)=false:=decide_eq_false h1
  go_enter Tryz.func69,Tryz.ntmps69
  go_wp2
  go_ret
  refine⟨ret_bool ?_,rfl⟩
  simp
  try omega
theorem inC_yes (n lo hi:Int)(h1:lo≤n)(h2:n≤hi)(w:World) :
  Calls Tryz.prog 69 #[.int .i64 n,.int .i64 lo,.int .i64 hi] w fun e w'=>e=.returned (.bool true)∧w'=w:=by
 have h:=inC_any n lo hi w
 rw[decide_eq_true ⟨h1,h2⟩]at h
 exact h
set_option maxHeartbeats 400000 in
theorem inH_any (n lo hi:Int)(w:World) :
  Calls Tryz.prog 39 #[.int .i64 n,.int .i64 lo,.int .i64 hi] w fun e w'=>e=.returned (.bool (decide (lo≤n∧n≤hi)))∧w'=w:=by
 by_cases h1:lo≤n
 ·have hd:decide (lo≤n)=true:=decide_eq_true h1
  go_enter Tryz.func39,Tryz.ntmps39
  go_wp2
  go_ret
  refine⟨ret_bool ?_,rfl⟩
  rw[Bool.eq_iff_iff]
  simp
  try omega
 ·have hd:decide (lo≤n)=false:=decide_eq_false h1
  go_enter Tryz.func39,Tryz.ntmps39
  go_wp2
  go_ret
  refine⟨ret_bool ?_,rfl⟩
  simp
  try omega
theorem inH_yes (n lo hi:Int)(h1:lo≤n)(h2:n≤hi)(w:World) :
  Calls Tryz.prog 39 #[.int .i64 n,.int .i64 lo,.int .i64 hi] w fun e w'=>e=.returned (.bool true)∧w'=w:=by
 have h:=inH_any n lo hi w
 rw[decide_eq_true ⟨h1,h2⟩]at h
 exact h
set_option maxHeartbeats 400000 in
theorem inL_any (n lo hi:Int)(w:World) :
  Calls Tryz.prog 154 #[.int .i64 n,.int .i64 lo,.int .i64 hi] w fun e w'=>e=.returned (.bool (decide (lo≤n∧n≤hi)))∧w'=w:=by
 by_cases h1:lo≤n
 ·have hd:decide (lo≤n)=true:=decide_eq_true h1
  go_enter Tryz.func154,Tryz.ntmps154
  go_wp2
  go_ret
  refine⟨ret_bool ?_,rfl⟩
  rw[Bool.eq_iff_iff]
  simp
  try omega
 ·have hd:decide (lo≤n)=false:=decide_eq_false h1
  go_enter Tryz.func154,Tryz.ntmps154
  go_wp2
  go_ret
  refine⟨ret_bool ?_,rfl⟩
  simp
  try omega
theorem inL_yes (n lo hi:Int)(h1:lo≤n)(h2:n≤hi)(w:World) :
  Calls Tryz.prog 154 #[.int .i64 n,.int .i64 lo,.int .i64 hi] w fun e w'=>e=.returned (.bool true)∧w'=w:=by
 have h:=inL_any n lo hi w
 rw[decide_eq_true ⟨h1,h2⟩]at h
 exact h
set_option maxHeartbeats 400000 in
theorem withR_any (n lo hi:Int)(w:World) :
  Calls Tryz.prog 42 #[.int .i64 n,.int .i64 lo,.int .i64 hi] w fun e w'=>e=.returned (.bool (decide (lo≤n∧n≤hi)))∧w'=w:=by
 by_cases h1:lo≤n
 ·have hd:decide (lo≤n)=true:=decide_eq_true h1
  go_enter Tryz.func42,Tryz.ntmps42
  go_wp2
  go_ret
  refine⟨ret_bool ?_,rfl⟩
  rw[Bool.eq_iff_iff]
  simp
  try omega
 ·have hd:decide (lo≤n)=false:=decide_eq_false h1
  go_enter Tryz.func42,Tryz.ntmps42
  go_wp2
  go_ret
  refine⟨ret_bool ?_,rfl⟩
  simp
  try omega
theorem withR_yes (n lo hi:Int)(h1:lo≤n)(h2:n≤hi)(w:World) :
  Calls Tryz.prog 42 #[.int .i64 n,.int .i64 lo,.int .i64 hi] w fun e w'=>e=.returned (.bool true)∧w'=w:=by
 have h:=withR_any n lo hi w
 rw[decide_eq_true ⟨h1,h2⟩]at h
 exact h
set_option maxHeartbeats 1000000 in
theorem range15_yes (a b:Int)(h1:0≤a)(h2:a < b)(h3:b≤100000000)(w:World) :
  Calls Tryz.prog 136 #[.agg #[.int .i64 a,.int .i64 b]] w fun e w'=>e=.returned (.bool true)∧Below w.heap.size w w':=by
 have HB:=zh ((Below.refl w.heap.size w).alloc (Nat.le_refl _) (.cells #[.int .i64 a,.int .i64 b] 28))
 go_enter Tryz.func136,Tryz.ntmps136
 go_wp2
 go_ret
 exact⟨rfl,HB.out⟩
set_option maxHeartbeats 1000000 in
theorem spell15_yes (a b:Int)(h1:0≤a)(h2:a < b)(h3:b≤10000001)(w:World) :
  Calls Tryz.prog 137 #[.agg #[.int .i64 a,.int .i64 b]] w fun e w'=>e=.returned (.bool true)∧Below w.heap.size w w':=by
 have HB:=zh ((Below.refl w.heap.size w).alloc (Nat.le_refl _) (.cells #[.int .i64 a,.int .i64 b] 29))
 go_enter Tryz.func137,Tryz.ntmps137
 go_wp2
 go_ret
 exact⟨rfl,HB.out⟩
set_option maxHeartbeats 1000000 in
theorem rangeW_yes (a b:Int)(h1:0≤a)(h2:a < b)(h3:b≤100000000)(w:World) :
  Calls Tryz.prog 61 #[.agg #[.int .i64 a,.int .i64 b]] w fun e w'=>e=.returned (.bool true)∧Below w.heap.size w w':=by
 have HB:=zh ((Below.refl w.heap.size w).alloc (Nat.le_refl _) (.cells #[.int .i64 a,.int .i64 b] 28))
 go_enter Tryz.func61,Tryz.ntmps61
 go_wp2
 go_ret
 exact⟨rfl,HB.out⟩
set_option maxHeartbeats 1000000 in
theorem spellW_yes (a b:Int)(h1:0≤a)(h2:a < b)(h3:b≤10000001)(w:World) :
  Calls Tryz.prog 62 #[.agg #[.int .i64 a,.int .i64 b]] w fun e w'=>e=.returned (.bool true)∧Below w.heap.size w w':=by
 have HB:=zh ((Below.refl w.heap.size w).alloc (Nat.le_refl _) (.cells #[.int .i64 a,.int .i64 b] 29))
 go_enter Tryz.func62,Tryz.ntmps62
 go_wp2
 go_ret
 exact⟨rfl,HB.out⟩
set_option maxHeartbeats 2000000 in
set_option maxRecDepth 100000 in
theorem proxy15_yes (p:ProxP)(h:formedP p=true)(w:World) :
  Calls Tryz.prog 89 #[pagg p] w fun e w'=>e=.returned (.bool true)∧Below w.heap.size w w':=by
 obtain⟨fr,tu,rf,rt,sf,st,sl⟩:=p
 unfold formedP at h
 replace h:=of_decide_eq_true h
 simp only at h
 obtain⟨⟨h1,h2⟩,⟨h3,h4⟩,h5,⟨h6,h7,h8⟩,h9,h10,h11⟩:=h
 obtain⟨W1,hW1⟩:∃ W1,W1=w.alloc (.cells #[.int .i64 fr,.int .i64 tu,.int .i64 rf,.int .i64 rt,.int .i64 sf,.int .i64 st,.string sl] 96):=⟨_,rfl⟩
 have HB1:Hid (Below w.heap.size w W1):=zh (by rw[hW1];exact br0.alloc (Nat.le_refl _) _)
 have HX1:Hid (W1.heap[w.heap.size]?=some (.cells #[.int .i64 fr,.int .i64 tu,.int .i64 rf,.int .i64 rt,.int .i64 sf,.int .i64 st,.string sl] 96 (0,0))):=zh (by rw[hW1];exact heap_alloc_new w _)
 have HC:=zh (fun W (hW:Below W1.heap.size W1 W)=>seven_cells (kept_block HX1.out hW))
 have HW1:=zh hW1
 clear hW1
 have hne:(fr != tu)=true:=by simpa using h5
 unfold pagg
 simp only
 have HR:Hid (Below W1.heap.size W1 W1):=zh br0
 obtain⟨c0,c1,c2,c3,c4,c5,c6⟩:=HC.out W1 HR.out
 go_enter Tryz.func89,Tryz.ntmps89
 go_upto_region 1 with fail
 rw[← HW1.out]
 go_wp2_with (first | (go_at_call 135;refine(in15_yes _ _ _ (by omega) (by omega) _).mono ?_;rintro e w' ⟨rfl,hw'⟩;replace hw':=hw'.symm;subst hw') | (go_at_call 136;refine(range15_yes _ _ (by omega) (by omega) (by omega) _).mono ?_;clear c0 c1 c2 c3 c4 c5 c6;rintro e wx ⟨rfl,hbx⟩;replace HR:=zh (q_next HR.out hbx);clear hbx;obtain⟨c0,c1,c2,c3,c4,c5,c6⟩:=HC.out wx HR.out) | (go_at_call 137;refine(spell15_yes _ _ (by omega) (by omega) (by omega) _).mono ?_;clear c0 c1 c2 c3 c4 c5 c6;rintro e wx ⟨rfl,hbx⟩;replace HR:=zh (q_next HR.out hbx);clear hbx;obtain⟨c0,c1,c2,c3,c4,c5,c6⟩:=HC.out wx HR.out))
 go_ret
 exact⟨by first | rfl | exact ret_bool hne,q_next HB1.out HR.out⟩
set_option maxHeartbeats 2000000 in
set_option maxRecDepth 100000 in
theorem wish15_yes (x:WishP)(h:formedW x=true)(w:World) :
  Calls Tryz.prog 92 #[wagg x] w fun e w'=>e=.returned (.bool true)∧Below w.heap.size w w':=by
 obtain⟨sg,ho,rf,rt,ca,se,sf,st,sl⟩:=x
 unfold formedW at h
 replace h:=of_decide_eq_true h
 simp only at h
 obtain⟨⟨h1,h2⟩,⟨h3,h4⟩,⟨h5,h6,h7⟩,⟨h8,h9⟩,⟨h10,h11⟩,h12,h13,h14⟩:=h
 obtain⟨W1,hW1⟩:∃ W1,W1=w.alloc (.cells #[.int .i64 sg,.int .i64 ho,.int .i64 rf,.int .i64 rt,.int .i64 ca,.int .i64 se,.int .i64 sf,.int .i64 st,.string sl] 31):=⟨_,rfl⟩
 have HB1:Hid (Below w.heap.size w W1):=zh (by rw[hW1];exact br0.alloc (Nat.le_refl _) _)
 have HX1:Hid (W1.heap[w.heap.size]?=some (.cells #[.int .i64 sg,.int .i64 ho,.int .i64 rf,.int .i64 rt,.int .i64 ca,.int .i64 se,.int .i64 sf,.int .i64 st,.string sl] 31 (0,0))):=zh (by rw[hW1];exact heap_alloc_new w _)
 have HC:=zh (fun W (hW:Below W1.heap.size W1 W)=>nine_cells (kept_block HX1.out hW))
 have HW1:=zh hW1
 clear hW1
 unfold wagg
 simp only
 have HR:Hid (Below W1.heap.size W1 W1):=zh br0
 obtain⟨c0,c1,c2,c3,c4,c5,c6,c7,c8⟩:=HC.out W1 HR.out
 go_enter Tryz.func92,Tryz.ntmps92
 go_upto_region 1 with fail
 rw[← HW1.out]
 go_wp2_with (first | (go_at_call 135;refine(in15_yes _ _ _ (by omega) (by omega) _).mono ?_;rintro e w' ⟨rfl,hw'⟩;replace hw':=hw'.symm;subst hw') | (go_at_call 136;refine(range15_yes _ _ (by omega) (by omega) (by omega) _).mono ?_;clear c0 c1 c2 c3 c4 c5 c6 c7 c8;rintro e wx ⟨rfl,hbx⟩;replace HR:=zh (q_next HR.out hbx);clear hbx;obtain⟨c0,c1,c2,c3,c4,c5,c6,c7,c8⟩:=HC.out wx HR.out) | (go_at_call 137;refine(spell15_yes _ _ (by omega) (by omega) (by omega) _).mono ?_;clear c0 c1 c2 c3 c4 c5 c6 c7 c8;rintro e wx ⟨rfl,hbx⟩;replace HR:=zh (q_next HR.out hbx);clear hbx;obtain⟨c0,c1,c2,c3,c4,c5,c6,c7,c8⟩:=HC.out wx HR.out))
 go_ret
 exact⟨rfl,q_next HB1.out HR.out⟩
set_option maxHeartbeats 2000000 in
set_option maxRecDepth 100000 in
theorem isProxy_yes (p:ProxP)(h:formedP p=true)(w:World) :
  Calls Tryz.prog 95 #[pagg p] w fun e w'=>e=.returned (.bool true)∧Below w.heap.size w w':=by
 obtain⟨fr,tu,rf,rt,sf,st,sl⟩:=p
 unfold formedP at h
 replace h:=of_decide_eq_true h
 simp only at h
 obtain⟨⟨h1,h2⟩,⟨h3,h4⟩,h5,⟨h6,h7,h8⟩,h9,h10,h11⟩:=h
 obtain⟨W1,hW1⟩:∃ W1,W1=w.alloc (.cells #[.int .i64 fr,.int .i64 tu,.int .i64 rf,.int .i64 rt,.int .i64 sf,.int .i64 st,.string sl] 96):=⟨_,rfl⟩
 have HB1:Hid (Below w.heap.size w W1):=zh (by rw[hW1];exact br0.alloc (Nat.le_refl _) _)
 have HX1:Hid (W1.heap[w.heap.size]?=some (.cells #[.int .i64 fr,.int .i64 tu,.int .i64 rf,.int .i64 rt,.int .i64 sf,.int .i64 st,.string sl] 96 (0,0))):=zh (by rw[hW1];exact heap_alloc_new w _)
 have HC:=zh (fun W (hW:Below W1.heap.size W1 W)=>seven_cells (kept_block HX1.out hW))
 have HW1:=zh hW1
 clear hW1
 have hne:(fr != tu)=true:=by simpa using h5
 unfold pagg
 simp only
 have HR:Hid (Below W1.heap.size W1 W1):=zh br0
 obtain⟨c0,c1,c2,c3,c4,c5,c6⟩:=HC.out W1 HR.out
 go_enter Tryz.func95,Tryz.ntmps95
 go_upto_region 1 with fail
 rw[← HW1.out]
 go_wp2_with (first | (go_at_call 60;refine(withW_yes _ _ _ (by omega) (by omega) _).mono ?_;rintro e w' ⟨rfl,hw'⟩;replace hw':=hw'.symm;subst hw') | (go_at_call 61;refine(rangeW_yes _ _ (by omega) (by omega) (by omega) _).mono ?_;clear c0 c1 c2 c3 c4 c5 c6;rintro e wx ⟨rfl,hbx⟩;replace HR:=zh (q_next HR.out hbx);clear hbx;obtain⟨c0,c1,c2,c3,c4,c5,c6⟩:=HC.out wx HR.out) | (go_at_call 62;refine(spellW_yes _ _ (by omega) (by omega) (by omega) _).mono ?_;clear c0 c1 c2 c3 c4 c5 c6;rintro e wx ⟨rfl,hbx⟩;replace HR:=zh (q_next HR.out hbx);clear hbx;obtain⟨c0,c1,c2,c3,c4,c5,c6⟩:=HC.out wx HR.out))
 go_ret
 exact⟨by first | rfl | exact ret_bool hne,q_next HB1.out HR.out⟩
set_option maxHeartbeats 2000000 in
set_option maxRecDepth 100000 in
theorem isWish_yes (x:WishP)(h:formedW x=true)(w:World) :
  Calls Tryz.prog 22 #[wagg x] w fun e w'=>e=.returned (.bool true)∧Below w.heap.size w w':=by
 obtain⟨sg,ho,rf,rt,ca,se,sf,st,sl⟩:=x
 unfold formedW at h
 replace h:=of_decide_eq_true h
 simp only at h
 obtain⟨⟨h1,h2⟩,⟨h3,h4⟩,⟨h5,h6,h7⟩,⟨h8,h9⟩,⟨h10,h11⟩,h12,h13,h14⟩:=h
 obtain⟨W1,hW1⟩:∃ W1,W1=w.alloc (.cells #[.int .i64 sg,.int .i64 ho,.int .i64 rf,.int .i64 rt,.int .i64 ca,.int .i64 se,.int .i64 sf,.int .i64 st,.string sl] 31):=⟨_,rfl⟩
 have HB1:Hid (Below w.heap.size w W1):=zh (by rw[hW1];exact br0.alloc (Nat.le_refl _) _)
 have HX1:Hid (W1.heap[w.heap.size]?=some (.cells #[.int .i64 sg,.int .i64 ho,.int .i64 rf,.int .i64 rt,.int .i64 ca,.int .i64 se,.int .i64 sf,.int .i64 st,.string sl] 31 (0,0))):=zh (by rw[hW1];exact heap_alloc_new w _)
 have HC:=zh (fun W (hW:Below W1.heap.size W1 W)=>nine_cells (kept_block HX1.out hW))
 have HW1:=zh hW1
 clear hW1
 unfold wagg
 simp only
 have HR:Hid (Below W1.heap.size W1 W1):=zh br0
 obtain⟨c0,c1,c2,c3,c4,c5,c6,c7,c8⟩:=HC.out W1 HR.out
 go_enter Tryz.func22,Tryz.ntmps22
 go_upto_region 1 with fail
 rw[← HW1.out]
 go_wp2_with (first | (go_at_call 60;refine(withW_yes _ _ _ (by omega) (by omega) _).mono ?_;rintro e w' ⟨rfl,hw'⟩;replace hw':=hw'.symm;subst hw') | (go_at_call 61;refine(rangeW_yes _ _ (by omega) (by omega) (by omega) _).mono ?_;clear c0 c1 c2 c3 c4 c5 c6 c7 c8;rintro e wx ⟨rfl,hbx⟩;replace HR:=zh (q_next HR.out hbx);clear hbx;obtain⟨c0,c1,c2,c3,c4,c5,c6,c7,c8⟩:=HC.out wx HR.out) | (go_at_call 62;refine(spellW_yes _ _ (by omega) (by omega) (by omega) _).mono ?_;clear c0 c1 c2 c3 c4 c5 c6 c7 c8;rintro e wx ⟨rfl,hbx⟩;replace HR:=zh (q_next HR.out hbx);clear hbx;obtain⟨c0,c1,c2,c3,c4,c5,c6,c7,c8⟩:=HC.out wx HR.out))
 go_ret
 exact⟨rfl,q_next HB1.out HR.out⟩
end Go.Proofs.YtjjiikeldpjafaaGreatDoor
/- The iterator over the groups of seven bits of a number. The condition: the number is below 2^28. -/
namespace Go.Proofs.YtjjiikeldpjafaaGreatDoor
open Go.RowKit Go.BigFrame Go.Shelf
attribute [local go_sem] Oper.semAt_some
abbrev Grp:={ p:Nat × Bool // p.1 < 128 }
def Grp.enc (x:Grp):Array Value:=#[.int .u8 (x.1.1:Nat),.bool x.1.2]
def Grp.byte (x:Grp):UInt8:=UInt8.ofNat (if x.1.2 then x.1.1 else x.1.1+128)
def grpL (fuel:Nat)(z:Nat):List Grp:=match fuel with
 | 0=>[⟨(z % 128,true),Nat.mod_lt _ (by decide)⟩]
 | f+1=>if z < 128 then[⟨(z % 128,true),Nat.mod_lt _ (by decide)⟩]else⟨(z % 128,false),Nat.mod_lt _ (by decide)⟩::grpL f (z / 128)
theorem grpL_bytes:∀(f z:Nat),z < 128 ^ (f+1)→(grpL f z).map Grp.byte=grp f z
 | 0,z,h=>by
  unfold grpL grp Grp.byte
  simp only[List.map_cons,List.map_nil,if_true]
  rw[Nat.mod_eq_of_lt (by simpa using h)]
 | f+1,z,h=>by
  unfold grpL grp
  by_cases hz:z < 128
  ·rw[if_pos hz,if_pos hz]
   unfold Grp.byte
   simp only[List.map_cons,List.map_nil,if_true]
   rw[Nat.mod_eq_of_lt hz]
  ·rw[if_neg hz,if_neg hz,List.map_cons,grpL_bytes f (z / 128) (by rw[Nat.pow_succ]at h;omega)]
   rfl
theorem grpL_ne (f z:Nat):grpL f z≠[]:=by
 cases f <;> unfold grpL <;> (try split) <;> simp
theorem grpL_pos (f z r:Nat)(h:z < 128)(hr:r=z % 128)(hr':r < 128):grpL f z=[⟨(r,true),hr'⟩]:=by
 subst hr
 cases f with
 | zero=>rfl
 | succ f=>rw[grpL,if_pos h]
theorem grpL_neg (f z r q:Nat)(h:¬ z < 128)(hr:r=z % 128)(hr':r < 128)(hq:q=z / 128):grpL (f+1) z=⟨(r,false),hr'⟩::grpL f q:=by
 subst hr hq
 rw[grpL,if_neg h]
theorem and127 (z:Nat)(hz:z < 18446744073709551616):bits BinOp.and IntKind.u64 (z:Int) 127 % 256=((z % 128:Nat):Int):=by
 have h:=u64_and_nat z 127 hz (by decide)
 have e:((127:Nat):Int)=127:=rfl
 rw[e]at h
 rw[h,Nat.and_two_pow_sub_one_eq_mod z 7]
 omega
def u64At (w:World)(b:Nat):Nat:=match w.cell? ⟨b,0,none⟩with
 | some (.int _ n)=>n.toNat
 | _=>0
set_option maxRecDepth 100000 in
set_option maxHeartbeats 1000000 in
theorem groups_iter (b z:Nat)(hz:z < 268435456)(w0:World)(hb:w0.heap[b]?=some (.cells #[.int .u64 z] 195 (0,0))) :
  Iter Tryz.prog 142 #[.pointer (some ⟨b,0,none⟩)] Grp.enc (fun A B=>B.heap[b]?=A.heap[b]?) (some b) (fun xs=>xs=grpL 3 z) (fun _=>True) 4 w0:=by
 intro F m hF hro l J Jx W hW hJ hJx hY h0
 have hbl:b < w0.heap.size:=(ltA hb)
 have hbW:W.heap[b]?=some (.cells #[.int .u64 z] 195 (0,0)):=(hW.block b hbl).trans hb
 have HN:=zh hz
 clear hz hb hW
 refine callsIn_of_wp Tryz.func142 rfl (hF.1 _) ?_ hro
 simp only[Tryz.ntmps142,List.size_toArray,List.length_cons,List.length_nil,Nat.reduceAdd,Nat.reduceSub,Array.replicate_succ,Array.replicate_zero,List.push_toArray,List.append_toArray,List.nil_append,List.cons_append]
 gi_wp2
 gi_loopw [3] (fun u wr=>∃(pre:List Grp) (c f:Nat),f≤3∧Hid (wr.heap[b]?=some (.cells #[.int .u64 (c:Nat)] 195 (0,0)))∧Hid (pre++grpL f c=grpL 3 z∧c < 128 ^ (f+1)∧pre.length+f=3)∧J pre wr) (fun u wr=>u64At wr b)
 case atStart =>
  exact⟨[],z,3,by omega,hbW,⟨rfl,by have:=HN.out;omega,rfl⟩,h0⟩
 case round =>
  obtain⟨pre,c,f,hf3,hcell,hpre,hJs⟩:=hrel
  have c0:wr.cell? ⟨b,0,none⟩=some (.int .u64 (c:Nat)):=cell_of_row wr _ 0 _ _ _ hcell.out
  have cf:wr.frozen? ⟨b,0,none⟩=false:=frozen_of_row _ _ _ _ _ hcell.out
  have hc28:c < 268435456:=Nat.lt_of_lt_of_le hpre.out.2.1 (by
   have:128 ^ (f+1)≤128 ^ (3+1):=Nat.pow_le_pow_right (by decide) (by omega)
   simpa using this)
  obtain⟨r,hr⟩:∃ r,r=c % 128:=⟨_,rfl⟩
  have hr128:r < 128:=by rw[hr];exact Nat.mod_lt _ (by decide)
  have hand:bits BinOp.and IntKind.u64 (c:Int) 127 % 256=(r:Int):=by rw[hr];exact and127 c (by omega)
  have HRr:=zh hr
  clear hr
  have hlen:pre.length < 4:=by have:=hpre.out.2.2;omega
  by_cases hz:c < 128
  ·have hlt:decide ((c:Int) < 128)=true:=decide_eq_true (by omega)
   obtain⟨fn,tmps,assign,body,hy,hR⟩:=hY pre ⟨(r,true),hr128⟩ wr hJs hlen
   dsimp only [Grp.enc]at hy
   have HZ:=zh hz
   clear hz hc28
   gi_wp2
   refine⟨fun h=>(by rw[hF.2.1]at h;cases h),hR.mono ?_⟩
   rintro e W3 (⟨rfl,hJ3,hk3⟩ | ⟨rfl,hJx3⟩)
   ·gi_wp2
    refine bodyPost_ret (results_none rfl _ _ _) rfl ?_
    refine⟨⟨_,rfl⟩,.inl ⟨_,?_,hJ3⟩⟩
    rw[← hpre.out.1]
    refine congrArg (pre++·) ?_
    exact(grpL_pos f c r HZ.out HRr.out hr128).symm
   ·gi_wp2
    refine bodyPost_ret (results_none rfl _ _ _) rfl ?_
    exact⟨⟨_,rfl⟩,.inr ⟨_,trivial,hJx3⟩⟩
  ·have hlt:decide ((c:Int) < 128)=false:=decide_eq_false (by omega)
   obtain⟨f',rfl⟩:∃ f',f=f'+1:=by
    cases f with
    | zero=>exact absurd hpre.out.2.1 (by simpa using hz)
    | succ f'=>exact⟨f',rfl⟩
   have hnext:Hid ((pre++[⟨(r,false),hr128⟩])++grpL f' (c / 128)=grpL 3 z∧c / 128 < 128 ^ (f'+1)∧(pre++[(⟨(r,false),hr128⟩:Grp)]).length+f'=3):=by
    refine zh ⟨?_,?_,?_⟩
    ·rw[← hpre.out.1,List.append_assoc]
     refine congrArg (pre++·) ?_
     exact(grpL_neg f' c r (c / 128) hz HRr.out hr128 rfl).symm
    ·have:=hpre.out.2.1
     rw[Nat.pow_succ]at this
     omega
    ·have:=hpre.out.2.2
     simp only[List.length_append,List.length_cons,List.length_nil]
     omega
   obtain⟨fn,tmps,assign,body,hy,hR⟩:=hY pre ⟨(r,false),hr128⟩ wr hJs hlen
   dsimp only [Grp.enc]at hy
   obtain⟨q,hq⟩:∃ q,q=c / 128:=⟨_,rfl⟩
   have hsh:(c:Int) / 128=(q:Int):=by omega
   have hqc:Hid (q < c):=zh (by omega)
   rw[← hq]at hnext
   clear hz hc28 hq
   gi_wp2
   refine⟨fun h=>(by rw[hF.2.1]at h;cases h),hR.mono ?_⟩
   rintro e W3 (⟨rfl,hJ3,hk3⟩ | ⟨rfl,hJx3⟩)
   ·have hcell3:W3.heap[b]?=some (.cells #[.int .u64 (c:Nat)] 195 (0,0)):=hk3.trans hcell.out
    have c3:W3.cell? ⟨b,0,none⟩=some (.int .u64 (c:Nat)):=cell_of_row W3 _ 0 _ _ _ hcell3
    have cf3:W3.frozen? ⟨b,0,none⟩=false:=frozen_of_row _ _ _ _ _ hcell3
    have HC3:=zh hcell3
    clear hcell3 hk3
    gi_wp2
    go_roundw
    case rel =>
     refine⟨_,q,f',by omega,?_,hnext,?_⟩
     ·exact heap_setCell_same _ HC3.out
     ·exact hJ _ _ _ hJ3 (IStep.write HC3.out _)
    case measure =>
     have h1:(W3.setCell ⟨b,0,none⟩ (.int .u64 (q:Nat))).cell? ⟨b,0,none⟩=some (.int .u64 (q:Nat)) :=
      cell_of_row _ _ 0 _ _ _ (heap_setCell_same _ HC3.out)
     show u64At _ b < u64At _ b
     unfold u64At
     rw[h1,c0]
     simpa using hqc.out
   ·gi_wp2
    refine bodyPost_ret (results_none rfl _ _ _) rfl ?_
    exact⟨⟨_,rfl⟩,.inr ⟨_,trivial,hJx3⟩⟩
end Go.Proofs.YtjjiikeldpjafaaGreatDoor
/- wire.PutInt at a number below 2^27. The condition: the bounds. -/
namespace Go.Proofs.YtjjiikeldpjafaaGreatDoor
open Go.RowKit Go.BigFrame Go.Shelf
attribute [local go_sem] Oper.semAt_some
theorem OwnE.grownX {w w':World}{base size:Nat}{e:TypeId}{v:Value}{css:List (List Value)}(h:OwnE w base e size v css){k:Nat}{o:Obj}(hk:w.heap[k]?=some o)(hne:∀ c,o≠.cells c e (0,0))(hg:w.grownBy w' (some k)):OwnE w' base e size v css :=
 World.ownsRow.kept h hg (.inr (fun e'=>own_ne h hk hne e'.symm))
def Grp.nat (x:Grp):Nat:=if x.1.2 then x.1.1 else x.1.1+128
def gcells (pre:List Grp):List (List Value):=pre.map fun x=>[Value.int .u8 (x.nat:Nat)]
theorem Grp.nat_lt (x:Grp):x.nat < 256:=by
 unfold Grp.nat
 have:=x.2
 split <;> omega
theorem strOf_grp (xs:List Grp):strOf (xs.map Grp.nat)=⟨(xs.map Grp.byte).toArray⟩:=by
 unfold strOf
 rw[List.map_map]
 rfl
theorem or128:∀ g:Fin 128,bits BinOp.or IntKind.u8 ((g.val:Nat):Int) 128=((g.val+128:Nat):Int):=by decide +kernel
theorem shr63L (n:Nat)(hn:n < 134217728)(w:World):(Op.shift BinOp.shr IntKind.i64 (n:Int) IntKind.u64 63).run Tryz.prog w=.ok (.int .i64 0) w:=by
 have h:(n:Int).fdiv (2 ^ (min (63:Int).toNat IntKind.i64.bits))=0:=by
  have e:(2:Int) ^ (min (63:Int).toNat IntKind.i64.bits)=9223372036854775808:=by decide
  rw[e,Int.fdiv_eq_ediv_of_nonneg _ (by decide)]
  omega
 unfold Op.shift
 simp only[show ¬ ((63:Int) < 0)from by decide,if_false,h]
 rfl
theorem wpList_shr63L {ops:Array Oper}{rest:List Oper}{o:Oper}{a:Act}{w:World}{Q:Exit→Act→World→Prop}(n:Nat)(hn:n < 134217728)(x y:Operand)(hgd:o.guard=none)(t1 t2:TypeId)(ho:o.op=Op.binOp BinOp.shr t1 x y t2)(hx:a.eval x=.int .i64 n)(hy:a.eval y=.int .u64 63)
  (h:wpList Tryz.prog ops Q rest (a.put o.dst (.int .i64 0)) w):wpList Tryz.prog ops Q (o::rest) a w:=by
 refine wpList_run hgd ?_ h
 unfold execOp
 simp only[ho,hx,hy]
 simp only[go_sem]
 simp[shr63L n hn w]
theorem OwnE.bytes {w:World}{base:Nat}{v:Value}{xs:List Grp}(h:OwnE w base 5 1 v (gcells xs))(hne:xs≠[]):∃ g cap,v=.slice (some ⟨g,0,none⟩) xs.length cap∧∀ j y,(xs.map Grp.nat)[j]?=some y→w.cell? ⟨g,0+j,none⟩=some (.int .u8 (y:Nat)):=by
 have hl:(gcells xs).length=xs.length:=by unfold gcells;rw[List.length_map]
 rcases h.2 with⟨_,h0⟩ | ⟨g,cap,cur,hv,hb,hg,h1,h2,h3,h4⟩
 ·rw[hl]at h0
  exact absurd (List.eq_nil_of_length_eq_zero h0) hne
 ·rw[hl]at hv
  refine⟨g,cap,hv,fun j y hj=>?_⟩
  rw[List.getElem?_map]at hj
  cases hx:xs[j]? with
  | none=>rw[hx]at hj;cases hj
  | some x =>
   rw[hx]at hj
   cases hj
   have e:(gcells xs).flatten=xs.map fun x=>Value.int .u8 (x.nat:Nat):=by
    unfold gcells
    clear h h4 hx hl hne hv h1
    induction xs with
    | nil=>rfl
    | cons a t ih=>rw[List.map_cons,List.flatten_cons,ih];rfl
   have h5:=World.ownsRow.cells (g:=g) h (by rw[hv];rfl) j (.int .u8 (x.nat:Nat)) (by rw[e,List.getElem?_map,hx];rfl)
   rw[Addr.add_mid]at h5
   exact h5
set_option maxHeartbeats 400000 in
set_option maxRecDepth 100000 in
theorem putI_any (n:Nat)(hn:n < 134217728)(w:World) :
  Calls Tryz.prog 67 #[.int .i64 n] w fun e w'=>e=.returned (.tuple #[.string ⟨(putN n).toArray⟩,.int .i64 0])∧Below w.heap.size w w':=by
 have h1:decide ((n:Int) < -4611686018427387903)=false:=decide_eq_false (by omega)
 have h2:decide ((4611686018427387903:Int) < (n:Int))=false:=decide_eq_false (by omega)
 obtain⟨z,hz⟩:∃ z,z=2*n:=⟨_,rfl⟩
 have hz28:z < 268435456:=by omega
 have hxor:bits BinOp.xor IntKind.u64 ((n:Int)*2) 0=(z:Int):=by
  have h:=u64_xor_nat (n*2) 0 (by omega) (by decide)
  rw[Nat.xor_zero]at h
  rw[hz,Nat.mul_comm 2 n,← h]
  rfl
 have hshl:IntKind.u64.wrap ((n:Int)*2)=(n:Int)*2:=by rw[IntKind.wrap_u64];omega
 have hput:Hid (putN (n:Int)=grp 3 z):=zh (by unfold putN;rw[Int.toNat_natCast,hz])
 obtain⟨R,hR⟩:∃ R,R=putN (n:Int):=⟨_,rfl⟩
 rw[← hR]at hput ⊢
 clear hz hR
 refine calls_of_callsIn (n:=8) Wide.wide (callsIn_of_wp_marks Tryz.func67 rfl trivial ?_)
 simp only[Tryz.ntmps67,List.size_toArray,List.length_cons,List.length_nil,Nat.reduceAdd,Nat.reduceSub,Array.replicate_succ,Array.replicate_zero,List.push_toArray,List.append_toArray,List.nil_append,List.cons_append]
 refine wpIn_wide.2 ?_
 go_wp2_with (first | (refine wpList_shr63L n hn (.tmp 16) (.const (.int .u64 63)) rfl _ _ rfl rfl rfl ?_) | (go_at_call 96;(try rw[hxor]);refine(groups_any z _).mono ?_;rintro e w1 ⟨rfl,rfl⟩))
 obtain⟨W5,hW5⟩:∃ W5,W5=(w.alloc (.cells #[.slice none 0 0] 88)).alloc (.cells #[.int .u64 z] 195):=⟨_,rfl⟩
 rw[← hW5]
 have HB0:Hid (W5.heap[w.heap.size]?=some (.cells #[.slice none 0 0] 88 (0,0))):=zh (by rw[hW5];exact at_past w _ _)
 have HB1:Hid (W5.heap[w.heap.size+1]?=some (.cells #[.int .u64 z] 195 (0,0))):=zh (by rw[hW5];exact at_second w _ _)
 have HBw:Hid (Below w.heap.size w W5):=zh (by rw[hW5];exact(br0.alloc (by omega) _).alloc (by simp) _)
 have hs5:W5.heap.size=w.heap.size+2:=by rw[hW5];simp
 obtain⟨b0,hb0⟩:∃ b0,b0=w.heap.size:=⟨_,rfl⟩
 rw[← hb0]at HB0 HB1 hs5 ⊢
 have hwb:w.heap.size≤b0:=by omega
 clear hb0 hW5
 refine(wpIn_wide (n:=8)).1 ?_
 refine wpIn_range (n:=8) Wide.wide rfl (gf:=142) (lb:=#[.pointer (some ⟨b0+1,0,none⟩)]) ?ev (fun args w=>?enter) (groups_iter (b0+1) z hz28 W5 HB1.out) br0 (fun x=>rfl) (fun q e=>by cases e;omega) (fun h h'=>h'.trans h) (fun W l o o' h1 h2 h3 h4=>?kb)
  (fun pre W=>(∃ v,W.heap[b0]?=some (.cells #[v] 88 (0,0))∧(OwnE W w.heap.size 5 1 v (gcells pre)∧∃ c,W.heap[b0+1]?=some (.cells c 195 (0,0))))∧Below w.heap.size w W)
  (fun _ _ _=>False) ?abide (fun _=>abide_false _ _) ⟨⟨_,HB0.out,OwnE.nil _ _ _ _,_,HB1.out⟩,HBw.out⟩ (fun x=>⟨#[Value.int IntKind.i64 n,undef,Value.string ⟨#[]⟩,Value.int IntKind.i64 0,Value.pointer (some ⟨b0,0,none⟩),Value.int IntKind.u8 (x.1.1:Nat),Value.bool x.1.2,Value.int IntKind.i64 n,Value.bool false,Value.bool false,Value.int IntKind.i64 n,Value.bool false,Value.bool false,Value.int IntKind.i64 n,Value.int IntKind.u64 n,Value.int IntKind.u64 ((n:Int)*2),Value.int IntKind.i64 n,Value.int IntKind.i64 0,Value.int IntKind.u64 0,Value.int IntKind.u64 z,Value.func (Fn.func 142) #[] #[Value.pointer (some ⟨b0+1,0,none⟩)],Value.int IntKind.u8 (x.1.1:Nat),Value.bool x.1.2,undef,undef,undef,undef,undef,undef,undef,undef,undef,undef],[]⟩) (fun l x W K hK=>?assign) (fun l pre x W hI hlen=>?body) (fun Dm xs W hDm hS hI hDd=>?done) (fun Dm c pre W hD hS hI=>hI.elim)
 case assign =>
  simp only[Grp.enc,List.zip_toArray,List.zip_cons_cons,List.zip_nil_right,List.foldl_toArray',List.foldl_cons,List.foldl_nil,List.setIfInBounds_toArray,List.set_cons_succ,List.set_cons_zero]
  gi_wp2
  exact hK
 case ev=>rfl
 case enter=>kernel_rfl
 case kb=>exact World.putObj_heap_other (fun e=>by omega)
 case abide=>exact abide_and (abide_ex fun v=>abide_and (abide_cells (fun _=>.cells #[v] 88) (fun _=>rfl) (by simp)) (abide_owns (e:=5) (e':=195) v (fun pre=>(gcells pre).length) (fun pre=>(gcells pre).flatten) (by decide))) (abide_below (by omega) (Nat.le_refl _) (fun q e=>by cases e;omega))
 case body =>
  obtain⟨⟨v,g1,g2,c,g3⟩,g4⟩:=hI
  have hlc:(gcells pre).length < 4:=by unfold gcells;rw[List.length_map];exact hlen
  have hs7:=g4.size
  have c1:W.cell? ⟨b0,0,none⟩=some v:=cell_of_row W _ 0 _ _ _ g1
  have hb0W:b0+1 < W.heap.size:=(ltA g3)
  have hg0:gcells (pre++[x])=gcells pre++[[Value.int .u8 (x.nat:Nat)]]:=by unfold gcells;rw[List.map_append];rfl
  have HG0:=zh hg0
  have G1:=zh g1
  have G2:=zh g2
  have G3:=zh g3
  have G4:=zh g4
  obtain⟨va,vcp,hv⟩:=g2.form
  subst hv
  obtain⟨⟨g,last⟩,hg⟩:=x
  obtain⟨y,hy⟩:∃ y,y=Grp.nat ⟨(g,last),hg⟩:=⟨_,rfl⟩
  rw[← hy]at HG0
  have hor0:last=false→bits BinOp.or IntKind.u8 (g:Int) 128=(y:Int):=fun e=>by rw[hy,e];exact or128 ⟨g,hg⟩
  have hyv:(last=true∧y=g)∨last=false:=by
   rw[hy]
   cases last
   ·exact .inr rfl
   ·exact .inl ⟨rfl,rfl⟩
  clear g1 g2 g3 g4 hg0 hy
  rcases hyv with⟨rfl,rfl⟩ | rfl
  all_goals
   try have hor:=hor0 rfl
   clear hor0
   dsimp only
   gi_wp2_with (refine wpListIn_append_el 88 5 1 1 _ (by kernel_rfl) infoU8 rfl (by decide) rfl (.tmp 27) (.tmp 29) rfl w.heap.size (.slice va (gcells pre).length vcp) (gcells pre) rfl (G2.out.alloc _) W.heap.size [.int .u8 y] rfl (fun u hu=>by rw[List.mem_singleton]at hu;subst hu;rfl) rfl (0,0) (heap_alloc_new _ _) (by unfold maxLen;omega) (by omega) (by simp;omega) ?_;intro v3 w3 ho3 hg3;have HG3:=zh hg3;have HO3:=zh ho3;clear ho3 hg3;have HC3:Hid (w3.heap[b0]?=some (.cells #[.slice va (gcells pre).length vcp] 88 (0,0))):=zh ((HG3.out.block _ (by simp;omega) (own_ne G2.out G1.out (fun c e=>by cases e))).trans ((Below.heap_alloc _ _ _ (by omega)).trans G1.out));have d1:w3.cell? ⟨b0,0,none⟩=some (.slice va (gcells pre).length vcp):=cell_of_row w3 _ 0 _ _ _ HC3.out;have cf1:w3.frozen? ⟨b0,0,none⟩=false:=(by simp[World.frozen?,HC3.out]);obtain⟨a3,cp3,hv3⟩:=HO3.out.form;generalize (gcells pre++[[Value.int IntKind.u8 (y:Nat)]]).length=M3 at hv3;subst hv3)
   have hset:w3.grownBy (w3.setCell ⟨b0,0,none⟩ (.slice a3 M3 cp3)) (some b0):=grown_setCell (grown_refl _ _) _ (.inl rfl) _
   have HK3:Hid (w3.heap[b0+1]?=some (.cells c 195 (0,0))):=zh ((HG3.out.block _ (by simp;omega) (own_ne G2.out G3.out (fun c e=>by cases e))).trans ((Below.heap_alloc _ _ _ (by omega)).trans G3.out))
   have hbw3:Below w.heap.size w w3:=(G4.out.alloc hs7 _).grown HG3.out (by simp;omega) (fun j e=>G2.out.ge j e)
   refine⟨⟨?k1,fun q o hB hq hnc=>?k2⟩,?k3,⟨.slice a3 M3 cp3,?k4,?k5,c,?k6⟩,?k7⟩
   case k1=>have:=hset.size;have:=HG3.out.size;simp at this;omega
   case k2 =>
    have hql:=(ltA hq)
    have hq3:w3.heap[q]?=some o:=(HG3.out.block q (by simp;omega) (own_ne G2.out hq (fun c e=>by subst e;cases hnc))).trans ((Below.heap_alloc _ _ _ hql).trans hq)
    exact(hset.block q (ltA hq3) (fun e=>by
     have:=Option.some.inj e
     subst this
     rw[G1.out]at hq
     cases hq
     cases hnc)).trans hq3
   case k3=>exact((hset.block _ (ltA HK3.out) (fun e=>by have:=Option.some.inj e;omega)).trans HK3.out).trans G3.out.symm
   case k4 =>
    rw[heap_setCell_same _ HC3.out]
    rfl
   case k5 =>
    rw[HG0.out]
    exact HO3.out.grownX HC3.out (fun c e=>by cases e) hset
   case k6=>exact(hset.block _ (ltA HK3.out) (fun e=>by have:=Option.some.inj e;omega)).trans HK3.out
   case k7=>exact hbw3.grown hset (by have:=hbw3.size;omega) (fun j e=>by cases e;exact hwb)
 case done =>
  obtain⟨⟨v,g1,g2,c,g3⟩,g4⟩:=hI
  have hxs:xs≠[]:=by rw[hS];exact grpL_ne _ _
  obtain⟨g,cap,rfl,hcell⟩:=g2.bytes hxs
  have c1:W.cell? ⟨b0,0,none⟩=some (.slice (some ⟨g,0,none⟩) xs.length cap):=cell_of_row W _ 0 _ _ _ g1
  have HC:=zh hcell
  have G4:=zh g4
  have HDd:=zh hDd
  have hsW:=g4.size
  have HR:Hid (strOf (xs.map Grp.nat)=⟨R.toArray⟩):=zh (by rw[strOf_grp,hS,grpL_bytes 3 z (by simpa using hz28),hput.out])
  have hL:Hid (xs.length=(xs.map Grp.nat).length):=zh (by rw[List.length_map])
  have h256:Hid (∀ y∈xs.map Grp.nat,y < 256):=zh (fun y hy=>by
   obtain⟨x,_,rfl⟩:=List.mem_map.1 hy
   exact x.nat_lt)
  generalize xs.map Grp.nat=L at *
  clear hS g1 g2 g3 g4 hDd hcell hxs
  show Exit.inBlock _ _ _ (Act.mk _ [{ target:=.collected Dm,args:=#[] }]) W
  go_wp2_with (refine wpList_convS L h256.out 88 9 5 _ g 0 xs.length cap rfl rfl rfl hL.out (by kernel_rfl) (by kernel_rfl) (by kernel_rfl) HC.out ?_)
  have hM:Marks w.heap.size [Dm] W:=⟨by simp,fun D hD=>by
   rw[List.mem_singleton]at hD
   subst hD
   exact⟨by omega,HDd.out⟩⟩
  refine leaves_marks (B:=w.heap.size) [Dm] W hM (fun W'' hT=>⟨_,results_tmp2 rfl _ _ _,?_,G4.out.trans hT.below⟩)
  rw[HR.out]
  rfl
end Go.Proofs.YtjjiikeldpjafaaGreatDoor
/- What the entries of a part are by their indices: plain facts on maps; slices of parts; the walk of register.entries. The conditions: what the slices read as, ranges of indices, lengths. -/
namespace Go.Proofs.YtjjiikeldpjafaaGreatDoor
open Go.RowKit Go.BigFrame Go.WideShapes
/-! ### Plain: a map of entries -/
abbrev DU:=DataW Unit
def putI (D:DU)(x:ItemP):DU:=D.put (.int .i64 x.idx) (.lit (.string x.ent.data.toList))
/-! ### Maps of entries in memory -/
/-! ### The test of an item -/
end Go.Proofs.YtjjiikeldpjafaaGreatDoor
