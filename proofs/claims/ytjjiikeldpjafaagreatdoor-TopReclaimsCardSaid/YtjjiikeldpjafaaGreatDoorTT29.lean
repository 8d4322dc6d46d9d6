/- The reference's Collided. The conditions: what the slices read as, lengths. -/
import Derived.Test.YtjjiikeldpjafaaGreatDoorTT28
namespace Go.Proofs.YtjjiikeldpjafaaGreatDoor
open Go.RowKit Go.BigFrame
theorem collS_no {a b:List ByteArray}(h:∀(i j:Nat) (x y:ByteArray),a[i]?=some x→b[j]?=some y→¬ (x≠y∧sumS x=sumS y)):collS a b=false:=by
 rw[Bool.eq_false_iff]
 intro hc
 obtain⟨x,hx,y,hy,h1,h2⟩:=coll_parts hc
 obtain⟨i,hi⟩:=List.getElem?_of_mem hx
 obtain⟨j,hj⟩:=List.getElem?_of_mem hy
 exact h i j x y hi hj ⟨h1,h2⟩
theorem collS_yes {a b:List ByteArray}{i j:Nat}{x y:ByteArray}(hi:a[i]?=some x)(hj:b[j]?=some y)(h1:x≠y)(h2:sumS x=sumS y):collS a b=true:=coll_of (List.mem_of_getElem? hi) (List.mem_of_getElem? hj) h1 h2
set_option maxHeartbeats 8000000 in
set_option maxRecDepth 100000 in
theorem collided_any {w:World}{va vb:Value}{xs ys:List ByteArray}(hx:SS w va xs)(hy:SS w vb ys)(lx:xs.length≤10000)(ly:ys.length≤10000)(hxs:∀ x∈xs,x.size≤1000000)(hys:∀ x∈ys,x.size≤1000000) :
  Calls Tryz.prog 13 #[va,vb] w fun e w'=>e=.returned (.bool (collS xs ys))∧Below w.heap.size w w':=by
 obtain⟨a,ca,rfl,x1,x2,x3⟩:=hx.opened
 obtain⟨b,cb,rfl,y1,y2,y3⟩:=hy.opened
 unfold maxLen at x2 y2
 have HX3:=zh x3
 have HY3:=zh y3
 have HXS:=zh hxs
 have HYS:=zh hys
 have HNO:=zh (collS_no (a:=xs) (b:=ys))
 have HYES:Hid (∀(i j:Nat) (x y:ByteArray),xs[i]?=some x→ys[j]?=some y→x≠y→sumS x=sumS y→collS xs ys=true):=zh (fun i j x y hi hj h1 h2=>collS_yes hi hj h1 h2)
 obtain⟨n,hn⟩:∃ n,n=xs.length:=⟨_,rfl⟩
 obtain⟨m,hm⟩:∃ m,m=ys.length:=⟨_,rfl⟩
 rw[← hn]at x1 lx ⊢
 rw[← hm]at y1 ly ⊢
 have HN:=zh hn
 have HM:=zh hm
 have HMT:Hid ((ys.map sumS).take m=ys.map sumS):=zh (by rw[hm];exact List.take_of_length_le (by rw[List.length_map];exact Nat.le_refl _))
 clear x3 y3 hxs hys hx hy hn hm
 generalize collS xs ys=R at *
 go_enter Tryz.func13,Tryz.ntmps13
 go_wp2
 go_loopw [5,6] (fun v i wr=>∃ k:Nat,k≤m∧i=.int .i64 k∧Hid (OwnS wr w.heap.size v ((ys.map sumS).take k))∧Hid (Below w.heap.size w wr)) (fun _ i _=>m - (intOf i).toNat)
 case atStart=>exact⟨0,by omega,rfl,zh (OwnE.nil _ _ _ _),zh br0⟩
 case round =>
  obtain⟨k,hk,rfl,hO,hB⟩:=hrel
  obtain⟨va,vc,hv⟩:=OwnE.form hO.out
  rw[scells_len,List.length_take,List.length_map,← HM.out,Nat.min_eq_left hk]at hv
  subst hv
  have hws:=hB.out.size
  by_cases hlt:k < m
  ·obtain⟨y,ey⟩:∃ y,ys[k]?=some y:=⟨_,List.getElem?_eq_getElem (by rw[← HM.out];exact hlt)⟩
   obtain⟨b1,o1,rfl,hb1,c0⟩:=HY3.out k y ey
   have c1:=cell_keepB hB.out hb1 c0
   have HS:=zh (r2sum_any y wr (by have:=HYS.out y (List.mem_of_getElem? ey);omega))
   have HT:Hid ((ys.map sumS).take (k+1)=(ys.map sumS).take k++[sumS y]):=zh (take_snoc (by rw[List.getElem?_map,ey];rfl))
   generalize sumS y=z at *
   have HXl:Hid (((ys.map sumS).take k).length≤100000):=zh (by rw[List.length_take];omega)
   generalize (ys.map sumS).take k=X at *
   have t1:(k:Int) < (m:Int):=by omega
   have t0:(0:Int)≤(k:Int):=by omega
   clear c0 ey
   go_wp2_with (first | (go_at_call 35;refine HS.out.mono ?_;rintro e w1 ⟨rfl,hb⟩;have HB1:=zh (hB.out.trans (hb.mono hws));have HO1:=zh (OwnE.far hO.out hb (Nat.le_refl _));have HOA:=zh (OwnE.alloc HO1.out (.cells #[.string z] 9));have HNA:=zh (heap_alloc_new w1 (.cells #[.string z] 9));have HBA:=zh (HB1.out.alloc HB1.out.size (.cells #[.string z] 9));clear hb) | (at_builtin;refine wpList_append_str _ _ w.heap.size _ X w1.heap.size z (0,0) HOA.out HXl.out HBA.out.size HNA.out rfl rfl rfl rfl ?_;intro v7 w7 hown7 hgr7;have HO7:=zh hown7;have HB7:=zh (HBA.out.grown hgr7 HBA.out.size (fun j e=>OwnE.ge HOA.out j e));clear hown7 hgr7))
   go_roundw
   case rel =>
    refine⟨k+1,by omega,by go_num,?_,HB7⟩
    rw[HT.out]
    exact HO7
   case measure=>simp[intOf];omega
  ·obtain rfl:k=m:=by omega
   rw[HMT.out]at hO
   have HSZ:=zh hO.out.ss
   obtain⟨wz,hwz⟩:∃ wz,wz=wr:=⟨_,rfl⟩
   subst hwz
   have HBZ:=zh hB.out
   obtain⟨az,cz,ev,z1,z2,z3⟩:=HSZ.out.opened
   rw[List.length_map,← HM.out]at ev z1
   cases ev
   unfold maxLen at z2
   have HZ3:=zh z3
   have HXZ:Hid (∀(i:Nat) (x:ByteArray),xs[i]?=some x→∃ g off,a=some ⟨g,off,none⟩∧g < wz.heap.size∧wz.cell? ⟨g,off+i,none⟩=some (.string x)):=zh (fun i x hx=>by
    obtain⟨g,off,e,hg,hc⟩:=HX3.out i x hx
    exact⟨g,off,e,Nat.lt_of_lt_of_le hg HBZ.out.size,cell_keepB HBZ.out hg hc⟩)
   have HYZ:Hid (∀(i:Nat) (x:ByteArray),ys[i]?=some x→∃ g off,b=some ⟨g,off,none⟩∧g < wz.heap.size∧wz.cell? ⟨g,off+i,none⟩=some (.string x)):=zh (fun i x hx=>by
    obtain⟨g,off,e,hg,hc⟩:=HY3.out i x hx
    exact⟨g,off,e,Nat.lt_of_lt_of_le hg HBZ.out.size,cell_keepB HBZ.out hg hc⟩)
   have HSS:Hid (∀(i:Nat) (x:ByteArray),ys[i]?=some x→∃ g off,va=some ⟨g,off,none⟩∧g < wz.heap.size∧wz.cell? ⟨g,off+i,none⟩=some (.string (sumS x))):=zh (fun i x hx=>HZ3.out i _ (by rw[List.getElem?_map,hx];rfl))
   clear hO hB z3 HZ3 HSZ HX3 HY3 HMT hlt hk
   go_wp2
   go_loopw [7,8,9] (fun v _ _ wr=>∃ i:Nat,i≤n∧v=.int .i64 i∧Hid (∀(p j:Nat) (x y:ByteArray),p < i→xs[p]?=some x→ys[j]?=some y→¬ (x≠y∧sumS x=sumS y))∧Hid (Below wz.heap.size wz wr)) (fun v _ _ _=>n - (intOf v).toNat)
   case atStart=>exact⟨0,by omega,rfl,zh (fun p j x y h=>by omega),zh br0⟩
   case round =>
    obtain⟨i,hi,rfl,hno,hB⟩:=hrel
    by_cases hlt:i < n
    ·obtain⟨x,ex⟩:∃ x,xs[i]?=some x:=⟨_,List.getElem?_eq_getElem (by rw[← HN.out];exact hlt)⟩
     obtain⟨g,off,rfl,hg,c0⟩:=HXZ.out i x ex
     have d0:=cell_keepB hB.out hg c0
     have HS:=zh (r2sum_any x wr (by have:=HXS.out x (List.mem_of_getElem? ex);omega))
     have t1:(i:Int) < (n:Int):=by omega
     have t0:(0:Int)≤(i:Int):=by omega
     have EX:=zh ex
     have C0:=zh c0
     obtain⟨sx,hsx⟩:∃ sx,sx=sumS x:=⟨_,rfl⟩
     rw[← hsx]at HS
     have HSX:=zh hsx
     clear ex c0 hsx
     go_wp2_with (go_at_call 35;refine HS.out.mono ?_;rintro e w1 ⟨rfl,hb⟩;have HB1:=zh (hB.out.trans (hb.mono hB.out.size));clear hb)
     clear d0 t1 hB
     go_loopw [9] (fun v wr=>∃ j:Nat,j≤k∧v=.int .i64 j∧Hid (∀(p:Nat) (y:ByteArray),p < j→ys[p]?=some y→¬ (x≠y∧sx=sumS y))∧Hid (Below wz.heap.size wz wr)) (fun v _=>k - (intOf v).toNat)
     case atStart=>exact⟨0,by omega,rfl,zh (fun p y h=>by omega),HB1⟩
     case round =>
      clear HB1
      obtain⟨j,hj,rfl,hnj,hB⟩:=hrel
      by_cases hlj:j < k
      ·obtain⟨y,ey⟩:∃ y,ys[j]?=some y:=⟨_,List.getElem?_eq_getElem (by rw[← HM.out];exact hlj)⟩
       obtain⟨g2,off2,rfl,hg2,e0⟩:=HYZ.out j y ey
       obtain⟨g3,off3,rfl,hg3,f0⟩:=HSS.out j y ey
       have d0:=cell_keepB hB.out hg C0.out
       have d1:=cell_keepB hB.out hg2 e0
       have d2:=cell_keepB hB.out hg3 f0
       have EY:=zh ey
       have t1:(j:Int) < (k:Int):=by omega
       have t2:(0:Int)≤(j:Int):=by omega
       have t3:(i:Int) < (n:Int):=by omega
       obtain⟨sy,hsy⟩:∃ sy,sy=sumS y:=⟨_,rfl⟩
       rw[← hsy]at d2
       have HSY:=zh hsy
       clear ey e0 f0 hsy
       by_cases hxy:x=y
       ·have hq:(x.toList == y.toList)=true:=by rw[same_str];exact decide_eq_true hxy
        have HNX:Hid (∀(p:Nat) (z:ByteArray),p < j+1→ys[p]?=some z→¬ (x≠z∧sx=sumS z)):=zh (fun p z hp hz=>by
         by_cases e:p=j
         ·subst e
          rw[EY.out]at hz
          cases hz
          exact fun h=>h.1 hxy
         ·exact hnj.out p z (by omega) hz)
        clear hxy hnj
        go_wp2
        go_quiet (fail)
        have hB:Hid (Below wz.heap.size wz (wr.drewN nq)):=zh (below_drewN hB.out nq)
        go_wp2
        go_roundw
        case rel=>exact⟨j+1,by omega,by go_num,HNX,hB⟩
        case measure=>simp[intOf];omega
       ·have hq:(x.toList == y.toList)=false:=by rw[same_str];exact decide_eq_false hxy
        by_cases hss:sx=sy
        ·have hq2:(sx.toList == sy.toList)=true:=by rw[same_str];exact decide_eq_true hss
         have HR:Hid (R=true):=zh (HYES.out i j x y EX.out EY.out hxy (by rw[← HSX.out,← HSY.out,hss]))
         clear hss hxy hnj
         go_wp2
         go_quiet (fail)
         have hB:Hid (Below wz.heap.size wz (wr.drewN nq)):=zh (below_drewN hB.out nq)
         go_wp2
         go_ret
         exact⟨by rw[HR.out];rfl,HBZ.out.trans (hB.out.mono HBZ.out.size)⟩
        ·have hq2:(sx.toList == sy.toList)=false:=by rw[same_str];exact decide_eq_false hss
         have HNX:Hid (∀(p:Nat) (z:ByteArray),p < j+1→ys[p]?=some z→¬ (x≠z∧sx=sumS z)):=zh (fun p z hp hz=>by
          by_cases e:p=j
          ·subst e
           rw[EY.out]at hz
           cases hz
           exact fun h=>hss (by rw[HSY.out];exact h.2)
          ·exact hnj.out p z (by omega) hz)
         clear hss hxy hnj
         go_wp2
         go_quiet (fail)
         have hB:Hid (Below wz.heap.size wz (wr.drewN nq)):=zh (below_drewN hB.out nq)
         go_wp2
         go_roundw
         case rel=>exact⟨j+1,by omega,by go_num,HNX,hB⟩
         case measure=>simp[intOf];omega
      ·have t1:¬ (j:Int) < (k:Int):=by omega
       have t3:(i:Int) < (n:Int):=by omega
       have HNI:Hid (∀(p j:Nat) (x y:ByteArray),p < i+1→xs[p]?=some x→ys[j]?=some y→¬ (x≠y∧sumS x=sumS y)):=zh (fun p q x' y hp hx' hy=>by
        by_cases e:p=i
        ·subst e
         rw[EX.out]at hx'
         cases hx'
         rw[← HSX.out]
         have hqk:q < k:=by rw[HM.out];exact(List.getElem?_eq_some_iff.1 hy).1
         exact hnj.out q y (by omega) hy
        ·exact hno.out p q x' y (by omega) hx' hy)
       clear hnj hno
       go_wp2
       go_roundw
       case rel=>exact⟨i+1,by omega,by go_num,HNI,hB⟩
       case measure=>simp[intOf];omega
    ·have t1:¬ (i:Int) < (n:Int):=by omega
     have HR:Hid (R=false):=zh (HNO.out (fun p q x y hx hy=>by
      have hp:p < n:=by rw[HN.out];exact(List.getElem?_eq_some_iff.1 hx).1
      exact hno.out p q x y (by omega) hx hy))
     clear hno
     go_wp2
     go_ret
     exact⟨by rw[HR.out];rfl,HBZ.out.trans (hB.out.mono HBZ.out.size)⟩
end Go.Proofs.YtjjiikeldpjafaaGreatDoor
/- TopReclaims: the plain law: what is right about the made port; who has the number when; two strings with one digest. The conditions: ranges. -/
namespace Go.Proofs.YtjjiikeldpjafaaGreatDoor
open Go.RowKit Go.BigFrame
def wishT (ho ca se:Int)(F:ScP)(sl:ByteArray):WishP:={ sg:=F.who,ho:=ho,rf:=F.rf,rt:=F.rt,ca:=ca,se:=se,sf:=F.sf,st:=F.st,sl:=sl }
theorem made_wok {S:ScP}(hS:ScOk S)(ys:List Y5){ca se:Int}(hc:0≤ca∧ca < 8)(hs:0≤se∧se < 1000)(sl:ByteArray) :
  WOk (wishT S.who ca se (stS (ys.take 4) S) sl) (chS (ys.take 4) S) (stS (ys.take 4) S).rf (stS (ys.take 4) S).sf:=by
 have hC:=made_ok ys hS
 have hF:=st_ok (ys.take 4) hS
 have h0:=hS.1
 generalize stS (ys.take 4) S=F at *
 generalize chS (ys.take 4) S=L at *
 obtain⟨⟨w1,w2⟩,⟨f1,f2,f3⟩,g1,g2,g3⟩:=hF
 exact {
  formed:=by
   unfold formedW wishT
   simp only[decide_eq_true_eq]
   omega
  n1:=Int.le_refl _
  n2:=by show F.rf≤F.rt - 1;omega
  t1:=Int.le_refl _
  t2:=by show F.sf≤F.st - 1;omega
  rt:=by show 0≤F.rt∧F.rt≤100000000;omega
  st:=by show 0≤F.st∧F.st≤100000000;omega
  chain:=hC.formed
  four:=hC.len
  scope:=hC.scope
  inner:=hC.inner
  person:=hC.person
  last:=hC.last
  bound:=fun p hp=>(hC.bound p hp).1
  sg:=by show 0≤F.who∧F.who < 10;omega
  sld:=hC.sld }
theorem encT_size {x:WishP}{l:List ProxP}(hx:x.sl.size=32)(hl:l.length≤4)(h:∀ p∈l,p.sl.size=32):(encW x l).size≤900∧0 < (encW x l).size:=by
 have h1:=textL_len hx hl h
 have h2:(encW x l).size=(textL x l).length:=by
  unfold encW bytesOf
  first | rfl | simp[ByteArray.size]
 have h3:0 < (textL x l).length:=by
  unfold textL
  rw[List.length_append]
  have:=(putN_lenT (l.length:Int)).1
  omega
 omega
theorem made_caok {S:ScP}(hS:ScOk S)(ys:List Y5){ca se:Int}(hc:0≤ca∧ca < 8)(hs:0≤se∧se < 1000)(sl:ByteArray)(hsl:sl.size=32) :
  CaOk (stS (ys.take 4) S).rf (stS (ys.take 4) S).sf (wishT S.who ca se (stS (ys.take 4) S) sl) (chS (ys.take 4) S):=by
 have hw:=made_wok hS ys hc hs sl
 have hC:=made_ok ys hS
 have hF:=st_ok (ys.take 4) hS
 have he:=encT_size (x:=(wishT S.who ca se (stS (ys.take 4) S) sl)) (l:=chS (ys.take 4) S) hsl hC.len hC.size
 obtain⟨⟨w1,w2⟩,⟨f1,f2,f3⟩,g1,g2,g3⟩:=hF
 exact {
  n:=by omega
  a:=by omega
  w:=hw
  sx:=hsl
  sl:=hC.size
  rx:=by show(stS (ys.take 4) S).rt≤99999999;omega
  rl:=fun p hp=>by have:=(hC.bound p hp).2.1;omega
  e:=he.1
  e0:=he.2 }
theorem key_ne {a b:Int}(ha:0≤a∧a < 256)(hb:0≤b∧b < 256)(h:a≠b)(s:ByteArray):(⟨#[1]⟩:ByteArray)++keyW a++s≠(⟨#[1]⟩:ByteArray)++keyW b++s:=by
 intro e
 have e1:=congrArg (fun x:ByteArray=>x.data.toList[1]?) e
 simp only[ByteArray.data_append,Array.toList_append,keyW]at e1
 have e2:(UInt8.ofNat (a.toNat % 256))=(UInt8.ofNat (b.toNat % 256)):=by simpa using e1
 have e3:=congrArg UInt8.toNat e2
 rw[UInt8.toNat_ofNat',UInt8.toNat_ofNat']at e3
 omega
theorem forged_coll {a b:Int}(ha:0≤a∧a < 256)(hb:0≤b∧b < 256)(h:a≠b){c:ByteArray}(hs:sealK (keyW a) c=sealK (keyW b) c) :
  collS [(⟨#[1]⟩:ByteArray)++keyW a++leafS c] [(⟨#[1]⟩:ByteArray)++keyW b++leafS c]=true:=by
 refine coll_of (.head _) (.head _) (key_ne ha hb h _) ?_
 unfold sealK nodeS at hs
 rw[ByteArray.append_assoc,ByteArray.append_assoc]
 exact hs
theorem carT_none (a0 a1 a2 a3 cn cf ct ch ca:Int)(cb:Bool)(t:Int):carT (moL (mcOf a0 a1 a2 a3 cn cf ct ch ca cb) none) cf t=if t < ca+a0+a1 then cf else ct:=rfl
theorem carT_back {a0 a1 a2 a3 cn cf ct ch ca:Int}{cb:Bool}{s t:Int}(h1:ca+a0+a1≤s)(h2:s≤t) :
  carT (moL (mcOf a0 a1 a2 a3 cn cf ct ch ca cb) (some s)) cf t=if cb=false∧s < ca+a0+a1+a3 then cf else ct:=by
 have hm:moL (mcOf a0 a1 a2 a3 cn cf ct ch ca cb) (some s)=if s < ca+a0+a1+a3∧cb=false then[(ca+a0+a1,ct),(s,cf)]else[(ca+a0+a1,ct)]:=rfl
 rw[hm]
 by_cases h:cb=false∧s < ca+a0+a1+a3
 ·rw[if_pos ⟨h.2,h.1⟩,if_pos h]
  show(if t < ca+a0+a1 then cf else if t < s then ct else cf)=cf
  rw[if_neg (by omega),if_neg (by omega)]
 ·rw[if_neg (fun g=>h ⟨g.2,g.1⟩),if_neg h]
  show(if t < ca+a0+a1 then cf else ct)=ct
  rw[if_neg (by omega)]
theorem made_clok {x0 x1 x2 x3 cn cf ct ch ca:Int}(hn:0≤cn∧cn≤11000)(hf:0≤cf∧cf < 8)(ht:0≤ct∧ct < 8)(hne:cf≠ct)(hh:0≤ch∧ch < 10)(ha:0≤ca∧ca≤11000)(o:Option Int)(ho:∀ s,o=some s→ca+ruleI x0+ruleI x1≤s∧s≤1000000) :
  ClOk (ruleI x0) (ruleI x1) (ruleI x2) (ruleI x3) cn cf ct ch ca o:=by
 have r0:=ruleI_range x0
 have r1:=ruleI_range x1
 have r2:=ruleI_range x2
 have r3:=ruleI_range x3
 exact⟨by omega,by omega,by omega,by omega,by omega,by omega,by omega,hne,by omega,by omega,fun s hs=>by have:=ho s hs;omega⟩
theorem part_at {w:World}{a:Option Addr}{c:Nat}{ys:List (ItemP × Value)}{key:ByteArray}{ct:Int}{en:ByteArray}{hd:HeadP}{its:List ItemP}(hpp:(⟨hd,its⟩:PartP)=partS key ct [en] 1 [0])(hm:ys.map (·.1)=its)(hi:ISt w (.slice a 1 c) ys) :
  PtAt w (.slice a 1 c) en∧hd.car=ct∧hd.siz=1∧checkB key ⟨hd,ys.map (·.1)⟩=checkB key (partS key ct [en] 1 [0])∧ys.length=1∧hd.root.size=32∧hd.sl.size=32:=by
 have h1:hd=(partS key ct [en] 1 [0]).head:=congrArg PartP.head hpp
 have h2:its=(partS key ct [en] 1 [0]).items:=congrArg PartP.items hpp
 have h3:its=[idxItem [en] 1 0]:=h2
 have hl:ys.length=1:=by rw[← List.length_map (f:=(·.1)),hm,h3];rfl
 obtain⟨y,rfl⟩:=List.length_eq_one_iff.1 hl
 have hy:y.1=idxItem [en] 1 0:=by
  rw[h3]at hm
  injection hm
 refine⟨⟨y,hi.is,by rw[hy];rfl,by rw[hy];rfl⟩,by rw[h1];rfl,by rw[h1];rfl,by rw[hm,hpp],rfl,by rw[h1];rfl,by rw[h1];rfl⟩
theorem proofB_lenT (l:List ByteArray)(i:Nat):(proofB l i).length≤l.length:=by
 unfold proofB
 rw[List.length_reverse]
 exact downL_len _ _ _ _ _
theorem part_true {key:ByteArray}{ct num am:Int}{ev:ByteArray}(hk:key.size=32)(hc:CsOk ct num am ev):checkB key (partS key ct [caseB num am ev] 1 [0])=true:=by
 refine part_check hk ?_ (by simp) (by simp) (by simp)
 unfold validB
 exact decide_eq_true ⟨hc.t.1,hc.t.2,by simp,fun s hs=>by rw[List.mem_singleton.1 hs];exact Nat.le_trans (caseB_size _ _ _) (by have:=hc.e;omega)⟩
theorem part_checks {w:World}{a:Option Addr}{c:Nat}{ys:List (ItemP × Value)}{key:ByteArray}{ct num am c2:Int}{ev c3 c4:ByteArray}{its:List ItemP}(hk:key.size=32)(hc:CsOk ct num am ev)
  (hpp:(⟨⟨ct,c2,c3,c4⟩,its⟩:PartP)=partS key ct [caseB num am ev] 1 [0]) (hm:ys.map (·.1)=its) (hi:ISt w (.slice a 1 c) ys) (he:Env w) (hg:0 < w.heap.size) :
  Calls Tryz.prog 49 #[.string key,.agg #[.int .i64 ct,.int .i64 c2,.string c3,.string c4,.slice a 1 c]] w fun e w'=>e=.returned (.bool true)∧Below w.heap.size w w':=by
 obtain⟨h1,h2,h3,h4,h5,h6,h7⟩:=part_at hpp hm hi
 have h:=check_any key ct c2 c3 c4 hi.is (by omega) (by show c3.size≤1000;simp only at h6;omega) (by omega) (fun y hy=>by
  have hy2:y.1∈its:=by rw[← hm];exact List.mem_map_of_mem hy
  have hits:its=[idxItem [caseB num am ev] 1 0]:=congrArg PartP.items hpp
  rw[hits,List.mem_singleton]at hy2
  rw[hy2]
  exact Nat.le_trans (proofB_lenT _ _) (by simp)) he hg
 rw[h4,part_true hk hc]at h
 exact h
end Go.Proofs.YtjjiikeldpjafaaGreatDoor
/- What stands behind a statement. No condition. -/
namespace Go.Proofs.YtjjiikeldpjafaaGreatDoor
def rtQ:Code→Code
 | .seq _ b=>b
 | c=>c
end Go.Proofs.YtjjiikeldpjafaaGreatDoor
/- Walk of the law: TopReclaims, from the state's answer on. The conditions: what the boxes hold, ranges. -/
namespace Go.Proofs.YtjjiikeldpjafaaGreatDoor
open Go.RowKit Go.BigFrame
theorem wp_of_eqZ {P:Program}{c L:Code}{Q:Exit→Act→World→Prop}{a:Act}{w:World}(h:c.wp P Q a w)(e:c=L):L.wp P Q a w:=e ▸ h
theorem wp_enterZ {P:Program}{c:Code}{Q R:Exit→Act→World→Prop}{K:Act→World→Prop}{a:Act}{w:World}(hK:∀ a w,c.wp P Q a w→K a w)(h:c.wp P Q a w):Exit.then K R .normal a w:=hK a w h
theorem wp_enterK {P:Program}{c:Code}{Q:Exit→Act→World→Prop}{K:Act→World→Prop}{a:Act}{w:World}(hK:∀ a w,c.wp P Q a w→K a w)(h:c.wp P Q a w):K a w:=hK a w h
def rtQZ1 (c:Code):Code:=rtQ (rtQ (rtQ (rtQ (rtQ (rtQ (rtQ (rtQ (rtQ (rtQ (rtQ (rtQ (rtQ (rtQ (rtQ (rtQ (rtQ (rtQ (rtQ (rtQ (rtQ (c)))))))))))))))))))))
theorem tailQZ1 {c L:Code}(h:∃ a0 a1 a2 a3 a4 a5 a6 a7 a8 a9 a10 a11 a12 a13 a14 a15 a16 a17 a18 a19 a20:Code,Tryz.f3.body=some (a0.seq (a1.seq (a2.seq (a3.seq (a4.seq (a5.seq (a6.seq (a7.seq (a8.seq (a9.seq (a10.seq (a11.seq (a12.seq (a13.seq (a14.seq (a15.seq (a16.seq (a17.seq (a18.seq (a19.seq (a20.seq (c)))))))))))))))))))))))(hL:Tryz.f3.body.map rtQZ1=some L:=by rfl):c=L:=by
 obtain⟨a0,a1,a2,a3,a4,a5,a6,a7,a8,a9,a10,a11,a12,a13,a14,a15,a16,a17,a18,a19,a20,e⟩:=h
 rw[e]at hL
 exact Option.some.inj hL
set_option maxHeartbeats 16000000 in
set_option maxRecDepth 100000 in
theorem top_back {w wo:World}(HBW:Hid (Below w.heap.size w wo))(pb ub hb bl bp qb rb:Nat)(a0 a1 a2 a3 cn cf ct ch ca ef s kd x8 lim asked rat c2:Int)(c3 c4:ByteArray)(ia:Option Addr)(ic:Nat)(bd:Bool)(hef:Hid (ef=ca+a0+a1))(_hca:0≤ca)(h3:1≤a3∧a3≤1000000)(he0:0≤ef)(ix:I64 x8)
  (h1:ef≤asked) (h2:asked≤900000) (h4:1≤lim∧lim≤20) (h5:asked≤rat∧rat≤900100) (hkd:Hid (kd=if(decide (rat < asked+lim) && bd)then 2 else 3)) (hs:Hid (s=if(decide (rat < asked+lim) && bd)then rat else asked+lim))
  (HCL:Hid (∀ o,(∀ z,o=some z→ca+a0+a1≤z∧z≤1000000)→ClOk a0 a1 a2 a3 cn cf ct ch ca o))
  (HP:Hid (wo.heap[pb]?=some (.cells #[.int .i64 cn,.int .i64 cf,.int .i64 ct,.int .i64 ch,.int .i64 ca,.bool bd] 34 (0,0)))) (HU:Hid (wo.heap[ub]?=some (.cells #[.int .i64 a0,.int .i64 a1,.int .i64 a2,.int .i64 a3] 53 (0,0)))) (HH:Hid (wo.heap[hb]?=some (.cells #[.int .i64 cn,.int .i64 cf,.int .i64 a0,.int .i64 a1,.int .i64 a2,.int .i64 a3,.slice (some ⟨bl,0,none⟩) 1 1,.slice (some ⟨bp,0,none⟩) 1 1] 58 (0,0))))
  (HL:Hid (wo.heap[bl]?=some (.cells #[.int .i64 1,.int .i64 0,.int .i64 ch] 116 (0,0)))) (HO:Hid (wo.heap[bp]?=some (.cells #[.int .i64 cn,.int .i64 cf,.int .i64 ct,.int .i64 ch,.int .i64 ca,.bool bd,.slice none 0 0] 118 (0,0))))
  (HQ:Hid (wo.heap[qb]?=some (.cells #[.int .i64 cn,.int .i64 ch,.int .i64 ct,.int .i64 ca,.int .i64 asked] 64 (0,0)))) (HR:Hid (wo.heap[rb]?=some (.cells #[.int .i64 rat,.int .i64 ct,.int .i64 c2,.string c3,.string c4,.slice ia 1 ic] 78 (0,0)))) {u0 u1 u2 u3 u4 u5 u6 u7 u9 u10 u11 u12 u13 u14 u15 u16 u17 u18 u19 u20 u21 u22 u23 u24 u25 u27 u28 u32 u33 u34 u35 u36 u37 u38 u41 u47 u48 u49 u50 u51 u52 u53 u54 u55 u56 u57 u58 u59 u60 u61 u62 u63 u64 u65 u66 u67 u68 u69 u70 u71 u72 u73 u74 u75 u76 u77 u78 u79 u80 u81 u82 u83 u84 u85 u86 u87 u88 u89 u90 u91 u92 u93 u94 u95 u96 u97 u98 u99 u100 u101 u102 u103 u104 u105 u106 u107 u108 u109 u110 u111 u112 u113 u114 u115 u116 u117 u118 u119 u120 u121 u122 u123 u124 u125 u126 u127 u128 u129 u130 u131 u132 u133 u134 u135 u136 u137 u138 u139 u140 u141 u142 u143 u144 u145 u146 u147 u148 u149 u150 u151 u152 u153 u154 u155 u156 u157 u158 u159 u160 u161 u162 u163 u164 u165 u166 u167 u168 u169 u170 u171 u172 u173 u174 u175 u176 u177 u178 u179 u180 u181 u182 u183 u184 u185 u186 u187 u188 u189 u190 u191 u192 u193 u194 u195 u196 u197 u198 u199 u200 u201 u202 u203 u204 u205 u206 u207 u208 u209 u210 u211 u212 u213 u214 u215 u216 u217 u218 u219 u220 u221 u222 u223 u224 u225 u226 u227 u228 u229 u230 u231 u232 u233 u234 u235 u236 u237 u238 u239 u240 u241 u242 u243 u244 u245 u246 u247 u248 u249 u250 u251 u252 u253 u254 u255 u256 u257 u258 u259 u260 u261 u262 u263 u264 u265 u266 u267 u268 u269 u270 u271 u272 u273 u274 u275 u276 u277 u278 u279 u280 u281 u282 u283 u284 u285 u286 u287 u288 u289 u290 u291 u292 u293 u294 u295 u296 u297 u298 u299 u300 u301 u302 u303 u304 u305 u306 u307 u308 u309 u310 u311 u312 u313 u314 u315 u316 u317 u318 u319 u320 u321 u322 u323 u324 u325 u326 u327 u328 u329 u330 u331 u332 u333 u334 u335:Value} :
  ∃ c:Code,(∃ a0 a1 a2 a3 a4 a5 a6 a7 a8 a9 a10 a11 a12 a13 a14 a15 a16 a17 a18 a19 a20:Code,Tryz.f3.body=some (a0.seq (a1.seq (a2.seq (a3.seq (a4.seq (a5.seq (a6.seq (a7.seq (a8.seq (a9.seq (a10.seq (a11.seq (a12.seq (a13.seq (a14.seq (a15.seq (a16.seq (a17.seq (a18.seq (a19.seq (a20.seq (c)))))))))))))))))))))))∧c.wp Tryz.prog (bodyPost Tryz.prog Tryz.f3 fun e w'=>e=.returned (.bool true)∧Below w.heap.size w w') { tmps:=#[u0,u1,u2,u3,u4,u5,u6,u7,.int .i64 x8,u9,u10,u11,u12,u13,u14,u15,u16,u17,u18,u19,u20,u21,u22,u23,u24,u25,.pointer (some ⟨pb,0,none⟩),u27,u28,.pointer (some ⟨ub,0,none⟩),.pointer (some ⟨hb,0,none⟩),.int .i64 ef,u32,u33,u34,u35,u36,u37,u38,.int .i64 lim,.pointer (some ⟨qb,0,none⟩),u41,.int .i64 0,.pointer (some ⟨rb,0,none⟩),.int .i64 kd,.int .i64 s,.int .i64 0,u47,u48,u49,u50,u51,u52,u53,u54,u55,u56,u57,u58,u59,u60,u61,u62,u63,u64,u65,u66,u67,u68,u69,u70,u71,u72,u73,u74,u75,u76,u77,u78,u79,u80,u81,u82,u83,u84,u85,u86,u87,u88,u89,u90,u91,u92,u93,u94,u95,u96,u97,u98,u99,u100,u101,u102,u103,u104,u105,u106,u107,u108,u109,u110,u111,u112,u113,u114,u115,u116,u117,u118,u119,u120,u121,u122,u123,u124,u125,u126,u127,u128,u129,u130,u131,u132,u133,u134,u135,u136,u137,u138,u139,u140,u141,u142,u143,u144,u145,u146,u147,u148,u149,u150,u151,u152,u153,u154,u155,u156,u157,u158,u159,u160,u161,u162,u163,u164,u165,u166,u167,u168,u169,u170,u171,u172,u173,u174,u175,u176,u177,u178,u179,u180,u181,u182,u183,u184,u185,u186,u187,u188,u189,u190,u191,u192,u193,u194,u195,u196,u197,u198,u199,u200,u201,u202,u203,u204,u205,u206,u207,u208,u209,u210,u211,u212,u213,u214,u215,u216,u217,u218,u219,u220,u221,u222,u223,u224,u225,u226,u227,u228,u229,u230,u231,u232,u233,u234,u235,u236,u237,u238,u239,u240,u241,u242,u243,u244,u245,u246,u247,u248,u249,u250,u251,u252,u253,u254,u255,u256,u257,u258,u259,u260,u261,u262,u263,u264,u265,u266,u267,u268,u269,u270,u271,u272,u273,u274,u275,u276,u277,u278,u279,u280,u281,u282,u283,u284,u285,u286,u287,u288,u289,u290,u291,u292,u293,u294,u295,u296,u297,u298,u299,u300,u301,u302,u303,u304,u305,u306,u307,u308,u309,u310,u311,u312,u313,u314,u315,u316,u317,u318,u319,u320,u321,u322,u323,u324,u325,u326,u327,u328,u329,u330,u331,u332,u333,u334,u335],defers:=[] } wo:=by
 refine⟨_,⟨_,_,_,_,_,_,_,_,_,_,_,_,_,_,_,_,_,_,_,_,_,rfl⟩,?_⟩
 have HB0:=zh (Below.refl wo.heap.size wo)
 obtain⟨p0,p1,p2,p3,p4,p5⟩:=six_cells HP.out
 obtain⟨q0,q1,q2,q3,q4⟩:=five_cells HQ.out
 have r0:=cell_of_row wo _ 0 _ _ _ HR.out
 go_upto_region 31 with fail
 obtain⟨kp,hkp⟩:∃ kp,kp=(bd && decide (rat < asked+lim)):=⟨_,rfl⟩
 have HKP:=zh hkp
 clear hkp
 go_cut [47]from 234 to 244 (fun t wx=>t=.bool kp∧wx=wo)
 case first =>
  cases bd with
  | true =>
   by_cases hlt:rat < asked+lim
   ·have hd:decide (rat < asked+lim)=true:=decide_eq_true hlt
    go_wp2
    go_meet
    case rel=>exact⟨by rw[HKP.out,hd];rfl,rfl⟩
   ·have hd:decide (rat < asked+lim)=false:=decide_eq_false hlt
    go_wp2
    go_meet
    case rel=>exact⟨by rw[HKP.out,hd];rfl,rfl⟩
  | false =>
   go_wp2
   go_meet
   case rel=>exact⟨by rw[HKP.out];rfl,rfl⟩
 case rest =>
 obtain⟨ht47,hwx⟩:=hcut
 replace hwx:=hwx.symm
 subst ht47 hwx
 go_upto_region 32 with fail
 go_cut [271]from 245 to 271 (fun t wx=>t=.bool false∧wx=wo)
 case first =>
  cases bd with
  | true =>
   by_cases hlt:rat < asked+lim
   ·have hd:decide (rat < asked+lim)=true:=decide_eq_true hlt
    obtain rfl:kp=true:=by rw[HKP.out,hd];rfl
    obtain rfl:kd=2:=by rw[hkd.out,hd];rfl
    obtain rfl:s=rat:=by rw[hs.out,hd];rfl
    go_wp2
    go_meet
    case rel=>exact⟨rfl,rfl⟩
   ·have hd:decide (rat < asked+lim)=false:=decide_eq_false hlt
    obtain rfl:kp=false:=by rw[HKP.out,hd];rfl
    obtain rfl:kd=3:=by rw[hkd.out,hd];rfl
    obtain rfl:s=asked+lim:=by rw[hs.out,hd];rfl
    go_wp2
    go_meet
    case rel=>exact⟨rfl,rfl⟩
  | false =>
   obtain rfl:kp=false:=by rw[HKP.out];rfl
   obtain rfl:kd=3:=by rw[hkd.out,Bool.and_false];rfl
   obtain rfl:s=asked+lim:=by rw[hs.out,Bool.and_false];rfl
   go_wp2
   go_meet
   case rel=>exact⟨rfl,rfl⟩
 case rest =>
 obtain⟨ht271,hwx⟩:=hcut
 replace hwx:=hwx.symm
 subst ht271 hwx
 have hs1:ef≤s∧s≤900100:=by
  have h:s=rat∨s=asked+lim:=by
   rw[hs.out]
   split
   ·exact .inl rfl
   ·exact .inr rfl
  omega
 clear hs hkd HKP q0 q1 q2 q3 q4 r0 HQ HR
 go_upto_region 34 with fail
 have m0:=cell_of_row wo _ 0 _ _ _ HU.out
 have m1:=cell_of_row wo _ 1 _ _ _ HU.out
 have m2:=cell_of_row wo _ 2 _ _ _ HU.out
 have m3:=cell_of_row wo _ 3 _ _ _ HU.out
 (try simp only at m0 m1 m2 m3)
 have HOF:=zh (fun(ea:Option Addr) W=>of_any a0 a1 a2 a3 cn cf ct ch ca bd ea 1 1 W)
 have HBE:=zh ((Below.refl wo.heap.size wo).alloc (Nat.le_refl _) (.cells #[.int .i64 6,.int .i64 s,.int .i64 1] 83))
 have HXE:=zh (heap_alloc_new wo (.cells #[.int .i64 6,.int .i64 s,.int .i64 1] 83))
 go_upto_region 35 with(go_at_call 15;(with_reducible refine(HOF.out _ _).mono ?_);clear p0 p1 p2 p3 p4 p5 m0 m1 m2 m3;rintro e w2 ⟨bl2,bp2,rfl,hof⟩;have HO2:=zh hof;clear hof)
 clear HOF
 obtain⟨cb,hcb⟩:∃ cb,cb=w2.heap.size:=⟨_,rfl⟩
 have HBxw3:=zh ((Below.refl w2.heap.size w2).alloc (Nat.le_refl _) (.cells #[.int .i64 cn,.int .i64 cf,.int .i64 a0,.int .i64 a1,.int .i64 a2,.int .i64 a3,.slice (some ⟨bl2,0,none⟩) 1 1,.slice (some ⟨bp2,0,none⟩) 1 1] 58))
 have HXcb:=zh (heap_alloc_new w2 (.cells #[.int .i64 cn,.int .i64 cf,.int .i64 a0,.int .i64 a1,.int .i64 a2,.int .i64 a3,.slice (some ⟨bl2,0,none⟩) 1 1,.slice (some ⟨bp2,0,none⟩) 1 1] 58))
 rw[← hcb]at HXcb ⊢
 clear hcb
 generalize w2.alloc (.cells #[.int .i64 cn,.int .i64 cf,.int .i64 a0,.int .i64 a1,.int .i64 a2,.int .i64 a3,.slice (some ⟨bl2,0,none⟩) 1 1,.slice (some ⟨bp2,0,none⟩) 1 1] 58)=w3 at *
 have HBo3:=zh (q_next HBE.out (q_next HO2.out.hb HBxw3.out))
 have HEV:=zh (kept_block HXE.out (q_next HO2.out.hb HBxw3.out))
 have HL3:=zh (kept_block HO2.out.hl HBxw3.out)
 have HO3:=zh (kept_block HO2.out.hp HBxw3.out)
 have HP3:=zh (kept_block HP.out HBo3.out)
 have HU3:=zh (kept_block HU.out HBo3.out)
 have HH3:=zh (kept_block HH.out HBo3.out)
 have HLo:=zh (kept_block HL.out HBo3.out)
 have HOo:=zh (kept_block HO.out HBo3.out)
 have HB3:=zh (q_next HBW.out HBo3.out)
 clear HO2 HXE HBE HBxw3 HP HU HH HL HO HBW
 generalize wo.heap.size=gb at HEV HO3
 clear HBo3 HB0
 obtain⟨p0,p1,p2,p3,p4,p5⟩:=six_cells HP3.out
 have m3:=cell_of_row w3 _ 3 _ _ _ HU3.out
 (try simp only at m3)
 go_upto_region 36 with fail
 obtain⟨kq,hkq⟩:∃ kq,kq=(!bd && decide (s < ca+a0+a1+a3)):=⟨_,rfl⟩
 have HKQ:=zh hkq
 clear hkq
 have hefa:ef=ca+a0+a1:=hef.out
 have hc3:0≤ef+a3∧ef+a3≤3000000:=by omega
 have HEA:=zh hefa
 clear hefa
 go_cut [290]from 280 to 290 (fun t wx=>t=.bool kq∧wx=w3)
 case first =>
  cases bd with
  | true =>
   obtain rfl:kq=false:=by rw[HKQ.out];rfl
   go_wp2
   go_meet
   case rel=>exact⟨rfl,rfl⟩
  | false =>
   by_cases hlt:s < ef+a3
   ·obtain rfl:kq=true:=by rw[HKQ.out,decide_eq_true (by have:=HEA.out;omega)];rfl
    go_wp2
    go_meet
    case rel=>exact⟨rfl,rfl⟩
   ·obtain rfl:kq=false:=by rw[HKQ.out,decide_eq_false (by have:=HEA.out;omega)];rfl
    go_wp2
    go_meet
    case rel=>exact⟨rfl,rfl⟩
 case rest =>
 obtain⟨ht290,hwx⟩:=hcut
 replace hwx:=hwx.symm
 subst ht290 hwx
 obtain⟨want,hwant⟩:∃ want,want=if kq then cf else ct:=⟨_,rfl⟩
 have HWT:=zh hwant
 clear hwant
 refine wp_enterK (by assumption) ?_
 go_cut [49]from 291 to 292 (fun v wx=>v=.int .i64 want∧wx=w3)
 case first =>
  cases kq with
  | true =>
   obtain rfl:want=cf:=by rw[HWT.out];rfl
   go_wp2
   go_meet
   case rel=>exact⟨rfl,rfl⟩
  | false =>
   obtain rfl:want=(ct:Int):=by rw[HWT.out];rfl
   go_wp2
   go_meet
   case rel=>exact⟨rfl,rfl⟩
 case rest =>
 obtain⟨ht49,hwx⟩:=hcut
 replace hwx:=hwx.symm
 subst ht49 hwx
 clear p0 p1 p2 p3 p4 p5 m3
 obtain⟨pk,hpk⟩:∃ k,k=pickI x8 1000000:=⟨_,rfl⟩
 have hpk0:=pickI_range x8 (show(0:Int) < 1000000 by omega)
 have HPK:=zh (fun W=>pickT_any x8 1000000 W ix (by omega) (by omega))
 rw[← hpk]at HPK hpk0
 clear hpk
 have e8:IntKind.i64.wrap (s+pk)=s+pk:=IntWalk.i64_in _ (by omega)
 refine wp_enterK (by assumption) ?_
 go_wp2_with (go_at_call 6;(with_reducible refine(HPK.out _).mono ?_);rintro e w' ⟨rfl,hw'⟩;replace hw':=hw'.symm;subst hw')
 obtain⟨db,hdb⟩:∃ db,db=w3.heap.size:=⟨_,rfl⟩
 have HBxw4:=zh ((Below.refl w3.heap.size w3).alloc (Nat.le_refl _) (.cells #[.int .i64 s,.int .i64 (s+pk)] 3))
 have HXdb:=zh (heap_alloc_new w3 (.cells #[.int .i64 s,.int .i64 (s+pk)] 3))
 rw[← hdb]at HXdb ⊢
 clear hdb
 generalize w3.alloc (.cells #[.int .i64 s,.int .i64 (s+pk)] 3)=w4 at *
 have HD:=zh (fun W (hW:Below w4.heap.size w4 W)=>two_cellsD (kept_block HXdb.out hW))
 have HCB:=zh (kept_block HXcb.out HBxw4.out)
 have HCH:=zh (kept_block HH3.out HBxw4.out)
 have HPL:=zh (kept_block HP3.out HBxw4.out)
 have HB4:=zh (q_next HB3.out HBxw4.out)
 have HAT:Hid (∀(t:Int),s≤t→t≤20000000→∀ W,Below w4.heap.size w4 W→Calls Tryz.prog 16 #[.agg #[.int .i64 cn,.int .i64 cf,.int .i64 a0,.int .i64 a1,.int .i64 a2,.int .i64 a3,.slice (some ⟨bl2,0,none⟩) 1 1,.slice (some ⟨bp2,0,none⟩) 1 1],.int .i64 t] W fun e w'=>∃ v,e=.returned (.tuple #[.int .i64 want,v,.int .i64 0])∧Below W.heap.size W w'):=zh (fun t g1 g2 W hW=>by
  have hef2:=HEA.out
  have hW3:=q_next HBxw4.out hW
  have h:=chainAt_any (HCL.out (some s) (fun z hz=>by cases hz;omega)) bd (kept_block HO3.out hW3) ⟨gb,rfl,kept_block HEV.out hW3⟩ (kept_block HL3.out hW3) t (by omega) g2
  rw[carT_back (by omega) g1]at h
  have hw:want=if bd=false∧s < ca+a0+a1+a3 then cf else ct:=by
   rw[HWT.out,HKQ.out]
   cases bd <;> simp
  rw[← hw]at h
  exact h)
 have HAS:Hid (∀(t:Int),s≤t→t≤20000000→∀ W,Below w4.heap.size w4 W→Calls Tryz.prog 16 #[.agg #[.int .i64 cn,.int .i64 cf,.int .i64 a0,.int .i64 a1,.int .i64 a2,.int .i64 a3,.slice (some ⟨bl,0,none⟩) 1 1,.slice (some ⟨bp,0,none⟩) 1 1],.int .i64 t] W fun e w'=>∃ v,e=.returned (.tuple #[.int .i64 ct,v,.int .i64 0])∧Below W.heap.size W w'):=zh (fun t g1 g2 W hW=>by
  have hef2:=HEA.out
  have hW3:=q_next HBxw4.out hW
  have h:=chainAt_any (HCL.out none (fun z hz=>by cases hz)) bd (kept_block HOo.out hW3) rfl (kept_block HLo.out hW3) t (by omega) g2
  rw[carT_none,if_neg (by omega)]at h
  exact h)
 clear HEV HL3 HO3 HU3 HLo HOo HPK e8 HCL HWT HKQ HXdb HXcb HH3 HP3 HBxw4 HB3
 go_loopw [300] (fun i wr=>∃ k:Nat,k≤2∧i=.int .i64 k∧Hid (Below w4.heap.size w4 wr)) (fun i _=>2 - (intOf i).toNat)
 case atStart=>exact⟨0,by omega,rfl,zh br0⟩
 case round =>
  obtain⟨k,hk,rfl,hB⟩:=hrel
  match k,hk with
  | 0,_ =>
   obtain⟨g0,g1⟩:=HD.out wr hB.out
   obtain⟨b0,b1,b2,b3,b4,b5,b6,b7⟩:=eight_cells (kept_block HCB.out hB.out)
   have HA1:=zh (HAT.out (s) (by omega) (by omega))
   have HA2:=zh (HAS.out (s) (by omega) (by omega))
   go_wp2_with (go_at_call 16;first | ((with_reducible refine(HA1.out _ hB.out).mono ?_);clear g0 g1 b0 b1 b2 b3 b4 b5 b6 b7;rintro e wx ⟨vx,rfl,hbx⟩;have HBx:=zh (q_next hB.out hbx);clear hbx;obtain⟨b0,b1,b2,b3,b4,b5,b6,b7⟩:=eight_cells (kept_block HCH.out HBx.out)) | ((with_reducible refine(HA2.out _ HBx.out).mono ?_);clear b0 b1 b2 b3 b4 b5 b6 b7;rintro e wy ⟨vy,rfl,hby⟩;have HBy:=zh (q_next HBx.out hby);clear hby;obtain⟨p0,p1,p2,p3,p4,p5⟩:=six_cells (kept_block HPL.out HBy.out)))
   go_roundw
   case rel=>exact⟨1,by omega,by go_num,HBy⟩
   case measure=>decide
  | 1,_ =>
   obtain⟨g0,g1⟩:=HD.out wr hB.out
   obtain⟨b0,b1,b2,b3,b4,b5,b6,b7⟩:=eight_cells (kept_block HCB.out hB.out)
   have HA1:=zh (HAT.out (s+pk) (by omega) (by omega))
   have HA2:=zh (HAS.out (s+pk) (by omega) (by omega))
   go_wp2_with (go_at_call 16;first | ((with_reducible refine(HA1.out _ hB.out).mono ?_);clear g0 g1 b0 b1 b2 b3 b4 b5 b6 b7;rintro e wx ⟨vx,rfl,hbx⟩;have HBx:=zh (q_next hB.out hbx);clear hbx;obtain⟨b0,b1,b2,b3,b4,b5,b6,b7⟩:=eight_cells (kept_block HCH.out HBx.out)) | ((with_reducible refine(HA2.out _ HBx.out).mono ?_);clear b0 b1 b2 b3 b4 b5 b6 b7;rintro e wy ⟨vy,rfl,hby⟩;have HBy:=zh (q_next HBx.out hby);clear hby;obtain⟨p0,p1,p2,p3,p4,p5⟩:=six_cells (kept_block HPL.out HBy.out)))
   go_roundw
   case rel=>exact⟨2,by omega,by go_num,HBy⟩
   case measure=>decide
  | 2,_ =>
   go_wp2
   go_ret
   exact⟨rfl,q_next HB4.out hB.out⟩
end Go.Proofs.YtjjiikeldpjafaaGreatDoor
/- TopReclaims: reclaim.State at one reply: its other closures, the first of the replies. The conditions: what the blocks hold. -/
namespace Go.Proofs.YtjjiikeldpjafaaGreatDoor
open Go.RowKit Go.BigFrame
attribute [local go_sem] Oper.semAt_some
set_option maxHeartbeats 1000000 in
theorem replyAt_any (rat ca c2:Int)(c3 c4:ByteArray)(ia:Option Addr)(ic:Nat)(W:World) :
  Calls Tryz.prog 50 #[.agg #[.int .i64 rat,.int .i64 ca,.int .i64 c2,.string c3,.string c4,.slice ia 1 ic]] W fun e w'=>e=.returned (.int .i64 rat)∧Below W.heap.size W w':=by
 obtain⟨W1,hW1⟩:∃ W1,W1=W.alloc (.cells #[.int .i64 rat,.int .i64 ca,.int .i64 c2,.string c3,.string c4,.slice ia 1 ic] 78):=⟨_,rfl⟩
 have HBW1:Hid (Below W.heap.size W W1):=zh (by rw[hW1];exact br0.alloc (Nat.le_refl _) _)
 have HXW1:Hid (W1.heap[W.heap.size]?=some (.cells #[.int .i64 rat,.int .i64 ca,.int .i64 c2,.string c3,.string c4,.slice ia 1 ic] 78 (0,0))):=zh (by rw[hW1];exact heap_alloc_new W _)
 have hsW1:Hid (W1.heap.size=W.heap.size+1):=zh (by rw[hW1];simp)
 have HWW1:=zh hW1
 clear hW1
 obtain⟨r0,r1,r2,r3,r4,r5⟩:=six_cellsR HXW1.out
 go_enter Tryz.func50,Tryz.ntmps50
 go_upto_region 1 with fail
 rw[← HWW1.out]
 clear HWW1
 go_wp2
 go_ret
 exact⟨rfl,HBW1.out⟩
set_option maxHeartbeats 4000000 in
set_option maxRecDepth 100000 in
theorem keepsFn_any {d:Sd}{bd:Bool}{w W:World}(ho:SdOk d bd w)(h:SvAt d w W) :
  Calls Tryz.prog 52 #[.agg #[.int .i64 d.rat,.int .i64 d.ca,.int .i64 d.c2,.string d.c3,.string d.c4,.slice d.ia 1 d.ic],.pointer (some ⟨d.fb,0,none⟩),.pointer (some ⟨d.sb,0,none⟩),.pointer (some ⟨d.cb,0,none⟩)] W fun e w'=>e=.returned (.bool (decide (d.rat < d.en) && bd))∧Below W.heap.size W w':=by
 have HS:=zh h
 have HCN:=zh (fun W (hW:SvAt d w W)=>counts_any ho hW)
 have HKP:=zh ho.kp
 clear h ho
 obtain⟨num,ho,ca,am,asked,en,key,rat,c2,c3,c4,ia,ic,ka,kn,kc,sb,yb,cb,tb,eb,fb⟩:=d
 simp only at HCN HKP ⊢
 obtain⟨tm,htm⟩:∃ tm,tm=decide (rat < en):=⟨_,rfl⟩
 rw[← htm]at HCN ⊢
 clear htm
 obtain⟨W1,hW1⟩:∃ W1,W1=W.alloc (.cells #[.int .i64 rat,.int .i64 ca,.int .i64 c2,.string c3,.string c4,.slice ia 1 ic] 78):=⟨_,rfl⟩
 have HBW1:Hid (Below W.heap.size W W1):=zh (by rw[hW1];exact br0.alloc (Nat.le_refl _) _)
 have HXW1:Hid (W1.heap[W.heap.size]?=some (.cells #[.int .i64 rat,.int .i64 ca,.int .i64 c2,.string c3,.string c4,.slice ia 1 ic] 78 (0,0))):=zh (by rw[hW1];exact heap_alloc_new W _)
 have hsW1:Hid (W1.heap.size=W.heap.size+1):=zh (by rw[hW1];simp)
 have HWW1:=zh hW1
 clear hW1
 have HS1:=zh (HS.out.step HBW1.out)
 obtain⟨r0,r1,r2,r3,r4,r5⟩:=six_cellsR HXW1.out
 have f0:=cell_of_row W1 _ 0 _ _ _ HS1.out.f
 have HC1:=zh (HCN.out W1 HS1.out)
 clear HS HCN
 simp only at f0
 go_enter Tryz.func52,Tryz.ntmps52
 go_upto_region 1 with fail
 rw[← HWW1.out]
 clear HWW1
 cases tm with
 | true =>
  go_wp2_with (first | (go_at_call 48;(with_reducible refine HC1.out.mono ?_);clear r0 r1 r2 r3 r4 r5 f0;rintro e w2 ⟨rfl,hb2⟩;have HS2:=zh (HS1.out.step hb2);have HB2:=zh (q_next HBW1.out hb2);obtain⟨r0,r1,r2,r3,r4,r5⟩:=six_cellsR (kept_block HXW1.out hb2);obtain⟨a0,a1,a2,a3,a4⟩:=five_cells HS2.out.c;have s0:=cell_of_row w2 _ 0 _ _ _ HS2.out.s;simp only at a0 a1 a2 a3 a4 s0;have HK2:=zh (HKP.out w2 HS2.out.b);clear hb2) | (go_at_call 53;(with_reducible refine HK2.out.mono ?_);clear r0 r1 r2 r3 r4 r5 a0 a1 a2 a3 a4 s0;rintro e w3 ⟨rfl,hb3⟩;have HB3:=zh (q_next HB2.out hb3);clear hb3))
  go_ret
  exact⟨by cases bd <;> rfl,HB3.out⟩
 | false =>
  go_wp2_with (go_at_call 48;(with_reducible refine HC1.out.mono ?_);clear r0 r1 r2 r3 r4 r5 f0;rintro e w2 ⟨rfl,hb2⟩;have HB2:=zh (q_next HBW1.out hb2);clear hb2)
  go_ret
  exact⟨rfl,HB2.out⟩
set_option maxHeartbeats 4000000 in
set_option maxRecDepth 100000 in
theorem lacksFn_any {d:Sd}{bd:Bool}{w W:World}(ho:SdOk d bd w)(h:SvAt d w W) :
  Calls Tryz.prog 54 #[.agg #[.int .i64 d.rat,.int .i64 d.ca,.int .i64 d.c2,.string d.c3,.string d.c4,.slice d.ia 1 d.ic],.pointer (some ⟨d.fb,0,none⟩),.pointer (some ⟨d.cb,0,none⟩)] W fun e w'=>e=.returned (.bool false)∧Below W.heap.size W w':=by
 have HS:=zh h
 have HCN:=zh (fun W (hW:SvAt d w W)=>counts_any ho hW)
 have HKP:=zh ho.lk
 clear h ho
 obtain⟨num,ho,ca,am,asked,en,key,rat,c2,c3,c4,ia,ic,ka,kn,kc,sb,yb,cb,tb,eb,fb⟩:=d
 simp only at HCN HKP ⊢
 obtain⟨tm,htm⟩:∃ tm,tm=decide (rat < en):=⟨_,rfl⟩
 rw[← htm]at HCN
 clear htm
 obtain⟨W1,hW1⟩:∃ W1,W1=W.alloc (.cells #[.int .i64 rat,.int .i64 ca,.int .i64 c2,.string c3,.string c4,.slice ia 1 ic] 78):=⟨_,rfl⟩
 have HBW1:Hid (Below W.heap.size W W1):=zh (by rw[hW1];exact br0.alloc (Nat.le_refl _) _)
 have HXW1:Hid (W1.heap[W.heap.size]?=some (.cells #[.int .i64 rat,.int .i64 ca,.int .i64 c2,.string c3,.string c4,.slice ia 1 ic] 78 (0,0))):=zh (by rw[hW1];exact heap_alloc_new W _)
 have hsW1:Hid (W1.heap.size=W.heap.size+1):=zh (by rw[hW1];simp)
 have HWW1:=zh hW1
 clear hW1
 have HS1:=zh (HS.out.step HBW1.out)
 obtain⟨r0,r1,r2,r3,r4,r5⟩:=six_cellsR HXW1.out
 have f0:=cell_of_row W1 _ 0 _ _ _ HS1.out.f
 have HC1:=zh (HCN.out W1 HS1.out)
 clear HS HCN
 simp only at f0
 go_enter Tryz.func54,Tryz.ntmps54
 go_upto_region 1 with fail
 rw[← HWW1.out]
 clear HWW1
 cases tm with
 | true =>
  go_wp2_with (first | (go_at_call 48;(with_reducible refine HC1.out.mono ?_);clear r0 r1 r2 r3 r4 r5 f0;rintro e w2 ⟨rfl,hb2⟩;have HS2:=zh (HS1.out.step hb2);have HB2:=zh (q_next HBW1.out hb2);obtain⟨r0,r1,r2,r3,r4,r5⟩:=six_cellsR (kept_block HXW1.out hb2);obtain⟨a0,a1,a2,a3,a4⟩:=five_cells HS2.out.c;simp only at a0 a1 a2 a3 a4;have HK2:=zh (HKP.out w2 HS2.out.b);clear hb2) | (go_at_call 55;(with_reducible refine HK2.out.mono ?_);clear r0 r1 r2 r3 r4 r5 a0 a1 a2 a3 a4;rintro e w3 ⟨rfl,hb3⟩;have HB3:=zh (q_next HB2.out hb3);clear hb3))
  go_ret
  exact⟨rfl,HB3.out⟩
 | false =>
  go_wp2_with (go_at_call 48;(with_reducible refine HC1.out.mono ?_);clear r0 r1 r2 r3 r4 r5 f0;rintro e w2 ⟨rfl,hb2⟩;have HB2:=zh (q_next HBW1.out hb2);clear hb2)
  go_ret
  exact⟨rfl,HB2.out⟩
set_option maxHeartbeats 4000000 in
set_option maxRecDepth 100000 in
theorem first3_any {rat ca c2:Int}{c3 c4:ByteArray}{ia:Option Addr}{ic:Nat}{fb sb cb rb:Nat}(bd:Bool){w:World}(hr:w.heap[rb]?=some (.cells #[.int .i64 rat,.int .i64 ca,.int .i64 c2,.string c3,.string c4,.slice ia 1 ic] 78 (0,0)))
  (hf:∀ W,Below w.heap.size w W→Calls Tryz.prog 52 #[.agg #[.int .i64 rat,.int .i64 ca,.int .i64 c2,.string c3,.string c4,.slice ia 1 ic],.pointer (some ⟨fb,0,none⟩),.pointer (some ⟨sb,0,none⟩),.pointer (some ⟨cb,0,none⟩)] W fun e w'=>e=.returned (.bool bd)∧Below W.heap.size W w') :
  Calls Tryz.prog 51 #[.slice (some ⟨rb,0,none⟩) 1 1,.func (.func 50) #[] #[],.func (.func 52) #[] #[.pointer (some ⟨fb,0,none⟩),.pointer (some ⟨sb,0,none⟩),.pointer (some ⟨cb,0,none⟩)]] w fun e w'=>e=.returned (.tuple #[.int .i64 (if bd then rat else 0),.bool bd])∧Below w.heap.size w w':=by
 have HR:=zh hr
 have HF:=zh hf
 have HA:=zh (fun W=>replyAt_any rat ca c2 c3 c4 ia ic W)
 clear hr hf
 go_enter Tryz.func51,Tryz.ntmps51
 go_wp2
 go_loopw [8,9,14] (fun x y i wr=>(x=.int .i64 0∧y=.bool false∧i=.int .i64 0∧wr=w)∨(x=.int .i64 (if bd then rat else 0)∧y=.bool bd∧i=.int .i64 1∧Hid (Below w.heap.size w wr))) (fun _ _ i _=>1 - (intOf i).toNat)
 case atStart=>exact .inl ⟨rfl,rfl,rfl,rfl⟩
 case round =>
  rcases hrel with⟨rfl,rfl,rfl,rfl⟩ | ⟨rfl,rfl,rfl,hb⟩
  ·obtain⟨r0,r1,r2,r3,r4,r5⟩:=six_cellsR HR.out
   have HBA:=zh ((Below.refl wr.heap.size wr).alloc (Nat.le_refl _) (.cells #[.int .i64 rat,.int .i64 ca,.int .i64 c2,.string c3,.string c4,.slice ia 1 ic] 78))
   have HXA:=zh (heap_alloc_new wr (.cells #[.int .i64 rat,.int .i64 ca,.int .i64 c2,.string c3,.string c4,.slice ia 1 ic] 78))
   go_upto_region 5 with fail
   obtain⟨pb,hpb⟩:∃ pb,pb=wr.heap.size:=⟨_,rfl⟩
   rw[← hpb]at HXA ⊢
   clear hpb r0 r1 r2 r3 r4 r5
   generalize wr.alloc (.cells #[.int .i64 rat,.int .i64 ca,.int .i64 c2,.string c3,.string c4,.slice ia 1 ic] 78)=W2 at *
   obtain⟨r0,r1,r2,r3,r4,r5⟩:=six_cellsR HXA.out
   have HC:=zh (HF.out W2 HBA.out)
   cases bd with
   | true =>
    go_wp2_with (first | (go_at_call 52;(with_reducible refine HC.out.mono ?_);clear r0 r1 r2 r3 r4 r5;rintro e w2 ⟨rfl,hb2⟩;have HB2:=zh (q_next HBA.out hb2);obtain⟨r0,r1,r2,r3,r4,r5⟩:=six_cellsR (kept_block HXA.out hb2);clear hb2) | (go_at_call 50;(with_reducible refine(HA.out _).mono ?_);clear r0 r1 r2 r3 r4 r5;rintro e w3 ⟨rfl,hb3⟩;have HB3:=zh (q_next HB2.out hb3);clear hb3))
    go_roundw
    case rel=>exact .inr ⟨rfl,rfl,by go_num,HB3⟩
    case measure=>decide
   | false =>
    go_wp2_with (go_at_call 52;(with_reducible refine HC.out.mono ?_);clear r0 r1 r2 r3 r4 r5;rintro e w2 ⟨rfl,hb2⟩;have HB2:=zh (q_next HBA.out hb2);clear hb2)
    go_roundw
    case rel=>exact .inr ⟨rfl,rfl,by go_num,HB2⟩
    case measure=>decide
  ·go_wp2
   all_goals exact bodyPost_ret (results_tmp2 rfl _ _ _) rfl ⟨rfl,hb.out⟩
set_option maxHeartbeats 4000000 in
set_option maxRecDepth 100000 in
theorem first4_any {rat ca c2:Int}{c3 c4:ByteArray}{ia:Option Addr}{ic:Nat}{fb cb rb:Nat}(bd:Bool){w:World}(hr:w.heap[rb]?=some (.cells #[.int .i64 rat,.int .i64 ca,.int .i64 c2,.string c3,.string c4,.slice ia 1 ic] 78 (0,0)))
  (hf:∀ W,Below w.heap.size w W→Calls Tryz.prog 54 #[.agg #[.int .i64 rat,.int .i64 ca,.int .i64 c2,.string c3,.string c4,.slice ia 1 ic],.pointer (some ⟨fb,0,none⟩),.pointer (some ⟨cb,0,none⟩)] W fun e w'=>e=.returned (.bool bd)∧Below W.heap.size W w') :
  Calls Tryz.prog 51 #[.slice (some ⟨rb,0,none⟩) 1 1,.func (.func 50) #[] #[],.func (.func 54) #[] #[.pointer (some ⟨fb,0,none⟩),.pointer (some ⟨cb,0,none⟩)]] w fun e w'=>e=.returned (.tuple #[.int .i64 (if bd then rat else 0),.bool bd])∧Below w.heap.size w w':=by
 have HR:=zh hr
 have HF:=zh hf
 have HA:=zh (fun W=>replyAt_any rat ca c2 c3 c4 ia ic W)
 clear hr hf
 go_enter Tryz.func51,Tryz.ntmps51
 go_wp2
 go_loopw [8,9,14] (fun x y i wr=>(x=.int .i64 0∧y=.bool false∧i=.int .i64 0∧wr=w)∨(x=.int .i64 (if bd then rat else 0)∧y=.bool bd∧i=.int .i64 1∧Hid (Below w.heap.size w wr))) (fun _ _ i _=>1 - (intOf i).toNat)
 case atStart=>exact .inl ⟨rfl,rfl,rfl,rfl⟩
 case round =>
  rcases hrel with⟨rfl,rfl,rfl,rfl⟩ | ⟨rfl,rfl,rfl,hb⟩
  ·obtain⟨r0,r1,r2,r3,r4,r5⟩:=six_cellsR HR.out
   have HBA:=zh ((Below.refl wr.heap.size wr).alloc (Nat.le_refl _) (.cells #[.int .i64 rat,.int .i64 ca,.int .i64 c2,.string c3,.string c4,.slice ia 1 ic] 78))
   have HXA:=zh (heap_alloc_new wr (.cells #[.int .i64 rat,.int .i64 ca,.int .i64 c2,.string c3,.string c4,.slice ia 1 ic] 78))
   go_upto_region 5 with fail
   obtain⟨pb,hpb⟩:∃ pb,pb=wr.heap.size:=⟨_,rfl⟩
   rw[← hpb]at HXA ⊢
   clear hpb r0 r1 r2 r3 r4 r5
   generalize wr.alloc (.cells #[.int .i64 rat,.int .i64 ca,.int .i64 c2,.string c3,.string c4,.slice ia 1 ic] 78)=W2 at *
   obtain⟨r0,r1,r2,r3,r4,r5⟩:=six_cellsR HXA.out
   have HC:=zh (HF.out W2 HBA.out)
   cases bd with
   | true =>
    go_wp2_with (first | (go_at_call 54;(with_reducible refine HC.out.mono ?_);clear r0 r1 r2 r3 r4 r5;rintro e w2 ⟨rfl,hb2⟩;have HB2:=zh (q_next HBA.out hb2);obtain⟨r0,r1,r2,r3,r4,r5⟩:=six_cellsR (kept_block HXA.out hb2);clear hb2) | (go_at_call 50;(with_reducible refine(HA.out _).mono ?_);clear r0 r1 r2 r3 r4 r5;rintro e w3 ⟨rfl,hb3⟩;have HB3:=zh (q_next HB2.out hb3);clear hb3))
    go_roundw
    case rel=>exact .inr ⟨rfl,rfl,by go_num,HB3⟩
    case measure=>decide
   | false =>
    go_wp2_with (go_at_call 54;(with_reducible refine HC.out.mono ?_);clear r0 r1 r2 r3 r4 r5;rintro e w2 ⟨rfl,hb2⟩;have HB2:=zh (q_next HBA.out hb2);clear hb2)
    go_roundw
    case rel=>exact .inr ⟨rfl,rfl,by go_num,HB2⟩
    case measure=>decide
  ·go_wp2
   all_goals exact bodyPost_ret (results_tmp2 rfl _ _ _) rfl ⟨rfl,hb.out⟩
end Go.Proofs.YtjjiikeldpjafaaGreatDoor
