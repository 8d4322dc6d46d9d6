/- Cuts of slices of strings; slices.Reverse at an owned slice; the walk of digest.Proof. The conditions: what the slice reads as, lengths, the table of constants. -/
import Derived.WalkMore
import Derived.Test.YtjjiikeldpjafaaGreatDoorTT05
namespace Go.Proofs.YtjjiikeldpjafaaGreatDoor
open Go.RowKit Go.BigFrame Go.Shelf
attribute [local go_sem] Oper.semAt_some
theorem SliceAt.drop {w:World}{b off n cap size:Nat}{cs:List (List Value)}(h:SliceAt w (.slice (some ⟨b,off,none⟩) n cap) size cs)(k:Nat)(hk:k≤n):SliceAt w (.slice (some ⟨b,off+k*size,none⟩) (n - k) (cap - k)) size (cs.drop k):=by
 obtain⟨a',cap',hv,h1,h2,h3⟩:=h
 injection hv with e1 e2 e3
 subst e1 e2 e3
 have hl:(cs.drop k).length=cs.length - k:=by rw[List.length_drop]
 refine⟨_,cap - k,by rw[hl],by omega,by omega,?_⟩
 rcases h3 with h3 | ⟨b',off',ha,hb,hc⟩
 ·exact .inl (by simp[h3])
 ·cases ha
  refine .inr ⟨_,_,rfl,hb,fun i c hi j u hj=>?_⟩
  rw[List.getElem?_drop]at hi
  have:=hc (k+i) c hi j u hj
  rw[← this,Nat.add_mul]
  congr 2
  omega
theorem SS.drop {w:World}{b off n cap:Nat}{xs:List ByteArray}(h:SS w (.slice (some ⟨b,off,none⟩) n cap) xs)(k:Nat)(hk:k≤n):SS w (.slice (some ⟨b,off+k,none⟩) (n - k) (cap - k)) (xs.drop k):=by
 have:=SliceAt.drop h k hk
 unfold SS scells at *
 rw[List.map_drop]
 simpa using this
theorem SS.len {w:World}{a:Option Addr}{n cap:Nat}{xs:List ByteArray}(h:SS w (.slice a n cap) xs):xs.length=n∧n≤cap∧cap≤maxLen:=by
 obtain⟨a',cap',hv,h1,h2,_⟩:=h.opened
 injection hv with e1 e2 e3
 omega
theorem setCells_world (b:Nat):∀(vs:List Value) (o:Nat) (w:World),w.grownBy (w.setCells b o vs) (some b)
 | [],_,w=>grown_refl _ _
 | v::r,o,w=>by
  rw[World.setCells]
  have h1:=grown_setCell (grown_refl w (some b)) ⟨b,o,none⟩ (.inl rfl) v
  have h2:=setCells_world b r (o+1) (w.setCell ⟨b,o,none⟩ v)
  exact⟨h2.os.trans h1.os,h2.tape.trans h1.tape,h2.output.trans h1.output,Nat.le_trans h1.size h2.size,fun i hi hne=>(h2.block i (Nat.lt_of_lt_of_le hi h1.size) hne).trans (h1.block i hi hne)⟩
def RowTy (w:World)(T:TypeId)(v:Value):Prop:=∀(a:Addr) (n c:Nat),v=.slice (some a) n c→n=0∨∃ cs fr,w.heap[a.block]?=some (.cells cs T fr)
theorem RowTy.below {w w':World}{T:TypeId}{v:Value}(h:RowTy w T v)(hb:Below w.heap.size w w'):RowTy w' T v:=fun a n c e=>by
 rcases h a n c e with h | ⟨cs,fr,h⟩
 ·exact .inl h
 ·exact .inr ⟨cs,fr,(hb.block _ (ltA h)).trans h⟩
theorem setCells_ty (b:Nat):∀(vs:List Value) (o:Nat) (w:World) (cs:Array Value) (T:TypeId) (fr:Nat × Nat),w.heap[b]?=some (.cells cs T fr)→∃ cs',(w.setCells b o vs).heap[b]?=some (.cells cs' T fr)
 | [],_,_,cs,_,_,h=>⟨cs,h⟩
 | v::r,o,w,_,T,fr,h=>by
  rw[World.setCells]
  exact setCells_ty b r (o+1) (w.setCell ⟨b,o,none⟩ v) _ T fr (heap_setCell_same v h)
theorem reverse_own {w:World}{base:Nat}{v:Value}{xs:List ByteArray}(h:OwnS w base v xs)(hl:xs.length≤100000) :
  Calls Tryz.prog 123 #[v] w fun e w'=>e=.returned (.tuple #[])∧SS w' v xs.reverse∧w.grownBy w' v.ownBlock∧RowTy w' 9 v:=by
 obtain⟨a,cap,hv⟩:=h.form
 have hlen:(scells xs).length=xs.length:=by simp[scells]
 rw[hlen]at hv
 subst hv
 rcases Nat.eq_zero_or_pos xs.length with h0 | hpos
 ·obtain rfl:=List.eq_nil_of_length_eq_zero h0
  refine(Tryz.slices_Reverse_string_empty a cap w).mono ?_
  rintro e w' ⟨he,rfl⟩
  exact⟨he,h.ss,grown_refl _ _,fun a' n c e=>.inl (by injection e with _ e2 _;exact e2.symm)⟩
 ·obtain⟨g,o,rfl,hg,hb,hc,hcm,hat⟩:=h.block hpos
  have hss:=h.ss
  have hat':=hat w hg
  obtain⟨cs,fr,rfl,hfz,hsz⟩:∃ cs fr,o=.cells cs 9 fr∧fr=(0,0)∧True:=by
   rcases h.2 with⟨hv,h0⟩ | ⟨g',cap',cur,hv,_,hg',_⟩
   ·injection hv with e1 _ _;cases e1
   ·injection hv with e1 _ _
    cases e1
    rw[hg]at hg'
    cases hg'
    exact⟨_,_,rfl,rfl,trivial⟩
  subst hfz
  have hS:∀ i,i < xs.length→w.cell? ⟨g,0+i,none⟩=some (.string (xs.getD i ⟨#[]⟩)):=by
   intro i hi
   rw[Nat.zero_add]
   exact hat' i _ (by rw[List.getD_eq_getElem?_getD,List.getElem?_eq_getElem hi];rfl)
  have hF:∀ j,j < xs.length→w.frozen? ⟨g,0+j,none⟩=false:=by
   intro j _
   simp[World.frozen?,hg]
  refine(Tryz.slices_Reverse_string_cells g 0 xs.length cap (fun i=>xs.getD i ⟨#[]⟩) w (by omega) hS hF).mono ?_
  rintro e w' ⟨he,q,rfl⟩
  have hlist:(Lib.strsOf (fun i=>xs.getD i ⟨#[]⟩) xs.length).reverse.map encStr=xs.reverse.map Value.string:=by
   have h1:Lib.strsOf (fun i=>xs.getD i ⟨#[]⟩) xs.length=xs.map (fun s=>s.data.toList):=by
    apply List.ext_getElem?
    intro i
    unfold Lib.strsOf
    rw[List.getElem?_map,List.getElem?_map]
    rcases Nat.lt_or_ge i xs.length with hi | hi
    ·rw[List.getElem?_range hi,List.getElem?_eq_getElem hi]
     simp[List.getElem?_eq_getElem hi]
    ·rw[List.getElem?_eq_none (by simpa using hi),List.getElem?_eq_none hi]
     rfl
   rw[h1,← List.map_reverse,List.map_map]
   rfl
  rw[hlist]
  have hgr:=setCells_world g (xs.reverse.map Value.string) 0 (w.drewN q)
  have hgr':w.grownBy ((w.drewN q).setCells g 0 (xs.reverse.map Value.string)) (some g):=⟨hgr.os,hgr.tape,hgr.output,hgr.size,hgr.block⟩
  have hty:RowTy ((w.drewN q).setCells g 0 (xs.reverse.map Value.string)) 9 (.slice (some ⟨g,0,none⟩) xs.length cap):=fun a' n' c' e=>by
   injection e with e1 _ _
   injection e1 with e1
   subst e1
   obtain⟨cs',h⟩:=setCells_ty g (xs.reverse.map Value.string) 0 (w.drewN q) _ _ _ hg
   exact .inr ⟨cs',_,h⟩
  refine⟨he,⟨_,cap,by simp[scells],by simp[scells];omega,hcm,.inr ⟨g,0,rfl,Nat.lt_of_lt_of_le (ltA hg) hgr'.size,?_⟩⟩,hgr',hty⟩
  intro i c hi j u hj
  unfold scells at hi
  rw[List.getElem?_map]at hi
  obtain⟨s,hs,rfl⟩:=Option.map_eq_some_iff.1 hi
  match j,hj with
  | 0,hj =>
   simp at hj
   subst hj
   have hi':i < (xs.reverse.map Value.string).length:=by
    rw[List.length_map]
    exact(List.getElem?_eq_some_iff.1 hs).1
   have:=World.cell?_setCells_in g (xs.reverse.map Value.string) 0 (w.drewN q) (fun j hj=>by
    rw[show(w.drewN q).cell? ⟨g,0+j,none⟩=w.cell? ⟨g,0+j,none⟩from rfl,hS j (by simpa using hj)];rfl) i hi'
   rw[show 0+i*1+0=0+i by omega,this]
   congr 1
   rw[List.getElem_map]
   congr 1
   exact(List.getElem?_eq_some_iff.1 hs).2
def lenOf:Value→Nat
 | .slice _ n _=>n
 | _=>0
theorem downL_one (l:List ByteArray)(i:Nat)(h:l.length≤1):downL leafS nodeS (sumS ⟨#[]⟩) l i=[]:=by
 rw[downL,dif_pos h]
theorem downL_left (l:List ByteArray)(i:Nat)(h:2≤l.length)(hi:i < leftN l.length):downL leafS nodeS (sumS ⟨#[]⟩) l i=rootB (l.drop (leftN l.length))::downL leafS nodeS (sumS ⟨#[]⟩) (l.take (leftN l.length)) i:=by
 rw[downL,dif_neg (by omega),if_pos hi];rfl
theorem downL_right (l:List ByteArray)(i:Nat)(h:2≤l.length)(hi:leftN l.length≤i):downL leafS nodeS (sumS ⟨#[]⟩) l i=rootB (l.take (leftN l.length))::downL leafS nodeS (sumS ⟨#[]⟩) (l.drop (leftN l.length)) (i - leftN l.length):=by
 rw[downL,dif_neg (by omega),if_neg (by omega)];rfl
set_option maxHeartbeats 4000000 in
set_option maxRecDepth 100000 in
theorem proof_no {w:World}{v:Value}{xs:List ByteArray}(i:Int)(hr:SS w v xs)(hi:i < 0∨(xs.length:Int)≤i) :
  Calls Tryz.prog 83 #[v,.int .i64 i] w fun e w'=>e=.returned (.tuple #[.slice none 0 0,.int .i64 2])∧w'=w:=by
 obtain⟨a,cap,rfl,l1,l2,l3⟩:=hr.opened
 clear l3 hr
 generalize xs.length=n at *
 go_enter Tryz.func83,Tryz.ntmps83
 by_cases hn:i < 0
 ·go_wp2
  go_step3
  go_wp2
  rw[Exit.noGoto_ret]
  exact bodyPost_ret (results_tmp2 rfl _ _ _) rfl ⟨rfl,rfl⟩
 ·have hd2:(n:Int)≤i:=by omega
  go_wp2
  go_step3
  go_wp2
  rw[Exit.noGoto_ret]
  exact bodyPost_ret (results_tmp2 rfl _ _ _) rfl ⟨rfl,rfl⟩
set_option maxHeartbeats 4000000 in
set_option maxRecDepth 100000 in
theorem proof_any {w:World}{v:Value}{xs:List ByteArray}(i:Nat)(hr:SS w v xs)(hl:xs.length≤1000)(hx:∀ x∈xs,x.size≤100000)(he:Env w)(hg:0 < w.heap.size)(hi:i < xs.length) :
  Calls Tryz.prog 83 #[v,.int .i64 i] w fun e w'=>∃ v',e=.returned (.tuple #[v',.int .i64 0])∧SS w' v' (downL leafS nodeS (sumS ⟨#[]⟩) xs i).reverse∧Below w.heap.size w w'∧RowTy w' 9 v':=by
 obtain⟨a,cap,rfl,l1,l2,l3⟩:=hr.opened
 obtain⟨b,off,rfl,hb,c1⟩:=l3 0 _ (List.getElem?_eq_getElem (by omega))
 have HR:=zh hr
 have HX:=zh hx
 have HE:=zh he
 have HG:=zh hg
 clear l3 hr hx he hg c1
 unfold maxLen at l2
 obtain⟨D,hD⟩:∃ D,D=downL leafS nodeS (sumS ⟨#[]⟩) xs i:=⟨_,rfl⟩
 rw[← hD]
 have HD0:Hid ([]++downL leafS nodeS (sumS ⟨#[]⟩) xs i=D∧xs.length=xs.length∧([]:List ByteArray).length+xs.length≤1000∧∀ y∈xs,y∈xs):=zh ⟨hD.symm,rfl,by simpa using hl,fun y h=>h⟩
 clear hD
 have HD1:Hid (∃ n,n=xs.length∧i < n∧n≤cap∧n≤1000):=zh ⟨_,rfl,hi,l1,hl⟩
 obtain⟨n,hn,hi,l1,hl⟩:=HD1.out
 have HN:=zh hn
 rw[← hn]at HR ⊢
 clear HD1 hn
 have hd0:¬ ((i:Int) < 0):=by omega
 have hd1:¬ ((n:Int)≤(i:Int)):=by omega
 go_enter Tryz.func83,Tryz.ntmps83
 go_wp2
 go_step3
 go_wp2
 go_step3
 go_wp2
 generalize Value.bool (decide ((i:Int) < 0) || decide (n≤i))=z3
 generalize Value.bool (decide (n≤i))=z2
 generalize Value.bool (decide ((i:Int) < 0))=z1
 go_loopw [0,1,6] (fun vl vi vo wr=>∃(ys ds:List ByteArray) (j m b off cap:Nat),vl=.slice (some ⟨b,off,none⟩) m cap∧vi=.int .i64 j∧j < m∧m≤1000∧Hid (ds++downL leafS nodeS (sumS ⟨#[]⟩) ys j=D∧ys.length=m∧ds.length+m≤1000∧∀ y∈ys,y∈xs)∧Hid (SS w (.slice (some ⟨b,off,none⟩) m cap) ys)∧Hid (OwnS wr w.heap.size vo ds∧Below w.heap.size w wr)) (fun vl _ _ wr=>lenOf vl)
 case atStart=>exact⟨xs,[],i,n,b,off,cap,rfl,rfl,hi,hl,zh ⟨HD0.out.1,HN.out.symm,by simpa using hl,fun y h=>h⟩,HR,zh ⟨OwnE.nil _ _ _ _,Below.refl _ _⟩⟩
 case round =>
  obtain⟨ys,ds,j,m,b,off,cap,rfl,rfl,hj,hm,HI,HS,HO⟩:=hrel
  obtain⟨hy,hc,hcm⟩:=HS.out.len
  unfold maxLen at hcm
  clear hy
  by_cases h1:m=1
  ·have HE1:Hid (D=ds):=zh (by rw[← HI.out.1,downL_one _ _ (by rw[HI.out.2.1];omega),List.append_nil])
   subst h1
   have hb1:(((1:Nat):Int) == 1)=true:=rfl
   have HRV:=zh (reverse_own HO.out.1 (by have:=HI.out.2.2.1;omega))
   go_wp2_with (go_at_call 123;refine HRV.out.mono ?_;rintro e w1 ⟨rfl,hs1,hg1,ht1⟩;have HS1:=zh hs1;have HG1:=zh hg1;have HT1:=zh ht1;clear hs1 hg1 ht1)
   rw[Exit.noGoto_ret]
   refine bodyPost_ret (results_tmp2 rfl _ _ _) rfl ⟨_,rfl,?_,?_,HT1.out⟩
   ·rw[HE1.out];exact HS1.out
   ·exact below_own HO.out.2 HO.out.1 HG1.out (Nat.le_refl _)
  ·have hb1:((m:Int) == 1)=false:=by simp;omega
   have HL:=zh (left_any m wr (by omega) (by omega))
   have hk1:=leftN_pos m
   have hk2:=leftN_lt (n:=m) (by omega)
   obtain⟨k,hk⟩:∃ k,k=leftN m:=⟨_,rfl⟩
   rw[← hk]at HL hk1 hk2
   have HK:=zh hk
   clear hk
   have HST:=zh (HS.out.cut k (by omega))
   have HSD:=zh (HS.out.drop k (by omega))
   have hyx:Hid (∀ y∈ys,y.size≤100000):=zh (fun y hy=>HX.out y (HI.out.2.2.2 y hy))
   by_cases hjk:k≤j
   ·have HRt:Hid (∀ q,Calls Tryz.prog 120 #[.slice (some ⟨b,off,none⟩) k cap] (wr.drewN q) fun e w'=>e=.returned (.string (rootB (ys.take k)))∧Below (wr.drewN q).heap.size (wr.drewN q) w'):=zh (fun q =>
     root_any ((HST.out.below HO.out.2).drewN q) (by rw[List.length_take];omega) (fun y hy=>hyx.out y (List.mem_of_mem_take hy)) (HE.out.below (below_drewN HO.out.2 q) HG.out) (Nat.lt_of_lt_of_le HG.out HO.out.2.size))
    have f1:IntKind.i64.wrap ((j:Int) - (k:Int))=((j - k:Nat):Int):=by rw[IntWalk.i64_in _ (by omega)];omega
    have hd:(k:Int)≤(j:Int):=by omega
    have HN1:Hid (ds++[rootB (ys.take k)]++downL leafS nodeS (sumS ⟨#[]⟩) (ys.drop k) (j - k)=D∧(ys.drop k).length=m - k∧(ds++[rootB (ys.take k)]).length+(m - k)≤1000∧∀ y∈ys.drop k,y∈xs):=zh (by
     obtain⟨e1,e2,e3,e4⟩:=HI.out
     have e5:=downL_right ys j (by omega) (by rw[e2,← HK.out];exact hjk)
     rw[e2,← HK.out]at e5
     refine⟨?_,?_,?_,fun y hy=>e4 y (List.mem_of_mem_drop hy)⟩
     ·rw[← e1,e5];simp
     ·rw[List.length_drop,e2]
     ·rw[List.length_append];simp;omega)
    go_wp2_with (first | (go_at_call 122;refine HL.out.mono ?_;rintro e w1 ⟨rfl,rfl⟩) | (go_quiet (fail)) | (go_at_call 120;refine(HRt.out _).mono ?_;rintro e w2 ⟨rfl,hb2⟩;have HO2:Hid (OwnS w2 w.heap.size _ ds∧Below w.heap.size w w2):=zh ⟨OwnE.far (OwnE.drewN HO.out.1 _) hb2 (Nat.le_refl _),(below_drewN HO.out.2 _).trans (hb2.mono HO.out.2.size)⟩;clear hb2) | (at_builtin;refine wpList_append_str (.tmp 38) (.tmp 41) w.heap.size _ ds w2.heap.size (rootB (ys.take k)) (0,0) (HO2.out.1.alloc _) (by have:=HI.out.2.2.1;omega) (Nat.le_trans HO2.out.2.size (by simp)) (heap_alloc_new _ _) rfl rfl rfl rfl ?_;intro v3 w3 ho3 hg3;have HO3:Hid (OwnS w3 w.heap.size v3 (ds++[rootB (ys.take k)])∧Below w.heap.size w w3):=zh ⟨ho3,below_own (HO2.out.2.alloc HO2.out.2.size _) (HO2.out.1.alloc _) hg3 (Nat.le_refl _)⟩;clear ho3 hg3))
    go_roundw
    case rel=>exact⟨ys.drop k,ds++[rootB (ys.take k)],j - k,m - k,b,off+k,cap - k,rfl,rfl,by omega,by omega,HN1,HSD,HO3⟩
    case measure=>simp only[lenOf];omega
   ·have HRt:Hid (∀ q,Calls Tryz.prog 120 #[.slice (some ⟨b,off+k,none⟩) (m - k) (cap - k)] (wr.drewN q) fun e w'=>e=.returned (.string (rootB (ys.drop k)))∧Below (wr.drewN q).heap.size (wr.drewN q) w'):=zh (fun q =>
     root_any ((HSD.out.below HO.out.2).drewN q) (by rw[List.length_drop];have:=HI.out.2.1;omega) (fun y hy=>hyx.out y (List.mem_of_mem_drop hy)) (HE.out.below (below_drewN HO.out.2 q) HG.out) (Nat.lt_of_lt_of_le HG.out HO.out.2.size))
    have hd:¬ (k:Int)≤(j:Int):=by omega
    have HN1:Hid (ds++[rootB (ys.drop k)]++downL leafS nodeS (sumS ⟨#[]⟩) (ys.take k) j=D∧(ys.take k).length=k∧(ds++[rootB (ys.drop k)]).length+k≤1000∧∀ y∈ys.take k,y∈xs):=zh (by
     obtain⟨e1,e2,e3,e4⟩:=HI.out
     have e5:=downL_left ys j (by omega) (by rw[e2,← HK.out];omega)
     rw[e2,← HK.out]at e5
     refine⟨?_,?_,?_,fun y hy=>e4 y (List.mem_of_mem_take hy)⟩
     ·rw[← e1,e5];simp
     ·rw[List.length_take,e2];omega
     ·rw[List.length_append];simp;omega)
    go_wp2_with (first | (go_at_call 122;refine HL.out.mono ?_;rintro e w1 ⟨rfl,rfl⟩) | (go_quiet (fail)) | (go_at_call 120;refine(HRt.out _).mono ?_;rintro e w2 ⟨rfl,hb2⟩;have HO2:Hid (OwnS w2 w.heap.size _ ds∧Below w.heap.size w w2):=zh ⟨OwnE.far (OwnE.drewN HO.out.1 _) hb2 (Nat.le_refl _),(below_drewN HO.out.2 _).trans (hb2.mono HO.out.2.size)⟩;clear hb2) | (at_builtin;refine wpList_append_str (.tmp 38) (.tmp 41) w.heap.size _ ds w2.heap.size (rootB (ys.drop k)) (0,0) (HO2.out.1.alloc _) (by have:=HI.out.2.2.1;omega) (Nat.le_trans HO2.out.2.size (by simp)) (heap_alloc_new _ _) rfl rfl rfl rfl ?_;intro v3 w3 ho3 hg3;have HO3:Hid (OwnS w3 w.heap.size v3 (ds++[rootB (ys.drop k)])∧Below w.heap.size w w3):=zh ⟨ho3,below_own (HO2.out.2.alloc HO2.out.2.size _) (HO2.out.1.alloc _) hg3 (Nat.le_refl _)⟩;clear ho3 hg3))
    go_roundw
    case rel=>exact⟨ys.take k,ds++[rootB (ys.drop k)],j,k,b,off,cap,rfl,rfl,by omega,by omega,HN1,HST,HO3⟩
    case measure=>simp only[lenOf];omega
end Go.Proofs.YtjjiikeldpjafaaGreatDoor
/- A range over a function whose round begins by making memory (a variable of the round's). -/
namespace Go.Proofs.YtjjiikeldpjafaaGreatDoor
open Go.RowKit
section
variable {P:Program} {α:Type}
theorem wpIn_rangeA {F:Fence}{n:Nat}{g:Operand}{ps:Array Tmp}{assign body:Code}{Q:Exit→Act→World→Prop}{a:Act}{w:World}
  (hF:Wide F) (hro:F.round=none) {gf:Nat} {lb:Array Value} (hg:a.eval g=.func (.func gf) #[] lb) (eg:∀ args w,(callFunc gf args).run P w=.ok (.enter gf args) w)
  {encs:α→Array Value} {Kp:World→World→Prop} {row:Option Nat} {S Sp:List α→Prop} {N:Nat} {w0:World} (hseq:Iter P gf lb encs Kp row S Sp N w0)
  (hb0:Below w0.heap.size w0 w) (hps:∀ x,(encs x).size=ps.size) (hrow:∀ k,row=some k→k < w.heap.size)
  (hKt:∀ {A B C:World},Kp A B→Kp B C→Kp A C) (hKb:∀(W:World) (l:Nat) (o o':Obj),w.heap.size≤l→W.heap[l]?=some o→o.isCells=false→o.isWalk=false→Kp W (W.putObj l o'))
  (I:List α→World→Prop) (Ix:Code→List α→World→Prop) (hI:Abide row w.heap.size I) (hIx:∀ c,Abide row w.heap.size (Ix c)) (h0:I [] w) (A1:Act→α→Act→World→Prop) (hA1:∀ x a' W l o o',A1 a x a' W→w.heap.size≤l→W.heap[l]?=some o→o.isCells=false→A1 a x a' (W.putObj l o'))
  (hKg:∀ A C:World,w.heap.size≤A.heap.size→A.grownBy C none→Kp A C)
  (hassign:∀(l:Nat) (pre:List α) (x:α) (W:World) (K:Act→World→Prop),I pre W→(∀ a' W',A1 a x a' W'→W.grownBy W' none→K a' W') →
   assign.wpIn (F.inRound l) (n - 1 - 1) P (Exit.then K (fun _ _ _=>False)) { tmps:=(ps.zip (encs x)).foldl (fun t (p,v)=>t.setIfInBounds p v) a.tmps,defers:=[] } W)
  (hbody:∀(l:Nat) (pre:List α) (x:α) (a':Act) (W:World),I pre W→pre.length < N→A1 a x a' W→body.wpIn (F.inRound l) (n - 1 - 1) P (ownPostG w.heap.size Kp I Ix (pre++[x]) W) a' W)
  (hdone:∀(D:Nat) (xs:List α) (W:World),w.heap.size≤D→S xs→I xs W→W.heap[D]?=some (.deferred (some []))→Q .normal { a with defers:={ target:=.collected D,args:=#[] }::a.defers } W)
  (hstop:∀(D:Nat) (c:Code) (pre:List α) (W:World),w.heap.size≤D→Sp pre→Ix c pre W→W.heap[D]?=some (.deferred (some []))→c.wpIn F n P Q { a with defers:={ target:=.collected D,args:=#[] }::a.defers } W) :
  (Code.rangeFunc g ps assign body).wpIn F n P Q a w:=by
 refine wpIn_rangeFunc ?_
 intro fn hfn
 rw[hro]
 obtain⟨rec,hrec⟩:∃ rec:LoopState→Option Code→Loop,rec=recOf fn a ps assign body w.heap.size:=⟨_,rfl⟩
 have hparams:∀ st pe,(rec st pe).params=ps:=by intro st pe;rw[hrec];rfl
 obtain⟨W1,hW1⟩:∃ W1,(w.alloc (.deferred (some []))).alloc (.loop (rec .ready none))=W1:=⟨_,rfl⟩
 have hsz:W1.heap.size=w.heap.size+2:=by rw[← hW1];simp
 have hB1:Book w (rec .ready none) W1:=by
  rw[← hW1]
  exact⟨heap_alloc2_new w _ _,heap_alloc2_old w _ _⟩
 have hI1:I [] W1:=by
  rw[← hW1]
  exact hI.2 _ _ _ none (hI.2 _ _ _ none h0 (World.grownBy_alloc w _ none) (.inl rfl)) (World.grownBy_alloc _ _ none) (.inl rfl)
 have hb1:Below w0.heap.size w0 W1:=by
  rw[← hW1];exact hb0.trans ((((Below.refl _ w).alloc (Nat.le_refl _) _).alloc (by simp) _).mono hb0.size)
 -- a turn of the record is borne by all
 have put:∀ {Z:List α→World→Prop} (pre:List α) (W:World) (r r':Loop),Abide row w.heap.size Z→Z pre W→Book w r W→Z pre (W.putObj (w.heap.size+1) (.loop r')) :=
  fun pre W r r' hZ hz hb=>hZ.2 pre W _ (some (w.heap.size+1)) hz (grownBy_putObj' W _ _) (.inr ⟨_,_,rfl,by omega,hb.1,rfl⟩)
 refine⟨w.heap.size+1,[{ target:=.collected w.heap.size,args:=#[] }],W1,{ target:=.fn (.func gf) lb,args:=#[.func (.yield (w.heap.size+1)) #[] #[]] },W1,gf,
  #[.func (.yield (w.heap.size+1)) #[] #[]]++lb,W1,?_,?_,?_,?_,?_,?_⟩
 ·rw[← hW1,hrec];exact run_enterLoop_outer _ _ _ _ _
 ·simp only[resolve,hg]
  simp[go_sem]
 ·intro f' _;exact hF.1 f'
 ·simp[invoke,go_sem,eg]
 ·intro h;rw[hF.2.1]at h;cases h
 refine(hseq F (n - 1) hF hro (w.heap.size+1) (fun pre W=>I pre W∧Book w (rec .ready none) W) (fun pre W=>∃ c,Ix c pre W∧Book w (rec .done (some c)) W) W1 hb1
  (fun pre A B h hg'=>⟨hI.1 pre A B h.1 hg',h.2.grown hg'.1 hrow⟩)
  (fun pre A B h hg'=>let ⟨c,hc,hk⟩:=h;⟨c,(hIx c).1 pre A B hc hg',hk.grown hg'.1 hrow⟩) ?round ⟨hI1,hB1⟩).mono ?behind
 case round =>
  rintro pre x U ⟨hi,hk⟩ hlen
  have hy:=run_yield (P:=P) (args:=encs x) hk.1 (by rw[hparams];exact hps x)
  rw[hrec]at hy
  refine⟨fn,_,assign,body,hy,roundIn_of_wpIn hfn (hassign _ pre x U _ hi (fun a₁ W hA hga=>?_))⟩
  have hgr:U.grownBy W row:=⟨hga.os,hga.tape,hga.output,hga.size,fun i hi' _=>hga.block i hi' (by simp)⟩
  have hKa:Kp U W:=hKg U W (by have:=(ltA hk.1);omega) hga
  replace hi:I pre W:=hI.2 pre U W none hi hga (.inl rfl)
  replace hk:Book w (rec .ready none) W:=hk.grown hgr hrow
  refine⟨_,run_beginRound hk.1 (by rw[hrec];rfl),?_⟩
  have hbusy:=hk.put { rec .ready none with state:=.busy }
  have hKp1:Kp U (W.putObj (w.heap.size+1) (.loop { rec .ready none with state:=.busy })):=hKt hKa (hKb _ _ _ _ (by omega) hk.1 rfl rfl)
  refine wpIn_mono (hbody _ pre x _ _ (put pre W _ _ hI hi hk) hlen (hA1 _ _ _ _ _ _ hA (by omega) hk.1 rfl)) ?_
  -- what the round's end leaves
  have fin:∀(jump:Option Code) (W3:World),KeepsFrom w.heap.size (W.putObj (w.heap.size+1) (.loop { rec .ready none with state:=.busy })) W3 →
    (Instr.endRound (w.heap.size+1) jump).run P W3=.ok (.bool jump.isNone) (W3.putObj (w.heap.size+1) (.loop (rec (if jump.isNone then .ready else .done) jump)))∧Book w { rec .ready none with state:=.busy } W3:=fun jump W3 hk3=>by
   have hb3:=hbusy.keeps hk3
   refine⟨?_,hb3⟩
   have:=run_endRound (P:=P) jump hb3.1
   rw[hrec]at this ⊢
   exact this
  have leave:∀(c:Code) (W3:World),KeepsFrom w.heap.size (W.putObj (w.heap.size+1) (.loop { rec .ready none with state:=.busy })) W3∧Ix c (pre++[x]) W3 →
    ∃ v w',(Instr.endRound (w.heap.size+1) (some c)).run P W3=.ok v w'∧((Ending.returned v=.returned (.bool true)∧(I (pre++[x]) w'∧Book w (rec .ready none) w')∧Kp U w')∨(Ending.returned v=.returned (.bool false)∧∃ c,Ix c (pre++[x]) w'∧Book w (rec .done (some c)) w')):=fun c W3 hp=>by
   obtain⟨hk3,hi3⟩:=hp
   obtain⟨hr,hb3⟩:=fin (some c) W3 hk3
   exact⟨_,_,hr,.inr ⟨rfl,c,put _ W3 _ _ (hIx c) hi3 hb3,hb3.put _⟩⟩
  rintro e a3 W3 hp
  cases e with
  | normal =>
   obtain⟨hk3,hkp3,hi3⟩:=hp
   obtain⟨hr,hb3⟩:=fin none W3 hk3
   exact⟨_,_,hr,.inl ⟨rfl,⟨put _ W3 _ _ hI hi3 hb3,hb3.put _⟩,hKt (hKt hKp1 hkp3) (hKb _ _ _ _ (by omega) hb3.1 rfl rfl)⟩⟩
  | ret=>exact leave .ret W3 hp
  | exit id=>exact leave (.exit id) W3 hp
  | goto t=>exact leave (.goto t) W3 hp
  | panic ch=>exact hp.elim
  | outgrown=>exact hp.elim
 case behind =>
  rintro e W2 ⟨⟨v,rfl⟩,(⟨xs,hS,hi,hk⟩ | ⟨pre,hSp,c,hi,hk⟩)⟩
  ·refine⟨none,_,?_,hdone _ xs _ (Nat.le_refl _) hS (put _ W2 _ { rec .ready none with state:=.exhausted } hI hi hk) (hk.put _).2⟩
   have:=run_endLoop (P:=P) hk.1 (by rw[hrec];simp[recOf])
   rw[hrec]at this ⊢
   exact this
  ·refine⟨some c,_,?_,hstop _ c pre _ (Nat.le_refl _) hSp (put _ W2 _ { rec .done (some c)with state:=.exhausted } (hIx c) hi hk) (hk.put _).2⟩
   have:=run_endLoop (P:=P) hk.1 (by rw[hrec];simp[recOf])
   rw[hrec]at this ⊢
   exact this
end
end Go.Proofs.YtjjiikeldpjafaaGreatDoor
/- Owned slices of sides; the walk of digest.Verify. The conditions: what the slice reads as, lengths, the table of constants. -/
namespace Go.Proofs.YtjjiikeldpjafaaGreatDoor
open Go.RowKit Go.BigFrame Go.Shelf
attribute [local go_sem] Oper.semAt_some
def xcells (l:List (ByteArray × Bool)):List (List Value):=l.map fun s=>[.string s.1,.bool s.2]
def OwnX (w:World)(base:Nat)(v:Value)(xs:List (ByteArray × Bool)):Prop:=OwnE w base 234 2 v (xcells xs)
theorem infoSide:(Tryz.prog.info? 234).map (fun i=>(i.zero,i.size,i.bytes))=some (some (.agg #[.string ⟨#[]⟩,.bool false]),2,24):=by kernel_rfl
section
variable {ops:Array Oper} {rest:List Oper} {o:Oper} {a:Act} {w:World} {Q:Exit→Act→World→Prop}
theorem wpList_append_side (s x:Operand)(base:Nat)(v:Value)(xs:List (ByteArray × Bool))(b:Nat)(y:ByteArray × Bool)(fr:Nat × Nat)(hown:OwnX w base v xs)(hlen:xs.length≤100000)(hbase:base≤w.heap.size)
  (hb:w.heap[b]?=some (.cells #[.string y.1,.bool y.2] 234 fr)) (hgd:o.guard=none) (ho:o.op=.call { callee:=.builtin .append,args:=#[s,x],argTypes:=#[230,230] }) (hs:a.eval s=v) (hx:a.eval x=.slice (some ⟨b,0,none⟩) 1 1)
  (h:∀ v' w',OwnX w' base v' (xs++[y])→w.grownBy w' v.ownBlock→wpList Tryz.prog ops Q rest (a.put o.dst v') w'):wpList Tryz.prog ops Q (o::rest) a w :=
 wpList_append_el 230 234 2 24 _ (by kernel_rfl) infoSide rfl (by decide) hgd s x ho base v (xcells xs) hs hown b [.string y.1,.bool y.2] rfl (fun u hu=>by simp at hu;rcases hu with rfl | rfl <;> rfl) hx fr hb
  (by unfold xcells;rw[List.length_map];unfold maxLen;omega) (by unfold xcells;rw[List.length_map];omega) hbase fun v' w' h1 h2=>h v' w' (by unfold OwnX xcells;rw[List.map_append];exact h1) h2
end
theorem xcells_at (xs:List (ByteArray × Bool)):∀(k:Nat) (s:ByteArray × Bool),xs[k]?=some s→(xcells xs).flatten[k*2]?=some (.string s.1)∧(xcells xs).flatten[k*2+1]?=some (.bool s.2):=by
 unfold xcells
 induction xs with
 | nil=>intro k s h;simp at h
 | cons x xs ih =>
  intro k s h
  cases k with
  | zero =>
   simp at h
   subst h
   exact⟨rfl,rfl⟩
  | succ k =>
   have h1:=ih k s (by simpa using h)
   rw[List.map_cons,List.flatten_cons,show(k+1)*2=k*2+2 by omega]
   exact h1
theorem OwnX.form {w:World}{base:Nat}{v:Value}{xs:List (ByteArray × Bool)}(h:OwnX w base v xs):∃ a cap,v=.slice a xs.length cap:=by
 obtain⟨a,cap,h1⟩:=OwnE.form h
 unfold xcells at h1
 rw[List.length_map]at h1
 exact⟨a,cap,h1⟩
theorem OwnX.block {w:World}{base:Nat}{a:Option Addr}{n cap:Nat}{xs:List (ByteArray × Bool)}(h:OwnX w base (.slice a n cap) xs)(h0:0 < w.heap.size):xs.length=n∧n≤cap∧cap≤maxLen∧∃(g:Nat) (o:Obj),w.heap[g]?=some o ∧
  ∀ W:World,W.heap[g]?=some o→∀ k s,xs[k]?=some s→∃ b off,a=some ⟨b,off,none⟩∧W.cell? ⟨b,off+k*2,none⟩=some (.string s.1)∧W.cell? ⟨b,off+k*2+1,none⟩=some (.bool s.2):=by
 rcases h.2 with⟨hv,hl⟩ | ⟨g,cap',cur,hv,hb,hg,hnc,hcm,hcs,htake⟩
 ·injection hv with e1 e2 e3
  subst e1 e2 e3
  unfold xcells at hl
  rw[List.length_map]at hl
  obtain rfl:=List.eq_nil_of_length_eq_zero hl
  exact⟨rfl,Nat.le_refl _,by decide,0,_,Array.getElem?_eq_getElem h0,fun W _ k s hk=>by simp at hk⟩
 ·injection hv with e1 e2 e3
  subst e1 e3
  have hl:xs.length=n:=by rw[e2];unfold xcells;rw[List.length_map]
  refine⟨hl,by omega,hcm,g,_,hg,fun W hW k s hk=>⟨g,0,rfl,?_⟩⟩
  obtain⟨h1,h2⟩:=xcells_at xs k s hk
  rw[Nat.zero_add,cell_of_row W g _ _ _ _ hW,cell_of_row W g _ _ _ _ hW]
  rw[← htake,List.getElem?_take]at h1 h2
  split at h1
  ·split at h2
   ·exact⟨by simpa using h1,by simpa using h2⟩
   ·cases h2
  ·cases h1
theorem same_str (a b:ByteArray):(a.toList == b.toList)=decide (a=b):=by
 rw[Bool.eq_iff_iff,beq_iff_eq,decide_eq_true_iff,ByteArray.toList_eq,ByteArray.toList_eq]
 constructor
 ·intro h
  exact ByteArray.ext (Array.ext' h)
 ·rintro rfl;rfl
def verB (root:ByteArray)(n i:Nat)(s:ByteArray)(pr:List ByteArray):Bool:=decide (valueL leafS nodeS s pr.reverse n i=some root)
def WayI (s:ByteArray)(pr:List ByteArray)(n i:Nat)(ws:List (ByteArray × Bool))(ps:List ByteArray)(n' i':Nat):Prop :=
 valueL leafS nodeS s pr.reverse n i=(valueL leafS nodeS s ps.reverse n' i').map fun v=>ws.foldr sideS v
theorem WayI.start (s:ByteArray)(pr:List ByteArray)(n i:Nat):WayI s pr n i [] pr n i:=by
 unfold WayI
 cases valueL leafS nodeS s pr.reverse n i <;> rfl
theorem WayI.step {s:ByteArray}{pr:List ByteArray}{n i:Nat}{ws:List (ByteArray × Bool)}{ps:List ByteArray}{x:ByteArray}{n' i':Nat}(h:WayI s pr n i ws (ps++[x]) n' i')(hn:1 < n') :
  (leftN n'≤i'→WayI s pr n i (ws++[(x,true)]) ps (n' - leftN n') (i' - leftN n'))∧(i' < leftN n'→WayI s pr n i (ws++[(x,false)]) ps (leftN n') i'):=by
 unfold WayI at *
 rw[List.reverse_append,List.reverse_singleton,List.singleton_append,valueL,if_neg (by omega)]at h
 refine⟨fun h1=>?_,fun h1=>?_⟩
 ·rw[if_neg (by omega)]at h
  rw[h,Option.map_map]
  congr 1
  funext v
  simp[sideS]
 ·rw[if_pos h1]at h
  rw[h,Option.map_map]
  congr 1
  funext v
  simp[sideS]
theorem WayI.short {s:ByteArray}{pr:List ByteArray}{n i:Nat}{ws:List (ByteArray × Bool)}{n' i':Nat}(h:WayI s pr n i ws [] n' i')(hn:1 < n')(root:ByteArray):verB root n i s pr=false:=by
 unfold WayI at h
 rw[List.reverse_nil,valueL,if_neg (by omega)]at h
 unfold verB
 rw[h]
 simp
theorem WayI.long {s:ByteArray}{pr:List ByteArray}{n i:Nat}{ws:List (ByteArray × Bool)}{ps:List ByteArray}{n' i':Nat}(h:WayI s pr n i ws ps n' i')(hn:n'≤1)(hp:ps≠[])(root:ByteArray):verB root n i s pr=false:=by
 unfold WayI at h
 rcases List.eq_nil_or_concat ps with rfl | ⟨ps',x,rfl⟩
 ·exact absurd rfl hp
 rw[List.concat_eq_append,List.reverse_append,List.reverse_singleton,List.singleton_append,valueL,if_pos hn]at h
 unfold verB
 rw[h]
 simp
theorem WayI.done {s:ByteArray}{pr:List ByteArray}{n i:Nat}{ws:List (ByteArray × Bool)}{n' i':Nat}(h:WayI s pr n i ws [] n' i')(hn:n'≤1)(root:ByteArray):verB root n i s pr=decide (ws.foldr sideS (leafS s)=root):=by
 unfold WayI at h
 rw[List.reverse_nil,valueL,if_pos hn]at h
 unfold verB
 rw[h]
 simp
def upF (last:ByteArray)(xs:List DgX):ByteArray:=xs.foldl (fun out x=>sideS x.1.2 out) last
theorem upF_snoc (last:ByteArray)(xs:List DgX)(x:DgX):upF last (xs++[x])=sideS x.1.2 (upF last xs):=by simp[upF]
theorem sideS_size (x:ByteArray × Bool)(p:ByteArray):(sideS x p).size=32:=by
 unfold sideS
 split <;> exact nodeS_size _ _
theorem upF_size (last:ByteArray)(h:last.size=32)(xs:List DgX):(upF last xs).size=32:=by
 rcases List.eq_nil_or_concat xs with rfl | ⟨ys,y,rfl⟩
 ·exact h
 ·rw[List.concat_eq_append,upF_snoc];exact sideS_size _ _
theorem upF_all (last:ByteArray)(xs:List DgX)(ws:List (ByteArray × Bool))(h:xs.map (fun x=>x.1.2)=ws.reverse):upF last xs=ws.foldr sideS last:=by
 rw[← List.foldl_reverse,← h,List.foldl_map]
 rfl
end Go.Proofs.YtjjiikeldpjafaaGreatDoor
/- The walk of digest.Verify. The conditions: what the slice reads as, lengths, the table of constants. -/
namespace Go.Proofs.YtjjiikeldpjafaaGreatDoor
open Go.RowKit Go.BigFrame Go.Shelf
attribute [local go_sem] Oper.semAt_some
set_option maxHeartbeats 1000000 in
theorem take_cut {w:World}{a:Option Addr}{m cap:Nat}{xs:List ByteArray}(x:ByteArray)(hr:SS w (.slice a m cap) (xs++[x])) :
  Calls Tryz.prog 126 #[.slice a m cap] w fun e w'=>∃ n,e=.returned (.tuple #[.string x,.slice a xs.length cap,.bool true])∧w'=w.drewN n:=by
 obtain⟨a',cap',hv,l1,l2,l3⟩:=hr.opened
 have hl:(xs++[x]).length=xs.length+1:=by simp
 rw[hl]at l1 hv
 cases hv
 obtain⟨b,off,rfl,hb,c1⟩:=l3 xs.length x (by simp)
 clear l3 hr hl
 unfold maxLen at l2
 have b1:(0:Int)≤(xs.length:Int):=by omega
 generalize xs.length=n at *
 have b2:(n:Int) < ((n+1:Nat):Int):=by omega
 have f1:IntKind.i64.wrap (((n+1:Nat):Int) - 1)=(n:Int):=by rw[IntWalk.i64_in _ (by omega)];omega
 go_enter Tryz.func126,Tryz.ntmps126
 go_wp2
 go_quiet (fail)
 go_wp2
 refine bodyPost_ret (results_tmp3 rfl _ _ _) rfl ?_
 exact⟨_,rfl,rfl⟩
set_option maxHeartbeats 4000000 in
set_option maxRecDepth 100000 in
theorem verify_no {w:World}{v:Value}{pr:List ByteArray}(root s:ByteArray)(n i:Int)(hr:SS w v pr)(hi:i < 0∨n≤i∨pr.all isDig=false) :
  Calls Tryz.prog 86 #[.string root,.int .i64 n,.int .i64 i,.string s,v] w fun e w'=>e=.returned (.bool false)∧w'=w:=by
 have HA:=zh (allD_any hr)
 clear hr
 generalize pr.all isDig=al at *
 go_enter Tryz.func86,Tryz.ntmps86
 by_cases h1:i < 0
 ·go_wp2
  exact bodyPost_ret (results_tmp rfl _ _ _) rfl ⟨rfl,rfl⟩
 ·by_cases h2:n≤i
  ·go_wp2
   exact bodyPost_ret (results_tmp rfl _ _ _) rfl ⟨rfl,rfl⟩
  ·have h3:al=false:=by
    rcases hi with h | h | h
    ·exact absurd h h1
    ·exact absurd h h2
    ·exact h
   subst h3
   go_wp2_with (go_at_call 125;refine HA.out.mono ?_;rintro e w1 ⟨rfl,rfl⟩)
   exact bodyPost_ret (results_tmp rfl _ _ _) rfl ⟨rfl,rfl⟩
set_option maxHeartbeats 4000000 in
set_option maxRecDepth 100000 in
theorem verify_any {w:World}{v:Value}{pr:List ByteArray}(root s:ByteArray)(n i:Nat)(hr:SS w v pr)(hl:pr.length≤1000)(hs:s.size≤100000)(he:Env w)(hg:0 < w.heap.size)(hn:n≤1000000)(hi:i < n)(ha:pr.all isDig=true) :
  Calls Tryz.prog 86 #[.string root,.int .i64 n,.int .i64 i,.string s,v] w fun e w'=>e=.returned (.bool (verB root n i s pr))∧Below w.heap.size w w':=by
 obtain⟨a,cap,rfl,l1,l2,_⟩:=hr.opened
 have HA:=zh (allD_any hr)
 rw[ha]at HA
 have HE:=zh he
 have HG:=zh hg
 have HW:Hid (WayI s pr n i [] pr n i∧pr.length=pr.length∧(∀ x∈pr,x.size=32)):=zh ⟨WayI.start s pr n i,rfl,fun x hx=>by
  have:=List.all_eq_true.1 ha x hx
  exact of_decide_eq_true this⟩
 obtain⟨RB,hRB⟩:∃ RB,RB=verB root n i s pr:=⟨_,rfl⟩
 rw[← hRB]
 have HRB:=zh hRB
 have HR:=zh hr
 clear hRB hr ha he hg
 unfold maxLen at l2
 obtain⟨m,hm⟩:∃ m,m=pr.length:=⟨_,rfl⟩
 rw[← hm]at HR HA l1 hl ⊢
 have HM:=zh hm
 clear hm
 have hd0:¬ ((i:Int) < 0):=by omega
 have hd1:¬ ((n:Int)≤(i:Int)):=by omega
 refine calls_of_callsIn (n:=8) Wide.wide (callsIn_of_wp_marks Tryz.func86 rfl trivial ?_)
 simp only[Tryz.ntmps86,List.size_toArray,List.length_cons,List.length_nil,Nat.reduceAdd,Nat.reduceSub,Array.replicate_succ,Array.replicate_zero,List.push_toArray,List.append_toArray,List.nil_append,List.cons_append]
 refine wpIn_wide.2 ?_
 go_wp2_with (go_at_call 125;refine HA.out.mono ?_;rintro e w1 ⟨rfl,rfl⟩)
 go_loopw [1,2,4,11] (fun vn vi vp vw wr=>∃(n' i':Nat) (ps:List ByteArray) (ws:List (ByteArray × Bool)) (m':Nat) (a':Option Addr) (cap':Nat),vn=.int .i64 n'∧vi=.int .i64 i'∧i' < n'∧n'≤n∧vp=.slice a' m' cap'∧Hid (WayI s pr n i ws ps n' i'∧ps.length=m'∧ws.length+m'≤1000∧(∀ x∈ps,x.size=32)∧(∀ x∈ws,x.1.size=32))∧Hid (SS w (.slice a' m' cap') ps)∧Hid (OwnX wr w.heap.size vw ws∧Below w.heap.size w wr)) (fun vn _ _ _ wr=>(intOf vn).toNat)
 case atStart=>exact⟨n,i,pr,[],m,a,cap,rfl,rfl,hi,Nat.le_refl _,rfl,zh ⟨HW.out.1,HM.out.symm,by simpa using hl,HW.out.2.2,fun x hx=>absurd hx List.not_mem_nil⟩,HR,zh ⟨OwnE.nil _ _ _ _,Below.refl _ _⟩⟩
 case round =>
  obtain⟨n',i',ps,ws,m',a',cap',rfl,rfl,hi',hn',rfl,HI,HS,HO⟩:=hrel
  obtain⟨a3,cap3,hv3⟩:=HO.out.1.form
  subst hv3
  by_cases h1:1 < n'
  ·have hlt:(1:Int) < (n':Int):=by omega
   rcases List.eq_nil_or_concat ps with rfl | ⟨ps',x,rfl⟩
   ·have hF:Hid (RB=false):=zh (by rw[HRB.out];exact HI.out.1.short h1 root)
    have hm0:m'=0:=HI.out.2.1.symm
    subst hm0
    go_wp2_with (go_at_call 126;refine(take_none _ _ _).mono ?_;rintro e w1 ⟨rfl,rfl⟩)
    refine leaves_marks (B:=w.heap.size) [] _ ⟨List.nodup_nil,fun D h=>absurd h List.not_mem_nil⟩ (fun W'' hT=>⟨_,results_tmp rfl _ _ _,?_,HO.out.2.trans hT.below⟩)
    rw[hF.out]
    rfl
   ·rw[List.concat_eq_append]at *
    have HT:=zh (take_cut x (HS.out.below HO.out.2))
    have HL:=zh (fun q=>left_any n' (wr.drewN q) (by omega) (by omega))
    have hk1:=leftN_pos n'
    have hk2:=leftN_lt (n:=n') (by omega)
    have HST:=zh (HI.out.1.step h1)
    obtain⟨k,hk⟩:∃ k,k=leftN n':=⟨_,rfl⟩
    rw[← hk]at HL hk1 hk2 HST
    clear hk
    obtain⟨p,hp⟩:∃ p,p=ps'.length:=⟨_,rfl⟩
    have hm1:m'=p+1:=by rw[← HI.out.2.1,hp];simp
    subst hm1
    have HSC:Hid (SS w (.slice a' p cap') ps'):=zh (by
     have:=HS.out.cut p (by omega)
     rw[hp,List.take_left]at this
     rw[hp]
     exact this)
    rw[← hp]at HT
    have HP:=zh hp
    clear hp
    have HJ:Hid ((ws.length+(p+1)≤1000)∧(∀ x∈ps',x.size=32)∧x.size=32∧∀ x∈ws,x.1.size=32):=zh ⟨HI.out.2.2.1,fun y hy=>HI.out.2.2.2.1 y (by simp[hy]),HI.out.2.2.2.1 x (by simp),HI.out.2.2.2.2⟩
    have HJ2:∀(b:Bool),(ws++[(x,b)]).length+p≤1000∧(∀ y∈ws++[(x,b)],y.1.size=32):=fun b=>⟨by have:=HJ.out.1;rw[List.length_append];simp;omega,fun y hy=>by
     rcases List.mem_append.1 hy with h | h
     ·exact HJ.out.2.2.2 y h
     ·rw[List.mem_singleton]at h;subst h;exact HJ.out.2.2.1⟩
    have HJ2:=zh HJ2
    by_cases hik:k≤i'
    ·have hd:(k:Int)≤(i':Int):=by omega
     have f1:IntKind.i64.wrap ((n':Int) - (k:Int))=((n' - k:Nat):Int):=by rw[IntWalk.i64_in _ (by omega)];omega
     have f2:IntKind.i64.wrap ((i':Int) - (k:Int))=((i' - k:Nat):Int):=by rw[IntWalk.i64_in _ (by omega)];omega
     go_wp2_with (first | (go_at_call 126;refine HT.out.mono ?_;rintro e w1 ⟨q,rfl,rfl⟩) | (go_at_call 122;refine(HL.out _).mono ?_;rintro e w2 ⟨rfl,rfl⟩) | (go_quiet (fail)) | (at_builtin;refine wpList_append_side (.tmp 44) (.tmp 50) w.heap.size _ ws wr.heap.size (x,true) (0,0) (OwnE.alloc (OwnE.drewN HO.out.1 _) _) (by have:=HI.out.2.2.1;omega) (Nat.le_trans HO.out.2.size (by simp[World.drewN])) (heap_alloc_new _ _) rfl rfl rfl rfl ?_;intro v3 w3 ho3 hg3;have HO3:Hid (OwnX w3 w.heap.size v3 (ws++[(x,true)])∧Below w.heap.size w w3):=zh ⟨ho3,below_own ((below_drewN HO.out.2 _).alloc HO.out.2.size _) (OwnE.alloc (OwnE.drewN HO.out.1 _) _) hg3 (Nat.le_refl _)⟩;clear ho3 hg3))
     go_roundw
     case rel=>exact⟨n' - k,i' - k,ps',ws++[(x,true)],p,a',cap',rfl,rfl,by omega,by omega,rfl,zh ⟨HST.out.1 hik,HP.out.symm,(HJ2.out true).1,HJ.out.2.1,(HJ2.out true).2⟩,HSC,HO3⟩
     case measure=>simp[intOf];omega
    ·have hd:¬ (k:Int)≤(i':Int):=by omega
     go_wp2_with (first | (go_at_call 126;refine HT.out.mono ?_;rintro e w1 ⟨q,rfl,rfl⟩) | (go_at_call 122;refine(HL.out _).mono ?_;rintro e w2 ⟨rfl,rfl⟩) | (go_quiet (fail)) | (at_builtin;refine wpList_append_side (.tmp 44) (.tmp 50) w.heap.size _ ws wr.heap.size (x,false) (0,0) (OwnE.alloc (OwnE.drewN HO.out.1 _) _) (by have:=HI.out.2.2.1;omega) (Nat.le_trans HO.out.2.size (by simp[World.drewN])) (heap_alloc_new _ _) rfl rfl rfl rfl ?_;intro v3 w3 ho3 hg3;have HO3:Hid (OwnX w3 w.heap.size v3 (ws++[(x,false)])∧Below w.heap.size w w3):=zh ⟨ho3,below_own ((below_drewN HO.out.2 _).alloc HO.out.2.size _) (OwnE.alloc (OwnE.drewN HO.out.1 _) _) hg3 (Nat.le_refl _)⟩;clear ho3 hg3))
     go_roundw
     case rel=>exact⟨k,i',ps',ws++[(x,false)],p,a',cap',rfl,rfl,by omega,by omega,rfl,zh ⟨HST.out.2 (by omega),HP.out.symm,(HJ2.out false).1,HJ.out.2.1,(HJ2.out false).2⟩,HSC,HO3⟩
     case measure=>simp[intOf];omega
  ·have hn1:n'≤1:=by omega
   have hlt:¬ (1:Int) < (n':Int):=by omega
   have HLf:=zh (leaf_any s wr (by omega) (HE.out.below HO.out.2 HG.out) (Nat.lt_of_lt_of_le HG.out HO.out.2.size))
   have h0s:0 < wr.heap.size:=Nat.lt_of_lt_of_le (Nat.lt_of_le_of_lt (Nat.zero_le _) HG.out) HO.out.2.size
   go_wp2_with (first | (go_at_call 64;refine HLf.out.mono ?_;rintro e w1 ⟨rfl,hb1⟩;have HO1:Hid (OwnX w1 w.heap.size _ ws∧Below w.heap.size w w1∧wr.heap.size≤w1.heap.size):=zh ⟨HO.out.1.far hb1 (Nat.le_refl _),HO.out.2.trans (hb1.mono HO.out.2.size),hb1.size⟩;clear hb1) | (go_at_call 127;refine(backSide_any _ _ _ _).mono ?_;rintro e w' ⟨rfl,rfl⟩))
   obtain⟨hwn,hnc,hcm,g,o,hgo,hcl⟩:=HO1.out.1.block (Nat.lt_of_lt_of_le h0s HO1.out.2.2)
   have hgl:g < w1.heap.size:=(ltA hgo)
   have hsw:=HO1.out.2.1.size
   have HBw:Hid (Below w.heap.size w ((w1.alloc (.cells #[.string (leafS s)] 9)).alloc (.cells #[.slice a3 ws.length cap3] 230))):=zh ((HO1.out.2.1.alloc (by omega) _).alloc (by simp;omega) _)
   obtain⟨FB,hFB⟩:∃ FB:List DgX→ByteArray,FB=upF (leafS s):=⟨_,rfl⟩
   have HFB:Hid (FB []=leafS s∧(∀ pre x,FB (pre++[x])=sideS x.1.2 (FB pre))∧(∀ pre,(FB pre).size=32)∧∀ xs,xs.map (fun x=>x.1.2)=ws.reverse→RB=(decide (m'=0) && decide (FB xs=root))):=zh (by
    rw[hFB]
    refine⟨rfl,fun pre x=>upF_snoc _ pre x,fun pre=>upF_size _ (leafS_size s) pre,fun xs h=>?_⟩
    rw[HRB.out,upF_all _ xs ws h]
    obtain⟨i1,i2,_⟩:=HI.out
    rcases Nat.eq_zero_or_pos m' with h0 | h0
    ·rw[h0]at i2
     obtain rfl:=List.eq_nil_of_length_eq_zero i2
     rw[i1.done hn1 root,h0]
     simp
    ·rw[i1.long hn1 (fun e=>by rw[e]at i2;simp at i2;omega) root]
     rw[decide_eq_false (by omega)]
     rfl)
   have HBO:Hid (((w1.alloc (.cells #[.string (leafS s)] 9)).alloc (.cells #[.slice a3 ws.length cap3] 230)).heap[w1.heap.size]?=some (.cells #[.string (FB [])] 9 (0,0))):=zh (by rw[HFB.out.1];exact at_past w1 _ _)
   have HB1:Hid (((w1.alloc (.cells #[.string (leafS s)] 9)).alloc (.cells #[.slice a3 ws.length cap3] 230)).heap[w1.heap.size+1]?=some (.cells #[.slice a3 ws.length cap3] 230 (0,0))):=zh (at_second w1 _ _)
   have HBG:Hid (((w1.alloc (.cells #[.string (leafS s)] 9)).alloc (.cells #[.slice a3 ws.length cap3] 230)).heap[g]?=some o):=zh ((Below.heap_alloc _ _ _ (by simp;omega)).trans ((Below.heap_alloc _ _ _ (by omega)).trans hgo))
   have hs5:((w1.alloc (.cells #[.string (leafS s)] 9)).alloc (.cells #[.slice a3 ws.length cap3] 230)).heap.size=w1.heap.size+2:=by simp
   have HCL:=zh hcl
   have H32:Hid (∀ x∈ws,x.1.size=32):=zh HI.out.2.2.2.2
   obtain⟨b1,hb1⟩:∃ b1,b1=w1.heap.size:=⟨_,rfl⟩
   generalize (w1.alloc (.cells #[.string (leafS s)] 9)).alloc (.cells #[.slice a3 ws.length cap3] 230)=W5 at *
   rw[← hb1]at HBO HB1 hs5 hgl hsw ⊢
   clear hb1
   clear hFB hcl hgo HLf HO HO1
   refine(wpIn_wide (n:=8)).1 ?_
   refine wpIn_rangeA (n:=8) Wide.wide rfl (gf:=163) (lb:=#[.pointer (some ⟨b1+1,0,none⟩)]) ?ev (fun args w=>?enter) (backSide1_iter (b1+1) g ws.length cap3 a3 o ws W5 rfl hcm hnc H32.out HB1.out HBG.out HCL.out) br0 (fun x=>rfl) (fun q e=>by cases e) (fun h h'=>⟨h'.1.trans h.1,h'.2.trans h.2⟩) (fun W l o o' h1 h2 h3 h4=>?kb)
    (fun pre W=>W.heap[b1]?=some (.cells #[.string (FB pre)] 9 (0,0))∧(W.heap[b1+1]?=some (.cells #[.slice a3 ws.length cap3] 230 (0,0))∧(W.heap[g]?=some o∧Below w.heap.size w W)))
    (fun _ _ _=>False) ?abide (fun _=>abide_false _ _) ⟨HBO.out,HB1.out,HBG.out,HBw.out⟩
    (fun a x a' W=>∃ q,W.heap[q]?=some (.cells #[.string x.1.2.1,.bool x.1.2.2] 234 (0,0))∧a'=⟨((a.tmps.setIfInBounds 66 (.int .i64 (x.1.1:Nat))).setIfInBounds 67 (.agg #[.string x.1.2.1,.bool x.1.2.2])).setIfInBounds 18 (.pointer (some ⟨q,0,none⟩)),[]⟩)
    (fun x a' W l o o' h1 h2 h3 h4=>?a1) (fun A C h1 h2=>?kg) (fun l pre x W K hI hK=>?assign) (fun l pre x a' W hI hlen hA=>?body) (fun Dm xs W hDm hS hI hDd=>?done) (fun Dm c pre W hD hS hI=>hI.elim)
   case a1 =>
    obtain⟨q,hq,ha⟩:=h1
    exact⟨q,(World.putObj_heap_other (fun e=>by subst e;rw[h3]at hq;cases hq;cases h4)).trans hq,ha⟩
   case kg=>exact⟨h2.block _ (by omega) (by simp),h2.block _ (by omega) (by simp)⟩
   case assign =>
    simp only[List.zip_toArray,List.zip_cons_cons,List.zip_nil_right,List.foldl_toArray',List.foldl_cons,List.foldl_nil,List.setIfInBounds_toArray,List.set_cons_succ,List.set_cons_zero]
    gi_wp2
    exact hK _ _ ⟨W.heap.size,heap_alloc_new _ _,rfl⟩ (World.grownBy_alloc _ _ _)
   case ev=>rfl
   case enter=>kernel_rfl
   case kb=>exact⟨World.putObj_heap_other (fun e=>by omega),World.putObj_heap_other (fun e=>by omega)⟩
   case abide=>exact abide_and (abide_cells (fun pre=>.cells #[.string (FB pre)] 9) (fun _=>rfl) (by simp)) (abide_and (abide_old _ (by omega) (by simp)) (abide_and (abide_old _ (by omega) (by simp)) (abide_below (by omega) (Nat.le_refl _) (fun q e=>by cases e))))
   case body =>
    obtain⟨q,hq,rfl⟩:=hA
    obtain⟨g1,g2,g3,g4⟩:=hI
    have hs7:=g4.size
    have hx32:=x.2
    have HN1:=zh (sideJoin_any x.1.2.1 x.1.2.2 (FB pre) W (by omega) (by have:=HFB.out.2.2.1 pre;omega) (HE.out.below g4 HG.out) (Nat.lt_of_lt_of_le HG.out hs7))
    have c1:W.cell? ⟨b1,0,none⟩=some (.string (FB pre)):=cell_of_row W _ 0 _ _ _ g1
    have c3:W.cell? ⟨q,0,none⟩=some (.string x.1.2.1):=cell_of_row W _ 0 _ _ _ hq
    have c4:W.cell? ⟨q,1,none⟩=some (.bool x.1.2.2):=cell_of_row W _ 1 _ _ _ hq
    have hb1W:b1 < W.heap.size:=(ltA g1)
    have G1:=zh g1
    have G2:=zh g2
    have G3:=zh g3
    have G4:=zh g4
    clear g1 g2 g3 g4 hq
    have HFN:=zh (HFB.out.2.1 pre x)
    simp only[List.setIfInBounds_toArray,List.set_cons_succ,List.set_cons_zero]
    gi_wp2_with (refine⟨trivial,?_⟩;gi_at_call 128;refine(callsIn_of_calls (Wide.inRound Wide.wide _) HN1.out).mono ?_;rintro e W' ⟨rfl,hb⟩;rw[← HFN.out];have HG1':Hid (W'.heap[b1]?=some (.cells #[.string (FB pre)] 9 (0,0))):=zh ((hb.block _ (by omega)).trans G1.out);have c2:W'.cell? ⟨b1,0,none⟩=some (.string (FB pre)):=cell_of_row W' _ 0 _ _ _ HG1'.out;have cf2:W'.frozen? ⟨b1,0,none⟩=false:=(by simp[World.frozen?,HG1'.out]);have HB':=zh hb;clear hb)
    have hset:W'.grownBy (W'.setCell ⟨b1,0,none⟩ (.string (FB (pre++[x])))) (some b1):=grown_setCell (grown_refl _ _) _ (.inl rfl) _
    have keep:∀(q:Nat) (o:Obj),W.heap[q]?=some o→q≠b1→(W'.setCell ⟨b1,0,none⟩ (.string (FB (pre++[x])))).heap[q]?=some o:=fun q o hq hne=>by
     have hq1:=(HB'.out.block q (ltA hq)).trans hq
     exact(hset.block q (ltA hq1) (fun e=>hne (Option.some.inj e))).trans hq1
    refine⟨⟨Nat.le_trans HB'.out.size hset.size,fun q o hB hq hnc=>keep q o hq (by omega)⟩,⟨(keep _ _ G2.out (by omega)).trans G2.out.symm,(keep _ _ G3.out (by omega)).trans G3.out.symm⟩,?_,keep _ _ G2.out (by omega),keep _ _ G3.out (by omega),?_⟩
    ·show(World.setCell _ _ _).heap[b1]?=_
     rw[heap_setCell_same _ HG1'.out]
     rfl
    ·exact((G4.out.trans (HB'.out.mono hs7)).grown hset (Nat.le_trans hs7 HB'.out.size) (fun j e=>by cases e;exact hsw))
   case done =>
    obtain⟨g1,_,_,g4⟩:=hI
    have c1:W.cell? ⟨b1,0,none⟩=some (.string (FB xs)):=cell_of_row W _ 0 _ _ _ g1
    have HRF:=zh (HFB.out.2.2.2 xs hS)
    have G4:=zh g4
    have HDd:=zh hDd
    have hsW:=g4.size
    clear hS g1 g4 hDd
    show Exit.inBlock _ _ _ (Act.mk _ [{ target:=.collected Dm,args:=#[] }]) W
    have hM:Marks w.heap.size [Dm] W:=⟨by simp,fun D hD=>by
     rw[List.mem_singleton]at hD
     subst hD
     exact⟨by omega,HDd.out⟩⟩
    generalize FB xs=fb at *
    rcases Nat.eq_zero_or_pos m' with hm0 | hm0
    ·subst hm0
     go_wp2
     refine leaves_marks (B:=w.heap.size) [Dm] W hM (fun W'' hT=>⟨_,results_tmp rfl _ _ _,?_,G4.out.trans hT.below⟩)
     rw[HRF.out,← same_str,decide_eq_true trivial,Bool.true_and]
     rfl
    ·have hd:((m':Int) == 0)=false:=by simp;omega
     go_wp2
     refine leaves_marks (B:=w.heap.size) [Dm] W hM (fun W'' hT=>⟨_,results_tmp rfl _ _ _,?_,G4.out.trans hT.below⟩)
     rw[HRF.out,decide_eq_false (by omega)]
     rfl
end Go.Proofs.YtjjiikeldpjafaaGreatDoor
/- digest.VerifyExtension: the plain side, and the walks of the short ways. -/
namespace Go.Proofs.YtjjiikeldpjafaaGreatDoor
open Go.RowKit Go.BigFrame Go.Shelf
attribute [local go_sem] Oper.semAt_some
end Go.Proofs.YtjjiikeldpjafaaGreatDoor
/- The walk of digest.VerifyExtension's long way. The conditions: what the slice reads as, lengths, the table of constants. (Printed by wip/gen_dg18.py.) -/
namespace Go.Proofs.YtjjiikeldpjafaaGreatDoor
open Go.RowKit Go.BigFrame Go.Shelf
attribute [local go_sem] Oper.semAt_some
end Go.Proofs.YtjjiikeldpjafaaGreatDoor
/- The walk of digest.Extension. The conditions: what the slice reads as, lengths, the table of constants. -/
namespace Go.Proofs.YtjjiikeldpjafaaGreatDoor
open Go.RowKit Go.BigFrame Go.Shelf
attribute [local go_sem] Oper.semAt_some
end Go.Proofs.YtjjiikeldpjafaaGreatDoor
/- What the functions of package register answer: plain functions, and what they say of each other. No condition. -/
namespace Go.Proofs.YtjjiikeldpjafaaGreatDoor
structure HeadP where
 car:Int
 siz:Int
 root:ByteArray
 sl:ByteArray
deriving DecidableEq
structure ItemP where
 idx:Int
 ent:ByteArray
 prf:List ByteArray
deriving DecidableEq
structure PartP where
 head:HeadP
 items:List ItemP
deriving DecidableEq
structure RegP where
 car:Int
 ents:List ByteArray
deriving DecidableEq
def contentB (h:HeadP):ByteArray:=⟨([8,UInt8.ofNat (2*h.car.toNat),UInt8.ofNat (2*h.siz.toNat)]++h.root.data.toList).toArray⟩
def signedB (key:ByteArray)(h:HeadP):ByteArray:=nodeS key (leafS (contentB h))
def validB (r:RegP):Bool:=decide (0≤r.car∧r.car≤7∧r.ents.length≤60∧∀ s∈r.ents,s.size≤1000)
def headS (key:ByteArray)(car:Int)(ents:List ByteArray)(n:Nat):HeadP :=
 { car:=car,siz:=n,root:=rootB (ents.take n),sl:=signedB key { car:=car,siz:=n,root:=rootB (ents.take n),sl:=⟨#[]⟩ } }
def signB (key:ByteArray)(r:RegP)(n:Int):Option HeadP :=
 if key.size=32∧validB r=true∧0≤n∧n≤r.ents.length then some (headS key r.car r.ents n.toNat)else none
def genuineB (key:ByteArray)(h:HeadP):Bool :=
 decide (key.size=32∧(0≤h.car∧h.car≤7)∧(0≤h.siz∧h.siz≤60)∧h.root.size=32∧h.sl=signedB key h)
def proofB (l:List ByteArray)(i:Nat):List ByteArray:=(downL leafS nodeS (sumS ⟨#[]⟩) l i).reverse
def itemsB (ents:List ByteArray)(n:Nat):List Int→Option Int→Option (List ItemP)
 | [],_=>some []
 | i::l,prev=>if 0≤i∧i < n∧(∀ j,prev=some j→j < i)then
   (itemsB ents n l (some i)).map (fun z=>{ idx:=i,ent:=ents.getD i.toNat ⟨#[]⟩,prf:=proofB (ents.take n) i.toNat }::z)else none
def showB (key:ByteArray)(r:RegP)(n:Int)(l:List Int):Option PartP :=
 match signB key r n with
 | none=>none
 | some h=>(itemsB r.ents n.toNat l none).map fun z=>{ head:=h,items:=z }
def verifyB (root:ByteArray)(n i:Int)(s:ByteArray)(pr:List ByteArray):Bool :=
 if 0≤i∧i < n∧pr.all isDig=true then verB root n.toNat i.toNat s pr else false
def itemOk (root:ByteArray)(n:Int)(x:ItemP)(prev:Option Int):Bool :=
 decide (∀ j,prev=some j→j < x.idx) && decide (x.ent.size≤1000) && verifyB root n x.idx x.ent x.prf
def itemsOk (root:ByteArray)(n:Int):List ItemP→Option Int→Bool
 | [],_=>true
 | x::xs,prev=>itemOk root n x prev && itemsOk root n xs (some x.idx)
def checkB (key:ByteArray)(p:PartP):Bool:=genuineB key p.head && itemsOk p.head.root p.head.siz p.items none
/-! ### What they say of each other -/
theorem sign_some {key:ByteArray}{r:RegP}{n:Int}{h:HeadP}(e:signB key r n=some h):key.size=32∧validB r=true∧0≤n∧n≤r.ents.length∧h=headS key r.car r.ents n.toNat:=by
 unfold signB at e
 split at e
 ·rename_i hc
  cases e
  exact⟨hc.1,hc.2.1,hc.2.2.1,hc.2.2.2,rfl⟩
 ·cases e
theorem valid_parts {r:RegP}(h:validB r=true):0≤r.car∧r.car≤7∧r.ents.length≤60∧∀ s∈r.ents,s.size≤1000:=by
 unfold validB at h
 exact of_decide_eq_true h
theorem head_genuine {key:ByteArray}{car:Int}{ents:List ByteArray}{n:Nat}(hk:key.size=32)(hc:0≤car∧car≤7)(hn:n≤60):genuineB key (headS key car ents n)=true:=by
 unfold genuineB
 apply decide_eq_true
 refine⟨hk,hc,⟨?_,?_⟩,rootB_size _,rfl⟩
 ·show(0:Int)≤(n:Int);omega
 ·show(n:Int)≤60;omega
theorem sign_genuine {key:ByteArray}{r:RegP}{n:Int}{h:HeadP}(e:signB key r n=some h):genuineB key h=true:=by
 obtain⟨h1,h2,h3,h4,rfl⟩:=sign_some e
 obtain⟨a,b,c,_⟩:=valid_parts h2
 exact head_genuine h1 ⟨a,b⟩ (by omega)
theorem verify_down (l:List ByteArray)(i:Nat)(h:i < l.length):verB (rootB l) l.length i (l.getD i ⟨#[]⟩) (proofB l i)=true:=by
 unfold verB proofB
 rw[List.reverse_reverse]
 apply decide_eq_true
 refine value_down leafS nodeS (sumS ⟨#[]⟩) l i _ ?_
 rw[List.getD_eq_getElem?_getD,List.getElem?_eq_getElem h]
 rfl
theorem proofB_dig (l:List ByteArray)(i:Nat):(proofB l i).all isDig=true:=by
 unfold proofB
 rw[List.all_reverse,List.all_eq_true]
 intro x hx
 unfold isDig
 exact decide_eq_true (downL_all leafS nodeS (sumS ⟨#[]⟩) (fun x=>x.size=32) (fun l _=>rootB_size l) l i x hx)
theorem items_ok {ents:List ByteArray}{n:Nat}(hn:n≤ents.length)(hs:∀ s∈ents,s.size≤1000):∀(l:List Int) (prev:Option Int) (z:List ItemP),itemsB ents n l prev=some z→itemsOk (rootB (ents.take n)) n z prev=true:=by
 intro l
 induction l with
 | nil=>intro prev z h;cases h;rfl
 | cons i l ih =>
  intro prev z h
  unfold itemsB at h
  split at h
  ·rename_i hc
   obtain⟨h0,h1,h2⟩:=hc
   cases hz:itemsB ents n l (some i)with
   | none=>rw[hz]at h;cases h
   | some z' =>
    rw[hz]at h
    cases h
    have h3:i.toNat < n:=by omega
    have h4:i.toNat < ents.length:=by omega
    have e1:(ents.take n).length=n:=by rw[List.length_take];omega
    have e2:(ents.take n).getD i.toNat ⟨#[]⟩=ents.getD i.toNat ⟨#[]⟩:=by
     rw[List.getD_eq_getElem?_getD,List.getD_eq_getElem?_getD,List.getElem?_take_of_lt h3]
    have e3:=verify_down (ents.take n) i.toNat (by rw[e1];exact h3)
    rw[e1,e2]at e3
    have e4:(ents.getD i.toNat ⟨#[]⟩).size≤1000:=by
     rw[List.getD_eq_getElem?_getD,List.getElem?_eq_getElem h4]
     exact hs _ (List.getElem_mem h4)
    show(itemOk _ _ _ _ && itemsOk _ _ _ _)=true
    rw[Bool.and_eq_true]
    refine⟨?_,ih _ _ hz⟩
    unfold itemOk
    rw[Bool.and_eq_true,Bool.and_eq_true]
    refine⟨⟨decide_eq_true h2,decide_eq_true e4⟩,?_⟩
    show verifyB (rootB (ents.take n)) (n:Int) i _ _=true
    unfold verifyB
    rw[if_pos ⟨h0,h1,proofB_dig _ _⟩]
    exact e3
  ·cases h
theorem show_check {key:ByteArray}{r:RegP}{n:Int}{l:List Int}{p:PartP}(e:showB key r n l=some p):checkB key p=true:=by
 unfold showB at e
 cases hs:signB key r n with
 | none=>rw[hs]at e;cases e
 | some h =>
  rw[hs]at e
  cases hz:itemsB r.ents n.toNat l none with
  | none=>simp only[hz]at e;cases e
  | some z =>
   simp only[hz]at e
   cases e
   unfold checkB
   rw[sign_genuine hs,Bool.true_and]
   obtain⟨h1,h2,h3,h4,rfl⟩:=sign_some hs
   obtain⟨_,_,_,d⟩:=valid_parts h2
   exact items_ok (n:=n.toNat) (by omega) d l none z hz
end Go.Proofs.YtjjiikeldpjafaaGreatDoor
