/- Walk of package quorum: Decided. The conditions: what the slices read as, the tables of constants. -/
import Derived.Test.YtggdcnjaofflbaaGreatDoorMM19
namespace Go.Proofs.YtggdcnjaofflbaaGreatDoor
open Go.RowKit Go.BigFrame
set_option maxHeartbeats 2000000 in
set_option maxRecDepth 100000 in
theorem decfn_any (ka:Option Addr)(kn kc:Nat)(en:Nat)(b0:Nat)(s:ByteArray)(t:Nat)(W:World)(hk:kn≤1000)(hen:en=2*((kn - 1) / 3)+1)(h0:W.heap[b0]?=some (.cells #[.slice ka kn kc] 31 (0,0))) :
  Calls Tryz.prog 87 #[.agg #[.string s,.int .i64 (t:Int)],.pointer (some ⟨b0,0,none⟩)] W fun e w'=>e=.returned (.bool (decide (en≤t)))∧Below W.heap.size W w':=by
 have HENC:Hid (∀ W,Calls Tryz.prog 79 #[.agg #[.slice ka kn kc]] W fun e w'=>e=.returned (.int .i64 ((en:Nat):Int))∧Below W.heap.size W w'):=zh (fun W=>by
  refine(enough_any ka kn kc W hk).mono ?_
  rintro e w' ⟨rfl,rfl⟩
  rw[hen]
  exact⟨rfl,br0.alloc (Nat.le_refl _) _⟩)
 obtain⟨W1,hW1⟩:∃ W1,W1=W.alloc (.cells #[.string s,.int .i64 (t:Int)] 68):=⟨_,rfl⟩
 have HB1:Hid (Below W.heap.size W W1):=zh (by rw[hW1];exact br0.alloc (Nat.le_refl _) _)
 have HH1:Hid (W1.heap[W.heap.size]?=some (.cells #[.string s,.int .i64 (t:Int)] 68 (0,0))):=zh (by rw[hW1];exact heap_alloc_new W _)
 have HC:Hid (∀ X,Below W1.heap.size W1 X→X.cell? ⟨W.heap.size,1,none⟩=some (.int .i64 (t:Int))∧X.cell? ⟨b0,0,none⟩=some (.slice ka kn kc)):=zh (fun X hX =>
  ⟨cell_of_row X _ 1 _ _ _ ((hX.block _ (ltA HH1.out)).trans HH1.out),cell_of_row X _ 0 _ _ _ (((HB1.out.trans (hX.mono HB1.out.size)).block _ (ltA h0)).trans h0)⟩)
 have HW1:=zh hW1
 clear hW1 h0 hen hk
 go_enter Tryz.func87,Tryz.ntmps87
 go_upto_region 1 with fail
 rw[← HW1.out]
 refine wp_region_noPanic ?_
 refine wp_region_lexB [.q 0,.q 1,.q 2,.b 3,.q 4,.q 5] (by kernel_rfl) (by kernel_rfl) (fun _ _ _ _ h=>h) ?_
 iterate 3(refine wpFl_qL (v:=?_) rfl (Or.inl ⟨by rfl,?_⟩) ?_;rotate_left;(focus(intro w' hSw;obtain⟨d0,d1⟩:=HC.out w' hSw;go_simp;(try with_reducible rfl);done));simp only[Act.put,zzA,zzB,zzC])
 refine wpFl_bL rfl (fun wb hnb hsb K hK=>?_)
 go_simp
 go_at_call 79
 refine(HENC.out wb).mono ?_
 rintro e wc ⟨rfl,hbc⟩
 have HBC:=zh (q_next hsb hbc)
 refine hK.out _ _ HBC.out (Keeps.below hbc) ?_
 clear hK K hnb hsb hbc
 iterate 2(refine wpFl_qL (v:=?_) rfl (Or.inl ⟨by rfl,?_⟩) ?_;rotate_left;(focus(intro w' hSw;go_simp;(try with_reducible rfl);done));simp only[Act.put,zzA,zzB,zzC])
 refine wpFl_nil ?_
 refine NoPanic.normal ?_
 go_wp2
 go_ret
 refine⟨ret_bool ?_,q_next HB1.out HBC.out⟩
 rfl
set_option maxHeartbeats 2000000 in
theorem indexT_any (b0:Nat)(p:ByteArray × Nat→Bool){w:World}{x:Value}{l:List (ByteArray × Nat)}(hi:TS w x l)
  (ht:∀(W:World) (y:ByteArray × Nat),Below w.heap.size w W→Calls Tryz.prog 87 #[.agg #[.string y.1,.int .i64 (y.2:Int)],.pointer (some ⟨b0,0,none⟩)] W fun e w'=>e=.returned (.bool (p y))∧Below W.heap.size W w') :
  Calls Tryz.prog 86 #[x,.func (.func 87) #[] #[.pointer (some ⟨b0,0,none⟩)]] w fun e w'=>e=.returned (.int .i64 (firstIdx p l 0))∧Below w.heap.size w w':=by
 obtain⟨a,cap,rfl,l1,l2,l3⟩:=hi.opened
 have H3:=zh l3
 have HT:=zh ht
 clear l3 hi ht
 unfold maxLen at l2
 obtain⟨n,hn⟩:∃ n,n=l.length:=⟨_,rfl⟩
 rw[← hn]at l1 ⊢
 have HN:=zh hn
 clear hn
 go_enter Tryz.func86,Tryz.ntmps86
 go_wp2
 go_loopw [8] (fun i wr=>∃ k:Nat,k≤n∧i=.int .i64 k∧Hid (∀ j q,j < k→l[j]?=some q→p q=false)∧Hid (Below w.heap.size w wr)) (fun i wr=>n - (intOf i).toNat)
 case atStart=>exact⟨0,by omega,rfl,(by intro j q hj;omega),Below.refl _ _⟩
 case round =>
  obtain⟨k,hk,rfl,hall,hB⟩:=hrel
  by_cases hlt:k < n
  ·obtain⟨y,ey⟩:∃ y,l[k]?=some y:=⟨_,List.getElem?_eq_getElem (by rw[← HN.out];exact hlt)⟩
   obtain⟨b,off,rfl,hb,c0,c1⟩:=H3.out k y ey
   have d0:=cell_keepB hB.out hb c0
   have d1:=cell_keepB hB.out hb c1
   clear c0 c1
   have HC:=zh (HT.out wr y hB.out)
   have EY:=zh ey
   obtain⟨P0,hP0⟩:∃ P0,P0=p y:=⟨_,rfl⟩
   rw[← hP0]at HC
   have HP0:=zh hP0
   clear ey hP0
   obtain⟨ys,yt⟩:=y
   simp only at d0 d1 HC
   have s1:=hB.out.size
   cases P0
   ·go_wp2_with (go_at_call 87;refine HC.out.mono ?_;rintro e w1 ⟨rfl,hb1⟩)
    go_roundw
    case rel =>
     refine⟨k+1,by omega,by go_num,?_,hB.out.trans (hb1.mono s1)⟩
     intro j q' hj hq
     by_cases hjk:j=k
     ·subst hjk;rw[EY.out]at hq;cases hq;exact HP0.out.symm
     ·exact hall.out j q' (by omega) hq
    case measure=>simp[intOf];omega
   ·go_wp2_with (go_at_call 87;refine HC.out.mono ?_;rintro e w1 ⟨rfl,hb1⟩)
    go_ret
    refine⟨ret_int ?_,hB.out.trans (hb1.mono s1)⟩
    rw[firstIdx_drop p l k 0 hall.out (by rw[← HN.out];omega)]
    rw[drop_get EY.out,firstIdx,if_pos HP0.out.symm];omega
  ·go_wp2
   go_ret
   refine⟨ret_int ?_,hB.out⟩
   rw[firstIdx_drop p l k 0 hall.out (by rw[← HN.out];omega),List.drop_eq_nil_of_le (by rw[← HN.out];omega),firstIdx]
theorem firstIdx_find {α:Type}(p:α→Bool):∀(l:List α) (k:Int),(firstIdx p l k=-1∧l.find? p=none)∨∃(j:Nat) (u:α),firstIdx p l k=k+(j:Int)∧l[j]?=some u∧l.find? p=some u
 | [],k=>.inl ⟨rfl,rfl⟩
 | v::t,k=>by
  rw[firstIdx]
  by_cases h:p v=true
  ·rw[if_pos h,List.find?_cons_of_pos h]
   exact .inr ⟨0,v,by omega,rfl,rfl⟩
  ·rw[if_neg h,List.find?_cons_of_neg h]
   rcases firstIdx_find p t (k+1)with⟨h1,h2⟩ | ⟨j,u,h1,h2,h3⟩
   ·exact .inl ⟨h1,h2⟩
   ·exact .inr ⟨j+1,u,by rw[h1];omega,h2,h3⟩
def decR (o:Option ByteArray):Value:=match o with
 | some s=>.tuple #[.string s,.bool true]
 | none=>.tuple #[.string ⟨#[]⟩,.bool false]
set_option maxHeartbeats 4000000 in
set_option maxRecDepth 100000 in
theorem decided_any {w:World}{kv x:Value}{ks:List ByteArray}{l:List VoteP}(hr:SS w kv ks)(hl:VS w x l)(num stp:Int)(hk1000:ks.length≤1000)(he:Env w)(hg:3 < w.heap.size) :
  Calls Tryz.prog 44 #[.agg #[kv],.agg #[.int .i64 num,.int .i64 stp],x] w fun e w'=>e=.returned (decR (decidedV ks num stp l))∧Below w.heap.size w w':=by
 obtain⟨ka,kcap,rfl,_,_,_⟩:=hr.opened
 obtain⟨a,cap,rfl,_,_,_⟩:=hl.opened
 obtain⟨W2,hW2⟩:∃ W2,W2=(w.alloc (.cells #[.slice ka ks.length kcap] 31)).alloc (.cells #[.int .i64 num,.int .i64 stp] 25):=⟨_,rfl⟩
 have HP2:Hid (PrAt w (.slice ka ks.length kcap) num stp (.slice none 0 0) [] W2):=zh ⟨by rw[hW2];exact(br0.alloc (Nat.le_refl _) _).alloc (by simp) _,by rw[hW2];exact at_past w _ _,by rw[hW2];exact at_second w _ _,OwnE.nil _ _ _ _⟩
 have HTA:=zh (tallies_any (hr.below HP2.out.1) (hl.below HP2.out.1) num stp (he.below HP2.out.1 hg) (Nat.lt_of_lt_of_le hg HP2.out.1.size))
 have HRes:Hid (decidedV ks num stp l=((tallyV ks num stp l).find? fun t=>decide (enoughC ks≤t.2)).map (·.1)):=zh rfl
 generalize tallyV ks num stp l=T at *
 generalize decidedV ks num stp l=R at *
 have HW2:=zh hW2
 clear hr hl he hg hW2
 obtain⟨c0,c1,c2⟩:=HP2.out.cells
 go_enter Tryz.func44,Tryz.ntmps44
 go_upto_region 1 with fail
 rw[← HW2.out]
 go_wp2_with fail
 refine HTA.out.mono ?_
 rintro e w3 ⟨tv,rfl,htv,hb3⟩
 have HP3:=zh (HP2.out.far hb3)
 have HTV:=zh htv
 have HFI:=zh (firstIdx_find (fun t:ByteArray × Nat=>decide (enoughC ks≤t.2)) T 0)
 have HIX:=indexT_any w.heap.size (fun t:ByteArray × Nat=>decide (enoughC ks≤t.2)) htv (fun W y hW=>decfn_any ka ks.length kcap (enoughC ks) w.heap.size y.1 y.2 W hk1000 rfl ((hW.block _ (ltA HP3.out.2.1)).trans HP3.out.2.1))
 obtain⟨idx,hidx⟩:∃ idx,idx=firstIdx (fun t:ByteArray × Nat=>decide (enoughC ks≤t.2)) T 0:=⟨_,rfl⟩
 rw[← hidx]at HIX HFI
 have HII:=zh HIX
 obtain⟨ta,tc,rfl,tl1,tl2,_⟩:=htv.opened
 clear hidx HIX hb3 c0 c1 c2 htv
 rcases HFI.out with⟨hi1,hf1⟩ | ⟨j,u,hi1,hj1,hf1⟩
 ·subst hi1
  have HR':Hid (R=none):=zh (by rw[HRes.out,hf1];rfl)
  clear hf1 HFI HRes
  go_wp2_with (go_at_call 86;refine HII.out.mono ?_;rintro e w4 ⟨rfl,hb4⟩)
  go_ret2
  refine⟨?_,q_next HP3.out.1 hb4⟩
  rw[HR'.out]
  rfl
 ·rw[Int.zero_add]at hi1
  subst hi1
  have HR':Hid (R=some u.1):=zh (by rw[HRes.out,hf1];rfl)
  obtain⟨a2,c2,e2,_,_,h3⟩:=HTV.out.opened
  obtain⟨b',o',hbo,hb',d0,d1⟩:=h3 j u hj1
  have he1:ta=some ⟨b',o',none⟩:=by
   injection e2 with e3 _ _
   rw[e3]
   exact hbo
  subst he1
  have hjn:=(List.getElem?_eq_some_iff.1 hj1).1
  generalize T.length=n at *
  obtain⟨us,ut⟩:=u
  simp only at d0 HR'
  have D0:=zh (fun W (hW:Below w3.heap.size w3 W)=>cell_keepB hW hb' d0)
  have hj0:(0:Int)≤(j:Int):=by omega
  have hjn':(j:Int) < (n:Int):=by omega
  have hd:decide ((j:Int) < 0)=false:=decide_eq_false (by omega)
  clear hf1 HFI HRes e2 h3 hbo d0 d1 hj1
  go_wp2_with (go_at_call 86;refine HII.out.mono ?_;rintro e w4 ⟨rfl,hb4⟩;have e0:=D0.out w4 hb4)
  go_ret2
  refine⟨?_,q_next HP3.out.1 hb4⟩
  rw[HR'.out]
  rfl
theorem blame_any {w:World}{kv x y:Value}{ks:List ByteArray}{a b:List VoteP}(hr:SS w kv ks)(ha:VS w x a)(hb:VS w y b)(he:Env w)(hg:3 < w.heap.size) :
  Calls Tryz.prog 31 #[.agg #[kv],x,y] w (BlameIs w (blameV ks a b)):=by
 have hk:∃ p n c,kv=.slice p n c:=by obtain⟨a,c,h,_⟩:=hr.opened;exact⟨_,_,_,h⟩
 cases a with
 | nil=>exact blame_short ha hb hk (.inl rfl)
 | cons v ta =>
  cases b with
  | nil=>exact blame_short ha hb hk (.inr rfl)
  | cons u tb =>
   by_cases h:(v.num=u.num∧v.stp=u.stp)∧v.val≠u.val∧checkV ks v.num v.stp v.val (v::ta)=true∧checkV ks u.num u.stp u.val (u::tb)=true
   ·exact blame_good hr ha hb he hg h
   ·exact blame_bad hr ha hb he hg h
def rtQ:Code→Code
 | .seq _ b=>b
 | c=>c
theorem wp_of_eqM {P:Program}{c L:Code}{Q:Exit→Act→World→Prop}{a:Act}{w:World}(h:c.wp P Q a w)(e:c=L):L.wp P Q a w:=e ▸ h
theorem neqTally (a c:ByteArray)(b d:Nat)(w:World):(binOp .neq 68 (.agg #[.string a,.int .i64 (b:Int)]) (.agg #[.string c,.int .i64 (d:Int)])).run Tryz.prog w=.ok (.bool (!decide ((a,b)=(c,d)))) w:=by
 have h1:=run_equalIn_struct (P:=Tryz.prog) w 9999 68 #[.string a,.int .i64 (b:Int)] #[.string c,.int .i64 (d:Int)] (by kernel_rfl) (by kernel_rfl)
 have e:decide ((a,b)=(c,d))=(decide (a=c) && decide (b=d)):=by
  rw[Bool.eq_iff_iff];simp
 have g1:=same_str a c
 have g2:((b:Int) == (d:Int))=decide (b=d):=by rw[Bool.eq_iff_iff];simp;omega
 rw[e,run_neq_struct,show(10000:Nat)=9999+1 from rfl,h1]
 simp only[go_sem,Program.fieldsOf]
 by_cases e1:a=c <;> by_cases e2:b=d <;> simp[go_sem,e1,e2,g1,g2]
theorem take_same {α:Type}{a b:List α}{k:Nat}{u v:α}(ha:a[k]?=some u)(hb:b[k]?=some v)(h:a.take k=b.take k)(hu:u=v):a.take (k+1)=b.take (k+1):=by
 rw[List.take_add_one,List.take_add_one,ha,hb,h,hu]
theorem take_other {α:Type}{a b:List α}{k:Nat}{u v:α}(ha:a[k]?=some u)(hb:b[k]?=some v)(hu:u≠v):a≠b:=by
 intro e
 rw[e,hb]at ha
 exact hu (Option.some.inj ha).symm
set_option maxHeartbeats 2000000 in
set_option maxRecDepth 100000 in
theorem sameV_any {w:World}{x y:Value}{a b:List VoteP}(ha:VS w x a)(hb:VS w y b):Calls Tryz.prog 49 #[x,y] w fun e w'=>e=.returned (.bool (decide (a=b)))∧Below w.heap.size w w':=by
 obtain⟨xa,xc,rfl,-,-,hx3⟩:=ha.opened
 obtain⟨ya,yc,rfl,hl1,hl2,hy3⟩:=hb.opened
 have HX3:=zh hx3
 have HY3:=zh hy3
 have hln:b.length≤9223372036854775807:=by unfold maxLen at hl2;omega
 obtain⟨R,hR⟩:∃ R,R=decide (a=b):=⟨_,rfl⟩
 rw[← hR]
 have HR:=zh hR
 clear ha hb hx3 hy3 hR
 obtain⟨n,hn⟩:∃ n,n=a.length:=⟨_,rfl⟩
 obtain⟨m,hm⟩:∃ m,m=b.length:=⟨_,rfl⟩
 rw[← hn,← hm]
 rw[← hm]at hln
 clear hl1 hl2
 have HN:=zh hn
 have HM:=zh hm
 clear hn hm
 by_cases hnm:n=m
 ·subst hnm
  have hne:((n:Int) != (n:Int))=false:=by simp
  go_enter Tryz.func49,Tryz.ntmps49
  go_wp2
  go_loopw [5] (fun i wr=>∃ k:Nat,k≤n∧i=.int .i64 k∧Hid (a.take k=b.take k)∧∃ q,wr=w.drewN q) (fun i _=>n - (intOf i).toNat)
  case atStart=>exact⟨0,by omega,rfl,zh rfl,0,rfl⟩
  case round =>
   obtain⟨k,hk,rfl,heq,q,rfl⟩:=hrel
   by_cases hlt:k < n
   ·obtain⟨u,eu⟩:∃ u,a[k]?=some u:=⟨_,List.getElem?_eq_getElem (by rw[← HN.out];exact hlt)⟩
    obtain⟨v,ev⟩:∃ u,b[k]?=some u:=⟨_,List.getElem?_eq_getElem (by rw[← HM.out];exact hlt)⟩
    obtain⟨g1,o1,rfl,hg1,c0,c1,c2,c3,c4⟩:=HX3.out k u eu
    obtain⟨g2,o2,rfl,hg2,d0,d1,d2,d3,d4⟩:=HY3.out k v ev
    have EU:=zh eu
    have EV:=zh ev
    have hk0:(0:Int)≤(k:Int):=by omega
    have hk1:(k:Int) < (n:Int):=by omega
    have HE:=zh (fun W=>neqVote u v W)
    clear eu ev
    obtain⟨z,hz⟩:∃ z,z=decide (u=v):=⟨_,rfl⟩
    have he:=HE.out
    obtain⟨uc,un,us,uv,ul⟩:=u
    obtain⟨vc,vn,vs,vv,vl⟩:=v
    rw[← hz]at he
    unfold vagg at he
    simp only at c0 c1 c2 c3 c4 d0 d1 d2 d3 d4 he
    cases z with
    | true =>
     have hT:=zh (take_same EU.out EV.out heq.out (of_decide_eq_true hz.symm))
     clear hz HE EU EV heq
     go_wp2
     go_quiet (fail)
     go_wp2
     go_roundw
     case rel=>exact⟨k+1,by omega,by go_num,hT,_,rfl⟩
     case measure=>simp[intOf];omega
    | false =>
     have hF:Hid (R=false):=zh (by rw[HR.out];exact decide_eq_false (take_other EU.out EV.out (of_decide_eq_false hz.symm)))
     clear hz HE EU EV heq
     go_wp2
     go_quiet (fail)
     go_wp2
     go_ret
     exact⟨ret_bool hF.out.symm,below_drewN (below_drewN br0 _) _⟩
   ·have hF:Hid (R=true):=zh (by
     rw[HR.out]
     have h:=heq.out
     rw[List.take_of_length_le (by rw[← HN.out];omega),List.take_of_length_le (by rw[← HM.out];omega)]at h
     exact decide_eq_true h)
    go_wp2
    go_ret
    exact⟨ret_bool hF.out.symm,below_drewN br0 _⟩
 ·have hF:Hid (R=false):=zh (by rw[HR.out];exact decide_eq_false (fun e=>hnm (by rw[HN.out,HM.out,e])))
  have hne:((n:Int) != (m:Int))=true:=by simp;omega
  go_enter Tryz.func49,Tryz.ntmps49
  go_wp2
  go_ret
  exact⟨ret_bool hF.out.symm,Below.refl _ _⟩
set_option maxHeartbeats 2000000 in
set_option maxRecDepth 100000 in
theorem sameT_any {w:World}{x y:Value}{a b:List (ByteArray × Nat)}(ha:TS w x a)(hb:TS w y b):Calls Tryz.prog 45 #[x,y] w fun e w'=>e=.returned (.bool (decide (a=b)))∧Below w.heap.size w w':=by
 obtain⟨xa,xc,rfl,-,-,hx3⟩:=ha.opened
 obtain⟨ya,yc,rfl,hl1,hl2,hy3⟩:=hb.opened
 have HX3:=zh hx3
 have HY3:=zh hy3
 have hln:b.length≤9223372036854775807:=by unfold maxLen at hl2;omega
 obtain⟨R,hR⟩:∃ R,R=decide (a=b):=⟨_,rfl⟩
 rw[← hR]
 have HR:=zh hR
 clear ha hb hx3 hy3 hR
 obtain⟨n,hn⟩:∃ n,n=a.length:=⟨_,rfl⟩
 obtain⟨m,hm⟩:∃ m,m=b.length:=⟨_,rfl⟩
 rw[← hn,← hm]
 rw[← hm]at hln
 clear hl1 hl2
 have HN:=zh hn
 have HM:=zh hm
 clear hn hm
 by_cases hnm:n=m
 ·subst hnm
  have hne:((n:Int) != (n:Int))=false:=by simp
  go_enter Tryz.func45,Tryz.ntmps45
  go_wp2
  go_loopw [5] (fun i wr=>∃ k:Nat,k≤n∧i=.int .i64 k∧Hid (a.take k=b.take k)∧∃ q,wr=w.drewN q) (fun i _=>n - (intOf i).toNat)
  case atStart=>exact⟨0,by omega,rfl,zh rfl,0,rfl⟩
  case round =>
   obtain⟨k,hk,rfl,heq,q,rfl⟩:=hrel
   by_cases hlt:k < n
   ·obtain⟨u,eu⟩:∃ u,a[k]?=some u:=⟨_,List.getElem?_eq_getElem (by rw[← HN.out];exact hlt)⟩
    obtain⟨v,ev⟩:∃ u,b[k]?=some u:=⟨_,List.getElem?_eq_getElem (by rw[← HM.out];exact hlt)⟩
    obtain⟨g1,o1,rfl,hg1,c0,c1⟩:=HX3.out k u eu
    obtain⟨g2,o2,rfl,hg2,d0,d1⟩:=HY3.out k v ev
    have EU:=zh eu
    have EV:=zh ev
    have hk0:(0:Int)≤(k:Int):=by omega
    have hk1:(k:Int) < (n:Int):=by omega
    have HE:=zh (fun W=>neqTally u.1 v.1 u.2 v.2 W)
    clear eu ev
    obtain⟨z,hz⟩:∃ z,z=decide (u=v):=⟨_,rfl⟩
    have he:=HE.out
    obtain⟨uv,un⟩:=u
    obtain⟨vv,vn⟩:=v
    simp only at c0 c1 d0 d1 he
    rw[← hz]at he
    cases z with
    | true =>
     have hT:=zh (take_same EU.out EV.out heq.out (of_decide_eq_true hz.symm))
     clear hz HE EU EV heq
     go_wp2
     go_quiet (fail)
     go_wp2
     go_roundw
     case rel=>exact⟨k+1,by omega,by go_num,hT,_,rfl⟩
     case measure=>simp[intOf];omega
    | false =>
     have hF:Hid (R=false):=zh (by rw[HR.out];exact decide_eq_false (take_other EU.out EV.out (of_decide_eq_false hz.symm)))
     clear hz HE EU EV heq
     go_wp2
     go_quiet (fail)
     go_wp2
     go_ret
     exact⟨ret_bool hF.out.symm,below_drewN (below_drewN br0 _) _⟩
   ·have hF:Hid (R=true):=zh (by
     rw[HR.out]
     have h:=heq.out
     rw[List.take_of_length_le (by rw[← HN.out];omega),List.take_of_length_le (by rw[← HM.out];omega)]at h
     exact decide_eq_true h)
    go_wp2
    go_ret
    exact⟨ret_bool hF.out.symm,below_drewN br0 _⟩
 ·have hF:Hid (R=false):=zh (by rw[HR.out];exact decide_eq_false (fun e=>hnm (by rw[HN.out,HM.out,e])))
  have hne:((n:Int) != (m:Int))=true:=by simp;omega
  go_enter Tryz.func45,Tryz.ntmps45
  go_wp2
  go_ret
  exact⟨ret_bool hF.out.symm,Below.refl _ _⟩
theorem eqVoteIn (u v:VoteP)(w:World):(Op.equalIn 9999 27 (vagg u) (vagg v)).run Tryz.prog w=.ok (decide (u=v)) w:=by
 obtain⟨a,b,c,d,f⟩:=u
 obtain⟨a',b',c',d',f'⟩:=v
 have h1:=run_equalIn_struct (P:=Tryz.prog) w 9998 27 #[.int .i64 a,.int .i64 b,.int .i64 c,.string d,.string f] #[.int .i64 a',.int .i64 b',.int .i64 c',.string d',.string f'] (by kernel_rfl) (by kernel_rfl)
 have e:decide ((⟨a,b,c,d,f⟩:VoteP)=⟨a',b',c',d',f'⟩)=(a == a' && b == b' && c == c' && decide (d=d') && decide (f=f')):=by
  rw[Bool.eq_iff_iff,decide_eq_true_iff,eqVote_iff];simp[and_assoc]
 have g1:=same_str d d'
 have g2:=same_str f f'
 rw[e]
 unfold vagg
 rw[show(9999:Nat)=9998+1 from rfl,h1]
 simp only[go_sem,Program.fieldsOf]
 by_cases e1:a=a' <;> by_cases e2:b=b' <;> by_cases e3:c=c' <;> by_cases e4:d=d' <;> by_cases e5:f=f' <;> simp[go_sem,e1,e2,e3,e4,e5,g1,g2]
def dagg2 (x:VoteP × VoteP):Value:=.agg #[.int .i64 x.1.car,.int .i64 x.1.num,.int .i64 x.1.stp,.string x.1.val,.string x.1.sl,.int .i64 x.2.car,.int .i64 x.2.num,.int .i64 x.2.stp,.string x.2.val,.string x.2.sl]
theorem eqlDouble (x y:VoteP × VoteP)(w:World):(Op.equalIn 10000 45 (dagg2 x) (dagg2 y)).run Tryz.prog w=.ok (decide (x=y)) w:=by
 have h1:=run_equalIn_struct (P:=Tryz.prog) w 9999 45 #[.int .i64 x.1.car,.int .i64 x.1.num,.int .i64 x.1.stp,.string x.1.val,.string x.1.sl,.int .i64 x.2.car,.int .i64 x.2.num,.int .i64 x.2.stp,.string x.2.val,.string x.2.sl] #[.int .i64 y.1.car,.int .i64 y.1.num,.int .i64 y.1.stp,.string y.1.val,.string y.1.sl,.int .i64 y.2.car,.int .i64 y.2.num,.int .i64 y.2.stp,.string y.2.val,.string y.2.sl] (by kernel_rfl) (by kernel_rfl)
 have e:decide (x=y)=(decide (x.1=y.1) && decide (x.2=y.2)):=by
  rw[Bool.eq_iff_iff]
  simp[Prod.ext_iff]
 have g1:=eqVoteIn x.1 y.1
 have g2:=eqVoteIn x.2 y.2
 unfold vagg at g1 g2
 rw[e]
 unfold dagg2
 rw[show(10000:Nat)=9999+1 from rfl,h1]
 simp only[go_sem,Program.fieldsOf]
 by_cases e1:x.1=y.1 <;> by_cases e2:x.2=y.2 <;> simp only[e1,e2,decide_true,decide_false]at g1 g2 <;> simp[go_sem,g1,g2,e1,e2]
theorem neqDouble (x y:VoteP × VoteP)(w:World):(binOp .neq 45 (dagg2 x) (dagg2 y)).run Tryz.prog w=.ok (.bool (!decide (x=y))) w:=by
 have h:=eqlDouble x y w
 unfold dagg2 at *
 rw[run_neq_struct,h]
 rfl
set_option maxHeartbeats 2000000 in
set_option maxRecDepth 100000 in
theorem sameD_any {w:World}{x y:Value}{a b:List (VoteP × VoteP)}(ha:DS w x a)(hb:DS w y b):Calls Tryz.prog 33 #[x,y] w fun e w'=>e=.returned (.bool (decide (a=b)))∧Below w.heap.size w w':=by
 obtain⟨xa,xc,rfl,-,-,hx3⟩:=ha.opened
 obtain⟨ya,yc,rfl,hl1,hl2,hy3⟩:=hb.opened
 have HX3:=zh hx3
 have HY3:=zh hy3
 have hln:b.length≤9223372036854775807:=by unfold maxLen at hl2;omega
 obtain⟨R,hR⟩:∃ R,R=decide (a=b):=⟨_,rfl⟩
 rw[← hR]
 have HR:=zh hR
 clear ha hb hx3 hy3 hR
 obtain⟨n,hn⟩:∃ n,n=a.length:=⟨_,rfl⟩
 obtain⟨m,hm⟩:∃ m,m=b.length:=⟨_,rfl⟩
 rw[← hn,← hm]
 rw[← hm]at hln
 clear hl1 hl2
 have HN:=zh hn
 have HM:=zh hm
 clear hn hm
 by_cases hnm:n=m
 ·subst hnm
  have hne:((n:Int) != (n:Int))=false:=by simp
  go_enter Tryz.func33,Tryz.ntmps33
  go_wp2
  go_loopw [5] (fun i wr=>∃ k:Nat,k≤n∧i=.int .i64 k∧Hid (a.take k=b.take k)∧∃ q,wr=w.drewN q) (fun i _=>n - (intOf i).toNat)
  case atStart=>exact⟨0,by omega,rfl,zh rfl,0,rfl⟩
  case round =>
   obtain⟨k,hk,rfl,heq,q,rfl⟩:=hrel
   by_cases hlt:k < n
   ·obtain⟨u,eu⟩:∃ u,a[k]?=some u:=⟨_,List.getElem?_eq_getElem (by rw[← HN.out];exact hlt)⟩
    obtain⟨v,ev⟩:∃ u,b[k]?=some u:=⟨_,List.getElem?_eq_getElem (by rw[← HM.out];exact hlt)⟩
    obtain⟨g1,o1,rfl,hg1,⟨⟨c0,c1,c2,c3,c4⟩,c5,c6,c7,c8,c9⟩⟩:=HX3.out k u eu
    obtain⟨g2,o2,rfl,hg2,⟨⟨d0,d1,d2,d3,d4⟩,d5,d6,d7,d8,d9⟩⟩:=HY3.out k v ev
    have EU:=zh eu
    have EV:=zh ev
    have hk0:(0:Int)≤(k:Int):=by omega
    have hk1:(k:Int) < (n:Int):=by omega
    have HE:=zh (fun W=>neqDouble u v W)
    clear eu ev
    obtain⟨z,hz⟩:∃ z,z=decide (u=v):=⟨_,rfl⟩
    have he:=HE.out
    obtain⟨⟨uc,un,us,uv,ul⟩,uc',un',us',uv',ul'⟩:=u
    obtain⟨⟨vc,vn,vs,vv,vl⟩,vc',vn',vs',vv',vl'⟩:=v
    rw[← hz]at he
    unfold dagg2 at he
    change w.cell? ⟨g1,o1+k*10+6,none⟩=_ at c6
    change w.cell? ⟨g1,o1+k*10+7,none⟩=_ at c7
    change w.cell? ⟨g1,o1+k*10+8,none⟩=_ at c8
    change w.cell? ⟨g1,o1+k*10+9,none⟩=_ at c9
    change w.cell? ⟨g2,o2+k*10+6,none⟩=_ at d6
    change w.cell? ⟨g2,o2+k*10+7,none⟩=_ at d7
    change w.cell? ⟨g2,o2+k*10+8,none⟩=_ at d8
    change w.cell? ⟨g2,o2+k*10+9,none⟩=_ at d9
    simp only at c0 c1 c2 c3 c4 c5 c6 c7 c8 c9 d0 d1 d2 d3 d4 d5 d6 d7 d8 d9 he
    cases z with
    | true =>
     have hT:=zh (take_same EU.out EV.out heq.out (of_decide_eq_true hz.symm))
     clear hz HE EU EV heq
     go_wp2
     go_quiet (fail)
     go_wp2
     go_roundw
     case rel=>exact⟨k+1,by omega,by go_num,hT,_,rfl⟩
     case measure=>simp[intOf];omega
    | false =>
     have hF:Hid (R=false):=zh (by rw[HR.out];exact decide_eq_false (take_other EU.out EV.out (of_decide_eq_false hz.symm)))
     clear hz HE EU EV heq
     go_wp2
     go_quiet (fail)
     go_wp2
     go_ret
     exact⟨ret_bool hF.out.symm,below_drewN (below_drewN br0 _) _⟩
   ·have hF:Hid (R=true):=zh (by
     rw[HR.out]
     have h:=heq.out
     rw[List.take_of_length_le (by rw[← HN.out];omega),List.take_of_length_le (by rw[← HM.out];omega)]at h
     exact decide_eq_true h)
    go_wp2
    go_ret
    exact⟨ret_bool hF.out.symm,below_drewN br0 _⟩
 ·have hF:Hid (R=false):=zh (by rw[HR.out];exact decide_eq_false (fun e=>hnm (by rw[HN.out,HM.out,e])))
  have hne:((n:Int) != (m:Int))=true:=by simp;omega
  go_enter Tryz.func33,Tryz.ntmps33
  go_wp2
  go_ret
  exact⟨ret_bool hF.out.symm,Below.refl _ _⟩
section
variable {w:World} (he:QEnv w) {kv:Value} {ks:List ByteArray} (hk:SS w kv ks)
include he
theorem qcheck_w {x:Value}{l:List VoteP}(hk:SS w kv ks)(hl:VS w x l)(num stp:Int)(val:ByteArray)(b:Bool)(hb:checkV ks num stp val l=b) :
  ∀ W,Below w.heap.size w W→Calls Tryz.prog 39 #[.agg #[kv],.agg #[.int .i64 num,.int .i64 stp],.string val,x] W fun e w'=>e=.returned (.bool b)∧Below W.heap.size W w':=fun W hW=>by
 have h:=he.step hW
 exact hb ▸ qcheck_any (hk.below hW) (hl.below hW) num stp val h.env h.round
theorem tallies_w {x:Value}{l:List VoteP}(hk:SS w kv ks)(hl:VS w x l)(num stp:Int)(t:List (ByteArray × Nat))(ht:tallyV ks num stp l=t) :
  ∀ W,Below w.heap.size w W→Calls Tryz.prog 38 #[.agg #[kv],.agg #[.int .i64 num,.int .i64 stp],x] W (TalIs W t):=fun W hW=>by
 have h:=he.step hW
 exact ht ▸ tallies_any (hk.below hW) (hl.below hW) num stp h.env h.round
theorem qconvicts_w (hk:SS w kv ks)(d:VoteP × VoteP)(b:Bool)(hb:convictsV ks d=b) :
  ∀ W,Below w.heap.size w W→Calls Tryz.prog 26 #[.agg #[kv],dagg d] W fun e w'=>e=.returned (.bool b)∧Below W.heap.size W w':=fun W hW=>by
 have h:=he.step hW
 exact hb ▸ qconvicts_any (hk.below hW) d h.env h.round
theorem qgen_w (hk:SS w kv ks)(v:VoteP)(b:Bool)(hb:genuineV ks v=b) :
  ∀ W,Below w.heap.size w W→Calls Tryz.prog 21 #[.agg #[kv],vagg v] W fun e w'=>e=.returned (.bool b)∧Below W.heap.size W w':=fun W hW=>by
 have h:=he.step hW
 exact hb ▸ gen_any (hk.below hW) v h.env h.round
end
theorem s_forged:genuineV (madeQ 4) ⟨0,55,0,valQ 0,(vS (madeQ 4) (valQ 1) 0).sl⟩=false:=by decide +kernel
theorem and7:∀ b:Fin 256,bits BinOp.and IntKind.u8 ((b.val:Nat):Int) 127=((b.val % 128:Nat):Int):=by decide +kernel
theorem xorz (h r:Nat)(hh:h < 4611686018427387904)(hr:r < 2):bits BinOp.xor IntKind.i64 (h:Int) (-(r:Int))=(if r=0 then(h:Int)else -(h:Int) - 1):=by
 have h1:(BitVec.ofInt 64 (h:Int)).toNat=h:=by
  rw[BitVec.ofInt_natCast,BitVec.toNat_ofNat];exact Nat.mod_eq_of_lt (by omega)
 show IntKind.i64.wrap ((BitVec.ofInt 64 (h:Int) ^^^ BitVec.ofInt 64 (-(r:Int))).toNat:Int)=_
 have hr2:r=0∨r=1:=by omega
 rcases hr2 with rfl | rfl
 ·rw[if_pos rfl,show BitVec.ofInt 64 (-((0:Nat):Int))=0#64 from rfl,BitVec.xor_zero,h1]
  exact IntWalk.i64_in _ (by omega)
 ·rw[if_neg (by decide),show BitVec.ofInt 64 (-((1:Nat):Int))=BitVec.allOnes 64 from by decide,BitVec.xor_allOnes,BitVec.toNat_not,h1]
  have e:((2 ^ 64 - 1 - h:Nat):Int)=-(h:Int) - 1+18446744073709551616:=by omega
  rw[e]
  simp[IntKind.wrap,IntKind.bits,IntKind.signed]
  omega
theorem or_add (z m i:Nat)(hz:z < 128 ^ i):z ||| m*128 ^ i=z+m*128 ^ i:=by
 have e:128 ^ i=2 ^ (7*i):=by rw[show 128=2 ^ 7 from rfl,← Nat.pow_mul]
 rw[e]at hz ⊢
 rw[Nat.mul_comm m,Nat.or_comm,← Nat.two_pow_add_eq_or_of_lt hz,Nat.add_comm]
theorem and1 (z r:Nat)(hz:z < 9223372036854775808)(hre:r=z % 2):bits BinOp.and IntKind.u64 (z:Int) 1=(r:Int):=by
 have e:=bits_and_u64_nat z 1 (by omega) (by omega)
 rw[hre,← Nat.and_one_is_mod]
 exact e
theorem pow9 (k:Nat)(hk:k < 9):128 ^ k≤72057594037927936:=by
 have h:128 ^ k≤128 ^ 8:=Nat.pow_le_pow_right (by decide) (by omega)
 rwa [show(128:Nat) ^ 8=72057594037927936 from by decide]at h
theorem z_bound (y m P:Nat)(hy:y < P)(hm:m < 128):y+m*P < P*128:=by
 have h1:m*P+P≤128*P:=by
  have:=Nat.mul_le_mul_right P (show m+1≤128 by omega)
  rwa [Nat.add_mul,Nat.one_mul]at this
 omega
theorem pow_int (m k:Nat):((m:Int)*2 ^ (7*k))=((m*128 ^ k:Nat):Int):=by
 rw[show(128:Nat)=2 ^ 7 from rfl,← Nat.pow_mul]
 push_cast
 rfl
theorem u64_in (x:Nat)(h:x < 18446744073709551616):IntKind.u64.wrap (x:Int)=(x:Int):=by rw[IntKind.wrap_u64];omega
theorem half_in (z h:Nat)(hz:z < 9223372036854775808)(hh:h=z / 2):wrap64 ((z:Int) / 2)=(h:Int):=by unfold wrap64;omega
theorem r_in (r:Nat)(hr:r < 2):wrap64 (r:Int)=(r:Int)∧wrap64 (-(r:Int))=-(r:Int):=by unfold wrap64;omega
theorem half_lt (z h:Nat)(hz:z < 9223372036854775808)(hh:h=z / 2):h < 4611686018427387904:=by omega
theorem byte_facts (y bn k:Nat)(hk:k < 9)(hy:y < 128 ^ k)(hb:bn < 256):∃ m q z h r:Nat,∃ N:Int,z=y+bn % 128*128 ^ k∧N=unzig z∧z < 128 ^ (k+1)∧bits BinOp.and IntKind.u8 (bn:Int) 127=(m:Int)∧IntKind.u64.wrap (m:Int)=(m:Int)∧IntKind.u64.wrap ((m:Int)*2 ^ (7*k))=(q:Int)∧bits BinOp.or IntKind.u64 (y:Int) (q:Int)=(z:Int)
  ∧ wrap64 ((z:Int) / 2)=(h:Int)∧bits BinOp.and IntKind.u64 (z:Int) 1=(r:Int)∧wrap64 (r:Int)=(r:Int)∧wrap64 (-(r:Int))=-(r:Int)∧bits BinOp.xor IntKind.i64 (h:Int) (-(r:Int))=N:=by
 have hP:=pow9 k hk
 have hm:bn % 128 < 128:=by omega
 have hz:=z_bound y (bn % 128) (128 ^ k) hy hm
 have hq:bn % 128*128 ^ k≤y+bn % 128*128 ^ k:=Nat.le_add_left _ _
 have hor:y ||| bn % 128*128 ^ k=y+bn % 128*128 ^ k:=or_add y (bn % 128) k hy
 have hpi:=pow_int (bn % 128) k
 have hpw:128 ^ (k+1)=128 ^ k*128:=Nat.pow_succ _ _
 generalize 128 ^ k=P at *
 have hzb:y+bn % 128*P < 9223372036854775808:=by omega
 refine⟨bn % 128,bn % 128*P,y+bn % 128*P,(y+bn % 128*P) / 2,(y+bn % 128*P) % 2,unzig (y+bn % 128*P),rfl,rfl,by rw[hpw];exact hz,and7 ⟨bn,hb⟩,u64_in _ (by omega),?_,?_,half_in _ _ hzb rfl,and1 _ _ hzb rfl,(r_in _ (Nat.mod_lt _ (by decide))).1,(r_in _ (Nat.mod_lt _ (by decide))).2,?_⟩
 ·rw[hpi];exact u64_in _ (by omega)
 ·rw[bits_or_u64_nat _ _ (by omega) (by omega),hor]
 ·rw[xorz _ _ (half_lt _ _ hzb rfl) (Nat.mod_lt _ (by decide))]
  unfold unzig
  generalize y+bn % 128*P=z
  rfl
def intR (a:Nat)(o:Option (Int × Nat)):Value:=match o with
 | some (n,k)=>.tuple #[.int .i64 n,.int .i64 ((a+k:Nat):Int),.int .i64 0]
 | none=>.tuple #[.int .i64 0,.int .i64 0,.int .i64 10]
set_option maxHeartbeats 4000000 in
set_option maxRecDepth 100000 in
theorem int_any (s:ByteArray)(a:Nat)(ha:a≤s.size)(hs:s.size≤1000000)(w:World) :
  Calls Tryz.prog 70 #[.string s,.int .i64 a] w fun e w'=>e=.returned (intR a (intL 9 0 0 (s.data.toList.drop a)))∧w'=w:=by
 have HRES:=zh (rfl:intR a (intL 9 0 0 (s.data.toList.drop a))=intR a (intL 9 0 0 (s.data.toList.drop a)))
 obtain⟨RES,hRES⟩:∃ R,R=intL 9 0 0 (s.data.toList.drop a):=⟨_,rfl⟩
 rw[← hRES]
 have HR:=zh hRES
 clear hRES HRES
 have h0:(0:Int)≤(a:Int):=by omega
 have h1:¬ ((s.size:Int) < (a:Int)):=by omega
 have h1':¬ (s.size < a):=by omega
 go_enter Tryz.func70,Tryz.ntmps70
 go_wp2
 go_loopw [7,19] (fun z i wr=>∃ k y:Nat,k≤9∧i=.int .i64 k∧z=.int .u64 y∧y < 128 ^ k∧a+k≤s.size∧Hid (RES=intL (9 - k) k y (s.data.toList.drop (a+k)))∧wr=w) (fun _ i _=>9 - (intOf i).toNat)
 case atStart=>exact⟨0,0,by omega,rfl,rfl,by decide,by omega,HR,rfl⟩
 case round =>
  obtain⟨k,y,hk,rfl,rfl,hy,hak,hI,rfl⟩:=hrel
  by_cases hk9:k < 9
  ·by_cases hend:a+k < s.size
   ·have hk0:(0:Int)≤(a:Int)+(k:Int):=by omega
    have hk1:(a:Int)+(k:Int) < (s.size:Int):=by omega
    have hk2:IntKind.i64.wrap ((a:Int)+(k:Int))=(a:Int)+(k:Int):=IntWalk.i64_in _ (by omega)
    have hget:s.data.toList.drop (a+k)=s[a+k]::s.data.toList.drop (a+(k+1)):=by
     have hlt:a+k < s.data.toList.length:=by rw[Array.length_toList];exact hend
     rw[List.drop_eq_getElem_cons hlt]
     rfl
    have HI2:=zh (hI.out.trans (congrArg (intL (9 - k) k y) hget))
    clear hI hget
    obtain⟨B,hB⟩:∃ B,B=s[a+k]:=⟨_,rfl⟩
    rw[← hB]at HI2
    have hB256:=B.toNat_lt
    have hbn:s[a+k].toNat=B.toNat:=by rw[hB]
    obtain⟨bn,hbe⟩:∃ bn,bn=B.toNat:=⟨_,rfl⟩
    rw[← hbe]at hbn hB256
    obtain⟨f,hf⟩:∃ f,9 - k=f+1:=⟨8 - k,by omega⟩
    obtain⟨m,q,z,h,r,N,hze,hNe,hzk,hm,hm2,hsh,hor,hh,hr1,hr2,hr3,hx⟩:=byte_facts y bn k hk9 hy hB256
    have HST:Hid (RES=if 128≤bn then intL f (k+1) z (s.data.toList.drop (a+(k+1)))else if(bn=0∧0 < k)∨N < -4611686018427387903 then none else some (N,k+1)):=zh (by
     rw[HI2.out,hf,intL,hNe,hze,hbe])
    have HF:=zh hf
    have HZK:=zh hzk
    have HY:=zh hy
    have HNE:=zh (And.intro hNe hze)
    clear hB hbe hf hze hNe HI2 hzk hy
    by_cases h128:128≤bn
    ·have HRS:=zh (HST.out.trans (if_pos h128))
     have h128':(128:Int)≤(bn:Int):=by omega
     clear HST
     go_wp2
     go_roundw
     case rel=>exact⟨k+1,z,by omega,by go_num,rfl,HZK.out,by omega,by rw[show 9 - (k+1)=f by have:=HF.out;omega];exact HRS,by trivial⟩
     case measure=>simp[intOf];omega
    ·have H2:=zh (HST.out.trans (if_neg h128))
     have h128':(bn:Int) < (128:Int):=by omega
     clear HST
     by_cases hbad:bn=0∧0 < k
     ·obtain⟨hb0,hkp⟩:=hbad
      have HRS:Hid (RES=none):=zh (H2.out.trans (if_pos (.inl ⟨hb0,hkp⟩)))
      subst hb0
      have hkp':(0:Int) < (k:Int):=by omega
      clear h128 h128' H2 HNE HF
      go_wp2
      (try simp only[Exit.inBlock,Exit.then]);refine bodyPost_ret (results_tmp3 rfl _ _ _) rfl ?_
      rw[HRS.out]
      exact⟨rfl,rfl⟩
     ·by_cases hN:N < -4611686018427387903
      ·have HRS:Hid (RES=none):=zh (H2.out.trans (if_pos (.inr hN)))
       have hb0:bn≠0:=fun e=>by
        have hk0:k=0:=by omega
        have hy0:=HY.out
        obtain⟨n1,n2⟩:=HNE.out
        subst hk0 e
        simp only[Nat.pow_zero]at hy0
        obtain rfl:y=0:=by omega
        subst n2
        subst n1
        revert hN
        decide
       clear H2 HNE HF
       go_wp2
       (try simp only[Exit.inBlock,Exit.then]);refine bodyPost_ret (results_tmp3 rfl _ _ _) rfl ?_
       rw[HRS.out]
       exact⟨rfl,rfl⟩
      ·have HRS:Hid (RES=some (N,k+1)):=zh (H2.out.trans (if_neg (by rintro(h | h);exact hbad h;exact hN h)))
       by_cases hb0:bn=0
       ·have hk0:k=0:=by omega
        have hy0:=HY.out
        obtain⟨n1,n2⟩:=HNE.out
        have hy00:y=0:=by
         rw[hk0,Nat.pow_zero]at hy0
         omega
        have HRT:Hid (RES=some (0,1)):=zh (by
         rw[HRS.out,hk0]
         subst hb0 hy00
         subst n2
         subst n1
         simp only[Nat.zero_mod,Nat.zero_mul,Nat.add_zero]
         rfl)
        have hkz:¬ (0:Int) < (k:Int):=by omega
        subst hb0 hy00
        clear HRS n1 n2 hm hm2 hsh hor hh hr1 hr2 hr3 hx hN HNE H2 HF HY hk0 hy0
        have g1:bits BinOp.and IntKind.u8 0 127=0:=by decide
        have g2:bits BinOp.or IntKind.u64 0 0=0:=by decide
        have g3:bits BinOp.and IntKind.u64 0 1=0:=by decide
        have g4:bits BinOp.xor IntKind.i64 0 0=0:=by decide
        have g5:IntKind.u64.wrap 0=0:=by decide
        have g6:wrap64 0=0:=by unfold wrap64;omega
        go_wp2
        (try simp only[Exit.inBlock,Exit.then]);refine bodyPost_ret (results_tmp3 rfl _ _ _) rfl ?_
        rw[HRT.out]
        exact⟨rfl,rfl⟩
       ·clear H2 HNE HF
        go_wp2
        (try simp only[Exit.inBlock,Exit.then]);refine bodyPost_ret (results_tmp3 rfl _ _ _) rfl ?_
        rw[HRS.out]
        exact⟨rfl,rfl⟩
   ·have HE:Hid (RES=none):=zh (by
     rw[hI.out,List.drop_eq_nil_of_le (by show s.data.size≤_;have:s.size=s.data.size:=rfl;omega)]
     obtain⟨f,hf⟩:∃ f,9 - k=f+1:=⟨8 - k,by omega⟩
     rw[hf]
     rfl)
    have hnl:(s.size:Int)≤(a:Int)+(k:Int):=by omega
    have hk2:IntKind.i64.wrap ((a:Int)+(k:Int))=(a:Int)+(k:Int):=IntWalk.i64_in _ (by omega)
    go_wp2
    (try simp only[Exit.inBlock,Exit.then]);refine bodyPost_ret (results_tmp3 rfl _ _ _) rfl ?_
    rw[HE.out]
    exact⟨rfl,rfl⟩
  ·obtain rfl:k=9:=by omega
   have HE:Hid (RES=none):=zh (hI.out.trans rfl)
   go_wp2
   (try simp only[Exit.inBlock,Exit.then]);refine bodyPost_ret (results_tmp3 rfl _ _ _) rfl ?_
   rw[HE.out]
   exact⟨rfl,rfl⟩
end Go.Proofs.YtggdcnjaofflbaaGreatDoor
