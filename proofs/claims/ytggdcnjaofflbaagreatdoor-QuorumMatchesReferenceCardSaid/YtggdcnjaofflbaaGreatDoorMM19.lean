/- Walk of package quorum: Doubles. The conditions: what the slices read as, lengths of keys, the table of constants. -/
import Derived.Test.YtggdcnjaofflbaaGreatDoorMM15
import Derived.Test.YtggdcnjaofflbaaGreatDoorMM18
namespace Go.Proofs.YtggdcnjaofflbaaGreatDoor
open Go.RowKit Go.BigFrame
theorem insV_len (x:VoteP):∀ L:List VoteP,(insV x L).length≤L.length+1
 | []=>Nat.le_refl _
 | a::l=>by
  have ih:=insV_len x l
  unfold insV
  split
  ·simp only[List.length_cons];omega
  ·split
   ·simp only[List.length_cons];omega
   ·simp only[List.length_cons];omega
theorem insVs_len:∀(xs L:List VoteP),(insVs L xs).length≤L.length+xs.length
 | [],L=>Nat.le_refl _
 | x::xs,L=>by
  have h1:=insV_len x L
  have h2:=insVs_len xs (insV x L)
  unfold insVs
  simp only[List.length_cons]
  omega
theorem sortedV_len (ks:List ByteArray)(l:List VoteP):(sortedV ks l).length≤l.length:=by
 have h:=insVs_len (l.filter (genV ks)) []
 have h2:=List.length_filter_le (genV ks) l
 unfold sortedV
 simp only[List.length_nil]at h
 omega
theorem dblL_snoc (a b:VoteP):∀(l:List VoteP) (p:Option VoteP),dblL p (l++[a,b])=dblL p (l++[a])++(if oneV a b=true∧(∀ q,(l.getLast?).or p=some q→oneV q b=false)then[(a,b)]else[])
 | [],p=>by
  show(if _ then _ else _)++[]=[]++_
  rw[List.append_nil,List.nil_append]
  rfl
 | x::l,p=>by
  have ih:=dblL_snoc a b l (some x)
  have e:(l.getLast?).or (some x)=((x::l).getLast?).or p:=by
   cases l with
   | nil=>rfl
   | cons y t=>rw[List.getLast?_cons_cons];cases h:(y::t).getLast? with
    | none=>simp at h
    | some z=>rfl
  rw[e]at ih
  cases l with
  | nil =>
   show(if _ then _ else _)++dblL (some x) ([]++[a,b])=(if _ then _ else _)++dblL (some x) ([]++[a])++_
   rw[ih,List.append_assoc]
  | cons y t =>
   show(if _ then _ else _)++dblL (some x) ((y::t)++[a,b])=(if _ then _ else _)++dblL (some x) ((y::t)++[a])++_
   rw[ih,List.append_assoc]
theorem dblL_one (L:List VoteP):dblL none (L.take 1)=[]:=by
 cases L with
 | nil=>rfl
 | cons a l=>rfl
def dblC (L:List VoteP)(p:Nat)(a b:VoteP):Bool:=oneV a b && (decide (p=0) || !((L[p - 1]?).any fun q=>oneV q b))
theorem dblL_take {L:List VoteP}{p:Nat}{a b:VoteP}(ha:L[p]?=some a)(hb:L[p+1]?=some b):dblL none (L.take (p+1+1))=dblL none (L.take (p+1))++(if dblC L p a b=true then[(a,b)]else[]):=by
 have e1:L.take (p+1)=L.take p++[a]:=by rw[List.take_add_one,ha];rfl
 have e2:L.take (p+1+1)=L.take p++[a,b]:=by rw[List.take_add_one,hb,e1];simp
 rw[e1,e2,dblL_snoc]
 refine congrArg _ ?_
 have hp:=(List.getElem?_eq_some_iff.1 ha).1
 have e3:dblC L p a b=true ↔ (oneV a b=true∧∀ q,((L.take p).getLast?).or none=some q→oneV q b=false):=by
  unfold dblC
  rw[Bool.and_eq_true,Bool.or_eq_true,decide_eq_true_iff]
  refine and_congr_right fun _=>?_
  rw[Option.or_none,List.getLast?_eq_getElem?,List.length_take,Nat.min_eq_left (Nat.le_of_lt hp)]
  cases p with
  | zero=>simp
  | succ m =>
   rw[List.getElem?_take_of_lt (by omega)]
   simp only[Nat.add_sub_cancel]
   cases hm:L[m]? with
   | none=>simp
   | some q=>simp
 by_cases h:dblC L p a b=true
 ·rw[if_pos h,if_pos (e3.1 h)]
 ·rw[if_neg h,if_neg (fun h'=>h (e3.2 h'))]
theorem VS.here {w:World}{g o n cap:Nat}{l:List VoteP}(h:VS w (.slice (some ⟨g,o,none⟩) n cap) l){j:Nat}{y:VoteP}(hj:l[j]?=some y):g < w.heap.size∧VAt w g (o+j*5) y:=by
 obtain⟨a2,c2,e2,_,_,h3⟩:=h.opened
 obtain⟨b',o',hbo,hb',d⟩:=h3 j y hj
 injection e2 with e3 _ _
 rw[← e3]at hbo
 injection hbo with hbo
 injection hbo with e4 e5 _
 subst e4 e5
 exact⟨hb',d⟩
theorem VS.addr {w:World}{va:Option Addr}{n cap:Nat}{l:List VoteP}(h:VS w (.slice va n cap) l){j:Nat}{y:VoteP}(hj:l[j]?=some y):∃ g o,va=some ⟨g,o,none⟩:=by
 obtain⟨a2,c2,e2,_,_,h3⟩:=h.opened
 obtain⟨b',o',hbo,_⟩:=h3 j y hj
 injection e2 with e3 _ _
 exact⟨b',o',e3.trans hbo⟩
def DoubIs (w:World)(l:List (VoteP × VoteP))(e:Ending)(w':World):Prop:=∃ v,e=.returned v∧DS w' v l∧Below w.heap.size w w'
set_option maxHeartbeats 16000000 in
set_option maxRecDepth 100000 in
theorem doubles_any {w:World}{kv x:Value}{ks:List ByteArray}{l:List VoteP}(hr:SS w kv ks)(hks:∀ k∈ks,k.size≤1000)(hl:VS w x l)(he:Env w)(hg:3 < w.heap.size) :
  Calls Tryz.prog 35 #[.agg #[kv],x] w (DoubIs w (doublesV ks l)):=by
 obtain⟨ka,kn,kc,rfl⟩:∃ a n c,kv=.slice a n c:=by obtain⟨a,c,h,_⟩:=hr.opened;exact⟨_,_,_,h⟩
 have HS:=zh hl
 obtain⟨xa,xc,rfl,-,-,-⟩:=hl.opened
 obtain⟨W1,hW1⟩:∃ W1,W1=w.alloc (.cells #[.slice ka kn kc] 31):=⟨_,rfl⟩
 have HB1:Hid (Below w.heap.size w W1):=zh (by rw[hW1];exact br0.alloc (Nat.le_refl _) _)
 have HH1:Hid (W1.heap[w.heap.size]?=some (.cells #[.slice ka kn kc] 31 (0,0))):=zh (by rw[hW1];exact heap_alloc_new w _)
 have HPL:=zh (isPool_any (hr.below HB1.out) (HS.out.below HB1.out))
 have HSO:Hid (l.length≤60→∀ W,Below w.heap.size w W→Calls Tryz.prog 81 #[.agg #[.slice ka kn kc],.slice xa l.length xc] W fun e w'=>∃ v,e=.returned v∧OwnV w' W.heap.size v (sortedV ks l)∧Below W.heap.size W w'):=zh fun h60 W hW =>
  sorted_any (hr.below hW) hks (HS.out.below hW) (by omega) (he.below hW hg) (Nat.lt_of_lt_of_le hg hW.size)
 have HRN:Hid (isPool ks l=false→doublesV ks l=[]):=zh fun h=>by unfold doublesV;rw[if_neg (by rw[h];decide)]
 have HRY:Hid (isPool ks l=true→l.length≤60∧doublesV ks l=dblL none (sortedV ks l)∧(sortedV ks l).length≤60):=zh fun h=>by
  have h60:l.length≤60:=by
   unfold isPool at h
   rw[Bool.and_eq_true,decide_eq_true_iff]at h
   exact h.2
  exact⟨h60,by unfold doublesV;rw[if_pos h],Nat.le_trans (sortedV_len ks l) h60⟩
 have HW1:=zh hW1
 obtain⟨PL,hPL⟩:∃ PL,PL=isPool ks l:=⟨_,rfl⟩
 rw[← hPL]at HPL HRN HRY
 generalize doublesV ks l=RES at *
 generalize sortedV ks l=S at *
 generalize l.length=ln at *
 have hc1:∀ W,Below W1.heap.size W1 W→W.cell? ⟨w.heap.size,0,none⟩=some (.slice ka kn kc):=fun W hW=>cell_of_row W _ 0 _ _ _ ((hW.block _ (ltA HH1.out)).trans HH1.out)
 have HC1:=zh hc1
 have hc2:=hc1 W1 br0
 clear hr hks hl he hg hW1 hPL hc1
 cases PL with
 | false =>
  have HE:=HRN.out rfl
  subst HE
  go_enter Tryz.func35,Tryz.ntmps35
  go_upto_region 1 with fail
  rw[← HW1.out]
  go_wp2_with (go_at_call 76;refine HPL.out.mono ?_;rintro e w2 ⟨rfl,h2⟩;have H2:=zh h2;clear h2)
  go_ret
  exact⟨_,rfl,DS.nil _,q_next HB1.out H2.out⟩
 | true =>
  obtain⟨h60,hRES,hS60⟩:=HRY.out rfl
  have HRES:=zh hRES
  have HSO2:=zh (HSO.out h60)
  clear HRN HRY HSO hRES h60
  go_enter Tryz.func35,Tryz.ntmps35
  go_upto_region 1 with fail
  rw[← HW1.out]
  go_upto_region 4 with(go_at_call 76;refine HPL.out.mono ?_;rintro e w2 ⟨rfl,h2⟩)
  have H2:=zh h2
  have hc3:=HC1.out w2 h2
  clear h2 hc2
  go_upto_region 5 with(go_at_call 81;refine(HSO2.out _ (q_next HB1.out H2.out)).mono ?_;rintro e w4 ⟨v,rfl,h4,h5⟩)
  have HV:=zh (OwnV.vs h4)
  have HBL:Hid (BlAt w4 (.slice none 0 0) [] w4):=zh ⟨Below.refl _ _,OwnE.nil _ _ _ _⟩
  have HB4:=zh (q_next HB1.out (q_next H2.out h5))
  obtain⟨va,vc,hv⟩:=OwnV.form h4
  subst hv
  clear h4 h5 hc3
  obtain⟨n,hn⟩:∃ n,n=S.length:=⟨_,rfl⟩
  rw[← hn]at HV hS60 ⊢
  have HN:=zh hn
  clear hn HC1 H2 HB1 HSO2 HW1 HPL HS
  go_upto_region 6 with fail
  go_wp2
  go_loopw [5,7] (fun out i wr=>∃(p m:Nat) (oa:Option Addr) (oc:Nat),p≤n∧i=.int .i64 (p+1)∧out=.slice oa m oc∧m≤p∧Hid ((dblL none (S.take (p+1))).length=m)∧Hid (BlAt w4 (.slice oa m oc) (dblL none (S.take (p+1))) wr)) (fun _ i _=>n - (intOf i).toNat)
  case atStart=>exact⟨0,0,none,0,by omega,rfl,rfl,Nat.le_refl _,zh (by rw[dblL_one];rfl),by rw[dblL_one];exact HBL⟩
  case round =>
   obtain⟨p,m,oa,oc,hpn,rfl,rfl,hmp,hlen,hP⟩:=hrel
   by_cases hlt:p+1 < n
   ·obtain⟨b,eb⟩:∃ y,S[p+1]?=some y:=⟨_,List.getElem?_eq_getElem (by rw[← HN.out];exact hlt)⟩
    obtain⟨a,ea⟩:∃ y,S[p]?=some y:=⟨_,List.getElem?_eq_getElem (by rw[← HN.out];omega)⟩
    obtain⟨gb,go,rfl⟩:=HV.out.addr eb
    obtain⟨hgb,hvb⟩:=HV.out.here eb
    obtain⟨_,hva⟩:=HV.out.here ea
    have e1:go+(p+1)*5=go+(p+1)*5:=rfl
    have HC:Hid (∀ W,Below wr.heap.size wr W→(W.cell? ⟨gb,go+p*5,none⟩=some (.int .i64 a.car)∧W.cell? ⟨gb,go+p*5+1,none⟩=some (.int .i64 a.num)∧W.cell? ⟨gb,go+p*5+2,none⟩=some (.int .i64 a.stp)∧W.cell? ⟨gb,go+p*5+3,none⟩=some (.string a.val)∧W.cell? ⟨gb,go+p*5+4,none⟩=some (.string a.sl))∧(W.cell? ⟨gb,go+(p+1)*5,none⟩=some (.int .i64 b.car)∧W.cell? ⟨gb,go+(p+1)*5+1,none⟩=some (.int .i64 b.num)∧W.cell? ⟨gb,go+(p+1)*5+2,none⟩=some (.int .i64 b.stp)∧W.cell? ⟨gb,go+(p+1)*5+3,none⟩=some (.string b.val)∧W.cell? ⟨gb,go+(p+1)*5+4,none⟩=some (.string b.sl))):=zh fun W hW=>⟨VAt.keep hva (q_next hP.out.1 hW) hgb,VAt.keep hvb (q_next hP.out.1 hW) hgb⟩
    have HAB:=zh (fun W=>areOne_any a b W)
    have HT:=zh (dblL_take ea eb)
    have hpk0:(0:Int)≤(p:Int)+1:=by omega
    have hpk:(p:Int)+1 < (n:Int):=by omega
    have hp1:IntKind.i64.wrap ((p:Int)+1 - 1)=(p:Int):=by rw[IntWalk.i64_in _ (by omega)];omega
    have hp2:IntKind.i64.wrap (p:Int)=(p:Int):=IntWalk.i64_in _ (by omega)
    have hpn0:(0:Int)≤(p:Int):=by omega
    have hpn1:(p:Int) < (n:Int):=by omega
    have HAW:Hid (∀ W,Below w4.heap.size w4 W→VAt W gb (go+p*5) a):=zh (fun W hW=>VAt.keep hva hW hgb)
    have HBW:Hid (∀ W,Below w4.heap.size w4 W→VAt W gb (go+(p+1)*5) b):=zh (fun W hW=>VAt.keep hvb hW hgb)
    obtain⟨R,hR⟩:∃ R,R=dblC S p a b:=⟨_,rfl⟩
    rw[← hR]at HT
    have HR:=zh hR
    clear hR
    go_upto_region 8 with fail
    go_cut [47] (fun t wx=>t=.bool R∧Hid (Below wr.heap.size wr wx))
    case first =>
     clear HAW HBW HT hlen
     obtain⟨ac,an,at1,av,al⟩:=a
     obtain⟨bc,bn,bs,bv,bl⟩:=b
     simp only at HC
     unfold vagg at HAB
     simp only at HAB
     by_cases hone:oneV ⟨ac,an,at1,av,al⟩ ⟨bc,bn,bs,bv,bl⟩=true
     ·by_cases hp0:p=0
      ·have hR:R=true:=by rw[HR.out];unfold dblC;rw[hone,decide_eq_true hp0];rfl
       subst hR
       rw[hone]at HAB
       have hpe:((((p:Int)+1) == 1)=true):=by simp;omega
       clear hone hp0 HR
       refine wp_region_noPanic ?_
       refine wp_region_lexB [.q 0,.q 1,.q 2,.q 3,.q 4,.q 5,.q 6,.q 7,.q 8,.b 9,.q 10,.q 11,.q 12,.q 13,.q 14,.q 15,.q 16,.q 17,.q 18,.q 19,.q 20,.q 21,.q 22,.q 23,.q 24,.q 25,.q 26] (by kernel_rfl) (by kernel_rfl) (fun _ _ _ _ h=>h) ?_
       iterate 9(refine wpFl_qL (v:=?_) rfl (Or.inl ⟨by rfl,?_⟩) ?_;rotate_left;(focus(intro w' hSw;obtain⟨⟨a0,a1,a2,a3,a4⟩,b0,b1,b2,b3,b4⟩:=HC.out w' hSw;go_simp;(try with_reducible rfl);done));simp only[Act.put,zzA,zzB,zzC])
       refine wpFl_bL rfl (fun wa1 hna1 hsa1 K hK=>?_)
       go_simp
       go_at_call 69
       refine(HAB.out wa1).mono ?_
       rintro e wb1 ⟨rfl,hb1⟩
       have HBC1:=zh (q_next hsa1 hb1)
       refine hK.out _ _ HBC1.out (Keeps.below hb1) ?_
       clear hK K hna1 hsa1 hb1
       iterate 4(refine wpFl_qL (v:=?_) rfl (Or.inl ⟨by rfl,?_⟩) ?_;rotate_left;(focus(intro w' hSw;go_simp;(try with_reducible rfl);done));simp only[Act.put,zzA,zzB,zzC])
       iterate 11(refine wpFl_qL (v:=undef) rfl (Or.inr ⟨by rfl,rfl⟩) ?_;simp only[Act.put,zzA,zzB,zzC])
       iterate 2(refine wpFl_qL (v:=?_) rfl (Or.inl ⟨by rfl,?_⟩) ?_;rotate_left;(focus(intro w' hSw;go_simp;(try with_reducible rfl);done));simp only[Act.put,zzA,zzB,zzC])
       refine wpFl_nil ?_
       refine NoPanic.normal ?_
       go_wp2
       go_meet
       case rel=>exact⟨rfl,HBC1⟩
      ·obtain⟨r,hr⟩:∃ r,r+1=p:=⟨p - 1,by omega⟩
       obtain⟨q,eq⟩:∃ y,S[r]?=some y:=⟨_,List.getElem?_eq_getElem (by rw[← HN.out];omega)⟩
       obtain⟨_,hvq⟩:=HV.out.here eq
       have HD:Hid (∀ W,Below wr.heap.size wr W→(W.cell? ⟨gb,go+r*5,none⟩=some (.int .i64 q.car)∧W.cell? ⟨gb,go+r*5+1,none⟩=some (.int .i64 q.num)∧W.cell? ⟨gb,go+r*5+2,none⟩=some (.int .i64 q.stp)∧W.cell? ⟨gb,go+r*5+3,none⟩=some (.string q.val)∧W.cell? ⟨gb,go+r*5+4,none⟩=some (.string q.sl))∧(W.cell? ⟨gb,go+(p+1)*5,none⟩=some (.int .i64 bc)∧W.cell? ⟨gb,go+(p+1)*5+1,none⟩=some (.int .i64 bn)∧W.cell? ⟨gb,go+(p+1)*5+2,none⟩=some (.int .i64 bs)∧W.cell? ⟨gb,go+(p+1)*5+3,none⟩=some (.string bv)∧W.cell? ⟨gb,go+(p+1)*5+4,none⟩=some (.string bl))):=zh fun W hW=>⟨VAt.keep hvq (q_next hP.out.1 hW) hgb,(HC.out W hW).2⟩
       have HQB:=zh (fun W=>areOne_any q ⟨bc,bn,bs,bv,bl⟩ W)
       have hR:R=!oneV q ⟨bc,bn,bs,bv,bl⟩:=by
        rw[HR.out]
        unfold dblC
        rw[hone,decide_eq_false hp0,show p - 1=r by omega,eq]
        rfl
       obtain⟨Z,hZ⟩:∃ Z,Z=oneV q ⟨bc,bn,bs,bv,bl⟩:=⟨_,rfl⟩
       rw[← hZ]at hR HQB
       subst hR
       rw[hone]at HAB
       have hpe:((((p:Int)+1) == 1)=false):=by simp;omega
       have hr2:IntKind.i64.wrap ((p:Int)+1 - 2)=(r:Int):=by rw[IntWalk.i64_in _ (by omega)];omega
       have hr0:(0:Int)≤(r:Int):=by omega
       have hr1:(r:Int) < (n:Int):=by omega
       clear hone HR hZ hvq hr eq
       obtain⟨qc,qn,qs,qv,ql⟩:=q
       simp only at HD
       unfold vagg at HQB
       simp only at HQB
       refine wp_region_noPanic ?_
       refine wp_region_lexB [.q 0,.q 1,.q 2,.q 3,.q 4,.q 5,.q 6,.q 7,.q 8,.b 9,.q 10,.q 11,.q 12,.q 13,.q 14,.q 15,.q 16,.q 17,.q 18,.q 19,.q 20,.q 21,.q 22,.b 23,.q 24,.q 25,.q 26] (by kernel_rfl) (by kernel_rfl) (fun _ _ _ _ h=>h) ?_
       iterate 9(refine wpFl_qL (v:=?_) rfl (Or.inl ⟨by rfl,?_⟩) ?_;rotate_left;(focus(intro w' hSw;obtain⟨⟨a0,a1,a2,a3,a4⟩,b0,b1,b2,b3,b4⟩:=HC.out w' hSw;go_simp;(try with_reducible rfl);done));simp only[Act.put,zzA,zzB,zzC])
       refine wpFl_bL rfl (fun wa1 hna1 hsa1 K hK=>?_)
       go_simp
       go_at_call 69
       refine(HAB.out wa1).mono ?_
       rintro e wb1 ⟨rfl,hb1⟩
       have HBC1:=zh (q_next hsa1 hb1)
       refine hK.out _ _ HBC1.out (Keeps.below hb1) ?_
       clear hK K hna1 hsa1 hb1
       iterate 4(refine wpFl_qL (v:=?_) rfl (Or.inl ⟨by rfl,?_⟩) ?_;rotate_left;(focus(intro w' hSw;go_simp;(try with_reducible rfl);done));simp only[Act.put,zzA,zzB,zzC])
       iterate 9(refine wpFl_qL (v:=?_) rfl (Or.inl ⟨by rfl,?_⟩) ?_;rotate_left;(focus(intro w' hSw;obtain⟨⟨a0,a1,a2,a3,a4⟩,b0,b1,b2,b3,b4⟩:=HD.out w' hSw;go_simp;(try with_reducible rfl);done));simp only[Act.put,zzA,zzB,zzC])
       refine wpFl_bL rfl (fun wa2 hna2 hsa2 K hK=>?_)
       go_simp
       go_at_call 69
       refine(HQB.out wa2).mono ?_
       rintro e wb2 ⟨rfl,hb2⟩
       have HBC2:=zh (q_next hsa2 hb2)
       refine hK.out _ _ HBC2.out (Keeps.below hb2) ?_
       clear hK K hna2 hsa2 hb2
       iterate 3(refine wpFl_qL (v:=?_) rfl (Or.inl ⟨by rfl,?_⟩) ?_;rotate_left;(focus(intro w' hSw;go_simp;(try with_reducible rfl);done));simp only[Act.put,zzA,zzB,zzC])
       refine wpFl_nil ?_
       refine NoPanic.normal ?_
       go_wp2
       go_meet
       case rel=>exact⟨rfl,HBC2⟩
     ·have hR:R=false:=by rw[HR.out];unfold dblC;rw[Bool.eq_false_iff.2 hone];rfl
      subst hR
      rw[Bool.eq_false_iff.2 hone]at HAB
      clear hone HR
      refine wp_region_noPanic ?_
      refine wp_region_lexB [.q 0,.q 1,.q 2,.q 3,.q 4,.q 5,.q 6,.q 7,.q 8,.b 9,.q 10,.q 11,.q 12,.q 13,.q 14,.q 15,.q 16,.q 17,.q 18,.q 19,.q 20,.q 21,.q 22,.q 23,.q 24,.q 25,.q 26] (by kernel_rfl) (by kernel_rfl) (fun _ _ _ _ h=>h) ?_
      iterate 9(refine wpFl_qL (v:=?_) rfl (Or.inl ⟨by rfl,?_⟩) ?_;rotate_left;(focus(intro w' hSw;obtain⟨⟨a0,a1,a2,a3,a4⟩,b0,b1,b2,b3,b4⟩:=HC.out w' hSw;go_simp;(try with_reducible rfl);done));simp only[Act.put,zzA,zzB,zzC])
      refine wpFl_bL rfl (fun wa1 hna1 hsa1 K hK=>?_)
      go_simp
      go_at_call 69
      refine(HAB.out wa1).mono ?_
      rintro e wb1 ⟨rfl,hb1⟩
      have HBC1:=zh (q_next hsa1 hb1)
      refine hK.out _ _ HBC1.out (Keeps.below hb1) ?_
      clear hK K hna1 hsa1 hb1
      refine wpFl_qL (v:=?_) rfl (Or.inl ⟨by rfl,?_⟩) ?_
      rotate_left
      focus(intro w' hSw;go_simp;(try with_reducible rfl);done)
      simp only[Act.put,zzA,zzB,zzC]
      iterate 15(refine wpFl_qL (v:=undef) rfl (Or.inr ⟨by rfl,rfl⟩) ?_;simp only[Act.put,zzA,zzB,zzC])
      refine wpFl_qL (v:=?_) rfl (Or.inl ⟨by rfl,?_⟩) ?_
      rotate_left
      focus(intro w' hSw;go_simp;(try with_reducible rfl);done)
      simp only[Act.put,zzA,zzB,zzC]
      refine wpFl_nil ?_
      refine NoPanic.normal ?_
      go_wp2
      go_meet
      case rel=>exact⟨rfl,HBC1⟩
    case rest =>
     obtain⟨ht47,HB5⟩:=hcut
     subst ht47
     obtain⟨w9,hw9⟩:∃ W,W=wc:=⟨_,rfl⟩
     rw[← hw9]at HB5 ⊢
     clear hw9 wc HC HAB HR
     have HP9:Hid (BlAt w4 (.slice oa m oc) (dblL none (S.take (p+1))) w9):=zh (hP.out.far HB5.out)
     clear hP HB5
     cases R with
     | false =>
      have HT2:Hid (dblL none (S.take (p+1+1))=dblL none (S.take (p+1))):=zh (by rw[HT.out];exact List.append_nil _)
      clear HT
      go_wp2
      go_roundw
      case rel =>
       refine⟨p+1,m,oa,oc,by omega,by go_num,rfl,by omega,?_,?_⟩
       ·rw[HT2.out];exact hlen
       ·rw[HT2.out];exact HP9
      case measure=>simp[intOf];omega
     | true =>
      have HT2:Hid (dblL none (S.take (p+1+1))=dblL none (S.take (p+1))++[(a,b)]):=zh (by rw[HT.out];rfl)
      clear HT
      have HC9:Hid (∀ W,LowKept w9 w4.heap.size W→(W.cell? ⟨gb,go+p*5,none⟩=some (.int .i64 a.car)∧W.cell? ⟨gb,go+p*5+1,none⟩=some (.int .i64 a.num)∧W.cell? ⟨gb,go+p*5+2,none⟩=some (.int .i64 a.stp)∧W.cell? ⟨gb,go+p*5+3,none⟩=some (.string a.val)∧W.cell? ⟨gb,go+p*5+4,none⟩=some (.string a.sl))∧(W.cell? ⟨gb,go+(p+1)*5,none⟩=some (.int .i64 b.car)∧W.cell? ⟨gb,go+(p+1)*5+1,none⟩=some (.int .i64 b.num)∧W.cell? ⟨gb,go+(p+1)*5+2,none⟩=some (.int .i64 b.stp)∧W.cell? ⟨gb,go+(p+1)*5+3,none⟩=some (.string b.val)∧W.cell? ⟨gb,go+(p+1)*5+4,none⟩=some (.string b.sl))):=zh fun W hW =>
       ⟨HAW.out W (HP9.out.1.trans hW.2),HBW.out W (HP9.out.1.trans hW.2)⟩
      clear HAW HBW
      obtain⟨ac,an,at1,av,al⟩:=a
      obtain⟨bc,bn,bs,bv,bl⟩:=b
      simp only at HC9
      go_upto_region 9 with fail
      have HS9:Hid (LowKept w9 w4.heap.size w9.drew):=zh ⟨HP9.out.1.size,(Below.drew br0).mono HP9.out.1.size⟩
      refine wp_region_noPanic ?_
      refine wp_region_lexF [.q 0,.q 1,.q 2,.q 3,.q 4,.q 5,.q 6,.q 7,.q 8,.q 9,.q 10,.an 11,.co 11,.b 12,.q 13] (LowKept w9 w4.heap.size) (by kernel_rfl) (by kernel_rfl) (fun _ _ _ _ h=>h) LowKept.more HS9.out ?_
      iterate 11(refine wpFl_qL (v:=?_) rfl (Or.inl ⟨by rfl,?_⟩) ?_;rotate_left;(focus(intro w' hSw;obtain⟨⟨a0,a1,a2,a3,a4⟩,b0,b1,b2,b3,b4⟩:=HC9.out w' hSw;go_simp;(try with_reducible rfl);done));simp only[Act.put,zzA,zzB,zzC])
      refine wpFl_anL rfl (.cells #[.int .i64 ac,.int .i64 an,.int .i64 at1,.string av,.string al,.int .i64 bc,.int .i64 bn,.int .i64 bs,.string bv,.string bl] 45 (0,0)) (fun n=>.slice (some ⟨n,0,none⟩) 1 1) ⟨by rfl,fun w'=>?_⟩ ?_
      focus(go_simp;done)
      refine wpFl_coL rfl (.cells #[.int .i64 ac,.int .i64 an,.int .i64 at1,.string av,.string al,.int .i64 bc,.int .i64 bn,.int .i64 bs,.string bv,.string bl] 45 (0,0)) (fun n=>.slice (some ⟨n,0,none⟩) 1 1) (by rfl) (N':=[]) (by rfl) (fun ba wa hn_wa hs_wa hb_ba hz_ba=>?_)
      simp only[Act.put,zzA,zzB,zzC]
      refine wpFl_bS rfl (fun wb hnb hsb K hK=>?_)
      have HZ:=zh ((hnb.block ba (ltA hz_ba)).trans hz_ba)
      have HPb:=zh ((HP9.out.far (q_next (Below.drew br0) hn_wa)).far hnb)
      refine step_append_double _ _ w4.heap.size (.slice oa m oc) _ (⟨ac,an,at1,av,al⟩,⟨bc,bn,bs,bv,bl⟩) ba (0,0) HPb.out.2 (by rw[hlen.out];omega) HPb.out.1.size HZ.out rfl rfl rfl rfl ?_
      intro v8 wc8 hown8 hgr8
      have HPc:=zh (HPb.out.append hgr8 hown8)
      have HSc:Hid (LowKept w9 w4.heap.size wc8):=zh ⟨hsb.1,hsb.2.grown hgr8 (Nat.le_trans hsb.1 hsb.2.size) (fun j e=>OwnE.ge HPb.out.2 j e)⟩
      refine hK.out _ _ HSc.out (Nat.le_trans hsb.2.size hgr8.size) Keeps.nil ?_
      clear hK K
      obtain⟨va8,vc8,hv8⟩:=OwnD.form hown8
      rw[List.length_append,hlen.out]at hv8
      simp only[List.length_cons,List.length_nil,Nat.zero_add]at hv8
      clear hown8 hgr8 hnb hsb HZ HPb HSc hs_wa hb_ba hz_ba hn_wa
      subst hv8
      refine wpFl_qL (v:=?_) rfl (Or.inl ⟨by rfl,?_⟩) ?_
      rotate_left
      focus(intro w' hSw;go_simp;(try with_reducible rfl);done)
      simp only[Act.put,zzA,zzB,zzC]
      refine wpFl_nil ?_
      refine NoPanic.normal ?_
      go_wp2
      go_roundw
      case rel =>
       refine⟨p+1,m+1,va8,vc8,by omega,by go_num,rfl,by omega,?_,?_⟩
       ·rw[HT2.out,List.length_append,hlen.out];exact zh rfl
       ·rw[HT2.out];exact HPc
      case measure=>simp[intOf];omega
   ·have HE:Hid (dblL none (S.take (p+1))=RES):=zh (by rw[HRES.out,List.take_of_length_le (by rw[← HN.out];omega)])
    go_wp2
    go_ret
    refine⟨_,rfl,?_,q_next HB4.out hP.out.1⟩
    have h2:=hP.out.2.ds
    rw[HE.out]at h2
    exact h2
def madeN (n:Int):Nat:=if pickI n 3=0 then 4 else if pickI n 3=1 then 7 else 1
theorem madeN_or (n:Int):madeN n=1∨madeN n=4∨madeN n=7:=by
 unfold madeN
 split
 ·exact .inr (.inl rfl)
 ·split
  ·exact .inr (.inr rfl)
  ·exact .inl rfl
theorem infoCommittee:(Tryz.prog.info? 31).map (·.size)=some 1:=by kernel_rfl
def MdAt (w:World)(v:Value)(l:List ByteArray)(W:World):Prop:=Below w.heap.size w W∧W.heap[w.heap.size]?=some (.cells #[.slice none 0 0] 31 (0,0))∧W.heap[w.heap.size+1]?=some (.cells #[v] 31 (0,0))∧OwnE W w.heap.size 9 1 v (scells l)
theorem MdAt.far {w:World}{v:Value}{l:List ByteArray}{W W':World}(h:MdAt w v l W)(hb:Below W.heap.size W W'):MdAt w v l W' :=
 ⟨q_next h.1 hb,(hb.block _ (ltA h.2.1)).trans h.2.1,(hb.block _ (ltA h.2.2.1)).trans h.2.2.1,OwnE.far h.2.2.2 hb (Nat.le_refl _)⟩
theorem MdAt.at7 {w W w7:World}{v:Value}{xs:List ByteArray}(h:MdAt w v xs W){o:Obj}(hg:(W.alloc o).grownBy w7 v.ownBlock):w7.cell? ⟨w.heap.size+1,0,none⟩=some v∧w7.frozen? ⟨w.heap.size+1,0,none⟩=false:=by
 obtain⟨_,_,h3,h4⟩:=h
 have:=(hg.block (w.heap.size+1) (by have:=(ltA h3);simp;omega) (own_ne h4 h3 (fun c' e=>by cases e))).trans (alloc_at h3)
 exact⟨cell_of_row w7 _ 0 _ _ _ this,by simp[World.frozen?,this]⟩
theorem MdAt.append {w W w7:World}{v:Value}{xs:List ByteArray}(h:MdAt w v xs W){y:ByteArray}{o:Obj}(hg:(W.alloc o).grownBy w7 v.ownBlock){v':Value}(ho:OwnS w7 w.heap.size v' (xs++[y])) :
  MdAt w v' (xs++[y]) (w7.setCell ⟨w.heap.size+1,0,none⟩ v'):=by
 obtain⟨h1,h2,h3,h4⟩:=h
 have key:∀ {k:Nat} {c:Array Value},W.heap[k]?=some (.cells c 31 (0,0))→w7.heap[k]?=some (.cells c 31 (0,0)):=fun {k c} hk =>
  (hg.block k (by have:=(ltA hk);simp;omega) (own_ne h4 hk (fun c' e=>by cases e))).trans (alloc_at hk)
 have b7:Below w.heap.size w w7:=(h1.alloc h1.size o).grown hg (by have:=h1.size;simp;omega) (fun j e=>OwnE.ge h4 j e)
 have g3:=key h3
 refine⟨b7.setCell (p:=⟨w.heap.size+1,0,none⟩) (Nat.le_succ _) _,(Below.heap_setCell _ _ _ _ (by show w.heap.size≠w.heap.size+1;omega)).trans (key h2),?_,?_⟩
 ·rw[heap_setCell_same _ g3];rfl
 ·exact World.ownsRow.kept ho (grown_setCell (grown_refl _ _) ⟨w.heap.size+1,0,none⟩ (.inl rfl) _) (.inr (fun e'=>own_ne ho g3 (fun c' e=>by cases e) e'.symm))
theorem MdAt.ret {w W:World}{v:Value}{xs:List ByteArray}(h:MdAt w v xs W):SS (W.setCell ⟨w.heap.size,0,none⟩ v) v xs:=by
 have o1:OwnS (W.setCell ⟨w.heap.size,0,none⟩ v) w.heap.size v xs:=World.ownsRow.kept h.2.2.2 (grown_setCell (grown_refl _ _) ⟨w.heap.size,0,none⟩ (.inl rfl) _) (.inr (fun e'=>own_ne h.2.2.2 h.2.1 (fun c' e=>by cases e) e'.symm))
 exact OwnS.ss o1
set_option maxHeartbeats 4000000 in
set_option maxRecDepth 100000 in
theorem made19_any (n:Int)(hn:I64 n)(w:World) :
  Calls Tryz.prog 12 #[.int .i64 n] w fun e w'=>∃ v,e=.returned (.agg #[v])∧SS w' v (madeQ (madeN n))∧Below w.heap.size w w':=by
 have hr:=pickI_range n (show(0:Int) < 3 by omega)
 have HP:=zh (fun W=>pickQ_any n 3 W hn (by omega) (by omega))
 obtain⟨p,hp⟩:∃ p:Nat,pickI n 3=(p:Int):=⟨(pickI n 3).toNat,by omega⟩
 have hm:madeN n=[4,7,1].getD p 0:=by
  unfold madeN
  rw[hp]
  have:p=0∨p=1∨p=2:=by omega
  rcases this with rfl | rfl | rfl <;> rfl
 have hm7:=madeN_or n
 rw[hp]at HP hr
 have hp3:p < 3:=by omega
 generalize madeN n=m at *
 have HM:=zh hm
 clear hp hm hn hr
 have HA:Hid (MdAt w (.slice none 0 0) [] ((w.alloc (.cells #[.slice none 0 0] 31)).alloc (.cells #[.slice none 0 0] 31))):=zh ⟨(br0.alloc (Nat.le_refl _) _).alloc (by simp) _,at_past w _ _,at_second w _ _,OwnE.nil _ _ _ _⟩
 go_enter Tryz.func12,Tryz.ntmps12
 go_wp2
 go_loopw [4] (fun i wr=>∃(k:Nat) (v:Value),k≤m∧i=.int .i64 k∧Hid (MdAt w v (madeQ k) wr)) (fun i _=>m - (intOf i).toNat)
 case atStart=>exact⟨0,_,by omega,rfl,HA⟩
 case round =>
  obtain⟨k,v,hk,rfl,hA⟩:=hrel
  clear HA
  obtain⟨W2,hW2⟩:∃ W2,W2=wr.alloc (.cells #[.int .i64 4,.int .i64 7,.int .i64 1] 3):=⟨_,rfl⟩
  have HA2:Hid (MdAt w v (madeQ k) W2):=zh (by rw[hW2];exact hA.out.far (br0.alloc (Nat.le_refl _) _))
  have hc:W2.cell? ⟨wr.heap.size,p,none⟩=some (.int .i64 (m:Int)):=by
   have hh:W2.heap[wr.heap.size]?=some (.cells #[.int .i64 4,.int .i64 7,.int .i64 1] 3 (0,0)):=by rw[hW2];exact heap_alloc_new wr _
   rw[cell_of_row W2 _ _ _ _ _ hh,HM.out]
   have:p=0∨p=1∨p=2:=by omega
   rcases this with rfl | rfl | rfl <;> rfl
  have hsz:wr.heap.size < W2.heap.size:=by rw[hW2];simp
  have HW2:=zh hW2
  have hp0:(0:Int)≤(p:Int):=by omega
  have hp3':(p:Int) < 3:=by omega
  clear hW2 hA
  by_cases hlt:k < m
  ·have hltI:(k:Int) < (m:Int):=by omega
   go_upto_region 5 with(go_at_call 54;rw[← HW2.out];(with_reducible refine(HP.out _).mono ?_);rintro e w3 ⟨rfl,hw3⟩;replace hw3:=hw3.symm;subst hw3)
   have HE:=zh (fun W=>keyQ_any k (by omega) W)
   have HT:Hid (madeQ (k+1)=madeQ k++[keyQ k]):=zh (by unfold madeQ;rw[List.range_succ,List.map_append];rfl)
   have hXl:(madeQ k).length≤12:=by rw[madeQ_len];omega
   obtain⟨XS,hXS⟩:∃ XS,XS=madeQ k:=⟨_,rfl⟩
   rw[← hXS]at HA2 HT hXl
   generalize keyQ k=E at *
   have HCL:Hid ((scells XS).length=XS.length):=zh (by unfold scells;rw[List.length_map])
   obtain⟨i0,hi0,hz0,hz1,hz2⟩:=info_parts infoStr
   have c1:W2.cell? ⟨w.heap.size+1,0,none⟩=some v:=cell_of_row W2 _ 0 _ _ _ HA2.out.2.2.1
   have hsw:w.heap.size+1 < W2.heap.size:=(ltA HA2.out.2.2.1)
   clear hc hsz HW2 hXS
   go_region_law (first | (go_simp;go_at_call 25;refine(HE.out _).mono ?_;rintro e w5 ⟨rfl,hb5⟩;have HA5:=zh (HA2.out.far (undrew hb5));have hs5:w.heap.size+1 < w5.heap.size:=(ltA HA5.out.2.2.1);have c5:w5.cell? ⟨w.heap.size+1,0,none⟩=some v:=cell_of_row w5 _ 0 _ _ _ HA5.out.2.2.1;have HOA:=zh (OwnE.alloc HA5.out.2.2.2 (.cells #[.string E] 9));have HNW:=zh (World.news_of_block (w:=w5.alloc (.cells #[.string E] 9)) (heap_alloc_new w5 (.cells [Value.string E].toArray 9)));have HSZ:=zh (size_al w5 (.cells #[.string E] 9) HA5.out.1.size);clear hb5) | (refine step_append_lies _ rfl (.tmp 15) (.tmp 18) 29 rfl w.heap.size 9 i0 _ 1 16 (by kernel_rfl) hi0 hz0 hz1 hz2 rfl (by decide) v (scells XS).length (scells XS).flatten rfl HOA.out ⟨w5.heap.size,0,none⟩ 1 1 _ rfl rfl HNW.out (fun u hu=>by simp at hu;subst hu;rfl) (by decide) (by rw[HCL.out];unfold maxLen;omega) (by rw[HCL.out];omega) HSZ.out _ rfl ?_;intro g7 cap7 w7 hown7 hgrow7 hat7 hlt7;obtain⟨u4,uf⟩:=HA5.out.at7 hgrow7;have HSN:=zh (HA5.out.append hgrow7 (ownS_snoc hown7));clear hown7 hgrow7 hat7 hlt7))
   all_goals
    clear u4 uf
    go_wp2
    go_roundw
    case rel =>
     refine⟨k+1,.slice (some ⟨g7,0,none⟩) ((scells XS).length+1) cap7,by omega,by go_num,?_⟩
     rw[HT.out]
     exact HSN
    case measure=>simp[intOf];omega
  ·obtain rfl:k=m:=by omega
   obtain⟨va,vc,hv⟩:=OwnE.form HA2.out.2.2.2
   subst hv
   have z0:=cell_of_row W2 _ 0 _ _ _ HA2.out.2.1
   have c0:=cell_of_row W2 _ 0 _ _ _ HA2.out.2.2.1
   have zf:∀ j,W2.frozen? ⟨w.heap.size,j,none⟩=false:=fun j=>by unfold World.frozen?;rw[HA2.out.2.1];simp
   generalize (scells (madeQ k)).length=L at *
   go_wp2_with (go_at_call 54;rw[← HW2.out];(with_reducible refine(HP.out _).mono ?_);rintro e w3 ⟨rfl,hw3⟩;replace hw3:=hw3.symm;subst hw3)
   refine bodyPost_ret (results_cell_row rfl _ _ w.heap.size 31 #[.slice va L vc] (0,0) _ rfl (heap_setCell_same (i:=0) _ HA2.out.2.1) Tryz.underlying31 rfl infoCommittee) rfl ⟨_,rfl,HA2.out.ret,HA2.out.1.setCell (p:=⟨w.heap.size,0,none⟩) (Nat.le_refl _) _⟩
def castL (i:Nat)(num stp:Int)(val:ByteArray):VoteP:=(castV (keyQ i) (i:Int) num stp val []).getD ⟨0,0,0,⟨#[]⟩,⟨#[]⟩⟩
theorem castR_is (o:Option VoteP):∃ c,castR o=.tuple #[vagg (o.getD ⟨0,0,0,⟨#[]⟩,⟨#[]⟩⟩),.int .i64 c]:=by
 cases o with
 | none=>exact⟨190,rfl⟩
 | some v=>exact⟨0,rfl⟩
set_option maxHeartbeats 4000000 in
set_option maxRecDepth 100000 in
theorem castL_any (i:Nat)(hi:i < 256)(num stp:Int)(val:ByteArray)(w:World)(he:Env w)(hg:3 < w.heap.size) :
  Calls Tryz.prog 43 #[.int .i64 i,.agg #[.int .i64 num,.int .i64 stp],.string val] w fun e w'=>e=.returned (vagg (castL i num stp val))∧Below w.heap.size w w':=by
 obtain⟨W1,hW1⟩:∃ W1,W1=(w.alloc (.cells #[.int .i64 num,.int .i64 stp] 25)).alloc (.cells #[.int .i64 0,.int .i64 0,.int .i64 0,.string ⟨#[]⟩,.string ⟨#[]⟩] 27):=⟨_,rfl⟩
 have HB1:Hid (Below w.heap.size w W1):=zh (by rw[hW1];exact(br0.alloc (Nat.le_refl _) _).alloc (by simp) _)
 have hs1:w.heap.size+1 < W1.heap.size:=by rw[hW1];simp
 have HH0:Hid (W1.heap[w.heap.size]?=some (.cells #[.int .i64 num,.int .i64 stp] 25 (0,0))):=zh (by rw[hW1];exact at_past w _ _)
 have HH1:Hid (W1.heap[w.heap.size+1]?=some (.cells #[.int .i64 0,.int .i64 0,.int .i64 0,.string ⟨#[]⟩,.string ⟨#[]⟩] 27 (0,0))):=zh (by rw[hW1];exact at_second w _ _)
 have HCL:Hid (∀ W,Below W1.heap.size W1 W→W.cell? ⟨w.heap.size,0,none⟩=some (.int .i64 num)∧W.cell? ⟨w.heap.size,1,none⟩=some (.int .i64 stp)):=zh fun W hW =>
  ⟨cell_of_row W _ 0 _ _ _ ((hW.block _ (by omega)).trans HH0.out),cell_of_row W _ 1 _ _ _ ((hW.block _ (by omega)).trans HH0.out)⟩
 obtain⟨code,hcode⟩:=castR_is (castV (keyQ i) (i:Int) num stp val [])
 have HK:Hid (∀ W,Calls Tryz.prog 25 #[.int .i64 i] W fun e w'=>e=.returned (.string (keyQ i))∧Below W.heap.size W w'):=zh fun W=>keyQ_any i hi W
 have HC:Hid (∀ W,Below W1.heap.size W1 W→Calls Tryz.prog 23 #[.string (keyQ i),.int .i64 i,.slice none 0 0,.agg #[.int .i64 num,.int .i64 stp],.string val] W fun e w'=>e=.returned (.tuple #[vagg (castL i num stp val),.int .i64 code])∧Below W.heap.size W w'):=zh fun W hW=>by
  have hBW:=HB1.out.trans (hW.mono HB1.out.size)
  have h:=cast_any (keyQ i) i num stp val (VS.nil W) (by rw[keyQ_size];decide) (he.below hBW hg) (Nat.lt_of_lt_of_le hg hBW.size)
  rw[hcode]at h
  exact h
 have HW1:=zh hW1
 generalize castL i num stp val=v at *
 generalize keyQ i=key at *
 clear hW1 hcode he hg
 obtain⟨vc,vn,vs,vv,vl⟩:=v
 unfold vagg at HC ⊢
 simp only at HC ⊢
 go_enter Tryz.func43,Tryz.ntmps43
 go_upto_region 1 with fail
 rw[← HW1.out]
 refine wp_region_noPanic ?_
 refine wp_region_lexB [.q 0,.q 2,.q 3,.q 4,.an 9,.b 1,.b 5,.q 6,.q 7,.q 8,.co 9,.b 10,.q 11] (by kernel_rfl) (by kernel_rfl) (fun _ _ _ _ h=>h) ?_
 iterate 4(refine wpFl_qL (v:=?_) rfl (Or.inl ⟨by rfl,?_⟩) ?_;rotate_left;(focus(intro w' hSw;obtain⟨s0,s1⟩:=HCL.out w' hSw;go_simp;(try with_reducible rfl);done));simp only[Act.put,zzA,zzB,zzC])
 refine wpFl_anL rfl (.cells #[.int .i64 0,.int .i64 0,.int .i64 0,.string ⟨#[]⟩,.string ⟨#[]⟩] 27 (0,0)) (fun n=>.pointer (some ⟨n,0,none⟩)) ⟨by rfl,fun w'=>?_⟩ ?_
 focus(go_simp;done)
 refine wpFl_bL rfl (fun wa hna hsa K hK=>?_)
 go_simp
 go_at_call 25
 refine(HK.out wa).mono ?_
 rintro e wb ⟨rfl,hb⟩
 refine hK.out _ _ (q_next hsa hb) (Keeps.below hb) ?_
 clear hK K hna hsa hb
 refine wpFl_bL rfl (fun wc hnc hsc K hK=>?_)
 go_simp
 go_at_call 23
 refine(HC.out wc hsc).mono ?_
 rintro e wd ⟨rfl,hb⟩
 refine hK.out _ _ (q_next hsc hb) (Keeps.below hb) ?_
 clear hK K hnc hsc hb
 iterate 3(refine wpFl_qL (v:=?_) rfl (Or.inl ⟨by rfl,?_⟩) ?_;rotate_left;(focus(intro w' hSw;go_simp;(try with_reducible rfl);done));simp only[Act.put,zzA,zzB,zzC])
 refine wpFl_coL rfl (.cells #[.int .i64 0,.int .i64 0,.int .i64 0,.string ⟨#[]⟩,.string ⟨#[]⟩] 27 (0,0)) (fun n=>.pointer (some ⟨n,0,none⟩)) (by rfl) (N':=[]) (by rfl) (fun bv we hn_we hs_we hb_bv hz_bv=>?_)
 simp only[Act.put,zzA,zzB,zzC]
 refine wpFl_bL rfl (fun wf hnf hsf K hK=>?_)
 have HZ:=zh ((hnf.block bv (ltA hz_bv)).trans hz_bv)
 obtain⟨z0,z1,z2,z3,z4⟩:=vcellsAt HZ.out
 have zf:∀ j,wf.frozen? ⟨bv,j,none⟩=false:=fun j=>by unfold World.frozen?;rw[HZ.out];simp
 go_simp
 refine hK.out _ _ (vfive_below hsf hb_bv _ _ _ _ _) Keeps.nil ?_
 clear hK K
 have HV:=zh (vfive_heap HZ.out (.int .i64 vc) (.int .i64 vn) (.int .i64 vs) (.string vv) (.string vl))
 have HB9:=zh (vfive_below hsf hb_bv (.int .i64 vc) (.int .i64 vn) (.int .i64 vs) (.string vv) (.string vl))
 generalize (((((wf.setCell ⟨bv,0,none⟩ (.int .i64 vc)).setCell ⟨bv,1,none⟩ (.int .i64 vn)).setCell ⟨bv,2,none⟩ (.int .i64 vs)).setCell ⟨bv,3,none⟩ (.string vv)).setCell ⟨bv,4,none⟩ (.string vl))=wg at *
 clear z0 z1 z2 z3 z4 zf HZ hnf hsf hb_bv hz_bv hn_we hs_we
 refine wpFl_qL (v:=?_) rfl (Or.inl ⟨by rfl,?_⟩) ?_
 rotate_left
 focus(intro w' hSw;go_simp;(try with_reducible rfl);done)
 simp only[Act.put,zzA,zzB,zzC]
 refine wpFl_nil ?_
 refine NoPanic.normal ?_
 have HR:=zh ((HB9.out.block (w.heap.size+1) hs1).trans HH1.out)
 obtain⟨z0,z1,z2,z3,z4⟩:=vcellsAt HR.out
 obtain⟨v0,v1,v2,v3,v4⟩:=vcellsAt HV.out
 have zf:∀ j,wg.frozen? ⟨w.heap.size+1,j,none⟩=false:=fun j=>by unfold World.frozen?;rw[HR.out];simp
 have HBw:=zh (HB1.out.trans (HB9.out.mono HB1.out.size))
 go_wp2
 exact bodyPost_ret (results_cell_row rfl _ _ (w.heap.size+1) 27 #[.int .i64 vc,.int .i64 vn,.int .i64 vs,.string vv,.string vl] (0,0) _ rfl (vfive_heap HR.out _ _ _ _ _) Tryz.underlying27 rfl infoVote) rfl ⟨rfl,vfive_below HBw.out (by omega) _ _ _ _ _⟩
theorem castL_vS (i:Nat)(hi:i < 4)(v:ByteArray)(hv:v.size=32):castL i 55 0 v=vS (madeQ 4) v i:=by
 have e:keyQ i=(madeQ 4).getD i ⟨#[]⟩:=(madeQ_get hi).symm
 unfold castL
 rw[e,s_cast (madeQ_valid (.inr (.inl rfl))) (madeQ_len 4) (valQ_size 1) (valQ_size 0) val10 i v hi hv [] rfl (by rw[← e];rfl)]
 rfl
theorem five_votes {w:World}{b:Nat}{v1 v2 v3 v4 v5:VoteP}(h:w.heap[b]?=some (.cells (vcells v1++vcells v2++vcells v3++vcells v4++vcells v5).toArray 27 (0,0))):VS w (.slice (some ⟨b,0,none⟩) 5 5) [v1,v2,v3,v4,v5]:=by
 refine⟨_,5,rfl,Nat.le_refl _,by decide,.inr ⟨b,0,rfl,(ltA h),fun i cs hi j u hj=>?_⟩⟩
 have hc:∀ k x,(vcells v1++vcells v2++vcells v3++vcells v4++vcells v5)[k]?=some x→w.cell? ⟨b,k,none⟩=some x:=fun k x hx=>by
  rw[cell_of_row w _ k _ _ _ h,List.getElem?_toArray]
  exact hx
 have hj5:j < cs.length:=(List.getElem?_eq_some_iff.1 hj).1
 match i,hi with
 | 0,hi=>cases hi;match j,hj with
  | 0,hj=>exact hc 0 _ hj
  | 1,hj=>exact hc 1 _ hj
  | 2,hj=>exact hc 2 _ hj
  | 3,hj=>exact hc 3 _ hj
  | 4,hj=>exact hc 4 _ hj
 | 1,hi=>cases hi;match j,hj with
  | 0,hj=>exact hc 5 _ hj
  | 1,hj=>exact hc 6 _ hj
  | 2,hj=>exact hc 7 _ hj
  | 3,hj=>exact hc 8 _ hj
  | 4,hj=>exact hc 9 _ hj
 | 2,hi=>cases hi;match j,hj with
  | 0,hj=>exact hc 10 _ hj
  | 1,hj=>exact hc 11 _ hj
  | 2,hj=>exact hc 12 _ hj
  | 3,hj=>exact hc 13 _ hj
  | 4,hj=>exact hc 14 _ hj
 | 3,hi=>cases hi;match j,hj with
  | 0,hj=>exact hc 15 _ hj
  | 1,hj=>exact hc 16 _ hj
  | 2,hj=>exact hc 17 _ hj
  | 3,hj=>exact hc 18 _ hj
  | 4,hj=>exact hc 19 _ hj
 | 4,hi=>cases hi;match j,hj with
  | 0,hj=>exact hc 20 _ hj
  | 1,hj=>exact hc 21 _ hj
  | 2,hj=>exact hc 22 _ hj
  | 3,hj=>exact hc 23 _ hj
  | 4,hj=>exact hc 24 _ hj
theorem three_votes {w:World}{b:Nat}{v1 v2 v3:VoteP}(h:w.heap[b]?=some (.cells (vcells v1++vcells v2++vcells v3).toArray 27 (0,0))):VS w (.slice (some ⟨b,0,none⟩) 3 3) [v1,v2,v3]:=by
 refine⟨_,3,rfl,Nat.le_refl _,by decide,.inr ⟨b,0,rfl,(ltA h),fun i cs hi j u hj=>?_⟩⟩
 have hc:∀ k x,(vcells v1++vcells v2++vcells v3)[k]?=some x→w.cell? ⟨b,k,none⟩=some x:=fun k x hx=>by
  rw[cell_of_row w _ k _ _ _ h,List.getElem?_toArray]
  exact hx
 have hj5:j < cs.length:=(List.getElem?_eq_some_iff.1 hj).1
 match i,hi with
 | 0,hi=>cases hi;match j,hj with
  | 0,hj=>exact hc 0 _ hj
  | 1,hj=>exact hc 1 _ hj
  | 2,hj=>exact hc 2 _ hj
  | 3,hj=>exact hc 3 _ hj
  | 4,hj=>exact hc 4 _ hj
 | 1,hi=>cases hi;match j,hj with
  | 0,hj=>exact hc 5 _ hj
  | 1,hj=>exact hc 6 _ hj
  | 2,hj=>exact hc 7 _ hj
  | 3,hj=>exact hc 8 _ hj
  | 4,hj=>exact hc 9 _ hj
 | 2,hi=>cases hi;match j,hj with
  | 0,hj=>exact hc 10 _ hj
  | 1,hj=>exact hc 11 _ hj
  | 2,hj=>exact hc 12 _ hj
  | 3,hj=>exact hc 13 _ hj
  | 4,hj=>exact hc 14 _ hj
theorem tallyV_no {ks:List ByteArray}{num stp:Int}{l:List VoteP}(h:isPool ks l=false):tallyV ks num stp l=[]:=by
 unfold tallyV
 rw[if_neg (by rw[h];decide)]
theorem tallyV_yes {ks:List ByteArray}{num stp:Int}{l:List VoteP}(h:isPool ks l=true):tallyV ks num stp l=(valsV ks num stp l).map fun u=>(u,(whoL ks num stp u l).length):=by
 unfold tallyV
 rw[if_pos h]
def TalIs (w:World)(l:List (ByteArray × Nat))(e:Ending)(w':World):Prop:=∃ v,e=.returned v∧TS w' v l∧Below w.heap.size w w'
def TlAt (w:World)(b B n:Nat)(D:DW)(x:Value)(xs:List ByteArray)(v:Value)(l:List (ByteArray × Nat))(W:World):Prop :=
 Below w.heap.size w W∧MapU W B n D∧OwnS W b x xs∧OwnT W b v l
theorem TlAt.far {w W W':World}{b B n:Nat}{D:DW}{x:Value}{xs:List ByteArray}{v:Value}{l:List (ByteArray × Nat)}(h:TlAt w b B n D x xs v l W)(hb:Below W.heap.size W W'):TlAt w b B n D x xs v l W' :=
 ⟨q_next h.1 hb,h.2.1.below hb,OwnE.far h.2.2.1 hb (Nat.le_refl _),OwnE.far h.2.2.2 hb (Nat.le_refl _)⟩
theorem TlAt.append {w W W':World}{b B n:Nat}{D:DW}{x:Value}{xs:List ByteArray}{v v':Value}{l l':List (ByteArray × Nat)}(hwb:w.heap.size≤b)(h:TlAt w b B n D x xs v l W){o:Obj}(hg:(W.alloc o).grownBy W' v.ownBlock)(ho:OwnT W' b v' l'):TlAt w b B n D x xs v' l' W':=by
 have hmb:some B≠v.ownBlock:=fun e=>by
  rcases h.2.2.2.2 with⟨rfl,_⟩ | ⟨g,cap,cur,rfl,_,hg,_⟩
  ·simp[Value.ownBlock]at e
  ·have e':B=g:=by simpa [Value.ownBlock]using e
   obtain⟨es,clock,hb,_⟩:=h.2.1
   rw[e',hg]at hb
   cases hb
 refine⟨(h.1.alloc h.1.size o).grown hg (by have:=h.1.size;simp;omega) (fun j e=>Nat.le_trans hwb (OwnE.ge h.2.2.2 j e)),?_,?_,ho⟩
 ·exact World.ownsMap.kept (World.ownsMap.kept h.2.1 (World.grownBy_alloc W o none) (by simp)) hg hmb
 ·exact OwnE.other (OwnE.alloc h.2.2.2 o) (OwnE.alloc h.2.2.1 o) (by decide) hg
set_option maxHeartbeats 8000000 in
set_option maxRecDepth 100000 in
theorem tallies_any {w:World}{kv x:Value}{ks:List ByteArray}{l:List VoteP}(hr:SS w kv ks)(hl:VS w x l)(num stp:Int)(he:Env w)(hg:3 < w.heap.size) :
  Calls Tryz.prog 38 #[.agg #[kv],.agg #[.int .i64 num,.int .i64 stp],x] w (TalIs w (tallyV ks num stp l)):=by
 obtain⟨ka,kcap,rfl,kl1,kl2,kl3⟩:=hr.opened
 obtain⟨a,cap,rfl,_,_,_⟩:=hl.opened
 obtain⟨W2,hW2⟩:∃ W2,W2=(w.alloc (.cells #[.slice ka ks.length kcap] 31)).alloc (.cells #[.int .i64 num,.int .i64 stp] 25):=⟨_,rfl⟩
 have HP2:Hid (PrAt w (.slice ka ks.length kcap) num stp (.slice none 0 0) [] W2):=zh ⟨by rw[hW2];exact(br0.alloc (Nat.le_refl _) _).alloc (by simp) _,by rw[hW2];exact at_past w _ _,by rw[hW2];exact at_second w _ _,OwnE.nil _ _ _ _⟩
 have HR:=zh hr
 have HL:=zh hl
 have HE:=zh he
 have HG:=zh hg
 have HIP:=zh (isPool_any (HR.out.below HP2.out.1) (HL.out.below HP2.out.1))
 have HW2:=zh hW2
 clear hr hl he hg hW2 kl3
 obtain⟨c0,c1,c2⟩:=HP2.out.cells
 cases hip:isPool ks l with
 | false =>
  have HRes:=zh (tallyV_no (num:=num) (stp:=stp) hip)
  rw[hip]at HIP
  rw[HRes.out]
  clear hip HRes
  go_enter Tryz.func38,Tryz.ntmps38
  go_upto_region 1 with fail
  rw[← HW2.out]
  go_wp2_with (go_at_call 76;refine HIP.out.mono ?_;rintro e w1 ⟨rfl,hb1⟩)
  go_ret
  exact⟨_,rfl,TS.nil _,q_next HP2.out.1 hb1⟩
 | true =>
  rw[hip]at HIP
  have hvc:validC ks=true:=by unfold isPool at hip;rw[Bool.and_eq_true]at hip;exact hip.1
  have HKS:=zh (valid_sizes hvc)
  have hk8:ks.length≤8:=by have:=valid_le hvc;omega
  have HK8:=zh hk8
  have HRes:=zh (tallyV_yes (num:=num) (stp:=stp) hip)
  have hl60:l.length≤60:=by
   unfold isPool at hip
   rw[Bool.and_eq_true]at hip
   exact of_decide_eq_true hip.2
  clear hip hvc
  go_enter Tryz.func38,Tryz.ntmps38
  go_upto_region 1 with fail
  rw[← HW2.out]
  go_upto_region 3 with(go_at_call 76;refine HIP.out.mono ?_;rintro e w1 ⟨rfl,hb1⟩)
  have HP3:=zh (HP2.out.far hb1)
  clear hb1 c0 c1 c2 HIP
  obtain⟨c0,c1,c2⟩:=HP3.out.cells
  go_wp2_with fail
  refine(votes_any (HR.out.below HP3.out.1) HKS.out (HL.out.below HP3.out.1) num stp (HE.out.below HP3.out.1 HG.out) (Nat.lt_of_lt_of_le HG.out HP3.out.1.size)).mono ?_
  rintro e w3 ⟨B,mm,D,rfl,hM,hRd,hBge,hb3⟩
  have HB3:=zh (q_next HP3.out.1 hb3)
  have HM3:=zh hM
  have HRD:=zh hRd
  clear hM hRd hb3 c0 c1 c2 HP3 HP2 HW2
  go_wp2_with fail
  refine(keysU_any _ _).mono ?_
  rintro e w4 ⟨rfl,hw4⟩
  have HB4:Hid (Below w3.heap.size w3 w4):=zh (by rw[hw4];exact br0.alloc (Nat.le_refl _) _)
  have hc4:w4.cell? ⟨w3.heap.size,0,none⟩=some (.map (some B)):=cell_of_row w4 _ 0 _ _ _ (by rw[hw4];exact heap_alloc_new w3 _)
  have hs4:w3.heap.size < w4.heap.size:=by rw[hw4];simp
  clear hw4
  have HSO:=zh (sortedU_any HK8.out hc4 hs4 (HM3.out.below HB4.out) (by omega) HRD.out)
  clear hc4
  go_wp2_with fail
  refine HSO.out.mono ?_
  rintro e w5 ⟨sv,rfl,hos,hb5⟩
  obtain⟨xs,hxs⟩:∃ xs,xs=valsV ks num stp l:=⟨_,rfl⟩
  rw[← hxs]at hos
  obtain⟨sa,sc,hsv⟩:=OwnE.form hos
  have hlx:(scells xs).length=xs.length:=by unfold scells;rw[List.length_map]
  rw[hlx]at hsv
  subst hsv
  have hx60:xs.length≤60:=by rw[hxs];exact Nat.le_trans (valsV_len _ _ _ _) hl60
  obtain⟨n,hn⟩:∃ n,n=xs.length:=⟨_,rfl⟩
  rw[← hn]at hos hx60 ⊢
  have HXS:=zh hxs
  have HN:=zh hn
  have hwb:w.heap.size≤w4.heap.size:=Nat.le_trans HB3.out.size (Nat.le_of_lt hs4)
  have HT0:Hid (TlAt w w4.heap.size B mm D (.slice sa n sc) xs (.slice none 0 0) [] w5):=zh ⟨q_next (q_next HB3.out HB4.out) hb5,(HM3.out.below HB4.out).below hb5,hos,OwnE.nil _ _ _ _⟩
  clear hos hb5 hxs hn HSO HB4 HM3 HB3 hs4 hlx
  go_wp2
  go_loopw [8,23] (fun out i wr=>∃(k:Nat) (va:Option Addr) (vc:Nat),k≤n∧i=.int .i64 k∧out=.slice va k vc∧Hid (TlAt w w4.heap.size B mm D (.slice sa n sc) xs (.slice va k vc) ((xs.take k).map fun u=>(u,(whoL ks num stp u l).length)) wr)) (fun _ i _=>n - (intOf i).toNat)
  case atStart=>exact⟨0,none,0,by omega,rfl,rfl,HT0⟩
  case round =>
   obtain⟨k,va,vc,hk,rfl,rfl,hP⟩:=hrel
   by_cases hlt:k < n
   ·obtain⟨y,ey⟩:∃ y,xs[k]?=some y:=⟨_,List.getElem?_eq_getElem (by rw[← HN.out];exact hlt)⟩
    have hss:SS wr (.slice sa n sc) xs:=OwnE.slice hP.out.2.2.1 (scells_one xs)
    obtain⟨a2,c2,e2,_,_,h3⟩:=hss.opened
    obtain⟨b',o',hbo,hb',d0⟩:=h3 k y ey
    have he1:sa=some ⟨b',o',none⟩:=by
     injection e2 with e3 _ _
     rw[e3]
     exact hbo
    subst he1
    have hmem:y∈valsV ks num stp l:=by rw[← HXS.out];exact List.mem_of_getElem? ey
    obtain⟨i0,hi0⟩:=valsV_mem.1 hmem
    have hy32:y.size=32:=(gen_facts (who_gen hi0)).2.2.2.2
    have hlk:=MapU.look hP.out.2.1 HRD.out y (by rw[hy32];decide)
    have hM256:=mask_lt ks num stp y l 0 (by decide)
    have HON:=zh (fun W=>onesU_any (maskV ks num stp y l 0) W hM256)
    rw[mask_who HK8.out num stp y l]at HON
    have HTK:Hid (((xs.take (k+1)).map fun u=>(u,(whoL ks num stp u l).length))=((xs.take k).map fun u=>(u,(whoL ks num stp u l).length))++[(y,(whoL ks num stp y l).length)]):=zh (by
     rw[take_snocQ ey,List.map_append]
     rfl)
    have hln:((xs.take k).map fun u=>(u,(whoL ks num stp u l).length)).length=k:=by
     rw[List.length_map,List.length_take,← HN.out]
     omega
    generalize maskV ks num stp y l 0=M at *
    generalize (whoL ks num stp y l).length=Wn at *
    clear hss e2 h3 hbo hb' ey hmem hi0 hM256
    have hk0:(k:Int) < (n:Int):=by omega
    go_wp2_with (first | (go_at_call 78;refine(HON.out _).mono ?_;rintro e w6 ⟨rfl,rfl⟩) | (at_builtin;refine wpList_append_tally (.tmp 27) (.tmp 34) w4.heap.size (.slice va k vc) _ (y,Wn) wr.heap.size (0,0) (OwnE.alloc hP.out.2.2.2 _) (by rw[hln];omega) (by have h1:=hP.out.1.size;have h2:=OwnE.ge hP.out.2.2.1 b' rfl;have h3:=(World.ownsRow.lt hP.out.2.2.1 b' rfl).2;simp;omega) (heap_alloc_new _ _) rfl rfl rfl rfl ?_;intro v9 w9 ho9 hg9;have HP9:=zh (hP.out.append hwb hg9 ho9);clear hg9;obtain⟨va9,vc9,hv9⟩:=ho9.form;rw[List.length_append,hln]at hv9;simp only[List.length_cons,List.length_nil,Nat.zero_add]at hv9;clear ho9;subst hv9))
    go_roundw
    case rel =>
     refine⟨k+1,va9,vc9,by omega,by go_num,rfl,?_⟩
     rw[HTK.out]
     exact HP9
    case measure=>simp[intOf];omega
   ·obtain rfl:k=n:=by omega
    go_wp2
    go_ret
    refine⟨_,rfl,?_,hP.out.1⟩
    have h1:=hP.out.2.2.2.ts
    rw[HRes.out,← HXS.out]
    rw[HN.out,List.take_length]at h1
    rw[HN.out]
    exact h1
end Go.Proofs.YtggdcnjaofflbaaGreatDoor
