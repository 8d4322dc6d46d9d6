/- Walk of package quorum: Doubles. The conditions: what the slices read as, lengths of keys, the table of constants. -/
import Derived.Test.YtggdcnjaofflbaaGreatDoorMM25
namespace Go.Proofs.YtggdcnjaofflbaaGreatDoor
open Go.RowKit Go.BigFrame
theorem insV_len (x:VoteP):∀ L:List VoteP,(insV x L).length≤L.length+1
 | []=>Nat.le_refl _
 | a::l=>by
  have ih:=insV_len x l
  unfold insV
  split
  ·simp only[List.length_cons];omega
  ·split
   ·simp only[List.length_cons];omega
   ·simp only[List.length_cons];omega
theorem insVs_len:∀(xs L:List VoteP),(insVs L xs).length≤L.length+xs.length
 | [],L=>Nat.le_refl _
 | x::xs,L=>by
  have h1:=insV_len x L
  have h2:=insVs_len xs (insV x L)
  unfold insVs
  simp only[List.length_cons]
  omega
theorem sortedV_len (ks:List ByteArray)(l:List VoteP):(sortedV ks l).length≤l.length:=by
 have h:=insVs_len (l.filter (genV ks)) []
 have h2:=List.length_filter_le (genV ks) l
 unfold sortedV
 simp only[List.length_nil]at h
 omega
theorem dblL_snoc (a b:VoteP):∀(l:List VoteP) (p:Option VoteP),dblL p (l++[a,b])=dblL p (l++[a])++(if oneV a b=true∧(∀ q,(l.getLast?).or p=some q→oneV q b=false)then[(a,b)]else[])
 | [],p=>by
  show(if _ then _ else _)++[]=[]++_
  rw[List.append_nil,List.nil_append]
  rfl
 | x::l,p=>by
  have ih:=dblL_snoc a b l (some x)
  have e:(l.getLast?).or (some x)=((x::l).getLast?).or p:=by
   cases l with
   | nil=>rfl
   | cons y t=>rw[List.getLast?_cons_cons];cases h:(y::t).getLast? with
    | none=>simp at h
    | some z=>rfl
  rw[e]at ih
  cases l with
  | nil =>
   show(if _ then _ else _)++dblL (some x) ([]++[a,b])=(if _ then _ else _)++dblL (some x) ([]++[a])++_
   rw[ih,List.append_assoc]
  | cons y t =>
   show(if _ then _ else _)++dblL (some x) ((y::t)++[a,b])=(if _ then _ else _)++dblL (some x) ((y::t)++[a])++_
   rw[ih,List.append_assoc]
theorem dblL_one (L:List VoteP):dblL none (L.take 1)=[]:=by
 cases L with
 | nil=>rfl
 | cons a l=>rfl
def dblC (L:List VoteP)(p:Nat)(a b:VoteP):Bool:=oneV a b && (decide (p=0) || !((L[p - 1]?).any fun q=>oneV q b))
theorem dblL_take {L:List VoteP}{p:Nat}{a b:VoteP}(ha:L[p]?=some a)(hb:L[p+1]?=some b):dblL none (L.take (p+1+1))=dblL none (L.take (p+1))++(if dblC L p a b=true then[(a,b)]else[]):=by
 have e1:L.take (p+1)=L.take p++[a]:=by rw[List.take_add_one,ha];rfl
 have e2:L.take (p+1+1)=L.take p++[a,b]:=by rw[List.take_add_one,hb,e1];simp
 rw[e1,e2,dblL_snoc]
 refine congrArg _ ?_
 have hp:=(List.getElem?_eq_some_iff.1 ha).1
 have e3:dblC L p a b=true ↔ (oneV a b=true∧∀ q,((L.take p).getLast?).or none=some q→oneV q b=false):=by
  unfold dblC
  rw[Bool.and_eq_true,Bool.or_eq_true,decide_eq_true_iff]
  refine and_congr_right fun _=>?_
  rw[Option.or_none,List.getLast?_eq_getElem?,List.length_take,Nat.min_eq_left (Nat.le_of_lt hp)]
  cases p with
  | zero=>simp
  | succ m =>
   rw[List.getElem?_take_of_lt (by omega)]
   simp only[Nat.add_sub_cancel]
   cases hm:L[m]? with
   | none=>simp
   | some q=>simp
 by_cases h:dblC L p a b=true
 ·rw[if_pos h,if_pos (e3.1 h)]
 ·rw[if_neg h,if_neg (fun h'=>h (e3.2 h'))]
theorem VS.here {w:World}{g o n cap:Nat}{l:List VoteP}(h:VS w (.slice (some ⟨g,o,none⟩) n cap) l){j:Nat}{y:VoteP}(hj:l[j]?=some y):g < w.heap.size∧VAt w g (o+j*5) y:=by
 obtain⟨a2,c2,e2,_,_,h3⟩:=h.opened
 obtain⟨b',o',hbo,hb',d⟩:=h3 j y hj
 injection e2 with e3 _ _
 rw[← e3]at hbo
 injection hbo with hbo
 injection hbo with e4 e5 _
 subst e4 e5
 exact⟨hb',d⟩
theorem VS.addr {w:World}{va:Option Addr}{n cap:Nat}{l:List VoteP}(h:VS w (.slice va n cap) l){j:Nat}{y:VoteP}(hj:l[j]?=some y):∃ g o,va=some ⟨g,o,none⟩:=by
 obtain⟨a2,c2,e2,_,_,h3⟩:=h.opened
 obtain⟨b',o',hbo,_⟩:=h3 j y hj
 injection e2 with e3 _ _
 exact⟨b',o',e3.trans hbo⟩
def DoubIs (w:World)(l:List (VoteP × VoteP))(e:Ending)(w':World):Prop:=∃ v,e=.returned v∧DS w' v l∧Below w.heap.size w w'
set_option maxHeartbeats 16000000 in
set_option maxRecDepth 100000 in
theorem doubles_any {w:World}{kv x:Value}{ks:List ByteArray}{l:List VoteP}(hr:SS w kv ks)(hks:∀ k∈ks,k.size≤1000)(hl:VS w x l)(he:Env w)(hg:3 < w.heap.size) :
  Calls Tryz.prog 35 #[.agg #[kv],x] w (DoubIs w (doublesV ks l)):=by
 obtain⟨ka,kn,kc,rfl⟩:∃ a n c,kv=.slice a n c:=by obtain⟨a,c,h,_⟩:=hr.opened;exact⟨_,_,_,h⟩
 have HS:=zh hl
 obtain⟨xa,xc,rfl,-,-,-⟩:=hl.opened
 obtain⟨W1,hW1⟩:∃ W1,W1=w.alloc (.cells #[.slice ka kn kc] 31):=⟨_,rfl⟩
 have HB1:Hid (Below w.heap.size w W1):=zh (by rw[hW1];exact br0.alloc (Nat.le_refl _) _)
 have HH1:Hid (W1.heap[w.heap.size]?=some (.cells #[.slice ka kn kc] 31 (0,0))):=zh (by rw[hW1];exact heap_alloc_new w _)
 have HPL:=zh (isPool_any (hr.below HB1.out) (HS.out.below HB1.out))
 have HSO:Hid (l.length≤60→∀ W,Below w.heap.size w W→Calls Tryz.prog 81 #[.agg #[.slice ka kn kc],.slice xa l.length xc] W fun e w'=>∃ v,e=.returned v∧OwnV w' W.heap.size v (sortedV ks l)∧Below W.heap.size W w'):=zh fun h60 W hW =>
  sorted_any (hr.below hW) hks (HS.out.below hW) (by omega) (he.below hW hg) (Nat.lt_of_lt_of_le hg hW.size)
 have HRN:Hid (isPool ks l=false→doublesV ks l=[]):=zh fun h=>by unfold doublesV;rw[if_neg (by rw[h];decide)]
 have HRY:Hid (isPool ks l=true→l.length≤60∧doublesV ks l=dblL none (sortedV ks l)∧(sortedV ks l).length≤60):=zh fun h=>by
  have h60:l.length≤60:=by
   unfold isPool at h
   rw[Bool.and_eq_true,decide_eq_true_iff]at h
   exact h.2
  exact⟨h60,by unfold doublesV;rw[if_pos h],Nat.le_trans (sortedV_len ks l) h60⟩
 have HW1:=zh hW1
 obtain⟨PL,hPL⟩:∃ PL,PL=isPool ks l:=⟨_,rfl⟩
 rw[← hPL]at HPL HRN HRY
 generalize doublesV ks l=RES at *
 generalize sortedV ks l=S at *
 generalize l.length=ln at *
 have hc1:∀ W,Below W1.heap.size W1 W→W.cell? ⟨w.heap.size,0,none⟩=some (.slice ka kn kc):=fun W hW=>cell_of_row W _ 0 _ _ _ ((hW.block _ (ltA HH1.out)).trans HH1.out)
 have HC1:=zh hc1
 have hc2:=hc1 W1 br0
 clear hr hks hl he hg hW1 hPL hc1
 cases PL with
 | false =>
  have HE:=HRN.out rfl
  subst HE
  go_enter Tryz.func35,Tryz.ntmps35
  go_upto_region 1 with fail
  rw[← HW1.out]
  go_wp2_with (go_at_call 76;refine HPL.out.mono ?_;rintro e w2 ⟨rfl,h2⟩;have H2:=zh h2;clear h2)
  go_ret
  exact⟨_,rfl,DS.nil _,q_next HB1.out H2.out⟩
 | true =>
  obtain⟨h60,hRES,hS60⟩:=HRY.out rfl
  have HRES:=zh hRES
  have HSO2:=zh (HSO.out h60)
  clear HRN HRY HSO hRES h60
  go_enter Tryz.func35,Tryz.ntmps35
  go_upto_region 1 with fail
  rw[← HW1.out]
  go_upto_region 4 with(go_at_call 76;refine HPL.out.mono ?_;rintro e w2 ⟨rfl,h2⟩)
  have H2:=zh h2
  have hc3:=HC1.out w2 h2
  clear h2 hc2
  go_upto_region 5 with(go_at_call 81;refine(HSO2.out _ (q_next HB1.out H2.out)).mono ?_;rintro e w4 ⟨v,rfl,h4,h5⟩)
  have HV:=zh (OwnV.vs h4)
  have HBL:Hid (BlAt w4 (.slice none 0 0) [] w4):=zh ⟨Below.refl _ _,OwnE.nil _ _ _ _⟩
  have HB4:=zh (q_next HB1.out (q_next H2.out h5))
  obtain⟨va,vc,hv⟩:=OwnV.form h4
  subst hv
  clear h4 h5 hc3
  obtain⟨n,hn⟩:∃ n,n=S.length:=⟨_,rfl⟩
  rw[← hn]at HV hS60 ⊢
  have HN:=zh hn
  clear hn HC1 H2 HB1 HSO2 HW1 HPL HS
  go_upto_region 6 with fail
  go_wp2
  go_loopw [5,7] (fun out i wr=>∃(p m:Nat) (oa:Option Addr) (oc:Nat),p≤n∧i=.int .i64 (p+1)∧out=.slice oa m oc∧m≤p∧Hid ((dblL none (S.take (p+1))).length=m)∧Hid (BlAt w4 (.slice oa m oc) (dblL none (S.take (p+1))) wr)) (fun _ i _=>n - (intOf i).toNat)
  case atStart=>exact⟨0,0,none,0,by omega,rfl,rfl,Nat.le_refl _,zh (by rw[dblL_one];rfl),by rw[dblL_one];exact HBL⟩
  case round =>
   obtain⟨p,m,oa,oc,hpn,rfl,rfl,hmp,hlen,hP⟩:=hrel
   by_cases hlt:p+1 < n
   ·obtain⟨b,eb⟩:∃ y,S[p+1]?=some y:=⟨_,List.getElem?_eq_getElem (by rw[← HN.out];exact hlt)⟩
    obtain⟨a,ea⟩:∃ y,S[p]?=some y:=⟨_,List.getElem?_eq_getElem (by rw[← HN.out];omega)⟩
    obtain⟨gb,go,rfl⟩:=HV.out.addr eb
    obtain⟨hgb,hvb⟩:=HV.out.here eb
    obtain⟨_,hva⟩:=HV.out.here ea
    have e1:go+(p+1)*5=go+(p+1)*5:=rfl
    have HC:Hid (∀ W,Below wr.heap.size wr W→(W.cell? ⟨gb,go+p*5,none⟩=some (.int .i64 a.car)∧W.cell? ⟨gb,go+p*5+1,none⟩=some (.int .i64 a.num)∧W.cell? ⟨gb,go+p*5+2,none⟩=some (.int .i64 a.stp)∧W.cell? ⟨gb,go+p*5+3,none⟩=some (.string a.val)∧W.cell? ⟨gb,go+p*5+4,none⟩=some (.string a.sl))∧(W.cell? ⟨gb,go+(p+1)*5,none⟩=some (.int .i64 b.car)∧W.cell? ⟨gb,go+(p+1)*5+1,none⟩=some (.int .i64 b.num)∧W.cell? ⟨gb,go+(p+1)*5+2,none⟩=some (.int .i64 b.stp)∧W.cell? ⟨gb,go+(p+1)*5+3,none⟩=some (.string b.val)∧W.cell? ⟨gb,go+(p+1)*5+4,none⟩=some (.string b.sl))):=zh fun W hW=>⟨VAt.keep hva (q_next hP.out.1 hW) hgb,VAt.keep hvb (q_next hP.out.1 hW) hgb⟩
    have HAB:=zh (fun W=>areOne_any a b W)
    have HT:=zh (dblL_take ea eb)
    have hpk0:(0:Int)≤(p:Int)+1:=by omega
    have hpk:(p:Int)+1 < (n:Int):=by omega
    have hp1:IntKind.i64.wrap ((p:Int)+1 - 1)=(p:Int):=by rw[IntWalk.i64_in _ (by omega)];omega
    have hp2:IntKind.i64.wrap (p:Int)=(p:Int):=IntWalk.i64_in _ (by omega)
    have hpn0:(0:Int)≤(p:Int):=by omega
    have hpn1:(p:Int) < (n:Int):=by omega
    have HAW:Hid (∀ W,Below w4.heap.size w4 W→VAt W gb (go+p*5) a):=zh (fun W hW=>VAt.keep hva hW hgb)
    have HBW:Hid (∀ W,Below w4.heap.size w4 W→VAt W gb (go+(p+1)*5) b):=zh (fun W hW=>VAt.keep hvb hW hgb)
    obtain⟨R,hR⟩:∃ R,R=dblC S p a b:=⟨_,rfl⟩
    rw[← hR]at HT
    have HR:=zh hR
    clear hR
    go_upto_region 8 with fail
    go_cut [47] (fun t wx=>t=.bool R∧Hid (Below wr.heap.size wr wx))
    case first =>
     clear HAW HBW HT hlen
     obtain⟨ac,an,at1,av,al⟩:=a
     obtain⟨bc,bn,bs,bv,bl⟩:=b
     simp only at HC
     unfold vagg at HAB
     simp only at HAB
     by_cases hone:oneV ⟨ac,an,at1,av,al⟩ ⟨bc,bn,bs,bv,bl⟩=true
     ·by_cases hp0:p=0
      ·have hR:R=true:=by rw[HR.out];unfold dblC;rw[hone,decide_eq_true hp0];rfl
       subst hR
       rw[hone]at HAB
       have hpe:((((p:Int)+1) == 1)=true):=by simp;omega
       clear hone hp0 HR
       refine wp_region_noPanic ?_
       refine wp_region_lexB [.q 0,.q 1,.q 2,.q 3,.q 4,.q 5,.q 6,.q 7,.q 8,.b 9,.q 10,.q 11,.q 12,.q 13,.q 14,.q 15,.q 16,.q 17,.q 18,.q 19,.q 20,.q 21,.q 22,.q 23,.q 24,.q 25,.q 26] (by kernel_rfl) (by kernel_rfl) (fun _ _ _ _ h=>h) ?_
       iterate 9(refine wpFl_qL (v:=?_) rfl (Or.inl ⟨by rfl,?_⟩) ?_;rotate_left;(focus(intro w' hSw;obtain⟨⟨a0,a1,a2,a3,a4⟩,b0,b1,b2,b3,b4⟩:=HC.out w' hSw;go_simp;(try with_reducible rfl);done));simp only[Act.put,zzA,zzB,zzC])
       refine wpFl_bL rfl (fun wa1 hna1 hsa1 K hK=>?_)
       go_simp
       go_at_call 69
       refine(HAB.out wa1).mono ?_
       rintro e wb1 ⟨rfl,hb1⟩
       have HBC1:=zh (q_next hsa1 hb1)
       refine hK.out _ _ HBC1.out (Keeps.below hb1) ?_
       clear hK K hna1 hsa1 hb1
       iterate 4(refine wpFl_qL (v:=?_) rfl (Or.inl ⟨by rfl,?_⟩) ?_;rotate_left;(focus(intro w' hSw;go_simp;(try with_reducible rfl);done));simp only[Act.put,zzA,zzB,zzC])
       iterate 11(refine wpFl_qL (v:=undef) rfl (Or.inr ⟨by rfl,rfl⟩) ?_;simp only[Act.put,zzA,zzB,zzC])
       iterate 2(refine wpFl_qL (v:=?_) rfl (Or.inl ⟨by rfl,?_⟩) ?_;rotate_left;(focus(intro w' hSw;go_simp;(try with_reducible rfl);done));simp only[Act.put,zzA,zzB,zzC])
       refine wpFl_nil ?_
       refine NoPanic.normal ?_
       go_wp2
       go_meet
       case rel=>exact⟨rfl,HBC1⟩
      ·obtain⟨r,hr⟩:∃ r,r+1=p:=⟨p - 1,by omega⟩
       obtain⟨q,eq⟩:∃ y,S[r]?=some y:=⟨_,List.getElem?_eq_getElem (by rw[← HN.out];omega)⟩
       obtain⟨_,hvq⟩:=HV.out.here eq
       have HD:Hid (∀ W,Below wr.heap.size wr W→(W.cell? ⟨gb,go+r*5,none⟩=some (.int .i64 q.car)∧W.cell? ⟨gb,go+r*5+1,none⟩=some (.int .i64 q.num)∧W.cell? ⟨gb,go+r*5+2,none⟩=some (.int .i64 q.stp)∧W.cell? ⟨gb,go+r*5+3,none⟩=some (.string q.val)∧W.cell? ⟨gb,go+r*5+4,none⟩=some (.string q.sl))∧(W.cell? ⟨gb,go+(p+1)*5,none⟩=some (.int .i64 bc)∧W.cell? ⟨gb,go+(p+1)*5+1,none⟩=some (.int .i64 bn)∧W.cell? ⟨gb,go+(p+1)*5+2,none⟩=some (.int .i64 bs)∧W.cell? ⟨gb,go+(p+1)*5+3,none⟩=some (.string bv)∧W.cell? ⟨gb,go+(p+1)*5+4,none⟩=some (.string bl))):=zh fun W hW=>⟨VAt.keep hvq (q_next hP.out.1 hW) hgb,(HC.out W hW).2⟩
       have HQB:=zh (fun W=>areOne_any q ⟨bc,bn,bs,bv,bl⟩ W)
       have hR:R=!oneV q ⟨bc,bn,bs,bv,bl⟩:=by
        rw[HR.out]
        unfold dblC
        rw[hone,decide_eq_false hp0,show p - 1=r by omega,eq]
        rfl
       obtain⟨Z,hZ⟩:∃ Z,Z=oneV q ⟨bc,bn,bs,bv,bl⟩:=⟨_,rfl⟩
       rw[← hZ]at hR HQB
       subst hR
       rw[hone]at HAB
       have hpe:((((p:Int)+1) == 1)=false):=by simp;omega
       have hr2:IntKind.i64.wrap ((p:Int)+1 - 2)=(r:Int):=by rw[IntWalk.i64_in _ (by omega)];omega
       have hr0:(0:Int)≤(r:Int):=by omega
       have hr1:(r:Int) < (n:Int):=by omega
       clear hone HR hZ hvq hr eq
       obtain⟨qc,qn,qs,qv,ql⟩:=q
       simp only at HD
       unfold vagg at HQB
       simp only at HQB
       refine wp_region_noPanic ?_
       refine wp_region_lexB [.q 0,.q 1,.q 2,.q 3,.q 4,.q 5,.q 6,.q 7,.q 8,.b 9,.q 10,.q 11,.q 12,.q 13,.q 14,.q 15,.q 16,.q 17,.q 18,.q 19,.q 20,.q 21,.q 22,.b 23,.q 24,.q 25,.q 26] (by kernel_rfl) (by kernel_rfl) (fun _ _ _ _ h=>h) ?_
       iterate 9(refine wpFl_qL (v:=?_) rfl (Or.inl ⟨by rfl,?_⟩) ?_;rotate_left;(focus(intro w' hSw;obtain⟨⟨a0,a1,a2,a3,a4⟩,b0,b1,b2,b3,b4⟩:=HC.out w' hSw;go_simp;(try with_reducible rfl);done));simp only[Act.put,zzA,zzB,zzC])
       refine wpFl_bL rfl (fun wa1 hna1 hsa1 K hK=>?_)
       go_simp
       go_at_call 69
       refine(HAB.out wa1).mono ?_
       rintro e wb1 ⟨rfl,hb1⟩
       have HBC1:=zh (q_next hsa1 hb1)
       refine hK.out _ _ HBC1.out (Keeps.below hb1) ?_
       clear hK K hna1 hsa1 hb1
       iterate 4(refine wpFl_qL (v:=?_) rfl (Or.inl ⟨by rfl,?_⟩) ?_;rotate_left;(focus(intro w' hSw;go_simp;(try with_reducible rfl);done));simp only[Act.put,zzA,zzB,zzC])
       iterate 9(refine wpFl_qL (v:=?_) rfl (Or.inl ⟨by rfl,?_⟩) ?_;rotate_left;(focus(intro w' hSw;obtain⟨⟨a0,a1,a2,a3,a4⟩,b0,b1,b2,b3,b4⟩:=HD.out w' hSw;go_simp;(try with_reducible rfl);done));simp only[Act.put,zzA,zzB,zzC])
       refine wpFl_bL rfl (fun wa2 hna2 hsa2 K hK=>?_)
       go_simp
       go_at_call 69
       refine(HQB.out wa2).mono ?_
       rintro e wb2 ⟨rfl,hb2⟩
       have HBC2:=zh (q_next hsa2 hb2)
       refine hK.out _ _ HBC2.out (Keeps.below hb2) ?_
       clear hK K hna2 hsa2 hb2
       iterate 3(refine wpFl_qL (v:=?_) rfl (Or.inl ⟨by rfl,?_⟩) ?_;rotate_left;(focus(intro w' hSw;go_simp;(try with_reducible rfl);done));simp only[Act.put,zzA,zzB,zzC])
       refine wpFl_nil ?_
       refine NoPanic.normal ?_
       go_wp2
       go_meet
       case rel=>exact⟨rfl,HBC2⟩
     ·have hR:R=false:=by rw[HR.out];unfold dblC;rw[Bool.eq_false_iff.2 hone];rfl
      subst hR
      rw[Bool.eq_false_iff.2 hone]at HAB
      clear hone HR
      refine wp_region_noPanic ?_
      refine wp_region_lexB [.q 0,.q 1,.q 2,.q 3,.q 4,.q 5,.q 6,.q 7,.q 8,.b 9,.q 10,.q 11,.q 12,.q 13,.q 14,.q 15,.q 16,.q 17,.q 18,.q 19,.q 20,.q 21,.q 22,.q 23,.q 24,.q 25,.q 26] (by kernel_rfl) (by kernel_rfl) (fun _ _ _ _ h=>h) ?_
      iterate 9(refine wpFl_qL (v:=?_) rfl (Or.inl ⟨by rfl,?_⟩) ?_;rotate_left;(focus(intro w' hSw;obtain⟨⟨a0,a1,a2,a3,a4⟩,b0,b1,b2,b3,b4⟩:=HC.out w' hSw;go_simp;(try with_reducible rfl);done));simp only[Act.put,zzA,zzB,zzC])
      refine wpFl_bL rfl (fun wa1 hna1 hsa1 K hK=>?_)
      go_simp
      go_at_call 69
      refine(HAB.out wa1).mono ?_
      rintro e wb1 ⟨rfl,hb1⟩
      have HBC1:=zh (q_next hsa1 hb1)
      refine hK.out _ _ HBC1.out (Keeps.below hb1) ?_
      clear hK K hna1 hsa1 hb1
      refine wpFl_qL (v:=?_) rfl (Or.inl ⟨by rfl,?_⟩) ?_
      rotate_left
      focus(intro w' hSw;go_simp;(try with_reducible rfl);done)
      simp only[Act.put,zzA,zzB,zzC]
      iterate 15(refine wpFl_qL (v:=undef) rfl (Or.inr ⟨by rfl,rfl⟩) ?_;simp only[Act.put,zzA,zzB,zzC])
      refine wpFl_qL (v:=?_) rfl (Or.inl ⟨by rfl,?_⟩) ?_
      rotate_left
      focus(intro w' hSw;go_simp;(try with_reducible rfl);done)
      simp only[Act.put,zzA,zzB,zzC]
      refine wpFl_nil ?_
      refine NoPanic.normal ?_
      go_wp2
      go_meet
      case rel=>exact⟨rfl,HBC1⟩
    case rest =>
     obtain⟨ht47,HB5⟩:=hcut
     subst ht47
     obtain⟨w9,hw9⟩:∃ W,W=wc:=⟨_,rfl⟩
     rw[← hw9]at HB5 ⊢
     clear hw9 wc HC HAB HR
     have HP9:Hid (BlAt w4 (.slice oa m oc) (dblL none (S.take (p+1))) w9):=zh (hP.out.far HB5.out)
     clear hP HB5
     cases R with
     | false =>
      have HT2:Hid (dblL none (S.take (p+1+1))=dblL none (S.take (p+1))):=zh (by rw[HT.out];exact List.append_nil _)
      clear HT
      go_wp2
      go_roundw
      case rel =>
       refine⟨p+1,m,oa,oc,by omega,by go_num,rfl,by omega,?_,?_⟩
       ·rw[HT2.out];exact hlen
       ·rw[HT2.out];exact HP9
      case measure=>simp[intOf];omega
     | true =>
      have HT2:Hid (dblL none (S.take (p+1+1))=dblL none (S.take (p+1))++[(a,b)]):=zh (by rw[HT.out];rfl)
      clear HT
      have HC9:Hid (∀ W,LowKept w9 w4.heap.size W→(W.cell? ⟨gb,go+p*5,none⟩=some (.int .i64 a.car)∧W.cell? ⟨gb,go+p*5+1,none⟩=some (.int .i64 a.num)∧W.cell? ⟨gb,go+p*5+2,none⟩=some (.int .i64 a.stp)∧W.cell? ⟨gb,go+p*5+3,none⟩=some (.string a.val)∧W.cell? ⟨gb,go+p*5+4,none⟩=some (.string a.sl))∧(W.cell? ⟨gb,go+(p+1)*5,none⟩=some (.int .i64 b.car)∧W.cell? ⟨gb,go+(p+1)*5+1,none⟩=some (.int .i64 b.num)∧W.cell? ⟨gb,go+(p+1)*5+2,none⟩=some (.int .i64 b.stp)∧W.cell? ⟨gb,go+(p+1)*5+3,none⟩=some (.string b.val)∧W.cell? ⟨gb,go+(p+1)*5+4,none⟩=some (.string b.sl))):=zh fun W hW =>
       ⟨HAW.out W (HP9.out.1.trans hW.2),HBW.out W (HP9.out.1.trans hW.2)⟩
      clear HAW HBW
      obtain⟨ac,an,at1,av,al⟩:=a
      obtain⟨bc,bn,bs,bv,bl⟩:=b
      simp only at HC9
      go_upto_region 9 with fail
      have HS9:Hid (LowKept w9 w4.heap.size w9.drew):=zh ⟨HP9.out.1.size,(Below.drew br0).mono HP9.out.1.size⟩
      refine wp_region_noPanic ?_
      refine wp_region_lexF [.q 0,.q 1,.q 2,.q 3,.q 4,.q 5,.q 6,.q 7,.q 8,.q 9,.q 10,.an 11,.co 11,.b 12,.q 13] (LowKept w9 w4.heap.size) (by kernel_rfl) (by kernel_rfl) (fun _ _ _ _ h=>h) LowKept.more HS9.out ?_
      iterate 11(refine wpFl_qL (v:=?_) rfl (Or.inl ⟨by rfl,?_⟩) ?_;rotate_left;(focus(intro w' hSw;obtain⟨⟨a0,a1,a2,a3,a4⟩,b0,b1,b2,b3,b4⟩:=HC9.out w' hSw;go_simp;(try with_reducible rfl);done));simp only[Act.put,zzA,zzB,zzC])
      refine wpFl_anL rfl (.cells #[.int .i64 ac,.int .i64 an,.int .i64 at1,.string av,.string al,.int .i64 bc,.int .i64 bn,.int .i64 bs,.string bv,.string bl] 45 (0,0)) (fun n=>.slice (some ⟨n,0,none⟩) 1 1) ⟨by rfl,fun w'=>?_⟩ ?_
      focus(go_simp;done)
      refine wpFl_coL rfl (.cells #[.int .i64 ac,.int .i64 an,.int .i64 at1,.string av,.string al,.int .i64 bc,.int .i64 bn,.int .i64 bs,.string bv,.string bl] 45 (0,0)) (fun n=>.slice (some ⟨n,0,none⟩) 1 1) (by rfl) (N':=[]) (by rfl) (fun ba wa hn_wa hs_wa hb_ba hz_ba=>?_)
      simp only[Act.put,zzA,zzB,zzC]
      refine wpFl_bS rfl (fun wb hnb hsb K hK=>?_)
      have HZ:=zh ((hnb.block ba (ltA hz_ba)).trans hz_ba)
      have HPb:=zh ((HP9.out.far (q_next (Below.drew br0) hn_wa)).far hnb)
      refine step_append_double _ _ w4.heap.size (.slice oa m oc) _ (⟨ac,an,at1,av,al⟩,⟨bc,bn,bs,bv,bl⟩) ba (0,0) HPb.out.2 (by rw[hlen.out];omega) HPb.out.1.size HZ.out rfl rfl rfl rfl ?_
      intro v8 wc8 hown8 hgr8
      have HPc:=zh (HPb.out.append hgr8 hown8)
      have HSc:Hid (LowKept w9 w4.heap.size wc8):=zh ⟨hsb.1,hsb.2.grown hgr8 (Nat.le_trans hsb.1 hsb.2.size) (fun j e=>OwnE.ge HPb.out.2 j e)⟩
      refine hK.out _ _ HSc.out (Nat.le_trans hsb.2.size hgr8.size) Keeps.nil ?_
      clear hK K
      obtain⟨va8,vc8,hv8⟩:=OwnD.form hown8
      rw[List.length_append,hlen.out]at hv8
      simp only[List.length_cons,List.length_nil,Nat.zero_add]at hv8
      clear hown8 hgr8 hnb hsb HZ HPb HSc hs_wa hb_ba hz_ba hn_wa
      subst hv8
      refine wpFl_qL (v:=?_) rfl (Or.inl ⟨by rfl,?_⟩) ?_
      rotate_left
      focus(intro w' hSw;go_simp;(try with_reducible rfl);done)
      simp only[Act.put,zzA,zzB,zzC]
      refine wpFl_nil ?_
      refine NoPanic.normal ?_
      go_wp2
      go_roundw
      case rel =>
       refine⟨p+1,m+1,va8,vc8,by omega,by go_num,rfl,by omega,?_,?_⟩
       ·rw[HT2.out,List.length_append,hlen.out];exact zh rfl
       ·rw[HT2.out];exact HPc
      case measure=>simp[intOf];omega
   ·have HE:Hid (dblL none (S.take (p+1))=RES):=zh (by rw[HRES.out,List.take_of_length_le (by rw[← HN.out];omega)])
    go_wp2
    go_ret
    refine⟨_,rfl,?_,q_next HB4.out hP.out.1⟩
    have h2:=hP.out.2.ds
    rw[HE.out]at h2
    exact h2
theorem neqTally (a c:ByteArray)(b d:Nat)(w:World):(binOp .neq 68 (.agg #[.string a,.int .i64 (b:Int)]) (.agg #[.string c,.int .i64 (d:Int)])).run Tryz.prog w=.ok (.bool (!decide ((a,b)=(c,d)))) w:=by
 have h1:=run_equalIn_struct (P:=Tryz.prog) w 9999 68 #[.string a,.int .i64 (b:Int)] #[.string c,.int .i64 (d:Int)] (by kernel_rfl) (by kernel_rfl)
 have e:decide ((a,b)=(c,d))=(decide (a=c) && decide (b=d)):=by
  rw[Bool.eq_iff_iff];simp
 have g1:=same_str a c
 have g2:((b:Int) == (d:Int))=decide (b=d):=by rw[Bool.eq_iff_iff];simp;omega
 rw[e,run_neq_struct,show(10000:Nat)=9999+1 from rfl,h1]
 simp only[go_sem,Program.fieldsOf]
 by_cases e1:a=c <;> by_cases e2:b=d <;> simp[go_sem,e1,e2,g1,g2]
theorem take_same {α:Type}{a b:List α}{k:Nat}{u v:α}(ha:a[k]?=some u)(hb:b[k]?=some v)(h:a.take k=b.take k)(hu:u=v):a.take (k+1)=b.take (k+1):=by
 rw[List.take_add_one,List.take_add_one,ha,hb,h,hu]
theorem take_other {α:Type}{a b:List α}{k:Nat}{u v:α}(ha:a[k]?=some u)(hb:b[k]?=some v)(hu:u≠v):a≠b:=by
 intro e
 rw[e,hb]at ha
 exact hu (Option.some.inj ha).symm
set_option maxHeartbeats 2000000 in
set_option maxRecDepth 100000 in
theorem sameV_any {w:World}{x y:Value}{a b:List VoteP}(ha:VS w x a)(hb:VS w y b):Calls Tryz.prog 49 #[x,y] w fun e w'=>e=.returned (.bool (decide (a=b)))∧Below w.heap.size w w':=by
 obtain⟨xa,xc,rfl,-,-,hx3⟩:=ha.opened
 obtain⟨ya,yc,rfl,hl1,hl2,hy3⟩:=hb.opened
 have HX3:=zh hx3
 have HY3:=zh hy3
 have hln:b.length≤9223372036854775807:=by unfold maxLen at hl2;omega
 obtain⟨R,hR⟩:∃ R,R=decide (a=b):=⟨_,rfl⟩
 rw[← hR]
 have HR:=zh hR
 clear ha hb hx3 hy3 hR
 obtain⟨n,hn⟩:∃ n,n=a.length:=⟨_,rfl⟩
 obtain⟨m,hm⟩:∃ m,m=b.length:=⟨_,rfl⟩
 rw[← hn,← hm]
 rw[← hm]at hln
 clear hl1 hl2
 have HN:=zh hn
 have HM:=zh hm
 clear hn hm
 by_cases hnm:n=m
 ·subst hnm
  have hne:((n:Int) != (n:Int))=false:=by simp
  go_enter Tryz.func49,Tryz.ntmps49
  go_wp2
  go_loopw [5] (fun i wr=>∃ k:Nat,k≤n∧i=.int .i64 k∧Hid (a.take k=b.take k)∧∃ q,wr=w.drewN q) (fun i _=>n - (intOf i).toNat)
  case atStart=>exact⟨0,by omega,rfl,zh rfl,0,rfl⟩
  case round =>
   obtain⟨k,hk,rfl,heq,q,rfl⟩:=hrel
   by_cases hlt:k < n
   ·obtain⟨u,eu⟩:∃ u,a[k]?=some u:=⟨_,List.getElem?_eq_getElem (by rw[← HN.out];exact hlt)⟩
    obtain⟨v,ev⟩:∃ u,b[k]?=some u:=⟨_,List.getElem?_eq_getElem (by rw[← HM.out];exact hlt)⟩
    obtain⟨g1,o1,rfl,hg1,c0,c1,c2,c3,c4⟩:=HX3.out k u eu
    obtain⟨g2,o2,rfl,hg2,d0,d1,d2,d3,d4⟩:=HY3.out k v ev
    have EU:=zh eu
    have EV:=zh ev
    have hk0:(0:Int)≤(k:Int):=by omega
    have hk1:(k:Int) < (n:Int):=by omega
    have HE:=zh (fun W=>neqVote u v W)
    clear eu ev
    obtain⟨z,hz⟩:∃ z,z=decide (u=v):=⟨_,rfl⟩
    have he:=HE.out
    obtain⟨uc,un,us,uv,ul⟩:=u
    obtain⟨vc,vn,vs,vv,vl⟩:=v
    rw[← hz]at he
    unfold vagg at he
    simp only at c0 c1 c2 c3 c4 d0 d1 d2 d3 d4 he
    cases z with
    | true =>
     have hT:=zh (take_same EU.out EV.out heq.out (of_decide_eq_true hz.symm))
     clear hz HE EU EV heq
     go_wp2
     go_quiet (fail)
     go_wp2
     go_roundw
     case rel=>exact⟨k+1,by omega,by go_num,hT,_,rfl⟩
     case measure=>simp[intOf];omega
    | false =>
     have hF:Hid (R=false):=zh (by rw[HR.out];exact decide_eq_false (take_other EU.out EV.out (of_decide_eq_false hz.symm)))
     clear hz HE EU EV heq
     go_wp2
     go_quiet (fail)
     go_wp2
     go_ret
     exact⟨ret_bool hF.out.symm,below_drewN (below_drewN br0 _) _⟩
   ·have hF:Hid (R=true):=zh (by
     rw[HR.out]
     have h:=heq.out
     rw[List.take_of_length_le (by rw[← HN.out];omega),List.take_of_length_le (by rw[← HM.out];omega)]at h
     exact decide_eq_true h)
    go_wp2
    go_ret
    exact⟨ret_bool hF.out.symm,below_drewN br0 _⟩
 ·have hF:Hid (R=false):=zh (by rw[HR.out];exact decide_eq_false (fun e=>hnm (by rw[HN.out,HM.out,e])))
  have hne:((n:Int) != (m:Int))=true:=by simp;omega
  go_enter Tryz.func49,Tryz.ntmps49
  go_wp2
  go_ret
  exact⟨ret_bool hF.out.symm,Below.refl _ _⟩
set_option maxHeartbeats 2000000 in
set_option maxRecDepth 100000 in
theorem sameT_any {w:World}{x y:Value}{a b:List (ByteArray × Nat)}(ha:TS w x a)(hb:TS w y b):Calls Tryz.prog 45 #[x,y] w fun e w'=>e=.returned (.bool (decide (a=b)))∧Below w.heap.size w w':=by
 obtain⟨xa,xc,rfl,-,-,hx3⟩:=ha.opened
 obtain⟨ya,yc,rfl,hl1,hl2,hy3⟩:=hb.opened
 have HX3:=zh hx3
 have HY3:=zh hy3
 have hln:b.length≤9223372036854775807:=by unfold maxLen at hl2;omega
 obtain⟨R,hR⟩:∃ R,R=decide (a=b):=⟨_,rfl⟩
 rw[← hR]
 have HR:=zh hR
 clear ha hb hx3 hy3 hR
 obtain⟨n,hn⟩:∃ n,n=a.length:=⟨_,rfl⟩
 obtain⟨m,hm⟩:∃ m,m=b.length:=⟨_,rfl⟩
 rw[← hn,← hm]
 rw[← hm]at hln
 clear hl1 hl2
 have HN:=zh hn
 have HM:=zh hm
 clear hn hm
 by_cases hnm:n=m
 ·subst hnm
  have hne:((n:Int) != (n:Int))=false:=by simp
  go_enter Tryz.func45,Tryz.ntmps45
  go_wp2
  go_loopw [5] (fun i wr=>∃ k:Nat,k≤n∧i=.int .i64 k∧Hid (a.take k=b.take k)∧∃ q,wr=w.drewN q) (fun i _=>n - (intOf i).toNat)
  case atStart=>exact⟨0,by omega,rfl,zh rfl,0,rfl⟩
  case round =>
   obtain⟨k,hk,rfl,heq,q,rfl⟩:=hrel
   by_cases hlt:k < n
   ·obtain⟨u,eu⟩:∃ u,a[k]?=some u:=⟨_,List.getElem?_eq_getElem (by rw[← HN.out];exact hlt)⟩
    obtain⟨v,ev⟩:∃ u,b[k]?=some u:=⟨_,List.getElem?_eq_getElem (by rw[← HM.out];exact hlt)⟩
    obtain⟨g1,o1,rfl,hg1,c0,c1⟩:=HX3.out k u eu
    obtain⟨g2,o2,rfl,hg2,d0,d1⟩:=HY3.out k v ev
    have EU:=zh eu
    have EV:=zh ev
    have hk0:(0:Int)≤(k:Int):=by omega
    have hk1:(k:Int) < (n:Int):=by omega
    have HE:=zh (fun W=>neqTally u.1 v.1 u.2 v.2 W)
    clear eu ev
    obtain⟨z,hz⟩:∃ z,z=decide (u=v):=⟨_,rfl⟩
    have he:=HE.out
    obtain⟨uv,un⟩:=u
    obtain⟨vv,vn⟩:=v
    simp only at c0 c1 d0 d1 he
    rw[← hz]at he
    cases z with
    | true =>
     have hT:=zh (take_same EU.out EV.out heq.out (of_decide_eq_true hz.symm))
     clear hz HE EU EV heq
     go_wp2
     go_quiet (fail)
     go_wp2
     go_roundw
     case rel=>exact⟨k+1,by omega,by go_num,hT,_,rfl⟩
     case measure=>simp[intOf];omega
    | false =>
     have hF:Hid (R=false):=zh (by rw[HR.out];exact decide_eq_false (take_other EU.out EV.out (of_decide_eq_false hz.symm)))
     clear hz HE EU EV heq
     go_wp2
     go_quiet (fail)
     go_wp2
     go_ret
     exact⟨ret_bool hF.out.symm,below_drewN (below_drewN br0 _) _⟩
   ·have hF:Hid (R=true):=zh (by
     rw[HR.out]
     have h:=heq.out
     rw[List.take_of_length_le (by rw[← HN.out];omega),List.take_of_length_le (by rw[← HM.out];omega)]at h
     exact decide_eq_true h)
    go_wp2
    go_ret
    exact⟨ret_bool hF.out.symm,below_drewN br0 _⟩
 ·have hF:Hid (R=false):=zh (by rw[HR.out];exact decide_eq_false (fun e=>hnm (by rw[HN.out,HM.out,e])))
  have hne:((n:Int) != (m:Int))=true:=by simp;omega
  go_enter Tryz.func45,Tryz.ntmps45
  go_wp2
  go_ret
  exact⟨ret_bool hF.out.symm,Below.refl _ _⟩
theorem eqVoteIn (u v:VoteP)(w:World):(Op.equalIn 9999 27 (vagg u) (vagg v)).run Tryz.prog w=.ok (decide (u=v)) w:=by
 obtain⟨a,b,c,d,f⟩:=u
 obtain⟨a',b',c',d',f'⟩:=v
 have h1:=run_equalIn_struct (P:=Tryz.prog) w 9998 27 #[.int .i64 a,.int .i64 b,.int .i64 c,.string d,.string f] #[.int .i64 a',.int .i64 b',.int .i64 c',.string d',.string f'] (by kernel_rfl) (by kernel_rfl)
 have e:decide ((⟨a,b,c,d,f⟩:VoteP)=⟨a',b',c',d',f'⟩)=(a == a' && b == b' && c == c' && decide (d=d') && decide (f=f')):=by
  rw[Bool.eq_iff_iff,decide_eq_true_iff,eqVote_iff];simp[and_assoc]
 have g1:=same_str d d'
 have g2:=same_str f f'
 rw[e]
 unfold vagg
 rw[show(9999:Nat)=9998+1 from rfl,h1]
 simp only[go_sem,Program.fieldsOf]
 by_cases e1:a=a' <;> by_cases e2:b=b' <;> by_cases e3:c=c' <;> by_cases e4:d=d' <;> by_cases e5:f=f' <;> simp[go_sem,e1,e2,e3,e4,e5,g1,g2]
def dagg2 (x:VoteP × VoteP):Value:=.agg #[.int .i64 x.1.car,.int .i64 x.1.num,.int .i64 x.1.stp,.string x.1.val,.string x.1.sl,.int .i64 x.2.car,.int .i64 x.2.num,.int .i64 x.2.stp,.string x.2.val,.string x.2.sl]
theorem eqlDouble (x y:VoteP × VoteP)(w:World):(Op.equalIn 10000 45 (dagg2 x) (dagg2 y)).run Tryz.prog w=.ok (decide (x=y)) w:=by
 have h1:=run_equalIn_struct (P:=Tryz.prog) w 9999 45 #[.int .i64 x.1.car,.int .i64 x.1.num,.int .i64 x.1.stp,.string x.1.val,.string x.1.sl,.int .i64 x.2.car,.int .i64 x.2.num,.int .i64 x.2.stp,.string x.2.val,.string x.2.sl] #[.int .i64 y.1.car,.int .i64 y.1.num,.int .i64 y.1.stp,.string y.1.val,.string y.1.sl,.int .i64 y.2.car,.int .i64 y.2.num,.int .i64 y.2.stp,.string y.2.val,.string y.2.sl] (by kernel_rfl) (by kernel_rfl)
 have e:decide (x=y)=(decide (x.1=y.1) && decide (x.2=y.2)):=by
  rw[Bool.eq_iff_iff]
  simp[Prod.ext_iff]
 have g1:=eqVoteIn x.1 y.1
 have g2:=eqVoteIn x.2 y.2
 unfold vagg at g1 g2
 rw[e]
 unfold dagg2
 rw[show(10000:Nat)=9999+1 from rfl,h1]
 simp only[go_sem,Program.fieldsOf]
 by_cases e1:x.1=y.1 <;> by_cases e2:x.2=y.2 <;> simp only[e1,e2,decide_true,decide_false]at g1 g2 <;> simp[go_sem,g1,g2,e1,e2]
section
variable {w:World} (he:QEnv w) {kv:Value} {ks:List ByteArray} (hk:SS w kv ks)
include he
theorem qcheck_w {x:Value}{l:List VoteP}(hk:SS w kv ks)(hl:VS w x l)(num stp:Int)(val:ByteArray)(b:Bool)(hb:checkV ks num stp val l=b) :
  ∀ W,Below w.heap.size w W→Calls Tryz.prog 39 #[.agg #[kv],.agg #[.int .i64 num,.int .i64 stp],.string val,x] W fun e w'=>e=.returned (.bool b)∧Below W.heap.size W w':=fun W hW=>by
 have h:=he.step hW
 exact hb ▸ qcheck_any (hk.below hW) (hl.below hW) num stp val h.env h.round
theorem tallies_w {x:Value}{l:List VoteP}(hk:SS w kv ks)(hl:VS w x l)(num stp:Int)(t:List (ByteArray × Nat))(ht:tallyV ks num stp l=t) :
  ∀ W,Below w.heap.size w W→Calls Tryz.prog 38 #[.agg #[kv],.agg #[.int .i64 num,.int .i64 stp],x] W (TalIs W t):=fun W hW=>by
 have h:=he.step hW
 exact ht ▸ tallies_any (hk.below hW) (hl.below hW) num stp h.env h.round
theorem qconvicts_w (hk:SS w kv ks)(d:VoteP × VoteP)(b:Bool)(hb:convictsV ks d=b) :
  ∀ W,Below w.heap.size w W→Calls Tryz.prog 26 #[.agg #[kv],dagg d] W fun e w'=>e=.returned (.bool b)∧Below W.heap.size W w':=fun W hW=>by
 have h:=he.step hW
 exact hb ▸ qconvicts_any (hk.below hW) d h.env h.round
theorem qgen_w (hk:SS w kv ks)(v:VoteP)(b:Bool)(hb:genuineV ks v=b) :
  ∀ W,Below w.heap.size w W→Calls Tryz.prog 21 #[.agg #[kv],vagg v] W fun e w'=>e=.returned (.bool b)∧Below W.heap.size W w':=fun W hW=>by
 have h:=he.step hW
 exact hb ▸ gen_any (hk.below hW) v h.env h.round
end
end Go.Proofs.YtggdcnjaofflbaaGreatDoor
