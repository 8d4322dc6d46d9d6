/- Walk of package quorum: Prove. The conditions: what the slices read as, the tables of constants. -/
import Derived.Sort.Walk0
import Derived.Test.YtggdcnjaofflbaaGreatDoorMM14
namespace Go.Proofs.YtggdcnjaofflbaaGreatDoor
open Go.RowKit Go.BigFrame
def PrAt (w:World)(kv:Value)(num stp:Int)(v:Value)(l:List VoteP)(W:World):Prop :=
 Below w.heap.size w W∧W.heap[w.heap.size]?=some (.cells #[kv] 31 (0,0))∧W.heap[w.heap.size+1]?=some (.cells #[.int .i64 num,.int .i64 stp] 25 (0,0))∧OwnV W w.heap.size v l
theorem PrAt.far {w W W':World}{kv:Value}{num stp:Int}{v:Value}{l:List VoteP}(h:PrAt w kv num stp v l W)(hb:Below W.heap.size W W'):PrAt w kv num stp v l W' :=
 ⟨q_next h.1 hb,(hb.block _ (ltA h.2.1)).trans h.2.1,(hb.block _ (ltA h.2.2.1)).trans h.2.2.1,OwnE.far h.2.2.2 hb (Nat.le_refl _)⟩
theorem PrAt.cells {w W:World}{kv:Value}{num stp:Int}{v:Value}{l:List VoteP}(h:PrAt w kv num stp v l W):W.cell? ⟨w.heap.size,0,none⟩=some kv∧W.cell? ⟨w.heap.size+1,0,none⟩=some (.int .i64 num)∧W.cell? ⟨w.heap.size+1,1,none⟩=some (.int .i64 stp) :=
 ⟨cell_of_row W _ 0 _ _ _ h.2.1,cell_of_row W _ 0 _ _ _ h.2.2.1,cell_of_row W _ 1 _ _ _ h.2.2.1⟩
theorem PrAt.append {w W W':World}{kv:Value}{num stp:Int}{v v':Value}{l l':List VoteP}(h:PrAt w kv num stp v l W){o:Obj}(hg:(W.alloc o).grownBy W' v.ownBlock)(ho:OwnV W' w.heap.size v' l'):PrAt w kv num stp v' l' W':=by
 have hlt1:=(ltA h.2.1)
 have hlt2:=(ltA h.2.2.1)
 refine⟨(h.1.alloc h.1.size o).grown hg (by simp;omega) (fun j e=>OwnE.ge h.2.2.2 j e),?_,?_,ho⟩
 ·exact(hg.block _ (by simp;omega) (own_ne h.2.2.2 h.2.1 (fun c e=>by cases e))).trans ((Below.heap_alloc W o _ hlt1).trans h.2.1)
 ·exact(hg.block _ (by simp;omega) (own_ne h.2.2.2 h.2.2.1 (fun c e=>by cases e))).trans ((Below.heap_alloc W o _ hlt2).trans h.2.2.1)
theorem PrAt.set {w W:World}{kv:Value}{num stp:Int}{v:Value}{l:List VoteP}(h:PrAt w kv num stp v l W){vb:Nat}(hvb:w.heap.size+2≤vb)(hne:v.ownBlock≠some vb)(x:Value):PrAt w kv num stp v l (W.setCell ⟨vb,4,none⟩ x):=by
 have hg:W.grownBy (W.setCell ⟨vb,4,none⟩ x) (some vb):=grown_setCell (grown_refl _ _) _ (.inl rfl) _
 exact⟨h.1.grown hg h.1.size (fun j e=>by cases e;omega),(hg.block _ (ltA h.2.1) (fun e=>by have:=Option.some.inj e;omega)).trans h.2.1,(hg.block _ (ltA h.2.2.1) (fun e=>by have:=Option.some.inj e;omega)).trans h.2.2.1,World.ownsRow.kept h.2.2.2 hg (.inr (fun e=>hne e))⟩
def PrKept (w:World)(kv:Value)(num stp:Int)(v:Value)(l:List VoteP)(vb i:Nat)(val:ByteArray)(n7:Nat)(W:World):Prop :=
 n7≤W.heap.size∧PrAt w kv num stp v l W∧∃ u,W.heap[vb]?=some (.cells #[.int .i64 (i:Nat),.int .i64 num,.int .i64 stp,.string val,u] 27 (0,0))
theorem PrKept.more {w:World}{kv:Value}{num stp:Int}{v:Value}{l:List VoteP}{vb i:Nat}{val:ByteArray}{n7:Nat}(W W':World)(h:PrKept w kv num stp v l vb i val n7 W)(hb:Below W.heap.size W W'):PrKept w kv num stp v l vb i val n7 W' :=
 ⟨Nat.le_trans h.1 hb.size,h.2.1.far hb,let ⟨u,hu⟩:=h.2.2;⟨u,(hb.block _ (ltA hu)).trans hu⟩⟩
theorem take_snocQ {α:Type}{l:List α}{k:Nat}{x:α}(h:l[k]?=some x):l.take (k+1)=l.take k++[x]:=by
 rw[List.take_add_one,h];rfl
set_option maxHeartbeats 8000000 in
set_option maxRecDepth 100000 in
theorem prove_any {w:World}{kv x:Value}{ks:List ByteArray}{l:List VoteP}(hr:SS w kv ks)(hl:VS w x l)(num stp:Int)(val:ByteArray)(hval:val.size≤maxLen)(he:Env w)(hg:3 < w.heap.size)(ht:Tab w)(hgt:1 < w.heap.size) :
  Calls Tryz.prog 34 #[.agg #[kv],.agg #[.int .i64 num,.int .i64 stp],.string val,x] w (ProveIs w (proveV ks num stp val l)):=by
 obtain⟨ka,kcap,rfl,kl1,kl2,kl3⟩:=hr.opened
 obtain⟨a,n,cap,rfl⟩:=hl.form
 obtain⟨W2,hW2⟩:∃ W2,W2=(w.alloc (.cells #[.slice ka ks.length kcap] 31)).alloc (.cells #[.int .i64 num,.int .i64 stp] 25):=⟨_,rfl⟩
 have HP2:Hid (PrAt w (.slice ka ks.length kcap) num stp (.slice none 0 0) [] W2):=zh ⟨by rw[hW2];exact(br0.alloc (Nat.le_refl _) _).alloc (by simp) _,by rw[hW2];exact at_past w _ _,by rw[hW2];exact at_second w _ _,OwnE.nil _ _ _ _⟩
 have HR:=zh hr
 have HL:=zh hl
 have HE:=zh he
 have HG:=zh hg
 have HT:=zh ht
 have HGT:=zh hgt
 have HVL:=zh hval
 have HK3:=zh kl3
 have HIP:=zh (isPool_any (HR.out.below HP2.out.1) (HL.out.below HP2.out.1))
 have HW2:=zh hW2
 clear hr hl he hg ht hgt hval hW2 kl3
 obtain⟨kn,hkn⟩:∃ kn,kn=ks.length:=⟨_,rfl⟩
 rw[← hkn]at HP2 HR HIP HW2 kl1 ⊢
 have HKN:=zh hkn
 clear hkn
 obtain⟨c0,c1,c2⟩:=HP2.out.cells
 cases hip:isPool ks l with
 | false =>
  have HRes:=zh (proveV_no1 (num:=num) (stp:=stp) (val:=val) hip)
  rw[hip]at HIP
  rw[HRes.out]
  clear hip HRes
  go_enter Tryz.func34,Tryz.ntmps34
  go_upto_region 1 with fail
  rw[← HW2.out]
  go_wp2_with (go_at_call 76;refine HIP.out.mono ?_;rintro e w1 ⟨rfl,hb1⟩)
  go_ret2
  exact proveIs_none rfl (q_next HP2.out.1 hb1)
 | true =>
  rw[hip]at HIP
  have hvc:validC ks=true:=by unfold isPool at hip;rw[Bool.and_eq_true]at hip;exact hip.1
  have HKS:=zh (valid_sizes hvc)
  have hk7:=valid_le hvc
  have henl:=enough_len hvc
  go_enter Tryz.func34,Tryz.ntmps34
  go_upto_region 1 with fail
  rw[← HW2.out]
  go_upto_region 3 with(go_at_call 76;refine HIP.out.mono ?_;rintro e w1 ⟨rfl,hb1⟩)
  have HP3:=zh (HP2.out.far hb1)
  clear hb1 c0 c1 c2 HIP
  obtain⟨c0,c1,c2⟩:=HP3.out.cells
  go_wp2_with fail
  refine(votes_any (HR.out.below HP3.out.1) HKS.out (HL.out.below HP3.out.1) num stp (HE.out.below HP3.out.1 HG.out) (Nat.lt_of_lt_of_le HG.out HP3.out.1.size)).mono ?_
  rintro e w3 ⟨B,mm,D,rfl,hM,hRd,_,hb3⟩
  have HP4:=zh (HP3.out.far hb3)
  have hlk:=MapU.look hM hRd val HVL.out
  have hM256:=mask_lt ks num stp val l 0 (by decide)
  have hA:=mask_who (show ks.length≤8 by omega) num stp val l
  obtain⟨M,hMe⟩:∃ M,M=maskV ks num stp val l 0:=⟨_,rfl⟩
  simp only[← hMe]at hlk hM256 hA
  obtain⟨A,hAe⟩:∃ A,A=bitsL M:=⟨_,rfl⟩
  have HA:Hid (bitsL M=A.drop 0):=zh (by rw[hAe];rfl)
  have HAW:Hid (A=whoL ks num stp val l):=zh (by rw[hAe,hA])
  obtain⟨cnt,hcnt⟩:∃ cnt,cnt=A.length:=⟨_,rfl⟩
  obtain⟨en,hen⟩:∃ en,en=2*((kn - 1) / 3)+1:=⟨_,rfl⟩
  have HEN:Hid (en=enoughC ks):=zh (by rw[hen];unfold enoughC;rw[HKN.out])
  have hen7:en≤7:=by rw[HEN.out];omega
  have HON:Hid (∀ W,_):=zh (fun W=>onesU_any M W hM256)
  rw[← hAe,← hcnt]at HON
  have hk1000:kn≤1000:=by rw[HKN.out];omega
  have HENC:Hid (∀ W,Calls Tryz.prog 79 #[.agg #[.slice ka kn kcap]] W fun e w'=>e=.returned (.int .i64 ((en:Nat):Int))∧Below W.heap.size W w'):=zh (fun W=>by
   refine(enough_any ka kn kcap W hk1000).mono ?_
   rintro e w' ⟨rfl,rfl⟩
   rw[hen]
   exact⟨rfl,br0.alloc (Nat.le_refl _) _⟩)
  have HNO:Hid (cnt < en→proveV ks num stp val l=none):=zh (fun h=>proveV_no2 (by rw[← HAW.out,← hcnt,← HEN.out];exact h))
  have HYES:Hid (en≤cnt→proveV ks num stp val l=some ((A.take en).map (mkV ks num stp val))):=zh (fun h=>by
   rw[proveV_yes hip (by rw[← HAW.out,← hcnt,← HEN.out];exact h),HAW.out,HEN.out])
  have HCNT:=zh hcnt
  clear hM hRd hb3 hA hMe hAe hcnt hen hk1000 henl HVL c0 c1 c2 HP3 hip
  go_upto_region 4 with fail
  have HC4:Hid (∀ W,Below w3.heap.size w3 W→W.cell? ⟨w.heap.size,0,none⟩=some (.slice ka kn kcap)):=zh (fun W hW=>(HP4.out.far hW).cells.1)
  go_cut [10,27] (fun r t wx=>r=.int .u64 M∧t=.bool (decide (cnt < en))∧Hid (PrAt w (.slice ka kn kcap) num stp (.slice none 0 0) [] wx))
  case first =>
   refine wp_region_noPanic ?_
   refine wp_region_lexB [.q 0,.q 2,.b 1,.b 3,.q 4] (by kernel_rfl) (by kernel_rfl) (fun _ _ _ _ h=>h) ?_
   iterate 2(refine wpFl_qL (v:=?_) rfl (Or.inl ⟨by rfl,?_⟩) ?_;rotate_left;(focus(intro w' hSw;have d0:=HC4.out w' hSw;go_simp;(try with_reducible rfl);done));simp only[Act.put,zzA,zzB,zzC])
   refine wpFl_bL rfl (fun wa hna hsa K hK=>?_)
   go_simp
   go_at_call 78
   refine(HON.out wa).mono ?_
   rintro e wb ⟨rfl,rfl⟩
   refine hK.out _ _ hsa (Keeps.below br0) ?_
   clear hK K hna
   refine wpFl_bL rfl (fun wc hnc hsc K hK=>?_)
   go_simp
   go_at_call 79
   refine(HENC.out wc).mono ?_
   rintro e wd ⟨rfl,hbd⟩
   have HPd:=zh (HP4.out.far (q_next hsc hbd))
   refine hK.out _ _ (q_next hsc hbd) (Keeps.below hbd) ?_
   clear hK K hnc hsc hbd hsa
   refine wpFl_qL (v:=?_) rfl (Or.inl ⟨by rfl,?_⟩) ?_
   rotate_left
   focus(intro w' hSw;go_simp;(try with_reducible rfl);done)
   simp only[Act.put,zzA,zzB,zzC]
   refine wpFl_nil ?_
   refine NoPanic.normal ?_
   go_wp2
   go_meet
   case rel=>exact⟨rfl,rfl,HPd⟩
  case rest =>
   obtain⟨ht10,ht27,HP5⟩:=hcut
   subst ht10
   clear HON HC4
   obtain⟨w5,hw5⟩:∃ W,W=wc:=⟨_,rfl⟩
   rw[← hw5]at HP5 ⊢
   clear hw5 wc HP4
   by_cases hce:cnt < en
   ·have hd:decide (cnt < en)=true:=decide_eq_true (by omega)
    rw[hd]at ht27
    subst ht27
    have HRes:=zh (HNO.out hce)
    clear HNO HYES
    go_wp2
    go_ret2
    rw[HRes.out]
    exact proveIs_none rfl HP5.out.1
   ·have hd:decide (cnt < en)=false:=decide_eq_false (by omega)
    have HRes:=zh (HYES.out (by omega))
    rw[hd]at ht27
    subst ht27
    clear HNO HYES hd
    go_wp2
    go_loopw [10,11] (fun who out wr=>∃(j r:Nat) (va:Option Addr) (vc:Nat),j≤en∧who=.int .u64 r∧out=.slice va j vc∧r < 256∧Hid (bitsL r=A.drop j)∧Hid (PrAt w (.slice ka kn kcap) num stp (.slice va j vc) ((A.take j).map (mkV ks num stp val)) wr)) (fun _ out _=>en - lenOf out)
    case atStart=>exact⟨0,M,none,0,by omega,rfl,rfl,hM256,HA,HP5⟩
    case round =>
     obtain⟨j,r,va,vc,hj,rfl,rfl,hr256,hbr,hP⟩:=hrel
     obtain⟨c0,c1,c2⟩:=hP.out.cells
     by_cases hje:j < en
     ·have hde:decide (j < en)=true:=decide_eq_true hje
      obtain⟨i,rst,b1,b2,b3,b4,b5⟩:=bits_take 0 r hr256 (by rw[hbr.out,List.length_drop,← HCNT.out];omega)
      have hr0:r≠0:=fun e=>by rw[e,bits_zero]at b1;cases b1
      have hiA:A[j]?=some i:=by
       have e:=congrArg (·[0]?) (hbr.out.symm.trans b1)
       simpa using e
      have hiW:i∈whoL ks num stp val l:=by rw[← HAW.out];exact List.mem_of_getElem? hiA
      have hgm:=who_gen hiW
      have hgf:=gen_facts hgm
      have hikn:i < kn:=by rw[HKN.out];exact who_lt hiW
      obtain⟨key,hkey⟩:∃ key,ks[i]?=some key:=⟨_,List.getElem?_eq_getElem (by rw[← HKN.out];exact hikn)⟩
      obtain⟨kb,koff,hka,hkb,hkc⟩:=HK3.out i key hkey
      have hk1000:=HKS.out key (List.mem_of_getElem? hkey)
      have hget:ks.getD i ⟨#[]⟩=key:=by
       rw[List.getD_eq_getElem?_getD,hkey]
       rfl
      have HTK:=zh (take_snocQ hiA)
      have HMK:Hid (mkV ks num stp val i=⟨(i:Int),num,stp,val,sealV key ⟨(i:Int),num,stp,val,⟨#[]⟩⟩⟩):=zh (by
       unfold mkV
       rw[hget])
      have HSL:Hid (∀ W,Below w.heap.size w W→Calls Tryz.prog 68 #[.string key,.agg #[.int .i64 (i:Nat),.int .i64 num,.int .i64 stp,.string val,.string ⟨#[]⟩]] W fun e w'=>e=.returned (.string (sealV key ⟨(i:Int),num,stp,val,⟨#[]⟩⟩))∧Below W.heap.size W w'):=zh (fun W hW =>
       qseal_any key ⟨(i:Int),num,stp,val,⟨#[]⟩⟩ ⟨hgf.1,hgf.2.2.1,hgf.2.2.2.1,hgf.2.2.2.2⟩ hk1000 W (HE.out.below hW HG.out) (Nat.lt_of_lt_of_le HG.out hW.size))
      generalize sealV key ⟨(i:Int),num,stp,val,⟨#[]⟩⟩=S at *
      have HTZ:Hid (∀ W,Below w.heap.size w W→Calls Tryz.prog 80 #[.int .u64 r] W fun e w'=>e=.returned (.int .i64 i)∧W=w'):=zh (fun W hW=>tzU_any r i W (by omega) hr0 b4 (by omega) (HT.out.below hW HGT.out))
      have HKC:Hid (∀ W,Below w.heap.size w W→W.cell? ⟨kb,koff+i,none⟩=some (.string key)):=zh (fun W hW=>cell_keepB hW hkb hkc)
      have HB2:Hid (bitsL (r &&& (r - 1))=A.drop (j+1)∧r &&& (r - 1) < 256):=zh ⟨by
       have e:=congrArg List.tail (hbr.out.symm.trans b1)
       rw[List.tail_drop]at e
       rw[b2,e]
       rfl,b3⟩
      have hin:(i:Int) < (kn:Int):=by omega
      have hi0:(0:Int)≤(i:Int):=by omega
      have hsub:IntKind.u64.wrap ((r:Int) - 1)=((r - 1:Nat):Int):=by rw[IntKind.wrap_u64];omega
      have hand:bits BinOp.and IntKind.u64 (r:Int) ((r - 1:Nat):Int)=((r &&& (r - 1):Nat):Int):=u64_and_nat r (r - 1) (by omega) (by omega)
      have HAN:=zh (And.intro hsub hand)
      have hi8:i < 8:=b5
      clear b1 b2 b3 b4 b5 hgm hgf hiW hiA hget hkey hkb hkc hr0 hbr hsub hand hk1000
      subst hka
      go_upto_region 9 with(go_at_call 79;refine(HENC.out _).mono ?_;rintro e w6 ⟨rfl,hb6⟩)
      have HP6:=zh (hP.out.far hb6)
      clear hP hb6 c0 c1 c2
      have HC6:Hid (∀ W,Below w6.heap.size w6 W→W.cell? ⟨w.heap.size,0,none⟩=some (.slice (some ⟨kb,koff,none⟩) kn kcap)∧W.cell? ⟨w.heap.size+1,0,none⟩=some (.int .i64 num)∧W.cell? ⟨w.heap.size+1,1,none⟩=some (.int .i64 stp)):=zh (fun W hW=>(HP6.out.far hW).cells)
      refine wp_region_noPanic ?_
      refine wp_region_lexB [.q 0,.q 2,.q 3,.an 5,.b 1,.q 4,.co 5,.b 6] (by kernel_rfl) (by kernel_rfl) (fun _ _ _ _ h=>h) ?_
      iterate 3(refine wpFl_qL (v:=?_) rfl (Or.inl ⟨by rfl,?_⟩) ?_;rotate_left;(focus(intro w' hSw;obtain⟨d0,d1,d2⟩:=HC6.out w' hSw;go_simp;(try with_reducible rfl);done));simp only[Act.put,zzA,zzB,zzC])
      refine wpFl_anL rfl (.cells #[.int .i64 0,.int .i64 0,.int .i64 0,.string ⟨#[]⟩,.string ⟨#[]⟩] 27 (0,0)) (fun n=>.pointer (some ⟨n,0,none⟩)) ⟨by rfl,fun w'=>?_⟩ ?_
      focus(go_simp;done)
      refine wpFl_bL rfl (fun wa hna hsa K hK=>?_)
      go_simp
      go_at_call 80
      refine(HTZ.out wa (q_next HP6.out.1 hsa)).mono ?_
      rintro e wb ⟨rfl,rfl⟩
      refine hK.out _ _ hsa (Keeps.below br0) ?_
      clear hK K hna hsa
      refine wpFl_qL (v:=?_) rfl (Or.inl ⟨by rfl,?_⟩) ?_
      rotate_left
      focus(intro w' hSw;go_simp;(try with_reducible rfl);done)
      simp only[Act.put,zzA,zzB,zzC]
      refine wpFl_coL rfl (.cells #[.int .i64 0,.int .i64 0,.int .i64 0,.string ⟨#[]⟩,.string ⟨#[]⟩] 27 (0,0)) (fun n=>.pointer (some ⟨n,0,none⟩)) (by rfl) (N':=[]) (by rfl) (fun vb wc hn_wc hs_wc hb_vb hz_vb=>?_)
      simp only[Act.put,zzA,zzB,zzC]
      refine wpFl_bL rfl (fun wd hnd hsd K hK=>?_)
      have HZ:=zh ((hnd.block vb (ltA hz_vb)).trans hz_vb)
      obtain⟨z0,z1,z2,z3,z4⟩:=vcellsAt HZ.out
      have zf:∀ j,wd.frozen? ⟨vb,j,none⟩=false:=fun j=>by unfold World.frozen?;rw[HZ.out];simp
      go_simp
      refine hK.out _ _ (vfive_below hsd hb_vb _ _ _ _ _) Keeps.nil ?_
      clear hK K
      have HV7:=zh (vfive_heap HZ.out (.int .i64 (i:Nat)) (.int .i64 num) (.int .i64 stp) (.string val) (.string ⟨#[]⟩))
      have HP7:=zh (HP6.out.far (vfive_below hsd hb_vb (.int .i64 (i:Nat)) (.int .i64 num) (.int .i64 stp) (.string val) (.string ⟨#[]⟩)))
      generalize (((((wd.setCell ⟨vb,0,none⟩ (.int .i64 (i:Nat))).setCell ⟨vb,1,none⟩ (.int .i64 num)).setCell ⟨vb,2,none⟩ (.int .i64 stp)).setCell ⟨vb,3,none⟩ (.string val)).setCell ⟨vb,4,none⟩ (.string ⟨#[]⟩))=w7 at *
      clear z0 z1 z2 z3 z4 zf HZ hnd hsd hn_wc hs_wc hz_vb HC6 HTZ
      refine wpFl_nil ?_
      refine NoPanic.normal ?_
      go_upto_region 10 with fail
      have HNE:Hid ((Value.slice va j vc).ownBlock≠some vb):=zh (fun e=>by
       have:=(World.ownsRow.lt HP6.out.2.2.2 vb e).2
       omega)
      have hvb2:w.heap.size+2≤vb:=by have:=(ltA HP6.out.2.2.1);omega
      have HS7:Hid (PrKept w (.slice (some ⟨kb,koff,none⟩) kn kcap) num stp (.slice va j vc) ((A.take j).map (mkV ks num stp val)) vb i val w7.heap.size w7.drew):=zh ⟨Nat.le_refl _,HP7.out.far (below_drewN br0 1),_,HV7.out⟩
      have HC7:Hid (∀ W,PrKept w (.slice (some ⟨kb,koff,none⟩) kn kcap) num stp (.slice va j vc) ((A.take j).map (mkV ks num stp val)) vb i val w7.heap.size W→W.cell? ⟨w.heap.size,0,none⟩=some (.slice (some ⟨kb,koff,none⟩) kn kcap)∧W.cell? ⟨kb,koff+i,none⟩=some (.string key)∧W.cell? ⟨vb,0,none⟩=some (.int .i64 (i:Nat))):=zh (fun W hW =>
       ⟨hW.2.1.cells.1,HKC.out W hW.2.1.1,let ⟨u,hu⟩:=hW.2.2;cell_of_row W _ 0 _ _ _ hu⟩)
      refine wp_region_noPanic ?_
      refine wp_region_lexF [.q 0,.q 1,.q 2,.q 3,.q 4,.q 5,.b 6,.b 7,.q 8,.b 9] (PrKept w (.slice (some ⟨kb,koff,none⟩) kn kcap) num stp (.slice va j vc) ((A.take j).map (mkV ks num stp val)) vb i val w7.heap.size) (by kernel_rfl) (by kernel_rfl) (fun _ _ _ _ h=>h) PrKept.more HS7.out ?_
      iterate 6(refine wpFl_qL (v:=?_) rfl (Or.inl ⟨by rfl,?_⟩) ?_;rotate_left;(focus(intro w' hSw;obtain⟨d0,k0,e0⟩:=HC7.out w' hSw;go_simp;(try with_reducible rfl);done));simp only[Act.put,zzA,zzB,zzC])
      refine wpFl_bS rfl (fun wa hna hsa K hK=>?_)
      have HVa:=zh ((hna.block vb (ltA HV7.out)).trans HV7.out)
      obtain⟨z0,z1,z2,z3,z4⟩:=vcellsAt HVa.out
      go_simp
      refine hK.out _ _ hsa hsa.1 (Keeps.below br0) ?_
      clear hK K hna z0 z1 z2 z3 z4
      refine wpFl_bS rfl (fun wb hnb hsb K hK=>?_)
      have HVb:=zh ((hnb.block vb (ltA HVa.out)).trans HVa.out)
      go_simp
      go_at_call 68
      refine(HSL.out wb hsb.2.1.1).mono ?_
      rintro e wc2 ⟨rfl,hbc⟩
      have HVc:=zh ((hbc.block vb (ltA HVb.out)).trans HVb.out)
      refine hK.out _ _ (PrKept.more _ _ hsb hbc) (Nat.le_trans hsb.1 hbc.size) (Keeps.below hbc) ?_
      clear hK K hnb hsb hbc hsa HVa HVb
      refine wpFl_qL (v:=?_) rfl (Or.inl ⟨by rfl,?_⟩) ?_
      rotate_left
      focus(intro w' hSw;go_simp;(try with_reducible rfl);done)
      simp only[Act.put,zzA,zzB,zzC]
      refine wpFl_bS rfl (fun wd2 hnd hsd2 K hK=>?_)
      have HVd:=zh ((hnd.block vb (ltA HVc.out)).trans HVc.out)
      obtain⟨z0,z1,z2,z3,z4⟩:=vcellsAt HVd.out
      have zf:∀ j,wd2.frozen? ⟨vb,j,none⟩=false:=fun j=>by unfold World.frozen?;rw[HVd.out];simp
      have HV8:=zh (heap_setCell_same (i:=4) (.string S) HVd.out)
      have HP8:=zh (hsd2.2.1.set hvb2 HNE.out (.string S))
      have hsz8:(wd2.setCell ⟨vb,4,none⟩ (.string S)).heap.size=wd2.heap.size:=by simp[World.setCell]
      go_simp
      refine hK.out _ _ ⟨by rw[hsz8];exact hsd2.1,HP8.out,_,HV8.out⟩ (by rw[hsz8];exact hsd2.1) Keeps.nil ?_
      clear hK K z0 z1 z2 z3 z4 zf hnd hsd2 HVc HVd hsz8
      generalize wd2.setCell ⟨vb,4,none⟩ (.string S)=w8 at *
      have HV9:Hid (w8.heap[vb]?=some (.cells #[.int .i64 (i:Nat),.int .i64 num,.int .i64 stp,.string val,.string S] 27 (0,0))):=zh HV8.out
      clear HV8 HC7 HS7 HP7 HV7 HNE HSL
      refine wpFl_nil ?_
      refine NoPanic.normal ?_
      go_upto_region 11 with fail
      obtain⟨z0,z1,z2,z3,z4⟩:=vcellsAt HV9.out
      have hlen:((A.take j).map (mkV ks num stp val)).length=j:=by
       rw[List.length_map,List.length_take,← HCNT.out]
       omega
      go_wp2_with (at_builtin;refine wpList_append_vote (.tmp 51) (.tmp 53) w.heap.size (.slice va j vc) ((A.take j).map (mkV ks num stp val)) ⟨(i:Int),num,stp,val,S⟩ w8.heap.size (0,0) (OwnE.alloc HP8.out.2.2.2 _) (by rw[hlen];omega) (by have:=HP8.out.1.size;simp;omega) (heap_alloc_new _ _) rfl rfl rfl rfl ?_;intro v9 w9 ho9 hg9;have HP9:=zh (HP8.out.append hg9 ho9);clear hg9;obtain⟨va9,vc9,hv9⟩:=ho9.form;rw[List.length_append,hlen]at hv9;simp only[List.length_cons,List.length_nil,Nat.zero_add]at hv9;clear ho9;subst hv9)
      refine⟨⟨j+1,r &&& (r - 1),va9,vc9,by omega,by rw[HAN.out.1,HAN.out.2],rfl,HB2.out.2,zh HB2.out.1,zh ?_⟩,by simp only[lenOf];omega⟩
      have e:(A.take (j+1)).map (mkV ks num stp val)=(A.take j).map (mkV ks num stp val)++[⟨(i:Int),num,stp,val,S⟩]:=by
       rw[HTK.out,List.map_append]
       simp only[List.map_cons,List.map_nil,HMK.out]
      rw[e]
      exact HP9.out
     ·obtain rfl:j=en:=by omega
      have hde:decide (j < j)=false:=decide_eq_false (by omega)
      go_wp2_with (go_at_call 79;refine(HENC.out _).mono ?_;rintro e w6 ⟨rfl,hb6⟩;have HP6:=zh (hP.out.far hb6);clear hb6)
      go_ret2
      rw[HRes.out]
      exact⟨_,rfl,HP6.out.2.2.2.vs,HP6.out.1⟩
def dagg (d:VoteP × VoteP):Value:=.agg #[.int .i64 d.1.car,.int .i64 d.1.num,.int .i64 d.1.stp,.string d.1.val,.string d.1.sl,.int .i64 d.2.car,.int .i64 d.2.num,.int .i64 d.2.stp,.string d.2.val,.string d.2.sl]
set_option maxHeartbeats 4000000 in
set_option maxRecDepth 100000 in
theorem qconvicts_any {w:World}{kv:Value}{ks:List ByteArray}(hr:SS w kv ks)(d:VoteP × VoteP)(he:Env w)(hg:3 < w.heap.size) :
  Calls Tryz.prog 26 #[.agg #[kv],dagg d] w fun e w'=>e=.returned (.bool (convictsV ks d))∧Below w.heap.size w w':=by
 obtain⟨ka,kn,kc,rfl⟩:∃ a n c,kv=.slice a n c:=by obtain⟨a,c,h,_⟩:=hr.opened;exact⟨_,_,_,h⟩
 obtain⟨u,v⟩:=d
 unfold dagg
 obtain⟨W2,hW2⟩:∃ W2,W2=(w.alloc (.cells #[.slice ka kn kc] 31)).alloc (.cells #[.int .i64 u.car,.int .i64 u.num,.int .i64 u.stp,.string u.val,.string u.sl,.int .i64 v.car,.int .i64 v.num,.int .i64 v.stp,.string v.val,.string v.sl] 45):=⟨_,rfl⟩
 have HB2:Hid (Below w.heap.size w W2):=zh (by rw[hW2];exact(br0.alloc (Nat.le_refl _) _).alloc (by simp) _)
 have hs2:w.heap.size+1 < W2.heap.size:=by rw[hW2];simp
 have HH:Hid (W2.heap[w.heap.size]?=some (.cells #[.slice ka kn kc] 31 (0,0))∧W2.heap[w.heap.size+1]?=some (.cells #[.int .i64 u.car,.int .i64 u.num,.int .i64 u.stp,.string u.val,.string u.sl,.int .i64 v.car,.int .i64 v.num,.int .i64 v.stp,.string v.val,.string v.sl] 45 (0,0))):=zh (by rw[hW2];exact⟨at_past w _ _,at_second w _ _⟩)
 have HC:Hid (∀ W,Below W2.heap.size W2 W→W.cell? ⟨w.heap.size,0,none⟩=some (.slice ka kn kc)∧(∀ j x,#[.int .i64 u.car,.int .i64 u.num,.int .i64 u.stp,.string u.val,.string u.sl,.int .i64 v.car,.int .i64 v.num,.int .i64 v.stp,.string v.val,.string v.sl][j]?=some x→W.cell? ⟨w.heap.size+1,j,none⟩=some x)):=zh (fun W hW =>
  ⟨cell_of_row W _ 0 _ _ _ ((hW.block w.heap.size (by omega)).trans HH.out.1),fun j x hj=>(cell_of_row W _ j _ _ _ ((hW.block _ hs2).trans HH.out.2)).trans hj⟩)
 have HA:=zh (fun W=>areOne_any u v W)
 have HG1:Hid (∀ W,Below W2.heap.size W2 W→Calls Tryz.prog 21 #[.agg #[.slice ka kn kc],.agg #[.int .i64 u.car,.int .i64 u.num,.int .i64 u.stp,.string u.val,.string u.sl]] W fun e w'=>e=.returned (.bool (genuineV ks u))∧Below W.heap.size W w'):=zh (fun W hW=>gen_any (hr.below (q_next HB2.out hW)) u (he.below (q_next HB2.out hW) hg) (Nat.lt_of_lt_of_le hg (q_next HB2.out hW).size))
 have HG2:Hid (∀ W,Below W2.heap.size W2 W→Calls Tryz.prog 21 #[.agg #[.slice ka kn kc],.agg #[.int .i64 v.car,.int .i64 v.num,.int .i64 v.stp,.string v.val,.string v.sl]] W fun e w'=>e=.returned (.bool (genuineV ks v))∧Below W.heap.size W w'):=zh (fun W hW=>gen_any (hr.below (q_next HB2.out hW)) v (he.below (q_next HB2.out hW) hg) (Nat.lt_of_lt_of_le hg (q_next HB2.out hW).size))
 have HR:Hid (convictsV ks (u,v)=(((oneV u v && decide (u.val.toList < v.val.toList)) && genuineV ks u) && genuineV ks v)):=zh rfl
 generalize convictsV ks (u,v)=R at *
 obtain⟨D2,hD2⟩:∃ D2,D2=decide (u.val.toList < v.val.toList):=⟨_,rfl⟩
 rw[← hD2]at HR
 have hlt:Op.bytesLess u.val.toList v.val.toList=D2:=by rw[hD2];exact bytesLess_eq _ _
 clear hD2
 have HW2:=zh hW2
 clear hr he hg hW2
 unfold vagg at HA
 generalize oneV u v=D1 at *
 generalize genuineV ks u=D3 at *
 generalize genuineV ks v=D4 at *
 obtain⟨c1,n1,s1,v1,l1⟩:=u
 obtain⟨c2,n2,s2,v2,l2⟩:=v
 simp only at HC HA HG1 HG2 HW2 hlt
 cases D1
 ·go_enter Tryz.func26,Tryz.ntmps26
  go_wp2_with fail
  rw[← HW2.out]
  refine(HA.out W2).mono ?_
  rintro e w3 ⟨rfl,hb3⟩
  have HB3:=zh (q_next HB2.out hb3)
  clear hb3
  go_wp2_with fail
  go_ret
  exact⟨ret_bool HR.out.symm,HB3.out⟩
 ·go_enter Tryz.func26,Tryz.ntmps26
  go_wp2_with fail
  rw[← HW2.out]
  refine(HA.out W2).mono ?_
  rintro e w3 ⟨rfl,hb3⟩
  have HB3:=zh hb3
  clear hb3
  obtain⟨e0,e⟩:=HC.out w3 HB3.out
  have d0:=e 0 _ rfl
  have d1:=e 1 _ rfl
  have d2:=e 2 _ rfl
  have d3:=e 3 _ rfl
  have d4:=e 4 _ rfl
  have d8:=e 8 _ rfl
  clear e
  cases D2
  ·go_wp2_with fail
   go_ret
   exact⟨ret_bool HR.out.symm,q_next HB2.out HB3.out⟩
  ·go_wp2_with fail
   refine(HG1.out w3 HB3.out).mono ?_
   rintro e w4 ⟨rfl,hb4⟩
   have HB4:=zh (q_next HB3.out hb4)
   clear hb4 e0 d0 d1 d2 d3 d4 d8
   obtain⟨e0,e⟩:=HC.out w4 HB4.out
   have d5:=e 5 _ rfl
   have d6:=e 6 _ rfl
   have d7:=e 7 _ rfl
   have d8:=e 8 _ rfl
   have d9:=e 9 _ rfl
   clear e
   cases D3
   ·go_wp2_with fail
    go_ret
    exact⟨ret_bool HR.out.symm,q_next HB2.out HB4.out⟩
   ·go_wp2_with fail
    refine(HG2.out w4 HB4.out).mono ?_
    rintro e w5 ⟨rfl,hb5⟩
    go_wp2_with fail
    go_ret
    exact⟨ret_bool HR.out.symm,q_next HB2.out (q_next HB4.out hb5)⟩
def chkP (ks:List ByteArray)(num stp:Int)(val:ByteArray)(before:Int)(v:VoteP):Bool:=((decide (v.car≤before) || !decide (v.num=num∧v.stp=stp)) || !decide (v.val=val)) || !genV ks v
def prevC (l:List VoteP):Nat→Int
 | 0=>-1
 | k+1=>((l[k]?).map (fun v=>v.car)).getD 0
theorem chk_any {ks:List ByteArray}{num stp:Int}{val:ByteArray}{l:List VoteP}:(!(l.zipIdx.any fun y=>chkP ks num stp val (prevC l y.2) y.1))=(decide ((l.map fun v=>v.car).Pairwise (· < ·)) && l.all fun v=>decide (v.num=num∧v.stp=stp∧v.val=val) && genV ks v):=by
 rw[Bool.eq_iff_iff,Bool.not_eq_true',List.any_eq_false,Bool.and_eq_true,decide_eq_true_iff,List.all_eq_true]
 have key:∀ v b,(¬ chkP ks num stp val b v=true) ↔ b < v.car∧((v.num=num∧v.stp=stp∧v.val=val)∧genV ks v=true):=by
  intro v b
  unfold chkP
  rw[Bool.not_eq_true,Bool.or_eq_false_iff,Bool.or_eq_false_iff,Bool.or_eq_false_iff,decide_eq_false_iff_not,Bool.not_eq_false',Bool.not_eq_false',Bool.not_eq_false',decide_eq_true_iff,decide_eq_true_iff]
  constructor
  ·rintro⟨⟨⟨h1,h2⟩,h3⟩,h4⟩
   exact⟨by omega,⟨h2.1,h2.2,h3⟩,h4⟩
  ·rintro⟨h1,⟨h2,h3,h4⟩,h5⟩
   exact⟨⟨⟨by omega,h2,h3⟩,h4⟩,h5⟩
 have hmem:∀(k:Nat) (v:VoteP),l[k]?=some v→(v,k)∈l.zipIdx:=fun k v h=>by
  rw[List.mem_zipIdx_iff_getElem?]
  exact h
 constructor
 ·intro h
  have h':∀ k v,l[k]?=some v→prevC l k < v.car∧((v.num=num∧v.stp=stp∧v.val=val)∧genV ks v=true):=fun k v hv=>(key v _).1 (h (v,k) (hmem k v hv))
  refine⟨?_,fun v hv=>?_⟩
  ·have hlt:∀ j k:Nat,j < k→∀ a b:VoteP,l[j]?=some a→l[k]?=some b→a.car < b.car:=by
    intro j k hjk
    induction k with
    | zero=>omega
    | succ k ih =>
     intro a b ha hb
     have h1:=(h' (k+1) b hb).1
     obtain⟨c,hc⟩:∃ c,l[k]?=some c:=⟨_,List.getElem?_eq_getElem (by have:=(List.getElem?_eq_some_iff.1 hb).1;omega)⟩
     have h2:prevC l (k+1)=c.car:=by show((l[k]?).map (fun v=>v.car)).getD 0=c.car;rw[hc];rfl
     rw[h2]at h1
     by_cases e:j=k
     ·subst e
      rw[hc]at ha
      cases ha
      exact h1
     ·have:=ih (by omega) a c ha hc
      omega
   rw[List.pairwise_iff_getElem]
   intro i j hi hj hij
   rw[List.length_map]at hi hj
   rw[List.getElem_map,List.getElem_map]
   exact hlt i j hij _ _ (List.getElem?_eq_getElem hi) (List.getElem?_eq_getElem hj)
  ·obtain⟨k,hk⟩:=List.getElem?_of_mem hv
   have:=(h' k v hk).2
   rw[Bool.and_eq_true,decide_eq_true_iff]
   exact this
 ·rintro⟨h1,h2⟩ ⟨v,k⟩ hm
  rw[List.mem_zipIdx_iff_getElem?]at hm
  have hm:l[k]?=some v:=hm
  have h3:=h2 v (List.mem_of_getElem? hm)
  rw[Bool.and_eq_true,decide_eq_true_iff]at h3
  refine(key v _).2 ⟨?_,h3⟩
  cases k with
  | zero =>
   have:=gen_facts h3.2
   show(-1:Int) < _
   omega
  | succ k =>
   obtain⟨c,hc⟩:∃ c,l[k]?=some c:=⟨_,List.getElem?_eq_getElem (by have:=(List.getElem?_eq_some_iff.1 hm).1;omega)⟩
   have h4:prevC l (k+1)=c.car:=by show((l[k]?).map (fun v=>v.car)).getD 0=c.car;rw[hc];rfl
   show prevC l (k+1) < v.car
   rw[h4]
   rw[List.pairwise_iff_getElem]at h1
   have hk:=(List.getElem?_eq_some_iff.1 hc)
   have hk':=(List.getElem?_eq_some_iff.1 hm)
   have:=h1 k (k+1) (by rw[List.length_map];exact hk.1) (by rw[List.length_map];exact hk'.1) (by omega)
   rw[List.getElem_map,List.getElem_map,hk.2,hk'.2]at this
   exact this
set_option maxHeartbeats 4000000 in
set_option maxRecDepth 100000 in
theorem checkfn_any {wd:World}{kv:Value}{ks:List ByteArray}(hr:SS wd kv ks)(hks:∀ k∈ks,k.size≤1000)(he:Env wd)(hg:3 < wd.heap.size)(num stp:Int)(val:ByteArray)(before:Int)(b0 b1 b2 b3:Nat)(v:VoteP)(W:World)(hW:Below wd.heap.size wd W)(hb0:wd.heap.size≤b0)
  (h0:W.heap[b0]?=some (.cells #[.int .i64 before] 3 (0,0))) (h1:W.heap[b1]?=some (.cells #[.int .i64 num,.int .i64 stp] 25 (0,0))) (h2:W.heap[b2]?=some (.cells #[.string val] 9 (0,0))) (h3:W.heap[b3]?=some (.cells #[kv] 31 (0,0))) :
  Calls Tryz.prog 84 #[vagg v,.pointer (some ⟨b0,0,none⟩),.pointer (some ⟨b1,0,none⟩),.pointer (some ⟨b2,0,none⟩),.pointer (some ⟨b3,0,none⟩)] W fun e w'=>e=.returned (.bool (chkP ks num stp val before v))∧w'.heap[b0]?=some (.cells #[.int .i64 v.car] 3 (0,0))∧W.grownBy w' (some b0):=by
 obtain⟨ka,kn,kc,rfl⟩:∃ a n c,kv=.slice a n c:=by obtain⟨a,c,h,_⟩:=hr.opened;exact⟨_,_,_,h⟩
 have l0:=(ltA h0)
 have l1:=(ltA h1)
 have l2:=(ltA h2)
 have l3:=(ltA h3)
 have n01:b1≠b0:=fun e=>by subst e;rw[h0]at h1;cases h1
 have n02:b2≠b0:=fun e=>by subst e;rw[h0]at h2;cases h2
 have n03:b3≠b0:=fun e=>by subst e;rw[h0]at h3;cases h3
 -- the world behind the store
 obtain⟨W1,hW1⟩:∃ W1,W1=W.alloc (.cells #[.int .i64 v.car,.int .i64 v.num,.int .i64 v.stp,.string v.val,.string v.sl] 27):=⟨_,rfl⟩
 have HV1:Hid (W1.heap[W.heap.size]?=some (.cells #[.int .i64 v.car,.int .i64 v.num,.int .i64 v.stp,.string v.val,.string v.sl] 27 (0,0))):=zh (by rw[hW1];exact heap_alloc_new W _)
 have hs1:W1.heap.size=W.heap.size+1:=by rw[hW1];simp
 have HB1:Hid (Below W.heap.size W W1):=zh (by rw[hW1];exact br0.alloc (Nat.le_refl _) _)
 have H10:=zh ((HB1.out.block b0 l0).trans h0)
 obtain⟨W2,hW2⟩:∃ W2,W2=W1.setCell ⟨b0,0,none⟩ (.int .i64 v.car):=⟨_,rfl⟩
 have hg2:W1.grownBy W2 (some b0):=by rw[hW2];exact grown_setCell (grown_refl _ _) _ (.inl rfl) _
 have H20:Hid (W2.heap[b0]?=some (.cells #[.int .i64 v.car] 3 (0,0))):=zh (by rw[hW2];exact heap_setCell_same (i:=0) _ H10.out)
 have hk:∀(k:Nat) (o:Obj),W.heap[k]?=some o→k≠b0→W2.heap[k]?=some o:=fun k o hk hne=>(hg2.block k (by rw[hs1];have:=(ltA hk);omega) (fun e=>hne (Option.some.inj e))).trans ((HB1.out.block k (ltA hk)).trans hk)
 have HS1:=zh (hk b1 _ h1 n01)
 have HS2:=zh (hk b2 _ h2 n02)
 have HS3:=zh (hk b3 _ h3 n03)
 have HSV:Hid (W2.heap[W.heap.size]?=some (.cells #[.int .i64 v.car,.int .i64 v.num,.int .i64 v.stp,.string v.val,.string v.sl] 27 (0,0))):=zh ((hg2.block _ (by rw[hs1];omega) (fun e=>by have:=Option.some.inj e;omega)).trans HV1.out)
 have hB2:Below wd.heap.size wd W2:=((hW.trans (HB1.out.mono hW.size)).grown hg2 (Nat.le_trans hW.size HB1.out.size) (fun j e=>by cases e;exact hb0))
 have HG2:Hid (W.grownBy W2 (some b0)):=zh ⟨hg2.os.trans HB1.out.os,hg2.tape.trans HB1.out.tape,hg2.output.trans HB1.out.output,Nat.le_trans HB1.out.size hg2.size,fun k hk hne=>(hg2.block k (by rw[hs1];omega) hne).trans (HB1.out.block k hk)⟩
 have HI:=zh (isGen_any (hr.below hB2) hks v (he.below hB2 hg) (Nat.lt_of_lt_of_le hg hB2.size))
 have hsl:=fun X=>neqSlot v.num v.stp num stp X
 have hst:=same_str v.val val
 have c0:W1.cell? ⟨b0,0,none⟩=some (.int .i64 before):=cell_of_row W1 _ 0 _ _ _ H10.out
 have f0:W1.frozen? ⟨b0,0,none⟩=false:=by unfold World.frozen?;rw[H10.out];simp
 have c1:W2.cell? ⟨b1,0,none⟩=some (.int .i64 num):=cell_of_row W2 _ 0 _ _ _ HS1.out
 have c2:W2.cell? ⟨b1,1,none⟩=some (.int .i64 stp):=cell_of_row W2 _ 1 _ _ _ HS1.out
 have c3:W2.cell? ⟨b2,0,none⟩=some (.string val):=cell_of_row W2 _ 0 _ _ _ HS2.out
 have c4:W2.cell? ⟨b3,0,none⟩=some (.slice ka kn kc):=cell_of_row W2 _ 0 _ _ _ HS3.out
 obtain⟨e0,e1,e2,e3,e4⟩:=vcellsAt HSV.out
 obtain⟨q0,q1,q2,q3,q4⟩:=vcellsAt HV1.out
 have HR:Hid (chkP ks num stp val before v=(((decide (v.car≤before) || !decide (v.num=num∧v.stp=stp)) || !decide (v.val=val)) || !genV ks v)):=zh rfl
 have HW1:=zh hW1
 have HW2:=zh hW2
 clear hr hks he hg hW hb0 h0 h1 h2 h3 hW1 hW2 hg2 hk hB2 n01 n02 n03
 unfold vagg
 generalize chkP ks num stp val before v=R at *
 generalize genV ks v=G at *
 obtain⟨car,vn,vs,vv,vl⟩:=v
 simp only at HR HI hsl hst e0 e1 e2 e3 e4 q0 q1 q2 q3 q4 HW1 HW2 H20
 generalize decide (vn=num∧vs=stp)=D2 at *
 generalize decide (vv=val)=D3 at *
 cases hD:decide (car≤before)with
 | true =>
  rw[hD]at HR
  go_enter Tryz.func84,Tryz.ntmps84
  go_upto_region 1 with fail
  rw[← HW1.out]
  go_upto_region 3 with fail
  rw[← HW2.out]
  go_wp2
  go_ret
  exact⟨ret_bool (by rw[HR.out];rfl),H20.out,HG2.out⟩
 | false =>
  rw[hD]at HR
  cases D2
  ·go_enter Tryz.func84,Tryz.ntmps84
   go_upto_region 1 with fail
   rw[← HW1.out]
   go_upto_region 3 with fail
   rw[← HW2.out]
   go_wp2
   go_ret
   exact⟨ret_bool (by rw[HR.out];rfl),H20.out,HG2.out⟩
  ·cases D3
   ·go_enter Tryz.func84,Tryz.ntmps84
    go_upto_region 1 with fail
    rw[← HW1.out]
    go_upto_region 3 with fail
    rw[← HW2.out]
    go_wp2
    go_ret
    exact⟨ret_bool (by rw[HR.out];rfl),H20.out,HG2.out⟩
   ·go_enter Tryz.func84,Tryz.ntmps84
    go_upto_region 1 with fail
    rw[← HW1.out]
    go_upto_region 3 with fail
    rw[← HW2.out]
    go_wp2_with (go_at_call 65;refine HI.out.mono ?_;rintro e w3 ⟨rfl,hb3⟩)
    go_ret
    refine⟨ret_bool (by rw[HR.out];rfl),(hb3.block b0 (ltA H20.out)).trans H20.out,?_⟩
    exact⟨hb3.os.trans HG2.out.os,hb3.tape.trans HG2.out.tape,hb3.output.trans HG2.out.output,Nat.le_trans HG2.out.size hb3.size,fun k hk hne=>(hb3.block k (Nat.lt_of_lt_of_le hk HG2.out.size)).trans (HG2.out.block k hk hne)⟩
set_option maxHeartbeats 4000000 in
set_option maxRecDepth 100000 in
theorem qcheck_any {w:World}{kv x:Value}{ks:List ByteArray}{l:List VoteP}(hr:SS w kv ks)(hl:VS w x l)(num stp:Int)(val:ByteArray)(he:Env w)(hg:3 < w.heap.size) :
  Calls Tryz.prog 39 #[.agg #[kv],.agg #[.int .i64 num,.int .i64 stp],.string val,x] w fun e w'=>e=.returned (.bool (checkV ks num stp val l))∧Below w.heap.size w w':=by
 obtain⟨ka,kcap,rfl,kl1,kl2,_⟩:=hr.opened
 obtain⟨a,cap,rfl,l1,l2,_⟩:=hl.opened
 obtain⟨W3,hW3⟩:∃ W3,W3=((w.alloc (.cells #[.slice ka ks.length kcap] 31)).alloc (.cells #[.int .i64 num,.int .i64 stp] 25)).alloc (.cells #[.string val] 9):=⟨_,rfl⟩
 have hH:Below w.heap.size w W3∧W3.heap.size=w.heap.size+3∧W3.heap[w.heap.size]?=some (.cells #[.slice ka ks.length kcap] 31 (0,0))∧W3.heap[w.heap.size+1]?=some (.cells #[.int .i64 num,.int .i64 stp] 25 (0,0))∧W3.heap[w.heap.size+1+1]?=some (.cells #[.string val] 9 (0,0)):=by
  rw[hW3]
  have e:=heap_alloc_new ((w.alloc (.cells #[.slice ka ks.length kcap] 31)).alloc (.cells #[.int .i64 num,.int .i64 stp] 25)) (.cells #[.string val] 9)
  rw[World.size_alloc,World.size_alloc]at e
  exact⟨((br0.alloc (Nat.le_refl _) _).alloc (by simp) _).alloc (by simp <;> omega) _,by simp,(Below.heap_alloc _ _ _ (by simp <;> omega)).trans (at_past w _ _),(Below.heap_alloc _ _ _ (by simp)).trans (at_second w _ _),e⟩
 obtain⟨hB3,hs3,h30,h31,h32⟩:=hH
 have HB3:=zh hB3
 have HH3:=zh (And.intro h30 (And.intro h31 h32))
 have HV:=zh (qvalid_any (hr.below hB3))
 have HRR:=zh hr
 have HL:=zh hl
 have HE:=zh he
 have HG:=zh hg
 have HW3:=zh hW3
 have HRes:Hid (checkV ks num stp val l=(validC ks && (decide (l.length=enoughC ks) && !(l.zipIdx.any fun y=>chkP ks num stp val (prevC l y.2) y.1)))):=zh (by
  rw[chk_any]
  unfold checkV
  cases validC ks <;> cases decide (l.length=enoughC ks) <;> rfl)
 obtain⟨kn,hkn⟩:∃ kn,kn=ks.length:=⟨_,rfl⟩
 rw[← hkn]at HV HW3 HH3 HRR kl1 ⊢
 obtain⟨n,hn⟩:∃ n,n=l.length:=⟨_,rfl⟩
 rw[← hn]at HRes HL l1 ⊢
 generalize checkV ks num stp val l=R at *
 have c30:W3.cell? ⟨w.heap.size,0,none⟩=some (.slice ka kn kcap):=cell_of_row W3 _ 0 _ _ _ HH3.out.1
 clear hB3 h30 h31 h32 hr hl he hg hW3
 cases hv:validC ks with
 | false =>
  rw[hv]at HV HRes
  clear hkn hn hv
  go_enter Tryz.func39,Tryz.ntmps39
  go_upto_region 1 with fail
  rw[← HW3.out]
  go_wp2_with (go_at_call 53;refine HV.out.mono ?_;rintro e w4 ⟨rfl,hb4⟩)
  go_ret
  exact⟨ret_bool (by rw[HRes.out];rfl),q_next HB3.out hb4⟩
 | true =>
  rw[hv]at HV HRes
  have hk7:=valid_le hv
  have HKS:=zh (valid_sizes hv)
  obtain⟨en,hen⟩:∃ en,en=2*((kn - 1) / 3)+1:=⟨_,rfl⟩
  have HENC:Hid (∀ W,Calls Tryz.prog 79 #[.agg #[.slice ka kn kcap]] W fun e w'=>e=.returned (.int .i64 ((en:Nat):Int))∧Below W.heap.size W w'):=zh (fun W=>by
   refine(enough_any ka kn kcap W (by omega)).mono ?_
   rintro e w' ⟨rfl,rfl⟩
   rw[hen]
   exact⟨rfl,br0.alloc (Nat.le_refl _) _⟩)
  have hee:enoughC ks=en:=by rw[hen,hkn];rfl
  rw[hee]at HRes
  clear hkn hv hen hee hk7
  cases hne:decide (n=en)with
  | false =>
   have hd:((n:Int) != (en:Int))=true:=by have:=of_decide_eq_false hne;simp;omega
   rw[hne]at HRes
   clear hn hne
   go_enter Tryz.func39,Tryz.ntmps39
   go_upto_region 1 with fail
   rw[← HW3.out]
   go_wp2_with (first | (go_at_call 53;refine HV.out.mono ?_;rintro e w4 ⟨rfl,hb4⟩;have HB4:=zh hb4;clear hb4;have c40:w4.cell? ⟨w.heap.size,0,none⟩=some (.slice ka kn kcap):=cell_of_row w4 _ 0 _ _ _ ((HB4.out.block _ (by omega)).trans HH3.out.1)) | (go_at_call 79;refine(HENC.out _).mono ?_;rintro e w5 ⟨rfl,hb5⟩))
   go_ret
   exact⟨ret_bool (by rw[HRes.out];rfl),q_next HB3.out (q_next HB4.out hb5)⟩
  | true =>
   have hd:((n:Int) != (en:Int))=false:=by have:=of_decide_eq_true hne;simp;omega
   rw[hne]at HRes
   obtain⟨X,hX⟩:∃ X,X=l.zipIdx.any fun y=>chkP ks num stp val (prevC l y.2) y.1:=⟨_,rfl⟩
   rw[← hX]at HRes
   have HX:=zh hX
   clear hn hne hX
   go_enter Tryz.func39,Tryz.ntmps39
   go_upto_region 1 with fail
   rw[← HW3.out]
   go_upto_region 3 with(first | (go_at_call 53;refine HV.out.mono ?_;rintro e w4 ⟨rfl,hb4⟩;have HB4:=zh hb4;clear hb4;have c40:w4.cell? ⟨w.heap.size,0,none⟩=some (.slice ka kn kcap):=cell_of_row w4 _ 0 _ _ _ ((HB4.out.block _ (by omega)).trans HH3.out.1)) | (go_at_call 79;refine(HENC.out _).mono ?_;rintro e w5 ⟨rfl,hb5⟩;have HB5:=zh (q_next HB4.out hb5);clear hb5))
   clear c40 c30
   go_upto_region 4 with fail
   obtain⟨W6,hW6⟩:∃ W6,W6=w5.alloc (.cells #[.int .i64 (-1)] 3):=⟨_,rfl⟩
   rw[← hW6]
   have HB6:Hid (Below W3.heap.size W3 W6):=zh (by rw[hW6];exact HB5.out.alloc HB5.out.size _)
   have h60:W6.heap[w5.heap.size]?=some (.cells #[.int .i64 (-1)] 3 (0,0)):=by rw[hW6];exact heap_alloc_new w5 _
   have hs5:=HB5.out.size
   clear hW6
   have hI6:∀ k W,(Below w.heap.size w W∧W.heap[w5.heap.size]?=some (.cells #[.int .i64 (prevC l k)] 3 (0,0))∧W.heap[w.heap.size]?=some (.cells #[.slice ka kn kcap] 31 (0,0))∧W.heap[w.heap.size+1]?=some (.cells #[.int .i64 num,.int .i64 stp] 25 (0,0))∧W.heap[w.heap.size+1+1]?=some (.cells #[.string val] 9 (0,0)))→VS W (.slice a n cap) l:=fun k W h=>HL.out.below h.1
   have HC:=containsV_check w5.heap.size (w.heap.size+1) (w.heap.size+1+1) w.heap.size (fun k v=>chkP ks num stp val (prevC l k) v) _ (HL.out.below (q_next HB3.out HB6.out)) ⟨q_next HB3.out HB6.out,h60,(HB6.out.block _ (by omega)).trans HH3.out.1,(HB6.out.block _ (by omega)).trans HH3.out.2.1,(HB6.out.block _ (by omega)).trans HH3.out.2.2⟩ hI6 (fun k v W hv _ hW=>by
    refine(checkfn_any HRR.out HKS.out HE.out HG.out num stp val (prevC l k) w5.heap.size (w.heap.size+1) (w.heap.size+1+1) w.heap.size v W hW.1 (by omega) hW.2.1 hW.2.2.2.1 hW.2.2.2.2 hW.2.2.1).mono ?_
    rintro e w' ⟨rfl,h1,h2⟩
    have hpv:prevC l (k+1)=v.car:=by show((l[k]?).map (fun v=>v.car)).getD 0=v.car;rw[hv];rfl
    have hkeep:∀(q:Nat) (o:Obj),W.heap[q]?=some o→q≠w5.heap.size→w'.heap[q]?=some o:=fun q o hq hne=>(h2.block q (ltA hq) (fun e=>hne (Option.some.inj e))).trans hq
    refine⟨rfl,hW.1.grown h2 hW.1.size (fun j e=>by cases e;omega),?_,hkeep _ _ hW.2.2.1 (by omega),hkeep _ _ hW.2.2.2.1 (by omega),hkeep _ _ hW.2.2.2.2 (by omega)⟩
    rw[hpv]
    exact h1)
   rw[← HX.out]at HC
   have HCC:=zh HC
   clear HC hI6 h60 HX
   go_wp2_with (go_at_call 67;refine HCC.out.mono ?_;rintro e w7 ⟨rfl,m,h7,_⟩)
   go_ret
   exact⟨ret_bool (by rw[HRes.out];rfl),h7⟩
def BlameIs (w:World)(o:Option (List (VoteP × VoteP)))(e:Ending)(w':World):Prop:=∃ v,e=.returned (.tuple #[v,.int .i64 (if o.isSome then 0 else 190)])∧DS w' v (o.getD [])∧Below w.heap.size w w'
theorem blameIs_none {w w':World}{e:Ending}(h:e=.returned (.tuple #[.slice none 0 0,.int .i64 190]))(hb:Below w.heap.size w w'):BlameIs w none e w':=⟨_,h,DS.nil _,hb⟩
theorem blameV_nil2 (ks:List ByteArray)(a:List VoteP):blameV ks a []=none:=by cases a <;> rfl
set_option maxHeartbeats 8000000 in
set_option maxRecDepth 100000 in
theorem blame_short {w:World}{kv x y:Value}{ks:List ByteArray}{a b:List VoteP}(ha:VS w x a)(hb:VS w y b)(hk:∃ p n c,kv=.slice p n c)(h:a=[]∨b=[]) :
  Calls Tryz.prog 31 #[.agg #[kv],x,y] w (BlameIs w (blameV ks a b)):=by
 obtain⟨ka,kn,kc,rfl⟩:=hk
 obtain⟨aa,ac,rfl,_,_,_⟩:=ha.opened
 obtain⟨ba,bc,rfl,_,_,_⟩:=hb.opened
 have HN:Hid (blameV ks a b=none):=zh (by
  rcases h with h | h
  ·subst h;rfl
  ·subst h;exact blameV_nil2 _ _)
 obtain⟨W1,hW1⟩:∃ W1,W1=w.alloc (.cells #[.slice ka kn kc] 31):=⟨_,rfl⟩
 have HB1:Hid (Below w.heap.size w W1):=zh (by rw[hW1];exact br0.alloc (Nat.le_refl _) _)
 have HW1:=zh hW1
 have hcase:(a.length=0)∨(a.length≠0∧b.length=0):=by
  rcases h with h | h
  ·exact .inl (by rw[h];rfl)
  ·by_cases e:a.length=0
   ·exact .inl e
   ·exact .inr ⟨e,by rw[h];rfl⟩
 clear ha hb h hW1
 generalize a.length=na at *
 generalize b.length=nb at *
 rcases hcase with rfl | ⟨hna,rfl⟩
 ·go_enter Tryz.func31,Tryz.ntmps31
  go_upto_region 1 with fail
  rw[← HW1.out]
  refine wp_region_noPanic ?_
  refine wp_region_lexB [.q 0,.q 1,.q 2,.q 3,.q 4,.q 5,.q 6,.q 7,.q 8,.q 9,.q 10,.q 11,.q 12,.q 13,.q 14,.q 15,.q 16,.q 17,.q 18,.q 19,.q 20,.q 21,.q 22,.q 23,.q 24,.q 25,.q 26,.q 27,.q 28,.q 29,.q 30,.q 31,.q 32,.q 33,.q 34,.q 35,.q 36,.q 37,.q 38,.q 39,.q 40,.q 41,.q 42,.q 43,.q 44,.q 45,.q 46,.q 47,.q 48,.q 49,.q 50,.q 51,.q 52,.q 53,.q 54,.q 55,.q 56,.q 57] (by kernel_rfl) (by kernel_rfl) (fun _ _ _ _ h=>h) ?_
  iterate 4(refine wpFl_qL (v:=?_) rfl (Or.inl ⟨by rfl,?_⟩) ?_;rotate_left;(focus(intro w' hSw;go_simp;(try with_reducible rfl);done));simp only[Act.put,zzA,zzB,zzC])
  iterate 3(refine wpFl_qL (v:=undef) rfl (Or.inr ⟨by rfl,rfl⟩) ?_;simp only[Act.put,zzA,zzB,zzC])
  refine wpFl_qL (v:=?_) rfl (Or.inl ⟨by rfl,?_⟩) ?_
  rotate_left
  focus(intro w' hSw;go_simp;(try with_reducible rfl);done)
  simp only[Act.put,zzA,zzB,zzC]
  refine wpFl_qL (v:=?_) rfl (Or.inl ⟨by rfl,?_⟩) ?_
  rotate_left
  focus(intro w' hSw;go_simp;(try with_reducible rfl);done)
  simp only[Act.put,zzA,zzB,zzC]
  iterate 9(refine wpFl_qL (v:=undef) rfl (Or.inr ⟨by rfl,rfl⟩) ?_;simp only[Act.put,zzA,zzB,zzC])
  refine wpFl_qL (v:=?_) rfl (Or.inl ⟨by rfl,?_⟩) ?_
  rotate_left
  focus(intro w' hSw;go_simp;(try with_reducible rfl);done)
  simp only[Act.put,zzA,zzB,zzC]
  refine wpFl_qL (v:=?_) rfl (Or.inl ⟨by rfl,?_⟩) ?_
  rotate_left
  focus(intro w' hSw;go_simp;(try with_reducible rfl);done)
  simp only[Act.put,zzA,zzB,zzC]
  iterate 9(refine wpFl_qL (v:=undef) rfl (Or.inr ⟨by rfl,rfl⟩) ?_;simp only[Act.put,zzA,zzB,zzC])
  refine wpFl_qL (v:=?_) rfl (Or.inl ⟨by rfl,?_⟩) ?_
  rotate_left
  focus(intro w' hSw;go_simp;(try with_reducible rfl);done)
  simp only[Act.put,zzA,zzB,zzC]
  refine wpFl_qL (v:=?_) rfl (Or.inl ⟨by rfl,?_⟩) ?_
  rotate_left
  focus(intro w' hSw;go_simp;(try with_reducible rfl);done)
  simp only[Act.put,zzA,zzB,zzC]
  iterate 12(refine wpFl_qL (v:=undef) rfl (Or.inr ⟨by rfl,rfl⟩) ?_;simp only[Act.put,zzA,zzB,zzC])
  refine wpFl_qL (v:=?_) rfl (Or.inl ⟨by rfl,?_⟩) ?_
  rotate_left
  focus(intro w' hSw;go_simp;(try with_reducible rfl);done)
  simp only[Act.put,zzA,zzB,zzC]
  refine wpFl_qL (v:=?_) rfl (Or.inl ⟨by rfl,?_⟩) ?_
  rotate_left
  focus(intro w' hSw;go_simp;(try with_reducible rfl);done)
  simp only[Act.put,zzA,zzB,zzC]
  iterate 12(refine wpFl_qL (v:=undef) rfl (Or.inr ⟨by rfl,rfl⟩) ?_;simp only[Act.put,zzA,zzB,zzC])
  refine wpFl_qL (v:=?_) rfl (Or.inl ⟨by rfl,?_⟩) ?_
  rotate_left
  focus(intro w' hSw;go_simp;(try with_reducible rfl);done)
  simp only[Act.put,zzA,zzB,zzC]
  refine wpFl_nil ?_
  refine NoPanic.normal ?_
  go_wp2
  go_ret2
  rw[HN.out]
  exact blameIs_none rfl (q_next HB1.out (Below.drew br0))
 ·have hd:((na:Int) == 0)=false:=by simp;omega
  go_enter Tryz.func31,Tryz.ntmps31
  go_upto_region 1 with fail
  rw[← HW1.out]
  refine wp_region_noPanic ?_
  refine wp_region_lexB [.q 0,.q 1,.q 2,.q 3,.q 4,.q 5,.q 6,.q 7,.q 8,.q 9,.q 10,.q 11,.q 12,.q 13,.q 14,.q 15,.q 16,.q 17,.q 18,.q 19,.q 20,.q 21,.q 22,.q 23,.q 24,.q 25,.q 26,.q 27,.q 28,.q 29,.q 30,.q 31,.q 32,.q 33,.q 34,.q 35,.q 36,.q 37,.q 38,.q 39,.q 40,.q 41,.q 42,.q 43,.q 44,.q 45,.q 46,.q 47,.q 48,.q 49,.q 50,.q 51,.q 52,.q 53,.q 54,.q 55,.q 56,.q 57] (by kernel_rfl) (by kernel_rfl) (fun _ _ _ _ h=>h) ?_
  iterate 4(refine wpFl_qL (v:=?_) rfl (Or.inl ⟨by rfl,?_⟩) ?_;rotate_left;(focus(intro w' hSw;go_simp;(try with_reducible rfl);done));simp only[Act.put,zzA,zzB,zzC])
  iterate 3(refine wpFl_qL (v:=?_) rfl (Or.inl ⟨by rfl,?_⟩) ?_;rotate_left;(focus(intro w' hSw;go_simp;(try with_reducible rfl);done));simp only[Act.put,zzA,zzB,zzC])
  refine wpFl_qL (v:=?_) rfl (Or.inl ⟨by rfl,?_⟩) ?_
  rotate_left
  focus(intro w' hSw;go_simp;(try with_reducible rfl);done)
  simp only[Act.put,zzA,zzB,zzC]
  refine wpFl_qL (v:=?_) rfl (Or.inl ⟨by rfl,?_⟩) ?_
  rotate_left
  focus(intro w' hSw;go_simp;(try with_reducible rfl);done)
  simp only[Act.put,zzA,zzB,zzC]
  iterate 9(refine wpFl_qL (v:=undef) rfl (Or.inr ⟨by rfl,rfl⟩) ?_;simp only[Act.put,zzA,zzB,zzC])
  refine wpFl_qL (v:=?_) rfl (Or.inl ⟨by rfl,?_⟩) ?_
  rotate_left
  focus(intro w' hSw;go_simp;(try with_reducible rfl);done)
  simp only[Act.put,zzA,zzB,zzC]
  refine wpFl_qL (v:=?_) rfl (Or.inl ⟨by rfl,?_⟩) ?_
  rotate_left
  focus(intro w' hSw;go_simp;(try with_reducible rfl);done)
  simp only[Act.put,zzA,zzB,zzC]
  iterate 9(refine wpFl_qL (v:=undef) rfl (Or.inr ⟨by rfl,rfl⟩) ?_;simp only[Act.put,zzA,zzB,zzC])
  refine wpFl_qL (v:=?_) rfl (Or.inl ⟨by rfl,?_⟩) ?_
  rotate_left
  focus(intro w' hSw;go_simp;(try with_reducible rfl);done)
  simp only[Act.put,zzA,zzB,zzC]
  refine wpFl_qL (v:=?_) rfl (Or.inl ⟨by rfl,?_⟩) ?_
  rotate_left
  focus(intro w' hSw;go_simp;(try with_reducible rfl);done)
  simp only[Act.put,zzA,zzB,zzC]
  iterate 12(refine wpFl_qL (v:=undef) rfl (Or.inr ⟨by rfl,rfl⟩) ?_;simp only[Act.put,zzA,zzB,zzC])
  refine wpFl_qL (v:=?_) rfl (Or.inl ⟨by rfl,?_⟩) ?_
  rotate_left
  focus(intro w' hSw;go_simp;(try with_reducible rfl);done)
  simp only[Act.put,zzA,zzB,zzC]
  refine wpFl_qL (v:=?_) rfl (Or.inl ⟨by rfl,?_⟩) ?_
  rotate_left
  focus(intro w' hSw;go_simp;(try with_reducible rfl);done)
  simp only[Act.put,zzA,zzB,zzC]
  iterate 12(refine wpFl_qL (v:=undef) rfl (Or.inr ⟨by rfl,rfl⟩) ?_;simp only[Act.put,zzA,zzB,zzC])
  refine wpFl_qL (v:=?_) rfl (Or.inl ⟨by rfl,?_⟩) ?_
  rotate_left
  focus(intro w' hSw;go_simp;(try with_reducible rfl);done)
  simp only[Act.put,zzA,zzB,zzC]
  refine wpFl_nil ?_
  refine NoPanic.normal ?_
  go_wp2
  go_ret2
  rw[HN.out]
  exact blameIs_none rfl (q_next HB1.out (Below.drew br0))
end Go.Proofs.YtggdcnjaofflbaaGreatDoor
