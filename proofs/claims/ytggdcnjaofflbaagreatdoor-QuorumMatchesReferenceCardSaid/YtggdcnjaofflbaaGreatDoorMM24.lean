/- Append at votes: of one, where the row comes to lie; of a whole slice. The conditions: what the rows hold, lengths. -/
import Derived.Deep.Upon
import Derived.Test.YtggdcnjaofflbaaGreatDoorMM23
import Derived.Deep.AppendSrc
namespace Go.Proofs.YtggdcnjaofflbaaGreatDoor
open Go.RowKit Go.BigFrame
theorem flat_get:∀(m:List VoteP) (j:Nat) (u:Value),(m.map vcells).flatten[j]?=some u→∃ k i v,m[k]?=some v∧(vcells v)[i]?=some u∧j=k*5+i
 | [],j,u,h=>by simp at h
 | v::m,j,u,h=>by
  rw[List.map_cons,List.flatten_cons]at h
  have h5:(vcells v).length=5:=rfl
  rcases Nat.lt_or_ge j 5 with hj | hj
  ·rw[List.getElem?_append_left (by omega)]at h
   exact⟨0,j,v,rfl,h,by omega⟩
  ·rw[List.getElem?_append_right (by omega),h5]at h
   obtain⟨k,i,v',h1,h2,h3⟩:=flat_get m (j - 5) u h
   exact⟨k+1,i,v',h1,h2,by rw[Nat.succ_mul];omega⟩
theorem flat_len:∀ m:List VoteP,(m.map vcells).flatten.length=m.length*5
 | []=>rfl
 | v::m=>by
  rw[List.map_cons,List.flatten_cons,List.length_append,flat_len m,List.length_cons,Nat.succ_mul]
  have h5:(vcells v).length=5:=rfl
  omega
section
variable {ops:Array Oper} {rest:List Oper} {o:Oper} {a:Act} {w:World} {Q:Exit→Act→World→Prop}
theorem wpList_append_votes (s x:Operand)(base:Nat)(v:Value)(l m:List VoteP)(vy:Value)(hown:OwnV w base v l)(hy:VS w vy m)(hlen:l.length+m.length≤1000000)(hbase:base≤w.heap.size)
  (hgd:o.guard=none) (ho:o.op=.call { callee:=.builtin .append,args:=#[s,x],argTypes:=#[35,35] }) (hs:a.eval s=v) (hx:a.eval x=vy)
  (h:∀ v' w',OwnV w' base v' (l++m)→w.grownBy w' v.ownBlock→wpList Tryz.prog ops Q rest (a.put o.dst v') w'):wpList Tryz.prog ops Q (o::rest) a w:=by
 obtain⟨i,i1,i2,i3,i4⟩:=info_parts infoVote3
 have hlv:(l.map vcells).length=l.length:=List.length_map ..
 obtain⟨ad,cap,rfl,_,_,hc⟩:=hy.opened
 rcases Nat.eq_zero_or_pos m.length with h0 | h0
 ·have hm:m=[]:=List.eq_nil_of_length_eq_zero h0
  subst hm
  obtain⟨va,vc,hv,hle⟩:∃ va vc,v=.slice va l.length vc∧l.length≤vc:=by
   rcases hown.2 with⟨e1,e2⟩ | ⟨g,c,cur,e1,_,_,e4,_⟩
   ·rw[hlv]at e2
    exact⟨none,0,by rw[e1,e2],by omega⟩
   ·rw[hlv]at e1 e4
    exact⟨_,_,e1,e4⟩
  subst hv
  have hsrc:Src Tryz.prog i.size 35 (.slice ad ([]:List VoteP).length cap) 0 [] w:=by
   rw[List.length_nil]
   cases ad with
   | none=>exact Src.ofNil w (e':=27) (by kernel_rfl) cap
   | some ad=>exact Src.ofSlice w (e':=27) (by kernel_rfl) ad 0 cap [] (by simp) (by simp) (by simp)
  refine wpList_run hgd ?_ (h _ w (by rw[List.append_nil];exact hown) (grown_refl _ _))
  have hr:=run_append_nothing w 35 35 o.type 27 i (by kernel_rfl) i1 va l.length vc hle _ hsrc
  unfold execOp
  simp only[ho,resolve,invoke,builtin,Sem.run_bind,Sem.run_pure,Result.andThen_ok,List.map_toArray,List.map_cons,List.map_nil,hs,hx,hr]
 ·obtain⟨b,off,rfl,hb,_⟩:=hc 0 _ (List.getElem?_eq_getElem h0)
  refine wpList_append_own w hgd s x 35 ho base 27 i _ 5 56 (by kernel_rfl) i1 i2 i3 i4 rfl (by decide) v _ _ hs hown ⟨b,off,none⟩ m.length cap (m.map vcells).flatten hx ?_ ?_ ?_ (by rw[hlv];unfold maxLen;omega) (by rw[hlv];omega) hbase ?_
  ·exact flat_len m
  ·intro j u hj
   obtain⟨k,i',y,hk,hi',rfl⟩:=flat_get m j u hj
   obtain⟨b',o',e,_,c0,c1,c2,c3,c4⟩:=hc k y hk
   cases e
   rw[Addr.add_mid,← Nat.add_assoc]
   match i',hi' with
   | 0,hi'=>cases hi';exact c0
   | 1,hi'=>cases hi';exact c1
   | 2,hi'=>cases hi';exact c2
   | 3,hi'=>cases hi';exact c3
   | 4,hi'=>cases hi';exact c4
  ·intro u hu
   obtain⟨c,hc1,hu⟩:=List.mem_flatten.1 hu
   obtain⟨y,_,rfl⟩:=List.mem_map.1 hc1
   simp only[vcells,List.mem_cons,List.not_mem_nil,or_false]at hu
   rcases hu with rfl | rfl | rfl | rfl | rfl <;> rfl
  ·intro v' w' h1 h2 _
   refine h v' w' ?_ h2
   unfold OwnV OwnE
   rw[List.map_append,List.length_append,List.flatten_append,hlv,List.length_map]
   rw[hlv]at h1
   exact h1
end
set_option maxHeartbeats 8000000 in
set_option maxRecDepth 100000 in
theorem rprove19_any {w:World}{kv x:Value}{ks:List ByteArray}{l:List VoteP}(hr:SS w kv ks)(hks:∀ k∈ks,k.size≤1000)(hx:VS w x l)(num stp:Int)(val:ByteArray)(hkn:ks.length≤1000) :
  Calls Tryz.prog 30 #[.agg #[kv],.agg #[.int .i64 num,.int .i64 stp],.string val,x] w (ProveIs w (proveV ks num stp val l)):=by
 obtain⟨ka,kc,hke,-,-,-⟩:=hr.opened
 obtain⟨kn,hkn2⟩:∃ n,n=ks.length:=⟨_,rfl⟩
 rw[← hkn2]at hke hkn
 subst hke
 have HKN:=zh hkn2
 obtain⟨la,lc,hxe,hll,hlm,-⟩:=hx.opened
 subst hxe
 obtain⟨N,hN⟩:∃ N,N=l.length:=⟨_,rfl⟩
 rw[← hN]at hll hx ⊢
 have HN:=zh hN
 have hN9:N≤9223372036854775807:=by unfold maxLen at hlm;omega
 obtain⟨W1,hW1⟩:∃ W1,W1=w.alloc (.cells #[.slice ka kn kc] 31):=⟨_,rfl⟩
 have HB1:Below w.heap.size w W1:=by rw[hW1];exact br0.alloc (Nat.le_refl _) _
 have hs1:W1.heap.size=w.heap.size+1:=by rw[hW1];simp
 have HX1:W1.heap[w.heap.size]?=some (.cells #[.slice ka kn kc] 31 (0,0)):=by rw[hW1];exact heap_alloc_new w _
 obtain⟨W2,hW2⟩:∃ W2,W2=W1.alloc (.cells #[.int .i64 num,.int .i64 stp] 25):=⟨_,rfl⟩
 have HB2:Below W1.heap.size W1 W2:=by rw[hW2];exact br0.alloc (Nat.le_refl _) _
 have hs2:W2.heap.size=w.heap.size+2:=by rw[hW2];simp[hs1]
 have HX2:W2.heap[w.heap.size+1]?=some (.cells #[.int .i64 num,.int .i64 stp] 25 (0,0)):=by rw[hW2,← hs1];exact heap_alloc_new W1 _
 have HBA:=zh (HB1.trans (HB2.mono HB1.size))
 have HY1:=zh (fun W (hW:Below W2.heap.size W2 W)=>And.intro (cell_of_row W _ 0 _ _ _ (((q_next HB2 hW).block _ (by omega)).trans HX1)) (two_at ((hW.block _ (by omega)).trans HX2)))
 have HW1:=zh hW1
 have HW2:=zh hW2
 have HRV:=zh (fun W (hW:Below W2.heap.size W2 W)=>rvalid_any (hr.below (q_next HBA.out hW)))
 have HRQ:=zh (fun W=>rquorum_any ka kn kc W hkn)
 have HFI:=zh (fun W (hW:Below W2.heap.size W2 W) (i:Nat) o ho=>rfind_any (hr.below (q_next HBA.out hW)) hks (hx.below (q_next HBA.out hW)) (i:Int) num stp val o ho)
 obtain⟨q,hq⟩:∃ q,q=2*((kn - 1) / 3)+1:=⟨_,rfl⟩
 have hq9:q≤3000:=by omega
 rw[← hq]at HRQ
 have HEN:Hid (enoughC ks=q):=zh (by unfold enoughC;rw[← hkn2,hq])
 obtain⟨va,hva⟩:∃ b,b=validC ks:=⟨_,rfl⟩
 rw[← hva]at HRV
 have HVA:=zh hva
 obtain⟨c0,t0,t1⟩:=HY1.out W2 br0
 obtain⟨R,hR⟩:∃ R,R=proveV ks num stp val l:=⟨_,rfl⟩
 rw[← hR]
 have HRR:=zh hR
 have HS0:Hid (OwnV W2 W2.heap.size (.slice none 0 0) (upTo ks num stp val l 0)):=zh (OwnE.nil _ _ _ _)
 clear hW1 hW2 HB1 HB2 HX1 HX2 hs1 hs2 hr hks hx hN hll hlm hq hva hR hkn2
 go_enter Tryz.func30,Tryz.ntmps30
 go_upto_region 1 with fail
 rw[← HW1.out,← HW2.out]
 cases va with
 | false =>
  have hno:R=none:=by rw[HRR.out];exact prove_bad (by unfold isPool;rw[← HVA.out];rfl)
  have HNO:=zh hno
  clear hno
  go_wp2_with (go_at_call 59;(with_reducible refine(HRV.out _ br0).mono ?_);rintro e wa ⟨rfl,ha⟩)
  exact bodyPost_ret (results_tmp2 rfl _ _ _) rfl (by rw[HNO.out];exact proveIs_none rfl (HBA.out.trans (ha.mono HBA.out.size)))
 | true =>
  by_cases h60:N≤60
  ·have hgt:¬ (60:Int) < (N:Int):=by omega
   go_upto_block 0 with(go_at_call 59;(with_reducible refine(HRV.out _ br0).mono ?_);clear c0 t0 t1;rintro e wa ⟨rfl,ha⟩)
   have HPL:Hid (isPool ks l=true):=zh (by unfold isPool;rw[← HVA.out,← HN.out,decide_eq_true h60];rfl)
   have HS1:=zh (OwnE.far HS0.out ha (Nat.le_refl _))
   have HBa:=zh ha
   have h00:(upTo ks num stp val l 0).length≤q:=by show 0≤q;omega
   clear ha HS0
   go_wp2
   go_loopw [10,11] (fun v i wr=>∃(k:Nat) (v':Value),k≤kn∧v=v'∧i=.int .i64 k∧(upTo ks num stp val l k).length≤q∧Hid (OwnV wr W2.heap.size v' (upTo ks num stp val l k))∧Hid (Below W2.heap.size W2 wr)) (fun _ i _=>kn - (intOf i).toNat)
   case atStart=>exact⟨0,_,by omega,rfl,rfl,h00,HS1,HBa⟩
   case round =>
    clear HS1 HBa h00
    obtain⟨k,v',hk,rfl,rfl,hle,hO,hB⟩:=hrel
    obtain⟨va,vc,hv⟩:=hO.out.form
    subst hv
    obtain⟨n,hn⟩:∃ n,n=(upTo ks num stp val l k).length:=⟨_,rfl⟩
    rw[← hn]at hO hle ⊢
    have HNN:=zh hn
    clear hn
    obtain⟨c0,t0,t1⟩:=HY1.out wr hB.out
    have HBx:=hB
    have HOx:=hO
    clear hB hO
    by_cases hlt:k < kn
    ·have tk:(k:Int) < (kn:Int):=by omega
     by_cases hlq:n < q
     ·have tq:(n:Int) < (q:Int):=by omega
      go_upto_region 7 with(go_at_call 72;(with_reducible refine(HRQ.out _).mono ?_);clear c0 t0 t1;rintro e wx ⟨rfl,hx⟩;replace HOx:=zh (OwnE.far HOx.out hx (Nat.le_refl _));replace HBx:=zh (q_next HBx.out hx);obtain⟨c0,t0,t1⟩:=HY1.out wx HBx.out)
      have HUP:=zh (upTo_snoc ks num stp val l k)
      have HFD:=zh (HFI.out wx HBx.out k _ (find_votes HVA.out.symm num stp val k l))
      obtain⟨b,hb⟩:∃ b,b=votesFor ks num stp val l k:=⟨_,rfl⟩
      rw[← hb]at HFD HUP
      obtain⟨z,hz⟩:∃ z,z=mkV ks num stp val k:=⟨_,rfl⟩
      rw[← hz]at HFD HUP
      obtain⟨zc,zn,zs,zv,zl⟩:=z
      clear hb hz
      cases b with
      | false =>
       simp only[Bool.false_eq_true,if_false,findR,List.append_nil]at HFD HUP
       go_wp2_with (go_at_call 73;(with_reducible refine HFD.out.mono ?_);rintro e wy ⟨rfl,hy⟩)
       go_roundw
       case rel=>exact⟨k+1,_,by omega,rfl,by go_num,by rw[HUP.out,← HNN.out];exact hle,zh (by rw[HUP.out];exact OwnE.alloc (OwnE.far HOx.out hy (Nat.le_refl _)) _),zh ((q_next HBx.out hy).alloc (q_next HBx.out hy).size _)⟩
       case measure=>simp[intOf];omega
      | true =>
       simp only[if_true,findR,vagg]at HFD HUP
       go_upto_region 8 with(go_at_call 73;(with_reducible refine HFD.out.mono ?_);rintro e wy ⟨rfl,hy⟩)
       have HBy:=zh (q_next HBx.out hy)
       have HOy:=zh (OwnE.far HOx.out hy (Nat.le_refl _))
       clear hy
       obtain⟨wk,hwk⟩:∃ W,W=wy.alloc (.cells #[.int .i64 zc,.int .i64 zn,.int .i64 zs,.string zv,.string zl] 27):=⟨_,rfl⟩
       have HV_wk:Hid (wk.heap[wy.heap.size]?=some (.cells #[.int .i64 zc,.int .i64 zn,.int .i64 zs,.string zv,.string zl] 27 (0,0))):=zh (by rw[hwk];exact heap_alloc_new wy _)
       have HS_wk:Hid (Below wy.heap.size wy wk):=zh (by rw[hwk];exact br0.alloc (Nat.le_refl _) _)
       have HB_wk:=zh (q_next HBy.out HS_wk.out)
       rw[← hwk]
       obtain⟨vb,hvb⟩:∃ b,b=wy.heap.size:=⟨_,rfl⟩
       rw[← hvb]at HV_wk ⊢
       clear hwk hvb
       obtain⟨y0,y1,y2,y3,y4⟩:=vcellsAt HV_wk.out
       have HOk:=zh (OwnE.far HOy.out HS_wk.out (Nat.le_refl _))
       have HOA:Hid (OwnV (wk.alloc (.cells #[.int .i64 zc,.int .i64 zn,.int .i64 zs,.string zv,.string zl] 27)) W2.heap.size _ (upTo ks num stp val l k)):=zh (OwnE.alloc HOk.out _)
       have HNA:=zh (heap_alloc_new wk (.cells #[.int .i64 zc,.int .i64 zn,.int .i64 zs,.string zv,.string zl] 27))
       have HBB:=zh (HB_wk.out.alloc HB_wk.out.size (.cells #[.int .i64 zc,.int .i64 zn,.int .i64 zs,.string zv,.string zl] 27))
       have hlen:(upTo ks num stp val l k).length≤1000000:=by rw[← HNN.out];omega
       go_wp2_with (at_builtin;refine wpList_append_vote _ _ W2.heap.size _ (upTo ks num stp val l k) ⟨zc,zn,zs,zv,zl⟩ wk.heap.size _ HOA.out hlen HBB.out.size HNA.out rfl rfl rfl rfl ?_;intro v7 w12 hown7 hgr7;have HO7:=zh hown7;have HB7:=zh (HBB.out.grown hgr7 HBB.out.size (fun j e=>OwnE.ge HOA.out j e));clear hown7 hgr7)
       go_roundw
       case rel=>exact⟨k+1,_,by omega,rfl,by go_num,by rw[HUP.out,List.length_append,← HNN.out];simp;omega,zh (by rw[HUP.out];exact HO7.out),HB7⟩
       case measure=>simp[intOf];omega
     ·have tq:¬ (n:Int) < (q:Int):=by omega
      have hnq:n=q:=by omega
      have HRES:=zh (HRR.out.trans (prove_full (ks:=ks) (num:=num) (stp:=stp) (val:=val) (pool:=l) (i:=k) HPL.out (by rw[← HKN.out];exact hk) (by rw[HEN.out,← HNN.out];exact hnq)))
      clear hnq
      go_wp2_with (go_at_call 72;(with_reducible refine(HRQ.out _).mono ?_);clear c0 t0 t1;rintro e wx ⟨rfl,hx⟩;replace HOx:=zh (OwnE.far HOx.out hx (Nat.le_refl _));replace HBx:=zh (q_next HBx.out hx);obtain⟨c0,t0,t1⟩:=HY1.out wx HBx.out)
      exact bodyPost_ret (results_tmp2 rfl _ _ _) rfl (by rw[HRES.out];exact⟨_,rfl,OwnV.vs HOx.out,HBA.out.trans (HBx.out.mono HBA.out.size)⟩)
    ·have tk:¬ (k:Int) < (kn:Int):=by omega
     obtain rfl:k=kn:=by omega
     by_cases hlq:n < q
     ·have tq:(n:Int) < (q:Int):=by omega
      have HRES:=zh (HRR.out.trans (prove_less (ks:=ks) (num:=num) (stp:=stp) (val:=val) (pool:=l) (by rw[← HKN.out,HEN.out,← HNN.out];exact hlq)))
      go_wp2_with (go_at_call 72;(with_reducible refine(HRQ.out _).mono ?_);clear c0 t0 t1;rintro e wx ⟨rfl,hx⟩;replace HOx:=zh (OwnE.far HOx.out hx (Nat.le_refl _));replace HBx:=zh (q_next HBx.out hx);obtain⟨c0,t0,t1⟩:=HY1.out wx HBx.out)
      exact bodyPost_ret (results_tmp2 rfl _ _ _) rfl (by rw[HRES.out];exact proveIs_none rfl (HBA.out.trans (HBx.out.mono HBA.out.size)))
     ·have tq:¬ (n:Int) < (q:Int):=by omega
      have hnq:n=q:=by omega
      have HRES:=zh (HRR.out.trans (prove_full (ks:=ks) (num:=num) (stp:=stp) (val:=val) (pool:=l) (i:=k) HPL.out (by rw[← HKN.out];exact Nat.le_refl _) (by rw[HEN.out,← HNN.out];exact hnq)))
      clear hnq
      go_wp2_with (go_at_call 72;(with_reducible refine(HRQ.out _).mono ?_);clear c0 t0 t1;rintro e wx ⟨rfl,hx⟩;replace HOx:=zh (OwnE.far HOx.out hx (Nat.le_refl _));replace HBx:=zh (q_next HBx.out hx);obtain⟨c0,t0,t1⟩:=HY1.out wx HBx.out)
      exact bodyPost_ret (results_tmp2 rfl _ _ _) rfl (by rw[HRES.out];exact⟨_,rfl,OwnV.vs HOx.out,HBA.out.trans (HBx.out.mono HBA.out.size)⟩)
  ·have hgt:(60:Int) < (N:Int):=by omega
   have hno:R=none:=by rw[HRR.out];exact prove_bad (by unfold isPool;rw[← HN.out,decide_eq_false h60];simp)
   have HNO:=zh hno
   clear hno
   go_wp2_with (go_at_call 59;(with_reducible refine(HRV.out _ br0).mono ?_);rintro e wa ⟨rfl,ha⟩)
   exact bodyPost_ret (results_tmp2 rfl _ _ _) rfl (by rw[HNO.out];exact proveIs_none rfl (HBA.out.trans (ha.mono HBA.out.size)))
set_option maxHeartbeats 4000000 in
theorem rbefore_any (a b:VoteP)(w:World) :
  Calls Tryz.prog 131 #[vagg a,vagg b] w fun e w'=>e=.returned (.bool (decide (ltV a b)))∧Below w.heap.size w w':=by
 obtain⟨ac,an,at1,av,al⟩:=a
 obtain⟨bc,bn,bt1,bv,bl⟩:=b
 obtain⟨W1,hW1⟩:∃ W1,W1=w.alloc (.cells #[.int .i64 ac,.int .i64 an,.int .i64 at1,.string av,.string al] 27):=⟨_,rfl⟩
 have HB1:Hid (Below w.heap.size w W1):=zh (by rw[hW1];exact br0.alloc (Nat.le_refl _) _)
 have HX1:Hid (W1.heap[w.heap.size]?=some (.cells #[.int .i64 ac,.int .i64 an,.int .i64 at1,.string av,.string al] 27 (0,0))):=zh (by rw[hW1];exact heap_alloc_new w _)
 obtain⟨W2,hW2⟩:∃ W2,W2=W1.alloc (.cells #[.int .i64 bc,.int .i64 bn,.int .i64 bt1,.string bv,.string bl] 27):=⟨_,rfl⟩
 have HB2:Hid (Below W1.heap.size W1 W2):=zh (by rw[hW2];exact br0.alloc (Nat.le_refl _) _)
 have HX2:Hid (W2.heap[W1.heap.size]?=some (.cells #[.int .i64 bc,.int .i64 bn,.int .i64 bt1,.string bv,.string bl] 27 (0,0))):=zh (by rw[hW2];exact heap_alloc_new W1 _)
 have HB12:=zh (HB1.out.trans (HB2.out.mono HB1.out.size))
 have HW1:=zh hW1
 have HW2:=zh hW2
 have hsz:W1.heap.size=w.heap.size+1:=by rw[hW1];simp
 rw[hsz]at HX2
 obtain⟨d0,d1,d2,d3,d4⟩:=vcellsAt ((HB2.out.block _ (ltA HX1.out)).trans HX1.out)
 obtain⟨e0,e1,e2,e3,e4⟩:=vcellsAt HX2.out
 clear hW1 hW2
 obtain⟨r,hr⟩:∃ r,r=decide (ltV ⟨ac,an,at1,av,al⟩ ⟨bc,bn,bt1,bv,bl⟩):=⟨_,rfl⟩
 rw[← hr]
 have HR:=zh hr
 simp only[vagg]
 have hsv:=same_str av bv
 have hlv:Op.bytesLess av.toList bv.toList=decide (av.toList < bv.toList):=bytesLess_eq ..
 have hll:Op.bytesLess al.toList bl.toList=decide (al.toList < bl.toList):=bytesLess_eq ..
 clear hr
 by_cases h1:ac=bc
 ·subst h1
  by_cases h2:an=bn
  ·subst h2
   by_cases h3:at1=bt1
   ·subst h3
    by_cases h4:av=bv
    ·subst h4
     have hrr:r=decide (al.toList < bl.toList):=by
      rw[HR.out]
      refine decide_eq_decide.2 ?_
      unfold ltV
      simp[u8l_irrefl]
     rw[hrr]
     go_enter Tryz.func131,Tryz.ntmps131
     go_upto_region 1 with fail
     rw[← HW1.out,← HW2.out]
     go_wp2
     go_ret
     exact⟨rfl,HB12.out⟩
    ·rw[decide_eq_false h4]at hsv
     have hne:¬ av.toList=bv.toList:=fun e=>h4 (by rw[ByteArray.toList_eq,ByteArray.toList_eq]at e;cases av;cases bv;rename_i x y;exact congrArg ByteArray.mk (Array.toList_inj.1 e))
     have hrr:r=decide (av.toList < bv.toList):=by
      rw[HR.out]
      refine decide_eq_decide.2 ?_
      unfold ltV
      simp[hne]
     rw[hrr]
     go_enter Tryz.func131,Tryz.ntmps131
     go_upto_region 1 with fail
     rw[← HW1.out,← HW2.out]
     go_wp2
     go_ret
     exact⟨rfl,HB12.out⟩
   ·have hq3:(at1 != bt1)=true:=by simp[h3]
    have hrr:r=decide (at1 < bt1):=by
     rw[HR.out]
     refine decide_eq_decide.2 ?_
     unfold ltV
     simp[h3]
    rw[hrr]
    go_enter Tryz.func131,Tryz.ntmps131
    go_upto_region 1 with fail
    rw[← HW1.out,← HW2.out]
    go_wp2
    go_ret
    exact⟨rfl,HB12.out⟩
  ·have hq2:(an != bn)=true:=by simp[h2]
   have hrr:r=decide (an < bn):=by
    rw[HR.out]
    refine decide_eq_decide.2 ?_
    unfold ltV
    simp[h2]
   rw[hrr]
   go_enter Tryz.func131,Tryz.ntmps131
   go_upto_region 1 with fail
   rw[← HW1.out,← HW2.out]
   go_wp2
   go_ret
   exact⟨rfl,HB12.out⟩
 ·have hq1:(ac != bc)=true:=by simp[h1]
  have hrr:r=decide (ac < bc):=by
   rw[HR.out]
   refine decide_eq_decide.2 ?_
   unfold ltV
   simp[h1]
  rw[hrr]
  go_enter Tryz.func131,Tryz.ntmps131
  go_upto_region 1 with fail
  rw[← HW1.out,← HW2.out]
  go_wp2
  go_ret
  exact⟨rfl,HB12.out⟩
theorem flatG_get {size:Nat}:∀(css:List (List Value)) (_:∀ c∈css,c.length=size) (j:Nat) (u:Value),css.flatten[j]?=some u→∃ k i c,css[k]?=some c∧c[i]?=some u∧j=k*size+i
 | [],_,j,u,h=>by simp at h
 | c::css,hc,j,u,h=>by
  rw[List.flatten_cons]at h
  have h5:c.length=size:=hc c (List.mem_cons_self ..)
  rcases Nat.lt_or_ge j size with hj | hj
  ·rw[List.getElem?_append_left (by omega)]at h
   exact⟨0,j,c,rfl,h,by omega⟩
  ·rw[List.getElem?_append_right (by omega),h5]at h
   obtain⟨k,i,c',h1,h2,h3⟩:=flatG_get css (fun c h=>hc c (List.mem_cons_of_mem _ h)) (j - size) u h
   exact⟨k+1,i,c',h1,h2,by rw[Nat.succ_mul];omega⟩
theorem flatG_len {size:Nat}:∀(css:List (List Value)),(∀ c∈css,c.length=size)→css.flatten.length=css.length*size
 | [],_=>by simp
 | c::css,h=>by
  rw[List.flatten_cons,List.length_append,flatG_len css (fun c hc=>h c (List.mem_cons_of_mem _ hc)),List.length_cons,Nat.succ_mul,h c (List.mem_cons_self ..)]
  omega
theorem SliceAt.flat {w:World}{a:Option Addr}{n cap size:Nat}{css:List (List Value)}(h:SliceAt w (.slice a n cap) size css)(hl:∀ c∈css,c.length=size)(P:Program):(Builtin.firstCells size n (.slice a n cap)).run P w=.ok css.flatten.toArray w:=by
 obtain⟨a',cap',e,h1,h2,h3⟩:=h
 injection e with e1 e2 e3
 subst e1 e2 e3
 rcases h3 with h3 | ⟨b,off,ha,hb,hc⟩
 ·subst h3
  cases a with
  | none=>exact run_firstCells_none w size _ _ _
  | some a=>exact run_firstCells_some w size _ a _ _ [] (by simp) (by intro _ _ h;simp at h)
 ·subst ha
  refine run_firstCells_some w size _ ⟨b,off,none⟩ _ _ css.flatten (flatG_len css hl) fun j u hj=>?_
  obtain⟨k,i,c,h1,h2,rfl⟩:=flatG_get css hl j u hj
  rw[Addr.add_mid,← Nat.add_assoc]
  exact hc k c h1 i u h2
section
variable {P:Program}
theorem run_append_fit (w:World)(t ty e:TypeId)(size bytes:Nat)(i:TypeInfo)(z:Value)(ht:P.underlying t=some (.slice e))(hi:P.info? e=some i)(hz:i.zero=some z)(hsize:i.size=size)(hby:i.bytes=bytes)(hzs:z.cells.size=size)
  {a b:Option Addr} {n m c:Nat} {css dss:List (List Value)} (h1:SliceAt w (.slice a n n) size css) (h2:SliceAt w (.slice b m c) size dss)
  (l1:∀ c∈css,c.length=size) (l2:∀ c∈dss,c.length=size) (o2:∀ c∈dss,∀ u∈c,u.oneCell'=true) (hm:0 < m) (h63:n+m≤100000) (hbt:bytes≤1000) :
  ∃ cap w',(Builtin.append_ #[t,t] ty #[.slice a n n,.slice b m c]).run P w=.ok (.slice (some ⟨w.heap.size,0,none⟩) (n+m) cap) w' ∧
   OwnE w' w.heap.size e size (.slice (some ⟨w.heap.size,0,none⟩) (n+m) cap) (css++dss)∧Below w.heap.size w w':=by
 subst hsize hby
 have hn:n=css.length:=by obtain⟨_,_,e,_⟩:=h1;injection e
 have hmm:m=dss.length:=by obtain⟨_,_,e,_⟩:=h2;injection e
 have hbd:Below w.heap.size w w.drew:=Below.drew br0
 have hold:=SliceAt.flat (h1.below hbd) l1 P
 have hsrc:Src P i.size t (.slice b m c) m dss.flatten w:=by
  refine⟨.inl ⟨e,ht⟩,fun w'=>?_,SliceAt.flat h2 l2 P,SliceAt.flat (h2.below hbd) l2 P,?_,?_⟩
  ·cases b <;> rfl
  ·rw[hmm];exact flatG_len dss l2
  ·intro u hu
   obtain⟨c,hc,hu⟩:=List.mem_flatten.1 hu
   exact o2 c hc u hu
 have hg:n < n+m:=by omega
 have hbytes:(n+m)*i.bytes≤140737488355328:=Nat.le_trans (Nat.mul_le_mul h63 hbt) (by decide)
 have hrun:=run_append_grow_src (P:=P) w t t ty e i z ht hi hz a n n css.flatten hold (.slice b m c) m dss.flatten hsrc hg (by omega) (growslice_fits hg hbytes)
 have hge:=grownCap_ge w (n+m) n e
 have hcm:=grownCap_le_maxLen w (n+m) n e (by unfold maxLen;omega)
 have hL:(css.flatten++dss.flatten).length=(n+m)*i.size:=by rw[List.length_append,flatG_len css l1,flatG_len dss l2,Nat.add_mul,hn,hmm]
 generalize grownCap w (n+m) n e=gc at *
 refine⟨gc,_,hrun,⟨?_,.inr ⟨w.heap.size,gc,_,by rw[List.length_append,← hn,← hmm],Nat.le_refl _,heap_alloc_new w.drew _,by rw[List.length_append,← hn,← hmm];exact hge,hcm,?_,?_⟩⟩,hbd.alloc (Nat.le_refl _) _⟩
 ·rw[List.flatten_append,hL,List.length_append,hn,hmm]
 ·rw[Array.size_append,List.size_toArray,hL,size_zeroCells,hzs,← Nat.add_mul]
  congr 1
  omega
 ·rw[Array.toList_append,List.toList_toArray,List.length_append,← hn,← hmm,← hL,List.take_append_of_le_length (Nat.le_refl _),List.take_length,List.flatten_append]
theorem exec_append {o:Oper}{a:Act}{w w':World}(s x:Operand)(t:TypeId)(ho:o.op=.call { callee:=.builtin .append,args:=#[s,x],argTypes:=#[t,t] }){v1 v2 v:Value}(hs:a.eval s=v1)(hx:a.eval x=v2)
  (hr:(Builtin.append_ #[t,t] o.type #[v1,v2]).run P w=.ok v w'):(execOp a.eval o).run P w=.ok (.value v) w':=by
 unfold execOp
 simp only[ho,resolve,invoke,builtin,Sem.run_bind,Sem.run_pure,Result.andThen_ok,List.map_toArray,List.map_cons,List.map_nil,hs,hx,hr]
end
section
variable {ops:Array Oper} {o:Oper} {a:Act} {w:World} {Q:Exit→Act→World→Prop} {K:Act→World→Prop} {E:Prop}
theorem step_append_fit (t e:TypeId)(size bytes:Nat)(z:Value)(ht:Tryz.prog.underlying t=some (.slice e))(hinfo:(Tryz.prog.info? e).map (fun i=>(i.zero,i.size,i.bytes))=some (some z,size,bytes))(hzs:z.cells.size=size)(hby:bytes≤1000)
  (hgd:o.guard=none) (s x:Operand) (ho:o.op=.call { callee:=.builtin .append,args:=#[s,x],argTypes:=#[t,t] })
  {sa sb:Option Addr} {n m c:Nat} {css dss:List (List Value)} (hs:a.eval s=.slice sa n n) (hx:a.eval x=.slice sb m c) (h1:SliceAt w (.slice sa n n) size css) (h2:SliceAt w (.slice sb m c) size dss)
  (l1:∀ c∈css,c.length=size) (l2:∀ c∈dss,c.length=size) (o2:∀ c∈dss,∀ u∈c,u.oneCell'=true) (hm:0 < m) (h63:n+m≤100000)
  (h:∀ cap w',OwnE w' w.heap.size e size (.slice (some ⟨w.heap.size,0,none⟩) (n+m) cap) (css++dss)→Below w.heap.size w w'→K (a.put o.dst (.slice (some ⟨w.heap.size,0,none⟩) (n+m) cap)) w') :
  if Region.wanted o (yielded ops a.tmps)=true then Oper.wp Tryz.prog o a w K Q else E:=by
 have hw:Region.wanted o (yielded ops a.tmps)=true:=by simp[Region.wanted,hgd]
 rw[if_pos hw]
 obtain⟨i,i1,i2,i3,i4⟩:=info_parts hinfo
 obtain⟨cap,w',hrun,r1,r2⟩:=run_append_fit (P:=Tryz.prog) w t o.type e size bytes i z ht i1 i2 i3 i4 hzs h1 h2 l1 l2 o2 hm h63 hby
 unfold Oper.wp
 simp[execOp,ho,resolve,invoke,builtin,hs,hx,hrun,Result.andThen]
 exact h cap w' r1 r2
theorem step_append_any (t e:TypeId)(size bytes:Nat)(z:Value)(ht:Tryz.prog.underlying t=some (.slice e))(hinfo:(Tryz.prog.info? e).map (fun i=>(i.zero,i.size,i.bytes))=some (some z,size,bytes))(hzs:z.cells.size=size)(hby:bytes≤1000)
  (hgd:o.guard=none) (s x:Operand) (ho:o.op=.call { callee:=.builtin .append,args:=#[s,x],argTypes:=#[t,t] })
  {sa sb:Option Addr} {n m c:Nat} {css dss:List (List Value)} (hs:a.eval s=.slice sa n n) (hx:a.eval x=.slice sb m c) (h1:SliceAt w (.slice sa n n) size css) (h2:SliceAt w (.slice sb m c) size dss)
  (l1:∀ c∈css,c.length=size) (l2:∀ c∈dss,c.length=size) (o2:∀ c∈dss,∀ u∈c,u.oneCell'=true) (h63:n+m≤100000)
  (h:∀ sv c' w',SliceAt w' (.slice sv (n+m) c') size (css++dss)→Below w.heap.size w w'→K (a.put o.dst (.slice sv (n+m) c')) w') :
  if Region.wanted o (yielded ops a.tmps)=true then Oper.wp Tryz.prog o a w K Q else E:=by
 have hmm:m=dss.length:=by obtain⟨_,_,e,_⟩:=h2;injection e
 rcases Nat.eq_zero_or_pos m with h0 | h0
 ·have hd:dss=[]:=List.eq_nil_of_length_eq_zero (hmm.symm.trans h0)
  subst hd
  subst h0
  have hw:Region.wanted o (yielded ops a.tmps)=true:=by simp[Region.wanted,hgd]
  rw[if_pos hw]
  obtain⟨i,i1,i2,i3,i4⟩:=info_parts hinfo
  have hsrc:Src Tryz.prog i.size t (.slice sb 0 c) 0 [] w:=by
   cases sb with
   | none=>exact Src.ofNil w (e':=e) ht c
   | some ad=>exact Src.ofSlice w (e':=e) ht ad 0 c [] (by simp) (by simp) (by simp)
  have hr:=run_append_nothing w t t o.type e i ht i1 sa n n (Nat.le_refl _) _ hsrc
  have hop:=exec_append s x t ho hs hx hr
  unfold Oper.wp
  rw[hop]
  refine h sa n w ?_ br0
  rw[List.append_nil]
  exact h1
 ·refine step_append_fit t e size bytes z ht hinfo hzs hby hgd s x ho hs hx h1 h2 l1 l2 o2 h0 h63 fun cap w' r1 r2=>?_
  exact h _ cap w' (OwnE.slice r1 (fun c hc=>by rcases List.mem_append.1 hc with hc | hc;exact l1 c hc;exact l2 c hc)) r2
end
/-! ### Parts of a slice -/
theorem SliceAt.fit {w:World}{a:Option Addr}{n cap size:Nat}{cs:List (List Value)}(h:SliceAt w (.slice a n cap) size cs)(k:Nat)(hk:k≤n):SliceAt w (.slice a k k) size (cs.take k):=by
 obtain⟨a',cap',e,h1,h2,h3⟩:=h
 injection e with e1 e2 e3
 subst e1 e2 e3
 refine⟨a,k,?_,?_,by omega,?_⟩
 ·rw[List.length_take,Nat.min_eq_left hk]
 ·rw[List.length_take,Nat.min_eq_left hk];exact Nat.le_refl _
 ·rcases h3 with h3 | ⟨b,off,ha,hb,hc⟩
  ·left;rw[h3];simp
  ·right
   refine⟨b,off,ha,hb,fun i c hi j u hj=>?_⟩
   rw[List.getElem?_take]at hi
   split at hi
   ·exact hc i c hi j u hj
   ·cases hi
theorem SliceAt.rest {w:World}{b off n cap size:Nat}{cs:List (List Value)}(h:SliceAt w (.slice (some ⟨b,off,none⟩) n cap) size cs)(k:Nat)(hk:k≤n):SliceAt w (.slice (some ⟨b,off+k*size,none⟩) (n - k) (cap - k)) size (cs.drop k):=by
 obtain⟨a',cap',e,h1,h2,h3⟩:=h
 injection e with e1 e2 e3
 subst e1 e2 e3
 refine⟨_,_,by rw[List.length_drop],by rw[List.length_drop];omega,by omega,?_⟩
 rcases h3 with h3 | ⟨b',off',ha,hb,hc⟩
 ·left;rw[h3];simp
 ·right
  injection ha with ha
  injection ha with hb1 ho1
  subst hb1 ho1
  refine⟨_,_,rfl,hb,fun i c hi j u hj=>?_⟩
  rw[List.getElem?_drop]at hi
  have:=hc (k+i) c hi j u hj
  rw[Nat.add_mul,← Nat.add_assoc]at this
  exact this
theorem insVs_snoc (x:VoteP):∀(xs L:List VoteP),insVs L (xs++[x])=insV x (insVs L xs)
 | [],_=>rfl
 | y::xs,L=>by rw[List.cons_append,insVs,insVs,insVs_snoc x xs]
theorem insV_lenO (x:VoteP):∀ L:List VoteP,(insV x L).length≤L.length+1
 | []=>by simp[insV]
 | a::l=>by
  unfold insV
  have:=insV_lenO x l
  split
  ·simp;omega
  ·split <;> simp
theorem insV_pos (x:VoteP):∀(L:List VoteP) (k:Nat),k≤L.length→(∀ j v,j < k→L[j]?=some v→ltV v x)→(∀ v,L[k]?=some v→¬ ltV v x) →
  insV x L=(if L[k]?=some x then L else L.take k++x::L.drop k)
 | [],k,hk,_,_=>by
  have:k=0:=by simpa using hk
  subst this
  simp[insV]
 | a::l,0,_,_,h2=>by
  have h:=h2 a rfl
  unfold insV
  rw[if_neg h]
  by_cases e:a=x
  ·rw[if_pos e,if_pos (by rw[e];rfl)]
  ·rw[if_neg e,if_neg (by simpa using e)]
   rfl
 | a::l,k+1,hk,h1,h2=>by
  have h:=h1 0 a (by omega) rfl
  unfold insV
  rw[if_pos h,insV_pos x l k (by simpa using hk) (fun j v hj hv=>h1 (j+1) v (by omega) hv) (fun v hv=>h2 v hv)]
  rw[List.getElem?_cons_succ]
  by_cases e:l[k]?=some x
  ·rw[if_pos e,if_pos e]
  ·rw[if_neg e,if_neg e]
   rfl
def sortedG (ks:List ByteArray)(l:List VoteP):List VoteP:=insVs [] (l.filter (genuineV ks))
theorem sortedG_yes {ks:List ByteArray}(h:validC ks=true)(l:List VoteP):sortedG ks l=sortedV ks l:=by
 unfold sortedG sortedV genuineV
 rw[h]
 rfl
theorem sortedG_snoc {ks:List ByteArray}{l:List VoteP}{k:Nat}{x:VoteP}(h:l[k]?=some x):sortedG ks (l.take (k+1))=if genuineV ks x=true then insV x (sortedG ks (l.take k))else sortedG ks (l.take k):=by
 unfold sortedG
 rw[List.take_add_one,h,List.filter_append]
 cases e:genuineV ks x with
 | true =>
  rw[if_pos rfl]
  have:(some x).toList.filter (genuineV ks)=[x]:=by simp[e]
  rw[this,insVs_snoc]
 | false =>
  rw[if_neg (by decide)]
  have:(some x).toList.filter (genuineV ks)=[]:=by simp[e]
  rw[this,List.append_nil]
theorem sortedG_len (ks:List ByteArray)(l:List VoteP):(sortedG ks l).length≤l.length:=by
 unfold sortedG
 have h:∀(xs L:List VoteP),(insVs L xs).length≤L.length+xs.length:=by
  intro xs
  induction xs with
  | nil=>intro L;simp[insVs]
  | cons y xs ih =>
   intro L
   have h1:=ih (insV y L)
   have h2:=insV_lenO y L
   rw[insVs,List.length_cons]
   omega
 have h1:=h (l.filter (genuineV ks)) []
 have h2:=List.length_filter_le (genuineV ks) l
 simp at h1
 omega
end Go.Proofs.YtggdcnjaofflbaaGreatDoor
