/- TopReclaims: wish.Decode undoes Encode. The conditions: the wish and its chain are formed, the seals have 32 bytes. -/
import Derived.Defers
import Derived.Test.YtjjiikeldpjafaaGreatDoorTT19
namespace Go.Proofs.YtjjiikeldpjafaaGreatDoor
open Go.RowKit Go.BigFrame Go.Shelf
attribute [local go_sem] Oper.semAt_some
theorem wpList_index {P:Program}{w:World}{ops:Array Oper}{rest:List Oper}{o:Oper}{a:Act}{Q:Exit→Act→World→Prop}(hg:o.guard=none)(T:TypeId)(x y:Operand)(hop:o.op=Op.index T x y){v:Value}
  (hr:(Instr.index T (a.eval x) (a.eval y)).run P w=.ok v w) (h:wpList P ops Q rest (a.put o.dst v) w):wpList P ops Q (o::rest) a w:=by
 refine wpList_plain hg fun K' hK'=>?_
 unfold Oper.wp
 simp[execOp,hop,hr,Result.andThen]
 exact hK' _ _ h
set_option maxHeartbeats 4000000 in
set_option maxRecDepth 100000 in
theorem decodeW_any (x:WishP)(hx:formedW x=true)(hsl:x.sl.size=32){l:List ProxP}(hl:∀ p∈l,formedP p=true)(hl2:∀ p∈l,p.sl.size=32)(h4:l.length≤4)(hxr:x.rt≤99999999)(hlr:∀ p∈l,p.rt≤99999999)(w:World) :
  Calls Tryz.prog 88 #[.string (encW x l)] w fun e w'=>∃ v,e=.returned (.tuple #[wagg x,v,.int .i64 0])∧PrS w' v l∧Below w.heap.size w w':=by
 have hmf:∀(fn:Fn) (first cap:Array Value) (w:World),(Instr.makeFunc fn first cap).run Tryz.prog w=.ok (.func fn first cap) w:=fun _ _ _ _=>rfl
 obtain⟨s,hs⟩:∃ s,s=encW x l:=⟨_,rfl⟩
 rw[← hs]
 have hs1:s.data.toList=textL x l:=by rw[hs];unfold encW bytesOf;rfl
 have hsz:s.size≤1000:=by
  have h1:=textL_len hsl h4 hl2
  rw[← hs1,size_list]at h1
  omega
 have HFP:=zh hl
 have HSP:=zh hl2
 have HX:=zh hx
 have HRT:=zh hlr
 clear hs hl hl2 hx hlr
 go_enter_defers Tryz.func88,Tryz.ntmps88
 go_upto_region 3 with fail
 obtain⟨W1,hW1⟩:∃ W1,W1=w.alloc (.cells zwish 31):=⟨_,rfl⟩
 obtain⟨W2,hW2⟩:∃ W2,W2=W1.alloc (.cells #[.slice none 0 0] 32):=⟨_,rfl⟩
 obtain⟨W3,hW3⟩:∃ W3,W3=W2.alloc (.cells #[.int .i64 0] 40):=⟨_,rfl⟩
 obtain⟨W4,hW4⟩:∃ W4,W4=W3.alloc (.cells #[.string s,.int .i64 0] 245):=⟨_,rfl⟩
 have s1:W1.heap.size=w.heap.size+1:=by rw[hW1];simp
 have s2:W2.heap.size=w.heap.size+1+1:=by rw[hW2];simp[s1]
 have s3:W3.heap.size=w.heap.size+1+1+1:=by rw[hW3];simp[s2]
 have HD4:Hid (DecAt w s (textL x l) zwish (.slice none 0 0) [] W4):=zh (by
  have b1:Below w.heap.size w W1:=by rw[hW1];exact br0.alloc (Nat.le_refl _) _
  have b2:Below W1.heap.size W1 W2:=by rw[hW2];exact br0.alloc (Nat.le_refl _) _
  have b3:Below W2.heap.size W2 W3:=by rw[hW3];exact br0.alloc (Nat.le_refl _) _
  have b4:Below W3.heap.size W3 W4:=by rw[hW4];exact br0.alloc (Nat.le_refl _) _
  have x1:W1.heap[w.heap.size]?=some (.cells zwish 31 (0,0)):=by rw[hW1];exact heap_alloc_new w _
  have x2:W2.heap[w.heap.size+1]?=some (.cells #[.slice none 0 0] 32 (0,0)):=by rw[← s1,hW2];exact heap_alloc_new W1 _
  have x3:W3.heap[w.heap.size+1+1]?=some (.cells #[.int .i64 0] 40 (0,0)):=by rw[← s2,hW3];exact heap_alloc_new W2 _
  have x4:W4.heap[w.heap.size+1+1+1]?=some (.cells #[.string s,.int .i64 0] 245 (0,0)):=by rw[← s3,hW4];exact heap_alloc_new W3 _
  exact⟨q_next b1 (q_next b2 (q_next b3 b4)),kept_block x1 (q_next b2 (q_next b3 b4)),kept_block x2 (q_next b3 b4),kept_block x3 b4,⟨0,x4,by rw[List.drop_zero,hs1]⟩,OwnE.nil _ _ _ _⟩)
 have HZW:zwish=#[.int .i64 0,.int .i64 0,.int .i64 0,.int .i64 0,.int .i64 0,.int .i64 0,.int .i64 0,.int .i64 0,.string ⟨#[]⟩]:=rfl
 rw[HZW]at hW1
 rw[← hW1,← hW2,← hW3,← hW4]
 clear hW1 hW2 hW3 hW4 s1 s2 s3 HZW hs1
 obtain⟨n,hn⟩:∃ n,n=l.length:=⟨_,rfl⟩
 have HN:=zh hn
 have h40:(0:Int)≤(n:Int):=by omega
 have h44:(n:Int)≤4:=by omega
 unfold textL at HD4
 rw[← hn]at HD4 h4
 clear hn
 have HNUM:=zh (rdN HD4.out.hr ⟨by omega,by omega⟩ hsz)
 go_wp2_with (first | (go_at_call 132;(with_reducible refine HNUM.out.mono ?_);rintro e w1 ⟨rfl,h1,h2⟩;have HD5:=zh (HD4.out.turn h1 h2);clear h1 h2) | (go_at_call 60;(with_reducible refine(withW_yes _ _ _ (by omega) (by omega) _).mono ?_);rintro e w' ⟨rfl,hw'⟩;replace hw':=hw'.symm;subst hw'))
 clear HNUM HD4
 go_loopw [24] (fun i wr=>∃(k:Nat) (v:Value),k≤n∧i=.int .i64 k∧Hid (DecAt w s (proxsL (l.drop k)++wishLT x) zwish v (l.take k) wr)) (fun i _=>n - (intOf i).toNat)
 case atStart=>exact⟨0,_,by omega,rfl,HD5⟩
 case round =>
  clear HD5
  obtain⟨k,v,hk,rfl,hD⟩:=hrel
  by_cases hlt:k < n
  ·have tk:(k:Int) < (n:Int):=by omega
   have tk0:(0:Int)≤(k:Int):=by omega
   have hkl:k < l.length:=by rw[← HN.out];exact hlt
   obtain⟨p,ep⟩:∃ p,l[k]?=some p:=⟨_,List.getElem?_eq_getElem hkl⟩
   have hm:=List.mem_of_getElem? ep
   have hf:=HFP.out p hm
   have hz:=HSP.out p hm
   have hr9:=HRT.out p hm
   have hdr:l.drop k=p::l.drop (k+1):=by
    rw[List.drop_eq_getElem_cons hkl]
    rw[(List.getElem?_eq_some_iff.1 ep).2]
   have HTK:Hid (l.take (k+1)=l.take k++[p]):=zh (by rw[List.take_add_one,ep];rfl)
   obtain⟨REST,hRE⟩:∃ R,R=proxsL (l.drop (k+1))++wishLT x:=⟨_,rfl⟩
   have HRE:=zh hRE
   obtain⟨fr,tu,rf,rt,sf,st,sl⟩:=p
   have hLL:proxsL (l.drop k)++wishLT x=putN 2++(putsN [fr,tu,rf,rt,sf,st]++(sl.data.toList++REST)):=by
    rw[hdr,proxsL_cons,hRE]
    unfold proxL proxI
    simp only[putsN_cons 2,List.append_assoc]
   rw[hLL]at hD
   have hbd:(0≤fr∧fr≤99999999)∧(0≤tu∧tu≤99999999)∧(0≤rf∧rf≤99999999)∧(0≤rt∧rt≤99999999)∧(0≤sf∧sf≤99999999)∧(0≤st∧st≤99999999):=by
    have h:=of_decide_eq_true hf
    simp only at h hr9
    omega
   simp only at hz
   clear hLL hRE hdr hm hf ep hr9
   have HPN:Hid (Below wr.heap.size wr (wr.alloc (.cells #[.int .i64 0,.int .i64 0,.int .i64 0,.int .i64 0,.int .i64 0,.int .i64 0,.string ⟨#[]⟩] 96))):=zh (br0.alloc (Nat.le_refl _) _)
   have HPX:=zh (heap_alloc_new wr (.cells #[.int .i64 0,.int .i64 0,.int .i64 0,.int .i64 0,.int .i64 0,.int .i64 0,.string ⟨#[]⟩] 96))
   have HDP:=zh (hD.out.step HPN.out)
   have HLT:Hid (v.ownBlock≠some wr.heap.size):=zh (fun e=>by have:=own_lt hD.out.own e;omega)
   have HGE:Hid (w.heap.size+1+1+1 < wr.heap.size):=zh (by
    obtain⟨a,h1,-⟩:=hD.out.hr
    exact(ltA h1))
   go_upto_region 9 with fail
   generalize wr.alloc (.cells #[.int .i64 0,.int .i64 0,.int .i64 0,.int .i64 0,.int .i64 0,.int .i64 0,.string ⟨#[]⟩] 96)=wp at *
   obtain⟨pb,hpb⟩:∃ pb,pb=wr.heap.size:=⟨_,rfl⟩
   rw[← hpb]at HPX HLT HGE ⊢
   clear hpb HPN hD
   have HKD:=zh (rdK HDP.out.hr ⟨by omega,by omega⟩ hsz)
   go_wp2_with (go_at_call 133;(with_reducible refine HKD.out.mono ?_);rintro e w2 ⟨rfl,h1,h2⟩;have HD2:=zh (HDP.out.turn h1 h2);have HP2:Hid (w2.heap[pb]?=some (.cells #[.int .i64 0,.int .i64 0,.int .i64 0,.int .i64 0,.int .i64 0,.int .i64 0,.string ⟨#[]⟩] 96 (0,0))):=zh ((h2.block _ (ltA HPX.out) (fun e=>by have:=HGE.out;injection e with e;omega)).trans HPX.out);clear h1 h2)
   clear HKD HDP HPX
   go_loopw [39] (fun i wr=>∃ j:Nat,j≤6∧i=.int .i64 j∧Hid (DecAt w s (putsN ([fr,tu,rf,rt,sf,st].drop j)++(sl.data.toList++REST)) zwish v (l.take k) wr)∧Hid (wr.heap[pb]?=some (.cells (pcut [fr,tu,rf,rt,sf,st] j) 96 (0,0)))) (fun i _=>6 - (intOf i).toNat)
   case atStart=>exact⟨0,by omega,rfl,HD2,HP2⟩
   case round =>
    clear HD2 HP2
    obtain⟨j,hj,rfl,hE,hP⟩:=hrel
    by_cases hlj:j < 6
    ·obtain⟨ji,hji⟩:∃ ji:Int,ji=(j:Int):=⟨_,rfl⟩
     rw[← hji]
     rcases(by omega:j=0∨j=1∨j=2∨j=3∨j=4∨j=5)with rfl | rfl | rfl | rfl | rfl | rfl
     ·have HEJ:Hid (DecAt w s (putN fr++(putsN ([fr,tu,rf,rt,sf,st].drop 1)++(sl.data.toList++REST))) zwish v (l.take k) wr):=zh (by
       have h:=hE.out
       rw[putsN_at (k:=0) (x:=fr) rfl]at h
       exact h)
      obtain rfl:ji=0:=by rw[hji];rfl
      clear hji
      have hix:∀ W,(Instr.index 249 (.agg #[.pointer (some ⟨pb,0,none⟩),.pointer (some ⟨pb,1,none⟩),.pointer (some ⟨pb,2,none⟩),.pointer (some ⟨pb,3,none⟩),.pointer (some ⟨pb,4,none⟩),.pointer (some ⟨pb,5,none⟩)]) (.int .i64 0)).run Tryz.prog W=.ok (.pointer (some ⟨pb,0,none⟩)) W:=fun W=>by kernel_rfl
      have HPJ:Hid (wr.heap[pb]?=some (.cells #[.int .i64 0,.int .i64 0,.int .i64 0,.int .i64 0,.int .i64 0,.int .i64 0,.string ⟨#[]⟩] 96 (0,0))):=zh hP.out
      have HNJ:=zh (rdN HEJ.out.hr ⟨by omega,by omega⟩ hsz)
      clear hE hP
      go_wp2_with (first | (refine wpList_index rfl _ _ _ rfl (hix _) ?_) | (go_at_call 132;(with_reducible refine HNJ.out.mono ?_);rintro e w3 ⟨rfl,h1,h2⟩;have HD3:=zh (HEJ.out.turn h1 h2);have HP3:=zh ((h2.block _ (ltA HPJ.out) (fun e=>by have:=HGE.out;injection e with e;omega)).trans HPJ.out);clear h1 h2;obtain⟨c0,c1,c2,c3,c4,c5,c6⟩:=seven_cells HP3.out;have zf:∀ j,w3.frozen? ⟨pb,j,none⟩=false:=(fun j=>by unfold World.frozen?;rw[HP3.out];simp)))
      go_roundw
      case rel=>exact⟨1,by omega,by go_num,zh (HD3.out.setP HGE.out HLT.out _),zh (heap_setCell_same (i:=0) _ HP3.out)⟩
      case measure=>simp[intOf]
     ·have HEJ:Hid (DecAt w s (putN tu++(putsN ([fr,tu,rf,rt,sf,st].drop 2)++(sl.data.toList++REST))) zwish v (l.take k) wr):=zh (by
       have h:=hE.out
       rw[putsN_at (k:=1) (x:=tu) rfl]at h
       exact h)
      obtain rfl:ji=1:=by rw[hji];rfl
      clear hji
      have hix:∀ W,(Instr.index 249 (.agg #[.pointer (some ⟨pb,0,none⟩),.pointer (some ⟨pb,1,none⟩),.pointer (some ⟨pb,2,none⟩),.pointer (some ⟨pb,3,none⟩),.pointer (some ⟨pb,4,none⟩),.pointer (some ⟨pb,5,none⟩)]) (.int .i64 1)).run Tryz.prog W=.ok (.pointer (some ⟨pb,1,none⟩)) W:=fun W=>by kernel_rfl
      have HPJ:Hid (wr.heap[pb]?=some (.cells #[.int .i64 fr,.int .i64 0,.int .i64 0,.int .i64 0,.int .i64 0,.int .i64 0,.string ⟨#[]⟩] 96 (0,0))):=zh hP.out
      have HNJ:=zh (rdN HEJ.out.hr ⟨by omega,by omega⟩ hsz)
      clear hE hP
      go_wp2_with (first | (refine wpList_index rfl _ _ _ rfl (hix _) ?_) | (go_at_call 132;(with_reducible refine HNJ.out.mono ?_);rintro e w3 ⟨rfl,h1,h2⟩;have HD3:=zh (HEJ.out.turn h1 h2);have HP3:=zh ((h2.block _ (ltA HPJ.out) (fun e=>by have:=HGE.out;injection e with e;omega)).trans HPJ.out);clear h1 h2;obtain⟨c0,c1,c2,c3,c4,c5,c6⟩:=seven_cells HP3.out;have zf:∀ j,w3.frozen? ⟨pb,j,none⟩=false:=(fun j=>by unfold World.frozen?;rw[HP3.out];simp)))
      go_roundw
      case rel=>exact⟨2,by omega,by go_num,zh (HD3.out.setP HGE.out HLT.out _),zh (heap_setCell_same (i:=1) _ HP3.out)⟩
      case measure=>simp[intOf]
     ·have HEJ:Hid (DecAt w s (putN rf++(putsN ([fr,tu,rf,rt,sf,st].drop 3)++(sl.data.toList++REST))) zwish v (l.take k) wr):=zh (by
       have h:=hE.out
       rw[putsN_at (k:=2) (x:=rf) rfl]at h
       exact h)
      obtain rfl:ji=2:=by rw[hji];rfl
      clear hji
      have hix:∀ W,(Instr.index 249 (.agg #[.pointer (some ⟨pb,0,none⟩),.pointer (some ⟨pb,1,none⟩),.pointer (some ⟨pb,2,none⟩),.pointer (some ⟨pb,3,none⟩),.pointer (some ⟨pb,4,none⟩),.pointer (some ⟨pb,5,none⟩)]) (.int .i64 2)).run Tryz.prog W=.ok (.pointer (some ⟨pb,2,none⟩)) W:=fun W=>by kernel_rfl
      have HPJ:Hid (wr.heap[pb]?=some (.cells #[.int .i64 fr,.int .i64 tu,.int .i64 0,.int .i64 0,.int .i64 0,.int .i64 0,.string ⟨#[]⟩] 96 (0,0))):=zh hP.out
      have HNJ:=zh (rdN HEJ.out.hr ⟨by omega,by omega⟩ hsz)
      clear hE hP
      go_wp2_with (first | (refine wpList_index rfl _ _ _ rfl (hix _) ?_) | (go_at_call 132;(with_reducible refine HNJ.out.mono ?_);rintro e w3 ⟨rfl,h1,h2⟩;have HD3:=zh (HEJ.out.turn h1 h2);have HP3:=zh ((h2.block _ (ltA HPJ.out) (fun e=>by have:=HGE.out;injection e with e;omega)).trans HPJ.out);clear h1 h2;obtain⟨c0,c1,c2,c3,c4,c5,c6⟩:=seven_cells HP3.out;have zf:∀ j,w3.frozen? ⟨pb,j,none⟩=false:=(fun j=>by unfold World.frozen?;rw[HP3.out];simp)))
      go_roundw
      case rel=>exact⟨3,by omega,by go_num,zh (HD3.out.setP HGE.out HLT.out _),zh (heap_setCell_same (i:=2) _ HP3.out)⟩
      case measure=>simp[intOf]
     ·have HEJ:Hid (DecAt w s (putN rt++(putsN ([fr,tu,rf,rt,sf,st].drop 4)++(sl.data.toList++REST))) zwish v (l.take k) wr):=zh (by
       have h:=hE.out
       rw[putsN_at (k:=3) (x:=rt) rfl]at h
       exact h)
      obtain rfl:ji=3:=by rw[hji];rfl
      clear hji
      have hix:∀ W,(Instr.index 249 (.agg #[.pointer (some ⟨pb,0,none⟩),.pointer (some ⟨pb,1,none⟩),.pointer (some ⟨pb,2,none⟩),.pointer (some ⟨pb,3,none⟩),.pointer (some ⟨pb,4,none⟩),.pointer (some ⟨pb,5,none⟩)]) (.int .i64 3)).run Tryz.prog W=.ok (.pointer (some ⟨pb,3,none⟩)) W:=fun W=>by kernel_rfl
      have HPJ:Hid (wr.heap[pb]?=some (.cells #[.int .i64 fr,.int .i64 tu,.int .i64 rf,.int .i64 0,.int .i64 0,.int .i64 0,.string ⟨#[]⟩] 96 (0,0))):=zh hP.out
      have HNJ:=zh (rdN HEJ.out.hr ⟨by omega,by omega⟩ hsz)
      clear hE hP
      go_wp2_with (first | (refine wpList_index rfl _ _ _ rfl (hix _) ?_) | (go_at_call 132;(with_reducible refine HNJ.out.mono ?_);rintro e w3 ⟨rfl,h1,h2⟩;have HD3:=zh (HEJ.out.turn h1 h2);have HP3:=zh ((h2.block _ (ltA HPJ.out) (fun e=>by have:=HGE.out;injection e with e;omega)).trans HPJ.out);clear h1 h2;obtain⟨c0,c1,c2,c3,c4,c5,c6⟩:=seven_cells HP3.out;have zf:∀ j,w3.frozen? ⟨pb,j,none⟩=false:=(fun j=>by unfold World.frozen?;rw[HP3.out];simp)))
      go_roundw
      case rel=>exact⟨4,by omega,by go_num,zh (HD3.out.setP HGE.out HLT.out _),zh (heap_setCell_same (i:=3) _ HP3.out)⟩
      case measure=>simp[intOf]
     ·have HEJ:Hid (DecAt w s (putN sf++(putsN ([fr,tu,rf,rt,sf,st].drop 5)++(sl.data.toList++REST))) zwish v (l.take k) wr):=zh (by
       have h:=hE.out
       rw[putsN_at (k:=4) (x:=sf) rfl]at h
       exact h)
      obtain rfl:ji=4:=by rw[hji];rfl
      clear hji
      have hix:∀ W,(Instr.index 249 (.agg #[.pointer (some ⟨pb,0,none⟩),.pointer (some ⟨pb,1,none⟩),.pointer (some ⟨pb,2,none⟩),.pointer (some ⟨pb,3,none⟩),.pointer (some ⟨pb,4,none⟩),.pointer (some ⟨pb,5,none⟩)]) (.int .i64 4)).run Tryz.prog W=.ok (.pointer (some ⟨pb,4,none⟩)) W:=fun W=>by kernel_rfl
      have HPJ:Hid (wr.heap[pb]?=some (.cells #[.int .i64 fr,.int .i64 tu,.int .i64 rf,.int .i64 rt,.int .i64 0,.int .i64 0,.string ⟨#[]⟩] 96 (0,0))):=zh hP.out
      have HNJ:=zh (rdN HEJ.out.hr ⟨by omega,by omega⟩ hsz)
      clear hE hP
      go_wp2_with (first | (refine wpList_index rfl _ _ _ rfl (hix _) ?_) | (go_at_call 132;(with_reducible refine HNJ.out.mono ?_);rintro e w3 ⟨rfl,h1,h2⟩;have HD3:=zh (HEJ.out.turn h1 h2);have HP3:=zh ((h2.block _ (ltA HPJ.out) (fun e=>by have:=HGE.out;injection e with e;omega)).trans HPJ.out);clear h1 h2;obtain⟨c0,c1,c2,c3,c4,c5,c6⟩:=seven_cells HP3.out;have zf:∀ j,w3.frozen? ⟨pb,j,none⟩=false:=(fun j=>by unfold World.frozen?;rw[HP3.out];simp)))
      go_roundw
      case rel=>exact⟨5,by omega,by go_num,zh (HD3.out.setP HGE.out HLT.out _),zh (heap_setCell_same (i:=4) _ HP3.out)⟩
      case measure=>simp[intOf]
     ·have HEJ:Hid (DecAt w s (putN st++(putsN ([fr,tu,rf,rt,sf,st].drop 6)++(sl.data.toList++REST))) zwish v (l.take k) wr):=zh (by
       have h:=hE.out
       rw[putsN_at (k:=5) (x:=st) rfl]at h
       exact h)
      obtain rfl:ji=5:=by rw[hji];rfl
      clear hji
      have hix:∀ W,(Instr.index 249 (.agg #[.pointer (some ⟨pb,0,none⟩),.pointer (some ⟨pb,1,none⟩),.pointer (some ⟨pb,2,none⟩),.pointer (some ⟨pb,3,none⟩),.pointer (some ⟨pb,4,none⟩),.pointer (some ⟨pb,5,none⟩)]) (.int .i64 5)).run Tryz.prog W=.ok (.pointer (some ⟨pb,5,none⟩)) W:=fun W=>by kernel_rfl
      have HPJ:Hid (wr.heap[pb]?=some (.cells #[.int .i64 fr,.int .i64 tu,.int .i64 rf,.int .i64 rt,.int .i64 sf,.int .i64 0,.string ⟨#[]⟩] 96 (0,0))):=zh hP.out
      have HNJ:=zh (rdN HEJ.out.hr ⟨by omega,by omega⟩ hsz)
      clear hE hP
      go_wp2_with (first | (refine wpList_index rfl _ _ _ rfl (hix _) ?_) | (go_at_call 132;(with_reducible refine HNJ.out.mono ?_);rintro e w3 ⟨rfl,h1,h2⟩;have HD3:=zh (HEJ.out.turn h1 h2);have HP3:=zh ((h2.block _ (ltA HPJ.out) (fun e=>by have:=HGE.out;injection e with e;omega)).trans HPJ.out);clear h1 h2;obtain⟨c0,c1,c2,c3,c4,c5,c6⟩:=seven_cells HP3.out;have zf:∀ j,w3.frozen? ⟨pb,j,none⟩=false:=(fun j=>by unfold World.frozen?;rw[HP3.out];simp)))
      go_roundw
      case rel=>exact⟨6,by omega,by go_num,zh (HD3.out.setP HGE.out HLT.out _),zh (heap_setCell_same (i:=5) _ HP3.out)⟩
      case measure=>simp[intOf]
    ·obtain rfl:j=6:=by omega
     obtain⟨ji,hji⟩:∃ ji:Int,ji=((6:Nat):Int):=⟨_,rfl⟩
     rw[← hji]
     obtain rfl:ji=6:=by rw[hji];rfl
     clear hji
     have HEJ:Hid (DecAt w s (sl.data.toList++REST) zwish v (l.take k) wr):=zh hE.out
     have HPJ:Hid (wr.heap[pb]?=some (.cells #[.int .i64 fr,.int .i64 tu,.int .i64 rf,.int .i64 rt,.int .i64 sf,.int .i64 st,.string ⟨#[]⟩] 96 (0,0))):=zh hP.out
     have HNJ:=zh (rdD HEJ.out.hr hz hsz)
     clear hE hP
     go_upto_region 16 with(go_at_call 134;(with_reducible refine HNJ.out.mono ?_);rintro e w3 ⟨rfl,h1,h2⟩;have HD3:=zh (HEJ.out.turn h1 h2);have HP3:=zh ((h2.block _ (ltA HPJ.out) (fun e=>by have:=HGE.out;injection e with e;omega)).trans HPJ.out);clear h1 h2;obtain⟨c0,c1,c2,c3,c4,c5,c6⟩:=seven_cells HP3.out;have zf:∀ j,w3.frozen? ⟨pb,j,none⟩=false:=(fun j=>by unfold World.frozen?;rw[HP3.out];simp))
     clear c0 c1 c2 c3 c4 c5 c6 zf HNJ
     have HD5:=zh (HD3.out.setP (i:=6) HGE.out HLT.out (.string sl))
     have HP5:Hid ((w3.setCell ⟨pb,6,none⟩ (.string sl)).heap[pb]?=some (.cells #[.int .i64 fr,.int .i64 tu,.int .i64 rf,.int .i64 rt,.int .i64 sf,.int .i64 st,.string sl] 96 (0,0))):=zh (heap_setCell_same (i:=6) _ HP3.out)
     clear HD3 HP3
     generalize w3.setCell ⟨pb,6,none⟩ (.string sl)=w5 at *
     obtain⟨c0,c1,c2,c3,c4,c5,c6⟩:=seven_cells HP5.out
     have d0:=cell_of_row w5 _ 0 _ _ _ HD5.out.hl
     have HA5:Hid (Below w5.heap.size w5 (w5.alloc (.cells #[.int .i64 fr,.int .i64 tu,.int .i64 rf,.int .i64 rt,.int .i64 sf,.int .i64 st,.string sl] 96))):=zh (br0.alloc (Nat.le_refl _) _)
     have HD6:=zh (HD5.out.step HA5.out)
     have HNA:=zh (heap_alloc_new w5 (.cells #[.int .i64 fr,.int .i64 tu,.int .i64 rf,.int .i64 rt,.int .i64 sf,.int .i64 st,.string sl] 96))
     have HLL:Hid ((l.take k).length≤1000000):=zh (by rw[List.length_take];omega)
     have HSZ:Hid (w.heap.size≤(w5.alloc (.cells #[.int .i64 fr,.int .i64 tu,.int .i64 rf,.int .i64 rt,.int .i64 sf,.int .i64 st,.string sl] 96)).heap.size):=zh HD6.out.hb.size
     go_wp2_with (at_builtin;refine wpList_append_prox _ _ w.heap.size v (l.take k) ⟨fr,tu,rf,rt,sf,st,sl⟩ w5.heap.size _ HD6.out.own HLL.out HSZ.out HNA.out rfl rfl rfl rfl ?_;intro lv2 wc hown hgr;obtain⟨a2,p2,hv2⟩:=OwnE.form hown;generalize ((l.take k++[(⟨fr,tu,rf,rt,sf,st,sl⟩:ProxP)]).map pcells).length=M2 at hv2;subst hv2;have HDc:=zh (HD6.out.app hown hgr);have hl2:=own_keepsT HD6.out.own hgr HD6.out.hl (by decide);have d1:=cell_of_row wc _ 0 _ _ _ hl2;have zf:wc.frozen? ⟨w.heap.size+1,0,none⟩=false:=(by unfold World.frozen?;rw[hl2];simp);clear hown hgr hl2)
     go_roundw
     case rel=>exact⟨k+1,_,by omega,by go_num,by rw[HTK.out,← HRE.out];exact HDc⟩
     case measure=>simp[intOf];omega
  ·obtain rfl:k=n:=by omega
   have tk:¬ (k:Int) < (k:Int):=by omega
   have htk:l.take k=l:=by rw[HN.out];exact List.take_length
   have hdk:l.drop k=[]:=by rw[HN.out];exact List.drop_length
   rw[htk,hdk]at hD
   obtain⟨sg,ho,rf,rt,ca,se,sf,st,sl⟩:=x
   have hx:=HX.out
   simp only at hsl hxr
   have hbd:(0≤sg∧sg≤99999999)∧(0≤ho∧ho≤99999999)∧(0≤rf∧rf≤99999999)∧(0≤rt∧rt≤99999999)∧(0≤ca∧ca≤99999999)∧(0≤se∧se≤99999999)∧(0≤sf∧sf≤99999999)∧(0≤st∧st≤99999999):=by
    have h:=of_decide_eq_true hx
    simp only at h
    omega
   have hLL:proxsL []++wishLT ⟨sg,ho,rf,rt,ca,se,sf,st,sl⟩=putN 1++(putsN [sg,ho,rf,rt,ca,se,sf,st]++(sl.data.toList++[])):=by
    show[]++(putsN (1::[sg,ho,rf,rt,ca,se,sf,st])++sl.data.toList)=_
    rw[List.nil_append,List.append_nil,putsN_cons,List.append_assoc]
   rw[hLL]at hD
   clear hLL htk hdk hx
   have HKD:=zh (rdK hD.out.hr ⟨by omega,by omega⟩ hsz)
   go_upto_region 19 with(go_at_call 133;(with_reducible refine HKD.out.mono ?_);rintro e w2 ⟨rfl,h1,h2⟩;have HD2:=zh (hD.out.turn h1 h2);clear h1 h2)
   clear HKD hD
   go_wp2
   go_loopw [70] (fun i wr=>∃ j:Nat,j≤8∧i=.int .i64 j∧Hid (DecAt w s (putsN ([sg,ho,rf,rt,ca,se,sf,st].drop j)++(sl.data.toList++[])) (wcut [sg,ho,rf,rt,ca,se,sf,st] j) v l wr)) (fun i _=>8 - (intOf i).toNat)
   case atStart=>exact⟨0,by omega,rfl,HD2⟩
   case round =>
    clear HD2
    obtain⟨j,hj,rfl,hE⟩:=hrel
    by_cases hlj:j < 8
    ·obtain⟨ji,hji⟩:∃ ji:Int,ji=(j:Int):=⟨_,rfl⟩
     rw[← hji]
     rcases(by omega:j=0∨j=1∨j=2∨j=3∨j=4∨j=5∨j=6∨j=7)with rfl | rfl | rfl | rfl | rfl | rfl | rfl | rfl
     ·have HEJ:Hid (DecAt w s (putN sg++(putsN ([sg,ho,rf,rt,ca,se,sf,st].drop 1)++(sl.data.toList++[]))) #[.int .i64 0,.int .i64 0,.int .i64 0,.int .i64 0,.int .i64 0,.int .i64 0,.int .i64 0,.int .i64 0,.string ⟨#[]⟩] v l wr):=zh (by
       have h:=hE.out
       rw[putsN_at (k:=0) (x:=sg) rfl]at h
       exact h)
      obtain rfl:ji=0:=by rw[hji];rfl
      clear hji
      have hix:∀ W,(Instr.index 250 (.agg #[.pointer (some ⟨w.heap.size,0,none⟩),.pointer (some ⟨w.heap.size,1,none⟩),.pointer (some ⟨w.heap.size,2,none⟩),.pointer (some ⟨w.heap.size,3,none⟩),.pointer (some ⟨w.heap.size,4,none⟩),.pointer (some ⟨w.heap.size,5,none⟩),.pointer (some ⟨w.heap.size,6,none⟩),.pointer (some ⟨w.heap.size,7,none⟩)]) (.int .i64 0)).run Tryz.prog W=.ok (.pointer (some ⟨w.heap.size,0,none⟩)) W:=fun W=>by kernel_rfl
      have HNJ:=zh (rdN HEJ.out.hr ⟨by omega,by omega⟩ hsz)
      clear hE
      go_wp2_with (first | (refine wpList_index rfl _ _ _ rfl (hix _) ?_) | (go_at_call 132;(with_reducible refine HNJ.out.mono ?_);rintro e w3 ⟨rfl,h1,h2⟩;have HD3:=zh (HEJ.out.turn h1 h2);clear h1 h2;obtain⟨c0,c1,c2,c3,c4,c5,c6,c7,c8⟩:=nine_cells HD3.out.hw;have zf:∀ j,w3.frozen? ⟨w.heap.size,j,none⟩=false:=(fun j=>by unfold World.frozen?;rw[HD3.out.hw];simp)))
      go_roundw
      case rel=>exact⟨1,by omega,by go_num,zh (HD3.out.setW 0 _)⟩
      case measure=>simp[intOf]
     ·have HEJ:Hid (DecAt w s (putN ho++(putsN ([sg,ho,rf,rt,ca,se,sf,st].drop 2)++(sl.data.toList++[]))) #[.int .i64 sg,.int .i64 0,.int .i64 0,.int .i64 0,.int .i64 0,.int .i64 0,.int .i64 0,.int .i64 0,.string ⟨#[]⟩] v l wr):=zh (by
       have h:=hE.out
       rw[putsN_at (k:=1) (x:=ho) rfl]at h
       exact h)
      obtain rfl:ji=1:=by rw[hji];rfl
      clear hji
      have hix:∀ W,(Instr.index 250 (.agg #[.pointer (some ⟨w.heap.size,0,none⟩),.pointer (some ⟨w.heap.size,1,none⟩),.pointer (some ⟨w.heap.size,2,none⟩),.pointer (some ⟨w.heap.size,3,none⟩),.pointer (some ⟨w.heap.size,4,none⟩),.pointer (some ⟨w.heap.size,5,none⟩),.pointer (some ⟨w.heap.size,6,none⟩),.pointer (some ⟨w.heap.size,7,none⟩)]) (.int .i64 1)).run Tryz.prog W=.ok (.pointer (some ⟨w.heap.size,1,none⟩)) W:=fun W=>by kernel_rfl
      have HNJ:=zh (rdN HEJ.out.hr ⟨by omega,by omega⟩ hsz)
      clear hE
      go_wp2_with (first | (refine wpList_index rfl _ _ _ rfl (hix _) ?_) | (go_at_call 132;(with_reducible refine HNJ.out.mono ?_);rintro e w3 ⟨rfl,h1,h2⟩;have HD3:=zh (HEJ.out.turn h1 h2);clear h1 h2;obtain⟨c0,c1,c2,c3,c4,c5,c6,c7,c8⟩:=nine_cells HD3.out.hw;have zf:∀ j,w3.frozen? ⟨w.heap.size,j,none⟩=false:=(fun j=>by unfold World.frozen?;rw[HD3.out.hw];simp)))
      go_roundw
      case rel=>exact⟨2,by omega,by go_num,zh (HD3.out.setW 1 _)⟩
      case measure=>simp[intOf]
     ·have HEJ:Hid (DecAt w s (putN rf++(putsN ([sg,ho,rf,rt,ca,se,sf,st].drop 3)++(sl.data.toList++[]))) #[.int .i64 sg,.int .i64 ho,.int .i64 0,.int .i64 0,.int .i64 0,.int .i64 0,.int .i64 0,.int .i64 0,.string ⟨#[]⟩] v l wr):=zh (by
       have h:=hE.out
       rw[putsN_at (k:=2) (x:=rf) rfl]at h
       exact h)
      obtain rfl:ji=2:=by rw[hji];rfl
      clear hji
      have hix:∀ W,(Instr.index 250 (.agg #[.pointer (some ⟨w.heap.size,0,none⟩),.pointer (some ⟨w.heap.size,1,none⟩),.pointer (some ⟨w.heap.size,2,none⟩),.pointer (some ⟨w.heap.size,3,none⟩),.pointer (some ⟨w.heap.size,4,none⟩),.pointer (some ⟨w.heap.size,5,none⟩),.pointer (some ⟨w.heap.size,6,none⟩),.pointer (some ⟨w.heap.size,7,none⟩)]) (.int .i64 2)).run Tryz.prog W=.ok (.pointer (some ⟨w.heap.size,2,none⟩)) W:=fun W=>by kernel_rfl
      have HNJ:=zh (rdN HEJ.out.hr ⟨by omega,by omega⟩ hsz)
      clear hE
      go_wp2_with (first | (refine wpList_index rfl _ _ _ rfl (hix _) ?_) | (go_at_call 132;(with_reducible refine HNJ.out.mono ?_);rintro e w3 ⟨rfl,h1,h2⟩;have HD3:=zh (HEJ.out.turn h1 h2);clear h1 h2;obtain⟨c0,c1,c2,c3,c4,c5,c6,c7,c8⟩:=nine_cells HD3.out.hw;have zf:∀ j,w3.frozen? ⟨w.heap.size,j,none⟩=false:=(fun j=>by unfold World.frozen?;rw[HD3.out.hw];simp)))
      go_roundw
      case rel=>exact⟨3,by omega,by go_num,zh (HD3.out.setW 2 _)⟩
      case measure=>simp[intOf]
     ·have HEJ:Hid (DecAt w s (putN rt++(putsN ([sg,ho,rf,rt,ca,se,sf,st].drop 4)++(sl.data.toList++[]))) #[.int .i64 sg,.int .i64 ho,.int .i64 rf,.int .i64 0,.int .i64 0,.int .i64 0,.int .i64 0,.int .i64 0,.string ⟨#[]⟩] v l wr):=zh (by
       have h:=hE.out
       rw[putsN_at (k:=3) (x:=rt) rfl]at h
       exact h)
      obtain rfl:ji=3:=by rw[hji];rfl
      clear hji
      have hix:∀ W,(Instr.index 250 (.agg #[.pointer (some ⟨w.heap.size,0,none⟩),.pointer (some ⟨w.heap.size,1,none⟩),.pointer (some ⟨w.heap.size,2,none⟩),.pointer (some ⟨w.heap.size,3,none⟩),.pointer (some ⟨w.heap.size,4,none⟩),.pointer (some ⟨w.heap.size,5,none⟩),.pointer (some ⟨w.heap.size,6,none⟩),.pointer (some ⟨w.heap.size,7,none⟩)]) (.int .i64 3)).run Tryz.prog W=.ok (.pointer (some ⟨w.heap.size,3,none⟩)) W:=fun W=>by kernel_rfl
      have HNJ:=zh (rdN HEJ.out.hr ⟨by omega,by omega⟩ hsz)
      clear hE
      go_wp2_with (first | (refine wpList_index rfl _ _ _ rfl (hix _) ?_) | (go_at_call 132;(with_reducible refine HNJ.out.mono ?_);rintro e w3 ⟨rfl,h1,h2⟩;have HD3:=zh (HEJ.out.turn h1 h2);clear h1 h2;obtain⟨c0,c1,c2,c3,c4,c5,c6,c7,c8⟩:=nine_cells HD3.out.hw;have zf:∀ j,w3.frozen? ⟨w.heap.size,j,none⟩=false:=(fun j=>by unfold World.frozen?;rw[HD3.out.hw];simp)))
      go_roundw
      case rel=>exact⟨4,by omega,by go_num,zh (HD3.out.setW 3 _)⟩
      case measure=>simp[intOf]
     ·have HEJ:Hid (DecAt w s (putN ca++(putsN ([sg,ho,rf,rt,ca,se,sf,st].drop 5)++(sl.data.toList++[]))) #[.int .i64 sg,.int .i64 ho,.int .i64 rf,.int .i64 rt,.int .i64 0,.int .i64 0,.int .i64 0,.int .i64 0,.string ⟨#[]⟩] v l wr):=zh (by
       have h:=hE.out
       rw[putsN_at (k:=4) (x:=ca) rfl]at h
       exact h)
      obtain rfl:ji=4:=by rw[hji];rfl
      clear hji
      have hix:∀ W,(Instr.index 250 (.agg #[.pointer (some ⟨w.heap.size,0,none⟩),.pointer (some ⟨w.heap.size,1,none⟩),.pointer (some ⟨w.heap.size,2,none⟩),.pointer (some ⟨w.heap.size,3,none⟩),.pointer (some ⟨w.heap.size,4,none⟩),.pointer (some ⟨w.heap.size,5,none⟩),.pointer (some ⟨w.heap.size,6,none⟩),.pointer (some ⟨w.heap.size,7,none⟩)]) (.int .i64 4)).run Tryz.prog W=.ok (.pointer (some ⟨w.heap.size,4,none⟩)) W:=fun W=>by kernel_rfl
      have HNJ:=zh (rdN HEJ.out.hr ⟨by omega,by omega⟩ hsz)
      clear hE
      go_wp2_with (first | (refine wpList_index rfl _ _ _ rfl (hix _) ?_) | (go_at_call 132;(with_reducible refine HNJ.out.mono ?_);rintro e w3 ⟨rfl,h1,h2⟩;have HD3:=zh (HEJ.out.turn h1 h2);clear h1 h2;obtain⟨c0,c1,c2,c3,c4,c5,c6,c7,c8⟩:=nine_cells HD3.out.hw;have zf:∀ j,w3.frozen? ⟨w.heap.size,j,none⟩=false:=(fun j=>by unfold World.frozen?;rw[HD3.out.hw];simp)))
      go_roundw
      case rel=>exact⟨5,by omega,by go_num,zh (HD3.out.setW 4 _)⟩
      case measure=>simp[intOf]
     ·have HEJ:Hid (DecAt w s (putN se++(putsN ([sg,ho,rf,rt,ca,se,sf,st].drop 6)++(sl.data.toList++[]))) #[.int .i64 sg,.int .i64 ho,.int .i64 rf,.int .i64 rt,.int .i64 ca,.int .i64 0,.int .i64 0,.int .i64 0,.string ⟨#[]⟩] v l wr):=zh (by
       have h:=hE.out
       rw[putsN_at (k:=5) (x:=se) rfl]at h
       exact h)
      obtain rfl:ji=5:=by rw[hji];rfl
      clear hji
      have hix:∀ W,(Instr.index 250 (.agg #[.pointer (some ⟨w.heap.size,0,none⟩),.pointer (some ⟨w.heap.size,1,none⟩),.pointer (some ⟨w.heap.size,2,none⟩),.pointer (some ⟨w.heap.size,3,none⟩),.pointer (some ⟨w.heap.size,4,none⟩),.pointer (some ⟨w.heap.size,5,none⟩),.pointer (some ⟨w.heap.size,6,none⟩),.pointer (some ⟨w.heap.size,7,none⟩)]) (.int .i64 5)).run Tryz.prog W=.ok (.pointer (some ⟨w.heap.size,5,none⟩)) W:=fun W=>by kernel_rfl
      have HNJ:=zh (rdN HEJ.out.hr ⟨by omega,by omega⟩ hsz)
      clear hE
      go_wp2_with (first | (refine wpList_index rfl _ _ _ rfl (hix _) ?_) | (go_at_call 132;(with_reducible refine HNJ.out.mono ?_);rintro e w3 ⟨rfl,h1,h2⟩;have HD3:=zh (HEJ.out.turn h1 h2);clear h1 h2;obtain⟨c0,c1,c2,c3,c4,c5,c6,c7,c8⟩:=nine_cells HD3.out.hw;have zf:∀ j,w3.frozen? ⟨w.heap.size,j,none⟩=false:=(fun j=>by unfold World.frozen?;rw[HD3.out.hw];simp)))
      go_roundw
      case rel=>exact⟨6,by omega,by go_num,zh (HD3.out.setW 5 _)⟩
      case measure=>simp[intOf]
     ·have HEJ:Hid (DecAt w s (putN sf++(putsN ([sg,ho,rf,rt,ca,se,sf,st].drop 7)++(sl.data.toList++[]))) #[.int .i64 sg,.int .i64 ho,.int .i64 rf,.int .i64 rt,.int .i64 ca,.int .i64 se,.int .i64 0,.int .i64 0,.string ⟨#[]⟩] v l wr):=zh (by
       have h:=hE.out
       rw[putsN_at (k:=6) (x:=sf) rfl]at h
       exact h)
      obtain rfl:ji=6:=by rw[hji];rfl
      clear hji
      have hix:∀ W,(Instr.index 250 (.agg #[.pointer (some ⟨w.heap.size,0,none⟩),.pointer (some ⟨w.heap.size,1,none⟩),.pointer (some ⟨w.heap.size,2,none⟩),.pointer (some ⟨w.heap.size,3,none⟩),.pointer (some ⟨w.heap.size,4,none⟩),.pointer (some ⟨w.heap.size,5,none⟩),.pointer (some ⟨w.heap.size,6,none⟩),.pointer (some ⟨w.heap.size,7,none⟩)]) (.int .i64 6)).run Tryz.prog W=.ok (.pointer (some ⟨w.heap.size,6,none⟩)) W:=fun W=>by kernel_rfl
      have HNJ:=zh (rdN HEJ.out.hr ⟨by omega,by omega⟩ hsz)
      clear hE
      go_wp2_with (first | (refine wpList_index rfl _ _ _ rfl (hix _) ?_) | (go_at_call 132;(with_reducible refine HNJ.out.mono ?_);rintro e w3 ⟨rfl,h1,h2⟩;have HD3:=zh (HEJ.out.turn h1 h2);clear h1 h2;obtain⟨c0,c1,c2,c3,c4,c5,c6,c7,c8⟩:=nine_cells HD3.out.hw;have zf:∀ j,w3.frozen? ⟨w.heap.size,j,none⟩=false:=(fun j=>by unfold World.frozen?;rw[HD3.out.hw];simp)))
      go_roundw
      case rel=>exact⟨7,by omega,by go_num,zh (HD3.out.setW 6 _)⟩
      case measure=>simp[intOf]
     ·have HEJ:Hid (DecAt w s (putN st++(putsN ([sg,ho,rf,rt,ca,se,sf,st].drop 8)++(sl.data.toList++[]))) #[.int .i64 sg,.int .i64 ho,.int .i64 rf,.int .i64 rt,.int .i64 ca,.int .i64 se,.int .i64 sf,.int .i64 0,.string ⟨#[]⟩] v l wr):=zh (by
       have h:=hE.out
       rw[putsN_at (k:=7) (x:=st) rfl]at h
       exact h)
      obtain rfl:ji=7:=by rw[hji];rfl
      clear hji
      have hix:∀ W,(Instr.index 250 (.agg #[.pointer (some ⟨w.heap.size,0,none⟩),.pointer (some ⟨w.heap.size,1,none⟩),.pointer (some ⟨w.heap.size,2,none⟩),.pointer (some ⟨w.heap.size,3,none⟩),.pointer (some ⟨w.heap.size,4,none⟩),.pointer (some ⟨w.heap.size,5,none⟩),.pointer (some ⟨w.heap.size,6,none⟩),.pointer (some ⟨w.heap.size,7,none⟩)]) (.int .i64 7)).run Tryz.prog W=.ok (.pointer (some ⟨w.heap.size,7,none⟩)) W:=fun W=>by kernel_rfl
      have HNJ:=zh (rdN HEJ.out.hr ⟨by omega,by omega⟩ hsz)
      clear hE
      go_wp2_with (first | (refine wpList_index rfl _ _ _ rfl (hix _) ?_) | (go_at_call 132;(with_reducible refine HNJ.out.mono ?_);rintro e w3 ⟨rfl,h1,h2⟩;have HD3:=zh (HEJ.out.turn h1 h2);clear h1 h2;obtain⟨c0,c1,c2,c3,c4,c5,c6,c7,c8⟩:=nine_cells HD3.out.hw;have zf:∀ j,w3.frozen? ⟨w.heap.size,j,none⟩=false:=(fun j=>by unfold World.frozen?;rw[HD3.out.hw];simp)))
      go_roundw
      case rel=>exact⟨8,by omega,by go_num,zh (HD3.out.setW 7 _)⟩
      case measure=>simp[intOf]
    ·obtain rfl:j=8:=by omega
     obtain⟨ji,hji⟩:∃ ji:Int,ji=((8:Nat):Int):=⟨_,rfl⟩
     rw[← hji]
     obtain rfl:ji=8:=by rw[hji];rfl
     clear hji
     have HEJ:Hid (DecAt w s (sl.data.toList++[]) #[.int .i64 sg,.int .i64 ho,.int .i64 rf,.int .i64 rt,.int .i64 ca,.int .i64 se,.int .i64 sf,.int .i64 st,.string ⟨#[]⟩] v l wr):=zh hE.out
     have HNJ:=zh (rdD HEJ.out.hr hsl hsz)
     clear hE
     go_upto_region 25 with(go_at_call 134;(with_reducible refine HNJ.out.mono ?_);rintro e w3 ⟨rfl,h1,h2⟩;have HD3:=zh (HEJ.out.turn h1 h2);clear h1 h2;obtain⟨c0,c1,c2,c3,c4,c5,c6,c7,c8⟩:=nine_cells HD3.out.hw;have zf:∀ j,w3.frozen? ⟨w.heap.size,j,none⟩=false:=(fun j=>by unfold World.frozen?;rw[HD3.out.hw];simp))
     have HD5:Hid (DecAt w s [] #[.int .i64 sg,.int .i64 ho,.int .i64 rf,.int .i64 rt,.int .i64 ca,.int .i64 se,.int .i64 sf,.int .i64 st,.string sl] v l (w3.setCell ⟨w.heap.size,8,none⟩ (.string sl))):=zh (HD3.out.setW 8 _)
     clear c0 c1 c2 c3 c4 c5 c6 c7 c8 zf HD3 HNJ HEJ
     generalize w3.setCell ⟨w.heap.size,8,none⟩ (.string sl)=w5 at *
     obtain⟨a5,h5,h6⟩:=HD5.out.hr.done
     obtain⟨av,cv,hv⟩:=OwnE.form HD5.out.own
     have HVL:=zh hv
     clear hv
     rw[HVL.out]at HD5
     generalize (l.map pcells).length=M at *
     have c9:=cell_of_row w5 _ 1 _ _ _ h5
     have d0:=cell_of_row w5 _ 0 _ _ _ HD5.out.hl
     obtain⟨c0,c1,c2,c3,c4,c5,c6,c7,c8⟩:=nine_cells HD5.out.hw
     have h6':¬ (a5:Int) < (s.size:Int):=by omega
     have HFM:=zh (formedW_yes (w:=w5) ⟨sg,ho,rf,rt,ca,se,sf,st,sl⟩ HX.out HFP.out (OwnP.ps HD5.out.own) (by rw[← HN.out];exact h4))
     unfold wagg at HFM
     simp only at HFM
     clear h5
     go_upto_region 27 with(go_at_call 27;(with_reducible refine HFM.out.mono ?_);clear c0 c1 c2 c3 c4 c5 c6 c7 c8 c9 d0;rintro e w6 ⟨rfl,h1⟩;have HD6:=zh (HD5.out.step h1);clear h1)
     clear HFM HD5
     refine wp_region_noPanic ?_
     refine wp_region_lexF [.q 0,.q 1,.b 2,.b 3,.b 4] (fun W=>DecAt w s [] #[.int .i64 sg,.int .i64 ho,.int .i64 rf,.int .i64 rt,.int .i64 ca,.int .i64 se,.int .i64 sf,.int .i64 st,.string sl] (.slice av M cv) l W) (by kernel_rfl) (by kernel_rfl) (fun _ _ _ _ h=>h) (fun _ _ h h'=>h.step h') (HD6.out.step (Below.drew br0)) ?_
     refine wpFl_qL (v:=?_) rfl (Or.inl ⟨by rfl,?_⟩) ?_
     rotate_left
     focus(intro w' hSw;obtain⟨c0,c1,c2,c3,c4,c5,c6,c7,c8⟩:=nine_cells hSw.hw;go_simp;(try with_reducible rfl);done)
     simp only[Act.put,zzA,zzB,zzC]
     refine wpFl_qL (v:=?_) rfl (Or.inl ⟨by rfl,?_⟩) ?_
     rotate_left
     focus(intro w' hSw;have d0:=cell_of_row w' _ 0 _ _ _ hSw.hl;go_simp;(try with_reducible rfl);done)
     simp only[Act.put,zzA,zzB,zzC]
     refine wpFl_bS rfl (fun w7 hn7 hs7 K hK=>?_)
     obtain⟨c0,c1,c2,c3,c4,c5,c6,c7,c8⟩:=nine_cells hs7.hw
     have zf:∀ j,w7.frozen? ⟨w.heap.size,j,none⟩=false:=(fun j=>by unfold World.frozen?;rw[hs7.hw];simp)
     go_simp
     have z7:w6.heap.size≤w7.heap.size:=hn7.size
     refine hK.out _ _ hs7.setAll (by simpa using z7) Keeps.nil ?_
     clear hK K hn7 hs7 c0 c1 c2 c3 c4 c5 c6 c7 c8 zf
     refine wpFl_bS rfl (fun w8 hn8 hs8 K hK=>?_)
     have d0:=cell_of_row w8 _ 0 _ _ _ hs8.hl
     have zf:∀ j,w8.frozen? ⟨w.heap.size+1,j,none⟩=false:=(fun j=>by unfold World.frozen?;rw[hs8.hl];simp)
     go_simp
     have z8:w6.heap.size≤w8.heap.size:=Nat.le_trans z7 (by simpa using hn8.size)
     refine hK.out _ _ hs8.setL (by simpa using z8) Keeps.nil ?_
     clear hK K hn8 hs8 d0 zf
     refine wpFl_bS rfl (fun w9 hn9 hs9 K hK=>?_)
     have d0:=cell_of_row w9 _ 0 _ _ _ hs9.he
     have zf:∀ j,w9.frozen? ⟨w.heap.size+1+1,j,none⟩=false:=(fun j=>by unfold World.frozen?;rw[hs9.he];simp)
     go_simp
     have HD9:=zh hs9.setE
     have z9:w6.heap.size≤w9.heap.size:=Nat.le_trans z8 (by simpa using hn9.size)
     refine hK.out _ _ hs9.setE (by simpa using z9) Keeps.nil ?_
     clear hK K hn9 hs9 d0 zf
     generalize w9.setCell ⟨w.heap.size+1+1,0,none⟩ (.int .i64 0)=we at *
     refine wpFl_nil ?_
     refine NoPanic.normal ?_
     go_wp2
     refine leaves_cons (f:=131) (args:=#[.pointer (some ⟨w.heap.size,0,none⟩),.pointer (some ⟨w.heap.size+1,0,none⟩),.pointer (some ⟨w.heap.size+1+1,0,none⟩)]) (by simp) (by simp[go_sem]) ?_
     refine(decodeW_idle _ _ _ _).mono ?_
     rintro e u' w'' ⟨rfl,rfl,rfl⟩
     exact⟨_,results_dec HD9.out rfl rfl _ rfl rfl rfl,_,rfl,OwnP.ps HD9.out.own,HD9.out.hb⟩
end Go.Proofs.YtjjiikeldpjafaaGreatDoor
/- A region that draws its order: an invariant of what has come up serves for all orders. The conditions: each operation keeps it; each waits for earlier ones alone. -/
namespace Go.Proofs.YtjjiikeldpjafaaGreatDoor
open Go.RowKit
section
variable {P:Program} {Q:Exit→Act→World→Prop}
def fwdB (ops:Array Oper):Bool:=(List.range ops.size).all fun k=>match ops[k]? with
 | none=>true
 | some o=>o.after.all fun e=>decide (e.on < k)
theorem fwdB_spec {ops:Array Oper}(h:fwdB ops=true){k:Nat}{o:Oper}(ho:ops[k]?=some o){e:_}(he:e∈o.after):e.on < k:=by
 unfold fwdB at h
 have h1:=List.all_eq_true.1 h k (List.mem_range.2 (ltA ho))
 simp only[ho]at h1
 have h2:=(Array.all_eq_true'.1 h1) e he
 simpa using h2
theorem all_done {ops:Array Oper}(h:fwdB ops=true){L:List Nat}(hr:Region.ready .any ops (tookA ops.size L)=[]):∀ j,j < ops.size→j∈L:=by
 intro j
 induction j using Nat.strongRecOn with
 | _ j ih =>
  intro hj
  by_cases hL:j∈L
  ·exact hL
  ·exfalso
   have hm:j∈Region.ready .any ops (tookA ops.size L):=by
    refine mem_ready.2 ⟨by rw[tookA_getD,if_pos hj];simpa using hL,ops[j],Array.getElem?_eq_getElem hj,fun e he _=>?_⟩
    have h1:=fwdB_spec h (Array.getElem?_eq_getElem hj) he
    rw[tookA_getD,if_pos (by omega)]
    simpa using ih e.on h1 (by omega)
   rw[hr]at hm
   cases hm
theorem wpAny_inv {ops:Array Oper}(hB:fwdB ops=true)(Inv:List Nat→Act→World→Prop)
  (hend:∀ L a w,Inv L a w→(∀ j,j < ops.size→j∈L)→Q .normal a w)
  (hstep:∀ L a w i o,Inv L a w→i ∉ L→ops[i]?=some o→(∀ e∈o.after,Region.binds .any e=true→e.on∈L)→wpOp P ops Q i (fun a' w'=>Inv (i::L) a' w') a w) :
  ∀(f:Nat) (L:List Nat) (a:Act) (w:World),Inv L a w→undone ops.size L≤f→wpAny P .any ops Q f (tookA ops.size L) a w
 | 0,L,a,w,hI,hu=>by
  have hr:Region.ready .any ops (tookA ops.size L)=[]:=by
   apply List.eq_nil_iff_forall_not_mem.2
   intro j hj
   obtain⟨g1,oj,hoj,_⟩:=mem_ready.1 hj
   have hjl:=(ltA hoj)
   rw[tookA_getD,if_pos hjl]at g1
   have hjL:j ∉ L:=by simpa using g1
   have:=undone_cons ops.size L j hjl hjL
   omega
  exact⟨hr,hend L a w hI (all_done hB hr)⟩
 | f+1,L,a,w,hI,hu=>by
  refine⟨fun hr=>hend L a w hI (all_done hB hr),fun i hi=>?_⟩
  obtain⟨g1,o,ho,g3⟩:=mem_ready.1 hi
  have hil:=(ltA ho)
  rw[tookA_getD,if_pos hil]at g1
  have hiL:i ∉ L:=by simpa using g1
  have hun:=undone_cons ops.size L i hil hiL
  refine wpOp_mono (fun a' w' h'=>?_) (hstep L a w i o hI hiL ho (fun e he hb=>?_))
  ·rw[tookA_cons]
   exact wpAny_inv hB Inv hend hstep f (i::L) a' w' h' (by omega)
  ·have h2:=g3 e he hb
   have h1:=fwdB_spec hB ho he
   rw[tookA_getD,if_pos (by omega)]at h2
   simpa using h2
theorem wp_region_inv {id:Nat}{l:List Oper}{a:Act}{w:World}(hm:P.follows .mixedOrders=true)(hB:fwdB l.toArray=true)(Inv:List Nat→Act→World→Prop)
  (h0:Inv [] a w.drew)
  (hend:∀ L a w,Inv L a w→(∀ j,j < l.length→j∈L)→Q .normal a w)
  (hstep:∀ L a w i o,Inv L a w→i ∉ L→l[i]?=some o→(∀ e∈o.after,Region.binds .any e=true→e.on∈L)→wpOp P l.toArray Q i (fun a' w'=>Inv (i::L) a' w') a w) :
  (Code.region id l.toArray true).wp P Q a w:=by
 refine wp_region_any hm ?_
 have:=wpAny_inv (P:=P) (Q:=Q) hB Inv (fun L a w hI hj=>hend L a w hI (by simpa using hj)) (fun L a w i o hI hi ho hd=>hstep L a w i o hI hi (by rw[← List.getElem?_toArray];exact ho) hd) l.toArray.size [] a w.drew h0 (by rw[undone_nil];exact Nat.le_refl _)
 rw[tookA_nil]at this
 exact this
end
end Go.Proofs.YtjjiikeldpjafaaGreatDoor
/- A range over a function whose iterator makes and writes blocks of its own (captured variables): the iterator's contract and the law of the statement. The fence is wide; the conditions are what the body keeps. -/
namespace Go.Proofs.YtjjiikeldpjafaaGreatDoor
open Go.RowKit
section
variable {P:Program} {α:Type}
def IStepS (R:Nat→Prop)(A C:World):Prop:=∃ r,A.grownBy C r∧∀ b,r=some b→R b
theorem IStepS.quiet {R:Nat→Prop}{A C:World}(h:A.grownBy C none):IStepS R A C:=⟨none,h,fun b e=>by cases e⟩
theorem IStepS.below {R:Nat→Prop}{A C:World}(h:Below A.heap.size A C):IStepS R A C:=.quiet ⟨h.os,h.tape,h.output,h.size,fun i hi _=>h.block i hi⟩
def AbideS (R:Nat→Prop)(B:Nat)(I:List α→World→Prop):Prop :=
 (∀ pre A C,I pre A→IStepS R A C→I pre C) ∧
 ∀ pre A C r,I pre A→A.grownBy C r→(r=none∨∃ k o,r=some k∧B≤k∧A.heap[k]?=some o∧o.isCells=false)→I pre C
theorem abideS_false (R:Nat→Prop)(B:Nat):AbideS (α:=α) R B (fun _ _=>False):=⟨fun _ _ _ h _=>h,fun _ _ _ _ h _ _=>h⟩
theorem abideS_pure (R:Nat→Prop)(B:Nat)(p:List α→Prop):AbideS R B (fun pre _=>p pre):=⟨fun _ _ _ h _=>h,fun _ _ _ _ h _ _=>h⟩
theorem abideS_and {R:Nat→Prop}{B:Nat}{I I':List α→World→Prop}(h:AbideS R B I)(h':AbideS R B I'):AbideS R B (fun pre W=>I pre W∧I' pre W) :=
 ⟨fun pre A C hi hs=>⟨h.1 pre A C hi.1 hs,h'.1 pre A C hi.2 hs⟩,fun pre A C r hi hg hr=>⟨h.2 pre A C r hi.1 hg hr,h'.2 pre A C r hi.2 hg hr⟩⟩
theorem abideS_ex {R:Nat→Prop}{B:Nat}{β:Type}{I:β→List α→World→Prop}(h:∀ v,AbideS R B (I v)):AbideS R B (fun pre W=>∃ v,I v pre W) :=
 ⟨fun pre A C ⟨v,hi⟩ hs=>⟨v,(h v).1 pre A C hi hs⟩,fun pre A C r ⟨v,hi⟩ hg hr=>⟨v,(h v).2 pre A C r hi hg hr⟩⟩
theorem abideS_cells {R:Nat→Prop}{B k:Nat}(f:List α→Obj)(hf:∀ pre,(f pre).isCells=true)(hk:¬ R k):AbideS R B (fun pre W=>W.heap[k]?=some (f pre)) :=
 ⟨fun pre A C h ⟨r,hg,hr⟩=>(hg.block k (ltA h) (fun e=>hk (hr k e.symm))).trans h,
  fun pre A C r h hg hr=>(hg.block k (ltA h) (fun e=>by
  rcases hr with hr | ⟨k',o,hr,_,ho,hc⟩
  ·rw[hr]at e;cases e
  ·rw[hr]at e;cases e;rw[h]at ho;cases ho;rw[hf]at hc;cases hc)).trans h⟩
theorem abideS_below {R:Nat→Prop}{B n₀:Nat}{w0:World}(hB:n₀≤B)(hn:n₀≤w0.heap.size)(hk:∀ k,R k→n₀≤k):AbideS (α:=α) R B (fun _ W=>Below n₀ w0 W) :=
 ⟨fun pre A C h ⟨r,hg,hr⟩=>h.grown hg (Nat.le_trans hn h.size) (fun k e=>hk k (hr k e)),
  fun pre A C r h hg hr=>h.grown hg (Nat.le_trans hn h.size) (fun k e=>by
  rcases hr with hr | ⟨k',o,hr,h1,_,_⟩
  ·rw[hr]at e;cases e
  ·rw[hr]at e;cases e;omega)⟩
theorem Book.grownS {w A C:World}{r:Loop}{R:Nat→Prop}(h:Book w r A)(hs:IStepS R A C)(hrow:∀ k,R k→k≠w.heap.size∧k≠w.heap.size+1):Book w r C:=by
 obtain⟨x,hg,hx⟩:=hs
 exact⟨(hg.block _ (ltA h.1) (fun e=>(hrow _ (hx _ e.symm)).2 rfl)).trans h.1,(hg.block _ (ltA h.2) (fun e=>(hrow _ (hx _ e.symm)).1 rfl)).trans h.2⟩
end
end Go.Proofs.YtjjiikeldpjafaaGreatDoor
/- TopReclaims: the map of what follows an event in a state, filled in whatever order. No condition. -/
namespace Go.Proofs.YtjjiikeldpjafaaGreatDoor
open Go.RowKit
def effL:List (Int × Int × Int):=[(1,1,3),(2,1,2),(3,2,3),(4,2,6),(5,1,7),(5,2,7),(5,3,7),(6,4,8)]
def effKey (x:Int × Int × Int):Value:=.agg #[.int .i64 x.1,.int .i64 x.2.1]
def effOp (x:Int × Int × Int):Nat:=if x=(1,1,3)then 2 else if x=(2,1,2)then 4 else if x=(3,2,3)then 6 else if x=(4,2,6)then 8 else if x=(5,1,7)then 10 else if x=(5,2,7)then 12 else if x=(5,3,7)then 14 else 16
structure EffAt (L:List Nat) (es:Array MapEntry):Prop where
 sound:∀ e∈es.toList,∃ x∈effL,effOp x∈L∧e.key=effKey x∧e.val=.int .i64 x.2.2
 whole:∀ x∈effL,effOp x∈L→∃ e∈es.toList,e.key=effKey x∧e.val=.int .i64 x.2.2
theorem eff_inj:∀ x∈effL,∀ y∈effL,effOp x=effOp y→x=y:=by decide
theorem eff_inj2:∀ x∈effL,∀ y∈effL,x.1=y.1∧x.2.1=y.2.1→x=y:=by decide
theorem eff_equal (w:World):∀ x∈(6,5,0)::effL,∀ y∈effL,(Op.equal 318 (effKey x) (effKey y)).run Tryz.prog w=.ok (decide (x.1=y.1∧x.2.1=y.2.1)) w:=by
 intro x hx y hy
 simp only[effL,List.mem_cons,List.not_mem_nil,or_false]at hx hy
 rcases hx with rfl | rfl | rfl | rfl | rfl | rfl | rfl | rfl | rfl <;> rcases hy with rfl | rfl | rfl | rfl | rfl | rfl | rfl | rfl <;> kernel_rfl
theorem eff_check (b:Bool)(w:World):∀ x∈(6,5,0)::effL,(Instr.checkKey b 10000 318 (effKey x)).run Tryz.prog w=.ok () w:=by
 intro x hx
 simp only[effL,List.mem_cons,List.not_mem_nil,or_false]at hx
 rcases hx with rfl | rfl | rfl | rfl | rfl | rfl | rfl | rfl | rfl <;> cases b <;> kernel_rfl
def EffFound (x:Int × Int × Int)(l:List MapEntry)(r:Option (Nat × Value)):Prop :=
 (r=none∧∀ e∈l,e.key≠effKey x)∨∃ i y,r=some (i,.int .i64 y.2.2)∧y∈effL∧x.1=y.1∧x.2.1=y.2.1∧∃ e∈l,e.key=effKey y
theorem effKey_inj {x y:Int × Int × Int}(h:effKey x=effKey y):x.1=y.1∧x.2.1=y.2.1:=by
 unfold effKey at h
 simpa using h
theorem eff_findA (w:World){x:Int × Int × Int}(hx:x∈(6,5,0)::effL):∀(l:List MapEntry) (n:Nat),(∀ e∈l,∃ y∈effL,e.key=effKey y∧e.val=.int .i64 y.2.2)→∃ r,(Instr.findAsking 318 (effKey x) l n).run Tryz.prog w=.ok r w∧EffFound x l r
 | [],_,_=>⟨none,rfl,.inl ⟨rfl,fun e he=>absurd he List.not_mem_nil⟩⟩
 | e::es,n,h=>by
  obtain⟨y,hy,hk,hv⟩:=h e (List.mem_cons_self ..)
  have he:=eff_equal w x hx y hy
  obtain⟨r,h1,h2⟩:=eff_findA w hx es (n+1) (fun e' he'=>h e' (List.mem_cons_of_mem _ he'))
  by_cases hd:x.1=y.1∧x.2.1=y.2.1
  ·refine⟨some (n,e.val),?_,.inr ⟨n,y,by rw[hv],hy,hd.1,hd.2,e,List.mem_cons_self ..,hk⟩⟩
   unfold Instr.findAsking
   rw[hk,Sem.run_bind,he,decide_eq_true hd]
   rfl
  ·refine⟨r,?_,?_⟩
   ·unfold Instr.findAsking
    rw[hk,Sem.run_bind,he,decide_eq_false hd]
    exact h1
   ·rcases h2 with⟨g1,g2⟩ | ⟨i,z,g1,g2,g3,g4,e',ge,gk⟩
    ·refine .inl ⟨g1,fun e' he'=>?_⟩
     rcases List.mem_cons.1 he' with rfl | he'
     ·rw[hk];exact fun e'=>hd (effKey_inj e'.symm)
     ·exact g2 e' he'
    ·exact .inr ⟨i,z,g1,g2,g3,g4,e',List.mem_cons_of_mem _ ge,gk⟩
theorem eff_find (w:World){x:Int × Int × Int}(hx:x∈(6,5,0)::effL)(l:List MapEntry)(h:∀ e∈l,∃ y∈effL,e.key=effKey y∧e.val=.int .i64 y.2.2):∃ r,(Instr.findKey 318 (effKey x) l).run Tryz.prog w=.ok r w∧EffFound x l r:=by
 unfold Instr.findKey
 cases l with
 | nil=>
  refine⟨none,?_,.inl ⟨rfl,fun e he=>absurd he List.not_mem_nil⟩⟩
  simp only[Sem.run_bind,run_underlying Tryz.underlying318,Result.andThen]
  rfl
 | cons e es =>
  obtain⟨r,h1,h2⟩:=eff_findA w hx (e::es) 0 h
  refine⟨r,?_,h2⟩
  simp only[Sem.run_bind,run_underlying Tryz.underlying318,Result.andThen]
  exact h1
theorem EffAt.kinds {L:List Nat}{es:Array MapEntry}(h:EffAt L es):∀ e∈es.toList,∃ y∈effL,e.key=effKey y∧e.val=.int .i64 y.2.2:=fun e he=>by
 obtain⟨y,h1,-,h3,h4⟩:=h.sound e he
 exact⟨y,h1,h3,h4⟩
theorem eff_insert {w:World}{b clk:Nat}{es:Array MapEntry}{L:List Nat}(hb:w.heap[b]?=some (.map es clk))(h:EffAt L es){x:Int × Int × Int}(hx:x∈effL)(hL:effOp x ∉ L) :
  (Instr.mapUpdate 294 (.map (some b)) (effKey x) (.int .i64 x.2.2)).run Tryz.prog w=.ok () (w.putObj b (.map (es.push { key:=effKey x,val:=.int .i64 x.2.2,born:=clk }) (clk+1))):=by
 obtain⟨r,h1,h2⟩:=eff_find w (List.mem_cons_of_mem _ hx) es.toList h.kinds
 have hr:r=none:=by
  rcases h2 with h2 | ⟨i,y,g1,g2,g3,g4,e,ge,gk⟩
  ·exact h2.1
  ·obtain⟨z,z1,z2,z3,z4⟩:=h.sound e ge
   obtain⟨k1,k2⟩:=effKey_inj (z3.symm.trans gk)
   have e1:=eff_inj2 x hx z z1 ⟨g3.trans k1.symm,g4.trans k2.symm⟩
   exact absurd (e1 ▸ z2) hL
 subst hr
 simp[Instr.mapUpdate,run_underlying Tryz.underlying294,MapKept.run_getObj_map hb,eff_check false w x (List.mem_cons_of_mem _ hx),h1,MapKept.run_setObj_map _ hb,Result.andThen,World.putObj]
theorem EffAt.push {L:List Nat}{es:Array MapEntry}(h:EffAt L es){x:Int × Int × Int}(hx:x∈effL)(clk:Nat):EffAt (effOp x::L) (es.push { key:=effKey x,val:=.int .i64 x.2.2,born:=clk }) where
 sound:=fun e he=>by
  rw[Array.toList_push]at he
  rcases List.mem_append.1 he with he | he
  ·obtain⟨y,h1,h2,h3,h4⟩:=h.sound e he
   exact⟨y,h1,List.mem_cons_of_mem _ h2,h3,h4⟩
  ·rw[List.mem_singleton.1 he]
   exact⟨x,hx,List.mem_cons_self ..,rfl,rfl⟩
 whole:=fun y hy hm=>by
  rw[Array.toList_push]
  rcases List.mem_cons.1 hm with e | hm
  ·rw[eff_inj y hy x hx e]
   exact⟨_,List.mem_append_right _ (List.mem_singleton.2 rfl),rfl,rfl⟩
  ·obtain⟨e,h1,h2⟩:=h.whole y hy hm
   exact⟨e,List.mem_append_left _ h1,h2⟩
theorem EffAt.more {L:List Nat}{es:Array MapEntry}(h:EffAt L es){i:Nat}(hi:∀ x∈effL,effOp x≠i):EffAt (i::L) es where
 sound:=fun e he=>by
  obtain⟨y,h1,h2,h3,h4⟩:=h.sound e he
  exact⟨y,h1,List.mem_cons_of_mem _ h2,h3,h4⟩
 whole:=fun y hy hm=>by
  rcases List.mem_cons.1 hm with e | hm
  ·exact absurd e (hi y hy)
  ·exact h.whole y hy hm
theorem EffAt.none {L:List Nat}(h:∀ x∈effL,effOp x ∉ L):EffAt L #[] where
 sound:=fun e he=>by simp at he
 whole:=fun x hx hm=>absurd hm (h x hx)
theorem eff_look {w:World}{b clk:Nat}{es:Array MapEntry}{L:List Nat}(hb:w.heap[b]?=some (.map es clk))(h:EffAt L es){x:Int × Int × Int}(hx:x∈effL)(hL:effOp x∈L) :
  (Instr.lookup 294 (.map (some b)) (effKey x) true).run Tryz.prog w=.ok (.tuple #[.int .i64 x.2.2,.bool true]) w:=by
 obtain⟨r,h1,h2⟩:=eff_find w (List.mem_cons_of_mem _ hx) es.toList h.kinds
 rcases h2 with⟨g1,g2⟩ | ⟨i,y,g1,g2,g3,g4,e,ge,gk⟩
 ·obtain⟨e,e1,e2,e3⟩:=h.whole x hx hL
  exact absurd e2 (g2 e e1)
 ·obtain rfl:=eff_inj2 x hx y g2 ⟨g3,g4⟩
  subst g1
  simp[Instr.lookup,run_underlying Tryz.underlying294,MapKept.run_getObj_map hb,eff_check _ w x (List.mem_cons_of_mem _ hx),h1,Result.andThen]
theorem eff_miss {w:World}{b clk:Nat}{es:Array MapEntry}{L:List Nat}(hb:w.heap[b]?=some (.map es clk))(h:EffAt L es) :
  (Instr.lookup 294 (.map (some b)) (effKey (6,5,0)) true).run Tryz.prog w=.ok (.tuple #[.int .i64 0,.bool false]) w:=by
 obtain⟨r,h1,h2⟩:=eff_find w (x:=(6,5,0)) (List.mem_cons_self ..) es.toList h.kinds
 rcases h2 with⟨g1,g2⟩ | ⟨i,y,g1,g2,g3,g4,e,ge,gk⟩
 ·subst g1
  have hz:(zeroValue 3).run Tryz.prog w=.ok (.int .i64 0) w:=by kernel_rfl
  simp[Instr.lookup,run_underlying Tryz.underlying294,MapKept.run_getObj_map hb,eff_check _ w (6,5,0) (List.mem_cons_self ..),h1,hz,Result.andThen]
 ·exfalso
  have:∀ z∈effL,¬ ((6:Int)=z.1∧(5:Int)=z.2.1):=by decide
  exact this y g2 ⟨g3,g4⟩
end Go.Proofs.YtjjiikeldpjafaaGreatDoor
