/- The walk of register.Show. The conditions: what the slices read as, lengths, the table of constants. -/
import Derived.Deep.AppendLies
import Derived.Deep.RegionLaw
import Derived.Test.YtggdcnjaofflbaaGreatDoorMM08
import Derived.ProofKit
import Derived.OpenShut
import Derived.ChangeBears
import Derived.ReadAgain
import Derived.Deep.DeepHandedRow
import Derived.Lib.LaidTab
namespace Go.Proofs.YtggdcnjaofflbaaGreatDoor
open Go.RowKit Go.BigFrame
def IL (w:World)(v:Value)(l:List Int):Prop:=SliceAt w v 1 (icells l)
theorem IL.below {w w':World}{v:Value}{l:List Int}(h:IL w v l)(hb:Below w.heap.size w w'):IL w' v l:=SliceAt.below h hb
theorem IL.opened {w:World}{v:Value}{l:List Int}(h:IL w v l):∃ a cap,v=.slice a l.length cap∧l.length≤cap∧cap≤maxLen ∧
  ∀ k s,l[k]?=some s→∃ b off,a=some ⟨b,off,none⟩∧b < w.heap.size∧w.cell? ⟨b,off+k,none⟩=some (.int .i64 s):=by
 obtain⟨a,cap,hv,h1,h2,h3⟩:=h
 unfold icells at *
 rw[List.length_map]at hv h1
 refine⟨a,cap,hv,h1,h2,fun k x hx=>?_⟩
 rcases h3 with h3 | ⟨b,off,ha,hb,hc⟩
 ·simp at h3;subst h3;simp at hx
 ·refine⟨b,off,ha,hb,?_⟩
  have:=hc k [.int .i64 x] (by rw[List.getElem?_map,hx];rfl) 0 _ rfl
  simpa using this
structure ISt (w:World) (v:Value) (ys:List (ItemP × Value)):Prop where
 is:IS w v ys
 ty:RowTy w 98 v
 tp:∀ y∈ys,RowTy w 9 y.2
theorem ISt.below {w w':World}{v:Value}{ys:List (ItemP × Value)}(h:ISt w v ys)(hb:Below w.heap.size w w'):ISt w' v ys:=⟨h.is.below hb,h.ty.below hb,fun y hy=>(h.tp y hy).below hb⟩
theorem rowTy_own {w:World}{base size:Nat}{e:TypeId}{v:Value}{css:List (List Value)}(h:OwnE w base e size v css):RowTy w e v:=by
 intro a n c ev
 rcases h.2 with⟨h1,_⟩ | ⟨g,cap,cur,h1,_,hg,_⟩
 ·rw[h1]at ev;cases ev
 ·rw[h1]at ev
  cases ev
  exact .inr ⟨cur,(0,0),hg⟩
def prevL (l:List Int):Nat→Option Int
 | 0=>none
 | k+1=>l[k]?
def showFrom (xs:List ByteArray)(n:Nat)(l:List Int)(k:Nat)(ys:List (ItemP × Value)):Option (List ItemP):=(itemsB xs n (l.drop k) (prevL l k)).map (fun z=>ys.map (·.1)++z)
theorem showFrom_end (xs:List ByteArray)(n:Nat)(l:List Int)(k:Nat)(ys:List (ItemP × Value))(h:l.length≤k):showFrom xs n l k ys=some (ys.map (·.1)):=by
 unfold showFrom
 rw[List.drop_eq_nil_of_le h]
 simp[itemsB]
theorem showFrom_no {xs:List ByteArray}{n:Nat}{l:List Int}{k:Nat}{ys:List (ItemP × Value)}{i:Int}(h:l[k]?=some i)(hc:¬ (0≤i∧i < n∧∀ j,prevL l k=some j→j < i)):showFrom xs n l k ys=none:=by
 unfold showFrom
 rw[drop_get h,itemsB,if_neg hc]
 rfl
theorem showFrom_yes {xs:List ByteArray}{n:Nat}{l:List Int}{k:Nat}{ys:List (ItemP × Value)}{i:Int}(h:l[k]?=some i)(hc:0≤i∧i < n∧∀ j,prevL l k=some j→j < i)(pv:Value) :
  showFrom xs n l k ys=showFrom xs n l (k+1) (ys++[(⟨i,xs.getD i.toNat ⟨#[]⟩,proofB (xs.take n) i.toNat⟩,pv)]):=by
 unfold showFrom
 rw[drop_get h,itemsB,if_pos hc]
 have e:prevL l (k+1)=some i:=h
 rw[e]
 cases itemsB xs n (l.drop (k+1)) (some i)with
 | none=>rfl
 | some z=>simp
def partZ:Value:=.agg #[.int .i64 0,.int .i64 0,.string ⟨#[]⟩,.string ⟨#[]⟩,.slice none 0 0]
theorem infoItem:(Tryz.prog.info? 98).map (fun i=>(i.zero,i.size,i.bytes))=some (some (.agg #[.int .i64 0,.string ⟨#[]⟩,.slice none 0 0]),3,48):=by kernel_rfl
theorem five_heap {W:World}{b:Nat}{c0 c1 c2 c3 c4:Value}{T:TypeId}(h:W.heap[b]?=some (.cells #[c0,c1,c2,c3,c4] T (0,0)))(v0 v1 v2 v3 v4:Value) :
  (((((W.setCell ⟨b,0,none⟩ v0).setCell ⟨b,1,none⟩ v1).setCell ⟨b,2,none⟩ v2).setCell ⟨b,3,none⟩ v3).setCell ⟨b,4,none⟩ v4).heap[b]?=some (.cells #[v0,v1,v2,v3,v4] T (0,0)):=by
 have h0:=heap_setCell_same (i:=0) v0 h
 have h1:=heap_setCell_same (i:=1) v1 h0
 have h2:=heap_setCell_same (i:=2) v2 h1
 have h3:=heap_setCell_same (i:=3) v3 h2
 exact heap_setCell_same (i:=4) v4 h3
theorem five_below {w W:World}{b B:Nat}(h:Below B w W)(hb:B≤b)(v0 v1 v2 v3 v4:Value) :
  Below B w (((((W.setCell ⟨b,0,none⟩ v0).setCell ⟨b,1,none⟩ v1).setCell ⟨b,2,none⟩ v2).setCell ⟨b,3,none⟩ v3).setCell ⟨b,4,none⟩ v4):=by
 have h0:=h.setCell (p:=⟨b,0,none⟩) hb v0
 have h1:=h0.setCell (p:=⟨b,1,none⟩) hb v1
 have h2:=h1.setCell (p:=⟨b,2,none⟩) hb v2
 have h3:=h2.setCell (p:=⟨b,3,none⟩) hb v3
 exact h3.setCell (p:=⟨b,4,none⟩) hb v4
theorem five_grown (W:World)(b:Nat)(v0 v1 v2 v3 v4:Value) :
  W.grownBy (((((W.setCell ⟨b,0,none⟩ v0).setCell ⟨b,1,none⟩ v1).setCell ⟨b,2,none⟩ v2).setCell ⟨b,3,none⟩ v3).setCell ⟨b,4,none⟩ v4) (some b):=by
 have h0:=grown_setCell (grown_refl W (some b)) ⟨b,0,none⟩ (.inl rfl) v0
 have h1:=grown_setCell h0 ⟨b,1,none⟩ (.inl rfl) v1
 have h2:=grown_setCell h1 ⟨b,2,none⟩ (.inl rfl) v2
 have h3:=grown_setCell h2 ⟨b,3,none⟩ (.inl rfl) v3
 exact grown_setCell h3 ⟨b,4,none⟩ (.inl rfl) v4
theorem SS.grownT {w w':World}{v:Value}{xs:List ByteArray}(h:SS w v xs)(ht:RowTy w 9 v){r:Option Nat}(hg:w.grownBy w' r)(hr:∀ k,r=some k→∀ cs fr,w.heap[k]?≠some (.cells cs 9 fr)):SS w' v xs∧RowTy w' 9 v:=by
 have key:∀(a:Addr) (n c:Nat),v=.slice (some a) n c→n=0∨w'.heap[a.block]?=w.heap[a.block]?:=fun a n c e=>by
  rcases ht a n c e with h0 | ⟨cs,fr,h0⟩
  ·exact .inl h0
  ·refine .inr (hg.block _ (ltA h0) (fun e'=>?_))
   exact hr _ e'.symm cs fr h0
 refine⟨?_,fun a n c e=>?_⟩
 ·obtain⟨a,cap,hv,h1,h2,h3⟩:=h
  refine⟨a,cap,hv,h1,h2,?_⟩
  rcases h3 with h3 | ⟨b,off,rfl,hb,hc⟩
  ·exact .inl h3
  ·rcases key _ _ _ hv with h0 | h0
   ·exact .inl (List.eq_nil_of_length_eq_zero h0)
   ·refine .inr ⟨b,off,rfl,Nat.lt_of_lt_of_le hb hg.size,fun i c hi j u hj=>?_⟩
    have:=hc i c hi j u hj
    rw[← this]
    simp[World.cell?,h0]
 ·rcases key a n c e with h0 | h0
  ·exact .inl h0
  ·rcases ht a n c e with h1 | ⟨cs,fr,h1⟩
   ·exact .inl h1
   ·exact .inr ⟨cs,fr,h0.trans h1⟩
theorem OwnE.grownT {w w':World}{base size:Nat}{e:TypeId}{v:Value}{css:List (List Value)}(h:OwnE w base e size v css){k:Nat}{o:Obj}(hk:w.heap[k]?=some o)(hne:∀ c,o≠.cells c e (0,0))(hg:w.grownBy w' (some k)):OwnE w' base e size v css :=
 World.ownsRow.kept h hg (.inr (fun e'=>own_ne h hk hne e'.symm))
theorem own_snoc {w:World}{B g cap:Nat}{ys:List (ItemP × Value)}{i:Int}{e:ByteArray}{pr:List ByteArray}{pv:Value}(h:w.ownsRow B 98 3 (.slice (some ⟨g,0,none⟩) ((itcells ys).length+1) cap) ((itcells ys).length+1) ((itcells ys).flatten++[.int .i64 i,.string e,pv])) :
  OwnE w B 98 3 (.slice (some ⟨g,0,none⟩) (ys.length+1) cap) (itcells (ys++[(⟨i,e,pr⟩,pv)])):=by
 have e1:(itcells ys).length=ys.length:=by unfold itcells;rw[List.length_map]
 have e2:itcells (ys++[(⟨i,e,pr⟩,pv)])=itcells ys++[[.int .i64 i,.string e,pv]]:=by unfold itcells;rw[List.map_append];rfl
 unfold OwnE
 rw[e2,List.flatten_append,List.length_append,← e1]
 simpa using h
def ShowAt (w W:World)(p:Nat)(R C V:Array Value)(v:Value)(ys:List (ItemP × Value)):Prop :=
 Below w.heap.size w W∧W.heap[w.heap.size]?=some (.cells R 85 (0,0))∧W.heap[w.heap.size+1]?=some (.cells C 92 (0,0))∧W.heap[p]?=some (.cells (V.push v) 92 (0,0))∧OwnE W w.heap.size 98 3 v (itcells ys)∧∀ y∈ys,SS W y.2 y.1.prf∧RowTy W 9 y.2
theorem ShowAt.far {w W W':World}{p:Nat}{R C V:Array Value}{v:Value}{ys:List (ItemP × Value)}(h:ShowAt w W p R C V v ys)(hb:Below W.heap.size W W'):ShowAt w W' p R C V v ys:=by
 obtain⟨h1,h2,h3,h4,h5,h6⟩:=h
 exact⟨h1.trans (hb.mono h1.size),(hb.block _ (ltA h2)).trans h2,(hb.block _ (ltA h3)).trans h3,(hb.block _ (ltA h4)).trans h4,OwnE.far h5 hb (Nat.le_refl _),fun y hy=>⟨(h6 y hy).1.below hb,(h6 y hy).2.below hb⟩⟩
theorem ShowAt.block {w W w7:World}{p:Nat}{R C V:Array Value}{v:Value}{ys:List (ItemP × Value)}(h:ShowAt w W p R C V v ys){o:Obj}(hg:(W.alloc o).drew.grownBy w7 v.ownBlock){k:Nat}{cs:Array Value}{T:TypeId}(hk:W.heap[k]?=some (.cells cs T (0,0)))(hT:T≠98):w7.heap[k]?=some (.cells cs T (0,0)):=by
 have hlt:=(ltA hk)
 refine(hg.block k (by show k < (W.alloc o).heap.size;simp;omega) ?_).trans ((Below.heap_alloc W o k hlt).trans hk)
 exact own_ne h.2.2.2.2.1 hk (fun c e=>by cases e;exact hT rfl)
theorem ShowAt.append {w W w7:World}{p:Nat}{R C V:Array Value}{v:Value}{ys:List (ItemP × Value)}(h:ShowAt w W p R C V v ys)(hp:w.heap.size+1 < p)(hV:V.size=4)(y:ItemP × Value)(hy:SS W y.2 y.1.prf)(hty:RowTy W 9 y.2){o:Obj}(hg:(W.alloc o).drew.grownBy w7 v.ownBlock)
  {g cap:Nat} (ho:OwnE w7 w.heap.size 98 3 (.slice (some ⟨g,0,none⟩) (ys.length+1) cap) (itcells (ys++[y]))) :
  ShowAt w (w7.setCell ⟨p,4,none⟩ (.slice (some ⟨g,0,none⟩) (ys.length+1) cap)) p R C V (.slice (some ⟨g,0,none⟩) (ys.length+1) cap) (ys++[y]):=by
 have hb:=fun {k:Nat} {cs:Array Value} {T:TypeId}=>h.block (p:=p) hg (k:=k) (cs:=cs) (T:=T)
 obtain⟨h1,h2,h3,h4,h5,h6⟩:=h
 have g2:=hb h2 (by decide)
 have g3:=hb h3 (by decide)
 have g4:=hb h4 (by decide)
 have hsz:=h1.size
 have h17:Below w.heap.size w w7:=(below_drewN (h1.alloc hsz o) 1).grown hg (by show _≤(W.alloc o).heap.size;simp;omega) (fun j e=>OwnE.ge h5 j e)
 have hset:w7.grownBy (w7.setCell ⟨p,4,none⟩ (.slice (some ⟨g,0,none⟩) (ys.length+1) cap)) (some p):=grown_setCell (grown_refl _ _) _ (.inl rfl) _
 have hcv:(V.push v).setIfInBounds 4 (.slice (some ⟨g,0,none⟩) (ys.length+1) cap)=V.push (.slice (some ⟨g,0,none⟩) (ys.length+1) cap):=by
  rw[← hV]
  apply Array.ext
  ·simp
  ·intro i h1 h2
   simp only[Array.size_setIfInBounds,Array.size_push]at h1
   by_cases hi:i=V.size
   ·subst hi;simp
   ·rw[Array.getElem_setIfInBounds_ne (by simpa using h1) (fun e=>hi e.symm),Array.getElem_push_lt (by omega),Array.getElem_push_lt (by omega)]
 refine⟨h17.setCell (p:=⟨p,4,none⟩) (by show w.heap.size≤p;omega) _,(Below.heap_setCell _ _ _ _ (by show w.heap.size≠p;omega)).trans g2,(Below.heap_setCell _ _ _ _ (by show w.heap.size+1≠p;omega)).trans g3,?_,ho.grownT g4 (fun c e=>by cases e) hset,?_⟩
 ·rw[heap_setCell_same _ g4,hcv]
 ·have key:∀ z:ItemP × Value,SS W z.2 z.1.prf→RowTy W 9 z.2→SS (w7.setCell ⟨p,4,none⟩ (.slice (some ⟨g,0,none⟩) (ys.length+1) cap)) z.2 z.1.prf∧RowTy (w7.setCell ⟨p,4,none⟩ (.slice (some ⟨g,0,none⟩) (ys.length+1) cap)) 9 z.2:=fun z hz ht=>by
   have b0:Below W.heap.size W (W.alloc o).drew:=below_drewN (br0.alloc (Nat.le_refl _) o) 1
   obtain⟨k1,k2⟩:=(hz.below b0).grownT (ht.below b0) hg (fun k e cs fr e'=>by
    rcases h5.2 with⟨hn,_⟩ | ⟨g',c',cur,hv,_,hg',_⟩
    ·rw[hn]at e;cases e
    ·rw[hv]at e
     cases e
     have e2:(W.alloc o).drew.heap[g']?=W.heap[g']?:=Below.heap_alloc W o g' (ltA hg')
     have e3:=(e2.symm.trans e').symm.trans hg'
     cases e3)
   exact k1.grownT k2 hset (fun k e cs fr e'=>by
    cases e
    rw[g4]at e'
    cases e')
  intro z hz
  rcases List.mem_append.1 hz with hz | hz
  ·exact key z (h6 z hz).1 (h6 z hz).2
  ·rw[List.mem_singleton]at hz
   subst hz
   exact key _ hy hty
set_option maxHeartbeats 1000000 in
set_option maxRecDepth 100000 in
theorem show_yes {key:ByteArray}{car:Int}{w:World}{v vl:Value}{xs:List ByteArray}{n:Nat}{l:List Int}(hr:SS w v xs)(hil:IL w vl l)(hk:key.size=32)(hv:validB ⟨car,xs⟩=true)(hn:n≤xs.length)(hll:l.length≤100000)(he:Env w)(hg:3 < w.heap.size) :
  Calls Tryz.prog 47 #[.string key,.agg #[.int .i64 car,v],.int .i64 n,vl] w fun e w'=>((itemsB xs n l none=none∧e=.returned (.tuple #[partZ,.int .i64 180]))∨∃(v':Value) (ys:List (ItemP × Value)),itemsB xs n l none=some (ys.map (·.1))∧e=.returned (.tuple #[.agg #[.int .i64 (headS key car xs n).car,.int .i64 (headS key car xs n).siz,.string (headS key car xs n).root,.string (headS key car xs n).sl,v'],.int .i64 0])∧ISt w' v' ys)∧Below w.heap.size w w':=by
 obtain⟨v1,v2,v3,v4⟩:0≤car∧car≤7∧xs.length≤60∧∀ s∈xs,s.size≤1000:=valid_parts hv
 obtain⟨a,cap,rfl,l1,l2,l3⟩:=hr.opened
 obtain⟨al,cl,rfl,k1,k2,k3⟩:=hil.opened
 have HS:=zh (fun W (hW:Below w.heap.size w W)=>sign_yes (n:=n) (hr.below hW) hk hv hn (he.below hW hg) (Nat.lt_of_lt_of_le hg hW.size))
 have HPn:Hid (∀(W:World) (i:Int),Below w.heap.size w W→¬ (0≤i∧i < n)→Calls Tryz.prog 89 #[.slice a n cap,.int .i64 i] W fun e w'=>e=.returned (.tuple #[.slice none 0 0,.int .i64 2])∧w'=W):=zh (fun W i hW hi=>proof_no i ((hr.cut n hn).below hW) (by rw[List.length_take];omega))
 have HPy:Hid (∀(W:World) (i:Nat),Below w.heap.size w W→i < n→Calls Tryz.prog 89 #[.slice a n cap,.int .i64 i] W fun e w'=>∃ v',e=.returned (.tuple #[v',.int .i64 0])∧SS w' v' (proofB (xs.take n) i)∧Below W.heap.size W w'∧RowTy w' 9 v'):=zh (fun W i hW hi=>proof_any i ((hr.cut n hn).below hW) (by rw[List.length_take];omega) (fun x hx=>Nat.le_trans (v4 x (List.mem_of_mem_take hx)) (by omega)) (he.below hW hg) (Nat.lt_of_lt_of_le hg hW.size) (by rw[List.length_take];omega))
 have HZ:Hid (itemsB xs n l none=showFrom xs n l 0 []):=zh (by unfold showFrom;cases h:itemsB xs n l none <;> simp[prevL,h])
 obtain⟨ZZ,hZZ⟩:∃ ZZ,ZZ=itemsB xs n l none:=⟨_,rfl⟩
 rw[← hZZ]at HZ ⊢
 obtain⟨H,hH⟩:∃ H,H=headS key car xs n:=⟨_,rfl⟩
 rw[← hH]at HS ⊢
 obtain⟨hc,hz,hrt,hsl⟩:=H
 have H3:=zh l3
 have K3:=zh k3
 have hn6:(n:Int)≤(xs.length:Int):=by omega
 have hx60:xs.length≤60:=v3
 obtain⟨m,hm⟩:∃ m,m=xs.length:=⟨_,rfl⟩
 rw[← hm]at HS l1 hn6 hx60 ⊢
 have HM:=zh hm
 obtain⟨L,hL⟩:∃ L,L=l.length:=⟨_,rfl⟩
 rw[← hL]at k1 hll ⊢
 have HL:=zh hL
 clear l3 k3 hr hil hv v1 v2 v3 v4 hH hZZ hm hL he hg hn
 unfold maxLen at l2 k2
 have hnc:n≤cap:=by omega
 have HB2:Hid (Below w.heap.size w ((w.alloc (.cells #[.int .i64 car,.slice a m cap] 85)).alloc (.cells #[.int .i64 0,.int .i64 0,.string ⟨#[]⟩,.string ⟨#[]⟩,.slice none 0 0] 92))):=zh ((br0.alloc (Nat.le_refl _) _).alloc (by simp) _)
 go_enter Tryz.func47,Tryz.ntmps47
 go_wp2_with fail
 refine(HS.out _ HB2.out).mono ?_
 rintro e w3 ⟨rfl,hb3⟩
 unfold headV
 simp only
 have HB3:=zh (HB2.out.trans (hb3.mono HB2.out.size))
 have HR3:=zh ((hb3.block w.heap.size (by simp <;> omega)).trans (at_past w _ _))
 have HC3:=zh ((hb3.block (w.heap.size+1) (by simp)).trans (at_second w _ _))
 have hs3:w.heap.size+2≤w3.heap.size:=by have:=hb3.size;simp at this;omega
 clear hb3 HB2 HS
 go_wp2_with fail
 have HV5:Hid (ShowAt w ((w3.alloc (.cells #[.int .i64 hc,.int .i64 hz,.string hrt,.string hsl] 89)).alloc (.cells #[.int .i64 hc,.int .i64 hz,.string hrt,.string hsl,.slice none 0 0] 92)) (w3.heap.size+1) #[.int .i64 car,.slice a m cap] #[.int .i64 0,.int .i64 0,.string ⟨#[]⟩,.string ⟨#[]⟩,.slice none 0 0] #[.int .i64 hc,.int .i64 hz,.string hrt,.string hsl] (.slice none 0 0) []):=Lib.hid
  ⟨(HB3.out.alloc (by omega) _).alloc (by simp;omega) _,(Below.heap_alloc _ _ _ (by simp;omega)).trans ((Below.heap_alloc _ _ _ (by omega)).trans HR3.out),(Below.heap_alloc _ _ _ (by simp;omega)).trans ((Below.heap_alloc _ _ _ (by omega)).trans HC3.out),at_second w3 _ _,OwnE.nil _ _ _ _,fun _ h=>absurd h List.not_mem_nil⟩
 obtain⟨p,hp⟩:∃ p,p=w3.heap.size+1:=⟨_,rfl⟩
 rw[← hp]at HV5 ⊢
 have hp1:w.heap.size+1 < p:=by omega
 generalize (w3.alloc (.cells #[.int .i64 hc,.int .i64 hz,.string hrt,.string hsl] 89)).alloc (.cells #[.int .i64 hc,.int .i64 hz,.string hrt,.string hsl,.slice none 0 0] 92)=W5 at *
 generalize w3.heap.size=q at *
 clear HB3 HR3 HC3 hs3 hp
 obtain⟨R,hR⟩:∃ R:Array Value,R=#[.int .i64 car,.slice a m cap]:=⟨_,rfl⟩
 rw[← hR]at HV5
 have HR:=zh hR
 clear hR
 obtain⟨C,hC⟩:∃ C:Array Value,C=#[.int .i64 0,.int .i64 0,.string ⟨#[]⟩,.string ⟨#[]⟩,.slice none 0 0]:=⟨_,rfl⟩
 rw[← hC]at HV5
 have HC:=zh hC
 clear hC
 obtain⟨V,hV⟩:∃ V:Array Value,V=#[.int .i64 hc,.int .i64 hz,.string hrt,.string hsl]:=⟨_,rfl⟩
 rw[← hV]at HV5
 have HV:=zh hV
 clear hV
 have HCA:Hid (∀(W:World) (v:Value) (ys:List (ItemP × Value)),ShowAt w W p R C V v ys→(W.cell? ⟨w.heap.size,1,none⟩=some (.slice a m cap)∧W.cell? ⟨p,4,none⟩=some v∧W.frozen? ⟨p,4,none⟩=false∧p < W.heap.size)∧(W.cell? ⟨p,0,none⟩=some (.int .i64 hc)∧W.cell? ⟨p,1,none⟩=some (.int .i64 hz)∧W.cell? ⟨p,2,none⟩=some (.string hrt)∧W.cell? ⟨p,3,none⟩=some (.string hsl))∧W.cell? ⟨w.heap.size+1,0,none⟩=some (.int .i64 0)∧W.cell? ⟨w.heap.size+1,1,none⟩=some (.int .i64 0)∧W.cell? ⟨w.heap.size+1,2,none⟩=some (.string ⟨#[]⟩)∧W.cell? ⟨w.heap.size+1,3,none⟩=some (.string ⟨#[]⟩)∧W.cell? ⟨w.heap.size+1,4,none⟩=some (.slice none 0 0)∧∀ j,W.frozen? ⟨w.heap.size+1,j,none⟩=false):=zh (fun W v ys h=>by
  obtain⟨_,h2,h3,h4,_,_⟩:=h
  rw[HR.out]at h2
  rw[HC.out]at h3
  rw[HV.out]at h4
  exact⟨⟨cell_of_row W _ 1 _ _ _ h2,cell_of_row W _ 4 _ _ _ h4,by simp[World.frozen?,h4],(ltA h4)⟩,⟨cell_of_row W _ 0 _ _ _ h4,cell_of_row W _ 1 _ _ _ h4,cell_of_row W _ 2 _ _ _ h4,cell_of_row W _ 3 _ _ _ h4⟩,cell_of_row W _ 0 _ _ _ h3,cell_of_row W _ 1 _ _ _ h3,cell_of_row W _ 2 _ _ _ h3,cell_of_row W _ 3 _ _ _ h3,cell_of_row W _ 4 _ _ _ h3,fun j=>by simp[World.frozen?,h3]⟩)
 have HCZ:Hid (∀(W:World) (c0 c1:Int) (c2 c3:ByteArray) (c4:Value) (v:Value) (ys:List (ItemP × Value)),ShowAt w W p R C V v ys→(((((W.setCell ⟨w.heap.size+1,0,none⟩ (.int .i64 c0)).setCell ⟨w.heap.size+1,1,none⟩ (.int .i64 c1)).setCell ⟨w.heap.size+1,2,none⟩ (.string c2)).setCell ⟨w.heap.size+1,3,none⟩ (.string c3)).setCell ⟨w.heap.size+1,4,none⟩ c4).heap[w.heap.size+1]?=some (.cells #[.int .i64 c0,.int .i64 c1,.string c2,.string c3,c4] 92 (0,0))∧Below w.heap.size w (((((W.setCell ⟨w.heap.size+1,0,none⟩ (.int .i64 c0)).setCell ⟨w.heap.size+1,1,none⟩ (.int .i64 c1)).setCell ⟨w.heap.size+1,2,none⟩ (.string c2)).setCell ⟨w.heap.size+1,3,none⟩ (.string c3)).setCell ⟨w.heap.size+1,4,none⟩ c4)∧W.grownBy (((((W.setCell ⟨w.heap.size+1,0,none⟩ (.int .i64 c0)).setCell ⟨w.heap.size+1,1,none⟩ (.int .i64 c1)).setCell ⟨w.heap.size+1,2,none⟩ (.string c2)).setCell ⟨w.heap.size+1,3,none⟩ (.string c3)).setCell ⟨w.heap.size+1,4,none⟩ c4) (some (w.heap.size+1))):=zh (fun W c0 c1 c2 c3 c4 v ys h=>by
  obtain⟨h1,_,h3,_,_,_⟩:=h
  rw[HC.out]at h3
  exact⟨five_heap h3 _ _ _ _ _,five_below h1 (Nat.le_succ _) _ _ _ _ _,five_grown _ _ _ _ _ _ _⟩)
 go_loopw [32] (fun i wr=>∃(k:Nat) (v:Value) (ys:List (ItemP × Value)),k≤L∧i=.int .i64 k∧ys.length=k∧Hid (ZZ=showFrom xs n l k ys)∧Hid (ShowAt w wr p R C V v ys)) (fun i _=>L - (intOf i).toNat)
 case atStart=>exact⟨0,_,[],by omega,rfl,rfl,HZ,HV5⟩
 case round =>
  obtain⟨k,v,ys,hk',rfl,hyl,hZ,hS⟩:=hrel
  clear HZ HV5
  obtain⟨⟨x1,p4,pf,hpw⟩,⟨q0,q1,q2,q3⟩,z0,z1,z2,z3,z4,zf⟩:=HCA.out wr v ys hS.out
  by_cases hlt:k < L
  ·obtain⟨i,ei⟩:∃ i,l[k]?=some i:=⟨_,List.getElem?_eq_getElem (by rw[← HL.out];exact hlt)⟩
   obtain⟨bl,ol,rfl,hbl,c0⟩:=K3.out k i ei
   have d0:=cell_keepB hS.out.1 hbl c0
   have EI:=zh ei
   clear c0 ei p4 pf q0 q1 q2 q3
   by_cases hin:0≤i∧i < (n:Int)
   ·obtain⟨h0,h1⟩:=hin
    obtain⟨t,rfl⟩:=Int.eq_ofNat_of_zero_le h0
    have htn:t < n:=by omega
    obtain⟨s,es⟩:∃ s,xs[t]?=some s:=⟨_,List.getElem?_eq_getElem (by rw[← HM.out];omega)⟩
    obtain⟨b,off,rfl,hb,c0⟩:=H3.out t s es
    have ES:=zh es
    have C0:=zh c0
    clear es c0
    have htm:(t:Int) < (m:Int):=by omega
    have HP0:=zh (HPy.out wr t hS.out.1 htn)
    have hitl:(itcells ys).length=k:=by unfold itcells;rw[List.length_map];exact hyl
    by_cases hk0:k=0
    ·have bz:decide (0 < k)=false:=decide_eq_false (by omega)
     have HPr:Hid (∀ j,prevL l k=some j→j < (t:Int)):=zh (fun j h=>by rw[hk0]at h;cases h)
     clear hk0
     go_wp2_with (go_at_call 89;refine HP0.out.mono ?_;rintro e w6 ⟨v6,rfl,hs6,hb6,ht6⟩;have HS6:=zh (hS.out.far hb6);have HSS6:=zh hs6;have HT6:=zh ht6;clear hs6 hb6 ht6)
     obtain⟨va6,vc6,hv6,_,_,_⟩:=HSS6.out.opened
     obtain⟨vn6,hvn⟩:∃ vn6,vn6=(proofB (xs.take n) t).length:=⟨_,rfl⟩
     rw[← hvn]at hv6
     clear hvn
     subst hv6
     obtain⟨⟨x16,p46,pf6,hpw6⟩,_,_⟩:=HCA.out w6 v ys HS6.out
     have e6:=cell_keepB HS6.out.1 hb C0.out
     clear bz d0 x1 z0 z1 z2 z3 z4 zf
     have HY:Hid (ZZ=showFrom xs n l (k+1) (ys++[(⟨(t:Int),s,proofB (xs.take n) t⟩,.slice va6 vn6 vc6)])):=zh (by
      rw[hZ.out,showFrom_yes EI.out ⟨by omega,by omega,HPr.out⟩ (.slice va6 vn6 vc6)]
      have e1:xs.getD ((t:Int)).toNat ⟨#[]⟩=s:=by rw[Int.toNat_natCast,List.getD_eq_getElem?_getD,ES.out];rfl
      rw[e1,Int.toNat_natCast])
     obtain⟨i0,hi0,hz0,hz1,hz2⟩:=info_parts infoItem
     have HOA:Hid (OwnE (w6.alloc (.cells #[.int .i64 (t:Int),.string s,.slice va6 vn6 vc6] 98)).drew w.heap.size 98 3 v (itcells ys)):=zh (OwnE.alloc HS6.out.2.2.2.2.1 _)
     have HNW:Hid (∀(j:Nat) u,([.int .i64 (t:Int),.string s,.slice va6 vn6 vc6]:List Value)[j]?=some u→(w6.alloc (.cells #[.int .i64 (t:Int),.string s,.slice va6 vn6 vc6] 98)).drew.cell? ((⟨w6.heap.size,0,none⟩:Addr).add j)=some u):=zh (World.news_of_block (w:=(w6.alloc _).drew) (heap_alloc_new w6 _))
     have HSZ:Hid (w.heap.size≤(w6.alloc (.cells #[.int .i64 (t:Int),.string s,.slice va6 vn6 vc6] 98)).drew.heap.size):=zh (by show _≤(w6.alloc _).heap.size;have:=HS6.out.1.size;simp;omega)
     have HKB:Hid (∀ w7,(w6.alloc (.cells #[.int .i64 (t:Int),.string s,.slice va6 vn6 vc6] 98)).drew.grownBy w7 v.ownBlock→w7.cell? ⟨p,4,none⟩=some v∧w7.frozen? ⟨p,4,none⟩=false):=zh (fun w7 hg=>by
      have h4:=HS6.out.block hg HS6.out.2.2.2.1 (by decide)
      rw[HV.out]at h4
      exact⟨cell_of_row w7 _ 4 _ _ _ h4,by simp[World.frozen?,h4]⟩)
     go_region_law ((refine step_append_lies _ rfl (.tmp 63) (.tmp 72) 90 rfl w.heap.size 98 i0 _ 3 48 (by kernel_rfl) hi0 hz0 hz1 hz2 rfl (by decide) v (itcells ys).length (itcells ys).flatten rfl HOA.out ⟨w6.heap.size,0,none⟩ 1 1 _ rfl rfl HNW.out (fun u hu=>by simp at hu;rcases hu with rfl | rfl | rfl <;> rfl) (by decide) (by rw[hitl];unfold maxLen;omega) (by rw[hitl];omega) HSZ.out _ rfl ?_;intro g7 cap7 w7 hown7 hgrow7 hat7 hlt7;have HOW7:=zh hown7;have HGR7:=zh hgrow7;obtain⟨u4,uf⟩:=HKB.out w7 hgrow7;clear hown7 hgrow7 hat7 hlt7))
     all_goals
      have HSN:Hid (ShowAt w (w7.setCell ⟨p,4,none⟩ (.slice (some ⟨g7,0,none⟩) (k+1) cap7)) p R C V (.slice (some ⟨g7,0,none⟩) (k+1) cap7) (ys++[(⟨(t:Int),s,proofB (xs.take n) t⟩,.slice va6 vn6 vc6)])):=zh (by
       have h:=HS6.out.append hp1 (by rw[HV.out];rfl) (⟨(t:Int),s,proofB (xs.take n) t⟩,.slice va6 vn6 vc6) HSS6.out HT6.out HGR7.out (own_snoc HOW7.out)
       rw[hyl]at h
       exact h)
      clear HOW7 HGR7 HKB HSZ HNW HOA HCA HCZ HSS6 HT6 hitl u4 uf x16 p46 pf6 e6
      go_wp2
      go_roundw
      case rel=>exact⟨k+1,_,_,by omega,by go_num,by rw[List.length_append,hyl];rfl,HY,HSN⟩
      case measure=>simp[intOf];omega
    ·have bz:decide (0 < k)=true:=decide_eq_true (by omega)
     have f1:IntKind.i64.wrap ((k:Int) - 1)=(k:Int) - 1:=IntWalk.i64_in _ (by omega)
     have bj1:(0:Int)≤(k:Int) - 1:=by omega
     have bj2:(k:Int) - 1 < (L:Int):=by omega
     obtain⟨iy,eiy⟩:∃ i,l[k - 1]?=some i:=⟨_,List.getElem?_eq_getElem (by rw[← HL.out];omega)⟩
     have HPv:Hid (prevL l k=some iy):=zh (by
      obtain⟨j,hj⟩:∃ j,k=j+1:=⟨k - 1,by omega⟩
      rw[hj]at eiy ⊢
      exact eiy)
     obtain⟨bl',ol',eb,hbl',c0'⟩:=K3.out (k - 1) iy eiy
     cases eb
     have CY:=zh c0'
     clear c0' eiy
     by_cases hlt2:iy < (t:Int)
     ·have hd2:decide ((t:Int)≤iy)=false:=decide_eq_false (by omega)
      have HPr:Hid (∀ j,prevL l k=some j→j < (t:Int)):=zh (fun j h=>by rw[HPv.out]at h;cases h;exact hlt2)
      clear hlt2
      go_wp2_with (go_at_call 89;refine HP0.out.mono ?_;rintro e w6 ⟨v6,rfl,hs6,hb6,ht6⟩;have HS6:=zh (hS.out.far hb6);have HSS6:=zh hs6;have HT6:=zh ht6;clear hs6 hb6 ht6;have dy:=cell_keepB HS6.out.1 hbl CY.out)
      obtain⟨va6,vc6,hv6,_,_,_⟩:=HSS6.out.opened
      obtain⟨vn6,hvn⟩:∃ vn6,vn6=(proofB (xs.take n) t).length:=⟨_,rfl⟩
      rw[← hvn]at hv6
      clear hvn
      subst hv6
      obtain⟨⟨x16,p46,pf6,hpw6⟩,_,_⟩:=HCA.out w6 v ys HS6.out
      have e6:=cell_keepB HS6.out.1 hb C0.out
      clear bz d0 x1 z0 z1 z2 z3 z4 zf
      have HY:Hid (ZZ=showFrom xs n l (k+1) (ys++[(⟨(t:Int),s,proofB (xs.take n) t⟩,.slice va6 vn6 vc6)])):=zh (by
       rw[hZ.out,showFrom_yes EI.out ⟨by omega,by omega,HPr.out⟩ (.slice va6 vn6 vc6)]
       have e1:xs.getD ((t:Int)).toNat ⟨#[]⟩=s:=by rw[Int.toNat_natCast,List.getD_eq_getElem?_getD,ES.out];rfl
       rw[e1,Int.toNat_natCast])
      obtain⟨i0,hi0,hz0,hz1,hz2⟩:=info_parts infoItem
      have HOA:Hid (OwnE (w6.alloc (.cells #[.int .i64 (t:Int),.string s,.slice va6 vn6 vc6] 98)).drew w.heap.size 98 3 v (itcells ys)):=zh (OwnE.alloc HS6.out.2.2.2.2.1 _)
      have HNW:Hid (∀(j:Nat) u,([.int .i64 (t:Int),.string s,.slice va6 vn6 vc6]:List Value)[j]?=some u→(w6.alloc (.cells #[.int .i64 (t:Int),.string s,.slice va6 vn6 vc6] 98)).drew.cell? ((⟨w6.heap.size,0,none⟩:Addr).add j)=some u):=zh (World.news_of_block (w:=(w6.alloc _).drew) (heap_alloc_new w6 _))
      have HSZ:Hid (w.heap.size≤(w6.alloc (.cells #[.int .i64 (t:Int),.string s,.slice va6 vn6 vc6] 98)).drew.heap.size):=zh (by show _≤(w6.alloc _).heap.size;have:=HS6.out.1.size;simp;omega)
      have HKB:Hid (∀ w7,(w6.alloc (.cells #[.int .i64 (t:Int),.string s,.slice va6 vn6 vc6] 98)).drew.grownBy w7 v.ownBlock→w7.cell? ⟨p,4,none⟩=some v∧w7.frozen? ⟨p,4,none⟩=false):=zh (fun w7 hg=>by
       have h4:=HS6.out.block hg HS6.out.2.2.2.1 (by decide)
       rw[HV.out]at h4
       exact⟨cell_of_row w7 _ 4 _ _ _ h4,by simp[World.frozen?,h4]⟩)
      go_region_law ((refine step_append_lies _ rfl (.tmp 63) (.tmp 72) 90 rfl w.heap.size 98 i0 _ 3 48 (by kernel_rfl) hi0 hz0 hz1 hz2 rfl (by decide) v (itcells ys).length (itcells ys).flatten rfl HOA.out ⟨w6.heap.size,0,none⟩ 1 1 _ rfl rfl HNW.out (fun u hu=>by simp at hu;rcases hu with rfl | rfl | rfl <;> rfl) (by decide) (by rw[hitl];unfold maxLen;omega) (by rw[hitl];omega) HSZ.out _ rfl ?_;intro g7 cap7 w7 hown7 hgrow7 hat7 hlt7;have HOW7:=zh hown7;have HGR7:=zh hgrow7;obtain⟨u4,uf⟩:=HKB.out w7 hgrow7;clear hown7 hgrow7 hat7 hlt7))
      all_goals
       have HSN:Hid (ShowAt w (w7.setCell ⟨p,4,none⟩ (.slice (some ⟨g7,0,none⟩) (k+1) cap7)) p R C V (.slice (some ⟨g7,0,none⟩) (k+1) cap7) (ys++[(⟨(t:Int),s,proofB (xs.take n) t⟩,.slice va6 vn6 vc6)])):=zh (by
        have h:=HS6.out.append hp1 (by rw[HV.out];rfl) (⟨(t:Int),s,proofB (xs.take n) t⟩,.slice va6 vn6 vc6) HSS6.out HT6.out HGR7.out (own_snoc HOW7.out)
        rw[hyl]at h
        exact h)
       clear HOW7 HGR7 HKB HSZ HNW HOA HCA HCZ HSS6 HT6 hitl u4 uf x16 p46 pf6 e6
       go_wp2
       go_roundw
       case rel=>exact⟨k+1,_,_,by omega,by go_num,by rw[List.length_append,hyl];rfl,HY,HSN⟩
       case measure=>simp[intOf];omega
     ·have hd2:decide ((t:Int)≤iy)=true:=decide_eq_true (by omega)
      have HN0:Hid (ZZ=none):=zh (by rw[hZ.out];exact showFrom_no EI.out (fun h=>hlt2 (h.2.2 iy HPv.out)))
      clear hlt2
      go_wp2_with (go_at_call 89;refine HP0.out.mono ?_;rintro e w6 ⟨v6,rfl,hs6,hb6,ht6⟩;have HS6:=zh (hS.out.far hb6);have HSS6:=zh hs6;have HT6:=zh ht6;clear hs6 hb6 ht6;have dy:=cell_keepB HS6.out.1 hbl CY.out;obtain⟨_,_,y0,y1,y2,y3,y4,yf⟩:=HCA.out w6 v ys HS6.out)
      obtain⟨g1,g2,_⟩:=HCZ.out _ 0 0 ⟨#[]⟩ ⟨#[]⟩ (.slice none 0 0) v ys HS6.out
      exact bodyPost_ret (results_cellA_tmp rfl _ (w.heap.size+1) 92 #[.int .i64 0,.int .i64 0,.string ⟨#[]⟩,.string ⟨#[]⟩,.slice none 0 0] (0,0) _ rfl g1 Tryz.underlying92 rfl infoPart) rfl ⟨.inl ⟨HN0.out,rfl⟩,g2⟩
   ·have HN0:Hid (ZZ=none):=zh (by rw[hZ.out];exact showFrom_no EI.out (fun h=>hin ⟨h.1,h.2.1⟩))
    have HP0:=zh (HPn.out wr i hS.out.1 hin)
    clear hin
    go_wp2_with (go_at_call 89;refine HP0.out.mono ?_;rintro e w6 ⟨rfl,rfl⟩)
    obtain⟨g1,g2,_⟩:=HCZ.out _ 0 0 ⟨#[]⟩ ⟨#[]⟩ (.slice none 0 0) v ys hS.out
    exact bodyPost_ret (results_cellA_tmp rfl _ (w.heap.size+1) 92 #[.int .i64 0,.int .i64 0,.string ⟨#[]⟩,.string ⟨#[]⟩,.slice none 0 0] (0,0) _ rfl g1 Tryz.underlying92 rfl infoPart) rfl ⟨.inl ⟨HN0.out,rfl⟩,g2⟩
  ·have ek:k=L:=by omega
   have HF:Hid (ZZ=some (ys.map (·.1))):=zh (by rw[hZ.out];exact showFrom_end xs n l k ys (by rw[← HL.out];omega))
   obtain⟨va,vc,rfl⟩:=OwnE.form hS.out.2.2.2.2.1
   clear x1
   go_wp2
   obtain⟨g1,g2,g3⟩:=HCZ.out _ hc hz hrt hsl (.slice va (itcells ys).length vc) _ ys hS.out
   refine bodyPost_ret (results_cellA_tmp rfl _ (w.heap.size+1) 92 #[.int .i64 hc,.int .i64 hz,.string hrt,.string hsl,.slice va (itcells ys).length vc] (0,0) _ rfl g1 Tryz.underlying92 rfl infoPart) rfl ⟨.inr ⟨_,ys,HF.out,rfl,?_⟩,g2⟩
   obtain⟨_,_,h3,_,h5,h6⟩:=hS.out
   have hy':∀ y∈ys,SS _ y.2 y.1.prf∧RowTy _ 9 y.2:=fun y hy=>(h6 y hy).1.grownT (h6 y hy).2 g3 (fun k e cs fr e'=>by
    cases e
    rw[h3]at e'
    cases e')
   have ho':=h5.grownT h3 (fun c e=>by cases e) g3
   refine⟨⟨ho'.slice (fun c hc=>?_),fun y hy=>(hy' y hy).1⟩,rowTy_own ho',fun y hy=>(hy' y hy).2⟩
   unfold itcells at hc
   rw[List.mem_map]at hc
   obtain⟨y,_,rfl⟩:=hc
   rfl
open Go.RowKit Go.WideShapes Go.ChangeShapes
section
variable {H:Type} {enc:TypeId × Value→H} {P:Program}
/-! ### Arguments read again -/
theorem same_below {W W':World}(hb:Below W.heap.size W W')(p:MemPlace)(hp:p.block < W.heap.size):W.sameAt W' p:=by
 cases p with
 | cell b off=>exact hb.cell (p:=⟨b,off,none⟩) hp
 | map b=>exact hb.block b hp
theorem trodAll_below {W W':World}(hb:Below W.heap.size W W'){sp:Nat→Bool}{held:Bool}:∀ {ts:List TypeId} {vs:List Value} {ds:List (DataW H)} {ps:List MemPlace},DataW.TrodAll enc P W 0 sp held ts vs ds ps→(∀ p∈ps,p.block < W.heap.size)→DataW.TrodAll enc P W' 0 sp held ts vs ds ps
 | [],[],[],_,h,_=>h
 | _::_,_::_,_::_,_,⟨p,q,⟨n,h1⟩,h2,e⟩,hs =>
  ⟨p,q,⟨n,DataW.trod_carry n _ _ _ h1 (fun x hx=>same_below hb x (hs x (by rw[e];exact List.mem_append_left _ hx)))⟩,trodAll_below hb h2 (fun x hx=>hs x (by rw[e];exact List.mem_append_right _ hx)),e⟩
theorem post_below {f:Func}{s:ChangeSpec}{apart fresh handsOn again:Bool}{W W':World}{args:Array Value}{v:Value}{ds gs:List (DataW H)}{before pa pv:List MemPlace}
  (hW:DataW.Whole enc P f.params.toList s.vars apart W args.toList ds gs before)
  (hres:∀(b:Nat) (sp:Nat→Bool) (hd:Bool),DataW.TrodAll enc P W' b sp hd f.resultTypes.toList (v.resultList f.resultTypes.size) (s.fn H (ds++gs)).results [])
  (hargs:∀ sp:Nat→Bool,(∀ p∈before,sp p.block=true)→DataW.TrodAll enc P W' 0 sp true f.params.toList args.toList (s.fn H (ds++gs)).args pa)
  (hvars:∀ sp:Nat→Bool,(∀ p∈before,sp p.block=true)→DataW.TrodVars enc P W' sp s.vars (s.fn H (ds++gs)).vars pv)
  (hps:before=pa++pv) (hb:Below W.heap.size W W')
  (hok:∀(j:Nat) (t:TypeId) (r:Value),f.resultTypes[j]?=some t→(v.resultList f.resultTypes.size)[j]?=some r→Value.okWide P W' .any 0 t r) :
  s.post enc P f apart fresh handsOn again W args v W':=by
 have hlt:∀ p∈before,p.block < W.heap.size:=fun p hp=>hW.lt p hp
 have hold:∀ p∈before,(fun b=>decide (b < W.heap.size)) p.block=true:=fun p hp=>by simpa using hlt p hp
 refine⟨ds,gs,before,[],pa,pv,hW,hres _ _ _,hargs _ hold,hvars _ hold,World.keptBut_mono (fun p hp=>⟨hp,?_⟩) (hb.frame (·∈before)),fun _=>?_⟩
 ·rw[hps,List.mem_append]at hp
  exact Or.inr hp
 ·obtain⟨_,_,_,_,_,hz,hn⟩:=hW
  refine⟨hok,_,_,([]++pa)++pv,⟨[]++pa,pv,trodAll_append (hargs _ (fun _ _=>rfl)) (hres _ _ _),hvars _ (fun _ _=>rfl),rfl,?_,?_⟩,?_⟩
  ·intro b off hp
   have hin:MemPlace.cell b off∈before:=by rw[hps];simpa using hp
   rw[hb.frozen (hlt _ hin)]
   exact hz b off hin
  ·intro ha
   have:=hn ha
   rw[hps]at this
   simpa using this
  ·intro p hp _
   rw[hps]
   simpa using hp
theorem open_i64 {W:World}{sp:Nat→Bool}{held:Bool}{r:Reach}{b0:Nat}{t:TypeId}{v:Value}{d:DataW H}{ps:List MemPlace}(ht:P.underlying t=some (.int .i64))(hval:Value.okWide P W r b0 t v)(hd:DataW.Trod enc P W 0 sp held t v d ps) :
  ∃ n,v=.int .i64 n∧d=.lit (.int .i64 n)∧ps=[]∧I64 n:=by
 obtain⟨n,h1,h2,h3,h4⟩:=open_int ht hval hd
 exact⟨n,h1,h2,h3,bounds_i64 h4⟩
/-! ### A slice of integers -/
theorem spot_none {W:World}{a:Addr}{v:Value}(h:W.cell? a=some v):a.spot=none:=World.cell?_spot h
/-! ### A pair of integers -/
end
set_option maxHeartbeats 1000000 in
theorem rotated_any (x n:Nat)(w:World)(hx:x < 4294967296)(h1:1≤n)(h2:n≤31) :
  Calls Tryz.prog 140 #[.int .u32 x,.int .i64 n] w fun e w'=>e=.returned (.int .u32 (rotr x n:Nat))∧∃ m,w'=w.drewN m:=by
 have f1:IntKind.i64.wrap (32 - (n:Int))=((32 - n:Nat):Int):=by rw[IntWalk.i64_in _ (by omega)];omega
 have b1:(0:Int)≤(n:Int):=by omega
 have b2:(0:Int)≤((32 - n:Nat):Int):=by omega
 obtain⟨k,hk⟩:∃ k,k=32 - n:=⟨_,rfl⟩
 have HK:=zh hk
 rw[← hk]at f1 b2
 have hk31:k≤31:=by omega
 clear hk
 go_enter Tryz.func140,Tryz.ntmps140
 go_wp2
 go_quiet (fail)
 go_wp2
 go_ret
 refine⟨ret_int ?_,_,rfl⟩
 have g1:x*2 ^ k % 4294967296 < 4294967296:=Nat.mod_lt _ (by omega)
 have g2:x / 2 ^ n < 4294967296:=Nat.lt_of_le_of_lt (Nat.div_le_self _ _) hx
 have c1:((x*2 ^ k % 4294967296:Nat):Int)=(x:Int)*2 ^ k % 4294967296:=by rw[Int.natCast_emod,Int.natCast_mul,Int.natCast_pow];rfl
 have c2:((x / 2 ^ n:Nat):Int)=(x:Int) / 2 ^ n:=by rw[Int.natCast_ediv,Int.natCast_pow];rfl
 rw[← c1,← c2,u32_or_nat _ _ g2 g1,Nat.or_comm,HK.out]
 rfl
def wcells (l:List Nat):List (List Value):=l.map fun n=>[.int .u32 (n:Nat)]
theorem wcells_one (l:List Nat):∀ c∈wcells l,c.length=1:=by
 intro c hc
 unfold wcells at hc
 obtain⟨n,_,rfl⟩:=List.mem_map.1 hc
 rfl
theorem wcells_len (l:List Nat):(wcells l).length=l.length:=List.length_map ..
theorem wcells_flat (l:List Nat):(wcells l).flatten=l.map fun n=>Value.int .u32 (n:Nat):=by
 unfold wcells
 induction l with
 | nil=>rfl
 | cons x l ih=>simp[ih]
def WS (w:World)(v:Value)(l:List Nat):Prop:=SliceAt w v 1 (wcells l)
theorem WS.below {w w':World}{v:Value}{l:List Nat}(h:WS w v l)(hb:Below w.heap.size w w'):WS w' v l:=SliceAt.below h hb
theorem WS.opened {w:World}{v:Value}{l:List Nat}(h:WS w v l)(hl:0 < l.length):∃ b off cap,v=.slice (some ⟨b,off,none⟩) l.length cap∧l.length≤cap∧cap≤maxLen∧b < w.heap.size ∧
  ∀ k n,l[k]?=some n→w.cell? ⟨b,off+k,none⟩=some (.int .u32 (n:Nat)):=by
 obtain⟨a,cap,hv,h1,h2,h3⟩:=h
 unfold wcells at *
 rw[List.length_map]at hv h1
 rcases h3 with h3 | ⟨b,off,ha,hb,hc⟩
 ·simp at h3;subst h3;simp at hl
 ·subst ha
  refine⟨b,off,cap,hv,h1,h2,hb,fun k x hx=>?_⟩
  have:=hc k [.int .u32 (x:Nat)] (by rw[List.getElem?_map,hx];rfl) 0 _ rfl
  simpa using this
def OwnW (w:World)(base:Nat)(v:Value)(l:List Nat):Prop:=OwnE w base 139 1 v (wcells l)
def OwnB (w:World)(base:Nat)(v:Value)(l:List Nat):Prop:=OwnE w base 5 1 v (bcells l)
theorem OwnW.ws {w:World}{base:Nat}{v:Value}{l:List Nat}(h:OwnW w base v l):WS w v l:=OwnE.slice h (wcells_one l)
theorem bcells_one (l:List Nat):∀ c∈bcells l,c.length=1:=by
 intro c hc
 unfold bcells at hc
 obtain⟨n,_,rfl⟩:=List.mem_map.1 hc
 rfl
theorem bcells_len (l:List Nat):(bcells l).length=l.length:=List.length_map ..
theorem OwnB.bs {w:World}{base:Nat}{v:Value}{l:List Nat}(h:OwnB w base v l):SliceAt w v 1 (bcells l):=OwnE.slice h (bcells_one l)
theorem infoU32:(Tryz.prog.info? 139).map (fun i=>(i.zero,i.size,i.bytes))=some (some (.int .u32 0),1,4):=by kernel_rfl
section
variable {ops:Array Oper} {rest:List Oper} {o:Oper} {a:Act} {w:World} {Q:Exit→Act→World→Prop}
theorem wpList_append_word (s x:Operand)(base:Nat)(v:Value)(xs:List Nat)(b:Nat)(y:Int)(n:Nat)(hy:y=n)(fr:Nat × Nat)(hown:OwnW w base v xs)(hlen:xs.length≤100000)(hbase:base≤w.heap.size)
  (hb:w.heap[b]?=some (.cells #[.int .u32 y] 139 fr)) (hgd:o.guard=none) (ho:o.op=.call { callee:=.builtin .append,args:=#[s,x],argTypes:=#[140,140] }) (hs:a.eval s=v) (hx:a.eval x=.slice (some ⟨b,0,none⟩) 1 1)
  (h:∀ v' w',OwnW w' base v' (xs++[n])→w.grownBy w' v.ownBlock→wpList Tryz.prog ops Q rest (a.put o.dst v') w'):wpList Tryz.prog ops Q (o::rest) a w :=
 wpList_append_el 140 139 1 4 _ (by kernel_rfl) infoU32 rfl (by decide) hgd s x ho base v (wcells xs) hs hown b [.int .u32 y] rfl (fun u hu=>by rw[List.mem_singleton]at hu;subst hu;rfl) hx fr hb
  (by rw[wcells_len];unfold maxLen;omega) (by rw[wcells_len];omega) hbase fun v' w' h1 h2=>h v' w' (by unfold OwnW wcells;rw[List.map_append];subst hy;exact h1) h2
theorem wpList_append_byte (s x:Operand)(base:Nat)(v:Value)(xs:List Nat)(b:Nat)(y:Int)(n:Nat)(hy:y=n)(fr:Nat × Nat)(hown:OwnB w base v xs)(hlen:xs.length≤1100000000)(hbase:base≤w.heap.size)
  (hb:w.heap[b]?=some (.cells #[.int .u8 y] 5 fr)) (hgd:o.guard=none) (ho:o.op=.call { callee:=.builtin .append,args:=#[s,x],argTypes:=#[80,80] }) (hs:a.eval s=v) (hx:a.eval x=.slice (some ⟨b,0,none⟩) 1 1)
  (h:∀ v' w',OwnB w' base v' (xs++[n])→w.grownBy w' v.ownBlock→wpList Tryz.prog ops Q rest (a.put o.dst v') w'):wpList Tryz.prog ops Q (o::rest) a w :=
 wpList_append_el 80 5 1 1 _ (by kernel_rfl) infoByte rfl (by decide) hgd s x ho base v (bcells xs) hs hown b [.int .u8 y] rfl (fun u hu=>by rw[List.mem_singleton]at hu;subst hu;rfl) hx fr hb
  (by rw[bcells_len];unfold maxLen;omega) (by rw[bcells_len];omega) hbase fun v' w' h1 h2=>h v' w' (by unfold OwnB bcells;rw[List.map_append];subst hy;exact h1) h2
end
theorem WS.lit {w:World}{b n:Nat}{T:TypeId}{fz:Nat × Nat}(l:List Nat)(h:w.heap[b]?=some (.cells (l.map fun n=>Value.int .u32 (n:Nat)).toArray T fz))(hn:n=l.length)(hm:l.length≤1000):WS w (.slice (some ⟨b,0,none⟩) n n) l:=by
 subst hn
 refine⟨_,l.length,by rw[wcells_len],by rw[wcells_len];exact Nat.le_refl _,by unfold maxLen;omega,.inr ⟨b,0,rfl,(ltA h),fun i c hi j u hj=>?_⟩⟩
 unfold wcells at hi
 rw[List.getElem?_map]at hi
 obtain⟨x,hx,rfl⟩:=Option.map_eq_some_iff.1 hi
 have hj0:j=0:=by have:=(List.getElem?_eq_some_iff.1 hj).1;simp at this;omega
 subst hj0
 rw[cell_of_row w b _ _ T fz h,Nat.zero_add,Nat.mul_one,Nat.add_zero,List.getElem?_toArray,List.getElem?_map,hx]
 simpa using hj
set_option maxHeartbeats 1000000 in
set_option maxRecDepth 100000 in
theorem constants_any (w:World):Calls Tryz.prog 141 #[] w fun e w'=>∃ v,e=.returned v∧WS w' v kN∧Below w.heap.size w w':=by
 go_enter Tryz.func141,Tryz.ntmps141
 go_wp2
 go_ret
 exact⟨_,rfl,WS.lit kN (heap_alloc_new w _) rfl (by decide),br0.alloc (Nat.le_refl _) _⟩
theorem bytesS_get (s:ByteArray)(k:Nat)(h:k < s.size):(bytesS s)[k]?=some s[k].toNat:=by
 unfold bytesS
 rw[List.getElem?_map,Array.getElem?_toList,Array.getElem?_eq_getElem h]
 rfl
theorem take_snoc {α:Type}{l:List α}{k:Nat}{x:α}(h:l[k]?=some x):l.take (k+1)=l.take k++[x]:=by
 rw[List.take_add_one,h];rfl
theorem zeros_test (n j:Nat)(hj:j≤zerosN n):((n+1+j) % 64=56) ↔ j=zerosN n:=by
 unfold zerosN at *
 omega
theorem zeros_le (n:Nat):zerosN n≤63:=by unfold zerosN;omega
theorem lenBytes_take (n m:Nat)(h:m < 8):(lenBytes n).take (m+1)=(lenBytes n).take m++[8*n / 2 ^ (8*(7 - m)) % 256]:=take_snoc (lenBytes_get n m h)
theorem OwnB.form {w:World}{base:Nat}{v:Value}{l:List Nat}(h:OwnB w base v l):∃ a n cap,v=.slice a n cap∧n=l.length:=by
 obtain⟨a,c,e⟩:=OwnE.form h
 exact⟨a,_,c,e,bcells_len l⟩
theorem OwnW.form {w:World}{base:Nat}{v:Value}{l:List Nat}(h:OwnW w base v l):∃ a n cap,v=.slice a n cap∧n=l.length:=by
 obtain⟨a,c,e⟩:=OwnE.form h
 exact⟨a,_,c,e,wcells_len l⟩
set_option maxHeartbeats 4000000 in
set_option maxRecDepth 100000 in
theorem extended_any (s:ByteArray)(w:World)(hs:s.size≤1000000000) :
  Calls Tryz.prog 101 #[.string s] w fun e w'=>∃ v,e=.returned v∧OwnB w' w.heap.size v (padN (bytesS s))∧Below w.heap.size w w':=by
 have HL:Hid ((bytesS s).length=s.size):=zh (bytesS_length s)
 obtain⟨R,hR⟩:∃ R,R=padN (bytesS s):=⟨_,rfl⟩
 rw[← hR]
 have HR:=zh hR
 clear hR
 go_enter Tryz.func101,Tryz.ntmps101
 go_wp2
 go_loopw [3,4] (fun v i wr=>∃ k:Nat,k≤s.size∧i=.int .i64 k∧Hid (OwnB wr w.heap.size v ((bytesS s).take k))∧Hid (Below w.heap.size w wr)) (fun _ i _=>s.size - (intOf i).toNat)
 case atStart=>exact⟨0,by omega,rfl,zh (OwnE.nil _ _ _ _),zh br0⟩
 case round =>
  obtain⟨k,hk,rfl,hO,hB⟩:=hrel
  obtain⟨va,vn,vc,hv,hvn⟩:=OwnB.form hO.out
  subst hv
  have HVN:=zh hvn
  clear hvn
  by_cases hlt:k < s.size
  ·have t1:(k:Int) < (s.size:Int):=by omega
   have HT:=zh (take_snoc (bytesS_get s k hlt))
   have HX:Hid (((bytesS s).take k).length≤1100000000):=zh (by rw[List.length_take];omega)
   generalize (bytesS s).take k=X at *
   have hsz:=hB.out.size
   have HOA:Hid (OwnB (wr.alloc (.cells #[.int .u8 (s[k].toNat:Nat)] 5)) w.heap.size (.slice va vn vc) X):=zh (OwnE.alloc hO.out _)
   have HNA:=zh (heap_alloc_new wr (.cells #[.int .u8 (s[k].toNat:Nat)] 5))
   have HBA:=zh (hB.out.alloc hsz (.cells #[.int .u8 (s[k].toNat:Nat)] 5))
   go_wp2_with (at_builtin;refine wpList_append_byte _ _ w.heap.size _ X wr.heap.size _ s[k].toNat rfl _ HOA.out HX.out HBA.out.size HNA.out rfl rfl rfl rfl ?_;intro v7 w7 hown7 hgr7;have HO7:=zh hown7;have HB7:=zh (HBA.out.grown hgr7 HBA.out.size (fun j e=>OwnE.ge HOA.out j e));clear hown7 hgr7)
   go_roundw
   case rel =>
    refine⟨k+1,by omega,by go_num,?_,HB7⟩
    rw[HT.out]
    exact HO7
   case measure=>simp[intOf];omega
  ·have ek:k=s.size:=by omega
   have HF:Hid ((bytesS s).take k=bytesS s):=zh (by rw[ek,← HL.out,List.take_length])
   rw[HF.out]at hO HVN
   have HP:Hid (R=(bytesS s++128::List.replicate (zerosN (bytesS s).length) 0)++lenBytes (bytesS s).length):=zh (HR.out.trans (padN_eq _))
   have HLE:=zh (zeros_le (bytesS s).length)
   have HZT:=zh (zeros_test (bytesS s).length)
   have HLB:=zh (lenBytes_take (bytesS s).length)
   have HL8:Hid (lenBytes (bytesS s).length=(lenBytes (bytesS s).length).take 8):=zh rfl
   have HL0:Hid ((lenBytes (bytesS s).length).take 0=[]):=zh rfl
   rw[HL.out]at HP HLE HZT HLB HL8 HL0
   have t1:¬ (k:Int) < (s.size:Int):=by omega
   obtain⟨n,hn⟩:∃ n,n=s.size:=⟨_,rfl⟩
   rw[← hn]at HP HLE HZT HLB HL8 HL0 HL
   have HNn:=zh hn
   have hn9:n≤1000000000:=by omega
   have HXl:Hid (((bytesS s).length≤1100000000)):=zh (by rw[HL.out];omega)
   clear HF hn HR
   generalize bytesS s=X at *
   generalize lenBytes n=LB at *
   generalize zerosN n=Z at *
   have hsz:=hB.out.size
   have HOA:Hid (OwnB (wr.alloc (.cells #[.int .u8 ((128:Nat):Int)] 5)) w.heap.size (.slice va vn vc) X):=zh (OwnE.alloc hO.out _)
   have HNA:=zh (heap_alloc_new wr (.cells #[.int .u8 ((128:Nat):Int)] 5))
   have HBA:=zh (hB.out.alloc hsz (.cells #[.int .u8 ((128:Nat):Int)] 5))
   go_wp2_with (at_builtin;refine wpList_append_byte _ _ w.heap.size _ X wr.heap.size _ 128 rfl _ HOA.out HXl.out HBA.out.size HNA.out rfl rfl rfl rfl ?_;intro v7 w7 hown7 hgr7;have HO7:Hid (OwnB w7 w.heap.size v7 (X++[128])):=zh hown7;have HB7:=zh (HBA.out.grown hgr7 HBA.out.size (fun j e=>OwnE.ge HOA.out j e));clear hown7 hgr7)
   rw[HL.out]at HVN
   obtain⟨va7,vn7,vc7,hv7,hvn7⟩:=OwnB.form HO7.out
   have HO8:Hid (OwnB w7 w.heap.size v7 (X++128::List.replicate 0 0)):=HO7
   have hZ63:=HLE.out
   subst hv7
   clear hvn7
   clear hO hB HOA HNA HBA HO7
   go_loopw [3] (fun v wr=>∃ j:Nat,j≤Z∧Hid (OwnB wr w.heap.size v (X++128::List.replicate j 0))∧Hid (Below w.heap.size w wr)) (fun v _=>65+n - vlen v)
   case atStart=>exact⟨0,by omega,HO8,HB7⟩
   case round =>
    obtain⟨j,hj,hO,hB⟩:=hrel
    obtain⟨va,vn,vc,hv,hvn⟩:=OwnB.form hO.out
    replace hvn:vn=n+1+j:=by
     rw[hvn,List.length_append,List.length_cons,List.length_replicate,HL.out];omega
    subst hv
    have hz:=HZT.out j hj
    have HXS:Hid ((X++128::List.replicate j 0).length≤1100000000):=zh (by rw[List.length_append,List.length_cons,List.length_replicate,HL.out];omega)
    have HRS:Hid ((X++128::List.replicate j 0)++[0]=X++128::List.replicate (j+1) 0):=zh (by
     rw[List.append_assoc,List.cons_append,← List.replicate_succ'])
    have HVN:=zh hvn
    obtain⟨XS,hXS⟩:∃ XS,XS=X++128::List.replicate j 0:=⟨_,rfl⟩
    rw[← hXS]at hO HXS HRS
    have HXE:=zh hXS
    clear hXS
    have hsz:=hB.out.size
    by_cases hjz:j=Z
    ·have e56:(vn:Int) % 64=56:=by have:=hz.2 hjz;omega
     clear hz hvn
     have HRZ:Hid (R=XS++LB.take 8):=zh (by rw[HP.out,HXE.out,hjz,← HL8.out])
     have HO9:Hid (OwnB wr w.heap.size (.slice va vn vc) (XS++LB.take 0)):=zh (by rw[HL0.out,List.append_nil];exact hO.out)
     have HXT:Hid (∀ k,(XS++LB.take k).length≤1100000000):=zh (fun k=>by
      rw[HXE.out,List.length_append,List.length_append,List.length_cons,List.length_replicate,HL.out]
      have:(LB.take k).length≤8:=by rw[HL8.out,List.take_take,List.length_take];omega
      omega)
     have HL9:=zh (fun m h=>congrArg (XS++·) (HLB.out m h))
     clear HP HL8 HL0 HRS HXE HXS hO HVN hsz HLB HXl HL hjz hj
     go_wp2
     clear e56
     go_loopw [3,5] (fun v i wr=>∃ k:Nat,k≤8∧i=.int .i64 (7 - (k:Int))∧Hid (OwnB wr w.heap.size v (XS++LB.take k))∧Hid (Below w.heap.size w wr)) (fun _ i _=>(intOf i+1).toNat)
     case atStart=>exact⟨0,by omega,by go_num,HO9,hB⟩
     case round =>
      clear HO9 hB
      obtain⟨k,hk,rfl,hO,hB⟩:=hrel
      obtain⟨va,vn,vc,hv,hvn⟩:=OwnB.form hO.out
      subst hv
      clear hvn
      have hsz:=hB.out.size
      by_cases h8:k < 8
      ·obtain⟨j,hj⟩:∃ j:Nat,j=7 - k:=⟨_,rfl⟩
       have ej:(7:Int) - (k:Int)=(j:Int):=by omega
       have HJ:=zh hj
       have tj:(0:Int)≤(j:Int):=by omega
       obtain⟨t,ht⟩:∃ t,t=8*n / 2 ^ (8*(7 - k)):=⟨_,rfl⟩
       have f1:IntKind.i64.wrap (8*(s.size:Int))=8*(s.size:Int):=IntWalk.i64_in _ (by omega)
       have f2:IntKind.i64.wrap (8*(j:Int))=((8*j:Nat):Int):=by rw[IntWalk.i64_in _ (by omega)];omega
       obtain⟨j8,hj8⟩:∃ j8,j8=8*j:=⟨_,rfl⟩
       rw[← hj8]at f2
       have tj8:(0:Int)≤(j8:Int):=by omega
       have f3:(8*(s.size:Int)) / 2 ^ min j8 64=(t:Int):=by
        rw[ht,hj8,hj,Int.natCast_ediv,Int.natCast_pow,HNn.out,Nat.min_eq_left (by omega)];rfl
       have HT:=zh (HL9.out k h8)
       rw[← ht]at HT
       have HXk:=zh (HXT.out k)
       rw[ej]
       clear ht hj hj8
       have HOA:Hid (OwnB (wr.alloc (.cells #[.int .u8 ((t:Int) % 256)] 5)) w.heap.size (.slice va vn vc) (XS++LB.take k)):=zh (OwnE.alloc hO.out _)
       have HNA:=zh (heap_alloc_new wr (.cells #[.int .u8 ((t:Int) % 256)] 5))
       have HBA:=zh (hB.out.alloc hsz (.cells #[.int .u8 ((t:Int) % 256)] 5))
       have HYY:Hid ((t:Int) % 256=((t % 256:Nat):Int)):=zh (by omega)
       have HTT:Hid ((XS++LB.take k)++[t % 256]=XS++LB.take (k+1)):=zh (by rw[HT.out,List.append_assoc])
       clear hO
       generalize XS++LB.take k=XK at *
       go_wp2_with (at_builtin;refine wpList_append_byte _ _ w.heap.size _ XK wr.heap.size _ (t % 256) HYY.out _ HOA.out HXk.out HBA.out.size HNA.out rfl rfl rfl rfl ?_;intro v7 w7 hown7 hgr7;have HO7:=zh hown7;have HB7:=zh (HBA.out.grown hgr7 HBA.out.size (fun j e=>OwnE.ge HOA.out j e));clear hown7 hgr7)
       have hj1:=HJ.out
       go_roundw
       case rel =>
        refine⟨k+1,by omega,?_,?_,HB7⟩
        ·congr 1;omega
        ·rw[← HTT.out]
         exact HO7
       case measure=>simp[intOf]
      ·have ek8:k=8:=by omega
       have ej:(7:Int) - (k:Int)=-1:=by omega
       rw[ej]
       rw[ek8,← HRZ.out]at hO
       clear ek8
       go_wp2
       go_ret
       exact⟨_,rfl,hO.out,hB.out⟩
    ·have e56:((vn:Int) % 64 != 56)=true:=by
      have:¬ (n+1+j) % 64=56:=fun h=>hjz (hz.1 h)
      simp only[bne_iff_ne,ne_eq]
      omega
     clear hz hvn
     have HOA:Hid (OwnB (wr.alloc (.cells #[.int .u8 ((0:Nat):Int)] 5)) w.heap.size (.slice va vn vc) XS):=zh (OwnE.alloc hO.out _)
     have HNA:=zh (heap_alloc_new wr (.cells #[.int .u8 ((0:Nat):Int)] 5))
     have HBA:=zh (hB.out.alloc hsz (.cells #[.int .u8 ((0:Nat):Int)] 5))
     go_wp2_with (at_builtin;refine wpList_append_byte _ _ w.heap.size _ XS wr.heap.size _ 0 rfl _ HOA.out HXS.out HBA.out.size HNA.out rfl rfl rfl rfl ?_;intro v7 w7 hown7 hgr7;have HO7:=zh hown7;have HB7:=zh (HBA.out.grown hgr7 HBA.out.size (fun j e=>OwnE.ge HOA.out j e));clear hown7 hgr7)
     go_roundw
     case rel =>
      refine⟨j+1,by omega,?_,HB7⟩
      rw[← HRS.out]
      exact HO7
     case measure =>
      obtain⟨va8,vn8,vc8,hv8,hvn8⟩:=OwnB.form HO7.out
      subst hv8
      have h1:vn8=n+1+j+1:=by rw[hvn8,List.length_append,HXE.out,List.length_append,List.length_cons,List.length_replicate,HL.out];simp;omega
      have h2:=HVN.out
      simp[vlen];omega
end Go.Proofs.YtggdcnjaofflbaaGreatDoor
