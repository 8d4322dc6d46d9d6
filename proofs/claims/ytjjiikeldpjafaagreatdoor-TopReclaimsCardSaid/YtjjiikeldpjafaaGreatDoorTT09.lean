/- The walk of register.Show. The conditions: what the slices read as, lengths, the table of constants. -/
import Derived.Deep.AppendLies
import Derived.Deep.RegionLaw
import Derived.Test.YtjjiikeldpjafaaGreatDoorTT08
import Derived.ProofKit
import Derived.OpenShut
import Derived.ChangeBears
import Derived.ReadAgain
import Derived.Deep.DeepHandedRow
import Derived.Lib.LaidTab
namespace Go.Proofs.YtjjiikeldpjafaaGreatDoor
open Go.RowKit Go.BigFrame
def IL (w:World)(v:Value)(l:List Int):Prop:=SliceAt w v 1 (icells l)
theorem IL.opened {w:World}{v:Value}{l:List Int}(h:IL w v l):∃ a cap,v=.slice a l.length cap∧l.length≤cap∧cap≤maxLen ∧
  ∀ k s,l[k]?=some s→∃ b off,a=some ⟨b,off,none⟩∧b < w.heap.size∧w.cell? ⟨b,off+k,none⟩=some (.int .i64 s):=by
 obtain⟨a,cap,hv,h1,h2,h3⟩:=h
 unfold icells at *
 rw[List.length_map]at hv h1
 refine⟨a,cap,hv,h1,h2,fun k x hx=>?_⟩
 rcases h3 with h3 | ⟨b,off,ha,hb,hc⟩
 ·simp at h3;subst h3;simp at hx
 ·refine⟨b,off,ha,hb,?_⟩
  have:=hc k [.int .i64 x] (by rw[List.getElem?_map,hx];rfl) 0 _ rfl
  simpa using this
structure ISt (w:World) (v:Value) (ys:List (ItemP × Value)):Prop where
 is:IS w v ys
 ty:RowTy w 180 v
 tp:∀ y∈ys,RowTy w 9 y.2
theorem ISt.below {w w':World}{v:Value}{ys:List (ItemP × Value)}(h:ISt w v ys)(hb:Below w.heap.size w w'):ISt w' v ys:=⟨h.is.below hb,h.ty.below hb,fun y hy=>(h.tp y hy).below hb⟩
theorem rowTy_own {w:World}{base size:Nat}{e:TypeId}{v:Value}{css:List (List Value)}(h:OwnE w base e size v css):RowTy w e v:=by
 intro a n c ev
 rcases h.2 with⟨h1,_⟩ | ⟨g,cap,cur,h1,_,hg,_⟩
 ·rw[h1]at ev;cases ev
 ·rw[h1]at ev
  cases ev
  exact .inr ⟨cur,(0,0),hg⟩
def prevL (l:List Int):Nat→Option Int
 | 0=>none
 | k+1=>l[k]?
def showFrom (xs:List ByteArray)(n:Nat)(l:List Int)(k:Nat)(ys:List (ItemP × Value)):Option (List ItemP):=(itemsB xs n (l.drop k) (prevL l k)).map (fun z=>ys.map (·.1)++z)
theorem showFrom_end (xs:List ByteArray)(n:Nat)(l:List Int)(k:Nat)(ys:List (ItemP × Value))(h:l.length≤k):showFrom xs n l k ys=some (ys.map (·.1)):=by
 unfold showFrom
 rw[List.drop_eq_nil_of_le h]
 simp[itemsB]
theorem showFrom_no {xs:List ByteArray}{n:Nat}{l:List Int}{k:Nat}{ys:List (ItemP × Value)}{i:Int}(h:l[k]?=some i)(hc:¬ (0≤i∧i < n∧∀ j,prevL l k=some j→j < i)):showFrom xs n l k ys=none:=by
 unfold showFrom
 rw[drop_get h,itemsB,if_neg hc]
 rfl
theorem showFrom_yes {xs:List ByteArray}{n:Nat}{l:List Int}{k:Nat}{ys:List (ItemP × Value)}{i:Int}(h:l[k]?=some i)(hc:0≤i∧i < n∧∀ j,prevL l k=some j→j < i)(pv:Value) :
  showFrom xs n l k ys=showFrom xs n l (k+1) (ys++[(⟨i,xs.getD i.toNat ⟨#[]⟩,proofB (xs.take n) i.toNat⟩,pv)]):=by
 unfold showFrom
 rw[drop_get h,itemsB,if_pos hc]
 have e:prevL l (k+1)=some i:=h
 rw[e]
 cases itemsB xs n (l.drop (k+1)) (some i)with
 | none=>rfl
 | some z=>simp
def partZ:Value:=.agg #[.int .i64 0,.int .i64 0,.string ⟨#[]⟩,.string ⟨#[]⟩,.slice none 0 0]
theorem infoItem:(Tryz.prog.info? 180).map (fun i=>(i.zero,i.size,i.bytes))=some (some (.agg #[.int .i64 0,.string ⟨#[]⟩,.slice none 0 0]),3,48):=by kernel_rfl
theorem five_heap {W:World}{b:Nat}{c0 c1 c2 c3 c4:Value}{T:TypeId}(h:W.heap[b]?=some (.cells #[c0,c1,c2,c3,c4] T (0,0)))(v0 v1 v2 v3 v4:Value) :
  (((((W.setCell ⟨b,0,none⟩ v0).setCell ⟨b,1,none⟩ v1).setCell ⟨b,2,none⟩ v2).setCell ⟨b,3,none⟩ v3).setCell ⟨b,4,none⟩ v4).heap[b]?=some (.cells #[v0,v1,v2,v3,v4] T (0,0)):=by
 have h0:=heap_setCell_same (i:=0) v0 h
 have h1:=heap_setCell_same (i:=1) v1 h0
 have h2:=heap_setCell_same (i:=2) v2 h1
 have h3:=heap_setCell_same (i:=3) v3 h2
 exact heap_setCell_same (i:=4) v4 h3
theorem five_below {w W:World}{b B:Nat}(h:Below B w W)(hb:B≤b)(v0 v1 v2 v3 v4:Value) :
  Below B w (((((W.setCell ⟨b,0,none⟩ v0).setCell ⟨b,1,none⟩ v1).setCell ⟨b,2,none⟩ v2).setCell ⟨b,3,none⟩ v3).setCell ⟨b,4,none⟩ v4):=by
 have h0:=h.setCell (p:=⟨b,0,none⟩) hb v0
 have h1:=h0.setCell (p:=⟨b,1,none⟩) hb v1
 have h2:=h1.setCell (p:=⟨b,2,none⟩) hb v2
 have h3:=h2.setCell (p:=⟨b,3,none⟩) hb v3
 exact h3.setCell (p:=⟨b,4,none⟩) hb v4
theorem five_grown (W:World)(b:Nat)(v0 v1 v2 v3 v4:Value) :
  W.grownBy (((((W.setCell ⟨b,0,none⟩ v0).setCell ⟨b,1,none⟩ v1).setCell ⟨b,2,none⟩ v2).setCell ⟨b,3,none⟩ v3).setCell ⟨b,4,none⟩ v4) (some b):=by
 have h0:=grown_setCell (grown_refl W (some b)) ⟨b,0,none⟩ (.inl rfl) v0
 have h1:=grown_setCell h0 ⟨b,1,none⟩ (.inl rfl) v1
 have h2:=grown_setCell h1 ⟨b,2,none⟩ (.inl rfl) v2
 have h3:=grown_setCell h2 ⟨b,3,none⟩ (.inl rfl) v3
 exact grown_setCell h3 ⟨b,4,none⟩ (.inl rfl) v4
theorem SS.grownT {w w':World}{v:Value}{xs:List ByteArray}(h:SS w v xs)(ht:RowTy w 9 v){r:Option Nat}(hg:w.grownBy w' r)(hr:∀ k,r=some k→∀ cs fr,w.heap[k]?≠some (.cells cs 9 fr)):SS w' v xs∧RowTy w' 9 v:=by
 have key:∀(a:Addr) (n c:Nat),v=.slice (some a) n c→n=0∨w'.heap[a.block]?=w.heap[a.block]?:=fun a n c e=>by
  rcases ht a n c e with h0 | ⟨cs,fr,h0⟩
  ·exact .inl h0
  ·refine .inr (hg.block _ (ltA h0) (fun e'=>?_))
   exact hr _ e'.symm cs fr h0
 refine⟨?_,fun a n c e=>?_⟩
 ·obtain⟨a,cap,hv,h1,h2,h3⟩:=h
  refine⟨a,cap,hv,h1,h2,?_⟩
  rcases h3 with h3 | ⟨b,off,rfl,hb,hc⟩
  ·exact .inl h3
  ·rcases key _ _ _ hv with h0 | h0
   ·exact .inl (List.eq_nil_of_length_eq_zero h0)
   ·refine .inr ⟨b,off,rfl,Nat.lt_of_lt_of_le hb hg.size,fun i c hi j u hj=>?_⟩
    have:=hc i c hi j u hj
    rw[← this]
    simp[World.cell?,h0]
 ·rcases key a n c e with h0 | h0
  ·exact .inl h0
  ·rcases ht a n c e with h1 | ⟨cs,fr,h1⟩
   ·exact .inl h1
   ·exact .inr ⟨cs,fr,h0.trans h1⟩
theorem OwnE.grownT {w w':World}{base size:Nat}{e:TypeId}{v:Value}{css:List (List Value)}(h:OwnE w base e size v css){k:Nat}{o:Obj}(hk:w.heap[k]?=some o)(hne:∀ c,o≠.cells c e (0,0))(hg:w.grownBy w' (some k)):OwnE w' base e size v css :=
 World.ownsRow.kept h hg (.inr (fun e'=>own_ne h hk hne e'.symm))
theorem own_snoc {w:World}{B g cap:Nat}{ys:List (ItemP × Value)}{i:Int}{e:ByteArray}{pr:List ByteArray}{pv:Value}(h:w.ownsRow B 180 3 (.slice (some ⟨g,0,none⟩) ((itcells ys).length+1) cap) ((itcells ys).length+1) ((itcells ys).flatten++[.int .i64 i,.string e,pv])) :
  OwnE w B 180 3 (.slice (some ⟨g,0,none⟩) (ys.length+1) cap) (itcells (ys++[(⟨i,e,pr⟩,pv)])):=by
 have e1:(itcells ys).length=ys.length:=by unfold itcells;rw[List.length_map]
 have e2:itcells (ys++[(⟨i,e,pr⟩,pv)])=itcells ys++[[.int .i64 i,.string e,pv]]:=by unfold itcells;rw[List.map_append];rfl
 unfold OwnE
 rw[e2,List.flatten_append,List.length_append,← e1]
 simpa using h
def ShowAt (w W:World)(p:Nat)(R C V:Array Value)(v:Value)(ys:List (ItemP × Value)):Prop :=
 Below w.heap.size w W∧W.heap[w.heap.size]?=some (.cells R 134 (0,0))∧W.heap[w.heap.size+1]?=some (.cells C 69 (0,0))∧W.heap[p]?=some (.cells (V.push v) 69 (0,0))∧OwnE W w.heap.size 180 3 v (itcells ys)∧∀ y∈ys,SS W y.2 y.1.prf∧RowTy W 9 y.2
theorem ShowAt.far {w W W':World}{p:Nat}{R C V:Array Value}{v:Value}{ys:List (ItemP × Value)}(h:ShowAt w W p R C V v ys)(hb:Below W.heap.size W W'):ShowAt w W' p R C V v ys:=by
 obtain⟨h1,h2,h3,h4,h5,h6⟩:=h
 exact⟨h1.trans (hb.mono h1.size),(hb.block _ (ltA h2)).trans h2,(hb.block _ (ltA h3)).trans h3,(hb.block _ (ltA h4)).trans h4,OwnE.far h5 hb (Nat.le_refl _),fun y hy=>⟨(h6 y hy).1.below hb,(h6 y hy).2.below hb⟩⟩
theorem ShowAt.block {w W w7:World}{p:Nat}{R C V:Array Value}{v:Value}{ys:List (ItemP × Value)}(h:ShowAt w W p R C V v ys){o:Obj}(hg:(W.alloc o).drew.grownBy w7 v.ownBlock){k:Nat}{cs:Array Value}{T:TypeId}(hk:W.heap[k]?=some (.cells cs T (0,0)))(hT:T≠180):w7.heap[k]?=some (.cells cs T (0,0)):=by
 have hlt:=(ltA hk)
 refine(hg.block k (by show k < (W.alloc o).heap.size;simp;omega) ?_).trans ((Below.heap_alloc W o k hlt).trans hk)
 exact own_ne h.2.2.2.2.1 hk (fun c e=>by cases e;exact hT rfl)
theorem ShowAt.append {w W w7:World}{p:Nat}{R C V:Array Value}{v:Value}{ys:List (ItemP × Value)}(h:ShowAt w W p R C V v ys)(hp:w.heap.size+1 < p)(hV:V.size=4)(y:ItemP × Value)(hy:SS W y.2 y.1.prf)(hty:RowTy W 9 y.2){o:Obj}(hg:(W.alloc o).drew.grownBy w7 v.ownBlock)
  {g cap:Nat} (ho:OwnE w7 w.heap.size 180 3 (.slice (some ⟨g,0,none⟩) (ys.length+1) cap) (itcells (ys++[y]))) :
  ShowAt w (w7.setCell ⟨p,4,none⟩ (.slice (some ⟨g,0,none⟩) (ys.length+1) cap)) p R C V (.slice (some ⟨g,0,none⟩) (ys.length+1) cap) (ys++[y]):=by
 have hb:=fun {k:Nat} {cs:Array Value} {T:TypeId}=>h.block (p:=p) hg (k:=k) (cs:=cs) (T:=T)
 obtain⟨h1,h2,h3,h4,h5,h6⟩:=h
 have g2:=hb h2 (by decide)
 have g3:=hb h3 (by decide)
 have g4:=hb h4 (by decide)
 have hsz:=h1.size
 have h17:Below w.heap.size w w7:=(below_drewN (h1.alloc hsz o) 1).grown hg (by show _≤(W.alloc o).heap.size;simp;omega) (fun j e=>OwnE.ge h5 j e)
 have hset:w7.grownBy (w7.setCell ⟨p,4,none⟩ (.slice (some ⟨g,0,none⟩) (ys.length+1) cap)) (some p):=grown_setCell (grown_refl _ _) _ (.inl rfl) _
 have hcv:(V.push v).setIfInBounds 4 (.slice (some ⟨g,0,none⟩) (ys.length+1) cap)=V.push (.slice (some ⟨g,0,none⟩) (ys.length+1) cap):=by
  rw[← hV]
  apply Array.ext
  ·simp
  ·intro i h1 h2
   simp only[Array.size_setIfInBounds,Array.size_push]at h1
   by_cases hi:i=V.size
   ·subst hi;simp
   ·rw[Array.getElem_setIfInBounds_ne (by simpa using h1) (fun e=>hi e.symm),Array.getElem_push_lt (by omega),Array.getElem_push_lt (by omega)]
 refine⟨h17.setCell (p:=⟨p,4,none⟩) (by show w.heap.size≤p;omega) _,(Below.heap_setCell _ _ _ _ (by show w.heap.size≠p;omega)).trans g2,(Below.heap_setCell _ _ _ _ (by show w.heap.size+1≠p;omega)).trans g3,?_,ho.grownT g4 (fun c e=>by cases e) hset,?_⟩
 ·rw[heap_setCell_same _ g4,hcv]
 ·have key:∀ z:ItemP × Value,SS W z.2 z.1.prf→RowTy W 9 z.2→SS (w7.setCell ⟨p,4,none⟩ (.slice (some ⟨g,0,none⟩) (ys.length+1) cap)) z.2 z.1.prf∧RowTy (w7.setCell ⟨p,4,none⟩ (.slice (some ⟨g,0,none⟩) (ys.length+1) cap)) 9 z.2:=fun z hz ht=>by
   have b0:Below W.heap.size W (W.alloc o).drew:=below_drewN (br0.alloc (Nat.le_refl _) o) 1
   obtain⟨k1,k2⟩:=(hz.below b0).grownT (ht.below b0) hg (fun k e cs fr e'=>by
    rcases h5.2 with⟨hn,_⟩ | ⟨g',c',cur,hv,_,hg',_⟩
    ·rw[hn]at e;cases e
    ·rw[hv]at e
     cases e
     have e2:(W.alloc o).drew.heap[g']?=W.heap[g']?:=Below.heap_alloc W o g' (ltA hg')
     have e3:=(e2.symm.trans e').symm.trans hg'
     cases e3)
   exact k1.grownT k2 hset (fun k e cs fr e'=>by
    cases e
    rw[g4]at e'
    cases e')
  intro z hz
  rcases List.mem_append.1 hz with hz | hz
  ·exact key z (h6 z hz).1 (h6 z hz).2
  ·rw[List.mem_singleton]at hz
   subst hz
   exact key _ hy hty
set_option maxHeartbeats 1000000 in
set_option maxRecDepth 100000 in
theorem show_yes {key:ByteArray}{car:Int}{w:World}{v vl:Value}{xs:List ByteArray}{n:Nat}{l:List Int}(hr:SS w v xs)(hil:IL w vl l)(hk:key.size=32)(hv:validB ⟨car,xs⟩=true)(hn:n≤xs.length)(hll:l.length≤100000)(he:Env w)(hg:0 < w.heap.size) :
  Calls Tryz.prog 45 #[.string key,.agg #[.int .i64 car,v],.int .i64 n,vl] w fun e w'=>((itemsB xs n l none=none∧e=.returned (.tuple #[partZ,.int .i64 180]))∨∃(v':Value) (ys:List (ItemP × Value)),itemsB xs n l none=some (ys.map (·.1))∧e=.returned (.tuple #[.agg #[.int .i64 (headS key car xs n).car,.int .i64 (headS key car xs n).siz,.string (headS key car xs n).root,.string (headS key car xs n).sl,v'],.int .i64 0])∧ISt w' v' ys)∧Below w.heap.size w w':=by
 obtain⟨v1,v2,v3,v4⟩:0≤car∧car≤7∧xs.length≤60∧∀ s∈xs,s.size≤1000:=valid_parts hv
 obtain⟨a,cap,rfl,l1,l2,l3⟩:=hr.opened
 obtain⟨al,cl,rfl,k1,k2,k3⟩:=hil.opened
 have HS:=zh (fun W (hW:Below w.heap.size w W)=>sign_yes (n:=n) (hr.below hW) hk hv hn (he.below hW hg) (Nat.lt_of_lt_of_le hg hW.size))
 have HPn:Hid (∀(W:World) (i:Int),Below w.heap.size w W→¬ (0≤i∧i < n)→Calls Tryz.prog 83 #[.slice a n cap,.int .i64 i] W fun e w'=>e=.returned (.tuple #[.slice none 0 0,.int .i64 2])∧w'=W):=zh (fun W i hW hi=>proof_no i ((hr.cut n hn).below hW) (by rw[List.length_take];omega))
 have HPy:Hid (∀(W:World) (i:Nat),Below w.heap.size w W→i < n→Calls Tryz.prog 83 #[.slice a n cap,.int .i64 i] W fun e w'=>∃ v',e=.returned (.tuple #[v',.int .i64 0])∧SS w' v' (proofB (xs.take n) i)∧Below W.heap.size W w'∧RowTy w' 9 v'):=zh (fun W i hW hi=>proof_any i ((hr.cut n hn).below hW) (by rw[List.length_take];omega) (fun x hx=>Nat.le_trans (v4 x (List.mem_of_mem_take hx)) (by omega)) (he.below hW hg) (Nat.lt_of_lt_of_le hg hW.size) (by rw[List.length_take];omega))
 have HZ:Hid (itemsB xs n l none=showFrom xs n l 0 []):=zh (by unfold showFrom;cases h:itemsB xs n l none <;> simp[prevL,h])
 obtain⟨ZZ,hZZ⟩:∃ ZZ,ZZ=itemsB xs n l none:=⟨_,rfl⟩
 rw[← hZZ]at HZ ⊢
 obtain⟨H,hH⟩:∃ H,H=headS key car xs n:=⟨_,rfl⟩
 rw[← hH]at HS ⊢
 obtain⟨hc,hz,hrt,hsl⟩:=H
 have H3:=zh l3
 have K3:=zh k3
 have hn6:(n:Int)≤(xs.length:Int):=by omega
 have hx60:xs.length≤60:=v3
 obtain⟨m,hm⟩:∃ m,m=xs.length:=⟨_,rfl⟩
 rw[← hm]at HS l1 hn6 hx60 ⊢
 have HM:=zh hm
 obtain⟨L,hL⟩:∃ L,L=l.length:=⟨_,rfl⟩
 rw[← hL]at k1 hll ⊢
 have HL:=zh hL
 clear l3 k3 hr hil hv v1 v2 v3 v4 hH hZZ hm hL he hg hn
 unfold maxLen at l2 k2
 have hnc:n≤cap:=by omega
 have HB2:Hid (Below w.heap.size w ((w.alloc (.cells #[.int .i64 car,.slice a m cap] 134)).alloc (.cells #[.int .i64 0,.int .i64 0,.string ⟨#[]⟩,.string ⟨#[]⟩,.slice none 0 0] 69))):=zh ((br0.alloc (Nat.le_refl _) _).alloc (by simp) _)
 go_enter Tryz.func45,Tryz.ntmps45
 go_wp2_with fail
 refine(HS.out _ HB2.out).mono ?_
 rintro e w3 ⟨rfl,hb3⟩
 unfold headV
 simp only
 have HB3:=zh (HB2.out.trans (hb3.mono HB2.out.size))
 have HR3:=zh ((hb3.block w.heap.size (by simp <;> omega)).trans (at_past w _ _))
 have HC3:=zh ((hb3.block (w.heap.size+1) (by simp)).trans (at_second w _ _))
 have hs3:w.heap.size+2≤w3.heap.size:=by have:=hb3.size;simp at this;omega
 clear hb3 HB2 HS
 go_wp2_with fail
 have HV5:Hid (ShowAt w ((w3.alloc (.cells #[.int .i64 hc,.int .i64 hz,.string hrt,.string hsl] 66)).alloc (.cells #[.int .i64 hc,.int .i64 hz,.string hrt,.string hsl,.slice none 0 0] 69)) (w3.heap.size+1) #[.int .i64 car,.slice a m cap] #[.int .i64 0,.int .i64 0,.string ⟨#[]⟩,.string ⟨#[]⟩,.slice none 0 0] #[.int .i64 hc,.int .i64 hz,.string hrt,.string hsl] (.slice none 0 0) []):=Lib.hid
  ⟨(HB3.out.alloc (by omega) _).alloc (by simp;omega) _,(Below.heap_alloc _ _ _ (by simp;omega)).trans ((Below.heap_alloc _ _ _ (by omega)).trans HR3.out),(Below.heap_alloc _ _ _ (by simp;omega)).trans ((Below.heap_alloc _ _ _ (by omega)).trans HC3.out),at_second w3 _ _,OwnE.nil _ _ _ _,fun _ h=>absurd h List.not_mem_nil⟩
 obtain⟨p,hp⟩:∃ p,p=w3.heap.size+1:=⟨_,rfl⟩
 rw[← hp]at HV5 ⊢
 have hp1:w.heap.size+1 < p:=by omega
 generalize (w3.alloc (.cells #[.int .i64 hc,.int .i64 hz,.string hrt,.string hsl] 66)).alloc (.cells #[.int .i64 hc,.int .i64 hz,.string hrt,.string hsl,.slice none 0 0] 69)=W5 at *
 generalize w3.heap.size=q at *
 clear HB3 HR3 HC3 hs3 hp
 obtain⟨R,hR⟩:∃ R:Array Value,R=#[.int .i64 car,.slice a m cap]:=⟨_,rfl⟩
 rw[← hR]at HV5
 have HR:=zh hR
 clear hR
 obtain⟨C,hC⟩:∃ C:Array Value,C=#[.int .i64 0,.int .i64 0,.string ⟨#[]⟩,.string ⟨#[]⟩,.slice none 0 0]:=⟨_,rfl⟩
 rw[← hC]at HV5
 have HC:=zh hC
 clear hC
 obtain⟨V,hV⟩:∃ V:Array Value,V=#[.int .i64 hc,.int .i64 hz,.string hrt,.string hsl]:=⟨_,rfl⟩
 rw[← hV]at HV5
 have HV:=zh hV
 clear hV
 have HCA:Hid (∀(W:World) (v:Value) (ys:List (ItemP × Value)),ShowAt w W p R C V v ys→(W.cell? ⟨w.heap.size,1,none⟩=some (.slice a m cap)∧W.cell? ⟨p,4,none⟩=some v∧W.frozen? ⟨p,4,none⟩=false∧p < W.heap.size)∧(W.cell? ⟨p,0,none⟩=some (.int .i64 hc)∧W.cell? ⟨p,1,none⟩=some (.int .i64 hz)∧W.cell? ⟨p,2,none⟩=some (.string hrt)∧W.cell? ⟨p,3,none⟩=some (.string hsl))∧W.cell? ⟨w.heap.size+1,0,none⟩=some (.int .i64 0)∧W.cell? ⟨w.heap.size+1,1,none⟩=some (.int .i64 0)∧W.cell? ⟨w.heap.size+1,2,none⟩=some (.string ⟨#[]⟩)∧W.cell? ⟨w.heap.size+1,3,none⟩=some (.string ⟨#[]⟩)∧W.cell? ⟨w.heap.size+1,4,none⟩=some (.slice none 0 0)∧∀ j,W.frozen? ⟨w.heap.size+1,j,none⟩=false):=zh (fun W v ys h=>by
  obtain⟨_,h2,h3,h4,_,_⟩:=h
  rw[HR.out]at h2
  rw[HC.out]at h3
  rw[HV.out]at h4
  exact⟨⟨cell_of_row W _ 1 _ _ _ h2,cell_of_row W _ 4 _ _ _ h4,by simp[World.frozen?,h4],(ltA h4)⟩,⟨cell_of_row W _ 0 _ _ _ h4,cell_of_row W _ 1 _ _ _ h4,cell_of_row W _ 2 _ _ _ h4,cell_of_row W _ 3 _ _ _ h4⟩,cell_of_row W _ 0 _ _ _ h3,cell_of_row W _ 1 _ _ _ h3,cell_of_row W _ 2 _ _ _ h3,cell_of_row W _ 3 _ _ _ h3,cell_of_row W _ 4 _ _ _ h3,fun j=>by simp[World.frozen?,h3]⟩)
 have HCZ:Hid (∀(W:World) (c0 c1:Int) (c2 c3:ByteArray) (c4:Value) (v:Value) (ys:List (ItemP × Value)),ShowAt w W p R C V v ys→(((((W.setCell ⟨w.heap.size+1,0,none⟩ (.int .i64 c0)).setCell ⟨w.heap.size+1,1,none⟩ (.int .i64 c1)).setCell ⟨w.heap.size+1,2,none⟩ (.string c2)).setCell ⟨w.heap.size+1,3,none⟩ (.string c3)).setCell ⟨w.heap.size+1,4,none⟩ c4).heap[w.heap.size+1]?=some (.cells #[.int .i64 c0,.int .i64 c1,.string c2,.string c3,c4] 69 (0,0))∧Below w.heap.size w (((((W.setCell ⟨w.heap.size+1,0,none⟩ (.int .i64 c0)).setCell ⟨w.heap.size+1,1,none⟩ (.int .i64 c1)).setCell ⟨w.heap.size+1,2,none⟩ (.string c2)).setCell ⟨w.heap.size+1,3,none⟩ (.string c3)).setCell ⟨w.heap.size+1,4,none⟩ c4)∧W.grownBy (((((W.setCell ⟨w.heap.size+1,0,none⟩ (.int .i64 c0)).setCell ⟨w.heap.size+1,1,none⟩ (.int .i64 c1)).setCell ⟨w.heap.size+1,2,none⟩ (.string c2)).setCell ⟨w.heap.size+1,3,none⟩ (.string c3)).setCell ⟨w.heap.size+1,4,none⟩ c4) (some (w.heap.size+1))):=zh (fun W c0 c1 c2 c3 c4 v ys h=>by
  obtain⟨h1,_,h3,_,_,_⟩:=h
  rw[HC.out]at h3
  exact⟨five_heap h3 _ _ _ _ _,five_below h1 (Nat.le_succ _) _ _ _ _ _,five_grown _ _ _ _ _ _ _⟩)
 go_loopw [32] (fun i wr=>∃(k:Nat) (v:Value) (ys:List (ItemP × Value)),k≤L∧i=.int .i64 k∧ys.length=k∧Hid (ZZ=showFrom xs n l k ys)∧Hid (ShowAt w wr p R C V v ys)) (fun i _=>L - (intOf i).toNat)
 case atStart=>exact⟨0,_,[],by omega,rfl,rfl,HZ,HV5⟩
 case round =>
  obtain⟨k,v,ys,hk',rfl,hyl,hZ,hS⟩:=hrel
  clear HZ HV5
  obtain⟨⟨x1,p4,pf,hpw⟩,⟨q0,q1,q2,q3⟩,z0,z1,z2,z3,z4,zf⟩:=HCA.out wr v ys hS.out
  by_cases hlt:k < L
  ·obtain⟨i,ei⟩:∃ i,l[k]?=some i:=⟨_,List.getElem?_eq_getElem (by rw[← HL.out];exact hlt)⟩
   obtain⟨bl,ol,rfl,hbl,c0⟩:=K3.out k i ei
   have d0:=cell_keepB hS.out.1 hbl c0
   have EI:=zh ei
   clear c0 ei p4 pf q0 q1 q2 q3
   by_cases hin:0≤i∧i < (n:Int)
   ·obtain⟨h0,h1⟩:=hin
    obtain⟨t,rfl⟩:=Int.eq_ofNat_of_zero_le h0
    have htn:t < n:=by omega
    obtain⟨s,es⟩:∃ s,xs[t]?=some s:=⟨_,List.getElem?_eq_getElem (by rw[← HM.out];omega)⟩
    obtain⟨b,off,rfl,hb,c0⟩:=H3.out t s es
    have ES:=zh es
    have C0:=zh c0
    clear es c0
    have htm:(t:Int) < (m:Int):=by omega
    have HP0:=zh (HPy.out wr t hS.out.1 htn)
    have hitl:(itcells ys).length=k:=by unfold itcells;rw[List.length_map];exact hyl
    by_cases hk0:k=0
    ·have bz:decide (0 < k)=false:=decide_eq_false (by omega)
     have HPr:Hid (∀ j,prevL l k=some j→j < (t:Int)):=zh (fun j h=>by rw[hk0]at h;cases h)
     clear hk0
     go_wp2_with (go_at_call 83;refine HP0.out.mono ?_;rintro e w6 ⟨v6,rfl,hs6,hb6,ht6⟩;have HS6:=zh (hS.out.far hb6);have HSS6:=zh hs6;have HT6:=zh ht6;clear hs6 hb6 ht6)
     obtain⟨va6,vc6,hv6,_,_,_⟩:=HSS6.out.opened
     obtain⟨vn6,hvn⟩:∃ vn6,vn6=(proofB (xs.take n) t).length:=⟨_,rfl⟩
     rw[← hvn]at hv6
     clear hvn
     subst hv6
     obtain⟨⟨x16,p46,pf6,hpw6⟩,_,_⟩:=HCA.out w6 v ys HS6.out
     have e6:=cell_keepB HS6.out.1 hb C0.out
     clear bz d0 x1 z0 z1 z2 z3 z4 zf
     have HY:Hid (ZZ=showFrom xs n l (k+1) (ys++[(⟨(t:Int),s,proofB (xs.take n) t⟩,.slice va6 vn6 vc6)])):=zh (by
      rw[hZ.out,showFrom_yes EI.out ⟨by omega,by omega,HPr.out⟩ (.slice va6 vn6 vc6)]
      have e1:xs.getD ((t:Int)).toNat ⟨#[]⟩=s:=by rw[Int.toNat_natCast,List.getD_eq_getElem?_getD,ES.out];rfl
      rw[e1,Int.toNat_natCast])
     obtain⟨i0,hi0,hz0,hz1,hz2⟩:=info_parts infoItem
     have HOA:Hid (OwnE (w6.alloc (.cells #[.int .i64 (t:Int),.string s,.slice va6 vn6 vc6] 180)).drew w.heap.size 180 3 v (itcells ys)):=zh (OwnE.alloc HS6.out.2.2.2.2.1 _)
     have HNW:Hid (∀(j:Nat) u,([.int .i64 (t:Int),.string s,.slice va6 vn6 vc6]:List Value)[j]?=some u→(w6.alloc (.cells #[.int .i64 (t:Int),.string s,.slice va6 vn6 vc6] 180)).drew.cell? ((⟨w6.heap.size,0,none⟩:Addr).add j)=some u):=zh (World.news_of_block (w:=(w6.alloc _).drew) (heap_alloc_new w6 _))
     have HSZ:Hid (w.heap.size≤(w6.alloc (.cells #[.int .i64 (t:Int),.string s,.slice va6 vn6 vc6] 180)).drew.heap.size):=zh (by show _≤(w6.alloc _).heap.size;have:=HS6.out.1.size;simp;omega)
     have HKB:Hid (∀ w7,(w6.alloc (.cells #[.int .i64 (t:Int),.string s,.slice va6 vn6 vc6] 180)).drew.grownBy w7 v.ownBlock→w7.cell? ⟨p,4,none⟩=some v∧w7.frozen? ⟨p,4,none⟩=false):=zh (fun w7 hg=>by
      have h4:=HS6.out.block hg HS6.out.2.2.2.1 (by decide)
      rw[HV.out]at h4
      exact⟨cell_of_row w7 _ 4 _ _ _ h4,by simp[World.frozen?,h4]⟩)
     go_region_law ((refine step_append_lies _ rfl (.tmp 63) (.tmp 72) 67 rfl w.heap.size 180 i0 _ 3 48 (by kernel_rfl) hi0 hz0 hz1 hz2 rfl (by decide) v (itcells ys).length (itcells ys).flatten rfl HOA.out ⟨w6.heap.size,0,none⟩ 1 1 _ rfl rfl HNW.out (fun u hu=>by simp at hu;rcases hu with rfl | rfl | rfl <;> rfl) (by decide) (by rw[hitl];unfold maxLen;omega) (by rw[hitl];omega) HSZ.out _ rfl ?_;intro g7 cap7 w7 hown7 hgrow7 hat7 hlt7;have HOW7:=zh hown7;have HGR7:=zh hgrow7;obtain⟨u4,uf⟩:=HKB.out w7 hgrow7;clear hown7 hgrow7 hat7 hlt7))
     all_goals
      have HSN:Hid (ShowAt w (w7.setCell ⟨p,4,none⟩ (.slice (some ⟨g7,0,none⟩) (k+1) cap7)) p R C V (.slice (some ⟨g7,0,none⟩) (k+1) cap7) (ys++[(⟨(t:Int),s,proofB (xs.take n) t⟩,.slice va6 vn6 vc6)])):=zh (by
       have h:=HS6.out.append hp1 (by rw[HV.out];rfl) (⟨(t:Int),s,proofB (xs.take n) t⟩,.slice va6 vn6 vc6) HSS6.out HT6.out HGR7.out (own_snoc HOW7.out)
       rw[hyl]at h
       exact h)
      clear HOW7 HGR7 HKB HSZ HNW HOA HCA HCZ HSS6 HT6 hitl u4 uf x16 p46 pf6 e6
      go_wp2
      go_roundw
      case rel=>exact⟨k+1,_,_,by omega,by go_num,by rw[List.length_append,hyl];rfl,HY,HSN⟩
      case measure=>simp[intOf];omega
    ·have bz:decide (0 < k)=true:=decide_eq_true (by omega)
     have f1:IntKind.i64.wrap ((k:Int) - 1)=(k:Int) - 1:=IntWalk.i64_in _ (by omega)
     have bj1:(0:Int)≤(k:Int) - 1:=by omega
     have bj2:(k:Int) - 1 < (L:Int):=by omega
     obtain⟨iy,eiy⟩:∃ i,l[k - 1]?=some i:=⟨_,List.getElem?_eq_getElem (by rw[← HL.out];omega)⟩
     have HPv:Hid (prevL l k=some iy):=zh (by
      obtain⟨j,hj⟩:∃ j,k=j+1:=⟨k - 1,by omega⟩
      rw[hj]at eiy ⊢
      exact eiy)
     obtain⟨bl',ol',eb,hbl',c0'⟩:=K3.out (k - 1) iy eiy
     cases eb
     have CY:=zh c0'
     clear c0' eiy
     by_cases hlt2:iy < (t:Int)
     ·have hd2:decide ((t:Int)≤iy)=false:=decide_eq_false (by omega)
      have HPr:Hid (∀ j,prevL l k=some j→j < (t:Int)):=zh (fun j h=>by rw[HPv.out]at h;cases h;exact hlt2)
      clear hlt2
      go_wp2_with (go_at_call 83;refine HP0.out.mono ?_;rintro e w6 ⟨v6,rfl,hs6,hb6,ht6⟩;have HS6:=zh (hS.out.far hb6);have HSS6:=zh hs6;have HT6:=zh ht6;clear hs6 hb6 ht6;have dy:=cell_keepB HS6.out.1 hbl CY.out)
      obtain⟨va6,vc6,hv6,_,_,_⟩:=HSS6.out.opened
      obtain⟨vn6,hvn⟩:∃ vn6,vn6=(proofB (xs.take n) t).length:=⟨_,rfl⟩
      rw[← hvn]at hv6
      clear hvn
      subst hv6
      obtain⟨⟨x16,p46,pf6,hpw6⟩,_,_⟩:=HCA.out w6 v ys HS6.out
      have e6:=cell_keepB HS6.out.1 hb C0.out
      clear bz d0 x1 z0 z1 z2 z3 z4 zf
      have HY:Hid (ZZ=showFrom xs n l (k+1) (ys++[(⟨(t:Int),s,proofB (xs.take n) t⟩,.slice va6 vn6 vc6)])):=zh (by
       rw[hZ.out,showFrom_yes EI.out ⟨by omega,by omega,HPr.out⟩ (.slice va6 vn6 vc6)]
       have e1:xs.getD ((t:Int)).toNat ⟨#[]⟩=s:=by rw[Int.toNat_natCast,List.getD_eq_getElem?_getD,ES.out];rfl
       rw[e1,Int.toNat_natCast])
      obtain⟨i0,hi0,hz0,hz1,hz2⟩:=info_parts infoItem
      have HOA:Hid (OwnE (w6.alloc (.cells #[.int .i64 (t:Int),.string s,.slice va6 vn6 vc6] 180)).drew w.heap.size 180 3 v (itcells ys)):=zh (OwnE.alloc HS6.out.2.2.2.2.1 _)
      have HNW:Hid (∀(j:Nat) u,([.int .i64 (t:Int),.string s,.slice va6 vn6 vc6]:List Value)[j]?=some u→(w6.alloc (.cells #[.int .i64 (t:Int),.string s,.slice va6 vn6 vc6] 180)).drew.cell? ((⟨w6.heap.size,0,none⟩:Addr).add j)=some u):=zh (World.news_of_block (w:=(w6.alloc _).drew) (heap_alloc_new w6 _))
      have HSZ:Hid (w.heap.size≤(w6.alloc (.cells #[.int .i64 (t:Int),.string s,.slice va6 vn6 vc6] 180)).drew.heap.size):=zh (by show _≤(w6.alloc _).heap.size;have:=HS6.out.1.size;simp;omega)
      have HKB:Hid (∀ w7,(w6.alloc (.cells #[.int .i64 (t:Int),.string s,.slice va6 vn6 vc6] 180)).drew.grownBy w7 v.ownBlock→w7.cell? ⟨p,4,none⟩=some v∧w7.frozen? ⟨p,4,none⟩=false):=zh (fun w7 hg=>by
       have h4:=HS6.out.block hg HS6.out.2.2.2.1 (by decide)
       rw[HV.out]at h4
       exact⟨cell_of_row w7 _ 4 _ _ _ h4,by simp[World.frozen?,h4]⟩)
      go_region_law ((refine step_append_lies _ rfl (.tmp 63) (.tmp 72) 67 rfl w.heap.size 180 i0 _ 3 48 (by kernel_rfl) hi0 hz0 hz1 hz2 rfl (by decide) v (itcells ys).length (itcells ys).flatten rfl HOA.out ⟨w6.heap.size,0,none⟩ 1 1 _ rfl rfl HNW.out (fun u hu=>by simp at hu;rcases hu with rfl | rfl | rfl <;> rfl) (by decide) (by rw[hitl];unfold maxLen;omega) (by rw[hitl];omega) HSZ.out _ rfl ?_;intro g7 cap7 w7 hown7 hgrow7 hat7 hlt7;have HOW7:=zh hown7;have HGR7:=zh hgrow7;obtain⟨u4,uf⟩:=HKB.out w7 hgrow7;clear hown7 hgrow7 hat7 hlt7))
      all_goals
       have HSN:Hid (ShowAt w (w7.setCell ⟨p,4,none⟩ (.slice (some ⟨g7,0,none⟩) (k+1) cap7)) p R C V (.slice (some ⟨g7,0,none⟩) (k+1) cap7) (ys++[(⟨(t:Int),s,proofB (xs.take n) t⟩,.slice va6 vn6 vc6)])):=zh (by
        have h:=HS6.out.append hp1 (by rw[HV.out];rfl) (⟨(t:Int),s,proofB (xs.take n) t⟩,.slice va6 vn6 vc6) HSS6.out HT6.out HGR7.out (own_snoc HOW7.out)
        rw[hyl]at h
        exact h)
       clear HOW7 HGR7 HKB HSZ HNW HOA HCA HCZ HSS6 HT6 hitl u4 uf x16 p46 pf6 e6
       go_wp2
       go_roundw
       case rel=>exact⟨k+1,_,_,by omega,by go_num,by rw[List.length_append,hyl];rfl,HY,HSN⟩
       case measure=>simp[intOf];omega
     ·have hd2:decide ((t:Int)≤iy)=true:=decide_eq_true (by omega)
      have HN0:Hid (ZZ=none):=zh (by rw[hZ.out];exact showFrom_no EI.out (fun h=>hlt2 (h.2.2 iy HPv.out)))
      clear hlt2
      go_wp2_with (go_at_call 83;refine HP0.out.mono ?_;rintro e w6 ⟨v6,rfl,hs6,hb6,ht6⟩;have HS6:=zh (hS.out.far hb6);have HSS6:=zh hs6;have HT6:=zh ht6;clear hs6 hb6 ht6;have dy:=cell_keepB HS6.out.1 hbl CY.out;obtain⟨_,_,y0,y1,y2,y3,y4,yf⟩:=HCA.out w6 v ys HS6.out)
      obtain⟨g1,g2,_⟩:=HCZ.out _ 0 0 ⟨#[]⟩ ⟨#[]⟩ (.slice none 0 0) v ys HS6.out
      exact bodyPost_ret (results_cellA_tmp rfl _ (w.heap.size+1) 69 #[.int .i64 0,.int .i64 0,.string ⟨#[]⟩,.string ⟨#[]⟩,.slice none 0 0] (0,0) _ rfl g1 Tryz.underlying69 rfl infoPart) rfl ⟨.inl ⟨HN0.out,rfl⟩,g2⟩
   ·have HN0:Hid (ZZ=none):=zh (by rw[hZ.out];exact showFrom_no EI.out (fun h=>hin ⟨h.1,h.2.1⟩))
    have HP0:=zh (HPn.out wr i hS.out.1 hin)
    clear hin
    go_wp2_with (go_at_call 83;refine HP0.out.mono ?_;rintro e w6 ⟨rfl,rfl⟩)
    obtain⟨g1,g2,_⟩:=HCZ.out _ 0 0 ⟨#[]⟩ ⟨#[]⟩ (.slice none 0 0) v ys hS.out
    exact bodyPost_ret (results_cellA_tmp rfl _ (w.heap.size+1) 69 #[.int .i64 0,.int .i64 0,.string ⟨#[]⟩,.string ⟨#[]⟩,.slice none 0 0] (0,0) _ rfl g1 Tryz.underlying69 rfl infoPart) rfl ⟨.inl ⟨HN0.out,rfl⟩,g2⟩
  ·have ek:k=L:=by omega
   have HF:Hid (ZZ=some (ys.map (·.1))):=zh (by rw[hZ.out];exact showFrom_end xs n l k ys (by rw[← HL.out];omega))
   obtain⟨va,vc,rfl⟩:=OwnE.form hS.out.2.2.2.2.1
   clear x1
   go_wp2
   obtain⟨g1,g2,g3⟩:=HCZ.out _ hc hz hrt hsl (.slice va (itcells ys).length vc) _ ys hS.out
   refine bodyPost_ret (results_cellA_tmp rfl _ (w.heap.size+1) 69 #[.int .i64 hc,.int .i64 hz,.string hrt,.string hsl,.slice va (itcells ys).length vc] (0,0) _ rfl g1 Tryz.underlying69 rfl infoPart) rfl ⟨.inr ⟨_,ys,HF.out,rfl,?_⟩,g2⟩
   obtain⟨_,_,h3,_,h5,h6⟩:=hS.out
   have hy':∀ y∈ys,SS _ y.2 y.1.prf∧RowTy _ 9 y.2:=fun y hy=>(h6 y hy).1.grownT (h6 y hy).2 g3 (fun k e cs fr e'=>by
    cases e
    rw[h3]at e'
    cases e')
   have ho':=h5.grownT h3 (fun c e=>by cases e) g3
   refine⟨⟨ho'.slice (fun c hc=>?_),fun y hy=>(hy' y hy).1⟩,rowTy_own ho',fun y hy=>(hy' y hy).2⟩
   unfold itcells at hc
   rw[List.mem_map]at hc
   obtain⟨y,_,rfl⟩:=hc
   rfl
open Go.RowKit Go.WideShapes Go.ChangeShapes
section
variable {H:Type} {enc:TypeId × Value→H} {P:Program}
/-! ### Arguments read again -/
theorem same_below {W W':World}(hb:Below W.heap.size W W')(p:MemPlace)(hp:p.block < W.heap.size):W.sameAt W' p:=by
 cases p with
 | cell b off=>exact hb.cell (p:=⟨b,off,none⟩) hp
 | map b=>exact hb.block b hp
theorem trodAll_below {W W':World}(hb:Below W.heap.size W W'){sp:Nat→Bool}{held:Bool}:∀ {ts:List TypeId} {vs:List Value} {ds:List (DataW H)} {ps:List MemPlace},DataW.TrodAll enc P W 0 sp held ts vs ds ps→(∀ p∈ps,p.block < W.heap.size)→DataW.TrodAll enc P W' 0 sp held ts vs ds ps
 | [],[],[],_,h,_=>h
 | _::_,_::_,_::_,_,⟨p,q,⟨n,h1⟩,h2,e⟩,hs =>
  ⟨p,q,⟨n,DataW.trod_carry n _ _ _ h1 (fun x hx=>same_below hb x (hs x (by rw[e];exact List.mem_append_left _ hx)))⟩,trodAll_below hb h2 (fun x hx=>hs x (by rw[e];exact List.mem_append_right _ hx)),e⟩
theorem post_below {f:Func}{s:ChangeSpec}{apart fresh handsOn again:Bool}{W W':World}{args:Array Value}{v:Value}{ds gs:List (DataW H)}{before pa pv:List MemPlace}
  (hW:DataW.Whole enc P f.params.toList s.vars apart W args.toList ds gs before)
  (hres:∀(b:Nat) (sp:Nat→Bool) (hd:Bool),DataW.TrodAll enc P W' b sp hd f.resultTypes.toList (v.resultList f.resultTypes.size) (s.fn H (ds++gs)).results [])
  (hargs:∀ sp:Nat→Bool,(∀ p∈before,sp p.block=true)→DataW.TrodAll enc P W' 0 sp true f.params.toList args.toList (s.fn H (ds++gs)).args pa)
  (hvars:∀ sp:Nat→Bool,(∀ p∈before,sp p.block=true)→DataW.TrodVars enc P W' sp s.vars (s.fn H (ds++gs)).vars pv)
  (hps:before=pa++pv) (hb:Below W.heap.size W W')
  (hok:∀(j:Nat) (t:TypeId) (r:Value),f.resultTypes[j]?=some t→(v.resultList f.resultTypes.size)[j]?=some r→Value.okWide P W' .any 0 t r) :
  s.post enc P f apart fresh handsOn again W args v W':=by
 have hlt:∀ p∈before,p.block < W.heap.size:=fun p hp=>hW.lt p hp
 have hold:∀ p∈before,(fun b=>decide (b < W.heap.size)) p.block=true:=fun p hp=>by simpa using hlt p hp
 refine⟨ds,gs,before,[],pa,pv,hW,hres _ _ _,hargs _ hold,hvars _ hold,World.keptBut_mono (fun p hp=>⟨hp,?_⟩) (hb.frame (·∈before)),fun _=>?_⟩
 ·rw[hps,List.mem_append]at hp
  exact Or.inr hp
 ·obtain⟨_,_,_,_,_,hz,hn⟩:=hW
  refine⟨hok,_,_,([]++pa)++pv,⟨[]++pa,pv,trodAll_append (hargs _ (fun _ _=>rfl)) (hres _ _ _),hvars _ (fun _ _=>rfl),rfl,?_,?_⟩,?_⟩
  ·intro b off hp
   have hin:MemPlace.cell b off∈before:=by rw[hps];simpa using hp
   rw[hb.frozen (hlt _ hin)]
   exact hz b off hin
  ·intro ha
   have:=hn ha
   rw[hps]at this
   simpa using this
  ·intro p hp _
   rw[hps]
   simpa using hp
theorem open_i64 {W:World}{sp:Nat→Bool}{held:Bool}{r:Reach}{b0:Nat}{t:TypeId}{v:Value}{d:DataW H}{ps:List MemPlace}(ht:P.underlying t=some (.int .i64))(hval:Value.okWide P W r b0 t v)(hd:DataW.Trod enc P W 0 sp held t v d ps) :
  ∃ n,v=.int .i64 n∧d=.lit (.int .i64 n)∧ps=[]∧I64 n:=by
 obtain⟨n,h1,h2,h3,h4⟩:=open_int ht hval hd
 exact⟨n,h1,h2,h3,bounds_i64 h4⟩
/-! ### A slice of integers -/
theorem spot_none {W:World}{a:Addr}{v:Value}(h:W.cell? a=some v):a.spot=none:=World.cell?_spot h
/-! ### A pair of integers -/
end
structure VoteP where
 car:Int
 num:Int
 stp:Int
 val:ByteArray
 sl:ByteArray
deriving DecidableEq
def grp (fuel:Nat)(z:Nat):List UInt8:=match fuel with
 | 0=>[UInt8.ofNat z]
 | f+1=>if z < 128 then[UInt8.ofNat z]else UInt8.ofNat (z % 128+128)::grp f (z / 128)
def putN (n:Int):List UInt8:=grp 3 (2*n.toNat)
/-! ### Who votes for a value in a slot -/
/-! ### The order -/
def ltV (a b:VoteP):Prop :=
 a.car < b.car∨(a.car=b.car∧(a.num < b.num∨(a.num=b.num∧(a.stp < b.stp∨(a.stp=b.stp∧(a.val.toList < b.val.toList∨(a.val.toList=b.val.toList∧a.sl.toList < b.sl.toList)))))))
/-! ### Doubles -/
instance (a b:VoteP):Decidable (ltV a b):=by unfold ltV;infer_instance
/-! ### Votes -/
/-! ### Values -/
def unzig (z:Nat):Int:=if z % 2=0 then((z / 2:Nat):Int)else -((z / 2:Nat):Int) - 1
def intL:Nat→Nat→Nat→List UInt8→Option (Int × Nat)
 | 0,_,_,_=>none
 | _+1,_,_,[]=>none
 | f+1,i,z,b::l=>if 128≤b.toNat then intL f (i+1) (z+b.toNat % 128*128 ^ i) l
  else if(b.toNat=0∧0 < i)∨unzig (z+b.toNat % 128*128 ^ i) < -4611686018427387903 then none else some (unzig (z+b.toNat % 128*128 ^ i),i+1)
theorem grp_fuel:∀(f g m:Nat),m < 128 ^ (f+1)→f≤g→grp g m=grp f m:=by
 intro f
 induction f with
 | zero =>
  intro g m hm _
  cases g with
  | zero=>rfl
  | succ g =>
   unfold grp
   rw[if_pos (by omega)]
 | succ f ih =>
  intro g m hm hg
  cases g with
  | zero=>omega
  | succ g =>
   unfold grp
   split
   ·rfl
   ·rw[ih g (m / 128) (by rw[Nat.div_lt_iff_lt_mul (by omega),← Nat.pow_succ];exact hm) (by omega)]
theorem u8_nat {n:Nat}(h:n < 256):(UInt8.ofNat n).toNat=n:=by
 rw[UInt8.toNat_ofNat']
 omega
theorem intL_grp:∀(f g i z m:Nat) (rest:List UInt8),m < 128 ^ (f+1)→f < g→(0 < i→0 < m)→¬ unzig (z+m*128 ^ i) < -4611686018427387903→intL g i z (grp f m++rest)=some (unzig (z+m*128 ^ i),i+(grp f m).length):=by
 intro f
 induction f with
 | zero =>
  intro g i z m rest hm hg hi hn
  cases g with
  | zero=>omega
  | succ g =>
   have hm':m < 128:=by simpa using hm
   have e:(UInt8.ofNat m).toNat=m:=u8_nat (by omega)
   unfold grp
   rw[List.cons_append,List.nil_append,intL,e,if_neg (by omega),Nat.mod_eq_of_lt hm',if_neg]
   ·rfl
   ·rintro(⟨h1,h2⟩ | h)
    ·have:=hi h2
     omega
    ·exact hn h
 | succ f ih =>
  intro g i z m rest hm hg hi hn
  cases g with
  | zero=>omega
  | succ g =>
   by_cases h:m < 128
   ·have e:(UInt8.ofNat m).toNat=m:=u8_nat (by omega)
    unfold grp
    rw[if_pos h,List.cons_append,List.nil_append,intL,e,if_neg (by omega),Nat.mod_eq_of_lt h,if_neg]
    ·rfl
    ·rintro(⟨h1,h2⟩ | h')
     ·have:=hi h2
      omega
     ·exact hn h'
   ·have e:(UInt8.ofNat (m % 128+128)).toNat=m % 128+128:=u8_nat (by omega)
    have e2:(m % 128+128) % 128=m % 128:=by omega
    have hz:z+m % 128*128 ^ i+m / 128*128 ^ (i+1)=z+m*128 ^ i:=by
     have h1:=Nat.mod_add_div m 128
     have h2:m*128 ^ i=m % 128*128 ^ i+m / 128*128 ^ (i+1):=by
      calc m*128 ^ i=(m % 128+128*(m / 128))*128 ^ i:=by rw[h1]
       _=m % 128*128 ^ i+m / 128*128 ^ (i+1):=by rw[Nat.add_mul,Nat.pow_succ,Nat.mul_comm 128 (m / 128),Nat.mul_assoc,Nat.mul_comm 128 (128 ^ i)]
     omega
    have hd:0 < m / 128:=Nat.div_pos (by omega) (by omega)
    have step:=ih g (i+1) (z+m % 128*128 ^ i) (m / 128) rest (by rw[Nat.div_lt_iff_lt_mul (by omega),← Nat.pow_succ];exact hm) (by omega) (fun _=>hd) (by rw[hz];exact hn)
    rw[hz]at step
    unfold grp
    rw[if_neg h,List.cons_append,intL,e,if_pos (by omega),e2,step,List.length_cons]
    congr 2
    omega
theorem unzig_even (n:Nat):unzig (2*n)=n:=by
 unfold unzig
 rw[if_pos (by omega)]
 congr 1
 omega
theorem int_put {n:Int}(h:0≤n∧n≤99999999)(rest:List UInt8):intL 9 0 0 (putN n++rest)=some (n,(putN n).length):=by
 unfold putN
 have e:unzig (0+2*n.toNat*128 ^ 0)=n:=by
  rw[Nat.zero_add,Nat.pow_zero,Nat.mul_one,unzig_even]
  omega
 have:=intL_grp 3 9 0 0 (2*n.toNat) rest (by omega) (by omega) (by omega) (by rw[e];omega)
 rw[e,Nat.zero_add]at this
 exact this
def bytesOf (l:List UInt8):ByteArray:=⟨l.toArray⟩
theorem list_bytesOf (l:List UInt8):(bytesOf l).data.toList=l:=by
 unfold bytesOf
 simp
theorem bytesOf_size (l:List UInt8):(bytesOf l).size=l.length:=by
 unfold bytesOf
 show(List.toArray l).size=_
 simp
def collS (a b:List ByteArray):Bool:=a.any fun x=>b.any fun y=>decide (x≠y) && decide (sumS x=sumS y)
theorem coll_of {a b:List ByteArray}{x y:ByteArray}(hx:x∈a)(hy:y∈b)(h1:x≠y)(h2:sumS x=sumS y):collS a b=true:=by
 unfold collS
 rw[List.any_eq_true]
 refine⟨x,hx,?_⟩
 rw[List.any_eq_true]
 exact⟨y,hy,by rw[decide_eq_true h1,decide_eq_true h2];rfl⟩
theorem coll_parts {a b:List ByteArray}(h:collS a b=true):∃ x∈a,∃ y∈b,x≠y∧sumS x=sumS y:=by
 unfold collS at h
 rw[List.any_eq_true]at h
 obtain⟨x,hx,h⟩:=h
 rw[List.any_eq_true]at h
 obtain⟨y,hy,h⟩:=h
 rw[Bool.and_eq_true]at h
 exact⟨x,hx,y,hy,of_decide_eq_true h.1,of_decide_eq_true h.2⟩
/-! ### Indices that a checked part shows -/
/-! ### Parts of one register -/
def idxItem (xs:List ByteArray)(n:Nat)(i:Nat):ItemP:={ idx:=i,ent:=xs.getD i ⟨#[]⟩,prf:=proofB (xs.take n) i }
def partS (key:ByteArray)(car:Int)(xs:List ByteArray)(n:Nat)(is:List Nat):PartP:={ head:=headS key car xs n,items:=is.map (idxItem xs n) }
theorem items_asc (xs:List ByteArray)(n:Nat):∀(is:List Nat) (prev:Option Int),is.Pairwise (· < ·)→(∀ i∈is,i < n)→(∀ j,prev=some j→∀ i∈is,j < (i:Int)) →
  itemsB xs n (is.map fun i:Nat=>(i:Int)) prev=some (is.map (idxItem xs n)):=by
 intro is
 induction is with
 | nil=>intro prev _ _ _;rfl
 | cons i is ih =>
  intro prev hp hn hj
  rw[List.pairwise_cons]at hp
  rw[List.map_cons]
  rw[itemsB,if_pos ⟨by omega,by have:=hn i (by simp);omega,fun j e=>hj j e i (by simp)⟩,ih (some (i:Int)) hp.2 (fun k hk=>hn k (by simp[hk])) (fun j e k hk=>by cases e;have:=hp.1 k hk;omega)]
  rfl
theorem show_asc {key:ByteArray}{car:Int}{xs:List ByteArray}{n:Nat}{is:List Nat}(hk:key.size=32)(hv:validB ⟨car,xs⟩=true)(hn:n≤xs.length)(hp:is.Pairwise (· < ·))(hi:∀ i∈is,i < n) :
  showB key ⟨car,xs⟩ n (is.map fun i:Nat=>(i:Int))=some (partS key car xs n is):=by
 unfold showB signB
 rw[if_pos ⟨hk,hv,by omega,by show(n:Int)≤(xs.length:Int);omega⟩]
 show(itemsB xs ((n:Int)).toNat _ none).map _=_
 rw[Int.toNat_natCast,items_asc xs n is none hp hi (fun j e=>by cases e)]
 rfl
theorem part_check {key:ByteArray}{car:Int}{xs:List ByteArray}{n:Nat}{is:List Nat}(hk:key.size=32)(hv:validB ⟨car,xs⟩=true)(hn:n≤xs.length)(hp:is.Pairwise (· < ·))(hi:∀ i∈is,i < n):checkB key (partS key car xs n is)=true :=
 show_check (show_asc hk hv hn hp hi)
def pickI (c n:Int):Int:=(if c < 0 then -(c+1)else c) % n
theorem pickI_range (c:Int){n:Int}(h:0 < n):0≤pickI c n∧pickI c n < n:=by
 unfold pickI
 exact⟨Int.emod_nonneg _ (by omega),Int.emod_lt_of_pos _ h⟩
def keyS (c:Int):ByteArray:=⟨(List.replicate 32 (UInt8.ofNat ((100+c).toNat % 256))).toArray⟩
theorem keyS_size (c:Int):(keyS c).size=32:=by
 show(List.replicate 32 _).toArray.size=32
 simp
structure WishP where
 sg:Int
 ho:Int
 rf:Int
 rt:Int
 ca:Int
 se:Int
 sf:Int
 st:Int
 sl:ByteArray
deriving DecidableEq
structure ProxP where
 fr:Int
 tu:Int
 rf:Int
 rt:Int
 sf:Int
 st:Int
 sl:ByteArray
deriving DecidableEq
def putsN (l:List Int):List UInt8:=l.flatMap putN
def wishI (w:WishP):List Int:=[1,w.sg,w.ho,w.rf,w.rt,w.ca,w.se,w.sf,w.st]
def proxI (p:ProxP):List Int:=[2,p.fr,p.tu,p.rf,p.rt,p.sf,p.st]
def wishC (w:WishP):ByteArray:=bytesOf (putsN (wishI w))
def proxC (p:ProxP):ByteArray:=bytesOf (putsN (proxI p))
def formedW (w:WishP):Bool:=decide ((0≤w.sg∧w.sg≤63)∧(0≤w.ho∧w.ho≤63)∧(0≤w.rf∧w.rf < w.rt∧w.rt≤100000000)∧(0≤w.ca∧w.ca≤7)∧(0≤w.se∧w.se≤1000000)∧(0≤w.sf∧w.sf < w.st∧w.st≤10000001))
def formedP (p:ProxP):Bool:=decide ((0≤p.fr∧p.fr≤63)∧(0≤p.tu∧p.tu≤63)∧p.fr≠p.tu∧(0≤p.rf∧p.rf < p.rt∧p.rt≤100000000)∧(0≤p.sf∧p.sf < p.st∧p.st≤10000001))
def keyW (h:Int):ByteArray:=⟨(List.replicate 32 (UInt8.ofNat (h.toNat % 256))).toArray⟩
theorem keyW_size (h:Int):(keyW h).size=32:=by
 unfold keyW ByteArray.size
 simp
def sealK (key c:ByteArray):ByteArray:=nodeS key (leafS c)
/-! ### Made -/
structure ScP where
 who:Int
 rf:Int
 rt:Int
 sf:Int
 st:Int
abbrev Y5:=Int × Int × Int × Int × Int
def narF (f t l:Int):Int:=f+pickI l (t - f)
def narT (f t l r:Int):Int:=t - pickI r (t - narF f t l)
def toS (who y:Int):Int:=(who+1+pickI y 9) % 10
def nextS (s:ScP)(y:Y5):ScP:={ who:=toS s.who y.1,rf:=narF s.rf s.rt y.2.1,rt:=narT s.rf s.rt y.2.1 y.2.2.1,sf:=narF s.sf s.st y.2.2.2.1,st:=narT s.sf s.st y.2.2.2.1 y.2.2.2.2 }
def rawP (s:ScP)(y:Y5):ProxP:={ fr:=s.who,tu:=toS s.who y.1,rf:=s.rf,rt:=s.rt,sf:=s.sf,st:=s.st,sl:=⟨#[]⟩ }
def proxyS (s:ScP)(y:Y5):ProxP:={ rawP s y with sl:=sealK (keyW s.who) (proxC (rawP s y)) }
def stS (ys:List Y5)(s:ScP):ScP:=ys.foldl nextS s
def chS:List Y5→ScP→List ProxP
 | [],_=>[]
 | y::ys,s=>proxyS s y::chS ys (nextS s y)
theorem stS_snoc (ys:List Y5)(y:Y5)(s:ScP):stS (ys++[y]) s=nextS (stS ys s) y:=by
 unfold stS
 rw[List.foldl_append]
 rfl
theorem chS_snoc:∀(ys:List Y5) (y:Y5) (s:ScP),chS (ys++[y]) s=chS ys s++[proxyS (stS ys s) y]
 | [],_,_=>rfl
 | z::zs,y,s=>by
  have h:=chS_snoc zs y (nextS s z)
  show proxyS s z::chS (zs++[y]) (nextS s z)=proxyS s z::(chS zs (nextS s z)++[proxyS (stS (z::zs) s) y])
  rw[h]
  rfl
theorem chS_len:∀(ys:List Y5) (s:ScP),(chS ys s).length=ys.length
 | [],_=>rfl
 | _::ys,s=>by
  show(chS ys _).length+1=ys.length+1
  rw[chS_len ys]
def ScOk (s:ScP):Prop:=(0≤s.who∧s.who < 10)∧(0≤s.rf∧s.rf < s.rt∧s.rt≤11000)∧(0≤s.sf∧s.sf < s.st∧s.st≤11000)
theorem nar_ok {f t:Int}(h:f < t)(l r:Int):f≤narF f t l∧narF f t l < narT f t l r∧narT f t l r≤t:=by
 have h1:=pickI_range l (show(0:Int) < t - f by omega)
 have e1:narF f t l=f+pickI l (t - f):=rfl
 have h2:=pickI_range r (show(0:Int) < t - narF f t l by omega)
 have e2:narT f t l r=t - pickI r (t - narF f t l):=rfl
 omega
theorem toS_range (who y:Int):0≤toS who y∧toS who y < 10:=by
 unfold toS
 omega
theorem toS_ne (who y:Int):who≠toS who y:=by
 have h1:=pickI_range y (show(0:Int) < 9 by omega)
 unfold toS
 omega
theorem next_ok {s:ScP}(h:ScOk s)(y:Y5):ScOk (nextS s y):=by
 obtain⟨_,h2,h3⟩:=h
 have a:=nar_ok h2.2.1 y.2.1 y.2.2.1
 have b:=nar_ok h3.2.1 y.2.2.2.1 y.2.2.2.2
 refine⟨toS_range _ _,?_,?_⟩
 ·show 0≤narF s.rf s.rt y.2.1∧narF s.rf s.rt y.2.1 < narT s.rf s.rt y.2.1 y.2.2.1∧narT s.rf s.rt y.2.1 y.2.2.1≤11000
  omega
 ·show 0≤narF s.sf s.st y.2.2.2.1∧narF s.sf s.st y.2.2.2.1 < narT s.sf s.st y.2.2.2.1 y.2.2.2.2∧narT s.sf s.st y.2.2.2.1 y.2.2.2.2≤11000
  omega
theorem st_ok:∀(ys:List Y5) {s:ScP},ScOk s→ScOk (stS ys s)
 | [],_,h=>h
 | y::ys,_,h=>st_ok ys (next_ok h y)
theorem prox_formed {s:ScP}(h:ScOk s)(y:Y5)(sl:ByteArray):formedP { rawP s y with sl:=sl }=true:=by
 have h1:=toS_range s.who y.1
 have h2:=toS_ne s.who y.1
 obtain⟨a,b,c⟩:=h
 unfold formedP
 refine decide_eq_true ?_
 show(0≤s.who∧s.who≤63)∧(0≤toS s.who y.1∧toS s.who y.1≤63)∧s.who≠toS s.who y.1∧(0≤s.rf∧s.rf < s.rt∧s.rt≤100000000)∧(0≤s.sf∧s.sf < s.st∧s.st≤10000001)
 omega
/-! ### A chain that is right -/
def whoAt (ho:Int)(l:List ProxP)(k:Nat):Int:=match k with
 | 0=>ho
 | k+1=>(l[k]?.map ProxP.tu).getD 0
def inP (rf rt sf st:Int)(p:ProxP):Prop:=p.rf≤rf∧rt≤p.rt∧p.sf≤sf∧st≤p.st
structure ChOk (ho:Int) (l:List ProxP) (s:ScP):Prop where
 len:l.length≤4
 formed:∀ p∈l,formedP p=true
 size:∀ p∈l,p.sl.size=32
 bound:∀ p∈l,(0≤p.fr∧p.fr < 10)∧p.rt≤11000∧p.st≤11000
 person:∀(k:Nat) p,l[k]?=some p→p.fr=whoAt ho l k
 last:s.who=whoAt ho l l.length
 scope:∀(k:Nat) p q,l[k]?=some p→l[k+1]?=some q→inP q.rf q.rt q.sf q.st p
 inner:∀ p,l[l.length - 1]?=some p→inP s.rf s.rt s.sf s.st p
 sld:∀ p∈l,p.sl=sealK (keyW p.fr) (proxC p)
theorem whoAt_app (ho:Int)(l m:List ProxP)(k:Nat)(h:k≤l.length):whoAt ho (l++m) k=whoAt ho l k:=by
 cases k with
 | zero=>rfl
 | succ k =>
  show((l++m)[k]?.map ProxP.tu).getD 0=(l[k]?.map ProxP.tu).getD 0
  rw[List.getElem?_append_left (by omega)]
theorem ch_next {ho:Int}{l:List ProxP}{s:ScP}(h:ChOk ho l s)(hs:ScOk s)(hl:l.length < 4)(y:Y5):ChOk ho (l++[proxyS s y]) (nextS s y):=by
 have hn:=next_ok hs y
 have a:=nar_ok hs.2.1.2.1 y.2.1 y.2.2.1
 have b:=nar_ok hs.2.2.2.1 y.2.2.2.1 y.2.2.2.2
 have hgl:(l++[proxyS s y])[l.length]?=some (proxyS s y):=by rw[List.getElem?_append_right (Nat.le_refl _),Nat.sub_self];rfl
 have hmem:∀ {P:ProxP→Prop},(∀ p∈l,P p)→P (proxyS s y)→∀ p∈l++[proxyS s y],P p:=fun h1 h2 p hp=>by
  rcases List.mem_append.1 hp with h' | h'
  ·exact h1 p h'
  ·rw[List.mem_singleton.1 h']
   exact h2
 have hget:∀(k:Nat) p,(l++[proxyS s y])[k]?=some p→(k < l.length∧l[k]?=some p)∨(k=l.length∧p=proxyS s y):=fun k p hk=>by
  rcases Nat.lt_or_ge k l.length with h' | h'
  ·rw[List.getElem?_append_left h']at hk
   exact .inl ⟨h',hk⟩
  ·have hk2:=(List.getElem?_eq_some_iff.1 hk).1
   rw[List.length_append,List.length_singleton]at hk2
   have e:k=l.length:=by omega
   subst e
   rw[hgl]at hk
   exact .inr ⟨rfl,(Option.some.inj hk).symm⟩
 refine⟨by rw[List.length_append,List.length_singleton];omega,hmem h.formed (prox_formed hs y _),hmem h.size rfl,hmem h.bound ⟨hs.1,hs.2.1.2.2,hs.2.2.2.2⟩,?_,?_,?_,?_,hmem h.sld rfl⟩
 ·intro k p hk
  rcases hget k p hk with⟨h1,h2⟩ | ⟨h1,h2⟩
  ·rw[whoAt_app _ _ _ _ (by omega)]
   exact h.person k p h2
  ·rw[h1,h2,whoAt_app _ _ _ _ (Nat.le_refl _)]
   exact h.last
 ·rw[List.length_append,List.length_singleton]
  show toS s.who y.1=((l++[proxyS s y])[l.length]?.map ProxP.tu).getD 0
  rw[hgl]
  rfl
 ·intro k p q hp hq
  rcases hget (k+1) q hq with⟨h1,h2⟩ | ⟨h1,h2⟩
  ·rcases hget k p hp with⟨h3,h4⟩ | ⟨h3,h4⟩
   ·exact h.scope k p q h4 h2
   ·omega
  ·rcases hget k p hp with⟨h3,h4⟩ | ⟨h3,h4⟩
   ·rw[h2]
    exact h.inner p (by rw[show l.length - 1=k by omega];exact h4)
   ·omega
 ·intro p hp
  rw[List.length_append,List.length_singleton,Nat.add_sub_cancel,hgl]at hp
  obtain rfl:=Option.some.inj hp
  show s.rf≤narF s.rf s.rt y.2.1∧narT s.rf s.rt y.2.1 y.2.2.1≤s.rt∧s.sf≤narF s.sf s.st y.2.2.2.1∧narT s.sf s.st y.2.2.2.1 y.2.2.2.2≤s.st
  omega
theorem ch_nil {s:ScP}:ChOk s.who [] s where
 len:=by decide
 formed:=fun _ h=>absurd h List.not_mem_nil
 size:=fun _ h=>absurd h List.not_mem_nil
 bound:=fun _ h=>absurd h List.not_mem_nil
 person:=fun _ _ h=>by cases h
 last:=rfl
 scope:=fun _ _ _ h=>by cases h
 inner:=fun _ h=>by cases h
 sld:=fun _ h=>absurd h List.not_mem_nil
theorem ch_ok:∀(zs ys:List Y5) {s:ScP},ScOk s→(zs++ys).length≤4→ChOk s.who (chS zs s) (stS zs s)→ChOk s.who (chS (zs++ys) s) (stS (zs++ys) s)
 | zs,[],s,_,_,h=>by rw[List.append_nil];exact h
 | zs,y::ys,s,hs,hl,h=>by
  have e:zs++y::ys=(zs++[y])++ys:=by rw[List.append_assoc];rfl
  rw[e]at hl ⊢
  refine ch_ok (zs++[y]) ys hs hl ?_
  rw[chS_snoc,stS_snoc]
  refine ch_next h (st_ok zs hs) ?_ y
  rw[chS_len]
  simp only[List.length_append,List.length_singleton]at hl
  omega
theorem made_ok (ys:List Y5){s:ScP}(hs:ScOk s):ChOk s.who (chS (ys.take 4) s) (stS (ys.take 4) s) :=
 ch_ok [] (ys.take 4) hs (by rw[List.nil_append,List.length_take];omega) ch_nil
end Go.Proofs.YtjjiikeldpjafaaGreatDoor
