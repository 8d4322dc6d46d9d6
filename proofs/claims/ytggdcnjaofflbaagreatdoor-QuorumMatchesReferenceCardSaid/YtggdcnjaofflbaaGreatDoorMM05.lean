/- A range over a function whose round begins by making memory (a variable of the round's). -/
import Derived.Test.YtggdcnjaofflbaaGreatDoorMM04
import Derived.Lib.Builder
import Derived.Lib.UnsafeStr
import Derived.Lib.AppendStr
import Derived.Laws.Externs
import Derived.Deep.AppendLies
import Derived.Deep.RegionLaw
import Derived.ProofKit
import Derived.OpenShut
import Derived.ChangeBears
import Derived.ReadAgain
import Derived.Deep.DeepHandedRow
import Derived.Lib.LaidTab
namespace Go.Proofs.YtggdcnjaofflbaaGreatDoor
open Go.RowKit
section
variable {P:Program} {α:Type}
theorem wpIn_rangeA {F:Fence}{n:Nat}{g:Operand}{ps:Array Tmp}{assign body:Code}{Q:Exit→Act→World→Prop}{a:Act}{w:World}
  (hF:Wide F) (hro:F.round=none) {gf:Nat} {lb:Array Value} (hg:a.eval g=.func (.func gf) #[] lb) (eg:∀ args w,(callFunc gf args).run P w=.ok (.enter gf args) w)
  {encs:α→Array Value} {Kp:World→World→Prop} {row:Option Nat} {S Sp:List α→Prop} {N:Nat} {w0:World} (hseq:Iter P gf lb encs Kp row S Sp N w0)
  (hb0:Below w0.heap.size w0 w) (hps:∀ x,(encs x).size=ps.size) (hrow:∀ k,row=some k→k < w.heap.size)
  (hKt:∀ {A B C:World},Kp A B→Kp B C→Kp A C) (hKb:∀(W:World) (l:Nat) (o o':Obj),w.heap.size≤l→W.heap[l]?=some o→o.isCells=false→o.isWalk=false→Kp W (W.putObj l o'))
  (I:List α→World→Prop) (Ix:Code→List α→World→Prop) (hI:Abide row w.heap.size I) (hIx:∀ c,Abide row w.heap.size (Ix c)) (h0:I [] w) (A1:Act→α→Act→World→Prop) (hA1:∀ x a' W l o o',A1 a x a' W→w.heap.size≤l→W.heap[l]?=some o→o.isCells=false→A1 a x a' (W.putObj l o'))
  (hKg:∀ A C:World,w.heap.size≤A.heap.size→A.grownBy C none→Kp A C)
  (hassign:∀(l:Nat) (pre:List α) (x:α) (W:World) (K:Act→World→Prop),I pre W→(∀ a' W',A1 a x a' W'→W.grownBy W' none→K a' W') →
   assign.wpIn (F.inRound l) (n - 1 - 1) P (Exit.then K (fun _ _ _=>False)) { tmps:=(ps.zip (encs x)).foldl (fun t (p,v)=>t.setIfInBounds p v) a.tmps,defers:=[] } W)
  (hbody:∀(l:Nat) (pre:List α) (x:α) (a':Act) (W:World),I pre W→pre.length < N→A1 a x a' W→body.wpIn (F.inRound l) (n - 1 - 1) P (ownPostG w.heap.size Kp I Ix (pre++[x]) W) a' W)
  (hdone:∀(D:Nat) (xs:List α) (W:World),w.heap.size≤D→S xs→I xs W→W.heap[D]?=some (.deferred (some []))→Q .normal { a with defers:={ target:=.collected D,args:=#[] }::a.defers } W)
  (hstop:∀(D:Nat) (c:Code) (pre:List α) (W:World),w.heap.size≤D→Sp pre→Ix c pre W→W.heap[D]?=some (.deferred (some []))→c.wpIn F n P Q { a with defers:={ target:=.collected D,args:=#[] }::a.defers } W) :
  (Code.rangeFunc g ps assign body).wpIn F n P Q a w:=by
 refine wpIn_rangeFunc ?_
 intro fn hfn
 rw[hro]
 obtain⟨rec,hrec⟩:∃ rec:LoopState→Option Code→Loop,rec=recOf fn a ps assign body w.heap.size:=⟨_,rfl⟩
 have hparams:∀ st pe,(rec st pe).params=ps:=by intro st pe;rw[hrec];rfl
 obtain⟨W1,hW1⟩:∃ W1,(w.alloc (.deferred (some []))).alloc (.loop (rec .ready none))=W1:=⟨_,rfl⟩
 have hsz:W1.heap.size=w.heap.size+2:=by rw[← hW1];simp
 have hB1:Book w (rec .ready none) W1:=by
  rw[← hW1]
  exact⟨heap_alloc2_new w _ _,heap_alloc2_old w _ _⟩
 have hI1:I [] W1:=by
  rw[← hW1]
  exact hI.2 _ _ _ none (hI.2 _ _ _ none h0 (World.grownBy_alloc w _ none) (.inl rfl)) (World.grownBy_alloc _ _ none) (.inl rfl)
 have hb1:Below w0.heap.size w0 W1:=by
  rw[← hW1];exact hb0.trans ((((Below.refl _ w).alloc (Nat.le_refl _) _).alloc (by simp) _).mono hb0.size)
 -- a turn of the record is borne by all
 have put:∀ {Z:List α→World→Prop} (pre:List α) (W:World) (r r':Loop),Abide row w.heap.size Z→Z pre W→Book w r W→Z pre (W.putObj (w.heap.size+1) (.loop r')) :=
  fun pre W r r' hZ hz hb=>hZ.2 pre W _ (some (w.heap.size+1)) hz (grownBy_putObj' W _ _) (.inr ⟨_,_,rfl,by omega,hb.1,rfl⟩)
 refine⟨w.heap.size+1,[{ target:=.collected w.heap.size,args:=#[] }],W1,{ target:=.fn (.func gf) lb,args:=#[.func (.yield (w.heap.size+1)) #[] #[]] },W1,gf,
  #[.func (.yield (w.heap.size+1)) #[] #[]]++lb,W1,?_,?_,?_,?_,?_,?_⟩
 ·rw[← hW1,hrec];exact run_enterLoop_outer _ _ _ _ _
 ·simp only[resolve,hg]
  simp[go_sem]
 ·intro f' _;exact hF.1 f'
 ·simp[invoke,go_sem,eg]
 ·intro h;rw[hF.2.1]at h;cases h
 refine(hseq F (n - 1) hF hro (w.heap.size+1) (fun pre W=>I pre W∧Book w (rec .ready none) W) (fun pre W=>∃ c,Ix c pre W∧Book w (rec .done (some c)) W) W1 hb1
  (fun pre A B h hg'=>⟨hI.1 pre A B h.1 hg',h.2.grown hg'.1 hrow⟩)
  (fun pre A B h hg'=>let ⟨c,hc,hk⟩:=h;⟨c,(hIx c).1 pre A B hc hg',hk.grown hg'.1 hrow⟩) ?round ⟨hI1,hB1⟩).mono ?behind
 case round =>
  rintro pre x U ⟨hi,hk⟩ hlen
  have hy:=run_yield (P:=P) (args:=encs x) hk.1 (by rw[hparams];exact hps x)
  rw[hrec]at hy
  refine⟨fn,_,assign,body,hy,roundIn_of_wpIn hfn (hassign _ pre x U _ hi (fun a₁ W hA hga=>?_))⟩
  have hgr:U.grownBy W row:=⟨hga.os,hga.tape,hga.output,hga.size,fun i hi' _=>hga.block i hi' (by simp)⟩
  have hKa:Kp U W:=hKg U W (by have:=(ltA hk.1);omega) hga
  replace hi:I pre W:=hI.2 pre U W none hi hga (.inl rfl)
  replace hk:Book w (rec .ready none) W:=hk.grown hgr hrow
  refine⟨_,run_beginRound hk.1 (by rw[hrec];rfl),?_⟩
  have hbusy:=hk.put { rec .ready none with state:=.busy }
  have hKp1:Kp U (W.putObj (w.heap.size+1) (.loop { rec .ready none with state:=.busy })):=hKt hKa (hKb _ _ _ _ (by omega) hk.1 rfl rfl)
  refine wpIn_mono (hbody _ pre x _ _ (put pre W _ _ hI hi hk) hlen (hA1 _ _ _ _ _ _ hA (by omega) hk.1 rfl)) ?_
  -- what the round's end leaves
  have fin:∀(jump:Option Code) (W3:World),KeepsFrom w.heap.size (W.putObj (w.heap.size+1) (.loop { rec .ready none with state:=.busy })) W3 →
    (Instr.endRound (w.heap.size+1) jump).run P W3=.ok (.bool jump.isNone) (W3.putObj (w.heap.size+1) (.loop (rec (if jump.isNone then .ready else .done) jump)))∧Book w { rec .ready none with state:=.busy } W3:=fun jump W3 hk3=>by
   have hb3:=hbusy.keeps hk3
   refine⟨?_,hb3⟩
   have:=run_endRound (P:=P) jump hb3.1
   rw[hrec]at this ⊢
   exact this
  have leave:∀(c:Code) (W3:World),KeepsFrom w.heap.size (W.putObj (w.heap.size+1) (.loop { rec .ready none with state:=.busy })) W3∧Ix c (pre++[x]) W3 →
    ∃ v w',(Instr.endRound (w.heap.size+1) (some c)).run P W3=.ok v w'∧((Ending.returned v=.returned (.bool true)∧(I (pre++[x]) w'∧Book w (rec .ready none) w')∧Kp U w')∨(Ending.returned v=.returned (.bool false)∧∃ c,Ix c (pre++[x]) w'∧Book w (rec .done (some c)) w')):=fun c W3 hp=>by
   obtain⟨hk3,hi3⟩:=hp
   obtain⟨hr,hb3⟩:=fin (some c) W3 hk3
   exact⟨_,_,hr,.inr ⟨rfl,c,put _ W3 _ _ (hIx c) hi3 hb3,hb3.put _⟩⟩
  rintro e a3 W3 hp
  cases e with
  | normal =>
   obtain⟨hk3,hkp3,hi3⟩:=hp
   obtain⟨hr,hb3⟩:=fin none W3 hk3
   exact⟨_,_,hr,.inl ⟨rfl,⟨put _ W3 _ _ hI hi3 hb3,hb3.put _⟩,hKt (hKt hKp1 hkp3) (hKb _ _ _ _ (by omega) hb3.1 rfl rfl)⟩⟩
  | ret=>exact leave .ret W3 hp
  | exit id=>exact leave (.exit id) W3 hp
  | goto t=>exact leave (.goto t) W3 hp
  | panic ch=>exact hp.elim
  | outgrown=>exact hp.elim
 case behind =>
  rintro e W2 ⟨⟨v,rfl⟩,(⟨xs,hS,hi,hk⟩ | ⟨pre,hSp,c,hi,hk⟩)⟩
  ·refine⟨none,_,?_,hdone _ xs _ (Nat.le_refl _) hS (put _ W2 _ { rec .ready none with state:=.exhausted } hI hi hk) (hk.put _).2⟩
   have:=run_endLoop (P:=P) hk.1 (by rw[hrec];simp[recOf])
   rw[hrec]at this ⊢
   exact this
  ·refine⟨some c,_,?_,hstop _ c pre _ (Nat.le_refl _) hSp (put _ W2 _ { rec .done (some c)with state:=.exhausted } (hIx c) hi hk) (hk.put _).2⟩
   have:=run_endLoop (P:=P) hk.1 (by rw[hrec];simp[recOf])
   rw[hrec]at this ⊢
   exact this
end
end Go.Proofs.YtggdcnjaofflbaaGreatDoor
/- Owned slices of sides; the walk of digest.Verify. The conditions: what the slice reads as, lengths, the table of constants. -/
namespace Go.Proofs.YtggdcnjaofflbaaGreatDoor
open Go.RowKit Go.BigFrame Go.Shelf
attribute [local go_sem] Oper.semAt_some
def xcells (l:List (ByteArray × Bool)):List (List Value):=l.map fun s=>[.string s.1,.bool s.2]
def OwnX (w:World)(base:Nat)(v:Value)(xs:List (ByteArray × Bool)):Prop:=OwnE w base 166 2 v (xcells xs)
section
variable {ops:Array Oper} {rest:List Oper} {o:Oper} {a:Act} {w:World} {Q:Exit→Act→World→Prop}
end
theorem xcells_at (xs:List (ByteArray × Bool)):∀(k:Nat) (s:ByteArray × Bool),xs[k]?=some s→(xcells xs).flatten[k*2]?=some (.string s.1)∧(xcells xs).flatten[k*2+1]?=some (.bool s.2):=by
 unfold xcells
 induction xs with
 | nil=>intro k s h;simp at h
 | cons x xs ih =>
  intro k s h
  cases k with
  | zero =>
   simp at h
   subst h
   exact⟨rfl,rfl⟩
  | succ k =>
   have h1:=ih k s (by simpa using h)
   rw[List.map_cons,List.flatten_cons,show(k+1)*2=k*2+2 by omega]
   exact h1
theorem OwnX.form {w:World}{base:Nat}{v:Value}{xs:List (ByteArray × Bool)}(h:OwnX w base v xs):∃ a cap,v=.slice a xs.length cap:=by
 obtain⟨a,cap,h1⟩:=OwnE.form h
 unfold xcells at h1
 rw[List.length_map]at h1
 exact⟨a,cap,h1⟩
theorem OwnX.block {w:World}{base:Nat}{a:Option Addr}{n cap:Nat}{xs:List (ByteArray × Bool)}(h:OwnX w base (.slice a n cap) xs)(h0:0 < w.heap.size):xs.length=n∧n≤cap∧cap≤maxLen∧∃(g:Nat) (o:Obj),w.heap[g]?=some o ∧
  ∀ W:World,W.heap[g]?=some o→∀ k s,xs[k]?=some s→∃ b off,a=some ⟨b,off,none⟩∧W.cell? ⟨b,off+k*2,none⟩=some (.string s.1)∧W.cell? ⟨b,off+k*2+1,none⟩=some (.bool s.2):=by
 rcases h.2 with⟨hv,hl⟩ | ⟨g,cap',cur,hv,hb,hg,hnc,hcm,hcs,htake⟩
 ·injection hv with e1 e2 e3
  subst e1 e2 e3
  unfold xcells at hl
  rw[List.length_map]at hl
  obtain rfl:=List.eq_nil_of_length_eq_zero hl
  exact⟨rfl,Nat.le_refl _,by decide,0,_,Array.getElem?_eq_getElem h0,fun W _ k s hk=>by simp at hk⟩
 ·injection hv with e1 e2 e3
  subst e1 e3
  have hl:xs.length=n:=by rw[e2];unfold xcells;rw[List.length_map]
  refine⟨hl,by omega,hcm,g,_,hg,fun W hW k s hk=>⟨g,0,rfl,?_⟩⟩
  obtain⟨h1,h2⟩:=xcells_at xs k s hk
  rw[Nat.zero_add,cell_of_row W g _ _ _ _ hW,cell_of_row W g _ _ _ _ hW]
  rw[← htake,List.getElem?_take]at h1 h2
  split at h1
  ·split at h2
   ·exact⟨by simpa using h1,by simpa using h2⟩
   ·cases h2
  ·cases h1
theorem same_str (a b:ByteArray):(a.toList == b.toList)=decide (a=b):=by
 rw[Bool.eq_iff_iff,beq_iff_eq,decide_eq_true_iff,ByteArray.toList_eq,ByteArray.toList_eq]
 constructor
 ·intro h
  exact ByteArray.ext (Array.ext' h)
 ·rintro rfl;rfl
def verB (root:ByteArray)(n i:Nat)(s:ByteArray)(pr:List ByteArray):Bool:=decide (valueL leafS nodeS s pr.reverse n i=some root)
def WayI (s:ByteArray)(pr:List ByteArray)(n i:Nat)(ws:List (ByteArray × Bool))(ps:List ByteArray)(n' i':Nat):Prop :=
 valueL leafS nodeS s pr.reverse n i=(valueL leafS nodeS s ps.reverse n' i').map fun v=>ws.foldr sideS v
theorem WayI.start (s:ByteArray)(pr:List ByteArray)(n i:Nat):WayI s pr n i [] pr n i:=by
 unfold WayI
 cases valueL leafS nodeS s pr.reverse n i <;> rfl
theorem WayI.step {s:ByteArray}{pr:List ByteArray}{n i:Nat}{ws:List (ByteArray × Bool)}{ps:List ByteArray}{x:ByteArray}{n' i':Nat}(h:WayI s pr n i ws (ps++[x]) n' i')(hn:1 < n') :
  (leftN n'≤i'→WayI s pr n i (ws++[(x,true)]) ps (n' - leftN n') (i' - leftN n'))∧(i' < leftN n'→WayI s pr n i (ws++[(x,false)]) ps (leftN n') i'):=by
 unfold WayI at *
 rw[List.reverse_append,List.reverse_singleton,List.singleton_append,valueL,if_neg (by omega)]at h
 refine⟨fun h1=>?_,fun h1=>?_⟩
 ·rw[if_neg (by omega)]at h
  rw[h,Option.map_map]
  congr 1
  funext v
  simp[sideS]
 ·rw[if_pos h1]at h
  rw[h,Option.map_map]
  congr 1
  funext v
  simp[sideS]
theorem WayI.done {s:ByteArray}{pr:List ByteArray}{n i:Nat}{ws:List (ByteArray × Bool)}{n' i':Nat}(h:WayI s pr n i ws [] n' i')(hn:n'≤1)(root:ByteArray):verB root n i s pr=decide (ws.foldr sideS (leafS s)=root):=by
 unfold WayI at h
 rw[List.reverse_nil,valueL,if_pos hn]at h
 unfold verB
 rw[h]
 simp
end Go.Proofs.YtggdcnjaofflbaaGreatDoor
/- The walk of digest.Verify. The conditions: what the slice reads as, lengths, the table of constants. -/
namespace Go.Proofs.YtggdcnjaofflbaaGreatDoor
open Go.RowKit Go.BigFrame Go.Shelf
attribute [local go_sem] Oper.semAt_some
end Go.Proofs.YtggdcnjaofflbaaGreatDoor
/- digest.VerifyExtension: the plain side, and the walks of the short ways. -/
namespace Go.Proofs.YtggdcnjaofflbaaGreatDoor
open Go.RowKit Go.BigFrame Go.Shelf
attribute [local go_sem] Oper.semAt_some
def vexB (old:ByteArray)(m:Nat)(root:ByteArray)(n:Nat)(pr:List ByteArray):Bool :=
 if m=0 then decide (pr.length=0) && decide (old=sumS ⟨#[]⟩)else decide (bothL nodeS old pr.reverse m n true=some (old,root))
def firstsF (ws:List (ByteArray × Bool))(v:ByteArray):ByteArray:=ws.foldr (fun x v=>if x.2 then sideS x v else v) v
def WayE (old:ByteArray)(pr:List ByteArray)(m n:Nat)(ws:List (ByteArray × Bool))(ps:List ByteArray)(m' n':Nat)(wh:Bool):Prop :=
 bothL nodeS old pr.reverse m n true=(bothL nodeS old ps.reverse m' n' wh).map fun v=>(firstsF ws v.1,ws.foldr sideS v.2)
theorem WayE.start (old:ByteArray)(pr:List ByteArray)(m n:Nat):WayE old pr m n [] pr m n true:=by
 unfold WayE firstsF
 cases bothL nodeS old pr.reverse m n true <;> rfl
theorem WayE.step {old:ByteArray}{pr:List ByteArray}{m n:Nat}{ws:List (ByteArray × Bool)}{ps:List ByteArray}{x:ByteArray}{m' n':Nat}{wh:Bool}(h:WayE old pr m n ws (ps++[x]) m' n' wh)(hn:m' < n') :
  (leftN n' < m'→WayE old pr m n (ws++[(x,true)]) ps (m' - leftN n') (n' - leftN n') false)∧(m'≤leftN n'→WayE old pr m n (ws++[(x,false)]) ps m' (leftN n') wh):=by
 unfold WayE at *
 rw[List.reverse_append,List.reverse_singleton,List.singleton_append,bothL,if_neg (by omega)]at h
 refine⟨fun h1=>?_,fun h1=>?_⟩
 ·rw[if_neg (by omega)]at h
  rw[h,Option.map_map]
  congr 1
  funext v
  simp[sideS,firstsF]
 ·rw[if_pos h1]at h
  rw[h,Option.map_map]
  congr 1
  funext v
  simp[sideS,firstsF]
theorem vexB_pos {old:ByteArray}{m:Nat}{root:ByteArray}{n:Nat}{pr:List ByteArray}(hm:1≤m):vexB old m root n pr=decide (bothL nodeS old pr.reverse m n true=some (old,root)):=by
 unfold vexB;rw[if_neg (by omega)]
theorem WayE.whole {old:ByteArray}{pr:List ByteArray}{m n:Nat}{ws:List (ByteArray × Bool)}{ps:List ByteArray}{m' n':Nat}(h:WayE old pr m n ws ps m' n' true)(hn:n'≤m')(hm:1≤m)(root:ByteArray) :
  vexB old m root n pr=(decide (ps.length=0) && (decide (firstsF ws old=old) && decide (ws.foldr sideS old=root))):=by
 unfold WayE at h
 rcases List.eq_nil_or_concat ps with rfl | ⟨ps',x,rfl⟩
 ·rw[List.reverse_nil,bothL,if_pos ⟨hn,rfl⟩]at h
  rw[vexB_pos hm,h]
  simp
 ·rw[List.concat_eq_append,List.reverse_append,List.reverse_singleton,List.singleton_append,bothL,if_pos hn,if_pos rfl]at h
  rw[vexB_pos hm,h]
  simp
theorem WayE.part {old:ByteArray}{pr:List ByteArray}{m n:Nat}{ws:List (ByteArray × Bool)}{ps:List ByteArray}{m' n':Nat}(h:WayE old pr m n ws ps m' n' false)(hn:n'≤m')(hm:1≤m)(root:ByteArray) :
  (ps.length≠1→vexB old m root n pr=false)∧∀ x,ps=[x]→vexB old m root n pr=(decide (firstsF ws x=old) && decide (ws.foldr sideS x=root)):=by
 unfold WayE at h
 refine⟨fun h1=>?_,fun x hx=>?_⟩
 ·rcases List.eq_nil_or_concat ps with rfl | ⟨ps',x,rfl⟩
  ·rw[List.reverse_nil,bothL,if_neg (by simp)]at h
   rw[vexB_pos hm,h]
   simp
  ·rw[List.concat_eq_append]at h1 h
   rw[List.reverse_append,List.reverse_singleton,List.singleton_append,bothL,if_pos hn,if_neg (by simp),if_neg (by intro e;rw[List.reverse_eq_nil_iff]at e;subst e;exact h1 rfl)]at h
   rw[vexB_pos hm,h]
   simp
 ·subst hx
  rw[List.reverse_singleton,bothL,if_pos hn,if_neg (by simp),if_pos rfl]at h
  rw[vexB_pos hm,h]
  simp
end Go.Proofs.YtggdcnjaofflbaaGreatDoor
/- The walk of digest.VerifyExtension's long way. The conditions: what the slice reads as, lengths, the table of constants. (Printed by wip/gen_dg18.py.) -/
namespace Go.Proofs.YtggdcnjaofflbaaGreatDoor
open Go.RowKit Go.BigFrame Go.Shelf
attribute [local go_sem] Oper.semAt_some
end Go.Proofs.YtggdcnjaofflbaaGreatDoor
/- The walk of digest.Extension. The conditions: what the slice reads as, lengths, the table of constants. -/
namespace Go.Proofs.YtggdcnjaofflbaaGreatDoor
open Go.RowKit Go.BigFrame Go.Shelf
attribute [local go_sem] Oper.semAt_some
end Go.Proofs.YtggdcnjaofflbaaGreatDoor
/- What the functions of package register answer: plain functions, and what they say of each other. No condition. -/
namespace Go.Proofs.YtggdcnjaofflbaaGreatDoor
structure HeadP where
 car:Int
 siz:Int
 root:ByteArray
 sl:ByteArray
deriving DecidableEq
structure ItemP where
 idx:Int
 ent:ByteArray
 prf:List ByteArray
deriving DecidableEq
structure PartP where
 head:HeadP
 items:List ItemP
deriving DecidableEq
structure RegP where
 car:Int
 ents:List ByteArray
deriving DecidableEq
/-! ### What they say of each other -/
end Go.Proofs.YtggdcnjaofflbaaGreatDoor
/- wire.PutInt at a small number: one group. The condition: the number is from 0 to 63. -/
namespace Go.Proofs.YtggdcnjaofflbaaGreatDoor
open Go.RowKit Go.BigFrame Go.Shelf
attribute [local go_sem] Oper.semAt_some
set_option maxHeartbeats 400000 in
theorem groups_any (z:Nat)(w:World) :
  Calls Tryz.prog 164 #[.int .u64 z] w fun e w'=>e=.returned (.func (.func 187) #[] #[.pointer (some ⟨w.heap.size,0,none⟩)])∧w'=w.alloc (.cells #[.int .u64 z] 144):=by
 go_enter Tryz.func164,Tryz.ntmps164
 go_wp2
 go_ret
 exact⟨rfl,rfl⟩
theorem wpListIn_append_el {F:Fence}{n:Nat}{P:Program}{ops:Array Oper}{rest:List Oper}{o:Oper}{a:Act}{w:World}{Q:Exit→Act→World→Prop}(t e:TypeId)(size bytes:Nat)(z:Value)(ht:P.underlying t=some (.slice e))(hinfo:(P.info? e).map (fun i=>(i.zero,i.size,i.bytes))=some (some z,size,bytes))(hzs:z.cells.size=size)(hsz:0 < size)
  (hgd:o.guard=none) (s x:Operand) (ho:o.op=.call { callee:=.builtin .append,args:=#[s,x],argTypes:=#[t,t] })
  (base:Nat) (v:Value) (css:List (List Value)) (hs:a.eval s=v) (hown:OwnE w base e size v css) (b:Nat) (c:List Value) (hc:c.length=size) (hone:∀ u∈c,u.oneCell'=true) (hx:a.eval x=.slice (some ⟨b,0,none⟩) 1 1) (fr:Nat × Nat)
  (hb:w.heap[b]?=some (.cells c.toArray e fr)) (h63:css.length+1≤maxLen) (hbytes:(css.length+1)*bytes≤140737488355328) (hbase:base≤w.heap.size)
  (h:∀ v' w',OwnE w' base e size v' (css++[c])→w.grownBy w' v.ownBlock→wpListIn F n P ops Q rest (a.put o.dst v') w'):wpListIn F n P ops Q (o::rest) a w:=by
 obtain⟨i,i1,i2,i3,i4⟩:=info_parts hinfo
 refine wpListIn_append_own w hgd s x t ho base e i z size bytes ht i1 i2 i3 i4 hzs hsz v _ _ hs hown ⟨b,0,none⟩ 1 1 c hx (by omega) ?_ hone h63 hbytes hbase ?_
 ·intro j u hj
  rw[Addr.add_mid,cell_of_row w _ (0+j) _ _ _ hb,Nat.zero_add,List.getElem?_toArray]
  exact hj
 ·intro v' w' h1 h2 _
  refine h v' w' ?_ h2
  unfold OwnE
  rw[List.length_append,List.flatten_append]
  simpa using h1
theorem infoU8:(Tryz.prog.info? 5).map (fun i=>(i.zero,i.size,i.bytes))=some (some (.int .u8 0),1,1):=by kernel_rfl
end Go.Proofs.YtggdcnjaofflbaaGreatDoor
/- Walks of package register: the writer's number, what is signed for a head. The conditions: the numbers are small, lengths, the table of constants. -/
namespace Go.Proofs.YtggdcnjaofflbaaGreatDoor
open Go.RowKit Go.BigFrame
theorem below_grown {w w':World}(hb:Below w.heap.size w w'):w.grownBy w' none:=⟨hb.os,hb.tape,hb.output,hb.size,fun i hi _=>hb.block i hi⟩
end Go.Proofs.YtggdcnjaofflbaaGreatDoor
/- Slices of items in memory; the walk of register.Check. The conditions: what the slices read as, lengths, the table of constants. -/
namespace Go.Proofs.YtggdcnjaofflbaaGreatDoor
open Go.RowKit Go.BigFrame
def itcells (l:List (ItemP × Value)):List (List Value):=l.map fun y=>[.int .i64 y.1.idx,.string y.1.ent,y.2]
def IS (w:World)(v:Value)(ys:List (ItemP × Value)):Prop:=SliceAt w v 3 (itcells ys)∧∀ y∈ys,SS w y.2 y.1.prf
theorem IS.nil (w:World):IS w (.slice none 0 0) []:=⟨SliceAt.nil w 3,fun _ h=>absurd h List.not_mem_nil⟩
theorem IS.below {w w':World}{v:Value}{ys:List (ItemP × Value)}(h:IS w v ys)(hb:Below w.heap.size w w'):IS w' v ys:=⟨h.1.below hb,fun y hy=>(h.2 y hy).below hb⟩
theorem IS.opened {w:World}{v:Value}{ys:List (ItemP × Value)}(h:IS w v ys):∃ a cap,v=.slice a ys.length cap∧ys.length≤cap∧cap≤maxLen ∧
  ∀ k y,ys[k]?=some y→∃ b off,a=some ⟨b,off,none⟩∧b < w.heap.size∧w.cell? ⟨b,off+k*3,none⟩=some (.int .i64 y.1.idx)∧w.cell? ⟨b,off+k*3+1,none⟩=some (.string y.1.ent)∧w.cell? ⟨b,off+k*3+2,none⟩=some y.2:=by
 obtain⟨⟨a,cap,hv,h1,h2,h3⟩,_⟩:=h
 unfold itcells at *
 rw[List.length_map]at hv h1
 refine⟨a,cap,hv,h1,h2,fun k y hy=>?_⟩
 rcases h3 with h3 | ⟨b,off,ha,hb,hc⟩
 ·simp at h3;subst h3;simp at hy
 ·have hk:(ys.map fun y=>[Value.int .i64 y.1.idx,.string y.1.ent,y.2])[k]?=some [.int .i64 y.1.idx,.string y.1.ent,y.2]:=by rw[List.getElem?_map,hy];rfl
  exact⟨b,off,ha,hb,hc k _ hk 0 _ rfl,hc k _ hk 1 _ rfl,hc k _ hk 2 _ rfl⟩
end Go.Proofs.YtggdcnjaofflbaaGreatDoor
/- The walk of register.Show. The conditions: what the slices read as, lengths, the table of constants. -/
namespace Go.Proofs.YtggdcnjaofflbaaGreatDoor
open Go.RowKit Go.BigFrame
def IL (w:World)(v:Value)(l:List Int):Prop:=SliceAt w v 1 (icells l)
theorem IL.below {w w':World}{v:Value}{l:List Int}(h:IL w v l)(hb:Below w.heap.size w w'):IL w' v l:=SliceAt.below h hb
theorem IL.opened {w:World}{v:Value}{l:List Int}(h:IL w v l):∃ a cap,v=.slice a l.length cap∧l.length≤cap∧cap≤maxLen ∧
  ∀ k s,l[k]?=some s→∃ b off,a=some ⟨b,off,none⟩∧b < w.heap.size∧w.cell? ⟨b,off+k,none⟩=some (.int .i64 s):=by
 obtain⟨a,cap,hv,h1,h2,h3⟩:=h
 unfold icells at *
 rw[List.length_map]at hv h1
 refine⟨a,cap,hv,h1,h2,fun k x hx=>?_⟩
 rcases h3 with h3 | ⟨b,off,ha,hb,hc⟩
 ·simp at h3;subst h3;simp at hx
 ·refine⟨b,off,ha,hb,?_⟩
  have:=hc k [.int .i64 x] (by rw[List.getElem?_map,hx];rfl) 0 _ rfl
  simpa using this
structure ISt (w:World) (v:Value) (ys:List (ItemP × Value)):Prop where
 is:IS w v ys
 ty:RowTy w 98 v
 tp:∀ y∈ys,RowTy w 9 y.2
theorem rowTy_nil (w:World)(T:TypeId):RowTy w T (.slice none 0 0):=fun a n c e=>by cases e
theorem ISt.nil (w:World):ISt w (.slice none 0 0) []:=⟨IS.nil w,rowTy_nil _ _,fun _ h=>absurd h List.not_mem_nil⟩
theorem ISt.below {w w':World}{v:Value}{ys:List (ItemP × Value)}(h:ISt w v ys)(hb:Below w.heap.size w w'):ISt w' v ys:=⟨h.is.below hb,h.ty.below hb,fun y hy=>(h.tp y hy).below hb⟩
theorem SS.grownT {w w':World}{v:Value}{xs:List ByteArray}(h:SS w v xs)(ht:RowTy w 9 v){r:Option Nat}(hg:w.grownBy w' r)(hr:∀ k,r=some k→∀ cs fr,w.heap[k]?≠some (.cells cs 9 fr)):SS w' v xs∧RowTy w' 9 v:=by
 have key:∀(a:Addr) (n c:Nat),v=.slice (some a) n c→n=0∨w'.heap[a.block]?=w.heap[a.block]?:=fun a n c e=>by
  rcases ht a n c e with h0 | ⟨cs,fr,h0⟩
  ·exact .inl h0
  ·refine .inr (hg.block _ (ltA h0) (fun e'=>?_))
   exact hr _ e'.symm cs fr h0
 refine⟨?_,fun a n c e=>?_⟩
 ·obtain⟨a,cap,hv,h1,h2,h3⟩:=h
  refine⟨a,cap,hv,h1,h2,?_⟩
  rcases h3 with h3 | ⟨b,off,rfl,hb,hc⟩
  ·exact .inl h3
  ·rcases key _ _ _ hv with h0 | h0
   ·exact .inl (List.eq_nil_of_length_eq_zero h0)
   ·refine .inr ⟨b,off,rfl,Nat.lt_of_lt_of_le hb hg.size,fun i c hi j u hj=>?_⟩
    have:=hc i c hi j u hj
    rw[← this]
    simp[World.cell?,h0]
 ·rcases key a n c e with h0 | h0
  ·exact .inl h0
  ·rcases ht a n c e with h1 | ⟨cs,fr,h1⟩
   ·exact .inl h1
   ·exact .inr ⟨cs,fr,h0.trans h1⟩
theorem OwnE.grownT {w w':World}{base size:Nat}{e:TypeId}{v:Value}{css:List (List Value)}(h:OwnE w base e size v css){k:Nat}{o:Obj}(hk:w.heap[k]?=some o)(hne:∀ c,o≠.cells c e (0,0))(hg:w.grownBy w' (some k)):OwnE w' base e size v css :=
 World.ownsRow.kept h hg (.inr (fun e'=>own_ne h hk hne e'.symm))
def ShowAt (w W:World)(p:Nat)(R C V:Array Value)(v:Value)(ys:List (ItemP × Value)):Prop :=
 Below w.heap.size w W∧W.heap[w.heap.size]?=some (.cells R 85 (0,0))∧W.heap[w.heap.size+1]?=some (.cells C 92 (0,0))∧W.heap[p]?=some (.cells (V.push v) 92 (0,0))∧OwnE W w.heap.size 98 3 v (itcells ys)∧∀ y∈ys,SS W y.2 y.1.prf∧RowTy W 9 y.2
theorem ShowAt.far {w W W':World}{p:Nat}{R C V:Array Value}{v:Value}{ys:List (ItemP × Value)}(h:ShowAt w W p R C V v ys)(hb:Below W.heap.size W W'):ShowAt w W' p R C V v ys:=by
 obtain⟨h1,h2,h3,h4,h5,h6⟩:=h
 exact⟨h1.trans (hb.mono h1.size),(hb.block _ (ltA h2)).trans h2,(hb.block _ (ltA h3)).trans h3,(hb.block _ (ltA h4)).trans h4,OwnE.far h5 hb (Nat.le_refl _),fun y hy=>⟨(h6 y hy).1.below hb,(h6 y hy).2.below hb⟩⟩
theorem ShowAt.block {w W w7:World}{p:Nat}{R C V:Array Value}{v:Value}{ys:List (ItemP × Value)}(h:ShowAt w W p R C V v ys){o:Obj}(hg:(W.alloc o).drew.grownBy w7 v.ownBlock){k:Nat}{cs:Array Value}{T:TypeId}(hk:W.heap[k]?=some (.cells cs T (0,0)))(hT:T≠98):w7.heap[k]?=some (.cells cs T (0,0)):=by
 have hlt:=(ltA hk)
 refine(hg.block k (by show k < (W.alloc o).heap.size;simp;omega) ?_).trans ((Below.heap_alloc W o k hlt).trans hk)
 exact own_ne h.2.2.2.2.1 hk (fun c e=>by cases e;exact hT rfl)
theorem ShowAt.append {w W w7:World}{p:Nat}{R C V:Array Value}{v:Value}{ys:List (ItemP × Value)}(h:ShowAt w W p R C V v ys)(hp:w.heap.size+1 < p)(hV:V.size=4)(y:ItemP × Value)(hy:SS W y.2 y.1.prf)(hty:RowTy W 9 y.2){o:Obj}(hg:(W.alloc o).drew.grownBy w7 v.ownBlock)
  {g cap:Nat} (ho:OwnE w7 w.heap.size 98 3 (.slice (some ⟨g,0,none⟩) (ys.length+1) cap) (itcells (ys++[y]))) :
  ShowAt w (w7.setCell ⟨p,4,none⟩ (.slice (some ⟨g,0,none⟩) (ys.length+1) cap)) p R C V (.slice (some ⟨g,0,none⟩) (ys.length+1) cap) (ys++[y]):=by
 have hb:=fun {k:Nat} {cs:Array Value} {T:TypeId}=>h.block (p:=p) hg (k:=k) (cs:=cs) (T:=T)
 obtain⟨h1,h2,h3,h4,h5,h6⟩:=h
 have g2:=hb h2 (by decide)
 have g3:=hb h3 (by decide)
 have g4:=hb h4 (by decide)
 have hsz:=h1.size
 have h17:Below w.heap.size w w7:=(below_drewN (h1.alloc hsz o) 1).grown hg (by show _≤(W.alloc o).heap.size;simp;omega) (fun j e=>OwnE.ge h5 j e)
 have hset:w7.grownBy (w7.setCell ⟨p,4,none⟩ (.slice (some ⟨g,0,none⟩) (ys.length+1) cap)) (some p):=grown_setCell (grown_refl _ _) _ (.inl rfl) _
 have hcv:(V.push v).setIfInBounds 4 (.slice (some ⟨g,0,none⟩) (ys.length+1) cap)=V.push (.slice (some ⟨g,0,none⟩) (ys.length+1) cap):=by
  rw[← hV]
  apply Array.ext
  ·simp
  ·intro i h1 h2
   simp only[Array.size_setIfInBounds,Array.size_push]at h1
   by_cases hi:i=V.size
   ·subst hi;simp
   ·rw[Array.getElem_setIfInBounds_ne (by simpa using h1) (fun e=>hi e.symm),Array.getElem_push_lt (by omega),Array.getElem_push_lt (by omega)]
 refine⟨h17.setCell (p:=⟨p,4,none⟩) (by show w.heap.size≤p;omega) _,(Below.heap_setCell _ _ _ _ (by show w.heap.size≠p;omega)).trans g2,(Below.heap_setCell _ _ _ _ (by show w.heap.size+1≠p;omega)).trans g3,?_,ho.grownT g4 (fun c e=>by cases e) hset,?_⟩
 ·rw[heap_setCell_same _ g4,hcv]
 ·have key:∀ z:ItemP × Value,SS W z.2 z.1.prf→RowTy W 9 z.2→SS (w7.setCell ⟨p,4,none⟩ (.slice (some ⟨g,0,none⟩) (ys.length+1) cap)) z.2 z.1.prf∧RowTy (w7.setCell ⟨p,4,none⟩ (.slice (some ⟨g,0,none⟩) (ys.length+1) cap)) 9 z.2:=fun z hz ht=>by
   have b0:Below W.heap.size W (W.alloc o).drew:=below_drewN (br0.alloc (Nat.le_refl _) o) 1
   obtain⟨k1,k2⟩:=(hz.below b0).grownT (ht.below b0) hg (fun k e cs fr e'=>by
    rcases h5.2 with⟨hn,_⟩ | ⟨g',c',cur,hv,_,hg',_⟩
    ·rw[hn]at e;cases e
    ·rw[hv]at e
     cases e
     have e2:(W.alloc o).drew.heap[g']?=W.heap[g']?:=Below.heap_alloc W o g' (ltA hg')
     have e3:=(e2.symm.trans e').symm.trans hg'
     cases e3)
   exact k1.grownT k2 hset (fun k e cs fr e'=>by
    cases e
    rw[g4]at e'
    cases e')
  intro z hz
  rcases List.mem_append.1 hz with hz | hz
  ·exact key z (h6 z hz).1 (h6 z hz).2
  ·rw[List.mem_singleton]at hz
   subst hz
   exact key _ hy hty
end Go.Proofs.YtggdcnjaofflbaaGreatDoor
/- From the data of a row to what a walk asks: slices of integers; the arguments read again behind a call that makes new memory alone. The conditions are those of the row. -/
namespace Go.Proofs.YtggdcnjaofflbaaGreatDoor
open Go.RowKit Go.WideShapes Go.ChangeShapes
section
variable {H:Type} {enc:TypeId × Value→H} {P:Program}
/-! ### Arguments read again -/
theorem same_below {W W':World}(hb:Below W.heap.size W W')(p:MemPlace)(hp:p.block < W.heap.size):W.sameAt W' p:=by
 cases p with
 | cell b off=>exact hb.cell (p:=⟨b,off,none⟩) hp
 | map b=>exact hb.block b hp
theorem trodAll_below {W W':World}(hb:Below W.heap.size W W'){sp:Nat→Bool}{held:Bool}:∀ {ts:List TypeId} {vs:List Value} {ds:List (DataW H)} {ps:List MemPlace},DataW.TrodAll enc P W 0 sp held ts vs ds ps→(∀ p∈ps,p.block < W.heap.size)→DataW.TrodAll enc P W' 0 sp held ts vs ds ps
 | [],[],[],_,h,_=>h
 | _::_,_::_,_::_,_,⟨p,q,⟨n,h1⟩,h2,e⟩,hs =>
  ⟨p,q,⟨n,DataW.trod_carry n _ _ _ h1 (fun x hx=>same_below hb x (hs x (by rw[e];exact List.mem_append_left _ hx)))⟩,trodAll_below hb h2 (fun x hx=>hs x (by rw[e];exact List.mem_append_right _ hx)),e⟩
theorem post_below {f:Func}{s:ChangeSpec}{apart fresh handsOn again:Bool}{W W':World}{args:Array Value}{v:Value}{ds gs:List (DataW H)}{before pa pv:List MemPlace}
  (hW:DataW.Whole enc P f.params.toList s.vars apart W args.toList ds gs before)
  (hres:∀(b:Nat) (sp:Nat→Bool) (hd:Bool),DataW.TrodAll enc P W' b sp hd f.resultTypes.toList (v.resultList f.resultTypes.size) (s.fn H (ds++gs)).results [])
  (hargs:∀ sp:Nat→Bool,(∀ p∈before,sp p.block=true)→DataW.TrodAll enc P W' 0 sp true f.params.toList args.toList (s.fn H (ds++gs)).args pa)
  (hvars:∀ sp:Nat→Bool,(∀ p∈before,sp p.block=true)→DataW.TrodVars enc P W' sp s.vars (s.fn H (ds++gs)).vars pv)
  (hps:before=pa++pv) (hb:Below W.heap.size W W')
  (hok:∀(j:Nat) (t:TypeId) (r:Value),f.resultTypes[j]?=some t→(v.resultList f.resultTypes.size)[j]?=some r→Value.okWide P W' .any 0 t r) :
  s.post enc P f apart fresh handsOn again W args v W':=by
 have hlt:∀ p∈before,p.block < W.heap.size:=fun p hp=>hW.lt p hp
 have hold:∀ p∈before,(fun b=>decide (b < W.heap.size)) p.block=true:=fun p hp=>by simpa using hlt p hp
 refine⟨ds,gs,before,[],pa,pv,hW,hres _ _ _,hargs _ hold,hvars _ hold,World.keptBut_mono (fun p hp=>⟨hp,?_⟩) (hb.frame (·∈before)),fun _=>?_⟩
 ·rw[hps,List.mem_append]at hp
  exact Or.inr hp
 ·obtain⟨_,_,_,_,_,hz,hn⟩:=hW
  refine⟨hok,_,_,([]++pa)++pv,⟨[]++pa,pv,trodAll_append (hargs _ (fun _ _=>rfl)) (hres _ _ _),hvars _ (fun _ _=>rfl),rfl,?_,?_⟩,?_⟩
  ·intro b off hp
   have hin:MemPlace.cell b off∈before:=by rw[hps];simpa using hp
   rw[hb.frozen (hlt _ hin)]
   exact hz b off hin
  ·intro ha
   have:=hn ha
   rw[hps]at this
   simpa using this
  ·intro p hp _
   rw[hps]
   simpa using hp
theorem open_i64 {W:World}{sp:Nat→Bool}{held:Bool}{r:Reach}{b0:Nat}{t:TypeId}{v:Value}{d:DataW H}{ps:List MemPlace}(ht:P.underlying t=some (.int .i64))(hval:Value.okWide P W r b0 t v)(hd:DataW.Trod enc P W 0 sp held t v d ps) :
  ∃ n,v=.int .i64 n∧d=.lit (.int .i64 n)∧ps=[]∧I64 n:=by
 obtain⟨n,h1,h2,h3,h4⟩:=open_int ht hval hd
 exact⟨n,h1,h2,h3,bounds_i64 h4⟩
/-! ### A slice of integers -/
theorem spot_none {W:World}{a:Addr}{v:Value}(h:W.cell? a=some v):a.spot=none:=World.cell?_spot h
/-! ### A pair of integers -/
theorem pair_open {W:World}{sp:Nat→Bool}{held:Bool}{r:Reach}{b0:Nat}{ts t:TypeId}{v:Value}{d:DataW H}{ps:List MemPlace}
  (hts:P.underlying ts=some (.array 2 t)) (ht:P.underlying t=some (.int .i64)) (hct:P.cellsOf t=1) (hcs:P.cellsOf ts=2)
  (hval:Value.okWide P W r b0 ts v) (h:DataW.Trod enc P W 0 sp held ts v d ps):∃ a b:Int,v=.agg #[.int .i64 a,.int .i64 b]∧I64 a∧I64 b:=by
 unfold Value.okWide at hval
 rw[hts]at hval
 obtain⟨cs,rfl,hsize,_⟩:=hval
 rw[hcs]at hsize
 obtain⟨fuel,h⟩:=h
 obtain⟨xs,m,_,_,hl,hxl,hi⟩:=DataW.trod_array hts h
 rw[hct]at hi
 rw[show(Value.agg cs).cells.toList=cs.toList from rfl]at hi
 have key:∀ i,i < 2→∃ n,cs[i]?=some (.int .i64 n)∧I64 n:=by
  intro i h2
  have h1:=hi i h2
  rw[List.getElem?_eq_getElem (by omega)]at h1
  obtain⟨n,hc,_,hw⟩:=DataW.trod_int ht h1
  refine⟨n,?_,bounds_i64 hw⟩
  have:=congrArg (·[0]?) hc
  simpa [List.getElem?_take,List.getElem?_drop]using this
 obtain⟨a,ha,ia⟩:=key 0 (by omega)
 obtain⟨b,hb,ib⟩:=key 1 (by omega)
 refine⟨a,b,?_,ia,ib⟩
 congr 1
 apply Array.ext
 ·simpa using hsize
 ·intro i h1 h2
  match i,h1 with
  | 0,h1=>rw[Array.getElem?_eq_getElem h1]at ha;exact Option.some.inj ha
  | 1,h1=>rw[Array.getElem?_eq_getElem h1]at hb;exact Option.some.inj hb
  | i+2,h1=>omega
end
end Go.Proofs.YtggdcnjaofflbaaGreatDoor
/- The reference's SHA-256: rotated, constants, rows of words and bytes. The conditions: ranges. -/
namespace Go.Proofs.YtggdcnjaofflbaaGreatDoor
open Go.RowKit Go.BigFrame
set_option maxHeartbeats 1000000 in
theorem rotated_any (x n:Nat)(w:World)(hx:x < 4294967296)(h1:1≤n)(h2:n≤31) :
  Calls Tryz.prog 140 #[.int .u32 x,.int .i64 n] w fun e w'=>e=.returned (.int .u32 (rotr x n:Nat))∧∃ m,w'=w.drewN m:=by
 have f1:IntKind.i64.wrap (32 - (n:Int))=((32 - n:Nat):Int):=by rw[IntWalk.i64_in _ (by omega)];omega
 have b1:(0:Int)≤(n:Int):=by omega
 have b2:(0:Int)≤((32 - n:Nat):Int):=by omega
 obtain⟨k,hk⟩:∃ k,k=32 - n:=⟨_,rfl⟩
 have HK:=zh hk
 rw[← hk]at f1 b2
 have hk31:k≤31:=by omega
 clear hk
 go_enter Tryz.func140,Tryz.ntmps140
 go_wp2
 go_quiet (fail)
 go_wp2
 go_ret
 refine⟨ret_int ?_,_,rfl⟩
 have g1:x*2 ^ k % 4294967296 < 4294967296:=Nat.mod_lt _ (by omega)
 have g2:x / 2 ^ n < 4294967296:=Nat.lt_of_le_of_lt (Nat.div_le_self _ _) hx
 have c1:((x*2 ^ k % 4294967296:Nat):Int)=(x:Int)*2 ^ k % 4294967296:=by rw[Int.natCast_emod,Int.natCast_mul,Int.natCast_pow];rfl
 have c2:((x / 2 ^ n:Nat):Int)=(x:Int) / 2 ^ n:=by rw[Int.natCast_ediv,Int.natCast_pow];rfl
 rw[← c1,← c2,u32_or_nat _ _ g2 g1,Nat.or_comm,HK.out]
 rfl
def wcells (l:List Nat):List (List Value):=l.map fun n=>[.int .u32 (n:Nat)]
theorem wcells_one (l:List Nat):∀ c∈wcells l,c.length=1:=by
 intro c hc
 unfold wcells at hc
 obtain⟨n,_,rfl⟩:=List.mem_map.1 hc
 rfl
theorem wcells_len (l:List Nat):(wcells l).length=l.length:=List.length_map ..
theorem wcells_flat (l:List Nat):(wcells l).flatten=l.map fun n=>Value.int .u32 (n:Nat):=by
 unfold wcells
 induction l with
 | nil=>rfl
 | cons x l ih=>simp[ih]
def WS (w:World)(v:Value)(l:List Nat):Prop:=SliceAt w v 1 (wcells l)
theorem WS.below {w w':World}{v:Value}{l:List Nat}(h:WS w v l)(hb:Below w.heap.size w w'):WS w' v l:=SliceAt.below h hb
theorem WS.opened {w:World}{v:Value}{l:List Nat}(h:WS w v l)(hl:0 < l.length):∃ b off cap,v=.slice (some ⟨b,off,none⟩) l.length cap∧l.length≤cap∧cap≤maxLen∧b < w.heap.size ∧
  ∀ k n,l[k]?=some n→w.cell? ⟨b,off+k,none⟩=some (.int .u32 (n:Nat)):=by
 obtain⟨a,cap,hv,h1,h2,h3⟩:=h
 unfold wcells at *
 rw[List.length_map]at hv h1
 rcases h3 with h3 | ⟨b,off,ha,hb,hc⟩
 ·simp at h3;subst h3;simp at hl
 ·subst ha
  refine⟨b,off,cap,hv,h1,h2,hb,fun k x hx=>?_⟩
  have:=hc k [.int .u32 (x:Nat)] (by rw[List.getElem?_map,hx];rfl) 0 _ rfl
  simpa using this
def OwnW (w:World)(base:Nat)(v:Value)(l:List Nat):Prop:=OwnE w base 139 1 v (wcells l)
def OwnB (w:World)(base:Nat)(v:Value)(l:List Nat):Prop:=OwnE w base 5 1 v (bcells l)
theorem OwnW.ws {w:World}{base:Nat}{v:Value}{l:List Nat}(h:OwnW w base v l):WS w v l:=OwnE.slice h (wcells_one l)
theorem bcells_one (l:List Nat):∀ c∈bcells l,c.length=1:=by
 intro c hc
 unfold bcells at hc
 obtain⟨n,_,rfl⟩:=List.mem_map.1 hc
 rfl
theorem bcells_len (l:List Nat):(bcells l).length=l.length:=List.length_map ..
theorem OwnB.bs {w:World}{base:Nat}{v:Value}{l:List Nat}(h:OwnB w base v l):SliceAt w v 1 (bcells l):=OwnE.slice h (bcells_one l)
theorem infoU32:(Tryz.prog.info? 139).map (fun i=>(i.zero,i.size,i.bytes))=some (some (.int .u32 0),1,4):=by kernel_rfl
section
variable {ops:Array Oper} {rest:List Oper} {o:Oper} {a:Act} {w:World} {Q:Exit→Act→World→Prop}
theorem wpList_append_word (s x:Operand)(base:Nat)(v:Value)(xs:List Nat)(b:Nat)(y:Int)(n:Nat)(hy:y=n)(fr:Nat × Nat)(hown:OwnW w base v xs)(hlen:xs.length≤100000)(hbase:base≤w.heap.size)
  (hb:w.heap[b]?=some (.cells #[.int .u32 y] 139 fr)) (hgd:o.guard=none) (ho:o.op=.call { callee:=.builtin .append,args:=#[s,x],argTypes:=#[140,140] }) (hs:a.eval s=v) (hx:a.eval x=.slice (some ⟨b,0,none⟩) 1 1)
  (h:∀ v' w',OwnW w' base v' (xs++[n])→w.grownBy w' v.ownBlock→wpList Tryz.prog ops Q rest (a.put o.dst v') w'):wpList Tryz.prog ops Q (o::rest) a w :=
 wpList_append_el 140 139 1 4 _ (by kernel_rfl) infoU32 rfl (by decide) hgd s x ho base v (wcells xs) hs hown b [.int .u32 y] rfl (fun u hu=>by rw[List.mem_singleton]at hu;subst hu;rfl) hx fr hb
  (by rw[wcells_len];unfold maxLen;omega) (by rw[wcells_len];omega) hbase fun v' w' h1 h2=>h v' w' (by unfold OwnW wcells;rw[List.map_append];subst hy;exact h1) h2
theorem wpList_append_byte (s x:Operand)(base:Nat)(v:Value)(xs:List Nat)(b:Nat)(y:Int)(n:Nat)(hy:y=n)(fr:Nat × Nat)(hown:OwnB w base v xs)(hlen:xs.length≤1100000000)(hbase:base≤w.heap.size)
  (hb:w.heap[b]?=some (.cells #[.int .u8 y] 5 fr)) (hgd:o.guard=none) (ho:o.op=.call { callee:=.builtin .append,args:=#[s,x],argTypes:=#[80,80] }) (hs:a.eval s=v) (hx:a.eval x=.slice (some ⟨b,0,none⟩) 1 1)
  (h:∀ v' w',OwnB w' base v' (xs++[n])→w.grownBy w' v.ownBlock→wpList Tryz.prog ops Q rest (a.put o.dst v') w'):wpList Tryz.prog ops Q (o::rest) a w :=
 wpList_append_el 80 5 1 1 _ (by kernel_rfl) infoByte rfl (by decide) hgd s x ho base v (bcells xs) hs hown b [.int .u8 y] rfl (fun u hu=>by rw[List.mem_singleton]at hu;subst hu;rfl) hx fr hb
  (by rw[bcells_len];unfold maxLen;omega) (by rw[bcells_len];omega) hbase fun v' w' h1 h2=>h v' w' (by unfold OwnB bcells;rw[List.map_append];subst hy;exact h1) h2
end
theorem WS.lit {w:World}{b n:Nat}{T:TypeId}{fz:Nat × Nat}(l:List Nat)(h:w.heap[b]?=some (.cells (l.map fun n=>Value.int .u32 (n:Nat)).toArray T fz))(hn:n=l.length)(hm:l.length≤1000):WS w (.slice (some ⟨b,0,none⟩) n n) l:=by
 subst hn
 refine⟨_,l.length,by rw[wcells_len],by rw[wcells_len];exact Nat.le_refl _,by unfold maxLen;omega,.inr ⟨b,0,rfl,(ltA h),fun i c hi j u hj=>?_⟩⟩
 unfold wcells at hi
 rw[List.getElem?_map]at hi
 obtain⟨x,hx,rfl⟩:=Option.map_eq_some_iff.1 hi
 have hj0:j=0:=by have:=(List.getElem?_eq_some_iff.1 hj).1;simp at this;omega
 subst hj0
 rw[cell_of_row w b _ _ T fz h,Nat.zero_add,Nat.mul_one,Nat.add_zero,List.getElem?_toArray,List.getElem?_map,hx]
 simpa using hj
set_option maxHeartbeats 1000000 in
set_option maxRecDepth 100000 in
theorem constants_any (w:World):Calls Tryz.prog 141 #[] w fun e w'=>∃ v,e=.returned v∧WS w' v kN∧Below w.heap.size w w':=by
 go_enter Tryz.func141,Tryz.ntmps141
 go_wp2
 go_ret
 exact⟨_,rfl,WS.lit kN (heap_alloc_new w _) rfl (by decide),br0.alloc (Nat.le_refl _) _⟩
end Go.Proofs.YtggdcnjaofflbaaGreatDoor
/- The reference's SHA-256: the bytes that are added. The condition: the length. -/
namespace Go.Proofs.YtggdcnjaofflbaaGreatDoor
open Go.RowKit Go.BigFrame
theorem bytesS_get (s:ByteArray)(k:Nat)(h:k < s.size):(bytesS s)[k]?=some s[k].toNat:=by
 unfold bytesS
 rw[List.getElem?_map,Array.getElem?_toList,Array.getElem?_eq_getElem h]
 rfl
theorem take_snoc {α:Type}{l:List α}{k:Nat}{x:α}(h:l[k]?=some x):l.take (k+1)=l.take k++[x]:=by
 rw[List.take_add_one,h];rfl
theorem zeros_test (n j:Nat)(hj:j≤zerosN n):((n+1+j) % 64=56) ↔ j=zerosN n:=by
 unfold zerosN at *
 omega
theorem zeros_le (n:Nat):zerosN n≤63:=by unfold zerosN;omega
theorem lenBytes_take (n m:Nat)(h:m < 8):(lenBytes n).take (m+1)=(lenBytes n).take m++[8*n / 2 ^ (8*(7 - m)) % 256]:=take_snoc (lenBytes_get n m h)
theorem OwnB.form {w:World}{base:Nat}{v:Value}{l:List Nat}(h:OwnB w base v l):∃ a n cap,v=.slice a n cap∧n=l.length:=by
 obtain⟨a,c,e⟩:=OwnE.form h
 exact⟨a,_,c,e,bcells_len l⟩
theorem OwnW.form {w:World}{base:Nat}{v:Value}{l:List Nat}(h:OwnW w base v l):∃ a n cap,v=.slice a n cap∧n=l.length:=by
 obtain⟨a,c,e⟩:=OwnE.form h
 exact⟨a,_,c,e,wcells_len l⟩
set_option maxHeartbeats 4000000 in
set_option maxRecDepth 100000 in
theorem extended_any (s:ByteArray)(w:World)(hs:s.size≤1000000000) :
  Calls Tryz.prog 101 #[.string s] w fun e w'=>∃ v,e=.returned v∧OwnB w' w.heap.size v (padN (bytesS s))∧Below w.heap.size w w':=by
 have HL:Hid ((bytesS s).length=s.size):=zh (bytesS_length s)
 obtain⟨R,hR⟩:∃ R,R=padN (bytesS s):=⟨_,rfl⟩
 rw[← hR]
 have HR:=zh hR
 clear hR
 go_enter Tryz.func101,Tryz.ntmps101
 go_wp2
 go_loopw [3,4] (fun v i wr=>∃ k:Nat,k≤s.size∧i=.int .i64 k∧Hid (OwnB wr w.heap.size v ((bytesS s).take k))∧Hid (Below w.heap.size w wr)) (fun _ i _=>s.size - (intOf i).toNat)
 case atStart=>exact⟨0,by omega,rfl,zh (OwnE.nil _ _ _ _),zh br0⟩
 case round =>
  obtain⟨k,hk,rfl,hO,hB⟩:=hrel
  obtain⟨va,vn,vc,hv,hvn⟩:=OwnB.form hO.out
  subst hv
  have HVN:=zh hvn
  clear hvn
  by_cases hlt:k < s.size
  ·have t1:(k:Int) < (s.size:Int):=by omega
   have HT:=zh (take_snoc (bytesS_get s k hlt))
   have HX:Hid (((bytesS s).take k).length≤1100000000):=zh (by rw[List.length_take];omega)
   generalize (bytesS s).take k=X at *
   have hsz:=hB.out.size
   have HOA:Hid (OwnB (wr.alloc (.cells #[.int .u8 (s[k].toNat:Nat)] 5)) w.heap.size (.slice va vn vc) X):=zh (OwnE.alloc hO.out _)
   have HNA:=zh (heap_alloc_new wr (.cells #[.int .u8 (s[k].toNat:Nat)] 5))
   have HBA:=zh (hB.out.alloc hsz (.cells #[.int .u8 (s[k].toNat:Nat)] 5))
   go_wp2_with (at_builtin;refine wpList_append_byte _ _ w.heap.size _ X wr.heap.size _ s[k].toNat rfl _ HOA.out HX.out HBA.out.size HNA.out rfl rfl rfl rfl ?_;intro v7 w7 hown7 hgr7;have HO7:=zh hown7;have HB7:=zh (HBA.out.grown hgr7 HBA.out.size (fun j e=>OwnE.ge HOA.out j e));clear hown7 hgr7)
   go_roundw
   case rel =>
    refine⟨k+1,by omega,by go_num,?_,HB7⟩
    rw[HT.out]
    exact HO7
   case measure=>simp[intOf];omega
  ·have ek:k=s.size:=by omega
   have HF:Hid ((bytesS s).take k=bytesS s):=zh (by rw[ek,← HL.out,List.take_length])
   rw[HF.out]at hO HVN
   have HP:Hid (R=(bytesS s++128::List.replicate (zerosN (bytesS s).length) 0)++lenBytes (bytesS s).length):=zh (HR.out.trans (padN_eq _))
   have HLE:=zh (zeros_le (bytesS s).length)
   have HZT:=zh (zeros_test (bytesS s).length)
   have HLB:=zh (lenBytes_take (bytesS s).length)
   have HL8:Hid (lenBytes (bytesS s).length=(lenBytes (bytesS s).length).take 8):=zh rfl
   have HL0:Hid ((lenBytes (bytesS s).length).take 0=[]):=zh rfl
   rw[HL.out]at HP HLE HZT HLB HL8 HL0
   have t1:¬ (k:Int) < (s.size:Int):=by omega
   obtain⟨n,hn⟩:∃ n,n=s.size:=⟨_,rfl⟩
   rw[← hn]at HP HLE HZT HLB HL8 HL0 HL
   have HNn:=zh hn
   have hn9:n≤1000000000:=by omega
   have HXl:Hid (((bytesS s).length≤1100000000)):=zh (by rw[HL.out];omega)
   clear HF hn HR
   generalize bytesS s=X at *
   generalize lenBytes n=LB at *
   generalize zerosN n=Z at *
   have hsz:=hB.out.size
   have HOA:Hid (OwnB (wr.alloc (.cells #[.int .u8 ((128:Nat):Int)] 5)) w.heap.size (.slice va vn vc) X):=zh (OwnE.alloc hO.out _)
   have HNA:=zh (heap_alloc_new wr (.cells #[.int .u8 ((128:Nat):Int)] 5))
   have HBA:=zh (hB.out.alloc hsz (.cells #[.int .u8 ((128:Nat):Int)] 5))
   go_wp2_with (at_builtin;refine wpList_append_byte _ _ w.heap.size _ X wr.heap.size _ 128 rfl _ HOA.out HXl.out HBA.out.size HNA.out rfl rfl rfl rfl ?_;intro v7 w7 hown7 hgr7;have HO7:Hid (OwnB w7 w.heap.size v7 (X++[128])):=zh hown7;have HB7:=zh (HBA.out.grown hgr7 HBA.out.size (fun j e=>OwnE.ge HOA.out j e));clear hown7 hgr7)
   rw[HL.out]at HVN
   obtain⟨va7,vn7,vc7,hv7,hvn7⟩:=OwnB.form HO7.out
   have HO8:Hid (OwnB w7 w.heap.size v7 (X++128::List.replicate 0 0)):=HO7
   have hZ63:=HLE.out
   subst hv7
   clear hvn7
   clear hO hB HOA HNA HBA HO7
   go_loopw [3] (fun v wr=>∃ j:Nat,j≤Z∧Hid (OwnB wr w.heap.size v (X++128::List.replicate j 0))∧Hid (Below w.heap.size w wr)) (fun v _=>65+n - vlen v)
   case atStart=>exact⟨0,by omega,HO8,HB7⟩
   case round =>
    obtain⟨j,hj,hO,hB⟩:=hrel
    obtain⟨va,vn,vc,hv,hvn⟩:=OwnB.form hO.out
    replace hvn:vn=n+1+j:=by
     rw[hvn,List.length_append,List.length_cons,List.length_replicate,HL.out];omega
    subst hv
    have hz:=HZT.out j hj
    have HXS:Hid ((X++128::List.replicate j 0).length≤1100000000):=zh (by rw[List.length_append,List.length_cons,List.length_replicate,HL.out];omega)
    have HRS:Hid ((X++128::List.replicate j 0)++[0]=X++128::List.replicate (j+1) 0):=zh (by
     rw[List.append_assoc,List.cons_append,← List.replicate_succ'])
    have HVN:=zh hvn
    obtain⟨XS,hXS⟩:∃ XS,XS=X++128::List.replicate j 0:=⟨_,rfl⟩
    rw[← hXS]at hO HXS HRS
    have HXE:=zh hXS
    clear hXS
    have hsz:=hB.out.size
    by_cases hjz:j=Z
    ·have e56:(vn:Int) % 64=56:=by have:=hz.2 hjz;omega
     clear hz hvn
     have HRZ:Hid (R=XS++LB.take 8):=zh (by rw[HP.out,HXE.out,hjz,← HL8.out])
     have HO9:Hid (OwnB wr w.heap.size (.slice va vn vc) (XS++LB.take 0)):=zh (by rw[HL0.out,List.append_nil];exact hO.out)
     have HXT:Hid (∀ k,(XS++LB.take k).length≤1100000000):=zh (fun k=>by
      rw[HXE.out,List.length_append,List.length_append,List.length_cons,List.length_replicate,HL.out]
      have:(LB.take k).length≤8:=by rw[HL8.out,List.take_take,List.length_take];omega
      omega)
     have HL9:=zh (fun m h=>congrArg (XS++·) (HLB.out m h))
     clear HP HL8 HL0 HRS HXE HXS hO HVN hsz HLB HXl HL hjz hj
     go_wp2
     clear e56
     go_loopw [3,5] (fun v i wr=>∃ k:Nat,k≤8∧i=.int .i64 (7 - (k:Int))∧Hid (OwnB wr w.heap.size v (XS++LB.take k))∧Hid (Below w.heap.size w wr)) (fun _ i _=>(intOf i+1).toNat)
     case atStart=>exact⟨0,by omega,by go_num,HO9,hB⟩
     case round =>
      clear HO9 hB
      obtain⟨k,hk,rfl,hO,hB⟩:=hrel
      obtain⟨va,vn,vc,hv,hvn⟩:=OwnB.form hO.out
      subst hv
      clear hvn
      have hsz:=hB.out.size
      by_cases h8:k < 8
      ·obtain⟨j,hj⟩:∃ j:Nat,j=7 - k:=⟨_,rfl⟩
       have ej:(7:Int) - (k:Int)=(j:Int):=by omega
       have HJ:=zh hj
       have tj:(0:Int)≤(j:Int):=by omega
       obtain⟨t,ht⟩:∃ t,t=8*n / 2 ^ (8*(7 - k)):=⟨_,rfl⟩
       have f1:IntKind.i64.wrap (8*(s.size:Int))=8*(s.size:Int):=IntWalk.i64_in _ (by omega)
       have f2:IntKind.i64.wrap (8*(j:Int))=((8*j:Nat):Int):=by rw[IntWalk.i64_in _ (by omega)];omega
       obtain⟨j8,hj8⟩:∃ j8,j8=8*j:=⟨_,rfl⟩
       rw[← hj8]at f2
       have tj8:(0:Int)≤(j8:Int):=by omega
       have f3:(8*(s.size:Int)) / 2 ^ min j8 64=(t:Int):=by
        rw[ht,hj8,hj,Int.natCast_ediv,Int.natCast_pow,HNn.out,Nat.min_eq_left (by omega)];rfl
       have HT:=zh (HL9.out k h8)
       rw[← ht]at HT
       have HXk:=zh (HXT.out k)
       rw[ej]
       clear ht hj hj8
       have HOA:Hid (OwnB (wr.alloc (.cells #[.int .u8 ((t:Int) % 256)] 5)) w.heap.size (.slice va vn vc) (XS++LB.take k)):=zh (OwnE.alloc hO.out _)
       have HNA:=zh (heap_alloc_new wr (.cells #[.int .u8 ((t:Int) % 256)] 5))
       have HBA:=zh (hB.out.alloc hsz (.cells #[.int .u8 ((t:Int) % 256)] 5))
       have HYY:Hid ((t:Int) % 256=((t % 256:Nat):Int)):=zh (by omega)
       have HTT:Hid ((XS++LB.take k)++[t % 256]=XS++LB.take (k+1)):=zh (by rw[HT.out,List.append_assoc])
       clear hO
       generalize XS++LB.take k=XK at *
       go_wp2_with (at_builtin;refine wpList_append_byte _ _ w.heap.size _ XK wr.heap.size _ (t % 256) HYY.out _ HOA.out HXk.out HBA.out.size HNA.out rfl rfl rfl rfl ?_;intro v7 w7 hown7 hgr7;have HO7:=zh hown7;have HB7:=zh (HBA.out.grown hgr7 HBA.out.size (fun j e=>OwnE.ge HOA.out j e));clear hown7 hgr7)
       have hj1:=HJ.out
       go_roundw
       case rel =>
        refine⟨k+1,by omega,?_,?_,HB7⟩
        ·congr 1;omega
        ·rw[← HTT.out]
         exact HO7
       case measure=>simp[intOf]
      ·have ek8:k=8:=by omega
       have ej:(7:Int) - (k:Int)=-1:=by omega
       rw[ej]
       rw[ek8,← HRZ.out]at hO
       clear ek8
       go_wp2
       go_ret
       exact⟨_,rfl,hO.out,hB.out⟩
    ·have e56:((vn:Int) % 64 != 56)=true:=by
      have:¬ (n+1+j) % 64=56:=fun h=>hjz (hz.1 h)
      simp only[bne_iff_ne,ne_eq]
      omega
     clear hz hvn
     have HOA:Hid (OwnB (wr.alloc (.cells #[.int .u8 ((0:Nat):Int)] 5)) w.heap.size (.slice va vn vc) XS):=zh (OwnE.alloc hO.out _)
     have HNA:=zh (heap_alloc_new wr (.cells #[.int .u8 ((0:Nat):Int)] 5))
     have HBA:=zh (hB.out.alloc hsz (.cells #[.int .u8 ((0:Nat):Int)] 5))
     go_wp2_with (at_builtin;refine wpList_append_byte _ _ w.heap.size _ XS wr.heap.size _ 0 rfl _ HOA.out HXS.out HBA.out.size HNA.out rfl rfl rfl rfl ?_;intro v7 w7 hown7 hgr7;have HO7:=zh hown7;have HB7:=zh (HBA.out.grown hgr7 HBA.out.size (fun j e=>OwnE.ge HOA.out j e));clear hown7 hgr7)
     go_roundw
     case rel =>
      refine⟨j+1,by omega,?_,HB7⟩
      rw[← HRS.out]
      exact HO7
     case measure =>
      obtain⟨va8,vn8,vc8,hv8,hvn8⟩:=OwnB.form HO7.out
      subst hv8
      have h1:vn8=n+1+j+1:=by rw[hvn8,List.length_append,HXE.out,List.length_append,List.length_cons,List.length_replicate,HL.out];simp;omega
      have h2:=HVN.out
      simp[vlen];omega
end Go.Proofs.YtggdcnjaofflbaaGreatDoor
