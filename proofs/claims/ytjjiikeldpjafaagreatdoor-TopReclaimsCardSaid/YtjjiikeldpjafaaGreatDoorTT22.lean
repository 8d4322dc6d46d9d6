/- A range over a function whose iterator writes one block of its own beside others: the block is told to the consumer at the first element (nb). Code that draws, within an iterator. The fence is wide; the conditions are what the body keeps. -/
import Derived.Test.YtjjiikeldpjafaaGreatDoorTT21
namespace Go.Proofs.YtjjiikeldpjafaaGreatDoor
open Go.RowKit
section
variable {P:Program} {α:Type}
theorem wpIn_of_wp {F:Fence}{n:Nat}{c:Code}{Q:Exit→Act→World→Prop}{a:Act}{w:World}(hF:Wide F)(hro:F.round=none)(h:c.wp P Q a w):c.wpIn F n P Q a w:=by
 intro b k cs hb' _ _
 have hb:b.roundOf=none:=hb'.trans hro
 obtain⟨e,a',w',q,r⟩:=h b k cs
 rw[Frame.atR_of_none hb]
 exact⟨e,a',w',q,(arrivesIn_iff (fun m m'=>⟨fun h=>h.steps,fun h=>stepsIn_of_wide hF h⟩) hb).2 r⟩
def IterN (P:Program)(gf:Nat)(lb:Array Value)(encs:α→Array Value)(Kp:Nat→World→World→Prop)(R:Nat→Nat→Prop)(S Sp:List α→Prop)(N:Nat)(w0:World):Prop :=
 ∀(F:Fence) (n:Nat),Wide F→F.round=none→∀(l:Nat) (J Jx:Nat→List α→World→Prop) (W:World),Below w0.heap.size w0 W →
  (∀ nb pre A B,W.heap.size≤nb→J nb pre A→IStepS (R nb) A B→J nb pre B)→(∀ nb pre A B,W.heap.size≤nb→Jx nb pre A→IStepS (R nb) A B→Jx nb pre B) →
  (∀ nb pre x W1,W.heap.size≤nb→nb < W1.heap.size→J nb pre W1→pre.length < N→YieldAt F (n - 1) P l (encs x) W1 fun e W' =>
   (e=.returned (.bool true)∧J nb (pre++[x]) W'∧Kp nb W1 W')∨(e=.returned (.bool false)∧Jx nb (pre++[x]) W')) →
  (∀ nb,W.heap.size≤nb→J nb [] W) →
  CallsIn F n P gf (#[.func (.yield l) #[] #[]]++lb) W fun e W'=>(∃ v,e=.returned v)∧((∃ nb xs,W.heap.size≤nb∧S xs∧J nb xs W')∨(∃ nb pre,W.heap.size≤nb∧Sp pre∧Jx nb pre W'))
theorem wpIn_rangeN {F:Fence}{n:Nat}{g:Operand}{ps:Array Tmp}{assign body:Code}{Q:Exit→Act→World→Prop}{a:Act}{w:World}
  (hF:Wide F) (hro:F.round=none) {gf:Nat} {lb:Array Value} (hg:a.eval g=.func (.func gf) #[] lb) (eg:∀ args w,(callFunc gf args).run P w=.ok (.enter gf args) w)
  {encs:α→Array Value} {Kp:Nat→World→World→Prop} {R:Nat→Nat→Prop} {S Sp:List α→Prop} {N:Nat} {w0:World} (hseq:IterN P gf lb encs Kp R S Sp N w0)
  (hb0:Below w0.heap.size w0 w) (hps:∀ x,(encs x).size=ps.size) (hrow:∀ nb k,w.heap.size+2≤nb→R nb k→k≠w.heap.size∧k≠w.heap.size+1)
  (hKt:∀ {nb:Nat} {A B C:World},w.heap.size+2≤nb→Kp nb A B→Kp nb B C→Kp nb A C) (hKb:∀(nb:Nat) (W:World) (o o':Obj),w.heap.size+2≤nb→W.heap[w.heap.size+1]?=some o→o.isCells=false→(∀ es clk,o≠.map es clk)→Kp nb W (W.putObj (w.heap.size+1) o'))
  (I:Nat→List α→World→Prop) (Ix:Code→Nat→List α→World→Prop) (hI:∀ nb,w.heap.size+2≤nb→AbideS (R nb) w.heap.size (I nb)) (hIx:∀ c nb,w.heap.size+2≤nb→AbideS (R nb) w.heap.size (Ix c nb)) (h0:∀ nb,w.heap.size+2≤nb→I nb [] w) (A1:Act→α→Act→World→Prop) (hA1:∀ x a' W l o o',A1 a x a' W→w.heap.size≤l→W.heap[l]?=some o→o.isCells=false→A1 a x a' (W.putObj l o'))
  (hKg:∀(nb:Nat) (A C:World),w.heap.size≤A.heap.size→A.grownBy C none→Kp nb A C)
  (hassign:∀(l nb:Nat) (pre:List α) (x:α) (W:World) (K:Act→World→Prop),I nb pre W→(∀ a' W',A1 a x a' W'→W.grownBy W' none→K a' W') →
   assign.wpIn (F.inRound l) (n - 1 - 1) P (Exit.then K (fun _ _ _=>False)) { tmps:=(ps.zip (encs x)).foldl (fun t (p,v)=>t.setIfInBounds p v) a.tmps,defers:=[] } W)
  (hbody:∀(l nb:Nat) (pre:List α) (x:α) (a':Act) (W:World),w.heap.size+2≤nb→nb < W.heap.size→I nb pre W→pre.length < N→A1 a x a' W→body.wpIn (F.inRound l) (n - 1 - 1) P (ownPostG w.heap.size (Kp nb) (I nb) (fun c=>Ix c nb) (pre++[x]) W) a' W)
  (hdone:∀(D nb:Nat) (xs:List α) (W:World),w.heap.size≤D→w.heap.size+2≤nb→S xs→I nb xs W→W.heap[D]?=some (.deferred (some []))→Q .normal { a with defers:={ target:=.collected D,args:=#[] }::a.defers } W)
  (hstop:∀(D:Nat) (c:Code) (nb:Nat) (pre:List α) (W:World),w.heap.size≤D→w.heap.size+2≤nb→Sp pre→Ix c nb pre W→W.heap[D]?=some (.deferred (some []))→c.wpIn F n P Q { a with defers:={ target:=.collected D,args:=#[] }::a.defers } W) :
  (Code.rangeFunc g ps assign body).wpIn F n P Q a w:=by
 refine wpIn_rangeFunc ?_
 intro fn hfn
 rw[hro]
 obtain⟨rec,hrec⟩:∃ rec:LoopState→Option Code→Loop,rec=recOf fn a ps assign body w.heap.size:=⟨_,rfl⟩
 have hparams:∀ st pe,(rec st pe).params=ps:=by intro st pe;rw[hrec];rfl
 obtain⟨W1,hW1⟩:∃ W1,(w.alloc (.deferred (some []))).alloc (.loop (rec .ready none))=W1:=⟨_,rfl⟩
 have hsz:W1.heap.size=w.heap.size+2:=by rw[← hW1];simp
 have hB1:Book w (rec .ready none) W1:=by
  rw[← hW1]
  exact⟨heap_alloc2_new w _ _,heap_alloc2_old w _ _⟩
 have hI1:∀ nb,w.heap.size+2≤nb→I nb [] W1:=fun nb hnb=>by
  rw[← hW1]
  exact(hI nb hnb).2 _ _ _ none ((hI nb hnb).2 _ _ _ none (h0 nb hnb) (World.grownBy_alloc w _ none) (.inl rfl)) (World.grownBy_alloc _ _ none) (.inl rfl)
 have hb1:Below w0.heap.size w0 W1:=by
  rw[← hW1];exact hb0.trans ((((Below.refl _ w).alloc (Nat.le_refl _) _).alloc (by simp) _).mono hb0.size)
 -- a turn of the record is borne by all
 have put:∀ {R':Nat→Prop} {Z:List α→World→Prop} (pre:List α) (W:World) (r r':Loop),AbideS R' w.heap.size Z→Z pre W→Book w r W→Z pre (W.putObj (w.heap.size+1) (.loop r')) :=
  fun pre W r r' hZ hz hb=>hZ.2 pre W _ (some (w.heap.size+1)) hz (grownBy_putObj' W _ _) (.inr ⟨_,_,rfl,by omega,hb.1,rfl⟩)
 have kput:∀ {nb:Nat} (W:World) (r r':Loop),w.heap.size+2≤nb→Book w r W→Kp nb W (W.putObj (w.heap.size+1) (.loop r')) :=
  fun {nb} W r r' hnb hb=>hKb nb W _ _ hnb hb.1 rfl (fun es clk e=>by cases e)
 refine⟨w.heap.size+1,[{ target:=.collected w.heap.size,args:=#[] }],W1,{ target:=.fn (.func gf) lb,args:=#[.func (.yield (w.heap.size+1)) #[] #[]] },W1,gf,
  #[.func (.yield (w.heap.size+1)) #[] #[]]++lb,W1,?_,?_,?_,?_,?_,?_⟩
 ·rw[← hW1,hrec];exact run_enterLoop_outer _ _ _ _ _
 ·simp only[resolve,hg]
  simp[go_sem]
 ·intro f' _;exact hF.1 f'
 ·simp[invoke,go_sem,eg]
 ·intro h;rw[hF.2.1]at h;cases h
 refine(hseq F (n - 1) hF hro (w.heap.size+1) (fun nb pre W=>I nb pre W∧Book w (rec .ready none) W) (fun nb pre W=>∃ c,Ix c nb pre W∧Book w (rec .done (some c)) W) W1 hb1
  (fun nb pre A B hnb h hg'=>⟨(hI nb (hsz ▸ hnb)).1 pre A B h.1 hg',h.2.grownS hg' (fun k hk=>hrow nb k (hsz ▸ hnb) hk)⟩)
  (fun nb pre A B hnb h hg'=>let ⟨c,hc,hk⟩:=h;⟨c,(hIx c nb (hsz ▸ hnb)).1 pre A B hc hg',hk.grownS hg' (fun k hk=>hrow nb k (hsz ▸ hnb) hk)⟩) ?round (fun nb hnb=>⟨hI1 nb (hsz ▸ hnb),hB1⟩)).mono ?behind
 case round =>
  rintro nb pre x U hnb hltU ⟨hi,hk⟩ hlen
  have hnb':w.heap.size+2≤nb:=hsz ▸ hnb
  have hy:=run_yield (P:=P) (args:=encs x) hk.1 (by rw[hparams];exact hps x)
  rw[hrec]at hy
  refine⟨fn,_,assign,body,hy,roundIn_of_wpIn hfn (hassign _ nb pre x U _ hi (fun a₁ W hA hga=>?_))⟩
  have hKa:Kp nb U W:=hKg nb U W (by have:=(ltA hk.1);omega) hga
  replace hi:I nb pre W:=(hI nb hnb').2 pre U W none hi hga (.inl rfl)
  have hltW:nb < W.heap.size:=Nat.lt_of_lt_of_le hltU hga.size
  replace hk:Book w (rec .ready none) W:=hk.grownS (R:=fun _=>False) ⟨none,hga,fun b e=>by cases e⟩ (fun k hk=>hk.elim)
  refine⟨_,run_beginRound hk.1 (by rw[hrec];rfl),?_⟩
  have hbusy:=hk.put { rec .ready none with state:=.busy }
  have hKp1:Kp nb U (W.putObj (w.heap.size+1) (.loop { rec .ready none with state:=.busy })):=hKt hnb' hKa (kput W _ _ hnb' hk)
  refine wpIn_mono (hbody _ nb pre x _ _ hnb' (by simpa [World.putObj]using hltW) (put pre W _ _ (hI nb hnb') hi hk) hlen (hA1 _ _ _ _ _ _ hA (by omega) hk.1 rfl)) ?_
  -- what the round's end leaves
  have fin:∀(jump:Option Code) (W3:World),KeepsFrom w.heap.size (W.putObj (w.heap.size+1) (.loop { rec .ready none with state:=.busy })) W3 →
    (Instr.endRound (w.heap.size+1) jump).run P W3=.ok (.bool jump.isNone) (W3.putObj (w.heap.size+1) (.loop (rec (if jump.isNone then .ready else .done) jump)))∧Book w { rec .ready none with state:=.busy } W3:=fun jump W3 hk3=>by
   have hb3:=hbusy.keeps hk3
   refine⟨?_,hb3⟩
   have:=run_endRound (P:=P) jump hb3.1
   rw[hrec]at this ⊢
   exact this
  have leave:∀(c:Code) (W3:World),KeepsFrom w.heap.size (W.putObj (w.heap.size+1) (.loop { rec .ready none with state:=.busy })) W3∧Ix c nb (pre++[x]) W3 →
    ∃ v w',(Instr.endRound (w.heap.size+1) (some c)).run P W3=.ok v w'∧((Ending.returned v=.returned (.bool true)∧(I nb (pre++[x]) w'∧Book w (rec .ready none) w')∧Kp nb U w')∨(Ending.returned v=.returned (.bool false)∧∃ c,Ix c nb (pre++[x]) w'∧Book w (rec .done (some c)) w')):=fun c W3 hp=>by
   obtain⟨hk3,hi3⟩:=hp
   obtain⟨hr,hb3⟩:=fin (some c) W3 hk3
   exact⟨_,_,hr,.inr ⟨rfl,c,put _ W3 _ _ (hIx c nb hnb') hi3 hb3,hb3.put _⟩⟩
  rintro e a3 W3 hp
  cases e with
  | normal =>
   obtain⟨hk3,hkp3,hi3⟩:=hp
   obtain⟨hr,hb3⟩:=fin none W3 hk3
   exact⟨_,_,hr,.inl ⟨rfl,⟨put _ W3 _ _ (hI nb hnb') hi3 hb3,hb3.put _⟩,hKt hnb' (hKt hnb' hKp1 hkp3) (kput W3 _ _ hnb' hb3)⟩⟩
  | ret=>exact leave .ret W3 hp
  | exit id=>exact leave (.exit id) W3 hp
  | goto t=>exact leave (.goto t) W3 hp
  | panic ch=>exact hp.elim
  | outgrown=>exact hp.elim
 case behind =>
  rintro e W2 ⟨⟨v,rfl⟩,(⟨nb,xs,hnb,hS,hi,hk⟩ | ⟨nb,pre,hnb,hSp,c,hi,hk⟩)⟩
  ·have hnb':w.heap.size+2≤nb:=hsz ▸ hnb
   refine⟨none,_,?_,hdone _ nb xs _ (Nat.le_refl _) hnb' hS (put _ W2 _ { rec .ready none with state:=.exhausted } (hI nb hnb') hi hk) (hk.put _).2⟩
   have:=run_endLoop (P:=P) hk.1 (by rw[hrec];simp[recOf])
   rw[hrec]at this ⊢
   exact this
  ·have hnb':w.heap.size+2≤nb:=hsz ▸ hnb
   refine⟨some c,_,?_,hstop _ c nb pre _ (Nat.le_refl _) hnb' hSp (put _ W2 _ { rec .done (some c)with state:=.exhausted } (hIx c nb hnb') hi hk) (hk.put _).2⟩
   have:=run_endLoop (P:=P) hk.1 (by rw[hrec];simp[recOf])
   rw[hrec]at this ⊢
   exact this
end
end Go.Proofs.YtjjiikeldpjafaaGreatDoor
/- TopReclaims: the statuses of a claim: what the iterator keeps. The conditions: what the blocks hold. -/
namespace Go.Proofs.YtjjiikeldpjafaaGreatDoor
open Go.RowKit Go.BigFrame
structure Mc where
 a0:Int
 a1:Int
 a2:Int
 a3:Int
 cn:Int
 cf:Int
 ct:Int
 ch:Int
 ca:Int
 cb:Bool
 mb:Nat
 bd:Nat
 be:Nat
structure Mc.Ok (c:Mc):Prop where
 h0:1≤c.a0∧c.a0≤1000000
 h1:1≤c.a1∧c.a1≤1000000
 h3:1≤c.a3∧c.a3≤1000000
 ha:0≤c.ca∧c.ca≤10000000
abbrev St:=Int × Int × Int
def staK (c:Mc):Nat→St
 | 0=>(1,c.ca,c.ca+c.a0)
 | 1=>(3,c.ca+c.a0,c.ca+c.a0+c.a1)
 | 2=>(4,c.ca+c.a0+c.a1,c.ca+c.a0+c.a1+c.a3)
 | _=>(5,c.ca+c.a0+c.a1+c.a3,-1)
def stE (x:St):Array Value:=#[.agg #[.int .i64 x.1,.int .i64 x.2.1,.int .i64 x.2.2]]
def stC (x:St):Obj:=.cells #[.int .i64 x.1,.int .i64 x.2.1,.int .i64 x.2.2] 217 (0,0)
structure StAt (c:Mc) (bm bl byy nb:Nat) (yv lv vv:Value) (x:St) (W:World):Prop where
 m:W.heap[bm]?=some (.cells #[.pointer (some ⟨c.mb,0,none⟩)] 259 (0,0))
 l:W.heap[bl]?=some (.cells #[lv] 84 (0,0))
 y:W.heap[byy]?=some (.cells #[yv] 299 (0,0))
 now:W.heap[nb]?=some (stC x)
 mach:MAt W c.mb c.a0 c.a1 c.a2 c.a3 c.cn c.cf c.ct c.ch c.ca c.cb c.bd c.be vv
 eff:∃ es clk,W.heap[c.be]?=some (.map es clk)∧EffAll es
structure StKp (nb:Nat) (A B:World):Prop where
 size:A.heap.size≤B.heap.size
 cells:∀(k:Nat) (cs:Array Value) (T:TypeId),A.heap[k]?=some (.cells cs T (0,0))→T≠217→T≠213→B.heap[k]?=some (.cells cs T (0,0))
 now:∀(cs:Array Value),A.heap[nb]?=some (.cells cs 217 (0,0))→B.heap[nb]?=some (.cells cs 217 (0,0))
 maps:∀(k:Nat) (es:Array MapEntry) (clk:Nat),A.heap[k]?=some (.map es clk)→B.heap[k]?=some (.map es clk)
theorem StKp.trans {nb:Nat}{A B C:World}(h:StKp nb A B)(h':StKp nb B C):StKp nb A C :=
 ⟨Nat.le_trans h.size h'.size,fun k cs T g1 g2 g3=>h'.cells k cs T (h.cells k cs T g1 g2 g3) g2 g3,fun cs g=>h'.now cs (h.now cs g),fun k es clk g=>h'.maps k es clk (h.maps k es clk g)⟩
theorem StKp.grown {nb:Nat}{A B:World}(h:A.grownBy B none):StKp nb A B :=
 have k:∀ {c:Nat} {o:Obj},A.heap[c]?=some o→B.heap[c]?=some o:=fun g=>(h.block _ (ltA g) (by simp)).trans g
 ⟨h.size,fun _ _ _ g _ _=>k g,fun _ g=>k g,fun _ _ _ g=>k g⟩
def StKe (A B:World):Prop:=∀(k:Nat) (cs:Array Value) (T:TypeId),A.heap[k]?=some (.cells cs T (0,0))→T≠217→T≠213→B.heap[k]?=some (.cells cs T (0,0))
theorem StKe.refl (A:World):StKe A A:=fun _ _ _ h _ _=>h
theorem StKe.trans {A B C:World}(h:StKe A B)(h':StKe B C):StKe A C:=fun k cs T g1 g2 g3=>h' k cs T (h k cs T g1 g2 g3) g2 g3
theorem StKe.below {A B:World}(h:Below A.heap.size A B):StKe A B:=fun _ _ _ g _ _=>kept_block g h
section
variable {c:Mc} {bm bl byy nb:Nat} {yv lv vv:Value} {x:St} {W W':World}
theorem StAt.step (h:StAt c bm bl byy nb yv lv vv x W)(hb:Below W.heap.size W W'):StAt c bm bl byy nb yv lv vv x W' :=
 ⟨kept_block h.m hb,kept_block h.l hb,kept_block h.y hb,kept_block h.now hb,⟨kept_block h.mach.cells hb,kept_block h.mach.dues hb⟩,let ⟨es,clk,g1,g2⟩:=h.eff;⟨es,clk,kept_block g1 hb,g2⟩⟩
theorem StAt.kp (h:StAt c bm bl byy nb yv lv vv x W)(hb:StKp nb W W'):StAt c bm bl byy nb yv lv vv x W' :=
 ⟨hb.cells _ _ _ h.m (by decide) (by decide),hb.cells _ _ _ h.l (by decide) (by decide),hb.cells _ _ _ h.y (by decide) (by decide),hb.now _ h.now,⟨hb.cells _ _ _ h.mach.cells (by decide) (by decide),hb.maps _ _ _ h.mach.dues⟩,let ⟨es,clk,g1,g2⟩:=h.eff;⟨es,clk,hb.maps _ _ _ g1,g2⟩⟩
theorem StAt.put (h:StAt c bm bl byy nb yv lv vv x W)(y:St):StAt c bm bl byy nb yv lv vv y (((W.setCell ⟨nb,0,none⟩ (.int .i64 y.1)).setCell ⟨nb,1,none⟩ (.int .i64 y.2.1)).setCell ⟨nb,2,none⟩ (.int .i64 y.2.2)):=by
 have hn:∀ {k:Nat} {cs:Array Value} {T:TypeId},W.heap[k]?=some (.cells cs T (0,0))→T≠217→k≠nb:=fun g hT e=>by
  subst e
  rw[h.now]at g
  unfold stC at g
  injection g with g
  injection g with _ g _
  exact hT g.symm
 have k:∀ {k:Nat} {o:Obj},W.heap[k]?=some o→k≠nb→(((W.setCell ⟨nb,0,none⟩ (.int .i64 y.1)).setCell ⟨nb,1,none⟩ (.int .i64 y.2.1)).setCell ⟨nb,2,none⟩ (.int .i64 y.2.2)).heap[k]?=some o:=fun g1 g2 =>
  (Below.heap_setCell _ _ _ _ g2).trans ((Below.heap_setCell _ _ _ _ g2).trans ((Below.heap_setCell _ _ _ _ g2).trans g1))
 have km:∀ {k:Nat} {es:Array MapEntry} {clk:Nat},W.heap[k]?=some (.map es clk)→k≠nb:=fun g e=>by
  subst e
  rw[h.now]at g
  cases g
 have g:=h.mach
 obtain⟨es,clk,g1,g2⟩:=h.eff
 exact⟨k h.m (hn h.m (by decide)),k h.l (hn h.l (by decide)),k h.y (hn h.y (by decide)),three_heapC h.now _ _ _,⟨k g.cells (hn g.cells (by decide)),k g.dues (km g.dues)⟩,⟨es,clk,k g1 (km g1),g2⟩⟩
theorem StAt.ke (h:StAt c bm bl byy nb yv lv vv x W)(a b d:Value):StKe W (((W.setCell ⟨nb,0,none⟩ a).setCell ⟨nb,1,none⟩ b).setCell ⟨nb,2,none⟩ d):=fun k cs T g hT _=>by
 have hn:k≠nb:=fun e=>by
  subst e
  rw[h.now]at g
  unfold stC at g
  injection g with g
  injection g with _ g _
  exact hT g.symm
 exact(Below.heap_setCell _ _ _ _ hn).trans ((Below.heap_setCell _ _ _ _ hn).trans ((Below.heap_setCell _ _ _ _ hn).trans g))
end
theorem three_grownC (W:World)(b:Nat)(x y z:Value):W.grownBy (((W.setCell ⟨b,0,none⟩ x).setCell ⟨b,1,none⟩ y).setCell ⟨b,2,none⟩ z) (some b) :=
 grown_setCell (grown_setCell (grown_setCell (grown_refl _ _) ⟨b,0,none⟩ (.inl rfl) _) ⟨b,1,none⟩ (.inl rfl) _) ⟨b,2,none⟩ (.inl rfl) _
theorem yieldAt_any {F:Fence}(hF:Wide F){m:Nat}{P:Program}{l:Nat}{args:Array Value}{W:World}{R:Ending→World→Prop}(h:YieldAt F m P l args W R)(m':Nat):YieldAt F m' P l args W R:=by
 obtain⟨fn,tmps,assign,body,h1,h2,h3⟩:=h
 exact⟨fn,tmps,assign,body,h1,h2,fun c cs _=>h3 c cs (fun d hd=>by rw[hF.2.1]at hd;cases hd)⟩
def stLeft:Option Value→Nat
 | some (.int _ s)=>if s=1 then 3 else if s=3 then 2 else if s=4 then 1 else 0
 | _=>0
def stL (c:Mc)(k e:Nat):List St:=(List.range (e - k)).map fun i=>staK c (k+1+i)
theorem stL_self (c:Mc)(k:Nat):stL c k k=[]:=by
 unfold stL
 rw[Nat.sub_self]
 rfl
theorem stL_snoc (c:Mc){k e:Nat}(h:k≤e):stL c k (e+1)=stL c k e++[staK c (e+1)]:=by
 unfold stL
 rw[show e+1 - k=(e - k)+1 by omega,List.range_succ,List.map_append]
 show _++[staK c (k+1+(e - k))]=_
 rw[show k+1+(e - k)=e+1 by omega]
theorem due_lookN {w:World}{b:Nat}(hb:w.heap[b]?=some (.map (dueEs 4) 4)){k:Nat}(hk:k < 4) :
  (Instr.lookup 292 (.map (some b)) (.int .i64 ((k:Int)+1)) false).run Tryz.prog w=.ok (dueV k) w:=by
 have h1:∀ k:Nat,k < 4→(Instr.findKey 3 (.int .i64 ((k:Int)+1)) (dueEs 4).toList).run Tryz.prog w=.ok (some (k,dueV k)) w:=by
  intro k hk
  rcases(by omega:k=0∨k=1∨k=2∨k=3)with rfl | rfl | rfl | rfl <;> kernel_rfl
 have h2:∀ e,(Instr.checkKey e 10000 3 (.int .i64 ((k:Int)+1))).run Tryz.prog w=.ok () w:=by intro e;kernel_rfl
 simp[Instr.lookup,run_underlying Tryz.underlying292,MapKept.run_getObj_map hb,h2,h1 k hk,Result.andThen]
end Go.Proofs.YtjjiikeldpjafaaGreatDoor
/- TopReclaims: what happens by itself, status by status. The conditions: what the blocks hold; the consumer's rounds keep it. -/
namespace Go.Proofs.YtjjiikeldpjafaaGreatDoor
open Go.RowKit Go.BigFrame
attribute [local go_sem] Oper.semAt_some
theorem isteps_nb {R:Nat→Prop}{A B:World}{nb:Nat}(h:Below A.heap.size A B)(hR:R nb)(x y z:Value):IStepS R A (((B.setCell ⟨nb,0,none⟩ x).setCell ⟨nb,1,none⟩ y).setCell ⟨nb,2,none⟩ z) :=
 ⟨some nb,((below_grownQ h).but (some nb)).trans (three_grownC B nb x y z),fun b e=>by cases e;exact hR⟩
set_option maxHeartbeats 2000000 in
set_option maxRecDepth 100000 in
theorem alone_none {F:Fence}{n:Nat}(hF:Wide F)(hro:F.round=none){c:Mc}{bm bl byy nb:Nat}{lv yv vv:Value}{x:St}{W:World}(hS:StAt c bm bl byy nb yv lv vv x W)(u:Int)(hx:x.2.2 < 0) :
  CallsIn F n Tryz.prog 180 #[.int .i64 u,.pointer (some ⟨nb,0,none⟩),.pointer (some ⟨bm,0,none⟩),.pointer (some ⟨byy,0,none⟩)] W fun r w'=>r=.returned (.bool true)∧w'=W:=by
 obtain⟨s,t,z⟩:=x
 simp only at hx
 obtain⟨c0,c1,c2⟩:=three_cellsC hS.now
 simp only at c0 c1 c2
 have hz:¬ 0≤z:=by omega
 refine callsIn_of_wp Tryz.func180 rfl (hF.1 _) ?_ hro
 simp only[Tryz.ntmps180,List.size_toArray,List.length_cons,List.length_nil,Nat.reduceAdd,Nat.reduceSub,Array.replicate_succ,Array.replicate_zero,List.push_toArray,List.append_toArray,List.nil_append,List.cons_append]
 gi_wp2
 gi_loopw [14] (fun _ wr=>wr=W) (fun _ _=>0)
 case atStart=>rfl
 case round =>
  subst hrel
  gi_wp2
  go_ret
  exact⟨rfl,rfl⟩
set_option maxHeartbeats 4000000 in
set_option maxRecDepth 100000 in
theorem alone_any {F:Fence}{n m:Nat}(hF:Wide F)(hro:F.round=none){c:Mc}(hc:c.Ok){bm bl byy nb:Nat}{lv vv:Value}{lb N:Nat}{J Jx:List St→World→Prop}
  (hJ:∀ pre A B,J pre A→IStepS (fun b=>b=c.mb∨b=nb) A B→J pre B)
  (hY:∀ pre x W1,nb < W1.heap.size→J pre W1→pre.length < N→YieldAt F m Tryz.prog lb (stE x) W1 fun e W'=>(e=.returned (.bool true)∧J (pre++[x]) W'∧StKp nb W1 W')∨(e=.returned (.bool false)∧Jx (pre++[x]) W'))
  (u:Int) {k e:Nat} (hk:k≤e) (he:e≤3) (hu:∀ j,k≤j→j < e→(staK c j).2.2≤u) (hend:(staK c e).2.2 < 0∨u < (staK c e).2.2)
  {W:World} (hS:StAt c bm bl byy nb (.func (.yield lb) #[] #[]) lv vv (staK c k) W) {pre:List St} (h0:J pre W) (hN:pre.length+(e - k)≤N) :
  CallsIn F n Tryz.prog 180 #[.int .i64 u,.pointer (some ⟨nb,0,none⟩),.pointer (some ⟨bm,0,none⟩),.pointer (some ⟨byy,0,none⟩)] W fun r w' =>
   (r=.returned (.bool true)∧StAt c bm bl byy nb (.func (.yield lb) #[] #[]) lv vv (staK c e) w'∧J (pre++stL c k e) w'∧StKe W w')∨(r=.returned (.bool false)∧∃ pre',Jx pre' w'):=by
 have HS:=zh hS
 have HJ0:=zh h0
 have HJ:=zh hJ
 have HY:=zh hY
 have HU:=zh hu
 have HE:=zh hend
 have HC:=zh hc
 clear hS h0 hJ hY hu hend hc
 refine callsIn_of_wp Tryz.func180 rfl (hF.1 _) ?_ hro
 simp only[Tryz.ntmps180,List.size_toArray,List.length_cons,List.length_nil,Nat.reduceAdd,Nat.reduceSub,Array.replicate_succ,Array.replicate_zero,List.push_toArray,List.append_toArray,List.nil_append,List.cons_append]
 gi_wp2
 gi_loopw [14] (fun _ wr=>∃ j pre',k≤j∧j≤e∧Hid (StAt c bm bl byy nb (.func (.yield lb) #[] #[]) lv vv (staK c j) wr)∧Hid (J pre' wr)∧Hid (pre'=pre++stL c k j)∧Hid (StKe W wr)) (fun _ wr=>stLeft (wr.cell? ⟨nb,0,none⟩))
 case atStart=>exact⟨k,pre,Nat.le_refl _,hk,HS,HJ0,zh (by rw[stL_self,List.append_nil]),zh (StKe.refl _)⟩
 case round =>
  clear HS HJ0
  obtain⟨j,pre',hkj,hje,hS,hJs,hP,hK0⟩:=hrel
  by_cases hlj:j < e
  ·have hlen:pre'.length < N:=by
    rw[hP.out,List.length_append]
    have:(stL c k j).length=j - k:=by unfold stL;rw[List.length_map,List.length_range]
    omega
   have hnx:=HU.out j hkj hlj
   have hb:=HC.out
   obtain⟨h0,h1,h3,ha⟩:=hb
   rcases(by omega:j=0∨j=1∨j=2)with rfl | rfl | rfl
   ·obtain⟨c0,c1,c2⟩:=three_cellsC hS.out.now
    simp only[staK]at c0 c1 c2 hnx
    have C0:=zh c0
    have t1:0≤c.ca+c.a0:=by omega
    have HD:Hid (∀ W,Below wr.heap.size wr W→(W.cell? ⟨bm,0,none⟩=some (.pointer (some ⟨c.mb,0,none⟩))∧W.cell? ⟨c.mb,10,none⟩=some (.map (some c.bd))∧W.cell? ⟨nb,0,none⟩=some (.int .i64 1)∧W.cell? ⟨nb,2,none⟩=some (.int .i64 (c.ca+c.a0))∧(Instr.lookup 292 (.map (some c.bd)) (.int .i64 1) false).run Tryz.prog W=.ok (.agg #[.func (.func 191) #[] #[],.int .i64 3]) W)):=zh (fun W hW=>by
     have hx:=hS.out.step hW
     have hm:=hx.mach
     obtain⟨g0,g1,g2⟩:=three_cellsC hx.now
     exact⟨cell_of_row W _ 0 _ _ _ hx.m,cell_of_row W _ 10 _ _ _ hm.cells,g0,g2,due_lookN hm.dues (k:=0) (by omega)⟩)
    have HBG:Hid (∀ W,Below wr.heap.size wr W→Calls Tryz.prog 179 #[.pointer (some ⟨c.mb,0,none⟩),.int .i64 3,.int .i64 (c.ca+c.a0)] W fun e w'=>e=.returned (.agg #[.int .i64 3,.int .i64 (c.ca+c.a0),.int .i64 (c.ca+c.a0+c.a1)])∧Below W.heap.size W w'):=zh (fun W hW=>by
     have hm:=(hS.out.step hW).mach
     exact beginsCooling hm _ (by omega) (by omega) (by omega))
    have HFL:Hid (∀ W,(Instr.field 303 (.agg #[.func (.func 191) #[] #[],.int .i64 3]) 1).run Tryz.prog W=.ok (.int .i64 3) W):=zh (fun W=>by kernel_rfl)
    gi_wp2
    refine wpIn_of_wp hF hro ?_
    refine wp_region_noPanic ?_
    refine wp_region_lexB [.q 0,.q 1,.q 2,.q 3,.q 4,.q 5,.q 6,.q 7,.q 8,.q 9,.q 10,.b 11,.l 12] (by kernel_rfl) (by kernel_rfl) (fun _ _ _ _ h=>h) ?_
    iterate 11(refine wpFl_qL (v:=?_) rfl (Or.inl ⟨by rfl,?_⟩) ?_;rotate_left;(focus(intro w' hSw;obtain⟨g0,g1,g2,g3,g4⟩:=HD.out w' hSw;have g5:=HFL.out w';go_simp;(try with_reducible rfl);done));simp only[Act.put,zzA,zzB,zzC])
    refine wpFl_bL rfl (fun wa hna hsa K hK=>?_)
    go_simp
    go_at_call 179
    (with_reducible refine(HBG.out _ hsa).mono ?_)
    rintro r wb ⟨rfl,hbb⟩
    refine hK.out _ _ (below_next hsa hbb) (Keeps.below hbb) ?_
    clear hK K hna hsa hbb
    refine wpFl_lL rfl (fun wc hnc hsc K hK=>?_)
    have HX:=zh (hS.out.step hsc)
    obtain⟨g0,g1,g2⟩:=three_cellsC HX.out.now
    have zf:∀ i,wc.frozen? ⟨nb,i,none⟩=false:=(fun i=>by unfold World.frozen?;rw[HX.out.now];simp[stC])
    go_simp
    have HX2:=zh (HX.out.put (staK c 1))
    have HK2:=zh ((hK0.out.trans (StKe.below hsc)).trans (HX.out.ke (.int .i64 3) (.int .i64 (c.ca+c.a0)) (.int .i64 (c.ca+c.a0+c.a1))))
    have HJ2:=zh (HJ.out pre' wr _ hJs.out (isteps_nb (nb:=nb) hsc (.inr rfl) (.int .i64 3) (.int .i64 (c.ca+c.a0)) (.int .i64 (c.ca+c.a0+c.a1))))
    simp only[staK]at HX2
    refine hK.out _ _ (NoPanic.normal ?_)
    clear hK K hnc hsc g0 g1 g2 zf HX
    generalize ((wc.setCell ⟨nb,0,none⟩ (.int .i64 3)).setCell ⟨nb,1,none⟩ (.int .i64 (c.ca+c.a0))).setCell ⟨nb,2,none⟩ (.int .i64 (c.ca+c.a0+c.a1))=wd at *
    obtain⟨fn,tmps,assign,body,hy,hRR⟩:=yieldAt_any hF (HY.out pre' (staK c 1) wd (ltA HX2.out.now) HJ2.out hlen) (n - 1)
    dsimp only [stE,staK]at hy
    obtain⟨g0,g1,g2⟩:=three_cellsC HX2.out.now
    simp only at g0 g1 g2
    have gy:=cell_of_row wd _ 0 _ _ _ HX2.out.y
    have HYH:=zh HY
    clear HY c0 c1 c2 hnx t1
    gi_wp2
    refine⟨fun h=>(by rw[hF.2.1]at h;cases h),hRR.mono ?_⟩
    rintro r W4 (⟨rfl,hJ4,hk4⟩ | ⟨rfl,hJx4⟩)
    ·have HX4:=zh (HX2.out.kp hk4)
     have HJ4:=zh hJ4
     have HK4:Hid (StKe W W4):=zh (HK2.out.trans hk4.cells)
     clear hy hRR hk4 hJ4 g0 g1 g2 gy
     gi_wp2
     go_roundw
     case rel=>exact⟨1,_,by omega,by omega,HX4,HJ4,zh (by rw[hP.out,stL_snoc c hkj,List.append_assoc]),HK4⟩
     case measure =>
      have e4:=(three_cellsC HX4.out.now).1
      rw[C0.out,e4]
      exact(by decide:(2:Nat) < 3)
    ·clear hy hRR g0 g1 g2 gy
     gi_wp2
     go_ret
     exact .inr ⟨rfl,_,hJx4⟩
   ·obtain⟨c0,c1,c2⟩:=three_cellsC hS.out.now
    simp only[staK]at c0 c1 c2 hnx
    have C0:=zh c0
    have t1:0≤c.ca+c.a0+c.a1:=by omega
    have HD:Hid (∀ W,Below wr.heap.size wr W→(W.cell? ⟨bm,0,none⟩=some (.pointer (some ⟨c.mb,0,none⟩))∧W.cell? ⟨c.mb,10,none⟩=some (.map (some c.bd))∧W.cell? ⟨nb,0,none⟩=some (.int .i64 3)∧W.cell? ⟨nb,2,none⟩=some (.int .i64 (c.ca+c.a0+c.a1))∧(Instr.lookup 292 (.map (some c.bd)) (.int .i64 3) false).run Tryz.prog W=.ok (.agg #[.func (.func 193) #[] #[],.int .i64 4]) W)):=zh (fun W hW=>by
     have hx:=hS.out.step hW
     have hm:=hx.mach
     obtain⟨g0,g1,g2⟩:=three_cellsC hx.now
     exact⟨cell_of_row W _ 0 _ _ _ hx.m,cell_of_row W _ 10 _ _ _ hm.cells,g0,g2,due_lookN hm.dues (k:=2) (by omega)⟩)
    have HBG:Hid (∀ W,Below wr.heap.size wr W→Calls Tryz.prog 179 #[.pointer (some ⟨c.mb,0,none⟩),.int .i64 4,.int .i64 (c.ca+c.a0+c.a1)] W fun e w'=>e=.returned (.agg #[.int .i64 4,.int .i64 (c.ca+c.a0+c.a1),.int .i64 (c.ca+c.a0+c.a1+c.a3)])∧Below W.heap.size W w'):=zh (fun W hW=>by
     have hm:=(hS.out.step hW).mach
     exact beginsEffective hm _ (by omega) (by omega) (by omega))
    have HFL:Hid (∀ W,(Instr.field 303 (.agg #[.func (.func 193) #[] #[],.int .i64 4]) 1).run Tryz.prog W=.ok (.int .i64 4) W):=zh (fun W=>by kernel_rfl)
    gi_wp2
    refine wpIn_of_wp hF hro ?_
    refine wp_region_noPanic ?_
    refine wp_region_lexB [.q 0,.q 1,.q 2,.q 3,.q 4,.q 5,.q 6,.q 7,.q 8,.q 9,.q 10,.b 11,.l 12] (by kernel_rfl) (by kernel_rfl) (fun _ _ _ _ h=>h) ?_
    iterate 11(refine wpFl_qL (v:=?_) rfl (Or.inl ⟨by rfl,?_⟩) ?_;rotate_left;(focus(intro w' hSw;obtain⟨g0,g1,g2,g3,g4⟩:=HD.out w' hSw;have g5:=HFL.out w';go_simp;(try with_reducible rfl);done));simp only[Act.put,zzA,zzB,zzC])
    refine wpFl_bL rfl (fun wa hna hsa K hK=>?_)
    go_simp
    go_at_call 179
    (with_reducible refine(HBG.out _ hsa).mono ?_)
    rintro r wb ⟨rfl,hbb⟩
    refine hK.out _ _ (below_next hsa hbb) (Keeps.below hbb) ?_
    clear hK K hna hsa hbb
    refine wpFl_lL rfl (fun wc hnc hsc K hK=>?_)
    have HX:=zh (hS.out.step hsc)
    obtain⟨g0,g1,g2⟩:=three_cellsC HX.out.now
    have zf:∀ i,wc.frozen? ⟨nb,i,none⟩=false:=(fun i=>by unfold World.frozen?;rw[HX.out.now];simp[stC])
    go_simp
    have HX2:=zh (HX.out.put (staK c 2))
    have HK2:=zh ((hK0.out.trans (StKe.below hsc)).trans (HX.out.ke (.int .i64 4) (.int .i64 (c.ca+c.a0+c.a1)) (.int .i64 (c.ca+c.a0+c.a1+c.a3))))
    have HJ2:=zh (HJ.out pre' wr _ hJs.out (isteps_nb (nb:=nb) hsc (.inr rfl) (.int .i64 4) (.int .i64 (c.ca+c.a0+c.a1)) (.int .i64 (c.ca+c.a0+c.a1+c.a3))))
    simp only[staK]at HX2
    refine hK.out _ _ (NoPanic.normal ?_)
    clear hK K hnc hsc g0 g1 g2 zf HX
    generalize ((wc.setCell ⟨nb,0,none⟩ (.int .i64 4)).setCell ⟨nb,1,none⟩ (.int .i64 (c.ca+c.a0+c.a1))).setCell ⟨nb,2,none⟩ (.int .i64 (c.ca+c.a0+c.a1+c.a3))=wd at *
    obtain⟨fn,tmps,assign,body,hy,hRR⟩:=yieldAt_any hF (HY.out pre' (staK c 2) wd (ltA HX2.out.now) HJ2.out hlen) (n - 1)
    dsimp only [stE,staK]at hy
    obtain⟨g0,g1,g2⟩:=three_cellsC HX2.out.now
    simp only at g0 g1 g2
    have gy:=cell_of_row wd _ 0 _ _ _ HX2.out.y
    have HYH:=zh HY
    clear HY c0 c1 c2 hnx t1
    gi_wp2
    refine⟨fun h=>(by rw[hF.2.1]at h;cases h),hRR.mono ?_⟩
    rintro r W4 (⟨rfl,hJ4,hk4⟩ | ⟨rfl,hJx4⟩)
    ·have HX4:=zh (HX2.out.kp hk4)
     have HJ4:=zh hJ4
     have HK4:Hid (StKe W W4):=zh (HK2.out.trans hk4.cells)
     clear hy hRR hk4 hJ4 g0 g1 g2 gy
     gi_wp2
     go_roundw
     case rel=>exact⟨2,_,by omega,by omega,HX4,HJ4,zh (by rw[hP.out,stL_snoc c hkj,List.append_assoc]),HK4⟩
     case measure =>
      have e4:=(three_cellsC HX4.out.now).1
      rw[C0.out,e4]
      exact(by decide:(1:Nat) < 2)
    ·clear hy hRR g0 g1 g2 gy
     gi_wp2
     go_ret
     exact .inr ⟨rfl,_,hJx4⟩
   ·obtain⟨c0,c1,c2⟩:=three_cellsC hS.out.now
    simp only[staK]at c0 c1 c2 hnx
    have C0:=zh c0
    have t1:0≤c.ca+c.a0+c.a1+c.a3:=by omega
    have HD:Hid (∀ W,Below wr.heap.size wr W→(W.cell? ⟨bm,0,none⟩=some (.pointer (some ⟨c.mb,0,none⟩))∧W.cell? ⟨c.mb,10,none⟩=some (.map (some c.bd))∧W.cell? ⟨nb,0,none⟩=some (.int .i64 4)∧W.cell? ⟨nb,2,none⟩=some (.int .i64 (c.ca+c.a0+c.a1+c.a3))∧(Instr.lookup 292 (.map (some c.bd)) (.int .i64 4) false).run Tryz.prog W=.ok (.agg #[.func (.func 194) #[] #[],.int .i64 5]) W)):=zh (fun W hW=>by
     have hx:=hS.out.step hW
     have hm:=hx.mach
     obtain⟨g0,g1,g2⟩:=three_cellsC hx.now
     exact⟨cell_of_row W _ 0 _ _ _ hx.m,cell_of_row W _ 10 _ _ _ hm.cells,g0,g2,due_lookN hm.dues (k:=3) (by omega)⟩)
    have HBG:Hid (∀ W,Below wr.heap.size wr W→Calls Tryz.prog 179 #[.pointer (some ⟨c.mb,0,none⟩),.int .i64 5,.int .i64 (c.ca+c.a0+c.a1+c.a3)] W fun e w'=>e=.returned (.agg #[.int .i64 5,.int .i64 (c.ca+c.a0+c.a1+c.a3),.int .i64 (-1)])∧Below W.heap.size W w'):=zh (fun W hW=>by
     have hm:=(hS.out.step hW).mach
     exact beginsLast hm _ (.inl rfl))
    have HFL:Hid (∀ W,(Instr.field 303 (.agg #[.func (.func 194) #[] #[],.int .i64 5]) 1).run Tryz.prog W=.ok (.int .i64 5) W):=zh (fun W=>by kernel_rfl)
    gi_wp2
    refine wpIn_of_wp hF hro ?_
    refine wp_region_noPanic ?_
    refine wp_region_lexB [.q 0,.q 1,.q 2,.q 3,.q 4,.q 5,.q 6,.q 7,.q 8,.q 9,.q 10,.b 11,.l 12] (by kernel_rfl) (by kernel_rfl) (fun _ _ _ _ h=>h) ?_
    iterate 11(refine wpFl_qL (v:=?_) rfl (Or.inl ⟨by rfl,?_⟩) ?_;rotate_left;(focus(intro w' hSw;obtain⟨g0,g1,g2,g3,g4⟩:=HD.out w' hSw;have g5:=HFL.out w';go_simp;(try with_reducible rfl);done));simp only[Act.put,zzA,zzB,zzC])
    refine wpFl_bL rfl (fun wa hna hsa K hK=>?_)
    go_simp
    go_at_call 179
    (with_reducible refine(HBG.out _ hsa).mono ?_)
    rintro r wb ⟨rfl,hbb⟩
    refine hK.out _ _ (below_next hsa hbb) (Keeps.below hbb) ?_
    clear hK K hna hsa hbb
    refine wpFl_lL rfl (fun wc hnc hsc K hK=>?_)
    have HX:=zh (hS.out.step hsc)
    obtain⟨g0,g1,g2⟩:=three_cellsC HX.out.now
    have zf:∀ i,wc.frozen? ⟨nb,i,none⟩=false:=(fun i=>by unfold World.frozen?;rw[HX.out.now];simp[stC])
    go_simp
    have HX2:=zh (HX.out.put (staK c 3))
    have HK2:=zh ((hK0.out.trans (StKe.below hsc)).trans (HX.out.ke (.int .i64 5) (.int .i64 (c.ca+c.a0+c.a1+c.a3)) (.int .i64 (-1))))
    have HJ2:=zh (HJ.out pre' wr _ hJs.out (isteps_nb (nb:=nb) hsc (.inr rfl) (.int .i64 5) (.int .i64 (c.ca+c.a0+c.a1+c.a3)) (.int .i64 (-1))))
    simp only[staK]at HX2
    refine hK.out _ _ (NoPanic.normal ?_)
    clear hK K hnc hsc g0 g1 g2 zf HX
    generalize ((wc.setCell ⟨nb,0,none⟩ (.int .i64 5)).setCell ⟨nb,1,none⟩ (.int .i64 (c.ca+c.a0+c.a1+c.a3))).setCell ⟨nb,2,none⟩ (.int .i64 (-1))=wd at *
    obtain⟨fn,tmps,assign,body,hy,hRR⟩:=yieldAt_any hF (HY.out pre' (staK c 3) wd (ltA HX2.out.now) HJ2.out hlen) (n - 1)
    dsimp only [stE,staK]at hy
    obtain⟨g0,g1,g2⟩:=three_cellsC HX2.out.now
    simp only at g0 g1 g2
    have gy:=cell_of_row wd _ 0 _ _ _ HX2.out.y
    have HYH:=zh HY
    clear HY c0 c1 c2 hnx t1
    gi_wp2
    refine⟨fun h=>(by rw[hF.2.1]at h;cases h),hRR.mono ?_⟩
    rintro r W4 (⟨rfl,hJ4,hk4⟩ | ⟨rfl,hJx4⟩)
    ·have HX4:=zh (HX2.out.kp hk4)
     have HJ4:=zh hJ4
     have HK4:Hid (StKe W W4):=zh (HK2.out.trans hk4.cells)
     clear hy hRR hk4 hJ4 g0 g1 g2 gy
     gi_wp2
     go_roundw
     case rel=>exact⟨3,_,by omega,by omega,HX4,HJ4,zh (by rw[hP.out,stL_snoc c hkj,List.append_assoc]),HK4⟩
     case measure =>
      have e4:=(three_cellsC HX4.out.now).1
      rw[C0.out,e4]
      exact(by decide:(0:Nat) < 1)
    ·clear hy hRR g0 g1 g2 gy
     gi_wp2
     go_ret
     exact .inr ⟨rfl,_,hJx4⟩
  ·obtain rfl:j=e:=by omega
   obtain⟨c0,c1,c2⟩:=three_cellsC hS.out.now
   have hend:=HE.out
   obtain⟨⟨s,t,z⟩,hx⟩:∃ x,x=staK c j:=⟨_,rfl⟩
   rw[← hx]at c0 c1 c2 hend
   simp only at c0 c1 c2 hend
   clear hx
   by_cases hz:0≤z
   ·have hz2:¬ z≤u:=by omega
    gi_wp2
    go_ret
    exact .inl ⟨rfl,hS.out,by rw[← hP.out];exact hJs.out,hK0.out⟩
   ·gi_wp2
    go_ret
    exact .inl ⟨rfl,hS.out,by rw[← hP.out];exact hJs.out,hK0.out⟩
end Go.Proofs.YtjjiikeldpjafaaGreatDoor
/- TopReclaims: the iterator over the statuses of a claim. The conditions: what the blocks hold. -/
namespace Go.Proofs.YtjjiikeldpjafaaGreatDoor
open Go.RowKit Go.BigFrame
attribute [local go_sem] Oper.semAt_some
structure StPre (c:Mc) (bm bl:Nat) (lv vv:Value) (W:World):Prop where
 m:W.heap[bm]?=some (.cells #[.pointer (some ⟨c.mb,0,none⟩)] 259 (0,0))
 l:W.heap[bl]?=some (.cells #[lv] 84 (0,0))
 mach:MAt W c.mb c.a0 c.a1 c.a2 c.a3 c.cn c.cf c.ct c.ch c.ca c.cb c.bd c.be vv
 eff:∃ es clk,W.heap[c.be]?=some (.map es clk)∧EffAll es
theorem StPre.step {c:Mc}{bm bl:Nat}{lv vv:Value}{W W':World}(h:StPre c bm bl lv vv W)(hb:Below W.heap.size W W'):StPre c bm bl lv vv W' :=
 ⟨kept_block h.m hb,kept_block h.l hb,⟨kept_block h.mach.cells hb,kept_block h.mach.dues hb⟩,let ⟨es,clk,g1,g2⟩:=h.eff;⟨es,clk,kept_block g1 hb,g2⟩⟩
def StR (c:Mc)(nb b:Nat):Prop:=b=c.mb∨b=nb
set_option maxHeartbeats 4000000 in
set_option maxRecDepth 100000 in
theorem statuses_nil {c:Mc}(hc:c.Ok){bm bl:Nat}{vv:Value}{w0:World}(h:StPre c bm bl (.slice none 0 0) vv w0) :
  IterN Tryz.prog 178 #[.pointer (some ⟨bm,0,none⟩),.pointer (some ⟨bl,0,none⟩)] stE StKp (StR c) (fun xs=>xs=[staK c 0,staK c 1,staK c 2,staK c 3]) (fun _=>True) 4 w0:=by
 intro F n hF hro lb J Jx W hW hJ hJx hY h0
 have HP:=zh (h.step hW)
 have HJ:=zh hJ
 have HY:=zh hY
 have H0:=zh h0
 have HC:=zh hc
 have hmf:∀(fn:Fn) (first cap:Array Value) (w:World),(Instr.makeFunc fn first cap).run Tryz.prog w=.ok (.func fn first cap) w:=fun _ _ _ _=>rfl
 obtain⟨W1,hW1⟩:∃ W1,W1=W.alloc (.cells #[.func (.yield lb) #[] #[]] 299):=⟨_,rfl⟩
 have HB1:Hid (Below W.heap.size W W1):=zh (by rw[hW1];exact br0.alloc (Nat.le_refl _) _)
 have HX1:Hid (W1.heap[W.heap.size]?=some (.cells #[.func (.yield lb) #[] #[]] 299 (0,0))):=zh (by rw[hW1];exact heap_alloc_new W _)
 have HW1:=zh hW1
 have HD:Hid (∀ V,Below W1.heap.size W1 V→(V.cell? ⟨bm,0,none⟩=some (.pointer (some ⟨c.mb,0,none⟩))∧V.cell? ⟨c.mb,8,none⟩=some (.int .i64 c.ca))):=zh (fun V hV=>by
  have hx:=HP.out.step (q_next HB1.out hV)
  exact⟨cell_of_row V _ 0 _ _ _ hx.m,cell_of_row V _ 8 _ _ _ hx.mach.cells⟩)
 have HBG:Hid (∀ V,Below W1.heap.size W1 V→Calls Tryz.prog 179 #[.pointer (some ⟨c.mb,0,none⟩),.int .i64 1,.int .i64 c.ca] V fun e w'=>e=.returned (.agg #[.int .i64 1,.int .i64 c.ca,.int .i64 (c.ca+c.a0)])∧Below V.heap.size V w'):=zh (fun V hV=>by
  have hm:=(HP.out.step (q_next HB1.out hV)).mach
  have h2:=HC.out.h0
  have h3:=HC.out.ha
  exact beginsAsked hm _ (by omega) (by omega) h2)
 clear hW1 h hc hW hJ hJx hY h0
 refine callsIn_of_wp Tryz.func178 rfl (hF.1 _) ?_ hro
 simp only[Tryz.ntmps178,List.size_toArray,List.length_cons,List.length_nil,Nat.reduceAdd,Nat.reduceSub,Array.replicate_succ,Array.replicate_zero,List.push_toArray,List.append_toArray,List.nil_append,List.cons_append]
 gi_wp2
 rw[← HW1.out]
 clear HW1
 refine wpIn_of_wp hF hro ?_
 refine wp_region_noPanic ?_
 refine wp_region_lexB [.q 0,.q 1,.q 2,.q 3,.q 4,.q 5,.an 7,.b 6,.co 7,.b 8] (by kernel_rfl) (by kernel_rfl) (fun _ _ _ _ h=>h) ?_
 iterate 6(refine wpFl_qL (v:=?_) rfl (Or.inl ⟨by rfl,?_⟩) ?_;rotate_left;(focus(intro w' hSw;obtain⟨g0,g1⟩:=HD.out w' hSw;go_simp;(try with_reducible rfl);done));simp only[Act.put,zzA,zzB,zzC])
 refine wpFl_anL rfl (.cells #[.int .i64 0,.int .i64 0,.int .i64 0] 217 (0,0)) (fun n=>.pointer (some ⟨n,0,none⟩)) ⟨by rfl,fun w'=>?_⟩ ?_
 focus(go_simp;done)
 refine wpFl_bL rfl (fun wa hna hsa K hK=>?_)
 go_simp
 go_at_call 179
 (with_reducible refine(HBG.out _ hsa).mono ?_)
 rintro r wb ⟨rfl,hbb⟩
 refine hK.out _ _ (below_next hsa hbb) (Keeps.below hbb) ?_
 clear hK K hna hsa hbb
 refine wpFl_coL rfl (.cells #[.int .i64 0,.int .i64 0,.int .i64 0] 217 (0,0)) (fun n=>.pointer (some ⟨n,0,none⟩)) (by rfl) (N':=[]) (by rfl) (fun nb we hn_we hs_we hb_nb hz_nb=>?_)
 simp only[Act.put,zzA,zzB,zzC]
 refine wpFl_bL rfl (fun wf hnf hsf K hK=>?_)
 have HZ:=zh (kept_block hz_nb hnf)
 obtain⟨z0,z1,z2⟩:=three_cellsC HZ.out
 have zf:∀ j,wf.frozen? ⟨nb,j,none⟩=false:=fun j=>by unfold World.frozen?;rw[HZ.out];simp
 go_simp
 have HBD:=zh (three_belowC hsf hb_nb (.int .i64 1) (.int .i64 c.ca) (.int .i64 (c.ca+c.a0)))
 have HZN:=zh (three_heapC HZ.out (.int .i64 1) (.int .i64 c.ca) (.int .i64 (c.ca+c.a0)))
 refine hK.out _ _ HBD.out Keeps.nil ?_
 clear hK K hnf hsf z0 z1 z2 zf HZ
 have HNB:Hid (W.heap.size≤nb):=zh (Nat.le_trans HB1.out.size hb_nb)
 clear hn_we hs_we hb_nb hz_nb
 generalize (((wf.setCell ⟨nb,0,none⟩ (.int .i64 1)).setCell ⟨nb,1,none⟩ (.int .i64 c.ca)).setCell ⟨nb,2,none⟩ (.int .i64 (c.ca+c.a0)))=wd at *
 have HBW:=zh (q_next HB1.out HBD.out)
 have HS1:Hid (StAt c bm bl W.heap.size nb (.func (.yield lb) #[] #[]) (.slice none 0 0) vv (staK c 0) wd):=zh (by
  have hx:=HP.out.step HBW.out
  exact⟨hx.m,hx.l,kept_block HX1.out HBD.out,HZN.out,hx.mach,hx.eff⟩)
 have HJ1:=zh (HJ.out nb [] W wd HNB.out (H0.out nb HNB.out) (IStepS.below HBW.out))
 clear HD HBG H0 HBD HZN HX1
 obtain⟨fn,tmps,assign,body,hy,hRR⟩:=HY.out nb [] (staK c 0) wd HNB.out (ltA HS1.out.now) HJ1.out (by decide)
 dsimp only [stE,staK]at hy
 obtain⟨g0,g1,g2⟩:=three_cellsC HS1.out.now
 simp only[staK]at g0 g1 g2
 have gy:=cell_of_row wd _ 0 _ _ _ HS1.out.y
 refine wpFl_nil ?_
 refine NoPanic.normal ?_
 gi_wp2
 refine⟨fun h=>(by rw[hF.2.1]at h;cases h),hRR.mono ?_⟩
 rintro r W4 (⟨rfl,hJ4,hk4⟩ | ⟨rfl,hJx4⟩)
 rotate_left
 ·clear hy hRR g0 g1 g2 gy
  gi_wp2
  refine bodyPost_ret (results_none rfl _ _ _) rfl ?_
  exact⟨⟨_,rfl⟩,.inr ⟨nb,_,HNB.out,trivial,hJx4⟩⟩
 have HS4:=zh (HS1.out.kp hk4)
 have HJ4:=zh hJ4
 have gl:=cell_of_row W4 _ 0 _ _ _ HS4.out.l
 clear hy hRR hk4 hJ4 g0 g1 g2 gy HS1 HJ1 HBW
 have HU:Hid (∀ j,0≤j→j < 3→(staK c j).2.2≤4611686018427387904):=zh (fun j _ hj=>by
  obtain⟨h0,h1,h3,ha⟩:=HC.out
  rcases(by omega:j=0∨j=1∨j=2)with rfl | rfl | rfl <;> simp only[staK] <;> omega)
 gi_wp2
 gi_loopw [24] (fun i wr=>i=.int .i64 0∧wr=W4) (fun _ _=>0)
 case atStart=>exact⟨rfl,rfl⟩
 case round =>
  obtain⟨rfl,rfl⟩:=hrel
  gi_wp2
  refine⟨hF.1 _,fun h=>(by rw[hF.2.1]at h;cases h),(alone_any hF hro HC.out (fun pre A B=>HJ.out nb pre A B HNB.out) (fun pre x W1 h1 h2 h3=>HY.out nb pre x W1 HNB.out h1 h2 h3) _ (k:=0) (e:=3) (by decide) (by decide) HU.out (.inl (by decide:(-1:Int) < 0)) HS4.out HJ4.out (Nat.le_refl 4)).mono ?_⟩
  rintro r W5 (⟨rfl,h1,h2,-⟩ | ⟨rfl,pre',h2⟩)
  ·have H2:=zh h2
   clear h1 h2
   gi_wp2
   go_end0
   exact⟨⟨_,rfl⟩,.inl ⟨nb,_,HNB.out,rfl,H2.out⟩⟩
  ·have H2:=zh h2
   clear h2
   gi_wp2
   go_end0
   exact⟨⟨_,rfl⟩,.inr ⟨nb,_,HNB.out,trivial,H2.out⟩⟩
theorem step_append_int {ops:Array Oper}{o:Oper}{a:Act}{w:World}{Q:Exit→Act→World→Prop}{K:Act→World→Prop}{E:Prop}(hgd:o.guard=none)(s x:Operand)(i:Int)
  (ho:o.op=.call { callee:=.builtin .append,args:=#[s,x],argTypes:=#[60,60] }) {b:Nat} (hs:a.eval s=.slice none 0 0) (hx:a.eval x=.slice (some ⟨b,0,none⟩) 1 1) (hb:w.heap[b]?=some (.cells #[.int .i64 i] 3 (0,0)))
  (h:∀ v' w',OwnE w' w.heap.size 3 1 v' [[.int .i64 i]]→w.grownBy w' none→K (a.put o.dst v') w'):if Region.wanted o (yielded ops a.tmps)=true then Oper.wp Tryz.prog o a w K Q else E:=by
 have hw:Region.wanted o (yielded ops a.tmps)=true:=by simp[Region.wanted,hgd]
 rw[if_pos hw]
 have hinfo:(Tryz.prog.info? 3).map (fun i=>(i.zero,i.size,i.bytes))=some (some (.int .i64 0),1,8):=by kernel_rfl
 obtain⟨j,i1,i2,i3,i4⟩:=info_parts hinfo
 refine wp_append_own w s x 60 ho w.heap.size 3 j _ 1 8 (by kernel_rfl) i1 i2 i3 i4 rfl (by decide) (.slice none 0 0) 0 [] hs (OwnE.nil _ _ _ _) ⟨b,0,none⟩ 1 1 [.int .i64 i] hx rfl ?_ ?_ (by unfold maxLen;omega) (by omega) (Nat.le_refl _) ?_
 ·intro k u hk
  rcases k with _ | k
  ·obtain rfl:=Option.some.inj hk
   exact cell_of_row w b 0 _ _ _ hb
  ·cases hk
 ·intro u hu
  rw[List.mem_singleton.1 hu]
  rfl
 ·intro v' w' h1 h2 _
  exact h v' w' h1 h2
end Go.Proofs.YtjjiikeldpjafaaGreatDoor
