/- Slices of votes, of doubles, of tallies in memory. No condition. -/
import Derived.Test.YtggdcnjaofflbaaGreatDoorMM08
namespace Go.Proofs.YtggdcnjaofflbaaGreatDoor
open Go.RowKit Go.BigFrame
def vcells (v:VoteP):List Value:=[.int .i64 v.car,.int .i64 v.num,.int .i64 v.stp,.string v.val,.string v.sl]
def vagg (v:VoteP):Value:=.agg #[.int .i64 v.car,.int .i64 v.num,.int .i64 v.stp,.string v.val,.string v.sl]
def VS (w:World)(x:Value)(l:List VoteP):Prop:=SliceAt w x 5 (l.map vcells)
theorem VS.nil (w:World):VS w (.slice none 0 0) []:=SliceAt.nil w 5
theorem VS.below {w w':World}{x:Value}{l:List VoteP}(h:VS w x l)(hb:Below w.heap.size w w'):VS w' x l:=SliceAt.below h hb
def VAt (w:World)(b o:Nat)(v:VoteP):Prop :=
 w.cell? ⟨b,o,none⟩=some (.int .i64 v.car)∧w.cell? ⟨b,o+1,none⟩=some (.int .i64 v.num)∧w.cell? ⟨b,o+2,none⟩=some (.int .i64 v.stp)∧w.cell? ⟨b,o+3,none⟩=some (.string v.val)∧w.cell? ⟨b,o+4,none⟩=some (.string v.sl)
theorem VAt.keep {B:Nat}{w w':World}{b o:Nat}{v:VoteP}(h:VAt w b o v)(hb:Below B w w')(hlt:b < B):VAt w' b o v :=
 ⟨cell_keepB hb hlt h.1,cell_keepB hb hlt h.2.1,cell_keepB hb hlt h.2.2.1,cell_keepB hb hlt h.2.2.2.1,cell_keepB hb hlt h.2.2.2.2⟩
theorem VS.opened {w:World}{x:Value}{l:List VoteP}(h:VS w x l):∃ a cap,x=.slice a l.length cap∧l.length≤cap∧cap≤maxLen ∧
  ∀ k v,l[k]?=some v→∃ b off,a=some ⟨b,off,none⟩∧b < w.heap.size∧VAt w b (off+k*5) v:=by
 obtain⟨a,cap,hv,h1,h2,h3⟩:=h
 rw[List.length_map]at hv h1
 refine⟨a,cap,hv,h1,h2,fun k v hz=>?_⟩
 rcases h3 with h3 | ⟨b,off,ha,hb,hc⟩
 ·rw[List.map_eq_nil_iff]at h3
  subst h3
  cases hz
 ·have hk:(l.map vcells)[k]?=some (vcells v):=by rw[List.getElem?_map,hz];rfl
  exact⟨b,off,ha,hb,hc k _ hk 0 _ rfl,hc k _ hk 1 _ rfl,hc k _ hk 2 _ rfl,hc k _ hk 3 _ rfl,hc k _ hk 4 _ rfl⟩
theorem VS.form {w:World}{x:Value}{l:List VoteP}(h:VS w x l):∃ a n c,x=.slice a n c:=by
 obtain⟨a,c,h,_⟩:=h.opened
 exact⟨_,_,_,h⟩
def dcells (d:VoteP × VoteP):List Value:=vcells d.1++vcells d.2
def DS (w:World)(x:Value)(l:List (VoteP × VoteP)):Prop:=SliceAt w x 10 (l.map dcells)
theorem DS.nil (w:World):DS w (.slice none 0 0) []:=SliceAt.nil w 10
theorem DS.below {w w':World}{x:Value}{l:List (VoteP × VoteP)}(h:DS w x l)(hb:Below w.heap.size w w'):DS w' x l:=SliceAt.below h hb
def DAt (w:World)(b o:Nat)(d:VoteP × VoteP):Prop:=VAt w b o d.1∧VAt w b (o+5) d.2
theorem DS.opened {w:World}{x:Value}{l:List (VoteP × VoteP)}(h:DS w x l):∃ a cap,x=.slice a l.length cap∧l.length≤cap∧cap≤maxLen ∧
  ∀ k d,l[k]?=some d→∃ b off,a=some ⟨b,off,none⟩∧b < w.heap.size∧DAt w b (off+k*10) d:=by
 obtain⟨a,cap,hv,h1,h2,h3⟩:=h
 rw[List.length_map]at hv h1
 refine⟨a,cap,hv,h1,h2,fun k d hz=>?_⟩
 rcases h3 with h3 | ⟨b,off,ha,hb,hc⟩
 ·rw[List.map_eq_nil_iff]at h3
  subst h3
  cases hz
 ·have hk:(l.map dcells)[k]?=some (dcells d):=by rw[List.getElem?_map,hz];rfl
  exact⟨b,off,ha,hb,⟨hc k _ hk 0 _ rfl,hc k _ hk 1 _ rfl,hc k _ hk 2 _ rfl,hc k _ hk 3 _ rfl,hc k _ hk 4 _ rfl⟩,hc k _ hk 5 _ rfl,hc k _ hk 6 _ rfl,hc k _ hk 7 _ rfl,hc k _ hk 8 _ rfl,hc k _ hk 9 _ rfl⟩
theorem DS.form {w:World}{x:Value}{l:List (VoteP × VoteP)}(h:DS w x l):∃ a n c,x=.slice a n c:=by
 obtain⟨a,c,h,_⟩:=h.opened
 exact⟨_,_,_,h⟩
def tcells (t:ByteArray × Nat):List Value:=[.string t.1,.int .i64 (t.2:Int)]
def TS (w:World)(x:Value)(l:List (ByteArray × Nat)):Prop:=SliceAt w x 2 (l.map tcells)
theorem TS.nil (w:World):TS w (.slice none 0 0) []:=SliceAt.nil w 2
theorem TS.below {w w':World}{x:Value}{l:List (ByteArray × Nat)}(h:TS w x l)(hb:Below w.heap.size w w'):TS w' x l:=SliceAt.below h hb
theorem TS.opened {w:World}{x:Value}{l:List (ByteArray × Nat)}(h:TS w x l):∃ a cap,x=.slice a l.length cap∧l.length≤cap∧cap≤maxLen ∧
  ∀ k t,l[k]?=some t→∃ b off,a=some ⟨b,off,none⟩∧b < w.heap.size∧w.cell? ⟨b,off+k*2,none⟩=some (.string t.1)∧w.cell? ⟨b,off+k*2+1,none⟩=some (.int .i64 (t.2:Int)):=by
 obtain⟨a,cap,hv,h1,h2,h3⟩:=h
 rw[List.length_map]at hv h1
 refine⟨a,cap,hv,h1,h2,fun k t hz=>?_⟩
 rcases h3 with h3 | ⟨b,off,ha,hb,hc⟩
 ·rw[List.map_eq_nil_iff]at h3
  subst h3
  cases hz
 ·have hk:(l.map tcells)[k]?=some (tcells t):=by rw[List.getElem?_map,hz];rfl
  exact⟨b,off,ha,hb,hc k _ hk 0 _ rfl,hc k _ hk 1 _ rfl⟩
theorem TS.form {w:World}{x:Value}{l:List (ByteArray × Nat)}(h:TS w x l):∃ a n c,x=.slice a n c:=by
 obtain⟨a,c,h,_⟩:=h.opened
 exact⟨_,_,_,h⟩
/-! ### The order -/
def ltV (a b:VoteP):Prop :=
 a.car < b.car∨(a.car=b.car∧(a.num < b.num∨(a.num=b.num∧(a.stp < b.stp∨(a.stp=b.stp∧(a.val.toList < b.val.toList∨(a.val.toList=b.val.toList∧a.sl.toList < b.sl.toList)))))))
theorem u8l_irrefl (l:List UInt8):¬ l < l:=List.lt_irrefl l
theorem u8l_trans {a b c:List UInt8}(h:a < b)(h':b < c):a < c:=List.lt_trans h h'
theorem u8l_tri (a b:List UInt8):a < b∨a=b∨b < a:=by
 by_cases h:a < b
 ·exact .inl h
 ·rcases Decidable.em (b < a)with h' | h'
  ·exact .inr (.inr h')
  ·exact .inr (.inl (List.le_antisymm (List.not_lt.1 h') (List.not_lt.1 h)))
theorem ltV_irrefl (a:VoteP):¬ ltV a a:=by
 unfold ltV
 have h1:=u8l_irrefl a.val.toList
 have h2:=u8l_irrefl a.sl.toList
 rintro(h | ⟨_,h | ⟨_,h | ⟨_,h | ⟨_,h⟩⟩⟩⟩)
 ·omega
 ·omega
 ·omega
 ·exact h1 h
 ·exact h2 h
theorem ltV_trans {a b c:VoteP}(h:ltV a b)(h':ltV b c):ltV a c:=by
 unfold ltV at *
 rcases h with h | ⟨e1,h⟩
 ·rcases h' with h' | ⟨e1',_⟩
  ·exact .inl (by omega)
  ·exact .inl (by omega)
 rcases h' with h' | ⟨e1',h'⟩
 ·exact .inl (by omega)
 refine .inr ⟨by omega,?_⟩
 rcases h with h | ⟨e2,h⟩
 ·rcases h' with h' | ⟨e2',_⟩
  ·exact .inl (by omega)
  ·exact .inl (by omega)
 rcases h' with h' | ⟨e2',h'⟩
 ·exact .inl (by omega)
 refine .inr ⟨by omega,?_⟩
 rcases h with h | ⟨e3,h⟩
 ·rcases h' with h' | ⟨e3',_⟩
  ·exact .inl (by omega)
  ·exact .inl (by omega)
 rcases h' with h' | ⟨e3',h'⟩
 ·exact .inl (by omega)
 refine .inr ⟨by omega,?_⟩
 rcases h with h | ⟨e4,h⟩
 ·rcases h' with h' | ⟨e4',_⟩
  ·exact .inl (u8l_trans h h')
  ·exact .inl (e4' ▸ h)
 rcases h' with h' | ⟨e4',h'⟩
 ·exact .inl (e4 ▸ h')
 exact .inr ⟨e4.trans e4',u8l_trans h h'⟩
theorem bytes_ext {a b:ByteArray}(h:a.toList=b.toList):a=b:=by
 have:=same_str a b
 rw[h]at this
 simp at this
 exact this
theorem ltV_tri (a b:VoteP):ltV a b∨a=b∨ltV b a:=by
 unfold ltV
 rcases Int.lt_trichotomy a.car b.car with h | h1 | h
 ·exact .inl (.inl h)
 ·rcases Int.lt_trichotomy a.num b.num with h | h2 | h
  ·exact .inl (.inr ⟨h1,.inl h⟩)
  ·rcases Int.lt_trichotomy a.stp b.stp with h | h3 | h
   ·exact .inl (.inr ⟨h1,.inr ⟨h2,.inl h⟩⟩)
   ·rcases u8l_tri a.val.toList b.val.toList with h | h4 | h
    ·exact .inl (.inr ⟨h1,.inr ⟨h2,.inr ⟨h3,.inl h⟩⟩⟩)
    ·rcases u8l_tri a.sl.toList b.sl.toList with h | h5 | h
     ·exact .inl (.inr ⟨h1,.inr ⟨h2,.inr ⟨h3,.inr ⟨h4,h⟩⟩⟩⟩)
     ·refine .inr (.inl ?_)
      obtain⟨c,n,s,v,l⟩:=a
      obtain⟨c',n',s',v',l'⟩:=b
      simp only at h1 h2 h3 h4 h5
      rw[h1,h2,h3,bytes_ext h4,bytes_ext h5]
     ·exact .inr (.inr (.inr ⟨h1.symm,.inr ⟨h2.symm,.inr ⟨h3.symm,.inr ⟨h4.symm,h⟩⟩⟩⟩))
    ·exact .inr (.inr (.inr ⟨h1.symm,.inr ⟨h2.symm,.inr ⟨h3.symm,.inl h⟩⟩⟩))
   ·exact .inr (.inr (.inr ⟨h1.symm,.inr ⟨h2.symm,.inl h⟩⟩))
  ·exact .inr (.inr (.inr ⟨h1.symm,.inl h⟩))
 ·exact .inr (.inr (.inl h))
theorem sorted_one:∀ {L M:List VoteP},L.Pairwise ltV→M.Pairwise ltV→(∀ v,v∈L ↔ v∈M)→L=M:=by
 intro L
 induction L with
 | nil =>
  intro M _ _ h
  cases M with
  | nil=>rfl
  | cons b M=>exact absurd ((h b).2 (List.mem_cons_self ..)) List.not_mem_nil
 | cons a L ih =>
  intro M hL hM h
  cases M with
  | nil=>exact absurd ((h a).1 (List.mem_cons_self ..)) List.not_mem_nil
  | cons b M =>
   obtain⟨l1,l2⟩:=List.pairwise_cons.1 hL
   obtain⟨m1,m2⟩:=List.pairwise_cons.1 hM
   have hab:a=b:=by
    rcases List.mem_cons.1 ((h a).1 (List.mem_cons_self ..))with e | e
    ·exact e
    ·rcases List.mem_cons.1 ((h b).2 (List.mem_cons_self ..))with e' | e'
     ·exact e'.symm
     ·exact absurd (ltV_trans (l1 b e') (m1 a e)) (ltV_irrefl a)
   subst hab
   congr 1
   refine ih l2 m2 fun v=>⟨fun hv=>?_,fun hv=>?_⟩
   ·rcases List.mem_cons.1 ((h v).1 (List.mem_cons_of_mem _ hv))with e | e
    ·subst e;exact absurd (l1 v hv) (ltV_irrefl v)
    ·exact e
   ·rcases List.mem_cons.1 ((h v).2 (List.mem_cons_of_mem _ hv))with e | e
    ·subst e;exact absurd (m1 v hv) (ltV_irrefl v)
    ·exact e
/-! ### Doubles -/
def oneV (a b:VoteP):Bool:=decide (a.car=b.car∧a.num=b.num∧a.stp=b.stp)
def dblL:Option VoteP→List VoteP→List (VoteP × VoteP)
 | _,[]=>[]
 | _,[_]=>[]
 | p,a::b::l=>(if oneV a b=true∧(∀ q,p=some q→oneV q b=false)then[(a,b)]else[])++dblL (some a) (b::l)
theorem valid_len {ks:List ByteArray}(h:validC ks=true):ks.length=1∨ks.length=4∨ks.length=7:=by
 unfold validC at h
 rw[Bool.and_eq_true]at h
 exact of_decide_eq_true h.1
theorem enough_len {ks:List ByteArray}(h:validC ks=true):2*enoughC ks=ks.length+1+(ks.length - 1) / 3∧enoughC ks≤ks.length:=by
 unfold enoughC
 rcases valid_len h with e | e | e <;> rw[e] <;> decide
theorem who_lt {ks:List ByteArray}{num stp:Int}{val:ByteArray}{pool:List VoteP}{i:Nat}(h:i∈whoL ks num stp val pool):i < ks.length:=(who_mem.1 h).1
instance (a b:VoteP):Decidable (ltV a b):=by unfold ltV;infer_instance
/-! ### Votes -/
def insV (x:VoteP):List VoteP→List VoteP
 | []=>[x]
 | a::l=>if ltV a x then a::insV x l else if a=x then a::l else x::a::l
theorem insV_mem (x:VoteP):∀(L:List VoteP) (v:VoteP),v∈insV x L ↔ v=x∨v∈L:=by
 intro L
 induction L with
 | nil=>intro v;simp[insV]
 | cons a l ih =>
  intro v
  unfold insV
  split
  ·rw[List.mem_cons,ih,List.mem_cons]
   constructor
   ·rintro(h | h | h)
    ·exact .inr (.inl h)
    ·exact .inl h
    ·exact .inr (.inr h)
   ·rintro(h | h | h)
    ·exact .inr (.inl h)
    ·exact .inl h
    ·exact .inr (.inr h)
  ·split
   ·rename_i e
    subst e
    rw[List.mem_cons]
    constructor
    ·exact .inr
    ·rintro(h | h)
     ·exact .inl h
     ·exact h
   ·rw[List.mem_cons]
theorem insV_sorted (x:VoteP):∀(L:List VoteP),L.Pairwise ltV→(insV x L).Pairwise ltV:=by
 intro L
 induction L with
 | nil=>intro _;exact List.pairwise_singleton ..
 | cons a l ih =>
  intro h
  obtain⟨h1,h2⟩:=List.pairwise_cons.1 h
  unfold insV
  split
  ·rename_i hlt
   refine List.pairwise_cons.2 ⟨fun b hb=>?_,ih h2⟩
   rcases(insV_mem x l b).1 hb with e | e
   ·subst e;exact hlt
   ·exact h1 b e
  ·split
   ·exact h
   ·rename_i hn he
    have hxa:ltV x a:=by
     rcases ltV_tri a x with g | g | g
     ·exact absurd g hn
     ·exact absurd g he
     ·exact g
    refine List.pairwise_cons.2 ⟨fun b hb=>?_,h⟩
    rcases List.mem_cons.1 hb with e | e
    ·subst e;exact hxa
    ·exact ltV_trans hxa (h1 b e)
def insVs (L:List VoteP):List VoteP→List VoteP
 | []=>L
 | x::xs=>insVs (insV x L) xs
theorem insVs_mem:∀(xs L:List VoteP) (v:VoteP),v∈insVs L xs ↔ v∈xs∨v∈L:=by
 intro xs
 induction xs with
 | nil=>intro L v;simp[insVs]
 | cons x xs ih =>
  intro L v
  rw[insVs,ih,insV_mem,List.mem_cons]
  constructor
  ·rintro(h | h | h)
   ·exact .inl (.inr h)
   ·exact .inl (.inl h)
   ·exact .inr h
  ·rintro((h | h) | h)
   ·exact .inr (.inl h)
   ·exact .inl h
   ·exact .inr (.inr h)
theorem insVs_sorted:∀(xs L:List VoteP),L.Pairwise ltV→(insVs L xs).Pairwise ltV:=by
 intro xs
 induction xs with
 | nil=>intro L h;exact h
 | cons x xs ih=>intro L h;exact ih _ (insV_sorted x L h)
def sortedV (ks:List ByteArray)(l:List VoteP):List VoteP:=insVs [] (l.filter (genV ks))
theorem sortedV_ok (ks:List ByteArray)(l:List VoteP):(sortedV ks l).Pairwise ltV:=insVs_sorted _ _ List.Pairwise.nil
theorem sortedV_mem {ks:List ByteArray}{l:List VoteP}{v:VoteP}:v∈sortedV ks l ↔ v∈l∧genV ks v=true:=by
 unfold sortedV
 rw[insVs_mem,List.mem_filter]
 simp
theorem sortedV_is {ks:List ByteArray}{l L:List VoteP}(h:L.Pairwise ltV)(hm:∀ v,v∈L ↔ v∈l∧genV ks v=true):L=sortedV ks l :=
 sorted_one h (sortedV_ok ks l) fun v=>by rw[hm,sortedV_mem]
def doublesV (ks:List ByteArray)(pool:List VoteP):List (VoteP × VoteP):=if isPool ks pool=true then dblL none (sortedV ks pool)else[]
/-! ### Values -/
def insB (x:ByteArray):List ByteArray→List ByteArray
 | []=>[x]
 | a::l=>if a.toList < x.toList then a::insB x l else if a=x then a::l else x::a::l
def SortB (L:List ByteArray):Prop:=L.Pairwise fun a b=>a.toList < b.toList
theorem insB_mem (x:ByteArray):∀(L:List ByteArray) (v:ByteArray),v∈insB x L ↔ v=x∨v∈L:=by
 intro L
 induction L with
 | nil=>intro v;simp[insB]
 | cons a l ih =>
  intro v
  unfold insB
  split
  ·rw[List.mem_cons,ih,List.mem_cons]
   constructor
   ·rintro(h | h | h)
    ·exact .inr (.inl h)
    ·exact .inl h
    ·exact .inr (.inr h)
   ·rintro(h | h | h)
    ·exact .inr (.inl h)
    ·exact .inl h
    ·exact .inr (.inr h)
  ·split
   ·rename_i e
    subst e
    rw[List.mem_cons]
    constructor
    ·exact .inr
    ·rintro(h | h)
     ·exact .inl h
     ·exact h
   ·rw[List.mem_cons]
theorem insB_sorted (x:ByteArray):∀(L:List ByteArray),SortB L→SortB (insB x L):=by
 intro L
 induction L with
 | nil=>intro _;exact List.pairwise_singleton ..
 | cons a l ih =>
  intro h
  obtain⟨h1,h2⟩:=List.pairwise_cons.1 h
  unfold insB
  split
  ·rename_i hlt
   refine List.pairwise_cons.2 ⟨fun b hb=>?_,ih h2⟩
   rcases(insB_mem x l b).1 hb with e | e
   ·subst e;exact hlt
   ·exact h1 b e
  ·split
   ·exact h
   ·rename_i hn he
    have hxa:x.toList < a.toList:=by
     rcases u8l_tri a.toList x.toList with g | g | g
     ·exact absurd g hn
     ·exact absurd (bytes_ext g) he
     ·exact g
    refine List.pairwise_cons.2 ⟨fun b hb=>?_,h⟩
    rcases List.mem_cons.1 hb with e | e
    ·subst e;exact hxa
    ·exact u8l_trans hxa (h1 b e)
theorem sortB_one:∀ {L M:List ByteArray},SortB L→SortB M→(∀ v,v∈L ↔ v∈M)→L=M:=by
 intro L
 induction L with
 | nil =>
  intro M _ _ h
  cases M with
  | nil=>rfl
  | cons b M=>exact absurd ((h b).2 (List.mem_cons_self ..)) List.not_mem_nil
 | cons a L ih =>
  intro M hL hM h
  cases M with
  | nil=>exact absurd ((h a).1 (List.mem_cons_self ..)) List.not_mem_nil
  | cons b M =>
   obtain⟨l1,l2⟩:=List.pairwise_cons.1 hL
   obtain⟨m1,m2⟩:=List.pairwise_cons.1 hM
   have hab:a=b:=by
    rcases List.mem_cons.1 ((h a).1 (List.mem_cons_self ..))with e | e
    ·exact e
    ·rcases List.mem_cons.1 ((h b).2 (List.mem_cons_self ..))with e' | e'
     ·exact e'.symm
     ·exact absurd (u8l_trans (l1 b e') (m1 a e)) (u8l_irrefl _)
   subst hab
   congr 1
   refine ih l2 m2 fun v=>⟨fun hv=>?_,fun hv=>?_⟩
   ·rcases List.mem_cons.1 ((h v).1 (List.mem_cons_of_mem _ hv))with e | e
    ·subst e;exact absurd (l1 v hv) (u8l_irrefl _)
    ·exact e
   ·rcases List.mem_cons.1 ((h v).2 (List.mem_cons_of_mem _ hv))with e | e
    ·subst e;exact absurd (m1 v hv) (u8l_irrefl _)
    ·exact e
def insBs (L:List ByteArray):List ByteArray→List ByteArray
 | []=>L
 | x::xs=>insBs (insB x L) xs
theorem insBs_mem:∀(xs L:List ByteArray) (v:ByteArray),v∈insBs L xs ↔ v∈xs∨v∈L:=by
 intro xs
 induction xs with
 | nil=>intro L v;simp[insBs]
 | cons x xs ih =>
  intro L v
  rw[insBs,ih,insB_mem,List.mem_cons]
  constructor
  ·rintro(h | h | h)
   ·exact .inl (.inr h)
   ·exact .inl (.inl h)
   ·exact .inr h
  ·rintro((h | h) | h)
   ·exact .inr (.inl h)
   ·exact .inl h
   ·exact .inr (.inr h)
theorem insBs_sorted:∀(xs L:List ByteArray),SortB L→SortB (insBs L xs):=by
 intro xs
 induction xs with
 | nil=>intro L h;exact h
 | cons x xs ih=>intro L h;exact ih _ (insB_sorted x L h)
def inSlot (ks:List ByteArray)(num stp:Int)(v:VoteP):Bool:=genV ks v && decide (v.num=num∧v.stp=stp)
def valsV (ks:List ByteArray)(num stp:Int)(pool:List VoteP):List ByteArray:=insBs [] ((pool.filter (inSlot ks num stp)).map fun v=>v.val)
theorem valsV_ok (ks:List ByteArray)(num stp:Int)(pool:List VoteP):SortB (valsV ks num stp pool):=insBs_sorted _ _ List.Pairwise.nil
theorem valsV_mem {ks:List ByteArray}{num stp:Int}{pool:List VoteP}{u:ByteArray}:u∈valsV ks num stp pool ↔ ∃ i,i∈whoL ks num stp u pool:=by
 unfold valsV
 rw[insBs_mem,List.mem_map]
 constructor
 ·rintro(⟨v,hv,e⟩ | h)
  ·rw[List.mem_filter]at hv
   obtain⟨h1,h2⟩:=hv
   unfold inSlot at h2
   rw[Bool.and_eq_true]at h2
   obtain⟨e1,e2⟩:=of_decide_eq_true h2.2
   have hg:=gen_facts h2.1
   refine⟨v.car.toNat,who_mem.2 ⟨hg.2.1,v,h1,h2.1,?_⟩⟩
   have:=gen_mk h2.1
   rw[e1,e2,e]at this
   exact this
  ·exact absurd h List.not_mem_nil
 ·rintro⟨i,hi⟩
  obtain⟨h1,v,hv,hg,e⟩:=who_mem.1 hi
  refine .inl ⟨v,List.mem_filter.2 ⟨hv,?_⟩,by rw[e];rfl⟩
  unfold inSlot
  rw[hg,Bool.true_and,e]
  exact decide_eq_true ⟨rfl,rfl⟩
def tallyV (ks:List ByteArray)(num stp:Int)(pool:List VoteP):List (ByteArray × Nat):=if isPool ks pool=true then(valsV ks num stp pool).map fun u=>(u,(whoL ks num stp u pool).length)else[]
def decidedV (ks:List ByteArray)(num stp:Int)(pool:List VoteP):Option ByteArray:=((tallyV ks num stp pool).find? fun t=>decide (enoughC ks≤t.2)).map (·.1)
def convictsV (ks:List ByteArray)(d:VoteP × VoteP):Bool:=oneV d.1 d.2 && decide (d.1.val.toList < d.2.val.toList) && genuineV ks d.1 && genuineV ks d.2
def blameL (a b:List VoteP):List (VoteP × VoteP):=a.filterMap fun v=>(b.find? fun w=>decide (w.car=v.car)).map fun w=>(v,w)
def blameV (ks:List ByteArray)(a b:List VoteP):Option (List (VoteP × VoteP)) :=
 match a,b with
 | v::_,w::_ =>
  if(v.num=w.num∧v.stp=w.stp)∧v.val≠w.val∧checkV ks v.num v.stp v.val a=true∧checkV ks w.num w.stp w.val b=true then
   some (if w.val.toList < v.val.toList then blameL b a else blameL a b)else none
 | _,_=>none
def castOk (key:ByteArray)(car num stp:Int)(val:ByteArray)(hist:List VoteP):Bool :=
 formedV ⟨car,num,stp,val,key⟩ && !hist.any fun w=>decide ((w.car=car∧w.num=num∧w.stp=stp)∧w.val≠val)
def castV (key:ByteArray)(car num stp:Int)(val:ByteArray)(hist:List VoteP):Option VoteP :=
 if castOk key car num stp val hist=true then some ⟨car,num,stp,val,sealV key ⟨car,num,stp,val,key⟩⟩else none
theorem mk_car (ks:List ByteArray)(num stp:Int)(val:ByteArray)(i:Nat):(mkV ks num stp val i).car=i:=rfl
theorem blame_mk (ks:List ByteArray)(num stp:Int)(u t:ByteArray)(A B:List Nat) :
  blameL (A.map (mkV ks num stp u)) (B.map (mkV ks num stp t))=(A.filter fun i=>B.contains i).map fun i=>(mkV ks num stp u i,mkV ks num stp t i):=by
 unfold blameL
 have key:∀ i:Nat,(B.map (mkV ks num stp t)).find? (fun w=>decide (w.car=(mkV ks num stp u i).car))=if B.contains i=true then some (mkV ks num stp t i)else none:=by
  intro i
  induction B with
  | nil=>rfl
  | cons j B ih =>
   rw[List.map_cons]
   by_cases e:j=i
   ·subst e
    rw[List.find?_cons_of_pos (by rw[mk_car,mk_car];exact decide_eq_true rfl)]
    simp
   ·rw[List.find?_cons_of_neg (by rw[mk_car,mk_car];simp;omega),ih]
    have e':¬ i=j:=fun h=>e h.symm
    simp[e']
 induction A with
 | nil=>rfl
 | cons i A ih =>
  rw[List.map_cons]
  cases h:B.contains i with
  | true =>
   rw[List.filterMap_cons_some (b:=(mkV ks num stp u i,mkV ks num stp t i)) (by rw[key,h];rfl),ih,List.filter_cons_of_pos (by simpa using h)]
   rfl
  | false =>
   rw[List.filterMap_cons_none (by rw[key,h];rfl),ih,List.filter_cons_of_neg (by simp at h;simpa using h)]
def unzig (z:Nat):Int:=if z % 2=0 then((z / 2:Nat):Int)else -((z / 2:Nat):Int) - 1
def intL:Nat→Nat→Nat→List UInt8→Option (Int × Nat)
 | 0,_,_,_=>none
 | _+1,_,_,[]=>none
 | f+1,i,z,b::l=>if 128≤b.toNat then intL f (i+1) (z+b.toNat % 128*128 ^ i) l
  else if(b.toNat=0∧0 < i)∨unzig (z+b.toNat % 128*128 ^ i) < -4611686018427387903 then none else some (unzig (z+b.toNat % 128*128 ^ i),i+1)
theorem u8_nat {n:Nat}(h:n < 256):(UInt8.ofNat n).toNat=n:=by
 rw[UInt8.toNat_ofNat']
 omega
theorem intL_grp:∀(f g i z m:Nat) (rest:List UInt8),m < 128 ^ (f+1)→f < g→(0 < i→0 < m)→¬ unzig (z+m*128 ^ i) < -4611686018427387903→intL g i z (grp f m++rest)=some (unzig (z+m*128 ^ i),i+(grp f m).length):=by
 intro f
 induction f with
 | zero =>
  intro g i z m rest hm hg hi hn
  cases g with
  | zero=>omega
  | succ g =>
   have hm':m < 128:=by simpa using hm
   have e:(UInt8.ofNat m).toNat=m:=u8_nat (by omega)
   unfold grp
   rw[List.cons_append,List.nil_append,intL,e,if_neg (by omega),Nat.mod_eq_of_lt hm',if_neg]
   ·rfl
   ·rintro(⟨h1,h2⟩ | h)
    ·have:=hi h2
     omega
    ·exact hn h
 | succ f ih =>
  intro g i z m rest hm hg hi hn
  cases g with
  | zero=>omega
  | succ g =>
   by_cases h:m < 128
   ·have e:(UInt8.ofNat m).toNat=m:=u8_nat (by omega)
    unfold grp
    rw[if_pos h,List.cons_append,List.nil_append,intL,e,if_neg (by omega),Nat.mod_eq_of_lt h,if_neg]
    ·rfl
    ·rintro(⟨h1,h2⟩ | h')
     ·have:=hi h2
      omega
     ·exact hn h'
   ·have e:(UInt8.ofNat (m % 128+128)).toNat=m % 128+128:=u8_nat (by omega)
    have e2:(m % 128+128) % 128=m % 128:=by omega
    have hz:z+m % 128*128 ^ i+m / 128*128 ^ (i+1)=z+m*128 ^ i:=by
     have h1:=Nat.mod_add_div m 128
     have h2:m*128 ^ i=m % 128*128 ^ i+m / 128*128 ^ (i+1):=by
      calc m*128 ^ i=(m % 128+128*(m / 128))*128 ^ i:=by rw[h1]
       _=m % 128*128 ^ i+m / 128*128 ^ (i+1):=by rw[Nat.add_mul,Nat.pow_succ,Nat.mul_comm 128 (m / 128),Nat.mul_assoc,Nat.mul_comm 128 (128 ^ i)]
     omega
    have hd:0 < m / 128:=Nat.div_pos (by omega) (by omega)
    have step:=ih g (i+1) (z+m % 128*128 ^ i) (m / 128) rest (by rw[Nat.div_lt_iff_lt_mul (by omega),← Nat.pow_succ];exact hm) (by omega) (fun _=>hd) (by rw[hz];exact hn)
    rw[hz]at step
    unfold grp
    rw[if_neg h,List.cons_append,intL,e,if_pos (by omega),e2,step,List.length_cons]
    congr 2
    omega
theorem intL_is:∀(g i z:Nat) (l:List UInt8) (n:Int) (k:Nat),intL g i z l=some (n,k)→∃ m rest,m < 128 ^ g∧n=unzig (z+m*128 ^ i)∧l=grp (g - 1) m++rest∧k=i+(grp (g - 1) m).length∧(0 < i→0 < m):=by
 intro g
 induction g with
 | zero=>intro i z l n k h;cases h
 | succ g ih =>
  intro i z l n k h
  cases l with
  | nil=>cases h
  | cons b l =>
   rw[intL]at h
   have hb:=b.toNat_lt
   have eb:UInt8.ofNat b.toNat=b:=UInt8.ofNat_toNat
   by_cases hge:128≤b.toNat
   ·rw[if_pos hge]at h
    obtain⟨m,rest,h1,h2,h3,h4,h5⟩:=ih _ _ _ _ _ h
    have hm:=h5 (by omega)
    cases g with
    | zero =>
     simp at h1
     omega
    | succ g =>
     have e1:(b.toNat % 128+128*m) % 128=b.toNat % 128:=by omega
     have e2:(b.toNat % 128+128*m) / 128=m:=by omega
     have eg:grp (g+1) (b.toNat % 128+128*m)=b::grp g m:=by
      rw[grp,if_neg (by omega),e1,e2,show b.toNat % 128+128=b.toNat by omega,eb]
     refine⟨b.toNat % 128+128*m,rest,?_,?_,?_,?_,fun _=>by omega⟩
     ·rw[Nat.pow_succ]
      have:m+1≤128 ^ (g+1):=h1
      omega
     ·rw[h2]
      congr 1
      rw[Nat.add_mul,Nat.pow_succ,Nat.mul_comm 128 m,Nat.mul_assoc,Nat.mul_comm 128 (128 ^ i)]
      omega
     ·show b::l=grp (g+1) _++rest
      rw[eg,h3]
      rfl
     ·show k=i+(grp (g+1) _).length
      rw[eg,h4,List.length_cons]
      show i+1+(grp g m).length=_
      omega
   ·rw[if_neg hge]at h
    split at h
    ·cases h
    ·rename_i hc
     injection h with h
     injection h with h1 h2
     have eg:grp g b.toNat=[b]:=by
      cases g with
      | zero=>rw[grp,eb]
      | succ g=>rw[grp,if_pos (by omega),eb]
     refine⟨b.toNat,l,?_,?_,?_,?_,fun h0=>?_⟩
     ·have:128 ^ 1≤128 ^ (g+1):=Nat.pow_le_pow_right (by omega) (by omega)
      omega
     ·rw[← h1,Nat.mod_eq_of_lt (by omega)]
     ·show b::l=grp g b.toNat++l
      rw[eg]
      rfl
     ·show k=i+(grp g b.toNat).length
      rw[eg,← h2]
      rfl
     ·rcases Nat.eq_zero_or_pos b.toNat with e | e
      ·exact absurd (.inl ⟨e,h0⟩) hc
      ·exact e
theorem unzig_even (n:Nat):unzig (2*n)=n:=by
 unfold unzig
 rw[if_pos (by omega)]
 congr 1
 omega
theorem int_put {n:Int}(h:0≤n∧n≤99999999)(rest:List UInt8):intL 9 0 0 (putN n++rest)=some (n,(putN n).length):=by
 unfold putN
 have e:unzig (0+2*n.toNat*128 ^ 0)=n:=by
  rw[Nat.zero_add,Nat.pow_zero,Nat.mul_one,unzig_even]
  omega
 have:=intL_grp 3 9 0 0 (2*n.toNat) rest (by omega) (by omega) (by omega) (by rw[e];omega)
 rw[e,Nat.zero_add]at this
 exact this
def bytesOf (l:List UInt8):ByteArray:=⟨l.toArray⟩
theorem bytesOf_list (s:ByteArray):bytesOf s.data.toList=s:=by
 cases s
 unfold bytesOf
 simp
theorem list_bytesOf (l:List UInt8):(bytesOf l).data.toList=l:=by
 unfold bytesOf
 simp
def voteTail (a c num stp:Int)(l:List UInt8):Option VoteP :=
 if l.length=64∧a=5∧formedV ⟨c,num,stp,bytesOf (l.take 32),bytesOf (l.drop 32)⟩=true then some ⟨c,num,stp,bytesOf (l.take 32),bytesOf (l.drop 32)⟩else none
def decodeL (l:List UInt8):Option VoteP :=
 match intL 9 0 0 l with
 | none=>none
 | some (a,k1)=>match intL 9 0 0 (l.drop k1)with
  | none=>none
  | some (c,k2)=>match intL 9 0 0 ((l.drop k1).drop k2)with
   | none=>none
   | some (num,k3)=>match intL 9 0 0 (((l.drop k1).drop k2).drop k3)with
    | none=>none
    | some (stp,k4)=>voteTail a c num stp ((((l.drop k1).drop k2).drop k3).drop k4)
def decodeV (s:ByteArray):Option VoteP:=decodeL s.data.toList
def encodeV (v:VoteP):Option ByteArray:=if formedV v=true then some (encV v)else none
theorem encV_list (v:VoteP):(encV v).data.toList=putN 5++(putN v.car++(putN v.num++(putN v.stp++(v.val.data.toList++v.sl.data.toList)))):=by
 unfold encV voteC
 rw[ByteArray.data_append]
 simp
theorem decode_enc {v:VoteP}(h:formedV v=true):decodeV (encV v)=some v:=by
 obtain⟨a1,a2,a3,a4,a5⟩:=formed_facts h
 unfold decodeV
 rw[encV_list]
 unfold decodeL
 rw[int_put (by omega)]
 simp only[List.drop_left]
 rw[int_put (by omega)]
 simp only[List.drop_left]
 rw[int_put (by omega)]
 simp only[List.drop_left]
 rw[int_put (by omega)]
 simp only[List.drop_left]
 have l1:v.val.data.toList.length=32:=by
  have:v.val.data.size=32:=a4
  rw[Array.length_toList]
  exact this
 have l2:v.sl.data.toList.length=32:=by
  have:v.sl.data.size=32:=a5
  rw[Array.length_toList]
  exact this
 have t1:(v.val.data.toList++v.sl.data.toList).take 32=v.val.data.toList:=by
  rw[← l1,List.take_left]
 have t2:(v.val.data.toList++v.sl.data.toList).drop 32=v.sl.data.toList:=by
  rw[← l1,List.drop_left]
 unfold voteTail
 rw[t1,t2,bytesOf_list,bytesOf_list,if_pos ⟨by rw[List.length_append,l1,l2],rfl,h⟩]
theorem q_next {w W W':World}(h:Below w.heap.size w W)(h':Below W.heap.size W W'):Below w.heap.size w W':=h.trans (h'.mono h.size)
theorem below_grownQ {w w':World}(hb:Below w.heap.size w w'):w.grownBy w' none:=⟨hb.os,hb.tape,hb.output,hb.size,fun i hi _=>hb.block i hi⟩
theorem builder_keepQ {T e:TypeId}{B b:Nat}{p:Value}{bs:List Value}{w w':World}(h:Lib.BuilderAt T e B b p bs w)(hb:Below w.heap.size w w'):Lib.BuilderAt T e B b p bs w':=by
 have hlt:=h.lt
 obtain⟨hB,v,hbk,hown,hne⟩:=h
 exact⟨hB,v,(hb.block b hlt).trans hbk,owns_any hown (below_grownQ hb),hne⟩
theorem isBuilder_keepQ {T e:TypeId}{B b:Nat}{bs:List Value}{w w':World}(h:Lib.IsBuilder T e B b bs w)(hb:Below w.heap.size w w'):Lib.IsBuilder T e B b bs w':=by
 rcases h with h | h
 ·exact .inl (builder_keepQ h hb)
 ·exact .inr (builder_keepQ h hb)
/-! ### Valid -/
set_option maxHeartbeats 1000000 in
theorem indexInt_any {w:World}{v:Value}{l:List Int}(hi:SliceAt w v 1 (icells l))(n:Int) :
  Calls Tryz.prog 138 #[v,.int .i64 n] w fun e w'=>e=.returned (.int .i64 (firstIdx (fun x=>n == x) l 0))∧w'=w:=by
 obtain⟨a,cap,rfl,l1,l2,l3⟩:=hi
 have hlen:(icells l).length=l.length:=by unfold icells;rw[List.length_map]
 rw[hlen]at l1
 rw[hlen]
 have H3:Hid (∀ k x,l[k]?=some x→∃ b off,a=some ⟨b,off,none⟩∧w.cell? ⟨b,off+k,none⟩=some (.int .i64 x)):=zh (fun k x hx=>by
  rcases l3 with l3 | ⟨b,off,ha,_,hc⟩
  ·unfold icells at l3
   rw[List.map_eq_nil_iff]at l3
   subst l3
   cases hx
  ·refine⟨b,off,ha,?_⟩
   have hk:(icells l)[k]?=some [.int .i64 x]:=by unfold icells;rw[List.getElem?_map,hx];rfl
   have:=hc k _ hk 0 _ rfl
   simpa using this)
 clear l3 hlen
 unfold maxLen at l2
 obtain⟨m,hm⟩:∃ m,m=l.length:=⟨_,rfl⟩
 rw[← hm]at l1 ⊢
 have HM:=zh hm
 clear hm
 go_enter Tryz.func138,Tryz.ntmps138
 go_wp2
 go_loop [5,8] (fun _ i=>∃ k:Nat,k≤m∧i=.int .i64 k∧Hid (∀ j q,j < k→l[j]?=some q→(n == q)=false)) (fun _ i=>m - (intOf i).toNat)
 case atStart=>exact⟨0,by omega,rfl,(by intro j q hj;omega)⟩
 case round =>
  obtain⟨k,hk,rfl,hall⟩:=hrel
  by_cases hlt:k < m
  ·obtain⟨q,eq⟩:∃ q,l[k]?=some q:=⟨_,List.getElem?_eq_getElem (by rw[← HM.out];exact hlt)⟩
   obtain⟨b,off,rfl,c1⟩:=H3.out k q eq
   have EQ:=zh eq
   clear eq
   by_cases hp:(n == q)=true
   ·have HP:=zh hp
    go_wp2
    go_ret
    refine⟨ret_int ?_,rfl⟩
    rw[firstIdx_drop _ l k 0 hall.out (by rw[← HM.out];omega)]
    rw[drop_get EQ.out,firstIdx,if_pos HP.out];omega
   ·have hp':(n == q)=false:=by simpa using hp
    have HP:=zh hp'
    clear hp
    go_wp2
    go_round
    case rel =>
     refine⟨k+1,by omega,by go_num,?_⟩
     intro j q' hj hq
     by_cases hjk:j=k
     ·subst hjk;rw[EQ.out]at hq;cases hq;exact HP.out
     ·exact hall.out j q' (by omega) hq
    case measure=>simp[intOf];omega
  ·go_wp2
   go_ret
   refine⟨ret_int ?_,rfl⟩
   rw[firstIdx_drop _ l k 0 hall.out (by rw[← HM.out];omega),List.drop_eq_nil_of_le (by rw[← HM.out];omega),firstIdx]
set_option maxHeartbeats 400000 in
theorem containsInt_any {w:World}{v:Value}{l:List Int}(hi:SliceAt w v 1 (icells l))(n:Int) :
  Calls Tryz.prog 99 #[v,.int .i64 n] w fun e w'=>e=.returned (.bool (l.any fun x=>n == x))∧w'=w:=by
 have HF:=zh (firstIdx_neg (fun x=>n == x) l 0 (by omega))
 generalize hx:firstIdx (fun x=>n == x) l 0=i at *
 have hc:=indexInt_any hi n
 rw[hx]at hc
 clear hx
 have HC:=zh hc
 obtain⟨a,cap,rfl,_⟩:=hi
 clear hc
 go_enter Tryz.func99,Tryz.ntmps99
 go_wp2_with (go_at_call 138;refine HC.out.mono ?_;rintro e w1 ⟨rfl,rfl⟩)
 go_ret
 exact⟨ret_bool HF.out,rfl⟩
theorem row147 (w:World)(b:Nat)(h:w.heap[b]?=some (.cells #[.int .i64 1,.int .i64 4,.int .i64 7] 3 (0,0))):SliceAt w (.slice (some ⟨b,0,none⟩) 3 3) 1 (icells [1,4,7]):=by
 refine⟨_,3,rfl,Nat.le_refl _,by decide,.inr ⟨b,0,rfl,(ltA h),fun i c hi j u hj=>?_⟩⟩
 have hc:∀ k x,([.int .i64 1,.int .i64 4,.int .i64 7]:List Value)[k]?=some x→w.cell? ⟨b,k,none⟩=some x:=fun k x hx=>by
  rw[cell_of_row w _ k _ _ _ h,List.getElem?_toArray]
  exact hx
 match i,hi with
 | 0,hi =>
  cases hi
  match j,hj with
  | 0,hj=>cases hj;exact hc 0 _ rfl
 | 1,hi =>
  cases hi
  match j,hj with
  | 0,hj=>cases hj;exact hc 1 _ rfl
 | 2,hi =>
  cases hi
  match j,hj with
  | 0,hj=>cases hj;exact hc 2 _ rfl
set_option maxHeartbeats 1000000 in
theorem qvalid_any {w:World}{v:Value}{ks:List ByteArray}(hr:SS w v ks) :
  Calls Tryz.prog 53 #[.agg #[v]] w fun e w'=>e=.returned (.bool (validC ks))∧Below w.heap.size w w':=by
 obtain⟨a,cap,rfl,l1,l2,l3⟩:=hr.opened
 obtain⟨W2,hW2⟩:∃ W2,W2=(w.alloc (.cells #[.slice a ks.length cap] 31)).alloc (.cells #[.int .i64 1,.int .i64 4,.int .i64 7] 3):=⟨_,rfl⟩
 have HB2:Hid (Below w.heap.size w W2):=zh (by rw[hW2];exact(br0.alloc (Nat.le_refl _) _).alloc (by simp) _)
 have HI:=zh (containsInt_any (row147 W2 (w.heap.size+1) (by rw[hW2];exact at_second w _ _)) (ks.length:Int))
 have HC:=zh (containsS_any 97 _ qvalid1_fn (hr.below HB2.out))
 have HV:Hid (validC ks=(([1,4,7]:List Int).any (fun x=>(ks.length:Int) == x) && !(ks.any fun s=>!decide (s.size=32)))):=zh (by
  unfold validC
  refine congr (congrArg _ ?_) ?_
  ·rw[Bool.eq_iff_iff]
   simp
   omega
  ·rw[List.not_any_eq_all_not]
   simp
   rfl)
 generalize ks.any (fun s=>!decide (s.size=32))=b2 at *
 generalize ([1,4,7]:List Int).any (fun x=>(ks.length:Int) == x)=b1 at *
 generalize validC ks=R at *
 generalize ks.length=n at *
 have HW2:=zh hW2
 clear l3 hr hW2
 cases b1
 all_goals
  go_enter Tryz.func53,Tryz.ntmps53
  go_wp2_with (first | (go_at_call 99;rw[← HW2.out];refine HI.out.mono ?_;rintro e w1 ⟨rfl,rfl⟩;have hB2:=HB2.out;rw[HW2.out]at hB2;rw[HW2.out]) | (go_at_call 100;rw[← HW2.out];refine HC.out.mono ?_;rintro e w1 ⟨rfl,rfl⟩))
  go_ret
  refine⟨ret_bool ?_,?_⟩
  ·rw[HV.out];rfl
  ·first | exact HB2.out | (rw[← HW2.out];exact HB2.out)
/-! ### put -/
def putsL (l:List Nat):List UInt8:=l.flatMap fun n:Nat=>putN (n:Int)
theorem putsL_snoc {l:List Nat}{k x:Nat}(h:l[k]?=some x):putsL (l.take (k+1))=putsL (l.take k)++putN (x:Int):=by
 unfold putsL
 rw[List.take_add_one,h,List.flatMap_append]
 simp
theorem putN_len (n:Int):1≤(putN n).length∧(putN n).length≤4:=grp_len _ _
theorem putsL_len (l:List Nat):(putsL l).length≤4*l.length:=by
 unfold putsL
 induction l with
 | nil=>simp
 | cons a t ih =>
  rw[List.flatMap_cons,List.length_append]
  have:=putN_len (a:Int)
  simp only[List.length_cons]
  omega
set_option maxHeartbeats 2000000 in
set_option maxRecDepth 100000 in
theorem put_any {w:World}{v:Value}{l:List Nat}(hne:l≠[])(hi:SliceAt w v 1 (icells (l.map fun n:Nat=>(n:Int))))(h27:∀ n∈l,n < 134217728)(hlen:l.length≤10) :
  Calls Tryz.prog 104 #[v] w fun e w'=>e=.returned (.string ⟨(putsL l).toArray⟩)∧Below w.heap.size w w':=by
 obtain⟨a,cap,rfl,l1,l2,l3⟩:=hi
 have hlc:(icells (l.map fun n:Nat=>(n:Int))).length=l.length:=by unfold icells;rw[List.length_map,List.length_map]
 rw[hlc]at l1
 rw[hlc]
 have H3:Hid (∀ k x,l[k]?=some x→∃ b off,a=some ⟨b,off,none⟩∧b < w.heap.size∧w.cell? ⟨b,off+k,none⟩=some (.int .i64 (x:Nat))):=zh (fun k x hx=>by
  rcases l3 with l3 | ⟨b,off,ha,hb,hc⟩
  ·rw[← List.length_eq_zero_iff,hlc,List.length_eq_zero_iff]at l3
   exact absurd l3 hne
  ·refine⟨b,off,ha,hb,?_⟩
   have hk:(icells (l.map fun n:Nat=>(n:Int)))[k]?=some [.int .i64 (x:Nat)]:=by unfold icells;rw[List.getElem?_map,List.getElem?_map,hx];rfl
   have:=hc k _ hk 0 _ rfl
   simpa using this)
 clear l3 hlc
 unfold maxLen at l2
 have hpl:=putsL_len l
 have HALL:Hid (putsL l=putsL (l.take l.length)):=zh (by rw[List.take_length])
 have HNE:Hid (putsL l≠[]):=zh (by
  cases l with
  | nil=>exact absurd rfl hne
  | cons x t =>
   unfold putsL
   rw[List.flatMap_cons]
   intro e
   have:=putN_len (x:Int)
   rw[(List.append_eq_nil_iff.1 e).1]at this
   simp at this)
 have H27:=zh h27
 obtain⟨m,hm⟩:∃ m,m=l.length:=⟨_,rfl⟩
 rw[← hm]at l1 hlen HALL ⊢
 have HM:=zh hm
 have hm0:0 < m:=by rw[hm];exact List.length_pos_iff.2 hne
 clear hm hne h27 hpl
 have HF1:Hid (Lib.IsBuilder 177 5 w.heap.size w.heap.size (Lib.byteCells (putsL (l.take 0))) (w.alloc (.cells #[.pointer none,.slice none 0 0] 177))):=zh (by
  rw[List.take_zero]
  have e:putsL []=[]:=rfl
  rw[e]
  exact Lib.fresh_isBuilder 177 5 w)
 have HB1:Hid (Below w.heap.size w (w.alloc (.cells #[.pointer none,.slice none 0 0] 177))):=zh (br0.alloc (Nat.le_refl _) _)
 go_enter Tryz.func104,Tryz.ntmps104
 go_wp2
 go_loopw [10] (fun i wr=>∃ k:Nat,k≤m∧i=.int .i64 k∧Hid (Lib.IsBuilder 177 5 w.heap.size w.heap.size (Lib.byteCells (putsL (l.take k))) wr)∧Hid (0 < k→Lib.BuilderAt 177 5 w.heap.size w.heap.size (.pointer (some ⟨w.heap.size,0,none⟩)) (Lib.byteCells (putsL (l.take k))) wr)∧Hid (Below w.heap.size w wr)) (fun i wr=>m - (intOf i).toNat)
 case atStart=>exact⟨0,by omega,rfl,HF1,zh (fun h=>by omega),HB1⟩
 case round =>
  clear HF1 HB1
  obtain⟨k,hk,rfl,hF,hU,hB⟩:=hrel
  by_cases hlt:k < m
  ·obtain⟨x,ex⟩:∃ x,l[k]?=some x:=⟨_,List.getElem?_eq_getElem (by rw[← HM.out];exact hlt)⟩
   obtain⟨b,off,rfl,hb,c1⟩:=H3.out k x ex
   have d1:=cell_keepB hB.out hb c1
   have hx27:=H27.out x (List.mem_of_getElem? ex)
   have HS:=zh (putsL_snoc ex)
   have hwr:=hB.out.size
   have HP:=zh (putI_any x hx27 wr)
   have hpx:=putN_len (x:Int)
   have hpk:=putsL_len (l.take k)
   rw[List.length_take]at hpk
   have hsz:(⟨(putN (x:Int)).toArray⟩:ByteArray).size≤4:=by
    show(List.toArray _).size≤4
    rw[List.size_toArray]
    exact hpx.2
   have HW:Hid (∀ W,Below wr.heap.size wr W→Calls Tryz.prog 143 #[.pointer (some ⟨w.heap.size,0,none⟩),.string ⟨(putN (x:Int)).toArray⟩] W fun e w'=>e=.returned (.tuple #[.int .i64 (⟨(putN (x:Int)).toArray⟩:ByteArray).size,.nilIface])∧(Lib.BuilderAt 177 5 w.heap.size w.heap.size (.pointer (some ⟨w.heap.size,0,none⟩)) (Lib.byteCells (putsL (l.take (k+1)))) w'∧Below w.heap.size W w')):=zh (fun W hW=>by
    have:=qWriteString_any w.heap.size w.heap.size (Lib.byteCells (putsL (l.take k))) ⟨(putN (x:Int)).toArray⟩ W (isBuilder_keepQ hF.out hW) (by rw[Lib.byteCells_length];omega) (Nat.le_trans hwr hW.size)
    rw[HS.out,Lib.byteCells_append]
    exact this)
   generalize (⟨(putN (x:Int)).toArray⟩:ByteArray)=S at *
   clear ex c1 hsz hpk hpx hx27 hF hU HS
   go_wp2_with (first | (go_at_call 142;refine HP.out.mono ?_;rintro e w1 ⟨rfl,hb1⟩;have HB1:=zh hb1;clear hb1) | (go_at_call 143;refine(HW.out _ HB1.out).mono ?_;rintro e w2 ⟨rfl,hb2,hb3⟩;have HB2:=zh hb2;have HB3:=zh hb3;clear hb2 hb3))
   go_roundw
   case rel=>exact⟨k+1,by omega,by go_num,zh (.inr HB2.out),zh (fun _=>HB2.out),zh ((hB.out.trans (HB1.out.mono hwr)).trans HB3.out)⟩
   case measure=>simp[intOf];omega
  ·obtain rfl:k=m:=by omega
   have HS:=zh (qBstring_any w.heap.size w.heap.size (putsL l) wr (by rw[HALL.out];exact hU.out hm0) HNE.out)
   clear hF hU
   go_wp2_with (go_at_call 144;refine HS.out.mono ?_;rintro e w2 ⟨rfl,hb2⟩)
   go_ret
   exact⟨rfl,hB.out.trans hb2⟩
/-! ### content, seal -/
theorem row4 (w:World)(b:Nat)(c n s:Nat)(h:w.heap[b]?=some (.cells #[.int .i64 5,.int .i64 c,.int .i64 n,.int .i64 s] 3 (0,0))):SliceAt w (.slice (some ⟨b,0,none⟩) 4 4) 1 (icells (([5,c,n,s]:List Nat).map fun n:Nat=>(n:Int))):=by
 refine⟨_,4,rfl,Nat.le_refl _,by decide,.inr ⟨b,0,rfl,(ltA h),fun i cs hi j u hj=>?_⟩⟩
 have hc:∀ k x,([.int .i64 5,.int .i64 c,.int .i64 n,.int .i64 s]:List Value)[k]?=some x→w.cell? ⟨b,k,none⟩=some x:=fun k x hx=>by
  rw[cell_of_row w _ k _ _ _ h,List.getElem?_toArray]
  exact hx
 match i,hi with
 | 0,hi =>
  cases hi
  match j,hj with
  | 0,hj=>cases hj;exact hc 0 _ rfl
 | 1,hi =>
  cases hi
  match j,hj with
  | 0,hj=>cases hj;exact hc 1 _ rfl
 | 2,hi =>
  cases hi
  match j,hj with
  | 0,hj=>cases hj;exact hc 2 _ rfl
 | 3,hi =>
  cases hi
  match j,hj with
  | 0,hj=>cases hj;exact hc 3 _ rfl
def SmallV (v:VoteP):Prop:=(0≤v.car∧v.car≤7)∧(0≤v.num∧v.num≤99999999)∧(0≤v.stp∧v.stp≤1000)∧v.val.size=32
theorem small_formed {v:VoteP}(h:formedV v=true):SmallV v:=⟨(formed_facts h).1,(formed_facts h).2.1,(formed_facts h).2.2.1,(formed_facts h).2.2.2.1⟩
theorem voteC_is (c n s:Nat)(val sl:ByteArray):voteC ⟨c,n,s,val,sl⟩=(⟨(putsL [5,c,n,s]).toArray⟩:ByteArray)++val:=by
 unfold voteC putsL
 apply ByteArray.ext
 rw[ByteArray.data_append]
 simp
theorem vcellsAt {w:World}{b:Nat}{c n s:Int}{val sl:ByteArray}{T:TypeId}(h:w.heap[b]?=some (.cells #[.int .i64 c,.int .i64 n,.int .i64 s,.string val,.string sl] T (0,0))):w.cell? ⟨b,0,none⟩=some (.int .i64 c)∧w.cell? ⟨b,1,none⟩=some (.int .i64 n)∧w.cell? ⟨b,2,none⟩=some (.int .i64 s)∧w.cell? ⟨b,3,none⟩=some (.string val)∧w.cell? ⟨b,4,none⟩=some (.string sl) :=
 ⟨cell_of_row w _ 0 _ _ _ h,cell_of_row w _ 1 _ _ _ h,cell_of_row w _ 2 _ _ _ h,cell_of_row w _ 3 _ _ _ h,cell_of_row w _ 4 _ _ _ h⟩
set_option maxHeartbeats 2000000 in
set_option maxRecDepth 100000 in
theorem content_any' (v:VoteP)(hs:SmallV v)(w:World) :
  Calls Tryz.prog 63 #[.agg #[.int .i64 v.car,.int .i64 v.num,.int .i64 v.stp,.string v.val,.string v.sl]] w fun e w'=>e=.returned (.string (voteC v))∧Below w.heap.size w w':=by
 obtain⟨car,num,stp,val,sl⟩:=v
 obtain⟨⟨c0,c1⟩,⟨n0,n1⟩,⟨s0,s1⟩,hv⟩:=hs
 simp only at c0 c1 n0 n1 s0 s1 hv
 obtain⟨c,rfl⟩:=Int.eq_ofNat_of_zero_le c0
 obtain⟨n,rfl⟩:=Int.eq_ofNat_of_zero_le n0
 obtain⟨s,rfl⟩:=Int.eq_ofNat_of_zero_le s0
 have HR:=zh (voteC_is c n s val sl)
 generalize voteC ⟨(c:Int),n,s,val,sl⟩=R at *
 have HP:Hid (∀(W:World) (b:Nat),W.heap[b]?=some (.cells #[.int .i64 5,.int .i64 c,.int .i64 n,.int .i64 s] 3 (0,0))→Calls Tryz.prog 104 #[.slice (some ⟨b,0,none⟩) 4 4] W fun e w'=>e=.returned (.string ⟨(putsL [5,c,n,s]).toArray⟩)∧Below W.heap.size W w'):=zh (fun W b h=>put_any (by simp) (row4 W b c n s h) (fun x hx=>by
  simp only[List.mem_cons,List.not_mem_nil,or_false]at hx
  rcases hx with rfl | rfl | rfl | rfl <;> omega) (by simp))
 have hS16:(⟨(putsL [5,c,n,s]).toArray⟩:ByteArray).size≤16:=by
  show(List.toArray _).size≤16
  rw[List.size_toArray]
  exact putsL_len [5,c,n,s]
 generalize (⟨(putsL [5,c,n,s]).toArray⟩:ByteArray)=S at *
 have hcat:¬ 9223372036854775807 < S.size+32:=by omega
 clear hS16
 clear c0 c1 n0 n1 s0 s1
 go_enter Tryz.func63,Tryz.ntmps63
 go_upto_region 1 with fail
 obtain⟨W1,hW1⟩:∃ W1,W1=w.alloc (.cells #[.int .i64 (c:Nat),.int .i64 (n:Nat),.int .i64 (s:Nat),.string val,.string sl] 27):=⟨_,rfl⟩
 rw[← hW1]
 have HB1:Hid (Below w.heap.size w W1):=zh (by rw[hW1];exact br0.alloc (Nat.le_refl _) _)
 have HH1:Hid (W1.heap[w.heap.size]?=some (.cells #[.int .i64 (c:Nat),.int .i64 (n:Nat),.int .i64 (s:Nat),.string val,.string sl] 27 (0,0))):=zh (by rw[hW1];exact heap_alloc_new w _)
 have hs1:w.heap.size < W1.heap.size:=(ltA HH1.out)
 clear hW1
 have HC:Hid (∀ W,Below W1.heap.size W1 W→_):=zh (fun W (hW:Below W1.heap.size W1 W)=>vcellsAt ((hW.block w.heap.size hs1).trans HH1.out))
 refine wp_region_noPanic ?_
 refine wp_region_lexB [.q 0,.q 1,.q 2,.q 3,.q 4,.q 5,.q 6,.q 7,.q 10,.q 11,.an 8,.co 8,.b 9,.q 12,.q 13] (by kernel_rfl) (by kernel_rfl) (fun _ _ _ _ h=>h) ?_
 iterate 10(refine wpFl_qL (v:=?_) rfl (Or.inl ⟨by rfl,?_⟩) ?_;rotate_left;(focus(intro w' hSw;obtain⟨d0,d1,d2,d3,d4⟩:=HC.out w' hSw;go_simp;(try with_reducible rfl);done));simp only[Act.put,zzA,zzB,zzC])
 refine wpFl_anL rfl (.cells #[.int .i64 5,.int .i64 (c:Nat),.int .i64 (n:Nat),.int .i64 (s:Nat)] 3 (0,0)) (fun n=>.slice (some ⟨n,0,none⟩) 4 4) ⟨by rfl,fun w'=>?_⟩ ?_
 focus(go_simp;done)
 refine wpFl_coL rfl (.cells #[.int .i64 5,.int .i64 (c:Nat),.int .i64 (n:Nat),.int .i64 (s:Nat)] 3 (0,0)) (fun n=>.slice (some ⟨n,0,none⟩) 4 4) (by rfl) (N':=[]) (by rfl) (fun ba wa hn_wa hs_wa hb_ba hz_ba=>?_)
 simp only[Act.put,zzA,zzB,zzC]
 refine wpFl_bL rfl (fun wb hnb hsb K hK=>?_)
 go_simp
 go_at_call 104
 refine(HP.out wb ba ((hnb.block ba (ltA hz_ba)).trans hz_ba)).mono ?_
 rintro e wc ⟨rfl,hbc⟩
 have HBC:=zh (q_next hsb hbc)
 refine hK.out _ _ HBC.out (Keeps.below hbc) ?_
 clear hK K hnb hsb hbc
 iterate 2(refine wpFl_qL (v:=?_) rfl (Or.inl ⟨by rfl,?_⟩) ?_;rotate_left;(focus(intro w' hSw;go_simp;(try with_reducible rfl);done));simp only[Act.put,zzA,zzB,zzC])
 refine wpFl_nil ?_
 refine NoPanic.normal ?_
 go_wp2
 go_ret
 exact⟨congrArg (fun x=>Ending.returned (Value.string x)) HR.out.symm,HB1.out.trans (HBC.out.mono (Nat.le_of_lt hs1))⟩
theorem zigzagQ_any (n:Nat)(hn:n < 134217728)(w:World):Calls Tryz.prog 122 #[.int .i64 n] w fun e w'=>e=.returned (.int .u64 ((2*n:Nat):Int))∧w'=w:=by
 have t0:¬ (n:Int) < 0:=by omega
 go_enter Tryz.func122,Tryz.ntmps122
 go_wp2
 go_ret
 exact⟨ret_int (by omega),rfl⟩
theorem grp_small {f z:Nat}(h:z < 128):grp f z=[UInt8.ofNat z]:=by
 cases f with
 | zero=>rfl
 | succ f=>rw[grp,if_pos h]
theorem grp_great {f z:Nat}(h:¬ z < 128):grp (f+1) z=UInt8.ofNat (z % 128+128)::grp f (z / 128):=by rw[grp,if_neg h]
theorem strOf_bytes (l:List Nat):strOf l=⟨(l.map UInt8.ofNat).toArray⟩:=rfl
def PutAt (n f z:Nat)(pre:List Nat):Prop:=z < 128 ^ (f+1)∧pre.length+f=3∧(∀ y∈pre,y < 256)∧pre.map UInt8.ofNat++grp f z=grp 3 (2*n)
theorem PutAt.next {n f z:Nat}{pre:List Nat}(h:PutAt n f z pre)(hz:128≤z):∃ g,f=g+1∧PutAt n g (z / 128) (pre++[z % 128+128]):=by
 obtain⟨h1,h2,h3,h4⟩:=h
 cases f with
 | zero=>simp at h1;omega
 | succ g =>
  refine⟨g,rfl,?_,by rw[List.length_append];simp;omega,?_,?_⟩
  ·rw[Nat.div_lt_iff_lt_mul (by decide)]
   rw[Nat.pow_succ]at h1
   exact h1
  ·intro y hy
   rcases List.mem_append.1 hy with e | e
   ·exact h3 y e
   ·rw[List.mem_singleton]at e
    omega
  ·rw[← h4,grp_great (by omega),List.map_append,List.append_assoc]
   rfl
theorem PutAt.last {n f z:Nat}{pre:List Nat}(h:PutAt n f z pre)(hz:z < 128):(∀ y∈pre++[z],y < 256)∧strOf (pre++[z])=⟨(putN (n:Int)).toArray⟩:=by
 obtain⟨h1,h2,h3,h4⟩:=h
 refine⟨?_,?_⟩
 ·intro y hy
  rcases List.mem_append.1 hy with e | e
  ·exact h3 y e
  ·rw[List.mem_singleton]at e
   omega
 ·rw[strOf_bytes,List.map_append]
  unfold putN
  rw[Int.toNat_natCast,← h4,grp_small hz]
  rfl
set_option maxHeartbeats 1000000 in
set_option maxRecDepth 100000 in
theorem r1putQ_any (n:Nat)(hn:n < 134217728)(w:World):Calls Tryz.prog 85 #[.int .i64 n] w fun e w'=>e=.returned (.tuple #[.string ⟨(putN (n:Int)).toArray⟩,.int .i64 0])∧Below w.heap.size w w':=by
 have HZ:=zh (zigzagQ_any n hn w)
 have t1:¬ (n:Int) < -4611686018427387903:=by omega
 have t2:¬ (4611686018427387903:Int) < (n:Int):=by omega
 have HP:Hid (PutAt n 3 (2*n) []):=zh ⟨by omega,rfl,by simp,rfl⟩
 obtain⟨R,hR⟩:∃ R,R=(⟨(putN (n:Int)).toArray⟩:ByteArray):=⟨_,rfl⟩
 rw[← hR]
 have HR:=zh hR
 clear hR
 go_enter Tryz.func85,Tryz.ntmps85
 go_wp2_with (go_at_call 122;refine HZ.out.mono ?_;rintro e w1 ⟨rfl,rfl⟩)
 go_loopw [4,5] (fun z v wr=>∃(f zn:Nat) (pre:List Nat),z=.int .u64 (zn:Int)∧Hid (PutAt n f zn pre)∧Hid (OwnB wr w1.heap.size v pre)∧Hid (Below w1.heap.size w1 wr)) (fun z _ _=>(intOf z).toNat)
 case atStart=>exact⟨3,2*n,[],rfl,HP,zh (OwnE.nil _ _ _ _),zh br0⟩
 case round =>
  clear HP HZ
  obtain⟨f,z,pre,rfl,hP,hO,hB⟩:=hrel
  obtain⟨va,vn,vc,hv,hvn⟩:=OwnB.form hO.out
  subst hv
  have HVN:=zh hvn
  clear hvn
  have hsz:=hB.out.size
  have HX:Hid (pre.length≤1100000000):=zh (by have:=hP.out.2.1;omega)
  have hz28:z < 268435456:=by
   have h1:=hP.out.1
   have h2:=hP.out.2.1
   have:f=0∨f=1∨f=2∨f=3:=by omega
   rcases this with rfl | rfl | rfl | rfl <;> omega
  by_cases hlt:128≤z
  ·have t4:(128:Int)≤(z:Int):=by omega
   obtain⟨g,hg,hN⟩:=hP.out.next hlt
   have HN:=zh hN
   clear hN hg
   have HY:Hid ((z:Int) % 128+128=((z % 128+128:Nat):Int)):=zh (by omega)
   have HQ:Hid (IntKind.u64.wrap ((z:Int) / 128)=((z / 128:Nat):Int)):=zh (by rw[IntKind.wrap_u64];omega)
   obtain⟨y,hy⟩:∃ y,y=z % 128+128:=⟨_,rfl⟩
   rw[← hy]at HY HN
   have HOA:Hid (OwnB (wr.alloc (.cells #[.int .u8 ((z:Int) % 128+128)] 5)) w1.heap.size (.slice va vn vc) pre):=zh (OwnE.alloc hO.out _)
   have HNA:=zh (heap_alloc_new wr (.cells #[.int .u8 ((z:Int) % 128+128)] 5))
   have HBA:=zh (hB.out.alloc hsz (.cells #[.int .u8 ((z:Int) % 128+128)] 5))
   have HZ0:=zh hz28
   clear hy hz28
   go_wp2_with (at_builtin;refine wpList_append_byte _ _ w1.heap.size _ pre wr.heap.size _ y HY.out _ HOA.out HX.out HBA.out.size HNA.out rfl rfl rfl rfl ?_;intro v7 w7 hown7 hgr7;have HO7:=zh hown7;have HB7:=zh (HBA.out.grown hgr7 HBA.out.size (fun j e=>OwnE.ge HOA.out j e));clear hown7 hgr7)
   go_roundw
   case rel=>exact⟨g,z / 128,pre++[y],congrArg (Value.int .u64) HQ.out,HN,HO7,HB7⟩
   case measure =>
    have hq:=HQ.out
    simp[intOf]
    omega
  ·have t4:¬ (128:Int)≤(z:Int):=by omega
   obtain⟨h256,hst⟩:=hP.out.last (by omega)
   have HST:Hid (strOf (pre++[z])=R):=zh (by rw[hst,HR.out])
   have H256:=zh h256
   have HY:Hid ((z:Int)=((z:Nat):Int)):=zh rfl
   have HOA:Hid (OwnB (wr.alloc (.cells #[.int .u8 (z:Int)] 5)) w1.heap.size (.slice va vn vc) pre):=zh (OwnE.alloc hO.out _)
   have HNA:=zh (heap_alloc_new wr (.cells #[.int .u8 (z:Int)] 5))
   have HBA:=zh (hB.out.alloc hsz (.cells #[.int .u8 (z:Int)] 5))
   have hz8:z < 128:=by omega
   clear h256 hst hP
   go_wp2_with (first | (at_builtin;refine wpList_append_byte _ _ w1.heap.size _ pre wr.heap.size _ z HY.out _ HOA.out HX.out HBA.out.size HNA.out rfl rfl rfl rfl ?_;intro v7 w7 hown7 hgr7;have HO7:=zh hown7;have HB7:=zh (HBA.out.grown hgr7 HBA.out.size (fun j e=>OwnE.ge HOA.out j e));clear hown7 hgr7;obtain⟨gx,ox,cx,hv7,_,_,_,hx3⟩:=HO7.out.cells (by simp);have HX3:=zh hx3;clear hx3;subst hv7) | (refine wpList_convS (pre++[z]) H256.out 80 9 5 _ gx ox _ cx rfl rfl rfl (by simp) (by kernel_rfl) (by kernel_rfl) (by kernel_rfl) HX3.out ?_))
   go_ret2
   exact⟨congrArg (fun s=>Ending.returned (.tuple #[.string s,.int .i64 0])) HST.out,HB7.out⟩
def pickI (c n:Int):Int:=(if c < 0 then -(c+1)else c) % n
theorem pickI_range (c:Int){n:Int}(h:0 < n):0≤pickI c n∧pickI c n < n:=by
 unfold pickI
 exact⟨Int.emod_nonneg _ (by omega),Int.emod_lt_of_pos _ h⟩
end Go.Proofs.YtggdcnjaofflbaaGreatDoor
