/- Slices in memory as lists: what a slice value reads as in a world, that it stays so while only newer memory is written, and how an owned row reads as such a list. No condition. -/
import Derived.Below
import Derived.WalkKit
import Derived.WalkSpells
import Derived.WalkLawsBesides
import Derived.BigQuiet
import Derived.Handy
import Derived.Lib.Hide
import Derived.Laws.BitsAllLaws
import Derived.Test.YtjjiikeldpjafaaGreatDoorProg
import Derived.StillTail
import Derived.Deep.Quiet
namespace Go.Proofs.YtjjiikeldpjafaaGreatDoor
open Go.RowKit
theorem zzA {α : Type} (l : List α) (i : Nat) (a : α) : l.toArray.setIfInBounds i a = (l.set i a).toArray := List.setIfInBounds_toArray ..
theorem zzB {α : Type} (x a : α) (xs : List α) : (x :: xs).set 0 a = a :: xs := rfl
theorem zzC {α : Type} (x a : α) (xs : List α) (n : Nat) : (x :: xs).set (n + 1) a = x :: xs.set n a := rfl
theorem zh {p : Prop} (h : p) : Go.RowKit.Hid p := Go.Lib.hid h
theorem br0 {B : Nat} {w : World} : Below B w w := Below.refl _ _
theorem ltA {α : Type} {xs : Array α} {i : Nat} {a : α} (h : xs[i]? = some a) : i < xs.size := (Array.getElem?_eq_some_iff.1 h).1
structure R4 where
 l:Int
 r:Int
 lo:Int
 hi:Int
deriving DecidableEq
def SliceAt (w:World)(v:Value)(size:Nat)(cs:List (List Value)):Prop :=
 ∃ a cap,v=.slice a cs.length cap∧cs.length≤cap∧cap≤maxLen∧(cs=[]∨∃ b off,a=some ⟨b,off,none⟩∧b < w.heap.size ∧
  ∀ i c,cs[i]?=some c→∀ j u,c[j]?=some u→w.cell? ⟨b,off+i*size+j,none⟩=some u)
theorem SliceAt.nil (w:World)(size:Nat):SliceAt w (.slice none 0 0) size [] :=
 ⟨none,0,rfl,Nat.le_refl _,Nat.zero_le _,.inl rfl⟩
theorem SliceAt.keep {w w':World}{v:Value}{size:Nat}{cs:List (List Value)}(h:SliceAt w v size cs)
  (hk:∀ b o,b < w.heap.size→w'.cell? ⟨b,o,none⟩=w.cell? ⟨b,o,none⟩) (hs:w.heap.size≤w'.heap.size):SliceAt w' v size cs:=by
 obtain⟨a,cap,hv,h1,h2,h3⟩:=h
 refine⟨a,cap,hv,h1,h2,?_⟩
 rcases h3 with h3 | ⟨b,off,ha,hb,hc⟩
 ·exact .inl h3
 ·refine .inr ⟨b,off,ha,Nat.lt_of_lt_of_le hb hs,fun i c hi j u hj=>?_⟩
  rw[hk _ _ hb]
  exact hc i c hi j u hj
theorem SliceAt.below {w w':World}{v:Value}{size:Nat}{cs:List (List Value)}(h:SliceAt w v size cs)(hb:Below w.heap.size w w'):SliceAt w' v size cs :=
 h.keep (fun b o hlt=>hb.cell (p:=⟨b,o,none⟩) hlt) hb.size
theorem SliceAt.drewN {w:World}{v:Value}{size:Nat}{cs:List (List Value)}(h:SliceAt w v size cs)(n:Nat):SliceAt (w.drewN n) v size cs :=
 h.keep (fun _ _ _=>rfl) (Nat.le_refl _)
theorem SliceAt.of_owns {w:World}{base size:Nat}{e:TypeId}{v:Value}{cs:List (List Value)}(h:w.ownsRow base e size v cs.length cs.flatten)
  (hs:∀ c∈cs,c.length=size):SliceAt w v size cs:=by
 obtain⟨hl,h2⟩:=h
 rcases h2 with⟨rfl,hn⟩ | ⟨g,cap,cur,rfl,hb,hg,hnc,hcm,hcs,htake⟩
 ·obtain rfl:cs=[]:=List.eq_nil_of_length_eq_zero hn
  exact SliceAt.nil w size
 ·refine⟨_,cap,rfl,hnc,hcm,.inr ⟨g,0,rfl,(ltA hg),?_⟩⟩
  intro i c hi j u hj
  have key:∀(ds:List (List Value)),(∀ c∈ds,c.length=size)→∀ i c,ds[i]?=some c→∀ j u,c[j]?=some u→ds.flatten[i*size+j]?=some u:=by
   intro ds
   induction ds with
   | nil=>intro _ i c hi;simp at hi
   | cons d ds ih =>
    intro hds i c hi j u hj
    cases i with
    | zero =>
     simp at hi;subst hi
     have hlt:j < d.length:=by
      rcases Nat.lt_or_ge j d.length with h | h
      ·exact h
      ·rw[List.getElem?_eq_none h]at hj;cases hj
     simp only[List.flatten_cons,Nat.zero_mul,Nat.zero_add]
     rw[List.getElem?_append_left hlt];exact hj
    | succ i =>
     simp at hi
     have hd:d.length=size:=hds d (by simp)
     have:=ih (fun c hc=>hds c (by simp[hc])) i c hi j u hj
     simp only[List.flatten_cons]
     rw[List.getElem?_append_right (by rw[hd,Nat.succ_mul];omega)]
     rw[← this]
     congr 1
     rw[hd,Nat.succ_mul];omega
  have h1:=key cs hs i c hi j u hj
  rw[cell_of_row w g _ cur e (0,0) hg]
  rw[← htake,List.getElem?_take]at h1
  split at h1
  ·simpa using h1
  ·cases h1
theorem SliceAt.cut {w:World}{a:Option Addr}{n cap size:Nat}{cs:List (List Value)}(h:SliceAt w (.slice a n cap) size cs)(k:Nat)(hk:k≤n):SliceAt w (.slice a k cap) size (cs.take k):=by
 obtain⟨a',cap',hv,h1,h2,h3⟩:=h
 injection hv with e1 e2 e3
 subst e1 e2 e3
 have hl:(cs.take k).length=k:=by rw[List.length_take];omega
 refine⟨a,cap,by rw[hl],by omega,h2,?_⟩
 rcases h3 with h3 | ⟨b,off,ha,hb,hc⟩
 ·exact .inl (by simp[h3])
 ·refine .inr ⟨b,off,ha,hb,fun i c hi=>hc i c ?_⟩
  rw[List.getElem?_take]at hi
  split at hi
  ·exact hi
  ·cases hi
theorem owns_any {w w':World}{base size n:Nat}{e:TypeId}{v:Value}{xs:List Value}(h:w.ownsRow base e size v n xs)(hg:w.grownBy w' none):w'.ownsRow base e size v n xs :=
 h.kept hg (by cases v.ownBlock with
  | none=>exact .inl rfl
  | some b=>exact .inr (by simp))
theorem own_ne {w:World}{base size n:Nat}{e:TypeId}{v:Value}{xs:List Value}(h:w.ownsRow base e size v n xs){k:Nat}{o:Obj}(hk:w.heap[k]?=some o)(hne:∀ c,o≠.cells c e (0,0)):some k≠v.ownBlock:=by
 rcases h.2 with⟨rfl,_⟩ | ⟨g,cap,cur,rfl,_,hg,_⟩
 ·simp[Value.ownBlock]
 ·intro eq
  have:k=g:=by simpa [Value.ownBlock]using eq
  subst this
  rw[hk]at hg
  cases hg
  exact hne _ rfl
theorem bcell {B:Nat}{W w1:World}(hb:Below B W w1):(∀ b o,b < B→w1.cell? ⟨b,o,none⟩=W.cell? ⟨b,o,none⟩)∧(∀ b o,b < B→w1.frozen? ⟨b,o,none⟩=W.frozen? ⟨b,o,none⟩) :=
 ⟨fun b o h=>hb.cell (p:=⟨b,o,none⟩) h,fun b o h=>hb.frozen (p:=⟨b,o,none⟩) h⟩
theorem below_drewN {B:Nat}{a w:World}(h:Below B a w)(n:Nat):Below B a (w.drewN n):=⟨h.os,h.tape,h.output,h.size,h.block⟩
/-! ### One block is written, all else that was there stays: 'grownBy' -/
theorem grown_refl (w:World)(r:Option Nat):w.grownBy w r:=⟨rfl,rfl,rfl,Nat.le_refl _,fun _ _ _=>rfl⟩
theorem grown_drewN {a w:World}{r:Option Nat}(h:a.grownBy w r)(n:Nat):a.grownBy (w.drewN n) r:=⟨h.os,h.tape,h.output,h.size,h.block⟩
theorem grown_setCell {a w:World}{r:Option Nat}(h:a.grownBy w r)(p:Addr)(hp:r=some p.block∨a.heap.size≤p.block)(v:Value):a.grownBy (w.setCell p v) r:=by
 refine⟨h.os,h.tape,h.output,by simpa [World.setCell]using h.size,fun i hi hr=>?_⟩
 have hne:i≠p.block:=by
  rcases hp with hp | hp
  ·intro e;exact hr (by rw[hp,e])
  ·omega
 rw[Below.heap_setCell _ _ _ _ hne]
 exact h.block i hi hr
theorem heap_setCell_same {w:World}{b i:Nat}{c:Array Value}{e:TypeId}{fz:Nat × Nat}(v:Value)(h:w.heap[b]?=some (.cells c e fz)) :
  (w.setCell ⟨b,i,none⟩ v).heap[b]?=some (.cells (c.setIfInBounds i v) e fz):=by
 simp[World.setCell,Array.getElem?_modify,h]
theorem cell_keepB {B:Nat}{w w':World}(h:Below B w w'){b o:Nat}{v:Value}(hb:b < B)(hc:w.cell? ⟨b,o,none⟩=some v):w'.cell? ⟨b,o,none⟩=some v:=(h.cell (p:=⟨b,o,none⟩) hb).trans hc
def rotr (x n:Nat):Nat:=x*2 ^ (32 - n) % 4294967296 ||| x / 2 ^ n
def sg0 (x:Nat):Nat:=(rotr x 7 ^^^ rotr x 18) ^^^ x / 8
def sg1 (x:Nat):Nat:=(rotr x 17 ^^^ rotr x 19) ^^^ x / 1024
def Sg0 (a:Nat):Nat:=(rotr a 2 ^^^ rotr a 13) ^^^ rotr a 22
def Sg1 (e:Nat):Nat:=(rotr e 6 ^^^ rotr e 11) ^^^ rotr e 25
def chN (e f g:Nat):Nat:=(e &&& f) ^^^ ((4294967295 - e) &&& g)
def majN (a b c:Nat):Nat:=((a &&& b) ^^^ (a &&& c)) ^^^ (b &&& c)
def wordN (b:List Nat)(i:Nat):Nat:=((b.getD (4*i) 0*16777216 ||| b.getD (4*i+1) 0*65536) ||| b.getD (4*i+2) 0*256) ||| b.getD (4*i+3) 0
def first16 (b:List Nat):List Nat:=(List.range 16).map (wordN b)
def nextW (w:List Nat):Nat:=(w.getD (w.length - 16) 0+sg0 (w.getD (w.length - 15) 0)+w.getD (w.length - 7) 0+sg1 (w.getD (w.length - 2) 0)) % 4294967296
def schedF:Nat→List Nat→List Nat
 | 0,w=>w
 | n+1,w=>schedF n (w++[nextW w])
def sched (b:List Nat):List Nat:=schedF 48 (first16 b)
structure H8 where
 a:Nat
 b:Nat
 c:Nat
 d:Nat
 e:Nat
 f:Nat
 g:Nat
 h:Nat
def t1 (v:H8)(k w:Nat):Nat:=(v.h+Sg1 v.e+chN v.e v.f v.g+k+w) % 4294967296
def t2 (v:H8):Nat:=(Sg0 v.a+majN v.a v.b v.c) % 4294967296
def roundH (v:H8)(k w:Nat):H8:=⟨(t1 v k w+t2 v) % 4294967296,v.a,v.b,v.c,(v.d+t1 v k w) % 4294967296,v.e,v.f,v.g⟩
def roundsH:List Nat→List Nat→H8→H8
 | k::ks,w::ws,v=>roundsH ks ws (roundH v k w)
 | _,_,v=>v
def addH (x y:H8):H8:=⟨(x.a+y.a) % 4294967296,(x.b+y.b) % 4294967296,(x.c+y.c) % 4294967296,(x.d+y.d) % 4294967296,(x.e+y.e) % 4294967296,(x.f+y.f) % 4294967296,(x.g+y.g) % 4294967296,(x.h+y.h) % 4294967296⟩
def kN:List Nat:=[
 0x428a2f98,0x71374491,0xb5c0fbcf,0xe9b5dba5,0x3956c25b,0x59f111f1,0x923f82a4,0xab1c5ed5,
 0xd807aa98,0x12835b01,0x243185be,0x550c7dc3,0x72be5d74,0x80deb1fe,0x9bdc06a7,0xc19bf174,
 0xe49b69c1,0xefbe4786,0x0fc19dc6,0x240ca1cc,0x2de92c6f,0x4a7484aa,0x5cb0a9dc,0x76f988da,
 0x983e5152,0xa831c66d,0xb00327c8,0xbf597fc7,0xc6e00bf3,0xd5a79147,0x06ca6351,0x14292967,
 0x27b70a85,0x2e1b2138,0x4d2c6dfc,0x53380d13,0x650a7354,0x766a0abb,0x81c2c92e,0x92722c85,
 0xa2bfe8a1,0xa81a664b,0xc24b8b70,0xc76c51a3,0xd192e819,0xd6990624,0xf40e3585,0x106aa070,
 0x19a4c116,0x1e376c08,0x2748774c,0x34b0bcb5,0x391c0cb3,0x4ed8aa4a,0x5b9cca4f,0x682e6ff3,
 0x748f82ee,0x78a5636f,0x84c87814,0x8cc70208,0x90befffa,0xa4506ceb,0xbef9a3f7,0xc67178f2]
def h0N:H8:=⟨0x6a09e667,0xbb67ae85,0x3c6ef372,0xa54ff53a,0x510e527f,0x9b05688c,0x1f83d9ab,0x5be0cd19⟩
def blockH (h:H8)(b:List Nat):H8:=addH h (roundsH kN (sched b) h)
def blocksF:Nat→H8→List Nat→H8
 | 0,h,_=>h
 | n+1,h,b=>blocksF n (blockH h (b.take 64)) (b.drop 64)
def lenBytes (n:Nat):List Nat:=[8*n / 2 ^ 56 % 256,8*n / 2 ^ 48 % 256,8*n / 2 ^ 40 % 256,8*n / 2 ^ 32 % 256,8*n / 2 ^ 24 % 256,8*n / 2 ^ 16 % 256,8*n / 2 ^ 8 % 256,8*n % 256]
def zerosN (n:Nat):Nat:=(119 - n % 64) % 64
def padN (s:List Nat):List Nat:=s++128::(List.replicate (zerosN s.length) 0++lenBytes s.length)
theorem padN_length (s:List Nat):∃ m,(padN s).length=64*(m+1):=by
 unfold padN zerosN lenBytes
 simp only[List.length_append,List.length_cons,List.length_replicate,List.length_nil]
 refine⟨(s.length+8) / 64,?_⟩
 omega
def bytesOfW (x:Nat):List Nat:=[x / 16777216 % 256,x / 65536 % 256,x / 256 % 256,x % 256]
def bytesOfH (v:H8):List Nat:=bytesOfW v.a++(bytesOfW v.b++(bytesOfW v.c++(bytesOfW v.d++(bytesOfW v.e++(bytesOfW v.f++(bytesOfW v.g++bytesOfW v.h))))))
theorem bytesOfH_length (v:H8):(bytesOfH v).length=32:=rfl
def shaN (s:List Nat):List Nat:=bytesOfH (blocksF ((padN s).length / 64) h0N (padN s))
def sumS (s:ByteArray):ByteArray:=⟨((shaN (s.data.toList.map UInt8.toNat)).map UInt8.ofNat).toArray⟩
theorem sumS_size (s:ByteArray):(sumS s).size=32:=rfl
def I64 (x:Int):Prop:=-9223372036854775808≤x∧x≤9223372036854775807
theorem ret_int {k:IntKind}{a b:Int}(h:a=b):Ending.returned (.int k a)=.returned (.int k b):=by rw[h]
theorem ret_bool {a b:Bool}(h:a=b):Ending.returned (.bool a)=.returned (.bool b):=by rw[h]
theorem rot_amount (n:Nat)(h1:1≤n)(h2:n≤31):bits BinOp.and IntKind.u64 (IntKind.u64.wrap (-(n:Int))) 31=((32 - n:Nat):Int):=by
 have e1:IntKind.u64.wrap (-(n:Int))=((18446744073709551616 - n:Nat):Int):=by rw[IntKind.wrap_u64];omega
 rw[e1,show(31:Int)=((31:Nat):Int)from rfl,u64_and_nat _ _ (by omega) (by omega)]
 congr 1
 rw[Nat.and_two_pow_sub_one_eq_mod _ 5]
 omega
theorem rotr_lt (x n:Nat)(hx:x < 4294967296):rotr x n < 4294967296:=by
 have h1:x*2 ^ (32 - n) % 4294967296 < 2 ^ 32:=Nat.mod_lt _ (by omega)
 have h2:x / 2 ^ n < 2 ^ 32:=Nat.lt_of_le_of_lt (Nat.div_le_self _ _) hx
 exact Nat.or_lt_two_pow h1 h2
set_option maxHeartbeats 400000 in
theorem rotl_any (x n:Nat)(w:World)(hx:x < 4294967296)(h1:1≤n)(h2:n≤31) :
  Calls Tryz.prog 196 #[.int .u32 x,.int .i64 (-(n:Int))] w fun e w'=>e=.returned (.int .u32 (rotr x n:Nat))∧w=w':=by
 have e1:=rot_amount n h1 h2
 have e2:IntKind.u64.wrap (32 - ((32 - n:Nat):Int))=(n:Int):=by rw[IntKind.wrap_u64];omega
 go_enter Tryz.func196,Tryz.ntmps196
 go_wp2
 go_ret
 refine⟨ret_int ?_,rfl⟩
 have g1:x*2 ^ (32 - n) % 4294967296 < 4294967296:=Nat.mod_lt _ (by omega)
 have g2:x / 2 ^ n < 4294967296:=Nat.lt_of_le_of_lt (Nat.div_le_self _ _) hx
 have c1:((x*2 ^ (32 - n) % 4294967296:Nat):Int)=(x:Int)*2 ^ (32 - n) % 4294967296:=by rw[Int.natCast_emod,Int.natCast_mul,Int.natCast_pow];rfl
 have c2:((x / 2 ^ n:Nat):Int)=(x:Int) / 2 ^ n:=by rw[Int.natCast_ediv,Int.natCast_pow];rfl
 rw[← c1,← c2]
 exact u32_or_nat _ _ g1 g2
def mixN (x:Nat)(l:List Nat):Nat:=l.foldl (fun o n=>o ^^^ rotr x n) 0
theorem mixN_snoc (x:Nat)(l:List Nat)(n:Nat):mixN x (l++[n])=mixN x l ^^^ rotr x n:=by simp[mixN]
theorem mixN_lt (x:Nat)(l:List Nat)(hx:x < 4294967296):mixN x l < 4294967296:=by
 have:∀(l:List Nat) (o:Nat),o < 4294967296→l.foldl (fun o n=>o ^^^ rotr x n) o < 4294967296:=by
  intro l
  induction l with
  | nil=>intro o h;exact h
  | cons n l ih=>intro o h;exact ih _ (Nat.xor_lt_two_pow (n:=32) h (rotr_lt x n hx))
 exact this l 0 (by omega)
def icells (l:List Int):List (List Value):=l.map fun n=>[.int .i64 n]
theorem SliceAt.icell {w:World}{v:Value}{l:List Int}(h:SliceAt w v 1 (icells l)):∃ a cap,v=.slice a l.length cap∧l.length≤cap∧cap≤maxLen ∧
  ∀ k n,l[k]?=some n→∃ b off,a=some ⟨b,off,none⟩∧b < w.heap.size∧w.cell? ⟨b,off+k,none⟩=some (.int .i64 n):=by
 obtain⟨a,cap,hv,h1,h2,h3⟩:=h
 unfold icells at *
 rw[List.length_map]at hv h1
 refine⟨a,cap,hv,h1,h2,fun k x hx=>?_⟩
 rcases h3 with h3 | ⟨b,off,ha,hb,hc⟩
 ·simp at h3;subst h3;simp at hx
 ·refine⟨b,off,ha,hb,?_⟩
  have:=hc k [.int .i64 x] (by rw[List.getElem?_map,hx];rfl) 0 _ rfl
  simpa using this
set_option maxHeartbeats 1000000 in
theorem mixed_any (x:Nat)(l:List Nat){w:World}{v:Value}(hx:x < 4294967296)(hv:SliceAt w v 1 (icells (l.map fun(n:Nat)=>(n:Int))))(hl:∀ n∈l,1≤n∧n≤31) :
  Calls Tryz.prog 189 #[.int .u32 x,v] w fun e w'=>e=.returned (.int .u32 (mixN x l:Nat))∧w=w':=by
 obtain⟨a,cap,rfl,l1,l2,l3⟩:=hv.icell
 rw[List.length_map]at *
 have H3:=zh l3
 have HL:=zh hl
 clear l3 hv hl
 unfold maxLen at l2
 obtain⟨n,hn⟩:∃ n,n=l.length:=⟨_,rfl⟩
 rw[← hn]at l1 ⊢
 have HN:=zh hn
 clear hn
 go_enter Tryz.func189,Tryz.ntmps189
 go_wp2
 go_loop [5,7,10] (fun o _ i=>∃ k:Nat,k≤n∧i=.int .i64 k∧o=.int .u32 (mixN x (l.take k):Nat)) (fun _ _ i=>n - (intOf i).toNat)
 case atStart=>exact⟨0,by omega,rfl,rfl⟩
 case round =>
  obtain⟨k,hk,rfl,rfl⟩:=hrel
  by_cases hlt:k < n
  ·obtain⟨q,eq⟩:∃ q,l[k]?=some q:=⟨_,List.getElem?_eq_getElem (by rw[← HN.out];exact hlt)⟩
   obtain⟨b,off,rfl,hb,c1⟩:=H3.out k q (by rw[List.getElem?_map,eq];rfl)
   obtain⟨q1,q2⟩:=HL.out q (List.mem_of_getElem? eq)
   have e1:l.take (k+1)=l.take k++[q]:=by rw[List.take_add_one,eq];rfl
   have E1:=zh e1
   have g1:=mixN_lt x (l.take k) hx
   clear e1 eq
   have R1:Hid (mixN x (l.take (k+1))=mixN x (l.take k) ^^^ rotr x q):=zh (by rw[E1.out,mixN_snoc])
   generalize mixN x (l.take k)=o at *
   have g2:=rotr_lt x q hx
   have x1:=u32_xor_nat o (rotr x q) g1 g2
   go_wp2_with (go_at_call 196;refine(rotl_any x q _ hx q1 q2).mono ?_;rintro e w1 ⟨rfl,rfl⟩)
   go_round
   case rel=>exact⟨k+1,by omega,by go_num,by rw[R1.out]⟩
   case measure=>simp[intOf];omega
  ·obtain rfl:k=n:=by omega
   have E1:Hid (l.take k=l):=zh (by rw[HN.out,List.take_length])
   go_wp2
   go_ret
   exact⟨ret_int (by rw[E1.out]),rfl⟩
section
variable {P:Program} {md:Region.Mode}
theorem wpAny_more {ops:Array Oper}{Q:Exit→Act→World→Prop}:∀(n:Nat) (listed:Array Bool) (a:Act) (w:World),wpAny P md ops Q n listed a w→wpAny P md ops Q (n+1) listed a w
 | 0,_,_,_,h=>⟨fun _=>h.2,fun i hi=>by rw[h.1]at hi;cases hi⟩
 | n+1,_,_,_,h=>⟨h.1,fun i hi=>wpOp_mono (fun a w=>wpAny_more n _ a w) (h.2 i hi)⟩
theorem wpAny_add {ops:Array Oper}{Q:Exit→Act→World→Prop}{listed:Array Bool}{a:Act}{w:World}{g:Nat}(h:wpAny P md ops Q g listed a w):∀ k,wpAny P md ops Q (k+g) listed a w
 | 0=>by rw[Nat.zero_add];exact h
 | k+1=>by rw[show k+1+g=(k+g)+1 by omega];exact wpAny_more _ _ _ _ (wpAny_add h k)
def headB (ops:Array Oper)(n:Nat):Bool :=
 (List.range n).all fun i=>match ops[i]? with
  | some o=>(o.after.all fun e=>decide (e.on < i) || !Region.binds .any e) && (match o.guard with | some (j,_)=>decide (j < i) | none=>true)
  | none=>false
theorem headB_spec {ops:Array Oper}{n i:Nat}(h:headB ops n=true)(hi:i < n):∃ o,ops[i]?=some o∧(∀ e∈o.after,Region.binds .any e=true→e.on < i)∧(∀ j b,o.guard=some (j,b)→j < i):=by
 have h1:=List.all_eq_true.1 h i (List.mem_range.2 hi)
 cases ho:ops[i]? with
 | none=>simp[ho]at h1
 | some o =>
  simp only[ho,Bool.and_eq_true]at h1
  refine⟨o,rfl,fun e he hb=>?_,fun j b hg=>?_⟩
  ·have h2:=(Array.all_eq_true'.1 h1.1) e he
   simp only[Bool.or_eq_true,decide_eq_true_eq,Bool.not_eq_true']at h2
   rcases h2 with h2 | h2
   ·exact h2
   ·rw[hb]at h2;cases h2
  ·have h2:=h1.2
   rw[hg]at h2
   simpa using h2
def SameTo (n:Nat)(x y:Array Bool):Prop:=∀ i,i < n→x.getD i true=y.getD i true∧x.getD i false=y.getD i false
theorem take_get {l:List Oper}{n i:Nat}(hi:i < n):(l.take n).toArray[i]?=l.toArray[i]?:=by
 simp[hi]
theorem ready_head {l:List Oper}{n i:Nat}{x y:Array Bool}(hB:headB l.toArray n=true)(h:SameTo n x y)(hi:i < n) :
  i∈Region.ready .any (l.take n).toArray y ↔ i∈Region.ready .any l.toArray x:=by
 rw[mem_ready,mem_ready,(h i hi).1]
 obtain⟨o,ho,he,_⟩:=headB_spec hB hi
 rw[take_get hi,ho]
 simp only[Option.some.injEq,exists_eq_left']
 constructor
 ·rintro⟨h1,h2⟩
  exact⟨h1,fun e hm hb=>by rw[(h e.on (by have:=he e hm hb;omega)).2];exact h2 e hm hb⟩
 ·rintro⟨h1,h2⟩
  exact⟨h1,fun e hm hb=>by rw[← (h e.on (by have:=he e hm hb;omega)).2];exact h2 e hm hb⟩
theorem wanted_head {l:List Oper}{n i:Nat}{o:Oper}{a:Act}(hB:headB l.toArray n=true)(hi:i < n)(ho:l.toArray[i]?=some o) :
  Region.wanted o (yielded (l.take n).toArray a.tmps)=Region.wanted o (yielded l.toArray a.tmps):=by
 obtain⟨o',ho',_,hg⟩:=headB_spec hB hi
 rw[ho]at ho';cases ho'
 unfold Region.wanted
 cases h:o.guard with
 | none=>rfl
 | some p =>
  obtain⟨j,b⟩:=p
  have:=hg j b h
  simp only[yielded,take_get (l:=l) (show j < n by omega)]
theorem head_ready {ops:Array Oper}{n:Nat}{x:Array Bool}(hB:headB ops n=true)(hx:¬ ∀ i,i < n→x.getD i true=true)(hs:n≤x.size):∃ i,i < n∧i∈Region.ready .any ops x:=by
 have h1:∃ i,i < n∧x.getD i true=false:=by
  apply Classical.byContradiction
  intro hn
  apply hx
  intro i hi
  cases h:x.getD i true with
  | true=>rfl
  | false=>exact absurd ⟨i,hi,h⟩ hn
 obtain⟨m,hm⟩:∃ m,m < n∧x.getD m true=false∧∀ j,j < m→x.getD j true=true:=by
  obtain⟨i,hi,hf⟩:=h1
  induction i using Nat.strongRecOn with
  | _ i ih =>
   by_cases h:∀ j,j < i→x.getD j true=true
   ·exact⟨i,hi,hf,h⟩
   ·have:∃ j,j < i∧x.getD j true=false:=by
     apply Classical.byContradiction
     intro hn
     apply h
     intro j hj
     cases hh:x.getD j true with
     | true=>rfl
     | false=>exact absurd ⟨j,hj,hh⟩ hn
    obtain⟨j,hj,hjf⟩:=this
    exact ih j hj (by omega) hjf
 obtain⟨hmn,hmf,hmj⟩:=hm
 refine⟨m,hmn,mem_ready.2 ⟨hmf,?_⟩⟩
 obtain⟨o,ho,he,_⟩:=headB_spec hB hmn
 refine⟨o,ho,fun e hm' hb=>?_⟩
 have h2:=he e hm' hb
 have h3:=hmj e.on h2
 have h4:e.on < x.size:=by omega
 simpa [Array.getD,h4]using h3
theorem any_of_headQ {l:List Oper}{n g:Nat}{C:World→Prop}{Lq:Act→Prop}{Q:Exit→Act→World→Prop}(hB:headB l.toArray n=true)(hs:Region.sinkB .any l.toArray n=true)(hc:Region.chainB .any l.toArray n=true)(hn:n < l.toArray.size)
  (hfin:∀ x a w,HeadInv .any l.toArray n x→(∀ i,i < n→x.getD i true=true)→C w→Lq a→wpAny P .any l.toArray Q g x a w) :
  ∀(fuel:Nat) (x y:Array Bool) (a:Act) (w:World),HeadInv .any l.toArray n x→SameTo n x y→n≤y.size→C w→wpAnyQ P .any (l.take n).toArray C Lq fuel y a→wpAny P .any l.toArray Q (fuel+g) x a w:=by
 intro fuel
 induction fuel with
 | zero =>
  intro x y a w inv hxy hy hC h
  obtain⟨h1,h2⟩:=h
  rw[Nat.zero_add]
  refine hfin x a w inv ?_ hC h2
  apply Classical.byContradiction
  intro hx
  obtain⟨i,hi,hr⟩:=head_ready hB hx (by rw[inv.size];omega)
  have:=(ready_head hB hxy hi).2 hr
  rw[h1]at this;cases this
 | succ fuel ih =>
  intro x y a w inv hxy hy hC h
  by_cases hx:∀ i,i < n→x.getD i true=true
  ·refine wpAny_add (hfin x a w inv hx hC (h.1 ?_)) _
   apply List.eq_nil_iff_forall_not_mem.2
   intro i hi
   have hin:i < n:=by
    obtain⟨_,o,ho,_⟩:=mem_ready.1 hi
    have:=(ltA ho)
    simp at this;omega
   have:=(mem_ready.1 ((ready_head hB hxy hin).1 hi)).1
   rw[hx i hin]at this;cases this
  ·rw[show fuel+1+g=(fuel+g)+1 by omega]
   obtain⟨m,hm,hmr⟩:=head_ready hB hx (by rw[inv.size];omega)
   have hmu:=(mem_ready.1 hmr).1
   refine⟨fun h0=>(by rw[h0]at hmr;cases hmr),fun i hi=>?_⟩
   have hin:i < n:=by
    rcases Nat.lt_or_ge i n with h' | h'
    ·exact h'
    ·exact absurd hi (tail_waits hs hc hn inv _ m rfl hm hmu i h')
   have hq:=h.2 i ((ready_head hB hxy hin).2 hi)
   have hq':qOp P l.toArray C i (wpAnyQ P .any (l.take n).toArray C Lq fuel (y.setIfInBounds i true)) a:=by
    unfold qOp at hq ⊢
    rw[take_get hin]at hq
    obtain⟨o,ho,_,_⟩:=headB_spec hB hin
    rw[ho]at hq ⊢
    simp only[]at hq ⊢
    rw[wanted_head hB hin ho]at hq
    exact hq
   refine wpOp_of_qOp hC (fun a' w' hC' hK=>ih (x.setIfInBounds i true) (y.setIfInBounds i true) a' w' (inv.set hi hin) ?_ (by simpa using hy) hC' hK) hq'
   intro j hj
   have hxs:n≤x.size:=by rw[inv.size];omega
   by_cases e:i=j
   ·subst e
    have h1:i < x.size:=by omega
    have h2:i < y.size:=by omega
    simp[Array.getD,h1,h2]
   ·rw[getD_set_ne true e,getD_set_ne false e,getD_set_ne true e,getD_set_ne false e]
    exact hxy j hj
def tailB (l:List Oper)(n:Nat):Bool :=
 Region.lexB .any (l.take n).toArray && headB l.toArray n && Region.sinkB .any l.toArray n && Region.chainB .any l.toArray n && decide (n < l.length) &&
  Region.seqB .any l.toArray (l.length - n) n ((List.replicate n true++List.replicate (l.length - n) false).toArray)
theorem wp_region_quiet_tail {id:Nat}{Q:Exit→Act→World→Prop}{a:Act}{w:World}{l:List Oper}(n:Nat)(C:World→Prop)(hm:P.follows .mixedOrders=true)(hB:tailB l n=true)(hC:C { w with drawn:=w.drawn+1 })
  (h:wpQuiet P (l.take n).toArray C (fun a'=>∀ w',C w'→wpList P l.toArray Q (l.drop n) a' w') (l.take n) a):(Code.region id l.toArray true).wp P Q a w:=by
 simp only[tailB,Bool.and_eq_true,decide_eq_true_eq]at hB
 obtain⟨⟨⟨⟨⟨hlex,hhd⟩,hs⟩,hc⟩,hn⟩,hseq⟩:=hB
 have hn':n < l.toArray.size:=by simpa using hn
 simp only[Region.lexB,Bool.and_eq_true]at hlex
 have hq:=wpAnyQ_lex (C:=C) (md:=.any) hlex.1 (l.take n) 0 (Array.replicate (l.take n).toArray.size false) a (by simp) (by simpa using hlex.2) h
 have htl:(l.take n).length=n:=by simp;omega
 refine wp_region_any hm ?_
 have inv0:HeadInv .any l.toArray n (Array.replicate l.toArray.size false) :=
  ⟨by simp,fun j oj _ hl=>(by rw[getD_replicate_false]at hl;cases hl),fun t _ ht=>getD_in (by simpa using ht) (getD_replicate_false _ _)⟩
 have key:=any_of_headQ (g:=l.length - n) (Q:=Q) (Lq:=fun a'=>∀ w',C w'→wpList P l.toArray Q (l.drop n) a' w') (C:=C) hhd hs hc hn' (fun x a w inv hx hC hL=>by
  have hxe:x=((List.replicate n true++List.replicate (l.length - n) false).toArray):=by
   apply Array.ext_getElem?
   intro i
   by_cases hi:i < n
   ·have h1:=hx i hi
    have h2:i < x.size:=by rw[inv.size];omega
    simp only[Array.getD,h2,dif_pos]at h1
    rw[Array.getElem?_eq_getElem h2]
    simp only[Array.getInternal_eq_getElem]at h1
    rw[h1]
    simp[List.getElem?_append,hi]
   ·by_cases hi2:i < l.length
    ·have h1:=inv.tail i (by omega) (by simpa using hi2)
     have h2:i < x.size:=by rw[inv.size];simpa using hi2
     simp only[Array.getD,h2,dif_pos]at h1
     rw[Array.getElem?_eq_getElem h2]
     simp only[Array.getInternal_eq_getElem]at h1
     rw[h1]
     simp[List.getElem?_append,hi,List.getElem?_replicate];omega
    ·rw[Array.getElem?_eq_none (by rw[inv.size];simp;omega)]
     simp[List.getElem?_append,hi,List.getElem?_replicate];omega
  have h4:=wpAny_of_seq (md:=.any) (Q':=Q) (l.drop n) n x a w (fun j=>by simp[List.getElem?_drop]) (by rw[List.length_drop,hxe];exact hseq) (hL w hC)
  rwa [List.length_drop]at h4) (l.take n).length (Array.replicate l.toArray.size false) (Array.replicate (l.take n).toArray.size false) a _ inv0 (fun i hi=>by
   rw[getD_replicate_false,getD_replicate_false,getD_in (by simpa using by omega) (getD_replicate_false _ _),getD_in (by simpa using by omega) (getD_replicate_false _ _)]
   exact⟨rfl,rfl⟩) (by simp;omega) hC hq
 rw[htl]at key
 have e:n+(l.length - n)=l.toArray.size:=by simp;omega
 rw[e]at key
 exact key
end
section
variable {P:Program} {ops:Array Oper} {rest:List Oper} {o:Oper} {a:Act} {w:World} {Q:Exit→Act→World→Prop}
theorem wpList_run {w':World}{v:Value}(hg:o.guard=none)(hr:(execOp a.eval o).run P w=.ok (.value v) w')(h:wpList P ops Q rest (a.put o.dst v) w'):wpList P ops Q (o::rest) a w :=
 wpList_plain hg fun K hK=>by
  unfold Oper.wp
  rw[hr]
  exact hK _ _ h
def ZeroIs (P:Program)(T:TypeId)(Z:Array Value):Prop:=∀ w,(zeroValue T).run P w=.ok (.agg Z) w
theorem wpList_allocA (T:TypeId)(Z:Array Value)(hz:ZeroIs P T Z)(hg:o.guard=none)(ho:o.op=.alloc T)
  (h:wpList P ops Q rest (a.put o.dst (.pointer (some ⟨w.heap.size,0,none⟩))) (w.alloc (.cells Z T))):wpList P ops Q (o::rest) a w:=by
 refine wpList_run hg ?_ h
 unfold execOp
 simp only[ho,Instr.alloc,Sem.run_bind,hz w,Result.andThen_ok]
 rfl
theorem wpList_boxA (T:TypeId)(x:Operand)(Z:Array Value)(hg:o.guard=none)(ho:o.op=.box T x)(hx:a.eval x=.agg Z)
  (h:wpList P ops Q rest (a.put o.dst (.pointer (some ⟨w.heap.size,0,none⟩))) (w.alloc (.cells Z T))):wpList P ops Q (o::rest) a w:=by
 refine wpList_run hg ?_ h
 unfold execOp
 simp only[ho,hx]
 rfl
theorem wpList_loadA (T:TypeId)(x:Operand)(g:Nat)(t:TypeId)(cs:Array Value)(fr:Nat × Nat)(d:TypeDesc)(hgd:o.guard=none)(ho:o.op=.load T x)(hx:a.eval x=.pointer (some ⟨g,0,none⟩))
  (hg:w.heap[g]?=some (.cells cs t fr)) (hu:P.underlying T=some d) (hd:(match d with | .struct _ | .array _ _=>true | _=>false)=true) (hi:(P.info? T).map (·.size)=some cs.size)
  (h:wpList P ops Q rest (a.put o.dst (.agg cs)) w):wpList P ops Q (o::rest) a w :=
 wpList_load_row hgd T x ho g hx t cs fr d hg hu hd hi h
theorem wpList_indexA (T:TypeId)(x i:Operand)(cs:Array Value)(k:Int)(v:Value)(hgd:o.guard=none)(ho:o.op=.index T x i)(hx:a.eval x=.agg cs)(hi:a.eval i=.int .i64 k)
  (hr:(Instr.index T (.agg cs) (.int .i64 k)).run P w=.ok v w) (h:wpList P ops Q rest (a.put o.dst v) w):wpList P ops Q (o::rest) a w:=by
 refine wpList_run hgd ?_ h
 unfold execOp
 simp only[ho,hx,hi]
 simp[hr]
theorem setRow_alloc (w:World)(Z G:Array Value)(T:TypeId)(fr:Nat × Nat):(w.alloc (.cells Z T fr)).setRow w.heap.size G=w.alloc (.cells G T fr):=by
 have h:(w.heap.push (.cells Z T fr)).modify w.heap.size (fun o=>match o with | .cells _ elem frozen=>Obj.cells G elem frozen | o=>o)=w.heap.push (.cells G T fr):=by
  apply Array.ext
  ·simp
  ·intro i h1 h2
   rw[Array.getElem_modify,Array.getElem_push,Array.getElem_push]
   by_cases h3:i < w.heap.size
   ·simp[h3,Nat.ne_of_gt h3]
   ·have:i=w.heap.size:=by simp at h2;omega
    subst this
    simp
 unfold World.setRow World.alloc
 simp only
 exact congrArg (fun z=>{ w with heap:=z }) h
theorem wpList_declA {o2:Oper}(T:TypeId)(Z G:Array Value)(d:Tmp)(y:Operand)(hz:ZeroIs P T Z)(hg:o.guard=none)(ho:o.op=.alloc T)(hdst:o.dst=some d)
  (hg2:o2.guard=none) (ho2:o2.op=.store T (.tmp d) y) (hx:(a.put (some d) (.pointer (some ⟨w.heap.size,0,none⟩))).eval (.tmp d)=.pointer (some ⟨w.heap.size,0,none⟩))
  (hy:(a.put (some d) (.pointer (some ⟨w.heap.size,0,none⟩))).eval y=.agg G) (hi:(P.info? T).map (·.size)=some G.size) (hs:Z.size=G.size) (h1:G.all (·.oneCell')=true)
  (h:wpList P ops Q rest ((a.put (some d) (.pointer (some ⟨w.heap.size,0,none⟩))).put o2.dst undef) (w.alloc (.cells G T))):wpList P ops Q (o::o2::rest) a w:=by
 refine wpList_allocA T Z hz hg ho ?_
 rw[hdst]
 refine wpList_store_row hg2 T _ _ ho2 w.heap.size G hx hy T Z (heap_alloc_new _ _) hi hs h1 ?_
 rw[setRow_alloc]
 exact h
theorem results_cellA_tmp {fn:Func}{p u:Tmp}{ty:TypeId}(h:fn.results=#[.cell p ty,.tmp u])(tmps:Array Value)(g:Nat)(t:TypeId)(cs:Array Value)(fr:Nat × Nat)(d:TypeDesc)
  (hp:tmps.getD p undef=.pointer (some ⟨g,0,none⟩)) (hg:w.heap[g]?=some (.cells cs t fr))
  (hu:P.underlying ty=some d) (hd:(match d with | .struct _ | .array _ _=>true | _=>false)=true) (hi:(P.info? ty).map (·.size)=some cs.size) :
  (results fn tmps).run P w=.ok (.tuple #[.agg cs,tmps.getD u undef]) w:=by
 rw[results_cell_tmp h,hp]
 have h1:(asAddr (.pointer (some ⟨g,0,none⟩))).run P w=.ok ⟨g,0,none⟩ w:=rfl
 rw[h1,Result.andThen_ok,run_loadVar_row w g t ty cs fr d hg hu hd hi,Result.andThen_ok]
end
end Go.Proofs.YtjjiikeldpjafaaGreatDoor
