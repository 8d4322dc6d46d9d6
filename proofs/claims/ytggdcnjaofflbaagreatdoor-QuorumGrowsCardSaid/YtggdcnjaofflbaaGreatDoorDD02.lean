/- The law QuorumGrows in the form in which its walk ends. No condition. -/
import Derived.Test.YtggdcnjaofflbaaGreatDoorC18
import Derived.Test.YtggdcnjaofflbaaGreatDoorC08
import Derived.Test.YtggdcnjaofflbaaGreatDoorC21
namespace Go.Proofs.YtggdcnjaofflbaaGreatDoor

theorem tally_val {ks : List ByteArray} {num stp : Int} {pool : List VoteP} {t : ByteArray × Nat} (h : t ∈ tallyV ks num stp pool) : t.1.size = 32 := by
  obtain ⟨h1, h2, _⟩ := tally_facts h
  rw [h1] at h2
  obtain ⟨i, hi⟩ := List.exists_mem_of_length_pos h2
  exact (gen_facts (who_gen hi)).2.2.2.2
def foundT (t : ByteArray × Nat) (l : List (ByteArray × Nat)) : Bool := l.any fun s => decide (s.1 = t.1) && decide (t.2 ≤ s.2)
theorem foundT_snoc {t s : ByteArray × Nat} {l : List (ByteArray × Nat)} {k : Nat} (h : l[k]? = some s) : foundT t (l.take (k + 1)) = (foundT t (l.take k) || (decide (s.1 = t.1) && decide (t.2 ≤ s.2))) := by
  unfold foundT
  rw [List.take_add_one, h, List.any_append]
  simp
theorem found_more {ks : List ByteArray} {num stp : Int} {pool more : List VoteP} (h : ∀ v ∈ pool, v ∈ more) (hm : isPool ks more = true) {t : ByteArray × Nat} (ht : t ∈ tallyV ks num stp pool) : foundT t (tallyV ks num stp more) = true := by
  obtain ⟨s, h1, h2, h3⟩ := tally_grows h hm ht
  refine List.any_eq_true.2 ⟨s, h1, ?_⟩
  rw [decide_eq_true h2, decide_eq_true h3]
  rfl
theorem prove_none_len {ks : List ByteArray} {num stp : Int} {val : ByteArray} {pool more : List VoteP} (h : ∀ v ∈ pool, v ∈ more) (hm : isPool ks more = true) {l : List VoteP} (hp : proveV ks num stp val pool = some l) : (proveV ks num stp val more).isSome = true :=
  prove_mono h hm (by rw [hp]; rfl)
end Go.Proofs.YtggdcnjaofflbaaGreatDoor
