/- What is allowed for some uses is allowed for a part of them; what is allowed for a lesser key is allowed for the key: the plain law. -/
import Derived.Test.YtidlohfkfdeaiaaDoorVlLawF
import Derived.Test.YtidlohfkfdeaiaaDoorVlZ1
set_option linter.unusedSimpArgs false
set_option linter.unusedVariables false
namespace Go.Proofs.YtidlohfkfdeaiaaDoor
open Go Go.Vl

theorem set_id {ks : List Ky} {i : Nat} {k n : Ky} (hk : ks[i]? = some k) (hn : n.id = k.id) {j : Nat} {a : Ky} (h : (ks.set i n)[j]? = some a) : ∃ b, ks[j]? = some b ∧ b.id = a.id := by
  rw [List.getElem?_set] at h
  split at h
  · split at h
    · subst i; cases h; exact ⟨k, hk, hn.symm⟩
    · cases h
  · exact ⟨a, h, rfl⟩
theorem set_sorted {ks : List Ky} {i : Nat} {k n : Ky} (hs : sortedK ks) (hk : ks[i]? = some k) (hn : n.id = k.id) : sortedK (ks.set i n) := by
  intro a b u v hab h1 h2
  obtain ⟨u', h3, h4⟩ := set_id hk hn h1
  obtain ⟨v', h5, h6⟩ := set_id hk hn h2
  rw [← h4, ← h6]; exact hs a b u' v' hab h3 h5
theorem wi_iff {n lo hi : Int} : wi n lo hi = true ↔ lo ≤ n ∧ n ≤ hi := by simp [wi]
end Go.Proofs.YtidlohfkfdeaiaaDoor
