/- Contracts of the generic functions on slices. -/
import Derived.Test.YtbhfbbfifmnniaaDoorVlTypes
import Derived.Test.YtbhfbbfifmnniaaDoorVlRunB
import Derived.Eval
set_option linter.unusedSimpArgs false
set_option linter.unusedVariables false
namespace Go.Proofs.YtbhfbbfifmnniaaDoor
open Go Go.Vl

theorem mixed : Tryd.prog.follows .mixedOrders = true := Tryd.checked.mixed
abbrev i64 (n : Int) : V := .c (.lit (.int .i64 n))
abbrev bo (b : Bool) : V := .c (.lit (.bool b))

variable {G : Gl}

set_option maxHeartbeats 1000000 in
theorem IndexFunc_Type (es : List (List C)) (hl : ∀ e ∈ es, e.length = 3) (hm : es.length ≤ 9223372036854775807) (g : FuncId) (caps : List C) (p : List C → Bool) (hp : ∀ e ∈ es, FnOK Tryd.prog G g (.agg e :: caps.map .c) (bo (p e))) :
    FnOK Tryd.prog G 54 [.c (.sl es), .c (.fn (.func g) [] caps)] (i64 (posOf p es)) := by
  refine FnOK_by (rs := [.tmp 4]) false [] mixed Tryd.func54 rfl rfl rfl rfl (by kernel_rfl) (by simp) rfl rfl ?_
  simp -implicitDefEqProofs only [pkA, ptA, ↓reduceIte, Nat.reduceEqDiff, Nat.reduceAdd, Nat.reduceBEq, Nat.reduceMul, Nat.reduceLT, Nat.reduceLeDiff]
  refine run_loop (fun i : Nat => hdS [(0, .c (.sl es)), (1, .c (.fn (.func g) [] caps)), (7, i64 es.length), (8, i64 i)] []) (fun i => es.length - i) (fun i => i ≤ es.length ∧ ∀ j (h : j < es.length), j < i → p es[j] = false) 0 ⟨Nat.zero_le _, by simp⟩ ?_ ?_
  · refine le_hd rfl (Nat.zero_le _) (Nat.le_refl _) ?_ trivial
    simp [FL, up_apply]
  rintro i ⟨hi, hno⟩ R hnorm hexit hret
  simp -implicitDefEqProofs only [pkA, ptA, ↓reduceIte, Nat.reduceEqDiff, Nat.reduceAdd, Nat.reduceBEq, Nat.reduceMul, Nat.reduceLT, Nat.reduceLeDiff]
  refine vcond_of (fun hlt => ?_) (fun hge => ?_)
  · have hlt : i < es.length := by simpa using hlt
    simp -implicitDefEqProofs only [pkA, ptA, ↓reduceIte, Nat.reduceEqDiff, Nat.reduceAdd, Nat.reduceBEq, Nat.reduceMul, Nat.reduceLT, Nat.reduceLeDiff]
    refine ia_of ti_22 rfl ti_46 (by decide) (Int.natCast_nonneg i) (by simp [hlt]) (hl _ (List.getElem_mem hlt)) ?_
    have hle : es[i].length = 3 := hl _ (List.getElem_mem hlt)
    simp -implicitDefEqProofs only [pkA, ptA, ↓reduceIte, Nat.reduceEqDiff, Nat.reduceAdd, Nat.reduceBEq, Nat.reduceMul, Nat.reduceLT, Nat.reduceLeDiff, hle]
    refine call_fn rfl (hp _ (List.getElem_mem hlt)) (by simp [V.boxy]) ?_
    simp -implicitDefEqProofs only [pkA, ptA, ↓reduceIte, Nat.reduceEqDiff, Nat.reduceAdd, Nat.reduceBEq, Nat.reduceMul, Nat.reduceLT, Nat.reduceLeDiff]
    refine vcond_of (fun hy => ?_) (fun hn => ?_)
    · simp -implicitDefEqProofs only [pkA, ptA, ↓reduceIte, Nat.reduceEqDiff, Nat.reduceAdd, Nat.reduceBEq, Nat.reduceMul, Nat.reduceLT, Nat.reduceLeDiff]
      refine hret _ ?_
      simp -implicitDefEqProofs only [pkA, ptA, ↓reduceIte, Nat.reduceEqDiff, Nat.reduceAdd, Nat.reduceBEq, Nat.reduceMul, Nat.reduceLT, Nat.reduceLeDiff]
      rw [posOf_at hlt hy hno]
    · simp -implicitDefEqProofs only [pkA, ptA, ↓reduceIte, Nat.reduceEqDiff, Nat.reduceAdd, Nat.reduceBEq, Nat.reduceMul, Nat.reduceLT, Nat.reduceLeDiff]
      refine hnorm (i + 1) _ ⟨hlt, fun j h hj => ?_⟩ (by omega) (le_hd rfl (Nat.zero_le _) (Nat.le_refl _) ?_ trivial)
      · rcases Nat.lt_or_ge j i with h1 | h1
        · exact hno j h h1
        · have : j = i := by omega
          subst this; exact hn
      · have hw := wrap_i64 (i + 1) (by omega)
        simp [FL, up_apply, hw]
  · have : i = es.length := by simp at hge; omega
    subst this
    simp -implicitDefEqProofs only [pkA, ptA, ↓reduceIte, Nat.reduceEqDiff, Nat.reduceAdd, Nat.reduceBEq, Nat.reduceMul, Nat.reduceLT, Nat.reduceLeDiff]
    refine hexit _ _ ?_
    simp -implicitDefEqProofs only [pkA, ptA, ↓reduceIte, Nat.reduceEqDiff, Nat.reduceAdd, Nat.reduceBEq, Nat.reduceMul, Nat.reduceLT, Nat.reduceLeDiff]
    rw [posOf_none hno]
end Go.Proofs.YtbhfbbfifmnniaaDoor
