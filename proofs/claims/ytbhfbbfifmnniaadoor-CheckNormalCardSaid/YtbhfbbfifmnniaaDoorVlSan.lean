/- The sanity example of layer 13, run by the interpreter. -/
import Derived.Test.YtbhfbbfifmnniaaDoorVlClone
import Derived.KernelRfl
set_option linter.unusedSimpArgs false
set_option linter.unusedVariables false
namespace Go.Proofs.YtbhfbbfifmnniaaDoor
open Go Go.Vl

/-- The variable custody/check.own. -/
def gl : Gl := fun g => match g with
  | 0 => some [.lit (.int .i64 23), .lit (.int .i64 24), .lit (.int .i64 25)]
  | _ => none

def okL (k : Nat) (es : List (List C)) : Bool := es.all (fun e => Nat.beq e.length k) && Nat.ble (es.length + 1) 1000000000
theorem okL_spec {k : Nat} {es : List (List C)} (h : okL k es = true) : (∀ e ∈ es, e.length = k) ∧ es.length < 1000000000 := by
  simp only [okL, Bool.and_eq_true, List.all_eq_true] at h
  exact ⟨fun e he => Nat.eq_of_beq_eq_true (h.1 e he), Nat.le_of_ble_eq_true h.2⟩

def cl (k e : Nat) : List V → Option V
  | [.c (.sl es)] => cond (okL k es) (some (.ow (if es.isEmpty then none else some (e, k)) es)) none
  | _ => none
def xO (f : Nat) (xs : List V) : Option V := cond (Nat.beq f 30) (cl 3 46 xs)
  (cond (Nat.beq f 49) (cl 3 40 xs) (cond (Nat.beq f 52) (cl 5 42 xs) none))
def clB (k : Nat) : List V → Option (V × List (List V))
  | [.c (.sl [])] => some (.ow none [], [])
  | [.c (.sl es)] => cond (okL k es) (some (.ms 0 0 es.length es.length k, [es.flatten.map .c])) none
  | _ => none
def xOB (f : Nat) (xs : List V) : Option (V × List (List V)) := cond (Nat.beq f 30) (clB 3 xs)
  (cond (Nat.beq f 49) (clB 3 xs) (cond (Nat.beq f 52) (clB 5 xs) none))

theorem cl_ok {k e f : Nat} (hf : ∀ es : List (List C), (∀ x ∈ es, x.length = k) → es.length < 1000000000 → FnOK Tryd.prog gl f [.c (.sl es)] (.ow (if es.isEmpty then none else some (e, k)) es)) {xs : List V} {r : V} (h : cl k e xs = some r) : FnOK Tryd.prog gl f xs r := by
  unfold cl at h
  split at h
  · rename_i es
    cases hk : okL k es <;> rw [hk] at h <;> simp only [cond_true, cond_false] at h <;> first | (cases h; done) | skip
    obtain ⟨h1, h2⟩ := okL_spec hk
    simp only [Option.some.injEq] at h; subst h
    exact hf _ h1 h2
  · cases h
theorem clB_ok {k f : Nat} (h0 : FnB Tryd.prog gl f [.c (.sl [])] [] (.ow none []) []) (hf : ∀ es : List (List C), es ≠ [] → (∀ x ∈ es, x.length = k) → es.length < 1000000000 → FnB Tryd.prog gl f [.c (.sl es)] [] (.ms 0 0 es.length es.length k) [es.flatten.map .c])
    {xs : List V} {r : V} {b1 : List (List V)} (h : clB k xs = some (r, b1)) : FnB Tryd.prog gl f xs [] r b1 := by
  unfold clB at h
  split at h
  · simp only [Option.some.injEq, Prod.mk.injEq] at h; obtain ⟨rfl, rfl⟩ := h; exact h0
  · rename_i es hne
    cases hk : okL k es <;> rw [hk] at h <;> simp only [cond_true, cond_false] at h <;> first | (cases h; done) | skip
    obtain ⟨h1, h2⟩ := okL_spec hk
    simp only [Option.some.injEq, Prod.mk.injEq] at h; obtain ⟨rfl, rfl⟩ := h
    exact hf _ (fun e => hne (by rw [e])) h1 h2
  · cases h

noncomputable def xP : XP := ⟨fun t => xTl.getD t none, fun f => xFl.getD f none, xO, xOB⟩
theorem xP_ok : XP.Ok Tryd.prog gl xP := by
  refine XP.ok_of xO xOB xT_ok xF_ok (fun f xs r h => ?_) (fun f xs r b1 h => ?_)
  · unfold xO at h
    cases h1 : Nat.beq f 30 <;> rw [h1] at h <;> simp only [cond_true, cond_false] at h
    · cases h2 : Nat.beq f 49 <;> rw [h2] at h <;> simp only [cond_true, cond_false] at h
      · cases h3 : Nat.beq f 52 <;> rw [h3] at h <;> simp only [cond_true, cond_false] at h
        · cases h
        · rw [Nat.eq_of_beq_eq_true h3]; exact cl_ok CloneO_qu h
      · rw [Nat.eq_of_beq_eq_true h2]; exact cl_ok CloneO_ru h
    · rw [Nat.eq_of_beq_eq_true h1]; exact cl_ok CloneO_ty h
  · unfold xOB at h
    cases h1 : Nat.beq f 30 <;> rw [h1] at h <;> simp only [cond_true, cond_false] at h
    · cases h2 : Nat.beq f 49 <;> rw [h2] at h <;> simp only [cond_true, cond_false] at h
      · cases h3 : Nat.beq f 52 <;> rw [h3] at h <;> simp only [cond_true, cond_false] at h
        · cases h
        · rw [Nat.eq_of_beq_eq_true h3]; exact clB_ok CloneN_qu CloneB_qu h
      · rw [Nat.eq_of_beq_eq_true h2]; exact clB_ok CloneN_ru CloneB_ru h
    · rw [Nat.eq_of_beq_eq_true h1]; exact clB_ok CloneN_ty CloneB_ty h

theorem nameRun : xfun xP gl 100 12 false 15 [.c (.lit (.string ⟨#[97, 57]⟩))] [] = some (bo true, []) := by kernel_rfl
theorem sanityRun : xfun xP gl 100 12 false 10 [] [] = some (bo true, []) := by kernel_rfl
theorem sanity_ok : FnOK Tryd.prog gl 10 [] (bo true) := FnOK_run mixedX xP_ok sanityRun
end Go.Proofs.YtbhfbbfifmnniaaDoor
