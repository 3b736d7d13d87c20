/- What the statements of layer 15 share: the types of their arguments, the variables, the bound, the door. -/
import Derived.Test.YtkbkajabchhbeaaDoorVlCA
import Derived.Test.YtkbkajabchhbeaaDoorRows
import Derived.Deep.DeepHandedRow
import Derived.JoinedOf
import Derived.JoinedCond
import Derived.MakeChecks
set_option linter.unusedSimpArgs false
set_option linter.unusedVariables false
namespace Go.Proofs.YtkbkajabchhbeaaDoor
open Go Go.Vl Go.RowKit Go.ChangeShapes
set_option maxRecDepth 100000
def argTypes : List TypeId := [24, 22, 3, 98, 85]
theorem plain_args : plainS Tryd.prog argTypes = true := by kernel_rfl
theorem laidOut_P : laidOutB Tryd.prog = true := by kernel_rfl
theorem own_P : ownKnob Tryd.prog.godebug = none := by kernel_rfl
def laidL : List (String × DataW Unit) := [("math/bits.deBruijn32tab", Rows.laid_math_bits_deBruijn32tab), ("math/bits.deBruijn64tab", Rows.laid_math_bits_deBruijn64tab), ("internal/strconv.uint64pow10", Rows.laid_internal_strconv_uint64pow10)]
theorem tOwn : (Tryd.prog.globals[0]?).map (·.type) = some 98 := by kernel_rfl
theorem pow_dat : datC (Rows.laid_internal_strconv_uint64pow10 : DataW Unit) = some (Lib.pow10Tab.map fun z => [C.lit (.int .u64 z)]).flatten := by kernel_rfl
theorem gl_ok {W : World} (h : laidMetH Tryd.prog laidL W) : GOK glT (allI W) W := by
 have h' : laidMet Tryd.prog laidL W := by
  rw [Go.MakeChecks.laidMetH_plain _ _ _ (by kernel_rfl)] at h; exact h
 intro g cs hg
 obtain ⟨ps, hv, _⟩ := h'
 unfold gat at hg
 split at hg
 ·cases hg
 ·unfold glT at hg
  split at hg
  ·rename_i h0
   simp only [Option.some.injEq] at hg; subst hg; subst h0
   exact laid_var plain_args pow_named tOwn (by simp [argTypes]) (d := Rows.laid_internal_strconv_uint64pow10) pow_dat laidL ps hv (List.mem_cons_of_mem _ (List.mem_cons_of_mem _ (List.mem_cons_self ..)))
  ·cases hg
theorem door_met (os : Os) (args : Array Value) : laidMet Tryd.prog laidL ((World.doorLaid Tryd.prog 400 os).forCall (fun _ _ => 0) ⟨#[], args, []⟩).memory :=
 laidMet_of_run' 8 (by kernel_rfl) (by kernel_rfl)
mutual
theorem datC_ms {H : Type} : ∀ (d : DataW H) (xs : List C), datC d = some xs → msL xs ≤ Rows.uptoBulk d
 | .lit (.bool _), xs, h => by simp only [datC, Option.some.injEq] at h; subst h; simp [msL, msC, Rows.uptoBulk]
 | .lit (.int _ _), xs, h => by simp only [datC, Option.some.injEq] at h; subst h; simp [msL, msC, Rows.uptoBulk]
 | .lit (.string _), xs, h => by simp only [datC, Option.some.injEq] at h; subst h; simp [msL, msC, Rows.uptoBulk]
 | .nil, xs, h => by simp only [datC, Option.some.injEq] at h; subst h; simp [msL, msC, msLL, Rows.uptoBulk]
 | .slice es sp, xs, h => by
  simp only [datC] at h
  split at h
  ·rename_i l hl
   simp only [Option.some.injEq] at h; subst h
   have := datCs_ms es l hl
   simp only [msL, msC, Rows.uptoBulk]; omega
  ·cases h
 | .agg ds, xs, h => by
  simp only [datC] at h
  split at h
  ·rename_i l hl
   simp only [Option.some.injEq] at h; subst h
   have := datCs_ms ds l hl
   rw [msL_flatten]
   simp only [Rows.uptoBulk]; omega
  ·cases h
 | .ptr _, xs, h => by simp [datC] at h
 | .iface _ _, xs, h => by simp [datC] at h
 | .map _, xs, h => by simp [datC] at h
 | .held _, xs, h => by simp [datC] at h
theorem datCs_ms {H : Type} : ∀ (ds : List (DataW H)) (l : List (List C)), datCs ds = some l → msLL l ≤ Rows.uptoBulkAll ds
 | [], l, h => by simp only [datCs, Option.some.injEq] at h; subst h; simp [msLL]
 | d :: ds, l, h => by
  simp only [datCs] at h
  split at h
  ·rename_i a b ha hb
   simp only [Option.some.injEq] at h; subst h
   have h1 := datC_ms d a ha
   have h2 := datCs_ms ds b hb
   simp only [msLL, Rows.uptoBulkAll]; omega
  ·cases h
end
theorem big_of {H : Type} {ds : List (DataW H)} {d : DataW H} (hk : Rows.uptoSmall H (ds ++ []) = true) (hd : d ∈ ds) : dBig d 1048576 := fun cs h => by
 have h1 : Rows.uptoBulkAll (ds ++ []) ≤ 1048576 := of_decide_eq_true hk
 rw [List.append_nil] at h1
 have h2 := datC_ms d cs h
 have h3 : Rows.uptoBulk d ≤ Rows.uptoBulkAll ds := by
  clear hk h1
  induction ds with
  | nil => cases hd
  | cons x r ih =>
   simp only [Rows.uptoBulkAll]
   rcases List.mem_cons.1 hd with e | e
   ·subst e; omega
   ·have := ih e; omega
 omega
def tm0 : Value := .agg #[.int .i64 0, .int .i64 0, .slice none 0 0]
theorem argsD_cons {H : Type} {t : TypeId} {ts : List TypeId} {ds : List (DataW H)} {x : List V} (h : ArgsD Tryd.prog (t :: ts) ds x) : ∃ d e u v, ds = d :: e ∧ x = u :: v ∧ (∃ n cs, Shp Tryd.prog n t cs ∧ datC d = some cs ∧ u = absV Tryd.prog t cs) ∧ ArgsD Tryd.prog ts e v := by
 cases ds with
 | nil => cases x <;> exact h.elim
 | cons d e => cases x with
  | nil => exact h.elim
  | cons u v => exact ⟨d, e, u, v, rfl, rfl, h.1, h.2⟩
theorem argsD_nil {H : Type} {ds : List (DataW H)} {x : List V} (h : ArgsD Tryd.prog [] ds x) : ds = [] ∧ x = [] := by
 cases ds with
 | nil => cases x with
  | nil => exact ⟨rfl, rfl⟩
  | cons => exact h.elim
 | cons => cases x <;> exact h.elim
