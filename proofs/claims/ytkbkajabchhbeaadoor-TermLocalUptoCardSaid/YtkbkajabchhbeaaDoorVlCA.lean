/- Layer 15: arguments, as they come in: their cells are those of a term, of terms; how great they are. -/
import Derived.Test.YtkbkajabchhbeaaDoorVlLc0
import Derived.Test.YtkbkajabchhbeaaDoorVlLaw
set_option linter.unusedSimpArgs false
set_option linter.unusedVariables false
namespace Go.Proofs.YtkbkajabchhbeaaDoor
open Go Go.Vl
set_option maxRecDepth 100000
theorem cells_int : Tryd.prog.cellsOf 3 = 1 := by kernel_rfl
theorem cells_ts : Tryd.prog.cellsOf 22 = 1 := by kernel_rfl
theorem cells_tm : Tryd.prog.cellsOf 24 = 3 := by kernel_rfl
theorem tm_of : ∀ (n : Nat) (xs : List C), Shp Tryd.prog n 24 xs → ∃ t : Tm, xs = tmC t := by
 intro n
 induction n using Nat.strongRecOn with
 | _ n ih =>
  intro xs h
  cases n with
  | zero => exact h.elim
  | succ n =>
   unfold Shp at h
   rw [Tryd.underlying24] at h
   obtain ⟨hl, hf⟩ := h
   rw [cells_tm] at hl
   match xs, hl with
   | [x0, x1, x2], _ =>
    have h0 := hf _ (by simp; exact .inl rfl)
    have h1 := hf _ (by simp; exact .inr (.inl rfl))
    have h2 := hf _ (by simp; exact .inr (.inr rfl))
    simp only [cells_int, cells_ts, List.drop_zero, List.drop_succ_cons, List.take_succ_cons, List.take_zero] at h0 h1 h2
    obtain ⟨k, e0, _⟩ := shp_int Tryd.underlying3 ⟨n, h0⟩
    obtain ⟨m, e1, _⟩ := shp_int Tryd.underlying3 ⟨n, h1⟩
    cases n with
    | zero => exact h2.elim
    | succ n =>
     unfold Shp at h2
     rw [Tryd.underlying22] at h2
     obtain ⟨es, e2, _, h3⟩ := h2
     obtain ⟨ts, rfl, _⟩ := list_of (f := tmC) (ok := fun _ => True) fun x hx => by
      obtain ⟨t, ht⟩ := ih n (by omega) x (h3 x hx).2
      exact ⟨t, ht, trivial⟩
     cases e0; cases e1; cases e2
     exact ⟨.mk k m ts, by rw [tmC_eq]; rfl⟩
theorem ms_tm : ∀ t : Tm, sizeT t ≤ msL (tmC t) := by
 refine Tm.ind fun k n l ih => ?_
 rw [tmC_eq]
 simp only [Tm.l, msL, tsC, msC, sizeT]
 have : sizeL l ≤ msLL (l.map tmC) := by
  induction l with
  | nil => simp [sizeL, msLL]
  | cons t l ihl =>
   have h1 := ih t (List.mem_cons_self ..)
   have h2 := ihl fun t ht => ih t (List.mem_cons_of_mem _ ht)
   simp only [sizeL, List.map_cons, msLL]; omega
 omega
theorem ms_ts (l : List Tm) : sizeL l ≤ msLL (l.map tmC) := by
 induction l with
 | nil => simp [sizeL, msLL]
 | cons t l ihl =>
  have h1 := ms_tm t
  simp only [sizeL, List.map_cons, msLL]; omega
theorem agg_tm : isAggB Tryd.prog 24 = true := by kernel_rfl
theorem agg_ts : isAggB Tryd.prog 22 = false := by kernel_rfl
theorem agg_int : isAggB Tryd.prog 3 = false := by kernel_rfl
section
variable {H : Type}
def dBig (d : DataW H) (m : Nat) : Prop := ∀ cs, datC d = some cs → msL cs ≤ m
theorem arg_tm {x : V} {d : DataW H} {m : Nat} (hd : dBig d m) (h : ∃ n cs, Shp Tryd.prog n 24 cs ∧ datC d = some cs ∧ x = absV Tryd.prog 24 cs) : ∃ t : Tm, x = .agg (tmC t) ∧ sizeT t ≤ m := by
 obtain ⟨n, cs, h, h2, rfl⟩ := h
 obtain ⟨t, rfl⟩ := tm_of n cs h
 exact ⟨t, by unfold absV; rw [agg_tm, if_pos rfl], Nat.le_trans (ms_tm t) (hd _ h2)⟩
theorem arg_ts {x : V} {d : DataW H} {m : Nat} (hd : dBig d m) (h : ∃ n cs, Shp Tryd.prog n 22 cs ∧ datC d = some cs ∧ x = absV Tryd.prog 22 cs) : ∃ l : List Tm, x = .c (tsC l) ∧ sizeL l ≤ m := by
 obtain ⟨n, cs, h, h2, rfl⟩ := h
 cases n with
 | zero => exact h.elim
 | succ n =>
  unfold Shp at h
  rw [Tryd.underlying22] at h
  obtain ⟨es, rfl, _, h3⟩ := h
  obtain ⟨l, rfl, _⟩ := list_of (f := tmC) (ok := fun _ => True) fun x hx => by
   obtain ⟨t, ht⟩ := tm_of n x (h3 x hx).2
   exact ⟨t, ht, trivial⟩
  refine ⟨l, by unfold absV; rw [agg_ts]; rfl, ?_⟩
  have := hd _ h2
  simp only [msL, msC] at this
  exact Nat.le_trans (ms_ts l) (by omega)
theorem arg_int {x : V} {d : DataW H} (h : ∃ n cs, Shp Tryd.prog n 3 cs ∧ datC d = some cs ∧ x = absV Tryd.prog 3 cs) : ∃ k : Int, x = i64 k := by
 obtain ⟨n, cs, h, h2, rfl⟩ := h
 obtain ⟨k, rfl, _⟩ := shp_int Tryd.underlying3 ⟨n, h⟩
 exact ⟨k, by unfold absV; rw [agg_int]; rfl⟩
end
