/- Values without memory: calls of functions that get to see boxes, and may change them. -/
import Derived.Test.YtbhfbbfifmnniaaDoorVlBox
set_option linter.unusedSimpArgs false
set_option linter.unusedVariables false
namespace Go.Vl
open Go Go.RowKit

section
variable {P : Program} {G : Gl} {tr : List Nat} {n : Nat} {I0 : Ft} {M : Mx} {w0 : World} {I : Ft} {β : Nat → Option Nat} {ob : Loc → Option Nat} {s : S} {a : Act} {w : World} {o : Oper}
  {next : Act → World → Prop} {Q : Exit → Act → World → Prop} {base : Nat → Prop} {v : Value} {x y : V}

theorem PR.ren {ρ : Nat → Nat} {β' : Nat → Option Nat} {m : Nat} (h : PR I β w v (x.renP ρ)) (hx : x.ltP m) (hβ : ∀ i b, i < m → β (ρ i) = some b → β' i = some b) : PR I β' w v x := by
  cases x <;> simp only [V.ltP] at hx <;> simp only [V.renP, PR] at h ⊢ <;> try exact h
  · obtain ⟨blk, h1, h2⟩ := h; exact ⟨blk, hβ _ _ hx h1, h2⟩
  · obtain ⟨h0, blk, o', c', hc', h1, h2⟩ := h; exact ⟨h0, blk, o', c', hc', hβ _ _ hx h1, h2⟩

theorem LR.ren {ρ : Nat → Nat} {β' : Nat → Option Nat} {m : Nat} {ox : Option Nat} (h : LR base I β w ox v (x.ren ρ)) (hx : x.lt m) (hβ : ∀ i b, i < m → β (ρ i) = some b → β' i = some b) : LR base I β' w ox v x := by
  cases x <;> simp only [V.lt] at hx <;> simp only [V.ren, LR] at h ⊢ <;> try exact h
  · obtain ⟨blk, h1, h2⟩ := h; exact ⟨blk, hβ _ _ hx h1, h2⟩
  · obtain ⟨vf, vc, h1, h2, h3, h4, h5⟩ := h
    rw [List.length_map] at h2 h3
    exact ⟨vf, vc, h1, h2, h3, fun j x hj => (h4 j (x.renP ρ) (by simp [hj])).ren (hx.1 x (List.mem_of_getElem? hj)) hβ, fun j x hj => (h5 j (x.renP ρ) (by simp [hj])).ren (hx.2 x (List.mem_of_getElem? hj)) hβ⟩
  · obtain ⟨h0, blk, o', c', hc', h1, h2⟩ := h; exact ⟨h0, blk, o', c', hc', hβ _ _ hx h1, h2⟩
  · obtain ⟨cs, h1, h2, h3⟩ := h
    rw [List.length_map] at h2
    exact ⟨cs, h1, h2, fun j x hj => (h3 j (x.renP ρ) (by simp [hj])).ren (hx x (List.mem_of_getElem? hj)) hβ⟩

theorem PR.toRen {ρ : Nat → Nat} {β' : Nat → Option Nat} (h : PR I β w v x) (hβ : ∀ i b, β i = some b → β' (ρ i) = some b) : PR I β' w v (x.renP ρ) := by
  cases x <;> simp only [V.renP, PR] at h ⊢ <;> try exact h
  · obtain ⟨blk, h1, h2⟩ := h; exact ⟨blk, hβ _ _ h1, h2⟩
  · obtain ⟨h0, blk, o', c', hc', h1, h2⟩ := h; exact ⟨h0, blk, o', c', hc', hβ _ _ h1, h2⟩

theorem map_get {α γ : Type} {l : List α} {f : α → γ} {j : Nat} {y : γ} (h : (l.map f)[j]? = some y) : ∃ x, l[j]? = some x ∧ f x = y := by simpa using h

theorem LR.toRen {ρ : Nat → Nat} {β' : Nat → Option Nat} {ox : Option Nat} (h : LR base I β w ox v x) (hβ : ∀ i b, β i = some b → β' (ρ i) = some b) : LR base I β' w ox v (x.ren ρ) := by
  cases x <;> simp only [V.ren, LR] at h ⊢ <;> try exact h
  · obtain ⟨blk, h1, h2⟩ := h; exact ⟨blk, hβ _ _ h1, h2⟩
  · obtain ⟨vf, vc, h1, h2, h3, h4, h5⟩ := h
    refine ⟨vf, vc, h1, by rw [List.length_map]; exact h2, by rw [List.length_map]; exact h3, fun j x hj => ?_, fun j x hj => ?_⟩
    · obtain ⟨y, hy, rfl⟩ := map_get hj; exact (h4 j y hy).toRen hβ
    · obtain ⟨y, hy, rfl⟩ := map_get hj; exact (h5 j y hy).toRen hβ
  · obtain ⟨h0, blk, o', c', hc', h1, h2⟩ := h; exact ⟨h0, blk, o', c', hc', hβ _ _ h1, h2⟩
  · obtain ⟨cs, h1, h2, h3⟩ := h
    refine ⟨cs, h1, by rw [List.length_map]; exact h2, fun j x hj => ?_⟩
    obtain ⟨y, hy, rfl⟩ := map_get hj; exact (h3 j y hy).toRen hβ

/-- What may be written: a wider or narrower set, by what is owned. -/
theorem LR.wider {base' : Nat → Prop} {ox : Option Nat} (h : LR base I β w ox v x) (hb : ∀ b, ox = some b → base' b) : LR base' I β w ox v x := by
  cases x <;> simp only [LR] at h ⊢ <;> try exact h
  obtain ⟨h1, h2⟩ := h
  refine ⟨h1, ?_⟩
  rcases h2 with h2 | ⟨e, blk, cap, cur, sz, q1, q2, q3, q4, q5⟩
  · exact .inl h2
  · exact .inr ⟨e, blk, cap, cur, sz, q1, q2, q3, hb _ q1, q5⟩

theorem ren_un {ρ : Nat → Nat} : V.ren ρ .un = .un := rfl

theorem getD_ren {ρ : Nat → Nat} (l : List V) (j : Nat) : (l.map (V.ren ρ)).getD j .un = (l.getD j .un).ren ρ := by
  simp only [List.getD_eq_getElem?_getD, List.getElem?_map]
  cases l[j]? <;> rfl

theorem bxIn_get {ρ : Nat → Nat} : ∀ (bl : List (List V)) (k i : Nat) (b : List V), bxIn s.bx s.nb ρ k bl → bl[i]? = some b → ρ (k + i) < s.nb ∧ s.bx (ρ (k + i)) = b.map (V.ren ρ)
  | [], _, i, b, _, hb => by simp at hb
  | c :: r, k, 0, b, h, hb => by simp at hb; subst hb; exact h.1
  | c :: r, k, i + 1, b, h, hb => by
    have := bxIn_get r (k + 1) i b h.2 (by simpa using hb)
    rw [show k + (i + 1) = k + 1 + i by omega]; exact this

theorem setBx_other {ρ : Nat → Nat} : ∀ (bl : List (List V)) (k : Nat) (f : Nat → List V) (j : Nat), (∀ i, i < bl.length → ρ (k + i) ≠ j) → setBx ρ k bl f j = f j
  | [], _, _, _, _ => rfl
  | b :: r, k, f, j, h => by
    simp only [setBx]
    rw [setBx_other r (k + 1) _ j (fun i hi => by rw [show k + 1 + i = k + (i + 1) by omega]; exact h (i + 1) (by simp; omega))]
    exact up_ne _ _ (fun e => h 0 (by simp) e.symm)

theorem setBx_at {ρ : Nat → Nat} : ∀ (bl : List (List V)) (k : Nat) (f : Nat → List V) (i : Nat) (b : List V), bl[i]? = some b → (∀ i j, i < bl.length → j < bl.length → ρ (k + i) = ρ (k + j) → i = j) →
    setBx ρ k bl f (ρ (k + i)) = b.map (V.ren ρ)
  | [], _, _, i, b, h, _ => by simp at h
  | c :: r, k, f, 0, b, h, hinj => by
    simp at h; subst h
    simp only [setBx]
    rw [setBx_other r (k + 1) _ _ (fun i hi e => by
      have := hinj (i + 1) 0 (by simp; omega) (by simp) (by rw [show k + (i + 1) = k + 1 + i by omega]; exact e)
      omega)]
    rw [Nat.add_zero]; exact up_same _ _ _
  | c :: r, k, f, i + 1, b, h, hinj => by
    simp only [setBx]
    rw [show k + (i + 1) = k + 1 + i by omega]
    refine setBx_at r (k + 1) _ i b (by simpa using h) fun i' j' hi hj e => ?_
    have := hinj (i' + 1) (j' + 1) (by simp; omega) (by simp; omega) (by rw [show k + (i' + 1) = k + 1 + i' by omega, show k + (j' + 1) = k + 1 + j' by omega]; exact e)
    omega

theorem rho_inj {ρ : List Nat} {nb : Nat} (hn : ρ.Nodup) (hl : ∀ i, i < ρ.length → ρ.getD i 0 < nb) (i j : Nat) (h : rho ρ nb i = rho ρ nb j) : i = j := by
  unfold rho at h
  by_cases hi : i < ρ.length <;> by_cases hj : j < ρ.length
  · rw [if_pos hi, if_pos hj] at h
    simp only [List.getD_eq_getElem?_getD, List.getElem?_eq_getElem hi, List.getElem?_eq_getElem hj, Option.getD_some] at h
    exact (List.getElem_inj hn).1 h
  · rw [if_pos hi, if_neg hj] at h
    have := hl i hi; omega
  · rw [if_neg hi, if_pos hj] at h
    have := hl j hj; omega
  · rw [if_neg hi, if_neg hj] at h; omega

/-- What a callee may write: the boxes that it gets, and what their cells own. -/
def Mof (β : Nat → Option Nat) (ob : Loc → Option Nat) (ρ : Nat → Nat) (k : Nat) (b : Nat) : Prop := (∃ q, q < k ∧ β (ρ q) = some b) ∨ ∃ q j, q < k ∧ ob (.b (ρ q) j) = some b
def betaC (β : Nat → Option Nat) (ρ : Nat → Nat) (k i : Nat) : Option Nat := if i < k then β (ρ i) else none
def obC (ob : Loc → Option Nat) (ρ : Nat → Nat) (k i j : Nat) : Option Nat := if i < k then ob (.b (ρ i) j) else none

theorem betaC_some {ρ : Nat → Nat} {k i b : Nat} (h : betaC β ρ k i = some b) : i < k ∧ β (ρ i) = some b := by
  unfold betaC at h; split at h
  · exact ⟨‹_›, h⟩
  · cases h
theorem obC_some {ρ : Nat → Nat} {k i j b : Nat} (h : obC ob ρ k i j = some b) : i < k ∧ ob (.b (ρ i) j) = some b := by
  unfold obC at h; split at h
  · exact ⟨‹_›, h⟩
  · cases h

/-- The caller's boxes, as the callee gets them. -/
theorem St.give (hst : St G n I0 M w0 I β ob s a w) {ρ : Nat → Nat} {b0 : List (List V)} (hinj : ∀ i j, ρ i = ρ j → i = j) (hin : bxIn s.bx s.nb ρ 0 b0) (hlt : ∀ b ∈ b0, ∀ x ∈ b, x.lt b0.length) :
    BxR (Wr ⟨Mof β ob ρ b0.length, fun _ => none⟩ w) I w (betaC β ρ b0.length) (obC ob ρ b0.length) b0 where
  bx := fun i cs hcs => by
    have hi : i < b0.length := (List.getElem?_eq_some_iff.1 hcs).1
    obtain ⟨h1, h2⟩ := bxIn_get b0 0 i cs hin hcs
    rw [Nat.zero_add] at h1 h2
    obtain ⟨blk, cur, T, e1, e2, e3, e4, e5, e6, e7⟩ := hst.bx (ρ i) h1
    refine ⟨blk, cur, T, by simp [betaC, hi, e1], .inr (.inl ⟨i, hi, e1⟩), e3, by have := e4; rw [h2, List.length_map] at this; exact this, fun j => ?_, e6, e7⟩
    have := e5 j
    rw [h2, getD_ren] at this
    have hx : (cs.getD j .un).lt b0.length := by
      by_cases hj : j < cs.length
      · have : cs.getD j .un = cs[j] := by simp [List.getD, hj]
        rw [this]; exact hlt cs (List.mem_of_getElem? hcs) _ (List.getElem_mem hj)
      · have : cs.getD j .un = .un := by simp [List.getD, List.getElem?_eq_none (Nat.le_of_not_lt hj)]
        rw [this]; exact trivial
    have h3 := this.ren (β' := betaC β ρ b0.length) hx (fun i b hi hb => by simp [betaC, hi, hb])
    have h4 : obC ob ρ b0.length i j = ob (.b (ρ i) j) := by simp [obC, hi]
    rw [h4]
    exact h3.wider fun b hb => .inr (.inr ⟨i, j, hi, hb⟩)
  bnone := fun i hi => by simp [betaC, Nat.not_lt.2 hi]
  binj := fun i j b hi hj => by
    obtain ⟨_, h1⟩ := betaC_some hi
    obtain ⟨_, h2⟩ := betaC_some hj
    exact hinj _ _ (hst.binj _ _ b h1 h2)
  oinj := fun i j i' j' b h h' => by
    obtain ⟨_, h1⟩ := obC_some h
    obtain ⟨_, h2⟩ := obC_some h'
    have := hst.oinj _ _ b h1 h2
    simp only [Loc.b.injEq] at this
    exact ⟨hinj _ _ this.1, this.2⟩
  obx := fun i j b k h hk => by
    obtain ⟨_, h1⟩ := obC_some h
    obtain ⟨_, h2⟩ := betaC_some hk
    exact hst.obx _ b _ h1 h2
  obnd := fun i j b h => by
    obtain ⟨hi, h1⟩ := obC_some h
    exact ⟨(hst.obnd _ b h1).1, .inr (.inr ⟨i, j, hi, h1⟩)⟩
  olen := fun i j hi => by simp [obC, Nat.not_lt.2 hi]

def invR (ρ : List Nat) (nb i : Nat) : Option Nat := if i ∈ ρ then some (ρ.idxOf i) else if nb ≤ i then some (i - nb + ρ.length) else none

theorem invR_rho {ρ : List Nat} {nb : Nat} (hn : ρ.Nodup) (hl : ∀ i, i < ρ.length → ρ.getD i 0 < nb) (q : Nat) : invR ρ nb (rho ρ nb q) = some q := by
  unfold invR rho
  by_cases hq : q < ρ.length
  · have e : ρ.getD q 0 = ρ[q] := by simp [List.getD, hq]
    rw [if_pos hq, e, if_pos (List.getElem_mem hq), hn.idxOf_getElem]
  · rw [if_neg hq]
    have : ¬ (nb + (q - ρ.length)) ∈ ρ := fun h => by
      obtain ⟨i, hi, e⟩ := List.mem_iff_getElem.1 h
      have := hl i hi
      have e' : ρ.getD i 0 = ρ[i] := by simp [List.getD, hi]
      omega
    rw [if_neg this, if_pos (by omega)]
    congr 1; omega

theorem rho_invR {ρ : List Nat} {nb i q : Nat} (h : invR ρ nb i = some q) : rho ρ nb q = i := by
  unfold invR at h
  split at h
  · rename_i hi
    simp only [Option.some.injEq] at h
    subst h
    have hlt := List.idxOf_lt_length_of_mem hi
    unfold rho
    rw [if_pos hlt]
    simp [List.getD, List.getElem?_eq_getElem hlt]
  · split at h
    · rename_i h1 h2
      simp only [Option.some.injEq] at h
      subst h
      unfold rho
      rw [if_neg (by omega)]; omega
    · cases h

theorem invR_none {ρ : List Nat} {nb i : Nat} (h : invR ρ nb i = none) : i < nb := by
  unfold invR at h
  split at h
  · cases h
  · split at h
    · cases h
    · omega

end
end Go.Vl
