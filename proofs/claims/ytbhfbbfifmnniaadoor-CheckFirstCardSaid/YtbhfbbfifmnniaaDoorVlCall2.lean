/- Values without memory: the state behind a call of a function that may change boxes. -/
import Derived.Test.YtbhfbbfifmnniaaDoorVlCall
set_option linter.unusedSimpArgs false
set_option linter.unusedVariables false
namespace Go.Vl
open Go Go.RowKit

section
variable {P : Program} {G : Gl} {tr : List Nat} {n : Nat} {I0 : Ft} {M : Mx} {w0 : World} {I : Ft} {β : Nat → Option Nat} {ob : Loc → Option Nat} {s : S} {a : Act} {w : World} {o : Oper}
  {next : Act → World → Prop} {Q : Exit → Act → World → Prop} {base : Nat → Prop} {v : Value} {x y : V}

def betaN (β β' : Nat → Option Nat) (ρ : List Nat) (nb i : Nat) : Option Nat := match invR ρ nb i with
  | some q => β' q
  | none => β i
def obN (ob : Loc → Option Nat) (ob' : Nat → Nat → Option Nat) (ρ : List Nat) (nb : Nat) : Loc → Option Nat
  | .t i => ob (.t i)
  | .b i j => match invR ρ nb i with
    | some q => ob' q j
    | none => ob (.b i j)

theorem St.called (hst : St G n I0 M w0 I β ob s a w) {ρ : List Nat} {b0 b1 : List (List V)} (hρl : ρ.length = b0.length) (hn : ρ.Nodup) (hin : bxIn s.bx s.nb (rho ρ s.nb) 0 b0) (hle : b0.length ≤ b1.length)
    {w' : World} {I' : Ft} {β' : Nat → Option Nat} {ob' : Nat → Nat → Option Nat} (hbel : BelowM ⟨Mof β ob (rho ρ s.nb) b0.length, fun _ => none⟩ w w') (hI1 : ∀ b o, I b o → I' b o)
    (hI2 : ∀ b o, I' b o → I b o ∨ (Wr ⟨Mof β ob (rho ρ s.nb) b0.length, fun _ => none⟩ w b ∧ b < w'.heap.size)) (hkept : ∀ b o, I b o → w'.cell? ⟨b, o, none⟩ = w.cell? ⟨b, o, none⟩)
    (hβ1 : ∀ i, i < b0.length → β' i = betaC β (rho ρ s.nb) b0.length i) (hβ2 : ∀ i b, b0.length ≤ i → β' i = some b → w.heap.size ≤ b)
    (hbx : BxR (Wr ⟨Mof β ob (rho ρ s.nb) b0.length, fun _ => none⟩ w) I' w' β' ob' b1) :
    St G n I0 M w0 I' (betaN β β' ρ s.nb) (obN ob ob' ρ s.nb) { s with bx := setBx (rho ρ s.nb) 0 b1 s.bx, nb := s.nb + (b1.length - b0.length) } a w' ∧
    (∀ i b, β' i = some b → betaN β β' ρ s.nb (rho ρ s.nb i) = some b) ∧
    (∀ b, Wr ⟨Mof β ob (rho ρ s.nb) b0.length, fun _ => none⟩ w b → Wr M w0 b) ∧
    (∀ b, Wr ⟨Mof β ob (rho ρ s.nb) b0.length, fun _ => none⟩ w b → (∀ i j, ob' i j ≠ some b) → ∀ L, obN ob ob' ρ s.nb L ≠ some b) ∧
    (∀ b, Wr ⟨Mof β ob (rho ρ s.nb) b0.length, fun _ => none⟩ w b → (∀ i, β' i ≠ some b) → ∀ i, betaN β β' ρ s.nb i ≠ some b) := by
  have hl : ∀ i, i < ρ.length → ρ.getD i 0 < s.nb := fun i hi => by
    obtain ⟨b, hb⟩ : ∃ b, b0[i]? = some b := ⟨_, List.getElem?_eq_getElem (by omega)⟩
    have := (bxIn_get b0 0 i b hin hb).1
    rw [Nat.zero_add] at this
    simpa [rho, hi] using this
  have hinj := rho_inj hn hl
  have hir := invR_rho hn hl
  have hwr : ∀ b, Wr ⟨Mof β ob (rho ρ s.nb) b0.length, fun _ => none⟩ w b → Wr M w0 b := fun b hb => by
    rcases hb with hb | ⟨q, hq, hb⟩ | ⟨q, j, hq, hb⟩
    · exact .new hst.below hb
    · exact (hst.boxblk hb).2.1
    · exact (hst.obnd _ b hb).2
  -- what is not the callee's
  have notM1 : ∀ i b, invR ρ s.nb i = none → β i = some b → ¬ Wr ⟨Mof β ob (rho ρ s.nb) b0.length, fun _ => none⟩ w b := fun i b hi hb hw => by
    rcases hw with hw | ⟨q, hq, h1⟩ | ⟨q, j, hq, h1⟩
    · have := (hst.boxblk hb).2.2; omega
    · have := hst.binj _ _ b h1 hb
      rw [← this, hir] at hi; cases hi
    · exact hst.obx _ b i h1 hb
  have notM2 : ∀ L b, (∀ i j q, L = .b i j → invR ρ s.nb i ≠ some q) → ob L = some b → ¬ Wr ⟨Mof β ob (rho ρ s.nb) b0.length, fun _ => none⟩ w b := fun L b hL hb hw => by
    rcases hw with hw | ⟨q, hq, h1⟩ | ⟨q, j, hq, h1⟩
    · have := (hst.obnd _ b hb).1; omega
    · exact hst.obx _ b _ hb h1
    · have := hst.oinj _ _ b hb h1
      exact hL _ _ q this (hir q)
  have hβn : ∀ i b, β i = some b → betaN β β' ρ s.nb i = some b := fun i b hb => by
    unfold betaN
    cases hi : invR ρ s.nb i with
    | none => exact hb
    | some q =>
      have e := rho_invR hi
      have hlt := (hst.boxblk hb).1
      have hq : q < ρ.length := by
        by_cases hq : q < ρ.length
        · exact hq
        · unfold rho at e; rw [if_neg hq] at e; omega
      simp only
      rw [hβ1 q (by omega)]
      unfold betaC
      rw [if_pos (by omega), e]; exact hb
  have hI : ∀ b o, I b o → I' b o ∧ w'.cell? ⟨b, o, none⟩ = w.cell? ⟨b, o, none⟩ := fun b o hb => ⟨hI1 b o hb, hkept b o hb⟩
  have hsame : ∀ b, b < w.heap.size → ¬ Wr ⟨Mof β ob (rho ρ s.nb) b0.length, fun _ => none⟩ w b → w'.heap[b]? = w.heap[b]? ∧ ∀ o, I' b o → I b o := fun b hb hw =>
    ⟨hbel.block b hb (fun h => hw (.inr h)), fun o ho => by
      rcases hI2 b o ho with h | h
      · exact h
      · exact absurd h.1 hw⟩
  have hbN : ∀ i b, betaN β β' ρ s.nb i = some b → (∃ q, invR ρ s.nb i = some q ∧ β' q = some b) ∨ (invR ρ s.nb i = none ∧ β i = some b) := fun i b hb => by
    unfold betaN at hb
    cases hi : invR ρ s.nb i with
    | none => rw [hi] at hb; exact .inr ⟨rfl, hb⟩
    | some q => rw [hi] at hb; exact .inl ⟨q, rfl, hb⟩
  have hoN : ∀ L b, obN ob ob' ρ s.nb L = some b → (∃ i j q, L = .b i j ∧ invR ρ s.nb i = some q ∧ ob' q j = some b) ∨ ((∀ i j q, L = .b i j → invR ρ s.nb i ≠ some q) ∧ ob L = some b) := fun L b hb => by
    cases L with
    | t i => exact .inr ⟨fun i j q h => (by cases h), hb⟩
    | b i j =>
      simp only [obN] at hb
      cases hi : invR ρ s.nb i with
      | none => rw [hi] at hb; exact .inr ⟨fun i' j' q h => (by cases h; rw [hi]; simp), hb⟩
      | some q => rw [hi] at hb; exact .inl ⟨i, j, q, rfl, hi, hb⟩
  have hβw : ∀ q b, β' q = some b → Wr ⟨Mof β ob (rho ρ s.nb) b0.length, fun _ => none⟩ w b := fun q b hb => by
    by_cases hq : q < b0.length
    · rw [hβ1 q hq] at hb
      exact .inr (.inl ⟨q, (betaC_some hb).1, (betaC_some hb).2⟩)
    · exact .inl (hβ2 q b (by omega) hb)
  have how : ∀ i j b, ob' i j = some b → Wr ⟨Mof β ob (rho ρ s.nb) b0.length, fun _ => none⟩ w b := fun i j b hb => (hbx.obnd i j b hb).2
  have hsub : ∀ i b, β' i = some b → betaN β β' ρ s.nb (rho ρ s.nb i) = some b := fun i b hb => by
    unfold betaN; rw [hir]; exact hb
  refine ⟨{
    size := hst.size, defers := hst.defers
    below := ⟨hbel.os.trans hst.below.os, hbel.tape.trans hst.below.tape, hbel.output.trans hst.below.output, Nat.le_trans hst.below.size hbel.size, fun k hk hM =>
      (hbel.block k (Nat.lt_of_lt_of_le hk hst.below.size) (fun h => by
        rcases hwr k (.inr h) with h1 | h1
        · omega
        · exact hM h1)).trans (hst.below.block k hk hM)⟩
    ilow := fun b o h => hI1 b o (hst.ilow b o h)
    kept := fun b o h => (hkept b o (hst.ilow b o h)).trans (hst.kept b o h)
    ihigh := fun b o h => by
      rcases hI2 b o h with h | h
      · exact hst.ihigh b o h
      · exact .inr (hwr b h.1)
    ibnd := fun b o h => by
      rcases hI2 b o h with h | h
      · exact Nat.lt_of_lt_of_le (hst.ibnd b o h) hbel.size
      · exact h.2
    fr := fun t => (hst.fr t).mono hI hβn fun b hb => hsame b (hst.obnd _ b hb).1 (notM2 (.t t) b (fun i j q h => by cases h) hb)
    bx := fun i hi => by
      simp only at hi
      cases hq : invR ρ s.nb i with
      | some q =>
        have e := rho_invR hq
        have hqb : q < b1.length := by
          by_cases h1 : q < ρ.length
          · omega
          · unfold rho at e; rw [if_neg h1] at e; omega
        obtain ⟨blk, cur, T, e1, e2, e3, e4, e5, e6, e7⟩ := hbx.bx q _ (List.getElem?_eq_getElem hqb)
        have hset : setBx (rho ρ s.nb) 0 b1 s.bx i = b1[q].map (V.ren (rho ρ s.nb)) := by
          have := setBx_at (ρ := rho ρ s.nb) b1 0 s.bx q _ (List.getElem?_eq_getElem hqb) (fun i j _ _ h => by rw [Nat.zero_add, Nat.zero_add] at h; exact hinj i j h)
          rw [Nat.zero_add, e] at this; exact this
        refine ⟨blk, cur, T, by unfold betaN; rw [hq]; exact e1, hwr _ e2, e3, by simp only [hset, List.length_map]; exact e4, fun j => ?_, e6, e7⟩
        simp only [hset, getD_ren]
        have : obN ob ob' ρ s.nb (.b i j) = ob' q j := by simp only [obN, hq]
        rw [this]
        exact ((e5 j).toRen hsub).wider fun b hb => hwr b (how q j b hb)
      | none =>
        have hlt := invR_none hq
        obtain ⟨blk, cur, T, e1, e2, e3, e4, e5, e6, e7⟩ := hst.bx i hlt
        have hnw := notM1 i blk hq e1
        obtain ⟨g1, g2⟩ := hsame blk (Array.getElem?_eq_some_iff.1 e3).1 hnw
        have hset : setBx (rho ρ s.nb) 0 b1 s.bx i = s.bx i := setBx_other b1 0 s.bx i fun q _ h => by
          rw [Nat.zero_add] at h
          rw [← h, hir] at hq; cases hq
        refine ⟨blk, cur, T, hβn i blk e1, e2, g1.trans e3, by simp only [hset]; exact e4, fun j => ?_, e6, fun o ho => e7 o (g2 o ho)⟩
        simp only [hset]
        have : obN ob ob' ρ s.nb (.b i j) = ob (.b i j) := by simp only [obN, hq]
        rw [this]
        exact (e5 j).mono hI hβn fun b hb => hsame b (hst.obnd _ b hb).1 (notM2 (.b i j) b (fun i' j' q h => by cases h; rw [hq]; simp) hb)
    bnone := fun i hi => by
      simp only at hi
      unfold betaN
      cases hq : invR ρ s.nb i with
      | some q =>
        have e := rho_invR hq
        refine hbx.bnone q ?_
        by_cases h1 : q < ρ.length
        · unfold rho at e; rw [if_pos h1] at e; have := hl q h1; omega
        · unfold rho at e; rw [if_neg h1] at e; omega
      | none => have := invR_none hq; omega
    ext := fun i b he => hβn i b (hst.ext i b he)
    bnew := fun i b hi => by
      rcases hbN i b hi with ⟨q, h1, h2⟩ | ⟨h1, h2⟩
      · by_cases hq : q < b0.length
        · rw [hβ1 q hq] at h2
          have := hst.bnew _ b (betaC_some h2).2
          rw [rho_invR h1] at this; exact this
        · exact .inr (Nat.le_trans hst.below.size (hβ2 q b (by omega) h2))
      · exact hst.bnew i b h2
    binj := fun i j b hi hj => by
      rcases hbN i b hi with ⟨q, h1, h2⟩ | ⟨h1, h2⟩ <;> rcases hbN j b hj with ⟨p, h3, h4⟩ | ⟨h3, h4⟩
      · have := hbx.binj q p b h2 h4
        rw [← rho_invR h1, ← rho_invR h3, this]
      · exact absurd (hβw q b h2) (notM1 j b h3 h4)
      · exact absurd (hβw p b h4) (notM1 i b h1 h2)
      · exact hst.binj i j b h2 h4
    oinj := fun L L' b hL hL' => by
      rcases hoN L b hL with ⟨i, j, q, rfl, h1, h2⟩ | ⟨h1, h2⟩ <;> rcases hoN L' b hL' with ⟨i', j', q', rfl, h3, h4⟩ | ⟨h3, h4⟩
      · obtain ⟨e1, e2⟩ := hbx.oinj q j q' j' b h2 h4
        rw [← rho_invR h1, ← rho_invR h3, e1, e2]
      · exact absurd (how q j b h2) (notM2 L' b h3 h4)
      · exact absurd (how q' j' b h4) (notM2 L b h1 h2)
      · exact hst.oinj L L' b h2 h4
    obx := fun L b i hL hi => by
      rcases hoN L b hL with ⟨i', j, q, rfl, h1, h2⟩ | ⟨h1, h2⟩ <;> rcases hbN i b hi with ⟨p, h3, h4⟩ | ⟨h3, h4⟩
      · exact hbx.obx q j b p h2 h4
      · exact absurd (how q j b h2) (notM1 i b h3 h4)
      · exact absurd (hβw p b h4) (notM2 L b h1 h2)
      · exact hst.obx L b i h2 h4
    obnd := fun L b hL => by
      rcases hoN L b hL with ⟨i', j, q, rfl, h1, h2⟩ | ⟨h1, h2⟩
      · exact ⟨(hbx.obnd q j b h2).1, hwr b (how q j b h2)⟩
      · exact ⟨Nat.lt_of_lt_of_le (hst.obnd L b h2).1 hbel.size, (hst.obnd L b h2).2⟩
    glob := fun g cs hg => (hst.glob g cs hg).mono hI }, hsub, hwr, fun b hw hno L hL => by
    rcases hoN L b hL with ⟨i', j, q, rfl, h1, h2⟩ | ⟨h1, h2⟩
    · exact hno q j h2
    · exact notM2 L b h1 h2 hw, fun b hw hno i hi => by
    rcases hbN i b hi with ⟨q, h1, h2⟩ | ⟨h1, h2⟩
    · exact hno q h2
    · exact notM1 i b h1 h2 hw⟩

end
end Go.Vl
