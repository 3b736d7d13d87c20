/- Values without memory: how the relation between an activation's state and its abstract state is carried over a change. -/
import Derived.Test.YtbhfbbfifmnniaaDoorVlBase
set_option linter.unusedSimpArgs false
set_option linter.unusedVariables false
namespace Go.Vl
open Go Go.RowKit

def upL (f : Loc → Option Nat) (L : Loc) (v : Option Nat) : Loc → Option Nat := fun L' => if L' = L then v else f L'

def S.put (s : S) (d : Option Nat) (v : V) : S := match d with
  | some d => { s with fr := up s.fr d v }
  | none => s

def S.clr (s : S) (t : Nat) : S := { s with fr := up s.fr t .un }

theorem getD_set_same (a : Array Value) (d : Nat) (v : Value) (h : d < a.size) : (a.setIfInBounds d v).getD d undef = v := by
  simp [h]
theorem getD_set_ne (a : Array Value) (d t : Nat) (v : Value) (h : t ≠ d) : (a.setIfInBounds d v).getD t undef = a.getD t undef := by
  simp [Ne.symm h]

variable {G : Nat → Option (List C)} {n : Nat} {I0 : Ft} {M : Mx} {w0 : World} {I : Ft} {β : Nat → Option Nat} {ob : Loc → Option Nat} {s : S} {a : Act} {w : World}

theorem St.keeps (h : St G n I0 M w0 I β ob s a w) {w' : World} {row : Option Nat} (hg : w.grownBy w' row) (hrow : ∀ r, row = some r → ∀ o, I r o → w'.cell? ⟨r, o, none⟩ = w.cell? ⟨r, o, none⟩) :
    ∀ b o, I b o → w'.cell? ⟨b, o, none⟩ = w.cell? ⟨b, o, none⟩ := by
  intro b o hb
  by_cases hr : row = some b
  · exact hrow b hr o hb
  · exact World.cell?_of_block (hg.block b (h.ibnd b o hb) (fun e => hr e.symm))

theorem St.grow (h : St G n I0 M w0 I β ob s a w) {w' : World} (hg : w.grownBy w' none) {I' : Ft} (h1 : ∀ b o, I b o → I' b o)
    (h2 : ∀ b o, I' b o → I b o ∨ (w.heap.size ≤ b ∧ b < w'.heap.size)) : St G n I0 M w0 I' β ob s a w' := by
  have hk := h.keeps hg (by simp)
  have hI : ∀ b o, I b o → I' b o ∧ w'.cell? ⟨b, o, none⟩ = w.cell? ⟨b, o, none⟩ := fun b o hb => ⟨h1 b o hb, hk b o hb⟩
  have hob : ∀ L b, ob L = some b → w'.heap[b]? = w.heap[b]? ∧ ∀ o, I' b o → I b o := fun L b hL => by
    obtain ⟨h3, h4⟩ := h.obnd L b hL
    refine ⟨hg.block b h3 (by simp), fun o ho => ?_⟩
    rcases h2 b o ho with h5 | h5
    · exact h5
    · omega
  exact {
    size := h.size, defers := h.defers
    below := h.below.grown hg (by simp)
    kept := fun b o h0 => (hk b o (h.ilow b o h0)).trans (h.kept b o h0)
    ilow := fun b o hb => h1 b o (h.ilow b o hb)
    ihigh := fun b o hb => by
      rcases h2 b o hb with h3 | h3
      · exact h.ihigh b o h3
      · exact .inr (Wr.new h.below h3.1)
    ibnd := fun b o hb => by
      rcases h2 b o hb with h3 | h3
      · exact Nat.lt_of_lt_of_le (h.ibnd b o h3) hg.size
      · exact h3.2
    fr := fun t => (h.fr t).mono hI (fun _ _ e => e) (hob (.t t))
    bx := fun i hi => by
      obtain ⟨blk, cur, T, e1, e2, e3, e4, e5, e6, e7⟩ := h.bx i hi
      have hlt : blk < w.heap.size := (Array.getElem?_eq_some_iff.1 e3).1
      refine ⟨blk, cur, T, e1, e2, (hg.block blk hlt (by simp)).trans e3, e4, fun j => (e5 j).mono hI (fun _ _ e => e) (hob (.b i j)), e6, fun o ho => ?_⟩
      rcases h2 blk o ho with h3 | h3
      · exact e7 o h3
      · omega
    bnone := h.bnone, ext := h.ext, bnew := h.bnew, binj := h.binj, oinj := h.oinj, obx := h.obx
    obnd := fun L b hL => ⟨Nat.lt_of_lt_of_le (h.obnd L b hL).1 hg.size, (h.obnd L b hL).2⟩
    glob := fun g cs hg' => (h.glob g cs hg').mono hI }

/-- A draw. -/
theorem St.drew (h : St G n I0 M w0 I β ob s a w) : St G n I0 M w0 I β ob s a w.drew :=
  h.grow (w' := w.drew) ⟨rfl, rfl, rfl, Nat.le_refl _, fun _ _ _ => rfl⟩ (fun _ _ h => h) (fun _ _ h => .inl h)

/-- A new block for good. -/
theorem St.alloc (h : St G n I0 M w0 I β ob s a w) (o : Obj) : St G n I0 M w0 (fun b k => I b k ∨ b = w.heap.size) β ob s a (w.alloc o) :=
  h.grow (World.grownBy_alloc w o none) (fun _ _ h => .inl h) (fun b k hb => by
    rcases hb with hb | hb
    · exact .inl hb
    · refine .inr ⟨by omega, by rw [World.size_alloc]; omega⟩)

/-- A new block that nobody relies on yet. -/
theorem St.allocOwn (h : St G n I0 M w0 I β ob s a w) (o : Obj) : St G n I0 M w0 I β ob s a (w.alloc o) :=
  h.grow (World.grownBy_alloc w o none) (fun _ _ h => h) (fun _ _ h => .inl h)

/-- What a slot held is forgotten. -/
theorem St.clr (h : St G n I0 M w0 I β ob s a w) (t : Nat) : St G n I0 M w0 I β (upL ob (.t t) none) (s.clr t) a w := by
  have hsub : ∀ L b, upL ob (.t t) none L = some b → ob L = some b := fun L b hL => by
    simp only [upL] at hL; split at hL
    · cases hL
    · exact hL
  exact {
    size := h.size, defers := h.defers, below := h.below, kept := h.kept, ilow := h.ilow, ihigh := h.ihigh, ibnd := h.ibnd
    fr := fun u => by
      by_cases hu : u = t
      · subst hu; simp only [S.clr, up_same, LR]; exact .un _
      · simp only [S.clr, up_ne _ _ hu]
        have : upL ob (.t t) none (.t u) = ob (.t u) := by simp [upL, hu]
        rw [this]; exact h.fr u
    bx := fun i hi => by
      obtain ⟨blk, cur, T, e1, e2, e3, e4, e5, e6, e7⟩ := h.bx i hi
      exact ⟨blk, cur, T, e1, e2, e3, e4, fun j => by
        have : upL ob (.t t) none (.b i j) = ob (.b i j) := by simp [upL]
        rw [this]; exact e5 j, e6, e7⟩
    bnone := h.bnone, ext := h.ext, bnew := h.bnew, binj := h.binj
    oinj := fun L L' b h1 h2 => h.oinj L L' b (hsub _ _ h1) (hsub _ _ h2)
    obx := fun L b i h1 => h.obx L b i (hsub _ _ h1)
    obnd := fun L b h1 => h.obnd L b (hsub _ _ h1)
    glob := h.glob }

/-- A block that a new owner may have. -/
def FreeOb (M : Mx) (w0 w : World) (β : Nat → Option Nat) (ob : Loc → Option Nat) (o : Option Nat) : Prop :=
  ∀ b, o = some b → (b < w.heap.size ∧ Wr M w0 b) ∧ (∀ L, ob L ≠ some b) ∧ (∀ i, β i ≠ some b)

theorem FreeOb.nothing : FreeOb M w0 w β ob none := fun _ h => by cases h

/-- A slot is written. -/
theorem St.put (h : St G n I0 M w0 I β ob s a w) (d : Nat) (hd : d < n) {v : Value} {x : V} {o : Option Nat} (hv : LR (Wr M w0) I β w o v x)
    (hf : FreeOb M w0 w β (upL ob (.t d) none) o) : St G n I0 M w0 I β (upL ob (.t d) o) (s.put (some d) x) (a.put (some d) v) w := by
  have hsub : ∀ L b, upL ob (.t d) o L = some b → (L = .t d ∧ o = some b) ∨ (L ≠ .t d ∧ ob L = some b) := fun L b hL => by
    simp only [upL] at hL; split at hL
    · exact .inl ⟨‹_›, hL⟩
    · exact .inr ⟨‹_›, hL⟩
  have hne : ∀ L b, L ≠ .t d → ob L = some b → o ≠ some b := fun L b hL hb e => by
    have := (hf b e).2.1 L
    simp only [upL, if_neg hL] at this
    exact this hb
  exact {
    size := by simp [Act.put, h.size], defers := h.defers, below := h.below, kept := h.kept, ilow := h.ilow, ihigh := h.ihigh, ibnd := h.ibnd
    fr := fun u => by
      by_cases hu : u = d
      · subst hu
        have e1 : upL ob (.t u) o (.t u) = o := by simp [upL]
        have e2 : (a.put (some u) v).tmps.getD u undef = v := getD_set_same _ _ _ (by rw [h.size]; exact hd)
        rw [e1, e2]; simpa only [S.put, up_same] using hv
      · have e1 : upL ob (.t d) o (.t u) = ob (.t u) := by simp [upL, hu]
        have e2 : (a.put (some d) v).tmps.getD u undef = a.tmps.getD u undef := getD_set_ne _ _ _ _ hu
        rw [e1, e2]; simpa only [S.put, up_ne _ _ hu] using h.fr u
    bx := fun i hi => by
      obtain ⟨blk, cur, T, e1, e2, e3, e4, e5, e6, e7⟩ := h.bx i hi
      exact ⟨blk, cur, T, e1, e2, e3, e4, fun j => by
        have : upL ob (.t d) o (.b i j) = ob (.b i j) := by simp [upL]
        rw [this]; exact e5 j, e6, e7⟩
    bnone := h.bnone, ext := h.ext, bnew := h.bnew, binj := h.binj
    oinj := fun L L' b h1 h2 => by
      rcases hsub _ _ h1 with ⟨h1, h1'⟩ | ⟨h1, h1'⟩ <;> rcases hsub _ _ h2 with ⟨h2, h2'⟩ | ⟨h2, h2'⟩
      · rw [h1, h2]
      · exact absurd h1' (hne _ _ h2 h2')
      · exact absurd h2' (hne _ _ h1 h1')
      · exact h.oinj L L' b h1' h2'
    obx := fun L b i h1 => by
      rcases hsub _ _ h1 with ⟨h1, h1'⟩ | ⟨h1, h1'⟩
      · exact (hf b h1').2.2 i
      · exact h.obx L b i h1'
    obnd := fun L b h1 => by
      rcases hsub _ _ h1 with ⟨h1, h1'⟩ | ⟨h1, h1'⟩
      · exact (hf b h1').1
      · exact h.obnd L b h1'
    glob := h.glob }

/-- What a slot holds goes over to another one. -/
theorem FreeOb.moved (h : St G n I0 M w0 I β ob s a w) (t : Nat) (L : Loc) : FreeOb M w0 w β (upL (upL ob (.t t) none) L none) (ob (.t t)) := fun b hb => by
  refine ⟨h.obnd _ b hb, fun L' hL' => ?_, fun i => h.obx _ b i hb⟩
  simp only [upL] at hL'
  split at hL'
  · cases hL'
  · split at hL'
    · cases hL'
    · rename_i h1 h2
      exact h2 (h.oinj _ _ b hL' hb)

end Go.Vl
