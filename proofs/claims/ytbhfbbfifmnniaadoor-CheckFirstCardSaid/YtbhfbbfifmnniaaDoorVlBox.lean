/- Values without memory: boxes: variables that lie in memory. -/
import Derived.Test.YtbhfbbfifmnniaaDoorVlSound10
set_option linter.unusedSimpArgs false
set_option linter.unusedVariables false
namespace Go.Vl
open Go Go.RowKit

section
variable {P : Program} {G : Gl} {tr : List Nat} {n : Nat} {I0 : Ft} {M : Mx} {w0 : World} {I : Ft} {β : Nat → Option Nat} {ob : Loc → Option Nat} {s : S} {a : Act} {w : World} {o : Oper}
  {next : Act → World → Prop} {Q : Exit → Act → World → Prop} {base : Nat → Prop} {v : Value} {x y : V}

def V.one : V → Bool
  | .c _ | .ow _ _ | .bp _ _ | .clo _ _ _ | .ms _ _ _ _ _ => true
  | _ => false

theorem PR.oneCell {c : V} (h : PR I β w v c) : v.oneCell' = true := by
  cases c <;> simp only [PR] at h
  · exact h.oneCell
  · obtain ⟨_, _, rfl⟩ := h; rfl
  · obtain ⟨_, _, _, _, _, _, _, rfl⟩ := h; rfl

theorem LR.oneCell {c : V} {ox : Option Nat} (h : LR base I β w ox v c) (hc : c.one = true) : v.oneCell' = true ∧ v.cells = #[v] := by
  cases c <;> simp only [V.one] at hc <;> try cases hc
  · exact ⟨h.toC.oneCell, h.toC.notAgg⟩
  · exact ⟨h.1.oneCell, h.1.notAgg⟩
  · obtain ⟨_, _, rfl⟩ := h; exact ⟨rfl, rfl⟩
  · obtain ⟨_, _, rfl, _⟩ := h; exact ⟨rfl, rfl⟩
  · obtain ⟨_, _, _, _, _, _, _, rfl⟩ := h; exact ⟨rfl, rfl⟩

theorem bcells_ok {ox : Option Nat} (h : LR base I β w ox v x) {ds : List V} (hx : x.bcells = some ds) : v.cells.size = ds.length ∧
    (∀ j, LR base I β w (if j = 0 ∧ x.isOw = true then ox else none) (v.cells.getD j undef) (ds.getD j .un)) ∧ (∀ u ∈ v.cells, u.oneCell' = true) := by
  have one : ∀ c : V, c.one = true → x = c → ds = [c] → v.cells.size = ds.length ∧
    (∀ j, LR base I β w (if j = 0 ∧ x.isOw = true then ox else none) (v.cells.getD j undef) (ds.getD j .un)) ∧ (∀ u ∈ v.cells, u.oneCell' = true) := by
    rintro c hc rfl rfl
    obtain ⟨h1, h2⟩ := h.oneCell hc
    rw [h2]
    refine ⟨rfl, fun j => ?_, by simpa using h1⟩
    cases j with
    | zero =>
      show LR base I β w _ v x
      by_cases ho : x.isOw = true
      · rw [if_pos ⟨rfl, ho⟩]; exact h
      · rw [if_neg (by simp [ho])]; exact h.other (by simpa using ho)
    | succ j => simp only [List.getD_cons_succ, List.getD_nil, LR]; exact .un _
  cases x <;> simp only [V.bcells] at hx <;> try cases hx
  · exact one (.c _) rfl rfl rfl
  · rename_i cs
    obtain ⟨vs, rfl, h1, h2⟩ := h.agg
    refine ⟨by simpa [Value.cells] using h1, fun j => ?_, fun u hu => ?_⟩
    · rw [if_neg (by simp [V.isOw])]
      simp only [Value.cells]
      by_cases hj : j < cs.length
      · have : ((cs.map V.c).getD j .un) = .c cs[j] := by simp [List.getD, hj]
        rw [this]
        exact .ofC (h2 j _ (List.getElem?_eq_getElem hj))
      · have : ((cs.map V.c).getD j .un) = .un := by simp [List.getD, List.getElem?_eq_none (Nat.le_of_not_lt hj)]
        rw [this]; simp only [LR]; exact .un _
    · obtain ⟨j, hj, rfl⟩ := Array.mem_iff_getElem.1 hu
      simp only [Value.cells] at hj
      have := (h2 j _ (List.getElem?_eq_getElem (by omega))).oneCell
      simpa [Value.cells, Array.getElem?_eq_getElem hj, hj] using this
  · exact one (.ow _ _) rfl rfl rfl
  · exact one (.bp _ _) rfl rfl rfl
  · exact one (.clo _ _ _) rfl rfl rfl
  · exact one (.ms _ _ _ _ _) rfl rfl rfl
  · simp only [LR] at h
    obtain ⟨cells, rfl, h1, h2⟩ := h
    refine ⟨by simpa [Value.cells] using h1, fun j => ?_, fun u hu => ?_⟩
    · rw [if_neg (by simp [V.isOw])]
      simp only [Value.cells]
      by_cases hj : j < ds.length
      · have : (ds.getD j .un) = ds[j] := by simp [List.getD, hj]
        rw [this]
        exact (h2 j _ (List.getElem?_eq_getElem hj)).toLR
      · have : (ds.getD j .un) = .un := by simp [List.getD, List.getElem?_eq_none (Nat.le_of_not_lt hj)]
        rw [this]; simp only [LR]; exact .un _
    · obtain ⟨j, hj, rfl⟩ := Array.mem_iff_getElem.1 hu
      simp only [Value.cells] at hj
      have := (h2 j _ (List.getElem?_eq_getElem (by omega))).oneCell
      simpa [Value.cells, Array.getElem?_eq_getElem hj, hj] using this

theorem St.newBox (h : St G n I0 M w0 I β ob s a w) {cur : Array Value} {T : TypeId} {cs : List V} {od : Nat → Option Nat} (hsz : cs.length ≤ cur.size)
    (hc : ∀ j, LR (Wr M w0) I β w (od j) (cur.getD j undef) (cs.getD j .un)) (h1 : ∀ u ∈ cur, u.oneCell' = true)
    (hod : ∀ j b, od j = some b → (b < w.heap.size ∧ Wr M w0 b) ∧ (∀ L, ob L ≠ some b) ∧ ∀ i, β i ≠ some b) (hinj : ∀ j j' b, od j = some b → od j' = some b → j = j') :
    St G n I0 M w0 I (up β s.nb (some w.heap.size)) (fun L => match L with | .b i j => if i = s.nb then od j else ob (.b i j) | L => ob L)
      { s with bx := up s.bx s.nb cs, nb := s.nb + 1 } a (w.alloc (.cells cur T)) := by
  have hs := h.allocOwn (.cells cur T)
  have hβ : ∀ i b, β i = some b → up β s.nb (some w.heap.size) i = some b := fun i b hi => by
    have : i ≠ s.nb := fun e => by rw [h.bnone i (by omega)] at hi; cases hi
    rw [up_ne _ _ this]; exact hi
  have hob : ∀ (o' : Option Nat), (∀ b, o' = some b → b < w.heap.size) → ∀ b, o' = some b → (w.alloc (.cells cur T)).heap[b]? = w.heap[b]? ∧ ∀ k, I b k → I b k := fun o' ho b hb =>
    ⟨Below.heap_alloc w _ b (ho b hb), fun _ h => h⟩
  have hI : ∀ b k, I b k → I b k ∧ (w.alloc (.cells cur T)).cell? ⟨b, k, none⟩ = w.cell? ⟨b, k, none⟩ := fun b k hb => ⟨hb, World.cell?_of_block (a := ⟨b, k, none⟩) (Below.heap_alloc w _ b (h.ibnd b k hb))⟩
  have hfr := h.fresh (Nat.le_refl _)
  exact {
    size := h.size, defers := h.defers, below := hs.below, kept := hs.kept, ilow := h.ilow, ihigh := h.ihigh, ibnd := hs.ibnd
    fr := fun t => (h.fr t).mono hI hβ (hob _ fun b hb => (h.obnd _ b hb).1)
    bx := fun i hi => by
      by_cases hin : i = s.nb
      · subst hin
        refine ⟨w.heap.size, cur, T, by simp, .inl h.below.size, heap_alloc_new w _, by simpa using hsz, fun j => ?_, h1, fun k hk => ?_⟩
        · simp only [up_same, if_true]
          exact (hc j).mono hI hβ (hob _ fun b hb => (hod j b hb).1.1)
        · have := h.ibnd _ _ hk; omega
      · obtain ⟨blk, cur', T', e1, e2, e3, e4, e5, e6, e7⟩ := h.bx i (by simp only at hi; omega)
        have hlt : blk < w.heap.size := (Array.getElem?_eq_some_iff.1 e3).1
        refine ⟨blk, cur', T', hβ i blk e1, e2, (Below.heap_alloc w _ blk hlt).trans e3, by simpa only [up_ne _ _ hin] using e4, fun j => ?_, e6, e7⟩
        simp only [up_ne _ _ hin, if_neg hin]
        exact (e5 j).mono hI hβ (hob _ fun b hb => (h.obnd _ b hb).1)
    bnone := fun i hi => by
      simp only at hi
      rw [up_ne _ _ (by omega)]
      exact h.bnone i (by omega)
    ext := fun i b he => hβ i b (h.ext i b he)
    bnew := fun i b hi => by
      by_cases h1 : i = s.nb
      · subst h1; rw [up_same] at hi; cases hi; exact .inr h.below.size
      · rw [up_ne _ _ h1] at hi; exact h.bnew i b hi
    binj := fun i j b hi hj => by
      by_cases h1 : i = s.nb <;> by_cases h2 : j = s.nb
      · rw [h1, h2]
      · subst h1; rw [up_same] at hi; cases hi; rw [up_ne _ _ h2] at hj; exact absurd hj (hfr.2 j)
      · subst h2; rw [up_same] at hj; cases hj; rw [up_ne _ _ h1] at hi; exact absurd hi (hfr.2 i)
      · rw [up_ne _ _ h1] at hi; rw [up_ne _ _ h2] at hj; exact h.binj i j b hi hj
    oinj := fun L L' b hL hL' => by
      have key : ∀ L, (match L with | .b i j => if i = s.nb then od j else ob (.b i j) | L => ob L) = some b → (∃ j, L = .b s.nb j ∧ od j = some b) ∨ ob L = some b := fun L hL => by
        cases L with
        | t i => exact .inr hL
        | b i j =>
          simp only at hL
          split at hL
          · rename_i e; exact .inl ⟨j, by rw [e], hL⟩
          · exact .inr hL
      rcases key L hL with ⟨j, rfl, hj⟩ | h1 <;> rcases key L' hL' with ⟨j', rfl, hj'⟩ | h2
      · rw [hinj j j' b hj hj']
      · exact absurd h2 ((hod j b hj).2.1 L')
      · exact absurd h1 ((hod j' b hj').2.1 L)
      · exact h.oinj L L' b h1 h2
    obx := fun L b i hL hi => by
      have key : ((∃ j, L = .b s.nb j ∧ od j = some b) ∨ ob L = some b) := by
        cases L with
        | t i => exact .inr hL
        | b i' j =>
          simp only at hL
          split at hL
          · rename_i e; exact .inl ⟨j, by rw [e], hL⟩
          · exact .inr hL
      by_cases hin : i = s.nb
      · subst hin; rw [up_same] at hi; cases hi
        rcases key with ⟨j, _, hj⟩ | hj
        · have := (hod j _ hj).1.1; omega
        · exact hfr.1 L hj
      · rw [up_ne _ _ hin] at hi
        rcases key with ⟨j, _, hj⟩ | hj
        · exact (hod j b hj).2.2 i hi
        · exact h.obx L b i hj hi
    obnd := fun L b hL => by
      have key : ((∃ j, L = .b s.nb j ∧ od j = some b) ∨ ob L = some b) := by
        cases L with
        | t i => exact .inr hL
        | b i' j =>
          simp only at hL
          split at hL
          · rename_i e; exact .inl ⟨j, by rw [e], hL⟩
          · exact .inr hL
      rw [World.size_alloc]
      rcases key with ⟨j, _, hj⟩ | hj
      · have := (hod j b hj).1; exact ⟨by omega, this.2⟩
      · have := h.obnd L b hj; exact ⟨by omega, this.2⟩
    glob := fun g cs hg => (h.glob g cs hg).mono hI }

/-- A part of a box is written. -/
theorem St.setBox (h : St G n I0 M w0 I β ob s a w) {i k blk : Nat} {cur : Array Value} {T : TypeId} {vs : List Value} {ds : List V} {od : Nat → Option Nat} (hi : i < s.nb) (hβ : β i = some blk)
    (hheap : w.heap[blk]? = some (.cells cur T (0, 0))) (hlen : vs.length = ds.length) (hfit : k + ds.length ≤ (s.bx i).length)
    (hc : ∀ j, LR (Wr M w0) I β w (od j) (vs.getD j undef) (ds.getD j .un)) (h1 : ∀ u ∈ vs, u.oneCell' = true)
    (hod : ∀ j b, od j = some b → (b < w.heap.size ∧ Wr M w0 b) ∧ (∀ L, ob L ≠ some b) ∧ ∀ i, β i ≠ some b) (hinj : ∀ j j' b, od j = some b → od j' = some b → j = j') :
    St G n I0 M w0 I β (fun L => match L with | .b i' j => if i' = i ∧ k ≤ j ∧ j < k + ds.length then od (j - k) else ob (.b i' j) | L => ob L)
      { s with bx := up s.bx i (setV (s.bx i) k ds) } a (w.setRow blk (cur.toList.take k ++ vs ++ cur.toList.drop (k + vs.length)).toArray) := by
  obtain ⟨blk', cur', T', e1, e2, e3, e4, e5, e6, e7⟩ := h.bx i hi
  rw [hβ] at e1; cases e1
  rw [hheap] at e3; cases e3
  have hblt : blk < w.heap.size := (Array.getElem?_eq_some_iff.1 hheap).1
  have hcl : cur.toList.length = cur.size := Array.length_toList
  have hg : w.grownBy (w.setRow blk (cur.toList.take k ++ vs ++ cur.toList.drop (k + vs.length)).toArray) (some blk) :=
    ⟨rfl, rfl, rfl, by simp, fun q _ hq => setRow_other w blk q _ (fun e => hq (by rw [e]))⟩
  have hkeep := h.keeps hg (fun r e o ho => by cases e; exact absurd ho (e7 o))
  have hI : ∀ b q, I b q → I b q ∧ (w.setRow blk (cur.toList.take k ++ vs ++ cur.toList.drop (k + vs.length)).toArray).cell? ⟨b, q, none⟩ = w.cell? ⟨b, q, none⟩ := fun b q hb => ⟨hb, hkeep b q hb⟩
  have hob : ∀ (o' : Option Nat), (∀ b, o' = some b → ∀ i, β i ≠ some b) → ∀ b, o' = some b → (w.setRow blk (cur.toList.take k ++ vs ++ cur.toList.drop (k + vs.length)).toArray).heap[b]? = w.heap[b]? ∧ ∀ q, I b q → I b q :=
    fun o' ho b hb => ⟨setRow_other w blk b _ (fun e => ho b hb i (by rw [e]; exact hβ)), fun _ h => h⟩
  have key : ∀ L b, (match L with | .b i' j => if i' = i ∧ k ≤ j ∧ j < k + ds.length then od (j - k) else ob (.b i' j) | L => ob L) = some b →
      (∃ j, L = .b i (k + j) ∧ od j = some b) ∨ ob L = some b := fun L b hL => by
    cases L with
    | t i => exact .inr hL
    | b i' j =>
      simp only at hL
      split at hL
      · rename_i e; exact .inl ⟨j - k, by rw [e.1]; congr 1; omega, hL⟩
      · exact .inr hL
  exact {
    size := h.size, defers := h.defers
    below := h.below.grown hg (fun q e => by cases e; exact e2)
    kept := fun b o h0 => (hkeep b o (h.ilow b o h0)).trans (h.kept b o h0)
    ilow := h.ilow, ihigh := h.ihigh
    ibnd := fun b q hb => by simpa using h.ibnd b q hb
    fr := fun t => (h.fr t).mono hI (fun _ _ e => e) (hob _ fun b hb i => h.obx _ b i hb)
    bx := fun i' hi' => by
      by_cases hii : i' = i
      · subst hii
        refine ⟨blk, _, T, hβ, e2, setRow_heap w blk cur _ T _ hheap, ?_, fun j => ?_, fun u hu => ?_, e7⟩
        · simp only [up_same, setV, List.size_toArray, List.length_append, List.length_take, List.length_drop, hcl]; omega
        · have hgetv : ((cur.toList.take k ++ vs ++ cur.toList.drop (k + vs.length)).toArray.getD j undef) = if k ≤ j ∧ j < k + ds.length then vs.getD (j - k) undef else cur.getD j undef := by
            rw [Array.getD_eq_getD_getElem?, List.getElem?_toArray]
            have hkl : (cur.toList.take k).length = k := by rw [List.length_take, hcl]; omega
            by_cases ha : j < k
            · rw [if_neg (by omega), List.append_assoc, List.getElem?_append_left (by omega), List.getElem?_take, if_pos ha, Array.getElem?_toList, ← Array.getD_eq_getD_getElem?]
            · by_cases hb : j < k + ds.length
              · rw [if_pos ⟨by omega, hb⟩, List.append_assoc, List.getElem?_append_right (by omega), hkl, List.getElem?_append_left (by omega), List.getD_eq_getElem?_getD]
              · rw [if_neg (by omega), List.getElem?_append_right (by rw [List.length_append, hkl]; omega), List.getElem?_drop, List.length_append, hkl, Array.getElem?_toList,
                  show k + vs.length + (j - (k + vs.length)) = j by omega, ← Array.getD_eq_getD_getElem?]
          have hgetd : (setV (s.bx i') k ds).getD j .un = if k ≤ j ∧ j < k + ds.length then ds.getD (j - k) .un else (s.bx i').getD j .un := by
            unfold setV
            rw [List.getD_eq_getElem?_getD]
            have hkl : ((s.bx i').take k).length = k := by rw [List.length_take]; omega
            by_cases ha : j < k
            · rw [if_neg (by omega), List.append_assoc, List.getElem?_append_left (by omega), List.getElem?_take, if_pos ha, ← List.getD_eq_getElem?_getD]
            · by_cases hb : j < k + ds.length
              · rw [if_pos ⟨by omega, hb⟩, List.append_assoc, List.getElem?_append_right (by omega), hkl, List.getElem?_append_left (by omega), List.getD_eq_getElem?_getD]
              · rw [if_neg (by omega), List.getElem?_append_right (by rw [List.length_append, hkl]; omega), List.getElem?_drop, List.length_append, hkl,
                  show k + ds.length + (j - (k + ds.length)) = j by omega, ← List.getD_eq_getElem?_getD]
          simp only [up_same]
          rw [hgetv, hgetd]
          by_cases hin : k ≤ j ∧ j < k + ds.length
          · rw [if_pos hin, if_pos hin, if_pos ⟨trivial, hin⟩]
            exact (hc (j - k)).mono hI (fun _ _ e => e) (hob _ fun b hb => (hod _ b hb).2.2)
          · rw [if_neg hin, if_neg hin, if_neg (fun e => hin e.2)]
            exact (e5 j).mono hI (fun _ _ e => e) (hob _ fun b hb i => h.obx _ b i hb)
        · simp only [List.mem_toArray, List.mem_append] at hu
          rcases hu with (hu | hu) | hu
          · exact e6 u (by simpa using List.mem_of_mem_take hu)
          · exact h1 u hu
          · exact e6 u (by simpa using List.mem_of_mem_drop hu)
      · obtain ⟨b2, c2, T2, q1, q2, q3, q4, q5, q6, q7⟩ := h.bx i' hi'
        have hne : b2 ≠ blk := fun e => hii (h.binj i' i blk (by rw [← e]; exact q1) hβ)
        refine ⟨b2, c2, T2, q1, q2, (setRow_other w blk b2 _ hne).trans q3, by simpa only [up_ne _ _ hii] using q4, fun j => ?_, q6, q7⟩
        simp only [up_ne _ _ hii]
        rw [if_neg (fun e => hii e.1)]
        exact (q5 j).mono hI (fun _ _ e => e) (hob _ fun b hb i => h.obx _ b i hb)
    bnone := h.bnone, ext := h.ext, bnew := h.bnew, binj := h.binj
    oinj := fun L L' b hL hL' => by
      rcases key L b hL with ⟨j, rfl, hj⟩ | h1 <;> rcases key L' b hL' with ⟨j', rfl, hj'⟩ | h2
      · rw [hinj j j' b hj hj']
      · exact absurd h2 ((hod j b hj).2.1 L')
      · exact absurd h1 ((hod j' b hj').2.1 L)
      · exact h.oinj L L' b h1 h2
    obx := fun L b q hL => by
      rcases key L b hL with ⟨j, _, hj⟩ | hj
      · exact (hod j b hj).2.2 q
      · exact h.obx L b q hj
    obnd := fun L b hL => by
      rw [size_setRow]
      rcases key L b hL with ⟨j, _, hj⟩ | hj
      · exact (hod j b hj).1
      · exact h.obnd L b hj
    glob := fun g cs hg' => (h.glob g cs hg').mono hI }

theorem St.boxblk (hst : St G n I0 M w0 I β ob s a w) {i b : Nat} (h : β i = some b) : i < s.nb ∧ Wr M w0 b ∧ b < w.heap.size := by
  by_cases hi : i < s.nb
  · obtain ⟨blk, cur, T, e1, e2, e3, _⟩ := hst.bx i hi
    rw [h] at e1; cases e1
    exact ⟨hi, e2, (Array.getElem?_eq_some_iff.1 e3).1⟩
  · rw [hst.bnone i (by omega)] at h; cases h

end
end Go.Vl
