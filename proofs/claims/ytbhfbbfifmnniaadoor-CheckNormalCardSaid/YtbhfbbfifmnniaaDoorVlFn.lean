/- Values without memory: boxes: variables that lie in memory. -/
import Derived.Test.YtbhfbbfifmnniaaDoorVlSound10
import Derived.Maps.RangeRun
import Derived.LoopN
import Derived.Orders
set_option linter.unusedSimpArgs false
set_option linter.unusedVariables false
namespace Go.Vl
open Go Go.RowKit

section
variable {P : Program} {G : Gl} {tr : List Nat} {n : Nat} {I0 : Ft} {M : Mx} {w0 : World} {I : Ft} {β : Nat → Option Nat} {ob : Loc → Option Nat} {s : S} {a : Act} {w : World} {o : Oper}
  {next : Act → World → Prop} {Q : Exit → Act → World → Prop} {base : Nat → Prop} {v : Value} {x y : V}

def V.one : V → Bool
  | .c _ | .ow _ _ | .bp _ _ | .clo _ _ _ | .ms _ _ _ _ _ | .mr _ => true
  | _ => false

theorem PR.oneCell {c : V} (h : PR I β w v c) : v.oneCell' = true := by
  cases c <;> simp only [PR] at h
  · exact h.oneCell
  · exact h.2.1.oneCell
  · obtain ⟨_, _, rfl⟩ := h; rfl
  · obtain ⟨_, _, _, _, _, _, _, rfl⟩ := h; rfl
  · obtain ⟨_, _, rfl⟩ := h; rfl

theorem LR.oneCell {c : V} {ox : Option Nat} (h : LR base I β w ox v c) (hc : c.one = true) : v.oneCell' = true ∧ v.cells = #[v] := by
  cases c <;> simp only [V.one] at hc <;> try cases hc
  · exact ⟨h.toC.oneCell, h.toC.notAgg⟩
  · exact ⟨h.1.oneCell, h.1.notAgg⟩
  · obtain ⟨_, _, rfl⟩ := h; exact ⟨rfl, rfl⟩
  · obtain ⟨_, _, rfl, _⟩ := h; exact ⟨rfl, rfl⟩
  · obtain ⟨_, _, _, _, _, _, _, rfl⟩ := h; exact ⟨rfl, rfl⟩
  · obtain ⟨_, _, rfl⟩ := h; exact ⟨rfl, rfl⟩

theorem bcells_ok {ox : Option Nat} (h : LR base I β w ox v x) {ds : List V} (hx : x.bcells = some ds) : v.cells.size = ds.length ∧
    (∀ j, LR base I β w (if j = 0 ∧ x.isOw = true then ox else none) (v.cells.getD j undef) (ds.getD j .un)) ∧ (∀ u ∈ v.cells, u.oneCell' = true) := by
  have one : ∀ c : V, c.one = true → x = c → ds = [c] → v.cells.size = ds.length ∧
    (∀ j, LR base I β w (if j = 0 ∧ x.isOw = true then ox else none) (v.cells.getD j undef) (ds.getD j .un)) ∧ (∀ u ∈ v.cells, u.oneCell' = true) := by
    rintro c hc rfl rfl
    obtain ⟨h1, h2⟩ := h.oneCell hc
    rw [h2]
    refine ⟨rfl, fun j => ?_, by simpa using h1⟩
    cases j with
    | zero =>
      show LR base I β w _ v x
      by_cases ho : x.isOw = true
      · rw [if_pos ⟨rfl, ho⟩]; exact h
      · rw [if_neg (by simp [ho])]; exact h.other (by simpa using ho)
    | succ j => simp only [List.getD_cons_succ, List.getD_nil, LR]; exact .un _
  cases x <;> simp only [V.bcells] at hx <;> try cases hx
  · exact one (.c _) rfl rfl rfl
  · rename_i cs
    obtain ⟨vs, rfl, h1, h2⟩ := h.agg
    refine ⟨by simpa [Value.cells] using h1, fun j => ?_, fun u hu => ?_⟩
    · rw [if_neg (by simp [V.isOw])]
      simp only [Value.cells]
      by_cases hj : j < cs.length
      · have : ((cs.map V.c).getD j .un) = .c cs[j] := by simp [List.getD, hj]
        rw [this]
        exact .ofC (h2 j _ (List.getElem?_eq_getElem hj))
      · have : ((cs.map V.c).getD j .un) = .un := by simp [List.getD, List.getElem?_eq_none (Nat.le_of_not_lt hj)]
        rw [this]; simp only [LR]; exact .un _
    · obtain ⟨j, hj, rfl⟩ := Array.mem_iff_getElem.1 hu
      simp only [Value.cells] at hj
      have := (h2 j _ (List.getElem?_eq_getElem (by omega))).oneCell
      simpa [Value.cells, Array.getElem?_eq_getElem hj, hj] using this
  · exact one (.ow _ _) rfl rfl rfl
  · exact one (.bp _ _) rfl rfl rfl
  · exact one (.clo _ _ _) rfl rfl rfl
  · exact one (.ms _ _ _ _ _) rfl rfl rfl
  · simp only [LR] at h
    obtain ⟨cells, rfl, h1, h2⟩ := h
    refine ⟨by simpa [Value.cells] using h1, fun j => ?_, fun u hu => ?_⟩
    · rw [if_neg (by simp [V.isOw])]
      simp only [Value.cells]
      by_cases hj : j < ds.length
      · have : (ds.getD j .un) = ds[j] := by simp [List.getD, hj]
        rw [this]
        exact (h2 j _ (List.getElem?_eq_getElem hj)).toLR
      · have : (ds.getD j .un) = .un := by simp [List.getD, List.getElem?_eq_none (Nat.le_of_not_lt hj)]
        rw [this]; simp only [LR]; exact .un _
    · obtain ⟨j, hj, rfl⟩ := Array.mem_iff_getElem.1 hu
      simp only [Value.cells] at hj
      have := (h2 j _ (List.getElem?_eq_getElem (by omega))).oneCell
      simpa [Value.cells, Array.getElem?_eq_getElem hj, hj] using this
  · exact one (.mr _) rfl rfl rfl

theorem bcells_mk {ox : Option Nat} (h : LR base I β w ox v x) {ds : List V} (hx : x.bcells = some ds) : ∀ d ∈ ds, d.isMk = false := by
  cases x <;> simp only [V.bcells] at hx <;> try cases hx
  · simp [V.isMk]
  · simp [V.isMk]
  · simp [V.isMk]
  · simp [V.isMk]
  · simp [V.isMk]
  · simp [V.isMk]
  · simp only [LR] at h
    obtain ⟨cells, rfl, h1, h2⟩ := h
    intro d hd
    obtain ⟨j, hj, rfl⟩ := List.getElem_of_mem hd
    have := h2 j _ (List.getElem?_eq_getElem hj)
    cases hc : ds[j] <;> first | rfl | (rw [hc] at this; exact this.elim)
  · simp [V.isMk]
theorem isMb_of {l : List V} (h : ∀ d ∈ l, d.isMk = false) : isMb l = false := by
  cases l with
  | nil => rfl
  | cons x l => exact h x (by simp)
theorem isMb_setV {l ds : List V} {k : Nat} (h : isMb l = false) (h2 : ∀ d ∈ ds, d.isMk = false) (hk : k ≤ l.length) : isMb (setV l k ds) = false := by
  unfold isMb setV at *
  cases k with
  | succ k => cases l with
    | nil => simp at hk
    | cons x l => simpa using h
  | zero => cases ds with
    | nil => simpa using h
    | cons d ds => exact h2 d (by simp)

theorem St.newBox (h : St G n I0 M w0 I β ob s a w) {cur : Array Value} {T : TypeId} {cs : List V} {od : Nat → Option Nat} (hsz : cs.length ≤ cur.size)
    (hc : ∀ j, LR (Wr M w0) I β w (od j) (cur.getD j undef) (cs.getD j .un)) (h1 : ∀ u ∈ cur, u.oneCell' = true)
    (hod : ∀ j b, od j = some b → (b < w.heap.size ∧ Wr M w0 b) ∧ (∀ L, ob L ≠ some b) ∧ ∀ i, β i ≠ some b) (hinj : ∀ j j' b, od j = some b → od j' = some b → j = j') (hmb : isMb cs = false) :
    St G n I0 M w0 I (up β s.nb (some w.heap.size)) (fun L => match L with | .b i j => if i = s.nb then od j else ob (.b i j) | L => ob L)
      { s with bx := up s.bx s.nb cs, nb := s.nb + 1 } a (w.alloc (.cells cur T)) := by
  have hs := h.allocOwn (.cells cur T)
  have hβ : ∀ i b, β i = some b → up β s.nb (some w.heap.size) i = some b := fun i b hi => by
    have : i ≠ s.nb := fun e => by rw [h.bnone i (by omega)] at hi; cases hi
    rw [up_ne _ _ this]; exact hi
  have hob : ∀ (o' : Option Nat), (∀ b, o' = some b → b < w.heap.size) → ∀ b, o' = some b → (w.alloc (.cells cur T)).heap[b]? = w.heap[b]? ∧ ∀ k, I b k → I b k := fun o' ho b hb =>
    ⟨Below.heap_alloc w _ b (ho b hb), fun _ h => h⟩
  have hI : ∀ b k, I b k → I b k ∧ (w.alloc (.cells cur T)).cell? ⟨b, k, none⟩ = w.cell? ⟨b, k, none⟩ := fun b k hb => ⟨hb, World.cell?_of_block (a := ⟨b, k, none⟩) (Below.heap_alloc w _ b (h.ibnd b k hb))⟩
  have hfr := h.fresh (Nat.le_refl _)
  exact {
    size := h.size, defers := h.defers, below := hs.below, kept := hs.kept, ilow := h.ilow, ihigh := h.ihigh, ibnd := hs.ibnd
    fr := fun t => (h.fr t).mono hI hβ (hob _ fun b hb => (h.obnd _ b hb).1)
    bx := fun i hi => by
      by_cases hin : i = s.nb
      · subst hin
        refine ⟨w.heap.size, cur, by simp, .inl h.below.size, .of (heap_alloc_new w _) h1 (by simpa using hmb), by simpa using hsz, fun j => ?_, fun k hk => ?_⟩
        · simp only [up_same, if_true]
          exact (hc j).mono hI hβ (hob _ fun b hb => (hod j b hb).1.1)
        · have := h.ibnd _ _ hk; omega
      · obtain ⟨blk, cur', e1, e2, e3, e4, e5, e7⟩ := h.bx i (by simp only at hi; omega)
        have hlt : blk < w.heap.size := e3.lt
        refine ⟨blk, cur', hβ i blk e1, e2, by simpa only [up_ne _ _ hin] using e3.mono (Below.heap_alloc w _ blk hlt), by simpa only [up_ne _ _ hin] using e4, fun j => ?_, e7⟩
        simp only [up_ne _ _ hin, if_neg hin]
        exact (e5 j).mono hI hβ (hob _ fun b hb => (h.obnd _ b hb).1)
    bnone := fun i hi => by
      simp only at hi
      rw [up_ne _ _ (by omega)]
      exact h.bnone i (by omega)
    ext := fun i b he => hβ i b (h.ext i b he)
    bnew := fun i b hi => by
      by_cases h1 : i = s.nb
      · subst h1; rw [up_same] at hi; cases hi; exact .inr h.below.size
      · rw [up_ne _ _ h1] at hi; exact h.bnew i b hi
    binj := fun i j b hi hj => by
      by_cases h1 : i = s.nb <;> by_cases h2 : j = s.nb
      · rw [h1, h2]
      · subst h1; rw [up_same] at hi; cases hi; rw [up_ne _ _ h2] at hj; exact absurd hj (hfr.2 j)
      · subst h2; rw [up_same] at hj; cases hj; rw [up_ne _ _ h1] at hi; exact absurd hi (hfr.2 i)
      · rw [up_ne _ _ h1] at hi; rw [up_ne _ _ h2] at hj; exact h.binj i j b hi hj
    oinj := fun L L' b hL hL' => by
      have key : ∀ L, (match L with | .b i j => if i = s.nb then od j else ob (.b i j) | L => ob L) = some b → (∃ j, L = .b s.nb j ∧ od j = some b) ∨ ob L = some b := fun L hL => by
        cases L with
        | t i => exact .inr hL
        | b i j =>
          simp only at hL
          split at hL
          · rename_i e; exact .inl ⟨j, by rw [e], hL⟩
          · exact .inr hL
      rcases key L hL with ⟨j, rfl, hj⟩ | h1 <;> rcases key L' hL' with ⟨j', rfl, hj'⟩ | h2
      · rw [hinj j j' b hj hj']
      · exact absurd h2 ((hod j b hj).2.1 L')
      · exact absurd h1 ((hod j' b hj').2.1 L)
      · exact h.oinj L L' b h1 h2
    obx := fun L b i hL hi => by
      have key : ((∃ j, L = .b s.nb j ∧ od j = some b) ∨ ob L = some b) := by
        cases L with
        | t i => exact .inr hL
        | b i' j =>
          simp only at hL
          split at hL
          · rename_i e; exact .inl ⟨j, by rw [e], hL⟩
          · exact .inr hL
      by_cases hin : i = s.nb
      · subst hin; rw [up_same] at hi; cases hi
        rcases key with ⟨j, _, hj⟩ | hj
        · have := (hod j _ hj).1.1; omega
        · exact hfr.1 L hj
      · rw [up_ne _ _ hin] at hi
        rcases key with ⟨j, _, hj⟩ | hj
        · exact (hod j b hj).2.2 i hi
        · exact h.obx L b i hj hi
    obnd := fun L b hL => by
      have key : ((∃ j, L = .b s.nb j ∧ od j = some b) ∨ ob L = some b) := by
        cases L with
        | t i => exact .inr hL
        | b i' j =>
          simp only at hL
          split at hL
          · rename_i e; exact .inl ⟨j, by rw [e], hL⟩
          · exact .inr hL
      rw [World.size_alloc]
      rcases key with ⟨j, _, hj⟩ | hj
      · have := (hod j b hj).1; exact ⟨by omega, this.2⟩
      · have := h.obnd L b hj; exact ⟨by omega, this.2⟩
    glob := fun g cs hg => (h.glob g cs hg).mono hI }

/-- A part of a box is written. -/
theorem St.setBox (h : St G n I0 M w0 I β ob s a w) {i k blk : Nat} {cur : Array Value} {T : TypeId} {vs : List Value} {ds : List V} {od : Nat → Option Nat} (hi : i < s.nb) (hβ : β i = some blk)
    (hheap : w.heap[blk]? = some (.cells cur T (0, 0))) (hlen : vs.length = ds.length) (hfit : k + ds.length ≤ (s.bx i).length)
    (hc : ∀ j, LR (Wr M w0) I β w (od j) (vs.getD j undef) (ds.getD j .un)) (h1 : ∀ u ∈ vs, u.oneCell' = true)
    (hod : ∀ j b, od j = some b → (b < w.heap.size ∧ Wr M w0 b) ∧ (∀ L, ob L ≠ some b) ∧ ∀ i, β i ≠ some b) (hinj : ∀ j j' b, od j = some b → od j' = some b → j = j') (hmb : isMb (s.bx i) = false) (hmd : ∀ d ∈ ds, d.isMk = false) :
    St G n I0 M w0 I β (fun L => match L with | .b i' j => if i' = i ∧ k ≤ j ∧ j < k + ds.length then od (j - k) else ob (.b i' j) | L => ob L)
      { s with bx := up s.bx i (setV (s.bx i) k ds) } a (w.setRow blk (cur.toList.take k ++ vs ++ cur.toList.drop (k + vs.length)).toArray) := by
  obtain ⟨blk', cur', e1, e2, e3, e4, e5, e7⟩ := h.bx i hi
  obtain ⟨T', e3, e6⟩ := e3.cells hmb
  rw [hβ] at e1; cases e1
  rw [hheap] at e3; cases e3
  have hblt : blk < w.heap.size := (Array.getElem?_eq_some_iff.1 hheap).1
  have hcl : cur.toList.length = cur.size := Array.length_toList
  have hg : w.grownBy (w.setRow blk (cur.toList.take k ++ vs ++ cur.toList.drop (k + vs.length)).toArray) (some blk) :=
    ⟨rfl, rfl, rfl, by simp, fun q _ hq => setRow_other w blk q _ (fun e => hq (by rw [e]))⟩
  have hkeep := h.keeps hg (fun r e o ho => by cases e; exact absurd ho (e7 o))
  have hI : ∀ b q, I b q → I b q ∧ (w.setRow blk (cur.toList.take k ++ vs ++ cur.toList.drop (k + vs.length)).toArray).cell? ⟨b, q, none⟩ = w.cell? ⟨b, q, none⟩ := fun b q hb => ⟨hb, hkeep b q hb⟩
  have hob : ∀ (o' : Option Nat), (∀ b, o' = some b → ∀ i, β i ≠ some b) → ∀ b, o' = some b → (w.setRow blk (cur.toList.take k ++ vs ++ cur.toList.drop (k + vs.length)).toArray).heap[b]? = w.heap[b]? ∧ ∀ q, I b q → I b q :=
    fun o' ho b hb => ⟨setRow_other w blk b _ (fun e => ho b hb i (by rw [e]; exact hβ)), fun _ h => h⟩
  have key : ∀ L b, (match L with | .b i' j => if i' = i ∧ k ≤ j ∧ j < k + ds.length then od (j - k) else ob (.b i' j) | L => ob L) = some b →
      (∃ j, L = .b i (k + j) ∧ od j = some b) ∨ ob L = some b := fun L b hL => by
    cases L with
    | t i => exact .inr hL
    | b i' j =>
      simp only at hL
      split at hL
      · rename_i e; exact .inl ⟨j - k, by rw [e.1]; congr 1; omega, hL⟩
      · exact .inr hL
  exact {
    size := h.size, defers := h.defers
    below := h.below.grown hg (fun q e => by cases e; exact e2)
    kept := fun b o h0 => (hkeep b o (h.ilow b o h0)).trans (h.kept b o h0)
    ilow := h.ilow, ihigh := h.ihigh
    ibnd := fun b q hb => by simpa using h.ibnd b q hb
    fr := fun t => (h.fr t).mono hI (fun _ _ e => e) (hob _ fun b hb i => h.obx _ b i hb)
    bx := fun i' hi' => by
      by_cases hii : i' = i
      · subst hii
        refine ⟨blk, _, hβ, e2, .of (setRow_heap w blk cur _ T _ hheap) (fun u hu => ?_) (by simpa only [up_same] using isMb_setV hmb hmd (by omega)), ?_, fun j => ?_, e7⟩
        rotate_left
        · simp only [up_same, setV, List.size_toArray, List.length_append, List.length_take, List.length_drop, hcl]; omega
        · have hgetv : ((cur.toList.take k ++ vs ++ cur.toList.drop (k + vs.length)).toArray.getD j undef) = if k ≤ j ∧ j < k + ds.length then vs.getD (j - k) undef else cur.getD j undef := by
            rw [Array.getD_eq_getD_getElem?, List.getElem?_toArray]
            have hkl : (cur.toList.take k).length = k := by rw [List.length_take, hcl]; omega
            by_cases ha : j < k
            · rw [if_neg (by omega), List.append_assoc, List.getElem?_append_left (by omega), List.getElem?_take, if_pos ha, Array.getElem?_toList, ← Array.getD_eq_getD_getElem?]
            · by_cases hb : j < k + ds.length
              · rw [if_pos ⟨by omega, hb⟩, List.append_assoc, List.getElem?_append_right (by omega), hkl, List.getElem?_append_left (by omega), List.getD_eq_getElem?_getD]
              · rw [if_neg (by omega), List.getElem?_append_right (by rw [List.length_append, hkl]; omega), List.getElem?_drop, List.length_append, hkl, Array.getElem?_toList,
                  show k + vs.length + (j - (k + vs.length)) = j by omega, ← Array.getD_eq_getD_getElem?]
          have hgetd : (setV (s.bx i') k ds).getD j .un = if k ≤ j ∧ j < k + ds.length then ds.getD (j - k) .un else (s.bx i').getD j .un := by
            unfold setV
            rw [List.getD_eq_getElem?_getD]
            have hkl : ((s.bx i').take k).length = k := by rw [List.length_take]; omega
            by_cases ha : j < k
            · rw [if_neg (by omega), List.append_assoc, List.getElem?_append_left (by omega), List.getElem?_take, if_pos ha, ← List.getD_eq_getElem?_getD]
            · by_cases hb : j < k + ds.length
              · rw [if_pos ⟨by omega, hb⟩, List.append_assoc, List.getElem?_append_right (by omega), hkl, List.getElem?_append_left (by omega), List.getD_eq_getElem?_getD]
              · rw [if_neg (by omega), List.getElem?_append_right (by rw [List.length_append, hkl]; omega), List.getElem?_drop, List.length_append, hkl,
                  show k + ds.length + (j - (k + ds.length)) = j by omega, ← List.getD_eq_getElem?_getD]
          simp only [up_same]
          rw [hgetv, hgetd]
          by_cases hin : k ≤ j ∧ j < k + ds.length
          · rw [if_pos hin, if_pos hin, if_pos ⟨trivial, hin⟩]
            exact (hc (j - k)).mono hI (fun _ _ e => e) (hob _ fun b hb => (hod _ b hb).2.2)
          · rw [if_neg hin, if_neg hin, if_neg (fun e => hin e.2)]
            exact (e5 j).mono hI (fun _ _ e => e) (hob _ fun b hb i => h.obx _ b i hb)
        · simp only [List.mem_toArray, List.mem_append] at hu
          rcases hu with (hu | hu) | hu
          · exact e6 u (by simpa using List.mem_of_mem_take hu)
          · exact h1 u hu
          · exact e6 u (by simpa using List.mem_of_mem_drop hu)
      · obtain ⟨b2, c2, q1, q2, q3, q4, q5, q7⟩ := h.bx i' hi'
        have hne : b2 ≠ blk := fun e => hii (h.binj i' i blk (by rw [← e]; exact q1) hβ)
        refine ⟨b2, c2, q1, q2, by simpa only [up_ne _ _ hii] using q3.mono (setRow_other w blk b2 _ hne), by simpa only [up_ne _ _ hii] using q4, fun j => ?_, q7⟩
        simp only [up_ne _ _ hii]
        rw [if_neg (fun e => hii e.1)]
        exact (q5 j).mono hI (fun _ _ e => e) (hob _ fun b hb i => h.obx _ b i hb)
    bnone := h.bnone, ext := h.ext, bnew := h.bnew, binj := h.binj
    oinj := fun L L' b hL hL' => by
      rcases key L b hL with ⟨j, rfl, hj⟩ | h1 <;> rcases key L' b hL' with ⟨j', rfl, hj'⟩ | h2
      · rw [hinj j j' b hj hj']
      · exact absurd h2 ((hod j b hj).2.1 L')
      · exact absurd h1 ((hod j' b hj').2.1 L)
      · exact h.oinj L L' b h1 h2
    obx := fun L b q hL => by
      rcases key L b hL with ⟨j, _, hj⟩ | hj
      · exact (hod j b hj).2.2 q
      · exact h.obx L b q hj
    obnd := fun L b hL => by
      rw [size_setRow]
      rcases key L b hL with ⟨j, _, hj⟩ | hj
      · exact (hod j b hj).1
      · exact h.obnd L b hj
    glob := fun g cs hg' => (h.glob g cs hg').mono hI }

theorem St.boxblk (hst : St G n I0 M w0 I β ob s a w) {i b : Nat} (h : β i = some b) : i < s.nb ∧ Wr M w0 b ∧ b < w.heap.size := by
  by_cases hi : i < s.nb
  · obtain ⟨blk, cur, e1, e2, e3, _⟩ := hst.bx i hi
    rw [h] at e1; cases e1
    exact ⟨hi, e2, e3.lt⟩
  · rw [hst.bnone i (by omega)] at h; cases h

end
end Go.Vl

/- Maps, third part: writes of maps keep the relation. -/
namespace Go.Vl
open Go Go.RowKit

section
variable {P : Program} {G : Gl} {tr : List Nat} {n : Nat} {I0 : Ft} {M : Mx} {w0 : World} {I : Ft} {β : Nat → Option Nat} {ob : Loc → Option Nat} {s : S} {a : Act} {w : World} {o : Oper}
  {next : Act → World → Prop} {Q : Exit → Act → World → Prop} {base : Nat → Prop} {v : Value} {x y : V}

/-- A world in which one block holds another object. -/
def World.putObj (w : World) (r : Nat) (o : Obj) : World := { w with heap := w.heap.setIfInBounds r o }

theorem putObj_same {r : Nat} {o : Obj} (h : r < w.heap.size) : (World.putObj w r o).heap[r]? = some o := by simp [World.putObj, h]
theorem putObj_other {r q : Nat} {o : Obj} (h : q ≠ r) : (World.putObj w r o).heap[q]? = w.heap[q]? := by simp [World.putObj, Ne.symm h]
theorem putObj_size {r : Nat} {o : Obj} : (World.putObj w r o).heap.size = w.heap.size := by simp [World.putObj]
theorem putObj_grown (r : Nat) (o : Obj) : w.grownBy (World.putObj w r o) (some r) :=
  ⟨rfl, rfl, rfl, by simp [World.putObj], fun q _ hq => putObj_other (fun e => hq (by rw [e]))⟩

/-- A box holds something else. -/
theorem St.reBox (h : St G n I0 M w0 I β ob s a w) {i blk : Nat} {o : Obj} {cur : Array Value} {l : List V} (hi : i < s.nb) (hβ : β i = some blk)
    (hHB : HB (World.putObj w blk o) blk cur l) (hl : l.length ≤ cur.size) {od : Nat → Option Nat} (hc : ∀ j, LR (Wr M w0) I β w (od j) (cur.getD j undef) (l.getD j .un))
    (hod : ∀ j b, od j = some b → ob (.b i j) = some b) :
    St G n I0 M w0 I β (fun L => match L with | .b i' j => if i' = i then od j else ob (.b i' j) | L => ob L) { s with bx := up s.bx i l } a (World.putObj w blk o) := by
  obtain ⟨blk', cur', e1, e2, e3, e4, e5, e7⟩ := h.bx i hi
  rw [hβ] at e1; cases e1
  have hblt : blk < w.heap.size := e3.lt
  have hg := putObj_grown (w := w) blk o
  have hkeep := h.keeps hg (fun r e o ho => by cases e; exact absurd ho (e7 o))
  have hI : ∀ b q, I b q → I b q ∧ (World.putObj w blk o).cell? ⟨b, q, none⟩ = w.cell? ⟨b, q, none⟩ := fun b q hb => ⟨hb, hkeep b q hb⟩
  have hob : ∀ (o' : Option Nat), (∀ b, o' = some b → ∀ i, β i ≠ some b) → ∀ b, o' = some b → (World.putObj w blk o).heap[b]? = w.heap[b]? ∧ ∀ q, I b q → I b q :=
    fun o' ho b hb => ⟨putObj_other (fun e => ho b hb i (by rw [e]; exact hβ)), fun _ h => h⟩
  have key : ∀ L b, (match L with | .b i' j => if i' = i then od j else ob (.b i' j) | L => ob L) = some b → ob L = some b := fun L b hL => by
    cases L with
    | t i => exact hL
    | b i' j =>
      simp only at hL
      split at hL
      · rename_i e; rw [e]; exact hod j b hL
      · exact hL
  exact {
    size := h.size, defers := h.defers
    below := h.below.grown hg (fun q e => by cases e; exact e2)
    kept := fun b o h0 => (hkeep b o (h.ilow b o h0)).trans (h.kept b o h0)
    ilow := h.ilow, ihigh := h.ihigh
    ibnd := fun b q hb => by rw [putObj_size]; exact h.ibnd b q hb
    fr := fun t => (h.fr t).mono hI (fun _ _ e => e) (hob _ fun b hb i => h.obx _ b i hb)
    bx := fun i' hi' => by
      by_cases hii : i' = i
      · subst hii
        refine ⟨blk, cur, hβ, e2, by simpa only [up_same] using hHB, by simpa only [up_same] using hl, fun j => ?_, e7⟩
        simp only [up_same, if_true]
        exact (hc j).mono hI (fun _ _ e => e) (hob _ fun b hb q => h.obx _ b q (hod j b hb))
      · obtain ⟨b2, c2, q1, q2, q3, q4, q5, q7⟩ := h.bx i' hi'
        have hne : b2 ≠ blk := fun e => hii (h.binj i' i blk (by rw [← e]; exact q1) hβ)
        refine ⟨b2, c2, q1, q2, by simpa only [up_ne _ _ hii] using q3.mono (putObj_other hne), by simpa only [up_ne _ _ hii] using q4, fun j => ?_, q7⟩
        simp only [up_ne _ _ hii, if_neg hii]
        exact (q5 j).mono hI (fun _ _ e => e) (hob _ fun b hb i => h.obx _ b i hb)
    bnone := h.bnone, ext := h.ext, bnew := h.bnew, binj := h.binj
    oinj := fun L L' b hL hL' => h.oinj L L' b (key L b hL) (key L' b hL')
    obx := fun L b q hL => h.obx L b q (key L b hL)
    obnd := fun L b hL => by rw [putObj_size]; exact h.obnd L b (key L b hL)
    glob := fun g cs hg' => (h.glob g cs hg').mono hI }

/-- The cells of a map's box, from its entries. -/
theorem ent_cells {es : List MapEntry} {r : List V} {bs : List Nat} {cl : Nat} {od : Nat → Option Nat} (hr : r.length = 2 * es.length)
    (h : ∀ (j : Nat) (e : MapEntry), es[j]? = some e → LR base I β w (od (2 * j + 1)) e.key (r.getD (2 * j) .un) ∧ LR base I β w (od (2 * j + 2)) e.val (r.getD (2 * j + 1) .un)) (j : Nat) :
    LR base I β w (od j) ((undef :: entCells es).toArray.getD j undef) ((V.mk bs cl :: r).getD j .un) := by
  have hg : ∀ q, (undef :: entCells es).toArray.getD (q + 1) undef = ((entCells es)[q]?).getD undef := fun q => by
    simp
  cases j with
  | zero => simp [LR]
  | succ q =>
    rw [hg]
    simp only [List.getD_cons_succ]
    by_cases hq : q < r.length
    · have hlt : q / 2 < es.length := by omega
      obtain ⟨l1, l2⟩ := h (q / 2) _ (List.getElem?_eq_getElem hlt)
      obtain ⟨c1, c2⟩ := entCells_get es (q / 2) _ (List.getElem?_eq_getElem hlt)
      rcases Nat.mod_two_eq_zero_or_one q with hm | hm
      · have e : 2 * (q / 2) = q := by omega
        rw [e] at l1 c1
        rw [c1]; exact l1
      · have e : 2 * (q / 2) + 1 = q := by omega
        rw [show 2 * (q / 2) + 2 = 2 * (q / 2) + 1 + 1 by omega, e] at l2
        rw [e] at c2
        rw [c2]; exact l2
    · have : r.getD q .un = .un := by simp [List.getD, List.getElem?_eq_none (Nat.le_of_not_lt hq)]
      rw [this]; simp only [LR]; exact .un _

/-- The map holds other entries. -/
theorem St.reMap (h : St G n I0 M w0 I β ob s a w) {i cl blk : Nat} {bs : List Nat} {r : List V} {es : Array MapEntry} (hm : MapW P I M w0 β ob s w i bs cl r blk es) {es' : Array MapEntry} {cl' : Nat} {bs' : List Nat} {r' : List V}
    (hb : es'.toList.map (·.born) = bs') (hr : r'.length = 2 * bs'.length) {od : Nat → Option Nat} (hod : ∀ j b, od j = some b → ob (.b i j) = some b)
    (hent : ∀ (j : Nat) (e : MapEntry), es'.toList[j]? = some e → LR (Wr M w0) I β w (od (2 * j + 1)) e.key (r'.getD (2 * j) .un) ∧ LR (Wr M w0) I β w (od (2 * j + 2)) e.val (r'.getD (2 * j + 1) .un)) :
    ∃ ob', St G n I0 M w0 I β ob' { s with bx := up s.bx i (.mk bs' cl' :: r') } a (World.putObj w blk (.map es' cl')) := by
  have hlt : blk < w.heap.size := (Array.getElem?_eq_some_iff.1 hm.heap).1
  have hlen : es'.toList.length = bs'.length := by rw [← hb, List.length_map]
  refine ⟨_, h.reBox (cur := (undef :: entCells es'.toList).toArray) (od := od) hm.lt hm.bt ?_ ?_ (fun j => ent_cells (by omega) hent j) hod⟩
  · unfold HB
    have : mkOf (V.mk bs' cl' :: r') = some (bs', cl') := rfl
    rw [this]
    exact ⟨es', putObj_same hlt, hb, rfl, by simp [hr]; omega⟩
  · simp [entCells_len, hlen, hr]

theorem set_getD_ne {l : List V} {i j : Nat} {x : V} (h : i ≠ j) : (l.set i x).getD j .un = l.getD j .un := by
  simp [List.getD, List.getElem?_set, h]
theorem set_getD_same {l : List V} {i : Nat} {x : V} (h : i < l.length) : (l.set i x).getD i .un = x := by
  simp [List.getD, h]

/-- A new map. -/
theorem St.newMap (h : St G n I0 M w0 I β ob s a w) :
    St G n I0 M w0 I (up β s.nb (some w.heap.size)) (fun L => match L with | .b i j => if i = s.nb then none else ob (.b i j) | L => ob L)
      { s with bx := up s.bx s.nb [.mk [] 0], nb := s.nb + 1 } a (w.alloc (.map #[] 0)) := by
  have hs := h.allocOwn (.map #[] 0)
  have hβ : ∀ i b, β i = some b → up β s.nb (some w.heap.size) i = some b := fun i b hi => by
    have : i ≠ s.nb := fun e => by rw [h.bnone i (by omega)] at hi; cases hi
    rw [up_ne _ _ this]; exact hi
  have hob : ∀ (o' : Option Nat), (∀ b, o' = some b → b < w.heap.size) → ∀ b, o' = some b → (w.alloc (.map #[] 0)).heap[b]? = w.heap[b]? ∧ ∀ k, I b k → I b k := fun o' ho b hb =>
    ⟨Below.heap_alloc w _ b (ho b hb), fun _ h => h⟩
  have hI : ∀ b k, I b k → I b k ∧ (w.alloc (.map #[] 0)).cell? ⟨b, k, none⟩ = w.cell? ⟨b, k, none⟩ := fun b k hb => ⟨hb, World.cell?_of_block (a := ⟨b, k, none⟩) (Below.heap_alloc w _ b (h.ibnd b k hb))⟩
  have hfr := h.fresh (Nat.le_refl _)
  have key : ∀ L b, (match L with | .b i j => if i = s.nb then none else ob (.b i j) | L => ob L) = some b → ob L = some b := fun L b hL => by
    cases L with
    | t i => exact hL
    | b i j =>
      simp only at hL
      split at hL
      · cases hL
      · exact hL
  exact {
    size := h.size, defers := h.defers, below := hs.below, kept := hs.kept, ilow := h.ilow, ihigh := h.ihigh, ibnd := hs.ibnd
    fr := fun t => (h.fr t).mono hI hβ (hob _ fun b hb => (h.obnd _ b hb).1)
    bx := fun i hi => by
      by_cases hin : i = s.nb
      · subst hin
        refine ⟨w.heap.size, #[undef], by simp, .inl h.below.size, ?_, by simp, fun j => ?_, fun k hk => ?_⟩
        · simp only [up_same]
          exact ⟨#[], heap_alloc_new w _, rfl, rfl, rfl⟩
        · simp only [up_same, if_true]
          cases j with
          | zero => simp [LR]
          | succ j => simp only [List.getD_cons_succ, List.getD_nil, LR]; exact .un _
        · have := h.ibnd _ _ hk; omega
      · obtain ⟨blk, cur', e1, e2, e3, e4, e5, e7⟩ := h.bx i (by simp only at hi; omega)
        have hlt : blk < w.heap.size := e3.lt
        refine ⟨blk, cur', hβ i blk e1, e2, by simpa only [up_ne _ _ hin] using e3.mono (Below.heap_alloc w _ blk hlt), by simpa only [up_ne _ _ hin] using e4, fun j => ?_, e7⟩
        simp only [up_ne _ _ hin, if_neg hin]
        exact (e5 j).mono hI hβ (hob _ fun b hb => (h.obnd _ b hb).1)
    bnone := fun i hi => by
      simp only at hi
      rw [up_ne _ _ (by omega)]
      exact h.bnone i (by omega)
    ext := fun i b he => hβ i b (h.ext i b he)
    bnew := fun i b hi => by
      by_cases h1 : i = s.nb
      · subst h1; rw [up_same] at hi; cases hi; exact .inr h.below.size
      · rw [up_ne _ _ h1] at hi; exact h.bnew i b hi
    binj := fun i j b hi hj => by
      by_cases h1 : i = s.nb <;> by_cases h2 : j = s.nb
      · rw [h1, h2]
      · subst h1; rw [up_same] at hi; cases hi; rw [up_ne _ _ h2] at hj; exact absurd hj (hfr.2 j)
      · subst h2; rw [up_same] at hj; cases hj; rw [up_ne _ _ h1] at hi; exact absurd hi (hfr.2 i)
      · rw [up_ne _ _ h1] at hi; rw [up_ne _ _ h2] at hj; exact h.binj i j b hi hj
    oinj := fun L L' b hL hL' => h.oinj L L' b (key L b hL) (key L' b hL')
    obx := fun L b i hL hi => by
      by_cases hin : i = s.nb
      · subst hin; rw [up_same] at hi; cases hi
        exact hfr.1 L (key L _ hL)
      · rw [up_ne _ _ hin] at hi
        exact h.obx L b i (key L b hL) hi
    obnd := fun L b hL => by
      rw [World.size_alloc]
      have := h.obnd L b (key L b hL); exact ⟨by omega, this.2⟩
    glob := fun g cs hg => (h.glob g cs hg).mono hI }

/-- A key's value is replaced. -/
theorem reMap_set (hst : St G n I0 M w0 I β ob s a w) {i cl blk j : Nat} {bs : List Nat} {r : List V} {es : Array MapEntry} (hm : MapW P I M w0 β ob s w i bs cl r blk es) {e : MapEntry} (he : es.toList[j]? = some e)
    {vv : Value} (hv : LR (Wr M w0) I β w none vv y) {f : MapEntry → MapEntry} (hf : f e = { e with val := vv }) :
    ∃ ob', St G n I0 M w0 I β ob' { s with bx := up s.bx i (.mk bs cl :: r.set (2 * j + 1) y) } a (World.putObj w blk (.map (es.modify j f) cl)) := by
  have hj : j < es.toList.length := (List.getElem?_eq_some_iff.1 he).1
  have hbl : es.toList.length = bs.length := by rw [← hm.born, List.length_map]
  have hget : ∀ q, (es.modify j f).toList[q]? = if q = j then some { e with val := vv } else es.toList[q]? := fun q => by
    rw [Array.toList_modify, List.getElem?_modify]
    by_cases hq : j = q
    · subst hq; simp [he, hf]
    · simp [hq, Ne.symm hq]
  refine hst.reMap hm (es' := es.modify j f) (bs' := bs) (cl' := cl) (od := fun q => if q = 2 * j + 2 then none else ob (.b i q)) ?_ (by rw [List.length_set]; exact hm.len) (fun q b hq => by split at hq; cases hq; exact hq) fun q e' hq => ?_
  · rw [← hm.born]
    apply List.ext_getElem?
    intro q
    rw [List.getElem?_map, List.getElem?_map, hget]
    by_cases hq : q = j
    · subst hq; simp only [if_true, he, Option.map_some]
    · rw [if_neg hq]
  · rw [hget] at hq
    by_cases hqj : q = j
    · subst hqj
      simp only [if_true, Option.some.injEq] at hq; subst hq
      obtain ⟨l1, _⟩ := hm.ent q e he
      refine ⟨?_, ?_⟩
      · rw [set_getD_ne (by omega), if_neg (by omega)]; exact l1
      · rw [set_getD_same (by have := hm.len; omega), if_pos rfl]; exact hv
    · rw [if_neg hqj] at hq
      obtain ⟨l1, l2⟩ := hm.ent q e' hq
      refine ⟨?_, ?_⟩
      · rw [set_getD_ne (by omega), if_neg (by omega)]; exact l1
      · rw [set_getD_ne (by omega), if_neg (by omega)]; exact l2

/-- A key is new. -/
theorem reMap_push (hst : St G n I0 M w0 I β ob s a w) {i cl blk : Nat} {bs : List Nat} {r : List V} {es : Array MapEntry} (hm : MapW P I M w0 β ob s w i bs cl r blk es)
    {vk vv : Value} (hk : LR (Wr M w0) I β w none vk x) (hv : LR (Wr M w0) I β w none vv y) :
    ∃ ob', St G n I0 M w0 I β ob' { s with bx := up s.bx i (.mk (bs ++ [cl]) (cl + 1) :: (r ++ [x, y])) } a (World.putObj w blk (.map (es.push { key := vk, val := vv, born := cl }) (cl + 1))) := by
  have hbl : es.toList.length = bs.length := by rw [← hm.born, List.length_map]
  have hlen := hm.len
  refine hst.reMap hm (es' := es.push { key := vk, val := vv, born := cl }) (bs' := bs ++ [cl]) (cl' := cl + 1) (od := fun q => if q < 1 + r.length then ob (.b i q) else none) (by simp [hm.born]) (by simp [hlen]; omega)
    (fun q b hq => by split at hq; exact hq; cases hq) fun q e' hq => ?_
  rw [Array.toList_push] at hq
  by_cases hqj : q < es.toList.length
  · rw [List.getElem?_append_left hqj] at hq
    obtain ⟨l1, l2⟩ := hm.ent q e' hq
    have g : ∀ p, p < r.length → (r ++ [x, y]).getD p .un = r.getD p .un := fun p hp => by simp [List.getD, List.getElem?_append_left hp]
    refine ⟨?_, ?_⟩
    · rw [g _ (by omega), if_pos (by omega)]; exact l1
    · rw [g _ (by omega), if_pos (by omega)]; exact l2
  · rw [List.getElem?_append_right (by omega)] at hq
    have hq0 : q - es.toList.length = 0 := by have := (List.getElem?_eq_some_iff.1 hq).1; simp at this; omega
    rw [hq0] at hq
    simp only [List.getElem?_cons_zero, Option.some.injEq] at hq; subst hq
    have e1 : 2 * q = r.length := by omega
    refine ⟨?_, ?_⟩
    · rw [if_neg (by omega), e1]
      have : (r ++ [x, y]).getD r.length .un = x := by simp [List.getD]
      rw [this]; exact hk
    · rw [if_neg (by omega), e1]
      have : (r ++ [x, y]).getD (r.length + 1) .un = y := by simp [List.getD]
      rw [this]; exact hv

theorem tup2 {I : Ft} {w : World} {u1 u2 : Value} {d1 d2 : V} (h1 : DR I w u1 d1) (h2 : DR I w u2 d2) : DR I w (.tuple #[u1, u2]) (.tup [d1, d2]) := by
  refine .tup _ _ rfl fun q d hd => ?_
  match q with
  | 0 => simp at hd; subst hd; exact h1
  | 1 => simp at hd; subst hd; exact h2
  | q + 2 => simp at hd

theorem vmapSet_sound {T : TypeId} {k z : V} {K : S → Prop} {vx vk vv : Value} {ox oy oz : Option Nat} (hst : St G n I0 M w0 I β ob s a w) (h : vmapSet P T s x k z K)
    (hx : LR (Wr M w0) I β w ox vx x) (hy : LR (Wr M w0) I β w oy vk k) (hz : LR (Wr M w0) I β w oz vv z) :
    ∃ s' ob' w', K s' ∧ (Instr.mapUpdate T vx vk vv).run P w = .ok () w' ∧ St G n I0 M w0 I β ob' s' a w' := by
  unfold vmapSet at h
  obtain ⟨i, bs, cl, r, res, z0, blk, kt, et, es, zv, hK, rfl, rfl, hm, hu, hck, hfk, hres, hz1, hz2⟩ := vmapAt_sound hst h hx hy
  have hg := MapKept.run_getObj_map (P := P) hm.heap
  cases res with
  | some j =>
    obtain ⟨e, he, hkey, hstay⟩ := hres j rfl
    simp only [Option.map_some, he, Option.getD_some] at hfk
    obtain ⟨ob', hst'⟩ := reMap_set hst hm he (hz.fz none) (f := fun e => { e with key := vk, val := vv }) (by rw [hkey])
    have he' : es[j]? = some e := by rw [← Array.getElem?_toList]; exact he
    refine ⟨_, ob', _, hK, ?_, hst'⟩
    simp [Instr.mapUpdate, run_underlying hu, hg, hck, hfk, he', hstay, MapKept.run_setObj_map _ hm.heap, Result.andThen, World.putObj]
  | none =>
    simp only [Option.map_none] at hfk
    obtain ⟨ob', hst'⟩ := reMap_push hst hm (hy.fz none) (hz.fz none)
    refine ⟨_, ob', _, hK, ?_, hst'⟩
    simp [Instr.mapUpdate, run_underlying hu, hg, hck, hfk, MapKept.run_setObj_map _ hm.heap, Result.andThen, World.putObj]

theorem vmapEntry_sound {T : TypeId} {k : V} {K : S → V → Prop} {vx vk : Value} {ox oy : Option Nat} (hst : St G n I0 M w0 I β ob s a w) (h : vmapEntry P T s x k K)
    (hx : LR (Wr M w0) I β w ox vx x) (hy : LR (Wr M w0) I β w oy vk k) :
    ∃ s' ob' w' z u, K s' z ∧ (Instr.mapEntry T vx vk).run P w = .ok u w' ∧ St G n I0 M w0 I β ob' s' a w' ∧ LR (Wr M w0) I β w' none u z := by
  unfold vmapEntry at h
  obtain ⟨i, bs, cl, r, res, z0, blk, kt, et, es, zv, hK, rfl, rfl, hm, hu, hck, hfk, hres, hz1, hz2⟩ := vmapAt_sound hst h hx hy
  have hg := MapKept.run_getObj_map (P := P) hm.heap
  have hI : ∀ (o' : Obj) b o, I b o → I b o ∧ (World.putObj w blk o').cell? ⟨b, o, none⟩ = w.cell? ⟨b, o, none⟩ := fun o' b o hb =>
    ⟨hb, hst.keeps (putObj_grown blk o') (fun r e o ho => by cases e; exact absurd ho (hm.fr o)) b o hb⟩
  cases res with
  | some j =>
    obtain ⟨e, he, hkey, hstay⟩ := hres j rfl
    simp only [Option.map_some, he, Option.getD_some] at hfk
    obtain ⟨l1, l2⟩ := hm.ent j e he
    have he' : es[j]? = some e := by rw [← Array.getElem?_toList]; exact he
    have hbj : bs.getD j 0 = e.born := by rw [← hm.born]; simp [List.getD, he]
    have hr : (r.set (2 * j + 1) (r.getD (2 * j + 1) .un)) = r := by
      apply List.ext_getElem?
      intro q
      rw [List.getElem?_set]
      split
      · rename_i e; subst e
        split
        · rename_i hl; simp [List.getD, hl]
        · rename_i hl; rw [List.getElem?_eq_none (by omega)]
      · rfl
    have hbx : up s.bx i (V.mk bs cl :: r) = s.bx := by rw [← hm.bx]; exact up_self _ _
    have hst' : ∃ ob', St G n I0 M w0 I β ob' s a (World.putObj w blk (.map (es.modify j fun e => { e with key := vk }) cl)) := by
      have hget : ∀ q, (es.modify j fun e => { e with key := vk }).toList[q]? = es.toList[q]? := fun q => by
        rw [Array.toList_modify, List.getElem?_modify]
        by_cases hq : j = q
        · subst hq; rw [he, ← hkey]; simp
        · cases es.toList[q]? <;> simp [hq]
      have hl : (es.modify j fun e => { e with key := vk }) = es := Array.ext' (List.ext_getElem? hget)
      rw [hl]
      obtain ⟨ob', h'⟩ := hst.reMap hm (es' := es) (bs' := bs) (cl' := cl) (r' := r) (od := fun q => ob (.b i q)) hm.born hm.len (fun _ _ h => h) hm.ent
      rw [hbx] at h'
      exact ⟨ob', h'⟩
    obtain ⟨ob', hst'⟩ := hst'
    refine ⟨s, ob', _, _, .tuple #[e.val, .int .i64 e.born], hK, ?_, hst', ?_⟩
    · simp [Instr.mapEntry, run_underlying hu, hg, hck, hfk, he', hstay, MapKept.run_setObj_map _ hm.heap, Result.andThen, World.putObj, goInt]
    · simp only [LR]
      rw [hbj]
      exact (tup2 (dr_ok l2) (.c _ _ (.lit _ rfl))).mono (hI _)
  | none =>
    simp only [Option.map_none] at hfk
    obtain ⟨ob', hst'⟩ := reMap_push hst hm (hy.fz none) hz2
    refine ⟨_, ob', _, _, .tuple #[zv, .int .i64 cl], hK, ?_, hst', ?_⟩
    · simp [Instr.mapEntry, run_underlying hu, hg, hck, hfk, hz1, MapKept.run_setObj_map _ hm.heap, Result.andThen, World.putObj, goInt]
    · simp only [LR]
      exact (tup2 (dr_ok hz2) (.c _ _ (.lit _ rfl))).mono (hI _)

theorem find_stamp {es : List MapEntry} {m : Int} {j : Nat} (h : (es.map (·.born)).findIdx? (fun (b : Nat) => (b : Int) == m) = some j) : ∃ e, es[j]? = some e ∧ es.findIdx? (fun e => (e.born : Int) == m) = some j := by
  have h1 : es.findIdx? (fun e => (e.born : Int) == m) = some j := by
    rw [List.findIdx?_map] at h; exact h
  have hlt : j < es.length := by
    have := List.findIdx?_eq_some_iff_getElem.1 h1
    exact this.1
  exact ⟨_, List.getElem?_eq_getElem hlt, h1⟩

theorem ventrySet_sound {T : TypeId} {k z : V} {K : S → Prop} {vx vk vv : Value} {ox oy oz : Option Nat} (hst : St G n I0 M w0 I β ob s a w) (h : ventrySet s x k z K)
    (hx : LR (Wr M w0) I β w ox vx x) (hy : LR (Wr M w0) I β w oy vk k) (hz : LR (Wr M w0) I β w oz vv z) :
    ∃ s' ob' w', K s' ∧ (Instr.entryStore T vx vk vv).run P w = .ok () w' ∧ St G n I0 M w0 I β ob' s' a w' := by
  unfold ventrySet at h
  split at h
  · rename_i i ik m
    split at h
    · rename_i bs cl r hb
      split at h
      · rename_i j hj
        obtain ⟨hi, hK⟩ := h
        simp only [LR] at hx
        obtain ⟨blk, hβ, rfl⟩ := hx
        obtain ⟨es, hm⟩ := hst.mapW (P := P) hi hb hβ
        have hg := MapKept.run_getObj_map (P := P) hm.heap
        have := hy.lit
        subst this
        rw [← hm.born] at hj
        obtain ⟨e, he, hf⟩ := find_stamp hj
        have hf' : es.findIdx? (fun e => (e.born : Int) == m) = some j := by rw [show es = es.toList.toArray by simp, List.findIdx?_toArray]; exact hf
        obtain ⟨ob', hst'⟩ := reMap_set hst hm he (hz.fz none) (f := fun e => { e with val := vv }) rfl
        refine ⟨_, ob', _, hK, ?_, hst'⟩
        simp [Instr.entryStore, hg, hf', asInt, asIntOf, MapKept.run_setObj_map _ hm.heap, Result.andThen, World.putObj]
      · exact h.elim
    · exact h.elim
  · exact h.elim

theorem put_same {t : Nat} {u : Value} (h : a.tmps.getD t undef = u) (ht : t < a.tmps.size) : a.put (some t) u = a := by
  have : a.tmps.setIfInBounds t u = a.tmps := by
    apply Array.ext (by simp)
    intro i h1 h2
    rw [Array.getElem_setIfInBounds]
    split
    · rename_i e; subst e; rw [← h]; simp [ht]
    · rfl
  simp only [Act.put, this]

theorem vnext_sound {t : Nat} {ty : TypeId} {K : Option V → V → Prop} (hst : St G n I0 M w0 I β ob s a w) (hd : ∀ d, o.dst = some d → d < n) (h : vnext s (s.fr t) K) :
    ∃ it z u w', K it z ∧ (Instr.next (a.tmps.getD t undef) false ty).run P w = .ok u w' ∧ SE G n I0 M w0 ((match it with | some x => { s with fr := up s.fr t x } | none => s : S).put o.dst z) (a.put o.dst u) w' := by
  unfold vnext at h
  have hx := hst.fr t
  split at h
  · rename_i i since stepped seen hfr
    rw [hfr] at hx
    split at h
    · rename_i bs cl r hb
      obtain ⟨⟨hi, hsc, hold⟩, hend, hstep⟩ := h
      simp only [LR] at hx
      obtain ⟨blk, m, hobt, hwr, hβ, hv, hh, hni⟩ := hx
      obtain ⟨es, hm⟩ := hst.mapW (P := P) hi hb hβ
      rw [hv]
      rcases run_next_at (P := P) w ty blk m since stepped seen.toArray es cl hh hm.heap (fun x hx => hold _ (by rw [← hm.born]; exact List.mem_map.2 ⟨x, hx, rfl⟩)) hsc with ⟨h0, hrun⟩ | ⟨e, he, w1, hw1, hrun⟩
      · refine ⟨none, _, _, _, hend fun b hbm => ?_, hrun, ?_⟩
        · rw [← hm.born] at hbm
          obtain ⟨x, hxm, rfl⟩ := List.mem_map.1 hbm
          have := Array.size_eq_zero_iff.1 h0
          unfold leftOf at this
          rw [Array.filter_eq_empty_iff] at this
          have h2 := this x (by simpa using hxm)
          simpa using h2
        · cases hdst : o.dst with
          | none => exact ⟨_, _, _, hst⟩
          | some d =>
            exact ⟨_, _, _, hst.put d (hd d hdst) (o := none) (by
              simp only [LR]
              refine .tup _ _ rfl fun q x hq => ?_
              match q with
              | 0 => simp at hq; subst hq; exact .c _ _ (.lit _ rfl)
              | q + 1 => simp at hq) FreeOb.nothing⟩
      · have hmem : e ∈ es.toList ∧ e.born ∉ seen := by
          unfold leftOf at he
          simp only [Array.toList_filter, List.mem_filter] at he
          exact ⟨he.1, by simpa using he.2⟩
        obtain ⟨j, hj⟩ := List.getElem?_of_mem hmem.1
        obtain ⟨l1, l2⟩ := hm.ent j e hj
        have hbj : bs[j]? = some e.born := by rw [← hm.born, List.getElem?_map, hj]; rfl
        refine ⟨_, _, _, _, hstep j e.born hbj hmem.2, hrun, ?_⟩
        have hst1 : St G n I0 M w0 I β ob s a w1 := by rcases hw1 with rfl | rfl; exact hst; exact hst.drew
        have hheap : w1.heap = w.heap := by rcases hw1 with rfl | rfl <;> rfl
        have hsz : t < a.tmps.size := by
          by_cases ht : t < a.tmps.size
          · exact ht
          · exfalso
            have : a.tmps.getD t undef = undef := by simp [Array.getElem?_eq_none (Nat.le_of_not_lt ht)]
            rw [this] at hv
            cases hv
        have hblt : blk < w1.heap.size := by rw [hheap]; exact (hst.obnd _ _ hobt).1
        have hc := hst1.clr t
        have hL : ∀ L, upL ob (.t t) none L ≠ some blk := fun L hL => by
          simp only [upL] at hL
          split at hL
          · cases hL
          · rename_i hne; exact hne (hst.oinj _ _ blk hL hobt)
        have hβn : ∀ q, β q ≠ some blk := fun q hq => hst.obx _ blk q hobt hq
        have hg := hc.growRow (I' := I) (putObj_grown (w := w1) blk (.mapIter (some m) since (seen.toArray.push e.born) cl)) hwr (fun o ho => absurd ho (hni o)) hL hβn (fun _ _ h => h) (fun _ _ h => .inl h) (by rw [putObj_size]; exact hblt)
        have hp := hg.put t (by rw [← hst.size]; exact hsz) (v := .pointer (some ⟨blk, 0, none⟩)) (x := .it i since cl (seen ++ [e.born])) (o := some blk) (by
          simp only [LR]
          exact ⟨blk, m, rfl, hwr, hβ, rfl, by rw [putObj_same hblt]; simp, hni⟩) (fun b hb => by
          cases hb
          refine ⟨⟨by rw [putObj_size]; exact hblt, hwr⟩, fun L hL' => ?_, hβn⟩
          simp only [upL] at hL'
          split at hL'
          · cases hL'
          · exact hL L (by simp only [upL]; split <;> simp_all))
        rw [put_same hv hsz] at hp
        have hs' : (s.clr t).put (some t) (.it i since cl (seen ++ [e.born])) = { s with fr := up s.fr t (.it i since cl (seen ++ [e.born])) } := by
          simp only [S.clr, S.put]
          congr 1
          funext q
          simp only [up]; split <;> simp_all
        rw [hs'] at hp
        cases hdst : o.dst with
        | none => exact ⟨_, _, _, hp⟩
        | some d =>
          refine ⟨_, _, _, hp.put d (hd d hdst) (o := none) ?_ FreeOb.nothing⟩
          have hI : ∀ b o, I b o → I b o ∧ (World.putObj w1 blk (.mapIter (some m) since (seen.toArray.push e.born) cl)).cell? ⟨b, o, none⟩ = w.cell? ⟨b, o, none⟩ := fun b o hb => by
            refine ⟨hb, World.cell?_of_block (a := ⟨b, o, none⟩) ?_⟩
            have hne : b ≠ blk := fun e => hni o (by rw [← e]; exact hb)
            exact (putObj_other hne).trans (by rw [hheap])
          have := (DR.tup (w := w) (I := I) #[.bool true, e.key, e.val] [.c (.lit (.bool true)), (r.getD (2 * j) .un).dr, (r.getD (2 * j + 1) .un).dr] rfl fun q x hq => by
            match q with
            | 0 => simp at hq; subst hq; exact .c _ _ (.lit _ rfl)
            | 1 => simp at hq; subst hq; exact dr_ok l1
            | 2 => simp at hq; subst hq; exact dr_ok l2
            | q + 3 => simp at hq).mono hI
          simp only [LR]; exact this
    · exact h.elim
  · exact h.elim

end
end Go.Vl

/- Values without memory: calls of functions that get to see boxes, and may change them. -/
namespace Go.Vl
open Go Go.RowKit

section
variable {P : Program} {G : Gl} {tr : List Nat} {n : Nat} {I0 : Ft} {M : Mx} {w0 : World} {I : Ft} {β : Nat → Option Nat} {ob : Loc → Option Nat} {s : S} {a : Act} {w : World} {o : Oper}
  {next : Act → World → Prop} {Q : Exit → Act → World → Prop} {base : Nat → Prop} {v : Value} {x y : V}

theorem PR.ren {ρ : Nat → Nat} {β' : Nat → Option Nat} {m : Nat} (h : PR I β w v (x.renP ρ)) (hx : x.ltP m) (hβ : ∀ i b, i < m → β (ρ i) = some b → β' i = some b) : PR I β' w v x := by
  cases x <;> simp only [V.ltP] at hx <;> simp only [V.renP, PR] at h ⊢ <;> try exact h
  · obtain ⟨blk, h1, h2⟩ := h; exact ⟨blk, hβ _ _ hx h1, h2⟩
  · obtain ⟨h0, blk, o', c', hc', h1, h2⟩ := h; exact ⟨h0, blk, o', c', hc', hβ _ _ hx h1, h2⟩
  · obtain ⟨blk, h1, h2⟩ := h; exact ⟨blk, hβ _ _ hx h1, h2⟩

theorem LR.ren {ρ : Nat → Nat} {β' : Nat → Option Nat} {m : Nat} {ox : Option Nat} (h : LR base I β w ox v (x.ren ρ)) (hx : x.lt m) (hβ : ∀ i b, i < m → β (ρ i) = some b → β' i = some b) : LR base I β' w ox v x := by
  cases x <;> simp only [V.lt] at hx <;> simp only [V.ren, LR] at h ⊢ <;> try exact h
  · obtain ⟨blk, h1, h2⟩ := h; exact ⟨blk, hβ _ _ hx h1, h2⟩
  · obtain ⟨vf, vc, h1, h2, h3, h4, h5⟩ := h
    rw [List.length_map] at h2 h3
    exact ⟨vf, vc, h1, h2, h3, fun j x hj => (h4 j (x.renP ρ) (by simp [hj])).ren (hx.1 x (List.mem_of_getElem? hj)) hβ, fun j x hj => (h5 j (x.renP ρ) (by simp [hj])).ren (hx.2 x (List.mem_of_getElem? hj)) hβ⟩
  · obtain ⟨h0, blk, o', c', hc', h1, h2⟩ := h; exact ⟨h0, blk, o', c', hc', hβ _ _ hx h1, h2⟩
  · obtain ⟨cs, h1, h2, h3⟩ := h
    rw [List.length_map] at h2
    exact ⟨cs, h1, h2, fun j x hj => (h3 j (x.renP ρ) (by simp [hj])).ren (hx x (List.mem_of_getElem? hj)) hβ⟩
  · obtain ⟨blk, h1, h2⟩ := h; exact ⟨blk, hβ _ _ hx h1, h2⟩
  · obtain ⟨blk, m, h1, h2, h3, h4⟩ := h; exact ⟨blk, m, h1, h2, hβ _ _ hx h3, h4⟩

theorem PR.toRen {ρ : Nat → Nat} {β' : Nat → Option Nat} (h : PR I β w v x) (hβ : ∀ i b, β i = some b → β' (ρ i) = some b) : PR I β' w v (x.renP ρ) := by
  cases x <;> simp only [V.renP, PR] at h ⊢ <;> try exact h
  · obtain ⟨blk, h1, h2⟩ := h; exact ⟨blk, hβ _ _ h1, h2⟩
  · obtain ⟨h0, blk, o', c', hc', h1, h2⟩ := h; exact ⟨h0, blk, o', c', hc', hβ _ _ h1, h2⟩
  · obtain ⟨blk, h1, h2⟩ := h; exact ⟨blk, hβ _ _ h1, h2⟩

theorem map_get {α γ : Type} {l : List α} {f : α → γ} {j : Nat} {y : γ} (h : (l.map f)[j]? = some y) : ∃ x, l[j]? = some x ∧ f x = y := by simpa using h

theorem LR.toRen {ρ : Nat → Nat} {β' : Nat → Option Nat} {ox : Option Nat} (h : LR base I β w ox v x) (hβ : ∀ i b, β i = some b → β' (ρ i) = some b) : LR base I β' w ox v (x.ren ρ) := by
  cases x <;> simp only [V.ren, LR] at h ⊢ <;> try exact h
  · obtain ⟨blk, h1, h2⟩ := h; exact ⟨blk, hβ _ _ h1, h2⟩
  · obtain ⟨vf, vc, h1, h2, h3, h4, h5⟩ := h
    refine ⟨vf, vc, h1, by rw [List.length_map]; exact h2, by rw [List.length_map]; exact h3, fun j x hj => ?_, fun j x hj => ?_⟩
    · obtain ⟨y, hy, rfl⟩ := map_get hj; exact (h4 j y hy).toRen hβ
    · obtain ⟨y, hy, rfl⟩ := map_get hj; exact (h5 j y hy).toRen hβ
  · obtain ⟨h0, blk, o', c', hc', h1, h2⟩ := h; exact ⟨h0, blk, o', c', hc', hβ _ _ h1, h2⟩
  · obtain ⟨cs, h1, h2, h3⟩ := h
    refine ⟨cs, h1, by rw [List.length_map]; exact h2, fun j x hj => ?_⟩
    obtain ⟨y, hy, rfl⟩ := map_get hj; exact (h3 j y hy).toRen hβ
  · obtain ⟨blk, h1, h2⟩ := h; exact ⟨blk, hβ _ _ h1, h2⟩
  · obtain ⟨blk, m, h1, h2, h3, h4⟩ := h; exact ⟨blk, m, h1, h2, hβ _ _ h3, h4⟩

/-- What may be written: a wider or narrower set, by what is owned. -/
theorem LR.wider {base' : Nat → Prop} {ox : Option Nat} (h : LR base I β w ox v x) (hb : ∀ b, ox = some b → base' b) : LR base' I β w ox v x := by
  cases x <;> simp only [LR] at h ⊢ <;> try exact h
  · obtain ⟨h1, h2⟩ := h
    refine ⟨h1, ?_⟩
    rcases h2 with h2 | ⟨e, blk, cap, cur, sz, q1, q2, q3, q4, q5⟩
    · exact .inl h2
    · exact .inr ⟨e, blk, cap, cur, sz, q1, q2, q3, hb _ q1, q5⟩
  · obtain ⟨blk, m, h1, h2, h3⟩ := h; exact ⟨blk, m, h1, hb _ h1, h3⟩

theorem ren_un {ρ : Nat → Nat} : V.ren ρ .un = .un := rfl

theorem getD_ren {ρ : Nat → Nat} (l : List V) (j : Nat) : (l.map (V.ren ρ)).getD j .un = (l.getD j .un).ren ρ := by
  simp only [List.getD_eq_getElem?_getD, List.getElem?_map]
  cases l[j]? <;> rfl

theorem mkOf_ren {ρ : Nat → Nat} (l : List V) : mkOf (l.map (V.ren ρ)) = mkOf l := by
  unfold mkOf
  rw [getD_ren]
  cases l.getD 0 .un <;> rfl

theorem bxIn_get {ρ : Nat → Nat} : ∀ (bl : List (List V)) (k i : Nat) (b : List V), bxIn s.bx s.nb ρ k bl → bl[i]? = some b → ρ (k + i) < s.nb ∧ s.bx (ρ (k + i)) = b.map (V.ren ρ)
  | [], _, i, b, _, hb => by simp at hb
  | c :: r, k, 0, b, h, hb => by simp at hb; subst hb; exact h.1
  | c :: r, k, i + 1, b, h, hb => by
    have := bxIn_get r (k + 1) i b h.2 (by simpa using hb)
    rw [show k + (i + 1) = k + 1 + i by omega]; exact this

theorem setBx_other {ρ : Nat → Nat} : ∀ (bl : List (List V)) (k : Nat) (f : Nat → List V) (j : Nat), (∀ i, i < bl.length → ρ (k + i) ≠ j) → setBx ρ k bl f j = f j
  | [], _, _, _, _ => rfl
  | b :: r, k, f, j, h => by
    simp only [setBx]
    rw [setBx_other r (k + 1) _ j (fun i hi => by rw [show k + 1 + i = k + (i + 1) by omega]; exact h (i + 1) (by simp; omega))]
    exact up_ne _ _ (fun e => h 0 (by simp) e.symm)

theorem setBx_at {ρ : Nat → Nat} : ∀ (bl : List (List V)) (k : Nat) (f : Nat → List V) (i : Nat) (b : List V), bl[i]? = some b → (∀ i j, i < bl.length → j < bl.length → ρ (k + i) = ρ (k + j) → i = j) →
    setBx ρ k bl f (ρ (k + i)) = b.map (V.ren ρ)
  | [], _, _, i, b, h, _ => by simp at h
  | c :: r, k, f, 0, b, h, hinj => by
    simp at h; subst h
    simp only [setBx]
    rw [setBx_other r (k + 1) _ _ (fun i hi e => by
      have := hinj (i + 1) 0 (by simp; omega) (by simp) (by rw [show k + (i + 1) = k + 1 + i by omega]; exact e)
      omega)]
    rw [Nat.add_zero]; exact up_same _ _ _
  | c :: r, k, f, i + 1, b, h, hinj => by
    simp only [setBx]
    rw [show k + (i + 1) = k + 1 + i by omega]
    refine setBx_at r (k + 1) _ i b (by simpa using h) fun i' j' hi hj e => ?_
    have := hinj (i' + 1) (j' + 1) (by simp; omega) (by simp; omega) (by rw [show k + (i' + 1) = k + 1 + i' by omega, show k + (j' + 1) = k + 1 + j' by omega]; exact e)
    omega

theorem rho_inj {ρ : List Nat} {nb : Nat} (hn : ρ.Nodup) (hl : ∀ i, i < ρ.length → ρ.getD i 0 < nb) (i j : Nat) (h : rho ρ nb i = rho ρ nb j) : i = j := by
  unfold rho at h
  by_cases hi : i < ρ.length <;> by_cases hj : j < ρ.length
  · rw [if_pos hi, if_pos hj] at h
    simp only [List.getD_eq_getElem?_getD, List.getElem?_eq_getElem hi, List.getElem?_eq_getElem hj, Option.getD_some] at h
    exact (List.getElem_inj hn).1 h
  · rw [if_pos hi, if_neg hj] at h
    have := hl i hi; omega
  · rw [if_neg hi, if_pos hj] at h
    have := hl j hj; omega
  · rw [if_neg hi, if_neg hj] at h; omega

/-- What a callee may write: the boxes that it gets, and what their cells own. -/
def Mof (β : Nat → Option Nat) (ob : Loc → Option Nat) (ρ : Nat → Nat) (k : Nat) (b : Nat) : Prop := (∃ q, q < k ∧ β (ρ q) = some b) ∨ ∃ q j, q < k ∧ ob (.b (ρ q) j) = some b
def betaC (β : Nat → Option Nat) (ρ : Nat → Nat) (k i : Nat) : Option Nat := if i < k then β (ρ i) else none
def obC (ob : Loc → Option Nat) (ρ : Nat → Nat) (k i j : Nat) : Option Nat := if i < k then ob (.b (ρ i) j) else none

theorem betaC_some {ρ : Nat → Nat} {k i b : Nat} (h : betaC β ρ k i = some b) : i < k ∧ β (ρ i) = some b := by
  unfold betaC at h; split at h
  · exact ⟨‹_›, h⟩
  · cases h
theorem obC_some {ρ : Nat → Nat} {k i j b : Nat} (h : obC ob ρ k i j = some b) : i < k ∧ ob (.b (ρ i) j) = some b := by
  unfold obC at h; split at h
  · exact ⟨‹_›, h⟩
  · cases h

/-- The caller's boxes, as the callee gets them. -/
theorem St.give (hst : St G n I0 M w0 I β ob s a w) {ρ : Nat → Nat} {b0 : List (List V)} (hinj : ∀ i j, ρ i = ρ j → i = j) (hin : bxIn s.bx s.nb ρ 0 b0) (hlt : ∀ b ∈ b0, ∀ x ∈ b, x.lt b0.length) :
    BxR (Wr ⟨Mof β ob ρ b0.length, fun _ => none⟩ w) I w (betaC β ρ b0.length) (obC ob ρ b0.length) b0 where
  bx := fun i cs hcs => by
    have hi : i < b0.length := (List.getElem?_eq_some_iff.1 hcs).1
    obtain ⟨h1, h2⟩ := bxIn_get b0 0 i cs hin hcs
    rw [Nat.zero_add] at h1 h2
    obtain ⟨blk, cur, e1, e2, e3, e4, e5, e7⟩ := hst.bx (ρ i) h1
    refine ⟨blk, cur, by simp [betaC, hi, e1], .inr (.inl ⟨i, hi, e1⟩), e3.congr (by rw [h2, List.length_map]) (by rw [h2, mkOf_ren]), by have := e4; rw [h2, List.length_map] at this; exact this, fun j => ?_, e7⟩
    have := e5 j
    rw [h2, getD_ren] at this
    have hx : (cs.getD j .un).lt b0.length := by
      by_cases hj : j < cs.length
      · have : cs.getD j .un = cs[j] := by simp [List.getD, hj]
        rw [this]; exact hlt cs (List.mem_of_getElem? hcs) _ (List.getElem_mem hj)
      · have : cs.getD j .un = .un := by simp [List.getD, List.getElem?_eq_none (Nat.le_of_not_lt hj)]
        rw [this]; exact trivial
    have h3 := this.ren (β' := betaC β ρ b0.length) hx (fun i b hi hb => by simp [betaC, hi, hb])
    have h4 : obC ob ρ b0.length i j = ob (.b (ρ i) j) := by simp [obC, hi]
    rw [h4]
    exact h3.wider fun b hb => .inr (.inr ⟨i, j, hi, hb⟩)
  bnone := fun i hi => by simp [betaC, Nat.not_lt.2 hi]
  binj := fun i j b hi hj => by
    obtain ⟨_, h1⟩ := betaC_some hi
    obtain ⟨_, h2⟩ := betaC_some hj
    exact hinj _ _ (hst.binj _ _ b h1 h2)
  oinj := fun i j i' j' b h h' => by
    obtain ⟨_, h1⟩ := obC_some h
    obtain ⟨_, h2⟩ := obC_some h'
    have := hst.oinj _ _ b h1 h2
    simp only [Loc.b.injEq] at this
    exact ⟨hinj _ _ this.1, this.2⟩
  obx := fun i j b k h hk => by
    obtain ⟨_, h1⟩ := obC_some h
    obtain ⟨_, h2⟩ := betaC_some hk
    exact hst.obx _ b _ h1 h2
  obnd := fun i j b h => by
    obtain ⟨hi, h1⟩ := obC_some h
    exact ⟨(hst.obnd _ b h1).1, .inr (.inr ⟨i, j, hi, h1⟩)⟩
  olen := fun i j hi => by simp [obC, Nat.not_lt.2 hi]

def invR (ρ : List Nat) (nb i : Nat) : Option Nat := if i ∈ ρ then some (ρ.idxOf i) else if nb ≤ i then some (i - nb + ρ.length) else none

theorem invR_rho {ρ : List Nat} {nb : Nat} (hn : ρ.Nodup) (hl : ∀ i, i < ρ.length → ρ.getD i 0 < nb) (q : Nat) : invR ρ nb (rho ρ nb q) = some q := by
  unfold invR rho
  by_cases hq : q < ρ.length
  · have e : ρ.getD q 0 = ρ[q] := by simp [List.getD, hq]
    rw [if_pos hq, e, if_pos (List.getElem_mem hq), hn.idxOf_getElem]
  · rw [if_neg hq]
    have : ¬ (nb + (q - ρ.length)) ∈ ρ := fun h => by
      obtain ⟨i, hi, e⟩ := List.mem_iff_getElem.1 h
      have := hl i hi
      have e' : ρ.getD i 0 = ρ[i] := by simp [List.getD, hi]
      omega
    rw [if_neg this, if_pos (by omega)]
    congr 1; omega

theorem rho_invR {ρ : List Nat} {nb i q : Nat} (h : invR ρ nb i = some q) : rho ρ nb q = i := by
  unfold invR at h
  split at h
  · rename_i hi
    simp only [Option.some.injEq] at h
    subst h
    have hlt := List.idxOf_lt_length_of_mem hi
    unfold rho
    rw [if_pos hlt]
    simp [List.getD, List.getElem?_eq_getElem hlt]
  · split at h
    · rename_i h1 h2
      simp only [Option.some.injEq] at h
      subst h
      unfold rho
      rw [if_neg (by omega)]; omega
    · cases h

theorem invR_none {ρ : List Nat} {nb i : Nat} (h : invR ρ nb i = none) : i < nb := by
  unfold invR at h
  split at h
  · cases h
  · split at h
    · cases h
    · omega

end
end Go.Vl

/- Values without memory: the state behind a call of a function that may change boxes. -/
namespace Go.Vl
open Go Go.RowKit

section
variable {P : Program} {G : Gl} {tr : List Nat} {n : Nat} {I0 : Ft} {M : Mx} {w0 : World} {I : Ft} {β : Nat → Option Nat} {ob : Loc → Option Nat} {s : S} {a : Act} {w : World} {o : Oper}
  {next : Act → World → Prop} {Q : Exit → Act → World → Prop} {base : Nat → Prop} {v : Value} {x y : V}

def betaN (β β' : Nat → Option Nat) (ρ : List Nat) (nb i : Nat) : Option Nat := match invR ρ nb i with
  | some q => β' q
  | none => β i
def obN (ob : Loc → Option Nat) (ob' : Nat → Nat → Option Nat) (ρ : List Nat) (nb : Nat) : Loc → Option Nat
  | .t i => ob (.t i)
  | .b i j => match invR ρ nb i with
    | some q => ob' q j
    | none => ob (.b i j)

theorem St.called (hst : St G n I0 M w0 I β ob s a w) {ρ : List Nat} {b0 b1 : List (List V)} (hρl : ρ.length = b0.length) (hn : ρ.Nodup) (hin : bxIn s.bx s.nb (rho ρ s.nb) 0 b0) (hle : b0.length ≤ b1.length)
    {w' : World} {I' : Ft} {β' : Nat → Option Nat} {ob' : Nat → Nat → Option Nat} (hbel : BelowM ⟨Mof β ob (rho ρ s.nb) b0.length, fun _ => none⟩ w w') (hI1 : ∀ b o, I b o → I' b o)
    (hI2 : ∀ b o, I' b o → I b o ∨ (Wr ⟨Mof β ob (rho ρ s.nb) b0.length, fun _ => none⟩ w b ∧ b < w'.heap.size)) (hkept : ∀ b o, I b o → w'.cell? ⟨b, o, none⟩ = w.cell? ⟨b, o, none⟩)
    (hβ1 : ∀ i, i < b0.length → β' i = betaC β (rho ρ s.nb) b0.length i) (hβ2 : ∀ i b, b0.length ≤ i → β' i = some b → w.heap.size ≤ b)
    (hbx : BxR (Wr ⟨Mof β ob (rho ρ s.nb) b0.length, fun _ => none⟩ w) I' w' β' ob' b1) :
    St G n I0 M w0 I' (betaN β β' ρ s.nb) (obN ob ob' ρ s.nb) { s with bx := setBx (rho ρ s.nb) 0 b1 s.bx, nb := s.nb + (b1.length - b0.length) } a w' ∧
    (∀ i b, β' i = some b → betaN β β' ρ s.nb (rho ρ s.nb i) = some b) ∧
    (∀ b, Wr ⟨Mof β ob (rho ρ s.nb) b0.length, fun _ => none⟩ w b → Wr M w0 b) ∧
    (∀ b, Wr ⟨Mof β ob (rho ρ s.nb) b0.length, fun _ => none⟩ w b → (∀ i j, ob' i j ≠ some b) → ∀ L, obN ob ob' ρ s.nb L ≠ some b) ∧
    (∀ b, Wr ⟨Mof β ob (rho ρ s.nb) b0.length, fun _ => none⟩ w b → (∀ i, β' i ≠ some b) → ∀ i, betaN β β' ρ s.nb i ≠ some b) := by
  have hl : ∀ i, i < ρ.length → ρ.getD i 0 < s.nb := fun i hi => by
    obtain ⟨b, hb⟩ : ∃ b, b0[i]? = some b := ⟨_, List.getElem?_eq_getElem (by omega)⟩
    have := (bxIn_get b0 0 i b hin hb).1
    rw [Nat.zero_add] at this
    simpa [rho, hi] using this
  have hinj := rho_inj hn hl
  have hir := invR_rho hn hl
  have hwr : ∀ b, Wr ⟨Mof β ob (rho ρ s.nb) b0.length, fun _ => none⟩ w b → Wr M w0 b := fun b hb => by
    rcases hb with hb | ⟨q, hq, hb⟩ | ⟨q, j, hq, hb⟩
    · exact .new hst.below hb
    · exact (hst.boxblk hb).2.1
    · exact (hst.obnd _ b hb).2
  -- what is not the callee's
  have notM1 : ∀ i b, invR ρ s.nb i = none → β i = some b → ¬ Wr ⟨Mof β ob (rho ρ s.nb) b0.length, fun _ => none⟩ w b := fun i b hi hb hw => by
    rcases hw with hw | ⟨q, hq, h1⟩ | ⟨q, j, hq, h1⟩
    · have := (hst.boxblk hb).2.2; omega
    · have := hst.binj _ _ b h1 hb
      rw [← this, hir] at hi; cases hi
    · exact hst.obx _ b i h1 hb
  have notM2 : ∀ L b, (∀ i j q, L = .b i j → invR ρ s.nb i ≠ some q) → ob L = some b → ¬ Wr ⟨Mof β ob (rho ρ s.nb) b0.length, fun _ => none⟩ w b := fun L b hL hb hw => by
    rcases hw with hw | ⟨q, hq, h1⟩ | ⟨q, j, hq, h1⟩
    · have := (hst.obnd _ b hb).1; omega
    · exact hst.obx _ b _ hb h1
    · have := hst.oinj _ _ b hb h1
      exact hL _ _ q this (hir q)
  have hβn : ∀ i b, β i = some b → betaN β β' ρ s.nb i = some b := fun i b hb => by
    unfold betaN
    cases hi : invR ρ s.nb i with
    | none => exact hb
    | some q =>
      have e := rho_invR hi
      have hlt := (hst.boxblk hb).1
      have hq : q < ρ.length := by
        by_cases hq : q < ρ.length
        · exact hq
        · unfold rho at e; rw [if_neg hq] at e; omega
      simp only
      rw [hβ1 q (by omega)]
      unfold betaC
      rw [if_pos (by omega), e]; exact hb
  have hI : ∀ b o, I b o → I' b o ∧ w'.cell? ⟨b, o, none⟩ = w.cell? ⟨b, o, none⟩ := fun b o hb => ⟨hI1 b o hb, hkept b o hb⟩
  have hsame : ∀ b, b < w.heap.size → ¬ Wr ⟨Mof β ob (rho ρ s.nb) b0.length, fun _ => none⟩ w b → w'.heap[b]? = w.heap[b]? ∧ ∀ o, I' b o → I b o := fun b hb hw =>
    ⟨hbel.block b hb (fun h => hw (.inr h)), fun o ho => by
      rcases hI2 b o ho with h | h
      · exact h
      · exact absurd h.1 hw⟩
  have hbN : ∀ i b, betaN β β' ρ s.nb i = some b → (∃ q, invR ρ s.nb i = some q ∧ β' q = some b) ∨ (invR ρ s.nb i = none ∧ β i = some b) := fun i b hb => by
    unfold betaN at hb
    cases hi : invR ρ s.nb i with
    | none => rw [hi] at hb; exact .inr ⟨rfl, hb⟩
    | some q => rw [hi] at hb; exact .inl ⟨q, rfl, hb⟩
  have hoN : ∀ L b, obN ob ob' ρ s.nb L = some b → (∃ i j q, L = .b i j ∧ invR ρ s.nb i = some q ∧ ob' q j = some b) ∨ ((∀ i j q, L = .b i j → invR ρ s.nb i ≠ some q) ∧ ob L = some b) := fun L b hb => by
    cases L with
    | t i => exact .inr ⟨fun i j q h => (by cases h), hb⟩
    | b i j =>
      simp only [obN] at hb
      cases hi : invR ρ s.nb i with
      | none => rw [hi] at hb; exact .inr ⟨fun i' j' q h => (by cases h; rw [hi]; simp), hb⟩
      | some q => rw [hi] at hb; exact .inl ⟨i, j, q, rfl, hi, hb⟩
  have hβw : ∀ q b, β' q = some b → Wr ⟨Mof β ob (rho ρ s.nb) b0.length, fun _ => none⟩ w b := fun q b hb => by
    by_cases hq : q < b0.length
    · rw [hβ1 q hq] at hb
      exact .inr (.inl ⟨q, (betaC_some hb).1, (betaC_some hb).2⟩)
    · exact .inl (hβ2 q b (by omega) hb)
  have how : ∀ i j b, ob' i j = some b → Wr ⟨Mof β ob (rho ρ s.nb) b0.length, fun _ => none⟩ w b := fun i j b hb => (hbx.obnd i j b hb).2
  have hsub : ∀ i b, β' i = some b → betaN β β' ρ s.nb (rho ρ s.nb i) = some b := fun i b hb => by
    unfold betaN; rw [hir]; exact hb
  refine ⟨{
    size := hst.size, defers := hst.defers
    below := ⟨hbel.os.trans hst.below.os, hbel.tape.trans hst.below.tape, hbel.output.trans hst.below.output, Nat.le_trans hst.below.size hbel.size, fun k hk hM =>
      (hbel.block k (Nat.lt_of_lt_of_le hk hst.below.size) (fun h => by
        rcases hwr k (.inr h) with h1 | h1
        · omega
        · exact hM h1)).trans (hst.below.block k hk hM)⟩
    ilow := fun b o h => hI1 b o (hst.ilow b o h)
    kept := fun b o h => (hkept b o (hst.ilow b o h)).trans (hst.kept b o h)
    ihigh := fun b o h => by
      rcases hI2 b o h with h | h
      · exact hst.ihigh b o h
      · exact .inr (hwr b h.1)
    ibnd := fun b o h => by
      rcases hI2 b o h with h | h
      · exact Nat.lt_of_lt_of_le (hst.ibnd b o h) hbel.size
      · exact h.2
    fr := fun t => (hst.fr t).mono hI hβn fun b hb => hsame b (hst.obnd _ b hb).1 (notM2 (.t t) b (fun i j q h => by cases h) hb)
    bx := fun i hi => by
      simp only at hi
      cases hq : invR ρ s.nb i with
      | some q =>
        have e := rho_invR hq
        have hqb : q < b1.length := by
          by_cases h1 : q < ρ.length
          · omega
          · unfold rho at e; rw [if_neg h1] at e; omega
        obtain ⟨blk, cur, e1, e2, e3, e4, e5, e7⟩ := hbx.bx q _ (List.getElem?_eq_getElem hqb)
        have hset : setBx (rho ρ s.nb) 0 b1 s.bx i = b1[q].map (V.ren (rho ρ s.nb)) := by
          have := setBx_at (ρ := rho ρ s.nb) b1 0 s.bx q _ (List.getElem?_eq_getElem hqb) (fun i j _ _ h => by rw [Nat.zero_add, Nat.zero_add] at h; exact hinj i j h)
          rw [Nat.zero_add, e] at this; exact this
        refine ⟨blk, cur, by unfold betaN; rw [hq]; exact e1, hwr _ e2, e3.congr (by simp only [hset, List.length_map]) (by simp only [hset, mkOf_ren]), by simp only [hset, List.length_map]; exact e4, fun j => ?_, e7⟩
        simp only [hset, getD_ren]
        have : obN ob ob' ρ s.nb (.b i j) = ob' q j := by simp only [obN, hq]
        rw [this]
        exact ((e5 j).toRen hsub).wider fun b hb => hwr b (how q j b hb)
      | none =>
        have hlt := invR_none hq
        obtain ⟨blk, cur, e1, e2, e3, e4, e5, e7⟩ := hst.bx i hlt
        have hnw := notM1 i blk hq e1
        obtain ⟨g1, g2⟩ := hsame blk e3.lt hnw
        have hset : setBx (rho ρ s.nb) 0 b1 s.bx i = s.bx i := setBx_other b1 0 s.bx i fun q _ h => by
          rw [Nat.zero_add] at h
          rw [← h, hir] at hq; cases hq
        refine ⟨blk, cur, hβn i blk e1, e2, (e3.mono g1).congr (by simp only [hset]) (by simp only [hset]), by simp only [hset]; exact e4, fun j => ?_, fun o ho => e7 o (g2 o ho)⟩
        simp only [hset]
        have : obN ob ob' ρ s.nb (.b i j) = ob (.b i j) := by simp only [obN, hq]
        rw [this]
        exact (e5 j).mono hI hβn fun b hb => hsame b (hst.obnd _ b hb).1 (notM2 (.b i j) b (fun i' j' q h => by cases h; rw [hq]; simp) hb)
    bnone := fun i hi => by
      simp only at hi
      unfold betaN
      cases hq : invR ρ s.nb i with
      | some q =>
        have e := rho_invR hq
        refine hbx.bnone q ?_
        by_cases h1 : q < ρ.length
        · unfold rho at e; rw [if_pos h1] at e; have := hl q h1; omega
        · unfold rho at e; rw [if_neg h1] at e; omega
      | none => have := invR_none hq; omega
    ext := fun i b he => hβn i b (hst.ext i b he)
    bnew := fun i b hi => by
      rcases hbN i b hi with ⟨q, h1, h2⟩ | ⟨h1, h2⟩
      · by_cases hq : q < b0.length
        · rw [hβ1 q hq] at h2
          have := hst.bnew _ b (betaC_some h2).2
          rw [rho_invR h1] at this; exact this
        · exact .inr (Nat.le_trans hst.below.size (hβ2 q b (by omega) h2))
      · exact hst.bnew i b h2
    binj := fun i j b hi hj => by
      rcases hbN i b hi with ⟨q, h1, h2⟩ | ⟨h1, h2⟩ <;> rcases hbN j b hj with ⟨p, h3, h4⟩ | ⟨h3, h4⟩
      · have := hbx.binj q p b h2 h4
        rw [← rho_invR h1, ← rho_invR h3, this]
      · exact absurd (hβw q b h2) (notM1 j b h3 h4)
      · exact absurd (hβw p b h4) (notM1 i b h1 h2)
      · exact hst.binj i j b h2 h4
    oinj := fun L L' b hL hL' => by
      rcases hoN L b hL with ⟨i, j, q, rfl, h1, h2⟩ | ⟨h1, h2⟩ <;> rcases hoN L' b hL' with ⟨i', j', q', rfl, h3, h4⟩ | ⟨h3, h4⟩
      · obtain ⟨e1, e2⟩ := hbx.oinj q j q' j' b h2 h4
        rw [← rho_invR h1, ← rho_invR h3, e1, e2]
      · exact absurd (how q j b h2) (notM2 L' b h3 h4)
      · exact absurd (how q' j' b h4) (notM2 L b h1 h2)
      · exact hst.oinj L L' b h2 h4
    obx := fun L b i hL hi => by
      rcases hoN L b hL with ⟨i', j, q, rfl, h1, h2⟩ | ⟨h1, h2⟩ <;> rcases hbN i b hi with ⟨p, h3, h4⟩ | ⟨h3, h4⟩
      · exact hbx.obx q j b p h2 h4
      · exact absurd (how q j b h2) (notM1 i b h3 h4)
      · exact absurd (hβw p b h4) (notM2 L b h1 h2)
      · exact hst.obx L b i h2 h4
    obnd := fun L b hL => by
      rcases hoN L b hL with ⟨i', j, q, rfl, h1, h2⟩ | ⟨h1, h2⟩
      · exact ⟨(hbx.obnd q j b h2).1, hwr b (how q j b h2)⟩
      · exact ⟨Nat.lt_of_lt_of_le (hst.obnd L b h2).1 hbel.size, (hst.obnd L b h2).2⟩
    glob := fun g cs hg => (hst.glob g cs hg).mono hI }, hsub, hwr, fun b hw hno L hL => by
    rcases hoN L b hL with ⟨i', j, q, rfl, h1, h2⟩ | ⟨h1, h2⟩
    · exact hno q j h2
    · exact notM2 L b h1 h2 hw, fun b hw hno i hi => by
    rcases hbN i b hi with ⟨q, h1, h2⟩ | ⟨h1, h2⟩
    · exact hno q h2
    · exact notM1 i b h1 h2 hw⟩

end
end Go.Vl

/- Values without memory: a call of a function that may change boxes keeps the relation. -/
namespace Go.Vl
open Go Go.RowKit

section
variable {P : Program} {G : Gl} {tr : List Nat} {n : Nat} {I0 : Ft} {M : Mx} {w0 : World} {I : Ft} {β : Nat → Option Nat} {ob : Loc → Option Nat} {s : S} {a : Act} {w : World} {o : Oper}
  {next : Act → World → Prop} {Q : Exit → Act → World → Prop} {base : Nat → Prop} {v : Value} {x y : V}

def ArgsL (base : Nat → Prop) (I : Ft) (β : Nat → Option Nat) (w : World) (vs : List Value) (xs : List V) : Prop := vs.length = xs.length ∧ ∀ (j : Nat) (x : V), xs[j]? = some x → LR base I β w none (vs.getD j undef) x.fz

theorem ArgsL.append {vs us : List Value} {xs ys : List V} (h : ArgsL base I β w vs xs) (h' : ArgsL base I β w us ys) : ArgsL base I β w (vs ++ us) (xs ++ ys) := by
  refine ⟨by simp [h.1, h'.1], fun j x hx => ?_⟩
  have hl := h.1
  by_cases hj : j < xs.length
  · rw [List.getElem?_append_left hj] at hx
    have := h.2 j x hx
    rw [List.getD_eq_getElem?_getD, List.getElem?_append_left (by omega)]
    rw [List.getD_eq_getElem?_getD] at this
    exact this
  · rw [List.getElem?_append_right (by omega)] at hx
    have := h'.2 _ x hx
    rw [List.getD_eq_getElem?_getD, List.getElem?_append_right (by omega), hl]
    rw [List.getD_eq_getElem?_getD] at this
    exact this

theorem argsL_ops (hst : St G n I0 M w0 I β ob s a w) : ∀ l : List Operand, ArgsL (Wr M w0) I β w (l.map a.eval) (l.map (ev G s))
  | [] => ⟨rfl, by simp⟩
  | x :: l => by
    have ih := argsL_ops hst l
    refine ⟨by simp, fun j z hz => ?_⟩
    cases j with
    | zero => simp at hz; subst hz; exact ev_fz hst x
    | succ j => simpa using ih.2 j z (by simpa using hz)

theorem argsL_c (vs : Array Value) (cs : List C) (h : vs.size = cs.length) (hc : ∀ j c, cs[j]? = some c → CR I w (vs.getD j undef) c) : ArgsL base I β w vs.toList (cs.map .c) := by
  refine ⟨by simp [h], fun j x hx => ?_⟩
  obtain ⟨c, h1, rfl⟩ := map_get hx
  have := hc j c h1
  rw [List.getD_eq_getElem?_getD, Array.getElem?_toList]
  rw [Array.getD_eq_getD_getElem?] at this
  exact .ofC this

theorem argsL_p (vs : Array Value) (xs : List V) (h : vs.size = xs.length) (hc : ∀ j x, xs[j]? = some x → PR I β w (vs.getD j undef) x) : ArgsL base I β w vs.toList xs := by
  refine ⟨by simp [h], fun j x hx => ?_⟩
  have := hc j x hx
  rw [List.getD_eq_getElem?_getD, Array.getElem?_toList]
  rw [Array.getD_eq_getD_getElem?] at this
  exact (PR.toLR this).fz none

/-- A call of a function under a contract with boxes. -/
theorem callB_ok (hst : St G n I0 M w0 I β ob s a w) (hd : ∀ d, o.dst = some d → d < n) {f : FuncId} {vs : List Value} {all : List V} {ρ : List Nat} {cargs : List V} {b0 b1 : List (List V)} {r : V}
    (hok : FnB P G f cargs b0 r b1) (hargs : ArgsL (Wr M w0) I β w vs all) (hall : all.map V.fz = cargs.map (V.ren (rho ρ s.nb))) (hρ : ρ.length = b0.length ∧ ρ.Nodup) (hin : bxIn s.bx s.nb (rho ρ s.nb) 0 b0)
    (hrun : (execOp a.eval o).run P w = .ok (.enter f vs.toArray) w)
    (hk : ∀ a' w', SE G n I0 M w0 (({ s with bx := setBx (rho ρ s.nb) 0 b1 s.bx, nb := s.nb + (b1.length - b0.length) } : S).put o.dst (r.ren (rho ρ s.nb))) a' w' → next a' w') : o.wp P a w next Q := by
  unfold Oper.wp
  rw [hrun]
  simp only [Oper.upon]
  obtain ⟨hρl, hn⟩ := hρ
  obtain ⟨hlt1, hlt2, hle⟩ := hok.2.1
  have hl : ∀ i, i < ρ.length → ρ.getD i 0 < s.nb := fun i hi => by
    obtain ⟨b, hb⟩ : ∃ b, b0[i]? = some b := ⟨_, List.getElem?_eq_getElem (by omega)⟩
    have := (bxIn_get b0 0 i b hin hb).1
    rw [Nat.zero_add] at this
    simpa [rho, hi] using this
  have hinj := rho_inj hn hl
  have hlen : all.length = cargs.length := by simpa using congrArg List.length hall
  refine (hok.2.2 I ⟨Mof β ob (rho ρ s.nb) b0.length, fun _ => none⟩ w vs.toArray (betaC β (rho ρ s.nb) b0.length) (obC ob (rho ρ s.nb) b0.length) hst.ibnd hst.glob (hst.give hinj hin hlt2)
    (by have := hargs.1; simp; omega) (fun j x hx => ?_)).mono ?_
  · have hj : j < cargs.length := (List.getElem?_eq_some_iff.1 hx).1
    have hz : all[j]? = some all[j] := List.getElem?_eq_getElem (by omega)
    have h1 := hargs.2 j _ hz
    have h2 : all[j].fz = x.ren (rho ρ s.nb) := by
      have e1 : (all.map V.fz)[j]? = some all[j].fz := by simp [hz]
      have e2 : (cargs.map (V.ren (rho ρ s.nb)))[j]? = some (x.ren (rho ρ s.nb)) := by simp [hx]
      rw [hall, e2] at e1
      exact (Option.some.inj e1).symm
    rw [h2] at h1
    have h3 := h1.ren (β' := betaC β (rho ρ s.nb) b0.length) (hlt1 x (List.mem_of_getElem? hx)) (fun i b hi hb => by simp [betaC, hi, hb])
    have h4 := h3.wider (base' := Wr ⟨Mof β ob (rho ρ s.nb) b0.length, fun _ => none⟩ w) fun b hb => by cases hb
    simpa using h4
  · rintro e w' ⟨v, I', β', ob', o', rfl, hbel, hI1, hI2, hkept, hβ1, hβ2, hbx, hlr, hfr⟩
    simp only
    obtain ⟨hst', hsub, hwr, hno, hnb⟩ := hst.called hρl hn hin hle hbel hI1 hI2 hkept hβ1 hβ2 hbx
    refine hk _ _ ?_
    have hlr' : LR (Wr M w0) I' (betaN β β' ρ s.nb) w' o' v (r.ren (rho ρ s.nb)) := (hlr.toRen hsub).wider fun b hb => hwr b (hfr b hb).1.2
    cases hdst : o.dst with
    | none => exact ⟨_, _, _, hst'⟩
    | some d =>
      refine ⟨_, _, _, hst'.put d (hd d hdst) hlr' fun b hb => ?_⟩
      obtain ⟨⟨h1, h2⟩, h3, h4⟩ := hfr b hb
      refine ⟨⟨h1, hwr b h2⟩, fun L hL => ?_, hnb b h2 h4⟩
      simp only [upL] at hL
      split at hL
      · cases hL
      · exact hno b h2 h3 L hL

theorem vcallB_sound {K : S → V → Prop} {f : Operand} {args : Array Operand} {ts : Array TypeId} (ho : o.op = .call { callee := .value f, args := args, argTypes := ts }) (hst : St G n I0 M w0 I β ob s a w)
    (hd : ∀ d, o.dst = some d → d < n) (h : vcallB P G s (ev G s f) (args.toList.map (ev G s)) K) (hk : ∀ a' w' s' x, K s' x → SE G n I0 M w0 (s'.put o.dst x) a' w' → next a' w') : o.wp P a w next Q := by
  have hf := ev_sound hst f
  unfold vcallB vcallE at h
  split at h
  · rename_i g all hcal
    obtain ⟨ρ, cargs, b0, r, b1, hok, hall, hρ, hin, hK⟩ := h
    obtain ⟨fn, h1, h2, c, h3⟩ := hok.1
    unfold calleeV at hcal
    split at hcal
    · rename_i g' fs cs he
      simp only [Option.some.injEq, Prod.mk.injEq] at hcal
      obtain ⟨rfl, rfl⟩ := hcal
      rw [he] at hf
      obtain ⟨vf, vc, hv, q1, q2, q3, q4⟩ := hf.toC.fn_inv
      have hrun := run_call (P := P) (w := w) ho hv h1 h2 h3
      refine callB_ok hst hd hok (vs := vf.toList ++ args.toList.map a.eval ++ vc.toList) (((argsL_c vf fs q1 q3).append (argsL_ops hst _)).append (argsL_c vc cs q2 q4)) hall hρ hin ?_ (fun a' w' => hk a' w' _ _ hK)
      rw [hrun]; congr 2; apply Array.ext'; simp
    · rename_i g' fs cs he
      simp only [Option.some.injEq, Prod.mk.injEq] at hcal
      obtain ⟨rfl, rfl⟩ := hcal
      rw [he] at hf
      simp only [LR] at hf
      obtain ⟨vf, vc, hv, q1, q2, q3, q4⟩ := hf
      have hrun := run_call (P := P) (w := w) ho hv h1 h2 h3
      refine callB_ok hst hd hok (vs := vf.toList ++ args.toList.map a.eval ++ vc.toList) (((argsL_p vf fs q1 q3).append (argsL_ops hst _)).append (argsL_p vc cs q2 q4)) hall hρ hin ?_ (fun a' w' => hk a' w' _ _ hK)
      rw [hrun]; congr 2; apply Array.ext'; simp
    · cases hcal
  · exact h.elim

end
end Go.Vl

/- Values without memory: from operations to whole functions. -/
namespace Go.Vl
open Go Go.RowKit

section
variable {P : Program} {G : Gl} {tr : List Nat} {n : Nat} {I0 : Ft} {M : Mx} {w0 : World} {I : Ft} {β : Nat → Option Nat} {ob : Loc → Option Nat} {s : S} {a : Act} {w : World} {o : Oper}
  {next : Act → World → Prop} {Q : Exit → Act → World → Prop} {base : Nat → Prop} {v : Value} {x y : V}

theorem SE.put (h : St G n I0 M w0 I β ob s a w) {dst : Option Tmp} (hd : ∀ d, dst = some d → d < n) (hv : LR (Wr M w0) I β w none v x) : SE G n I0 M w0 (s.put dst x) (a.put dst v) w := by
  cases dst with
  | none => exact ⟨_, _, _, h⟩
  | some d => exact ⟨_, _, _, h.put d (hd d rfl) hv FreeOb.nothing⟩

theorem zeroV_ok {u : Value} {c : C} (h : zc u = some c) : LR base I β w none u (zeroV c) := by
  unfold zc at h
  split at h
  · simp only [Option.some.injEq] at h; subst h
    exact ⟨.nil none 0 (fun _ => rfl), .inl ⟨rfl, rfl, none, rfl⟩⟩
  · split at h
    · simp only [Option.some.injEq] at h; subst h
      exact .ofLit ‹_›
    · cases h

theorem St.newCells (hst : St G n I0 M w0 I β ob s a w) (e : TypeId) {cells : Array Value} {cs : List C} (hc : Cells I w cells cs) :
    St G n I0 M w0 I (up β s.nb (some w.heap.size)) (fun L => match L with | .b i j => if i = s.nb then none else ob (.b i j) | L => ob L)
      { s with bx := up s.bx s.nb (cs.map .c), nb := s.nb + 1 } a (w.alloc (.cells cells e)) :=
  hst.newBox (cur := cells) (T := e) (cs := cs.map .c) (od := fun _ => none) (Nat.le_of_eq (by simpa using hc.1.symm)) (fun q => by
    by_cases hq : q < cs.length
    · have e2 : (cs.map V.c).getD q .un = .c cs[q] := by simp [List.getD, hq]
      rw [e2]; exact .ofC (hc.2 q _ (List.getElem?_eq_getElem hq))
    · have e2 : (cs.map V.c).getD q .un = .un := by simp [List.getD, List.getElem?_eq_none (Nat.le_of_not_lt hq)]
      rw [e2]; simp only [LR]; exact .un _) (fun u hu => by
    obtain ⟨q, hq, rfl⟩ := Array.mem_iff_getElem.1 hu
    have hql : q < cs.length := by rw [← hc.1]; exact hq
    have := (hc.2 q _ (List.getElem?_eq_getElem hql)).oneCell
    simpa [Array.getElem?_eq_getElem hq, hq] using this) (fun _ _ h => by cases h) (fun _ _ _ h => by cases h) (by cases cs <;> rfl)

theorem St.newPre (hst : St G n I0 M w0 I β ob s a w) (e : TypeId) {cells : Array Value} {cs : List C} (hsz : cs.length ≤ cells.size) (hcr : ∀ q c, cs[q]? = some c → CR I w (cells.getD q undef) c)
    (hone : ∀ u ∈ cells, u.oneCell' = true) :
    St G n I0 M w0 I (up β s.nb (some w.heap.size)) (fun L => match L with | .b i j => if i = s.nb then none else ob (.b i j) | L => ob L)
      { s with bx := up s.bx s.nb (cs.map .c), nb := s.nb + 1 } a (w.alloc (.cells cells e)) :=
  hst.newBox (cur := cells) (T := e) (cs := cs.map .c) (od := fun _ => none) (by simpa using hsz) (fun q => by
    by_cases hq : q < cs.length
    · have e2 : (cs.map V.c).getD q .un = .c cs[q] := by simp [List.getD, hq]
      rw [e2]; exact .ofC (hcr q _ (List.getElem?_eq_getElem hq))
    · have e2 : (cs.map V.c).getD q .un = .un := by simp [List.getD, List.getElem?_eq_none (Nat.le_of_not_lt hq)]
      rw [e2]; simp only [LR]; exact .un _) hone (fun _ _ h => by cases h) (fun _ _ _ h => by cases h) (by cases cs <;> rfl)

theorem VStep_sound {K : S → Prop} (hst : St G n I0 M w0 I β ob s a w) (hd : ∀ d, o.dst = some d → d < n) (h : VStep P G tr o s K)
    (hk : ∀ a' w' s', K s' → SE G n I0 M w0 s' a' w' → next a' w') : o.wp P a w next Q := by
  have gen : VYK P G tr o s (fun v => K (s.after tr o v)) → o.wp P a w next Q := fun h => VYK_sound (tr := tr) hst hd h (fun a' w' x hx hse => hk _ _ _ hx hse)
  unfold VStep at h
  split at h
  · -- a new variable, zero
    rename_i T hop
    split at h
    · rename_i z _ _ hi
      obtain ⟨j, d, h1, h2, _, _, _, _, hz, _⟩ := ti_spec hi
      simp only at hz
      split at hz
      · rename_i zv hzv
        have hlen := List.mapM_eq_some_length hz.symm
        have hnb := hst.newBox (cur := zv.cells) (T := T) (cs := z.map zeroV) (od := fun _ => none) (Nat.le_of_eq (by simpa using hlen)) (fun q => by
          by_cases hq : q < z.length
          · obtain ⟨u, hu, hzc⟩ := List.mapM_eq_some_get hz.symm q z[q] (List.getElem?_eq_getElem hq)
            have e1 : zv.cells.getD q undef = u := by rw [Array.getElem?_toList] at hu; simp [hu]
            have e2 : (z.map zeroV).getD q .un = zeroV z[q] := by simp [List.getD, hq]
            rw [e1, e2]; exact zeroV_ok hzc
          · have e2 : (z.map zeroV).getD q .un = .un := by simp [List.getD, List.getElem?_eq_none (Nat.le_of_not_lt hq)]
            rw [e2]; simp only [LR]; exact .un _) (fun u hu => by
          obtain ⟨q, hq, rfl⟩ := Array.mem_iff_getElem.1 hu
          have hql : q < z.length := by rw [hlen]; simpa using hq
          obtain ⟨u, hu, hzc⟩ := List.mapM_eq_some_get hz.symm q z[q] (List.getElem?_eq_getElem hql)
          rw [Array.getElem?_toList, Array.getElem?_eq_getElem hq] at hu
          cases hu
          exact (zc_ok (I := I) (w := w) hzc).oneCell) (fun _ _ h => by cases h) (fun _ _ _ h => by cases h) (isMb_of fun x hx => by
          obtain ⟨c, _, rfl⟩ := List.mem_map.1 hx
          unfold zeroV; split <;> rfl)
        refine wp_value (v' := .pointer (some ⟨w.heap.size, 0, none⟩)) (w' := w.alloc (.cells zv.cells T)) ?_ (hk _ _ _ h (SE.put hnb hd ?_))
        · have hrun : (Instr.alloc T true (.tuple #[])).run P w = .ok (.pointer (some ⟨w.heap.size, 0, none⟩)) (w.alloc (.cells zv.cells T)) := by
            simp [Instr.alloc, zeroValue, typeInfo, h1, hzv, newVar, newRow]
          obtain ⟨dst, op, type, pos, after, guard⟩ := o
          simp only at hop
          subst hop
          simp only [execOp, Sem.run_bind, hrun, Result.andThen_ok, Sem.run_pure]
        · simp only [LR]; exact ⟨w.heap.size, by simp, rfl⟩
      · cases hz
    · exact h.elim
  · -- a new variable that holds a value
    rename_i T X hop
    split at h
    · rename_i cs hcs
      obtain ⟨ob', h1, h2⟩ := hst.use (consT tr o)
      obtain ⟨b1, b2, b3⟩ := bcells_ok (ev_sound hst X) hcs
      have hcons : consT tr o = (match X with | .tmp t => some t | _ => none) := by
        obtain ⟨dst, op, type, pos, after, guard⟩ := o
        simp only at hop; subst hop
        cases X <;> rfl
      have hbx : (s.use (consT tr o)).bx = s.bx ∧ (s.use (consT tr o)).nb = s.nb := by
        cases consT tr o with
        | none => exact ⟨rfl, rfl⟩
        | some t => simp only [S.use]; split <;> exact ⟨rfl, rfl⟩
      have hnb := h1.newBox (cur := (a.eval X).cells) (T := T) (cs := cs) (od := fun j => if j = 0 ∧ (ev G s X).isOw = true then opOb ob X else none) (Nat.le_of_eq b1.symm) b2 b3 (fun j b hb => by
        split at hb
        · rename_i hj
          cases X with
          | tmp t =>
            refine ⟨hst.obnd _ b hb, fun L hL => ?_, fun i => hst.obx _ b i hb⟩
            obtain ⟨q1, q2⟩ := h2 L b hL
            have := q2 t hcons (hst.oinj _ _ b q1 hb)
            simp only [ev] at hj
            rw [hj.2] at this; cases this
          | _ => cases hb
        · cases hb) (fun j j' b hb hb' => by
        split at hb <;> split at hb' <;> try cases hb
        all_goals try cases hb'
        rename_i q1 q2
        rw [q1.1, q2.1]) (isMb_of (bcells_mk (ev_sound hst X) hcs))
      refine wp_value (v' := .pointer (some ⟨w.heap.size, 0, none⟩)) (w' := w.alloc (.cells (a.eval X).cells T)) ?_ (hk _ _ _ h (SE.put hnb hd ?_))
      · obtain ⟨dst, op, type, pos, after, guard⟩ := o
        simp only at hop; subst hop
        simp [execOp, Instr.box, newVar, newRow]
      · simp only [LR]; exact ⟨w.heap.size, by rw [hbx.2]; simp, rfl⟩
    · exact h.elim
  · -- a store
    rename_i T p X hop
    replace h := h.2
    split at h
    · rename_i i b k cs hi hp hcs
      obtain ⟨j, d, hi1, hi2, _, hsz, _⟩ := ti_spec hi
      obtain ⟨⟨hb, hlen, hfit, hmb⟩, h⟩ := h
      obtain ⟨ob', h1, h2⟩ := hst.use (consT tr o)
      obtain ⟨b1, b2, b3⟩ := bcells_ok (ev_sound hst X) hcs
      have hcons : consT tr o = (match X with | .tmp t => some t | _ => none) := by
        obtain ⟨dst, op, type, pos, after, guard⟩ := o
        simp only at hop; subst hop
        cases X <;> rfl
      have hbx : (s.use (consT tr o)).bx = s.bx ∧ (s.use (consT tr o)).nb = s.nb := by
        cases consT tr o with
        | none => exact ⟨rfl, rfl⟩
        | some t => simp only [S.use]; split <;> exact ⟨rfl, rfl⟩
      have hpv := ev_sound hst p
      rw [hp] at hpv
      simp only [LR] at hpv
      obtain ⟨blk, hβ, hpe⟩ := hpv
      obtain ⟨blk', cur, e1, e2, e3, e4, _⟩ := hst.bx b hb
      obtain ⟨T', e3, _⟩ := e3.cells hmb
      rw [hβ] at e1; cases e1
      have hsb := h1.setBox (i := b) (k := k) (blk := blk) (cur := cur) (T := T') (vs := (a.eval X).cells.toList) (ds := cs) (od := fun j => if j = 0 ∧ (ev G s X).isOw = true then opOb ob X else none)
        (by rw [hbx.2]; exact hb) hβ e3 (by simpa using b1) (by rw [hbx.1, hlen]; exact hfit) (fun q => by
          have := b2 q
          rw [List.getD_eq_getElem?_getD, Array.getElem?_toList, ← Array.getD_eq_getD_getElem?]; exact this) (by simpa using b3) (fun j b hb => by
        split at hb
        · rename_i hj
          cases X with
          | tmp t =>
            refine ⟨hst.obnd _ b hb, fun L hL => ?_, fun i => hst.obx _ b i hb⟩
            obtain ⟨q1, q2⟩ := h2 L b hL
            have := q2 t hcons (hst.oinj _ _ b q1 hb)
            simp only [ev] at hj
            rw [hj.2] at this; cases this
          | _ => cases hb
        · cases hb) (fun j j' b hb hb' => by
        split at hb <;> split at hb' <;> try cases hb
        all_goals try cases hb'
        rename_i q1 q2
        rw [q1.1, q2.1]) (by rw [hbx.1]; exact hmb) (bcells_mk (ev_sound hst X) hcs)
      have hrun : (Instr.storeAt T (a.eval p) (a.eval X)).run P w = .ok () (w.setRow blk (cur.toList.take k ++ (a.eval X).cells.toList ++ cur.toList.drop (k + (a.eval X).cells.toList.length)).toArray) := by
        rw [hpe]
        simp only [Instr.storeAt, Instr.sureAddr, Sem.run_bind, Sem.run_pure, Result.andThen_ok]
        unfold storeVar
        simp only [Sem.run_bind, run_sizeOf w hi1, Result.andThen_ok]
        rw [if_neg (by rw [cellsOf_eq hi1, ← hsz, b1, hlen]; simp)]
        have := run_storeCells_at P blk k T' (a.eval X).cells.toList 0 cur w e3 (by simp only [Array.length_toList, Nat.add_zero, b1, hlen]; omega) (by simpa using b3)
        simpa using this
      unfold Oper.wp
      obtain ⟨dst, op, type, pos, after, guard⟩ := o
      simp only at hop; subst hop
      simp only [execOp, Sem.run_bind, hrun, Result.andThen_ok, Sem.run_pure, Oper.upon]
      have hfin := SE.put (v := undef) (x := .sk) hsb hd (by simp only [LR]; exact .sk)
      exact hk _ _ _ h hfin
    · exact h.elim
  · -- a slice literal, as a box
    rename_i T len parts hop
    split at h
    · obtain ⟨e, sz, es, cells, hK, hrun, hc⟩ := vbuildNew_sound hst h
      have hnb := hst.newCells e hc
      refine wp_value (v' := .slice (some ⟨w.heap.size, 0, none⟩) len len) (w' := w.alloc (.cells cells e)) ?_ (hk _ _ _ hK (SE.put hnb hd ?_))
      · obtain ⟨dst, op, type, pos, after, guard⟩ := o
        simp only at hop; subst hop
        simp only [execOp, Sem.run_bind, hrun, Result.andThen_ok, Sem.run_pure]
      · simp only [LR]; exact ⟨Nat.le_refl _, w.heap.size, 0, _, Nat.le_refl _, by simp, .inr rfl, rfl⟩
    · exact gen h
  · -- a slice that is made
    rename_i T l c hop
    obtain ⟨e, p, m, sz, z, cells, hK, hpm, hrun, hc⟩ := vmake_sound hst h
    have hnb := hst.newCells e hc
    refine wp_value (v' := .slice (some ⟨w.heap.size, 0, none⟩) p m) (w' := w.alloc (.cells cells e)) ?_ (hk _ _ _ hK (SE.put hnb hd ?_))
    · obtain ⟨dst, op, type, pos, after, guard⟩ := o
      simp only at hop; subst hop
      simp only [execOp, Sem.run_bind, hrun, Result.andThen_ok, Sem.run_pure]
    · simp only [LR]; exact ⟨hpm, w.heap.size, 0, _, Nat.le_refl _, by simp, .inr rfl, rfl⟩
  · rename_i f args ts hop
    split at h
    · exact vcallB_sound hop hst hd h (fun a' w' s' x hK hse => hk _ _ _ hK hse)
    · exact gen h
  · -- an append, as a box
    rename_i args ts hop
    split at h
    · unfold vappNew at h
      split at h
      · rename_i t u es y hts hargs
        obtain ⟨htu, h⟩ := h
        subst htu
        obtain ⟨X, Y, hX, hxe, hye⟩ : ∃ X Y, args.toList = [X, Y] ∧ V.ow none es = vw s (ev G s X) ∧ y = vw s (ev G s Y) := by
          cases ha : args.toList with
          | nil => simp [ha] at hargs
          | cons X l =>
            cases l with
            | nil => simp [ha] at hargs
            | cons Y l => simp only [ha, List.map_cons, List.cons.injEq, List.map_eq_nil_iff] at hargs; exact ⟨X, Y, by rw [hargs.2.2], hargs.1.symm, hargs.2.1.symm⟩
        have e1 : ts = #[t, t] := Array.ext' hts
        have e2 : args.map a.eval = #[a.eval X, a.eval Y] := by apply Array.ext'; simp [hX]
        subst e1
        subst hye
        have hxl : LR (Wr M w0) I β w (opOb ob X) (a.eval X) (.ow none es) := by
          have := ev_sound hst X
          rw [vw_ow hxe.symm] at this; exact this
        obtain ⟨e, sz, es', cells, cap, hK, hrun, hcap, hsz, hcr, hone⟩ := vappNew_sound (ty := o.type) hst hxl h (vw_rd hst Y)
        have hnb := hst.drew.newPre e (cs := es'.flatten) hsz (fun q c hq => (hcr q c hq).mono fun b o h => ⟨h, rfl⟩) hone
        refine wp_value (v' := .slice (some ⟨w.heap.size, 0, none⟩) es'.length cap) (w' := w.drew.alloc (.cells cells e)) ?_ (hk _ _ _ hK (SE.put hnb hd ?_))
        · obtain ⟨dst, op, type, pos, after, guard⟩ := o
          simp only at hop hrun; subst hop
          have hb : ∀ cs, builtin .append #[t, t] type cs (args.map a.eval) = (do pure (.value (← Builtin.append_ #[t, t] type (args.map a.eval)))) := fun _ => rfl
          have : execOp a.eval { dst, op := .call { callee := .builtin .append, args := args, argTypes := #[t, t] }, type, pos, after, guard } = (do pure (.value (← Builtin.append_ #[t, t] type (args.map a.eval)))) := by
            simp only [execOp, resolve, invoke, pure_bind]
            exact hb _
          rw [this, e2]
          simp only [Sem.run_bind, hrun, Result.andThen_ok, Sem.run_pure]
        · simp only [LR]; exact ⟨Nat.le_refl _, w.heap.size, 0, cap, hcap, by simp, .inr rfl, rfl⟩
      · exact h.elim
    · exact gen h
  · -- is it nil?
    rename_i op T X Y yT hop
    split at h
    · rename_i hy
      have hY : Y = .const (.slice none 0 0) := by
        cases Y with
        | const v =>
          unfold isNilOp at hy
          split at hy
          · rename_i e; exact e
          · cases hy
        | _ => cases hy
      obtain ⟨u, hf, hz, hrun⟩ := vnil_sound h (ev_sound hst X) X Y
      refine wp_value (v' := u) (w' := w) ?_ (hk _ _ _ hz (.fin0 hst hd (.ofLit hf)))
      obtain ⟨dst, op', type, pos, after, guard⟩ := o
      simp only at hop; subst hop
      subst hY
      have he : a.eval (.const (.slice none 0 0)) = .slice none 0 0 := rfl
      have hx : execOp a.eval { dst, op := .binOp op T X (.const (.slice none 0 0)) yT, type, pos, after, guard } = (do pure (.value (← (do eqGuard op T X (.const (.slice none 0 0)) (a.eval X) (.slice none 0 0); binOp op T (a.eval X) (.slice none 0 0) : Sem Value)))) := rfl
      rw [hx]
      simp only [Sem.run_bind] at hrun ⊢
      rw [hrun]
      simp
    · exact gen h
  · -- a read of a slice without room
    rename_i T X hop
    split at h
    · obtain ⟨z, u, hz, hlr, hrun⟩ := vloadZ_sound hst h (ev_sound hst X)
      refine wp_value (v' := u) (w' := w) ?_ (hk _ _ _ hz (SE.put hst hd hlr))
      obtain ⟨dst, op', type, pos, after, guard⟩ := o
      simp only at hop; subst hop
      simp only [execOp, Sem.run_bind, hrun, Result.andThen_ok, Sem.run_pure]
    · exact gen h.2
  · -- a literal whose other fields are nil
    rename_i T parts hop
    split at h
    · obtain ⟨z, u, hz, hlr, hrun⟩ := vbuildZ_sound hst h
      refine wp_value (v' := u) (w' := w) ?_ (hk _ _ _ hz (SE.put hst hd hlr))
      obtain ⟨dst, op', type, pos, after, guard⟩ := o
      simp only at hop; subst hop
      simp only [execOp, Sem.run_bind, hrun, Result.andThen_ok, Sem.run_pure]
    · exact gen h
  · -- a map that is made
    rename_i T hop
    split at h
    · have hnb := hst.newMap
      refine wp_value (v' := .map (some w.heap.size)) (w' := w.alloc (.map #[] 0)) ?_ (hk _ _ _ h (SE.put hnb hd ?_))
      · obtain ⟨dst, op', type, pos, after, guard⟩ := o
        simp only at hop; subst hop
        simp [execOp, Instr.makeMap]
      · simp only [LR]; exact ⟨w.heap.size, by simp, rfl⟩
    · exact h.elim
  · -- a map is written
    rename_i T m k X hop
    obtain ⟨s', ob', w', hK, hrun, hst'⟩ := vmapSet_sound hst h (ev_sound hst m) (ev_sound hst k) (ev_sound hst X)
    unfold Oper.wp
    obtain ⟨dst, op', type, pos, after, guard⟩ := o
    simp only at hop; subst hop
    simp only [execOp, Sem.run_bind, hrun, Result.andThen_ok, Sem.run_pure, Oper.upon]
    exact hk _ _ _ hK (SE.put (v := undef) (x := .sk) hst' hd (by simp only [LR]; exact .sk))
  · -- an entry of a map
    rename_i T m k hop
    obtain ⟨s', ob', w', z, u, hK, hrun, hst', hlr⟩ := vmapEntry_sound hst h (ev_sound hst m) (ev_sound hst k)
    refine wp_value (v' := u) (w' := w') ?_ (hk _ _ _ hK (SE.put hst' hd hlr))
    obtain ⟨dst, op', type, pos, after, guard⟩ := o
    simp only at hop; subst hop
    simp only [execOp, Sem.run_bind, hrun, Result.andThen_ok, Sem.run_pure]
  · -- an entry is written
    rename_i T m k X hop
    obtain ⟨s', ob', w', hK, hrun, hst'⟩ := ventrySet_sound (P := P) (T := T) hst h (ev_sound hst m) (ev_sound hst k) (ev_sound hst X)
    unfold Oper.wp
    obtain ⟨dst, op', type, pos, after, guard⟩ := o
    simp only at hop; subst hop
    simp only [execOp, Sem.run_bind, hrun, Result.andThen_ok, Sem.run_pure, Oper.upon]
    exact hk _ _ _ hK (SE.put (v := undef) (x := .sk) hst' hd (by simp only [LR]; exact .sk))
  · -- the next entry
    rename_i t hop
    obtain ⟨it, z, u, w', hK, hrun, hse⟩ := vnext_sound (P := P) (ty := o.type) hst hd h
    refine wp_value (v' := u) (w' := w') ?_ (hk _ _ _ hK hse)
    obtain ⟨dst, op', type, pos, after, guard⟩ := o
    simp only at hop; subst hop
    simp only [execOp, Act.eval, Sem.run_bind, hrun, Result.andThen_ok, Sem.run_pure]
  · exact gen h

/-- What a slot said to be a test shows to a guard. -/
theorem yielded_bool (hst : St G n I0 M w0 I β ob s a w) {ops : Array Oper} {j d : Nat} (hd : (ops[j]?).bind (·.dst) = some d) {p : Bool} (h : s.fr d = .c (.lit (.bool p))) : yielded ops a.tmps j = some p := by
  have := hst.fr d
  rw [h] at this
  have hv := this.lit
  unfold yielded
  rw [hd]
  simp only [Option.bind_some]
  rw [Array.getD_eq_getD_getElem?] at hv
  cases hx : a.tmps[d]? with
  | none => rw [hx] at hv; cases hv
  | some u => rw [hx] at hv; simp only [Option.getD_some] at hv; rw [hv]

theorem yielded_sk (hst : St G n I0 M w0 I β ob s a w) {ops : Array Oper} {j d : Nat} (hd : (ops[j]?).bind (·.dst) = some d) (h : s.fr d = .sk) : yielded ops a.tmps j = none := by
  have := hst.fr d
  rw [h] at this
  have hv : a.tmps.getD d undef = undef := by simp only [LR] at this; generalize a.tmps.getD d undef = u at this; cases this; rfl
  unfold yielded
  rw [hd]
  simp only [Option.bind_some]
  rw [Array.getD_eq_getD_getElem?] at hv
  cases hx : a.tmps[d]? with
  | none => rfl
  | some u => rw [hx] at hv; simp only [Option.getD_some] at hv; rw [hv]; rfl

theorem S.up_id {d : Nat} {x : V} (h : s.fr d = x) : { s with fr := up s.fr d x } = s := by
  rw [← h, up_self]

/-- An operation under its guard. -/
theorem vguard_sound {ops : Array Oper} {yes no : S → Prop} (hst : St G n I0 M w0 I β ob s a w) (h : vguard ops o s yes no) :
    (Region.wanted o (yielded ops a.tmps) = true ∧ yes s) ∨ (Region.wanted o (yielded ops a.tmps) = false ∧ no s) := by
  unfold vguard at h
  unfold Region.wanted
  split at h
  · rename_i hg
    rw [hg]; exact .inl ⟨rfl, h⟩
  · rename_i j want hg
    rw [hg]
    split at h
    · rename_i d hd
      split at h
      · rename_i p hp
        simp only [yielded_bool hst hd hp]
        by_cases hpw : p = want
        · subst hpw
          have := h.1 rfl
          rw [S.up_id hp] at this
          exact .inl ⟨by simp, this⟩
        · have hpn : p = !want := by cases p <;> cases want <;> simp_all
          have := h.2 hpn
          rw [← hpn, S.up_id hp] at this
          exact .inr ⟨by simpa using hpw, this⟩
      · rename_i hp
        simp only [yielded_sk hst hd hp]
        exact .inr ⟨rfl, h⟩
      · exact h.elim
    · exact h.elim

/-- The slots that a region writes are slots. -/
def dstOk (n : Nat) (ops : Array Oper) : Bool := ops.toList.all fun o => match o.dst with | some d => decide (d < n) | none => true

theorem dstOk_spec {ops : Array Oper} (h : dstOk n ops = true) {o : Oper} (ho : o ∈ ops.toList) : ∀ d, o.dst = some d → d < n := fun d hd => by
  have := List.all_eq_true.1 h o ho
  rw [hd] at this
  simpa using this

theorem vops_sound {ops : Array Oper} (hok : dstOk n ops = true) {K : S → Prop} (hK : ∀ a w s, K s → SE G n I0 M w0 s a w → Q .normal a w) : ∀ (l : List Oper) (k : Nat), ops.toList.drop k = l → ∀ (s : S) (a : Act) (w : World),
    vops P G tr ops l s K → SE G n I0 M w0 s a w → wpOps P ops Q (List.range' k l.length) a w
  | [], k, _, s, a, w, h, hse => by simp only [List.length_nil, List.range'_zero, wpOps]; exact hK _ _ _ h hse
  | o :: l, k, hl, s, a, w, h, hse => by
    have hget : ops[k]? = some o := by
      have : (ops.toList.drop k)[0]? = some o := by rw [hl]; rfl
      rw [List.getElem?_drop] at this
      simpa using this
    have hl' : ops.toList.drop (k + 1) = l := by
      rw [← List.drop_drop, hl]; rfl
    have hmem : o ∈ ops.toList := List.mem_of_mem_drop (i := k) (by rw [hl]; simp)
    obtain ⟨I, β, ob, hst⟩ := hse
    simp only [List.length_cons, List.range'_succ, wpOps, hget]
    simp only [vops] at h
    rcases vguard_sound hst h with ⟨hw, h⟩ | ⟨hw, h⟩
    · rw [if_pos hw]
      refine .inl (VStep_sound (tr := tr) hst (dstOk_spec hok hmem) h fun a' w' s' hs' hse' => ?_)
      exact vops_sound hok hK l (k + 1) hl' s' a' w' hs' hse'
    · rw [hw]
      simp only [Bool.false_eq_true, if_false]
      exact vops_sound hok hK l (k + 1) hl' _ _ w h (SE.put hst (dstOk_spec hok hmem) (by simp only [LR]; exact .sk))

theorem PR.ltP {β' : Nat → Option Nat} {m : Nat} (h : PR I β w v x) (hx : x.ltP m) (hβ : ∀ i, i < m → β' i = β i) : PR I β' w v x := by
  cases x <;> simp only [V.ltP] at hx <;> simp only [PR] at h ⊢ <;> try exact h
  · obtain ⟨blk, h1, h2⟩ := h; exact ⟨blk, by rw [hβ _ hx]; exact h1, h2⟩
  · obtain ⟨h0, blk, o', c', hc', h1, h2⟩ := h; exact ⟨h0, blk, o', c', hc', by rw [hβ _ hx]; exact h1, h2⟩
  · obtain ⟨blk, h1, h2⟩ := h; exact ⟨blk, by rw [hβ _ hx]; exact h1, h2⟩

theorem LR.lt {β' : Nat → Option Nat} {m : Nat} {ox : Option Nat} (h : LR base I β w ox v x) (hx : x.lt m) (hβ : ∀ i, i < m → β' i = β i) : LR base I β' w ox v x := by
  cases x <;> simp only [V.lt] at hx <;> simp only [LR] at h ⊢ <;> try exact h
  · obtain ⟨blk, h1, h2⟩ := h; exact ⟨blk, by rw [hβ _ hx]; exact h1, h2⟩
  · obtain ⟨vf, vc, h1, h2, h3, h4, h5⟩ := h
    exact ⟨vf, vc, h1, h2, h3, fun j x hj => (h4 j x hj).ltP (hx.1 x (List.mem_of_getElem? hj)) hβ, fun j x hj => (h5 j x hj).ltP (hx.2 x (List.mem_of_getElem? hj)) hβ⟩
  · obtain ⟨h0, blk, o', c', hc', h1, h2⟩ := h; exact ⟨h0, blk, o', c', hc', by rw [hβ _ hx]; exact h1, h2⟩
  · obtain ⟨cs, h1, h2, h3⟩ := h
    exact ⟨cs, h1, h2, fun j x hj => (h3 j x hj).ltP (hx x (List.mem_of_getElem? hj)) hβ⟩
  · obtain ⟨blk, h1, h2⟩ := h; exact ⟨blk, by rw [hβ _ hx]; exact h1, h2⟩
  · obtain ⟨blk, m, h1, h2, h3, h4⟩ := h; exact ⟨blk, m, h1, h2, by rw [hβ _ hx]; exact h3, h4⟩

theorem SE.weaken {s' : S} {k : Nat} (h : SE G n I0 M w0 s a w) (hext : ∀ i b, M.e i = some b → i < k) (hle : S.Le k s' s) : SE G n I0 M w0 s' a w := by
  obtain ⟨I, β, ob, h⟩ := h
  have hβ : ∀ i b, (if i < s'.nb then β i else none) = some b → β i = some b := fun i b hb => by split at hb; exact hb; cases hb
  let ob' : Loc → Option Nat := fun L => match L with
    | .t i => if (s'.fr i).isOw then ob (.t i) else none
    | .b i j => if i < s'.nb then ob (.b i j) else none
  have hob : ∀ L b, ob' L = some b → ob L = some b := fun L b hL => by
    cases L with
    | t i => simp only [ob'] at hL; split at hL; exact hL; cases hL
    | b i j => simp only [ob'] at hL; split at hL; exact hL; cases hL
  refine ⟨I, fun i => if i < s'.nb then β i else none, ob', {
    size := h.size, defers := h.defers, below := h.below, kept := h.kept, ilow := h.ilow, ihigh := h.ihigh, ibnd := h.ibnd
    fr := fun t => ?_
    bx := fun i hi => ?_
    bnone := fun i hi => by rw [if_neg (by omega)]
    ext := fun i b he => by rw [if_pos (Nat.lt_of_lt_of_le (hext i b he) hle.ext)]; exact h.ext i b he
    bnew := fun i b hi => h.bnew i b (hβ i b hi)
    binj := fun i j b hi hj => h.binj i j b (hβ _ _ hi) (hβ _ _ hj)
    oinj := fun L L' b hL hL' => h.oinj L L' b (hob _ _ hL) (hob _ _ hL')
    obx := fun L b i hL hi => h.obx L b i (hob _ _ hL) (hβ _ _ hi)
    obnd := fun L b hL => h.obnd L b (hob _ _ hL)
    glob := h.glob }⟩
  · rcases hle.fr t with e | e
    · rw [e]; simp only [LR]; exact .un _
    · have := h.fr t
      rw [← e] at this
      have h2 : LR (Wr M w0) I β w (ob' (.t t)) (a.tmps.getD t undef) (s'.fr t) := by
        simp only [ob']
        by_cases ho : (s'.fr t).isOw = true
        · rw [if_pos ho]; exact this
        · rw [if_neg ho]; exact this.other (by simpa using ho)
      exact h2.lt (hle.lt t) (fun i hi => by rw [if_pos hi])
  · obtain ⟨blk, cur, e1, e2, e3, e4, e5, e7⟩ := h.bx i (Nat.lt_of_lt_of_le hi hle.nb)
    refine ⟨blk, cur, by rw [if_pos hi]; exact e1, e2, by rw [hle.bx i hi]; exact e3, by rw [hle.bx i hi]; exact e4, fun j => ?_, e7⟩
    have := e5 j
    rw [← hle.bx i hi] at this
    have hlt : ((s'.bx i).getD j .un).lt s'.nb := by
      by_cases hj : j < (s'.bx i).length
      · have : (s'.bx i).getD j .un = (s'.bx i)[j] := by simp [List.getD, hj]
        rw [this]; exact hle.blt i hi _ (List.getElem_mem hj)
      · have : (s'.bx i).getD j .un = .un := by simp [List.getD, List.getElem?_eq_none (Nat.le_of_not_lt hj)]
        rw [this]; exact trivial
    have h2 := this.lt (β' := fun i => if i < s'.nb then β i else none) hlt (fun i hi => by rw [if_pos hi])
    simpa only [ob', if_pos hi] using h2

theorem mkOf_fz {s : S} {m : Nat} {l l' : List V} (h : l'.getD 0 .un = l.getD 0 .un ∨ FzV s m (l'.getD 0 .un) (l.getD 0 .un)) : mkOf l' = mkOf l := by
  unfold mkOf
  rcases h with h | ⟨i, off, len, cap, sz, c, h1, _, _, h2⟩
  · rw [h]
  · rw [h1, h2]
/-- Some last boxes are there for good from now on. -/
theorem SE.freeze {s' : S} {k : Nat} (h : SE G n I0 M w0 s a w) (hext : ∀ i b, M.e i = some b → i < k) (hle : S.Fz k s' s) : SE G n I0 M w0 s' a w := by
  obtain ⟨I, β, ob, h⟩ := h
  have hβ : ∀ i b, (if i < s'.nb then β i else none) = some b → β i = some b := fun i b hb => by split at hb; exact hb; cases hb
  let ob' : Loc → Option Nat := fun L => match L with
    | .t i => if (s'.fr i).isOw then ob (.t i) else none
    | .b i j => if i < s'.nb then ob (.b i j) else none
  have hob : ∀ L b, ob' L = some b → ob L = some b := fun L b hL => by
    cases L with
    | t i => simp only [ob'] at hL; split at hL; exact hL; cases hL
    | b i j => simp only [ob'] at hL; split at hL; exact hL; cases hL
  let I' : Ft := fun b o => I b o ∨ ∃ i, s'.nb ≤ i ∧ i < s.nb ∧ β i = some b
  have hII : ∀ b o, I b o → I' b o := fun _ _ h => .inl h
  have hmono : ∀ (v : Value) (x : V) (o : Option Nat), (∀ b, o = some b → ∃ L, ob L = some b) → LR (Wr M w0) I β w o v x → LR (Wr M w0) I' β w o v x := fun v x o ho hx =>
    hx.mono (fun b o hb => ⟨.inl hb, rfl⟩) (fun _ _ e => e) (fun b hb => ⟨rfl, fun o hI => by
      rcases hI with hI | ⟨i, _, _, hi⟩
      · exact hI
      · obtain ⟨L, hL⟩ := ho b hb
        exact absurd hi (h.obx L b i hL)⟩)
  have hview : ∀ (v : Value) (x y : V) (o : Option Nat), LR (Wr M w0) I β w o v y → FzV s s'.nb x y → ∃ c, x = .c c ∧ CR I' w v c := fun v x y o hy hf => by
    obtain ⟨i, off, len, cap, sz, c, rfl, hi, hv, rfl⟩ := hf
    simp only [LR] at hy
    refine ⟨c, rfl, view_cr h hv hy hII (fun b o hb => ?_)⟩
    have hib : i < s.nb := by
      unfold viewC boxC at hv
      split at hv
      · rename_i hc
        split at hc
        · assumption
        · cases hc
      · cases hv
    exact .inr ⟨i, hi, hib, hb⟩
  refine ⟨I', fun i => if i < s'.nb then β i else none, ob', {
    size := h.size, defers := h.defers, below := h.below, ilow := fun b o hb => .inl (h.ilow b o hb), kept := h.kept
    ihigh := fun b o hb => by
      rcases hb with hb | ⟨i, _, hi, hb⟩
      · exact h.ihigh b o hb
      · obtain ⟨blk, cur, e1, e2, e3, _⟩ := h.bx i hi
        rw [hb] at e1; cases e1; exact .inr e2
    ibnd := fun b o hb => by
      rcases hb with hb | ⟨i, _, hi, hb⟩
      · exact h.ibnd b o hb
      · obtain ⟨blk, cur, e1, e2, e3, _⟩ := h.bx i hi
        rw [hb] at e1; cases e1
        exact e3.lt
    fr := fun t => ?_
    bx := fun i hi => ?_
    bnone := fun i hi => by rw [if_neg (by omega)]
    ext := fun i b he => by rw [if_pos (Nat.lt_of_lt_of_le (hext i b he) hle.ext)]; exact h.ext i b he
    bnew := fun i b hi => h.bnew i b (hβ i b hi)
    binj := fun i j b hi hj => h.binj i j b (hβ _ _ hi) (hβ _ _ hj)
    oinj := fun L L' b hL hL' => h.oinj L L' b (hob _ _ hL) (hob _ _ hL')
    obx := fun L b i hL hi => h.obx L b i (hob _ _ hL) (hβ _ _ hi)
    obnd := fun L b hL => h.obnd L b (hob _ _ hL)
    glob := fun g cs hg => (h.glob g cs hg).mono fun b o hb => ⟨.inl hb, rfl⟩ }⟩
  · rcases hle.fr t with e | e | e
    · rw [e]; simp only [LR]; exact .un _
    · have := hmono _ _ _ (fun b hb => ⟨_, hb⟩) (h.fr t)
      rw [← e] at this
      have h2 : LR (Wr M w0) I' β w (ob' (.t t)) (a.tmps.getD t undef) (s'.fr t) := by
        simp only [ob']
        by_cases ho : (s'.fr t).isOw = true
        · rw [if_pos ho]; exact this
        · rw [if_neg ho]; exact this.other (by simpa using ho)
      exact h2.lt (hle.lt t) (fun i hi => by rw [if_pos hi])
    · obtain ⟨c, hc, hcr⟩ := hview _ _ _ _ (h.fr t) e
      rw [hc]; exact .ofC hcr
  · obtain ⟨blk, cur, e1, e2, e3, e4, e5, e7⟩ := h.bx i (Nat.lt_of_lt_of_le hi hle.nb)
    refine ⟨blk, cur, by rw [if_pos hi]; exact e1, e2, e3.congr (hle.bl i hi) (mkOf_fz (hle.bx i hi 0)), by rw [hle.bl i hi]; exact e4, fun j => ?_, fun o ho => ?_⟩
    · rcases hle.bx i hi j with e | e
      · have := hmono _ _ _ (fun b hb => ⟨_, hb⟩) (e5 j)
        rw [← e] at this
        have hlt : ((s'.bx i).getD j .un).lt s'.nb := by
          by_cases hj : j < (s'.bx i).length
          · have : (s'.bx i).getD j .un = (s'.bx i)[j] := by simp [List.getD, hj]
            rw [this]; exact hle.blt i hi _ (List.getElem_mem hj)
          · have : (s'.bx i).getD j .un = .un := by simp [List.getD, List.getElem?_eq_none (Nat.le_of_not_lt hj)]
            rw [this]; exact trivial
        have h2 := this.lt (β' := fun i => if i < s'.nb then β i else none) hlt (fun i hi => by rw [if_pos hi])
        simpa only [ob', if_pos hi] using h2
      · obtain ⟨c, hc, hcr⟩ := hview _ _ _ _ (e5 j) e
        rw [hc]; exact .ofC hcr
    · rcases ho with ho | ⟨i', hi', _, hb⟩
      · exact e7 o ho
      · have := h.binj i i' blk e1 hb
        omega

end
end Go.Vl

/- Values without memory: regions that draw their order: an operation's effect. -/
namespace Go.Vl
open Go Go.RowKit

section
variable {P : Program} {G : Gl} {tr : List Nat} {s : S} {o : Oper} {x y : V} {K : V → Prop}

theorem vint_atom {op : BinOp} {k : IntKind} {a b : Int} (h : vint op k a b K) : ∃ v, vint op k a b (fun u => v = u) ∧ K v := by
  cases op <;> simp only [vint] at h ⊢ <;> first | exact ⟨_, rfl, h⟩ | exact ⟨_, ⟨h.1, rfl⟩, h.2⟩

theorem vstr_atom {op : BinOp} {a b : ByteArray} (h : vstr op a b K) : ∃ v, vstr op a b (fun u => v = u) ∧ K v := by
  cases op <;> simp only [vstr] at h ⊢ <;> first | exact h.elim | exact ⟨_, rfl, h⟩ | exact ⟨_, ⟨h.1, rfl⟩, h.2⟩

theorem vbin_atom {op : BinOp} {T : TypeId} (h : vbin P op T x y K) : ∃ v, vbin P op T x y (fun u => v = u) ∧ K v := by
  unfold vbin at h
  split at h
  · split at h
    · exact vint_atom h
    · exact vint_atom h
    · rename_i h1 h2
      split at h
      · rename_i hk
        obtain ⟨v, hv, hK⟩ := vint_atom h
        refine ⟨v, ?_, hK⟩
        unfold vbin
        simp only [if_pos hk]
        first | exact hv | (split <;> first | exact hv | simp_all)
      · exact h.elim
  · exact vstr_atom h
  · split at h
    · rename_i hi
      split at h
      · exact ⟨_, by simp only [vbin, hi], h⟩
      · exact ⟨_, by simp only [vbin, hi], h⟩
      · exact h.elim
    · exact h.elim
  · split at h
    · rename_i hi
      split at h
      · rename_i hr
        obtain ⟨hl, h⟩ := h
        split at h
        · exact ⟨_, by simp only [vbin, hi, hr]; exact ⟨hl, trivial⟩, h⟩
        · exact ⟨_, by simp only [vbin, hi, hr]; exact ⟨hl, trivial⟩, h⟩
        · exact h.elim
      · exact h.elim
    · exact h.elim
  · exact h.elim

theorem vun_atom {op : UnOp} (h : vun op x K) : ∃ v, vun op x (fun u => v = u) ∧ K v := by
  unfold vun at h
  split at h <;> first | exact h.elim | exact ⟨_, rfl, h⟩

theorem partV_atom {ag : Bool} {sz off : Nat} {cs : List C} (h : partV ag sz off cs K) : ∃ v, partV ag sz off cs (fun u => v = u) ∧ K v := by
  unfold partV at h
  split at h
  · rename_i hag; exact ⟨_, by unfold partV; rw [if_pos hag]; exact ⟨h.1, rfl⟩, h.2⟩
  · rename_i hag
    split at h
    · rename_i c hc; exact ⟨_, by unfold partV; rw [if_neg hag, hc], h⟩
    · exact h.elim

theorem partM_atom {ag : Bool} {sz off : Nat} {vs : List V} (h : partM ag sz off vs K) : ∃ v, partM ag sz off vs (fun u => v = u) ∧ K v := by
  unfold partM at h
  split at h
  · rename_i hag; exact ⟨_, by unfold partM; rw [if_pos hag]; exact ⟨h.1, rfl⟩, h.2⟩
  · rename_i hag
    split at h
    · rename_i c hc; exact ⟨_, by unfold partM; rw [if_neg hag, hc], h⟩
    · exact h.elim

theorem vload_atom {T : TypeId} (h : vload P T s x K) : ∃ v, vload P T s x (fun u => v = u) ∧ K v := by
  unfold vload at h
  split at h
  · rename_i hi
    obtain ⟨v, h1, h2⟩ := partV_atom h
    exact ⟨v, by unfold vload; rw [hi]; exact h1, h2⟩
  · rename_i i b k hi
    obtain ⟨hb, h⟩ := h
    split at h
    · rename_i hag
      exact ⟨_, by unfold vload; rw [hi]; refine ⟨hb, ?_⟩; rw [if_pos hag]; exact ⟨h.1, rfl⟩, h.2⟩
    · rename_i hag
      split at h
      · rename_i c hc
        exact ⟨_, by unfold vload; rw [hi]; refine ⟨hb, ?_⟩; rw [if_neg hag, hc], h⟩
      · exact h.elim
  · exact h.elim

theorem vfieldAddr_atom {T : TypeId} {f : Nat} (h : vfieldAddr P T x f K) : ∃ v, vfieldAddr P T x f (fun u => v = u) ∧ K v := by
  unfold vfieldAddr at h
  split at h
  · rename_i i hi
    split at h
    · rename_i hf; exact ⟨_, by unfold vfieldAddr; simp only [hi, hf]; exact ⟨h.1, trivial⟩, h.2⟩
    · rename_i hf; exact ⟨_, by unfold vfieldAddr; simp only [hi, hf]; exact ⟨h.1, trivial⟩, h.2⟩
    · exact h.elim
  · exact h.elim

theorem vfield_atom {T : TypeId} {f : Nat} (h : vfield P T x f K) : ∃ v, vfield P T x f (fun u => v = u) ∧ K v := by
  unfold vfield at h
  split at h
  · rename_i hi
    split at h
    · rename_i hf
      obtain ⟨v, h1, h2⟩ := partV_atom h
      exact ⟨v, by unfold vfield; simp only [hi, hf]; exact h1, h2⟩
    · exact h.elim
  · rename_i hi
    split at h
    · rename_i hf
      obtain ⟨v, h1, h2⟩ := partM_atom h
      exact ⟨v, by unfold vfield; simp only [hi, hf]; exact h1, h2⟩
    · exact h.elim
  · exact h.elim

theorem vindexAddr_atom {T : TypeId} (h : vindexAddr P T x y K) : ∃ v, vindexAddr P T x y (fun u => v = u) ∧ K v := by
  unfold vindexAddr at h
  split at h
  · rename_i hi
    split at h
    · rename_i hj
      obtain ⟨h0, h⟩ := h
      split at h
      · rename_i hc
        exact ⟨_, by unfold vindexAddr; simp only [hi, hj, hc]; exact ⟨h0, h.1, trivial⟩, h.2⟩
      · exact h.elim
    · exact h.elim
  · rename_i hi
    split at h
    · rename_i hj
      exact ⟨_, by unfold vindexAddr; simp only [hi, hj]; exact ⟨h.1, trivial⟩, h.2⟩
    · exact h.elim
  · rename_i hi
    split at h
    · rename_i hj
      exact ⟨_, by unfold vindexAddr; simp only [hi, hj]; exact ⟨h.1, trivial⟩, h.2⟩
    · exact h.elim
  · rename_i hi
    split at h
    · rename_i hj
      exact ⟨_, by unfold vindexAddr; simp only [hi, hj]; exact ⟨h.1, trivial⟩, h.2⟩
    · exact h.elim
  · exact h.elim

theorem vindex_atom {T : TypeId} (h : vindex P T x y K) : ∃ v, vindex P T x y (fun u => v = u) ∧ K v := by
  unfold vindex at h
  split at h
  · rename_i hi
    obtain ⟨h0, h⟩ := h
    split at h
    · rename_i hc
      exact ⟨_, by unfold vindex; simp only [hi, hc]; exact ⟨h0, trivial⟩, h⟩
    · exact h.elim
  · rename_i hi
    split at h
    · rename_i hj
      obtain ⟨v, h1, h2⟩ := partV_atom h.2
      exact ⟨v, by unfold vindex; simp only [hi, hj]; exact ⟨h.1, h1⟩, h2⟩
    · exact h.elim
  · exact h.elim

theorem vslice_atom {T : TypeId} {lo hi mx : Option V} (h : vslice P T x lo hi mx K) : ∃ v, vslice P T x lo hi mx (fun u => v = u) ∧ K v := by
  unfold vslice at h
  split at h
  · rename_i ht
    split at h
    · rename_i e1 e2
      exact ⟨_, by unfold vslice; simp only [ht, e1, e2]; exact ⟨h.1, trivial⟩, h.2⟩
    · exact h.elim
  · rename_i ht
    split at h
    · split at h
      · rename_i e1 e2 e3
        exact ⟨_, by unfold vslice; simp only [ht, e1, e2, e3]; exact ⟨h.1, trivial⟩, h.2⟩
      · exact h.elim
    · split at h
      · rename_i e1 e2
        exact ⟨_, by unfold vslice; simp only [ht, e1, e2]; exact ⟨h.1, trivial⟩, h.2⟩
      · exact h.elim
    · exact h.elim
  · rename_i ht
    split at h
    · rename_i e1 e2 e3 e4
      exact ⟨_, by unfold vslice; simp only [ht, e1, e2, e3, e4]; exact ⟨h.1, trivial⟩, h.2⟩
    · exact h.elim
  · rename_i ht
    split at h
    · rename_i e1
      exact ⟨_, by unfold vslice; simp only [ht, e1]; exact ⟨h.1, trivial⟩, h.2⟩
    · exact h.elim
  · exact h.elim

theorem vconv_atom {src dst : TypeId} (h : vconv P src dst x K) : ∃ v, vconv P src dst x (fun u => v = u) ∧ K v := by
  unfold vconv at h
  split at h
  · rename_i e1 e2; exact ⟨_, by unfold vconv; simp only [e1, e2], h⟩
  · rename_i e1 e2; exact ⟨_, by unfold vconv; simp only [e1, e2], h⟩
  · rename_i e1 e2
    split at h
    · rename_i e3; exact ⟨_, by unfold vconv; simp only [e1, e2, e3], h⟩
    · exact h.elim
  · rename_i e1 e2
    split at h
    · rename_i e3
      split at h
      · rename_i e4; exact ⟨_, by unfold vconv; simp only [e1, e2, e3, e4], h⟩
      · exact h.elim
    · exact h.elim
  · exact h.elim

theorem vbuild_atom {T : TypeId} {parts : List (Nat × V)} (h : vbuild P T parts K) : ∃ v, vbuild P T parts (fun u => v = u) ∧ K v := by
  unfold vbuild at h
  split at h
  · rename_i e1
    split at h
    · rename_i e2; exact ⟨_, by unfold vbuild; simp only [e1, e2], h⟩
    · rename_i e2
      split at h
      · rename_i e3; exact ⟨_, by unfold vbuild; simp only [e1, e2, e3], h⟩
      · exact h.elim
  · rename_i e1
    split at h
    · rename_i e2
      split at h
      · rename_i e3; exact ⟨_, by unfold vbuild; simp only [e1, e2, e3], h⟩
      · exact h.elim
    · exact h.elim
  · exact h.elim

theorem vbuildSlice_atom {T : TypeId} {len : Nat} {parts : List (Nat × V)} (h : vbuildSlice P T len parts K) : ∃ v, vbuildSlice P T len parts (fun u => v = u) ∧ K v := by
  unfold vbuildSlice at h
  split at h
  · rename_i e1
    split at h
    · rename_i e2
      obtain ⟨h0, h⟩ := h
      split at h
      · rename_i e3; exact ⟨_, by unfold vbuildSlice; simp only [e1, e2, e3]; exact ⟨h0, trivial⟩, h⟩
      · exact h.elim
    · exact h.elim
  · exact h.elim

theorem vlen_atom {T : TypeId} (h : vlen P T x K) : ∃ v, vlen P T x (fun u => v = u) ∧ K v := by
  unfold vlen at h
  split at h
  all_goals first | exact h.elim | (rename_i e1; exact ⟨_, by unfold vlen; simp only [e1], h⟩)

theorem vappend_atom {T : TypeId} (h : vappend P T x y K) : ∃ v, vappend P T x y (fun u => v = u) ∧ K v := by
  unfold vappend at h
  split at h
  · rename_i e1
    split at h
    · rename_i e2
      obtain ⟨h0, h⟩ := h
      split at h
      · exact ⟨_, by unfold vappend; simp only [e1, e2]; exact ⟨h0, h.1, trivial⟩, h.2⟩
      · exact h.elim
    · exact h.elim
  · exact h.elim

theorem vmin_atom {mx : Bool} {l : List V} (h : vmin mx l K) : ∃ v, vmin mx l (fun u => v = u) ∧ K v := by
  unfold vmin at h
  split at h
  · exact ⟨_, rfl, h⟩
  · exact h.elim

theorem vcall_atom {f : V} {l : List V} (h : vcall P G s f l K) : ∃ v, vcall P G s f l (fun u => v = u) ∧ K v := by
  unfold vcall at h
  split at h
  · split at h
    · rename_i e1
      obtain ⟨r, h1, h2, h3⟩ := h
      exact ⟨r, by unfold vcall; simp only [e1]; exact ⟨r, h1, h2, rfl⟩, h3⟩
    · exact h.elim
  · split at h
    · rename_i e1 e2 e3
      obtain ⟨r, h1, h2, h3⟩ := h
      exact ⟨r, by unfold vcall; simp only [e1, e2, e3]; exact ⟨r, h1, h2, rfl⟩, h3⟩
    · exact h.elim
  · exact h.elim

theorem vbuiltin_atom {b : Builtin} {ts : List TypeId} {l : List V} (h : vbuiltin P b ts l K) : ∃ v, vbuiltin P b ts l (fun u => v = u) ∧ K v := by
  unfold vbuiltin at h
  split at h
  · exact vlen_atom h
  · split at h
    · rename_i ht
      obtain ⟨v, h1, h2⟩ := vappend_atom h
      exact ⟨v, by unfold vbuiltin; simp only [if_pos ht]; exact h1, h2⟩
    · exact h.elim
  · exact vmin_atom h
  · exact vmin_atom h
  · exact h.elim

theorem vcallE_atom {bx : Nat → List V} {nb : Nat} {f : V} {l : List V} {K : (Nat → List V) → Nat → V → Prop} (h : vcallE P G bx nb f l K) : ∃ bx' nb' v, vcallE P G bx nb f l (fun b n u => (bx' = b ∧ nb' = n) ∧ v = u) ∧ K bx' nb' v := by
  unfold vcallE at h
  split at h
  · rename_i g all e1
    obtain ⟨ρ, cargs, b0, r, b1, h1, h2, h3, h4, h5⟩ := h
    exact ⟨_, _, _, by unfold vcallE; simp only [e1]; exact ⟨ρ, cargs, b0, r, b1, h1, h2, h3, h4, ⟨rfl, rfl⟩, rfl⟩, h5⟩
  · exact h.elim

theorem vnewE_atom {bx : Nat → List V} {nb n m : Nat} {K : (Nat → List V) → Nat → V → Prop} (h : vnewE bx nb n m K x) : ∃ bx' nb' v, vnewE bx nb n m (fun b n u => (bx' = b ∧ nb' = n) ∧ v = u) x ∧ K bx' nb' v := by
  unfold vnewE at h
  split at h
  · exact ⟨_, _, _, ⟨⟨rfl, rfl⟩, rfl⟩, h⟩
  · exact h.elim

theorem vmake_atom {T : TypeId} {K : Nat → Nat → Nat → List C → Prop} (h : vmake P T x y K) : ∃ n m sz z, vmake P T x y (fun n' m' sz' z' => n = n' ∧ m = m' ∧ sz = sz' ∧ z = z') ∧ K n m sz z := by
  unfold vmake at h
  split at h
  · rename_i e1
    split at h
    · rename_i e2
      exact ⟨_, _, _, _, by unfold vmake; simp only [e1, e2]; exact ⟨h.1, by simp⟩, h.2⟩
    · exact h.elim
  · exact h.elim

theorem vmapAt_atom {T : TypeId} {K : Nat → List Nat → Nat → List V → Option Nat → V → Prop} (h : vmapAt P T s x y K) :
    ∃ i bs cl r res z, vmapAt P T s x y (fun i' bs' cl' r' res' z' => i = i' ∧ bs = bs' ∧ cl = cl' ∧ r = r' ∧ res = res' ∧ z = z') ∧ K i bs cl r res z := by
  unfold vmapAt at h
  split at h
  · rename_i e1
    split at h
    · rename_i e2 e3
      split at h
      · rename_i e4 e5 e6
        split at h
        · rename_i e7
          split at h
          · rename_i e8
            exact ⟨_, _, _, _, _, _, by unfold vmapAt; simp only [e1, e2, e3, e4, e5, e6, e7, e8]; exact ⟨h.1, by simp⟩, h.2⟩
          · exact h.elim
        · exact h.elim
      · exact h.elim
    · exact h.elim
  · exact h.elim
theorem vmapAt_use {T : TypeId} {i cl : Nat} {bs : List Nat} {r : List V} {res : Option Nat} {z : V} {K : Nat → List Nat → Nat → List V → Option Nat → V → Prop}
    (h : vmapAt P T s x y (fun i' bs' cl' r' res' z' => i = i' ∧ bs = bs' ∧ cl = cl' ∧ r = r' ∧ res = res' ∧ z = z')) (hK : K i bs cl r res z) : vmapAt P T s x y K := by
  unfold vmapAt at h
  split at h
  · rename_i e1
    split at h
    · rename_i e2 e3
      split at h
      · rename_i e4 e5 e6
        split at h
        · rename_i e7
          split at h
          · rename_i e8
            obtain ⟨h1, rfl, rfl, rfl, rfl, rfl, rfl⟩ := h
            unfold vmapAt; simp only [e1, e2, e3, e4, e5, e6, e7, e8]; exact ⟨h1, hK⟩
          · exact h.elim
        · exact h.elim
      · exact h.elim
    · exact h.elim
  · exact h.elim
/-- Where a key is in a map. -/
theorem vmapAt_of {T : TypeId} {kt et : TypeId} {tT tk te : TI} {ks : List EK} {kc : List C} {k z : V} {i cl : Nat} {bs : List Nat} {r : List V} {kcs : List (List C)} {res : Option Nat} {KM : Nat → List Nat → Nat → List V → Option Nat → V → Prop}
    (hT : ti P T = some tT) (hm : tT.kd = .map kt et) (hk : ti P kt = some tk) (hks : tk.eqs = some ks) (he : ti P et = some te) (hc : k.kcs tk.agg = some kc) (hz : zeroOf te = some z) (hb : s.bx i = .mk bs cl :: r)
    (hkc : keysOf tk.agg r = some kcs) (hf : findK ks kc kcs 0 = some res) (hi : i < s.nb) (hl : kc.length = ks.length) (hr : eqCs ks kc kc = some true) (ha : zaB P et = true) (hK : KM i bs cl r res z) : vmapAt P T s (.mr i) k KM := by
  obtain ⟨kd, a1, a2, a3, a4, a5, a6⟩ := tT
  obtain ⟨b1, b2, b3, ag, b5, b6, b7⟩ := tk
  simp only at hm hks hc hkc
  subst hm; subst hks
  unfold vmapAt
  simp only [hT, hk, he, hc, hz, hb, hkc, hf]
  exact ⟨⟨hi, hl, hr, ha⟩, hK⟩

theorem vmapAt_both {T : TypeId} {K K' : Nat → List Nat → Nat → List V → Option Nat → V → Prop} (h : vmapAt P T s x y K) (h' : vmapAt P T s x y K') : ∃ i bs cl r res z, K i bs cl r res z ∧ K' i bs cl r res z := by
  unfold vmapAt at h
  split at h
  · rename_i e1
    split at h
    · rename_i e2 e3
      split at h
      · rename_i e4 e5 e6
        split at h
        · rename_i e7
          split at h
          · rename_i e8
            unfold vmapAt at h'; simp only [e1, e2, e3, e4, e5, e6, e7, e8] at h'
            exact ⟨_, _, _, _, _, _, h.2, h'.2⟩
          · exact h.elim
        · exact h.elim
      · exact h.elim
    · exact h.elim
  · exact h.elim
theorem vmapAt_fr {T : TypeId} {s' : S} {K : Nat → List Nat → Nat → List V → Option Nat → V → Prop} (hb : s.bx = s'.bx) (hn : s.nb = s'.nb) (h : vmapAt P T s x y K) : vmapAt P T s' x y K := by
  unfold vmapAt at h ⊢
  rw [← hb, ← hn]; exact h
theorem vmapSet_atom {T : TypeId} {v : V} {K : S → Prop} (h : vmapSet P T s x y v K) : ∃ bx, vmapSet P T ⟨fun _ => .un, s.bx, s.nb⟩ x y v (fun s' => bx = s'.bx) ∧ K { s with bx := bx } := by
  unfold vmapSet at h
  obtain ⟨i, bs, cl, r, res, z, h1, h2⟩ := vmapAt_atom h
  cases res with
  | none => exact ⟨_, vmapAt_use (vmapAt_fr rfl rfl h1) rfl, h2⟩
  | some j => exact ⟨_, vmapAt_use (vmapAt_fr rfl rfl h1) rfl, h2⟩
theorem vmapSet_back {T : TypeId} {v : V} {bx : Nat → List V} (h : vmapSet P T ⟨fun _ => .un, s.bx, s.nb⟩ x y v (fun s' => bx = s'.bx)) : vmapSet P T s x y v (fun s' => { s with bx := bx } = s') := by
  unfold vmapSet at h
  obtain ⟨i, bs, cl, r, res, z, h1, h2⟩ := vmapAt_atom h
  cases res with
  | none => simp only at h2; subst h2; exact vmapAt_use (vmapAt_fr rfl rfl h1) rfl
  | some j => simp only at h2; subst h2; exact vmapAt_use (vmapAt_fr rfl rfl h1) rfl
theorem vmapEntry_atom {T : TypeId} {K : S → V → Prop} (h : vmapEntry P T s x y K) : ∃ bx v, vmapEntry P T ⟨fun _ => .un, s.bx, s.nb⟩ x y (fun s' u => bx = s'.bx ∧ v = u) ∧ K { s with bx := bx } v := by
  unfold vmapEntry at h
  obtain ⟨i, bs, cl, r, res, z, h1, h2⟩ := vmapAt_atom h
  cases res with
  | none => exact ⟨_, _, vmapAt_use (vmapAt_fr rfl rfl h1) ⟨rfl, rfl⟩, h2⟩
  | some j => exact ⟨s.bx, _, vmapAt_use (vmapAt_fr rfl rfl h1) ⟨rfl, rfl⟩, h2⟩
theorem vmapEntry_back {T : TypeId} {v : V} {bx : Nat → List V} (h : vmapEntry P T ⟨fun _ => .un, s.bx, s.nb⟩ x y (fun s' u => bx = s'.bx ∧ v = u)) : vmapEntry P T s x y (fun s' u => { s with bx := bx } = s' ∧ v = u) := by
  unfold vmapEntry at h
  obtain ⟨i, bs, cl, r, res, z, h1, h2⟩ := vmapAt_atom h
  cases res with
  | none => obtain ⟨rfl, rfl⟩ := h2; exact vmapAt_use (vmapAt_fr rfl rfl h1) ⟨rfl, rfl⟩
  | some j => obtain ⟨rfl, rfl⟩ := h2; exact vmapAt_use (vmapAt_fr rfl rfl h1) ⟨rfl, rfl⟩
theorem ventrySet_atom {v : V} {K : S → Prop} (h : ventrySet s x y v K) : ∃ bx, ventrySet ⟨fun _ => .un, s.bx, s.nb⟩ x y v (fun s' => bx = s'.bx) ∧ K { s with bx := bx } := by
  unfold ventrySet at h
  split at h
  · split at h
    · rename_i e2
      split at h
      · rename_i e3; exact ⟨_, by unfold ventrySet; simp only [e2, e3]; exact ⟨h.1, trivial⟩, h.2⟩
      · exact h.elim
    · exact h.elim
  · exact h.elim
theorem ventrySet_back {v : V} {bx : Nat → List V} (h : ventrySet ⟨fun _ => .un, s.bx, s.nb⟩ x y v (fun s' => bx = s'.bx)) : ventrySet s x y v (fun s' => { s with bx := bx } = s') := by
  unfold ventrySet at h
  split at h
  · split at h
    · rename_i e2
      split at h
      · rename_i e3; obtain ⟨h1, rfl⟩ := h; unfold ventrySet; simp only [show s.bx _ = _ from e2, e3]; exact ⟨h1, trivial⟩
      · exact h.elim
    · exact h.elim
  · exact h.elim
theorem vmapSet_K {T : TypeId} {v : V} {K K' : S → Prop} (h : vmapSet P T s x y v K) (hk : ∀ s, K s → K' s) : vmapSet P T s x y v K' := by
  unfold vmapSet at h
  obtain ⟨i, bs, cl, r, res, z, h1, h2⟩ := vmapAt_atom h
  refine vmapAt_use h1 ?_
  cases res <;> exact hk _ h2
theorem vmapEntry_K {T : TypeId} {K K' : S → V → Prop} (h : vmapEntry P T s x y K) (hk : ∀ s v, K s v → K' s v) : vmapEntry P T s x y K' := by
  unfold vmapEntry at h
  obtain ⟨i, bs, cl, r, res, z, h1, h2⟩ := vmapAt_atom h
  refine vmapAt_use h1 ?_
  cases res <;> exact hk _ _ h2
theorem ventrySet_K {v : V} {K K' : S → Prop} (h : ventrySet s x y v K) (hk : ∀ s, K s → K' s) : ventrySet s x y v K' := by
  unfold ventrySet at h
  split at h
  · split at h
    · rename_i e2
      split at h
      · rename_i e3; unfold ventrySet; simp only [e2, e3]; exact ⟨h.1, hk _ h.2⟩
      · exact h.elim
    · exact h.elim
  · exact h.elim
theorem vlookup_atom {T : TypeId} {ok : Bool} (h : vlookup P T s x y ok K) : ∃ v, vlookup P T s x y ok (fun u => v = u) ∧ K v := by
  unfold vlookup at h
  obtain ⟨i, bs, cl, r, res, z, h1, h2⟩ := vmapAt_atom h
  cases res with
  | none => cases ok <;> exact ⟨_, vmapAt_use h1 rfl, h2⟩
  | some j => cases ok <;> exact ⟨_, vmapAt_use h1 rfl, h2⟩
theorem vlookup_det {T : TypeId} {ok : Bool} {v u : V} (h : vlookup P T s x y ok (fun w => v = w)) (h' : vlookup P T s x y ok (fun w => u = w)) : v = u := by
  unfold vlookup at h h'
  obtain ⟨i, bs, cl, r, res, z, h1, h2⟩ := vmapAt_atom h
  obtain ⟨i', bs', cl', r', res', z', h1', h2'⟩ := vmapAt_atom h'
  have e : i' = i ∧ bs' = bs ∧ cl' = cl ∧ r' = r ∧ res' = res ∧ z' = z := by
    have := vmapAt_both h1 h1'
    obtain ⟨_, _, _, _, _, _, ⟨rfl, rfl, rfl, rfl, rfl, rfl⟩, rfl, rfl, rfl, rfl, rfl, rfl⟩ := this
    exact ⟨rfl, rfl, rfl, rfl, rfl, rfl⟩
  obtain ⟨rfl, rfl, rfl, rfl, rfl, rfl⟩ := e
  cases res' <;> cases ok <;> simp only at h2 h2' <;> (rw [show v = _ from h2, show u = _ from h2'])
theorem vrange_atom {T : TypeId} (h : vrange P T s x K) : ∃ v, vrange P T s x (fun u => v = u) ∧ K v := by
  unfold vrange at h
  split at h
  · rename_i e1
    split at h
    · rename_i e2; exact ⟨_, by unfold vrange; simp only [e1, e2]; exact ⟨h.1, trivial⟩, h.2⟩
    · exact h.elim
  · exact h.elim
theorem ventry_atom (h : ventry s x K) : ∃ v, ventry s x (fun u => v = u) ∧ K v := by
  unfold ventry at h
  split at h
  · split at h
    · rename_i e2 e3
      split at h
      · rename_i e4; exact ⟨_, by unfold ventry; simp only [e2, e3, e4]; exact ⟨h.1, trivial⟩, h.2⟩
      · exact h.elim
    · exact h.elim
  · exact h.elim

theorem VYK_atom (h : VYK P G tr o s K) : ∃ v, VYK P G tr o s (fun u => v = u) ∧ K v := by
  obtain ⟨dst, op, type, pos, after, guard⟩ := o
  cases op <;> simp only [VYK] at h ⊢ <;> try exact h.elim
  case move x =>
    split at h
    · rename_i e; simp only [if_pos e]; exact ⟨_, rfl, h⟩
    · rename_i e; simp only [if_neg e]; exact ⟨_, rfl, h⟩
  case assign x => exact ⟨_, rfl, h⟩
  case pick c a b =>
    split at h
    · exact ⟨_, rfl, h⟩
    · exact h.elim
  case build T parts => exact vbuild_atom h
  case buildSlice T len parts => exact vbuildSlice_atom h
  case load T x => exact vload_atom h
  case binOp op T x y yT => exact vbin_atom h
  case unOp op T x => exact vun_atom h
  case convert src dst x => exact vconv_atom h
  case lookup T x k ok => exact vlookup_atom h
  case range T x => exact vrange_atom h
  case entry x => exact ventry_atom h
  case makeFunc f a b => exact ⟨_, ⟨h.1, rfl⟩, h.2⟩
  case slice T x lo hi mx => exact vslice_atom h
  case fieldAddr T x f => exact vfieldAddr_atom h
  case field T x f => exact vfield_atom h
  case indexAddr T x i => exact vindexAddr_atom h
  case index T x i => exact vindex_atom h
  case extract x i =>
    split at h
    · split at h
      · exact ⟨_, rfl, h⟩
      · exact h.elim
    · exact h.elim
  case call c =>
    obtain ⟨callee, args, ts⟩ := c
    cases callee with
    | value f => exact vcall_atom h
    | invoke r m => exact h.elim
    | builtin b =>
      cases b <;> exact vbuiltin_atom h

end
end Go.Vl

/- Values without memory: regions that draw their order: one order serves every order. -/
namespace Go.Vl
open Go Go.RowKit

section
variable {P : Program} {G : Gl} {tr : List Nat} {s : S} {o : Oper} {x y : V} {ops : Array Oper} {md : Region.Mode}

/-- What an operation does to the state. -/
inductive Ef where
  | v (x : V)
  | al (cs : List V)
  | st (b k : Nat) (ds : List V)
  | gn (bx : Nat → List V) (nb : Nat) (x : V)
  | skip

def Ef.val (nb : Nat) : Ef → V
  | .v x => x
  | .al _ => .bp nb 0
  | .st _ _ _ => .sk
  | .gn _ _ x => x
  | .skip => .sk

def Ef.bx (nb : Nat) (bx : Nat → List V) : Ef → Nat → List V
  | .al cs => up bx nb cs
  | .st b k ds => up bx b (setV (bx b) k ds)
  | .gn bx' _ _ => bx'
  | _ => bx

def Ef.nb (nb : Nat) : Ef → Nat
  | .al _ => nb + 1
  | .gn _ nb' _ => nb'
  | _ => nb

def Ef.uses : Ef → Bool
  | .skip => false
  | _ => true

def useF (u : Bool) (t : Option Tmp) (fr : Nat → V) : Nat → V := match t with
  | some t => if u && (fr t).isOw then up fr t .un else fr
  | none => fr

def putF (d : Option Tmp) (x : V) (fr : Nat → V) : Nat → V := match d with
  | some d => up fr d x
  | none => fr

def Ef.run (tr : List Nat) (o : Oper) (s : S) (e : Ef) : S := ⟨putF o.dst (e.val s.nb) (useF e.uses (consT tr o) s.fr), e.bx s.nb s.bx, e.nb s.nb⟩

/-- The effect of an operation that is carried out. -/
def VEf (P : Program) (G : Gl) (tr : List Nat) (o : Oper) (s : S) (e : Ef) : Prop :=
  match o.op with
  | .alloc T => match ti P T with
    | some { zero := some z, .. } => e = .al (z.map zeroV)
    | _ => False
  | .box _ x => match (ev G s x).bcells with
    | some cs => e = .al cs
    | none => False
  | .store T p x => declV tr (ptrT p) (ev G s p) = true ∧ match ti P T, ev G s p, (ev G s x).bcells with
    | some i, .bp b k, some cs => (b < s.nb ∧ cs.length = i.size ∧ k + i.size ≤ (s.bx b).length ∧ isMb (s.bx b) = false) ∧ e = .st b k cs
    | _, _, _ => False
  | .buildSlice T len parts => if isNew tr o.dst then ∃ bx nb x, e = .gn bx nb x ∧ vbuildSlice P T len (parts.toList.map fun (i, x) => (i, ev G s x)) (vnewE s.bx s.nb len len fun b n u => (bx = b ∧ nb = n) ∧ x = u)
    else ∃ v, e = .v v ∧ VYK P G tr o s fun u => v = u
  | .makeSlice T l c => ∃ bx nb x, e = .gn bx nb x ∧ vmake P T (ev G s l) (ev G s c) fun n m sz z => (up s.bx s.nb ((List.replicate m z).flatten.map .c) = bx ∧ s.nb + 1 = nb) ∧ V.ms s.nb 0 n m sz = x
  | .call { callee := .value f, args := args, .. } => if isMut tr o.dst then ∃ bx nb x, e = .gn bx nb x ∧ vcallE P G s.bx s.nb (ev G s f) (args.toList.map (ev G s)) (fun b n u => (bx = b ∧ nb = n) ∧ x = u)
    else ∃ v, e = .v v ∧ VYK P G tr o s fun u => v = u
  | .load _ x => ∃ v, e = .v v ∧ declV tr o.dst (ev G s x) = true ∧ VYK P G tr o s fun u => v = u
  | .mapUpdate T m k x => ∃ bx, e = .gn bx s.nb .sk ∧ vmapSet P T ⟨fun _ => .un, s.bx, s.nb⟩ (ev G s m) (ev G s k) (ev G s x) fun s' => bx = s'.bx
  | .mapEntry T m k => ∃ bx v, e = .gn bx s.nb v ∧ vmapEntry P T ⟨fun _ => .un, s.bx, s.nb⟩ (ev G s m) (ev G s k) fun s' u => bx = s'.bx ∧ v = u
  | .entryStore _ m n x => ∃ bx, e = .gn bx s.nb .sk ∧ ventrySet ⟨fun _ => .un, s.bx, s.nb⟩ (ev G s m) (ev G s n) (ev G s x) fun s' => bx = s'.bx
  | _ => ∃ v, e = .v v ∧ VYK P G tr o s fun u => v = u

theorem run_v (v : V) : (Ef.v v).run tr o s = s.after tr o v := by
  unfold Ef.run S.after S.use S.put useF putF
  cases consT tr o with
  | none => cases o.dst <;> rfl
  | some t => by_cases h : (s.fr t).isOw = true <;> cases o.dst <;> simp [h, Ef.uses, S.clr, Ef.val, Ef.bx, Ef.nb]

theorem run_al (cs : List V) : (Ef.al cs).run tr o s = (let s' := s.use (consT tr o); { s' with bx := up s'.bx s'.nb cs, nb := s'.nb + 1 } : S).put o.dst (.bp s.nb 0) := by
  unfold Ef.run S.use S.put useF putF
  cases consT tr o with
  | none => cases o.dst <;> rfl
  | some t => by_cases h : (s.fr t).isOw = true <;> cases o.dst <;> simp [h, Ef.uses, S.clr, Ef.val, Ef.bx, Ef.nb]

theorem run_st (b k : Nat) (ds : List V) : (Ef.st b k ds).run tr o s = (let s' := s.use (consT tr o); { s' with bx := up s'.bx b (setV (s'.bx b) k ds) } : S).put o.dst .sk := by
  unfold Ef.run S.use S.put useF putF
  cases consT tr o with
  | none => cases o.dst <;> rfl
  | some t => by_cases h : (s.fr t).isOw = true <;> cases o.dst <;> simp [h, Ef.uses, S.clr, Ef.val, Ef.bx, Ef.nb]

theorem run_gn (bx : Nat → List V) (nb : Nat) (x : V) : (Ef.gn bx nb x).run tr o s = (let s' := s.use (consT tr o); { s' with bx := bx, nb := nb } : S).put o.dst x := by
  unfold Ef.run S.use S.put useF putF
  cases consT tr o with
  | none => cases o.dst <;> rfl
  | some t => by_cases h : (s.fr t).isOw = true <;> cases o.dst <;> simp [h, Ef.uses, S.clr, Ef.val, Ef.bx, Ef.nb]

theorem vbuildSlice_of {T : TypeId} {len : Nat} {parts : List (Nat × V)} {v : V} {K : V → Prop} (h : vbuildSlice P T len parts (fun u => v = u)) (hk : ∀ u, v = u → K u) : vbuildSlice P T len parts K := by
  unfold vbuildSlice at h
  split at h
  · rename_i e1
    split at h
    · rename_i e2
      obtain ⟨h0, h⟩ := h
      split at h
      · rename_i e3
        unfold vbuildSlice
        simp only [e1, e2, e3]
        exact ⟨h0, hk _ h⟩
      · exact h.elim
    · exact h.elim
  · exact h.elim

theorem vcallE_of {bx : Nat → List V} {nb : Nat} {f : V} {l : List V} {K K' : (Nat → List V) → Nat → V → Prop} (h : vcallE P G bx nb f l K) (hk : ∀ b n u, K b n u → K' b n u) : vcallE P G bx nb f l K' := by
  unfold vcallE at h
  split at h
  · rename_i e1
    unfold vcallE
    simp only [e1]
    obtain ⟨ρ, cargs, b0, r, b1, h1, h2, h3, h4, h5⟩ := h
    exact ⟨ρ, cargs, b0, r, b1, h1, h2, h3, h4, hk _ _ _ h5⟩
  · exact h.elim

theorem vmake_of {T : TypeId} {l c : V} {K K' : Nat → Nat → Nat → List C → Prop} (h : vmake P T l c K) (hk : ∀ n m sz z, K n m sz z → K' n m sz z) : vmake P T l c K' := by
  unfold vmake at h
  split at h
  · rename_i e1
    split at h
    · rename_i e2
      unfold vmake
      simp only [e1, e2]
      exact ⟨h.1, hk _ _ _ _ h.2⟩
    · exact h.elim
  · exact h.elim

theorem run_skip : Ef.skip.run tr o s = s.put o.dst .sk := by
  unfold Ef.run S.put useF putF
  cases consT tr o <;> cases o.dst <;> simp [Ef.uses, Ef.val, Ef.bx, Ef.nb]

theorem VStep.ef {K : S → Prop} (hAN : isAN tr o = false) (h : VStep P G tr o s K) : ∃ e, e ≠ .skip ∧ VEf P G tr o s e ∧ K (e.run tr o s) := by
  have gen : VYK P G tr o s (fun v => K (s.after tr o v)) → (∀ e, VEf P G tr o s e ↔ ∃ v, e = .v v ∧ VYK P G tr o s fun u => v = u) → ∃ e, e ≠ .skip ∧ VEf P G tr o s e ∧ K (e.run tr o s) := fun h hV => by
    obtain ⟨v, h1, h2⟩ := VYK_atom h
    exact ⟨.v v, by simp, (hV _).2 ⟨v, rfl, h1⟩, by rw [run_v]; exact h2⟩
  unfold VStep at h
  split at h
  · rename_i T hop
    split at h
    · rename_i z _ _ hi
      refine ⟨.al (z.map zeroV), by simp, by unfold VEf; rw [hop]; simp only [hi], ?_⟩
      rw [run_al]
      have : consT tr o = none := by simp [consT, hop]
      rw [this]; exact h
    · exact h.elim
  · rename_i T X hop
    split at h
    · rename_i cs hi
      refine ⟨.al cs, by simp, by unfold VEf; rw [hop]; simp only [hi], ?_⟩
      rw [run_al]; exact h
    · exact h.elim
  · rename_i T p X hop
    obtain ⟨hdec, h⟩ := h
    split at h
    · rename_i i b k cs h1 h2 h3
      obtain ⟨h4, h⟩ := h
      refine ⟨.st b k cs, by simp, by unfold VEf; rw [hop]; simp only [h1, h2, h3]; rw [h2] at hdec; exact ⟨hdec, h4, trivial⟩, ?_⟩
      rw [run_st]; exact h
    · exact h.elim
  · rename_i T len parts hop
    split at h
    · rename_i hn
      obtain ⟨v, h1, h2⟩ := vbuildSlice_atom h
      obtain ⟨bx, nb, x, h3, h4⟩ := vnewE_atom h2
      refine ⟨.gn bx nb x, by simp, ?_, ?_⟩
      · unfold VEf; rw [hop]; simp only [hn, if_true]
        refine ⟨bx, nb, x, rfl, ?_⟩
        refine vbuildSlice_of h1 fun u hu => ?_
        subst hu; exact h3
      · rw [run_gn]
        have : consT tr o = none := by simp [consT, hop]
        rw [this]; exact h4
    · rename_i hn
      refine gen h fun e => ?_
      unfold VEf; rw [hop]; simp only [if_neg hn]
  · rename_i T l c hop
    obtain ⟨p, m, sz, z, h1, h2⟩ := vmake_atom h
    refine ⟨.gn (up s.bx s.nb ((List.replicate m z).flatten.map .c)) (s.nb + 1) (.ms s.nb 0 p m sz), by simp, ?_, ?_⟩
    · unfold VEf; rw [hop]
      refine ⟨_, _, _, rfl, ?_⟩
      refine vmake_of h1 fun n' m' sz' z' hh => ?_
      obtain ⟨rfl, rfl, rfl, rfl⟩ := hh
      exact ⟨⟨rfl, rfl⟩, rfl⟩
    · rw [run_gn]
      have : consT tr o = none := by simp [consT, hop]
      rw [this]; exact h2
  · rename_i f args ts hop
    split at h
    · rename_i hn
      obtain ⟨bx, nb, x, h3, h4⟩ := vcallE_atom h
      refine ⟨.gn bx nb x, by simp, ?_, ?_⟩
      · unfold VEf; rw [hop]; simp only [hn, if_true]
        exact ⟨bx, nb, x, rfl, h3⟩
      · rw [run_gn]
        have : consT tr o = none := by simp [consT, hop]
        rw [this]; exact h4
    · rename_i hn
      refine gen h fun e => ?_
      unfold VEf; rw [hop]; simp only [if_neg hn]
  · rename_i args ts hop
    have hn : isNew tr o.dst = false := by simpa [isAN, hop] using hAN
    simp only [hn, Bool.false_eq_true, if_false] at h
    refine gen h fun e => ?_
    unfold VEf; rw [hop]
  · rename_i op T X Y yT hop
    have hn : isNilOp Y = false := by simpa [isAN, hop] using hAN
    simp only [hn, Bool.false_eq_true, if_false] at h
    refine gen h fun e => ?_
    unfold VEf; rw [hop]
  · rename_i T X hop
    have hn : isZ tr o.dst = false := by simpa [isAN, hop] using hAN
    simp only [hn, Bool.false_eq_true, if_false] at h
    obtain ⟨hdec, h⟩ := h
    obtain ⟨v, h1, h2⟩ := VYK_atom h
    exact ⟨.v v, by simp, by unfold VEf; rw [hop]; exact ⟨v, rfl, hdec, h1⟩, by rw [run_v]; exact h2⟩
  · rename_i T parts hop
    have hn : isZ tr o.dst = false := by simpa [isAN, hop] using hAN
    simp only [hn, Bool.false_eq_true, if_false] at h
    refine gen h fun e => ?_
    unfold VEf; rw [hop]
  · rename_i hop; simp [isAN, hop] at hAN
  · rename_i T m k X hop
    obtain ⟨bx, h1, h2⟩ := vmapSet_atom h
    refine ⟨.gn bx s.nb .sk, by simp, by unfold VEf; rw [hop]; exact ⟨bx, rfl, h1⟩, ?_⟩
    have : consT tr o = none := by simp [consT, hop]
    rw [run_gn, this]; exact h2
  · rename_i T m k hop
    obtain ⟨bx, v, h1, h2⟩ := vmapEntry_atom h
    refine ⟨.gn bx s.nb v, by simp, by unfold VEf; rw [hop]; exact ⟨bx, v, rfl, h1⟩, ?_⟩
    have : consT tr o = none := by simp [consT, hop]
    rw [run_gn, this]; exact h2
  · rename_i T m k X hop
    obtain ⟨bx, h1, h2⟩ := ventrySet_atom h
    refine ⟨.gn bx s.nb .sk, by simp, by unfold VEf; rw [hop]; exact ⟨bx, rfl, h1⟩, ?_⟩
    have : consT tr o = none := by simp [consT, hop]
    rw [run_gn, this]; exact h2
  · rename_i hop; simp [isAN, hop] at hAN
  · rename_i n1 n2 n3 n4 n5 n6 n7 n8 n9 n10 n11 n12 n13 n14 n15
    refine gen h fun e => ?_
    unfold VEf
    split
    · rename_i hop; exact absurd hop (n1 _)
    · rename_i hop; exact absurd hop (n2 _ _)
    · rename_i hop; exact absurd hop (n3 _ _ _)
    · rename_i hop; exact absurd hop (n4 _ _ _)
    · rename_i hop; exact absurd hop (n5 _ _ _)
    · rename_i hop; exact absurd hop (n6 _ _ _)
    · rename_i hop; exact absurd hop (n9 _ _)
    · rename_i hop; exact absurd hop (n12 _ _ _ _)
    · rename_i hop; exact absurd hop (n13 _ _ _)
    · rename_i hop; exact absurd hop (n14 _ _ _ _)
    · exact Iff.rfl

variable {n : Nat} {I0 : Ft} {M : Mx} {w0 : World} {I : Ft} {β : Nat → Option Nat} {ob : Loc → Option Nat} {a : Act} {w : World} {next : Act → World → Prop} {Q : Exit → Act → World → Prop}

theorem VEf_sound {e : Ef} (hst : St G n I0 M w0 I β ob s a w) (hd : ∀ d, o.dst = some d → d < n) (h : VEf P G tr o s e)
    (hk : ∀ a' w', SE G n I0 M w0 (e.run tr o s) a' w' → next a' w') : o.wp P a w next Q := by
  have viaStep : VStep P G tr o s (fun s' => e.run tr o s = s') → o.wp P a w next Q := fun h =>
    VStep_sound (tr := tr) hst hd h (fun a' w' s' hs hse => hk a' w' (by rw [hs]; exact hse))
  unfold VEf at h
  split at h
  · rename_i T hop
    split at h
    · rename_i z _ _ hi
      subst h
      refine viaStep ?_
      unfold VStep
      rw [hop]
      simp only [hi]
      rw [run_al]
      have : consT tr o = none := by simp [consT, hop]
      rw [this]; rfl
    · exact h.elim
  · rename_i T X hop
    split at h
    · rename_i cs hi
      subst h
      refine viaStep ?_
      unfold VStep
      rw [hop]
      simp only [hi]
      rw [run_al]
    · exact h.elim
  · rename_i T p X hop
    obtain ⟨hdec, h⟩ := h
    split at h
    · rename_i i b k cs h1 h2 h3
      obtain ⟨h4, rfl⟩ := h
      refine viaStep ?_
      unfold VStep
      rw [hop]
      simp only [h1, h2, h3]
      rw [run_st]
      rw [h2] at hdec
      exact ⟨hdec, h4, rfl⟩
    · exact h.elim
  · rename_i T len parts hop
    split at h
    · rename_i hn
      obtain ⟨bx, nb, x, rfl, h⟩ := h
      refine viaStep ?_
      unfold VStep
      rw [hop]
      simp only [hn, if_true]
      have : consT tr o = none := by simp [consT, hop]
      rw [run_gn, this]
      obtain ⟨v, h1, h2⟩ := vbuildSlice_atom h
      refine vbuildSlice_of h1 fun u hu => ?_
      subst hu
      obtain ⟨b, n, y, h3, ⟨rfl, rfl⟩, rfl⟩ := vnewE_atom h2
      unfold vnew
      unfold vnewE at h3 ⊢
      split at h3
      · obtain ⟨⟨rfl, rfl⟩, rfl⟩ := h3; rfl
      · exact h3.elim
    · rename_i hn
      obtain ⟨v, rfl, h⟩ := h
      exact VYK_sound (tr := tr) hst hd h (fun a' w' x hx hse => hk a' w' (by rw [run_v]; subst hx; exact hse))
  · rename_i T l c hop
    obtain ⟨bx, nb, x, rfl, h⟩ := h
    refine viaStep ?_
    unfold VStep
    rw [hop]
    have : consT tr o = none := by simp [consT, hop]
    rw [run_gn, this]
    refine vmake_of h fun n m sz z hh => ?_
    obtain ⟨⟨rfl, rfl⟩, rfl⟩ := hh
    rfl
  · rename_i f args ts hop
    split at h
    · rename_i hn
      obtain ⟨bx, nb, x, rfl, h⟩ := h
      refine viaStep ?_
      unfold VStep
      rw [hop]
      simp only [hn, if_true]
      have : consT tr o = none := by simp [consT, hop]
      rw [run_gn, this]
      refine vcallE_of h fun b n u hh => ?_
      obtain ⟨⟨rfl, rfl⟩, rfl⟩ := hh
      rfl
    · rename_i hn
      obtain ⟨v, rfl, h⟩ := h
      exact VYK_sound (tr := tr) hst hd h (fun a' w' x hx hse => hk a' w' (by rw [run_v]; subst hx; exact hse))
  · obtain ⟨v, rfl, _, h⟩ := h
    exact VYK_sound (tr := tr) hst hd h (fun a' w' x hx hse => hk a' w' (by rw [run_v]; subst hx; exact hse))
  · rename_i T m k X hop
    obtain ⟨bx, rfl, h⟩ := h
    refine viaStep ?_
    have : consT tr o = none := by simp [consT, hop]
    rw [run_gn, this]
    unfold VStep
    rw [hop]
    exact vmapSet_K (vmapSet_back h) fun s' e => by rw [← e]; rfl
  · rename_i T m k hop
    obtain ⟨bx, v, rfl, h⟩ := h
    refine viaStep ?_
    have : consT tr o = none := by simp [consT, hop]
    rw [run_gn, this]
    unfold VStep
    rw [hop]
    exact vmapEntry_K (vmapEntry_back h) fun s' u e => by rw [← e.1, ← e.2]; rfl
  · rename_i T m k X hop
    obtain ⟨bx, rfl, h⟩ := h
    refine viaStep ?_
    have : consT tr o = none := by simp [consT, hop]
    rw [run_gn, this]
    unfold VStep
    rw [hop]
    exact ventrySet_K (ventrySet_back h) fun s' e => by rw [← e]; rfl
  · obtain ⟨v, rfl, h⟩ := h
    exact VYK_sound (tr := tr) hst hd h (fun a' w' x hx hse => hk a' w' (by rw [run_v]; subst hx; exact hse))

/-- Does an operation look at boxes (1), or change them (2)? -/
def opMem (tr : List Nat) (o : Oper) : Nat :=
  match o.op with
  | .load _ _ | .convert _ _ _ | .lookup _ _ _ _ | .range _ _ | .entry _ | .call { callee := .builtin .append, .. } => 1
  | .call { callee := .value _, .. } => if isMut tr o.dst then 2 else 1
  | .buildSlice _ _ _ => if isNew tr o.dst then 2 else 0
  | .alloc _ | .box _ _ | .store _ _ _ | .makeSlice _ _ _ | .mapUpdate _ _ _ _ | .mapEntry _ _ _ | .entryStore _ _ _ _ => 2
  | _ => 0

theorem ev_congr {s' : S} {x : Operand} (h : ∀ t, x = .tmp t → s.fr t = s'.fr t) : ev G s x = ev G s' x := by
  cases x <;> simp only [ev]
  exact h _ rfl

theorem imm_mem {s' : S} (hb : s.bx = s'.bx) (hn : s.nb = s'.nb) : imm s = imm s' := by
  obtain ⟨fr, bx, nb⟩ := s
  obtain ⟨fr', bx', nb'⟩ := s'
  simp only at hb hn
  subst hb; subst hn
  funext x
  cases x <;> rfl

theorem vw_mem {s' : S} (hb : s.bx = s'.bx) (hn : s.nb = s'.nb) : vw s = vw s' := by
  obtain ⟨fr, bx, nb⟩ := s
  obtain ⟨fr', bx', nb'⟩ := s'
  simp only at hb hn
  subst hb; subst hn
  funext x
  cases x <;> rfl

theorem VYK_congr {s' : S} {K : V → Prop} (he : ∀ x ∈ o.op.operands, ev G s x = ev G s' x) (hm : opMem tr o ≠ 0 → s.bx = s'.bx ∧ s.nb = s'.nb) (h : VYK P G tr o s K) : VYK P G tr o s' K := by
  have marr : ∀ l : Array Operand, (∀ x ∈ l, ev G s x = ev G s' x) → l.toList.map (ev G s) = l.toList.map (ev G s') := fun l hl => List.map_congr_left fun x hx => hl x (by simpa using hx)
  have mopt : ∀ l : Option Operand, (∀ x, l = some x → ev G s x = ev G s' x) → l.map (ev G s) = l.map (ev G s') := fun l hl => by cases l with
    | none => rfl
    | some x => simp only [Option.map_some, hl x rfl]
  obtain ⟨dst, op, type, pos, after, guard⟩ := o
  cases op <;> simp only [VYK] at h ⊢ <;> try exact h
  case move x => rw [← he x (by simp [Op.operands])]; exact h
  case assign x => rw [← he x (by simp [Op.operands])]; exact h
  case pick c a b => rw [← he c (by simp [Op.operands]), ← he a (by simp [Op.operands]), ← he b (by simp [Op.operands])]; exact h
  case build T parts =>
    have : (parts.toList.map fun (i, x) => (i, ev G s' x)) = parts.toList.map fun (i, x) => (i, ev G s x) := List.map_congr_left fun p hp => by
      obtain ⟨i, x⟩ := p
      simp only [he x (by simp only [Op.operands, List.mem_toArray, List.mem_map]; exact ⟨(i, x), hp, rfl⟩)]
    rw [this]; exact h
  case buildSlice T len parts =>
    have : (parts.toList.map fun (i, x) => (i, ev G s' x)) = parts.toList.map fun (i, x) => (i, ev G s x) := List.map_congr_left fun p hp => by
      obtain ⟨i, x⟩ := p
      simp only [he x (by simp only [Op.operands, List.mem_toArray, List.mem_map]; exact ⟨(i, x), hp, rfl⟩)]
    rw [this]; exact h
  case load T x =>
    obtain ⟨h1, h2⟩ := hm (by simp [opMem])
    rw [← he x (by simp [Op.operands])]
    unfold vload at h ⊢
    rw [← h1, ← h2]; exact h
  case lookup T x k ok =>
    obtain ⟨h1, h2⟩ := hm (by simp [opMem])
    rw [← he x (by simp [Op.operands]), ← he k (by simp [Op.operands])]
    unfold vlookup vmapAt at h ⊢
    rw [← h1, ← h2]; exact h
  case range T x =>
    obtain ⟨h1, h2⟩ := hm (by simp [opMem])
    rw [← he x (by simp [Op.operands])]
    unfold vrange at h ⊢
    rw [← h1, ← h2]; exact h
  case entry x =>
    obtain ⟨h1, h2⟩ := hm (by simp [opMem])
    rw [← he x (by simp [Op.operands])]
    unfold ventry at h ⊢
    rw [← h1, ← h2]; exact h
  case binOp op T x y yT => rw [← he x (by simp [Op.operands]), ← he y (by simp [Op.operands])]; exact h
  case unOp op T x => rw [← he x (by simp [Op.operands])]; exact h
  case convert src dst x =>
    obtain ⟨h1, h2⟩ := hm (by simp [opMem])
    rw [← he x (by simp [Op.operands]), ← vw_mem h1 h2]; exact h
  case makeFunc f a b => rw [← marr a fun x hx => he x (by simp [Op.operands, hx]), ← marr b fun x hx => he x (by simp [Op.operands, hx])]; exact h
  case slice T x lo hi mx =>
    rw [← he x (by simp [Op.operands]), ← mopt lo fun x hx => he x (by simp [Op.operands, hx]), ← mopt hi fun x hx => he x (by simp [Op.operands, hx]), ← mopt mx fun x hx => he x (by simp [Op.operands, hx])]; exact h
  case fieldAddr T x f => rw [← he x (by simp [Op.operands])]; exact h
  case field T x f => rw [← he x (by simp [Op.operands])]; exact h
  case indexAddr T x i => rw [← he x (by simp [Op.operands]), ← he i (by simp [Op.operands])]; exact h
  case index T x i => rw [← he x (by simp [Op.operands]), ← he i (by simp [Op.operands])]; exact h
  case extract x i => rw [← he x (by simp [Op.operands])]; exact h
  case call c =>
    obtain ⟨callee, args, ts⟩ := c
    cases callee with
    | value f =>
      simp only at h ⊢
      obtain ⟨h1, h2⟩ := hm (by simp only [opMem]; split <;> simp)
      rw [← he f (by simp [Op.operands, Call.operands]), ← marr args fun x hx => he x (by simp [Op.operands, Call.operands, hx])]
      unfold vcall at h ⊢
      rw [← imm_mem h1 h2]; exact h
    | invoke r m => exact h
    | builtin b =>
      cases b
      case append =>
        simp only at h ⊢
        obtain ⟨h1, h2⟩ := hm (by simp [opMem])
        have : (args.toList.map fun x => vw s' (ev G s' x)) = args.toList.map fun x => vw s (ev G s x) := List.map_congr_left fun x hx => by
          rw [vw_mem h1 h2, he x (by simp only [Op.operands, Call.operands]; simpa using hx)]
        rw [this]; exact h
      all_goals
        simp only at h ⊢
        rw [← marr args fun x hx => he x (by simp [Op.operands, Call.operands, hx])]; exact h

theorem VEf_congr {s' : S} {e : Ef} (he : ∀ x ∈ o.op.operands, ev G s x = ev G s' x) (hm : opMem tr o ≠ 0 → s.bx = s'.bx ∧ s.nb = s'.nb) (h : VEf P G tr o s e) : VEf P G tr o s' e := by
  unfold VEf at h ⊢
  split at h
  · exact h
  · rename_i T X hop
    rw [← he X (by rw [hop]; simp [Op.operands])]; exact h
  · rename_i T p X hop
    obtain ⟨h1, h2⟩ := hm (by simp [opMem, hop])
    rw [← he p (by rw [hop]; simp [Op.operands]), ← he X (by rw [hop]; simp [Op.operands]), ← h1, ← h2]; exact h
  · rename_i T len parts hop
    have : (parts.toList.map fun (i, x) => (i, ev G s' x)) = parts.toList.map fun (i, x) => (i, ev G s x) := List.map_congr_left fun p hp => by
      obtain ⟨i, x⟩ := p
      simp only [he x (by rw [hop]; simp only [Op.operands, List.mem_toArray, List.mem_map]; exact ⟨(i, x), hp, rfl⟩)]
    split at h
    · rename_i hn
      rw [if_pos hn]
      obtain ⟨h1, h2⟩ := hm (by simp [opMem, hop, hn])
      rw [this, ← h1, ← h2]; exact h
    · rename_i hn
      rw [if_neg hn]
      obtain ⟨v, h1, h2⟩ := h
      exact ⟨v, h1, VYK_congr he hm h2⟩
  · rename_i T l c hop
    obtain ⟨h1, h2⟩ := hm (by simp [opMem, hop])
    rw [← he l (by rw [hop]; simp [Op.operands]), ← he c (by rw [hop]; simp [Op.operands]), ← h1, ← h2]; exact h
  · rename_i f args ts hop
    split at h
    · rename_i hn
      rw [if_pos hn]
      obtain ⟨h1, h2⟩ := hm (by simp [opMem, hop, hn])
      have : args.toList.map (ev G s) = args.toList.map (ev G s') := List.map_congr_left fun x hx => he x (by rw [hop]; simp only [Op.operands, Call.operands]; simp at hx; simp [hx])
      rw [← he f (by rw [hop]; simp [Op.operands, Call.operands]), ← this, ← h1, ← h2]; exact h
    · rename_i hn
      rw [if_neg hn]
      obtain ⟨v, h1, h2⟩ := h
      exact ⟨v, h1, VYK_congr he hm h2⟩
  · rename_i T X hop
    obtain ⟨v, h1, hdec, h2⟩ := h
    exact ⟨v, h1, by rw [← he X (by rw [hop]; simp [Op.operands])]; exact hdec, VYK_congr he hm h2⟩
  · rename_i T m k X hop
    obtain ⟨h1, h2⟩ := hm (by simp [opMem, hop])
    rw [← he m (by rw [hop]; simp [Op.operands]), ← he k (by rw [hop]; simp [Op.operands]), ← he X (by rw [hop]; simp [Op.operands]), ← h1, ← h2]; exact h
  · rename_i T m k hop
    obtain ⟨h1, h2⟩ := hm (by simp [opMem, hop])
    rw [← he m (by rw [hop]; simp [Op.operands]), ← he k (by rw [hop]; simp [Op.operands]), ← h1, ← h2]; exact h
  · rename_i T m k X hop
    obtain ⟨h1, h2⟩ := hm (by simp [opMem, hop])
    rw [← he m (by rw [hop]; simp [Op.operands]), ← he k (by rw [hop]; simp [Op.operands]), ← he X (by rw [hop]; simp [Op.operands]), ← h1, ← h2]; exact h
  · obtain ⟨v, h1, h2⟩ := h
    exact ⟨v, h1, VYK_congr he hm h2⟩

def gval (ops : Array Oper) (o : Oper) (s : S) : Option Bool :=
  match o.guard with
  | none => some true
  | some (j, want) => match (ops[j]?).bind (·.dst) with
    | some d => match s.fr d with
      | .c (.lit (.bool p)) => some (p == want)
      | .sk => some false
      | _ => none
    | none => none

/-- The effect of an operation, carried out or passed over. -/
def TEf (P : Program) (G : Gl) (tr : List Nat) (ops : Array Oper) (o : Oper) (s : S) (e : Ef) : Prop :=
  (gval ops o s = some true ∧ VEf P G tr o s e ∧ e ≠ .skip) ∨ (gval ops o s = some false ∧ e = .skip)

theorem TEf_of_guard {K : S → Prop} (hAN : isAN tr o = false) (h : vguard ops o s (fun s => VStep P G tr o s K) (fun s => K (s.put o.dst .sk))) : ∃ e, TEf P G tr ops o s e ∧ K (e.run tr o s) := by
  unfold vguard at h
  have yes : gval ops o s = some true → VStep P G tr o s K → ∃ e, TEf P G tr ops o s e ∧ K (e.run tr o s) := fun hg hv => by
    obtain ⟨e, h1, h2, h3⟩ := hv.ef hAN
    exact ⟨e, .inl ⟨hg, h2, h1⟩, h3⟩
  have no : gval ops o s = some false → K (s.put o.dst .sk) → ∃ e, TEf P G tr ops o s e ∧ K (e.run tr o s) := fun hg hv => ⟨.skip, .inr ⟨hg, rfl⟩, by rw [run_skip]; exact hv⟩
  split at h
  · rename_i hg
    exact yes (by unfold gval; rw [hg]) h
  · rename_i j want hg
    split at h
    · rename_i d hd
      split at h
      · rename_i p hp
        by_cases hpw : p = want
        · subst hpw
          have := h.1 rfl
          rw [S.up_id hp] at this
          exact yes (by unfold gval; simp only [hg, hd, hp, beq_self_eq_true]) this
        · have hpn : p = !want := by cases p <;> cases want <;> simp_all
          have := h.2 hpn
          rw [← hpn, S.up_id hp] at this
          exact no (by unfold gval; simp only [hg, hd, hp]; simpa using hpw) this
      · rename_i hp
        exact no (by unfold gval; simp only [hg, hd, hp]) h
      · exact h.elim
    · exact h.elim

theorem gval_wanted (hst : St G n I0 M w0 I β ob s a w) {p : Bool} (h : gval ops o s = some p) : Region.wanted o (yielded ops a.tmps) = p := by
  unfold gval at h
  unfold Region.wanted
  split at h
  · rename_i hg; rw [hg]; simpa using h
  · rename_i j want hg
    rw [hg]
    split at h
    · rename_i d hd
      split at h
      · rename_i q hq
        simp only [yielded_bool hst hd hq]
        simp only [Option.some.injEq] at h
        rw [← h]; cases q <;> cases want <;> rfl
      · rename_i hq
        simp only [yielded_sk hst hd hq]
        simp only [Option.some.injEq] at h
        rw [← h]; rfl
      · cases h
    · cases h

/-- The operation number i comes up. -/
def vopI (P : Program) (G : Gl) (tr : List Nat) (ops : Array Oper) (i : Nat) (K : S → Prop) (s : S) : Prop :=
  match ops[i]? with
  | none => K s
  | some o => ∃ e, TEf P G tr ops o s e ∧ K (e.run tr o s)

theorem vopI_mono {i : Nat} {K K' : S → Prop} (h : ∀ s, K s → K' s) (hh : vopI P G tr ops i K s) : vopI P G tr ops i K' s := by
  unfold vopI at *
  split
  · simp_all
  · rename_i ho
    simp only [ho] at hh
    obtain ⟨e, h1, h2⟩ := hh
    exact ⟨e, h1, h _ h2⟩

/-- Whatever order is picked from here on. -/
def vAny (P : Program) (G : Gl) (tr : List Nat) (md : Region.Mode) (ops : Array Oper) (K : S → Prop) : Nat → Array Bool → S → Prop
  | 0, listed, s => Region.ready md ops listed = [] ∧ K s
  | fuel + 1, listed, s =>
    (Region.ready md ops listed = [] → K s) ∧
    ∀ i ∈ Region.ready md ops listed, vopI P G tr ops i (vAny P G tr md ops K fuel (listed.setIfInBounds i true)) s

theorem vAny_sound (hok : dstOk n ops = true) {K : S → Prop} (hK : ∀ a w s, K s → SE G n I0 M w0 s a w → Q .normal a w) : ∀ (fuel : Nat) (listed : Array Bool) (s : S) (a : Act) (w : World),
    vAny P G tr md ops K fuel listed s → SE G n I0 M w0 s a w → wpAny P md ops Q fuel listed a w
  | 0, _, _, _, _, h, hse => ⟨h.1, hK _ _ _ h.2 hse⟩
  | fuel + 1, _, s, a, w, h, hse => by
    refine ⟨fun h0 => hK _ _ _ (h.1 h0) hse, fun i hi => ?_⟩
    have hh := h.2 i hi
    unfold vopI at hh
    unfold wpOp
    split
    · rename_i ho; simp only [ho] at hh; exact vAny_sound hok hK fuel _ s a w hh hse
    · rename_i o ho
      simp only [ho] at hh
      obtain ⟨e, he, hh⟩ := hh
      have hmem : o ∈ ops.toList := by
        have := Array.mem_of_getElem? ho
        simpa using this
      obtain ⟨I, β, ob, hst⟩ := hse
      rcases he with ⟨hg, hv, _⟩ | ⟨hg, rfl⟩
      · rw [if_pos (gval_wanted hst hg)]
        exact .inl (VEf_sound hst (dstOk_spec hok hmem) hv fun a' w' hse' => vAny_sound hok hK fuel _ _ a' w' hh hse')
      · rw [gval_wanted hst hg]
        simp only [Bool.false_eq_true, if_false]
        rw [run_skip] at hh
        exact vAny_sound hok hK fuel _ _ _ w hh (SE.put hst (dstOk_spec hok hmem) (by simp only [LR]; exact .sk))

/-! ### Two operations that have nothing to do with each other -/

def wr (tr : List Nat) (o : Oper) : List Tmp := o.dst.toList ++ (consT tr o).toList

/-- A read of one box, a store into another one, by what 'tr' says. -/
def lsApart (tr : List Nat) (x y : Oper) : Bool := match x.op, x.dst, y.op with
  | .load _ _, some d, .store _ (.tmp t) _ => tr.contains (200000 + d) && tr.contains (200000 + t) && (List.range 100).all fun b => !(tr.contains (300000 + d * 100 + b) && tr.contains (300000 + t * 100 + b))
  | _, _, _ => false

/-- A read of a map's entry without the second result, and the entry's being made: of one map at one key. -/
def lkApart (x y : Oper) : Bool := match x.op, y.op with
  | .lookup T (.tmp m) (.tmp k) false, .mapEntry U (.tmp m') (.tmp k') => T == U && m == m' && k == k'
  | _, _ => false

def apartV (tr : List Nat) (ops : Array Oper) (x y : Oper) : Bool :=
  ((wr tr x).all fun d => !(y.looksAt ops).contains d && !(wr tr y).contains d) && ((wr tr y).all fun d => !(x.looksAt ops).contains d) &&
  ((opMem tr x != 2 || opMem tr y == 0 || (lsApart tr y x || lkApart y x)) && (opMem tr y != 2 || opMem tr x == 0 || (lsApart tr x y || lkApart x y)))

structure Apart (tr : List Nat) (ops : Array Oper) (x y : Oper) : Prop where
  xy : ∀ d ∈ wr tr x, d ∉ y.looksAt ops
  ww : ∀ d ∈ wr tr x, d ∉ wr tr y
  yx : ∀ d ∈ wr tr y, d ∉ x.looksAt ops
  mx : opMem tr x = 2 → opMem tr y = 0 ∨ lsApart tr y x = true ∨ lkApart y x = true
  my : opMem tr y = 2 → opMem tr x = 0 ∨ lsApart tr x y = true ∨ lkApart x y = true

theorem apartV_spec {x y : Oper} (h : apartV tr ops x y = true) : Apart tr ops x y := by
  simp only [apartV, Bool.and_eq_true, List.all_eq_true, Bool.not_eq_true', List.contains_eq_mem, decide_eq_false_iff_not, Bool.or_eq_true, bne_iff_ne, beq_iff_eq] at h
  obtain ⟨⟨h1, h2⟩, h3, h4⟩ := h
  exact ⟨fun d hd => (h1 d hd).1, fun d hd => (h1 d hd).2, h2, fun h => by rcases h3 with (h3 | h3) | h3; exact absurd h h3; exact .inl h3; exact .inr h3,
    fun h => by rcases h4 with (h4 | h4) | h4; exact absurd h h4; exact .inl h4; exact .inr h4⟩

def slotF (tr : List Nat) (o : Oper) (u : Bool) (x : V) (fr : Nat → V) : Nat → V := putF o.dst x (useF u (consT tr o) fr)

theorem useF_apply (u : Bool) (c : Option Tmp) (fr : Nat → V) (t : Nat) : useF u c fr t = if c = some t ∧ u = true ∧ (fr t).isOw = true then .un else fr t := by
  unfold useF
  cases c with
  | none => simp
  | some q =>
    simp only
    by_cases hq : q = t
    · subst hq
      by_cases h : u = true ∧ (fr q).isOw = true
      · rw [if_pos (by simp [h.1, h.2]), up_same, if_pos ⟨rfl, h⟩]
      · rw [if_neg (by simpa using h), if_neg (fun e => h e.2)]
    · have : ¬ (some q = some t ∧ u = true ∧ (fr t).isOw = true) := fun e => hq (by simpa using e.1)
      rw [if_neg this]
      split
      · rw [up_ne _ _ (Ne.symm hq)]
      · rfl

theorem slotF_apply (u : Bool) (x : V) (fr : Nat → V) (t : Nat) : slotF tr o u x fr t = if o.dst = some t then x else if consT tr o = some t ∧ u = true ∧ (fr t).isOw = true then .un else fr t := by
  unfold slotF putF
  cases o.dst with
  | none => simpa using useF_apply u (consT tr o) fr t
  | some d =>
    simp only
    by_cases hd : d = t
    · subst hd; simp
    · rw [up_ne _ _ (Ne.symm hd), if_neg (by simpa using hd)]
      exact useF_apply u (consT tr o) fr t

theorem slotF_other {u : Bool} {x : V} {fr : Nat → V} {t : Nat} (h : t ∉ wr tr o) : slotF tr o u x fr t = fr t := by
  simp only [wr, List.mem_append, Option.mem_toList, not_or] at h
  rw [slotF_apply, if_neg h.1, if_neg (fun e => h.2 e.1)]

theorem slotF_comm {x y : Oper} (h : ∀ d ∈ wr tr x, d ∉ wr tr y) (u u' : Bool) (vx vy : V) (fr : Nat → V) :
    slotF tr y u' vy (slotF tr x u vx fr) = slotF tr x u vx (slotF tr y u' vy fr) := by
  funext t
  by_cases hx : t ∈ wr tr x
  · rw [slotF_other (h t hx), slotF_apply, slotF_apply, slotF_other (h t hx)]
  · have e1 : slotF tr x u vx fr t = fr t := slotF_other hx
    have e2 : slotF tr x u vx (slotF tr y u' vy fr) t = slotF tr y u' vy fr t := slotF_other hx
    rw [e2, slotF_apply (o := y), e1, slotF_apply (o := y)]

theorem run_eq (e : Ef) : e.run tr o s = ⟨slotF tr o e.uses (e.val s.nb) s.fr, e.bx s.nb s.bx, e.nb s.nb⟩ := rfl

theorem VEf_mem {e : Ef} (h : VEf P G tr o s e) (hm : opMem tr o ≠ 2) : ∃ v, e = .v v := by
  unfold VEf at h
  split at h
  · rename_i hop; simp [opMem, hop] at hm
  · rename_i hop; simp [opMem, hop] at hm
  · rename_i hop; simp [opMem, hop] at hm
  · rename_i hop
    split at h
    · rename_i hn; simp [opMem, hop, hn] at hm
    · obtain ⟨v, rfl, _⟩ := h; exact ⟨v, rfl⟩
  · rename_i hop; simp [opMem, hop] at hm
  · rename_i hop
    split at h
    · rename_i hn; simp [opMem, hop, hn] at hm
    · obtain ⟨v, rfl, _⟩ := h; exact ⟨v, rfl⟩
  · obtain ⟨v, rfl, _⟩ := h; exact ⟨v, rfl⟩
  · rename_i hop; simp [opMem, hop] at hm
  · rename_i hop; simp [opMem, hop] at hm
  · rename_i hop; simp [opMem, hop] at hm
  · obtain ⟨v, rfl, _⟩ := h; exact ⟨v, rfl⟩

theorem TEf_mem {e : Ef} (h : TEf P G tr ops o s e) (hm : opMem tr o ≠ 2) : (∃ v, e = .v v) ∨ e = .skip := by
  rcases h with ⟨_, h, _⟩ | ⟨_, h⟩
  · exact .inl (VEf_mem h hm)
  · exact .inr h

theorem quiet_mem {e : Ef} (h : (∃ v, e = .v v) ∨ e = .skip) (bx : Nat → List V) (nb nb' : Nat) : e.bx nb bx = bx ∧ e.nb nb = nb ∧ e.val nb = e.val nb' := by
  rcases h with ⟨v, rfl⟩ | rfl <;> exact ⟨rfl, rfl, rfl⟩

theorem gval_congr {s' : S} (h : ∀ t ∈ o.looksAt ops, s.fr t = s'.fr t) : gval ops o s = gval ops o s' := by
  unfold gval
  split
  · rfl
  · rename_i j want hg
    split
    · rename_i d hd
      have : d ∈ o.looksAt ops := by
        unfold Oper.looksAt
        rw [hg]
        simp only [List.mem_append, Option.mem_toList]
        exact .inr hd
      rw [h d this]
    · rfl

theorem operand_looks {x : Operand} {t : Tmp} (hx : x ∈ o.op.operands) (ht : x = .tmp t) : t ∈ o.looksAt ops := by
  unfold Oper.looksAt
  simp only [List.mem_append, List.mem_filterMap]
  exact .inl ⟨x, by simpa using hx, by rw [ht]⟩

theorem TEf_congr {s' : S} {e : Ef} (hl : ∀ t ∈ o.looksAt ops, s.fr t = s'.fr t) (hm : opMem tr o ≠ 0 → s.bx = s'.bx ∧ s.nb = s'.nb) (h : TEf P G tr ops o s e) : TEf P G tr ops o s' e := by
  rcases h with ⟨h1, h2, h3⟩ | ⟨h1, h2⟩
  · exact .inl ⟨by rw [← gval_congr hl]; exact h1, VEf_congr (fun x hx => ev_congr fun t ht => hl t (operand_looks hx ht)) hm h2, h3⟩
  · exact .inr ⟨by rw [← gval_congr hl]; exact h1, h2⟩

theorem lsApart_spec {x y : Oper} (h : lsApart tr x y = true) : ∃ T X d U t Y, x.op = .load T X ∧ x.dst = some d ∧ y.op = .store U (.tmp t) Y ∧ tr.contains (200000 + d) = true ∧ tr.contains (200000 + t) = true ∧
    ∀ b, b < 100 → tr.contains (300000 + d * 100 + b) = true → tr.contains (300000 + t * 100 + b) = true → False := by
  unfold lsApart at h
  split at h
  · rename_i T X d U t Y h1 h2 h3
    simp only [Bool.and_eq_true, List.all_eq_true] at h
    refine ⟨T, X, d, U, t, Y, h1, h2, h3, h.1.1, h.1.2, fun b hb q1 q2 => ?_⟩
    have := h.2 b (List.mem_range.2 hb)
    rw [q1, q2] at this
    cases this
  · cases h
theorem lsApart_mem {x y : Oper} (h : lsApart tr x y = true) : opMem tr x = 1 := by
  obtain ⟨T, X, d, U, t, Y, h1, _⟩ := lsApart_spec h
  simp [opMem, h1]

theorem vload_bx {T : TypeId} {s' : S} {b k : Nat} {K : V → Prop} (hb : s'.bx b = s.bx b) (hn : s'.nb = s.nb) (h : vload P T s (.bp b k) K) : vload P T s' (.bp b k) K := by
  unfold vload at *
  cases hT : ti P T with
  | none => rw [hT] at h; exact h.elim
  | some i =>
    rw [hT] at h
    simp only at h ⊢
    rw [hb, hn]; exact h
theorem vload_other {T : TypeId} {s' : S} {K : V → Prop} (hx : ∀ b k, x ≠ .bp b k) (h : vload P T s x K) : vload P T s' x K := by
  unfold vload at *
  cases hT : ti P T with
  | none => rw [hT] at h; exact h.elim
  | some i =>
    rw [hT] at h
    cases x with
    | c c => cases c <;> exact h
    | bp b k => exact absurd rfl (hx b k)
    | _ => exact h.elim

/-- A read of a box that another operation does not write. -/
theorem TEf_ls {x y : Oper} {e f : Ef} {s' : S} (hls : lsApart tr x y = true) (hl : ∀ t ∈ x.looksAt ops, s.fr t = s'.fr t) (hy : TEf P G tr ops y s f ∨ TEf P G tr ops y s' f)
    (hbx : s'.bx = f.bx s.nb s.bx ∨ s.bx = f.bx s'.nb s'.bx) (hnb : s'.nb = s.nb) (h : TEf P G tr ops x s e) : TEf P G tr ops x s' e := by
  obtain ⟨T, X, d, U, t, Y, hx1, hx2, hy1, hd, ht, hno⟩ := lsApart_spec hls
  -- the store's box
  have key : f = .skip ∨ ∃ b k ds, f = .st b k ds ∧ b < 100 ∧ tr.contains (300000 + t * 100 + b) = true := by
    have one : ∀ q : S, TEf P G tr ops y q f → f = .skip ∨ ∃ b k ds, f = .st b k ds ∧ b < 100 ∧ tr.contains (300000 + t * 100 + b) = true := fun q hq => by
      rcases hq with ⟨_, hv, _⟩ | ⟨_, hs⟩
      · right
        unfold VEf at hv
        rw [hy1] at hv
        simp only at hv
        obtain ⟨hdec, hv⟩ := hv
        split at hv
        · rename_i i b k cs h1 h2 h3
          refine ⟨b, k, cs, hv.2, ?_⟩
          rw [h2] at hdec
          simp only [ptrT, declV, declB, ht, Bool.not_true, Bool.false_or, Bool.and_eq_true, decide_eq_true_eq] at hdec
          exact hdec
        · exact hv.elim
      · exact .inl hs
    rcases hy with hy | hy
    · exact one _ hy
    · exact one _ hy
  rcases h with ⟨h1, h2, h3⟩ | ⟨h1, h2⟩
  · refine .inl ⟨by rw [← gval_congr hl]; exact h1, ?_, h3⟩
    have hev : ev G s X = ev G s' X := ev_congr fun q hq => hl q (operand_looks (by rw [hx1]; simp [Op.operands]) hq)
    unfold VEf at h2 ⊢
    rw [hx1] at h2 ⊢
    simp only at h2 ⊢
    obtain ⟨v, he, hdec, hv⟩ := h2
    refine ⟨v, he, by rw [← hev]; exact hdec, ?_⟩
    obtain ⟨dst, op, type, pos, after, guard⟩ := x
    simp only at hx1 hx2 hdec hev
    subst hx1; subst hx2
    simp only [VYK] at hv ⊢
    rw [← hev]
    rcases hcase : ev G s X with _ | _ | c | _ | _ | _ | ⟨b, k⟩ | _ | _ | _
    case bp =>
      rw [hcase] at hdec hv
      simp only [declV, declB, hd, Bool.not_true, Bool.false_or, Bool.and_eq_true, decide_eq_true_eq] at hdec
      have hb : s'.bx b = s.bx b := by
        rcases key with rfl | ⟨b', k', ds, rfl, hb1, hb2⟩
        · rcases hbx with hbx | hbx
          · rw [hbx]; rfl
          · rw [hbx]; rfl
        · have hne : b ≠ b' := by rintro rfl; exact hno b hdec.1 hdec.2 hb2
          rcases hbx with hbx | hbx
          · rw [hbx]; simp only [Ef.bx, up_ne _ _ hne]
          · rw [hbx]; simp only [Ef.bx, up_ne _ _ hne]
      exact vload_bx hb hnb hv
    all_goals
      rw [hcase] at hv
      exact vload_other (fun _ _ e => by cases e) hv
  · exact .inr ⟨by rw [← gval_congr hl]; exact h1, h2⟩

theorem lkApart_spec {x y : Oper} (h : lkApart x y = true) : ∃ T m k, x.op = .lookup T (.tmp m) (.tmp k) false ∧ y.op = .mapEntry T (.tmp m) (.tmp k) := by
  unfold lkApart at h
  split at h
  · rename_i T m k U m' k' h1 h2
    simp only [Bool.and_eq_true, beq_iff_eq] at h
    obtain ⟨⟨rfl, rfl⟩, rfl⟩ := h
    exact ⟨T, m, k, h1, h2⟩
  · cases h
theorem lkApart_mem {x y : Oper} (h : lkApart x y = true) : opMem tr x = 1 ∧ opMem tr y = 2 := by
  obtain ⟨T, m, k, h1, h2⟩ := lkApart_spec h
  simp [opMem, h1, h2]

theorem keysOf_len {ag : Bool} : ∀ {r : List V} {l : List (List C)}, keysOf ag r = some l → r.length = 2 * l.length
  | [], l, h => by simp only [keysOf, Option.some.injEq] at h; subst h; rfl
  | [_], l, h => by simp [keysOf] at h
  | k :: v :: r, l, h => by
    unfold keysOf at h
    split at h
    · rename_i q l' h1 h2
      simp only [Option.some.injEq] at h; subst h
      have := keysOf_len h2
      simp [this]; omega
    · cases h
theorem keysOf_snoc {ag : Bool} {k v : V} {q : List C} (hk : k.kcs ag = some q) : ∀ {r : List V} {l : List (List C)}, keysOf ag r = some l → keysOf ag (r ++ [k, v]) = some (l ++ [q])
  | [], l, h => by simp only [keysOf, Option.some.injEq] at h; subst h; simp [keysOf, hk]
  | [_], l, h => by simp [keysOf] at h
  | k' :: v' :: r, l, h => by
    unfold keysOf at h
    split at h
    · rename_i q' l' h1 h2
      simp only [Option.some.injEq] at h; subst h
      have := keysOf_snoc (v := v) hk h2
      simp only [List.cons_append, keysOf, h1, this]
    · cases h
theorem findK_snoc {ks : List EK} {k : List C} (hl : k.length = ks.length) (hr : eqCs ks k k = some true) : ∀ {l : List (List C)} {i : Nat}, findK ks k l i = some none → findK ks k (l ++ [k]) i = some (some (i + l.length))
  | [], i, _ => by simp [findK, hl, hr]
  | k' :: l, i, h => by
    unfold findK at h
    split at h
    · rename_i h1
      split at h
      · cases h
      · rename_i h2
        simp only [List.cons_append, findK, h1, if_true, h2]
        rw [findK_snoc hl hr h]; simp; omega
      · cases h
    · cases h

theorem lookup_of_made {T : TypeId} {k : V} {K : S → V → Prop} (h : vmapEntry P T s x k K) : ∃ w, vlookup P T s x k false (fun u => w = u) := by
  unfold vmapEntry at h
  obtain ⟨i, bs, cl, r, res, z, h1, h2⟩ := vmapAt_atom h
  cases res with
  | none => exact ⟨_, vmapAt_use h1 rfl⟩
  | some j => exact ⟨_, vmapAt_use h1 rfl⟩

/-- A look-up sees no difference when the entry has been made. -/
theorem lookup_made {T : TypeId} {bx' : Nat → List V} {k v u : V} {s' : S} (h : vmapEntry P T s x k (fun s' u' => bx' = s'.bx ∧ u = u')) (hv : vlookup P T s x k false (fun w => v = w)) (h1 : s'.bx = bx') (h2 : s'.nb = s.nb) :
    vlookup P T s' x k false (fun w => v = w) := by
  subst h1
  unfold vmapEntry at h
  obtain ⟨i, kt, et, tT, tk, te, ks, kc, z, bs, cl, r, kcs, res, q1, q2, rfl, q3, q4, q5, q6, q7, q8, q9, q10, ⟨q11, q12, q13, q14⟩, hK⟩ := vmapAt_inv h
  have hv' : vlookup P T s (.mr i) k false (fun w => (match res with | some j => (r.getD (2 * j + 1) .un).fz | none => z) = w) := by
    unfold vlookup
    refine vmapAt_of q1 q2 q3 q4 q5 q6 q7 q8 q9 q10 q11 q12 q13 q14 ?_
    cases res <;> rfl
  have hvv := vlookup_det hv hv'
  unfold vlookup
  cases res with
  | some j =>
    obtain ⟨hb, _⟩ := hK
    refine vmapAt_of q1 q2 q3 q4 q5 q6 q7 (by rw [hb]; exact q8) q9 q10 (by rw [h2]; exact q11) q12 q13 q14 ?_
    exact hvv
  | none =>
    obtain ⟨hb, _⟩ := hK
    have hkf : k.fz.kcs tk.agg = some kc := by cases k <;> simp_all [V.fz, V.kcs]
    have hz : z.fz = z := by
      unfold zeroOf at q7; split at q7 <;> first | (simp only [Option.some.injEq] at q7; subst q7; rfl) | cases q7
    have hlen := keysOf_len q9
    refine vmapAt_of (bs := bs ++ [cl]) (cl := cl + 1) (r := r ++ [k.fz, z]) q1 q2 q3 q4 q5 q6 q7 (by rw [hb]; simp only [up_same]) (keysOf_snoc hkf q9) (findK_snoc q12 q13 q10) (by rw [h2]; exact q11) q12 q13 q14 ?_
    simp only
    rw [show v = z from hvv]
    have : (r ++ [k.fz, z]).getD (2 * (0 + kcs.length) + 1) .un = z := by
      rw [Nat.zero_add, ← hlen]; simp
    rw [this, hz]; rfl

/-- The state behind y, as x sees it. -/
theorem TEf.keep {x y : Oper} {e f : Ef} (hap : Apart tr ops x y) (hx : TEf P G tr ops x s e) (hy : TEf P G tr ops y s f) : TEf P G tr ops x (f.run tr y s) e := by
  have hl : ∀ t ∈ x.looksAt ops, s.fr t = (f.run tr y s).fr t := fun t ht => by
    rw [run_eq]
    simp only
    rw [slotF_other (fun hw => hap.yx t hw ht)]
  by_cases hls : lsApart tr x y = true
  · refine TEf_ls hls hl (.inl hy) (.inl rfl) ?_ hx
    obtain ⟨T, X, d, U, t, Y, hx1, hx2, hy1, _⟩ := lsApart_spec hls
    rcases hy with ⟨_, hv, _⟩ | ⟨_, rfl⟩
    · unfold VEf at hv
      rw [hy1] at hv
      simp only at hv
      replace hv := hv.2
      split at hv
      · rw [hv.2]; rfl
      · exact hv.elim
    · rfl
  by_cases hlk : lkApart x y = true
  · obtain ⟨T, m, k, hx1, hy1⟩ := lkApart_spec hlk
    rcases hy with ⟨_, hv, _⟩ | ⟨_, rfl⟩
    · rcases hx with ⟨hg, hw, hne⟩ | ⟨hg, he⟩
      · refine .inl ⟨by rw [← gval_congr hl]; exact hg, ?_, hne⟩
        unfold VEf at hv hw ⊢
        rw [hy1] at hv
        rw [hx1] at hw ⊢
        obtain ⟨bx, u, rfl, hv⟩ := hv
        obtain ⟨v, rfl, hw⟩ := hw
        refine ⟨v, rfl, ?_⟩
        obtain ⟨dst, op, type, pos, after, guard⟩ := x
        simp only at hx1; subst hx1
        simp only [VYK] at hw ⊢
        have e1 : ev G ((Ef.gn bx s.nb u).run tr y s) (.tmp m) = ev G s (.tmp m) := (hl m (operand_looks (x := .tmp m) (by simp [Op.operands]) rfl)).symm
        have e2 : ev G ((Ef.gn bx s.nb u).run tr y s) (.tmp k) = ev G s (.tmp k) := (hl k (operand_looks (x := .tmp k) (by simp [Op.operands]) rfl)).symm
        rw [e1, e2]
        exact lookup_made (bx' := bx) (u := u) (vmapEntry_K (vmapEntry_back hv) fun s' u' e => ⟨by rw [← e.1], e.2⟩) hw rfl rfl
      · exact .inr ⟨by rw [← gval_congr hl]; exact hg, he⟩
    · exact TEf_congr hl (fun _ => ⟨rfl, rfl⟩) hx
  · refine TEf_congr hl (fun hm => ?_) hx
    have hq := TEf_mem hy (fun h => hm ((hap.my h).resolve_right (fun h => by rcases h with h | h; exact hls h; exact hlk h)))
    obtain ⟨q1, q2, _⟩ := quiet_mem hq s.bx s.nb 0
    exact ⟨q1.symm, q2.symm⟩

theorem TEf.back {x y : Oper} {e f : Ef} (hap : Apart tr ops x y) (hx : TEf P G tr ops x s e) (hy : TEf P G tr ops y (e.run tr x s) f) : TEf P G tr ops y s f := by
  have hl : ∀ t ∈ y.looksAt ops, (e.run tr x s).fr t = s.fr t := fun t ht => by
    rw [run_eq]
    simp only
    rw [slotF_other (fun hw => hap.xy t hw ht)]
  by_cases hls : lsApart tr y x = true
  · obtain ⟨T, X, d, U, t, Y, hx1, hx2, hy1, _⟩ := lsApart_spec hls
    have hnb : s.nb = (e.run tr x s).nb := by
      rcases hx with ⟨_, hv, _⟩ | ⟨_, rfl⟩
      · unfold VEf at hv
        rw [hy1] at hv
        simp only at hv
        replace hv := hv.2
        split at hv
        · rw [hv.2]; rfl
        · exact hv.elim
      · rfl
    exact TEf_ls hls hl (.inr hx) (.inr rfl) hnb hy
  by_cases hlk : lkApart y x = true
  · obtain ⟨T, m, k, hx1, hy1⟩ := lkApart_spec hlk
    rcases hx with ⟨_, hv, _⟩ | ⟨_, rfl⟩
    · rcases hy with ⟨hg, hw, hne⟩ | ⟨hg, he⟩
      · refine .inl ⟨by rw [← gval_congr hl]; exact hg, ?_, hne⟩
        unfold VEf at hv hw ⊢
        rw [hy1] at hv
        rw [hx1] at hw ⊢
        obtain ⟨bx, u, rfl, hv⟩ := hv
        obtain ⟨v, rfl, hw⟩ := hw
        refine ⟨v, rfl, ?_⟩
        obtain ⟨dst, op, type, pos, after, guard⟩ := y
        simp only at hx1; subst hx1
        simp only [VYK] at hw ⊢
        have e1 : ev G ((Ef.gn bx s.nb u).run tr x s) (.tmp m) = ev G s (.tmp m) := hl m (operand_looks (x := .tmp m) (by simp [Op.operands]) rfl)
        have e2 : ev G ((Ef.gn bx s.nb u).run tr x s) (.tmp k) = ev G s (.tmp k) := hl k (operand_looks (x := .tmp k) (by simp [Op.operands]) rfl)
        rw [e1, e2] at hw
        have hE := vmapEntry_K (vmapEntry_back hv) (K' := fun s' u' => bx = s'.bx ∧ u = u') fun s' u' e => ⟨by rw [← e.1], e.2⟩
        obtain ⟨w, hw0⟩ := lookup_of_made hE
        have := lookup_made (s' := (Ef.gn bx s.nb u).run tr x s) hE hw0 rfl rfl
        rw [vlookup_det hw this]; exact hw0
      · exact .inr ⟨by rw [← gval_congr hl]; exact hg, he⟩
    · exact TEf_congr hl (fun _ => ⟨rfl, rfl⟩) hy
  · refine TEf_congr hl (fun hm => ?_) hy
    have hq := TEf_mem hx (fun h => hm ((hap.mx h).resolve_right (fun h => by rcases h with h | h; exact hls h; exact hlk h)))
    obtain ⟨q1, q2, _⟩ := quiet_mem hq s.bx s.nb 0
    exact ⟨q1, q2⟩

theorem run_comm {x y : Oper} {e f : Ef} (hap : Apart tr ops x y) (hx : TEf P G tr ops x s e) (hy : TEf P G tr ops y s f) : f.run tr y (e.run tr x s) = e.run tr x (f.run tr y s) := by
  simp only [run_eq]
  by_cases h2 : opMem tr x = 2
  · have hq := TEf_mem hy (fun h => by
      rcases hap.mx h2 with h' | h' | h'
      · rw [h'] at h; cases h
      · rw [lsApart_mem h'] at h; cases h
      · rw [(lkApart_mem (tr := tr) h').1] at h; cases h)
    obtain ⟨q1, q2, q3⟩ := quiet_mem hq (e.bx s.nb s.bx) (e.nb s.nb) s.nb
    obtain ⟨r1, r2, _⟩ := quiet_mem hq s.bx s.nb s.nb
    rw [q1, q2, q3, r1, r2, slotF_comm hap.ww]
  · have hq := TEf_mem hx h2
    obtain ⟨q1, q2, q3⟩ := quiet_mem hq (f.bx s.nb s.bx) (f.nb s.nb) s.nb
    obtain ⟨r1, r2, _⟩ := quiet_mem hq s.bx s.nb s.nb
    rw [q1, q2, q3, r1, r2, slotF_comm hap.ww]

/-- An operation that may come up now may be taken first. -/
theorem vAny_first {K : S → Prop} {i : Nat} {oi : Oper} {e : Ef} (hi : ops[i]? = some oi) :
    ∀ (fuel : Nat) (listed : Array Bool) (s : S),
      (∀ j oj, ops[j]? = some oj → j ≠ i → listed.getD j true = false → (∀ e ∈ oj.after, Region.binds md e = true → e.on ≠ i) → apartV tr ops oi oj = true) →
      i ∈ Region.ready md ops listed → TEf P G tr ops oi s e →
      vAny P G tr md ops K fuel (listed.setIfInBounds i true) (e.run tr oi s) → vAny P G tr md ops K (fuel + 1) listed s := by
  intro fuel
  induction fuel with
  | zero =>
    intro listed s _ hr hy H
    refine ⟨fun h => (by rw [h] at hr; cases hr), fun j hj => ?_⟩
    by_cases hji : j = i
    · subst hji; unfold vopI; simp only [hi]; exact ⟨e, hy, H⟩
    · have := ready_mono hj hji
      rw [H.1] at this
      cases this
  | succ fuel ih =>
    intro listed s hfree hr hy H
    refine ⟨fun h => (by rw [h] at hr; cases hr), fun j hj => ?_⟩
    by_cases hji : j = i
    · subst hji; unfold vopI; simp only [hi]; exact ⟨e, hy, H⟩
    · have h1 := H.2 j (ready_mono hj hji)
      obtain ⟨hjun, oj, hoj, hall⟩ := mem_ready.1 hj
      have hnot : ∀ e ∈ oj.after, Region.binds md e = true → e.on ≠ i := fun e he hb heq => by
        have h1 := hall e he hb
        have h0 := (mem_ready.1 hr).1
        rw [heq] at h1
        rcases Nat.lt_or_ge i listed.size with h' | h'
        · simp [h'] at h0 h1; rw [h0] at h1; cases h1
        · simp [Array.getElem?_eq_none h'] at h1
      have hap := apartV_spec (hfree j oj hoj hji hjun hnot)
      unfold vopI at h1 ⊢
      simp only [hoj] at h1 ⊢
      obtain ⟨f, hf, hK⟩ := h1
      have hf' := hy.back hap hf
      refine ⟨f, hf', ih (listed.setIfInBounds j true) _ (fun k ok hk hki hun hno => ?_) (ready_mono hr (Ne.symm hji)) (hy.keep hap hf') ?_⟩
      · refine hfree k ok hk hki ?_ hno
        by_cases hjk : j = k
        · subst hjk; exact hjun
        · rw [Go.getD_set_ne true hjk] at hun; exact hun
      · rw [Array.setIfInBounds_comm _ _ hji, ← run_comm hap hy hf']
        exact hK

def freeV (tr : List Nat) (ops : Array Oper) (listed : Array Bool) (i : Nat) : Bool :=
  match ops[i]? with
  | none => true
  | some oi => (List.range ops.size).all fun j => match ops[j]? with
    | none => true
    | some oj => j == i || listed.getD j true || (oj.after.any fun e => Region.binds .any e && e.on == i) || apartV tr ops oi oj

theorem freeV_spec {i : Nat} {oi : Oper} {listed : Array Bool} (hi : ops[i]? = some oi) (h : freeV tr ops listed i = true) (j : Nat) (oj : Oper) (hj : ops[j]? = some oj) (hji : j ≠ i)
    (hl : listed.getD j true = false) (hno : ∀ e ∈ oj.after, Region.binds .any e = true → e.on ≠ i) : apartV tr ops oi oj = true := by
  unfold freeV at h
  simp only [hi, List.all_eq_true, List.mem_range] at h
  have hlt : j < ops.size := (Array.getElem?_eq_some_iff.1 hj).1
  have := h j hlt
  simp only [hj, hl, Bool.or_eq_true, beq_iff_eq, hji, false_or, Bool.false_eq_true] at this
  rcases this with h1 | h1
  · rw [Array.any_eq_true'] at h1
    obtain ⟨e, he, h2⟩ := h1
    simp only [Bool.and_eq_true, beq_iff_eq] at h2
    exact absurd h2.2 (hno e he h2.1)
  · exact h1

def lexFromV (tr : List Nat) (ops : Array Oper) : Nat → Nat → Array Bool → Bool
  | 0, _, listed => (Region.ready .any ops listed).isEmpty
  | fuel + 1, k, listed => (Region.ready .any ops listed).contains k && freeV tr ops listed k && lexFromV tr ops fuel (k + 1) (listed.setIfInBounds k true)

/-- One order serves every order. -/
def drawOk (tr : List Nat) (ops : Array Oper) : Bool := ops.toList.all (fun o => !isAN tr o) && lexFromV tr ops ops.size 0 (Array.replicate ops.size false)

theorem vAny_lex {K : S → Prop} : ∀ (l : List Oper) (k : Nat) (listed : Array Bool) (s : S), (∀ o ∈ l, isAN tr o = false) → (∀ j, l[j]? = ops[k + j]?) →
    lexFromV tr ops l.length k listed = true → vops P G tr ops l s K → vAny P G tr .any ops K l.length listed s
  | [], _, _, _, _, _, hB, h => ⟨by simpa [lexFromV] using hB, h⟩
  | o :: l, k, listed, s, hA, hl, hB, h => by
    have h0 : ops[k]? = some o := by simpa using (hl 0).symm
    simp only [List.length_cons, lexFromV, Bool.and_eq_true] at hB
    obtain ⟨⟨hr, hf⟩, hB'⟩ := hB
    simp only [vops] at h
    obtain ⟨e, he, hK⟩ := TEf_of_guard (K := fun s' => vops P G tr ops l s' K) (hA o (List.mem_cons_self ..)) h
    exact vAny_first h0 l.length listed s (freeV_spec h0 hf) (by simpa using hr) he
      (vAny_lex l (k + 1) _ _ (fun o ho => hA o (List.mem_cons_of_mem _ ho)) (fun j => by have := hl (j + 1); simpa [Nat.add_assoc, Nat.add_comm 1 j] using this) hB' hK)

theorem region_draw_sound {id : Nat} (hm : P.follows .mixedOrders = true) (hok : dstOk n ops = true) (hdr : drawOk tr ops = true) {K : S → Prop} (hK : ∀ a w s, K s → SE G n I0 M w0 s a w → Q .normal a w)
    (h : vops P G tr ops ops.toList s K) (hse : SE G n I0 M w0 s a w) : (Code.region id ops true).wp P Q a w := by
  refine wp_region_any hm ?_
  simp only [drawOk, Bool.and_eq_true, List.all_eq_true, Bool.not_eq_true'] at hdr
  have h1 := vAny_lex (K := K) ops.toList 0 (Array.replicate ops.size false) s hdr.1 (by simp) (by simpa using hdr.2) h
  have hse' : SE G n I0 M w0 s a { w with drawn := w.drawn + 1 } := by
    obtain ⟨I, β, ob, hst⟩ := hse
    exact ⟨I, β, ob, hst.drew⟩
  have := vAny_sound hok hK _ _ _ _ _ h1 hse'
  simpa using this

end
end Go.Vl

/- Values without memory: from a function's text to its contract. -/
namespace Go.Vl
open Go Go.RowKit

section
variable {P : Program} {G : Gl} {tr : List Nat} {n : Nat} {I0 : Ft} {M : Mx} {w0 : World} {I : Ft} {β : Nat → Option Nat} {ob : Loc → Option Nat} {s : S} {a : Act} {w : World} {o : Oper}
  {Q : Exit → Act → World → Prop} {base : Nat → Prop} {v : Value} {x y : V}

/-- What is asked of a text once and for all. -/
def cok (n : Nat) (tr : List Nat) : Code → Bool
  | .region _ ops draw => dstOk n ops && (!draw || drawOk tr ops)
  | .seq a b => cok n tr a && cok n tr b
  | .cond _ a b => cok n tr a && cok n tr b
  | .block _ a => cok n tr a
  | .loop a => cok n tr a
  | _ => true

def VE.ex : VE → Exit
  | .normal => .normal
  | .exit i => .exit i
  | .ret => .ret

theorem vwpK_sound {k0 : Nat} (hm : P.follows .mixedOrders = true) (hext : ∀ i b, M.e i = some b → i < k0) : ∀ (c : Code) (hc : cok n tr c = true) (q : VE → S → Prop) (Q : Exit → Act → World → Prop) (_hQ : ∀ e s a w, q e s → SE G n I0 M w0 s a w → Q e.ex a w) (s : S) (a : Act) (w : World),
    vwpK P G tr k0 c q s → SE G n I0 M w0 s a w → c.wp P Q a w := by
  intro c
  induction c with
  | skip => intro _ q Q hQ s a w h hse; exact wp_skip (hQ .normal s a w h hse)
  | region id ops draw =>
    intro hc q Q hQ s a w h hse
    simp only [cok, Bool.and_eq_true, Bool.or_eq_true, Bool.not_eq_true'] at hc
    simp only [vwpK] at h
    obtain ⟨s, h, hse⟩ : ∃ s, vops P G tr ops ops.toList s (q .normal) ∧ SE G n I0 M w0 s a w := by
      split at h
      · obtain ⟨s', hle, h⟩ := h
        exact ⟨s', h, hse.freeze hext hle⟩
      · exact ⟨s, h, hse⟩
    cases draw with
    | false =>
      refine wp_region ?_
      have := vops_sound (Q := Q) hc.1 (fun a w s hk hse => hQ .normal s a w hk hse) ops.toList 0 rfl s a w h hse
      rw [List.range_eq_range']
      simpa using this
    | true => exact region_draw_sound hm hc.1 (hc.2.resolve_left (by simp)) (fun a w s hk hse => hQ .normal s a w hk hse) h hse
  | seq x y ihx ihy =>
    intro hc q Q hQ s a w h hse
    simp only [cok, Bool.and_eq_true] at hc
    simp only [vwpK] at h
    refine wp_seq (ihx hc.1 _ _ (fun e s a w hk hse => ?_) s a w h hse)
    cases e with
    | normal => exact ihy hc.2 q Q hQ s a w hk hse
    | exit i => exact hQ (.exit i) s a w hk hse
    | ret => exact hQ .ret s a w hk hse
  | cond c x y ihx ihy =>
    intro hc q Q hQ s a w h hse
    simp only [cok, Bool.and_eq_true] at hc
    simp only [vwpK] at h
    split at h
    · rename_i p hp
      obtain ⟨I, β, ob, hst⟩ := hse
      have hcv : a.eval c = .bool p := by have := ev_sound hst c; rw [hp] at this; exact this.lit
      have href : refine s c p = s := by
        cases c with
        | tmp t => simp only [refine]; simp only [ev] at hp; exact S.up_id hp
        | _ => rfl
      refine wp_cond_split hcv (fun ht => ?_) (fun hf => ?_)
      · have := h.1 ht
        rw [ht] at href
        rw [href] at this
        exact ihx hc.1 q Q hQ s a w this ⟨I, β, ob, hst⟩
      · have := h.2 hf
        rw [hf] at href
        rw [href] at this
        exact ihy hc.2 q Q hQ s a w this ⟨I, β, ob, hst⟩
    · exact h.elim
  | block id body ih =>
    intro hc q Q hQ s a w h hse
    simp only [cok] at hc
    simp only [vwpK] at h
    refine wp_block (ih hc _ _ (fun e s a w hk hse => ?_) s a w h hse)
    cases e with
    | normal => exact hQ .normal s a w hk hse
    | exit i =>
      simp only [VE.ex, Exit.inBlock] at hk ⊢
      split
      · rename_i e; rw [if_pos e] at hk; exact hQ .normal s a w hk hse
      · rename_i e; rw [if_neg e] at hk; exact hQ (.exit i) s a w hk hse
    | ret => exact hQ .ret s a w hk hse
  | loop body ih =>
    intro hc q Q hQ s a w h hse
    simp only [cok] at hc
    simp only [vwpK] at h
    obtain ⟨k, h⟩ := h
    refine wp_loop_rounds k ?_
    induction k generalizing s a w with
    | zero => exact h.elim
    | succ k ihk =>
      simp only [vrounds] at h
      obtain ⟨s', hle, h⟩ := h
      rw [rounds_succ]
      refine ih hc _ _ (fun e s a w hk hse => ?_) s' a w h (by rcases hle with rfl | hle; exact hse; exact hse.weaken hext hle)
      cases e with
      | normal => exact ihk s a w hse hk
      | exit i => exact hQ (.exit i) s a w hk hse
      | ret => exact hQ .ret s a w hk hse
  | exit id => intro _ q Q hQ s a w h hse; exact wp_exit (hQ (.exit id) s a w h hse)
  | ret => intro _ q Q hQ s a w h hse; exact wp_ret (hQ .ret s a w h hse)
  | label l => intro _ q Q hQ s a w h hse; exact wp_label (hQ .normal s a w h hse)
  | _ => intro _ q Q hQ s a w h hse; exact h.elim

theorem vwp_sound (hm : P.follows .mixedOrders = true) (hext : ∀ i b, M.e i = some b → i < extK tr) (c : Code) (hc : cok n tr c = true) (q : VE → S → Prop) (Q : Exit → Act → World → Prop) (hQ : ∀ e s a w, q e s → SE G n I0 M w0 s a w → Q e.ex a w)
    (s : S) (a : Act) (w : World) (h : vwp P G tr c q s) (hse : SE G n I0 M w0 s a w) : c.wp P Q a w := vwpK_sound hm hext c hc q Q hQ s a w h hse

/-- The result of a function, by the variables that hold it. -/
def resV (P : Program) (s : S) : ResultVar → (V → Prop) → Prop
  | .tmp t, K => K (s.fr t)
  | .cell p T, K => vload P T s (s.fr p) K

/-- What leaves: as it is, or looked at for good. -/
def endR (z : Bool) (s : S) (x r : V) : Prop := if z then imm s x = some r else x = r
def endR1 (z : Bool) (s : S) (x r : V) : Prop := if z then imm s x = some r else x.fz = r

def retV (P : Program) (z : Bool) (s : S) (r : V) : List ResultVar → Prop
  | [.tmp t] => endR z s (s.fr t) r
  | [.cell p T] => vload P T s (s.fr p) fun u => endR z s u r
  | rs => ∃ ds, r = .tup ds ∧ ds.length = rs.length ∧ ∀ (i : Nat) (R : ResultVar) (d : V), rs[i]? = some R → ds[i]? = some d → resV P s R fun u => endR1 z s u d

def initS (args : List V) : S := ⟨fun j => args.getD j .un, fun _ => [], 0⟩

theorem LR.ofDR (h : DR I w v x) : LR base I β w none v x := by
  cases h with
  | un => simp only [LR]; exact .un _
  | sk => simp only [LR]; exact .sk
  | c _ _ h => exact .ofC h
  | agg vs cs h1 h2 => simp only [LR]; exact .agg vs cs h1 h2
  | tup vs ds h1 h2 => simp only [LR]; exact .tup vs ds h1 h2

theorem St.init {I : Ft} {w : World} {vs : Array Value} {args : List V} {m : Nat} (hI : ∀ b o, I b o → b < w.heap.size) (hg : GOK G I w) (hsz : vs.size = args.length) (ha : ∀ j x, args[j]? = some x → DR I w (vs.getD j undef) x)
    (hm : m = (vs ++ Array.replicate (n - vs.size) undef).size) : St G m I ⟨fun _ => False, fun _ => none⟩ w I (fun _ => none) (fun _ => none) (initS args) { tmps := vs ++ Array.replicate (n - vs.size) undef, defers := [] } w where
  size := hm.symm
  defers := rfl
  below := BelowM.refl _ _
  kept := fun _ _ _ => rfl
  ilow := fun _ _ h => h
  ihigh := fun _ _ h => .inl h
  ibnd := hI
  fr := fun t => by
    simp only [initS]
    by_cases ht : t < args.length
    · have e1 : args.getD t .un = args[t] := by simp [List.getD, ht]
      have e2 : (vs ++ Array.replicate (n - vs.size) undef).getD t undef = vs.getD t undef := by
        rw [Array.getD_eq_getD_getElem?, Array.getElem?_append_left (by omega), ← Array.getD_eq_getD_getElem?]
      rw [e1, e2]
      exact .ofDR (ha t _ (List.getElem?_eq_getElem ht))
    · have e1 : args.getD t .un = .un := by simp [List.getD, List.getElem?_eq_none (Nat.le_of_not_lt ht)]
      rw [e1]; simp only [LR]; exact .un _
  bx := fun i hi => by simp [initS] at hi
  bnone := fun _ _ => rfl
  ext := fun _ _ h => by cases h
  bnew := fun _ _ h => by cases h
  binj := fun _ _ _ h => by cases h
  oinj := fun _ _ _ h => by cases h
  obx := fun _ _ _ h => by cases h
  obnd := fun _ _ h => by cases h
  glob := hg

/-- Values that may leave a function. -/
def V.out : V → Bool
  | .bp _ _ | .clo _ _ _ | .ms _ _ _ _ _ | .mag _ | .mr _ | .it _ _ _ _ => false
  | _ => true

theorem LR.leave {ox : Option Nat} (h : LR base I β w ox v x) (hx : x.out = true) {β' : Nat → Option Nat} : LR base I β' w ox v x := by
  cases x <;> simp only [V.out] at hx <;> try cases hx
  all_goals simp only [LR] at h ⊢; exact h

def V.comp : V → Bool
  | .c _ | .agg _ => true
  | _ => false

def V.compT : V → Bool
  | .tup ds => ds.all V.comp
  | _ => true

def rdRes (a : Act) : ResultVar → Sem Value
  | .tmp t => pure (a.tmps.getD t undef)
  | .cell p t => do loadVar t (← asAddr (a.tmps.getD p undef))

theorem results_eq (fn : Func) (a : Act) : results fn a.tmps = (do let vs ← fn.results.mapM (rdRes a); pure (if h : vs.size = 1 then vs[0] else .tuple vs)) := by
  unfold results
  congr 1

theorem run_res (hst : St G n I0 M w0 I β ob s a w) {R : ResultVar} {K : V → Prop} (h : resV P s R K) : ∃ x u o', K x ∧ LR (Wr M w0) I β w o' u x ∧ (∀ b, o' = some b → Wr M w0 b ∧ b < w.heap.size) ∧
    (rdRes a R).run P w = .ok u w := by
  cases R with
  | tmp t => exact ⟨_, _, _, h, hst.fr t, fun b hb => ⟨(hst.obnd _ b hb).2, (hst.obnd _ b hb).1⟩, rfl⟩
  | cell p T =>
    obtain ⟨z, u, hz, hlr, hrun⟩ := vload_sound (x := s.fr p) hst h (hst.fr p)
    refine ⟨z, u, none, hz, hlr, fun b hb => (by cases hb), ?_⟩
    unfold Instr.loadAt at hrun
    show (do loadVar T (← asAddr (a.tmps.getD p undef)) : Sem Value).run P w = .ok u w
    generalize a.tmps.getD p undef = pv at hrun ⊢
    cases pv <;> first | (simp [Instr.sureAddr, stuck, Sem.run] at hrun; done) | skip
    rename_i ad
    cases ad with
    | none => simp [Instr.sureAddr, stuck, Sem.run] at hrun
    | some ad => simpa [Instr.sureAddr, asAddr] using hrun

theorem run_results (hst : St G n I0 M w0 I β ob s a w) {Ic : Ft} {z : Bool} (hz : z = false → Ic = I) (hIc : ∀ b o, I b o → Ic b o) (hb : z = true → ∀ i b o, β i = some b → Ic b o) :
    ∀ (rs : List ResultVar) (ds : List V), ds.length = rs.length → (∀ (i : Nat) (R : ResultVar) (d : V), rs[i]? = some R → ds[i]? = some d → resV P s R fun u => endR1 z s u d) →
    ∃ vs : List Value, vs.length = ds.length ∧ (∀ (i : Nat) (d : V), ds[i]? = some d → LR (Wr M w0) Ic β w none (vs.getD i undef) d) ∧
      (rs.mapM (rdRes a)).run P w = .ok vs w
  | [], [], _, _ => ⟨[], rfl, by simp, rfl⟩
  | R :: rs, d :: ds, hl, h => by
    obtain ⟨vs, h1, h2, h3⟩ := run_results hst hz hIc hb rs ds (by simpa using hl) (fun i R' d' hR hd => h (i + 1) R' d' (by simpa using hR) (by simpa using hd))
    obtain ⟨x, u, o', hx, hlr, _, hrun⟩ := run_res hst (h 0 R d rfl rfl)
    refine ⟨u :: vs, by simp [h1], fun i d' hd' => ?_, ?_⟩
    · cases i with
      | zero =>
        simp at hd'; subst hd'
        cases z with
        | false => rw [hz rfl]; simp only [endR1, Bool.false_eq_true, if_false] at hx; rw [← hx]; exact hlr.fz none
        | true => simp only [endR1, if_true] at hx; exact .ofDR (imm_ok hst hlr hx hIc (fun _ => hb rfl))
      | succ i => simpa using h2 i d' (by simpa using hd')
    · rw [List.mapM_cons]
      simp only [Sem.run_bind, hrun, Result.andThen_ok, h3, Sem.run_pure]
  | [], _ :: _, hl, _ => by simp at hl
  | _ :: _, [], hl, _ => by simp at hl

/-- The results of a function, read at its end. -/
theorem run_ret_ok {fn : Func} (hst : St G n I0 M w0 I β ob s a w) {r : V} (hcomp : r.compT = true) {Ic : Ft} {z : Bool} (hz : z = false → Ic = I) (hIc : ∀ b o, I b o → Ic b o)
    (hb : z = true → ∀ i b o, β i = some b → Ic b o) (hret : retV P z s r fn.results.toList) :
    ∃ v o', (results fn a.tmps).run P w = .ok v w ∧ LR (Wr M w0) Ic β w o' v r ∧ ∀ b, o' = some b → ∃ t, ob (.t t) = some b := by
  unfold retV at hret
  rw [results_eq, Array.mapM_eq_mapM_toList]
  split at hret
  · rename_i t hrs
    rw [hrs]
    cases z with
    | false =>
      simp only [endR, Bool.false_eq_true, if_false] at hret
      refine ⟨a.tmps.getD t undef, ob (.t t), by simp [rdRes], ?_, fun b hb => ⟨_, hb⟩⟩
      rw [← hret, hz rfl]; exact hst.fr t
    | true =>
      simp only [endR, if_true] at hret
      exact ⟨a.tmps.getD t undef, none, by simp [rdRes], .ofDR (imm_ok hst (hst.fr t) hret hIc (fun _ => hb rfl)), fun b hb => by cases hb⟩
  · rename_i p T hrs
    rw [hrs]
    obtain ⟨x, u, hx, hlr, hrun⟩ := vload_sound (x := s.fr p) hst hret (hst.fr p)
    have hrun' : (rdRes a (.cell p T)).run P w = .ok u w := by
      unfold Instr.loadAt at hrun
      show (do loadVar T (← asAddr (a.tmps.getD p undef)) : Sem Value).run P w = .ok u w
      generalize a.tmps.getD p undef = pv at hrun ⊢
      cases pv <;> first | (simp [Instr.sureAddr, stuck, Sem.run] at hrun; done) | skip
      rename_i ad
      cases ad with
      | none => simp [Instr.sureAddr, stuck, Sem.run] at hrun
      | some ad => simpa [Instr.sureAddr, asAddr] using hrun
    refine ⟨u, none, by simp [List.mapM_cons, hrun'], ?_, fun b hb => by cases hb⟩
    cases z with
    | false =>
      simp only [endR, Bool.false_eq_true, if_false] at hx
      subst hx; rw [hz rfl]; exact hlr
    | true =>
      simp only [endR, if_true] at hx
      exact .ofDR (imm_ok hst hlr hx hIc (fun _ => hb rfl))
  · rename_i n1 n2
    obtain ⟨ds, rfl, hl, hall⟩ := hret
    obtain ⟨vs', h1, h2, h3⟩ := run_results hst hz hIc hb fn.results.toList ds hl hall
    have hne : vs'.length ≠ 1 := fun h => by
      have : fn.results.toList.length = 1 := by omega
      obtain ⟨R, hR⟩ := List.length_eq_one_iff.1 this
      cases R with
      | tmp t => exact n1 t hR
      | cell p T => exact n2 p T hR
    refine ⟨.tuple vs'.toArray, none, ?_, ?_, fun b hb => by cases hb⟩
    · simp [h3, hne]
    · simp only [LR]
      refine .tup _ _ (by simpa using h1) fun j d hd => ?_
      have h4 := h2 j d hd
      have h5 := List.all_eq_true.1 hcomp d (List.mem_of_getElem? hd)
      have e1 : vs'.toArray.getD j undef = vs'.getD j undef := by simp [List.getD]
      rw [e1]
      cases d <;> simp only [V.comp] at h5 <;> try cases h5
      all_goals simp only [LR] at h4; exact h4

/-- From the text to the contract. -/
theorem FnOK_ofK {f : FuncId} {k0 : Nat} {fn : Func} {c : Code} {args : List V} {r : V} (z : Bool) (tr : List Nat) (hm : P.follows .mixedOrders = true) (hf : P.funcs[f]? = some fn) (hb : fn.body = some c) (hname : (fn.name == "runtime.NumGoroutine") = false)
    (hn : args.length ≤ fn.ntmps) (hck : cok fn.ntmps tr c = true)
    (hr : r.out = true) (hcomp : r.compT = true)
    (h : vwpK P G tr k0 c (fun e s => (match e with | .exit _ => False | _ => True) ∧ retV P z s r fn.results.toList) (initS args)) : FnOK P G f args r := by
  refine ⟨⟨fn, hf, hname, c, hb⟩, fun I w vs hI hg hsz ha => ?_⟩
  have hsize : fn.ntmps = (vs ++ Array.replicate (fn.ntmps - vs.size) undef).size := by simp; omega
  have hst := St.init (n := fn.ntmps) hI hg hsz ha hsize
  refine calls_of_wp hf hb (vwpK_sound hm (fun _ _ h => by cases h) c hck _ _ (fun e s a w' hq hse => ?_) _ _ _ h ⟨_, _, _, hst⟩)
  obtain ⟨hex, hret⟩ := hq
  obtain ⟨I', β, ob, hst'⟩ := hse
  have hwr : ∀ b, Wr ⟨fun _ => False, fun _ => none⟩ w b → w.heap.size ≤ b := fun b hb => by rcases hb with hb | hb; exact hb; exact hb.elim
  have main : a.defers = [] ∧ ∃ v, (results fn a.tmps).run P w' = .ok v w' ∧ ∃ v' I'', (Ending.returned v = .returned v') ∧ w.grownBy w' none ∧ (∀ b o, I b o → I'' b o) ∧
      (∀ b o, I'' b o → I b o ∨ (w.heap.size ≤ b ∧ b < w'.heap.size)) ∧ RetR (fun b => w.heap.size ≤ b) I'' w' v' r := by
    refine ⟨hst'.defers, ?_⟩
    obtain ⟨v, o', h1, h2, h3⟩ := run_ret_ok (P := P) (fn := fn) hst' hcomp (Ic := fun b o => I' b o ∨ (z = true ∧ ∃ i, β i = some b)) (fun hz => by subst hz; simp) (fun _ _ h => .inl h) (fun hz i b o hi => .inr ⟨hz, i, hi⟩) hret
    refine ⟨v, h1, v, (fun b o => I' b o ∨ (z = true ∧ ∃ i, β i = some b)), rfl, ⟨hst'.below.os, hst'.below.tape, hst'.below.output, hst'.below.size, fun k hk _ => hst'.below.block k hk (fun e => e.elim)⟩, fun b o h => .inl (hst'.ilow b o h), fun b o hbo => ?_, o', ?_, fun b hb => ?_⟩
    · rcases hbo with hbo | ⟨_, i, hi⟩
      · rcases hst'.ihigh b o hbo with h4 | h4
        · exact .inl h4
        · exact .inr ⟨hwr b h4, hst'.ibnd b o hbo⟩
      · obtain ⟨_, h5, h6⟩ := hst'.boxblk hi
        exact .inr ⟨hwr b h5, h6⟩
    · have h2' := h2.leave hr (β' := fun _ => none)
      have e : Wr ⟨fun _ => False, fun _ => none⟩ w = fun b => w.heap.size ≤ b := by funext b; simp [Wr]
      rw [e] at h2'
      exact h2'
    · obtain ⟨L, hL⟩ := h3 b hb
      obtain ⟨h4, h5⟩ := hst'.obnd _ b hL
      exact ⟨hwr b h5, h4⟩
  cases e with
  | normal => exact main
  | exit i => exact hex.elim
  | ret => exact main

theorem FnOK_of {f : FuncId} {fn : Func} {c : Code} {args : List V} {r : V} (z : Bool) (tr : List Nat) (hm : P.follows .mixedOrders = true) (hf : P.funcs[f]? = some fn) (hb : fn.body = some c) (hname : (fn.name == "runtime.NumGoroutine") = false)
    (hn : args.length ≤ fn.ntmps) (hck : cok fn.ntmps tr c = true)
    (hr : r.out = true) (hcomp : r.compT = true)
    (h : vwp P G tr c (fun e s => (match e with | .exit _ => False | _ => True) ∧ retV P z s r fn.results.toList) (initS args)) : FnOK P G f args r := FnOK_ofK z tr hm hf hb hname hn hck hr hcomp h

end
end Go.Vl

