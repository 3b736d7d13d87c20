/- Lists without a program: sorting that keeps the order of equals, and its parts. -/
set_option linter.unusedSimpArgs false
set_option linter.unusedVariables false
namespace Go.Vl
section
variable {α : Type} (cm : α → α → Int)

/-- A comparison: three ways, in order. -/
structure Cmp : Prop where
  anti : ∀ a b, cm a b < 0 ↔ 0 < cm b a
  trans : ∀ a b c, cm a b ≤ 0 → cm b c ≤ 0 → cm a c ≤ 0

def eqb (a b : α) : Bool := decide (cm a b ≤ 0) && decide (cm b a ≤ 0)
def Srt (l : List α) : Prop := l.Pairwise fun a b => cm a b ≤ 0
def Stab (l' l : List α) : Prop := ∀ x, l'.filter (eqb cm x) = l.filter (eqb cm x)
def ins (x : α) : List α → List α
  | [] => [x]
  | y :: l => if cm x y ≤ 0 then x :: y :: l else y :: ins x l
def ssort : List α → List α
  | [] => []
  | x :: l => ins cm x (ssort l)

variable {cm}
theorem Cmp.refl (h : Cmp cm) (a : α) : cm a a ≤ 0 := by have := h.anti a a; omega
theorem Cmp.nlt (h : Cmp cm) {a b : α} (hn : ¬ cm a b < 0) : cm b a ≤ 0 := by have := h.anti a b; omega
theorem Cmp.lt_le (h : Cmp cm) {a b : α} (hn : cm a b < 0) : cm a b ≤ 0 := by omega
theorem Cmp.lt_not (h : Cmp cm) {a b : α} (hn : cm a b < 0) : ¬ cm b a ≤ 0 := by have := h.anti a b; omega
theorem Cmp.nle (h : Cmp cm) {a b : α} (hn : ¬ cm a b ≤ 0) : cm b a < 0 := by have := h.anti b a; omega
theorem Cmp.lt_of_lt_le (h : Cmp cm) {a b c : α} (h1 : cm a b < 0) (h2 : cm b c ≤ 0) : cm a c < 0 := by
  by_cases hc : cm a c < 0
  · exact hc
  · have := h.trans _ _ _ h2 (h.nlt hc)
    exact absurd this (h.lt_not h1)
theorem Cmp.lt_of_le_lt (h : Cmp cm) {a b c : α} (h1 : cm a b ≤ 0) (h2 : cm b c < 0) : cm a c < 0 := by
  by_cases hc : cm a c < 0
  · exact hc
  · have := h.trans _ _ _ (h.nlt hc) h1
    exact absurd this (h.lt_not h2)

theorem eqb_iff {a b : α} : eqb cm a b = true ↔ cm a b ≤ 0 ∧ cm b a ≤ 0 := by simp [eqb]
theorem eqb_self (h : Cmp cm) (a : α) : eqb cm a a = true := eqb_iff.2 ⟨h.refl a, h.refl a⟩
theorem eqb_lt (h : Cmp cm) {z x y : α} (h1 : eqb cm z x = true) (h2 : eqb cm z y = true) : cm x y ≤ 0 :=
  h.trans _ _ _ (eqb_iff.1 h1).2 (eqb_iff.1 h2).1

theorem Stab.rfl {l : List α} : Stab cm l l := fun _ => Eq.refl _
theorem Stab.symm {l l' : List α} (h : Stab cm l' l) : Stab cm l l' := fun x => (h x).symm
theorem Stab.trans {l l' l'' : List α} (h : Stab cm l l') (k : Stab cm l' l'') : Stab cm l l'' := fun x => (h x).trans (k x)
theorem Stab.append {a a' b b' : List α} (h : Stab cm a a') (k : Stab cm b b') : Stab cm (a ++ b) (a' ++ b') := fun x => by
  rw [List.filter_append, List.filter_append, h x, k x]
theorem Stab.mem (hc : Cmp cm) {l l' : List α} (h : Stab cm l' l) {x : α} : x ∈ l' ↔ x ∈ l := by
  have e := h x
  constructor
  · intro hx
    have : x ∈ l'.filter (eqb cm x) := List.mem_filter.2 ⟨hx, eqb_self hc x⟩
    rw [e] at this; exact (List.mem_filter.1 this).1
  · intro hx
    have : x ∈ l.filter (eqb cm x) := List.mem_filter.2 ⟨hx, eqb_self hc x⟩
    rw [← e] at this; exact (List.mem_filter.1 this).1

/-- Two blocks, each of the second before each of the first, are exchanged. -/
theorem Stab.swap (hc : Cmp cm) {a b : List α} (h : ∀ x ∈ a, ∀ y ∈ b, cm y x < 0) : Stab cm (b ++ a) (a ++ b) := fun z => by
  rw [List.filter_append, List.filter_append]
  by_cases h1 : a.filter (eqb cm z) = []
  · rw [h1]; simp
  · by_cases h2 : b.filter (eqb cm z) = []
    · rw [h2]; simp
    · obtain ⟨x, hx⟩ := List.exists_mem_of_ne_nil _ h1
      obtain ⟨y, hy⟩ := List.exists_mem_of_ne_nil _ h2
      obtain ⟨hx1, hx2⟩ := List.mem_filter.1 hx
      obtain ⟨hy1, hy2⟩ := List.mem_filter.1 hy
      exact absurd (eqb_lt hc hx2 hy2) (hc.lt_not (h x hx1 y hy1))

theorem Srt.uniq (hc : Cmp cm) : ∀ {l l' : List α}, Srt cm l → Srt cm l' → Stab cm l l' → l = l'
  | [], [], _, _, _ => rfl
  | [], y :: t, _, _, h => absurd ((h.mem hc (x := y)).2 (List.mem_cons_self ..)) (by simp)
  | y :: t, [], _, _, h => absurd ((h.mem hc (x := y)).1 (List.mem_cons_self ..)) (by simp)
  | x :: s, y :: t, h1, h2, h => by
    have a1 := List.pairwise_cons.1 h1
    have a2 := List.pairwise_cons.1 h2
    have hyx : cm y x ≤ 0 := by
      have : x ∈ y :: t := (h.mem hc).1 (List.mem_cons_self ..)
      rcases List.mem_cons.1 this with e | e
      · rw [e]; exact hc.refl _
      · exact a2.1 _ e
    have hxy : cm x y ≤ 0 := by
      have : y ∈ x :: s := (h.mem hc).2 (List.mem_cons_self ..)
      rcases List.mem_cons.1 this with e | e
      · rw [e]; exact hc.refl _
      · exact a1.1 _ e
    have hx := h x
    rw [List.filter_cons_of_pos (eqb_self hc x), List.filter_cons_of_pos (eqb_iff.2 ⟨hxy, hyx⟩)] at hx
    have e : x = y := by injection hx
    subst e
    have ht : Stab cm s t := fun z => by
      have hz := h z
      by_cases hzx : eqb cm z x = true
      · rw [List.filter_cons_of_pos hzx, List.filter_cons_of_pos hzx] at hz
        injection hz
      · rw [List.filter_cons_of_neg hzx, List.filter_cons_of_neg hzx] at hz
        exact hz
    rw [Srt.uniq hc a1.2 a2.2 ht]

theorem ins_mem {x z : α} : ∀ {l : List α}, z ∈ ins cm x l ↔ z = x ∨ z ∈ l
  | [] => by simp [ins]
  | y :: l => by
    unfold ins
    split
    · simp
    · simp only [List.mem_cons, ins_mem (l := l)]
      constructor
      · rintro (h | h | h)
        · exact .inr (.inl h)
        · exact .inl h
        · exact .inr (.inr h)
      · rintro (h | h | h)
        · exact .inr (.inl h)
        · exact .inl h
        · exact .inr (.inr h)
theorem ins_srt (hc : Cmp cm) {x : α} : ∀ {l : List α}, Srt cm l → Srt cm (ins cm x l)
  | [], _ => List.pairwise_singleton _ _
  | y :: l, h => by
    have a := List.pairwise_cons.1 h
    unfold ins
    split
    · rename_i hxy
      exact List.pairwise_cons.2 ⟨fun z hz => by
        rcases List.mem_cons.1 hz with e | e
        · rw [e]; exact hxy
        · exact hc.trans _ _ _ hxy (a.1 z e), h⟩
    · rename_i hxy
      refine List.pairwise_cons.2 ⟨fun z hz => ?_, ins_srt hc a.2⟩
      rcases ins_mem.1 hz with e | e
      · rw [e]; exact hc.lt_le (hc.nle hxy)
      · exact a.1 z e
theorem ins_stab (hc : Cmp cm) {x : α} : ∀ {l : List α}, Stab cm (ins cm x l) (x :: l)
  | [] => Stab.rfl
  | y :: l => by
    unfold ins
    split
    · exact Stab.rfl
    · rename_i hxy
      have h1 : Stab cm (y :: ins cm x l) (y :: x :: l) := Stab.append (a := [y]) (a' := [y]) Stab.rfl (ins_stab hc (l := l))
      have h2 : Stab cm ([y] ++ [x]) ([x] ++ [y]) := Stab.swap hc (by simpa using hc.nle hxy)
      exact h1.trans (Stab.append (b := l) (b' := l) h2 Stab.rfl)
theorem ssort_srt (hc : Cmp cm) : ∀ (l : List α), Srt cm (ssort cm l)
  | [] => List.Pairwise.nil
  | _ :: l => ins_srt hc (ssort_srt hc l)
theorem ssort_stab (hc : Cmp cm) : ∀ (l : List α), Stab cm (ssort cm l) l
  | [] => Stab.rfl
  | x :: l => (ins_stab hc).trans (Stab.append (a := [x]) (a' := [x]) Stab.rfl (ssort_stab hc l))
theorem ins_len {x : α} : ∀ {l : List α}, (ins cm x l).length = l.length + 1
  | [] => rfl
  | y :: l => by unfold ins; split <;> simp [ins_len (l := l)]
theorem ssort_len : ∀ (l : List α), (ssort cm l).length = l.length
  | [] => rfl
  | _ :: l => by simp [ssort, ins_len, ssort_len l]
theorem ssort_eq (hc : Cmp cm) {l l' : List α} (hs : Srt cm l') (hst : Stab cm l' l) : l' = ssort cm l :=
  Srt.uniq hc hs (ssort_srt hc l) (hst.trans (ssort_stab hc l).symm)
theorem ssort_of_srt (hc : Cmp cm) {l : List α} (h : Srt cm l) : ssort cm l = l := (ssort_eq hc h Stab.rfl).symm
theorem ssort_stab_eq (hc : Cmp cm) {l l' : List α} (h : Stab cm l' l) : ssort cm l' = ssort cm l :=
  ssort_eq hc (ssort_srt hc l') ((ssort_stab hc l').trans h)
theorem ssort_mem (hc : Cmp cm) {l : List α} {x : α} : x ∈ ssort cm l ↔ x ∈ l := (ssort_stab hc l).mem hc
theorem ssort_nil : ssort cm ([] : List α) = [] := rfl
theorem ssort_one (x : α) : ssort cm [x] = [x] := rfl

/-- One more, behind: the last one goes as far as those behind it are greater. -/
theorem ssort_snoc (hc : Cmp cm) {l X Y : List α} {y : α} (h : X ++ Y = ssort cm l) (h1 : ∀ z ∈ Y, cm y z < 0) (h2 : ∀ z ∈ X, cm z y ≤ 0) : X ++ y :: Y = ssort cm (l ++ [y]) := by
  have hs := ssort_srt hc l
  rw [← h] at hs
  have hp := List.pairwise_append.1 hs
  refine ssort_eq hc ?_ ?_
  · refine List.pairwise_append.2 ⟨hp.1, List.pairwise_cons.2 ⟨fun z hz => hc.lt_le (h1 z hz), hp.2.1⟩, fun a ha b hb => ?_⟩
    rcases List.mem_cons.1 hb with e | e
    · rw [e]; exact h2 a ha
    · exact hp.2.2 a ha b e
  · have e1 : Stab cm (X ++ ([y] ++ Y)) (X ++ (Y ++ [y])) := Stab.append Stab.rfl (Stab.swap hc (a := Y) (b := [y]) (by simpa using h1))
    have e2 : Stab cm (X ++ (Y ++ [y])) (l ++ [y]) := by
      rw [← List.append_assoc, h]; exact Stab.append (ssort_stab hc l) Stab.rfl
    exact Stab.trans (by simpa using e1) e2

theorem Srt.append (hc : Cmp cm) {a b : List α} (ha : Srt cm a) (hb : Srt cm b) (h : ∀ x ∈ a, ∀ y ∈ b, cm x y ≤ 0) : Srt cm (a ++ b) := List.pairwise_append.2 ⟨ha, hb, h⟩
theorem Srt.left {a b : List α} (h : Srt cm (a ++ b)) : Srt cm a := (List.pairwise_append.1 h).1
theorem Srt.right {a b : List α} (h : Srt cm (a ++ b)) : Srt cm b := (List.pairwise_append.1 h).2.1
theorem Srt.cross {a b : List α} (h : Srt cm (a ++ b)) : ∀ x ∈ a, ∀ y ∈ b, cm x y ≤ 0 := (List.pairwise_append.1 h).2.2
theorem Srt.get (hc : Cmp cm) {l : List α} (h : Srt cm l) {i j : Nat} (hj : j < l.length) (hij : i ≤ j) : cm (l[i]'(Nat.lt_of_le_of_lt hij hj)) l[j] ≤ 0 := by
  rcases Nat.lt_or_ge i j with h1 | h1
  · exact List.pairwise_iff_getElem.1 h i j (by omega) hj h1
  · have : i = j := by omega
    subst this; exact hc.refl _

/-- The step of the symmetric merge: four blocks. -/
theorem merge_four (hc : Cmp cm) {A1 A2 B1 B2 : List α} (hA : Srt cm (A1 ++ A2)) (hB : Srt cm (B1 ++ B2)) (h1 : ∀ x ∈ A2, ∀ y ∈ B1, cm y x < 0) (h2 : ∀ x ∈ A1, ∀ y ∈ B2, cm x y ≤ 0) :
    ssort cm (A1 ++ B1) ++ ssort cm (A2 ++ B2) = ssort cm ((A1 ++ A2) ++ (B1 ++ B2)) := by
  refine ssort_eq hc (Srt.append hc (ssort_srt hc _) (ssort_srt hc _) fun x hx y hy => ?_) ?_
  · rw [ssort_mem hc] at hx hy
    rcases List.mem_append.1 hx with hx | hx <;> rcases List.mem_append.1 hy with hy | hy
    · exact hA.cross x hx y hy
    · exact h2 x hx y hy
    · exact hc.lt_le (h1 y hy x hx)
    · exact hB.cross x hx y hy
  · refine (Stab.append (ssort_stab hc _) (ssort_stab hc _)).trans ?_
    have e : Stab cm (A1 ++ (B1 ++ A2) ++ B2) (A1 ++ (A2 ++ B1) ++ B2) := Stab.append (Stab.append Stab.rfl (Stab.swap hc h1)) Stab.rfl
    simpa [List.append_assoc] using e

/-- Merging a list with sorted parts. -/
theorem ssort_parts (hc : Cmp cm) (a b : List α) : ssort cm (ssort cm a ++ ssort cm b) = ssort cm (a ++ b) := ssort_stab_eq hc (Stab.append (ssort_stab hc a) (ssort_stab hc b))

/-- One in front of a sorted list. -/
theorem ssort_front (hc : Cmp cm) {x : α} {B1 B2 : List α} (h : Srt cm (B1 ++ B2)) (h1 : ∀ y ∈ B1, cm y x < 0) (h2 : ∀ y ∈ B2, cm x y ≤ 0) : B1 ++ x :: B2 = ssort cm (x :: (B1 ++ B2)) := by
  refine ssort_eq hc (List.pairwise_append.2 ⟨h.left, List.pairwise_cons.2 ⟨h2, h.right⟩, fun a ha b hb => ?_⟩) ?_
  · rcases List.mem_cons.1 hb with e | e
    · rw [e]; exact hc.lt_le (h1 a ha)
    · exact h.cross a ha b e
  · have e : Stab cm (B1 ++ [x] ++ B2) ([x] ++ B1 ++ B2) := Stab.append (Stab.swap hc (by simpa using h1)) Stab.rfl
    simpa using e
theorem ssort_back (hc : Cmp cm) {y : α} {A1 A2 : List α} (h : Srt cm (A1 ++ A2)) (h1 : ∀ z ∈ A2, cm y z < 0) (h2 : ∀ z ∈ A1, cm z y ≤ 0) : A1 ++ y :: A2 = ssort cm ((A1 ++ A2) ++ [y]) :=
  ssort_snoc hc (ssort_of_srt hc h).symm h1 h2

theorem Srt.at (hc : Cmp cm) {l : List α} (h : Srt cm l) {i j : Nat} {x y : α} (hx : l[i]? = some x) (hy : l[j]? = some y) (hij : i ≤ j) : cm x y ≤ 0 := by
  obtain ⟨_, rfl⟩ := List.getElem?_eq_some_iff.1 hx
  obtain ⟨hj, rfl⟩ := List.getElem?_eq_some_iff.1 hy
  exact h.get hc hj hij

/-- What the search of the symmetric merge knows. -/
structure Cut (cm : α → α → Int) (A B : List α) (u s r : Nat) : Prop where
  lo : u - B.length ≤ s
  sr : s ≤ r
  ru : r ≤ u
  ra : r ≤ A.length
  lt : ∀ i, u - B.length ≤ i → i < s → ∀ x y, A[i]? = some x → B[u - 1 - i]? = some y → cm x y ≤ 0
  ge : ∀ i, r ≤ i → i < u → ∀ x y, A[i]? = some x → B[u - 1 - i]? = some y → cm y x < 0
theorem Cut.up (hc : Cmp cm) {A B : List α} {u s r c : Nat} {x y : α} (hA : Srt cm A) (hB : Srt cm B) (h : Cut cm A B u s r) (h1 : s ≤ c) (h2 : c < r) (hx : A[c]? = some x) (hy : B[u - 1 - c]? = some y) (hn : ¬ cm y x < 0) : Cut cm A B u (c + 1) r where
  lo := by have := h.lo; omega
  sr := h2
  ru := h.ru
  ra := h.ra
  lt := fun i hi hic x' y' hx' hy' => by
    have e1 := hA.at hc hx' hx (by omega)
    have e2 := hB.at hc hy hy' (by omega)
    exact hc.trans _ _ _ e1 (hc.trans _ _ _ (hc.nlt hn) e2)
  ge := h.ge
theorem Cut.down (hc : Cmp cm) {A B : List α} {u s r c : Nat} {x y : α} (hA : Srt cm A) (hB : Srt cm B) (h : Cut cm A B u s r) (h1 : s ≤ c) (h2 : c < r) (hx : A[c]? = some x) (hy : B[u - 1 - c]? = some y) (hn : cm y x < 0) : Cut cm A B u s c where
  lo := h.lo
  sr := h1
  ru := by have := h.ru; omega
  ra := by have := h.ra; omega
  lt := h.lt
  ge := fun i hi hic x' y' hx' hy' => by
    have e1 := hA.at hc hx hx' hi
    have e2 := hB.at hc hy' hy (by omega)
    exact hc.lt_of_lt_le (hc.lt_of_le_lt e2 hn) e1
theorem Cut.start {A B : List α} {u : Nat} (hu : u = (A.length + B.length) / 2) : Cut cm A B u (u - B.length) (min u A.length) where
  lo := Nat.le_refl _
  sr := by omega
  ru := Nat.min_le_left _ _
  ra := Nat.min_le_right _ _
  lt := fun i h1 h2 => by omega
  ge := fun i h1 h2 x y hx => by
    have := (List.getElem?_eq_some_iff.1 hx).1
    omega
theorem Cut.done (hc : Cmp cm) {A1 A2 B1 B2 : List α} {u s : Nat} (h : Cut cm (A1 ++ A2) (B1 ++ B2) u s s) (hA : Srt cm (A1 ++ A2)) (hB : Srt cm (B1 ++ B2)) (h1 : A1.length = s) (h2 : B1.length = u - s) :
    ssort cm (A1 ++ B1) ++ ssort cm (A2 ++ B2) = ssort cm ((A1 ++ A2) ++ (B1 ++ B2)) := by
  have hsu := h.ru
  refine merge_four hc hA hB (fun x hx y hy => ?_) (fun x hx y hy => ?_)
  · obtain ⟨i, hi, rfl⟩ := List.mem_iff_getElem.1 hx
    obtain ⟨j, hj, rfl⟩ := List.mem_iff_getElem.1 hy
    have g1 : (A1 ++ A2)[s + i]? = some A2[i] := by rw [List.getElem?_append_right (by omega)]; simp [h1]
    have g2 : (B1 ++ B2)[j]? = some B1[j] := by rw [List.getElem?_append_left hj]; simp
    have k1 : (A1 ++ A2)[s]? = some A2[0] := by rw [List.getElem?_append_right (by omega), h1, Nat.sub_self]; simp
    have k2 : (B1 ++ B2)[u - 1 - s]? = some (B1[u - 1 - s]'(by omega)) := by rw [List.getElem?_append_left (by omega)]; simp
    have := h.ge s (Nat.le_refl _) (by omega) _ _ k1 k2
    exact hc.lt_of_lt_le (hc.lt_of_le_lt (hB.at hc g2 k2 (by omega)) this) (hA.at hc k1 g1 (by omega))
  · obtain ⟨i, hi, rfl⟩ := List.mem_iff_getElem.1 hx
    obtain ⟨j, hj, rfl⟩ := List.mem_iff_getElem.1 hy
    have hlo := h.lo
    simp only [List.length_append] at hlo
    have g1 : (A1 ++ A2)[i]? = some A1[i] := by rw [List.getElem?_append_left hi]; simp
    have g2 : (B1 ++ B2)[u - s + j]? = some B2[j] := by rw [List.getElem?_append_right (by omega)]; simp [h2]
    have k1 : (A1 ++ A2)[s - 1]? = some (A1[s - 1]'(by omega)) := by rw [List.getElem?_append_left (by omega)]; simp
    have k2 : (B1 ++ B2)[u - 1 - (s - 1)]? = some B2[0] := by
      have : u - 1 - (s - 1) = u - s := by omega
      rw [this, List.getElem?_append_right (by omega), h2, Nat.sub_self]; simp
    have := h.lt (s - 1) (by simp only [List.length_append]; omega) (by omega) _ _ k1 k2
    exact hc.trans _ _ _ (hA.at hc g1 k1 (by omega)) (hc.trans _ _ _ this (hB.at hc k2 g2 (by omega)))

/-- In blocks of w, each in order. -/
def Blk (cm : α → α → Int) (w : Nat) (l : List α) : Prop := ∀ k, Srt cm ((l.drop (k * w)).take w)
theorem Blk.nil {w : Nat} : Blk cm w [] := fun k => by simp [Srt]
theorem Blk.snoc {w q : Nat} {D X : List α} (h : Blk cm w D) (hD : D.length = q * w) (hX : Srt cm X) (hl : X.length ≤ w) : Blk cm w (D ++ X) := fun k => by
  by_cases hk : k < q
  · have h1 : k * w + w ≤ D.length := by rw [hD, ← Nat.succ_mul]; exact Nat.mul_le_mul_right _ hk
    rw [List.drop_append_of_le_length (by omega), List.take_append_of_le_length (by rw [List.length_drop]; omega)]
    exact h k
  · have h1 : D.length ≤ k * w := by rw [hD]; exact Nat.mul_le_mul_right _ (by omega)
    rw [List.drop_append, List.drop_eq_nil_of_le h1, List.nil_append]
    exact (hX.sublist (List.drop_sublist ..)).sublist (List.take_sublist ..)
theorem Blk.drop {w : Nat} {l : List α} (q : Nat) (h : Blk cm w l) : Blk cm w (l.drop (q * w)) := fun k => by
  have := h (q + k)
  rw [List.drop_drop, ← Nat.add_mul]; exact this
theorem Blk.take {w : Nat} {l : List α} (h : Blk cm w l) : Srt cm (l.take w) := by have := h 0; simpa using this
theorem Blk.second {w : Nat} {l : List α} (h : Blk cm w l) : Srt cm ((l.drop w).take w) := by have := h 1; simpa using this
theorem Blk.all {w : Nat} {l : List α} (h : Blk cm w l) (hw : l.length ≤ w) : Srt cm l := by
  have := h.take; rwa [List.take_of_length_le hw] at this

/-! Places in lists. -/
theorem get_mid {P S : List α} {x : α} {k : Nat} (hk : P.length = k) : (P ++ x :: S)[k]? = some x := by subst hk; simp
theorem set_mid {P S : List α} {x y : α} {k : Nat} (hk : P.length = k) : (P ++ x :: S).set k y = P ++ y :: S := by
  subst hk; simp
theorem swap_mid {P Q S : List α} {x y : α} {i j : Nat} (hi : P.length = i) (hj : i + 1 + Q.length = j) : ((P ++ x :: (Q ++ y :: S)).set i y).set j x = P ++ y :: (Q ++ x :: S) := by
  rw [set_mid hi]
  have : P ++ y :: (Q ++ y :: S) = (P ++ y :: Q) ++ y :: S := by simp
  rw [this, set_mid (by simp; omega)]; simp
theorem swap_mid' {P Q S : List α} {x y : α} {i j : Nat} (hi : P.length = i) (hj : i + 1 + Q.length = j) : ((P ++ x :: (Q ++ y :: S)).set j x).set i y = P ++ y :: (Q ++ x :: S) := by
  have : P ++ x :: (Q ++ y :: S) = (P ++ x :: Q) ++ y :: S := by simp
  rw [this, set_mid (by simp; omega)]
  have : (P ++ x :: Q) ++ x :: S = P ++ x :: (Q ++ x :: S) := by simp
  rw [this, set_mid hi]
theorem swap_adj {P S : List α} {x y : α} {i j : Nat} (hi : P.length = i) (hj : j = i + 1) : ((P ++ x :: y :: S).set i y).set j x = P ++ y :: x :: S :=
  swap_mid (Q := []) hi (by simp [hj])
theorem swap_adj' {P S : List α} {x y : α} {i j : Nat} (hi : P.length = i) (hj : j = i + 1) : ((P ++ x :: y :: S).set j x).set i y = P ++ y :: x :: S :=
  swap_mid' (Q := []) hi (by simp [hj])
theorem get_next {P S : List α} {x y : α} {j : Nat} (hj : j = P.length + 1) : (P ++ x :: y :: S)[j]? = some y := by
  subst hj
  have : P ++ x :: y :: S = (P ++ [x]) ++ y :: S := by simp
  rw [this]; exact get_mid (by simp)
theorem split_at {l : List α} {k : Nat} (h : k < l.length) : l = l.take k ++ l[k] :: l.drop (k + 1) := by
  rw [List.getElem_cons_drop, List.take_append_drop]
end
end Go.Vl

