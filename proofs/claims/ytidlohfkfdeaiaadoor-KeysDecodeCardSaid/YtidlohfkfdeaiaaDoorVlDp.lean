/- An encoding is decoded to what it is of, and only that is decoded: the plain law. -/
import Derived.Test.YtidlohfkfdeaiaaDoorVlX2
import Derived.Test.YtidlohfkfdeaiaaDoorVlLawF
set_option linter.unusedSimpArgs false
set_option linter.unusedVariables false
namespace Go.Proofs.YtidlohfkfdeaiaaDoor
open Go Go.Vl

theorem vT_eq (t : Tb) : validTR t = validT t := by
  have g : ∀ a b c : Bool, (a && (b && c)) = (c && (b && a)) := by decide
  exact g _ _ _
theorem keyD_ok {l : List Int} {v : B} (h : ∀ x ∈ l, I64 x) : (keyD l v).ok := by
  have g : ∀ i, I64 (l.getD i 0) := fun i => by
    rw [List.getD_eq_getElem?_getD]
    cases hx : l[i]? with
    | none => exact ⟨by decide, by decide⟩
    | some x => exact h x (List.mem_of_getElem? hx)
  exact ⟨g 0, g 1, g 2, g 3, g 4, g 5, g 6⟩
theorem wi_01 {x : Int} (h : wi x 0 1 = true) : rawI (decide (x = 1)) = x := by
  unfold wi at h
  simp only [Bool.and_eq_true, decide_eq_true_eq] at h
  unfold rawI
  by_cases h1 : x = 1
  · simp [h1]
  · simp [h1]; omega
/-- What was read as a key has this encoding. -/
theorem encK_keyD {l : List Int} {v : B} (h8 : l.length = 8) (h : wi (l.getD 7 0) 0 1 = true) : encK (keyD l v) = encIs l ++ encB v := by
  match l, h8 with
  | [l0, l1, l2, l3, l4, l5, l6, l7], _ =>
    have h : wi l7 0 1 = true := h
    have e := wi_01 h
    show encIs [l0, l1, l2, l3, l4, l5, l6, rawI (decide (l7 = 1))] ++ encB v = _
    rw [e]
theorem decL_dec : ∀ (n : Nat) (ks : List Ky) (r : B) (st : Bool) (ks' : List Ky) (r' : B), decL n ks r st = (0, ks', r', false) →
    st = false ∧ ∃ ms : List Ky, ks' = ks ++ ms ∧ ms.length = n ∧ r = (ms.map encK).flatten ++ r' ∧ ∀ k ∈ ms, k.ok
  | 0, ks, r, st, ks', r', h => by
    simp only [decL, Prod.mk.injEq, true_and] at h
    obtain ⟨rfl, rfl, rfl⟩ := h
    exact ⟨rfl, [], by simp, rfl, by simp, by simp⟩
  | n + 1, ks, r, st, ks', r', h => by
    unfold decL at h
    rcases hg : getIs r with ⟨l, u3, e3⟩
    rw [hg] at h
    simp only at h
    split at h
    · rename_i he
      simp only [Prod.mk.injEq] at h
      exact absurd h.1 he
    rename_i he
    obtain rfl : e3 = 0 := by simpa using he
    split at h
    · simp only [Prod.mk.injEq] at h
      exact absurd h.1 (by decide)
    rename_i h8
    have h8 : l.length = 8 := by simpa using h8
    rcases hB : getB (r.drop u3) with ⟨x, u4, e4⟩
    rw [hB] at h
    simp only at h
    split at h
    · rename_i he4
      simp only [Prod.mk.injEq] at h
      exact absurd h.1 he4
    rename_i he4
    obtain rfl : e4 = 0 := by simpa using he4
    obtain ⟨hst, ms, h1, h2, h3, h4⟩ := decL_dec n _ _ _ _ _ h
    simp only [Bool.or_eq_false_iff, Bool.not_eq_false'] at hst
    obtain ⟨g1, g2, g3⟩ := getIs_dec hg
    obtain ⟨g4, _⟩ := getB_dec hB
    refine ⟨hst.1, keyD l x :: ms, by rw [h1]; simp, by simp [h2], ?_, fun k hk => ?_⟩
    · rw [List.map_cons, List.flatten_cons, encK_keyD h8 hst.2, List.append_assoc, List.append_assoc, ← h3, ← g4, ← g2, List.take_append_drop]
    · rcases List.mem_cons.1 hk with rfl | hk
      · exact keyD_ok g3
      · exact h4 k hk
theorem decL_enc : ∀ (ms ks : List Ky) (r : B), (∀ k ∈ ms, k.ok ∧ k.val.length ≤ 1000) → decL ms.length ks ((ms.map encK).flatten ++ r) false = (0, ks ++ ms, r, false)
  | [], ks, r, _ => by simp [decL]
  | k :: ms, ks, r, h => by
    obtain ⟨⟨g1, g2, g3, g4, g5, g6, g7⟩, g8⟩ := h k (by simp)
    have gr : I64 (rawI k.raw) := by unfold rawI; split <;> exact ⟨by decide, by decide⟩
    have e1 : ((k :: ms).map encK).flatten ++ r = encIs [k.id, k.ty, k.uses, k.st, k.en, k.ver, k.par, rawI k.raw] ++ (encB k.val ++ ((ms.map encK).flatten ++ r)) := by
      rw [List.map_cons, List.flatten_cons]
      unfold encK
      simp only [List.append_assoc]
    have hI := getIs_enc (l := [k.id, k.ty, k.uses, k.st, k.en, k.ver, k.par, rawI k.raw]) (r := encB k.val ++ ((ms.map encK).flatten ++ r)) (by simp) (by simp [g1, g2, g3, g4, g5, g6, g7, gr])
    have hB := getB_enc (s := k.val) (r := (ms.map encK).flatten ++ r) (by omega)
    have hk : keyD [k.id, k.ty, k.uses, k.st, k.en, k.ver, k.par, rawI k.raw] k.val = k := by
      obtain ⟨id, ty, val, us, st, en, ver, par, raw⟩ := k
      cases raw <;> rfl
    have hw : wi (([k.id, k.ty, k.uses, k.st, k.en, k.ver, k.par, rawI k.raw] : List Int).getD 7 0) 0 1 = true := by
      show wi (rawI k.raw) 0 1 = true
      cases k.raw <;> rfl
    have hl : ([k.id, k.ty, k.uses, k.st, k.en, k.ver, k.par, rawI k.raw] : List Int).length = 8 := rfl
    rw [e1]
    generalize ([k.id, k.ty, k.uses, k.st, k.en, k.ver, k.par, rawI k.raw] : List Int) = l at *
    show decL (ms.length + 1) ks _ false = _
    unfold decL
    simp only [hI, List.drop_left, hB, hk, hw, hl, ne_eq, not_true_eq_false, if_false, Bool.not_true, Bool.or_self]
    rw [decL_enc ms (ks ++ [k]) r fun x hx => h x (List.mem_cons_of_mem _ hx), List.append_assoc]
    rfl
/-- What is decoded is a valid table, and has this encoding. -/
theorem decT_dec {b : B} {t : Tb} (h : decT b = (t, 0)) : validT t = true ∧ t.ok ∧ encT t = b := by
  unfold decT at h
  rcases hg : getI b with ⟨nx, u1, e1⟩
  rw [hg] at h
  simp only at h
  split at h
  · rename_i he
    simp only [Prod.mk.injEq] at h
    exact absurd h.2 he
  rename_i he
  obtain rfl : e1 = 0 := by simpa using he
  unfold decR at h
  rcases hg2 : getI (b.drop u1) with ⟨cnt, u2, e2⟩
  rw [hg2] at h
  simp only at h
  split at h
  · rename_i he
    simp only [Prod.mk.injEq] at h
    exact absurd h.2 he
  rename_i he
  obtain rfl : e2 = 0 := by simpa using he
  split at h
  · simp only [Prod.mk.injEq] at h
    exact absurd h.2 (by decide)
  rename_i hw
  rcases hd : decL cnt.toNat [] ((b.drop u1).drop u2) false with ⟨e, ks, r, st⟩
  rw [hd] at h
  unfold decE at h
  simp only at h
  split at h
  · rename_i he
    simp only [Prod.mk.injEq] at h
    exact absurd h.2 he
  rename_i he
  obtain rfl : e = 0 := by simpa using he
  split at h
  · simp only [Prod.mk.injEq] at h
    exact absurd h.2 (by decide)
  rename_i hr
  obtain rfl : r = [] := by
    cases r with
    | nil => rfl
    | cons x r => exact absurd (by simp) hr
  split at h
  · simp only [Prod.mk.injEq] at h
    exact absurd h.2 (by decide)
  rename_i hst
  obtain rfl : st = false := by simpa using hst
  split at h
  · simp only [Prod.mk.injEq] at h
    exact absurd h.2 (by decide)
  rename_i hv
  simp only [Prod.mk.injEq, and_true] at h
  subst h
  obtain ⟨_, ms, h1, h2, h3, h4⟩ := decL_dec _ _ _ _ _ _ hd
  rw [List.nil_append] at h1
  subst h1
  rw [List.append_nil] at h3
  obtain ⟨i1, i2, i3, i4⟩ := enc_getI hg
  obtain ⟨j1, j2, j3, j4⟩ := enc_getI hg2
  have hc : ((ks.length : Nat) : Int) = cnt := by
    have hw : wi cnt 0 4096 = true := by simpa using hw
    unfold wi at hw
    simp only [Bool.and_eq_true, decide_eq_true_eq] at hw
    rw [h2]; omega
  refine ⟨by simpa using hv, ⟨i1, h4⟩, ?_⟩
  show encI nx ++ encI (ks.length : Int) ++ (ks.map encK).flatten = b
  rw [hc, ← h3, ← j3, ← i3, List.append_assoc, List.take_append_drop, List.take_append_drop]
theorem vL_val {nx : Int} : ∀ {ks : List Ky} {last : Int}, valL nx last ks = true → ∀ k ∈ ks, k.val.length = 32
  | [], _, _, k, hk => by simp at hk
  | a :: r, last, h, k, hk => by
    have h : (okNext nx last a && valL nx a.id r) = true := h
    rw [Bool.and_eq_true] at h
    rcases List.mem_cons.1 hk with rfl | hk
    · have := h.1
      unfold okNext at this
      rw [Bool.and_eq_true] at this
      exact valid_len this.1
    · exact vL_val h.2 k hk
theorem validT_val {t : Tb} (h : validT t = true) : ∀ k ∈ t.ks, k.val.length = 32 := by
  unfold validT at h
  rw [Bool.and_eq_true] at h
  exact vL_val h.1
theorem validT_len {t : Tb} (h : validT t = true) : t.ks.length ≤ 4096 := by
  unfold validT at h
  simp only [Bool.and_eq_true, decide_eq_true_eq] at h
  exact h.2.2
/-- The encoding of a valid table is decoded to it. -/
theorem decT_enc {t : Tb} (ht : t.ok) (h : validT t = true) : decT (encT t) = (t, 0) := by
  have hl := validT_len h
  have hv := validT_val h
  have h1 := getI_enc ht.1 (encI (t.ks.length : Int) ++ (t.ks.map encK).flatten)
  have h2 := getI_enc (I64_nat (n := t.ks.length) (by omega)) ((t.ks.map encK).flatten)
  have h3 := decL_enc t.ks [] [] fun k hk => ⟨ht.2 k hk, by rw [hv k hk]; decide⟩
  rw [List.append_nil, List.nil_append] at h3
  have e : encT t = encI t.nx ++ (encI (t.ks.length : Int) ++ (t.ks.map encK).flatten) := List.append_assoc _ _ _
  have hw : wi (t.ks.length : Int) 0 4096 = true := by
    unfold wi
    rw [decide_eq_true (by omega : (0 : Int) ≤ (t.ks.length : Int)), decide_eq_true (by omega : ((t.ks.length : Nat) : Int) ≤ 4096)]
    rfl
  rw [e]
  unfold decT
  simp only [h1, List.drop_left, ne_eq, not_true_eq_false, if_false]
  unfold decR
  simp only [h2, List.drop_left, ne_eq, not_true_eq_false, if_false, hw, Int.toNat_natCast, h3]
  unfold decE
  have hv2 : validT ⟨t.nx, t.ks⟩ = true := h
  simp [hv2]
end Go.Proofs.YtidlohfkfdeaiaaDoor
