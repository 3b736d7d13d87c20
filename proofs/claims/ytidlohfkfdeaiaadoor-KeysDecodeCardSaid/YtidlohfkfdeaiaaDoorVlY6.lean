/- Layer 27: a key is looked up. -/
import Derived.Test.YtidlohfkfdeaiaaDoorVlY4
import Derived.Test.YtidlohfkfdeaiaaDoorVlY3
set_option linter.unusedSimpArgs false
set_option linter.unusedVariables false
namespace Go.Proofs.YtidlohfkfdeaiaaDoor
open Go Go.Vl

variable {G : Gl}
theorem isNaN_ok (n : Int) : FnOK Tryd.prog G 105 [i64 n] (bo false) := by
  refine FnOK_by (rs := [.tmp 2]) false [] mixed Tryd.func105 rfl rfl rfl rfl (by kernel_rfl) (by simp) rfl rfl ?_
  have h : (!decide (n = n)) = false := by simp
  simp -implicitDefEqProofs only [pkA, ↓reduceIte, Nat.reduceEqDiff, Nat.reduceAdd, Nat.zero_add, decide_true]
def cmpI (a b : Int) : Int := if a < b then -1 else if b < a then 1 else 0
theorem Compare_ok (a b : Int) : FnOK Tryd.prog G 94 [i64 a, i64 b] (i64 (cmpI a b)) := by
  refine FnOK_by (rs := [.tmp 4]) false [] mixed Tryd.func94 rfl rfl rfl rfl (by kernel_rfl) (by simp) rfl rfl ?_
  simp -implicitDefEqProofs only [pkA, ↓reduceIte, Nat.reduceEqDiff, Nat.reduceAdd, Nat.zero_add]
  refine call_fn rfl (isNaN_ok a) (fun _ => rfl) ?_
  simp -implicitDefEqProofs only [pkA, ↓reduceIte, Nat.reduceEqDiff, Nat.reduceAdd]
  refine call_fn rfl (isNaN_ok b) (fun _ => rfl) ?_
  simp -implicitDefEqProofs only [pkA, ↓reduceIte, Nat.reduceEqDiff, Nat.reduceAdd]
  unfold cmpI
  refine vcond_of (fun h => ?_) (fun h => ?_)
  · have h := of_decide_eq_true h
    rw [if_pos h]
    simp -implicitDefEqProofs only [pkA, ↓reduceIte, Nat.reduceAdd]
  have h := of_decide_eq_false h
  rw [if_neg h]
  simp -implicitDefEqProofs only [pkA, ↓reduceIte, Nat.reduceEqDiff, Nat.reduceAdd]
  refine vcond_of (fun h => ?_) (fun h => ?_)
  · have h := of_decide_eq_true h
    rw [if_pos h]
    simp -implicitDefEqProofs only [pkA, ↓reduceIte, Nat.reduceAdd]
  have h := of_decide_eq_false h
  rw [if_neg h]
  simp -implicitDefEqProofs only [pkA, ↓reduceIte, Nat.reduceAdd]
theorem find1_ok (k : Ky) (x : Int) : FnOK Tryd.prog G 93 [kv k, i64 x] (i64 (cmpI k.id x)) := by
  refine FnOK_by (rs := [.tmp 4]) false [] mixed Tryd.func93 rfl rfl rfl rfl (by kernel_rfl) (by simp) rfl rfl ?_
  have p0 : ∀ K, partV false 1 0 (kC k) K = K (i64 k.id) := fun K => rfl
  simp -implicitDefEqProofs only [pkA, ptA, ↓reduceIte, Nat.reduceEqDiff, Nat.reduceAdd, Nat.reduceMul, Nat.reduceLT, Nat.zero_add, decide_true, p0]
  exact call_fn rfl (Compare_ok k.id x) (fun _ => rfl) (by simp -implicitDefEqProofs only [pkA, ↓reduceIte])
/-- Keys in the order of their Ids. -/
def sortedK (ks : List Ky) : Prop := ∀ (i j : Nat) (a b : Ky), i < j → ks[i]? = some a → ks[j]? = some b → a.id < b.id
/-- How many are less. -/
def lowK (ks : List Ky) (x : Int) : Nat := (ks.takeWhile fun k => decide (k.id < x)).length
theorem lowK_le (ks : List Ky) (x : Int) : lowK ks x ≤ ks.length := by
  unfold lowK
  exact (List.takeWhile_prefix _).length_le
theorem lowK_lt {x : Int} : ∀ {ks : List Ky} {i : Nat} {k : Ky}, sortedK ks → ks[i]? = some k → (i < lowK ks x ↔ k.id < x)
  | [], _, _, _, h => by simp at h
  | a :: r, i, k, hs, h => by
    have hsr : sortedK r := fun i j a b hij h1 h2 => hs (i + 1) (j + 1) a b (by omega) (by simpa using h1) (by simpa using h2)
    unfold lowK
    by_cases ha : a.id < x
    · rw [List.takeWhile_cons_of_pos (by simpa using ha)]
      cases i with
      | zero =>
        obtain rfl : a = k := by simpa using h
        simp [ha]
      | succ i =>
        have ih := lowK_lt (x := x) hsr (show r[i]? = some k by simpa using h)
        unfold lowK at ih
        rw [List.length_cons, Nat.succ_lt_succ_iff]; exact ih
    · rw [List.takeWhile_cons_of_neg (by simpa using ha)]
      have : ¬ k.id < x := by
        cases i with
        | zero =>
          obtain rfl : a = k := by simpa using h
          exact ha
        | succ i =>
          have := hs 0 (i + 1) a k (by omega) rfl h
          omega
      simp [this]
/-- The key at the place. -/
def hasK (ks : List Ky) (x : Int) : Bool := match ks[lowK ks x]? with
  | some k => decide (cmpI k.id x = 0)
  | none => false
set_option maxRecDepth 100000 in
set_option maxHeartbeats 1500000 in
theorem Bin_ok (ks : List Ky) (x : Int) (hs : sortedK ks) (hl : ks.length ≤ 1000000) : FnOK Tryd.prog G 92 [.c (.sl (ks.map kC)), i64 x, .c (.fn (.func 93) [] [])] (.tup [i64 (lowK ks x : Nat), bo (hasK ks x)]) := by
  refine FnOK_by (rs := [.tmp 6, .tmp 7]) false [] mixed Tryd.func92 rfl rfl rfl rfl (by kernel_rfl) (by simp) rfl rfl ?_
  simp -implicitDefEqProofs only [pkA, ptA, ↓reduceIte, Nat.reduceEqDiff, Nat.reduceAdd, Nat.zero_add, List.length_map]
  have hlow := lowK_le ks x
  have pa : ∀ k s K, vload Tryd.prog 26 s (.c (.rp (kC k) 0)) K = K (kv k) := fun k s K => ld_all ti_26 rfl (kC_len k)
  refine run_loop (fun y : Nat × Nat => hdS [(0, .c (.sl (ks.map kC))), (1, i64 x), (2, .c (.fn (.func 93) [] [])), (8, i64 (ks.length : Nat)), (9, i64 (y.1 : Nat)), (10, i64 (y.2 : Nat))] []) (fun y => y.2 - y.1) (fun y => y.1 ≤ lowK ks x ∧ lowK ks x ≤ y.2 ∧ y.2 ≤ ks.length) (0, ks.length) ⟨Nat.zero_le _, hlow, Nat.le_refl _⟩ ?_ ?_
  · refine le_hd rfl (Nat.zero_le _) (by simp) (by simp [FL, up_apply]) trivial
  rintro ⟨i, j⟩ ⟨h1, h2, h3⟩ R hnorm hexit hret
  simp only at h1 h2 h3
  simp -implicitDefEqProofs only [pkA, ↓reduceIte, Nat.reduceEqDiff, Nat.reduceAdd]
  refine vcond_of (fun hp => ?_) (fun hz => ?_)
  · have hp : i < j := by have := dlt hp; omega
    have hw := wrap_of (n := (i : Int) + (j : Int)) (k := i + j) (by omega) (by omega)
    have hc1 : ∀ K, vconv Tryd.prog 3 116 (i64 ((i + j : Nat) : Int)) K = K (.c (.lit (.int .u64 ((i + j : Nat) : Int)))) := fun K => by
      have e : IntKind.u64.wrap ((i + j : Nat) : Int) = ((i + j : Nat) : Int) := by rw [IntKind.wrap_u64]; omega
      simp only [vconv, ti_3, ti_116, e]
    have hsh : ∀ K, vint .shr .u64 ((i + j : Nat) : Int) 1 K = K (.c (.lit (.int .u64 (((i + j) / 2 ^ 1 : Nat) : Int)))) := fun K => q_shr (n := 1) (by decide)
    have hc2 : ∀ K, vconv Tryd.prog 116 3 (.c (.lit (.int .u64 (((i + j) / 2 ^ 1 : Nat) : Int)))) K = K (i64 (((i + j) / 2 : Nat) : Int)) := fun K => by
      have e := wrap_of (n := (((i + j) / 2 ^ 1 : Nat) : Int)) (k := (i + j) / 2) rfl (by omega)
      simp only [vconv, ti_3, ti_116, e]
    have hh : i ≤ (i + j) / 2 ∧ (i + j) / 2 < j := by omega
    generalize hhe : (i + j) / 2 = h at *
    have hw1 := wrap_of (n := (h : Int) + 1) (k := h + 1) (by omega) (by omega)
    obtain ⟨k, hk⟩ : ∃ k, ks[h]? = some k := ⟨ks[h]'(by omega), List.getElem?_eq_getElem _⟩
    have hlt := lowK_lt (x := x) hs hk
    simp -implicitDefEqProofs only [pkA, ↓reduceIte, Nat.reduceEqDiff, Nat.reduceAdd, hw, hc1, hsh, hc2]
    refine ia_ks hk rfl ?_
    simp -implicitDefEqProofs only [pkA, ↓reduceIte, Nat.reduceEqDiff, Nat.reduceAdd, pa, kv]
    refine call_fn rfl (find1_ok k x) (fun _ => rfl) ?_
    simp -implicitDefEqProofs only [pkA, ↓reduceIte]
    refine vcond_of (fun hc => ?_) (fun hc => ?_)
    · have hc : cmpI k.id x < 0 := of_decide_eq_true hc
      have hkx : k.id < x := by
        unfold cmpI at hc
        split at hc
        · assumption
        · split at hc <;> omega
      simp -implicitDefEqProofs only [pkA, ↓reduceIte, Nat.reduceEqDiff, Nat.reduceAdd, hw1]
      exact hnorm (h + 1, j) _ ⟨hlt.2 hkx, h2, h3⟩ (show j - (h + 1) < j - i by omega) (le_hd rfl (Nat.zero_le _) (by simp) (by simp [FL, up_apply]) trivial)
    · have hc : ¬ cmpI k.id x < 0 := of_decide_eq_false hc
      have hkx : ¬ k.id < x := fun h => hc (by unfold cmpI; rw [if_pos h]; decide)
      have hkl : ¬ h < lowK ks x := fun q => hkx (hlt.1 q)
      simp -implicitDefEqProofs only [pkA, ↓reduceIte, Nat.reduceEqDiff, Nat.reduceAdd]
      exact hnorm (i, h) _ ⟨h1, (by omega : lowK ks x ≤ h), (by omega : h ≤ ks.length)⟩ (show h - i < j - i by omega) (le_hd rfl (Nat.zero_le _) (by simp) (by simp [FL, up_apply]) trivial)
  have hz : ¬ i < j := by have := dge hz; omega
  have hi : i = lowK ks x := by omega
  simp -implicitDefEqProofs only [pkA]
  refine hexit _ _ ?_
  clear hexit hnorm hret
  subst hi
  unfold hasK
  simp -implicitDefEqProofs only [pkA, ↓reduceIte, Nat.reduceEqDiff, Nat.reduceAdd]
  by_cases hlt : lowK ks x < ks.length
  · have d1 : decide (((lowK ks x : Nat) : Int) < (ks.length : Nat)) = true := decide_eq_true (by omega)
    obtain ⟨k, hk⟩ : ∃ k, ks[lowK ks x]? = some k := ⟨ks[lowK ks x], List.getElem?_eq_getElem hlt⟩
    rw [hk]
    generalize lowK ks x = n at *
    simp -implicitDefEqProofs only [pkA, ↓reduceIte, Nat.reduceEqDiff, d1]
    refine ia_ks hk rfl ?_
    simp -implicitDefEqProofs only [pkA, ↓reduceIte, Nat.reduceEqDiff, Nat.reduceAdd, pa, kv]
    refine call_fn rfl (find1_ok k x) (fun _ => rfl) ?_
    simp -implicitDefEqProofs only [pkA, ↓reduceIte, Nat.reduceEqDiff]
    refine retV_two ?_ ?_ <;> rfl
  · have d1 : decide (((lowK ks x : Nat) : Int) < (ks.length : Nat)) = false := decide_eq_false (by omega)
    have hk : ks[lowK ks x]? = none := List.getElem?_eq_none (by omega)
    rw [hk]
    generalize lowK ks x = n at *
    simp -implicitDefEqProofs only [pkA, ↓reduceIte, Nat.reduceEqDiff, d1]
    refine retV_two ?_ ?_ <;> rfl
def getK (ks : List Ky) (x : Int) : Option Ky := ks.find? fun k => decide (k.id = x)
theorem cmp0 {a b : Int} : cmpI a b = 0 ↔ a = b := by
  unfold cmpI
  split
  · constructor <;> intro h <;> omega
  · split
    · constructor <;> intro h <;> omega
    · constructor <;> intro h <;> omega
theorem hasK_get {x : Int} : ∀ {ks : List Ky}, sortedK ks → getK ks x = if hasK ks x then ks[lowK ks x]? else none
  | [], _ => by simp [getK, hasK, lowK]
  | a :: r, hs => by
    have hsr : sortedK r := fun i j a b hij h1 h2 => hs (i + 1) (j + 1) a b (by omega) (by simpa using h1) (by simpa using h2)
    by_cases ha : a.id < x
    · have ih := hasK_get (x := x) hsr
      have e1 : lowK (a :: r) x = lowK r x + 1 := by unfold lowK; rw [List.takeWhile_cons_of_pos (by simpa using ha), List.length_cons]
      have e2 : hasK (a :: r) x = hasK r x := by unfold hasK; rw [e1, List.getElem?_cons_succ]
      have e3 : getK (a :: r) x = getK r x := by
        unfold getK
        rw [List.find?_cons_of_neg (by simp; omega)]
      rw [e3, ih, e2, e1, List.getElem?_cons_succ]
    · have e1 : lowK (a :: r) x = 0 := by unfold lowK; rw [List.takeWhile_cons_of_neg (by simpa using ha)]; rfl
      have e2 : hasK (a :: r) x = decide (cmpI a.id x = 0) := by unfold hasK; rw [e1]; rfl
      rw [e1, e2]
      by_cases hx : a.id = x
      · have : getK (a :: r) x = some a := by unfold getK; rw [List.find?_cons_of_pos (by simpa using hx)]
        rw [this, decide_eq_true (cmp0.2 hx)]; rfl
      · have : getK (a :: r) x = none := by
          unfold getK
          rw [List.find?_cons_of_neg (by simpa using hx), List.find?_eq_none]
          intro b hb
          obtain ⟨j, hj⟩ := List.mem_iff_getElem?.1 hb
          have := hs 0 (j + 1) a b (by omega) rfl (by simpa using hj)
          simp; omega
        rw [this, decide_eq_false (fun h => hx (cmp0.1 h))]; rfl
theorem hasK_at {ks : List Ky} {x : Int} (h : hasK ks x = true) : ∃ k, ks[lowK ks x]? = some k := by
  unfold hasK at h
  split at h
  · exact ⟨_, by assumption⟩
  · cases h
set_option maxRecDepth 100000 in
theorem find_ok (t : Tb) (x : Int) (hs : sortedK t.ks) (hl : t.ks.length ≤ 1000000) : FnOK Tryd.prog G 70 [tv t, i64 x] (.tup [i64 (if hasK t.ks x then (lowK t.ks x : Nat) else 0 : Int), i64 (if hasK t.ks x then 0 else 11)]) := by
  refine FnOK_by (rs := [.tmp 4, .tmp 5]) false [] mixed Tryd.func70 rfl rfl rfl rfl (by kernel_rfl) (by simp) rfl rfl ?_
  obtain ⟨nx, ks⟩ := t
  simp only at hs hl
  simp -implicitDefEqProofs only [pkA, ptA, ↓reduceIte, Nat.reduceEqDiff, Nat.reduceAdd, Nat.reduceMul, Nat.reduceLT, Nat.zero_add, decide_true, tv, tC]
  refine call_fn rfl (Bin_ok ks x hs hl) (fun _ => rfl) ?_
  cases hh : hasK ks x
  · simp -implicitDefEqProofs only [pkA, ↓reduceIte, Nat.reduceEqDiff, Nat.reduceAdd]
    refine retV_two ?_ ?_ <;> rfl
  · simp -implicitDefEqProofs only [pkA, ↓reduceIte, Nat.reduceEqDiff, Nat.reduceAdd]
    refine retV_two ?_ ?_ <;> rfl
def getT (t : Tb) (x : Int) : Ky × Int := match getK t.ks x with
  | some k => (k, 0)
  | none => (k0, 11)
theorem ret2 {b : Nat} {fr : Nat → V} {bx : Nat → List V} {e : Int} {k : Ky} {c u nb : Nat} (h1 : fr c = .bp b 0) (hb : b < nb) (h2 : bx b = (kC k).map .c) (h3 : (fr u).fz = i64 e) : retV Tryd.prog false ⟨fr, bx, nb⟩ (.tup [kv k, i64 e]) [.cell c 26, .tmp u] := by
  refine retV_ct ?_ h3
  simp -implicitDefEqProofs only [resV, pkA, ptA, h1, h2]
  exact lda_kv hb rfl
set_option maxRecDepth 100000 in
theorem Get_ok (t : Tb) (x : Int) (hs : sortedK t.ks) (hl : t.ks.length ≤ 1000000) : FnOK Tryd.prog G 32 [tv t, i64 x] (.tup [kv (getT t x).1, i64 (getT t x).2]) := by
  refine FnOK_by (rs := [.cell 4 26, .tmp 5]) false [] mixed Tryd.func32 rfl rfl rfl rfl (by kernel_rfl) (by simp) rfl rfl ?_
  have hf := find_ok (G := G) t x hs hl
  obtain ⟨nx, ks⟩ := t
  simp only at hs hl hf
  have pa : ∀ k s K, vload Tryd.prog 26 s (.c (.rp (kC k) 0)) K = K (kv k) := fun k s K => ld_all ti_26 rfl (kC_len k)
  have hset : ∀ (k : Ky) (l : List V), l.length = 9 → setV l 0 ((kC k).map V.c) = (kC k).map V.c := fun k l h => setV_all (by rw [h]; rfl)
  have hg : getT ⟨nx, ks⟩ x = match getK ks x with | some k => (k, 0) | none => (k0, 11) := rfl
  rw [hg, hasK_get hs]
  simp -implicitDefEqProofs only [pkA, ptA, ↓reduceIte, Nat.reduceEqDiff, Nat.reduceAdd, Nat.reduceMul, Nat.reduceLT, Nat.zero_add, decide_true, tv, tC]
  refine call_fn rfl hf (fun _ => rfl) ?_
  have d11 : (!decide ((11 : Int) = 0)) = true := rfl
  have d00 : (!decide ((0 : Int) = 0)) = false := rfl
  cases hh : hasK ks x
  · simp -implicitDefEqProofs only [pkA, ptA, ↓reduceIte, Nat.reduceEqDiff, Nat.reduceAdd, Nat.reduceMul, Nat.reduceLT, Nat.reduceLeDiff, Nat.zero_add, decide_true, d11]
    exact ret2 rfl (by decide) rfl rfl
  · obtain ⟨k, hk⟩ := hasK_at hh
    rw [hk]
    simp -implicitDefEqProofs only [pkA, ptA, ↓reduceIte, Nat.reduceEqDiff, Nat.reduceAdd, Nat.reduceMul, Nat.reduceLT, Nat.zero_add, decide_true]
    refine ia_ks hk rfl ?_
    simp -implicitDefEqProofs only [pkA, ptA, ↓reduceIte, Nat.reduceEqDiff, Nat.reduceAdd, Nat.reduceMul, Nat.reduceLT, Nat.reduceLeDiff, Nat.zero_add, decide_true, pa, kv]
    rw [hset _ _ rfl]
    exact ⟨rfl, ret2 rfl (by decide) rfl rfl⟩
def alwT (t : Tb) (x uses now : Int) : Ky × Int := match getK t.ks x with
  | none => (k0, 11)
  | some k => if liveK k now then (if bits .andNot .i64 uses k.uses = 0 then (k, 0) else (k0, 10)) else (k0, 13)
set_option maxRecDepth 100000 in
set_option maxHeartbeats 1500000 in
theorem Allowed_ok (t : Tb) (x uses now : Int) (hs : sortedK t.ks) (hl : t.ks.length ≤ 1000000) : FnOK Tryd.prog G 12 [tv t, i64 x, i64 uses, i64 now] (.tup [kv (alwT t x uses now).1, i64 (alwT t x uses now).2]) := by
  refine FnOK_by (rs := [.cell 8 26, .tmp 9]) false [] mixed Tryd.func12 rfl rfl rfl rfl (by kernel_rfl) (by simp) rfl rfl ?_
  have hf := Get_ok (G := G) t x hs hl
  obtain ⟨nx, ks⟩ := t
  simp only at hs hl hf
  have hset : ∀ (k : Ky) (l : List V), l.length = 9 → setV l 0 ((kC k).map V.c) = (kC k).map V.c := fun k l h => setV_all (by rw [h]; rfl)
  have hg : getT ⟨nx, ks⟩ x = match getK ks x with | some k => (k, 0) | none => (k0, 11) := rfl
  have ha : alwT ⟨nx, ks⟩ x uses now = match getK ks x with | none => (k0, 11) | some k => if liveK k now then (if bits .andNot .i64 uses k.uses = 0 then (k, 0) else (k0, 10)) else (k0, 13) := rfl
  rw [hg] at hf
  rw [ha]
  simp -implicitDefEqProofs only [pkA, ptA, ↓reduceIte, Nat.reduceEqDiff, Nat.reduceAdd, Nat.reduceMul, Nat.reduceLT, Nat.zero_add, decide_true, tv, tC]
  refine call_fn rfl hf (fun _ => rfl) ?_
  have d11 : (!decide ((11 : Int) = 0)) = true := rfl
  have d00 : (!decide ((0 : Int) = 0)) = false := rfl
  cases hgk : getK ks x with
  | none =>
    simp -implicitDefEqProofs only [pkA, ptA, ↓reduceIte, Nat.reduceEqDiff, Nat.reduceAdd, Nat.reduceMul, Nat.reduceLT, Nat.reduceLeDiff, Nat.zero_add, decide_true, kv]
    rw [hset _ _ rfl]
    refine ⟨rfl, ?_⟩
    simp -implicitDefEqProofs only [pkA, ptA, ↓reduceIte, Nat.reduceEqDiff, Nat.reduceAdd, Nat.reduceMul, Nat.reduceLT, Nat.reduceLeDiff, Nat.zero_add, decide_true, d11]
    exact ret2 rfl (by decide) rfl rfl
  | some k =>
    have p3 : ∀ K, partV false 1 3 (kC k) K = K (i64 k.uses) := fun K => rfl
    have ea : ∀ K, vint .andNot .i64 uses k.uses K = K (.c (.lit (.int .i64 (bits .andNot .i64 uses k.uses)))) := fun _ => rfl
    simp -implicitDefEqProofs only [pkA, ptA, ↓reduceIte, Nat.reduceEqDiff, Nat.reduceAdd, Nat.reduceMul, Nat.reduceLT, Nat.reduceLeDiff, Nat.zero_add, decide_true, kv]
    rw [hset _ _ rfl]
    refine ⟨rfl, ?_⟩
    simp -implicitDefEqProofs only [pkA]
    refine lda_kv (by decide) ?_
    simp -implicitDefEqProofs only [pkA, ↓reduceIte, Nat.reduceEqDiff, Nat.reduceAdd]
    refine call_fn rfl (Live_ok k now) (fun _ => rfl) ?_
    cases hlv : liveK k now
    · simp -implicitDefEqProofs only [pkA, ptA, ↓reduceIte, Nat.reduceEqDiff, Nat.reduceAdd, Nat.reduceMul, Nat.reduceLT, Nat.reduceLeDiff, Nat.zero_add, decide_true]
      exact ret2 rfl (by decide) rfl rfl
    simp -implicitDefEqProofs only [pkA, ptA, ↓reduceIte, Nat.reduceEqDiff, Nat.reduceAdd, Nat.reduceMul, Nat.reduceLT, Nat.zero_add, decide_true, p3, ea]
    refine vcond_of (fun h => ?_) (fun h => ?_)
    · have h : bits .andNot .i64 uses k.uses ≠ 0 := by simpa using h
      rw [if_neg h]
      simp -implicitDefEqProofs only [pkA, ptA, ↓reduceIte, Nat.reduceEqDiff, Nat.reduceAdd, Nat.reduceMul, Nat.reduceLT, Nat.reduceLeDiff, Nat.zero_add, decide_true]
      exact ret2 rfl (by decide) rfl rfl
    · have h : bits .andNot .i64 uses k.uses = 0 := by simpa using h
      rw [if_pos h]
      simp -implicitDefEqProofs only [pkA, ptA, ↓reduceIte, Nat.reduceEqDiff, Nat.reduceAdd, Nat.reduceMul, Nat.reduceLT, decide_true]
      refine lda_kv (by decide) ?_
      simp -implicitDefEqProofs only [pkA, ptA, ↓reduceIte, Nat.reduceEqDiff, Nat.reduceAdd, Nat.reduceMul, Nat.reduceLT, Nat.reduceLeDiff, Nat.zero_add, decide_true, kv]
      rw [hset _ _ rfl]
      exact ⟨rfl, ret2 rfl (by decide) rfl rfl⟩
def endT (t : Tb) (now : Int) : List Int := (t.ks.filter fun k => decide (k.en ≤ now)).map Ky.id
theorem end_snoc {ks : List Ky} {i : Nat} {k : Ky} {now : Int} (h : ks[i]? = some k) : ((ks.take (i + 1)).filter fun k => decide (k.en ≤ now)).map Ky.id = ((ks.take i).filter fun k => decide (k.en ≤ now)).map Ky.id ++ (if k.en ≤ now then [k.id] else []) := by
  rw [take_snoc h, List.filter_append, List.map_append]
  by_cases hk : k.en ≤ now <;> simp [hk]
theorem end_len {ks : List Ky} {now : Int} : ((ks.filter fun k => decide (k.en ≤ now)).map Ky.id).length ≤ ks.length := by
  rw [List.length_map]; exact List.length_filter_le _ _
set_option maxRecDepth 100000 in
set_option maxHeartbeats 1500000 in
theorem Ended_ok (t : Tb) (now : Int) (hl : t.ks.length ≤ 1000000) : FnOK Tryd.prog G 17 [tv t, i64 now] (.c (.sl (mC ic (endT t now)))) := by
  refine FnOK_by (rs := [.tmp 4]) false [18] mixed Tryd.func17 rfl rfl rfl rfl (by kernel_rfl) (by simp) rfl rfl ?_
  obtain ⟨nx, ks⟩ := t
  simp only at hl
  have he : endT ⟨nx, ks⟩ now = (ks.filter fun k => decide (k.en ≤ now)).map Ky.id := rfl
  rw [he]
  simp -implicitDefEqProofs only [pkA, ptA, ↓reduceIte, Nat.reduceEqDiff, Nat.reduceAdd, Nat.reduceBEq, Nat.reduceMul, Nat.reduceLT, Nat.zero_add, decide_true, tv, tC, List.length_map]
  refine run_loop (fun y : Nat × Option (TypeId × Nat) => hdS [(1, i64 now), (4, .ow y.2 (mC ic (((ks.take y.1).filter fun k => decide (k.en ≤ now)).map Ky.id))), (8, .c (.sl (ks.map kC))), (9, i64 (ks.length : Nat)), (10, i64 (y.1 : Nat))] []) (fun y => ks.length - y.1) (fun y => y.1 ≤ ks.length ∧ (y.2 = none ∨ y.2 = EI)) (0, none) ⟨Nat.zero_le _, Or.inl rfl⟩ ?_ ?_
  · refine le_hd rfl (Nat.zero_le _) (by simp) (by simp [FL, up_apply]; rfl) trivial
  rintro ⟨i, E⟩ ⟨hi, hE⟩ R hnorm hexit hret
  simp only at hi hE
  have hwi := wrap_of (n := (i : Int) + 1) (k := i + 1) (by omega) (by omega)
  simp -implicitDefEqProofs only [pkA, ↓reduceIte, Nat.reduceEqDiff, Nat.reduceAdd, Nat.reduceBEq]
  refine vcond_of (fun hp => ?_) (fun hz => ?_)
  · have hp : i < ks.length := by have := dlt hp; omega
    obtain ⟨k, hk⟩ : ∃ k, ks[i]? = some k := ⟨ks[i], List.getElem?_eq_getElem hp⟩
    have p0 : ∀ K, partV false 1 0 (kC k) K = K (i64 k.id) := fun K => rfl
    have p5 : ∀ K, partV false 1 5 (kC k) K = K (i64 k.en) := fun K => rfl
    have pa : ∀ s K, vload Tryd.prog 26 s (.c (.rp (kC k) 0)) K = K (kv k) := fun s K => ld_all ti_26 rfl (kC_len k)
    have hset : ∀ l : List V, l.length = 9 → setV l 0 ((kC k).map V.c) = (kC k).map V.c := fun l h => setV_all (by rw [h]; rfl)
    have hsn := end_snoc (now := now) hk
    have hel := end_len (ks := ks.take i) (now := now)
    rw [List.length_take, Nat.min_eq_left hi] at hel
    simp -implicitDefEqProofs only [pkA, ↓reduceIte, Nat.reduceEqDiff, Nat.reduceAdd, Nat.reduceBEq]
    refine ia_ks hk rfl ?_
    simp -implicitDefEqProofs only [pkA, ptA, ↓reduceIte, Nat.reduceEqDiff, Nat.reduceAdd, Nat.reduceBEq, Nat.reduceMul, Nat.reduceLT, Nat.reduceLeDiff, Nat.zero_add, decide_true, pa, kv]
    rw [hset _ rfl]
    refine ⟨rfl, ?_⟩
    simp -implicitDefEqProofs only [pkA, ↓reduceIte, Nat.reduceEqDiff, Nat.reduceBEq, p5]
    refine vcond_of (fun hc => ?_) (fun hc => ?_)
    · have hc : k.en ≤ now := of_decide_eq_true hc
      rw [if_pos hc] at hsn
      simp -implicitDefEqProofs only [pkA, ptA, ↓reduceIte, Nat.reduceEqDiff, Nat.reduceAdd, Nat.reduceBEq, Nat.reduceMul, Nat.reduceLT, Nat.reduceLeDiff, Nat.zero_add, decide_true, p0]
      refine apI hE (by omega) ?_
      simp -implicitDefEqProofs only [pkA, ↓reduceIte, Nat.reduceEqDiff, Nat.reduceAdd, Nat.reduceBEq, hwi]
      refine hnorm (i + 1, EI) _ ⟨hp, Or.inr rfl⟩ (show ks.length - (i + 1) < ks.length - i by omega) (le_hd rfl (Nat.zero_le _) (by simp) ?_ trivial)
      rw [hsn]; simp [FL, up_apply]
    · have hc : ¬ k.en ≤ now := of_decide_eq_false hc
      rw [if_neg hc, List.append_nil] at hsn
      simp -implicitDefEqProofs only [pkA, ↓reduceIte, Nat.reduceEqDiff, Nat.reduceAdd, Nat.reduceBEq, hwi]
      refine hnorm (i + 1, E) _ ⟨hp, hE⟩ (show ks.length - (i + 1) < ks.length - i by omega) (le_hd rfl (Nat.zero_le _) (by simp) ?_ trivial)
      rw [hsn]; simp [FL, up_apply]
  have hz : i = ks.length := by have := dge hz; omega
  subst hz
  simp -implicitDefEqProofs only [pkA]
  refine hexit _ _ ?_
  rw [List.take_length]
  simp -implicitDefEqProofs only [pkA, ↓reduceIte, Nat.reduceEqDiff, Nat.reduceAdd, Nat.reduceBEq]
end Go.Proofs.YtidlohfkfdeaiaaDoor
