/- The statement of KeysDecode. -/
import Derived.Test.YtidlohfkfdeaiaaDoorVlX3
import Derived.Test.YtidlohfkfdeaiaaDoorVlLawF
set_option linter.unusedSimpArgs false
set_option linter.unusedVariables false
namespace Go.Proofs.YtidlohfkfdeaiaaDoor
open Go Go.Vl

theorem decT_short (b : B) : (decT b).1.ks.length ≤ 1000000 := by
  rcases h : decT b with ⟨t, e⟩
  by_cases he : e = 0
  · subst he
    have := validT_len (decT_dec h).1
    show t.ks.length ≤ 1000000
    omega
  · have : t = tb0 := by
      unfold decT at h
      split at h
      · cases h; rfl
      unfold decR at h
      split at h
      · cases h; rfl
      split at h
      · cases h; rfl
      unfold decE at h
      split at h
      · cases h; rfl
      split at h
      · cases h; rfl
      split at h
      · cases h; rfl
      split at h
      · cases h; rfl
      · cases h; exact absurd rfl he
    subst this
    exact Nat.zero_le _
set_option maxRecDepth 100000 in
set_option maxHeartbeats 3000000 in
theorem lawDecode_ok (text : B) (t : Tb) (ht : t.ok) (hl : t.ks.length ≤ 9223372036854775807) : FnOK Tryd.prog gl 6 [sv text, tv t] (bo true) := by
  refine FnOK_by (rs := [.tmp 4]) false [] mixed Tryd.func6 rfl rfl rfl rfl (by kernel_rfl) (by simp) rfl rfl ?_
  have hde : ∀ n : Int, decide (n = n) = true := fun n => by simp
  have hdb : ∀ b : B, decide (b = b) = true := fun n => by simp
  have d00 : (!decide ((0 : Int) = 0)) = false := rfl
  simp -implicitDefEqProofs only [pkA, ptA, ↓reduceIte, Nat.reduceEqDiff, Nat.reduceAdd, Nat.zero_add, bs8_size]
  cases d1 : decide ((3000 : Int) < (text.length : Nat))
  case true =>
    simp -implicitDefEqProofs only [pkA, ↓reduceIte, Nat.reduceAdd]
    refine call_fn rfl sanity_ok (fun _ => rfl) ?_
    simp -implicitDefEqProofs only [pkA, ↓reduceIte]
  have h1 : text.length ≤ 3000 := by have := of_decide_eq_false d1; omega
  have hD := Decode_ok (G := gl) text (by omega)
  have hrD := rDecode_ok (G := gl) text (by omega)
  have hs := decT_short text
  have hd := fun t => decT_dec (b := text) (t := t)
  generalize decT text = r at *
  obtain ⟨a, e⟩ := r
  simp only at hs hD hrD
  simp -implicitDefEqProofs only [pkA, ↓reduceIte, Nat.reduceEqDiff, Nat.reduceAdd]
  refine call_fn rfl hD (fun h => by cases h) ?_
  simp -implicitDefEqProofs only [pkA, ptA, ↓reduceIte, Nat.reduceEqDiff, Nat.reduceAdd, Nat.reduceMul, Nat.reduceLT, Nat.reduceLeDiff, Nat.zero_add, decide_true]
  refine call_fn rfl hrD (fun h => by cases h) ?_
  simp -implicitDefEqProofs only [pkA, ptA, ↓reduceIte, Nat.reduceEqDiff, Nat.reduceAdd, Nat.reduceMul, Nat.reduceLT, Nat.reduceLeDiff, Nat.zero_add, decide_true]
  refine ⟨rfl, lda_tv (t := a) (show 1 < 3 by decide) ?_⟩
  simp -implicitDefEqProofs only [pkA, ptA, ↓reduceIte, Nat.reduceEqDiff, Nat.reduceAdd, Nat.reduceMul, Nat.reduceLT, decide_true]
  refine ⟨rfl, lda_tv (t := a) (show 2 < 3 by decide) ?_⟩
  simp -implicitDefEqProofs only [pkA, ↓reduceIte, Nat.reduceEqDiff, Nat.reduceAdd]
  refine call_fn («as» := [tv a, tv a]) rfl (Same_ok a hs) (fun _ => rfl) ?_
  simp -implicitDefEqProofs only [pkA, ↓reduceIte, Nat.reduceEqDiff, decide_true]
  refine join_vgdK (fun s' => (s'.fr 0 = sv text ∧ s'.fr 3 = .bp 0 0 ∧ s'.fr 45 = bo false) ∧ s'.bx 0 = [V.c (ic t.nx), V.c (.sl (t.ks.map kC))] ∧ s'.nb = 3) ?_ ?_
  rotate_left
  · intro K' hK'
    by_cases he : e = 0
    case neg =>
      have d : decide (e = 0) = false := decide_eq_false he
      simp -implicitDefEqProofs only [pkA, ↓reduceIte, Nat.reduceEqDiff, d]
      exact hK' _ ⟨⟨rfl, rfl, rfl⟩, rfl, rfl⟩
    subst he
    obtain ⟨hv, ho, hb⟩ := hd a rfl
    have hvl := validT_len hv
    have hvv := validT_val hv
    have hE := Encode_ok (G := gl) a ho.1 (by omega) fun k hk => ⟨ho.2 k hk, by rw [hvv k hk]; decide⟩
    rw [hb] at hE
    simp -implicitDefEqProofs only [pkA, ptA, ↓reduceIte, Nat.reduceEqDiff, Nat.reduceAdd, Nat.reduceMul, Nat.reduceLT, decide_true]
    refine ⟨rfl, lda_tv (t := a) (show 1 < 3 by decide) ?_⟩
    simp -implicitDefEqProofs only [pkA, ↓reduceIte, Nat.reduceEqDiff, Nat.reduceAdd]
    refine call_fn («as» := [tv a]) rfl hE (fun h => by cases h) ?_
    simp -implicitDefEqProofs only [pkA, ↓reduceIte, Nat.reduceEqDiff, decide_true]
    exact hK' _ ⟨⟨rfl, rfl, rfl⟩, rfl, rfl⟩
  rintro ⟨fr, bx, nb⟩ ⟨⟨f0, f3, f45⟩, x0, xn⟩
  simp only at f0 f3 f45 x0 xn
  subst xn
  simp -implicitDefEqProofs only [pkA, ptA, ↓reduceIte, Nat.reduceEqDiff, Nat.reduceAdd, Nat.reduceMul, Nat.reduceLT, Nat.zero_add, decide_true, f3, f45, x0]
  refine call_fn («as» := [tv t]) rfl (few_ok t ht hl) (fun _ => rfl) ?_
  cases hf : fewB t
  · simp -implicitDefEqProofs only [pkA, ↓reduceIte, Nat.reduceAdd]
    refine call_fn rfl sanity_ok (fun _ => rfl) ?_
    simp -implicitDefEqProofs only [pkA, ↓reduceIte]
  have h60 : t.ks.length ≤ 60 ∧ validTR t = true := by
    unfold fewB at hf
    split at hf
    · cases hf
    · exact ⟨by omega, hf⟩
  have hv : validT t = true := by rw [← vT_eq]; exact h60.2
  have hvv := validT_val hv
  have hkk : ∀ k ∈ t.ks, k.ok ∧ k.val.length ≤ 1000 := fun k hk => ⟨ht.2 k hk, by rw [hvv k hk]; decide⟩
  have hE := Encode_ok (G := gl) t ht.1 (by omega) hkk
  have hrE := rEncode_ok (G := gl) t ht.1 (by omega) hkk
  have hel : (encT t).length ≤ 1000000 := by
    have g1 := encI_len t.nx
    have g2 := encI_len (t.ks.length : Int)
    have g3 := encKs_len t.ks fun k hk => (hkk k hk).2
    show (encI t.nx ++ encI (t.ks.length : Int) ++ (t.ks.map encK).flatten).length ≤ 1000000
    rw [List.length_append, List.length_append]; omega
  have hD := Decode_ok (G := gl) (encT t) hel
  rw [decT_enc ht hv] at hD
  have hsm := Same_ok (G := gl) t (by omega)
  generalize encT t = s at *
  simp -implicitDefEqProofs only [pkA, ptA, ↓reduceIte, Nat.reduceEqDiff, Nat.reduceAdd, Nat.reduceMul, Nat.reduceLT, Nat.zero_add, decide_true, f3, x0]
  refine call_fn («as» := [tv t]) rfl hE (fun h => by cases h) ?_
  simp -implicitDefEqProofs only [pkA, ↓reduceIte, Nat.reduceAdd]
  refine call_fn rfl hD (fun h => by cases h) ?_
  simp -implicitDefEqProofs only [pkA, ptA, ↓reduceIte, Nat.reduceEqDiff, Nat.reduceAdd, Nat.reduceMul, Nat.reduceLT, Nat.reduceLeDiff, Nat.zero_add, decide_true]
  refine call_fn rfl sanity_ok (fun _ => rfl) ?_
  simp -implicitDefEqProofs only [pkA, ptA, ↓reduceIte, Nat.reduceEqDiff, Nat.reduceAdd, Nat.reduceMul, Nat.reduceLT, Nat.zero_add, decide_true, f3, x0]
  refine call_fn («as» := [tv t]) rfl hrE (fun h => by cases h) ?_
  simp -implicitDefEqProofs only [pkA, ptA, ↓reduceIte, Nat.reduceEqDiff, Nat.reduceAdd, Nat.reduceMul, Nat.reduceLT, decide_true]
  refine ⟨rfl, lda_tv (t := t) (show 3 < 4 by decide) ?_⟩
  simp -implicitDefEqProofs only [pkA, ptA, ↓reduceIte, Nat.reduceEqDiff, Nat.reduceAdd, Nat.reduceMul, Nat.reduceLT, Nat.zero_add, decide_true, f3, x0]
  refine call_fn («as» := [tv t, tv t]) rfl hsm (fun _ => rfl) ?_
  simp -implicitDefEqProofs only [pkA, ↓reduceIte, Nat.reduceEqDiff]
end Go.Proofs.YtidlohfkfdeaiaaDoor
