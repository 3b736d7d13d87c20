/- Layer 27: a value is taken off an encoding, where it is well-formed. -/
import Derived.Test.YtidlohfkfdeaiaaDoorVlW5
import Derived.Test.YtidlohfkfdeaiaaDoorVlC6
import Derived.Test.YtidlohfkfdeaiaaDoorVlY4
import Derived.Test.YtidlohfkfdeaiaaDoorVlY3
import Derived.Test.YtidlohfkfdeaiaaDoorVlY5
import Derived.Test.YtidlohfkfdeaiaaDoorVlRunB
import Derived.WalkKit
import Derived.Recover
import Derived.Tactics
set_option linter.unusedSimpArgs false
set_option linter.unusedVariables false
namespace Go.Proofs.YtidlohfkfdeaiaaDoor
open Go Go.Vl

variable {G : Gl}
set_option maxRecDepth 100000 in
set_option maxHeartbeats 1500000 in
theorem takeI_ok (b : B) (n : Int) (u : Nat) (hb : b.length ≤ 1000000000) (h : getI b = (n, u, 0)) : FnB Tryd.prog G 61 [.bp 0 0, .c (.fn (.func 62) [] [])] [[bv b]] (i64 n) [[bv (b.drop u)]] := by
  obtain ⟨hu, _, _, _⟩ := getI_used h
  have hG := GetInt_ok (G := G) b hb
  rw [h] at hG
  refine FnB_by (rs := [.tmp 4]) (k := 1) [3000001] mixed Tryd.func61 rfl rfl rfl rfl (by kernel_rfl) (by simp) rfl rfl rfl rfl (by simp) ?_
  simp -implicitDefEqProofs only [pkA, ptA, ↓reduceIte, Nat.reduceEqDiff, Nat.reduceAdd, Nat.reduceBEq, Nat.reduceMul, Nat.reduceLT, Nat.zero_add, decide_true]
  refine call_fn rfl hG (fun _ => rfl) ?_
  simp -implicitDefEqProofs only [pkA, ptA, ↓reduceIte, Nat.reduceEqDiff, Nat.reduceAdd, Nat.reduceBEq, Nat.reduceMul, Nat.reduceLT, decide_true]
  refine sl_bC ti_81 rfl ti_5 rfl (a := u) (b := b.length) rfl rfl hu (Nat.le_refl _) ?_
  rw [List.take_length]
  simp -implicitDefEqProofs only [pkA, ptA, ↓reduceIte, Nat.reduceEqDiff, Nat.reduceAdd, Nat.reduceBEq, Nat.reduceMul, Nat.reduceLT, Nat.reduceLeDiff, Nat.zero_add, decide_true]
  exact end_B [(4, i64 n)] rfl rfl (by simp) (by simp) (by simp [FL]) (by simp [BL]) rfl
set_option maxRecDepth 100000 in
set_option maxHeartbeats 1500000 in
theorem takeB_ok (b : B) (x : B) (u : Nat) (hb : b.length ≤ 1000000000) (h : getB b = (x, u, 0)) (hu : u ≤ b.length) : FnB Tryd.prog G 65 [.bp 0 0, .c (.fn (.func 54) [] [])] [[bv b]] (sv x) [[bv (b.drop u)]] := by
  have hG := GetBytes_ok (G := G) b hb
  rw [h] at hG
  refine FnB_by (rs := [.tmp 4]) (k := 1) [3000001] mixed Tryd.func65 rfl rfl rfl rfl (by kernel_rfl) (by simp) rfl rfl rfl rfl (by simp) ?_
  simp -implicitDefEqProofs only [pkA, ptA, ↓reduceIte, Nat.reduceEqDiff, Nat.reduceAdd, Nat.reduceBEq, Nat.reduceMul, Nat.reduceLT, Nat.zero_add, decide_true]
  refine call_fn rfl hG (fun _ => rfl) ?_
  simp -implicitDefEqProofs only [pkA, ptA, ↓reduceIte, Nat.reduceEqDiff, Nat.reduceAdd, Nat.reduceBEq, Nat.reduceMul, Nat.reduceLT, decide_true]
  refine sl_bC ti_81 rfl ti_5 rfl (a := u) (b := b.length) rfl rfl hu (Nat.le_refl _) ?_
  rw [List.take_length]
  simp -implicitDefEqProofs only [pkA, ptA, ↓reduceIte, Nat.reduceEqDiff, Nat.reduceAdd, Nat.reduceBEq, Nat.reduceMul, Nat.reduceLT, Nat.reduceLeDiff, Nat.zero_add, decide_true]
  exact end_B [(4, sv x)] rfl rfl (by simp) (by simp) (by simp [FL]) (by simp [BL]) rfl
set_option maxRecDepth 100000 in
set_option maxHeartbeats 1500000 in
theorem takeL_ok (b : B) (l : List Int) (u : Nat) (hb : b.length ≤ 1000000000) (h : getIs b = (l, u, 0)) (hu : u ≤ b.length) : FnB Tryd.prog G 64 [.bp 0 0, .c (.fn (.func 55) [] [])] [[bv b]] (.c (.sl (mC ic l))) [[bv (b.drop u)]] := by
  have hG := GetInts_ok (G := G) b hb
  rw [h] at hG
  refine FnB_by (rs := [.tmp 4]) (k := 1) [3000001] mixed Tryd.func64 rfl rfl rfl rfl (by kernel_rfl) (by simp) rfl rfl rfl rfl (by simp) ?_
  simp -implicitDefEqProofs only [pkA, ptA, ↓reduceIte, Nat.reduceEqDiff, Nat.reduceAdd, Nat.reduceBEq, Nat.reduceMul, Nat.reduceLT, Nat.zero_add, decide_true]
  refine call_fn rfl hG (fun h => by cases h) ?_
  simp -implicitDefEqProofs only [pkA, ptA, ↓reduceIte, Nat.reduceEqDiff, Nat.reduceAdd, Nat.reduceBEq, Nat.reduceMul, Nat.reduceLT, decide_true]
  refine sl_bC ti_81 rfl ti_5 rfl (a := u) (b := b.length) rfl rfl hu (Nat.le_refl _) ?_
  rw [List.take_length]
  simp -implicitDefEqProofs only [pkA, ptA, ↓reduceIte, Nat.reduceEqDiff, Nat.reduceAdd, Nat.reduceBEq, Nat.reduceMul, Nat.reduceLT, Nat.reduceLeDiff, Nat.zero_add, decide_true]
  exact end_B [(4, .c (.sl (mC ic l)))] rfl rfl (by simp) (by simp) (by simp [FL]) (by simp [BL]) rfl
end Go.Proofs.YtidlohfkfdeaiaaDoor

/- Layer 27: encodings of tables that are well-formed are decoded (for tables of at most one key). -/
namespace Go.Proofs.YtidlohfkfdeaiaaDoor
open Go Go.Vl Go.RowKit

theorem Decode_idle0 (p q : Value) (w : World) : CallsD Tryd.prog 60 #[p, q] .returning w fun e u' w' => e = .returned (.tuple #[]) ∧ u' = .returning ∧ w' = w := by
  refine callsD_of_wpS Tryd.func60 rfl fun c₀ cs hu => ?_
  apply wpS_seq
  apply wpS_region
  simp [wpOpsS, go_sem, recoverD, hu, Tryd.ntmps60, Exit.thenS]
  have hnil : ∀ w : World, (binOp BinOp.eql 20 .nilIface .nilIface).run Tryd.prog w = .ok (.bool true) w := fun _ => by kernel_rfl
  refine wpS_of_wp ?_
  go_wp2
  cases c₀
  simp_all [bodyPostS, results, Tryd.results60]
theorem Decode_idle : IdleD Tryd.prog 60 2 := by
  refine ⟨⟨_, Tryd.func60, rfl, _, rfl⟩, fun caps w hc => ?_⟩
  obtain ⟨p, q, rfl⟩ : ∃ p q, caps = #[p, q] := ⟨caps[0], caps[1], by
    apply Array.ext
    · simpa using hc
    · intro i h1 h2
      have : i < 2 := by simpa using h2
      match i with
      | 0 => rfl
      | 1 => rfl⟩
  exact (Decode_idle0 p q w).mono (fun e u' w' h => ⟨⟨_, h.1⟩, h.2⟩)
variable {G : Gl}
theorem lcOk_up {tr : List Nat} {d q : Nat} {fr fr' : Nat → V} {bx : Nat → List V} {nb : Nat} {l : List V} (hq : q < 100) (h : tr.contains (500000 + d * 100 + q) = true) : lcOk tr (some d) ⟨fr, bx, nb⟩ ⟨fr', up bx q l, nb⟩ := by
  refine ⟨rfl, fun b => ?_⟩
  by_cases hb : b = q
  · subst hb; exact .inr ⟨hq, h⟩
  · exact .inl (up_ne _ _ hb)
theorem retV_cc {P : Program} {fr : Nat → V} {bx : Nat → List V} {nb : Nat} {d e : V} {p q : Tmp} {T U : TypeId} (h1 : vload P T ⟨fr, bx, nb⟩ (fr p) fun v => v.fz = d) (h2 : vload P U ⟨fr, bx, nb⟩ (fr q) fun v => v.fz = e) : retV P false ⟨fr, bx, nb⟩ (.tup [d, e]) [.cell p T, .cell q U] := by
  refine ⟨_, rfl, rfl, fun i R x hR hx => ?_⟩
  match i with
  | 0 => simp only [List.getElem?_cons_zero, Option.some.injEq] at hR hx; subst hR; subst hx; exact h1
  | 1 => simp only [List.getElem?_cons_succ, List.getElem?_cons_zero, Option.some.injEq] at hR hx; subst hR; subst hx; exact h2
  | n + 2 => simp at hR
def keyD (l : List Int) (v : B) : Ky := ⟨l.getD 0 0, l.getD 1 0, v, l.getD 2 0, l.getD 3 0, l.getD 4 0, l.getD 5 0, l.getD 6 0, decide (l.getD 7 0 = 1)⟩
theorem c_sr {l : B} {K : V → Prop} : vconv Tryd.prog 9 81 (sv l) K = K (bv l) := conv_sb ti_9 rfl ti_81 rfl ti_5 rfl
set_option maxRecDepth 100000 in
set_option maxHeartbeats 3000000 in
/-- One key. -/
theorem Decode_one (text b1 b2 b3 b4 : B) (nx : Int) (l : List Int) (v : B) (u1 u2 u3 u4 : Nat) (hl : text.length ≤ 1000000)
    (h1 : getI text = (nx, u1, 0)) (e1 : b1 = text.drop u1) (h2 : getI b1 = (1, u2, 0)) (e2 : b2 = b1.drop u2)
    (h3 : getIs b2 = (l, u3, 0)) (g3 : u3 ≤ b2.length) (h8 : l.length = 8) (e3 : b3 = b2.drop u3) (hr : wi (l.getD 7 0) 0 1 = true)
    (h4 : getB b3 = (v, u4, 0)) (e4 : b4 = b3.drop u4) (h0 : b4 = []) (hv : validT ⟨nx, [keyD l v]⟩ = true) :
    FnOK Tryd.prog G 27 [sv text] (.tup [tv ⟨nx, [keyD l v]⟩, i64 0]) := by
  have hb1 : b1.length ≤ 1000000 := by rw [e1, List.length_drop]; omega
  have hb2 : b2.length ≤ 1000000 := by rw [e2, List.length_drop]; omega
  have hb3 : b3.length ≤ 1000000 := by rw [e3, List.length_drop]; omega
  obtain ⟨g4, _⟩ := getB_ok h4
  have t1 := takeI_ok (G := G) text nx u1 (by omega) h1
  have t2 := takeI_ok (G := G) b1 1 u2 (by omega) h2
  have t3 := takeL_ok (G := G) b2 l u3 (by omega) h3 g3
  have t4 := takeB_ok (G := G) b3 v u4 (by omega) h4 g4
  rw [← e1] at t1; rw [← e2] at t2; rw [← e3] at t3; rw [← e4] at t4
  clear h1 h2 h3 h4 e1 e2 e3 e4
  refine FnOK_byD 2 [1000011, 1000013, 1000021, 1000042, 400042, 504202, 200035, 303500, 200038, 200041, 200045, 200048, 200051, 200054, 200057, 200060, 200065, 306500, 3000002] mixed Tryd.func27 rfl rfl (rs := [.cell 2 24, .cell 3 29]) rfl rfl (by simp) (by kernel_rfl) (by kernel_rfl) ⟨rfl, rfl, by decide⟩ ⟨rfl, rfl, rfl⟩ Decode_idle rfl rfl ?_
  simp -implicitDefEqProofs only [pkA, ptA, ↓reduceIte, Nat.reduceEqDiff, Nat.reduceAdd, Nat.reduceBEq, Nat.zero_add, dfrK_n]
  refine ⟨⟨_, rfl, rfl⟩, rfl, ?_⟩
  simp -implicitDefEqProofs only [pkA, ptA, ↓reduceIte, Nat.reduceEqDiff, Nat.reduceAdd, Nat.reduceBEq, Nat.reduceMul, Nat.reduceLT, Nat.reduceLeDiff, Nat.zero_add, decide_true, c_sr]
  refine callB_one (c0 := [.sl (bC text)]) (c1 := [.sl (bC b1)]) 2 rfl t1 rfl (Nat.lt_succ_self 2) rfl rfl ?_
  simp -implicitDefEqProofs only [pkA, ptA, ↓reduceIte, Nat.reduceEqDiff, Nat.reduceAdd, Nat.reduceBEq, Nat.reduceMul, Nat.reduceLT, Nat.reduceLeDiff, Nat.zero_add, decide_true]
  refine callB_one (c0 := [.sl (bC b1)]) (c1 := [.sl (bC b2)]) 2 rfl t2 rfl (Nat.lt_succ_self 2) rfl rfl ?_
  simp -implicitDefEqProofs only [pkA, ↓reduceIte, Nat.reduceAdd, Nat.reduceBEq]
  refine call_fn rfl (within_ok 1 0 4096) (fun _ => rfl) ?_
  have hw1 : wi 1 0 4096 = true := rfl
  rw [hw1]
  simp -implicitDefEqProofs only [pkA, ↓reduceIte, Nat.reduceEqDiff, Nat.reduceAdd, Nat.reduceBEq]
  match l, h8 with
  | [l0, l1, l2, l3, l4, l5, l6, l7], _ =>
  have hky : keyD [l0, l1, l2, l3, l4, l5, l6, l7] v = ⟨l0, l1, v, l2, l3, l4, l5, l6, decide (l7 = 1)⟩ := rfl
  have hr : wi l7 0 1 = true := hr
  rw [hky] at hv ⊢
  subst h0
  refine run_loop (fun y : Nat => hdS [(2, .bp 0 0), (3, .bp 1 0), (4, .bp 2 0), (5, bo false), (18, i64 1), (19, i64 (y : Nat))] [[V.c (ic nx), if y = 0 then .ow none [] else .ow EK [kC ⟨l0, l1, v, l2, l3, l4, l5, l6, decide (l7 = 1)⟩]], [i64 0], [bv (if y = 0 then b2 else [])]]) (fun y => 1 - y) (fun y => y ≤ 1) 0 (Nat.zero_le _) ?_ ?_
  · refine le_hd rfl (show 2 ≤ 3 by decide) (by simp) (by simp [FL, up_apply]) (by simp [BL, up_apply])
  rintro y hy R hnorm hexit hret
  obtain rfl | rfl : y = 0 ∨ y = 1 := by omega
  · have d1 : decide (((0 : Nat) : Int) < 1) = true := rfl
    have hw0 : IntKind.i64.wrap (((0 : Nat) : Int) + 1) = ((1 : Nat) : Int) := rfl
    simp -implicitDefEqProofs only [pkA, ↓reduceIte, Nat.reduceEqDiff, Nat.reduceAdd, Nat.reduceBEq, Nat.zero_add, d1]
    refine callB_one (c0 := [.sl (bC b2)]) (c1 := [.sl (bC b3)]) 2 rfl t3 rfl (Nat.lt_succ_self 2) rfl rfl ?_
    have d8 : (!decide (((8 : Nat) : Int) = 8)) = false := rfl
    simp -implicitDefEqProofs only [pkA, ptA, ↓reduceIte, Nat.reduceEqDiff, Nat.reduceAdd, Nat.reduceBEq, Nat.zero_add, mC_len, d8]
    refine ia_mC ti_34 rfl ti_3 rfl (k := 7) rfl rfl ?_
    simp -implicitDefEqProofs only [pkA, ptA, ↓reduceIte, Nat.reduceEqDiff, Nat.reduceAdd, Nat.reduceBEq]
    refine call_fn rfl (within_ok l7 0 1) (fun _ => rfl) ?_
    rw [hr]
    simp -implicitDefEqProofs only [pkA, ptA, ↓reduceIte, Nat.reduceEqDiff, Nat.reduceAdd, Nat.reduceBEq, Nat.reduceMul, Nat.reduceLT, Nat.zero_add, decide_true]
    refine ia_mC ti_34 rfl ti_3 rfl (k := 0) rfl rfl ?_
    simp -implicitDefEqProofs only [pkA, ptA, ↓reduceIte, Nat.reduceEqDiff, Nat.reduceAdd, Nat.reduceBEq]
    refine ia_mC ti_34 rfl ti_3 rfl (k := 1) rfl rfl ?_
    simp -implicitDefEqProofs only [pkA, ptA, ↓reduceIte, Nat.reduceEqDiff, Nat.reduceAdd, Nat.reduceBEq]
    refine callB_one (c0 := [.sl (bC b3)]) (c1 := [.sl (bC [])]) 2 rfl t4 rfl (Nat.lt_succ_self 2) rfl rfl ?_
    refine ⟨lcOk_up (by decide) rfl, ?_⟩
    simp -implicitDefEqProofs only [pkA, ↓reduceIte, Nat.reduceEqDiff, Nat.reduceBEq]
    refine ia_mC ti_34 rfl ti_3 rfl (k := 2) rfl rfl ?_
    simp -implicitDefEqProofs only [pkA, ptA, ↓reduceIte, Nat.reduceEqDiff, Nat.reduceAdd, Nat.reduceBEq]
    refine ia_mC ti_34 rfl ti_3 rfl (k := 3) rfl rfl ?_
    simp -implicitDefEqProofs only [pkA, ptA, ↓reduceIte, Nat.reduceEqDiff, Nat.reduceAdd, Nat.reduceBEq]
    refine ia_mC ti_34 rfl ti_3 rfl (k := 4) rfl rfl ?_
    simp -implicitDefEqProofs only [pkA, ptA, ↓reduceIte, Nat.reduceEqDiff, Nat.reduceAdd, Nat.reduceBEq]
    refine ia_mC ti_34 rfl ti_3 rfl (k := 5) rfl rfl ?_
    simp -implicitDefEqProofs only [pkA, ptA, ↓reduceIte, Nat.reduceEqDiff, Nat.reduceAdd, Nat.reduceBEq]
    refine ia_mC ti_34 rfl ti_3 rfl (k := 6) rfl rfl ?_
    simp -implicitDefEqProofs only [pkA, ptA, ↓reduceIte, Nat.reduceEqDiff, Nat.reduceAdd, Nat.reduceBEq]
    refine ia_mC ti_34 rfl ti_3 rfl (k := 7) rfl rfl ?_
    simp -implicitDefEqProofs only [pkA, ptA, ↓reduceIte, Nat.reduceEqDiff, Nat.reduceAdd, Nat.reduceBEq, Nat.reduceMul, Nat.reduceLeDiff, Nat.zero_add]
    refine apK (k := ⟨l0, l1, v, l2, l3, l4, l5, l6, decide (l7 = 1)⟩) (Or.inl rfl) (by simp) (by simp) ?_
    simp -implicitDefEqProofs only [pkA, ptA, ↓reduceIte, Nat.reduceEqDiff, Nat.reduceAdd, Nat.reduceBEq, Nat.reduceMul, Nat.reduceLT, Nat.reduceLeDiff, Nat.zero_add, decide_true, hw0]
    exact hnorm 1 _ (Nat.le_refl 1) (by decide) (le_hd rfl (show 2 ≤ 3 by decide) (by simp) (by simp [FL, up_apply]) (by simp [BL, up_apply, bxs]))
  · have d1 : decide (((1 : Nat) : Int) < 1) = false := rfl
    have d0 : decide ((0 : Int) < ((bC []).length : Nat)) = false := rfl
    simp -implicitDefEqProofs only [pkA, ↓reduceIte, Nat.reduceEqDiff, Nat.reduceAdd, Nat.reduceBEq, Nat.zero_add, d1]
    refine hexit _ _ ?_
    clear hexit hnorm hret
    have hvo := valid_ok (G := G) ⟨nx, [⟨l0, l1, v, l2, l3, l4, l5, l6, decide (l7 = 1)⟩]⟩ (by simp)
    rw [hv] at hvo
    generalize (⟨l0, l1, v, l2, l3, l4, l5, l6, decide (l7 = 1)⟩ : Ky) = ky at *
    simp -implicitDefEqProofs only [pkA, ptA, ↓reduceIte, Nat.reduceEqDiff, Nat.reduceAdd, Nat.reduceBEq, Nat.reduceMul, Nat.reduceLT, Nat.zero_add, decide_true, d0]
    refine call_fn rfl hvo (fun _ => rfl) ?_
    simp -implicitDefEqProofs only [pkA, ptA, ↓reduceIte, Nat.reduceEqDiff, Nat.reduceAdd, Nat.reduceBEq, Nat.reduceMul, Nat.reduceLT, Nat.reduceLeDiff, Nat.zero_add, decide_true]
    refine retV_cc ?_ ?_
    · show vload Tryd.prog 24 _ (.bp 0 0) _
      rw [ldA_of ti_24 rfl rfl]
      exact ⟨rfl, lda_tv (t := ⟨nx, [ky]⟩) (Nat.zero_lt_succ _) rfl⟩
    · show vload Tryd.prog 29 _ (.bp 1 0) _
      rw [ldB_of ti_29 rfl]
      exact ⟨rfl, Nat.lt_succ_of_lt (Nat.lt_succ_self 1), rfl⟩
end Go.Proofs.YtidlohfkfdeaiaaDoor
