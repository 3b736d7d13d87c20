/- Layer 27: the specification decodes encodings of tables alike. -/
import Derived.Test.YtidlohfkfdeaiaaDoorVlDp
import Derived.Test.YtidlohfkfdeaiaaDoorVlQ3
set_option linter.unusedSimpArgs false
set_option linter.unusedVariables false
namespace Go.Proofs.YtidlohfkfdeaiaaDoor
open Go Go.Vl

variable {G : Gl}
set_option maxRecDepth 100000 in
theorem retT2 {b : Nat} {fr : Nat → V} {bx : Nat → List V} {e : Int} {t : Tb} {c u nb : Nat} (h1 : fr c = .bp b 0) (hb : b < nb) (h2 : bx b = [V.c (ic t.nx), V.c (.sl (t.ks.map kC))]) (h3 : (fr u).fz = i64 e) :
    retV Tryd.prog false ⟨fr, bx, nb⟩ (.tup [tv t, i64 e]) [.cell c 24, .tmp u] := by
  refine retV_ct ?_ h3
  have hm : isMb [V.c (ic t.nx), V.c (.sl (t.ks.map kC))] = false := rfl
  have hld : vload Tryd.prog 24 ⟨fr, bx, nb⟩ (.bp b 0) (fun v => v.fz = tv t) := by
    rw [ldA_of ti_24 rfl rfl, h2]
    exact ⟨hm, lda_tv hb rfl⟩
  show vload Tryd.prog 24 ⟨fr, bx, nb⟩ (fr c) _
  rw [h1]; exact hld
theorem wi01 (x : Int) : (!wi x 0 1) = ((!decide (x = 0)) && !decide (x = 1)) := by
  unfold wi
  by_cases h0 : x = 0
  · subst h0; rfl
  by_cases h1 : x = 1
  · subst h1; rfl
  simp only [h0, h1, decide_false, Bool.not_false, Bool.and_self, Bool.not_eq_true']
  simp; omega
set_option maxRecDepth 100000 in
set_option maxHeartbeats 4000000 in
/-- The specification's Decode, whatever the text. -/
theorem rDecode_ok (text : B) (hl : text.length ≤ 1000000) : FnOK Tryd.prog G 28 [sv text] (.tup [tv (decT text).1, i64 (decT text).2]) := by
  refine FnOK_byP (rs := [.cell 2 24, .tmp 3]) false [200110, 311001, 200113, 200116, 200120, 200123, 200126, 200129, 200132, 200135, 200140, 314001, 2500056, 2400139, 2300027, 2900027] mixed Tryd.func28 rfl rfl rfl rfl (by kernel_rfl) (by simp) rfl rfl ?_
  generalize hT : decT text = R
  obtain ⟨t, e⟩ := R
  simp -implicitDefEqProofs only [pkX, pkA, ptA, ↓reduceIte, Nat.reduceEqDiff, Nat.reduceAdd, Nat.reduceBEq, Nat.zero_add, c_sb]
  rcases hg : getI text with ⟨nx, u1, e1⟩
  have hr := rGetInt_ok (G := G) text (by omega)
  rw [hg] at hr
  refine call_fn rfl hr (fun _ => rfl) ?_
  simp -implicitDefEqProofs only [pkX, pkA, ↓reduceIte, Nat.reduceEqDiff, Nat.reduceAdd, Nat.reduceBEq]
  refine pcond_of (fun he => ?_) (fun he => ?_)
  · have he : e1 ≠ 0 := by simpa using he
    have hR : tb0 = t ∧ e1 = e := by simpa [decT, hg, he] using hT
    obtain ⟨rfl, rfl⟩ := hR
    simp -implicitDefEqProofs only [pkX, pkA, ptA, ↓reduceIte, Nat.reduceEqDiff, Nat.reduceAdd, Nat.reduceBEq, Nat.reduceMul, Nat.reduceLT, Nat.reduceLeDiff, Nat.zero_add, decide_true]
    exact retT2 (t := tb0) rfl (Nat.lt_succ_self 0) rfl rfl
  obtain rfl : e1 = 0 := by simpa using he
  clear he hr
  obtain ⟨hu1, _, hn1, _⟩ := getI_used hg
  have hb1 : (text.drop u1).length ≤ 1000000 := by rw [List.length_drop]; omega
  have hT2 : decR nx (text.drop u1) = (t, e) := by simpa [decT, hg] using hT
  clear hT hg
  simp -implicitDefEqProofs only [pkX, pkA, ↓reduceIte, Nat.reduceEqDiff, Nat.reduceAdd, Nat.reduceBEq, decide_true]
  refine sl_bC ti_71 rfl ti_5 rfl (a := u1) (b := text.length) rfl rfl hu1 (Nat.le_refl _) ?_
  rw [List.take_length]
  simp -implicitDefEqProofs only [pkA, ↓reduceIte, Nat.reduceAdd, Nat.reduceBEq]
  rcases hg : getI (text.drop u1) with ⟨cnt, u2, e2⟩
  have hr := rGetInt_ok (G := G) (text.drop u1) (by omega)
  rw [hg] at hr
  refine call_fn rfl hr (fun _ => rfl) ?_
  simp -implicitDefEqProofs only [pkX, pkA, ↓reduceIte, Nat.reduceEqDiff, Nat.reduceAdd, Nat.reduceBEq]
  refine pcond_of (fun he => ?_) (fun he => ?_)
  · have he : e2 ≠ 0 := by simpa using he
    have hR : tb0 = t ∧ e2 = e := by simpa [decR, hg, he] using hT2
    obtain ⟨rfl, rfl⟩ := hR
    simp -implicitDefEqProofs only [pkX, pkA, ptA, ↓reduceIte, Nat.reduceEqDiff, Nat.reduceAdd, Nat.reduceBEq, Nat.reduceMul, Nat.reduceLT, Nat.reduceLeDiff, Nat.zero_add, decide_true]
    exact retT2 (t := tb0) rfl (Nat.lt_succ_self 0) rfl rfl
  obtain rfl : e2 = 0 := by simpa using he
  clear he hr
  obtain ⟨hu2, _, hn2, _⟩ := getI_used hg
  rw [List.length_drop] at hu2
  have hwu : IntKind.i64.wrap ((u1 : Int) + (u2 : Int)) = ((u1 + u2 : Nat) : Int) := wrap_of (by omega) (by omega)
  have hwc : wi cnt 0 4096 = (!decide (cnt < 0) && !decide (4096 < cnt)) := by
    unfold wi
    by_cases q1 : cnt < 0
    · have : ¬ (0 : Int) ≤ cnt := by omega
      simp [q1, this]
    · have h1 : (0 : Int) ≤ cnt := by omega
      by_cases q2 : 4096 < cnt
      · have : ¬ cnt ≤ 4096 := by omega
        simp [q1, q2, this]
      · have h2 : cnt ≤ 4096 := by omega
        simp [q1, q2, h1, h2]
  have hT2 : (if wi cnt 0 4096 = false then (tb0, 6) else decE nx (decL cnt.toNat [] ((text.drop u1).drop u2) false)) = (t, e) := by simpa [decR, hg] using hT2
  rw [hwc, List.drop_drop] at hT2
  simp -implicitDefEqProofs only [pkX, pkA, ↓reduceIte, Nat.reduceEqDiff, Nat.reduceAdd, Nat.reduceBEq, decide_true, hwu]
  cases q1 : decide (cnt < 0)
  case true =>
    have hR : tb0 = t ∧ 6 = e := by simpa [q1] using hT2
    obtain ⟨rfl, rfl⟩ := hR
    simp -implicitDefEqProofs only [pkX, pkA, ptA, ↓reduceIte, Nat.reduceEqDiff, Nat.reduceAdd, Nat.reduceBEq, Nat.reduceMul, Nat.reduceLT, Nat.reduceLeDiff, Nat.zero_add, decide_true]
    exact retT2 (t := tb0) rfl (Nat.lt_succ_self 0) rfl rfl
  cases q2 : decide (4096 < cnt)
  case true =>
    have hR : tb0 = t ∧ 6 = e := by simpa [q1, q2] using hT2
    obtain ⟨rfl, rfl⟩ := hR
    simp -implicitDefEqProofs only [pkX, pkA, ptA, ↓reduceIte, Nat.reduceEqDiff, Nat.reduceAdd, Nat.reduceBEq, Nat.reduceMul, Nat.reduceLT, Nat.reduceLeDiff, Nat.zero_add, decide_true, q2]
    exact retT2 (t := tb0) rfl (Nat.lt_succ_self 0) rfl rfl
  have hT3 : decE nx (decL cnt.toNat [] (text.drop (u1 + u2)) false) = (t, e) := by simpa [q1, q2] using hT2
  simp -implicitDefEqProofs only [pkX, pkA, ptA, ↓reduceIte, Nat.reduceEqDiff, Nat.reduceAdd, Nat.reduceBEq, Nat.reduceMul, Nat.reduceLT, Nat.reduceLeDiff, Nat.zero_add, decide_true, q2]
  have q1 := of_decide_eq_false q1
  have q2 := of_decide_eq_false q2
  obtain ⟨m, rfl⟩ : ∃ m : Nat, cnt = (m : Int) := ⟨cnt.toNat, by omega⟩
  have hm : m ≤ 4096 := by omega
  rw [Int.toNat_natCast] at hT3
  clear hT2 hg hwc q1 q2 hn2
  have hu : u1 + u2 ≤ text.length := by omega
  clear hwu hu1 hu2 hb1
  generalize u1 + u2 = u0 at *
  refine prun_loop (fun y : Nat × List Ky × Nat × Bool => hdS [(2, .bp 0 0), (3, i64 0), (4, bv text), (6, i64 (y.2.2.1 : Nat)), (8, i64 (m : Nat)), (11, .bp 1 0), (12, bo y.2.2.2), (13, i64 (y.1 : Nat))] [[V.c (ic 0), .ow none []], [V.c (ic nx), .ow (if y.2.1.isEmpty then none else EK) (y.2.1.map kC)]]) (fun y => m - y.1)
    (fun y => y.1 ≤ m ∧ y.2.1.length = y.1 ∧ y.2.2.1 ≤ text.length ∧ (∀ k ∈ y.2.1, k.ok) ∧ decE nx (decL (m - y.1) y.2.1 (text.drop y.2.2.1) y.2.2.2) = (t, e)) (0, [], u0, false) ⟨Nat.zero_le _, rfl, hu, by simp, hT3⟩ ?_ ?_
  · refine le_hd rfl (Nat.zero_le _) (by simp) (by simp [FL, up_apply]) (by simp [BL, up_apply, setV])
  clear hT3 hu
  rintro ⟨j, ks, at_, st⟩ ⟨hj, hk, hat, hko, hT⟩ R hnorm hexit hret
  simp only at hj hk hat hko hT
  by_cases hlt : j < m
  · have d1 : decide (((j : Nat) : Int) < (m : Nat)) = true := decide_eq_true (by omega)
    have hs : m - j = (m - (j + 1)) + 1 := by omega
    rw [hs] at hT
    simp -implicitDefEqProofs only [pkX, pkA, ↓reduceIte, Nat.reduceEqDiff, Nat.reduceAdd, Nat.reduceBEq, Nat.zero_add, d1]
    refine sl_bC ti_71 rfl ti_5 rfl (a := at_) (b := text.length) rfl rfl hat (Nat.le_refl _) ?_
    rw [List.take_length]
    simp -implicitDefEqProofs only [pkA, ↓reduceIte, Nat.reduceAdd, Nat.reduceBEq]
    have hbl : (text.drop at_).length ≤ 1000000 := by rw [List.length_drop]; omega
    rcases hg : getIs (text.drop at_) with ⟨l, u3, e3⟩
    have hr := rGetInts_ok (G := G) (text.drop at_) (by omega)
    rw [hg] at hr
    refine call_fn rfl hr (fun h => by cases h) ?_
    simp -implicitDefEqProofs only [pkX, pkA, ↓reduceIte, Nat.reduceEqDiff, Nat.reduceAdd, Nat.reduceBEq]
    refine pcond_of (fun he => ?_) (fun he => ?_)
    · have he : e3 ≠ 0 := by simpa using he
      have hR : tb0 = t ∧ e3 = e := by simpa [decL, hg, he, decE] using hT
      obtain ⟨rfl, rfl⟩ := hR
      simp -implicitDefEqProofs only [pkX, pkA, ptA, ↓reduceIte, Nat.reduceEqDiff, Nat.reduceAdd, Nat.reduceBEq, Nat.reduceMul, Nat.reduceLT, Nat.reduceLeDiff, Nat.zero_add, decide_true]
      refine hret _ ?_
      simp -implicitDefEqProofs only [pkX, pkA]
      exact retT2 (t := tb0) rfl (show 0 < 2 by decide) rfl rfl
    obtain rfl : e3 = 0 := by simpa using he
    clear he hr
    obtain ⟨g3, _, hI⟩ := getIs_dec hg
    rw [List.length_drop] at g3
    have hw3 : IntKind.i64.wrap ((at_ : Int) + (u3 : Int)) = ((at_ + u3 : Nat) : Int) := wrap_of (by omega) (by omega)
    simp -implicitDefEqProofs only [pkX, pkA, ptA, ↓reduceIte, Nat.reduceEqDiff, Nat.reduceAdd, Nat.reduceBEq, decide_true, mC_len, hw3]
    by_cases h8 : l.length = 8
    case neg =>
      have hR : tb0 = t ∧ 6 = e := by simpa [decL, hg, h8, decE] using hT
      obtain ⟨rfl, rfl⟩ := hR
      have d8 : (!decide (((l.length : Nat) : Int) = 8)) = true := by simp; omega
      simp -implicitDefEqProofs only [pkX, pkA, ptA, ↓reduceIte, Nat.reduceEqDiff, Nat.reduceAdd, Nat.reduceBEq, Nat.reduceMul, Nat.reduceLT, Nat.reduceLeDiff, Nat.zero_add, decide_true, d8]
      refine hret _ ?_
      simp -implicitDefEqProofs only [pkX, pkA]
      exact retT2 (t := tb0) rfl (show 0 < 2 by decide) rfl rfl
    have d8 : (!decide (((l.length : Nat) : Int) = 8)) = false := by simp; omega
    simp -implicitDefEqProofs only [pkX, pkA, ↓reduceIte, Nat.reduceEqDiff, Nat.reduceAdd, Nat.reduceBEq, d8]
    refine sl_bC ti_71 rfl ti_5 rfl (a := at_ + u3) (b := text.length) rfl rfl (by omega) (Nat.le_refl _) ?_
    rw [List.take_length]
    simp -implicitDefEqProofs only [pkA, ↓reduceIte, Nat.reduceAdd, Nat.reduceBEq]
    rcases hB : getB ((text.drop at_).drop u3) with ⟨x, u4, e4⟩
    rw [List.drop_drop] at hB
    have hr := rGetBytes_ok (G := G) (text.drop (at_ + u3)) (by rw [List.length_drop]; omega)
    rw [hB] at hr
    refine call_fn rfl hr (fun _ => rfl) ?_
    simp -implicitDefEqProofs only [pkX, pkA, ↓reduceIte, Nat.reduceEqDiff, Nat.reduceAdd, Nat.reduceBEq]
    refine pcond_of (fun he => ?_) (fun he => ?_)
    · have he : e4 ≠ 0 := by simpa using he
      have hR : tb0 = t ∧ e4 = e := by simpa [decL, hg, h8, hB, he, decE] using hT
      obtain ⟨rfl, rfl⟩ := hR
      simp -implicitDefEqProofs only [pkX, pkA, ptA, ↓reduceIte, Nat.reduceEqDiff, Nat.reduceAdd, Nat.reduceBEq, Nat.reduceMul, Nat.reduceLT, Nat.reduceLeDiff, Nat.zero_add, decide_true]
      refine hret _ ?_
      simp -implicitDefEqProofs only [pkX, pkA]
      exact retT2 (t := tb0) rfl (show 0 < 2 by decide) rfl rfl
    obtain rfl : e4 = 0 := by simpa using he
    clear he hr
    obtain ⟨g4, _⟩ := getB_ok hB
    rw [List.length_drop] at g4
    have hw4 : IntKind.i64.wrap (((at_ + u3 : Nat) : Int) + (u4 : Int)) = ((at_ + u3 + u4 : Nat) : Int) := wrap_of (by omega) (by omega)
    have hky := keyD_ok (v := x) hI
    match l, h8 with
    | [l0, l1, l2, l3, l4, l5, l6, l7], _ =>
    have e8 : ([l0, l1, l2, l3, l4, l5, l6, l7] : List Int).length = 8 := rfl
    have ek : keyD [l0, l1, l2, l3, l4, l5, l6, l7] x = ⟨l0, l1, x, l2, l3, l4, l5, l6, decide (l7 = 1)⟩ := rfl
    have eg : ([l0, l1, l2, l3, l4, l5, l6, l7] : List Int).getD 7 0 = l7 := rfl
    have hT : decE nx (decL (m - (j + 1)) (ks ++ [⟨l0, l1, x, l2, l3, l4, l5, l6, decide (l7 = 1)⟩]) (text.drop (at_ + u3 + u4)) (st || ((!decide (l7 = 0)) && !decide (l7 = 1)))) = (t, e) := by
      rw [← hT]
      simp only [decL, hg, List.drop_drop, hB, e8, ek, eg, ne_eq, not_true_eq_false, if_false, wi01]
    simp -implicitDefEqProofs only [pkX, pkA, ↓reduceIte, Nat.reduceEqDiff, Nat.reduceAdd, Nat.reduceBEq, Nat.zero_add, decide_true, hw4]
    refine join_vgdK (fun s' => (s'.fr 2 = .bp 0 0 ∧ s'.fr 3 = i64 0 ∧ s'.fr 4 = bv text ∧ s'.fr 6 = i64 ((at_ + u3 + u4 : Nat) : Int) ∧ s'.fr 8 = i64 (m : Nat) ∧ s'.fr 11 = .bp 1 0 ∧ s'.fr 12 = bo (st || ((!decide (l7 = 0)) && !decide (l7 = 1))) ∧ s'.fr 13 = i64 (j : Nat) ∧ s'.fr 14 = .c (.sl (mC ic [l0, l1, l2, l3, l4, l5, l6, l7])) ∧ s'.fr 17 = sv x) ∧
      s'.bx 0 = [V.c (ic 0), .ow none []] ∧ s'.bx 1 = [V.c (ic nx), .ow (if ks.isEmpty then none else EK) (ks.map kC)] ∧ s'.nb = 2) ?_ ?_
    rotate_left
    · intro K' hK'
      cases st
      · simp -implicitDefEqProofs only [pkA, ↓reduceIte, Nat.reduceEqDiff, Nat.reduceBEq]
        refine ia_mC ti_34 rfl ti_3 rfl (k := 7) rfl rfl ?_
        simp -implicitDefEqProofs only [pkA, ptA, ↓reduceIte, Nat.reduceEqDiff, Nat.reduceAdd, Nat.reduceBEq]
        cases d0 : decide (l7 = 0)
        · simp -implicitDefEqProofs only [pkA, ↓reduceIte, Nat.reduceEqDiff, Nat.reduceBEq]
          refine ia_mC ti_34 rfl ti_3 rfl (k := 7) rfl rfl ?_
          simp -implicitDefEqProofs only [pkA, ptA, ↓reduceIte, Nat.reduceEqDiff, Nat.reduceAdd, Nat.reduceBEq]
          exact hK' _ ⟨⟨rfl, rfl, rfl, rfl, rfl, rfl, by rw [d0]; rfl, rfl, rfl, rfl⟩, rfl, rfl, rfl⟩
        · simp -implicitDefEqProofs only [pkA, ↓reduceIte, Nat.reduceEqDiff]
          exact hK' _ ⟨⟨rfl, rfl, rfl, rfl, rfl, rfl, by rw [d0]; rfl, rfl, rfl, rfl⟩, rfl, rfl, rfl⟩
      · simp -implicitDefEqProofs only [pkA, ↓reduceIte, Nat.reduceEqDiff]
        exact hK' _ ⟨⟨rfl, rfl, rfl, rfl, rfl, rfl, rfl, rfl, rfl, rfl⟩, rfl, rfl, rfl⟩
    rintro ⟨fr, bx, nb⟩ ⟨⟨f2, f3, f4, f6, f8, f11, f12, f13, f14, f17⟩, x0, x1, xn⟩
    simp only at f2 f3 f4 f6 f8 f11 f12 f13 f14 f17 x0 x1 xn
    subst xn
    simp -implicitDefEqProofs only [pkX, pkA, ↓reduceIte, Nat.reduceAdd, Nat.reduceBEq]
    refine spl_of 1 1 139 rfl (show 1 < 2 by decide) (show (bx 1)[1]? = _ by rw [x1]; rfl) rfl ?_
    intro v
    refine .inl ?_
    simp -implicitDefEqProofs only [pkA, ptA, ↓reduceIte, Nat.reduceEqDiff, Nat.reduceAdd, Nat.reduceBEq, Nat.reduceMul, Nat.reduceLT, Nat.zero_add, decide_true, f11, f14, x1, S.split]
    refine ia_mC ti_34 rfl ti_3 rfl (k := 0) rfl rfl ?_
    simp -implicitDefEqProofs only [pkA, ptA, ↓reduceIte, Nat.reduceEqDiff, Nat.reduceAdd, Nat.reduceBEq, f14]
    refine ia_mC ti_34 rfl ti_3 rfl (k := 1) rfl rfl ?_
    simp -implicitDefEqProofs only [pkA, ptA, ↓reduceIte, Nat.reduceEqDiff, Nat.reduceAdd, Nat.reduceBEq, f14, f17]
    refine ia_mC ti_34 rfl ti_3 rfl (k := 2) rfl rfl ?_
    simp -implicitDefEqProofs only [pkA, ptA, ↓reduceIte, Nat.reduceEqDiff, Nat.reduceAdd, Nat.reduceBEq, f14]
    refine ia_mC ti_34 rfl ti_3 rfl (k := 3) rfl rfl ?_
    simp -implicitDefEqProofs only [pkA, ptA, ↓reduceIte, Nat.reduceEqDiff, Nat.reduceAdd, Nat.reduceBEq, f14]
    refine ia_mC ti_34 rfl ti_3 rfl (k := 4) rfl rfl ?_
    simp -implicitDefEqProofs only [pkA, ptA, ↓reduceIte, Nat.reduceEqDiff, Nat.reduceAdd, Nat.reduceBEq, f14]
    refine ia_mC ti_34 rfl ti_3 rfl (k := 5) rfl rfl ?_
    simp -implicitDefEqProofs only [pkA, ptA, ↓reduceIte, Nat.reduceEqDiff, Nat.reduceAdd, Nat.reduceBEq, f14]
    refine ia_mC ti_34 rfl ti_3 rfl (k := 6) rfl rfl ?_
    simp -implicitDefEqProofs only [pkA, ptA, ↓reduceIte, Nat.reduceEqDiff, Nat.reduceAdd, Nat.reduceBEq, f14]
    refine ia_mC ti_34 rfl ti_3 rfl (k := 7) rfl rfl ?_
    simp -implicitDefEqProofs only [pkA, ptA, ↓reduceIte, Nat.reduceEqDiff, Nat.reduceAdd, Nat.reduceBEq, Nat.reduceMul, Nat.reduceLeDiff, Nat.zero_add]
    refine gh_app (v := v) (E := if ks.isEmpty then none else EK) (es := ks.map kC) rfl rfl (by decide) ?_
    simp -implicitDefEqProofs only [pkA, ↓reduceIte]
    refine apK (k := ⟨l0, l1, x, l2, l3, l4, l5, l6, decide (l7 = 1)⟩) (by cases ks <;> simp) (by simp; omega) (by simp [kC_len]) ?_
    have hw0 : IntKind.i64.wrap ((j : Int) + 1) = ((j + 1 : Nat) : Int) := wrap_of (by omega) (by omega)
    simp -implicitDefEqProofs only [pkX, pkA, ptA, ↓reduceIte, Nat.reduceEqDiff, Nat.reduceAdd, Nat.reduceBEq, Nat.reduceMul, Nat.reduceLT, Nat.reduceLeDiff, Nat.zero_add, decide_true, f11, f13, hw0]
    refine hnorm (j + 1, ks ++ [⟨l0, l1, x, l2, l3, l4, l5, l6, decide (l7 = 1)⟩], at_ + u3 + u4, st || ((!decide (l7 = 0)) && !decide (l7 = 1))) _ ⟨hlt, by simp [hk], (show at_ + u3 + u4 ≤ text.length by omega), fun k hk => ?_, hT⟩ (by simp; omega) ?_
    · rcases List.mem_append.1 hk with h | h
      · exact hko k h
      · obtain rfl := List.mem_singleton.1 h
        exact hky
    · refine le_hd rfl (Nat.zero_le _) ?_ ?_ ?_
      · simp
      · simp [FL, up_apply, f2, f3, f4, f6, f8, f11, f12]
      · simp [BL, up_apply, x0]
  · obtain rfl : j = m := by omega
    have d1 : decide (((j : Nat) : Int) < (j : Nat)) = false := by simp
    rw [Nat.sub_self] at hT
    simp only [decL] at hT
    simp -implicitDefEqProofs only [pkX, pkA, ↓reduceIte, Nat.reduceEqDiff, Nat.reduceAdd, Nat.reduceBEq, Nat.zero_add, d1]
    refine hexit _ _ ?_
    clear hexit hnorm hret
    have hvo := rValidT_ok (G := G) ⟨nx, ks⟩ (by simp; omega) ⟨hn1, hko⟩
    rw [vT_eq] at hvo
    have hxe : (V.ow (if ks.isEmpty then none else EK) (ks.map kC)).ldv.fz = V.c (.sl (ks.map kC)) := by cases ks <;> rfl
    simp -implicitDefEqProofs only [pkX, pkA, ptA, ↓reduceIte, Nat.reduceEqDiff, Nat.reduceAdd, Nat.reduceBEq, Nat.reduceMul, Nat.reduceLT, Nat.zero_add, decide_true]
    refine call_fn rfl hvo (fun _ => rfl) ?_
    simp -implicitDefEqProofs only [pkX, pkA, ptA, ↓reduceIte, Nat.reduceEqDiff, Nat.reduceAdd, Nat.reduceBEq, bC_len]
    by_cases h0 : at_ = text.length
    case neg =>
      have d0 : (!decide (((at_ : Nat) : Int) = (text.length : Nat))) = true := by rw [decide_eq_false (by omega)]; rfl
      have hp : 0 < (text.drop at_).length := by rw [List.length_drop]; omega
      have hR : tb0 = t ∧ 6 = e := by
        rw [List.length_drop] at hp
        simpa [decE, hp] using hT
      obtain ⟨rfl, rfl⟩ := hR
      simp -implicitDefEqProofs only [pkX, pkA, ptA, ↓reduceIte, Nat.reduceEqDiff, Nat.reduceAdd, Nat.reduceBEq, Nat.reduceMul, Nat.reduceLT, Nat.reduceLeDiff, Nat.zero_add, decide_true, d0]
      exact retT2 (t := tb0) rfl (show 0 < 2 by decide) rfl rfl
    have d0 : (!decide (((at_ : Nat) : Int) = (text.length : Nat))) = false := by rw [decide_eq_true (by omega)]; rfl
    have hz : (text.drop at_).length = 0 := by rw [List.length_drop]; omega
    have hT : (if st = true then (tb0, (6 : Int)) else if validT ⟨nx, ks⟩ = false then (tb0, 6) else (⟨nx, ks⟩, 0)) = (t, e) := by
      rw [show text.drop at_ = [] from List.drop_eq_nil_of_le (by omega)] at hT
      exact hT
    cases st
    case true =>
      have hR : tb0 = t ∧ 6 = e := by simpa using hT
      obtain ⟨rfl, rfl⟩ := hR
      simp -implicitDefEqProofs only [pkX, pkA, ptA, ↓reduceIte, Nat.reduceEqDiff, Nat.reduceAdd, Nat.reduceBEq, Nat.reduceMul, Nat.reduceLT, Nat.reduceLeDiff, Nat.zero_add, decide_true, d0]
      exact retT2 (t := tb0) rfl (show 0 < 2 by decide) rfl rfl
    simp -implicitDefEqProofs only [pkX, pkA, ↓reduceIte, Nat.reduceEqDiff, Nat.reduceBEq, d0]
    cases hv : validT ⟨nx, ks⟩
    · have hR : tb0 = t ∧ 6 = e := by simpa [hv] using hT
      obtain ⟨rfl, rfl⟩ := hR
      simp -implicitDefEqProofs only [pkX, pkA, ptA, ↓reduceIte, Nat.reduceEqDiff, Nat.reduceAdd, Nat.reduceBEq, Nat.reduceMul, Nat.reduceLT, Nat.reduceLeDiff, Nat.zero_add, decide_true]
      exact retT2 (t := tb0) rfl (show 0 < 2 by decide) rfl rfl
    · have hR : (⟨nx, ks⟩ : Tb) = t ∧ 0 = e := by simpa [hv] using hT
      obtain ⟨rfl, rfl⟩ := hR
      simp -implicitDefEqProofs only [pkX, pkA, ptA, ↓reduceIte, Nat.reduceEqDiff, Nat.reduceAdd, Nat.reduceBEq, Nat.reduceMul, Nat.reduceLT, Nat.reduceLeDiff, Nat.zero_add, decide_true]
      exact retT2 (t := ⟨nx, ks⟩) rfl (show 0 < 2 by decide) rfl rfl
set_option maxRecDepth 100000 in
set_option maxHeartbeats 1500000 in
theorem rEncode_ok (t : Tb) (hn : I64 t.nx) (hl : t.ks.length ≤ 100000) (hk : ∀ k ∈ t.ks, k.ok ∧ k.val.length ≤ 1000) : FnOK Tryd.prog G 31 [tv t] (sv (encT t)) := by
  refine FnOK_by (rs := [.tmp 2]) false [200008, 200012, 300800, 301200, 200033, 200035, 200037, 200039, 200041, 200043, 200045, 200052, 303301, 303501, 303701, 303901, 304101, 304301, 304501, 305201] mixed Tryd.func31 rfl rfl rfl rfl (by kernel_rfl) (by simp) rfl rfl ?_
  obtain ⟨nx, ks⟩ := t
  simp only at hl hn hk
  have het : encT ⟨nx, ks⟩ = encI nx ++ encI (ks.length : Int) ++ (ks.map encK).flatten := rfl
  rw [het]
  have hel := encI_len nx
  have hel2 := encI_len (ks.length : Int)
  simp -implicitDefEqProofs only [pkA, ptA, ↓reduceIte, Nat.reduceEqDiff, Nat.reduceAdd, Nat.reduceBEq, Nat.reduceMul, Nat.reduceLT, Nat.zero_add, decide_true, tv, tC]
  refine call_fn rfl (rInt_ok nx hn) (fun h => by cases h) ?_
  simp -implicitDefEqProofs only [pkA, ptA, ↓reduceIte, Nat.reduceEqDiff, Nat.reduceAdd, Nat.reduceBEq, Nat.reduceMul, Nat.reduceLT, Nat.zero_add, decide_true, List.length_map, c_bs]
  refine call_fn rfl (rInt_ok (ks.length : Int) (I64_nat (by omega))) (fun h => by cases h) ?_
  simp -implicitDefEqProofs only [pkA, ↓reduceIte, Nat.reduceEqDiff, Nat.reduceAdd, Nat.reduceBEq, c_bs]
  refine s_add (by omega) ?_
  simp -implicitDefEqProofs only [pkA, ↓reduceIte, Nat.reduceAdd, Nat.reduceBEq]
  refine run_loop (fun i : Nat => hdS [(1, .bp 0 0), (3, sv (encI nx ++ encI (ks.length : Int) ++ ((ks.take i).map encK).flatten)), (4, i64 (i : Nat))] [[V.c (ic nx), V.c (.sl (ks.map kC))]]) (fun i => ks.length - i) (fun i => i ≤ ks.length) 0 (Nat.zero_le _) ?_ ?_
  · refine le_hd rfl (Nat.zero_le _) (by simp) (by simp [FL, up_apply]) (by simp [BL])
  rintro i hi R hnorm hexit hret
  have hwi := wrap_of (n := (i : Int) + 1) (k := i + 1) (by omega) (by omega)
  simp -implicitDefEqProofs only [pkA, ptA, ↓reduceIte, Nat.reduceEqDiff, Nat.reduceAdd, Nat.reduceBEq, Nat.reduceMul, Nat.reduceLT, Nat.zero_add, decide_true, List.length_map]
  refine vcond_of (fun hp => ?_) (fun hz => ?_)
  · have hp : i < ks.length := by have := dlt hp; omega
    obtain ⟨k, hk1⟩ : ∃ k, ks[i]? = some k := ⟨ks[i], List.getElem?_eq_getElem hp⟩
    obtain ⟨⟨g1, g2, g3, g4, g5, g6, g7⟩, g8⟩ := hk k (List.mem_of_getElem? hk1)
    have hset : ∀ l : List V, l.length = 9 → setV l 0 ((kC k).map V.c) = (kC k).map V.c := fun l h => setV_all (by rw [h]; rfl)
    have pa : ∀ s K, vload Tryd.prog 26 s (.c (.rp (kC k) 0)) K = K (kv k) := fun s K => ld_all ti_26 rfl (kC_len k)
    have hkl := encKs_len (ks.take i) fun x hx => (hk x (List.mem_of_mem_take hx)).2
    rw [List.length_take, Nat.min_eq_left hi] at hkl
    simp -implicitDefEqProofs only [pkA, ptA, ↓reduceIte, Nat.reduceEqDiff, Nat.reduceAdd, Nat.reduceBEq, Nat.reduceMul, Nat.reduceLT, Nat.zero_add, decide_true]
    refine ia_ks hk1 rfl ?_
    simp -implicitDefEqProofs only [pkA, ptA, ↓reduceIte, Nat.reduceEqDiff, Nat.reduceAdd, Nat.reduceBEq, Nat.reduceMul, Nat.reduceLT, Nat.reduceLeDiff, Nat.zero_add, decide_true, pa, kv]
    rw [hset _ rfl]
    refine ⟨rfl, ?_⟩
    have hnext : ((ks.take (i + 1)).map encK).flatten = ((ks.take i).map encK).flatten ++ (encIs [k.id, k.ty, k.uses, k.st, k.en, k.ver, k.par, rawI k.raw] ++ encB k.val) := by
      rw [take_snoc hk1, List.map_append, List.flatten_append]; simp [encK]
    have h1 := encI_len ((([k.id, k.ty, k.uses, k.st, k.en, k.ver, k.par, rawI k.raw] : List Int).length : Nat) : Int)
    have h2 := encIs_len [k.id, k.ty, k.uses, k.st, k.en, k.ver, k.par, rawI k.raw]
    have h3 := enc_len k.val (by omega)
    have h4 : (encIs [k.id, k.ty, k.uses, k.st, k.en, k.ver, k.par, rawI k.raw]).length ≤ 81 := by
      unfold encIs; rw [List.length_append]; simp only [List.length_cons, List.length_nil] at h1 h2 ⊢; omega
    have gr : I64 (rawI k.raw) := by unfold rawI; split <;> exact ⟨by decide, by decide⟩
    have hints := rInts_ok (G := G) [k.id, k.ty, k.uses, k.st, k.en, k.ver, k.par, rawI k.raw] (by simp) (by simp [g1, g2, g3, g4, g5, g6, g7, gr])
    generalize encIs [k.id, k.ty, k.uses, k.st, k.en, k.ver, k.par, rawI k.raw] = e1 at *
    simp -implicitDefEqProofs only [pkA]
    obtain ⟨id, ty, val, us, st, en, ver, par, raw⟩ := k
    simp only at g1 g2 g3 g4 g5 g6 g7 g8 h3 hnext hints
    simp -implicitDefEqProofs only [pkA, ↓reduceIte, kC]
    cases raw
    · simp -implicitDefEqProofs only [pkA, ptA, ↓reduceIte, Nat.reduceEqDiff, Nat.reduceAdd, Nat.reduceBEq, Nat.reduceMul, Nat.reduceLT, Nat.reduceLeDiff, Nat.zero_add, decide_true]
      refine call_fn («as» := [.c (.sl (mC ic [id, ty, us, st, en, ver, par, 0]))]) rfl hints (fun h => by cases h) ?_
      simp -implicitDefEqProofs only [pkA, ↓reduceIte, Nat.reduceEqDiff, Nat.reduceAdd, Nat.reduceBEq, c_bs]
      refine s_add (by simp only [List.length_append]; omega) ?_
      simp -implicitDefEqProofs only [pkA, ptA, ↓reduceIte, Nat.reduceEqDiff, Nat.reduceAdd, Nat.reduceBEq, Nat.reduceMul, Nat.reduceLT, Nat.zero_add, decide_true]
      refine call_fn («as» := [sv val]) rfl (rBytes_ok val (by omega)) (fun h => by cases h) ?_
      simp -implicitDefEqProofs only [pkA, ↓reduceIte, Nat.reduceEqDiff, Nat.reduceAdd, Nat.reduceBEq, c_bs]
      refine s_add (by simp only [List.length_append]; omega) ?_
      simp -implicitDefEqProofs only [pkA, ↓reduceIte, Nat.reduceEqDiff, Nat.reduceAdd, Nat.reduceBEq, hwi]
      refine hnorm (i + 1) _ hp (by omega) (le_hd rfl (Nat.zero_le _) (by simp) ?_ (by simp [BL, up_apply, bxs]))
      rw [hnext]
      simp [FL, up_apply]
    · simp -implicitDefEqProofs only [pkA, ptA, ↓reduceIte, Nat.reduceEqDiff, Nat.reduceAdd, Nat.reduceBEq, Nat.reduceMul, Nat.reduceLT, Nat.reduceLeDiff, Nat.zero_add, decide_true]
      refine call_fn («as» := [.c (.sl (mC ic [id, ty, us, st, en, ver, par, 1]))]) rfl hints (fun h => by cases h) ?_
      simp -implicitDefEqProofs only [pkA, ↓reduceIte, Nat.reduceEqDiff, Nat.reduceAdd, Nat.reduceBEq, c_bs]
      refine s_add (by simp only [List.length_append]; omega) ?_
      simp -implicitDefEqProofs only [pkA, ptA, ↓reduceIte, Nat.reduceEqDiff, Nat.reduceAdd, Nat.reduceBEq, Nat.reduceMul, Nat.reduceLT, Nat.zero_add, decide_true]
      refine call_fn («as» := [sv val]) rfl (rBytes_ok val (by omega)) (fun h => by cases h) ?_
      simp -implicitDefEqProofs only [pkA, ↓reduceIte, Nat.reduceEqDiff, Nat.reduceAdd, Nat.reduceBEq, c_bs]
      refine s_add (by simp only [List.length_append]; omega) ?_
      simp -implicitDefEqProofs only [pkA, ↓reduceIte, Nat.reduceEqDiff, Nat.reduceAdd, Nat.reduceBEq, hwi]
      refine hnorm (i + 1) _ hp (by omega) (le_hd rfl (Nat.zero_le _) (by simp) ?_ (by simp [BL, up_apply, bxs]))
      rw [hnext]
      simp [FL, up_apply]
  have hz : i = ks.length := by have := dge hz; omega
  subst hz
  simp -implicitDefEqProofs only [pkA]
  refine hexit _ _ ?_
  rw [List.take_length]
  simp -implicitDefEqProofs only [pkA, ↓reduceIte, Nat.reduceEqDiff, Nat.reduceAdd, Nat.reduceBEq]
end Go.Proofs.YtidlohfkfdeaiaaDoor
