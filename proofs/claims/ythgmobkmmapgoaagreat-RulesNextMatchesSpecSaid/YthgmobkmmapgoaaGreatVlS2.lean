/- Layer 17: the sanity example's facts. -/
import Derived.Test.YthgmobkmmapgoaaGreatVlN1
import Derived.KernelRfl
set_option linter.unusedSimpArgs false
set_option linter.unusedVariables false
namespace Go.Proofs.YthgmobkmmapgoaaGreat
open Go Go.Vl
set_option maxRecDepth 10000
def sP : Pol := ⟨⟨#[]⟩, [⟨⟨#[107, 101, 107]⟩, 65, 0⟩, ⟨⟨#[100, 101, 107]⟩, 25, 0⟩], [⟨3, 1, 0⟩], []⟩
def sA : List Fa := [⟨1, 1, 0⟩, ⟨1, 2, 1⟩, ⟨2, 0, 0⟩]
def sB : List Fa := [⟨2, 2, 0⟩, ⟨2, 2, 1⟩]
theorem sN0 : nextF sP [] = sA := by unfold nextF; rw [sortedF_eq]; kernel_rfl
theorem sN1 : nextF sP sA = sB := by unfold nextF; rw [sortedF_eq]; kernel_rfl
theorem sBad : badF sP = [leakF 1, rawF 1] := by unfold badF; rw [sortedF_eq]; kernel_rfl
theorem sUse : allL sP (some ⟨2, 2, 1⟩) = [⟨9, [handleF 2 1, blobF 2 1], [leakF 1]⟩] := by kernel_rfl
theorem sAll : (allL sP none).length = 27 := by kernel_rfl
theorem sCl : closedF sP sA = (⟨7, [handleF 2 1], [blobF 2 0]⟩, false) := by kernel_rfl
theorem sNew : newL sA = sA := by kernel_rfl
theorem sVal : validF sP ⟨1, 1, 0⟩ = true := by kernel_rfl
theorem sCmp : cmpF ⟨1, 1, 0⟩ ⟨1, 2, 1⟩ = -1 := by kernel_rfl
theorem sSrt : sortedF sB = sB := by rw [sortedF_eq]; kernel_rfl
theorem sS2 : (allL sP none).all (fun x => decide (x.pre.length ≤ 2) && decide (x.con.length ≤ 2)) = true := by kernel_rfl
theorem sSm : small2 (allL sP none) := fun x hx => by
 have := List.all_eq_true.1 sS2 x hx
 simpa using this
end Go.Proofs.YthgmobkmmapgoaaGreat
/- Layer 17: the law's sanity example. -/
namespace Go.Proofs.YthgmobkmmapgoaaGreat
open Go Go.Vl
variable {G : Gl}
set_option maxRecDepth 10000
theorem nil_bp {i o : Nat} {K : V → Prop} : vnilP Tryz.prog .eql 58 false (.bp i o) K = K (bo false) := vnilP_eq (b := false) rfl (by kernel_rfl)
theorem addS_call {S : List Fa} {f : Fa} {a b nb : Nat} {fr : Nat → V} {bx : Nat → List V} {K : Vl.S → V → Prop} (ha : a < nb) (hb : b < nb) (hab : a ≠ b) (h0 : bx a = mseq faC S) (h1 : bx b = [.mr a])
  (hK : ∀ bx' : Nat → List V, (∀ j, j ≠ a → j ≠ b → bx' j = bx j) → bx' a = mseq faC (insM S f) → bx' b = [.mr a] → K ⟨fr, bx', nb⟩ (bo (!decide (f ∈ S)))) : vcallB Tryz.prog G ⟨fr, bx, nb⟩ (.c (.fn (.func 36) [] [])) [.bp b 0, .agg (faC f)] K := by
 have setren : ∀ (ρ : Nat → Nat) (m : List Fa), (mseq faC m).map (V.ren ρ) = mseq faC m := fun ρ m => mseq_ren
 refine callB_sel [a, b] rfl (Add_okS S f) (by simp [V.fz, V.ren, rho]) rfl (by simp [hab]) rfl ⟨⟨by simp [rho, ha], by simp [h0, setren, rho]⟩, ⟨by simp [rho, hb], by simp [h1, rho, V.ren]⟩, trivial⟩ ?_
 intro bx' hoth hat
 refine hK bx' (fun j hj0 hj1 => hoth j (by simp [hj0, hj1])) ?_ ?_
 ·rw [← setren]; exact hat 0 a _ rfl rfl
 ·have := hat 1 b _ rfl rfl
  simpa [rho, V.ren] using this
theorem hasS_call {S : List Fa} {f : Fa} {a b nb : Nat} {fr : Nat → V} {bx : Nat → List V} {K : Vl.S → V → Prop} (ha : a < nb) (hb : b < nb) (hab : a ≠ b) (h0 : bx a = mseq faC S) (h1 : bx b = [.mr a])
  (hK : ∀ bx' : Nat → List V, (∀ j, j ≠ a → j ≠ b → bx' j = bx j) → bx' a = mseq faC S → bx' b = [.mr a] → K ⟨fr, bx', nb⟩ (bo (decide (f ∈ S)))) : vcallB Tryz.prog G ⟨fr, bx, nb⟩ (.c (.fn (.func 35) [] [])) [.bp b 0, .agg (faC f)] K := by
 have setren : ∀ (ρ : Nat → Nat) (m : List Fa), (mseq faC m).map (V.ren ρ) = mseq faC m := fun ρ m => mseq_ren
 refine callB_sel [a, b] rfl (Has_okS S f) (by simp [V.fz, V.ren, rho]) rfl (by simp [hab]) rfl ⟨⟨by simp [rho, ha], by simp [h0, setren, rho]⟩, ⟨by simp [rho, hb], by simp [h1, rho, V.ren]⟩, trivial⟩ ?_
 intro bx' hoth hat
 refine hK bx' (fun j hj0 hj1 => hoth j (by simp [hj0, hj1])) ?_ ?_
 ·rw [← setren]; exact hat 0 a _ rfl rfl
 ·have := hat 1 b _ rfl rfl
  simpa [rho, V.ren] using this
theorem lenS_call {S : List Fa} {a b nb : Nat} {fr : Nat → V} {bx : Nat → List V} {K : Vl.S → V → Prop} (ha : a < nb) (hb : b < nb) (hab : a ≠ b) (h0 : bx a = mseq faC S) (h1 : bx b = [.mr a])
  (hK : ∀ bx' : Nat → List V, (∀ j, j ≠ a → j ≠ b → bx' j = bx j) → bx' a = mseq faC S → bx' b = [.mr a] → K ⟨fr, bx', nb⟩ (i64 S.length)) : vcallB Tryz.prog G ⟨fr, bx, nb⟩ (.c (.fn (.func 39) [] [])) [.bp b 0] K := by
 have setren : ∀ (ρ : Nat → Nat) (m : List Fa), (mseq faC m).map (V.ren ρ) = mseq faC m := fun ρ m => mseq_ren
 refine callB_sel [a, b] rfl (Len_okS S) (by simp [V.fz, V.ren, rho]) rfl (by simp [hab]) rfl ⟨⟨by simp [rho, ha], by simp [h0, setren, rho]⟩, ⟨by simp [rho, hb], by simp [h1, rho, V.ren]⟩, trivial⟩ ?_
 intro bx' hoth hat
 refine hK bx' (fun j hj0 hj1 => hoth j (by simp [hj0, hj1])) ?_ ?_
 ·rw [← setren]; exact hat 0 a _ rfl rfl
 ·have := hat 1 b _ rfl rfl
  simpa [rho, V.ren] using this
theorem listS_call {S : List Fa} {a b nb : Nat} {fr : Nat → V} {bx : Nat → List V} {K : Vl.S → V → Prop} (hm : S.length ≤ 1000000) (ha : a < nb) (hb : b < nb) (hab : a ≠ b) (h0 : bx a = mseq faC S) (h1 : bx b = [.mr a])
  (hK : ∀ bx' : Nat → List V, (∀ j, j ≠ a → j ≠ b → j ≠ nb → bx' j = bx j) → bx' a = mseq faC S → bx' b = [.mr a] → bx' nb = flb faC (sortF S) → K ⟨fr, bx', nb + 1⟩ (.ms nb 0 S.length S.length 3)) : vcallB Tryz.prog G ⟨fr, bx, nb⟩ (.c (.fn (.func 38) [] [])) [.bp b 0] K := by
 have setren : ∀ (ρ : Nat → Nat) (m : List Fa), (mseq faC m).map (V.ren ρ) = mseq faC m := fun ρ m => mseq_ren
 refine callB_sel1 (b1 := setB S) [a, b] rfl (List_okS S hm) (by simp [V.fz, V.ren, rho]) rfl (by simp [hab]) rfl ⟨⟨by simp [rho, ha], by simp [h0, setren, rho]⟩, ⟨by simp [rho, hb], by simp [h1, rho, V.ren]⟩, trivial⟩ (by simp [ha, hb]) ?_
 intro bx' hoth hat hl
 have hK2 := hK bx' (fun j hj0 hj1 hj2 => hoth j (by simp [hj0, hj1]) hj2) ?_ ?_ ?_
 ·simpa [V.ren, rho] using hK2
 ·rw [← setren]; exact hat 0 a _ rfl rfl
 ·have := hat 1 b _ rfl rfl
  simpa [rho, V.ren] using this
 ·rw [flb_ren] at hl; exact hl
set_option maxHeartbeats 8000000 in
theorem sanity_ok : FnOK Tryz.prog G 10 [] (bo true) := by
 refine FnOK_by (rs := [.tmp 0]) false [1000056, 1000086, 1000091, 1000126, 1000134, 1000138] mixed Tryz.func10 rfl rfl rfl rfl (by kernel_rfl) (by simp) rfl rfl ?_
 have hp : sP.types.length ≤ 9223372036854775806 := by decide
 have hr : sP.rules.length ≤ 9223372036854775806 := by decide
 have hl : (allL sP none).length ≤ 20000 := by rw [sAll]; decide
 have eP : V.agg [cS ⟨#[]⟩, .sl [[cS ⟨#[107, 101, 107]⟩, cI 65, cI 0], [cS ⟨#[100, 101, 107]⟩, cI 25, cI 0]], .sl [[cI 3, cI 1, cI 0]], .sl []] = .agg (poC sP) := rfl
 have hN0 := Next_ok (G := G) sP [] hp hr hl sSm (by decide)
 have hN1 := Next_ok (G := G) sP sA hp hr hl sSm (by decide)
 rw [sN0] at hN0
 rw [sN1] at hN1
 simp -implicitDefEqProofs only [pkA, ptA, ↓reduceIte, Nat.reduceEqDiff, Nat.reduceAdd, Nat.reduceBEq, Nat.reduceMul, Nat.reduceLT, Nat.reduceLeDiff]
 have q0 : setV [V.c (.lit (.string ⟨#[]⟩)), .ow none [], .ow none [], .ow none []] 0 [.c (.lit (.string ⟨#[]⟩)), .c (.sl [[.lit (.string ⟨#[107, 101, 107]⟩), .lit (.int .i64 65), .lit (.int .i64 0)], [.lit (.string ⟨#[100, 101, 107]⟩), .lit (.int .i64 25), .lit (.int .i64 0)]]), .c (.sl [[.lit (.int .i64 3), .lit (.int .i64 1), .lit (.int .i64 0)]]), .c (.sl [])] = (poC sP).map .c := rfl
 have lP : ∀ nb q K, ldA nb q ((poC sP).map .c) 0 4 K = (q < nb ∧ K (.agg (poC sP))) := fun nb q K => by
  unfold ldA
  exact propext ⟨fun h => ⟨h.1, h.2.2⟩, fun h => ⟨h.1, ⟨rfl, rfl⟩, h.2⟩⟩
 have mP : isMb ((poC sP).map V.c) = false := rfl
 simp -implicitDefEqProofs only [pkA, ↓reduceIte, Nat.reduceAdd, Nat.reduceBEq, q0, lP, mP]
 refine call_fn («as» := [.agg (poC sP), .c (fsC [])]) rfl hN0 (fun h => by cases h) ?_
 simp -implicitDefEqProofs only [pkA, ptA, ↓reduceIte, Nat.reduceEqDiff, Nat.reduceAdd, Nat.reduceBEq, Nat.reduceMul, Nat.reduceLT, lP, mP]
 refine call_fn rfl hN1 (fun h => by cases h) ?_
 simp -implicitDefEqProofs only [pkA, ↓reduceIte, Nat.reduceEqDiff, Nat.reduceAdd, Nat.reduceBEq]
 refine call_fn rfl (rHandle_ok 1 0) (fun _ => rfl) ?_
 simp -implicitDefEqProofs only [pkA, ↓reduceIte, Nat.reduceAdd, Nat.reduceBEq]
 refine call_fn rfl (rHandle_ok 2 1) (fun _ => rfl) ?_
 simp -implicitDefEqProofs only [pkA, ↓reduceIte, Nat.reduceAdd, Nat.reduceBEq]
 refine call_fn rfl (rBlob_ok 0 0) (fun _ => rfl) ?_
 simp -implicitDefEqProofs only [pkA, ptA, ↓reduceIte, Nat.reduceEqDiff, Nat.reduceAdd, Nat.reduceBEq, Nat.reduceMul, Nat.reduceLT, Nat.reduceLeDiff, pkI]
 refine call_fn («as» := [.c (fsC sA), .c (fsC sA)]) rfl (Same_ok sA sA (by decide)) (fun _ => rfl) ?_
 simp -implicitDefEqProofs only [pkA, ↓reduceIte, Nat.reduceEqDiff, Nat.reduceAdd, Nat.reduceBEq, decide_true]
 refine call_fn rfl (rBlob_ok 2 0) (fun _ => rfl) ?_
 simp -implicitDefEqProofs only [pkA, ↓reduceIte, Nat.reduceAdd, Nat.reduceBEq]
 refine call_fn rfl (rBlob_ok 2 1) (fun _ => rfl) ?_
 simp -implicitDefEqProofs only [pkA, ptA, ↓reduceIte, Nat.reduceEqDiff, Nat.reduceAdd, Nat.reduceBEq, Nat.reduceMul, Nat.reduceLT, Nat.reduceLeDiff, pkI]
 refine call_fn («as» := [.c (fsC sB), .c (fsC sB)]) rfl (Same_ok sB sB (by decide)) (fun _ => rfl) ?_
 have hBad := Bad_ok (G := G) sP (by decide)
 rw [sBad] at hBad
 simp -implicitDefEqProofs only [pkA, ptA, ↓reduceIte, Nat.reduceEqDiff, Nat.reduceAdd, Nat.reduceBEq, Nat.reduceMul, Nat.reduceLT, lP, mP, decide_true]
 refine call_fn rfl hBad (fun h => by cases h) ?_
 simp -implicitDefEqProofs only [pkA, ↓reduceIte, Nat.reduceAdd, Nat.reduceBEq]
 refine call_fn rfl (rLeak_ok 1) (fun _ => rfl) ?_
 simp -implicitDefEqProofs only [pkA, ↓reduceIte, Nat.reduceAdd, Nat.reduceBEq]
 refine call_fn rfl (rRaw_ok 1) (fun _ => rfl) ?_
 simp -implicitDefEqProofs only [pkA, ptA, ↓reduceIte, Nat.reduceEqDiff, Nat.reduceAdd, Nat.reduceBEq, Nat.reduceMul, Nat.reduceLT, Nat.reduceLeDiff, pkI]
 refine call_fn («as» := [.c (fsC [leakF 1, rawF 1]), .c (fsC [leakF 1, rawF 1])]) rfl (Same_ok _ _ (by decide)) (fun _ => rfl) ?_
 simp -implicitDefEqProofs only [pkA, ptA, ↓reduceIte, Nat.reduceEqDiff, Nat.reduceAdd, Nat.reduceBEq, Nat.reduceMul, Nat.reduceLT, lP, mP, decide_true]
 refine call_fn rfl (rBlob_ok 2 1) (fun _ => rfl) ?_
 have hUse := using_ok (G := G) sP ⟨2, 2, 1⟩ hp hr (by rw [sUse]; decide)
 rw [sUse] at hUse
 simp -implicitDefEqProofs only [pkA, ↓reduceIte, Nat.reduceEqDiff, Nat.reduceAdd, Nat.reduceBEq]
 refine call_fn rfl hUse (fun h => by cases h) ?_
 have hAll := all_ok (G := G) sP hp hr hl
 simp -implicitDefEqProofs only [pkA, ptA, ↓reduceIte, Nat.reduceEqDiff, Nat.reduceAdd, Nat.reduceBEq, Nat.reduceMul, Nat.reduceLT, lP, mP]
 refine call_fn rfl hAll (fun h => by cases h) ?_
 have setren : ∀ (ρ : Nat → Nat) (m : List Fa), (mseq faC m).map (V.ren ρ) = mseq faC m := fun ρ m => mseq_ren
 simp -implicitDefEqProofs only [pkA, ↓reduceIte, Nat.reduceEqDiff, Nat.reduceAdd, Nat.reduceBEq]
 refine callB_new rfl (New_okS sA (by decide)) rfl ?_
 rw [sNew]
 simp -implicitDefEqProofs only [pkA, ptA, ↓reduceIte, Nat.reduceEqDiff, Nat.reduceAdd, Nat.reduceBEq, V.ren, setB_eq, setBx, setren, nil_bp]
 have d1 : decide (((1 : Nat) : Int) = 1) = true := rfl
 have d2 : decide (((3 : Nat) : Int) = 3) = true := rfl
 have d3 : decide (((2 : Nat) : Int) = 2) = true := rfl
 have d4 : decide (((27 : Nat) : Int) = 27) = true := rfl
 have d5 : decide (((4 : Nat) : Int) = 4) = true := rfl
 have d6 : decide ((9 : Int) = 9) = true := rfl
 have vA : ∀ K, vlen Tryz.prog 27 (.c (fsC sA)) K = K (i64 (3 : Nat)) := fun K => by unfold fsC; rw [len_27]; rfl
 have vB : ∀ K, vlen Tryz.prog 27 (.c (fsC sB)) K = K (i64 (2 : Nat)) := fun K => by unfold fsC; rw [len_27]; rfl
 have vM : ∀ K, vlen Tryz.prog 40 (.c (.sl ((allL sP none).map inC))) K = K (i64 (27 : Nat)) := fun K => by rw [len_40, List.length_map, sAll]
 generalize allL sP none = aL at vM
 simp -implicitDefEqProofs only [pkA, ↓reduceIte, Nat.reduceEqDiff, Nat.reduceAdd, Nat.reduceBEq, d1, d2, d3, vA, vB]
 refine ia_of ti_27 rfl ti_29 (by decide) (by decide) (c := faC ⟨1, 1, 0⟩) rfl rfl ?_
 simp -implicitDefEqProofs only [pkA, ptA, ↓reduceIte, Nat.reduceEqDiff, Nat.reduceAdd, Nat.reduceBEq, pkT]
 refine addS_call (S := sA) (a := 1) (b := 2) (show 1 < 3 by decide) (show 2 < 3 by decide) (by decide) (by simp [up_apply]) (by simp []) (fun bx1 hoth1 h1 h2 => ?_)
 have i1 : insM sA ⟨1, 1, 0⟩ = sA := rfl
 have i2 : (!decide ((⟨1, 1, 0⟩ : Fa) ∈ sA)) = false := rfl
 have h0 : bx1 0 = (poC sP).map .c := by rw [hoth1 0 (by decide) (by decide)]; simp [up_apply]
 rw [i1] at h1
 rw [i2]
 simp -implicitDefEqProofs only [pkA, ↓reduceIte, Nat.reduceEqDiff, Nat.reduceAdd, Nat.reduceBEq]
 refine ia_of ti_27 rfl ti_29 (by decide) (by decide) (c := faC ⟨2, 2, 0⟩) rfl rfl ?_
 simp -implicitDefEqProofs only [pkA, ptA, ↓reduceIte, Nat.reduceEqDiff, Nat.reduceAdd, Nat.reduceBEq, pkT]
 refine addS_call (S := sA) (a := 1) (b := 2) (show 1 < 3 by decide) (show 2 < 3 by decide) (by decide) h1 h2 (fun bx2 hoth2 k1 k2 => ?_)
 have i3 : (!decide ((⟨2, 2, 0⟩ : Fa) ∈ sA)) = true := rfl
 have k0 : bx2 0 = (poC sP).map .c := by rw [hoth2 0 (by decide) (by decide), h0]
 rw [i3]
 have hCl := Closed_ok (G := G) sP sA hp hr sSm (by decide)
 rw [sCl] at hCl
 simp -implicitDefEqProofs only [pkA, ptA, ↓reduceIte, Nat.reduceEqDiff, Nat.reduceAdd, Nat.reduceBEq, Nat.reduceMul, Nat.reduceLT, lP, mP, decide_true, k0]
 refine call_fn rfl hCl (fun h => by cases h) ?_
 simp -implicitDefEqProofs only [pkA, ptA, ↓reduceIte, Nat.reduceEqDiff, Nat.reduceAdd, Nat.reduceBEq, Nat.reduceMul, Nat.reduceLT, Nat.reduceLeDiff, pkT, decide_true]
 have d7 : decide ((7 : Int) = 7) = true := rfl
 have d8 : decide ((-1 : Int) = -1) = true := rfl
 have d9 : decide ((⟨2, 2, 0⟩ : Fa) ∈ insM sA ⟨2, 2, 0⟩) = true := rfl
 have qx : ∀ a b c : V, ∀ x : In, setV [a, b, c] 0 ((inC x).map .c) = (inC x).map .c := fun _ _ _ _ => rfl
 have qr : ∀ x : In, ∀ K, partV false 1 0 (inC x) K = K (i64 x.rule) := fun _ _ => rfl
 simp -implicitDefEqProofs only [pkA, ↓reduceIte, Nat.reduceEqDiff, Nat.reduceBEq, List.append_eq, qx]
 refine ia_of ti_40 rfl ti_50 (by decide) (by decide) (c := inC ⟨9, [handleF 2 1, blobF 2 1], [leakF 1]⟩) rfl rfl ?_
 simp -implicitDefEqProofs only [pkA, ptA, ↓reduceIte, Nat.reduceEqDiff, Nat.reduceAdd, Nat.reduceBEq, d4, vM, decide_true, qr]
 refine lenS_call (S := insM sA ⟨2, 2, 0⟩) (a := 1) (b := 2) (show 1 < 4 by decide) (show 2 < 4 by decide) (by decide) ((up_ne _ _ (show (1 : Nat) ≠ 3 by decide)).trans ((up_ne _ _ (show (1 : Nat) ≠ 3 by decide)).trans k1)) ((up_ne _ _ (show (2 : Nat) ≠ 3 by decide)).trans ((up_ne _ _ (show (2 : Nat) ≠ 3 by decide)).trans k2)) (fun bx3 hoth3 m1 m2 => ?_)
 have m0 : bx3 0 = (poC sP).map .c := by rw [hoth3 0 (by decide) (by decide)]; simp [up_apply, k0]
 have m3 : bx3 3 = (inC ⟨7, [handleF 2 1], [blobF 2 0]⟩).map .c := by rw [hoth3 3 (by decide) (by decide)]; exact up_same _ _ _
 have l4 : (insM sA ⟨2, 2, 0⟩).length = 4 := rfl
 rw [l4]
 simp -implicitDefEqProofs only [pkA, ↓reduceIte, Nat.reduceEqDiff, Nat.reduceBEq, d5]
 refine ia_of ti_27 rfl ti_29 (by decide) (by decide) (c := faC ⟨2, 2, 0⟩) rfl rfl ?_
 simp -implicitDefEqProofs only [pkA, ptA, ↓reduceIte, Nat.reduceEqDiff, Nat.reduceAdd, Nat.reduceBEq, pkT]
 refine hasS_call (S := insM sA ⟨2, 2, 0⟩) (a := 1) (b := 2) (show 1 < 4 by decide) (show 2 < 4 by decide) (by decide) m1 m2 (fun bx4 hoth4 n1 n2 => ?_)
 have n0 : bx4 0 = (poC sP).map .c := by rw [hoth4 0 (by decide) (by decide), m0]
 have n3 : bx4 3 = (inC ⟨7, [handleF 2 1], [blobF 2 0]⟩).map .c := by rw [hoth4 3 (by decide) (by decide), m3]
 simp -implicitDefEqProofs only [pkA, ↓reduceIte, Nat.reduceEqDiff, Nat.reduceAdd, Nat.reduceBEq, d9]
 refine listS_call (S := insM sA ⟨2, 2, 0⟩) (a := 1) (b := 2) (by rw [l4]; decide) (show 1 < 4 by decide) (show 2 < 4 by decide) (by decide) n1 n2 (fun bx5 hoth5 p1 p2 p4 => ?_)
 have p0 : bx5 0 = (poC sP).map .c := by rw [hoth5 0 (by decide) (by decide) (by decide), n0]
 have p3 : bx5 3 = (inC ⟨7, [handleF 2 1], [blobF 2 0]⟩).map .c := by rw [hoth5 3 (by decide) (by decide) (by decide), n3]
 rw [l4]
 simp -implicitDefEqProofs only [pkA, ptA, ↓reduceIte, Nat.reduceEqDiff, Nat.reduceAdd, Nat.reduceBEq, Nat.reduceMul, Nat.reduceLT, lP, mP, d5, decide_true, qr, p0, p3]
 refine ia_of ti_27 rfl ti_29 (by decide) (by decide) (c := faC ⟨1, 1, 0⟩) rfl rfl ?_
 have hV := Valid_ok (G := G) sP ⟨1, 1, 0⟩
 rw [sVal] at hV
 simp -implicitDefEqProofs only [pkA, ptA, ↓reduceIte, Nat.reduceEqDiff, Nat.reduceAdd, Nat.reduceBEq, pkT]
 refine call_fn rfl hV (fun _ => rfl) ?_
 simp -implicitDefEqProofs only [pkA, ↓reduceIte, Nat.reduceEqDiff, Nat.reduceBEq]
 refine ia_of ti_27 rfl ti_29 (by decide) (by decide) (c := faC ⟨1, 1, 0⟩) rfl rfl ?_
 simp -implicitDefEqProofs only [pkA, ptA, ↓reduceIte, Nat.reduceEqDiff, Nat.reduceAdd, Nat.reduceBEq, pkT]
 refine ia_of ti_27 rfl ti_29 (by decide) (by decide) (c := faC ⟨1, 2, 1⟩) rfl rfl ?_
 have hC := Compare_ok (G := G) ⟨1, 1, 0⟩ ⟨1, 2, 1⟩
 rw [sCmp] at hC
 simp -implicitDefEqProofs only [pkA, ptA, ↓reduceIte, Nat.reduceEqDiff, Nat.reduceAdd, Nat.reduceBEq, pkT]
 refine call_fn rfl hC (fun _ => rfl) ?_
 have hS := Sorted_ok (G := G) sB (by decide)
 rw [sSrt] at hS
 simp -implicitDefEqProofs only [pkA, ↓reduceIte, Nat.reduceEqDiff, Nat.reduceAdd, Nat.reduceBEq, decide_true]
 refine call_fn rfl hS (fun h => by cases h) ?_
 simp -implicitDefEqProofs only [pkA, ↓reduceIte, Nat.reduceEqDiff, Nat.reduceAdd, Nat.reduceBEq, d3, vB]
