/- The engine of layer 17: the closures that emit. Printed by gen17.py. -/
import Derived.Test.YthgmobkmmapgoaaGreatVlE4
set_option linter.unusedSimpArgs false
set_option linter.unusedVariables false
namespace Go.Proofs.YthgmobkmmapgoaaGreat
open Go Go.Vl
variable {G : Gl}
set_option maxRecDepth 4000
def i1 (t : Nat) : In := ⟨1, [], [handleF 0 t]⟩
theorem f1_ok {σ : Type} (Y : Ys σ) (p : Pol) (o : Option Fa) (t : Nat) (s : σ) (hF : Fut G Y s (emL o (i1 t))) :
  FnB Tryz.prog G 101 [i64 (t : Int), .bp (kx Y.k 1) 0] (Y.yb s ++ [eng p o, evar Y.k]) (bo (runS Y.step s (emL o (i1 t))).2) (Y.yb (runS Y.step s (emL o (i1 t))).1 ++ [eng p o, evar Y.k]) := by
 have hls : ltL (kx Y.k 2) [eng p o, evar Y.k] := lt_cons (eng_ltm Y.pos) (lt_cons (evar_lt (by decide)) lt_nil)
 have hva : ∀ x ∈ [i64 (t : Int), V.bp (kx Y.k 1) 0], x.lt (kx Y.k 2) := va_cons trivial (va_cons (bp_lt (by decide)) (va_nil))
 cases hmd : Y.mode
 ·refine FnB_byE (k := Y.k) (m := 2) (rs := [.tmp 3]) [1000008] mixed Tryz.func101 rfl rfl rfl rfl (by kernel_rfl) (by simp) rfl (Y.len s) (Y.len _) (Y.lt s) rfl hls hva ?_
  simp -implicitDefEqProofs only [pkA, ptA, ↓reduceIte, Nat.reduceEqDiff, Nat.reduceAdd, Nat.reduceBEq, Nat.reduceMul, pkB Y _, pkV]
  refine call_fn rfl (handle_ok _ _) (fun _ => rfl) ?_
  simp -implicitDefEqProofs only [pkA, ptA, ↓reduceIte, Nat.reduceEqDiff, Nat.reduceAdd, Nat.reduceBEq, Nat.reduceMul, Nat.reduceLeDiff, pkE, pkB Y _]
  refine emitA_call (i1 t) hmd (by simp [i1]) hF rfl rfl rfl ?_
  simp -implicitDefEqProofs only [pkA, ↓reduceIte, pkB Y _]
  exact envEnd rfl rfl hls (by simp [])
 ·refine FnB_byE (k := Y.k) (m := 2) (rs := [.tmp 3]) [1000008, 2000007] mixed Tryz.func101 rfl rfl rfl rfl (by kernel_rfl) (by simp) rfl (Y.len s) (Y.len _) (Y.lt s) rfl hls hva ?_
  simp -implicitDefEqProofs only [pkA, ptA, ↓reduceIte, Nat.reduceEqDiff, Nat.reduceAdd, Nat.reduceBEq, Nat.reduceMul, pkB Y _, pkV]
  refine call_fn rfl (handle_ok _ _) (fun _ => rfl) ?_
  simp -implicitDefEqProofs only [pkA, ptA, ↓reduceIte, Nat.reduceEqDiff, Nat.reduceAdd, Nat.reduceBEq, Nat.reduceMul, Nat.reduceLeDiff, pkE, pkB Y _, kx_succ]
  refine emitB_call 2 (i1 t) hmd (by simp [i1]) hF rfl rfl rfl (by decide) (by decide) (fun c' => ?_)
  simp -implicitDefEqProofs only [pkA, ↓reduceIte, pkB Y _]
  exact envEndR (rest := [c'.map .c]) rfl rfl rfl hls (by simp [])
def i2 (t : Nat) : In := ⟨2, [], [handleF (t + 1 : Nat) t]⟩
theorem f2_ok {σ : Type} (Y : Ys σ) (p : Pol) (o : Option Fa) (t : Nat) (ht : t ≤ 9223372036854775806) (s : σ) (hF : Fut G Y s (emL o (i2 t))) :
  FnB Tryz.prog G 104 [i64 (t : Int), .bp (kx Y.k 1) 0] (Y.yb s ++ [eng p o, evar Y.k]) (bo (runS Y.step s (emL o (i2 t))).2) (Y.yb (runS Y.step s (emL o (i2 t))).1 ++ [eng p o, evar Y.k]) := by
 have hls : ltL (kx Y.k 2) [eng p o, evar Y.k] := lt_cons (eng_ltm Y.pos) (lt_cons (evar_lt (by decide)) lt_nil)
 have hva : ∀ x ∈ [i64 (t : Int), V.bp (kx Y.k 1) 0], x.lt (kx Y.k 2) := va_cons trivial (va_cons (bp_lt (by decide)) (va_nil))
 have wt := wrap_of (n := (t : Int) + 1) (k := t + 1) (by omega) (by omega)
 cases hmd : Y.mode
 ·refine FnB_byE (k := Y.k) (m := 2) (rs := [.tmp 3]) [1000010] mixed Tryz.func104 rfl rfl rfl rfl (by kernel_rfl) (by simp) rfl (Y.len s) (Y.len _) (Y.lt s) rfl hls hva ?_
  simp -implicitDefEqProofs only [pkA, ptA, ↓reduceIte, Nat.reduceEqDiff, Nat.reduceAdd, Nat.reduceBEq, Nat.reduceMul, pkB Y _, pkV, wt]
  refine call_fn rfl (handle_ok _ _) (fun _ => rfl) ?_
  simp -implicitDefEqProofs only [pkA, ptA, ↓reduceIte, Nat.reduceEqDiff, Nat.reduceAdd, Nat.reduceBEq, Nat.reduceMul, Nat.reduceLeDiff, pkE, pkB Y _]
  refine emitA_call (i2 t) hmd (by simp [i2]) hF rfl rfl rfl ?_
  simp -implicitDefEqProofs only [pkA, ↓reduceIte, pkB Y _]
  exact envEnd rfl rfl hls (by simp [])
 ·refine FnB_byE (k := Y.k) (m := 2) (rs := [.tmp 3]) [1000010, 2000009] mixed Tryz.func104 rfl rfl rfl rfl (by kernel_rfl) (by simp) rfl (Y.len s) (Y.len _) (Y.lt s) rfl hls hva ?_
  simp -implicitDefEqProofs only [pkA, ptA, ↓reduceIte, Nat.reduceEqDiff, Nat.reduceAdd, Nat.reduceBEq, Nat.reduceMul, pkB Y _, pkV, wt]
  refine call_fn rfl (handle_ok _ _) (fun _ => rfl) ?_
  simp -implicitDefEqProofs only [pkA, ptA, ↓reduceIte, Nat.reduceEqDiff, Nat.reduceAdd, Nat.reduceBEq, Nat.reduceMul, Nat.reduceLeDiff, pkE, pkB Y _, kx_succ]
  refine emitB_call 2 (i2 t) hmd (by simp [i2]) hF rfl rfl rfl (by decide) (by decide) (fun c' => ?_)
  simp -implicitDefEqProofs only [pkA, ↓reduceIte, pkB Y _]
  exact envEndR (rest := [c'.map .c]) rfl rfl rfl hls (by simp [])
def i3 (a b s0 : Nat) : In := ⟨3, [handleF s0 a], [handleF (b + 1 : Nat) b]⟩
theorem f3_ok {σ : Type} (Y : Ys σ) (p : Pol) (o : Option Fa) (a b s0 : Nat) (hb : b ≤ 9223372036854775806) (s : σ) (hF : Fut G Y s (emL o (i3 a b s0))) :
  FnB Tryz.prog G 108 [i64 (s0 : Int), .bp (kx Y.k 1) 0, .bp (kx Y.k 2) 0, .bp (kx Y.k 3) 0] (Y.yb s ++ [eng p o, evar Y.k, nvar a, nvar b]) (bo (runS Y.step s (emL o (i3 a b s0))).2) (Y.yb (runS Y.step s (emL o (i3 a b s0))).1 ++ [eng p o, evar Y.k, nvar a, nvar b]) := by
 have hls : ltL (kx Y.k 4) [eng p o, evar Y.k, nvar a, nvar b] := lt_cons (eng_ltm Y.pos) (lt_cons (evar_lt (by decide)) (lt_cons nvar_lt (lt_cons nvar_lt lt_nil)))
 have hva : ∀ x ∈ [i64 (s0 : Int), V.bp (kx Y.k 1) 0, V.bp (kx Y.k 2) 0, V.bp (kx Y.k 3) 0], x.lt (kx Y.k 4) := va_cons trivial (va_cons (bp_lt (by decide)) (va_cons (bp_lt (by decide)) (va_cons (bp_lt (by decide)) (va_nil))))
 have wb := wrap_of (n := (b : Int) + 1) (k := b + 1) (by omega) (by omega)
 cases hmd : Y.mode
 ·refine FnB_byE (k := Y.k) (m := 4) (rs := [.tmp 5]) [1000016] mixed Tryz.func108 rfl rfl rfl rfl (by kernel_rfl) (by simp) rfl (Y.len s) (Y.len _) (Y.lt s) rfl hls hva ?_
  simp -implicitDefEqProofs only [pkA, ptA, ↓reduceIte, Nat.reduceEqDiff, Nat.reduceAdd, Nat.reduceBEq, Nat.reduceMul, Nat.reduceLT, pkB Y _, pkV]
  refine call_fn rfl (handle_ok _ _) (fun _ => rfl) ?_
  simp -implicitDefEqProofs only [pkA, ptA, ↓reduceIte, Nat.reduceEqDiff, Nat.reduceAdd, Nat.reduceBEq, Nat.reduceMul, Nat.reduceLeDiff, pkE, pkB Y _, pkV, wb]
  refine call_fn rfl (handle_ok _ _) (fun _ => rfl) ?_
  simp -implicitDefEqProofs only [pkA, ptA, ↓reduceIte, Nat.reduceEqDiff, Nat.reduceAdd, Nat.reduceBEq, Nat.reduceMul, Nat.reduceLeDiff, pkE, pkB Y _]
  refine emitA_call (i3 a b s0) hmd (by simp [i3]) hF rfl rfl rfl ?_
  simp -implicitDefEqProofs only [pkA, ↓reduceIte, pkB Y _]
  exact envEnd rfl rfl hls (by simp [])
 ·refine FnB_byE (k := Y.k) (m := 4) (rs := [.tmp 5]) [1000016, 2000015] mixed Tryz.func108 rfl rfl rfl rfl (by kernel_rfl) (by simp) rfl (Y.len s) (Y.len _) (Y.lt s) rfl hls hva ?_
  simp -implicitDefEqProofs only [pkA, ptA, ↓reduceIte, Nat.reduceEqDiff, Nat.reduceAdd, Nat.reduceBEq, Nat.reduceMul, Nat.reduceLT, pkB Y _, pkV]
  refine call_fn rfl (handle_ok _ _) (fun _ => rfl) ?_
  simp -implicitDefEqProofs only [pkA, ptA, ↓reduceIte, Nat.reduceEqDiff, Nat.reduceAdd, Nat.reduceBEq, Nat.reduceMul, Nat.reduceLeDiff, pkE, pkB Y _, pkV, wb]
  refine call_fn rfl (handle_ok _ _) (fun _ => rfl) ?_
  simp -implicitDefEqProofs only [pkA, ptA, ↓reduceIte, Nat.reduceEqDiff, Nat.reduceAdd, Nat.reduceBEq, Nat.reduceMul, Nat.reduceLeDiff, pkE, pkB Y _, kx_succ]
  refine emitB_call 4 (i3 a b s0) hmd (by simp [i3]) hF rfl rfl rfl (by decide) (by decide) (fun c' => ?_)
  simp -implicitDefEqProofs only [pkA, ↓reduceIte, pkB Y _]
  exact envEndR (rest := [c'.map .c]) rfl rfl rfl hls (by simp [])
def i4 (a b : Nat) : In := ⟨4, [handleF 0 a], [handleF 0 b]⟩
theorem f4_ok {σ : Type} (Y : Ys σ) (p : Pol) (o : Option Fa) (a b : Nat) (s : σ) (hF : Fut G Y s (emL o (i4 a b))) :
  FnB Tryz.prog G 109 [i64 (a : Int), i64 (b : Int), .bp (kx Y.k 1) 0] (Y.yb s ++ [eng p o, evar Y.k]) (bo (runS Y.step s (emL o (i4 a b))).2) (Y.yb (runS Y.step s (emL o (i4 a b))).1 ++ [eng p o, evar Y.k]) := by
 have hls : ltL (kx Y.k 2) [eng p o, evar Y.k] := lt_cons (eng_ltm Y.pos) (lt_cons (evar_lt (by decide)) lt_nil)
 have hva : ∀ x ∈ [i64 (a : Int), i64 (b : Int), V.bp (kx Y.k 1) 0], x.lt (kx Y.k 2) := va_cons trivial (va_cons trivial (va_cons (bp_lt (by decide)) (va_nil)))
 cases hmd : Y.mode
 ·refine FnB_byE (k := Y.k) (m := 2) (rs := [.tmp 5]) [1000013] mixed Tryz.func109 rfl rfl rfl rfl (by kernel_rfl) (by simp) rfl (Y.len s) (Y.len _) (Y.lt s) rfl hls hva ?_
  simp -implicitDefEqProofs only [pkA, ptA, ↓reduceIte, Nat.reduceEqDiff, Nat.reduceAdd, Nat.reduceBEq, Nat.reduceMul, pkB Y _, pkV]
  refine call_fn rfl (handle_ok _ _) (fun _ => rfl) ?_
  simp -implicitDefEqProofs only [pkA, ptA, ↓reduceIte, Nat.reduceEqDiff, Nat.reduceAdd, Nat.reduceBEq, Nat.reduceMul, Nat.reduceLeDiff, pkE, pkB Y _]
  refine call_fn rfl (handle_ok _ _) (fun _ => rfl) ?_
  simp -implicitDefEqProofs only [pkA, ptA, ↓reduceIte, Nat.reduceEqDiff, Nat.reduceAdd, Nat.reduceBEq, Nat.reduceMul, Nat.reduceLeDiff, pkE, pkB Y _]
  refine emitA_call (i4 a b) hmd (by simp [i4]) hF rfl rfl rfl ?_
  simp -implicitDefEqProofs only [pkA, ↓reduceIte, pkB Y _]
  exact envEnd rfl rfl hls (by simp [])
 ·refine FnB_byE (k := Y.k) (m := 2) (rs := [.tmp 5]) [1000013, 2000012] mixed Tryz.func109 rfl rfl rfl rfl (by kernel_rfl) (by simp) rfl (Y.len s) (Y.len _) (Y.lt s) rfl hls hva ?_
  simp -implicitDefEqProofs only [pkA, ptA, ↓reduceIte, Nat.reduceEqDiff, Nat.reduceAdd, Nat.reduceBEq, Nat.reduceMul, pkB Y _, pkV]
  refine call_fn rfl (handle_ok _ _) (fun _ => rfl) ?_
  simp -implicitDefEqProofs only [pkA, ptA, ↓reduceIte, Nat.reduceEqDiff, Nat.reduceAdd, Nat.reduceBEq, Nat.reduceMul, Nat.reduceLeDiff, pkE, pkB Y _]
  refine call_fn rfl (handle_ok _ _) (fun _ => rfl) ?_
  simp -implicitDefEqProofs only [pkA, ptA, ↓reduceIte, Nat.reduceEqDiff, Nat.reduceAdd, Nat.reduceBEq, Nat.reduceMul, Nat.reduceLeDiff, pkE, pkB Y _, kx_succ]
  refine emitB_call 2 (i4 a b) hmd (by simp [i4]) hF rfl rfl rfl (by decide) (by decide) (fun c' => ?_)
  simp -implicitDefEqProofs only [pkA, ↓reduceIte, pkB Y _]
  exact envEndR (rest := [c'.map .c]) rfl rfl rfl hls (by simp [])
def i5 (a b s0 : Nat) : In := ⟨5, [handleF s0 a, leakF s0], [leakF (b + 1 : Nat)]⟩
theorem f5_ok {σ : Type} (Y : Ys σ) (p : Pol) (o : Option Fa) (a b s0 : Nat) (hb : b ≤ 9223372036854775806) (s : σ) (hF : Fut G Y s (emL o (i5 a b s0))) :
  FnB Tryz.prog G 111 [i64 (s0 : Int), .bp (kx Y.k 1) 0, .bp (kx Y.k 2) 0, .bp (kx Y.k 3) 0] (Y.yb s ++ [eng p o, evar Y.k, nvar a, nvar b]) (bo (runS Y.step s (emL o (i5 a b s0))).2) (Y.yb (runS Y.step s (emL o (i5 a b s0))).1 ++ [eng p o, evar Y.k, nvar a, nvar b]) := by
 have hls : ltL (kx Y.k 4) [eng p o, evar Y.k, nvar a, nvar b] := lt_cons (eng_ltm Y.pos) (lt_cons (evar_lt (by decide)) (lt_cons nvar_lt (lt_cons nvar_lt lt_nil)))
 have hva : ∀ x ∈ [i64 (s0 : Int), V.bp (kx Y.k 1) 0, V.bp (kx Y.k 2) 0, V.bp (kx Y.k 3) 0], x.lt (kx Y.k 4) := va_cons trivial (va_cons (bp_lt (by decide)) (va_cons (bp_lt (by decide)) (va_cons (bp_lt (by decide)) (va_nil))))
 have wb := wrap_of (n := (b : Int) + 1) (k := b + 1) (by omega) (by omega)
 cases hmd : Y.mode
 ·refine FnB_byE (k := Y.k) (m := 4) (rs := [.tmp 5]) [1000017] mixed Tryz.func111 rfl rfl rfl rfl (by kernel_rfl) (by simp) rfl (Y.len s) (Y.len _) (Y.lt s) rfl hls hva ?_
  simp -implicitDefEqProofs only [pkA, ptA, ↓reduceIte, Nat.reduceEqDiff, Nat.reduceAdd, Nat.reduceBEq, Nat.reduceMul, Nat.reduceLT, pkB Y _, pkV]
  refine call_fn rfl (handle_ok _ _) (fun _ => rfl) ?_
  simp -implicitDefEqProofs only [pkA, ↓reduceIte, Nat.reduceEqDiff, Nat.reduceAdd, Nat.reduceBEq, pkB Y _]
  refine call_fn rfl (leak_ok _) (fun _ => rfl) ?_
  simp -implicitDefEqProofs only [pkA, ptA, ↓reduceIte, Nat.reduceEqDiff, Nat.reduceAdd, Nat.reduceBEq, Nat.reduceMul, Nat.reduceLT, Nat.reduceLeDiff, pkE, pkB Y _, pkV, wb]
  refine call_fn rfl (leak_ok _) (fun _ => rfl) ?_
  simp -implicitDefEqProofs only [pkA, ptA, ↓reduceIte, Nat.reduceEqDiff, Nat.reduceAdd, Nat.reduceBEq, Nat.reduceMul, Nat.reduceLeDiff, pkE, pkB Y _]
  refine emitA_call (i5 a b s0) hmd (by simp [i5]) hF rfl rfl rfl ?_
  simp -implicitDefEqProofs only [pkA, ↓reduceIte, pkB Y _]
  exact envEnd rfl rfl hls (by simp [])
 ·refine FnB_byE (k := Y.k) (m := 4) (rs := [.tmp 5]) [1000017, 2000016] mixed Tryz.func111 rfl rfl rfl rfl (by kernel_rfl) (by simp) rfl (Y.len s) (Y.len _) (Y.lt s) rfl hls hva ?_
  simp -implicitDefEqProofs only [pkA, ptA, ↓reduceIte, Nat.reduceEqDiff, Nat.reduceAdd, Nat.reduceBEq, Nat.reduceMul, Nat.reduceLT, pkB Y _, pkV]
  refine call_fn rfl (handle_ok _ _) (fun _ => rfl) ?_
  simp -implicitDefEqProofs only [pkA, ↓reduceIte, Nat.reduceEqDiff, Nat.reduceAdd, Nat.reduceBEq, pkB Y _]
  refine call_fn rfl (leak_ok _) (fun _ => rfl) ?_
  simp -implicitDefEqProofs only [pkA, ptA, ↓reduceIte, Nat.reduceEqDiff, Nat.reduceAdd, Nat.reduceBEq, Nat.reduceMul, Nat.reduceLT, Nat.reduceLeDiff, pkE, pkB Y _, pkV, wb]
  refine call_fn rfl (leak_ok _) (fun _ => rfl) ?_
  simp -implicitDefEqProofs only [pkA, ptA, ↓reduceIte, Nat.reduceEqDiff, Nat.reduceAdd, Nat.reduceBEq, Nat.reduceMul, Nat.reduceLeDiff, pkE, pkB Y _, kx_succ]
  refine emitB_call 4 (i5 a b s0) hmd (by simp [i5]) hF rfl rfl rfl (by decide) (by decide) (fun c' => ?_)
  simp -implicitDefEqProofs only [pkA, ↓reduceIte, pkB Y _]
  exact envEndR (rest := [c'.map .c]) rfl rfl rfl hls (by simp [])
def i6 (t s0 : Nat) : In := ⟨6, [handleF s0 t], [leakF s0]⟩
theorem f6_ok {σ : Type} (Y : Ys σ) (p : Pol) (o : Option Fa) (t s0 : Nat) (s : σ) (hF : Fut G Y s (emL o (i6 t s0))) :
  FnB Tryz.prog G 113 [i64 (s0 : Int), .bp (kx Y.k 1) 0, .bp (kx Y.k 2) 0] (Y.yb s ++ [eng p o, evar Y.k, nvar t]) (bo (runS Y.step s (emL o (i6 t s0))).2) (Y.yb (runS Y.step s (emL o (i6 t s0))).1 ++ [eng p o, evar Y.k, nvar t]) := by
 have hls : ltL (kx Y.k 3) [eng p o, evar Y.k, nvar t] := lt_cons (eng_ltm Y.pos) (lt_cons (evar_lt (by decide)) (lt_cons nvar_lt lt_nil))
 have hva : ∀ x ∈ [i64 (s0 : Int), V.bp (kx Y.k 1) 0, V.bp (kx Y.k 2) 0], x.lt (kx Y.k 3) := va_cons trivial (va_cons (bp_lt (by decide)) (va_cons (bp_lt (by decide)) (va_nil)))
 cases hmd : Y.mode
 ·refine FnB_byE (k := Y.k) (m := 3) (rs := [.tmp 4]) [1000013] mixed Tryz.func113 rfl rfl rfl rfl (by kernel_rfl) (by simp) rfl (Y.len s) (Y.len _) (Y.lt s) rfl hls hva ?_
  simp -implicitDefEqProofs only [pkA, ptA, ↓reduceIte, Nat.reduceEqDiff, Nat.reduceAdd, Nat.reduceBEq, Nat.reduceMul, Nat.reduceLT, pkB Y _, pkV]
  refine call_fn rfl (handle_ok _ _) (fun _ => rfl) ?_
  simp -implicitDefEqProofs only [pkA, ptA, ↓reduceIte, Nat.reduceEqDiff, Nat.reduceAdd, Nat.reduceBEq, Nat.reduceMul, Nat.reduceLeDiff, pkE, pkB Y _]
  refine call_fn rfl (leak_ok _) (fun _ => rfl) ?_
  simp -implicitDefEqProofs only [pkA, ptA, ↓reduceIte, Nat.reduceEqDiff, Nat.reduceAdd, Nat.reduceBEq, Nat.reduceMul, Nat.reduceLeDiff, pkE, pkB Y _]
  refine emitA_call (i6 t s0) hmd (by simp [i6]) hF rfl rfl rfl ?_
  simp -implicitDefEqProofs only [pkA, ↓reduceIte, pkB Y _]
  exact envEnd rfl rfl hls (by simp [])
 ·refine FnB_byE (k := Y.k) (m := 3) (rs := [.tmp 4]) [1000013, 2000012] mixed Tryz.func113 rfl rfl rfl rfl (by kernel_rfl) (by simp) rfl (Y.len s) (Y.len _) (Y.lt s) rfl hls hva ?_
  simp -implicitDefEqProofs only [pkA, ptA, ↓reduceIte, Nat.reduceEqDiff, Nat.reduceAdd, Nat.reduceBEq, Nat.reduceMul, Nat.reduceLT, pkB Y _, pkV]
  refine call_fn rfl (handle_ok _ _) (fun _ => rfl) ?_
  simp -implicitDefEqProofs only [pkA, ptA, ↓reduceIte, Nat.reduceEqDiff, Nat.reduceAdd, Nat.reduceBEq, Nat.reduceMul, Nat.reduceLeDiff, pkE, pkB Y _]
  refine call_fn rfl (leak_ok _) (fun _ => rfl) ?_
  simp -implicitDefEqProofs only [pkA, ptA, ↓reduceIte, Nat.reduceEqDiff, Nat.reduceAdd, Nat.reduceBEq, Nat.reduceMul, Nat.reduceLeDiff, pkE, pkB Y _, kx_succ]
  refine emitB_call 3 (i6 t s0) hmd (by simp [i6]) hF rfl rfl rfl (by decide) (by decide) (fun c' => ?_)
  simp -implicitDefEqProofs only [pkA, ↓reduceIte, pkB Y _]
  exact envEndR (rest := [c'.map .c]) rfl rfl rfl hls (by simp [])
def i7 (t v : Nat) : In := ⟨7, [handleF v t], [blobF v 0]⟩
theorem f7_ok {σ : Type} (Y : Ys σ) (p : Pol) (o : Option Fa) (t v : Nat) (s : σ) (hF : Fut G Y s (emL o (i7 t v))) :
  FnB Tryz.prog G 115 [i64 (v : Int), .bp (kx Y.k 1) 0, .bp (kx Y.k 2) 0] (Y.yb s ++ [eng p o, evar Y.k, nvar t]) (bo (runS Y.step s (emL o (i7 t v))).2) (Y.yb (runS Y.step s (emL o (i7 t v))).1 ++ [eng p o, evar Y.k, nvar t]) := by
 have hls : ltL (kx Y.k 3) [eng p o, evar Y.k, nvar t] := lt_cons (eng_ltm Y.pos) (lt_cons (evar_lt (by decide)) (lt_cons nvar_lt lt_nil))
 have hva : ∀ x ∈ [i64 (v : Int), V.bp (kx Y.k 1) 0, V.bp (kx Y.k 2) 0], x.lt (kx Y.k 3) := va_cons trivial (va_cons (bp_lt (by decide)) (va_cons (bp_lt (by decide)) (va_nil)))
 cases hmd : Y.mode
 ·refine FnB_byE (k := Y.k) (m := 3) (rs := [.tmp 4]) [1000013] mixed Tryz.func115 rfl rfl rfl rfl (by kernel_rfl) (by simp) rfl (Y.len s) (Y.len _) (Y.lt s) rfl hls hva ?_
  simp -implicitDefEqProofs only [pkA, ptA, ↓reduceIte, Nat.reduceEqDiff, Nat.reduceAdd, Nat.reduceBEq, Nat.reduceMul, Nat.reduceLT, pkB Y _, pkV]
  refine call_fn rfl (handle_ok _ _) (fun _ => rfl) ?_
  simp -implicitDefEqProofs only [pkA, ptA, ↓reduceIte, Nat.reduceEqDiff, Nat.reduceAdd, Nat.reduceBEq, Nat.reduceMul, Nat.reduceLeDiff, pkE, pkB Y _]
  refine call_fn rfl (blob_ok _ _) (fun _ => rfl) ?_
  simp -implicitDefEqProofs only [pkA, ptA, ↓reduceIte, Nat.reduceEqDiff, Nat.reduceAdd, Nat.reduceBEq, Nat.reduceMul, Nat.reduceLeDiff, pkE, pkB Y _]
  refine emitA_call (i7 t v) hmd (by simp [i7]) hF rfl rfl rfl ?_
  simp -implicitDefEqProofs only [pkA, ↓reduceIte, pkB Y _]
  exact envEnd rfl rfl hls (by simp [])
 ·refine FnB_byE (k := Y.k) (m := 3) (rs := [.tmp 4]) [1000013, 2000012] mixed Tryz.func115 rfl rfl rfl rfl (by kernel_rfl) (by simp) rfl (Y.len s) (Y.len _) (Y.lt s) rfl hls hva ?_
  simp -implicitDefEqProofs only [pkA, ptA, ↓reduceIte, Nat.reduceEqDiff, Nat.reduceAdd, Nat.reduceBEq, Nat.reduceMul, Nat.reduceLT, pkB Y _, pkV]
  refine call_fn rfl (handle_ok _ _) (fun _ => rfl) ?_
  simp -implicitDefEqProofs only [pkA, ptA, ↓reduceIte, Nat.reduceEqDiff, Nat.reduceAdd, Nat.reduceBEq, Nat.reduceMul, Nat.reduceLeDiff, pkE, pkB Y _]
  refine call_fn rfl (blob_ok _ _) (fun _ => rfl) ?_
  simp -implicitDefEqProofs only [pkA, ptA, ↓reduceIte, Nat.reduceEqDiff, Nat.reduceAdd, Nat.reduceBEq, Nat.reduceMul, Nat.reduceLeDiff, pkE, pkB Y _, kx_succ]
  refine emitB_call 3 (i7 t v) hmd (by simp [i7]) hF rfl rfl rfl (by decide) (by decide) (fun c' => ?_)
  simp -implicitDefEqProofs only [pkA, ↓reduceIte, pkB Y _]
  exact envEndR (rest := [c'.map .c]) rfl rfl rfl hls (by simp [])
def i8 (a b v w : Nat) : In := ⟨8, [handleF v a, handleF w b], [blobF v w]⟩
theorem f8_ok {σ : Type} (Y : Ys σ) (p : Pol) (o : Option Fa) (a b v w : Nat) (s : σ) (hF : Fut G Y s (emL o (i8 a b v w))) :
  FnB Tryz.prog G 119 [i64 (v : Int), i64 (w : Int), .bp (kx Y.k 1) 0, .bp (kx Y.k 2) 0, .bp (kx Y.k 3) 0] (Y.yb s ++ [eng p o, evar Y.k, nvar a, nvar b]) (bo (runS Y.step s (emL o (i8 a b v w))).2) (Y.yb (runS Y.step s (emL o (i8 a b v w))).1 ++ [eng p o, evar Y.k, nvar a, nvar b]) := by
 have hls : ltL (kx Y.k 4) [eng p o, evar Y.k, nvar a, nvar b] := lt_cons (eng_ltm Y.pos) (lt_cons (evar_lt (by decide)) (lt_cons nvar_lt (lt_cons nvar_lt lt_nil)))
 have hva : ∀ x ∈ [i64 (v : Int), i64 (w : Int), V.bp (kx Y.k 1) 0, V.bp (kx Y.k 2) 0, V.bp (kx Y.k 3) 0], x.lt (kx Y.k 4) := va_cons trivial (va_cons trivial (va_cons (bp_lt (by decide)) (va_cons (bp_lt (by decide)) (va_cons (bp_lt (by decide)) (va_nil)))))
 cases hmd : Y.mode
 ·refine FnB_byE (k := Y.k) (m := 4) (rs := [.tmp 7]) [1000020] mixed Tryz.func119 rfl rfl rfl rfl (by kernel_rfl) (by simp) rfl (Y.len s) (Y.len _) (Y.lt s) rfl hls hva ?_
  simp -implicitDefEqProofs only [pkA, ptA, ↓reduceIte, Nat.reduceEqDiff, Nat.reduceAdd, Nat.reduceBEq, Nat.reduceMul, Nat.reduceLT, pkB Y _, pkV]
  refine call_fn rfl (handle_ok _ _) (fun _ => rfl) ?_
  simp -implicitDefEqProofs only [pkA, ptA, ↓reduceIte, Nat.reduceEqDiff, Nat.reduceAdd, Nat.reduceBEq, Nat.reduceMul, pkB Y _, pkV]
  refine call_fn rfl (handle_ok _ _) (fun _ => rfl) ?_
  simp -implicitDefEqProofs only [pkA, ptA, ↓reduceIte, Nat.reduceEqDiff, Nat.reduceAdd, Nat.reduceBEq, Nat.reduceMul, Nat.reduceLT, Nat.reduceLeDiff, pkE, pkB Y _]
  refine call_fn rfl (blob_ok _ _) (fun _ => rfl) ?_
  simp -implicitDefEqProofs only [pkA, ptA, ↓reduceIte, Nat.reduceEqDiff, Nat.reduceAdd, Nat.reduceBEq, Nat.reduceMul, Nat.reduceLeDiff, pkE, pkB Y _]
  refine emitA_call (i8 a b v w) hmd (by simp [i8]) hF rfl rfl rfl ?_
  simp -implicitDefEqProofs only [pkA, ↓reduceIte, pkB Y _]
  exact envEnd rfl rfl hls (by simp [])
 ·refine FnB_byE (k := Y.k) (m := 4) (rs := [.tmp 7]) [1000020, 2000019] mixed Tryz.func119 rfl rfl rfl rfl (by kernel_rfl) (by simp) rfl (Y.len s) (Y.len _) (Y.lt s) rfl hls hva ?_
  simp -implicitDefEqProofs only [pkA, ptA, ↓reduceIte, Nat.reduceEqDiff, Nat.reduceAdd, Nat.reduceBEq, Nat.reduceMul, Nat.reduceLT, pkB Y _, pkV]
  refine call_fn rfl (handle_ok _ _) (fun _ => rfl) ?_
  simp -implicitDefEqProofs only [pkA, ptA, ↓reduceIte, Nat.reduceEqDiff, Nat.reduceAdd, Nat.reduceBEq, Nat.reduceMul, pkB Y _, pkV]
  refine call_fn rfl (handle_ok _ _) (fun _ => rfl) ?_
  simp -implicitDefEqProofs only [pkA, ptA, ↓reduceIte, Nat.reduceEqDiff, Nat.reduceAdd, Nat.reduceBEq, Nat.reduceMul, Nat.reduceLT, Nat.reduceLeDiff, pkE, pkB Y _]
  refine call_fn rfl (blob_ok _ _) (fun _ => rfl) ?_
  simp -implicitDefEqProofs only [pkA, ptA, ↓reduceIte, Nat.reduceEqDiff, Nat.reduceAdd, Nat.reduceBEq, Nat.reduceMul, Nat.reduceLeDiff, pkE, pkB Y _, kx_succ]
  refine emitB_call 4 (i8 a b v w) hmd (by simp [i8]) hF rfl rfl rfl (by decide) (by decide) (fun c' => ?_)
  simp -implicitDefEqProofs only [pkA, ↓reduceIte, pkB Y _]
  exact envEndR (rest := [c'.map .c]) rfl rfl rfl hls (by simp [])
def i9 (t v w : Nat) : In := ⟨9, [handleF v t, blobF v w], [leakF w]⟩
theorem f9_ok {σ : Type} (Y : Ys σ) (p : Pol) (o : Option Fa) (t v w : Nat) (s : σ) (hF : Fut G Y s (emL o (i9 t v w))) :
  FnB Tryz.prog G 121 [i64 (v : Int), i64 (w : Int), .bp (kx Y.k 1) 0, .bp (kx Y.k 2) 0] (Y.yb s ++ [eng p o, evar Y.k, nvar t]) (bo (runS Y.step s (emL o (i9 t v w))).2) (Y.yb (runS Y.step s (emL o (i9 t v w))).1 ++ [eng p o, evar Y.k, nvar t]) := by
 have hls : ltL (kx Y.k 3) [eng p o, evar Y.k, nvar t] := lt_cons (eng_ltm Y.pos) (lt_cons (evar_lt (by decide)) (lt_cons nvar_lt lt_nil))
 have hva : ∀ x ∈ [i64 (v : Int), i64 (w : Int), V.bp (kx Y.k 1) 0, V.bp (kx Y.k 2) 0], x.lt (kx Y.k 3) := va_cons trivial (va_cons trivial (va_cons (bp_lt (by decide)) (va_cons (bp_lt (by decide)) (va_nil))))
 cases hmd : Y.mode
 ·refine FnB_byE (k := Y.k) (m := 3) (rs := [.tmp 6]) [1000018] mixed Tryz.func121 rfl rfl rfl rfl (by kernel_rfl) (by simp) rfl (Y.len s) (Y.len _) (Y.lt s) rfl hls hva ?_
  simp -implicitDefEqProofs only [pkA, ptA, ↓reduceIte, Nat.reduceEqDiff, Nat.reduceAdd, Nat.reduceBEq, Nat.reduceMul, Nat.reduceLT, pkB Y _, pkV]
  refine call_fn rfl (handle_ok _ _) (fun _ => rfl) ?_
  simp -implicitDefEqProofs only [pkA, ↓reduceIte, Nat.reduceEqDiff, Nat.reduceAdd, Nat.reduceBEq, pkB Y _]
  refine call_fn rfl (blob_ok _ _) (fun _ => rfl) ?_
  simp -implicitDefEqProofs only [pkA, ptA, ↓reduceIte, Nat.reduceEqDiff, Nat.reduceAdd, Nat.reduceBEq, Nat.reduceMul, Nat.reduceLT, Nat.reduceLeDiff, pkE, pkB Y _]
  refine call_fn rfl (leak_ok _) (fun _ => rfl) ?_
  simp -implicitDefEqProofs only [pkA, ptA, ↓reduceIte, Nat.reduceEqDiff, Nat.reduceAdd, Nat.reduceBEq, Nat.reduceMul, Nat.reduceLeDiff, pkE, pkB Y _]
  refine emitA_call (i9 t v w) hmd (by simp [i9]) hF rfl rfl rfl ?_
  simp -implicitDefEqProofs only [pkA, ↓reduceIte, pkB Y _]
  exact envEnd rfl rfl hls (by simp [])
 ·refine FnB_byE (k := Y.k) (m := 3) (rs := [.tmp 6]) [1000018, 2000017] mixed Tryz.func121 rfl rfl rfl rfl (by kernel_rfl) (by simp) rfl (Y.len s) (Y.len _) (Y.lt s) rfl hls hva ?_
  simp -implicitDefEqProofs only [pkA, ptA, ↓reduceIte, Nat.reduceEqDiff, Nat.reduceAdd, Nat.reduceBEq, Nat.reduceMul, Nat.reduceLT, pkB Y _, pkV]
  refine call_fn rfl (handle_ok _ _) (fun _ => rfl) ?_
  simp -implicitDefEqProofs only [pkA, ↓reduceIte, Nat.reduceEqDiff, Nat.reduceAdd, Nat.reduceBEq, pkB Y _]
  refine call_fn rfl (blob_ok _ _) (fun _ => rfl) ?_
  simp -implicitDefEqProofs only [pkA, ptA, ↓reduceIte, Nat.reduceEqDiff, Nat.reduceAdd, Nat.reduceBEq, Nat.reduceMul, Nat.reduceLT, Nat.reduceLeDiff, pkE, pkB Y _]
  refine call_fn rfl (leak_ok _) (fun _ => rfl) ?_
  simp -implicitDefEqProofs only [pkA, ptA, ↓reduceIte, Nat.reduceEqDiff, Nat.reduceAdd, Nat.reduceBEq, Nat.reduceMul, Nat.reduceLeDiff, pkE, pkB Y _, kx_succ]
  refine emitB_call 3 (i9 t v w) hmd (by simp [i9]) hF rfl rfl rfl (by decide) (by decide) (fun c' => ?_)
  simp -implicitDefEqProofs only [pkA, ↓reduceIte, pkB Y _]
  exact envEndR (rest := [c'.map .c]) rfl rfl rfl hls (by simp [])
def i11 (a b : Nat) : In := ⟨11, [handleF 0 a], [handleF 0 b]⟩
theorem f11_ok {σ : Type} (Y : Ys σ) (p : Pol) (o : Option Fa) (a b : Nat) (s : σ) (hF : Fut G Y s (emL o (i11 a b))) :
  FnB Tryz.prog G 124 [i64 (a : Int), i64 (b : Int), .bp (kx Y.k 1) 0] (Y.yb s ++ [eng p o, evar Y.k]) (bo (runS Y.step s (emL o (i11 a b))).2) (Y.yb (runS Y.step s (emL o (i11 a b))).1 ++ [eng p o, evar Y.k]) := by
 have hls : ltL (kx Y.k 2) [eng p o, evar Y.k] := lt_cons (eng_ltm Y.pos) (lt_cons (evar_lt (by decide)) lt_nil)
 have hva : ∀ x ∈ [i64 (a : Int), i64 (b : Int), V.bp (kx Y.k 1) 0], x.lt (kx Y.k 2) := va_cons trivial (va_cons trivial (va_cons (bp_lt (by decide)) (va_nil)))
 cases hmd : Y.mode
 ·refine FnB_byE (k := Y.k) (m := 2) (rs := [.tmp 5]) [1000013] mixed Tryz.func124 rfl rfl rfl rfl (by kernel_rfl) (by simp) rfl (Y.len s) (Y.len _) (Y.lt s) rfl hls hva ?_
  simp -implicitDefEqProofs only [pkA, ptA, ↓reduceIte, Nat.reduceEqDiff, Nat.reduceAdd, Nat.reduceBEq, Nat.reduceMul, pkB Y _, pkV]
  refine call_fn rfl (handle_ok _ _) (fun _ => rfl) ?_
  simp -implicitDefEqProofs only [pkA, ptA, ↓reduceIte, Nat.reduceEqDiff, Nat.reduceAdd, Nat.reduceBEq, Nat.reduceMul, Nat.reduceLeDiff, pkE, pkB Y _]
  refine call_fn rfl (handle_ok _ _) (fun _ => rfl) ?_
  simp -implicitDefEqProofs only [pkA, ptA, ↓reduceIte, Nat.reduceEqDiff, Nat.reduceAdd, Nat.reduceBEq, Nat.reduceMul, Nat.reduceLeDiff, pkE, pkB Y _]
  refine emitA_call (i11 a b) hmd (by simp [i11]) hF rfl rfl rfl ?_
  simp -implicitDefEqProofs only [pkA, ↓reduceIte, pkB Y _]
  exact envEnd rfl rfl hls (by simp [])
 ·refine FnB_byE (k := Y.k) (m := 2) (rs := [.tmp 5]) [1000013, 2000012] mixed Tryz.func124 rfl rfl rfl rfl (by kernel_rfl) (by simp) rfl (Y.len s) (Y.len _) (Y.lt s) rfl hls hva ?_
  simp -implicitDefEqProofs only [pkA, ptA, ↓reduceIte, Nat.reduceEqDiff, Nat.reduceAdd, Nat.reduceBEq, Nat.reduceMul, pkB Y _, pkV]
  refine call_fn rfl (handle_ok _ _) (fun _ => rfl) ?_
  simp -implicitDefEqProofs only [pkA, ptA, ↓reduceIte, Nat.reduceEqDiff, Nat.reduceAdd, Nat.reduceBEq, Nat.reduceMul, Nat.reduceLeDiff, pkE, pkB Y _]
  refine call_fn rfl (handle_ok _ _) (fun _ => rfl) ?_
  simp -implicitDefEqProofs only [pkA, ptA, ↓reduceIte, Nat.reduceEqDiff, Nat.reduceAdd, Nat.reduceBEq, Nat.reduceMul, Nat.reduceLeDiff, pkE, pkB Y _, kx_succ]
  refine emitB_call 2 (i11 a b) hmd (by simp [i11]) hF rfl rfl rfl (by decide) (by decide) (fun c' => ?_)
  simp -implicitDefEqProofs only [pkA, ↓reduceIte, pkB Y _]
  exact envEndR (rest := [c'.map .c]) rfl rfl rfl hls (by simp [])
def i12 (a b s0 : Nat) : In := ⟨12, [handleF 0 a, handleF s0 b], [leakF s0]⟩
theorem f12_ok {σ : Type} (Y : Ys σ) (p : Pol) (o : Option Fa) (a b s0 : Nat) (s : σ) (hF : Fut G Y s (emL o (i12 a b s0))) :
  FnB Tryz.prog G 126 [i64 (s0 : Int), .bp (kx Y.k 1) 0, .bp (kx Y.k 2) 0, .bp (kx Y.k 3) 0] (Y.yb s ++ [eng p o, evar Y.k, nvar a, nvar b]) (bo (runS Y.step s (emL o (i12 a b s0))).2) (Y.yb (runS Y.step s (emL o (i12 a b s0))).1 ++ [eng p o, evar Y.k, nvar a, nvar b]) := by
 have hls : ltL (kx Y.k 4) [eng p o, evar Y.k, nvar a, nvar b] := lt_cons (eng_ltm Y.pos) (lt_cons (evar_lt (by decide)) (lt_cons nvar_lt (lt_cons nvar_lt lt_nil)))
 have hva : ∀ x ∈ [i64 (s0 : Int), V.bp (kx Y.k 1) 0, V.bp (kx Y.k 2) 0, V.bp (kx Y.k 3) 0], x.lt (kx Y.k 4) := va_cons trivial (va_cons (bp_lt (by decide)) (va_cons (bp_lt (by decide)) (va_cons (bp_lt (by decide)) (va_nil))))
 cases hmd : Y.mode
 ·refine FnB_byE (k := Y.k) (m := 4) (rs := [.tmp 5]) [1000016] mixed Tryz.func126 rfl rfl rfl rfl (by kernel_rfl) (by simp) rfl (Y.len s) (Y.len _) (Y.lt s) rfl hls hva ?_
  simp -implicitDefEqProofs only [pkA, ptA, ↓reduceIte, Nat.reduceEqDiff, Nat.reduceAdd, Nat.reduceBEq, Nat.reduceMul, Nat.reduceLT, pkB Y _, pkV]
  refine call_fn rfl (handle_ok _ _) (fun _ => rfl) ?_
  simp -implicitDefEqProofs only [pkA, ptA, ↓reduceIte, Nat.reduceEqDiff, Nat.reduceAdd, Nat.reduceBEq, Nat.reduceMul, pkB Y _, pkV]
  refine call_fn rfl (handle_ok _ _) (fun _ => rfl) ?_
  simp -implicitDefEqProofs only [pkA, ptA, ↓reduceIte, Nat.reduceEqDiff, Nat.reduceAdd, Nat.reduceBEq, Nat.reduceMul, Nat.reduceLT, Nat.reduceLeDiff, pkE, pkB Y _]
  refine call_fn rfl (leak_ok _) (fun _ => rfl) ?_
  simp -implicitDefEqProofs only [pkA, ptA, ↓reduceIte, Nat.reduceEqDiff, Nat.reduceAdd, Nat.reduceBEq, Nat.reduceMul, Nat.reduceLeDiff, pkE, pkB Y _]
  refine emitA_call (i12 a b s0) hmd (by simp [i12]) hF rfl rfl rfl ?_
  simp -implicitDefEqProofs only [pkA, ↓reduceIte, pkB Y _]
  exact envEnd rfl rfl hls (by simp [])
 ·refine FnB_byE (k := Y.k) (m := 4) (rs := [.tmp 5]) [1000016, 2000015] mixed Tryz.func126 rfl rfl rfl rfl (by kernel_rfl) (by simp) rfl (Y.len s) (Y.len _) (Y.lt s) rfl hls hva ?_
  simp -implicitDefEqProofs only [pkA, ptA, ↓reduceIte, Nat.reduceEqDiff, Nat.reduceAdd, Nat.reduceBEq, Nat.reduceMul, Nat.reduceLT, pkB Y _, pkV]
  refine call_fn rfl (handle_ok _ _) (fun _ => rfl) ?_
  simp -implicitDefEqProofs only [pkA, ptA, ↓reduceIte, Nat.reduceEqDiff, Nat.reduceAdd, Nat.reduceBEq, Nat.reduceMul, pkB Y _, pkV]
  refine call_fn rfl (handle_ok _ _) (fun _ => rfl) ?_
  simp -implicitDefEqProofs only [pkA, ptA, ↓reduceIte, Nat.reduceEqDiff, Nat.reduceAdd, Nat.reduceBEq, Nat.reduceMul, Nat.reduceLT, Nat.reduceLeDiff, pkE, pkB Y _]
  refine call_fn rfl (leak_ok _) (fun _ => rfl) ?_
  simp -implicitDefEqProofs only [pkA, ptA, ↓reduceIte, Nat.reduceEqDiff, Nat.reduceAdd, Nat.reduceBEq, Nat.reduceMul, Nat.reduceLeDiff, pkE, pkB Y _, kx_succ]
  refine emitB_call 4 (i12 a b s0) hmd (by simp [i12]) hF rfl rfl rfl (by decide) (by decide) (fun c' => ?_)
  simp -implicitDefEqProofs only [pkA, ↓reduceIte, pkB Y _]
  exact envEndR (rest := [c'.map .c]) rfl rfl rfl hls (by simp [])
def i13 (t s0 : Nat) : In := ⟨13, [leakF s0, handleF s0 t], [handleF 0 t]⟩
theorem f13_ok {σ : Type} (Y : Ys σ) (p : Pol) (o : Option Fa) (t s0 : Nat) (s : σ) (hF : Fut G Y s (emL o (i13 t s0))) :
  FnB Tryz.prog G 128 [i64 (s0 : Int), .bp (kx Y.k 1) 0, .bp (kx Y.k 2) 0] (Y.yb s ++ [eng p o, evar Y.k, nvar t]) (bo (runS Y.step s (emL o (i13 t s0))).2) (Y.yb (runS Y.step s (emL o (i13 t s0))).1 ++ [eng p o, evar Y.k, nvar t]) := by
 have hls : ltL (kx Y.k 3) [eng p o, evar Y.k, nvar t] := lt_cons (eng_ltm Y.pos) (lt_cons (evar_lt (by decide)) (lt_cons nvar_lt lt_nil))
 have hva : ∀ x ∈ [i64 (s0 : Int), V.bp (kx Y.k 1) 0, V.bp (kx Y.k 2) 0], x.lt (kx Y.k 3) := va_cons trivial (va_cons (bp_lt (by decide)) (va_cons (bp_lt (by decide)) (va_nil)))
 cases hmd : Y.mode
 ·refine FnB_byE (k := Y.k) (m := 3) (rs := [.tmp 4]) [1000015] mixed Tryz.func128 rfl rfl rfl rfl (by kernel_rfl) (by simp) rfl (Y.len s) (Y.len _) (Y.lt s) rfl hls hva ?_
  simp -implicitDefEqProofs only [pkA, ptA, ↓reduceIte, Nat.reduceEqDiff, Nat.reduceAdd, Nat.reduceBEq, Nat.reduceMul, Nat.reduceLT, pkB Y _, pkV]
  refine call_fn rfl (leak_ok _) (fun _ => rfl) ?_
  simp -implicitDefEqProofs only [pkA, ptA, ↓reduceIte, Nat.reduceEqDiff, Nat.reduceAdd, Nat.reduceBEq, Nat.reduceMul, pkB Y _, pkV]
  refine call_fn rfl (handle_ok _ _) (fun _ => rfl) ?_
  simp -implicitDefEqProofs only [pkA, ptA, ↓reduceIte, Nat.reduceEqDiff, Nat.reduceAdd, Nat.reduceBEq, Nat.reduceMul, Nat.reduceLT, Nat.reduceLeDiff, pkE, pkB Y _, pkV]
  refine call_fn rfl (handle_ok _ _) (fun _ => rfl) ?_
  simp -implicitDefEqProofs only [pkA, ptA, ↓reduceIte, Nat.reduceEqDiff, Nat.reduceAdd, Nat.reduceBEq, Nat.reduceMul, Nat.reduceLeDiff, pkE, pkB Y _]
  refine emitA_call (i13 t s0) hmd (by simp [i13]) hF rfl rfl rfl ?_
  simp -implicitDefEqProofs only [pkA, ↓reduceIte, pkB Y _]
  exact envEnd rfl rfl hls (by simp [])
 ·refine FnB_byE (k := Y.k) (m := 3) (rs := [.tmp 4]) [1000015, 2000014] mixed Tryz.func128 rfl rfl rfl rfl (by kernel_rfl) (by simp) rfl (Y.len s) (Y.len _) (Y.lt s) rfl hls hva ?_
  simp -implicitDefEqProofs only [pkA, ptA, ↓reduceIte, Nat.reduceEqDiff, Nat.reduceAdd, Nat.reduceBEq, Nat.reduceMul, Nat.reduceLT, pkB Y _, pkV]
  refine call_fn rfl (leak_ok _) (fun _ => rfl) ?_
  simp -implicitDefEqProofs only [pkA, ptA, ↓reduceIte, Nat.reduceEqDiff, Nat.reduceAdd, Nat.reduceBEq, Nat.reduceMul, pkB Y _, pkV]
  refine call_fn rfl (handle_ok _ _) (fun _ => rfl) ?_
  simp -implicitDefEqProofs only [pkA, ptA, ↓reduceIte, Nat.reduceEqDiff, Nat.reduceAdd, Nat.reduceBEq, Nat.reduceMul, Nat.reduceLT, Nat.reduceLeDiff, pkE, pkB Y _, pkV]
  refine call_fn rfl (handle_ok _ _) (fun _ => rfl) ?_
  simp -implicitDefEqProofs only [pkA, ptA, ↓reduceIte, Nat.reduceEqDiff, Nat.reduceAdd, Nat.reduceBEq, Nat.reduceMul, Nat.reduceLeDiff, pkE, pkB Y _, kx_succ]
  refine emitB_call 3 (i13 t s0) hmd (by simp [i13]) hF rfl rfl rfl (by decide) (by decide) (fun c' => ?_)
  simp -implicitDefEqProofs only [pkA, ↓reduceIte, pkB Y _]
  exact envEndR (rest := [c'.map .c]) rfl rfl rfl hls (by simp [])
def i15 (s0 : Nat) : In := ⟨15, [blobF 0 s0], [leakF s0]⟩
theorem f15_ok {σ : Type} (Y : Ys σ) (p : Pol) (o : Option Fa) (s0 : Nat) (s : σ) (hF : Fut G Y s (emL o (i15 s0))) :
  FnB Tryz.prog G 129 [i64 (s0 : Int), .bp (kx Y.k 1) 0] (Y.yb s ++ [eng p o, evar Y.k]) (bo (runS Y.step s (emL o (i15 s0))).2) (Y.yb (runS Y.step s (emL o (i15 s0))).1 ++ [eng p o, evar Y.k]) := by
 have hls : ltL (kx Y.k 2) [eng p o, evar Y.k] := lt_cons (eng_ltm Y.pos) (lt_cons (evar_lt (by decide)) lt_nil)
 have hva : ∀ x ∈ [i64 (s0 : Int), V.bp (kx Y.k 1) 0], x.lt (kx Y.k 2) := va_cons trivial (va_cons (bp_lt (by decide)) (va_nil))
 cases hmd : Y.mode
 ·refine FnB_byE (k := Y.k) (m := 2) (rs := [.tmp 3]) [1000011] mixed Tryz.func129 rfl rfl rfl rfl (by kernel_rfl) (by simp) rfl (Y.len s) (Y.len _) (Y.lt s) rfl hls hva ?_
  simp -implicitDefEqProofs only [pkA, ptA, ↓reduceIte, Nat.reduceEqDiff, Nat.reduceAdd, Nat.reduceBEq, Nat.reduceMul, pkB Y _, pkV]
  refine call_fn rfl (blob_ok _ _) (fun _ => rfl) ?_
  simp -implicitDefEqProofs only [pkA, ptA, ↓reduceIte, Nat.reduceEqDiff, Nat.reduceAdd, Nat.reduceBEq, Nat.reduceMul, Nat.reduceLeDiff, pkE, pkB Y _]
  refine call_fn rfl (leak_ok _) (fun _ => rfl) ?_
  simp -implicitDefEqProofs only [pkA, ptA, ↓reduceIte, Nat.reduceEqDiff, Nat.reduceAdd, Nat.reduceBEq, Nat.reduceMul, Nat.reduceLeDiff, pkE, pkB Y _]
  refine emitA_call (i15 s0) hmd (by simp [i15]) hF rfl rfl rfl ?_
  simp -implicitDefEqProofs only [pkA, ↓reduceIte, pkB Y _]
  exact envEnd rfl rfl hls (by simp [])
 ·refine FnB_byE (k := Y.k) (m := 2) (rs := [.tmp 3]) [1000011, 2000010] mixed Tryz.func129 rfl rfl rfl rfl (by kernel_rfl) (by simp) rfl (Y.len s) (Y.len _) (Y.lt s) rfl hls hva ?_
  simp -implicitDefEqProofs only [pkA, ptA, ↓reduceIte, Nat.reduceEqDiff, Nat.reduceAdd, Nat.reduceBEq, Nat.reduceMul, pkB Y _, pkV]
  refine call_fn rfl (blob_ok _ _) (fun _ => rfl) ?_
  simp -implicitDefEqProofs only [pkA, ptA, ↓reduceIte, Nat.reduceEqDiff, Nat.reduceAdd, Nat.reduceBEq, Nat.reduceMul, Nat.reduceLeDiff, pkE, pkB Y _]
  refine call_fn rfl (leak_ok _) (fun _ => rfl) ?_
  simp -implicitDefEqProofs only [pkA, ptA, ↓reduceIte, Nat.reduceEqDiff, Nat.reduceAdd, Nat.reduceBEq, Nat.reduceMul, Nat.reduceLeDiff, pkE, pkB Y _, kx_succ]
  refine emitB_call 2 (i15 s0) hmd (by simp [i15]) hF rfl rfl rfl (by decide) (by decide) (fun c' => ?_)
  simp -implicitDefEqProofs only [pkA, ↓reduceIte, pkB Y _]
  exact envEndR (rest := [c'.map .c]) rfl rfl rfl hls (by simp [])
