/- The engine of layer 17: the closures between, the rules. Printed by gen17.py. -/
import Derived.Test.YthgmobkmmapgoaaGreatVlE7
set_option linter.unusedSimpArgs false
set_option linter.unusedVariables false
namespace Go.Proofs.YthgmobkmmapgoaaGreat
open Go Go.Vl
variable {G : Gl}
set_option maxRecDepth 4000
def m3 (p : Pol) (o : Option Fa) (a b : Nat) : List In := classL p.types.length (fun s0 => emL o (i3 a b s0)) 1
theorem g3_ok {σ : Type} (Y : Ys σ) (p : Pol) (o : Option Fa) (hp : p.types.length ≤ 9223372036854775806) (a b : Nat) (ha : a < p.types.length) (hb : b < p.types.length) (s : σ) (hF : Fut G Y s (m3 p o a b)) :
  FnB Tryz.prog G 106 [i64 (a : Int), i64 (b : Int), .bp (kx Y.k 1) 0] (Y.yb s ++ [eng p o, evar Y.k]) (bo (runS Y.step s (m3 p o a b)).2) (Y.yb (runS Y.step s (m3 p o a b)).1 ++ [eng p o, evar Y.k]) := by
 unfold m3 at hF ⊢
 have hls : ltL (kx Y.k 2) [eng p o, evar Y.k] := lt_cons (eng_ltm Y.pos) (lt_cons (evar_lt (by decide)) lt_nil)
 have hmo : ltL (kx Y.k 4) [evar Y.k, nvar a, nvar b] := fun q hq => (lt_cons (eng_ltm Y.pos) (lt_cons (evar_lt (by decide)) (lt_cons nvar_lt (lt_cons nvar_lt lt_nil))) : ltL (kx Y.k 4) [eng p o, evar Y.k, nvar a, nvar b]) q (List.mem_cons_of_mem _ hq)
 refine FnB_byE (k := Y.k) (m := 2) (rs := [.tmp 5]) [1000008] mixed Tryz.func106 rfl rfl rfl rfl (by kernel_rfl) (by simp) rfl (Y.len s) (Y.len _) (Y.lt s) rfl hls (va_cons trivial (va_cons trivial (va_cons (bp_lt (by decide)) va_nil))) ?_
 simp -implicitDefEqProofs only [frm_cons, frm_nil]
 simp -implicitDefEqProofs only [pkA, ptA, ↓reduceIte, Nat.reduceEqDiff, Nat.reduceAdd, Nat.reduceBEq, Nat.reduceMul, Nat.reduceLT, pkB Y _, pkW, kx_succ, fnv]
 refine callB_env (ls := [eng p o, evar Y.k, nvar a, nvar b]) rfl (classes_ok Y p hp o 1 (by decide) [evar Y.k, nvar a, nvar b] hmo _ (fun s0 => emL o (i3 a b s0)) ⟨108, [.bp (kx Y.k 1) 0, .bp (kx Y.k 2) 0, .bp (kx Y.k 3) 0], rfl, cp_cons (Nat.le_of_ble_eq_true rfl) (cp_cons (Nat.le_of_ble_eq_true rfl) (cp_cons (Nat.le_of_ble_eq_true rfl) (cp_nil))), rfl, fun s x hx hF => f3_ok Y p o a b x (by omega) s hF⟩ s hF) rfl rfl ?_
 simp -implicitDefEqProofs only [pkA, ↓reduceIte, pkB Y _]
 exact envEndR (rest := [nvar a, nvar b]) rfl rfl rfl hls (by simp [])
def m5 (p : Pol) (o : Option Fa) (a b : Nat) : List In := classL p.types.length (fun s0 => emL o (i5 a b s0)) 1
theorem g5_ok {σ : Type} (Y : Ys σ) (p : Pol) (o : Option Fa) (hp : p.types.length ≤ 9223372036854775806) (a b : Nat) (ha : a < p.types.length) (hb : b < p.types.length) (s : σ) (hF : Fut G Y s (m5 p o a b)) :
  FnB Tryz.prog G 110 [i64 (a : Int), i64 (b : Int), .bp (kx Y.k 1) 0] (Y.yb s ++ [eng p o, evar Y.k]) (bo (runS Y.step s (m5 p o a b)).2) (Y.yb (runS Y.step s (m5 p o a b)).1 ++ [eng p o, evar Y.k]) := by
 unfold m5 at hF ⊢
 have hls : ltL (kx Y.k 2) [eng p o, evar Y.k] := lt_cons (eng_ltm Y.pos) (lt_cons (evar_lt (by decide)) lt_nil)
 have hmo : ltL (kx Y.k 4) [evar Y.k, nvar a, nvar b] := fun q hq => (lt_cons (eng_ltm Y.pos) (lt_cons (evar_lt (by decide)) (lt_cons nvar_lt (lt_cons nvar_lt lt_nil))) : ltL (kx Y.k 4) [eng p o, evar Y.k, nvar a, nvar b]) q (List.mem_cons_of_mem _ hq)
 refine FnB_byE (k := Y.k) (m := 2) (rs := [.tmp 5]) [1000008] mixed Tryz.func110 rfl rfl rfl rfl (by kernel_rfl) (by simp) rfl (Y.len s) (Y.len _) (Y.lt s) rfl hls (va_cons trivial (va_cons trivial (va_cons (bp_lt (by decide)) va_nil))) ?_
 simp -implicitDefEqProofs only [frm_cons, frm_nil]
 simp -implicitDefEqProofs only [pkA, ptA, ↓reduceIte, Nat.reduceEqDiff, Nat.reduceAdd, Nat.reduceBEq, Nat.reduceMul, Nat.reduceLT, pkB Y _, pkW, kx_succ, fnv]
 refine callB_env (ls := [eng p o, evar Y.k, nvar a, nvar b]) rfl (classes_ok Y p hp o 1 (by decide) [evar Y.k, nvar a, nvar b] hmo _ (fun s0 => emL o (i5 a b s0)) ⟨111, [.bp (kx Y.k 1) 0, .bp (kx Y.k 2) 0, .bp (kx Y.k 3) 0], rfl, cp_cons (Nat.le_of_ble_eq_true rfl) (cp_cons (Nat.le_of_ble_eq_true rfl) (cp_cons (Nat.le_of_ble_eq_true rfl) (cp_nil))), rfl, fun s x hx hF => f5_ok Y p o a b x (by omega) s hF⟩ s hF) rfl rfl ?_
 simp -implicitDefEqProofs only [pkA, ↓reduceIte, pkB Y _]
 exact envEndR (rest := [nvar a, nvar b]) rfl rfl rfl hls (by simp [])
def m6 (p : Pol) (o : Option Fa) (t : Nat) : List In := classL p.types.length (fun s0 => emL o (i6 t s0)) 1
theorem g6_ok {σ : Type} (Y : Ys σ) (p : Pol) (o : Option Fa) (hp : p.types.length ≤ 9223372036854775806) (t : Nat) (ht : t < p.types.length) (s : σ) (hF : Fut G Y s (m6 p o t)) :
  FnB Tryz.prog G 112 [i64 (t : Int), .bp (kx Y.k 1) 0] (Y.yb s ++ [eng p o, evar Y.k]) (bo (runS Y.step s (m6 p o t)).2) (Y.yb (runS Y.step s (m6 p o t)).1 ++ [eng p o, evar Y.k]) := by
 unfold m6 at hF ⊢
 have hls : ltL (kx Y.k 2) [eng p o, evar Y.k] := lt_cons (eng_ltm Y.pos) (lt_cons (evar_lt (by decide)) lt_nil)
 have hmo : ltL (kx Y.k 3) [evar Y.k, nvar t] := fun q hq => (lt_cons (eng_ltm Y.pos) (lt_cons (evar_lt (by decide)) (lt_cons nvar_lt lt_nil)) : ltL (kx Y.k 3) [eng p o, evar Y.k, nvar t]) q (List.mem_cons_of_mem _ hq)
 refine FnB_byE (k := Y.k) (m := 2) (rs := [.tmp 3]) [1000006] mixed Tryz.func112 rfl rfl rfl rfl (by kernel_rfl) (by simp) rfl (Y.len s) (Y.len _) (Y.lt s) rfl hls (va_cons trivial (va_cons (bp_lt (by decide)) va_nil)) ?_
 simp -implicitDefEqProofs only [frm_cons, frm_nil]
 simp -implicitDefEqProofs only [pkA, ptA, ↓reduceIte, Nat.reduceEqDiff, Nat.reduceAdd, Nat.reduceBEq, Nat.reduceMul, Nat.reduceLT, pkB Y _, pkW, kx_succ, fnv]
 refine callB_env (ls := [eng p o, evar Y.k, nvar t]) rfl (classes_ok Y p hp o 1 (by decide) [evar Y.k, nvar t] hmo _ (fun s0 => emL o (i6 t s0)) ⟨113, [.bp (kx Y.k 1) 0, .bp (kx Y.k 2) 0], rfl, cp_cons (Nat.le_of_ble_eq_true rfl) (cp_cons (Nat.le_of_ble_eq_true rfl) (cp_nil)), rfl, fun s x hx hF => f6_ok Y p o t x  s hF⟩ s hF) rfl rfl ?_
 simp -implicitDefEqProofs only [pkA, ↓reduceIte, pkB Y _]
 exact envEndR (rest := [nvar t]) rfl rfl rfl hls (by simp [])
def m7 (p : Pol) (o : Option Fa) (t : Nat) : List In := classL p.types.length (fun s0 => emL o (i7 t s0)) 0
theorem g7_ok {σ : Type} (Y : Ys σ) (p : Pol) (o : Option Fa) (hp : p.types.length ≤ 9223372036854775806) (t : Nat) (ht : t < p.types.length) (s : σ) (hF : Fut G Y s (m7 p o t)) :
  FnB Tryz.prog G 114 [i64 (t : Int), .bp (kx Y.k 1) 0] (Y.yb s ++ [eng p o, evar Y.k]) (bo (runS Y.step s (m7 p o t)).2) (Y.yb (runS Y.step s (m7 p o t)).1 ++ [eng p o, evar Y.k]) := by
 unfold m7 at hF ⊢
 have hls : ltL (kx Y.k 2) [eng p o, evar Y.k] := lt_cons (eng_ltm Y.pos) (lt_cons (evar_lt (by decide)) lt_nil)
 have hmo : ltL (kx Y.k 3) [evar Y.k, nvar t] := fun q hq => (lt_cons (eng_ltm Y.pos) (lt_cons (evar_lt (by decide)) (lt_cons nvar_lt lt_nil)) : ltL (kx Y.k 3) [eng p o, evar Y.k, nvar t]) q (List.mem_cons_of_mem _ hq)
 refine FnB_byE (k := Y.k) (m := 2) (rs := [.tmp 3]) [1000006] mixed Tryz.func114 rfl rfl rfl rfl (by kernel_rfl) (by simp) rfl (Y.len s) (Y.len _) (Y.lt s) rfl hls (va_cons trivial (va_cons (bp_lt (by decide)) va_nil)) ?_
 simp -implicitDefEqProofs only [frm_cons, frm_nil]
 simp -implicitDefEqProofs only [pkA, ptA, ↓reduceIte, Nat.reduceEqDiff, Nat.reduceAdd, Nat.reduceBEq, Nat.reduceMul, Nat.reduceLT, pkB Y _, pkW, kx_succ, fnv]
 refine callB_env (ls := [eng p o, evar Y.k, nvar t]) rfl (classes_ok Y p hp o 0 (by decide) [evar Y.k, nvar t] hmo _ (fun s0 => emL o (i7 t s0)) ⟨115, [.bp (kx Y.k 1) 0, .bp (kx Y.k 2) 0], rfl, cp_cons (Nat.le_of_ble_eq_true rfl) (cp_cons (Nat.le_of_ble_eq_true rfl) (cp_nil)), rfl, fun s x hx hF => f7_ok Y p o t x  s hF⟩ s hF) rfl rfl ?_
 simp -implicitDefEqProofs only [pkA, ↓reduceIte, pkB Y _]
 exact envEndR (rest := [nvar t]) rfl rfl rfl hls (by simp [])
def m8 (p : Pol) (o : Option Fa) (a b : Nat) : List In := pairL p.types.length 0 (fun v w => emL o (i8 a b v w))
theorem g8_ok {σ : Type} (Y : Ys σ) (p : Pol) (o : Option Fa) (hp : p.types.length ≤ 9223372036854775806) (a b : Nat) (ha : a < p.types.length) (hb : b < p.types.length) (s : σ) (hF : Fut G Y s (m8 p o a b)) :
  FnB Tryz.prog G 117 [i64 (a : Int), i64 (b : Int), .bp (kx Y.k 1) 0] (Y.yb s ++ [eng p o, evar Y.k]) (bo (runS Y.step s (m8 p o a b)).2) (Y.yb (runS Y.step s (m8 p o a b)).1 ++ [eng p o, evar Y.k]) := by
 unfold m8 at hF ⊢
 have hls : ltL (kx Y.k 2) [eng p o, evar Y.k] := lt_cons (eng_ltm Y.pos) (lt_cons (evar_lt (by decide)) lt_nil)
 have hmo : ltL (kx Y.k 4) [evar Y.k, nvar a, nvar b] := fun q hq => (lt_cons (eng_ltm Y.pos) (lt_cons (evar_lt (by decide)) (lt_cons nvar_lt (lt_cons nvar_lt lt_nil))) : ltL (kx Y.k 4) [eng p o, evar Y.k, nvar a, nvar b]) q (List.mem_cons_of_mem _ hq)
 refine FnB_byE (k := Y.k) (m := 2) (rs := [.tmp 5]) [1000008] mixed Tryz.func117 rfl rfl rfl rfl (by kernel_rfl) (by simp) rfl (Y.len s) (Y.len _) (Y.lt s) rfl hls (va_cons trivial (va_cons trivial (va_cons (bp_lt (by decide)) va_nil))) ?_
 simp -implicitDefEqProofs only [frm_cons, frm_nil]
 simp -implicitDefEqProofs only [pkA, ptA, ↓reduceIte, Nat.reduceEqDiff, Nat.reduceAdd, Nat.reduceBEq, Nat.reduceMul, Nat.reduceLT, pkB Y _, pkW, kx_succ, fnv]
 refine callB_env (ls := [eng p o, evar Y.k, nvar a, nvar b]) rfl (pairsT2_ok Y p o a b 0 119 [.bp (kx Y.k 1) 0, .bp (kx Y.k 2) 0, .bp (kx Y.k 3) 0] (cp_cons (Nat.le_of_ble_eq_true rfl) (cp_cons (Nat.le_of_ble_eq_true rfl) (cp_cons (Nat.le_of_ble_eq_true rfl) (cp_nil)))) rfl (fun v w => emL o (i8 a b v w)) (fun s v w _ hF => f8_ok Y p o a b v w s hF) hp (by decide) s hF) rfl rfl ?_
 simp -implicitDefEqProofs only [pkA, ↓reduceIte, pkB Y _]
 exact envEndR (rest := [nvar a, nvar b]) rfl rfl rfl hls (by simp [])
def m9 (p : Pol) (o : Option Fa) (t : Nat) : List In := pairL p.types.length 1 (fun v w => emL o (i9 t v w))
theorem g9_ok {σ : Type} (Y : Ys σ) (p : Pol) (o : Option Fa) (hp : p.types.length ≤ 9223372036854775806) (t : Nat) (ht : t < p.types.length) (s : σ) (hF : Fut G Y s (m9 p o t)) :
  FnB Tryz.prog G 120 [i64 (t : Int), .bp (kx Y.k 1) 0] (Y.yb s ++ [eng p o, evar Y.k]) (bo (runS Y.step s (m9 p o t)).2) (Y.yb (runS Y.step s (m9 p o t)).1 ++ [eng p o, evar Y.k]) := by
 unfold m9 at hF ⊢
 have hls : ltL (kx Y.k 2) [eng p o, evar Y.k] := lt_cons (eng_ltm Y.pos) (lt_cons (evar_lt (by decide)) lt_nil)
 have hmo : ltL (kx Y.k 3) [evar Y.k, nvar t] := fun q hq => (lt_cons (eng_ltm Y.pos) (lt_cons (evar_lt (by decide)) (lt_cons nvar_lt lt_nil)) : ltL (kx Y.k 3) [eng p o, evar Y.k, nvar t]) q (List.mem_cons_of_mem _ hq)
 refine FnB_byE (k := Y.k) (m := 2) (rs := [.tmp 3]) [1000006] mixed Tryz.func120 rfl rfl rfl rfl (by kernel_rfl) (by simp) rfl (Y.len s) (Y.len _) (Y.lt s) rfl hls (va_cons trivial (va_cons (bp_lt (by decide)) va_nil)) ?_
 simp -implicitDefEqProofs only [frm_cons, frm_nil]
 simp -implicitDefEqProofs only [pkA, ptA, ↓reduceIte, Nat.reduceEqDiff, Nat.reduceAdd, Nat.reduceBEq, Nat.reduceMul, Nat.reduceLT, pkB Y _, pkW, kx_succ, fnv]
 refine callB_env (ls := [eng p o, evar Y.k, nvar t]) rfl (pairsT1_ok Y p o t 1 121 [.bp (kx Y.k 1) 0, .bp (kx Y.k 2) 0] (cp_cons (Nat.le_of_ble_eq_true rfl) (cp_cons (Nat.le_of_ble_eq_true rfl) (cp_nil))) rfl (fun v w => emL o (i9 t v w)) (fun s v w _ hF => f9_ok Y p o t v w s hF) hp (by decide) s hF) rfl rfl ?_
 simp -implicitDefEqProofs only [pkA, ↓reduceIte, pkB Y _]
 exact envEndR (rest := [nvar t]) rfl rfl rfl hls (by simp [])
def m10 (p : Pol) (o : Option Fa) (a b : Nat) : List In := pairL p.types.length 0 (fun v w => r10 o a b v w)
theorem g10_ok {σ : Type} (Y : Ys σ) (p : Pol) (o : Option Fa) (hp : p.types.length ≤ 9223372036854775806) (h10 : F10 G Y p o) (a b : Nat) (ha : a < p.types.length) (hb : b < p.types.length) (s : σ) (hF : Fut G Y s (m10 p o a b)) :
  FnB Tryz.prog G 122 [i64 (a : Int), i64 (b : Int), .bp (kx Y.k 1) 0] (Y.yb s ++ [eng p o, evar Y.k]) (bo (runS Y.step s (m10 p o a b)).2) (Y.yb (runS Y.step s (m10 p o a b)).1 ++ [eng p o, evar Y.k]) := by
 unfold m10 at hF ⊢
 have hls : ltL (kx Y.k 2) [eng p o, evar Y.k] := lt_cons (eng_ltm Y.pos) (lt_cons (evar_lt (by decide)) lt_nil)
 have hmo : ltL (kx Y.k 4) [evar Y.k, nvar a, nvar b] := fun q hq => (lt_cons (eng_ltm Y.pos) (lt_cons (evar_lt (by decide)) (lt_cons nvar_lt (lt_cons nvar_lt lt_nil))) : ltL (kx Y.k 4) [eng p o, evar Y.k, nvar a, nvar b]) q (List.mem_cons_of_mem _ hq)
 refine FnB_byE (k := Y.k) (m := 2) (rs := [.tmp 5]) [1000008] mixed Tryz.func122 rfl rfl rfl rfl (by kernel_rfl) (by simp) rfl (Y.len s) (Y.len _) (Y.lt s) rfl hls (va_cons trivial (va_cons trivial (va_cons (bp_lt (by decide)) va_nil))) ?_
 simp -implicitDefEqProofs only [frm_cons, frm_nil]
 simp -implicitDefEqProofs only [pkA, ptA, ↓reduceIte, Nat.reduceEqDiff, Nat.reduceAdd, Nat.reduceBEq, Nat.reduceMul, Nat.reduceLT, pkB Y _, pkW, kx_succ, fnv]
 refine callB_env (ls := [eng p o, evar Y.k, nvar a, nvar b]) rfl (pairsT2_ok Y p o a b 0 123 [.bp (kx Y.k 3) 0, .bp (kx Y.k 1) 0, .bp (kx Y.k 2) 0] (cp_cons (Nat.le_of_ble_eq_true rfl) (cp_cons (Nat.le_of_ble_eq_true rfl) (cp_cons (Nat.le_of_ble_eq_true rfl) (cp_nil)))) rfl (fun v w => r10 o a b v w) (fun s v w _ hF => h10.ok a b v w s hF) hp (by decide) s hF) rfl rfl ?_
 simp -implicitDefEqProofs only [pkA, ↓reduceIte, pkB Y _]
 exact envEndR (rest := [nvar a, nvar b]) rfl rfl rfl hls (by simp [])
def m12 (p : Pol) (o : Option Fa) (a b : Nat) : List In := classL p.types.length (fun s0 => emL o (i12 a b s0)) 1
theorem g12_ok {σ : Type} (Y : Ys σ) (p : Pol) (o : Option Fa) (hp : p.types.length ≤ 9223372036854775806) (a b : Nat) (ha : a < p.types.length) (hb : b < p.types.length) (s : σ) (hF : Fut G Y s (m12 p o a b)) :
  FnB Tryz.prog G 125 [i64 (a : Int), i64 (b : Int), .bp (kx Y.k 1) 0] (Y.yb s ++ [eng p o, evar Y.k]) (bo (runS Y.step s (m12 p o a b)).2) (Y.yb (runS Y.step s (m12 p o a b)).1 ++ [eng p o, evar Y.k]) := by
 unfold m12 at hF ⊢
 have hls : ltL (kx Y.k 2) [eng p o, evar Y.k] := lt_cons (eng_ltm Y.pos) (lt_cons (evar_lt (by decide)) lt_nil)
 have hmo : ltL (kx Y.k 4) [evar Y.k, nvar a, nvar b] := fun q hq => (lt_cons (eng_ltm Y.pos) (lt_cons (evar_lt (by decide)) (lt_cons nvar_lt (lt_cons nvar_lt lt_nil))) : ltL (kx Y.k 4) [eng p o, evar Y.k, nvar a, nvar b]) q (List.mem_cons_of_mem _ hq)
 refine FnB_byE (k := Y.k) (m := 2) (rs := [.tmp 5]) [1000008] mixed Tryz.func125 rfl rfl rfl rfl (by kernel_rfl) (by simp) rfl (Y.len s) (Y.len _) (Y.lt s) rfl hls (va_cons trivial (va_cons trivial (va_cons (bp_lt (by decide)) va_nil))) ?_
 simp -implicitDefEqProofs only [frm_cons, frm_nil]
 simp -implicitDefEqProofs only [pkA, ptA, ↓reduceIte, Nat.reduceEqDiff, Nat.reduceAdd, Nat.reduceBEq, Nat.reduceMul, Nat.reduceLT, pkB Y _, pkW, kx_succ, fnv]
 refine callB_env (ls := [eng p o, evar Y.k, nvar a, nvar b]) rfl (classes_ok Y p hp o 1 (by decide) [evar Y.k, nvar a, nvar b] hmo _ (fun s0 => emL o (i12 a b s0)) ⟨126, [.bp (kx Y.k 1) 0, .bp (kx Y.k 2) 0, .bp (kx Y.k 3) 0], rfl, cp_cons (Nat.le_of_ble_eq_true rfl) (cp_cons (Nat.le_of_ble_eq_true rfl) (cp_cons (Nat.le_of_ble_eq_true rfl) (cp_nil))), rfl, fun s x hx hF => f12_ok Y p o a b x  s hF⟩ s hF) rfl rfl ?_
 simp -implicitDefEqProofs only [pkA, ↓reduceIte, pkB Y _]
 exact envEndR (rest := [nvar a, nvar b]) rfl rfl rfl hls (by simp [])
def m13 (p : Pol) (o : Option Fa) (t : Nat) : List In := classL p.types.length (fun s0 => emL o (i13 t s0)) 1
theorem g13_ok {σ : Type} (Y : Ys σ) (p : Pol) (o : Option Fa) (hp : p.types.length ≤ 9223372036854775806) (t : Nat) (ht : t < p.types.length) (s : σ) (hF : Fut G Y s (m13 p o t)) :
  FnB Tryz.prog G 127 [i64 (t : Int), .bp (kx Y.k 1) 0] (Y.yb s ++ [eng p o, evar Y.k]) (bo (runS Y.step s (m13 p o t)).2) (Y.yb (runS Y.step s (m13 p o t)).1 ++ [eng p o, evar Y.k]) := by
 unfold m13 at hF ⊢
 have hls : ltL (kx Y.k 2) [eng p o, evar Y.k] := lt_cons (eng_ltm Y.pos) (lt_cons (evar_lt (by decide)) lt_nil)
 have hmo : ltL (kx Y.k 3) [evar Y.k, nvar t] := fun q hq => (lt_cons (eng_ltm Y.pos) (lt_cons (evar_lt (by decide)) (lt_cons nvar_lt lt_nil)) : ltL (kx Y.k 3) [eng p o, evar Y.k, nvar t]) q (List.mem_cons_of_mem _ hq)
 refine FnB_byE (k := Y.k) (m := 2) (rs := [.tmp 3]) [1000006] mixed Tryz.func127 rfl rfl rfl rfl (by kernel_rfl) (by simp) rfl (Y.len s) (Y.len _) (Y.lt s) rfl hls (va_cons trivial (va_cons (bp_lt (by decide)) va_nil)) ?_
 simp -implicitDefEqProofs only [frm_cons, frm_nil]
 simp -implicitDefEqProofs only [pkA, ptA, ↓reduceIte, Nat.reduceEqDiff, Nat.reduceAdd, Nat.reduceBEq, Nat.reduceMul, Nat.reduceLT, pkB Y _, pkW, kx_succ, fnv]
 refine callB_env (ls := [eng p o, evar Y.k, nvar t]) rfl (classes_ok Y p hp o 1 (by decide) [evar Y.k, nvar t] hmo _ (fun s0 => emL o (i13 t s0)) ⟨128, [.bp (kx Y.k 1) 0, .bp (kx Y.k 2) 0], rfl, cp_cons (Nat.le_of_ble_eq_true rfl) (cp_cons (Nat.le_of_ble_eq_true rfl) (cp_nil)), rfl, fun s x hx hF => f13_ok Y p o t x  s hF⟩ s hF) rfl rfl ?_
 simp -implicitDefEqProofs only [pkA, ↓reduceIte, pkB Y _]
 exact envEndR (rest := [nvar t]) rfl rfl rfl hls (by simp [])
def t1 (p : Pol) (o : Option Fa) : List In := flagL p o 2 (fun t => emL o (i1 t)) 0
theorem top1_ok {σ : Type} (Y : Ys σ) (p : Pol) (o : Option Fa) (hp : p.types.length ≤ 9223372036854775806) (hr : p.rules.length ≤ 9223372036854775806) (s : σ) (hF : Fut G Y s (t1 p o)) :
  FnB Tryz.prog G 68 [.bp (kx Y.k 0) 0] (Y.yb s ++ [eng p o]) (bo (runS Y.step s (t1 p o)).2) (Y.yb (runS Y.step s (t1 p o)).1 ++ [eng p o]) := by
 unfold t1 at hF ⊢
 have hls : ltL (kx Y.k 1) [eng p o] := lt_cons (eng_ltm Y.pos) lt_nil
 have hmo : ltL (kx Y.k 2) [evar Y.k] := lt_cons (evar_lt (by decide)) lt_nil
 refine FnB_byE (k := Y.k) (m := 1) (rs := [.tmp 2]) [1000005] mixed Tryz.func68 rfl rfl rfl rfl (by kernel_rfl) (by simp) rfl (Y.len s) (Y.len _) (Y.lt s) rfl hls (va_cons (bp_lt (by decide)) va_nil) ?_
 simp -implicitDefEqProofs only [frm_cons, frm_nil]
 simp -implicitDefEqProofs only [pkA, ptA, ↓reduceIte, Nat.reduceEqDiff, Nat.reduceAdd, Nat.reduceBEq, Nat.reduceMul, pkB Y _, pkW, kx_succ, fev]
 refine callB_env (ls := [eng p o, evar Y.k]) rfl (flagged_ok Y p hp o 2 [evar Y.k] hmo _ (fun t => emL o (i1 t)) ⟨101, [.bp (kx Y.k 1) 0], rfl, cp_cons (Nat.le_of_ble_eq_true rfl) cp_nil, rfl, fun s t ht hF => f1_ok Y p o t  s hF⟩ s hF) rfl rfl ?_
 simp -implicitDefEqProofs only [pkA, ↓reduceIte, pkB Y _]
 exact envEndR (rest := [evar Y.k]) rfl rfl rfl hls (by simp [])
def t2 (p : Pol) (o : Option Fa) : List In := flagL p o 1 (fun t => emL o (i2 t)) 0
theorem top2_ok {σ : Type} (Y : Ys σ) (p : Pol) (o : Option Fa) (hp : p.types.length ≤ 9223372036854775806) (hr : p.rules.length ≤ 9223372036854775806) (s : σ) (hF : Fut G Y s (t2 p o)) :
  FnB Tryz.prog G 69 [.bp (kx Y.k 0) 0] (Y.yb s ++ [eng p o]) (bo (runS Y.step s (t2 p o)).2) (Y.yb (runS Y.step s (t2 p o)).1 ++ [eng p o]) := by
 unfold t2 at hF ⊢
 have hls : ltL (kx Y.k 1) [eng p o] := lt_cons (eng_ltm Y.pos) lt_nil
 have hmo : ltL (kx Y.k 2) [evar Y.k] := lt_cons (evar_lt (by decide)) lt_nil
 refine FnB_byE (k := Y.k) (m := 1) (rs := [.tmp 2]) [1000005] mixed Tryz.func69 rfl rfl rfl rfl (by kernel_rfl) (by simp) rfl (Y.len s) (Y.len _) (Y.lt s) rfl hls (va_cons (bp_lt (by decide)) va_nil) ?_
 simp -implicitDefEqProofs only [frm_cons, frm_nil]
 simp -implicitDefEqProofs only [pkA, ptA, ↓reduceIte, Nat.reduceEqDiff, Nat.reduceAdd, Nat.reduceBEq, Nat.reduceMul, pkB Y _, pkW, kx_succ, fev]
 refine callB_env (ls := [eng p o, evar Y.k]) rfl (flagged_ok Y p hp o 1 [evar Y.k] hmo _ (fun t => emL o (i2 t)) ⟨104, [.bp (kx Y.k 1) 0], rfl, cp_cons (Nat.le_of_ble_eq_true rfl) cp_nil, rfl, fun s t ht hF => f2_ok Y p o t (by omega) s hF⟩ s hF) rfl rfl ?_
 simp -implicitDefEqProofs only [pkA, ↓reduceIte, pkB Y _]
 exact envEndR (rest := [evar Y.k]) rfl rfl rfl hls (by simp [])
def t3 (p : Pol) (o : Option Fa) : List In := ruleL p o 5 (fun a b => m3 p o a b) 0
theorem top3_ok {σ : Type} (Y : Ys σ) (p : Pol) (o : Option Fa) (hp : p.types.length ≤ 9223372036854775806) (hr : p.rules.length ≤ 9223372036854775806) (s : σ) (hF : Fut G Y s (t3 p o)) :
  FnB Tryz.prog G 70 [.bp (kx Y.k 0) 0] (Y.yb s ++ [eng p o]) (bo (runS Y.step s (t3 p o)).2) (Y.yb (runS Y.step s (t3 p o)).1 ++ [eng p o]) := by
 unfold t3 at hF ⊢
 have hls : ltL (kx Y.k 1) [eng p o] := lt_cons (eng_ltm Y.pos) lt_nil
 have hmo : ltL (kx Y.k 2) [evar Y.k] := lt_cons (evar_lt (by decide)) lt_nil
 refine FnB_byE (k := Y.k) (m := 1) (rs := [.tmp 2]) [1000005] mixed Tryz.func70 rfl rfl rfl rfl (by kernel_rfl) (by simp) rfl (Y.len s) (Y.len _) (Y.lt s) rfl hls (va_cons (bp_lt (by decide)) va_nil) ?_
 simp -implicitDefEqProofs only [frm_cons, frm_nil]
 simp -implicitDefEqProofs only [pkA, ptA, ↓reduceIte, Nat.reduceEqDiff, Nat.reduceAdd, Nat.reduceBEq, Nat.reduceMul, pkB Y _, pkW, kx_succ, fev]
 refine callB_env (ls := [eng p o, evar Y.k]) rfl (ruled_ok Y p hp hr o 5 [evar Y.k] hmo _ (fun a b => m3 p o a b) ⟨106, [.bp (kx Y.k 1) 0], rfl, cp_cons (Nat.le_of_ble_eq_true rfl) cp_nil, rfl, fun s a b hab hF => g3_ok Y p o hp a b hab.1 hab.2 s hF⟩ s hF) rfl rfl ?_
 simp -implicitDefEqProofs only [pkA, ↓reduceIte, pkB Y _]
 exact envEndR (rest := [evar Y.k]) rfl rfl rfl hls (by simp [])
def t4 (p : Pol) (o : Option Fa) : List In := ruleL p o 5 (fun a b => emL o (i4 a b)) 0
theorem top4_ok {σ : Type} (Y : Ys σ) (p : Pol) (o : Option Fa) (hp : p.types.length ≤ 9223372036854775806) (hr : p.rules.length ≤ 9223372036854775806) (s : σ) (hF : Fut G Y s (t4 p o)) :
  FnB Tryz.prog G 71 [.bp (kx Y.k 0) 0] (Y.yb s ++ [eng p o]) (bo (runS Y.step s (t4 p o)).2) (Y.yb (runS Y.step s (t4 p o)).1 ++ [eng p o]) := by
 unfold t4 at hF ⊢
 have hls : ltL (kx Y.k 1) [eng p o] := lt_cons (eng_ltm Y.pos) lt_nil
 have hmo : ltL (kx Y.k 2) [evar Y.k] := lt_cons (evar_lt (by decide)) lt_nil
 refine FnB_byE (k := Y.k) (m := 1) (rs := [.tmp 2]) [1000005] mixed Tryz.func71 rfl rfl rfl rfl (by kernel_rfl) (by simp) rfl (Y.len s) (Y.len _) (Y.lt s) rfl hls (va_cons (bp_lt (by decide)) va_nil) ?_
 simp -implicitDefEqProofs only [frm_cons, frm_nil]
 simp -implicitDefEqProofs only [pkA, ptA, ↓reduceIte, Nat.reduceEqDiff, Nat.reduceAdd, Nat.reduceBEq, Nat.reduceMul, pkB Y _, pkW, kx_succ, fev]
 refine callB_env (ls := [eng p o, evar Y.k]) rfl (ruled_ok Y p hp hr o 5 [evar Y.k] hmo _ (fun a b => emL o (i4 a b)) ⟨109, [.bp (kx Y.k 1) 0], rfl, cp_cons (Nat.le_of_ble_eq_true rfl) cp_nil, rfl, fun s a b hab hF => f4_ok Y p o a b  s hF⟩ s hF) rfl rfl ?_
 simp -implicitDefEqProofs only [pkA, ↓reduceIte, pkB Y _]
 exact envEndR (rest := [evar Y.k]) rfl rfl rfl hls (by simp [])
def t5 (p : Pol) (o : Option Fa) : List In := ruleL p o 5 (fun a b => m5 p o a b) 0
theorem top5_ok {σ : Type} (Y : Ys σ) (p : Pol) (o : Option Fa) (hp : p.types.length ≤ 9223372036854775806) (hr : p.rules.length ≤ 9223372036854775806) (s : σ) (hF : Fut G Y s (t5 p o)) :
  FnB Tryz.prog G 72 [.bp (kx Y.k 0) 0] (Y.yb s ++ [eng p o]) (bo (runS Y.step s (t5 p o)).2) (Y.yb (runS Y.step s (t5 p o)).1 ++ [eng p o]) := by
 unfold t5 at hF ⊢
 have hls : ltL (kx Y.k 1) [eng p o] := lt_cons (eng_ltm Y.pos) lt_nil
 have hmo : ltL (kx Y.k 2) [evar Y.k] := lt_cons (evar_lt (by decide)) lt_nil
 refine FnB_byE (k := Y.k) (m := 1) (rs := [.tmp 2]) [1000005] mixed Tryz.func72 rfl rfl rfl rfl (by kernel_rfl) (by simp) rfl (Y.len s) (Y.len _) (Y.lt s) rfl hls (va_cons (bp_lt (by decide)) va_nil) ?_
 simp -implicitDefEqProofs only [frm_cons, frm_nil]
 simp -implicitDefEqProofs only [pkA, ptA, ↓reduceIte, Nat.reduceEqDiff, Nat.reduceAdd, Nat.reduceBEq, Nat.reduceMul, pkB Y _, pkW, kx_succ, fev]
 refine callB_env (ls := [eng p o, evar Y.k]) rfl (ruled_ok Y p hp hr o 5 [evar Y.k] hmo _ (fun a b => m5 p o a b) ⟨110, [.bp (kx Y.k 1) 0], rfl, cp_cons (Nat.le_of_ble_eq_true rfl) cp_nil, rfl, fun s a b hab hF => g5_ok Y p o hp a b hab.1 hab.2 s hF⟩ s hF) rfl rfl ?_
 simp -implicitDefEqProofs only [pkA, ↓reduceIte, pkB Y _]
 exact envEndR (rest := [evar Y.k]) rfl rfl rfl hls (by simp [])
def t6 (p : Pol) (o : Option Fa) : List In := flagL p o 4 (fun t => m6 p o t) 0
theorem top6_ok {σ : Type} (Y : Ys σ) (p : Pol) (o : Option Fa) (hp : p.types.length ≤ 9223372036854775806) (hr : p.rules.length ≤ 9223372036854775806) (s : σ) (hF : Fut G Y s (t6 p o)) :
  FnB Tryz.prog G 73 [.bp (kx Y.k 0) 0] (Y.yb s ++ [eng p o]) (bo (runS Y.step s (t6 p o)).2) (Y.yb (runS Y.step s (t6 p o)).1 ++ [eng p o]) := by
 unfold t6 at hF ⊢
 have hls : ltL (kx Y.k 1) [eng p o] := lt_cons (eng_ltm Y.pos) lt_nil
 have hmo : ltL (kx Y.k 2) [evar Y.k] := lt_cons (evar_lt (by decide)) lt_nil
 refine FnB_byE (k := Y.k) (m := 1) (rs := [.tmp 2]) [1000005] mixed Tryz.func73 rfl rfl rfl rfl (by kernel_rfl) (by simp) rfl (Y.len s) (Y.len _) (Y.lt s) rfl hls (va_cons (bp_lt (by decide)) va_nil) ?_
 simp -implicitDefEqProofs only [frm_cons, frm_nil]
 simp -implicitDefEqProofs only [pkA, ptA, ↓reduceIte, Nat.reduceEqDiff, Nat.reduceAdd, Nat.reduceBEq, Nat.reduceMul, pkB Y _, pkW, kx_succ, fev]
 refine callB_env (ls := [eng p o, evar Y.k]) rfl (flagged_ok Y p hp o 4 [evar Y.k] hmo _ (fun t => m6 p o t) ⟨112, [.bp (kx Y.k 1) 0], rfl, cp_cons (Nat.le_of_ble_eq_true rfl) cp_nil, rfl, fun s t ht hF => g6_ok Y p o hp t ht s hF⟩ s hF) rfl rfl ?_
 simp -implicitDefEqProofs only [pkA, ↓reduceIte, pkB Y _]
 exact envEndR (rest := [evar Y.k]) rfl rfl rfl hls (by simp [])
def t7 (p : Pol) (o : Option Fa) : List In := flagL p o 8 (fun t => m7 p o t) 0
theorem top7_ok {σ : Type} (Y : Ys σ) (p : Pol) (o : Option Fa) (hp : p.types.length ≤ 9223372036854775806) (hr : p.rules.length ≤ 9223372036854775806) (s : σ) (hF : Fut G Y s (t7 p o)) :
  FnB Tryz.prog G 74 [.bp (kx Y.k 0) 0] (Y.yb s ++ [eng p o]) (bo (runS Y.step s (t7 p o)).2) (Y.yb (runS Y.step s (t7 p o)).1 ++ [eng p o]) := by
 unfold t7 at hF ⊢
 have hls : ltL (kx Y.k 1) [eng p o] := lt_cons (eng_ltm Y.pos) lt_nil
 have hmo : ltL (kx Y.k 2) [evar Y.k] := lt_cons (evar_lt (by decide)) lt_nil
 refine FnB_byE (k := Y.k) (m := 1) (rs := [.tmp 2]) [1000005] mixed Tryz.func74 rfl rfl rfl rfl (by kernel_rfl) (by simp) rfl (Y.len s) (Y.len _) (Y.lt s) rfl hls (va_cons (bp_lt (by decide)) va_nil) ?_
 simp -implicitDefEqProofs only [frm_cons, frm_nil]
 simp -implicitDefEqProofs only [pkA, ptA, ↓reduceIte, Nat.reduceEqDiff, Nat.reduceAdd, Nat.reduceBEq, Nat.reduceMul, pkB Y _, pkW, kx_succ, fev]
 refine callB_env (ls := [eng p o, evar Y.k]) rfl (flagged_ok Y p hp o 8 [evar Y.k] hmo _ (fun t => m7 p o t) ⟨114, [.bp (kx Y.k 1) 0], rfl, cp_cons (Nat.le_of_ble_eq_true rfl) cp_nil, rfl, fun s t ht hF => g7_ok Y p o hp t ht s hF⟩ s hF) rfl rfl ?_
 simp -implicitDefEqProofs only [pkA, ↓reduceIte, pkB Y _]
 exact envEndR (rest := [evar Y.k]) rfl rfl rfl hls (by simp [])
def t8 (p : Pol) (o : Option Fa) : List In := ruleL p o 3 (fun a b => m8 p o a b) 0
theorem top8_ok {σ : Type} (Y : Ys σ) (p : Pol) (o : Option Fa) (hp : p.types.length ≤ 9223372036854775806) (hr : p.rules.length ≤ 9223372036854775806) (s : σ) (hF : Fut G Y s (t8 p o)) :
  FnB Tryz.prog G 75 [.bp (kx Y.k 0) 0] (Y.yb s ++ [eng p o]) (bo (runS Y.step s (t8 p o)).2) (Y.yb (runS Y.step s (t8 p o)).1 ++ [eng p o]) := by
 unfold t8 at hF ⊢
 have hls : ltL (kx Y.k 1) [eng p o] := lt_cons (eng_ltm Y.pos) lt_nil
 have hmo : ltL (kx Y.k 2) [evar Y.k] := lt_cons (evar_lt (by decide)) lt_nil
 refine FnB_byE (k := Y.k) (m := 1) (rs := [.tmp 2]) [1000005] mixed Tryz.func75 rfl rfl rfl rfl (by kernel_rfl) (by simp) rfl (Y.len s) (Y.len _) (Y.lt s) rfl hls (va_cons (bp_lt (by decide)) va_nil) ?_
 simp -implicitDefEqProofs only [frm_cons, frm_nil]
 simp -implicitDefEqProofs only [pkA, ptA, ↓reduceIte, Nat.reduceEqDiff, Nat.reduceAdd, Nat.reduceBEq, Nat.reduceMul, pkB Y _, pkW, kx_succ, fev]
 refine callB_env (ls := [eng p o, evar Y.k]) rfl (ruled_ok Y p hp hr o 3 [evar Y.k] hmo _ (fun a b => m8 p o a b) ⟨117, [.bp (kx Y.k 1) 0], rfl, cp_cons (Nat.le_of_ble_eq_true rfl) cp_nil, rfl, fun s a b hab hF => g8_ok Y p o hp a b hab.1 hab.2 s hF⟩ s hF) rfl rfl ?_
 simp -implicitDefEqProofs only [pkA, ↓reduceIte, pkB Y _]
 exact envEndR (rest := [evar Y.k]) rfl rfl rfl hls (by simp [])
def t9 (p : Pol) (o : Option Fa) : List In := flagL p o 16 (fun t => m9 p o t) 0
theorem top9_ok {σ : Type} (Y : Ys σ) (p : Pol) (o : Option Fa) (hp : p.types.length ≤ 9223372036854775806) (hr : p.rules.length ≤ 9223372036854775806) (s : σ) (hF : Fut G Y s (t9 p o)) :
  FnB Tryz.prog G 76 [.bp (kx Y.k 0) 0] (Y.yb s ++ [eng p o]) (bo (runS Y.step s (t9 p o)).2) (Y.yb (runS Y.step s (t9 p o)).1 ++ [eng p o]) := by
 unfold t9 at hF ⊢
 have hls : ltL (kx Y.k 1) [eng p o] := lt_cons (eng_ltm Y.pos) lt_nil
 have hmo : ltL (kx Y.k 2) [evar Y.k] := lt_cons (evar_lt (by decide)) lt_nil
 refine FnB_byE (k := Y.k) (m := 1) (rs := [.tmp 2]) [1000005] mixed Tryz.func76 rfl rfl rfl rfl (by kernel_rfl) (by simp) rfl (Y.len s) (Y.len _) (Y.lt s) rfl hls (va_cons (bp_lt (by decide)) va_nil) ?_
 simp -implicitDefEqProofs only [frm_cons, frm_nil]
 simp -implicitDefEqProofs only [pkA, ptA, ↓reduceIte, Nat.reduceEqDiff, Nat.reduceAdd, Nat.reduceBEq, Nat.reduceMul, pkB Y _, pkW, kx_succ, fev]
 refine callB_env (ls := [eng p o, evar Y.k]) rfl (flagged_ok Y p hp o 16 [evar Y.k] hmo _ (fun t => m9 p o t) ⟨120, [.bp (kx Y.k 1) 0], rfl, cp_cons (Nat.le_of_ble_eq_true rfl) cp_nil, rfl, fun s t ht hF => g9_ok Y p o hp t ht s hF⟩ s hF) rfl rfl ?_
 simp -implicitDefEqProofs only [pkA, ↓reduceIte, pkB Y _]
 exact envEndR (rest := [evar Y.k]) rfl rfl rfl hls (by simp [])
def t10 (p : Pol) (o : Option Fa) : List In := ruleL p o 4 (fun a b => m10 p o a b) 0
theorem top10_ok {σ : Type} (Y : Ys σ) (p : Pol) (o : Option Fa) (hp : p.types.length ≤ 9223372036854775806) (hr : p.rules.length ≤ 9223372036854775806) (h10 : F10 G Y p o) (s : σ) (hF : Fut G Y s (t10 p o)) :
  FnB Tryz.prog G 77 [.bp (kx Y.k 0) 0] (Y.yb s ++ [eng p o]) (bo (runS Y.step s (t10 p o)).2) (Y.yb (runS Y.step s (t10 p o)).1 ++ [eng p o]) := by
 unfold t10 at hF ⊢
 have hls : ltL (kx Y.k 1) [eng p o] := lt_cons (eng_ltm Y.pos) lt_nil
 have hmo : ltL (kx Y.k 2) [evar Y.k] := lt_cons (evar_lt (by decide)) lt_nil
 refine FnB_byE (k := Y.k) (m := 1) (rs := [.tmp 2]) [1000005] mixed Tryz.func77 rfl rfl rfl rfl (by kernel_rfl) (by simp) rfl (Y.len s) (Y.len _) (Y.lt s) rfl hls (va_cons (bp_lt (by decide)) va_nil) ?_
 simp -implicitDefEqProofs only [frm_cons, frm_nil]
 simp -implicitDefEqProofs only [pkA, ptA, ↓reduceIte, Nat.reduceEqDiff, Nat.reduceAdd, Nat.reduceBEq, Nat.reduceMul, pkB Y _, pkW, kx_succ, fev]
 refine callB_env (ls := [eng p o, evar Y.k]) rfl (ruled_ok Y p hp hr o 4 [evar Y.k] hmo _ (fun a b => m10 p o a b) ⟨122, [.bp (kx Y.k 1) 0], rfl, cp_cons (Nat.le_of_ble_eq_true rfl) cp_nil, rfl, fun s a b hab hF => g10_ok Y p o hp h10 a b hab.1 hab.2 s hF⟩ s hF) rfl rfl ?_
 simp -implicitDefEqProofs only [pkA, ↓reduceIte, pkB Y _]
 exact envEndR (rest := [evar Y.k]) rfl rfl rfl hls (by simp [])
def t11 (p : Pol) (o : Option Fa) : List In := ruleL p o 2 (fun a b => emL o (i11 a b)) 0
theorem top11_ok {σ : Type} (Y : Ys σ) (p : Pol) (o : Option Fa) (hp : p.types.length ≤ 9223372036854775806) (hr : p.rules.length ≤ 9223372036854775806) (s : σ) (hF : Fut G Y s (t11 p o)) :
  FnB Tryz.prog G 78 [.bp (kx Y.k 0) 0] (Y.yb s ++ [eng p o]) (bo (runS Y.step s (t11 p o)).2) (Y.yb (runS Y.step s (t11 p o)).1 ++ [eng p o]) := by
 unfold t11 at hF ⊢
 have hls : ltL (kx Y.k 1) [eng p o] := lt_cons (eng_ltm Y.pos) lt_nil
 have hmo : ltL (kx Y.k 2) [evar Y.k] := lt_cons (evar_lt (by decide)) lt_nil
 refine FnB_byE (k := Y.k) (m := 1) (rs := [.tmp 2]) [1000005] mixed Tryz.func78 rfl rfl rfl rfl (by kernel_rfl) (by simp) rfl (Y.len s) (Y.len _) (Y.lt s) rfl hls (va_cons (bp_lt (by decide)) va_nil) ?_
 simp -implicitDefEqProofs only [frm_cons, frm_nil]
 simp -implicitDefEqProofs only [pkA, ptA, ↓reduceIte, Nat.reduceEqDiff, Nat.reduceAdd, Nat.reduceBEq, Nat.reduceMul, pkB Y _, pkW, kx_succ, fev]
 refine callB_env (ls := [eng p o, evar Y.k]) rfl (ruled_ok Y p hp hr o 2 [evar Y.k] hmo _ (fun a b => emL o (i11 a b)) ⟨124, [.bp (kx Y.k 1) 0], rfl, cp_cons (Nat.le_of_ble_eq_true rfl) cp_nil, rfl, fun s a b hab hF => f11_ok Y p o a b  s hF⟩ s hF) rfl rfl ?_
 simp -implicitDefEqProofs only [pkA, ↓reduceIte, pkB Y _]
 exact envEndR (rest := [evar Y.k]) rfl rfl rfl hls (by simp [])
def t12 (p : Pol) (o : Option Fa) : List In := ruleL p o 1 (fun a b => m12 p o a b) 0
theorem top12_ok {σ : Type} (Y : Ys σ) (p : Pol) (o : Option Fa) (hp : p.types.length ≤ 9223372036854775806) (hr : p.rules.length ≤ 9223372036854775806) (s : σ) (hF : Fut G Y s (t12 p o)) :
  FnB Tryz.prog G 79 [.bp (kx Y.k 0) 0] (Y.yb s ++ [eng p o]) (bo (runS Y.step s (t12 p o)).2) (Y.yb (runS Y.step s (t12 p o)).1 ++ [eng p o]) := by
 unfold t12 at hF ⊢
 have hls : ltL (kx Y.k 1) [eng p o] := lt_cons (eng_ltm Y.pos) lt_nil
 have hmo : ltL (kx Y.k 2) [evar Y.k] := lt_cons (evar_lt (by decide)) lt_nil
 refine FnB_byE (k := Y.k) (m := 1) (rs := [.tmp 2]) [1000005] mixed Tryz.func79 rfl rfl rfl rfl (by kernel_rfl) (by simp) rfl (Y.len s) (Y.len _) (Y.lt s) rfl hls (va_cons (bp_lt (by decide)) va_nil) ?_
 simp -implicitDefEqProofs only [frm_cons, frm_nil]
 simp -implicitDefEqProofs only [pkA, ptA, ↓reduceIte, Nat.reduceEqDiff, Nat.reduceAdd, Nat.reduceBEq, Nat.reduceMul, pkB Y _, pkW, kx_succ, fev]
 refine callB_env (ls := [eng p o, evar Y.k]) rfl (ruled_ok Y p hp hr o 1 [evar Y.k] hmo _ (fun a b => m12 p o a b) ⟨125, [.bp (kx Y.k 1) 0], rfl, cp_cons (Nat.le_of_ble_eq_true rfl) cp_nil, rfl, fun s a b hab hF => g12_ok Y p o hp a b hab.1 hab.2 s hF⟩ s hF) rfl rfl ?_
 simp -implicitDefEqProofs only [pkA, ↓reduceIte, pkB Y _]
 exact envEndR (rest := [evar Y.k]) rfl rfl rfl hls (by simp [])
def t13 (p : Pol) (o : Option Fa) : List In := flagL p o 0 (fun t => m13 p o t) 0
theorem top13_ok {σ : Type} (Y : Ys σ) (p : Pol) (o : Option Fa) (hp : p.types.length ≤ 9223372036854775806) (hr : p.rules.length ≤ 9223372036854775806) (s : σ) (hF : Fut G Y s (t13 p o)) :
  FnB Tryz.prog G 80 [.bp (kx Y.k 0) 0] (Y.yb s ++ [eng p o]) (bo (runS Y.step s (t13 p o)).2) (Y.yb (runS Y.step s (t13 p o)).1 ++ [eng p o]) := by
 unfold t13 at hF ⊢
 have hls : ltL (kx Y.k 1) [eng p o] := lt_cons (eng_ltm Y.pos) lt_nil
 have hmo : ltL (kx Y.k 2) [evar Y.k] := lt_cons (evar_lt (by decide)) lt_nil
 refine FnB_byE (k := Y.k) (m := 1) (rs := [.tmp 2]) [1000005] mixed Tryz.func80 rfl rfl rfl rfl (by kernel_rfl) (by simp) rfl (Y.len s) (Y.len _) (Y.lt s) rfl hls (va_cons (bp_lt (by decide)) va_nil) ?_
 simp -implicitDefEqProofs only [frm_cons, frm_nil]
 simp -implicitDefEqProofs only [pkA, ptA, ↓reduceIte, Nat.reduceEqDiff, Nat.reduceAdd, Nat.reduceBEq, Nat.reduceMul, pkB Y _, pkW, kx_succ, fev]
 refine callB_env (ls := [eng p o, evar Y.k]) rfl (flagged_ok Y p hp o 0 [evar Y.k] hmo _ (fun t => m13 p o t) ⟨127, [.bp (kx Y.k 1) 0], rfl, cp_cons (Nat.le_of_ble_eq_true rfl) cp_nil, rfl, fun s t ht hF => g13_ok Y p o hp t ht s hF⟩ s hF) rfl rfl ?_
 simp -implicitDefEqProofs only [pkA, ↓reduceIte, pkB Y _]
 exact envEndR (rest := [evar Y.k]) rfl rfl rfl hls (by simp [])
def t15 (p : Pol) (o : Option Fa) : List In := classL p.types.length (fun s0 => emL o (i15 s0)) 1
theorem top15_ok {σ : Type} (Y : Ys σ) (p : Pol) (o : Option Fa) (hp : p.types.length ≤ 9223372036854775806) (hr : p.rules.length ≤ 9223372036854775806) (s : σ) (hF : Fut G Y s (t15 p o)) :
  FnB Tryz.prog G 82 [.bp (kx Y.k 0) 0] (Y.yb s ++ [eng p o]) (bo (runS Y.step s (t15 p o)).2) (Y.yb (runS Y.step s (t15 p o)).1 ++ [eng p o]) := by
 unfold t15 at hF ⊢
 have hls : ltL (kx Y.k 1) [eng p o] := lt_cons (eng_ltm Y.pos) lt_nil
 have hmo : ltL (kx Y.k 2) [evar Y.k] := lt_cons (evar_lt (by decide)) lt_nil
 refine FnB_byE (k := Y.k) (m := 1) (rs := [.tmp 2]) [1000005] mixed Tryz.func82 rfl rfl rfl rfl (by kernel_rfl) (by simp) rfl (Y.len s) (Y.len _) (Y.lt s) rfl hls (va_cons (bp_lt (by decide)) va_nil) ?_
 simp -implicitDefEqProofs only [frm_cons, frm_nil]
 simp -implicitDefEqProofs only [pkA, ptA, ↓reduceIte, Nat.reduceEqDiff, Nat.reduceAdd, Nat.reduceBEq, Nat.reduceMul, pkB Y _, pkW, kx_succ, fev]
 refine callB_env (ls := [eng p o, evar Y.k]) rfl (classes_ok Y p hp o 1 (by decide) [evar Y.k] hmo _ (fun s0 => emL o (i15 s0)) ⟨129, [.bp (kx Y.k 1) 0], rfl, cp_cons (Nat.le_of_ble_eq_true rfl) cp_nil, rfl, fun s x hx hF => f15_ok Y p o x  s hF⟩ s hF) rfl rfl ?_
 simp -implicitDefEqProofs only [pkA, ↓reduceIte, pkB Y _]
 exact envEndR (rest := [evar Y.k]) rfl rfl rfl hls (by simp [])
def t14 (o : Option Fa) : List In := emL o i14
def tops (p : Pol) (o : Option Fa) : List (List In) := [t1 p o, t2 p o, t3 p o, t4 p o, t5 p o, t6 p o, t7 p o, t8 p o, t9 p o, t10 p o, t11 p o, t12 p o, t13 p o, t14 o, t15 p o]
def allL (p : Pol) (o : Option Fa) : List In := (tops p o).flatten
