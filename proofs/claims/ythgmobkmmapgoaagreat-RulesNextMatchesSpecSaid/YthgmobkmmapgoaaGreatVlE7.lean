/- The engine of layer 17: pairs, the closures between. Printed by gen17.py. -/
import Derived.Test.YthgmobkmmapgoaaGreatVlE5
set_option linter.unusedSimpArgs false
set_option linter.unusedVariables false
namespace Go.Proofs.YthgmobkmmapgoaaGreat
open Go Go.Vl
variable {G : Gl}
set_option maxRecDepth 4000
def fvar (f : V) : List V := [f]
theorem lfv {k n j : Nat} {K : V → Prop} {g : FuncId} {cs : List V} : ldB (kx k n) (kx k j) (fvar (.clo (.func g) [] cs)) 0 K = (j < n ∧ K (.clo (.func g) [] cs)) := by unfold ldB; rw [kx_lt]; rfl
theorem mfv {g : FuncId} {cs : List V} : isMb (fvar (.clo (.func g) [] cs)) = false := rfl
theorem fvar_lt {k m : Nat} {g : FuncId} {cs : List V} (h : ∀ x ∈ cs, x.ltP (kx k m)) : ∀ x ∈ fvar (.clo (.func g) [] cs), x.lt (kx k m) := fun x hx => by
 simp only [fvar, List.mem_singleton] at hx; subst hx; exact ⟨fun x hx => (by cases hx), h⟩
theorem ffv {g : FuncId} {cs : List V} : [V.clo (.func g) [] cs] = fvar (.clo (.func g) [] cs) := rfl
theorem pkW : type_of% (And.intro @lfv (And.intro @mfv (@pkV))) := ⟨@lfv, @mfv, @pkV⟩
theorem cp_nil {m : Nat} : ∀ x ∈ ([] : List V), x.ltP m := fun _ h => by cases h
theorem cp_cons {k m i j : Nat} {l : List V} (h : i < m) (h2 : ∀ x ∈ l, x.ltP (kx k m)) : ∀ x ∈ V.bp (kx k i) j :: l, x.ltP (kx k m) := fun q hq => by
 rcases List.mem_cons.1 hq with rfl | hq
 ·simp only [V.ltP, kx_lt]; exact h
 ·exact h2 q hq
theorem cp_mono {m n : Nat} {l : List V} (h : ∀ x ∈ l, x.ltP m) (hle : m ≤ n) : ∀ x ∈ l, x.ltP n := fun x hx => (h x hx).mono hle
def pairL (n : Nat) (first : Nat) (D : Nat → Nat → List In) : List In := classL n (fun v => classL n (D v) first) 0
theorem pairsCT1_ok {σ : Type} (Y : Ys σ) (p : Pol) (o : Option Fa) (t first : Nat) (g : FuncId) (caps : List V) (hcl : ∀ x ∈ caps, x.ltP (kx Y.k 3)) (hcf : caps.map V.fz = caps) (D : Nat → Nat → List In)
  (hok : ∀ s v w, (v ≤ p.types.length ∧ first ≤ w ∧ w ≤ p.types.length) → Fut G Y s (D v w) → FnB Tryz.prog G g (i64 (v : Int) :: i64 (w : Int) :: caps) (Y.yb s ++ [eng p o, evar Y.k, nvar t]) (bo (runS Y.step s (D v w)).2) (Y.yb (runS Y.step s (D v w)).1 ++ [eng p o, evar Y.k, nvar t])) (v w : Nat) (hv : v ≤ p.types.length) (hw : first ≤ w ∧ w ≤ p.types.length) (s : σ) (hF : Fut G Y s (D v w)) :
  FnB Tryz.prog G 138 [i64 (w : Int), .bp (kx Y.k 5) 0, .bp (kx Y.k 6) 0] (Y.yb s ++ [eng p o, evar Y.k, nvar t, evar Y.k, nvar first, fvar (.clo (.func g) [] caps), nvar v]) (bo (runS Y.step s (D v w)).2) (Y.yb (runS Y.step s (D v w)).1 ++ [eng p o, evar Y.k, nvar t, evar Y.k, nvar first, fvar (.clo (.func g) [] caps), nvar v]) := by
 have hls : ltL (kx Y.k 7) [eng p o, evar Y.k, nvar t, evar Y.k, nvar first, fvar (.clo (.func g) [] caps), nvar v] := lt_cons (eng_ltm Y.pos) (lt_cons (evar_lt (by decide)) (lt_cons nvar_lt (lt_cons (evar_lt (by decide)) (lt_cons nvar_lt (lt_cons (fvar_lt (cp_mono hcl (by simp [kx]))) (lt_cons nvar_lt lt_nil))))))
 refine FnB_byE (k := Y.k) (m := 7) (rs := [.tmp 4]) [1000008] mixed Tryz.func138 rfl rfl rfl rfl (by kernel_rfl) (by simp) rfl (Y.len s) (Y.len _) (Y.lt s) rfl hls (va_cons trivial (va_cons (bp_lt (by decide)) (va_cons (bp_lt (by decide)) va_nil))) ?_
 simp -implicitDefEqProofs only [pkA, ptA, ↓reduceIte, Nat.reduceEqDiff, Nat.reduceAdd, Nat.reduceBEq, Nat.reduceMul, Nat.reduceLT, pkB Y _, pkW]
 refine callB_pre (ls := [eng p o, evar Y.k, nvar t]) (rest := [evar Y.k, nvar first, fvar (.clo (.func g) [] caps), nvar v]) rfl (hok s v w ⟨hv, hw.1, hw.2⟩ hF) (by simp [V.fz, hcf]) (Y.len _) (Y.len _) (Y.lt _) rfl (fun _ => rfl) ?_
 simp -implicitDefEqProofs only [pkA, ↓reduceIte, pkB Y _]
 exact envEnd rfl rfl hls (by simp [])
theorem pairsBT1_ok {σ : Type} (Y : Ys σ) (p : Pol) (o : Option Fa) (t first : Nat) (g : FuncId) (caps : List V) (hcl : ∀ x ∈ caps, x.ltP (kx Y.k 3)) (hcf : caps.map V.fz = caps) (D : Nat → Nat → List In)
  (hok : ∀ s v w, (v ≤ p.types.length ∧ first ≤ w ∧ w ≤ p.types.length) → Fut G Y s (D v w) → FnB Tryz.prog G g (i64 (v : Int) :: i64 (w : Int) :: caps) (Y.yb s ++ [eng p o, evar Y.k, nvar t]) (bo (runS Y.step s (D v w)).2) (Y.yb (runS Y.step s (D v w)).1 ++ [eng p o, evar Y.k, nvar t])) (hp : p.types.length ≤ 9223372036854775806) (hfi : first ≤ 1) (v : Nat) (hv : v ≤ p.types.length) (s : σ) (hF : Fut G Y s (classL p.types.length (D v) first)) :
  FnB Tryz.prog G 137 [i64 (v : Int), .bp (kx Y.k 3) 0, .bp (kx Y.k 4) 0, .bp (kx Y.k 5) 0] (Y.yb s ++ [eng p o, evar Y.k, nvar t, evar Y.k, nvar first, fvar (.clo (.func g) [] caps)]) (bo (runS Y.step s (classL p.types.length (D v) first)).2) (Y.yb (runS Y.step s (classL p.types.length (D v) first)).1 ++ [eng p o, evar Y.k, nvar t, evar Y.k, nvar first, fvar (.clo (.func g) [] caps)]) := by
 have hls : ltL (kx Y.k 6) [eng p o, evar Y.k, nvar t, evar Y.k, nvar first, fvar (.clo (.func g) [] caps)] := lt_cons (eng_ltm Y.pos) (lt_cons (evar_lt (by decide)) (lt_cons nvar_lt (lt_cons (evar_lt (by decide)) (lt_cons nvar_lt (lt_cons (fvar_lt (cp_mono hcl (by simp [kx]))) lt_nil)))))
 have hmo : ltL (kx Y.k 7) [evar Y.k, nvar t, evar Y.k, nvar first, fvar (.clo (.func g) [] caps), nvar v] := fun q hq => (lt_cons (eng_ltm Y.pos) (lt_cons (evar_lt (by decide)) (lt_cons nvar_lt (lt_cons (evar_lt (by decide)) (lt_cons nvar_lt (lt_cons (fvar_lt (cp_mono hcl (by simp [kx]))) (lt_cons nvar_lt lt_nil)))))) : ltL (kx Y.k 7) [eng p o, evar Y.k, nvar t, evar Y.k, nvar first, fvar (.clo (.func g) [] caps), nvar v]) q (List.mem_cons_of_mem _ hq)
 refine FnB_byE (k := Y.k) (m := 6) (rs := [.tmp 5]) [1000009] mixed Tryz.func137 rfl rfl rfl rfl (by kernel_rfl) (by simp) rfl (Y.len s) (Y.len _) (Y.lt s) rfl hls (va_cons trivial (va_cons (bp_lt (by decide)) (va_cons (bp_lt (by decide)) (va_cons (bp_lt (by decide)) va_nil)))) ?_
 simp -implicitDefEqProofs only [pkA, ptA, ↓reduceIte, Nat.reduceEqDiff, Nat.reduceAdd, Nat.reduceBEq, Nat.reduceMul, Nat.reduceLT, pkB Y _, pkW, kx_succ, fnv, ffv]
 refine callB_env (ls := [eng p o, evar Y.k, nvar t, evar Y.k, nvar first, fvar (.clo (.func g) [] caps), nvar v]) rfl (classes_ok Y p hp o first hfi [evar Y.k, nvar t, evar Y.k, nvar first, fvar (.clo (.func g) [] caps), nvar v] hmo _ (D v) ⟨138, [.bp (kx Y.k 5) 0, .bp (kx Y.k 6) 0], rfl, cp_cons (Nat.le_of_ble_eq_true rfl) (cp_cons (Nat.le_of_ble_eq_true rfl) cp_nil), rfl, fun s w hw hF => pairsCT1_ok Y p o t first g caps hcl hcf D hok v w hv hw s hF⟩ s hF) rfl rfl ?_
 simp -implicitDefEqProofs only [pkA, ↓reduceIte, pkB Y _]
 exact envEndR (rest := [nvar v]) rfl rfl rfl hls (by simp [])
theorem pairsT1_ok {σ : Type} (Y : Ys σ) (p : Pol) (o : Option Fa) (t first : Nat) (g : FuncId) (caps : List V) (hcl : ∀ x ∈ caps, x.ltP (kx Y.k 3)) (hcf : caps.map V.fz = caps) (D : Nat → Nat → List In)
  (hok : ∀ s v w, (v ≤ p.types.length ∧ first ≤ w ∧ w ≤ p.types.length) → Fut G Y s (D v w) → FnB Tryz.prog G g (i64 (v : Int) :: i64 (w : Int) :: caps) (Y.yb s ++ [eng p o, evar Y.k, nvar t]) (bo (runS Y.step s (D v w)).2) (Y.yb (runS Y.step s (D v w)).1 ++ [eng p o, evar Y.k, nvar t])) (hp : p.types.length ≤ 9223372036854775806) (hfi : first ≤ 1) (s : σ) (hF : Fut G Y s (pairL p.types.length first D)) :
  FnB Tryz.prog G 118 [.bp (kx Y.k 0) 0, i64 (first : Int), .clo (.func g) [] caps] (Y.yb s ++ [eng p o, evar Y.k, nvar t]) (bo (runS Y.step s (pairL p.types.length first D)).2) (Y.yb (runS Y.step s (pairL p.types.length first D)).1 ++ [eng p o, evar Y.k, nvar t]) := by
 have hls : ltL (kx Y.k 3) [eng p o, evar Y.k, nvar t] := lt_cons (eng_ltm Y.pos) (lt_cons (evar_lt (by decide)) (lt_cons nvar_lt lt_nil))
 have hmo : ltL (kx Y.k 6) [evar Y.k, nvar t, evar Y.k, nvar first, fvar (.clo (.func g) [] caps)] := fun q hq => (lt_cons (eng_ltm Y.pos) (lt_cons (evar_lt (by decide)) (lt_cons nvar_lt (lt_cons (evar_lt (by decide)) (lt_cons nvar_lt (lt_cons (fvar_lt (cp_mono hcl (by simp [kx]))) lt_nil))))) : ltL (kx Y.k 6) [eng p o, evar Y.k, nvar t, evar Y.k, nvar first, fvar (.clo (.func g) [] caps)]) q (List.mem_cons_of_mem _ hq)
 refine FnB_byE (k := Y.k) (m := 3) (rs := [.tmp 6]) [1000009] mixed Tryz.func118 rfl rfl rfl rfl (by kernel_rfl) (by simp) rfl (Y.len s) (Y.len _) (Y.lt s) rfl hls (va_cons (bp_lt (by decide)) (va_cons trivial (va_cons ⟨fun x hx => (by cases hx), hcl⟩ va_nil))) ?_
 simp -implicitDefEqProofs only [frm_cons, frm_nil]
 simp -implicitDefEqProofs only [pkA, ptA, ↓reduceIte, Nat.reduceEqDiff, Nat.reduceAdd, Nat.reduceBEq, Nat.reduceMul, Nat.reduceLT, pkB Y _, pkW, kx_succ, fev, fnv, ffv]
 refine callB_env (ls := [eng p o, evar Y.k, nvar t, evar Y.k, nvar first, fvar (.clo (.func g) [] caps)]) rfl (classes_ok Y p hp o 0 (by decide) [evar Y.k, nvar t, evar Y.k, nvar first, fvar (.clo (.func g) [] caps)] hmo _ (fun v => classL p.types.length (D v) first) ⟨137, [.bp (kx Y.k 3) 0, .bp (kx Y.k 4) 0, .bp (kx Y.k 5) 0], rfl, cp_cons (Nat.le_of_ble_eq_true rfl) (cp_cons (Nat.le_of_ble_eq_true rfl) (cp_cons (Nat.le_of_ble_eq_true rfl) cp_nil)), rfl, fun s v hv hF => pairsBT1_ok Y p o t first g caps hcl hcf D hok hp hfi v hv.2 s hF⟩ s hF) rfl rfl ?_
 simp -implicitDefEqProofs only [pkA, ↓reduceIte, pkB Y _]
 exact envEndR (rest := [evar Y.k, nvar first, fvar (.clo (.func g) [] caps)]) rfl rfl rfl hls (by simp [pairL])
theorem pairsCT2_ok {σ : Type} (Y : Ys σ) (p : Pol) (o : Option Fa) (a b first : Nat) (g : FuncId) (caps : List V) (hcl : ∀ x ∈ caps, x.ltP (kx Y.k 4)) (hcf : caps.map V.fz = caps) (D : Nat → Nat → List In)
  (hok : ∀ s v w, (v ≤ p.types.length ∧ first ≤ w ∧ w ≤ p.types.length) → Fut G Y s (D v w) → FnB Tryz.prog G g (i64 (v : Int) :: i64 (w : Int) :: caps) (Y.yb s ++ [eng p o, evar Y.k, nvar a, nvar b]) (bo (runS Y.step s (D v w)).2) (Y.yb (runS Y.step s (D v w)).1 ++ [eng p o, evar Y.k, nvar a, nvar b])) (v w : Nat) (hv : v ≤ p.types.length) (hw : first ≤ w ∧ w ≤ p.types.length) (s : σ) (hF : Fut G Y s (D v w)) :
  FnB Tryz.prog G 138 [i64 (w : Int), .bp (kx Y.k 6) 0, .bp (kx Y.k 7) 0] (Y.yb s ++ [eng p o, evar Y.k, nvar a, nvar b, evar Y.k, nvar first, fvar (.clo (.func g) [] caps), nvar v]) (bo (runS Y.step s (D v w)).2) (Y.yb (runS Y.step s (D v w)).1 ++ [eng p o, evar Y.k, nvar a, nvar b, evar Y.k, nvar first, fvar (.clo (.func g) [] caps), nvar v]) := by
 have hls : ltL (kx Y.k 8) [eng p o, evar Y.k, nvar a, nvar b, evar Y.k, nvar first, fvar (.clo (.func g) [] caps), nvar v] := lt_cons (eng_ltm Y.pos) (lt_cons (evar_lt (by decide)) (lt_cons nvar_lt (lt_cons nvar_lt (lt_cons (evar_lt (by decide)) (lt_cons nvar_lt (lt_cons (fvar_lt (cp_mono hcl (by simp [kx]))) (lt_cons nvar_lt lt_nil)))))))
 refine FnB_byE (k := Y.k) (m := 8) (rs := [.tmp 4]) [1000008] mixed Tryz.func138 rfl rfl rfl rfl (by kernel_rfl) (by simp) rfl (Y.len s) (Y.len _) (Y.lt s) rfl hls (va_cons trivial (va_cons (bp_lt (by decide)) (va_cons (bp_lt (by decide)) va_nil))) ?_
 simp -implicitDefEqProofs only [pkA, ptA, ↓reduceIte, Nat.reduceEqDiff, Nat.reduceAdd, Nat.reduceBEq, Nat.reduceMul, Nat.reduceLT, pkB Y _, pkW]
 refine callB_pre (ls := [eng p o, evar Y.k, nvar a, nvar b]) (rest := [evar Y.k, nvar first, fvar (.clo (.func g) [] caps), nvar v]) rfl (hok s v w ⟨hv, hw.1, hw.2⟩ hF) (by simp [V.fz, hcf]) (Y.len _) (Y.len _) (Y.lt _) rfl (fun _ => rfl) ?_
 simp -implicitDefEqProofs only [pkA, ↓reduceIte, pkB Y _]
 exact envEnd rfl rfl hls (by simp [])
theorem pairsBT2_ok {σ : Type} (Y : Ys σ) (p : Pol) (o : Option Fa) (a b first : Nat) (g : FuncId) (caps : List V) (hcl : ∀ x ∈ caps, x.ltP (kx Y.k 4)) (hcf : caps.map V.fz = caps) (D : Nat → Nat → List In)
  (hok : ∀ s v w, (v ≤ p.types.length ∧ first ≤ w ∧ w ≤ p.types.length) → Fut G Y s (D v w) → FnB Tryz.prog G g (i64 (v : Int) :: i64 (w : Int) :: caps) (Y.yb s ++ [eng p o, evar Y.k, nvar a, nvar b]) (bo (runS Y.step s (D v w)).2) (Y.yb (runS Y.step s (D v w)).1 ++ [eng p o, evar Y.k, nvar a, nvar b])) (hp : p.types.length ≤ 9223372036854775806) (hfi : first ≤ 1) (v : Nat) (hv : v ≤ p.types.length) (s : σ) (hF : Fut G Y s (classL p.types.length (D v) first)) :
  FnB Tryz.prog G 137 [i64 (v : Int), .bp (kx Y.k 4) 0, .bp (kx Y.k 5) 0, .bp (kx Y.k 6) 0] (Y.yb s ++ [eng p o, evar Y.k, nvar a, nvar b, evar Y.k, nvar first, fvar (.clo (.func g) [] caps)]) (bo (runS Y.step s (classL p.types.length (D v) first)).2) (Y.yb (runS Y.step s (classL p.types.length (D v) first)).1 ++ [eng p o, evar Y.k, nvar a, nvar b, evar Y.k, nvar first, fvar (.clo (.func g) [] caps)]) := by
 have hls : ltL (kx Y.k 7) [eng p o, evar Y.k, nvar a, nvar b, evar Y.k, nvar first, fvar (.clo (.func g) [] caps)] := lt_cons (eng_ltm Y.pos) (lt_cons (evar_lt (by decide)) (lt_cons nvar_lt (lt_cons nvar_lt (lt_cons (evar_lt (by decide)) (lt_cons nvar_lt (lt_cons (fvar_lt (cp_mono hcl (by simp [kx]))) lt_nil))))))
 have hmo : ltL (kx Y.k 8) [evar Y.k, nvar a, nvar b, evar Y.k, nvar first, fvar (.clo (.func g) [] caps), nvar v] := fun q hq => (lt_cons (eng_ltm Y.pos) (lt_cons (evar_lt (by decide)) (lt_cons nvar_lt (lt_cons nvar_lt (lt_cons (evar_lt (by decide)) (lt_cons nvar_lt (lt_cons (fvar_lt (cp_mono hcl (by simp [kx]))) (lt_cons nvar_lt lt_nil))))))) : ltL (kx Y.k 8) [eng p o, evar Y.k, nvar a, nvar b, evar Y.k, nvar first, fvar (.clo (.func g) [] caps), nvar v]) q (List.mem_cons_of_mem _ hq)
 refine FnB_byE (k := Y.k) (m := 7) (rs := [.tmp 5]) [1000009] mixed Tryz.func137 rfl rfl rfl rfl (by kernel_rfl) (by simp) rfl (Y.len s) (Y.len _) (Y.lt s) rfl hls (va_cons trivial (va_cons (bp_lt (by decide)) (va_cons (bp_lt (by decide)) (va_cons (bp_lt (by decide)) va_nil)))) ?_
 simp -implicitDefEqProofs only [pkA, ptA, ↓reduceIte, Nat.reduceEqDiff, Nat.reduceAdd, Nat.reduceBEq, Nat.reduceMul, Nat.reduceLT, pkB Y _, pkW, kx_succ, fnv, ffv]
 refine callB_env (ls := [eng p o, evar Y.k, nvar a, nvar b, evar Y.k, nvar first, fvar (.clo (.func g) [] caps), nvar v]) rfl (classes_ok Y p hp o first hfi [evar Y.k, nvar a, nvar b, evar Y.k, nvar first, fvar (.clo (.func g) [] caps), nvar v] hmo _ (D v) ⟨138, [.bp (kx Y.k 6) 0, .bp (kx Y.k 7) 0], rfl, cp_cons (Nat.le_of_ble_eq_true rfl) (cp_cons (Nat.le_of_ble_eq_true rfl) cp_nil), rfl, fun s w hw hF => pairsCT2_ok Y p o a b first g caps hcl hcf D hok v w hv hw s hF⟩ s hF) rfl rfl ?_
 simp -implicitDefEqProofs only [pkA, ↓reduceIte, pkB Y _]
 exact envEndR (rest := [nvar v]) rfl rfl rfl hls (by simp [])
theorem pairsT2_ok {σ : Type} (Y : Ys σ) (p : Pol) (o : Option Fa) (a b first : Nat) (g : FuncId) (caps : List V) (hcl : ∀ x ∈ caps, x.ltP (kx Y.k 4)) (hcf : caps.map V.fz = caps) (D : Nat → Nat → List In)
  (hok : ∀ s v w, (v ≤ p.types.length ∧ first ≤ w ∧ w ≤ p.types.length) → Fut G Y s (D v w) → FnB Tryz.prog G g (i64 (v : Int) :: i64 (w : Int) :: caps) (Y.yb s ++ [eng p o, evar Y.k, nvar a, nvar b]) (bo (runS Y.step s (D v w)).2) (Y.yb (runS Y.step s (D v w)).1 ++ [eng p o, evar Y.k, nvar a, nvar b])) (hp : p.types.length ≤ 9223372036854775806) (hfi : first ≤ 1) (s : σ) (hF : Fut G Y s (pairL p.types.length first D)) :
  FnB Tryz.prog G 118 [.bp (kx Y.k 0) 0, i64 (first : Int), .clo (.func g) [] caps] (Y.yb s ++ [eng p o, evar Y.k, nvar a, nvar b]) (bo (runS Y.step s (pairL p.types.length first D)).2) (Y.yb (runS Y.step s (pairL p.types.length first D)).1 ++ [eng p o, evar Y.k, nvar a, nvar b]) := by
 have hls : ltL (kx Y.k 4) [eng p o, evar Y.k, nvar a, nvar b] := lt_cons (eng_ltm Y.pos) (lt_cons (evar_lt (by decide)) (lt_cons nvar_lt (lt_cons nvar_lt lt_nil)))
 have hmo : ltL (kx Y.k 7) [evar Y.k, nvar a, nvar b, evar Y.k, nvar first, fvar (.clo (.func g) [] caps)] := fun q hq => (lt_cons (eng_ltm Y.pos) (lt_cons (evar_lt (by decide)) (lt_cons nvar_lt (lt_cons nvar_lt (lt_cons (evar_lt (by decide)) (lt_cons nvar_lt (lt_cons (fvar_lt (cp_mono hcl (by simp [kx]))) lt_nil)))))) : ltL (kx Y.k 7) [eng p o, evar Y.k, nvar a, nvar b, evar Y.k, nvar first, fvar (.clo (.func g) [] caps)]) q (List.mem_cons_of_mem _ hq)
 refine FnB_byE (k := Y.k) (m := 4) (rs := [.tmp 6]) [1000009] mixed Tryz.func118 rfl rfl rfl rfl (by kernel_rfl) (by simp) rfl (Y.len s) (Y.len _) (Y.lt s) rfl hls (va_cons (bp_lt (by decide)) (va_cons trivial (va_cons ⟨fun x hx => (by cases hx), hcl⟩ va_nil))) ?_
 simp -implicitDefEqProofs only [frm_cons, frm_nil]
 simp -implicitDefEqProofs only [pkA, ptA, ↓reduceIte, Nat.reduceEqDiff, Nat.reduceAdd, Nat.reduceBEq, Nat.reduceMul, Nat.reduceLT, pkB Y _, pkW, kx_succ, fev, fnv, ffv]
 refine callB_env (ls := [eng p o, evar Y.k, nvar a, nvar b, evar Y.k, nvar first, fvar (.clo (.func g) [] caps)]) rfl (classes_ok Y p hp o 0 (by decide) [evar Y.k, nvar a, nvar b, evar Y.k, nvar first, fvar (.clo (.func g) [] caps)] hmo _ (fun v => classL p.types.length (D v) first) ⟨137, [.bp (kx Y.k 4) 0, .bp (kx Y.k 5) 0, .bp (kx Y.k 6) 0], rfl, cp_cons (Nat.le_of_ble_eq_true rfl) (cp_cons (Nat.le_of_ble_eq_true rfl) (cp_cons (Nat.le_of_ble_eq_true rfl) cp_nil)), rfl, fun s v hv hF => pairsBT2_ok Y p o a b first g caps hcl hcf D hok hp hfi v hv.2 s hF⟩ s hF) rfl rfl ?_
 simp -implicitDefEqProofs only [pkA, ↓reduceIte, pkB Y _]
 exact envEndR (rest := [evar Y.k, nvar first, fvar (.clo (.func g) [] caps)]) rfl rfl rfl hls (by simp [pairL])
end Go.Proofs.YthgmobkmmapgoaaGreat
/- The engine of layer 17: seals, the closure of rawUnwraps. -/
namespace Go.Proofs.YthgmobkmmapgoaaGreat
open Go Go.Vl
variable {G : Gl}
set_option maxRecDepth 4000
def i14 : In := ⟨14, [], [blobF 0 0]⟩
theorem seals_ok {σ : Type} (Y : Ys σ) (p : Pol) (o : Option Fa) (s : σ) (hF : Fut G Y s (emL o i14)) :
  FnB Tryz.prog G 81 [.bp (kx Y.k 0) 0] (Y.yb s ++ [eng p o]) (bo (runS Y.step s (emL o i14)).2) (Y.yb (runS Y.step s (emL o i14)).1 ++ [eng p o]) := by
 have hls : ltL (kx Y.k 1) [eng p o] := lt_cons (eng_ltm Y.pos) lt_nil
 have hva : ∀ x ∈ [V.bp (kx Y.k 0) 0], x.lt (kx Y.k 1) := va_cons (bp_lt (by decide)) va_nil
 cases hmd : Y.mode
 ·refine FnB_byE (k := Y.k) (m := 1) (rs := [.tmp 2]) [1000006] mixed Tryz.func81 rfl rfl rfl rfl (by kernel_rfl) (by simp) rfl (Y.len s) (Y.len _) (Y.lt s) rfl hls hva ?_
  simp -implicitDefEqProofs only [pkA, ↓reduceIte, Nat.reduceEqDiff, Nat.reduceAdd, Nat.reduceBEq, pkB Y _]
  refine call_fn rfl (blob_ok _ _) (fun _ => rfl) ?_
  simp -implicitDefEqProofs only [pkA, ptA, ↓reduceIte, Nat.reduceEqDiff, Nat.reduceAdd, Nat.reduceBEq, Nat.reduceMul, Nat.reduceLeDiff, pkE, pkB Y _]
  refine emitA_call i14 hmd (by simp [i14]) hF rfl rfl rfl ?_
  simp -implicitDefEqProofs only [pkA, ↓reduceIte, pkB Y _]
  exact envEnd rfl rfl hls (by simp [])
 ·refine FnB_byE (k := Y.k) (m := 1) (rs := [.tmp 2]) [1000006, 2000005] mixed Tryz.func81 rfl rfl rfl rfl (by kernel_rfl) (by simp) rfl (Y.len s) (Y.len _) (Y.lt s) rfl hls hva ?_
  simp -implicitDefEqProofs only [pkA, ↓reduceIte, Nat.reduceEqDiff, Nat.reduceAdd, Nat.reduceBEq, pkB Y _]
  refine call_fn rfl (blob_ok _ _) (fun _ => rfl) ?_
  simp -implicitDefEqProofs only [pkA, ptA, ↓reduceIte, Nat.reduceEqDiff, Nat.reduceAdd, Nat.reduceBEq, Nat.reduceMul, Nat.reduceLeDiff, pkE, pkB Y _, kx_succ]
  refine emitB_call 1 i14 hmd (by simp [i14]) hF rfl rfl rfl (by decide) (by decide) (fun c' => ?_)
  simp -implicitDefEqProofs only [pkA, ↓reduceIte, pkB Y _]
  exact envEndR (rest := [c'.map .c]) rfl rfl rfl hls (by simp [])
def i10 (a b v w : Nat) : In := ⟨10, [handleF v a, blobF v w], if 0 < w then [handleF w b, rawF w] else [handleF w b]⟩
def r10 (o : Option Fa) (a b v w : Nat) : List In := if 0 < w ∧ v = 0 then [] else emL o (i10 a b v w)
theorem f10A_ok {σ : Type} (Y : Ys σ) (p : Pol) (o : Option Fa) (a b v w : Nat) (s : σ) (hF : Fut G Y s (r10 o a b v w)) (hmd : Y.mode = false) :
  FnB Tryz.prog G 123 [i64 (v : Int), i64 (w : Int), .bp (kx Y.k 3) 0, .bp (kx Y.k 1) 0, .bp (kx Y.k 2) 0] (Y.yb s ++ [eng p o, evar Y.k, nvar a, nvar b]) (bo (runS Y.step s (r10 o a b v w)).2) (Y.yb (runS Y.step s (r10 o a b v w)).1 ++ [eng p o, evar Y.k, nvar a, nvar b]) := by
 have hls : ltL (kx Y.k 4) [eng p o, evar Y.k, nvar a, nvar b] := lt_cons (eng_ltm Y.pos) (lt_cons (evar_lt (by decide)) (lt_cons nvar_lt (lt_cons nvar_lt lt_nil)))
 refine FnB_byE (k := Y.k) (m := 4) (rs := [.tmp 7]) [1000037, 23] mixed Tryz.func123 rfl rfl rfl rfl (by kernel_rfl) (by simp) rfl (Y.len s) (Y.len _) (Y.lt s) rfl hls (va_cons trivial (va_cons trivial (va_cons (bp_lt (by decide)) (va_cons (bp_lt (by decide)) (va_cons (bp_lt (by decide)) va_nil))))) ?_
 simp -implicitDefEqProofs only [pkA, ptA, ↓reduceIte, Nat.reduceEqDiff, Nat.reduceAdd, Nat.reduceBEq, Nat.reduceMul, pkB Y _, pkV]
 refine call_fn rfl (handle_ok _ _) (fun _ => rfl) ?_
 simp -implicitDefEqProofs only [pkA, ptA, ↓reduceIte, Nat.reduceEqDiff, Nat.reduceAdd, Nat.reduceBEq, Nat.reduceMul, Nat.reduceLeDiff, pkE, pkB Y _]
 have e1 : ∀ x : Fa, [V.agg (faC x)].length = 1 := fun _ => rfl
 refine vgd_of (fun hw => ?_) (fun hw => ?_)
 ·have hw0 : 0 < w := by simpa using hw
  simp -implicitDefEqProofs only [pkA, ↓reduceIte, Nat.reduceEqDiff, Nat.reduceBEq, pkB Y _]
  refine vcond_of (fun hv => ?_) (fun hv => ?_)
  ·have hv0 : v = 0 := by simpa using hv
   have hr : r10 o a b v w = [] := by simp [r10, hw0, hv0]
   rw [hr]
   simp -implicitDefEqProofs only [pkA, ↓reduceIte, Nat.reduceAdd, Nat.reduceBEq, pkB Y _]
   rw [runS_nil]
   exact envEnd rfl rfl hls (by simp [])
  ·have hv0 : ¬ v = 0 := by simpa using hv
   have hr : r10 o a b v w = emL o (i10 a b v w) := by simp [r10, hv0]
   rw [hr] at hF ⊢
   have hi : (i10 a b v w).con = [handleF w b, rawF w] := by simp [i10, hw0]
   simp -implicitDefEqProofs only [pkA, ↓reduceIte, Nat.reduceEqDiff, Nat.reduceAdd, Nat.reduceBEq, pkB Y _, hw]
   refine call_fn rfl (raw_ok _) (fun _ => rfl) ?_
   simp -implicitDefEqProofs only [pkA, ptA, ↓reduceIte, Nat.reduceEqDiff, Nat.reduceAdd, Nat.reduceBEq, Nat.reduceMul, Nat.reduceLeDiff, pkE, pkB Y _]
   simp -implicitDefEqProofs only [pkA, ptA, ↓reduceIte, Nat.reduceEqDiff, Nat.reduceAdd, Nat.reduceBEq, Nat.reduceMul, Nat.reduceLT, Nat.reduceLeDiff, pkB Y _, pkV, isGh_some, app_27]
   refine ⟨⟨.inr (by first | trivial | rfl), by simp [faC]⟩, by simp [faC], ?_⟩
   refine call_fn rfl (handle_ok _ _) (fun _ => rfl) ?_
   simp -implicitDefEqProofs only [pkA, ↓reduceIte, Nat.reduceEqDiff, Nat.reduceAdd, Nat.reduceBEq, pkB Y _]
   refine call_fn rfl (blob_ok _ _) (fun _ => rfl) ?_
   simp -implicitDefEqProofs only [pkA, ptA, ↓reduceIte, Nat.reduceEqDiff, Nat.reduceAdd, Nat.reduceBEq, Nat.reduceMul, Nat.reduceLT, Nat.reduceLeDiff, pkE, pkB Y _]
   refine emitA_call (i10 a b v w) hmd (by simp [i10]) hF rfl (by rw [hi]; rfl) rfl ?_
   simp -implicitDefEqProofs only [pkA, ↓reduceIte, pkB Y _]
   exact envEnd rfl rfl hls (by simp [])
 ·have hw0 : w = 0 := by simpa using hw
  subst hw0
  have hr : r10 o a b v 0 = emL o (i10 a b v 0) := by simp [r10]
  rw [hr] at hF ⊢
  simp -implicitDefEqProofs only [pkA, ptA, ↓reduceIte, Nat.reduceEqDiff, Nat.reduceAdd, Nat.reduceBEq, Nat.reduceMul, Nat.reduceLT, pkB Y _, pkV, hw]
  refine call_fn rfl (handle_ok _ _) (fun _ => rfl) ?_
  simp -implicitDefEqProofs only [pkA, ↓reduceIte, Nat.reduceEqDiff, Nat.reduceAdd, Nat.reduceBEq, pkB Y _]
  refine call_fn rfl (blob_ok _ _) (fun _ => rfl) ?_
  simp -implicitDefEqProofs only [pkA, ptA, ↓reduceIte, Nat.reduceEqDiff, Nat.reduceAdd, Nat.reduceBEq, Nat.reduceMul, Nat.reduceLT, Nat.reduceLeDiff, pkE, pkB Y _]
  refine emitA_call (i10 a b v 0) hmd (by simp [i10]) hF rfl rfl rfl ?_
  simp -implicitDefEqProofs only [pkA, ↓reduceIte, pkB Y _]
  exact envEnd rfl rfl hls (by simp [])
theorem f10B_ok {σ : Type} (Y : Ys σ) (p : Pol) (o : Option Fa) (a b v w : Nat) (s : σ) (hF : Fut G Y s (r10 o a b v w)) (hmd : Y.mode = true) :
  FnB Tryz.prog G 123 [i64 (v : Int), i64 (w : Int), .bp (kx Y.k 3) 0, .bp (kx Y.k 1) 0, .bp (kx Y.k 2) 0] (Y.yb s ++ [eng p o, evar Y.k, nvar a, nvar b]) (bo (runS Y.step s (r10 o a b v w)).2) (Y.yb (runS Y.step s (r10 o a b v w)).1 ++ [eng p o, evar Y.k, nvar a, nvar b]) := by
 have hls : ltL (kx Y.k 4) [eng p o, evar Y.k, nvar a, nvar b] := lt_cons (eng_ltm Y.pos) (lt_cons (evar_lt (by decide)) (lt_cons nvar_lt (lt_cons nvar_lt lt_nil)))
 by_cases hw0 : w = 0
 ·subst hw0
  have hr : r10 o a b v 0 = emL o (i10 a b v 0) := by simp [r10]
  rw [hr] at hF ⊢
  refine FnB_byE (k := Y.k) (m := 4) (rs := [.tmp 7]) [1000037, 2000012] mixed Tryz.func123 rfl rfl rfl rfl (by kernel_rfl) (by simp) rfl (Y.len s) (Y.len _) (Y.lt s) rfl hls (va_cons trivial (va_cons trivial (va_cons (bp_lt (by decide)) (va_cons (bp_lt (by decide)) (va_cons (bp_lt (by decide)) va_nil))))) ?_
  simp -implicitDefEqProofs only [pkA, ptA, ↓reduceIte, Nat.reduceEqDiff, Nat.reduceAdd, Nat.reduceBEq, Nat.reduceMul, pkB Y _, pkV]
  refine call_fn rfl (handle_ok _ _) (fun _ => rfl) ?_
  simp -implicitDefEqProofs only [pkA, ptA, ↓reduceIte, Nat.reduceEqDiff, Nat.reduceAdd, Nat.reduceBEq, Nat.reduceMul, Nat.reduceLeDiff, pkE, pkB Y _, kx_succ]
  have h00 : decide ((0 : Int) < ((0 : Nat) : Int)) = false := by decide
  simp -implicitDefEqProofs only [pkA, ptA, ↓reduceIte, Nat.reduceEqDiff, Nat.reduceAdd, Nat.reduceBEq, Nat.reduceMul, Nat.reduceLT, pkB Y _, pkV, h00]
  refine call_fn rfl (handle_ok _ _) (fun _ => rfl) ?_
  simp -implicitDefEqProofs only [pkA, ↓reduceIte, Nat.reduceEqDiff, Nat.reduceAdd, Nat.reduceBEq, pkB Y _]
  refine call_fn rfl (blob_ok _ _) (fun _ => rfl) ?_
  simp -implicitDefEqProofs only [pkA, ptA, ↓reduceIte, Nat.reduceEqDiff, Nat.reduceAdd, Nat.reduceBEq, Nat.reduceMul, Nat.reduceLT, Nat.reduceLeDiff, pkE, pkB Y _]
  refine emitB_call 4 (i10 a b v 0) hmd (by simp [i10]) hF rfl rfl rfl (by decide) (by decide) (fun c' => ?_)
  simp -implicitDefEqProofs only [pkA, ↓reduceIte, pkB Y _]
  exact envEndR (rest := [c'.map .c]) rfl rfl rfl hls (by simp [])
 ·have hwp : 0 < w := by omega
  have hw : decide ((0 : Int) < (w : Int)) = true := by simp; omega
  refine FnB_byE (k := Y.k) (m := 4) (rs := [.tmp 7]) [1000037, 1400012, 23, 2000027] mixed Tryz.func123 rfl rfl rfl rfl (by kernel_rfl) (by simp) rfl (Y.len s) (Y.len _) (Y.lt s) rfl hls (va_cons trivial (va_cons trivial (va_cons (bp_lt (by decide)) (va_cons (bp_lt (by decide)) (va_cons (bp_lt (by decide)) va_nil))))) ?_
  simp -implicitDefEqProofs only [pkA, ptA, ↓reduceIte, Nat.reduceEqDiff, Nat.reduceAdd, Nat.reduceBEq, Nat.reduceMul, pkB Y _, pkV]
  refine call_fn rfl (handle_ok _ _) (fun _ => rfl) ?_
  simp -implicitDefEqProofs only [pkA, ptA, ↓reduceIte, Nat.reduceEqDiff, Nat.reduceAdd, Nat.reduceBEq, Nat.reduceMul, Nat.reduceLeDiff, pkE, pkB Y _]
  refine .inr (.inl ?_)
  simp -implicitDefEqProofs only [pkA, ↓reduceIte, Nat.reduceEqDiff, Nat.reduceAdd, Nat.reduceBEq, pkB Y _, hw]
  refine vcond_of (fun hv => ?_) (fun hv => ?_)
  ·have hv0 : v = 0 := by simpa using hv
   have hr : r10 o a b v w = [] := by simp [r10, hwp, hv0]
   rw [hr]
   simp -implicitDefEqProofs only [pkA, ↓reduceIte, Nat.reduceAdd, Nat.reduceBEq, pkB Y _]
   rw [runS_nil]
   exact envEnd rfl rfl hls (by simp [])
  ·have hv0 : ¬ v = 0 := by simpa using hv
   have hr : r10 o a b v w = emL o (i10 a b v w) := by simp [r10, hv0]
   rw [hr] at hF ⊢
   have hi : (i10 a b v w).con = [handleF w b, rawF w] := by simp [i10, hwp]
   simp -implicitDefEqProofs only [pkA, ↓reduceIte, Nat.reduceEqDiff, Nat.reduceAdd, Nat.reduceBEq, pkB Y _, hw]
   refine call_fn rfl (raw_ok _) (fun _ => rfl) ?_
   simp -implicitDefEqProofs only [pkA, ptA, ↓reduceIte, Nat.reduceEqDiff, Nat.reduceAdd, Nat.reduceBEq, Nat.reduceMul, Nat.reduceLeDiff, pkE, pkB Y _]
   rw [app_27]
   refine ⟨⟨.inl rfl, by simp [faC]⟩, ⟨by simp, by simp, by simp [faC]⟩, ?_⟩
   simp -implicitDefEqProofs only [pkA, ptA, ↓reduceIte, Nat.reduceEqDiff, Nat.reduceAdd, Nat.reduceBEq, Nat.reduceMul, Nat.reduceLT, pkB Y _, pkV, kx_succ]
   refine call_fn rfl (handle_ok _ _) (fun _ => rfl) ?_
   simp -implicitDefEqProofs only [pkA, ↓reduceIte, Nat.reduceEqDiff, Nat.reduceAdd, Nat.reduceBEq, pkB Y _]
   refine call_fn rfl (blob_ok _ _) (fun _ => rfl) ?_
   simp -implicitDefEqProofs only [pkA, ptA, ↓reduceIte, Nat.reduceEqDiff, Nat.reduceAdd, Nat.reduceBEq, Nat.reduceMul, Nat.reduceLT, Nat.reduceLeDiff, pkE, pkB Y _]
   refine emitB_call 4 (i10 a b v w) hmd (by simp [i10]) hF rfl (by rw [hi]; rfl) (by unfold conB; rw [hi]; rfl) (by decide) (by decide) (fun c' => ?_)
   simp -implicitDefEqProofs only [pkA, ↓reduceIte, pkB Y _]
   exact envEndR (rest := [c'.map .c]) rfl rfl rfl hls (by simp [])
structure F10 (G : Gl) {σ : Type} (Y : Ys σ) (p : Pol) (o : Option Fa) : Prop where
 ok : ∀ (a b v w : Nat) (s : σ), Fut G Y s (r10 o a b v w) → FnB Tryz.prog G 123 [i64 (v : Int), i64 (w : Int), .bp (kx Y.k 3) 0, .bp (kx Y.k 1) 0, .bp (kx Y.k 2) 0] (Y.yb s ++ [eng p o, evar Y.k, nvar a, nvar b]) (bo (runS Y.step s (r10 o a b v w)).2) (Y.yb (runS Y.step s (r10 o a b v w)).1 ++ [eng p o, evar Y.k, nvar a, nvar b])
theorem F10all {σ : Type} (Y : Ys σ) (p : Pol) (o : Option Fa) : F10 G Y p o := ⟨fun a b v w s hF => by
 cases hmd : Y.mode
 ·exact f10A_ok Y p o a b v w s hF hmd
 ·exact f10B_ok Y p o a b v w s hF hmd⟩
