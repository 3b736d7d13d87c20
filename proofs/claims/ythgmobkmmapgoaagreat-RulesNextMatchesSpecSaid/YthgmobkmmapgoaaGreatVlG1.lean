/- Law 17: using. Printed from VlF1 and VlF2 by replacing (names with U). -/
import Derived.Test.YthgmobkmmapgoaaGreatVlF2
set_option linter.unusedSimpArgs false
set_option linter.unusedVariables false
namespace Go.Proofs.YthgmobkmmapgoaaGreat
open Go Go.Vl
variable {G : Gl}
set_option maxRecDepth 4000
theorem nil_using {p : Pol} {f : Fa} {K : V → Prop} : vnilP Tryz.prog .eql 38 true (usingV p f) K = K (bo false) := vnilP_eq (b := false) rfl (by kernel_rfl)
theorem usingV_fz {p : Pol} {f : Fa} : (usingV p f).fz = usingV p f := rfl
theorem usingV_ow {p : Pol} {f : Fa} : (usingV p f).isOw = false := rfl
def flU : List (Nat × V) := [(4, .bp 1 0), (5, .bp 2 0), (7, .bp 3 0)]
def flUc : List (Nat × V) := [(4, .bp 2 0), (5, .bp 3 0), (7, .bp 4 0)]
def recU (n : Nat) (ps : Array Tmp) (ca cb : Code) (st : Bool) : Loop := if st = true then { lp0 n ps ca cb with state := .done, pending := some .ret } else lp0 n ps ca cb
def ybU (n : Nat) (ps : Array Tmp) (ca cb : Code) (s : List In × Bool) : List (List V) := [[.lp (recU n ps ca cb s.2) flU], [.ow none []], [bo false], [outV s.1]]
def Yu (n : Nat) (ps : Array Tmp) (ca cb : Code) : Ys (List In × Bool) where
 yb := ybU n ps ca cb
 k := 4
 pos := by decide
 len := fun _ => rfl
 lt := fun s b hb x hx => by
  simp only [ybU, List.mem_cons, List.not_mem_nil, or_false] at hb
  rcases hb with rfl | rfl | rfl | rfl
  ·simp only [List.mem_singleton] at hx; subst hx
   intro p hp
   simp only [flU, List.mem_cons, List.not_mem_nil, or_false] at hp
   rcases hp with rfl | rfl | rfl <;> simp [V.ltP]
  all_goals simp only [List.mem_singleton] at hx; subst hx; trivial
 step := stepA
 mode := false
theorem futU {n : Nat} {ps : Array Tmp} {ca cb : Code} (h : ∀ l x, l.length ≤ 20000 → (Yu n ps ca cb).ok G (l, false) x) : ∀ (m l : List In), l.length ≤ 20000 → Fut G (Yu n ps ca cb) (l, false) m
 | [], _, _ => trivial
 | x :: m, l, hl => by
  refine ⟨h l x hl, fun hs => ?_⟩
  change (stepA (l, false) x).2 = true at hs
  change Fut G (Yu n ps ca cb) (stepA (l, false) x).1 m
  by_cases hlt : l.length < 20000
  ·rw [stepA_go hlt]
   exact futU h m _ (by simp only [List.length_append, List.length_cons, List.length_nil]; omega)
  ·rw [stepA_stop hlt] at hs; cases hs
theorem futU0 {n : Nat} {ps : Array Tmp} {ca cb : Code} (h : ∀ l x, l.length ≤ 20000 → (Yu n ps ca cb).ok G (l, false) x) (m : List In) : Fut G (Yu n ps ca cb) ([], false) m := futU h m [] (Nat.zero_le _)
theorem runU0 {n : Nat} {ps : Array Tmp} {ca cb : Code} (m : List In) (h : m.length ≤ 20000) : runS (Yu n ps ca cb).step ([], false) m = ((m, false), true) := by
 have := runA m [] (by rw [List.length_nil, Nat.zero_add]; exact h)
 rw [List.nil_append] at this
 exact this
theorem instU {p : Pol} {f : Fa} (hp : p.types.length ≤ 9223372036854775806) (hr : p.rules.length ≤ 9223372036854775806) (hl : (allL p (some f)).length ≤ 20000) {n : Nat} {ps : Array Tmp} {ca cb : Code} (hok : ∀ l x, l.length ≤ 20000 → (Yu n ps ca cb).ok G (l, false) x) :
  FnB Tryz.prog G 83 [.yl 0, .c (.rp (poC p) 0), .c (.rp (faC f) 0)] (ybU n ps ca cb ([], false)) (.tup []) (ybU n ps ca cb (allL p (some f), false)) := by
 have hI := Using_ok (G := G) (Yu n ps ca cb) p f hp hr ([], false) (futU0 hok _)
 rw [runU0 _ hl] at hI
 exact hI
theorem vrgU {p : Pol} {f : Fa} (hp : p.types.length ≤ 9223372036854775806) (hr : p.rules.length ≤ 9223372036854775806) (hl : (allL p (some f)).length ≤ 20000) {tr : List Nat} {n t : Nat} {ps : Array Tmp} {ca cb : Code} {Q : VE → S → Prop} {fr : Nat → V} {bx : Nat → List V}
  (hrg : isRg tr = true) (hn : rgN tr = n) (hf : fr t = usingV p f) (h2 : fr 4 = .bp 2 0) (h3 : fr 5 = .bp 3 0) (h5 : fr 7 = .bp 4 0) (b1 : bx 2 = [.ow none []]) (b2 : bx 3 = [bo false]) (b3 : bx 4 = [.ow none []])
  (hok : ∀ l x, l.length ≤ 20000 → (Yu n ps ca cb).ok G (l, false) x)
  (hQ : ∀ bx' : Nat → List V, bx' 2 = [.ow none []] → bx' 3 = [bo false] → bx' 4 = [outV (allL p (some f))] → Q .normal ⟨fr, bx', 6⟩) : vrg Tryz.prog G tr (.tmp t) ps ca cb Q ⟨fr, bx, 5⟩ := by
 subst hn
 have hI := instU (G := G) hp hr hl hok
 generalize allL p (some f) = L at hI hQ hl
 refine ⟨hrg, flUc, fun q hq => ?_, ⟨_, _, by simp only [ev, hf]; rfl⟩, ?_⟩
 ·simp only [flUc, List.mem_cons, List.not_mem_nil, or_false] at hq
  rcases hq with rfl | rfl | rfl <;> simp [h2, h3, h5, V.fz, V.isKR]
 ·unfold vcallB vcallE
  simp only [ev, hf]
  refine ⟨[5, 2, 3, 4], _, _, _, _, hI, rfl, ⟨rfl, by decide⟩, ?_, ?_⟩
  ·refine ⟨⟨by decide, ?_⟩, ⟨by decide, ?_⟩, ⟨by decide, ?_⟩, ⟨by decide, ?_⟩, trivial⟩
   ·simp [rho, up, recU, flU, flUc, V.ren, V.renP]
   ·simp [rho, up, b1, V.ren]
   ·simp [rho, up, b2, V.ren]
   ·simp [rho, up, b3, V.ren, outV]
  ·have e4 : setBx (rho [5, 2, 3, 4] 6) 0 (ybU (rgN tr) ps ca cb (L, false)) (up bx 5 [.lp (lp0 (rgN tr) ps ca cb) flUc]) 5 = [.lp (lp0 (rgN tr) ps ca cb) flUc] := by
    simp [ybU, setBx, rho, up, recU, flU, flUc, V.ren, V.renP]
   show vrgK Q 5 ⟨fr, setBx (rho [5, 2, 3, 4] 6) 0 (ybU (rgN tr) ps ca cb (L, false)) (up bx 5 [.lp (lp0 (rgN tr) ps ca cb) flUc]), 6⟩
   unfold vrgK
   simp only [e4]
   refine ⟨by simp [lp0], by decide, ?_⟩
   show Q .normal ⟨fr, up _ 5 _, 6⟩
   refine hQ _ ?_ ?_ ?_
   ·simp [ybU, setBx, rho, up, V.ren]
   ·simp [ybU, setBx, rho, up, V.ren]
   ·simp [ybU, setBx, rho, up, V.ren, outV]
theorem Yu_step {n : Nat} {ps : Array Tmp} {ca cb : Code} : (Yu n ps ca cb).step = stepA := rfl
theorem Yu_yb {n : Nat} {ps : Array Tmp} {ca cb : Code} : (Yu n ps ca cb).yb = ybU n ps ca cb := rfl
theorem using_ok (p : Pol) (f : Fa) (hp : p.types.length ≤ 9223372036854775806) (hr : p.rules.length ≤ 9223372036854775806) (hl : (allL p (some f)).length ≤ 20000) :
  FnOK Tryz.prog G 23 [.agg (poC p), .agg (faC f)] (.tup [.c (.sl ((allL p (some f)).map inC)), bo true]) := by
 refine FnOK_by (rs := [.cell 4 40, .cell 5 4]) true [1200000, 1300024] mixed Tryz.func23 rfl rfl rfl rfl (by kernel_rfl) (by simp) rfl rfl ?_
 simp -implicitDefEqProofs only [pkA, ptA, ↓reduceIte, Nat.reduceEqDiff, Nat.reduceAdd, Nat.reduceBEq, Nat.reduceMul, Nat.reduceLT, pkE]
 refine call_fn rfl (Using_fn_ok p f) (fun h => by cases h) ?_
 simp -implicitDefEqProofs only [pkA, ptA, ↓reduceIte, Nat.reduceEqDiff, Nat.reduceAdd, Nat.reduceBEq, nil_using, usingV_fz, usingV_ow, run_range]
 refine vrgU (n := 24) hp hr hl rfl rfl rfl rfl rfl rfl rfl rfl rfl ?_ ?_
 ·intro l x hlx
  unfold Ys.ok
  rw [if_neg (by decide)]
  refine YB_of (L := lp0 24 #[15] _ _) (fl := flU) (bs := [[.ow none []], [bo false], [outV l]]) [2300007, 2400019] mixed rfl rfl ?_ ?_ ?_ ?_ ?_
  ·intro q hq; simp [lp0] at hq; subst hq; decide
  ·kernel_rfl
  ·kernel_rfl
  ·refine ⟨fun y hy => ?_, (Yu 24 #[15] _ _).lt (l, false), Nat.le_refl _⟩
   simp only [List.mem_singleton] at hy; subst hy; trivial
  ·simp -implicitDefEqProofs only [pkA, ptA, ↓reduceIte, Nat.reduceEqDiff, Nat.reduceAdd, Nat.reduceBEq, Nat.reduceMul, Nat.reduceLT, Nat.reduceLeDiff, pkE, frY, flU, lp0, List.zip_cons_cons, List.zip_nil_right, List.foldl_cons, List.foldl_nil]
   refine spl_of 3 0 19 (E := if l.isEmpty then none else some (50, 3)) (es := l.map inC) rfl (show 3 < 5 by decide) rfl rfl ?_
   intro v
   have q1 : ∀ a b c : V, setV [a, b, c] 0 ((inC x).map .c) = (inC x).map .c := fun _ _ _ => rfl
   have q2 : isMb ((inC x).map V.c) = false := rfl
   have q3 : ∀ K, ldA 5 4 ((inC x).map V.c) 0 3 K = K (.agg (inC x)) := fun K => by
    unfold ldA
    exact propext ⟨fun h => h.2.2, fun h => ⟨by decide, ⟨rfl, rfl⟩, h⟩⟩
   simp -implicitDefEqProofs only [q1, q2, q3, true_and, pkA, ptA, ↓reduceIte, Nat.reduceEqDiff, Nat.reduceAdd, Nat.reduceBEq, Nat.reduceMul, Nat.reduceLT, Nat.reduceLeDiff, pkE, S.split, isGh_some, outV]
   refine gh_app (v := v) (E := if l.isEmpty then none else some (50, 3)) (es := l.map inC) rfl rfl (by decide) ?_
   simp -implicitDefEqProofs only [true_and, pkA, ptA, ↓reduceIte, Nat.reduceEqDiff, Nat.reduceAdd, Nat.reduceBEq, Nat.reduceMul, Nat.reduceLT, Nat.reduceLeDiff, app_40]
   have hE : (if (l ++ [x]).isEmpty then none else some (50, 3)) = some (50, 3) := by simp
   have hlen : ((l.map inC ++ [inC x]).length : Int) = (l.length : Int) + 1 := by simp
   refine ⟨⟨by cases l <;> simp, by simp [inC]⟩, ⟨by simp; omega, by simp; omega, by simp [inC]⟩, vcond_of (fun hc => ?_) (fun hc => ?_)⟩
   ·have hlt : ¬ l.length < 20000 := by rw [hlen] at hc; simp at hc; omega
    have hs : stepA (l, false) x = ((l ++ [x], true), false) := stepA_stop hlt
    rw [Yu_step, Yu_yb, hs]
    simp -implicitDefEqProofs only [true_and, pkA, ptA, ↓reduceIte, Nat.reduceEqDiff, Nat.reduceAdd, Nat.reduceBEq, Nat.reduceMul, Nat.reduceLT]
    refine ⟨⟨show 1 < 5 by decide, rfl, by simp [up, bxs]⟩, ?_⟩
    simp -implicitDefEqProofs only [true_and, pkA, ptA, ↓reduceIte, Nat.reduceEqDiff, Nat.reduceAdd, Nat.reduceBEq, Nat.reduceMul, Nat.reduceLT, Nat.reduceLeDiff]
    refine ⟨rfl, _, _, ⟨rfl, show 0 < 5 by decide⟩, [], ?_⟩
    refine le_hdP (fun _ h => by cases h) ((Yu 24 #[15] _ _).lt (l ++ [x], true)) (Nat.le_refl _) (show 4 ≤ 5 by decide) trivial ?_
    intro i hi
    match i, hi with
    | 0, _ => simp [ybU, up, bxs, recU, yjump, lp0, flU]
    | 1, _ => simp [ybU, up, bxs]
    | 2, _ => simp [ybU, up, bxs]
    | 3, _ => simp [ybU, up, bxs, outV]
   ·have hlt : l.length < 20000 := by rw [hlen] at hc; simp at hc; omega
    have hs : stepA (l, false) x = ((l ++ [x], false), true) := stepA_go hlt
    rw [Yu_step, Yu_yb, hs]
    simp -implicitDefEqProofs only [pkA]
    refine ⟨rfl, _, _, ⟨rfl, show 0 < 5 by decide⟩, [], ?_⟩
    refine le_hdP (fun _ h => by cases h) ((Yu 24 #[15] _ _).lt (l ++ [x], false)) (Nat.le_refl _) (show 4 ≤ 5 by decide) trivial ?_
    intro i hi
    match i, hi with
    | 0, _ => simp [ybU, up, bxs, recU, yjump, lp0, flU]
    | 1, _ => simp [ybU, up, bxs]
    | 2, _ => simp [ybU, up, bxs]
    | 3, _ => simp [ybU, up, bxs, outV]
 ·intro bx' e1 e2 e3
  cases hE : (allL p (some f)).isEmpty
  ·simp -implicitDefEqProofs only [pkA, ptA, ↓reduceIte, Nat.reduceEqDiff, Nat.reduceAdd, Nat.reduceBEq, Nat.reduceMul, Nat.reduceLT, Nat.reduceLeDiff, e1, e2, e3, outV, hE]
   refine retV_ccz ?_ ?_ <;> simp -implicitDefEqProofs only [pkA, ptA, ↓reduceIte, Nat.reduceEqDiff, Nat.reduceLT] <;> rfl
  ·simp -implicitDefEqProofs only [pkA, ptA, ↓reduceIte, Nat.reduceEqDiff, Nat.reduceAdd, Nat.reduceBEq, Nat.reduceMul, Nat.reduceLT, Nat.reduceLeDiff, e1, e2, e3, outV, hE]
   refine retV_ccz ?_ ?_ <;> simp -implicitDefEqProofs only [pkA, ptA, ↓reduceIte, Nat.reduceEqDiff, Nat.reduceLT] <;> rfl
end Go.Proofs.YthgmobkmmapgoaaGreat
/- Law 17: how many instances a small policy has. -/
namespace Go.Proofs.YthgmobkmmapgoaaGreat
open Go Go.Vl
theorem len_flat {α : Type} {f : α → List In} {b : Nat} : ∀ (l : List α), (∀ x ∈ l, (f x).length ≤ b) → (l.flatMap f).length ≤ l.length * b
 | [], _ => by simp
 | x :: l, h => by
  rw [List.flatMap_cons, List.length_append, List.length_cons, Nat.succ_mul]
  have h1 := h x (List.mem_cons_self ..)
  have h2 := len_flat l fun y hy => h y (List.mem_cons_of_mem _ hy)
  omega
theorem len_em {o : Option Fa} {x : In} : (emL o x).length ≤ 1 := by
 unfold emL; split <;> simp
theorem len_flag {p : Pol} {o : Option Fa} {flag : Int} {D : Nat → List In} {b : Nat} (h : ∀ t, (D t).length ≤ b) : (flagL p o flag D 0).length ≤ p.types.length * b := by
 unfold flagL
 have := len_flat (f := flagT p o flag D) (b := b) (List.range' 0 (p.types.length - 0)) fun t _ => by
  unfold flagT; split
  ·exact h t
  ·simp
 simpa using this
theorem len_class {n : Nat} {D : Nat → List In} {v b : Nat} (h : ∀ t, (D t).length ≤ b) : (classL n D v).length ≤ (n + 1) * b := by
 unfold classL
 have := len_flat (f := D) (b := b) (List.range' v (n + 1 - v)) fun t _ => h t
 rw [List.length_range'] at this
 exact Nat.le_trans this (Nat.mul_le_mul_right _ (by omega))
theorem len_pair {n first : Nat} {D : Nat → Nat → List In} {b : Nat} (h : ∀ v w, (D v w).length ≤ b) : (pairL n first D).length ≤ (n + 1) * ((n + 1) * b) := len_class fun v => len_class fun w => h v w
theorem len_rule {p : Pol} {o : Option Fa} {kind : Int} {D : Nat → Nat → List In} {b : Nat} (h : ∀ x y, (D x y).length ≤ b) : (ruleL p o kind D 0).length ≤ p.rules.length * b := by
 unfold ruleL
 have := len_flat (f := ruleT p o kind D) (b := b) (p.rules.drop 0) fun t _ => by
  unfold ruleT; split
  ·exact h _ _
  ·simp
 simpa using this
theorem len_r10 {o : Option Fa} {a b v w : Nat} : (r10 o a b v w).length ≤ 1 := by
 unfold r10; split
 ·simp
 ·exact len_em
set_option maxHeartbeats 4000000 in
theorem allL_len {p : Pol} {o : Option Fa} (hn : p.types.length ≤ 7) (hr : p.rules.length ≤ 15) : (allL p o).length ≤ 20000 := by
 have h8 : p.types.length + 1 ≤ 8 := by omega
 have h64 : (p.types.length + 1) * ((p.types.length + 1) * 1) ≤ 8 * (8 * 1) := Nat.mul_le_mul h8 (Nat.mul_le_mul h8 (Nat.le_refl 1))
 have h81 : (p.types.length + 1) * 1 ≤ 8 * 1 := Nat.mul_le_mul h8 (Nat.le_refl 1)
 have c1 : ∀ D : Nat → List In, (∀ t, (D t).length ≤ 1) → ∀ v, (classL p.types.length D v).length ≤ 8 := fun D h v => by
  have := len_class (n := p.types.length) (D := D) (v := v) (b := 1) h
  omega
 have c2 : ∀ D : Nat → Nat → List In, (∀ v w, (D v w).length ≤ 1) → ∀ v, (pairL p.types.length v D).length ≤ 64 := fun D h v => Nat.le_trans (len_pair (n := p.types.length) (first := v) (D := D) (b := 1) h) h64
 have f1 : ∀ (D : Nat → List In) (b : Nat), (∀ t, (D t).length ≤ b) → ∀ flag, (flagL p o flag D 0).length ≤ 7 * b := fun D b h flag => Nat.le_trans (len_flag h) (Nat.mul_le_mul_right _ hn)
 have r1 : ∀ (D : Nat → Nat → List In) (b : Nat), (∀ x y, (D x y).length ≤ b) → ∀ kind, (ruleL p o kind D 0).length ≤ 15 * b := fun D b h kind => Nat.le_trans (len_rule h) (Nat.mul_le_mul_right _ hr)
 have l1 : (t1 p o).length ≤ 7 := f1 _ 1 (fun _ => len_em) _
 have l2 : (t2 p o).length ≤ 7 := f1 _ 1 (fun _ => len_em) _
 have l3 : (t3 p o).length ≤ 120 := r1 _ 8 (fun _ _ => c1 _ (fun _ => len_em) _) _
 have l4 : (t4 p o).length ≤ 15 := r1 _ 1 (fun _ _ => len_em) _
 have l5 : (t5 p o).length ≤ 120 := r1 _ 8 (fun _ _ => c1 _ (fun _ => len_em) _) _
 have l6 : (t6 p o).length ≤ 56 := f1 _ 8 (fun _ => c1 _ (fun _ => len_em) _) _
 have l7 : (t7 p o).length ≤ 56 := f1 _ 8 (fun _ => c1 _ (fun _ => len_em) _) _
 have l8 : (t8 p o).length ≤ 960 := r1 _ 64 (fun _ _ => c2 _ (fun _ _ => len_em) _) _
 have l9 : (t9 p o).length ≤ 448 := f1 _ 64 (fun _ => c2 _ (fun _ _ => len_em) _) _
 have l10 : (t10 p o).length ≤ 960 := r1 _ 64 (fun _ _ => c2 _ (fun _ _ => len_r10) _) _
 have l11 : (t11 p o).length ≤ 15 := r1 _ 1 (fun _ _ => len_em) _
 have l12 : (t12 p o).length ≤ 120 := r1 _ 8 (fun _ _ => c1 _ (fun _ => len_em) _) _
 have l13 : (t13 p o).length ≤ 56 := f1 _ 8 (fun _ => c1 _ (fun _ => len_em) _) _
 have l14 : (t14 o).length ≤ 1 := len_em
 have l15 : (t15 p o).length ≤ 8 := c1 _ (fun _ => len_em) _
 have e : (allL p o).length = (t1 p o).length + ((t2 p o).length + ((t3 p o).length + ((t4 p o).length + ((t5 p o).length + ((t6 p o).length + ((t7 p o).length + ((t8 p o).length + ((t9 p o).length + ((t10 p o).length + ((t11 p o).length + ((t12 p o).length + ((t13 p o).length + ((t14 o).length + (t15 p o).length))))))))))))) := by
  unfold allL tops
  simp only [List.flatten_cons, List.flatten_nil, List.length_append, List.length_nil, Nat.add_zero]
 rw [e]
 omega
