/- Layer 17: Closed: the caller of Instances that stops at the first that shows that something follows. -/
import Derived.Test.YthgmobkmmapgoaaGreatVlJ2
set_option linter.unusedSimpArgs false
set_option linter.unusedVariables false
namespace Go.Proofs.YthgmobkmmapgoaaGreat
open Go Go.Vl
variable {G : Gl}
set_option maxRecDepth 4000
def flC : List (Nat × V) := [(4, .bp 1 0), (5, .bp 2 0), (6, .bp 3 0)]
def flCc : List (Nat × V) := [(4, .bp 1 0), (5, .bp 2 0), (6, .bp 5 0)]
def recC (n : Nat) (ps : Array Tmp) (ca cb : Code) (st : Bool) : Loop := if st = true then { lp0 n ps ca cb with state := .done, pending := some .ret } else lp0 n ps ca cb
def resC (s : Option In) : List V := match s with
 | none => [i64 0, .ow none [], .ow none []]
 | some x => (inC x).map .c
def ybC (n : Nat) (ps : Array Tmp) (ca cb : Code) (S : List Fa) (s : Option In) : List (List V) := [[.lp (recC n ps ca cb s.isSome) flC], resC s, [bo false], [.bp 5 0], mseq faC S, [.mr 4]]
def goesX (S : List Fa) (x : In) : Bool := (x.pre.all fun f => decide (f ∈ S)) && !(x.con.all fun f => decide (f ∈ S))
def stepC (S : List Fa) (s : Option In) (x : In) : Option In × Bool := if goesX S x = true then (some x, false) else (s, true)
def Yc (n : Nat) (ps : Array Tmp) (ca cb : Code) (S : List Fa) : Ys (Option In) where
 yb := ybC n ps ca cb S
 k := 6
 pos := by decide
 len := fun _ => rfl
 lt := fun s b hb x hx => by
  simp only [ybC, List.mem_cons, List.not_mem_nil, or_false] at hb
  rcases hb with rfl | rfl | rfl | rfl | rfl | rfl
  ·simp only [List.mem_singleton] at hx; subst hx
   intro p hp
   simp only [flC, List.mem_cons, List.not_mem_nil, or_false] at hp
   rcases hp with rfl | rfl | rfl <;> simp [V.ltP]
  ·cases s with
   | none => simp only [resC, List.mem_cons, List.not_mem_nil, or_false] at hx; rcases hx with rfl | rfl | rfl <;> trivial
   | some y => obtain ⟨z, _, rfl⟩ := List.mem_map.1 hx; trivial
  ·simp only [List.mem_singleton] at hx; subst hx; trivial
  ·simp only [List.mem_singleton] at hx; subst hx; simp [V.lt]
  ·have h := List.all_eq_true.1 (mseq_ltB (c := faC) (m := 6) (l := S)) x hx
   exact V.ltB_ok h
  ·simp only [List.mem_singleton] at hx; subst hx; simp [V.lt]
 step := stepC S
 mode := false
theorem futC {n : Nat} {ps : Array Tmp} {ca cb : Code} {S : List Fa} (h : ∀ x, x.pre.length ≤ 2 → x.con.length ≤ 2 → (Yc n ps ca cb S).ok G none x) : ∀ (m : List In), small2 m → Fut G (Yc n ps ca cb S) none m
 | [], _ => trivial
 | x :: m, h2 => by
  obtain ⟨hx1, hx2⟩ := h2 x (List.mem_cons_self ..)
  refine ⟨h x hx1 hx2, fun hs => ?_⟩
  change (stepC S none x).2 = true at hs
  change Fut G (Yc n ps ca cb S) (stepC S none x).1 m
  unfold stepC at hs ⊢
  split at hs
  ·cases hs
  ·rename_i hg
   rw [if_neg hg]
   exact futC h m fun y hy => h2 y (List.mem_cons_of_mem _ hy)
def firstL (S : List Fa) (m : List In) : Option In := m.find? (goesX S)
theorem runC {S : List Fa} : ∀ (m : List In), (runS (stepC S) none m).1 = firstL S m
 | [] => rfl
 | x :: m => by
  cases hg : goesX S x with
  | true =>
   have e : stepC S none x = (some x, false) := by simp [stepC, hg]
   simp [runS, e, firstL, hg]
  | false =>
   have e : stepC S none x = (none, true) := by simp [stepC, hg]
   simp only [runS, e, firstL, List.find?_cons, hg, if_true]
   exact runC m
theorem instC {p : Pol} {S : List Fa} (hp : p.types.length ≤ 9223372036854775806) (hr : p.rules.length ≤ 9223372036854775806) (h2 : small2 (allL p none)) {n : Nat} {ps : Array Tmp} {ca cb : Code} (hok : ∀ x, x.pre.length ≤ 2 → x.con.length ≤ 2 → (Yc n ps ca cb S).ok G none x) :
  FnB Tryz.prog G 53 [.yl 0, .c (.rp (poC p) 0)] (ybC n ps ca cb S none) (.tup []) (ybC n ps ca cb S (firstL S (allL p none))) := by
 have hI := Inst_ok (G := G) (Yc n ps ca cb S) p hp hr none (futC hok _ h2)
 have e : (runS (Yc n ps ca cb S).step none (allL p none)).1 = firstL S (allL p none) := runC _
 rw [e] at hI
 exact hI
theorem vrgC {p : Pol} {S : List Fa} (hp : p.types.length ≤ 9223372036854775806) (hr : p.rules.length ≤ 9223372036854775806) (hs2 : small2 (allL p none)) {tr : List Nat} {n t : Nat} {ps : Array Tmp} {ca cb : Code} {Q : VE → Vl.S → Prop} {fr : Nat → V} {bx : Nat → List V}
  (hrg : isRg tr = true) (hn : rgN tr = n) (hf : fr t = instV p) (h4 : fr 4 = .bp 1 0) (h5 : fr 5 = .bp 2 0) (h6 : fr 6 = .bp 5 0) (b1 : bx 1 = resC none) (b2 : bx 2 = [bo false]) (b3 : bx 3 = mseq faC S) (b4 : bx 4 = [.mr 3]) (b5 : bx 5 = [.bp 4 0])
  (hok : ∀ x, x.pre.length ≤ 2 → x.con.length ≤ 2 → (Yc n ps ca cb S).ok G none x)
  (hQ : ∀ bx' : Nat → List V, bx' 1 = resC (firstL S (allL p none)) → bx' 2 = [bo false] → Q (match firstL S (allL p none) with | none => .normal | some _ => .ret) ⟨fr, bx', 7⟩) : vrg Tryz.prog G tr (.tmp t) ps ca cb Q ⟨fr, bx, 6⟩ := by
 subst hn
 have hI := instC (G := G) (S := S) hp hr hs2 hok
 have setren : ∀ (ρ : Nat → Nat) (m : List Fa), (mseq faC m).map (V.ren ρ) = mseq faC m := fun ρ m => mseq_ren
 have resren : ∀ (ρ : Nat → Nat) (s : Option In), (resC s).map (V.ren ρ) = resC s := fun ρ s => by
  cases s with
  | none => rfl
  | some x => exact cells_ren
 generalize firstL S (allL p none) = L at hI hQ
 refine ⟨hrg, flCc, fun q hq => ?_, ⟨_, _, by simp only [ev, hf]; rfl⟩, ?_⟩
 ·simp only [flCc, List.mem_cons, List.not_mem_nil, or_false] at hq
  rcases hq with rfl | rfl | rfl <;> simp [h4, h5, h6, V.fz, V.isKR]
 ·unfold vcallB vcallE
  simp only [ev, hf]
  refine ⟨[6, 1, 2, 5, 3, 4], _, _, _, _, hI, rfl, ⟨rfl, by decide⟩, ?_, ?_⟩
  ·refine ⟨⟨by decide, ?_⟩, ⟨by decide, ?_⟩, ⟨by decide, ?_⟩, ⟨by decide, ?_⟩, ⟨by decide, ?_⟩, ⟨by decide, ?_⟩, trivial⟩
   ·simp [rho, up, recC, flC, flCc, V.ren, V.renP]
   ·simp [rho, up, b1, resren]
   ·simp [rho, up, b2, V.ren]
   ·simp [rho, up, b5, V.ren]
   ·simp [rho, up, b3, setren]
   ·simp [rho, up, b4, V.ren]
  ·have e6 : setBx (rho [6, 1, 2, 5, 3, 4] 7) 0 (ybC (rgN tr) ps ca cb S L) (up bx 6 [.lp (lp0 (rgN tr) ps ca cb) flCc]) 6 = [.lp (recC (rgN tr) ps ca cb L.isSome) flCc] := by
    simp [ybC, setBx, rho, up, flC, flCc, V.ren, V.renP]
   show vrgK Q 6 ⟨fr, setBx (rho [6, 1, 2, 5, 3, 4] 7) 0 (ybC (rgN tr) ps ca cb S L) (up bx 6 [.lp (lp0 (rgN tr) ps ca cb) flCc]), 7⟩
   unfold vrgK
   simp only [e6]
   have g1 : setBx (rho [6, 1, 2, 5, 3, 4] 7) 0 (ybC (rgN tr) ps ca cb S L) (up bx 6 [.lp (lp0 (rgN tr) ps ca cb) flCc]) 1 = resC L := by
    simp [ybC, setBx, rho, up, resren]
   have g2 : setBx (rho [6, 1, 2, 5, 3, 4] 7) 0 (ybC (rgN tr) ps ca cb S L) (up bx 6 [.lp (lp0 (rgN tr) ps ca cb) flCc]) 2 = [bo false] := by
    simp [ybC, setBx, rho, up, V.ren]
   cases L with
   | none =>
    refine ⟨by simp [recC, lp0], by decide, ?_⟩
    show Q .normal ⟨fr, up _ 6 _, 7⟩
    exact hQ _ ((up_ne _ _ (by decide)).trans g1) ((up_ne _ _ (by decide)).trans g2)
   | some x =>
    refine ⟨by simp [recC, lp0], by decide, ?_⟩
    show Q .ret ⟨fr, up _ 6 _, 7⟩
    exact hQ _ ((up_ne _ _ (by decide)).trans g1) ((up_ne _ _ (by decide)).trans g2)
end Go.Proofs.YthgmobkmmapgoaaGreat
/- Layer 17: Closed. -/
namespace Go.Proofs.YthgmobkmmapgoaaGreat
open Go Go.Vl
variable {G : Gl}
set_option maxRecDepth 4000
def in0 : In := ⟨0, [], []⟩
def closedF (p : Pol) (l : List Fa) : In × Bool := match firstL (newL l) (allL p none) with
 | none => (in0, true)
 | some x => (x, false)
theorem Yc_ok {n : Nat} {ps : Array Tmp} {ca cb : Code} {S : List Fa} {s : Option In} {x : In} : (Yc n ps ca cb S).ok G s x = YB Tryz.prog G [.agg (inC x)] (ybC n ps ca cb S s) (bo (stepC S s x).2) (ybC n ps ca cb S (stepC S s x).1) := if_neg (show ¬ (false = true) by decide)
theorem ltC {n : Nat} {ps : Array Tmp} {ca cb : Code} {S : List Fa} {s : Option In} : ltL 6 (ybC n ps ca cb S s) := (Yc n ps ca cb S).lt s
theorem stayC {ca cb : Code} {S : List Fa} {x : In} {bx : Nat → List V} {fr : Nat → V} (k0 : bx 0 = [.lp { lp0 26 #[12] ca cb with state := .busy } flC]) (k1 : bx 1 = resC none) (k2 : bx 2 = [bo false]) (k3 : bx 3 = [.bp 5 0]) (k4 : bx 4 = mseq faC S) (k5 : bx 5 = [.mr 4]) (hg : goesX S x = false) :
  endY 6 (bo (stepC S none x).2) (ybC 26 #[12] ca cb S (stepC S none x).1) .normal ⟨fr, bx, 7⟩ := by
 have hs : stepC S none x = (none, true) := by simp [stepC, hg]
 rw [hs]
 refine ⟨rfl, _, _, ⟨k0, show 0 < 7 by decide⟩, [], ?_⟩
 refine le_hdP (fun _ h => by cases h) ltC (Nat.le_refl _) (show 6 ≤ 7 by decide) trivial ?_
 intro i hi
 match i, hi with
 | 0, _ => simp [ybC, up, bxs, yjump, lp0, flC, recC]
 | 1, _ => simp [ybC, up, bxs, k1]
 | 2, _ => simp [ybC, up, bxs, k2]
 | 3, _ => simp [ybC, up, bxs, k3]
 | 4, _ => simp [ybC, up, bxs, k4]
 | 5, _ => simp [ybC, up, bxs, k5]
theorem stopC {ca cb : Code} {S : List Fa} {x : In} {bx : Nat → List V} {fr : Nat → V} (k0 : bx 0 = [.lp { lp0 26 #[12] ca cb with state := .busy } flC]) (k1 : bx 1 = resC (some x)) (k2 : bx 2 = [bo false]) (k3 : bx 3 = [.bp 5 0]) (k4 : bx 4 = mseq faC S) (k5 : bx 5 = [.mr 4]) (hg : goesX S x = true) :
  endY 6 (bo (stepC S none x).2) (ybC 26 #[12] ca cb S (stepC S none x).1) .ret ⟨fr, bx, 7⟩ := by
 have hs : stepC S none x = (some x, false) := by simp [stepC, hg]
 rw [hs]
 refine ⟨rfl, _, _, ⟨k0, show 0 < 7 by decide⟩, [], ?_⟩
 refine le_hdP (fun _ h => by cases h) ltC (Nat.le_refl _) (show 6 ≤ 7 by decide) trivial ?_
 intro i hi
 match i, hi with
 | 0, _ => simp [ybC, up, bxs, yjump, lp0, flC, recC]
 | 1, _ => simp [ybC, up, bxs, k1]
 | 2, _ => simp [ybC, up, bxs, k2]
 | 3, _ => simp [ybC, up, bxs, k3]
 | 4, _ => simp [ybC, up, bxs, k4]
 | 5, _ => simp [ybC, up, bxs, k5]
set_option maxHeartbeats 4000000 in
theorem Closed_ok (p : Pol) (l : List Fa) (hp : p.types.length ≤ 9223372036854775806) (hr : p.rules.length ≤ 9223372036854775806) (hs2 : small2 (allL p none)) (hll : l.length ≤ 1000000) :
  FnOK Tryz.prog G 28 [.agg (poC p), .c (fsC l)] (.tup [.agg (inC (closedF p l).1), bo (closedF p l).2]) := by
 refine FnOK_by (rs := [.cell 4 50, .cell 5 4]) true [1200000, 1300026, 1000009] mixed Tryz.func28 rfl rfl rfl rfl (by kernel_rfl) (by simp) rfl rfl ?_
 have setren : ∀ (ρ : Nat → Nat) (m : List Fa), (mseq faC m).map (V.ren ρ) = mseq faC m := fun ρ m => mseq_ren
 simp -implicitDefEqProofs only [pkA, ptA, ↓reduceIte, Nat.reduceEqDiff, Nat.reduceAdd, Nat.reduceBEq]
 refine callB_new rfl (New_okS l (by omega)) rfl ?_
 simp -implicitDefEqProofs only [pkA, ptA, ↓reduceIte, Nat.reduceEqDiff, Nat.reduceAdd, Nat.reduceBEq, Nat.reduceMul, Nat.reduceLT, Nat.reduceLeDiff, pkT, V.ren, setB_eq, setBx, setren]
 refine call_fn rfl (Instances_ok p) (fun h => by cases h) ?_
 simp -implicitDefEqProofs only [pkA, run_range]
 refine vrgC (n := 26) (S := newL l) hp hr hs2 rfl rfl rfl rfl rfl rfl (by simp [up_apply, resC]) (by simp [up_apply]) (by simp [up_apply]) (by simp [up_apply]) (by simp []) ?_ ?_
 ·intro x hx1 hx2
  rw [Yc_ok]
  refine YB_of (L := lp0 26 #[12] _ _) (fl := flC) (bs := [resC none, [bo false], [.bp 5 0], mseq faC (newL l), [.mr 4]]) [1000016, 1000021] mixed rfl rfl ?_ ?_ ?_ ?_ ?_
  ·intro q hq; simp [lp0] at hq; subst hq; decide
  ·kernel_rfl
  ·kernel_rfl
  ·refine ⟨fun y hy => ?_, ltC (s := none), Nat.le_refl _⟩
   simp only [List.mem_singleton] at hy; subst hy; trivial
  ·simp -implicitDefEqProofs only [pkA, ptA, ↓reduceIte, Nat.reduceEqDiff, Nat.reduceAdd, Nat.reduceBEq, Nat.reduceMul, Nat.reduceLT, Nat.reduceLeDiff, pkT, frY, flC, lp0, List.zip_cons_cons, List.zip_nil_right, List.foldl_cons, List.foldl_nil]
   have hx0 : ∀ a b c : V, setV [a, b, c] 0 ((inC x).map .c) = (inC x).map .c := fun _ _ _ => rfl
   have g1 : ∀ nb q (K : V → Prop), ldB nb q ((inC x).map .c) 1 K = (q < nb ∧ K (.c (fsC x.pre))) := fun _ _ _ => rfl
   have g2 : ∀ nb q (K : V → Prop), ldB nb q ((inC x).map .c) 2 K = (q < nb ∧ K (.c (fsC x.con))) := fun _ _ _ => rfl
   have gm : isMb ((inC x).map V.c) = false := rfl
   simp -implicitDefEqProofs only [pkA, ↓reduceIte, Nat.reduceEqDiff, Nat.reduceAdd, Nat.reduceBEq, hx0, g1, gm]
   refine all_call (S := newL l) (a := 4) (b := 5) (by omega) (show 4 < 7 by decide) (show 5 < 7 by decide) (by decide) (by simp [up_apply, bxs]) (by simp [up_apply, bxs]) (fun bx1 hoth h4 h5 => ?_)
   have h1 : bx1 1 = resC none := by rw [hoth 1 (by decide) (by decide)]; simp [up_apply, bxs]
   have h2 : bx1 2 = [bo false] := by rw [hoth 2 (by decide) (by decide)]; simp [up_apply, bxs]
   have h3 : bx1 3 = [.bp 5 0] := by rw [hoth 3 (by decide) (by decide)]; simp [up_apply, bxs]
   have h6 : bx1 6 = (inC x).map .c := by rw [hoth 6 (by decide) (by decide)]; simp [up_apply]
   have h0 := hoth 0 (by decide) (by decide)
   simp only [up_same, up_ne _ _ (show (0 : Nat) ≠ 6 by decide)] at h0
   simp -implicitDefEqProofs only [pkA, ↓reduceIte, Nat.reduceBEq]
   have gox : goesX (newL l) x = ((x.pre.all fun f => decide (f ∈ newL l)) && !(x.con.all fun f => decide (f ∈ newL l))) := rfl
   refine vgd_of (fun hy => ?_) (fun hn => ?_)
   ·simp -implicitDefEqProofs only [pkA, ptA, ↓reduceIte, Nat.reduceEqDiff, Nat.reduceAdd, Nat.reduceBEq, Nat.reduceMul, Nat.reduceLT, h3, h6, g2, gm]
    refine all_call (S := newL l) (a := 4) (b := 5) (by omega) (show 4 < 7 by decide) (show 5 < 7 by decide) (by decide) h4 h5 (fun bx2 hoth2 k4 k5 => ?_)
    have k0 := hoth2 0 (by decide) (by decide)
    have k1 : bx2 1 = resC none := by rw [hoth2 1 (by decide) (by decide), h1]
    have k2 : bx2 2 = [bo false] := by rw [hoth2 2 (by decide) (by decide), h2]
    have k3 : bx2 3 = [.bp 5 0] := by rw [hoth2 3 (by decide) (by decide), h3]
    have k6 : bx2 6 = (inC x).map .c := by rw [hoth2 6 (by decide) (by decide), h6]
    rw [hy, Bool.true_and] at gox
    simp -implicitDefEqProofs only [pkA, ↓reduceIte, Nat.reduceEqDiff]
    refine vcond_of (fun hz => ?_) (fun hz => ?_)
    ·have hg : goesX (newL l) x = true := by rw [gox]; exact hz
     have gl : ∀ nb q (K : V → Prop), ldA nb q ((inC x).map .c) 0 3 K = (q < nb ∧ K (.agg (inC x))) := fun nb q K => by
      unfold ldA
      exact propext ⟨fun h => ⟨h.1, h.2.2⟩, fun h => ⟨h.1, ⟨rfl, rfl⟩, h.2⟩⟩
     have m1 : isMb (resC none) = false := rfl
     have l1 : (resC none).length = 3 := rfl
     have m2 : isMb [bo false] = false := rfl
     have s1 : setV (resC none) 0 ((inC x).map .c) = (inC x).map .c := rfl
     simp -implicitDefEqProofs only [pkA, ptA, ↓reduceIte, Nat.reduceEqDiff, Nat.reduceAdd, Nat.reduceBEq, Nat.reduceMul, Nat.reduceLT, Nat.reduceLeDiff, pkT, k1, k2, k6, gm, gl, m1, l1, m2, s1]
     refine stopC ((up_ne _ _ (show (0 : Nat) ≠ 2 by decide)).trans ((up_ne _ _ (show (0 : Nat) ≠ 1 by decide)).trans (k0.trans h0))) ?_ ?_ ?_ ?_ ?_ hg <;> simp [up_apply, k3, k4, k5, resC]
    ·have hg : goesX (newL l) x = false := by rw [gox]; exact hz
     simp -implicitDefEqProofs only [pkA]
     exact stayC (k0.trans h0) k1 k2 k3 k4 k5 hg
   ·have hg : goesX (newL l) x = false := by rw [gox, hn]; rfl
    simp -implicitDefEqProofs only [pkA, ↓reduceIte, Nat.reduceEqDiff]
    exact stayC h0 h1 h2 h3 h4 h5 hg
 ·intro bx' e1 e2
  unfold closedF
  cases hL : firstL (newL l) (allL p none) with
  | none =>
   rw [hL] at e1
   have m1 : isMb (resC none) = false := rfl
   have l1 : (resC none).length = 3 := rfl
   have m2 : isMb [bo false] = false := rfl
   simp -implicitDefEqProofs only [pkA, ptA, ↓reduceIte, Nat.reduceEqDiff, Nat.reduceAdd, Nat.reduceBEq, Nat.reduceMul, Nat.reduceLT, Nat.reduceLeDiff, e1, e2, m1, l1, m2]
   have gl : ∀ nb q (K : V → Prop), ldA nb q ((inC in0).map .c) 0 3 K = (q < nb ∧ K (.agg (inC in0))) := fun nb q K => by
    unfold ldA
    exact propext ⟨fun h => ⟨h.1, h.2.2⟩, fun h => ⟨h.1, ⟨rfl, rfl⟩, h.2⟩⟩
   have s1 : setV (resC none) 0 [i64 0, .c (.sl []), .c (.sl [])] = (inC in0).map .c := rfl
   have gm : isMb ((inC in0).map V.c) = false := rfl
   rw [s1]
   refine retV_ccz ?_ ?_ <;> simp -implicitDefEqProofs only [pkA, ptA, ↓reduceIte, Nat.reduceEqDiff, Nat.reduceLT, gl, gm] <;> rfl
  | some x =>
   rw [hL] at e1
   simp -implicitDefEqProofs only [pkA]
   have gl : ∀ nb q (K : V → Prop), ldA nb q ((inC x).map .c) 0 3 K = (q < nb ∧ K (.agg (inC x))) := fun nb q K => by
    unfold ldA
    exact propext ⟨fun h => ⟨h.1, h.2.2⟩, fun h => ⟨h.1, ⟨rfl, rfl⟩, h.2⟩⟩
   have gm : isMb ((inC x).map V.c) = false := rfl
   have er : resC (some x) = (inC x).map .c := rfl
   rw [er] at e1
   refine retV_ccz ?_ ?_ <;> simp -implicitDefEqProofs only [pkA, ptA, ↓reduceIte, Nat.reduceEqDiff, Nat.reduceLT, e1, e2, gl, gm] <;> rfl
