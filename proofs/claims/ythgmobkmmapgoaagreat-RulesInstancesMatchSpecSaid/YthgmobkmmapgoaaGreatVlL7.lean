/- Layer 17: the law RulesInstancesMatchSpec, as a contract. -/
import Derived.Test.YthgmobkmmapgoaaGreatVlL6
set_option linter.unusedSimpArgs false
set_option linter.unusedVariables false
namespace Go.Proofs.YthgmobkmmapgoaaGreat
open Go Go.Vl
variable {G : Gl}
set_option maxRecDepth 10000
def flK : List (Nat × V) := [(5, .bp 2 0), (9, .bp 1 0)]
def flKc : List (Nat × V) := [(5, .bp 2 0), (9, .bp 3 0)]
def recK (n : Nat) (ps : Array Tmp) (ca cb : Code) (st : Bool) : Loop := if st = true then { lp0 n ps ca cb with state := .done, pending := some (.exit 0) } else lp0 n ps ca cb
abbrev u8 (e : Int) : V := .c (.lit (.int .u8 e))
def ybK (n : Nat) (ps : Array Tmp) (ca cb : Code) (e : Int) (s : Nat × Bool) : List (List V) := [[.lp (recK n ps ca cb s.2) flK], [i64 s.1], [u8 e]]
def stepK (e : Int) (s : Nat × Bool) (_ : In) : (Nat × Bool) × Bool := if e < (s.1 : Int) + 1 then ((s.1 + 1, true), false) else ((s.1 + 1, s.2), true)
def Yk (n : Nat) (ps : Array Tmp) (ca cb : Code) (e : Int) : Ys (Nat × Bool) where
 yb := ybK n ps ca cb e
 k := 3
 pos := by decide
 len := fun _ => rfl
 lt := fun s b hb x hx => by
  simp only [ybK, List.mem_cons, List.not_mem_nil, or_false] at hb
  rcases hb with rfl | rfl | rfl
  ·simp only [List.mem_singleton] at hx; subst hx
   intro p hp
   simp only [flK, List.mem_cons, List.not_mem_nil, or_false] at hp
   rcases hp with rfl | rfl <;> simp [V.ltP]
  all_goals simp only [List.mem_singleton] at hx; subst hx; trivial
 step := stepK e
 mode := false
theorem Yk_ok {n : Nat} {ps : Array Tmp} {ca cb : Code} {e : Int} {s : Nat × Bool} {x : In} : (Yk n ps ca cb e).ok G s x = YB Tryz.prog G [.agg (inC x)] (ybK n ps ca cb e s) (bo (stepK e s x).2) (ybK n ps ca cb e (stepK e s x).1) := if_neg (show ¬ (false = true) by decide)
theorem stepK_stop {e : Int} {k : Nat} {x : In} (h : e < (k : Int) + 1) : stepK e (k, false) x = ((k + 1, true), false) := by unfold stepK; rw [if_pos h]
theorem stepK_go {e : Int} {k : Nat} {x : In} (h : ¬ e < (k : Int) + 1) : stepK e (k, false) x = ((k + 1, false), true) := by unfold stepK; rw [if_neg h]
theorem futK {n : Nat} {ps : Array Tmp} {ca cb : Code} {e : Int} (h : ∀ (k : Nat) x, k ≤ 20000 → (Yk n ps ca cb e).ok G (k, false) x) : ∀ (m : List In) (k : Nat), k + m.length ≤ 20000 → Fut G (Yk n ps ca cb e) (k, false) m
 | [], _, _ => trivial
 | x :: m, k, hk => by
  rw [List.length_cons] at hk
  refine ⟨h k x (by omega), fun hs => ?_⟩
  change (stepK e (k, false) x).2 = true at hs
  change Fut G (Yk n ps ca cb e) (stepK e (k, false) x).1 m
  by_cases hc : e < (k : Int) + 1
  ·rw [stepK_stop hc] at hs; cases hs
  ·rw [stepK_go hc]
   exact futK h m (k + 1) (by omega)
theorem instK {p : Pol} {e : Int} (hp : p.types.length ≤ 9223372036854775806) (hr : p.rules.length ≤ 9223372036854775806) (hl : (allL p none).length ≤ 20000) {n : Nat} {ps : Array Tmp} {ca cb : Code} (hok : ∀ (k : Nat) x, k ≤ 20000 → (Yk n ps ca cb e).ok G (k, false) x) :
  ∃ s, FnB Tryz.prog G 53 [.yl 0, .c (.rp (poC p) 0)] (ybK n ps ca cb e (0, false)) (.tup []) (ybK n ps ca cb e s) :=
 ⟨_, Inst_ok (G := G) (Yk n ps ca cb e) p hp hr (0, false) (futK hok _ 0 (by omega))⟩
theorem vrgKk {p : Pol} {e : Int} (hp : p.types.length ≤ 9223372036854775806) (hr : p.rules.length ≤ 9223372036854775806) (hl : (allL p none).length ≤ 20000) {tr : List Nat} {n t : Nat} {ps : Array Tmp} {ca cb : Code} {Q : VE → Vl.S → Prop} {fr : Nat → V} {bx : Nat → List V}
  (hrg : isRg tr = true) (hn : rgN tr = n) (hf : fr t = instV p) (h5 : fr 5 = .bp 2 0) (h9 : fr 9 = .bp 3 0) (b2 : bx 2 = [u8 e]) (b3 : bx 3 = [i64 0])
  (hok : ∀ (k : Nat) x, k ≤ 20000 → (Yk n ps ca cb e).ok G (k, false) x)
  (hQ : ∀ (ex : Bool) (bx' : Nat → List V), bx' 0 = bx 0 → bx' 1 = bx 1 → Q (if ex then .exit 0 else .normal) ⟨fr, bx', 5⟩) : vrg Tryz.prog G tr (.tmp t) ps ca cb Q ⟨fr, bx, 4⟩ := by
 subst hn
 obtain ⟨⟨k1, st⟩, hI⟩ := instK (G := G) hp hr hl hok
 refine ⟨hrg, flKc, fun q hq => ?_, ⟨_, _, by simp only [ev, hf]; rfl⟩, ?_⟩
 ·simp only [flKc, List.mem_cons, List.not_mem_nil, or_false] at hq
  rcases hq with rfl | rfl <;> simp [h5, h9, V.fz, V.isKR]
 ·unfold vcallB vcallE
  simp only [ev, hf]
  refine ⟨[4, 3, 2], _, _, _, _, hI, rfl, ⟨rfl, by decide⟩, ?_, ?_⟩
  ·refine ⟨⟨by decide, ?_⟩, ⟨by decide, ?_⟩, ⟨by decide, ?_⟩, trivial⟩
   ·simp [rho, up, recK, flK, flKc, V.ren, V.renP]
   ·simp [rho, up, b3, V.ren]
   ·simp [rho, up, b2, V.ren]
  ·have e4 : setBx (rho [4, 3, 2] 5) 0 (ybK (rgN tr) ps ca cb e (k1, st)) (up bx 4 [.lp (lp0 (rgN tr) ps ca cb) flKc]) 4 = [.lp (recK (rgN tr) ps ca cb st) flKc] := by
    simp [ybK, setBx, rho, up, flK, flKc, V.ren, V.renP]
   show vrgK Q 4 ⟨fr, setBx (rho [4, 3, 2] 5) 0 (ybK (rgN tr) ps ca cb e (k1, st)) (up bx 4 [.lp (lp0 (rgN tr) ps ca cb) flKc]), 5⟩
   unfold vrgK
   simp only [e4]
   have g0 : setBx (rho [4, 3, 2] 5) 0 (ybK (rgN tr) ps ca cb e (k1, st)) (up bx 4 [.lp (lp0 (rgN tr) ps ca cb) flKc]) 0 = bx 0 := by simp [ybK, setBx, rho, up]
   have g1 : setBx (rho [4, 3, 2] 5) 0 (ybK (rgN tr) ps ca cb e (k1, st)) (up bx 4 [.lp (lp0 (rgN tr) ps ca cb) flKc]) 1 = bx 1 := by simp [ybK, setBx, rho, up]
   cases st with
   | false =>
    refine ⟨by simp [recK, lp0], by decide, ?_⟩
    show Q .normal ⟨fr, up _ 4 _, 5⟩
    exact hQ false _ ((up_ne _ _ (by decide)).trans g0) ((up_ne _ _ (by decide)).trans g1)
   | true =>
    refine ⟨by simp [recK, lp0], by decide, ?_⟩
    show Q (.exit 0) ⟨fr, up _ 4 _, 5⟩
    exact hQ true _ ((up_ne _ _ (by decide)).trans g0) ((up_ne _ _ (by decide)).trans g1)
theorem conv_u8i {e : Int} {K : V → Prop} : vconv Tryz.prog 5 3 (u8 e) K = K (i64 (IntKind.i64.wrap e)) := by
 simp only [vconv, ti_5, ti_3]
theorem all_sm {p : Pol} {o : Option Fa} : ∀ x ∈ allL p o, InSm x := fun x hx => by
 have := small2_all x hx
 exact ⟨by omega, by omega⟩
set_option maxHeartbeats 4000000 in
theorem lawInst_ok (p : Pol) (f : Fa) (e : Int) (he : 0 ≤ e ∧ e ≤ 255) : FnOK Tryz.prog G 4 [.agg (poC p), .agg (faC f), .c (.lit (.int .u8 e))] (bo true) := by
 refine FnOK_by (rs := [.tmp 6]) false [1200000, 1300067] mixed Tryz.func4 rfl rfl rfl rfl (by kernel_rfl) (by simp) rfl rfl ?_
 simp -implicitDefEqProofs only [pkA, ↓reduceIte, Nat.reduceEqDiff, Nat.reduceAdd, Nat.reduceBEq]
 refine call_fn rfl sanity_ok (fun _ => rfl) ?_
 simp -implicitDefEqProofs only [pkA, ptA, ↓reduceIte, Nat.reduceEqDiff, Nat.reduceAdd, Nat.reduceBEq, Nat.reduceMul, Nat.reduceLT, pkE]
 refine call_fn rfl (Small_ok p) (fun _ => rfl) ?_
 cases hs : (decide ((p.types.length : Int) ≤ 7) && decide ((p.rules.length : Int) ≤ 14))
 ·simp -implicitDefEqProofs only [pkA, ↓reduceIte, Nat.reduceEqDiff, Nat.reduceAdd, Nat.reduceBEq]
 have hs : (p.types.length : Int) ≤ 7 ∧ (p.rules.length : Int) ≤ 14 := by simpa using hs
 have hs1 : p.types.length ≤ 7 := by omega
 have hs2 : p.rules.length ≤ 14 := by omega
 simp -implicitDefEqProofs only [pkA, ptA, ↓reduceIte, Nat.reduceEqDiff, Nat.reduceAdd, Nat.reduceBEq, Nat.reduceMul, Nat.reduceLT, pkE]
 have hlen := @allL_len p none hs1 (by omega)
 have hlenf := @allL_len p (some f) hs1 (by omega)
 refine call_fn rfl (Instances_ok p) (fun h => by cases h) ?_
 simp -implicitDefEqProofs only [pkA, ptA, ↓reduceIte, Nat.reduceEqDiff, Nat.reduceAdd, Nat.reduceBEq, Nat.reduceMul, Nat.reduceLT, Nat.reduceLeDiff, nil_inst, instV_fz, instV_ow, run_range]
 refine vrgKk (n := 67) (e := e) (by omega) (by omega) hlen rfl rfl rfl rfl rfl (by simp [up_apply]) (by simp []) ?_ ?_
 ·intro k x hk
  rw [Yk_ok]
  refine YB_of (L := lp0 67 #[30] _ _) (fl := flK) (bs := [[i64 k], [u8 e]]) [] mixed rfl rfl ?_ ?_ ?_ ?_ ?_
  ·intro q hq; simp [lp0] at hq; subst hq; decide
  ·kernel_rfl
  ·kernel_rfl
  ·refine ⟨fun y hy => ?_, (Yk 67 #[30] _ _ e).lt (k, false), Nat.le_refl _⟩
   simp only [List.mem_singleton] at hy; subst hy; trivial
  ·have hw := wrap_of (n := (k : Int) + 1) (k := k + 1) (by omega) (by omega)
   have hwe : IntKind.i64.wrap e = e := wrap_i64 _ (by omega)
   simp -implicitDefEqProofs only [pkA, ptA, ↓reduceIte, Nat.reduceEqDiff, Nat.reduceAdd, Nat.reduceMul, Nat.reduceLT, Nat.reduceLeDiff, frY, flK, lp0, List.zip_cons_cons, List.zip_nil_right, List.foldl_cons, List.foldl_nil, hw, hwe, conv_u8i]
   refine vcond_of (fun hc => ?_) (fun hc => ?_)
   ·have hc' : e < (k : Int) + 1 := by simpa using hc
    rw [stepK_stop hc']
    simp -implicitDefEqProofs only [pkA, ↓reduceIte, Nat.reduceEqDiff]
    refine ⟨rfl, _, _, ⟨rfl, show 0 < 3 by decide⟩, [], ?_⟩
    refine le_hdP (fun _ h => by cases h) ((Yk 67 #[30] _ _ e).lt (k + 1, true)) (Nat.le_refl _) (Nat.le_refl _) trivial ?_
    intro i hi
    match i, hi with
    | 0, _ => simp [ybK, up, bxs, yjump, lp0, flK, recK]
    | 1, _ => simp [ybK, up, bxs]
    | 2, _ => simp [ybK, up, bxs]
   ·have hc' : ¬ e < (k : Int) + 1 := by simpa using hc
    rw [stepK_go hc']
    simp -implicitDefEqProofs only [pkA]
    refine ⟨rfl, _, _, ⟨rfl, show 0 < 3 by decide⟩, [], ?_⟩
    refine le_hdP (fun _ h => by cases h) ((Yk 67 #[30] _ _ e).lt (k + 1, false)) (Nat.le_refl _) (Nat.le_refl _) trivial ?_
    intro i hi
    match i, hi with
    | 0, _ => simp [ybK, up, bxs, yjump, lp0, flK, recK]
    | 1, _ => simp [ybK, up, bxs]
    | 2, _ => simp [ybK, up, bxs]
 ·intro ex bx' e0 e1
  have e0 : bx' 0 = (poC p).map .c := by rw [e0]; simp [up_apply]
  have e1 : bx' 1 = (faC f).map .c := by rw [e1]; simp [up_apply]
  cases ex
  all_goals
   simp -implicitDefEqProofs only [pkA, ptA, ↓reduceIte, Nat.reduceEqDiff, Nat.reduceAdd, Nat.reduceBEq, Nat.reduceMul, Nat.reduceLT, pkE, e0]
   refine call_fn rfl (all_ok p (by omega) (by omega) hlen) (fun h => by cases h) ?_
   simp -implicitDefEqProofs only [pkA, ptA, ↓reduceIte, Nat.reduceEqDiff, Nat.reduceAdd, Nat.reduceBEq, Nat.reduceMul, Nat.reduceLT, pkE, e0, e1]
   refine call_fn rfl (using_ok p f (by omega) (by omega) hlenf) (fun h => by cases h) ?_
   simp -implicitDefEqProofs only [pkA, ptA, ↓reduceIte, Nat.reduceEqDiff, Nat.reduceAdd, Nat.reduceBEq, Nat.reduceMul, Nat.reduceLT, pkE, e0]
   refine call_fn («as» := [.agg (poC p)]) rfl (rInst_k p (by omega) (by omega) hlen) (fun h => by cases h) ?_
   simp -implicitDefEqProofs only [pkA, ↓reduceIte, Nat.reduceEqDiff, Nat.reduceAdd, Nat.reduceBEq]
   refine call_fn («as» := [.c (insC (allL p none)), .c (insC (allL p none))]) rfl (lawsame_ok _ _ (by omega) all_sm all_sm) (fun _ => rfl) ?_
   rw [decide_eq_true rfl]
   simp -implicitDefEqProofs only [pkA, ptA, ↓reduceIte, Nat.reduceEqDiff, Nat.reduceAdd, Nat.reduceBEq, Nat.reduceMul, Nat.reduceLT, pkE, e0, e1]
   refine call_fn («as» := [.agg (poC p), .agg (faC f)]) rfl (rUsing_ok p f (by omega) (by omega) hlen small2_all) (fun h => by cases h) ?_
   rw [uses_twin]
   simp -implicitDefEqProofs only [pkA, ↓reduceIte, Nat.reduceEqDiff, Nat.reduceAdd, Nat.reduceBEq]
   refine call_fn («as» := [.c (insC (allL p (some f))), .c (insC (allL p (some f)))]) rfl (lawsame_ok _ _ (by omega) all_sm all_sm) (fun _ => rfl) ?_
   rw [decide_eq_true rfl]
   simp -implicitDefEqProofs only [pkA, ↓reduceIte, Nat.reduceEqDiff, Nat.reduceAdd, Nat.reduceBEq]
