/- Law 17: all and using: the caller of an iterator that collects what comes, up to a bound. -/
import Derived.Test.YthgmobkmmapgoaaGreatVlEb
import Derived.Test.YthgmobkmmapgoaaGreatVlEnv
set_option linter.unusedSimpArgs false
set_option linter.unusedVariables false
namespace Go.Proofs.YthgmobkmmapgoaaGreat
open Go Go.Vl
variable {G : Gl}
set_option maxRecDepth 4000
def outV (l : List In) : V := .ow (if l.isEmpty then none else some (50, 3)) (l.map inC)
def flA : List (Nat × V) := [(2, .bp 1 0), (3, .bp 2 0), (5, .bp 3 0)]
def recA (n : Nat) (ps : Array Tmp) (ca cb : Code) (st : Bool) : Loop := if st = true then { lp0 n ps ca cb with state := .done, pending := some .ret } else lp0 n ps ca cb
def ybA (n : Nat) (ps : Array Tmp) (ca cb : Code) (s : List In × Bool) : List (List V) := [[.lp (recA n ps ca cb s.2) flA], [.ow none []], [bo false], [outV s.1]]
def stepA (s : List In × Bool) (x : In) : (List In × Bool) × Bool := if 20000 < s.1.length + 1 then ((s.1 ++ [x], true), false) else ((s.1 ++ [x], s.2), true)
def Ya (n : Nat) (ps : Array Tmp) (ca cb : Code) : Ys (List In × Bool) where
 yb := ybA n ps ca cb
 k := 4
 pos := by decide
 len := fun _ => rfl
 lt := fun s b hb x hx => by
  simp only [ybA, List.mem_cons, List.not_mem_nil, or_false] at hb
  rcases hb with rfl | rfl | rfl | rfl
  ·simp only [List.mem_singleton] at hx; subst hx
   intro p hp
   simp only [flA, List.mem_cons, List.not_mem_nil, or_false] at hp
   rcases hp with rfl | rfl | rfl <;> simp [V.ltP]
  all_goals simp only [List.mem_singleton] at hx; subst hx; trivial
 step := stepA
 mode := false
theorem stepA_go {l : List In} {x : In} (h : l.length < 20000) : stepA (l, false) x = ((l ++ [x], false), true) := by
 unfold stepA; rw [if_neg (by simp only; omega)]
theorem stepA_stop {l : List In} {x : In} (h : ¬ l.length < 20000) : stepA (l, false) x = ((l ++ [x], true), false) := by
 unfold stepA; rw [if_pos (by simp only; omega)]
theorem futA {n : Nat} {ps : Array Tmp} {ca cb : Code} (h : ∀ l x, l.length ≤ 20000 → (Ya n ps ca cb).ok G (l, false) x) : ∀ (m l : List In), l.length ≤ 20000 → Fut G (Ya n ps ca cb) (l, false) m
 | [], _, _ => trivial
 | x :: m, l, hl => by
  refine ⟨h l x hl, fun hs => ?_⟩
  change (stepA (l, false) x).2 = true at hs
  change Fut G (Ya n ps ca cb) (stepA (l, false) x).1 m
  by_cases hlt : l.length < 20000
  ·rw [stepA_go hlt]
   exact futA h m _ (by simp only [List.length_append, List.length_cons, List.length_nil]; omega)
  ·rw [stepA_stop hlt] at hs; cases hs
theorem runA : ∀ (m l : List In), l.length + m.length ≤ 20000 → runS stepA (l, false) m = ((l ++ m, false), true)
 | [], l, _ => by simp [runS]
 | x :: m, l, hl => by
  simp only [List.length_cons] at hl
  simp only [runS]
  rw [stepA_go (by omega), if_pos rfl, runA m _ (by simp only [List.length_append, List.length_cons, List.length_nil]; omega)]
  simp
end Go.Proofs.YthgmobkmmapgoaaGreat
/- Law 17: all. -/
namespace Go.Proofs.YthgmobkmmapgoaaGreat
open Go Go.Vl
variable {G : Gl}
set_option maxRecDepth 4000
theorem run_range {P : Program} {G : Gl} {tr : List Nat} {k0 : Nat} {f : Operand} {ps : Array Tmp} {ca cb : Code} {Q : VE → S → Prop} {fr : Nat → V} {bx : Nat → List V} {nb : Nat} : vwpK P G tr k0 (.rangeFunc f ps ca cb) Q ⟨fr, bx, nb⟩ = vrg P G tr f ps ca cb Q ⟨fr, bx, nb⟩ := rfl
theorem nil_inst {p : Pol} {K : V → Prop} : vnilP Tryz.prog .eql 38 true (instV p) K = K (bo false) := vnilP_eq (b := false) rfl (by kernel_rfl)
theorem instV_fz {p : Pol} : (instV p).fz = instV p := rfl
theorem instV_ow {p : Pol} : (instV p).isOw = false := rfl
theorem futA0 {n : Nat} {ps : Array Tmp} {ca cb : Code} (h : ∀ l x, l.length ≤ 20000 → (Ya n ps ca cb).ok G (l, false) x) (m : List In) : Fut G (Ya n ps ca cb) ([], false) m := futA h m [] (Nat.zero_le _)
theorem runA0 {n : Nat} {ps : Array Tmp} {ca cb : Code} (m : List In) (h : m.length ≤ 20000) : runS (Ya n ps ca cb).step ([], false) m = ((m, false), true) := by
 have := runA m [] (by rw [List.length_nil, Nat.zero_add]; exact h)
 rw [List.nil_append] at this
 exact this
theorem instA {p : Pol} (hp : p.types.length ≤ 9223372036854775806) (hr : p.rules.length ≤ 9223372036854775806) (hl : (allL p none).length ≤ 20000) {n : Nat} {ps : Array Tmp} {ca cb : Code} (hok : ∀ l x, l.length ≤ 20000 → (Ya n ps ca cb).ok G (l, false) x) :
  FnB Tryz.prog G 53 [.yl 0, .c (.rp (poC p) 0)] (ybA n ps ca cb ([], false)) (.tup []) (ybA n ps ca cb (allL p none, false)) := by
 have hI := Inst_ok (G := G) (Ya n ps ca cb) p hp hr ([], false) (futA0 hok _)
 rw [runA0 _ hl] at hI
 exact hI
theorem vrgA {p : Pol} (hp : p.types.length ≤ 9223372036854775806) (hr : p.rules.length ≤ 9223372036854775806) (hl : (allL p none).length ≤ 20000) {tr : List Nat} {n t : Nat} {ps : Array Tmp} {ca cb : Code} {Q : VE → S → Prop} {fr : Nat → V} {bx : Nat → List V}
  (hrg : isRg tr = true) (hn : rgN tr = n) (hf : fr t = instV p) (h2 : fr 2 = .bp 1 0) (h3 : fr 3 = .bp 2 0) (h5 : fr 5 = .bp 3 0) (b1 : bx 1 = [.ow none []]) (b2 : bx 2 = [bo false]) (b3 : bx 3 = [.ow none []])
  (hok : ∀ l x, l.length ≤ 20000 → (Ya n ps ca cb).ok G (l, false) x)
  (hQ : ∀ bx' : Nat → List V, bx' 1 = [.ow none []] → bx' 2 = [bo false] → bx' 3 = [outV (allL p none)] → Q .normal ⟨fr, bx', 5⟩) : vrg Tryz.prog G tr (.tmp t) ps ca cb Q ⟨fr, bx, 4⟩ := by
 subst hn
 have hI := instA (G := G) hp hr hl hok
 generalize allL p none = L at hI hQ hl
 refine ⟨hrg, flA, fun q hq => ?_, ⟨_, _, by simp only [ev, hf]; rfl⟩, ?_⟩
 ·simp only [flA, List.mem_cons, List.not_mem_nil, or_false] at hq
  rcases hq with rfl | rfl | rfl <;> simp [h2, h3, h5, V.fz, V.isKR]
 ·unfold vcallB vcallE
  simp only [ev, hf]
  refine ⟨[4, 1, 2, 3], _, _, _, _, hI, rfl, ⟨rfl, by decide⟩, ?_, ?_⟩
  ·refine ⟨⟨by decide, ?_⟩, ⟨by decide, ?_⟩, ⟨by decide, ?_⟩, ⟨by decide, ?_⟩, trivial⟩
   ·simp [rho, up, recA, flA, V.ren, V.renP]
   ·simp [rho, up, b1, V.ren]
   ·simp [rho, up, b2, V.ren]
   ·simp [rho, up, b3, V.ren, outV]
  ·have e4 : setBx (rho [4, 1, 2, 3] 5) 0 (ybA (rgN tr) ps ca cb (L, false)) (up bx 4 [.lp (lp0 (rgN tr) ps ca cb) flA]) 4 = [.lp (lp0 (rgN tr) ps ca cb) flA] := by
    simp [ybA, setBx, rho, up, recA, flA, V.ren, V.renP]
   show vrgK Q 4 ⟨fr, setBx (rho [4, 1, 2, 3] 5) 0 (ybA (rgN tr) ps ca cb (L, false)) (up bx 4 [.lp (lp0 (rgN tr) ps ca cb) flA]), 5⟩
   unfold vrgK
   simp only [e4]
   refine ⟨by simp [lp0], by decide, ?_⟩
   show Q .normal ⟨fr, up _ 4 _, 5⟩
   refine hQ _ ?_ ?_ ?_
   ·simp [ybA, setBx, rho, up, V.ren]
   ·simp [ybA, setBx, rho, up, V.ren]
   ·simp [ybA, setBx, rho, up, V.ren, outV]
theorem retV_ccz {P : Program} {fr : Nat → V} {bx : Nat → List V} {nb : Nat} {d e : V} {p q : Tmp} {T U : TypeId} (h1 : vload P T ⟨fr, bx, nb⟩ (fr p) fun v => imm ⟨fr, bx, nb⟩ v = some d) (h2 : vload P U ⟨fr, bx, nb⟩ (fr q) fun v => imm ⟨fr, bx, nb⟩ v = some e) : retV P true ⟨fr, bx, nb⟩ (.tup [d, e]) [.cell p T, .cell q U] := by
 refine ⟨_, rfl, rfl, fun i R x hR hx => ?_⟩
 match i with
 | 0 => simp only [List.getElem?_cons_zero, Option.some.injEq] at hR hx; subst hR; subst hx; simpa [resV, endR1] using h1
 | 1 => simp only [List.getElem?_cons_succ, List.getElem?_cons_zero, Option.some.injEq] at hR hx; subst hR; subst hx; simpa [resV, endR1] using h2
 | n + 2 => simp at hR
theorem gh_app {P : Program} {G : Gl} {s : S} {t d y : Nat} {v : Value} {E : Option (TypeId × Nat)} {es : List (List C)} {ts : List TypeId} {K : V → Prop} (h1 : s.fr t = .c (.ex v)) (h2 : s.fr d = .gh v E es) (h0 : t ≠ d ∧ y ≠ t ∧ y ≠ d) (h : vbuiltin P .append ts [.ow E es, vw s (s.fr y)] K) :
  vghost P G s (some d) ts [.tmp t, .tmp y] K := by
 unfold vghost
 simp only [h1, h2]
 exact ⟨⟨h0.1, trivial, fun e => h0.2.1 (by cases e; rfl), fun e => h0.2.2 (by cases e; rfl)⟩, h⟩
theorem Ya_step {n : Nat} {ps : Array Tmp} {ca cb : Code} : (Ya n ps ca cb).step = stepA := rfl
theorem Ya_yb {n : Nat} {ps : Array Tmp} {ca cb : Code} : (Ya n ps ca cb).yb = ybA n ps ca cb := rfl
theorem all_ok (p : Pol) (hp : p.types.length ≤ 9223372036854775806) (hr : p.rules.length ≤ 9223372036854775806) (hl : (allL p none).length ≤ 20000) :
  FnOK Tryz.prog G 22 [.agg (poC p)] (.tup [.c (.sl ((allL p none).map inC)), bo true]) := by
 refine FnOK_by (rs := [.cell 2 40, .cell 3 4]) true [1200000, 1300021] mixed Tryz.func22 rfl rfl rfl rfl (by kernel_rfl) (by simp) rfl rfl ?_
 simp -implicitDefEqProofs only [pkA, ptA, ↓reduceIte, Nat.reduceEqDiff, Nat.reduceAdd, Nat.reduceBEq, Nat.reduceMul, Nat.reduceLT, pkE]
 refine call_fn rfl (Instances_ok p) (fun h => by cases h) ?_
 simp -implicitDefEqProofs only [pkA, ptA, ↓reduceIte, Nat.reduceEqDiff, Nat.reduceAdd, Nat.reduceBEq, nil_inst, instV_fz, instV_ow, run_range]
 refine vrgA (n := 21) hp hr hl rfl rfl rfl rfl rfl rfl rfl rfl rfl ?_ ?_
 ·intro l x hlx
  unfold Ys.ok
  rw [if_neg (by decide)]
  refine YB_of (L := lp0 21 #[12] _ _) (fl := flA) (bs := [[.ow none []], [bo false], [outV l]]) [2300007, 2400016] mixed rfl rfl ?_ ?_ ?_ ?_ ?_
  ·intro q hq; simp [lp0] at hq; subst hq; decide
  ·kernel_rfl
  ·kernel_rfl
  ·refine ⟨fun y hy => ?_, (Ya 21 #[12] _ _).lt (l, false), Nat.le_refl _⟩
   simp only [List.mem_singleton] at hy; subst hy; trivial
  ·simp -implicitDefEqProofs only [pkA, ptA, ↓reduceIte, Nat.reduceEqDiff, Nat.reduceAdd, Nat.reduceBEq, Nat.reduceMul, Nat.reduceLT, Nat.reduceLeDiff, pkE, frY, flA, lp0, List.zip_cons_cons, List.zip_nil_right, List.foldl_cons, List.foldl_nil]
   refine spl_of 3 0 16 (E := if l.isEmpty then none else some (50, 3)) (es := l.map inC) rfl (show 3 < 5 by decide) rfl rfl ?_
   intro v
   have q1 : ∀ a b c : V, setV [a, b, c] 0 ((inC x).map .c) = (inC x).map .c := fun _ _ _ => rfl
   have q2 : isMb ((inC x).map V.c) = false := rfl
   have q3 : ∀ K, ldA 5 4 ((inC x).map V.c) 0 3 K = K (.agg (inC x)) := fun K => by
    unfold ldA
    exact propext ⟨fun h => h.2.2, fun h => ⟨by decide, ⟨rfl, rfl⟩, h⟩⟩
   simp -implicitDefEqProofs only [q1, q2, q3, true_and, pkA, ptA, ↓reduceIte, Nat.reduceEqDiff, Nat.reduceAdd, Nat.reduceBEq, Nat.reduceMul, Nat.reduceLT, Nat.reduceLeDiff, pkE, S.split, isGh_some, outV]
   refine gh_app (v := v) (E := if l.isEmpty then none else some (50, 3)) (es := l.map inC) rfl rfl (by decide) ?_
   simp -implicitDefEqProofs only [true_and, pkA, ptA, ↓reduceIte, Nat.reduceEqDiff, Nat.reduceAdd, Nat.reduceBEq, Nat.reduceMul, Nat.reduceLT, Nat.reduceLeDiff, app_40]
   have hE : (if (l ++ [x]).isEmpty then none else some (50, 3)) = some (50, 3) := by simp
   have hlen : ((l.map inC ++ [inC x]).length : Int) = (l.length : Int) + 1 := by simp
   refine ⟨⟨by cases l <;> simp, by simp [inC]⟩, ⟨by simp; omega, by simp; omega, by simp [inC]⟩, vcond_of (fun hc => ?_) (fun hc => ?_)⟩
   ·have hlt : ¬ l.length < 20000 := by rw [hlen] at hc; simp at hc; omega
    have hs : stepA (l, false) x = ((l ++ [x], true), false) := stepA_stop hlt
    rw [Ya_step, Ya_yb, hs]
    simp -implicitDefEqProofs only [true_and, pkA, ptA, ↓reduceIte, Nat.reduceEqDiff, Nat.reduceAdd, Nat.reduceBEq, Nat.reduceMul, Nat.reduceLT]
    refine ⟨⟨show 1 < 5 by decide, rfl, by simp [up, bxs]⟩, ?_⟩
    simp -implicitDefEqProofs only [true_and, pkA, ptA, ↓reduceIte, Nat.reduceEqDiff, Nat.reduceAdd, Nat.reduceBEq, Nat.reduceMul, Nat.reduceLT, Nat.reduceLeDiff]
    refine ⟨rfl, _, _, ⟨rfl, show 0 < 5 by decide⟩, [], ?_⟩
    refine le_hdP (fun _ h => by cases h) ((Ya 21 #[12] _ _).lt (l ++ [x], true)) (Nat.le_refl _) (show 4 ≤ 5 by decide) trivial ?_
    intro i hi
    match i, hi with
    | 0, _ => simp [ybA, up, bxs, recA, yjump, lp0, flA]
    | 1, _ => simp [ybA, up, bxs]
    | 2, _ => simp [ybA, up, bxs]
    | 3, _ => simp [ybA, up, bxs, outV]
   ·have hlt : l.length < 20000 := by rw [hlen] at hc; simp at hc; omega
    have hs : stepA (l, false) x = ((l ++ [x], false), true) := stepA_go hlt
    rw [Ya_step, Ya_yb, hs]
    simp -implicitDefEqProofs only [pkA]
    refine ⟨rfl, _, _, ⟨rfl, show 0 < 5 by decide⟩, [], ?_⟩
    refine le_hdP (fun _ h => by cases h) ((Ya 21 #[12] _ _).lt (l ++ [x], false)) (Nat.le_refl _) (show 4 ≤ 5 by decide) trivial ?_
    intro i hi
    match i, hi with
    | 0, _ => simp [ybA, up, bxs, recA, yjump, lp0, flA]
    | 1, _ => simp [ybA, up, bxs]
    | 2, _ => simp [ybA, up, bxs]
    | 3, _ => simp [ybA, up, bxs, outV]
 ·intro bx' e1 e2 e3
  cases hE : (allL p none).isEmpty
  ·simp -implicitDefEqProofs only [pkA, ptA, ↓reduceIte, Nat.reduceEqDiff, Nat.reduceAdd, Nat.reduceBEq, Nat.reduceMul, Nat.reduceLT, Nat.reduceLeDiff, e1, e2, e3, outV, hE]
   refine retV_ccz ?_ ?_ <;> simp -implicitDefEqProofs only [pkA, ptA, ↓reduceIte, Nat.reduceEqDiff, Nat.reduceLT] <;> rfl
  ·simp -implicitDefEqProofs only [pkA, ptA, ↓reduceIte, Nat.reduceEqDiff, Nat.reduceAdd, Nat.reduceBEq, Nat.reduceMul, Nat.reduceLT, Nat.reduceLeDiff, e1, e2, e3, outV, hE]
   refine retV_ccz ?_ ?_ <;> simp -implicitDefEqProofs only [pkA, ptA, ↓reduceIte, Nat.reduceEqDiff, Nat.reduceLT] <;> rfl
