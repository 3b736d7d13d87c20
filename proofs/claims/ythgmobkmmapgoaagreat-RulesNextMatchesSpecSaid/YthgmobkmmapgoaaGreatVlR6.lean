/- Layer 17, the specification: the list of instances in the making. -/
import Derived.Test.YthgmobkmmapgoaaGreatVlR4
set_option linter.unusedSimpArgs false
set_option linter.unusedVariables false
namespace Go.Proofs.YthgmobkmmapgoaaGreat
open Go Go.Vl
variable {G : Gl}
set_option maxRecDepth 4000
def owI (l : List In) : V := .ow (if l.isEmpty then none else some (50, 3)) (l.map inC)
theorem appI1 {l : List In} {x : In} {K : V → Prop} (h : l.length + 1 ≤ 1000000000) (hK : K (owI (l ++ [x]))) : vappend Tryz.prog 40 (owI l) (.c (.sl [inC x])) K := by
 unfold owI
 rw [app_40]
 refine ⟨⟨by cases l <;> simp, len_map inC_len _⟩, ⟨by simp only [List.length_map, List.length_singleton]; omega, by simp only [List.length_map, List.length_singleton]; omega, by simp [inC]⟩, ?_⟩
 have e : (if [inC x].isEmpty = true then (if l.isEmpty = true then none else some (50, 3)) else some (50, 3)) = if (l ++ [x]).isEmpty = true then none else some (50, 3) := by
  cases l <;> simp
 have e2 : l.map inC ++ [inC x] = (l ++ [x]).map inC := by simp
 rw [e, e2]; exact hK
def owN (l : List Nat) : V := .ow (if l.isEmpty then none else some (3, 1)) (l.map fun (t : Nat) => [cI t])
theorem owN_fz {l : List Nat} : (owN l).fz = .c (.sl (l.map fun (t : Nat) => [cI t])) := rfl
theorem owN_ow {l : List Nat} : (owN l).isOw = true := rfl
theorem appN1 {l : List Nat} {x : Nat} {K : V → Prop} (h : l.length + 1 ≤ 1000000000) (hK : K (owN (l ++ [x]))) : vappend Tryz.prog 71 (owN l) (.c (.sl [[cI x]])) K := by
 unfold owN
 rw [app_71]
 refine ⟨⟨by cases l <;> simp, fun e he => by obtain ⟨x, _, rfl⟩ := List.mem_map.1 he; rfl⟩, ⟨by simp only [List.length_map, List.length_singleton]; omega, by simp only [List.length_map, List.length_singleton]; omega, by simp⟩, ?_⟩
 have e : (if [[cI (x : Int)]].isEmpty = true then (if l.isEmpty = true then none else some (3, 1)) else some (3, 1)) = if (l ++ [x]).isEmpty = true then none else some (3, 1) := by
  cases l <;> simp
 have e2 : (l.map fun (t : Nat) => [cI t]) ++ [[cI (x : Int)]] = (l ++ [x]).map fun (t : Nat) => [cI t] := by simp
 rw [e, e2]; exact hK
def lbx (p : Pol) (es : List In) : List V := [.c (cS p.name), .c (.sl (p.types.map tyC)), .c (.sl (p.rules.map ruC)), .c (.sl (p.quorums.map quC)), i64 p.types.length, owI es]
section
variable {p : Pol} {es : List In} {nb q : Nat} {K : V → Prop}
theorem lbx_p : ldA nb q (lbx p es) 0 4 K = (q < nb ∧ K (.agg (poC p))) := by
 unfold ldA
 exact propext ⟨fun h => ⟨h.1, h.2.2⟩, fun h => ⟨h.1, ⟨rfl, rfl⟩, h.2⟩⟩
theorem lbx_r : ldB nb q (lbx p es) 2 K = (q < nb ∧ K (.c (.sl (p.rules.map ruC)))) := rfl
theorem lbx_n : ldB nb q (lbx p es) 4 K = (q < nb ∧ K (i64 p.types.length)) := rfl
theorem lbx_mb : isMb (lbx p es) = false := rfl
theorem lbx_ltB {m : Nat} : (lbx p es).all (fun x => x.ltB m) = true := rfl
end
theorem pkL1 : type_of% (And.intro @pkI (And.intro @lbx_p (And.intro @lbx_r (And.intro @lbx_n (And.intro @lbx_mb (And.intro @owN_fz (@owN_ow))))))) := And.intro @pkI (And.intro @lbx_p (And.intro @lbx_r (And.intro @lbx_n (And.intro @lbx_mb (And.intro @owN_fz (@owN_ow))))))
theorem lbx_ok {p : Pol} {es : List In} {xs : List V} (h : xs.all (fun x => x.ltB 1) = true) : xargsOk xs [lbx p es] = true := by
 simp only [xargsOk, List.all_cons, List.all_nil, lbx_ltB, List.length_cons, List.length_nil, h]; rfl
theorem le1 {p : Pol} {es : List In} {k nb : Nat} {fl : List (Nat × V)} {fr : Nat → V} {bx : Nat → List V} (hok : fl.all (fun p => p.2.ltB 1) = true) (hk : k ≤ 1) (hn : 1 ≤ nb) (h : FL fl fr) (h0 : bx 0 = lbx p es) : S.Le k (hdS fl [lbx p es]) ⟨fr, bx, nb⟩ :=
 le_hd (by simp only [leOk, List.all_cons, List.all_nil, lbx_ltB, List.length_cons, List.length_nil, hok]; rfl) hk hn h ⟨h0, trivial⟩
theorem end1 {p : Pol} {es : List In} {r : V} {t : Tmp} {e : VE} {fr : Nat → V} {bx : Nat → List V} {nb : Nat} (he : isEnd e = true) (hn : 1 ≤ nb) (h0 : bx 0 = lbx p es) (ht : fr t = r) (hr : r.ltB 1 = true) : endB Tryz.prog 1 r [lbx p es] [.tmp t] e ⟨fr, bx, nb⟩ :=
 end_B [(t, r)] he (by simp only [leOk, List.all_cons, List.all_nil, lbx_ltB, hr, List.length_cons, List.length_nil]; rfl) (Nat.le_refl _) hn ⟨ht, trivial⟩ ⟨h0, trivial⟩ (by simp [hdS, frs, retV_one, up])
theorem end1n {p : Pol} {es : List In} {e : VE} {fr : Nat → V} {bx : Nat → List V} {nb : Nat} (he : isEnd e = true) (hn : 1 ≤ nb) (h0 : bx 0 = lbx p es) : endB Tryz.prog 1 (.tup []) [lbx p es] [] e ⟨fr, bx, nb⟩ :=
 end_B [] he (by simp only [leOk, List.all_cons, List.all_nil, lbx_ltB, List.length_cons, List.length_nil]; rfl) (Nat.le_refl _) hn trivial ⟨h0, trivial⟩ retV_none
def fgN (p : Pol) (flag : Int) (n : Nat) : List Nat := (List.range n).filter fun t => hasF p t flag
theorem fgN_succ {p : Pol} {flag : Int} {n : Nat} : fgN p flag (n + 1) = if hasF p n flag = true then fgN p flag n ++ [n] else fgN p flag n := by
 unfold fgN
 rw [List.range_succ, List.filter_append]
 by_cases h : hasF p n flag = true <;> simp [h]
theorem fgN_len {p : Pol} {flag : Int} {n : Nat} : (fgN p flag n).length ≤ n := by
 unfold fgN
 exact Nat.le_trans (List.length_filter_le _ _) (by simp)
set_option maxHeartbeats 1000000 in
theorem rflagged_ok (p : Pol) (es : List In) (flag : Int) (hf : I64 flag) (hm : p.types.length ≤ 1000000) :
  FnB Tryz.prog G 84 [.bp 0 0, i64 flag] [lbx p es] (.c (.sl ((fgN p flag p.types.length).map fun (t : Nat) => [cI t]))) [lbx p es] := by
 refine FnB_by (rs := [.tmp 4]) (k := 1) [24, 3000001] mixed Tryz.func84 rfl rfl rfl rfl (by kernel_rfl) (by simp) rfl rfl rfl (lbx_ok rfl) (Nat.le_refl _) ?_
 simp -implicitDefEqProofs only [pkA, ↓reduceIte, Nat.reduceAdd, Nat.reduceBEq]
 refine run_loop (fun i : Nat => hdS [(0, .bp 0 0), (1, i64 flag), (5, owN (fgN p flag i)), (6, i64 i)] [lbx p es]) (fun i => p.types.length - i) (fun i => i ≤ p.types.length) 0 (Nat.zero_le _) ?_ ?_
 ·exact le1 rfl (Nat.le_refl _) (Nat.le_refl _) (by simp [FL, up_apply, fgN, owN]) rfl
 rintro i hi R hnorm hexit hret
 simp -implicitDefEqProofs only [pkA, ptA, ↓reduceIte, Nat.reduceEqDiff, Nat.reduceAdd, Nat.reduceBEq, Nat.reduceMul, Nat.reduceLT, pkL1]
 refine vcond_of (fun hlt => ?_) (fun hge => ?_)
 ·have hlt : i < p.types.length := by simpa using hlt
  have hw := wrap_of (n := (i : Int) + 1) (k := i + 1) (by omega) (by omega)
  have hl := @fgN_len p flag i
  simp -implicitDefEqProofs only [pkA, ptA, ↓reduceIte, Nat.reduceEqDiff, Nat.reduceAdd, Nat.reduceBEq, Nat.reduceMul, Nat.reduceLT, pkL1]
  refine call_fn rfl (rHas_ok p i flag hf (by omega)) (fun _ => rfl) ?_
  simp -implicitDefEqProofs only [pkA, ↓reduceIte, Nat.reduceAdd, Nat.reduceBEq]
  refine vcond_of (fun hy => ?_) (fun hn => ?_)
  ·simp -implicitDefEqProofs only [pkA, ptA, ↓reduceIte, Nat.reduceEqDiff, Nat.reduceAdd, Nat.reduceBEq, Nat.reduceMul, Nat.reduceLeDiff, pkL1, isGh_some]
   refine appN1 (l := fgN p flag i) (x := i) (by omega) ?_
   simp -implicitDefEqProofs only [pkA, ↓reduceIte, Nat.reduceEqDiff, Nat.reduceAdd, Nat.reduceBEq, pkL1, hw]
   exact hnorm (i + 1) _ hlt (by omega) (le1 rfl (Nat.le_refl _) (Nat.le_refl _) (by simp [FL, up_apply, fgN_succ, hy]) rfl)
  ·simp -implicitDefEqProofs only [pkA, ↓reduceIte, Nat.reduceEqDiff, Nat.reduceAdd, Nat.reduceBEq, hw]
   exact hnorm (i + 1) _ hlt (by omega) (le1 rfl (Nat.le_refl _) (Nat.le_refl _) (by simp [FL, up_apply, fgN_succ, hn]) rfl)
 ·have : i = p.types.length := by simp at hge; omega
  subst this
  simp -implicitDefEqProofs only [pkA]
  refine hexit _ _ ?_
  simp -implicitDefEqProofs only [pkA, ↓reduceIte, Nat.reduceEqDiff, Nat.reduceAdd, Nat.reduceBEq, pkL1]
  exact end1 rfl (Nat.le_refl _) rfl (by simp []) rfl
end Go.Proofs.YthgmobkmmapgoaaGreat
/- Layer 17, the specification: ruled, add. -/
namespace Go.Proofs.YthgmobkmmapgoaaGreat
open Go Go.Vl
variable {G : Gl}
set_option maxRecDepth 4000
def owR (l : List Ru) : V := .ow (if l.isEmpty then none else some (55, 3)) (l.map ruC)
theorem owR_fz {l : List Ru} : (owR l).fz = .c (.sl (l.map ruC)) := rfl
theorem owR_ow {l : List Ru} : (owR l).isOw = true := rfl
theorem appR1 {l : List Ru} {x : Ru} {K : V → Prop} (h : l.length + 1 ≤ 1000000000) (hK : K (owR (l ++ [x]))) : vappend Tryz.prog 23 (owR l) (.c (.sl [ruC x])) K := by
 unfold owR
 rw [app_23]
 refine ⟨⟨by cases l <;> simp, len_map ruC_len _⟩, ⟨by simp only [List.length_map, List.length_singleton]; omega, by simp only [List.length_map, List.length_singleton]; omega, by simp [ruC]⟩, ?_⟩
 have e : (if [ruC x].isEmpty = true then (if l.isEmpty = true then none else some (55, 3)) else some (55, 3)) = if (l ++ [x]).isEmpty = true then none else some (55, 3) := by
  cases l <;> simp
 have e2 : l.map ruC ++ [ruC x] = (l ++ [x]).map ruC := by simp
 rw [e, e2]; exact hK
def ruOk (p : Pol) (kind : Int) (r : Ru) : Bool := decide (r.kind = kind) && (decide (0 ≤ r.a) && (decide (r.a < p.types.length) && (decide (0 ≤ r.b) && decide (r.b < p.types.length))))
theorem ruOk_is {p : Pol} {kind : Int} {r : Ru} : ruOk p kind r = ruIs p kind r := by
 unfold ruOk ruIs
 rw [Bool.eq_iff_iff]
 simp only [Bool.and_eq_true, decide_eq_true_eq]
 omega
def ruR (p : Pol) (kind : Int) (n : Nat) : List Ru := (p.rules.take n).filter (ruOk p kind)
theorem ruR_succ {p : Pol} {kind : Int} {n : Nat} (h : n < p.rules.length) : ruR p kind (n + 1) = if ruOk p kind p.rules[n] = true then ruR p kind n ++ [p.rules[n]] else ruR p kind n := by
 unfold ruR
 rw [List.take_succ_eq_append_getElem h, List.filter_append]
 by_cases h : ruOk p kind p.rules[n] = true <;> simp [h]
theorem ruR_len {p : Pol} {kind : Int} {n : Nat} : (ruR p kind n).length ≤ n := by
 unfold ruR
 exact Nat.le_trans (List.length_filter_le _ _) (by simp; omega)
section
variable {r : Ru} {nb q : Nat} {K : V → Prop}
theorem gru0 : ldB nb q ((ruC r).map .c) 0 K = (q < nb ∧ K (i64 r.kind)) := rfl
theorem gru1 : ldB nb q ((ruC r).map .c) 1 K = (q < nb ∧ K (i64 r.a)) := rfl
theorem gru2 : ldB nb q ((ruC r).map .c) 2 K = (q < nb ∧ K (i64 r.b)) := rfl
theorem isMb_ru : isMb ((ruC r).map V.c) = false := rfl
theorem lok_ru : ldA nb q ((ruC r).map .c) 0 3 K = (q < nb ∧ K (.agg (ruC r))) := by
 unfold ldA
 exact propext ⟨fun h => ⟨h.1, h.2.2⟩, fun h => ⟨h.1, ⟨rfl, rfl⟩, h.2⟩⟩
end
theorem pkL2 : type_of% (And.intro @pkL1 (And.intro @gru0 (And.intro @gru1 (And.intro @gru2 (And.intro @isMb_ru (And.intro @lok_ru (And.intro @owR_fz (@owR_ow)))))))) := And.intro @pkL1 (And.intro @gru0 (And.intro @gru1 (And.intro @gru2 (And.intro @isMb_ru (And.intro @lok_ru (And.intro @owR_fz (@owR_ow)))))))
set_option maxHeartbeats 4000000 in
theorem rruled_ok (p : Pol) (es : List In) (kind : Int) (hm : p.rules.length ≤ 1000000) :
  FnB Tryz.prog G 86 [.bp 0 0, i64 kind] [lbx p es] (.c (.sl ((ruR p kind p.rules.length).map ruC))) [lbx p es] := by
 refine FnB_by (rs := [.tmp 4]) (k := 1) [58, 3000001] mixed Tryz.func86 rfl rfl rfl rfl (by kernel_rfl) (by simp) rfl rfl rfl (lbx_ok rfl) (Nat.le_refl _) ?_
 simp -implicitDefEqProofs only [pkA, ↓reduceIte, Nat.reduceAdd, Nat.reduceBEq]
 refine run_loop (fun i : Nat => hdS [(0, .bp 0 0), (1, i64 kind), (5, owR (ruR p kind i)), (6, i64 i)] [lbx p es]) (fun i => p.rules.length - i) (fun i => i ≤ p.rules.length) 0 (Nat.zero_le _) ?_ ?_
 ·exact le1 rfl (Nat.le_refl _) (Nat.le_refl _) (by simp [FL, up_apply, ruR, owR]) rfl
 rintro i hi R hnorm hexit hret
 simp -implicitDefEqProofs only [pkA, ptA, ↓reduceIte, Nat.reduceEqDiff, Nat.reduceAdd, Nat.reduceBEq, Nat.reduceMul, Nat.reduceLT, pkL2, List.length_map]
 refine vcond_of (fun hlt => ?_) (fun hge => ?_)
 ·have hlt : i < p.rules.length := by simpa using hlt
  have hw := wrap_of (n := (i : Int) + 1) (k := i + 1) (by omega) (by omega)
  have hl := @ruR_len p kind i
  simp -implicitDefEqProofs only [pkA, ptA, ↓reduceIte, Nat.reduceEqDiff, Nat.reduceAdd, Nat.reduceBEq, Nat.reduceMul, Nat.reduceLT, pkL2]
  refine ia_of ti_23 rfl ti_55 (by decide) (Int.natCast_nonneg i) (c := ruC p.rules[i]) (by simp [hlt]) rfl ?_
  have q1 : ∀ a b c : V, setV [a, b, c] 0 ((ruC p.rules[i]).map .c) = (ruC p.rules[i]).map .c := fun _ _ _ => rfl
  have hok : ruOk p kind p.rules[i] = (decide (p.rules[i].kind = kind) && (decide (0 ≤ p.rules[i].a) && (decide (p.rules[i].a < p.types.length) && (decide (0 ≤ p.rules[i].b) && decide (p.rules[i].b < p.types.length))))) := rfl
  have stay : ruOk p kind p.rules[i] = false → ∀ fr bx nb, fr 0 = .bp 0 0 → fr 1 = i64 kind → fr 5 = owR (ruR p kind i) → fr 6 = i64 ((i : Int) + 1) → bx 0 = lbx p es → 1 ≤ nb → R .normal ⟨fr, bx, nb⟩ := fun h fr bx nb f0 f1 f5 f6 b0 hn =>
   hnorm (i + 1) _ hlt (by omega) (le1 rfl (Nat.le_refl _) hn (by simp [FL, f0, f1, f5, f6, ruR_succ hlt, h]) b0)
  simp -implicitDefEqProofs only [pkA, ptA, ↓reduceIte, Nat.reduceEqDiff, Nat.reduceAdd, Nat.reduceBEq, Nat.reduceMul, Nat.reduceLT, Nat.reduceLeDiff, pkL2, q1]
  cases h1 : decide (p.rules[i].kind = kind)
  ·simp -implicitDefEqProofs only [pkA, ↓reduceIte, Nat.reduceEqDiff, Nat.reduceAdd, Nat.reduceBEq, hw]
   exact stay (by rw [hok, h1]; rfl) _ _ _ rfl rfl rfl rfl (by simp [up_apply, bxs]) (show 1 ≤ 2 by decide)
  cases h2 : decide (0 ≤ p.rules[i].a)
  ·simp -implicitDefEqProofs only [pkA, ptA, ↓reduceIte, Nat.reduceEqDiff, Nat.reduceAdd, Nat.reduceBEq, Nat.reduceMul, Nat.reduceLT, pkL2, h2, hw]
   exact stay (by rw [hok, h1, h2]; rfl) _ _ _ rfl rfl rfl rfl (by simp [up_apply, bxs]) (show 1 ≤ 2 by decide)
  cases h3 : decide (p.rules[i].a < p.types.length)
  ·simp -implicitDefEqProofs only [pkA, ptA, ↓reduceIte, Nat.reduceEqDiff, Nat.reduceAdd, Nat.reduceBEq, Nat.reduceMul, Nat.reduceLT, pkL2, h2, h3, hw]
   exact stay (by rw [hok, h1, h2, h3]; rfl) _ _ _ rfl rfl rfl rfl (by simp [up_apply, bxs]) (show 1 ≤ 2 by decide)
  cases h4 : decide (0 ≤ p.rules[i].b)
  ·simp -implicitDefEqProofs only [pkA, ptA, ↓reduceIte, Nat.reduceEqDiff, Nat.reduceAdd, Nat.reduceBEq, Nat.reduceMul, Nat.reduceLT, pkL2, h2, h3, h4, hw]
   exact stay (by rw [hok, h1, h2, h3, h4]; rfl) _ _ _ rfl rfl rfl rfl (by simp [up_apply, bxs]) (show 1 ≤ 2 by decide)
  cases h5 : decide (p.rules[i].b < p.types.length)
  ·simp -implicitDefEqProofs only [pkA, ptA, ↓reduceIte, Nat.reduceEqDiff, Nat.reduceAdd, Nat.reduceBEq, Nat.reduceMul, Nat.reduceLT, pkL2, h2, h3, h4, h5, hw]
   exact stay (by rw [hok, h1, h2, h3, h4, h5]; rfl) _ _ _ rfl rfl rfl rfl (by simp [up_apply, bxs]) (show 1 ≤ 2 by decide)
  have hy : ruOk p kind p.rules[i] = true := by rw [hok, h1, h2, h3, h4, h5]; rfl
  simp -implicitDefEqProofs only [pkA, ptA, ↓reduceIte, Nat.reduceEqDiff, Nat.reduceAdd, Nat.reduceBEq, Nat.reduceMul, Nat.reduceLT, Nat.reduceLeDiff, pkL2, h2, h3, h4, h5, isGh_some]
  refine appR1 (l := ruR p kind i) (x := p.rules[i]) (by omega) ?_
  simp -implicitDefEqProofs only [pkA, ↓reduceIte, Nat.reduceEqDiff, Nat.reduceAdd, Nat.reduceBEq, pkL2, hw]
  exact hnorm (i + 1) _ hlt (by omega) (le1 rfl (Nat.le_refl _) (show 1 ≤ 2 by decide) (by simp [FL, up_apply, ruR_succ hlt, hy]) (by simp [up_apply, bxs]))
 ·have : i = p.rules.length := by simp at hge; omega
  subst this
  simp -implicitDefEqProofs only [pkA]
  refine hexit _ _ ?_
  simp -implicitDefEqProofs only [pkA, ↓reduceIte, Nat.reduceEqDiff, Nat.reduceAdd, Nat.reduceBEq, pkL2]
  exact end1 rfl (Nat.le_refl _) rfl (by simp []) rfl
def addX (rule : Int) (one two c : Fa) : In := ⟨rule, (if 0 < one.kind then [one] else []) ++ (if 0 < two.kind then [two] else []), [c]⟩
set_option maxHeartbeats 4000000 in
theorem add_ok (p : Pol) (es : List In) (rule : Int) (one two c : Fa) (hm : es.length < 1000000) :
  FnB Tryz.prog G 85 [.bp 0 0, i64 rule, .agg (faC one), .agg (faC two), .agg (faC c)] [lbx p es] (.tup []) [lbx p (es ++ [addX rule one two c])] := by
 refine FnB_by (rs := []) (k := 1) [2300003, 2400022, 2300005, 2400031, 2300006, 2400040, 2500014, 3000001] mixed Tryz.func85 rfl rfl rfl rfl (by kernel_rfl) (by simp) rfl rfl rfl (lbx_ok rfl) (Nat.le_refl _) ?_
 simp -implicitDefEqProofs only [pkA, ptA, ↓reduceIte, Nat.reduceEqDiff, Nat.reduceAdd, Nat.reduceBEq, Nat.reduceMul, Nat.reduceLT, Nat.reduceLeDiff, pkL2]
 have q0 : setV [i64 0, .ow none [], .ow none []] 0 [i64 rule, .ow none [], .c (.sl [faC c])] = [i64 rule, .ow none [], .c (.sl [faC c])] := rfl
 have q1 : ∀ a b d x : V, setV [a, b, d] 1 [x] = [a, x, d] := fun _ _ _ _ => rfl
 have q0 : setV [i64 0, .ow none [], .ow none []] 0 [i64 rule, .ow none [], .c (.sl [faC c])] = [i64 rule, .ow none [], .c (.sl [faC c])] := rfl
 have q1 : ∀ a b d x : V, setV [a, b, d] 1 [x] = [a, x, d] := fun _ _ _ _ => rfl
 have lb : ∀ x : V, (lbx p es).set 5 x = [.c (cS p.name), .c (.sl (p.types.map tyC)), .c (.sl (p.rules.map ruC)), .c (.sl (p.quorums.map quC)), i64 p.types.length, x] := fun _ => rfl
 have gl : ∀ nb q (y : Value) K, ldB nb q [.c (cS p.name), .c (.sl (p.types.map tyC)), .c (.sl (p.rules.map ruC)), .c (.sl (p.quorums.map quC)), i64 p.types.length, .c (.ex y)] 5 K = (q < nb ∧ K (.c (.ex y))) := fun _ _ _ _ => rfl
 have gm : ∀ y : Value, isMb [.c (cS p.name), .c (.sl (p.types.map tyC)), .c (.sl (p.rules.map ruC)), .c (.sl (p.quorums.map quC)), i64 p.types.length, .c (.ex y)] = false := fun _ => rfl
 have g5 : ∀ (y : Value) (x : V), setV [.c (cS p.name), .c (.sl (p.types.map tyC)), .c (.sl (p.rules.map ruC)), .c (.sl (p.quorums.map quC)), i64 p.types.length, .c (.ex y)] 5 [x] = [.c (cS p.name), .c (.sl (p.types.map tyC)), .c (.sl (p.rules.map ruC)), .c (.sl (p.quorums.map quC)), i64 p.types.length, x] := fun _ _ => rfl
 refine vcond_of (fun h1 => ?_) (fun h1 => ?_)
 ·have h1' : 0 < one.kind := by simpa using h1
  simp -implicitDefEqProofs only [pkA, ↓reduceIte, Nat.reduceAdd, Nat.reduceBEq, q0]
  refine spl_of 4 1 22 (E := none) (es := []) rfl (show 4 < 5 by decide) rfl rfl ?_
  intro v
  simp -implicitDefEqProofs only [pkA, ptA, ↓reduceIte, Nat.reduceEqDiff, Nat.reduceAdd, Nat.reduceBEq, Nat.reduceMul, Nat.reduceLT, Nat.reduceLeDiff, pkL2, S.split, isGh_some]
  refine gh_app (v := v) (E := none) (es := []) rfl rfl (by decide) ?_
  simp -implicitDefEqProofs only [pkA, ↓reduceIte]
  refine appF1 (l := []) (x := one) (by simp) ?_
  simp -implicitDefEqProofs only [pkA, ptA, ↓reduceIte, Nat.reduceEqDiff, Nat.reduceAdd, Nat.reduceBEq, Nat.reduceMul, Nat.reduceLT, Nat.reduceLeDiff, pkL2, q1, owF]
  refine vcond_of (fun h2 => ?_) (fun h2 => ?_)
  ·have h2' : 0 < two.kind := by simpa using h2
   simp -implicitDefEqProofs only [pkA, ↓reduceIte, Nat.reduceAdd, Nat.reduceBEq]
   refine spl_of 4 1 31 (E := (some (29, 3))) (es := [faC one]) rfl (show 4 < 5 by decide) rfl rfl ?_
   intro v
   simp -implicitDefEqProofs only [pkA, ptA, ↓reduceIte, Nat.reduceEqDiff, Nat.reduceAdd, Nat.reduceBEq, Nat.reduceMul, Nat.reduceLT, Nat.reduceLeDiff, pkL2, S.split, isGh_some]
   refine gh_app (v := v) (E := (some (29, 3))) (es := [faC one]) rfl rfl (by decide) ?_
   simp -implicitDefEqProofs only [pkA, ↓reduceIte]
   refine appF1 (l := [one]) (x := two) (by simp) ?_
   simp -implicitDefEqProofs only [pkA, ptA, ↓reduceIte, Nat.reduceEqDiff, Nat.reduceAdd, Nat.reduceBEq, Nat.reduceMul, Nat.reduceLT, Nat.reduceLeDiff, q1, owF]
   have hx : inC (addX rule one two c) = [cI rule, .sl [faC one, faC two], .sl [faC c]] := by simp [inC, addX, fsC, h1', h2']
   have ap : ∀ K, K (owI (es ++ [addX rule one two c])) → vappend Tryz.prog 40 (owI es) (.c (.sl [[cI rule, .sl [faC one, faC two], .sl [faC c]]])) K := fun K hK => hx ▸ appI1 (by omega) hK
   refine spl_of 0 5 40 (E := if es.isEmpty then none else some (50, 3)) (es := es.map inC) rfl (show 0 < 5 by decide) rfl rfl ?_
   intro v2
   simp -implicitDefEqProofs only [pkA, ptA, ↓reduceIte, Nat.reduceEqDiff, Nat.reduceAdd, Nat.reduceBEq, Nat.reduceMul, Nat.reduceLT, Nat.reduceLeDiff, S.split, isGh_some, lb, gl, gm]
   refine gh_app (v := v2) (E := if es.isEmpty then none else some (50, 3)) (es := es.map inC) rfl rfl (by decide) ?_
   simp -implicitDefEqProofs only [pkA, ↓reduceIte]
   refine ap _ ?_
   unfold owI
   simp -implicitDefEqProofs only [pkA, ptA, ↓reduceIte, Nat.reduceEqDiff, Nat.reduceAdd, Nat.reduceBEq, Nat.reduceMul, Nat.reduceLT, Nat.reduceLeDiff, gm, g5]
   exact end1n rfl (show 1 ≤ 5 by decide) (by simp [lbx, owI])
  ·have h2' : ¬ 0 < two.kind := by simpa using h2
   simp -implicitDefEqProofs only [pkA, ↓reduceIte, Nat.reduceAdd, Nat.reduceBEq]
   have hx : inC (addX rule one two c) = [cI rule, .sl [faC one], .sl [faC c]] := by simp [inC, addX, fsC, h1', h2']
   have ap : ∀ K, K (owI (es ++ [addX rule one two c])) → vappend Tryz.prog 40 (owI es) (.c (.sl [[cI rule, .sl [faC one], .sl [faC c]]])) K := fun K hK => hx ▸ appI1 (by omega) hK
   refine spl_of 0 5 40 (E := if es.isEmpty then none else some (50, 3)) (es := es.map inC) rfl (show 0 < 5 by decide) rfl rfl ?_
   intro v2
   simp -implicitDefEqProofs only [pkA, ptA, ↓reduceIte, Nat.reduceEqDiff, Nat.reduceAdd, Nat.reduceBEq, Nat.reduceMul, Nat.reduceLT, Nat.reduceLeDiff, S.split, isGh_some, lb, gl, gm]
   refine gh_app (v := v2) (E := if es.isEmpty then none else some (50, 3)) (es := es.map inC) rfl rfl (by decide) ?_
   simp -implicitDefEqProofs only [pkA, ↓reduceIte]
   refine ap _ ?_
   unfold owI
   simp -implicitDefEqProofs only [pkA, ptA, ↓reduceIte, Nat.reduceEqDiff, Nat.reduceAdd, Nat.reduceBEq, Nat.reduceMul, Nat.reduceLT, Nat.reduceLeDiff, gm, g5]
   exact end1n rfl (show 1 ≤ 5 by decide) (by simp [lbx, owI])
 ·have h1' : ¬ 0 < one.kind := by simpa using h1
  simp -implicitDefEqProofs only [pkA, ptA, ↓reduceIte, Nat.reduceEqDiff, Nat.reduceAdd, Nat.reduceBEq, Nat.reduceMul, Nat.reduceLT, pkL2, q0]
  refine vcond_of (fun h2 => ?_) (fun h2 => ?_)
  ·have h2' : 0 < two.kind := by simpa using h2
   simp -implicitDefEqProofs only [pkA, ↓reduceIte, Nat.reduceAdd, Nat.reduceBEq]
   refine spl_of 4 1 31 (E := none) (es := []) rfl (show 4 < 5 by decide) rfl rfl ?_
   intro v
   simp -implicitDefEqProofs only [pkA, ptA, ↓reduceIte, Nat.reduceEqDiff, Nat.reduceAdd, Nat.reduceBEq, Nat.reduceMul, Nat.reduceLT, Nat.reduceLeDiff, pkL2, S.split, isGh_some]
   refine gh_app (v := v) (E := none) (es := []) rfl rfl (by decide) ?_
   simp -implicitDefEqProofs only [pkA, ↓reduceIte]
   refine appF1 (l := []) (x := two) (by simp) ?_
   simp -implicitDefEqProofs only [pkA, ptA, ↓reduceIte, Nat.reduceEqDiff, Nat.reduceAdd, Nat.reduceBEq, Nat.reduceMul, Nat.reduceLT, Nat.reduceLeDiff, q1, owF]
   have hx : inC (addX rule one two c) = [cI rule, .sl [faC two], .sl [faC c]] := by simp [inC, addX, fsC, h1', h2']
   have ap : ∀ K, K (owI (es ++ [addX rule one two c])) → vappend Tryz.prog 40 (owI es) (.c (.sl [[cI rule, .sl [faC two], .sl [faC c]]])) K := fun K hK => hx ▸ appI1 (by omega) hK
   refine spl_of 0 5 40 (E := if es.isEmpty then none else some (50, 3)) (es := es.map inC) rfl (show 0 < 5 by decide) rfl rfl ?_
   intro v2
   simp -implicitDefEqProofs only [pkA, ptA, ↓reduceIte, Nat.reduceEqDiff, Nat.reduceAdd, Nat.reduceBEq, Nat.reduceMul, Nat.reduceLT, Nat.reduceLeDiff, S.split, isGh_some, lb, gl, gm]
   refine gh_app (v := v2) (E := if es.isEmpty then none else some (50, 3)) (es := es.map inC) rfl rfl (by decide) ?_
   simp -implicitDefEqProofs only [pkA, ↓reduceIte]
   refine ap _ ?_
   unfold owI
   simp -implicitDefEqProofs only [pkA, ptA, ↓reduceIte, Nat.reduceEqDiff, Nat.reduceAdd, Nat.reduceBEq, Nat.reduceMul, Nat.reduceLT, Nat.reduceLeDiff, gm, g5]
   exact end1n rfl (show 1 ≤ 5 by decide) (by simp [lbx, owI])
  ·have h2' : ¬ 0 < two.kind := by simpa using h2
   simp -implicitDefEqProofs only [pkA, ↓reduceIte, Nat.reduceAdd, Nat.reduceBEq]
   have hx : inC (addX rule one two c) = [cI rule, .sl [], .sl [faC c]] := by simp [inC, addX, fsC, h1', h2']
   have ap : ∀ K, K (owI (es ++ [addX rule one two c])) → vappend Tryz.prog 40 (owI es) (.c (.sl [[cI rule, .sl [], .sl [faC c]]])) K := fun K hK => hx ▸ appI1 (by omega) hK
   refine spl_of 0 5 40 (E := if es.isEmpty then none else some (50, 3)) (es := es.map inC) rfl (show 0 < 5 by decide) rfl rfl ?_
   intro v2
   simp -implicitDefEqProofs only [pkA, ptA, ↓reduceIte, Nat.reduceEqDiff, Nat.reduceAdd, Nat.reduceBEq, Nat.reduceMul, Nat.reduceLT, Nat.reduceLeDiff, S.split, isGh_some, lb, gl, gm]
   refine gh_app (v := v2) (E := if es.isEmpty then none else some (50, 3)) (es := es.map inC) rfl rfl (by decide) ?_
   simp -implicitDefEqProofs only [pkA, ↓reduceIte]
   refine ap _ ?_
   unfold owI
   simp -implicitDefEqProofs only [pkA, ptA, ↓reduceIte, Nat.reduceEqDiff, Nat.reduceAdd, Nat.reduceBEq, Nat.reduceMul, Nat.reduceLT, Nat.reduceLeDiff, gm, g5]
   exact end1n rfl (show 1 ≤ 5 by decide) (by simp [lbx, owI])
