/- Layer 17, the specification: add, the new element still to be written (rule 10). -/
import Derived.Test.YthgmobkmmapgoaaGreatVlR6
import Derived.Test.YthgmobkmmapgoaaGreatVlRunB
set_option linter.unusedSimpArgs false
set_option linter.unusedVariables false
namespace Go.Proofs.YthgmobkmmapgoaaGreat
open Go Go.Vl
variable {G : Gl}
set_option maxRecDepth 4000
def hotC (x : In) : List C := [cI x.rule, fsC x.pre, .sx (x.con.map faC)]
def lbh (p : Pol) (es : List In) (x : In) : List V := [.c (cS p.name), .c (.sl (p.types.map tyC)), .c (.sl (p.rules.map ruC)), .c (.sl (p.quorums.map quC)), i64 p.types.length, .hh none (some (50, 3)) (es.map inC ++ [hotC x])]
set_option maxHeartbeats 4000000 in
theorem addH_ok (p : Pol) (es : List In) (rule : Int) (one two c : Fa) (hm : es.length < 1000000) (h1' : 0 < one.kind) (h2' : 0 < two.kind) :
  FnB Tryz.prog G 85 [.bp 0 0, i64 rule, .agg (faC one), .agg (faC two), .agg (faC c)] [lbx p es] (.tup []) [lbh p es ⟨rule, [one, two], [c]⟩] := by
 refine FnB_by (rs := []) (k := 1) [2300003, 2400022, 2300005, 2400031, 2300006, 2400040, 2450040, 2500014, 1400013, 3000001] mixed Tryz.func85 rfl rfl rfl rfl (by kernel_rfl) (by simp) rfl rfl rfl (lbx_ok rfl) (Nat.le_refl _) ?_
 simp -implicitDefEqProofs only [pkA, ptA, ↓reduceIte, Nat.reduceEqDiff, Nat.reduceAdd, Nat.reduceBEq, Nat.reduceMul, Nat.reduceLT, Nat.reduceLeDiff, pkL2]
 refine .inr (.inr ?_)
 have c1 : decide (0 < one.kind) = true := decide_eq_true h1'
 have c2 : decide (0 < two.kind) = true := decide_eq_true h2'
 have q0 : setV [i64 0, .ow none [], .ow none []] 0 [i64 rule, .ow none [], .c (.sx [faC c])] = [i64 rule, .ow none [], .c (.sx [faC c])] := rfl
 have q1 : ∀ a b d x : V, setV [a, b, d] 1 [x] = [a, x, d] := fun _ _ _ _ => rfl
 have lb : ∀ x : V, (lbx p es).set 5 x = [.c (cS p.name), .c (.sl (p.types.map tyC)), .c (.sl (p.rules.map ruC)), .c (.sl (p.quorums.map quC)), i64 p.types.length, x] := fun _ => rfl
 have gl : ∀ nb q (y : Value) K, ldB nb q [.c (cS p.name), .c (.sl (p.types.map tyC)), .c (.sl (p.rules.map ruC)), .c (.sl (p.quorums.map quC)), i64 p.types.length, .c (.ex y)] 5 K = (q < nb ∧ K (.c (.ex y))) := fun _ _ _ _ => rfl
 have gm : ∀ y : Value, isMb [.c (cS p.name), .c (.sl (p.types.map tyC)), .c (.sl (p.rules.map ruC)), .c (.sl (p.quorums.map quC)), i64 p.types.length, .c (.ex y)] = false := fun _ => rfl
 have g5 : ∀ (y : Value) (x : V), setV [.c (cS p.name), .c (.sl (p.types.map tyC)), .c (.sl (p.rules.map ruC)), .c (.sl (p.quorums.map quC)), i64 p.types.length, .c (.ex y)] 5 [x] = [.c (cS p.name), .c (.sl (p.types.map tyC)), .c (.sl (p.rules.map ruC)), .c (.sl (p.quorums.map quC)), i64 p.types.length, x] := fun _ _ => rfl
 simp -implicitDefEqProofs only [pkA, ptA, ↓reduceIte, Nat.reduceEqDiff, Nat.reduceAdd, Nat.reduceBEq, Nat.reduceMul, Nat.reduceLT, Nat.reduceLeDiff, pkL2, q0, c1]
 refine spl_of 4 1 22 (E := none) (es := []) rfl (show 4 < 5 by decide) rfl rfl ?_
 intro v22
 simp -implicitDefEqProofs only [pkA, ptA, ↓reduceIte, Nat.reduceEqDiff, Nat.reduceAdd, Nat.reduceBEq, Nat.reduceMul, Nat.reduceLT, Nat.reduceLeDiff, pkL2, S.split, isGh_some]
 refine gh_app (v := v22) (E := none) (es := []) rfl rfl (by decide) ?_
 simp -implicitDefEqProofs only [pkA, ↓reduceIte]
 refine appF1 (l := []) (x := one) (by simp) ?_
 simp -implicitDefEqProofs only [pkA, ptA, ↓reduceIte, Nat.reduceEqDiff, Nat.reduceAdd, Nat.reduceBEq, Nat.reduceMul, Nat.reduceLT, Nat.reduceLeDiff, pkL2, q1, owF, c2]
 refine spl_of 4 1 31 (E := (some (29, 3))) (es := [faC one]) rfl (show 4 < 5 by decide) rfl rfl ?_
 intro v31
 simp -implicitDefEqProofs only [pkA, ptA, ↓reduceIte, Nat.reduceEqDiff, Nat.reduceAdd, Nat.reduceBEq, Nat.reduceMul, Nat.reduceLT, Nat.reduceLeDiff, pkL2, S.split, isGh_some]
 refine gh_app (v := v31) (E := (some (29, 3))) (es := [faC one]) rfl rfl (by decide) ?_
 simp -implicitDefEqProofs only [pkA, ↓reduceIte]
 refine appF1 (l := [one]) (x := two) (by simp) ?_
 simp -implicitDefEqProofs only [pkA, ptA, ↓reduceIte, Nat.reduceEqDiff, Nat.reduceAdd, Nat.reduceBEq, Nat.reduceMul, Nat.reduceLT, Nat.reduceLeDiff, q1, owF]
 refine spl_of 0 5 40 (E := if es.isEmpty then none else some (50, 3)) (es := es.map inC) rfl (show 0 < 5 by decide) rfl rfl ?_
 intro v2
 simp -implicitDefEqProofs only [pkA, ptA, ↓reduceIte, Nat.reduceEqDiff, Nat.reduceAdd, Nat.reduceBEq, Nat.reduceMul, Nat.reduceLT, Nat.reduceLeDiff, S.split, isGh_some, lb, gl, gm]
 refine ho_app (v := v2) (y1 := [cI rule, .sl [faC one, faC two], .sx [faC c]]) ti_40 rfl ti_50 rfl rfl rfl (by decide) rfl rfl rfl (by decide) rfl (by cases es <;> simp) (len_map inC_len _) rfl (by simp; omega) (by simp; omega) ?_
 simp -implicitDefEqProofs only [pkA, ptA, ↓reduceIte, Nat.reduceEqDiff, Nat.reduceAdd, Nat.reduceBEq, Nat.reduceMul, Nat.reduceLT, gm]
 rw [stS_hh (by simp [up_apply])]
 simp -implicitDefEqProofs only [pkA, ↓reduceIte, Nat.reduceAdd, Nat.reduceLT, Nat.reduceLeDiff, g5]
 exact end_B [] rfl (by simp only [leOk, lbh, List.all_cons, List.all_nil, List.length_cons, List.length_nil]; rfl) (Nat.le_refl _) (show 1 ≤ 5 by decide) trivial ⟨by simp [lbh, hotC, fsC], trivial⟩ retV_none
end Go.Proofs.YthgmobkmmapgoaaGreat
/- Layer 17, the specification: the rules 1 to 5. Printed by genr8.py. -/
namespace Go.Proofs.YthgmobkmmapgoaaGreat
open Go Go.Vl
variable {G : Gl}
set_option maxRecDepth 4000
def tsC (l : List Nat) : C := .sl (l.map fun (t : Nat) => [cI t])
theorem lenTs {l : List Nat} {K : V → Prop} : vlen Tryz.prog 71 (.c (tsC l)) K = K (i64 l.length) := by unfold tsC; rw [len_71, List.length_map]
theorem lenRs {l : List Ru} {K : V → Prop} : vlen Tryz.prog 23 (.c (.sl (l.map ruC))) K = K (i64 l.length) := by rw [len_23, List.length_map]
theorem e0T {x : Int} {K : V → Prop} : partV false 1 0 [cI x] K = K (i64 x) := rfl
theorem vcI {x : Int} : V.c (cI x) = .c (.lit (.int .i64 x)) := rfl
theorem pkM : type_of% (And.intro @pkL2 (And.intro @lenTs (And.intro @lenRs (And.intro @e0T (@vcI))))) := ⟨@pkL2, @lenTs, @lenRs, @e0T, @vcI⟩
def zfa : Fa := ⟨0, 0, 0⟩
theorem addX_a {rule : Int} {c : Fa} : addX rule zfa zfa c = ⟨rule, [], [c]⟩ := rfl
theorem addX_b {rule : Int} {a c : Fa} (h : 0 < a.kind) : addX rule a zfa c = ⟨rule, [a], [c]⟩ := by simp [addX, h, zfa]
theorem addX_c {rule : Int} {a b c : Fa} (h : 0 < a.kind) (h2 : 0 < b.kind) : addX rule a b c = ⟨rule, [a, b], [c]⟩ := by simp [addX, h, h2]
theorem em_n {x : In} : emL none x = [x] := rfl
theorem fgN_flat {p : Pol} {flag : Int} {D : Nat → List In} : (fgN p flag p.types.length).flatMap D = flagL p none flag D 0 := by
 unfold fgN flagL
 rw [Nat.sub_zero, List.range_eq_range', List.flatMap_def, List.flatMap_def]
 generalize List.range' 0 p.types.length = l
 induction l with
 | nil => rfl
 | cons t l ih =>
  rw [List.filter_cons, List.map_cons, List.flatten_cons, ← ih]
  unfold flagT
  by_cases h : hasF p t flag = true
  ·rw [if_pos h]; simp [h, aboutO]
  ·rw [if_neg h]; simp [h]
theorem ruR_flat {p : Pol} {kind : Int} {D : Nat → Nat → List In} : (ruR p kind p.rules.length).flatMap (fun r => D r.a.toNat r.b.toNat) = ruleL p none kind D 0 := by
 unfold ruR ruleL
 rw [List.take_length, List.drop_zero]
 generalize p.rules = l
 induction l with
 | nil => rfl
 | cons r l ih =>
  rw [List.filter_cons, List.flatMap_cons, ← ih]
  unfold ruleT
  rw [← ruOk_is]
  by_cases h : ruOk p kind r = true
  ·rw [if_pos h]; simp [h, aboutO]
  ·rw [if_neg h]; simp [h]
theorem dropL_cons {α : Type} {l : List α} {D : α → List In} {i : Nat} (h : i < l.length) : (l.drop i).flatMap D = D l[i] ++ (l.drop (i + 1)).flatMap D := by
 rw [List.drop_eq_getElem_cons h, List.flatMap_cons]
theorem fgN_lt {p : Pol} {flag : Int} {n : Nat} {i : Nat} (h : i < (fgN p flag n).length) : (fgN p flag n)[i] < n := by
 have := List.getElem_mem h
 unfold fgN at this
 rw [List.mem_filter, List.mem_range] at this
 exact this.1
theorem ruR_at {p : Pol} {kind : Int} {n : Nat} {i : Nat} (h : i < (ruR p kind n).length) : ∃ a b : Nat, (ruR p kind n)[i].a = (a : Int) ∧ (ruR p kind n)[i].b = (b : Int) ∧ a < p.types.length ∧ b < p.types.length := by
 have hm := List.getElem_mem h
 have hok : ruOk p kind (ruR p kind n)[i] = true := by
  unfold ruR at hm ⊢
  exact (List.mem_filter.1 hm).2
 generalize (ruR p kind n)[i] = r at hok
 simp only [ruOk, Bool.and_eq_true, decide_eq_true_eq] at hok
 exact ⟨r.a.toNat, r.b.toNat, by omega, by omega, by omega, by omega⟩
theorem rflagged_k (p : Pol) (es : List In) (flag : Int) (hf : I64 flag) (hm : p.types.length ≤ 1000000) :
  FnB Tryz.prog G 84 [.bp 0 0, i64 flag] [lbx p es] (.c (tsC (fgN p flag p.types.length))) [lbx p es] := rflagged_ok p es flag hf hm
set_option maxHeartbeats 8000000 in
theorem making_ok (p : Pol) (es : List In) (hn : p.types.length ≤ 1000) (hr' : p.rules.length ≤ 1000) (hlen : (es ++ t1 p none ++ t2 p none ++ t3 p none ++ t4 p none ++ t5 p none).length < 900000) :
  FnB Tryz.prog G 56 [.bp 0 0] [lbx p es] (.tup []) [lbx p (es ++ t1 p none ++ t2 p none ++ t3 p none ++ t4 p none ++ t5 p none)] := by
 simp only [List.length_append] at hlen
 refine FnB_by (rs := []) (k := 1) [1000012, 1000027, 1000029, 1000049, 1000051, 1000087, 1000108, 1000140, 3000001] mixed Tryz.func56 rfl rfl rfl rfl (by kernel_rfl) (by simp) rfl rfl rfl (lbx_ok rfl) (Nat.le_refl _) ?_
 simp -implicitDefEqProofs only [pkA, ↓reduceIte, Nat.reduceAdd, Nat.reduceBEq]
 refine call_box rfl (rflagged_k p (es) 2 (by unfold I64; omega) (by omega)) rfl rfl (by simp [bxs]) ?_
 have hL1 : (fgN p 2 p.types.length).length ≤ 1000 := Nat.le_trans fgN_len (by omega)
 simp -implicitDefEqProofs only [pkA, ↓reduceIte, Nat.reduceAdd, Nat.reduceBEq]
 have hf1 : (fgN p 2 p.types.length).flatMap (fun t => emL none (i1 t)) = t1 p none := fgN_flat
 refine run_loop (fun x : Nat × List In => hdS [(0, .bp 0 0), (2, .c (tsC (fgN p 2 p.types.length))), (3, i64 x.1)] [lbx p x.2]) (fun x => (fgN p 2 p.types.length).length - x.1) (fun x => x.1 ≤ (fgN p 2 p.types.length).length ∧ x.2 ++ ((fgN p 2 p.types.length).drop x.1).flatMap (fun t => emL none (i1 t)) = es ++ t1 p none) (0, es) ⟨Nat.zero_le _, by rw [List.drop_zero, hf1]⟩ ?_ ?_
 ·exact (le1 rfl (Nat.le_refl _) (Nat.le_refl _) (by simp [FL, up_apply]) (by simp []))
 rintro ⟨i, cur⟩ ⟨hi, hT⟩ R hnorm hexit hret
 simp only at hi hT
 simp -implicitDefEqProofs only [pkA, ↓reduceIte, Nat.reduceEqDiff, Nat.reduceAdd, Nat.reduceBEq, pkM]
 refine vcond_of (fun hlt => ?_) (fun hge => ?_)
 ·have hlt : i < (fgN p 2 p.types.length).length := by simpa using hlt
  rw [dropL_cons hlt] at hT
  have hw := wrap_of (n := (i : Int) + 1) (k := i + 1) (by omega) (by omega)
  have hl := congrArg List.length hT
  simp only [List.length_append] at hl
  obtain ⟨t, ht⟩ : ∃ t, t = (fgN p 2 p.types.length)[i] := ⟨_, rfl⟩
  have htn : t < p.types.length := by rw [ht]; exact fgN_lt _
  rw [← ht] at hT hl
  simp -implicitDefEqProofs only [pkA, ptA, ↓reduceIte, Nat.reduceEqDiff, Nat.reduceAdd, Nat.reduceBEq]
  have hd : (emL none (i1 t)).length = 1 := rfl
  repeat first
   | (simp -implicitDefEqProofs only [pkA, ptA, ↓reduceIte, Nat.reduceEqDiff, Nat.reduceAdd, Nat.reduceBEq, pkM])
   | refine ia_of ti_71 rfl ti_3 (by decide) (Int.natCast_nonneg i) (c := [cI (t : Int)]) (by simp [ht, hlt]) rfl ?_
   | refine call_fn rfl (rHandle_ok _ _) (fun _ => rfl) ?_
   | refine call_fn rfl (rBlob_ok _ _) (fun _ => rfl) ?_
   | refine call_fn rfl (rLeak_ok _) (fun _ => rfl) ?_
   | refine call_fn rfl (rRaw_ok _) (fun _ => rfl) ?_
  refine call_box rfl (add_ok p cur 1 zfa zfa (handleF 0 t) (by omega)) rfl rfl (by simp [bxs]) ?_
  have hx : addX 1 zfa zfa (handleF 0 t) = i1 t := addX_a
  rw [hx]
  simp -implicitDefEqProofs only [pkA, ↓reduceIte, Nat.reduceEqDiff, Nat.reduceAdd, Nat.reduceBEq, hw]
  exact hnorm (i + 1, cur ++ [i1 t]) _ ⟨hlt, by rw [List.append_assoc]; exact hT⟩ (by simp only; omega) (le1 rfl (Nat.le_refl _) (Nat.le_refl _) (by simp [FL, up_apply]) (by simp []))
 have hie : i = (fgN p 2 p.types.length).length := by simp at hge; omega
 subst hie
 rw [List.drop_length, List.flatMap_nil, List.append_nil] at hT
 subst hT
 simp -implicitDefEqProofs only [pkA]
 refine hexit _ _ ?_
 simp -implicitDefEqProofs only [pkA, ↓reduceIte, Nat.reduceEqDiff, Nat.reduceAdd, Nat.reduceBEq]
 refine call_box rfl (rflagged_k p (es ++ t1 p none) 1 (by unfold I64; omega) (by omega)) rfl rfl (by simp [bxs]) ?_
 have hL2 : (fgN p 1 p.types.length).length ≤ 1000 := Nat.le_trans fgN_len (by omega)
 simp -implicitDefEqProofs only [pkA, ↓reduceIte, Nat.reduceAdd, Nat.reduceBEq]
 have hf2 : (fgN p 1 p.types.length).flatMap (fun t => emL none (i2 t)) = t2 p none := fgN_flat
 refine run_loop (fun x : Nat × List In => hdS [(0, .bp 0 0), (2, .c (tsC (fgN p 1 p.types.length))), (4, i64 x.1)] [lbx p x.2]) (fun x => (fgN p 1 p.types.length).length - x.1) (fun x => x.1 ≤ (fgN p 1 p.types.length).length ∧ x.2 ++ ((fgN p 1 p.types.length).drop x.1).flatMap (fun t => emL none (i2 t)) = es ++ t1 p none ++ t2 p none) (0, es ++ t1 p none) ⟨Nat.zero_le _, by rw [List.drop_zero, hf2]⟩ ?_ ?_
 ·exact (le1 rfl (Nat.le_refl _) (Nat.le_refl _) (by simp [FL, up_apply]) (by simp []))
 rintro ⟨i, cur⟩ ⟨hi, hT⟩ R hnorm hexit hret
 simp only at hi hT
 simp -implicitDefEqProofs only [pkA, ↓reduceIte, Nat.reduceEqDiff, Nat.reduceAdd, Nat.reduceBEq, pkM]
 refine vcond_of (fun hlt => ?_) (fun hge => ?_)
 ·have hlt : i < (fgN p 1 p.types.length).length := by simpa using hlt
  rw [dropL_cons hlt] at hT
  have hw := wrap_of (n := (i : Int) + 1) (k := i + 1) (by omega) (by omega)
  have hl := congrArg List.length hT
  simp only [List.length_append] at hl
  obtain ⟨t, ht⟩ : ∃ t, t = (fgN p 1 p.types.length)[i] := ⟨_, rfl⟩
  have htn : t < p.types.length := by rw [ht]; exact fgN_lt _
  rw [← ht] at hT hl
  have hws := wrap_of (n := (t : Int) + 1) (k := t + 1) (by omega) (by omega)
  simp -implicitDefEqProofs only [pkA, ptA, ↓reduceIte, Nat.reduceEqDiff, Nat.reduceAdd, Nat.reduceBEq]
  have hd : (emL none (i2 t)).length = 1 := rfl
  repeat first
   | (simp -implicitDefEqProofs only [pkA, ptA, ↓reduceIte, Nat.reduceEqDiff, Nat.reduceAdd, Nat.reduceBEq, pkM, hws])
   | refine ia_of ti_71 rfl ti_3 (by decide) (Int.natCast_nonneg i) (c := [cI (t : Int)]) (by simp [ht, hlt]) rfl ?_
   | refine call_fn rfl (rHandle_ok _ _) (fun _ => rfl) ?_
   | refine call_fn rfl (rBlob_ok _ _) (fun _ => rfl) ?_
   | refine call_fn rfl (rLeak_ok _) (fun _ => rfl) ?_
   | refine call_fn rfl (rRaw_ok _) (fun _ => rfl) ?_
  refine call_box rfl (add_ok p cur 2 zfa zfa (handleF (t + 1 : Nat) t) (by omega)) rfl rfl (by simp [bxs]) ?_
  have hx : addX 2 zfa zfa (handleF (t + 1 : Nat) t) = i2 t := addX_a
  rw [hx]
  simp -implicitDefEqProofs only [pkA, ↓reduceIte, Nat.reduceEqDiff, Nat.reduceAdd, Nat.reduceBEq, hw]
  exact hnorm (i + 1, cur ++ [i2 t]) _ ⟨hlt, by rw [List.append_assoc]; exact hT⟩ (by simp only; omega) (le1 rfl (Nat.le_refl _) (Nat.le_refl _) (by simp [FL, up_apply]) (by simp []))
 have hie : i = (fgN p 1 p.types.length).length := by simp at hge; omega
 subst hie
 rw [List.drop_length, List.flatMap_nil, List.append_nil] at hT
 subst hT
 simp -implicitDefEqProofs only [pkA]
 refine hexit _ _ ?_
 simp -implicitDefEqProofs only [pkA, ↓reduceIte, Nat.reduceEqDiff, Nat.reduceAdd, Nat.reduceBEq]
 refine call_box rfl (rruled_ok p (es ++ t1 p none ++ t2 p none) 5 (by omega)) rfl rfl (by simp [bxs]) ?_
 have hL3 : (ruR p 5 p.rules.length).length ≤ 1000 := Nat.le_trans ruR_len (by omega)
 simp -implicitDefEqProofs only [pkA, ↓reduceIte, Nat.reduceAdd, Nat.reduceBEq]
 have hf3 : (ruR p 5 p.rules.length).flatMap (fun r : Ru => (fun a b => m3 p none a b) r.a.toNat r.b.toNat) = t3 p none := ruR_flat (D := fun a b => m3 p none a b)
 refine run_loop (fun x : Nat × List In => hdS [(0, .bp 0 0), (5, .c (.sl ((ruR p 5 p.rules.length).map ruC))), (6, i64 x.1)] [lbx p x.2]) (fun x => (ruR p 5 p.rules.length).length - x.1) (fun x => x.1 ≤ (ruR p 5 p.rules.length).length ∧ x.2 ++ ((ruR p 5 p.rules.length).drop x.1).flatMap (fun r : Ru => (fun a b => m3 p none a b) r.a.toNat r.b.toNat) = es ++ t1 p none ++ t2 p none ++ t3 p none) (0, es ++ t1 p none ++ t2 p none) ⟨Nat.zero_le _, by rw [List.drop_zero, hf3]⟩ ?_ ?_
 ·exact (le1 rfl (Nat.le_refl _) (Nat.le_refl _) (by simp [FL, up_apply]) (by simp []))
 rintro ⟨i, cur⟩ ⟨hi, hT⟩ R hnorm hexit hret
 simp only at hi hT
 simp -implicitDefEqProofs only [pkA, ptA, ↓reduceIte, Nat.reduceEqDiff, Nat.reduceAdd, Nat.reduceBEq]
 refine vcond_of (fun hlt => ?_) (fun hge => ?_)
 ·have hlt : i < (ruR p 5 p.rules.length).length := by simpa using hlt
  rw [dropL_cons hlt] at hT
  have hw := wrap_of (n := (i : Int) + 1) (k := i + 1) (by omega) (by omega)
  have hl := congrArg List.length hT
  simp only [List.length_append] at hl
  obtain ⟨r, hr⟩ : ∃ r, r = (ruR p 5 p.rules.length)[i] := ⟨_, rfl⟩
  obtain ⟨a, b, ha, hb, han, hbn⟩ := ruR_at hlt
  have ha : r.a = (a : Int) := by rw [hr]; exact ha
  have hb : r.b = (b : Int) := by rw [hr]; exact hb
  rw [← hr, ha, hb, Int.toNat_natCast, Int.toNat_natCast] at hT hl
  have hws := wrap_of (n := (b : Int) + 1) (k := b + 1) (by omega) (by omega)
  simp -implicitDefEqProofs only [pkA, ↓reduceIte, Nat.reduceAdd, Nat.reduceBEq]
  rw [show m3 p none a b = classL p.types.length (fun s0 => emL none (i3 a b s0)) 1 from rfl] at hT hl
  refine run_loop (fun x : Nat × List In => hdS [(0, .bp 0 0), (5, .c (.sl ((ruR p 5 p.rules.length).map ruC))), (6, i64 i), (7, i64 x.1)] [lbx p x.2]) (fun x => p.types.length + 1 - x.1) (fun x => (1 ≤ x.1 ∧ x.1 ≤ p.types.length + 1) ∧ x.2 ++ classL p.types.length (fun s0 => emL none (i3 a b s0)) x.1 = cur ++ classL p.types.length (fun s0 => emL none (i3 a b s0)) 1) (1, cur) ⟨⟨Nat.le_refl _, by omega⟩, rfl⟩ ?_ ?_
  ·exact (le1 rfl (Nat.le_refl _) (Nat.le_refl _) (by simp [FL, up_apply]) (by simp [bxs]))
  rintro ⟨s0, c0⟩ ⟨⟨hs0a, hs0b⟩, hc0⟩ R0 hnorm0 hexit0 hret0
  simp only at hs0a hs0b hc0
  have hl0 := congrArg List.length hc0
  simp only [List.length_append] at hl0
  simp -implicitDefEqProofs only [pkA, ptA, ↓reduceIte, Nat.reduceEqDiff, Nat.reduceAdd, Nat.reduceBEq, Nat.reduceMul, Nat.reduceLT, pkM]
  refine vcond_of (fun hlt0 => ?_) (fun hge0 => ?_)
  ·have hlt0 : s0 ≤ p.types.length := by simp at hlt0; omega
   rw [classL_cons hlt0] at hc0 hl0
   simp only [List.length_append] at hl0
   have hw0 := wrap_of (n := (s0 : Int) + 1) (k := s0 + 1) (by omega) (by omega)
   simp -implicitDefEqProofs only [pkA, ↓reduceIte, Nat.reduceEqDiff, Nat.reduceAdd, Nat.reduceBEq]
   have hd : (emL none (i3 a b s0)).length = 1 := rfl
   repeat first
    | (simp -implicitDefEqProofs only [pkA, ptA, ↓reduceIte, Nat.reduceEqDiff, Nat.reduceAdd, Nat.reduceBEq, pkM, ha, hb, hws])
    | refine ia_of ti_23 rfl ti_55 (by decide) (Int.natCast_nonneg i) (c := ruC r) (by simp [hr, hlt]) rfl ?_
    | refine call_fn rfl (rHandle_ok _ _) (fun _ => rfl) ?_
    | refine call_fn rfl (rBlob_ok _ _) (fun _ => rfl) ?_
    | refine call_fn rfl (rLeak_ok _) (fun _ => rfl) ?_
    | refine call_fn rfl (rRaw_ok _) (fun _ => rfl) ?_
   refine call_box rfl (add_ok p c0 3 (handleF s0 a) zfa (handleF (b + 1 : Nat) b) (by omega)) rfl rfl (by simp [bxs]) ?_
   have hx : addX 3 (handleF s0 a) zfa (handleF (b + 1 : Nat) b) = i3 a b s0 := addX_b (by simp [handleF])
   rw [hx]
   simp -implicitDefEqProofs only [pkA, ↓reduceIte, Nat.reduceEqDiff, Nat.reduceAdd, Nat.reduceBEq, hw0]
   exact hnorm0 (s0 + 1, c0 ++ [i3 a b s0]) _ ⟨⟨by omega, by omega⟩, by rw [List.append_assoc]; exact hc0⟩ (by simp only; omega) (le1 rfl (Nat.le_refl _) (Nat.le_refl _) (by simp [FL, up_apply]) (by simp []))
  have hie0 : s0 = p.types.length + 1 := by simp at hge0; omega
  subst hie0
  rw [classL_end (Nat.lt_succ_self _), List.append_nil] at hc0
  subst hc0
  simp -implicitDefEqProofs only [pkA]
  refine hexit0 _ _ ?_
  simp -implicitDefEqProofs only [pkA, ↓reduceIte, Nat.reduceEqDiff, Nat.reduceAdd, Nat.reduceBEq, hw]
  exact hnorm (i + 1, cur ++ classL p.types.length (fun s0 => emL none (i3 a b s0)) 1) _ ⟨hlt, by rw [List.append_assoc]; exact hT⟩ (by simp only; omega) (le1 rfl (Nat.le_refl _) (Nat.le_refl _) (by simp [FL, up_apply]) (by simp [bxs]))
 have hie : i = (ruR p 5 p.rules.length).length := by simp at hge; omega
 subst hie
 rw [List.drop_length, List.flatMap_nil, List.append_nil] at hT
 subst hT
 simp -implicitDefEqProofs only [pkA]
 refine hexit _ _ ?_
 simp -implicitDefEqProofs only [pkA, ↓reduceIte, Nat.reduceAdd, Nat.reduceBEq]
 have hL4 : (ruR p 5 p.rules.length).length ≤ 1000 := Nat.le_trans ruR_len (by omega)
 have hf4 : (ruR p 5 p.rules.length).flatMap (fun r : Ru => (fun a b => emL none (i4 a b)) r.a.toNat r.b.toNat) = t4 p none := ruR_flat (D := fun a b => emL none (i4 a b))
 refine run_loop (fun x : Nat × List In => hdS [(0, .bp 0 0), (5, .c (.sl ((ruR p 5 p.rules.length).map ruC))), (8, i64 x.1)] [lbx p x.2]) (fun x => (ruR p 5 p.rules.length).length - x.1) (fun x => x.1 ≤ (ruR p 5 p.rules.length).length ∧ x.2 ++ ((ruR p 5 p.rules.length).drop x.1).flatMap (fun r : Ru => (fun a b => emL none (i4 a b)) r.a.toNat r.b.toNat) = es ++ t1 p none ++ t2 p none ++ t3 p none ++ t4 p none) (0, es ++ t1 p none ++ t2 p none ++ t3 p none) ⟨Nat.zero_le _, by rw [List.drop_zero, hf4]⟩ ?_ ?_
 ·exact (le1 rfl (Nat.le_refl _) (Nat.le_refl _) (by simp [FL, up_apply]) (by simp [bxs]))
 rintro ⟨i, cur⟩ ⟨hi, hT⟩ R hnorm hexit hret
 simp only at hi hT
 simp -implicitDefEqProofs only [pkA, ptA, ↓reduceIte, Nat.reduceEqDiff, Nat.reduceAdd, Nat.reduceBEq]
 refine vcond_of (fun hlt => ?_) (fun hge => ?_)
 ·have hlt : i < (ruR p 5 p.rules.length).length := by simpa using hlt
  rw [dropL_cons hlt] at hT
  have hw := wrap_of (n := (i : Int) + 1) (k := i + 1) (by omega) (by omega)
  have hl := congrArg List.length hT
  simp only [List.length_append] at hl
  obtain ⟨r, hr⟩ : ∃ r, r = (ruR p 5 p.rules.length)[i] := ⟨_, rfl⟩
  obtain ⟨a, b, ha, hb, han, hbn⟩ := ruR_at hlt
  have ha : r.a = (a : Int) := by rw [hr]; exact ha
  have hb : r.b = (b : Int) := by rw [hr]; exact hb
  rw [← hr, ha, hb, Int.toNat_natCast, Int.toNat_natCast] at hT hl
  simp -implicitDefEqProofs only [pkA, ↓reduceIte, Nat.reduceEqDiff, Nat.reduceAdd, Nat.reduceBEq]
  have hd : (emL none (i4 a b)).length = 1 := rfl
  repeat first
   | (simp -implicitDefEqProofs only [pkA, ptA, ↓reduceIte, Nat.reduceEqDiff, Nat.reduceAdd, Nat.reduceBEq, pkM, ha, hb])
   | refine ia_of ti_23 rfl ti_55 (by decide) (Int.natCast_nonneg i) (c := ruC r) (by simp [hr, hlt]) rfl ?_
   | refine call_fn rfl (rHandle_ok _ _) (fun _ => rfl) ?_
   | refine call_fn rfl (rBlob_ok _ _) (fun _ => rfl) ?_
   | refine call_fn rfl (rLeak_ok _) (fun _ => rfl) ?_
   | refine call_fn rfl (rRaw_ok _) (fun _ => rfl) ?_
  refine call_box rfl (add_ok p cur 4 (handleF 0 a) zfa (handleF 0 b) (by omega)) rfl rfl (by simp [bxs]) ?_
  have hx : addX 4 (handleF 0 a) zfa (handleF 0 b) = i4 a b := addX_b (by simp [handleF])
  rw [hx]
  simp -implicitDefEqProofs only [pkA, ↓reduceIte, Nat.reduceEqDiff, Nat.reduceAdd, Nat.reduceBEq, hw]
  exact hnorm (i + 1, cur ++ [i4 a b]) _ ⟨hlt, by rw [List.append_assoc]; exact hT⟩ (by simp only; omega) (le1 rfl (Nat.le_refl _) (Nat.le_refl _) (by simp [FL, up_apply]) (by simp []))
 have hie : i = (ruR p 5 p.rules.length).length := by simp at hge; omega
 subst hie
 rw [List.drop_length, List.flatMap_nil, List.append_nil] at hT
 subst hT
 simp -implicitDefEqProofs only [pkA]
 refine hexit _ _ ?_
 simp -implicitDefEqProofs only [pkA, ↓reduceIte, Nat.reduceAdd, Nat.reduceBEq]
 have hL5 : (ruR p 5 p.rules.length).length ≤ 1000 := Nat.le_trans ruR_len (by omega)
 have hf5 : (ruR p 5 p.rules.length).flatMap (fun r : Ru => (fun a b => m5 p none a b) r.a.toNat r.b.toNat) = t5 p none := ruR_flat (D := fun a b => m5 p none a b)
 refine run_loop (fun x : Nat × List In => hdS [(0, .bp 0 0), (5, .c (.sl ((ruR p 5 p.rules.length).map ruC))), (9, i64 x.1)] [lbx p x.2]) (fun x => (ruR p 5 p.rules.length).length - x.1) (fun x => x.1 ≤ (ruR p 5 p.rules.length).length ∧ x.2 ++ ((ruR p 5 p.rules.length).drop x.1).flatMap (fun r : Ru => (fun a b => m5 p none a b) r.a.toNat r.b.toNat) = es ++ t1 p none ++ t2 p none ++ t3 p none ++ t4 p none ++ t5 p none) (0, es ++ t1 p none ++ t2 p none ++ t3 p none ++ t4 p none) ⟨Nat.zero_le _, by rw [List.drop_zero, hf5]⟩ ?_ ?_
 ·exact (le1 rfl (Nat.le_refl _) (Nat.le_refl _) (by simp [FL, up_apply]) (by simp [bxs]))
 rintro ⟨i, cur⟩ ⟨hi, hT⟩ R hnorm hexit hret
 simp only at hi hT
 simp -implicitDefEqProofs only [pkA, ptA, ↓reduceIte, Nat.reduceEqDiff, Nat.reduceAdd, Nat.reduceBEq]
 refine vcond_of (fun hlt => ?_) (fun hge => ?_)
 ·have hlt : i < (ruR p 5 p.rules.length).length := by simpa using hlt
  rw [dropL_cons hlt] at hT
  have hw := wrap_of (n := (i : Int) + 1) (k := i + 1) (by omega) (by omega)
  have hl := congrArg List.length hT
  simp only [List.length_append] at hl
  obtain ⟨r, hr⟩ : ∃ r, r = (ruR p 5 p.rules.length)[i] := ⟨_, rfl⟩
  obtain ⟨a, b, ha, hb, han, hbn⟩ := ruR_at hlt
  have ha : r.a = (a : Int) := by rw [hr]; exact ha
  have hb : r.b = (b : Int) := by rw [hr]; exact hb
  rw [← hr, ha, hb, Int.toNat_natCast, Int.toNat_natCast] at hT hl
  have hws := wrap_of (n := (b : Int) + 1) (k := b + 1) (by omega) (by omega)
  simp -implicitDefEqProofs only [pkA, ↓reduceIte, Nat.reduceAdd, Nat.reduceBEq]
  rw [show m5 p none a b = classL p.types.length (fun s0 => emL none (i5 a b s0)) 1 from rfl] at hT hl
  refine run_loop (fun x : Nat × List In => hdS [(0, .bp 0 0), (5, .c (.sl ((ruR p 5 p.rules.length).map ruC))), (9, i64 i), (10, i64 x.1)] [lbx p x.2]) (fun x => p.types.length + 1 - x.1) (fun x => (1 ≤ x.1 ∧ x.1 ≤ p.types.length + 1) ∧ x.2 ++ classL p.types.length (fun s0 => emL none (i5 a b s0)) x.1 = cur ++ classL p.types.length (fun s0 => emL none (i5 a b s0)) 1) (1, cur) ⟨⟨Nat.le_refl _, by omega⟩, rfl⟩ ?_ ?_
  ·exact (le1 rfl (Nat.le_refl _) (Nat.le_refl _) (by simp [FL, up_apply]) (by simp [bxs]))
  rintro ⟨s0, c0⟩ ⟨⟨hs0a, hs0b⟩, hc0⟩ R0 hnorm0 hexit0 hret0
  simp only at hs0a hs0b hc0
  have hl0 := congrArg List.length hc0
  simp only [List.length_append] at hl0
  simp -implicitDefEqProofs only [pkA, ptA, ↓reduceIte, Nat.reduceEqDiff, Nat.reduceAdd, Nat.reduceBEq, Nat.reduceMul, Nat.reduceLT, pkM]
  refine vcond_of (fun hlt0 => ?_) (fun hge0 => ?_)
  ·have hlt0 : s0 ≤ p.types.length := by simp at hlt0; omega
   rw [classL_cons hlt0] at hc0 hl0
   simp only [List.length_append] at hl0
   have hw0 := wrap_of (n := (s0 : Int) + 1) (k := s0 + 1) (by omega) (by omega)
   simp -implicitDefEqProofs only [pkA, ↓reduceIte, Nat.reduceEqDiff, Nat.reduceAdd, Nat.reduceBEq]
   have hd : (emL none (i5 a b s0)).length = 1 := rfl
   repeat first
    | (simp -implicitDefEqProofs only [pkA, ptA, ↓reduceIte, Nat.reduceEqDiff, Nat.reduceAdd, Nat.reduceBEq, pkM, ha, hb, hws])
    | refine ia_of ti_23 rfl ti_55 (by decide) (Int.natCast_nonneg i) (c := ruC r) (by simp [hr, hlt]) rfl ?_
    | refine call_fn rfl (rHandle_ok _ _) (fun _ => rfl) ?_
    | refine call_fn rfl (rBlob_ok _ _) (fun _ => rfl) ?_
    | refine call_fn rfl (rLeak_ok _) (fun _ => rfl) ?_
    | refine call_fn rfl (rRaw_ok _) (fun _ => rfl) ?_
   refine call_box rfl (add_ok p c0 5 (handleF s0 a) (leakF s0) (leakF (b + 1 : Nat)) (by omega)) rfl rfl (by simp [bxs]) ?_
   have hx : addX 5 (handleF s0 a) (leakF s0) (leakF (b + 1 : Nat)) = i5 a b s0 := addX_c (by simp [handleF]) (by simp [leakF])
   rw [hx]
   simp -implicitDefEqProofs only [pkA, ↓reduceIte, Nat.reduceEqDiff, Nat.reduceAdd, Nat.reduceBEq, hw0]
   exact hnorm0 (s0 + 1, c0 ++ [i5 a b s0]) _ ⟨⟨by omega, by omega⟩, by rw [List.append_assoc]; exact hc0⟩ (by simp only; omega) (le1 rfl (Nat.le_refl _) (Nat.le_refl _) (by simp [FL, up_apply]) (by simp []))
  have hie0 : s0 = p.types.length + 1 := by simp at hge0; omega
  subst hie0
  rw [classL_end (Nat.lt_succ_self _), List.append_nil] at hc0
  subst hc0
  simp -implicitDefEqProofs only [pkA]
  refine hexit0 _ _ ?_
  simp -implicitDefEqProofs only [pkA, ↓reduceIte, Nat.reduceEqDiff, Nat.reduceAdd, Nat.reduceBEq, hw]
  exact hnorm (i + 1, cur ++ classL p.types.length (fun s0 => emL none (i5 a b s0)) 1) _ ⟨hlt, by rw [List.append_assoc]; exact hT⟩ (by simp only; omega) (le1 rfl (Nat.le_refl _) (Nat.le_refl _) (by simp [FL, up_apply]) (by simp [bxs]))
 have hie : i = (ruR p 5 p.rules.length).length := by simp at hge; omega
 subst hie
 rw [List.drop_length, List.flatMap_nil, List.append_nil] at hT
 subst hT
 simp -implicitDefEqProofs only [pkA]
 refine hexit _ _ ?_
 simp -implicitDefEqProofs only [pkA, ↓reduceIte]
 exact end1n rfl (Nat.le_refl _) (by simp [bxs])
