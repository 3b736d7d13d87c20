/- Layer 27: tables: a new one, and one more key. -/
import Derived.Test.YtidlohfkfdeaiaaDoorVlY4
set_option linter.unusedSimpArgs false
set_option linter.unusedVariables false
namespace Go.Proofs.YtidlohfkfdeaiaaDoor
open Go Go.Vl

variable {G : Gl}
theorem wrapI {n : Int} (h : I64 n) : IntKind.i64.wrap n = n := by
  have hb : IntKind.i64.bits = 64 := rfl
  have hs : IntKind.i64.signed = true := rfl
  obtain ⟨h1, h2⟩ := h
  unfold IntKind.wrap
  simp only [hb, hs, Bool.true_and, decide_eq_true_eq]
  split <;> omega
abbrev EK : Option (TypeId × Nat) := some (26, 9)
set_option maxRecDepth 100000 in
theorem apK {E : Option (TypeId × Nat)} {es : List (List C)} {k : Ky} {K : V → Prop} (h0 : E = none ∨ E = EK) (hl : es.length ≤ 10000000) (hs : ∀ x ∈ es, x.length = 9) (hK : K (.ow EK (es ++ [kC k]))) : vappend Tryd.prog 22 (.ow E es) (.c (.sl [kC k])) K := by
  simp only [vappend, ti_22, ti_26]
  refine ⟨⟨by decide, rfl, h0, hs⟩, ⟨?_, ?_, by simp [kC_len]⟩, hK⟩
  · simp only [List.length_cons, List.length_nil]; omega
  · simp only [List.length_cons, List.length_nil]; omega
theorem lda_tv {t : Tb} {nb b : Nat} {K : V → Prop} (hb : b < nb) (hK : K (tv t)) : ldA nb b [V.c (ic t.nx), V.c (.sl (t.ks.map kC))] 0 2 K := by
  have e : [V.c (ic t.nx), V.c (.sl (t.ks.map kC))] = cl id (tC t) := rfl
  rw [e]
  refine ldA_cl hb rfl ?_
  rw [List.map_id]; exact hK
theorem clip_of {P : Program} {T e : TypeId} {i j : TI} {k k' : IntKind} {es : List (List C)} {K : V → Prop} (hT : ti P T = some i) (hk : i.kd = .slice e) (hE : ti P e = some j) (hs : ∀ x ∈ es, x.length = j.size) (hK : K (.ow none es)) :
    vslice P T (.c (.sl es)) none (some (.c (.lit (.int k (es.length : Nat))))) (some (.c (.lit (.int k' (es.length : Nat))))) K := by
  obtain ⟨a1, a2, a3, a4, a5, a6, a7⟩ := i
  simp only at hk; subst hk
  simp only [vslice, hT, hE, optInt]
  refine ⟨⟨by omega, by omega, by omega, trivial, hs⟩, ?_⟩
  rw [Int.toNat_natCast, List.take_length]; exact hK
set_option maxRecDepth 100000 in
theorem New_ok : FnOK Tryd.prog G 36 [] (tv ⟨1, []⟩) := by
  refine FnOK_by (rs := [.cell 0 24]) false [] mixed Tryd.func36 rfl rfl rfl rfl (by kernel_rfl) (by simp) rfl rfl ?_
  simp -implicitDefEqProofs only [pkA, ptA, ↓reduceIte, Nat.reduceEqDiff, Nat.reduceAdd, Nat.reduceMul, Nat.reduceLT, Nat.reduceLeDiff, Nat.zero_add, decide_true]
  exact ⟨rfl, lda_tv (t := ⟨1, []⟩) (Nat.lt_succ_self 0) rfl⟩
set_option maxRecDepth 100000 in
theorem Clip_ok (ks : List Ky) : FnOK Tryd.prog G 73 [.c (.sl (ks.map kC))] (.ow none (ks.map kC)) := by
  refine FnOK_by (rs := [.tmp 2]) false [] mixed Tryd.func73 rfl rfl rfl rfl (by kernel_rfl) (by simp) rfl rfl ?_
  simp -implicitDefEqProofs only [pkA, ptA, ↓reduceIte, Nat.reduceEqDiff, Nat.reduceAdd, Nat.zero_add]
  refine clip_of ti_22 rfl ti_26 (fun x hx => ?_) ?_
  · obtain ⟨k, _, rfl⟩ := List.mem_map.1 hx; rfl
  simp -implicitDefEqProofs only [pkA, ↓reduceIte]
set_option maxRecDepth 100000 in
theorem retV_ctt {P : Program} {fr : Nat → V} {bx : Nat → List V} {nb : Nat} {d e f : V} {p u v : Tmp} {T : TypeId} (h1 : resV P ⟨fr, bx, nb⟩ (.cell p T) fun v => v.fz = d) (h2 : (fr u).fz = e) (h3 : (fr v).fz = f) : retV P false ⟨fr, bx, nb⟩ (.tup [d, e, f]) [.cell p T, .tmp u, .tmp v] := by
  refine ⟨_, rfl, rfl, fun i R x hR hx => ?_⟩
  match i with
  | 0 => simp only [List.getElem?_cons_zero, Option.some.injEq] at hR hx; subst hR; subst hx; exact h1
  | 1 => simp only [List.getElem?_cons_succ, List.getElem?_cons_zero, Option.some.injEq] at hR hx; subst hR; subst hx; exact h2
  | 2 => simp only [List.getElem?_cons_succ, List.getElem?_cons_zero, Option.some.injEq] at hR hx; subst hR; subst hx; exact h3
  | n + 3 => simp at hR
set_option maxRecDepth 100000 in
theorem retT3 {b : Nat} {fr : Nat → V} {bx : Nat → List V} {e f : Int} {t : Tb} {c u v nb : Nat} (h1 : fr c = .bp b 0) (hb : b < nb) (h2 : bx b = [V.c (ic t.nx), V.c (.sl (t.ks.map kC))]) (h3 : (fr u).fz = i64 e) (h4 : (fr v).fz = i64 f) :
    retV Tryd.prog false ⟨fr, bx, nb⟩ (.tup [tv t, i64 e, i64 f]) [.cell c 24, .tmp u, .tmp v] := by
  refine retV_ctt ?_ h3 h4
  have hm : isMb [V.c (ic t.nx), V.c (.sl (t.ks.map kC))] = false := rfl
  have hld : vload Tryd.prog 24 ⟨fr, bx, nb⟩ (.bp b 0) (fun v => v.fz = tv t) := by
    rw [ldA_of ti_24 rfl rfl, h2]
    exact ⟨hm, lda_tv hb rfl⟩
  show vload Tryd.prog 24 ⟨fr, bx, nb⟩ (fr c) _
  rw [h1]; exact hld
def addT (t : Tb) (k : Ky) : Tb × Int × Int :=
  if !validK k || decide (t.nx ≤ k.par) then (⟨0, []⟩, 0, 1) else
  if 4096 ≤ t.ks.length ∨ 2147483647 ≤ t.nx then (⟨0, []⟩, 0, 2) else (⟨t.nx + 1, t.ks ++ [{ k with id := t.nx }]⟩, t.nx, 0)
set_option maxRecDepth 100000 in
set_option maxHeartbeats 1500000 in
theorem Add_ok27 (t : Tb) (k : Ky) (hl : t.ks.length ≤ 1000000) (hn : I64 t.nx) : FnOK Tryd.prog G 38 [tv t, kv k] (.tup [tv (addT t k).1, i64 (addT t k).2.1, i64 (addT t k).2.2]) := by
  refine FnOK_by (rs := [.cell 4 24, .tmp 5, .tmp 6]) false [200034, 303400, 200037, 303700, 200039, 303901, 200044, 304401, 200004, 300402] mixed Tryd.func38 rfl rfl rfl rfl (by kernel_rfl) (by simp) rfl rfl ?_
  obtain ⟨nx, ks⟩ := t
  simp only at hl hn
  have hat : addT ⟨nx, ks⟩ k = if !validK k || decide (nx ≤ k.par) then (⟨0, []⟩, 0, 1) else
    if 4096 ≤ ks.length ∨ 2147483647 ≤ nx then (⟨0, []⟩, 0, 2) else (⟨nx + 1, ks ++ [{ k with id := nx }]⟩, nx, 0) := rfl
  rw [hat]
  have p7 : ∀ K, partV false 1 7 (kC k) K = K (i64 k.par) := fun K => rfl
  simp -implicitDefEqProofs only [pkA, ptA, ↓reduceIte, Nat.reduceEqDiff, Nat.reduceAdd, Nat.reduceBEq, Nat.reduceMul, Nat.reduceLT, Nat.zero_add, decide_true, tC]
  refine lda_kv (by decide) ?_
  simp -implicitDefEqProofs only [pkA, ↓reduceIte, Nat.reduceAdd, Nat.reduceBEq]
  refine call_fn rfl (Valid_ok k) (fun _ => rfl) ?_
  cases h1 : validK k
  · simp -implicitDefEqProofs only [pkA, ptA, ↓reduceIte, Nat.reduceEqDiff, Nat.reduceAdd, Nat.reduceBEq, Nat.reduceMul, Nat.reduceLT, Nat.reduceLeDiff, Nat.zero_add, decide_true]
    exact retT3 (t := ⟨0, []⟩) rfl (Nat.lt_succ_self 2) rfl rfl rfl
  simp -implicitDefEqProofs only [pkA, ptA, ↓reduceIte, Nat.reduceEqDiff, Nat.reduceAdd, Nat.reduceBEq, Nat.reduceMul, Nat.reduceLT, Nat.zero_add, decide_true, p7]
  cases h2 : decide (nx ≤ k.par)
  case true =>
    simp -implicitDefEqProofs only [pkA, ptA, ↓reduceIte, Nat.reduceEqDiff, Nat.reduceAdd, Nat.reduceBEq, Nat.reduceMul, Nat.reduceLT, Nat.reduceLeDiff, Nat.zero_add, decide_true]
    exact retT3 (t := ⟨0, []⟩) rfl (Nat.lt_succ_self 2) rfl rfl rfl
  simp -implicitDefEqProofs only [pkA, ptA, ↓reduceIte, Nat.reduceEqDiff, Nat.reduceAdd, Nat.reduceBEq, Nat.reduceMul, Nat.reduceLT, Nat.zero_add, decide_true, List.length_map]
  by_cases hb : 4096 ≤ ks.length
  · have d1 : decide ((4096 : Int) ≤ (ks.length : Nat)) = true := decide_eq_true (by omega)
    rw [if_pos (Or.inl hb)]
    simp -implicitDefEqProofs only [pkA, ptA, ↓reduceIte, Nat.reduceEqDiff, Nat.reduceAdd, Nat.reduceBEq, Nat.reduceMul, Nat.reduceLT, Nat.reduceLeDiff, Nat.zero_add, decide_true, d1]
    exact retT3 (t := ⟨0, []⟩) rfl (Nat.lt_succ_self 2) rfl rfl rfl
  have d1 : decide ((4096 : Int) ≤ (ks.length : Nat)) = false := decide_eq_false (by omega)
  simp -implicitDefEqProofs only [pkA, ptA, ↓reduceIte, Nat.reduceEqDiff, Nat.reduceAdd, Nat.reduceBEq, Nat.reduceMul, Nat.reduceLT, Nat.zero_add, decide_true, d1]
  by_cases hn2 : 2147483647 ≤ nx
  · have d2 : decide ((2147483647 : Int) ≤ nx) = true := decide_eq_true hn2
    rw [if_pos (Or.inr hn2)]
    simp -implicitDefEqProofs only [pkA, ptA, ↓reduceIte, Nat.reduceEqDiff, Nat.reduceAdd, Nat.reduceBEq, Nat.reduceMul, Nat.reduceLT, Nat.reduceLeDiff, Nat.zero_add, decide_true, d2]
    exact retT3 (t := ⟨0, []⟩) rfl (Nat.lt_succ_self 2) rfl rfl rfl
  have d2 : decide ((2147483647 : Int) ≤ nx) = false := decide_eq_false hn2
  have hno : ¬ (4096 ≤ ks.length ∨ 2147483647 ≤ nx) := fun h => h.elim hb hn2
  rw [if_neg hno]
  have hw : IntKind.i64.wrap (nx + 1) = nx + 1 := wrapI ⟨by have := hn.1; omega, by omega⟩
  simp -implicitDefEqProofs only [pkA, ptA, ↓reduceIte, Nat.reduceEqDiff, Nat.reduceAdd, Nat.reduceBEq, Nat.reduceMul, Nat.reduceLT, Nat.zero_add, decide_true, d2, hw]
  have hs1 : setV ((kC k).map V.c) 0 [V.c (ic nx)] = (kC { k with id := nx }).map V.c := rfl
  rw [hs1]
  have p0 : ∀ k K, partV false 1 0 (kC k) K = K (i64 k.id) := fun k K => rfl
  have hkid : ({ k with id := nx } : Ky).id = nx := rfl
  generalize ({ k with id := nx } : Ky) = k' at *
  refine ⟨by simp [kC_len], ?_⟩
  refine call_fn rfl (Clip_ok ks) (fun h => by cases h) ?_
  simp -implicitDefEqProofs only [pkA, ptA, ↓reduceIte, Nat.reduceEqDiff, Nat.reduceAdd, Nat.reduceBEq, Nat.reduceMul, Nat.reduceLT, decide_true]
  refine lda_kv (Nat.lt_succ_of_lt (Nat.lt_succ_self 1)) ?_
  simp -implicitDefEqProofs only [pkA, ptA, ↓reduceIte, Nat.reduceEqDiff, Nat.reduceAdd, Nat.reduceBEq, Nat.reduceMul, Nat.reduceLeDiff, Nat.zero_add, kv]
  refine apK (Or.inl rfl) (by rw [List.length_map]; omega) (fun x hx => by obtain ⟨q, _, rfl⟩ := List.mem_map.1 hx; rfl) ?_
  simp -implicitDefEqProofs only [pkA, ptA, ↓reduceIte, Nat.reduceEqDiff, Nat.reduceAdd, Nat.reduceBEq, Nat.reduceMul, Nat.reduceLT, Nat.reduceLeDiff, Nat.zero_add, decide_true, p0, hkid]
  exact retT3 (t := ⟨nx + 1, ks ++ [k']⟩) rfl (Nat.lt_succ_self 2) (by show _ = [V.c (ic (nx + 1)), V.c (.sl ((ks ++ [k']).map kC))]; rw [List.map_append]; rfl) rfl rfl
end Go.Proofs.YtidlohfkfdeaiaaDoor
