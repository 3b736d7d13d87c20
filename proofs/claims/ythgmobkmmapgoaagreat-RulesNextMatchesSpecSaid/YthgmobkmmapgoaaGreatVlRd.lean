/- Layer 17, the specification: Using, Closed, Next. -/
import Derived.Test.YthgmobkmmapgoaaGreatVlRb
set_option linter.unusedSimpArgs false
set_option linter.unusedVariables false
namespace Go.Proofs.YthgmobkmmapgoaaGreat
open Go Go.Vl
variable {G : Gl}
set_option maxRecDepth 4000
theorem lenIn {l : List In} {K : V → Prop} : vlen Tryz.prog 40 (.c (insC l)) K = K (i64 l.length) := by unfold insC; rw [len_40, List.length_map]
theorem lenFs2 {l : List Fa} {K : V → Prop} : vlen Tryz.prog 27 (.c (fsC l)) K = K (i64 l.length) := by unfold fsC; rw [len_27, List.length_map]
theorem lok_pol {p : Pol} {nb q : Nat} {K : V → Prop} : ldA nb q ((poC p).map .c) 0 4 K = (q < nb ∧ K (.agg (poC p))) := by
 unfold ldA
 exact propext ⟨fun h => ⟨h.1, h.2.2⟩, fun h => ⟨h.1, ⟨rfl, rfl⟩, h.2⟩⟩
theorem isMb_pol {p : Pol} : isMb ((poC p).map V.c) = false := rfl
theorem owI_fz {l : List In} : (owI l).fz = .c (insC l) := rfl
theorem owI_ow {l : List In} : (owI l).isOw = true := rfl
theorem pkU : type_of% (And.intro @pkM (And.intro @lenIn (And.intro @lenFs2 (And.intro @lok_fa (And.intro @lok_pol (And.intro @isMb_fa (And.intro @isMb_pol (And.intro @owI_fz (@owI_ow))))))))) := ⟨@pkM, @lenIn, @lenFs2, @lok_fa, @lok_pol, @isMb_fa, @isMb_pol, @owI_fz, @owI_ow⟩
theorem rInst_k (p : Pol) (hn : p.types.length ≤ 1000) (hr : p.rules.length ≤ 1000) (hlen : (allL p none).length ≤ 20000) : FnOK Tryz.prog G 25 [.agg (poC p)] (.c (insC (allL p none))) := rInst_ok p hn hr hlen
theorem retV_ctI {d e : V} {c u : Tmp} {T : TypeId} {fr : Nat → V} {bx : Nat → List V} {nb : Nat} (h1 : resV Tryz.prog ⟨fr, bx, nb⟩ (.cell c T) fun v => v.fz = d) (h2 : (fr u).fz = e) : retV Tryz.prog false ⟨fr, bx, nb⟩ (.tup [d, e]) [.cell c T, .tmp u] := by
 refine ⟨_, rfl, rfl, fun i R x hR hx => ?_⟩
 match i with
 | 0 => simp only [List.getElem?_cons_zero, Option.some.injEq] at hR hx; subst hR; subst hx; exact h1
 | 1 => simp only [List.getElem?_cons_succ, List.getElem?_cons_zero, Option.some.injEq] at hR hx; subst hR; subst hx; exact h2
 | n + 2 => simp at hR
theorem retIn {b : Nat} {fr : Nat → V} {bx : Nat → List V} {x : In} {e : Bool} {c u nb : Nat} (h1 : fr c = .bp b 0) (hb : b < nb) (h2 : bx b = (inC x).map .c) (h3 : (fr u).fz = bo e) : retV Tryz.prog false ⟨fr, bx, nb⟩ (.tup [.agg (inC x), bo e]) [.cell c 50, .tmp u] := by
 refine retV_ctI ?_ h3
 show vload Tryz.prog 50 ⟨fr, bx, nb⟩ (fr c) _
 rw [h1, ldA_of ti_50 rfl rfl, h2]
 exact ⟨isMb_in, by rw [show ldA nb b ((inC x).map .c) 0 3 _ = _ from lok_in]; exact ⟨hb, rfl⟩⟩
def goesR (l : List Fa) (x : In) : Bool := (x.pre.all fun f => decide (f ∈ l)) && !(x.con.all fun f => decide (f ∈ l))
def closedR (l : List Fa) (m : List In) : In × Bool := match m.find? (goesR l) with
 | none => (in0, true)
 | some x => (x, false)
set_option maxHeartbeats 1000000 in
theorem rClosed_ok (p : Pol) (l : List Fa) (hn : p.types.length ≤ 1000) (hr : p.rules.length ≤ 1000) (hlen : (allL p none).length ≤ 20000) (hs2 : small2 (allL p none)) (hll : l.length ≤ 1000000) :
  FnOK Tryz.prog G 29 [.agg (poC p), .c (fsC l)] (.tup [.agg (inC (closedR l (allL p none)).1), bo (closedR l (allL p none)).2]) := by
 refine FnOK_by (rs := [.cell 4 50, .tmp 5]) false [] mixed Tryz.func29 rfl rfl rfl rfl (by kernel_rfl) (by simp) rfl rfl ?_
 simp -implicitDefEqProofs only [pkA, ptA, ↓reduceIte, Nat.reduceEqDiff, Nat.reduceAdd, Nat.reduceMul, Nat.reduceLT, pkU]
 refine call_fn rfl (rInst_k p hn hr hlen) (fun h => by cases h) ?_
 simp -implicitDefEqProofs only [pkA, ↓reduceIte, Nat.reduceAdd]
 generalize allL p none = m at hlen hs2
 have hbnd : ∀ x ∈ m, x.pre.length ≤ 1000000000 ∧ x.con.length ≤ 1000000000 := fun x hx => by have := hs2 x hx; omega
 refine run_loop (fun i : Nat => hdS [(1, .c (fsC l)), (4, .bp 1 0), (6, .c (insC m)), (7, i64 i)] [(poC p).map .c, [i64 0, .ow none [], .ow none []]]) (fun i => m.length - i) (fun i => i ≤ m.length ∧ ∀ x ∈ m.take i, goesR l x = false) 0 ⟨Nat.zero_le _, by simp⟩ ?_ ?_
 ·exact le_hd rfl (Nat.zero_le _) (Nat.le_refl _) (by simp [FL, up_apply]) (by simp [BL, up_apply])
 rintro i ⟨hi, ht⟩ R hnorm hexit hret
 simp -implicitDefEqProofs only [pkA, ↓reduceIte, Nat.reduceEqDiff, Nat.reduceAdd, pkU]
 refine vcond_of (fun hlt => ?_) (fun hge => ?_)
 ·have hlt : i < m.length := by simpa using hlt
  have hw := wrap_of (n := (i : Int) + 1) (k := i + 1) (by omega) (by omega)
  obtain ⟨hb1, hb2⟩ := hbnd m[i] (List.getElem_mem hlt)
  simp -implicitDefEqProofs only [pkA, ↓reduceIte, Nat.reduceEqDiff, Nat.reduceAdd]
  refine ia_of ti_40 rfl ti_50 (by decide) (Int.natCast_nonneg i) (c := inC m[i]) (by simp [hlt]) rfl ?_
  simp -implicitDefEqProofs only [pkA, ptA, ↓reduceIte, Nat.reduceEqDiff, Nat.reduceAdd, pkU]
  refine call_fn rfl (All_ok l m[i].pre (by omega) hb1) (fun _ => rfl) ?_
  simp -implicitDefEqProofs only [pkA, ↓reduceIte, Nat.reduceEqDiff, Nat.reduceAdd]
  refine ia_of ti_40 rfl ti_50 (by decide) (Int.natCast_nonneg i) (c := inC m[i]) (by simp [hlt]) rfl ?_
  simp -implicitDefEqProofs only [pkA, ptA, ↓reduceIte, Nat.reduceEqDiff, Nat.reduceAdd, pkU]
  refine call_fn rfl (All_ok l m[i].con (by omega) hb2) (fun _ => rfl) ?_
  have stay : goesR l m[i] = false → ∀ x ∈ m.take (i + 1), goesR l x = false := fun h x hx => by
   rw [List.take_succ_eq_append_getElem hlt, List.mem_append, List.mem_singleton] at hx
   rcases hx with hx | rfl
   ·exact ht x hx
   ·exact h
  have hg : goesR l m[i] = ((m[i].pre.all fun f => decide (f ∈ l)) && !(m[i].con.all fun f => decide (f ∈ l))) := rfl
  cases h1 : (m[i].pre.all fun f => decide (f ∈ l))
  ·simp -implicitDefEqProofs only [pkA, ↓reduceIte, Nat.reduceEqDiff, Nat.reduceAdd, hw]
   exact hnorm (i + 1) _ ⟨hlt, stay (by rw [hg, h1]; rfl)⟩ (by omega) (le_hd rfl (Nat.zero_le _) (Nat.le_refl _) (by simp [FL, up_apply]) (by simp [BL, bxs]))
  ·cases h2 : (m[i].con.all fun f => decide (f ∈ l))
   ·simp -implicitDefEqProofs only [pkA, ↓reduceIte, Nat.reduceEqDiff, Nat.reduceAdd]
    refine ia_of ti_40 rfl ti_50 (by decide) (Int.natCast_nonneg i) (c := inC m[i]) (by simp [hlt]) rfl ?_
    simp -implicitDefEqProofs only [pkA, ptA, ↓reduceIte, Nat.reduceEqDiff, Nat.reduceAdd, Nat.reduceMul, Nat.reduceLT, Nat.reduceLeDiff, pkU]
    have hs : ∀ a b c : V, setV [a, b, c] 0 ((inC m[i]).map .c) = (inC m[i]).map .c := fun _ _ _ => rfl
    have hf : closedR l m = (m[i], false) := by
     have : m.find? (goesR l) = some m[i] := by
      rw [List.find?_eq_some_iff_getElem]
      refine ⟨by rw [hg, h1, h2]; rfl, i, hlt, rfl, fun j hj => ?_⟩
      have := ht m[j] (List.mem_take_iff_getElem.2 ⟨j, by omega, rfl⟩)
      simp [this]
     unfold closedR; rw [this]
    refine hret _ ?_
    simp -implicitDefEqProofs only [pkA, hs, hf]
    exact retIn rfl (show 1 < 2 by decide) (by simp []) rfl
   ·simp -implicitDefEqProofs only [pkA, ↓reduceIte, Nat.reduceEqDiff, Nat.reduceAdd, hw]
    exact hnorm (i + 1) _ ⟨hlt, stay (by rw [hg, h1, h2]; rfl)⟩ (by omega) (le_hd rfl (Nat.zero_le _) (Nat.le_refl _) (by simp [FL, up_apply]) (by simp [BL, bxs]))
 ·have : i = m.length := by simp at hge; omega
  subst this
  rw [List.take_length] at ht
  have hf : closedR l m = (in0, true) := by
   have : m.find? (goesR l) = none := List.find?_eq_none.2 fun x hx => by simp [ht x hx]
   unfold closedR; rw [this]
  simp -implicitDefEqProofs only [pkA]
  refine hexit _ _ ?_
  simp -implicitDefEqProofs only [pkA, ptA, ↓reduceIte, Nat.reduceEqDiff, Nat.reduceAdd, Nat.reduceMul, Nat.reduceLT, Nat.reduceLeDiff]
  rw [hf]
  have hs : ∀ a b c : V, setV [a, b, c] 0 ([C.lit (Value.int IntKind.i64 0), .sl [], .sl []].map V.c) = (inC in0).map .c := fun _ _ _ => rfl
  simp -implicitDefEqProofs only []
  exact retIn rfl (show 1 < 2 by decide) (by simp []; rfl) rfl
end Go.Proofs.YthgmobkmmapgoaaGreat
/- Layer 17, the specification: Next. -/
namespace Go.Proofs.YthgmobkmmapgoaaGreat
open Go Go.Vl
variable {G : Gl}
set_option maxRecDepth 4000
def insN (l out : List Fa) (c : Fa) : List Fa := if c ∈ l then out else insR out c
def stepR (l out : List Fa) (x : In) : List Fa := if (x.pre.all fun f => decide (f ∈ l)) = true then x.con.foldl (insN l) out else out
def nextR (l : List Fa) (m : List In) : List Fa := m.foldl (stepR l) []
theorem pkRd : type_of% (And.intro @pkU (And.intro @nV_f (@nV_t))) := ⟨@pkU, @nV_f, @nV_t⟩
set_option maxHeartbeats 2000000 in
theorem rNext_ok (p : Pol) (l : List Fa) (hn : p.types.length ≤ 1000) (hr : p.rules.length ≤ 1000) (hlen : (allL p none).length ≤ 20000) (hs2 : small2 (allL p none)) (hll : l.length ≤ 1000000) :
  FnOK Tryz.prog G 30 [.agg (poC p), .c (fsC l)] (.c (fsC (nextR l (allL p none)))) := by
 refine FnOK_by (rs := [.tmp 4]) false [] mixed Tryz.func30 rfl rfl rfl rfl (by kernel_rfl) (by simp) rfl rfl ?_
 simp -implicitDefEqProofs only [pkA, ptA, ↓reduceIte, Nat.reduceEqDiff, Nat.reduceAdd, Nat.reduceMul, Nat.reduceLT, pkRd]
 refine call_fn rfl (rInst_k p hn hr hlen) (fun h => by cases h) ?_
 simp -implicitDefEqProofs only [pkA, ↓reduceIte, Nat.reduceAdd]
 generalize allL p none = m at hlen hs2
 refine run_loop (fun x : Nat × Bool × List Fa => hdS [(1, .c (fsC l)), (5, .c (insC m)), (6, nV x.2.1 x.2.2), (7, i64 x.1)] [(poC p).map .c]) (fun x => m.length - x.1) (fun x => x.1 ≤ m.length ∧ (x.2.1 = true → x.2.2 = []) ∧ x.2.2 = (m.take x.1).foldl (stepR l) [] ∧ x.2.2.length ≤ 2 * x.1) (0, true, []) ⟨Nat.zero_le _, fun _ => rfl, rfl, Nat.le_refl _⟩ ?_ ?_
 ·exact le_hd rfl (Nat.zero_le _) (Nat.le_refl _) (by simp [FL, up_apply, nV]) (by simp [BL])
 rintro ⟨i, b, out⟩ ⟨hi, hb, ho, hol⟩ R hnorm hexit hret
 simp only at hi hb ho hol
 have hz : (nV b out).fz = .c (fsC out) := nV_fz hb
 simp -implicitDefEqProofs only [pkA, ↓reduceIte, Nat.reduceEqDiff, Nat.reduceAdd, pkRd]
 refine vcond_of (fun hlt => ?_) (fun hge => ?_)
 ·have hlt : i < m.length := by simpa using hlt
  have hw := wrap_of (n := (i : Int) + 1) (k := i + 1) (by omega) (by omega)
  have hc2 := hs2 m[i] (List.getElem_mem hlt)
  obtain ⟨x, hx⟩ : ∃ x, x = m[i] := ⟨_, rfl⟩
  rw [← hx] at hc2
  simp -implicitDefEqProofs only [pkA, ↓reduceIte, Nat.reduceEqDiff, Nat.reduceAdd]
  refine ia_of ti_40 rfl ti_50 (by decide) (Int.natCast_nonneg i) (c := inC x) (by simp [hlt, hx]) rfl ?_
  simp -implicitDefEqProofs only [pkA, ptA, ↓reduceIte, Nat.reduceEqDiff, Nat.reduceAdd, pkRd]
  refine call_fn rfl (All_ok l x.pre (by omega) (by omega)) (fun _ => rfl) ?_
  obtain ⟨fo, hfo⟩ : ∃ fo, fo = (x.pre.all fun f => decide (f ∈ l)) := ⟨_, rfl⟩
  rw [← hfo]
  simp -implicitDefEqProofs only [pkA, ↓reduceIte, Nat.reduceAdd]
  refine run_loop (fun y : Nat × Bool × List Fa => hdS [(1, .c (fsC l)), (5, .c (insC m)), (6, nV y.2.1 y.2.2), (7, i64 i), (8, bo fo), (9, i64 y.1)] [(poC p).map .c]) (fun y => x.con.length - y.1) (fun y => y.1 ≤ x.con.length ∧ (y.2.1 = true → y.2.2 = []) ∧ (y.2.2 = if fo = true then (x.con.take y.1).foldl (insN l) out else out) ∧ y.2.2.length ≤ 2 * i + y.1) (0, b, out) ⟨Nat.zero_le _, hb, by simp, by simpa using hol⟩ ?_ ?_
  ·exact le_hd (by simp only [leOk, List.all_cons, List.all_nil, nV_ltB]; rfl) (Nat.zero_le _) (Nat.le_refl _) (by simp [FL, up_apply]) (by simp [BL, bxs])
  rintro ⟨k, b2, out2⟩ ⟨hk, hb2, ho2, hol2⟩ R2 hnorm2 hexit2 hret2
  simp only at hk hb2 ho2 hol2
  have hz2 : (nV b2 out2).fz = .c (fsC out2) := nV_fz hb2
  have fin : fo = false ∨ k = x.con.length → ∀ fr bx nb, fr 1 = .c (fsC l) → fr 5 = .c (insC m) → fr 6 = nV b2 out2 → fr 7 = i64 ((i : Int) + 1) → bx 0 = (poC p).map .c → 1 ≤ nb → R .normal ⟨fr, bx, nb⟩ := fun h fr bx nb f1 f5 f6 f7 b0 hnb => by
   refine hnorm (i + 1, b2, out2) _ ⟨hlt, hb2, ?_, ?_⟩ (by simp only; omega) (le_hd (by simp only [leOk, List.all_cons, List.all_nil, nV_ltB]; rfl) (Nat.zero_le _) hnb (by simp [FL, f1, f5, f6, f7]) (by simp [BL, b0]))
   ·simp only
    rw [List.take_succ_eq_append_getElem hlt, List.foldl_append, ← ho, ← hx, List.foldl_cons, List.foldl_nil, ho2]
    unfold stepR
    rw [← hfo]
    rcases h with h | h
    ·rw [h]; simp
    ·rw [h, List.take_length]
   ·simp only; omega
  simp -implicitDefEqProofs only [pkA, ↓reduceIte, Nat.reduceEqDiff, Nat.reduceAdd]
  refine ia_of ti_40 rfl ti_50 (by decide) (Int.natCast_nonneg i) (c := inC x) (by simp [hlt, hx]) rfl ?_
  simp -implicitDefEqProofs only [pkA, ptA, ↓reduceIte, Nat.reduceEqDiff, Nat.reduceAdd, pkRd]
  cases hk2 : decide ((k : Int) < x.con.length)
  ·have hke : k = x.con.length := by simp at hk2; omega
   simp -implicitDefEqProofs only [pkA, ↓reduceIte, Nat.reduceEqDiff]
   refine hexit2 _ _ ?_
   simp -implicitDefEqProofs only [pkA, ↓reduceIte, Nat.reduceEqDiff, Nat.reduceAdd, hw]
   exact fin (.inr hke) _ _ _ rfl rfl rfl rfl (by simp [bxs]) (Nat.le_refl _)
  have hkl : k < x.con.length := by simpa using hk2
  cases hfb : fo
  ·subst hfb
   simp -implicitDefEqProofs only [pkA, ↓reduceIte, Nat.reduceEqDiff]
   refine hexit2 _ _ ?_
   simp -implicitDefEqProofs only [pkA, ↓reduceIte, Nat.reduceEqDiff, Nat.reduceAdd, hw]
   exact fin (.inl rfl) _ _ _ rfl rfl rfl rfl (by simp [bxs]) (Nat.le_refl _)
  subst hfb
  have hwk := wrap_of (n := (k : Int) + 1) (k := k + 1) (by omega) (by omega)
  rw [if_pos rfl] at ho2
  simp -implicitDefEqProofs only [pkA, ↓reduceIte, Nat.reduceEqDiff, Nat.reduceAdd]
  refine ia_of ti_40 rfl ti_50 (by decide) (Int.natCast_nonneg i) (c := inC x) (by simp [hlt, hx]) rfl ?_
  simp -implicitDefEqProofs only [pkA, ptA, ↓reduceIte, Nat.reduceEqDiff, Nat.reduceAdd, pkRd]
  refine ia_of ti_27 rfl ti_29 (by decide) (Int.natCast_nonneg k) (c := faC x.con[k]) (by simp [hkl]) rfl ?_
  simp -implicitDefEqProofs only [pkA, ptA, ↓reduceIte, Nat.reduceEqDiff, Nat.reduceAdd, pkRd]
  refine call_fn rfl (Holds_ok l x.con[k] (by omega)) (fun _ => rfl) ?_
  simp -implicitDefEqProofs only [pkA, ↓reduceIte, Nat.reduceAdd]
  have hstep : (x.con.take (k + 1)).foldl (insN l) out = insN l out2 x.con[k] := by
   rw [List.take_succ_eq_append_getElem hkl, List.foldl_append, ← ho2]; rfl
  cases hin : decide (x.con[k] ∈ l)
  ·have hin' : insN l out2 x.con[k] = insR out2 x.con[k] := by unfold insN; rw [if_neg (by simpa using hin)]
   have hil := @insR_len out2 x.con[k]
   simp -implicitDefEqProofs only [pkA, ↓reduceIte, Nat.reduceEqDiff, Nat.reduceAdd, hz2]
   refine ia_of ti_40 rfl ti_50 (by decide) (Int.natCast_nonneg i) (c := inC x) (by simp [hlt, hx]) rfl ?_
   simp -implicitDefEqProofs only [pkA, ptA, ↓reduceIte, Nat.reduceEqDiff, Nat.reduceAdd, pkRd]
   refine ia_of ti_27 rfl ti_29 (by decide) (Int.natCast_nonneg k) (c := faC x.con[k]) (by simp [hkl]) rfl ?_
   simp -implicitDefEqProofs only [pkA, ptA, ↓reduceIte, Nat.reduceEqDiff, Nat.reduceAdd, pkRd]
   refine call_fn rfl (Insert_ok out2 x.con[k] (by omega)) (fun h => by cases h) ?_
   simp -implicitDefEqProofs only [pkA, ↓reduceIte, Nat.reduceEqDiff, Nat.reduceAdd, hwk]
   refine hnorm2 (k + 1, false, insR out2 x.con[k]) _ ⟨hkl, (fun h => by cases h), by simp only [if_true]; rw [hstep, hin'], by simp only; omega⟩ (by simp only; omega) (le_hd (by simp only [leOk, List.all_cons, List.all_nil, nV_ltB]; rfl) (Nat.zero_le _) (Nat.le_refl _) (by simp [FL, up_apply, nV]) (by simp [BL, bxs]))
  ·have hin' : insN l out2 x.con[k] = out2 := by unfold insN; rw [if_pos (by simpa using hin)]
   simp -implicitDefEqProofs only [pkA, ↓reduceIte, Nat.reduceEqDiff, Nat.reduceAdd, hwk]
   refine hnorm2 (k + 1, b2, out2) _ ⟨hkl, hb2, by simp only [if_true]; rw [hstep, hin'], by simp only; omega⟩ (by simp only; omega) (le_hd (by simp only [leOk, List.all_cons, List.all_nil, nV_ltB]; rfl) (Nat.zero_le _) (Nat.le_refl _) (by simp [FL, up_apply]) (by simp [BL, bxs]))
 ·have : i = m.length := by simp at hge; omega
  subst this
  rw [List.take_length] at ho
  simp -implicitDefEqProofs only [pkA]
  refine hexit _ _ ?_
  simp -implicitDefEqProofs only [pkA, ↓reduceIte, Nat.reduceEqDiff, Nat.reduceAdd, hz]
  rw [ho]; rfl
