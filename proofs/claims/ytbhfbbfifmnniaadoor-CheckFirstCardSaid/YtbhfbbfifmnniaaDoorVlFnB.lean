/- Values without memory: contracts of functions that get to see boxes, from their texts. -/
import Derived.Test.YtbhfbbfifmnniaaDoorVlLoop
set_option linter.unusedSimpArgs false
set_option linter.unusedVariables false
namespace Go.Vl
open Go Go.RowKit

section
variable {P : Program} {G : Gl} {tr : List Nat} {n : Nat} {I0 : Ft} {M : Mx} {w0 : World} {I : Ft} {β : Nat → Option Nat} {ob : Loc → Option Nat} {s : S} {a : Act} {w : World}

def obB (ob : Nat → Nat → Option Nat) : Loc → Option Nat
  | .t _ => none
  | .b i j => ob i j

theorem St.initB {ob : Nat → Nat → Option Nat} {vs : Array Value} {args : List V} {b0 : List (List V)} {m : Nat} (hI : ∀ b o, I b o → b < w.heap.size) (hg : GOK G I w) (hB : BxR (Wr M w) I w β ob b0) (hsz : vs.size = args.length)
    (ha : ∀ j x, args[j]? = some x → LR (Wr M w) I β w none (vs.getD j undef) x) (hm : m = (vs ++ Array.replicate (n - vs.size) undef).size) :
    St G m I ⟨M.m, β⟩ w I β (obB ob) ⟨fun j => args.getD j .un, bxs b0, b0.length⟩ { tmps := vs ++ Array.replicate (n - vs.size) undef, defers := [] } w where
  size := hm.symm
  defers := rfl
  below := BelowM.refl _ _
  kept := fun _ _ _ => rfl
  ilow := fun _ _ h => h
  ihigh := fun _ _ h => .inl h
  ibnd := hI
  fr := fun t => by
    simp only [obB]
    by_cases ht : t < args.length
    · have e1 : args.getD t .un = args[t] := by simp [List.getD, ht]
      have e2 : (vs ++ Array.replicate (n - vs.size) undef).getD t undef = vs.getD t undef := by
        rw [Array.getD_eq_getD_getElem?, Array.getElem?_append_left (by omega), ← Array.getD_eq_getD_getElem?]
      rw [e1, e2]
      exact ha t _ (List.getElem?_eq_getElem ht)
    · have e1 : args.getD t .un = .un := by simp [List.getD, List.getElem?_eq_none (Nat.le_of_not_lt ht)]
      rw [e1]; simp only [LR]; exact .un _
  bx := fun i hi => by
    simp only at hi
    obtain ⟨blk, cur, T, e1, e2, e3, e4, e5, e6, e7⟩ := hB.bx i _ (List.getElem?_eq_getElem hi)
    have e : bxs b0 i = b0[i] := by simp [bxs, List.getD, hi]
    refine ⟨blk, cur, T, e1, e2, e3, by simp only [e]; exact e4, fun j => ?_, e6, e7⟩
    simp only [e]; exact e5 j
  bnone := fun i hi => hB.bnone i hi
  ext := fun _ _ h => h
  bnew := fun _ _ h => .inl h
  binj := hB.binj
  oinj := fun L L' b h h' => by
    cases L <;> simp only [obB] at h <;> try cases h
    cases L' <;> simp only [obB] at h' <;> try cases h'
    obtain ⟨e1, e2⟩ := hB.oinj _ _ _ _ b h h'
    rw [e1, e2]
  obx := fun L b i h => by
    cases L <;> simp only [obB] at h <;> try cases h
    exact hB.obx _ _ b i h
  obnd := fun L b h => by
    cases L <;> simp only [obB] at h <;> try cases h
    exact hB.obnd _ _ b h
  glob := hg

/-- The end of a function with boxes: the boxes that stay, and what they hold. -/
def endB (P : Program) (k : Nat) (r : V) (b1 : List (List V)) (rs : List ResultVar) (e : VE) (s : S) : Prop :=
  (match e with | .exit _ => False | _ => True) ∧ ∃ l, S.Le k (hdS l b1) s ∧ retV P false (hdS l b1) r rs

/-- From the text to the contract. -/
theorem FnB_ofK {f : FuncId} {fn : Func} {c : Code} {args : List V} {b0 b1 : List (List V)} {r : V} (tr : List Nat) (hm : P.follows .mixedOrders = true) (hf : P.funcs[f]? = some fn) (hb : fn.body = some c)
    (hname : (fn.name == "runtime.NumGoroutine") = false) (hn : args.length ≤ fn.ntmps) (hck : cok fn.ntmps tr c = true) (hcomp : r.compT = true)
    (hwf : (∀ x ∈ args, x.lt b0.length) ∧ (∀ b ∈ b0, ∀ x ∈ b, x.lt b0.length) ∧ b0.length ≤ b1.length)
    (h : vwpK P G tr b0.length c (endB P b0.length r b1 fn.results.toList) ⟨fun j => args.getD j .un, bxs b0, b0.length⟩) : FnB P G f args b0 r b1 := by
  refine ⟨⟨fn, hf, hname, c, hb⟩, hwf, fun I M w vs β ob hI hg hB hsz ha => ?_⟩
  have hsize : fn.ntmps = (vs ++ Array.replicate (fn.ntmps - vs.size) undef).size := by simp; omega
  have hst := St.initB (n := fn.ntmps) hI hg hB hsz ha hsize
  have hβlt : ∀ i b, β i = some b → i < b0.length := fun i b hi => by
    by_cases h : i < b0.length
    · exact h
    · rw [hB.bnone i (by omega)] at hi; cases hi
  refine calls_of_wp hf hb (vwpK_sound hm (fun i b hi => hβlt i b hi) c hck _ _ (fun e s a w' hq hse => ?_) _ _ _ h ⟨_, _, _, hst⟩)
  obtain ⟨hex, l, hle, hret⟩ := hq
  obtain ⟨I', β', ob', hst'⟩ := hse.weaken (fun i b hi => hβlt i b hi) hle
  have main : a.defers = [] ∧ ∃ v, (results fn a.tmps).run P w' = .ok v w' ∧ ∃ v' I' β' ob' o', (Ending.returned v = .returned v') ∧ BelowM M w w' ∧ (∀ b o, I b o → I' b o) ∧ (∀ b o, I' b o → I b o ∨ (Wr M w b ∧ b < w'.heap.size)) ∧
      (∀ b o, I b o → w'.cell? ⟨b, o, none⟩ = w.cell? ⟨b, o, none⟩) ∧ (∀ i, i < b0.length → β' i = β i) ∧ (∀ i b, b0.length ≤ i → β' i = some b → w.heap.size ≤ b) ∧ BxR (Wr M w) I' w' β' ob' b1 ∧
      LR (Wr M w) I' β' w' o' v' r ∧ (∀ b, o' = some b → (b < w'.heap.size ∧ Wr M w b) ∧ (∀ i j, ob' i j ≠ some b) ∧ ∀ i, β' i ≠ some b) := by
    refine ⟨hst'.defers, ?_⟩
    obtain ⟨v, o', h1, h2, h3⟩ := run_ret_ok (P := P) (fn := fn) hst' hcomp (Ic := I') (fun _ => rfl) (fun _ _ h => h) (fun hz => by cases hz) hret
    have hext : ∀ i, i < b0.length → β' i = β i := fun i hi => by
      obtain ⟨blk, _, _, e1, _⟩ := hB.bx i _ (List.getElem?_eq_getElem hi)
      rw [e1]; exact hst'.ext i blk e1
    refine ⟨v, h1, v, I', β', fun i j => if i < b1.length then ob' (.b i j) else none, o', rfl, ⟨hst'.below.os, hst'.below.tape, hst'.below.output, hst'.below.size, hst'.below.block⟩, hst'.ilow, fun b o hbo => ?_, hst'.kept, hext, fun i b hi hb => ?_, ?_, h2, fun b hb => ?_⟩
    · rcases hst'.ihigh b o hbo with h4 | h4
      · exact .inl h4
      · exact .inr ⟨h4, hst'.ibnd b o hbo⟩
    · rcases hst'.bnew i b hb with h4 | h4
      · have := hβlt i b h4; omega
      · exact h4
    · exact {
        bx := fun i cs hcs => by
          have hi : i < b1.length := (List.getElem?_eq_some_iff.1 hcs).1
          obtain ⟨blk, cur, T, e1, e2, e3, e4, e5, e6, e7⟩ := hst'.bx i hi
          have e : bxs b1 i = cs := by simp [bxs, List.getD, hcs]
          refine ⟨blk, cur, T, e1, e2, e3, by simp only [hdS, e] at e4; exact e4, fun j => ?_, e6, e7⟩
          have := e5 j
          simp only [hdS, e] at this
          rw [if_pos hi]; exact this
        bnone := fun i hi => hst'.bnone i hi
        binj := hst'.binj
        oinj := fun i j i' j' b h h' => by
          split at h <;> try cases h
          split at h' <;> try cases h'
          have := hst'.oinj _ _ b h h'
          simp only [Loc.b.injEq] at this; exact this
        obx := fun i j b k h => by
          split at h <;> try cases h
          exact hst'.obx _ b k h
        obnd := fun i j b h => by
          split at h <;> try cases h
          exact hst'.obnd _ b h
        olen := fun i j hi => by rw [if_neg (by omega)] }
    · obtain ⟨t, ht⟩ := h3 b hb
      refine ⟨hst'.obnd _ b ht, fun i j h => ?_, fun i => hst'.obx _ b i ht⟩
      simp only at h
      split at h <;> try cases h
      have := hst'.oinj _ _ b ht h
      cases this
  cases e with
  | normal => exact main
  | exit i => exact hex.elim
  | ret => exact main

theorem FnB_of {f : FuncId} {fn : Func} {c : Code} {args : List V} {b0 b1 : List (List V)} {r : V} (tr : List Nat) (hm : P.follows .mixedOrders = true) (hf : P.funcs[f]? = some fn) (hb : fn.body = some c)
    (hname : (fn.name == "runtime.NumGoroutine") = false) (hn : args.length ≤ fn.ntmps) (hck : cok fn.ntmps tr c = true) (hcomp : r.compT = true) (hk : extK tr = b0.length)
    (hwf : (∀ x ∈ args, x.lt b0.length) ∧ (∀ b ∈ b0, ∀ x ∈ b, x.lt b0.length) ∧ b0.length ≤ b1.length)
    (h : vwp P G tr c (endB P b0.length r b1 fn.results.toList) ⟨fun j => args.getD j .un, bxs b0, b0.length⟩) : FnB P G f args b0 r b1 :=
  FnB_ofK tr hm hf hb hname hn hck hcomp hwf (by unfold vwp at h; rw [hk] at h; exact h)

end
end Go.Vl
