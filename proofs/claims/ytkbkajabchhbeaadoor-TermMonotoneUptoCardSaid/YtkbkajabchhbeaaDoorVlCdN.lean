/- Layer 15: for all arguments of bulk at most 1048576 the law TermMonotone returns true: its tied card (the second form). Conditions: those that the given row prints (the bound; the listed variables as the program's text lays them). -/
import Derived.Test.YtkbkajabchhbeaaDoorVlCB
import Derived.Test.YtkbkajabchhbeaaDoorVlLd
import Derived.Test.YtkbkajabchhbeaaDoorCards
import Derived.Test.YtkbkajabchhbeaaDoorTie
set_option linter.unusedSimpArgs false
set_option linter.unusedVariables false
namespace Go.Proofs.YtkbkajabchhbeaaDoor
open Go Go.Vl Go.RowKit Go.ChangeShapes
set_option maxRecDepth 100000 in
theorem termMonotone_reads (os : Os) {H : Type} (enc : TypeId × Value → H) : ∃ places, DataW.whole enc Tryd.prog ((World.doorLaid Tryd.prog 400 os).forCall (fun _ _ => 0) ⟨#[], #[.slice none 0 0, .slice none 0 0, tm0], []⟩).memory Tryd.f6.params.toList Rows.termMonotoneSpec.vars false (#[.slice none 0 0, .slice none 0 0, tm0] : Array Value).toList 8 = some ([.nil, .nil, .agg [.lit (.int .i64 0), .lit (.int .i64 0), .nil]], [], places) :=
 ⟨[], by kernel_rfl⟩
set_option maxRecDepth 100000 in
theorem termMonotone_lifted (os : Os) (started : os.Started) (H : Type) (enc : TypeId × Value → H) (F : Stop.Interp) :
  ReturnsInHanded {} Tryd.checked os 6 .any ((Rows.OpenSpec.upto Rows.termMonotoneSpec).preRow enc Tryd.prog Tryd.f6 Rows.termMonotoneUptoRow.domain false Rows.termMonotoneUptoRow.laid) (((Rows.OpenSpec.upto Rows.termMonotoneSpec).at F).post enc Tryd.prog Tryd.f6 false true false false) := by
 obtain ⟨places, hx⟩ := termMonotone_reads os enc
 refine returnsInHanded_of_row (C := Tryd.checked) (s := Rows.OpenSpec.upto Rows.termMonotoneSpec) own_P started (by kernel_rfl) Tryd.func6
  (witness_row_at (enc := enc) (C := Tryd.checked) false (World.doorLaid Tryd.prog 400 os) #[.slice none 0 0, .slice none 0 0, tm0] rfl (by kernel_rfl) (by kernel_rfl) (by kernel_rfl)
   (OpenSpec.preRow_of_cond 8 hx (by kernel_rfl) (fun k hk => by cases hk; kernel_rfl) (by kernel_rfl) (door_met os _))) ?_
 intro W base args ds gs before hval hW _ hk _ hL _ _
 refine law_postD (f := 6) (fn := Tryd.f6) (s := Rows.termMonotoneSpec) (gl := glT) (L := argTypes) (ts := [22, 22, 24]) (tb := 4) plain_args rfl (by simp [argTypes]) laidOut_P (fun t ht => ?_) rfl (fun ds h => ?_) rfl Tryd.underlying4 hval hW (gl_ok hL) (fun xs hg hxs => ?_)
 ·have : t = 22 ∨ t = 24 := by simpa using ht
  rcases this with rfl | rfl <;> exact ⟨by kernel_rfl, of_decide_eq_true (by kernel_rfl)⟩
 ·match ds, h with
  | [d0, d1, d2], _ => rfl
 ·subst hg
  have hk := hk _ rfl
  obtain ⟨e0, r0, u0, y0, rfl, rfl, h0, hxs⟩ := argsD_cons hxs
  obtain ⟨e1, r1, u1, y1, rfl, rfl, h1, hxs⟩ := argsD_cons hxs
  obtain ⟨e2, r2, u2, y2, rfl, rfl, h2, hxs⟩ := argsD_cons hxs
  obtain ⟨rfl, rfl⟩ := argsD_nil hxs
  obtain ⟨x0, rfl, p0⟩ := arg_ts (big_of hk (by simp)) h0
  obtain ⟨x1, rfl, p1⟩ := arg_ts (big_of hk (by simp)) h1
  obtain ⟨x2, rfl, p2⟩ := arg_tm (big_of hk (by simp)) h2
  exact Monotone_ok x0 x1 x2 (by unfold big; omega) (by unfold big; omega) (by unfold big; omega)
theorem termMonotone_upto : Rows.TermMonotoneUptoSaid :=
 OpenClaim.holds_of_cond 6 Tryd.f6 rfl rfl rfl rfl rfl rfl rfl ⟨rfl, rfl, rfl, rfl, rfl⟩ rfl rfl rfl rfl rfl (by kernel_rfl) Tryd.func6 (by kernel_rfl)
  (of_decide_eq_true (by kernel_rfl)) (by unfold Func.isWrapper; first | (rw [if_pos (by decide +kernel)]; kernel_rfl) | (rw [if_neg (by decide +kernel)]; exact ⟨rfl, rfl⟩))
  (fun os started H enc _ F => by rw [OpenClaim.pre_eq_preRow]; exact termMonotone_lifted os started H enc F)
theorem termMonotone_plain (f : FuncId) (fn : Func) (hf : Tryd.pinned.checked.prog.funcNamed "custody/custodylaw15.TermMonotone" = some f) (hfn : Tryd.pinned.checked.prog.funcs[f]? = some fn) :
  false = Tryd.pinned.checked.prog.looks [] ∧ ∀ (j : Nat) t, fn.params[j]? = some t → Tryd.pinned.checked.prog.wantsStandIn t = false := by
 obtain rfl : f = 6 := Option.some.inj ((show Tryd.prog.funcNamed "custody/custodylaw15.TermMonotone" = some 6 by kernel_rfl).symm.trans hf) |>.symm
 obtain rfl : fn = Tryd.f6 := (Option.some.inj (Tryd.func6.symm.trans hfn)).symm
 refine ⟨by kernel_rfl, fun j t ht => ?_⟩
 have hm : t ∈ [22, 22, 24] := by
  have := Array.mem_of_getElem? ht
  rw [Tryd.params6] at this
  simpa using this
 have hall : ([22, 22, 24].all fun u => !Tryd.prog.wantsStandIn u) = true := by kernel_rfl
 exact (show Tryd.prog.wantsStandIn t = false by simpa using List.all_eq_true.1 hall t hm)
theorem termMonotone_card : Rows.TermMonotoneUptoCardSaid :=
 Claim7.holds_tied_plain_at .later [] _ _ _ _ termMonotone_upto (fun _ h => by cases h) (by kernel_rfl) (fun _ h => by cases h) termMonotoneUpto_row_tie rfl ⟨rfl, rfl⟩ (by kernel_rfl) rfl termMonotone_plain (by kernel_rfl)
#print axioms termMonotone_card
