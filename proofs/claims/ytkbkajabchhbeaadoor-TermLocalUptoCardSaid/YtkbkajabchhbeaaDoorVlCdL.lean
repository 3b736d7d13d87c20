/- Layer 15: for all arguments of bulk at most 1048576 the law TermLocal returns true: its tied card (the second form). Conditions: those that the given row prints (the bound; the listed variables as the program's text lays them). -/
import Derived.Test.YtkbkajabchhbeaaDoorVlCB
import Derived.Test.YtkbkajabchhbeaaDoorVlLf
import Derived.Test.YtkbkajabchhbeaaDoorCards
import Derived.Test.YtkbkajabchhbeaaDoorTie
set_option linter.unusedSimpArgs false
set_option linter.unusedVariables false
namespace Go.Proofs.YtkbkajabchhbeaaDoor
open Go Go.Vl Go.RowKit Go.ChangeShapes
set_option maxRecDepth 100000 in
theorem termLocal_reads (os : Os) {H : Type} (enc : TypeId × Value → H) : ∃ places, DataW.whole enc Tryd.prog ((World.doorLaid Tryd.prog 400 os).forCall (fun _ _ => 0) ⟨#[], #[.slice none 0 0, .int .i64 0], []⟩).memory Tryd.f8.params.toList Rows.termLocalSpec.vars false (#[.slice none 0 0, .int .i64 0] : Array Value).toList 8 = some ([.nil, .lit (.int .i64 0)], [], places) :=
 ⟨[], by kernel_rfl⟩
set_option maxRecDepth 100000 in
theorem termLocal_lifted (os : Os) (started : os.Started) (H : Type) (enc : TypeId × Value → H) (F : Stop.Interp) :
  ReturnsInHanded {} Tryd.checked os 8 .any ((Rows.OpenSpec.upto Rows.termLocalSpec).preRow enc Tryd.prog Tryd.f8 Rows.termLocalUptoRow.domain false Rows.termLocalUptoRow.laid) (((Rows.OpenSpec.upto Rows.termLocalSpec).at F).post enc Tryd.prog Tryd.f8 false true false false) := by
 obtain ⟨places, hx⟩ := termLocal_reads os enc
 refine returnsInHanded_of_row (C := Tryd.checked) (s := Rows.OpenSpec.upto Rows.termLocalSpec) own_P started (by kernel_rfl) Tryd.func8
  (witness_row_at (enc := enc) (C := Tryd.checked) false (World.doorLaid Tryd.prog 400 os) #[.slice none 0 0, .int .i64 0] rfl (by kernel_rfl) (by kernel_rfl) (by kernel_rfl)
   (OpenSpec.preRow_of_cond 8 hx (by kernel_rfl) (fun k hk => by cases hk; kernel_rfl) (by kernel_rfl) (door_met os _))) ?_
 intro W base args ds gs before hval hW _ hk _ hL _ _
 refine law_postD (f := 8) (fn := Tryd.f8) (s := Rows.termLocalSpec) (gl := glT) (L := argTypes) (ts := [22, 3]) (tb := 4) plain_args rfl (by simp [argTypes]) laidOut_P (fun t ht => ?_) rfl (fun ds h => ?_) rfl Tryd.underlying4 hval hW (gl_ok hL) (fun xs hg hxs => ?_)
 ·have : t = 22 ∨ t = 3 := by simpa using ht
  rcases this with rfl | rfl <;> exact ⟨by kernel_rfl, of_decide_eq_true (by kernel_rfl)⟩
 ·match ds, h with
  | [d0, d1], _ => rfl
 ·subst hg
  have hk := hk _ rfl
  obtain ⟨e0, r0, u0, y0, rfl, rfl, h0, hxs⟩ := argsD_cons hxs
  obtain ⟨e1, r1, u1, y1, rfl, rfl, h1, hxs⟩ := argsD_cons hxs
  obtain ⟨rfl, rfl⟩ := argsD_nil hxs
  obtain ⟨x0, rfl, p0⟩ := arg_ts (big_of hk (by simp)) h0
  obtain ⟨x1, rfl⟩ := arg_int h1
  exact Local_ok x0 x1 (by unfold big; omega)
theorem termLocal_upto : Rows.TermLocalUptoSaid :=
 OpenClaim.holds_of_cond 8 Tryd.f8 rfl rfl rfl rfl rfl rfl rfl ⟨rfl, rfl, rfl, rfl, rfl⟩ rfl rfl rfl rfl rfl (by kernel_rfl) Tryd.func8 (by kernel_rfl)
  (of_decide_eq_true (by kernel_rfl)) (by unfold Func.isWrapper; first | (rw [if_pos (by decide +kernel)]; kernel_rfl) | (rw [if_neg (by decide +kernel)]; exact ⟨rfl, rfl⟩))
  (fun os started H enc _ F => by rw [OpenClaim.pre_eq_preRow]; exact termLocal_lifted os started H enc F)
theorem termLocal_plain (f : FuncId) (fn : Func) (hf : Tryd.pinned.checked.prog.funcNamed "custody/custodylaw15.TermLocal" = some f) (hfn : Tryd.pinned.checked.prog.funcs[f]? = some fn) :
  false = Tryd.pinned.checked.prog.looks [] ∧ ∀ (j : Nat) t, fn.params[j]? = some t → Tryd.pinned.checked.prog.wantsStandIn t = false := by
 obtain rfl : f = 8 := Option.some.inj ((show Tryd.prog.funcNamed "custody/custodylaw15.TermLocal" = some 8 by kernel_rfl).symm.trans hf) |>.symm
 obtain rfl : fn = Tryd.f8 := (Option.some.inj (Tryd.func8.symm.trans hfn)).symm
 refine ⟨by kernel_rfl, fun j t ht => ?_⟩
 have hm : t ∈ [22, 3] := by
  have := Array.mem_of_getElem? ht
  rw [Tryd.params8] at this
  simpa using this
 have hall : ([22, 3].all fun u => !Tryd.prog.wantsStandIn u) = true := by kernel_rfl
 exact (show Tryd.prog.wantsStandIn t = false by simpa using List.all_eq_true.1 hall t hm)
theorem termLocal_card : Rows.TermLocalUptoCardSaid :=
 Claim7.holds_tied_plain_at .later [] _ _ _ _ termLocal_upto (fun _ h => by cases h) (by kernel_rfl) (fun _ h => by cases h) termLocalUpto_row_tie rfl ⟨rfl, rfl⟩ (by kernel_rfl) rfl termLocal_plain (by kernel_rfl)
#print axioms termLocal_card
