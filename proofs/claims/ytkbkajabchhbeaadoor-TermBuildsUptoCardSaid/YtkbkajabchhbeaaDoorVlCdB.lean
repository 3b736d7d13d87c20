/- Layer 15: for all arguments of bulk at most 1048576 the law TermBuilds returns true: its tied card (the second form). Conditions: those that the given row prints (the bound; the listed variables as the program's text lays them). -/
import Derived.Test.YtkbkajabchhbeaaDoorVlCB
import Derived.Test.YtkbkajabchhbeaaDoorVlLe
import Derived.Test.YtkbkajabchhbeaaDoorCards
import Derived.Test.YtkbkajabchhbeaaDoorTie
set_option linter.unusedSimpArgs false
set_option linter.unusedVariables false
namespace Go.Proofs.YtkbkajabchhbeaaDoor
open Go Go.Vl Go.RowKit Go.ChangeShapes
set_option maxRecDepth 100000 in
theorem termBuilds_reads (os : Os) {H : Type} (enc : TypeId × Value → H) : ∃ places, DataW.whole enc Tryd.prog ((World.doorLaid Tryd.prog 400 os).forCall (fun _ _ => 0) ⟨#[], #[.slice none 0 0, tm0, tm0, .int .i64 0], []⟩).memory Tryd.f9.params.toList Rows.termBuildsSpec.vars false (#[.slice none 0 0, tm0, tm0, .int .i64 0] : Array Value).toList 8 = some ([.nil, .agg [.lit (.int .i64 0), .lit (.int .i64 0), .nil], .agg [.lit (.int .i64 0), .lit (.int .i64 0), .nil], .lit (.int .i64 0)], [], places) :=
 ⟨[], by kernel_rfl⟩
set_option maxRecDepth 100000 in
theorem termBuilds_lifted (os : Os) (started : os.Started) (H : Type) (enc : TypeId × Value → H) (F : Stop.Interp) :
  ReturnsInHanded {} Tryd.checked os 9 .any ((Rows.OpenSpec.upto Rows.termBuildsSpec).preRow enc Tryd.prog Tryd.f9 Rows.termBuildsUptoRow.domain false Rows.termBuildsUptoRow.laid) (((Rows.OpenSpec.upto Rows.termBuildsSpec).at F).post enc Tryd.prog Tryd.f9 false true false false) := by
 obtain ⟨places, hx⟩ := termBuilds_reads os enc
 refine returnsInHanded_of_row (C := Tryd.checked) (s := Rows.OpenSpec.upto Rows.termBuildsSpec) own_P started (by kernel_rfl) Tryd.func9
  (witness_row_at (enc := enc) (C := Tryd.checked) false (World.doorLaid Tryd.prog 400 os) #[.slice none 0 0, tm0, tm0, .int .i64 0] rfl (by kernel_rfl) (by kernel_rfl) (by kernel_rfl)
   (OpenSpec.preRow_of_cond 8 hx (by kernel_rfl) (fun k hk => by cases hk; kernel_rfl) (by kernel_rfl) (door_met os _))) ?_
 intro W base args ds gs before hval hW _ hk _ hL _ _
 refine law_postD (f := 9) (fn := Tryd.f9) (s := Rows.termBuildsSpec) (gl := glT) (L := argTypes) (ts := [22, 24, 24, 3]) (tb := 4) plain_args rfl (by simp [argTypes]) laidOut_P (fun t ht => ?_) rfl (fun ds h => ?_) rfl Tryd.underlying4 hval hW (gl_ok hL) (fun xs hg hxs => ?_)
 ·have : t = 22 ∨ t = 24 ∨ t = 3 := by simpa using ht
  rcases this with rfl | rfl | rfl <;> exact ⟨by kernel_rfl, of_decide_eq_true (by kernel_rfl)⟩
 ·match ds, h with
  | [d0, d1, d2, d3], _ => rfl
 ·subst hg
  have hk := hk _ rfl
  obtain ⟨e0, r0, u0, y0, rfl, rfl, h0, hxs⟩ := argsD_cons hxs
  obtain ⟨e1, r1, u1, y1, rfl, rfl, h1, hxs⟩ := argsD_cons hxs
  obtain ⟨e2, r2, u2, y2, rfl, rfl, h2, hxs⟩ := argsD_cons hxs
  obtain ⟨e3, r3, u3, y3, rfl, rfl, h3, hxs⟩ := argsD_cons hxs
  obtain ⟨rfl, rfl⟩ := argsD_nil hxs
  obtain ⟨x0, rfl, p0⟩ := arg_ts (big_of hk (by simp)) h0
  obtain ⟨x1, rfl, p1⟩ := arg_tm (big_of hk (by simp)) h1
  obtain ⟨x2, rfl, p2⟩ := arg_tm (big_of hk (by simp)) h2
  obtain ⟨x3, rfl⟩ := arg_int h3
  exact Builds_ok x0 x1 x2 x3 (by unfold big; omega) (by unfold big; omega) (by unfold big; omega)
theorem termBuilds_upto : Rows.TermBuildsUptoSaid :=
 OpenClaim.holds_of_cond 9 Tryd.f9 rfl rfl rfl rfl rfl rfl rfl ⟨rfl, rfl, rfl, rfl, rfl⟩ rfl rfl rfl rfl rfl (by kernel_rfl) Tryd.func9 (by kernel_rfl)
  (of_decide_eq_true (by kernel_rfl)) (by unfold Func.isWrapper; first | (rw [if_pos (by decide +kernel)]; kernel_rfl) | (rw [if_neg (by decide +kernel)]; exact ⟨rfl, rfl⟩))
  (fun os started H enc _ F => by rw [OpenClaim.pre_eq_preRow]; exact termBuilds_lifted os started H enc F)
theorem termBuilds_plain (f : FuncId) (fn : Func) (hf : Tryd.pinned.checked.prog.funcNamed "custody/custodylaw15.TermBuilds" = some f) (hfn : Tryd.pinned.checked.prog.funcs[f]? = some fn) :
  false = Tryd.pinned.checked.prog.looks [] ∧ ∀ (j : Nat) t, fn.params[j]? = some t → Tryd.pinned.checked.prog.wantsStandIn t = false := by
 obtain rfl : f = 9 := Option.some.inj ((show Tryd.prog.funcNamed "custody/custodylaw15.TermBuilds" = some 9 by kernel_rfl).symm.trans hf) |>.symm
 obtain rfl : fn = Tryd.f9 := (Option.some.inj (Tryd.func9.symm.trans hfn)).symm
 refine ⟨by kernel_rfl, fun j t ht => ?_⟩
 have hm : t ∈ [22, 24, 24, 3] := by
  have := Array.mem_of_getElem? ht
  rw [Tryd.params9] at this
  simpa using this
 have hall : ([22, 24, 24, 3].all fun u => !Tryd.prog.wantsStandIn u) = true := by kernel_rfl
 exact (show Tryd.prog.wantsStandIn t = false by simpa using List.all_eq_true.1 hall t hm)
theorem termBuilds_card : Rows.TermBuildsUptoCardSaid :=
 Claim7.holds_tied_plain_at .later [] _ _ _ _ termBuilds_upto (fun _ h => by cases h) (by kernel_rfl) (fun _ h => by cases h) termBuildsUpto_row_tie rfl ⟨rfl, rfl⟩ (by kernel_rfl) rfl termBuilds_plain (by kernel_rfl)
#print axioms termBuilds_card
