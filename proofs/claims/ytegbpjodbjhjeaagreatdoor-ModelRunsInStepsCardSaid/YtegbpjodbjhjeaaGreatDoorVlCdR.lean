/- Layer 16: for all arguments the law ModelRunsInSteps returns true: its tied card. Conditions: none beyond those that the given row prints (the listed variables as the program's text lays them). -/
import Derived.Test.YtegbpjodbjhjeaaGreatDoorVlCB
import Derived.Test.YtegbpjodbjhjeaaGreatDoorVlLk
import Derived.Test.YtegbpjodbjhjeaaGreatDoorCards
import Derived.Test.YtegbpjodbjhjeaaGreatDoorTie
set_option linter.all false
namespace Go.Proofs.YtegbpjodbjhjeaaGreatDoor
open Go Go.Vl Go.RowKit Go.ChangeShapes
set_option maxRecDepth 100000 in
theorem oK (os:Os) (started:os.Started) (H:Type) (enc:TypeId×Value→H) :
 ReturnsInHanded {} Tryz.checked os 8 .any (fun w args=>(Rows.modelRunsInStepsSpec.pre enc Tryz.prog Tryz.f8 [] false w args∧laidMetH Tryz.prog tu w)∧sizedMet enc Tryz.prog Tryz.f8 (OpenSpec.ofChange Rows.modelRunsInStepsSpec) false w args)
  (Rows.modelRunsInStepsSpec.post enc Tryz.prog Tryz.f8 false true false false):=by
 refine NB (C:=Tryz.checked) (laid:=tu) (gl:=glM) (L:=argTypes) (ts:=[26,27]) (tb:=4) aau started (by kernel_rfl) Tryz.func8
  (ChangeSpec.witness_shaped (enc:=enc) (C:=Tryz.checked) (os:=os) (X:=fun w _=>laidMetH Tryz.prog tu w) false (World.doorLaid Tryz.prog 400 os) #[abD,.slice none 0 0] 8 rfl (World.shaped_of_RefB (by kernel_rfl) (by kernel_rfl)) (by kernel_rfl) (by kernel_rfl) (by kernel_rfl) (KJ os _))
  rI rfl (by simp[argTypes]) KH (fun t ht=>?_) rfl (fun ds h=>?_) rfl Tryz.underlying4 (fun W h=>aaw h) (fun xs hxs=>?_)
 ·have:t=26∨t=27:=by simpa using ht
  rcases this with rfl | rfl<;>exact⟨by kernel_rfl,iL (by kernel_rfl)⟩
 ·match ds,h with
  |[d0,d1],_=>rfl
 ·obtain⟨u0,u1,rfl,h0,h1⟩:=P5 hxs
  obtain⟨x0,rfl,p0⟩:=Kp.X6 h0
  obtain⟨x1,rfl,p1⟩:=Ui h1
  exact KG x0 x1 p0
theorem po:Rows.ModelRunsInStepsSaid:=
 OpenClaim.holds_of_wide 8 Tryz.f8 rfl rfl rfl rfl rfl rfl rfl ⟨rfl,rfl,rfl,rfl,rfl⟩ rfl rfl rfl rfl rfl (by kernel_rfl) Tryz.func8 (by kernel_rfl)
  (iL (by kernel_rfl)) (by unfold Func.isWrapper;first | (rw[if_pos (by decide +kernel)];kernel_rfl) | (rw[if_neg (by decide +kernel)];exact⟨rfl,rfl⟩))
  (fun os started H enc _=>oK os started H enc)
theorem pp (f:FuncId) (fn:Func) (hf:Tryz.pinned.checked.prog.funcNamed "custody/custodylaw16.ModelRunsInSteps" = some f) (hfn:Tryz.pinned.checked.prog.funcs[f]?=some fn) :
 true=Tryz.pinned.checked.prog.looks []∧∀ (j:Nat) t,fn.params[j]?=some t→Tryz.pinned.checked.prog.wantsStandIn t=false:=by
 obtain rfl:f=8:=dD ((show Tryz.prog.funcNamed "custody/custodylaw16.ModelRunsInSteps" = some 8 by kernel_rfl).symm.trans hf) |>.symm
 obtain rfl:fn=Tryz.f8:=(dD (Tryz.func8.symm.trans hfn)).symm
 refine⟨by kernel_rfl,fun j t ht=>?_⟩
 have hm:t∈[26,27]:=by
  have:=eA ht
  rw[Tryz.params8] at this
  simpa using this
 have hall:([26,27].all fun u=>!Tryz.prog.wantsStandIn u)=true:=by kernel_rfl
 exact(show Tryz.prog.wantsStandIn t=false by simpa using aU.1 hall t hm)
theorem modelRunsInSteps_card:Rows.ModelRunsInStepsCardSaid:=
 Claim7.holds_tied_plain_at .later [] _ _ _ _ po (fun _ h=>by cases h) (by kernel_rfl) (fun _ h=>by cases h) modelRunsInSteps_row_tie rfl ⟨rfl,rfl⟩ (by kernel_rfl) rfl pp (by kernel_rfl)
#print axioms modelRunsInSteps_card
