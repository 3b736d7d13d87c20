/- Layer 16: for all arguments the law ModelOrigins returns true: its tied card. Conditions: none beyond those that the given row prints (the listed variables as the program's text lays them). -/
import Derived.Test.YtegbpjodbjhjeaaGreatDoorVlCB
import Derived.Test.YtegbpjodbjhjeaaGreatDoorVlLo
import Derived.Test.YtegbpjodbjhjeaaGreatDoorCards
import Derived.Test.YtegbpjodbjhjeaaGreatDoorTie
set_option linter.all false
namespace Go.Proofs.YtegbpjodbjhjeaaGreatDoor
open Go Go.Vl Go.RowKit Go.ChangeShapes
set_option maxRecDepth 100000 in
theorem tX (os:Os) (started:os.Started) (H:Type) (enc:TypeId×Value→H) :
 ReturnsInHanded {} Tryz.checked os 5 .any (fun w args=>(Rows.modelOriginsSpec.pre enc Tryz.prog Tryz.f5 [] false w args∧laidMetH Tryz.prog rC w)∧sizedMet enc Tryz.prog Tryz.f5 (OpenSpec.ofChange Rows.modelOriginsSpec) false w args)
  (Rows.modelOriginsSpec.post enc Tryz.prog Tryz.f5 false true false false):=by
 refine GR (C:=Tryz.checked) (laid:=rC) (gl:=glM) (L:=argTypes) (ts:=[26,27]) (tb:=4) YG started (by kernel_rfl) Tryz.func5
  (ChangeSpec.witness_shaped (enc:=enc) (C:=Tryz.checked) (os:=os) (X:=fun w _=>laidMetH Tryz.prog rC w) false (World.doorLaid Tryz.prog 400 os) #[aeg,.slice none 0 0] 8 rfl (World.shaped_of_RefB (by kernel_rfl) (by kernel_rfl)) (by kernel_rfl) (by kernel_rfl) (by kernel_rfl) (CJ os _))
  re rfl (by simp[argTypes]) CH (fun t ht=>?_) rfl (fun ds h=>?_) rfl Tryz.underlying4 (fun W h=>YH h) (fun xs AK=>?_)
 ·have:t=26∨t=27:=by simpa using ht
  rcases this with rfl | rfl<;>exact⟨by kernel_rfl,fj (by kernel_rfl)⟩
 ·match ds,h with
  |[d0,d1],_=>rfl
 ·obtain⟨u0,u1,rfl,h0,h1⟩:=HV AK
  obtain⟨x0,rfl,p0⟩:=Kp.Te h0
  obtain⟨x1,rfl,p1⟩:=LA h1
  exact Ua x0 x1 p0
theorem uQ:Rows.ModelOriginsSaid:=
 OpenClaim.holds_of_wide 5 Tryz.f5 rfl rfl rfl rfl rfl rfl rfl ⟨rfl,rfl,rfl,rfl,rfl⟩ rfl rfl rfl rfl rfl (by kernel_rfl) Tryz.func5 (by kernel_rfl)
  (fj (by kernel_rfl)) (by unfold Func.isWrapper;first | (rw[if_pos (by decide +kernel)];kernel_rfl) | (rw[if_neg (by decide +kernel)];exact⟨rfl,rfl⟩))
  (fun os started H enc _=>tX os started H enc)
theorem uR (f:FuncId) (fn:Func) (hf:Tryz.pinned.checked.prog.funcNamed "custody/custodylaw16.ModelOrigins" = some f) (XT:Tryz.pinned.checked.prog.funcs[f]?=some fn) :
 true=Tryz.pinned.checked.prog.looks []∧∀ (j:Nat) t,fn.params[j]?=some t→Tryz.pinned.checked.prog.wantsStandIn t=false:=by
 obtain rfl:f=5:=dE ((show Tryz.prog.funcNamed "custody/custodylaw16.ModelOrigins" = some 5 by kernel_rfl).symm.trans hf) |>.symm
 obtain rfl:fn=Tryz.f5:=(dE (Tryz.func5.symm.trans XT)).symm
 refine⟨by kernel_rfl,fun j t ht=>?_⟩
 have hm:t∈[26,27]:=by
  have:=eu ht
  rw[Tryz.params5] at this
  simpa using this
 have dh:([26,27].all fun u=>!Tryz.prog.wantsStandIn u)=true:=by kernel_rfl
 exact(show Tryz.prog.wantsStandIn t=false by simpa using aW.1 dh t hm)
theorem modelOrigins_card:Rows.ModelOriginsCardSaid:=
 Claim7.holds_tied_plain_at .later [] _ _ _ _ uQ (fun _ h=>by cases h) (by kernel_rfl) (fun _ h=>by cases h) modelOrigins_row_tie rfl ⟨rfl,rfl⟩ (by kernel_rfl) rfl uR (by kernel_rfl)
#print axioms modelOrigins_card
