/- Layer 18: for all arguments the law SaturateDerives returns true: its statement. Conditions: none beyond those that the given row prints. -/
import Derived.Test.YtjfjdomfldolcaaGreatVlA1
import Derived.Test.YtjfjdomfldolcaaGreatVlZ6
set_option linter.all false
namespace Go.Proofs.YtjfjdomfldolcaaGreat
open Go Go.Vl Go.RowKit Go.ChangeShapes
set_option maxRecDepth 100000 in
theorem td (os:Os) (started:os.Started) (H:Type) (enc:TypeId×Value→H) :
 ReturnsInHanded {} Tryz.checked os 5 .any (fun w args=>(Rows.saturateDerivesSpec.pre enc Tryz.prog Tryz.f5 [] false w args∧laidMetH Tryz.prog rU w)∧sizedMet enc Tryz.prog Tryz.f5 (OpenSpec.ofChange Rows.saturateDerivesSpec) false w args)
  (Rows.saturateDerivesSpec.post enc Tryz.prog Tryz.f5 false true false false):=by
 refine xX (C:=Tryz.checked) (laid:=rU) (gl:=gl) (L:=argTypes) (ts:=[26]) (tb:=4) Il started (by kernel_rfl) Tryz.func5
  (ChangeSpec.witness_shaped (enc:=enc) (C:=Tryz.checked) (os:=os) (X:=fun w _=>laidMetH Tryz.prog rU w) false (World.doorLaid Tryz.prog 400 os) #[Ln] 8 rfl (World.shaped_of_RefB (by kernel_rfl) (by kernel_rfl)) (by kernel_rfl) (by kernel_rfl) (by kernel_rfl) (xZ os _))
  pS rfl (by simp[argTypes]) rT (fun t ht=>?_) rfl (fun ds h=>?_) rfl Tryz.underlying4 (fun _ _=>Im) (fun xs oE=>?_)
 ·have:t=26:=by simpa using ht
  subst this;exact⟨by kernel_rfl,bX (by kernel_rfl)⟩
 ·match ds,h with
  |[d0],_=>rfl
 ·obtain⟨u0,rfl,h0⟩:=BS oE
  obtain⟨x0,rfl,p0⟩:=Ga h0
  exact Di x0
theorem saturateDerives_holds:Rows.SaturateDerivesSaid:=
 OpenClaim.holds_of_wide 5 Tryz.f5 rfl rfl rfl rfl rfl rfl rfl ⟨rfl,rfl,rfl,rfl,rfl⟩ rfl rfl rfl rfl rfl (by kernel_rfl) Tryz.func5 (by kernel_rfl)
  (bX (by kernel_rfl)) (by unfold Func.isWrapper;first | (rw[if_pos (by decide +kernel)];kernel_rfl) | (rw[if_neg (by decide +kernel)];exact⟨rfl,rfl⟩))
  (fun os started H enc _=>by rw[OpenClaim.pre_eq_preRow];exact td os started H enc)
#print axioms saturateDerives_holds
