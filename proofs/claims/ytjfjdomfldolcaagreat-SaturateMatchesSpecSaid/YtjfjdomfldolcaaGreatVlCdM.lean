/- Layer 18: for all arguments the law SaturateMatchesSpec returns true: its statement. Conditions: none beyond those that the given row prints. -/
import Derived.Test.YtjfjdomfldolcaaGreatVlA1
import Derived.Test.YtjfjdomfldolcaaGreatVlZ2
set_option linter.all false
namespace Go.Proofs.YtjfjdomfldolcaaGreat
open Go Go.Vl Go.RowKit Go.ChangeShapes
set_option maxRecDepth 100000 in
theorem qn (os:Os) (started:os.Started) (H:Type) (enc:TypeId×Value→H) :
 ReturnsInHanded {} Tryz.checked os 3 .any (fun w args=>(Rows.saturateMatchesSpecSpec.pre enc Tryz.prog Tryz.f3 [] false w args∧laidMetH Tryz.prog rU w)∧sizedMet enc Tryz.prog Tryz.f3 (OpenSpec.ofChange Rows.saturateMatchesSpecSpec) false w args)
  (Rows.saturateMatchesSpecSpec.post enc Tryz.prog Tryz.f3 false true false false):=by
 refine xX (C:=Tryz.checked) (laid:=rU) (gl:=gl) (L:=argTypes) (ts:=[26,28]) (tb:=4) Il started (by kernel_rfl) Tryz.func3
  (ChangeSpec.witness_shaped (enc:=enc) (C:=Tryz.checked) (os:=os) (X:=fun w _=>laidMetH Tryz.prog rU w) false (World.doorLaid Tryz.prog 400 os) #[Ln,akD] 8 rfl (World.shaped_of_RefB (by kernel_rfl) (by kernel_rfl)) (by kernel_rfl) (by kernel_rfl) (by kernel_rfl) (xZ os _))
  pS rfl (by simp[argTypes]) rT (fun t ht=>?_) rfl (fun ds h=>?_) rfl Tryz.underlying4 (fun _ _=>Im) (fun xs oE=>?_)
 ·have:t=26∨t=28:=by simpa using ht
  rcases this with rfl | rfl<;>exact⟨by kernel_rfl,bX (by kernel_rfl)⟩
 ·match ds,h with
  |[d0,d1],_=>rfl
 ·obtain⟨u0,u1,rfl,h0,h1⟩:=Ue oE
  obtain⟨x0,rfl,p0⟩:=Ga h0
  obtain⟨x1,rfl,p1⟩:=aeM h1
  exact Df x0 x1
theorem saturateMatchesSpec_holds:Rows.SaturateMatchesSpecSaid:=
 OpenClaim.holds_of_wide 3 Tryz.f3 rfl rfl rfl rfl rfl rfl rfl ⟨rfl,rfl,rfl,rfl,rfl⟩ rfl rfl rfl rfl rfl (by kernel_rfl) Tryz.func3 (by kernel_rfl)
  (bX (by kernel_rfl)) (by unfold Func.isWrapper;first | (rw[if_pos (by decide +kernel)];kernel_rfl) | (rw[if_neg (by decide +kernel)];exact⟨rfl,rfl⟩))
  (fun os started H enc _=>by rw[OpenClaim.pre_eq_preRow];exact qn os started H enc)
#print axioms saturateMatchesSpec_holds
