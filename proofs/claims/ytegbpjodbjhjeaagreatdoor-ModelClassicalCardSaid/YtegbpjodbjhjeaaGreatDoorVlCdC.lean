/- Layer 16: for all arguments the law ModelClassical returns true: its tied card. Conditions: none beyond those that the given row prints (the listed variables as the program's text lays them). -/
import Derived.Test.YtegbpjodbjhjeaaGreatDoorVlCB
import Derived.Test.YtegbpjodbjhjeaaGreatDoorVlLc
import Derived.Test.YtegbpjodbjhjeaaGreatDoorCards
import Derived.Test.YtegbpjodbjhjeaaGreatDoorTie
set_option linter.all false
namespace Go.Proofs.YtegbpjodbjhjeaaGreatDoor
open Go Go.Vl Go.RowKit Go.ChangeShapes
set_option maxRecDepth 100000 in
theorem sy (os:Os) (started:os.Started) (H:Type) (enc:TypeId×Value→H) :
 ReturnsInHanded {} Tryz.checked os 7 .any (fun w args=>(Rows.modelClassicalSpec.pre enc Tryz.prog Tryz.f7 [] false w args∧laidMetH Tryz.prog lY w)∧sizedMet enc Tryz.prog Tryz.f7 (OpenSpec.ofChange Rows.modelClassicalSpec) false w args)
  (Rows.modelClassicalSpec.post enc Tryz.prog Tryz.f7 false true false false):=by
 refine td (C:=Tryz.checked) (laid:=lY) (gl:=glM) (L:=argTypes) (ts:=[26,3,3]) (tb:=4) I7 started (by kernel_rfl) Tryz.func7
  (ChangeSpec.witness_shaped (enc:=enc) (C:=Tryz.checked) (os:=os) (X:=fun w _=>laidMetH Tryz.prog lY w) false (World.doorLaid Tryz.prog 400 os) #[Vb,.int .i64 0,.int .i64 0] 8 rfl (World.shaped_of_RefB (by kernel_rfl) (by kernel_rfl)) (by kernel_rfl) (by kernel_rfl) (by kernel_rfl) (qW os _))
  mc rfl (by simp[argTypes]) qV (fun t ht=>?_) rfl (fun ds h=>?_) rfl Tryz.underlying4 (fun W h=>I8 h) (fun xs xt=>?_)
 ·have:t=26∨t=3:=by simpa using ht
  rcases this with rfl | rfl<;>exact⟨by kernel_rfl,dA (by kernel_rfl)⟩
 ·match ds,h with
  |[d0,d1,d2],_=>rfl
 ·obtain⟨u0,u1,u2,rfl,h0,h1,h2⟩:=BK xt
  obtain⟨x0,rfl,p0⟩:=Kp.Bt h0
  obtain⟨x1,rfl,p1⟩:=FN h1
  obtain⟨x2,rfl,p2⟩:=FN h2
  exact PZ x0 x1 x2 p0 p1 p2
theorem tQ:Rows.ModelClassicalSaid:=
 OpenClaim.holds_of_wide 7 Tryz.f7 rfl rfl rfl rfl rfl rfl rfl ⟨rfl,rfl,rfl,rfl,rfl⟩ rfl rfl rfl rfl rfl (by kernel_rfl) Tryz.func7 (by kernel_rfl)
  (dA (by kernel_rfl)) (by unfold Func.isWrapper;first | (rw[if_pos (by decide +kernel)];kernel_rfl) | (rw[if_neg (by decide +kernel)];exact⟨rfl,rfl⟩))
  (fun os started H enc _=>sy os started H enc)
theorem tR (f:FuncId) (fn:Func) (hf:Tryz.pinned.checked.prog.funcNamed "custody/custodylaw16.ModelClassical" = some f) (LH:Tryz.pinned.checked.prog.funcs[f]?=some fn) :
 true=Tryz.pinned.checked.prog.looks []∧∀ (j:Nat) t,fn.params[j]?=some t→Tryz.pinned.checked.prog.wantsStandIn t=false:=by
 obtain rfl:f=7:=cN ((show Tryz.prog.funcNamed "custody/custodylaw16.ModelClassical" = some 7 by kernel_rfl).symm.trans hf) |>.symm
 obtain rfl:fn=Tryz.f7:=(cN (Tryz.func7.symm.trans LH)).symm
 refine⟨by kernel_rfl,fun j t ht=>?_⟩
 have hm:t∈[26,3,3]:=by
  have:=dz ht
  rw[Tryz.params7] at this
  simpa using this
 have dh:([26,3,3].all fun u=>!Tryz.prog.wantsStandIn u)=true:=by kernel_rfl
 exact(show Tryz.prog.wantsStandIn t=false by simpa using aU.1 dh t hm)
theorem modelClassical_card:Rows.ModelClassicalCardSaid:=
 Claim7.holds_tied_plain_at .later [] _ _ _ _ tQ (fun _ h=>by cases h) (by kernel_rfl) (fun _ h=>by cases h) modelClassical_row_tie rfl ⟨rfl,rfl⟩ (by kernel_rfl) rfl tR (by kernel_rfl)
#print axioms modelClassical_card
