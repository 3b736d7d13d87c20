/- Layer 19: for all arguments the law CertRoundTrip returns true: its tied card. Conditions: none beyond those that the given row prints (the listed variables as the program's text lays them). -/
import Derived.Test.YtloppcgcepgbnaaGreatDoorVlP3
import Derived.Test.YtloppcgcepgbnaaGreatDoorVlM4
import Derived.Test.YtloppcgcepgbnaaGreatDoorCards
import Derived.Test.YtloppcgcepgbnaaGreatDoorTie
set_option linter.all false
namespace Go.Proofs.YtloppcgcepgbnaaGreatDoor
open Go Go.Vl Go.RowKit Go.ChangeShapes
set_option maxRecDepth 100000 in
theorem uE (os:Os) (started:os.Started) (H:Type) (enc:TypeId×Value→H) :
 ReturnsInHanded {} Tryz.checked os 5 .any (fun w args=>(Rows.certRoundTripSpec.pre enc Tryz.prog Tryz.f5 [] false w args∧laidMetH Tryz.prog qD w)∧sizedMet enc Tryz.prog Tryz.f5 (OpenSpec.ofChange Rows.certRoundTripSpec) false w args)
  (Rows.certRoundTripSpec.post enc Tryz.prog Tryz.f5 false true false false):=by
 refine B6 (C:=Tryz.checked) (laid:=qD) (gl:=glO) (L:=argTypes) (ts:=[28,27]) (tb:=4) ZL started (by kernel_rfl) Tryz.func5
  (ChangeSpec.witness_shaped (enc:=enc) (C:=Tryz.checked) (os:=os) (X:=fun w _=>laidMetH Tryz.prog qD w) false (World.doorLaid Tryz.prog 400 os) #[.slice none 0 0,.slice none 0 0] 8 rfl (World.shaped_of_RefB (by kernel_rfl) (by kernel_rfl)) (by kernel_rfl) (by kernel_rfl) (by kernel_rfl) (zl os _))
  sK rfl (by simp[argTypes]) zk (fun t ht=>?_) rfl (fun ds h=>?_) rfl Tryz.underlying4 (fun W h=>ZN h) (fun xs qX=>?_)
 ·have:t=28∨t=27:=by simpa using ht
  rcases this with rfl | rfl<;>exact⟨by kernel_rfl,bn (by kernel_rfl)⟩
 ·match ds,h with
  |[d0,d1],_=>rfl
 ·obtain⟨u0,u1,rfl,h0,h1⟩:=Ll qX
  obtain⟨x0,rfl,p0⟩:=ajJ h0
  obtain⟨x1,rfl⟩:=ZJ h1
  exact Lu ZM x0 x1 p0
theorem vB:Rows.CertRoundTripSaid:=
 OpenClaim.holds_of_wide 5 Tryz.f5 rfl rfl rfl rfl rfl rfl rfl ⟨rfl,rfl,rfl,rfl,rfl⟩ rfl rfl rfl rfl rfl (by kernel_rfl) Tryz.func5 (by kernel_rfl)
  (bn (by kernel_rfl)) (by unfold Func.isWrapper;first | (rw[if_pos (by decide +kernel)];kernel_rfl) | (rw[if_neg (by decide +kernel)];exact⟨rfl,rfl⟩))
  (fun os started H enc _=>uE os started H enc)
theorem vC (f:FuncId) (fn:Func) (hf:Tryz.pinned.checked.prog.funcNamed "custody/custodylaw19.CertRoundTrip" = some f) (FI:Tryz.pinned.checked.prog.funcs[f]?=some fn) :
 false=Tryz.pinned.checked.prog.looks []∧∀ (j:Nat) t,fn.params[j]?=some t→Tryz.pinned.checked.prog.wantsStandIn t=false:=by
 obtain rfl:f=5:=dz ((show Tryz.prog.funcNamed "custody/custodylaw19.CertRoundTrip" = some 5 by kernel_rfl).symm.trans hf) |>.symm
 obtain rfl:fn=Tryz.f5:=(dz (Tryz.func5.symm.trans FI)).symm
 refine⟨by kernel_rfl,fun j t ht=>?_⟩
 have hm:t∈[28,27]:=by
  have:=eB ht
  rw[Tryz.params5] at this
  simpa using this
 have en:([28,27].all fun u=>!Tryz.prog.wantsStandIn u)=true:=by kernel_rfl
 exact(show Tryz.prog.wantsStandIn t=false by simpa using aV.1 en t hm)
theorem certRoundTrip_card:Rows.CertRoundTripCardSaid:=
 Claim7.holds_tied_plain_at .later [] _ _ _ _ vB (fun _ h=>by cases h) (by kernel_rfl) (fun _ h=>by cases h) certRoundTrip_row_tie rfl ⟨rfl,rfl⟩ (by kernel_rfl) rfl vC (by kernel_rfl)
#print axioms certRoundTrip_card
