/- Layer 19: for all arguments the law CertMinimal returns true: its tied card. Conditions: none beyond those that the given row prints (the listed variables as the program's text lays them). -/
import Derived.Test.YtloppcgcepgbnaaGreatDoorVlP3
import Derived.Test.YtloppcgcepgbnaaGreatDoorVlM4
import Derived.Test.YtloppcgcepgbnaaGreatDoorCards
import Derived.Test.YtloppcgcepgbnaaGreatDoorTie
set_option linter.all false
namespace Go.Proofs.YtloppcgcepgbnaaGreatDoor
open Go Go.Vl Go.RowKit Go.ChangeShapes
set_option maxRecDepth 100000 in
theorem wZ (os:Os) (started:os.Started) (H:Type) (enc:TypeId×Value→H) :
 ReturnsInHanded {} Tryz.checked os 6 .any (fun w args=>(Rows.certMinimalSpec.pre enc Tryz.prog Tryz.f6 [] false w args∧laidMetH Tryz.prog qD w)∧sizedMet enc Tryz.prog Tryz.f6 (OpenSpec.ofChange Rows.certMinimalSpec) false w args)
  (Rows.certMinimalSpec.post enc Tryz.prog Tryz.f6 false true false false):=by
 refine B6 (C:=Tryz.checked) (laid:=qD) (gl:=glO) (L:=argTypes) (ts:=[26,51]) (tb:=4) ZL started (by kernel_rfl) Tryz.func6
  (ChangeSpec.witness_shaped (enc:=enc) (C:=Tryz.checked) (os:=os) (X:=fun w _=>laidMetH Tryz.prog qD w) false (World.doorLaid Tryz.prog 400 os) #[amO,.int .u16 0] 8 rfl (World.shaped_of_RefB (by kernel_rfl) (by kernel_rfl)) (by kernel_rfl) (by kernel_rfl) (by kernel_rfl) (zl os _))
  sK rfl (by simp[argTypes]) zk (fun t ht=>?_) rfl (fun ds h=>?_) rfl Tryz.underlying4 (fun W h=>ZN h) (fun xs qX=>?_)
 ·have:t=26∨t=51:=by simpa using ht
  rcases this with rfl | rfl<;>exact⟨by kernel_rfl,bn (by kernel_rfl)⟩
 ·match ds,h with
  |[d0,d1],_=>rfl
 ·obtain⟨u0,u1,rfl,h0,h1⟩:=Ll qX
  obtain⟨x0,rfl,p0⟩:=HH h0
  obtain⟨x1,rfl,p1⟩:=aeV h1
  exact D1 ZM p0 x1 p1
theorem yu:Rows.CertMinimalSaid:=
 OpenClaim.holds_of_wide 6 Tryz.f6 rfl rfl rfl rfl rfl rfl rfl ⟨rfl,rfl,rfl,rfl,rfl⟩ rfl rfl rfl rfl rfl (by kernel_rfl) Tryz.func6 (by kernel_rfl)
  (bn (by kernel_rfl)) (by unfold Func.isWrapper;first | (rw[if_pos (by decide +kernel)];kernel_rfl) | (rw[if_neg (by decide +kernel)];exact⟨rfl,rfl⟩))
  (fun os started H enc _=>wZ os started H enc)
theorem yv (f:FuncId) (fn:Func) (hf:Tryz.pinned.checked.prog.funcNamed "custody/custodylaw19.CertMinimal" = some f) (FI:Tryz.pinned.checked.prog.funcs[f]?=some fn) :
 false=Tryz.pinned.checked.prog.looks []∧∀ (j:Nat) t,fn.params[j]?=some t→Tryz.pinned.checked.prog.wantsStandIn t=false:=by
 obtain rfl:f=6:=dz ((show Tryz.prog.funcNamed "custody/custodylaw19.CertMinimal" = some 6 by kernel_rfl).symm.trans hf) |>.symm
 obtain rfl:fn=Tryz.f6:=(dz (Tryz.func6.symm.trans FI)).symm
 refine⟨by kernel_rfl,fun j t ht=>?_⟩
 have hm:t∈[26,51]:=by
  have:=eB ht
  rw[Tryz.params6] at this
  simpa using this
 have en:([26,51].all fun u=>!Tryz.prog.wantsStandIn u)=true:=by kernel_rfl
 exact(show Tryz.prog.wantsStandIn t=false by simpa using aV.1 en t hm)
theorem certMinimal_card:Rows.CertMinimalCardSaid:=
 Claim7.holds_tied_plain_at .later [] _ _ _ _ yu (fun _ h=>by cases h) (by kernel_rfl) (fun _ h=>by cases h) certMinimal_row_tie rfl ⟨rfl,rfl⟩ (by kernel_rfl) rfl yv (by kernel_rfl)
#print axioms certMinimal_card
