/- Layer 19: for all arguments the law CertFewerRights returns true: its tied card. Conditions: none beyond those that the given row prints (the listed variables as the program's text lays them). -/
import Derived.Test.YtloppcgcepgbnaaGreatDoorVlP3
import Derived.Test.YtloppcgcepgbnaaGreatDoorVlM5
import Derived.Test.YtloppcgcepgbnaaGreatDoorCards
import Derived.Test.YtloppcgcepgbnaaGreatDoorTie
set_option linter.all false
namespace Go.Proofs.YtloppcgcepgbnaaGreatDoor
open Go Go.Vl Go.RowKit Go.ChangeShapes
set_option maxRecDepth 100000 in
theorem sL (os:Os) (started:os.Started) (H:Type) (enc:TypeId×Value→H) :
 ReturnsInHanded {} Tryz.checked os 7 .any (fun w args=>(Rows.certFewerRightsSpec.pre enc Tryz.prog Tryz.f7 [] false w args∧laidMetH Tryz.prog qD w)∧sizedMet enc Tryz.prog Tryz.f7 (OpenSpec.ofChange Rows.certFewerRightsSpec) false w args)
  (Rows.certFewerRightsSpec.post enc Tryz.prog Tryz.f7 false true false false):=by
 refine B6 (C:=Tryz.checked) (laid:=qD) (gl:=glO) (L:=argTypes) (ts:=[26,27,5,5,3]) (tb:=4) ZL started (by kernel_rfl) Tryz.func7
  (ChangeSpec.witness_shaped (enc:=enc) (C:=Tryz.checked) (os:=os) (X:=fun w _=>laidMetH Tryz.prog qD w) false (World.doorLaid Tryz.prog 400 os) #[amO,.slice none 0 0,.int .u8 0,.int .u8 0,.int .i64 0] 8 rfl (World.shaped_of_RefB (by kernel_rfl) (by kernel_rfl)) (by kernel_rfl) (by kernel_rfl) (by kernel_rfl) (zl os _))
  sK rfl (by simp[argTypes]) zk (fun t ht=>?_) rfl (fun ds h=>?_) rfl Tryz.underlying4 (fun W h=>ZN h) (fun xs qX=>?_)
 ·have:t=26∨t=27∨t=5∨t=3:=by simpa using ht
  rcases this with rfl | rfl | rfl | rfl<;>exact⟨by kernel_rfl,bn (by kernel_rfl)⟩
 ·match ds,h with
  |[d0,d1,d2,d3,d4],_=>rfl
 ·obtain⟨u0,u1,u2,u3,u4,rfl,h0,h1,h2,h3,h4⟩:=T8 qX
  obtain⟨x0,rfl,p0⟩:=HH h0
  obtain⟨x1,rfl⟩:=ZJ h1
  obtain⟨x2,rfl,p2⟩:=ZK h2
  obtain⟨x3,rfl,p3⟩:=ZK h3
  obtain⟨x4,rfl,p4⟩:=Kp.aeR h4
  exact Ly ZM p0 x1 x2 x3 x4 p2 p3
theorem tp:Rows.CertFewerRightsSaid:=
 OpenClaim.holds_of_wide 7 Tryz.f7 rfl rfl rfl rfl rfl rfl rfl ⟨rfl,rfl,rfl,rfl,rfl⟩ rfl rfl rfl rfl rfl (by kernel_rfl) Tryz.func7 (by kernel_rfl)
  (bn (by kernel_rfl)) (by unfold Func.isWrapper;first | (rw[if_pos (by decide +kernel)];kernel_rfl) | (rw[if_neg (by decide +kernel)];exact⟨rfl,rfl⟩))
  (fun os started H enc _=>sL os started H enc)
theorem tq (f:FuncId) (fn:Func) (hf:Tryz.pinned.checked.prog.funcNamed "custody/custodylaw19.CertFewerRights" = some f) (FI:Tryz.pinned.checked.prog.funcs[f]?=some fn) :
 false=Tryz.pinned.checked.prog.looks []∧∀ (j:Nat) t,fn.params[j]?=some t→Tryz.pinned.checked.prog.wantsStandIn t=false:=by
 obtain rfl:f=7:=dz ((show Tryz.prog.funcNamed "custody/custodylaw19.CertFewerRights" = some 7 by kernel_rfl).symm.trans hf) |>.symm
 obtain rfl:fn=Tryz.f7:=(dz (Tryz.func7.symm.trans FI)).symm
 refine⟨by kernel_rfl,fun j t ht=>?_⟩
 have hm:t∈[26,27,5,5,3]:=by
  have:=eB ht
  rw[Tryz.params7] at this
  simpa using this
 have en:([26,27,5,5,3].all fun u=>!Tryz.prog.wantsStandIn u)=true:=by kernel_rfl
 exact(show Tryz.prog.wantsStandIn t=false by simpa using aV.1 en t hm)
theorem certFewerRights_card:Rows.CertFewerRightsCardSaid:=
 Claim7.holds_tied_plain_at .later [] _ _ _ _ tp (fun _ h=>by cases h) (by kernel_rfl) (fun _ h=>by cases h) certFewerRights_row_tie rfl ⟨rfl,rfl⟩ (by kernel_rfl) rfl tq (by kernel_rfl)
#print axioms certFewerRights_card
