/- Layer 19: for all arguments the law CertCompilesAsSpecified returns true: its tied card. Conditions: none beyond those that the given row prints (the listed variables as the program's text lays them). -/
import Derived.Test.YtloppcgcepgbnaaGreatDoorVlCB
import Derived.Test.YtloppcgcepgbnaaGreatDoorVlM2
import Derived.Test.YtloppcgcepgbnaaGreatDoorCards
import Derived.Test.YtloppcgcepgbnaaGreatDoorTie
set_option linter.all false
namespace Go.Proofs.YtloppcgcepgbnaaGreatDoor
open Go Go.Vl Go.RowKit Go.ChangeShapes
set_option maxRecDepth 100000 in
theorem oh (os:Os) (started:os.Started) (H:Type) (enc:TypeId×Value->H) :
 ReturnsInHanded {} Tryz.checked os 4 .any (λw args=>(Rows.certCompilesAsSpecifiedSpec.pre enc Tryz.prog Tryz.f4 [] false w args/\laidMetH Tryz.prog Au w)/\sizedMet enc Tryz.prog Tryz.f4 (OpenSpec.ofChange Rows.certCompilesAsSpecifiedSpec) false w args)
  (Rows.certCompilesAsSpecifiedSpec.post enc Tryz.prog Tryz.f4 false true false false):=by
 refine X0 (C:=Tryz.checked) (laid:=Au) (gl:=glO) (L:=argTypes) (ts:=[26]) (tb:=4) anQ started (by kernel_rfl) Tryz.func4
  (ChangeSpec.witness_shaped (enc:=enc) (C:=Tryz.checked) (os:=os) (X:=λw _=>laidMetH Tryz.prog Au w) false (World.doorLaid Tryz.prog 400 os) #[ap5] 8 rfl (World.shaped_of_RefB (by kernel_rfl) (by kernel_rfl)) (by kernel_rfl) (by kernel_rfl) (by kernel_rfl) (UT os _))
  DL rfl (by simp[argTypes]) UR (λt ht=>?_) rfl (λds h=>?_) rfl Tryz.underlying4 (λW h=>anS h) (λxs tW=>?_)
 .have:t=26:=by simpa using ht
  subst this;exact⟨by kernel_rfl,bw (by kernel_rfl)⟩
 .match ds,h with
  |[d0],_=>rfl
 .obtain⟨u0,rfl,h0⟩:=aaB tW
  obtain⟨x0,rfl,p0⟩:=O7 h0;exact DU anR p0
theorem oP:Rows.CertCompilesAsSpecifiedSaid:=
 OpenClaim.holds_of_wide 4 Tryz.f4 rfl rfl rfl rfl rfl rfl rfl ⟨rfl,rfl,rfl,rfl,rfl⟩ rfl rfl rfl rfl rfl (by kernel_rfl) Tryz.func4 (by kernel_rfl)
  (bw (by kernel_rfl)) (by unfold Func.isWrapper;first | (rw[if_pos (by decide +kernel)];kernel_rfl) | (rw[if_neg (by decide +kernel)];exact⟨rfl,rfl⟩))
  (λos started H enc _=>oh os started H enc)
theorem oR (f:FuncId) (fn:Func) (hf:Tryz.pinned.checked.prog.funcNamed "custody/custodylaw19.CertCompilesAsSpecified" = some f) (MO:Tryz.pinned.checked.prog.funcs[f]?=some fn) :
 false=Tryz.pinned.checked.prog.looks []/\∀ (j:Nat) t,fn.params[j]?=some t->Tryz.pinned.checked.prog.wantsStandIn t=false:=by
 obtain rfl:f=4:=eH ((show Tryz.prog.funcNamed "custody/custodylaw19.CertCompilesAsSpecified" = some 4 by kernel_rfl).symm.trans hf) |>.symm;obtain rfl:fn=Tryz.f4:=(eH (Tryz.func4.symm.trans MO)).symm;refine⟨by kernel_rfl,λj t ht=>?_⟩;have hm:t∈[26]:=by have:=fA ht;rw[Tryz.params4] at this;simpa using this
 have eE:([26].all λu=>!Tryz.prog.wantsStandIn u)=true:=by kernel_rfl
 exact(show Tryz.prog.wantsStandIn t=false by simpa using a8.1 eE t hm)
theorem certCompilesAsSpecified_card:Rows.CertCompilesAsSpecifiedCardSaid:=
 Claim7.holds_tied_plain_at .later [] _ _ _ _ oP (λ_ h=>by cases h) (by kernel_rfl) (λ_ h=>by cases h) certCompilesAsSpecified_row_tie rfl ⟨rfl,rfl⟩ (by kernel_rfl) rfl oR (by kernel_rfl)
#print axioms certCompilesAsSpecified_card
