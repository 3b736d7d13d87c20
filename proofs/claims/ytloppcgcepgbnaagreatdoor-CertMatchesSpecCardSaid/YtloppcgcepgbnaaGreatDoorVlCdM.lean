/- Layer 19: for all arguments the law CertMatchesSpec returns true: its tied card. Conditions: none beyond those that the given row prints (the listed variables as the program's text lays them). -/
import Derived.Test.YtloppcgcepgbnaaGreatDoorVlCB
import Derived.Test.YtloppcgcepgbnaaGreatDoorVlM1
import Derived.Test.YtloppcgcepgbnaaGreatDoorCards
import Derived.Test.YtloppcgcepgbnaaGreatDoorTie
set_option linter.all false
namespace Go.Proofs.YtloppcgcepgbnaaGreatDoor
open Go Go.Vl Go.RowKit Go.ChangeShapes
set_option maxRecDepth 100000 in
theorem sL (os:Os) (started:os.Started) (H:Type) (enc:TypeId×Value->H) :
 ReturnsInHanded {} Tryz.checked os 3 .any (λw args=>(Rows.certMatchesSpecSpec.pre enc Tryz.prog Tryz.f3 [] false w args/\laidMetH Tryz.prog Aq w)/\sizedMet enc Tryz.prog Tryz.f3 (OpenSpec.ofChange Rows.certMatchesSpecSpec) false w args)
  (Rows.certMatchesSpecSpec.post enc Tryz.prog Tryz.f3 false true false false):=by
 refine W8 (C:=Tryz.checked) (laid:=Aq) (gl:=glO) (L:=argTypes) (ts:=[26,27,28]) (tb:=4) ak5 started (by kernel_rfl) Tryz.func3
  (ChangeSpec.witness_shaped (enc:=enc) (C:=Tryz.checked) (os:=os) (X:=λw _=>laidMetH Tryz.prog Aq w) false (World.doorLaid Tryz.prog 400 os) #[amZ,.slice none 0 0,.slice none 0 0] 8 rfl (World.shaped_of_RefB (by kernel_rfl) (by kernel_rfl)) (by kernel_rfl) (by kernel_rfl) (by kernel_rfl) (Uj os _))
  DU rfl (by simp[argTypes]) Uh (λt ht=>?_) rfl (λds h=>?_) rfl Tryz.underlying4 (λW h=>ak7 h) (λxs tG=>?_)
 .have:t=26∨t=27∨t=28:=by simpa using ht
  rcases this with rfl | rfl | rfl<;>exact⟨by kernel_rfl,a8 (by kernel_rfl)⟩
 .match ds,h with
  |[d0,d1,d2],_=>rfl
 .obtain⟨u0,u1,u2,rfl,h0,h1,h2⟩:=OG tG
  obtain⟨x0,rfl,p0⟩:=OD h0;obtain⟨x1,rfl⟩:=ah6 h1;obtain⟨x2,rfl,p2⟩:=ah5 h2;exact Ez ak6 p0 x1 x2 p2
theorem tu:Rows.CertMatchesSpecSaid:=
 OpenClaim.holds_of_wide 3 Tryz.f3 rfl rfl rfl rfl rfl rfl rfl ⟨rfl,rfl,rfl,rfl,rfl⟩ rfl rfl rfl rfl rfl (by kernel_rfl) Tryz.func3 (by kernel_rfl)
  (a8 (by kernel_rfl)) (by unfold Func.isWrapper;first | (rw[if_pos (by decide +kernel)];kernel_rfl) | (rw[if_neg (by decide +kernel)];exact⟨rfl,rfl⟩))
  (λos started H enc _=>sL os started H enc)
theorem tw (f:FuncId) (fn:Func) (hf:Tryz.pinned.checked.prog.funcNamed "custody/custodylaw19.CertMatchesSpec" = some f) (Mc:Tryz.pinned.checked.prog.funcs[f]?=some fn) :
 false=Tryz.pinned.checked.prog.looks []/\∀ (j:Nat) t,fn.params[j]?=some t->Tryz.pinned.checked.prog.wantsStandIn t=false:=by
 obtain rfl:f=3:=eI ((show Tryz.prog.funcNamed "custody/custodylaw19.CertMatchesSpec" = some 3 by kernel_rfl).symm.trans hf) |>.symm;obtain rfl:fn=Tryz.f3:=(eI (Tryz.func3.symm.trans Mc)).symm;refine⟨by kernel_rfl,λj t ht=>?_⟩;have hm:t∈[26,27,28]:=by have:=fD ht;rw[Tryz.params3] at this;simpa using this
 have eF:([26,27,28].all λu=>!Tryz.prog.wantsStandIn u)=true:=by kernel_rfl
 exact(show Tryz.prog.wantsStandIn t=false by simpa using aY.1 eF t hm)
theorem certMatchesSpec_card:Rows.CertMatchesSpecCardSaid:=
 Claim7.holds_tied_plain_at .later [] _ _ _ _ tu (λ_ h=>by cases h) (by kernel_rfl) (λ_ h=>by cases h) certMatchesSpec_row_tie rfl ⟨rfl,rfl⟩ (by kernel_rfl) rfl tw (by kernel_rfl)
#print axioms certMatchesSpec_card
