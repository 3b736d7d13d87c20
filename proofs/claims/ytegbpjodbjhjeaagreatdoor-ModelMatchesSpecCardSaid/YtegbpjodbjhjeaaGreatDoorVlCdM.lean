/- Layer 16: for all arguments the law ModelMatchesSpec returns true: its tied card. Conditions: none beyond those that the given row prints (the listed variables as the program's text lays them). -/
import Derived.Test.YtegbpjodbjhjeaaGreatDoorVlCB
import Derived.Test.YtegbpjodbjhjeaaGreatDoorVlRl
import Derived.Test.YtegbpjodbjhjeaaGreatDoorCards
import Derived.Test.YtegbpjodbjhjeaaGreatDoorTie
set_option linter.all false
namespace Go.Proofs.YtegbpjodbjhjeaaGreatDoor
open Go Go.Vl Go.RowKit Go.ChangeShapes
set_option maxRecDepth 100000 in
theorem rk (os:Os) (started:os.Started) (H:Type) (enc:TypeId×Value->H) :
 ReturnsInHanded {} Tryz.checked os 3 .any (λw args=>(Rows.modelMatchesSpecSpec.pre enc Tryz.prog Tryz.f3 [] false w args/\laidMetH Tryz.prog xJ w)/\sizedMet enc Tryz.prog Tryz.f3 (OpenSpec.ofChange Rows.modelMatchesSpecSpec) false w args)
  (Rows.modelMatchesSpecSpec.post enc Tryz.prog Tryz.f3 false true false false):=by
 refine TE (C:=Tryz.checked) (laid:=xJ) (gl:=glM) (L:=argTypes) (ts:=[26,27,29,3]) (tb:=4) agO started (by kernel_rfl) Tryz.func3
  (ChangeSpec.witness_shaped (enc:=enc) (C:=Tryz.checked) (os:=os) (X:=λw _=>laidMetH Tryz.prog xJ w) false (World.doorLaid Tryz.prog 400 os) #[ai7,.slice none 0 0,ai8,.int .i64 0] 8 rfl (World.shaped_of_RefB (by kernel_rfl) (by kernel_rfl)) (by kernel_rfl) (by kernel_rfl) (by kernel_rfl) (Qs os _))
  v6 rfl (by simp[argTypes]) Qq (λt ht=>?_) rfl (λds h=>?_) rfl Tryz.underlying4 (λW h=>agQ h) (λxs CQ=>?_)
 .have:t=26∨t=27∨t=29∨t=3:=by simpa using ht
  rcases this with rfl | rfl | rfl | rfl<;>exact⟨by kernel_rfl,fM (by kernel_rfl)⟩
 .match ds,h with
  |[d0,d1,d2,d3],_=>rfl
 .obtain⟨u0,u1,u2,u3,rfl,h0,h1,h2,h3⟩:=Qt CQ
  obtain⟨x0,rfl,p0⟩:=Kp.adH h0;obtain⟨x1,rfl,p1⟩:=Zr h1;obtain⟨x2,rfl,p2⟩:=adL h2;obtain⟨x3,rfl,p3⟩:=Nn h3;exact Wk x0 x1 x2 x3 p0
theorem sb:Rows.ModelMatchesSpecSaid:=
 OpenClaim.holds_of_wide 3 Tryz.f3 rfl rfl rfl rfl rfl rfl rfl ⟨rfl,rfl,rfl,rfl,rfl⟩ rfl rfl rfl rfl rfl (by kernel_rfl) Tryz.func3 (by kernel_rfl)
  (fM (by kernel_rfl)) (by unfold Func.isWrapper;first | (rw[if_pos (by decide +kernel)];kernel_rfl) | (rw[if_neg (by decide +kernel)];exact⟨rfl,rfl⟩))
  (λos started H enc _=>rk os started H enc)
theorem sc (f:FuncId) (fn:Func) (hf:Tryz.pinned.checked.prog.funcNamed "custody/custodylaw16.ModelMatchesSpec" = some f) (hfn:Tryz.pinned.checked.prog.funcs[f]?=some fn) :
 true=Tryz.pinned.checked.prog.looks []/\∀ (j:Nat) t,fn.params[j]?=some t->Tryz.pinned.checked.prog.wantsStandIn t=false:=by
 obtain rfl:f=3:=ew ((show Tryz.prog.funcNamed "custody/custodylaw16.ModelMatchesSpec" = some 3 by kernel_rfl).symm.trans hf) |>.symm;obtain rfl:fn=Tryz.f3:=(ew (Tryz.func3.symm.trans hfn)).symm;refine⟨by kernel_rfl,λj t ht=>?_⟩;have hm:t∈[26,27,29,3]:=by have:=fj ht;rw[Tryz.params3] at this;simpa using this
 have dC:([26,27,29,3].all λu=>!Tryz.prog.wantsStandIn u)=true:=by kernel_rfl
 exact(show Tryz.prog.wantsStandIn t=false by simpa using a8.1 dC t hm)
theorem modelMatchesSpec_card:Rows.ModelMatchesSpecCardSaid:=
 Claim7.holds_tied_plain_at .later [] _ _ _ _ sb (λ_ h=>by cases h) (by kernel_rfl) (λ_ h=>by cases h) modelMatchesSpec_row_tie rfl ⟨rfl,rfl⟩ (by kernel_rfl) rfl sc (by kernel_rfl)
#print axioms modelMatchesSpec_card
