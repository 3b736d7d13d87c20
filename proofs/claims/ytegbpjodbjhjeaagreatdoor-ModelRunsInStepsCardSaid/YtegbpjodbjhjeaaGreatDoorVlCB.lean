/- Layer 16: the law of the origins. -/
import Derived.Test.YtegbpjodbjhjeaaGreatDoorVlLa
import Derived.Test.YtegbpjodbjhjeaaGreatDoorVlCA
import Derived.Test.YtegbpjodbjhjeaaGreatDoorRows
import Derived.JoinedOf
import Derived.JoinedCond
import Derived.MakeChecks
set_option linter.all false
namespace Go.Proofs.YtegbpjodbjhjeaaGreatDoor
open Go Go.Vl
open Kp (Pol Ty poC tyC)
set_option maxRecDepth 10000
section
variable {fr:Nat→V} {bx:Nat→List V} {nb q:Nat} {K:V→Prop} {o:Hd}
end
open Go Go.Vl Go.RowKit Go.ChangeShapes Go.Proofs.YtegbpjodbjhjeaaGreatDoor
set_option maxRecDepth 100000
def argTypes:List TypeId:=[26,9,3,22,23,24,56,94,154,27,29,221,151,179]
theorem rI:rB Tryz.prog argTypes=true:=by kernel_rfl
theorem KH:laidOutB Tryz.prog=true:=by kernel_rfl
theorem aau:ownKnob Tryz.prog.godebug=none:=by kernel_rfl
def tu:List (String×DataW Unit):=[("math/bits.deBruijn32tab",Rows.laid_math_bits_deBruijn32tab),("math/bits.deBruijn64tab",Rows.laid_math_bits_deBruijn64tab),("internal/strconv.uint64pow10",Rows.laid_internal_strconv_uint64pow10),("custody/check.own",Rows.laid_custody_check_own)]
theorem abC:(Tryz.prog.globals[1]?).map (·.type)=some 221:=by kernel_rfl
theorem UD:pW (Rows.laid_internal_strconv_uint64pow10:DataW Unit)=some (Lib.pow10Tab.map fun z=>[C.lit (.int .u64 z)]).flatten:=by kernel_rfl
theorem KI:Tryz.prog.globalNamed "custody/check.own" = some 0:=by kernel_rfl
theorem aav:(Tryz.prog.globals[0]?).map (·.type)=some 179:=by kernel_rfl
theorem UE:pW (Rows.laid_custody_check_own:DataW Unit)=some [.lit (.int .i64 23),.lit (.int .i64 24),.lit (.int .i64 25)]:=by kernel_rfl
set_option maxRecDepth 100000 in
theorem aaw {W:World} (h:laidMetH Tryz.prog tu W):GOK glM (wA W) W:=by
 have h':laidMet Tryz.prog tu W:=by
  rw[Go.MakeChecks.laidMetH_plain _ _ _ (by kernel_rfl)] at h;exact h
 intro g cs hg
 obtain⟨ps,hv,_⟩:=h'
 unfold gat at hg
 split at hg
 ·cases hg
 ·unfold glM at hg
  split at hg
  ·rename_i h0
   simp only[am] at hg;subst hg;subst h0
   exact wE rI KI aav (by simp[argTypes]) (d:=Rows.laid_custody_check_own) UE tu ps hv (aN _ (aN _ (aN _ (aR ..))))
  ·unfold glT at hg
   split at hg
   ·rename_i h0
    simp only[am] at hg;subst hg;subst h0
    exact wE rI yZ abC (by simp[argTypes]) (d:=Rows.laid_internal_strconv_uint64pow10) UD tu ps hv (aN _ (aN _ (aR ..)))
   ·cases hg
theorem P4 (os:Os) (args:Array Value):laidMet Tryz.prog tu ((World.doorLaid Tryz.prog 400 os).forCall (fun _ _=>0) ⟨#[],args,[]⟩).memory:=
 laidMet_of_run' 8 (by kernel_rfl) (by kernel_rfl)
theorem KJ (os:Os) (args:Array Value):laidMetH Tryz.prog tu ((World.doorLaid Tryz.prog 400 os).forCall (fun _ _=>0) ⟨#[],args,[]⟩).memory:=by
 rw[Go.MakeChecks.laidMetH_plain _ _ _ (by kernel_rfl)];exact P4 os args
def abD:Value:=.agg #[.string ⟨#[]⟩,.slice none 0 0,.slice none 0 0,.slice none 0 0]
theorem P5 {x:List V} {a b:TypeId} (h:sH Tryz.prog [a,b] x):∃ u v,x=[u,v]∧(∃ n cs,Shp Tryz.prog n a cs∧u=xU Tryz.prog a cs)∧(∃ n cs,Shp Tryz.prog n b cs∧v=xU Tryz.prog b cs):=by
 match x,h with
 |[u,v],h=>exact⟨u,v,rfl,h.1,h.2.1⟩
