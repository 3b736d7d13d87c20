/- What the statements of layer 16 share: the types of their arguments, the variables, the door. -/
import Derived.Test.YtegbpjodbjhjeaaGreatDoorVlCA
import Derived.Test.YtegbpjodbjhjeaaGreatDoorVlS2
import Derived.Test.YtegbpjodbjhjeaaGreatDoorRows
import Derived.JoinedOf
import Derived.JoinedCond
import Derived.MakeChecks
set_option linter.all false
namespace Go.Proofs.YtegbpjodbjhjeaaGreatDoor
open Go Go.Vl Go.RowKit Go.ChangeShapes Go.Proofs.YtegbpjodbjhjeaaGreatDoor
set_option maxRecDepth 100000
def argTypes:List TypeId:=[26,9,3,22,23,24,56,94,154,27,29,221,151,179]
theorem re:uG Tryz.prog argTypes=true:=by kernel_rfl
theorem CH:laidOutB Tryz.prog=true:=by kernel_rfl
theorem YG:ownKnob Tryz.prog.godebug=none:=by kernel_rfl
def rC:List (String×DataW Unit):=[("math/bits.deBruijn32tab",Rows.laid_math_bits_deBruijn32tab),("math/bits.deBruijn64tab",Rows.laid_math_bits_deBruijn64tab),("internal/strconv.uint64pow10",Rows.laid_internal_strconv_uint64pow10),("custody/check.own",Rows.laid_custody_check_own)]
theorem agw:(Tryz.prog.globals[1]?).map (·.type)=some 221:=by kernel_rfl
theorem Xy:su (Rows.laid_internal_strconv_uint64pow10:DataW Unit)=some (Lib.pow10Tab.map fun z=>[C.lit (.int .u64 z)]).flatten:=by kernel_rfl
theorem OO:Tryz.prog.globalNamed "custody/check.own" = some 0:=by kernel_rfl
theorem aef:(Tryz.prog.globals[0]?).map (·.type)=some 179:=by kernel_rfl
theorem Xz:su (Rows.laid_custody_check_own:DataW Unit)=some [.lit (.int .i64 23),.lit (.int .i64 24),.lit (.int .i64 25)]:=by kernel_rfl
set_option maxRecDepth 100000 in
theorem YH {W:World} (h:laidMetH Tryz.prog rC W):GOK glM (zW W) W:=by
 have h':laidMet Tryz.prog rC W:=by
  rw[Go.MakeChecks.laidMetH_plain _ _ _ (by kernel_rfl)] at h;exact h
 intro g cs hg
 obtain⟨ps,hv,_⟩:=h'
 unfold gat at hg
 split at hg
 ·cases hg
 ·unfold glM at hg
  split at hg
  ·rename_i h0
   simp only[am] at hg;subst hg;subst h0
   exact zZ re OO aef (by simp[argTypes]) (d:=Rows.laid_custody_check_own) Xz rC ps hv (aM _ (aM _ (aM _ (aT ..))))
  ·unfold glT at hg
   split at hg
   ·rename_i h0
    simp only[am] at hg;subst hg;subst h0
    exact zZ re Cf agw (by simp[argTypes]) (d:=Rows.laid_internal_strconv_uint64pow10) Xy rC ps hv (aM _ (aM _ (aT ..)))
   ·cases hg
theorem TW (os:Os) (args:Array Value):laidMet Tryz.prog rC ((World.doorLaid Tryz.prog 400 os).forCall (fun _ _=>0) ⟨#[],args,[]⟩).memory:=
 laidMet_of_run' 8 (by kernel_rfl) (by kernel_rfl)
theorem CJ (os:Os) (args:Array Value):laidMetH Tryz.prog rC ((World.doorLaid Tryz.prog 400 os).forCall (fun _ _=>0) ⟨#[],args,[]⟩).memory:=by
 rw[Go.MakeChecks.laidMetH_plain _ _ _ (by kernel_rfl)];exact TW os args
def aeg:Value:=.agg #[.string ⟨#[]⟩,.slice none 0 0,.slice none 0 0,.slice none 0 0]
theorem HV {x:List V} {a b:TypeId} (h:vN Tryz.prog [a,b] x):∃ u v,x=[u,v]∧(∃ n cs,Shp Tryz.prog n a cs∧u=Bg Tryz.prog a cs)∧(∃ n cs,Shp Tryz.prog n b cs∧v=Bg Tryz.prog b cs):=by
 match x,h with
 |[u,v],h=>exact⟨u,v,rfl,h.1,h.2.1⟩
