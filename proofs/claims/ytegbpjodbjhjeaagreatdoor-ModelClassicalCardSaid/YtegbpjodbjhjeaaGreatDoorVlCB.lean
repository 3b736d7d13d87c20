/- What the statements of layer 16 share: the types of their arguments, the variables, the door. -/
import Derived.Test.YtegbpjodbjhjeaaGreatDoorVlCA
import Derived.Test.YtegbpjodbjhjeaaGreatDoorVlS2
import Derived.Test.YtegbpjodbjhjeaaGreatDoorRows
import Derived.JoinedOf
import Derived.JoinedCond
import Derived.MakeChecks
set_option linter.all false
namespace Go.Proofs.YtegbpjodbjhjeaaGreatDoor
open Go Go.Vl Go.RowKit Go.ChangeShapes Go.Proofs.YtegbpjodbjhjeaaGreatDoor
set_option maxRecDepth 100000
def argTypes:List TypeId:=[26,9,3,22,23,24,56,94,154,27,29,221,151,179]
theorem mc:vD Tryz.prog argTypes=true:=by kernel_rfl
theorem qV:laidOutB Tryz.prog=true:=by kernel_rfl
theorem I7:ownKnob Tryz.prog.godebug=none:=by kernel_rfl
def lY:List (String×DataW Unit):=[("math/bits.deBruijn32tab",Rows.laid_math_bits_deBruijn32tab),("math/bits.deBruijn64tab",Rows.laid_math_bits_deBruijn64tab),("internal/strconv.uint64pow10",Rows.laid_internal_strconv_uint64pow10),("custody/check.own",Rows.laid_custody_check_own)]
theorem ahD:(Tryz.prog.globals[1]?).map (·.type)=some 221:=by kernel_rfl
theorem YO:ta (Rows.laid_internal_strconv_uint64pow10:DataW Unit)=some (Lib.pow10Tab.map fun z=>[C.lit (.int .u64 z)]).flatten:=by kernel_rfl
theorem PV:Tryz.prog.globalNamed "custody/check.own" = some 0:=by kernel_rfl
theorem afm:(Tryz.prog.globals[0]?).map (·.type)=some 179:=by kernel_rfl
theorem YP:ta (Rows.laid_custody_check_own:DataW Unit)=some [.lit (.int .i64 23),.lit (.int .i64 24),.lit (.int .i64 25)]:=by kernel_rfl
set_option maxRecDepth 100000 in
theorem I8 {W:World} (h:laidMetH Tryz.prog lY W):GOK glM (A1 W) W:=by
 have h':laidMet Tryz.prog lY W:=by
  rw[Go.MakeChecks.laidMetH_plain _ _ _ (by kernel_rfl)] at h;exact h
 intro g cs hg
 obtain⟨ps,hv,_⟩:=h'
 unfold gat at hg
 split at hg
 ·cases hg
 ·unfold glM at hg
  split at hg
  ·rename_i h0
   simp only[ao] at hg;subst hg;subst h0
   exact A4 mc PV afm (by simp[argTypes]) (d:=Rows.laid_custody_check_own) YP lY ps hv (aR _ (aR _ (aR _ (aW ..))))
  ·unfold glT at hg
   split at hg
   ·rename_i h0
    simp only[ao] at hg;subst hg;subst h0
    exact A4 mc Dl ahD (by simp[argTypes]) (d:=Rows.laid_internal_strconv_uint64pow10) YO lY ps hv (aR _ (aR _ (aW ..)))
   ·cases hg
theorem Va (os:Os) (args:Array Value):laidMet Tryz.prog lY ((World.doorLaid Tryz.prog 400 os).forCall (fun _ _=>0) ⟨#[],args,[]⟩).memory:=
 laidMet_of_run' 8 (by kernel_rfl) (by kernel_rfl)
theorem qW (os:Os) (args:Array Value):laidMetH Tryz.prog lY ((World.doorLaid Tryz.prog 400 os).forCall (fun _ _=>0) ⟨#[],args,[]⟩).memory:=by
 rw[Go.MakeChecks.laidMetH_plain _ _ _ (by kernel_rfl)];exact Va os args
def Vb:Value:=.agg #[.string ⟨#[]⟩,.slice none 0 0,.slice none 0 0,.slice none 0 0]
def ahE:Value:=.agg #[.int .i64 0,.int .i64 0,.int .i64 0,.int .i64 0,.int .i64 0]
theorem BJ {x:List V} {a b:TypeId} (h:um Tryz.prog [a,b] x):∃ u v,x=[u,v]∧(∃ n cs,Shp Tryz.prog n a cs∧u=rE Tryz.prog a cs)∧(∃ n cs,Shp Tryz.prog n b cs∧v=rE Tryz.prog b cs):=by
 match x,h with
 |[u,v],h=>exact⟨u,v,rfl,h.1,h.2.1⟩
theorem BK {x:List V} {a b c:TypeId} (h:um Tryz.prog [a,b,c] x):∃ u v w,x=[u,v,w]∧(∃ n cs,Shp Tryz.prog n a cs∧u=rE Tryz.prog a cs)∧(∃ n cs,Shp Tryz.prog n b cs∧v=rE Tryz.prog b cs)∧(∃ n cs,Shp Tryz.prog n c cs∧w=rE Tryz.prog c cs):=by
 match x,h with
 |[u,v,w],h=>exact⟨u,v,w,rfl,h.1,h.2.1,h.2.2.1⟩
