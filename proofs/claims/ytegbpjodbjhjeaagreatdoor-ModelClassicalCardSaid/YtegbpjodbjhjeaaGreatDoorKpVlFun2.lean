/- Layer 15: what the laws share. -/
import Derived.Test.YtegbpjodbjhjeaaGreatDoorVlUt
import Derived.Test.YtegbpjodbjhjeaaGreatDoorVlTypes
import Derived.Test.YtegbpjodbjhjeaaGreatDoorVlRunB
import Derived.Eval
set_option linter.all false
namespace Go.Proofs.YtegbpjodbjhjeaaGreatDoor
open Go Go.Vl
set_option maxRecDepth 10000
def knT (I:List Tm) (t:Tm):Bool:=dD (inP (en I)) t
theorem oS {I:List Tm} (hv:∀ t∈I,bY t=true) {t:Tm}:knT I t=true↔Kn I true t:=by
 obtain⟨hC,m9⟩:=ly hv
 exact Pf hC.item hC.kn m9
theorem Bq {I:List Tm} (hv:∀ t∈I,bY t=true) {t:Tm}:t∈en I↔Kn I false t:=by
 obtain⟨hC,m9⟩:=ly hv
 exact Fh hC.item hC.kn m9
theorem Px (I:List Tm) (t:Tm) (hv:∀ t∈I,bY t=true) (dZ:cF I≤100000000) (ht:bY t=true) (hst:bq t≤1000000000):FnOK Tryz.prog glT 49 [.c (tsC I),.agg (tmC t)] (bo (knT I t)):=Um I t hv dZ ht hst
end Go.Proofs.YtegbpjodbjhjeaaGreatDoor
namespace Go.Proofs.YtegbpjodbjhjeaaGreatDoor.Kp
open Go Go.Vl
set_option maxRecDepth 10000
theorem mixed:Tryz.prog.follows .mixedOrders=true:=Tryz.checked.mixed
abbrev i64 (n:Int):V:=.c (.lit (.int .i64 n))
abbrev bo (b:Bool):V:=.c (.lit (.bool b))
variable {G:Gl}
set_option maxHeartbeats 1000000 in
theorem yw (a b c:Int):FnOK Tryz.prog G 139 [i64 a,i64 b,i64 c] (bo (decide (b≤a)&&decide (a≤c))):=by
 refine bE (rs:=[.tmp 6]) false [] mixed Tryz.func139 rfl rfl rfl rfl (by kernel_rfl) (by simp) rfl rfl ?_
 repeat' first
  |(simp only[pkA,seval])
  |refine iK (fun h=>?_) (fun h=>?_)
  |refine aL (fun h=>?_) (fun h=>?_)
 all_goals (simp_all<;>omega)
set_option maxHeartbeats 1000000 in
theorem tp (a:Int):FnOK Tryz.prog G 98 [i64 a] (bo false):=by
 refine bE (rs:=[.tmp 2]) false [] mixed Tryz.func98 rfl rfl rfl rfl (by kernel_rfl) (by simp) rfl rfl ?_
 repeat' first
  |(simp only[pkA,seval])
  |refine iK (fun h=>?_) (fun h=>?_)
  |refine aL (fun h=>?_) (fun h=>?_)
 all_goals simp_all
def aeN (a b:Int):Int:=if a<b then -1 else if b<a then 1 else 0
set_option maxHeartbeats 1000000 in
theorem vJ (a b:Int):FnOK Tryz.prog G 55 [i64 a,i64 b] (i64 (aeN a b)):=by
 refine bE (rs:=[.tmp 4]) false [] mixed Tryz.func55 rfl rfl rfl rfl (by kernel_rfl) (by simp) rfl rfl ?_
 simp only[pkA,seval]
 refine ay rfl (tp a) (by simp[V.boxy]) ?_
 simp only[pkA,seval]
 refine ay rfl (tp b) (by simp[V.boxy]) ?_
 repeat' first
  |(simp only[pkA,seval])
  |refine iK (fun h=>?_) (fun h=>?_)
  |refine aL (fun h=>?_) (fun h=>?_)
 all_goals (simp_all[aeN]<;>omega)
structure Ty where
 name:ByteArray
 flags:Int
 life:Int
 deriving DecidableEq
structure Ru where
 kind:Int
 a:Int
 b:Int
 deriving DecidableEq
structure Qu where
 cmd:Int
 count:Int
 delay:Int
 valid:Int
 uses:Int
 deriving DecidableEq
structure Pol where
 name:ByteArray
 types:List Ty
 rules:List Ru
 quorums:List Qu
 deriving DecidableEq
def cS (b:ByteArray):C:=.lit (.string b)
def cI (n:Int):C:=.lit (.int .i64 n)
def tyC (t:Ty):List C:=[cS t.name,cI t.flags,cI t.life]
def ruC (r:Ru):List C:=[cI r.kind,cI r.a,cI r.b]
def quC (q:Qu):List C:=[cI q.cmd,cI q.count,cI q.delay,cI q.valid,cI q.uses]
def poC (p:Pol):List C:=[cS p.name,.sl (p.types.map tyC),.sl (p.rules.map ruC),.sl (p.quorums.map quC)]
theorem zR (t:Ty):(tyC t).length=3:=rfl
theorem MJ (t:Ru):(ruC t).length=3:=rfl
theorem FG (t:Qu):(quC t).length=5:=rfl
theorem ML (t:Pol):(poC t).length=4:=rfl
section
variable {K:V→Prop} {sz:Nat}
theorem ag6 {t:Ty}:eA false sz 0 (tyC t) K=K (.c (.lit (.string t.name))):=rfl
theorem ag7 {t:Ty}:eA false sz 1 (tyC t) K=K (i64 t.flags):=rfl
theorem ag8 {t:Ty}:eA false sz 2 (tyC t) K=K (i64 t.life):=rfl
theorem ag9 {t:Ru}:eA false sz 0 (ruC t) K=K (i64 t.kind):=rfl
theorem aha {t:Ru}:eA false sz 1 (ruC t) K=K (i64 t.a):=rfl
theorem ahb {t:Ru}:eA false sz 2 (ruC t) K=K (i64 t.b):=rfl
theorem ahc {t:Qu}:eA false sz 0 (quC t) K=K (i64 t.cmd):=rfl
theorem ahd {t:Qu}:eA false sz 1 (quC t) K=K (i64 t.count):=rfl
theorem ahe {t:Qu}:eA false sz 2 (quC t) K=K (i64 t.delay):=rfl
theorem ahf {t:Qu}:eA false sz 3 (quC t) K=K (i64 t.valid):=rfl
theorem ahg {t:Qu}:eA false sz 4 (quC t) K=K (i64 t.uses):=rfl
theorem ahh {t:Pol}:eA false sz 0 (poC t) K=K (.c (.lit (.string t.name))):=rfl
theorem ahi {t:Pol}:eA false sz 1 (poC t) K=K (.c (.sl (t.types.map tyC))):=rfl
theorem ahj {t:Pol}:eA false sz 2 (poC t) K=K (.c (.sl (t.rules.map ruC))):=rfl
theorem ahk {t:Pol}:eA false sz 3 (poC t) K=K (.c (.sl (t.quorums.map quC))):=rfl
end
theorem aeO (x y:Ru):jM [.int,.int,.int] (ruC x) (ruC y)=some (decide (x=y)):=by
 cases x;cases y;simp[jM,eqC,ruC,cI,Ru.mk.injEq,Bool.decide_and]
section
variable {K:V→Prop}
theorem Un {x y:Ru}:m5 Tryz.prog .eql 94 (.agg (ruC x)) (.agg (ruC y)) K=K (bo (decide (x=y))):=Hx mz rfl rfl (aeO x y) rfl rfl
theorem acf {x y:Bool}:m5 Tryz.prog .neq 4 (.c (.lit (.bool x))) (.c (.lit (.bool y))) K=K (bo (!(x==y))):=Ox aer rfl
end
def pkP:=jj @zR (jj @MJ (jj @FG (jj @ML (jj @ag6 (jj @ag7 (jj @ag8 (jj @ag9 (jj @aha (jj @ahb (jj @ahc (jj @ahd (jj @ahe (jj @ahf (jj @ahg (jj @ahh (jj @ahi (jj @ahj (jj @ahk (jj @Un @acf)))))))))))))))))))
