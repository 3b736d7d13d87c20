/- Layer 15: what the laws share. -/
import Derived.Test.YtegbpjodbjhjeaaGreatDoorVlUt
import Derived.Test.YtegbpjodbjhjeaaGreatDoorVlTypes
import Derived.Test.YtegbpjodbjhjeaaGreatDoorVlRunB
import Derived.Eval
set_option linter.all false
namespace Go.Proofs.YtegbpjodbjhjeaaGreatDoor
open Go Go.Vl
set_option maxRecDepth 10000
def knT (I:List Tm) (t:Tm):Bool:=dH (inP (eb I)) t
theorem Bd {I:List Tm} (hv:∀ t∈I,bR t=true) {t:Tm}:knT I t=true↔Kn I true t:=by
 obtain⟨hC,hcl⟩:=kR hv
 exact J5 hC.item hC.kn hcl
theorem wY {I:List Tm} (hv:∀ t∈I,bR t=true) {t:Tm}:t∈eb I↔Kn I false t:=by
 obtain⟨hC,hcl⟩:=kR hv
 exact AX hC.item hC.kn hcl
theorem Kk (I:List Tm) (t:Tm) (hv:∀ t∈I,bR t=true) (hsz:cH I≤100000000) (ht:bR t=true) (hst:bu t≤1000000000):FnOK Tryz.prog glT 49 [.c (tsC I),.agg (tmC t)] (bo (knT I t)):=O8 I t hv hsz ht hst
end Go.Proofs.YtegbpjodbjhjeaaGreatDoor
namespace Go.Proofs.YtegbpjodbjhjeaaGreatDoor.Kp
open Go Go.Vl
set_option maxRecDepth 10000
theorem mixed:Tryz.prog.follows .mixedOrders=true:=Tryz.checked.mixed
abbrev i64 (n:Int):V:=.c (.lit (.int .i64 n))
abbrev bo (b:Bool):V:=.c (.lit (.bool b))
variable {G:Gl}
set_option maxHeartbeats 1000000 in
theorem Kl (a b c:Int):FnOK Tryz.prog G 139 [i64 a,i64 b,i64 c] (bo (decide (b≤a)&&decide (a≤c))):=by
 refine bP (rs:=[.tmp 6]) false [] mixed Tryz.func139 rfl rfl rfl rfl (by kernel_rfl) (by simp) rfl rfl ?_
 repeat' first
  |(simp only[pkA,seval])
  |refine jc (fun h=>?_) (fun h=>?_)
  |refine aZ (fun h=>?_) (fun h=>?_)
 all_goals (simp_all<;>omega)
set_option maxHeartbeats 1000000 in
theorem qa (a:Int):FnOK Tryz.prog G 98 [i64 a] (bo false):=by
 refine bP (rs:=[.tmp 2]) false [] mixed Tryz.func98 rfl rfl rfl rfl (by kernel_rfl) (by simp) rfl rfl ?_
 repeat' first
  |(simp only[pkA,seval])
  |refine jc (fun h=>?_) (fun h=>?_)
  |refine aZ (fun h=>?_) (fun h=>?_)
 all_goals simp_all
def ZQ (a b:Int):Int:=if a<b then -1 else if b<a then 1 else 0
set_option maxHeartbeats 1000000 in
theorem rE (a b:Int):FnOK Tryz.prog G 55 [i64 a,i64 b] (i64 (ZQ a b)):=by
 refine bP (rs:=[.tmp 4]) false [] mixed Tryz.func55 rfl rfl rfl rfl (by kernel_rfl) (by simp) rfl rfl ?_
 simp only[pkA,seval]
 refine aD rfl (qa a) (by simp[V.boxy]) ?_
 simp only[pkA,seval]
 refine aD rfl (qa b) (by simp[V.boxy]) ?_
 repeat' first
  |(simp only[pkA,seval])
  |refine jc (fun h=>?_) (fun h=>?_)
  |refine aZ (fun h=>?_) (fun h=>?_)
 all_goals (simp_all[ZQ]<;>omega)
structure Ty where
 name:ByteArray
 flags:Int
 life:Int
 deriving DecidableEq
structure Ru where
 kind:Int
 a:Int
 b:Int
 deriving DecidableEq
structure Qu where
 cmd:Int
 count:Int
 delay:Int
 valid:Int
 uses:Int
 deriving DecidableEq
structure Pol where
 name:ByteArray
 types:List Ty
 rules:List Ru
 quorums:List Qu
 deriving DecidableEq
def cS (b:ByteArray):C:=.lit (.string b)
def cI (n:Int):C:=.lit (.int .i64 n)
def tyC (t:Ty):List C:=[cS t.name,cI t.flags,cI t.life]
def ruC (r:Ru):List C:=[cI r.kind,cI r.a,cI r.b]
def quC (q:Qu):List C:=[cI q.cmd,cI q.count,cI q.delay,cI q.valid,cI q.uses]
def poC (p:Pol):List C:=[cS p.name,.sl (p.types.map tyC),.sl (p.rules.map ruC),.sl (p.quorums.map quC)]
theorem Hp (t:Ty):(tyC t).length=3:=rfl
theorem Hq (t:Ru):(ruC t).length=3:=rfl
theorem Hr (t:Qu):(quC t).length=5:=rfl
theorem Ht (t:Pol):(poC t).length=4:=rfl
section
variable {K:V→Prop} {sz:Nat}
theorem aaS {t:Ty}:cU false sz 0 (tyC t) K=K (.c (.lit (.string t.name))):=rfl
theorem aaT {t:Ty}:cU false sz 1 (tyC t) K=K (i64 t.flags):=rfl
theorem aaU {t:Ty}:cU false sz 2 (tyC t) K=K (i64 t.life):=rfl
theorem aaV {t:Ru}:cU false sz 0 (ruC t) K=K (i64 t.kind):=rfl
theorem aaW {t:Ru}:cU false sz 1 (ruC t) K=K (i64 t.a):=rfl
theorem aaX {t:Ru}:cU false sz 2 (ruC t) K=K (i64 t.b):=rfl
theorem aaY {t:Qu}:cU false sz 0 (quC t) K=K (i64 t.cmd):=rfl
theorem aaZ {t:Qu}:cU false sz 1 (quC t) K=K (i64 t.count):=rfl
theorem aa0 {t:Qu}:cU false sz 2 (quC t) K=K (i64 t.delay):=rfl
theorem aa1 {t:Qu}:cU false sz 3 (quC t) K=K (i64 t.valid):=rfl
theorem aa2 {t:Qu}:cU false sz 4 (quC t) K=K (i64 t.uses):=rfl
theorem aa3 {t:Pol}:cU false sz 0 (poC t) K=K (.c (.lit (.string t.name))):=rfl
theorem aa4 {t:Pol}:cU false sz 1 (poC t) K=K (.c (.sl (t.types.map tyC))):=rfl
theorem aa5 {t:Pol}:cU false sz 2 (poC t) K=K (.c (.sl (t.rules.map ruC))):=rfl
theorem aa6 {t:Pol}:cU false sz 3 (poC t) K=K (.c (.sl (t.quorums.map quC))):=rfl
end
theorem UU (x y:Ty):ig [.str,.int,.int] (tyC x) (tyC y)=some (decide (x=y)):=by
 cases x;cases y;simp[ig,eqC,tyC,cS,cI,Ty.mk.injEq,Bool.decide_and]
theorem UV (x y:Ru):ig [.int,.int,.int] (ruC x) (ruC y)=some (decide (x=y)):=by
 cases x;cases y;simp[ig,eqC,ruC,cI,Ru.mk.injEq,Bool.decide_and]
theorem UW (x y:Qu):ig [.int,.int,.int,.int,.int] (quC x) (quC y)=some (decide (x=y)):=by
 cases x;cases y;simp[ig,eqC,quC,cI,Qu.mk.injEq,Bool.decide_and]
section
variable {K:V→Prop}
theorem XW {x y:Ty}:jY Tryz.prog .eql 56 (.agg (tyC x)) (.agg (tyC y)) K=K (bo (decide (x=y))):=sn jN rfl rfl (UU x y) rfl rfl
theorem XX {x y:Ty}:jY Tryz.prog .neq 56 (.agg (tyC x)) (.agg (tyC y)) K=K (bo (!decide (x=y))):=sq jN rfl rfl (UU x y) rfl rfl
theorem XY {x y:Ru}:jY Tryz.prog .eql 94 (.agg (ruC x)) (.agg (ruC y)) K=K (bo (decide (x=y))):=sn lx rfl rfl (UV x y) rfl rfl
theorem XZ {x y:Ru}:jY Tryz.prog .neq 94 (.agg (ruC x)) (.agg (ruC y)) K=K (bo (!decide (x=y))):=sq lx rfl rfl (UV x y) rfl rfl
theorem X0 {x y:Qu}:jY Tryz.prog .eql 154 (.agg (quC x)) (.agg (quC y)) K=K (bo (decide (x=y))):=sn jp rfl rfl (UW x y) rfl rfl
theorem X1 {x y:Qu}:jY Tryz.prog .neq 154 (.agg (quC x)) (.agg (quC y)) K=K (bo (!decide (x=y))):=sq jp rfl rfl (UW x y) rfl rfl
theorem X2 {x y:Bool}:jY Tryz.prog .eql 4 (.c (.lit (.bool x))) (.c (.lit (.bool y))) K=K (bo (x==y)):=Jc Se rfl
theorem X3 {x y:Bool}:jY Tryz.prog .neq 4 (.c (.lit (.bool x))) (.c (.lit (.bool y))) K=K (bo (!(x==y))):=Jd Se rfl
end
def pkP:=jj @Hp (jj @Hq (jj @Hr (jj @Ht (jj @aaS (jj @aaT (jj @aaU (jj @aaV (jj @aaW (jj @aaX (jj @aaY (jj @aaZ (jj @aa0 (jj @aa1 (jj @aa2 (jj @aa3 (jj @aa4 (jj @aa5 (jj @aa6 (jj @XW (jj @XX (jj @XY (jj @XZ (jj @X0 (jj @X1 (jj @X2 @X3)))))))))))))))))))))))))
