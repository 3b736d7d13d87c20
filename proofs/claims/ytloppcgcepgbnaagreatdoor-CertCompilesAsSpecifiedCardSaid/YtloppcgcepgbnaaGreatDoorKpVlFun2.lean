/- Layer 19, the specification: Facts. -/
import Derived.Test.YtloppcgcepgbnaaGreatDoorVlD1
import Derived.Test.YtloppcgcepgbnaaGreatDoorVlTypes
import Derived.Test.YtloppcgcepgbnaaGreatDoorVlRunB
import Derived.Eval
set_option maxHeartbeats 1000000
set_option linter.all false
namespace Go.Proofs.YtloppcgcepgbnaaGreatDoor
open Go Go.Vl Go.Proofs.YtloppcgcepgbnaaGreatDoor.Kw
variable {G:Gl}
set_option maxRecDepth 100000
def N8 (s:Rd):List Fa×Int:=if(tK s).e≠0 then([],(tK s).e) else((tK s).out,0)
def atR (b:B) (q:Nat):Nat->Nat
 |0=>q
 |i+1=>atR b q i+(nZ (b.drop (atR b q i))).2.1
end Go.Proofs.YtloppcgcepgbnaaGreatDoor
namespace Go.Proofs.YtloppcgcepgbnaaGreatDoor.Kp
open Go Go.Vl
set_option maxRecDepth 10000
theorem mixed:Tryz.prog.follows .mixedOrders=true:=Tryz.checked.mixed
abbrev i64 (n:Int):V:=.c (.lit (.int .i64 n))
abbrev bo (b:Bool):V:=.c (.lit (.bool b))
variable {G:Gl}
theorem zB (a b c:Int):FnOK Tryz.prog G 92 [i64 a,i64 b,i64 c] (bo (decide (b<=a)&&decide (a<=c))):=by
 refine bJ (rs:=[.tmp 6]) false [] mixed Tryz.func92 rfl rfl rfl rfl (by kernel_rfl) (by simp) rfl rfl ?_
 repeat' first
  |(simp only[pkA,seval])
  |refine fy (λh=>?_) (λh=>?_)
  |refine aD (λh=>?_) (λh=>?_)
 all_goals (simp_all<;>omega)
theorem uC (a:Int):FnOK Tryz.prog G 68 [i64 a] (bo false):=by
 refine bJ (rs:=[.tmp 2]) false [] mixed Tryz.func68 rfl rfl rfl rfl (by kernel_rfl) (by simp) rfl rfl ?_
 repeat' first
  |(simp only[pkA,seval])
  |refine fy (λh=>?_) (λh=>?_)
  |refine aD (λh=>?_) (λh=>?_)
 all_goals simp_all
def qF (a b:Int):Int:=if a<b then -1 else if b<a then 1 else 0
theorem sW (a b:Int):FnOK Tryz.prog G 48 [i64 a,i64 b] (i64 (qF a b)):=by
 refine bJ (rs:=[.tmp 4]) false [] mixed Tryz.func48 rfl rfl rfl rfl (by kernel_rfl) (by simp) rfl rfl ?_;simp only[pkA,seval];refine aC rfl (uC a) (by simp[V.boxy]) ?_;simp only[pkA,seval];refine aC rfl (uC b) (by simp[V.boxy]) ?_
 repeat' first
  |(simp only[pkA,seval])
  |refine fy (λh=>?_) (λh=>?_)
  |refine aD (λh=>?_) (λh=>?_)
 all_goals (simp_all[qF]<;>omega)
structure Ty where
 name:ByteArray
 flags:Int
 life:Int
 deriving DecidableEq
structure Ru where
 kind:Int
 a:Int
 b:Int
 deriving DecidableEq
structure Qu where
 cmd:Int
 count:Int
 delay:Int
 valid:Int
 uses:Int
 deriving DecidableEq
structure Pol where
 name:ByteArray
 types:List Ty
 rules:List Ru
 quorums:List Qu
 deriving DecidableEq
def cS (b:ByteArray):C:=.lit (.string b)
def cI (n:Int):C:=.lit (.int .i64 n)
def tyC (t:Ty):List C:=[cS t.name,cI t.flags,cI t.life]
def ruC (r:Ru):List C:=[cI r.kind,cI r.a,cI r.b]
def quC (q:Qu):List C:=[cI q.cmd,cI q.count,cI q.delay,cI q.valid,cI q.uses]
def poC (p:Pol):List C:=[cS p.name,.sl (p.types.map tyC),.sl (p.rules.map ruC),.sl (p.quorums.map quC)]
theorem Bf (t:Ty):(tyC t).length=3:=rfl
theorem yj (t:Ru):(ruC t).length=3:=rfl
theorem ym (t:Qu):(quC t).length=5:=rfl
theorem HW (t:Pol):(poC t).length=4:=rfl
section
variable {K:V->Prop} {sz:Nat}
theorem ajk {t:Ty}:cQ false sz 0 (tyC t) K=K (.c (.lit (.string t.name))):=rfl
theorem ajl {t:Ty}:cQ false sz 1 (tyC t) K=K (i64 t.flags):=rfl
theorem ajm {t:Ty}:cQ false sz 2 (tyC t) K=K (i64 t.life):=rfl
theorem ajn {t:Ru}:cQ false sz 0 (ruC t) K=K (i64 t.kind):=rfl
theorem ajo {t:Ru}:cQ false sz 1 (ruC t) K=K (i64 t.a):=rfl
theorem ajp {t:Ru}:cQ false sz 2 (ruC t) K=K (i64 t.b):=rfl
theorem ajq {t:Qu}:cQ false sz 0 (quC t) K=K (i64 t.cmd):=rfl
theorem ajr {t:Qu}:cQ false sz 1 (quC t) K=K (i64 t.count):=rfl
theorem ajs {t:Qu}:cQ false sz 2 (quC t) K=K (i64 t.delay):=rfl
theorem ajt {t:Qu}:cQ false sz 3 (quC t) K=K (i64 t.valid):=rfl
theorem aju {t:Qu}:cQ false sz 4 (quC t) K=K (i64 t.uses):=rfl
theorem ajv {t:Pol}:cQ false sz 0 (poC t) K=K (.c (.lit (.string t.name))):=rfl
theorem ajw {t:Pol}:cQ false sz 1 (poC t) K=K (.c (.sl (t.types.map tyC))):=rfl
theorem ajx {t:Pol}:cQ false sz 2 (poC t) K=K (.c (.sl (t.rules.map ruC))):=rfl
theorem ajy {t:Pol}:cQ false sz 3 (poC t) K=K (.c (.sl (t.quorums.map quC))):=rfl
end
theorem KH (x y:Ty):iG [.str,.int,.int] (tyC x) (tyC y)=some (decide (x=y)):=by cases x;cases y;simp[iG,eqC,tyC,cS,cI,Ty.mk.injEq,jP]
theorem KI (x y:Ru):iG [.int,.int,.int] (ruC x) (ruC y)=some (decide (x=y)):=by cases x;cases y;simp[iG,eqC,ruC,cI,Ru.mk.injEq,jP]
theorem KJ (x y:Qu):iG [.int,.int,.int,.int,.int] (quC x) (quC y)=some (decide (x=y)):=by cases x;cases y;simp[iG,eqC,quC,cI,Qu.mk.injEq,jP]
section
variable {K:V->Prop}
theorem Og {x y:Ty}:j3 Tryz.prog .eql 57 (.agg (tyC x)) (.agg (tyC y)) K=K (bo (decide (x=y))):=qa kC rfl rfl (KH x y) rfl rfl
theorem Oh {x y:Ty}:j3 Tryz.prog .neq 57 (.agg (tyC x)) (.agg (tyC y)) K=K (bo (!decide (x=y))):=qb kC rfl rfl (KH x y) rfl rfl
theorem Oi {x y:Ru}:j3 Tryz.prog .eql 120 (.agg (ruC x)) (.agg (ruC y)) K=K (bo (decide (x=y))):=qa fQ rfl rfl (KI x y) rfl rfl
theorem Oj {x y:Ru}:j3 Tryz.prog .neq 120 (.agg (ruC x)) (.agg (ruC y)) K=K (bo (!decide (x=y))):=qb fQ rfl rfl (KI x y) rfl rfl
theorem Ol {x y:Qu}:j3 Tryz.prog .eql 122 (.agg (quC x)) (.agg (quC y)) K=K (bo (decide (x=y))):=qa jA rfl rfl (KJ x y) rfl rfl
theorem Om {x y:Qu}:j3 Tryz.prog .neq 122 (.agg (quC x)) (.agg (quC y)) K=K (bo (!decide (x=y))):=qb jA rfl rfl (KJ x y) rfl rfl
theorem On {x y:Bool}:j3 Tryz.prog .eql 4 (.c (.lit (.bool x))) (.c (.lit (.bool y))) K=K (bo (x==y)):=E7 EA rfl
theorem Oo {x y:Bool}:j3 Tryz.prog .neq 4 (.c (.lit (.bool x))) (.c (.lit (.bool y))) K=K (bo (!(x==y))):=E8 EA rfl
end
def pkP:=jj @Bf (jj @yj (jj @ym (jj @HW (jj @ajk (jj @ajl (jj @ajm (jj @ajn (jj @ajo (jj @ajp (jj @ajq (jj @ajr (jj @ajs (jj @ajt (jj @aju (jj @ajv (jj @ajw (jj @ajx (jj @ajy (jj @Og (jj @Oh (jj @Oi (jj @Oj (jj @Ol (jj @Om (jj @On @Oo)))))))))))))))))))))))))
