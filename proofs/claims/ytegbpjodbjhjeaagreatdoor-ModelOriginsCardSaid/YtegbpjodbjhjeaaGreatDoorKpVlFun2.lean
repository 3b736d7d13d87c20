/- Layer 15: what the laws share. -/
import Derived.Test.YtegbpjodbjhjeaaGreatDoorVlUt
import Derived.Test.YtegbpjodbjhjeaaGreatDoorVlTypes
import Derived.Test.YtegbpjodbjhjeaaGreatDoorVlRunB
import Derived.Eval
set_option maxHeartbeats 1000000
set_option linter.all false
namespace Go.Proofs.YtegbpjodbjhjeaaGreatDoor
open Go Go.Vl
set_option maxRecDepth 10000
def knT (I:List Tm) (t:Tm):Bool:=dt (inP (d4 I)) t
theorem tB {I:List Tm} (hv:∀ t∈I,bT t=true) {t:Tm}:knT I t=true↔Kn I true t:=by
 obtain⟨hC,mL⟩:=k7 hv
 exact N8 hC.item hC.kn mL
theorem As {I:List Tm} (hv:∀ t∈I,bT t=true) {t:Tm}:t∈d4 I↔Kn I false t:=by
 obtain⟨hC,mL⟩:=k7 hv
 exact Eg hC.item hC.kn mL
theorem Ot (I:List Tm) (t:Tm) (hv:∀ t∈I,bT t=true) (dR:cD I≤100000000) (ht:bT t=true) (hst:br t≤1000000000):FnOK Tryz.prog glT 49 [.c (tsC I),.agg (tmC t)] (bo (knT I t)):=S4 I t hv dR ht hst
end Go.Proofs.YtegbpjodbjhjeaaGreatDoor
namespace Go.Proofs.YtegbpjodbjhjeaaGreatDoor.Kp
open Go Go.Vl
set_option maxRecDepth 10000
theorem mixed:Tryz.prog.follows .mixedOrders=true:=Tryz.checked.mixed
abbrev i64 (n:Int):V:=.c (.lit (.int .i64 n))
abbrev bo (b:Bool):V:=.c (.lit (.bool b))
variable {G:Gl}
theorem Ov (a b c:Int):FnOK Tryz.prog G 139 [i64 a,i64 b,i64 c] (bo (decide (b≤a)&&decide (a≤c))):=by
 refine bP (rs:=[.tmp 6]) false [] mixed Tryz.func139 rfl rfl rfl rfl (by kernel_rfl) (by simp) rfl rfl ?_
 repeat' first
  |(simp only[pkA,seval])
  |refine jc (fun h=>?_) (fun h=>?_)
  |refine aV (fun h=>?_) (fun h=>?_)
 all_goals (simp_all<;>omega)
theorem sC (a:Int):FnOK Tryz.prog G 98 [i64 a] (bo false):=by
 refine bP (rs:=[.tmp 2]) false [] mixed Tryz.func98 rfl rfl rfl rfl (by kernel_rfl) (by simp) rfl rfl ?_
 repeat' first
  |(simp only[pkA,seval])
  |refine jc (fun h=>?_) (fun h=>?_)
  |refine aV (fun h=>?_) (fun h=>?_)
 all_goals simp_all
def adD (a b:Int):Int:=if a<b then -1 else if b<a then 1 else 0
theorem uM (a b:Int):FnOK Tryz.prog G 55 [i64 a,i64 b] (i64 (adD a b)):=by
 refine bP (rs:=[.tmp 4]) false [] mixed Tryz.func55 rfl rfl rfl rfl (by kernel_rfl) (by simp) rfl rfl ?_
 simp only[pkA,seval]
 refine aD rfl (sC a) (by simp[V.boxy]) ?_
 simp only[pkA,seval]
 refine aD rfl (sC b) (by simp[V.boxy]) ?_
 repeat' first
  |(simp only[pkA,seval])
  |refine jc (fun h=>?_) (fun h=>?_)
  |refine aV (fun h=>?_) (fun h=>?_)
 all_goals (simp_all[adD]<;>omega)
structure Ty where
 name:ByteArray
 flags:Int
 life:Int
 deriving DecidableEq
structure Ru where
 kind:Int
 a:Int
 b:Int
 deriving DecidableEq
structure Qu where
 cmd:Int
 count:Int
 delay:Int
 valid:Int
 uses:Int
 deriving DecidableEq
structure Pol where
 name:ByteArray
 types:List Ty
 rules:List Ru
 quorums:List Qu
 deriving DecidableEq
def cS (b:ByteArray):C:=.lit (.string b)
def cI (n:Int):C:=.lit (.int .i64 n)
def tyC (t:Ty):List C:=[cS t.name,cI t.flags,cI t.life]
def ruC (r:Ru):List C:=[cI r.kind,cI r.a,cI r.b]
def quC (q:Qu):List C:=[cI q.cmd,cI q.count,cI q.delay,cI q.valid,cI q.uses]
def poC (p:Pol):List C:=[cS p.name,.sl (p.types.map tyC),.sl (p.rules.map ruC),.sl (p.quorums.map quC)]
theorem yX (t:Ty):(tyC t).length=3:=rfl
theorem Lu (t:Ru):(ruC t).length=3:=rfl
theorem Lv (t:Qu):(quC t).length=5:=rfl
theorem Lx (t:Pol):(poC t).length=4:=rfl
section
variable {K:V→Prop} {sz:Nat}
theorem afX {t:Ty}:eB false sz 0 (tyC t) K=K (.c (.lit (.string t.name))):=rfl
theorem afY {t:Ty}:eB false sz 1 (tyC t) K=K (i64 t.flags):=rfl
theorem afZ {t:Ty}:eB false sz 2 (tyC t) K=K (i64 t.life):=rfl
theorem af0 {t:Ru}:eB false sz 0 (ruC t) K=K (i64 t.kind):=rfl
theorem af1 {t:Ru}:eB false sz 1 (ruC t) K=K (i64 t.a):=rfl
theorem af2 {t:Ru}:eB false sz 2 (ruC t) K=K (i64 t.b):=rfl
theorem af4 {t:Qu}:eB false sz 0 (quC t) K=K (i64 t.cmd):=rfl
theorem af5 {t:Qu}:eB false sz 1 (quC t) K=K (i64 t.count):=rfl
theorem af6 {t:Qu}:eB false sz 2 (quC t) K=K (i64 t.delay):=rfl
theorem af7 {t:Qu}:eB false sz 3 (quC t) K=K (i64 t.valid):=rfl
theorem af8 {t:Qu}:eB false sz 4 (quC t) K=K (i64 t.uses):=rfl
theorem af9 {t:Pol}:eB false sz 0 (poC t) K=K (.c (.lit (.string t.name))):=rfl
theorem aga {t:Pol}:eB false sz 1 (poC t) K=K (.c (.sl (t.types.map tyC))):=rfl
theorem agb {t:Pol}:eB false sz 2 (poC t) K=K (.c (.sl (t.rules.map ruC))):=rfl
theorem agc {t:Pol}:eB false sz 3 (poC t) K=K (.c (.sl (t.quorums.map quC))):=rfl
end
theorem adE (x y:Ru):jA [.int,.int,.int] (ruC x) (ruC y)=some (decide (x=y)):=by
 cases x;cases y;simp[jA,eqC,ruC,cI,Ru.mk.injEq,Bool.decide_and]
section
variable {K:V→Prop}
theorem aaX {x y:Ru}:mQ Tryz.prog .eql 94 (.agg (ruC x)) (.agg (ruC y)) K=K (bo (decide (x=y))):=Gr nV rfl rfl (adE x y) rfl rfl
theorem aaY {x y:Bool}:mQ Tryz.prog .neq 4 (.c (.lit (.bool x))) (.c (.lit (.bool y))) K=K (bo (!(x==y))):=Np adh rfl
end
def pkP:=jj @yX (jj @Lu (jj @Lv (jj @Lx (jj @afX (jj @afY (jj @afZ (jj @af0 (jj @af1 (jj @af2 (jj @af4 (jj @af5 (jj @af6 (jj @af7 (jj @af8 (jj @af9 (jj @aga (jj @agb (jj @agc (jj @aaX @aaY)))))))))))))))))))
