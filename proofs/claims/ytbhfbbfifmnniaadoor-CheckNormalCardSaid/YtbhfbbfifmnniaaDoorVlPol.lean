/- Policies, as values: what the functions of layer 13 read. -/
import Derived.Test.YtbhfbbfifmnniaaDoorVlFun1
set_option linter.unusedSimpArgs false
set_option linter.unusedVariables false
namespace Go.Proofs.YtbhfbbfifmnniaaDoor
open Go Go.Vl

structure Ty where
  name : ByteArray
  flags : Int
  life : Int
  deriving DecidableEq

structure Ru where
  kind : Int
  a : Int
  b : Int
  deriving DecidableEq

structure Qu where
  cmd : Int
  count : Int
  delay : Int
  valid : Int
  uses : Int
  deriving DecidableEq

structure Pol where
  name : ByteArray
  types : List Ty
  rules : List Ru
  quorums : List Qu
  deriving DecidableEq

def cS (b : ByteArray) : C := .lit (.string b)
def cI (n : Int) : C := .lit (.int .i64 n)
def tyC (t : Ty) : List C := [cS t.name, cI t.flags, cI t.life]
def ruC (r : Ru) : List C := [cI r.kind, cI r.a, cI r.b]
def quC (q : Qu) : List C := [cI q.cmd, cI q.count, cI q.delay, cI q.valid, cI q.uses]
def poC (p : Pol) : List C := [cS p.name, .sl (p.types.map tyC), .sl (p.rules.map ruC), .sl (p.quorums.map quC)]

theorem tyC_len (t : Ty) : (tyC t).length = 3 := rfl
theorem ruC_len (t : Ru) : (ruC t).length = 3 := rfl
theorem quC_len (t : Qu) : (quC t).length = 5 := rfl
theorem poC_len (t : Pol) : (poC t).length = 4 := rfl

section
variable {K : V → Prop} {sz : Nat}
theorem pty0 {t : Ty} : partV false sz 0 (tyC t) K = K (.c (.lit (.string t.name))) := rfl
theorem pty1 {t : Ty} : partV false sz 1 (tyC t) K = K (i64 t.flags) := rfl
theorem pty2 {t : Ty} : partV false sz 2 (tyC t) K = K (i64 t.life) := rfl
theorem pru0 {t : Ru} : partV false sz 0 (ruC t) K = K (i64 t.kind) := rfl
theorem pru1 {t : Ru} : partV false sz 1 (ruC t) K = K (i64 t.a) := rfl
theorem pru2 {t : Ru} : partV false sz 2 (ruC t) K = K (i64 t.b) := rfl
theorem pqu0 {t : Qu} : partV false sz 0 (quC t) K = K (i64 t.cmd) := rfl
theorem pqu1 {t : Qu} : partV false sz 1 (quC t) K = K (i64 t.count) := rfl
theorem pqu2 {t : Qu} : partV false sz 2 (quC t) K = K (i64 t.delay) := rfl
theorem pqu3 {t : Qu} : partV false sz 3 (quC t) K = K (i64 t.valid) := rfl
theorem pqu4 {t : Qu} : partV false sz 4 (quC t) K = K (i64 t.uses) := rfl
theorem ppo0 {t : Pol} : partV false sz 0 (poC t) K = K (.c (.lit (.string t.name))) := rfl
theorem ppo1 {t : Pol} : partV false sz 1 (poC t) K = K (.c (.sl (t.types.map tyC))) := rfl
theorem ppo2 {t : Pol} : partV false sz 2 (poC t) K = K (.c (.sl (t.rules.map ruC))) := rfl
theorem ppo3 {t : Pol} : partV false sz 3 (poC t) K = K (.c (.sl (t.quorums.map quC))) := rfl
end

theorem eq_ty (x y : Ty) : eqCs [.str, .int, .int] (tyC x) (tyC y) = some (decide (x = y)) := by
  cases x; cases y; simp [eqCs, eqC, tyC, cS, cI, Ty.mk.injEq, Bool.decide_and]
theorem eq_ru (x y : Ru) : eqCs [.int, .int, .int] (ruC x) (ruC y) = some (decide (x = y)) := by
  cases x; cases y; simp [eqCs, eqC, ruC, cI, Ru.mk.injEq, Bool.decide_and]
theorem eq_qu (x y : Qu) : eqCs [.int, .int, .int, .int, .int] (quC x) (quC y) = some (decide (x = y)) := by
  cases x; cases y; simp [eqCs, eqC, quC, cI, Qu.mk.injEq, Bool.decide_and]

section
variable {K : V → Prop}
theorem ty_eql {x y : Ty} : vbin Tryd.prog .eql 46 (.agg (tyC x)) (.agg (tyC y)) K = K (bo (decide (x = y))) := vbin_eql ti_46 rfl rfl (eq_ty x y) rfl rfl
theorem ty_neq {x y : Ty} : vbin Tryd.prog .neq 46 (.agg (tyC x)) (.agg (tyC y)) K = K (bo (!decide (x = y))) := vbin_neq ti_46 rfl rfl (eq_ty x y) rfl rfl
theorem ru_eql {x y : Ru} : vbin Tryd.prog .eql 40 (.agg (ruC x)) (.agg (ruC y)) K = K (bo (decide (x = y))) := vbin_eql ti_40 rfl rfl (eq_ru x y) rfl rfl
theorem ru_neq {x y : Ru} : vbin Tryd.prog .neq 40 (.agg (ruC x)) (.agg (ruC y)) K = K (bo (!decide (x = y))) := vbin_neq ti_40 rfl rfl (eq_ru x y) rfl rfl
theorem qu_eql {x y : Qu} : vbin Tryd.prog .eql 42 (.agg (quC x)) (.agg (quC y)) K = K (bo (decide (x = y))) := vbin_eql ti_42 rfl rfl (eq_qu x y) rfl rfl
theorem qu_neq {x y : Qu} : vbin Tryd.prog .neq 42 (.agg (quC x)) (.agg (quC y)) K = K (bo (!decide (x = y))) := vbin_neq ti_42 rfl rfl (eq_qu x y) rfl rfl
theorem bo_eql {x y : Bool} : vbin Tryd.prog .eql 4 (.c (.lit (.bool x))) (.c (.lit (.bool y))) K = K (bo (x == y)) := vbool_eql ti_4 rfl
theorem bo_neq {x y : Bool} : vbin Tryd.prog .neq 4 (.c (.lit (.bool x))) (.c (.lit (.bool y))) K = K (bo (!(x == y))) := vbool_neq ti_4 rfl
end
theorem pkP : type_of% (And.intro @tyC_len (And.intro @ruC_len (And.intro @quC_len (And.intro @poC_len (And.intro @pty0 (And.intro @pty1 (And.intro @pty2 (And.intro @pru0 (And.intro @pru1 (And.intro @pru2 (And.intro @pqu0 (And.intro @pqu1 (And.intro @pqu2 (And.intro @pqu3 (And.intro @pqu4 (And.intro @ppo0 (And.intro @ppo1 (And.intro @ppo2 (And.intro @ppo3 (And.intro @ty_eql (And.intro @ty_neq (And.intro @ru_eql (And.intro @ru_neq (And.intro @qu_eql (And.intro @qu_neq (And.intro @bo_eql (@bo_neq))))))))))))))))))))))))))) := And.intro @tyC_len (And.intro @ruC_len (And.intro @quC_len (And.intro @poC_len (And.intro @pty0 (And.intro @pty1 (And.intro @pty2 (And.intro @pru0 (And.intro @pru1 (And.intro @pru2 (And.intro @pqu0 (And.intro @pqu1 (And.intro @pqu2 (And.intro @pqu3 (And.intro @pqu4 (And.intro @ppo0 (And.intro @ppo1 (And.intro @ppo2 (And.intro @ppo3 (And.intro @ty_eql (And.intro @ty_neq (And.intro @ru_eql (And.intro @ru_neq (And.intro @qu_eql (And.intro @qu_neq (And.intro @bo_eql (@bo_neq))))))))))))))))))))))))))
end Go.Proofs.YtbhfbbfifmnniaaDoor
