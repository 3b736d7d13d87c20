/- Policies and facts, as values (layer 17). -/
import Derived.Test.YthgmobkmmapgoaaGreatVlTypes
import Derived.Test.YthgmobkmmapgoaaGreatVlRunB
import Derived.Test.YthgmobkmmapgoaaGreatVlEnv
import Derived.Test.YthgmobkmmapgoaaGreatVlFlb
import Derived.Eval
set_option linter.unusedSimpArgs false
set_option linter.unusedVariables false
namespace Go.Proofs.YthgmobkmmapgoaaGreat
open Go Go.Vl
theorem mixed : Tryz.prog.follows .mixedOrders = true := Tryz.checked.mixed
abbrev i64 (n : Int) : V := .c (.lit (.int .i64 n))
abbrev bo (b : Bool) : V := .c (.lit (.bool b))
structure Ty where
 name : ByteArray
 flags : Int
 life : Int
 deriving DecidableEq
structure Ru where
 kind : Int
 a : Int
 b : Int
 deriving DecidableEq
structure Qu where
 cmd : Int
 count : Int
 delay : Int
 valid : Int
 uses : Int
 deriving DecidableEq
structure Pol where
 name : ByteArray
 types : List Ty
 rules : List Ru
 quorums : List Qu
 deriving DecidableEq
def cS (b : ByteArray) : C := .lit (.string b)
def cI (n : Int) : C := .lit (.int .i64 n)
def tyC (t : Ty) : List C := [cS t.name, cI t.flags, cI t.life]
def ruC (r : Ru) : List C := [cI r.kind, cI r.a, cI r.b]
def quC (q : Qu) : List C := [cI q.cmd, cI q.count, cI q.delay, cI q.valid, cI q.uses]
def poC (p : Pol) : List C := [cS p.name, .sl (p.types.map tyC), .sl (p.rules.map ruC), .sl (p.quorums.map quC)]
theorem tyC_len (t : Ty) : (tyC t).length = 3 := rfl
theorem ruC_len (t : Ru) : (ruC t).length = 3 := rfl
theorem quC_len (t : Qu) : (quC t).length = 5 := rfl
theorem poC_len (t : Pol) : (poC t).length = 4 := rfl
section
variable {K : V → Prop} {sz : Nat}
theorem pty0 {t : Ty} : partV false sz 0 (tyC t) K = K (.c (.lit (.string t.name))) := rfl
theorem pty1 {t : Ty} : partV false sz 1 (tyC t) K = K (i64 t.flags) := rfl
theorem pty2 {t : Ty} : partV false sz 2 (tyC t) K = K (i64 t.life) := rfl
theorem pru0 {t : Ru} : partV false sz 0 (ruC t) K = K (i64 t.kind) := rfl
theorem pru1 {t : Ru} : partV false sz 1 (ruC t) K = K (i64 t.a) := rfl
theorem pru2 {t : Ru} : partV false sz 2 (ruC t) K = K (i64 t.b) := rfl
theorem pqu0 {t : Qu} : partV false sz 0 (quC t) K = K (i64 t.cmd) := rfl
theorem pqu1 {t : Qu} : partV false sz 1 (quC t) K = K (i64 t.count) := rfl
theorem pqu2 {t : Qu} : partV false sz 2 (quC t) K = K (i64 t.delay) := rfl
theorem pqu3 {t : Qu} : partV false sz 3 (quC t) K = K (i64 t.valid) := rfl
theorem pqu4 {t : Qu} : partV false sz 4 (quC t) K = K (i64 t.uses) := rfl
theorem ppo0 {t : Pol} : partV false sz 0 (poC t) K = K (.c (.lit (.string t.name))) := rfl
theorem ppo1 {t : Pol} : partV false sz 1 (poC t) K = K (.c (.sl (t.types.map tyC))) := rfl
theorem ppo2 {t : Pol} : partV false sz 2 (poC t) K = K (.c (.sl (t.rules.map ruC))) := rfl
theorem ppo3 {t : Pol} : partV false sz 3 (poC t) K = K (.c (.sl (t.quorums.map quC))) := rfl
end
theorem eq_ty (x y : Ty) : eqCs [.str, .int, .int] (tyC x) (tyC y) = some (decide (x = y)) := by
 cases x; cases y; simp [eqCs, eqC, tyC, cS, cI, Ty.mk.injEq, Bool.decide_and]
theorem eq_ru (x y : Ru) : eqCs [.int, .int, .int] (ruC x) (ruC y) = some (decide (x = y)) := by
 cases x; cases y; simp [eqCs, eqC, ruC, cI, Ru.mk.injEq, Bool.decide_and]
theorem eq_qu (x y : Qu) : eqCs [.int, .int, .int, .int, .int] (quC x) (quC y) = some (decide (x = y)) := by
 cases x; cases y; simp [eqCs, eqC, quC, cI, Qu.mk.injEq, Bool.decide_and]
section
variable {K : V → Prop}
theorem ty_eql {x y : Ty} : vbin Tryz.prog .eql 66 (.agg (tyC x)) (.agg (tyC y)) K = K (bo (decide (x = y))) := vbin_eql ti_66 rfl rfl (eq_ty x y) rfl rfl
theorem ty_neq {x y : Ty} : vbin Tryz.prog .neq 66 (.agg (tyC x)) (.agg (tyC y)) K = K (bo (!decide (x = y))) := vbin_neq ti_66 rfl rfl (eq_ty x y) rfl rfl
theorem ru_eql {x y : Ru} : vbin Tryz.prog .eql 55 (.agg (ruC x)) (.agg (ruC y)) K = K (bo (decide (x = y))) := vbin_eql ti_55 rfl rfl (eq_ru x y) rfl rfl
theorem ru_neq {x y : Ru} : vbin Tryz.prog .neq 55 (.agg (ruC x)) (.agg (ruC y)) K = K (bo (!decide (x = y))) := vbin_neq ti_55 rfl rfl (eq_ru x y) rfl rfl
theorem qu_eql {x y : Qu} : vbin Tryz.prog .eql 143 (.agg (quC x)) (.agg (quC y)) K = K (bo (decide (x = y))) := vbin_eql ti_143 rfl rfl (eq_qu x y) rfl rfl
theorem qu_neq {x y : Qu} : vbin Tryz.prog .neq 143 (.agg (quC x)) (.agg (quC y)) K = K (bo (!decide (x = y))) := vbin_neq ti_143 rfl rfl (eq_qu x y) rfl rfl
theorem bo_eql {x y : Bool} : vbin Tryz.prog .eql 4 (.c (.lit (.bool x))) (.c (.lit (.bool y))) K = K (bo (x == y)) := vbool_eql ti_4 rfl
theorem bo_neq {x y : Bool} : vbin Tryz.prog .neq 4 (.c (.lit (.bool x))) (.c (.lit (.bool y))) K = K (bo (!(x == y))) := vbool_neq ti_4 rfl
end
theorem pkP : type_of% (And.intro @tyC_len (And.intro @ruC_len (And.intro @quC_len (And.intro @poC_len (And.intro @pty0 (And.intro @pty1 (And.intro @pty2 (And.intro @pru0 (And.intro @pru1 (And.intro @pru2 (And.intro @pqu0 (And.intro @pqu1 (And.intro @pqu2 (And.intro @pqu3 (And.intro @pqu4 (And.intro @ppo0 (And.intro @ppo1 (And.intro @ppo2 (And.intro @ppo3 (And.intro @ty_eql (And.intro @ty_neq (And.intro @ru_eql (And.intro @ru_neq (And.intro @qu_eql (And.intro @qu_neq (And.intro @bo_eql (@bo_neq))))))))))))))))))))))))))) := ⟨@tyC_len, @ruC_len, @quC_len, @poC_len, @pty0, @pty1, @pty2, @pru0, @pru1, @pru2, @pqu0, @pqu1, @pqu2, @pqu3, @pqu4, @ppo0, @ppo1, @ppo2, @ppo3, @ty_eql, @ty_neq, @ru_eql, @ru_neq, @qu_eql, @qu_neq, @bo_eql, @bo_neq⟩
structure Fa where
 kind : Int
 a : Int
 b : Int
 deriving DecidableEq
def faC (f : Fa) : List C := [cI f.kind, cI f.a, cI f.b]
theorem faC_len (f : Fa) : (faC f).length = 3 := rfl
def fsC (l : List Fa) : C := .sl (l.map faC)
structure In where
 rule : Int
 pre : List Fa
 con : List Fa
 deriving DecidableEq
def inC (x : In) : List C := [cI x.rule, fsC x.pre, fsC x.con]
theorem inC_len (x : In) : (inC x).length = 3 := rfl
section
variable {K : V → Prop} {sz : Nat}
theorem pfa0 {t : Fa} : partV false sz 0 (faC t) K = K (i64 t.kind) := rfl
theorem pfa1 {t : Fa} : partV false sz 1 (faC t) K = K (i64 t.a) := rfl
theorem pfa2 {t : Fa} : partV false sz 2 (faC t) K = K (i64 t.b) := rfl
theorem pin0 {t : In} : partV false sz 0 (inC t) K = K (i64 t.rule) := rfl
theorem pin1 {t : In} : partV false sz 1 (inC t) K = K (.c (fsC t.pre)) := rfl
theorem pin2 {t : In} : partV false sz 2 (inC t) K = K (.c (fsC t.con)) := rfl
theorem eq_fa (x y : Fa) : eqCs [.int, .int, .int] (faC x) (faC y) = some (decide (x = y)) := by
 cases x; cases y; simp [eqCs, eqC, faC, cI, Fa.mk.injEq, Bool.decide_and]
theorem fa_eql {x y : Fa} : vbin Tryz.prog .eql 29 (.agg (faC x)) (.agg (faC y)) K = K (bo (decide (x = y))) := vbin_eql ti_29 rfl rfl (eq_fa x y) rfl rfl
theorem fa_neq {x y : Fa} : vbin Tryz.prog .neq 29 (.agg (faC x)) (.agg (faC y)) K = K (bo (!decide (x = y))) := vbin_neq ti_29 rfl rfl (eq_fa x y) rfl rfl
end
theorem pkF : type_of% (And.intro @pkP (And.intro @faC_len (And.intro @inC_len (And.intro @pfa0 (And.intro @pfa1 (And.intro @pfa2 (And.intro @pin0 (And.intro @pin1 (And.intro @pin2 (And.intro @fa_eql (@fa_neq))))))))))) := ⟨@pkP, @faC_len, @inC_len, @pfa0, @pfa1, @pfa2, @pin0, @pin1, @pin2, @fa_eql, @fa_neq⟩
variable {G : Gl}
def handleF (v t : Int) : Fa := ⟨1, v, t⟩
def blobF (v w : Int) : Fa := ⟨2, v, w⟩
def leakF (s : Int) : Fa := ⟨3, s, 0⟩
def rawF (s : Int) : Fa := ⟨4, s, 0⟩
end Go.Proofs.YthgmobkmmapgoaaGreat
/- Small functions of layer 17. -/
namespace Go.Proofs.YthgmobkmmapgoaaGreat
open Go Go.Vl
variable {G : Gl}
set_option maxRecDepth 4000
theorem handle_ok (v t : Int) : FnOK Tryz.prog G 103 [i64 v, i64 t] (.agg (faC (handleF v t))) := by
 refine FnOK_by (rs := [.cell 4 29]) false [] mixed Tryz.func103 rfl rfl rfl rfl (by kernel_rfl) (by simp) rfl rfl ?_
 simp -implicitDefEqProofs only [pkA, ptA, ↓reduceIte, Nat.reduceEqDiff, Nat.reduceAdd, Nat.reduceMul, Nat.reduceLT, Nat.reduceLeDiff]
 exact ⟨rfl, by decide, ⟨rfl, rfl⟩, rfl⟩
theorem blob_ok (v t : Int) : FnOK Tryz.prog G 116 [i64 v, i64 t] (.agg (faC (blobF v t))) := by
 refine FnOK_by (rs := [.cell 4 29]) false [] mixed Tryz.func116 rfl rfl rfl rfl (by kernel_rfl) (by simp) rfl rfl ?_
 simp -implicitDefEqProofs only [pkA, ptA, ↓reduceIte, Nat.reduceEqDiff, Nat.reduceAdd, Nat.reduceMul, Nat.reduceLT, Nat.reduceLeDiff]
 exact ⟨rfl, by decide, ⟨rfl, rfl⟩, rfl⟩
theorem leak_ok (s : Int) : FnOK Tryz.prog G 50 [i64 s] (.agg (faC (leakF s))) := by
 refine FnOK_by (rs := [.cell 2 29]) false [] mixed Tryz.func50 rfl rfl rfl rfl (by kernel_rfl) (by simp) rfl rfl ?_
 simp -implicitDefEqProofs only [pkA, ptA, ↓reduceIte, Nat.reduceEqDiff, Nat.reduceAdd, Nat.reduceMul, Nat.reduceLT, Nat.reduceLeDiff]
 exact ⟨rfl, by decide, ⟨rfl, rfl⟩, rfl⟩
theorem raw_ok (s : Int) : FnOK Tryz.prog G 51 [i64 s] (.agg (faC (rawF s))) := by
 refine FnOK_by (rs := [.cell 2 29]) false [] mixed Tryz.func51 rfl rfl rfl rfl (by kernel_rfl) (by simp) rfl rfl ?_
 simp -implicitDefEqProofs only [pkA, ptA, ↓reduceIte, Nat.reduceEqDiff, Nat.reduceAdd, Nat.reduceMul, Nat.reduceLT, Nat.reduceLeDiff]
 exact ⟨rfl, by decide, ⟨rfl, rfl⟩, rfl⟩
def subI (a b : Int) : Bool := decide (bits .andNot .i64 a b = 0)
theorem Subset_ok (a b : Int) : FnOK Tryz.prog G 65 [i64 a, i64 b] (bo (subI a b)) := by
 refine FnOK_by (rs := [.tmp 4]) false [] mixed Tryz.func65 rfl rfl rfl rfl (by kernel_rfl) (by simp) rfl rfl ?_
 have hN : ∀ K, vint .andNot .i64 a b K = K (i64 (bits .andNot .i64 a b)) := fun _ => rfl
 simp -implicitDefEqProofs only [pkA, ↓reduceIte, Nat.reduceEqDiff, Nat.reduceAdd, hN]
 rfl
theorem exists_ok (p : Pol) (t : Int) : FnOK Tryz.prog G 64 [.agg (poC p), i64 t] (bo (decide (0 ≤ t) && decide (t < p.types.length))) := by
 refine FnOK_by (rs := [.tmp 4]) false [] mixed Tryz.func64 rfl rfl rfl rfl (by kernel_rfl) (by simp) rfl rfl ?_
 repeat' first
  | (simp -implicitDefEqProofs only [pkA, ptA, ↓reduceIte, Nat.reduceEqDiff, Nat.reduceAdd, Nat.reduceMul, Nat.reduceLT, pkF])
  | refine vgd_of (fun h => ?_) (fun h => ?_)
 all_goals (simp_all <;> omega)
def hasF (p : Pol) (t : Nat) (flags : Int) : Bool := match p.types[t]? with | some x => subI flags x.flags | none => false
theorem Has_ok (p : Pol) (t : Nat) (flags : Int) (hm : p.types.length ≤ 9223372036854775807) : FnOK Tryz.prog G 49 [.agg (poC p), i64 t, i64 flags] (bo (hasF p t flags)) := by
 refine FnOK_by (rs := [.tmp 6]) false [] mixed Tryz.func49 rfl rfl rfl rfl (by kernel_rfl) (by simp) rfl rfl ?_
 simp -implicitDefEqProofs only [pkA, ptA, ↓reduceIte, Nat.reduceEqDiff, Nat.reduceAdd, Nat.reduceMul, Nat.reduceLT, pkF]
 refine call_fn rfl (exists_ok p t) (fun _ => rfl) ?_
 simp -implicitDefEqProofs only [pkA, ↓reduceIte]
 refine vgd_of (fun h => ?_) (fun h => ?_)
 ·have ht : t < p.types.length := by simpa using h
  simp -implicitDefEqProofs only [pkA, ptA, ↓reduceIte, Nat.reduceEqDiff, Nat.reduceAdd, Nat.reduceMul, Nat.reduceLT, pkF]
  refine ia_of ti_22 rfl ti_66 (by decide) (Int.natCast_nonneg t) (c := tyC p.types[t]) (by simp [ht]) rfl ?_
  simp -implicitDefEqProofs only [pkA, ptA, ↓reduceIte, Nat.reduceEqDiff, Nat.reduceAdd, pkF]
  refine call_fn rfl (Subset_ok _ _) (fun _ => rfl) ?_
  simp -implicitDefEqProofs only [pkA, ↓reduceIte, Nat.reduceEqDiff]
  unfold hasF
  rw [List.getElem?_eq_getElem ht]
 ·have ht : ¬ t < p.types.length := by simpa using h
  simp -implicitDefEqProofs only [pkA, ↓reduceIte, Nat.reduceEqDiff]
  unfold hasF
  rw [List.getElem?_eq_none (by omega)]
set_option maxHeartbeats 1000000 in
theorem IndexF_ok (l : List Fa) (x : Fa) (hm : l.length ≤ 9223372036854775807) : FnOK Tryz.prog G 141 [.c (fsC l), .agg (faC x)] (i64 (posOf (fun y => decide (x = y)) l)) := by
 refine FnOK_by (rs := [.tmp 4]) false [] mixed Tryz.func141 rfl rfl rfl rfl (by kernel_rfl) (by simp) rfl rfl ?_
 simp -implicitDefEqProofs only [pkA, ptA, ↓reduceIte, Nat.reduceEqDiff, Nat.reduceAdd, fsC]
 refine run_loop (fun i : Nat => hdS [(0, .c (.sl (l.map faC))), (3, .bp 0 0), (7, i64 l.length), (8, i64 i)] [(faC x).map .c]) (fun i => l.length - i) (fun i => i ≤ l.length ∧ ∀ j (h : j < l.length), j < i → decide (x = l[j]) = false) 0 ⟨Nat.zero_le _, fun j h h' => absurd h' (Nat.not_lt_zero _)⟩ ?_ ?_
 ·refine le_hd rfl (Nat.zero_le _) (Nat.le_refl _) ?_ (by simp [BL])
  simp [FL, up_apply]
 rintro i ⟨hi, hno⟩ R hnorm hexit hret
 simp -implicitDefEqProofs only [pkA, ↓reduceIte, Nat.reduceEqDiff, Nat.reduceAdd]
 refine vcond_of (fun hlt => ?_) (fun hge => ?_)
 ·have hlt : i < l.length := by simpa using hlt
  simp -implicitDefEqProofs only [pkA, ptA, ↓reduceIte, Nat.reduceEqDiff, Nat.reduceAdd, Nat.reduceMul, Nat.reduceLT, pkF]
  refine ia_of ti_27 rfl ti_29 (by decide) (Int.natCast_nonneg i) (c := faC l[i]) (by simp [hlt]) rfl ?_
  simp -implicitDefEqProofs only [pkA, ptA, ↓reduceIte, Nat.reduceEqDiff, Nat.reduceAdd, pkF]
  refine vcond_of (fun hy => ?_) (fun hn => ?_)
  ·simp -implicitDefEqProofs only [pkA, ↓reduceIte, Nat.reduceEqDiff, Nat.reduceAdd]
   refine hret _ ?_
   simp -implicitDefEqProofs only [pkA, ↓reduceIte]
   rw [posOf_at hlt hy hno]
  ·have hw := wrap_of (n := (i : Int) + 1) (k := i + 1) (by omega) (by omega)
   simp -implicitDefEqProofs only [pkA, ↓reduceIte, Nat.reduceEqDiff, Nat.reduceAdd]
   refine hnorm (i + 1) _ ⟨hlt, fun j h hj => ?_⟩ (by omega) (le_hd rfl (Nat.zero_le _) (Nat.le_refl _) ?_ (by simp [BL, bxs]))
   ·rcases Nat.lt_or_ge j i with h1 | h1
    ·exact hno j h h1
    ·have : j = i := by omega
     subst this; exact hn
   ·simp [FL, up_apply, hw]
 ·have : i = l.length := by simp at hge; omega
  subst this
  simp -implicitDefEqProofs only [pkA]
  refine hexit _ _ ?_
  simp -implicitDefEqProofs only [pkA, ↓reduceIte, Nat.reduceAdd]
  rw [posOf_none (fun j h _ => hno j h h)]
theorem ContainsF_ok (l : List Fa) (x : Fa) (hm : l.length ≤ 9223372036854775807) : FnOK Tryz.prog G 136 [.c (fsC l), .agg (faC x)] (bo (l.any fun y => decide (x = y))) := by
 refine FnOK_by (rs := [.tmp 4]) false [] mixed Tryz.func136 rfl rfl rfl rfl (by kernel_rfl) (by simp) rfl rfl ?_
 simp -implicitDefEqProofs only [pkA, ptA, ↓reduceIte, Nat.reduceEqDiff, Nat.reduceAdd, Nat.reduceMul, Nat.reduceLT, pkF]
 refine call_fn rfl (IndexF_ok l x hm) (fun _ => rfl) ?_
 simp -implicitDefEqProofs only [pkA, ↓reduceIte]
 rw [posOf_nonneg]
set_option maxHeartbeats 1000000 in
theorem IndexI_ok (l : List Int) (x : Int) (hm : l.length ≤ 9223372036854775807) : FnOK Tryz.prog G 142 [.c (.sl (l.map fun y => [cI y])), i64 x] (i64 (posOf (fun y => decide (x = y)) l)) := by
 refine FnOK_by (rs := [.tmp 4]) false [] mixed Tryz.func142 rfl rfl rfl rfl (by kernel_rfl) (by simp) rfl rfl ?_
 simp -implicitDefEqProofs only [pkA, ptA, ↓reduceIte, Nat.reduceEqDiff, Nat.reduceAdd]
 refine run_loop (fun i : Nat => hdS [(0, .c (.sl (l.map fun y => [cI y]))), (1, i64 x), (7, i64 l.length), (8, i64 i)] []) (fun i => l.length - i) (fun i => i ≤ l.length ∧ ∀ j (h : j < l.length), j < i → decide (x = l[j]) = false) 0 ⟨Nat.zero_le _, fun j h h' => absurd h' (Nat.not_lt_zero _)⟩ ?_ ?_
 ·refine le_hd rfl (Nat.zero_le _) (Nat.le_refl _) ?_ trivial
  simp [FL, up_apply]
 rintro i ⟨hi, hno⟩ R hnorm hexit hret
 simp -implicitDefEqProofs only [pkA, ↓reduceIte, Nat.reduceEqDiff, Nat.reduceAdd]
 refine vcond_of (fun hlt => ?_) (fun hge => ?_)
 ·have hlt : i < l.length := by simpa using hlt
  simp -implicitDefEqProofs only [pkA, ↓reduceIte, Nat.reduceEqDiff, Nat.reduceAdd]
  refine ia_of ti_71 rfl ti_3 (by decide) (Int.natCast_nonneg i) (c := [cI l[i]]) (by simp [hlt]) rfl ?_
  have e0 : ∀ K, partV false 1 0 [cI l[i]] K = K (i64 l[i]) := fun _ => rfl
  simp -implicitDefEqProofs only [pkA, ptA, ↓reduceIte, Nat.reduceEqDiff, Nat.reduceAdd, e0]
  refine vcond_of (fun hy => ?_) (fun hn => ?_)
  ·simp -implicitDefEqProofs only [pkA, ↓reduceIte, Nat.reduceEqDiff, Nat.reduceAdd]
   refine hret _ ?_
   simp -implicitDefEqProofs only [pkA, ↓reduceIte]
   rw [posOf_at hlt hy hno]
  ·have hw := wrap_of (n := (i : Int) + 1) (k := i + 1) (by omega) (by omega)
   simp -implicitDefEqProofs only [pkA, ↓reduceIte, Nat.reduceEqDiff, Nat.reduceAdd]
   refine hnorm (i + 1) _ ⟨hlt, fun j h hj => ?_⟩ (by omega) (le_hd rfl (Nat.zero_le _) (Nat.le_refl _) ?_ trivial)
   ·rcases Nat.lt_or_ge j i with h1 | h1
    ·exact hno j h h1
    ·have : j = i := by omega
     subst this; exact hn
   ·simp [FL, up_apply, hw]
 ·have : i = l.length := by simp at hge; omega
  subst this
  simp -implicitDefEqProofs only [pkA]
  refine hexit _ _ ?_
  simp -implicitDefEqProofs only [pkA, ↓reduceIte, Nat.reduceAdd]
  rw [posOf_none (fun j h _ => hno j h h)]
theorem ContainsI_ok (l : List Int) (x : Int) (hm : l.length ≤ 9223372036854775807) : FnOK Tryz.prog G 140 [.c (.sl (l.map fun y => [cI y])), i64 x] (bo (l.any fun y => decide (x = y))) := by
 refine FnOK_by (rs := [.tmp 4]) false [] mixed Tryz.func140 rfl rfl rfl rfl (by kernel_rfl) (by simp) rfl rfl ?_
 simp -implicitDefEqProofs only [pkA, ↓reduceIte, Nat.reduceEqDiff, Nat.reduceAdd]
 refine call_fn rfl (IndexI_ok l x hm) (fun _ => rfl) ?_
 simp -implicitDefEqProofs only [pkA, ↓reduceIte]
 rw [posOf_nonneg]
