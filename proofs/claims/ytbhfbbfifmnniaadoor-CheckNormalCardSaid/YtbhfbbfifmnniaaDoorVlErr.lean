/- The errors of types, rules and quorums; Check and Valid; layer 13. -/
import Derived.Test.YtbhfbbfifmnniaaDoorVlName
import Derived.Test.YtbhfbbfifmnniaaDoorVlShape
set_option linter.unusedSimpArgs false
set_option linter.unusedVariables false
namespace Go.Proofs.YtbhfbbfifmnniaaDoor
open Go Go.Vl

def rngB (n lo hi : Int) : Bool := decide (lo ≤ n) && decide (n ≤ hi)
theorem outB_rng (n lo hi : Int) : outB ⟨n, lo, hi⟩ = !rngB n lo hi := by
  unfold outB rngB
  rw [Bool.eq_iff_iff]
  simp

/-- The error of a type, by those before it. -/
def tyErr (l : List Ty) (k : Nat) (t : Ty) : Int :=
  if decide (32 ≤ (k : Int)) = true then 2 else if (!nameB t.name) = true then 4 else if ((l.take k).any fun o => decide (o.name = t.name)) = true then 4 else if ([⟨t.flags, 0, 127⟩, ⟨t.life, 0, 1099511627776⟩].any outB) = true then 1 else 0
def ruErr (l : List Ru) (k : Nat) (nt : Int) (r : Ru) : Int :=
  if decide (256 ≤ (k : Int)) = true then 2 else if ([⟨r.kind, 1, 5⟩, ⟨r.a, 0, nt - 1⟩, ⟨r.b, 0, nt - 1⟩].any outB) = true then 1 else if ((l.take k).any fun o => decide (r = o)) = true then 12 else 0
def quErr (l : List Qu) (k : Nat) (q : Qu) : Int :=
  if ([⟨q.cmd, 1, 27⟩, ⟨q.count, 1, 16⟩, ⟨q.delay, 0, 1099511627776⟩, ⟨q.valid, q.delay, 1099511627776⟩, ⟨q.uses, 1, 1048576⟩].any outB) = true then 1
  else if ([23, 24, 25].any fun e : Int => decide (q.cmd = e)) = true then 10 else if ((l.take k).any fun o => decide (o.cmd = q.cmd)) = true then 12 else 0
theorem take_map {α : Type} (f : α → List C) (l : List α) (k : Nat) : (l.map f).take k = (l.take k).map f := List.map_take.symm
theorem slice_pre {T e : TypeId} {i j : TI} {P : Program} {es : List (List C)} {k : Nat} {KV : V → Prop} (hT : ti P T = some i) (hk : i.kd = .slice e) (hE : ti P e = some j) (hl : k ≤ es.length) (hs : ∀ x ∈ es, x.length = j.size) (hK : KV (.c (.sl (es.take k)))) :
    vslice P T (.c (.sl es)) none (some (i64 k)) none KV := by
  obtain ⟨kd, a, b, c, d, f, g⟩ := i; subst hk
  simp only [vslice, hT, hE, optInt]
  refine ⟨⟨Int.le_refl _, Int.natCast_nonneg k, by omega, hs⟩, ?_⟩
  simpa using hK

theorem setV_all {l ds : List V} (h : l.length = ds.length) : setV l 0 ds = ds := by simp [setV, h]

set_option maxHeartbeats 4000000 in
theorem typeError_ok {G : Gl} (l : List Ty) (k : Nat) (hk : k < l.length) (hl : l.length ≤ 9223372036854775807) (hn : ∀ t ∈ l, t.name.size ≤ 9223372036854775807) :
    FnOK Tryd.prog G 24 [.c (.sl (l.map tyC)), i64 k] (i64 (tyErr l k l[k])) := by
  refine FnOK_by (rs := [.tmp 4]) false [] mixed Tryd.func24 rfl rfl rfl rfl (by kernel_rfl) (by simp) rfl rfl ?_
  have hnk := hn l[k] (List.getElem_mem hk)
  simp -implicitDefEqProofs only [pkA, ptA, ↓reduceIte, Nat.reduceEqDiff, Nat.reduceAdd, Nat.reduceBEq, Nat.reduceMul, Nat.reduceLT, Nat.reduceLeDiff, pkP, List.length_map]
  refine ia_of ti_22 rfl ti_46 (by decide) (Int.natCast_nonneg k) (c := tyC l[k]) (by simp [hk]) rfl ?_
  generalize ht : l[k] = t at *
  repeat' first
    | (simp -implicitDefEqProofs only [pkA, ptA, ↓reduceIte, Nat.reduceEqDiff, Nat.reduceAdd, Nat.reduceBEq, Nat.reduceMul, Nat.reduceLT, Nat.reduceLeDiff, pkP, List.length_map, setV_all, List.length_map, tyC_len])
    | refine vgd_of (fun h => ?_) (fun h => ?_)
    | refine vcond_of (fun h => ?_) (fun h => ?_)
    | refine call_fn rfl (Name_ok _ hnk) (by simp [V.boxy]) ?_
    | (refine slice_pre ti_22 rfl ti_46 (by simp; omega) (by simp [tyC_len]) ?_; rw [take_map])
    | refine call_fn rfl (ContainsFunc_ty (l.take k) (by simp; omega) _ _ (fun o => decide (o.name = t.name)) (fun e _ => tyE1_ok t e)) (fun _ => rfl) ?_
    | refine call_fn rfl (wrong_ok [⟨t.flags, 0, 127⟩, ⟨t.life, 0, 1099511627776⟩] (by simp)) (fun _ => rfl) ?_
  all_goals (unfold tyErr; simp only [*, ↓reduceIte, Bool.false_eq_true, Bool.not_true, Bool.not_false])

set_option maxHeartbeats 4000000 in
theorem ruleError_ok {G : Gl} (l : List Ru) (k : Nat) (nt : Int) (hk : k < l.length) (hl : l.length ≤ 9223372036854775807) (hnt : 0 ≤ nt ∧ nt ≤ 9223372036854775807) :
    FnOK Tryd.prog G 25 [.c (.sl (l.map ruC)), i64 k, i64 nt] (i64 (ruErr l k nt l[k])) := by
  refine FnOK_by (rs := [.tmp 6]) false [] mixed Tryd.func25 rfl rfl rfl rfl (by kernel_rfl) (by simp) rfl rfl ?_
  have hw := wrap_i64 (nt - 1) (by omega)
  simp -implicitDefEqProofs only [pkA, ptA, ↓reduceIte, Nat.reduceEqDiff, Nat.reduceAdd, Nat.reduceBEq, Nat.reduceMul, Nat.reduceLT, Nat.reduceLeDiff, pkP, List.length_map]
  refine ia_of ti_23 rfl ti_40 (by decide) (Int.natCast_nonneg k) (c := ruC l[k]) (by simp [hk]) rfl ?_
  generalize ht : l[k] = t at *
  repeat' first
    | (simp -implicitDefEqProofs only [pkA, ptA, ↓reduceIte, Nat.reduceEqDiff, Nat.reduceAdd, Nat.reduceBEq, Nat.reduceMul, Nat.reduceLT, Nat.reduceLeDiff, pkP, List.length_map, setV_all, List.length_map, ruC_len, hw])
    | refine vgd_of (fun h => ?_) (fun h => ?_)
    | refine vcond_of (fun h => ?_) (fun h => ?_)
    | (refine slice_pre ti_23 rfl ti_40 (by simp; omega) (by simp [ruC_len]) ?_; rw [take_map])
    | refine call_fn rfl (Contains_ru (l.take k) (by simp; omega) t) (fun _ => rfl) ?_
    | refine call_fn rfl (wrong_ok [⟨t.kind, 1, 5⟩, ⟨t.a, 0, nt - 1⟩, ⟨t.b, 0, nt - 1⟩] (by simp)) (fun _ => rfl) ?_
  all_goals (unfold ruErr; simp only [*, ↓reduceIte, Bool.false_eq_true, Bool.not_true, Bool.not_false])

set_option maxHeartbeats 4000000 in
theorem quorumError_ok {G : Gl} (hG : G 0 = some [.lit (.int .i64 23), .lit (.int .i64 24), .lit (.int .i64 25)]) (l : List Qu) (k : Nat) (hk : k < l.length) (hl : l.length ≤ 9223372036854775807) :
    FnOK Tryd.prog G 26 [.c (.sl (l.map quC)), i64 k] (i64 (quErr l k l[k])) := by
  refine FnOK_by (rs := [.tmp 4]) false [] mixed Tryd.func26 rfl rfl rfl rfl (by kernel_rfl) (by simp) rfl rfl ?_
  simp -implicitDefEqProofs only [pkA, ptA, ↓reduceIte, Nat.reduceEqDiff, Nat.reduceAdd, Nat.reduceBEq, Nat.reduceMul, Nat.reduceLT, Nat.reduceLeDiff, pkP, List.length_map]
  refine ia_of ti_24 rfl ti_42 (by decide) (Int.natCast_nonneg k) (c := quC l[k]) (by simp [hk]) rfl ?_
  generalize ht : l[k] = t at *
  have hown : ∀ K, vslice Tryd.prog 72 (.c (.rp [.lit (.int .i64 23), .lit (.int .i64 24), .lit (.int .i64 25)] 0)) none none none K = K (.c (.sl (([23, 24, 25] : List Int).map inC))) := fun K => by
    simp only [vslice, ti_72, ti_3]
    simp [chunks, inC, cI]
  have hev : ∀ fr bx nb, ev G ⟨fr, bx, nb⟩ (.global 0) = .c (.rp [.lit (.int .i64 23), .lit (.int .i64 24), .lit (.int .i64 25)] 0) := fun fr bx nb => by simp [ev, hG]
  repeat' first
    | (simp -implicitDefEqProofs only [pkA, ptA, ↓reduceIte, Nat.reduceEqDiff, Nat.reduceAdd, Nat.reduceBEq, Nat.reduceMul, Nat.reduceLT, Nat.reduceLeDiff, pkP, List.length_map, setV_all, List.length_map, quC_len, hown, hev, Option.map_none])
    | refine vgd_of (fun h => ?_) (fun h => ?_)
    | refine vcond_of (fun h => ?_) (fun h => ?_)
    | (refine slice_pre ti_24 rfl ti_42 (by simp; omega) (by simp [quC_len]) ?_; rw [take_map])
    | refine call_fn rfl (Contains_in [23, 24, 25] (by simp) t.cmd) (fun _ => rfl) ?_
    | refine call_fn rfl (ContainsFunc_qu (l.take k) (by simp; omega) _ _ (fun o => decide (o.cmd = t.cmd)) (fun e _ => quE1_ok t e)) (fun _ => rfl) ?_
    | refine call_fn rfl (wrong_ok [⟨t.cmd, 1, 27⟩, ⟨t.count, 1, 16⟩, ⟨t.delay, 0, 1099511627776⟩, ⟨t.valid, t.delay, 1099511627776⟩, ⟨t.uses, 1, 1048576⟩] (by simp)) (fun _ => rfl) ?_
  all_goals (unfold quErr; simp only [*, ↓reduceIte, Bool.false_eq_true, Bool.not_true, Bool.not_false])
end Go.Proofs.YtbhfbbfifmnniaaDoor
