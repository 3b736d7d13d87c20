/- Values without memory: a box that holds a list of structs; places in it. -/
import Derived.Test.YtidlohfkfdeaiaaDoorVlPack
set_option linter.unusedSimpArgs false
set_option linter.unusedVariables false
namespace Go.Vl
open Go Go.RowKit

section
variable {P : Program} {G : Gl} {tr : List Nat} {fr : Nat → V} {bx : Nat → List V} {nb : Nat} {K : S → Prop} {KV : V → Prop} {Q : VE → S → Prop}
variable {α : Type} {c : α → List C} {sz : Nat}

theorem set_mid {P S : List α} {x y : α} {k : Nat} (hk : P.length = k) : (P ++ x :: S).set k y = P ++ y :: S := by
  subst hk; simp
def flb (c : α → List C) (l : List α) : List V := (l.map c).flatten.map .c

theorem flb_cons {x : α} {l : List α} : flb c (x :: l) = (c x).map .c ++ flb c l := by simp [flb]
theorem flb_append {l m : List α} : flb c (l ++ m) = flb c l ++ flb c m := by simp [flb]
theorem flb_len (hc : ∀ x, (c x).length = sz) : ∀ l : List α, (flb c l).length = l.length * sz
  | [] => by simp [flb]
  | x :: l => by rw [flb_cons, List.length_append, flb_len hc l]; simp [hc, Nat.succ_mul, Nat.add_comm]

theorem list_at {l : List α} {i : Nat} {x : α} (h : l[i]? = some x) : ∃ a b, l = a ++ x :: b ∧ a.length = i := by
  obtain ⟨hi, hx⟩ := List.getElem?_eq_some_iff.1 h
  refine ⟨l.take i, l.drop (i + 1), ?_, by simp; omega⟩
  rw [← hx, List.getElem_cons_drop, List.take_append_drop]

theorem flb_set (hc : ∀ x, (c x).length = sz) {l : List α} {i : Nat} {y : α} (h : i < l.length) : setV (flb c l) (i * sz) ((c y).map .c) = flb c (l.set i y) := by
  obtain ⟨a, b, e, rfl⟩ := list_at (List.getElem?_eq_getElem h)
  rw [e, set_mid rfl]
  simp only [flb_append, flb_cons, setV]
  rw [← flb_len hc a, List.take_left]
  have e1 : (flb c a).length + ((c y).map V.c).length = (flb c a).length + ((c l[a.length]).map V.c).length := by simp [hc]
  rw [e1, ← List.drop_drop, List.drop_left, List.drop_left]
  simp
/-- A place of a slice that is a view of a box from its start. -/
theorem ix_flb {T e : TypeId} {i j : TI} {k : Nat} {n : Int} {b l cp z : Nat} (hT : ti P T = some i) (hk : i.kd = .slice e) (hj : ti P e = some j) (hs : j.size = z) (hz : z ≠ 0) (hn : n = (k : Nat)) (hl : k < l)
    (hK : KV (.bp b (k * z))) : vindexAddr P T (.ms b 0 l cp z) (.c (.lit (.int .i64 n))) KV := by
  subst hn
  refine ia_ms hT hk hj hs hz (Int.natCast_nonneg k) (by omega) ?_
  simpa using hK
theorem isMb_flb {α : Type} {c : α → List C} {l : List α} : isMb (flb c l) = false := isMb_map
/-- What a store at a place asks, and what it leaves. -/
theorem stq (hc : ∀ x, (c x).length = sz) {i : Nat} {y : α} {l l' : List α} (hi : i < l.length) (h : l.set i y = l') : ((i * sz + sz ≤ (flb c l).length) = True) ∧ setV (flb c l) (i * sz) ((c y).map .c) = flb c l' := by
  subst h
  refine ⟨?_, flb_set hc hi⟩
  rw [flb_len hc, eq_iff_iff, iff_true]
  have : i * sz + sz = (i + 1) * sz := by rw [Nat.succ_mul]
  rw [this]; exact Nat.mul_le_mul_right _ hi
theorem argsB_ok {L : List α} {args : List V} (h : args.all (fun v => v.ltB 1) = true) : xargsOk args [flb c L] = true := by
  simp only [xargsOk, List.all_cons, List.all_nil, Bool.and_true, Bool.and_eq_true]
  exact ⟨h, all_ltB_c _ _⟩

end
end Go.Vl

