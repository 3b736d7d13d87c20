/- Values without memory: a box that holds a list of structs; places in it. -/
import Derived.Test.YtbhfbbfifmnniaaDoorVlPack
import Derived.Test.YtbhfbbfifmnniaaDoorVlSort
set_option linter.unusedSimpArgs false
set_option linter.unusedVariables false
namespace Go.Vl
open Go Go.RowKit

section
variable {P : Program} {G : Gl} {tr : List Nat} {fr : Nat → V} {bx : Nat → List V} {nb : Nat} {K : S → Prop} {KV : V → Prop} {Q : VE → S → Prop}
variable {α : Type} {c : α → List C} {sz : Nat}

def flb (c : α → List C) (l : List α) : List V := (l.map c).flatten.map .c

theorem flb_nil : flb c [] = [] := rfl
theorem flb_cons {x : α} {l : List α} : flb c (x :: l) = (c x).map .c ++ flb c l := by simp [flb]
theorem flb_append {l m : List α} : flb c (l ++ m) = flb c l ++ flb c m := by simp [flb]
theorem flb_len (hc : ∀ x, (c x).length = sz) : ∀ l : List α, (flb c l).length = l.length * sz
  | [] => by simp [flb]
  | x :: l => by rw [flb_cons, List.length_append, flb_len hc l]; simp [hc, Nat.succ_mul, Nat.add_comm]

theorem list_at {l : List α} {i : Nat} {x : α} (h : l[i]? = some x) : ∃ a b, l = a ++ x :: b ∧ a.length = i := by
  obtain ⟨hi, hx⟩ := List.getElem?_eq_some_iff.1 h
  refine ⟨l.take i, l.drop (i + 1), ?_, by simp; omega⟩
  rw [← hx, List.getElem_cons_drop, List.take_append_drop]

theorem flb_drop (hc : ∀ x, (c x).length = sz) {l : List α} {i : Nat} {x : α} (h : l[i]? = some x) : ((flb c l).drop (i * sz)).take sz = (c x).map .c := by
  obtain ⟨a, b, rfl, rfl⟩ := list_at h
  rw [flb_append, ← flb_len hc a, List.drop_left, flb_cons]
  exact List.take_left' (by simp [hc])
theorem flb_set (hc : ∀ x, (c x).length = sz) {l : List α} {i : Nat} {y : α} (h : i < l.length) : setV (flb c l) (i * sz) ((c y).map .c) = flb c (l.set i y) := by
  obtain ⟨a, b, e, rfl⟩ := list_at (List.getElem?_eq_getElem h)
  rw [e, set_mid rfl]
  simp only [flb_append, flb_cons, setV]
  rw [← flb_len hc a, List.take_left]
  have e1 : (flb c a).length + ((c y).map V.c).length = (flb c a).length + ((c l[a.length]).map V.c).length := by simp [hc]
  rw [e1, ← List.drop_drop, List.drop_left, List.drop_left]
  simp
theorem ld_flb (hc : ∀ x, (c x).length = sz) {b i o : Nat} {l : List α} {x : α} (ho : o = i * sz) (hb : b < nb) (h : l[i]? = some x) (hK : KV (.agg (c x))) : ldA nb b (flb c l) o sz KV := by
  subst ho
  unfold ldA
  rw [flb_drop hc h]
  have h2 : ((c x).map V.c).map V.fz = (c x).map V.c := by simp [List.map_map, Function.comp_def, V.fz]
  have h3 : ((c x).map V.c).all V.isPO = true := by simp [List.all_map, Function.comp_def, V.isPO]
  rw [h2, h3, aggV_map]
  exact ⟨hb, ⟨by simp [hc], rfl⟩, hK⟩

/-- A place of a slice that is a view of a box from its start. -/
theorem ix_flb {T e : TypeId} {i j : TI} {k : Nat} {n : Int} {b l cp z : Nat} (hT : ti P T = some i) (hk : i.kd = .slice e) (hj : ti P e = some j) (hs : j.size = z) (hz : z ≠ 0) (hn : n = (k : Nat)) (hl : k < l)
    (hK : KV (.bp b (k * z))) : vindexAddr P T (.ms b 0 l cp z) (.c (.lit (.int .i64 n))) KV := by
  subst hn
  refine ia_ms hT hk hj hs hz (Int.natCast_nonneg k) (by omega) ?_
  simpa using hK
theorem isMb_flb {α : Type} {c : α → List C} {l : List α} : isMb (flb c l) = false := isMb_map
theorem st_flb (hc : ∀ x, (c x).length = sz) {t : Tmp} {dO : Option Tmp} {b i o : Nat} {y : α} {l : List α} (h : fr t = .agg (c y)) (ho : o = i * sz) (hb : b < nb) (hl : bx b = flb c l) (hi : i < l.length)
    (hK : K ((⟨fr, up bx b (flb c (l.set i y)), nb⟩ : S).put dO .sk)) : stS sz (some t) dO b o (.agg (c y)) ⟨fr, bx, nb⟩ K := by
  subst ho
  rw [stS_agg h]
  refine ⟨⟨hb, hc y, ?_⟩, ?_⟩
  · rw [hl, flb_len hc]
    have : i * sz + sz = (i + 1) * sz := by rw [Nat.succ_mul]
    rw [this]; exact Nat.mul_le_mul_right _ hi
  · rw [hl, flb_set hc hi]; exact hK
/-- What a store at a place asks, and what it leaves. -/
theorem stq (hc : ∀ x, (c x).length = sz) {i : Nat} {y : α} {l l' : List α} (hi : i < l.length) (h : l.set i y = l') : ((i * sz + sz ≤ (flb c l).length) = True) ∧ setV (flb c l) (i * sz) ((c y).map .c) = flb c l' := by
  subst h
  refine ⟨?_, flb_set hc hi⟩
  rw [flb_len hc, eq_iff_iff, iff_true]
  have : i * sz + sz = (i + 1) * sz := by rw [Nat.succ_mul]
  rw [this]; exact Nat.mul_le_mul_right _ hi
theorem le_box {l : List (Nat × V)} {k : Nat} {L : List α} (hok : l.all (fun p => p.2.ltB 1) = true) (hk : k ≤ 1) (hn : 1 ≤ nb) (h1 : FL l fr) (h2 : bx 0 = flb c L) : S.Le k (hdS l [flb c L]) ⟨fr, bx, nb⟩ := by
  refine le_hd ?_ hk hn h1 ⟨h2, trivial⟩
  simp only [leOk, List.all_cons, List.all_nil, Bool.and_true, Bool.and_eq_true]
  exact ⟨hok, all_ltB_c _ _⟩
theorem end_box {k : Nat} {e : VE} {L : List α} (he : isEnd e = true) (hk : k ≤ 1) (hn : 1 ≤ nb) (h2 : bx 0 = flb c L) : endB P k (.tup []) [flb c L] [] e ⟨fr, bx, nb⟩ := by
  refine end_B [] he ?_ hk hn trivial ⟨h2, trivial⟩ retV_none
  simp only [leOk, List.all_cons, List.all_nil, Bool.and_true, Bool.true_and]
  exact all_ltB_c _ _
/-- A call that changes the one box. -/
theorem call_box {s : S} {f : V} {args all cargs : List V} {g : FuncId} {K : S → V → Prop} {r : V} {b0 b1 : List V} (hc : calleeV f args = some (g, all)) (hf : FnB P G g cargs [b0] r [b1]) (hall : all.map V.fz = cargs)
    (hn : s.nb = 1) (hb : s.bx 0 = b0) (hK : K ⟨s.fr, up s.bx 0 b1, 1⟩ r) : vcallB P G s f args K := by
  refine callB_all hc hf hall (by simp [hn]) ⟨hb, trivial⟩ ?_
  have e : (fun i => if i < [b1].length then [b1].getD i [] else s.bx i) = up s.bx 0 b1 := by
    funext i
    cases i with
    | zero => simp
    | succ i => simp [up]
  rw [e]; exact hK
theorem argsB_ok {L : List α} {args : List V} (h : args.all (fun v => v.ltB 1) = true) : xargsOk args [flb c L] = true := by
  simp only [xargsOk, List.all_cons, List.all_nil, Bool.and_true, Bool.and_eq_true]
  exact ⟨h, all_ltB_c _ _⟩

theorem wrap_of {n : Int} {k : Nat} (h : n = (k : Nat)) (hk : k ≤ 9223372036854775807) : IntKind.i64.wrap n = (k : Nat) := by
  subst h; exact wrap_i64 _ (by omega)
theorem conv_u64 {T U : TypeId} {i j : TI} {n : Nat} {k : IntKind} (hT : ti P T = some i) (hU : ti P U = some j) (hj : j.kd = .int .u64) (hn : n ≤ 9223372036854775807) : vconv P T U (.c (.lit (.int k n))) KV = KV (.c (.lit (.int .u64 n))) := by
  obtain ⟨kd, a, b, cc, d, f, g⟩ := j; simp only at hj; subst hj
  have : IntKind.u64.wrap (n : Int) = n := by rw [IntKind.wrap_u64]; omega
  simp only [vconv, hT, hU, this]
theorem conv_i64 {T U : TypeId} {i j : TI} {n : Nat} {k : IntKind} (hT : ti P T = some i) (hU : ti P U = some j) (hj : j.kd = .int .i64) (hn : n ≤ 9223372036854775807) : vconv P T U (.c (.lit (.int k n))) KV = KV (.c (.lit (.int .i64 n))) := by
  obtain ⟨kd, a, b, cc, d, f, g⟩ := j; simp only at hj; subst hj
  have : IntKind.i64.wrap (n : Int) = n := wrap_i64 _ (by omega)
  simp only [vconv, hT, hU, this]
theorem shr_one {T : TypeId} {n : Nat} {k k' : IntKind} (hk : 1 ≤ k.bits) : vbin P .shr T (.c (.lit (.int k n))) (.c (.lit (.int k' 1))) KV = KV (.c (.lit (.int k (n / 2 : Nat)))) := by
  rw [vbin_shr]
  have : (n : Int).fdiv (2 ^ (min (1 : Int).toNat k.bits)) = (n / 2 : Nat) := by
    have : min (1 : Int).toNat k.bits = 1 := by simp; omega
    rw [this, Int.fdiv_eq_ediv_of_nonneg _ (by decide)]; simp
  simp only [vint, this]
  simp
end
end Go.Vl

