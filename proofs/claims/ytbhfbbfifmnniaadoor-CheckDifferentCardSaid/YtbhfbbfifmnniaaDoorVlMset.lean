/- Maps, fifth part: maps that are sets, and maps that count. -/
import Derived.Test.YtbhfbbfifmnniaaDoorVlPack
set_option linter.unusedSimpArgs false
set_option linter.unusedVariables false
namespace Go.Vl
open Go Go.RowKit

set_option linter.unusedSectionVars false
section
variable {P : Program} {α : Type} [DecidableEq α] {c : α → List C} {s : S} {T kt et : TypeId} {tT tk te : TI} {ks : List EK} {K : S → Prop} {KV : V → Prop} {i : Nat}

/-- A list with one more element, if it is not there. -/
def insM (l : List α) (a : α) : List α := if a ∈ l then l else l ++ [a]
theorem mem_insM {l : List α} {a b : α} : b ∈ insM l a ↔ b ∈ l ∨ b = a := by
  unfold insM
  split
  · rename_i h
    exact ⟨.inl, fun h' => by rcases h' with h' | rfl; exact h'; exact h⟩
  · simp

theorem findIdx_mem {l : List α} {a : α} : (l.findIdx? (fun b => decide (a = b))).isSome = decide (a ∈ l) := by
  rw [List.findIdx?_isSome, Bool.eq_iff_iff]
  simp only [List.any_eq_true, decide_eq_true_eq]
  exact ⟨fun ⟨x, h1, h2⟩ => h2 ▸ h1, fun h => ⟨a, h, rfl⟩⟩
theorem findIdx_at {l : List α} {a : α} {j : Nat} (h : l.findIdx? (fun b => decide (a = b)) = some j) : l[j]? = some a := by
  obtain ⟨h1, h2, _⟩ := List.findIdx?_eq_some_iff_getElem.1 h
  rw [List.getElem?_eq_getElem h1, of_decide_eq_true h2]

/-- A map of keys that are structs. -/
def mmap {β : Type} (c : α → List C) (h : β → V) (bs : List Nat) (cl : Nat) (l : List (α × β)) : List V := .mk bs cl :: ents (fun a => .agg (c a)) h l
theorem mmap_nil {β : Type} {h : β → V} {bs : List Nat} {cl : Nat} : mmap c h bs cl [] = [.mk bs cl] := rfl
theorem mmap_len {β : Type} {h : β → V} {bs : List Nat} {cl : Nat} {l : List (α × β)} : (mmap c h bs cl l).length = 1 + 2 * l.length := by
  simp [mmap, ents_len]; omega
theorem mmap_ltB {β : Type} {h : β → V} (hh : ∀ b m, (h b).ltB m = true) {bs : List Nat} {cl m : Nat} : ∀ {l : List (α × β)}, (mmap c h bs cl l).all (fun x => x.ltB m) = true := by
  intro l
  have : ∀ l : List (α × β), (ents (fun a => V.agg (c a)) h l).all (fun x => x.ltB m) = true := fun l => by
    induction l with
    | nil => rfl
    | cons p l ih => obtain ⟨a, b⟩ := p; simp only [ents, List.all_cons, ih, hh]; rfl
  simp only [mmap, List.all_cons, this]; rfl

/-- Where a key is in such a map. -/
theorem mmap_at {β : Type} {h : β → V} {z : β} (hT : ti P T = some tT) (hm : tT.kd = .map kt et) (hk : ti P kt = some tk) (hag : tk.agg = true) (hks : tk.eqs = some ks) (he : ti P et = some te) (hz : zeroOf te = some (h z)) (ha : zaB P et = true)
    (hl : ∀ a, (c a).length = ks.length) (heq : ∀ a b, eqCs ks (c a) (c b) = some (decide (a = b))) {a : α} {bs : List Nat} {cl : Nat} {l : List (α × β)} (hb : s.bx i = mmap c h bs cl l) (hi : i < s.nb)
    {KM : Nat → List Nat → Nat → List V → Option Nat → V → Prop} (hK : KM i bs cl (ents (fun a => .agg (c a)) h l) (((l.map (·.1)).findIdx? (fun b => decide (a = b)))) (h z)) : vmapAt P T s (.mr i) (.agg (c a)) KM := by
  refine vmapAt_of (ks := ks) (kc := c a) (kcs := (l.map (·.1)).map c) hT hm hk hks he (by simp [V.kcs, hag]) hz hb ?_ (findK_map hl heq a _ 0) hi (hl a) (by rw [heq]; simp) ha ?_
  · rw [keysOf_ents (c := c) (fun a => by simp [V.kcs, hag]), List.map_map]; rfl
  · have : (Option.map (0 + ·) ((l.map (·.1)).findIdx? (fun b => decide (a = b)))) = (l.map (·.1)).findIdx? (fun b => decide (a = b)) := by
      cases (l.map (·.1)).findIdx? (fun b => decide (a = b)) <;> simp
    rw [this]; exact hK

/-- A set. -/
def boV (b : Bool) : V := .c (.lit (.bool b))
def mset (c : α → List C) (bs : List Nat) (cl : Nat) (l : List α) : List V := mmap c boV bs cl (l.map fun a => (a, true))
theorem mset_nil : mset c [] 0 [] = [.mk [] 0] := rfl
theorem mset_ltB {bs : List Nat} {cl m : Nat} {l : List α} : (mset c bs cl l).all (fun x => x.ltB m) = true := mmap_ltB fun _ _ => rfl
theorem map_pair {l : List α} : (l.map fun a => (a, true)).map (·.1) = l := by
  rw [List.map_map]; conv => rhs; rw [← List.map_id l]
  rfl

theorem mset_set (hT : ti P T = some tT) (hm : tT.kd = .map kt et) (hk : ti P kt = some tk) (hag : tk.agg = true) (hks : tk.eqs = some ks) (he : ti P et = some te) (hz : zeroOf te = some (boV false)) (ha : zaB P et = true)
    (hl : ∀ a, (c a).length = ks.length) (heq : ∀ a b, eqCs ks (c a) (c b) = some (decide (a = b))) {a : α} {bs : List Nat} {cl : Nat} {l : List α} (hb : s.bx i = mset c bs cl l) (hi : i < s.nb)
    (hK : ∀ bs' cl', K { s with bx := up s.bx i (mset c bs' cl' (insM l a)) }) : vmapSet P T s (.mr i) (.agg (c a)) (.c (.lit (.bool true))) K := by
  unfold vmapSet
  refine mmap_at (h := boV) (z := false) hT hm hk hag hks he hz ha hl heq hb hi ?_
  rw [map_pair]
  have hmem := findIdx_mem (l := l) (a := a)
  cases hf : l.findIdx? (fun b => decide (a = b)) with
  | none =>
    rw [hf] at hmem
    have hn : a ∉ l := by simpa using hmem.symm
    have := hK (bs ++ [cl]) (cl + 1)
    rw [show insM l a = l ++ [a] by simp [insM, hn]] at this
    simp only [mset, mmap, List.map_append, List.map_cons, List.map_nil, ents_append, ents] at this
    exact this
  | some j =>
    rw [hf] at hmem
    have hn : a ∈ l := by simpa using hmem.symm
    have := hK bs cl
    rw [show insM l a = l by simp [insM, hn]] at this
    have hj := findIdx_at hf
    have e := ents_set (f := fun a => V.agg (c a)) (h := boV) (l.map fun a => (a, true)) j a true true (by simp [hj])
    have e2 : (l.map fun a => (a, true)).set j (a, true) = l.map fun a => (a, true) := by
      apply List.ext_getElem?
      intro k
      rw [List.getElem?_set]
      split
      · rename_i h; subst h; split <;> simp_all
      · rfl
    rw [e2] at e
    simp only [V.fz]
    rw [show (V.c (.lit (.bool true))) = boV true from rfl, e]
    exact this

theorem mset_look (hT : ti P T = some tT) (hm : tT.kd = .map kt et) (hk : ti P kt = some tk) (hag : tk.agg = true) (hks : tk.eqs = some ks) (he : ti P et = some te) (hz : zeroOf te = some (boV false)) (ha : zaB P et = true)
    (hl : ∀ a, (c a).length = ks.length) (heq : ∀ a b, eqCs ks (c a) (c b) = some (decide (a = b))) {a : α} {bs : List Nat} {cl : Nat} {l : List α} (hb : s.bx i = mset c bs cl l) (hi : i < s.nb)
    (hK : KV (.c (.lit (.bool (decide (a ∈ l)))))) : vlookup P T s (.mr i) (.agg (c a)) false KV := by
  unfold vlookup
  refine mmap_at (h := boV) (z := false) hT hm hk hag hks he hz ha hl heq hb hi ?_
  rw [map_pair]
  have hmem := findIdx_mem (l := l) (a := a)
  cases hf : l.findIdx? (fun b => decide (a = b)) with
  | none =>
    rw [hf] at hmem
    rw [← hmem] at hK
    exact hK
  | some j =>
    rw [hf] at hmem
    rw [← hmem] at hK
    have hj := findIdx_at hf
    have e := (ents_val (f := fun a => V.agg (c a)) (h := boV) (l.map fun a => (a, true)) j (a, true) (by simp [hj])).1
    simp only [e]
    exact hK

end
end Go.Vl
