/- Maps, fifth part: maps that are sets, and maps that count. -/
import Derived.Test.YtbhfbbfifmnniaaDoorVlPack
set_option linter.unusedSimpArgs false
set_option linter.unusedVariables false
namespace Go.Vl
open Go Go.RowKit

set_option linter.unusedSectionVars false
section
variable {P : Program} {α : Type} [DecidableEq α] {c : α → List C} {s : S} {T kt et : TypeId} {tT tk te : TI} {ks : List EK} {K : S → Prop} {KV : V → Prop} {i : Nat}

/-- A list with one more element, if it is not there. -/
def insM (l : List α) (a : α) : List α := if a ∈ l then l else l ++ [a]
theorem mem_insM {l : List α} {a b : α} : b ∈ insM l a ↔ b ∈ l ∨ b = a := by
  unfold insM
  split
  · rename_i h
    exact ⟨.inl, fun h' => by rcases h' with h' | rfl; exact h'; exact h⟩
  · simp

theorem findIdx_mem {l : List α} {a : α} : (l.findIdx? (fun b => decide (a = b))).isSome = decide (a ∈ l) := by
  rw [List.findIdx?_isSome, Bool.eq_iff_iff]
  simp only [List.any_eq_true, decide_eq_true_eq]
  exact ⟨fun ⟨x, h1, h2⟩ => h2 ▸ h1, fun h => ⟨a, h, rfl⟩⟩
theorem findIdx_at {l : List α} {a : α} {j : Nat} (h : l.findIdx? (fun b => decide (a = b)) = some j) : l[j]? = some a := by
  obtain ⟨h1, h2, _⟩ := List.findIdx?_eq_some_iff_getElem.1 h
  rw [List.getElem?_eq_getElem h1, of_decide_eq_true h2]

/-- A map of keys that are structs. -/
def mmap {β : Type} (c : α → List C) (h : β → V) (bs : List Nat) (cl : Nat) (l : List (α × β)) : List V := .mk bs cl :: ents (fun a => .agg (c a)) h l
theorem mmap_nil {β : Type} {h : β → V} {bs : List Nat} {cl : Nat} : mmap c h bs cl [] = [.mk bs cl] := rfl
theorem mmap_len {β : Type} {h : β → V} {bs : List Nat} {cl : Nat} {l : List (α × β)} : (mmap c h bs cl l).length = 1 + 2 * l.length := by
  simp [mmap, ents_len]; omega
theorem mmap_ltB {β : Type} {h : β → V} (hh : ∀ b m, (h b).ltB m = true) {bs : List Nat} {cl m : Nat} : ∀ {l : List (α × β)}, (mmap c h bs cl l).all (fun x => x.ltB m) = true := by
  intro l
  have : ∀ l : List (α × β), (ents (fun a => V.agg (c a)) h l).all (fun x => x.ltB m) = true := fun l => by
    induction l with
    | nil => rfl
    | cons p l ih => obtain ⟨a, b⟩ := p; simp only [ents, List.all_cons, ih, hh]; rfl
  simp only [mmap, List.all_cons, this]; rfl

/-- Where a key is in such a map. -/
theorem mmap_at {β : Type} {h : β → V} {z : β} (hT : ti P T = some tT) (hm : tT.kd = .map kt et) (hk : ti P kt = some tk) (hag : tk.agg = true) (hks : tk.eqs = some ks) (he : ti P et = some te) (hz : zeroOf te = some (h z)) (ha : zaB P et = true)
    (hl : ∀ a, (c a).length = ks.length) (heq : ∀ a b, eqCs ks (c a) (c b) = some (decide (a = b))) {a : α} {bs : List Nat} {cl : Nat} {l : List (α × β)} (hb : s.bx i = mmap c h bs cl l) (hi : i < s.nb)
    {KM : Nat → List Nat → Nat → List V → Option Nat → V → Prop} (hK : KM i bs cl (ents (fun a => .agg (c a)) h l) (((l.map (·.1)).findIdx? (fun b => decide (a = b)))) (h z)) : vmapAt P T s (.mr i) (.agg (c a)) KM := by
  refine vmapAt_of (ks := ks) (kc := c a) (kcs := (l.map (·.1)).map c) hT hm hk hks he (by simp [V.kcs, hag]) hz hb ?_ (findK_map hl heq a _ 0) hi (hl a) (by rw [heq]; simp) ha ?_
  · rw [keysOf_ents (c := c) (fun a => by simp [V.kcs, hag]), List.map_map]; rfl
  · have : (Option.map (0 + ·) ((l.map (·.1)).findIdx? (fun b => decide (a = b)))) = (l.map (·.1)).findIdx? (fun b => decide (a = b)) := by
      cases (l.map (·.1)).findIdx? (fun b => decide (a = b)) <;> simp
    rw [this]; exact hK

/-- A set. -/
def boV (b : Bool) : V := .c (.lit (.bool b))
def mset (c : α → List C) (bs : List Nat) (cl : Nat) (l : List α) : List V := mmap c boV bs cl (l.map fun a => (a, true))
theorem mset_nil : mset c [] 0 [] = [.mk [] 0] := rfl
theorem mset_ltB {bs : List Nat} {cl m : Nat} {l : List α} : (mset c bs cl l).all (fun x => x.ltB m) = true := mmap_ltB fun _ _ => rfl
theorem map_pair {l : List α} : (l.map fun a => (a, true)).map (·.1) = l := by
  rw [List.map_map]; conv => rhs; rw [← List.map_id l]
  rfl

theorem mset_set (hT : ti P T = some tT) (hm : tT.kd = .map kt et) (hk : ti P kt = some tk) (hag : tk.agg = true) (hks : tk.eqs = some ks) (he : ti P et = some te) (hz : zeroOf te = some (boV false)) (ha : zaB P et = true)
    (hl : ∀ a, (c a).length = ks.length) (heq : ∀ a b, eqCs ks (c a) (c b) = some (decide (a = b))) {a : α} {bs : List Nat} {cl : Nat} {l : List α} (hb : s.bx i = mset c bs cl l) (hi : i < s.nb)
    (hK : ∀ bs' cl', K { s with bx := up s.bx i (mset c bs' cl' (insM l a)) }) : vmapSet P T s (.mr i) (.agg (c a)) (.c (.lit (.bool true))) K := by
  unfold vmapSet
  refine mmap_at (h := boV) (z := false) hT hm hk hag hks he hz ha hl heq hb hi ?_
  rw [map_pair]
  have hmem := findIdx_mem (l := l) (a := a)
  cases hf : l.findIdx? (fun b => decide (a = b)) with
  | none =>
    rw [hf] at hmem
    have hn : a ∉ l := by simpa using hmem.symm
    have := hK (bs ++ [cl]) (cl + 1)
    rw [show insM l a = l ++ [a] by simp [insM, hn]] at this
    simp only [mset, mmap, List.map_append, List.map_cons, List.map_nil, ents_append, ents] at this
    exact this
  | some j =>
    rw [hf] at hmem
    have hn : a ∈ l := by simpa using hmem.symm
    have := hK bs cl
    rw [show insM l a = l by simp [insM, hn]] at this
    have hj := findIdx_at hf
    have e := ents_set (f := fun a => V.agg (c a)) (h := boV) (l.map fun a => (a, true)) j a true true (by simp [hj])
    have e2 : (l.map fun a => (a, true)).set j (a, true) = l.map fun a => (a, true) := by
      apply List.ext_getElem?
      intro k
      rw [List.getElem?_set]
      split
      · rename_i h; subst h; split <;> simp_all
      · rfl
    rw [e2] at e
    simp only [V.fz]
    rw [show (V.c (.lit (.bool true))) = boV true from rfl, e]
    exact this

theorem mset_look (hT : ti P T = some tT) (hm : tT.kd = .map kt et) (hk : ti P kt = some tk) (hag : tk.agg = true) (hks : tk.eqs = some ks) (he : ti P et = some te) (hz : zeroOf te = some (boV false)) (ha : zaB P et = true)
    (hl : ∀ a, (c a).length = ks.length) (heq : ∀ a b, eqCs ks (c a) (c b) = some (decide (a = b))) {a : α} {bs : List Nat} {cl : Nat} {l : List α} (hb : s.bx i = mset c bs cl l) (hi : i < s.nb)
    (hK : KV (.c (.lit (.bool (decide (a ∈ l)))))) : vlookup P T s (.mr i) (.agg (c a)) false KV := by
  unfold vlookup
  refine mmap_at (h := boV) (z := false) hT hm hk hag hks he hz ha hl heq hb hi ?_
  rw [map_pair]
  have hmem := findIdx_mem (l := l) (a := a)
  cases hf : l.findIdx? (fun b => decide (a = b)) with
  | none =>
    rw [hf] at hmem
    rw [← hmem] at hK
    exact hK
  | some j =>
    rw [hf] at hmem
    rw [← hmem] at hK
    have hj := findIdx_at hf
    have e := (ents_val (f := fun a => V.agg (c a)) (h := boV) (l.map fun a => (a, true)) j (a, true) (by simp [hj])).1
    simp only [e]
    exact hK

/-! A map as keys and a function. -/
def mfun {β : Type} (c : α → List C) (h : β → V) (bs : List Nat) (cl : Nat) (kl : List α) (f : α → β) : List V := mmap c h bs cl (kl.map fun k => (k, f k))
structure MOk (bs : List Nat) (cl : Nat) (kl : List α) : Prop where
  len : bs.length = kl.length
  bnd : bs.Nodup
  lt : ∀ b ∈ bs, b < cl
  knd : kl.Nodup
theorem MOk.nil : MOk [] 0 ([] : List α) := ⟨rfl, List.nodup_nil, by simp, List.nodup_nil⟩
theorem mfun_nil {β : Type} {h : β → V} {f : α → β} {bs : List Nat} {cl : Nat} : mfun c h bs cl [] f = [.mk bs cl] := rfl
theorem mfun_ltB {β : Type} {h : β → V} (hh : ∀ b m, (h b).ltB m = true) {f : α → β} {bs : List Nat} {cl m : Nat} {kl : List α} : (mfun c h bs cl kl f).all (fun x => x.ltB m) = true := mmap_ltB hh
theorem map_keys {β : Type} {f : α → β} {l : List α} : (l.map fun a => (a, f a)).map (·.1) = l := by
  rw [List.map_map]; conv => rhs; rw [← List.map_id l]
  rfl
def upA {β : Type} (f : α → β) (a : α) (v : β) : α → β := fun x => if x = a then v else f x
theorem upA_same {β : Type} {f : α → β} {a : α} {v : β} : upA f a v a = v := by simp [upA]
theorem nodup_insM {l : List α} {a : α} (h : l.Nodup) : (insM l a).Nodup := by
  unfold insM
  split
  · exact h
  · rename_i hn
    rw [List.nodup_append]
    exact ⟨h, by simp, fun x hx y hy => by simp at hy; subst hy; rintro rfl; exact hn hx⟩

theorem mfun_look {β : Type} {h : β → V} {z : β} {f : α → β} {kl : List α} (hT : ti P T = some tT) (hm : tT.kd = .map kt et) (hk : ti P kt = some tk) (hag : tk.agg = true) (hks : tk.eqs = some ks) (he : ti P et = some te) (hz : zeroOf te = some (h z)) (ha : zaB P et = true)
    (hl : ∀ a, (c a).length = ks.length) (heq : ∀ a b, eqCs ks (c a) (c b) = some (decide (a = b))) (hfz : ∀ b, (h b).fz = h b) (hf : ∀ a, a ∉ kl → f a = z) {a : α} {bs : List Nat} {cl : Nat} (hb : s.bx i = mfun c h bs cl kl f) (hi : i < s.nb)
    (hK : KV (h (f a))) : vlookup P T s (.mr i) (.agg (c a)) false KV := by
  unfold vlookup
  refine mmap_at (h := h) (z := z) hT hm hk hag hks he hz ha hl heq hb hi ?_
  rw [map_keys]
  have hmem := findIdx_mem (l := kl) (a := a)
  cases hfi : kl.findIdx? (fun b => decide (a = b)) with
  | none =>
    rw [hfi] at hmem
    have hn : a ∉ kl := by simpa using hmem.symm
    rw [hf a hn] at hK; exact hK
  | some j =>
    have hj := findIdx_at hfi
    have e := (ents_val (f := fun a => V.agg (c a)) (h := h) (kl.map fun a => (a, f a)) j (a, f a) (by simp [hj])).1
    simp only [e, hfz, Bool.false_eq_true, if_false]
    exact hK

theorem mfun_entry {β : Type} {h : β → V} {z : β} {f : α → β} {kl : List α} (hT : ti P T = some tT) (hm : tT.kd = .map kt et) (hk : ti P kt = some tk) (hag : tk.agg = true) (hks : tk.eqs = some ks) (he : ti P et = some te) (hz : zeroOf te = some (h z)) (ha : zaB P et = true)
    (hl : ∀ a, (c a).length = ks.length) (heq : ∀ a b, eqCs ks (c a) (c b) = some (decide (a = b))) (hf : ∀ a, a ∉ kl → f a = z) {a : α} {bs : List Nat} {cl : Nat} (hok : MOk bs cl kl) (hb : s.bx i = mfun c h bs cl kl f) (hi : i < s.nb)
    {K : S → V → Prop} (hK : ∀ bs' cl' j, MOk bs' cl' (insM kl a) → (insM kl a)[j]? = some a → K { s with bx := up s.bx i (mfun c h bs' cl' (insM kl a) f) } (.tup [(h (f a)).dr, .c (.lit (.int .i64 (bs'.getD j 0)))])) :
    vmapEntry P T s (.mr i) (.agg (c a)) K := by
  unfold vmapEntry
  refine mmap_at (h := h) (z := z) hT hm hk hag hks he hz ha hl heq hb hi ?_
  rw [map_keys]
  have hmem := findIdx_mem (l := kl) (a := a)
  cases hfi : kl.findIdx? (fun b => decide (a = b)) with
  | none =>
    rw [hfi] at hmem
    have hn : a ∉ kl := by simpa using hmem.symm
    have hi' : insM kl a = kl ++ [a] := by simp [insM, hn]
    have h1 := hok.lt
    have := hK (bs ++ [cl]) (cl + 1) kl.length ⟨by simp [hi', hok.len], by
        rw [List.nodup_append]
        exact ⟨hok.bnd, by simp, fun x hx y hy => by simp at hy; subst hy; exact Nat.ne_of_lt (h1 x hx)⟩,
      fun b hb => by rcases List.mem_append.1 hb with hb | hb; exact Nat.lt_succ_of_lt (h1 b hb); simp at hb; omega, nodup_insM hok.knd⟩ (by simp [hi'])
    rw [hi', hf a hn] at this
    simp only [mfun, mmap, List.map_append, List.map_cons, List.map_nil, ents_append, ents, hf a hn] at this
    rw [show (bs ++ [cl]).getD kl.length 0 = cl by rw [← hok.len]; simp] at this
    exact this
  | some j =>
    rw [hfi] at hmem
    have hn : a ∈ kl := by simpa using hmem.symm
    have hi' : insM kl a = kl := by simp [insM, hn]
    have hj := findIdx_at hfi
    have := hK bs cl j (by rw [hi']; exact hok) (by rw [hi']; exact hj)
    rw [hi', ← hb, up_self] at this
    have e := (ents_val (f := fun a => V.agg (c a)) (h := h) (kl.map fun a => (a, f a)) j (a, f a) (by simp [hj])).1
    simp only [e]
    exact this

theorem nodup_findIdx {bs : List Nat} (hnd : bs.Nodup) {j : Nat} (hj : j < bs.length) : bs.findIdx? (fun (b : Nat) => (b : Int) == ((bs.getD j 0 : Nat) : Int)) = some j := by
  rw [List.findIdx?_eq_some_iff_getElem]
  refine ⟨hj, by simp [hj], fun k hk => ?_⟩
  have h1 := List.pairwise_iff_getElem.1 (List.nodup_iff_pairwise_ne.1 hnd) k j (by omega) hj hk
  simp only [List.getD_eq_getElem?_getD, List.getElem?_eq_getElem hj, Option.getD_some, Bool.not_eq_true, beq_eq_false_iff_ne, ne_eq]
  omega

theorem mfun_store {β : Type} {h : β → V} {f : α → β} {kl : List α} {a : α} {bs : List Nat} {cl j : Nat} {kd : IntKind} {n : β} (hok : MOk bs cl kl) (hfz : ∀ b, (h b).fz = h b) (hj : kl[j]? = some a) (hb : s.bx i = mfun c h bs cl kl f) (hi : i < s.nb)
    (hK : K { s with bx := up s.bx i (mfun c h bs cl kl (upA f a n)) }) : ventrySet s (.mr i) (.c (.lit (.int kd (bs.getD j 0)))) (h n) K := by
  have hjl : j < kl.length := (List.getElem?_eq_some_iff.1 hj).1
  unfold ventrySet
  simp only [hb, mfun, mmap, nodup_findIdx hok.bnd (by rw [hok.len]; exact hjl)]
  refine ⟨hi, ?_⟩
  rw [hfz, ents_set (f := fun a => V.agg (c a)) (h := h) (kl.map fun a => (a, f a)) j a (f a) n (by simp [hj])]
  have e : (kl.map fun k => (k, f k)).set j (a, n) = kl.map fun k => (k, upA f a n k) := by
    apply List.ext_getElem?
    intro k
    rw [List.getElem?_set]
    split
    · rename_i hjk; subst hjk
      obtain ⟨_, rfl⟩ := List.getElem?_eq_some_iff.1 hj
      simp [hjl, upA]
    · rename_i hjk
      rw [List.getElem?_map, List.getElem?_map]
      cases hkk : kl[k]? with
      | none => rfl
      | some x =>
        have : x ≠ a := by
          rintro rfl
          obtain ⟨h1, h2⟩ := List.getElem?_eq_some_iff.1 hkk
          obtain ⟨h3, h4⟩ := List.getElem?_eq_some_iff.1 hj
          have hp := List.pairwise_iff_getElem.1 (List.nodup_iff_pairwise_ne.1 hok.knd)
          rcases Nat.lt_trichotomy j k with q | q | q
          · exact hp j k h3 h1 q (h4.trans h2.symm)
          · exact hjk q
          · exact hp k j h1 h3 q (h2.trans h4.symm)
        simp [upA, this]
  rw [e]; exact hK

/-- Ranging over such a map. -/
theorem mfun_range {β : Type} {h : β → V} {f : α → β} {kl : List α} {bs : List Nat} {cl : Nat} (hT : ti P T = some tT) (hm : tT.kd = .map kt et) (hb : s.bx i = mfun c h bs cl kl f) (hi : i < s.nb) (hK : KV (.it i cl cl [])) : vrange P T s (.mr i) KV := by
  obtain ⟨kd, a1, a2, a3, a4, a5, a6⟩ := tT
  simp only at hm; subst hm
  unfold vrange
  simp only [hT, hb, mfun, mmap]
  exact ⟨hi, hK⟩
theorem mfun_next {β : Type} {h : β → V} {f : α → β} {kl : List α} {bs seen : List Nat} {cl : Nat} (hok : MOk bs cl kl) (hb : s.bx i = mfun c h bs cl kl f) (hi : i < s.nb) {K : Option V → V → Prop}
    (h0 : (∀ b ∈ bs, b ∈ seen) → K none (.tup [.c (.lit (.bool false))])) (h1 : ∀ b ∈ bs, b ∉ seen → ∀ x y, K (some (.it i cl cl (seen ++ [b]))) (.tup [.c (.lit (.bool true)), x, y])) : vnext s (.it i cl cl seen) K := by
  unfold vnext
  simp only [hb, mfun, mmap]
  exact ⟨⟨hi, Nat.le_refl _, hok.lt⟩, h0, fun j b hj hb => h1 b (List.mem_of_getElem? hj) hb _ _⟩
theorem mfun_at {β : Type} {h : β → V} {f : α → β} {kl : List α} {bs seen : List Nat} {cl b : Nat} (hok : MOk bs cl kl) (hb : s.bx i = mfun c h bs cl kl f) (hi : i < s.nb) (hm : b ∈ bs)
    (hK : ∀ k ∈ kl, KV (.tup [.agg (c k), (h (f k)).dr])) : ventry s (.it i cl cl (seen ++ [b])) KV := by
  unfold ventry
  simp only [hb, mfun, mmap, List.getLast?_append, List.getLast?_singleton, Option.some_or]
  have : (bs.findIdx? (· == b)).isSome = true := by
    rw [List.findIdx?_isSome, List.any_eq_true]; exact ⟨b, hm, by simp⟩
  obtain ⟨j, hj⟩ := Option.isSome_iff_exists.1 this
  have hjl : j < kl.length := by rw [← hok.len]; exact (List.findIdx?_eq_some_iff_getElem.1 hj).1
  have e := ents_val (f := fun a => V.agg (c a)) (h := h) (kl.map fun a => (a, f a)) j (kl[j], f kl[j]) (by simp [hjl])
  simp only [hj, e.1, e.2]
  exact ⟨⟨hi, trivial⟩, hK _ (List.getElem_mem hjl)⟩
/-- What is left of a range. -/
def leftM (bs seen : List Nat) : Nat := (bs.filter fun b => !decide (b ∈ seen)).length
theorem leftM_lt {bs seen : List Nat} {b : Nat} (hb : b ∈ bs) (hn : b ∉ seen) : leftM bs (seen ++ [b]) < leftM bs seen := by
  unfold leftM
  have e : (fun x => !decide (x ∈ seen ++ [b])) = fun x => (!decide (x = b)) && (!decide (x ∈ seen)) := by
    funext x; by_cases h1 : x ∈ seen <;> by_cases h2 : x = b <;> simp [h1, h2]
  rw [e, ← List.filter_filter]
  have hm : b ∈ bs.filter (fun x => !decide (x ∈ seen)) := List.mem_filter.2 ⟨hb, by simp [hn]⟩
  refine Nat.lt_of_le_of_ne (List.length_filter_le _ _) fun h => ?_
  have := List.length_filter_eq_length_iff.1 h b hm
  simp at this

end
end Go.Vl
