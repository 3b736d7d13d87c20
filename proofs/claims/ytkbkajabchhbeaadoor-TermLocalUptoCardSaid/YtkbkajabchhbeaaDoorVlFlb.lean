/- Maps, fifth part: maps that are sets, and maps that count. -/
import Derived.Test.YtkbkajabchhbeaaDoorVlPack
import Derived.Test.YtkbkajabchhbeaaDoorVlEnv
set_option linter.unusedSimpArgs false
set_option linter.unusedVariables false
namespace Go.Vl
open Go Go.RowKit
set_option linter.unusedSectionVars false
section
variable {P : Program} {α : Type} [DecidableEq α] {c : α → List C} {s : S} {T kt et : TypeId} {tT tk te : TI} {ks : List EK} {K : S → Prop} {KV : V → Prop} {i : Nat}
def insM (l : List α) (a : α) : List α := if a ∈ l then l else l ++ [a]
theorem mem_insM {l : List α} {a b : α} : b ∈ insM l a ↔ b ∈ l ∨ b = a := by
 unfold insM
 split
 ·rename_i h
  exact ⟨.inl, fun h' => by rcases h' with h' | rfl; exact h'; exact h⟩
 ·simp
theorem findIdx_mem {l : List α} {a : α} : (l.findIdx? (fun b => decide (a = b))).isSome = decide (a ∈ l) := by
 rw [List.findIdx?_isSome, Bool.eq_iff_iff]
 simp only [List.any_eq_true, decide_eq_true_eq]
 exact ⟨fun ⟨x, h1, h2⟩ => h2 ▸ h1, fun h => ⟨a, h, rfl⟩⟩
theorem findIdx_at {l : List α} {a : α} {j : Nat} (h : l.findIdx? (fun b => decide (a = b)) = some j) : l[j]? = some a := by
 obtain ⟨h1, h2, _⟩ := List.findIdx?_eq_some_iff_getElem.1 h
 rw [List.getElem?_eq_getElem h1, of_decide_eq_true h2]
structure MOk (bs : List Nat) (cl : Nat) (kl : List α) : Prop where
 len : bs.length = kl.length
 bnd : bs.Nodup
 lt : ∀ b ∈ bs, b < cl
 knd : kl.Nodup
theorem MOk.nil : MOk [] 0 ([] : List α) := ⟨rfl, List.nodup_nil, by simp, List.nodup_nil⟩
theorem nodup_insM {l : List α} {a : α} (h : l.Nodup) : (insM l a).Nodup := by
 unfold insM
 split
 ·exact h
 ·rename_i hn
  rw [List.nodup_append]
  exact ⟨h, by simp, fun x hx y hy => by simp at hy; subst hy; rintro rfl; exact hn hx⟩
end
end Go.Vl
/- Values without memory: a box that holds a list of structs; places in it. -/
namespace Go.Vl
open Go Go.RowKit
section
variable {P : Program} {G : Gl} {tr : List Nat} {fr : Nat → V} {bx : Nat → List V} {nb : Nat} {K : S → Prop} {KV : V → Prop} {Q : VE → S → Prop}
variable {α : Type} {c : α → List C} {sz : Nat}
def flb (c : α → List C) (l : List α) : List V := (l.map c).flatten.map .c
theorem flb_cons {x : α} {l : List α} : flb c (x :: l) = (c x).map .c ++ flb c l := by simp [flb]
theorem flb_len (hc : ∀ x, (c x).length = sz) : ∀ l : List α, (flb c l).length = l.length * sz
 | [] => by simp [flb]
 | x :: l => by rw [flb_cons, List.length_append, flb_len hc l]; simp [hc, Nat.succ_mul, Nat.add_comm]
theorem isMb_flb {α : Type} {c : α → List C} {l : List α} : isMb (flb c l) = false := isMb_map
end
end Go.Vl
/- Values without memory: boxes that are lists: pieces, views. -/
namespace Go.Vl
open Go Go.RowKit
section
variable {α : Type} {c : α → List C} {sz : Nat}
theorem chunks_flat (hc : ∀ x, (c x).length = sz) : ∀ l : List α, chunks sz l.length (l.map c).flatten = l.map c
 | [] => rfl
 | x :: l => by
  simp only [List.length_cons, List.map_cons, List.flatten_cons, chunks]
  rw [List.take_left' (hc x), List.drop_left' (hc x), chunks_flat hc l]
theorem box_flb {fr : Nat → V} {bx : Nat → List V} {nb b : Nat} {l : List α} (hb : b < nb) (h : bx b = flb c l) : boxC ⟨fr, bx, nb⟩ b = some (l.map c).flatten := by
 unfold boxC; simp only [hb, if_true, h, flb]
 generalize (l.map c).flatten = cs
 induction cs with
 | nil => rfl
 | cons x cs ih => simp only [List.map_cons, List.mapM_cons, ih]; rfl
theorem view_flb (hc : ∀ x, (c x).length = sz) {fr : Nat → V} {bx : Nat → List V} {nb b n : Nat} {l : List α} (hb : b < nb) (h : bx b = flb c l) (hn : n = l.length) : viewC ⟨fr, bx, nb⟩ b 0 n sz = some (.sl (l.map c)) := by
 subst hn
 unfold viewC; rw [box_flb hb h]
 have : (l.map c).flatten.length = l.length * sz := by have := flb_len hc l; unfold flb at this; rwa [List.length_map] at this
 simp only [this, Nat.zero_add, Nat.le_refl, if_true, List.drop_zero, chunks_flat hc]
end
section
variable {P : Program} {G : Gl} {α : Type} {c : α → List C} {sz : Nat} {KV : V → Prop} {nb : Nat}
theorem flb_ren {ρ : Nat → Nat} {l : List α} : (flb c l).map (V.ren ρ) = flb c l := by
 unfold flb; rw [List.map_map]; rfl
end
set_option linter.unusedSectionVars false
section
variable {P : Program} {α : Type} [DecidableEq α] {c : α → List C} {s : S} {T kt et : TypeId} {tT tk te : TI} {ks : List EK} {K : S → Prop} {i : Nat}
end
theorem callB_sel {P : Program} {G : Gl} {s : S} {f : V} {args all cargs : List V} {g : FuncId} {K : S → V → Prop} {r : V} {b0 b1 : List (List V)} (ρ : List Nat) (hc : calleeV f args = some (g, all)) (hf : FnB P G g cargs b0 r b1)
  (hall : all.map V.fz = cargs.map (V.ren (rho ρ s.nb))) (hl : ρ.length = b0.length) (hnd : ρ.Nodup) (h1 : b1.length = b0.length) (hb : bxIn s.bx s.nb (rho ρ s.nb) 0 b0)
  (hK : ∀ bx' : Nat → List V, (∀ j, j ∉ ρ → bx' j = s.bx j) → (∀ (i j : Nat) (b : List V), ρ[i]? = some j → b1[i]? = some b → bx' j = b.map (V.ren (rho ρ s.nb))) → K ⟨s.fr, bx', s.nb⟩ (r.ren (rho ρ s.nb))) : vcallB P G s f args K := by
 unfold vcallB vcallE
 simp only [hc]
 refine ⟨ρ, cargs, b0, r, b1, hf, hall, ⟨hl, hnd⟩, hb, ?_⟩
 have hat : ∀ i, i < b1.length → ∃ j, ρ[i]? = some j ∧ rho ρ s.nb i = j := fun i hi => by
  have : i < ρ.length := by omega
  exact ⟨ρ[i], List.getElem?_eq_getElem this, by unfold rho; rw [if_pos this]; simp [this]⟩
 have hn : s.nb + (b1.length - b0.length) = s.nb := by omega
 rw [hn]
 refine hK _ (fun j hj => setBx_other b1 0 s.bx j fun i hi => ?_) fun i j b hi hb => ?_
 ·obtain ⟨k, h2, h3⟩ := hat i hi
  rw [Nat.zero_add, h3]
  rintro rfl
  exact hj (List.mem_of_getElem? h2)
 ·have hib := (List.getElem?_eq_some_iff.1 hb).1
  obtain ⟨k, h2, h3⟩ := hat i hib
  rw [hi] at h2; cases h2
  have := setBx_at (ρ := rho ρ s.nb) b1 0 s.bx i b hb (fun i i' hi hi' h => by
   obtain ⟨k, h4, h5⟩ := hat i hi
   obtain ⟨k', h6, h7⟩ := hat i' hi'
   rw [Nat.zero_add, Nat.zero_add, h5, h7] at h
   subst h
   obtain ⟨q1, q2⟩ := List.getElem?_eq_some_iff.1 h4
   obtain ⟨q3, q4⟩ := List.getElem?_eq_some_iff.1 h6
   exact (List.getElem_inj hnd).1 (q2.trans q4.symm))
  rw [Nat.zero_add, h3] at this
  exact this
end Go.Vl
/- Maps whose births are known: keys and values of whatever kind. -/
namespace Go.Vl
open Go Go.RowKit
set_option linter.unusedSectionVars false
section
variable {P : Program} {α β : Type} [DecidableEq α] {f : α → V} {c : α → List C} {h : β → V} {s : S} {T kt et : TypeId} {tT tk te : TI} {ks : List EK} {K : S → Prop} {KV : V → Prop} {i : Nat} {z : V}
def kmap (f : α → V) (h : β → V) (l : List (α × β)) : List V := .mk (List.range l.length) l.length :: ents f h l
def idxK (l : List (α × β)) (a : α) : Option Nat := (l.map (·.1)).findIdx? (fun b => decide (a = b))
def setK (l : List (α × β)) (a : α) (b : β) : List (α × β) := match idxK l a with
 | some j => l.set j (a, b)
 | none => l ++ [(a, b)]
def getK (l : List (α × β)) (a : α) : Option β := match idxK l a with
 | some j => (l[j]?).map (·.2)
 | none => none
theorem idxK_some {l : List (α × β)} {a : α} {j : Nat} (hj : idxK l a = some j) : ∃ b, l[j]? = some (a, b) := by
 have := findIdx_at hj
 rw [List.getElem?_map, Option.map_eq_some_iff] at this
 obtain ⟨⟨a', b⟩, h1, rfl⟩ := this
 exact ⟨b, h1⟩
theorem idxK_none {l : List (α × β)} {a : α} (hj : idxK l a = none) : a ∉ l.map (·.1) := fun hm => by
 have := findIdx_mem (l := l.map (·.1)) (a := a)
 unfold idxK at hj
 rw [hj] at this
 simp [hm] at this
theorem getK_mem {l : List (α × β)} {a : α} : (getK l a).isSome = decide (a ∈ l.map (·.1)) := by
 unfold getK
 cases hj : idxK l a with
 | none => have := idxK_none hj; simp only [Option.isSome_none]; exact (decide_eq_false this).symm
 | some j =>
  obtain ⟨b, hb⟩ := idxK_some hj
  have : a ∈ l.map (·.1) := List.mem_map.2 ⟨_, List.mem_of_getElem? hb, rfl⟩
  simp only [hb, Option.map_some, Option.isSome_some]; exact (decide_eq_true this).symm
theorem kmap_at (hT : ti P T = some tT) (hm : tT.kd = .map kt et) (hk : ti P kt = some tk) (hks : tk.eqs = some ks) (he : ti P et = some te) (hz : zeroOf te = some z) (ha : zaB P et = true) (hf : ∀ a, (f a).kcs tk.agg = some (c a))
  (hl : ∀ a, (c a).length = ks.length) (heq : ∀ a b, eqCs ks (c a) (c b) = some (decide (a = b))) {a : α} {l : List (α × β)} (hb : s.bx i = kmap f h l) (hi : i < s.nb)
  {KM : Nat → List Nat → Nat → List V → Option Nat → V → Prop} (hK : KM i (List.range l.length) l.length (ents f h l) (idxK l a) z) : vmapAt P T s (.mr i) (f a) KM := by
 refine vmapAt_of (ks := ks) (kc := c a) (kcs := (l.map (·.1)).map c) hT hm hk hks he (hf a) hz hb ?_ (findK_map hl heq a _ 0) hi (hl a) (by rw [heq]; simp) ha ?_
 ·rw [keysOf_ents (c := c) hf, List.map_map]; rfl
 ·have : (Option.map (0 + ·) ((l.map (·.1)).findIdx? (fun b => decide (a = b)))) = idxK l a := by
   unfold idxK
   cases (l.map (·.1)).findIdx? (fun b => decide (a = b)) <;> simp
  rw [this]; exact hK
theorem kmap_look (hT : ti P T = some tT) (hm : tT.kd = .map kt et) (hk : ti P kt = some tk) (hks : tk.eqs = some ks) (he : ti P et = some te) (hz : zeroOf te = some z) (ha : zaB P et = true) (hf : ∀ a, (f a).kcs tk.agg = some (c a))
  (hl : ∀ a, (c a).length = ks.length) (heq : ∀ a b, eqCs ks (c a) (c b) = some (decide (a = b))) {a : α} {l : List (α × β)} (hb : s.bx i = kmap f h l) (hi : i < s.nb)
  (hK : KV (.tup [(((getK l a).map h).getD z).dr, .c (.lit (.bool (getK l a).isSome))])) : vlookup P T s (.mr i) (f a) true KV := by
 unfold vlookup
 refine kmap_at hT hm hk hks he hz ha hf hl heq hb hi ?_
 unfold getK at hK
 cases hj : idxK l a with
 | none => simp only [hj, Option.map_none, Option.getD_none, Option.isSome_none] at hK; exact hK
 | some j =>
  obtain ⟨b, hjb⟩ := idxK_some hj
  simp only [hj, hjb, Option.map_some, Option.getD_some, Option.isSome_some] at hK
  have e := (ents_val (f := f) (h := h) l j (a, b) hjb).1
  simp only [e, if_true]
  exact hK
theorem kmap_look1 (hT : ti P T = some tT) (hm : tT.kd = .map kt et) (hk : ti P kt = some tk) (hks : tk.eqs = some ks) (he : ti P et = some te) (hz : zeroOf te = some z) (ha : zaB P et = true) (hf : ∀ a, (f a).kcs tk.agg = some (c a))
  (hl : ∀ a, (c a).length = ks.length) (heq : ∀ a b, eqCs ks (c a) (c b) = some (decide (a = b))) {a : α} {l : List (α × β)} (hb : s.bx i = kmap f h l) (hi : i < s.nb)
  (hK : KV (((getK l a).map fun b => (h b).fz).getD z)) : vlookup P T s (.mr i) (f a) false KV := by
 unfold vlookup
 refine kmap_at hT hm hk hks he hz ha hf hl heq hb hi ?_
 unfold getK at hK
 cases hj : idxK l a with
 | none => simp only [hj, Option.map_none, Option.getD_none] at hK; exact hK
 | some j =>
  obtain ⟨b, hjb⟩ := idxK_some hj
  simp only [hj, hjb, Option.map_some, Option.getD_some] at hK
  have e := (ents_val (f := f) (h := h) l j (a, b) hjb).1
  simp only [e, Bool.false_eq_true, if_false]
  exact hK
theorem kmap_set (hT : ti P T = some tT) (hm : tT.kd = .map kt et) (hk : ti P kt = some tk) (hks : tk.eqs = some ks) (he : ti P et = some te) (hz : zeroOf te = some z) (ha : zaB P et = true) (hf : ∀ a, (f a).kcs tk.agg = some (c a))
  (hl : ∀ a, (c a).length = ks.length) (heq : ∀ a b, eqCs ks (c a) (c b) = some (decide (a = b))) {a : α} {b : β} {x : V} (hx : x.fz = h b) (hfa : (f a).fz = f a) {l : List (α × β)} (hb : s.bx i = kmap f h l) (hi : i < s.nb)
  (hK : K { s with bx := up s.bx i (kmap f h (setK l a b)) }) : vmapSet P T s (.mr i) (f a) x K := by
 unfold vmapSet
 refine kmap_at hT hm hk hks he hz ha hf hl heq hb hi ?_
 unfold setK at hK
 cases hj : idxK l a with
 | none =>
  simp only [hj] at hK
  have e : List.range (l ++ [(a, b)]).length = List.range l.length ++ [l.length] := by rw [List.length_append, List.length_singleton, List.range_succ]
  unfold kmap at hK
  rw [e, ents_append, List.length_append, List.length_singleton] at hK
  simp only [hx, hfa]
  exact hK
 | some j =>
  obtain ⟨b', hjb⟩ := idxK_some hj
  simp only [hj] at hK
  unfold kmap at hK
  rw [List.length_set] at hK
  simp only [hx]
  rw [ents_set l j a b' b hjb]
  exact hK
theorem kmap_range {l : List (α × β)} (hT : ti P T = some tT) (hm : tT.kd = .map kt et) (hb : s.bx i = kmap f h l) (hi : i < s.nb) (hK : KV (.it i l.length l.length [])) : vrange P T s (.mr i) KV := by
 obtain ⟨kd, a1, a2, a3, a4, a5, a6⟩ := tT
 simp only at hm; subst hm
 unfold vrange
 simp only [hT, hb, kmap]
 exact ⟨hi, hK⟩
theorem kmap_nextV {l : List (α × β)} {seen : List Nat} (hb : s.bx i = kmap f h l) (hi : i < s.nb) {K : Option V → V → Prop}
  (h0 : (∀ b, b < l.length → b ∈ seen) → K none (.tup [.c (.lit (.bool false))])) (h1 : ∀ j (hj : j < l.length), j ∉ seen → K (some (.it i l.length l.length (seen ++ [j]))) (.tup [.c (.lit (.bool true)), (f l[j].1).dr, (h l[j].2).dr])) : vnext s (.it i l.length l.length seen) K := by
 unfold vnext
 simp only [hb, kmap]
 refine ⟨⟨hi, Nat.le_refl _, fun b h => List.mem_range.1 h⟩, fun h => h0 fun b hb => h b (List.mem_range.2 hb), fun j b hj hb => ?_⟩
 obtain ⟨hj1, hj2⟩ := List.getElem?_eq_some_iff.1 hj
 rw [List.getElem_range] at hj2
 subst hj2
 have hjl : j < l.length := by simpa using hj1
 have e := ents_val (f := f) (h := h) l j l[j] (List.getElem?_eq_getElem hjl)
 rw [e.1, e.2]
 exact h1 j hjl hb
theorem kmap_entry {l : List (α × β)} {seen : List Nat} {b : Nat} (hb : s.bx i = kmap f h l) (hi : i < s.nb) (hm : b < l.length) (hK : KV (.tup [(f l[b].1).dr, (h l[b].2).dr])) : ventry s (.it i l.length l.length (seen ++ [b])) KV := by
 unfold ventry
 simp only [hb, kmap, List.getLast?_append, List.getLast?_singleton, Option.some_or]
 have hf : (List.range l.length).findIdx? (· == b) = some b := by
  rw [List.findIdx?_eq_some_iff_getElem]
  refine ⟨by simpa using hm, by simp, fun k hk => by simp; omega⟩
 have e := ents_val (f := f) (h := h) l b l[b] (List.getElem?_eq_getElem hm)
 simp only [hf, e.1, e.2]
 exact ⟨⟨hi, trivial⟩, hK⟩
theorem ents_ren {ρ : Nat → Nat} (hf : ∀ a, (f a).ren ρ = f a) (hh : ∀ b, (h b).ren ρ = h b) : ∀ {l : List (α × β)}, (ents f h l).map (V.ren ρ) = ents f h l := by
 intro l
 induction l with
 | nil => rfl
 | cons p l ih => obtain ⟨a, b⟩ := p; simp only [ents, List.map_cons, ih, hf, hh]
theorem kmap_ren {ρ : Nat → Nat} (hf : ∀ a, (f a).ren ρ = f a) (hh : ∀ b, (h b).ren ρ = h b) {l : List (α × β)} : (kmap f h l).map (V.ren ρ) = kmap f h l := by
 simp only [kmap, List.map_cons, ents_ren hf hh]; rfl
theorem kmap_ltB {m : Nat} (hf : ∀ a, (f a).ltB m = true) (hh : ∀ b, (h b).ltB m = true) {l : List (α × β)} : (kmap f h l).all (fun x => x.ltB m) = true := by
 have : ∀ l : List (α × β), (ents f h l).all (fun x => x.ltB m) = true := fun l => by
  induction l with
  | nil => rfl
  | cons p l ih => obtain ⟨a, b⟩ := p; simp only [ents, List.all_cons, ih, hf, hh]; rfl
 simp only [kmap, List.all_cons, this]; rfl
end
theorem callB_low {P : Program} {G : Gl} {s : S} {f : V} {args all cargs : List V} {g : FuncId} {K : S → V → Prop} {r : V} {Y Y' : List (List V)} (hc : calleeV f args = some (g, all)) (hf : FnB P G g cargs Y r Y') (hall : all.map V.fz = cargs)
  (hlen : Y'.length = Y.length) (hlt : ltL Y.length Y') (hn : Y.length ≤ s.nb) (hb : BL 0 Y s.bx) (hr : ∀ ρ : Nat → Nat, (∀ i, i < Y.length → ρ i = i) → r.ren ρ = r)
  (hK : ∀ bx' : Nat → List V, (∀ j, Y.length ≤ j → bx' j = s.bx j) → BL 0 Y' bx' → K ⟨s.fr, bx', s.nb⟩ r) : vcallB P G s f args K := by
 unfold vcallB vcallE
 simp only [hc]
 have hρ : ∀ i, i < Y.length → rho (List.range Y.length) s.nb i = i := fun i hi => rho_pre hi
 have hget : ∀ i b, Y[i]? = some b → s.bx i = b := fun i b h => by
  have hi := (List.getElem?_eq_some_iff.1 h).1
  have := BL.get hb i hi
  rw [Nat.zero_add] at this
  rw [← this, List.getD_eq_getElem?_getD, h]; rfl
 refine ⟨List.range Y.length, cargs, Y, r, Y', hf, ?_, ⟨by simp, List.nodup_range⟩, ?_, ?_⟩
 ·rw [hall, map_same fun x hx => ren_same (hf.2.1.1 x hx) hρ]
 ·refine bxIn_same hρ _ 0 (by omega) hf.2.1.2.1 (bxIn_id _ _ _ _ fun i b h => ?_)
  have hi := (List.getElem?_eq_some_iff.1 h).1
  rw [Nat.zero_add]
  exact ⟨by omega, hget i b h⟩
 ·rw [setBx_same hρ Y' 0 _ (by omega) hlt, setBx_id, hr _ hρ, hlen, Nat.sub_self, Nat.add_zero]
  refine hK _ (fun j hj => ?_) (BL_self _ _ _ fun i b h => ?_)
  ·simp only [Nat.zero_le, true_and, Nat.zero_add]
   rw [if_neg (by omega)]
  ·have hi := (List.getElem?_eq_some_iff.1 h).1
   simp only [Nat.zero_le, true_and, Nat.zero_add, Nat.sub_zero]
   rw [if_pos (by omega), List.getD_eq_getElem?_getD, h]; rfl
theorem callB_same {P : Program} {G : Gl} {s : S} {f : V} {args all cargs : List V} {g : FuncId} {K : S → V → Prop} {r : V} {Y : List (List V)} (hc : calleeV f args = some (g, all)) (hf : FnB P G g cargs Y r Y) (hall : all.map V.fz = cargs)
  (hn : Y.length ≤ s.nb) (hb : BL 0 Y s.bx) (hr : ∀ ρ : Nat → Nat, (∀ i, i < Y.length → ρ i = i) → r.ren ρ = r) (hK : K s r) : vcallB P G s f args K := by
 refine callB_low hc hf hall rfl hf.2.1.2.1 hn hb hr fun bx' h1 h2 => ?_
 have : bx' = s.bx := funext fun j => by
  by_cases h : j < Y.length
  ·have a := BL.get h2 j h
   have b := BL.get hb j h
   rw [Nat.zero_add] at a b
   rw [← a, ← b]
  ·exact h1 j (by omega)
 subst this; exact hK
