/- Layer 15: strconv.Itoa and strings.Join, by the shelf's contracts. -/
import Derived.Test.YtkbkajabchhbeaaDoorVlUd
import Derived.Test.YtkbkajabchhbeaaDoorShelf
set_option linter.unusedSimpArgs false
set_option linter.unusedVariables false
namespace Go.Proofs.YtkbkajabchhbeaaDoor
open Go Go.Vl
set_option maxRecDepth 4000
def glT : Gl := fun g => if g = 0 then some (Lib.pow10Tab.map fun z => [C.lit (.int .u64 z)]).flatten else if g = 1000000000 then some [] else none
theorem gat_T : gat glT 0 = some (Lib.pow10Tab.map fun z => [C.lit (.int .u64 z)]).flatten := rfl
theorem glT_untold : ¬ GT glT := by unfold GT glT; simp
theorem pow_named : Tryd.prog.globalNamed "internal/strconv.uint64pow10" = some 0 := by kernel_rfl
theorem flat_one {l : List Int} : (l.map fun z => [C.lit (.int .u64 z)]).flatten = l.map fun z => C.lit (.int .u64 z) := by
 induction l with
 | nil => rfl
 | cons x l ih => simp [ih]
theorem tab_len : (Lib.pow10Tab.map fun z => C.lit (.int .u64 z)).length = 20 := by rw [List.length_map, Lib.pow10Tab_length]
theorem tab_of {I : Ft} {w : World} (h : GOK glT I w) : Lib.TabIs Tryd.prog w "internal/strconv.uint64pow10" .u64 Lib.pow10Tab := by
 obtain ⟨h1, _, h3⟩ := h 0 _ gat_T
 rw [flat_one] at h1 h3
 rw [tab_len] at h3
 obtain ⟨b, off, f, hp, hf, hr⟩ := h1.rp_inv
 have hp2 : (⟨0, 0, none⟩ : Addr) = ⟨b, off + 0, none⟩ := by injection hp with hp; exact Option.some.inj hp
 injection hp2 with hb ho _
 have ho : off = 0 := by omega
 subst hb; subst ho
 have hc : ∀ j, j < 20 → w.cell? ⟨0, j, none⟩ = (Lib.pow10Tab.map fun z => Value.int .u64 z)[j]? := fun j hj => by
  have hj2 : j < (Lib.pow10Tab.map fun z => C.lit (.int .u64 z)).length := by rw [tab_len]; exact hj
  have hj3 : j < Lib.pow10Tab.length := by rw [Lib.pow10Tab_length]; exact hj
  have e := (hf j hj2).1
  rw [Nat.zero_add] at e
  have hg : (Lib.pow10Tab.map fun z => C.lit (.int .u64 z))[j]? = some (C.lit (.int .u64 Lib.pow10Tab[j])) := by
   rw [List.getElem?_map, List.getElem?_eq_getElem hj3]; rfl
  obtain ⟨e2, _⟩ := (hr j _ hg).lit_inv
  rw [e, e2, List.getElem?_map, List.getElem?_eq_getElem hj3]; rfl
 unfold Lib.TabIs World.var?
 rw [pow_named, Option.bind_some]
 have h19 := hc 0 (by decide)
 cases hh : w.heap[0]? with
 | none => simp [World.cell?, hh, Lib.pow10Tab] at h19
 | some o =>
  cases o with
  | cells cs e fz =>
   have hc' : ∀ j : Nat, w.cell? ⟨0, j, none⟩ = cs[j]? := fun j => by simp [World.cell?, hh]
   simp only
   congr 1
   apply Array.ext_getElem?
   intro j
   rw [← hc']
   by_cases hj : j < 20
   ·rw [hc j hj]; simp
   ·have hsz : cs.size ≤ 20 := by
     have := (hc' 20).symm.trans h3
     exact Array.getElem?_eq_none_iff.1 this
    rw [hc', Array.getElem?_eq_none (by omega)]
    symm
    rw [Array.getElem?_eq_none (by simp [Lib.pow10Tab_length]; omega)]
  | _ => simp [World.cell?, hh, Lib.pow10Tab] at h19
theorem decDigits_eq : ∀ n : Nat, n < 10000000000000000000 → Lib.decDigits n = dec n := by
 intro n
 induction n using Nat.strongRecOn with
 | _ n ih =>
  intro h
  rw [Lib.decDigits, dec_rec h]
  by_cases hn : n < 10
  ·rw [dif_pos hn, if_pos hn]
  ·rw [dif_neg hn, if_neg hn, ih _ (by omega) (by omega)]
theorem Itoa_ok (N : Nat) (hN : N ≤ 9223372036854775807) : FnOK Tryd.prog glT 43 [i64 N] (sv (dec N)) := by
 refine ⟨⟨_, Tryd.func43, rfl, _, rfl⟩, fun I w vs hI hg hsz ha => ?_⟩
 have ha0 := ha 0 _ rfl
 have hvs : vs = #[vs.getD 0 undef] := by
  apply Array.ext
  ·simpa using hsz
  ·intro i h1 h2
   have : i = 0 := by simpa using h2
   subst this; simp [Array.getD, h1]
 rw [hvs]
 clear hvs
 generalize vs.getD 0 undef = v0 at ha0 ⊢
 cases ha0 with
 | c _ _ h0 =>
 obtain ⟨rfl, _⟩ := h0.lit_inv
 refine (Tryd.strconv_Itoa N (by omega) (by omega) w (tab_of hg)).mono ?_
 rintro e w' ⟨rfl, k, os, rfl⟩
 have e1 : Lib.itoa N = dec N := by
  unfold Lib.itoa
  rw [if_neg (by omega), Int.toNat_natCast, decDigits_eq N (by omega)]
 rw [e1]
 refine ⟨_, I, rfl, ?_, fun _ _ h => h, fun _ _ h => .inl h, none, .ofLit rfl, fun b hb => by cases hb⟩
 exact ⟨rfl, rfl, rfl, by simp [Go.Sort.grow, World.drewN], fun q hq _ => by simp [Go.Sort.grow, World.drewN, Array.getElem?_append_left hq], fun h => absurd h glT_untold⟩
def stC (l : List By) : C := .sl (l.map fun b => [cS b])
theorem join_eq : ∀ xs : List B, Lib.join xs [44] = joinB xs
 | [] => rfl
 | [x] => by rw [Lib.join_one]; rfl
 | x :: y :: r => by
  have := join_eq (y :: r)
  rw [Lib.join_cons] at this ⊢
  have e : Lib.joinTail [44] (y :: r) = 44 :: (y ++ Lib.joinTail [44] r) := by simp [Lib.joinTail]
  rw [e, this]; rfl
theorem Join_ok (parts : List By) (hp : parts.length ≤ 1000000000) (hl : (joinB parts).length ≤ 140737488355328) : FnOK Tryd.prog glT 44 [.c (stC parts), sv [44]] (sv (joinB parts)) := by
 refine ⟨⟨_, Tryd.func44, rfl, _, rfl⟩, fun I w vs hI hg hsz ha => ?_⟩
 have ha0 := ha 0 _ rfl
 have ha1 := ha 1 _ rfl
 have hvs : vs = #[vs.getD 0 undef, vs.getD 1 undef] := by
  apply Array.ext
  ·simpa using hsz
  ·intro i h1 h2
   have : i < 2 := by simpa using h2
   match i with
   | 0 => simp [Array.getD, h1]
   | 1 => simp [Array.getD, h1]
 rw [hvs]
 clear hvs
 generalize vs.getD 0 undef = v0 at ha0 ⊢
 generalize vs.getD 1 undef = v1 at ha1 ⊢
 clear ha hsz
 cases ha0 with
 | c _ _ h0 =>
 cases ha1 with
 | c _ _ h1 =>
 obtain ⟨rfl, _⟩ := h1.lit_inv
 rcases h0.sl_inv with ⟨⟨a, cap, rfl, _⟩, he⟩ | ⟨b, off, cap, sz, f, rfl, hc, hs, hcell, hcr⟩
 ·have hpn : parts = [] := by
   cases parts with
   | nil => rfl
   | cons x r => cases he
  subst hpn
  refine (Tryd.strings_Join_none a cap (bs8 [44]) w).mono ?_
  rintro e w' ⟨rfl, rfl⟩
  exact ⟨_, I, rfl, ⟨rfl, rfl, rfl, Nat.le_refl _, fun _ _ _ => rfl, fun _ => Nat.le_refl _⟩, fun _ _ h => h, fun _ _ h => .inl h, none, .ofLit rfl, fun b hb => by cases hb⟩
 ·have hlen : (parts.map fun b => [cS b]).length = (parts.map bs8).length := by rw [List.length_map, List.length_map]
  have hone : ∀ (j : Nat) (x : ByteArray), (parts.map bs8)[j]? = some x → w.cell? ⟨b, off + j, none⟩ = some (.string x) ∧ I b (off + j) := fun j x hx => by
   rw [List.getElem?_map] at hx
   obtain ⟨y, hy, rfl⟩ := Option.map_eq_some_iff.1 hx
   have hj : j < (parts.map fun b => [cS b]).length := by rw [List.length_map]; exact (List.getElem?_eq_some_iff.1 hy).1
   have hg : (parts.map fun b => [cS b])[j]? = some [cS y] := by rw [List.getElem?_map, hy]; rfl
   have hsz1 : sz = 1 := (hs _ (List.mem_of_getElem? hg)).symm
   subst hsz1
   obtain ⟨h2, h3⟩ := hcell j 0 hj (by decide)
   obtain ⟨h4, _⟩ := (hcr j 0 _ _ hg rfl).lit_inv
   rw [h4] at h2
   simp only [Nat.mul_one, Nat.add_zero] at h2 h3
   exact ⟨h2, h3⟩
  rw [hlen] at hc ⊢
  cases hpp : parts with
  | nil =>
   subst hpp
   refine (Tryd.strings_Join_none (some ⟨b, off, none⟩) cap (bs8 [44]) w).mono ?_
   rintro e w' ⟨rfl, rfl⟩
   exact ⟨_, I, rfl, ⟨rfl, rfl, rfl, Nat.le_refl _, fun _ _ _ => rfl, fun _ => Nat.le_refl _⟩, fun _ _ h => h, fun _ _ h => .inl h, none, .ofLit rfl, fun b hb => by cases hb⟩
  | cons p0 r0 =>
  rw [← hpp]
  have hb : b < w.heap.size := hI b _ (hone 0 _ (by rw [hpp]; rfl)).2
  have hm : (parts.map bs8).map (fun x => x.data.toList) = parts := by
   rw [List.map_map]; conv => rhs; rw [← List.map_id parts]
   exact List.map_congr_left fun x _ => by simp [bs8]
  have hj : Lib.join ((parts.map bs8).map (fun x => x.data.toList)) (bs8 [44]).data.toList = joinB parts := by rw [hm]; exact join_eq parts
  refine (Tryd.strings_Join b off cap (parts.map bs8) (bs8 [44]) w (fun j x hx => (hone j x hx).1) hb (by rw [List.length_map]; omega) hc (by rw [hj]; exact hl)).mono ?_
  rintro e w' ⟨rfl, hbel⟩
  rw [hj]
  exact ⟨_, I, rfl, ⟨hbel.os, hbel.tape, hbel.output, hbel.size, fun k hk _ => hbel.block k hk, fun h => absurd h glT_untold⟩, fun _ _ h => h, fun _ _ h => .inl h, none, .ofLit rfl, fun b hb => by cases hb⟩
