/- Layer 13: another order of rules and quorums changes neither validity nor the normal form. -/
import Derived.Test.YtbhfbbfifmnniaaDoorVlFirst
import Derived.Test.YtbhfbbfifmnniaaDoorVlNorm
set_option linter.unusedSimpArgs false
set_option linter.unusedVariables false
namespace Go.Proofs.YtbhfbbfifmnniaaDoor
open Go Go.Vl

theorem stab_perm {α : Type} {cm : α → α → Int} (hc : Cmp cm) {l l' : List α} (h : l'.Perm l) (he : ∀ x ∈ l, ∀ y ∈ l, cm x y = 0 → x = y) : Stab cm l' l := fun z => by
  have hp := h.filter (eqb cm z)
  cases hf : l.filter (eqb cm z) with
  | nil => rw [hf] at hp; exact hp.eq_nil
  | cons v t =>
    have hv : v ∈ l.filter (eqb cm z) := by rw [hf]; exact List.mem_cons_self ..
    have all : ∀ u ∈ l.filter (eqb cm z), u = v := fun u hu => by
      obtain ⟨u1, u2⟩ := List.mem_filter.1 hu
      obtain ⟨v1, v2⟩ := List.mem_filter.1 hv
      refine he u u1 v v1 ?_
      have a1 := eqb_lt hc u2 v2
      have a2 := eqb_lt hc v2 u2
      have := hc.anti u v
      omega
    have e1 : l.filter (eqb cm z) = List.replicate (l.filter (eqb cm z)).length v := List.eq_replicate_iff.2 ⟨rfl, all⟩
    have e2 : l'.filter (eqb cm z) = List.replicate (l.filter (eqb cm z)).length v := List.eq_replicate_iff.2 ⟨hp.length_eq, fun u hu => all u (hp.mem_iff.1 hu)⟩
    rw [e2, ← e1, hf]
theorem ssort_perm {α : Type} {cm : α → α → Int} (hc : Cmp cm) {l l' : List α} (h : l'.Perm l) (he : ∀ x ∈ l, ∀ y ∈ l, cm x y = 0 → x = y) : ssort cm l' = ssort cm l :=
  ssort_stab_eq hc (stab_perm hc h he)
theorem cmRu_eq {x y : Ru} (h : cmRu x y = 0) : x = y := by
  have h1 : ¬ cmRu x y < 0 := by omega
  have h2 : ¬ 0 < cmRu x y := by omega
  rw [cmRu_lt] at h1; rw [cmRu_gt] at h2
  cases x; cases y
  simp only [Ru.mk.injEq] at *
  omega
theorem cmQu_eq {x y : Qu} (h : cmQu x y = 0) : x.cmd = y.cmd := by
  unfold cmQu at h; rcases cmpI_cases x.cmd y.cmd with k | k | k <;> omega

theorem nodup_take {α β : Type} [DecidableEq β] (f : α → β) (l : List α) : (∀ k (h : k < l.length), (l.take k).any (fun o => decide (f o = f l[k])) = false) ↔ (l.map f).Nodup := by
  rw [List.nodup_iff_pairwise_ne, List.pairwise_map, List.pairwise_iff_getElem]
  constructor
  · intro h i j hi hj hij e
    have := List.any_eq_false.1 (h j hj) l[i] (List.mem_take_iff_getElem.2 ⟨i, by omega, rfl⟩)
    exact this (by simpa using e)
  · intro h k hk
    refine List.any_eq_false.2 fun x hx => ?_
    obtain ⟨i, hi, rfl⟩ := List.mem_take_iff_getElem.1 hx
    have := h i k (by omega) hk (by omega)
    simpa using this

def okR (nt : Int) (r : Ru) : Bool := !([⟨r.kind, 1, 5⟩, ⟨r.a, 0, nt - 1⟩, ⟨r.b, 0, nt - 1⟩].any outB)
def okQ (q : Qu) : Bool := !([⟨q.cmd, 1, 27⟩, ⟨q.count, 1, 16⟩, ⟨q.delay, 0, 1099511627776⟩, ⟨q.valid, q.delay, 1099511627776⟩, ⟨q.uses, 1, 1048576⟩].any outB) && !([23, 24, 25].any fun e : Int => decide (q.cmd = e))
theorem ruErr_zero {l : List Ru} {k : Nat} {nt : Int} {r : Ru} : ruErr l k nt r = 0 ↔ k < 256 ∧ okR nt r = true ∧ (l.take k).any (fun o => decide (r = o)) = false := by
  unfold ruErr okR
  by_cases h1 : 256 ≤ k
  · rw [if_pos (by simp; omega)]; simp; omega
  · rw [if_neg (by simp; omega)]
    cases h2 : [(⟨r.kind, 1, 5⟩ : Wi), ⟨r.a, 0, nt - 1⟩, ⟨r.b, 0, nt - 1⟩].any outB with
    | true => simp
    | false =>
      cases h3 : (l.take k).any (fun o => decide (r = o)) with
      | true => simp
      | false => simp; omega
theorem quErr_zero {l : List Qu} {k : Nat} {q : Qu} : quErr l k q = 0 ↔ okQ q = true ∧ (l.take k).any (fun o => decide (o.cmd = q.cmd)) = false := by
  unfold quErr okQ
  cases h2 : [(⟨q.cmd, 1, 27⟩ : Wi), ⟨q.count, 1, 16⟩, ⟨q.delay, 0, 1099511627776⟩, ⟨q.valid, q.delay, 1099511627776⟩, ⟨q.uses, 1, 1048576⟩].any outB with
  | true => simp
  | false =>
    cases h4 : [23, 24, 25].any (fun e : Int => decide (q.cmd = e)) with
    | true => simp
    | false =>
      cases h3 : (l.take k).any (fun o => decide (o.cmd = q.cmd)) with
      | true => simp
      | false => simp
theorem dec_comm (r : Ru) : (fun o : Ru => decide (r = o)) = fun o => decide (id o = id r) := by
  funext o; exact decide_eq_decide.2 eq_comm
theorem rules_zero {l : List Ru} {nt : Int} : (∀ k, k < l.length → ruE l k nt = 0) ↔ l.length ≤ 256 ∧ (∀ r ∈ l, okR nt r = true) ∧ l.Nodup := by
  have hnd := nodup_take (id : Ru → Ru) l
  rw [List.map_id] at hnd
  rw [← hnd]
  constructor
  · intro h
    have h' : ∀ k (hk : k < l.length), k < 256 ∧ okR nt l[k] = true ∧ (l.take k).any (fun o => decide (l[k] = o)) = false := fun k hk => by
      have := h k hk; rw [ruE_at hk] at this; exact ruErr_zero.1 this
    refine ⟨?_, fun r hr => ?_, fun k hk => ?_⟩
    · by_cases hl : l.length = 0
      · omega
      · have := (h' (l.length - 1) (by omega)).1; omega
    · obtain ⟨k, hk, rfl⟩ := List.mem_iff_getElem.1 hr
      exact (h' k hk).2.1
    · have := (h' k hk).2.2
      rw [← dec_comm]; exact this
  · rintro ⟨h1, h2, h3⟩ k hk
    rw [ruE_at hk, ruErr_zero]
    refine ⟨by omega, h2 _ (List.getElem_mem hk), ?_⟩
    rw [dec_comm]; exact h3 k hk
theorem quorums_zero {l : List Qu} : (∀ k, k < l.length → quE l k = 0) ↔ (∀ q ∈ l, okQ q = true) ∧ (l.map Qu.cmd).Nodup := by
  rw [← nodup_take Qu.cmd l]
  constructor
  · intro h
    have h' : ∀ k (hk : k < l.length), okQ l[k] = true ∧ (l.take k).any (fun o => decide (o.cmd = l[k].cmd)) = false := fun k hk => by
      have := h k hk; rw [quE_at hk] at this; exact quErr_zero.1 this
    refine ⟨fun r hr => ?_, fun k hk => (h' k hk).2⟩
    obtain ⟨k, hk, rfl⟩ := List.mem_iff_getElem.1 hr
    exact (h' k hk).1
  · rintro ⟨h2, h3⟩ k hk
    rw [quE_at hk, quErr_zero]
    exact ⟨h2 _ (List.getElem_mem hk), h3 k hk⟩

theorem valid_parts (p : Pol) : validB p = true ↔ nameB p.name = true ∧ (∀ k, k < p.types.length → tyE p.types k = 0) ∧ (∀ k, k < p.rules.length → ruE p.rules k p.types.length = 0) ∧ (∀ k, k < p.quorums.length → quE p.quorums k = 0) := by
  rw [valid_iff]
  refine and_congr_right fun _ => ⟨fun h => ⟨fun k hk => ?_, fun k hk => ?_, fun k hk => ?_⟩, fun ⟨h1, h2, h3⟩ j hj => ?_⟩
  · have := h k (by unfold items; omega)
    unfold itE at this; rwa [if_pos hk] at this
  · have := h (p.types.length + k) (by unfold items; omega)
    unfold itE at this; rwa [if_neg (by omega), if_pos (by omega), Nat.add_sub_cancel_left] at this
  · have := h (p.types.length + p.rules.length + k) (by unfold items; omega)
    have e : p.types.length + p.rules.length + k - p.types.length - p.rules.length = k := by omega
    unfold itE at this; rwa [if_neg (by omega), if_neg (by omega), e] at this
  · unfold itE
    split
    · exact h1 j (by assumption)
    · split
      · exact h2 _ (by omega)
      · exact h3 _ (by unfold items at hj; omega)

/-- A policy with its rules and quorums in another order. -/
theorem valid_perm {p : Pol} {R : List Ru} {Q : List Qu} (hR : R.Perm p.rules) (hQ : Q.Perm p.quorums) (h : validB p = true) : validB ⟨p.name, p.types, R, Q⟩ = true := by
  rw [valid_parts] at *
  obtain ⟨h1, h2, h3, h4⟩ := h
  obtain ⟨a1, a2, a3⟩ := rules_zero.1 h3
  obtain ⟨b1, b2⟩ := quorums_zero.1 h4
  exact ⟨h1, h2, rules_zero.2 ⟨by rw [hR.length_eq]; exact a1, fun r hr => a2 r (hR.mem_iff.1 hr), hR.nodup_iff.2 a3⟩,
    quorums_zero.2 ⟨fun q hq => b1 q (hQ.mem_iff.1 hq), (hQ.map _).nodup_iff.2 b2⟩⟩
theorem nodup_inj {α β : Type} {f : α → β} {l : List α} (h : (l.map f).Nodup) {x y : α} (hx : x ∈ l) (hy : y ∈ l) (e : f x = f y) : x = y := by
  obtain ⟨i, hi, rfl⟩ := List.mem_iff_getElem.1 hx
  obtain ⟨j, hj, rfl⟩ := List.mem_iff_getElem.1 hy
  have hp := List.pairwise_iff_getElem.1 (List.pairwise_map.1 (List.nodup_iff_pairwise_ne.1 h))
  rcases Nat.lt_trichotomy i j with q | q | q
  · exact absurd e (hp i j hi hj q)
  · subst q; rfl
  · exact absurd e.symm (hp j i hj hi q)
theorem norm_perm {p : Pol} {R : List Ru} {Q : List Qu} (hR : R.Perm p.rules) (hQ : Q.Perm p.quorums) (h : validB p = true) : normP ⟨p.name, p.types, R, Q⟩ = normP p := by
  rw [valid_parts] at h
  have b2 := (quorums_zero.1 h.2.2.2).2
  unfold normP
  rw [ssort_perm cmRu_ok hR (fun x _ y _ e => cmRu_eq e), ssort_perm cmQu_ok hQ (fun x hx y hy e => nodup_inj b2 hx hy (cmQu_eq e))]
end Go.Proofs.YtbhfbbfifmnniaaDoor
