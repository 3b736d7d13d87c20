/- Values without memory: from what a law's arguments read as to values, and from a contract to the law's row. -/
import Derived.Test.YtkbkajabchhbeaaDoorVlRunB
import Derived.Test.YtkbkajabchhbeaaDoorVlWord
import Derived.ProofKit
import Derived.LaidMore
import Derived.Stop.Joined
import Derived.Deep.Slices
set_option linter.unusedSimpArgs false
set_option linter.unusedVariables false
namespace Go.Vl
open Go Go.RowKit Go.ChangeShapes
section
variable {H : Type} {enc : TypeId × Value → H} {P : Program} {w : World} {base : Nat} {spare : Nat → Bool}
def contig (P : Program) : List (Nat × TypeId) → Nat → Nat → Bool
 | [], off, tot => decide (off = tot)
 | (o, t) :: r, off, tot => decide (o = off) && contig P r (off + P.cellsOf t) tot
def arrParts (P : Program) (m : Nat) (e : TypeId) : List (Nat × TypeId) := (List.range m).map fun i => (i * P.cellsOf e, e)
def plainS (P : Program) (L : List TypeId) : Bool := L.all fun t => match P.underlying t with
 | some .bool | some (.int _) | some .string => true
 | some (.slice e) => L.contains e && decide (P.cellsOf e ≠ 0)
 | some (.struct fs) => fs.toList.all (fun f => L.contains f.type) && contig P (fs.toList.map fun f => (f.offset, f.type)) 0 (P.cellsOf t)
 | some (.array m e) => L.contains e && contig P (arrParts P m e) 0 (P.cellsOf t)
 | _ => false
def Shp (P : Program) : Nat → TypeId → List C → Prop
 | 0, _, _ => False
 | n + 1, t, xs => match P.underlying t with
  | some .bool => ∃ b, xs = [.lit (.bool b)]
  | some (.int k) => ∃ m, xs = [.lit (.int k m)] ∧ (Lit.int k m).wf = true
  | some .string => ∃ s, xs = [.lit (.string s)] ∧ s.size ≤ maxLen
  | some (.slice e) => ∃ es, xs = [.sl es] ∧ es.length ≤ maxLen ∧ ∀ x ∈ es, x.length = P.cellsOf e ∧ Shp P n e x
  | some (.struct fs) => xs.length = P.cellsOf t ∧ ∀ f ∈ fs.toList, Shp P n f.type ((xs.drop f.offset).take (P.cellsOf f.type))
  | some (.array m e) => xs.length = P.cellsOf t ∧ ∀ i, i < m → Shp P n e ((xs.drop (i * P.cellsOf e)).take (P.cellsOf e))
  | _ => False
def allI (w : World) : Ft := fun b _ => b < w.heap.size
def CsR (w : World) (cs : List Value) (xs : List C) : Prop := xs.length = cs.length ∧ ∀ (j : Nat) (v : Value) (x : C), cs[j]? = some v → xs[j]? = some x → CR (allI w) w v x
theorem CsR.one {v : Value} {x : C} (h : CR (allI w) w v x) : CsR w [v] [x] := ⟨rfl, fun j u y hu hy => by
 cases j with
 | zero => simp at hu hy; subst hu; subst hy; exact h
 | succ j => simp at hu⟩
theorem CsR.append {a b : List Value} {x y : List C} (h : CsR w a x) (k : CsR w b y) : CsR w (a ++ b) (x ++ y) := by
 refine ⟨by simp [h.1, k.1], fun j v c hv hc => ?_⟩
 by_cases hj : j < a.length
 ·rw [List.getElem?_append_left hj] at hv
  rw [List.getElem?_append_left (by rw [h.1]; exact hj)] at hc
  exact h.2 j v c hv hc
 ·rw [List.getElem?_append_right (by omega)] at hv
  rw [List.getElem?_append_right (by rw [h.1]; omega), h.1] at hc
  exact k.2 _ v c hv hc
theorem contig_le : ∀ {ps : List (Nat × TypeId)} {off tot : Nat}, contig P ps off tot = true → off ≤ tot ∧ ∀ p ∈ ps, off ≤ p.1 ∧ p.1 + P.cellsOf p.2 ≤ tot
 | [], off, tot, h => by simp only [contig, decide_eq_true_eq] at h; exact ⟨by omega, by simp⟩
 | (o, t) :: r, off, tot, h => by
  simp only [contig, Bool.and_eq_true, decide_eq_true_eq] at h
  obtain ⟨h1, h2⟩ := contig_le h.2
  refine ⟨by omega, fun p hp => ?_⟩
  rcases List.mem_cons.1 hp with rfl | hp
  ·exact ⟨by omega, by simp only; omega⟩
  ·have := h2 p hp; exact ⟨by omega, this.2⟩
theorem parts_abs {n : Nat} : ∀ (ps : List (Nat × TypeId)) (pc : List (List C)) (off : Nat) (cs : List Value), contig P ps off cs.length = true → pc.length = ps.length →
  (∀ (i : Nat) (p : Nat × TypeId) (x : List C), ps[i]? = some p → pc[i]? = some x → CsR w ((cs.drop p.1).take (P.cellsOf p.2)) x ∧ Shp P n p.2 x) →
  CsR w (cs.drop off) pc.flatten ∧ ∀ p ∈ ps, Shp P n p.2 ((pc.flatten.drop (p.1 - off)).take (P.cellsOf p.2))
 | [], [], off, cs, hc, _, _ => by
  simp only [contig, decide_eq_true_eq] at hc
  exact ⟨⟨by simp [hc], fun j v x hv hx => by simp at hx⟩, by simp⟩
 | (o, t) :: r, xf :: pc, off, cs, hc, hl', h => by
  have hc' := hc
  simp only [contig, Bool.and_eq_true, decide_eq_true_eq] at hc
  obtain ⟨rfl, hc⟩ := hc
  obtain ⟨hl, hall⟩ := contig_le hc
  obtain ⟨h1, h2⟩ := parts_abs r pc _ cs hc (by simpa using hl') (fun i p x hp hx => h (i + 1) p x (by simpa using hp) (by simpa using hx))
  obtain ⟨h3, h4⟩ := h 0 (o, t) xf rfl rfl
  simp only at h3 h4
  have hlen : xf.length = P.cellsOf t := by rw [h3.1]; simp; omega
  simp only [List.flatten_cons]
  refine ⟨?_, fun p hp => ?_⟩
  ·have : cs.drop o = (cs.drop o).take (P.cellsOf t) ++ cs.drop (o + P.cellsOf t) := by
    rw [← List.drop_drop, List.take_append_drop]
   rw [this]
   exact h3.append h1
  ·rcases List.mem_cons.1 hp with rfl | hp
   ·simp only [Nat.sub_self, List.drop_zero]
    rw [← hlen, List.take_left]; exact h4
   ·have h5 := hall p hp
    have h6 := h2 p hp
    have e : (xf ++ pc.flatten).drop (p.1 - o) = pc.flatten.drop (p.1 - (o + P.cellsOf t)) := by
     rw [List.drop_append, List.drop_eq_nil_of_le (by omega), List.nil_append, hlen]
     congr 1; omega
    rw [e]; exact h6
 | [], _ :: _, _, _, _, h, _ => by simp at h
 | _ :: _, [], _, _, _, h, _ => by simp at h
mutual
def datC {H : Type} : DataW H → Option (List C)
 | .lit (.bool b) => some [.lit (.bool b)]
 | .lit (.int k n) => some [.lit (.int k n)]
 | .lit (.string s) => some [.lit (.string ⟨s.toArray⟩)]
 | .nil => some [.sl []]
 | .slice es _ => match datCs es with
  | some l => some [.sl l]
  | none => none
 | .agg ds => match datCs ds with
  | some l => some l.flatten
  | none => none
 | _ => none
def datCs {H : Type} : List (DataW H) → Option (List (List C))
 | [] => some []
 | d :: r => match datC d, datCs r with
  | some a, some b => some (a :: b)
  | _, _ => none
end
theorem datCs_of {H : Type} : ∀ {ds : List (DataW H)} {es : List (List C)}, es.length = ds.length → (∀ (i : Nat) (d : DataW H) (x : List C), ds[i]? = some d → es[i]? = some x → datC d = some x) → datCs ds = some es
 | [], [], _, _ => by unfold datCs; rfl
 | d :: ds, e :: es, hl, h => by
  have h1 := h 0 d e rfl rfl
  have h2 := datCs_of (ds := ds) (es := es) (by simpa using hl) fun i d x hd hx => h (i + 1) d x (by simpa using hd) (by simpa using hx)
  unfold datCs
  rw [h1, h2]
 | [], _ :: _, hl, _ => by simp at hl
 | _ :: _, [], hl, _ => by simp at hl
theorem cell_spot {a : Addr} {v : Value} (h : w.cell? a = some v) : a.spot = none ∧ a.block < w.heap.size := by
 unfold World.cell? at h
 split at h
 ·rename_i c t f hh
  refine ⟨?_, (Array.getElem?_eq_some_iff.1 hh).1⟩
  split at h
  ·cases h
  ·rename_i hs; simpa using hs
 ·cases h
theorem listOf {α : Type} {R : Nat → α → Prop} : ∀ (n : Nat), (∀ i, i < n → ∃ y, R i y) → ∃ l : List α, l.length = n ∧ ∀ i y, l[i]? = some y → R i y
 | 0, _ => ⟨[], rfl, by simp⟩
 | n + 1, h => by
  obtain ⟨l, h1, h2⟩ := listOf n fun i hi => h i (by omega)
  obtain ⟨y, hy⟩ := h n (by omega)
  refine ⟨l ++ [y], by simp [h1], fun i z hz => ?_⟩
  by_cases hi : i < l.length
  ·rw [List.getElem?_append_left hi] at hz; exact h2 i z hz
  ·rw [List.getElem?_append_right (by omega)] at hz
   have : i - l.length = 0 := by
    have := (List.getElem?_eq_some_iff.1 hz).1
    simp at this; omega
   rw [this] at hz
   simp at hz
   have e : i = n := by omega
   subst hz; rw [e]; exact hy
theorem abs_of_trod {L : List TypeId} (hL : plainS P L = true) {held : Bool} : ∀ (n : Nat) (t : TypeId) (cs : List Value) (x : DataW H × List MemPlace), t ∈ L → DataW.trod enc P w base spare held n t cs = some x →
  ∃ xs, CsR w cs xs ∧ Shp P n t xs ∧ datC x.1 = some xs := by
 intro n
 induction n with
 | zero => intro t cs x _ h; cases h
 | succ n ih =>
  intro t cs x ht h
  have hp := List.all_eq_true.1 hL t ht
  unfold DataW.trod at h
  unfold Shp
  cases hu : P.underlying t with
  | none => rw [hu] at hp; cases hp
  | some d =>
   rw [hu] at hp h
   cases d <;> simp only at hp h <;> try (cases hp; done)
   case bool =>
    split at h <;> first | (cases h; done) | skip
    all_goals (rename_i hd; simp only [Option.some.injEq, reduceCtorEq] at hd)
    simp only [Option.some.injEq] at h; subst h
    exact ⟨_, .one (.lit _ rfl), ⟨_, rfl⟩, by simp [datC]⟩
   case int k =>
    split at h <;> first | (cases h; done) | skip
    all_goals (rename_i hd; simp only [Option.some.injEq, reduceCtorEq, TypeDesc.int.injEq] at hd)
    subst hd
    split at h
    ·rename_i hk
     obtain ⟨rfl, hw⟩ := hk
     simp only [Option.some.injEq] at h; subst h
     exact ⟨_, .one (.lit _ rfl), ⟨_, rfl, hw⟩, by simp [datC]⟩
    ·cases h
   case string =>
    split at h <;> first | (cases h; done) | skip
    all_goals (rename_i hd; simp only [Option.some.injEq, reduceCtorEq] at hd)
    split at h
    ·rename_i hs
     simp only [Option.some.injEq] at h; subst h
     exact ⟨_, .one (.lit _ rfl), ⟨_, rfl, hs⟩, by simp [datC]⟩
    ·cases h
   case slice e =>
    simp only [Bool.and_eq_true, List.contains_eq_mem, decide_eq_true_eq] at hp
    split at h <;> first | (cases h; done) | skip
    all_goals (rename_i hd; simp only [Option.some.injEq, reduceCtorEq, TypeDesc.slice.injEq] at hd)
    ·simp only [Option.some.injEq] at h; subst h
     exact ⟨_, .one (.nil none 0 (fun _ => rfl)), ⟨_, rfl, by simp, by simp⟩, by simp [datC]⟩
    ·subst hd
     rename_i a len cap
     split at h
     ·rename_i hb
      obtain ⟨hb1, hb2, hb3⟩ := hb
      simp only [Option.bind_eq_some_iff] at h
      obtain ⟨elems, hel, hx⟩ := h
      have hxe : ∃ rest, x.1 = .slice (elems.map (·.1)) rest := by
       simp only [Option.map_eq_some_iff] at hx
       obtain ⟨rest, _, rfl⟩ := hx
       exact ⟨_, rfl⟩
      obtain ⟨rest, hxe⟩ := hxe
      rw [hxe]
      have hell : elems.length = len := by have := List.mapM_eq_some_length hel; simpa using this
      by_cases h0 : len = 0
      ·subst h0
       have : elems = [] := List.eq_nil_of_length_eq_zero hell
       subst this
       exact ⟨[.sl []], .one (.nil (some a) cap (fun h => by cases h)), ⟨[], rfl, by simp, by simp⟩, by simp [datC, datCs]⟩
      have key : ∀ i, i < len → ∃ xs : List C, ∃ cs', w.cells? base (a.add (i * P.cellsOf e)) (P.cellsOf e) = some cs' ∧ CsR w cs' xs ∧ Shp P n e xs ∧ ∀ y, elems[i]? = some y → datC y.1 = some xs := fun i hi => by
       obtain ⟨i', hi', hy⟩ := List.mapM_eq_some_get hel i _ (List.getElem?_eq_getElem (show i < elems.length by omega))
       rw [List.getElem?_range hi, Option.some.injEq] at hi'
       subst hi'
       generalize hye : elems[i] = y at hy
       simp only [Option.bind_eq_some_iff] at hy
       obtain ⟨cs', h1, h2⟩ := hy
       obtain ⟨xs, h3, h4, h5⟩ := ih e cs' y hp.1 h2
       refine ⟨xs, cs', h1, h3, h4, fun y' hy' => ?_⟩
       rw [List.getElem?_eq_getElem (show i < elems.length by omega), hye, Option.some.injEq] at hy'
       subst hy'; exact h5
      obtain ⟨es, hes, hR⟩ := listOf len key
      have hsz : 0 < P.cellsOf e := Nat.pos_of_ne_zero hp.2
      have cellAt : ∀ i j, i < len → j < P.cellsOf e → ∃ v, w.cell? ((a.add (i * P.cellsOf e)).add j) = some v := fun i j hi hj => by
       obtain ⟨xs, cs', h1, _⟩ := key i hi
       obtain ⟨_, h5, h6⟩ := World.cells?_some h1
       rw [h6 j hj]
       exact ⟨_, List.getElem?_eq_getElem (by omega)⟩
      obtain ⟨v0, hv0⟩ := cellAt 0 0 (by omega) hsz
      have hs0 := cell_spot hv0
      obtain ⟨b, off, spot⟩ := a
      simp only [Nat.zero_mul, Addr.add, if_true] at hs0
      obtain ⟨rfl, hbl⟩ := hs0
      refine ⟨[.sl es], .one ?_, ⟨es, rfl, by omega, fun x hx => ?_⟩, ?_⟩
      ·have := CR.sl (I := allI w) (w := w) b off cap (P.cellsOf e) es (fun i j => (w.cell? ⟨b, off + i * P.cellsOf e + j, none⟩).getD undef) (by omega) (fun x hx => by
        obtain ⟨i, hi, rfl⟩ := List.mem_iff_getElem.1 hx
        obtain ⟨cs', h1, h2, _⟩ := hR i _ (List.getElem?_eq_getElem hi)
        rw [h2.1, (World.cells?_some h1).2.1]) (fun i j hi hj => by
        obtain ⟨v, hv⟩ := cellAt i j (by omega) hj
        rw [Addr.add_lit, Addr.add_lit] at hv
        exact ⟨by rw [hv]; rfl, hbl⟩) (fun i j x c hx hc => by
        obtain ⟨cs', h1, h2, _⟩ := hR i _ hx
        obtain ⟨_, h5, h6⟩ := World.cells?_some h1
        have hj : j < P.cellsOf e := by
         have := (List.getElem?_eq_some_iff.1 hc).1
         rw [h2.1, h5] at this; exact this
        have h7 := h6 j hj
        rw [Addr.add_lit, Addr.add_lit] at h7
        simp only [h7, List.getElem?_eq_getElem (show j < cs'.length by omega), Option.getD_some]
        exact h2.2 j _ c (List.getElem?_eq_getElem (by omega)) hc)
       rw [hes] at this
       exact this
      ·obtain ⟨i, hi, rfl⟩ := List.mem_iff_getElem.1 hx
       obtain ⟨cs', h1, h2, h3, _⟩ := hR i _ (List.getElem?_eq_getElem hi)
       exact ⟨by rw [h2.1, (World.cells?_some h1).2.1], h3⟩
      ·have := datCs_of (ds := elems.map (·.1)) (es := es) (by simp [hes, hell]) (fun i d x hd hx => by
        simp only [List.getElem?_map, Option.map_eq_some_iff] at hd
        obtain ⟨y, hy, rfl⟩ := hd
        obtain ⟨_, _, _, _, h5⟩ := hR i x hx
        exact h5 y hy)
       simp only [datC, this]
     ·cases h
   case struct fs =>
    simp only [Bool.and_eq_true, List.all_eq_true, List.contains_eq_mem, decide_eq_true_eq] at hp
    split at h
    ·rename_i hl
     simp only [Option.map_eq_some_iff] at h
     obtain ⟨ys, hys, rfl⟩ := h
     have hyl : ys.length = fs.toList.length := List.mapM_eq_some_length hys
     obtain ⟨pc, hpl, hpc⟩ := listOf (R := fun i (x : List C) => ∀ f, fs.toList[i]? = some f → (CsR w ((cs.drop f.offset).take (P.cellsOf f.type)) x ∧ Shp P n f.type x) ∧ ∀ y, ys[i]? = some y → datC y.1 = some x) fs.toList.length (fun i hi => by
      obtain ⟨f, hf, hy⟩ := List.mapM_eq_some_get hys i _ (List.getElem?_eq_getElem (show i < ys.length by omega))
      obtain ⟨x, h3, h4, h5⟩ := ih f.type _ _ (hp.1 f (List.mem_of_getElem? hf)) hy
      refine ⟨x, fun f' hf' => ?_⟩
      rw [hf, Option.some.injEq] at hf'
      subst hf'
      refine ⟨⟨h3, h4⟩, fun y hy' => ?_⟩
      rw [List.getElem?_eq_getElem (show i < ys.length by omega), Option.some.injEq] at hy'
      subst hy'; exact h5)
     obtain ⟨h1, h2⟩ := parts_abs (w := w) (n := n) (fs.toList.map fun f => (f.offset, f.type)) pc 0 cs (by rw [hl]; exact hp.2) (by simp [hpl]) (fun i p x hp' hx => by
      simp only [List.getElem?_map, Option.map_eq_some_iff] at hp'
      obtain ⟨f, hf, rfl⟩ := hp'
      exact (hpc i x hx f hf).1)
     rw [List.drop_zero] at h1
     refine ⟨pc.flatten, h1, ⟨by rw [h1.1, hl], fun f hf => ?_⟩, ?_⟩
     ·have := h2 (f.offset, f.type) (List.mem_map.2 ⟨f, hf, rfl⟩)
      simpa using this
     ·have := datCs_of (ds := ys.map (·.1)) (es := pc) (by simp [hpl, hyl]) (fun i d x hd hx => by
       simp only [List.getElem?_map, Option.map_eq_some_iff] at hd
       obtain ⟨y, hy, rfl⟩ := hd
       have hi : i < fs.toList.length := by have := (List.getElem?_eq_some_iff.1 hx).1; omega
       exact (hpc i x hx _ (List.getElem?_eq_getElem hi)).2 y hy)
      simp only [datC, this]
    ·cases h
   case array m e =>
    simp only [Bool.and_eq_true, List.contains_eq_mem, decide_eq_true_eq] at hp
    split at h
    ·rename_i hl
     simp only [Option.map_eq_some_iff] at h
     obtain ⟨ys, hys, rfl⟩ := h
     have hyl : ys.length = m := by have := List.mapM_eq_some_length hys; simpa using this
     obtain ⟨pc, hpl, hpc⟩ := listOf (R := fun i (x : List C) => (CsR w ((cs.drop (i * P.cellsOf e)).take (P.cellsOf e)) x ∧ Shp P n e x) ∧ ∀ y, ys[i]? = some y → datC y.1 = some x) m (fun i hi => by
      obtain ⟨i', hi', hy⟩ := List.mapM_eq_some_get hys i _ (List.getElem?_eq_getElem (show i < ys.length by omega))
      rw [List.getElem?_range hi, Option.some.injEq] at hi'
      subst hi'
      obtain ⟨x, h3, h4, h5⟩ := ih e _ _ hp.1 hy
      refine ⟨x, ⟨h3, h4⟩, fun y hy' => ?_⟩
      rw [List.getElem?_eq_getElem (show i < ys.length by omega), Option.some.injEq] at hy'
      subst hy'; exact h5)
     obtain ⟨h1, h2⟩ := parts_abs (w := w) (n := n) (arrParts P m e) pc 0 cs (by rw [hl]; exact hp.2) (by simp [hpl, arrParts]) (fun i p x hp' hx => by
      unfold arrParts at hp'
      simp only [List.getElem?_map, Option.map_eq_some_iff] at hp'
      obtain ⟨i', hi', rfl⟩ := hp'
      have hi : i < m := by have := (List.getElem?_eq_some_iff.1 hi').1; simpa using this
      rw [List.getElem?_range hi, Option.some.injEq] at hi'
      subst hi'
      exact (hpc i x hx).1)
     rw [List.drop_zero] at h1
     refine ⟨pc.flatten, h1, ⟨by rw [h1.1, hl], fun i hi => ?_⟩, ?_⟩
     ·have := h2 (i * P.cellsOf e, e) (List.mem_map.2 ⟨i, List.mem_range.2 hi, rfl⟩)
      simpa using this
     ·have := datCs_of (ds := ys.map (·.1)) (es := pc) (by simp [hpl, hyl]) (fun i d x hd hx => by
       simp only [List.getElem?_map, Option.map_eq_some_iff] at hd
       obtain ⟨y, hy, rfl⟩ := hd
       exact (hpc i x hx).2 y hy)
      simp only [datC, this]
    ·cases h
def absV (P : Program) (t : TypeId) (xs : List C) : V := if isAggB P t then .agg xs else .c (xs.getD 0 default)
theorem shp_one : ∀ {n : Nat} {t : TypeId} {xs : List C}, Shp P n t xs → isAggB P t = false → ∃ x, xs = [x]
 | 0, _, _, h, _ => h.elim
 | n + 1, t, xs, h, ha => by
  unfold Shp at h
  unfold isAggB at ha
  split at h
  ·obtain ⟨b, rfl⟩ := h; exact ⟨_, rfl⟩
  ·obtain ⟨b, rfl, _⟩ := h; exact ⟨_, rfl⟩
  ·obtain ⟨b, rfl, _⟩ := h; exact ⟨_, rfl⟩
  ·obtain ⟨b, rfl, _⟩ := h; exact ⟨_, rfl⟩
  ·rename_i hu; rw [hu] at ha; cases ha
  ·rename_i hu; rw [hu] at ha; cases ha
  ·exact h.elim
theorem abs_arg {L : List TypeId} (hL : plainS P L = true) {held : Bool} {t : TypeId} {v : Value} {d : DataW H} {p : List MemPlace} (ht : t ∈ L) (h : DataW.Trod enc P w base spare held t v d p) {b : Nat} (hok : Value.okWide P w .any b t v) :
  ∃ n xs, Shp P n t xs ∧ DR (allI w) w v (absV P t xs) := by
 obtain ⟨n, h⟩ := h
 obtain ⟨xs, h1, h2, _⟩ := abs_of_trod hL n t _ _ ht h
 refine ⟨n, xs, h2, ?_⟩
 unfold absV
 by_cases ha : isAggB P t = true
 ·rw [if_pos ha]
  have : ∃ cs, v = .agg cs := by
   unfold isAggB at ha
   unfold Value.okWide at hok
   split at ha
   ·rename_i hu; rw [hu] at hok; obtain ⟨cs, e, _⟩ := hok; exact ⟨cs, e⟩
   ·rename_i hu; rw [hu] at hok; obtain ⟨cs, e, _⟩ := hok; exact ⟨cs, e⟩
   ·cases ha
  obtain ⟨cs, rfl⟩ := this
  simp only [Value.cells] at h1
  refine .agg cs xs (by rw [h1.1]; simp) fun j c hc => ?_
  have hj : j < cs.size := by have := (List.getElem?_eq_some_iff.1 hc).1; rw [h1.1] at this; simpa using this
  have := h1.2 j cs[j] c (by simp [hj]) hc
  simpa [hj] using this
 ·have ha : isAggB P t = false := by simpa using ha
  rw [if_neg (by simp [ha])]
  obtain ⟨x, rfl⟩ := shp_one h2 ha
  have hl := h1.1
  simp only [List.length_cons, List.length_nil, Nat.zero_add] at hl
  have hv : v.cells = #[v] := by
   cases v <;> try rfl
   rename_i cs
   simp only [Value.cells] at h1 hl
   exfalso
   unfold Value.okWide at hok
   unfold isAggB at ha
   split at hok
   ·rename_i hu; rw [hu] at ha; cases ha
   ·rename_i hu; rw [hu] at ha; cases ha
   ·rename_i n1 n2
    unfold Shp at h2
    cases n with
    | zero => exact h2
    | succ n =>
     simp only at h2
     unfold Cell.okWide Cell.ok at hok
     cases hu : P.underlying t with
     | none => rw [hu] at h2; exact h2
     | some dd => rw [hu] at hok h2; cases dd <;> simp_all
  rw [hv] at h1
  exact .c v x (h1.2 0 v x (by simp) rfl)
theorem trodAll_length {held : Bool} : ∀ {ts : List TypeId} {vs : List Value} {ds : List (DataW H)} {p : List MemPlace}, DataW.TrodAll enc P w base spare held ts vs ds p → ds.length = ts.length
 | [], [], [], _, _ => rfl
 | _ :: _, _ :: _, _ :: _, _, h => by obtain ⟨_, _, _, h2, _⟩ := h; simp [trodAll_length h2]
 | [], [], _ :: _, _, h => h.elim
 | [], _ :: _, _, _, h => h.elim
 | _ :: _, [], _, _, h => h.elim
 | _ :: _, _ :: _, [], _, h => h.elim
theorem trodAll_below (hl : laidOutB P = true) {W W' : World} (hb : Below W.heap.size W W') : ∀ {ts : List TypeId} {vs : List Value} {ds : List (DataW H)} {p : List MemPlace}, (∀ t ∈ ts, P.readableRec t = true ∧ t < P.types.size) →
  DataW.TrodAll enc P W 0 (fun _ => true) true ts vs ds p → DataW.TrodAll enc P W' 0 (fun b => decide (b < W.heap.size)) true ts vs ds p
 | [], [], [], _, _, h => h
 | t :: ts, v :: vs, d :: ds, p, hr, h => by
  have hlt := h.lt
  obtain ⟨p', q, h1, h2, rfl⟩ := h
  exact ⟨p', q, Below.trod hl (hr t (List.mem_cons_self ..)).1 (hr t (List.mem_cons_self ..)).2 h1 hb (fun x hx => hlt x (List.mem_append_left _ hx)), trodAll_below hl hb (fun u hu => hr u (List.mem_cons_of_mem _ hu)) h2, rfl⟩
 | [], [], _ :: _, _, _, h => h.elim
 | [], _ :: _, _, _, _, h => h.elim
 | _ :: _, [], _, _, _, h => h.elim
 | _ :: _, _ :: _, [], _, _, h => h.elim
theorem below_of_grown {T : Prop} {W W' : World} (h : World.grt T W W' none) : Below W.heap.size W W' := ⟨h.os, h.tape, h.output, h.size, fun k hk => h.block k hk (by simp)⟩
theorem laid_var {L : List TypeId} (hL : plainS P L = true) {name : String} {d : DataW Unit} {g t : Nat} {xs : List C} {W : World} (hg : P.globalNamed name = some g)
  (ht : (P.globals[g]?).map (·.type) = some t) (htL : t ∈ L) (hd : datC d = some xs) : ∀ (laid : List (String × DataW Unit)) (ps : List MemPlace), DataW.LaidVars P W laid ps → (name, d) ∈ laid → GCR (allI W) W g xs
 | [], _, _, hm => by cases hm
 | (n', d') :: r, ps, hv, hm => by
  obtain ⟨g', t', cs, fuel, p, q, h1, h2, h3, h4, h5, _⟩ := hv
  rcases List.mem_cons.1 hm with e | hm
  ·cases e
   obtain rfl := Option.some.inj (hg.symm.trans h1)
   obtain rfl := Option.some.inj (ht.symm.trans h2)
   obtain ⟨xs', k1, _, k3⟩ := abs_of_trod hL fuel t _ _ htL h4
   rw [hd, Option.some.injEq] at k3
   subst k3
   have hlen : xs.length = cs.size := by rw [k1.1]; simp
   have hcell : ∀ j, j < cs.size → W.cell? ⟨g, j, none⟩ = some (cs.getD j undef) := fun j hj => by
    rw [World.var?_cell h1 h3 j]
    simp [hj]
   have := CR.rp (I := allI W) (w := W) g 0 0 xs (fun j => cs.getD j undef) (fun j hj => by
    rw [Nat.zero_add]
    have hc := hcell j (by omega)
    exact ⟨hc, (cell_spot hc).2⟩) (fun j c hc => by
    have hj := (List.getElem?_eq_some_iff.1 hc).1
    exact k1.2 j _ c (by simp [show j < cs.size by omega]) hc)
   have hgs : g < W.heap.size := by
    unfold World.var? at h3
    rw [h1] at h3
    by_cases hh : g < W.heap.size
    ·exact hh
    ·simp [Array.getElem?_eq_none (show W.heap.size ≤ g by omega)] at h3
   exact ⟨by simpa using this, hgs, by rw [World.var?_cell h1 h3, hlen]; simp⟩
  ·exact laid_var hL hg ht htL hd r q h5 hm
end
end Go.Vl
namespace Go.Vl
open Go Go.RowKit
section
variable {P : Program}
def ShpE (P : Program) (t : TypeId) (xs : List C) : Prop := ∃ n, Shp P n t xs
theorem shp_int {t : TypeId} {k : IntKind} {xs : List C} (hu : P.underlying t = some (.int k)) (h : ShpE P t xs) : ∃ m, xs = [.lit (.int k m)] ∧ (Lit.int k m).wf = true := by
 obtain ⟨n, h⟩ := h
 cases n with
 | zero => exact h.elim
 | succ n => unfold Shp at h; rw [hu] at h; exact h
theorem list_of {α : Type} {f : α → List C} {ok : α → Prop} : ∀ {es : List (List C)}, (∀ x ∈ es, ∃ a, x = f a ∧ ok a) → ∃ l : List α, es = l.map f ∧ ∀ a ∈ l, ok a
 | [], _ => ⟨[], rfl, by simp⟩
 | x :: es, h => by
  obtain ⟨a, rfl, ha⟩ := h x (List.mem_cons_self ..)
  obtain ⟨l, rfl, hl⟩ := list_of (es := es) fun y hy => h y (List.mem_cons_of_mem _ hy)
  exact ⟨a :: l, rfl, fun b hb => by rcases List.mem_cons.1 hb with rfl | hb; exact ha; exact hl b hb⟩
end
end Go.Vl
/- Values without memory: from a law's arguments, their data told too, to the law's row (the second form: a bound on what is read). -/
namespace Go.Vl
open Go Go.RowKit Go.ChangeShapes
section
variable {H : Type} {enc : TypeId × Value → H} {P : Program} {w : World} {base : Nat} {spare : Nat → Bool}
theorem abs_argD {L : List TypeId} (hL : plainS P L = true) {held : Bool} {t : TypeId} {v : Value} {d : DataW H} {p : List MemPlace} (ht : t ∈ L) (h : DataW.Trod enc P w base spare held t v d p) {b : Nat} (hok : Value.okWide P w .any b t v) :
  ∃ n xs, Shp P n t xs ∧ datC d = some xs ∧ DR (allI w) w v (absV P t xs) := by
 obtain ⟨n, h⟩ := h
 obtain ⟨xs, h1, h2, h3⟩ := abs_of_trod hL n t _ _ ht h
 obtain ⟨n', xs', k1, k2⟩ := abs_arg (H := H) (enc := enc) hL ht ⟨n, h⟩ hok
 refine ⟨n, xs, h2, h3, ?_⟩
 unfold absV
 by_cases ha : isAggB P t = true
 ·rw [if_pos ha]
  unfold absV at k2
  rw [if_pos ha] at k2
  have : ∃ cs, v = .agg cs := by
   cases k2 with
   | agg cs _ _ _ => exact ⟨cs, rfl⟩
  obtain ⟨cs, rfl⟩ := this
  simp only [Value.cells] at h1
  refine .agg cs xs (by rw [h1.1]; simp) fun j c hc => ?_
  have hj : j < cs.size := by have := (List.getElem?_eq_some_iff.1 hc).1; rw [h1.1] at this; simpa using this
  have := h1.2 j cs[j] c (by simp [hj]) hc
  simpa [hj] using this
 ·have ha : isAggB P t = false := by simpa using ha
  rw [if_neg (by simp [ha])]
  unfold absV at k2
  rw [if_neg (by simp [ha])] at k2
  obtain ⟨x, rfl⟩ := shp_one h2 ha
  obtain ⟨x', rfl⟩ := shp_one k1 ha
  have hcr : CR (allI w) w v x' := by
   cases k2 with
   | c _ _ h => exact h
  have hv : v.cells = #[v] := hcr.notAgg
  rw [hv] at h1
  exact .c v x (h1.2 0 v x (by simp) rfl)
def ArgsD {H : Type} (P : Program) : List TypeId → List (DataW H) → List V → Prop
 | [], [], [] => True
 | t :: ts, d :: ds, x :: xs => (∃ n cs, Shp P n t cs ∧ datC d = some cs ∧ x = absV P t cs) ∧ ArgsD P ts ds xs
 | _, _, _ => False
theorem abs_argsD {L : List TypeId} (hL : plainS P L = true) {held : Bool} {b : Nat} : ∀ (ts : List TypeId) (vs : List Value) (ds : List (DataW H)) (p : List MemPlace), (∀ t ∈ ts, t ∈ L) → DataW.TrodAll enc P w base spare held ts vs ds p →
  (∀ (j : Nat) (t : TypeId) (v : Value), ts[j]? = some t → vs[j]? = some v → Value.okWide P w .any b t v) →
  ∃ xs, ArgsD P ts ds xs ∧ xs.length = vs.length ∧ ∀ (j : Nat) (x : V), xs[j]? = some x → DR (allI w) w (vs.getD j undef) x
 | [], [], [], _, _, _, _ => ⟨[], trivial, rfl, by simp⟩
 | t :: ts, v :: vs, d :: ds, p, hin, h, hok => by
  obtain ⟨p', q, h1, h2, _⟩ := h
  obtain ⟨n, xs, h3, hd, h4⟩ := abs_argD hL (hin t (List.mem_cons_self ..)) h1 (hok 0 t v rfl rfl)
  obtain ⟨ys, h5, h6, h7⟩ := abs_argsD hL ts vs ds q (fun u hu => hin u (List.mem_cons_of_mem _ hu)) h2 (fun j u x hu hx => hok (j + 1) u x (by simpa using hu) (by simpa using hx))
  refine ⟨absV P t xs :: ys, ⟨⟨n, xs, h3, hd, rfl⟩, h5⟩, by simp [h6], fun j x hx => ?_⟩
  cases j with
  | zero => simp at hx; subst hx; exact h4
  | succ j => simpa using h7 j x (by simpa using hx)
 | [], [], _ :: _, _, _, h, _ => h.elim
 | [], _ :: _, _, _, _, h, _ => h.elim
 | _ :: _, [], _, _, _, h, _ => h.elim
 | _ :: _, _ :: _, [], _, _, h, _ => h.elim
theorem law_postD {f : FuncId} {fn : Func} {s : ChangeSpec} {gl : Gl} {L : List TypeId} (hL : plainS P L = true) {ts : List TypeId} (hts : fn.params.toList = ts) (hin : ∀ t ∈ ts, t ∈ L) (hlaid : laidOutB P = true) (hread : ∀ t ∈ ts, P.readableRec t = true ∧ t < P.types.size)
  (hvars : s.vars = []) (hspec : ∀ ds : List (DataW H), ds.length = ts.length → s.fn H ds = { results := [.lit (.bool true)], args := ds, vars := [] }) {tb : TypeId} (hres : fn.resultTypes = #[tb]) (hbool : P.underlying tb = some .bool)
  {W : World} {base : Nat} {args : Array Value} {ds gs : List (DataW H)} {before : List MemPlace} (hval : ∀ (j : Nat) t v, fn.params[j]? = some t → args[j]? = some v → Value.okWide P W .any base t v)
  (hW : DataW.Whole enc P fn.params.toList s.vars false W args.toList ds gs before) (hG : GOK gl (allI W) W) (hF : ∀ xs : List V, gs = [] → ArgsD P ts ds xs → FnOK P gl f xs (.c (.lit (.bool true)))) :
  Calls P f args W fun e W' => ∃ v, e = .returned v ∧ s.post enc P fn false true false false W args v W' := by
 have hW' := hW
 obtain ⟨p, q, hA, hV, rfl, hfz, hnd⟩ := hW
 rw [hvars] at hV
 obtain ⟨rfl, rfl⟩ := trodVars_none hV
 rw [hts] at hA
 obtain ⟨xs, h1, h2, h3⟩ := abs_argsD hL ts _ ds p hin hA (fun j t v ht hv => hval j t v (by rw [← Array.getElem?_toList, hts]; exact ht) (by rw [← Array.getElem?_toList]; exact hv))
 refine ((hF xs rfl h1).2 (allI W) W args (fun _ _ h => h) hG (by simpa using h2.symm) (fun j x hx => ?_)).mono ?_
 ·have := h3 j x hx
  have e : args.toList.getD j undef = args.getD j undef := by rw [List.getD_eq_getElem?_getD, Array.getElem?_toList, Array.getD_eq_getD_getElem?]
  rw [← e]; exact this
 ·rintro e W' ⟨v, I', rfl, hg, _, _, ob, hlr, _⟩
  have : v = .bool true := hlr.lit
  subst this
  have hb := below_of_grown hg
  have hsp := hspec ds (trodAll_length hA)
  refine ⟨_, rfl, ds, [], p ++ [], [], p, [], hW', ?_, ?_, ?_, hb.frame _, fun h => by cases h⟩
  ·rw [List.append_nil, hsp, hres]; exact trodAll_mk1 (shut_bool hbool true)
  ·rw [List.append_nil, hsp, hts]; exact trodAll_below hlaid hb hread hA
  ·rw [List.append_nil, hsp, hvars]; rfl
mutual
def msC : C → Nat
 | .sl es => msLL es + 1
 | _ => 1
def msL : List C → Nat
 | [] => 0
 | c :: l => msC c + msL l
def msLL : List (List C) → Nat
 | [] => 0
 | l :: r => msL l + msLL r
end
theorem msL_append (a b : List C) : msL (a ++ b) = msL a + msL b := by
 induction a with
 | nil => simp [msL]
 | cons x a ih => simp only [List.cons_append, msL, ih]; omega
theorem msL_flatten (l : List (List C)) : msL l.flatten = msLL l := by
 induction l with
 | nil => rfl
 | cons x l ih => simp only [List.flatten_cons, msL_append, msLL, ih]
end
