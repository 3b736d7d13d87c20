/- Values without memory: the operations keep the relation: struct and slice literals, append. -/
import Derived.Test.YtbhfbbfifmnniaaDoorVlSound3
import Derived.Great.BuildSlice
set_option linter.unusedSimpArgs false
set_option linter.unusedVariables false
namespace Go.Vl
open Go Go.RowKit

section
variable {P : Program} {G : Gl} {tr : List Nat} {n : Nat} {I0 : Ft} {M : Mx} {w0 : World} {I : Ft} {β : Nat → Option Nat} {ob : Loc → Option Nat} {s : S} {a : Act} {w : World} {o : Oper}
  {next : Act → World → Prop} {Q : Exit → Act → World → Prop} {base : Nat → Prop} {v : Value} {x y : V} {K : V → Prop}

theorem zc_ok {v : Value} {c : C} (h : zc v = some c) : CR I w v c := by
  unfold zc at h
  split at h
  · simp only [Option.some.injEq] at h; subst h; exact .nil none 0 (fun _ => rfl)
  · split at h
    · simp only [Option.some.injEq] at h; subst h; exact .lit _ ‹_›
    · cases h

theorem zero_ok {z : Value} {zs : List C} (h : z.cells.toList.mapM zc = some zs) : Cells I w z.cells zs := by
  refine ⟨by have := List.mapM_eq_some_length h; simpa using this.symm, fun j c hc => ?_⟩
  obtain ⟨u, hu, hz⟩ := List.mapM_eq_some_get h j c hc
  have : z.cells.getD j undef = u := by
    rw [Array.getElem?_toList] at hu
    simp [hu]
  rw [this]; exact zc_ok hz

/-- What the parts of a literal are. -/
theorem cs_ok {ox : Option Nat} (h : LR base I β w ox v x) {ds : List C} (hx : x.cs = some ds) : Cells I w v.cells ds := by
  cases x <;> simp only [V.cs] at hx <;> try cases hx
  · have := h.toC
    rw [this.notAgg]
    refine ⟨rfl, fun j c hc => ?_⟩
    cases j with
    | zero => simp at hc; subst hc; exact this
    | succ j => simp at hc
  · obtain ⟨vs, rfl, h1, h2⟩ := h.agg
    exact ⟨h1, h2⟩
  · have := h.1
    rw [this.notAgg]
    refine ⟨rfl, fun j c hc => ?_⟩
    cases j with
    | zero => simp at hc; subst hc; exact this
    | succ j => simp at hc

theorem foldl_set (off : Nat) : ∀ (l : List Value) (k : Nat) (cs : Array Value), off + k + l.length ≤ cs.size →
    ((l.zipIdx k).foldl (fun cs (p : Value × Nat) => cs.setIfInBounds (off + p.2) p.1) cs).size = cs.size ∧
    ∀ j, ((l.zipIdx k).foldl (fun cs (p : Value × Nat) => cs.setIfInBounds (off + p.2) p.1) cs).getD j undef =
      if off + k ≤ j ∧ j < off + k + l.length then l.getD (j - (off + k)) undef else cs.getD j undef
  | [], k, cs, _ => ⟨rfl, fun j => by rw [if_neg (by simp)]; rfl⟩
  | v :: l, k, cs, h => by
    simp only [List.zipIdx_cons, List.foldl_cons]
    simp only [List.length_cons] at h
    obtain ⟨h1, h2⟩ := foldl_set off l (k + 1) (cs.setIfInBounds (off + k) v) (by simp; omega)
    refine ⟨by rw [h1]; simp, fun j => ?_⟩
    rw [h2 j]
    by_cases hj : off + (k + 1) ≤ j ∧ j < off + (k + 1) + l.length
    · rw [if_pos hj, if_pos (by simp only [List.length_cons]; omega)]
      have : j - (off + k) = (j - (off + (k + 1))) + 1 := by omega
      rw [this]; rfl
    · rw [if_neg hj]
      by_cases hjk : j = off + k
      · subst hjk
        rw [if_pos (by simp only [List.length_cons]; omega), getD_set_same _ _ _ (by omega)]
        simp
      · rw [if_neg (by simp only [List.length_cons]; omega), getD_set_ne _ _ _ _ hjk]

theorem setAt_get {cs ds : List C} {off : Nat} (h : off + ds.length ≤ cs.length) (j : Nat) :
    (setAt cs off ds)[j]? = if off ≤ j ∧ j < off + ds.length then ds[j - off]? else cs[j]? := by
  unfold setAt
  have hto : (cs.take off).length = off := by simp; omega
  by_cases h1 : j < off
  · rw [if_neg (by omega), List.append_assoc, List.getElem?_append_left (by omega), List.getElem?_take, if_pos h1]
  · by_cases h2 : j < off + ds.length
    · rw [if_pos (by omega), List.append_assoc, List.getElem?_append_right (by omega), hto, List.getElem?_append_left (by omega)]
    · rw [if_neg (by omega), List.getElem?_append_right (by simp; omega), List.getElem?_drop]
      congr 1
      simp; omega

theorem setAt_length {cs ds : List C} {off : Nat} (h : off + ds.length ≤ cs.length) : (setAt cs off ds).length = cs.length := by
  simp [setAt]; omega

theorem fill_step {cells : Array Value} {cs ds : List C} {off : Nat} (hc : Cells I w cells cs) (hd : Cells I w v.cells ds) (h : off + ds.length ≤ cs.length) :
    Cells I w (v.cells.zipIdx.foldl (fun cs (p : Value × Nat) => cs.setIfInBounds (off + p.2) p.1) cells) (setAt cs off ds) := by
  have hvs : v.cells.size = ds.length := hd.1
  have hcs : cells.size = cs.length := hc.1
  rw [← Array.foldl_toList, Array.toList_zipIdx]
  obtain ⟨h1, h2⟩ := foldl_set off v.cells.toList 0 cells (by simp; omega)
  refine ⟨by rw [h1, setAt_length h]; exact hcs, fun j c hj => ?_⟩
  rw [setAt_get h] at hj
  rw [h2 j]
  simp only [Nat.add_zero, Array.length_toList, hvs]
  split at hj
  · rename_i hr
    rw [if_pos hr]
    have := hd.2 _ c hj
    simpa [Array.getD_eq_getD_getElem?, List.getD_eq_getElem?_getD] using this
  · rename_i hr
    rw [if_neg hr]
    exact hc.2 j c hj

/-- Parts, as values and as what they are. -/
def Parts (base : Nat → Prop) (I : Ft) (β : Nat → Option Nat) (w : World) : List (Nat × Value) → List (Nat × V) → Prop
  | [], [] => True
  | (i, v) :: r, (j, x) :: q => i = j ∧ (∃ ox, LR base I β w ox v x) ∧ Parts base I β w r q
  | _, _ => False

theorem fillS_ok (flds : List (Nat × Nat × Bool)) (place : Nat → Option (Nat × Nat)) (hp : ∀ i off sz ag, flds[i]? = some (off, sz, ag) → place i = some (off, sz)) :
    ∀ (vs : List (Nat × Value)) (xs : List (Nat × V)) (cells : Array Value) (cs cs' : List C), Parts base I β w vs xs → Cells I w cells cs → fillS flds xs cs = some cs' →
      ∃ cells', Instr.fill place cells vs = some cells' ∧ Cells I w cells' cs'
  | [], [], cells, cs, cs', _, hc, h => ⟨cells, rfl, by simp only [fillS, Option.some.injEq] at h; subst h; exact hc⟩
  | (i, v) :: vs, (j, x) :: xs, cells, cs, cs', hps, hc, h => by
    obtain ⟨rfl, ⟨ox, hx⟩, hps⟩ := hps
    simp only [fillS] at h
    split at h
    · rename_i off sz ag ds hf hds
      split at h
      · rename_i hlen
        have hd := cs_ok hx hds
        have hpl := hp _ _ _ _ hf
        obtain ⟨cells', e1, e2⟩ := fillS_ok flds place hp vs xs _ _ cs' hps (fill_step hc hd (by omega)) h
        refine ⟨cells', ?_, e2⟩
        have h1 : v.cells.size = sz := by rw [hd.1]; exact hlen.1
        have h2 : cells.size = cs.length := hc.1
        simp only [Instr.fill, hpl]
        rw [if_neg (by simp [h1, h2]; omega)]
        exact e1
      · cases h
    · cases h
  | [], _ :: _, _, _, _, hps, _, _ => hps.elim
  | _ :: _, [], _, _, _, hps, _, _ => hps.elim

/-- Cells that may lead into boxes. -/
def PCells (I : Ft) (β : Nat → Option Nat) (w : World) (cells : Array Value) (vs : List V) : Prop := cells.size = vs.length ∧ ∀ j x, vs[j]? = some x → PR I β w (cells.getD j undef) x

theorem Cells.toP {cells : Array Value} {cs : List C} (h : Cells I w cells cs) : PCells I β w cells (cs.map .c) := by
  refine ⟨by rw [List.length_map]; exact h.1, fun j x hx => ?_⟩
  simp only [List.getElem?_map, Option.map_eq_some_iff] at hx
  obtain ⟨c, hc, rfl⟩ := hx
  simp only [PR]; exact h.2 j c hc

theorem ps_ok {ox : Option Nat} (h : LR base I β w ox v x) {ds : List V} (hx : x.ps = some ds) : PCells I β w v.cells ds := by
  have one : ∀ c : V, ds = [c] → v.cells = #[v] → PR I β w v c → PCells I β w v.cells ds := by
    rintro c rfl hc hp
    rw [hc]
    refine ⟨rfl, fun j y hy => ?_⟩
    cases j with
    | zero => simp at hy; subst hy; exact hp
    | succ j => simp at hy
  cases x <;> simp only [V.ps] at hx <;> try cases hx
  · have := h.toC
    exact one _ rfl this.notAgg (by simp only [PR]; exact this)
  · rename_i cs
    obtain ⟨vs, rfl, h1, h2⟩ := h.agg
    exact Cells.toP ⟨h1, h2⟩
  · have := h.1
    exact one _ rfl this.notAgg (by simp only [PR]; exact this)
  · have h' := h
    simp only [LR] at h
    obtain ⟨blk, e1, rfl⟩ := h
    exact one _ rfl rfl (by simp only [PR]; exact ⟨blk, e1, rfl⟩)
  · simp only [LR] at h
    obtain ⟨h0, blk, o', c', hc, e1, e2, rfl⟩ := h
    exact one _ rfl rfl (by simp only [PR]; exact ⟨h0, blk, o', c', hc, e1, e2, rfl⟩)
  · simp only [LR] at h
    obtain ⟨cells, rfl, h1, h2⟩ := h
    exact ⟨h1, h2⟩

theorem setP_get {cs ds : List V} {off : Nat} (h : off + ds.length ≤ cs.length) (j : Nat) :
    (setP cs off ds)[j]? = if off ≤ j ∧ j < off + ds.length then ds[j - off]? else cs[j]? := by
  unfold setP
  have hto : (cs.take off).length = off := by simp; omega
  by_cases h1 : j < off
  · rw [if_neg (by omega), List.append_assoc, List.getElem?_append_left (by omega), List.getElem?_take, if_pos h1]
  · by_cases h2 : j < off + ds.length
    · rw [if_pos (by omega), List.append_assoc, List.getElem?_append_right (by omega), hto, List.getElem?_append_left (by omega)]
    · rw [if_neg (by omega), List.getElem?_append_right (by simp; omega), List.getElem?_drop]
      congr 1
      simp; omega

theorem fillP_step {cells : Array Value} {cs ds : List V} {off : Nat} (hc : PCells I β w cells cs) (hd : PCells I β w v.cells ds) (h : off + ds.length ≤ cs.length) :
    PCells I β w (v.cells.zipIdx.foldl (fun cs (p : Value × Nat) => cs.setIfInBounds (off + p.2) p.1) cells) (setP cs off ds) := by
  have hvs : v.cells.size = ds.length := hd.1
  have hcs : cells.size = cs.length := hc.1
  rw [← Array.foldl_toList, Array.toList_zipIdx]
  obtain ⟨h1, h2⟩ := foldl_set off v.cells.toList 0 cells (by simp; omega)
  refine ⟨by rw [h1]; simp [setP]; omega, fun j c hj => ?_⟩
  rw [setP_get h] at hj
  rw [h2 j]
  simp only [Nat.add_zero, Array.length_toList, hvs]
  split at hj
  · rename_i hr
    rw [if_pos hr]
    have := hd.2 _ c hj
    simpa [Array.getD_eq_getD_getElem?, List.getD_eq_getElem?_getD] using this
  · rename_i hr
    rw [if_neg hr]
    exact hc.2 j c hj

theorem fillM_ok (flds : List (Nat × Nat × Bool)) (place : Nat → Option (Nat × Nat)) (hp : ∀ i off sz ag, flds[i]? = some (off, sz, ag) → place i = some (off, sz)) :
    ∀ (vs : List (Nat × Value)) (xs : List (Nat × V)) (cells : Array Value) (cs cs' : List V), Parts base I β w vs xs → PCells I β w cells cs → fillM flds xs cs = some cs' →
      ∃ cells', Instr.fill place cells vs = some cells' ∧ PCells I β w cells' cs'
  | [], [], cells, cs, cs', _, hc, h => ⟨cells, rfl, by simp only [fillM, Option.some.injEq] at h; subst h; exact hc⟩
  | (i, v) :: vs, (j, x) :: xs, cells, cs, cs', hps, hc, h => by
    obtain ⟨rfl, ⟨ox, hx⟩, hps⟩ := hps
    simp only [fillM] at h
    split at h
    · rename_i off sz ag ds hf hds
      split at h
      · rename_i hlen
        have hd := ps_ok hx hds
        have hpl := hp _ _ _ _ hf
        obtain ⟨cells', e1, e2⟩ := fillM_ok flds place hp vs xs _ _ cs' hps (fillP_step hc hd (by omega)) h
        refine ⟨cells', ?_, e2⟩
        have h1 : v.cells.size = sz := by rw [hd.1]; exact hlen.1
        have h2 : cells.size = cs.length := hc.1
        simp only [Instr.fill, hpl]
        rw [if_neg (by simp [h1, h2]; omega)]
        exact e1
      · cases h
    · cases h
  | [], _ :: _, _, _, _, hps, _, _ => hps.elim
  | _ :: _, [], _, _, _, hps, _, _ => hps.elim

theorem parts_ok (hst : St G n I0 M w0 I β ob s a w) : ∀ (l : List (Nat × Operand)), Parts (Wr M w0) I β w (l.map fun (i, x) => (i, a.eval x)) (l.map fun (i, x) => (i, ev G s x))
  | [] => trivial
  | (_, x) :: l => ⟨rfl, ⟨_, ev_sound hst x⟩, parts_ok hst l⟩

theorem vbuild_sound {T : TypeId} {parts : Array (Nat × Operand)} (hst : St G n I0 M w0 I β ob s a w) (h : vbuild P T (parts.toList.map fun (i, x) => (i, ev G s x)) K) :
    ∃ z u, K z ∧ LR (Wr M w0) I β w none u z ∧ (Instr.build T (parts.map fun (i, x) => (i, a.eval x))).run P w = .ok u w := by
  unfold vbuild at h
  split at h
  · rename_i z flds _ hi
    obtain ⟨j, d, h1, h2, h3, _, _, _, hz, hfl, _, hok⟩ := ti_spec hi
    obtain ⟨fs, rfl⟩ := kdOf_struct h3
    simp only at hz hfl
    split at hz
    · rename_i zv hzv
      have hplaces : ∃ places : List (Nat × Nat), fs.toList.mapM (fun f => (P.info? f.type).map fun i => (f.offset, i.size)) = some places ∧
          ∀ (i off sz : Nat) (ag : Bool), flds[i]? = some (off, sz, ag) → places[i]? = some (off, sz) := by
        subst hfl
        simp only [fldsOf]
        have : ∀ l : List Field, (∀ f ∈ l, ∃ d, P.underlying f.type = some d) → l.mapM (fun f => (P.info? f.type).map fun i => (f.offset, i.size)) = some (l.map fun f => (f.offset, P.cellsOf f.type)) := by
          intro l
          induction l with
          | nil => intro _; simp
          | cons f l ih =>
            intro hl
            obtain ⟨d, hd⟩ := hl f (by simp)
            obtain ⟨i, hi⟩ := info_of_underlying hd
            have := ih (fun g hg => hl g (by simp [hg]))
            simp [List.mapM_cons, hi, this, cellsOf_eq hi]
        refine ⟨_, this fs.toList (fun f hf => Option.isSome_iff_exists.1 (List.all_eq_true.1 hok f hf)), fun i off sz ag hf => ?_⟩
        simp only [List.getElem?_map, Option.map_eq_some_iff] at hf ⊢
        obtain ⟨g, hg, he⟩ := hf
        simp only [Prod.mk.injEq] at he
        exact ⟨g, hg, by rw [he.1, he.2.1]⟩
      obtain ⟨places, hp1, hp2⟩ := hplaces
      split at h
      · rename_i cs hcs
        obtain ⟨cells, e1, e2⟩ := fillS_ok flds (fun i => places[i]?) hp2 _ _ _ _ cs (parts_ok hst parts.toList) (zero_ok hz.symm) hcs
        refine ⟨_, .agg cells, h, by simp only [LR]; exact .agg _ _ e2.1 e2.2, run_build w T _ cells ?_⟩
        unfold Program.built
        simp only [h1, h2, hzv, hp1]
        simpa using e1
      · split at h
        · rename_i cs hcs
          obtain ⟨cells, e1, e2⟩ := fillM_ok flds (fun i => places[i]?) hp2 _ _ _ _ cs (parts_ok hst parts.toList) (zero_ok hz.symm).toP hcs
          refine ⟨_, .agg cells, h, by simp only [LR]; exact ⟨cells, rfl, e2⟩, run_build w T _ cells ?_⟩
          unfold Program.built
          simp only [h1, h2, hzv, hp1]
          simpa using e1
        · exact h.elim
    · cases hz
  · rename_i m e z _ _ _ _ _ hi
    obtain ⟨j, d, h1, h2, h3, _, _, _, hz, _⟩ := ti_spec hi
    have hd := kdOf_arr h3
    subst hd
    simp only at hz
    split at hz
    · rename_i zv hzv
      split at h
      · rename_i je hje
        obtain ⟨j', d', h1', h2', _, hsz', _⟩ := ti_spec hje
        split at h
        · rename_i cs hcs
          obtain ⟨cells, e1, e2⟩ := fillS_ok _ (fun i => some (i * j'.size, j'.size)) (fun i off sz ag hf => by
            simp only [List.getElem?_map, Option.map_eq_some_iff] at hf
            obtain ⟨q, hq, he⟩ := hf
            simp only [Prod.mk.injEq] at he
            have hqi : q = i := by
              have := (List.getElem?_eq_some_iff.1 hq).2
              simpa using this.symm
            rw [← hsz', ← he.1, ← he.2.1, hqi]) _ _ _ _ cs (parts_ok hst parts.toList) (zero_ok hz.symm) hcs
          refine ⟨_, .agg cells, h, by simp only [LR]; exact .agg _ _ e2.1 e2.2, run_build w T _ cells ?_⟩
          unfold Program.built
          simp only [h1, h2, hzv, h1']
          simpa using e1
        · exact h.elim
      · exact h.elim
    · cases hz
  · exact h.elim

end
end Go.Vl
