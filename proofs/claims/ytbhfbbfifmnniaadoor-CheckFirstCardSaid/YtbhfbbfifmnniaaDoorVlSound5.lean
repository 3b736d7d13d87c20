/- Values without memory: the operations keep the relation: slice literals, append, slicing, conversions. -/
import Derived.Test.YtbhfbbfifmnniaaDoorVlSound4
set_option linter.unusedSimpArgs false
set_option linter.unusedVariables false
namespace Go.Vl
open Go Go.RowKit

section
variable {P : Program} {G : Gl} {tr : List Nat} {n : Nat} {I0 : Ft} {M : Mx} {w0 : World} {I : Ft} {β : Nat → Option Nat} {ob : Loc → Option Nat} {s : S} {a : Act} {w : World} {o : Oper}
  {next : Act → World → Prop} {Q : Exit → Act → World → Prop} {base : Nat → Prop} {v : Value} {x y : V} {K : V → Prop}

theorem flatten_get {α : Type} {sz : Nat} : ∀ (es : List (List α)), (∀ e ∈ es, e.length = sz) → ∀ i j, j < sz → es.flatten[i * sz + j]? = (es[i]?).bind (·[j]?)
  | [], _, i, j, _ => by simp
  | e :: es, h, i, j, hj => by
    have he : e.length = sz := h e (by simp)
    cases i with
    | zero =>
      simp only [List.flatten_cons, Nat.zero_mul, Nat.zero_add, List.getElem?_cons_zero, Option.bind_some]
      rw [List.getElem?_append_left (by omega)]
    | succ i =>
      simp only [List.flatten_cons, List.getElem?_cons_succ]
      rw [List.getElem?_append_right (by rw [he, Nat.succ_mul]; omega), ← flatten_get es (fun e he => h e (by simp [he])) i j hj]
      congr 1
      rw [he, Nat.succ_mul]; omega

theorem flatten_length {α : Type} {sz : Nat} : ∀ (es : List (List α)), (∀ e ∈ es, e.length = sz) → es.flatten.length = es.length * sz
  | [], _ => by simp
  | e :: es, h => by
    have he : e.length = sz := h e (by simp)
    simp only [List.flatten_cons, List.length_append, List.length_cons, he, flatten_length es (fun e he => h e (by simp [he])), Nat.succ_mul]
    omega

theorem flatten_set {sz : Nat} {ds : List C} (hd : ds.length = sz) : ∀ (es : List (List C)), (∀ e ∈ es, e.length = sz) → ∀ i, i < es.length → (es.set i ds).flatten = setAt es.flatten (i * sz) ds
  | [], _, i, hi => by simp at hi
  | e :: es, h, i, hi => by
    have he : e.length = sz := h e (by simp)
    cases i with
    | zero => simp [setAt, hd, ← he]
    | succ i =>
      have ih := flatten_set hd es (fun e he => h e (by simp [he])) i (by simpa using hi)
      simp only [List.set_cons_succ, List.flatten_cons, ih, setAt]
      have h1 : (i + 1) * sz = e.length + i * sz := by rw [he, Nat.succ_mul]; omega
      rw [h1, List.take_length_add_append, Nat.add_assoc, List.drop_length_add_append]
      simp [List.append_assoc]

theorem fillA_ok {sz : Nat} : ∀ (vs : List (Nat × Value)) (xs : List (Nat × V)) (cells : Array Value) (es es' : List (List C)), Parts base I β w vs xs → Cells I w cells es.flatten → (∀ e ∈ es, e.length = sz) → fillA sz xs es = some es' →
      ∃ cells', Instr.fill (fun i => some (i * sz, sz)) cells vs = some cells' ∧ Cells I w cells' es'.flatten ∧ (∀ e ∈ es', e.length = sz) ∧ es'.length = es.length
  | [], [], cells, es, es', _, hc, hs, h => ⟨cells, rfl, by simp only [fillA, Option.some.injEq] at h; subst h; exact ⟨hc, hs, rfl⟩⟩
  | (i, v) :: vs, (j, x) :: xs, cells, es, es', hps, hc, hs, h => by
    obtain ⟨rfl, ⟨ox, hx⟩, hps⟩ := hps
    simp only [fillA] at h
    split at h
    · rename_i ds hds
      split at h
      · rename_i hlen
        have hd := cs_ok hx hds
        have hbound : i * sz + sz ≤ es.length * sz := by rw [← Nat.succ_mul]; exact Nat.mul_le_mul_right _ hlen.2
        have hfl := flatten_length es hs
        have hstep := fill_step hc hd (off := i * sz) (by rw [hfl, hlen.1]; exact hbound)
        rw [← flatten_set hlen.1 es hs i hlen.2] at hstep
        obtain ⟨cells', e1, e2, e3, e4⟩ := fillA_ok vs xs _ _ es' hps hstep (fun e he => by
          rcases List.mem_or_eq_of_mem_set he with he | he
          · exact hs e he
          · rw [he]; exact hlen.1) h
        refine ⟨cells', ?_, e2, e3, by simpa using e4⟩
        have h1 : v.cells.size = sz := by rw [hd.1]; exact hlen.1
        have h2 : cells.size = es.flatten.length := hc.1
        simp only [Instr.fill]
        rw [if_neg (by simp [h1, h2, hfl]; exact hbound)]
        exact e1
      · cases h
    · cases h
  | [], _ :: _, _, _, _, hps, _, _, _ => hps.elim
  | _ :: _, [], _, _, _, hps, _, _, _ => hps.elim

/-- A slice over a row of its own, from the row's beginning. -/
theorem CR.row {I' : Ft} {w' : World} {blk cap sz : Nat} {cur : Array Value} {T : TypeId} {fr : Nat × Nat} {es : List (List C)} (hh : w'.heap[blk]? = some (.cells cur T fr)) (hcap : es.length ≤ cap) (hs : ∀ e ∈ es, e.length = sz)
    (hc : ∀ j c, es.flatten[j]? = some c → j < cur.size ∧ CR I' w' (cur.getD j undef) c) (hI : ∀ o, o < es.length * sz → I' blk o) :
    CR I' w' (.slice (some ⟨blk, 0, none⟩) es.length cap) (.sl es) := by
  have hfl := flatten_length es hs
  have hidx : ∀ i j, i < es.length → j < sz → i * sz + j < es.length * sz := fun i j hi hj => by
    have : (i + 1) * sz ≤ es.length * sz := Nat.mul_le_mul_right _ hi
    rw [Nat.succ_mul] at this; omega
  refine .sl blk 0 cap sz es (fun i j => cur.getD (i * sz + j) undef) hcap hs (fun i j hi hj => ?_) (fun i j e c he hc' => ?_)
  · have hlt := hidx i j hi hj
    obtain ⟨c, hcc⟩ : ∃ c, es.flatten[i * sz + j]? = some c := ⟨_, List.getElem?_eq_getElem (by omega)⟩
    have hlt' := (hc _ c hcc).1
    rw [Nat.zero_add]
    refine ⟨?_, hI _ hlt⟩
    rw [cell_of_row w' blk (i * sz + j) cur T fr hh]
    simp [Array.getElem?_eq_getElem hlt']
  · have hi := (List.getElem?_eq_some_iff.1 he).1
    have hj : j < sz := by rw [← hs e (List.mem_of_getElem? he)]; exact (List.getElem?_eq_some_iff.1 hc').1
    have := flatten_get es hs i j hj
    rw [he] at this
    exact (hc _ c (by rw [this]; exact hc')).2

theorem St.fresh (hst : St G n I0 M w0 I β ob s a w) {b : Nat} (hb : w.heap.size ≤ b) : (∀ L, ob L ≠ some b) ∧ ∀ i, β i ≠ some b := by
  refine ⟨fun L hL => ?_, fun i hi => ?_⟩
  · have := (hst.obnd L b hL).1; omega
  · by_cases h : i < s.nb
    · obtain ⟨blk, cur, T, e1, _, e3, _⟩ := hst.bx i h
      rw [hi] at e1
      cases e1
      have := (Array.getElem?_eq_some_iff.1 e3).1
      omega
    · rw [hst.bnone i (by omega)] at hi; cases hi

/-- A new row of its own, owned: what an operation that lays one leaves. -/
theorem SE.finRow (hst : St G n I0 M w0 I β ob s a w) (hd : ∀ d, o.dst = some d → d < n) {w1 : World} {cur : Array Value} {e : TypeId} {cap sz : Nat} {es : List (List C)}
    (hst1 : St G n I0 M w0 I β ob s a w1) (hw : w1.heap.size = w.heap.size) (hcap : es.length ≤ cap) (hm : cap ≤ maxLen) (hcs : cur.size = cap * sz) (hs : ∀ x ∈ es, x.length = sz)
    (hc : ∀ j c, es.flatten[j]? = some c → CR I w (cur.getD j undef) c) (hsame : ∀ b o, I b o → w1.cell? ⟨b, o, none⟩ = w.cell? ⟨b, o, none⟩) :
    SE G n I0 M w0 (s.after tr o (.ow (some (e, sz)) es)) (a.put o.dst (.slice (some ⟨w1.heap.size, 0, none⟩) es.length cap)) (w1.alloc (.cells cur e)) := by
  have hg := hst1.grow (w' := w1.alloc (.cells cur e)) (I' := fun b k => I b k ∨ (b = w1.heap.size ∧ k < es.length * sz)) (World.grownBy_alloc w1 _ none) (fun _ _ h => .inl h) (fun b k hb => by
    rcases hb with hb | hb
    · exact .inl hb
    · exact .inr ⟨by omega, by rw [World.size_alloc]; omega⟩)
  have hfl := flatten_length es hs
  have hmono : ∀ b o, I b o → (I b o ∨ (b = w1.heap.size ∧ o < es.length * sz)) ∧ (w1.alloc (.cells cur e)).cell? ⟨b, o, none⟩ = w.cell? ⟨b, o, none⟩ := fun b o h => ⟨.inl h, by
    rw [← hsame b o h]; exact World.cell?_of_block (a := ⟨b, o, none⟩) (Below.heap_alloc w1 _ b (by rw [hw]; exact hst.ibnd b o h))⟩
  have hle : es.length * sz ≤ cap * sz := Nat.mul_le_mul_right _ hcap
  have hcr : CR (fun b k => I b k ∨ (b = w1.heap.size ∧ k < es.length * sz)) (w1.alloc (.cells cur e)) (.slice (some ⟨w1.heap.size, 0, none⟩) es.length cap) (.sl es) :=
    CR.row (heap_alloc_new w1 _) hcap hs (fun j c hj => ⟨by
      have := (List.getElem?_eq_some_iff.1 hj).1
      rw [hcs]; omega, (hc j c hj).mono hmono⟩) (fun k hk => .inr ⟨rfl, hk⟩)
  refine .fin hg hd (o' := some w1.heap.size) (by
    simp only [LR]
    refine ⟨hcr, .inr ⟨e, w1.heap.size, cap, cur, sz, rfl, rfl, rfl, .inl hst1.below.size, heap_alloc_new w1 _, hcap, hm, hcs, hs, fun k hk => ?_⟩⟩
    rcases hk with hk | hk
    · have := hst1.ibnd _ _ hk; omega
    · exact hk.2) (fun b hb => ?_)
  simp only [Option.some.injEq] at hb
  subst hb
  obtain ⟨f1, f2⟩ := hst1.fresh (Nat.le_refl _)
  exact ⟨⟨by rw [World.size_alloc]; omega, .inl hst1.below.size⟩, f2, fun L hL => absurd hL (f1 L)⟩

theorem run_buildSlice' (w : World) (t e : TypeId) (len : Nat) (parts : Array (Nat × Value)) (cells : Array Value) (ie : TypeInfo) (z : Value)
    (hu : P.underlying t = some (.slice e)) (hie : P.info? e = some ie) (hz : ie.zero = some z) (hsmall : len * ie.size ≤ 2 ^ 24)
    (h : Instr.fill (fun i => some (i * ie.size, ie.size)) ((Array.range (len * ie.size)).map (z.cells[· % z.cells.size]!)) parts.toList = some cells) :
    (Instr.buildSlice t len parts).run P w = .ok (.slice (some ⟨w.heap.size, 0, none⟩) len len) (w.alloc (.cells cells e)) := by
  by_cases hpos : len * ie.size = 0
  · have h0 : ((Array.range (len * ie.size)).map (z.cells[· % z.cells.size]!)) = #[] := by rw [hpos]; simp
    rw [h0] at h
    have h0' : ((Array.range (len * ie.size)).map ((#[] : Array Value)[· % (#[] : Array Value).size]!)) = #[] := by rw [hpos]; simp
    have hn : ¬ 16777216 < len * ie.size := by omega
    unfold Instr.buildSlice
    simp only [Sem.run_bind, run_underlying hu, Result.andThen_ok, sizeOf, typeInfo, run_program, hie, Sem.run_pure]
    rw [if_neg (by simpa using hn), if_pos hpos]
    simp only [Sem.run_bind, Sem.run_pure, Result.andThen_ok, h0', h]
    simp [newRow]
  · exact run_buildSlice w t e len parts cells ie z hu hie hz (by omega) hpos h

theorem zeros_ok {z : Value} {zs : List C} (hz : Cells I w z.cells zs) (hpos : 0 < zs.length) (len : Nat) :
    Cells I w ((Array.range (len * zs.length)).map (z.cells[· % z.cells.size]!)) (List.replicate len zs).flatten := by
  refine ⟨by simp, fun j c hc => ?_⟩
  have hj : j < len * zs.length := by
    have := (List.getElem?_eq_some_iff.1 hc).1
    simpa using this
  have hjm : j % zs.length < zs.length := Nat.mod_lt _ hpos
  have hdiv : j / zs.length < len := by rw [Nat.div_lt_iff_lt_mul hpos]; exact hj
  have e1 : j = j / zs.length * zs.length + j % zs.length := by rw [Nat.mul_comm]; exact (Nat.div_add_mod j zs.length).symm
  have hc' : zs[j % zs.length]? = some c := by
    rw [e1, flatten_get (sz := zs.length) _ (by intro e he; rw [List.eq_of_mem_replicate he]) _ _ hjm] at hc
    rw [List.getElem?_replicate, if_pos hdiv] at hc
    simpa using hc
  have hsz : z.cells.size = zs.length := hz.1
  have : ((Array.range (len * zs.length)).map (z.cells[· % z.cells.size]!)).getD j undef = z.cells.getD (j % zs.length) undef := by
    simp [hj, hsz, getElem!_def, Array.getElem?_eq_getElem (show j % zs.length < z.cells.size by omega)]
  rw [this]
  exact hz.2 _ c hc'

/-- A new slice, as a box. -/
theorem vbuildNew_sound {T : TypeId} {len : Nat} {parts : Array (Nat × Operand)} {K : S → Prop} {d : Option Tmp} (hst : St G n I0 M w0 I β ob s a w)
    (h : vbuildSlice P T len (parts.toList.map fun (i, x) => (i, ev G s x)) (vnew s d len len K)) :
    ∃ (e : TypeId) (sz : Nat) (es : List (List C)) (cells : Array Value), K ({ s with bx := up s.bx s.nb (es.flatten.map .c), nb := s.nb + 1 }.put d (.ms s.nb 0 len len sz)) ∧
      (Instr.buildSlice T len (parts.map fun (i, x) => (i, a.eval x))).run P w = .ok (.slice (some ⟨w.heap.size, 0, none⟩) len len) (w.alloc (.cells cells e)) ∧ Cells I w cells es.flatten := by
  unfold vbuildSlice at h
  split at h
  · rename_i e _ _ _ _ _ _ hi
    obtain ⟨j, d, h1, h2, h3, _⟩ := ti_spec hi
    have hd' := kdOf_slice h3
    subst hd'
    split at h
    · rename_i sz _ _ z _ _ hje
      obtain ⟨j', d', h1', h2', _, hsz', _, _, hz', _⟩ := ti_spec hje
      simp only at hz' hsz'
      obtain ⟨⟨hp, hzl, hsm⟩, h⟩ := h
      split at hz'
      · rename_i zv hzv
        split at h
        · rename_i es hes
          have hzc := zero_ok (I := I) (w := w) hz'.symm
          obtain ⟨cells, e1, e2, e3, e4⟩ := fillA_ok (sz := sz) _ _ _ (List.replicate len z) es (parts_ok hst parts.toList) (zeros_ok hzc (by omega) len) (by intro q hq; rw [List.eq_of_mem_replicate hq]; exact hzl) hes
          have hrun := run_buildSlice' (P := P) w T e len (parts.map fun (i, x) => (i, a.eval x)) cells j' zv h2 h1' hzv (by rw [← hsz']; omega) (by
            rw [← hsz', ← hzl]
            rw [← hzl] at e1
            simpa using e1)
          by_cases hl0 : len = 0
          · rw [if_pos hl0] at h; exact h.elim
          · rw [if_neg hl0] at h; exact ⟨e, sz, es, cells, h, hrun, e2⟩
        · exact h.elim
      · cases hz'
    · exact h.elim
  · exact h.elim

theorem vmake_sound {T : TypeId} {l c : Operand} {K : Nat → Nat → Nat → List C → Prop} (hst : St G n I0 M w0 I β ob s a w) (h : vmake P T (ev G s l) (ev G s c) K) :
    ∃ (e : TypeId) (p m sz : Nat) (z : List C) (cells : Array Value), K p m sz z ∧ p ≤ m ∧
      (Instr.makeSlice T (a.eval l) (a.eval c)).run P w = .ok (.slice (some ⟨w.heap.size, 0, none⟩) p m) (w.alloc (.cells cells e)) ∧ Cells I w cells (List.replicate m z).flatten := by
  unfold vmake at h
  split at h
  · rename_i e _ _ _ _ _ _ kl p kc m hi hl hc
    obtain ⟨j, d, h1, h2, h3, _⟩ := ti_spec hi
    have hd' := kdOf_slice h3
    subst hd'
    split at h
    · rename_i sz by_ _ z _ _ hje
      obtain ⟨j', d', h1', h2', _, hsz', hby', _, hz', _⟩ := ti_spec hje
      simp only at hz' hsz' hby'
      obtain ⟨⟨hp, hzl, h0, hle, hb, h63⟩, h⟩ := h
      split at hz'
      · rename_i zv hzv
        have hzc := zero_ok (I := I) (w := w) hz'.symm
        have e1 : a.eval l = .int kl p := by have := ev_sound hst l; rw [hl] at this; exact this.lit
        have e2 : a.eval c = .int kc m := by have := ev_sound hst c; rw [hc] at this; exact this.lit
        refine ⟨e, _, _, sz, z, _, h, by omega, by rw [e1, e2]; exact run_make w T e j' zv h2 h1' hzv kl kc p m h0 hle (by rw [← hby']; exact hb) h63, ?_⟩
        rw [← hsz', ← hzl]
        exact zeros_ok hzc (by omega) m.toNat
      · cases hz'
    · exact h.elim
  · exact h.elim

theorem vbuildSlice_sound {T : TypeId} {len : Nat} {parts : Array (Nat × Operand)} (hst : St G n I0 M w0 I β ob s a w) (hd : ∀ d, o.dst = some d → d < n)
    (h : vbuildSlice P T len (parts.toList.map fun (i, x) => (i, ev G s x)) K) :
    ∃ z u w', K z ∧ (Instr.buildSlice T len (parts.map fun (i, x) => (i, a.eval x))).run P w = .ok u w' ∧ SE G n I0 M w0 (s.after tr o z) (a.put o.dst u) w' := by
  unfold vbuildSlice at h
  split at h
  · rename_i e _ _ _ _ _ _ hi
    obtain ⟨j, d, h1, h2, h3, _⟩ := ti_spec hi
    have hd' := kdOf_slice h3
    subst hd'
    split at h
    · rename_i sz _ _ z _ _ hje
      obtain ⟨j', d', h1', h2', _, hsz', _, _, hz', _⟩ := ti_spec hje
      simp only at hz' hsz'
      obtain ⟨⟨hp, hzl, hsm⟩, h⟩ := h
      split at hz'
      · rename_i zv hzv
        split at h
        · rename_i es hes
          have hzc := zero_ok (I := I) (w := w) hz'.symm
          obtain ⟨cells, e1, e2, e3, e4⟩ := fillA_ok (sz := sz) _ _ _ (List.replicate len z) es (parts_ok hst parts.toList) (zeros_ok hzc (by omega) len) (by intro q hq; rw [List.eq_of_mem_replicate hq]; exact hzl) hes
          have hel : es.length = len := by simpa using e4
          have hrun := run_buildSlice' (P := P) w T e len (parts.map fun (i, x) => (i, a.eval x)) cells j' zv h2 h1' hzv (by rw [← hsz']; omega) (by
            rw [← hsz', ← hzl]
            rw [← hzl] at e1
            simpa using e1)
          by_cases hl0 : len = 0
          · rw [if_pos hl0] at h
            refine ⟨_, _, _, h, hrun, ?_⟩
            have hes0 : es = [] := List.eq_nil_of_length_eq_zero (by omega)
            subst hes0
            subst hl0
            refine .fin (hst.allocOwn _) hd (o' := none) ⟨?_, .inl ⟨rfl, rfl, _, rfl⟩⟩ (fun _ h => by cases h)
            exact .sl _ _ 0 0 [] (fun _ _ => undef) (Nat.le_refl _) (by simp) (by simp) (by simp)
          rw [if_neg hl0] at h
          refine ⟨_, _, _, h, hrun, ?_⟩
          have := SE.finRow (tr := tr) (o := o) (e := e) (cap := len) (sz := sz) (cur := cells) (es := es) hst hd hst rfl (by omega) (by
              have : len ≤ len * sz := Nat.le_mul_of_pos_right _ hp
              unfold maxLen; omega) (by rw [e2.1, flatten_length es e3, hel]) e3 e2.2 (fun _ _ _ => rfl)
          rw [hel] at this
          exact this
        · exact h.elim
      · cases hz'
    · exact h.elim
  · exact h.elim

end
end Go.Vl
