/- Values without memory: the operations keep the relation: append. -/
import Derived.Test.YtbhfbbfifmnniaaDoorVlSound5
set_option linter.unusedSimpArgs false
set_option linter.unusedVariables false
namespace Go.Vl
open Go Go.RowKit

section
variable {P : Program} {G : Gl} {tr : List Nat} {n : Nat} {I0 : Ft} {M : Mx} {w0 : World} {I : Ft} {β : Nat → Option Nat} {ob : Loc → Option Nat} {s : S} {a : Act} {w : World} {o : Oper}
  {next : Act → World → Prop} {Q : Exit → Act → World → Prop} {base : Nat → Prop} {v : Value} {x y : V} {K : V → Prop}

theorem flatX {J : Ft} {b off sz sz' : Nat} {es : List (List C)} {f : Nat → Nat → Value} (hs : ∀ x ∈ es, x.length = sz) (hs' : ∀ e ∈ es, e.length = sz')
    (hcell : ∀ i j, i < es.length → j < sz' → w.cell? ⟨b, off + i * sz' + j, none⟩ = some (f i j) ∧ J b (off + i * sz' + j)) (hrel : ∀ i j e c, es[i]? = some e → e[j]? = some c → CR I w (f i j) c) :
    ∃ vs : List Value, vs.length = es.length * sz ∧ (∀ (q : Nat) (u : Value), vs[q]? = some u → w.cell? ⟨b, off + q, none⟩ = some u ∧ J b (off + q)) ∧
      (∀ (q : Nat) (c : C), es.flatten[q]? = some c → ∃ u, vs[q]? = some u ∧ CR I w u c) ∧ (∀ u ∈ vs, u.oneCell' = true) := by
  have hfl := flatten_length es hs
  by_cases h0 : es.length * sz = 0
  · refine ⟨[], by simp [h0], by simp, fun q c hq => ?_, by simp⟩
    have := (List.getElem?_eq_some_iff.1 hq).1
    omega
  have hsz0 : 0 < sz := Nat.pos_of_ne_zero fun e => h0 (by simp [e])
  have hel : 0 < es.length := Nat.pos_of_ne_zero fun e => h0 (by simp [e])
  have hsz : sz' = sz := by rw [← hs' es[0] (List.getElem_mem _), hs es[0] (List.getElem_mem _)]
  subst hsz
  have hin : ∀ q, q < es.length * sz' → q / sz' < es.length ∧ q % sz' < sz' ∧ q = q / sz' * sz' + q % sz' := fun q hq =>
    ⟨by rw [Nat.div_lt_iff_lt_mul hsz0]; exact hq, Nat.mod_lt _ hsz0, by rw [Nat.mul_comm]; exact (Nat.div_add_mod q sz').symm⟩
  have hflat : ∀ (q : Nat) (c : C), es.flatten[q]? = some c → q < es.length * sz' ∧ CR I w (f (q / sz') (q % sz')) c := fun q c hq => by
    have hlt := (List.getElem?_eq_some_iff.1 hq).1
    rw [hfl] at hlt
    obtain ⟨h1, h2, h3⟩ := hin q hlt
    rw [h3, flatten_get es hs _ _ h2] at hq
    simp only [List.getElem?_eq_getElem h1, Option.bind_some] at hq
    exact ⟨hlt, hrel _ _ _ c (List.getElem?_eq_getElem h1) hq⟩
  refine ⟨(List.range (es.length * sz')).map fun q => f (q / sz') (q % sz'), by simp, fun q u hq => ?_, fun q c hq => ?_, fun u hu => ?_⟩
  · simp only [List.getElem?_map, Option.map_eq_some_iff] at hq
    obtain ⟨q', hq', rfl⟩ := hq
    have hlt := (List.getElem?_eq_some_iff.1 hq').1
    simp at hlt
    have hqq : q' = q := by have := (List.getElem?_eq_some_iff.1 hq').2; simpa using this.symm
    subst hqq
    obtain ⟨h1, h2, h3⟩ := hin q' hlt
    have := hcell _ _ h1 h2
    rw [Nat.add_assoc, ← h3] at this
    exact this
  · obtain ⟨hlt, hcr⟩ := hflat q c hq
    exact ⟨_, by simp [hlt], hcr⟩
  · simp only [List.mem_map, List.mem_range] at hu
    obtain ⟨q, hq, rfl⟩ := hu
    obtain ⟨c, hc⟩ : ∃ c, es.flatten[q]? = some c := ⟨_, List.getElem?_eq_getElem (by omega)⟩
    exact (hflat q c hc).2.oneCell

/-- The cells of a slice's elements, in a row. -/
theorem CR.flat {b off cap sz : Nat} {es : List (List C)} (h : CR I w (.slice (some ⟨b, off, none⟩) es.length cap) (.sl es)) (hs : ∀ x ∈ es, x.length = sz) :
    ∃ vs : List Value, vs.length = es.length * sz ∧ (∀ (q : Nat) (u : Value), vs[q]? = some u → w.cell? ⟨b, off + q, none⟩ = some u ∧ I b (off + q)) ∧
      (∀ (q : Nat) (c : C), es.flatten[q]? = some c → ∃ u, vs[q]? = some u ∧ CR I w u c) ∧ (∀ u ∈ vs, u.oneCell' = true) := by
  rcases h.sl_inv with ⟨_, rfl⟩ | ⟨b', off', cap', sz', f, hv, hcap, hs', hcell, hrel⟩
  · exact ⟨[], by simp, by simp, by simp, by simp⟩
  simp only [Value.slice.injEq, Option.some.injEq, Addr.mk.injEq, and_true, true_and] at hv
  obtain ⟨⟨rfl, rfl⟩, rfl⟩ := hv
  exact flatX hs hs' hcell hrel

/-- The same, from whatever place a slice begins at. -/
theorem CR.oldsOf {xa : Addr} {cap sz : Nat} {es : List (List C)} (h : CR I w (.slice (some xa) es.length cap) (.sl es)) (hs : ∀ x ∈ es, x.length = sz) :
    ∃ vs : List Value, vs.length = es.length * sz ∧ (∀ (q : Nat) (u : Value), vs[q]? = some u → w.cell? (xa.add q) = some u) ∧
      (∀ (q : Nat) (c : C), es.flatten[q]? = some c → ∃ u, vs[q]? = some u ∧ CR I w u c) ∧ (∀ u ∈ vs, u.oneCell' = true) := by
  by_cases hne : es = []
  · subst hne; exact ⟨[], by simp, by simp, by simp, by simp⟩
  · rcases h.sl_inv with ⟨_, h0⟩ | ⟨b, off, cap', _, _, hv, _⟩
    · exact absurd h0 hne
    · simp only [Value.slice.injEq, Option.some.injEq] at hv
      obtain ⟨rfl, _, _⟩ := hv
      obtain ⟨vs, h1, h2, h3, h4⟩ := h.flat hs
      exact ⟨vs, h1, fun q u hq => by rw [Addr.add_lit]; exact (h2 q u hq).1, h3, h4⟩

theorem RD.flat {b off cap sz : Nat} {es : List (List C)} (h : RD I w (.slice (some ⟨b, off, none⟩) es.length cap) es) (hs : ∀ x ∈ es, x.length = sz) :
    ∃ vs : List Value, vs.length = es.length * sz ∧ (∀ (q : Nat) (u : Value), vs[q]? = some u → w.cell? ⟨b, off + q, none⟩ = some u ∧ True) ∧
      (∀ (q : Nat) (c : C), es.flatten[q]? = some c → ∃ u, vs[q]? = some u ∧ CR I w u c) ∧ (∀ u ∈ vs, u.oneCell' = true) := by
  rcases h with ⟨_, rfl⟩ | ⟨b', off', cap', sz', f, hv, hcap, hs', hcell, hrel⟩
  · exact ⟨[], by simp, by simp, by simp, by simp⟩
  simp only [Value.slice.injEq, Option.some.injEq, Addr.mk.injEq, and_true, true_and] at hv
  obtain ⟨⟨rfl, rfl⟩, rfl⟩ := hv
  exact flatX (J := fun _ _ => True) hs hs' (fun i j hi hj => ⟨hcell i j hi hj, trivial⟩) hrel

theorem RD.some' {a' : Option Addr} {n m : Nat} {es : List (List C)} (h : RD I w (.slice a' n m) es) (hne : es ≠ []) : ∃ b off, a' = some ⟨b, off, none⟩ := by
  rcases h with ⟨_, h0⟩ | ⟨b, off, cap, sz, f, hv, _⟩
  · exact absurd h0 hne
  · cases hv; exact ⟨b, off, rfl⟩


theorem St.growRow (h : St G n I0 M w0 I β ob s a w) {w' : World} {r : Nat} (hg : w.grownBy w' (some r)) (hr : Wr M w0 r) (hcell : ∀ o, I r o → w'.cell? ⟨r, o, none⟩ = w.cell? ⟨r, o, none⟩)
    (hob : ∀ L, ob L ≠ some r) (hβ : ∀ i, β i ≠ some r) {I' : Ft} (h1 : ∀ b o, I b o → I' b o) (h2 : ∀ b o, I' b o → I b o ∨ b = r) (hlt : r < w'.heap.size) : St G n I0 M w0 I' β ob s a w' := by
  have hk := h.keeps hg (fun r' e o ho => by cases e; exact hcell o ho)
  have hI : ∀ b o, I b o → I' b o ∧ w'.cell? ⟨b, o, none⟩ = w.cell? ⟨b, o, none⟩ := fun b o hb => ⟨h1 b o hb, hk b o hb⟩
  have hob' : ∀ L b, ob L = some b → w'.heap[b]? = w.heap[b]? ∧ ∀ o, I' b o → I b o := fun L b hL => by
    have hne : b ≠ r := fun e => hob L (e ▸ hL)
    refine ⟨hg.block b (h.obnd L b hL).1 (by simpa using hne), fun o ho => ?_⟩
    rcases h2 b o ho with h5 | h5
    · exact h5
    · exact absurd h5 hne
  exact {
    size := h.size, defers := h.defers
    below := h.below.grown hg (fun k e => by cases e; exact hr)
    kept := fun b o h0 => (hk b o (h.ilow b o h0)).trans (h.kept b o h0)
    ilow := fun b o hb => h1 b o (h.ilow b o hb)
    ihigh := fun b o hb => by
      rcases h2 b o hb with h3 | h3
      · exact h.ihigh b o h3
      · exact .inr (by rw [h3]; exact hr)
    ibnd := fun b o hb => by
      rcases h2 b o hb with h3 | h3
      · exact Nat.lt_of_lt_of_le (h.ibnd b o h3) hg.size
      · rw [h3]; exact hlt
    fr := fun t => (h.fr t).mono hI (fun _ _ e => e) (hob' (.t t))
    bx := fun i hi => by
      obtain ⟨blk, cur, T, e1, e2, e3, e4, e5, e6, e7⟩ := h.bx i hi
      have hlt' : blk < w.heap.size := (Array.getElem?_eq_some_iff.1 e3).1
      have hne : blk ≠ r := fun e => hβ i (e ▸ e1)
      refine ⟨blk, cur, T, e1, e2, (hg.block blk hlt' (by simpa using hne)).trans e3, e4, fun j => (e5 j).mono hI (fun _ _ e => e) (hob' (.b i j)), e6, fun o ho => ?_⟩
      rcases h2 blk o ho with h3 | h3
      · exact e7 o h3
      · exact hne h3
    bnone := h.bnone, ext := h.ext, bnew := h.bnew, binj := h.binj, oinj := h.oinj, obx := h.obx
    obnd := fun L b hL => ⟨Nat.lt_of_lt_of_le (h.obnd L b hL).1 hg.size, (h.obnd L b hL).2⟩
    glob := fun g cs hg' => (h.glob g cs hg').mono hI }

theorem run_append_zero (T ty e : TypeId) (i : TypeInfo) (ht : P.underlying T = some (.slice e)) (hi : P.info? e = some i) (b : Option Addr) (k cap : Nat) (hk : k ≤ cap) (xa : Option Addr) (c : Nat) :
    (Builtin.append_ #[T, T] ty #[.slice b k cap, .slice xa 0 c]).run P w = .ok (.slice b k cap) w := by
  have hf : (Builtin.firstCells i.size 0 (.slice xa 0 c)).run P w = .ok #[] w := by
    cases xa with
    | none => rfl
    | some x => simp [Builtin.firstCells, loadCells, loadCellsFrom]
  unfold Builtin.append_
  cases b <;> simp [run_underlying ht, sizeOf, typeInfo, hi, Builtin.lenOf, hk, hf, storeCells]

theorem CR.sl_nil {a' : Option Addr} {k c : Nat} {es : List (List C)} (h : CR I w (.slice a' k c) (.sl es)) : k = es.length ∧ k ≤ c := by
  rcases h.sl_inv with ⟨h0, h1⟩ | ⟨b, off, cap, sz, f, hv, hcap, _⟩
  · obtain ⟨a, cap, h0, _⟩ := h0; cases h0; simp [h1]
  · cases hv; exact ⟨rfl, hcap⟩

theorem CR.sl_some {a' : Option Addr} {k c : Nat} {es : List (List C)} (h : CR I w (.slice a' k c) (.sl es)) (h0 : es ≠ []) : ∃ b off, a' = some ⟨b, off, none⟩ := by
  rcases h.sl_inv with ⟨_, h1⟩ | ⟨b, off, cap, sz, f, hv, _⟩
  · exact absurd h1 h0
  · cases hv; exact ⟨b, off, rfl⟩

theorem getD_append_zeros (olds news : List Value) (z : Array Value) (j : Nat) (u : Value) (h : (olds ++ news)[j]? = some u) : (olds.toArray ++ news.toArray ++ z).getD j undef = u := by
  have hlt := (List.getElem?_eq_some_iff.1 h).1
  simp at hlt
  have : (olds.toArray ++ news.toArray ++ z)[j]? = some u := by
    rw [Array.getElem?_append_left (by simp; omega)]
    simpa using h
  rw [Array.getD_eq_getD_getElem?, this]; rfl

theorem vappend_sound {T ty : TypeId} {X : Operand} {vy : Value} (hst : St G n I0 M w0 I β ob s a w) (hd : ∀ d, o.dst = some d → d < n)
    (hcon : consT tr o = (match X with | .tmp t => some t | _ => none)) (h : vappend P T (ev G s X) y K) (hy : ∀ ys, y = .c (.sl ys) → RD I w vy ys) :
    ∃ z u w', K z ∧ (Builtin.append_ #[T, T] ty #[a.eval X, vy]).run P w = .ok u w' ∧ SE G n I0 M w0 (s.after tr o z) (a.put o.dst u) w' := by
  have hx := ev_sound hst X
  unfold vappend at h
  split at h
  · rename_i e _ _ _ _ _ _ E es hi hev
    rw [hev] at hx
    obtain ⟨j, d, h1, h2, h3, _⟩ := ti_spec hi
    have hd' := kdOf_slice h3
    subst hd'
    split at h
    · rename_i sz by_ _ z _ _ hje
      obtain ⟨j', d', h1', h2', _, hsz', hby', _, hz', _⟩ := ti_spec hje
      simp only at hz' hsz' hby'
      obtain ⟨⟨hp, hzl, hE, hes⟩, h⟩ := h
      split at hz'
      · rename_i zv hzv
        split at h
        · rename_i ys
          obtain ⟨⟨hb, hlen, hys⟩, h⟩ := h
          have hcy := hy _ rfl
          have hzc := zero_ok (I := I) (w := w) hz'.symm
          have hzsz : zv.cells.size = sz := by rw [hzc.1, hzl]
          obtain ⟨vsl, hvy⟩ : ∃ (p : Option Addr × Nat), vy = .slice p.1 ys.length p.2 := by
            rcases hcy with ⟨h0, h1⟩ | ⟨b, off, cap, _, _, hv, _⟩
            · obtain ⟨a0, c0, h0, _⟩ := h0; exact ⟨(a0, c0), by rw [h0, h1]; rfl⟩
            · exact ⟨(some ⟨b, off, none⟩, cap), hv⟩
          obtain ⟨ya, yc⟩ := vsl
          simp only at hvy
          subst hvy
          have hxo := hx.2
          have hxc := hx.1
          have hisOw : (ev G s X).isOw = true := by rw [hev]; rfl
          by_cases hys0 : ys = []
          · -- nothing is appended
            subst hys0
            simp only [List.isEmpty_nil, if_true] at h
            obtain ⟨xa, xk, hxv, hxk⟩ : ∃ (xa : Option Addr) (xk : Nat), a.eval X = .slice xa es.length xk ∧ es.length ≤ xk := by
              rcases hxo with ⟨_, _, b, hv⟩ | ⟨_, blk, cap, _, _, _, _, hv, _, _, hc, _⟩
              · exact ⟨b, _, hv, Nat.le_refl _⟩
              · exact ⟨_, cap, hv, hc⟩
            refine ⟨_, a.eval X, w, h, by rw [hxv]; exact run_append_zero T ty e j' h2 h1' xa _ xk hxk ya yc, ?_⟩
            rw [List.append_nil]
            refine .fin hst hd (o' := opOb ob X) ?_ fun b hb => ?_
            · simp only [LR]
              refine ⟨hxc, ?_⟩
              rcases hxo with hxo | ⟨e', blk, cap, cur, sz', e1, e2, e3⟩
              · exact .inl hxo
              · exact .inr ⟨e', blk, cap, cur, sz', e1, e2, e3⟩
            · cases X with
              | tmp t => exact ⟨hst.obnd _ b hb, fun i => hst.obx _ b i hb, fun L hL => ⟨t, hst.oinj _ _ b hL hb, hcon, hisOw⟩⟩
              | _ => cases hb
          · have hie : ys.isEmpty = false := by simpa using hys0
            simp only [hie, Bool.false_eq_true, if_false] at h
            obtain ⟨yb, yoff, rfl⟩ := hcy.some' hys0
            obtain ⟨news, hnl, hnews, hnc, hn1⟩ := hcy.flat hys
            have hnews' : ∀ (q : Nat) (u : Value), news[q]? = some u → w.cell? ((⟨yb, yoff, none⟩ : Addr).add q) = some u := fun q u hq => by rw [Addr.add_lit]; exact (hnews q u hq).1
            have hm0 : 0 < ys.length := List.length_pos_iff.2 hys0
            have hall : ∀ x ∈ es ++ ys, x.length = sz := fun x hx => by rcases List.mem_append.1 hx with hx | hx; exact hes x hx; exact hys x hx
            have hmax : es.length + ys.length ≤ maxLen := by unfold maxLen; omega
            have flat_eq : (es ++ ys).flatten = es.flatten ++ ys.flatten := by simp
            have hfe := flatten_length es hes
            -- a new array
            have grownCase : ∀ (olds : List Value) (cap0 : Nat), olds.length = es.length * sz → (∀ (q : Nat) (c : C), es.flatten[q]? = some c → ∃ u, olds[q]? = some u ∧ CR I w u c) →
                SE G n I0 M w0 (s.after tr o (.ow (some (e, sz)) (es ++ ys))) (a.put o.dst (.slice (some ⟨w.heap.size, 0, none⟩) (es.length + ys.length) (grownCap w (es.length + ys.length) cap0 e)))
                  (w.drew.alloc (.cells (olds.toArray ++ news.toArray ++ Builtin.zeroCells zv.cells (grownCap w (es.length + ys.length) cap0 e - (es.length + ys.length))) e)) := by
              intro olds cap0 hol hoc
              have hge := grownCap_ge w (es.length + ys.length) cap0 e
              have hcm := grownCap_le_maxLen w (es.length + ys.length) cap0 e hmax
              have := SE.finRow (tr := tr) (o := o) (e := e) (cap := grownCap w (es.length + ys.length) cap0 e) (sz := sz) (es := es ++ ys)
                (cur := olds.toArray ++ news.toArray ++ Builtin.zeroCells zv.cells (grownCap w (es.length + ys.length) cap0 e - (es.length + ys.length))) hst hd (w1 := w.drew) hst.drew rfl
                (by simpa using hge) hcm (by
                  simp only [Array.size_append, List.size_toArray, size_zeroCells, hzsz, hol, hnl, ← Nat.add_mul]
                  congr 1
                  omega) hall (fun q c hq => by
                    rw [flat_eq] at hq
                    have hget : ∃ u, (olds ++ news)[q]? = some u ∧ CR I w u c := by
                      by_cases hql : q < es.flatten.length
                      · rw [List.getElem?_append_left hql] at hq
                        obtain ⟨u, hu, hcr⟩ := hoc q c hq
                        exact ⟨u, by rw [List.getElem?_append_left (by omega)]; exact hu, hcr⟩
                      · rw [List.getElem?_append_right (by omega)] at hq
                        obtain ⟨u, hu, hcr⟩ := hnc _ c hq
                        refine ⟨u, ?_, hcr⟩
                        rw [List.getElem?_append_right (by omega), ← hu]
                        congr 1; omega
                    obtain ⟨u, hu, hcr⟩ := hget
                    rw [getD_append_zeros olds news _ q u hu]; exact hcr) (fun _ _ _ => rfl)
              rw [List.length_append] at this
              exact this
            rcases hxo with ⟨hob0, _, xa, hxv⟩ | ⟨e', blk, cap, cur, sz', hob1, hEe, hxv, hbb, hheap, hc, hcm, hcs, hls, hIb⟩
            · cases xa with
              | none =>
                have hes0 : es = [] := by
                  rcases hxc.sl_inv with ⟨_, h1⟩ | ⟨b, off, cap, _, _, hv, _⟩
                  · exact h1
                  · rw [hxv] at hv; cases hv
                subst hes0
                have hrun := run_append_nil (P := P) w T ty e j' zv h2 h1' hzv ⟨yb, yoff, none⟩ ys.length yc news (by rw [← hsz']; exact hnl) hnews' hm0 (by simp only [List.length_nil, Nat.zero_add] at hlen; omega) (by rw [← hby']; simp only [List.length_nil, Nat.zero_add] at hb; omega)
                have := grownCase [] 0 (by simp) (by simp)
                simp only [List.nil_append, List.length_nil, Nat.zero_add, Array.empty_append] at this h
                refine ⟨_, _, _, h, by rw [hxv]; exact hrun, ?_⟩
                simpa using this
              | some xaddr =>
                rw [hxv] at hxc
                obtain ⟨olds, hol, holds, hoc, _⟩ := hxc.oldsOf hes
                have hrun := run_append_grow (P := P) w T ty e j' zv h2 h1' hzv xaddr es.length es.length olds (by rw [← hsz']; exact hol) holds
                  ⟨yb, yoff, none⟩ ys.length yc news (by rw [← hsz']; exact hnl) hnews' (by omega) (by omega) (by rw [← hby']; exact growslice_fits (by omega) hb)
                exact ⟨_, _, _, h, by rw [hxv]; exact hrun, grownCase olds es.length hol hoc⟩
            · have hee : e' = e ∧ sz' = sz := by
                rcases hE with hE | hE
                · rw [hE] at hEe; cases hEe
                · rw [hE] at hEe; cases hEe; exact ⟨rfl, rfl⟩
              obtain ⟨rfl, rfl⟩ := hee
              rw [hxv] at hxc
              obtain ⟨olds, hol, holds, hoc, _⟩ := hxc.flat hes
              by_cases hroom : es.length + ys.length ≤ cap
              · -- there is room
                cases X with
                | tmp t =>
                  have hobt : ob (.t t) = some blk := hob1
                  have hrun := run_append_room (P := P) w T ty e' j' h2 h1' blk es.length cap cur hheap ⟨yb, yoff, none⟩ ys.length yc news (by rw [← hsz']; exact hnl) hnews' hn1 hroom (by
                    rw [← hsz', hnl, hcs, ← Nat.add_mul]; exact Nat.mul_le_mul_right _ hroom)
                  rw [← hsz'] at hrun
                  refine ⟨_, _, _, h, by rw [hxv]; exact hrun, ?_⟩
                  have hblt : blk < w.heap.size := (Array.getElem?_eq_some_iff.1 hheap).1
                  have hcurlen : es.length * sz' + news.length ≤ cur.size := by
                    rw [hnl, hcs, ← Nat.add_mul]; exact Nat.mul_le_mul_right _ hroom
                  have hst' := hst.clr t
                  have hold : ∀ o, o < es.length * sz' → (cur.toList.take (es.length * sz') ++ news ++ cur.toList.drop (es.length * sz' + news.length)).toArray[o]? = cur[o]? := fun o ho => by
                    simp only [List.getElem?_toArray, List.append_assoc]
                    rw [List.getElem?_append_left (by simp; omega), List.getElem?_take, if_pos ho, Array.getElem?_toList]
                  have hcellsame : ∀ o, I blk o → (w.setRow blk (cur.toList.take (es.length * sz') ++ news ++ cur.toList.drop (es.length * sz' + news.length)).toArray).cell? ⟨blk, o, none⟩ = w.cell? ⟨blk, o, none⟩ := fun o ho => by
                    rw [cell_setRow_same w blk o cur _ e' (0, 0) hheap, cell_of_row w blk o cur e' (0, 0) hheap]
                    exact hold o (hIb o ho)
                  have hnot : ∀ L, upL ob (.t t) none L ≠ some blk := fun L hL => by
                    simp only [upL] at hL
                    split at hL
                    · cases hL
                    · rename_i hne; exact hne (hst.oinj _ _ blk hL hobt)
                  have hg : w.grownBy (w.setRow blk (cur.toList.take (es.length * sz') ++ news ++ cur.toList.drop (es.length * sz' + news.length)).toArray) (some blk) :=
                    ⟨rfl, rfl, rfl, by simp, fun k _ hk => setRow_other w blk k _ (fun e => hk (by rw [e]))⟩
                  have hst2 := hst'.growRow hg hbb hcellsame hnot (fun i => hst.obx _ blk i hobt) (I' := fun b o => I b o ∨ (b = blk ∧ o < (es.length + ys.length) * sz'))
                    (fun _ _ h => .inl h) (fun b o hb => by rcases hb with hb | hb; exact .inl hb; exact .inr hb.1) (by simpa using hblt)
                  have hmono : ∀ b o, I b o → (I b o ∨ (b = blk ∧ o < (es.length + ys.length) * sz')) ∧
                      (w.setRow blk (cur.toList.take (es.length * sz') ++ news ++ cur.toList.drop (es.length * sz' + news.length)).toArray).cell? ⟨b, o, none⟩ = w.cell? ⟨b, o, none⟩ :=
                    fun b o hb => ⟨.inl hb, hst.keeps hg (fun r e o ho => by cases e; exact hcellsame o ho) b o hb⟩
                  have hnewheap := setRow_heap w blk cur (cur.toList.take (es.length * sz') ++ news ++ cur.toList.drop (es.length * sz' + news.length)).toArray e' (0, 0) hheap
                  have hcur' : (cur.toList.take (es.length * sz') ++ news ++ cur.toList.drop (es.length * sz' + news.length)).toArray.size = cap * sz' := by
                    simp only [List.size_toArray, List.length_append, List.length_take, List.length_drop, Array.length_toList]; omega
                  have hcr : CR (fun b o => I b o ∨ (b = blk ∧ o < (es.length + ys.length) * sz')) (w.setRow blk (cur.toList.take (es.length * sz') ++ news ++ cur.toList.drop (es.length * sz' + news.length)).toArray)
                      (.slice (some ⟨blk, 0, none⟩) (es ++ ys).length cap) (.sl (es ++ ys)) :=
                    CR.row hnewheap (by simpa using hroom) hall (fun q c hq => by
                      have hql := (List.getElem?_eq_some_iff.1 hq).1
                      rw [flatten_length _ hall, List.length_append, Nat.add_mul] at hql
                      refine ⟨by rw [hcur', ← hcs]; omega, ?_⟩
                      rw [flat_eq] at hq
                      by_cases hq1 : q < es.flatten.length
                      · rw [List.getElem?_append_left hq1] at hq
                        obtain ⟨u, hu, hcr⟩ := hoc q c hq
                        have hcell := (holds q u hu).1
                        rw [Nat.zero_add, cell_of_row w blk q cur e' (0, 0) hheap] at hcell
                        rw [Array.getD_eq_getD_getElem?, hold q (by omega), hcell]
                        exact hcr.mono hmono
                      · rw [List.getElem?_append_right (by omega)] at hq
                        obtain ⟨u, hu, hcr⟩ := hnc _ c hq
                        have : (cur.toList.take (es.length * sz') ++ news ++ cur.toList.drop (es.length * sz' + news.length)).toArray[q]? = some u := by
                          simp only [List.getElem?_toArray]
                          have htl : (cur.toList.take (es.length * sz')).length = es.length * sz' := by
                            have hcl : cur.toList.length = cur.size := Array.length_toList
                            rw [List.length_take, hcl]; omega
                          rw [List.getElem?_append_left (by rw [List.length_append, htl]; omega), List.getElem?_append_right (by rw [htl]; omega), ← hu, htl, hfe]
                        rw [Array.getD_eq_getD_getElem?, this]
                        exact hcr.mono hmono) (fun o ho => .inr ⟨rfl, by simpa using ho⟩)
                  have hafter : s.after tr o (.ow (some (e', sz')) (es ++ ys)) = (s.clr t).put o.dst (.ow (some (e', sz')) (es ++ ys)) := by
                    unfold S.after
                    rw [hcon]
                    simp only [S.use]
                    have : (s.fr t).isOw = true := hisOw
                    rw [if_pos this]
                  rw [hafter]
                  cases hdst : o.dst with
                  | none => exact ⟨_, _, _, hst2⟩
                  | some dd =>
                    refine ⟨_, _, _, hst2.put dd (hd dd hdst) (o := some blk) ?_ fun b hb => ?_⟩
                    · have hval : Value.slice (some ⟨blk, 0, none⟩) (es.length + ys.length) cap = Value.slice (some ⟨blk, 0, none⟩) (es ++ ys).length cap := by rw [List.length_append]
                      rw [hval]
                      simp only [LR]
                      refine ⟨hcr, .inr ⟨e', blk, cap, _, sz', rfl, rfl, rfl, hbb, hnewheap, by simpa using hroom, hcm, hcur', hall, fun o ho => ?_⟩⟩
                      rw [List.length_append]
                      rcases ho with ho | ho
                      · have := hIb o ho; rw [Nat.add_mul]; omega
                      · exact ho.2
                    · simp only [Option.some.injEq] at hb
                      subst hb
                      refine ⟨⟨by simpa using hblt, hbb⟩, fun L hL => ?_, fun i => hst.obx _ blk i hobt⟩
                      simp only [upL] at hL
                      split at hL
                      · cases hL
                      · split at hL
                        · cases hL
                        · rename_i h5 h6; exact h6 (hst.oinj _ _ blk hL hobt)
                | _ => cases hob1
              · have hrun := run_append_grow (P := P) w T ty e' j' zv h2 h1' hzv ⟨blk, 0, none⟩ es.length cap olds (by rw [← hsz']; exact hol) (fun q u hq => by rw [Addr.add_lit]; exact (holds q u hq).1)
                  ⟨yb, yoff, none⟩ ys.length yc news (by rw [← hsz']; exact hnl) hnews' (by omega) (by omega) (by rw [← hby']; exact growslice_fits (by omega) hb)
                exact ⟨_, _, _, h, by rw [hxv]; exact hrun, grownCase olds cap hol hoc⟩
        · exact h.elim
      · cases hz'
    · exact h.elim
  · exact h.elim

theorem mem_zeroCells {z : Array Value} {m : Nat} {u : Value} (h : u ∈ Builtin.zeroCells z m) : u ∈ z := by
  unfold Builtin.zeroCells at h
  simp only [Array.mem_map, Array.mem_range] at h
  obtain ⟨i, hi, rfl⟩ := h
  have hz : 0 < z.size := Nat.pos_of_ne_zero fun h => by rw [h] at hi; simp at hi
  have hlt : i % z.size < z.size := Nat.mod_lt _ hz
  rw [getElem!_pos z _ hlt]
  exact Array.getElem_mem hlt

/-- What is appended to a slice without room of its own. -/
theorem vappNew_sound {T ty : TypeId} {vx vy : Value} {ox : Option Nat} {es : List (List C)} {d : Option Tmp} {K : S → Prop} (hst : St G n I0 M w0 I β ob s a w)
    (hx : LR (Wr M w0) I β w ox vx (.ow none es)) (h : vappend P T (.ow none es) y (vanK s d K)) (hy : ∀ ys, y = .c (.sl ys) → RD I w vy ys) :
    ∃ (e : TypeId) (sz : Nat) (es' : List (List C)) (cells : Array Value) (cap : Nat), K ({ s with bx := up s.bx s.nb (es'.flatten.map .c), nb := s.nb + 1 }.put d (.ms s.nb 0 es'.length es'.length sz)) ∧
      (Builtin.append_ #[T, T] ty #[vx, vy]).run P w = .ok (.slice (some ⟨w.heap.size, 0, none⟩) es'.length cap) (w.drew.alloc (.cells cells e)) ∧ es'.length ≤ cap ∧ es'.flatten.length ≤ cells.size ∧
      (∀ q c, es'.flatten[q]? = some c → CR I w (cells.getD q undef) c) ∧ (∀ u ∈ cells, u.oneCell' = true) := by
  unfold vappend at h
  split at h
  · rename_i e _ _ _ _ _ _ E es1 hi hev
    cases hev
    obtain ⟨j, d, h1, h2, h3, _⟩ := ti_spec hi
    have hd' := kdOf_slice h3
    subst hd'
    split at h
    · rename_i sz by_ _ z _ _ hje
      obtain ⟨j', d', h1', h2', _, hsz', hby', _, hz', _⟩ := ti_spec hje
      simp only at hz' hsz' hby'
      obtain ⟨⟨hp, hzl, hE, hes⟩, h⟩ := h
      split at hz'
      · rename_i zv hzv
        split at h
        · rename_i ys
          obtain ⟨⟨hb, hlen, hys⟩, h⟩ := h
          by_cases hys0 : ys = []
          · subst hys0
            simp only [List.isEmpty_nil, if_true] at h
            exact h.elim
          have hie : ys.isEmpty = false := by simpa using hys0
          simp only [hie, Bool.false_eq_true, if_false] at h
          have hcy := hy _ rfl
          have hzc := zero_ok (I := I) (w := w) hz'.symm
          have hzsz : zv.cells.size = sz := by rw [hzc.1, hzl]
          obtain ⟨vsl, hvy⟩ : ∃ (p : Option Addr × Nat), vy = .slice p.1 ys.length p.2 := by
            rcases hcy with ⟨h0, h1⟩ | ⟨b, off, cap, _, _, hv, _⟩
            · obtain ⟨a0, c0, h0, _⟩ := h0; exact ⟨(a0, c0), by rw [h0, h1]; rfl⟩
            · exact ⟨(some ⟨b, off, none⟩, cap), hv⟩
          obtain ⟨ya, yc⟩ := vsl
          simp only at hvy
          subst hvy
          have hxo := hx.2
          have hxc := hx.1
          obtain ⟨yb, yoff, rfl⟩ := hcy.some' hys0
          obtain ⟨news, hnl, hnews, hnc, hn1⟩ := hcy.flat hys
          have hnews' : ∀ (q : Nat) (u : Value), news[q]? = some u → w.cell? ((⟨yb, yoff, none⟩ : Addr).add q) = some u := fun q u hq => by rw [Addr.add_lit]; exact (hnews q u hq).1
          have hm0 : 0 < ys.length := List.length_pos_iff.2 hys0
          have hall : ∀ x ∈ es ++ ys, x.length = sz := fun x hx => by rcases List.mem_append.1 hx with hx | hx; exact hes x hx; exact hys x hx
          have hmax : es.length + ys.length ≤ maxLen := by unfold maxLen; omega
          have flat_eq : (es ++ ys).flatten = es.flatten ++ ys.flatten := by simp
          have hfe := flatten_length es hes
          have hfa := flatten_length (es ++ ys) hall
          have zone : ∀ u ∈ zv.cells, u.oneCell' = true := fun u hu => by
            obtain ⟨q, hq, rfl⟩ := Array.mem_iff_getElem.1 hu
            have hql : q < z.length := by rw [← hzc.1]; exact hq
            have := (hzc.2 q _ (List.getElem?_eq_getElem hql)).oneCell
            simpa [Array.getElem?_eq_getElem hq, hq] using this
          have fin : ∀ (olds : List Value) (cap0 : Nat), olds.length = es.length * sz → (∀ (q : Nat) (c : C), es.flatten[q]? = some c → ∃ u, olds[q]? = some u ∧ CR I w u c) → (∀ u ∈ olds, u.oneCell' = true) →
              (Builtin.append_ #[T, T] ty #[vx, .slice (some ⟨yb, yoff, none⟩) ys.length yc]).run P w = .ok (.slice (some ⟨w.heap.size, 0, none⟩) (es.length + ys.length) (grownCap w (es.length + ys.length) cap0 e))
                  (w.drew.alloc (.cells (olds.toArray ++ news.toArray ++ Builtin.zeroCells zv.cells (grownCap w (es.length + ys.length) cap0 e - (es.length + ys.length))) e)) →
              ∃ (e : TypeId) (sz : Nat) (es' : List (List C)) (cells : Array Value) (cap : Nat), K ({ s with bx := up s.bx s.nb (es'.flatten.map .c), nb := s.nb + 1 }.put ‹Option Tmp› (.ms s.nb 0 es'.length es'.length sz)) ∧
                (Builtin.append_ #[T, T] ty #[vx, .slice (some ⟨yb, yoff, none⟩) ys.length yc]).run P w = .ok (.slice (some ⟨w.heap.size, 0, none⟩) es'.length cap) (w.drew.alloc (.cells cells e)) ∧ es'.length ≤ cap ∧ es'.flatten.length ≤ cells.size ∧
                (∀ q c, es'.flatten[q]? = some c → CR I w (cells.getD q undef) c) ∧ (∀ u ∈ cells, u.oneCell' = true) := by
            intro olds cap0 hol hoc ho1 hrun
            have hge := grownCap_ge w (es.length + ys.length) cap0 e
            refine ⟨e, sz, es ++ ys, _, _, h, by rw [List.length_append]; exact hrun, by rw [List.length_append]; exact hge, ?_, fun q c hq => ?_, fun u hu => ?_⟩
            · rw [hfa, List.length_append]
              simp only [Array.size_append, List.size_toArray, hol, hnl, ← Nat.add_mul]
              omega
            · rw [flat_eq] at hq
              have hget : ∃ u, (olds ++ news)[q]? = some u ∧ CR I w u c := by
                by_cases hql : q < es.flatten.length
                · rw [List.getElem?_append_left hql] at hq
                  obtain ⟨u, hu, hcr⟩ := hoc q c hq
                  exact ⟨u, by rw [List.getElem?_append_left (by omega)]; exact hu, hcr⟩
                · rw [List.getElem?_append_right (by omega)] at hq
                  obtain ⟨u, hu, hcr⟩ := hnc _ c hq
                  refine ⟨u, ?_, hcr⟩
                  rw [List.getElem?_append_right (by omega), ← hu]
                  congr 1; omega
              obtain ⟨u, hu, hcr⟩ := hget
              rw [getD_append_zeros olds news _ q u hu]; exact hcr
            · simp only [Array.mem_append, List.mem_toArray] at hu
              rcases hu with (hu | hu) | hu
              · exact ho1 u hu
              · exact hn1 u hu
              · exact zone u (mem_zeroCells hu)
          rcases hxo with ⟨hob0, _, xa, hxv⟩ | ⟨e', blk, cap, cur, sz', hob1, hEe, _⟩
          · cases xa with
            | none =>
              have hes0 : es = [] := by
                rcases hxc.sl_inv with ⟨_, h1⟩ | ⟨b, off, cap, _, _, hv, _⟩
                · exact h1
                · rw [hxv] at hv; cases hv
              subst hes0
              have hrun := run_append_nil (P := P) w T ty e j' zv h2 h1' hzv ⟨yb, yoff, none⟩ ys.length yc news (by rw [← hsz']; exact hnl) hnews' hm0 (by simp only [List.length_nil, Nat.zero_add] at hlen; omega) (by rw [← hby']; simp only [List.length_nil, Nat.zero_add] at hb; omega)
              refine fin [] 0 (by simp) (by simp) (by simp) ?_
              rw [hxv]
              simpa using hrun
            | some xaddr =>
              rw [hxv] at hxc
              obtain ⟨olds, hol, holds, hoc, ho1⟩ := hxc.oldsOf hes
              have hrun := run_append_grow (P := P) w T ty e j' zv h2 h1' hzv xaddr es.length es.length olds (by rw [← hsz']; exact hol) holds
                ⟨yb, yoff, none⟩ ys.length yc news (by rw [← hsz']; exact hnl) hnews' (by omega) (by omega) (by rw [← hby']; exact growslice_fits (by omega) hb)
              exact fin olds es.length hol hoc ho1 (by rw [hxv]; exact hrun)
          · cases hEe
        · exact h.elim
      · cases hz'
    · exact h.elim
  · exact h.elim

end
end Go.Vl
