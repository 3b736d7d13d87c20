/- Values without memory: the operations keep the relation: conversions, calls; all of them. -/
import Derived.Test.YtbhfbbfifmnniaaDoorVlSound7
set_option linter.unusedSimpArgs false
set_option linter.unusedVariables false
namespace Go.Vl
open Go Go.RowKit

section
variable {P : Program} {G : Gl} {tr : List Nat} {n : Nat} {I0 : Ft} {M : Mx} {w0 : World} {I : Ft} {β : Nat → Option Nat} {ob : Loc → Option Nat} {s : S} {a : Act} {w : World} {o : Oper}
  {next : Act → World → Prop} {Q : Exit → Act → World → Prop} {base : Nat → Prop} {v : Value} {x y : V} {K : V → Prop}

theorem bytesOf_spec : ∀ (es : List (List C)) (l : List UInt8), bytesOf es = some l → es.length = l.length ∧
    ∃ ns : List Int, ns.length = l.length ∧ l = ns.map (fun m => UInt8.ofNat m.toNat) ∧ ∀ (i : Nat) (m : Int), ns[i]? = some m → es[i]? = some [.lit (.int .u8 m)]
  | [], l, h => by
    simp only [bytesOf, Option.some.injEq] at h
    subst h
    exact ⟨rfl, [], rfl, rfl, by simp⟩
  | e :: es, l, h => by
    unfold bytesOf at h
    split at h
    · cases ‹_ :: _ = []›
    · rename_i m r he
      cases he
      simp only [Option.map_eq_some_iff] at h
      obtain ⟨l', h1, rfl⟩ := h
      obtain ⟨h2, ns, h3, h4, h5⟩ := bytesOf_spec _ _ h1
      refine ⟨by simp [h2], m :: ns, by simp [h3], by simp [h4], fun i q hq => ?_⟩
      cases i with
      | zero => simp at hq; subst hq; rfl
      | succ i => exact h5 i q (by simpa using hq)
    · cases h

theorem foldl_push_ints : ∀ (ns : List Int) (r : ByteArray), ns.foldl (fun r m => r.push (UInt8.ofNat m.toNat)) r = ⟨r.data ++ (ns.map fun m => UInt8.ofNat m.toNat).toArray⟩
  | [], r => by simp
  | m :: ns, r => by
    simp only [List.foldl_cons]
    rw [foldl_push_ints ns]
    simp [ByteArray.push]

theorem vconv_sound {src dst : TypeId} {vx : Value} (hst : St G n I0 M w0 I β ob s a w) (hd : ∀ d, o.dst = some d → d < n) (h : vconv P src dst x K) (hx : (∃ ox, LR (Wr M w0) I β w ox vx x) ∨ ∃ es, x = .c (.sl es) ∧ RD I w vx es) :
    ∃ z u w', K z ∧ (convert src dst vx).run P w = .ok u w' ∧ SE G n I0 M w0 (s.after tr o z) (a.put o.dst u) w' := by
  unfold vconv at h
  split at h
  · rename_i i k _ _ _ _ _ _ k' m hi hi'
    obtain ⟨j, d, _, h2, _⟩ := ti_spec hi
    obtain ⟨j', d', _, h2', h3', _⟩ := ti_spec hi'
    have hd' := kdOf_int h3'
    subst hd'
    obtain ⟨ox, hx⟩ : ∃ ox, LR (Wr M w0) I β w ox vx _ := by
      rcases hx with hx | ⟨es, e, _⟩
      · exact hx
      · cases e
    rw [hx.lit]
    refine ⟨_, _, w, h, ?_, .fin0 hst hd (.ofLit rfl)⟩
    simp [convert, run_underlying h2, run_underlying h2', Conv.intToInt]
  · rename_i i _ _ _ _ _ _ st hi hi'
    obtain ⟨j, d, _, h2, _⟩ := ti_spec hi
    obtain ⟨j', d', _, h2', h3', _⟩ := ti_spec hi'
    have hd' := kdOf_str h3'
    subst hd'
    obtain ⟨ox, hx⟩ : ∃ ox, LR (Wr M w0) I β w ox vx _ := by
      rcases hx with hx | ⟨es, e, _⟩
      · exact hx
      · cases e
    rw [hx.lit]
    refine ⟨_, _, w, h, ?_, .fin0 hst hd (.ofLit rfl)⟩
    simp [convert, run_underlying h2, run_underlying h2']
  · rename_i _ _ _ _ _ _ e _ _ _ _ _ _ st hi hi'
    obtain ⟨j, d, _, h2, h3, _⟩ := ti_spec hi
    obtain ⟨j', d', _, h2', h3', _⟩ := ti_spec hi'
    have hd' := kdOf_slice h3'
    subst hd'
    have hds := kdOf_str h3
    subst hds
    split at h
    · rename_i _ _ _ _ _ _ hie
      obtain ⟨je, de, _, h2e, h3e, _⟩ := ti_spec hie
      have hde := kdOf_int h3e
      subst hde
      obtain ⟨ox, hx⟩ : ∃ ox, LR (Wr M w0) I β w ox vx _ := by
        rcases hx with hx | ⟨es, e, _⟩
        · exact hx
        · cases e
      rw [hx.lit]
      have hst1 := (hst.drew).alloc (.cells (bytesRow st (grownCap w st.size 0 e)) e ((bytesRow st (grownCap w st.size 0 e)).size, (bytesRow st (grownCap w st.size 0 e)).size + 1))
      have hrun := run_bytes_of_string (P := P) w src dst e st h2 h2' h2e
      refine ⟨_, _, _, h, hrun, .fin0 hst1 hd (.ofC ?_)⟩
      have hlen : (strC st).length = st.size := by simp [strC]
      rw [show Value.slice (some ⟨w.heap.size, 0, none⟩) st.size (grownCap w st.size 0 e) = .slice (some ⟨w.heap.size, 0, none⟩) (strC st).length (grownCap w st.size 0 e) by rw [hlen]]
      refine CR.row (sz := 1) (heap_alloc_new w.drew _) (by rw [hlen]; exact grownCap_ge w _ _ _) (by simp [strC]) (fun q c hq => ?_) (fun q _ => .inr rfl)
      have hq' : q < st.size ∧ c = .lit (.int .u8 (st.data.toList.getD q 0).toNat) := by
        have := flatten_get (sz := 1) (strC st) (by simp [strC]) q 0 (by omega)
        rw [Nat.mul_one, Nat.add_zero] at this
        rw [this] at hq
        simp only [strC, List.getElem?_map] at hq
        cases hb : st.data.toList[q]? with
        | none => simp [hb] at hq
        | some b =>
          simp only [hb, Option.map_some, Option.bind_some, List.getElem?_cons_zero, Option.some.injEq] at hq
          have hlt := (List.getElem?_eq_some_iff.1 hb).1
          exact ⟨by simpa using hlt, by rw [← hq]; simp [List.getD, hb]⟩
      obtain ⟨hql, rfl⟩ := hq'
      have hql' : q < st.data.size := hql
      have hsz : q < (bytesRow st (grownCap w st.size 0 e)).size := by simp [bytesRow]; omega
      refine ⟨hsz, ?_⟩
      have : (bytesRow st (grownCap w st.size 0 e)).getD q undef = .int .u8 (st.data.toList.getD q 0).toNat := by
        unfold bytesRow
        rw [Array.getD_eq_getD_getElem?, Array.getElem?_append_left (by simpa using hql'), Array.getElem?_map, Array.getElem?_eq_getElem hql']
        have : st.data.toList.getD q 0 = st.data[q] := by
          rw [List.getD_eq_getElem?_getD, Array.getElem?_toList, Array.getElem?_eq_getElem hql']; rfl
        rw [this]; rfl
      rw [this]
      exact .lit _ rfl
    · exact h.elim
  · rename_i e _ _ _ _ _ _ _ _ _ _ _ _ es hi hi'
    obtain ⟨j, d, _, h2, h3, _⟩ := ti_spec hi
    obtain ⟨j', d', _, h2', h3', _⟩ := ti_spec hi'
    have hd' := kdOf_str h3'
    subst hd'
    have hds := kdOf_slice h3
    subst hds
    split at h
    · rename_i _ _ _ _ _ _ hie
      obtain ⟨je, de, _, h2e, h3e, _⟩ := ti_spec hie
      have hde := kdOf_int h3e
      subst hde
      split at h
      · rename_i l hl
        obtain ⟨hlen, ns, hnl, rfl, hns⟩ := bytesOf_spec _ _ hl
        have hcr : RD I w vx es := by
          rcases hx with ⟨ox, hx⟩ | ⟨es', e, hrd⟩
          · exact .ofCR hx.toC
          · cases e; exact hrd
        refine ⟨_, _, w, h, ?_, .fin0 hst hd (.ofLit rfl)⟩
        rcases hcr with ⟨⟨xa, xc, hv, hxc⟩, rfl⟩ | ⟨b, off, cap, sz, f, hv, hcap, hs, hcell, hrel⟩
        · subst hv
          have : ns = [] := List.eq_nil_of_length_eq_zero (by simp at hlen; omega)
          subst this
          rw [run_convert_bytes_string w src dst e xa 0 xc h2 h2e h2']
          cases xa <;> rfl
        · subst hv
          rw [run_convert_bytes_string w src dst e _ _ _ h2 h2e h2', run_bytesToString w ⟨b, off, none⟩ es.length cap ns ?_, foldl_push_ints]
          · simp
          · have hall : ∀ e ∈ es, e.length = 1 := by
              intro e he
              obtain ⟨i, hi⟩ := List.mem_iff_getElem?.1 he
              have hlt := (List.getElem?_eq_some_iff.1 hi).1
              have : ns[i]? = some ns[i] := List.getElem?_eq_getElem (by simp at hlen; omega)
              rw [hns i _ this] at hi
              cases hi; rfl
            have hfv : ∀ i, i < es.length → w.cell? ⟨b, off + i, none⟩ = some (.int .u8 (ns.getD i 0)) := by
              intro i hi
              have hn : ns[i]? = some ns[i] := List.getElem?_eq_getElem (by simp at hlen; omega)
              have he := hns i _ hn
              have hsz : sz = 1 := by rw [← hs _ (List.mem_of_getElem? he)]; rfl
              subst hsz
              have h1 := hcell i 0 hi (by omega)
              have h2 := hrel i 0 _ _ he rfl
              have h3 : f i 0 = .int .u8 ns[i] := h2.lit_eq
              rw [Nat.mul_one, Nat.add_zero, h3] at h1
              rw [h1]
              simp [List.getD, hn]
            rw [run_loadCells w ⟨b, off, none⟩ es.length (fun i => .int .u8 (ns.getD i 0)) (fun i hi => by rw [Addr.add_lit]; exact hfv i hi)]
            congr 2
            apply List.ext_getElem?
            intro i
            by_cases hi : i < ns.length
            · have : i < es.length := by simp at hlen; omega
              simp [hi, this]
            · have : ¬ i < es.length := by simp at hlen; omega
              simp [hi, this]
      · exact h.elim
    · exact h.elim
  · exact h.elim

end
end Go.Vl
