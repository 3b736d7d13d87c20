/- Values without memory: the operations keep the relation: addresses, slices, conversions. -/
import Derived.Test.YtbhfbbfifmnniaaDoorVlSound2
set_option linter.unusedSimpArgs false
set_option linter.unusedVariables false
namespace Go.Vl
open Go Go.RowKit

section
variable {P : Program} {G : Gl} {tr : List Nat} {n : Nat} {I0 : Ft} {M : Mx} {w0 : World} {I : Ft} {β : Nat → Option Nat} {ob : Loc → Option Nat} {s : S} {a : Act} {w : World} {o : Oper}
  {next : Act → World → Prop} {Q : Exit → Act → World → Prop} {base : Nat → Prop} {v : Value} {x y : V} {K : V → Prop}

theorem run_fieldAt_plain (T : TypeId) (fs : Array Field) (hd : P.underlying T = some (.struct fs)) (blk off : Nat) (f : Nat) (g : Field) (hg : fs[f]? = some g) (hz : P.cellsOf g.type ≠ 0) :
    (Instr.fieldAt T (.pointer (some ⟨blk, off, none⟩)) f).run P w = .ok (.pointer (some ⟨blk, off + g.offset, none⟩)) w := by
  have hsz : (sizeOf g.type).run P w = .ok (P.cellsOf g.type) w := by
    cases hi : P.info? g.type with
    | none => simp [Program.cellsOf, hi] at hz
    | some i => exact run_sizeOf w hi
  unfold Instr.fieldAt
  simp only [Sem.run_bind, run_underlying hd, Result.andThen_ok, hg, Instr.sureAddr, Sem.run_pure]
  unfold fieldPlace
  simp only [Sem.run_bind, hsz, Result.andThen_ok, hz, if_false, Sem.run_pure, Addr.add_lit]

theorem flds_get {i : TI} {d : TypeDesc} {f off sz : Nat} {ag : Bool} (hok : fldsOk P d = true) (hfl : i.flds = fldsOf P d)
    (h : i.flds[f]? = some (off, sz, ag)) : ∃ fs g, d = .struct fs ∧ fs[f]? = some g ∧ off = g.offset ∧ sz = P.cellsOf g.type ∧ ag = isAggB P g.type ∧ ∃ d', P.underlying g.type = some d' := by
  rw [hfl] at h
  unfold fldsOf at h
  split at h
  · rename_i fs
    simp only [List.getElem?_map, Option.map_eq_some_iff] at h
    obtain ⟨g, hg, he⟩ := h
    simp only [Prod.mk.injEq] at he
    have := List.all_eq_true.1 hok g (List.mem_of_getElem? hg)
    exact ⟨fs, g, rfl, by rw [← hg]; simp, he.1.symm, he.2.1.symm, he.2.2.symm, Option.isSome_iff_exists.1 this⟩
  · simp at h

theorem vfieldAddr_sound {T : TypeId} {f : Nat} {vx : Value} {ox : Option Nat} (h : vfieldAddr P T x f K) (hx : LR base I β w ox vx x) :
    ∃ z u, K z ∧ LR base I β w none u z ∧ (Instr.fieldAt T vx f).run P w = .ok u w := by
  unfold vfieldAddr at h
  split at h
  · rename_i i hi
    obtain ⟨j, d, h1, h2, _, _, _, _, _, hfl, _, hok⟩ := ti_spec hi
    split at h
    · rename_i off sz ag cs k hfo
      obtain ⟨fs, g, rfl, hg, rfl, rfl, rfl, _⟩ := flds_get hok hfl hfo
      have hcr := hx.toC
      generalize hrp : C.rp cs k = c at hcr
      cases hcr <;> cases hrp
      rename_i b off' f' hcell hrel
      exact ⟨_, _, h.2, .ofC (by have := CR.rp (I := I) (w := w) b off' (k + g.offset) cs f' hcell hrel; exact this),
        by rw [run_fieldAt_plain T fs h2 b (off' + k) f g hg h.1, Nat.add_assoc]⟩
    · rename_i off sz ag b k hfo
      obtain ⟨fs, g, rfl, hg, rfl, rfl, rfl, _⟩ := flds_get hok hfl hfo
      simp only [LR] at hx
      obtain ⟨blk, e1, rfl⟩ := hx
      exact ⟨_, _, h.2, by simp only [LR]; exact ⟨blk, e1, rfl⟩, run_fieldAt_plain T fs h2 blk k f g hg h.1⟩
    · exact h.elim
  · exact h.elim

theorem run_part_of {t : TypeId} {d : TypeDesc} (hd : P.underlying t = some d) {xs : Array Value} {off sz : Nat} {ag : Bool} {v : Value} (hag : ag = isAggB P t) (hsz : sz = P.cellsOf t)
    (hv : (ag = true ∧ off + sz ≤ xs.size ∧ v = .agg (xs.extract off (off + sz))) ∨ (ag = false ∧ xs[off]? = some v)) : (part t xs off).run P w = .ok v w := by
  obtain ⟨i, hi⟩ := info_of_underlying hd
  unfold part
  simp only [Sem.run_bind, run_isAgg t d hd, Result.andThen_ok, ← hag]
  rcases hv with ⟨rfl, h2, rfl⟩ | ⟨rfl, h2⟩
  · simp [run_sizeOf w hi, hsz]
  · simp [h2]

theorem vfield_sound {T : TypeId} {f : Nat} {vx : Value} {ox : Option Nat} (h : vfield P T x f K) (hx : LR base I β w ox vx x) :
    ∃ z u, K z ∧ LR base I β w none u z ∧ (Instr.field T vx f).run P w = .ok u w := by
  unfold vfield at h
  split at h
  · rename_i i cs hi
    obtain ⟨j, d, h1, h2, _, _, _, _, _, hfl, _, hok⟩ := ti_spec hi
    obtain ⟨vs, rfl, hsz, hcs⟩ := hx.agg
    split at h
    · rename_i off sz ag hfo
      obtain ⟨fs, g, rfl, hg, rfl, rfl, rfl, d', hd'⟩ := flds_get hok hfl hfo
      obtain ⟨z, u, hz, hlr, hv⟩ := partV_sound (base := base) (β := β) h ⟨hsz, hcs⟩
      refine ⟨z, u, hz, hlr, ?_⟩
      unfold Instr.field
      simp only [Sem.run_bind, run_underlying h2, Result.andThen_ok, hg, asAgg, Sem.run_pure]
      exact run_part_of hd' rfl rfl hv
    · exact h.elim
  · rename_i i vs hi
    obtain ⟨j, d, h1, h2, _, _, _, _, _, hfl, _, hok⟩ := ti_spec hi
    simp only [LR] at hx
    obtain ⟨cells, rfl, hsz, hcs⟩ := hx
    split at h
    · rename_i off sz ag hfo
      obtain ⟨fs, g, rfl, hg, rfl, rfl, rfl, d', hd'⟩ := flds_get hok hfl hfo
      obtain ⟨z, u, hz, hlr, hv⟩ := partM_sound (base := base) (β := β) h hsz hcs
      refine ⟨z, u, hz, hlr, ?_⟩
      unfold Instr.field
      simp only [Sem.run_bind, run_underlying h2, Result.andThen_ok, hg, asAgg, Sem.run_pure]
      exact run_part_of hd' rfl rfl hv
    · exact h.elim
  · exact h.elim

theorem vindexAddr_sound {T : TypeId} {vx vi : Value} {ox oi : Option Nat} (h : vindexAddr P T x y K) (hx : LR base I β w ox vx x) (hy : LR base I β w oi vi y) :
    ∃ z u, K z ∧ LR base I β w none u z ∧ (Instr.indexAt T vx vi).run P w = .ok u w := by
  unfold vindexAddr at h
  split at h
  · rename_i e _ _ _ _ _ _ es k m hi
    obtain ⟨j, d, h1, h2, h3, _⟩ := ti_spec hi
    have hd := kdOf_slice h3
    subst hd
    rw [hy.lit]
    split at h
    · rename_i je hje
      obtain ⟨j', d', h1', h2', _, hsz', _⟩ := ti_spec hje
      obtain ⟨⟨hm, hz0⟩, h⟩ := h
      split at h
      · rename_i c hc
        obtain ⟨hcl, h⟩ := h
        have hcr := hx.toC
        have hlt := (List.getElem?_eq_some_iff.1 hc).1
        generalize hsl : C.sl es = cc at hcr
        cases hcr <;> cases hsl
        · simp at hlt
        · rename_i b off cap sz f hcap hs hcell hrel
          have hsz : sz = je.size := by rw [← hs c (List.mem_of_getElem? hc), hcl]
          subst hsz
          have hrp : CR I w (.pointer (some ⟨b, off + m.toNat * je.size + 0, none⟩)) (.rp c 0) :=
            .rp b (off + m.toNat * je.size) 0 c (fun q => f m.toNat q) (fun q hq => hcell _ _ hlt (by omega)) (fun q cq hq => hrel _ _ c cq hc hq)
          refine ⟨_, _, h, .ofC hrp, ?_⟩
          unfold Instr.indexAt
          have hin : 0 ≤ m ∧ m < (es.length : Int) := ⟨hm, by omega⟩
          simp only [asIntOf, Sem.run_bind, Sem.run_pure, Result.andThen_ok, run_underlying h2]
          rw [if_pos hin]
          simp [run_sizeOf w h1', cellsOf_eq h1', hsz', Addr.add_lit]
      · exact h.elim
    · exact h.elim
  · rename_i mm e _ _ _ _ _ _ cs k ki m hi
    obtain ⟨j, d, h1, h2, h3, _⟩ := ti_spec hi
    have hd := kdOf_arr h3
    subst hd
    rw [hy.lit]
    split at h
    · rename_i je hje
      obtain ⟨j', d', h1', h2', _, hsz', _⟩ := ti_spec hje
      obtain ⟨hin, h⟩ := h
      have hcr := hx.toC
      generalize hrp : C.rp cs k = c at hcr
      cases hcr <;> cases hrp
      rename_i b off f hcell hrel
      refine ⟨_, _, h, .ofC (CR.rp b off (k + m.toNat * je.size) cs f hcell hrel), ?_⟩
      unfold Instr.indexAt
      simp only [asIntOf, Sem.run_bind, Sem.run_pure, Result.andThen_ok, run_underlying h2, Instr.sureAddr]
      rw [if_pos hin]
      simp [run_sizeOf w h1', cellsOf_eq h1', hsz', Addr.add_lit, Nat.add_assoc]
    · exact h.elim
  · rename_i e _ _ _ _ _ _ b off len cap sz ki m hi
    obtain ⟨j, d, h1, h2, h3, _⟩ := ti_spec hi
    have hd := kdOf_slice h3
    subst hd
    rw [hy.lit]
    split at h
    · rename_i je hje
      obtain ⟨j', d', h1', h2', _, hsz', _⟩ := ti_spec hje
      obtain ⟨⟨hm, hml, hje2, hz0⟩, h⟩ := h
      simp only [LR] at hx
      obtain ⟨hcap, blk, off', cap', hcc, e1, hoff, rfl⟩ := hx
      have hoff : off' = off := by rcases hoff with h0 | h0; omega; exact h0
      subst hoff
      refine ⟨_, _, h, by simp only [LR]; exact ⟨blk, e1, rfl⟩, ?_⟩
      unfold Instr.indexAt
      have hin : 0 ≤ m ∧ m < (len : Int) := ⟨hm, hml⟩
      simp only [asIntOf, Sem.run_bind, Sem.run_pure, Result.andThen_ok, run_underlying h2]
      rw [if_pos hin]
      simp [run_sizeOf w h1', cellsOf_eq h1', ← hsz', hje2, Addr.add_lit]
    · exact h.elim
  · rename_i mm e _ _ _ _ _ _ b k ki m hi
    obtain ⟨j, d, h1, h2, h3, _⟩ := ti_spec hi
    have hd := kdOf_arr h3
    subst hd
    rw [hy.lit]
    split at h
    · rename_i je hje
      obtain ⟨j', d', h1', h2', _, hsz', _⟩ := ti_spec hje
      obtain ⟨hin, h⟩ := h
      simp only [LR] at hx
      obtain ⟨blk, e1, rfl⟩ := hx
      refine ⟨_, _, h, by simp only [LR]; exact ⟨blk, e1, rfl⟩, ?_⟩
      unfold Instr.indexAt
      simp only [asIntOf, Sem.run_bind, Sem.run_pure, Result.andThen_ok, run_underlying h2, Instr.sureAddr]
      rw [if_pos hin]
      simp [run_sizeOf w h1', cellsOf_eq h1', hsz', Addr.add_lit]
    · exact h.elim
  · exact h.elim

theorem vindex_sound {T : TypeId} {vx vi : Value} {ox oi : Option Nat} (h : vindex P T x y K) (hx : LR base I β w ox vx x) (hy : LR base I β w oi vi y) :
    ∃ z u, K z ∧ LR base I β w none u z ∧ (Instr.index T vx vi).run P w = .ok u w := by
  unfold vindex at h
  split at h
  · rename_i _ _ _ _ _ _ st k m hi
    obtain ⟨j, d, h1, h2, h3, _⟩ := ti_spec hi
    have hd := kdOf_str h3
    subst hd
    rw [hx.lit, hy.lit]
    obtain ⟨hm, h⟩ := h
    split at h
    · rename_i b hb
      refine ⟨_, _, h, .ofLit rfl, ?_⟩
      have hlt : m.toNat < st.size := (Array.getElem?_eq_some_iff.1 hb).1
      have hin : 0 ≤ m ∧ m < (st.size : Int) := ⟨hm, by omega⟩
      rw [run_index_string w T st k m h2, dif_pos hin]
      have : st[m.toNat] = b := (Array.getElem?_eq_some_iff.1 hb).2
      rw [this]
    · exact h.elim
  · rename_i mm e _ _ _ _ _ _ cs k m hi
    obtain ⟨j, d, h1, h2, h3, _⟩ := ti_spec hi
    have hd := kdOf_arr h3
    subst hd
    rw [hy.lit]
    obtain ⟨vs, rfl, hsz, hcs⟩ := hx.agg
    split at h
    · rename_i je hje
      obtain ⟨j', d', h1', h2', _, hsz', _, hag', _⟩ := ti_spec hje
      obtain ⟨hin, h⟩ := h
      obtain ⟨z, u, hz, hlr, hv⟩ := partV_sound (base := base) (β := β) h ⟨hsz, hcs⟩
      refine ⟨z, u, hz, hlr, ?_⟩
      unfold Instr.index
      simp only [asIntOf, Sem.run_bind, Sem.run_pure, Result.andThen_ok, run_underlying h2]
      rw [if_pos hin]
      simp only [Sem.run_bind, run_sizeOf w h1', Result.andThen_ok, cellsOf_eq h1', ← hsz']
      exact run_part_of h2' hag' (by rw [cellsOf_eq h1', hsz']) hv
    · exact h.elim
  · exact h.elim

theorem vlen_sound {T ty : TypeId} {vx : Value} {ox : Option Nat} (h : vlen P T x K) (hx : LR base I β w ox vx x) :
    ∃ u, flat u = true ∧ K (.c (.lit u)) ∧ (Builtin.len_ #[T] ty #[vx]).run P w = .ok u w := by
  unfold vlen at h
  split at h
  · rename_i hi
    obtain ⟨j, d, h1, h2, h3, _⟩ := ti_spec hi
    have hd := kdOf_str h3
    subst hd
    rw [hx.lit]
    exact ⟨_, rfl, h, run_len_string w T ty _ h2⟩
  · rename_i e _ _ _ _ _ _ es hi
    obtain ⟨j, d, h1, h2, h3, _⟩ := ti_spec hi
    have hd := kdOf_slice h3
    subst hd
    refine ⟨_, rfl, h, ?_⟩
    have hcr := hx.toC
    generalize hsl : C.sl es = cc at hcr
    cases hcr <;> cases hsl <;> simp [Builtin.len_, run_underlying h2, goInt]
  · rename_i e _ _ _ _ _ _ E es hi
    obtain ⟨j, d, h1, h2, h3, _⟩ := ti_spec hi
    have hd := kdOf_slice h3
    subst hd
    refine ⟨_, rfl, h, ?_⟩
    have hcr := hx.1
    generalize hsl : C.sl es = cc at hcr
    cases hcr <;> cases hsl <;> simp [Builtin.len_, run_underlying h2, goInt]
  · rename_i e _ _ _ _ _ _ b off len cap sz hi
    obtain ⟨j, d, h1, h2, h3, _⟩ := ti_spec hi
    have hd := kdOf_slice h3
    subst hd
    simp only [LR] at hx
    obtain ⟨hcap, blk, off', cap', hcc, e1, hoff, rfl⟩ := hx
    refine ⟨_, rfl, h, by simp [Builtin.len_, run_underlying h2, goInt]⟩
  · rename_i m e _ _ _ _ _ _ hi
    obtain ⟨j, d, h1, h2, h3, _⟩ := ti_spec hi
    have hd := kdOf_arr h3
    subst hd
    refine ⟨_, rfl, h, by simp [Builtin.len_, run_underlying h2, goInt]⟩
  · exact h.elim

/-- What a slice holds, for the while. -/
def RD (I : Ft) (w : World) (v : Value) (es : List (List C)) : Prop := ((∃ (a : Option Addr) (cap : Nat), v = .slice a 0 cap ∧ (a = none → cap = 0)) ∧ es = []) ∨
    ∃ (b off cap sz : Nat) (f : Nat → Nat → Value), v = .slice (some ⟨b, off, none⟩) es.length cap ∧ es.length ≤ cap ∧ (∀ e ∈ es, e.length = sz) ∧
      (∀ i j, i < es.length → j < sz → w.cell? ⟨b, off + i * sz + j, none⟩ = some (f i j)) ∧
      (∀ i j e c, es[i]? = some e → e[j]? = some c → CR I w (f i j) c)

theorem RD.ofCR {v : Value} {es : List (List C)} (h : CR I w v (.sl es)) : RD I w v es := by
  rcases h.sl_inv with h | ⟨b, off, cap, sz, f, h1, h2, h3, h4, h5⟩
  · exact .inl h
  · exact .inr ⟨b, off, cap, sz, f, h1, h2, h3, fun i j hi hj => (h4 i j hi hj).1, h5⟩

theorem CR.subslice {b off cap : Nat} {es : List (List C)} {l h' m sz : Nat} (h : CR I w (.slice (some ⟨b, off, none⟩) es.length cap) (.sl es)) (hs : ∀ x ∈ es, x.length = sz)
    (h1 : l ≤ h') (h2 : h' ≤ es.length) (h3 : h' ≤ m) : CR I w (.slice (some ⟨b, off + l * sz, none⟩) (h' - l) (m - l)) (.sl ((es.take h').drop l)) := by
  rcases h.sl_inv with ⟨_, rfl⟩ | ⟨b', off', cap', sz', f, hv, hcap, hs', hcell, hrel⟩
  · have e1 : h' - l = 0 := by simp only [List.length_nil] at h2; omega
    rw [e1]
    simpa using CR.nil (I := I) (w := w) (some ⟨b, off + l * sz, none⟩) (m - l) (fun h => by cases h)
  simp only [Value.slice.injEq, Option.some.injEq, Addr.mk.injEq, and_true, true_and] at hv
  obtain ⟨⟨rfl, rfl⟩, rfl⟩ := hv
  have hlen : ((es.take h').drop l).length = h' - l := by simp; omega
  have hgot : ∀ i e, ((es.take h').drop l)[i]? = some e → es[l + i]? = some e := fun i e he => by
    rw [List.getElem?_drop, List.getElem?_take] at he
    split at he
    · exact he
    · cases he
  by_cases hemp : h' - l = 0
  · have : (es.take h').drop l = [] := List.eq_nil_of_length_eq_zero (by omega)
    rw [this, hemp]
    exact .sl b _ _ 0 [] (fun _ _ => undef) (Nat.zero_le _) (by simp) (by simp) (by simp)
  · have hsz : sz' = sz := by
      have : 0 < es.length := by omega
      rw [← hs' es[0] (List.getElem_mem _), hs es[0] (List.getElem_mem _)]
    subst hsz
    rw [← hlen]
    refine .sl b _ _ sz' _ (fun i j => f (l + i) j) (by omega) (fun e he => hs e (List.mem_of_mem_take (List.mem_of_mem_drop he))) (fun i j hi hj => ?_) (fun i j e c he hc => hrel _ _ e c (hgot i e he) hc)
    have := hcell (l + i) j (by omega) hj
    rw [Nat.add_mul, ← Nat.add_assoc] at this
    exact this

theorem optInt_sound {d : Int} {ov : Option V} {oo : Option Value} {l : Int} (h : optInt d ov = some l) (hr : ∀ x, ov = some x → ∃ vv, oo = some vv ∧ LR base I β w none vv x.fz ∧ x.fz = x) (hn : ov = none → oo = none) :
    (oo = none ∧ l = d) ∨ ∃ k, oo = some (.int k l) := by
  unfold optInt at h
  split at h
  · exact .inl ⟨hn rfl, by simpa using h.symm⟩
  · rename_i k m
    obtain ⟨vv, h1, h2, _⟩ := hr _ rfl
    simp only [Option.some.injEq] at h
    subst h
    exact .inr ⟨k, by rw [h1, LR.lit h2]⟩
  · cases h

end
end Go.Vl
