/- Values without memory: the operations keep the relation: slicing, conversions, calls. -/
import Derived.Test.YtbhfbbfifmnniaaDoorVlSound6
import Derived.Conc.MuLone
set_option linter.unusedSimpArgs false
set_option linter.unusedVariables false
namespace Go.Vl
open Go Go.RowKit

section
variable {P : Program} {G : Gl} {tr : List Nat} {n : Nat} {I0 : Ft} {M : Mx} {w0 : World} {I : Ft} {β : Nat → Option Nat} {ob : Loc → Option Nat} {s : S} {a : Act} {w : World} {o : Oper}
  {next : Act → World → Prop} {Q : Exit → Act → World → Prop} {base : Nat → Prop} {v : Value} {x y : V} {K : V → Prop}

theorem run_bounds (isSlice : Bool) (len cap : Nat) (lo hi : Option Value) (l h : Int) (hl : (lo = none ∧ l = 0) ∨ ∃ k, lo = some (.int k l)) (hh : (hi = none ∧ h = len) ∨ ∃ k, hi = some (.int k h))
    (h0 : 0 ≤ l) (h1 : l ≤ h) (h2 : h ≤ len) (hc : len ≤ cap) : (Instr.sliceBounds isSlice len cap lo hi none).run P w = .ok (l.toNat, h.toNat, cap) w := by
  have eh : (h.toNat : Int) = h := Int.toNat_of_nonneg (by omega)
  unfold Instr.sliceBounds
  have e0 : (0:Int) ≤ h := by omega
  have e1 : h ≤ (cap : Int) := by omega
  rcases hl with ⟨rfl, rfl⟩ | ⟨kl, rfl⟩ <;> rcases hh with ⟨rfl, rfl⟩ | ⟨kh, rfl⟩ <;>
    simp [run_sliceBound, h0, h1, eh, e0, e1]

theorem run_bounds3 (isSlice : Bool) (len cap : Nat) (lo hi : Option Value) (l h : Int) (km : IntKind) (hl : (lo = none ∧ l = 0) ∨ ∃ k, lo = some (.int k l)) (hh : ∃ k, hi = some (.int k h))
    (h0 : 0 ≤ l) (h1 : l ≤ h) (h2 : h ≤ cap) : (Instr.sliceBounds isSlice len cap lo hi (some (.int km h))).run P w = .ok (l.toNat, h.toNat, h.toNat) w := by
  have eh : (h.toNat : Int) = h := Int.toNat_of_nonneg (by omega)
  unfold Instr.sliceBounds
  have e0 : (0:Int) ≤ h := by omega
  rcases hl with ⟨rfl, rfl⟩ | ⟨kl, rfl⟩ <;> obtain ⟨kh, rfl⟩ := hh <;> simp [run_sliceBound, h0, h1, h2, eh, e0]

theorem run_boundsC (len cap : Nat) (lo hi : Option Value) (l h : Int) (hl : (lo = none ∧ l = 0) ∨ ∃ k, lo = some (.int k l)) (hh : (hi = none ∧ h = len) ∨ ∃ k, hi = some (.int k h))
    (h0 : 0 ≤ l) (h1 : l ≤ h) (h2 : h ≤ cap) : (Instr.sliceBounds true len cap lo hi none).run P w = .ok (l.toNat, h.toNat, cap) w := by
  have eh : (h.toNat : Int) = h := Int.toNat_of_nonneg (by omega)
  unfold Instr.sliceBounds
  have e0 : (0:Int) ≤ h := by omega
  rcases hl with ⟨rfl, rfl⟩ | ⟨kl, rfl⟩ <;> rcases hh with ⟨rfl, rfl⟩ | ⟨kh, rfl⟩ <;>
    simp [run_sliceBound, h0, h1, h2, eh, e0]

theorem run_boundsM (len cap : Nat) (lo hi : Option Value) (l h m : Int) (km : IntKind) (hl : (lo = none ∧ l = 0) ∨ ∃ k, lo = some (.int k l)) (hh : ∃ k, hi = some (.int k h))
    (h0 : 0 ≤ l) (h1 : l ≤ h) (h2 : h ≤ m) (h3 : m ≤ cap) : (Instr.sliceBounds true len cap lo hi (some (.int km m))).run P w = .ok (l.toNat, h.toNat, m.toNat) w := by
  have eh : (h.toNat : Int) = h := Int.toNat_of_nonneg (by omega)
  have em : (m.toNat : Int) = m := Int.toNat_of_nonneg (by omega)
  unfold Instr.sliceBounds
  have e0 : (0:Int) ≤ h := by omega
  have e2 : (0:Int) ≤ m := by omega
  rcases hl with ⟨rfl, rfl⟩ | ⟨kl, rfl⟩ <;> obtain ⟨kh, rfl⟩ := hh <;>
    simp [run_sliceBound, h0, h1, h2, h3, eh, em, e0, e2]

/-- The bounds of a slice expression. -/
theorem opt_ok (hst : St G n I0 M w0 I β ob s a w) {d : Int} {lo : Option Operand} {l : Int} (h : optInt d (lo.map (ev G s)) = some l) : (lo.map a.eval = none ∧ l = d) ∨ ∃ k, lo.map a.eval = some (.int k l) := by
  cases lo with
  | none => simp [optInt] at h; exact .inl ⟨rfl, h.symm⟩
  | some x =>
    have hx := ev_sound hst x
    simp only [Option.map_some, optInt] at h
    split at h
    · cases ‹some _ = none›
    · rename_i k m he
      simp only [Option.some.injEq] at he h
      subst h
      rw [he] at hx
      exact .inr ⟨k, by rw [Option.map_some, hx.lit]⟩
    · cases h

theorem chunks_get {sz : Nat} : ∀ (m : Nat) (cs : List C) (i : Nat), i < m → (chunks sz m cs)[i]? = some ((cs.drop (i * sz)).take sz)
  | 0, _, i, h => by omega
  | m + 1, cs, 0, _ => by simp [chunks]
  | m + 1, cs, i + 1, h => by
    simp only [chunks, List.getElem?_cons_succ]
    rw [chunks_get m _ i (by omega), List.drop_drop]
    congr 3
    rw [Nat.succ_mul]; omega

theorem chunks_length {sz : Nat} : ∀ (m : Nat) (cs : List C), (chunks sz m cs).length = m
  | 0, _ => rfl
  | m + 1, cs => by simp [chunks, chunks_length m]

theorem view_ok (hst : St G n I0 M w0 I β ob s a w) {i off len cap sz : Nat} {c : C} {v : Value} (h : viewC s i off len sz = some c)
    (hx : len ≤ cap ∧ ∃ blk off' cap', cap ≤ cap' ∧ β i = some blk ∧ (cap' = 0 ∨ off' = off) ∧ v = .slice (some ⟨blk, off', none⟩) len cap') :
    ∃ (es : List (List C)) (blk off' cap' : Nat) (f : Nat → Nat → Value), c = .sl es ∧ v = .slice (some ⟨blk, off', none⟩) es.length cap' ∧ es.length ≤ cap' ∧ β i = some blk ∧ (∀ e ∈ es, e.length = sz) ∧
      (∀ p q, p < es.length → q < sz → w.cell? ⟨blk, off' + p * sz + q, none⟩ = some (f p q)) ∧ (∀ p q e c, es[p]? = some e → e[q]? = some c → CR I w (f p q) c) := by
  unfold viewC at h
  split at h
  · rename_i cs hcs
    split at h
    · rename_i hfit
      simp only [Option.some.injEq] at h
      obtain ⟨hcap, blk, off', cap', hcc, e1, hoff, rfl⟩ := hx
      unfold boxC at hcs
      split at hcs
      · rename_i hi
        obtain ⟨blk', cur, T, q1, q2, q3, q4, q5, q6, q7⟩ := hst.bx i hi
        rw [e1] at q1; cases q1
        have hlen : cs.length = (s.bx i).length := List.mapM_eq_some_length hcs
        have hl := chunks_length (sz := sz) len (cs.drop off)
        refine ⟨_, blk, off', cap', fun p q => cur.getD (off + p * sz + q) undef, h.symm, by rw [hl], by rw [hl]; omega, e1, fun e he => ?_, fun p q hp hq => ?_, fun p q e c' he hc => ?_⟩
        · obtain ⟨p, hp, rfl⟩ := List.mem_iff_getElem.1 he
          have := chunks_get (sz := sz) len (cs.drop off) p (by omega)
          rw [List.getElem?_eq_getElem hp] at this
          simp only [Option.some.injEq] at this
          rw [this]
          have hm' : (p + 1) * sz ≤ len * sz := Nat.mul_le_mul_right _ (by omega)
          rw [Nat.succ_mul] at hm'
          simp; omega
        · rw [hl] at hp
          have hm' : (p + 1) * sz ≤ len * sz := Nat.mul_le_mul_right _ (by omega)
          rw [Nat.succ_mul] at hm'
          have : off' = off := by rcases hoff with h0 | h0; omega; exact h0
          subst this
          have hlt : off' + p * sz + q < cur.size := by omega
          rw [cell_of_row w blk _ cur T (0, 0) q3]
          simp [Array.getElem?_eq_getElem hlt]
        · have hp : p < len := by have := (List.getElem?_eq_some_iff.1 he).1; omega
          rw [chunks_get len _ p hp] at he
          simp only [Option.some.injEq] at he
          subst he
          rw [List.getElem?_take] at hc
          split at hc
          · rw [List.getElem?_drop, List.getElem?_drop] at hc
            obtain ⟨vv, hvv, hvc⟩ := List.mapM_eq_some_get hcs _ c' hc
            have hlr := q5 (off + (p * sz + q))
            have : (s.bx i).getD (off + (p * sz + q)) .un = vv := by simp [List.getD, hvv]
            rw [this, ← Nat.add_assoc] at hlr
            cases vv <;> simp only [V.asC] at hvc <;> try cases hvc
            · exact hlr.toC
            · exact hlr.1
          · cases hc
      · cases hcs
    · cases h
  · cases h

theorem view_rd (hst : St G n I0 M w0 I β ob s a w) {i off len cap sz : Nat} {c : C} {v : Value} (h : viewC s i off len sz = some c)
    (hx : len ≤ cap ∧ ∃ blk off' cap', cap ≤ cap' ∧ β i = some blk ∧ (cap' = 0 ∨ off' = off) ∧ v = .slice (some ⟨blk, off', none⟩) len cap') : ∃ es, c = .sl es ∧ RD I w v es := by
  obtain ⟨es, blk, off', cap', f, rfl, rfl, h2, h3, h4, h5, h6⟩ := view_ok hst h hx
  exact ⟨es, rfl, .inr ⟨blk, off', cap', sz, f, rfl, h2, h4, h5, h6⟩⟩

theorem view_cr (hst : St G n I0 M w0 I β ob s a w) {i off len cap sz : Nat} {c : C} {v : Value} (h : viewC s i off len sz = some c)
    (hx : len ≤ cap ∧ ∃ blk off' cap', cap ≤ cap' ∧ β i = some blk ∧ (cap' = 0 ∨ off' = off) ∧ v = .slice (some ⟨blk, off', none⟩) len cap') {Ic : Ft} (hIc : ∀ b o, I b o → Ic b o) (hb : ∀ b o, β i = some b → Ic b o) : CR Ic w v c := by
  obtain ⟨es, blk, off', cap', f, rfl, rfl, h2, h3, h4, h5, h6⟩ := view_ok hst h hx
  exact .sl blk off' cap' sz es f h2 h4 (fun p q hp hq => ⟨h5 p q hp hq, hb blk _ h3⟩) (fun p q e c he hc => (h6 p q e c he hc).mono fun b o h => ⟨hIc b o h, rfl⟩)

theorem vslice_sound {T : TypeId} {lo hi mx : Option Operand} {vx : Value} {ox : Option Nat} (hst : St G n I0 M w0 I β ob s a w) (h : vslice P T x (lo.map (ev G s)) (hi.map (ev G s)) (mx.map (ev G s)) K) (hx : LR (Wr M w0) I β w ox vx x) :
    ∃ z u, K z ∧ LR (Wr M w0) I β w none u z ∧ (Instr.sliceAt T vx (lo.map a.eval) (hi.map a.eval) (mx.map a.eval)).run P w = .ok u w := by
  unfold vslice at h
  split at h
  · rename_i st hi'
    obtain ⟨j, d, h1, h2, h3, _⟩ := ti_spec hi'
    have hd := kdOf_str h3
    subst hd
    rw [hx.lit]
    split at h
    · rename_i l hh hl hhh hm
      obtain ⟨⟨h0, h01, h02⟩, h⟩ := h
      have hmx : mx.map a.eval = none := by cases mx <;> simp_all
      refine ⟨_, _, h, .ofLit rfl, ?_⟩
      unfold Instr.sliceAt
      simp only [Sem.run_bind, run_underlying h2, Result.andThen_ok]
      unfold Instr.slice
      simp only [Sem.run_bind, run_underlying h2, Result.andThen_ok, hmx]
      simp [run_bounds (P := P) (w := w) false st.size st.size _ _ l hh (opt_ok hst hl) (opt_ok hst hhh) h0 h01 h02 (Nat.le_refl _)]
    · exact h.elim
  · rename_i e _ _ _ _ _ _ es hi'
    obtain ⟨j, d, h1, h2, h3, _⟩ := ti_spec hi'
    have hd := kdOf_slice h3
    subst hd
    have hcr := hx.toC
    split at h
    · rename_i hm
      split at h
      case h_2 => exact h.elim
      rename_i ie l hh hie hl hhh
      obtain ⟨j', d', h1', h2', _, hsz', _⟩ := ti_spec hie
      obtain ⟨⟨h0, h01, h02, hs⟩, h⟩ := h
      have hmx : mx.map a.eval = none := by cases mx <;> simp_all
      have hb := fun cap hc => run_bounds (P := P) (w := w) true es.length cap _ _ l hh (opt_ok hst hl) (opt_ok hst hhh) h0 h01 h02 hc
      have hsize := run_sizeOf (P := P) w h1'
      rcases hcr.sl_inv with ⟨⟨xa, xc, hv, hxc⟩, rfl⟩ | ⟨b, off, cap, sz, f, hv, hcap, _⟩
      · simp only [List.length_nil] at h02
        have : l = 0 ∧ hh = 0 := by omega
        obtain ⟨rfl, rfl⟩ := this
        refine ⟨_, .slice xa 0 xc, h, .ofC (by simpa using CR.nil xa xc hxc), ?_⟩
        subst hv
        unfold Instr.sliceAt
        simp only [Sem.run_bind, run_underlying h2, Result.andThen_ok]
        unfold Instr.slice
        simp only [Sem.run_bind, run_underlying h2, Result.andThen_ok, hmx]
        have := hb xc (by simp)
        simp only [List.length_nil] at this
        cases xa with
        | none => obtain rfl := hxc rfl; simp [this, hsize]
        | some xa => simp [this, hsize, Addr.add]
      · subst hv
        refine ⟨_, .slice (some (if cap = l.toNat then ⟨b, off, none⟩ else ⟨b, off + l.toNat * ie.size, none⟩)) (hh.toNat - l.toNat) (cap - l.toNat), h, .ofC ?_, ?_⟩
        · split
          · rename_i hcl
            have : (es.take hh.toNat).drop l.toNat = ([] : List (List C)) := List.eq_nil_of_length_eq_zero (by simp; omega)
            rw [this]
            have e1 : hh.toNat - l.toNat = 0 := by omega
            have e2 : cap - l.toNat = 0 := by omega
            rw [e1, e2]
            exact .sl b off 0 0 [] (fun _ _ => undef) (Nat.le_refl _) (by simp) (by simp) (by simp)
          · exact hcr.subslice hs (by omega) (by omega) (by omega)
        · unfold Instr.sliceAt
          simp only [Sem.run_bind, run_underlying h2, Result.andThen_ok]
          unfold Instr.slice
          simp only [Sem.run_bind, run_underlying h2, Result.andThen_ok, hmx, hb cap hcap, hsize, Sem.run_pure, cellsOf_eq h1', ← hsz']
          split <;> simp_all [Addr.add_lit]
    · rename_i km mm hm
      split at h
      · rename_i ie l khh hh hie hl hhh
        obtain ⟨j', d', h1', h2', _, hsz', _⟩ := ti_spec hie
        obtain ⟨⟨h0, h01, h02, rfl, hs⟩, h⟩ := h
        obtain ⟨km', hmx⟩ : ∃ k, mx.map a.eval = some (.int k mm) := by
          rcases mx with _ | X
          · simp at hm
          · have hX := ev_sound hst X
            simp only [Option.map_some, Option.some.injEq] at hm
            rw [hm] at hX
            exact ⟨km, by rw [Option.map_some, hX.lit]⟩
        have hhi : ∃ k, hi.map a.eval = some (.int k mm) := by
          rcases hi with _ | X
          · simp at hhh
          · have hX := ev_sound hst X
            simp only [Option.map_some, Option.some.injEq] at hhh
            rw [hhh] at hX
            exact ⟨khh, by rw [Option.map_some, hX.lit]⟩
        have hb := fun cap hc => run_bounds3 (P := P) (w := w) true es.length cap _ _ l mm km' (opt_ok hst hl) hhi h0 h01 hc
        have hsize := run_sizeOf (P := P) w h1'
        rcases hcr.sl_inv with ⟨⟨xa, xc, hv, hxc⟩, rfl⟩ | ⟨b, off, cap, sz, f, hv, hcap, _⟩
        · simp only [List.length_nil] at h02
          have : l = 0 ∧ mm = 0 := by omega
          obtain ⟨rfl, rfl⟩ := this
          refine ⟨_, .slice xa 0 0, h, ⟨by simpa using CR.nil xa 0 (fun _ => rfl), .inl ⟨rfl, rfl, xa, by simp⟩⟩, ?_⟩
          subst hv
          unfold Instr.sliceAt
          simp only [Sem.run_bind, run_underlying h2, Result.andThen_ok]
          unfold Instr.slice
          simp only [Sem.run_bind, run_underlying h2, Result.andThen_ok, hmx]
          have := hb xc (by simp)
          simp only [List.length_nil] at this
          cases xa with
          | none => obtain rfl := hxc rfl; simp [this, hsize]
          | some xa => simp [this, hsize, Addr.add]
        · subst hv
          have hlen : ((es.take mm.toNat).drop l.toNat).length = mm.toNat - l.toNat := by simp; omega
          refine ⟨_, .slice (some (if mm.toNat = l.toNat then ⟨b, off, none⟩ else ⟨b, off + l.toNat * ie.size, none⟩)) (mm.toNat - l.toNat) (mm.toNat - l.toNat), h, ⟨?_, .inl ⟨rfl, rfl, _, by rw [hlen]⟩⟩, ?_⟩
          · split
            · rename_i hcl
              have : (es.take mm.toNat).drop l.toNat = ([] : List (List C)) := List.eq_nil_of_length_eq_zero (by simp; omega)
              rw [this]
              have e1 : mm.toNat - l.toNat = 0 := by omega
              rw [e1]
              exact .sl b off 0 0 [] (fun _ _ => undef) (Nat.le_refl _) (by simp) (by simp) (by simp)
            · exact hcr.subslice hs (by omega) (by omega) (by omega)
          · unfold Instr.sliceAt
            simp only [Sem.run_bind, run_underlying h2, Result.andThen_ok]
            unfold Instr.slice
            simp only [Sem.run_bind, run_underlying h2, Result.andThen_ok, hmx, hb cap (by omega), hsize, Sem.run_pure, cellsOf_eq h1', ← hsz']
            split <;> simp_all [Addr.add_lit]
      · exact h.elim
    · exact h.elim
  · rename_i e _ _ _ _ _ _ b off len cap sz hi'
    obtain ⟨j, d, h1, h2, h3, _⟩ := ti_spec hi'
    have hd := kdOf_slice h3
    subst hd
    split at h
    · rename_i ie l hh mm hie hl hhh hmm
      obtain ⟨j', d', h1', h2', _, hsz', _⟩ := ti_spec hie
      obtain ⟨⟨hsz, h0, h01, h02, h03, h04⟩, h⟩ := h
      simp only [LR] at hx
      obtain ⟨hcap, blk, off', cap', hcc, e1, hoff, rfl⟩ := hx
      have hsize := run_sizeOf (P := P) w h1'
      have hb : ∃ M : Nat, mm ≤ (M : Int) ∧ M ≤ cap' ∧ (Instr.sliceBounds true len cap' (lo.map a.eval) (hi.map a.eval) (mx.map a.eval)).run P w = .ok (l.toNat, hh.toNat, M) w := by
        rcases opt_ok hst hmm with ⟨e, rfl⟩ | ⟨km, e⟩
        · refine ⟨cap', by omega, Nat.le_refl _, ?_⟩
          rw [e]
          have := run_boundsC (P := P) (w := w) len cap' _ _ l hh (opt_ok hst hl) (opt_ok hst hhh) h0 h01 (by omega)
          simpa using this
        · refine ⟨mm.toNat, by omega, by omega, ?_⟩
          rw [e]
          have hhi : ∃ k, hi.map a.eval = some (.int k hh) := by
            rcases opt_ok hst hhh with ⟨e5, _⟩ | h5
            · cases mx with
              | none => cases e
              | some X => have := h04 rfl; cases hi <;> simp_all
            · exact h5
          exact run_boundsM (P := P) (w := w) len cap' _ _ l hh mm km (opt_ok hst hl) hhi h0 h01 h02 (by omega)
      obtain ⟨M, hM1, hM2, hb⟩ := hb
      refine ⟨_, .slice (some (if M = l.toNat then ⟨blk, off', none⟩ else ⟨blk, off' + l.toNat * ie.size, none⟩)) (hh.toNat - l.toNat) (M - l.toNat), h, ?_, ?_⟩
      · simp only [LR]
        split
        · exact ⟨by omega, blk, off', M - l.toNat, by omega, e1, .inl (by omega), rfl⟩
        · have : off' = off := by rcases hoff with h4 | h4; omega; exact h4
          exact ⟨by omega, blk, _, M - l.toNat, by omega, e1, .inr (by rw [this, hsz]), rfl⟩
      · unfold Instr.sliceAt
        simp only [Sem.run_bind, run_underlying h2, Result.andThen_ok]
        unfold Instr.slice
        simp only [Sem.run_bind, run_underlying h2, Result.andThen_ok, hb, hsize, Sem.run_pure, cellsOf_eq h1', ← hsz']
        split <;> simp_all [Addr.add_lit]
    · exact h.elim
  · rename_i m e _ _ _ _ _ _ cs k hi'
    obtain ⟨j, d, h1, h2, h3, _⟩ := ti_spec hi'
    have hd := kdOf_arr h3
    subst hd
    obtain ⟨b, off, f, rfl, hcell, hrel⟩ := hx.toC.rp_inv
    split at h
    · rename_i ie hie hl hh hm
      obtain ⟨j', d', h1', h2', _, hsz', _⟩ := ti_spec hie
      obtain ⟨hle, h⟩ := h
      have e1 : lo.map a.eval = none := by cases lo <;> simp_all
      have e2 : hi.map a.eval = none := by cases hi <;> simp_all
      have e3 : mx.map a.eval = none := by cases mx <;> simp_all
      have hsize := run_sizeOf (P := P) w h1'
      refine ⟨_, .slice (some ⟨b, off + k, none⟩) m m, h, .ofC ?_, ?_⟩
      · have hcl := chunks_length (sz := ie.size) m (cs.drop k)
        have hidx : ∀ i q, i < m → q < ie.size → k + i * ie.size + q < cs.length := fun i q hi hq => by
          have : (i + 1) * ie.size ≤ m * ie.size := Nat.mul_le_mul_right _ hi
          rw [Nat.succ_mul] at this; omega
        have hmem : ∀ x ∈ chunks ie.size m (cs.drop k), x.length = ie.size := fun x hx => by
          obtain ⟨i, hi, he⟩ := List.mem_iff_getElem.1 hx
          have := chunks_get (sz := ie.size) m (cs.drop k) i (by omega)
          rw [List.getElem?_eq_getElem hi] at this
          simp only [Option.some.injEq] at this
          rw [← he, this]
          have hm' : (i + 1) * ie.size ≤ m * ie.size := Nat.mul_le_mul_right _ (by omega)
          rw [Nat.succ_mul] at hm'
          simp; omega
        have := CR.sl (I := I) (w := w) b (off + k) m ie.size (chunks ie.size m (cs.drop k)) (fun i q => f (k + i * ie.size + q)) (by omega) hmem
          (fun i q hi hq => by
            have := hcell (k + i * ie.size + q) (hidx i q (by omega) hq)
            rw [show off + k + i * ie.size + q = off + (k + i * ie.size + q) by omega]
            exact this)
          (fun i q e c he hc => by
            have hi : i < m := by have := (List.getElem?_eq_some_iff.1 he).1; omega
            rw [chunks_get m _ i hi] at he
            simp only [Option.some.injEq] at he
            subst he
            rw [List.getElem?_take] at hc
            split at hc
            · rw [List.getElem?_drop, List.getElem?_drop] at hc
              exact hrel _ c (by rw [Nat.add_assoc]; exact hc)
            · cases hc)
        rw [hcl] at this
        exact this
      · unfold Instr.sliceAt
        simp only [Sem.run_bind, run_underlying h2, Result.andThen_ok, Instr.sureAddr, Sem.run_pure, e1, e2, e3]
        have := run_bounds (P := P) (w := w) false m m none none 0 m (.inl ⟨rfl, rfl⟩) (.inl ⟨rfl, rfl⟩) (Int.le_refl _) (by omega) (Int.le_refl _) (Nat.le_refl _)
        simp only [this, Result.andThen_ok, hsize, Sem.run_bind, Sem.run_pure]
        simp [Addr.add_lit]
    · exact h.elim
  · exact h.elim

end
end Go.Vl
