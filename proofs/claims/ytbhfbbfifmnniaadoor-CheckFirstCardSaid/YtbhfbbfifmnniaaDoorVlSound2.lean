/- Values without memory: the operations keep the relation: arithmetic, comparisons, parts, loads, addresses. -/
import Derived.Test.YtbhfbbfifmnniaaDoorVlEq
set_option linter.unusedSimpArgs false
set_option linter.unusedVariables false
namespace Go.Vl
open Go Go.RowKit

section
variable {P : Program} {G : Gl} {tr : List Nat} {n : Nat} {I0 : Ft} {M : Mx} {w0 : World} {I : Ft} {β : Nat → Option Nat} {ob : Loc → Option Nat} {s : S} {a : Act} {w : World} {o : Oper}
  {next : Act → World → Prop} {Q : Exit → Act → World → Prop} {base : Nat → Prop} {v : Value} {x y : V} {K : V → Prop}

theorem vint_sound {op : BinOp} {k yk : IntKind} {a b : Int} {T : TypeId} (h : vint op k a b K) (hk : (op = .shl ∨ op = .shr) ∨ yk = k) :
    ∃ u, flat u = true ∧ K (.c (.lit u)) ∧ (binOp op T (.int k a) (.int yk b)).run P w = .ok u w := by
  by_cases hs : op = .shl ∨ op = .shr
  · rcases hs with rfl | rfl <;> simp only [vint] at h
    · exact ⟨_, rfl, h.2, by rw [binOp_shl]; simp [Op.shift, Int.not_lt.2 h.1]⟩
    · exact ⟨_, rfl, h.2, by rw [binOp_shr]; simp [Op.shift, Int.not_lt.2 h.1]⟩
  · have : yk = k := hk.resolve_left hs
    subst this
    cases op <;> simp only [vint] at h <;> simp only [reduceCtorEq, or_false, or_true, not_true_eq_false] at hs
    case add => exact ⟨_, rfl, h, by rw [binOp_add]; rfl⟩
    case sub => exact ⟨_, rfl, h, by rw [binOp_sub]; rfl⟩
    case mul => exact ⟨_, rfl, h, by rw [binOp_mul]; rfl⟩
    case quo => exact ⟨_, rfl, h.2, by rw [binOp_quo]; simp [Op.intDiv, h.1]⟩
    case rem => exact ⟨_, rfl, h.2, by rw [binOp_rem]; simp [Op.intDiv, h.1]⟩
    case and => exact ⟨_, rfl, h, by rw [binOp_and, intBits_and]; rfl⟩
    case or => exact ⟨_, rfl, h, by rw [binOp_or, intBits_or]; rfl⟩
    case xor => exact ⟨_, rfl, h, by rw [binOp_xor, intBits_xor]; rfl⟩
    case andNot => exact ⟨_, rfl, h, by rw [binOp_andNot, intBits_andNot]; rfl⟩
    case eql => exact ⟨_, rfl, h, by rw [binOp_eql]; rfl⟩
    case neq => exact ⟨_, rfl, h, by rw [binOp_neq]; rfl⟩
    case lss => exact ⟨_, rfl, h, by rw [binOp_lss]; rfl⟩
    case leq => exact ⟨_, rfl, h, by rw [binOp_leq]; rfl⟩
    case gtr => exact ⟨_, rfl, h, by rw [binOp_gtr]; rfl⟩
    case geq => exact ⟨_, rfl, h, by rw [binOp_geq]; rfl⟩

theorem vstr_sound {op : BinOp} {a b : ByteArray} {T : TypeId} (h : vstr op a b K) :
    ∃ u, flat u = true ∧ K (.c (.lit u)) ∧ (binOp op T (.string a) (.string b)).run P w = .ok u w := by
  have hb : binOp op T (.string a) (.string b) = Op.stringOp op a b := by cases op <;> rfl
  rw [hb]
  cases op <;> simp only [vstr] at h
  case add =>
    refine ⟨_, rfl, h.2, ?_⟩
    have : ¬ (((a.size + b.size : Nat) : Int) > IntKind.i64.max) := by simp; omega
    simp only [Op.stringOp, if_neg this]; rfl
  case eql => exact ⟨_, rfl, h, by simp only [Op.stringOp, beq_toList]; rfl⟩
  case neq => exact ⟨_, rfl, h, by simp only [Op.stringOp, beq_toList]; rfl⟩
  case lss => exact ⟨_, rfl, h, by simp only [Op.stringOp]; rfl⟩
  case leq => exact ⟨_, rfl, h, by simp only [Op.stringOp, beq_toList]; rfl⟩
  case gtr => exact ⟨_, rfl, h, by simp only [Op.stringOp, beq_toList]; rfl⟩
  case geq => exact ⟨_, rfl, h, by simp only [Op.stringOp]; rfl⟩

theorem vbin_sound {op : BinOp} {T : TypeId} {vx vy : Value} {ox oy : Option Nat} (h : vbin P op T x y K) (hx : LR base I β w ox vx x) (hy : LR base I β w oy vy y) (X Y : Operand) :
    ∃ u, flat u = true ∧ K (.c (.lit u)) ∧ (do eqGuard op T X Y vx vy; binOp op T vx vy : Sem Value).run P w = .ok u w := by
  unfold vbin at h
  split at h
  · rename_i k a k' b
    rw [hx.lit, hy.lit, eqGuard_at_int]
    simp only [Sem.run_bind, Sem.run_pure, Result.andThen_ok]
    split at h
    · exact vint_sound h (.inl (.inl rfl))
    · exact vint_sound h (.inl (.inr rfl))
    · split at h
      · rename_i hk; exact vint_sound h (.inr hk.symm)
      · exact h.elim
  · rw [hx.lit, hy.lit, eqGuard_at_string]
    simp only [Sem.run_bind, Sem.run_pure, Result.andThen_ok]
    exact vstr_sound h
  · rename_i a b
    rw [hx.lit, hy.lit, eqGuard_at_bool]
    simp only [Sem.run_bind, Sem.run_pure, Result.andThen_ok]
    split at h
    · rename_i i hi
      obtain ⟨j, d, h1, h2, h3, _⟩ := ti_spec hi
      have hd := kdOf_bool h3
      subst hd
      split at h
      · exact ⟨_, rfl, h, by simp [binOp, Op.equal, Op.maxDepth, run_equalIn_bool' w 9999 T _ _ h2]⟩
      · exact ⟨_, rfl, h, by simp [binOp, Op.equal, Op.maxDepth, run_equalIn_bool' w 9999 T _ _ h2]⟩
      · exact h.elim
    · exact h.elim
  · rename_i xs ys
    obtain ⟨vs, rfl, hxs, hx2⟩ := hx.agg
    obtain ⟨us, rfl, hys, hy2⟩ := hy.agg
    split at h
    · rename_i ks hi
      obtain ⟨j, d, h1, h2, _, _, _, hag, _, _, heqs, _⟩ := ti_spec hi
      simp only at hag heqs
      split at h
      · rename_i r hr
        obtain ⟨⟨hl1, hl2⟩, h⟩ := h
        split at heqs
        · cases heqs
        · rename_i hg
          have hg' : P.eqGuardType P.depth T = false := by simpa using hg
          have e1 := eqk_sound (w := w) 8 T ks heqs.symm 10000 (by omega) vs us xs ys r ⟨hxs, hx2⟩ ⟨hys, hy2⟩ (by omega) (by omega) hr
          have hv : ∀ z : Array Value, mkv P T z = .agg z := fun z => by simp [mkv, ← hag]
          rw [hv, hv] at e1
          simp only [Sem.run_bind, run_eqGuard_agg w op T X Y vs us hg', Result.andThen_ok]
          split at h
          · exact ⟨_, rfl, h, by rw [run_eql_struct, e1]; rfl⟩
          · exact ⟨_, rfl, h, by rw [run_neq_struct, e1]; rfl⟩
          · exact h.elim
      · exact h.elim
    · exact h.elim
  · exact h.elim

theorem vnil_sound {op : BinOp} {T : TypeId} {vx : Value} {ox : Option Nat} (h : vnil P op T x K) (hx : LR base I β w ox vx x) (X Y : Operand) :
    ∃ u, flat u = true ∧ K (.c (.lit u)) ∧ (do eqGuard op T X Y vx (.slice none 0 0); binOp op T vx (.slice none 0 0) : Sem Value).run P w = .ok u w := by
  unfold vnil at h
  split at h
  · rename_i e _ _ _ _ _ _ hi
    obtain ⟨j, d, h1, h2, h3, _⟩ := ti_spec hi
    have hd' := kdOf_slice h3
    subst hd'
    -- what it is, and what is known of it
    have key : ∀ Kb : Bool → Prop, vnilB x Kb → ∃ (a : Option Addr) (n c : Nat), vx = .slice a n c ∧ Kb a.isNone := by
      intro Kb h
      unfold vnilB at h
      split at h
      · rcases (hx.toC).sl_inv with ⟨_, h0⟩ | ⟨b, off, cap, _, _, hv, _⟩
        · cases h0
        · exact ⟨_, _, _, hv, h⟩
      · have hx' := hx.1
        rcases hx'.sl_inv with ⟨_, h0⟩ | ⟨b, off, cap, _, _, hv, _⟩
        · cases h0
        · exact ⟨_, _, _, hv, h⟩
      · simp only [LR] at hx
        obtain ⟨_, blk, off', cap', _, _, _, rfl⟩ := hx
        exact ⟨_, _, _, rfl, h⟩
      · rcases (hx.toC).sl_inv with ⟨⟨a, c, hv, _⟩, _⟩ | ⟨b, off, cap, _, _, hv, _⟩
        · exact ⟨_, _, _, hv, by cases a; exact h.1; exact h.2⟩
        · exact ⟨_, _, _, hv, h.2⟩
      · have hx' := hx.1
        rcases hx'.sl_inv with ⟨⟨a, c, hv, _⟩, _⟩ | ⟨b, off, cap, _, _, hv, _⟩
        · exact ⟨_, _, _, hv, by cases a; exact h.1; exact h.2⟩
        · exact ⟨_, _, _, hv, h.2⟩
      · exact h.elim
    have hg : ∀ (a : Option Addr) (n c : Nat), (eqGuard op T X Y (.slice a n c) (.slice none 0 0)).run P w = .ok () w := fun a n c => by
      unfold eqGuard
      split <;> rfl
    have heq : ∀ (d : Nat) (a : Option Addr) (n c : Nat), (Op.equalIn (d + 1) T (.slice a n c) (.slice none 0 0)).run P w = .ok a.isNone w := fun d a n c => by
      cases a <;> simp [Op.equalIn, run_underlying h2]
    split at h
    · obtain ⟨a, n, c, rfl, hK⟩ := key _ h
      refine ⟨_, rfl, hK, ?_⟩
      simp only [Sem.run_bind, hg, Result.andThen_ok]
      simp [binOp, Op.equal, Op.maxDepth, heq 9999]
    · obtain ⟨a, n, c, rfl, hK⟩ := key _ h
      refine ⟨_, rfl, hK, ?_⟩
      simp only [Sem.run_bind, hg, Result.andThen_ok]
      simp [binOp, Op.equal, Op.maxDepth, heq 9999]
    · exact h.elim
  · exact h.elim

theorem vun_sound {op : UnOp} {vx : Value} {ox : Option Nat} (h : vun op x K) (hx : LR base I β w ox vx x) : ∃ u, flat u = true ∧ K (.c (.lit u)) ∧ (Op.unary op vx).run P w = .ok u w := by
  unfold vun at h
  split at h
  · rw [hx.lit]; exact ⟨_, rfl, h, rfl⟩
  · rw [hx.lit]; exact ⟨_, rfl, h, by simp only [Op.unary, intBits_xor]; rfl⟩
  · rw [hx.lit]; exact ⟨_, rfl, h, rfl⟩
  · exact h.elim

theorem partV_sound {ag : Bool} {sz off : Nat} {cs : List C} {xs : Array Value} (h : partV ag sz off cs K) (hc : Cells I w xs cs) :
    ∃ z v, K z ∧ LR base I β w none v z ∧ ((ag = true ∧ off + sz ≤ xs.size ∧ v = .agg (xs.extract off (off + sz))) ∨ (ag = false ∧ xs[off]? = some v)) := by
  unfold partV at h
  split at h
  · rename_i hag
    have hle : off + sz ≤ xs.size := by rw [hc.1]; exact h.1
    have hx := hc.extract off sz hle
    exact ⟨_, _, h.2, by simp only [LR]; exact .agg _ _ hx.1 hx.2, .inl ⟨hag, hle, rfl⟩⟩
  · rename_i hag
    split at h
    · rename_i c hcc
      have hlt : off < xs.size := by rw [hc.1]; exact (List.getElem?_eq_some_iff.1 hcc).1
      exact ⟨_, xs.getD off undef, h, .ofC (hc.2 off c hcc), .inr ⟨by simpa using hag, by simp [Array.getElem?_eq_getElem hlt]⟩⟩
    · exact h.elim

theorem PR.toLR {u : Value} {z : V} (h : PR I β w u z) : LR base I β w none u z := by
  cases z <;> simp only [PR] at h <;> simp only [LR] <;> first | exact h | exact .c _ _ h

theorem aggV_ok {cells : Array Value} {vs : List V} (hl : cells.size = vs.length) (h : ∀ j x, vs[j]? = some x → PR I β w (cells.getD j undef) x) : LR base I β w none (.agg cells) (aggV vs) := by
  unfold aggV
  split
  · rename_i cs hcs
    simp only [LR]
    refine .agg _ _ (by rw [hl]; exact (List.mapM_eq_some_length hcs).symm) fun j c hc => ?_
    obtain ⟨x, hx, hxc⟩ := List.mapM_eq_some_get hcs j c hc
    have := h j x hx
    cases x <;> simp only [V.asC] at hxc <;> try cases hxc
    · exact this
    · exact this.elim
  · exact ⟨cells, rfl, hl, h⟩

theorem LR.toPR {o : Option Nat} {u : Value} {z : V} (h : LR base I β w o u z) (hp : z.isPO = true) : PR I β w u z.fz := by
  cases z <;> simp only [V.isPO] at hp <;> try cases hp
  · exact h.toC
  · exact h.1
  · exact h
  · exact h

theorem partM_sound {ag : Bool} {sz off : Nat} {vs : List V} {xs : Array Value} (h : partM ag sz off vs K) (hl : xs.size = vs.length) (hc : ∀ j x, vs[j]? = some x → PR I β w (xs.getD j undef) x) :
    ∃ z v, K z ∧ LR base I β w none v z ∧ ((ag = true ∧ off + sz ≤ xs.size ∧ v = .agg (xs.extract off (off + sz))) ∨ (ag = false ∧ xs[off]? = some v)) := by
  unfold partM at h
  split at h
  · rename_i hag
    have hle : off + sz ≤ xs.size := by rw [hl]; exact h.1
    refine ⟨_, _, h.2, aggV_ok ?_ fun j x hx => ?_, .inl ⟨hag, hle, rfl⟩⟩
    · simp only [Array.size_extract, List.length_take, List.length_drop]; omega
    · rw [List.getElem?_take] at hx
      split at hx
      · rename_i hj
        rw [List.getElem?_drop] at hx
        have := hc (off + j) x hx
        have e1 : (xs.extract off (off + sz)).getD j undef = xs.getD (off + j) undef := by
          rw [Array.getD_eq_getD_getElem?, Array.getElem?_extract, if_pos (by omega), ← Array.getD_eq_getD_getElem?]
        rw [e1]; exact this
      · cases hx
  · rename_i hag
    split at h
    · rename_i c hcc
      have hlt : off < xs.size := by rw [hl]; exact (List.getElem?_eq_some_iff.1 hcc).1
      exact ⟨_, xs.getD off undef, h, (hc off c hcc).toLR, .inr ⟨by simpa using hag, by simp [Array.getElem?_eq_getElem hlt]⟩⟩
    · exact h.elim

/-- Cells in memory that are there for good. -/
theorem rp_cells {b off : Nat} {cs : List C} {f : Nat → Value} (hc : ∀ j, j < cs.length → w.cell? ⟨b, off + j, none⟩ = some (f j) ∧ I b (off + j))
    (hr : ∀ j c, cs[j]? = some c → CR I w (f j) c) : Cells I w ((List.range cs.length).map f).toArray cs := by
  refine ⟨by simp, fun j c h => ?_⟩
  have hj := (List.getElem?_eq_some_iff.1 h).1
  have : ((List.range cs.length).map f).toArray.getD j undef = f j := by simp [hj]
  rw [this]; exact hr j c h

theorem run_loadVar_cells (T : TypeId) (d : TypeDesc) (hd : P.underlying T = some d) (b off : Nat) (f : Nat → Value) (m : Nat) (hm : m = P.cellsOf T)
    (hc : ∀ j, j < m → w.cell? ⟨b, off + j, none⟩ = some (f j)) (h1 : isAggB P T = false → 0 < m) :
    (loadVar T ⟨b, off, none⟩).run P w = .ok (if isAggB P T then .agg ((List.range m).map f).toArray else f 0) w := by
  obtain ⟨i, hi⟩ := info_of_underlying hd
  unfold loadVar
  simp only [Sem.run_bind, run_isAgg T d hd, Result.andThen_ok]
  cases hag : isAggB P T with
  | true =>
    simp only [if_true, Sem.run_bind, run_sizeOf w hi, Result.andThen_ok, ← hm]
    rw [run_loadCells w ⟨b, off, none⟩ m f (fun j hj => by rw [Addr.add_lit]; exact hc j hj)]
    rfl
  | false =>
    have := hc 0 (h1 hag)
    simp only [Nat.add_zero] at this
    simp [this]

theorem cellsOf_eq {T : TypeId} {j : TypeInfo} (h : P.info? T = some j) : P.cellsOf T = j.size := by simp [Program.cellsOf, h]

theorem vload_sound {T : TypeId} {vx : Value} {ox : Option Nat} (hst : St G n I0 M w0 I β ob s a w) (h : vload P T s x K) (hx : LR (Wr M w0) I β w ox vx x) :
    ∃ z u, K z ∧ LR (Wr M w0) I β w none u z ∧ (Instr.loadAt T vx).run P w = .ok u w := by
  unfold vload at h
  split at h
  · rename_i i cs k hi
    obtain ⟨j, d, h1, h2, _, hsz, _, hag, _⟩ := ti_spec hi
    have hcr := hx.toC
    generalize hrp : C.rp cs k = c at hcr
    cases hcr <;> cases hrp
    rename_i b off f hcell hrel
    have hcs := rp_cells hcell hrel
    obtain ⟨z, v, hz, hlr, hv⟩ := partV_sound (base := Wr M w0) (β := β) h hcs
    refine ⟨z, v, hz, hlr, ?_⟩
    simp only [Instr.loadAt, Instr.sureAddr, Sem.run_bind, Sem.run_pure, Result.andThen_ok]
    rcases hv with ⟨h3, h4, rfl⟩ | ⟨h3, h4⟩
    · simp at h4
      rw [run_loadVar_cells T d h2 b (off + k) (fun j => f (k + j)) i.size (by rw [hsz, cellsOf_eq h1]) (fun j hj => by rw [Nat.add_assoc]; exact (hcell (k + j) (by omega)).1) (fun hz => by rw [← hag, h3] at hz; cases hz), ← hag, h3]
      simp only [if_true]
      congr 2
      apply Array.ext'
      apply List.ext_getElem?
      intro q
      by_cases hq : q < i.size
      · simp [hq, List.getElem?_take, List.getElem?_drop, show k + q < cs.length from by omega]
      · simp [hq, List.getElem?_take]
    · have hk : k < cs.length := by
        have := (Array.getElem?_eq_some_iff.1 h4).1
        simpa using this
      have hvk : v = f k := by simp [hk] at h4; exact h4.symm
      unfold loadVar
      have := (hcell k hk).1
      simp [run_isAgg T d h2, ← hag, h3, this, hvk]
  · rename_i i b k hi
    obtain ⟨j, d, h1, h2, _, hsz, _, hag, _⟩ := ti_spec hi
    obtain ⟨hb, h⟩ := h
    obtain ⟨blk, cur, TT, e1, e2, e3, e4, e5, e6, e7⟩ := hst.bx b hb
    simp only [LR] at hx
    obtain ⟨blk', e1', rfl⟩ := hx
    rw [e1] at e1'
    cases e1'
    simp only [Instr.loadAt, Instr.sureAddr, Sem.run_bind, Sem.run_pure, Result.andThen_ok]
    have hcell : ∀ q, w.cell? ⟨blk, q, none⟩ = cur[q]? := fun q => cell_of_row w blk q cur TT (0, 0) e3
    split at h
    · rename_i hagt
      obtain ⟨⟨hlen, hall⟩, hK⟩ := h
      have hkl : k + i.size ≤ cur.size ∨ i.size = 0 := by
        have hlen' := hlen
        simp only [List.length_take, List.length_drop] at hlen'; omega
      refine ⟨_, .agg ((List.range i.size).map fun q => cur.getD (k + q) undef).toArray, hK, ?_, ?_⟩
      · refine aggV_ok (by simp only [List.size_toArray, List.length_map, List.length_range, hlen]) fun q x hx => ?_
        simp only [List.getElem?_map, Option.map_eq_some_iff] at hx
        obtain ⟨vv, hvv, rfl⟩ := hx
        have hq : q < i.size := by have := (List.getElem?_eq_some_iff.1 hvv).1; omega
        have hg : ((List.range i.size).map fun q => cur.getD (k + q) undef).toArray.getD q undef = cur.getD (k + q) undef := by simp [hq]
        rw [hg]
        have hpo := List.all_eq_true.1 hall vv (List.mem_of_getElem? hvv)
        have hbx : (s.bx b).getD (k + q) .un = vv := by
          rw [List.getElem?_take, if_pos hq, List.getElem?_drop] at hvv
          simp [List.getD, hvv]
        have := e5 (k + q)
        rw [hbx] at this
        exact this.toPR hpo
      · rw [run_loadVar_cells T d h2 blk k (fun q => cur.getD (k + q) undef) i.size (by rw [hsz, cellsOf_eq h1]) (fun q hq => ?_) (fun hz => by rw [← hag, hagt] at hz; cases hz), ← hag, hagt]
        · rfl
        · rw [hcell]
          rcases hkl with hkl | hkl
          · simp [Array.getElem?_eq_getElem (show k + q < cur.size by omega)]
          · omega
    · rename_i hagf
      split at h
      · rename_i vv hvv
        have hk : k < cur.size := Nat.lt_of_lt_of_le (List.getElem?_eq_some_iff.1 hvv).1 e4
        refine ⟨_, cur.getD k undef, h, ?_, ?_⟩
        · have := e5 k
          have hbx : (s.bx b).getD k .un = vv := by simp [List.getD, hvv]
          rw [hbx] at this
          exact this.fz none
        · unfold loadVar
          have hagf' : isAggB P T = false := by rw [← hag]; simpa using hagf
          simp [run_isAgg T d h2, hagf', hcell, Array.getElem?_eq_getElem hk]
      · exact h.elim
  · exact h.elim

end
end Go.Vl
