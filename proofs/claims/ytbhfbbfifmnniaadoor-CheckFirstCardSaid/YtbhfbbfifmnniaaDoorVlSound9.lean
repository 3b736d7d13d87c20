/- Values without memory: the operations keep the relation: calls; all operations that only read; boxes. -/
import Derived.Test.YtbhfbbfifmnniaaDoorVlSound8
set_option linter.unusedSimpArgs false
set_option linter.unusedVariables false
namespace Go.Vl
open Go Go.RowKit

section
variable {P : Program} {G : Gl} {tr : List Nat} {n : Nat} {I0 : Ft} {M : Mx} {w0 : World} {I : Ft} {β : Nat → Option Nat} {ob : Loc → Option Nat} {s : S} {a : Act} {w : World} {o : Oper}
  {next : Act → World → Prop} {Q : Exit → Act → World → Prop} {base : Nat → Prop} {v : Value} {x y : V} {K : V → Prop}

/-- Arguments and what they are. -/
def ArgsR (I : Ft) (w : World) (vs : List Value) (xs : List V) : Prop := vs.length = xs.length ∧ ∀ (j : Nat) (x : V), xs[j]? = some x → DR I w (vs.getD j undef) x

theorem ArgsR.nil : ArgsR I w [] [] := ⟨rfl, by simp⟩
theorem ArgsR.append {vs us : List Value} {xs ys : List V} (h : ArgsR I w vs xs) (h' : ArgsR I w us ys) : ArgsR I w (vs ++ us) (xs ++ ys) := by
  refine ⟨by simp [h.1, h'.1], fun j x hx => ?_⟩
  have hl := h.1
  by_cases hj : j < xs.length
  · rw [List.getElem?_append_left hj] at hx
    have := h.2 j x hx
    rw [List.getD_eq_getElem?_getD, List.getElem?_append_left (by omega)]
    rw [List.getD_eq_getElem?_getD] at this
    exact this
  · rw [List.getElem?_append_right (by omega)] at hx
    have := h'.2 _ x hx
    rw [List.getD_eq_getElem?_getD, List.getElem?_append_right (by omega), hl]
    rw [List.getD_eq_getElem?_getD] at this
    exact this

theorem boxC_ok (hst : St G n I0 M w0 I β ob s a w) {i off blk : Nat} {cs : List C} (h : boxC s i = some cs) (hβ : β i = some blk) {Ic : Ft} (hIc : ∀ b o, I b o → Ic b o) (hb : ∀ o, Ic blk o) :
    CR Ic w (.pointer (some ⟨blk, off, none⟩)) (.rp cs off) := by
  unfold boxC at h
  split at h
  · rename_i hi
    obtain ⟨blk', cur, T, e1, e2, e3, e4, e5, e6, e7⟩ := hst.bx i hi
    rw [hβ] at e1
    cases e1
    have hlen : cs.length = (s.bx i).length := List.mapM_eq_some_length h
    have := CR.rp (I := Ic) (w := w) blk 0 off cs (fun j => cur.getD j undef) (fun j hj => by
      have hjc : j < cur.size := by omega
      rw [Nat.zero_add]
      refine ⟨?_, hb j⟩
      rw [cell_of_row w blk j cur T (0, 0) e3]
      simp [Array.getElem?_eq_getElem hjc]) (fun j c hc => by
      obtain ⟨vv, hvv, hvc⟩ := List.mapM_eq_some_get h j c hc
      have hlr := e5 j
      have : (s.bx i).getD j .un = vv := by simp [List.getD, hvv]
      rw [this] at hlr
      cases vv <;> simp only [V.asC] at hvc <;> try cases hvc
      · exact hlr.toC.mono fun b o h => ⟨hIc b o h, rfl⟩
      · exact hlr.1.mono fun b o h => ⟨hIc b o h, rfl⟩)
    rw [Nat.zero_add] at this
    exact this
  · cases h

theorem immC_ok (hst : St G n I0 M w0 I β ob s a w) {c : C} (hx : PR I β w v x) (h : immC s x = some c) {Ic : Ft} (hIc : ∀ b o, I b o → Ic b o)
    (hb : x.isBp = true → ∀ i b o, β i = some b → Ic b o) : CR Ic w v c := by
  cases x <;> simp only [PR] at hx <;> simp only [immC] at h
  · cases h; exact hx.mono fun b o h => ⟨hIc b o h, rfl⟩
  · obtain ⟨blk, e1, rfl⟩ := hx
    simp only [Option.map_eq_some_iff] at h
    obtain ⟨cs, h1, rfl⟩ := h
    exact boxC_ok hst h1 e1 hIc (fun o => hb rfl _ _ o e1)
  · exact view_cr hst h hx hIc (fun b o e => hb rfl _ b o e)

theorem imm_ok (hst : St G n I0 M w0 I β ob s a w) {ox : Option Nat} (hx : LR base I β w ox v x) (h : imm s x = some y) {Ic : Ft} (hIc : ∀ b o, I b o → Ic b o)
    (hb : x.boxy = true → ∀ i b o, β i = some b → Ic b o) : DR Ic w v y := by
  cases x <;> simp only [imm] at h <;> try cases h
  · exact .c _ _ (hx.toC.mono fun b o h => ⟨hIc b o h, rfl⟩)
  · obtain ⟨vs, rfl, h1, h2⟩ := hx.agg
    exact .agg vs _ h1 fun j c hc => (h2 j c hc).mono fun b o h => ⟨hIc b o h, rfl⟩
  · exact .c _ _ (hx.1.mono fun b o h => ⟨hIc b o h, rfl⟩)
  · simp only [LR] at hx
    obtain ⟨blk, e1, rfl⟩ := hx
    simp only [Option.map_eq_some_iff] at h
    obtain ⟨cs, h1, rfl⟩ := h
    exact .c _ _ (boxC_ok hst h1 e1 hIc (fun o => hb rfl _ _ o e1))
  · rename_i f fs cs
    simp only [LR] at hx
    obtain ⟨vf, vc, rfl, h1, h2, h3, h4⟩ := hx
    split at h
    · rename_i fs' cs' e1 e2
      cases h
      have l1 := List.mapM_eq_some_length e1
      have l2 := List.mapM_eq_some_length e2
      have hbf : ∀ z ∈ fs, z.isBp = true → ∀ i b o, β i = some b → Ic b o := fun z hz hzb =>
        hb (by simp only [V.boxy, Bool.or_eq_true, List.any_eq_true]; exact .inl ⟨z, hz, hzb⟩)
      have hbc : ∀ z ∈ cs, z.isBp = true → ∀ i b o, β i = some b → Ic b o := fun z hz hzb =>
        hb (by simp only [V.boxy, Bool.or_eq_true, List.any_eq_true]; exact .inr ⟨z, hz, hzb⟩)
      refine .c _ _ (.fn f vf vc fs' cs' (by omega) (by omega) (fun j c hc => ?_) (fun j c hc => ?_))
      · obtain ⟨z, hz, hzc⟩ := List.mapM_eq_some_get e1 j c hc
        exact immC_ok hst (h3 j z hz) hzc hIc (hbf z (List.mem_of_getElem? hz))
      · obtain ⟨z, hz, hzc⟩ := List.mapM_eq_some_get e2 j c hc
        exact immC_ok hst (h4 j z hz) hzc hIc (hbc z (List.mem_of_getElem? hz))
    · cases h
  · simp only [LR] at hx
    simp only [Option.map_eq_some_iff] at h
    obtain ⟨c, h1, rfl⟩ := h
    exact .c _ _ (view_cr hst h1 hx hIc (fun b o e => hb rfl _ b o e))
  · rename_i vs
    simp only [LR] at hx
    obtain ⟨cells, rfl, h2, h3⟩ := hx
    simp only [Option.map_eq_some_iff] at h
    obtain ⟨cs, h1, rfl⟩ := h
    refine .agg _ _ (by rw [h2]; exact (List.mapM_eq_some_length h1).symm) fun j c hc => ?_
    obtain ⟨z, hz, hzc⟩ := List.mapM_eq_some_get h1 j c hc
    exact immC_ok hst (h3 j z hz) hzc hIc (fun hzb => hb (by simp only [V.boxy, List.any_eq_true]; exact ⟨z, List.mem_of_getElem? hz, hzb⟩))

theorem args_ok (hst : St G n I0 M w0 I β ob s a w) {Ic : Ft} (hIc : ∀ b o, I b o → Ic b o) : ∀ (l : List Operand) (ys : List V), (l.map (ev G s)).mapM (imm s) = some ys →
    ((l.map (ev G s)).any V.boxy = true → ∀ i b o, β i = some b → Ic b o) → ArgsR Ic w (l.map a.eval) ys
  | [], ys, h, _ => by simp at h; subst h; exact .nil
  | x :: l, ys, h, hb => by
    simp only [List.map_cons, List.mapM_cons, bind, Option.bind_eq_some_iff, pure, Option.some.injEq] at h
    obtain ⟨y, h1, ys', h2, rfl⟩ := h
    have hd := imm_ok hst (ev_sound hst x) h1 hIc (fun hx => hb (by simp [hx]))
    have ih := args_ok hst hIc l ys' h2 (fun hx => hb (by simp only [List.map_cons, List.any_cons, hx, Bool.or_true]))
    refine ⟨by simp [ih.1], fun j z hz => ?_⟩
    cases j with
    | zero => simp at hz; subst hz; exact hd
    | succ j => simpa using ih.2 j z (by simpa using hz)

theorem ArgsR.ofC {I' : Ft} (vs : Array Value) (cs : List C) (h : vs.size = cs.length) (hc : ∀ j c, cs[j]? = some c → CR I' w (vs.getD j undef) c) : ArgsR I' w vs.toList (cs.map .c) := by
  refine ⟨by simp [h], fun j x hx => ?_⟩
  simp only [List.getElem?_map, Option.map_eq_some_iff] at hx
  obtain ⟨c, h1, rfl⟩ := hx
  have := hc j c h1
  rw [List.getD_eq_getElem?_getD, Array.getElem?_toList]
  rw [Array.getD_eq_getD_getElem?] at this
  exact .c _ _ this

theorem caps_ok (hst : St G n I0 M w0 I β ob s a w) {Ic : Ft} (hIc : ∀ b o, I b o → Ic b o) (vs : Array Value) (xs ys : List V) (hl : vs.size = xs.length) (h : xs.mapM (imm s) = some ys)
    (hr : ∀ j x, xs[j]? = some x → PR I β w (vs.getD j undef) x) (hb : xs.any V.boxy = true → ∀ i b o, β i = some b → Ic b o) : ArgsR Ic w vs.toList ys := by
  refine ⟨by have := List.mapM_eq_some_length h; simp; omega, fun j y hy => ?_⟩
  obtain ⟨x, hx, hxy⟩ := List.mapM_eq_some_get h j y hy
  have hp := hr j x hx
  rw [List.getD_eq_getElem?_getD, Array.getElem?_toList, ← Array.getD_eq_getD_getElem?]
  have hlr : LR (Wr M w0) I β w none (vs.getD j undef) x := by
    cases x <;> simp only [PR] at hp <;> simp only [LR]
    · exact .c _ _ hp
    · exact hp
    · exact hp
  exact imm_ok hst hlr hxy hIc (fun hb' => hb (by simp only [List.any_eq_true]; exact ⟨x, List.mem_of_getElem? hx, hb'⟩))

theorem LR.flat {r : V} {ob' : Option Nat} (hf : r.isFlat = true) (h : LR base I β w ob' v r) {I' : Ft} {w' : World} {base' : Nat → Prop} {β' : Nat → Option Nat} : LR base' I' β' w' none v r := by
  have lits : ∀ (cs : List C) (vs : Array Value), cs.all C.isLit = true → (∀ j c, cs[j]? = some c → CR I w (vs.getD j undef) c) → ∀ j c, cs[j]? = some c → CR I' w' (vs.getD j undef) c := by
    intro cs vs hc h j c hj
    have h1 := h j c hj
    have h2 := List.all_eq_true.1 hc c (List.mem_of_getElem? hj)
    cases c <;> simp [C.isLit] at h2
    obtain ⟨h3, h4⟩ := h1.lit_inv
    rw [h3]; exact .lit _ h4
  cases r with
  | un => simp only [LR]; exact .un _
  | sk => simp only [LR] at h ⊢; cases h; exact .sk
  | c c =>
    cases c <;> simp only [V.isFlat] at hf <;> try cases hf
    obtain ⟨h3, h4⟩ := h.toC.lit_inv
    rw [h3]; exact .ofLit h4
  | agg cs =>
    obtain ⟨vs, rfl, h1, h2⟩ := h.agg
    simp only [LR]; exact .agg vs _ h1 (lits _ vs hf h2)
  | tup ds =>
    simp only [LR] at h ⊢
    cases h with
    | tup vs _ h1 h2 =>
      refine .tup vs ds h1 fun j d hj => ?_
      have h3 := h2 j d hj
      have h4 := List.all_eq_true.1 hf d (List.mem_of_getElem? hj)
      cases d with
      | c c =>
        cases c <;> simp only at h4 <;> try cases h4
        generalize vs.getD j undef = vv at h3
        cases h3 with
        | c _ _ h5 =>
          obtain ⟨h6, h7⟩ := h5.lit_inv
          rw [h6]; exact .c _ _ (.lit _ h7)
      | agg cs =>
        generalize vs.getD j undef = vv at h3
        cases h3 with
        | agg us _ h5 h6 => exact .agg us _ h5 (lits _ us h4 h6)
      | _ => cases h4
  | ow => cases hf
  | bp => cases hf
  | clo => cases hf
  | ms => cases hf
  | mag => cases hf

/-- A call of a function under a contract. -/
theorem call_ok (hst : St G n I0 M w0 I β ob s a w) (hd : ∀ d, o.dst = some d → d < n) {f : FuncId} {vs : List Value} {xs : List V} {r : V} (hok : FnOK P G f xs r) (hr : K r)
    (boxy : Bool) (hargs : ∀ Ic : Ft, (∀ b o, I b o → Ic b o) → (boxy = true → ∀ i b o, β i = some b → Ic b o) → ArgsR Ic w vs xs) (hflat : boxy = true → r.isFlat = true)
    (hrun : (execOp a.eval o).run P w = .ok (.enter f vs.toArray) w)
    (hk : ∀ a' w' x, K x → SE G n I0 M w0 (s.after tr o x) a' w' → next a' w') : o.wp P a w next Q := by
  unfold Oper.wp
  rw [hrun]
  simp only [Oper.upon]
  cases boxy with
  | false =>
    obtain ⟨h1, h2⟩ := hargs I (fun _ _ h => h) (by simp)
    refine (hok.2 I w vs.toArray hst.ibnd hst.glob (by simpa using h1) (fun j x hx => by simpa using h2 j x hx)).mono ?_
    rintro e w' ⟨v, I', rfl, hg, hI1, hI2, ob', hlr, hfr⟩
    simp only
    refine hk _ _ r hr ?_
    have hst' := hst.grow hg hI1 hI2
    refine .fin hst' hd (o' := ob') ?_ fun b hb => ?_
    · cases r <;> simp only [LR] at hlr ⊢ <;> try exact hlr
      · obtain ⟨h3, h4⟩ := hlr
        refine ⟨h3, ?_⟩
        rcases h4 with h4 | ⟨e, blk, cap, cur, sz, q1, q2, q3, q4, q5⟩
        · exact .inl h4
        · exact .inr ⟨e, blk, cap, cur, sz, q1, q2, q3, .inl (Nat.le_trans hst.below.size q4), q5⟩
      · obtain ⟨_, h3, _⟩ := hlr; cases h3
      rotate_left
      · obtain ⟨_, _, _, _, _, h3, _⟩ := hlr; cases h3
      · obtain ⟨cs, q1, q2, q3⟩ := hlr
        exact ⟨cs, q1, q2, fun j x hx => (q3 j x hx).mono (fun b o h => ⟨h, rfl⟩) (by simp)⟩
      · obtain ⟨vf, vc, q1, q2, q3, q4, q5⟩ := hlr
        exact ⟨vf, vc, q1, q2, q3, fun j x hx => (q4 j x hx).mono (fun b o h => ⟨h, rfl⟩) (by simp), fun j x hx => (q5 j x hx).mono (fun b o h => ⟨h, rfl⟩) (by simp)⟩
    · obtain ⟨h3, h4⟩ := hfr b hb
      obtain ⟨f1, f2⟩ := hst.fresh h3
      exact ⟨⟨h4, .inl (Nat.le_trans hst.below.size h3)⟩, f2, fun L hL => absurd hL (f1 L)⟩
  | true =>
    have hbx : ∀ i b, β i = some b → b < w.heap.size := fun i b hi => by
      by_cases h : i < s.nb
      · obtain ⟨blk, cur, T, e1, _, e3, _⟩ := hst.bx i h
        rw [hi] at e1; cases e1
        exact (Array.getElem?_eq_some_iff.1 e3).1
      · rw [hst.bnone i (by omega)] at hi; cases hi
    obtain ⟨h1, h2⟩ := hargs (fun b o => I b o ∨ ∃ i, β i = some b) (fun _ _ h => .inl h) (fun _ i b o hi => .inr ⟨i, hi⟩)
    refine (hok.2 (fun b o => I b o ∨ ∃ i, β i = some b) w vs.toArray (fun b o hb => by
      rcases hb with hb | ⟨i, hi⟩
      · exact hst.ibnd b o hb
      · exact hbx i b hi) (fun g cs hg => (hst.glob g cs hg).mono fun b o h => ⟨.inl h, rfl⟩) (by simpa using h1) (fun j x hx => by simpa using h2 j x hx)).mono ?_
    rintro e w' ⟨v, I', rfl, hg, hI1, hI2, ob', hlr, hfr⟩
    simp only
    refine hk _ _ r hr ?_
    have hst' := hst.grow hg (fun _ _ h => h) (fun _ _ h => .inl h)
    exact .fin0 hst' hd (hlr.flat (hflat rfl))

theorem run_call {f : Operand} {args : Array Operand} {ts : Array TypeId} (ho : o.op = .call { callee := .value f, args := args, argTypes := ts }) {g : FuncId} {vf vc : Array Value} (hf : a.eval f = .func (.func g) vf vc)
    {fn : Func} {c : Code} (h1 : P.funcs[g]? = some fn) (h2 : (fn.name == "runtime.NumGoroutine") = false) (h3 : fn.body = some c) :
    (execOp a.eval o).run P w = .ok (.enter g (vf ++ args.map a.eval ++ vc)) w := by
  unfold execOp
  simp only [ho, resolve, Deferred.ofValue, hf, Sem.run_bind, Sem.run_pure, Result.andThen_ok, invoke]
  have h2' : fn.name ≠ "runtime.NumGoroutine" := by simpa using h2
  simp [callFunc, h1, h2', h3]

theorem vcall_sound {f : Operand} {args : Array Operand} {ts : Array TypeId} (ho : o.op = .call { callee := .value f, args := args, argTypes := ts }) (hst : St G n I0 M w0 I β ob s a w) (hd : ∀ d, o.dst = some d → d < n)
    (h : vcall P G s (ev G s f) (args.toList.map (ev G s)) K) (hk : ∀ a' w' x, K x → SE G n I0 M w0 (s.after tr o x) a' w' → next a' w') : o.wp P a w next Q := by
  have hf := ev_sound hst f
  unfold vcall at h
  split at h
  · rename_i g fs cs he
    rw [he] at hf
    split at h
    · rename_i as has
      obtain ⟨r, hok, hflat, hr⟩ := h
      obtain ⟨vf, vc, hv, q1, q2, q3, q4⟩ := hf.toC.fn_inv
      obtain ⟨fn, h1, h2, c, h3⟩ := hok.1
      have hrun := run_call (P := P) (w := w) ho hv h1 h2 h3
      refine call_ok hst hd hok hr ((args.toList.map (ev G s)).any V.boxy) (vs := vf.toList ++ args.toList.map a.eval ++ vc.toList) (fun Ic hIc hb => ?_) hflat ?_ hk
      · exact ((ArgsR.ofC vf fs q1 fun j c hc => (q3 j c hc).mono fun b o h => ⟨hIc b o h, rfl⟩).append (args_ok hst hIc _ as has hb)).append
          (ArgsR.ofC vc cs q2 fun j c hc => (q4 j c hc).mono fun b o h => ⟨hIc b o h, rfl⟩)
      · rw [hrun]; congr 2; apply Array.ext'; simp
    · exact h.elim
  · rename_i g fs cs he
    rw [he] at hf
    simp only [LR] at hf
    obtain ⟨vf, vc, hv, q1, q2, q3, q4⟩ := hf
    split at h
    · rename_i fs' as cs' e1 e2 e3
      obtain ⟨r, hok, hflat, hr⟩ := h
      obtain ⟨fn, h1, h2, c, h3⟩ := hok.1
      have hrun := run_call (P := P) (w := w) ho hv h1 h2 h3
      refine call_ok hst hd hok hr ((fs ++ args.toList.map (ev G s) ++ cs).any V.boxy) (vs := vf.toList ++ args.toList.map a.eval ++ vc.toList) (fun Ic hIc hb => ?_) hflat ?_ hk
      · exact ((caps_ok hst hIc vf fs fs' q1 e1 q3 fun hx => hb (by simp only [List.any_append, hx, Bool.true_or])).append
          (args_ok hst hIc _ as e2 fun hx => hb (by simp only [List.any_append, hx, Bool.true_or, Bool.or_true]))).append
          (caps_ok hst hIc vc cs cs' q2 e3 q4 fun hx => hb (by simp only [List.any_append, hx, Bool.or_true]))
      · rw [hrun]; congr 2; apply Array.ext'; simp
    · exact h.elim
  · exact h.elim

theorem vmin_sound {mx : Bool} {args : Array Operand} (hst : St G n I0 M w0 I β ob s a w) (h : vmin mx (args.toList.map (ev G s)) K) :
    ∃ u, flat u = true ∧ K (.c (.lit u)) ∧ (if mx then Builtin.max_ #[] 0 (args.map a.eval) else Builtin.min_ #[] 0 (args.map a.eval)).run P w = .ok u w := by
  unfold vmin at h
  split at h
  · rename_i k p k' q hargs
    obtain ⟨X, l, hX, hXv, hl⟩ : ∃ X l, args.toList = X :: l ∧ ev G s X = .c (.lit (.int k p)) ∧ l.map (ev G s) = [.c (.lit (.int k' q))] := by
      cases ha : args.toList with
      | nil => simp [ha] at hargs
      | cons X l => simp only [ha, List.map_cons, List.cons.injEq] at hargs; exact ⟨X, l, rfl, hargs.1, hargs.2⟩
    obtain ⟨Y, rfl, hYv⟩ : ∃ Y, l = [Y] ∧ ev G s Y = .c (.lit (.int k' q)) := by
      cases l with
      | nil => simp at hl
      | cons Y l' => simp only [List.map_cons, List.cons.injEq, List.map_eq_nil_iff] at hl; exact ⟨Y, by rw [hl.2], hl.1⟩
    have e1 : a.eval X = .int k p := by have := ev_sound hst X; rw [hXv] at this; exact this.lit
    have e2 : a.eval Y = .int k' q := by have := ev_sound hst Y; rw [hYv] at this; exact this.lit
    refine ⟨_, rfl, h, ?_⟩
    cases mx
    · simp [Builtin.min_, hX, e1, e2, Builtin.min2]
    · simp [Builtin.max_, hX, e1, e2, Builtin.max2]
  · exact h.elim

end
end Go.Vl
