/- Values without memory: from operations to whole functions. -/
import Derived.Test.YtbhfbbfifmnniaaDoorVlCall3
import Derived.LoopN
set_option linter.unusedSimpArgs false
set_option linter.unusedVariables false
namespace Go.Vl
open Go Go.RowKit

section
variable {P : Program} {G : Gl} {tr : List Nat} {n : Nat} {I0 : Ft} {M : Mx} {w0 : World} {I : Ft} {β : Nat → Option Nat} {ob : Loc → Option Nat} {s : S} {a : Act} {w : World} {o : Oper}
  {next : Act → World → Prop} {Q : Exit → Act → World → Prop} {base : Nat → Prop} {v : Value} {x y : V}

theorem SE.put (h : St G n I0 M w0 I β ob s a w) {dst : Option Tmp} (hd : ∀ d, dst = some d → d < n) (hv : LR (Wr M w0) I β w none v x) : SE G n I0 M w0 (s.put dst x) (a.put dst v) w := by
  cases dst with
  | none => exact ⟨_, _, _, h⟩
  | some d => exact ⟨_, _, _, h.put d (hd d rfl) hv FreeOb.nothing⟩

theorem zeroV_ok {u : Value} {c : C} (h : zc u = some c) : LR base I β w none u (zeroV c) := by
  unfold zc at h
  split at h
  · simp only [Option.some.injEq] at h; subst h
    exact ⟨.nil none 0 (fun _ => rfl), .inl ⟨rfl, rfl, none, rfl⟩⟩
  · split at h
    · simp only [Option.some.injEq] at h; subst h
      exact .ofLit ‹_›
    · cases h

theorem St.newCells (hst : St G n I0 M w0 I β ob s a w) (e : TypeId) {cells : Array Value} {cs : List C} (hc : Cells I w cells cs) :
    St G n I0 M w0 I (up β s.nb (some w.heap.size)) (fun L => match L with | .b i j => if i = s.nb then none else ob (.b i j) | L => ob L)
      { s with bx := up s.bx s.nb (cs.map .c), nb := s.nb + 1 } a (w.alloc (.cells cells e)) :=
  hst.newBox (cur := cells) (T := e) (cs := cs.map .c) (od := fun _ => none) (Nat.le_of_eq (by simpa using hc.1.symm)) (fun q => by
    by_cases hq : q < cs.length
    · have e2 : (cs.map V.c).getD q .un = .c cs[q] := by simp [List.getD, hq]
      rw [e2]; exact .ofC (hc.2 q _ (List.getElem?_eq_getElem hq))
    · have e2 : (cs.map V.c).getD q .un = .un := by simp [List.getD, List.getElem?_eq_none (Nat.le_of_not_lt hq)]
      rw [e2]; simp only [LR]; exact .un _) (fun u hu => by
    obtain ⟨q, hq, rfl⟩ := Array.mem_iff_getElem.1 hu
    have hql : q < cs.length := by rw [← hc.1]; exact hq
    have := (hc.2 q _ (List.getElem?_eq_getElem hql)).oneCell
    simpa [Array.getElem?_eq_getElem hq, hq] using this) (fun _ _ h => by cases h) (fun _ _ _ h => by cases h)

theorem St.newPre (hst : St G n I0 M w0 I β ob s a w) (e : TypeId) {cells : Array Value} {cs : List C} (hsz : cs.length ≤ cells.size) (hcr : ∀ q c, cs[q]? = some c → CR I w (cells.getD q undef) c)
    (hone : ∀ u ∈ cells, u.oneCell' = true) :
    St G n I0 M w0 I (up β s.nb (some w.heap.size)) (fun L => match L with | .b i j => if i = s.nb then none else ob (.b i j) | L => ob L)
      { s with bx := up s.bx s.nb (cs.map .c), nb := s.nb + 1 } a (w.alloc (.cells cells e)) :=
  hst.newBox (cur := cells) (T := e) (cs := cs.map .c) (od := fun _ => none) (by simpa using hsz) (fun q => by
    by_cases hq : q < cs.length
    · have e2 : (cs.map V.c).getD q .un = .c cs[q] := by simp [List.getD, hq]
      rw [e2]; exact .ofC (hcr q _ (List.getElem?_eq_getElem hq))
    · have e2 : (cs.map V.c).getD q .un = .un := by simp [List.getD, List.getElem?_eq_none (Nat.le_of_not_lt hq)]
      rw [e2]; simp only [LR]; exact .un _) hone (fun _ _ h => by cases h) (fun _ _ _ h => by cases h)

theorem VStep_sound {K : S → Prop} (hst : St G n I0 M w0 I β ob s a w) (hd : ∀ d, o.dst = some d → d < n) (h : VStep P G tr o s K)
    (hk : ∀ a' w' s', K s' → SE G n I0 M w0 s' a' w' → next a' w') : o.wp P a w next Q := by
  have gen : VYK P G tr o s (fun v => K (s.after tr o v)) → o.wp P a w next Q := fun h => VYK_sound (tr := tr) hst hd h (fun a' w' x hx hse => hk _ _ _ hx hse)
  unfold VStep at h
  split at h
  · -- a new variable, zero
    rename_i T hop
    split at h
    · rename_i z _ _ hi
      obtain ⟨j, d, h1, h2, _, _, _, _, hz, _⟩ := ti_spec hi
      simp only at hz
      split at hz
      · rename_i zv hzv
        have hlen := List.mapM_eq_some_length hz.symm
        have hnb := hst.newBox (cur := zv.cells) (T := T) (cs := z.map zeroV) (od := fun _ => none) (Nat.le_of_eq (by simpa using hlen)) (fun q => by
          by_cases hq : q < z.length
          · obtain ⟨u, hu, hzc⟩ := List.mapM_eq_some_get hz.symm q z[q] (List.getElem?_eq_getElem hq)
            have e1 : zv.cells.getD q undef = u := by rw [Array.getElem?_toList] at hu; simp [hu]
            have e2 : (z.map zeroV).getD q .un = zeroV z[q] := by simp [List.getD, hq]
            rw [e1, e2]; exact zeroV_ok hzc
          · have e2 : (z.map zeroV).getD q .un = .un := by simp [List.getD, List.getElem?_eq_none (Nat.le_of_not_lt hq)]
            rw [e2]; simp only [LR]; exact .un _) (fun u hu => by
          obtain ⟨q, hq, rfl⟩ := Array.mem_iff_getElem.1 hu
          have hql : q < z.length := by rw [hlen]; simpa using hq
          obtain ⟨u, hu, hzc⟩ := List.mapM_eq_some_get hz.symm q z[q] (List.getElem?_eq_getElem hql)
          rw [Array.getElem?_toList, Array.getElem?_eq_getElem hq] at hu
          cases hu
          exact (zc_ok (I := I) (w := w) hzc).oneCell) (fun _ _ h => by cases h) (fun _ _ _ h => by cases h)
        refine wp_value (v' := .pointer (some ⟨w.heap.size, 0, none⟩)) (w' := w.alloc (.cells zv.cells T)) ?_ (hk _ _ _ h (SE.put hnb hd ?_))
        · have hrun : (Instr.alloc T true (.tuple #[])).run P w = .ok (.pointer (some ⟨w.heap.size, 0, none⟩)) (w.alloc (.cells zv.cells T)) := by
            simp [Instr.alloc, zeroValue, typeInfo, h1, hzv, newVar, newRow]
          obtain ⟨dst, op, type, pos, after, guard⟩ := o
          simp only at hop
          subst hop
          simp only [execOp, Sem.run_bind, hrun, Result.andThen_ok, Sem.run_pure]
        · simp only [LR]; exact ⟨w.heap.size, by simp, rfl⟩
      · cases hz
    · exact h.elim
  · -- a new variable that holds a value
    rename_i T X hop
    split at h
    · rename_i cs hcs
      obtain ⟨ob', h1, h2⟩ := hst.use (consT tr o)
      obtain ⟨b1, b2, b3⟩ := bcells_ok (ev_sound hst X) hcs
      have hcons : consT tr o = (match X with | .tmp t => some t | _ => none) := by
        obtain ⟨dst, op, type, pos, after, guard⟩ := o
        simp only at hop; subst hop
        cases X <;> rfl
      have hbx : (s.use (consT tr o)).bx = s.bx ∧ (s.use (consT tr o)).nb = s.nb := by
        cases consT tr o with
        | none => exact ⟨rfl, rfl⟩
        | some t => simp only [S.use]; split <;> exact ⟨rfl, rfl⟩
      have hnb := h1.newBox (cur := (a.eval X).cells) (T := T) (cs := cs) (od := fun j => if j = 0 ∧ (ev G s X).isOw = true then opOb ob X else none) (Nat.le_of_eq b1.symm) b2 b3 (fun j b hb => by
        split at hb
        · rename_i hj
          cases X with
          | tmp t =>
            refine ⟨hst.obnd _ b hb, fun L hL => ?_, fun i => hst.obx _ b i hb⟩
            obtain ⟨q1, q2⟩ := h2 L b hL
            have := q2 t hcons (hst.oinj _ _ b q1 hb)
            simp only [ev] at hj
            rw [hj.2] at this; cases this
          | _ => cases hb
        · cases hb) (fun j j' b hb hb' => by
        split at hb <;> split at hb' <;> try cases hb
        all_goals try cases hb'
        rename_i q1 q2
        rw [q1.1, q2.1])
      refine wp_value (v' := .pointer (some ⟨w.heap.size, 0, none⟩)) (w' := w.alloc (.cells (a.eval X).cells T)) ?_ (hk _ _ _ h (SE.put hnb hd ?_))
      · obtain ⟨dst, op, type, pos, after, guard⟩ := o
        simp only at hop; subst hop
        simp [execOp, Instr.box, newVar, newRow]
      · simp only [LR]; exact ⟨w.heap.size, by rw [hbx.2]; simp, rfl⟩
    · exact h.elim
  · -- a store
    rename_i T p X hop
    split at h
    · rename_i i b k cs hi hp hcs
      obtain ⟨j, d, hi1, hi2, _, hsz, _⟩ := ti_spec hi
      obtain ⟨⟨hb, hlen, hfit⟩, h⟩ := h
      obtain ⟨ob', h1, h2⟩ := hst.use (consT tr o)
      obtain ⟨b1, b2, b3⟩ := bcells_ok (ev_sound hst X) hcs
      have hcons : consT tr o = (match X with | .tmp t => some t | _ => none) := by
        obtain ⟨dst, op, type, pos, after, guard⟩ := o
        simp only at hop; subst hop
        cases X <;> rfl
      have hbx : (s.use (consT tr o)).bx = s.bx ∧ (s.use (consT tr o)).nb = s.nb := by
        cases consT tr o with
        | none => exact ⟨rfl, rfl⟩
        | some t => simp only [S.use]; split <;> exact ⟨rfl, rfl⟩
      have hpv := ev_sound hst p
      rw [hp] at hpv
      simp only [LR] at hpv
      obtain ⟨blk, hβ, hpe⟩ := hpv
      obtain ⟨blk', cur, T', e1, e2, e3, e4, _⟩ := hst.bx b hb
      rw [hβ] at e1; cases e1
      have hsb := h1.setBox (i := b) (k := k) (blk := blk) (cur := cur) (T := T') (vs := (a.eval X).cells.toList) (ds := cs) (od := fun j => if j = 0 ∧ (ev G s X).isOw = true then opOb ob X else none)
        (by rw [hbx.2]; exact hb) hβ e3 (by simpa using b1) (by rw [hbx.1, hlen]; exact hfit) (fun q => by
          have := b2 q
          rw [List.getD_eq_getElem?_getD, Array.getElem?_toList, ← Array.getD_eq_getD_getElem?]; exact this) (by simpa using b3) (fun j b hb => by
        split at hb
        · rename_i hj
          cases X with
          | tmp t =>
            refine ⟨hst.obnd _ b hb, fun L hL => ?_, fun i => hst.obx _ b i hb⟩
            obtain ⟨q1, q2⟩ := h2 L b hL
            have := q2 t hcons (hst.oinj _ _ b q1 hb)
            simp only [ev] at hj
            rw [hj.2] at this; cases this
          | _ => cases hb
        · cases hb) (fun j j' b hb hb' => by
        split at hb <;> split at hb' <;> try cases hb
        all_goals try cases hb'
        rename_i q1 q2
        rw [q1.1, q2.1])
      have hrun : (Instr.storeAt T (a.eval p) (a.eval X)).run P w = .ok () (w.setRow blk (cur.toList.take k ++ (a.eval X).cells.toList ++ cur.toList.drop (k + (a.eval X).cells.toList.length)).toArray) := by
        rw [hpe]
        simp only [Instr.storeAt, Instr.sureAddr, Sem.run_bind, Sem.run_pure, Result.andThen_ok]
        unfold storeVar
        simp only [Sem.run_bind, run_sizeOf w hi1, Result.andThen_ok]
        rw [if_neg (by rw [cellsOf_eq hi1, ← hsz, b1, hlen]; simp)]
        have := run_storeCells_at P blk k T' (a.eval X).cells.toList 0 cur w e3 (by simp only [Array.length_toList, Nat.add_zero, b1, hlen]; omega) (by simpa using b3)
        simpa using this
      unfold Oper.wp
      obtain ⟨dst, op, type, pos, after, guard⟩ := o
      simp only at hop; subst hop
      simp only [execOp, Sem.run_bind, hrun, Result.andThen_ok, Sem.run_pure, Oper.upon]
      have hfin := SE.put (v := undef) (x := .sk) hsb hd (by simp only [LR]; exact .sk)
      exact hk _ _ _ h hfin
    · exact h.elim
  · -- a slice literal, as a box
    rename_i T len parts hop
    split at h
    · obtain ⟨e, sz, es, cells, hK, hrun, hc⟩ := vbuildNew_sound hst h
      have hnb := hst.newCells e hc
      refine wp_value (v' := .slice (some ⟨w.heap.size, 0, none⟩) len len) (w' := w.alloc (.cells cells e)) ?_ (hk _ _ _ hK (SE.put hnb hd ?_))
      · obtain ⟨dst, op, type, pos, after, guard⟩ := o
        simp only at hop; subst hop
        simp only [execOp, Sem.run_bind, hrun, Result.andThen_ok, Sem.run_pure]
      · simp only [LR]; exact ⟨Nat.le_refl _, w.heap.size, 0, _, Nat.le_refl _, by simp, .inr rfl, rfl⟩
    · exact gen h
  · -- a slice that is made
    rename_i T l c hop
    obtain ⟨e, p, m, sz, z, cells, hK, hpm, hrun, hc⟩ := vmake_sound hst h
    have hnb := hst.newCells e hc
    refine wp_value (v' := .slice (some ⟨w.heap.size, 0, none⟩) p m) (w' := w.alloc (.cells cells e)) ?_ (hk _ _ _ hK (SE.put hnb hd ?_))
    · obtain ⟨dst, op, type, pos, after, guard⟩ := o
      simp only at hop; subst hop
      simp only [execOp, Sem.run_bind, hrun, Result.andThen_ok, Sem.run_pure]
    · simp only [LR]; exact ⟨hpm, w.heap.size, 0, _, Nat.le_refl _, by simp, .inr rfl, rfl⟩
  · rename_i f args ts hop
    split at h
    · exact vcallB_sound hop hst hd h (fun a' w' s' x hK hse => hk _ _ _ hK hse)
    · exact gen h
  · -- an append, as a box
    rename_i args ts hop
    split at h
    · unfold vappNew at h
      split at h
      · rename_i t u es y hts hargs
        obtain ⟨htu, h⟩ := h
        subst htu
        obtain ⟨X, Y, hX, hxe, hye⟩ : ∃ X Y, args.toList = [X, Y] ∧ V.ow none es = vw s (ev G s X) ∧ y = vw s (ev G s Y) := by
          cases ha : args.toList with
          | nil => simp [ha] at hargs
          | cons X l =>
            cases l with
            | nil => simp [ha] at hargs
            | cons Y l => simp only [ha, List.map_cons, List.cons.injEq, List.map_eq_nil_iff] at hargs; exact ⟨X, Y, by rw [hargs.2.2], hargs.1.symm, hargs.2.1.symm⟩
        have e1 : ts = #[t, t] := Array.ext' hts
        have e2 : args.map a.eval = #[a.eval X, a.eval Y] := by apply Array.ext'; simp [hX]
        subst e1
        subst hye
        have hxl : LR (Wr M w0) I β w (opOb ob X) (a.eval X) (.ow none es) := by
          have := ev_sound hst X
          rw [vw_ow hxe.symm] at this; exact this
        obtain ⟨e, sz, es', cells, cap, hK, hrun, hcap, hsz, hcr, hone⟩ := vappNew_sound (ty := o.type) hst hxl h (vw_rd hst Y)
        have hnb := hst.drew.newPre e (cs := es'.flatten) hsz (fun q c hq => (hcr q c hq).mono fun b o h => ⟨h, rfl⟩) hone
        refine wp_value (v' := .slice (some ⟨w.heap.size, 0, none⟩) es'.length cap) (w' := w.drew.alloc (.cells cells e)) ?_ (hk _ _ _ hK (SE.put hnb hd ?_))
        · obtain ⟨dst, op, type, pos, after, guard⟩ := o
          simp only at hop hrun; subst hop
          have hb : ∀ cs, builtin .append #[t, t] type cs (args.map a.eval) = (do pure (.value (← Builtin.append_ #[t, t] type (args.map a.eval)))) := fun _ => rfl
          have : execOp a.eval { dst, op := .call { callee := .builtin .append, args := args, argTypes := #[t, t] }, type, pos, after, guard } = (do pure (.value (← Builtin.append_ #[t, t] type (args.map a.eval)))) := by
            simp only [execOp, resolve, invoke, pure_bind]
            exact hb _
          rw [this, e2]
          simp only [Sem.run_bind, hrun, Result.andThen_ok, Sem.run_pure]
        · simp only [LR]; exact ⟨Nat.le_refl _, w.heap.size, 0, cap, hcap, by simp, .inr rfl, rfl⟩
      · exact h.elim
    · exact gen h
  · -- is it nil?
    rename_i op T X Y yT hop
    split at h
    · rename_i hy
      have hY : Y = .const (.slice none 0 0) := by
        cases Y with
        | const v =>
          unfold isNilOp at hy
          split at hy
          · rename_i e; exact e
          · cases hy
        | _ => cases hy
      obtain ⟨u, hf, hz, hrun⟩ := vnil_sound h (ev_sound hst X) X Y
      refine wp_value (v' := u) (w' := w) ?_ (hk _ _ _ hz (.fin0 hst hd (.ofLit hf)))
      obtain ⟨dst, op', type, pos, after, guard⟩ := o
      simp only at hop; subst hop
      subst hY
      have he : a.eval (.const (.slice none 0 0)) = .slice none 0 0 := rfl
      have hx : execOp a.eval { dst, op := .binOp op T X (.const (.slice none 0 0)) yT, type, pos, after, guard } = (do pure (.value (← (do eqGuard op T X (.const (.slice none 0 0)) (a.eval X) (.slice none 0 0); binOp op T (a.eval X) (.slice none 0 0) : Sem Value)))) := rfl
      rw [hx]
      simp only [Sem.run_bind] at hrun ⊢
      rw [hrun]
      simp
    · exact gen h
  · exact gen h

/-- What a slot said to be a test shows to a guard. -/
theorem yielded_bool (hst : St G n I0 M w0 I β ob s a w) {ops : Array Oper} {j d : Nat} (hd : (ops[j]?).bind (·.dst) = some d) {p : Bool} (h : s.fr d = .c (.lit (.bool p))) : yielded ops a.tmps j = some p := by
  have := hst.fr d
  rw [h] at this
  have hv := this.lit
  unfold yielded
  rw [hd]
  simp only [Option.bind_some]
  rw [Array.getD_eq_getD_getElem?] at hv
  cases hx : a.tmps[d]? with
  | none => rw [hx] at hv; cases hv
  | some u => rw [hx] at hv; simp only [Option.getD_some] at hv; rw [hv]

theorem yielded_sk (hst : St G n I0 M w0 I β ob s a w) {ops : Array Oper} {j d : Nat} (hd : (ops[j]?).bind (·.dst) = some d) (h : s.fr d = .sk) : yielded ops a.tmps j = none := by
  have := hst.fr d
  rw [h] at this
  have hv : a.tmps.getD d undef = undef := by simp only [LR] at this; generalize a.tmps.getD d undef = u at this; cases this; rfl
  unfold yielded
  rw [hd]
  simp only [Option.bind_some]
  rw [Array.getD_eq_getD_getElem?] at hv
  cases hx : a.tmps[d]? with
  | none => rfl
  | some u => rw [hx] at hv; simp only [Option.getD_some] at hv; rw [hv]; rfl

theorem S.up_id {d : Nat} {x : V} (h : s.fr d = x) : { s with fr := up s.fr d x } = s := by
  rw [← h, up_self]

/-- An operation under its guard. -/
theorem vguard_sound {ops : Array Oper} {yes no : S → Prop} (hst : St G n I0 M w0 I β ob s a w) (h : vguard ops o s yes no) :
    (Region.wanted o (yielded ops a.tmps) = true ∧ yes s) ∨ (Region.wanted o (yielded ops a.tmps) = false ∧ no s) := by
  unfold vguard at h
  unfold Region.wanted
  split at h
  · rename_i hg
    rw [hg]; exact .inl ⟨rfl, h⟩
  · rename_i j want hg
    rw [hg]
    split at h
    · rename_i d hd
      split at h
      · rename_i p hp
        simp only [yielded_bool hst hd hp]
        by_cases hpw : p = want
        · subst hpw
          have := h.1 rfl
          rw [S.up_id hp] at this
          exact .inl ⟨by simp, this⟩
        · have hpn : p = !want := by cases p <;> cases want <;> simp_all
          have := h.2 hpn
          rw [← hpn, S.up_id hp] at this
          exact .inr ⟨by simpa using hpw, this⟩
      · rename_i hp
        simp only [yielded_sk hst hd hp]
        exact .inr ⟨rfl, h⟩
      · exact h.elim
    · exact h.elim

/-- The slots that a region writes are slots. -/
def dstOk (n : Nat) (ops : Array Oper) : Bool := ops.toList.all fun o => match o.dst with | some d => decide (d < n) | none => true

theorem dstOk_spec {ops : Array Oper} (h : dstOk n ops = true) {o : Oper} (ho : o ∈ ops.toList) : ∀ d, o.dst = some d → d < n := fun d hd => by
  have := List.all_eq_true.1 h o ho
  rw [hd] at this
  simpa using this

theorem vops_sound {ops : Array Oper} (hok : dstOk n ops = true) {K : S → Prop} (hK : ∀ a w s, K s → SE G n I0 M w0 s a w → Q .normal a w) : ∀ (l : List Oper) (k : Nat), ops.toList.drop k = l → ∀ (s : S) (a : Act) (w : World),
    vops P G tr ops l s K → SE G n I0 M w0 s a w → wpOps P ops Q (List.range' k l.length) a w
  | [], k, _, s, a, w, h, hse => by simp only [List.length_nil, List.range'_zero, wpOps]; exact hK _ _ _ h hse
  | o :: l, k, hl, s, a, w, h, hse => by
    have hget : ops[k]? = some o := by
      have : (ops.toList.drop k)[0]? = some o := by rw [hl]; rfl
      rw [List.getElem?_drop] at this
      simpa using this
    have hl' : ops.toList.drop (k + 1) = l := by
      rw [← List.drop_drop, hl]; rfl
    have hmem : o ∈ ops.toList := List.mem_of_mem_drop (i := k) (by rw [hl]; simp)
    obtain ⟨I, β, ob, hst⟩ := hse
    simp only [List.length_cons, List.range'_succ, wpOps, hget]
    simp only [vops] at h
    rcases vguard_sound hst h with ⟨hw, h⟩ | ⟨hw, h⟩
    · rw [if_pos hw]
      refine .inl (VStep_sound (tr := tr) hst (dstOk_spec hok hmem) h fun a' w' s' hs' hse' => ?_)
      exact vops_sound hok hK l (k + 1) hl' s' a' w' hs' hse'
    · rw [hw]
      simp only [Bool.false_eq_true, if_false]
      exact vops_sound hok hK l (k + 1) hl' _ _ w h (SE.put hst (dstOk_spec hok hmem) (by simp only [LR]; exact .sk))

theorem PR.ltP {β' : Nat → Option Nat} {m : Nat} (h : PR I β w v x) (hx : x.ltP m) (hβ : ∀ i, i < m → β' i = β i) : PR I β' w v x := by
  cases x <;> simp only [V.ltP] at hx <;> simp only [PR] at h ⊢ <;> try exact h
  · obtain ⟨blk, h1, h2⟩ := h; exact ⟨blk, by rw [hβ _ hx]; exact h1, h2⟩
  · obtain ⟨h0, blk, o', c', hc', h1, h2⟩ := h; exact ⟨h0, blk, o', c', hc', by rw [hβ _ hx]; exact h1, h2⟩

theorem LR.lt {β' : Nat → Option Nat} {m : Nat} {ox : Option Nat} (h : LR base I β w ox v x) (hx : x.lt m) (hβ : ∀ i, i < m → β' i = β i) : LR base I β' w ox v x := by
  cases x <;> simp only [V.lt] at hx <;> simp only [LR] at h ⊢ <;> try exact h
  · obtain ⟨blk, h1, h2⟩ := h; exact ⟨blk, by rw [hβ _ hx]; exact h1, h2⟩
  · obtain ⟨vf, vc, h1, h2, h3, h4, h5⟩ := h
    exact ⟨vf, vc, h1, h2, h3, fun j x hj => (h4 j x hj).ltP (hx.1 x (List.mem_of_getElem? hj)) hβ, fun j x hj => (h5 j x hj).ltP (hx.2 x (List.mem_of_getElem? hj)) hβ⟩
  · obtain ⟨h0, blk, o', c', hc', h1, h2⟩ := h; exact ⟨h0, blk, o', c', hc', by rw [hβ _ hx]; exact h1, h2⟩
  · obtain ⟨cs, h1, h2, h3⟩ := h
    exact ⟨cs, h1, h2, fun j x hj => (h3 j x hj).ltP (hx x (List.mem_of_getElem? hj)) hβ⟩

theorem SE.weaken {s' : S} {k : Nat} (h : SE G n I0 M w0 s a w) (hext : ∀ i b, M.e i = some b → i < k) (hle : S.Le k s' s) : SE G n I0 M w0 s' a w := by
  obtain ⟨I, β, ob, h⟩ := h
  have hβ : ∀ i b, (if i < s'.nb then β i else none) = some b → β i = some b := fun i b hb => by split at hb; exact hb; cases hb
  let ob' : Loc → Option Nat := fun L => match L with
    | .t i => if (s'.fr i).isOw then ob (.t i) else none
    | .b i j => if i < s'.nb then ob (.b i j) else none
  have hob : ∀ L b, ob' L = some b → ob L = some b := fun L b hL => by
    cases L with
    | t i => simp only [ob'] at hL; split at hL; exact hL; cases hL
    | b i j => simp only [ob'] at hL; split at hL; exact hL; cases hL
  refine ⟨I, fun i => if i < s'.nb then β i else none, ob', {
    size := h.size, defers := h.defers, below := h.below, kept := h.kept, ilow := h.ilow, ihigh := h.ihigh, ibnd := h.ibnd
    fr := fun t => ?_
    bx := fun i hi => ?_
    bnone := fun i hi => by rw [if_neg (by omega)]
    ext := fun i b he => by rw [if_pos (Nat.lt_of_lt_of_le (hext i b he) hle.ext)]; exact h.ext i b he
    bnew := fun i b hi => h.bnew i b (hβ i b hi)
    binj := fun i j b hi hj => h.binj i j b (hβ _ _ hi) (hβ _ _ hj)
    oinj := fun L L' b hL hL' => h.oinj L L' b (hob _ _ hL) (hob _ _ hL')
    obx := fun L b i hL hi => h.obx L b i (hob _ _ hL) (hβ _ _ hi)
    obnd := fun L b hL => h.obnd L b (hob _ _ hL)
    glob := h.glob }⟩
  · rcases hle.fr t with e | e
    · rw [e]; simp only [LR]; exact .un _
    · have := h.fr t
      rw [← e] at this
      have h2 : LR (Wr M w0) I β w (ob' (.t t)) (a.tmps.getD t undef) (s'.fr t) := by
        simp only [ob']
        by_cases ho : (s'.fr t).isOw = true
        · rw [if_pos ho]; exact this
        · rw [if_neg ho]; exact this.other (by simpa using ho)
      exact h2.lt (hle.lt t) (fun i hi => by rw [if_pos hi])
  · obtain ⟨blk, cur, T, e1, e2, e3, e4, e5, e6, e7⟩ := h.bx i (Nat.lt_of_lt_of_le hi hle.nb)
    refine ⟨blk, cur, T, by rw [if_pos hi]; exact e1, e2, e3, by rw [hle.bx i hi]; exact e4, fun j => ?_, e6, e7⟩
    have := e5 j
    rw [← hle.bx i hi] at this
    have hlt : ((s'.bx i).getD j .un).lt s'.nb := by
      by_cases hj : j < (s'.bx i).length
      · have : (s'.bx i).getD j .un = (s'.bx i)[j] := by simp [List.getD, hj]
        rw [this]; exact hle.blt i hi _ (List.getElem_mem hj)
      · have : (s'.bx i).getD j .un = .un := by simp [List.getD, List.getElem?_eq_none (Nat.le_of_not_lt hj)]
        rw [this]; exact trivial
    have h2 := this.lt (β' := fun i => if i < s'.nb then β i else none) hlt (fun i hi => by rw [if_pos hi])
    simpa only [ob', if_pos hi] using h2

end
end Go.Vl
