/- Values without memory: the operations keep the relation (first part). -/
import Derived.Test.YtbhfbbfifmnniaaDoorVlOps
import Derived.Orders
set_option linter.unusedSimpArgs false
set_option linter.unusedVariables false
namespace Go.Vl
open Go Go.RowKit

theorem _root_.List.mapM_eq_some_length {α β : Type} {f : α → Option β} : ∀ {l : List α} {r : List β}, l.mapM f = some r → r.length = l.length
  | [], r, h => by simp at h; subst h; rfl
  | x :: l, r, h => by
    rw [List.mapM_cons] at h
    simp only [bind, Option.bind_eq_some_iff, pure, Option.some.injEq] at h
    obtain ⟨y, _, ys, h2, rfl⟩ := h
    simp [List.mapM_eq_some_length h2]

theorem _root_.List.mapM_eq_some_get {α β : Type} {f : α → Option β} : ∀ {l : List α} {r : List β}, l.mapM f = some r → ∀ (j : Nat) (y : β), r[j]? = some y → ∃ x, l[j]? = some x ∧ f x = some y
  | [], r, h, j, y, hy => by simp at h; subst h; simp at hy
  | x :: l, r, h, j, y, hy => by
    rw [List.mapM_cons] at h
    simp only [bind, Option.bind_eq_some_iff, pure, Option.some.injEq] at h
    obtain ⟨y', h1, ys, h2, rfl⟩ := h
    cases j with
    | zero => simp at hy; subst hy; exact ⟨x, rfl, h1⟩
    | succ j => exact List.mapM_eq_some_get h2 j y (by simpa using hy)

section
variable {P : Program} {G : Gl} {tr : List Nat} {n : Nat} {I0 : Ft} {M : Mx} {w0 : World} {I : Ft} {β : Nat → Option Nat} {ob : Loc → Option Nat} {s : S} {a : Act} {w : World} {o : Oper}
  {next : Act → World → Prop} {Q : Exit → Act → World → Prop} {base : Nat → Prop} {v : Value} {x : V}

/-- The relation, its ghosts hidden. -/
def SE (G : Gl) (n : Nat) (I0 : Ft) (M : Mx) (w0 : World) (s : S) (a : Act) (w : World) : Prop := ∃ I β ob, St G n I0 M w0 I β ob s a w

def opOb (ob : Loc → Option Nat) : Operand → Option Nat
  | .tmp t => ob (.t t)
  | _ => none

theorem LR.lit {o : Option Nat} {u : Value} (h : LR base I β w o v (.c (.lit u))) : v = u := by
  simp only [LR] at h
  cases h with | c _ _ h => cases h; rfl

theorem LR.ofC {o : Option Nat} {c : C} (h : CR I w v c) : LR base I β w o v (.c c) := by
  simp only [LR]; exact .c _ _ h
theorem LR.toC {o : Option Nat} {c : C} (h : LR base I β w o v (.c c)) : CR I w v c := by
  simp only [LR] at h
  cases h with | c _ _ h => exact h
theorem LR.ofLit {o : Option Nat} (h : flat v = true) : LR base I β w o v (.c (.lit v)) := .ofC (.lit v h)

theorem LR.fz {o : Option Nat} (h : LR base I β w o v x) (o' : Option Nat) : LR base I β w o' v x.fz := by
  cases x <;> simp only [V.fz, LR] at h ⊢ <;> first | exact h | exact .c _ _ h.1

theorem LR.other {o o' : Option Nat} (hx : x.isOw = false) (h : LR base I β w o v x) : LR base I β w o' v x := by
  cases x <;> simp only [LR] at h ⊢ <;> first | exact h | cases hx

theorem LR.agg {o : Option Nat} {cs : List C} (h : LR base I β w o v (.agg cs)) : ∃ vs : Array Value, v = .agg vs ∧ vs.size = cs.length ∧ ∀ j c, cs[j]? = some c → CR I w (vs.getD j undef) c := by
  simp only [LR] at h
  cases h with | agg vs _ h1 h2 => exact ⟨vs, rfl, h1, h2⟩

theorem LR.const (u : Value) : LR base I β w none u (constV u) := by
  unfold constV
  split
  · exact ⟨.nil none 0 (fun _ => rfl), .inl ⟨rfl, rfl, none, rfl⟩⟩
  · split
    · exact .ofLit ‹_›
    · simp only [LR]; exact .un _

theorem ev_sound (hst : St G n I0 M w0 I β ob s a w) (x : Operand) : LR (Wr M w0) I β w (opOb ob x) (a.eval x) (ev G s x) := by
  cases x with
  | tmp t => exact hst.fr t
  | const u => exact .const u
  | global g =>
    simp only [ev, Act.eval]
    split
    · exact .ofC (hst.glob g _ ‹_›)
    · simp only [LR]; exact .un _
  | func f => exact .ofC (.fn _ _ _ _ _ rfl rfl (by simp) (by simp))

theorem ev_fz (hst : St G n I0 M w0 I β ob s a w) (x : Operand) : LR (Wr M w0) I β w none (a.eval x) (ev G s x).fz := (ev_sound hst x).fz _

theorem wp_value {v' : Value} {w' : World} (h : (execOp a.eval o).run P w = .ok (.value v') w') (hn : next (a.put o.dst v') w') : o.wp P a w next Q := by
  unfold Oper.wp; rw [h]; exact hn

/-- The slot that is used up is emptied. -/
theorem St.use (h : St G n I0 M w0 I β ob s a w) (t : Option Tmp) : ∃ ob', St G n I0 M w0 I β ob' (s.use t) a w ∧
    (∀ L b, ob' L = some b → ob L = some b ∧ ∀ u, t = some u → L = .t u → (s.fr u).isOw = false) := by
  cases t with
  | none => exact ⟨ob, h, fun L b hb => ⟨hb, fun u hu => by cases hu⟩⟩
  | some t =>
    simp only [S.use]
    split
    · refine ⟨_, h.clr t, fun L b hb => ?_⟩
      simp only [upL] at hb
      split at hb
      · cases hb
      · rename_i h1
        exact ⟨hb, fun u hu hL => by cases hu; exact absurd hL h1⟩
    · rename_i h1
      exact ⟨ob, h, fun L b hb => ⟨hb, fun u hu _ => by cases hu; simpa using h1⟩⟩

/-- What an operation leaves. -/
theorem SE.fin (h : St G n I0 M w0 I β ob s a w) (hd : ∀ d, o.dst = some d → d < n) {o' : Option Nat} (hv : LR (Wr M w0) I β w o' v x)
    (ho : ∀ b, o' = some b → (b < w.heap.size ∧ Wr M w0 b) ∧ (∀ i, β i ≠ some b) ∧ ∀ L, ob L = some b → ∃ t, L = .t t ∧ consT tr o = some t ∧ (s.fr t).isOw = true) :
    SE G n I0 M w0 (s.after tr o x) (a.put o.dst v) w := by
  obtain ⟨ob', h1, h2⟩ := h.use (consT tr o)
  unfold S.after
  cases hdst : o.dst with
  | none => exact ⟨_, _, _, h1⟩
  | some d =>
    refine ⟨_, _, _, h1.put d (hd d hdst) hv fun b hb => ?_⟩
    obtain ⟨h3, h4, h5⟩ := ho b hb
    refine ⟨h3, fun L hL => ?_, h4⟩
    simp only [upL] at hL
    split at hL
    · cases hL
    · obtain ⟨h6, h7⟩ := h2 L b hL
      obtain ⟨t, h8, h9, h10⟩ := h5 L h6
      rw [h7 t h9 h8] at h10
      cases h10

/-- The same, where what is left owns nothing. -/
theorem SE.fin0 (h : St G n I0 M w0 I β ob s a w) (hd : ∀ d, o.dst = some d → d < n) (hv : LR (Wr M w0) I β w none v x) : SE G n I0 M w0 (s.after tr o x) (a.put o.dst v) w :=
  .fin h hd hv fun _ hb => by cases hb

/-- A value that reads no memory. -/
theorem wp_lit (h : St G n I0 M w0 I β ob s a w) (hd : ∀ d, o.dst = some d → d < n) (hf : flat v = true) (hrun : (execOp a.eval o).run P w = .ok (.value v) w) {K : V → Prop} (hK : K (.c (.lit v)))
    (hk : ∀ a' w' x, K x → SE G n I0 M w0 (s.after tr o x) a' w' → next a' w') : o.wp P a w next Q :=
  wp_value hrun (hk _ _ _ hK (.fin0 h hd (.ofLit hf)))

theorem move_ok (hst : St G n I0 M w0 I β ob s a w) (hd : ∀ d, o.dst = some d → d < n) {x : Operand} (hx : consT tr o = (match x with | .tmp t => some t | _ => none)) :
    SE G n I0 M w0 (s.after tr o (ev G s x)) (a.put o.dst (a.eval x)) w := by
  by_cases hox : (ev G s x).isOw = true
  · refine .fin hst hd (ev_sound hst x) fun b hb => ?_
    cases x with
    | tmp t =>
      refine ⟨hst.obnd _ b hb, fun i => hst.obx _ b i hb, fun L hL => ⟨t, hst.oinj _ _ b hL hb, hx, hox⟩⟩
    | _ => cases hb
  · exact .fin0 hst hd ((ev_sound hst x).other (by simpa using hox))

theorem copy_ok (hst : St G n I0 M w0 I β ob s a w) (hd : ∀ d, o.dst = some d → d < n) (x : Operand) :
    SE G n I0 M w0 (s.after tr o (ev G s x).fz) (a.put o.dst (a.eval x)) w := .fin0 hst hd (ev_fz hst x)

theorem ti_spec {T : TypeId} {i : TI} (h : ti P T = some i) : ∃ j d, P.info? T = some j ∧ P.underlying T = some d ∧ i.kd = kdOf d ∧ i.size = j.size ∧ i.bytes = j.bytes ∧ i.agg = isAggB P T ∧
    (i.zero = match j.zero with | some v => v.cells.toList.mapM zc | none => none) ∧
    (i.flds = fldsOf P d) ∧
    (i.eqs = if P.eqGuardType P.depth T then none else eqk P 8 T) ∧ fldsOk P d = true := by
  unfold ti at h
  split at h
  · rename_i j d h1 h2
    split at h
    · cases h
    · rename_i hf
      simp only [Option.some.injEq] at h
      subst h
      exact ⟨j, d, h1, h2, rfl, rfl, rfl, rfl, rfl, rfl, rfl, by simpa using hf⟩
  · cases h

theorem kdOf_slice {d : TypeDesc} {e : TypeId} (h : K.slice e = kdOf d) : d = .slice e := by cases d <;> simp_all [kdOf]
theorem kdOf_bool {d : TypeDesc} (h : K.bool = kdOf d) : d = .bool := by cases d <;> simp_all [kdOf]
theorem kdOf_str {d : TypeDesc} (h : K.str = kdOf d) : d = .string := by cases d <;> simp_all [kdOf]
theorem kdOf_int {d : TypeDesc} {k : IntKind} (h : K.int k = kdOf d) : d = .int k := by cases d <;> simp_all [kdOf]
theorem kdOf_arr {d : TypeDesc} {n : Nat} {e : TypeId} (h : K.arr n e = kdOf d) : d = .array n e := by cases d <;> simp_all [kdOf]
theorem kdOf_struct {d : TypeDesc} (h : K.struct = kdOf d) : ∃ fs, d = .struct fs := by cases d <;> simp_all [kdOf]

end
end Go.Vl
