/- Values without memory: every operation keeps the relation. -/
import Derived.Test.YtbhfbbfifmnniaaDoorVlSound9
set_option linter.unusedSimpArgs false
set_option linter.unusedVariables false
namespace Go.Vl
open Go Go.RowKit

section
variable {P : Program} {G : Gl} {tr : List Nat} {n : Nat} {I0 : Ft} {M : Mx} {w0 : World} {I : Ft} {β : Nat → Option Nat} {ob : Loc → Option Nat} {s : S} {a : Act} {w : World} {o : Oper}
  {next : Act → World → Prop} {Q : Exit → Act → World → Prop} {base : Nat → Prop} {v : Value} {x y : V}

theorem parts_map (l : List (Nat × Operand)) (f : Operand → V) : (l.map fun (i, x) => (i, f x)) = l.map fun p => (p.1, f p.2) := rfl

theorem vw_fz (hst : St G n I0 M w0 I β ob s a w) (x : Operand) : (∃ ox, LR (Wr M w0) I β w ox (a.eval x) (vw s (ev G s x)).fz) ∨ ∃ es, (vw s (ev G s x)).fz = .c (.sl es) ∧ RD I w (a.eval x) es := by
  have hx := ev_sound hst x
  cases he : ev G s x with
  | ms i off len cap sz =>
    rw [he] at hx
    simp only [LR] at hx
    simp only [vw]
    cases hv : viewC s i off len sz with
    | none => left; exact ⟨none, by simp only [V.fz, LR]; exact .un _⟩
    | some c =>
      obtain ⟨es, rfl, hrd⟩ := view_rd hst hv hx
      right; exact ⟨es, rfl, hrd⟩
  | _ => left; rw [he] at hx; exact ⟨none, hx.fz none⟩

theorem vw_rd (hst : St G n I0 M w0 I β ob s a w) (x : Operand) (ys : List (List C)) (h : (vw s (ev G s x)).fz = .c (.sl ys)) : RD I w (a.eval x) ys := by
  rcases vw_fz hst x with ⟨ox, hx⟩ | ⟨es, he, hrd⟩
  · rw [h] at hx; exact .ofCR hx.toC
  · rw [h] at he; cases he; exact hrd

theorem vw_ow {x : V} {E : Option (TypeId × Nat)} {es : List (List C)} (h : vw s x = .ow E es) : x = .ow E es := by
  cases x <;> simp only [vw] at h <;> try exact h
  split at h <;> cases h

theorem VYK_sound {K : V → Prop} (hst : St G n I0 M w0 I β ob s a w) (hd : ∀ d, o.dst = some d → d < n) (h : VYK P G tr o s K)
    (hk : ∀ a' w' x, K x → SE G n I0 M w0 (s.after tr o x) a' w' → next a' w') : o.wp P a w next Q := by
  have pure_ : ∀ {sem : Sem Value} {z : V} {u : Value}, execOp a.eval o = (do pure (.value (← sem))) → K z → LR (Wr M w0) I β w none u z → sem.run P w = .ok u w → o.wp P a w next Q := by
    intro sem z u he hz hlr hrun
    refine wp_value (v' := u) (w' := w) ?_ (hk _ _ _ hz (.fin0 hst hd hlr))
    rw [he]; simp [hrun]
  have full : ∀ {sem : Sem Value} {z : V} {u : Value} {w' : World}, execOp a.eval o = (do pure (.value (← sem))) → K z → sem.run P w = .ok u w' → SE G n I0 M w0 (s.after tr o z) (a.put o.dst u) w' → o.wp P a w next Q := by
    intro sem z u w' he hz hrun hse
    refine wp_value (v' := u) (w' := w') ?_ (hk _ _ _ hz hse)
    rw [he]; simp [hrun]
  obtain ⟨dst, op, type, pos, after, guard⟩ := o
  cases op <;> simp only [VYK] at h <;> try exact h.elim
  case move x =>
    have hrun : (execOp a.eval { dst, op := .move x, type, pos, after, guard }).run P w = .ok (.value (a.eval x)) w := rfl
    split at h
    · rename_i htr
      exact wp_value hrun (hk _ _ _ h (move_ok hst hd (x := x) (by cases x <;> simp [consT, htr])))
    · exact wp_value hrun (hk _ _ _ h (copy_ok hst hd x))
  case assign x =>
    have hrun : (execOp a.eval { dst, op := .assign x, type, pos, after, guard }).run P w = .ok (.value (a.eval x)) w := rfl
    exact wp_value hrun (hk _ _ _ h (move_ok hst hd (x := x) (by cases x <;> simp [consT])))
  case pick c b b' =>
    split at h
    · rename_i p hc
      have hcv : a.eval c = .bool p := by have := ev_sound hst c; rw [hc] at this; exact this.lit
      refine wp_value (v' := if p then a.eval b else a.eval b') (w' := w) ?_ (hk _ _ _ h (.fin0 hst hd ?_))
      · simp [execOp, hcv, asBool]
      · cases p
        · exact ev_fz hst b'
        · exact ev_fz hst b
    · exact h.elim
  case build T parts =>
    obtain ⟨z, u, hz, hlr, hrun⟩ := vbuild_sound hst h
    exact pure_ rfl hz hlr hrun
  case buildSlice T len parts =>
    obtain ⟨z, u, w', hz, hrun, hse⟩ := vbuildSlice_sound (tr := tr) hst hd h
    exact full rfl hz hrun hse
  case load T x =>
    obtain ⟨z, u, hz, hlr, hrun⟩ := vload_sound hst h (ev_sound hst x)
    exact pure_ rfl hz hlr hrun
  case binOp op T x y yT =>
    obtain ⟨u, hf, hz, hrun⟩ := vbin_sound h (ev_sound hst x) (ev_sound hst y) x y
    exact pure_ rfl hz (.ofLit hf) hrun
  case unOp op T x =>
    obtain ⟨u, hf, hz, hrun⟩ := vun_sound h (ev_sound hst x)
    exact pure_ rfl hz (.ofLit hf) hrun
  case convert src dst' x =>
    obtain ⟨z, u, w', hz, hrun, hse⟩ := vconv_sound (tr := tr) hst hd h (vw_fz hst x)
    exact full rfl hz hrun hse
  case makeFunc f first captured =>
    obtain ⟨⟨h1, h2⟩, h⟩ := h
    have pr : ∀ (l : Array Operand), (l.toList.map (ev G s)).all V.isPR = true → ∀ j x, (l.toList.map (ev G s))[j]? = some x → PR I β w ((l.map a.eval).getD j undef) x := by
      intro l hl j x hx
      have hm := List.mem_of_getElem? hx
      have hp := List.all_eq_true.1 hl x hm
      simp only [List.getElem?_map, Option.map_eq_some_iff] at hx
      obtain ⟨X, hX, rfl⟩ := hx
      have hlr := ev_sound hst X
      have : (l.map a.eval).getD j undef = a.eval X := by
        rw [Array.getElem?_toList] at hX
        simp [hX]
      rw [this]
      cases hx : ev G s X <;> rw [hx] at hp hlr <;> simp only [V.isPR] at hp <;> try cases hp
      · exact hlr.toC
      · simp only [LR] at hlr; exact hlr
      · simp only [LR] at hlr; exact hlr
    refine wp_value (v' := .func f (first.map a.eval) (captured.map a.eval)) (w' := w) rfl (hk _ _ _ h (.fin0 hst hd ?_))
    simp only [LR]
    exact ⟨_, _, rfl, by simp, by simp, pr first h1, pr captured h2⟩
  case slice T x lo hi mx =>
    obtain ⟨z, u, hz, hlr, hrun⟩ := vslice_sound hst h (ev_fz hst x)
    exact pure_ rfl hz hlr hrun
  case fieldAddr T x f =>
    obtain ⟨z, u, hz, hlr, hrun⟩ := vfieldAddr_sound h (ev_sound hst x)
    exact pure_ rfl hz hlr hrun
  case field T x f =>
    obtain ⟨z, u, hz, hlr, hrun⟩ := vfield_sound h (ev_sound hst x)
    exact pure_ rfl hz hlr hrun
  case indexAddr T x i =>
    obtain ⟨z, u, hz, hlr, hrun⟩ := vindexAddr_sound h (ev_fz hst x) (ev_sound hst i)
    exact pure_ rfl hz hlr hrun
  case index T x i =>
    obtain ⟨z, u, hz, hlr, hrun⟩ := vindex_sound h (ev_sound hst x) (ev_sound hst i)
    exact pure_ rfl hz hlr hrun
  case extract x i =>
    split at h
    · rename_i ds hx
      split at h
      · rename_i d hdi
        have hlr := ev_sound hst x
        rw [hx] at hlr
        simp only [LR] at hlr
        generalize hvv : a.eval x = vv at hlr
        cases hlr with
        | tup vs _ h1 h2 =>
          have hlt : i < vs.size := by rw [h1]; exact (List.getElem?_eq_some_iff.1 hdi).1
          have hdr := h2 i d hdi
          refine pure_ (u := vs.getD i undef) rfl h ?_ (by simp [hvv, Instr.extract, Array.getElem?_eq_getElem hlt])
          generalize vs.getD i undef = vv' at hdr
          cases d <;> simp only [LR] <;> first | exact hdr | (cases hdr; done)
      · exact h.elim
    · exact h.elim
  case call c =>
    obtain ⟨callee, args, ts⟩ := c
    cases callee with
    | value f => exact vcall_sound (tr := tr) (f := f) (args := args) (ts := ts) rfl hst hd h hk
    | invoke r m => exact h.elim
    | builtin b =>
      have hres : ∀ sem : Sem Value, builtin b ts type (args.map fun | .const _ => true | _ => false) (args.map a.eval) = (do pure (.value (← sem))) →
          execOp a.eval { dst, op := .call { callee := .builtin b, args := args, argTypes := ts }, type, pos, after, guard } = (do pure (.value (← sem))) := fun sem hs => by
        simp only [execOp, resolve, invoke, pure_bind]
        exact hs
      have hap : (b = .append ∧ vbuiltin P .append ts.toList (args.toList.map fun x => vw s (ev G s x)) K) ∨ (b ≠ .append ∧ vbuiltin P b ts.toList (args.toList.map (ev G s)) K) := by
        cases b <;> first | exact .inl ⟨rfl, h⟩ | exact .inr ⟨by simp, h⟩
      clear h
      rcases hap with ⟨rfl, h⟩ | ⟨hnb, h⟩
      · unfold vbuiltin at h
        split at h <;> first | cases ‹Builtin.append = _› | skip
        · rename_i t t' x y hts hargs
          split at h
          · rename_i htt
            subst htt
            obtain ⟨X, Y, hX, rfl, rfl⟩ : ∃ X Y, args.toList = [X, Y] ∧ x = vw s (ev G s X) ∧ y = vw s (ev G s Y) := by
              cases ha : args.toList with
              | nil => simp [ha] at hargs
              | cons X l =>
                cases l with
                | nil => simp [ha] at hargs
                | cons Y l => simp only [ha, List.map_cons, List.cons.injEq, List.map_eq_nil_iff] at hargs; exact ⟨X, Y, by rw [hargs.2.2], hargs.1.symm, hargs.2.1.symm⟩
            have e1 : ts = #[t, t] := Array.ext' hts
            have e2 : args.map a.eval = #[a.eval X, a.eval Y] := by apply Array.ext'; simp [hX]
            subst e1
            have h' : vappend P t (ev G s X) (vw s (ev G s Y)).fz K := by
              cases hx : vw s (ev G s X) with
              | ow E es => rw [hx] at h; rw [vw_ow hx]; exact h
              | _ => rw [hx] at h; simp [vappend] at h
            obtain ⟨z, u, w', hz, hrun, hse⟩ := vappend_sound (tr := tr) (o := { dst, op := .call { callee := .builtin .append, args := args, argTypes := #[t, t] }, type, pos, after, guard }) (ty := type) hst hd
              (by simp only [consT, hX]; cases X <;> rfl) h' (vw_rd hst Y)
            refine full (sem := Builtin.append_ #[t, t] type (args.map a.eval)) (hres _ rfl) hz ?_ hse
            rw [e2]; exact hrun
          · exact h.elim
        · exact h.elim
      · unfold vbuiltin at h
        split at h
        · rename_i t x hts hargs
          obtain ⟨X, hX, rfl⟩ : ∃ X, args.toList = [X] ∧ x = ev G s X := by
            cases ha : args.toList with
            | nil => simp [ha] at hargs
            | cons X l => simp only [ha, List.map_cons, List.cons.injEq, List.map_eq_nil_iff] at hargs; exact ⟨X, by rw [hargs.2], hargs.1.symm⟩
          obtain ⟨u, hf, hz, hrun⟩ := vlen_sound (ty := type) h (ev_sound hst X)
          have e1 : ts = #[t] := Array.ext' hts
          have e2 : args.map a.eval = #[a.eval X] := by apply Array.ext'; simp [hX]
          subst e1
          refine pure_ (sem := Builtin.len_ #[t] type (args.map a.eval)) (hres _ rfl) hz (.ofLit hf) ?_
          rw [e2]; exact hrun
        · exact absurd rfl hnb
        · obtain ⟨u, hf, hz, hrun⟩ := vmin_sound (P := P) (mx := false) hst h
          exact pure_ (sem := Builtin.min_ ts type (args.map a.eval)) (hres _ rfl) hz (.ofLit hf) hrun
        · obtain ⟨u, hf, hz, hrun⟩ := vmin_sound (P := P) (mx := true) hst h
          exact pure_ (sem := Builtin.max_ ts type (args.map a.eval)) (hres _ rfl) hz (.ofLit hf) hrun
        · exact h.elim

end
end Go.Vl
