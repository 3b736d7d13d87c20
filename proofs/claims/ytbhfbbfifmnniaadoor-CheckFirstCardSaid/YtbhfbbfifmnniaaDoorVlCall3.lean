/- Values without memory: a call of a function that may change boxes keeps the relation. -/
import Derived.Test.YtbhfbbfifmnniaaDoorVlCall2
set_option linter.unusedSimpArgs false
set_option linter.unusedVariables false
namespace Go.Vl
open Go Go.RowKit

section
variable {P : Program} {G : Gl} {tr : List Nat} {n : Nat} {I0 : Ft} {M : Mx} {w0 : World} {I : Ft} {β : Nat → Option Nat} {ob : Loc → Option Nat} {s : S} {a : Act} {w : World} {o : Oper}
  {next : Act → World → Prop} {Q : Exit → Act → World → Prop} {base : Nat → Prop} {v : Value} {x y : V}

def ArgsL (base : Nat → Prop) (I : Ft) (β : Nat → Option Nat) (w : World) (vs : List Value) (xs : List V) : Prop := vs.length = xs.length ∧ ∀ (j : Nat) (x : V), xs[j]? = some x → LR base I β w none (vs.getD j undef) x.fz

theorem ArgsL.append {vs us : List Value} {xs ys : List V} (h : ArgsL base I β w vs xs) (h' : ArgsL base I β w us ys) : ArgsL base I β w (vs ++ us) (xs ++ ys) := by
  refine ⟨by simp [h.1, h'.1], fun j x hx => ?_⟩
  have hl := h.1
  by_cases hj : j < xs.length
  · rw [List.getElem?_append_left hj] at hx
    have := h.2 j x hx
    rw [List.getD_eq_getElem?_getD, List.getElem?_append_left (by omega)]
    rw [List.getD_eq_getElem?_getD] at this
    exact this
  · rw [List.getElem?_append_right (by omega)] at hx
    have := h'.2 _ x hx
    rw [List.getD_eq_getElem?_getD, List.getElem?_append_right (by omega), hl]
    rw [List.getD_eq_getElem?_getD] at this
    exact this

theorem argsL_ops (hst : St G n I0 M w0 I β ob s a w) : ∀ l : List Operand, ArgsL (Wr M w0) I β w (l.map a.eval) (l.map (ev G s))
  | [] => ⟨rfl, by simp⟩
  | x :: l => by
    have ih := argsL_ops hst l
    refine ⟨by simp, fun j z hz => ?_⟩
    cases j with
    | zero => simp at hz; subst hz; exact ev_fz hst x
    | succ j => simpa using ih.2 j z (by simpa using hz)

theorem argsL_c (vs : Array Value) (cs : List C) (h : vs.size = cs.length) (hc : ∀ j c, cs[j]? = some c → CR I w (vs.getD j undef) c) : ArgsL base I β w vs.toList (cs.map .c) := by
  refine ⟨by simp [h], fun j x hx => ?_⟩
  obtain ⟨c, h1, rfl⟩ := map_get hx
  have := hc j c h1
  rw [List.getD_eq_getElem?_getD, Array.getElem?_toList]
  rw [Array.getD_eq_getD_getElem?] at this
  exact .ofC this

theorem argsL_p (vs : Array Value) (xs : List V) (h : vs.size = xs.length) (hc : ∀ j x, xs[j]? = some x → PR I β w (vs.getD j undef) x) : ArgsL base I β w vs.toList xs := by
  refine ⟨by simp [h], fun j x hx => ?_⟩
  have := hc j x hx
  rw [List.getD_eq_getElem?_getD, Array.getElem?_toList]
  rw [Array.getD_eq_getD_getElem?] at this
  exact (PR.toLR this).fz none

/-- A call of a function under a contract with boxes. -/
theorem callB_ok (hst : St G n I0 M w0 I β ob s a w) (hd : ∀ d, o.dst = some d → d < n) {f : FuncId} {vs : List Value} {all : List V} {ρ : List Nat} {cargs : List V} {b0 b1 : List (List V)} {r : V}
    (hok : FnB P G f cargs b0 r b1) (hargs : ArgsL (Wr M w0) I β w vs all) (hall : all.map V.fz = cargs.map (V.ren (rho ρ s.nb))) (hρ : ρ.length = b0.length ∧ ρ.Nodup) (hin : bxIn s.bx s.nb (rho ρ s.nb) 0 b0)
    (hrun : (execOp a.eval o).run P w = .ok (.enter f vs.toArray) w)
    (hk : ∀ a' w', SE G n I0 M w0 (({ s with bx := setBx (rho ρ s.nb) 0 b1 s.bx, nb := s.nb + (b1.length - b0.length) } : S).put o.dst (r.ren (rho ρ s.nb))) a' w' → next a' w') : o.wp P a w next Q := by
  unfold Oper.wp
  rw [hrun]
  simp only [Oper.upon]
  obtain ⟨hρl, hn⟩ := hρ
  obtain ⟨hlt1, hlt2, hle⟩ := hok.2.1
  have hl : ∀ i, i < ρ.length → ρ.getD i 0 < s.nb := fun i hi => by
    obtain ⟨b, hb⟩ : ∃ b, b0[i]? = some b := ⟨_, List.getElem?_eq_getElem (by omega)⟩
    have := (bxIn_get b0 0 i b hin hb).1
    rw [Nat.zero_add] at this
    simpa [rho, hi] using this
  have hinj := rho_inj hn hl
  have hlen : all.length = cargs.length := by simpa using congrArg List.length hall
  refine (hok.2.2 I ⟨Mof β ob (rho ρ s.nb) b0.length, fun _ => none⟩ w vs.toArray (betaC β (rho ρ s.nb) b0.length) (obC ob (rho ρ s.nb) b0.length) hst.ibnd hst.glob (hst.give hinj hin hlt2)
    (by have := hargs.1; simp; omega) (fun j x hx => ?_)).mono ?_
  · have hj : j < cargs.length := (List.getElem?_eq_some_iff.1 hx).1
    have hz : all[j]? = some all[j] := List.getElem?_eq_getElem (by omega)
    have h1 := hargs.2 j _ hz
    have h2 : all[j].fz = x.ren (rho ρ s.nb) := by
      have e1 : (all.map V.fz)[j]? = some all[j].fz := by simp [hz]
      have e2 : (cargs.map (V.ren (rho ρ s.nb)))[j]? = some (x.ren (rho ρ s.nb)) := by simp [hx]
      rw [hall, e2] at e1
      exact (Option.some.inj e1).symm
    rw [h2] at h1
    have h3 := h1.ren (β' := betaC β (rho ρ s.nb) b0.length) (hlt1 x (List.mem_of_getElem? hx)) (fun i b hi hb => by simp [betaC, hi, hb])
    have h4 := h3.wider (base' := Wr ⟨Mof β ob (rho ρ s.nb) b0.length, fun _ => none⟩ w) fun b hb => by cases hb
    simpa using h4
  · rintro e w' ⟨v, I', β', ob', o', rfl, hbel, hI1, hI2, hkept, hβ1, hβ2, hbx, hlr, hfr⟩
    simp only
    obtain ⟨hst', hsub, hwr, hno, hnb⟩ := hst.called hρl hn hin hle hbel hI1 hI2 hkept hβ1 hβ2 hbx
    refine hk _ _ ?_
    have hlr' : LR (Wr M w0) I' (betaN β β' ρ s.nb) w' o' v (r.ren (rho ρ s.nb)) := (hlr.toRen hsub).wider fun b hb => hwr b (hfr b hb).1.2
    cases hdst : o.dst with
    | none => exact ⟨_, _, _, hst'⟩
    | some d =>
      refine ⟨_, _, _, hst'.put d (hd d hdst) hlr' fun b hb => ?_⟩
      obtain ⟨⟨h1, h2⟩, h3, h4⟩ := hfr b hb
      refine ⟨⟨h1, hwr b h2⟩, fun L hL => ?_, hnb b h2 h4⟩
      simp only [upL] at hL
      split at hL
      · cases hL
      · exact hno b h2 h3 L hL

theorem vcallB_sound {K : S → V → Prop} {f : Operand} {args : Array Operand} {ts : Array TypeId} (ho : o.op = .call { callee := .value f, args := args, argTypes := ts }) (hst : St G n I0 M w0 I β ob s a w)
    (hd : ∀ d, o.dst = some d → d < n) (h : vcallB P G s (ev G s f) (args.toList.map (ev G s)) K) (hk : ∀ a' w' s' x, K s' x → SE G n I0 M w0 (s'.put o.dst x) a' w' → next a' w') : o.wp P a w next Q := by
  have hf := ev_sound hst f
  unfold vcallB vcallE at h
  split at h
  · rename_i g all hcal
    obtain ⟨ρ, cargs, b0, r, b1, hok, hall, hρ, hin, hK⟩ := h
    obtain ⟨fn, h1, h2, c, h3⟩ := hok.1
    unfold calleeV at hcal
    split at hcal
    · rename_i g' fs cs he
      simp only [Option.some.injEq, Prod.mk.injEq] at hcal
      obtain ⟨rfl, rfl⟩ := hcal
      rw [he] at hf
      obtain ⟨vf, vc, hv, q1, q2, q3, q4⟩ := hf.toC.fn_inv
      have hrun := run_call (P := P) (w := w) ho hv h1 h2 h3
      refine callB_ok hst hd hok (vs := vf.toList ++ args.toList.map a.eval ++ vc.toList) (((argsL_c vf fs q1 q3).append (argsL_ops hst _)).append (argsL_c vc cs q2 q4)) hall hρ hin ?_ (fun a' w' => hk a' w' _ _ hK)
      rw [hrun]; congr 2; apply Array.ext'; simp
    · rename_i g' fs cs he
      simp only [Option.some.injEq, Prod.mk.injEq] at hcal
      obtain ⟨rfl, rfl⟩ := hcal
      rw [he] at hf
      simp only [LR] at hf
      obtain ⟨vf, vc, hv, q1, q2, q3, q4⟩ := hf
      have hrun := run_call (P := P) (w := w) ho hv h1 h2 h3
      refine callB_ok hst hd hok (vs := vf.toList ++ args.toList.map a.eval ++ vc.toList) (((argsL_p vf fs q1 q3).append (argsL_ops hst _)).append (argsL_p vc cs q2 q4)) hall hρ hin ?_ (fun a' w' => hk a' w' _ _ hK)
      rw [hrun]; congr 2; apply Array.ext'; simp
    · cases hcal
  · exact h.elim

end
end Go.Vl
