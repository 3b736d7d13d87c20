/- Values without memory: how the conditions of a function with boxes are computed. -/
import Derived.Test.YtbhfbbfifmnniaaDoorVlExec2
set_option linter.unusedSimpArgs false
set_option linter.unusedVariables false
namespace Go.Vl
open Go Go.RowKit

section
variable {P : Program} {G : Gl} {tr : List Nat} {fr : Nat → V} {bx : Nat → List V} {nb : Nat} {K : S → Prop} {KV : V → Prop} {Q : VE → S → Prop}

theorem frm_eq (args : List V) : frm 0 args = fun j => args.getD j .un := by
  have := initS_eq args
  simp only [initS, S.mk.injEq] at this
  exact this.1.symm

theorem bxs_zero {b : List V} {r : List (List V)} : bxs (b :: r) 0 = b := rfl
theorem bxs_succ {b : List V} {r : List (List V)} {n : Nat} : bxs (b :: r) (n + 1) = bxs r n := rfl
theorem bxs_nil {n : Nat} : bxs [] n = [] := by simp [bxs]

theorem FnB_by {f : FuncId} {fn : Func} {c : Code} {args : List V} {b0 b1 : List (List V)} {r : V} (tr : List Nat) (hm : P.follows .mixedOrders = true) (hf : P.funcs[f]? = some fn) (hb : fn.body = some c) (hname : (fn.name == "runtime.NumGoroutine") = false)
    {rs : List ResultVar} (hrs : fn.results.toList = rs) {n : Nat} (hn : fn.ntmps = n) (hck : cok n tr c = true) (hlen : args.length ≤ n) (hcomp : r.compT = true) {k : Nat} (hk : extK tr = k) (hk0 : b0.length = k)
    (hargs : xargsOk args b0 = true) (hle : b0.length ≤ b1.length)
    (h : vwp P G tr c (endB P k r b1 rs) ⟨frm 0 args, bxs b0, k⟩) : FnB P G f args b0 r b1 := by
  subst hn
  subst hrs
  subst hk0
  simp only [xargsOk, Bool.and_eq_true, List.all_eq_true] at hargs
  refine FnB_of tr hm hf hb hname hlen hck hcomp hk ⟨fun x hx => V.ltB_ok (hargs.1 x hx), fun b hb x hx => V.ltB_ok (hargs.2 b hb x hx), hle⟩ ?_
  rw [frm_eq] at h; exact h

/-- The end of a function with boxes. -/
theorem end_B {k : Nat} {r : V} {b1 : List (List V)} {rs : List ResultVar} {e : VE} (l : List (Nat × V)) (he : isEnd e = true) (hok : leOk l b1 = true) (hk : k ≤ b1.length) (hn : b1.length ≤ nb) (h1 : FL l fr) (h2 : BL 0 b1 bx) (hr : retV P false (hdS l b1) r rs) :
    endB P k r b1 rs e ⟨fr, bx, nb⟩ := ⟨isEnd_ok _ he, l, le_hd hok hk hn h1 h2, hr⟩

theorem retV_none {fr : Nat → V} {bx : Nat → List V} {nb : Nat} : retV P false ⟨fr, bx, nb⟩ (.tup []) [] := ⟨[], rfl, rfl, fun _ _ _ h => by simp at h⟩

theorem all_ltB_c (m : Nat) (cs : List C) : (cs.map V.c).all (fun x => x.ltB m) = true := by
  rw [List.all_map, List.all_eq_true]; intro x _; rfl

/-- A nil test on a slice that has elements. -/
theorem vnil_ne {T : TypeId} {i : TI} {e : TypeId} {es : List (List C)} (hT : ti P T = some i) (hk : i.kd = .slice e) (hne : es ≠ []) : vnil P .eql T (.c (.sl es)) KV = KV (.c (.lit (.bool false))) := by
  obtain ⟨kd, a, b, c, d, f, g⟩ := i; subst hk
  cases es with
  | nil => exact absurd rfl hne
  | cons e es => simp only [vnil, hT, vnilB]
theorem vnil_nil {T : TypeId} {i : TI} {e : TypeId} (hT : ti P T = some i) (hk : i.kd = .slice e) : vnil P .eql T (.c (.sl [])) KV = (KV (.c (.lit (.bool true))) ∧ KV (.c (.lit (.bool false)))) := by
  obtain ⟨kd, a, b, c, d, f, g⟩ := i; subst hk
  simp only [vnil, hT, vnilB]

/-- A call that may change boxes, by a contract without boxes at its start. -/
theorem callB_new {s : S} {f : V} {args all cargs : List V} {g : FuncId} {K : S → V → Prop} {r : V} {b1 : List (List V)} (hc : calleeV f args = some (g, all)) (hf : FnB P G g cargs [] r b1) (hall : all.map V.fz = cargs)
    (hK : K { s with bx := setBx (fun i => s.nb + i) 0 b1 s.bx, nb := s.nb + b1.length } (r.ren fun i => s.nb + i)) : vcallB P G s f args K := by
  unfold vcallB vcallE
  simp only [hc]
  refine ⟨[], cargs, [], r, b1, hf, ?_, ⟨rfl, List.nodup_nil⟩, trivial, ?_⟩
  · rw [hall, map_same fun x hx => ren_lt0 (hf.2.1.1 x hx)]
  · rw [rho_nil]
    simpa using hK

/-- The same, by a contract with all boxes. -/
theorem callB_all {s : S} {f : V} {args all cargs : List V} {g : FuncId} {K : S → V → Prop} {r : V} {b0 b1 : List (List V)} (hc : calleeV f args = some (g, all)) (hf : FnB P G g cargs b0 r b1) (hall : all.map V.fz = cargs)
    (hn : b0.length = s.nb) (hb : BL 0 b0 s.bx) (hK : K { s with bx := fun i => if i < b1.length then b1.getD i [] else s.bx i, nb := b1.length } r) : vcallB P G s f args K := by
  unfold vcallB vcallE
  simp only [hc]
  refine ⟨List.range s.nb, cargs, b0, r, b1, hf, ?_, ⟨by simp [hn], List.nodup_range⟩, ?_, ?_⟩
  · rw [rho_range, hall, ren_map_id]
  · rw [rho_range]
    refine bxIn_id _ _ _ _ fun i b hb' => ?_
    have hi := (List.getElem?_eq_some_iff.1 hb').1
    have := hb.get i hi
    rw [Nat.zero_add] at this ⊢
    refine ⟨by omega, ?_⟩
    rw [← this]
    simp [hb']
  · rw [rho_range, setBx_id, ren_id]
    have hle := hf.2.1.2.2
    have e1 : s.nb + (b1.length - b0.length) = b1.length := by omega
    rw [e1]
    have e2 : (fun i => if 0 ≤ i ∧ i < 0 + b1.length then b1.getD (i - 0) [] else s.bx i) = fun i => if i < b1.length then b1.getD i [] else s.bx i := by
      funext i; simp
    rw [e2]; exact hK
end
end Go.Vl
namespace Go.Vl
open Go Go.RowKit
/-! The interpreter's tables, row by row. -/
def TblOk (P : Program) : Nat → List (Option TI) → Prop
  | _, [] => True
  | k, none :: r => TblOk P (k + 1) r
  | k, some i :: r => ti P k = some i ∧ TblOk P (k + 1) r
def FOk (P : Program) (f : Nat) (x : XF) : Prop := ∃ fn, P.funcs[f]? = some fn ∧ fn.body = some x.code ∧ fn.ntmps = x.n ∧ fn.results.toList = x.rs ∧ (fn.name == "runtime.NumGoroutine") = false ∧ cok x.n x.tr x.code = true
def FblOk (P : Program) : Nat → List (Option XF) → Prop
  | _, [] => True
  | k, none :: r => FblOk P (k + 1) r
  | k, some x :: r => FOk P k x ∧ FblOk P (k + 1) r
theorem TblOk.get {P : Program} : ∀ {l : List (Option TI)} {k : Nat}, TblOk P k l → ∀ t i, l.getD t none = some i → ti P (k + t) = some i
  | [], _, _, t, i, h => by simp at h
  | none :: r, k, hl, t, i, h => by
    cases t with
    | zero => cases h
    | succ t => have := TblOk.get (l := r) hl t i (by simpa using h); rw [Nat.add_assoc, Nat.add_comm 1 t] at this; exact this
  | some x :: r, k, hl, t, i, h => by
    cases t with
    | zero => simp only [List.getD_cons_zero, Option.some.injEq] at h; subst h; exact hl.1
    | succ t => have := TblOk.get (l := r) hl.2 t i (by simpa using h); rw [Nat.add_assoc, Nat.add_comm 1 t] at this; exact this
theorem FblOk.get {P : Program} : ∀ {l : List (Option XF)} {k : Nat}, FblOk P k l → ∀ f x, l.getD f none = some x → FOk P (k + f) x
  | [], _, _, t, i, h => by simp at h
  | none :: r, k, hl, t, i, h => by
    cases t with
    | zero => cases h
    | succ t => have := FblOk.get (l := r) hl t i (by simpa using h); rw [Nat.add_assoc, Nat.add_comm 1 t] at this; exact this
  | some x :: r, k, hl, t, i, h => by
    cases t with
    | zero => simp only [List.getD_cons_zero, Option.some.injEq] at h; subst h; exact hl.1
    | succ t => have := FblOk.get (l := r) hl.2 t i (by simpa using h); rw [Nat.add_assoc, Nat.add_comm 1 t] at this; exact this

theorem XP.ok_of {P : Program} {G : Gl} {Tl : List (Option TI)} {Fl : List (Option XF)} (O : Nat → List V → Option V) (OB : Nat → List V → Option (V × List (List V))) (hT : TblOk P 0 Tl) (hF : FblOk P 0 Fl)
    (hO : ∀ f as r, O f as = some r → FnOK P G f as r) (hOB : ∀ f as r b1, OB f as = some (r, b1) → FnB P G f as [] r b1) : XP.Ok P G ⟨fun t => Tl.getD t none, fun f => Fl.getD f none, O, OB⟩ :=
  ⟨fun t i h => by have := hT.get t i h; rwa [Nat.zero_add] at this, fun f x h => by have := hF.get f x h; rwa [Nat.zero_add] at this, hO, hOB⟩
end Go.Vl

namespace Go.Vl
open Go Go.RowKit
section
variable {P : Program} {G : Gl} {tr : List Nat} {fr : Nat → V} {bx : Nat → List V} {nb : Nat} {K : S → Prop} {KV : V → Prop} {Q : VE → S → Prop}

def optK {α : Type} (o : Option α) (K : α → Prop) : Prop := match o with
  | some a => K a
  | none => False
def fillF (f : Option (Nat × Nat × Bool)) (ds : List C) (flds : List (Nat × Nat × Bool)) (r : List (Nat × V)) (cs : List C) : Option (List C) := match f with
  | some (off, sz, _) => if ds.length = sz ∧ off + sz ≤ cs.length then fillS flds r (setAt cs off ds) else none
  | none => none

/-- A slice literal. -/
def bslK (e sz : Nat) (z : List C) (len : Nat) (parts : List (Nat × V)) (K : V → Prop) : Prop := match fillA sz parts (List.replicate len z) with
  | some es => K (.ow (if len = 0 then none else some (e, sz)) es)
  | none => False
theorem bsl_of {T e : TypeId} {i j : TI} {z : List C} {sz len : Nat} {parts : List (Nat × V)} (hT : ti P T = some i) (hk : i.kd = .slice e) (hE : ti P e = some j) (hz : j.zero = some z) (hs : j.size = sz) (hp : 0 < sz) (hl : z.length = sz) (hn : len * sz ≤ 16777216) :
    vbuildSlice P T len parts KV = bslK e sz z len parts KV := by
  obtain ⟨kd, a, b, c, d, f, g⟩ := i; subst hk
  obtain ⟨kd', a', b', c', d', f', g'⟩ := j; simp only at hz hs; subst hz; subst hs
  simp only [vbuildSlice, hT, hE, hp, hl, hn, true_and]; rfl
theorem fillA_nil {sz : Nat} {es : List (List C)} : fillA sz [] es = some es := rfl
theorem fillA_agg {sz i : Nat} {ds : List C} {r : List (Nat × V)} {es : List (List C)} : fillA sz ((i, .agg ds) :: r) es = if ds.length = sz ∧ i < es.length then fillA sz r (es.set i ds) else none := rfl
theorem fillA_c {sz i : Nat} {x : C} {r : List (Nat × V)} {es : List (List C)} : fillA sz ((i, .c x) :: r) es = if [x].length = sz ∧ i < es.length then fillA sz r (es.set i [x]) else none := rfl
theorem fillA_ow {sz i : Nat} {E : Option (TypeId × Nat)} {x : List (List C)} {r : List (Nat × V)} {es : List (List C)} : fillA sz ((i, .ow E x) :: r) es = if [C.sl x].length = sz ∧ i < es.length then fillA sz r (es.set i [.sl x]) else none := rfl
theorem bslK_some {e sz len : Nat} {z : List C} {parts : List (Nat × V)} {es : List (List C)} (h : fillA sz parts (List.replicate len z) = some es) : bslK e sz z len parts KV = KV (.ow (if len = 0 then none else some (e, sz)) es) := by
  simp only [bslK, h]
theorem bslK_eq {e sz len : Nat} {z : List C} {parts : List (Nat × V)} : bslK e sz z len parts KV = optK (fillA sz parts (List.replicate len z)) (fun es => KV (.ow (if len = 0 then none else some (e, sz)) es)) := by
  unfold bslK optK; cases fillA sz parts (List.replicate len z) <;> rfl

/-- A struct literal. -/
def bldK (flds : List (Nat × Nat × Bool)) (z : List C) (parts : List (Nat × V)) (K : V → Prop) : Option (List C) → Prop
  | some cs => K (.agg cs)
  | none => optK (fillM flds parts (z.map .c)) fun vs => K (.mag vs)
theorem bld_of {T : TypeId} {i : TI} {z : List C} {flds : List (Nat × Nat × Bool)} {parts : List (Nat × V)} (hT : ti P T = some i) (hk : i.kd = .struct) (hz : i.zero = some z) (hf : i.flds = flds) :
    vbuild P T parts KV = bldK flds z parts KV (fillS flds parts z) := by
  obtain ⟨kd, a, b, c, d, f, g⟩ := i; simp only at hk hz hf; subst hk; subst hz; subst hf
  simp only [vbuild, hT]; unfold bldK
  cases fillS f parts z with
  | some cs => rfl
  | none => cases fillM f parts (z.map .c) <;> rfl
theorem bldK_some {z cs : List C} {flds : List (Nat × Nat × Bool)} {parts : List (Nat × V)} : bldK flds z parts KV (some cs) = KV (.agg cs) := rfl
theorem optK_some {α : Type} {a : α} {K : α → Prop} : optK (some a) K = K a := rfl
theorem fillS_nil {flds : List (Nat × Nat × Bool)} {cs : List C} : fillS flds [] cs = some cs := rfl
theorem fillS_c {flds : List (Nat × Nat × Bool)} {i : Nat} {x : C} {r : List (Nat × V)} {cs : List C} : fillS flds ((i, .c x) :: r) cs = fillF flds[i]? [x] flds r cs := by
  unfold fillS fillF; cases flds[i]? <;> rfl
theorem fillS_ow {flds : List (Nat × Nat × Bool)} {i : Nat} {E : Option (TypeId × Nat)} {x : List (List C)} {r : List (Nat × V)} {cs : List C} : fillS flds ((i, .ow E x) :: r) cs = fillF flds[i]? [.sl x] flds r cs := by
  unfold fillS fillF; cases flds[i]? <;> rfl
theorem fillS_agg {flds : List (Nat × Nat × Bool)} {i : Nat} {ds : List C} {r : List (Nat × V)} {cs : List C} : fillS flds ((i, .agg ds) :: r) cs = fillF flds[i]? ds flds r cs := by
  unfold fillS fillF; cases flds[i]? <;> rfl
theorem fillF_some {off sz : Nat} {ag : Bool} {ds : List C} {flds : List (Nat × Nat × Bool)} {r : List (Nat × V)} {cs : List C} : fillF (some (off, sz, ag)) ds flds r cs = if ds.length = sz ∧ off + sz ≤ cs.length then fillS flds r (setAt cs off ds) else none := rfl
theorem setAt_zero {cs ds : List C} : setAt cs 0 ds = ds ++ cs.drop ds.length := by simp [setAt]
theorem setAt_succ {c : C} {cs ds : List C} {n : Nat} : setAt (c :: cs) (n + 1) ds = c :: setAt cs n ds := by simp [setAt, Nat.succ_add]

/-- An append. -/
theorem app_of {T e : TypeId} {i j : TI} {z : List C} {sz by_ : Nat} {E : Option (TypeId × Nat)} {es ys : List (List C)} (hT : ti P T = some i) (hk : i.kd = .slice e) (hE : ti P e = some j) (hz : j.zero = some z) (hs : j.size = sz) (hb : j.bytes = by_) (hp : 0 < sz) (hl : z.length = sz) :
    vappend P T (.ow E es) (.c (.sl ys)) KV = (((E = none ∨ E = some (e, sz)) ∧ ∀ x ∈ es, x.length = sz) ∧ ((es.length + ys.length) * by_ ≤ 140737488355328 ∧ es.length + ys.length ≤ 9223372036854775807 ∧ ∀ x ∈ ys, x.length = sz) ∧ KV (.ow (if ys.isEmpty then E else some (e, sz)) (es ++ ys))) := by
  obtain ⟨kd, a, b, c, d, f, g⟩ := i; subst hk
  obtain ⟨kd', a', b', c', d', f', g'⟩ := j; simp only at hz hs hb; subst hz; subst hs; subst hb
  simp only [vappend, hT, hE, hp, hl, true_and]
end
end Go.Vl
