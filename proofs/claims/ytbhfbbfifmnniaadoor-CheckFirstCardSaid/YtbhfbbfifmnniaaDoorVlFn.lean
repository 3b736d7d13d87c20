/- Values without memory: from a function's text to its contract. -/
import Derived.Test.YtbhfbbfifmnniaaDoorVlDraw
set_option linter.unusedSimpArgs false
set_option linter.unusedVariables false
namespace Go.Vl
open Go Go.RowKit

section
variable {P : Program} {G : Gl} {tr : List Nat} {n : Nat} {I0 : Ft} {M : Mx} {w0 : World} {I : Ft} {β : Nat → Option Nat} {ob : Loc → Option Nat} {s : S} {a : Act} {w : World} {o : Oper}
  {Q : Exit → Act → World → Prop} {base : Nat → Prop} {v : Value} {x y : V}

/-- What is asked of a text once and for all. -/
def cok (n : Nat) (tr : List Nat) : Code → Bool
  | .region _ ops draw => dstOk n ops && (!draw || drawOk tr ops)
  | .seq a b => cok n tr a && cok n tr b
  | .cond _ a b => cok n tr a && cok n tr b
  | .block _ a => cok n tr a
  | .loop a => cok n tr a
  | _ => true

def VE.ex : VE → Exit
  | .normal => .normal
  | .exit i => .exit i
  | .ret => .ret

theorem vwpK_sound {k0 : Nat} (hm : P.follows .mixedOrders = true) (hext : ∀ i b, M.e i = some b → i < k0) : ∀ (c : Code) (hc : cok n tr c = true) (q : VE → S → Prop) (Q : Exit → Act → World → Prop) (_hQ : ∀ e s a w, q e s → SE G n I0 M w0 s a w → Q e.ex a w) (s : S) (a : Act) (w : World),
    vwpK P G tr k0 c q s → SE G n I0 M w0 s a w → c.wp P Q a w := by
  intro c
  induction c with
  | skip => intro _ q Q hQ s a w h hse; exact wp_skip (hQ .normal s a w h hse)
  | region id ops draw =>
    intro hc q Q hQ s a w h hse
    simp only [cok, Bool.and_eq_true, Bool.or_eq_true, Bool.not_eq_true'] at hc
    simp only [vwpK] at h
    cases draw with
    | false =>
      refine wp_region ?_
      have := vops_sound (Q := Q) hc.1 (fun a w s hk hse => hQ .normal s a w hk hse) ops.toList 0 rfl s a w h hse
      rw [List.range_eq_range']
      simpa using this
    | true => exact region_draw_sound hm hc.1 (hc.2.resolve_left (by simp)) (fun a w s hk hse => hQ .normal s a w hk hse) h hse
  | seq x y ihx ihy =>
    intro hc q Q hQ s a w h hse
    simp only [cok, Bool.and_eq_true] at hc
    simp only [vwpK] at h
    refine wp_seq (ihx hc.1 _ _ (fun e s a w hk hse => ?_) s a w h hse)
    cases e with
    | normal => exact ihy hc.2 q Q hQ s a w hk hse
    | exit i => exact hQ (.exit i) s a w hk hse
    | ret => exact hQ .ret s a w hk hse
  | cond c x y ihx ihy =>
    intro hc q Q hQ s a w h hse
    simp only [cok, Bool.and_eq_true] at hc
    simp only [vwpK] at h
    split at h
    · rename_i p hp
      obtain ⟨I, β, ob, hst⟩ := hse
      have hcv : a.eval c = .bool p := by have := ev_sound hst c; rw [hp] at this; exact this.lit
      have href : refine s c p = s := by
        cases c with
        | tmp t => simp only [refine]; simp only [ev] at hp; exact S.up_id hp
        | _ => rfl
      refine wp_cond_split hcv (fun ht => ?_) (fun hf => ?_)
      · have := h.1 ht
        rw [ht] at href
        rw [href] at this
        exact ihx hc.1 q Q hQ s a w this ⟨I, β, ob, hst⟩
      · have := h.2 hf
        rw [hf] at href
        rw [href] at this
        exact ihy hc.2 q Q hQ s a w this ⟨I, β, ob, hst⟩
    · exact h.elim
  | block id body ih =>
    intro hc q Q hQ s a w h hse
    simp only [cok] at hc
    simp only [vwpK] at h
    refine wp_block (ih hc _ _ (fun e s a w hk hse => ?_) s a w h hse)
    cases e with
    | normal => exact hQ .normal s a w hk hse
    | exit i =>
      simp only [VE.ex, Exit.inBlock] at hk ⊢
      split
      · rename_i e; rw [if_pos e] at hk; exact hQ .normal s a w hk hse
      · rename_i e; rw [if_neg e] at hk; exact hQ (.exit i) s a w hk hse
    | ret => exact hQ .ret s a w hk hse
  | loop body ih =>
    intro hc q Q hQ s a w h hse
    simp only [cok] at hc
    simp only [vwpK] at h
    obtain ⟨k, h⟩ := h
    refine wp_loop_rounds k ?_
    induction k generalizing s a w with
    | zero => exact h.elim
    | succ k ihk =>
      simp only [vrounds] at h
      obtain ⟨s', hle, h⟩ := h
      rw [rounds_succ]
      refine ih hc _ _ (fun e s a w hk hse => ?_) s' a w h (by rcases hle with rfl | hle; exact hse; exact hse.weaken hext hle)
      cases e with
      | normal => exact ihk s a w hse hk
      | exit i => exact hQ (.exit i) s a w hk hse
      | ret => exact hQ .ret s a w hk hse
  | exit id => intro _ q Q hQ s a w h hse; exact wp_exit (hQ (.exit id) s a w h hse)
  | ret => intro _ q Q hQ s a w h hse; exact wp_ret (hQ .ret s a w h hse)
  | label l => intro _ q Q hQ s a w h hse; exact wp_label (hQ .normal s a w h hse)
  | _ => intro _ q Q hQ s a w h hse; exact h.elim

theorem vwp_sound (hm : P.follows .mixedOrders = true) (hext : ∀ i b, M.e i = some b → i < extK tr) (c : Code) (hc : cok n tr c = true) (q : VE → S → Prop) (Q : Exit → Act → World → Prop) (hQ : ∀ e s a w, q e s → SE G n I0 M w0 s a w → Q e.ex a w)
    (s : S) (a : Act) (w : World) (h : vwp P G tr c q s) (hse : SE G n I0 M w0 s a w) : c.wp P Q a w := vwpK_sound hm hext c hc q Q hQ s a w h hse

/-- The result of a function, by the variables that hold it. -/
def resV (P : Program) (s : S) : ResultVar → (V → Prop) → Prop
  | .tmp t, K => K (s.fr t)
  | .cell p T, K => vload P T s (s.fr p) K

/-- What leaves: as it is, or looked at for good. -/
def endR (z : Bool) (s : S) (x r : V) : Prop := if z then imm s x = some r else x = r
def endR1 (z : Bool) (s : S) (x r : V) : Prop := if z then imm s x = some r else x.fz = r

def retV (P : Program) (z : Bool) (s : S) (r : V) : List ResultVar → Prop
  | [.tmp t] => endR z s (s.fr t) r
  | [.cell p T] => vload P T s (s.fr p) fun u => endR z s u r
  | rs => ∃ ds, r = .tup ds ∧ ds.length = rs.length ∧ ∀ (i : Nat) (R : ResultVar) (d : V), rs[i]? = some R → ds[i]? = some d → resV P s R fun u => endR1 z s u d

def initS (args : List V) : S := ⟨fun j => args.getD j .un, fun _ => [], 0⟩

theorem LR.ofDR (h : DR I w v x) : LR base I β w none v x := by
  cases h with
  | un => simp only [LR]; exact .un _
  | sk => simp only [LR]; exact .sk
  | c _ _ h => exact .ofC h
  | agg vs cs h1 h2 => simp only [LR]; exact .agg vs cs h1 h2
  | tup vs ds h1 h2 => simp only [LR]; exact .tup vs ds h1 h2

theorem St.init {I : Ft} {w : World} {vs : Array Value} {args : List V} {m : Nat} (hI : ∀ b o, I b o → b < w.heap.size) (hg : GOK G I w) (hsz : vs.size = args.length) (ha : ∀ j x, args[j]? = some x → DR I w (vs.getD j undef) x)
    (hm : m = (vs ++ Array.replicate (n - vs.size) undef).size) : St G m I ⟨fun _ => False, fun _ => none⟩ w I (fun _ => none) (fun _ => none) (initS args) { tmps := vs ++ Array.replicate (n - vs.size) undef, defers := [] } w where
  size := hm.symm
  defers := rfl
  below := BelowM.refl _ _
  kept := fun _ _ _ => rfl
  ilow := fun _ _ h => h
  ihigh := fun _ _ h => .inl h
  ibnd := hI
  fr := fun t => by
    simp only [initS]
    by_cases ht : t < args.length
    · have e1 : args.getD t .un = args[t] := by simp [List.getD, ht]
      have e2 : (vs ++ Array.replicate (n - vs.size) undef).getD t undef = vs.getD t undef := by
        rw [Array.getD_eq_getD_getElem?, Array.getElem?_append_left (by omega), ← Array.getD_eq_getD_getElem?]
      rw [e1, e2]
      exact .ofDR (ha t _ (List.getElem?_eq_getElem ht))
    · have e1 : args.getD t .un = .un := by simp [List.getD, List.getElem?_eq_none (Nat.le_of_not_lt ht)]
      rw [e1]; simp only [LR]; exact .un _
  bx := fun i hi => by simp [initS] at hi
  bnone := fun _ _ => rfl
  ext := fun _ _ h => by cases h
  bnew := fun _ _ h => by cases h
  binj := fun _ _ _ h => by cases h
  oinj := fun _ _ _ h => by cases h
  obx := fun _ _ _ h => by cases h
  obnd := fun _ _ h => by cases h
  glob := hg

/-- Values that may leave a function. -/
def V.out : V → Bool
  | .bp _ _ | .clo _ _ _ | .ms _ _ _ _ _ | .mag _ => false
  | _ => true

theorem LR.leave {ox : Option Nat} (h : LR base I β w ox v x) (hx : x.out = true) {β' : Nat → Option Nat} : LR base I β' w ox v x := by
  cases x <;> simp only [V.out] at hx <;> try cases hx
  all_goals simp only [LR] at h ⊢; exact h

def V.comp : V → Bool
  | .c _ | .agg _ => true
  | _ => false

def V.compT : V → Bool
  | .tup ds => ds.all V.comp
  | _ => true

def rdRes (a : Act) : ResultVar → Sem Value
  | .tmp t => pure (a.tmps.getD t undef)
  | .cell p t => do loadVar t (← asAddr (a.tmps.getD p undef))

theorem results_eq (fn : Func) (a : Act) : results fn a.tmps = (do let vs ← fn.results.mapM (rdRes a); pure (if h : vs.size = 1 then vs[0] else .tuple vs)) := by
  unfold results
  congr 1

theorem run_res (hst : St G n I0 M w0 I β ob s a w) {R : ResultVar} {K : V → Prop} (h : resV P s R K) : ∃ x u o', K x ∧ LR (Wr M w0) I β w o' u x ∧ (∀ b, o' = some b → Wr M w0 b ∧ b < w.heap.size) ∧
    (rdRes a R).run P w = .ok u w := by
  cases R with
  | tmp t => exact ⟨_, _, _, h, hst.fr t, fun b hb => ⟨(hst.obnd _ b hb).2, (hst.obnd _ b hb).1⟩, rfl⟩
  | cell p T =>
    obtain ⟨z, u, hz, hlr, hrun⟩ := vload_sound (x := s.fr p) hst h (hst.fr p)
    refine ⟨z, u, none, hz, hlr, fun b hb => (by cases hb), ?_⟩
    unfold Instr.loadAt at hrun
    show (do loadVar T (← asAddr (a.tmps.getD p undef)) : Sem Value).run P w = .ok u w
    generalize a.tmps.getD p undef = pv at hrun ⊢
    cases pv <;> first | (simp [Instr.sureAddr, stuck, Sem.run] at hrun; done) | skip
    rename_i ad
    cases ad with
    | none => simp [Instr.sureAddr, stuck, Sem.run] at hrun
    | some ad => simpa [Instr.sureAddr, asAddr] using hrun

theorem run_results (hst : St G n I0 M w0 I β ob s a w) {Ic : Ft} {z : Bool} (hz : z = false → Ic = I) (hIc : ∀ b o, I b o → Ic b o) (hb : z = true → ∀ i b o, β i = some b → Ic b o) :
    ∀ (rs : List ResultVar) (ds : List V), ds.length = rs.length → (∀ (i : Nat) (R : ResultVar) (d : V), rs[i]? = some R → ds[i]? = some d → resV P s R fun u => endR1 z s u d) →
    ∃ vs : List Value, vs.length = ds.length ∧ (∀ (i : Nat) (d : V), ds[i]? = some d → LR (Wr M w0) Ic β w none (vs.getD i undef) d) ∧
      (rs.mapM (rdRes a)).run P w = .ok vs w
  | [], [], _, _ => ⟨[], rfl, by simp, rfl⟩
  | R :: rs, d :: ds, hl, h => by
    obtain ⟨vs, h1, h2, h3⟩ := run_results hst hz hIc hb rs ds (by simpa using hl) (fun i R' d' hR hd => h (i + 1) R' d' (by simpa using hR) (by simpa using hd))
    obtain ⟨x, u, o', hx, hlr, _, hrun⟩ := run_res hst (h 0 R d rfl rfl)
    refine ⟨u :: vs, by simp [h1], fun i d' hd' => ?_, ?_⟩
    · cases i with
      | zero =>
        simp at hd'; subst hd'
        cases z with
        | false => rw [hz rfl]; simp only [endR1, Bool.false_eq_true, if_false] at hx; rw [← hx]; exact hlr.fz none
        | true => simp only [endR1, if_true] at hx; exact .ofDR (imm_ok hst hlr hx hIc (fun _ => hb rfl))
      | succ i => simpa using h2 i d' (by simpa using hd')
    · rw [List.mapM_cons]
      simp only [Sem.run_bind, hrun, Result.andThen_ok, h3, Sem.run_pure]
  | [], _ :: _, hl, _ => by simp at hl
  | _ :: _, [], hl, _ => by simp at hl

/-- The results of a function, read at its end. -/
theorem run_ret_ok {fn : Func} (hst : St G n I0 M w0 I β ob s a w) {r : V} (hcomp : r.compT = true) {Ic : Ft} {z : Bool} (hz : z = false → Ic = I) (hIc : ∀ b o, I b o → Ic b o)
    (hb : z = true → ∀ i b o, β i = some b → Ic b o) (hret : retV P z s r fn.results.toList) :
    ∃ v o', (results fn a.tmps).run P w = .ok v w ∧ LR (Wr M w0) Ic β w o' v r ∧ ∀ b, o' = some b → ∃ t, ob (.t t) = some b := by
  unfold retV at hret
  rw [results_eq, Array.mapM_eq_mapM_toList]
  split at hret
  · rename_i t hrs
    rw [hrs]
    cases z with
    | false =>
      simp only [endR, Bool.false_eq_true, if_false] at hret
      refine ⟨a.tmps.getD t undef, ob (.t t), by simp [rdRes], ?_, fun b hb => ⟨_, hb⟩⟩
      rw [← hret, hz rfl]; exact hst.fr t
    | true =>
      simp only [endR, if_true] at hret
      exact ⟨a.tmps.getD t undef, none, by simp [rdRes], .ofDR (imm_ok hst (hst.fr t) hret hIc (fun _ => hb rfl)), fun b hb => by cases hb⟩
  · rename_i p T hrs
    rw [hrs]
    obtain ⟨x, u, hx, hlr, hrun⟩ := vload_sound (x := s.fr p) hst hret (hst.fr p)
    have hrun' : (rdRes a (.cell p T)).run P w = .ok u w := by
      unfold Instr.loadAt at hrun
      show (do loadVar T (← asAddr (a.tmps.getD p undef)) : Sem Value).run P w = .ok u w
      generalize a.tmps.getD p undef = pv at hrun ⊢
      cases pv <;> first | (simp [Instr.sureAddr, stuck, Sem.run] at hrun; done) | skip
      rename_i ad
      cases ad with
      | none => simp [Instr.sureAddr, stuck, Sem.run] at hrun
      | some ad => simpa [Instr.sureAddr, asAddr] using hrun
    refine ⟨u, none, by simp [List.mapM_cons, hrun'], ?_, fun b hb => by cases hb⟩
    cases z with
    | false =>
      simp only [endR, Bool.false_eq_true, if_false] at hx
      subst hx; rw [hz rfl]; exact hlr
    | true =>
      simp only [endR, if_true] at hx
      exact .ofDR (imm_ok hst hlr hx hIc (fun _ => hb rfl))
  · rename_i n1 n2
    obtain ⟨ds, rfl, hl, hall⟩ := hret
    obtain ⟨vs', h1, h2, h3⟩ := run_results hst hz hIc hb fn.results.toList ds hl hall
    have hne : vs'.length ≠ 1 := fun h => by
      have : fn.results.toList.length = 1 := by omega
      obtain ⟨R, hR⟩ := List.length_eq_one_iff.1 this
      cases R with
      | tmp t => exact n1 t hR
      | cell p T => exact n2 p T hR
    refine ⟨.tuple vs'.toArray, none, ?_, ?_, fun b hb => by cases hb⟩
    · simp [h3, hne]
    · simp only [LR]
      refine .tup _ _ (by simpa using h1) fun j d hd => ?_
      have h4 := h2 j d hd
      have h5 := List.all_eq_true.1 hcomp d (List.mem_of_getElem? hd)
      have e1 : vs'.toArray.getD j undef = vs'.getD j undef := by simp [List.getD]
      rw [e1]
      cases d <;> simp only [V.comp] at h5 <;> try cases h5
      all_goals simp only [LR] at h4; exact h4

/-- From the text to the contract. -/
theorem FnOK_ofK {f : FuncId} {k0 : Nat} {fn : Func} {c : Code} {args : List V} {r : V} (z : Bool) (tr : List Nat) (hm : P.follows .mixedOrders = true) (hf : P.funcs[f]? = some fn) (hb : fn.body = some c) (hname : (fn.name == "runtime.NumGoroutine") = false)
    (hn : args.length ≤ fn.ntmps) (hck : cok fn.ntmps tr c = true)
    (hr : r.out = true) (hcomp : r.compT = true)
    (h : vwpK P G tr k0 c (fun e s => (match e with | .exit _ => False | _ => True) ∧ retV P z s r fn.results.toList) (initS args)) : FnOK P G f args r := by
  refine ⟨⟨fn, hf, hname, c, hb⟩, fun I w vs hI hg hsz ha => ?_⟩
  have hsize : fn.ntmps = (vs ++ Array.replicate (fn.ntmps - vs.size) undef).size := by simp; omega
  have hst := St.init (n := fn.ntmps) hI hg hsz ha hsize
  refine calls_of_wp hf hb (vwpK_sound hm (fun _ _ h => by cases h) c hck _ _ (fun e s a w' hq hse => ?_) _ _ _ h ⟨_, _, _, hst⟩)
  obtain ⟨hex, hret⟩ := hq
  obtain ⟨I', β, ob, hst'⟩ := hse
  have hwr : ∀ b, Wr ⟨fun _ => False, fun _ => none⟩ w b → w.heap.size ≤ b := fun b hb => by rcases hb with hb | hb; exact hb; exact hb.elim
  have main : a.defers = [] ∧ ∃ v, (results fn a.tmps).run P w' = .ok v w' ∧ ∃ v' I'', (Ending.returned v = .returned v') ∧ w.grownBy w' none ∧ (∀ b o, I b o → I'' b o) ∧
      (∀ b o, I'' b o → I b o ∨ (w.heap.size ≤ b ∧ b < w'.heap.size)) ∧ RetR (fun b => w.heap.size ≤ b) I'' w' v' r := by
    refine ⟨hst'.defers, ?_⟩
    obtain ⟨v, o', h1, h2, h3⟩ := run_ret_ok (P := P) (fn := fn) hst' hcomp (Ic := fun b o => I' b o ∨ (z = true ∧ ∃ i, β i = some b)) (fun hz => by subst hz; simp) (fun _ _ h => .inl h) (fun hz i b o hi => .inr ⟨hz, i, hi⟩) hret
    refine ⟨v, h1, v, (fun b o => I' b o ∨ (z = true ∧ ∃ i, β i = some b)), rfl, ⟨hst'.below.os, hst'.below.tape, hst'.below.output, hst'.below.size, fun k hk _ => hst'.below.block k hk (fun e => e.elim)⟩, fun b o h => .inl (hst'.ilow b o h), fun b o hbo => ?_, o', ?_, fun b hb => ?_⟩
    · rcases hbo with hbo | ⟨_, i, hi⟩
      · rcases hst'.ihigh b o hbo with h4 | h4
        · exact .inl h4
        · exact .inr ⟨hwr b h4, hst'.ibnd b o hbo⟩
      · obtain ⟨_, h5, h6⟩ := hst'.boxblk hi
        exact .inr ⟨hwr b h5, h6⟩
    · have h2' := h2.leave hr (β' := fun _ => none)
      have e : Wr ⟨fun _ => False, fun _ => none⟩ w = fun b => w.heap.size ≤ b := by funext b; simp [Wr]
      rw [e] at h2'
      exact h2'
    · obtain ⟨L, hL⟩ := h3 b hb
      obtain ⟨h4, h5⟩ := hst'.obnd _ b hL
      exact ⟨hwr b h5, h4⟩
  cases e with
  | normal => exact main
  | exit i => exact hex.elim
  | ret => exact main

theorem FnOK_of {f : FuncId} {fn : Func} {c : Code} {args : List V} {r : V} (z : Bool) (tr : List Nat) (hm : P.follows .mixedOrders = true) (hf : P.funcs[f]? = some fn) (hb : fn.body = some c) (hname : (fn.name == "runtime.NumGoroutine") = false)
    (hn : args.length ≤ fn.ntmps) (hck : cok fn.ntmps tr c = true)
    (hr : r.out = true) (hcomp : r.compT = true)
    (h : vwp P G tr c (fun e s => (match e with | .exit _ => False | _ => True) ∧ retV P z s r fn.results.toList) (initS args)) : FnOK P G f args r := FnOK_ofK z tr hm hf hb hname hn hck hr hcomp h

end
end Go.Vl
