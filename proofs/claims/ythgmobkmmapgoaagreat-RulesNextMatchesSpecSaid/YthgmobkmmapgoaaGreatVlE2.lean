/- The engine of layer 17: what it asks of the caller's 'yield', its box, 'about', 'emit'. -/
import Derived.Test.YthgmobkmmapgoaaGreatVlA1
set_option linter.unusedSimpArgs false
set_option linter.unusedVariables false
namespace Go.Proofs.YthgmobkmmapgoaaGreat
open Go Go.Vl
variable {G : Gl}
set_option maxRecDepth 4000
structure Ys (σ : Type) where
 yb : σ → List (List V)
 k : Nat
 pos : 0 < k
 len : ∀ s, (yb s).length = k
 lt : ∀ s, ltL k (yb s)
 step : σ → In → σ × Bool
 mode : Bool
def conB (x : In) : List C := (x.con.map faC).flatten
def Ys.ok (G : Gl) {σ : Type} (Y : Ys σ) (s : σ) (x : In) : Prop :=
 if Y.mode = true then ∃ c' : List C, YB Tryz.prog G [.mag [i64 x.rule, .c (fsC x.pre), .ms (kx Y.k 0) 0 x.con.length x.con.length 3]] (Y.yb s ++ [(conB x).map .c]) (bo (Y.step s x).2) (Y.yb (Y.step s x).1 ++ [c'.map .c])
 else YB Tryz.prog G [.agg (inC x)] (Y.yb s) (bo (Y.step s x).2) (Y.yb (Y.step s x).1)
def runS {σ : Type} (step : σ → In → σ × Bool) : σ → List In → σ × Bool
 | s, [] => (s, true)
 | s, x :: l => if (step s x).2 = true then runS step (step s x).1 l else ((step s x).1, false)
def Fut (G : Gl) {σ : Type} (Y : Ys σ) : σ → List In → Prop
 | _, [] => True
 | s, x :: l => Y.ok G s x ∧ ((Y.step s x).2 = true → Fut G Y (Y.step s x).1 l)
theorem runS_app {σ : Type} (step : σ → In → σ × Bool) : ∀ (a b : List In) (s : σ), runS step s (a ++ b) = if (runS step s a).2 = true then runS step (runS step s a).1 b else ((runS step s a).1, false)
 | [], _, _ => rfl
 | x :: a, b, s => by
  simp only [List.cons_append, runS]
  split
  ·exact runS_app step a b _
  ·simp
theorem Fut.app {σ : Type} {Y : Ys σ} : ∀ {a b : List In} {s : σ}, Fut G Y s (a ++ b) → Fut G Y s a ∧ ((runS Y.step s a).2 = true → Fut G Y (runS Y.step s a).1 b)
 | [], _, _, h => ⟨trivial, fun _ => h⟩
 | x :: a, b, s, h => by
  have h1 : (Y.step s x).2 = true → Fut G Y (Y.step s x).1 (a ++ b) := h.2
  refine ⟨⟨h.1, fun hx => (h1 hx).app.1⟩, fun hr => ?_⟩
  simp only [runS] at hr ⊢
  split at hr
  ·rename_i hx
   rw [if_pos hx]
   exact (h1 hx).app.2 hr
  ·cases hr
def onlyC : Option Fa → C
 | none => .lit (.pointer none)
 | some f => .rp (faC f) 0
def eng (p : Pol) (o : Option Fa) : List V := [.c (cS p.name), .c (.sl (p.types.map tyC)), .c (.sl (p.rules.map ruC)), .c (.sl (p.quorums.map quC)), i64 p.types.length, .c (onlyC o), .yl 0]
section
variable {p : Pol} {o : Option Fa} {n k : Nat} {K : V → Prop}
theorem eng_p : ldA (kx k n) (kx k 0) (eng p o) 0 4 K = (0 < n ∧ K (.agg (poC p))) := by
 unfold ldA; rw [kx_lt]
 exact propext ⟨fun h => ⟨h.1, h.2.2⟩, fun h => ⟨h.1, ⟨rfl, rfl⟩, h.2⟩⟩
theorem eng_r : ldB (kx k n) (kx k 0) (eng p o) 2 K = (0 < n ∧ K (.c (.sl (p.rules.map ruC)))) := by unfold ldB; rw [kx_lt]; rfl
theorem eng_n : ldB (kx k n) (kx k 0) (eng p o) 4 K = (0 < n ∧ K (i64 p.types.length)) := by unfold ldB; rw [kx_lt]; rfl
theorem eng_o : ldB (kx k n) (kx k 0) (eng p o) 5 K = (0 < n ∧ K (.c (onlyC o))) := by unfold ldB; rw [kx_lt]; rfl
theorem eng_y : ldB (kx k n) (kx k 0) (eng p o) 6 K = (0 < n ∧ K (.yl 0)) := by unfold ldB; rw [kx_lt]; rfl
theorem eng_mb : isMb (eng p o) = false := rfl
theorem eng_lt (hk : 0 < k) : ∀ x ∈ eng p o, x.lt k := by
 intro x hx
 simp only [eng, List.mem_cons, List.not_mem_nil, or_false] at hx
 rcases hx with rfl | rfl | rfl | rfl | rfl | rfl | rfl <;> first | trivial | exact hk
end
theorem pkE : type_of% (And.intro @pkF (And.intro @eng_p (And.intro @eng_r (And.intro @eng_n (And.intro @eng_o (And.intro @eng_y (@eng_mb))))))) := ⟨@pkF, @eng_p, @eng_r, @eng_n, @eng_o, @eng_y, @eng_mb⟩
theorem one_lt {k : Nat} {b : List V} (h : ∀ x ∈ b, x.lt k) {m : Nat} : ltL (kx k m) [b] := fun c hc x hx => by
 simp only [List.mem_singleton] at hc; subst hc
 exact (h x hx).mono (by simp [kx])
theorem nil_z {K : V → Prop} : vnilP Tryz.prog .eql 76 false (.c (.lit (.pointer none))) K = K (bo true) := vnilP_eq (b := true) rfl (by kernel_rfl)
theorem nil_zn {K : V → Prop} : vnilP Tryz.prog .neq 76 false (.c (.lit (.pointer none))) K = K (bo false) := vnilP_ne (b := true) rfl (by kernel_rfl)
theorem nil_s {f : Fa} {K : V → Prop} : vnilP Tryz.prog .eql 76 false (.c (.rp (faC f) 0)) K = K (bo false) := vnilP_eq (b := false) rfl (by kernel_rfl)
theorem nil_sn {f : Fa} {K : V → Prop} : vnilP Tryz.prog .neq 76 false (.c (.rp (faC f) 0)) K = K (bo true) := vnilP_ne (b := false) rfl (by kernel_rfl)
theorem pkN : type_of% (And.intro @nil_z (And.intro @nil_zn (And.intro @nil_s (@nil_sn)))) := ⟨@nil_z, @nil_zn, @nil_s, @nil_sn⟩
def aboutO (o : Option Fa) (l : List Int) : Bool := match o with
 | none => true
 | some f => !decide (f.kind = 1) || l.any fun y => decide (f.b = y)
theorem about_ok {σ : Type} (Y : Ys σ) (s : σ) (p : Pol) (o : Option Fa) (l : List Int) (hm : l.length ≤ 9223372036854775807) :
  FnB Tryz.prog G 135 [.bp (kx Y.k 0) 0, .c (.sl (l.map fun y => [cI y]))] (Y.yb s ++ [eng p o]) (bo (aboutO o l)) (Y.yb s ++ [eng p o]) := by
 refine FnB_byE (k := Y.k) (m := 1) (rs := [.tmp 4]) [] mixed Tryz.func135 rfl rfl rfl rfl (by kernel_rfl) (by simp) rfl (Y.len s) (Y.len s) (Y.lt s) rfl (one_lt (eng_lt Y.pos)) (fun x hx => ?_) ?_
 ·simp only [List.mem_cons, List.not_mem_nil, or_false] at hx
  rcases hx with rfl | rfl
  ·simp [V.lt, kx]
  ·trivial
 have fin : ∀ (e : VE) (fr : Nat → V), isEnd e = true → fr 4 = bo (aboutO o l) → endB Tryz.prog (kx Y.k 1) (bo (aboutO o l)) (Y.yb s ++ [eng p o]) [.tmp 4] e ⟨fr, bxs (Y.yb s ++ [eng p o]), kx Y.k 1⟩ := fun e fr he h =>
  end_E (rest := []) [(4, bo (aboutO o l))] he (Y.len s) (Y.lt s) rfl rfl (one_lt (eng_lt Y.pos)) (by simp [V.lt]) (by simp [FL, h]) (by simp [hdS, frs, retV_one, up])
 cases o with
 | none =>
  simp -implicitDefEqProofs only [pkA, ptA, ↓reduceIte, Nat.reduceEqDiff, Nat.reduceAdd, Nat.reduceMul, pkE, bk0 (Y.len _), pkN, onlyC]
  exact fin _ _ rfl (by simp []; rfl)
 | some f =>
  simp -implicitDefEqProofs only [pkA, ptA, ↓reduceIte, Nat.reduceEqDiff, Nat.reduceAdd, Nat.reduceMul, pkE, bk0 (Y.len _), pkN, onlyC]
  refine vgd_of (fun h => ?_) (fun h => ?_)
  ·simp -implicitDefEqProofs only [pkA, ptA, ↓reduceIte, Nat.reduceEqDiff, Nat.reduceAdd, Nat.reduceMul, pkE, bk0 (Y.len _), onlyC]
   refine call_fn rfl (ContainsI_ok l f.b hm) (fun _ => rfl) ?_
   simp -implicitDefEqProofs only [pkA, ↓reduceIte, Nat.reduceEqDiff, bk0 (Y.len _)]
   exact fin _ _ rfl (by simp [aboutO, h])
  ·simp -implicitDefEqProofs only [pkA, ↓reduceIte, Nat.reduceEqDiff, bk0 (Y.len _)]
   exact fin _ _ rfl (by simp [aboutO, h])
end Go.Proofs.YthgmobkmmapgoaaGreat
/- The engine of layer 17: emit. -/
namespace Go.Proofs.YthgmobkmmapgoaaGreat
open Go Go.Vl
variable {G : Gl}
set_option maxRecDepth 4000
def wants (o : Option Fa) (x : In) : Bool := match o with
 | none => true
 | some f => x.pre.any fun y => decide (f = y)
def emL (o : Option Fa) (x : In) : List In := if wants o x = true then [x] else []
theorem emL_no {o : Option Fa} {x : In} (h : wants o x = false) : emL o x = [] := by simp [emL, h]
theorem emL_yes {o : Option Fa} {x : In} (h : wants o x = true) : emL o x = [x] := by simp [emL, h]
theorem runS_one {σ : Type} (step : σ → In → σ × Bool) (s : σ) (x : In) : runS step s [x] = step s x := by
 simp only [runS]
 split
 ·rename_i h; rw [← h]
 ·rename_i h; rw [Bool.not_eq_true] at h; rw [← h]
theorem runS_nil {σ : Type} (step : σ → In → σ × Bool) (s : σ) : runS step s [] = (s, true) := rfl
theorem emitA_ok {σ : Type} (Y : Ys σ) (hmd : Y.mode = false) (s : σ) (p : Pol) (o : Option Fa) (x : In) (hm : x.pre.length ≤ 9223372036854775807) (hF : Fut G Y s (emL o x)) :
  FnB Tryz.prog G 102 [.bp (kx Y.k 0) 0, i64 x.rule, .c (fsC x.pre), .c (fsC x.con)] (Y.yb s ++ [eng p o]) (bo (runS Y.step s (emL o x)).2) (Y.yb (runS Y.step s (emL o x)).1 ++ [eng p o]) := by
 refine FnB_byE (k := Y.k) (m := 1) (rs := [.tmp 8]) [1100033] mixed Tryz.func102 rfl rfl rfl rfl (by kernel_rfl) (by simp) rfl (Y.len s) (Y.len _) (Y.lt s) rfl (one_lt (eng_lt Y.pos)) (fun x hx => ?_) ?_
 ·simp only [List.mem_cons, List.not_mem_nil, or_false] at hx
  rcases hx with rfl | rfl | rfl | rfl <;> first | trivial | simp [V.lt, kx]
 have fin : ∀ (e : VE) (fr : Nat → V) (s' : σ) (b : Bool), isEnd e = true → fr 8 = bo b → runS Y.step s (emL o x) = (s', b) → endB Tryz.prog (kx Y.k 1) (bo (runS Y.step s (emL o x)).2) (Y.yb (runS Y.step s (emL o x)).1 ++ [eng p o]) [.tmp 8] e ⟨fr, bxs (Y.yb s' ++ [eng p o]), kx Y.k 1⟩ := fun e fr s' b he h hr => by
  rw [hr]
  exact end_E (rest := []) [(8, bo b)] he (Y.len s') (Y.lt s') rfl rfl (one_lt (eng_lt Y.pos)) (by simp [V.lt]) (by simp [FL, h]) (by simp [hdS, frs, retV_one, up])
 have yes : wants o x = true → ∀ (K : S → V → Prop) (fr : Nat → V), K ⟨fr, bxs (Y.yb (Y.step s x).1 ++ [eng p o]), kx Y.k 1⟩ (bo (Y.step s x).2) → vcallY Tryz.prog G ⟨fr, bxs (Y.yb s ++ [eng p o]), kx Y.k 1⟩ (.yl 0) [.agg (inC x)] K := fun hw K fr hK => by
  rw [emL_yes hw] at hF
  have := hF.1
  unfold Ys.ok at this
  rw [hmd, if_neg (by decide)] at this
  exact callY_pre this rfl Y.pos (Y.len _) (Y.len _) (Y.lt _) (fun _ => rfl) hK
 have e1 : ∀ K, bldK [(0, 1, false), (1, 1, false), (2, 1, false)] [.lit (.int .i64 0), .sl [], .sl []] [(0, i64 x.rule), (1, .c (fsC x.pre)), (2, .c (fsC x.con))] K (some [cI x.rule, fsC x.pre, fsC x.con]) = K (.agg (inC x)) := fun _ => rfl
 cases o with
 | none =>
  simp -implicitDefEqProofs only [pkA, ptA, ↓reduceIte, Nat.reduceEqDiff, Nat.reduceAdd, Nat.reduceBEq, Nat.reduceMul, Nat.reduceLeDiff, pkE, bk0 (Y.len _), pkN, onlyC]
  refine yes rfl _ _ ?_
  simp -implicitDefEqProofs only [pkA, ↓reduceIte, bk0 (Y.len _)]
  exact fin _ _ _ (Y.step s x).2 rfl (by simp []) (by rw [emL_yes rfl, runS_one])
 | some f =>
  simp -implicitDefEqProofs only [pkA, ptA, ↓reduceIte, Nat.reduceEqDiff, Nat.reduceAdd, Nat.reduceBEq, Nat.reduceMul, pkE, bk0 (Y.len _), pkN, onlyC]
  refine call_fn rfl (ContainsF_ok x.pre f hm) (fun _ => rfl) ?_
  simp -implicitDefEqProofs only [pkA, ↓reduceIte, Nat.reduceEqDiff, bk0 (Y.len _)]
  refine vcond_of (fun h => ?_) (fun h => ?_)
  ·have hw : wants (some f) x = false := by simpa [wants] using h
   simp -implicitDefEqProofs only [pkA, ↓reduceIte, Nat.reduceAdd, Nat.reduceBEq, bk0 (Y.len _)]
   exact fin _ _ _ true rfl (by simp []) (by rw [emL_no hw, runS_nil])
  ·have hw : wants (some f) x = true := by simpa [wants] using h
   simp -implicitDefEqProofs only [pkA, ptA, ↓reduceIte, Nat.reduceEqDiff, Nat.reduceAdd, Nat.reduceBEq, Nat.reduceMul, Nat.reduceLeDiff, pkE, bk0 (Y.len _)]
   refine yes hw _ _ ?_
   simp -implicitDefEqProofs only [pkA, ↓reduceIte, bk0 (Y.len _)]
   exact fin _ _ _ (Y.step s x).2 rfl (by simp []) (by rw [emL_yes hw, runS_one])
theorem two_lt {k : Nat} {b c : List V} (h : ∀ x ∈ b, x.lt k) (hc : ∀ x ∈ c, x.lt (kx k 2)) : ltL (kx k 2) [b, c] := fun d hd x hx => by
 simp only [List.mem_cons, List.not_mem_nil, or_false] at hd
 rcases hd with rfl | rfl
 ·exact (h x hx).mono (by simp [kx])
 ·exact hc x hx
theorem cmap_lt {m : Nat} (l : List C) : ∀ x ∈ l.map V.c, x.lt m := fun x hx => by
 obtain ⟨c, _, rfl⟩ := List.mem_map.1 hx; trivial
theorem emitB_ok {σ : Type} (Y : Ys σ) (hmd : Y.mode = true) (s : σ) (p : Pol) (o : Option Fa) (x : In) (hm : x.pre.length ≤ 9223372036854775807) (hF : Fut G Y s (emL o x)) :
  ∃ c' : List C, FnB Tryz.prog G 102 [.bp (kx Y.k 0) 0, i64 x.rule, .c (fsC x.pre), .ms (kx Y.k 1) 0 x.con.length x.con.length 3] (Y.yb s ++ [eng p o, (conB x).map .c]) (bo (runS Y.step s (emL o x)).2) (Y.yb (runS Y.step s (emL o x)).1 ++ [eng p o, c'.map .c]) := by
 have main : ∃ c' : List C, (wants o x = false → c' = conB x) ∧ (wants o x = true → ∀ (K : S → V → Prop) (fr : Nat → V), K ⟨fr, bxs (Y.yb (Y.step s x).1 ++ [eng p o, c'.map .c]), kx Y.k 2⟩ (bo (Y.step s x).2) →
   vcallY Tryz.prog G ⟨fr, bxs (Y.yb s ++ [eng p o, (conB x).map .c]), kx Y.k 2⟩ (.yl 0) [.mag [i64 x.rule, .c (fsC x.pre), .ms (kx Y.k 1) 0 x.con.length x.con.length 3]] K) := by
  cases hw : wants o x with
  | false => exact ⟨conB x, fun _ => rfl, fun h => by cases h⟩
  | true =>
   rw [emL_yes hw] at hF
   have := hF.1
   unfold Ys.ok at this
   rw [if_pos hmd] at this
   obtain ⟨c', hY⟩ := this
   refine ⟨c', fun h => (by cases h), fun _ K fr hK => callY_one (j := 1) hY (fun ρ _ h1 => ?_) Y.pos (Y.len _) (Y.len _) (Y.lt _) (Y.lt _) rfl (by decide) (fun _ => rfl) ?_⟩
   ·simp only [List.map_cons, List.map_nil, V.ren, V.renP, V.fz, h1]
   ·rw [uk1 (Y.len _)]; exact hK
 obtain ⟨c', hno, yes⟩ := main
 refine ⟨c', FnB_byE' (k := Y.k) (m := 2) (rs := [.tmp 8]) [1100033, 2500032] mixed Tryz.func102 rfl rfl rfl rfl (by kernel_rfl) (by simp) rfl (Y.len s) (Y.len _) (Y.lt s) rfl rfl (two_lt (eng_lt Y.pos) (cmap_lt _)) (fun x hx => ?_) ?_⟩
 ·simp only [List.mem_cons, List.not_mem_nil, or_false] at hx
  rcases hx with rfl | rfl | rfl | rfl <;> first | trivial | simp [V.lt, kx]
 have fin : ∀ (e : VE) (fr : Nat → V) (s' : σ) (b : Bool), isEnd e = true → fr 8 = bo b → runS Y.step s (emL o x) = (s', b) → endB Tryz.prog (kx Y.k 2) (bo (runS Y.step s (emL o x)).2) (Y.yb (runS Y.step s (emL o x)).1 ++ [eng p o, c'.map .c]) [.tmp 8] e ⟨fr, bxs (Y.yb s' ++ [eng p o, c'.map .c]), kx Y.k 2⟩ := fun e fr s' b he h hr => by
  rw [hr]
  exact end_E (rest := []) [(8, bo b)] he (Y.len s') (Y.lt s') rfl rfl (two_lt (eng_lt Y.pos) (cmap_lt _)) (by simp [V.lt]) (by simp [FL, h]) (by simp [hdS, frs, retV_one, up])
 cases o with
 | none =>
  simp -implicitDefEqProofs only [pkA, ptA, ↓reduceIte, Nat.reduceEqDiff, Nat.reduceAdd, Nat.reduceBEq, Nat.reduceMul, Nat.reduceLT, Nat.reduceLeDiff, pkE, bk0 (Y.len _), pkN, onlyC]
  refine yes rfl _ _ ?_
  simp -implicitDefEqProofs only [pkA, ↓reduceIte, bk0 (Y.len _)]
  exact fin _ _ _ (Y.step s x).2 rfl (by simp []) (by rw [emL_yes rfl, runS_one])
 | some f =>
  simp -implicitDefEqProofs only [pkA, ptA, ↓reduceIte, Nat.reduceEqDiff, Nat.reduceAdd, Nat.reduceBEq, Nat.reduceMul, Nat.reduceLT, pkE, bk0 (Y.len _), pkN, onlyC]
  refine call_fn rfl (ContainsF_ok x.pre f hm) (fun _ => rfl) ?_
  simp -implicitDefEqProofs only [pkA, ↓reduceIte, Nat.reduceEqDiff, bk0 (Y.len _)]
  refine vcond_of (fun h => ?_) (fun h => ?_)
  ·have hw : wants (some f) x = false := by simpa [wants] using h
   simp -implicitDefEqProofs only [pkA, ↓reduceIte, Nat.reduceAdd, Nat.reduceBEq, bk0 (Y.len _)]
   rw [← hno hw]
   exact fin _ _ _ true rfl (by simp []) (by rw [emL_no hw, runS_nil])
  ·have hw : wants (some f) x = true := by simpa [wants] using h
   simp -implicitDefEqProofs only [pkA, ptA, ↓reduceIte, Nat.reduceEqDiff, Nat.reduceAdd, Nat.reduceBEq, Nat.reduceMul, Nat.reduceLT, Nat.reduceLeDiff, pkE, bk0 (Y.len _)]
   refine yes hw _ _ ?_
   simp -implicitDefEqProofs only [pkA, ↓reduceIte, bk0 (Y.len _)]
   exact fin _ _ _ (Y.step s x).2 rfl (by simp []) (by rw [emL_yes hw, runS_one])
end Go.Proofs.YthgmobkmmapgoaaGreat
/- The engine of layer 17: flagged, ruled, classes. -/
namespace Go.Proofs.YthgmobkmmapgoaaGreat
open Go Go.Vl
variable {G : Gl}
set_option maxRecDepth 4000
structure Do1 (G : Gl) {σ : Type} (Y : Ys σ) (ls : List (List V)) (f : V) (R : Nat → Prop) (D : Nat → List In) where
 g : FuncId
 caps : List V
 eq : f = .clo (.func g) [] caps
 lt : ∀ x ∈ caps, x.ltP (kx Y.k ls.length)
 fz : caps.map V.fz = caps
 ok : ∀ s t, R t → Fut G Y s (D t) → FnB Tryz.prog G g (i64 (t : Int) :: caps) (Y.yb s ++ ls) (bo (runS Y.step s (D t)).2) (Y.yb (runS Y.step s (D t)).1 ++ ls)
theorem callB_env {σ : Type} {Y : Ys σ} {s s' : σ} {g : FuncId} {ls : List (List V)} {f : V} {args all cargs : List V} {n : Nat} {fr : Nat → V} {K : S → V → Prop} {b : Bool} (hc : calleeV f args = some (g, all)) (hf : FnB Tryz.prog G g cargs (Y.yb s ++ ls) (bo b) (Y.yb s' ++ ls)) (hall : all.map V.fz = cargs)
  (hn : ls.length = n) (hK : K ⟨fr, bxs (Y.yb s' ++ ls), kx Y.k n⟩ (bo b)) : vcallB Tryz.prog G ⟨fr, bxs (Y.yb s ++ ls), kx Y.k n⟩ f args K := by
 have := callB_pre (rest := []) (n := n) (fr := fr) (K := K) hc hf hall (Y.len s) (Y.len s') (Y.lt s') (by simpa using hn) (fun _ => rfl) (by simpa using hK)
 simpa using this
theorem env_len {σ : Type} {Y : Ys σ} {s : σ} {ls : List (List V)} : (Y.yb s ++ ls).length = kx Y.k ls.length := by rw [List.length_append, Y.len]; rfl
section
variable {σ : Type} {Y : Ys σ} {s : σ} {ls rest : List (List V)} {m n : Nat} {l : List (Nat × V)} {fr : Nat → V}
theorem envLe (hm : ls.length = m) (hls : ltL (kx Y.k m) ls) (hl : ∀ q ∈ l, q.2.lt (kx Y.k m)) (h1 : FL l fr) : S.Le (kx Y.k m) (hdS l (Y.yb s ++ ls)) ⟨fr, bxs (Y.yb s ++ ls), kx Y.k m⟩ := by
 have := le_E (rest := []) (Y := Y.yb s) (ls := ls) (n := m) (j := m) (Y.len s) (Y.lt s) hm (by simpa using hm) hls hl h1 (Nat.le_refl _)
 simpa using this
theorem envLeR (hm : ls.length = m) (hn : (ls ++ rest).length = n) (hls : ltL (kx Y.k m) ls) (hl : ∀ q ∈ l, q.2.lt (kx Y.k m)) (h1 : FL l fr) : S.Le (kx Y.k m) (hdS l (Y.yb s ++ ls)) ⟨fr, bxs (Y.yb s ++ (ls ++ rest)), kx Y.k n⟩ :=
 le_E (Y := Y.yb s) (j := m) (Y.len s) (Y.lt s) hm hn hls hl h1 (Nat.le_refl _)
theorem envEndR {e : VE} {b : Bool} {t : Nat} (he : isEnd e = true) (hm : ls.length = m) (hn : (ls ++ rest).length = n) (hls : ltL (kx Y.k m) ls) (h : fr t = bo b) : endB Tryz.prog (kx Y.k m) (bo b) (Y.yb s ++ ls) [.tmp t] e ⟨fr, bxs (Y.yb s ++ (ls ++ rest)), kx Y.k n⟩ :=
 end_E [(t, bo b)] he (Y.len s) (Y.lt s) hm hn hls (by simp [V.lt]) (by simp [FL, h]) (by simp [hdS, frs, retV_one, up])
theorem envEnd {e : VE} {b : Bool} {t : Nat} (he : isEnd e = true) (hm : ls.length = m) (hls : ltL (kx Y.k m) ls) (h : fr t = bo b) : endB Tryz.prog (kx Y.k m) (bo b) (Y.yb s ++ ls) [.tmp t] e ⟨fr, bxs (Y.yb s ++ ls), kx Y.k m⟩ := by
 have := envEndR (Y := Y) (s := s) (rest := []) (n := m) he hm (by simpa using hm) hls h
 simpa using this
end
theorem fm_nil {P : Nat × V → Prop} : ∀ q ∈ ([] : List (Nat × V)), P q := fun _ h => by cases h
theorem fm_cons {P : Nat × V → Prop} {a : Nat × V} {l : List (Nat × V)} (h : P a) (h2 : ∀ q ∈ l, P q) : ∀ q ∈ a :: l, P q := fun q hq => by
 rcases List.mem_cons.1 hq with rfl | hq
 ·exact h
 ·exact h2 q hq
def flagT (p : Pol) (o : Option Fa) (flag : Int) (D : Nat → List In) (t : Nat) : List In := if (hasF p t flag && aboutO o [(t : Int)]) = true then D t else []
def flagL (p : Pol) (o : Option Fa) (flag : Int) (D : Nat → List In) (i : Nat) : List In := (List.range' i (p.types.length - i)).flatMap (flagT p o flag D)
theorem flagL_cons {p : Pol} {o : Option Fa} {flag : Int} {D : Nat → List In} {i : Nat} (h : i < p.types.length) : flagL p o flag D i = flagT p o flag D i ++ flagL p o flag D (i + 1) := by
 unfold flagL
 have : p.types.length - i = (p.types.length - (i + 1)) + 1 := by omega
 rw [this, List.range'_succ, List.flatMap_cons]
theorem flagL_end {p : Pol} {o : Option Fa} {flag : Int} {D : Nat → List In} : flagL p o flag D p.types.length = [] := by simp [flagL]
set_option maxHeartbeats 1000000 in
theorem flagged_ok {σ : Type} (Y : Ys σ) (p : Pol) (hp : p.types.length ≤ 9223372036854775806) (o : Option Fa) (flag : Int) (more : List (List V)) (hmore : ltL (kx Y.k (eng p o :: more).length) more) (f : V) (D : Nat → List In) (hD : Do1 G Y (eng p o :: more) f (fun t => t < p.types.length) D) (s : σ)
  (hF : Fut G Y s (flagL p o flag D 0)) :
  FnB Tryz.prog G 100 [.bp (kx Y.k 0) 0, i64 flag, f] (Y.yb s ++ (eng p o :: more)) (bo (runS Y.step s (flagL p o flag D 0)).2) (Y.yb (runS Y.step s (flagL p o flag D 0)).1 ++ (eng p o :: more)) := by
 obtain ⟨g, caps, rfl, hcl, hcf, hok⟩ := hD
 generalize hm : (eng p o :: more).length = m at hmore hcl
 have hm0 : 0 < m := by rw [← hm]; simp
 have hls : ltL (kx Y.k m) (eng p o :: more) := fun b hb x hx => by
  rcases List.mem_cons.1 hb with rfl | hb
  ·exact (eng_lt Y.pos x hx).mono (by simp [kx])
  ·exact hmore b hb x hx
 have hcv : (V.clo (.func g) [] caps).lt (kx Y.k m) := ⟨fun x hx => (by cases hx), hcl⟩
 have hev : (V.bp (kx Y.k 0) 0).lt (kx Y.k m) := by simp only [V.lt, kx_lt]; exact hm0
 refine FnB_byE (k := Y.k) (m := m) (rs := [.tmp 6]) [1000026, 1000031] mixed Tryz.func100 rfl rfl rfl rfl (by kernel_rfl) (by simp) rfl (Y.len s) (Y.len _) (Y.lt s) hm hls (fun x hx => ?_) ?_
 ·simp only [List.mem_cons, List.not_mem_nil, or_false] at hx
  rcases hx with rfl | rfl | rfl
  ·exact hev
  ·trivial
  ·exact hcv
 have hlen : ∀ s, (Y.yb s ++ (eng p o :: more)).length = kx Y.k m := fun s => by rw [env_len, hm]
 have h0 : (0 < m) = True := by simp [hm0]
 simp -implicitDefEqProofs only [pkA, ptA, ↓reduceIte, Nat.reduceEqDiff, Nat.reduceAdd, Nat.reduceBEq, Nat.reduceMul, pkE, bk0 (Y.len _), h0]
 refine run_loop (fun x : Nat × σ => hdS [(0, .bp (kx Y.k 0) 0), (1, i64 flag), (2, .clo (.func g) [] caps), (11, i64 p.types.length), (12, i64 x.1)] (Y.yb x.2 ++ (eng p o :: more))) (fun x => p.types.length - x.1)
  (fun x => x.1 ≤ p.types.length ∧ Fut G Y x.2 (flagL p o flag D x.1) ∧ runS Y.step s (flagL p o flag D 0) = runS Y.step x.2 (flagL p o flag D x.1)) (0, s) ⟨Nat.zero_le _, hF, rfl⟩ ?_ ?_
 ·exact envLe hm hls (fm_cons hev (fm_cons trivial (fm_cons hcv (fm_cons trivial (fm_cons trivial fm_nil))))) (by simp [FL, up_apply])
 rintro ⟨i, s'⟩ ⟨hi, hFi, hri⟩ R hnorm hexit hret
 simp only at hi hFi hri
 simp -implicitDefEqProofs only [pkA, ↓reduceIte, Nat.reduceEqDiff, Nat.reduceAdd, Nat.reduceBEq, bk0 (Y.len _), hlen]
 refine vcond_of (fun hlt => ?_) (fun hge => ?_)
 ·have hlt : i < p.types.length := by simpa using hlt
  rw [flagL_cons hlt] at hFi hri
  have hw := wrap_of (n := (i : Int) + 1) (k := i + 1) (by omega) (by omega)
  have next : ∀ (fr : Nat → V) (s2 : σ), fr 0 = .bp (kx Y.k 0) 0 → fr 1 = i64 flag → fr 2 = .clo (.func g) [] caps → fr 11 = i64 p.types.length → fr 12 = i64 ((i + 1 : Nat) : Int) → Fut G Y s2 (flagL p o flag D (i + 1)) → runS Y.step s (flagL p o flag D 0) = runS Y.step s2 (flagL p o flag D (i + 1)) →
    R .normal ⟨fr, bxs (Y.yb s2 ++ (eng p o :: more)), kx Y.k m⟩ := fun fr s2 h1 h2 h3 h4 h5 h6 h7 =>
   hnorm (i + 1, s2) _ ⟨hlt, h6, h7⟩ (by simp only; omega) (envLe hm hls (fm_cons hev (fm_cons trivial (fm_cons hcv (fm_cons trivial (fm_cons trivial fm_nil))))) (by simp [FL, h1, h2, h3, h4, h5]))
  have skip : flagT p o flag D i = [] → Fut G Y s' (flagL p o flag D (i + 1)) ∧ runS Y.step s (flagL p o flag D 0) = runS Y.step s' (flagL p o flag D (i + 1)) := fun h => by
   rw [h] at hFi hri; exact ⟨hFi, hri⟩
  simp -implicitDefEqProofs only [pkA, ptA, ↓reduceIte, Nat.reduceEqDiff, Nat.reduceAdd, Nat.reduceBEq, Nat.reduceMul, pkE, bk0 (Y.len _), h0]
  refine call_fn rfl (Has_ok p i flag (by omega)) (fun _ => rfl) ?_
  simp -implicitDefEqProofs only [pkA, ↓reduceIte, Nat.reduceBEq, bk0 (Y.len _)]
  refine vgd_of (fun hh => ?_) (fun hh => ?_)
  ·simp -implicitDefEqProofs only [pkA, ptA, ↓reduceIte, Nat.reduceEqDiff, Nat.reduceAdd, Nat.reduceBEq, Nat.reduceMul, Nat.reduceLeDiff, bk0 (Y.len _)]
   refine callB_pre (ls := [eng p o]) (rest := more) rfl (about_ok Y s' p o [(i : Int)] (by simp)) rfl (Y.len _) (Y.len _) (Y.lt _) hm (fun _ => rfl) ?_
   simp -implicitDefEqProofs only [pkA, ↓reduceIte, Nat.reduceEqDiff, Nat.reduceBEq, bk0 (Y.len _)]
   refine vgd_of (fun ha => ?_) (fun ha => ?_)
   ·have hT : flagT p o flag D i = D i := by simp [flagT, hh, ha]
    rw [hT] at hFi hri
    rw [runS_app] at hri
    simp -implicitDefEqProofs only [pkA, ↓reduceIte, Nat.reduceEqDiff, Nat.reduceAdd, Nat.reduceBEq, bk0 (Y.len _)]
    refine callB_env rfl (hok s' i hlt hFi.app.1) (by simp [V.fz, hcf]) hm ?_
    simp -implicitDefEqProofs only [pkA, ↓reduceIte, Nat.reduceEqDiff, bk0 (Y.len _)]
    refine vcond_of (fun hn => ?_) (fun hn => ?_)
    ·have hn : (runS Y.step s' (D i)).2 = false := by simpa using hn
     simp -implicitDefEqProofs only [pkA, ↓reduceIte, Nat.reduceAdd, Nat.reduceBEq, bk0 (Y.len _)]
     refine hret _ ?_
     rw [if_neg (by simp [hn])] at hri
     simp -implicitDefEqProofs only [pkA, bk0 (Y.len _)]
     rw [hri]
     exact envEnd rfl hm hls (by simp [])
    ·have hn : (runS Y.step s' (D i)).2 = true := by simpa using hn
     rw [if_pos hn] at hri
     simp -implicitDefEqProofs only [pkA, ↓reduceIte, Nat.reduceEqDiff, Nat.reduceAdd, Nat.reduceBEq, bk0 (Y.len _)]
     exact next _ _ (by simp [up_apply]) (by simp [up_apply]) (by simp [up_apply]) (by simp [up_apply]) (by simp [hw]) (hFi.app.2 hn) hri
   ·have hT : flagT p o flag D i = [] := by simp [flagT, ha]
    simp -implicitDefEqProofs only [pkA, ↓reduceIte, Nat.reduceEqDiff, Nat.reduceAdd, Nat.reduceBEq, bk0 (Y.len _)]
    exact next _ _ (by simp [up_apply]) (by simp [up_apply]) (by simp [up_apply]) (by simp [up_apply]) (by simp [hw]) (skip hT).1 (skip hT).2
  ·have hT : flagT p o flag D i = [] := by simp [flagT, hh]
   simp -implicitDefEqProofs only [pkA, ↓reduceIte, Nat.reduceEqDiff, Nat.reduceAdd, Nat.reduceBEq, bk0 (Y.len _)]
   exact next _ _ (by simp [up_apply]) (by simp [up_apply]) (by simp [up_apply]) (by simp [up_apply]) (by simp [hw]) (skip hT).1 (skip hT).2
 ·have : i = p.types.length := by simp at hge; omega
  subst this
  rw [flagL_end, runS_nil] at hri
  simp -implicitDefEqProofs only [pkA, bk0 (Y.len _)]
  refine hexit _ _ ?_
  simp -implicitDefEqProofs only [pkA, ↓reduceIte, Nat.reduceAdd, Nat.reduceBEq, bk0 (Y.len _)]
  rw [hri]
  exact envEnd rfl hm hls (by simp [])
