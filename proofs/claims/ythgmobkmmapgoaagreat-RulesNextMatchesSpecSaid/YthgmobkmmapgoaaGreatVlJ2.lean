/- Layer 17: Next: the caller of Instances that collects what follows. -/
import Derived.Test.YthgmobkmmapgoaaGreatVlI3
import Derived.Test.YthgmobkmmapgoaaGreatVlG1
set_option linter.unusedSimpArgs false
set_option linter.unusedVariables false
namespace Go.Proofs.YthgmobkmmapgoaaGreat
open Go Go.Vl
variable {G : Gl}
set_option maxRecDepth 4000
def flN : List (Nat × V) := [(5, .bp 1 0), (6, .bp 2 0)]
def flNc : List (Nat × V) := [(5, .bp 3 0), (6, .bp 4 0)]
def ybN (n : Nat) (ps : Array Tmp) (ca cb : Code) (S : List Fa) (s : List Fa) : List (List V) := [[.lp (lp0 n ps ca cb) flN], [.bp 4 0], [owF s], mseq faC S, [.mr 3]]
def folX (S : List Fa) (x : In) : List Fa := if (x.pre.all fun f => decide (f ∈ S)) = true then keepL S x.con else []
def stepN (S : List Fa) (s : List Fa) (x : In) : List Fa × Bool := (s ++ folX S x, true)
def Yn (n : Nat) (ps : Array Tmp) (ca cb : Code) (S : List Fa) : Ys (List Fa) where
 yb := ybN n ps ca cb S
 k := 5
 pos := by decide
 len := fun _ => rfl
 lt := fun s b hb x hx => by
  simp only [ybN, List.mem_cons, List.not_mem_nil, or_false] at hb
  rcases hb with rfl | rfl | rfl | rfl | rfl
  ·simp only [List.mem_singleton] at hx; subst hx
   intro p hp
   simp only [flN, List.mem_cons, List.not_mem_nil, or_false] at hp
   rcases hp with rfl | rfl <;> simp [V.ltP]
  ·simp only [List.mem_singleton] at hx; subst hx; simp [V.lt]
  ·simp only [List.mem_singleton] at hx; subst hx; trivial
  ·have h := List.all_eq_true.1 (mseq_ltB (c := faC) (m := 5) (l := S)) x hx
   exact V.ltB_ok h
  ·simp only [List.mem_singleton] at hx; subst hx; simp [V.lt]
 step := stepN S
 mode := true
def small2 (m : List In) : Prop := ∀ x ∈ m, x.pre.length ≤ 2 ∧ x.con.length ≤ 2
theorem folX_len {S : List Fa} {x : In} : (folX S x).length ≤ x.con.length := by
 unfold folX; split
 ·exact List.length_filter_le _ _
 ·simp
theorem futN {n : Nat} {ps : Array Tmp} {ca cb : Code} {S : List Fa} (h : ∀ l x, l.length ≤ 100000 → x.pre.length ≤ 2 → x.con.length ≤ 2 → (Yn n ps ca cb S).ok G l x) : ∀ (m l : List In) (s : List Fa), m = l → s.length + 2 * m.length ≤ 100000 → small2 m → Fut G (Yn n ps ca cb S) s m
 | [], _, _, _, _, _ => trivial
 | x :: m, _, s, _, hl, h2 => by
  obtain ⟨hx1, hx2⟩ := h2 x (List.mem_cons_self ..)
  have hf := @folX_len S x
  refine ⟨h s x (by omega) hx1 hx2, fun _ => ?_⟩
  change Fut G (Yn n ps ca cb S) (s ++ folX S x) m
  refine futN h m m _ rfl ?_ fun y hy => h2 y (List.mem_cons_of_mem _ hy)
  simp only [List.length_append, List.length_cons] at *; omega
def nextL (S : List Fa) (m : List In) : List Fa := m.flatMap (folX S)
theorem runN {S : List Fa} : ∀ (m : List In) (s : List Fa), runS (stepN S) s m = (s ++ nextL S m, true)
 | [], s => by simp [runS, nextL]
 | x :: m, s => by
  simp only [runS, stepN, if_true]
  rw [runN m]
  simp [nextL]
theorem nextL_len {S : List Fa} {m : List In} (h : small2 m) : (nextL S m).length ≤ 2 * m.length := by
 induction m with
 | nil => simp [nextL]
 | cons x m ih =>
  have hf := @folX_len S x
  have hx := (h x (List.mem_cons_self ..)).2
  have := ih fun y hy => h y (List.mem_cons_of_mem _ hy)
  simp only [nextL, List.flatMap_cons, List.length_append, List.length_cons] at *
  omega
theorem instN {p : Pol} {S : List Fa} (hp : p.types.length ≤ 9223372036854775806) (hr : p.rules.length ≤ 9223372036854775806) (hl : (allL p none).length ≤ 20000) (h2 : small2 (allL p none)) {n : Nat} {ps : Array Tmp} {ca cb : Code} (hok : ∀ l x, l.length ≤ 100000 → x.pre.length ≤ 2 → x.con.length ≤ 2 → (Yn n ps ca cb S).ok G l x) :
  FnB Tryz.prog G 53 [.yl 0, .c (.rp (poC p) 0)] (ybN n ps ca cb S []) (.tup []) (ybN n ps ca cb S (nextL S (allL p none))) := by
 have hI := Inst_ok (G := G) (Yn n ps ca cb S) p hp hr [] (futN hok _ _ [] rfl (by rw [List.length_nil, Nat.zero_add]; omega) h2)
 have e : runS (Yn n ps ca cb S).step [] (allL p none) = (nextL S (allL p none), true) := by
  have := runN (S := S) (allL p none) []
  rw [List.nil_append] at this
  exact this
 rw [e] at hI
 exact hI
theorem vrgN {p : Pol} {S : List Fa} (hp : p.types.length ≤ 9223372036854775806) (hr : p.rules.length ≤ 9223372036854775806) (hl : (allL p none).length ≤ 20000) (hs2 : small2 (allL p none)) {tr : List Nat} {n t : Nat} {ps : Array Tmp} {ca cb : Code} {Q : VE → Vl.S → Prop} {fr : Nat → V} {bx : Nat → List V}
  (hrg : isRg tr = true) (hn : rgN tr = n) (hf : fr t = instV p) (h5 : fr 5 = .bp 3 0) (h6 : fr 6 = .bp 4 0) (b1 : bx 1 = mseq faC S) (b2 : bx 2 = [.mr 1]) (b3 : bx 3 = [.bp 2 0]) (b4 : bx 4 = [.ow none []])
  (hok : ∀ l x, l.length ≤ 100000 → x.pre.length ≤ 2 → x.con.length ≤ 2 → (Yn n ps ca cb S).ok G l x)
  (hQ : ∀ bx' : Nat → List V, bx' 4 = [owF (nextL S (allL p none))] → Q .normal ⟨fr, bx', 6⟩) : vrg Tryz.prog G tr (.tmp t) ps ca cb Q ⟨fr, bx, 5⟩ := by
 subst hn
 have hI := instN (G := G) (S := S) hp hr hl hs2 hok
 have setren : ∀ (ρ : Nat → Nat) (m : List Fa), (mseq faC m).map (V.ren ρ) = mseq faC m := fun ρ m => mseq_ren
 generalize allL p none = L at hI hQ hl hs2
 refine ⟨hrg, flNc, fun q hq => ?_, ⟨_, _, by simp only [ev, hf]; rfl⟩, ?_⟩
 ·simp only [flNc, List.mem_cons, List.not_mem_nil, or_false] at hq
  rcases hq with rfl | rfl <;> simp [h5, h6, V.fz, V.isKR]
 ·unfold vcallB vcallE
  simp only [ev, hf]
  refine ⟨[5, 3, 4, 1, 2], _, _, _, _, hI, rfl, ⟨rfl, by decide⟩, ?_, ?_⟩
  ·refine ⟨⟨by decide, ?_⟩, ⟨by decide, ?_⟩, ⟨by decide, ?_⟩, ⟨by decide, ?_⟩, ⟨by decide, ?_⟩, trivial⟩
   ·simp [rho, up, flN, flNc, V.ren, V.renP]
   ·simp [rho, up, b3, V.ren]
   ·simp [rho, up, b4, V.ren, owF]
   ·simp [rho, up, b1, setren]
   ·simp [rho, up, b2, V.ren]
  ·have e5 : setBx (rho [5, 3, 4, 1, 2] 6) 0 (ybN (rgN tr) ps ca cb S (nextL S L)) (up bx 5 [.lp (lp0 (rgN tr) ps ca cb) flNc]) 5 = [.lp (lp0 (rgN tr) ps ca cb) flNc] := by
    simp [ybN, setBx, rho, up, flN, flNc, V.ren, V.renP]
   show vrgK Q 5 ⟨fr, setBx (rho [5, 3, 4, 1, 2] 6) 0 (ybN (rgN tr) ps ca cb S (nextL S L)) (up bx 5 [.lp (lp0 (rgN tr) ps ca cb) flNc]), 6⟩
   unfold vrgK
   simp only [e5]
   refine ⟨by simp [lp0], by decide, ?_⟩
   show Q .normal ⟨fr, up _ 5 _, 6⟩
   refine hQ _ ?_
   simp [ybN, setBx, rho, up, V.ren, owF]
end Go.Proofs.YthgmobkmmapgoaaGreat
/- Layer 17: Next. -/
namespace Go.Proofs.YthgmobkmmapgoaaGreat
open Go Go.Vl
variable {G : Gl}
set_option maxRecDepth 4000
def nextF (p : Pol) (l : List Fa) : List Fa := sortedF (nextL (newL l) (allL p none))
theorem all_call {S fs : List Fa} {a b nb : Nat} {fr : Nat → V} {bx : Nat → List V} {K : Vl.S → V → Prop} (hm : fs.length ≤ 1000000000) (ha : a < nb) (hb : b < nb) (hab : a ≠ b) (h0 : bx a = mseq faC S) (h1 : bx b = [.mr a])
  (hK : ∀ bx' : Nat → List V, (∀ j, j ≠ a → j ≠ b → bx' j = bx j) → bx' a = mseq faC S → bx' b = [.mr a] → K ⟨fr, bx', nb⟩ (bo (fs.all fun f => decide (f ∈ S)))) : vcallB Tryz.prog G ⟨fr, bx, nb⟩ (.c (.fn (.func 59) [] [])) [.bp b 0, .c (fsC fs)] K := by
 have setren : ∀ (ρ : Nat → Nat) (m : List Fa), (mseq faC m).map (V.ren ρ) = mseq faC m := fun ρ m => mseq_ren
 refine callB_sel [a, b] rfl (setall_ok S fs hm) (by simp [V.fz, V.ren, rho]) rfl (by simp [hab]) rfl ⟨⟨by simp [rho, ha], by simp [h0, setren, rho]⟩, ⟨by simp [rho, hb], by simp [h1, rho, V.ren]⟩, trivial⟩ ?_
 intro bx' hoth hat
 refine hK bx' (fun j hj0 hj1 => hoth j (by simp [hj0, hj1])) ?_ ?_
 ·rw [← setren]; exact hat 0 a _ rfl rfl
 ·have := hat 1 b _ rfl rfl
  simpa [rho, V.ren] using this
theorem delete_call {S con : List Fa} {a b c nb n : Nat} {fr : Nat → V} {bx : Nat → List V} {K : Vl.S → V → Prop} (hm : con.length ≤ 1000000000) (ha : a < nb) (hb : b < nb) (hc : c < nb) (hab : a ≠ b ∧ a ≠ c ∧ b ≠ c) (hn : n = con.length) (h0 : bx a = mseq faC S) (h1 : bx b = [.mr a]) (h2 : bx c = flb faC con)
  (hK : ∀ bx' : Nat → List V, (∀ j, j ≠ a → j ≠ b → j ≠ c → bx' j = bx j) → bx' a = mseq faC S → bx' b = [.mr a] → bx' c = flb faC (keepL S con ++ List.replicate (con.length - (keepL S con).length) zf) → K ⟨fr, bx', nb⟩ (.ms c 0 (keepL S con).length n 3)) :
  vcallB Tryz.prog G ⟨fr, bx, nb⟩ (.c (.fn (.func 60) [] [])) [.ms c 0 n n 3, .clo (.func 35) [.bp b 0] []] K := by
 subst hn
 have setren : ∀ (ρ : Nat → Nat) (m : List Fa), (mseq faC m).map (V.ren ρ) = mseq faC m := fun ρ m => mseq_ren
 obtain ⟨q1, q2, q3⟩ := hab
 refine callB_sel [a, b, c] rfl (DeleteHas_ok S con hm) (by simp [V.fz, V.ren, V.renP, rho, hasM]) rfl (by simp [q1, q2, q3]) rfl ⟨⟨by simp [rho, ha], by simp [h0, setren, rho]⟩, ⟨by simp [rho, hb], by simp [h1, rho, V.ren]⟩, ⟨by simp [rho, hc], by simp only [flb_ren]; simp [h2, rho]⟩, trivial⟩ ?_
 intro bx' hoth hat
 refine hK bx' (fun j hj0 hj1 hj2 => hoth j (by simp [hj0, hj1, hj2])) ?_ ?_ ?_
 ·rw [← setren]; exact hat 0 a _ rfl rfl
 ·have := hat 1 b _ rfl rfl
  simpa [rho, V.ren] using this
 ·have := hat 2 c _ rfl rfl
  rwa [flb_ren] at this
theorem imm_owF {s : Vl.S} {m : List Fa} : imm s (owF m).ldv = some (.c (fsC m)) := by
 cases m <;> rfl
theorem boxy_owF {m : List Fa} : (owF m).ldv.boxy = false := by
 cases m <;> rfl
theorem ltN {n : Nat} {ps : Array Tmp} {ca cb : Code} {S o : List Fa} {c : List C} : ltL 6 (ybN n ps ca cb S o ++ [c.map .c]) := by
 intro b hb x hx
 rcases List.mem_append.1 hb with h | h
 ·exact ((Yn n ps ca cb S).lt o b h x hx).mono (show 5 ≤ 6 by decide)
 ·simp only [List.mem_singleton] at h; subst h
  obtain ⟨y, _, rfl⟩ := List.mem_map.1 hx
  trivial
def delX (S : List Fa) (x : In) : List Fa := if (x.pre.all fun f => decide (f ∈ S)) = true then keepL S x.con ++ List.replicate (x.con.length - (keepL S x.con).length) zf else x.con
theorem Yn_ok {n : Nat} {ps : Array Tmp} {ca cb : Code} {S o : List Fa} {x : In} : (Yn n ps ca cb S).ok G o x = ∃ c' : List C, YB Tryz.prog G [.mag [i64 x.rule, .c (fsC x.pre), .ms 5 0 x.con.length x.con.length 3]] (ybN n ps ca cb S o ++ [flb faC x.con]) (bo true) (ybN n ps ca cb S (o ++ folX S x) ++ [c'.map .c]) := if_pos rfl
set_option maxHeartbeats 4000000 in
theorem Next_ok (p : Pol) (l : List Fa) (hp : p.types.length ≤ 9223372036854775806) (hr : p.rules.length ≤ 9223372036854775806) (hl : (allL p none).length ≤ 20000) (hs2 : small2 (allL p none)) (hll : l.length ≤ 1000000) :
  FnOK Tryz.prog G 27 [.agg (poC p), .c (fsC l)] (.c (fsC (nextF p l))) := by
 refine FnOK_by (rs := [.tmp 4]) false [1200000, 1300026, 1000009] mixed Tryz.func27 rfl rfl rfl rfl (by kernel_rfl) (by simp) rfl rfl ?_
 have setren : ∀ (ρ : Nat → Nat) (m : List Fa), (mseq faC m).map (V.ren ρ) = mseq faC m := fun ρ m => mseq_ren
 simp -implicitDefEqProofs only [pkA, ↓reduceIte, Nat.reduceEqDiff, Nat.reduceAdd, Nat.reduceBEq]
 refine callB_new rfl (New_okS l (by omega)) rfl ?_
 simp -implicitDefEqProofs only [pkA, ptA, ↓reduceIte, Nat.reduceEqDiff, Nat.reduceAdd, Nat.reduceBEq, Nat.reduceMul, Nat.reduceLT, Nat.reduceLeDiff, pkT, V.ren, setB_eq, setBx, setren]
 refine call_fn rfl (Instances_ok p) (fun h => by cases h) ?_
 simp -implicitDefEqProofs only [pkA, run_range]
 refine vrgN (n := 26) (S := newL l) hp hr hl hs2 rfl rfl rfl rfl rfl (by simp [up_apply]) (by simp [up_apply]) (by simp [up_apply]) (by simp []) ?_ ?_
 ·intro o x hlx hx1 hx2
  rw [Yn_ok]
  refine ⟨((delX (newL l) x).map faC).flatten, ?_⟩
  refine YB_of (L := lp0 26 #[12] _ _) (fl := flN) (bs := [[.bp 4 0], [owF o], mseq faC (newL l), [.mr 3], flb faC x.con]) [2300006, 2400023, 1000016, 1000022, 200017, 301702, 400022, 502203, 502204, 502205] mixed rfl rfl ?_ ?_ ?_ ?_ ?_
  ·intro q hq; simp [lp0] at hq; subst hq; decide
  ·kernel_rfl
  ·kernel_rfl
  ·refine ⟨fun y hy => ?_, ltN (o := o) (c := (x.con.map faC).flatten), Nat.le_refl _⟩
   simp only [List.mem_singleton] at hy; subst hy
   intro z hz
   simp only [List.mem_cons, List.not_mem_nil, or_false] at hz
   rcases hz with rfl | rfl | rfl
   ·trivial
   ·trivial
   ·show 5 < 6; decide
  ·simp -implicitDefEqProofs only [pkA, ptA, ↓reduceIte, Nat.reduceEqDiff, Nat.reduceAdd, Nat.reduceBEq, Nat.reduceMul, Nat.reduceLT, Nat.reduceLeDiff, frY, flN, lp0, List.zip_cons_cons, List.zip_nil_right, List.foldl_cons, List.foldl_nil]
   have hx0 : ∀ a b c : V, setV [a, b, c] 0 [i64 x.rule, .c (fsC x.pre), .ms 5 0 x.con.length x.con.length 3] = [i64 x.rule, .c (fsC x.pre), .ms 5 0 x.con.length x.con.length 3] := fun _ _ _ => rfl
   have g1 : ∀ nb q (K : V → Prop), ldB nb q [i64 x.rule, .c (fsC x.pre), .ms 5 0 x.con.length x.con.length 3] 1 K = (q < nb ∧ K (.c (fsC x.pre))) := fun _ _ _ => rfl
   have g2 : ∀ nb q (K : V → Prop), ldB nb q [i64 x.rule, .c (fsC x.pre), .ms 5 0 x.con.length x.con.length 3] 2 K = (q < nb ∧ K (.ms 5 0 x.con.length x.con.length 3)) := fun _ _ _ => rfl
   have gm : isMb [i64 x.rule, .c (fsC x.pre), .ms 5 0 x.con.length x.con.length 3] = false := rfl
   simp -implicitDefEqProofs only [pkA, ↓reduceIte, Nat.reduceEqDiff, Nat.reduceAdd, Nat.reduceBEq, hx0, g1, gm]
   refine all_call (S := newL l) (a := 3) (b := 4) (by omega) (show 3 < 7 by decide) (show 4 < 7 by decide) (by decide) (by simp [up_apply, bxs]) (by simp [up_apply, bxs]) (fun bx1 hoth h3 h4 => ?_)
   have h1 : bx1 1 = [.bp 4 0] := by rw [hoth 1 (by decide) (by decide)]; simp [up_apply, bxs]
   have h2 : bx1 2 = [owF o] := by rw [hoth 2 (by decide) (by decide)]; simp [up_apply, bxs]
   have h5 : bx1 5 = flb faC x.con := by rw [hoth 5 (by decide) (by decide)]; simp [up_apply, bxs]
   have h6 : bx1 6 = [i64 x.rule, .c (fsC x.pre), .ms 5 0 x.con.length x.con.length 3] := by rw [hoth 6 (by decide) (by decide)]; simp [up_apply]
   have h0 := hoth 0 (by decide) (by decide)
   simp only [up_same, up_ne _ _ (show (0 : Nat) ≠ 6 by decide)] at h0
   simp -implicitDefEqProofs only [pkA, ↓reduceIte]
   refine vcond_of (fun hy => ?_) (fun hn => ?_)
   ·have hfx : folX (newL l) x = keepL (newL l) x.con := by unfold folX; rw [if_pos hy]
    have hdx : delX (newL l) x = keepL (newL l) x.con ++ List.replicate (x.con.length - (keepL (newL l) x.con).length) zf := by unfold delX; rw [if_pos hy]
    simp -implicitDefEqProofs only [pkA, ↓reduceIte, Nat.reduceAdd, Nat.reduceBEq]
    refine spl_of 2 0 23 (E := if o.isEmpty then none else some (29, 3)) (es := o.map faC) rfl (show 2 < 7 by decide) (by show (bx1 2)[0]? = _; rw [h2]; rfl) rfl ?_
    intro v
    simp -implicitDefEqProofs only [g2, gm, true_and, pkA, ptA, ↓reduceIte, Nat.reduceEqDiff, Nat.reduceAdd, Nat.reduceBEq, Nat.reduceMul, Nat.reduceLT, S.split, h1, h2, h6]
    refine ⟨rfl, delete_call (S := newL l) (con := x.con) (a := 3) (b := 4) (c := 5) (by omega) (show 3 < 7 by decide) (show 4 < 7 by decide) (show 5 < 7 by decide) (by decide) rfl (by simp [up_apply, h3]) (by simp [up_apply, h4]) (by simp [up_apply, h5]) (fun bx2 hoth2 k3 k4 k5 => ?_)⟩
    have k0 : bx2 0 = bx1 0 := by rw [hoth2 0 (by decide) (by decide) (by decide)]; simp [up_apply]
    have k1 : bx2 1 = [.bp 4 0] := by rw [hoth2 1 (by decide) (by decide) (by decide)]; simp [up_apply, h1]
    have k2 : bx2 2 = [.c (.ex v)] := by rw [hoth2 2 (by decide) (by decide) (by decide)]; simp []
    refine ⟨⟨rfl, fun b => ?_⟩, ?_⟩
    ·by_cases q3 : b = 3
     ·subst q3; exact .inr ⟨by decide, rfl⟩
     by_cases q4 : b = 4
     ·subst q4; exact .inr ⟨by decide, rfl⟩
     by_cases q5 : b = 5
     ·subst q5; exact .inr ⟨by decide, rfl⟩
     exact .inl (hoth2 b q3 q4 q5)
    have hkl : (keepL (newL l) x.con).length ≤ x.con.length := List.length_filter_le _ _
    have hv := fun fr => view_flbT (fr := fr) (bx := bx2) (nb := 7) (b := 5) (a := 0) (n := (keepL (newL l) x.con).length) (o := 0) faC_len (show 5 < 7 by decide) k5 rfl (by simp)
    simp only [List.drop_zero, List.take_left] at hv
    simp -implicitDefEqProofs only [pkA, ↓reduceIte, Nat.reduceAdd, Nat.reduceBEq, isGh_some]
    refine gh_app (v := v) (E := if o.isEmpty then none else some (29, 3)) (es := o.map faC) rfl rfl (by decide) ?_
    have hvv : ∀ fr, vw ⟨fr, bx2, 7⟩ (.ms 5 0 (keepL (newL l) x.con).length x.con.length 3) = .c (.sl ((keepL (newL l) x.con).map faC)) := fun fr => by simp only [vw, hv]
    simp -implicitDefEqProofs only [pkA, ↓reduceIte, hvv]
    refine appF (l := o) (m := keepL (newL l) x.con) (by omega) ?_
    simp -implicitDefEqProofs only [true_and, pkA, ptA, ↓reduceIte, Nat.reduceEqDiff, Nat.reduceAdd, Nat.reduceBEq, Nat.reduceMul, Nat.reduceLT, Nat.reduceLeDiff, k2, owF]
    refine ⟨rfl, _, _, ⟨show up bx2 2 [owF (o ++ keepL (newL l) x.con)] 0 = _ from (up_ne _ _ (show (0 : Nat) ≠ 2 by decide)).trans (k0.trans h0), show 0 < 7 by decide⟩, [], ?_⟩
    refine le_hdP (fun _ h => by cases h) ltN (Nat.le_refl _) (show 6 ≤ 7 by decide) trivial ?_
    intro i hi
    match i, hi with
    | 0, _ => simp [ybN, up, bxs, yjump, lp0, flN]
    | 1, _ => simp [ybN, up, bxs, k1]
    | 2, _ => simp [ybN, up, bxs, owF, hfx]
    | 3, _ => simp [ybN, up, bxs, k3]
    | 4, _ => simp [ybN, up, bxs, k4]
    | 5, _ => simp [ybN, up, bxs, k5, flb, hdx]
   ·have hfx : folX (newL l) x = [] := by unfold folX; rw [if_neg (by simpa using hn)]
    have hdx : delX (newL l) x = x.con := by unfold delX; rw [if_neg (by simpa using hn)]
    simp -implicitDefEqProofs only [pkA]
    refine ⟨rfl, _, _, ⟨h0, show 0 < 7 by decide⟩, [], ?_⟩
    refine le_hdP (fun _ h => by cases h) ltN (Nat.le_refl _) (show 6 ≤ 7 by decide) trivial ?_
    intro i hi
    match i, hi with
    | 0, _ => simp [ybN, up, bxs, yjump, lp0, flN]
    | 1, _ => simp [ybN, up, bxs, h1]
    | 2, _ => simp [ybN, up, bxs, h2, hfx]
    | 3, _ => simp [ybN, up, bxs, h3]
    | 4, _ => simp [ybN, up, bxs, h4]
    | 5, _ => simp [ybN, up, bxs, h5, flb, hdx]
 ·intro bx' e4
  have hmk : (owF (nextL (newL l) (allL p none))).isMk = false := rfl
  simp -implicitDefEqProofs only [pkA, ptA, ↓reduceIte, Nat.reduceEqDiff, Nat.reduceAdd, Nat.reduceBEq, Nat.reduceMul, Nat.reduceLT, e4, hmk]
  have hnl := nextL_len (S := newL l) hs2
  refine call_fn («as» := [.c (fsC (nextL (newL l) (allL p none)))]) (by simp only [List.mapM_cons, List.mapM_nil, imm_owF]; rfl) (Sorted_ok _ (by omega)) (fun h => by cases h2 : (owF (nextL (newL l) (allL p none))).ldv.boxy <;> simp_all [boxy_owF]) ?_
  simp -implicitDefEqProofs only [pkA, ↓reduceIte]
  rfl
