/- The engine of layer 17: classes, ruled. -/
import Derived.Test.YthgmobkmmapgoaaGreatVlE2
set_option linter.unusedSimpArgs false
set_option linter.unusedVariables false
namespace Go.Proofs.YthgmobkmmapgoaaGreat
open Go Go.Vl
variable {G : Gl}
set_option maxRecDepth 4000
def classL (n : Nat) (D : Nat → List In) (v : Nat) : List In := (List.range' v (n + 1 - v)).flatMap D
theorem classL_cons {n : Nat} {D : Nat → List In} {v : Nat} (h : v ≤ n) : classL n D v = D v ++ classL n D (v + 1) := by
 unfold classL
 have : n + 1 - v = (n + 1 - (v + 1)) + 1 := by omega
 rw [this, List.range'_succ, List.flatMap_cons]
theorem classL_end {n : Nat} {D : Nat → List In} {v : Nat} (h : n < v) : classL n D v = [] := by
 have : n + 1 - v = 0 := by omega
 simp [classL, this]
set_option maxHeartbeats 1000000 in
theorem classes_ok {σ : Type} (Y : Ys σ) (p : Pol) (hp : p.types.length ≤ 9223372036854775806) (o : Option Fa) (first : Nat) (hfi : first ≤ 1) (more : List (List V)) (hmore : ltL (kx Y.k (eng p o :: more).length) more) (f : V) (D : Nat → List In) (hD : Do1 G Y (eng p o :: more) f (fun t => first ≤ t ∧ t ≤ p.types.length) D) (s : σ)
  (hF : Fut G Y s (classL p.types.length D first)) :
  FnB Tryz.prog G 107 [.bp (kx Y.k 0) 0, i64 (first : Int), f] (Y.yb s ++ (eng p o :: more)) (bo (runS Y.step s (classL p.types.length D first)).2) (Y.yb (runS Y.step s (classL p.types.length D first)).1 ++ (eng p o :: more)) := by
 obtain ⟨g, caps, rfl, hcl, hcf, hok⟩ := hD
 generalize hm : (eng p o :: more).length = m at hmore hcl
 have hm0 : 0 < m := by rw [← hm]; simp
 have hls : ltL (kx Y.k m) (eng p o :: more) := fun b hb x hx => by
  rcases List.mem_cons.1 hb with rfl | hb
  ·exact (eng_lt Y.pos x hx).mono (by simp [kx])
  ·exact hmore b hb x hx
 have hcv : (V.clo (.func g) [] caps).lt (kx Y.k m) := ⟨fun x hx => (by cases hx), hcl⟩
 have hev : (V.bp (kx Y.k 0) 0).lt (kx Y.k m) := by simp only [V.lt, kx_lt]; exact hm0
 refine FnB_byE (k := Y.k) (m := m) (rs := [.tmp 6]) [1000019] mixed Tryz.func107 rfl rfl rfl rfl (by kernel_rfl) (by simp) rfl (Y.len s) (Y.len _) (Y.lt s) hm hls (fun x hx => ?_) ?_
 ·simp only [List.mem_cons, List.not_mem_nil, or_false] at hx
  rcases hx with rfl | rfl | rfl
  ·exact hev
  ·trivial
  ·exact hcv
 have hlen : ∀ s, (Y.yb s ++ (eng p o :: more)).length = kx Y.k m := fun s => by rw [env_len, hm]
 have h0 : (0 < m) = True := by simp [hm0]
 simp -implicitDefEqProofs only [pkA, ↓reduceIte, Nat.reduceEqDiff, Nat.reduceAdd, Nat.reduceBEq, bk0 (Y.len _)]
 refine run_loop (fun x : Nat × σ => hdS [(0, .bp (kx Y.k 0) 0), (2, .clo (.func g) [] caps), (7, i64 x.1)] (Y.yb x.2 ++ (eng p o :: more))) (fun x => p.types.length + 1 - x.1)
  (fun x => (first ≤ x.1 ∧ x.1 ≤ p.types.length + 1) ∧ Fut G Y x.2 (classL p.types.length D x.1) ∧ runS Y.step s (classL p.types.length D first) = runS Y.step x.2 (classL p.types.length D x.1)) (first, s) ⟨⟨Nat.le_refl _, by omega⟩, hF, rfl⟩ ?_ ?_
 ·exact envLe hm hls (fm_cons hev (fm_cons hcv (fm_cons trivial fm_nil))) (by simp [FL, up_apply])
 rintro ⟨i, s'⟩ ⟨⟨hfl, hi⟩, hFi, hri⟩ R hnorm hexit hret
 simp only at hi hFi hri hfl
 simp -implicitDefEqProofs only [pkA, ptA, ↓reduceIte, Nat.reduceEqDiff, Nat.reduceAdd, Nat.reduceBEq, Nat.reduceMul, pkE, bk0 (Y.len _), h0, hlen]
 refine vcond_of (fun hlt => ?_) (fun hge => ?_)
 ·have hlt : i ≤ p.types.length := by simp at hlt; omega
  rw [classL_cons hlt, runS_app] at hri
  rw [classL_cons hlt] at hFi
  have hw := wrap_of (n := (i : Int) + 1) (k := i + 1) (by omega) (by omega)
  simp -implicitDefEqProofs only [pkA, ↓reduceIte, Nat.reduceEqDiff, Nat.reduceAdd, Nat.reduceBEq, bk0 (Y.len _)]
  refine callB_env rfl (hok s' i ⟨hfl, hlt⟩ hFi.app.1) (by simp [V.fz, hcf]) hm ?_
  simp -implicitDefEqProofs only [pkA, ↓reduceIte, bk0 (Y.len _)]
  refine vcond_of (fun hn => ?_) (fun hn => ?_)
  ·have hn : (runS Y.step s' (D i)).2 = false := by simpa using hn
   simp -implicitDefEqProofs only [pkA, ↓reduceIte, Nat.reduceAdd, Nat.reduceBEq, bk0 (Y.len _)]
   refine hret _ ?_
   rw [if_neg (by simp [hn])] at hri
   simp -implicitDefEqProofs only [pkA, bk0 (Y.len _)]
   rw [hri]
   exact envEnd rfl hm hls (by simp [])
  ·have hn : (runS Y.step s' (D i)).2 = true := by simpa using hn
   rw [if_pos hn] at hri
   simp -implicitDefEqProofs only [pkA, ↓reduceIte, Nat.reduceEqDiff, Nat.reduceAdd, Nat.reduceBEq, bk0 (Y.len _)]
   exact hnorm (i + 1, _) _ ⟨⟨by omega, by omega⟩, hFi.app.2 hn, hri⟩ (by simp only; omega) (envLe hm hls (fm_cons hev (fm_cons hcv (fm_cons trivial fm_nil))) (by simp [FL, up_apply, hw]))
 ·have : p.types.length < i := by simp at hge; omega
  rw [classL_end this, runS_nil] at hri
  simp -implicitDefEqProofs only [pkA, bk0 (Y.len _)]
  refine hexit _ _ ?_
  simp -implicitDefEqProofs only [pkA, ↓reduceIte, Nat.reduceAdd, Nat.reduceBEq, bk0 (Y.len _)]
  rw [hri]
  exact envEnd rfl hm hls (by simp [])
theorem about_call {σ : Type} {Y : Ys σ} {s : σ} {p : Pol} {o : Option Fa} {l : List Int} {rest : List (List V)} {f : V} {args all : List V} {n : Nat} {fr : Nat → V} {K : S → V → Prop} (hc : calleeV f args = some (135, all))
  (hall : all.map V.fz = [.bp (kx Y.k 0) 0, .c (.sl (l.map fun y => [cI y]))]) (hm : l.length ≤ 9223372036854775807) (hn : rest.length + 1 = n) (hK : K ⟨fr, bxs (Y.yb s ++ eng p o :: rest), kx Y.k n⟩ (bo (aboutO o l))) : vcallB Tryz.prog G ⟨fr, bxs (Y.yb s ++ eng p o :: rest), kx Y.k n⟩ f args K :=
 callB_pre (ls := [eng p o]) (rest := rest) hc (about_ok Y s p o l hm) hall (Y.len _) (Y.len _) (Y.lt _) hn (fun _ => rfl) hK
theorem callB_more {σ : Type} {Y : Ys σ} {s s' : σ} {g : FuncId} {E c : List V} {more : List (List V)} {f : V} {args all cargs : List V} {m : Nat} {fr : Nat → V} {K : S → V → Prop} {b : Bool} (hc : calleeV f args = some (g, all)) (hf : FnB Tryz.prog G g cargs (Y.yb s ++ (E :: more)) (bo b) (Y.yb s' ++ (E :: more))) (hall : all.map V.fz = cargs)
  (hn : (E :: more).length = m) (hK : K ⟨fr, bxs (Y.yb s' ++ E :: (more ++ [c])), kx Y.k (m + 1)⟩ (bo b)) : vcallB Tryz.prog G ⟨fr, bxs (Y.yb s ++ E :: (more ++ [c])), kx Y.k (m + 1)⟩ f args K :=
 callB_pre (ls := E :: more) (rest := [c]) hc hf hall (Y.len _) (Y.len _) (Y.lt _) (by rw [List.length_append, hn]; rfl) (fun _ => rfl) hK
structure Do2 (G : Gl) {σ : Type} (Y : Ys σ) (ls : List (List V)) (f : V) (R : Nat → Nat → Prop) (D : Nat → Nat → List In) where
 g : FuncId
 caps : List V
 eq : f = .clo (.func g) [] caps
 lt : ∀ x ∈ caps, x.ltP (kx Y.k ls.length)
 fz : caps.map V.fz = caps
 ok : ∀ s a b, R a b → Fut G Y s (D a b) → FnB Tryz.prog G g (i64 (a : Int) :: i64 (b : Int) :: caps) (Y.yb s ++ ls) (bo (runS Y.step s (D a b)).2) (Y.yb (runS Y.step s (D a b)).1 ++ ls)
theorem vmin_ok {a b : Int} {K : V → Prop} : vmin false [i64 a, i64 b] K = K (i64 (min a b)) := by
 have : (if b < a then b else a) = min a b := by split <;> omega
 rw [← this]; rfl
theorem vmax_ok {a b : Int} {K : V → Prop} : vmin true [i64 a, i64 b] K = K (i64 (max a b)) := by
 have : (if a < b then b else a) = max a b := by split <;> omega
 rw [← this]; rfl
def ruIs (p : Pol) (kind : Int) (r : Ru) : Bool := decide (r.kind = kind) && (decide (0 ≤ min r.a r.b) && decide (max r.a r.b < p.types.length))
def ruleT (p : Pol) (o : Option Fa) (kind : Int) (D : Nat → Nat → List In) (r : Ru) : List In := if (ruIs p kind r && aboutO o [r.a, r.b]) = true then D r.a.toNat r.b.toNat else []
def ruleL (p : Pol) (o : Option Fa) (kind : Int) (D : Nat → Nat → List In) (i : Nat) : List In := (p.rules.drop i).flatMap (ruleT p o kind D)
theorem ruleL_cons {p : Pol} {o : Option Fa} {kind : Int} {D : Nat → Nat → List In} {i : Nat} (h : i < p.rules.length) : ruleL p o kind D i = ruleT p o kind D p.rules[i] ++ ruleL p o kind D (i + 1) := by
 unfold ruleL
 rw [List.drop_eq_getElem_cons h, List.flatMap_cons]
theorem ruleL_end {p : Pol} {o : Option Fa} {kind : Int} {D : Nat → Nat → List In} : ruleL p o kind D p.rules.length = [] := by simp [ruleL]
section
variable {r : Ru} {n k j : Nat} {K : V → Prop}
theorem lru0 : ldB (kx k n) (kx k j) ((ruC r).map .c) 0 K = (j < n ∧ K (i64 r.kind)) := by unfold ldB; rw [kx_lt]; rfl
theorem lru1 : ldB (kx k n) (kx k j) ((ruC r).map .c) 1 K = (j < n ∧ K (i64 r.a)) := by unfold ldB; rw [kx_lt]; rfl
theorem lru2 : ldB (kx k n) (kx k j) ((ruC r).map .c) 2 K = (j < n ∧ K (i64 r.b)) := by unfold ldB; rw [kx_lt]; rfl
theorem mru : isMb ((ruC r).map V.c) = false := rfl
theorem sru {a b c : C} : setV [V.c a, .c b, .c c] 0 ((ruC r).map .c) = (ruC r).map .c := rfl
theorem pkR : type_of% (And.intro @lru0 (And.intro @lru1 (And.intro @lru2 (And.intro @mru (@sru))))) := ⟨@lru0, @lru1, @lru2, @mru, @sru⟩
end
set_option maxHeartbeats 2000000 in
theorem ruled_ok {σ : Type} (Y : Ys σ) (p : Pol) (hp : p.types.length ≤ 9223372036854775806) (hr : p.rules.length ≤ 9223372036854775806) (o : Option Fa) (kind : Int) (more : List (List V)) (hmore : ltL (kx Y.k (eng p o :: more).length) more) (f : V) (D : Nat → Nat → List In) (hD : Do2 G Y (eng p o :: more) f (fun a b => a < p.types.length ∧ b < p.types.length) D) (s : σ)
  (hF : Fut G Y s (ruleL p o kind D 0)) :
  FnB Tryz.prog G 105 [.bp (kx Y.k 0) 0, i64 kind, f] (Y.yb s ++ (eng p o :: more)) (bo (runS Y.step s (ruleL p o kind D 0)).2) (Y.yb (runS Y.step s (ruleL p o kind D 0)).1 ++ (eng p o :: more)) := by
 obtain ⟨g, caps, rfl, hcl, hcf, hok⟩ := hD
 generalize hm : (eng p o :: more).length = m at hmore hcl
 have hm0 : 0 < m := by rw [← hm]; simp
 have hls : ltL (kx Y.k m) (eng p o :: more) := fun b hb x hx => by
  rcases List.mem_cons.1 hb with rfl | hb
  ·exact (eng_lt Y.pos x hx).mono (by simp [kx])
  ·exact hmore b hb x hx
 have hcv : (V.clo (.func g) [] caps).lt (kx Y.k m) := ⟨fun x hx => (by cases hx), hcl⟩
 have hev : (V.bp (kx Y.k 0) 0).lt (kx Y.k m) := by simp only [V.lt, kx_lt]; exact hm0
 refine FnB_byE (k := Y.k) (m := m) (rs := [.tmp 6]) [1000052, 1000060] mixed Tryz.func105 rfl rfl rfl rfl (by kernel_rfl) (by simp) rfl (Y.len s) (Y.len _) (Y.lt s) hm hls (fun x hx => ?_) ?_
 ·simp only [List.mem_cons, List.not_mem_nil, or_false] at hx
  rcases hx with rfl | rfl | rfl
  ·exact hev
  ·trivial
  ·exact hcv
 have hlen : ∀ s, (Y.yb s ++ (eng p o :: more)).length = kx Y.k m := fun s => by rw [env_len, hm]
 have h0 : (0 < m) = True := by simp [hm0]
 have h1 : (0 < m + 1) = True := by simp
 have h2 : (m < m + 1) = True := by simp
 have n1 : ∀ (s : σ) (x : List V), up (bxs (Y.yb s ++ (eng p o :: more))) (kx Y.k m) x = bxs (Y.yb s ++ (eng p o :: (more ++ [x]))) := fun s x => nk_new (Y.len s) hm
 have n2 : ∀ (s : σ) (x : List V), bxs (Y.yb s ++ (eng p o :: (more ++ [x]))) (kx Y.k m) = x := fun s x => bk_new (Y.len s) hm
 have n3 : ∀ (s : σ) (c x : List V), up (bxs (Y.yb s ++ (eng p o :: (more ++ [c])))) (kx Y.k m) x = bxs (Y.yb s ++ (eng p o :: (more ++ [x]))) := fun s c x => uk_new (Y.len s) hm
 simp -implicitDefEqProofs only [pkA, ptA, ↓reduceIte, Nat.reduceEqDiff, Nat.reduceAdd, Nat.reduceBEq, Nat.reduceMul, pkE, bk0 (Y.len _), h0]
 refine run_loop (fun x : Nat × σ => hdS [(0, .bp (kx Y.k 0) 0), (1, i64 kind), (2, .clo (.func g) [] caps), (14, .c (.sl (p.rules.map ruC))), (15, i64 p.rules.length), (16, i64 x.1)] (Y.yb x.2 ++ (eng p o :: more))) (fun x => p.rules.length - x.1)
  (fun x => x.1 ≤ p.rules.length ∧ Fut G Y x.2 (ruleL p o kind D x.1) ∧ runS Y.step s (ruleL p o kind D 0) = runS Y.step x.2 (ruleL p o kind D x.1)) (0, s) ⟨Nat.zero_le _, hF, rfl⟩ ?_ ?_
 ·exact envLe hm hls (fm_cons hev (fm_cons trivial (fm_cons hcv (fm_cons trivial (fm_cons trivial (fm_cons trivial fm_nil)))))) (by simp [FL, up_apply])
 rintro ⟨i, s'⟩ ⟨hi, hFi, hri⟩ R hnorm hexit hret
 simp only at hi hFi hri
 simp -implicitDefEqProofs only [pkA, ↓reduceIte, Nat.reduceEqDiff, Nat.reduceAdd, Nat.reduceBEq, bk0 (Y.len _), hlen]
 refine vcond_of (fun hlt => ?_) (fun hge => ?_)
 ·have hlt : i < p.rules.length := by simpa using hlt
  rw [ruleL_cons hlt] at hFi hri
  have hw := wrap_of (n := (i : Int) + 1) (k := i + 1) (by omega) (by omega)
  have next : ∀ (fr : Nat → V) (s2 : σ) (c : List V), fr 0 = .bp (kx Y.k 0) 0 → fr 1 = i64 kind → fr 2 = .clo (.func g) [] caps → fr 14 = .c (.sl (p.rules.map ruC)) → fr 15 = i64 p.rules.length → fr 16 = i64 ((i + 1 : Nat) : Int) → Fut G Y s2 (ruleL p o kind D (i + 1)) → runS Y.step s (ruleL p o kind D 0) = runS Y.step s2 (ruleL p o kind D (i + 1)) →
    R .normal ⟨fr, bxs (Y.yb s2 ++ (eng p o :: (more ++ [c]))), kx Y.k (m + 1)⟩ := fun fr s2 c h1 h2 h3 h4 h5 h6 h7 h8 =>
   hnorm (i + 1, s2) _ ⟨hlt, h7, h8⟩ (by simp only; omega) (envLeR (rest := [c]) hm (by rw [List.length_append, hm]; rfl) hls (fm_cons hev (fm_cons trivial (fm_cons hcv (fm_cons trivial (fm_cons trivial (fm_cons trivial fm_nil)))))) (by simp [FL, h1, h2, h3, h4, h5, h6]))
  have skip : ruleT p o kind D p.rules[i] = [] → Fut G Y s' (ruleL p o kind D (i + 1)) ∧ runS Y.step s (ruleL p o kind D 0) = runS Y.step s' (ruleL p o kind D (i + 1)) := fun h => by
   rw [h] at hFi hri; exact ⟨hFi, hri⟩
  simp -implicitDefEqProofs only [pkA, ↓reduceIte, Nat.reduceEqDiff, Nat.reduceAdd, Nat.reduceBEq, bk0 (Y.len _)]
  refine ia_of ti_23 rfl ti_55 (by decide) (Int.natCast_nonneg i) (c := ruC p.rules[i]) (by simp [hlt]) rfl ?_
  generalize p.rules[i] = r at *
  have hl3 : ∀ a b c : C, [V.c a, .c b, .c c].length = 3 := fun _ _ _ => rfl
  simp -implicitDefEqProofs only [hl3, pkA, ptA, ↓reduceIte, Nat.reduceEqDiff, Nat.reduceAdd, Nat.reduceBEq, Nat.reduceMul, Nat.reduceLeDiff, pkE, bk0 (Y.len _), bk0r (Y.len _), h2, n1, n2, n3, kx_lt, kx_succ, pkR]
  have no : ruIs p kind r = false → ruleT p o kind D r = [] := fun h => by simp [ruleT, h]
  refine vgd_of (fun hk => ?_) (fun hk => ?_)
  ·simp -implicitDefEqProofs only [vmin_ok, pkA, ptA, ↓reduceIte, Nat.reduceEqDiff, Nat.reduceAdd, Nat.reduceBEq, Nat.reduceMul, pkE, bk0 (Y.len _), h2, n2, kx_lt]
   refine vgd_of (fun hmin => ?_) (fun hmin => ?_)
   ·simp -implicitDefEqProofs only [vmax_ok, pkA, ptA, ↓reduceIte, Nat.reduceEqDiff, Nat.reduceAdd, Nat.reduceBEq, Nat.reduceMul, pkE, bk0 (Y.len _), h1, h2, n2, kx_lt]
    have his : ruIs p kind r = decide (max r.a r.b < (p.types.length : Int)) := by simp [ruIs, hk, hmin]
    refine vgd_of (fun hmax => ?_) (fun hmax => ?_)
    ·have his : ruIs p kind r = true := by rw [his]; exact hmax
     simp -implicitDefEqProofs only [pkA, ptA, ↓reduceIte, Nat.reduceEqDiff, Nat.reduceAdd, Nat.reduceBEq, Nat.reduceMul, Nat.reduceLT, Nat.reduceLeDiff, pkE, bk0 (Y.len _), h2, n2, kx_lt]
     refine about_call (l := [r.a, r.b]) rfl rfl (by simp) (by simp at hm ⊢; omega) ?_
     simp -implicitDefEqProofs only [pkA, ↓reduceIte, Nat.reduceEqDiff, Nat.reduceBEq, bk0 (Y.len _)]
     refine vgd_of (fun ha => ?_) (fun ha => ?_)
     ·have hT : ruleT p o kind D r = D r.a.toNat r.b.toNat := by simp [ruleT, his, ha]
      rw [hT] at hFi hri
      rw [runS_app] at hri
      have hlo : 0 ≤ min r.a r.b := by simpa using hmin
      have hhi : max r.a r.b < (p.types.length : Int) := by simpa using hmax
      have ea : ((r.a.toNat : Nat) : Int) = r.a := by omega
      have eb : ((r.b.toNat : Nat) : Int) = r.b := by omega
      have hc := hok s' r.a.toNat r.b.toNat ⟨by omega, by omega⟩ hFi.app.1
      rw [ea, eb] at hc
      simp -implicitDefEqProofs only [pkA, ptA, ↓reduceIte, Nat.reduceEqDiff, Nat.reduceAdd, Nat.reduceBEq, Nat.reduceMul, pkE, bk0 (Y.len _), h2, n2, kx_lt]
      refine callB_more rfl hc (by simp [V.fz, hcf]) hm ?_
      simp -implicitDefEqProofs only [pkA, ↓reduceIte, Nat.reduceEqDiff, bk0 (Y.len _)]
      refine vcond_of (fun hn => ?_) (fun hn => ?_)
      ·have hn : (runS Y.step s' (D r.a.toNat r.b.toNat)).2 = false := by simpa using hn
       simp -implicitDefEqProofs only [pkA, ↓reduceIte, Nat.reduceAdd, Nat.reduceBEq, bk0 (Y.len _)]
       refine hret _ ?_
       rw [if_neg (by simp [hn])] at hri
       simp -implicitDefEqProofs only [pkA, bk0 (Y.len _)]
       rw [hri]
       exact envEndR (rest := [(ruC r).map .c]) rfl hm (by rw [List.length_append, hm]; rfl) hls (by simp [])
      ·have hn : (runS Y.step s' (D r.a.toNat r.b.toNat)).2 = true := by simpa using hn
       rw [if_pos hn] at hri
       simp -implicitDefEqProofs only [pkA, ↓reduceIte, Nat.reduceEqDiff, Nat.reduceAdd, Nat.reduceBEq, bk0 (Y.len _)]
       exact next _ _ _ (by simp [up_apply]) (by simp [up_apply]) (by simp [up_apply]) (by simp [up_apply]) (by simp [up_apply]) (by simp [hw]) (hFi.app.2 hn) hri
     ·have hT : ruleT p o kind D r = [] := by simp [ruleT, ha]
      simp -implicitDefEqProofs only [pkA, ↓reduceIte, Nat.reduceEqDiff, Nat.reduceAdd, Nat.reduceBEq, bk0 (Y.len _)]
      exact next _ _ _ (by simp [up_apply]) (by simp [up_apply]) (by simp [up_apply]) (by simp [up_apply]) (by simp [up_apply]) (by simp [hw]) (skip hT).1 (skip hT).2
    ·have hT := no (by rw [his]; exact hmax)
     simp -implicitDefEqProofs only [pkA, ↓reduceIte, Nat.reduceEqDiff, Nat.reduceAdd, Nat.reduceBEq, bk0 (Y.len _)]
     exact next _ _ _ (by simp [up_apply]) (by simp [up_apply]) (by simp [up_apply]) (by simp [up_apply]) (by simp [up_apply]) (by simp [hw]) (skip hT).1 (skip hT).2
   ·have hT := no (by simp [ruIs, hmin])
    simp -implicitDefEqProofs only [pkA, ↓reduceIte, Nat.reduceEqDiff, Nat.reduceAdd, Nat.reduceBEq, bk0 (Y.len _)]
    exact next _ _ _ (by simp [up_apply]) (by simp [up_apply]) (by simp [up_apply]) (by simp [up_apply]) (by simp [up_apply]) (by simp [hw]) (skip hT).1 (skip hT).2
  ·have hT := no (by simp [ruIs]; simp at hk; intro h; exact absurd h hk)
   simp -implicitDefEqProofs only [pkA, ↓reduceIte, Nat.reduceEqDiff, Nat.reduceAdd, Nat.reduceBEq, bk0 (Y.len _)]
   exact next _ _ _ (by simp [up_apply]) (by simp [up_apply]) (by simp [up_apply]) (by simp [up_apply]) (by simp [up_apply]) (by simp [hw]) (skip hT).1 (skip hT).2
 ·have : i = p.rules.length := by simp at hge; omega
  subst this
  rw [ruleL_end, runS_nil] at hri
  simp -implicitDefEqProofs only [pkA, bk0 (Y.len _)]
  refine hexit _ _ ?_
  simp -implicitDefEqProofs only [pkA, ↓reduceIte, Nat.reduceAdd, Nat.reduceBEq, bk0 (Y.len _)]
  rw [hri]
  exact envEnd rfl hm hls (by simp [])
end Go.Proofs.YthgmobkmmapgoaaGreat
/- The engine of layer 17: how its closures call emit. -/
namespace Go.Proofs.YthgmobkmmapgoaaGreat
open Go Go.Vl
variable {G : Gl}
set_option maxRecDepth 4000
theorem pkB {σ : Type} (Y : Ys σ) (s : σ) : type_of% (And.intro (@bk0 _ _ (Y.len s)) (And.intro (@bk1 _ _ (Y.len s)) (And.intro (@bk2 _ _ (Y.len s)) (And.intro (@bk3 _ _ (Y.len s)) (And.intro (@bk4 _ _ (Y.len s)) (And.intro (@bk5 _ _ (Y.len s)) (And.intro (@bk6 _ _ (Y.len s)) (And.intro (@bk7 _ _ (Y.len s)) (And.intro (@bk8 _ _ (Y.len s)) (And.intro (@uk0 _ _ (Y.len s)) (And.intro (@uk1 _ _ (Y.len s)) (And.intro (@uk2 _ _ (Y.len s)) (And.intro (@uk3 _ _ (Y.len s)) (And.intro (@uk4 _ _ (Y.len s)) (And.intro (@uk5 _ _ (Y.len s)) (And.intro (@uk6 _ _ (Y.len s)) (And.intro (@uk7 _ _ (Y.len s)) (And.intro (@uk8 _ _ (Y.len s)) (And.intro (@nk0 _ _ (Y.len s)) (And.intro (@nk1 _ _ (Y.len s)) (And.intro (@nk2 _ _ (Y.len s)) (And.intro (@nk3 _ _ (Y.len s)) (And.intro (@nk4 _ _ (Y.len s)) (And.intro (@nk5 _ _ (Y.len s)) (And.intro (@nk6 _ _ (Y.len s)) (And.intro (@nk7 _ _ (Y.len s)) (@nk8 _ _ (Y.len s)))))))))))))))))))))))))))) := And.intro (@bk0 _ _ (Y.len s)) (And.intro (@bk1 _ _ (Y.len s)) (And.intro (@bk2 _ _ (Y.len s)) (And.intro (@bk3 _ _ (Y.len s)) (And.intro (@bk4 _ _ (Y.len s)) (And.intro (@bk5 _ _ (Y.len s)) (And.intro (@bk6 _ _ (Y.len s)) (And.intro (@bk7 _ _ (Y.len s)) (And.intro (@bk8 _ _ (Y.len s)) (And.intro (@uk0 _ _ (Y.len s)) (And.intro (@uk1 _ _ (Y.len s)) (And.intro (@uk2 _ _ (Y.len s)) (And.intro (@uk3 _ _ (Y.len s)) (And.intro (@uk4 _ _ (Y.len s)) (And.intro (@uk5 _ _ (Y.len s)) (And.intro (@uk6 _ _ (Y.len s)) (And.intro (@uk7 _ _ (Y.len s)) (And.intro (@uk8 _ _ (Y.len s)) (And.intro (@nk0 _ _ (Y.len s)) (And.intro (@nk1 _ _ (Y.len s)) (And.intro (@nk2 _ _ (Y.len s)) (And.intro (@nk3 _ _ (Y.len s)) (And.intro (@nk4 _ _ (Y.len s)) (And.intro (@nk5 _ _ (Y.len s)) (And.intro (@nk6 _ _ (Y.len s)) (And.intro (@nk7 _ _ (Y.len s)) (@nk8 _ _ (Y.len s)))))))))))))))))))))))))))
section
variable {σ : Type} {Y : Ys σ} {s : σ} {p : Pol} {o : Option Fa} {x : In} {f : V} {args all : List V} {fr : Nat → V} {K : S → V → Prop}
theorem emitA_call {rest : List (List V)} {n : Nat} (x : In) (hmd : Y.mode = false) (hm : x.pre.length ≤ 9223372036854775807) (hF : Fut G Y s (emL o x)) (hc : calleeV f args = some (102, all))
  (hall : all.map V.fz = [.bp (kx Y.k 0) 0, i64 x.rule, .c (fsC x.pre), .c (fsC x.con)]) (hn : rest.length + 1 = n)
  (hK : K ⟨fr, bxs (Y.yb (runS Y.step s (emL o x)).1 ++ eng p o :: rest), kx Y.k n⟩ (bo (runS Y.step s (emL o x)).2)) : vcallB Tryz.prog G ⟨fr, bxs (Y.yb s ++ eng p o :: rest), kx Y.k n⟩ f args K :=
 callB_pre (ls := [eng p o]) (rest := rest) hc (emitA_ok Y hmd s p o x hm hF) hall (Y.len _) (Y.len _) (Y.lt _) hn (fun _ => rfl) hK
theorem emitB_call {rest : List (List V)} {n : Nat} (j : Nat) (x : In) (hmd : Y.mode = true) (hm : x.pre.length ≤ 9223372036854775807) (hF : Fut G Y s (emL o x)) (hc : calleeV f args = some (102, all))
  (hall : all.map V.fz = [.bp (kx Y.k 0) 0, i64 x.rule, .c (fsC x.pre), .ms (kx Y.k j) 0 x.con.length x.con.length 3]) (hj : bxs (eng p o :: rest) j = (conB x).map .c) (hj0 : j ≠ 0) (hn : j < n)
  (hK : ∀ c' : List C, K ⟨fr, up (bxs (Y.yb (runS Y.step s (emL o x)).1 ++ eng p o :: rest)) (kx Y.k j) (c'.map .c), kx Y.k n⟩ (bo (runS Y.step s (emL o x)).2)) : vcallB Tryz.prog G ⟨fr, bxs (Y.yb s ++ eng p o :: rest), kx Y.k n⟩ f args K := by
 obtain ⟨c', h⟩ := emitB_ok Y hmd s p o x hm hF
 exact callB_two (E := eng p o) (j := j) hc h (fun ρ _ h0 h1 => by simp only [hall, List.map_cons, List.map_nil, V.ren, h0, h1]) (Y.len _) (Y.len _) (Y.lt _) (Y.lt _) (eng_lt Y.pos) rfl hj hj0 hn (fun _ => rfl) (hK c')
end
def evar (k : Nat) : List V := [.bp (kx k 0) 0]
def nvar (n : Nat) : List V := [i64 (n : Int)]
section
variable {k n j : Nat} {K : V → Prop} {t : Nat}
theorem lev : ldB (kx k n) (kx k j) (evar k) 0 K = (j < n ∧ K (.bp (kx k 0) 0)) := by unfold ldB; rw [kx_lt]; rfl
theorem lnv : ldB (kx k n) (kx k j) (nvar t) 0 K = (j < n ∧ K (i64 (t : Int))) := by unfold ldB; rw [kx_lt]; rfl
theorem mev : isMb (evar k) = false := rfl
theorem mnv : isMb (nvar t) = false := rfl
theorem fev : [V.bp (kx k 0) 0] = evar k := rfl
theorem fnv : [V.c (.lit (.int .i64 (t : Int)))] = nvar t := rfl
theorem evar_lt {m : Nat} (h : 0 < m) : ∀ x ∈ evar k, x.lt (kx k m) := fun x hx => by
 simp only [evar, List.mem_singleton] at hx; subst hx; simp only [V.lt, kx_lt]; exact h
theorem nvar_lt {m : Nat} : ∀ x ∈ nvar t, x.lt m := fun x hx => by
 simp only [nvar, List.mem_singleton] at hx; subst hx; trivial
end
theorem pkV : type_of% (And.intro @lev (And.intro @lnv (And.intro @mev (@mnv)))) := ⟨@lev, @lnv, @mev, @mnv⟩
theorem lt_nil {m : Nat} : ltL m [] := fun _ h => by cases h
theorem lt_cons {m : Nat} {b : List V} {l : List (List V)} (h : ∀ x ∈ b, x.lt m) (h2 : ltL m l) : ltL m (b :: l) := fun c hc x hx => by
 rcases List.mem_cons.1 hc with rfl | hc
 ·exact h x hx
 ·exact h2 c hc x hx
theorem eng_ltm {p : Pol} {o : Option Fa} {k m : Nat} (hk : 0 < k) : ∀ x ∈ eng p o, x.lt (kx k m) := fun x hx => (eng_lt hk x hx).mono (by simp [kx])
theorem va_nil {m : Nat} : ∀ x ∈ ([] : List V), x.lt m := fun _ h => by cases h
theorem va_cons {m : Nat} {a : V} {l : List V} (h : a.lt m) (h2 : ∀ x ∈ l, x.lt m) : ∀ x ∈ a :: l, x.lt m := fun q hq => by
 rcases List.mem_cons.1 hq with rfl | hq
 ·exact h
 ·exact h2 q hq
theorem bp_lt {k i j m : Nat} (h : i < m) : (V.bp (kx k i) j).lt (kx k m) := by simp only [V.lt, kx_lt]; exact h
