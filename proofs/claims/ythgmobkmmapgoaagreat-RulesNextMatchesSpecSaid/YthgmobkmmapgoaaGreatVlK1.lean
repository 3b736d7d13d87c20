/- Layer 17: a set's elements in order; Valid. -/
import Derived.Test.YthgmobkmmapgoaaGreatVlJ4
set_option linter.unusedSimpArgs false
set_option linter.unusedVariables false
namespace Go.Proofs.YthgmobkmmapgoaaGreat
open Go Go.Vl
variable {G : Gl}
set_option maxRecDepth 4000
theorem mkS_of {P : Program} {T e : TypeId} {i j : TI} {kd kd' : IntKind} {a b : Int} {n m sz by_ : Nat} {z : List C} {K : Nat → Nat → Nat → List C → Prop} (hT : ti P T = some i) (hk : i.kd = .slice e) (hj : ti P e = some j) (hs : j.size = sz) (hb : j.bytes = by_) (hz : j.zero = some z) (hp : 0 < sz) (hzl : z.length = sz)
  (ha : a = (n : Nat)) (hb' : b = (m : Nat)) (hn : n ≤ m) (hm : (by_ : Int) * m ≤ 281474976710656) (hm2 : m ≤ 9223372036854775807) (hK : K n m sz z) : vmake P T (.c (.lit (.int kd a))) (.c (.lit (.int kd' b))) K := by
 obtain ⟨a1, a2, a3, a4, a5, a6, a7⟩ := i
 obtain ⟨b1, b2, b3, b4, b5, b6, b7⟩ := j
 simp only at hk hs hb hz; subst hk hs hb hz ha hb'
 simp only [vmake, hT, hj, Int.toNat_natCast]
 exact ⟨⟨hp, hzl, by omega, by omega, hm, by omega⟩, hK⟩
theorem range_perm {n : Nat} {l : List Nat} (hnd : l.Nodup) (h1 : ∀ b ∈ l, b < n) (h2 : ∀ b, b < n → b ∈ l) : l.Perm (List.range n) :=
 (List.perm_ext_iff_of_nodup hnd List.nodup_range).2 fun b => ⟨fun h => List.mem_range.2 (h1 b h), fun h => h2 b (List.mem_range.1 h)⟩
def outS (l : List Fa) (seen : List Nat) : List Fa := seen.map fun b => l.getD b zf
theorem outS_len {l : List Fa} {seen : List Nat} : (outS l seen).length = seen.length := List.length_map ..
theorem outS_perm {l : List Fa} {seen : List Nat} (hnd : seen.Nodup) (h1 : ∀ b ∈ seen, b < l.length) (h2 : ∀ b, b < l.length → b ∈ seen) : (outS l seen).Perm l := by
 have e : (List.range l.length).map (fun b => l.getD b zf) = l := by
  apply List.ext_getElem (by simp)
  intro i h3 h4
  simp [List.getD_eq_getElem?_getD, h4]
 conv => rhs; rw [← e]
 exact (range_perm hnd h1 h2).map _
theorem sortF_of_perm {l m : List Fa} (h : l.Perm m) : sortF l = sortF m :=
 sorted_unique (lt := ltF) ((sortF_perm l).trans (h.trans (sortF_perm m).symm)) (fun x _ y _ h1 h2 => ltF_tot h1 h2) (sortF_sorted l) (sortF_sorted m)
theorem nodup_len {l : List Nat} {n : Nat} (hnd : l.Nodup) (h : ∀ b ∈ l, b < n) : l.length ≤ n := by
 have hp : l.Perm ((List.range n).filter fun b => decide (b ∈ l)) := (List.perm_ext_iff_of_nodup hnd (List.nodup_range.filter _)).2 fun b => by
  simp only [List.mem_filter, List.mem_range, decide_eq_true_eq]
  exact ⟨fun hb => ⟨h b hb, hb⟩, fun hb => hb.2⟩
 rw [hp.length_eq]
 exact Nat.le_trans (List.length_filter_le _ _) (by simp)
set_option maxHeartbeats 4000000 in
theorem List_okS (l : List Fa) (hm : l.length ≤ 1000000) : FnB Tryz.prog G 38 [.bp 1 0] (setB l) (.ms 2 0 l.length l.length 3) (setB l ++ [flb faC (sortF l)]) := by
 refine FnB_by (rs := [.tmp 2]) (k := 2) [3000002, 1600009, 2700023, 1000025, 15] mixed Tryz.func38 rfl rfl rfl rfl (by kernel_rfl) (by simp) rfl rfl rfl (by simp only [xargsOk, setB, List.all_cons, List.all_nil, mseq_ltB, List.length_cons, List.length_nil]; rfl) (by simp [setB]) ?_
 simp -implicitDefEqProofs only [pkA, ptA, ↓reduceIte, Nat.reduceEqDiff, Nat.reduceAdd, Nat.reduceBEq, Nat.reduceMul, Nat.reduceLT, setB_eq]
 refine lenM_of (b := 0) (bs := List.range l.length) (cl := l.length) ti_85 rfl rfl (show 0 < 2 by decide) ?_
 simp -implicitDefEqProofs only [pkA, ↓reduceIte, List.length_range]
 refine mkS_of (n := 0) (m := l.length) (by_ := 24) ti_27 rfl ti_29 rfl rfl rfl (by decide) rfl rfl rfl (Nat.zero_le _) (by omega) (by omega) ?_
 have hz : (List.replicate l.length (faC zf)).flatten.map V.c = flb faC (List.replicate l.length zf) := by unfold flb; rw [List.map_replicate]
 simp -implicitDefEqProofs only [pkA, ptA, ↓reduceIte, Nat.reduceEqDiff, Nat.reduceAdd, Nat.reduceBEq, Nat.reduceMul, Nat.reduceLT]
 refine mseq_range (c := faC) (l := l) ti_85 rfl (by simp [up_apply, bxs]) (show 0 < 3 by decide) ?_
 simp -implicitDefEqProofs only [pkA]
 refine run_loop (fun seen : List Nat => hdS [(3, .ms 2 0 seen.length l.length 3), (15, .it 0 l.length l.length seen)] [mseq faC l, [.mr 0], flb faC (outS l seen ++ List.replicate (l.length - seen.length) zf)])
  (fun seen => leftM (List.range l.length) seen) (fun seen => seen.Nodup ∧ ∀ b ∈ seen, b < l.length) [] ⟨List.nodup_nil, by simp⟩ ?_ ?_
 ·refine le_hd (by simp only [leOk, List.all_cons, List.all_nil, mseq_ltB, flb_ltB, List.length_cons, List.length_nil]; rfl) (Nat.le_succ 2) (Nat.le_refl _) (by simp [FL, up_apply]) ⟨by simp [up_apply, bxs], by simp [up_apply, bxs], (up_same _ _ _).trans hz, trivial⟩
 rintro seen ⟨hnd, hlt⟩ R hnorm hexit hret
 have hsl := nodup_len hnd hlt
 simp -implicitDefEqProofs only [pkA, ↓reduceIte, Nat.reduceEqDiff, Nat.reduceAdd, Nat.reduceBEq]
 refine mseq_next (c := faC) (l := l) rfl (show 0 < 3 by decide) (fun hall => ?_) (fun b hb hn x y => ?_)
 ·simp -implicitDefEqProofs only [pkA, ↓reduceIte]
  refine hexit _ _ ?_
  have hper := outS_perm hnd hlt hall
  have hlen : seen.length = l.length := by rw [← outS_len (l := l)]; exact hper.length_eq
  rw [hlen, Nat.sub_self, List.replicate_zero, List.append_nil]
  simp -implicitDefEqProofs only [pkA, ↓reduceIte, Nat.reduceEqDiff, Nat.reduceAdd, Nat.reduceBEq]
  have hS := Sort_ok (G := G) Compare_cmp (outS l seen) (by rw [outS_len]; omega) l.length (by rw [outS_len, hlen]; exact Nat.le_refl _)
  rw [outS_len, hlen, sortF_of_perm hper] at hS
  refine callB_sel [2] rfl hS (by simp [V.fz, V.ren, rho]) rfl (by decide) rfl ⟨⟨show 2 < 3 by decide, by simp only [flb_ren]; rfl⟩, trivial⟩ ?_
  intro bx' hoth hat
  have h0 : bx' 0 = mseq faC l := by rw [hoth 0 (by decide)]; rfl
  have h1 : bx' 1 = [.mr 0] := by rw [hoth 1 (by decide)]; rfl
  have h2 : bx' 2 = flb faC (sortF l) := by
   have := hat 0 2 _ rfl rfl
   rwa [flb_ren] at this
  simp -implicitDefEqProofs only [pkA, ↓reduceIte, Nat.reduceEqDiff, Nat.reduceAdd, Nat.reduceBEq]
  exact end_B [(2, .ms 2 0 l.length l.length 3)] rfl (by simp only [leOk, List.all_cons, List.all_nil, mseq_ltB, flb_ltB, List.length_cons, List.length_nil]; rfl) (Nat.le_succ 2) (Nat.le_refl _) ⟨by simp [], trivial⟩ ⟨h0, h1, h2, trivial⟩ rfl
 ·simp -implicitDefEqProofs only [pkA, ↓reduceIte, Nat.reduceEqDiff, Nat.reduceAdd, Nat.reduceBEq]
  refine mseq_at (c := faC) (l := l) rfl (show 0 < 3 by decide) hb ?_
  have q1 : ∀ a b c : V, ∀ f : Fa, setV [a, b, c] 0 ((faC f).map .c) = (faC f).map .c := fun _ _ _ _ => rfl
  have hsb : seen.length < l.length := by
   have h3 : (seen ++ [b]).Nodup := by
    rw [List.nodup_append]
    exact ⟨hnd, by simp, fun x hx y hy => by simp at hy; subst hy; rintro rfl; exact hn hx⟩
   have := nodup_len (n := l.length) h3 (fun c hc => by rcases List.mem_append.1 hc with hc | hc; exact hlt c hc; simp at hc; subst hc; exact hb)
   simp at this; omega
  simp -implicitDefEqProofs only [pkA, ptA, ↓reduceIte, Nat.reduceEqDiff, Nat.reduceAdd, Nat.reduceBEq, Nat.reduceMul, Nat.reduceLT, Nat.reduceLeDiff, pkT, q1]
  have hL : (outS l seen ++ List.replicate (l.length - seen.length) zf).length = l.length := by rw [List.length_append, outS_len, List.length_replicate]; omega
  refine room_of ti_27 rfl ti_29 rfl (by decide) (ys := [faC l[b]]) rfl (show 2 < 4 by decide) isMb_flb (by show 0 + l.length * 3 ≤ (flb faC _).length; rw [flb_len faC_len, hL]; omega) (by simp; omega) (by simp [faC]) ?_
  have e0 : outS l (seen ++ [b]) = outS l seen ++ [l[b]] := by unfold outS; simp [hb]
  have hput : setV (flb faC (outS l seen ++ List.replicate (l.length - seen.length) zf)) (seen.length * 3) (flb faC [l[b]]) = flb faC (outS l (seen ++ [b]) ++ List.replicate (l.length - (seen ++ [b]).length) zf) := by
   rw [flb_put faC_len (by rw [hL]; simp; omega), e0]
   congr 1
   rw [List.take_left' outS_len, List.length_singleton, List.length_append, List.length_singleton]
   congr 1
   rw [List.drop_append, List.drop_eq_nil_of_le (by rw [outS_len]; omega), outS_len, List.nil_append, List.drop_replicate]
   congr 1; omega
  have e1 : 0 + seen.length * 3 = seen.length * 3 := Nat.zero_add _
  have e2 : [faC l[b]].flatten.map V.c = flb faC [l[b]] := rfl
  rw [e1, e2]
  have e3 : (up (up (bxs [mseq faC l, [V.mr 0], flb faC (outS l seen ++ List.replicate (l.length - seen.length) zf)]) 3 [i64 0, i64 0, i64 0]) 3 ((faC l[b]).map .c)) 2 = flb faC (outS l seen ++ List.replicate (l.length - seen.length) zf) := rfl
  rw [e3, hput]
  simp -implicitDefEqProofs only [pkA, ↓reduceIte, Nat.reduceAdd]
  refine hnorm (seen ++ [b]) _ ⟨?_, fun c hc => ?_⟩ (leftM_lt (List.mem_range.2 hb) hn) (le_hd (by simp only [leOk, List.all_cons, List.all_nil, mseq_ltB, flb_ltB, List.length_cons, List.length_nil]; rfl) (Nat.le_succ 2) (show 3 ≤ 4 by decide) ?_ ⟨by simp [up_apply, bxs], by simp [up_apply, bxs], by simp [], trivial⟩)
  ·rw [List.nodup_append]
   exact ⟨hnd, by simp, fun x hx y hy => by simp at hy; subst hy; rintro rfl; exact hn hx⟩
  ·rcases List.mem_append.1 hc with hc | hc
   ·exact hlt c hc
   ·simp at hc; subst hc; exact hb
  ·simp [FL, up_apply]
