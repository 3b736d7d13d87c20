/- Layer 15: maps.Values, ranged over. -/
import Derived.Test.YtkbkajabchhbeaaDoorVlUf
import Derived.Test.YtkbkajabchhbeaaDoorVlEnv
set_option linter.unusedSimpArgs false
set_option linter.unusedVariables false
namespace Go.Proofs.YtkbkajabchhbeaaDoor
open Go Go.Vl
variable {G : Gl}
set_option maxRecDepth 4000
def tmV (t : Tm) : V := .agg (tmC t)
def mS (S : List Tm) : List V := kmap sv tmV (S.map fun t => (textT t, t))
theorem mS_ltB {S : List Tm} {m : Nat} : (mS S).all (fun x => x.ltB m) = true := kmap_ltB (fun _ => rfl) (fun _ => rfl)
theorem mS_ren {S : List Tm} {ρ : Nat → Nat} : (mS S).map (V.ren ρ) = mS S := kmap_ren (fun _ => rfl) (fun _ => rfl)
def gsT (l : List Tm) : V := .gs none (if l.isEmpty then none else some (24, 3)) (l.map tmC)
def flV : List (Nat × V) := [(2, .bp 1 0)]
def ybV (n : Nat) (ps : Array Tmp) (ca cb : Code) (l : List Tm) : List (List V) := [[.lp (lp0 n ps ca cb) flV], [gsT l]]
theorem ybV_lt {n : Nat} {ps : Array Tmp} {ca cb : Code} {l : List Tm} : ltL 2 (ybV n ps ca cb l) := fun b hb x hx => by
 simp only [ybV, List.mem_cons, List.not_mem_nil, or_false] at hb
 rcases hb with rfl | rfl
 ·simp only [List.mem_singleton] at hx; subst hx
  intro p hp
  simp only [flV, List.mem_cons, List.not_mem_nil, or_false] at hp
  subst hp; simp [V.ltP]
 ·simp only [List.mem_singleton] at hx; subst hx; trivial
def valR (n : Nat) (ps : Array Tmp) (ca cb : Code) (S : List Tm) (r : V) (b1 : List (List V)) : Prop := r = .tup [] ∧ ∃ l, l.Perm S ∧ b1 = ybV n ps ca cb l ++ [mS S, [.mr 2]]
theorem ybV_ltB {n : Nat} {ps : Array Tmp} {ca cb : Code} {l : List Tm} {S : List Tm} : (ybV n ps ca cb l ++ [mS S, [.mr 2]]).all (fun b => b.all fun v => v.ltB 4) = true := by
 simp only [ybV, List.cons_append, List.nil_append, List.all_cons, List.all_nil, mS_ltB, gsT]; rfl
def prS (S : List Tm) : List (By × Tm) := S.map fun t => (textT t, t)
theorem prS_len {S : List Tm} : (prS S).length = S.length := List.length_map ..
theorem prS_at {S : List Tm} {j : Nat} (hj : j < (prS S).length) : (prS S)[j] = (textT (S[j]'(by rw [prS_len] at hj; exact hj)), S[j]'(by rw [prS_len] at hj; exact hj)) := List.getElem_map ..
theorem next_mS {S : List Tm} {s : Vl.S} {i : Nat} {seen : List Nat} {K : Option V → V → Prop} (hb : s.bx i = mS S) (hi : i < s.nb)
  (h0 : (∀ b, b < S.length → b ∈ seen) → K none (.tup [bo false])) (h1 : ∀ j (hj : j < S.length), j ∉ seen → K (some (.it i S.length S.length (seen ++ [j]))) (.tup [bo true, sv (textT S[j]), tmV S[j]])) : vnext s (.it i S.length S.length seen) K := by
 have h := kmap_nextV (f := sv) (h := tmV) (l := prS S) (seen := seen) (K := K) hb hi (fun hall => h0 fun b hb => hall b (by rw [prS_len]; exact hb)) (fun j hj hn => by
  have hj2 : j < S.length := by rw [prS_len] at hj; exact hj
  have e := h1 j hj2 hn
  rw [prS_at hj]; simp only [prS_len]; exact e)
 rw [prS_len] at h; exact h
theorem entry_mS {S : List Tm} {s : Vl.S} {i j : Nat} {seen : List Nat} {KV : V → Prop} (hb : s.bx i = mS S) (hi : i < s.nb) (hj : j < S.length) (hK : KV (.tup [sv (textT S[j]), tmV S[j]])) : ventry s (.it i S.length S.length (seen ++ [j])) KV := by
 have hj2 : j < (prS S).length := by rw [prS_len]; exact hj
 have h := kmap_entry (f := sv) (h := tmV) (l := prS S) (seen := seen) (KV := KV) hb hi hj2 (by rw [prS_at hj2]; exact hK)
 rw [prS_len] at h; exact h
theorem seen_len {l : List Nat} {n : Nat} (hnd : l.Nodup) (h : ∀ b ∈ l, b < n) : l.length ≤ n := by
 have := nodup_len hnd (m := List.range n) fun x hx => List.mem_range.2 (h x hx)
 simpa using this
set_option maxHeartbeats 4000000 in
theorem Values1_ok {n : Nat} {ps : Array Tmp} {ca cb : Code} (S : List Tm) (hS : S.length ≤ 1000000000) (hok : ∀ l t, l.length < S.length → t ∈ S → YB Tryd.prog G [.agg (tmC t)] (ybV n ps ca cb l) (bo true) (ybV n ps ca cb (l ++ [t]))) :
  FnE Tryd.prog G 68 [.yl 0, .bp 3 0] (ybV n ps ca cb [] ++ [mS S, [.mr 2]]) (valR n ps ca cb S) := by
 refine FnE_by (rs := []) (k := 4) [1100013, 3000004, 6] mixed Tryd.func68 rfl rfl rfl rfl (by kernel_rfl) (by simp) (fun r b1 h => by rw [h.1]; rfl) rfl rfl ?_ (fun r b1 h => by obtain ⟨_, l, _, rfl⟩ := h; exact Nat.le_refl _) ?_
 ·simp only [xargsOk]
  exact Bool.and_eq_true_iff.2 ⟨rfl, ybV_ltB⟩
 simp -implicitDefEqProofs only [pkA, ptA, ↓reduceIte, Nat.reduceEqDiff, Nat.reduceAdd, Nat.reduceBEq, Nat.reduceMul, Nat.reduceLT, Nat.reduceLeDiff, isMb_flb, pkT, pkU, true_and, ybV, List.cons_append, List.nil_append]
 have hlen : (S.map fun t => (textT t, t)).length = S.length := List.length_map ..
 refine kmap_range (f := sv) (h := tmV) (l := S.map fun t => (textT t, t)) ti_57 rfl rfl (show 2 < 4 by decide) ?_
 rw [hlen]
 simp -implicitDefEqProofs only [pkA, ptA, ↓reduceIte, Nat.reduceEqDiff, Nat.reduceAdd, Nat.reduceBEq, Nat.reduceMul, Nat.reduceLT, Nat.reduceLeDiff, isMb_flb, pkT, pkU, true_and]
 refine run_loop (fun x : List Tm × List Nat => hdS [(0, .yl 0), (6, .it 2 S.length S.length x.2)] (ybV n ps ca cb x.1 ++ [mS S, [.mr 2]])) (fun x => S.length - x.2.length) (fun x => x.2.Nodup ∧ (∀ b ∈ x.2, b < S.length) ∧ x.1.map some = x.2.map fun j => S[j]?) ([], []) ⟨List.nodup_nil, by simp, rfl⟩ ?_ ?_
 ·exact le_hd (by simp only [leOk]; exact Bool.and_eq_true_iff.2 ⟨rfl, ybV_ltB⟩) (Nat.le_refl _) (Nat.le_refl _) (by simp [FL, up_apply]) ⟨rfl, rfl, rfl, rfl, trivial⟩
 rintro ⟨l, seen⟩ ⟨hnd, hlt, hm⟩ R hnorm hexit hret
 simp only at hnd hlt hm
 have hll : l.length = seen.length := by have := congrArg List.length hm; simpa using this
 have hsl := seen_len hnd hlt
 simp -implicitDefEqProofs only [pkA, ptA, ↓reduceIte, Nat.reduceEqDiff, Nat.reduceAdd, Nat.reduceBEq, Nat.reduceMul, Nat.reduceLT, Nat.reduceLeDiff, isMb_flb, pkT, pkU, true_and, ybV, List.cons_append, List.nil_append]
 refine next_mS rfl (show 2 < 4 by decide) (fun hall => ?_) (fun j hj hn => ?_)
 ·simp -implicitDefEqProofs only [pkA, ptA, ↓reduceIte, Nat.reduceEqDiff, Nat.reduceAdd, Nat.reduceBEq, Nat.reduceMul, Nat.reduceLT, Nat.reduceLeDiff, isMb_flb, pkT, pkU, true_and]
  refine hexit _ _ ?_
  simp -implicitDefEqProofs only [pkA, ptA, ↓reduceIte, Nat.reduceEqDiff, Nat.reduceAdd, Nat.reduceBEq, Nat.reduceMul, Nat.reduceLT, Nat.reduceLeDiff, isMb_flb, pkT, pkU, true_and]
  exact ⟨.tup [], _, ⟨rfl, l, seen_perm hm hnd hlt hall, rfl⟩, end_B [] rfl (by simp only [leOk]; exact Bool.and_eq_true_iff.2 ⟨rfl, ybV_ltB⟩) (Nat.le_refl _) (Nat.le_refl _) trivial ⟨rfl, rfl, rfl, rfl, trivial⟩ retV_none⟩
 ·simp -implicitDefEqProofs only [pkA, ptA, ↓reduceIte, Nat.reduceEqDiff, Nat.reduceAdd, Nat.reduceBEq, Nat.reduceMul, Nat.reduceLT, Nat.reduceLeDiff, isMb_flb, pkT, pkU, true_and]
  refine entry_mS rfl (show 2 < 4 by decide) hj ?_
  simp -implicitDefEqProofs only [pkA, ptA, ↓reduceIte, Nat.reduceEqDiff, Nat.reduceAdd, Nat.reduceBEq, Nat.reduceMul, Nat.reduceLT, Nat.reduceLeDiff, isMb_flb, pkT, pkU, true_and, tmV]
  have hlj : l.length < S.length := by
   have := seen_len (l := seen ++ [j]) (n := S.length) (List.nodup_append.2 ⟨hnd, by simp, fun a ha b hb e => by rw [List.mem_singleton] at hb; exact hn (by rw [← hb, ← e]; exact ha)⟩) (fun b hb => by
    rcases List.mem_append.1 hb with hb | hb
    ·exact hlt b hb
    ·rw [List.mem_singleton] at hb; rw [hb]; exact hj)
   rw [List.length_append, List.length_singleton] at this
   omega
  refine callY_low (Y := ybV n ps ca cb l) (hok l S[j] hlj (List.getElem_mem hj)) (by simp [V.fz]) (show 0 < 2 by decide) rfl ybV_lt (show 2 ≤ 5 by decide) ⟨rfl, rfl, trivial⟩ (fun _ _ => rfl) (fun bx' hoth hB => ?_)
  have b2 : bx' 2 = mS S := hoth 2 (Nat.le_refl _)
  have b3 : bx' 3 = [.mr 2] := hoth 3 (show 2 ≤ 3 by decide)
  simp -implicitDefEqProofs only [pkA, ptA, ↓reduceIte, Nat.reduceEqDiff, Nat.reduceAdd, Nat.reduceBEq, Nat.reduceMul, Nat.reduceLT, Nat.reduceLeDiff, isMb_flb, pkT, pkU, true_and]
  refine hnorm (l ++ [S[j]], seen ++ [j]) _ ⟨List.nodup_append.2 ⟨hnd, by simp, fun a ha b hb e => by rw [List.mem_singleton] at hb; exact hn (by rw [← hb, ← e]; exact ha)⟩, fun b hb => ?_, ?_⟩ ?_ (le_hd (by simp only [leOk]; exact Bool.and_eq_true_iff.2 ⟨rfl, ybV_ltB⟩) (Nat.le_refl _) (show 4 ≤ 5 by decide) (by simp [FL, up_apply]) ⟨hB.1, hB.2.1, b2, b3, trivial⟩)
  ·rcases List.mem_append.1 hb with hb | hb
   ·exact hlt b hb
   ·rw [List.mem_singleton] at hb; rw [hb]; exact hj
  ·simp only [List.map_append, hm, List.map_cons, List.map_nil]
   rw [List.getElem?_eq_getElem hj]
  ·simp only [List.length_append, List.length_singleton]; omega
end Go.Proofs.YtkbkajabchhbeaaDoor
/- Layer 15: slices.AppendSeq, slices.Collect. -/
namespace Go.Proofs.YtkbkajabchhbeaaDoor
open Go Go.Vl
variable {G : Gl}
set_option maxRecDepth 4000
theorem run_range {P : Program} {G : Gl} {tr : List Nat} {k0 : Nat} {f : Operand} {ps : Array Tmp} {ca cb : Code} {Q : VE → Vl.S → Prop} {fr : Nat → V} {bx : Nat → List V} {nb : Nat} : vwpK P G tr k0 (.rangeFunc f ps ca cb) Q ⟨fr, bx, nb⟩ = vrg P G tr f ps ca cb Q ⟨fr, bx, nb⟩ := rfl
theorem spl_gsK {tr : List Nat} {id : Nat} {ops : Array Oper} {s : Vl.S} {K : Vl.S → Prop} (h : isSp tr id = true) (hK : GsK ops K s) : spl tr id ops s K := by
 unfold spl
 rw [if_pos h]
 exact .inr (.inr (.inr hK))
def valC : V := .clo (.func 68) [] [.bp 1 0]
set_option maxHeartbeats 4000000 in
theorem vrgV {S : List Tm} (hS : S.length ≤ 1000000000) {tr : List Nat} {n t : Nat} {ps : Array Tmp} {ca cb : Code} {Q : VE → Vl.S → Prop} {fr : Nat → V} {bx : Nat → List V}
  (hrg : isRg tr = true) (hre : tr.contains 1200001 = true) (hn : rgN tr = n) (hf : fr t = valC) (h2 : fr 2 = .bp 2 0) (b0 : bx 0 = mS S) (b1 : bx 1 = [.mr 0]) (b2 : bx 2 = [gsT []])
  (hok : ∀ l t, l.length < S.length → t ∈ S → YB Tryd.prog G [.agg (tmC t)] (ybV n ps ca cb l) (bo true) (ybV n ps ca cb (l ++ [t])))
  (hQ : ∀ l bx', l.Perm S → bx' 0 = mS S → bx' 1 = [.mr 0] → bx' 2 = [gsT l] → bx' 3 = [.lp { lp0 n ps ca cb with state := .exhausted } [(2, .bp 2 0)]] → Q .normal ⟨fr, bx', 4⟩) : vrg Tryd.prog G tr (.tmp t) ps ca cb Q ⟨fr, bx, 3⟩ := by
 subst hn
 have hI := Values1_ok (G := G) S hS hok
 have hc : calleeV (ev G ⟨fr, bx, 3⟩ (.tmp t)) [.yl 3] = some (68, [.yl 3, .bp 1 0]) := by simp only [ev, hf]; rfl
 refine ⟨hrg, [(2, .bp 2 0)], fun q hq => ?_, ⟨_, _, hc⟩, ?_⟩
 ·simp only [List.mem_cons, List.not_mem_nil, or_false] at hq
  subst hq; simp [h2, V.fz, V.isKR]
 ·rw [if_pos hre]
  unfold vcallR
  rw [hc]
  simp only
  refine ⟨[3, 2, 0, 1], _, _, _, hI, rfl, ⟨rfl, by decide⟩, ?_, ?_⟩
  ·refine ⟨⟨by decide, ?_⟩, ⟨by decide, ?_⟩, ⟨by decide, ?_⟩, ⟨by decide, ?_⟩, trivial⟩
   ·simp [rho, up, flV, V.ren, V.renP]
   ·simp [rho, up, b2, V.ren, gsT]
   ·simp [rho, up, b0, mS_ren]
   ·simp [rho, up, b1, V.ren]
  ·rintro r b1' ⟨rfl, l, hl, rfl⟩
   have e4 : setBx (rho [3, 2, 0, 1] 4) 0 (ybV (rgN tr) ps ca cb l ++ [mS S, [.mr 2]]) (up bx 3 [.lp (lp0 (rgN tr) ps ca cb) [(2, .bp 2 0)]]) 3 = [.lp (lp0 (rgN tr) ps ca cb) [(2, .bp 2 0)]] := by
    simp [ybV, setBx, rho, up, flV, V.ren, V.renP]
   show vrgK Q 3 ⟨fr, setBx (rho [3, 2, 0, 1] 4) 0 (ybV (rgN tr) ps ca cb l ++ [mS S, [.mr 2]]) (up bx 3 [.lp (lp0 (rgN tr) ps ca cb) [(2, .bp 2 0)]]), 4⟩
   unfold vrgK
   simp only [e4]
   refine ⟨by simp [lp0], by decide, ?_⟩
   show Q .normal ⟨fr, up _ 3 _, 4⟩
   refine hQ l _ hl ?_ ?_ ?_ ?_
   ·simp [ybV, setBx, rho, up, mS_ren]
   ·simp [ybV, setBx, rho, up, V.ren]
   ·simp [ybV, setBx, rho, up, V.ren, gsT]
   ·simp [up]
def appR (S : List Tm) (r : V) (b1 : List (List V)) : Prop := ∃ l j, l.Perm S ∧ r = .ms 4 0 S.length S.length 3 ∧ b1 = [mS S, [.mr 0], [.ms 4 0 S.length S.length 3], j, flb tmC l] ∧ j.all (fun x => x.ltB 5) = true
set_option maxHeartbeats 4000000 in
theorem AppendSeq_ok (S : List Tm) (hS : S.length ≤ 1000000000) (hne : S ≠ []) : FnE Tryd.prog G 75 [.c (.ex (.slice none 0 0)), valC] [mS S, [.mr 0]] (appR S) := by
 refine FnE_by (rs := [.tmp 4]) (k := 2) [1200000, 1200001, 1300015, 2300001, 2300004, 3000002] mixed Tryd.func75 rfl rfl rfl rfl (by kernel_rfl) (by simp) (fun r b1 h => by obtain ⟨_, _, _, rfl, _⟩ := h; rfl) rfl rfl ?_ (fun r b1 h => by obtain ⟨_, _, _, _, rfl, _⟩ := h; simp) ?_
 ·simp only [xargsOk, List.all_cons, List.all_nil, mS_ltB, valC, List.length_cons, List.length_nil]; rfl
 simp -implicitDefEqProofs only [pkA, ptA, ↓reduceIte, Nat.reduceEqDiff, Nat.reduceAdd, Nat.reduceBEq, Nat.reduceMul, Nat.reduceLT, Nat.reduceLeDiff, isMb_flb, pkT, pkU, true_and, valC]
 refine spl_gsK rfl (.warmX 2 0 (show 2 < 3 by decide) rfl (.done ?_))
 simp -implicitDefEqProofs only [pkA, ptA, ↓reduceIte, Nat.reduceEqDiff, Nat.reduceAdd, Nat.reduceBEq, Nat.reduceMul, Nat.reduceLT, Nat.reduceLeDiff, isMb_flb, pkT, pkU, true_and, Vl.S.cell, run_range]
 refine vrgV (S := S) (n := 15) hS rfl rfl rfl rfl rfl rfl rfl rfl ?_ ?_
 ·intro l x hl hx
  refine YB_of (L := lp0 15 #[7] _ _) (fl := flV) (bs := [[gsT l]]) [2850003, 2400012] mixed rfl rfl ?_ ?_ ?_ ?_ ?_
  ·intro q hq; simp [lp0] at hq; subst hq; decide
  ·kernel_rfl
  ·kernel_rfl
  ·refine ⟨fun y hy => ?_, ybV_lt, Nat.le_refl _⟩
   simp only [List.mem_singleton] at hy; subst hy; trivial
  ·simp -implicitDefEqProofs only [pkA, ptA, ↓reduceIte, Nat.reduceEqDiff, Nat.reduceAdd, Nat.reduceBEq, Nat.reduceMul, Nat.reduceLT, Nat.reduceLeDiff, isMb_flb, pkT, pkU, true_and, frY, flV, lp0, List.zip_cons_cons, List.zip_nil_right, List.foldl_cons, List.foldl_nil, List.length_cons, List.length_nil]
   refine vpa_split (m := 4) (n := 8) rfl rfl rfl ?_
   refine .split 1 0 12 (g := none) (E := if l.isEmpty then none else some (24, 3)) (es := l.map tmC) (show 1 < 3 by decide) rfl rfl rfl fun v _ hgv => .done ?_
   have hlenv : ∀ K, K (i64 (l.length : Int)) → vlen Tryd.prog 22 (.c (.ex v)) K := fun K hK => by
    rcases hgv with ⟨blk, cap, rfl, _⟩ | ⟨h0, _, a, rfl⟩
    ·exact len_hot ti_22 rfl (by rw [List.length_map]; exact hK)
    ·have : l = [] := by cases l with
      | nil => rfl
      | cons => cases h0
     subst this
     exact len_hot ti_22 rfl hK
   simp -implicitDefEqProofs only [pkA, ptA, ↓reduceIte, Nat.reduceEqDiff, Nat.reduceAdd, Nat.reduceBEq, Nat.reduceMul, Nat.reduceLT, Nat.reduceLeDiff, isMb_flb, pkT, pkU, true_and, List.set_cons_zero, bxs_zero, bxs_succ, gsT, List.take_succ_cons, List.take_zero]
   refine hlenv _ ?_
   simp -implicitDefEqProofs only [pkA, ptA, ↓reduceIte, Nat.reduceEqDiff, Nat.reduceAdd, Nat.reduceBEq, Nat.reduceMul, Nat.reduceLT, Nat.reduceLeDiff, isMb_flb, pkT, pkU, true_and, List.set_cons_zero, bxs_zero, bxs_succ]
   generalize hE : (if l.isEmpty = true then none else some (24, 3)) = E
   have hEE : E = none ∨ E = some (24, 3) := by
    rw [← hE]; cases l <;> simp
   have hls : ∀ z ∈ l.map tmC, z.length = 3 := len_tm
   have hlm : (l.map tmC).length = l.length := List.length_map ..
   refine vtree_step (f := 3) (by decide +kernel) (by decide +kernel) ?_
   simp only [opL_cons, opL_nil, Nat.zero_add, Nat.reduceAdd]
   repeat' (first | exact trivial | apply And.intro)
   all_goals first
    | exact .inl (by decide +kernel)
    | refine .inr ?_
   simp -implicitDefEqProofs only [vg_none, pkA, ptA, ↓reduceIte, Nat.reduceEqDiff, Nat.reduceAdd, Nat.reduceBEq, Nat.reduceMul, Nat.reduceLT, Nat.reduceLeDiff, isMb_flb, pkT, pkU, true_and, isGh_some, isHo]
   refine gg_app (v := v) (E := E) (es := l.map tmC) (y1 := tmC (.mk 0 0 [])) (sz := 3) (by_ := 40) ti_22 rfl ti_24 rfl rfl rfl (by decide) rfl (by simp [up_apply]) (by simp [up_apply]) ⟨by decide, by simp, by simp⟩ rfl hEE hls (tmC_len _) (by rw [hlm]; omega) (by rw [hlm]; omega) ?_
   simp -implicitDefEqProofs only [pkA, ptA, ↓reduceIte, Nat.reduceEqDiff, Nat.reduceAdd, Nat.reduceBEq, Nat.reduceMul, Nat.reduceLT, Nat.reduceLeDiff, isMb_flb, pkT, pkU, true_and]
   refine vtree_stepG (f := 2) (by decide +kernel) (by decide +kernel) (.splitB 12 2 0 (g := none) (E := some (24, 3)) (es := l.map tmC ++ [tmC (.mk 0 0 [])]) (x := .c (cI x.kind)) (by simp [up_apply]) (show 2 < 3 by decide) (by simp [up_apply, mtm]) (by simp [up_apply, tmC_eq]) fun v' _ hgv' => .done ?_)
   obtain ⟨blk, cap, rfl⟩ : ∃ blk cap, v' = .slice (some ⟨blk, 0, none⟩) (l.map tmC ++ [tmC (.mk 0 0 [])]).length cap := by
    rcases hgv' with ⟨blk, cap, h, _⟩ | ⟨h, _⟩
    ·exact ⟨blk, cap, h⟩
    ·cases hl0 : l <;> simp [hl0] at h
   have hsetl : (l.map tmC ++ [tmC (.mk 0 0 [])]).set l.length (tmC x) = (l ++ [x]).map tmC := by
    rw [List.set_append_right _ _ (by rw [hlm]; exact Nat.le_refl _), hlm, Nat.sub_self, List.map_append]; rfl
   have hset : ∀ g : V, ((tmC x).map V.c).set 0 g = [g, .c (cI x.n), .c (tsC x.l)] := fun g => by rw [tmC_eq]; rfl
   have hln : ((l.map tmC ++ [tmC (.mk 0 0 [])]).length) = l.length + 1 := by simp
   simp only [opL_cons, opL_nil, Nat.zero_add, Nat.reduceAdd]
   repeat' (first | exact trivial | apply And.intro)
   all_goals first
    | exact .inl (by decide +kernel)
    | refine .inr ?_
   all_goals simp -implicitDefEqProofs only [vg_none, pkA, ptA, ↓reduceIte, Nat.reduceEqDiff, Nat.reduceAdd, Nat.reduceBEq, Nat.reduceMul, Nat.reduceLT, Nat.reduceLeDiff, isMb_flb, pkT, pkU, true_and, hset, hln]
   repeat' first
    | (refine vtree_step (by decide +kernel) (by decide +kernel) ?_; simp only [opL_cons, opL_nil, Nat.zero_add, Nat.reduceAdd]; (repeat' (first | exact trivial | apply And.intro)); (all_goals (first | exact Or.inl (by decide +kernel) | refine Or.inr ?_)))
    | (refine ix_hot (k := l.length) ti_22 rfl ti_24 rfl (by decide) rfl (Nat.lt_succ_self _) ?_)
    | (refine sto_gg (b := 2) (k := 0) (len := l.length + 1) (cap := cap) (e' := 24) (sz := 3) (q := l.length) (es := l.map tmC ++ [tmC (.mk 0 0 [])]) (cs := tmC x) ti_24 rfl ?_ ?_ ?_ rfl (tmC_len _) (by decide) (by rw [hln]; exact Nat.lt_succ_self _) rfl ?_; (· simp); (· (simp [up_apply]; rfl)); (· simp [up_apply]))
    | (refine vtree_endG (by decide +kernel) ?_)
    | (simp -implicitDefEqProofs only [vg_none, pkA, ptA, ↓reduceIte, Nat.reduceEqDiff, Nat.reduceAdd, Nat.reduceBEq, Nat.reduceMul, Nat.reduceLT, Nat.reduceLeDiff, isMb_flb, pkT, pkU, true_and, List.set_cons_zero, bxs_zero, bxs_succ, set1])
   all_goals (
    refine .join 1 0 2 0 (v := .slice (some ⟨blk, 0, none⟩) (l.length + 1) cap) (E := some (24, 3)) (es := (l.map tmC ++ [tmC (.mk 0 0 [])]).set l.length (tmC x)) (show 1 < 3 by decide) ?_ ?_ (show 2 < 3 by decide) ?_ (by decide) ?_ (.unname 1 0 (g := some (.slice (some ⟨blk, 0, none⟩) (l.length + 1) cap)) (E := some (24, 3)) (es := (l.map tmC ++ [tmC (.mk 0 0 [])]).set l.length (tmC x)) (show 1 < 3 by decide) ?_ (.done ?_))
    ·simp [up_apply]; rfl
    ·simp [up_apply]
    ·simp [up_apply]; rfl
    ·simp [up_apply]
    ·simp [up_apply]
    ·simp -implicitDefEqProofs only [pkA, ptA, ↓reduceIte, Nat.reduceEqDiff, Nat.reduceAdd, Nat.reduceBEq, Nat.reduceMul, Nat.reduceLT, Nat.reduceLeDiff, isMb_flb, pkT, pkU, true_and, Vl.S.cell, hsetl]
     refine ⟨rfl, _, _, ⟨rfl, show 0 < 3 by decide⟩, [], ?_⟩
     refine le_hdP (fun _ h => by cases h) ybV_lt (Nat.le_refl _) (show 2 ≤ 3 by decide) trivial ?_
     intro i hi
     match i, hi with
     | 0, _ => simp [ybV, up, bxs, yjump, lp0, flV]
     | 1, _ =>
      have : (l ++ [x]).isEmpty = false := by cases l <;> rfl
      simp [ybV, up, bxs, gsT])
 intro l bx' hl b0 b1 b2 b3
 have hl0 : l ≠ [] := fun h => by subst h; exact hne (List.nil_perm.1 hl)
 have hge : (if l.isEmpty then none else some (24, 3)) = some (24, 3) := by cases l with
  | nil => exact absurd rfl hl0
  | cons => rfl
 have b2' : bx' 2 = [.gs none (some (24, 3)) (l.map tmC)] := by rw [b2]; unfold gsT; rw [hge]
 simp -implicitDefEqProofs only [pkA, ptA, ↓reduceIte, Nat.reduceEqDiff, Nat.reduceAdd, Nat.reduceBEq, Nat.reduceMul, Nat.reduceLT, Nat.reduceLeDiff, isMb_flb, pkT, pkU, true_and]
 refine spl_gsK rfl (.box 2 0 (g := none) (e := 24) (sz := 3) (es := l.map tmC) (show 2 < 4 by decide) (by simp only [b2']; rfl) (by simp only [b2']; rfl) (.done ?_))
 simp -implicitDefEqProofs only [pkA, ptA, ↓reduceIte, Nat.reduceEqDiff, Nat.reduceAdd, Nat.reduceBEq, Nat.reduceMul, Nat.reduceLT, Nat.reduceLeDiff, isMb_flb, pkT, pkU, true_and, b2', List.length_map]
 rw [hl.length_eq]
 refine ⟨.ms 4 0 S.length S.length 3, [mS S, [.mr 0], [.ms 4 0 S.length S.length 3], _, flb tmC l], ⟨l, _, hl, rfl, rfl, rfl⟩, end_B [(4, .ms 4 0 S.length S.length 3)] rfl ?_ (show 2 ≤ 5 by decide) (Nat.le_refl 5) ⟨by simp [up_apply], trivial⟩ ⟨by simp [up_apply, b0], by simp [up_apply, b1], by simp [up_apply], by simp only [up_apply]; exact b3, by simp [up_apply, flb], trivial⟩ (by simp [hdS, frs, retV_one, up])⟩
 simp only [leOk, List.all_cons, List.all_nil, mS_ltB, flb, all_ltB_c, List.length_cons, List.length_nil]; rfl
def app0 (r : V) (b1 : List (List V)) : Prop := r = .ow none [] ∧ ∃ j, b1 = [mS [], [.mr 0], [.ow none []], j] ∧ j.all (fun x => x.ltB 4) = true
set_option maxHeartbeats 4000000 in
theorem AppendSeq_nil : FnE Tryd.prog G 75 [.c (.ex (.slice none 0 0)), valC] [mS [], [.mr 0]] app0 := by
 refine FnE_by (rs := [.tmp 4]) (k := 2) [1200000, 1200001, 1300015, 2300001, 2300004, 3000002] mixed Tryd.func75 rfl rfl rfl rfl (by kernel_rfl) (by simp) (fun r b1 h => by rw [h.1]; rfl) rfl rfl ?_ (fun r b1 h => by obtain ⟨_, j, rfl, _⟩ := h; simp) ?_
 ·simp only [xargsOk, List.all_cons, List.all_nil, mS_ltB, valC, List.length_cons, List.length_nil]; rfl
 simp -implicitDefEqProofs only [pkA, ptA, ↓reduceIte, Nat.reduceEqDiff, Nat.reduceAdd, Nat.reduceBEq, Nat.reduceMul, Nat.reduceLT, Nat.reduceLeDiff, isMb_flb, pkT, pkU, true_and, valC]
 refine spl_gsK rfl (.warmX 2 0 (show 2 < 3 by decide) rfl (.done ?_))
 simp -implicitDefEqProofs only [pkA, ptA, ↓reduceIte, Nat.reduceEqDiff, Nat.reduceAdd, Nat.reduceBEq, Nat.reduceMul, Nat.reduceLT, Nat.reduceLeDiff, isMb_flb, pkT, pkU, true_and, Vl.S.cell, run_range]
 refine vrgV (S := []) (n := 15) (by simp) rfl rfl rfl rfl rfl rfl rfl rfl (fun l x hl hx => by cases hx) ?_
 intro l bx' hl b0 b1 b2 b3
 have hl0 : l = [] := List.perm_nil.1 hl
 subst hl0
 simp -implicitDefEqProofs only [pkA, ptA, ↓reduceIte, Nat.reduceEqDiff, Nat.reduceAdd, Nat.reduceBEq, Nat.reduceMul, Nat.reduceLT, Nat.reduceLeDiff, isMb_flb, pkT, pkU, true_and]
 refine spl_gsK rfl (.cool 2 0 (g := none) (E := none) (es := []) (show 2 < 4 by decide) (by simp only [b2]; rfl) (.done ?_))
 simp -implicitDefEqProofs only [pkA, ptA, ↓reduceIte, Nat.reduceEqDiff, Nat.reduceAdd, Nat.reduceBEq, Nat.reduceMul, Nat.reduceLT, Nat.reduceLeDiff, isMb_flb, pkT, pkU, true_and, b2, Vl.S.cell, gsT]
 refine ⟨.ow none [], [mS [], [.mr 0], [.ow none []], _], ⟨rfl, _, rfl, rfl⟩, end_B [(4, .ow none [])] rfl ?_ (show 2 ≤ 4 by decide) (Nat.le_refl 4) ⟨by simp [up_apply], trivial⟩ ⟨by simp [up_apply, b0], by simp [up_apply, b1], by simp [up_apply], by simp only [up_apply]; exact b3, trivial⟩ (by simp [hdS, frs, retV_one, up])⟩
 simp only [leOk, List.all_cons, List.all_nil, mS_ltB, List.length_cons, List.length_nil]; rfl
end Go.Proofs.YtkbkajabchhbeaaDoor
/- Layer 15: slices.Collect, maps.Values. -/
namespace Go.Proofs.YtkbkajabchhbeaaDoor
open Go Go.Vl
variable {G : Gl}
set_option maxRecDepth 4000
set_option maxHeartbeats 4000000 in
theorem Collect_ok (S : List Tm) (hS : S.length ≤ 1000000000) (hne : S ≠ []) : FnE Tryd.prog G 66 [valC] [mS S, [.mr 0]] (appR S) := by
 refine FnE_by (rs := [.tmp 2]) (k := 2) [1500004, 3000002] mixed Tryd.func66 rfl rfl rfl rfl (by kernel_rfl) (by simp) (fun r b1 h => by obtain ⟨_, _, _, rfl, _⟩ := h; rfl) rfl rfl ?_ (fun r b1 h => by obtain ⟨_, _, _, _, rfl, _⟩ := h; simp) ?_
 ·simp only [xargsOk, List.all_cons, List.all_nil, mS_ltB, valC, List.length_cons, List.length_nil]; rfl
 simp -implicitDefEqProofs only [pkA, ptA, ↓reduceIte, Nat.reduceEqDiff, Nat.reduceAdd, Nat.reduceBEq, Nat.reduceMul, Nat.reduceLT, Nat.reduceLeDiff, isMb_flb, pkT, pkU, true_and, valC]
 refine callR_all rfl (AppendSeq_ok S hS hne) (by simp [V.fz, valC]) rfl ⟨rfl, rfl, trivial⟩ ?_
 rintro r b1 ⟨l, j, hl, rfl, rfl, hj⟩
 simp -implicitDefEqProofs only [pkA, ptA, ↓reduceIte, Nat.reduceEqDiff, Nat.reduceAdd, Nat.reduceBEq, Nat.reduceMul, Nat.reduceLT, Nat.reduceLeDiff, isMb_flb, pkT, pkU, true_and]
 refine ⟨.ms 4 0 S.length S.length 3, [mS S, [.mr 0], [.ms 4 0 S.length S.length 3], j, flb tmC l], ⟨l, j, hl, rfl, rfl, hj⟩, end_B [(2, .ms 4 0 S.length S.length 3)] rfl ?_ (show 2 ≤ 5 by decide) (Nat.le_refl 5) ⟨by simp [up_apply], trivial⟩ ⟨rfl, rfl, rfl, rfl, rfl, trivial⟩ (by simp [hdS, frs, retV_one, up])⟩
 simp only [leOk, List.all_cons, List.all_nil, mS_ltB, flb, all_ltB_c, List.length_cons, List.length_nil, hj]; rfl
set_option maxHeartbeats 4000000 in
theorem Collect_nil : FnE Tryd.prog G 66 [valC] [mS [], [.mr 0]] app0 := by
 refine FnE_by (rs := [.tmp 2]) (k := 2) [1500004, 3000002] mixed Tryd.func66 rfl rfl rfl rfl (by kernel_rfl) (by simp) (fun r b1 h => by rw [h.1]; rfl) rfl rfl ?_ (fun r b1 h => by obtain ⟨_, j, rfl, _⟩ := h; simp) ?_
 ·simp only [xargsOk, List.all_cons, List.all_nil, mS_ltB, valC, List.length_cons, List.length_nil]; rfl
 simp -implicitDefEqProofs only [pkA, ptA, ↓reduceIte, Nat.reduceEqDiff, Nat.reduceAdd, Nat.reduceBEq, Nat.reduceMul, Nat.reduceLT, Nat.reduceLeDiff, isMb_flb, pkT, pkU, true_and, valC]
 refine callR_all rfl AppendSeq_nil (by simp [V.fz, valC]) rfl ⟨rfl, rfl, trivial⟩ ?_
 rintro r b1 ⟨rfl, j, rfl, hj⟩
 simp -implicitDefEqProofs only [pkA, ptA, ↓reduceIte, Nat.reduceEqDiff, Nat.reduceAdd, Nat.reduceBEq, Nat.reduceMul, Nat.reduceLT, Nat.reduceLeDiff, isMb_flb, pkT, pkU, true_and]
 refine ⟨.ow none [], [mS [], [.mr 0], [.ow none []], j], ⟨rfl, j, rfl, hj⟩, end_B [(2, .ow none [])] rfl ?_ (show 2 ≤ 4 by decide) (Nat.le_refl 4) ⟨by simp [up_apply], trivial⟩ ⟨rfl, rfl, rfl, rfl, trivial⟩ (by simp [hdS, frs, retV_one, up])⟩
 simp only [leOk, List.all_cons, List.all_nil, mS_ltB, List.length_cons, List.length_nil, hj]; rfl
theorem box_mr {fr : Nat → V} {bx : Nat → List V} {nb : Nat} {K : Vl.S → Prop} {t d : Tmp} {i : Nat} (h : fr t = .mr i) : boxK (some t) d (.mr i) ⟨fr, bx, nb⟩ K = K ⟨up fr d (.bp nb 0), up bx nb [.mr i], nb + 1⟩ := by
 simp [boxK, V.bcells, use_some, h, Vl.S.put, V.isOw]
theorem constV_nilF : constV .nilFunc = .c (.lit .nilFunc) := rfl
set_option maxHeartbeats 4000000 in
theorem Values_ok (S : List Tm) : FnB Tryd.prog G 58 [.mr 0] [mS S] valC [mS S, [.mr 0]] := by
 refine FnB_by (rs := [.tmp 2]) (k := 1) [3000001] mixed Tryd.func58 rfl rfl rfl rfl (by kernel_rfl) (by simp) rfl rfl rfl (by simp only [xargsOk, List.all_cons, List.all_nil, mS_ltB, List.length_cons, List.length_nil]; rfl) (by simp) ?_
 simp -implicitDefEqProofs only [pkA, ptA, ↓reduceIte, Nat.reduceEqDiff, Nat.reduceAdd, Nat.reduceBEq, Nat.reduceMul, Nat.reduceLT, Nat.reduceLeDiff, isMb_flb, pkT, pkU, true_and, box_mr, constV_nilF]
 exact end_B [(2, valC)] rfl (by simp only [leOk, List.all_cons, List.all_nil, mS_ltB, valC, List.length_cons, List.length_nil]; rfl) (show 1 ≤ 2 by decide) (Nat.le_refl 2) ⟨by simp [up_apply, valC], trivial⟩ ⟨rfl, rfl, trivial⟩ rfl
