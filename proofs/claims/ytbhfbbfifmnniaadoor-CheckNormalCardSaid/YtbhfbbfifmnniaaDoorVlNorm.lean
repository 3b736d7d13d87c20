/- The normal form of a policy, layer 13: check.Normal. -/
import Derived.Test.YtbhfbbfifmnniaaDoorVlSortS
import Derived.Test.YtbhfbbfifmnniaaDoorVlClone
import Derived.Test.YtbhfbbfifmnniaaDoorVlFun3
import Derived.Test.YtbhfbbfifmnniaaDoorVlErr
set_option linter.unusedSimpArgs false
set_option linter.unusedVariables false
namespace Go.Proofs.YtbhfbbfifmnniaaDoor
open Go Go.Vl

/-- The first number that is not 0. -/
def orI : List Int → Int
  | [] => 0
  | x :: r => if x = 0 then orI r else x

set_option maxHeartbeats 1000000 in
theorem Or_ok {G : Gl} (l : List Int) (hl : l.length ≤ 9223372036854775806) : FnOK Tryd.prog G 33 [.c (.sl (l.map inC))] (i64 (orI l)) := by
  refine FnOK_by (rs := [.tmp 2]) false [] mixed Tryd.func33 rfl rfl rfl rfl (by kernel_rfl) (by simp) rfl rfl ?_
  simp -implicitDefEqProofs only [pkA, ptA, ↓reduceIte, Nat.reduceEqDiff, Nat.reduceAdd, Nat.reduceBEq, Nat.reduceMul, Nat.reduceLT, Nat.reduceLeDiff, isMb_flb, pkP, List.length_map]
  refine run_loop (fun i : Nat => hdS [(3, i64 0), (6, .c (.sl (l.map inC))), (7, i64 l.length), (8, i64 i)] []) (fun i => l.length - i) (fun i => i ≤ l.length ∧ orI l = orI (l.drop i)) 0 ⟨Nat.zero_le _, rfl⟩ ?_ ?_
  · refine le_hd rfl (Nat.zero_le _) (by simp) ?_ trivial
    simp [FL, up_apply]
  rintro i ⟨hi, he⟩ R hnorm hexit hret
  simp -implicitDefEqProofs only [pkA, ptA, ↓reduceIte, Nat.reduceEqDiff, Nat.reduceAdd, Nat.reduceBEq, Nat.reduceMul, Nat.reduceLT, Nat.reduceLeDiff, isMb_flb, pkP, List.length_map]
  refine vcond_of (fun hlt => ?_) (fun hge => ?_)
  · have hlt : i < l.length := by simpa using hlt
    have hw := wrap_of (n := (i : Int) + 1) (k := i + 1) (by omega) (by omega)
    have hd : l.drop i = l[i] :: l.drop (i + 1) := by simp
    rw [hd] at he
    simp -implicitDefEqProofs only [pkA, ptA, ↓reduceIte, Nat.reduceEqDiff, Nat.reduceAdd, Nat.reduceBEq, Nat.reduceMul, Nat.reduceLT, Nat.reduceLeDiff, isMb_flb, pkP, List.length_map]
    refine ia_of ti_71 rfl ti_3 (by decide) (Int.natCast_nonneg i) (c := inC l[i]) (by simp [hlt]) rfl ?_
    simp -implicitDefEqProofs only [pkA, ptA, ↓reduceIte, Nat.reduceEqDiff, Nat.reduceAdd, Nat.reduceBEq, Nat.reduceMul, Nat.reduceLT, Nat.reduceLeDiff, isMb_flb, pkP, List.length_map, pin0]
    refine vcond_of (fun hy => ?_) (fun hn => ?_)
    · simp -implicitDefEqProofs only [pkA, ptA, ↓reduceIte, Nat.reduceEqDiff, Nat.reduceAdd, Nat.reduceBEq, Nat.reduceMul, Nat.reduceLT, Nat.reduceLeDiff, isMb_flb, pkP, List.length_map]
      refine hret _ ?_
      simp -implicitDefEqProofs only [pkA, ptA, ↓reduceIte, Nat.reduceEqDiff, Nat.reduceAdd, Nat.reduceBEq, Nat.reduceMul, Nat.reduceLT, Nat.reduceLeDiff, isMb_flb, pkP, List.length_map]
      rw [he]; unfold orI; rw [if_neg (by simpa using hy)]
    · simp -implicitDefEqProofs only [pkA, ptA, ↓reduceIte, Nat.reduceEqDiff, Nat.reduceAdd, Nat.reduceBEq, Nat.reduceMul, Nat.reduceLT, Nat.reduceLeDiff, isMb_flb, pkP, List.length_map, hw]
      refine hnorm (i + 1) _ ⟨hlt, ?_⟩ (by omega) (le_hd rfl (Nat.zero_le _) (by simp) (by simp [FL, up_apply]) trivial)
      rw [he]; conv => lhs; unfold orI
      rw [if_pos (by simpa using hn)]
  · have : i = l.length := by simp at hge; omega
    subst this
    simp -implicitDefEqProofs only [pkA, ptA, ↓reduceIte, Nat.reduceEqDiff, Nat.reduceAdd, Nat.reduceBEq, Nat.reduceMul, Nat.reduceLT, Nat.reduceLeDiff, isMb_flb, pkP, List.length_map]
    refine hexit _ _ ?_
    simp -implicitDefEqProofs only [pkA, ptA, ↓reduceIte, Nat.reduceEqDiff, Nat.reduceAdd, Nat.reduceBEq, Nat.reduceMul, Nat.reduceLT, Nat.reduceLeDiff, isMb_flb, pkP, List.length_map]
    rw [he, List.drop_length]; rfl

def cmRu (x y : Ru) : Int := orI [cmpI x.kind y.kind, cmpI x.a y.a, cmpI x.b y.b]
def cmQu (x y : Qu) : Int := cmpI x.cmd y.cmd

theorem cmpI_cases (a b : Int) : (a < b ∧ cmpI a b = -1) ∨ (b < a ∧ cmpI a b = 1) ∨ (a = b ∧ cmpI a b = 0) := by
  unfold cmpI; split
  · exact .inl ⟨by assumption, rfl⟩
  · split
    · exact .inr (.inl ⟨by assumption, rfl⟩)
    · exact .inr (.inr ⟨by omega, rfl⟩)
theorem cmQu_ok : Cmp cmQu where
  anti a b := by unfold cmQu; rcases cmpI_cases a.cmd b.cmd with h | h | h <;> rcases cmpI_cases b.cmd a.cmd with k | k | k <;> omega
  trans a b c := by unfold cmQu; rcases cmpI_cases a.cmd b.cmd with h | h | h <;> rcases cmpI_cases b.cmd c.cmd with k | k | k <;> rcases cmpI_cases a.cmd c.cmd with j | j | j <;> omega
theorem cmRu_lt (x y : Ru) : cmRu x y < 0 ↔ x.kind < y.kind ∨ (x.kind = y.kind ∧ (x.a < y.a ∨ (x.a = y.a ∧ x.b < y.b))) := by
  unfold cmRu orI orI orI
  rcases cmpI_cases x.kind y.kind with h | h | h <;> simp only [h.2] <;> rcases cmpI_cases x.a y.a with k | k | k <;> simp only [k.2] <;> rcases cmpI_cases x.b y.b with j | j | j <;> simp [j.2, orI] <;> omega
theorem cmRu_gt (x y : Ru) : 0 < cmRu x y ↔ y.kind < x.kind ∨ (x.kind = y.kind ∧ (y.a < x.a ∨ (x.a = y.a ∧ y.b < x.b))) := by
  unfold cmRu orI orI orI
  rcases cmpI_cases x.kind y.kind with h | h | h <;> simp only [h.2] <;> rcases cmpI_cases x.a y.a with k | k | k <;> simp only [k.2] <;> rcases cmpI_cases x.b y.b with j | j | j <;> simp [j.2, orI] <;> omega
theorem cmRu_ok : Cmp cmRu where
  anti a b := by rw [cmRu_lt, cmRu_gt]; omega
  trans a b c := by
    intro h1 h2
    have e1 : ¬ 0 < cmRu a b := by omega
    have e2 : ¬ 0 < cmRu b c := by omega
    have : ¬ 0 < cmRu a c := by rw [cmRu_gt] at *; omega
    omega

set_option maxHeartbeats 1000000 in
theorem ruCmp_ok {G : Gl} (x y : Ru) : FnOK Tryd.prog G 32 (.agg (ruC x) :: .agg (ruC y) :: ([] : List C).map .c) (i64 (cmRu x y)) := by
  refine FnOK_by (rs := [.tmp 4]) false [] mixed Tryd.func32 rfl rfl rfl rfl (by kernel_rfl) (by simp) rfl rfl ?_
  repeat' first
    | (simp -implicitDefEqProofs only [pkA, ptA, ↓reduceIte, Nat.reduceEqDiff, Nat.reduceAdd, Nat.reduceBEq, Nat.reduceMul, Nat.reduceLT, Nat.reduceLeDiff, isMb_flb, pkP, List.length_map])
    | refine call_fn rfl (Compare_ok _ _) (fun _ => rfl) ?_
    | refine call_fn rfl (Or_ok [cmpI x.kind y.kind, cmpI x.a y.a, cmpI x.b y.b] (by simp)) (fun _ => rfl) ?_
  all_goals rfl
set_option maxHeartbeats 1000000 in
theorem quCmp_ok {G : Gl} (x y : Qu) : FnOK Tryd.prog G 36 (.agg (quC x) :: .agg (quC y) :: ([] : List C).map .c) (i64 (cmQu x y)) := by
  refine FnOK_by (rs := [.tmp 4]) false [] mixed Tryd.func36 rfl rfl rfl rfl (by kernel_rfl) (by simp) rfl rfl ?_
  repeat' first
    | (simp -implicitDefEqProofs only [pkA, ptA, ↓reduceIte, Nat.reduceEqDiff, Nat.reduceAdd, Nat.reduceBEq, Nat.reduceMul, Nat.reduceLT, Nat.reduceLeDiff, isMb_flb, pkP, List.length_map])
    | refine call_fn rfl (Compare_ok _ _) (fun _ => rfl) ?_
  all_goals rfl

/-! A box made by a call; what it holds. -/
section
variable {α : Type} {c : α → List C} {sz : Nat}
theorem flb_ren (ρ : Nat → Nat) (l : List α) : (flb c l).map (V.ren ρ) = flb c l := by
  unfold flb; rw [List.map_map]; exact List.map_congr_left fun x _ => rfl
theorem chunks_flat (hc : ∀ x, (c x).length = sz) : ∀ l : List α, chunks sz l.length (l.map c).flatten = l.map c
  | [] => rfl
  | x :: l => by
    simp only [List.length_cons, List.map_cons, List.flatten_cons, chunks]
    rw [List.take_left' (hc x), List.drop_left' (hc x), chunks_flat hc l]
theorem box_flb {fr : Nat → V} {bx : Nat → List V} {nb b : Nat} {l : List α} (hb : b < nb) (h : bx b = flb c l) : boxC ⟨fr, bx, nb⟩ b = some (l.map c).flatten := by
  unfold boxC; simp only [hb, if_true, h, flb]
  generalize (l.map c).flatten = cs
  induction cs with
  | nil => rfl
  | cons x cs ih => simp only [List.map_cons, List.mapM_cons, ih]; rfl
theorem view_flb (hc : ∀ x, (c x).length = sz) {fr : Nat → V} {bx : Nat → List V} {nb b n : Nat} {l : List α} (hb : b < nb) (h : bx b = flb c l) (hn : n = l.length) : viewC ⟨fr, bx, nb⟩ b 0 n sz = some (.sl (l.map c)) := by
  subst hn
  unfold viewC; rw [box_flb hb h]
  have : (l.map c).flatten.length = l.length * sz := by have := flb_len hc l; unfold flb at this; rwa [List.length_map] at this
  simp only [this, Nat.zero_add, Nat.le_refl, if_true, List.drop_zero, chunks_flat hc]
theorem callnew_box {P : Program} {G : Gl} {s : S} {f : V} {args all cargs : List V} {g : FuncId} {K : S → V → Prop} {L : List α} {o l cp z : Nat} (h1 : calleeV f args = some (g, all)) (hf : FnB P G g cargs [] (.ms 0 o l cp z) [flb c L]) (hall : all.map V.fz = cargs)
    (hn : s.nb = 0) (hK : K ⟨s.fr, up s.bx 0 (flb c L), 1⟩ (.ms 0 o l cp z)) : vcallB P G s f args K := by
  refine callB_new h1 hf hall ?_
  simp only [hn, setBx, flb_ren, List.length_cons, List.length_nil, Nat.zero_add]
  exact hK
end

set_option maxHeartbeats 1000000 in
theorem insertion_nil_ru {G : Gl} (f : C) : FnB Tryd.prog G 63 [.c (.sl []), i64 0, i64 ((0 : Nat) : Int), .c f] [] (.tup []) [] := by
  refine FnB_by (rs := []) (k := 0) [] mixed Tryd.func63 rfl rfl rfl rfl (by kernel_rfl) (by simp) rfl rfl rfl rfl (by simp) ?_
  have w : IntKind.i64.wrap (0 + 1) = 1 := by decide
  have d : decide ((1 : Int) < ((0 : Nat) : Int)) = false := rfl
  simp -implicitDefEqProofs only [pkA, ptA, ↓reduceIte, Nat.reduceEqDiff, Nat.reduceAdd, Nat.reduceBEq, Nat.reduceMul, Nat.reduceLT, Nat.reduceLeDiff, isMb_flb, pkP, List.length_map, w]
  refine run_loop (fun _ : Unit => hdS [(2, i64 ((0 : Nat) : Int)), (8, i64 1)] []) (fun _ => 0) (fun _ => True) () trivial ?_ ?_
  · refine le_hd rfl (Nat.zero_le _) (by simp) (by simp [FL, up_apply]) trivial
  rintro _ _ R hnorm hexit hret
  simp -implicitDefEqProofs only [pkA, ptA, ↓reduceIte, Nat.reduceEqDiff, Nat.reduceAdd, Nat.reduceBEq, Nat.reduceMul, Nat.reduceLT, Nat.reduceLeDiff, isMb_flb, pkP, List.length_map, d]
  refine hexit _ _ ?_
  simp -implicitDefEqProofs only [pkA, ptA, ↓reduceIte, Nat.reduceEqDiff, Nat.reduceAdd, Nat.reduceBEq, Nat.reduceMul, Nat.reduceLT, Nat.reduceLeDiff, isMb_flb, pkP, List.length_map]
  exact end_B [] rfl rfl (by simp) (by simp) trivial trivial retV_none
set_option maxHeartbeats 1000000 in
theorem stable_nil_ru {G : Gl} (f : C) : FnB Tryd.prog G 60 [.c (.sl []), i64 ((0 : Nat) : Int), .c f] [] (.tup []) [] := by
  refine FnB_by (rs := []) (k := 0) [1000018, 1000027, 1000043, 1000060] mixed Tryd.func60 rfl rfl rfl rfl (by kernel_rfl) (by simp) rfl rfl rfl rfl (by simp) ?_
  have d : decide ((20 : Int) ≤ ((0 : Nat) : Int)) = false := rfl
  have d2 : decide ((20 : Int) < ((0 : Nat) : Int)) = false := rfl
  simp -implicitDefEqProofs only [pkA, ptA, ↓reduceIte, Nat.reduceEqDiff, Nat.reduceAdd, Nat.reduceBEq, Nat.reduceMul, Nat.reduceLT, Nat.reduceLeDiff, isMb_flb, pkP, List.length_map]
  refine run_loop (fun _ : Unit => hdS [(0, .c (.sl [])), (1, i64 ((0 : Nat) : Int)), (2, .c f), (6, i64 20), (7, i64 0), (8, i64 20)] []) (fun _ => 0) (fun _ => True) () trivial ?_ ?_
  · refine le_hd rfl (Nat.zero_le _) (by simp) (by simp [FL, up_apply]) trivial
  rintro _ _ R hnorm hexit hret
  simp -implicitDefEqProofs only [pkA, ptA, ↓reduceIte, Nat.reduceEqDiff, Nat.reduceAdd, Nat.reduceBEq, Nat.reduceMul, Nat.reduceLT, Nat.reduceLeDiff, isMb_flb, pkP, List.length_map, d]
  refine hexit _ _ ?_
  simp -implicitDefEqProofs only [pkA, ptA, ↓reduceIte, Nat.reduceEqDiff, Nat.reduceAdd, Nat.reduceBEq, Nat.reduceMul, Nat.reduceLT, Nat.reduceLeDiff, isMb_flb, pkP, List.length_map]
  refine callB_new rfl (insertion_nil_ru f) rfl ?_
  simp -implicitDefEqProofs only [pkA, ptA, ↓reduceIte, Nat.reduceEqDiff, Nat.reduceAdd, Nat.reduceBEq, Nat.reduceMul, Nat.reduceLT, Nat.reduceLeDiff, isMb_flb, pkP, List.length_map, setBx]
  refine run_loop (fun _ : Unit => hdS [(1, i64 ((0 : Nat) : Int)), (6, i64 20)] []) (fun _ => 0) (fun _ => True) () trivial ?_ ?_
  · refine le_hd rfl (Nat.zero_le _) (by simp) (by simp [FL, up_apply]) trivial
  rintro _ _ R hnorm hexit hret
  simp -implicitDefEqProofs only [pkA, ptA, ↓reduceIte, Nat.reduceEqDiff, Nat.reduceAdd, Nat.reduceBEq, Nat.reduceMul, Nat.reduceLT, Nat.reduceLeDiff, isMb_flb, pkP, List.length_map, d2]
  refine hexit _ _ ?_
  simp -implicitDefEqProofs only [pkA, ptA, ↓reduceIte, Nat.reduceEqDiff, Nat.reduceAdd, Nat.reduceBEq, Nat.reduceMul, Nat.reduceLT, Nat.reduceLeDiff, isMb_flb, pkP, List.length_map]
  exact end_B [] rfl rfl (by simp) (by simp) trivial trivial retV_none
set_option maxHeartbeats 1000000 in
theorem SortStable_nil_ru {G : Gl} (f : C) : FnB Tryd.prog G 50 [.c (.sl []), .c f] [] (.tup []) [] := by
  refine FnB_by (rs := []) (k := 0) [1000008] mixed Tryd.func50 rfl rfl rfl rfl (by kernel_rfl) (by simp) rfl rfl rfl rfl (by simp) ?_
  simp -implicitDefEqProofs only [pkA, ptA, ↓reduceIte, Nat.reduceEqDiff, Nat.reduceAdd, Nat.reduceBEq, Nat.reduceMul, Nat.reduceLT, Nat.reduceLeDiff, isMb_flb, pkP, List.length_map]
  refine callB_new rfl (stable_nil_ru f) rfl ?_
  simp -implicitDefEqProofs only [pkA, ptA, ↓reduceIte, Nat.reduceEqDiff, Nat.reduceAdd, Nat.reduceBEq, Nat.reduceMul, Nat.reduceLT, Nat.reduceLeDiff, isMb_flb, pkP, List.length_map, setBx]
  exact end_B [] rfl rfl (by simp) (by simp) trivial trivial retV_none

set_option maxHeartbeats 1000000 in
theorem sorted_ru {G : Gl} (cm : Ru → Ru → Int) (hc : Cmp cm) (g : FuncId) (caps : List C) (hcm : ∀ x y, FnOK Tryd.prog G g (.agg (ruC x) :: .agg (ruC y) :: caps.map .c) (i64 (cm x y))) (l : List Ru) (hl : l.length < 1000000000) :
    FnOK Tryd.prog G 31 [.c (.sl (l.map ruC)), .c (.fn (.func g) [] caps)] (.c (.sl ((ssort cm l).map ruC))) := by
  refine FnOK_by (rs := [.tmp 4]) true [1000007, 1000010] mixed Tryd.func31 rfl rfl rfl rfl (by kernel_rfl) (by simp) rfl rfl ?_
  by_cases hne : l = []
  · subst hne
    simp -implicitDefEqProofs only [pkA, ptA, ↓reduceIte, Nat.reduceEqDiff, Nat.reduceAdd, Nat.reduceBEq, Nat.reduceMul, Nat.reduceLT, Nat.reduceLeDiff, isMb_flb, pkP, List.length_map]
    refine callB_new rfl CloneN_ru rfl ?_
    simp -implicitDefEqProofs only [pkA, ptA, ↓reduceIte, Nat.reduceEqDiff, Nat.reduceAdd, Nat.reduceBEq, Nat.reduceMul, Nat.reduceLT, Nat.reduceLeDiff, isMb_flb, pkP, List.length_map, setBx, V.ren]
    refine callB_new rfl (SortStable_nil_ru _) rfl ?_
    simp -implicitDefEqProofs only [pkA, ptA, ↓reduceIte, Nat.reduceEqDiff, Nat.reduceAdd, Nat.reduceBEq, Nat.reduceMul, Nat.reduceLT, Nat.reduceLeDiff, isMb_flb, pkP, List.length_map, setBx, V.ren, retV_fz]
    rfl
  · simp -implicitDefEqProofs only [pkA, ptA, ↓reduceIte, Nat.reduceEqDiff, Nat.reduceAdd, Nat.reduceBEq, Nat.reduceMul, Nat.reduceLT, Nat.reduceLeDiff, isMb_flb, pkP, List.length_map]
    refine callnew_box (L := l) rfl (CloneB_ru (l.map ruC) (by simpa using hne) (by simp [ruC_len]) (by simpa using hl)) rfl rfl ?_
    simp -implicitDefEqProofs only [pkA, ptA, ↓reduceIte, Nat.reduceEqDiff, Nat.reduceAdd, Nat.reduceBEq, Nat.reduceMul, Nat.reduceLT, Nat.reduceLeDiff, isMb_flb, pkP, List.length_map]
    refine call_box rfl (SortStable_ru cm hc g caps hcm l l.length l.length rfl (by omega)) (by simp [V.fz]) rfl (by simp) ?_
    simp -implicitDefEqProofs only [pkA, ptA, ↓reduceIte, Nat.reduceEqDiff, Nat.reduceAdd, Nat.reduceBEq, Nat.reduceMul, Nat.reduceLT, Nat.reduceLeDiff, isMb_flb, pkP, List.length_map, retV_fz]
    simp only [imm]
    rw [view_flb (l := ssort cm l) ruC_len (by decide) (by simp [up_apply]) (ssort_len l).symm]
    rfl
set_option maxHeartbeats 1000000 in
theorem insertion_nil_qu {G : Gl} (f : C) : FnB Tryd.prog G 65 [.c (.sl []), i64 0, i64 ((0 : Nat) : Int), .c f] [] (.tup []) [] := by
  refine FnB_by (rs := []) (k := 0) [] mixed Tryd.func65 rfl rfl rfl rfl (by kernel_rfl) (by simp) rfl rfl rfl rfl (by simp) ?_
  have w : IntKind.i64.wrap (0 + 1) = 1 := by decide
  have d : decide ((1 : Int) < ((0 : Nat) : Int)) = false := rfl
  simp -implicitDefEqProofs only [pkA, ptA, ↓reduceIte, Nat.reduceEqDiff, Nat.reduceAdd, Nat.reduceBEq, Nat.reduceMul, Nat.reduceLT, Nat.reduceLeDiff, isMb_flb, pkP, List.length_map, w]
  refine run_loop (fun _ : Unit => hdS [(2, i64 ((0 : Nat) : Int)), (8, i64 1)] []) (fun _ => 0) (fun _ => True) () trivial ?_ ?_
  · refine le_hd rfl (Nat.zero_le _) (by simp) (by simp [FL, up_apply]) trivial
  rintro _ _ R hnorm hexit hret
  simp -implicitDefEqProofs only [pkA, ptA, ↓reduceIte, Nat.reduceEqDiff, Nat.reduceAdd, Nat.reduceBEq, Nat.reduceMul, Nat.reduceLT, Nat.reduceLeDiff, isMb_flb, pkP, List.length_map, d]
  refine hexit _ _ ?_
  simp -implicitDefEqProofs only [pkA, ptA, ↓reduceIte, Nat.reduceEqDiff, Nat.reduceAdd, Nat.reduceBEq, Nat.reduceMul, Nat.reduceLT, Nat.reduceLeDiff, isMb_flb, pkP, List.length_map]
  exact end_B [] rfl rfl (by simp) (by simp) trivial trivial retV_none
set_option maxHeartbeats 1000000 in
theorem stable_nil_qu {G : Gl} (f : C) : FnB Tryd.prog G 61 [.c (.sl []), i64 ((0 : Nat) : Int), .c f] [] (.tup []) [] := by
  refine FnB_by (rs := []) (k := 0) [1000018, 1000027, 1000043, 1000060] mixed Tryd.func61 rfl rfl rfl rfl (by kernel_rfl) (by simp) rfl rfl rfl rfl (by simp) ?_
  have d : decide ((20 : Int) ≤ ((0 : Nat) : Int)) = false := rfl
  have d2 : decide ((20 : Int) < ((0 : Nat) : Int)) = false := rfl
  simp -implicitDefEqProofs only [pkA, ptA, ↓reduceIte, Nat.reduceEqDiff, Nat.reduceAdd, Nat.reduceBEq, Nat.reduceMul, Nat.reduceLT, Nat.reduceLeDiff, isMb_flb, pkP, List.length_map]
  refine run_loop (fun _ : Unit => hdS [(0, .c (.sl [])), (1, i64 ((0 : Nat) : Int)), (2, .c f), (6, i64 20), (7, i64 0), (8, i64 20)] []) (fun _ => 0) (fun _ => True) () trivial ?_ ?_
  · refine le_hd rfl (Nat.zero_le _) (by simp) (by simp [FL, up_apply]) trivial
  rintro _ _ R hnorm hexit hret
  simp -implicitDefEqProofs only [pkA, ptA, ↓reduceIte, Nat.reduceEqDiff, Nat.reduceAdd, Nat.reduceBEq, Nat.reduceMul, Nat.reduceLT, Nat.reduceLeDiff, isMb_flb, pkP, List.length_map, d]
  refine hexit _ _ ?_
  simp -implicitDefEqProofs only [pkA, ptA, ↓reduceIte, Nat.reduceEqDiff, Nat.reduceAdd, Nat.reduceBEq, Nat.reduceMul, Nat.reduceLT, Nat.reduceLeDiff, isMb_flb, pkP, List.length_map]
  refine callB_new rfl (insertion_nil_qu f) rfl ?_
  simp -implicitDefEqProofs only [pkA, ptA, ↓reduceIte, Nat.reduceEqDiff, Nat.reduceAdd, Nat.reduceBEq, Nat.reduceMul, Nat.reduceLT, Nat.reduceLeDiff, isMb_flb, pkP, List.length_map, setBx]
  refine run_loop (fun _ : Unit => hdS [(1, i64 ((0 : Nat) : Int)), (6, i64 20)] []) (fun _ => 0) (fun _ => True) () trivial ?_ ?_
  · refine le_hd rfl (Nat.zero_le _) (by simp) (by simp [FL, up_apply]) trivial
  rintro _ _ R hnorm hexit hret
  simp -implicitDefEqProofs only [pkA, ptA, ↓reduceIte, Nat.reduceEqDiff, Nat.reduceAdd, Nat.reduceBEq, Nat.reduceMul, Nat.reduceLT, Nat.reduceLeDiff, isMb_flb, pkP, List.length_map, d2]
  refine hexit _ _ ?_
  simp -implicitDefEqProofs only [pkA, ptA, ↓reduceIte, Nat.reduceEqDiff, Nat.reduceAdd, Nat.reduceBEq, Nat.reduceMul, Nat.reduceLT, Nat.reduceLeDiff, isMb_flb, pkP, List.length_map]
  exact end_B [] rfl rfl (by simp) (by simp) trivial trivial retV_none
set_option maxHeartbeats 1000000 in
theorem SortStable_nil_qu {G : Gl} (f : C) : FnB Tryd.prog G 53 [.c (.sl []), .c f] [] (.tup []) [] := by
  refine FnB_by (rs := []) (k := 0) [1000008] mixed Tryd.func53 rfl rfl rfl rfl (by kernel_rfl) (by simp) rfl rfl rfl rfl (by simp) ?_
  simp -implicitDefEqProofs only [pkA, ptA, ↓reduceIte, Nat.reduceEqDiff, Nat.reduceAdd, Nat.reduceBEq, Nat.reduceMul, Nat.reduceLT, Nat.reduceLeDiff, isMb_flb, pkP, List.length_map]
  refine callB_new rfl (stable_nil_qu f) rfl ?_
  simp -implicitDefEqProofs only [pkA, ptA, ↓reduceIte, Nat.reduceEqDiff, Nat.reduceAdd, Nat.reduceBEq, Nat.reduceMul, Nat.reduceLT, Nat.reduceLeDiff, isMb_flb, pkP, List.length_map, setBx]
  exact end_B [] rfl rfl (by simp) (by simp) trivial trivial retV_none

set_option maxHeartbeats 1000000 in
theorem sorted_qu {G : Gl} (cm : Qu → Qu → Int) (hc : Cmp cm) (g : FuncId) (caps : List C) (hcm : ∀ x y, FnOK Tryd.prog G g (.agg (quC x) :: .agg (quC y) :: caps.map .c) (i64 (cm x y))) (l : List Qu) (hl : l.length < 1000000000) :
    FnOK Tryd.prog G 35 [.c (.sl (l.map quC)), .c (.fn (.func g) [] caps)] (.c (.sl ((ssort cm l).map quC))) := by
  refine FnOK_by (rs := [.tmp 4]) true [1000007, 1000010] mixed Tryd.func35 rfl rfl rfl rfl (by kernel_rfl) (by simp) rfl rfl ?_
  by_cases hne : l = []
  · subst hne
    simp -implicitDefEqProofs only [pkA, ptA, ↓reduceIte, Nat.reduceEqDiff, Nat.reduceAdd, Nat.reduceBEq, Nat.reduceMul, Nat.reduceLT, Nat.reduceLeDiff, isMb_flb, pkP, List.length_map]
    refine callB_new rfl CloneN_qu rfl ?_
    simp -implicitDefEqProofs only [pkA, ptA, ↓reduceIte, Nat.reduceEqDiff, Nat.reduceAdd, Nat.reduceBEq, Nat.reduceMul, Nat.reduceLT, Nat.reduceLeDiff, isMb_flb, pkP, List.length_map, setBx, V.ren]
    refine callB_new rfl (SortStable_nil_qu _) rfl ?_
    simp -implicitDefEqProofs only [pkA, ptA, ↓reduceIte, Nat.reduceEqDiff, Nat.reduceAdd, Nat.reduceBEq, Nat.reduceMul, Nat.reduceLT, Nat.reduceLeDiff, isMb_flb, pkP, List.length_map, setBx, V.ren, retV_fz]
    rfl
  · simp -implicitDefEqProofs only [pkA, ptA, ↓reduceIte, Nat.reduceEqDiff, Nat.reduceAdd, Nat.reduceBEq, Nat.reduceMul, Nat.reduceLT, Nat.reduceLeDiff, isMb_flb, pkP, List.length_map]
    refine callnew_box (L := l) rfl (CloneB_qu (l.map quC) (by simpa using hne) (by simp [quC_len]) (by simpa using hl)) rfl rfl ?_
    simp -implicitDefEqProofs only [pkA, ptA, ↓reduceIte, Nat.reduceEqDiff, Nat.reduceAdd, Nat.reduceBEq, Nat.reduceMul, Nat.reduceLT, Nat.reduceLeDiff, isMb_flb, pkP, List.length_map]
    refine call_box rfl (SortStable_qu cm hc g caps hcm l l.length l.length rfl (by omega)) (by simp [V.fz]) rfl (by simp) ?_
    simp -implicitDefEqProofs only [pkA, ptA, ↓reduceIte, Nat.reduceEqDiff, Nat.reduceAdd, Nat.reduceBEq, Nat.reduceMul, Nat.reduceLT, Nat.reduceLeDiff, isMb_flb, pkP, List.length_map, retV_fz]
    simp only [imm]
    rw [view_flb (l := ssort cm l) quC_len (by decide) (by simp [up_apply]) (ssort_len l).symm]
    rfl

def normP (p : Pol) : Pol := ⟨p.name, p.types, ssort cmRu p.rules, ssort cmQu p.quorums⟩
/-- The lists of a policy are short. -/
def PolSm (p : Pol) : Prop := p.types.length < 1000000000 ∧ p.rules.length < 1000000000 ∧ p.quorums.length < 1000000000

set_option maxHeartbeats 2000000 in
theorem Normal_ok {G : Gl} (p : Pol) (hp : PolSm p) : FnOK Tryd.prog G 18 [.agg (poC p)] (.agg (poC (normP p))) := by
  refine FnOK_by (rs := [.cell 2 26]) false [] mixed Tryd.func18 rfl rfl rfl rfl (by kernel_rfl) (by simp) rfl rfl ?_
  repeat' first
    | (simp -implicitDefEqProofs only [pkA, ptA, ↓reduceIte, Nat.reduceEqDiff, Nat.reduceAdd, Nat.reduceBEq, Nat.reduceMul, Nat.reduceLT, Nat.reduceLeDiff, isMb_flb, pkP, List.length_map, setV_all])
    | refine call_fn rfl (CloneO_ty (p.types.map tyC) (by simp [tyC_len]) (by simpa using hp.1)) (fun h => by cases h) ?_
    | refine call_fn rfl (sorted_ru cmRu cmRu_ok _ [] ruCmp_ok p.rules hp.2.1) (fun h => by cases h) ?_
    | refine call_fn rfl (sorted_qu cmQu cmQu_ok _ [] quCmp_ok p.quorums hp.2.2) (fun h => by cases h) ?_
  all_goals rfl
end Go.Proofs.YtbhfbbfifmnniaaDoor
