/- Layer 17, the specification: Insert, Sorted, Bad; instances compared. -/
import Derived.Test.YthgmobkmmapgoaaGreatVlR2
set_option linter.unusedSimpArgs false
set_option linter.unusedVariables false
namespace Go.Proofs.YthgmobkmmapgoaaGreat
open Go Go.Vl
variable {G : Gl}
set_option maxRecDepth 4000
def InSm (x : In) : Prop := x.pre.length ≤ 1000000000 ∧ x.con.length ≤ 1000000000
section
variable {x : In} {nb q : Nat} {K : V → Prop}
theorem gin0 : ldB nb q ((inC x).map .c) 0 K = (q < nb ∧ K (i64 x.rule)) := rfl
theorem gin1 : ldB nb q ((inC x).map .c) 1 K = (q < nb ∧ K (.c (fsC x.pre))) := rfl
theorem gin2 : ldB nb q ((inC x).map .c) 2 K = (q < nb ∧ K (.c (fsC x.con))) := rfl
theorem isMb_in : isMb ((inC x).map V.c) = false := rfl
theorem lok_in : ldA nb q ((inC x).map .c) 0 3 K = (q < nb ∧ K (.agg (inC x))) := by
 unfold ldA
 exact propext ⟨fun h => ⟨h.1, h.2.2⟩, fun h => ⟨h.1, ⟨rfl, rfl⟩, h.2⟩⟩
end
theorem pkI : type_of% (And.intro @pkQ (And.intro @gin0 (And.intro @gin1 (And.intro @gin2 (And.intro @isMb_in (@lok_in)))))) := ⟨@pkQ, @gin0, @gin1, @gin2, @isMb_in, @lok_in⟩
set_option maxHeartbeats 2000000 in
theorem SameIn_ok (x y : In) (hx : InSm x) (hy : InSm y) : FnOK Tryz.prog G 31 [.agg (inC x), .agg (inC y)] (bo (decide (x = y))) := by
 refine FnOK_by (rs := [.tmp 4]) false [] mixed Tryz.func31 rfl rfl rfl rfl (by kernel_rfl) (by simp) rfl rfl ?_
 simp -implicitDefEqProofs only [pkA, ptA, ↓reduceIte, Nat.reduceEqDiff, Nat.reduceAdd, Nat.reduceMul, Nat.reduceLT, pkI]
 refine call_fn rfl (Same_ok x.pre y.pre hx.1) (fun _ => rfl) ?_
 simp -implicitDefEqProofs only [pkA, ptA, ↓reduceIte, Nat.reduceEqDiff, Nat.reduceAdd, Nat.reduceMul, Nat.reduceLT, pkI]
 refine call_fn rfl (Same_ok x.con y.con hx.2) (fun _ => rfl) ?_
 have key : (decide (x = y)) = (decide (x.pre = y.pre) && (decide (x.con = y.con) && decide (x.rule = y.rule))) := by
  rw [Bool.eq_iff_iff]
  simp only [decide_eq_true_eq, Bool.and_eq_true]
  constructor
  ·rintro rfl; exact ⟨rfl, rfl, rfl⟩
  ·rintro ⟨h1, h2, h3⟩
   cases x; cases y
   simp only at h1 h2 h3
   rw [h1, h2, h3]
 rw [key]
 repeat' first
  | (simp -implicitDefEqProofs only [pkA, ptA, ↓reduceIte, Nat.reduceEqDiff, Nat.reduceAdd, Nat.reduceMul, Nat.reduceLT, pkI])
  | refine vgd_of (fun h => ?_) (fun h => ?_)
 all_goals simp_all
def insC (l : List In) : C := .sl (l.map inC)
set_option maxHeartbeats 1000000 in
theorem lawsame_ok (a b : List In) (hm : a.length ≤ 1000000000) (ha : ∀ x ∈ a, InSm x) (hb : ∀ x ∈ b, InSm x) : FnOK Tryz.prog G 24 [.c (insC a), .c (insC b)] (bo (decide (a = b))) := by
 refine FnOK_by (rs := [.tmp 4]) false [] mixed Tryz.func24 rfl rfl rfl rfl (by kernel_rfl) (by simp) rfl rfl ?_
 simp -implicitDefEqProofs only [pkA, ptA, ↓reduceIte, Nat.reduceEqDiff, Nat.reduceAdd, insC, List.length_map]
 refine vcond_of (fun hne => ?_) (fun heq => ?_)
 ·have hne : a ≠ b := by rintro rfl; simp at hne
  simp -implicitDefEqProofs only [pkA, ↓reduceIte, Nat.reduceAdd]
  rw [decide_eq_false hne]
 ·have hlen : a.length = b.length := by simp at heq; omega
  simp -implicitDefEqProofs only [pkA, ↓reduceIte, Nat.reduceAdd]
  refine run_loop (fun i : Nat => hdS [(0, .c (.sl (a.map inC))), (1, .c (.sl (b.map inC))), (5, i64 i)] []) (fun i => a.length - i) (fun i => i ≤ a.length ∧ a.take i = b.take i) 0 ⟨Nat.zero_le _, rfl⟩ ?_ ?_
  ·exact le_hd rfl (Nat.zero_le _) (Nat.zero_le _) (by simp [FL, up_apply]) trivial
  rintro i ⟨hi, ht⟩ R hnorm hexit hret
  simp -implicitDefEqProofs only [pkA, ptA, ↓reduceIte, Nat.reduceEqDiff, Nat.reduceAdd, List.length_map]
  refine vcond_of (fun hlt => ?_) (fun hge => ?_)
  ·have hlt : i < a.length := by simpa using hlt
   have hlb : i < b.length := by omega
   have hw := wrap_of (n := (i : Int) + 1) (k := i + 1) (by omega) (by omega)
   simp -implicitDefEqProofs only [pkA, ↓reduceIte, Nat.reduceEqDiff, Nat.reduceAdd]
   refine ia_of ti_40 rfl ti_50 (by decide) (Int.natCast_nonneg i) (c := inC a[i]) (by simp [hlt]) rfl ?_
   simp -implicitDefEqProofs only [pkA, ptA, ↓reduceIte, Nat.reduceEqDiff, Nat.reduceAdd, pkF]
   refine ia_of ti_40 rfl ti_50 (by decide) (Int.natCast_nonneg i) (c := inC b[i]) (by simp [hlb]) rfl ?_
   simp -implicitDefEqProofs only [pkA, ptA, ↓reduceIte, Nat.reduceEqDiff, Nat.reduceAdd, pkF]
   refine call_fn rfl (SameIn_ok a[i] b[i] (ha _ (List.getElem_mem hlt)) (hb _ (List.getElem_mem hlb))) (fun _ => rfl) ?_
   simp -implicitDefEqProofs only [pkA, ↓reduceIte, Nat.reduceAdd]
   refine vcond_of (fun hn => ?_) (fun hy => ?_)
   ·have hn : a ≠ b := by rintro rfl; simp at hn
    simp -implicitDefEqProofs only [pkA, ↓reduceIte, Nat.reduceAdd]
    refine hret _ ?_
    simp -implicitDefEqProofs only [pkA, ↓reduceIte]
    rw [decide_eq_false hn]
   ·have hy : a[i] = b[i] := by simpa using hy
    simp -implicitDefEqProofs only [pkA, ↓reduceIte, Nat.reduceEqDiff, Nat.reduceAdd]
    refine hnorm (i + 1) _ ⟨hlt, ?_⟩ (by omega) (le_hd rfl (Nat.zero_le _) (Nat.zero_le _) (by simp [FL, up_apply, hw]) trivial)
    rw [List.take_succ_eq_append_getElem hlt, List.take_succ_eq_append_getElem hlb, ht, hy]
  ·have : i = a.length := by simp at hge; omega
   subst this
   simp -implicitDefEqProofs only [pkA]
   refine hexit _ _ ?_
   simp -implicitDefEqProofs only [pkA, ↓reduceIte, Nat.reduceAdd]
   rw [List.take_length, hlen, List.take_length] at ht
   rw [decide_eq_true ht]
def insP (l : List Fa) (f : Fa) : Nat := l.findIdx fun y => !ltF y f
def insR (l : List Fa) (f : Fa) : List Fa := if l[insP l f]? = some f then l else l.take (insP l f) ++ f :: l.drop (insP l f)
theorem insP_le {l : List Fa} {f : Fa} : insP l f ≤ l.length := List.findIdx_le_length
end Go.Proofs.YthgmobkmmapgoaaGreat
/- Layer 17, the specification: Sorted, Bad. -/
namespace Go.Proofs.YthgmobkmmapgoaaGreat
open Go Go.Vl
variable {G : Gl}
set_option maxRecDepth 4000
def insL (l : List Fa) : List Fa := l.foldl insR []
