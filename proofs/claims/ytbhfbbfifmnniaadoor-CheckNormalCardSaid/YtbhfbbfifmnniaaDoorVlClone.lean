/- slices.Clone, at the types of this program: of a list with elements, a box; of one without, nothing. -/
import Derived.Test.YtbhfbbfifmnniaaDoorVlX
import Derived.Test.YtbhfbbfifmnniaaDoorVlGen
set_option linter.unusedSimpArgs false
set_option linter.unusedVariables false
namespace Go.Proofs.YtbhfbbfifmnniaaDoor
open Go Go.Vl

variable {G : Gl}

set_option maxHeartbeats 1000000 in
theorem CloneB_ty (es : List (List C)) (hne : es ≠ []) (hl : ∀ e ∈ es, e.length = 3) (hm : es.length < 1000000000) :
    FnB Tryd.prog G 30 [.c (.sl es)] [] (.ms 0 0 es.length es.length 3) [es.flatten.map .c] := by
  refine FnB_by (rs := [.tmp 2]) (k := 0) [2000007] mixed Tryd.func30 rfl rfl rfl rfl (by kernel_rfl) (by simp) rfl rfl rfl rfl (by simp) ?_
  have hie : es.isEmpty = false := by simpa using hne
  simp -implicitDefEqProofs only [pkA, ptA, ↓reduceIte, Nat.reduceEqDiff, Nat.reduceAdd, Nat.reduceBEq, Nat.reduceMul, Nat.reduceLT, Nat.reduceLeDiff, vnil_ne ti_22 rfl hne]
  rw [app_22]
  refine ⟨⟨.inl rfl, by simp⟩, ⟨by simp only [List.length_nil, Nat.zero_add]; omega, by simp only [List.length_nil, Nat.zero_add]; omega, hl⟩, ?_⟩
  simp -implicitDefEqProofs only [pkA, ptA, ↓reduceIte, Nat.reduceEqDiff, Nat.reduceAdd, Nat.reduceBEq, Nat.reduceMul, Nat.reduceLT, Nat.reduceLeDiff, hie]
  refine end_B [(2, .ms 0 0 es.length es.length 3)] rfl ?_ (by simp) (by simp) (by simp [FL, up_apply]) (by simp [BL, up_apply]) rfl
  simp only [leOk, List.all_cons, List.all_nil, all_ltB_c, List.length_cons, List.length_nil]; rfl

set_option maxHeartbeats 1000000 in
theorem CloneN_ty : FnB Tryd.prog G 30 [.c (.sl [])] [] (.ow none []) [] := by
  refine FnB_by (rs := [.tmp 2]) (k := 0) [7] mixed Tryd.func30 rfl rfl rfl rfl (by kernel_rfl) (by simp) rfl rfl rfl rfl (by simp) ?_
  simp -implicitDefEqProofs only [pkA, ptA, ↓reduceIte, Nat.reduceEqDiff, Nat.reduceAdd, Nat.reduceBEq, Nat.reduceMul, Nat.reduceLT, Nat.reduceLeDiff, vnil_nil ti_22 rfl]
  refine ⟨?_, ?_⟩
  · exact end_B [(2, .ow none [])] rfl rfl (by simp) (by simp) (by simp [FL, up_apply]) trivial rfl
  rw [app_22]
  refine ⟨⟨.inl rfl, by simp⟩, ⟨by simp, by simp, by simp⟩, ?_⟩
  simp -implicitDefEqProofs only [pkA, ptA, ↓reduceIte, Nat.reduceEqDiff, Nat.reduceAdd, Nat.reduceBEq, Nat.reduceMul, Nat.reduceLT, Nat.reduceLeDiff]
  exact end_B [(2, .ow none [])] rfl rfl (by simp) (by simp) (by simp [FL, up_apply]) trivial rfl

set_option maxHeartbeats 1000000 in
theorem CloneO_ty (es : List (List C)) (hl : ∀ e ∈ es, e.length = 3) (hm : es.length < 1000000000) :
    FnOK Tryd.prog G 30 [.c (.sl es)] (.ow (if es.isEmpty then none else some (46, 3)) es) := by
  refine FnOK_by (rs := [.tmp 2]) false [7] mixed Tryd.func30 rfl rfl rfl rfl (by kernel_rfl) (by simp) rfl rfl ?_
  by_cases hne : es = []
  · subst hne
    simp -implicitDefEqProofs only [pkA, ptA, ↓reduceIte, Nat.reduceEqDiff, Nat.reduceAdd, Nat.reduceBEq, Nat.reduceMul, Nat.reduceLT, Nat.reduceLeDiff, vnil_nil ti_22 rfl]
    rw [app_22]
    refine ⟨⟨.inl rfl, by simp⟩, ⟨by simp, by simp, by simp⟩, ?_⟩
    simp -implicitDefEqProofs only [pkA, ptA, ↓reduceIte, Nat.reduceEqDiff, Nat.reduceAdd, Nat.reduceBEq, Nat.reduceMul, Nat.reduceLT, Nat.reduceLeDiff]
  · have hie : es.isEmpty = false := by simpa using hne
    simp -implicitDefEqProofs only [pkA, ptA, ↓reduceIte, Nat.reduceEqDiff, Nat.reduceAdd, Nat.reduceBEq, Nat.reduceMul, Nat.reduceLT, Nat.reduceLeDiff, vnil_ne ti_22 rfl hne]
    rw [app_22]
    refine ⟨⟨.inl rfl, by simp⟩, ⟨by simp only [List.length_nil, Nat.zero_add]; omega, by simp only [List.length_nil, Nat.zero_add]; omega, hl⟩, ?_⟩
    simp -implicitDefEqProofs only [pkA, ptA, ↓reduceIte, Nat.reduceEqDiff, Nat.reduceAdd, Nat.reduceBEq, Nat.reduceMul, Nat.reduceLT, Nat.reduceLeDiff, hie]
set_option maxHeartbeats 1000000 in
theorem CloneB_ru (es : List (List C)) (hne : es ≠ []) (hl : ∀ e ∈ es, e.length = 3) (hm : es.length < 1000000000) :
    FnB Tryd.prog G 49 [.c (.sl es)] [] (.ms 0 0 es.length es.length 3) [es.flatten.map .c] := by
  refine FnB_by (rs := [.tmp 2]) (k := 0) [2000007] mixed Tryd.func49 rfl rfl rfl rfl (by kernel_rfl) (by simp) rfl rfl rfl rfl (by simp) ?_
  have hie : es.isEmpty = false := by simpa using hne
  simp -implicitDefEqProofs only [pkA, ptA, ↓reduceIte, Nat.reduceEqDiff, Nat.reduceAdd, Nat.reduceBEq, Nat.reduceMul, Nat.reduceLT, Nat.reduceLeDiff, vnil_ne ti_23 rfl hne]
  rw [app_23]
  refine ⟨⟨.inl rfl, by simp⟩, ⟨by simp only [List.length_nil, Nat.zero_add]; omega, by simp only [List.length_nil, Nat.zero_add]; omega, hl⟩, ?_⟩
  simp -implicitDefEqProofs only [pkA, ptA, ↓reduceIte, Nat.reduceEqDiff, Nat.reduceAdd, Nat.reduceBEq, Nat.reduceMul, Nat.reduceLT, Nat.reduceLeDiff, hie]
  refine end_B [(2, .ms 0 0 es.length es.length 3)] rfl ?_ (by simp) (by simp) (by simp [FL, up_apply]) (by simp [BL, up_apply]) rfl
  simp only [leOk, List.all_cons, List.all_nil, all_ltB_c, List.length_cons, List.length_nil]; rfl

set_option maxHeartbeats 1000000 in
theorem CloneN_ru : FnB Tryd.prog G 49 [.c (.sl [])] [] (.ow none []) [] := by
  refine FnB_by (rs := [.tmp 2]) (k := 0) [7] mixed Tryd.func49 rfl rfl rfl rfl (by kernel_rfl) (by simp) rfl rfl rfl rfl (by simp) ?_
  simp -implicitDefEqProofs only [pkA, ptA, ↓reduceIte, Nat.reduceEqDiff, Nat.reduceAdd, Nat.reduceBEq, Nat.reduceMul, Nat.reduceLT, Nat.reduceLeDiff, vnil_nil ti_23 rfl]
  refine ⟨?_, ?_⟩
  · exact end_B [(2, .ow none [])] rfl rfl (by simp) (by simp) (by simp [FL, up_apply]) trivial rfl
  rw [app_23]
  refine ⟨⟨.inl rfl, by simp⟩, ⟨by simp, by simp, by simp⟩, ?_⟩
  simp -implicitDefEqProofs only [pkA, ptA, ↓reduceIte, Nat.reduceEqDiff, Nat.reduceAdd, Nat.reduceBEq, Nat.reduceMul, Nat.reduceLT, Nat.reduceLeDiff]
  exact end_B [(2, .ow none [])] rfl rfl (by simp) (by simp) (by simp [FL, up_apply]) trivial rfl

set_option maxHeartbeats 1000000 in
theorem CloneO_ru (es : List (List C)) (hl : ∀ e ∈ es, e.length = 3) (hm : es.length < 1000000000) :
    FnOK Tryd.prog G 49 [.c (.sl es)] (.ow (if es.isEmpty then none else some (40, 3)) es) := by
  refine FnOK_by (rs := [.tmp 2]) false [7] mixed Tryd.func49 rfl rfl rfl rfl (by kernel_rfl) (by simp) rfl rfl ?_
  by_cases hne : es = []
  · subst hne
    simp -implicitDefEqProofs only [pkA, ptA, ↓reduceIte, Nat.reduceEqDiff, Nat.reduceAdd, Nat.reduceBEq, Nat.reduceMul, Nat.reduceLT, Nat.reduceLeDiff, vnil_nil ti_23 rfl]
    rw [app_23]
    refine ⟨⟨.inl rfl, by simp⟩, ⟨by simp, by simp, by simp⟩, ?_⟩
    simp -implicitDefEqProofs only [pkA, ptA, ↓reduceIte, Nat.reduceEqDiff, Nat.reduceAdd, Nat.reduceBEq, Nat.reduceMul, Nat.reduceLT, Nat.reduceLeDiff]
  · have hie : es.isEmpty = false := by simpa using hne
    simp -implicitDefEqProofs only [pkA, ptA, ↓reduceIte, Nat.reduceEqDiff, Nat.reduceAdd, Nat.reduceBEq, Nat.reduceMul, Nat.reduceLT, Nat.reduceLeDiff, vnil_ne ti_23 rfl hne]
    rw [app_23]
    refine ⟨⟨.inl rfl, by simp⟩, ⟨by simp only [List.length_nil, Nat.zero_add]; omega, by simp only [List.length_nil, Nat.zero_add]; omega, hl⟩, ?_⟩
    simp -implicitDefEqProofs only [pkA, ptA, ↓reduceIte, Nat.reduceEqDiff, Nat.reduceAdd, Nat.reduceBEq, Nat.reduceMul, Nat.reduceLT, Nat.reduceLeDiff, hie]
set_option maxHeartbeats 1000000 in
theorem CloneB_qu (es : List (List C)) (hne : es ≠ []) (hl : ∀ e ∈ es, e.length = 5) (hm : es.length < 1000000000) :
    FnB Tryd.prog G 52 [.c (.sl es)] [] (.ms 0 0 es.length es.length 5) [es.flatten.map .c] := by
  refine FnB_by (rs := [.tmp 2]) (k := 0) [2000007] mixed Tryd.func52 rfl rfl rfl rfl (by kernel_rfl) (by simp) rfl rfl rfl rfl (by simp) ?_
  have hie : es.isEmpty = false := by simpa using hne
  simp -implicitDefEqProofs only [pkA, ptA, ↓reduceIte, Nat.reduceEqDiff, Nat.reduceAdd, Nat.reduceBEq, Nat.reduceMul, Nat.reduceLT, Nat.reduceLeDiff, vnil_ne ti_24 rfl hne]
  rw [app_24]
  refine ⟨⟨.inl rfl, by simp⟩, ⟨by simp only [List.length_nil, Nat.zero_add]; omega, by simp only [List.length_nil, Nat.zero_add]; omega, hl⟩, ?_⟩
  simp -implicitDefEqProofs only [pkA, ptA, ↓reduceIte, Nat.reduceEqDiff, Nat.reduceAdd, Nat.reduceBEq, Nat.reduceMul, Nat.reduceLT, Nat.reduceLeDiff, hie]
  refine end_B [(2, .ms 0 0 es.length es.length 5)] rfl ?_ (by simp) (by simp) (by simp [FL, up_apply]) (by simp [BL, up_apply]) rfl
  simp only [leOk, List.all_cons, List.all_nil, all_ltB_c, List.length_cons, List.length_nil]; rfl

set_option maxHeartbeats 1000000 in
theorem CloneN_qu : FnB Tryd.prog G 52 [.c (.sl [])] [] (.ow none []) [] := by
  refine FnB_by (rs := [.tmp 2]) (k := 0) [7] mixed Tryd.func52 rfl rfl rfl rfl (by kernel_rfl) (by simp) rfl rfl rfl rfl (by simp) ?_
  simp -implicitDefEqProofs only [pkA, ptA, ↓reduceIte, Nat.reduceEqDiff, Nat.reduceAdd, Nat.reduceBEq, Nat.reduceMul, Nat.reduceLT, Nat.reduceLeDiff, vnil_nil ti_24 rfl]
  refine ⟨?_, ?_⟩
  · exact end_B [(2, .ow none [])] rfl rfl (by simp) (by simp) (by simp [FL, up_apply]) trivial rfl
  rw [app_24]
  refine ⟨⟨.inl rfl, by simp⟩, ⟨by simp, by simp, by simp⟩, ?_⟩
  simp -implicitDefEqProofs only [pkA, ptA, ↓reduceIte, Nat.reduceEqDiff, Nat.reduceAdd, Nat.reduceBEq, Nat.reduceMul, Nat.reduceLT, Nat.reduceLeDiff]
  exact end_B [(2, .ow none [])] rfl rfl (by simp) (by simp) (by simp [FL, up_apply]) trivial rfl

set_option maxHeartbeats 1000000 in
theorem CloneO_qu (es : List (List C)) (hl : ∀ e ∈ es, e.length = 5) (hm : es.length < 1000000000) :
    FnOK Tryd.prog G 52 [.c (.sl es)] (.ow (if es.isEmpty then none else some (42, 5)) es) := by
  refine FnOK_by (rs := [.tmp 2]) false [7] mixed Tryd.func52 rfl rfl rfl rfl (by kernel_rfl) (by simp) rfl rfl ?_
  by_cases hne : es = []
  · subst hne
    simp -implicitDefEqProofs only [pkA, ptA, ↓reduceIte, Nat.reduceEqDiff, Nat.reduceAdd, Nat.reduceBEq, Nat.reduceMul, Nat.reduceLT, Nat.reduceLeDiff, vnil_nil ti_24 rfl]
    rw [app_24]
    refine ⟨⟨.inl rfl, by simp⟩, ⟨by simp, by simp, by simp⟩, ?_⟩
    simp -implicitDefEqProofs only [pkA, ptA, ↓reduceIte, Nat.reduceEqDiff, Nat.reduceAdd, Nat.reduceBEq, Nat.reduceMul, Nat.reduceLT, Nat.reduceLeDiff]
  · have hie : es.isEmpty = false := by simpa using hne
    simp -implicitDefEqProofs only [pkA, ptA, ↓reduceIte, Nat.reduceEqDiff, Nat.reduceAdd, Nat.reduceBEq, Nat.reduceMul, Nat.reduceLT, Nat.reduceLeDiff, vnil_ne ti_24 rfl hne]
    rw [app_24]
    refine ⟨⟨.inl rfl, by simp⟩, ⟨by simp only [List.length_nil, Nat.zero_add]; omega, by simp only [List.length_nil, Nat.zero_add]; omega, hl⟩, ?_⟩
    simp -implicitDefEqProofs only [pkA, ptA, ↓reduceIte, Nat.reduceEqDiff, Nat.reduceAdd, Nat.reduceBEq, Nat.reduceMul, Nat.reduceLT, Nat.reduceLeDiff, hie]
end Go.Proofs.YtbhfbbfifmnniaaDoor
