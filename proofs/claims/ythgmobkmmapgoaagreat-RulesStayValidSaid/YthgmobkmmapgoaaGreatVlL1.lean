/- Layer 17: the law RulesFactsMatchSpec, as a contract. -/
import Derived.Test.YthgmobkmmapgoaaGreatVlS2
set_option linter.unusedSimpArgs false
set_option linter.unusedVariables false
namespace Go.Proofs.YthgmobkmmapgoaaGreat
open Go Go.Vl

variable {G : Gl}
set_option maxRecDepth 10000

theorem lok_po {p : Pol} {nb q : Nat} {K : V → Prop} : ldA nb q ((poC p).map .c) 0 4 K = (q < nb ∧ K (.agg (poC p))) := by
  unfold ldA
  exact propext ⟨fun h => ⟨h.1, h.2.2⟩, fun h => ⟨h.1, ⟨rfl, rfl⟩, h.2⟩⟩
theorem isMb_po {p : Pol} : isMb ((poC p).map V.c) = false := rfl
theorem lenFs {l : List Fa} {K : V → Prop} : vlen Tryz.prog 27 (.c (fsC l)) K = K (i64 l.length) := by unfold fsC; rw [len_27, List.length_map]
theorem pkW1 : type_of% (And.intro @pkI (And.intro @lok_po (And.intro @isMb_po (@lenFs)))) := And.intro @pkI (And.intro @lok_po (And.intro @isMb_po (@lenFs)))

end Go.Proofs.YthgmobkmmapgoaaGreat
