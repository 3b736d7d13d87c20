/- Layer 17: the law RulesSetsMatchSpec, as a contract. -/
import Derived.Test.YthgmobkmmapgoaaGreatVlL1
set_option linter.unusedSimpArgs false
set_option linter.unusedVariables false
namespace Go.Proofs.YthgmobkmmapgoaaGreat
open Go Go.Vl
variable {G : Gl}
set_option maxRecDepth 10000
structure Twin (S T : List Fa) : Prop where
 nd : S.Nodup
 st : StF T
 mem : ∀ x, x ∈ S ↔ x ∈ T
theorem Twin.len {S T : List Fa} (h : Twin S T) : S.length = T.length :=
 ((List.perm_ext_iff_of_nodup h.nd h.st.nodup).2 h.mem).length_eq
