/- The types of the translation, as the framework sees them: closed facts, by the kernel. Printed by vltypes.py. -/
import Derived.Test.YthgmobkmmapgoaaGreatVlPack
import Derived.Test.YthgmobkmmapgoaaGreatChecked
import Derived.KernelRfl
set_option linter.unusedSimpArgs false
set_option linter.unusedVariables false
namespace Go.Proofs.YthgmobkmmapgoaaGreat
set_option linter.defProp false
open Go Go.Vl
variable {G : Gl} {tr : List Nat} {ty : TypeId} {d : Nat} {dO : Option Tmp} {pos : String} {af : Array Edge} {g : Option (Nat × Bool)} {fr : Nat → V} {bx : Nat → List V} {nb : Nat} {H : S → Prop} {s : S} {cs : List C} {o : Nat} {b : Nat} {l c z : Nat} {K : V → Prop} {t q : Option Tmp} {v : V} {x : V} {E : Option (TypeId × Nat)} {es ys : List (List C)} {y : ByteArray} {len : Nat} {parts : List (Nat × V)}
theorem ti_3 : ti Tryz.prog 3 = some { kd := .int .i64, size := 1, bytes := 8, agg := false, zero := some [.lit (.int .i64 0)], flds := [], eqs := some [.int] } := by kernel_rfl
theorem alc_3 : VStep Tryz.prog G tr ⟨some d, .alloc 3, ty, pos, af, g⟩ ⟨fr, bx, nb⟩ H = H ⟨up fr d (.bp nb 0), up bx nb [.c (.lit (.int .i64 0))], nb + 1⟩ := alc_of ti_3 rfl
theorem ld_3 : vload Tryz.prog 3 s (.c (.rp cs o)) K = partV false 1 o cs K := ld_cell ti_3 rfl rfl
theorem ldb_3 : vload Tryz.prog 3 ⟨fr, bx, nb⟩ (.bp b o) K = (isMb (bx b) = false ∧ ldB nb b (bx b) o K) := ldB_of ti_3 rfl
theorem sto_3 : stoK (ti Tryz.prog 3) t q (.bp b o) v ⟨fr, bx, nb⟩ H = (isMb (bx b) = false ∧ stS 1 t q b o v ⟨fr, bx, nb⟩ H) := by rw [ti_3]; exact stS_of rfl
theorem ti_4 : ti Tryz.prog 4 = some { kd := .bool, size := 1, bytes := 1, agg := false, zero := some [.lit (.bool false)], flds := [], eqs := some [.bool] } := by kernel_rfl
theorem alc_4 : VStep Tryz.prog G tr ⟨some d, .alloc 4, ty, pos, af, g⟩ ⟨fr, bx, nb⟩ H = H ⟨up fr d (.bp nb 0), up bx nb [.c (.lit (.bool false))], nb + 1⟩ := alc_of ti_4 rfl
theorem ld_4 : vload Tryz.prog 4 s (.c (.rp cs o)) K = partV false 1 o cs K := ld_cell ti_4 rfl rfl
theorem ldb_4 : vload Tryz.prog 4 ⟨fr, bx, nb⟩ (.bp b o) K = (isMb (bx b) = false ∧ ldB nb b (bx b) o K) := ldB_of ti_4 rfl
theorem sto_4 : stoK (ti Tryz.prog 4) t q (.bp b o) v ⟨fr, bx, nb⟩ H = (isMb (bx b) = false ∧ stS 1 t q b o v ⟨fr, bx, nb⟩ H) := by rw [ti_4]; exact stS_of rfl
theorem ti_5 : ti Tryz.prog 5 = some { kd := .int .u8, size := 1, bytes := 1, agg := false, zero := some [.lit (.int .u8 0)], flds := [], eqs := some [.int] } := by kernel_rfl
theorem ld_5 : vload Tryz.prog 5 s (.c (.rp cs o)) K = partV false 1 o cs K := ld_cell ti_5 rfl rfl
theorem ldb_5 : vload Tryz.prog 5 ⟨fr, bx, nb⟩ (.bp b o) K = (isMb (bx b) = false ∧ ldB nb b (bx b) o K) := ldB_of ti_5 rfl
theorem ti_22 : ti Tryz.prog 22 = some { kd := .slice 66, size := 1, bytes := 24, agg := false, zero := some [.sl []], flds := [], eqs := none } := by kernel_rfl
theorem len_22 : vlen Tryz.prog 22 (.c (.sl es)) K = K (.c (.lit (.int .i64 es.length))) := vlen_sl ti_22 rfl
theorem leno_22 : vlen Tryz.prog 22 (.ow E es) K = K (.c (.lit (.int .i64 es.length))) := vlen_ow ti_22 rfl
theorem lenm_22 : vlen Tryz.prog 22 (.ms b o l c z) K = K (.c (.lit (.int .i64 l))) := vlen_ms ti_22 rfl
theorem ld_22 : vload Tryz.prog 22 s (.c (.rp cs o)) K = partV false 1 o cs K := ld_cell ti_22 rfl rfl
theorem ldb_22 : vload Tryz.prog 22 ⟨fr, bx, nb⟩ (.bp b o) K = (isMb (bx b) = false ∧ ldB nb b (bx b) o K) := ldB_of ti_22 rfl
theorem ldz_22 : vloadZ Tryz.prog 22 ⟨fr, bx, nb⟩ (.bp b o) K = (isMb (bx b) = false ∧ ldZ nb b (bx b) o K) := ldZ_of ti_22 rfl
theorem ti_23 : ti Tryz.prog 23 = some { kd := .slice 55, size := 1, bytes := 24, agg := false, zero := some [.sl []], flds := [], eqs := none } := by kernel_rfl
theorem len_23 : vlen Tryz.prog 23 (.c (.sl es)) K = K (.c (.lit (.int .i64 es.length))) := vlen_sl ti_23 rfl
theorem leno_23 : vlen Tryz.prog 23 (.ow E es) K = K (.c (.lit (.int .i64 es.length))) := vlen_ow ti_23 rfl
theorem lenm_23 : vlen Tryz.prog 23 (.ms b o l c z) K = K (.c (.lit (.int .i64 l))) := vlen_ms ti_23 rfl
theorem ld_23 : vload Tryz.prog 23 s (.c (.rp cs o)) K = partV false 1 o cs K := ld_cell ti_23 rfl rfl
theorem ldb_23 : vload Tryz.prog 23 ⟨fr, bx, nb⟩ (.bp b o) K = (isMb (bx b) = false ∧ ldB nb b (bx b) o K) := ldB_of ti_23 rfl
theorem ldz_23 : vloadZ Tryz.prog 23 ⟨fr, bx, nb⟩ (.bp b o) K = (isMb (bx b) = false ∧ ldZ nb b (bx b) o K) := ldZ_of ti_23 rfl
theorem ti_26 : ti Tryz.prog 26 = some { kd := .struct, size := 4, bytes := 88, agg := true, zero := some [.lit (.string (ByteArray.mk #[])), .sl [], .sl [], .sl []], flds := [(0, 1, false), (1, 1, false), (2, 1, false), (3, 1, false)], eqs := none } := by kernel_rfl
theorem alc_26 : VStep Tryz.prog G tr ⟨some d, .alloc 26, ty, pos, af, g⟩ ⟨fr, bx, nb⟩ H = H ⟨up fr d (.bp nb 0), up bx nb [.c (.lit (.string (ByteArray.mk #[]))), .ow none [], .ow none [], .ow none []], nb + 1⟩ := alc_of ti_26 rfl
theorem ld_26 (h : cs.length = 4) : vload Tryz.prog 26 s (.c (.rp cs 0)) K = K (.agg cs) := ld_all ti_26 rfl h
theorem ldb_26 : vload Tryz.prog 26 ⟨fr, bx, nb⟩ (.bp b o) K = (isMb (bx b) = false ∧ ldA nb b (bx b) o 4 K) := ldA_of ti_26 rfl rfl
theorem blz_26 : vbuildZ Tryz.prog 26 parts K = bldZK K (fillM [(0, 1, false), (1, 1, false), (2, 1, false), (3, 1, false)] parts [.c (.lit (.string (ByteArray.mk #[]))), .ow none [], .ow none [], .ow none []]) := bldZ_of ti_26 rfl rfl rfl
theorem bld_26 : vbuild Tryz.prog 26 parts K = bldK [(0, 1, false), (1, 1, false), (2, 1, false), (3, 1, false)] [.lit (.string (ByteArray.mk #[])), .sl [], .sl [], .sl []] parts K (fillS [(0, 1, false), (1, 1, false), (2, 1, false), (3, 1, false)] parts [.lit (.string (ByteArray.mk #[])), .sl [], .sl [], .sl []]) := bld_of ti_26 rfl rfl rfl
theorem fa_26_1 : vfieldAddr Tryz.prog 26 (.c (.rp cs o)) 1 K = K (.c (.rp cs (o + 1))) := fa_rp ti_26 rfl (by decide)
theorem fab_26_1 : vfieldAddr Tryz.prog 26 (.bp b o) 1 K = K (.bp b (o + 1)) := fa_bp ti_26 rfl (by decide)
theorem fa_26_2 : vfieldAddr Tryz.prog 26 (.c (.rp cs o)) 2 K = K (.c (.rp cs (o + 2))) := fa_rp ti_26 rfl (by decide)
theorem fab_26_2 : vfieldAddr Tryz.prog 26 (.bp b o) 2 K = K (.bp b (o + 2)) := fa_bp ti_26 rfl (by decide)
theorem sto_26 : stoK (ti Tryz.prog 26) t q (.bp b o) v ⟨fr, bx, nb⟩ H = (isMb (bx b) = false ∧ stS 4 t q b o v ⟨fr, bx, nb⟩ H) := by rw [ti_26]; exact stS_of rfl
theorem ti_27 : ti Tryz.prog 27 = some { kd := .slice 29, size := 1, bytes := 24, agg := false, zero := some [.sl []], flds := [], eqs := none } := by kernel_rfl
theorem len_27 : vlen Tryz.prog 27 (.c (.sl es)) K = K (.c (.lit (.int .i64 es.length))) := vlen_sl ti_27 rfl
theorem leno_27 : vlen Tryz.prog 27 (.ow E es) K = K (.c (.lit (.int .i64 es.length))) := vlen_ow ti_27 rfl
theorem lenm_27 : vlen Tryz.prog 27 (.ms b o l c z) K = K (.c (.lit (.int .i64 l))) := vlen_ms ti_27 rfl
theorem alc_27 : VStep Tryz.prog G tr ⟨some d, .alloc 27, ty, pos, af, g⟩ ⟨fr, bx, nb⟩ H = H ⟨up fr d (.bp nb 0), up bx nb [.ow none []], nb + 1⟩ := alc_of ti_27 rfl
theorem ld_27 : vload Tryz.prog 27 s (.c (.rp cs o)) K = partV false 1 o cs K := ld_cell ti_27 rfl rfl
theorem ldb_27 : vload Tryz.prog 27 ⟨fr, bx, nb⟩ (.bp b o) K = (isMb (bx b) = false ∧ ldB nb b (bx b) o K) := ldB_of ti_27 rfl
theorem ldz_27 : vloadZ Tryz.prog 27 ⟨fr, bx, nb⟩ (.bp b o) K = (isMb (bx b) = false ∧ ldZ nb b (bx b) o K) := ldZ_of ti_27 rfl
theorem sto_27 : stoK (ti Tryz.prog 27) t q (.bp b o) v ⟨fr, bx, nb⟩ H = (isMb (bx b) = false ∧ stS 1 t q b o v ⟨fr, bx, nb⟩ H) := by rw [ti_27]; exact stS_of rfl
theorem ti_29 : ti Tryz.prog 29 = some { kd := .struct, size := 3, bytes := 24, agg := true, zero := some [.lit (.int .i64 0), .lit (.int .i64 0), .lit (.int .i64 0)], flds := [(0, 1, false), (1, 1, false), (2, 1, false)], eqs := some [.int, .int, .int] } := by kernel_rfl
theorem alc_29 : VStep Tryz.prog G tr ⟨some d, .alloc 29, ty, pos, af, g⟩ ⟨fr, bx, nb⟩ H = H ⟨up fr d (.bp nb 0), up bx nb [.c (.lit (.int .i64 0)), .c (.lit (.int .i64 0)), .c (.lit (.int .i64 0))], nb + 1⟩ := alc_of ti_29 rfl
theorem ld_29 (h : cs.length = 3) : vload Tryz.prog 29 s (.c (.rp cs 0)) K = K (.agg cs) := ld_all ti_29 rfl h
theorem ldb_29 : vload Tryz.prog 29 ⟨fr, bx, nb⟩ (.bp b o) K = (isMb (bx b) = false ∧ ldA nb b (bx b) o 3 K) := ldA_of ti_29 rfl rfl
theorem blz_29 : vbuildZ Tryz.prog 29 parts K = bldZK K (fillM [(0, 1, false), (1, 1, false), (2, 1, false)] parts [.c (.lit (.int .i64 0)), .c (.lit (.int .i64 0)), .c (.lit (.int .i64 0))]) := bldZ_of ti_29 rfl rfl rfl
theorem bld_29 : vbuild Tryz.prog 29 parts K = bldK [(0, 1, false), (1, 1, false), (2, 1, false)] [.lit (.int .i64 0), .lit (.int .i64 0), .lit (.int .i64 0)] parts K (fillS [(0, 1, false), (1, 1, false), (2, 1, false)] parts [.lit (.int .i64 0), .lit (.int .i64 0), .lit (.int .i64 0)]) := bld_of ti_29 rfl rfl rfl
theorem fa_29_0 : vfieldAddr Tryz.prog 29 (.c (.rp cs o)) 0 K = K (.c (.rp cs (o + 0))) := fa_rp ti_29 rfl (by decide)
theorem fab_29_0 : vfieldAddr Tryz.prog 29 (.bp b o) 0 K = K (.bp b (o + 0)) := fa_bp ti_29 rfl (by decide)
theorem fa_29_1 : vfieldAddr Tryz.prog 29 (.c (.rp cs o)) 1 K = K (.c (.rp cs (o + 1))) := fa_rp ti_29 rfl (by decide)
theorem fab_29_1 : vfieldAddr Tryz.prog 29 (.bp b o) 1 K = K (.bp b (o + 1)) := fa_bp ti_29 rfl (by decide)
theorem fa_29_2 : vfieldAddr Tryz.prog 29 (.c (.rp cs o)) 2 K = K (.c (.rp cs (o + 2))) := fa_rp ti_29 rfl (by decide)
theorem fab_29_2 : vfieldAddr Tryz.prog 29 (.bp b o) 2 K = K (.bp b (o + 2)) := fa_bp ti_29 rfl (by decide)
theorem sto_29 : stoK (ti Tryz.prog 29) t q (.bp b o) v ⟨fr, bx, nb⟩ H = (isMb (bx b) = false ∧ stS 3 t q b o v ⟨fr, bx, nb⟩ H) := by rw [ti_29]; exact stS_of rfl
theorem ti_30 : ti Tryz.prog 30 = some { kd := .other, size := 1, bytes := 8, agg := false, zero := some [.lit .nilFunc], flds := [], eqs := none } := by kernel_rfl
theorem ld_30 : vload Tryz.prog 30 s (.c (.rp cs o)) K = partV false 1 o cs K := ld_cell ti_30 rfl rfl
theorem ldb_30 : vload Tryz.prog 30 ⟨fr, bx, nb⟩ (.bp b o) K = (isMb (bx b) = false ∧ ldB nb b (bx b) o K) := ldB_of ti_30 rfl
theorem ti_40 : ti Tryz.prog 40 = some { kd := .slice 50, size := 1, bytes := 24, agg := false, zero := some [.sl []], flds := [], eqs := none } := by kernel_rfl
theorem len_40 : vlen Tryz.prog 40 (.c (.sl es)) K = K (.c (.lit (.int .i64 es.length))) := vlen_sl ti_40 rfl
theorem leno_40 : vlen Tryz.prog 40 (.ow E es) K = K (.c (.lit (.int .i64 es.length))) := vlen_ow ti_40 rfl
theorem lenm_40 : vlen Tryz.prog 40 (.ms b o l c z) K = K (.c (.lit (.int .i64 l))) := vlen_ms ti_40 rfl
theorem alc_40 : VStep Tryz.prog G tr ⟨some d, .alloc 40, ty, pos, af, g⟩ ⟨fr, bx, nb⟩ H = H ⟨up fr d (.bp nb 0), up bx nb [.ow none []], nb + 1⟩ := alc_of ti_40 rfl
theorem ld_40 : vload Tryz.prog 40 s (.c (.rp cs o)) K = partV false 1 o cs K := ld_cell ti_40 rfl rfl
theorem ldb_40 : vload Tryz.prog 40 ⟨fr, bx, nb⟩ (.bp b o) K = (isMb (bx b) = false ∧ ldB nb b (bx b) o K) := ldB_of ti_40 rfl
theorem ldz_40 : vloadZ Tryz.prog 40 ⟨fr, bx, nb⟩ (.bp b o) K = (isMb (bx b) = false ∧ ldZ nb b (bx b) o K) := ldZ_of ti_40 rfl
theorem sto_40 : stoK (ti Tryz.prog 40) t q (.bp b o) v ⟨fr, bx, nb⟩ H = (isMb (bx b) = false ∧ stS 1 t q b o v ⟨fr, bx, nb⟩ H) := by rw [ti_40]; exact stS_of rfl
theorem ti_50 : ti Tryz.prog 50 = some { kd := .struct, size := 3, bytes := 56, agg := true, zero := some [.lit (.int .i64 0), .sl [], .sl []], flds := [(0, 1, false), (1, 1, false), (2, 1, false)], eqs := none } := by kernel_rfl
theorem alc_50 : VStep Tryz.prog G tr ⟨some d, .alloc 50, ty, pos, af, g⟩ ⟨fr, bx, nb⟩ H = H ⟨up fr d (.bp nb 0), up bx nb [.c (.lit (.int .i64 0)), .ow none [], .ow none []], nb + 1⟩ := alc_of ti_50 rfl
theorem ld_50 (h : cs.length = 3) : vload Tryz.prog 50 s (.c (.rp cs 0)) K = K (.agg cs) := ld_all ti_50 rfl h
theorem ldb_50 : vload Tryz.prog 50 ⟨fr, bx, nb⟩ (.bp b o) K = (isMb (bx b) = false ∧ ldA nb b (bx b) o 3 K) := ldA_of ti_50 rfl rfl
theorem blz_50 : vbuildZ Tryz.prog 50 parts K = bldZK K (fillM [(0, 1, false), (1, 1, false), (2, 1, false)] parts [.c (.lit (.int .i64 0)), .ow none [], .ow none []]) := bldZ_of ti_50 rfl rfl rfl
theorem bld_50 : vbuild Tryz.prog 50 parts K = bldK [(0, 1, false), (1, 1, false), (2, 1, false)] [.lit (.int .i64 0), .sl [], .sl []] parts K (fillS [(0, 1, false), (1, 1, false), (2, 1, false)] parts [.lit (.int .i64 0), .sl [], .sl []]) := bld_of ti_50 rfl rfl rfl
theorem fa_50_0 : vfieldAddr Tryz.prog 50 (.c (.rp cs o)) 0 K = K (.c (.rp cs (o + 0))) := fa_rp ti_50 rfl (by decide)
theorem fab_50_0 : vfieldAddr Tryz.prog 50 (.bp b o) 0 K = K (.bp b (o + 0)) := fa_bp ti_50 rfl (by decide)
theorem fa_50_1 : vfieldAddr Tryz.prog 50 (.c (.rp cs o)) 1 K = K (.c (.rp cs (o + 1))) := fa_rp ti_50 rfl (by decide)
theorem fab_50_1 : vfieldAddr Tryz.prog 50 (.bp b o) 1 K = K (.bp b (o + 1)) := fa_bp ti_50 rfl (by decide)
theorem fa_50_2 : vfieldAddr Tryz.prog 50 (.c (.rp cs o)) 2 K = K (.c (.rp cs (o + 2))) := fa_rp ti_50 rfl (by decide)
theorem fab_50_2 : vfieldAddr Tryz.prog 50 (.bp b o) 2 K = K (.bp b (o + 2)) := fa_bp ti_50 rfl (by decide)
theorem sto_50 : stoK (ti Tryz.prog 50) t q (.bp b o) v ⟨fr, bx, nb⟩ H = (isMb (bx b) = false ∧ stS 3 t q b o v ⟨fr, bx, nb⟩ H) := by rw [ti_50]; exact stS_of rfl
theorem ti_55 : ti Tryz.prog 55 = some { kd := .struct, size := 3, bytes := 24, agg := true, zero := some [.lit (.int .i64 0), .lit (.int .i64 0), .lit (.int .i64 0)], flds := [(0, 1, false), (1, 1, false), (2, 1, false)], eqs := some [.int, .int, .int] } := by kernel_rfl
theorem alc_55 : VStep Tryz.prog G tr ⟨some d, .alloc 55, ty, pos, af, g⟩ ⟨fr, bx, nb⟩ H = H ⟨up fr d (.bp nb 0), up bx nb [.c (.lit (.int .i64 0)), .c (.lit (.int .i64 0)), .c (.lit (.int .i64 0))], nb + 1⟩ := alc_of ti_55 rfl
theorem ld_55 (h : cs.length = 3) : vload Tryz.prog 55 s (.c (.rp cs 0)) K = K (.agg cs) := ld_all ti_55 rfl h
theorem ldb_55 : vload Tryz.prog 55 ⟨fr, bx, nb⟩ (.bp b o) K = (isMb (bx b) = false ∧ ldA nb b (bx b) o 3 K) := ldA_of ti_55 rfl rfl
theorem blz_55 : vbuildZ Tryz.prog 55 parts K = bldZK K (fillM [(0, 1, false), (1, 1, false), (2, 1, false)] parts [.c (.lit (.int .i64 0)), .c (.lit (.int .i64 0)), .c (.lit (.int .i64 0))]) := bldZ_of ti_55 rfl rfl rfl
theorem bld_55 : vbuild Tryz.prog 55 parts K = bldK [(0, 1, false), (1, 1, false), (2, 1, false)] [.lit (.int .i64 0), .lit (.int .i64 0), .lit (.int .i64 0)] parts K (fillS [(0, 1, false), (1, 1, false), (2, 1, false)] parts [.lit (.int .i64 0), .lit (.int .i64 0), .lit (.int .i64 0)]) := bld_of ti_55 rfl rfl rfl
theorem fa_55_0 : vfieldAddr Tryz.prog 55 (.c (.rp cs o)) 0 K = K (.c (.rp cs (o + 0))) := fa_rp ti_55 rfl (by decide)
theorem fab_55_0 : vfieldAddr Tryz.prog 55 (.bp b o) 0 K = K (.bp b (o + 0)) := fa_bp ti_55 rfl (by decide)
theorem fa_55_1 : vfieldAddr Tryz.prog 55 (.c (.rp cs o)) 1 K = K (.c (.rp cs (o + 1))) := fa_rp ti_55 rfl (by decide)
theorem fab_55_1 : vfieldAddr Tryz.prog 55 (.bp b o) 1 K = K (.bp b (o + 1)) := fa_bp ti_55 rfl (by decide)
theorem fa_55_2 : vfieldAddr Tryz.prog 55 (.c (.rp cs o)) 2 K = K (.c (.rp cs (o + 2))) := fa_rp ti_55 rfl (by decide)
theorem fab_55_2 : vfieldAddr Tryz.prog 55 (.bp b o) 2 K = K (.bp b (o + 2)) := fa_bp ti_55 rfl (by decide)
theorem sto_55 : stoK (ti Tryz.prog 55) t q (.bp b o) v ⟨fr, bx, nb⟩ H = (isMb (bx b) = false ∧ stS 3 t q b o v ⟨fr, bx, nb⟩ H) := by rw [ti_55]; exact stS_of rfl
theorem ti_58 : ti Tryz.prog 58 = some { kd := .ptr 87, size := 1, bytes := 8, agg := false, zero := some [.lit (.pointer none)], flds := [], eqs := none } := by kernel_rfl
theorem alc_58 : VStep Tryz.prog G tr ⟨some d, .alloc 58, ty, pos, af, g⟩ ⟨fr, bx, nb⟩ H = H ⟨up fr d (.bp nb 0), up bx nb [.c (.lit (.pointer none))], nb + 1⟩ := alc_of ti_58 rfl
theorem ld_58 : vload Tryz.prog 58 s (.c (.rp cs o)) K = partV false 1 o cs K := ld_cell ti_58 rfl rfl
theorem ldb_58 : vload Tryz.prog 58 ⟨fr, bx, nb⟩ (.bp b o) K = (isMb (bx b) = false ∧ ldB nb b (bx b) o K) := ldB_of ti_58 rfl
theorem sto_58 : stoK (ti Tryz.prog 58) t q (.bp b o) v ⟨fr, bx, nb⟩ H = (isMb (bx b) = false ∧ stS 1 t q b o v ⟨fr, bx, nb⟩ H) := by rw [ti_58]; exact stS_of rfl
theorem ti_66 : ti Tryz.prog 66 = some { kd := .struct, size := 3, bytes := 32, agg := true, zero := some [.lit (.string (ByteArray.mk #[])), .lit (.int .i64 0), .lit (.int .i64 0)], flds := [(0, 1, false), (1, 1, false), (2, 1, false)], eqs := some [.str, .int, .int] } := by kernel_rfl
theorem blz_66 : vbuildZ Tryz.prog 66 parts K = bldZK K (fillM [(0, 1, false), (1, 1, false), (2, 1, false)] parts [.c (.lit (.string (ByteArray.mk #[]))), .c (.lit (.int .i64 0)), .c (.lit (.int .i64 0))]) := bldZ_of ti_66 rfl rfl rfl
theorem bld_66 : vbuild Tryz.prog 66 parts K = bldK [(0, 1, false), (1, 1, false), (2, 1, false)] [.lit (.string (ByteArray.mk #[])), .lit (.int .i64 0), .lit (.int .i64 0)] parts K (fillS [(0, 1, false), (1, 1, false), (2, 1, false)] parts [.lit (.string (ByteArray.mk #[])), .lit (.int .i64 0), .lit (.int .i64 0)]) := bld_of ti_66 rfl rfl rfl
theorem fa_66_1 : vfieldAddr Tryz.prog 66 (.c (.rp cs o)) 1 K = K (.c (.rp cs (o + 1))) := fa_rp ti_66 rfl (by decide)
theorem fab_66_1 : vfieldAddr Tryz.prog 66 (.bp b o) 1 K = K (.bp b (o + 1)) := fa_bp ti_66 rfl (by decide)
theorem ti_71 : ti Tryz.prog 71 = some { kd := .slice 3, size := 1, bytes := 24, agg := false, zero := some [.sl []], flds := [], eqs := none } := by kernel_rfl
theorem len_71 : vlen Tryz.prog 71 (.c (.sl es)) K = K (.c (.lit (.int .i64 es.length))) := vlen_sl ti_71 rfl
theorem leno_71 : vlen Tryz.prog 71 (.ow E es) K = K (.c (.lit (.int .i64 es.length))) := vlen_ow ti_71 rfl
theorem lenm_71 : vlen Tryz.prog 71 (.ms b o l c z) K = K (.c (.lit (.int .i64 l))) := vlen_ms ti_71 rfl
theorem ti_74 : ti Tryz.prog 74 = some { kd := .other, size := 1, bytes := 8, agg := false, zero := some [.lit .nilFunc], flds := [], eqs := none } := by kernel_rfl
theorem ld_74 : vload Tryz.prog 74 s (.c (.rp cs o)) K = partV false 1 o cs K := ld_cell ti_74 rfl rfl
theorem ldb_74 : vload Tryz.prog 74 ⟨fr, bx, nb⟩ (.bp b o) K = (isMb (bx b) = false ∧ ldB nb b (bx b) o K) := ldB_of ti_74 rfl
theorem ti_75 : ti Tryz.prog 75 = some { kd := .ptr 78, size := 1, bytes := 8, agg := false, zero := some [.lit (.pointer none)], flds := [], eqs := none } := by kernel_rfl
theorem ld_75 : vload Tryz.prog 75 s (.c (.rp cs o)) K = partV false 1 o cs K := ld_cell ti_75 rfl rfl
theorem ldb_75 : vload Tryz.prog 75 ⟨fr, bx, nb⟩ (.bp b o) K = (isMb (bx b) = false ∧ ldB nb b (bx b) o K) := ldB_of ti_75 rfl
theorem ti_76 : ti Tryz.prog 76 = some { kd := .ptr 29, size := 1, bytes := 8, agg := false, zero := some [.lit (.pointer none)], flds := [], eqs := none } := by kernel_rfl
theorem ld_76 : vload Tryz.prog 76 s (.c (.rp cs o)) K = partV false 1 o cs K := ld_cell ti_76 rfl rfl
theorem ldb_76 : vload Tryz.prog 76 ⟨fr, bx, nb⟩ (.bp b o) K = (isMb (bx b) = false ∧ ldB nb b (bx b) o K) := ldB_of ti_76 rfl
theorem ti_78 : ti Tryz.prog 78 = some { kd := .struct, size := 7, bytes := 112, agg := true, zero := some [.lit (.string (ByteArray.mk #[])), .sl [], .sl [], .sl [], .lit (.int .i64 0), .lit (.pointer none), .lit .nilFunc], flds := [(0, 4, true), (4, 1, false), (5, 1, false), (6, 1, false)], eqs := none } := by kernel_rfl
theorem blz_78 : vbuildZ Tryz.prog 78 parts K = bldZK K (fillM [(0, 4, true), (4, 1, false), (5, 1, false), (6, 1, false)] parts [.c (.lit (.string (ByteArray.mk #[]))), .ow none [], .ow none [], .ow none [], .c (.lit (.int .i64 0)), .c (.lit (.pointer none)), .c (.lit .nilFunc)]) := bldZ_of ti_78 rfl rfl rfl
theorem bld_78 : vbuild Tryz.prog 78 parts K = bldK [(0, 4, true), (4, 1, false), (5, 1, false), (6, 1, false)] [.lit (.string (ByteArray.mk #[])), .sl [], .sl [], .sl [], .lit (.int .i64 0), .lit (.pointer none), .lit .nilFunc] parts K (fillS [(0, 4, true), (4, 1, false), (5, 1, false), (6, 1, false)] parts [.lit (.string (ByteArray.mk #[])), .sl [], .sl [], .sl [], .lit (.int .i64 0), .lit (.pointer none), .lit .nilFunc]) := bld_of ti_78 rfl rfl rfl
theorem fa_78_0 : vfieldAddr Tryz.prog 78 (.c (.rp cs o)) 0 K = K (.c (.rp cs (o + 0))) := fa_rp ti_78 rfl (by decide)
theorem fab_78_0 : vfieldAddr Tryz.prog 78 (.bp b o) 0 K = K (.bp b (o + 0)) := fa_bp ti_78 rfl (by decide)
theorem fa_78_1 : vfieldAddr Tryz.prog 78 (.c (.rp cs o)) 1 K = K (.c (.rp cs (o + 4))) := fa_rp ti_78 rfl (by decide)
theorem fab_78_1 : vfieldAddr Tryz.prog 78 (.bp b o) 1 K = K (.bp b (o + 4)) := fa_bp ti_78 rfl (by decide)
theorem fa_78_2 : vfieldAddr Tryz.prog 78 (.c (.rp cs o)) 2 K = K (.c (.rp cs (o + 5))) := fa_rp ti_78 rfl (by decide)
theorem fab_78_2 : vfieldAddr Tryz.prog 78 (.bp b o) 2 K = K (.bp b (o + 5)) := fa_bp ti_78 rfl (by decide)
theorem fa_78_3 : vfieldAddr Tryz.prog 78 (.c (.rp cs o)) 3 K = K (.c (.rp cs (o + 6))) := fa_rp ti_78 rfl (by decide)
theorem fab_78_3 : vfieldAddr Tryz.prog 78 (.bp b o) 3 K = K (.bp b (o + 6)) := fa_bp ti_78 rfl (by decide)
theorem ti_82 : ti Tryz.prog 82 = some { kd := .struct, size := 6, bytes := 120, agg := true, zero := some [.lit (.string (ByteArray.mk #[])), .sl [], .sl [], .sl [], .lit (.int .i64 0), .sl []], flds := [(0, 4, true), (4, 1, false), (5, 1, false)], eqs := none } := by kernel_rfl
theorem blz_82 : vbuildZ Tryz.prog 82 parts K = bldZK K (fillM [(0, 4, true), (4, 1, false), (5, 1, false)] parts [.c (.lit (.string (ByteArray.mk #[]))), .ow none [], .ow none [], .ow none [], .c (.lit (.int .i64 0)), .ow none []]) := bldZ_of ti_82 rfl rfl rfl
theorem bld_82 : vbuild Tryz.prog 82 parts K = bldK [(0, 4, true), (4, 1, false), (5, 1, false)] [.lit (.string (ByteArray.mk #[])), .sl [], .sl [], .sl [], .lit (.int .i64 0), .sl []] parts K (fillS [(0, 4, true), (4, 1, false), (5, 1, false)] parts [.lit (.string (ByteArray.mk #[])), .sl [], .sl [], .sl [], .lit (.int .i64 0), .sl []]) := bld_of ti_82 rfl rfl rfl
theorem fa_82_0 : vfieldAddr Tryz.prog 82 (.c (.rp cs o)) 0 K = K (.c (.rp cs (o + 0))) := fa_rp ti_82 rfl (by decide)
theorem fab_82_0 : vfieldAddr Tryz.prog 82 (.bp b o) 0 K = K (.bp b (o + 0)) := fa_bp ti_82 rfl (by decide)
theorem fa_82_1 : vfieldAddr Tryz.prog 82 (.c (.rp cs o)) 1 K = K (.c (.rp cs (o + 4))) := fa_rp ti_82 rfl (by decide)
theorem fab_82_1 : vfieldAddr Tryz.prog 82 (.bp b o) 1 K = K (.bp b (o + 4)) := fa_bp ti_82 rfl (by decide)
theorem fa_82_2 : vfieldAddr Tryz.prog 82 (.c (.rp cs o)) 2 K = K (.c (.rp cs (o + 5))) := fa_rp ti_82 rfl (by decide)
theorem fab_82_2 : vfieldAddr Tryz.prog 82 (.bp b o) 2 K = K (.bp b (o + 5)) := fa_bp ti_82 rfl (by decide)
theorem ti_85 : ti Tryz.prog 85 = some { kd := .map 29 4, size := 1, bytes := 8, agg := false, zero := some [.lit (.map none)], flds := [], eqs := none } := by kernel_rfl
theorem mkm_85 : VStep Tryz.prog G tr ⟨dO, .makeMap 85 none, ty, pos, af, g⟩ ⟨fr, bx, nb⟩ H = H ((⟨fr, up bx nb [.mk [] 0], nb + 1⟩ : S).put dO (.mr nb)) := st_makeMap ti_85 rfl
theorem ldb_85 : vload Tryz.prog 85 ⟨fr, bx, nb⟩ (.bp b o) K = (isMb (bx b) = false ∧ ldB nb b (bx b) o K) := ldB_of ti_85 rfl
theorem za_4 : zaB Tryz.prog 4 = true := by kernel_rfl
theorem ti_87 : ti Tryz.prog 87 = some { kd := .struct, size := 1, bytes := 8, agg := true, zero := some [.lit (.map none)], flds := [(0, 1, false)], eqs := none } := by kernel_rfl
theorem blz_87 : vbuildZ Tryz.prog 87 parts K = bldZK K (fillM [(0, 1, false)] parts [.c (.lit (.map none))]) := bldZ_of ti_87 rfl rfl rfl
theorem bld_87 : vbuild Tryz.prog 87 parts K = bldK [(0, 1, false)] [.lit (.map none)] parts K (fillS [(0, 1, false)] parts [.lit (.map none)]) := bld_of ti_87 rfl rfl rfl
theorem fa_87_0 : vfieldAddr Tryz.prog 87 (.c (.rp cs o)) 0 K = K (.c (.rp cs (o + 0))) := fa_rp ti_87 rfl (by decide)
theorem fab_87_0 : vfieldAddr Tryz.prog 87 (.bp b o) 0 K = K (.bp b (o + 0)) := fa_bp ti_87 rfl (by decide)
theorem ti_93 : ti Tryz.prog 93 = some { kd := .other, size := 1, bytes := 8, agg := false, zero := some [.lit .nilFunc], flds := [], eqs := none } := by kernel_rfl
theorem ld_93 : vload Tryz.prog 93 s (.c (.rp cs o)) K = partV false 1 o cs K := ld_cell ti_93 rfl rfl
theorem ldb_93 : vload Tryz.prog 93 ⟨fr, bx, nb⟩ (.bp b o) K = (isMb (bx b) = false ∧ ldB nb b (bx b) o K) := ldB_of ti_93 rfl
theorem ti_94 : ti Tryz.prog 94 = some { kd := .slice 30, size := 1, bytes := 24, agg := false, zero := some [.sl []], flds := [], eqs := none } := by kernel_rfl
theorem len_94 : vlen Tryz.prog 94 (.c (.sl es)) K = K (.c (.lit (.int .i64 es.length))) := vlen_sl ti_94 rfl
theorem leno_94 : vlen Tryz.prog 94 (.ow E es) K = K (.c (.lit (.int .i64 es.length))) := vlen_ow ti_94 rfl
theorem lenm_94 : vlen Tryz.prog 94 (.ms b o l c z) K = K (.c (.lit (.int .i64 l))) := vlen_ms ti_94 rfl
theorem ti_115 : ti Tryz.prog 115 = some { kd := .int .u64, size := 1, bytes := 8, agg := false, zero := some [.lit (.int .u64 0)], flds := [], eqs := some [.int] } := by kernel_rfl
theorem alc_115 : VStep Tryz.prog G tr ⟨some d, .alloc 115, ty, pos, af, g⟩ ⟨fr, bx, nb⟩ H = H ⟨up fr d (.bp nb 0), up bx nb [.c (.lit (.int .u64 0))], nb + 1⟩ := alc_of ti_115 rfl
theorem ld_115 : vload Tryz.prog 115 s (.c (.rp cs o)) K = partV false 1 o cs K := ld_cell ti_115 rfl rfl
theorem ldb_115 : vload Tryz.prog 115 ⟨fr, bx, nb⟩ (.bp b o) K = (isMb (bx b) = false ∧ ldB nb b (bx b) o K) := ldB_of ti_115 rfl
theorem sto_115 : stoK (ti Tryz.prog 115) t q (.bp b o) v ⟨fr, bx, nb⟩ H = (isMb (bx b) = false ∧ stS 1 t q b o v ⟨fr, bx, nb⟩ H) := by rw [ti_115]; exact stS_of rfl
theorem ti_143 : ti Tryz.prog 143 = some { kd := .struct, size := 5, bytes := 40, agg := true, zero := some [.lit (.int .i64 0), .lit (.int .i64 0), .lit (.int .i64 0), .lit (.int .i64 0), .lit (.int .i64 0)], flds := [(0, 1, false), (1, 1, false), (2, 1, false), (3, 1, false), (4, 1, false)], eqs := some [.int, .int, .int, .int, .int] } := by kernel_rfl
theorem bsl_22 (h : len * 3 ≤ 16777216) : vbuildSlice Tryz.prog 22 len parts K = bslK 66 3 [.lit (.string (ByteArray.mk #[])), .lit (.int .i64 0), .lit (.int .i64 0)] len parts K := bsl_of ti_22 rfl ti_66 rfl rfl (by decide) rfl h
theorem bsl_23 (h : len * 3 ≤ 16777216) : vbuildSlice Tryz.prog 23 len parts K = bslK 55 3 [.lit (.int .i64 0), .lit (.int .i64 0), .lit (.int .i64 0)] len parts K := bsl_of ti_23 rfl ti_55 rfl rfl (by decide) rfl h
theorem app_23 : vappend Tryz.prog 23 (.ow E es) (.c (.sl ys)) K = (((E = none ∨ E = some (55, 3)) ∧ ∀ x ∈ es, x.length = 3) ∧ ((es.length + ys.length) * 24 ≤ 140737488355328 ∧ es.length + ys.length ≤ 9223372036854775807 ∧ ∀ x ∈ ys, x.length = 3) ∧ K (.ow (if ys.isEmpty then E else some (55, 3)) (es ++ ys))) := app_of ti_23 rfl ti_55 rfl rfl rfl (by decide) rfl
theorem bsl_27 (h : len * 3 ≤ 16777216) : vbuildSlice Tryz.prog 27 len parts K = bslK 29 3 [.lit (.int .i64 0), .lit (.int .i64 0), .lit (.int .i64 0)] len parts K := bsl_of ti_27 rfl ti_29 rfl rfl (by decide) rfl h
theorem app_27 : vappend Tryz.prog 27 (.ow E es) (.c (.sl ys)) K = (((E = none ∨ E = some (29, 3)) ∧ ∀ x ∈ es, x.length = 3) ∧ ((es.length + ys.length) * 24 ≤ 140737488355328 ∧ es.length + ys.length ≤ 9223372036854775807 ∧ ∀ x ∈ ys, x.length = 3) ∧ K (.ow (if ys.isEmpty then E else some (29, 3)) (es ++ ys))) := app_of ti_27 rfl ti_29 rfl rfl rfl (by decide) rfl
theorem bsl_40 (h : len * 3 ≤ 16777216) : vbuildSlice Tryz.prog 40 len parts K = bslK 50 3 [.lit (.int .i64 0), .sl [], .sl []] len parts K := bsl_of ti_40 rfl ti_50 rfl rfl (by decide) rfl h
theorem app_40 : vappend Tryz.prog 40 (.ow E es) (.c (.sl ys)) K = (((E = none ∨ E = some (50, 3)) ∧ ∀ x ∈ es, x.length = 3) ∧ ((es.length + ys.length) * 56 ≤ 140737488355328 ∧ es.length + ys.length ≤ 9223372036854775807 ∧ ∀ x ∈ ys, x.length = 3) ∧ K (.ow (if ys.isEmpty then E else some (50, 3)) (es ++ ys))) := app_of ti_40 rfl ti_50 rfl rfl rfl (by decide) rfl
theorem bsl_71 (h : len * 1 ≤ 16777216) : vbuildSlice Tryz.prog 71 len parts K = bslK 3 1 [.lit (.int .i64 0)] len parts K := bsl_of ti_71 rfl ti_3 rfl rfl (by decide) rfl h
theorem app_71 : vappend Tryz.prog 71 (.ow E es) (.c (.sl ys)) K = (((E = none ∨ E = some (3, 1)) ∧ ∀ x ∈ es, x.length = 1) ∧ ((es.length + ys.length) * 8 ≤ 140737488355328 ∧ es.length + ys.length ≤ 9223372036854775807 ∧ ∀ x ∈ ys, x.length = 1) ∧ K (.ow (if ys.isEmpty then E else some (3, 1)) (es ++ ys))) := app_of ti_71 rfl ti_3 rfl rfl rfl (by decide) rfl
def pt0 := And.intro @alc_3 (And.intro @ld_3 (And.intro @ldb_3 (And.intro @sto_3 (And.intro @alc_4 (And.intro @ld_4 (And.intro @ldb_4 (And.intro @sto_4 (And.intro @ld_5 (And.intro @ldb_5 (And.intro @len_22 (And.intro @leno_22 (And.intro @lenm_22 (And.intro @ld_22 (And.intro @ldb_22 (And.intro @ldz_22 (And.intro @len_23 (And.intro @leno_23 (And.intro @lenm_23 (And.intro @ld_23 (And.intro @ldb_23 (And.intro @ldz_23 (And.intro @alc_26 (And.intro @ld_26 (And.intro @ldb_26 (And.intro @blz_26 (And.intro @bld_26 (And.intro @fa_26_1 (And.intro @fab_26_1 (And.intro @fa_26_2 (And.intro @fab_26_2 (And.intro @sto_26 (And.intro @len_27 (And.intro @leno_27 (And.intro @lenm_27 (And.intro @alc_27 (And.intro @ld_27 (And.intro @ldb_27 (And.intro @ldz_27 (@sto_27)))))))))))))))))))))))))))))))))))))))
def pt1 := And.intro @alc_29 (And.intro @ld_29 (And.intro @ldb_29 (And.intro @blz_29 (And.intro @bld_29 (And.intro @fa_29_0 (And.intro @fab_29_0 (And.intro @fa_29_1 (And.intro @fab_29_1 (And.intro @fa_29_2 (And.intro @fab_29_2 (And.intro @sto_29 (And.intro @ld_30 (And.intro @ldb_30 (And.intro @len_40 (And.intro @leno_40 (And.intro @lenm_40 (And.intro @alc_40 (And.intro @ld_40 (And.intro @ldb_40 (And.intro @ldz_40 (And.intro @sto_40 (And.intro @alc_50 (And.intro @ld_50 (And.intro @ldb_50 (And.intro @blz_50 (And.intro @bld_50 (And.intro @fa_50_0 (And.intro @fab_50_0 (And.intro @fa_50_1 (And.intro @fab_50_1 (And.intro @fa_50_2 (And.intro @fab_50_2 (And.intro @sto_50 (And.intro @alc_55 (And.intro @ld_55 (And.intro @ldb_55 (And.intro @blz_55 (And.intro @bld_55 (@fa_55_0)))))))))))))))))))))))))))))))))))))))
def pt2 := And.intro @fab_55_0 (And.intro @fa_55_1 (And.intro @fab_55_1 (And.intro @fa_55_2 (And.intro @fab_55_2 (And.intro @sto_55 (And.intro @alc_58 (And.intro @ld_58 (And.intro @ldb_58 (And.intro @sto_58 (And.intro @blz_66 (And.intro @bld_66 (And.intro @fa_66_1 (And.intro @fab_66_1 (And.intro @len_71 (And.intro @leno_71 (And.intro @lenm_71 (And.intro @ld_74 (And.intro @ldb_74 (And.intro @ld_75 (And.intro @ldb_75 (And.intro @ld_76 (And.intro @ldb_76 (And.intro @blz_78 (And.intro @bld_78 (And.intro @fa_78_0 (And.intro @fab_78_0 (And.intro @fa_78_1 (And.intro @fab_78_1 (And.intro @fa_78_2 (And.intro @fab_78_2 (And.intro @fa_78_3 (And.intro @fab_78_3 (And.intro @blz_82 (And.intro @bld_82 (And.intro @fa_82_0 (And.intro @fab_82_0 (And.intro @fa_82_1 (And.intro @fab_82_1 (@fa_82_2)))))))))))))))))))))))))))))))))))))))
def pt3 := And.intro @fab_82_2 (And.intro @ldb_85 (And.intro @blz_87 (And.intro @bld_87 (And.intro @fa_87_0 (And.intro @fab_87_0 (And.intro @ld_93 (And.intro @ldb_93 (And.intro @len_94 (And.intro @leno_94 (And.intro @lenm_94 (And.intro @alc_115 (And.intro @ld_115 (And.intro @ldb_115 (And.intro @sto_115 (And.intro @bsl_22 (And.intro @bsl_23 (And.intro @bsl_27 (And.intro @bsl_40 (@bsl_71)))))))))))))))))))
def ptA := And.intro pt0 (And.intro pt1 (And.intro pt2 (pt3)))
