/- The types of the translation, as the framework sees them: closed facts, by the kernel. Printed by vltypes.py. -/
import Derived.Test.YtkbkajabchhbeaaDoorVlPack
import Derived.Test.YtkbkajabchhbeaaDoorChecked
import Derived.KernelRfl
set_option linter.unusedSimpArgs false
set_option linter.unusedVariables false
namespace Go.Proofs.YtkbkajabchhbeaaDoor
set_option linter.defProp false
open Go Go.Vl
variable {G : Gl} {tr : List Nat} {ty : TypeId} {d : Nat} {dO : Option Tmp} {pos : String} {af : Array Edge} {g : Option (Nat × Bool)} {fr : Nat → V} {bx : Nat → List V} {nb : Nat} {H : S → Prop} {s : S} {cs : List C} {o : Nat} {b : Nat} {l c z : Nat} {K : V → Prop} {t q : Option Tmp} {v : V} {x : V} {E : Option (TypeId × Nat)} {es ys : List (List C)} {y : ByteArray} {len : Nat} {parts : List (Nat × V)}
theorem ti_3 : ti Tryd.prog 3 = some { kd := .int .i64, size := 1, bytes := 8, agg := false, zero := some [.lit (.int .i64 0)], flds := [], eqs := some [.int] } := by kernel_rfl
theorem alc_3 : VStep Tryd.prog G tr ⟨some d, .alloc 3, ty, pos, af, g⟩ ⟨fr, bx, nb⟩ H = H ⟨up fr d (.bp nb 0), up bx nb [.c (.lit (.int .i64 0))], nb + 1⟩ := alc_of ti_3 rfl
theorem ld_3 : vload Tryd.prog 3 s (.c (.rp cs o)) K = partV false 1 o cs K := ld_cell ti_3 rfl rfl
theorem ldb_3 : vload Tryd.prog 3 ⟨fr, bx, nb⟩ (.bp b o) K = (isMb (bx b) = false ∧ ldB nb b (bx b) o K) := ldB_of ti_3 rfl
theorem sto_3 : stoK (ti Tryd.prog 3) t q (.bp b o) v ⟨fr, bx, nb⟩ H = (isMb (bx b) = false ∧ stS 1 t q b o v ⟨fr, bx, nb⟩ H) := by rw [ti_3]; exact stS_of rfl
theorem ti_4 : ti Tryd.prog 4 = some { kd := .bool, size := 1, bytes := 1, agg := false, zero := some [.lit (.bool false)], flds := [], eqs := some [.bool] } := by kernel_rfl
theorem ld_4 : vload Tryd.prog 4 s (.c (.rp cs o)) K = partV false 1 o cs K := ld_cell ti_4 rfl rfl
theorem ldb_4 : vload Tryd.prog 4 ⟨fr, bx, nb⟩ (.bp b o) K = (isMb (bx b) = false ∧ ldB nb b (bx b) o K) := ldB_of ti_4 rfl
theorem ti_5 : ti Tryd.prog 5 = some { kd := .int .u8, size := 1, bytes := 1, agg := false, zero := some [.lit (.int .u8 0)], flds := [], eqs := some [.int] } := by kernel_rfl
theorem ld_5 : vload Tryd.prog 5 s (.c (.rp cs o)) K = partV false 1 o cs K := ld_cell ti_5 rfl rfl
theorem ldb_5 : vload Tryd.prog 5 ⟨fr, bx, nb⟩ (.bp b o) K = (isMb (bx b) = false ∧ ldB nb b (bx b) o K) := ldB_of ti_5 rfl
theorem sto_5 : stoK (ti Tryd.prog 5) t q (.bp b o) v ⟨fr, bx, nb⟩ H = (isMb (bx b) = false ∧ stS 1 t q b o v ⟨fr, bx, nb⟩ H) := by rw [ti_5]; exact stS_of rfl
theorem ti_9 : ti Tryd.prog 9 = some { kd := .str, size := 1, bytes := 16, agg := false, zero := some [.lit (.string (ByteArray.mk #[]))], flds := [], eqs := some [.str] } := by kernel_rfl
theorem len_9 : vlen Tryd.prog 9 (.c (.lit (.string y))) K = K (.c (.lit (.int .i64 y.size))) := vlen_str ti_9 rfl
theorem ld_9 : vload Tryd.prog 9 s (.c (.rp cs o)) K = partV false 1 o cs K := ld_cell ti_9 rfl rfl
theorem ldb_9 : vload Tryd.prog 9 ⟨fr, bx, nb⟩ (.bp b o) K = (isMb (bx b) = false ∧ ldB nb b (bx b) o K) := ldB_of ti_9 rfl
theorem ti_22 : ti Tryd.prog 22 = some { kd := .slice 24, size := 1, bytes := 24, agg := false, zero := some [.sl []], flds := [], eqs := none } := by kernel_rfl
theorem len_22 : vlen Tryd.prog 22 (.c (.sl es)) K = K (.c (.lit (.int .i64 es.length))) := vlen_sl ti_22 rfl
theorem leno_22 : vlen Tryd.prog 22 (.ow E es) K = K (.c (.lit (.int .i64 es.length))) := vlen_ow ti_22 rfl
theorem lenm_22 : vlen Tryd.prog 22 (.ms b o l c z) K = K (.c (.lit (.int .i64 l))) := vlen_ms ti_22 rfl
theorem alc_22 : VStep Tryd.prog G tr ⟨some d, .alloc 22, ty, pos, af, g⟩ ⟨fr, bx, nb⟩ H = H ⟨up fr d (.bp nb 0), up bx nb [.ow none []], nb + 1⟩ := alc_of ti_22 rfl
theorem ld_22 : vload Tryd.prog 22 s (.c (.rp cs o)) K = partV false 1 o cs K := ld_cell ti_22 rfl rfl
theorem ldb_22 : vload Tryd.prog 22 ⟨fr, bx, nb⟩ (.bp b o) K = (isMb (bx b) = false ∧ ldB nb b (bx b) o K) := ldB_of ti_22 rfl
theorem ldz_22 : vloadZ Tryd.prog 22 ⟨fr, bx, nb⟩ (.bp b o) K = (isMb (bx b) = false ∧ ldZ nb b (bx b) o K) := ldZ_of ti_22 rfl
theorem sto_22 : stoK (ti Tryd.prog 22) t q (.bp b o) v ⟨fr, bx, nb⟩ H = (isMb (bx b) = false ∧ stS 1 t q b o v ⟨fr, bx, nb⟩ H) := by rw [ti_22]; exact stS_of rfl
theorem ti_24 : ti Tryd.prog 24 = some { kd := .struct, size := 3, bytes := 40, agg := true, zero := some [.lit (.int .i64 0), .lit (.int .i64 0), .sl []], flds := [(0, 1, false), (1, 1, false), (2, 1, false)], eqs := none } := by kernel_rfl
theorem alc_24 : VStep Tryd.prog G tr ⟨some d, .alloc 24, ty, pos, af, g⟩ ⟨fr, bx, nb⟩ H = H ⟨up fr d (.bp nb 0), up bx nb [.c (.lit (.int .i64 0)), .c (.lit (.int .i64 0)), .ow none []], nb + 1⟩ := alc_of ti_24 rfl
theorem ld_24 (h : cs.length = 3) : vload Tryd.prog 24 s (.c (.rp cs 0)) K = K (.agg cs) := ld_all ti_24 rfl h
theorem ldb_24 : vload Tryd.prog 24 ⟨fr, bx, nb⟩ (.bp b o) K = (isMb (bx b) = false ∧ ldA nb b (bx b) o 3 K) := ldA_of ti_24 rfl rfl
theorem blz_24 : vbuildZ Tryd.prog 24 parts K = bldZK K (fillM [(0, 1, false), (1, 1, false), (2, 1, false)] parts [.c (.lit (.int .i64 0)), .c (.lit (.int .i64 0)), .ow none []]) := bldZ_of ti_24 rfl rfl rfl
theorem bld_24 : vbuild Tryd.prog 24 parts K = bldK [(0, 1, false), (1, 1, false), (2, 1, false)] [.lit (.int .i64 0), .lit (.int .i64 0), .sl []] parts K (fillS [(0, 1, false), (1, 1, false), (2, 1, false)] parts [.lit (.int .i64 0), .lit (.int .i64 0), .sl []]) := bld_of ti_24 rfl rfl rfl
theorem fa_24_0 : vfieldAddr Tryd.prog 24 (.c (.rp cs o)) 0 K = K (.c (.rp cs (o + 0))) := fa_rp ti_24 rfl (by decide)
theorem fab_24_0 : vfieldAddr Tryd.prog 24 (.bp b o) 0 K = K (.bp b (o + 0)) := fa_bp ti_24 rfl (by decide)
theorem fa_24_1 : vfieldAddr Tryd.prog 24 (.c (.rp cs o)) 1 K = K (.c (.rp cs (o + 1))) := fa_rp ti_24 rfl (by decide)
theorem fab_24_1 : vfieldAddr Tryd.prog 24 (.bp b o) 1 K = K (.bp b (o + 1)) := fa_bp ti_24 rfl (by decide)
theorem fa_24_2 : vfieldAddr Tryd.prog 24 (.c (.rp cs o)) 2 K = K (.c (.rp cs (o + 2))) := fa_rp ti_24 rfl (by decide)
theorem fab_24_2 : vfieldAddr Tryd.prog 24 (.bp b o) 2 K = K (.bp b (o + 2)) := fa_bp ti_24 rfl (by decide)
theorem sto_24 : stoK (ti Tryd.prog 24) t q (.bp b o) v ⟨fr, bx, nb⟩ H = (isMb (bx b) = false ∧ stS 3 t q b o v ⟨fr, bx, nb⟩ H) := by rw [ti_24]; exact stS_of rfl
theorem ti_25 : ti Tryd.prog 25 = some { kd := .other, size := 1, bytes := 8, agg := false, zero := some [.lit .nilFunc], flds := [], eqs := none } := by kernel_rfl
theorem alc_25 : VStep Tryd.prog G tr ⟨some d, .alloc 25, ty, pos, af, g⟩ ⟨fr, bx, nb⟩ H = H ⟨up fr d (.bp nb 0), up bx nb [.c (.lit .nilFunc)], nb + 1⟩ := alc_of ti_25 rfl
theorem ld_25 : vload Tryd.prog 25 s (.c (.rp cs o)) K = partV false 1 o cs K := ld_cell ti_25 rfl rfl
theorem ldb_25 : vload Tryd.prog 25 ⟨fr, bx, nb⟩ (.bp b o) K = (isMb (bx b) = false ∧ ldB nb b (bx b) o K) := ldB_of ti_25 rfl
theorem sto_25 : stoK (ti Tryd.prog 25) t q (.bp b o) v ⟨fr, bx, nb⟩ H = (isMb (bx b) = false ∧ stS 1 t q b o v ⟨fr, bx, nb⟩ H) := by rw [ti_25]; exact stS_of rfl
theorem ti_42 : ti Tryd.prog 42 = some { kd := .map 3 45, size := 1, bytes := 8, agg := false, zero := some [.lit (.map none)], flds := [], eqs := none } := by kernel_rfl
theorem mkm_42 : VStep Tryd.prog G tr ⟨dO, .makeMap 42 none, ty, pos, af, g⟩ ⟨fr, bx, nb⟩ H = H ((⟨fr, up bx nb [.mk [] 0], nb + 1⟩ : S).put dO (.mr nb)) := st_makeMap ti_42 rfl
theorem ldb_42 : vload Tryd.prog 42 ⟨fr, bx, nb⟩ (.bp b o) K = (isMb (bx b) = false ∧ ldB nb b (bx b) o K) := ldB_of ti_42 rfl
theorem sto_42 : stoK (ti Tryd.prog 42) t q (.bp b o) v ⟨fr, bx, nb⟩ H = (isMb (bx b) = false ∧ stS 1 t q b o v ⟨fr, bx, nb⟩ H) := by rw [ti_42]; exact stS_of rfl
theorem za_45 : zaB Tryd.prog 45 = true := by kernel_rfl
theorem ti_45 : ti Tryd.prog 45 = some { kd := .struct, size := 3, bytes := 32, agg := true, zero := some [.lit (.string (ByteArray.mk #[])), .lit (.int .i64 0), .lit (.bool false)], flds := [(0, 1, false), (1, 1, false), (2, 1, false)], eqs := some [.str, .int, .bool] } := by kernel_rfl
theorem alc_45 : VStep Tryd.prog G tr ⟨some d, .alloc 45, ty, pos, af, g⟩ ⟨fr, bx, nb⟩ H = H ⟨up fr d (.bp nb 0), up bx nb [.c (.lit (.string (ByteArray.mk #[]))), .c (.lit (.int .i64 0)), .c (.lit (.bool false))], nb + 1⟩ := alc_of ti_45 rfl
theorem blz_45 : vbuildZ Tryd.prog 45 parts K = bldZK K (fillM [(0, 1, false), (1, 1, false), (2, 1, false)] parts [.c (.lit (.string (ByteArray.mk #[]))), .c (.lit (.int .i64 0)), .c (.lit (.bool false))]) := bldZ_of ti_45 rfl rfl rfl
theorem bld_45 : vbuild Tryd.prog 45 parts K = bldK [(0, 1, false), (1, 1, false), (2, 1, false)] [.lit (.string (ByteArray.mk #[])), .lit (.int .i64 0), .lit (.bool false)] parts K (fillS [(0, 1, false), (1, 1, false), (2, 1, false)] parts [.lit (.string (ByteArray.mk #[])), .lit (.int .i64 0), .lit (.bool false)]) := bld_of ti_45 rfl rfl rfl
theorem fa_45_0 : vfieldAddr Tryd.prog 45 (.c (.rp cs o)) 0 K = K (.c (.rp cs (o + 0))) := fa_rp ti_45 rfl (by decide)
theorem fab_45_0 : vfieldAddr Tryd.prog 45 (.bp b o) 0 K = K (.bp b (o + 0)) := fa_bp ti_45 rfl (by decide)
theorem fa_45_1 : vfieldAddr Tryd.prog 45 (.c (.rp cs o)) 1 K = K (.c (.rp cs (o + 1))) := fa_rp ti_45 rfl (by decide)
theorem fab_45_1 : vfieldAddr Tryd.prog 45 (.bp b o) 1 K = K (.bp b (o + 1)) := fa_bp ti_45 rfl (by decide)
theorem fa_45_2 : vfieldAddr Tryd.prog 45 (.c (.rp cs o)) 2 K = K (.c (.rp cs (o + 2))) := fa_rp ti_45 rfl (by decide)
theorem fab_45_2 : vfieldAddr Tryd.prog 45 (.bp b o) 2 K = K (.bp b (o + 2)) := fa_bp ti_45 rfl (by decide)
theorem sto_45 : stoK (ti Tryd.prog 45) t q (.bp b o) v ⟨fr, bx, nb⟩ H = (isMb (bx b) = false ∧ stS 3 t q b o v ⟨fr, bx, nb⟩ H) := by rw [ti_45]; exact stS_of rfl
theorem ti_54 : ti Tryd.prog 54 = some { kd := .slice 9, size := 1, bytes := 24, agg := false, zero := some [.sl []], flds := [], eqs := none } := by kernel_rfl
theorem len_54 : vlen Tryd.prog 54 (.c (.sl es)) K = K (.c (.lit (.int .i64 es.length))) := vlen_sl ti_54 rfl
theorem leno_54 : vlen Tryd.prog 54 (.ow E es) K = K (.c (.lit (.int .i64 es.length))) := vlen_ow ti_54 rfl
theorem lenm_54 : vlen Tryd.prog 54 (.ms b o l c z) K = K (.c (.lit (.int .i64 l))) := vlen_ms ti_54 rfl
theorem za_24 : zaB Tryd.prog 24 = true := by kernel_rfl
theorem ti_57 : ti Tryd.prog 57 = some { kd := .map 9 24, size := 1, bytes := 8, agg := false, zero := some [.lit (.map none)], flds := [], eqs := none } := by kernel_rfl
theorem mkm_57 : VStep Tryd.prog G tr ⟨dO, .makeMap 57 none, ty, pos, af, g⟩ ⟨fr, bx, nb⟩ H = H ((⟨fr, up bx nb [.mk [] 0], nb + 1⟩ : S).put dO (.mr nb)) := st_makeMap ti_57 rfl
theorem ldb_57 : vload Tryd.prog 57 ⟨fr, bx, nb⟩ (.bp b o) K = (isMb (bx b) = false ∧ ldB nb b (bx b) o K) := ldB_of ti_57 rfl
theorem sto_57 : stoK (ti Tryd.prog 57) t q (.bp b o) v ⟨fr, bx, nb⟩ H = (isMb (bx b) = false ∧ stS 1 t q b o v ⟨fr, bx, nb⟩ H) := by rw [ti_57]; exact stS_of rfl
theorem ti_58 : ti Tryd.prog 58 = some { kd := .other, size := 1, bytes := 8, agg := false, zero := some [.lit .nilFunc], flds := [], eqs := none } := by kernel_rfl
theorem alc_58 : VStep Tryd.prog G tr ⟨some d, .alloc 58, ty, pos, af, g⟩ ⟨fr, bx, nb⟩ H = H ⟨up fr d (.bp nb 0), up bx nb [.c (.lit .nilFunc)], nb + 1⟩ := alc_of ti_58 rfl
theorem ld_58 : vload Tryd.prog 58 s (.c (.rp cs o)) K = partV false 1 o cs K := ld_cell ti_58 rfl rfl
theorem ldb_58 : vload Tryd.prog 58 ⟨fr, bx, nb⟩ (.bp b o) K = (isMb (bx b) = false ∧ ldB nb b (bx b) o K) := ldB_of ti_58 rfl
theorem sto_58 : stoK (ti Tryd.prog 58) t q (.bp b o) v ⟨fr, bx, nb⟩ H = (isMb (bx b) = false ∧ stS 1 t q b o v ⟨fr, bx, nb⟩ H) := by rw [ti_58]; exact stS_of rfl
theorem ti_62 : ti Tryd.prog 62 = some { kd := .slice 3, size := 1, bytes := 24, agg := false, zero := some [.sl []], flds := [], eqs := none } := by kernel_rfl
theorem len_62 : vlen Tryd.prog 62 (.c (.sl es)) K = K (.c (.lit (.int .i64 es.length))) := vlen_sl ti_62 rfl
theorem leno_62 : vlen Tryd.prog 62 (.ow E es) K = K (.c (.lit (.int .i64 es.length))) := vlen_ow ti_62 rfl
theorem lenm_62 : vlen Tryd.prog 62 (.ms b o l c z) K = K (.c (.lit (.int .i64 l))) := vlen_ms ti_62 rfl
theorem ti_64 : ti Tryd.prog 64 = some { kd := .ptr 67, size := 1, bytes := 8, agg := false, zero := some [.lit (.pointer none)], flds := [], eqs := none } := by kernel_rfl
theorem ld_64 : vload Tryd.prog 64 s (.c (.rp cs o)) K = partV false 1 o cs K := ld_cell ti_64 rfl rfl
theorem ldb_64 : vload Tryd.prog 64 ⟨fr, bx, nb⟩ (.bp b o) K = (isMb (bx b) = false ∧ ldB nb b (bx b) o K) := ldB_of ti_64 rfl
theorem sto_64 : stoK (ti Tryd.prog 64) t q (.bp b o) v ⟨fr, bx, nb⟩ H = (isMb (bx b) = false ∧ stS 1 t q b o v ⟨fr, bx, nb⟩ H) := by rw [ti_64]; exact stS_of rfl
theorem ti_65 : ti Tryd.prog 65 = some { kd := .slice 5, size := 1, bytes := 24, agg := false, zero := some [.sl []], flds := [], eqs := none } := by kernel_rfl
theorem len_65 : vlen Tryd.prog 65 (.c (.sl es)) K = K (.c (.lit (.int .i64 es.length))) := vlen_sl ti_65 rfl
theorem leno_65 : vlen Tryd.prog 65 (.ow E es) K = K (.c (.lit (.int .i64 es.length))) := vlen_ow ti_65 rfl
theorem lenm_65 : vlen Tryd.prog 65 (.ms b o l c z) K = K (.c (.lit (.int .i64 l))) := vlen_ms ti_65 rfl
theorem ld_65 : vload Tryd.prog 65 s (.c (.rp cs o)) K = partV false 1 o cs K := ld_cell ti_65 rfl rfl
theorem ldb_65 : vload Tryd.prog 65 ⟨fr, bx, nb⟩ (.bp b o) K = (isMb (bx b) = false ∧ ldB nb b (bx b) o K) := ldB_of ti_65 rfl
theorem ldz_65 : vloadZ Tryd.prog 65 ⟨fr, bx, nb⟩ (.bp b o) K = (isMb (bx b) = false ∧ ldZ nb b (bx b) o K) := ldZ_of ti_65 rfl
theorem sto_65 : stoK (ti Tryd.prog 65) t q (.bp b o) v ⟨fr, bx, nb⟩ H = (isMb (bx b) = false ∧ stS 1 t q b o v ⟨fr, bx, nb⟩ H) := by rw [ti_65]; exact stS_of rfl
theorem ti_67 : ti Tryd.prog 67 = some { kd := .struct, size := 2, bytes := 32, agg := true, zero := some [.lit (.pointer none), .sl []], flds := [(0, 1, false), (1, 1, false)], eqs := none } := by kernel_rfl
theorem alc_67 : VStep Tryd.prog G tr ⟨some d, .alloc 67, ty, pos, af, g⟩ ⟨fr, bx, nb⟩ H = H ⟨up fr d (.bp nb 0), up bx nb [.c (.lit (.pointer none)), .ow none []], nb + 1⟩ := alc_of ti_67 rfl
theorem fa_67_0 : vfieldAddr Tryd.prog 67 (.c (.rp cs o)) 0 K = K (.c (.rp cs (o + 0))) := fa_rp ti_67 rfl (by decide)
theorem fab_67_0 : vfieldAddr Tryd.prog 67 (.bp b o) 0 K = K (.bp b (o + 0)) := fa_bp ti_67 rfl (by decide)
theorem fa_67_1 : vfieldAddr Tryd.prog 67 (.c (.rp cs o)) 1 K = K (.c (.rp cs (o + 1))) := fa_rp ti_67 rfl (by decide)
theorem fab_67_1 : vfieldAddr Tryd.prog 67 (.bp b o) 1 K = K (.bp b (o + 1)) := fa_bp ti_67 rfl (by decide)
theorem ti_84 : ti Tryd.prog 84 = some { kd := .arr 24 5, size := 24, bytes := 24, agg := true, zero := some [.lit (.int .u8 0), .lit (.int .u8 0), .lit (.int .u8 0), .lit (.int .u8 0), .lit (.int .u8 0), .lit (.int .u8 0), .lit (.int .u8 0), .lit (.int .u8 0), .lit (.int .u8 0), .lit (.int .u8 0), .lit (.int .u8 0), .lit (.int .u8 0), .lit (.int .u8 0), .lit (.int .u8 0), .lit (.int .u8 0), .lit (.int .u8 0), .lit (.int .u8 0), .lit (.int .u8 0), .lit (.int .u8 0), .lit (.int .u8 0), .lit (.int .u8 0), .lit (.int .u8 0), .lit (.int .u8 0), .lit (.int .u8 0)], flds := [], eqs := some [.int, .int, .int, .int, .int, .int, .int, .int, .int, .int, .int, .int, .int, .int, .int, .int, .int, .int, .int, .int, .int, .int, .int, .int] } := by kernel_rfl
theorem alc_84 : VStep Tryd.prog G tr ⟨some d, .alloc 84, ty, pos, af, g⟩ ⟨fr, bx, nb⟩ H = H ⟨up fr d (.bp nb 0), up bx nb (zbox 24 (.c (.lit (.int .u8 0)))), nb + 1⟩ := alc_of ti_84 rfl
theorem ti_85 : ti Tryd.prog 85 = some { kd := .int .u64, size := 1, bytes := 8, agg := false, zero := some [.lit (.int .u64 0)], flds := [], eqs := some [.int] } := by kernel_rfl
theorem ld_85 : vload Tryd.prog 85 s (.c (.rp cs o)) K = partV false 1 o cs K := ld_cell ti_85 rfl rfl
theorem ldb_85 : vload Tryd.prog 85 ⟨fr, bx, nb⟩ (.bp b o) K = (isMb (bx b) = false ∧ ldB nb b (bx b) o K) := ldB_of ti_85 rfl
theorem ti_100 : ti Tryd.prog 100 = some { kd := .arr 65 5, size := 65, bytes := 65, agg := true, zero := some [.lit (.int .u8 0), .lit (.int .u8 0), .lit (.int .u8 0), .lit (.int .u8 0), .lit (.int .u8 0), .lit (.int .u8 0), .lit (.int .u8 0), .lit (.int .u8 0), .lit (.int .u8 0), .lit (.int .u8 0), .lit (.int .u8 0), .lit (.int .u8 0), .lit (.int .u8 0), .lit (.int .u8 0), .lit (.int .u8 0), .lit (.int .u8 0), .lit (.int .u8 0), .lit (.int .u8 0), .lit (.int .u8 0), .lit (.int .u8 0), .lit (.int .u8 0), .lit (.int .u8 0), .lit (.int .u8 0), .lit (.int .u8 0), .lit (.int .u8 0), .lit (.int .u8 0), .lit (.int .u8 0), .lit (.int .u8 0), .lit (.int .u8 0), .lit (.int .u8 0), .lit (.int .u8 0), .lit (.int .u8 0), .lit (.int .u8 0), .lit (.int .u8 0), .lit (.int .u8 0), .lit (.int .u8 0), .lit (.int .u8 0), .lit (.int .u8 0), .lit (.int .u8 0), .lit (.int .u8 0), .lit (.int .u8 0), .lit (.int .u8 0), .lit (.int .u8 0), .lit (.int .u8 0), .lit (.int .u8 0), .lit (.int .u8 0), .lit (.int .u8 0), .lit (.int .u8 0), .lit (.int .u8 0), .lit (.int .u8 0), .lit (.int .u8 0), .lit (.int .u8 0), .lit (.int .u8 0), .lit (.int .u8 0), .lit (.int .u8 0), .lit (.int .u8 0), .lit (.int .u8 0), .lit (.int .u8 0), .lit (.int .u8 0), .lit (.int .u8 0), .lit (.int .u8 0), .lit (.int .u8 0), .lit (.int .u8 0), .lit (.int .u8 0), .lit (.int .u8 0)], flds := [], eqs := some [.int, .int, .int, .int, .int, .int, .int, .int, .int, .int, .int, .int, .int, .int, .int, .int, .int, .int, .int, .int, .int, .int, .int, .int, .int, .int, .int, .int, .int, .int, .int, .int, .int, .int, .int, .int, .int, .int, .int, .int, .int, .int, .int, .int, .int, .int, .int, .int, .int, .int, .int, .int, .int, .int, .int, .int, .int, .int, .int, .int, .int, .int, .int, .int, .int] } := by kernel_rfl
theorem alc_100 : VStep Tryd.prog G tr ⟨some d, .alloc 100, ty, pos, af, g⟩ ⟨fr, bx, nb⟩ H = H ⟨up fr d (.bp nb 0), up bx nb (zbox 65 (.c (.lit (.int .u8 0)))), nb + 1⟩ := alc_of ti_100 rfl
theorem ti_110 : ti Tryd.prog 110 = some { kd := .int .u64, size := 1, bytes := 8, agg := false, zero := some [.lit (.int .u64 0)], flds := [], eqs := some [.int] } := by kernel_rfl
theorem alc_110 : VStep Tryd.prog G tr ⟨some d, .alloc 110, ty, pos, af, g⟩ ⟨fr, bx, nb⟩ H = H ⟨up fr d (.bp nb 0), up bx nb [.c (.lit (.int .u64 0))], nb + 1⟩ := alc_of ti_110 rfl
theorem ld_110 : vload Tryd.prog 110 s (.c (.rp cs o)) K = partV false 1 o cs K := ld_cell ti_110 rfl rfl
theorem ldb_110 : vload Tryd.prog 110 ⟨fr, bx, nb⟩ (.bp b o) K = (isMb (bx b) = false ∧ ldB nb b (bx b) o K) := ldB_of ti_110 rfl
theorem sto_110 : stoK (ti Tryd.prog 110) t q (.bp b o) v ⟨fr, bx, nb⟩ H = (isMb (bx b) = false ∧ stS 1 t q b o v ⟨fr, bx, nb⟩ H) := by rw [ti_110]; exact stS_of rfl
theorem bsl_22 (h : len * 3 ≤ 16777216) : vbuildSlice Tryd.prog 22 len parts K = bslK 24 3 [.lit (.int .i64 0), .lit (.int .i64 0), .sl []] len parts K := bsl_of ti_22 rfl ti_24 rfl rfl (by decide) rfl h
theorem app_22 : vappend Tryd.prog 22 (.ow E es) (.c (.sl ys)) K = (((E = none ∨ E = some (24, 3)) ∧ ∀ x ∈ es, x.length = 3) ∧ ((es.length + ys.length) * 40 ≤ 140737488355328 ∧ es.length + ys.length ≤ 9223372036854775807 ∧ ∀ x ∈ ys, x.length = 3) ∧ K (.ow (if ys.isEmpty then E else some (24, 3)) (es ++ ys))) := app_of ti_22 rfl ti_24 rfl rfl rfl (by decide) rfl
theorem bsl_54 (h : len * 1 ≤ 16777216) : vbuildSlice Tryd.prog 54 len parts K = bslK 9 1 [.lit (.string (ByteArray.mk #[]))] len parts K := bsl_of ti_54 rfl ti_9 rfl rfl (by decide) rfl h
theorem app_54 : vappend Tryd.prog 54 (.ow E es) (.c (.sl ys)) K = (((E = none ∨ E = some (9, 1)) ∧ ∀ x ∈ es, x.length = 1) ∧ ((es.length + ys.length) * 16 ≤ 140737488355328 ∧ es.length + ys.length ≤ 9223372036854775807 ∧ ∀ x ∈ ys, x.length = 1) ∧ K (.ow (if ys.isEmpty then E else some (9, 1)) (es ++ ys))) := app_of ti_54 rfl ti_9 rfl rfl rfl (by decide) rfl
theorem bsl_62 (h : len * 1 ≤ 16777216) : vbuildSlice Tryd.prog 62 len parts K = bslK 3 1 [.lit (.int .i64 0)] len parts K := bsl_of ti_62 rfl ti_3 rfl rfl (by decide) rfl h
theorem bsl_65 (h : len * 1 ≤ 16777216) : vbuildSlice Tryd.prog 65 len parts K = bslK 5 1 [.lit (.int .u8 0)] len parts K := bsl_of ti_65 rfl ti_5 rfl rfl (by decide) rfl h
def pt0 := And.intro @alc_3 (And.intro @ld_3 (And.intro @ldb_3 (And.intro @sto_3 (And.intro @ld_4 (And.intro @ldb_4 (And.intro @ld_5 (And.intro @ldb_5 (And.intro @sto_5 (And.intro @len_9 (And.intro @ld_9 (And.intro @ldb_9 (And.intro @len_22 (And.intro @leno_22 (And.intro @lenm_22 (And.intro @alc_22 (And.intro @ld_22 (And.intro @ldb_22 (And.intro @ldz_22 (And.intro @sto_22 (And.intro @alc_24 (And.intro @ld_24 (And.intro @ldb_24 (And.intro @blz_24 (And.intro @bld_24 (And.intro @fa_24_0 (And.intro @fab_24_0 (And.intro @fa_24_1 (And.intro @fab_24_1 (And.intro @fa_24_2 (And.intro @fab_24_2 (And.intro @sto_24 (And.intro @alc_25 (And.intro @ld_25 (And.intro @ldb_25 (And.intro @sto_25 (And.intro @ldb_42 (And.intro @sto_42 (And.intro @alc_45 (@blz_45)))))))))))))))))))))))))))))))))))))))
def pt1 := And.intro @bld_45 (And.intro @fa_45_0 (And.intro @fab_45_0 (And.intro @fa_45_1 (And.intro @fab_45_1 (And.intro @fa_45_2 (And.intro @fab_45_2 (And.intro @sto_45 (And.intro @len_54 (And.intro @leno_54 (And.intro @lenm_54 (And.intro @ldb_57 (And.intro @sto_57 (And.intro @alc_58 (And.intro @ld_58 (And.intro @ldb_58 (And.intro @sto_58 (And.intro @len_62 (And.intro @leno_62 (And.intro @lenm_62 (And.intro @ld_64 (And.intro @ldb_64 (And.intro @sto_64 (And.intro @len_65 (And.intro @leno_65 (And.intro @lenm_65 (And.intro @ld_65 (And.intro @ldb_65 (And.intro @ldz_65 (And.intro @sto_65 (And.intro @alc_67 (And.intro @fa_67_0 (And.intro @fab_67_0 (And.intro @fa_67_1 (And.intro @fab_67_1 (And.intro @alc_84 (And.intro @ld_85 (And.intro @ldb_85 (And.intro @alc_100 (@alc_110)))))))))))))))))))))))))))))))))))))))
def pt2 := And.intro @ld_110 (And.intro @ldb_110 (And.intro @sto_110 (And.intro @bsl_22 (And.intro @bsl_54 (And.intro @bsl_62 (@bsl_65))))))
def ptA := And.intro pt0 (And.intro pt1 (pt2))
