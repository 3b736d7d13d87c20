/- The tables by which the interpreter runs the functions of this program. Printed by vlexec.py. -/
import Derived.Test.YtbhfbbfifmnniaaDoorVlTypes
import Derived.Test.YtbhfbbfifmnniaaDoorVlRunB
set_option linter.unusedSimpArgs false
set_option linter.unusedVariables false
namespace Go.Proofs.YtbhfbbfifmnniaaDoor
open Go Go.Vl

theorem mixedX : Tryd.prog.follows .mixedOrders = true := Tryd.checked.mixed
noncomputable def xTl : List (Option TI) := [none, none, some { kd := .int .i64, size := 1, bytes := 8, agg := false, zero := some [.lit (.int .i64 0)], flds := [], eqs := some [.int] }, some { kd := .int .i64, size := 1, bytes := 8, agg := false, zero := some [.lit (.int .i64 0)], flds := [], eqs := some [.int] }, some { kd := .bool, size := 1, bytes := 1, agg := false, zero := some [.lit (.bool false)], flds := [], eqs := some [.bool] }, some { kd := .int .u8, size := 1, bytes := 1, agg := false, zero := some [.lit (.int .u8 0)], flds := [], eqs := some [.int] }, none, none, none, some { kd := .str, size := 1, bytes := 16, agg := false, zero := some [.lit (.string (ByteArray.mk #[]))], flds := [], eqs := some [.str] }, none, none, some { kd := .int .u64, size := 1, bytes := 8, agg := false, zero := some [.lit (.int .u64 0)], flds := [], eqs := some [.int] }, none, none, none, none, some { kd := .ptr 111, size := 1, bytes := 8, agg := false, zero := some [.lit (.pointer none)], flds := [], eqs := none }, none, none, none, some { kd := .int .i32, size := 1, bytes := 4, agg := false, zero := some [.lit (.int .i32 0)], flds := [], eqs := some [.int] }, some { kd := .slice 46, size := 1, bytes := 24, agg := false, zero := some [.sl []], flds := [], eqs := none }, some { kd := .slice 40, size := 1, bytes := 24, agg := false, zero := some [.sl []], flds := [], eqs := none }, some { kd := .slice 42, size := 1, bytes := 24, agg := false, zero := some [.sl []], flds := [], eqs := none }, some { kd := .struct, size := 4, bytes := 88, agg := true, zero := some [.lit (.string (ByteArray.mk #[])), .sl [], .sl [], .sl []], flds := [(0, 1, false), (1, 1, false), (2, 1, false), (3, 1, false)], eqs := none }, some { kd := .struct, size := 4, bytes := 88, agg := true, zero := some [.lit (.string (ByteArray.mk #[])), .sl [], .sl [], .sl []], flds := [(0, 1, false), (1, 1, false), (2, 1, false), (3, 1, false)], eqs := none }, none, none, some { kd := .int .i64, size := 1, bytes := 8, agg := false, zero := some [.lit (.int .i64 0)], flds := [], eqs := some [.int] }, none, none, none, none, none, none, none, none, none, some { kd := .struct, size := 3, bytes := 24, agg := true, zero := some [.lit (.int .i64 0), .lit (.int .i64 0), .lit (.int .i64 0)], flds := [(0, 1, false), (1, 1, false), (2, 1, false)], eqs := some [.int, .int, .int] }, some { kd := .struct, size := 3, bytes := 24, agg := true, zero := some [.lit (.int .i64 0), .lit (.int .i64 0), .lit (.int .i64 0)], flds := [(0, 1, false), (1, 1, false), (2, 1, false)], eqs := some [.int, .int, .int] }, some { kd := .struct, size := 5, bytes := 40, agg := true, zero := some [.lit (.int .i64 0), .lit (.int .i64 0), .lit (.int .i64 0), .lit (.int .i64 0), .lit (.int .i64 0)], flds := [(0, 1, false), (1, 1, false), (2, 1, false), (3, 1, false), (4, 1, false)], eqs := some [.int, .int, .int, .int, .int] }, some { kd := .struct, size := 5, bytes := 40, agg := true, zero := some [.lit (.int .i64 0), .lit (.int .i64 0), .lit (.int .i64 0), .lit (.int .i64 0), .lit (.int .i64 0)], flds := [(0, 1, false), (1, 1, false), (2, 1, false), (3, 1, false), (4, 1, false)], eqs := some [.int, .int, .int, .int, .int] }, none, none, some { kd := .struct, size := 3, bytes := 32, agg := true, zero := some [.lit (.string (ByteArray.mk #[])), .lit (.int .i64 0), .lit (.int .i64 0)], flds := [(0, 1, false), (1, 1, false), (2, 1, false)], eqs := some [.str, .int, .int] }, some { kd := .struct, size := 3, bytes := 32, agg := true, zero := some [.lit (.string (ByteArray.mk #[])), .lit (.int .i64 0), .lit (.int .i64 0)], flds := [(0, 1, false), (1, 1, false), (2, 1, false)], eqs := some [.str, .int, .int] }, none, none, none, some { kd := .slice 5, size := 1, bytes := 24, agg := false, zero := some [.sl []], flds := [], eqs := none }, none, none, none, none, none, none, none, none, none, none, none, none, none, none, none, none, some { kd := .struct, size := 3, bytes := 24, agg := true, zero := some [.lit (.int .i64 0), .lit (.int .i64 0), .lit (.int .i64 0)], flds := [(0, 1, false), (1, 1, false), (2, 1, false)], eqs := some [.int, .int, .int] }, some { kd := .struct, size := 3, bytes := 24, agg := true, zero := some [.lit (.int .i64 0), .lit (.int .i64 0), .lit (.int .i64 0)], flds := [(0, 1, false), (1, 1, false), (2, 1, false)], eqs := some [.int, .int, .int] }, none, none, some { kd := .slice 3, size := 1, bytes := 24, agg := false, zero := some [.sl []], flds := [], eqs := none }, some { kd := .arr 3 3, size := 3, bytes := 24, agg := true, zero := some [.lit (.int .i64 0), .lit (.int .i64 0), .lit (.int .i64 0)], flds := [], eqs := some [.int, .int, .int] }, none, none, none, none, none, none, none, none, none, some { kd := .slice 68, size := 1, bytes := 24, agg := false, zero := some [.sl []], flds := [], eqs := none }, none, none, none, none, none, none, none, none, none, none, none, none, some { kd := .int .u64, size := 1, bytes := 8, agg := false, zero := some [.lit (.int .u64 0)], flds := [], eqs := some [.int] }, none, none, none, none, none, none, none, some { kd := .int .u32, size := 1, bytes := 4, agg := false, zero := some [.lit (.int .u32 0)], flds := [], eqs := some [.int] }, none, none, none, some { kd := .ptr 5, size := 1, bytes := 8, agg := false, zero := some [.lit (.pointer none)], flds := [], eqs := none }, none, none, some { kd := .struct, size := 11, bytes := 48, agg := true, zero := some [.lit (.int .u64 0), .lit (.int .u64 0), .lit (.int .u32 0), .lit (.int .u8 0), .lit (.int .u8 0), .lit (.int .u8 0), .lit (.int .u8 0), .lit .nilFunc, .lit (.pointer none), .lit (.int .i32 0), .lit (.int .i32 0)], flds := [(0, 1, false), (1, 1, false), (2, 1, false), (3, 1, false), (4, 1, false), (5, 1, false), (6, 1, false), (7, 1, false), (8, 1, false), (9, 1, false), (10, 1, false)], eqs := none }, none, none]
theorem xT_ok : TblOk Tryd.prog 0 xTl := by
  unfold xTl
  exact ⟨ti_2, ⟨ti_3, ⟨ti_4, ⟨ti_5, ⟨ti_9, ⟨ti_12, ⟨ti_17, ⟨ti_21, ⟨ti_22, ⟨ti_23, ⟨ti_24, ⟨ti_25, ⟨ti_26, ⟨ti_29, ⟨ti_39, ⟨ti_40, ⟨ti_41, ⟨ti_42, ⟨ti_45, ⟨ti_46, ⟨ti_50, ⟨ti_67, ⟨ti_68, ⟨ti_71, ⟨ti_72, ⟨ti_82, ⟨ti_95, ⟨ti_103, ⟨ti_107, ⟨ti_110, trivial⟩⟩⟩⟩⟩⟩⟩⟩⟩⟩⟩⟩⟩⟩⟩⟩⟩⟩⟩⟩⟩⟩⟩⟩⟩⟩⟩⟩⟩⟩
noncomputable def xf_10 : XF := { code := (Tryd.f10.body).getD .skip, n := Tryd.f10.ntmps, tr := [1000024, 1000036], rs := Tryd.f10.results.toList }
theorem xf_10_ok : FOk Tryd.prog 10 xf_10 := ⟨Tryd.f10, Tryd.func10, by kernel_rfl, rfl, rfl, by kernel_rfl, by kernel_rfl⟩
noncomputable def xf_11 : XF := { code := (Tryd.f11.body).getD .skip, n := Tryd.f11.ntmps, tr := [59, 60], rs := Tryd.f11.results.toList }
theorem xf_11_ok : FOk Tryd.prog 11 xf_11 := ⟨Tryd.f11, Tryd.func11, by kernel_rfl, rfl, rfl, by kernel_rfl, by kernel_rfl⟩
noncomputable def xf_13 : XF := { code := (Tryd.f13.body).getD .skip, n := Tryd.f13.ntmps, tr := [], rs := Tryd.f13.results.toList }
theorem xf_13_ok : FOk Tryd.prog 13 xf_13 := ⟨Tryd.f13, Tryd.func13, by kernel_rfl, rfl, rfl, by kernel_rfl, by kernel_rfl⟩
noncomputable def xf_15 : XF := { code := (Tryd.f15.body).getD .skip, n := Tryd.f15.ntmps, tr := [], rs := Tryd.f15.results.toList }
theorem xf_15_ok : FOk Tryd.prog 15 xf_15 := ⟨Tryd.f15, Tryd.func15, by kernel_rfl, rfl, rfl, by kernel_rfl, by kernel_rfl⟩
noncomputable def xf_18 : XF := { code := (Tryd.f18.body).getD .skip, n := Tryd.f18.ntmps, tr := [], rs := Tryd.f18.results.toList }
theorem xf_18_ok : FOk Tryd.prog 18 xf_18 := ⟨Tryd.f18, Tryd.func18, by kernel_rfl, rfl, rfl, by kernel_rfl, by kernel_rfl⟩
noncomputable def xf_20 : XF := { code := (Tryd.f20.body).getD .skip, n := Tryd.f20.ntmps, tr := [], rs := Tryd.f20.results.toList }
theorem xf_20_ok : FOk Tryd.prog 20 xf_20 := ⟨Tryd.f20, Tryd.func20, by kernel_rfl, rfl, rfl, by kernel_rfl, by kernel_rfl⟩
noncomputable def xf_23 : XF := { code := (Tryd.f23.body).getD .skip, n := Tryd.f23.ntmps, tr := [2000003, 2000006, 2000008], rs := Tryd.f23.results.toList }
theorem xf_23_ok : FOk Tryd.prog 23 xf_23 := ⟨Tryd.f23, Tryd.func23, by kernel_rfl, rfl, rfl, by kernel_rfl, by kernel_rfl⟩
noncomputable def xf_24 : XF := { code := (Tryd.f24.body).getD .skip, n := Tryd.f24.ntmps, tr := [], rs := Tryd.f24.results.toList }
theorem xf_24_ok : FOk Tryd.prog 24 xf_24 := ⟨Tryd.f24, Tryd.func24, by kernel_rfl, rfl, rfl, by kernel_rfl, by kernel_rfl⟩
noncomputable def xf_25 : XF := { code := (Tryd.f25.body).getD .skip, n := Tryd.f25.ntmps, tr := [], rs := Tryd.f25.results.toList }
theorem xf_25_ok : FOk Tryd.prog 25 xf_25 := ⟨Tryd.f25, Tryd.func25, by kernel_rfl, rfl, rfl, by kernel_rfl, by kernel_rfl⟩
noncomputable def xf_26 : XF := { code := (Tryd.f26.body).getD .skip, n := Tryd.f26.ntmps, tr := [], rs := Tryd.f26.results.toList }
theorem xf_26_ok : FOk Tryd.prog 26 xf_26 := ⟨Tryd.f26, Tryd.func26, by kernel_rfl, rfl, rfl, by kernel_rfl, by kernel_rfl⟩
noncomputable def xf_30 : XF := { code := (Tryd.f30.body).getD .skip, n := Tryd.f30.ntmps, tr := [], rs := Tryd.f30.results.toList }
theorem xf_30_ok : FOk Tryd.prog 30 xf_30 := ⟨Tryd.f30, Tryd.func30, by kernel_rfl, rfl, rfl, by kernel_rfl, by kernel_rfl⟩
noncomputable def xf_31 : XF := { code := (Tryd.f31.body).getD .skip, n := Tryd.f31.ntmps, tr := [11, 1000007, 1000010], rs := Tryd.f31.results.toList }
theorem xf_31_ok : FOk Tryd.prog 31 xf_31 := ⟨Tryd.f31, Tryd.func31, by kernel_rfl, rfl, rfl, by kernel_rfl, by kernel_rfl⟩
noncomputable def xf_32 : XF := { code := (Tryd.f32.body).getD .skip, n := Tryd.f32.ntmps, tr := [], rs := Tryd.f32.results.toList }
theorem xf_32_ok : FOk Tryd.prog 32 xf_32 := ⟨Tryd.f32, Tryd.func32, by kernel_rfl, rfl, rfl, by kernel_rfl, by kernel_rfl⟩
noncomputable def xf_33 : XF := { code := (Tryd.f33.body).getD .skip, n := Tryd.f33.ntmps, tr := [15, 17], rs := Tryd.f33.results.toList }
theorem xf_33_ok : FOk Tryd.prog 33 xf_33 := ⟨Tryd.f33, Tryd.func33, by kernel_rfl, rfl, rfl, by kernel_rfl, by kernel_rfl⟩
noncomputable def xf_34 : XF := { code := (Tryd.f34.body).getD .skip, n := Tryd.f34.ntmps, tr := [], rs := Tryd.f34.results.toList }
theorem xf_34_ok : FOk Tryd.prog 34 xf_34 := ⟨Tryd.f34, Tryd.func34, by kernel_rfl, rfl, rfl, by kernel_rfl, by kernel_rfl⟩
noncomputable def xf_35 : XF := { code := (Tryd.f35.body).getD .skip, n := Tryd.f35.ntmps, tr := [11, 1000007, 1000010], rs := Tryd.f35.results.toList }
theorem xf_35_ok : FOk Tryd.prog 35 xf_35 := ⟨Tryd.f35, Tryd.func35, by kernel_rfl, rfl, rfl, by kernel_rfl, by kernel_rfl⟩
noncomputable def xf_36 : XF := { code := (Tryd.f36.body).getD .skip, n := Tryd.f36.ntmps, tr := [], rs := Tryd.f36.results.toList }
theorem xf_36_ok : FOk Tryd.prog 36 xf_36 := ⟨Tryd.f36, Tryd.func36, by kernel_rfl, rfl, rfl, by kernel_rfl, by kernel_rfl⟩
noncomputable def xf_38 : XF := { code := (Tryd.f38.body).getD .skip, n := Tryd.f38.ntmps, tr := [], rs := Tryd.f38.results.toList }
theorem xf_38_ok : FOk Tryd.prog 38 xf_38 := ⟨Tryd.f38, Tryd.func38, by kernel_rfl, rfl, rfl, by kernel_rfl, by kernel_rfl⟩
noncomputable def xf_39 : XF := { code := (Tryd.f39.body).getD .skip, n := Tryd.f39.ntmps, tr := [], rs := Tryd.f39.results.toList }
theorem xf_39_ok : FOk Tryd.prog 39 xf_39 := ⟨Tryd.f39, Tryd.func39, by kernel_rfl, rfl, rfl, by kernel_rfl, by kernel_rfl⟩
noncomputable def xf_40 : XF := { code := (Tryd.f40.body).getD .skip, n := Tryd.f40.ntmps, tr := [], rs := Tryd.f40.results.toList }
theorem xf_40_ok : FOk Tryd.prog 40 xf_40 := ⟨Tryd.f40, Tryd.func40, by kernel_rfl, rfl, rfl, by kernel_rfl, by kernel_rfl⟩
noncomputable def xf_41 : XF := { code := (Tryd.f41.body).getD .skip, n := Tryd.f41.ntmps, tr := [], rs := Tryd.f41.results.toList }
theorem xf_41_ok : FOk Tryd.prog 41 xf_41 := ⟨Tryd.f41, Tryd.func41, by kernel_rfl, rfl, rfl, by kernel_rfl, by kernel_rfl⟩
noncomputable def xf_42 : XF := { code := (Tryd.f42.body).getD .skip, n := Tryd.f42.ntmps, tr := [], rs := Tryd.f42.results.toList }
theorem xf_42_ok : FOk Tryd.prog 42 xf_42 := ⟨Tryd.f42, Tryd.func42, by kernel_rfl, rfl, rfl, by kernel_rfl, by kernel_rfl⟩
noncomputable def xf_43 : XF := { code := (Tryd.f43.body).getD .skip, n := Tryd.f43.ntmps, tr := [], rs := Tryd.f43.results.toList }
theorem xf_43_ok : FOk Tryd.prog 43 xf_43 := ⟨Tryd.f43, Tryd.func43, by kernel_rfl, rfl, rfl, by kernel_rfl, by kernel_rfl⟩
noncomputable def xf_44 : XF := { code := (Tryd.f44.body).getD .skip, n := Tryd.f44.ntmps, tr := [], rs := Tryd.f44.results.toList }
theorem xf_44_ok : FOk Tryd.prog 44 xf_44 := ⟨Tryd.f44, Tryd.func44, by kernel_rfl, rfl, rfl, by kernel_rfl, by kernel_rfl⟩
noncomputable def xf_45 : XF := { code := (Tryd.f45.body).getD .skip, n := Tryd.f45.ntmps, tr := [], rs := Tryd.f45.results.toList }
theorem xf_45_ok : FOk Tryd.prog 45 xf_45 := ⟨Tryd.f45, Tryd.func45, by kernel_rfl, rfl, rfl, by kernel_rfl, by kernel_rfl⟩
noncomputable def xf_46 : XF := { code := (Tryd.f46.body).getD .skip, n := Tryd.f46.ntmps, tr := [], rs := Tryd.f46.results.toList }
theorem xf_46_ok : FOk Tryd.prog 46 xf_46 := ⟨Tryd.f46, Tryd.func46, by kernel_rfl, rfl, rfl, by kernel_rfl, by kernel_rfl⟩
noncomputable def xf_47 : XF := { code := (Tryd.f47.body).getD .skip, n := Tryd.f47.ntmps, tr := [], rs := Tryd.f47.results.toList }
theorem xf_47_ok : FOk Tryd.prog 47 xf_47 := ⟨Tryd.f47, Tryd.func47, by kernel_rfl, rfl, rfl, by kernel_rfl, by kernel_rfl⟩
noncomputable def xf_49 : XF := { code := (Tryd.f49.body).getD .skip, n := Tryd.f49.ntmps, tr := [], rs := Tryd.f49.results.toList }
theorem xf_49_ok : FOk Tryd.prog 49 xf_49 := ⟨Tryd.f49, Tryd.func49, by kernel_rfl, rfl, rfl, by kernel_rfl, by kernel_rfl⟩
noncomputable def xf_50 : XF := { code := (Tryd.f50.body).getD .skip, n := Tryd.f50.ntmps, tr := [1000008], rs := Tryd.f50.results.toList }
theorem xf_50_ok : FOk Tryd.prog 50 xf_50 := ⟨Tryd.f50, Tryd.func50, by kernel_rfl, rfl, rfl, by kernel_rfl, by kernel_rfl⟩
noncomputable def xf_51 : XF := { code := (Tryd.f51.body).getD .skip, n := Tryd.f51.ntmps, tr := [], rs := Tryd.f51.results.toList }
theorem xf_51_ok : FOk Tryd.prog 51 xf_51 := ⟨Tryd.f51, Tryd.func51, by kernel_rfl, rfl, rfl, by kernel_rfl, by kernel_rfl⟩
noncomputable def xf_52 : XF := { code := (Tryd.f52.body).getD .skip, n := Tryd.f52.ntmps, tr := [], rs := Tryd.f52.results.toList }
theorem xf_52_ok : FOk Tryd.prog 52 xf_52 := ⟨Tryd.f52, Tryd.func52, by kernel_rfl, rfl, rfl, by kernel_rfl, by kernel_rfl⟩
noncomputable def xf_53 : XF := { code := (Tryd.f53.body).getD .skip, n := Tryd.f53.ntmps, tr := [1000008], rs := Tryd.f53.results.toList }
theorem xf_53_ok : FOk Tryd.prog 53 xf_53 := ⟨Tryd.f53, Tryd.func53, by kernel_rfl, rfl, rfl, by kernel_rfl, by kernel_rfl⟩
noncomputable def xf_54 : XF := { code := (Tryd.f54.body).getD .skip, n := Tryd.f54.ntmps, tr := [17], rs := Tryd.f54.results.toList }
theorem xf_54_ok : FOk Tryd.prog 54 xf_54 := ⟨Tryd.f54, Tryd.func54, by kernel_rfl, rfl, rfl, by kernel_rfl, by kernel_rfl⟩
noncomputable def xf_55 : XF := { code := (Tryd.f55.body).getD .skip, n := Tryd.f55.ntmps, tr := [], rs := Tryd.f55.results.toList }
theorem xf_55_ok : FOk Tryd.prog 55 xf_55 := ⟨Tryd.f55, Tryd.func55, by kernel_rfl, rfl, rfl, by kernel_rfl, by kernel_rfl⟩
noncomputable def xf_56 : XF := { code := (Tryd.f56.body).getD .skip, n := Tryd.f56.ntmps, tr := [], rs := Tryd.f56.results.toList }
theorem xf_56_ok : FOk Tryd.prog 56 xf_56 := ⟨Tryd.f56, Tryd.func56, by kernel_rfl, rfl, rfl, by kernel_rfl, by kernel_rfl⟩
noncomputable def xf_57 : XF := { code := (Tryd.f57.body).getD .skip, n := Tryd.f57.ntmps, tr := [17], rs := Tryd.f57.results.toList }
theorem xf_57_ok : FOk Tryd.prog 57 xf_57 := ⟨Tryd.f57, Tryd.func57, by kernel_rfl, rfl, rfl, by kernel_rfl, by kernel_rfl⟩
noncomputable def xf_58 : XF := { code := (Tryd.f58.body).getD .skip, n := Tryd.f58.ntmps, tr := [17], rs := Tryd.f58.results.toList }
theorem xf_58_ok : FOk Tryd.prog 58 xf_58 := ⟨Tryd.f58, Tryd.func58, by kernel_rfl, rfl, rfl, by kernel_rfl, by kernel_rfl⟩
noncomputable def xf_59 : XF := { code := (Tryd.f59.body).getD .skip, n := Tryd.f59.ntmps, tr := [17], rs := Tryd.f59.results.toList }
theorem xf_59_ok : FOk Tryd.prog 59 xf_59 := ⟨Tryd.f59, Tryd.func59, by kernel_rfl, rfl, rfl, by kernel_rfl, by kernel_rfl⟩
noncomputable def xf_60 : XF := { code := (Tryd.f60.body).getD .skip, n := Tryd.f60.ntmps, tr := [1000018, 1000027, 1000043, 1000060], rs := Tryd.f60.results.toList }
theorem xf_60_ok : FOk Tryd.prog 60 xf_60 := ⟨Tryd.f60, Tryd.func60, by kernel_rfl, rfl, rfl, by kernel_rfl, by kernel_rfl⟩
noncomputable def xf_61 : XF := { code := (Tryd.f61.body).getD .skip, n := Tryd.f61.ntmps, tr := [1000018, 1000027, 1000043, 1000060], rs := Tryd.f61.results.toList }
theorem xf_61_ok : FOk Tryd.prog 61 xf_61 := ⟨Tryd.f61, Tryd.func61, by kernel_rfl, rfl, rfl, by kernel_rfl, by kernel_rfl⟩
noncomputable def xf_62 : XF := { code := (Tryd.f62.body).getD .skip, n := Tryd.f62.ntmps, tr := [17], rs := Tryd.f62.results.toList }
theorem xf_62_ok : FOk Tryd.prog 62 xf_62 := ⟨Tryd.f62, Tryd.func62, by kernel_rfl, rfl, rfl, by kernel_rfl, by kernel_rfl⟩
noncomputable def xf_63 : XF := { code := (Tryd.f63.body).getD .skip, n := Tryd.f63.ntmps, tr := [], rs := Tryd.f63.results.toList }
theorem xf_63_ok : FOk Tryd.prog 63 xf_63 := ⟨Tryd.f63, Tryd.func63, by kernel_rfl, rfl, rfl, by kernel_rfl, by kernel_rfl⟩
noncomputable def xf_64 : XF := { code := (Tryd.f64.body).getD .skip, n := Tryd.f64.ntmps, tr := [1000191, 1000205, 1000219], rs := Tryd.f64.results.toList }
theorem xf_64_ok : FOk Tryd.prog 64 xf_64 := ⟨Tryd.f64, Tryd.func64, by kernel_rfl, rfl, rfl, by kernel_rfl, by kernel_rfl⟩
noncomputable def xf_65 : XF := { code := (Tryd.f65.body).getD .skip, n := Tryd.f65.ntmps, tr := [], rs := Tryd.f65.results.toList }
theorem xf_65_ok : FOk Tryd.prog 65 xf_65 := ⟨Tryd.f65, Tryd.func65, by kernel_rfl, rfl, rfl, by kernel_rfl, by kernel_rfl⟩
noncomputable def xf_66 : XF := { code := (Tryd.f66.body).getD .skip, n := Tryd.f66.ntmps, tr := [1000191, 1000205, 1000219], rs := Tryd.f66.results.toList }
theorem xf_66_ok : FOk Tryd.prog 66 xf_66 := ⟨Tryd.f66, Tryd.func66, by kernel_rfl, rfl, rfl, by kernel_rfl, by kernel_rfl⟩
noncomputable def xf_67 : XF := { code := (Tryd.f67.body).getD .skip, n := Tryd.f67.ntmps, tr := [1000031, 1000046, 1000057], rs := Tryd.f67.results.toList }
theorem xf_67_ok : FOk Tryd.prog 67 xf_67 := ⟨Tryd.f67, Tryd.func67, by kernel_rfl, rfl, rfl, by kernel_rfl, by kernel_rfl⟩
noncomputable def xf_68 : XF := { code := (Tryd.f68.body).getD .skip, n := Tryd.f68.ntmps, tr := [1000031, 1000046, 1000057], rs := Tryd.f68.results.toList }
theorem xf_68_ok : FOk Tryd.prog 68 xf_68 := ⟨Tryd.f68, Tryd.func68, by kernel_rfl, rfl, rfl, by kernel_rfl, by kernel_rfl⟩
noncomputable def xf_69 : XF := { code := (Tryd.f69.body).getD .skip, n := Tryd.f69.ntmps, tr := [], rs := Tryd.f69.results.toList }
theorem xf_69_ok : FOk Tryd.prog 69 xf_69 := ⟨Tryd.f69, Tryd.func69, by kernel_rfl, rfl, rfl, by kernel_rfl, by kernel_rfl⟩
noncomputable def xf_70 : XF := { code := (Tryd.f70.body).getD .skip, n := Tryd.f70.ntmps, tr := [], rs := Tryd.f70.results.toList }
theorem xf_70_ok : FOk Tryd.prog 70 xf_70 := ⟨Tryd.f70, Tryd.func70, by kernel_rfl, rfl, rfl, by kernel_rfl, by kernel_rfl⟩
noncomputable def xFl : List (Option XF) := [none, none, none, none, none, none, none, none, none, none, some xf_10, some xf_11, none, some xf_13, none, some xf_15, none, none, some xf_18, none, some xf_20, none, none, some xf_23, some xf_24, some xf_25, some xf_26, none, none, none, some xf_30, some xf_31, some xf_32, some xf_33, some xf_34, some xf_35, some xf_36, none, some xf_38, some xf_39, some xf_40, some xf_41, some xf_42, some xf_43, some xf_44, some xf_45, some xf_46, some xf_47, none, some xf_49, some xf_50, some xf_51, some xf_52, some xf_53, some xf_54, some xf_55, some xf_56, some xf_57, some xf_58, some xf_59, some xf_60, some xf_61, some xf_62, some xf_63, some xf_64, some xf_65, some xf_66, some xf_67, some xf_68, some xf_69, some xf_70, none, none, none, none, none, none, none, none, none, none, none, none, none, none, none, none, none, none, none, none, none]
theorem xF_ok : FblOk Tryd.prog 0 xFl := by
  unfold xFl
  exact ⟨xf_10_ok, ⟨xf_11_ok, ⟨xf_13_ok, ⟨xf_15_ok, ⟨xf_18_ok, ⟨xf_20_ok, ⟨xf_23_ok, ⟨xf_24_ok, ⟨xf_25_ok, ⟨xf_26_ok, ⟨xf_30_ok, ⟨xf_31_ok, ⟨xf_32_ok, ⟨xf_33_ok, ⟨xf_34_ok, ⟨xf_35_ok, ⟨xf_36_ok, ⟨xf_38_ok, ⟨xf_39_ok, ⟨xf_40_ok, ⟨xf_41_ok, ⟨xf_42_ok, ⟨xf_43_ok, ⟨xf_44_ok, ⟨xf_45_ok, ⟨xf_46_ok, ⟨xf_47_ok, ⟨xf_49_ok, ⟨xf_50_ok, ⟨xf_51_ok, ⟨xf_52_ok, ⟨xf_53_ok, ⟨xf_54_ok, ⟨xf_55_ok, ⟨xf_56_ok, ⟨xf_57_ok, ⟨xf_58_ok, ⟨xf_59_ok, ⟨xf_60_ok, ⟨xf_61_ok, ⟨xf_62_ok, ⟨xf_63_ok, ⟨xf_64_ok, ⟨xf_65_ok, ⟨xf_66_ok, ⟨xf_67_ok, ⟨xf_68_ok, ⟨xf_69_ok, ⟨xf_70_ok, trivial⟩⟩⟩⟩⟩⟩⟩⟩⟩⟩⟩⟩⟩⟩⟩⟩⟩⟩⟩⟩⟩⟩⟩⟩⟩⟩⟩⟩⟩⟩⟩⟩⟩⟩⟩⟩⟩⟩⟩⟩⟩⟩⟩⟩⟩⟩⟩⟩⟩
end Go.Proofs.YtbhfbbfifmnniaaDoor
