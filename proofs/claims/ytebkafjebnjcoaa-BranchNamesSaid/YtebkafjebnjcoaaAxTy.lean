/- The types of this seat: sizes, fields, elements (printed; each is checked). -/
import Derived.Test.YtebkafjebnjcoaaProg
import Derived.Test.YtebkafjebnjcoaaAxY
import Derived.KernelRfl
set_option maxRecDepth 100000
namespace Go.AX.Ty
theorem tk_0 : tk Go.Proofs.Try.prog 0 = some (false, 1) := by kernel_rfl
theorem tk_1 : tk Go.Proofs.Try.prog 1 = some (false, 1) := by kernel_rfl
theorem zc_1 : zc Go.Proofs.Try.prog 1 = some [AV.raw Value.nilFunc] := by kernel_rfl
theorem tk_2 : tk Go.Proofs.Try.prog 2 = some (false, 1) := by kernel_rfl
theorem zc_2 : zc Go.Proofs.Try.prog 2 = some [AV.d (D.int IntKind.i64 0)] := by kernel_rfl
theorem zv_2 : zv Go.Proofs.Try.prog 2 = some (false, [D.int IntKind.i64 0]) := by kernel_rfl
theorem under_2 : Go.Proofs.Try.prog.underlying 2 = some (TypeDesc.int IntKind.i64) := by kernel_rfl
theorem tk_3 : tk Go.Proofs.Try.prog 3 = some (false, 1) := by kernel_rfl
theorem zc_3 : zc Go.Proofs.Try.prog 3 = some [AV.d (D.int IntKind.i64 0)] := by kernel_rfl
theorem zv_3 : zv Go.Proofs.Try.prog 3 = some (false, [D.int IntKind.i64 0]) := by kernel_rfl
theorem under_3 : Go.Proofs.Try.prog.underlying 3 = some (TypeDesc.int IntKind.i64) := by kernel_rfl
theorem tk_4 : tk Go.Proofs.Try.prog 4 = some (false, 1) := by kernel_rfl
theorem zc_4 : zc Go.Proofs.Try.prog 4 = some [AV.d (D.bool false)] := by kernel_rfl
theorem zv_4 : zv Go.Proofs.Try.prog 4 = some (false, [D.bool false]) := by kernel_rfl
theorem under_4 : Go.Proofs.Try.prog.underlying 4 = some TypeDesc.bool := by kernel_rfl
theorem tk_5 : tk Go.Proofs.Try.prog 5 = some (false, 1) := by kernel_rfl
theorem zc_5 : zc Go.Proofs.Try.prog 5 = some [AV.d (D.int IntKind.u8 0)] := by kernel_rfl
theorem zv_5 : zv Go.Proofs.Try.prog 5 = some (false, [D.int IntKind.u8 0]) := by kernel_rfl
theorem under_5 : Go.Proofs.Try.prog.underlying 5 = some (TypeDesc.int IntKind.u8) := by kernel_rfl
theorem tk_6 : tk Go.Proofs.Try.prog 6 = some (false, 1) := by kernel_rfl
theorem zc_6 : zc Go.Proofs.Try.prog 6 = some [AV.d (D.int IntKind.u8 0)] := by kernel_rfl
theorem zv_6 : zv Go.Proofs.Try.prog 6 = some (false, [D.int IntKind.u8 0]) := by kernel_rfl
theorem under_6 : Go.Proofs.Try.prog.underlying 6 = some (TypeDesc.int IntKind.u8) := by kernel_rfl
theorem tk_7 : tk Go.Proofs.Try.prog 7 = some (true, 4) := by kernel_rfl
theorem zc_7 : zc Go.Proofs.Try.prog 7 = some [AV.d (D.int IntKind.i64 0), AV.d (D.int IntKind.i64 0), AV.d (D.bool false), AV.d (D.int IntKind.u8 0)] := by kernel_rfl
theorem zv_7 : zv Go.Proofs.Try.prog 7 = some (true, [D.int IntKind.i64 0, D.int IntKind.i64 0, D.bool false, D.int IntKind.u8 0]) := by kernel_rfl
theorem partsOk_7 : partsOk Go.Proofs.Try.prog 7 = true := by kernel_rfl
theorem fo_7_0 : fo Go.Proofs.Try.prog 7 0 = some (0, false, 1) := by kernel_rfl
theorem placeAt_7_0 : placeAt Go.Proofs.Try.prog 7 0 = some (0, 1) := by kernel_rfl
theorem fo_7_1 : fo Go.Proofs.Try.prog 7 1 = some (1, false, 1) := by kernel_rfl
theorem placeAt_7_1 : placeAt Go.Proofs.Try.prog 7 1 = some (1, 1) := by kernel_rfl
theorem fo_7_2 : fo Go.Proofs.Try.prog 7 2 = some (2, false, 1) := by kernel_rfl
theorem placeAt_7_2 : placeAt Go.Proofs.Try.prog 7 2 = some (2, 1) := by kernel_rfl
theorem fo_7_3 : fo Go.Proofs.Try.prog 7 3 = some (3, false, 1) := by kernel_rfl
theorem placeAt_7_3 : placeAt Go.Proofs.Try.prog 7 3 = some (3, 1) := by kernel_rfl
theorem tk_8 : tk Go.Proofs.Try.prog 8 = some (true, 4) := by kernel_rfl
theorem zc_8 : zc Go.Proofs.Try.prog 8 = some [AV.d (D.int IntKind.i64 0), AV.d (D.int IntKind.i64 0), AV.d (D.bool false), AV.d (D.int IntKind.u8 0)] := by kernel_rfl
theorem zv_8 : zv Go.Proofs.Try.prog 8 = some (true, [D.int IntKind.i64 0, D.int IntKind.i64 0, D.bool false, D.int IntKind.u8 0]) := by kernel_rfl
theorem partsOk_8 : partsOk Go.Proofs.Try.prog 8 = true := by kernel_rfl
theorem fo_8_0 : fo Go.Proofs.Try.prog 8 0 = some (0, false, 1) := by kernel_rfl
theorem placeAt_8_0 : placeAt Go.Proofs.Try.prog 8 0 = some (0, 1) := by kernel_rfl
theorem fo_8_1 : fo Go.Proofs.Try.prog 8 1 = some (1, false, 1) := by kernel_rfl
theorem placeAt_8_1 : placeAt Go.Proofs.Try.prog 8 1 = some (1, 1) := by kernel_rfl
theorem fo_8_2 : fo Go.Proofs.Try.prog 8 2 = some (2, false, 1) := by kernel_rfl
theorem placeAt_8_2 : placeAt Go.Proofs.Try.prog 8 2 = some (2, 1) := by kernel_rfl
theorem fo_8_3 : fo Go.Proofs.Try.prog 8 3 = some (3, false, 1) := by kernel_rfl
theorem placeAt_8_3 : placeAt Go.Proofs.Try.prog 8 3 = some (3, 1) := by kernel_rfl
theorem tk_9 : tk Go.Proofs.Try.prog 9 = some (false, 1) := by kernel_rfl
theorem srcT_9 : srcT Go.Proofs.Try.prog 9 = true := by kernel_rfl
theorem zc_9 : zc Go.Proofs.Try.prog 9 = some [AV.d (D.str ByteArray.empty)] := by kernel_rfl
theorem zv_9 : zv Go.Proofs.Try.prog 9 = some (false, [D.str ByteArray.empty]) := by kernel_rfl
theorem under_9 : Go.Proofs.Try.prog.underlying 9 = some TypeDesc.string := by kernel_rfl
theorem tk_10 : tk Go.Proofs.Try.prog 10 = some (false, 1) := by kernel_rfl
theorem srcT_10 : srcT Go.Proofs.Try.prog 10 = true := by kernel_rfl
theorem zc_10 : zc Go.Proofs.Try.prog 10 = some [AV.d (D.str ByteArray.empty)] := by kernel_rfl
theorem zv_10 : zv Go.Proofs.Try.prog 10 = some (false, [D.str ByteArray.empty]) := by kernel_rfl
theorem under_10 : Go.Proofs.Try.prog.underlying 10 = some TypeDesc.string := by kernel_rfl
theorem tk_11 : tk Go.Proofs.Try.prog 11 = some (false, 1) := by kernel_rfl
theorem srcT_11 : srcT Go.Proofs.Try.prog 11 = true := by kernel_rfl
theorem zc_11 : zc Go.Proofs.Try.prog 11 = some [AV.d (D.str ByteArray.empty)] := by kernel_rfl
theorem zv_11 : zv Go.Proofs.Try.prog 11 = some (false, [D.str ByteArray.empty]) := by kernel_rfl
theorem under_11 : Go.Proofs.Try.prog.underlying 11 = some TypeDesc.string := by kernel_rfl
theorem tk_12 : tk Go.Proofs.Try.prog 12 = some (false, 1) := by kernel_rfl
theorem zc_12 : zc Go.Proofs.Try.prog 12 = some [AV.d (D.int IntKind.u64 0)] := by kernel_rfl
theorem zv_12 : zv Go.Proofs.Try.prog 12 = some (false, [D.int IntKind.u64 0]) := by kernel_rfl
theorem under_12 : Go.Proofs.Try.prog.underlying 12 = some (TypeDesc.int IntKind.u64) := by kernel_rfl
theorem tk_13 : tk Go.Proofs.Try.prog 13 = some (true, 2) := by kernel_rfl
theorem zc_13 : zc Go.Proofs.Try.prog 13 = some [AV.d (D.str ByteArray.empty), AV.d (D.int IntKind.u64 0)] := by kernel_rfl
theorem zv_13 : zv Go.Proofs.Try.prog 13 = some (true, [D.str ByteArray.empty, D.int IntKind.u64 0]) := by kernel_rfl
theorem partsOk_13 : partsOk Go.Proofs.Try.prog 13 = true := by kernel_rfl
theorem fo_13_0 : fo Go.Proofs.Try.prog 13 0 = some (0, false, 1) := by kernel_rfl
theorem placeAt_13_0 : placeAt Go.Proofs.Try.prog 13 0 = some (0, 1) := by kernel_rfl
theorem fo_13_1 : fo Go.Proofs.Try.prog 13 1 = some (1, false, 1) := by kernel_rfl
theorem placeAt_13_1 : placeAt Go.Proofs.Try.prog 13 1 = some (1, 1) := by kernel_rfl
theorem tk_14 : tk Go.Proofs.Try.prog 14 = some (true, 2) := by kernel_rfl
theorem zc_14 : zc Go.Proofs.Try.prog 14 = some [AV.d (D.str ByteArray.empty), AV.d (D.int IntKind.u64 0)] := by kernel_rfl
theorem zv_14 : zv Go.Proofs.Try.prog 14 = some (true, [D.str ByteArray.empty, D.int IntKind.u64 0]) := by kernel_rfl
theorem partsOk_14 : partsOk Go.Proofs.Try.prog 14 = true := by kernel_rfl
theorem fo_14_0 : fo Go.Proofs.Try.prog 14 0 = some (0, false, 1) := by kernel_rfl
theorem placeAt_14_0 : placeAt Go.Proofs.Try.prog 14 0 = some (0, 1) := by kernel_rfl
theorem fo_14_1 : fo Go.Proofs.Try.prog 14 1 = some (1, false, 1) := by kernel_rfl
theorem placeAt_14_1 : placeAt Go.Proofs.Try.prog 14 1 = some (1, 1) := by kernel_rfl
theorem tk_15 : tk Go.Proofs.Try.prog 15 = some (false, 1) := by kernel_rfl
theorem zc_15 : zc Go.Proofs.Try.prog 15 = some [AV.raw (Value.pointer none)] := by kernel_rfl
theorem tk_16 : tk Go.Proofs.Try.prog 16 = some (false, 1) := by kernel_rfl
theorem zc_16 : zc Go.Proofs.Try.prog 16 = some [AV.raw (Value.pointer none)] := by kernel_rfl
theorem tk_17 : tk Go.Proofs.Try.prog 17 = some (false, 1) := by kernel_rfl
theorem zc_17 : zc Go.Proofs.Try.prog 17 = some [AV.raw (Value.pointer none)] := by kernel_rfl
theorem tk_18 : tk Go.Proofs.Try.prog 18 = some (true, 1) := by kernel_rfl
theorem zc_18 : zc Go.Proofs.Try.prog 18 = some [AV.raw (Value.pointer none)] := by kernel_rfl
theorem partsOk_18 : partsOk Go.Proofs.Try.prog 18 = true := by kernel_rfl
theorem fo_18_0 : fo Go.Proofs.Try.prog 18 0 = some (0, false, 1) := by kernel_rfl
theorem placeAt_18_0 : placeAt Go.Proofs.Try.prog 18 0 = some (0, 1) := by kernel_rfl
theorem tk_19 : tk Go.Proofs.Try.prog 19 = some (true, 1) := by kernel_rfl
theorem zc_19 : zc Go.Proofs.Try.prog 19 = some [AV.raw (Value.pointer none)] := by kernel_rfl
theorem partsOk_19 : partsOk Go.Proofs.Try.prog 19 = true := by kernel_rfl
theorem fo_19_0 : fo Go.Proofs.Try.prog 19 0 = some (0, false, 1) := by kernel_rfl
theorem placeAt_19_0 : placeAt Go.Proofs.Try.prog 19 0 = some (0, 1) := by kernel_rfl
theorem tk_20 : tk Go.Proofs.Try.prog 20 = some (false, 1) := by kernel_rfl
theorem zc_20 : zc Go.Proofs.Try.prog 20 = some [AV.raw Value.nilIface] := by kernel_rfl
theorem tk_21 : tk Go.Proofs.Try.prog 21 = some (false, 1) := by kernel_rfl
theorem zc_21 : zc Go.Proofs.Try.prog 21 = some [AV.d (D.int IntKind.i32 0)] := by kernel_rfl
theorem zv_21 : zv Go.Proofs.Try.prog 21 = some (false, [D.int IntKind.i32 0]) := by kernel_rfl
theorem under_21 : Go.Proofs.Try.prog.underlying 21 = some (TypeDesc.int IntKind.i32) := by kernel_rfl
theorem tk_22 : tk Go.Proofs.Try.prog 22 = some (false, 1) := by kernel_rfl
theorem it_22 : it Go.Proofs.Try.prog 22 = some (none, true, 3) := by kernel_rfl
theorem ei_22 : ei Go.Proofs.Try.prog 22 = some (3, 40) := by kernel_rfl
theorem srcT_22 : srcT Go.Proofs.Try.prog 22 = true := by kernel_rfl
theorem zc_22 : zc Go.Proofs.Try.prog 22 = some [AV.nil] := by kernel_rfl
theorem zd_22 : zd Go.Proofs.Try.prog 22 = some [D.str ByteArray.empty, D.str ByteArray.empty, D.int IntKind.i64 0] := by kernel_rfl
theorem under_22 : Go.Proofs.Try.prog.underlying 22 = some (TypeDesc.slice 43) := by kernel_rfl
theorem tk_23 : tk Go.Proofs.Try.prog 23 = some (false, 1) := by kernel_rfl
theorem it_23 : it Go.Proofs.Try.prog 23 = some (none, false, 1) := by kernel_rfl
theorem ei_23 : ei Go.Proofs.Try.prog 23 = some (1, 8) := by kernel_rfl
theorem srcT_23 : srcT Go.Proofs.Try.prog 23 = true := by kernel_rfl
theorem zc_23 : zc Go.Proofs.Try.prog 23 = some [AV.nil] := by kernel_rfl
theorem zd_23 : zd Go.Proofs.Try.prog 23 = some [D.int IntKind.i64 0] := by kernel_rfl
theorem under_23 : Go.Proofs.Try.prog.underlying 23 = some (TypeDesc.slice 3) := by kernel_rfl
theorem tk_24 : tk Go.Proofs.Try.prog 24 = some (false, 1) := by kernel_rfl
theorem zc_24 : zc Go.Proofs.Try.prog 24 = some [AV.raw Value.nilFunc] := by kernel_rfl
theorem tk_25 : tk Go.Proofs.Try.prog 25 = some (false, 1) := by kernel_rfl
theorem it_25 : it Go.Proofs.Try.prog 25 = some (none, true, 2) := by kernel_rfl
theorem ei_25 : ei Go.Proofs.Try.prog 25 = some (2, 16) := by kernel_rfl
theorem srcT_25 : srcT Go.Proofs.Try.prog 25 = true := by kernel_rfl
theorem zc_25 : zc Go.Proofs.Try.prog 25 = some [AV.nil] := by kernel_rfl
theorem zd_25 : zd Go.Proofs.Try.prog 25 = some [D.int IntKind.i64 0, D.int IntKind.i64 0] := by kernel_rfl
theorem under_25 : Go.Proofs.Try.prog.underlying 25 = some (TypeDesc.slice 45) := by kernel_rfl
theorem tk_26 : tk Go.Proofs.Try.prog 26 = some (false, 1) := by kernel_rfl
theorem zc_26 : zc Go.Proofs.Try.prog 26 = some [AV.d (D.int IntKind.i64 0)] := by kernel_rfl
theorem zv_26 : zv Go.Proofs.Try.prog 26 = some (false, [D.int IntKind.i64 0]) := by kernel_rfl
theorem under_26 : Go.Proofs.Try.prog.underlying 26 = some (TypeDesc.int IntKind.i64) := by kernel_rfl
theorem tk_27 : tk Go.Proofs.Try.prog 27 = some (false, 1) := by kernel_rfl
theorem tk_28 : tk Go.Proofs.Try.prog 28 = some (false, 1) := by kernel_rfl
theorem zc_28 : zc Go.Proofs.Try.prog 28 = some [AV.raw Value.nilFunc] := by kernel_rfl
theorem tk_29 : tk Go.Proofs.Try.prog 29 = some (false, 1) := by kernel_rfl
theorem tk_30 : tk Go.Proofs.Try.prog 30 = some (false, 1) := by kernel_rfl
theorem zc_30 : zc Go.Proofs.Try.prog 30 = some [AV.raw Value.nilFunc] := by kernel_rfl
theorem tk_31 : tk Go.Proofs.Try.prog 31 = some (false, 1) := by kernel_rfl
theorem tk_32 : tk Go.Proofs.Try.prog 32 = some (false, 1) := by kernel_rfl
theorem zc_32 : zc Go.Proofs.Try.prog 32 = some [AV.raw Value.nilFunc] := by kernel_rfl
theorem tk_33 : tk Go.Proofs.Try.prog 33 = some (false, 1) := by kernel_rfl
theorem tk_34 : tk Go.Proofs.Try.prog 34 = some (false, 1) := by kernel_rfl
theorem zc_34 : zc Go.Proofs.Try.prog 34 = some [AV.raw Value.nilFunc] := by kernel_rfl
theorem tk_35 : tk Go.Proofs.Try.prog 35 = some (false, 1) := by kernel_rfl
theorem zc_35 : zc Go.Proofs.Try.prog 35 = some [AV.raw Value.nilFunc] := by kernel_rfl
theorem tk_36 : tk Go.Proofs.Try.prog 36 = some (false, 1) := by kernel_rfl
theorem zc_36 : zc Go.Proofs.Try.prog 36 = some [AV.raw Value.nilFunc] := by kernel_rfl
theorem tk_37 : tk Go.Proofs.Try.prog 37 = some (false, 1) := by kernel_rfl
theorem zc_37 : zc Go.Proofs.Try.prog 37 = some [AV.raw Value.nilFunc] := by kernel_rfl
theorem tk_38 : tk Go.Proofs.Try.prog 38 = some (false, 1) := by kernel_rfl
theorem zc_38 : zc Go.Proofs.Try.prog 38 = some [AV.raw Value.nilFunc] := by kernel_rfl
theorem tk_39 : tk Go.Proofs.Try.prog 39 = some (false, 1) := by kernel_rfl
theorem zc_39 : zc Go.Proofs.Try.prog 39 = some [AV.raw Value.nilFunc] := by kernel_rfl
theorem tk_40 : tk Go.Proofs.Try.prog 40 = some (false, 1) := by kernel_rfl
theorem zc_40 : zc Go.Proofs.Try.prog 40 = some [AV.raw Value.nilFunc] := by kernel_rfl
theorem tk_41 : tk Go.Proofs.Try.prog 41 = some (false, 1) := by kernel_rfl
theorem zc_41 : zc Go.Proofs.Try.prog 41 = some [AV.raw Value.nilFunc] := by kernel_rfl
theorem tk_42 : tk Go.Proofs.Try.prog 42 = some (true, 3) := by kernel_rfl
theorem zc_42 : zc Go.Proofs.Try.prog 42 = some [AV.d (D.str ByteArray.empty), AV.d (D.str ByteArray.empty), AV.d (D.int IntKind.i64 0)] := by kernel_rfl
theorem zv_42 : zv Go.Proofs.Try.prog 42 = some (true, [D.str ByteArray.empty, D.str ByteArray.empty, D.int IntKind.i64 0]) := by kernel_rfl
theorem partsOk_42 : partsOk Go.Proofs.Try.prog 42 = true := by kernel_rfl
theorem fo_42_0 : fo Go.Proofs.Try.prog 42 0 = some (0, false, 1) := by kernel_rfl
theorem placeAt_42_0 : placeAt Go.Proofs.Try.prog 42 0 = some (0, 1) := by kernel_rfl
theorem fo_42_1 : fo Go.Proofs.Try.prog 42 1 = some (1, false, 1) := by kernel_rfl
theorem placeAt_42_1 : placeAt Go.Proofs.Try.prog 42 1 = some (1, 1) := by kernel_rfl
theorem fo_42_2 : fo Go.Proofs.Try.prog 42 2 = some (2, false, 1) := by kernel_rfl
theorem placeAt_42_2 : placeAt Go.Proofs.Try.prog 42 2 = some (2, 1) := by kernel_rfl
theorem tk_43 : tk Go.Proofs.Try.prog 43 = some (true, 3) := by kernel_rfl
theorem zc_43 : zc Go.Proofs.Try.prog 43 = some [AV.d (D.str ByteArray.empty), AV.d (D.str ByteArray.empty), AV.d (D.int IntKind.i64 0)] := by kernel_rfl
theorem zv_43 : zv Go.Proofs.Try.prog 43 = some (true, [D.str ByteArray.empty, D.str ByteArray.empty, D.int IntKind.i64 0]) := by kernel_rfl
theorem partsOk_43 : partsOk Go.Proofs.Try.prog 43 = true := by kernel_rfl
theorem fo_43_0 : fo Go.Proofs.Try.prog 43 0 = some (0, false, 1) := by kernel_rfl
theorem placeAt_43_0 : placeAt Go.Proofs.Try.prog 43 0 = some (0, 1) := by kernel_rfl
theorem fo_43_1 : fo Go.Proofs.Try.prog 43 1 = some (1, false, 1) := by kernel_rfl
theorem placeAt_43_1 : placeAt Go.Proofs.Try.prog 43 1 = some (1, 1) := by kernel_rfl
theorem fo_43_2 : fo Go.Proofs.Try.prog 43 2 = some (2, false, 1) := by kernel_rfl
theorem placeAt_43_2 : placeAt Go.Proofs.Try.prog 43 2 = some (2, 1) := by kernel_rfl
theorem tk_44 : tk Go.Proofs.Try.prog 44 = some (true, 2) := by kernel_rfl
theorem zc_44 : zc Go.Proofs.Try.prog 44 = some [AV.d (D.int IntKind.i64 0), AV.d (D.int IntKind.i64 0)] := by kernel_rfl
theorem zv_44 : zv Go.Proofs.Try.prog 44 = some (true, [D.int IntKind.i64 0, D.int IntKind.i64 0]) := by kernel_rfl
theorem partsOk_44 : partsOk Go.Proofs.Try.prog 44 = true := by kernel_rfl
theorem fo_44_0 : fo Go.Proofs.Try.prog 44 0 = some (0, false, 1) := by kernel_rfl
theorem placeAt_44_0 : placeAt Go.Proofs.Try.prog 44 0 = some (0, 1) := by kernel_rfl
theorem fo_44_1 : fo Go.Proofs.Try.prog 44 1 = some (1, false, 1) := by kernel_rfl
theorem placeAt_44_1 : placeAt Go.Proofs.Try.prog 44 1 = some (1, 1) := by kernel_rfl
theorem tk_45 : tk Go.Proofs.Try.prog 45 = some (true, 2) := by kernel_rfl
theorem zc_45 : zc Go.Proofs.Try.prog 45 = some [AV.d (D.int IntKind.i64 0), AV.d (D.int IntKind.i64 0)] := by kernel_rfl
theorem zv_45 : zv Go.Proofs.Try.prog 45 = some (true, [D.int IntKind.i64 0, D.int IntKind.i64 0]) := by kernel_rfl
theorem partsOk_45 : partsOk Go.Proofs.Try.prog 45 = true := by kernel_rfl
theorem fo_45_0 : fo Go.Proofs.Try.prog 45 0 = some (0, false, 1) := by kernel_rfl
theorem placeAt_45_0 : placeAt Go.Proofs.Try.prog 45 0 = some (0, 1) := by kernel_rfl
theorem fo_45_1 : fo Go.Proofs.Try.prog 45 1 = some (1, false, 1) := by kernel_rfl
theorem placeAt_45_1 : placeAt Go.Proofs.Try.prog 45 1 = some (1, 1) := by kernel_rfl
theorem tk_46 : tk Go.Proofs.Try.prog 46 = some (false, 1) := by kernel_rfl
theorem zc_46 : zc Go.Proofs.Try.prog 46 = some [AV.raw Value.nilFunc] := by kernel_rfl
theorem tk_47 : tk Go.Proofs.Try.prog 47 = some (false, 1) := by kernel_rfl
theorem it_47 : it Go.Proofs.Try.prog 47 = some (none, false, 1) := by kernel_rfl
theorem ei_47 : ei Go.Proofs.Try.prog 47 = some (1, 16) := by kernel_rfl
theorem srcT_47 : srcT Go.Proofs.Try.prog 47 = true := by kernel_rfl
theorem zc_47 : zc Go.Proofs.Try.prog 47 = some [AV.nil] := by kernel_rfl
theorem zd_47 : zd Go.Proofs.Try.prog 47 = some [D.str ByteArray.empty] := by kernel_rfl
theorem under_47 : Go.Proofs.Try.prog.underlying 47 = some (TypeDesc.slice 9) := by kernel_rfl
theorem tk_48 : tk Go.Proofs.Try.prog 48 = some (false, 1) := by kernel_rfl
theorem tk_49 : tk Go.Proofs.Try.prog 49 = some (false, 1) := by kernel_rfl
theorem zc_49 : zc Go.Proofs.Try.prog 49 = some [AV.raw Value.nilFunc] := by kernel_rfl
theorem tk_50 : tk Go.Proofs.Try.prog 50 = some (false, 1) := by kernel_rfl
theorem zc_50 : zc Go.Proofs.Try.prog 50 = some [AV.raw Value.nilFunc] := by kernel_rfl
theorem tk_51 : tk Go.Proofs.Try.prog 51 = some (false, 1) := by kernel_rfl
theorem zc_51 : zc Go.Proofs.Try.prog 51 = some [AV.raw Value.nilFunc] := by kernel_rfl
theorem tk_52 : tk Go.Proofs.Try.prog 52 = some (false, 1) := by kernel_rfl
theorem tk_53 : tk Go.Proofs.Try.prog 53 = some (false, 1) := by kernel_rfl
theorem zc_53 : zc Go.Proofs.Try.prog 53 = some [AV.raw Value.nilFunc] := by kernel_rfl
theorem tk_54 : tk Go.Proofs.Try.prog 54 = some (false, 1) := by kernel_rfl
theorem zc_54 : zc Go.Proofs.Try.prog 54 = some [AV.raw Value.nilFunc] := by kernel_rfl
theorem tk_55 : tk Go.Proofs.Try.prog 55 = some (false, 1) := by kernel_rfl
theorem zc_55 : zc Go.Proofs.Try.prog 55 = some [AV.raw Value.nilFunc] := by kernel_rfl
theorem tk_56 : tk Go.Proofs.Try.prog 56 = some (false, 1) := by kernel_rfl
theorem tk_57 : tk Go.Proofs.Try.prog 57 = some (false, 1) := by kernel_rfl
theorem zc_57 : zc Go.Proofs.Try.prog 57 = some [AV.raw Value.nilFunc] := by kernel_rfl
theorem tk_58 : tk Go.Proofs.Try.prog 58 = some (false, 1) := by kernel_rfl
theorem tk_59 : tk Go.Proofs.Try.prog 59 = some (false, 1) := by kernel_rfl
theorem zc_59 : zc Go.Proofs.Try.prog 59 = some [AV.raw Value.nilFunc] := by kernel_rfl
theorem tk_60 : tk Go.Proofs.Try.prog 60 = some (false, 1) := by kernel_rfl
theorem zc_60 : zc Go.Proofs.Try.prog 60 = some [AV.raw Value.nilFunc] := by kernel_rfl
theorem tk_61 : tk Go.Proofs.Try.prog 61 = some (false, 1) := by kernel_rfl
theorem zc_61 : zc Go.Proofs.Try.prog 61 = some [AV.raw Value.nilFunc] := by kernel_rfl
theorem tk_62 : tk Go.Proofs.Try.prog 62 = some (false, 1) := by kernel_rfl
theorem zc_62 : zc Go.Proofs.Try.prog 62 = some [AV.raw Value.nilFunc] := by kernel_rfl
theorem tk_63 : tk Go.Proofs.Try.prog 63 = some (false, 1) := by kernel_rfl
theorem zc_63 : zc Go.Proofs.Try.prog 63 = some [AV.raw Value.nilFunc] := by kernel_rfl
theorem tk_64 : tk Go.Proofs.Try.prog 64 = some (false, 1) := by kernel_rfl
theorem it_64 : it Go.Proofs.Try.prog 64 = some (none, false, 1) := by kernel_rfl
theorem ei_64 : ei Go.Proofs.Try.prog 64 = some (1, 24) := by kernel_rfl
theorem srcT_64 : srcT Go.Proofs.Try.prog 64 = true := by kernel_rfl
theorem zc_64 : zc Go.Proofs.Try.prog 64 = some [AV.nil] := by kernel_rfl
theorem under_64 : Go.Proofs.Try.prog.underlying 64 = some (TypeDesc.slice 22) := by kernel_rfl
theorem tk_65 : tk Go.Proofs.Try.prog 65 = some (false, 1) := by kernel_rfl
theorem zc_65 : zc Go.Proofs.Try.prog 65 = some [AV.raw Value.nilFunc] := by kernel_rfl
theorem tk_66 : tk Go.Proofs.Try.prog 66 = some (false, 1) := by kernel_rfl
theorem zc_66 : zc Go.Proofs.Try.prog 66 = some [AV.raw Value.nilFunc] := by kernel_rfl
theorem tk_67 : tk Go.Proofs.Try.prog 67 = some (false, 1) := by kernel_rfl
theorem it_67 : it Go.Proofs.Try.prog 67 = some (none, false, 1) := by kernel_rfl
theorem ei_67 : ei Go.Proofs.Try.prog 67 = some (1, 24) := by kernel_rfl
theorem srcT_67 : srcT Go.Proofs.Try.prog 67 = true := by kernel_rfl
theorem zc_67 : zc Go.Proofs.Try.prog 67 = some [AV.nil] := by kernel_rfl
theorem under_67 : Go.Proofs.Try.prog.underlying 67 = some (TypeDesc.slice 25) := by kernel_rfl
theorem tk_68 : tk Go.Proofs.Try.prog 68 = some (false, 1) := by kernel_rfl
theorem tk_69 : tk Go.Proofs.Try.prog 69 = some (false, 1) := by kernel_rfl
theorem zc_69 : zc Go.Proofs.Try.prog 69 = some [AV.raw Value.nilFunc] := by kernel_rfl
theorem tk_70 : tk Go.Proofs.Try.prog 70 = some (false, 1) := by kernel_rfl
theorem zc_70 : zc Go.Proofs.Try.prog 70 = some [AV.raw (Value.map none)] := by kernel_rfl
theorem mt_70 : mt Go.Proofs.Try.prog 70 = some (45, 4) := by kernel_rfl
theorem under_70 : Go.Proofs.Try.prog.underlying 70 = some (TypeDesc.map 45 4) := by kernel_rfl
theorem tk_71 : tk Go.Proofs.Try.prog 71 = some (false, 1) := by kernel_rfl
theorem zc_71 : zc Go.Proofs.Try.prog 71 = some [AV.raw Value.nilFunc] := by kernel_rfl
theorem tk_72 : tk Go.Proofs.Try.prog 72 = some (false, 1) := by kernel_rfl
theorem zc_72 : zc Go.Proofs.Try.prog 72 = some [AV.raw Value.nilFunc] := by kernel_rfl
theorem tk_73 : tk Go.Proofs.Try.prog 73 = some (false, 1) := by kernel_rfl
theorem zc_73 : zc Go.Proofs.Try.prog 73 = some [AV.raw Value.nilFunc] := by kernel_rfl
theorem tk_74 : tk Go.Proofs.Try.prog 74 = some (false, 1) := by kernel_rfl
theorem tk_75 : tk Go.Proofs.Try.prog 75 = some (false, 1) := by kernel_rfl
theorem zc_75 : zc Go.Proofs.Try.prog 75 = some [AV.raw Value.nilFunc] := by kernel_rfl
theorem tk_76 : tk Go.Proofs.Try.prog 76 = some (false, 1) := by kernel_rfl
theorem zc_76 : zc Go.Proofs.Try.prog 76 = some [AV.raw Value.nilFunc] := by kernel_rfl
theorem tk_77 : tk Go.Proofs.Try.prog 77 = some (false, 1) := by kernel_rfl
theorem zc_77 : zc Go.Proofs.Try.prog 77 = some [AV.raw Value.nilFunc] := by kernel_rfl
theorem tk_78 : tk Go.Proofs.Try.prog 78 = some (false, 1) := by kernel_rfl
theorem zc_78 : zc Go.Proofs.Try.prog 78 = some [AV.raw Value.nilFunc] := by kernel_rfl
theorem tk_79 : tk Go.Proofs.Try.prog 79 = some (false, 1) := by kernel_rfl
theorem zc_79 : zc Go.Proofs.Try.prog 79 = some [AV.raw Value.nilFunc] := by kernel_rfl
theorem tk_80 : tk Go.Proofs.Try.prog 80 = some (false, 1) := by kernel_rfl
theorem zc_80 : zc Go.Proofs.Try.prog 80 = some [AV.raw Value.nilFunc] := by kernel_rfl
theorem tk_81 : tk Go.Proofs.Try.prog 81 = some (false, 1) := by kernel_rfl
theorem zc_81 : zc Go.Proofs.Try.prog 81 = some [AV.raw Value.nilFunc] := by kernel_rfl
theorem tk_82 : tk Go.Proofs.Try.prog 82 = some (false, 1) := by kernel_rfl
theorem zc_82 : zc Go.Proofs.Try.prog 82 = some [AV.raw (Value.map none)] := by kernel_rfl
theorem mt_82 : mt Go.Proofs.Try.prog 82 = some (9, 3) := by kernel_rfl
theorem under_82 : Go.Proofs.Try.prog.underlying 82 = some (TypeDesc.map 9 3) := by kernel_rfl
theorem tk_83 : tk Go.Proofs.Try.prog 83 = some (false, 1) := by kernel_rfl
theorem zc_83 : zc Go.Proofs.Try.prog 83 = some [AV.raw Value.nilFunc] := by kernel_rfl
theorem tk_84 : tk Go.Proofs.Try.prog 84 = some (false, 1) := by kernel_rfl
theorem zc_84 : zc Go.Proofs.Try.prog 84 = some [AV.raw Value.nilFunc] := by kernel_rfl
theorem tk_85 : tk Go.Proofs.Try.prog 85 = some (true, 4) := by kernel_rfl
theorem zc_85 : zc Go.Proofs.Try.prog 85 = some [AV.raw (Value.pointer none), AV.raw (Value.pointer none), AV.raw (Value.pointer none), AV.d (D.str ByteArray.empty)] := by kernel_rfl
theorem partsOk_85 : partsOk Go.Proofs.Try.prog 85 = true := by kernel_rfl
theorem fo_85_0 : fo Go.Proofs.Try.prog 85 0 = some (0, false, 1) := by kernel_rfl
theorem placeAt_85_0 : placeAt Go.Proofs.Try.prog 85 0 = some (0, 1) := by kernel_rfl
theorem fo_85_1 : fo Go.Proofs.Try.prog 85 1 = some (1, false, 1) := by kernel_rfl
theorem placeAt_85_1 : placeAt Go.Proofs.Try.prog 85 1 = some (1, 1) := by kernel_rfl
theorem fo_85_2 : fo Go.Proofs.Try.prog 85 2 = some (2, false, 1) := by kernel_rfl
theorem placeAt_85_2 : placeAt Go.Proofs.Try.prog 85 2 = some (2, 1) := by kernel_rfl
theorem fo_85_3 : fo Go.Proofs.Try.prog 85 3 = some (3, false, 1) := by kernel_rfl
theorem placeAt_85_3 : placeAt Go.Proofs.Try.prog 85 3 = some (3, 1) := by kernel_rfl
theorem tk_86 : tk Go.Proofs.Try.prog 86 = some (true, 4) := by kernel_rfl
theorem zc_86 : zc Go.Proofs.Try.prog 86 = some [AV.raw (Value.pointer none), AV.raw (Value.pointer none), AV.raw (Value.pointer none), AV.d (D.str ByteArray.empty)] := by kernel_rfl
theorem partsOk_86 : partsOk Go.Proofs.Try.prog 86 = true := by kernel_rfl
theorem fo_86_0 : fo Go.Proofs.Try.prog 86 0 = some (0, false, 1) := by kernel_rfl
theorem placeAt_86_0 : placeAt Go.Proofs.Try.prog 86 0 = some (0, 1) := by kernel_rfl
theorem fo_86_1 : fo Go.Proofs.Try.prog 86 1 = some (1, false, 1) := by kernel_rfl
theorem placeAt_86_1 : placeAt Go.Proofs.Try.prog 86 1 = some (1, 1) := by kernel_rfl
theorem fo_86_2 : fo Go.Proofs.Try.prog 86 2 = some (2, false, 1) := by kernel_rfl
theorem placeAt_86_2 : placeAt Go.Proofs.Try.prog 86 2 = some (2, 1) := by kernel_rfl
theorem fo_86_3 : fo Go.Proofs.Try.prog 86 3 = some (3, false, 1) := by kernel_rfl
theorem placeAt_86_3 : placeAt Go.Proofs.Try.prog 86 3 = some (3, 1) := by kernel_rfl
theorem tk_87 : tk Go.Proofs.Try.prog 87 = some (true, 0) := by kernel_rfl
theorem it_87 : it Go.Proofs.Try.prog 87 = some (some 0, false, 1) := by kernel_rfl
theorem zc_87 : zc Go.Proofs.Try.prog 87 = some [] := by kernel_rfl
theorem zv_87 : zv Go.Proofs.Try.prog 87 = some (true, []) := by kernel_rfl
theorem partsOk_87 : partsOk Go.Proofs.Try.prog 87 = true := by kernel_rfl
theorem under_87 : Go.Proofs.Try.prog.underlying 87 = some (TypeDesc.array 0 16) := by kernel_rfl
theorem placeAt_87_0 : placeAt Go.Proofs.Try.prog 87 0 = some (0, 1) := by kernel_rfl
theorem placeAt_87_1 : placeAt Go.Proofs.Try.prog 87 1 = some (1, 1) := by kernel_rfl
theorem placeAt_87_2 : placeAt Go.Proofs.Try.prog 87 2 = some (2, 1) := by kernel_rfl
theorem placeAt_87_3 : placeAt Go.Proofs.Try.prog 87 3 = some (3, 1) := by kernel_rfl
theorem placeAt_87_4 : placeAt Go.Proofs.Try.prog 87 4 = some (4, 1) := by kernel_rfl
theorem placeAt_87_5 : placeAt Go.Proofs.Try.prog 87 5 = some (5, 1) := by kernel_rfl
theorem placeAt_87_6 : placeAt Go.Proofs.Try.prog 87 6 = some (6, 1) := by kernel_rfl
theorem placeAt_87_7 : placeAt Go.Proofs.Try.prog 87 7 = some (7, 1) := by kernel_rfl
theorem placeAt_87_8 : placeAt Go.Proofs.Try.prog 87 8 = some (8, 1) := by kernel_rfl
theorem placeAt_87_9 : placeAt Go.Proofs.Try.prog 87 9 = some (9, 1) := by kernel_rfl
theorem placeAt_87_10 : placeAt Go.Proofs.Try.prog 87 10 = some (10, 1) := by kernel_rfl
theorem placeAt_87_11 : placeAt Go.Proofs.Try.prog 87 11 = some (11, 1) := by kernel_rfl
theorem placeAt_87_12 : placeAt Go.Proofs.Try.prog 87 12 = some (12, 1) := by kernel_rfl
theorem placeAt_87_13 : placeAt Go.Proofs.Try.prog 87 13 = some (13, 1) := by kernel_rfl
theorem tk_88 : tk Go.Proofs.Try.prog 88 = some (true, 0) := by kernel_rfl
theorem zc_88 : zc Go.Proofs.Try.prog 88 = some [] := by kernel_rfl
theorem zv_88 : zv Go.Proofs.Try.prog 88 = some (true, []) := by kernel_rfl
theorem partsOk_88 : partsOk Go.Proofs.Try.prog 88 = true := by kernel_rfl
theorem fo_88_0 : fo Go.Proofs.Try.prog 88 0 = some (0, true, 0) := by kernel_rfl
theorem placeAt_88_0 : placeAt Go.Proofs.Try.prog 88 0 = some (0, 0) := by kernel_rfl
theorem tk_89 : tk Go.Proofs.Try.prog 89 = some (true, 0) := by kernel_rfl
theorem zc_89 : zc Go.Proofs.Try.prog 89 = some [] := by kernel_rfl
theorem zv_89 : zv Go.Proofs.Try.prog 89 = some (true, []) := by kernel_rfl
theorem partsOk_89 : partsOk Go.Proofs.Try.prog 89 = true := by kernel_rfl
theorem fo_89_0 : fo Go.Proofs.Try.prog 89 0 = some (0, true, 0) := by kernel_rfl
theorem placeAt_89_0 : placeAt Go.Proofs.Try.prog 89 0 = some (0, 0) := by kernel_rfl
theorem tk_90 : tk Go.Proofs.Try.prog 90 = some (false, 1) := by kernel_rfl
theorem zc_90 : zc Go.Proofs.Try.prog 90 = some [AV.raw Value.nilFunc] := by kernel_rfl
theorem tk_91 : tk Go.Proofs.Try.prog 91 = some (false, 1) := by kernel_rfl
theorem zc_91 : zc Go.Proofs.Try.prog 91 = some [AV.d (D.int IntKind.u32 0)] := by kernel_rfl
theorem zv_91 : zv Go.Proofs.Try.prog 91 = some (false, [D.int IntKind.u32 0]) := by kernel_rfl
theorem under_91 : Go.Proofs.Try.prog.underlying 91 = some (TypeDesc.int IntKind.u32) := by kernel_rfl
theorem tk_92 : tk Go.Proofs.Try.prog 92 = some (false, 1) := by kernel_rfl
theorem zc_92 : zc Go.Proofs.Try.prog 92 = some [AV.d (D.int IntKind.u8 0)] := by kernel_rfl
theorem zv_92 : zv Go.Proofs.Try.prog 92 = some (false, [D.int IntKind.u8 0]) := by kernel_rfl
theorem under_92 : Go.Proofs.Try.prog.underlying 92 = some (TypeDesc.int IntKind.u8) := by kernel_rfl
theorem tk_93 : tk Go.Proofs.Try.prog 93 = some (false, 1) := by kernel_rfl
theorem zc_93 : zc Go.Proofs.Try.prog 93 = some [AV.d (D.int IntKind.u8 0)] := by kernel_rfl
theorem zv_93 : zv Go.Proofs.Try.prog 93 = some (false, [D.int IntKind.u8 0]) := by kernel_rfl
theorem under_93 : Go.Proofs.Try.prog.underlying 93 = some (TypeDesc.int IntKind.u8) := by kernel_rfl
theorem tk_94 : tk Go.Proofs.Try.prog 94 = some (false, 1) := by kernel_rfl
theorem zc_94 : zc Go.Proofs.Try.prog 94 = some [AV.raw Value.nilFunc] := by kernel_rfl
theorem tk_95 : tk Go.Proofs.Try.prog 95 = some (false, 1) := by kernel_rfl
theorem zc_95 : zc Go.Proofs.Try.prog 95 = some [AV.raw (Value.pointer none)] := by kernel_rfl
theorem tk_96 : tk Go.Proofs.Try.prog 96 = some (false, 1) := by kernel_rfl
theorem zc_96 : zc Go.Proofs.Try.prog 96 = some [AV.d (D.int IntKind.i32 0)] := by kernel_rfl
theorem zv_96 : zv Go.Proofs.Try.prog 96 = some (false, [D.int IntKind.i32 0]) := by kernel_rfl
theorem under_96 : Go.Proofs.Try.prog.underlying 96 = some (TypeDesc.int IntKind.i32) := by kernel_rfl
theorem tk_97 : tk Go.Proofs.Try.prog 97 = some (false, 1) := by kernel_rfl
theorem zc_97 : zc Go.Proofs.Try.prog 97 = some [AV.d (D.int IntKind.i32 0)] := by kernel_rfl
theorem zv_97 : zv Go.Proofs.Try.prog 97 = some (false, [D.int IntKind.i32 0]) := by kernel_rfl
theorem under_97 : Go.Proofs.Try.prog.underlying 97 = some (TypeDesc.int IntKind.i32) := by kernel_rfl
theorem tk_98 : tk Go.Proofs.Try.prog 98 = some (true, 11) := by kernel_rfl
theorem zc_98 : zc Go.Proofs.Try.prog 98 = some [AV.d (D.int IntKind.u64 0), AV.d (D.int IntKind.u64 0), AV.d (D.int IntKind.u32 0), AV.d (D.int IntKind.u8 0), AV.d (D.int IntKind.u8 0), AV.d (D.int IntKind.u8 0), AV.d (D.int IntKind.u8 0), AV.raw Value.nilFunc, AV.raw (Value.pointer none), AV.d (D.int IntKind.i32 0), AV.d (D.int IntKind.i32 0)] := by kernel_rfl
theorem partsOk_98 : partsOk Go.Proofs.Try.prog 98 = true := by kernel_rfl
theorem fo_98_0 : fo Go.Proofs.Try.prog 98 0 = some (0, false, 1) := by kernel_rfl
theorem placeAt_98_0 : placeAt Go.Proofs.Try.prog 98 0 = some (0, 1) := by kernel_rfl
theorem fo_98_1 : fo Go.Proofs.Try.prog 98 1 = some (1, false, 1) := by kernel_rfl
theorem placeAt_98_1 : placeAt Go.Proofs.Try.prog 98 1 = some (1, 1) := by kernel_rfl
theorem fo_98_2 : fo Go.Proofs.Try.prog 98 2 = some (2, false, 1) := by kernel_rfl
theorem placeAt_98_2 : placeAt Go.Proofs.Try.prog 98 2 = some (2, 1) := by kernel_rfl
theorem fo_98_3 : fo Go.Proofs.Try.prog 98 3 = some (3, false, 1) := by kernel_rfl
theorem placeAt_98_3 : placeAt Go.Proofs.Try.prog 98 3 = some (3, 1) := by kernel_rfl
theorem fo_98_4 : fo Go.Proofs.Try.prog 98 4 = some (4, false, 1) := by kernel_rfl
theorem placeAt_98_4 : placeAt Go.Proofs.Try.prog 98 4 = some (4, 1) := by kernel_rfl
theorem fo_98_5 : fo Go.Proofs.Try.prog 98 5 = some (5, false, 1) := by kernel_rfl
theorem placeAt_98_5 : placeAt Go.Proofs.Try.prog 98 5 = some (5, 1) := by kernel_rfl
theorem fo_98_6 : fo Go.Proofs.Try.prog 98 6 = some (6, false, 1) := by kernel_rfl
theorem placeAt_98_6 : placeAt Go.Proofs.Try.prog 98 6 = some (6, 1) := by kernel_rfl
theorem fo_98_7 : fo Go.Proofs.Try.prog 98 7 = some (7, false, 1) := by kernel_rfl
theorem placeAt_98_7 : placeAt Go.Proofs.Try.prog 98 7 = some (7, 1) := by kernel_rfl
theorem fo_98_8 : fo Go.Proofs.Try.prog 98 8 = some (8, false, 1) := by kernel_rfl
theorem placeAt_98_8 : placeAt Go.Proofs.Try.prog 98 8 = some (8, 1) := by kernel_rfl
theorem fo_98_9 : fo Go.Proofs.Try.prog 98 9 = some (9, false, 1) := by kernel_rfl
theorem placeAt_98_9 : placeAt Go.Proofs.Try.prog 98 9 = some (9, 1) := by kernel_rfl
theorem fo_98_10 : fo Go.Proofs.Try.prog 98 10 = some (10, false, 1) := by kernel_rfl
theorem placeAt_98_10 : placeAt Go.Proofs.Try.prog 98 10 = some (10, 1) := by kernel_rfl
theorem tk_99 : tk Go.Proofs.Try.prog 99 = some (true, 11) := by kernel_rfl
theorem zc_99 : zc Go.Proofs.Try.prog 99 = some [AV.d (D.int IntKind.u64 0), AV.d (D.int IntKind.u64 0), AV.d (D.int IntKind.u32 0), AV.d (D.int IntKind.u8 0), AV.d (D.int IntKind.u8 0), AV.d (D.int IntKind.u8 0), AV.d (D.int IntKind.u8 0), AV.raw Value.nilFunc, AV.raw (Value.pointer none), AV.d (D.int IntKind.i32 0), AV.d (D.int IntKind.i32 0)] := by kernel_rfl
theorem partsOk_99 : partsOk Go.Proofs.Try.prog 99 = true := by kernel_rfl
theorem fo_99_0 : fo Go.Proofs.Try.prog 99 0 = some (0, false, 1) := by kernel_rfl
theorem placeAt_99_0 : placeAt Go.Proofs.Try.prog 99 0 = some (0, 1) := by kernel_rfl
theorem fo_99_1 : fo Go.Proofs.Try.prog 99 1 = some (1, false, 1) := by kernel_rfl
theorem placeAt_99_1 : placeAt Go.Proofs.Try.prog 99 1 = some (1, 1) := by kernel_rfl
theorem fo_99_2 : fo Go.Proofs.Try.prog 99 2 = some (2, false, 1) := by kernel_rfl
theorem placeAt_99_2 : placeAt Go.Proofs.Try.prog 99 2 = some (2, 1) := by kernel_rfl
theorem fo_99_3 : fo Go.Proofs.Try.prog 99 3 = some (3, false, 1) := by kernel_rfl
theorem placeAt_99_3 : placeAt Go.Proofs.Try.prog 99 3 = some (3, 1) := by kernel_rfl
theorem fo_99_4 : fo Go.Proofs.Try.prog 99 4 = some (4, false, 1) := by kernel_rfl
theorem placeAt_99_4 : placeAt Go.Proofs.Try.prog 99 4 = some (4, 1) := by kernel_rfl
theorem fo_99_5 : fo Go.Proofs.Try.prog 99 5 = some (5, false, 1) := by kernel_rfl
theorem placeAt_99_5 : placeAt Go.Proofs.Try.prog 99 5 = some (5, 1) := by kernel_rfl
theorem fo_99_6 : fo Go.Proofs.Try.prog 99 6 = some (6, false, 1) := by kernel_rfl
theorem placeAt_99_6 : placeAt Go.Proofs.Try.prog 99 6 = some (6, 1) := by kernel_rfl
theorem fo_99_7 : fo Go.Proofs.Try.prog 99 7 = some (7, false, 1) := by kernel_rfl
theorem placeAt_99_7 : placeAt Go.Proofs.Try.prog 99 7 = some (7, 1) := by kernel_rfl
theorem fo_99_8 : fo Go.Proofs.Try.prog 99 8 = some (8, false, 1) := by kernel_rfl
theorem placeAt_99_8 : placeAt Go.Proofs.Try.prog 99 8 = some (8, 1) := by kernel_rfl
theorem fo_99_9 : fo Go.Proofs.Try.prog 99 9 = some (9, false, 1) := by kernel_rfl
theorem placeAt_99_9 : placeAt Go.Proofs.Try.prog 99 9 = some (9, 1) := by kernel_rfl
theorem fo_99_10 : fo Go.Proofs.Try.prog 99 10 = some (10, false, 1) := by kernel_rfl
theorem placeAt_99_10 : placeAt Go.Proofs.Try.prog 99 10 = some (10, 1) := by kernel_rfl
theorem tk_100 : tk Go.Proofs.Try.prog 100 = some (false, 1) := by kernel_rfl
theorem zc_100 : zc Go.Proofs.Try.prog 100 = some [AV.raw (Value.pointer none)] := by kernel_rfl
theorem mixed : Go.Proofs.Try.prog.follows .mixedOrders = true := by kernel_rfl
theorem fk_2 : flatK Go.Proofs.Try.prog 6 2 = some ([DK.int IntKind.i64]) := by kernel_rfl
theorem keyT_2 : KeyT Go.Proofs.Try.prog 2 false ([DK.int IntKind.i64]) := keyT_flat fk_2 (by decide) tk_2
theorem fk_3 : flatK Go.Proofs.Try.prog 6 3 = some ([DK.int IntKind.i64]) := by kernel_rfl
theorem keyT_3 : KeyT Go.Proofs.Try.prog 3 false ([DK.int IntKind.i64]) := keyT_flat fk_3 (by decide) tk_3
theorem fk_4 : flatK Go.Proofs.Try.prog 6 4 = some ([DK.bool]) := by kernel_rfl
theorem keyT_4 : KeyT Go.Proofs.Try.prog 4 false ([DK.bool]) := keyT_flat fk_4 (by decide) tk_4
theorem fk_5 : flatK Go.Proofs.Try.prog 6 5 = some ([DK.int IntKind.u8]) := by kernel_rfl
theorem keyT_5 : KeyT Go.Proofs.Try.prog 5 false ([DK.int IntKind.u8]) := keyT_flat fk_5 (by decide) tk_5
theorem fk_6 : flatK Go.Proofs.Try.prog 6 6 = some ([DK.int IntKind.u8]) := by kernel_rfl
theorem keyT_6 : KeyT Go.Proofs.Try.prog 6 false ([DK.int IntKind.u8]) := keyT_flat fk_6 (by decide) tk_6
theorem fk_7 : flatK Go.Proofs.Try.prog 6 7 = some ([DK.int IntKind.i64, DK.int IntKind.i64, DK.bool, DK.int IntKind.u8]) := by kernel_rfl
theorem keyT_7 : KeyT Go.Proofs.Try.prog 7 true ([DK.int IntKind.i64, DK.int IntKind.i64, DK.bool, DK.int IntKind.u8]) := keyT_flat fk_7 (by decide) tk_7
theorem eqT_7 : EqT Go.Proofs.Try.prog 7 ([DK.int IntKind.i64, DK.int IntKind.i64, DK.bool, DK.int IntKind.u8]) := eqT_flat fk_7 (by decide) tk_7 (by kernel_rfl)
theorem eqN_7 : (∃ ks, EqT Go.Proofs.Try.prog 7 ks ∧ [some (DK.int IntKind.i64), some (DK.int IntKind.i64), some (DK.bool), some (DK.int IntKind.u8)] = List.map some ks ∧ [some (DK.int IntKind.i64), some (DK.int IntKind.i64), some (DK.bool), some (DK.int IntKind.u8)] = List.map some ks) = True := eq_true ⟨_, eqT_7, rfl, rfl⟩
theorem fk_8 : flatK Go.Proofs.Try.prog 6 8 = some ([DK.int IntKind.i64, DK.int IntKind.i64, DK.bool, DK.int IntKind.u8]) := by kernel_rfl
theorem keyT_8 : KeyT Go.Proofs.Try.prog 8 true ([DK.int IntKind.i64, DK.int IntKind.i64, DK.bool, DK.int IntKind.u8]) := keyT_flat fk_8 (by decide) tk_8
theorem eqT_8 : EqT Go.Proofs.Try.prog 8 ([DK.int IntKind.i64, DK.int IntKind.i64, DK.bool, DK.int IntKind.u8]) := eqT_flat fk_8 (by decide) tk_8 (by kernel_rfl)
theorem eqN_8 : (∃ ks, EqT Go.Proofs.Try.prog 8 ks ∧ [some (DK.int IntKind.i64), some (DK.int IntKind.i64), some (DK.bool), some (DK.int IntKind.u8)] = List.map some ks ∧ [some (DK.int IntKind.i64), some (DK.int IntKind.i64), some (DK.bool), some (DK.int IntKind.u8)] = List.map some ks) = True := eq_true ⟨_, eqT_8, rfl, rfl⟩
theorem fk_9 : flatK Go.Proofs.Try.prog 6 9 = some ([DK.str]) := by kernel_rfl
theorem keyT_9 : KeyT Go.Proofs.Try.prog 9 false ([DK.str]) := keyT_flat fk_9 (by decide) tk_9
theorem fk_10 : flatK Go.Proofs.Try.prog 6 10 = some ([DK.str]) := by kernel_rfl
theorem keyT_10 : KeyT Go.Proofs.Try.prog 10 false ([DK.str]) := keyT_flat fk_10 (by decide) tk_10
theorem fk_11 : flatK Go.Proofs.Try.prog 6 11 = some ([DK.str]) := by kernel_rfl
theorem keyT_11 : KeyT Go.Proofs.Try.prog 11 false ([DK.str]) := keyT_flat fk_11 (by decide) tk_11
theorem fk_12 : flatK Go.Proofs.Try.prog 6 12 = some ([DK.int IntKind.u64]) := by kernel_rfl
theorem keyT_12 : KeyT Go.Proofs.Try.prog 12 false ([DK.int IntKind.u64]) := keyT_flat fk_12 (by decide) tk_12
theorem fk_21 : flatK Go.Proofs.Try.prog 6 21 = some ([DK.int IntKind.i32]) := by kernel_rfl
theorem keyT_21 : KeyT Go.Proofs.Try.prog 21 false ([DK.int IntKind.i32]) := keyT_flat fk_21 (by decide) tk_21
theorem fk_26 : flatK Go.Proofs.Try.prog 6 26 = some ([DK.int IntKind.i64]) := by kernel_rfl
theorem keyT_26 : KeyT Go.Proofs.Try.prog 26 false ([DK.int IntKind.i64]) := keyT_flat fk_26 (by decide) tk_26
theorem fk_42 : flatK Go.Proofs.Try.prog 6 42 = some ([DK.str, DK.str, DK.int IntKind.i64]) := by kernel_rfl
theorem keyT_42 : KeyT Go.Proofs.Try.prog 42 true ([DK.str, DK.str, DK.int IntKind.i64]) := keyT_flat fk_42 (by decide) tk_42
theorem eqT_42 : EqT Go.Proofs.Try.prog 42 ([DK.str, DK.str, DK.int IntKind.i64]) := eqT_flat fk_42 (by decide) tk_42 (by kernel_rfl)
theorem eqN_42 : (∃ ks, EqT Go.Proofs.Try.prog 42 ks ∧ [some (DK.str), some (DK.str), some (DK.int IntKind.i64)] = List.map some ks ∧ [some (DK.str), some (DK.str), some (DK.int IntKind.i64)] = List.map some ks) = True := eq_true ⟨_, eqT_42, rfl, rfl⟩
theorem fk_43 : flatK Go.Proofs.Try.prog 6 43 = some ([DK.str, DK.str, DK.int IntKind.i64]) := by kernel_rfl
theorem keyT_43 : KeyT Go.Proofs.Try.prog 43 true ([DK.str, DK.str, DK.int IntKind.i64]) := keyT_flat fk_43 (by decide) tk_43
theorem eqT_43 : EqT Go.Proofs.Try.prog 43 ([DK.str, DK.str, DK.int IntKind.i64]) := eqT_flat fk_43 (by decide) tk_43 (by kernel_rfl)
theorem eqN_43 : (∃ ks, EqT Go.Proofs.Try.prog 43 ks ∧ [some (DK.str), some (DK.str), some (DK.int IntKind.i64)] = List.map some ks ∧ [some (DK.str), some (DK.str), some (DK.int IntKind.i64)] = List.map some ks) = True := eq_true ⟨_, eqT_43, rfl, rfl⟩
theorem fk_44 : flatK Go.Proofs.Try.prog 6 44 = some ([DK.int IntKind.i64, DK.int IntKind.i64]) := by kernel_rfl
theorem keyT_44 : KeyT Go.Proofs.Try.prog 44 true ([DK.int IntKind.i64, DK.int IntKind.i64]) := keyT_flat fk_44 (by decide) tk_44
theorem eqT_44 : EqT Go.Proofs.Try.prog 44 ([DK.int IntKind.i64, DK.int IntKind.i64]) := eqT_flat fk_44 (by decide) tk_44 (by kernel_rfl)
theorem eqN_44 : (∃ ks, EqT Go.Proofs.Try.prog 44 ks ∧ [some (DK.int IntKind.i64), some (DK.int IntKind.i64)] = List.map some ks ∧ [some (DK.int IntKind.i64), some (DK.int IntKind.i64)] = List.map some ks) = True := eq_true ⟨_, eqT_44, rfl, rfl⟩
theorem fk_45 : flatK Go.Proofs.Try.prog 6 45 = some ([DK.int IntKind.i64, DK.int IntKind.i64]) := by kernel_rfl
theorem keyT_45 : KeyT Go.Proofs.Try.prog 45 true ([DK.int IntKind.i64, DK.int IntKind.i64]) := keyT_flat fk_45 (by decide) tk_45
theorem eqT_45 : EqT Go.Proofs.Try.prog 45 ([DK.int IntKind.i64, DK.int IntKind.i64]) := eqT_flat fk_45 (by decide) tk_45 (by kernel_rfl)
theorem eqN_45 : (∃ ks, EqT Go.Proofs.Try.prog 45 ks ∧ [some (DK.int IntKind.i64), some (DK.int IntKind.i64)] = List.map some ks ∧ [some (DK.int IntKind.i64), some (DK.int IntKind.i64)] = List.map some ks) = True := eq_true ⟨_, eqT_45, rfl, rfl⟩
theorem fk_91 : flatK Go.Proofs.Try.prog 6 91 = some ([DK.int IntKind.u32]) := by kernel_rfl
theorem keyT_91 : KeyT Go.Proofs.Try.prog 91 false ([DK.int IntKind.u32]) := keyT_flat fk_91 (by decide) tk_91
theorem fk_92 : flatK Go.Proofs.Try.prog 6 92 = some ([DK.int IntKind.u8]) := by kernel_rfl
theorem keyT_92 : KeyT Go.Proofs.Try.prog 92 false ([DK.int IntKind.u8]) := keyT_flat fk_92 (by decide) tk_92
theorem fk_93 : flatK Go.Proofs.Try.prog 6 93 = some ([DK.int IntKind.u8]) := by kernel_rfl
theorem keyT_93 : KeyT Go.Proofs.Try.prog 93 false ([DK.int IntKind.u8]) := keyT_flat fk_93 (by decide) tk_93
theorem fk_96 : flatK Go.Proofs.Try.prog 6 96 = some ([DK.int IntKind.i32]) := by kernel_rfl
theorem keyT_96 : KeyT Go.Proofs.Try.prog 96 false ([DK.int IntKind.i32]) := keyT_flat fk_96 (by decide) tk_96
theorem fk_97 : flatK Go.Proofs.Try.prog 6 97 = some ([DK.int IntKind.i32]) := by kernel_rfl
theorem keyT_97 : KeyT Go.Proofs.Try.prog 97 false ([DK.int IntKind.i32]) := keyT_flat fk_97 (by decide) tk_97
attribute [go_sem] tk_0 tk_1 zc_1 tk_2 zc_2 zv_2 under_2 tk_3 zc_3 zv_3 under_3 tk_4 zc_4 zv_4 under_4 tk_5 zc_5 zv_5 under_5 tk_6 zc_6 zv_6 under_6 tk_7 zc_7 zv_7 partsOk_7 fo_7_0 placeAt_7_0 fo_7_1 placeAt_7_1 fo_7_2 placeAt_7_2 fo_7_3 placeAt_7_3 tk_8 zc_8 zv_8 partsOk_8 fo_8_0 placeAt_8_0 fo_8_1 placeAt_8_1 fo_8_2 placeAt_8_2 fo_8_3 placeAt_8_3 tk_9 srcT_9 zc_9 zv_9 under_9 tk_10 srcT_10 zc_10 zv_10 under_10 tk_11 srcT_11 zc_11 zv_11 under_11 tk_12 zc_12 zv_12 under_12 tk_13 zc_13 zv_13 partsOk_13 fo_13_0 placeAt_13_0 fo_13_1 placeAt_13_1 tk_14 zc_14 zv_14 partsOk_14 fo_14_0 placeAt_14_0 fo_14_1 placeAt_14_1 tk_15 zc_15 tk_16 zc_16 tk_17 zc_17 tk_18 zc_18 partsOk_18 fo_18_0 placeAt_18_0 tk_19 zc_19 partsOk_19 fo_19_0 placeAt_19_0 tk_20 zc_20 tk_21 zc_21 zv_21 under_21 tk_22 it_22 ei_22 srcT_22 zc_22 zd_22 under_22 tk_23 it_23 ei_23 srcT_23 zc_23 zd_23 under_23 tk_24 zc_24 tk_25 it_25 ei_25 srcT_25 zc_25 zd_25 under_25 tk_26 zc_26 zv_26 under_26 tk_27 tk_28 zc_28 tk_29 tk_30 zc_30 tk_31 tk_32 zc_32 tk_33 tk_34 zc_34 tk_35 zc_35 tk_36 zc_36 tk_37 zc_37 tk_38 zc_38 tk_39 zc_39 tk_40 zc_40 tk_41 zc_41 tk_42 zc_42 zv_42 partsOk_42 fo_42_0 placeAt_42_0 fo_42_1 placeAt_42_1 fo_42_2 placeAt_42_2 tk_43 zc_43 zv_43 partsOk_43 fo_43_0 placeAt_43_0 fo_43_1 placeAt_43_1 fo_43_2 placeAt_43_2 tk_44 zc_44 zv_44 partsOk_44 fo_44_0 placeAt_44_0 fo_44_1 placeAt_44_1 tk_45 zc_45 zv_45 partsOk_45 fo_45_0 placeAt_45_0 fo_45_1 placeAt_45_1 tk_46 zc_46 tk_47 it_47 ei_47 srcT_47 zc_47 zd_47 under_47 tk_48 tk_49 zc_49 tk_50 zc_50 tk_51 zc_51 tk_52 tk_53 zc_53 tk_54 zc_54 tk_55 zc_55 tk_56 tk_57 zc_57 tk_58 tk_59 zc_59 tk_60 zc_60 tk_61 zc_61 tk_62 zc_62 tk_63 zc_63 tk_64 it_64 ei_64 srcT_64 zc_64 under_64 tk_65 zc_65 tk_66 zc_66 tk_67 it_67 ei_67 srcT_67 zc_67 under_67 tk_68 tk_69 zc_69 tk_70 zc_70 mt_70 under_70 tk_71 zc_71 tk_72 zc_72 tk_73 zc_73 tk_74 tk_75 zc_75 tk_76 zc_76 tk_77 zc_77 tk_78 zc_78 tk_79 zc_79 tk_80 zc_80 tk_81 zc_81 tk_82 zc_82 mt_82 under_82 tk_83 zc_83 tk_84 zc_84 tk_85 zc_85 partsOk_85 fo_85_0 placeAt_85_0 fo_85_1 placeAt_85_1 fo_85_2 placeAt_85_2 fo_85_3 placeAt_85_3 tk_86 zc_86 partsOk_86 fo_86_0 placeAt_86_0 fo_86_1 placeAt_86_1 fo_86_2 placeAt_86_2 fo_86_3 placeAt_86_3 tk_87 it_87 zc_87 zv_87 partsOk_87 under_87 placeAt_87_0 placeAt_87_1 placeAt_87_2 placeAt_87_3 placeAt_87_4 placeAt_87_5 placeAt_87_6 placeAt_87_7 placeAt_87_8 placeAt_87_9 placeAt_87_10 placeAt_87_11 placeAt_87_12 placeAt_87_13 tk_88 zc_88 zv_88 partsOk_88 fo_88_0 placeAt_88_0 tk_89 zc_89 zv_89 partsOk_89 fo_89_0 placeAt_89_0 tk_90 zc_90 tk_91 zc_91 zv_91 under_91 tk_92 zc_92 zv_92 under_92 tk_93 zc_93 zv_93 under_93 tk_94 zc_94 tk_95 zc_95 tk_96 zc_96 zv_96 under_96 tk_97 zc_97 zv_97 under_97 tk_98 zc_98 partsOk_98 fo_98_0 placeAt_98_0 fo_98_1 placeAt_98_1 fo_98_2 placeAt_98_2 fo_98_3 placeAt_98_3 fo_98_4 placeAt_98_4 fo_98_5 placeAt_98_5 fo_98_6 placeAt_98_6 fo_98_7 placeAt_98_7 fo_98_8 placeAt_98_8 fo_98_9 placeAt_98_9 fo_98_10 placeAt_98_10 tk_99 zc_99 partsOk_99 fo_99_0 placeAt_99_0 fo_99_1 placeAt_99_1 fo_99_2 placeAt_99_2 fo_99_3 placeAt_99_3 fo_99_4 placeAt_99_4 fo_99_5 placeAt_99_5 fo_99_6 placeAt_99_6 fo_99_7 placeAt_99_7 fo_99_8 placeAt_99_8 fo_99_9 placeAt_99_9 fo_99_10 placeAt_99_10 tk_100 zc_100 mixed eqN_7 eqN_8 eqN_42 eqN_43 eqN_44 eqN_45
end Go.AX.Ty
