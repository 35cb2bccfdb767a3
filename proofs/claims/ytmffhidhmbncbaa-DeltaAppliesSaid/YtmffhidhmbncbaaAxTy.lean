/- The types of this seat: sizes, fields, elements (printed; each is checked). -/
import Derived.Test.YtmffhidhmbncbaaProg
import Derived.Test.YtmffhidhmbncbaaAxX
import Derived.KernelRfl
set_option maxRecDepth 100000
namespace Go.AX.Ty
theorem tk_0 : tk Go.Proofs.Try.prog 0 = some (false, 1) := by kernel_rfl
theorem tk_1 : tk Go.Proofs.Try.prog 1 = some (false, 1) := by kernel_rfl
theorem zc_1 : zc Go.Proofs.Try.prog 1 = some [AV.raw Value.nilFunc] := by kernel_rfl
theorem tk_2 : tk Go.Proofs.Try.prog 2 = some (false, 1) := by kernel_rfl
theorem zc_2 : zc Go.Proofs.Try.prog 2 = some [AV.d (D.int IntKind.i64 0)] := by kernel_rfl
theorem zv_2 : zv Go.Proofs.Try.prog 2 = some (false, [D.int IntKind.i64 0]) := by kernel_rfl
theorem under_2 : Go.Proofs.Try.prog.underlying 2 = some (TypeDesc.int IntKind.i64) := by kernel_rfl
theorem tk_3 : tk Go.Proofs.Try.prog 3 = some (false, 1) := by kernel_rfl
theorem zc_3 : zc Go.Proofs.Try.prog 3 = some [AV.d (D.int IntKind.i64 0)] := by kernel_rfl
theorem zv_3 : zv Go.Proofs.Try.prog 3 = some (false, [D.int IntKind.i64 0]) := by kernel_rfl
theorem under_3 : Go.Proofs.Try.prog.underlying 3 = some (TypeDesc.int IntKind.i64) := by kernel_rfl
theorem tk_4 : tk Go.Proofs.Try.prog 4 = some (false, 1) := by kernel_rfl
theorem zc_4 : zc Go.Proofs.Try.prog 4 = some [AV.d (D.bool false)] := by kernel_rfl
theorem zv_4 : zv Go.Proofs.Try.prog 4 = some (false, [D.bool false]) := by kernel_rfl
theorem under_4 : Go.Proofs.Try.prog.underlying 4 = some TypeDesc.bool := by kernel_rfl
theorem tk_5 : tk Go.Proofs.Try.prog 5 = some (false, 1) := by kernel_rfl
theorem zc_5 : zc Go.Proofs.Try.prog 5 = some [AV.d (D.int IntKind.u8 0)] := by kernel_rfl
theorem zv_5 : zv Go.Proofs.Try.prog 5 = some (false, [D.int IntKind.u8 0]) := by kernel_rfl
theorem under_5 : Go.Proofs.Try.prog.underlying 5 = some (TypeDesc.int IntKind.u8) := by kernel_rfl
theorem tk_6 : tk Go.Proofs.Try.prog 6 = some (false, 1) := by kernel_rfl
theorem zc_6 : zc Go.Proofs.Try.prog 6 = some [AV.d (D.int IntKind.u8 0)] := by kernel_rfl
theorem zv_6 : zv Go.Proofs.Try.prog 6 = some (false, [D.int IntKind.u8 0]) := by kernel_rfl
theorem under_6 : Go.Proofs.Try.prog.underlying 6 = some (TypeDesc.int IntKind.u8) := by kernel_rfl
theorem tk_7 : tk Go.Proofs.Try.prog 7 = some (true, 4) := by kernel_rfl
theorem zc_7 : zc Go.Proofs.Try.prog 7 = some [AV.d (D.int IntKind.i64 0), AV.d (D.int IntKind.i64 0), AV.d (D.bool false), AV.d (D.int IntKind.u8 0)] := by kernel_rfl
theorem zv_7 : zv Go.Proofs.Try.prog 7 = some (true, [D.int IntKind.i64 0, D.int IntKind.i64 0, D.bool false, D.int IntKind.u8 0]) := by kernel_rfl
theorem partsOk_7 : partsOk Go.Proofs.Try.prog 7 = true := by kernel_rfl
theorem fo_7_0 : fo Go.Proofs.Try.prog 7 0 = some (0, false, 1) := by kernel_rfl
theorem placeAt_7_0 : placeAt Go.Proofs.Try.prog 7 0 = some (0, 1) := by kernel_rfl
theorem fo_7_1 : fo Go.Proofs.Try.prog 7 1 = some (1, false, 1) := by kernel_rfl
theorem placeAt_7_1 : placeAt Go.Proofs.Try.prog 7 1 = some (1, 1) := by kernel_rfl
theorem fo_7_2 : fo Go.Proofs.Try.prog 7 2 = some (2, false, 1) := by kernel_rfl
theorem placeAt_7_2 : placeAt Go.Proofs.Try.prog 7 2 = some (2, 1) := by kernel_rfl
theorem fo_7_3 : fo Go.Proofs.Try.prog 7 3 = some (3, false, 1) := by kernel_rfl
theorem placeAt_7_3 : placeAt Go.Proofs.Try.prog 7 3 = some (3, 1) := by kernel_rfl
theorem tk_8 : tk Go.Proofs.Try.prog 8 = some (true, 4) := by kernel_rfl
theorem zc_8 : zc Go.Proofs.Try.prog 8 = some [AV.d (D.int IntKind.i64 0), AV.d (D.int IntKind.i64 0), AV.d (D.bool false), AV.d (D.int IntKind.u8 0)] := by kernel_rfl
theorem zv_8 : zv Go.Proofs.Try.prog 8 = some (true, [D.int IntKind.i64 0, D.int IntKind.i64 0, D.bool false, D.int IntKind.u8 0]) := by kernel_rfl
theorem partsOk_8 : partsOk Go.Proofs.Try.prog 8 = true := by kernel_rfl
theorem fo_8_0 : fo Go.Proofs.Try.prog 8 0 = some (0, false, 1) := by kernel_rfl
theorem placeAt_8_0 : placeAt Go.Proofs.Try.prog 8 0 = some (0, 1) := by kernel_rfl
theorem fo_8_1 : fo Go.Proofs.Try.prog 8 1 = some (1, false, 1) := by kernel_rfl
theorem placeAt_8_1 : placeAt Go.Proofs.Try.prog 8 1 = some (1, 1) := by kernel_rfl
theorem fo_8_2 : fo Go.Proofs.Try.prog 8 2 = some (2, false, 1) := by kernel_rfl
theorem placeAt_8_2 : placeAt Go.Proofs.Try.prog 8 2 = some (2, 1) := by kernel_rfl
theorem fo_8_3 : fo Go.Proofs.Try.prog 8 3 = some (3, false, 1) := by kernel_rfl
theorem placeAt_8_3 : placeAt Go.Proofs.Try.prog 8 3 = some (3, 1) := by kernel_rfl
theorem tk_9 : tk Go.Proofs.Try.prog 9 = some (false, 1) := by kernel_rfl
theorem srcT_9 : srcT Go.Proofs.Try.prog 9 = true := by kernel_rfl
theorem zc_9 : zc Go.Proofs.Try.prog 9 = some [AV.d (D.str ByteArray.empty)] := by kernel_rfl
theorem zv_9 : zv Go.Proofs.Try.prog 9 = some (false, [D.str ByteArray.empty]) := by kernel_rfl
theorem under_9 : Go.Proofs.Try.prog.underlying 9 = some TypeDesc.string := by kernel_rfl
theorem tk_10 : tk Go.Proofs.Try.prog 10 = some (false, 1) := by kernel_rfl
theorem srcT_10 : srcT Go.Proofs.Try.prog 10 = true := by kernel_rfl
theorem zc_10 : zc Go.Proofs.Try.prog 10 = some [AV.d (D.str ByteArray.empty)] := by kernel_rfl
theorem zv_10 : zv Go.Proofs.Try.prog 10 = some (false, [D.str ByteArray.empty]) := by kernel_rfl
theorem under_10 : Go.Proofs.Try.prog.underlying 10 = some TypeDesc.string := by kernel_rfl
theorem tk_11 : tk Go.Proofs.Try.prog 11 = some (false, 1) := by kernel_rfl
theorem srcT_11 : srcT Go.Proofs.Try.prog 11 = true := by kernel_rfl
theorem zc_11 : zc Go.Proofs.Try.prog 11 = some [AV.d (D.str ByteArray.empty)] := by kernel_rfl
theorem zv_11 : zv Go.Proofs.Try.prog 11 = some (false, [D.str ByteArray.empty]) := by kernel_rfl
theorem under_11 : Go.Proofs.Try.prog.underlying 11 = some TypeDesc.string := by kernel_rfl
theorem tk_12 : tk Go.Proofs.Try.prog 12 = some (false, 1) := by kernel_rfl
theorem zc_12 : zc Go.Proofs.Try.prog 12 = some [AV.d (D.int IntKind.u64 0)] := by kernel_rfl
theorem zv_12 : zv Go.Proofs.Try.prog 12 = some (false, [D.int IntKind.u64 0]) := by kernel_rfl
theorem under_12 : Go.Proofs.Try.prog.underlying 12 = some (TypeDesc.int IntKind.u64) := by kernel_rfl
theorem tk_13 : tk Go.Proofs.Try.prog 13 = some (true, 2) := by kernel_rfl
theorem zc_13 : zc Go.Proofs.Try.prog 13 = some [AV.d (D.str ByteArray.empty), AV.d (D.int IntKind.u64 0)] := by kernel_rfl
theorem zv_13 : zv Go.Proofs.Try.prog 13 = some (true, [D.str ByteArray.empty, D.int IntKind.u64 0]) := by kernel_rfl
theorem partsOk_13 : partsOk Go.Proofs.Try.prog 13 = true := by kernel_rfl
theorem fo_13_0 : fo Go.Proofs.Try.prog 13 0 = some (0, false, 1) := by kernel_rfl
theorem placeAt_13_0 : placeAt Go.Proofs.Try.prog 13 0 = some (0, 1) := by kernel_rfl
theorem fo_13_1 : fo Go.Proofs.Try.prog 13 1 = some (1, false, 1) := by kernel_rfl
theorem placeAt_13_1 : placeAt Go.Proofs.Try.prog 13 1 = some (1, 1) := by kernel_rfl
theorem tk_14 : tk Go.Proofs.Try.prog 14 = some (true, 2) := by kernel_rfl
theorem zc_14 : zc Go.Proofs.Try.prog 14 = some [AV.d (D.str ByteArray.empty), AV.d (D.int IntKind.u64 0)] := by kernel_rfl
theorem zv_14 : zv Go.Proofs.Try.prog 14 = some (true, [D.str ByteArray.empty, D.int IntKind.u64 0]) := by kernel_rfl
theorem partsOk_14 : partsOk Go.Proofs.Try.prog 14 = true := by kernel_rfl
theorem fo_14_0 : fo Go.Proofs.Try.prog 14 0 = some (0, false, 1) := by kernel_rfl
theorem placeAt_14_0 : placeAt Go.Proofs.Try.prog 14 0 = some (0, 1) := by kernel_rfl
theorem fo_14_1 : fo Go.Proofs.Try.prog 14 1 = some (1, false, 1) := by kernel_rfl
theorem placeAt_14_1 : placeAt Go.Proofs.Try.prog 14 1 = some (1, 1) := by kernel_rfl
theorem tk_15 : tk Go.Proofs.Try.prog 15 = some (false, 1) := by kernel_rfl
theorem zc_15 : zc Go.Proofs.Try.prog 15 = some [AV.raw (Value.pointer none)] := by kernel_rfl
theorem tk_16 : tk Go.Proofs.Try.prog 16 = some (false, 1) := by kernel_rfl
theorem zc_16 : zc Go.Proofs.Try.prog 16 = some [AV.raw (Value.pointer none)] := by kernel_rfl
theorem tk_17 : tk Go.Proofs.Try.prog 17 = some (false, 1) := by kernel_rfl
theorem zc_17 : zc Go.Proofs.Try.prog 17 = some [AV.raw (Value.pointer none)] := by kernel_rfl
theorem tk_18 : tk Go.Proofs.Try.prog 18 = some (true, 1) := by kernel_rfl
theorem zc_18 : zc Go.Proofs.Try.prog 18 = some [AV.raw (Value.pointer none)] := by kernel_rfl
theorem partsOk_18 : partsOk Go.Proofs.Try.prog 18 = true := by kernel_rfl
theorem fo_18_0 : fo Go.Proofs.Try.prog 18 0 = some (0, false, 1) := by kernel_rfl
theorem placeAt_18_0 : placeAt Go.Proofs.Try.prog 18 0 = some (0, 1) := by kernel_rfl
theorem tk_19 : tk Go.Proofs.Try.prog 19 = some (true, 1) := by kernel_rfl
theorem zc_19 : zc Go.Proofs.Try.prog 19 = some [AV.raw (Value.pointer none)] := by kernel_rfl
theorem partsOk_19 : partsOk Go.Proofs.Try.prog 19 = true := by kernel_rfl
theorem fo_19_0 : fo Go.Proofs.Try.prog 19 0 = some (0, false, 1) := by kernel_rfl
theorem placeAt_19_0 : placeAt Go.Proofs.Try.prog 19 0 = some (0, 1) := by kernel_rfl
theorem tk_20 : tk Go.Proofs.Try.prog 20 = some (false, 1) := by kernel_rfl
theorem zc_20 : zc Go.Proofs.Try.prog 20 = some [AV.raw Value.nilIface] := by kernel_rfl
theorem tk_21 : tk Go.Proofs.Try.prog 21 = some (false, 1) := by kernel_rfl
theorem zc_21 : zc Go.Proofs.Try.prog 21 = some [AV.d (D.int IntKind.i32 0)] := by kernel_rfl
theorem zv_21 : zv Go.Proofs.Try.prog 21 = some (false, [D.int IntKind.i32 0]) := by kernel_rfl
theorem under_21 : Go.Proofs.Try.prog.underlying 21 = some (TypeDesc.int IntKind.i32) := by kernel_rfl
theorem tk_22 : tk Go.Proofs.Try.prog 22 = some (false, 1) := by kernel_rfl
theorem it_22 : it Go.Proofs.Try.prog 22 = some (none, false, 1) := by kernel_rfl
theorem ei_22 : ei Go.Proofs.Try.prog 22 = some (1, 1) := by kernel_rfl
theorem srcT_22 : srcT Go.Proofs.Try.prog 22 = true := by kernel_rfl
theorem zc_22 : zc Go.Proofs.Try.prog 22 = some [AV.nil] := by kernel_rfl
theorem zd_22 : zd Go.Proofs.Try.prog 22 = some [D.int IntKind.u8 0] := by kernel_rfl
theorem under_22 : Go.Proofs.Try.prog.underlying 22 = some (TypeDesc.slice 5) := by kernel_rfl
theorem tk_23 : tk Go.Proofs.Try.prog 23 = some (false, 1) := by kernel_rfl
theorem it_23 : it Go.Proofs.Try.prog 23 = some (none, true, 3) := by kernel_rfl
theorem ei_23 : ei Go.Proofs.Try.prog 23 = some (3, 40) := by kernel_rfl
theorem srcT_23 : srcT Go.Proofs.Try.prog 23 = true := by kernel_rfl
theorem zc_23 : zc Go.Proofs.Try.prog 23 = some [AV.nil] := by kernel_rfl
theorem under_23 : Go.Proofs.Try.prog.underlying 23 = some (TypeDesc.slice 52) := by kernel_rfl
theorem tk_24 : tk Go.Proofs.Try.prog 24 = some (false, 1) := by kernel_rfl
theorem zc_24 : zc Go.Proofs.Try.prog 24 = some [AV.raw Value.nilFunc] := by kernel_rfl
theorem tk_25 : tk Go.Proofs.Try.prog 25 = some (false, 1) := by kernel_rfl
theorem zc_25 : zc Go.Proofs.Try.prog 25 = some [AV.d (D.int IntKind.i64 0)] := by kernel_rfl
theorem zv_25 : zv Go.Proofs.Try.prog 25 = some (false, [D.int IntKind.i64 0]) := by kernel_rfl
theorem under_25 : Go.Proofs.Try.prog.underlying 25 = some (TypeDesc.int IntKind.i64) := by kernel_rfl
theorem tk_26 : tk Go.Proofs.Try.prog 26 = some (false, 1) := by kernel_rfl
theorem tk_27 : tk Go.Proofs.Try.prog 27 = some (false, 1) := by kernel_rfl
theorem zc_27 : zc Go.Proofs.Try.prog 27 = some [AV.raw Value.nilFunc] := by kernel_rfl
theorem tk_28 : tk Go.Proofs.Try.prog 28 = some (false, 1) := by kernel_rfl
theorem tk_29 : tk Go.Proofs.Try.prog 29 = some (false, 1) := by kernel_rfl
theorem zc_29 : zc Go.Proofs.Try.prog 29 = some [AV.raw Value.nilFunc] := by kernel_rfl
theorem tk_30 : tk Go.Proofs.Try.prog 30 = some (false, 1) := by kernel_rfl
theorem tk_31 : tk Go.Proofs.Try.prog 31 = some (false, 1) := by kernel_rfl
theorem zc_31 : zc Go.Proofs.Try.prog 31 = some [AV.raw Value.nilFunc] := by kernel_rfl
theorem tk_32 : tk Go.Proofs.Try.prog 32 = some (false, 1) := by kernel_rfl
theorem tk_33 : tk Go.Proofs.Try.prog 33 = some (false, 1) := by kernel_rfl
theorem zc_33 : zc Go.Proofs.Try.prog 33 = some [AV.raw Value.nilFunc] := by kernel_rfl
theorem tk_34 : tk Go.Proofs.Try.prog 34 = some (false, 1) := by kernel_rfl
theorem zc_34 : zc Go.Proofs.Try.prog 34 = some [AV.raw Value.nilFunc] := by kernel_rfl
theorem tk_35 : tk Go.Proofs.Try.prog 35 = some (false, 1) := by kernel_rfl
theorem zc_35 : zc Go.Proofs.Try.prog 35 = some [AV.raw Value.nilFunc] := by kernel_rfl
theorem tk_36 : tk Go.Proofs.Try.prog 36 = some (false, 1) := by kernel_rfl
theorem zc_36 : zc Go.Proofs.Try.prog 36 = some [AV.raw Value.nilFunc] := by kernel_rfl
theorem tk_37 : tk Go.Proofs.Try.prog 37 = some (false, 1) := by kernel_rfl
theorem zc_37 : zc Go.Proofs.Try.prog 37 = some [AV.raw Value.nilFunc] := by kernel_rfl
theorem tk_38 : tk Go.Proofs.Try.prog 38 = some (false, 1) := by kernel_rfl
theorem zc_38 : zc Go.Proofs.Try.prog 38 = some [AV.raw Value.nilFunc] := by kernel_rfl
theorem tk_39 : tk Go.Proofs.Try.prog 39 = some (false, 1) := by kernel_rfl
theorem tk_40 : tk Go.Proofs.Try.prog 40 = some (false, 1) := by kernel_rfl
theorem zc_40 : zc Go.Proofs.Try.prog 40 = some [AV.raw Value.nilFunc] := by kernel_rfl
theorem tk_41 : tk Go.Proofs.Try.prog 41 = some (false, 1) := by kernel_rfl
theorem tk_42 : tk Go.Proofs.Try.prog 42 = some (false, 1) := by kernel_rfl
theorem zc_42 : zc Go.Proofs.Try.prog 42 = some [AV.raw Value.nilFunc] := by kernel_rfl
theorem tk_43 : tk Go.Proofs.Try.prog 43 = some (false, 1) := by kernel_rfl
theorem zc_43 : zc Go.Proofs.Try.prog 43 = some [AV.raw Value.nilFunc] := by kernel_rfl
theorem tk_44 : tk Go.Proofs.Try.prog 44 = some (false, 1) := by kernel_rfl
theorem zc_44 : zc Go.Proofs.Try.prog 44 = some [AV.raw Value.nilFunc] := by kernel_rfl
theorem tk_45 : tk Go.Proofs.Try.prog 45 = some (false, 1) := by kernel_rfl
theorem zc_45 : zc Go.Proofs.Try.prog 45 = some [AV.raw Value.nilFunc] := by kernel_rfl
theorem tk_46 : tk Go.Proofs.Try.prog 46 = some (false, 1) := by kernel_rfl
theorem zc_46 : zc Go.Proofs.Try.prog 46 = some [AV.raw Value.nilFunc] := by kernel_rfl
theorem tk_47 : tk Go.Proofs.Try.prog 47 = some (false, 1) := by kernel_rfl
theorem zc_47 : zc Go.Proofs.Try.prog 47 = some [AV.raw Value.nilFunc] := by kernel_rfl
theorem tk_48 : tk Go.Proofs.Try.prog 48 = some (false, 1) := by kernel_rfl
theorem zc_48 : zc Go.Proofs.Try.prog 48 = some [AV.raw Value.nilFunc] := by kernel_rfl
theorem tk_49 : tk Go.Proofs.Try.prog 49 = some (false, 1) := by kernel_rfl
theorem zc_49 : zc Go.Proofs.Try.prog 49 = some [AV.raw Value.nilFunc] := by kernel_rfl
theorem tk_50 : tk Go.Proofs.Try.prog 50 = some (false, 1) := by kernel_rfl
theorem zc_50 : zc Go.Proofs.Try.prog 50 = some [AV.raw Value.nilFunc] := by kernel_rfl
theorem tk_51 : tk Go.Proofs.Try.prog 51 = some (true, 3) := by kernel_rfl
theorem zc_51 : zc Go.Proofs.Try.prog 51 = some [AV.d (D.int IntKind.i64 0), AV.d (D.int IntKind.i64 0), AV.nil] := by kernel_rfl
theorem partsOk_51 : partsOk Go.Proofs.Try.prog 51 = true := by kernel_rfl
theorem fo_51_0 : fo Go.Proofs.Try.prog 51 0 = some (0, false, 1) := by kernel_rfl
theorem placeAt_51_0 : placeAt Go.Proofs.Try.prog 51 0 = some (0, 1) := by kernel_rfl
theorem fo_51_1 : fo Go.Proofs.Try.prog 51 1 = some (1, false, 1) := by kernel_rfl
theorem placeAt_51_1 : placeAt Go.Proofs.Try.prog 51 1 = some (1, 1) := by kernel_rfl
theorem fo_51_2 : fo Go.Proofs.Try.prog 51 2 = some (2, false, 1) := by kernel_rfl
theorem placeAt_51_2 : placeAt Go.Proofs.Try.prog 51 2 = some (2, 1) := by kernel_rfl
theorem tk_52 : tk Go.Proofs.Try.prog 52 = some (true, 3) := by kernel_rfl
theorem zc_52 : zc Go.Proofs.Try.prog 52 = some [AV.d (D.int IntKind.i64 0), AV.d (D.int IntKind.i64 0), AV.nil] := by kernel_rfl
theorem partsOk_52 : partsOk Go.Proofs.Try.prog 52 = true := by kernel_rfl
theorem fo_52_0 : fo Go.Proofs.Try.prog 52 0 = some (0, false, 1) := by kernel_rfl
theorem placeAt_52_0 : placeAt Go.Proofs.Try.prog 52 0 = some (0, 1) := by kernel_rfl
theorem fo_52_1 : fo Go.Proofs.Try.prog 52 1 = some (1, false, 1) := by kernel_rfl
theorem placeAt_52_1 : placeAt Go.Proofs.Try.prog 52 1 = some (1, 1) := by kernel_rfl
theorem fo_52_2 : fo Go.Proofs.Try.prog 52 2 = some (2, false, 1) := by kernel_rfl
theorem placeAt_52_2 : placeAt Go.Proofs.Try.prog 52 2 = some (2, 1) := by kernel_rfl
theorem tk_53 : tk Go.Proofs.Try.prog 53 = some (false, 1) := by kernel_rfl
theorem zc_53 : zc Go.Proofs.Try.prog 53 = some [AV.raw Value.nilFunc] := by kernel_rfl
theorem tk_54 : tk Go.Proofs.Try.prog 54 = some (false, 1) := by kernel_rfl
theorem zc_54 : zc Go.Proofs.Try.prog 54 = some [AV.raw Value.nilFunc] := by kernel_rfl
theorem tk_55 : tk Go.Proofs.Try.prog 55 = some (false, 1) := by kernel_rfl
theorem zc_55 : zc Go.Proofs.Try.prog 55 = some [AV.raw Value.nilFunc] := by kernel_rfl
theorem tk_56 : tk Go.Proofs.Try.prog 56 = some (false, 1) := by kernel_rfl
theorem zc_56 : zc Go.Proofs.Try.prog 56 = some [AV.raw Value.nilFunc] := by kernel_rfl
theorem tk_57 : tk Go.Proofs.Try.prog 57 = some (false, 1) := by kernel_rfl
theorem zc_57 : zc Go.Proofs.Try.prog 57 = some [AV.raw Value.nilFunc] := by kernel_rfl
theorem tk_58 : tk Go.Proofs.Try.prog 58 = some (false, 1) := by kernel_rfl
theorem it_58 : it Go.Proofs.Try.prog 58 = some (none, false, 1) := by kernel_rfl
theorem ei_58 : ei Go.Proofs.Try.prog 58 = some (1, 8) := by kernel_rfl
theorem srcT_58 : srcT Go.Proofs.Try.prog 58 = true := by kernel_rfl
theorem zc_58 : zc Go.Proofs.Try.prog 58 = some [AV.nil] := by kernel_rfl
theorem zd_58 : zd Go.Proofs.Try.prog 58 = some [D.int IntKind.i64 0] := by kernel_rfl
theorem under_58 : Go.Proofs.Try.prog.underlying 58 = some (TypeDesc.slice 3) := by kernel_rfl
theorem tk_59 : tk Go.Proofs.Try.prog 59 = some (false, 1) := by kernel_rfl
theorem zc_59 : zc Go.Proofs.Try.prog 59 = some [AV.raw Value.nilFunc] := by kernel_rfl
theorem tk_60 : tk Go.Proofs.Try.prog 60 = some (false, 1) := by kernel_rfl
theorem zc_60 : zc Go.Proofs.Try.prog 60 = some [AV.raw Value.nilFunc] := by kernel_rfl
theorem tk_61 : tk Go.Proofs.Try.prog 61 = some (false, 1) := by kernel_rfl
theorem tk_62 : tk Go.Proofs.Try.prog 62 = some (false, 1) := by kernel_rfl
theorem zc_62 : zc Go.Proofs.Try.prog 62 = some [AV.raw Value.nilFunc] := by kernel_rfl
theorem tk_63 : tk Go.Proofs.Try.prog 63 = some (false, 1) := by kernel_rfl
theorem it_63 : it Go.Proofs.Try.prog 63 = some (none, true, 4) := by kernel_rfl
theorem ei_63 : ei Go.Proofs.Try.prog 63 = some (4, 64) := by kernel_rfl
theorem srcT_63 : srcT Go.Proofs.Try.prog 63 = true := by kernel_rfl
theorem zc_63 : zc Go.Proofs.Try.prog 63 = some [AV.nil] := by kernel_rfl
theorem under_63 : Go.Proofs.Try.prog.underlying 63 = some (TypeDesc.slice 65) := by kernel_rfl
theorem tk_64 : tk Go.Proofs.Try.prog 64 = some (true, 4) := by kernel_rfl
theorem zc_64 : zc Go.Proofs.Try.prog 64 = some [AV.d (D.int IntKind.u8 0), AV.d (D.int IntKind.i64 0), AV.nil, AV.nil] := by kernel_rfl
theorem partsOk_64 : partsOk Go.Proofs.Try.prog 64 = true := by kernel_rfl
theorem fo_64_0 : fo Go.Proofs.Try.prog 64 0 = some (0, false, 1) := by kernel_rfl
theorem placeAt_64_0 : placeAt Go.Proofs.Try.prog 64 0 = some (0, 1) := by kernel_rfl
theorem fo_64_1 : fo Go.Proofs.Try.prog 64 1 = some (1, false, 1) := by kernel_rfl
theorem placeAt_64_1 : placeAt Go.Proofs.Try.prog 64 1 = some (1, 1) := by kernel_rfl
theorem fo_64_2 : fo Go.Proofs.Try.prog 64 2 = some (2, false, 1) := by kernel_rfl
theorem placeAt_64_2 : placeAt Go.Proofs.Try.prog 64 2 = some (2, 1) := by kernel_rfl
theorem fo_64_3 : fo Go.Proofs.Try.prog 64 3 = some (3, false, 1) := by kernel_rfl
theorem placeAt_64_3 : placeAt Go.Proofs.Try.prog 64 3 = some (3, 1) := by kernel_rfl
theorem tk_65 : tk Go.Proofs.Try.prog 65 = some (true, 4) := by kernel_rfl
theorem zc_65 : zc Go.Proofs.Try.prog 65 = some [AV.d (D.int IntKind.u8 0), AV.d (D.int IntKind.i64 0), AV.nil, AV.nil] := by kernel_rfl
theorem partsOk_65 : partsOk Go.Proofs.Try.prog 65 = true := by kernel_rfl
theorem fo_65_0 : fo Go.Proofs.Try.prog 65 0 = some (0, false, 1) := by kernel_rfl
theorem placeAt_65_0 : placeAt Go.Proofs.Try.prog 65 0 = some (0, 1) := by kernel_rfl
theorem fo_65_1 : fo Go.Proofs.Try.prog 65 1 = some (1, false, 1) := by kernel_rfl
theorem placeAt_65_1 : placeAt Go.Proofs.Try.prog 65 1 = some (1, 1) := by kernel_rfl
theorem fo_65_2 : fo Go.Proofs.Try.prog 65 2 = some (2, false, 1) := by kernel_rfl
theorem placeAt_65_2 : placeAt Go.Proofs.Try.prog 65 2 = some (2, 1) := by kernel_rfl
theorem fo_65_3 : fo Go.Proofs.Try.prog 65 3 = some (3, false, 1) := by kernel_rfl
theorem placeAt_65_3 : placeAt Go.Proofs.Try.prog 65 3 = some (3, 1) := by kernel_rfl
theorem tk_66 : tk Go.Proofs.Try.prog 66 = some (false, 1) := by kernel_rfl
theorem zc_66 : zc Go.Proofs.Try.prog 66 = some [AV.raw Value.nilFunc] := by kernel_rfl
theorem tk_67 : tk Go.Proofs.Try.prog 67 = some (false, 1) := by kernel_rfl
theorem zc_67 : zc Go.Proofs.Try.prog 67 = some [AV.raw Value.nilFunc] := by kernel_rfl
theorem tk_68 : tk Go.Proofs.Try.prog 68 = some (false, 1) := by kernel_rfl
theorem zc_68 : zc Go.Proofs.Try.prog 68 = some [AV.raw Value.nilFunc] := by kernel_rfl
theorem tk_69 : tk Go.Proofs.Try.prog 69 = some (false, 1) := by kernel_rfl
theorem zc_69 : zc Go.Proofs.Try.prog 69 = some [AV.raw Value.nilFunc] := by kernel_rfl
theorem tk_70 : tk Go.Proofs.Try.prog 70 = some (false, 1) := by kernel_rfl
theorem zc_70 : zc Go.Proofs.Try.prog 70 = some [AV.raw Value.nilFunc] := by kernel_rfl
theorem tk_71 : tk Go.Proofs.Try.prog 71 = some (false, 1) := by kernel_rfl
theorem zc_71 : zc Go.Proofs.Try.prog 71 = some [AV.raw Value.nilFunc] := by kernel_rfl
theorem tk_72 : tk Go.Proofs.Try.prog 72 = some (false, 1) := by kernel_rfl
theorem tk_73 : tk Go.Proofs.Try.prog 73 = some (false, 1) := by kernel_rfl
theorem zc_73 : zc Go.Proofs.Try.prog 73 = some [AV.raw Value.nilFunc] := by kernel_rfl
theorem tk_74 : tk Go.Proofs.Try.prog 74 = some (false, 1) := by kernel_rfl
theorem tk_75 : tk Go.Proofs.Try.prog 75 = some (false, 1) := by kernel_rfl
theorem zc_75 : zc Go.Proofs.Try.prog 75 = some [AV.raw Value.nilFunc] := by kernel_rfl
theorem tk_76 : tk Go.Proofs.Try.prog 76 = some (false, 1) := by kernel_rfl
theorem zc_76 : zc Go.Proofs.Try.prog 76 = some [AV.raw Value.nilFunc] := by kernel_rfl
theorem tk_77 : tk Go.Proofs.Try.prog 77 = some (false, 1) := by kernel_rfl
theorem zc_77 : zc Go.Proofs.Try.prog 77 = some [AV.raw Value.nilFunc] := by kernel_rfl
theorem tk_78 : tk Go.Proofs.Try.prog 78 = some (false, 1) := by kernel_rfl
theorem zc_78 : zc Go.Proofs.Try.prog 78 = some [AV.raw Value.nilFunc] := by kernel_rfl
theorem tk_79 : tk Go.Proofs.Try.prog 79 = some (false, 1) := by kernel_rfl
theorem zc_79 : zc Go.Proofs.Try.prog 79 = some [AV.raw Value.nilFunc] := by kernel_rfl
theorem tk_80 : tk Go.Proofs.Try.prog 80 = some (false, 1) := by kernel_rfl
theorem zc_80 : zc Go.Proofs.Try.prog 80 = some [AV.d (D.int IntKind.u64 0)] := by kernel_rfl
theorem zv_80 : zv Go.Proofs.Try.prog 80 = some (false, [D.int IntKind.u64 0]) := by kernel_rfl
theorem under_80 : Go.Proofs.Try.prog.underlying 80 = some (TypeDesc.int IntKind.u64) := by kernel_rfl
theorem tk_81 : tk Go.Proofs.Try.prog 81 = some (false, 1) := by kernel_rfl
theorem zc_81 : zc Go.Proofs.Try.prog 81 = some [AV.raw Value.nilFunc] := by kernel_rfl
theorem tk_82 : tk Go.Proofs.Try.prog 82 = some (false, 1) := by kernel_rfl
theorem zc_82 : zc Go.Proofs.Try.prog 82 = some [AV.raw Value.nilFunc] := by kernel_rfl
theorem tk_83 : tk Go.Proofs.Try.prog 83 = some (false, 1) := by kernel_rfl
theorem zc_83 : zc Go.Proofs.Try.prog 83 = some [AV.raw Value.nilFunc] := by kernel_rfl
theorem tk_84 : tk Go.Proofs.Try.prog 84 = some (false, 1) := by kernel_rfl
theorem zc_84 : zc Go.Proofs.Try.prog 84 = some [AV.raw Value.nilFunc] := by kernel_rfl
theorem tk_85 : tk Go.Proofs.Try.prog 85 = some (false, 1) := by kernel_rfl
theorem tk_86 : tk Go.Proofs.Try.prog 86 = some (false, 1) := by kernel_rfl
theorem zc_86 : zc Go.Proofs.Try.prog 86 = some [AV.raw Value.nilFunc] := by kernel_rfl
theorem tk_87 : tk Go.Proofs.Try.prog 87 = some (false, 1) := by kernel_rfl
theorem tk_88 : tk Go.Proofs.Try.prog 88 = some (false, 1) := by kernel_rfl
theorem zc_88 : zc Go.Proofs.Try.prog 88 = some [AV.raw Value.nilFunc] := by kernel_rfl
theorem tk_89 : tk Go.Proofs.Try.prog 89 = some (false, 1) := by kernel_rfl
theorem zc_89 : zc Go.Proofs.Try.prog 89 = some [AV.d (D.int IntKind.u32 0)] := by kernel_rfl
theorem zv_89 : zv Go.Proofs.Try.prog 89 = some (false, [D.int IntKind.u32 0]) := by kernel_rfl
theorem under_89 : Go.Proofs.Try.prog.underlying 89 = some (TypeDesc.int IntKind.u32) := by kernel_rfl
theorem tk_90 : tk Go.Proofs.Try.prog 90 = some (false, 1) := by kernel_rfl
theorem tk_91 : tk Go.Proofs.Try.prog 91 = some (false, 1) := by kernel_rfl
theorem zc_91 : zc Go.Proofs.Try.prog 91 = some [AV.raw Value.nilFunc] := by kernel_rfl
theorem tk_92 : tk Go.Proofs.Try.prog 92 = some (false, 1) := by kernel_rfl
theorem zc_92 : zc Go.Proofs.Try.prog 92 = some [AV.raw Value.nilFunc] := by kernel_rfl
theorem tk_93 : tk Go.Proofs.Try.prog 93 = some (false, 1) := by kernel_rfl
theorem zc_93 : zc Go.Proofs.Try.prog 93 = some [AV.raw Value.nilFunc] := by kernel_rfl
theorem tk_94 : tk Go.Proofs.Try.prog 94 = some (false, 1) := by kernel_rfl
theorem zc_94 : zc Go.Proofs.Try.prog 94 = some [AV.raw Value.nilFunc] := by kernel_rfl
theorem tk_95 : tk Go.Proofs.Try.prog 95 = some (false, 1) := by kernel_rfl
theorem zc_95 : zc Go.Proofs.Try.prog 95 = some [AV.d (D.int IntKind.u64 0)] := by kernel_rfl
theorem zv_95 : zv Go.Proofs.Try.prog 95 = some (false, [D.int IntKind.u64 0]) := by kernel_rfl
theorem under_95 : Go.Proofs.Try.prog.underlying 95 = some (TypeDesc.int IntKind.u64) := by kernel_rfl
theorem tk_96 : tk Go.Proofs.Try.prog 96 = some (false, 1) := by kernel_rfl
theorem zc_96 : zc Go.Proofs.Try.prog 96 = some [AV.raw Value.nilFunc] := by kernel_rfl
theorem tk_97 : tk Go.Proofs.Try.prog 97 = some (false, 1) := by kernel_rfl
theorem zc_97 : zc Go.Proofs.Try.prog 97 = some [AV.raw Value.nilFunc] := by kernel_rfl
theorem tk_98 : tk Go.Proofs.Try.prog 98 = some (true, 2) := by kernel_rfl
theorem zc_98 : zc Go.Proofs.Try.prog 98 = some [AV.nil, AV.d (D.bool false)] := by kernel_rfl
theorem partsOk_98 : partsOk Go.Proofs.Try.prog 98 = true := by kernel_rfl
theorem fo_98_0 : fo Go.Proofs.Try.prog 98 0 = some (0, false, 1) := by kernel_rfl
theorem placeAt_98_0 : placeAt Go.Proofs.Try.prog 98 0 = some (0, 1) := by kernel_rfl
theorem fo_98_1 : fo Go.Proofs.Try.prog 98 1 = some (1, false, 1) := by kernel_rfl
theorem placeAt_98_1 : placeAt Go.Proofs.Try.prog 98 1 = some (1, 1) := by kernel_rfl
theorem tk_99 : tk Go.Proofs.Try.prog 99 = some (true, 2) := by kernel_rfl
theorem zc_99 : zc Go.Proofs.Try.prog 99 = some [AV.nil, AV.d (D.bool false)] := by kernel_rfl
theorem partsOk_99 : partsOk Go.Proofs.Try.prog 99 = true := by kernel_rfl
theorem fo_99_0 : fo Go.Proofs.Try.prog 99 0 = some (0, false, 1) := by kernel_rfl
theorem placeAt_99_0 : placeAt Go.Proofs.Try.prog 99 0 = some (0, 1) := by kernel_rfl
theorem fo_99_1 : fo Go.Proofs.Try.prog 99 1 = some (1, false, 1) := by kernel_rfl
theorem placeAt_99_1 : placeAt Go.Proofs.Try.prog 99 1 = some (1, 1) := by kernel_rfl
theorem tk_100 : tk Go.Proofs.Try.prog 100 = some (false, 1) := by kernel_rfl
theorem zc_100 : zc Go.Proofs.Try.prog 100 = some [AV.raw Value.nilFunc] := by kernel_rfl
theorem tk_101 : tk Go.Proofs.Try.prog 101 = some (false, 1) := by kernel_rfl
theorem zc_101 : zc Go.Proofs.Try.prog 101 = some [AV.raw Value.nilFunc] := by kernel_rfl
theorem tk_102 : tk Go.Proofs.Try.prog 102 = some (false, 1) := by kernel_rfl
theorem zc_102 : zc Go.Proofs.Try.prog 102 = some [AV.raw (Value.pointer none)] := by kernel_rfl
theorem tk_103 : tk Go.Proofs.Try.prog 103 = some (false, 1) := by kernel_rfl
theorem zc_103 : zc Go.Proofs.Try.prog 103 = some [AV.raw Value.nilFunc] := by kernel_rfl
theorem tk_104 : tk Go.Proofs.Try.prog 104 = some (false, 1) := by kernel_rfl
theorem tk_105 : tk Go.Proofs.Try.prog 105 = some (false, 1) := by kernel_rfl
theorem zc_105 : zc Go.Proofs.Try.prog 105 = some [AV.raw Value.nilFunc] := by kernel_rfl
theorem tk_106 : tk Go.Proofs.Try.prog 106 = some (false, 1) := by kernel_rfl
theorem zc_106 : zc Go.Proofs.Try.prog 106 = some [AV.raw Value.nilFunc] := by kernel_rfl
theorem tk_107 : tk Go.Proofs.Try.prog 107 = some (false, 1) := by kernel_rfl
theorem zc_107 : zc Go.Proofs.Try.prog 107 = some [AV.raw Value.nilFunc] := by kernel_rfl
theorem tk_108 : tk Go.Proofs.Try.prog 108 = some (true, 4) := by kernel_rfl
theorem zc_108 : zc Go.Proofs.Try.prog 108 = some [AV.raw (Value.pointer none), AV.raw (Value.pointer none), AV.raw (Value.pointer none), AV.d (D.str ByteArray.empty)] := by kernel_rfl
theorem partsOk_108 : partsOk Go.Proofs.Try.prog 108 = true := by kernel_rfl
theorem fo_108_0 : fo Go.Proofs.Try.prog 108 0 = some (0, false, 1) := by kernel_rfl
theorem placeAt_108_0 : placeAt Go.Proofs.Try.prog 108 0 = some (0, 1) := by kernel_rfl
theorem fo_108_1 : fo Go.Proofs.Try.prog 108 1 = some (1, false, 1) := by kernel_rfl
theorem placeAt_108_1 : placeAt Go.Proofs.Try.prog 108 1 = some (1, 1) := by kernel_rfl
theorem fo_108_2 : fo Go.Proofs.Try.prog 108 2 = some (2, false, 1) := by kernel_rfl
theorem placeAt_108_2 : placeAt Go.Proofs.Try.prog 108 2 = some (2, 1) := by kernel_rfl
theorem fo_108_3 : fo Go.Proofs.Try.prog 108 3 = some (3, false, 1) := by kernel_rfl
theorem placeAt_108_3 : placeAt Go.Proofs.Try.prog 108 3 = some (3, 1) := by kernel_rfl
theorem tk_109 : tk Go.Proofs.Try.prog 109 = some (true, 4) := by kernel_rfl
theorem zc_109 : zc Go.Proofs.Try.prog 109 = some [AV.raw (Value.pointer none), AV.raw (Value.pointer none), AV.raw (Value.pointer none), AV.d (D.str ByteArray.empty)] := by kernel_rfl
theorem partsOk_109 : partsOk Go.Proofs.Try.prog 109 = true := by kernel_rfl
theorem fo_109_0 : fo Go.Proofs.Try.prog 109 0 = some (0, false, 1) := by kernel_rfl
theorem placeAt_109_0 : placeAt Go.Proofs.Try.prog 109 0 = some (0, 1) := by kernel_rfl
theorem fo_109_1 : fo Go.Proofs.Try.prog 109 1 = some (1, false, 1) := by kernel_rfl
theorem placeAt_109_1 : placeAt Go.Proofs.Try.prog 109 1 = some (1, 1) := by kernel_rfl
theorem fo_109_2 : fo Go.Proofs.Try.prog 109 2 = some (2, false, 1) := by kernel_rfl
theorem placeAt_109_2 : placeAt Go.Proofs.Try.prog 109 2 = some (2, 1) := by kernel_rfl
theorem fo_109_3 : fo Go.Proofs.Try.prog 109 3 = some (3, false, 1) := by kernel_rfl
theorem placeAt_109_3 : placeAt Go.Proofs.Try.prog 109 3 = some (3, 1) := by kernel_rfl
theorem tk_110 : tk Go.Proofs.Try.prog 110 = some (true, 0) := by kernel_rfl
theorem it_110 : it Go.Proofs.Try.prog 110 = some (some 0, false, 1) := by kernel_rfl
theorem zc_110 : zc Go.Proofs.Try.prog 110 = some [] := by kernel_rfl
theorem zv_110 : zv Go.Proofs.Try.prog 110 = some (true, []) := by kernel_rfl
theorem partsOk_110 : partsOk Go.Proofs.Try.prog 110 = true := by kernel_rfl
theorem under_110 : Go.Proofs.Try.prog.underlying 110 = some (TypeDesc.array 0 16) := by kernel_rfl
theorem placeAt_110_0 : placeAt Go.Proofs.Try.prog 110 0 = some (0, 1) := by kernel_rfl
theorem placeAt_110_1 : placeAt Go.Proofs.Try.prog 110 1 = some (1, 1) := by kernel_rfl
theorem placeAt_110_2 : placeAt Go.Proofs.Try.prog 110 2 = some (2, 1) := by kernel_rfl
theorem placeAt_110_3 : placeAt Go.Proofs.Try.prog 110 3 = some (3, 1) := by kernel_rfl
theorem placeAt_110_4 : placeAt Go.Proofs.Try.prog 110 4 = some (4, 1) := by kernel_rfl
theorem placeAt_110_5 : placeAt Go.Proofs.Try.prog 110 5 = some (5, 1) := by kernel_rfl
theorem placeAt_110_6 : placeAt Go.Proofs.Try.prog 110 6 = some (6, 1) := by kernel_rfl
theorem placeAt_110_7 : placeAt Go.Proofs.Try.prog 110 7 = some (7, 1) := by kernel_rfl
theorem placeAt_110_8 : placeAt Go.Proofs.Try.prog 110 8 = some (8, 1) := by kernel_rfl
theorem placeAt_110_9 : placeAt Go.Proofs.Try.prog 110 9 = some (9, 1) := by kernel_rfl
theorem placeAt_110_10 : placeAt Go.Proofs.Try.prog 110 10 = some (10, 1) := by kernel_rfl
theorem placeAt_110_11 : placeAt Go.Proofs.Try.prog 110 11 = some (11, 1) := by kernel_rfl
theorem placeAt_110_12 : placeAt Go.Proofs.Try.prog 110 12 = some (12, 1) := by kernel_rfl
theorem placeAt_110_13 : placeAt Go.Proofs.Try.prog 110 13 = some (13, 1) := by kernel_rfl
theorem tk_111 : tk Go.Proofs.Try.prog 111 = some (true, 0) := by kernel_rfl
theorem zc_111 : zc Go.Proofs.Try.prog 111 = some [] := by kernel_rfl
theorem zv_111 : zv Go.Proofs.Try.prog 111 = some (true, []) := by kernel_rfl
theorem partsOk_111 : partsOk Go.Proofs.Try.prog 111 = true := by kernel_rfl
theorem fo_111_0 : fo Go.Proofs.Try.prog 111 0 = some (0, true, 0) := by kernel_rfl
theorem placeAt_111_0 : placeAt Go.Proofs.Try.prog 111 0 = some (0, 0) := by kernel_rfl
theorem tk_112 : tk Go.Proofs.Try.prog 112 = some (true, 0) := by kernel_rfl
theorem zc_112 : zc Go.Proofs.Try.prog 112 = some [] := by kernel_rfl
theorem zv_112 : zv Go.Proofs.Try.prog 112 = some (true, []) := by kernel_rfl
theorem partsOk_112 : partsOk Go.Proofs.Try.prog 112 = true := by kernel_rfl
theorem fo_112_0 : fo Go.Proofs.Try.prog 112 0 = some (0, true, 0) := by kernel_rfl
theorem placeAt_112_0 : placeAt Go.Proofs.Try.prog 112 0 = some (0, 0) := by kernel_rfl
theorem tk_113 : tk Go.Proofs.Try.prog 113 = some (false, 1) := by kernel_rfl
theorem zc_113 : zc Go.Proofs.Try.prog 113 = some [AV.raw Value.nilFunc] := by kernel_rfl
theorem tk_114 : tk Go.Proofs.Try.prog 114 = some (false, 1) := by kernel_rfl
theorem zc_114 : zc Go.Proofs.Try.prog 114 = some [AV.d (D.int IntKind.u8 0)] := by kernel_rfl
theorem zv_114 : zv Go.Proofs.Try.prog 114 = some (false, [D.int IntKind.u8 0]) := by kernel_rfl
theorem under_114 : Go.Proofs.Try.prog.underlying 114 = some (TypeDesc.int IntKind.u8) := by kernel_rfl
theorem tk_115 : tk Go.Proofs.Try.prog 115 = some (false, 1) := by kernel_rfl
theorem zc_115 : zc Go.Proofs.Try.prog 115 = some [AV.d (D.int IntKind.u8 0)] := by kernel_rfl
theorem zv_115 : zv Go.Proofs.Try.prog 115 = some (false, [D.int IntKind.u8 0]) := by kernel_rfl
theorem under_115 : Go.Proofs.Try.prog.underlying 115 = some (TypeDesc.int IntKind.u8) := by kernel_rfl
theorem tk_116 : tk Go.Proofs.Try.prog 116 = some (false, 1) := by kernel_rfl
theorem zc_116 : zc Go.Proofs.Try.prog 116 = some [AV.raw Value.nilFunc] := by kernel_rfl
theorem tk_117 : tk Go.Proofs.Try.prog 117 = some (false, 1) := by kernel_rfl
theorem zc_117 : zc Go.Proofs.Try.prog 117 = some [AV.raw (Value.pointer none)] := by kernel_rfl
theorem tk_118 : tk Go.Proofs.Try.prog 118 = some (false, 1) := by kernel_rfl
theorem zc_118 : zc Go.Proofs.Try.prog 118 = some [AV.d (D.int IntKind.i32 0)] := by kernel_rfl
theorem zv_118 : zv Go.Proofs.Try.prog 118 = some (false, [D.int IntKind.i32 0]) := by kernel_rfl
theorem under_118 : Go.Proofs.Try.prog.underlying 118 = some (TypeDesc.int IntKind.i32) := by kernel_rfl
theorem tk_119 : tk Go.Proofs.Try.prog 119 = some (false, 1) := by kernel_rfl
theorem zc_119 : zc Go.Proofs.Try.prog 119 = some [AV.d (D.int IntKind.i32 0)] := by kernel_rfl
theorem zv_119 : zv Go.Proofs.Try.prog 119 = some (false, [D.int IntKind.i32 0]) := by kernel_rfl
theorem under_119 : Go.Proofs.Try.prog.underlying 119 = some (TypeDesc.int IntKind.i32) := by kernel_rfl
theorem tk_120 : tk Go.Proofs.Try.prog 120 = some (true, 11) := by kernel_rfl
theorem zc_120 : zc Go.Proofs.Try.prog 120 = some [AV.d (D.int IntKind.u64 0), AV.d (D.int IntKind.u64 0), AV.d (D.int IntKind.u32 0), AV.d (D.int IntKind.u8 0), AV.d (D.int IntKind.u8 0), AV.d (D.int IntKind.u8 0), AV.d (D.int IntKind.u8 0), AV.raw Value.nilFunc, AV.raw (Value.pointer none), AV.d (D.int IntKind.i32 0), AV.d (D.int IntKind.i32 0)] := by kernel_rfl
theorem partsOk_120 : partsOk Go.Proofs.Try.prog 120 = true := by kernel_rfl
theorem fo_120_0 : fo Go.Proofs.Try.prog 120 0 = some (0, false, 1) := by kernel_rfl
theorem placeAt_120_0 : placeAt Go.Proofs.Try.prog 120 0 = some (0, 1) := by kernel_rfl
theorem fo_120_1 : fo Go.Proofs.Try.prog 120 1 = some (1, false, 1) := by kernel_rfl
theorem placeAt_120_1 : placeAt Go.Proofs.Try.prog 120 1 = some (1, 1) := by kernel_rfl
theorem fo_120_2 : fo Go.Proofs.Try.prog 120 2 = some (2, false, 1) := by kernel_rfl
theorem placeAt_120_2 : placeAt Go.Proofs.Try.prog 120 2 = some (2, 1) := by kernel_rfl
theorem fo_120_3 : fo Go.Proofs.Try.prog 120 3 = some (3, false, 1) := by kernel_rfl
theorem placeAt_120_3 : placeAt Go.Proofs.Try.prog 120 3 = some (3, 1) := by kernel_rfl
theorem fo_120_4 : fo Go.Proofs.Try.prog 120 4 = some (4, false, 1) := by kernel_rfl
theorem placeAt_120_4 : placeAt Go.Proofs.Try.prog 120 4 = some (4, 1) := by kernel_rfl
theorem fo_120_5 : fo Go.Proofs.Try.prog 120 5 = some (5, false, 1) := by kernel_rfl
theorem placeAt_120_5 : placeAt Go.Proofs.Try.prog 120 5 = some (5, 1) := by kernel_rfl
theorem fo_120_6 : fo Go.Proofs.Try.prog 120 6 = some (6, false, 1) := by kernel_rfl
theorem placeAt_120_6 : placeAt Go.Proofs.Try.prog 120 6 = some (6, 1) := by kernel_rfl
theorem fo_120_7 : fo Go.Proofs.Try.prog 120 7 = some (7, false, 1) := by kernel_rfl
theorem placeAt_120_7 : placeAt Go.Proofs.Try.prog 120 7 = some (7, 1) := by kernel_rfl
theorem fo_120_8 : fo Go.Proofs.Try.prog 120 8 = some (8, false, 1) := by kernel_rfl
theorem placeAt_120_8 : placeAt Go.Proofs.Try.prog 120 8 = some (8, 1) := by kernel_rfl
theorem fo_120_9 : fo Go.Proofs.Try.prog 120 9 = some (9, false, 1) := by kernel_rfl
theorem placeAt_120_9 : placeAt Go.Proofs.Try.prog 120 9 = some (9, 1) := by kernel_rfl
theorem fo_120_10 : fo Go.Proofs.Try.prog 120 10 = some (10, false, 1) := by kernel_rfl
theorem placeAt_120_10 : placeAt Go.Proofs.Try.prog 120 10 = some (10, 1) := by kernel_rfl
theorem tk_121 : tk Go.Proofs.Try.prog 121 = some (true, 11) := by kernel_rfl
theorem zc_121 : zc Go.Proofs.Try.prog 121 = some [AV.d (D.int IntKind.u64 0), AV.d (D.int IntKind.u64 0), AV.d (D.int IntKind.u32 0), AV.d (D.int IntKind.u8 0), AV.d (D.int IntKind.u8 0), AV.d (D.int IntKind.u8 0), AV.d (D.int IntKind.u8 0), AV.raw Value.nilFunc, AV.raw (Value.pointer none), AV.d (D.int IntKind.i32 0), AV.d (D.int IntKind.i32 0)] := by kernel_rfl
theorem partsOk_121 : partsOk Go.Proofs.Try.prog 121 = true := by kernel_rfl
theorem fo_121_0 : fo Go.Proofs.Try.prog 121 0 = some (0, false, 1) := by kernel_rfl
theorem placeAt_121_0 : placeAt Go.Proofs.Try.prog 121 0 = some (0, 1) := by kernel_rfl
theorem fo_121_1 : fo Go.Proofs.Try.prog 121 1 = some (1, false, 1) := by kernel_rfl
theorem placeAt_121_1 : placeAt Go.Proofs.Try.prog 121 1 = some (1, 1) := by kernel_rfl
theorem fo_121_2 : fo Go.Proofs.Try.prog 121 2 = some (2, false, 1) := by kernel_rfl
theorem placeAt_121_2 : placeAt Go.Proofs.Try.prog 121 2 = some (2, 1) := by kernel_rfl
theorem fo_121_3 : fo Go.Proofs.Try.prog 121 3 = some (3, false, 1) := by kernel_rfl
theorem placeAt_121_3 : placeAt Go.Proofs.Try.prog 121 3 = some (3, 1) := by kernel_rfl
theorem fo_121_4 : fo Go.Proofs.Try.prog 121 4 = some (4, false, 1) := by kernel_rfl
theorem placeAt_121_4 : placeAt Go.Proofs.Try.prog 121 4 = some (4, 1) := by kernel_rfl
theorem fo_121_5 : fo Go.Proofs.Try.prog 121 5 = some (5, false, 1) := by kernel_rfl
theorem placeAt_121_5 : placeAt Go.Proofs.Try.prog 121 5 = some (5, 1) := by kernel_rfl
theorem fo_121_6 : fo Go.Proofs.Try.prog 121 6 = some (6, false, 1) := by kernel_rfl
theorem placeAt_121_6 : placeAt Go.Proofs.Try.prog 121 6 = some (6, 1) := by kernel_rfl
theorem fo_121_7 : fo Go.Proofs.Try.prog 121 7 = some (7, false, 1) := by kernel_rfl
theorem placeAt_121_7 : placeAt Go.Proofs.Try.prog 121 7 = some (7, 1) := by kernel_rfl
theorem fo_121_8 : fo Go.Proofs.Try.prog 121 8 = some (8, false, 1) := by kernel_rfl
theorem placeAt_121_8 : placeAt Go.Proofs.Try.prog 121 8 = some (8, 1) := by kernel_rfl
theorem fo_121_9 : fo Go.Proofs.Try.prog 121 9 = some (9, false, 1) := by kernel_rfl
theorem placeAt_121_9 : placeAt Go.Proofs.Try.prog 121 9 = some (9, 1) := by kernel_rfl
theorem fo_121_10 : fo Go.Proofs.Try.prog 121 10 = some (10, false, 1) := by kernel_rfl
theorem placeAt_121_10 : placeAt Go.Proofs.Try.prog 121 10 = some (10, 1) := by kernel_rfl
theorem tk_122 : tk Go.Proofs.Try.prog 122 = some (false, 1) := by kernel_rfl
theorem zc_122 : zc Go.Proofs.Try.prog 122 = some [AV.raw (Value.pointer none)] := by kernel_rfl
theorem mixed : Go.Proofs.Try.prog.follows .mixedOrders = true := by kernel_rfl
attribute [go_sem] tk_0 tk_1 zc_1 tk_2 zc_2 zv_2 under_2 tk_3 zc_3 zv_3 under_3 tk_4 zc_4 zv_4 under_4 tk_5 zc_5 zv_5 under_5 tk_6 zc_6 zv_6 under_6 tk_7 zc_7 zv_7 partsOk_7 fo_7_0 placeAt_7_0 fo_7_1 placeAt_7_1 fo_7_2 placeAt_7_2 fo_7_3 placeAt_7_3 tk_8 zc_8 zv_8 partsOk_8 fo_8_0 placeAt_8_0 fo_8_1 placeAt_8_1 fo_8_2 placeAt_8_2 fo_8_3 placeAt_8_3 tk_9 srcT_9 zc_9 zv_9 under_9 tk_10 srcT_10 zc_10 zv_10 under_10 tk_11 srcT_11 zc_11 zv_11 under_11 tk_12 zc_12 zv_12 under_12 tk_13 zc_13 zv_13 partsOk_13 fo_13_0 placeAt_13_0 fo_13_1 placeAt_13_1 tk_14 zc_14 zv_14 partsOk_14 fo_14_0 placeAt_14_0 fo_14_1 placeAt_14_1 tk_15 zc_15 tk_16 zc_16 tk_17 zc_17 tk_18 zc_18 partsOk_18 fo_18_0 placeAt_18_0 tk_19 zc_19 partsOk_19 fo_19_0 placeAt_19_0 tk_20 zc_20 tk_21 zc_21 zv_21 under_21 tk_22 it_22 ei_22 srcT_22 zc_22 zd_22 under_22 tk_23 it_23 ei_23 srcT_23 zc_23 under_23 tk_24 zc_24 tk_25 zc_25 zv_25 under_25 tk_26 tk_27 zc_27 tk_28 tk_29 zc_29 tk_30 tk_31 zc_31 tk_32 tk_33 zc_33 tk_34 zc_34 tk_35 zc_35 tk_36 zc_36 tk_37 zc_37 tk_38 zc_38 tk_39 tk_40 zc_40 tk_41 tk_42 zc_42 tk_43 zc_43 tk_44 zc_44 tk_45 zc_45 tk_46 zc_46 tk_47 zc_47 tk_48 zc_48 tk_49 zc_49 tk_50 zc_50 tk_51 zc_51 partsOk_51 fo_51_0 placeAt_51_0 fo_51_1 placeAt_51_1 fo_51_2 placeAt_51_2 tk_52 zc_52 partsOk_52 fo_52_0 placeAt_52_0 fo_52_1 placeAt_52_1 fo_52_2 placeAt_52_2 tk_53 zc_53 tk_54 zc_54 tk_55 zc_55 tk_56 zc_56 tk_57 zc_57 tk_58 it_58 ei_58 srcT_58 zc_58 zd_58 under_58 tk_59 zc_59 tk_60 zc_60 tk_61 tk_62 zc_62 tk_63 it_63 ei_63 srcT_63 zc_63 under_63 tk_64 zc_64 partsOk_64 fo_64_0 placeAt_64_0 fo_64_1 placeAt_64_1 fo_64_2 placeAt_64_2 fo_64_3 placeAt_64_3 tk_65 zc_65 partsOk_65 fo_65_0 placeAt_65_0 fo_65_1 placeAt_65_1 fo_65_2 placeAt_65_2 fo_65_3 placeAt_65_3 tk_66 zc_66 tk_67 zc_67 tk_68 zc_68 tk_69 zc_69 tk_70 zc_70 tk_71 zc_71 tk_72 tk_73 zc_73 tk_74 tk_75 zc_75 tk_76 zc_76 tk_77 zc_77 tk_78 zc_78 tk_79 zc_79 tk_80 zc_80 zv_80 under_80 tk_81 zc_81 tk_82 zc_82 tk_83 zc_83 tk_84 zc_84 tk_85 tk_86 zc_86 tk_87 tk_88 zc_88 tk_89 zc_89 zv_89 under_89 tk_90 tk_91 zc_91 tk_92 zc_92 tk_93 zc_93 tk_94 zc_94 tk_95 zc_95 zv_95 under_95 tk_96 zc_96 tk_97 zc_97 tk_98 zc_98 partsOk_98 fo_98_0 placeAt_98_0 fo_98_1 placeAt_98_1 tk_99 zc_99 partsOk_99 fo_99_0 placeAt_99_0 fo_99_1 placeAt_99_1 tk_100 zc_100 tk_101 zc_101 tk_102 zc_102 tk_103 zc_103 tk_104 tk_105 zc_105 tk_106 zc_106 tk_107 zc_107 tk_108 zc_108 partsOk_108 fo_108_0 placeAt_108_0 fo_108_1 placeAt_108_1 fo_108_2 placeAt_108_2 fo_108_3 placeAt_108_3 tk_109 zc_109 partsOk_109 fo_109_0 placeAt_109_0 fo_109_1 placeAt_109_1 fo_109_2 placeAt_109_2 fo_109_3 placeAt_109_3 tk_110 it_110 zc_110 zv_110 partsOk_110 under_110 placeAt_110_0 placeAt_110_1 placeAt_110_2 placeAt_110_3 placeAt_110_4 placeAt_110_5 placeAt_110_6 placeAt_110_7 placeAt_110_8 placeAt_110_9 placeAt_110_10 placeAt_110_11 placeAt_110_12 placeAt_110_13 tk_111 zc_111 zv_111 partsOk_111 fo_111_0 placeAt_111_0 tk_112 zc_112 zv_112 partsOk_112 fo_112_0 placeAt_112_0 tk_113 zc_113 tk_114 zc_114 zv_114 under_114 tk_115 zc_115 zv_115 under_115 tk_116 zc_116 tk_117 zc_117 tk_118 zc_118 zv_118 under_118 tk_119 zc_119 zv_119 under_119 tk_120 zc_120 partsOk_120 fo_120_0 placeAt_120_0 fo_120_1 placeAt_120_1 fo_120_2 placeAt_120_2 fo_120_3 placeAt_120_3 fo_120_4 placeAt_120_4 fo_120_5 placeAt_120_5 fo_120_6 placeAt_120_6 fo_120_7 placeAt_120_7 fo_120_8 placeAt_120_8 fo_120_9 placeAt_120_9 fo_120_10 placeAt_120_10 tk_121 zc_121 partsOk_121 fo_121_0 placeAt_121_0 fo_121_1 placeAt_121_1 fo_121_2 placeAt_121_2 fo_121_3 placeAt_121_3 fo_121_4 placeAt_121_4 fo_121_5 placeAt_121_5 fo_121_6 placeAt_121_6 fo_121_7 placeAt_121_7 fo_121_8 placeAt_121_8 fo_121_9 placeAt_121_9 fo_121_10 placeAt_121_10 tk_122 zc_122 mixed
end Go.AX.Ty
