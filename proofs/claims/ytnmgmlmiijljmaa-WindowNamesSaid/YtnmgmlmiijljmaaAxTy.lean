/- The types of this seat: sizes, fields, elements (printed; each is checked). -/
import Derived.Test.YtnmgmlmiijljmaaProg
import Derived.Test.YtnmgmlmiijljmaaAxY
import Derived.KernelRfl
set_option maxRecDepth 100000
namespace Go.AX.Ty
theorem tk_0 : tk Go.Proofs.Try.prog 0 = some (false, 1) := by kernel_rfl
theorem tk_1 : tk Go.Proofs.Try.prog 1 = some (false, 1) := by kernel_rfl
theorem zc_1 : zc Go.Proofs.Try.prog 1 = some [AV.raw Value.nilFunc] := by kernel_rfl
theorem tk_2 : tk Go.Proofs.Try.prog 2 = some (false, 1) := by kernel_rfl
theorem zc_2 : zc Go.Proofs.Try.prog 2 = some [AV.d (D.int IntKind.i64 0)] := by kernel_rfl
theorem zv_2 : zv Go.Proofs.Try.prog 2 = some (false, [D.int IntKind.i64 0]) := by kernel_rfl
theorem under_2 : Go.Proofs.Try.prog.underlying 2 = some (TypeDesc.int IntKind.i64) := by kernel_rfl
theorem tk_3 : tk Go.Proofs.Try.prog 3 = some (false, 1) := by kernel_rfl
theorem zc_3 : zc Go.Proofs.Try.prog 3 = some [AV.d (D.int IntKind.i64 0)] := by kernel_rfl
theorem zv_3 : zv Go.Proofs.Try.prog 3 = some (false, [D.int IntKind.i64 0]) := by kernel_rfl
theorem under_3 : Go.Proofs.Try.prog.underlying 3 = some (TypeDesc.int IntKind.i64) := by kernel_rfl
theorem tk_4 : tk Go.Proofs.Try.prog 4 = some (false, 1) := by kernel_rfl
theorem zc_4 : zc Go.Proofs.Try.prog 4 = some [AV.d (D.bool false)] := by kernel_rfl
theorem zv_4 : zv Go.Proofs.Try.prog 4 = some (false, [D.bool false]) := by kernel_rfl
theorem under_4 : Go.Proofs.Try.prog.underlying 4 = some TypeDesc.bool := by kernel_rfl
theorem tk_5 : tk Go.Proofs.Try.prog 5 = some (false, 1) := by kernel_rfl
theorem zc_5 : zc Go.Proofs.Try.prog 5 = some [AV.d (D.int IntKind.u8 0)] := by kernel_rfl
theorem zv_5 : zv Go.Proofs.Try.prog 5 = some (false, [D.int IntKind.u8 0]) := by kernel_rfl
theorem under_5 : Go.Proofs.Try.prog.underlying 5 = some (TypeDesc.int IntKind.u8) := by kernel_rfl
theorem tk_6 : tk Go.Proofs.Try.prog 6 = some (false, 1) := by kernel_rfl
theorem zc_6 : zc Go.Proofs.Try.prog 6 = some [AV.d (D.int IntKind.u8 0)] := by kernel_rfl
theorem zv_6 : zv Go.Proofs.Try.prog 6 = some (false, [D.int IntKind.u8 0]) := by kernel_rfl
theorem under_6 : Go.Proofs.Try.prog.underlying 6 = some (TypeDesc.int IntKind.u8) := by kernel_rfl
theorem tk_7 : tk Go.Proofs.Try.prog 7 = some (true, 4) := by kernel_rfl
theorem zc_7 : zc Go.Proofs.Try.prog 7 = some [AV.d (D.int IntKind.i64 0), AV.d (D.int IntKind.i64 0), AV.d (D.bool false), AV.d (D.int IntKind.u8 0)] := by kernel_rfl
theorem zv_7 : zv Go.Proofs.Try.prog 7 = some (true, [D.int IntKind.i64 0, D.int IntKind.i64 0, D.bool false, D.int IntKind.u8 0]) := by kernel_rfl
theorem partsOk_7 : partsOk Go.Proofs.Try.prog 7 = true := by kernel_rfl
theorem fo_7_0 : fo Go.Proofs.Try.prog 7 0 = some (0, false, 1) := by kernel_rfl
theorem placeAt_7_0 : placeAt Go.Proofs.Try.prog 7 0 = some (0, 1) := by kernel_rfl
theorem fo_7_1 : fo Go.Proofs.Try.prog 7 1 = some (1, false, 1) := by kernel_rfl
theorem placeAt_7_1 : placeAt Go.Proofs.Try.prog 7 1 = some (1, 1) := by kernel_rfl
theorem fo_7_2 : fo Go.Proofs.Try.prog 7 2 = some (2, false, 1) := by kernel_rfl
theorem placeAt_7_2 : placeAt Go.Proofs.Try.prog 7 2 = some (2, 1) := by kernel_rfl
theorem fo_7_3 : fo Go.Proofs.Try.prog 7 3 = some (3, false, 1) := by kernel_rfl
theorem placeAt_7_3 : placeAt Go.Proofs.Try.prog 7 3 = some (3, 1) := by kernel_rfl
theorem tk_8 : tk Go.Proofs.Try.prog 8 = some (true, 4) := by kernel_rfl
theorem zc_8 : zc Go.Proofs.Try.prog 8 = some [AV.d (D.int IntKind.i64 0), AV.d (D.int IntKind.i64 0), AV.d (D.bool false), AV.d (D.int IntKind.u8 0)] := by kernel_rfl
theorem zv_8 : zv Go.Proofs.Try.prog 8 = some (true, [D.int IntKind.i64 0, D.int IntKind.i64 0, D.bool false, D.int IntKind.u8 0]) := by kernel_rfl
theorem partsOk_8 : partsOk Go.Proofs.Try.prog 8 = true := by kernel_rfl
theorem fo_8_0 : fo Go.Proofs.Try.prog 8 0 = some (0, false, 1) := by kernel_rfl
theorem placeAt_8_0 : placeAt Go.Proofs.Try.prog 8 0 = some (0, 1) := by kernel_rfl
theorem fo_8_1 : fo Go.Proofs.Try.prog 8 1 = some (1, false, 1) := by kernel_rfl
theorem placeAt_8_1 : placeAt Go.Proofs.Try.prog 8 1 = some (1, 1) := by kernel_rfl
theorem fo_8_2 : fo Go.Proofs.Try.prog 8 2 = some (2, false, 1) := by kernel_rfl
theorem placeAt_8_2 : placeAt Go.Proofs.Try.prog 8 2 = some (2, 1) := by kernel_rfl
theorem fo_8_3 : fo Go.Proofs.Try.prog 8 3 = some (3, false, 1) := by kernel_rfl
theorem placeAt_8_3 : placeAt Go.Proofs.Try.prog 8 3 = some (3, 1) := by kernel_rfl
theorem tk_9 : tk Go.Proofs.Try.prog 9 = some (false, 1) := by kernel_rfl
theorem srcT_9 : srcT Go.Proofs.Try.prog 9 = true := by kernel_rfl
theorem zc_9 : zc Go.Proofs.Try.prog 9 = some [AV.d (D.str ByteArray.empty)] := by kernel_rfl
theorem zv_9 : zv Go.Proofs.Try.prog 9 = some (false, [D.str ByteArray.empty]) := by kernel_rfl
theorem under_9 : Go.Proofs.Try.prog.underlying 9 = some TypeDesc.string := by kernel_rfl
theorem tk_10 : tk Go.Proofs.Try.prog 10 = some (false, 1) := by kernel_rfl
theorem srcT_10 : srcT Go.Proofs.Try.prog 10 = true := by kernel_rfl
theorem zc_10 : zc Go.Proofs.Try.prog 10 = some [AV.d (D.str ByteArray.empty)] := by kernel_rfl
theorem zv_10 : zv Go.Proofs.Try.prog 10 = some (false, [D.str ByteArray.empty]) := by kernel_rfl
theorem under_10 : Go.Proofs.Try.prog.underlying 10 = some TypeDesc.string := by kernel_rfl
theorem tk_11 : tk Go.Proofs.Try.prog 11 = some (false, 1) := by kernel_rfl
theorem srcT_11 : srcT Go.Proofs.Try.prog 11 = true := by kernel_rfl
theorem zc_11 : zc Go.Proofs.Try.prog 11 = some [AV.d (D.str ByteArray.empty)] := by kernel_rfl
theorem zv_11 : zv Go.Proofs.Try.prog 11 = some (false, [D.str ByteArray.empty]) := by kernel_rfl
theorem under_11 : Go.Proofs.Try.prog.underlying 11 = some TypeDesc.string := by kernel_rfl
theorem tk_12 : tk Go.Proofs.Try.prog 12 = some (false, 1) := by kernel_rfl
theorem zc_12 : zc Go.Proofs.Try.prog 12 = some [AV.d (D.int IntKind.u64 0)] := by kernel_rfl
theorem zv_12 : zv Go.Proofs.Try.prog 12 = some (false, [D.int IntKind.u64 0]) := by kernel_rfl
theorem under_12 : Go.Proofs.Try.prog.underlying 12 = some (TypeDesc.int IntKind.u64) := by kernel_rfl
theorem tk_13 : tk Go.Proofs.Try.prog 13 = some (true, 2) := by kernel_rfl
theorem zc_13 : zc Go.Proofs.Try.prog 13 = some [AV.d (D.str ByteArray.empty), AV.d (D.int IntKind.u64 0)] := by kernel_rfl
theorem zv_13 : zv Go.Proofs.Try.prog 13 = some (true, [D.str ByteArray.empty, D.int IntKind.u64 0]) := by kernel_rfl
theorem partsOk_13 : partsOk Go.Proofs.Try.prog 13 = true := by kernel_rfl
theorem fo_13_0 : fo Go.Proofs.Try.prog 13 0 = some (0, false, 1) := by kernel_rfl
theorem placeAt_13_0 : placeAt Go.Proofs.Try.prog 13 0 = some (0, 1) := by kernel_rfl
theorem fo_13_1 : fo Go.Proofs.Try.prog 13 1 = some (1, false, 1) := by kernel_rfl
theorem placeAt_13_1 : placeAt Go.Proofs.Try.prog 13 1 = some (1, 1) := by kernel_rfl
theorem tk_14 : tk Go.Proofs.Try.prog 14 = some (true, 2) := by kernel_rfl
theorem zc_14 : zc Go.Proofs.Try.prog 14 = some [AV.d (D.str ByteArray.empty), AV.d (D.int IntKind.u64 0)] := by kernel_rfl
theorem zv_14 : zv Go.Proofs.Try.prog 14 = some (true, [D.str ByteArray.empty, D.int IntKind.u64 0]) := by kernel_rfl
theorem partsOk_14 : partsOk Go.Proofs.Try.prog 14 = true := by kernel_rfl
theorem fo_14_0 : fo Go.Proofs.Try.prog 14 0 = some (0, false, 1) := by kernel_rfl
theorem placeAt_14_0 : placeAt Go.Proofs.Try.prog 14 0 = some (0, 1) := by kernel_rfl
theorem fo_14_1 : fo Go.Proofs.Try.prog 14 1 = some (1, false, 1) := by kernel_rfl
theorem placeAt_14_1 : placeAt Go.Proofs.Try.prog 14 1 = some (1, 1) := by kernel_rfl
theorem tk_15 : tk Go.Proofs.Try.prog 15 = some (false, 1) := by kernel_rfl
theorem zc_15 : zc Go.Proofs.Try.prog 15 = some [AV.raw (Value.pointer none)] := by kernel_rfl
theorem tk_16 : tk Go.Proofs.Try.prog 16 = some (false, 1) := by kernel_rfl
theorem zc_16 : zc Go.Proofs.Try.prog 16 = some [AV.raw (Value.pointer none)] := by kernel_rfl
theorem tk_17 : tk Go.Proofs.Try.prog 17 = some (false, 1) := by kernel_rfl
theorem zc_17 : zc Go.Proofs.Try.prog 17 = some [AV.raw (Value.pointer none)] := by kernel_rfl
theorem tk_18 : tk Go.Proofs.Try.prog 18 = some (true, 1) := by kernel_rfl
theorem zc_18 : zc Go.Proofs.Try.prog 18 = some [AV.raw (Value.pointer none)] := by kernel_rfl
theorem partsOk_18 : partsOk Go.Proofs.Try.prog 18 = true := by kernel_rfl
theorem fo_18_0 : fo Go.Proofs.Try.prog 18 0 = some (0, false, 1) := by kernel_rfl
theorem placeAt_18_0 : placeAt Go.Proofs.Try.prog 18 0 = some (0, 1) := by kernel_rfl
theorem tk_19 : tk Go.Proofs.Try.prog 19 = some (true, 1) := by kernel_rfl
theorem zc_19 : zc Go.Proofs.Try.prog 19 = some [AV.raw (Value.pointer none)] := by kernel_rfl
theorem partsOk_19 : partsOk Go.Proofs.Try.prog 19 = true := by kernel_rfl
theorem fo_19_0 : fo Go.Proofs.Try.prog 19 0 = some (0, false, 1) := by kernel_rfl
theorem placeAt_19_0 : placeAt Go.Proofs.Try.prog 19 0 = some (0, 1) := by kernel_rfl
theorem tk_20 : tk Go.Proofs.Try.prog 20 = some (false, 1) := by kernel_rfl
theorem zc_20 : zc Go.Proofs.Try.prog 20 = some [AV.raw Value.nilIface] := by kernel_rfl
theorem tk_21 : tk Go.Proofs.Try.prog 21 = some (false, 1) := by kernel_rfl
theorem zc_21 : zc Go.Proofs.Try.prog 21 = some [AV.d (D.int IntKind.i32 0)] := by kernel_rfl
theorem zv_21 : zv Go.Proofs.Try.prog 21 = some (false, [D.int IntKind.i32 0]) := by kernel_rfl
theorem under_21 : Go.Proofs.Try.prog.underlying 21 = some (TypeDesc.int IntKind.i32) := by kernel_rfl
theorem tk_22 : tk Go.Proofs.Try.prog 22 = some (false, 1) := by kernel_rfl
theorem it_22 : it Go.Proofs.Try.prog 22 = some (none, true, 4) := by kernel_rfl
theorem ei_22 : ei Go.Proofs.Try.prog 22 = some (4, 48) := by kernel_rfl
theorem srcT_22 : srcT Go.Proofs.Try.prog 22 = true := by kernel_rfl
theorem zc_22 : zc Go.Proofs.Try.prog 22 = some [AV.nil] := by kernel_rfl
theorem zd_22 : zd Go.Proofs.Try.prog 22 = some [D.str ByteArray.empty, D.int IntKind.i64 0, D.int IntKind.i64 0, D.str ByteArray.empty] := by kernel_rfl
theorem under_22 : Go.Proofs.Try.prog.underlying 22 = some (TypeDesc.slice 53) := by kernel_rfl
theorem tk_23 : tk Go.Proofs.Try.prog 23 = some (false, 1) := by kernel_rfl
theorem zc_23 : zc Go.Proofs.Try.prog 23 = some [AV.raw Value.nilFunc] := by kernel_rfl
theorem tk_24 : tk Go.Proofs.Try.prog 24 = some (false, 1) := by kernel_rfl
theorem zc_24 : zc Go.Proofs.Try.prog 24 = some [AV.d (D.int IntKind.i64 0)] := by kernel_rfl
theorem zv_24 : zv Go.Proofs.Try.prog 24 = some (false, [D.int IntKind.i64 0]) := by kernel_rfl
theorem under_24 : Go.Proofs.Try.prog.underlying 24 = some (TypeDesc.int IntKind.i64) := by kernel_rfl
theorem tk_25 : tk Go.Proofs.Try.prog 25 = some (false, 1) := by kernel_rfl
theorem tk_26 : tk Go.Proofs.Try.prog 26 = some (false, 1) := by kernel_rfl
theorem zc_26 : zc Go.Proofs.Try.prog 26 = some [AV.raw Value.nilFunc] := by kernel_rfl
theorem tk_27 : tk Go.Proofs.Try.prog 27 = some (false, 1) := by kernel_rfl
theorem tk_28 : tk Go.Proofs.Try.prog 28 = some (false, 1) := by kernel_rfl
theorem zc_28 : zc Go.Proofs.Try.prog 28 = some [AV.raw Value.nilFunc] := by kernel_rfl
theorem tk_29 : tk Go.Proofs.Try.prog 29 = some (false, 1) := by kernel_rfl
theorem it_29 : it Go.Proofs.Try.prog 29 = some (none, false, 1) := by kernel_rfl
theorem ei_29 : ei Go.Proofs.Try.prog 29 = some (1, 16) := by kernel_rfl
theorem srcT_29 : srcT Go.Proofs.Try.prog 29 = true := by kernel_rfl
theorem zc_29 : zc Go.Proofs.Try.prog 29 = some [AV.nil] := by kernel_rfl
theorem zd_29 : zd Go.Proofs.Try.prog 29 = some [D.str ByteArray.empty] := by kernel_rfl
theorem under_29 : Go.Proofs.Try.prog.underlying 29 = some (TypeDesc.slice 9) := by kernel_rfl
theorem tk_30 : tk Go.Proofs.Try.prog 30 = some (false, 1) := by kernel_rfl
theorem tk_31 : tk Go.Proofs.Try.prog 31 = some (false, 1) := by kernel_rfl
theorem zc_31 : zc Go.Proofs.Try.prog 31 = some [AV.raw Value.nilFunc] := by kernel_rfl
theorem tk_32 : tk Go.Proofs.Try.prog 32 = some (false, 1) := by kernel_rfl
theorem tk_33 : tk Go.Proofs.Try.prog 33 = some (false, 1) := by kernel_rfl
theorem zc_33 : zc Go.Proofs.Try.prog 33 = some [AV.raw Value.nilFunc] := by kernel_rfl
theorem tk_34 : tk Go.Proofs.Try.prog 34 = some (false, 1) := by kernel_rfl
theorem tk_35 : tk Go.Proofs.Try.prog 35 = some (false, 1) := by kernel_rfl
theorem zc_35 : zc Go.Proofs.Try.prog 35 = some [AV.raw Value.nilFunc] := by kernel_rfl
theorem tk_36 : tk Go.Proofs.Try.prog 36 = some (false, 1) := by kernel_rfl
theorem tk_37 : tk Go.Proofs.Try.prog 37 = some (false, 1) := by kernel_rfl
theorem zc_37 : zc Go.Proofs.Try.prog 37 = some [AV.raw Value.nilFunc] := by kernel_rfl
theorem tk_38 : tk Go.Proofs.Try.prog 38 = some (false, 1) := by kernel_rfl
theorem zc_38 : zc Go.Proofs.Try.prog 38 = some [AV.raw Value.nilFunc] := by kernel_rfl
theorem tk_39 : tk Go.Proofs.Try.prog 39 = some (false, 1) := by kernel_rfl
theorem zc_39 : zc Go.Proofs.Try.prog 39 = some [AV.raw Value.nilFunc] := by kernel_rfl
theorem tk_40 : tk Go.Proofs.Try.prog 40 = some (false, 1) := by kernel_rfl
theorem zc_40 : zc Go.Proofs.Try.prog 40 = some [AV.raw Value.nilFunc] := by kernel_rfl
theorem tk_41 : tk Go.Proofs.Try.prog 41 = some (false, 1) := by kernel_rfl
theorem zc_41 : zc Go.Proofs.Try.prog 41 = some [AV.raw Value.nilFunc] := by kernel_rfl
theorem tk_42 : tk Go.Proofs.Try.prog 42 = some (false, 1) := by kernel_rfl
theorem tk_43 : tk Go.Proofs.Try.prog 43 = some (false, 1) := by kernel_rfl
theorem zc_43 : zc Go.Proofs.Try.prog 43 = some [AV.raw Value.nilFunc] := by kernel_rfl
theorem tk_44 : tk Go.Proofs.Try.prog 44 = some (false, 1) := by kernel_rfl
theorem tk_45 : tk Go.Proofs.Try.prog 45 = some (false, 1) := by kernel_rfl
theorem zc_45 : zc Go.Proofs.Try.prog 45 = some [AV.raw Value.nilFunc] := by kernel_rfl
theorem tk_46 : tk Go.Proofs.Try.prog 46 = some (false, 1) := by kernel_rfl
theorem zc_46 : zc Go.Proofs.Try.prog 46 = some [AV.raw Value.nilFunc] := by kernel_rfl
theorem tk_47 : tk Go.Proofs.Try.prog 47 = some (false, 1) := by kernel_rfl
theorem zc_47 : zc Go.Proofs.Try.prog 47 = some [AV.raw Value.nilFunc] := by kernel_rfl
theorem tk_48 : tk Go.Proofs.Try.prog 48 = some (false, 1) := by kernel_rfl
theorem zc_48 : zc Go.Proofs.Try.prog 48 = some [AV.raw Value.nilFunc] := by kernel_rfl
theorem tk_49 : tk Go.Proofs.Try.prog 49 = some (false, 1) := by kernel_rfl
theorem zc_49 : zc Go.Proofs.Try.prog 49 = some [AV.raw Value.nilFunc] := by kernel_rfl
theorem tk_50 : tk Go.Proofs.Try.prog 50 = some (false, 1) := by kernel_rfl
theorem zc_50 : zc Go.Proofs.Try.prog 50 = some [AV.raw Value.nilFunc] := by kernel_rfl
theorem tk_51 : tk Go.Proofs.Try.prog 51 = some (false, 1) := by kernel_rfl
theorem zc_51 : zc Go.Proofs.Try.prog 51 = some [AV.raw Value.nilFunc] := by kernel_rfl
theorem tk_52 : tk Go.Proofs.Try.prog 52 = some (true, 4) := by kernel_rfl
theorem zc_52 : zc Go.Proofs.Try.prog 52 = some [AV.d (D.str ByteArray.empty), AV.d (D.int IntKind.i64 0), AV.d (D.int IntKind.i64 0), AV.d (D.str ByteArray.empty)] := by kernel_rfl
theorem zv_52 : zv Go.Proofs.Try.prog 52 = some (true, [D.str ByteArray.empty, D.int IntKind.i64 0, D.int IntKind.i64 0, D.str ByteArray.empty]) := by kernel_rfl
theorem partsOk_52 : partsOk Go.Proofs.Try.prog 52 = true := by kernel_rfl
theorem fo_52_0 : fo Go.Proofs.Try.prog 52 0 = some (0, false, 1) := by kernel_rfl
theorem placeAt_52_0 : placeAt Go.Proofs.Try.prog 52 0 = some (0, 1) := by kernel_rfl
theorem fo_52_1 : fo Go.Proofs.Try.prog 52 1 = some (1, false, 1) := by kernel_rfl
theorem placeAt_52_1 : placeAt Go.Proofs.Try.prog 52 1 = some (1, 1) := by kernel_rfl
theorem fo_52_2 : fo Go.Proofs.Try.prog 52 2 = some (2, false, 1) := by kernel_rfl
theorem placeAt_52_2 : placeAt Go.Proofs.Try.prog 52 2 = some (2, 1) := by kernel_rfl
theorem fo_52_3 : fo Go.Proofs.Try.prog 52 3 = some (3, false, 1) := by kernel_rfl
theorem placeAt_52_3 : placeAt Go.Proofs.Try.prog 52 3 = some (3, 1) := by kernel_rfl
theorem tk_53 : tk Go.Proofs.Try.prog 53 = some (true, 4) := by kernel_rfl
theorem zc_53 : zc Go.Proofs.Try.prog 53 = some [AV.d (D.str ByteArray.empty), AV.d (D.int IntKind.i64 0), AV.d (D.int IntKind.i64 0), AV.d (D.str ByteArray.empty)] := by kernel_rfl
theorem zv_53 : zv Go.Proofs.Try.prog 53 = some (true, [D.str ByteArray.empty, D.int IntKind.i64 0, D.int IntKind.i64 0, D.str ByteArray.empty]) := by kernel_rfl
theorem partsOk_53 : partsOk Go.Proofs.Try.prog 53 = true := by kernel_rfl
theorem fo_53_0 : fo Go.Proofs.Try.prog 53 0 = some (0, false, 1) := by kernel_rfl
theorem placeAt_53_0 : placeAt Go.Proofs.Try.prog 53 0 = some (0, 1) := by kernel_rfl
theorem fo_53_1 : fo Go.Proofs.Try.prog 53 1 = some (1, false, 1) := by kernel_rfl
theorem placeAt_53_1 : placeAt Go.Proofs.Try.prog 53 1 = some (1, 1) := by kernel_rfl
theorem fo_53_2 : fo Go.Proofs.Try.prog 53 2 = some (2, false, 1) := by kernel_rfl
theorem placeAt_53_2 : placeAt Go.Proofs.Try.prog 53 2 = some (2, 1) := by kernel_rfl
theorem fo_53_3 : fo Go.Proofs.Try.prog 53 3 = some (3, false, 1) := by kernel_rfl
theorem placeAt_53_3 : placeAt Go.Proofs.Try.prog 53 3 = some (3, 1) := by kernel_rfl
theorem tk_54 : tk Go.Proofs.Try.prog 54 = some (false, 1) := by kernel_rfl
theorem zc_54 : zc Go.Proofs.Try.prog 54 = some [AV.raw Value.nilFunc] := by kernel_rfl
theorem tk_55 : tk Go.Proofs.Try.prog 55 = some (false, 1) := by kernel_rfl
theorem zc_55 : zc Go.Proofs.Try.prog 55 = some [AV.raw Value.nilFunc] := by kernel_rfl
theorem tk_56 : tk Go.Proofs.Try.prog 56 = some (false, 1) := by kernel_rfl
theorem zc_56 : zc Go.Proofs.Try.prog 56 = some [AV.raw Value.nilFunc] := by kernel_rfl
theorem tk_57 : tk Go.Proofs.Try.prog 57 = some (false, 1) := by kernel_rfl
theorem it_57 : it Go.Proofs.Try.prog 57 = some (none, false, 1) := by kernel_rfl
theorem ei_57 : ei Go.Proofs.Try.prog 57 = some (1, 8) := by kernel_rfl
theorem srcT_57 : srcT Go.Proofs.Try.prog 57 = true := by kernel_rfl
theorem zc_57 : zc Go.Proofs.Try.prog 57 = some [AV.nil] := by kernel_rfl
theorem zd_57 : zd Go.Proofs.Try.prog 57 = some [D.int IntKind.i64 0] := by kernel_rfl
theorem under_57 : Go.Proofs.Try.prog.underlying 57 = some (TypeDesc.slice 3) := by kernel_rfl
theorem tk_58 : tk Go.Proofs.Try.prog 58 = some (false, 1) := by kernel_rfl
theorem zc_58 : zc Go.Proofs.Try.prog 58 = some [AV.raw Value.nilFunc] := by kernel_rfl
theorem tk_59 : tk Go.Proofs.Try.prog 59 = some (false, 1) := by kernel_rfl
theorem zc_59 : zc Go.Proofs.Try.prog 59 = some [AV.raw Value.nilFunc] := by kernel_rfl
theorem tk_60 : tk Go.Proofs.Try.prog 60 = some (false, 1) := by kernel_rfl
theorem tk_61 : tk Go.Proofs.Try.prog 61 = some (false, 1) := by kernel_rfl
theorem zc_61 : zc Go.Proofs.Try.prog 61 = some [AV.raw Value.nilFunc] := by kernel_rfl
theorem tk_62 : tk Go.Proofs.Try.prog 62 = some (false, 1) := by kernel_rfl
theorem zc_62 : zc Go.Proofs.Try.prog 62 = some [AV.raw Value.nilFunc] := by kernel_rfl
theorem tk_63 : tk Go.Proofs.Try.prog 63 = some (false, 1) := by kernel_rfl
theorem zc_63 : zc Go.Proofs.Try.prog 63 = some [AV.raw Value.nilFunc] := by kernel_rfl
theorem tk_64 : tk Go.Proofs.Try.prog 64 = some (false, 1) := by kernel_rfl
theorem zc_64 : zc Go.Proofs.Try.prog 64 = some [AV.raw Value.nilFunc] := by kernel_rfl
theorem tk_65 : tk Go.Proofs.Try.prog 65 = some (false, 1) := by kernel_rfl
theorem zc_65 : zc Go.Proofs.Try.prog 65 = some [AV.raw Value.nilFunc] := by kernel_rfl
theorem tk_66 : tk Go.Proofs.Try.prog 66 = some (false, 1) := by kernel_rfl
theorem zc_66 : zc Go.Proofs.Try.prog 66 = some [AV.raw Value.nilFunc] := by kernel_rfl
theorem tk_67 : tk Go.Proofs.Try.prog 67 = some (false, 1) := by kernel_rfl
theorem zc_67 : zc Go.Proofs.Try.prog 67 = some [AV.raw Value.nilFunc] := by kernel_rfl
theorem tk_68 : tk Go.Proofs.Try.prog 68 = some (false, 1) := by kernel_rfl
theorem zc_68 : zc Go.Proofs.Try.prog 68 = some [AV.raw Value.nilFunc] := by kernel_rfl
theorem tk_69 : tk Go.Proofs.Try.prog 69 = some (false, 1) := by kernel_rfl
theorem zc_69 : zc Go.Proofs.Try.prog 69 = some [AV.raw Value.nilFunc] := by kernel_rfl
theorem tk_70 : tk Go.Proofs.Try.prog 70 = some (false, 1) := by kernel_rfl
theorem tk_71 : tk Go.Proofs.Try.prog 71 = some (false, 1) := by kernel_rfl
theorem zc_71 : zc Go.Proofs.Try.prog 71 = some [AV.raw Value.nilFunc] := by kernel_rfl
theorem tk_72 : tk Go.Proofs.Try.prog 72 = some (false, 1) := by kernel_rfl
theorem zc_72 : zc Go.Proofs.Try.prog 72 = some [AV.raw Value.nilFunc] := by kernel_rfl
theorem tk_73 : tk Go.Proofs.Try.prog 73 = some (false, 1) := by kernel_rfl
theorem zc_73 : zc Go.Proofs.Try.prog 73 = some [AV.raw Value.nilFunc] := by kernel_rfl
theorem tk_74 : tk Go.Proofs.Try.prog 74 = some (false, 1) := by kernel_rfl
theorem zc_74 : zc Go.Proofs.Try.prog 74 = some [AV.raw Value.nilFunc] := by kernel_rfl
theorem tk_75 : tk Go.Proofs.Try.prog 75 = some (false, 1) := by kernel_rfl
theorem zc_75 : zc Go.Proofs.Try.prog 75 = some [AV.raw Value.nilFunc] := by kernel_rfl
theorem tk_76 : tk Go.Proofs.Try.prog 76 = some (true, 3) := by kernel_rfl
theorem zc_76 : zc Go.Proofs.Try.prog 76 = some [AV.d (D.str ByteArray.empty), AV.d (D.str ByteArray.empty), AV.d (D.int IntKind.i64 0)] := by kernel_rfl
theorem zv_76 : zv Go.Proofs.Try.prog 76 = some (true, [D.str ByteArray.empty, D.str ByteArray.empty, D.int IntKind.i64 0]) := by kernel_rfl
theorem partsOk_76 : partsOk Go.Proofs.Try.prog 76 = true := by kernel_rfl
theorem fo_76_0 : fo Go.Proofs.Try.prog 76 0 = some (0, false, 1) := by kernel_rfl
theorem placeAt_76_0 : placeAt Go.Proofs.Try.prog 76 0 = some (0, 1) := by kernel_rfl
theorem fo_76_1 : fo Go.Proofs.Try.prog 76 1 = some (1, false, 1) := by kernel_rfl
theorem placeAt_76_1 : placeAt Go.Proofs.Try.prog 76 1 = some (1, 1) := by kernel_rfl
theorem fo_76_2 : fo Go.Proofs.Try.prog 76 2 = some (2, false, 1) := by kernel_rfl
theorem placeAt_76_2 : placeAt Go.Proofs.Try.prog 76 2 = some (2, 1) := by kernel_rfl
theorem tk_77 : tk Go.Proofs.Try.prog 77 = some (true, 3) := by kernel_rfl
theorem zc_77 : zc Go.Proofs.Try.prog 77 = some [AV.d (D.str ByteArray.empty), AV.d (D.str ByteArray.empty), AV.d (D.int IntKind.i64 0)] := by kernel_rfl
theorem zv_77 : zv Go.Proofs.Try.prog 77 = some (true, [D.str ByteArray.empty, D.str ByteArray.empty, D.int IntKind.i64 0]) := by kernel_rfl
theorem partsOk_77 : partsOk Go.Proofs.Try.prog 77 = true := by kernel_rfl
theorem fo_77_0 : fo Go.Proofs.Try.prog 77 0 = some (0, false, 1) := by kernel_rfl
theorem placeAt_77_0 : placeAt Go.Proofs.Try.prog 77 0 = some (0, 1) := by kernel_rfl
theorem fo_77_1 : fo Go.Proofs.Try.prog 77 1 = some (1, false, 1) := by kernel_rfl
theorem placeAt_77_1 : placeAt Go.Proofs.Try.prog 77 1 = some (1, 1) := by kernel_rfl
theorem fo_77_2 : fo Go.Proofs.Try.prog 77 2 = some (2, false, 1) := by kernel_rfl
theorem placeAt_77_2 : placeAt Go.Proofs.Try.prog 77 2 = some (2, 1) := by kernel_rfl
theorem tk_78 : tk Go.Proofs.Try.prog 78 = some (false, 1) := by kernel_rfl
theorem it_78 : it Go.Proofs.Try.prog 78 = some (none, true, 3) := by kernel_rfl
theorem ei_78 : ei Go.Proofs.Try.prog 78 = some (3, 40) := by kernel_rfl
theorem srcT_78 : srcT Go.Proofs.Try.prog 78 = true := by kernel_rfl
theorem zc_78 : zc Go.Proofs.Try.prog 78 = some [AV.nil] := by kernel_rfl
theorem zd_78 : zd Go.Proofs.Try.prog 78 = some [D.str ByteArray.empty, D.str ByteArray.empty, D.int IntKind.i64 0] := by kernel_rfl
theorem under_78 : Go.Proofs.Try.prog.underlying 78 = some (TypeDesc.slice 77) := by kernel_rfl
theorem tk_79 : tk Go.Proofs.Try.prog 79 = some (false, 1) := by kernel_rfl
theorem zc_79 : zc Go.Proofs.Try.prog 79 = some [AV.raw Value.nilFunc] := by kernel_rfl
theorem tk_80 : tk Go.Proofs.Try.prog 80 = some (false, 1) := by kernel_rfl
theorem zc_80 : zc Go.Proofs.Try.prog 80 = some [AV.raw Value.nilFunc] := by kernel_rfl
theorem tk_81 : tk Go.Proofs.Try.prog 81 = some (false, 1) := by kernel_rfl
theorem zc_81 : zc Go.Proofs.Try.prog 81 = some [AV.d (D.int IntKind.u64 0)] := by kernel_rfl
theorem zv_81 : zv Go.Proofs.Try.prog 81 = some (false, [D.int IntKind.u64 0]) := by kernel_rfl
theorem under_81 : Go.Proofs.Try.prog.underlying 81 = some (TypeDesc.int IntKind.u64) := by kernel_rfl
theorem tk_82 : tk Go.Proofs.Try.prog 82 = some (false, 1) := by kernel_rfl
theorem zc_82 : zc Go.Proofs.Try.prog 82 = some [AV.raw Value.nilFunc] := by kernel_rfl
theorem tk_83 : tk Go.Proofs.Try.prog 83 = some (false, 1) := by kernel_rfl
theorem zc_83 : zc Go.Proofs.Try.prog 83 = some [AV.raw Value.nilFunc] := by kernel_rfl
theorem tk_84 : tk Go.Proofs.Try.prog 84 = some (false, 1) := by kernel_rfl
theorem zc_84 : zc Go.Proofs.Try.prog 84 = some [AV.raw Value.nilFunc] := by kernel_rfl
theorem tk_85 : tk Go.Proofs.Try.prog 85 = some (false, 1) := by kernel_rfl
theorem zc_85 : zc Go.Proofs.Try.prog 85 = some [AV.raw Value.nilFunc] := by kernel_rfl
theorem tk_86 : tk Go.Proofs.Try.prog 86 = some (false, 1) := by kernel_rfl
theorem zc_86 : zc Go.Proofs.Try.prog 86 = some [AV.raw Value.nilFunc] := by kernel_rfl
theorem tk_87 : tk Go.Proofs.Try.prog 87 = some (false, 1) := by kernel_rfl
theorem zc_87 : zc Go.Proofs.Try.prog 87 = some [AV.raw Value.nilFunc] := by kernel_rfl
theorem tk_88 : tk Go.Proofs.Try.prog 88 = some (false, 1) := by kernel_rfl
theorem zc_88 : zc Go.Proofs.Try.prog 88 = some [AV.raw Value.nilFunc] := by kernel_rfl
theorem tk_89 : tk Go.Proofs.Try.prog 89 = some (true, 4) := by kernel_rfl
theorem zc_89 : zc Go.Proofs.Try.prog 89 = some [AV.raw (Value.pointer none), AV.raw (Value.pointer none), AV.raw (Value.pointer none), AV.d (D.str ByteArray.empty)] := by kernel_rfl
theorem partsOk_89 : partsOk Go.Proofs.Try.prog 89 = true := by kernel_rfl
theorem fo_89_0 : fo Go.Proofs.Try.prog 89 0 = some (0, false, 1) := by kernel_rfl
theorem placeAt_89_0 : placeAt Go.Proofs.Try.prog 89 0 = some (0, 1) := by kernel_rfl
theorem fo_89_1 : fo Go.Proofs.Try.prog 89 1 = some (1, false, 1) := by kernel_rfl
theorem placeAt_89_1 : placeAt Go.Proofs.Try.prog 89 1 = some (1, 1) := by kernel_rfl
theorem fo_89_2 : fo Go.Proofs.Try.prog 89 2 = some (2, false, 1) := by kernel_rfl
theorem placeAt_89_2 : placeAt Go.Proofs.Try.prog 89 2 = some (2, 1) := by kernel_rfl
theorem fo_89_3 : fo Go.Proofs.Try.prog 89 3 = some (3, false, 1) := by kernel_rfl
theorem placeAt_89_3 : placeAt Go.Proofs.Try.prog 89 3 = some (3, 1) := by kernel_rfl
theorem tk_90 : tk Go.Proofs.Try.prog 90 = some (true, 4) := by kernel_rfl
theorem zc_90 : zc Go.Proofs.Try.prog 90 = some [AV.raw (Value.pointer none), AV.raw (Value.pointer none), AV.raw (Value.pointer none), AV.d (D.str ByteArray.empty)] := by kernel_rfl
theorem partsOk_90 : partsOk Go.Proofs.Try.prog 90 = true := by kernel_rfl
theorem fo_90_0 : fo Go.Proofs.Try.prog 90 0 = some (0, false, 1) := by kernel_rfl
theorem placeAt_90_0 : placeAt Go.Proofs.Try.prog 90 0 = some (0, 1) := by kernel_rfl
theorem fo_90_1 : fo Go.Proofs.Try.prog 90 1 = some (1, false, 1) := by kernel_rfl
theorem placeAt_90_1 : placeAt Go.Proofs.Try.prog 90 1 = some (1, 1) := by kernel_rfl
theorem fo_90_2 : fo Go.Proofs.Try.prog 90 2 = some (2, false, 1) := by kernel_rfl
theorem placeAt_90_2 : placeAt Go.Proofs.Try.prog 90 2 = some (2, 1) := by kernel_rfl
theorem fo_90_3 : fo Go.Proofs.Try.prog 90 3 = some (3, false, 1) := by kernel_rfl
theorem placeAt_90_3 : placeAt Go.Proofs.Try.prog 90 3 = some (3, 1) := by kernel_rfl
theorem tk_91 : tk Go.Proofs.Try.prog 91 = some (true, 0) := by kernel_rfl
theorem it_91 : it Go.Proofs.Try.prog 91 = some (some 0, false, 1) := by kernel_rfl
theorem zc_91 : zc Go.Proofs.Try.prog 91 = some [] := by kernel_rfl
theorem zv_91 : zv Go.Proofs.Try.prog 91 = some (true, []) := by kernel_rfl
theorem partsOk_91 : partsOk Go.Proofs.Try.prog 91 = true := by kernel_rfl
theorem under_91 : Go.Proofs.Try.prog.underlying 91 = some (TypeDesc.array 0 16) := by kernel_rfl
theorem placeAt_91_0 : placeAt Go.Proofs.Try.prog 91 0 = some (0, 1) := by kernel_rfl
theorem placeAt_91_1 : placeAt Go.Proofs.Try.prog 91 1 = some (1, 1) := by kernel_rfl
theorem placeAt_91_2 : placeAt Go.Proofs.Try.prog 91 2 = some (2, 1) := by kernel_rfl
theorem placeAt_91_3 : placeAt Go.Proofs.Try.prog 91 3 = some (3, 1) := by kernel_rfl
theorem placeAt_91_4 : placeAt Go.Proofs.Try.prog 91 4 = some (4, 1) := by kernel_rfl
theorem placeAt_91_5 : placeAt Go.Proofs.Try.prog 91 5 = some (5, 1) := by kernel_rfl
theorem placeAt_91_6 : placeAt Go.Proofs.Try.prog 91 6 = some (6, 1) := by kernel_rfl
theorem placeAt_91_7 : placeAt Go.Proofs.Try.prog 91 7 = some (7, 1) := by kernel_rfl
theorem placeAt_91_8 : placeAt Go.Proofs.Try.prog 91 8 = some (8, 1) := by kernel_rfl
theorem placeAt_91_9 : placeAt Go.Proofs.Try.prog 91 9 = some (9, 1) := by kernel_rfl
theorem placeAt_91_10 : placeAt Go.Proofs.Try.prog 91 10 = some (10, 1) := by kernel_rfl
theorem placeAt_91_11 : placeAt Go.Proofs.Try.prog 91 11 = some (11, 1) := by kernel_rfl
theorem placeAt_91_12 : placeAt Go.Proofs.Try.prog 91 12 = some (12, 1) := by kernel_rfl
theorem placeAt_91_13 : placeAt Go.Proofs.Try.prog 91 13 = some (13, 1) := by kernel_rfl
theorem tk_92 : tk Go.Proofs.Try.prog 92 = some (true, 0) := by kernel_rfl
theorem zc_92 : zc Go.Proofs.Try.prog 92 = some [] := by kernel_rfl
theorem zv_92 : zv Go.Proofs.Try.prog 92 = some (true, []) := by kernel_rfl
theorem partsOk_92 : partsOk Go.Proofs.Try.prog 92 = true := by kernel_rfl
theorem fo_92_0 : fo Go.Proofs.Try.prog 92 0 = some (0, true, 0) := by kernel_rfl
theorem placeAt_92_0 : placeAt Go.Proofs.Try.prog 92 0 = some (0, 0) := by kernel_rfl
theorem tk_93 : tk Go.Proofs.Try.prog 93 = some (true, 0) := by kernel_rfl
theorem zc_93 : zc Go.Proofs.Try.prog 93 = some [] := by kernel_rfl
theorem zv_93 : zv Go.Proofs.Try.prog 93 = some (true, []) := by kernel_rfl
theorem partsOk_93 : partsOk Go.Proofs.Try.prog 93 = true := by kernel_rfl
theorem fo_93_0 : fo Go.Proofs.Try.prog 93 0 = some (0, true, 0) := by kernel_rfl
theorem placeAt_93_0 : placeAt Go.Proofs.Try.prog 93 0 = some (0, 0) := by kernel_rfl
theorem tk_94 : tk Go.Proofs.Try.prog 94 = some (false, 1) := by kernel_rfl
theorem zc_94 : zc Go.Proofs.Try.prog 94 = some [AV.raw Value.nilFunc] := by kernel_rfl
theorem tk_95 : tk Go.Proofs.Try.prog 95 = some (false, 1) := by kernel_rfl
theorem zc_95 : zc Go.Proofs.Try.prog 95 = some [AV.d (D.int IntKind.u32 0)] := by kernel_rfl
theorem zv_95 : zv Go.Proofs.Try.prog 95 = some (false, [D.int IntKind.u32 0]) := by kernel_rfl
theorem under_95 : Go.Proofs.Try.prog.underlying 95 = some (TypeDesc.int IntKind.u32) := by kernel_rfl
theorem tk_96 : tk Go.Proofs.Try.prog 96 = some (false, 1) := by kernel_rfl
theorem zc_96 : zc Go.Proofs.Try.prog 96 = some [AV.d (D.int IntKind.u8 0)] := by kernel_rfl
theorem zv_96 : zv Go.Proofs.Try.prog 96 = some (false, [D.int IntKind.u8 0]) := by kernel_rfl
theorem under_96 : Go.Proofs.Try.prog.underlying 96 = some (TypeDesc.int IntKind.u8) := by kernel_rfl
theorem tk_97 : tk Go.Proofs.Try.prog 97 = some (false, 1) := by kernel_rfl
theorem zc_97 : zc Go.Proofs.Try.prog 97 = some [AV.d (D.int IntKind.u8 0)] := by kernel_rfl
theorem zv_97 : zv Go.Proofs.Try.prog 97 = some (false, [D.int IntKind.u8 0]) := by kernel_rfl
theorem under_97 : Go.Proofs.Try.prog.underlying 97 = some (TypeDesc.int IntKind.u8) := by kernel_rfl
theorem tk_98 : tk Go.Proofs.Try.prog 98 = some (false, 1) := by kernel_rfl
theorem zc_98 : zc Go.Proofs.Try.prog 98 = some [AV.raw Value.nilFunc] := by kernel_rfl
theorem tk_99 : tk Go.Proofs.Try.prog 99 = some (false, 1) := by kernel_rfl
theorem zc_99 : zc Go.Proofs.Try.prog 99 = some [AV.raw (Value.pointer none)] := by kernel_rfl
theorem tk_100 : tk Go.Proofs.Try.prog 100 = some (false, 1) := by kernel_rfl
theorem zc_100 : zc Go.Proofs.Try.prog 100 = some [AV.d (D.int IntKind.i32 0)] := by kernel_rfl
theorem zv_100 : zv Go.Proofs.Try.prog 100 = some (false, [D.int IntKind.i32 0]) := by kernel_rfl
theorem under_100 : Go.Proofs.Try.prog.underlying 100 = some (TypeDesc.int IntKind.i32) := by kernel_rfl
theorem tk_101 : tk Go.Proofs.Try.prog 101 = some (false, 1) := by kernel_rfl
theorem zc_101 : zc Go.Proofs.Try.prog 101 = some [AV.d (D.int IntKind.i32 0)] := by kernel_rfl
theorem zv_101 : zv Go.Proofs.Try.prog 101 = some (false, [D.int IntKind.i32 0]) := by kernel_rfl
theorem under_101 : Go.Proofs.Try.prog.underlying 101 = some (TypeDesc.int IntKind.i32) := by kernel_rfl
theorem tk_102 : tk Go.Proofs.Try.prog 102 = some (true, 11) := by kernel_rfl
theorem zc_102 : zc Go.Proofs.Try.prog 102 = some [AV.d (D.int IntKind.u64 0), AV.d (D.int IntKind.u64 0), AV.d (D.int IntKind.u32 0), AV.d (D.int IntKind.u8 0), AV.d (D.int IntKind.u8 0), AV.d (D.int IntKind.u8 0), AV.d (D.int IntKind.u8 0), AV.raw Value.nilFunc, AV.raw (Value.pointer none), AV.d (D.int IntKind.i32 0), AV.d (D.int IntKind.i32 0)] := by kernel_rfl
theorem partsOk_102 : partsOk Go.Proofs.Try.prog 102 = true := by kernel_rfl
theorem fo_102_0 : fo Go.Proofs.Try.prog 102 0 = some (0, false, 1) := by kernel_rfl
theorem placeAt_102_0 : placeAt Go.Proofs.Try.prog 102 0 = some (0, 1) := by kernel_rfl
theorem fo_102_1 : fo Go.Proofs.Try.prog 102 1 = some (1, false, 1) := by kernel_rfl
theorem placeAt_102_1 : placeAt Go.Proofs.Try.prog 102 1 = some (1, 1) := by kernel_rfl
theorem fo_102_2 : fo Go.Proofs.Try.prog 102 2 = some (2, false, 1) := by kernel_rfl
theorem placeAt_102_2 : placeAt Go.Proofs.Try.prog 102 2 = some (2, 1) := by kernel_rfl
theorem fo_102_3 : fo Go.Proofs.Try.prog 102 3 = some (3, false, 1) := by kernel_rfl
theorem placeAt_102_3 : placeAt Go.Proofs.Try.prog 102 3 = some (3, 1) := by kernel_rfl
theorem fo_102_4 : fo Go.Proofs.Try.prog 102 4 = some (4, false, 1) := by kernel_rfl
theorem placeAt_102_4 : placeAt Go.Proofs.Try.prog 102 4 = some (4, 1) := by kernel_rfl
theorem fo_102_5 : fo Go.Proofs.Try.prog 102 5 = some (5, false, 1) := by kernel_rfl
theorem placeAt_102_5 : placeAt Go.Proofs.Try.prog 102 5 = some (5, 1) := by kernel_rfl
theorem fo_102_6 : fo Go.Proofs.Try.prog 102 6 = some (6, false, 1) := by kernel_rfl
theorem placeAt_102_6 : placeAt Go.Proofs.Try.prog 102 6 = some (6, 1) := by kernel_rfl
theorem fo_102_7 : fo Go.Proofs.Try.prog 102 7 = some (7, false, 1) := by kernel_rfl
theorem placeAt_102_7 : placeAt Go.Proofs.Try.prog 102 7 = some (7, 1) := by kernel_rfl
theorem fo_102_8 : fo Go.Proofs.Try.prog 102 8 = some (8, false, 1) := by kernel_rfl
theorem placeAt_102_8 : placeAt Go.Proofs.Try.prog 102 8 = some (8, 1) := by kernel_rfl
theorem fo_102_9 : fo Go.Proofs.Try.prog 102 9 = some (9, false, 1) := by kernel_rfl
theorem placeAt_102_9 : placeAt Go.Proofs.Try.prog 102 9 = some (9, 1) := by kernel_rfl
theorem fo_102_10 : fo Go.Proofs.Try.prog 102 10 = some (10, false, 1) := by kernel_rfl
theorem placeAt_102_10 : placeAt Go.Proofs.Try.prog 102 10 = some (10, 1) := by kernel_rfl
theorem tk_103 : tk Go.Proofs.Try.prog 103 = some (true, 11) := by kernel_rfl
theorem zc_103 : zc Go.Proofs.Try.prog 103 = some [AV.d (D.int IntKind.u64 0), AV.d (D.int IntKind.u64 0), AV.d (D.int IntKind.u32 0), AV.d (D.int IntKind.u8 0), AV.d (D.int IntKind.u8 0), AV.d (D.int IntKind.u8 0), AV.d (D.int IntKind.u8 0), AV.raw Value.nilFunc, AV.raw (Value.pointer none), AV.d (D.int IntKind.i32 0), AV.d (D.int IntKind.i32 0)] := by kernel_rfl
theorem partsOk_103 : partsOk Go.Proofs.Try.prog 103 = true := by kernel_rfl
theorem fo_103_0 : fo Go.Proofs.Try.prog 103 0 = some (0, false, 1) := by kernel_rfl
theorem placeAt_103_0 : placeAt Go.Proofs.Try.prog 103 0 = some (0, 1) := by kernel_rfl
theorem fo_103_1 : fo Go.Proofs.Try.prog 103 1 = some (1, false, 1) := by kernel_rfl
theorem placeAt_103_1 : placeAt Go.Proofs.Try.prog 103 1 = some (1, 1) := by kernel_rfl
theorem fo_103_2 : fo Go.Proofs.Try.prog 103 2 = some (2, false, 1) := by kernel_rfl
theorem placeAt_103_2 : placeAt Go.Proofs.Try.prog 103 2 = some (2, 1) := by kernel_rfl
theorem fo_103_3 : fo Go.Proofs.Try.prog 103 3 = some (3, false, 1) := by kernel_rfl
theorem placeAt_103_3 : placeAt Go.Proofs.Try.prog 103 3 = some (3, 1) := by kernel_rfl
theorem fo_103_4 : fo Go.Proofs.Try.prog 103 4 = some (4, false, 1) := by kernel_rfl
theorem placeAt_103_4 : placeAt Go.Proofs.Try.prog 103 4 = some (4, 1) := by kernel_rfl
theorem fo_103_5 : fo Go.Proofs.Try.prog 103 5 = some (5, false, 1) := by kernel_rfl
theorem placeAt_103_5 : placeAt Go.Proofs.Try.prog 103 5 = some (5, 1) := by kernel_rfl
theorem fo_103_6 : fo Go.Proofs.Try.prog 103 6 = some (6, false, 1) := by kernel_rfl
theorem placeAt_103_6 : placeAt Go.Proofs.Try.prog 103 6 = some (6, 1) := by kernel_rfl
theorem fo_103_7 : fo Go.Proofs.Try.prog 103 7 = some (7, false, 1) := by kernel_rfl
theorem placeAt_103_7 : placeAt Go.Proofs.Try.prog 103 7 = some (7, 1) := by kernel_rfl
theorem fo_103_8 : fo Go.Proofs.Try.prog 103 8 = some (8, false, 1) := by kernel_rfl
theorem placeAt_103_8 : placeAt Go.Proofs.Try.prog 103 8 = some (8, 1) := by kernel_rfl
theorem fo_103_9 : fo Go.Proofs.Try.prog 103 9 = some (9, false, 1) := by kernel_rfl
theorem placeAt_103_9 : placeAt Go.Proofs.Try.prog 103 9 = some (9, 1) := by kernel_rfl
theorem fo_103_10 : fo Go.Proofs.Try.prog 103 10 = some (10, false, 1) := by kernel_rfl
theorem placeAt_103_10 : placeAt Go.Proofs.Try.prog 103 10 = some (10, 1) := by kernel_rfl
theorem tk_104 : tk Go.Proofs.Try.prog 104 = some (false, 1) := by kernel_rfl
theorem zc_104 : zc Go.Proofs.Try.prog 104 = some [AV.raw (Value.pointer none)] := by kernel_rfl
theorem mixed : Go.Proofs.Try.prog.follows .mixedOrders = true := by kernel_rfl
theorem fk_2 : flatK Go.Proofs.Try.prog 6 2 = some ([DK.int IntKind.i64]) := by kernel_rfl
theorem keyT_2 : KeyT Go.Proofs.Try.prog 2 false ([DK.int IntKind.i64]) := keyT_flat fk_2 (by decide) tk_2
theorem fk_3 : flatK Go.Proofs.Try.prog 6 3 = some ([DK.int IntKind.i64]) := by kernel_rfl
theorem keyT_3 : KeyT Go.Proofs.Try.prog 3 false ([DK.int IntKind.i64]) := keyT_flat fk_3 (by decide) tk_3
theorem fk_4 : flatK Go.Proofs.Try.prog 6 4 = some ([DK.bool]) := by kernel_rfl
theorem keyT_4 : KeyT Go.Proofs.Try.prog 4 false ([DK.bool]) := keyT_flat fk_4 (by decide) tk_4
theorem fk_5 : flatK Go.Proofs.Try.prog 6 5 = some ([DK.int IntKind.u8]) := by kernel_rfl
theorem keyT_5 : KeyT Go.Proofs.Try.prog 5 false ([DK.int IntKind.u8]) := keyT_flat fk_5 (by decide) tk_5
theorem fk_6 : flatK Go.Proofs.Try.prog 6 6 = some ([DK.int IntKind.u8]) := by kernel_rfl
theorem keyT_6 : KeyT Go.Proofs.Try.prog 6 false ([DK.int IntKind.u8]) := keyT_flat fk_6 (by decide) tk_6
theorem fk_7 : flatK Go.Proofs.Try.prog 6 7 = some ([DK.int IntKind.i64, DK.int IntKind.i64, DK.bool, DK.int IntKind.u8]) := by kernel_rfl
theorem keyT_7 : KeyT Go.Proofs.Try.prog 7 true ([DK.int IntKind.i64, DK.int IntKind.i64, DK.bool, DK.int IntKind.u8]) := keyT_flat fk_7 (by decide) tk_7
theorem eqT_7 : EqT Go.Proofs.Try.prog 7 ([DK.int IntKind.i64, DK.int IntKind.i64, DK.bool, DK.int IntKind.u8]) := eqT_flat fk_7 (by decide) tk_7 (by kernel_rfl)
theorem eqN_7 : (∃ ks, EqT Go.Proofs.Try.prog 7 ks ∧ [some (DK.int IntKind.i64), some (DK.int IntKind.i64), some (DK.bool), some (DK.int IntKind.u8)] = List.map some ks ∧ [some (DK.int IntKind.i64), some (DK.int IntKind.i64), some (DK.bool), some (DK.int IntKind.u8)] = List.map some ks) = True := eq_true ⟨_, eqT_7, rfl, rfl⟩
theorem fk_8 : flatK Go.Proofs.Try.prog 6 8 = some ([DK.int IntKind.i64, DK.int IntKind.i64, DK.bool, DK.int IntKind.u8]) := by kernel_rfl
theorem keyT_8 : KeyT Go.Proofs.Try.prog 8 true ([DK.int IntKind.i64, DK.int IntKind.i64, DK.bool, DK.int IntKind.u8]) := keyT_flat fk_8 (by decide) tk_8
theorem eqT_8 : EqT Go.Proofs.Try.prog 8 ([DK.int IntKind.i64, DK.int IntKind.i64, DK.bool, DK.int IntKind.u8]) := eqT_flat fk_8 (by decide) tk_8 (by kernel_rfl)
theorem eqN_8 : (∃ ks, EqT Go.Proofs.Try.prog 8 ks ∧ [some (DK.int IntKind.i64), some (DK.int IntKind.i64), some (DK.bool), some (DK.int IntKind.u8)] = List.map some ks ∧ [some (DK.int IntKind.i64), some (DK.int IntKind.i64), some (DK.bool), some (DK.int IntKind.u8)] = List.map some ks) = True := eq_true ⟨_, eqT_8, rfl, rfl⟩
theorem fk_9 : flatK Go.Proofs.Try.prog 6 9 = some ([DK.str]) := by kernel_rfl
theorem keyT_9 : KeyT Go.Proofs.Try.prog 9 false ([DK.str]) := keyT_flat fk_9 (by decide) tk_9
theorem fk_10 : flatK Go.Proofs.Try.prog 6 10 = some ([DK.str]) := by kernel_rfl
theorem keyT_10 : KeyT Go.Proofs.Try.prog 10 false ([DK.str]) := keyT_flat fk_10 (by decide) tk_10
theorem fk_11 : flatK Go.Proofs.Try.prog 6 11 = some ([DK.str]) := by kernel_rfl
theorem keyT_11 : KeyT Go.Proofs.Try.prog 11 false ([DK.str]) := keyT_flat fk_11 (by decide) tk_11
theorem fk_12 : flatK Go.Proofs.Try.prog 6 12 = some ([DK.int IntKind.u64]) := by kernel_rfl
theorem keyT_12 : KeyT Go.Proofs.Try.prog 12 false ([DK.int IntKind.u64]) := keyT_flat fk_12 (by decide) tk_12
theorem fk_21 : flatK Go.Proofs.Try.prog 6 21 = some ([DK.int IntKind.i32]) := by kernel_rfl
theorem keyT_21 : KeyT Go.Proofs.Try.prog 21 false ([DK.int IntKind.i32]) := keyT_flat fk_21 (by decide) tk_21
theorem fk_24 : flatK Go.Proofs.Try.prog 6 24 = some ([DK.int IntKind.i64]) := by kernel_rfl
theorem keyT_24 : KeyT Go.Proofs.Try.prog 24 false ([DK.int IntKind.i64]) := keyT_flat fk_24 (by decide) tk_24
theorem fk_52 : flatK Go.Proofs.Try.prog 6 52 = some ([DK.str, DK.int IntKind.i64, DK.int IntKind.i64, DK.str]) := by kernel_rfl
theorem keyT_52 : KeyT Go.Proofs.Try.prog 52 true ([DK.str, DK.int IntKind.i64, DK.int IntKind.i64, DK.str]) := keyT_flat fk_52 (by decide) tk_52
theorem eqT_52 : EqT Go.Proofs.Try.prog 52 ([DK.str, DK.int IntKind.i64, DK.int IntKind.i64, DK.str]) := eqT_flat fk_52 (by decide) tk_52 (by kernel_rfl)
theorem eqN_52 : (∃ ks, EqT Go.Proofs.Try.prog 52 ks ∧ [some (DK.str), some (DK.int IntKind.i64), some (DK.int IntKind.i64), some (DK.str)] = List.map some ks ∧ [some (DK.str), some (DK.int IntKind.i64), some (DK.int IntKind.i64), some (DK.str)] = List.map some ks) = True := eq_true ⟨_, eqT_52, rfl, rfl⟩
theorem fk_53 : flatK Go.Proofs.Try.prog 6 53 = some ([DK.str, DK.int IntKind.i64, DK.int IntKind.i64, DK.str]) := by kernel_rfl
theorem keyT_53 : KeyT Go.Proofs.Try.prog 53 true ([DK.str, DK.int IntKind.i64, DK.int IntKind.i64, DK.str]) := keyT_flat fk_53 (by decide) tk_53
theorem eqT_53 : EqT Go.Proofs.Try.prog 53 ([DK.str, DK.int IntKind.i64, DK.int IntKind.i64, DK.str]) := eqT_flat fk_53 (by decide) tk_53 (by kernel_rfl)
theorem eqN_53 : (∃ ks, EqT Go.Proofs.Try.prog 53 ks ∧ [some (DK.str), some (DK.int IntKind.i64), some (DK.int IntKind.i64), some (DK.str)] = List.map some ks ∧ [some (DK.str), some (DK.int IntKind.i64), some (DK.int IntKind.i64), some (DK.str)] = List.map some ks) = True := eq_true ⟨_, eqT_53, rfl, rfl⟩
theorem fk_76 : flatK Go.Proofs.Try.prog 6 76 = some ([DK.str, DK.str, DK.int IntKind.i64]) := by kernel_rfl
theorem keyT_76 : KeyT Go.Proofs.Try.prog 76 true ([DK.str, DK.str, DK.int IntKind.i64]) := keyT_flat fk_76 (by decide) tk_76
theorem eqT_76 : EqT Go.Proofs.Try.prog 76 ([DK.str, DK.str, DK.int IntKind.i64]) := eqT_flat fk_76 (by decide) tk_76 (by kernel_rfl)
theorem eqN_76 : (∃ ks, EqT Go.Proofs.Try.prog 76 ks ∧ [some (DK.str), some (DK.str), some (DK.int IntKind.i64)] = List.map some ks ∧ [some (DK.str), some (DK.str), some (DK.int IntKind.i64)] = List.map some ks) = True := eq_true ⟨_, eqT_76, rfl, rfl⟩
theorem fk_77 : flatK Go.Proofs.Try.prog 6 77 = some ([DK.str, DK.str, DK.int IntKind.i64]) := by kernel_rfl
theorem keyT_77 : KeyT Go.Proofs.Try.prog 77 true ([DK.str, DK.str, DK.int IntKind.i64]) := keyT_flat fk_77 (by decide) tk_77
theorem eqT_77 : EqT Go.Proofs.Try.prog 77 ([DK.str, DK.str, DK.int IntKind.i64]) := eqT_flat fk_77 (by decide) tk_77 (by kernel_rfl)
theorem eqN_77 : (∃ ks, EqT Go.Proofs.Try.prog 77 ks ∧ [some (DK.str), some (DK.str), some (DK.int IntKind.i64)] = List.map some ks ∧ [some (DK.str), some (DK.str), some (DK.int IntKind.i64)] = List.map some ks) = True := eq_true ⟨_, eqT_77, rfl, rfl⟩
theorem fk_81 : flatK Go.Proofs.Try.prog 6 81 = some ([DK.int IntKind.u64]) := by kernel_rfl
theorem keyT_81 : KeyT Go.Proofs.Try.prog 81 false ([DK.int IntKind.u64]) := keyT_flat fk_81 (by decide) tk_81
theorem fk_95 : flatK Go.Proofs.Try.prog 6 95 = some ([DK.int IntKind.u32]) := by kernel_rfl
theorem keyT_95 : KeyT Go.Proofs.Try.prog 95 false ([DK.int IntKind.u32]) := keyT_flat fk_95 (by decide) tk_95
theorem fk_96 : flatK Go.Proofs.Try.prog 6 96 = some ([DK.int IntKind.u8]) := by kernel_rfl
theorem keyT_96 : KeyT Go.Proofs.Try.prog 96 false ([DK.int IntKind.u8]) := keyT_flat fk_96 (by decide) tk_96
theorem fk_97 : flatK Go.Proofs.Try.prog 6 97 = some ([DK.int IntKind.u8]) := by kernel_rfl
theorem keyT_97 : KeyT Go.Proofs.Try.prog 97 false ([DK.int IntKind.u8]) := keyT_flat fk_97 (by decide) tk_97
theorem fk_100 : flatK Go.Proofs.Try.prog 6 100 = some ([DK.int IntKind.i32]) := by kernel_rfl
theorem keyT_100 : KeyT Go.Proofs.Try.prog 100 false ([DK.int IntKind.i32]) := keyT_flat fk_100 (by decide) tk_100
theorem fk_101 : flatK Go.Proofs.Try.prog 6 101 = some ([DK.int IntKind.i32]) := by kernel_rfl
theorem keyT_101 : KeyT Go.Proofs.Try.prog 101 false ([DK.int IntKind.i32]) := keyT_flat fk_101 (by decide) tk_101
attribute [go_sem] tk_0 tk_1 zc_1 tk_2 zc_2 zv_2 under_2 tk_3 zc_3 zv_3 under_3 tk_4 zc_4 zv_4 under_4 tk_5 zc_5 zv_5 under_5 tk_6 zc_6 zv_6 under_6 tk_7 zc_7 zv_7 partsOk_7 fo_7_0 placeAt_7_0 fo_7_1 placeAt_7_1 fo_7_2 placeAt_7_2 fo_7_3 placeAt_7_3 tk_8 zc_8 zv_8 partsOk_8 fo_8_0 placeAt_8_0 fo_8_1 placeAt_8_1 fo_8_2 placeAt_8_2 fo_8_3 placeAt_8_3 tk_9 srcT_9 zc_9 zv_9 under_9 tk_10 srcT_10 zc_10 zv_10 under_10 tk_11 srcT_11 zc_11 zv_11 under_11 tk_12 zc_12 zv_12 under_12 tk_13 zc_13 zv_13 partsOk_13 fo_13_0 placeAt_13_0 fo_13_1 placeAt_13_1 tk_14 zc_14 zv_14 partsOk_14 fo_14_0 placeAt_14_0 fo_14_1 placeAt_14_1 tk_15 zc_15 tk_16 zc_16 tk_17 zc_17 tk_18 zc_18 partsOk_18 fo_18_0 placeAt_18_0 tk_19 zc_19 partsOk_19 fo_19_0 placeAt_19_0 tk_20 zc_20 tk_21 zc_21 zv_21 under_21 tk_22 it_22 ei_22 srcT_22 zc_22 zd_22 under_22 tk_23 zc_23 tk_24 zc_24 zv_24 under_24 tk_25 tk_26 zc_26 tk_27 tk_28 zc_28 tk_29 it_29 ei_29 srcT_29 zc_29 zd_29 under_29 tk_30 tk_31 zc_31 tk_32 tk_33 zc_33 tk_34 tk_35 zc_35 tk_36 tk_37 zc_37 tk_38 zc_38 tk_39 zc_39 tk_40 zc_40 tk_41 zc_41 tk_42 tk_43 zc_43 tk_44 tk_45 zc_45 tk_46 zc_46 tk_47 zc_47 tk_48 zc_48 tk_49 zc_49 tk_50 zc_50 tk_51 zc_51 tk_52 zc_52 zv_52 partsOk_52 fo_52_0 placeAt_52_0 fo_52_1 placeAt_52_1 fo_52_2 placeAt_52_2 fo_52_3 placeAt_52_3 tk_53 zc_53 zv_53 partsOk_53 fo_53_0 placeAt_53_0 fo_53_1 placeAt_53_1 fo_53_2 placeAt_53_2 fo_53_3 placeAt_53_3 tk_54 zc_54 tk_55 zc_55 tk_56 zc_56 tk_57 it_57 ei_57 srcT_57 zc_57 zd_57 under_57 tk_58 zc_58 tk_59 zc_59 tk_60 tk_61 zc_61 tk_62 zc_62 tk_63 zc_63 tk_64 zc_64 tk_65 zc_65 tk_66 zc_66 tk_67 zc_67 tk_68 zc_68 tk_69 zc_69 tk_70 tk_71 zc_71 tk_72 zc_72 tk_73 zc_73 tk_74 zc_74 tk_75 zc_75 tk_76 zc_76 zv_76 partsOk_76 fo_76_0 placeAt_76_0 fo_76_1 placeAt_76_1 fo_76_2 placeAt_76_2 tk_77 zc_77 zv_77 partsOk_77 fo_77_0 placeAt_77_0 fo_77_1 placeAt_77_1 fo_77_2 placeAt_77_2 tk_78 it_78 ei_78 srcT_78 zc_78 zd_78 under_78 tk_79 zc_79 tk_80 zc_80 tk_81 zc_81 zv_81 under_81 tk_82 zc_82 tk_83 zc_83 tk_84 zc_84 tk_85 zc_85 tk_86 zc_86 tk_87 zc_87 tk_88 zc_88 tk_89 zc_89 partsOk_89 fo_89_0 placeAt_89_0 fo_89_1 placeAt_89_1 fo_89_2 placeAt_89_2 fo_89_3 placeAt_89_3 tk_90 zc_90 partsOk_90 fo_90_0 placeAt_90_0 fo_90_1 placeAt_90_1 fo_90_2 placeAt_90_2 fo_90_3 placeAt_90_3 tk_91 it_91 zc_91 zv_91 partsOk_91 under_91 placeAt_91_0 placeAt_91_1 placeAt_91_2 placeAt_91_3 placeAt_91_4 placeAt_91_5 placeAt_91_6 placeAt_91_7 placeAt_91_8 placeAt_91_9 placeAt_91_10 placeAt_91_11 placeAt_91_12 placeAt_91_13 tk_92 zc_92 zv_92 partsOk_92 fo_92_0 placeAt_92_0 tk_93 zc_93 zv_93 partsOk_93 fo_93_0 placeAt_93_0 tk_94 zc_94 tk_95 zc_95 zv_95 under_95 tk_96 zc_96 zv_96 under_96 tk_97 zc_97 zv_97 under_97 tk_98 zc_98 tk_99 zc_99 tk_100 zc_100 zv_100 under_100 tk_101 zc_101 zv_101 under_101 tk_102 zc_102 partsOk_102 fo_102_0 placeAt_102_0 fo_102_1 placeAt_102_1 fo_102_2 placeAt_102_2 fo_102_3 placeAt_102_3 fo_102_4 placeAt_102_4 fo_102_5 placeAt_102_5 fo_102_6 placeAt_102_6 fo_102_7 placeAt_102_7 fo_102_8 placeAt_102_8 fo_102_9 placeAt_102_9 fo_102_10 placeAt_102_10 tk_103 zc_103 partsOk_103 fo_103_0 placeAt_103_0 fo_103_1 placeAt_103_1 fo_103_2 placeAt_103_2 fo_103_3 placeAt_103_3 fo_103_4 placeAt_103_4 fo_103_5 placeAt_103_5 fo_103_6 placeAt_103_6 fo_103_7 placeAt_103_7 fo_103_8 placeAt_103_8 fo_103_9 placeAt_103_9 fo_103_10 placeAt_103_10 tk_104 zc_104 mixed eqN_7 eqN_8 eqN_52 eqN_53 eqN_76 eqN_77
end Go.AX.Ty
