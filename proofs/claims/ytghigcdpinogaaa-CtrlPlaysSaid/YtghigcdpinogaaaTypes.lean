/- Facts of this seat's types, each asked of the kernel. -/
import Derived.Test.YtghigcdpinogaaaProg
import Derived.Test.YtghigcdpinogaaaAbC
import Derived.KernelRfl
set_option linter.all false
namespace Go.Proofs.Ytghigcdpinogaaa.Ty
open Go Go.Ab
theorem agg0 : aggT Try.prog 0 = some false := by kernel_rfl
theorem siz0 : sizT Try.prog 0 = some 1 := by kernel_rfl
theorem byt0 : bytT Try.prog 0 = some 0 := by kernel_rfl
theorem elem0 : elemT Try.prog 0 = none := by kernel_rfl
theorem arr0 : arrT Try.prog 0 = none := by kernel_rfl
theorem int0 : intT Try.prog 0 = none := by kernel_rfl
theorem str0 : strT Try.prog 0 = false := by kernel_rfl
theorem agg1 : aggT Try.prog 1 = some false := by kernel_rfl
theorem siz1 : sizT Try.prog 1 = some 1 := by kernel_rfl
theorem byt1 : bytT Try.prog 1 = some 8 := by kernel_rfl
theorem elem1 : elemT Try.prog 1 = none := by kernel_rfl
theorem arr1 : arrT Try.prog 1 = none := by kernel_rfl
theorem int1 : intT Try.prog 1 = none := by kernel_rfl
theorem zer1 : zerT Try.prog 1 = some [.nilFunc] := by kernel_rfl
theorem str1 : strT Try.prog 1 = false := by kernel_rfl
theorem agg2 : aggT Try.prog 2 = some false := by kernel_rfl
theorem siz2 : sizT Try.prog 2 = some 1 := by kernel_rfl
theorem byt2 : bytT Try.prog 2 = some 8 := by kernel_rfl
theorem elem2 : elemT Try.prog 2 = none := by kernel_rfl
theorem arr2 : arrT Try.prog 2 = none := by kernel_rfl
theorem int2 : intT Try.prog 2 = some .i64 := by kernel_rfl
theorem zer2 : zerT Try.prog 2 = some [.int .i64 0] := by kernel_rfl
theorem str2 : strT Try.prog 2 = false := by kernel_rfl
theorem agg3 : aggT Try.prog 3 = some false := by kernel_rfl
theorem siz3 : sizT Try.prog 3 = some 1 := by kernel_rfl
theorem byt3 : bytT Try.prog 3 = some 8 := by kernel_rfl
theorem elem3 : elemT Try.prog 3 = none := by kernel_rfl
theorem arr3 : arrT Try.prog 3 = none := by kernel_rfl
theorem int3 : intT Try.prog 3 = some .i64 := by kernel_rfl
theorem zer3 : zerT Try.prog 3 = some [.int .i64 0] := by kernel_rfl
theorem str3 : strT Try.prog 3 = false := by kernel_rfl
theorem agg4 : aggT Try.prog 4 = some false := by kernel_rfl
theorem siz4 : sizT Try.prog 4 = some 1 := by kernel_rfl
theorem byt4 : bytT Try.prog 4 = some 1 := by kernel_rfl
theorem elem4 : elemT Try.prog 4 = none := by kernel_rfl
theorem arr4 : arrT Try.prog 4 = none := by kernel_rfl
theorem int4 : intT Try.prog 4 = none := by kernel_rfl
theorem zer4 : zerT Try.prog 4 = some [.bool false] := by kernel_rfl
theorem str4 : strT Try.prog 4 = false := by kernel_rfl
theorem agg5 : aggT Try.prog 5 = some false := by kernel_rfl
theorem siz5 : sizT Try.prog 5 = some 1 := by kernel_rfl
theorem byt5 : bytT Try.prog 5 = some 1 := by kernel_rfl
theorem elem5 : elemT Try.prog 5 = none := by kernel_rfl
theorem arr5 : arrT Try.prog 5 = none := by kernel_rfl
theorem int5 : intT Try.prog 5 = some .u8 := by kernel_rfl
theorem zer5 : zerT Try.prog 5 = some [.int .u8 0] := by kernel_rfl
theorem str5 : strT Try.prog 5 = false := by kernel_rfl
theorem agg22 : aggT Try.prog 22 = some false := by kernel_rfl
theorem siz22 : sizT Try.prog 22 = some 1 := by kernel_rfl
theorem byt22 : bytT Try.prog 22 = some 24 := by kernel_rfl
theorem elem22 : elemT Try.prog 22 = some 40 := by kernel_rfl
theorem arr22 : arrT Try.prog 22 = none := by kernel_rfl
theorem int22 : intT Try.prog 22 = none := by kernel_rfl
theorem zer22 : zerT Try.prog 22 = some [.slice none 0 0] := by kernel_rfl
theorem str22 : strT Try.prog 22 = false := by kernel_rfl
theorem agg23 : aggT Try.prog 23 = some false := by kernel_rfl
theorem siz23 : sizT Try.prog 23 = some 1 := by kernel_rfl
theorem byt23 : bytT Try.prog 23 = some 8 := by kernel_rfl
theorem elem23 : elemT Try.prog 23 = none := by kernel_rfl
theorem arr23 : arrT Try.prog 23 = none := by kernel_rfl
theorem int23 : intT Try.prog 23 = none := by kernel_rfl
theorem zer23 : zerT Try.prog 23 = some [.pointer none] := by kernel_rfl
theorem str23 : strT Try.prog 23 = false := by kernel_rfl
theorem agg24 : aggT Try.prog 24 = some false := by kernel_rfl
theorem siz24 : sizT Try.prog 24 = some 1 := by kernel_rfl
theorem byt24 : bytT Try.prog 24 = some 8 := by kernel_rfl
theorem elem24 : elemT Try.prog 24 = none := by kernel_rfl
theorem arr24 : arrT Try.prog 24 = none := by kernel_rfl
theorem int24 : intT Try.prog 24 = some .i64 := by kernel_rfl
theorem zer24 : zerT Try.prog 24 = some [.int .i64 0] := by kernel_rfl
theorem str24 : strT Try.prog 24 = false := by kernel_rfl
theorem agg27 : aggT Try.prog 27 = some false := by kernel_rfl
theorem siz27 : sizT Try.prog 27 = some 1 := by kernel_rfl
theorem byt27 : bytT Try.prog 27 = some 4 := by kernel_rfl
theorem elem27 : elemT Try.prog 27 = none := by kernel_rfl
theorem arr27 : arrT Try.prog 27 = none := by kernel_rfl
theorem int27 : intT Try.prog 27 = some .u32 := by kernel_rfl
theorem zer27 : zerT Try.prog 27 = some [.int .u32 0] := by kernel_rfl
theorem str27 : strT Try.prog 27 = false := by kernel_rfl
theorem agg29 : aggT Try.prog 29 = some true := by kernel_rfl
theorem siz29 : sizT Try.prog 29 = some 2 := by kernel_rfl
theorem byt29 : bytT Try.prog 29 = some 8 := by kernel_rfl
theorem elem29 : elemT Try.prog 29 = none := by kernel_rfl
theorem arr29 : arrT Try.prog 29 = none := by kernel_rfl
theorem int29 : intT Try.prog 29 = none := by kernel_rfl
theorem zer29 : zerT Try.prog 29 = some [.bool false, .int .u32 0] := by kernel_rfl
theorem kd29 : kdT Try.prog 60 29 = some [.bool, .int .u32] := by kernel_rfl
theorem eqg29 : Try.prog.eqGuardType (Try.prog.depth) 29 = false := by kernel_rfl
theorem szs29 : sizesOk Try.prog 29 = true := by kernel_rfl
theorem plc29_0 : placeT Try.prog 29 0 = some (0, 1) := by kernel_rfl
theorem plc29_1 : placeT Try.prog 29 1 = some (1, 1) := by kernel_rfl
theorem str29 : strT Try.prog 29 = false := by kernel_rfl
theorem fld29_0 : fldT Try.prog 29 0 = some (0, 4) := by kernel_rfl
theorem fld29_1 : fldT Try.prog 29 1 = some (1, 27) := by kernel_rfl
theorem agg30 : aggT Try.prog 30 = some true := by kernel_rfl
theorem siz30 : sizT Try.prog 30 = some 8 := by kernel_rfl
theorem byt30 : bytT Try.prog 30 = some 8 := by kernel_rfl
theorem elem30 : elemT Try.prog 30 = none := by kernel_rfl
theorem arr30 : arrT Try.prog 30 = some (8, 5) := by kernel_rfl
theorem int30 : intT Try.prog 30 = none := by kernel_rfl
theorem zer30 : zerT Try.prog 30 = some [.int .u8 0, .int .u8 0, .int .u8 0, .int .u8 0, .int .u8 0, .int .u8 0, .int .u8 0, .int .u8 0] := by kernel_rfl
theorem kd30 : kdT Try.prog 60 30 = some [.int .u8, .int .u8, .int .u8, .int .u8, .int .u8, .int .u8, .int .u8, .int .u8] := by kernel_rfl
theorem eqg30 : Try.prog.eqGuardType (Try.prog.depth) 30 = false := by kernel_rfl
theorem szs30 : sizesOk Try.prog 30 = true := by kernel_rfl
theorem plc30_0 : placeT Try.prog 30 0 = some (0, 1) := by kernel_rfl
theorem plc30_1 : placeT Try.prog 30 1 = some (1, 1) := by kernel_rfl
theorem plc30_2 : placeT Try.prog 30 2 = some (2, 1) := by kernel_rfl
theorem plc30_3 : placeT Try.prog 30 3 = some (3, 1) := by kernel_rfl
theorem plc30_4 : placeT Try.prog 30 4 = some (4, 1) := by kernel_rfl
theorem plc30_5 : placeT Try.prog 30 5 = some (5, 1) := by kernel_rfl
theorem plc30_6 : placeT Try.prog 30 6 = some (6, 1) := by kernel_rfl
theorem plc30_7 : placeT Try.prog 30 7 = some (7, 1) := by kernel_rfl
theorem plc30_8 : placeT Try.prog 30 8 = some (8, 1) := by kernel_rfl
theorem plc30_9 : placeT Try.prog 30 9 = some (9, 1) := by kernel_rfl
theorem plc30_10 : placeT Try.prog 30 10 = some (10, 1) := by kernel_rfl
theorem plc30_11 : placeT Try.prog 30 11 = some (11, 1) := by kernel_rfl
theorem str30 : strT Try.prog 30 = false := by kernel_rfl
theorem agg32 : aggT Try.prog 32 = some true := by kernel_rfl
theorem siz32 : sizT Try.prog 32 = some 12 := by kernel_rfl
theorem byt32 : bytT Try.prog 32 = some 32 := by kernel_rfl
theorem elem32 : elemT Try.prog 32 = none := by kernel_rfl
theorem arr32 : arrT Try.prog 32 = none := by kernel_rfl
theorem int32 : intT Try.prog 32 = none := by kernel_rfl
theorem zer32 : zerT Try.prog 32 = some [.bool false, .int .u32 0, .bool false, .int .i64 0, .int .u8 0, .int .u8 0, .int .u8 0, .int .u8 0, .int .u8 0, .int .u8 0, .int .u8 0, .int .u8 0] := by kernel_rfl
theorem kd32 : kdT Try.prog 60 32 = some [.bool, .int .u32, .bool, .int .i64, .int .u8, .int .u8, .int .u8, .int .u8, .int .u8, .int .u8, .int .u8, .int .u8] := by kernel_rfl
theorem eqg32 : Try.prog.eqGuardType (Try.prog.depth) 32 = false := by kernel_rfl
theorem szs32 : sizesOk Try.prog 32 = true := by kernel_rfl
theorem plc32_0 : placeT Try.prog 32 0 = some (0, 2) := by kernel_rfl
theorem plc32_1 : placeT Try.prog 32 1 = some (2, 1) := by kernel_rfl
theorem plc32_2 : placeT Try.prog 32 2 = some (3, 1) := by kernel_rfl
theorem plc32_3 : placeT Try.prog 32 3 = some (4, 8) := by kernel_rfl
theorem str32 : strT Try.prog 32 = false := by kernel_rfl
theorem fld32_0 : fldT Try.prog 32 0 = some (0, 29) := by kernel_rfl
theorem fld32_1 : fldT Try.prog 32 1 = some (2, 4) := by kernel_rfl
theorem fld32_2 : fldT Try.prog 32 2 = some (3, 3) := by kernel_rfl
theorem fld32_3 : fldT Try.prog 32 3 = some (4, 30) := by kernel_rfl
theorem agg34 : aggT Try.prog 34 = some true := by kernel_rfl
theorem siz34 : sizT Try.prog 34 = some 14 := by kernel_rfl
theorem byt34 : bytT Try.prog 34 = some 48 := by kernel_rfl
theorem elem34 : elemT Try.prog 34 = none := by kernel_rfl
theorem arr34 : arrT Try.prog 34 = none := by kernel_rfl
theorem int34 : intT Try.prog 34 = none := by kernel_rfl
theorem zer34 : zerT Try.prog 34 = some [.bool false, .int .u32 0, .bool false, .int .i64 0, .int .u8 0, .int .u8 0, .int .u8 0, .int .u8 0, .int .u8 0, .int .u8 0, .int .u8 0, .int .u8 0, .bool false, .int .i64 0] := by kernel_rfl
theorem kd34 : kdT Try.prog 60 34 = some [.bool, .int .u32, .bool, .int .i64, .int .u8, .int .u8, .int .u8, .int .u8, .int .u8, .int .u8, .int .u8, .int .u8, .bool, .int .i64] := by kernel_rfl
theorem eqg34 : Try.prog.eqGuardType (Try.prog.depth) 34 = false := by kernel_rfl
theorem szs34 : sizesOk Try.prog 34 = true := by kernel_rfl
theorem plc34_0 : placeT Try.prog 34 0 = some (0, 12) := by kernel_rfl
theorem plc34_1 : placeT Try.prog 34 1 = some (12, 1) := by kernel_rfl
theorem plc34_2 : placeT Try.prog 34 2 = some (13, 1) := by kernel_rfl
theorem str34 : strT Try.prog 34 = false := by kernel_rfl
theorem fld34_0 : fldT Try.prog 34 0 = some (0, 32) := by kernel_rfl
theorem fld34_1 : fldT Try.prog 34 1 = some (12, 4) := by kernel_rfl
theorem fld34_2 : fldT Try.prog 34 2 = some (13, 3) := by kernel_rfl
theorem agg35 : aggT Try.prog 35 = some false := by kernel_rfl
theorem siz35 : sizT Try.prog 35 = some 1 := by kernel_rfl
theorem byt35 : bytT Try.prog 35 = some 8 := by kernel_rfl
theorem elem35 : elemT Try.prog 35 = none := by kernel_rfl
theorem arr35 : arrT Try.prog 35 = none := by kernel_rfl
theorem int35 : intT Try.prog 35 = some .i64 := by kernel_rfl
theorem zer35 : zerT Try.prog 35 = some [.int .i64 0] := by kernel_rfl
theorem str35 : strT Try.prog 35 = false := by kernel_rfl
theorem agg37 : aggT Try.prog 37 = some true := by kernel_rfl
theorem siz37 : sizT Try.prog 37 = some 17 := by kernel_rfl
theorem byt37 : bytT Try.prog 37 = some 48 := by kernel_rfl
theorem elem37 : elemT Try.prog 37 = none := by kernel_rfl
theorem arr37 : arrT Try.prog 37 = none := by kernel_rfl
theorem int37 : intT Try.prog 37 = none := by kernel_rfl
theorem zer37 : zerT Try.prog 37 = some [.bool false, .bool false, .bool false, .bool false, .int .i64 0, .bool false, .int .u32 0, .bool false, .int .i64 0, .int .u8 0, .int .u8 0, .int .u8 0, .int .u8 0, .int .u8 0, .int .u8 0, .int .u8 0, .int .u8 0] := by kernel_rfl
theorem kd37 : kdT Try.prog 60 37 = some [.bool, .bool, .bool, .bool, .int .i64, .bool, .int .u32, .bool, .int .i64, .int .u8, .int .u8, .int .u8, .int .u8, .int .u8, .int .u8, .int .u8, .int .u8] := by kernel_rfl
theorem eqg37 : Try.prog.eqGuardType (Try.prog.depth) 37 = false := by kernel_rfl
theorem szs37 : sizesOk Try.prog 37 = true := by kernel_rfl
theorem plc37_0 : placeT Try.prog 37 0 = some (0, 1) := by kernel_rfl
theorem plc37_1 : placeT Try.prog 37 1 = some (1, 1) := by kernel_rfl
theorem plc37_2 : placeT Try.prog 37 2 = some (2, 1) := by kernel_rfl
theorem plc37_3 : placeT Try.prog 37 3 = some (3, 1) := by kernel_rfl
theorem plc37_4 : placeT Try.prog 37 4 = some (4, 1) := by kernel_rfl
theorem plc37_5 : placeT Try.prog 37 5 = some (5, 12) := by kernel_rfl
theorem str37 : strT Try.prog 37 = false := by kernel_rfl
theorem fld37_0 : fldT Try.prog 37 0 = some (0, 4) := by kernel_rfl
theorem fld37_1 : fldT Try.prog 37 1 = some (1, 4) := by kernel_rfl
theorem fld37_2 : fldT Try.prog 37 2 = some (2, 4) := by kernel_rfl
theorem fld37_3 : fldT Try.prog 37 3 = some (3, 4) := by kernel_rfl
theorem fld37_4 : fldT Try.prog 37 4 = some (4, 35) := by kernel_rfl
theorem fld37_5 : fldT Try.prog 37 5 = some (5, 32) := by kernel_rfl
theorem agg38 : aggT Try.prog 38 = some false := by kernel_rfl
theorem siz38 : sizT Try.prog 38 = some 1 := by kernel_rfl
theorem byt38 : bytT Try.prog 38 = some 8 := by kernel_rfl
theorem elem38 : elemT Try.prog 38 = none := by kernel_rfl
theorem arr38 : arrT Try.prog 38 = none := by kernel_rfl
theorem int38 : intT Try.prog 38 = some .i64 := by kernel_rfl
theorem zer38 : zerT Try.prog 38 = some [.int .i64 0] := by kernel_rfl
theorem str38 : strT Try.prog 38 = false := by kernel_rfl
theorem agg40 : aggT Try.prog 40 = some true := by kernel_rfl
theorem siz40 : sizT Try.prog 40 = some 34 := by kernel_rfl
theorem byt40 : bytT Try.prog 40 = some 120 := by kernel_rfl
theorem elem40 : elemT Try.prog 40 = none := by kernel_rfl
theorem arr40 : arrT Try.prog 40 = none := by kernel_rfl
theorem int40 : intT Try.prog 40 = none := by kernel_rfl
theorem zer40 : zerT Try.prog 40 = some [.int .i64 0, .bool false, .int .u32 0, .bool false, .int .i64 0, .int .u8 0, .int .u8 0, .int .u8 0, .int .u8 0, .int .u8 0, .int .u8 0, .int .u8 0, .int .u8 0, .bool false, .int .i64 0, .bool false, .bool false, .bool false, .bool false, .int .i64 0, .bool false, .int .u32 0, .bool false, .int .i64 0, .int .u8 0, .int .u8 0, .int .u8 0, .int .u8 0, .int .u8 0, .int .u8 0, .int .u8 0, .int .u8 0, .int .i64 0, .int .i64 0] := by kernel_rfl
theorem kd40 : kdT Try.prog 60 40 = some [.int .i64, .bool, .int .u32, .bool, .int .i64, .int .u8, .int .u8, .int .u8, .int .u8, .int .u8, .int .u8, .int .u8, .int .u8, .bool, .int .i64, .bool, .bool, .bool, .bool, .int .i64, .bool, .int .u32, .bool, .int .i64, .int .u8, .int .u8, .int .u8, .int .u8, .int .u8, .int .u8, .int .u8, .int .u8, .int .i64, .int .i64] := by kernel_rfl
theorem eqg40 : Try.prog.eqGuardType (Try.prog.depth) 40 = false := by kernel_rfl
theorem szs40 : sizesOk Try.prog 40 = true := by kernel_rfl
theorem plc40_0 : placeT Try.prog 40 0 = some (0, 1) := by kernel_rfl
theorem plc40_1 : placeT Try.prog 40 1 = some (1, 14) := by kernel_rfl
theorem plc40_2 : placeT Try.prog 40 2 = some (15, 17) := by kernel_rfl
theorem plc40_3 : placeT Try.prog 40 3 = some (32, 1) := by kernel_rfl
theorem plc40_4 : placeT Try.prog 40 4 = some (33, 1) := by kernel_rfl
theorem str40 : strT Try.prog 40 = false := by kernel_rfl
theorem fld40_0 : fldT Try.prog 40 0 = some (0, 3) := by kernel_rfl
theorem fld40_1 : fldT Try.prog 40 1 = some (1, 34) := by kernel_rfl
theorem fld40_2 : fldT Try.prog 40 2 = some (15, 37) := by kernel_rfl
theorem fld40_3 : fldT Try.prog 40 3 = some (32, 38) := by kernel_rfl
theorem fld40_4 : fldT Try.prog 40 4 = some (33, 2) := by kernel_rfl
theorem agg45 : aggT Try.prog 45 = some false := by kernel_rfl
theorem siz45 : sizT Try.prog 45 = some 1 := by kernel_rfl
theorem byt45 : bytT Try.prog 45 = some 24 := by kernel_rfl
theorem elem45 : elemT Try.prog 45 = some 51 := by kernel_rfl
theorem arr45 : arrT Try.prog 45 = none := by kernel_rfl
theorem int45 : intT Try.prog 45 = none := by kernel_rfl
theorem zer45 : zerT Try.prog 45 = some [.slice none 0 0] := by kernel_rfl
theorem str45 : strT Try.prog 45 = false := by kernel_rfl
theorem agg47 : aggT Try.prog 47 = some false := by kernel_rfl
theorem siz47 : sizT Try.prog 47 = some 1 := by kernel_rfl
theorem byt47 : bytT Try.prog 47 = some 24 := by kernel_rfl
theorem elem47 : elemT Try.prog 47 = some 3 := by kernel_rfl
theorem arr47 : arrT Try.prog 47 = none := by kernel_rfl
theorem int47 : intT Try.prog 47 = none := by kernel_rfl
theorem zer47 : zerT Try.prog 47 = some [.slice none 0 0] := by kernel_rfl
theorem str47 : strT Try.prog 47 = false := by kernel_rfl
theorem agg49 : aggT Try.prog 49 = some false := by kernel_rfl
theorem siz49 : sizT Try.prog 49 = some 1 := by kernel_rfl
theorem byt49 : bytT Try.prog 49 = some 8 := by kernel_rfl
theorem elem49 : elemT Try.prog 49 = none := by kernel_rfl
theorem arr49 : arrT Try.prog 49 = none := by kernel_rfl
theorem int49 : intT Try.prog 49 = some .i64 := by kernel_rfl
theorem zer49 : zerT Try.prog 49 = some [.int .i64 0] := by kernel_rfl
theorem str49 : strT Try.prog 49 = false := by kernel_rfl
theorem agg51 : aggT Try.prog 51 = some true := by kernel_rfl
theorem siz51 : sizT Try.prog 51 = some 3 := by kernel_rfl
theorem byt51 : bytT Try.prog 51 = some 24 := by kernel_rfl
theorem elem51 : elemT Try.prog 51 = none := by kernel_rfl
theorem arr51 : arrT Try.prog 51 = none := by kernel_rfl
theorem int51 : intT Try.prog 51 = none := by kernel_rfl
theorem zer51 : zerT Try.prog 51 = some [.int .i64 0, .int .i64 0, .int .i64 0] := by kernel_rfl
theorem kd51 : kdT Try.prog 60 51 = some [.int .i64, .int .i64, .int .i64] := by kernel_rfl
theorem eqg51 : Try.prog.eqGuardType (Try.prog.depth) 51 = false := by kernel_rfl
theorem szs51 : sizesOk Try.prog 51 = true := by kernel_rfl
theorem plc51_0 : placeT Try.prog 51 0 = some (0, 1) := by kernel_rfl
theorem plc51_1 : placeT Try.prog 51 1 = some (1, 1) := by kernel_rfl
theorem plc51_2 : placeT Try.prog 51 2 = some (2, 1) := by kernel_rfl
theorem str51 : strT Try.prog 51 = false := by kernel_rfl
theorem fld51_0 : fldT Try.prog 51 0 = some (0, 3) := by kernel_rfl
theorem fld51_1 : fldT Try.prog 51 1 = some (1, 49) := by kernel_rfl
theorem fld51_2 : fldT Try.prog 51 2 = some (2, 2) := by kernel_rfl
theorem agg58 : aggT Try.prog 58 = some true := by kernel_rfl
theorem siz58 : sizT Try.prog 58 = some 2 := by kernel_rfl
theorem byt58 : bytT Try.prog 58 = some 16 := by kernel_rfl
theorem elem58 : elemT Try.prog 58 = none := by kernel_rfl
theorem arr58 : arrT Try.prog 58 = some (2, 3) := by kernel_rfl
theorem int58 : intT Try.prog 58 = none := by kernel_rfl
theorem zer58 : zerT Try.prog 58 = some [.int .i64 0, .int .i64 0] := by kernel_rfl
theorem kd58 : kdT Try.prog 60 58 = some [.int .i64, .int .i64] := by kernel_rfl
theorem eqg58 : Try.prog.eqGuardType (Try.prog.depth) 58 = false := by kernel_rfl
theorem szs58 : sizesOk Try.prog 58 = true := by kernel_rfl
theorem plc58_0 : placeT Try.prog 58 0 = some (0, 1) := by kernel_rfl
theorem plc58_1 : placeT Try.prog 58 1 = some (1, 1) := by kernel_rfl
theorem plc58_2 : placeT Try.prog 58 2 = some (2, 1) := by kernel_rfl
theorem plc58_3 : placeT Try.prog 58 3 = some (3, 1) := by kernel_rfl
theorem plc58_4 : placeT Try.prog 58 4 = some (4, 1) := by kernel_rfl
theorem plc58_5 : placeT Try.prog 58 5 = some (5, 1) := by kernel_rfl
theorem plc58_6 : placeT Try.prog 58 6 = some (6, 1) := by kernel_rfl
theorem plc58_7 : placeT Try.prog 58 7 = some (7, 1) := by kernel_rfl
theorem plc58_8 : placeT Try.prog 58 8 = some (8, 1) := by kernel_rfl
theorem plc58_9 : placeT Try.prog 58 9 = some (9, 1) := by kernel_rfl
theorem plc58_10 : placeT Try.prog 58 10 = some (10, 1) := by kernel_rfl
theorem plc58_11 : placeT Try.prog 58 11 = some (11, 1) := by kernel_rfl
theorem str58 : strT Try.prog 58 = false := by kernel_rfl
theorem agg59 : aggT Try.prog 59 = some false := by kernel_rfl
theorem siz59 : sizT Try.prog 59 = some 1 := by kernel_rfl
theorem byt59 : bytT Try.prog 59 = some 24 := by kernel_rfl
theorem elem59 : elemT Try.prog 59 = some 113 := by kernel_rfl
theorem arr59 : arrT Try.prog 59 = none := by kernel_rfl
theorem int59 : intT Try.prog 59 = none := by kernel_rfl
theorem zer59 : zerT Try.prog 59 = some [.slice none 0 0] := by kernel_rfl
theorem str59 : strT Try.prog 59 = false := by kernel_rfl
theorem agg60 : aggT Try.prog 60 = some false := by kernel_rfl
theorem siz60 : sizT Try.prog 60 = some 1 := by kernel_rfl
theorem byt60 : bytT Try.prog 60 = some 8 := by kernel_rfl
theorem elem60 : elemT Try.prog 60 = none := by kernel_rfl
theorem arr60 : arrT Try.prog 60 = none := by kernel_rfl
theorem int60 : intT Try.prog 60 = none := by kernel_rfl
theorem zer60 : zerT Try.prog 60 = some [.pointer none] := by kernel_rfl
theorem str60 : strT Try.prog 60 = false := by kernel_rfl
theorem agg64 : aggT Try.prog 64 = some true := by kernel_rfl
theorem siz64 : sizT Try.prog 64 = some 2 := by kernel_rfl
theorem byt64 : bytT Try.prog 64 = some 16 := by kernel_rfl
theorem elem64 : elemT Try.prog 64 = none := by kernel_rfl
theorem arr64 : arrT Try.prog 64 = none := by kernel_rfl
theorem int64 : intT Try.prog 64 = none := by kernel_rfl
theorem zer64 : zerT Try.prog 64 = some [.pointer none, .pointer none] := by kernel_rfl
theorem eqg64 : Try.prog.eqGuardType (Try.prog.depth) 64 = false := by kernel_rfl
theorem szs64 : sizesOk Try.prog 64 = true := by kernel_rfl
theorem plc64_0 : placeT Try.prog 64 0 = some (0, 1) := by kernel_rfl
theorem plc64_1 : placeT Try.prog 64 1 = some (1, 1) := by kernel_rfl
theorem str64 : strT Try.prog 64 = false := by kernel_rfl
theorem fld64_0 : fldT Try.prog 64 0 = some (0, 23) := by kernel_rfl
theorem fld64_1 : fldT Try.prog 64 1 = some (1, 60) := by kernel_rfl
theorem agg68 : aggT Try.prog 68 = some false := by kernel_rfl
theorem siz68 : sizT Try.prog 68 = some 1 := by kernel_rfl
theorem byt68 : bytT Try.prog 68 = some 8 := by kernel_rfl
theorem elem68 : elemT Try.prog 68 = none := by kernel_rfl
theorem arr68 : arrT Try.prog 68 = none := by kernel_rfl
theorem int68 : intT Try.prog 68 = none := by kernel_rfl
theorem zer68 : zerT Try.prog 68 = some [.pointer none] := by kernel_rfl
theorem str68 : strT Try.prog 68 = false := by kernel_rfl
theorem agg71 : aggT Try.prog 71 = some false := by kernel_rfl
theorem siz71 : sizT Try.prog 71 = some 1 := by kernel_rfl
theorem byt71 : bytT Try.prog 71 = some 8 := by kernel_rfl
theorem elem71 : elemT Try.prog 71 = none := by kernel_rfl
theorem arr71 : arrT Try.prog 71 = none := by kernel_rfl
theorem int71 : intT Try.prog 71 = none := by kernel_rfl
theorem zer71 : zerT Try.prog 71 = some [.pointer none] := by kernel_rfl
theorem str71 : strT Try.prog 71 = false := by kernel_rfl
theorem agg74 : aggT Try.prog 74 = some false := by kernel_rfl
theorem siz74 : sizT Try.prog 74 = some 1 := by kernel_rfl
theorem byt74 : bytT Try.prog 74 = some 8 := by kernel_rfl
theorem elem74 : elemT Try.prog 74 = none := by kernel_rfl
theorem arr74 : arrT Try.prog 74 = none := by kernel_rfl
theorem int74 : intT Try.prog 74 = none := by kernel_rfl
theorem zer74 : zerT Try.prog 74 = some [.pointer none] := by kernel_rfl
theorem str74 : strT Try.prog 74 = false := by kernel_rfl
theorem agg76 : aggT Try.prog 76 = some true := by kernel_rfl
theorem siz76 : sizT Try.prog 76 = some 7 := by kernel_rfl
theorem byt76 : bytT Try.prog 76 = some 72 := by kernel_rfl
theorem elem76 : elemT Try.prog 76 = none := by kernel_rfl
theorem arr76 : arrT Try.prog 76 = none := by kernel_rfl
theorem int76 : intT Try.prog 76 = none := by kernel_rfl
theorem zer76 : zerT Try.prog 76 = some [.pointer none, .pointer none, .pointer none, .int .i64 0, .int .i64 0, .int .i64 0, .slice none 0 0] := by kernel_rfl
theorem eqg76 : Try.prog.eqGuardType (Try.prog.depth) 76 = false := by kernel_rfl
theorem szs76 : sizesOk Try.prog 76 = true := by kernel_rfl
theorem plc76_0 : placeT Try.prog 76 0 = some (0, 1) := by kernel_rfl
theorem plc76_1 : placeT Try.prog 76 1 = some (1, 1) := by kernel_rfl
theorem plc76_2 : placeT Try.prog 76 2 = some (2, 1) := by kernel_rfl
theorem plc76_3 : placeT Try.prog 76 3 = some (3, 1) := by kernel_rfl
theorem plc76_4 : placeT Try.prog 76 4 = some (4, 1) := by kernel_rfl
theorem plc76_5 : placeT Try.prog 76 5 = some (5, 1) := by kernel_rfl
theorem plc76_6 : placeT Try.prog 76 6 = some (6, 1) := by kernel_rfl
theorem str76 : strT Try.prog 76 = false := by kernel_rfl
theorem fld76_0 : fldT Try.prog 76 0 = some (0, 68) := by kernel_rfl
theorem fld76_1 : fldT Try.prog 76 1 = some (1, 71) := by kernel_rfl
theorem fld76_2 : fldT Try.prog 76 2 = some (2, 74) := by kernel_rfl
theorem fld76_3 : fldT Try.prog 76 3 = some (3, 38) := by kernel_rfl
theorem fld76_4 : fldT Try.prog 76 4 = some (4, 2) := by kernel_rfl
theorem fld76_5 : fldT Try.prog 76 5 = some (5, 2) := by kernel_rfl
theorem fld76_6 : fldT Try.prog 76 6 = some (6, 45) := by kernel_rfl
theorem agg79 : aggT Try.prog 79 = some true := by kernel_rfl
theorem siz79 : sizT Try.prog 79 = some 2 := by kernel_rfl
theorem byt79 : bytT Try.prog 79 = some 16 := by kernel_rfl
theorem elem79 : elemT Try.prog 79 = none := by kernel_rfl
theorem arr79 : arrT Try.prog 79 = none := by kernel_rfl
theorem int79 : intT Try.prog 79 = none := by kernel_rfl
theorem zer79 : zerT Try.prog 79 = some [.int .i64 0, .bool false] := by kernel_rfl
theorem kd79 : kdT Try.prog 60 79 = some [.int .i64, .bool] := by kernel_rfl
theorem eqg79 : Try.prog.eqGuardType (Try.prog.depth) 79 = false := by kernel_rfl
theorem szs79 : sizesOk Try.prog 79 = true := by kernel_rfl
theorem plc79_0 : placeT Try.prog 79 0 = some (0, 1) := by kernel_rfl
theorem plc79_1 : placeT Try.prog 79 1 = some (1, 1) := by kernel_rfl
theorem str79 : strT Try.prog 79 = false := by kernel_rfl
theorem fld79_0 : fldT Try.prog 79 0 = some (0, 3) := by kernel_rfl
theorem fld79_1 : fldT Try.prog 79 1 = some (1, 4) := by kernel_rfl
theorem agg87 : aggT Try.prog 87 = some true := by kernel_rfl
theorem siz87 : sizT Try.prog 87 = some 14 := by kernel_rfl
theorem byt87 : bytT Try.prog 87 = some 48 := by kernel_rfl
theorem elem87 : elemT Try.prog 87 = none := by kernel_rfl
theorem arr87 : arrT Try.prog 87 = none := by kernel_rfl
theorem int87 : intT Try.prog 87 = none := by kernel_rfl
theorem zer87 : zerT Try.prog 87 = some [.bool false, .int .u32 0, .bool false, .int .i64 0, .int .u8 0, .int .u8 0, .int .u8 0, .int .u8 0, .int .u8 0, .int .u8 0, .int .u8 0, .int .u8 0, .int .i64 0, .int .i64 0] := by kernel_rfl
theorem kd87 : kdT Try.prog 60 87 = some [.bool, .int .u32, .bool, .int .i64, .int .u8, .int .u8, .int .u8, .int .u8, .int .u8, .int .u8, .int .u8, .int .u8, .int .i64, .int .i64] := by kernel_rfl
theorem eqg87 : Try.prog.eqGuardType (Try.prog.depth) 87 = false := by kernel_rfl
theorem szs87 : sizesOk Try.prog 87 = true := by kernel_rfl
theorem plc87_0 : placeT Try.prog 87 0 = some (0, 12) := by kernel_rfl
theorem plc87_1 : placeT Try.prog 87 1 = some (12, 1) := by kernel_rfl
theorem plc87_2 : placeT Try.prog 87 2 = some (13, 1) := by kernel_rfl
theorem str87 : strT Try.prog 87 = false := by kernel_rfl
theorem fld87_0 : fldT Try.prog 87 0 = some (0, 32) := by kernel_rfl
theorem fld87_1 : fldT Try.prog 87 1 = some (12, 2) := by kernel_rfl
theorem fld87_2 : fldT Try.prog 87 2 = some (13, 2) := by kernel_rfl
theorem agg93 : aggT Try.prog 93 = some false := by kernel_rfl
theorem siz93 : sizT Try.prog 93 = some 1 := by kernel_rfl
theorem byt93 : bytT Try.prog 93 = some 8 := by kernel_rfl
theorem elem93 : elemT Try.prog 93 = none := by kernel_rfl
theorem arr93 : arrT Try.prog 93 = none := by kernel_rfl
theorem int93 : intT Try.prog 93 = none := by kernel_rfl
theorem zer93 : zerT Try.prog 93 = some [.pointer none] := by kernel_rfl
theorem str93 : strT Try.prog 93 = false := by kernel_rfl
theorem agg96 : aggT Try.prog 96 = some false := by kernel_rfl
theorem siz96 : sizT Try.prog 96 = some 1 := by kernel_rfl
theorem byt96 : bytT Try.prog 96 = some 8 := by kernel_rfl
theorem elem96 : elemT Try.prog 96 = none := by kernel_rfl
theorem arr96 : arrT Try.prog 96 = none := by kernel_rfl
theorem int96 : intT Try.prog 96 = none := by kernel_rfl
theorem zer96 : zerT Try.prog 96 = some [.pointer none] := by kernel_rfl
theorem str96 : strT Try.prog 96 = false := by kernel_rfl
theorem agg100 : aggT Try.prog 100 = some true := by kernel_rfl
theorem siz100 : sizT Try.prog 100 = some 8 := by kernel_rfl
theorem byt100 : bytT Try.prog 100 = some 80 := by kernel_rfl
theorem elem100 : elemT Try.prog 100 = none := by kernel_rfl
theorem arr100 : arrT Try.prog 100 = none := by kernel_rfl
theorem int100 : intT Try.prog 100 = none := by kernel_rfl
theorem zer100 : zerT Try.prog 100 = some [.pointer none, .pointer none, .int .i64 0, .bool false, .int .i64 0, .int .i64 0, .int .i64 0, .slice none 0 0] := by kernel_rfl
theorem eqg100 : Try.prog.eqGuardType (Try.prog.depth) 100 = false := by kernel_rfl
theorem szs100 : sizesOk Try.prog 100 = true := by kernel_rfl
theorem plc100_0 : placeT Try.prog 100 0 = some (0, 1) := by kernel_rfl
theorem plc100_1 : placeT Try.prog 100 1 = some (1, 1) := by kernel_rfl
theorem plc100_2 : placeT Try.prog 100 2 = some (2, 1) := by kernel_rfl
theorem plc100_3 : placeT Try.prog 100 3 = some (3, 1) := by kernel_rfl
theorem plc100_4 : placeT Try.prog 100 4 = some (4, 1) := by kernel_rfl
theorem plc100_5 : placeT Try.prog 100 5 = some (5, 1) := by kernel_rfl
theorem plc100_6 : placeT Try.prog 100 6 = some (6, 1) := by kernel_rfl
theorem plc100_7 : placeT Try.prog 100 7 = some (7, 1) := by kernel_rfl
theorem str100 : strT Try.prog 100 = false := by kernel_rfl
theorem fld100_0 : fldT Try.prog 100 0 = some (0, 93) := by kernel_rfl
theorem fld100_1 : fldT Try.prog 100 1 = some (1, 96) := by kernel_rfl
theorem fld100_2 : fldT Try.prog 100 2 = some (2, 3) := by kernel_rfl
theorem fld100_3 : fldT Try.prog 100 3 = some (3, 4) := by kernel_rfl
theorem fld100_4 : fldT Try.prog 100 4 = some (4, 38) := by kernel_rfl
theorem fld100_5 : fldT Try.prog 100 5 = some (5, 2) := by kernel_rfl
theorem fld100_6 : fldT Try.prog 100 6 = some (6, 2) := by kernel_rfl
theorem fld100_7 : fldT Try.prog 100 7 = some (7, 45) := by kernel_rfl
theorem agg103 : aggT Try.prog 103 = some false := by kernel_rfl
theorem siz103 : sizT Try.prog 103 = some 1 := by kernel_rfl
theorem byt103 : bytT Try.prog 103 = some 24 := by kernel_rfl
theorem elem103 : elemT Try.prog 103 = some 87 := by kernel_rfl
theorem arr103 : arrT Try.prog 103 = none := by kernel_rfl
theorem int103 : intT Try.prog 103 = none := by kernel_rfl
theorem zer103 : zerT Try.prog 103 = some [.slice none 0 0] := by kernel_rfl
theorem str103 : strT Try.prog 103 = false := by kernel_rfl
theorem agg105 : aggT Try.prog 105 = some true := by kernel_rfl
theorem siz105 : sizT Try.prog 105 = some 4 := by kernel_rfl
theorem byt105 : bytT Try.prog 105 = some 64 := by kernel_rfl
theorem elem105 : elemT Try.prog 105 = none := by kernel_rfl
theorem arr105 : arrT Try.prog 105 = none := by kernel_rfl
theorem int105 : intT Try.prog 105 = none := by kernel_rfl
theorem zer105 : zerT Try.prog 105 = some [.int .i64 0, .slice none 0 0, .slice none 0 0, .bool false] := by kernel_rfl
theorem eqg105 : Try.prog.eqGuardType (Try.prog.depth) 105 = false := by kernel_rfl
theorem szs105 : sizesOk Try.prog 105 = true := by kernel_rfl
theorem plc105_0 : placeT Try.prog 105 0 = some (0, 1) := by kernel_rfl
theorem plc105_1 : placeT Try.prog 105 1 = some (1, 1) := by kernel_rfl
theorem plc105_2 : placeT Try.prog 105 2 = some (2, 1) := by kernel_rfl
theorem plc105_3 : placeT Try.prog 105 3 = some (3, 1) := by kernel_rfl
theorem str105 : strT Try.prog 105 = false := by kernel_rfl
theorem fld105_0 : fldT Try.prog 105 0 = some (0, 3) := by kernel_rfl
theorem fld105_1 : fldT Try.prog 105 1 = some (1, 59) := by kernel_rfl
theorem fld105_2 : fldT Try.prog 105 2 = some (2, 103) := by kernel_rfl
theorem fld105_3 : fldT Try.prog 105 3 = some (3, 4) := by kernel_rfl
theorem agg107 : aggT Try.prog 107 = some false := by kernel_rfl
theorem siz107 : sizT Try.prog 107 = some 1 := by kernel_rfl
theorem byt107 : bytT Try.prog 107 = some 8 := by kernel_rfl
theorem elem107 : elemT Try.prog 107 = none := by kernel_rfl
theorem arr107 : arrT Try.prog 107 = none := by kernel_rfl
theorem int107 : intT Try.prog 107 = none := by kernel_rfl
theorem zer107 : zerT Try.prog 107 = some [.pointer none] := by kernel_rfl
theorem str107 : strT Try.prog 107 = false := by kernel_rfl
theorem agg108 : aggT Try.prog 108 = some true := by kernel_rfl
theorem siz108 : sizT Try.prog 108 = some 8 := by kernel_rfl
theorem byt108 : bytT Try.prog 108 = some 64 := by kernel_rfl
theorem elem108 : elemT Try.prog 108 = none := by kernel_rfl
theorem arr108 : arrT Try.prog 108 = some (8, 107) := by kernel_rfl
theorem int108 : intT Try.prog 108 = none := by kernel_rfl
theorem zer108 : zerT Try.prog 108 = some [.pointer none, .pointer none, .pointer none, .pointer none, .pointer none, .pointer none, .pointer none, .pointer none] := by kernel_rfl
theorem eqg108 : Try.prog.eqGuardType (Try.prog.depth) 108 = false := by kernel_rfl
theorem szs108 : sizesOk Try.prog 108 = true := by kernel_rfl
theorem plc108_0 : placeT Try.prog 108 0 = some (0, 1) := by kernel_rfl
theorem plc108_1 : placeT Try.prog 108 1 = some (1, 1) := by kernel_rfl
theorem plc108_2 : placeT Try.prog 108 2 = some (2, 1) := by kernel_rfl
theorem plc108_3 : placeT Try.prog 108 3 = some (3, 1) := by kernel_rfl
theorem plc108_4 : placeT Try.prog 108 4 = some (4, 1) := by kernel_rfl
theorem plc108_5 : placeT Try.prog 108 5 = some (5, 1) := by kernel_rfl
theorem plc108_6 : placeT Try.prog 108 6 = some (6, 1) := by kernel_rfl
theorem plc108_7 : placeT Try.prog 108 7 = some (7, 1) := by kernel_rfl
theorem plc108_8 : placeT Try.prog 108 8 = some (8, 1) := by kernel_rfl
theorem plc108_9 : placeT Try.prog 108 9 = some (9, 1) := by kernel_rfl
theorem plc108_10 : placeT Try.prog 108 10 = some (10, 1) := by kernel_rfl
theorem plc108_11 : placeT Try.prog 108 11 = some (11, 1) := by kernel_rfl
theorem str108 : strT Try.prog 108 = false := by kernel_rfl
theorem agg110 : aggT Try.prog 110 = some true := by kernel_rfl
theorem siz110 : sizT Try.prog 110 = some 9 := by kernel_rfl
theorem byt110 : bytT Try.prog 110 = some 72 := by kernel_rfl
theorem elem110 : elemT Try.prog 110 = none := by kernel_rfl
theorem arr110 : arrT Try.prog 110 = none := by kernel_rfl
theorem int110 : intT Try.prog 110 = none := by kernel_rfl
theorem zer110 : zerT Try.prog 110 = some [.int .i64 0, .pointer none, .pointer none, .pointer none, .pointer none, .pointer none, .pointer none, .pointer none, .pointer none] := by kernel_rfl
theorem eqg110 : Try.prog.eqGuardType (Try.prog.depth) 110 = false := by kernel_rfl
theorem szs110 : sizesOk Try.prog 110 = true := by kernel_rfl
theorem plc110_0 : placeT Try.prog 110 0 = some (0, 1) := by kernel_rfl
theorem plc110_1 : placeT Try.prog 110 1 = some (1, 8) := by kernel_rfl
theorem str110 : strT Try.prog 110 = false := by kernel_rfl
theorem fld110_0 : fldT Try.prog 110 0 = some (0, 3) := by kernel_rfl
theorem fld110_1 : fldT Try.prog 110 1 = some (1, 108) := by kernel_rfl
theorem agg113 : aggT Try.prog 113 = some true := by kernel_rfl
theorem siz113 : sizT Try.prog 113 = some 3 := by kernel_rfl
theorem byt113 : bytT Try.prog 113 = some 12 := by kernel_rfl
theorem elem113 : elemT Try.prog 113 = none := by kernel_rfl
theorem arr113 : arrT Try.prog 113 = none := by kernel_rfl
theorem int113 : intT Try.prog 113 = none := by kernel_rfl
theorem zer113 : zerT Try.prog 113 = some [.bool false, .int .u32 0, .int .u32 0] := by kernel_rfl
theorem kd113 : kdT Try.prog 60 113 = some [.bool, .int .u32, .int .u32] := by kernel_rfl
theorem eqg113 : Try.prog.eqGuardType (Try.prog.depth) 113 = false := by kernel_rfl
theorem szs113 : sizesOk Try.prog 113 = true := by kernel_rfl
theorem plc113_0 : placeT Try.prog 113 0 = some (0, 1) := by kernel_rfl
theorem plc113_1 : placeT Try.prog 113 1 = some (1, 1) := by kernel_rfl
theorem plc113_2 : placeT Try.prog 113 2 = some (2, 1) := by kernel_rfl
theorem str113 : strT Try.prog 113 = false := by kernel_rfl
theorem fld113_0 : fldT Try.prog 113 0 = some (0, 4) := by kernel_rfl
theorem fld113_1 : fldT Try.prog 113 1 = some (1, 27) := by kernel_rfl
theorem fld113_2 : fldT Try.prog 113 2 = some (2, 27) := by kernel_rfl
theorem agg115 : aggT Try.prog 115 = some true := by kernel_rfl
theorem siz115 : sizT Try.prog 115 = some 4 := by kernel_rfl
theorem byt115 : bytT Try.prog 115 = some 64 := by kernel_rfl
theorem elem115 : elemT Try.prog 115 = none := by kernel_rfl
theorem arr115 : arrT Try.prog 115 = none := by kernel_rfl
theorem int115 : intT Try.prog 115 = none := by kernel_rfl
theorem zer115 : zerT Try.prog 115 = some [.int .i64 0, .slice none 0 0, .slice none 0 0, .bool false] := by kernel_rfl
theorem eqg115 : Try.prog.eqGuardType (Try.prog.depth) 115 = false := by kernel_rfl
theorem szs115 : sizesOk Try.prog 115 = true := by kernel_rfl
theorem plc115_0 : placeT Try.prog 115 0 = some (0, 1) := by kernel_rfl
theorem plc115_1 : placeT Try.prog 115 1 = some (1, 1) := by kernel_rfl
theorem plc115_2 : placeT Try.prog 115 2 = some (2, 1) := by kernel_rfl
theorem plc115_3 : placeT Try.prog 115 3 = some (3, 1) := by kernel_rfl
theorem str115 : strT Try.prog 115 = false := by kernel_rfl
theorem fld115_0 : fldT Try.prog 115 0 = some (0, 3) := by kernel_rfl
theorem fld115_1 : fldT Try.prog 115 1 = some (1, 59) := by kernel_rfl
theorem fld115_2 : fldT Try.prog 115 2 = some (2, 103) := by kernel_rfl
theorem fld115_3 : fldT Try.prog 115 3 = some (3, 4) := by kernel_rfl
theorem agg121 : aggT Try.prog 121 = some false := by kernel_rfl
theorem siz121 : sizT Try.prog 121 = some 1 := by kernel_rfl
theorem byt121 : bytT Try.prog 121 = some 8 := by kernel_rfl
theorem elem121 : elemT Try.prog 121 = none := by kernel_rfl
theorem arr121 : arrT Try.prog 121 = none := by kernel_rfl
theorem int121 : intT Try.prog 121 = some .u64 := by kernel_rfl
theorem zer121 : zerT Try.prog 121 = some [.int .u64 0] := by kernel_rfl
theorem str121 : strT Try.prog 121 = false := by kernel_rfl
theorem agg124 : aggT Try.prog 124 = some false := by kernel_rfl
theorem siz124 : sizT Try.prog 124 = some 1 := by kernel_rfl
theorem byt124 : bytT Try.prog 124 = some 24 := by kernel_rfl
theorem elem124 : elemT Try.prog 124 = some 107 := by kernel_rfl
theorem arr124 : arrT Try.prog 124 = none := by kernel_rfl
theorem int124 : intT Try.prog 124 = none := by kernel_rfl
theorem zer124 : zerT Try.prog 124 = some [.slice none 0 0] := by kernel_rfl
theorem str124 : strT Try.prog 124 = false := by kernel_rfl
theorem agg129 : aggT Try.prog 129 = some false := by kernel_rfl
theorem siz129 : sizT Try.prog 129 = some 1 := by kernel_rfl
theorem byt129 : bytT Try.prog 129 = some 24 := by kernel_rfl
theorem elem129 : elemT Try.prog 129 = some 34 := by kernel_rfl
theorem arr129 : arrT Try.prog 129 = none := by kernel_rfl
theorem int129 : intT Try.prog 129 = none := by kernel_rfl
theorem zer129 : zerT Try.prog 129 = some [.slice none 0 0] := by kernel_rfl
theorem str129 : strT Try.prog 129 = false := by kernel_rfl
theorem agg130 : aggT Try.prog 130 = some false := by kernel_rfl
theorem siz130 : sizT Try.prog 130 = some 1 := by kernel_rfl
theorem byt130 : bytT Try.prog 130 = some 24 := by kernel_rfl
theorem elem130 : elemT Try.prog 130 = some 4 := by kernel_rfl
theorem arr130 : arrT Try.prog 130 = none := by kernel_rfl
theorem int130 : intT Try.prog 130 = none := by kernel_rfl
theorem zer130 : zerT Try.prog 130 = some [.slice none 0 0] := by kernel_rfl
theorem str130 : strT Try.prog 130 = false := by kernel_rfl
theorem agg132 : aggT Try.prog 132 = some true := by kernel_rfl
theorem siz132 : sizT Try.prog 132 = some 2 := by kernel_rfl
theorem byt132 : bytT Try.prog 132 = some 48 := by kernel_rfl
theorem elem132 : elemT Try.prog 132 = none := by kernel_rfl
theorem arr132 : arrT Try.prog 132 = none := by kernel_rfl
theorem int132 : intT Try.prog 132 = none := by kernel_rfl
theorem zer132 : zerT Try.prog 132 = some [.slice none 0 0, .slice none 0 0] := by kernel_rfl
theorem eqg132 : Try.prog.eqGuardType (Try.prog.depth) 132 = false := by kernel_rfl
theorem szs132 : sizesOk Try.prog 132 = true := by kernel_rfl
theorem plc132_0 : placeT Try.prog 132 0 = some (0, 1) := by kernel_rfl
theorem plc132_1 : placeT Try.prog 132 1 = some (1, 1) := by kernel_rfl
theorem str132 : strT Try.prog 132 = false := by kernel_rfl
theorem fld132_0 : fldT Try.prog 132 0 = some (0, 129) := by kernel_rfl
theorem fld132_1 : fldT Try.prog 132 1 = some (1, 130) := by kernel_rfl
theorem agg135 : aggT Try.prog 135 = some false := by kernel_rfl
theorem siz135 : sizT Try.prog 135 = some 1 := by kernel_rfl
theorem byt135 : bytT Try.prog 135 = some 24 := by kernel_rfl
theorem elem135 : elemT Try.prog 135 = some 5 := by kernel_rfl
theorem arr135 : arrT Try.prog 135 = none := by kernel_rfl
theorem int135 : intT Try.prog 135 = none := by kernel_rfl
theorem zer135 : zerT Try.prog 135 = some [.slice none 0 0] := by kernel_rfl
theorem str135 : strT Try.prog 135 = false := by kernel_rfl
theorem agg142 : aggT Try.prog 142 = some false := by kernel_rfl
theorem siz142 : sizT Try.prog 142 = some 1 := by kernel_rfl
theorem byt142 : bytT Try.prog 142 = some 8 := by kernel_rfl
theorem elem142 : elemT Try.prog 142 = none := by kernel_rfl
theorem arr142 : arrT Try.prog 142 = none := by kernel_rfl
theorem int142 : intT Try.prog 142 = some .u64 := by kernel_rfl
theorem zer142 : zerT Try.prog 142 = some [.int .u64 0] := by kernel_rfl
theorem str142 : strT Try.prog 142 = false := by kernel_rfl
theorem und0 : (Try.prog.underlying 0).isSome = true := by kernel_rfl
theorem und1 : (Try.prog.underlying 1).isSome = true := by kernel_rfl
theorem und2 : (Try.prog.underlying 2).isSome = true := by kernel_rfl
theorem und3 : (Try.prog.underlying 3).isSome = true := by kernel_rfl
theorem und4 : (Try.prog.underlying 4).isSome = true := by kernel_rfl
theorem und5 : (Try.prog.underlying 5).isSome = true := by kernel_rfl
theorem und22 : (Try.prog.underlying 22).isSome = true := by kernel_rfl
theorem und23 : (Try.prog.underlying 23).isSome = true := by kernel_rfl
theorem und24 : (Try.prog.underlying 24).isSome = true := by kernel_rfl
theorem und27 : (Try.prog.underlying 27).isSome = true := by kernel_rfl
theorem und29 : (Try.prog.underlying 29).isSome = true := by kernel_rfl
theorem und30 : (Try.prog.underlying 30).isSome = true := by kernel_rfl
theorem und32 : (Try.prog.underlying 32).isSome = true := by kernel_rfl
theorem und34 : (Try.prog.underlying 34).isSome = true := by kernel_rfl
theorem und35 : (Try.prog.underlying 35).isSome = true := by kernel_rfl
theorem und37 : (Try.prog.underlying 37).isSome = true := by kernel_rfl
theorem und38 : (Try.prog.underlying 38).isSome = true := by kernel_rfl
theorem und40 : (Try.prog.underlying 40).isSome = true := by kernel_rfl
theorem und45 : (Try.prog.underlying 45).isSome = true := by kernel_rfl
theorem und47 : (Try.prog.underlying 47).isSome = true := by kernel_rfl
theorem und49 : (Try.prog.underlying 49).isSome = true := by kernel_rfl
theorem und51 : (Try.prog.underlying 51).isSome = true := by kernel_rfl
theorem und58 : (Try.prog.underlying 58).isSome = true := by kernel_rfl
theorem und59 : (Try.prog.underlying 59).isSome = true := by kernel_rfl
theorem und60 : (Try.prog.underlying 60).isSome = true := by kernel_rfl
theorem und64 : (Try.prog.underlying 64).isSome = true := by kernel_rfl
theorem und68 : (Try.prog.underlying 68).isSome = true := by kernel_rfl
theorem und71 : (Try.prog.underlying 71).isSome = true := by kernel_rfl
theorem und74 : (Try.prog.underlying 74).isSome = true := by kernel_rfl
theorem und76 : (Try.prog.underlying 76).isSome = true := by kernel_rfl
theorem und79 : (Try.prog.underlying 79).isSome = true := by kernel_rfl
theorem und87 : (Try.prog.underlying 87).isSome = true := by kernel_rfl
theorem und93 : (Try.prog.underlying 93).isSome = true := by kernel_rfl
theorem und96 : (Try.prog.underlying 96).isSome = true := by kernel_rfl
theorem und100 : (Try.prog.underlying 100).isSome = true := by kernel_rfl
theorem und103 : (Try.prog.underlying 103).isSome = true := by kernel_rfl
theorem und105 : (Try.prog.underlying 105).isSome = true := by kernel_rfl
theorem und107 : (Try.prog.underlying 107).isSome = true := by kernel_rfl
theorem und108 : (Try.prog.underlying 108).isSome = true := by kernel_rfl
theorem und110 : (Try.prog.underlying 110).isSome = true := by kernel_rfl
theorem und113 : (Try.prog.underlying 113).isSome = true := by kernel_rfl
theorem und115 : (Try.prog.underlying 115).isSome = true := by kernel_rfl
theorem und121 : (Try.prog.underlying 121).isSome = true := by kernel_rfl
theorem und124 : (Try.prog.underlying 124).isSome = true := by kernel_rfl
theorem und129 : (Try.prog.underlying 129).isSome = true := by kernel_rfl
theorem und130 : (Try.prog.underlying 130).isSome = true := by kernel_rfl
theorem und132 : (Try.prog.underlying 132).isSome = true := by kernel_rfl
theorem und135 : (Try.prog.underlying 135).isSome = true := by kernel_rfl
theorem und142 : (Try.prog.underlying 142).isSome = true := by kernel_rfl
theorem t0 : (aggT Try.prog 0 = some false) ∧ (sizT Try.prog 0 = some 1) ∧ (bytT Try.prog 0 = some 0) ∧ (elemT Try.prog 0 = none) ∧ (arrT Try.prog 0 = none) ∧ (intT Try.prog 0 = none) ∧ (strT Try.prog 0 = false) ∧ ((Try.prog.underlying 0).isSome = true) := ⟨agg0, siz0, byt0, elem0, arr0, int0, str0, und0⟩
theorem t1 : (aggT Try.prog 1 = some false) ∧ (sizT Try.prog 1 = some 1) ∧ (bytT Try.prog 1 = some 8) ∧ (elemT Try.prog 1 = none) ∧ (arrT Try.prog 1 = none) ∧ (intT Try.prog 1 = none) ∧ (zerT Try.prog 1 = some [.nilFunc]) ∧ (strT Try.prog 1 = false) ∧ ((Try.prog.underlying 1).isSome = true) := ⟨agg1, siz1, byt1, elem1, arr1, int1, zer1, str1, und1⟩
theorem t2 : (aggT Try.prog 2 = some false) ∧ (sizT Try.prog 2 = some 1) ∧ (bytT Try.prog 2 = some 8) ∧ (elemT Try.prog 2 = none) ∧ (arrT Try.prog 2 = none) ∧ (intT Try.prog 2 = some .i64) ∧ (zerT Try.prog 2 = some [.int .i64 0]) ∧ (strT Try.prog 2 = false) ∧ ((Try.prog.underlying 2).isSome = true) := ⟨agg2, siz2, byt2, elem2, arr2, int2, zer2, str2, und2⟩
theorem t3 : (aggT Try.prog 3 = some false) ∧ (sizT Try.prog 3 = some 1) ∧ (bytT Try.prog 3 = some 8) ∧ (elemT Try.prog 3 = none) ∧ (arrT Try.prog 3 = none) ∧ (intT Try.prog 3 = some .i64) ∧ (zerT Try.prog 3 = some [.int .i64 0]) ∧ (strT Try.prog 3 = false) ∧ ((Try.prog.underlying 3).isSome = true) := ⟨agg3, siz3, byt3, elem3, arr3, int3, zer3, str3, und3⟩
theorem t4 : (aggT Try.prog 4 = some false) ∧ (sizT Try.prog 4 = some 1) ∧ (bytT Try.prog 4 = some 1) ∧ (elemT Try.prog 4 = none) ∧ (arrT Try.prog 4 = none) ∧ (intT Try.prog 4 = none) ∧ (zerT Try.prog 4 = some [.bool false]) ∧ (strT Try.prog 4 = false) ∧ ((Try.prog.underlying 4).isSome = true) := ⟨agg4, siz4, byt4, elem4, arr4, int4, zer4, str4, und4⟩
theorem t5 : (aggT Try.prog 5 = some false) ∧ (sizT Try.prog 5 = some 1) ∧ (bytT Try.prog 5 = some 1) ∧ (elemT Try.prog 5 = none) ∧ (arrT Try.prog 5 = none) ∧ (intT Try.prog 5 = some .u8) ∧ (zerT Try.prog 5 = some [.int .u8 0]) ∧ (strT Try.prog 5 = false) ∧ ((Try.prog.underlying 5).isSome = true) := ⟨agg5, siz5, byt5, elem5, arr5, int5, zer5, str5, und5⟩
theorem t22 : (aggT Try.prog 22 = some false) ∧ (sizT Try.prog 22 = some 1) ∧ (bytT Try.prog 22 = some 24) ∧ (elemT Try.prog 22 = some 40) ∧ (arrT Try.prog 22 = none) ∧ (intT Try.prog 22 = none) ∧ (zerT Try.prog 22 = some [.slice none 0 0]) ∧ (strT Try.prog 22 = false) ∧ ((Try.prog.underlying 22).isSome = true) := ⟨agg22, siz22, byt22, elem22, arr22, int22, zer22, str22, und22⟩
theorem t23 : (aggT Try.prog 23 = some false) ∧ (sizT Try.prog 23 = some 1) ∧ (bytT Try.prog 23 = some 8) ∧ (elemT Try.prog 23 = none) ∧ (arrT Try.prog 23 = none) ∧ (intT Try.prog 23 = none) ∧ (zerT Try.prog 23 = some [.pointer none]) ∧ (strT Try.prog 23 = false) ∧ ((Try.prog.underlying 23).isSome = true) := ⟨agg23, siz23, byt23, elem23, arr23, int23, zer23, str23, und23⟩
theorem t24 : (aggT Try.prog 24 = some false) ∧ (sizT Try.prog 24 = some 1) ∧ (bytT Try.prog 24 = some 8) ∧ (elemT Try.prog 24 = none) ∧ (arrT Try.prog 24 = none) ∧ (intT Try.prog 24 = some .i64) ∧ (zerT Try.prog 24 = some [.int .i64 0]) ∧ (strT Try.prog 24 = false) ∧ ((Try.prog.underlying 24).isSome = true) := ⟨agg24, siz24, byt24, elem24, arr24, int24, zer24, str24, und24⟩
theorem t27 : (aggT Try.prog 27 = some false) ∧ (sizT Try.prog 27 = some 1) ∧ (bytT Try.prog 27 = some 4) ∧ (elemT Try.prog 27 = none) ∧ (arrT Try.prog 27 = none) ∧ (intT Try.prog 27 = some .u32) ∧ (zerT Try.prog 27 = some [.int .u32 0]) ∧ (strT Try.prog 27 = false) ∧ ((Try.prog.underlying 27).isSome = true) := ⟨agg27, siz27, byt27, elem27, arr27, int27, zer27, str27, und27⟩
theorem t29 : (aggT Try.prog 29 = some true) ∧ (sizT Try.prog 29 = some 2) ∧ (bytT Try.prog 29 = some 8) ∧ (elemT Try.prog 29 = none) ∧ (arrT Try.prog 29 = none) ∧ (intT Try.prog 29 = none) ∧ (zerT Try.prog 29 = some [.bool false, .int .u32 0]) ∧ (kdT Try.prog 60 29 = some [.bool, .int .u32]) ∧ (Try.prog.eqGuardType (Try.prog.depth) 29 = false) ∧ (sizesOk Try.prog 29 = true) ∧ (placeT Try.prog 29 0 = some (0, 1)) ∧ (placeT Try.prog 29 1 = some (1, 1)) ∧ (strT Try.prog 29 = false) ∧ (fldT Try.prog 29 0 = some (0, 4)) ∧ (fldT Try.prog 29 1 = some (1, 27)) ∧ ((Try.prog.underlying 29).isSome = true) := ⟨agg29, siz29, byt29, elem29, arr29, int29, zer29, kd29, eqg29, szs29, plc29_0, plc29_1, str29, fld29_0, fld29_1, und29⟩
theorem t30 : (aggT Try.prog 30 = some true) ∧ (sizT Try.prog 30 = some 8) ∧ (bytT Try.prog 30 = some 8) ∧ (elemT Try.prog 30 = none) ∧ (arrT Try.prog 30 = some (8, 5)) ∧ (intT Try.prog 30 = none) ∧ (zerT Try.prog 30 = some [.int .u8 0, .int .u8 0, .int .u8 0, .int .u8 0, .int .u8 0, .int .u8 0, .int .u8 0, .int .u8 0]) ∧ (kdT Try.prog 60 30 = some [.int .u8, .int .u8, .int .u8, .int .u8, .int .u8, .int .u8, .int .u8, .int .u8]) ∧ (Try.prog.eqGuardType (Try.prog.depth) 30 = false) ∧ (sizesOk Try.prog 30 = true) ∧ (placeT Try.prog 30 0 = some (0, 1)) ∧ (placeT Try.prog 30 1 = some (1, 1)) ∧ (placeT Try.prog 30 2 = some (2, 1)) ∧ (placeT Try.prog 30 3 = some (3, 1)) ∧ (placeT Try.prog 30 4 = some (4, 1)) ∧ (placeT Try.prog 30 5 = some (5, 1)) ∧ (placeT Try.prog 30 6 = some (6, 1)) ∧ (placeT Try.prog 30 7 = some (7, 1)) ∧ (placeT Try.prog 30 8 = some (8, 1)) ∧ (placeT Try.prog 30 9 = some (9, 1)) ∧ (placeT Try.prog 30 10 = some (10, 1)) ∧ (placeT Try.prog 30 11 = some (11, 1)) ∧ (strT Try.prog 30 = false) ∧ ((Try.prog.underlying 30).isSome = true) := ⟨agg30, siz30, byt30, elem30, arr30, int30, zer30, kd30, eqg30, szs30, plc30_0, plc30_1, plc30_2, plc30_3, plc30_4, plc30_5, plc30_6, plc30_7, plc30_8, plc30_9, plc30_10, plc30_11, str30, und30⟩
theorem t32 : (aggT Try.prog 32 = some true) ∧ (sizT Try.prog 32 = some 12) ∧ (bytT Try.prog 32 = some 32) ∧ (elemT Try.prog 32 = none) ∧ (arrT Try.prog 32 = none) ∧ (intT Try.prog 32 = none) ∧ (zerT Try.prog 32 = some [.bool false, .int .u32 0, .bool false, .int .i64 0, .int .u8 0, .int .u8 0, .int .u8 0, .int .u8 0, .int .u8 0, .int .u8 0, .int .u8 0, .int .u8 0]) ∧ (kdT Try.prog 60 32 = some [.bool, .int .u32, .bool, .int .i64, .int .u8, .int .u8, .int .u8, .int .u8, .int .u8, .int .u8, .int .u8, .int .u8]) ∧ (Try.prog.eqGuardType (Try.prog.depth) 32 = false) ∧ (sizesOk Try.prog 32 = true) ∧ (placeT Try.prog 32 0 = some (0, 2)) ∧ (placeT Try.prog 32 1 = some (2, 1)) ∧ (placeT Try.prog 32 2 = some (3, 1)) ∧ (placeT Try.prog 32 3 = some (4, 8)) ∧ (strT Try.prog 32 = false) ∧ (fldT Try.prog 32 0 = some (0, 29)) ∧ (fldT Try.prog 32 1 = some (2, 4)) ∧ (fldT Try.prog 32 2 = some (3, 3)) ∧ (fldT Try.prog 32 3 = some (4, 30)) ∧ ((Try.prog.underlying 32).isSome = true) := ⟨agg32, siz32, byt32, elem32, arr32, int32, zer32, kd32, eqg32, szs32, plc32_0, plc32_1, plc32_2, plc32_3, str32, fld32_0, fld32_1, fld32_2, fld32_3, und32⟩
theorem t34 : (aggT Try.prog 34 = some true) ∧ (sizT Try.prog 34 = some 14) ∧ (bytT Try.prog 34 = some 48) ∧ (elemT Try.prog 34 = none) ∧ (arrT Try.prog 34 = none) ∧ (intT Try.prog 34 = none) ∧ (zerT Try.prog 34 = some [.bool false, .int .u32 0, .bool false, .int .i64 0, .int .u8 0, .int .u8 0, .int .u8 0, .int .u8 0, .int .u8 0, .int .u8 0, .int .u8 0, .int .u8 0, .bool false, .int .i64 0]) ∧ (kdT Try.prog 60 34 = some [.bool, .int .u32, .bool, .int .i64, .int .u8, .int .u8, .int .u8, .int .u8, .int .u8, .int .u8, .int .u8, .int .u8, .bool, .int .i64]) ∧ (Try.prog.eqGuardType (Try.prog.depth) 34 = false) ∧ (sizesOk Try.prog 34 = true) ∧ (placeT Try.prog 34 0 = some (0, 12)) ∧ (placeT Try.prog 34 1 = some (12, 1)) ∧ (placeT Try.prog 34 2 = some (13, 1)) ∧ (strT Try.prog 34 = false) ∧ (fldT Try.prog 34 0 = some (0, 32)) ∧ (fldT Try.prog 34 1 = some (12, 4)) ∧ (fldT Try.prog 34 2 = some (13, 3)) ∧ ((Try.prog.underlying 34).isSome = true) := ⟨agg34, siz34, byt34, elem34, arr34, int34, zer34, kd34, eqg34, szs34, plc34_0, plc34_1, plc34_2, str34, fld34_0, fld34_1, fld34_2, und34⟩
theorem t35 : (aggT Try.prog 35 = some false) ∧ (sizT Try.prog 35 = some 1) ∧ (bytT Try.prog 35 = some 8) ∧ (elemT Try.prog 35 = none) ∧ (arrT Try.prog 35 = none) ∧ (intT Try.prog 35 = some .i64) ∧ (zerT Try.prog 35 = some [.int .i64 0]) ∧ (strT Try.prog 35 = false) ∧ ((Try.prog.underlying 35).isSome = true) := ⟨agg35, siz35, byt35, elem35, arr35, int35, zer35, str35, und35⟩
theorem t37 : (aggT Try.prog 37 = some true) ∧ (sizT Try.prog 37 = some 17) ∧ (bytT Try.prog 37 = some 48) ∧ (elemT Try.prog 37 = none) ∧ (arrT Try.prog 37 = none) ∧ (intT Try.prog 37 = none) ∧ (zerT Try.prog 37 = some [.bool false, .bool false, .bool false, .bool false, .int .i64 0, .bool false, .int .u32 0, .bool false, .int .i64 0, .int .u8 0, .int .u8 0, .int .u8 0, .int .u8 0, .int .u8 0, .int .u8 0, .int .u8 0, .int .u8 0]) ∧ (kdT Try.prog 60 37 = some [.bool, .bool, .bool, .bool, .int .i64, .bool, .int .u32, .bool, .int .i64, .int .u8, .int .u8, .int .u8, .int .u8, .int .u8, .int .u8, .int .u8, .int .u8]) ∧ (Try.prog.eqGuardType (Try.prog.depth) 37 = false) ∧ (sizesOk Try.prog 37 = true) ∧ (placeT Try.prog 37 0 = some (0, 1)) ∧ (placeT Try.prog 37 1 = some (1, 1)) ∧ (placeT Try.prog 37 2 = some (2, 1)) ∧ (placeT Try.prog 37 3 = some (3, 1)) ∧ (placeT Try.prog 37 4 = some (4, 1)) ∧ (placeT Try.prog 37 5 = some (5, 12)) ∧ (strT Try.prog 37 = false) ∧ (fldT Try.prog 37 0 = some (0, 4)) ∧ (fldT Try.prog 37 1 = some (1, 4)) ∧ (fldT Try.prog 37 2 = some (2, 4)) ∧ (fldT Try.prog 37 3 = some (3, 4)) ∧ (fldT Try.prog 37 4 = some (4, 35)) ∧ (fldT Try.prog 37 5 = some (5, 32)) ∧ ((Try.prog.underlying 37).isSome = true) := ⟨agg37, siz37, byt37, elem37, arr37, int37, zer37, kd37, eqg37, szs37, plc37_0, plc37_1, plc37_2, plc37_3, plc37_4, plc37_5, str37, fld37_0, fld37_1, fld37_2, fld37_3, fld37_4, fld37_5, und37⟩
theorem t38 : (aggT Try.prog 38 = some false) ∧ (sizT Try.prog 38 = some 1) ∧ (bytT Try.prog 38 = some 8) ∧ (elemT Try.prog 38 = none) ∧ (arrT Try.prog 38 = none) ∧ (intT Try.prog 38 = some .i64) ∧ (zerT Try.prog 38 = some [.int .i64 0]) ∧ (strT Try.prog 38 = false) ∧ ((Try.prog.underlying 38).isSome = true) := ⟨agg38, siz38, byt38, elem38, arr38, int38, zer38, str38, und38⟩
theorem t40 : (aggT Try.prog 40 = some true) ∧ (sizT Try.prog 40 = some 34) ∧ (bytT Try.prog 40 = some 120) ∧ (elemT Try.prog 40 = none) ∧ (arrT Try.prog 40 = none) ∧ (intT Try.prog 40 = none) ∧ (zerT Try.prog 40 = some [.int .i64 0, .bool false, .int .u32 0, .bool false, .int .i64 0, .int .u8 0, .int .u8 0, .int .u8 0, .int .u8 0, .int .u8 0, .int .u8 0, .int .u8 0, .int .u8 0, .bool false, .int .i64 0, .bool false, .bool false, .bool false, .bool false, .int .i64 0, .bool false, .int .u32 0, .bool false, .int .i64 0, .int .u8 0, .int .u8 0, .int .u8 0, .int .u8 0, .int .u8 0, .int .u8 0, .int .u8 0, .int .u8 0, .int .i64 0, .int .i64 0]) ∧ (kdT Try.prog 60 40 = some [.int .i64, .bool, .int .u32, .bool, .int .i64, .int .u8, .int .u8, .int .u8, .int .u8, .int .u8, .int .u8, .int .u8, .int .u8, .bool, .int .i64, .bool, .bool, .bool, .bool, .int .i64, .bool, .int .u32, .bool, .int .i64, .int .u8, .int .u8, .int .u8, .int .u8, .int .u8, .int .u8, .int .u8, .int .u8, .int .i64, .int .i64]) ∧ (Try.prog.eqGuardType (Try.prog.depth) 40 = false) ∧ (sizesOk Try.prog 40 = true) ∧ (placeT Try.prog 40 0 = some (0, 1)) ∧ (placeT Try.prog 40 1 = some (1, 14)) ∧ (placeT Try.prog 40 2 = some (15, 17)) ∧ (placeT Try.prog 40 3 = some (32, 1)) ∧ (placeT Try.prog 40 4 = some (33, 1)) ∧ (strT Try.prog 40 = false) ∧ (fldT Try.prog 40 0 = some (0, 3)) ∧ (fldT Try.prog 40 1 = some (1, 34)) ∧ (fldT Try.prog 40 2 = some (15, 37)) ∧ (fldT Try.prog 40 3 = some (32, 38)) ∧ (fldT Try.prog 40 4 = some (33, 2)) ∧ ((Try.prog.underlying 40).isSome = true) := ⟨agg40, siz40, byt40, elem40, arr40, int40, zer40, kd40, eqg40, szs40, plc40_0, plc40_1, plc40_2, plc40_3, plc40_4, str40, fld40_0, fld40_1, fld40_2, fld40_3, fld40_4, und40⟩
theorem t45 : (aggT Try.prog 45 = some false) ∧ (sizT Try.prog 45 = some 1) ∧ (bytT Try.prog 45 = some 24) ∧ (elemT Try.prog 45 = some 51) ∧ (arrT Try.prog 45 = none) ∧ (intT Try.prog 45 = none) ∧ (zerT Try.prog 45 = some [.slice none 0 0]) ∧ (strT Try.prog 45 = false) ∧ ((Try.prog.underlying 45).isSome = true) := ⟨agg45, siz45, byt45, elem45, arr45, int45, zer45, str45, und45⟩
theorem t47 : (aggT Try.prog 47 = some false) ∧ (sizT Try.prog 47 = some 1) ∧ (bytT Try.prog 47 = some 24) ∧ (elemT Try.prog 47 = some 3) ∧ (arrT Try.prog 47 = none) ∧ (intT Try.prog 47 = none) ∧ (zerT Try.prog 47 = some [.slice none 0 0]) ∧ (strT Try.prog 47 = false) ∧ ((Try.prog.underlying 47).isSome = true) := ⟨agg47, siz47, byt47, elem47, arr47, int47, zer47, str47, und47⟩
theorem t49 : (aggT Try.prog 49 = some false) ∧ (sizT Try.prog 49 = some 1) ∧ (bytT Try.prog 49 = some 8) ∧ (elemT Try.prog 49 = none) ∧ (arrT Try.prog 49 = none) ∧ (intT Try.prog 49 = some .i64) ∧ (zerT Try.prog 49 = some [.int .i64 0]) ∧ (strT Try.prog 49 = false) ∧ ((Try.prog.underlying 49).isSome = true) := ⟨agg49, siz49, byt49, elem49, arr49, int49, zer49, str49, und49⟩
theorem t51 : (aggT Try.prog 51 = some true) ∧ (sizT Try.prog 51 = some 3) ∧ (bytT Try.prog 51 = some 24) ∧ (elemT Try.prog 51 = none) ∧ (arrT Try.prog 51 = none) ∧ (intT Try.prog 51 = none) ∧ (zerT Try.prog 51 = some [.int .i64 0, .int .i64 0, .int .i64 0]) ∧ (kdT Try.prog 60 51 = some [.int .i64, .int .i64, .int .i64]) ∧ (Try.prog.eqGuardType (Try.prog.depth) 51 = false) ∧ (sizesOk Try.prog 51 = true) ∧ (placeT Try.prog 51 0 = some (0, 1)) ∧ (placeT Try.prog 51 1 = some (1, 1)) ∧ (placeT Try.prog 51 2 = some (2, 1)) ∧ (strT Try.prog 51 = false) ∧ (fldT Try.prog 51 0 = some (0, 3)) ∧ (fldT Try.prog 51 1 = some (1, 49)) ∧ (fldT Try.prog 51 2 = some (2, 2)) ∧ ((Try.prog.underlying 51).isSome = true) := ⟨agg51, siz51, byt51, elem51, arr51, int51, zer51, kd51, eqg51, szs51, plc51_0, plc51_1, plc51_2, str51, fld51_0, fld51_1, fld51_2, und51⟩
theorem t58 : (aggT Try.prog 58 = some true) ∧ (sizT Try.prog 58 = some 2) ∧ (bytT Try.prog 58 = some 16) ∧ (elemT Try.prog 58 = none) ∧ (arrT Try.prog 58 = some (2, 3)) ∧ (intT Try.prog 58 = none) ∧ (zerT Try.prog 58 = some [.int .i64 0, .int .i64 0]) ∧ (kdT Try.prog 60 58 = some [.int .i64, .int .i64]) ∧ (Try.prog.eqGuardType (Try.prog.depth) 58 = false) ∧ (sizesOk Try.prog 58 = true) ∧ (placeT Try.prog 58 0 = some (0, 1)) ∧ (placeT Try.prog 58 1 = some (1, 1)) ∧ (placeT Try.prog 58 2 = some (2, 1)) ∧ (placeT Try.prog 58 3 = some (3, 1)) ∧ (placeT Try.prog 58 4 = some (4, 1)) ∧ (placeT Try.prog 58 5 = some (5, 1)) ∧ (placeT Try.prog 58 6 = some (6, 1)) ∧ (placeT Try.prog 58 7 = some (7, 1)) ∧ (placeT Try.prog 58 8 = some (8, 1)) ∧ (placeT Try.prog 58 9 = some (9, 1)) ∧ (placeT Try.prog 58 10 = some (10, 1)) ∧ (placeT Try.prog 58 11 = some (11, 1)) ∧ (strT Try.prog 58 = false) ∧ ((Try.prog.underlying 58).isSome = true) := ⟨agg58, siz58, byt58, elem58, arr58, int58, zer58, kd58, eqg58, szs58, plc58_0, plc58_1, plc58_2, plc58_3, plc58_4, plc58_5, plc58_6, plc58_7, plc58_8, plc58_9, plc58_10, plc58_11, str58, und58⟩
theorem t59 : (aggT Try.prog 59 = some false) ∧ (sizT Try.prog 59 = some 1) ∧ (bytT Try.prog 59 = some 24) ∧ (elemT Try.prog 59 = some 113) ∧ (arrT Try.prog 59 = none) ∧ (intT Try.prog 59 = none) ∧ (zerT Try.prog 59 = some [.slice none 0 0]) ∧ (strT Try.prog 59 = false) ∧ ((Try.prog.underlying 59).isSome = true) := ⟨agg59, siz59, byt59, elem59, arr59, int59, zer59, str59, und59⟩
theorem t60 : (aggT Try.prog 60 = some false) ∧ (sizT Try.prog 60 = some 1) ∧ (bytT Try.prog 60 = some 8) ∧ (elemT Try.prog 60 = none) ∧ (arrT Try.prog 60 = none) ∧ (intT Try.prog 60 = none) ∧ (zerT Try.prog 60 = some [.pointer none]) ∧ (strT Try.prog 60 = false) ∧ ((Try.prog.underlying 60).isSome = true) := ⟨agg60, siz60, byt60, elem60, arr60, int60, zer60, str60, und60⟩
theorem t64 : (aggT Try.prog 64 = some true) ∧ (sizT Try.prog 64 = some 2) ∧ (bytT Try.prog 64 = some 16) ∧ (elemT Try.prog 64 = none) ∧ (arrT Try.prog 64 = none) ∧ (intT Try.prog 64 = none) ∧ (zerT Try.prog 64 = some [.pointer none, .pointer none]) ∧ (Try.prog.eqGuardType (Try.prog.depth) 64 = false) ∧ (sizesOk Try.prog 64 = true) ∧ (placeT Try.prog 64 0 = some (0, 1)) ∧ (placeT Try.prog 64 1 = some (1, 1)) ∧ (strT Try.prog 64 = false) ∧ (fldT Try.prog 64 0 = some (0, 23)) ∧ (fldT Try.prog 64 1 = some (1, 60)) ∧ ((Try.prog.underlying 64).isSome = true) := ⟨agg64, siz64, byt64, elem64, arr64, int64, zer64, eqg64, szs64, plc64_0, plc64_1, str64, fld64_0, fld64_1, und64⟩
theorem t68 : (aggT Try.prog 68 = some false) ∧ (sizT Try.prog 68 = some 1) ∧ (bytT Try.prog 68 = some 8) ∧ (elemT Try.prog 68 = none) ∧ (arrT Try.prog 68 = none) ∧ (intT Try.prog 68 = none) ∧ (zerT Try.prog 68 = some [.pointer none]) ∧ (strT Try.prog 68 = false) ∧ ((Try.prog.underlying 68).isSome = true) := ⟨agg68, siz68, byt68, elem68, arr68, int68, zer68, str68, und68⟩
theorem t71 : (aggT Try.prog 71 = some false) ∧ (sizT Try.prog 71 = some 1) ∧ (bytT Try.prog 71 = some 8) ∧ (elemT Try.prog 71 = none) ∧ (arrT Try.prog 71 = none) ∧ (intT Try.prog 71 = none) ∧ (zerT Try.prog 71 = some [.pointer none]) ∧ (strT Try.prog 71 = false) ∧ ((Try.prog.underlying 71).isSome = true) := ⟨agg71, siz71, byt71, elem71, arr71, int71, zer71, str71, und71⟩
theorem t74 : (aggT Try.prog 74 = some false) ∧ (sizT Try.prog 74 = some 1) ∧ (bytT Try.prog 74 = some 8) ∧ (elemT Try.prog 74 = none) ∧ (arrT Try.prog 74 = none) ∧ (intT Try.prog 74 = none) ∧ (zerT Try.prog 74 = some [.pointer none]) ∧ (strT Try.prog 74 = false) ∧ ((Try.prog.underlying 74).isSome = true) := ⟨agg74, siz74, byt74, elem74, arr74, int74, zer74, str74, und74⟩
theorem t76 : (aggT Try.prog 76 = some true) ∧ (sizT Try.prog 76 = some 7) ∧ (bytT Try.prog 76 = some 72) ∧ (elemT Try.prog 76 = none) ∧ (arrT Try.prog 76 = none) ∧ (intT Try.prog 76 = none) ∧ (zerT Try.prog 76 = some [.pointer none, .pointer none, .pointer none, .int .i64 0, .int .i64 0, .int .i64 0, .slice none 0 0]) ∧ (Try.prog.eqGuardType (Try.prog.depth) 76 = false) ∧ (sizesOk Try.prog 76 = true) ∧ (placeT Try.prog 76 0 = some (0, 1)) ∧ (placeT Try.prog 76 1 = some (1, 1)) ∧ (placeT Try.prog 76 2 = some (2, 1)) ∧ (placeT Try.prog 76 3 = some (3, 1)) ∧ (placeT Try.prog 76 4 = some (4, 1)) ∧ (placeT Try.prog 76 5 = some (5, 1)) ∧ (placeT Try.prog 76 6 = some (6, 1)) ∧ (strT Try.prog 76 = false) ∧ (fldT Try.prog 76 0 = some (0, 68)) ∧ (fldT Try.prog 76 1 = some (1, 71)) ∧ (fldT Try.prog 76 2 = some (2, 74)) ∧ (fldT Try.prog 76 3 = some (3, 38)) ∧ (fldT Try.prog 76 4 = some (4, 2)) ∧ (fldT Try.prog 76 5 = some (5, 2)) ∧ (fldT Try.prog 76 6 = some (6, 45)) ∧ ((Try.prog.underlying 76).isSome = true) := ⟨agg76, siz76, byt76, elem76, arr76, int76, zer76, eqg76, szs76, plc76_0, plc76_1, plc76_2, plc76_3, plc76_4, plc76_5, plc76_6, str76, fld76_0, fld76_1, fld76_2, fld76_3, fld76_4, fld76_5, fld76_6, und76⟩
theorem t79 : (aggT Try.prog 79 = some true) ∧ (sizT Try.prog 79 = some 2) ∧ (bytT Try.prog 79 = some 16) ∧ (elemT Try.prog 79 = none) ∧ (arrT Try.prog 79 = none) ∧ (intT Try.prog 79 = none) ∧ (zerT Try.prog 79 = some [.int .i64 0, .bool false]) ∧ (kdT Try.prog 60 79 = some [.int .i64, .bool]) ∧ (Try.prog.eqGuardType (Try.prog.depth) 79 = false) ∧ (sizesOk Try.prog 79 = true) ∧ (placeT Try.prog 79 0 = some (0, 1)) ∧ (placeT Try.prog 79 1 = some (1, 1)) ∧ (strT Try.prog 79 = false) ∧ (fldT Try.prog 79 0 = some (0, 3)) ∧ (fldT Try.prog 79 1 = some (1, 4)) ∧ ((Try.prog.underlying 79).isSome = true) := ⟨agg79, siz79, byt79, elem79, arr79, int79, zer79, kd79, eqg79, szs79, plc79_0, plc79_1, str79, fld79_0, fld79_1, und79⟩
theorem t87 : (aggT Try.prog 87 = some true) ∧ (sizT Try.prog 87 = some 14) ∧ (bytT Try.prog 87 = some 48) ∧ (elemT Try.prog 87 = none) ∧ (arrT Try.prog 87 = none) ∧ (intT Try.prog 87 = none) ∧ (zerT Try.prog 87 = some [.bool false, .int .u32 0, .bool false, .int .i64 0, .int .u8 0, .int .u8 0, .int .u8 0, .int .u8 0, .int .u8 0, .int .u8 0, .int .u8 0, .int .u8 0, .int .i64 0, .int .i64 0]) ∧ (kdT Try.prog 60 87 = some [.bool, .int .u32, .bool, .int .i64, .int .u8, .int .u8, .int .u8, .int .u8, .int .u8, .int .u8, .int .u8, .int .u8, .int .i64, .int .i64]) ∧ (Try.prog.eqGuardType (Try.prog.depth) 87 = false) ∧ (sizesOk Try.prog 87 = true) ∧ (placeT Try.prog 87 0 = some (0, 12)) ∧ (placeT Try.prog 87 1 = some (12, 1)) ∧ (placeT Try.prog 87 2 = some (13, 1)) ∧ (strT Try.prog 87 = false) ∧ (fldT Try.prog 87 0 = some (0, 32)) ∧ (fldT Try.prog 87 1 = some (12, 2)) ∧ (fldT Try.prog 87 2 = some (13, 2)) ∧ ((Try.prog.underlying 87).isSome = true) := ⟨agg87, siz87, byt87, elem87, arr87, int87, zer87, kd87, eqg87, szs87, plc87_0, plc87_1, plc87_2, str87, fld87_0, fld87_1, fld87_2, und87⟩
theorem t93 : (aggT Try.prog 93 = some false) ∧ (sizT Try.prog 93 = some 1) ∧ (bytT Try.prog 93 = some 8) ∧ (elemT Try.prog 93 = none) ∧ (arrT Try.prog 93 = none) ∧ (intT Try.prog 93 = none) ∧ (zerT Try.prog 93 = some [.pointer none]) ∧ (strT Try.prog 93 = false) ∧ ((Try.prog.underlying 93).isSome = true) := ⟨agg93, siz93, byt93, elem93, arr93, int93, zer93, str93, und93⟩
theorem t96 : (aggT Try.prog 96 = some false) ∧ (sizT Try.prog 96 = some 1) ∧ (bytT Try.prog 96 = some 8) ∧ (elemT Try.prog 96 = none) ∧ (arrT Try.prog 96 = none) ∧ (intT Try.prog 96 = none) ∧ (zerT Try.prog 96 = some [.pointer none]) ∧ (strT Try.prog 96 = false) ∧ ((Try.prog.underlying 96).isSome = true) := ⟨agg96, siz96, byt96, elem96, arr96, int96, zer96, str96, und96⟩
theorem t100 : (aggT Try.prog 100 = some true) ∧ (sizT Try.prog 100 = some 8) ∧ (bytT Try.prog 100 = some 80) ∧ (elemT Try.prog 100 = none) ∧ (arrT Try.prog 100 = none) ∧ (intT Try.prog 100 = none) ∧ (zerT Try.prog 100 = some [.pointer none, .pointer none, .int .i64 0, .bool false, .int .i64 0, .int .i64 0, .int .i64 0, .slice none 0 0]) ∧ (Try.prog.eqGuardType (Try.prog.depth) 100 = false) ∧ (sizesOk Try.prog 100 = true) ∧ (placeT Try.prog 100 0 = some (0, 1)) ∧ (placeT Try.prog 100 1 = some (1, 1)) ∧ (placeT Try.prog 100 2 = some (2, 1)) ∧ (placeT Try.prog 100 3 = some (3, 1)) ∧ (placeT Try.prog 100 4 = some (4, 1)) ∧ (placeT Try.prog 100 5 = some (5, 1)) ∧ (placeT Try.prog 100 6 = some (6, 1)) ∧ (placeT Try.prog 100 7 = some (7, 1)) ∧ (strT Try.prog 100 = false) ∧ (fldT Try.prog 100 0 = some (0, 93)) ∧ (fldT Try.prog 100 1 = some (1, 96)) ∧ (fldT Try.prog 100 2 = some (2, 3)) ∧ (fldT Try.prog 100 3 = some (3, 4)) ∧ (fldT Try.prog 100 4 = some (4, 38)) ∧ (fldT Try.prog 100 5 = some (5, 2)) ∧ (fldT Try.prog 100 6 = some (6, 2)) ∧ (fldT Try.prog 100 7 = some (7, 45)) ∧ ((Try.prog.underlying 100).isSome = true) := ⟨agg100, siz100, byt100, elem100, arr100, int100, zer100, eqg100, szs100, plc100_0, plc100_1, plc100_2, plc100_3, plc100_4, plc100_5, plc100_6, plc100_7, str100, fld100_0, fld100_1, fld100_2, fld100_3, fld100_4, fld100_5, fld100_6, fld100_7, und100⟩
theorem t103 : (aggT Try.prog 103 = some false) ∧ (sizT Try.prog 103 = some 1) ∧ (bytT Try.prog 103 = some 24) ∧ (elemT Try.prog 103 = some 87) ∧ (arrT Try.prog 103 = none) ∧ (intT Try.prog 103 = none) ∧ (zerT Try.prog 103 = some [.slice none 0 0]) ∧ (strT Try.prog 103 = false) ∧ ((Try.prog.underlying 103).isSome = true) := ⟨agg103, siz103, byt103, elem103, arr103, int103, zer103, str103, und103⟩
theorem t105 : (aggT Try.prog 105 = some true) ∧ (sizT Try.prog 105 = some 4) ∧ (bytT Try.prog 105 = some 64) ∧ (elemT Try.prog 105 = none) ∧ (arrT Try.prog 105 = none) ∧ (intT Try.prog 105 = none) ∧ (zerT Try.prog 105 = some [.int .i64 0, .slice none 0 0, .slice none 0 0, .bool false]) ∧ (Try.prog.eqGuardType (Try.prog.depth) 105 = false) ∧ (sizesOk Try.prog 105 = true) ∧ (placeT Try.prog 105 0 = some (0, 1)) ∧ (placeT Try.prog 105 1 = some (1, 1)) ∧ (placeT Try.prog 105 2 = some (2, 1)) ∧ (placeT Try.prog 105 3 = some (3, 1)) ∧ (strT Try.prog 105 = false) ∧ (fldT Try.prog 105 0 = some (0, 3)) ∧ (fldT Try.prog 105 1 = some (1, 59)) ∧ (fldT Try.prog 105 2 = some (2, 103)) ∧ (fldT Try.prog 105 3 = some (3, 4)) ∧ ((Try.prog.underlying 105).isSome = true) := ⟨agg105, siz105, byt105, elem105, arr105, int105, zer105, eqg105, szs105, plc105_0, plc105_1, plc105_2, plc105_3, str105, fld105_0, fld105_1, fld105_2, fld105_3, und105⟩
theorem t107 : (aggT Try.prog 107 = some false) ∧ (sizT Try.prog 107 = some 1) ∧ (bytT Try.prog 107 = some 8) ∧ (elemT Try.prog 107 = none) ∧ (arrT Try.prog 107 = none) ∧ (intT Try.prog 107 = none) ∧ (zerT Try.prog 107 = some [.pointer none]) ∧ (strT Try.prog 107 = false) ∧ ((Try.prog.underlying 107).isSome = true) := ⟨agg107, siz107, byt107, elem107, arr107, int107, zer107, str107, und107⟩
theorem t108 : (aggT Try.prog 108 = some true) ∧ (sizT Try.prog 108 = some 8) ∧ (bytT Try.prog 108 = some 64) ∧ (elemT Try.prog 108 = none) ∧ (arrT Try.prog 108 = some (8, 107)) ∧ (intT Try.prog 108 = none) ∧ (zerT Try.prog 108 = some [.pointer none, .pointer none, .pointer none, .pointer none, .pointer none, .pointer none, .pointer none, .pointer none]) ∧ (Try.prog.eqGuardType (Try.prog.depth) 108 = false) ∧ (sizesOk Try.prog 108 = true) ∧ (placeT Try.prog 108 0 = some (0, 1)) ∧ (placeT Try.prog 108 1 = some (1, 1)) ∧ (placeT Try.prog 108 2 = some (2, 1)) ∧ (placeT Try.prog 108 3 = some (3, 1)) ∧ (placeT Try.prog 108 4 = some (4, 1)) ∧ (placeT Try.prog 108 5 = some (5, 1)) ∧ (placeT Try.prog 108 6 = some (6, 1)) ∧ (placeT Try.prog 108 7 = some (7, 1)) ∧ (placeT Try.prog 108 8 = some (8, 1)) ∧ (placeT Try.prog 108 9 = some (9, 1)) ∧ (placeT Try.prog 108 10 = some (10, 1)) ∧ (placeT Try.prog 108 11 = some (11, 1)) ∧ (strT Try.prog 108 = false) ∧ ((Try.prog.underlying 108).isSome = true) := ⟨agg108, siz108, byt108, elem108, arr108, int108, zer108, eqg108, szs108, plc108_0, plc108_1, plc108_2, plc108_3, plc108_4, plc108_5, plc108_6, plc108_7, plc108_8, plc108_9, plc108_10, plc108_11, str108, und108⟩
theorem t110 : (aggT Try.prog 110 = some true) ∧ (sizT Try.prog 110 = some 9) ∧ (bytT Try.prog 110 = some 72) ∧ (elemT Try.prog 110 = none) ∧ (arrT Try.prog 110 = none) ∧ (intT Try.prog 110 = none) ∧ (zerT Try.prog 110 = some [.int .i64 0, .pointer none, .pointer none, .pointer none, .pointer none, .pointer none, .pointer none, .pointer none, .pointer none]) ∧ (Try.prog.eqGuardType (Try.prog.depth) 110 = false) ∧ (sizesOk Try.prog 110 = true) ∧ (placeT Try.prog 110 0 = some (0, 1)) ∧ (placeT Try.prog 110 1 = some (1, 8)) ∧ (strT Try.prog 110 = false) ∧ (fldT Try.prog 110 0 = some (0, 3)) ∧ (fldT Try.prog 110 1 = some (1, 108)) ∧ ((Try.prog.underlying 110).isSome = true) := ⟨agg110, siz110, byt110, elem110, arr110, int110, zer110, eqg110, szs110, plc110_0, plc110_1, str110, fld110_0, fld110_1, und110⟩
theorem t113 : (aggT Try.prog 113 = some true) ∧ (sizT Try.prog 113 = some 3) ∧ (bytT Try.prog 113 = some 12) ∧ (elemT Try.prog 113 = none) ∧ (arrT Try.prog 113 = none) ∧ (intT Try.prog 113 = none) ∧ (zerT Try.prog 113 = some [.bool false, .int .u32 0, .int .u32 0]) ∧ (kdT Try.prog 60 113 = some [.bool, .int .u32, .int .u32]) ∧ (Try.prog.eqGuardType (Try.prog.depth) 113 = false) ∧ (sizesOk Try.prog 113 = true) ∧ (placeT Try.prog 113 0 = some (0, 1)) ∧ (placeT Try.prog 113 1 = some (1, 1)) ∧ (placeT Try.prog 113 2 = some (2, 1)) ∧ (strT Try.prog 113 = false) ∧ (fldT Try.prog 113 0 = some (0, 4)) ∧ (fldT Try.prog 113 1 = some (1, 27)) ∧ (fldT Try.prog 113 2 = some (2, 27)) ∧ ((Try.prog.underlying 113).isSome = true) := ⟨agg113, siz113, byt113, elem113, arr113, int113, zer113, kd113, eqg113, szs113, plc113_0, plc113_1, plc113_2, str113, fld113_0, fld113_1, fld113_2, und113⟩
theorem t115 : (aggT Try.prog 115 = some true) ∧ (sizT Try.prog 115 = some 4) ∧ (bytT Try.prog 115 = some 64) ∧ (elemT Try.prog 115 = none) ∧ (arrT Try.prog 115 = none) ∧ (intT Try.prog 115 = none) ∧ (zerT Try.prog 115 = some [.int .i64 0, .slice none 0 0, .slice none 0 0, .bool false]) ∧ (Try.prog.eqGuardType (Try.prog.depth) 115 = false) ∧ (sizesOk Try.prog 115 = true) ∧ (placeT Try.prog 115 0 = some (0, 1)) ∧ (placeT Try.prog 115 1 = some (1, 1)) ∧ (placeT Try.prog 115 2 = some (2, 1)) ∧ (placeT Try.prog 115 3 = some (3, 1)) ∧ (strT Try.prog 115 = false) ∧ (fldT Try.prog 115 0 = some (0, 3)) ∧ (fldT Try.prog 115 1 = some (1, 59)) ∧ (fldT Try.prog 115 2 = some (2, 103)) ∧ (fldT Try.prog 115 3 = some (3, 4)) ∧ ((Try.prog.underlying 115).isSome = true) := ⟨agg115, siz115, byt115, elem115, arr115, int115, zer115, eqg115, szs115, plc115_0, plc115_1, plc115_2, plc115_3, str115, fld115_0, fld115_1, fld115_2, fld115_3, und115⟩
theorem t121 : (aggT Try.prog 121 = some false) ∧ (sizT Try.prog 121 = some 1) ∧ (bytT Try.prog 121 = some 8) ∧ (elemT Try.prog 121 = none) ∧ (arrT Try.prog 121 = none) ∧ (intT Try.prog 121 = some .u64) ∧ (zerT Try.prog 121 = some [.int .u64 0]) ∧ (strT Try.prog 121 = false) ∧ ((Try.prog.underlying 121).isSome = true) := ⟨agg121, siz121, byt121, elem121, arr121, int121, zer121, str121, und121⟩
theorem t124 : (aggT Try.prog 124 = some false) ∧ (sizT Try.prog 124 = some 1) ∧ (bytT Try.prog 124 = some 24) ∧ (elemT Try.prog 124 = some 107) ∧ (arrT Try.prog 124 = none) ∧ (intT Try.prog 124 = none) ∧ (zerT Try.prog 124 = some [.slice none 0 0]) ∧ (strT Try.prog 124 = false) ∧ ((Try.prog.underlying 124).isSome = true) := ⟨agg124, siz124, byt124, elem124, arr124, int124, zer124, str124, und124⟩
theorem t129 : (aggT Try.prog 129 = some false) ∧ (sizT Try.prog 129 = some 1) ∧ (bytT Try.prog 129 = some 24) ∧ (elemT Try.prog 129 = some 34) ∧ (arrT Try.prog 129 = none) ∧ (intT Try.prog 129 = none) ∧ (zerT Try.prog 129 = some [.slice none 0 0]) ∧ (strT Try.prog 129 = false) ∧ ((Try.prog.underlying 129).isSome = true) := ⟨agg129, siz129, byt129, elem129, arr129, int129, zer129, str129, und129⟩
theorem t130 : (aggT Try.prog 130 = some false) ∧ (sizT Try.prog 130 = some 1) ∧ (bytT Try.prog 130 = some 24) ∧ (elemT Try.prog 130 = some 4) ∧ (arrT Try.prog 130 = none) ∧ (intT Try.prog 130 = none) ∧ (zerT Try.prog 130 = some [.slice none 0 0]) ∧ (strT Try.prog 130 = false) ∧ ((Try.prog.underlying 130).isSome = true) := ⟨agg130, siz130, byt130, elem130, arr130, int130, zer130, str130, und130⟩
theorem t132 : (aggT Try.prog 132 = some true) ∧ (sizT Try.prog 132 = some 2) ∧ (bytT Try.prog 132 = some 48) ∧ (elemT Try.prog 132 = none) ∧ (arrT Try.prog 132 = none) ∧ (intT Try.prog 132 = none) ∧ (zerT Try.prog 132 = some [.slice none 0 0, .slice none 0 0]) ∧ (Try.prog.eqGuardType (Try.prog.depth) 132 = false) ∧ (sizesOk Try.prog 132 = true) ∧ (placeT Try.prog 132 0 = some (0, 1)) ∧ (placeT Try.prog 132 1 = some (1, 1)) ∧ (strT Try.prog 132 = false) ∧ (fldT Try.prog 132 0 = some (0, 129)) ∧ (fldT Try.prog 132 1 = some (1, 130)) ∧ ((Try.prog.underlying 132).isSome = true) := ⟨agg132, siz132, byt132, elem132, arr132, int132, zer132, eqg132, szs132, plc132_0, plc132_1, str132, fld132_0, fld132_1, und132⟩
theorem t135 : (aggT Try.prog 135 = some false) ∧ (sizT Try.prog 135 = some 1) ∧ (bytT Try.prog 135 = some 24) ∧ (elemT Try.prog 135 = some 5) ∧ (arrT Try.prog 135 = none) ∧ (intT Try.prog 135 = none) ∧ (zerT Try.prog 135 = some [.slice none 0 0]) ∧ (strT Try.prog 135 = false) ∧ ((Try.prog.underlying 135).isSome = true) := ⟨agg135, siz135, byt135, elem135, arr135, int135, zer135, str135, und135⟩
theorem t142 : (aggT Try.prog 142 = some false) ∧ (sizT Try.prog 142 = some 1) ∧ (bytT Try.prog 142 = some 8) ∧ (elemT Try.prog 142 = none) ∧ (arrT Try.prog 142 = none) ∧ (intT Try.prog 142 = some .u64) ∧ (zerT Try.prog 142 = some [.int .u64 0]) ∧ (strT Try.prog 142 = false) ∧ ((Try.prog.underlying 142).isSome = true) := ⟨agg142, siz142, byt142, elem142, arr142, int142, zer142, str142, und142⟩
end Go.Proofs.Ytghigcdpinogaaa.Ty
