/- Facts of this seat's types, each asked of the kernel. -/
import Derived.Test.YtfbkiocijnjmgaaDoorProg
import Derived.Test.YtfbkiocijnjmgaaDoorAbC
import Derived.KernelRfl
set_option linter.all false
namespace Go.Proofs.YtfbkiocijnjmgaaDoor.Ty
open Go Go.Ab
theorem agg0 : aggT Tryd.prog 0 = some false := by kernel_rfl
theorem siz0 : sizT Tryd.prog 0 = some 1 := by kernel_rfl
theorem byt0 : bytT Tryd.prog 0 = some 0 := by kernel_rfl
theorem elem0 : elemT Tryd.prog 0 = none := by kernel_rfl
theorem arr0 : arrT Tryd.prog 0 = none := by kernel_rfl
theorem int0 : intT Tryd.prog 0 = none := by kernel_rfl
theorem str0 : strT Tryd.prog 0 = false := by kernel_rfl
theorem agg1 : aggT Tryd.prog 1 = some false := by kernel_rfl
theorem siz1 : sizT Tryd.prog 1 = some 1 := by kernel_rfl
theorem byt1 : bytT Tryd.prog 1 = some 8 := by kernel_rfl
theorem elem1 : elemT Tryd.prog 1 = none := by kernel_rfl
theorem arr1 : arrT Tryd.prog 1 = none := by kernel_rfl
theorem int1 : intT Tryd.prog 1 = none := by kernel_rfl
theorem zer1 : zerT Tryd.prog 1 = some [.nilFunc] := by kernel_rfl
theorem str1 : strT Tryd.prog 1 = false := by kernel_rfl
theorem agg2 : aggT Tryd.prog 2 = some false := by kernel_rfl
theorem siz2 : sizT Tryd.prog 2 = some 1 := by kernel_rfl
theorem byt2 : bytT Tryd.prog 2 = some 8 := by kernel_rfl
theorem elem2 : elemT Tryd.prog 2 = none := by kernel_rfl
theorem arr2 : arrT Tryd.prog 2 = none := by kernel_rfl
theorem int2 : intT Tryd.prog 2 = some .i64 := by kernel_rfl
theorem zer2 : zerT Tryd.prog 2 = some [.int .i64 0] := by kernel_rfl
theorem str2 : strT Tryd.prog 2 = false := by kernel_rfl
theorem agg3 : aggT Tryd.prog 3 = some false := by kernel_rfl
theorem siz3 : sizT Tryd.prog 3 = some 1 := by kernel_rfl
theorem byt3 : bytT Tryd.prog 3 = some 8 := by kernel_rfl
theorem elem3 : elemT Tryd.prog 3 = none := by kernel_rfl
theorem arr3 : arrT Tryd.prog 3 = none := by kernel_rfl
theorem int3 : intT Tryd.prog 3 = some .i64 := by kernel_rfl
theorem zer3 : zerT Tryd.prog 3 = some [.int .i64 0] := by kernel_rfl
theorem str3 : strT Tryd.prog 3 = false := by kernel_rfl
theorem agg4 : aggT Tryd.prog 4 = some false := by kernel_rfl
theorem siz4 : sizT Tryd.prog 4 = some 1 := by kernel_rfl
theorem byt4 : bytT Tryd.prog 4 = some 1 := by kernel_rfl
theorem elem4 : elemT Tryd.prog 4 = none := by kernel_rfl
theorem arr4 : arrT Tryd.prog 4 = none := by kernel_rfl
theorem int4 : intT Tryd.prog 4 = none := by kernel_rfl
theorem zer4 : zerT Tryd.prog 4 = some [.bool false] := by kernel_rfl
theorem str4 : strT Tryd.prog 4 = false := by kernel_rfl
theorem agg5 : aggT Tryd.prog 5 = some false := by kernel_rfl
theorem siz5 : sizT Tryd.prog 5 = some 1 := by kernel_rfl
theorem byt5 : bytT Tryd.prog 5 = some 1 := by kernel_rfl
theorem elem5 : elemT Tryd.prog 5 = none := by kernel_rfl
theorem arr5 : arrT Tryd.prog 5 = none := by kernel_rfl
theorem int5 : intT Tryd.prog 5 = some .u8 := by kernel_rfl
theorem zer5 : zerT Tryd.prog 5 = some [.int .u8 0] := by kernel_rfl
theorem str5 : strT Tryd.prog 5 = false := by kernel_rfl
theorem agg9 : aggT Tryd.prog 9 = some false := by kernel_rfl
theorem siz9 : sizT Tryd.prog 9 = some 1 := by kernel_rfl
theorem byt9 : bytT Tryd.prog 9 = some 16 := by kernel_rfl
theorem elem9 : elemT Tryd.prog 9 = none := by kernel_rfl
theorem arr9 : arrT Tryd.prog 9 = none := by kernel_rfl
theorem int9 : intT Tryd.prog 9 = none := by kernel_rfl
theorem zer9 : zerT Tryd.prog 9 = some [.string ByteArray.empty] := by kernel_rfl
theorem str9 : strT Tryd.prog 9 = true := by kernel_rfl
theorem agg22 : aggT Tryd.prog 22 = some false := by kernel_rfl
theorem siz22 : sizT Tryd.prog 22 = some 1 := by kernel_rfl
theorem byt22 : bytT Tryd.prog 22 = some 24 := by kernel_rfl
theorem elem22 : elemT Tryd.prog 22 = some 30 := by kernel_rfl
theorem arr22 : arrT Tryd.prog 22 = none := by kernel_rfl
theorem int22 : intT Tryd.prog 22 = none := by kernel_rfl
theorem zer22 : zerT Tryd.prog 22 = some [.slice none 0 0] := by kernel_rfl
theorem str22 : strT Tryd.prog 22 = false := by kernel_rfl
theorem agg24 : aggT Tryd.prog 24 = some false := by kernel_rfl
theorem siz24 : sizT Tryd.prog 24 = some 1 := by kernel_rfl
theorem byt24 : bytT Tryd.prog 24 = some 8 := by kernel_rfl
theorem elem24 : elemT Tryd.prog 24 = none := by kernel_rfl
theorem arr24 : arrT Tryd.prog 24 = none := by kernel_rfl
theorem int24 : intT Tryd.prog 24 = some .i64 := by kernel_rfl
theorem zer24 : zerT Tryd.prog 24 = some [.int .i64 0] := by kernel_rfl
theorem str24 : strT Tryd.prog 24 = false := by kernel_rfl
theorem agg28 : aggT Tryd.prog 28 = some false := by kernel_rfl
theorem siz28 : sizT Tryd.prog 28 = some 1 := by kernel_rfl
theorem byt28 : bytT Tryd.prog 28 = some 8 := by kernel_rfl
theorem elem28 : elemT Tryd.prog 28 = none := by kernel_rfl
theorem arr28 : arrT Tryd.prog 28 = none := by kernel_rfl
theorem int28 : intT Tryd.prog 28 = some .i64 := by kernel_rfl
theorem zer28 : zerT Tryd.prog 28 = some [.int .i64 0] := by kernel_rfl
theorem str28 : strT Tryd.prog 28 = false := by kernel_rfl
theorem agg30 : aggT Tryd.prog 30 = some true := by kernel_rfl
theorem siz30 : sizT Tryd.prog 30 = some 7 := by kernel_rfl
theorem byt30 : bytT Tryd.prog 30 = some 56 := by kernel_rfl
theorem elem30 : elemT Tryd.prog 30 = none := by kernel_rfl
theorem arr30 : arrT Tryd.prog 30 = none := by kernel_rfl
theorem int30 : intT Tryd.prog 30 = none := by kernel_rfl
theorem zer30 : zerT Tryd.prog 30 = some [.int .i64 0, .int .i64 0, .int .i64 0, .int .i64 0, .int .i64 0, .int .i64 0, .int .i64 0] := by kernel_rfl
theorem kd30 : kdT Tryd.prog 60 30 = some [.int .i64, .int .i64, .int .i64, .int .i64, .int .i64, .int .i64, .int .i64] := by kernel_rfl
theorem eqg30 : Tryd.prog.eqGuardType (Tryd.prog.depth) 30 = false := by kernel_rfl
theorem szs30 : sizesOk Tryd.prog 30 = true := by kernel_rfl
theorem plc30_0 : placeT Tryd.prog 30 0 = some (0, 1) := by kernel_rfl
theorem plc30_1 : placeT Tryd.prog 30 1 = some (1, 1) := by kernel_rfl
theorem plc30_2 : placeT Tryd.prog 30 2 = some (2, 1) := by kernel_rfl
theorem plc30_3 : placeT Tryd.prog 30 3 = some (3, 1) := by kernel_rfl
theorem plc30_4 : placeT Tryd.prog 30 4 = some (4, 1) := by kernel_rfl
theorem plc30_5 : placeT Tryd.prog 30 5 = some (5, 1) := by kernel_rfl
theorem plc30_6 : placeT Tryd.prog 30 6 = some (6, 1) := by kernel_rfl
theorem str30 : strT Tryd.prog 30 = false := by kernel_rfl
theorem fld30_0 : fldT Tryd.prog 30 0 = some (0, 3) := by kernel_rfl
theorem fld30_1 : fldT Tryd.prog 30 1 = some (1, 3) := by kernel_rfl
theorem fld30_2 : fldT Tryd.prog 30 2 = some (2, 28) := by kernel_rfl
theorem fld30_3 : fldT Tryd.prog 30 3 = some (3, 2) := by kernel_rfl
theorem fld30_4 : fldT Tryd.prog 30 4 = some (4, 2) := by kernel_rfl
theorem fld30_5 : fldT Tryd.prog 30 5 = some (5, 3) := by kernel_rfl
theorem fld30_6 : fldT Tryd.prog 30 6 = some (6, 3) := by kernel_rfl
theorem agg39 : aggT Tryd.prog 39 = some true := by kernel_rfl
theorem siz39 : sizT Tryd.prog 39 = some 4 := by kernel_rfl
theorem byt39 : bytT Tryd.prog 39 = some 32 := by kernel_rfl
theorem elem39 : elemT Tryd.prog 39 = none := by kernel_rfl
theorem arr39 : arrT Tryd.prog 39 = none := by kernel_rfl
theorem int39 : intT Tryd.prog 39 = none := by kernel_rfl
theorem zer39 : zerT Tryd.prog 39 = some [.int .i64 0, .int .i64 0, .int .i64 0, .int .i64 0] := by kernel_rfl
theorem kd39 : kdT Tryd.prog 60 39 = some [.int .i64, .int .i64, .int .i64, .int .i64] := by kernel_rfl
theorem eqg39 : Tryd.prog.eqGuardType (Tryd.prog.depth) 39 = false := by kernel_rfl
theorem szs39 : sizesOk Tryd.prog 39 = true := by kernel_rfl
theorem plc39_0 : placeT Tryd.prog 39 0 = some (0, 1) := by kernel_rfl
theorem plc39_1 : placeT Tryd.prog 39 1 = some (1, 1) := by kernel_rfl
theorem plc39_2 : placeT Tryd.prog 39 2 = some (2, 1) := by kernel_rfl
theorem plc39_3 : placeT Tryd.prog 39 3 = some (3, 1) := by kernel_rfl
theorem str39 : strT Tryd.prog 39 = false := by kernel_rfl
theorem fld39_0 : fldT Tryd.prog 39 0 = some (0, 3) := by kernel_rfl
theorem fld39_1 : fldT Tryd.prog 39 1 = some (1, 2) := by kernel_rfl
theorem fld39_2 : fldT Tryd.prog 39 2 = some (2, 2) := by kernel_rfl
theorem fld39_3 : fldT Tryd.prog 39 3 = some (3, 2) := by kernel_rfl
theorem agg42 : aggT Tryd.prog 42 = some true := by kernel_rfl
theorem siz42 : sizT Tryd.prog 42 = some 4 := by kernel_rfl
theorem byt42 : bytT Tryd.prog 42 = some 32 := by kernel_rfl
theorem elem42 : elemT Tryd.prog 42 = none := by kernel_rfl
theorem arr42 : arrT Tryd.prog 42 = none := by kernel_rfl
theorem int42 : intT Tryd.prog 42 = none := by kernel_rfl
theorem zer42 : zerT Tryd.prog 42 = some [.int .i64 0, .int .i64 0, .int .i64 0, .int .i64 0] := by kernel_rfl
theorem kd42 : kdT Tryd.prog 60 42 = some [.int .i64, .int .i64, .int .i64, .int .i64] := by kernel_rfl
theorem eqg42 : Tryd.prog.eqGuardType (Tryd.prog.depth) 42 = false := by kernel_rfl
theorem szs42 : sizesOk Tryd.prog 42 = true := by kernel_rfl
theorem plc42_0 : placeT Tryd.prog 42 0 = some (0, 1) := by kernel_rfl
theorem plc42_1 : placeT Tryd.prog 42 1 = some (1, 1) := by kernel_rfl
theorem plc42_2 : placeT Tryd.prog 42 2 = some (2, 1) := by kernel_rfl
theorem plc42_3 : placeT Tryd.prog 42 3 = some (3, 1) := by kernel_rfl
theorem str42 : strT Tryd.prog 42 = false := by kernel_rfl
theorem fld42_0 : fldT Tryd.prog 42 0 = some (0, 28) := by kernel_rfl
theorem fld42_1 : fldT Tryd.prog 42 1 = some (1, 3) := by kernel_rfl
theorem fld42_2 : fldT Tryd.prog 42 2 = some (2, 3) := by kernel_rfl
theorem fld42_3 : fldT Tryd.prog 42 3 = some (3, 3) := by kernel_rfl
theorem agg51 : aggT Tryd.prog 51 = some false := by kernel_rfl
theorem siz51 : sizT Tryd.prog 51 = some 1 := by kernel_rfl
theorem byt51 : bytT Tryd.prog 51 = some 4 := by kernel_rfl
theorem elem51 : elemT Tryd.prog 51 = none := by kernel_rfl
theorem arr51 : arrT Tryd.prog 51 = none := by kernel_rfl
theorem int51 : intT Tryd.prog 51 = some .u32 := by kernel_rfl
theorem zer51 : zerT Tryd.prog 51 = some [.int .u32 0] := by kernel_rfl
theorem str51 : strT Tryd.prog 51 = false := by kernel_rfl
theorem agg53 : aggT Tryd.prog 53 = some false := by kernel_rfl
theorem siz53 : sizT Tryd.prog 53 = some 1 := by kernel_rfl
theorem byt53 : bytT Tryd.prog 53 = some 2 := by kernel_rfl
theorem elem53 : elemT Tryd.prog 53 = none := by kernel_rfl
theorem arr53 : arrT Tryd.prog 53 = none := by kernel_rfl
theorem int53 : intT Tryd.prog 53 = some .u16 := by kernel_rfl
theorem zer53 : zerT Tryd.prog 53 = some [.int .u16 0] := by kernel_rfl
theorem str53 : strT Tryd.prog 53 = false := by kernel_rfl
theorem agg58 : aggT Tryd.prog 58 = some false := by kernel_rfl
theorem siz58 : sizT Tryd.prog 58 = some 1 := by kernel_rfl
theorem byt58 : bytT Tryd.prog 58 = some 8 := by kernel_rfl
theorem elem58 : elemT Tryd.prog 58 = none := by kernel_rfl
theorem arr58 : arrT Tryd.prog 58 = none := by kernel_rfl
theorem int58 : intT Tryd.prog 58 = none := by kernel_rfl
theorem zer58 : zerT Tryd.prog 58 = some [.nilFunc] := by kernel_rfl
theorem str58 : strT Tryd.prog 58 = false := by kernel_rfl
theorem agg79 : aggT Tryd.prog 79 = some false := by kernel_rfl
theorem siz79 : sizT Tryd.prog 79 = some 1 := by kernel_rfl
theorem byt79 : bytT Tryd.prog 79 = some 8 := by kernel_rfl
theorem elem79 : elemT Tryd.prog 79 = none := by kernel_rfl
theorem arr79 : arrT Tryd.prog 79 = none := by kernel_rfl
theorem int79 : intT Tryd.prog 79 = some .u64 := by kernel_rfl
theorem zer79 : zerT Tryd.prog 79 = some [.int .u64 0] := by kernel_rfl
theorem str79 : strT Tryd.prog 79 = false := by kernel_rfl
theorem agg81 : aggT Tryd.prog 81 = some true := by kernel_rfl
theorem siz81 : sizT Tryd.prog 81 = some 2 := by kernel_rfl
theorem byt81 : bytT Tryd.prog 81 = some 8 := by kernel_rfl
theorem elem81 : elemT Tryd.prog 81 = none := by kernel_rfl
theorem arr81 : arrT Tryd.prog 81 = none := by kernel_rfl
theorem int81 : intT Tryd.prog 81 = none := by kernel_rfl
theorem zer81 : zerT Tryd.prog 81 = some [.bool false, .int .u32 0] := by kernel_rfl
theorem kd81 : kdT Tryd.prog 60 81 = some [.bool, .int .u32] := by kernel_rfl
theorem eqg81 : Tryd.prog.eqGuardType (Tryd.prog.depth) 81 = false := by kernel_rfl
theorem szs81 : sizesOk Tryd.prog 81 = true := by kernel_rfl
theorem plc81_0 : placeT Tryd.prog 81 0 = some (0, 1) := by kernel_rfl
theorem plc81_1 : placeT Tryd.prog 81 1 = some (1, 1) := by kernel_rfl
theorem str81 : strT Tryd.prog 81 = false := by kernel_rfl
theorem fld81_0 : fldT Tryd.prog 81 0 = some (0, 4) := by kernel_rfl
theorem fld81_1 : fldT Tryd.prog 81 1 = some (1, 51) := by kernel_rfl
theorem agg82 : aggT Tryd.prog 82 = some true := by kernel_rfl
theorem siz82 : sizT Tryd.prog 82 = some 8 := by kernel_rfl
theorem byt82 : bytT Tryd.prog 82 = some 8 := by kernel_rfl
theorem elem82 : elemT Tryd.prog 82 = none := by kernel_rfl
theorem arr82 : arrT Tryd.prog 82 = some (8, 5) := by kernel_rfl
theorem int82 : intT Tryd.prog 82 = none := by kernel_rfl
theorem zer82 : zerT Tryd.prog 82 = some [.int .u8 0, .int .u8 0, .int .u8 0, .int .u8 0, .int .u8 0, .int .u8 0, .int .u8 0, .int .u8 0] := by kernel_rfl
theorem kd82 : kdT Tryd.prog 60 82 = some [.int .u8, .int .u8, .int .u8, .int .u8, .int .u8, .int .u8, .int .u8, .int .u8] := by kernel_rfl
theorem eqg82 : Tryd.prog.eqGuardType (Tryd.prog.depth) 82 = false := by kernel_rfl
theorem szs82 : sizesOk Tryd.prog 82 = true := by kernel_rfl
theorem plc82_0 : placeT Tryd.prog 82 0 = some (0, 1) := by kernel_rfl
theorem plc82_1 : placeT Tryd.prog 82 1 = some (1, 1) := by kernel_rfl
theorem plc82_2 : placeT Tryd.prog 82 2 = some (2, 1) := by kernel_rfl
theorem plc82_3 : placeT Tryd.prog 82 3 = some (3, 1) := by kernel_rfl
theorem plc82_4 : placeT Tryd.prog 82 4 = some (4, 1) := by kernel_rfl
theorem plc82_5 : placeT Tryd.prog 82 5 = some (5, 1) := by kernel_rfl
theorem plc82_6 : placeT Tryd.prog 82 6 = some (6, 1) := by kernel_rfl
theorem plc82_7 : placeT Tryd.prog 82 7 = some (7, 1) := by kernel_rfl
theorem plc82_8 : placeT Tryd.prog 82 8 = some (8, 1) := by kernel_rfl
theorem plc82_9 : placeT Tryd.prog 82 9 = some (9, 1) := by kernel_rfl
theorem plc82_10 : placeT Tryd.prog 82 10 = some (10, 1) := by kernel_rfl
theorem plc82_11 : placeT Tryd.prog 82 11 = some (11, 1) := by kernel_rfl
theorem str82 : strT Tryd.prog 82 = false := by kernel_rfl
theorem agg84 : aggT Tryd.prog 84 = some true := by kernel_rfl
theorem siz84 : sizT Tryd.prog 84 = some 12 := by kernel_rfl
theorem byt84 : bytT Tryd.prog 84 = some 32 := by kernel_rfl
theorem elem84 : elemT Tryd.prog 84 = none := by kernel_rfl
theorem arr84 : arrT Tryd.prog 84 = none := by kernel_rfl
theorem int84 : intT Tryd.prog 84 = none := by kernel_rfl
theorem zer84 : zerT Tryd.prog 84 = some [.bool false, .int .u32 0, .bool false, .int .i64 0, .int .u8 0, .int .u8 0, .int .u8 0, .int .u8 0, .int .u8 0, .int .u8 0, .int .u8 0, .int .u8 0] := by kernel_rfl
theorem kd84 : kdT Tryd.prog 60 84 = some [.bool, .int .u32, .bool, .int .i64, .int .u8, .int .u8, .int .u8, .int .u8, .int .u8, .int .u8, .int .u8, .int .u8] := by kernel_rfl
theorem eqg84 : Tryd.prog.eqGuardType (Tryd.prog.depth) 84 = false := by kernel_rfl
theorem szs84 : sizesOk Tryd.prog 84 = true := by kernel_rfl
theorem plc84_0 : placeT Tryd.prog 84 0 = some (0, 2) := by kernel_rfl
theorem plc84_1 : placeT Tryd.prog 84 1 = some (2, 1) := by kernel_rfl
theorem plc84_2 : placeT Tryd.prog 84 2 = some (3, 1) := by kernel_rfl
theorem plc84_3 : placeT Tryd.prog 84 3 = some (4, 8) := by kernel_rfl
theorem str84 : strT Tryd.prog 84 = false := by kernel_rfl
theorem fld84_0 : fldT Tryd.prog 84 0 = some (0, 81) := by kernel_rfl
theorem fld84_1 : fldT Tryd.prog 84 1 = some (2, 4) := by kernel_rfl
theorem fld84_2 : fldT Tryd.prog 84 2 = some (3, 3) := by kernel_rfl
theorem fld84_3 : fldT Tryd.prog 84 3 = some (4, 82) := by kernel_rfl
theorem agg86 : aggT Tryd.prog 86 = some false := by kernel_rfl
theorem siz86 : sizT Tryd.prog 86 = some 1 := by kernel_rfl
theorem byt86 : bytT Tryd.prog 86 = some 24 := by kernel_rfl
theorem elem86 : elemT Tryd.prog 86 = some 5 := by kernel_rfl
theorem arr86 : arrT Tryd.prog 86 = none := by kernel_rfl
theorem int86 : intT Tryd.prog 86 = none := by kernel_rfl
theorem zer86 : zerT Tryd.prog 86 = some [.slice none 0 0] := by kernel_rfl
theorem str86 : strT Tryd.prog 86 = false := by kernel_rfl
theorem agg88 : aggT Tryd.prog 88 = some false := by kernel_rfl
theorem siz88 : sizT Tryd.prog 88 = some 1 := by kernel_rfl
theorem byt88 : bytT Tryd.prog 88 = some 24 := by kernel_rfl
theorem elem88 : elemT Tryd.prog 88 = some 3 := by kernel_rfl
theorem arr88 : arrT Tryd.prog 88 = none := by kernel_rfl
theorem int88 : intT Tryd.prog 88 = none := by kernel_rfl
theorem zer88 : zerT Tryd.prog 88 = some [.slice none 0 0] := by kernel_rfl
theorem str88 : strT Tryd.prog 88 = false := by kernel_rfl
theorem agg98 : aggT Tryd.prog 98 = some false := by kernel_rfl
theorem siz98 : sizT Tryd.prog 98 = some 1 := by kernel_rfl
theorem byt98 : bytT Tryd.prog 98 = some 8 := by kernel_rfl
theorem elem98 : elemT Tryd.prog 98 = none := by kernel_rfl
theorem arr98 : arrT Tryd.prog 98 = none := by kernel_rfl
theorem int98 : intT Tryd.prog 98 = some .u64 := by kernel_rfl
theorem zer98 : zerT Tryd.prog 98 = some [.int .u64 0] := by kernel_rfl
theorem str98 : strT Tryd.prog 98 = false := by kernel_rfl
theorem agg101 : aggT Tryd.prog 101 = some false := by kernel_rfl
theorem siz101 : sizT Tryd.prog 101 = some 1 := by kernel_rfl
theorem byt101 : bytT Tryd.prog 101 = some 24 := by kernel_rfl
theorem elem101 : elemT Tryd.prog 101 = some 2 := by kernel_rfl
theorem arr101 : arrT Tryd.prog 101 = none := by kernel_rfl
theorem int101 : intT Tryd.prog 101 = none := by kernel_rfl
theorem zer101 : zerT Tryd.prog 101 = some [.slice none 0 0] := by kernel_rfl
theorem str101 : strT Tryd.prog 101 = false := by kernel_rfl
theorem agg108 : aggT Tryd.prog 108 = some false := by kernel_rfl
theorem siz108 : sizT Tryd.prog 108 = some 1 := by kernel_rfl
theorem byt108 : bytT Tryd.prog 108 = some 24 := by kernel_rfl
theorem elem108 : elemT Tryd.prog 108 = some 86 := by kernel_rfl
theorem arr108 : arrT Tryd.prog 108 = none := by kernel_rfl
theorem int108 : intT Tryd.prog 108 = none := by kernel_rfl
theorem zer108 : zerT Tryd.prog 108 = some [.slice none 0 0] := by kernel_rfl
theorem str108 : strT Tryd.prog 108 = false := by kernel_rfl
theorem agg117 : aggT Tryd.prog 117 = some true := by kernel_rfl
theorem siz117 : sizT Tryd.prog 117 = some 16 := by kernel_rfl
theorem byt117 : bytT Tryd.prog 117 = some 16 := by kernel_rfl
theorem elem117 : elemT Tryd.prog 117 = none := by kernel_rfl
theorem arr117 : arrT Tryd.prog 117 = some (16, 5) := by kernel_rfl
theorem int117 : intT Tryd.prog 117 = none := by kernel_rfl
theorem zer117 : zerT Tryd.prog 117 = some [.int .u8 0, .int .u8 0, .int .u8 0, .int .u8 0, .int .u8 0, .int .u8 0, .int .u8 0, .int .u8 0, .int .u8 0, .int .u8 0, .int .u8 0, .int .u8 0, .int .u8 0, .int .u8 0, .int .u8 0, .int .u8 0] := by kernel_rfl
theorem kd117 : kdT Tryd.prog 60 117 = some [.int .u8, .int .u8, .int .u8, .int .u8, .int .u8, .int .u8, .int .u8, .int .u8, .int .u8, .int .u8, .int .u8, .int .u8, .int .u8, .int .u8, .int .u8, .int .u8] := by kernel_rfl
theorem eqg117 : Tryd.prog.eqGuardType (Tryd.prog.depth) 117 = false := by kernel_rfl
theorem szs117 : sizesOk Tryd.prog 117 = true := by kernel_rfl
theorem plc117_0 : placeT Tryd.prog 117 0 = some (0, 1) := by kernel_rfl
theorem plc117_1 : placeT Tryd.prog 117 1 = some (1, 1) := by kernel_rfl
theorem plc117_2 : placeT Tryd.prog 117 2 = some (2, 1) := by kernel_rfl
theorem plc117_3 : placeT Tryd.prog 117 3 = some (3, 1) := by kernel_rfl
theorem plc117_4 : placeT Tryd.prog 117 4 = some (4, 1) := by kernel_rfl
theorem plc117_5 : placeT Tryd.prog 117 5 = some (5, 1) := by kernel_rfl
theorem plc117_6 : placeT Tryd.prog 117 6 = some (6, 1) := by kernel_rfl
theorem plc117_7 : placeT Tryd.prog 117 7 = some (7, 1) := by kernel_rfl
theorem plc117_8 : placeT Tryd.prog 117 8 = some (8, 1) := by kernel_rfl
theorem plc117_9 : placeT Tryd.prog 117 9 = some (9, 1) := by kernel_rfl
theorem plc117_10 : placeT Tryd.prog 117 10 = some (10, 1) := by kernel_rfl
theorem plc117_11 : placeT Tryd.prog 117 11 = some (11, 1) := by kernel_rfl
theorem str117 : strT Tryd.prog 117 = false := by kernel_rfl
theorem und0 : (Tryd.prog.underlying 0).isSome = true := by kernel_rfl
theorem und1 : (Tryd.prog.underlying 1).isSome = true := by kernel_rfl
theorem und2 : (Tryd.prog.underlying 2).isSome = true := by kernel_rfl
theorem und3 : (Tryd.prog.underlying 3).isSome = true := by kernel_rfl
theorem und4 : (Tryd.prog.underlying 4).isSome = true := by kernel_rfl
theorem und5 : (Tryd.prog.underlying 5).isSome = true := by kernel_rfl
theorem und9 : (Tryd.prog.underlying 9).isSome = true := by kernel_rfl
theorem und22 : (Tryd.prog.underlying 22).isSome = true := by kernel_rfl
theorem und24 : (Tryd.prog.underlying 24).isSome = true := by kernel_rfl
theorem und28 : (Tryd.prog.underlying 28).isSome = true := by kernel_rfl
theorem und30 : (Tryd.prog.underlying 30).isSome = true := by kernel_rfl
theorem und39 : (Tryd.prog.underlying 39).isSome = true := by kernel_rfl
theorem und42 : (Tryd.prog.underlying 42).isSome = true := by kernel_rfl
theorem und51 : (Tryd.prog.underlying 51).isSome = true := by kernel_rfl
theorem und53 : (Tryd.prog.underlying 53).isSome = true := by kernel_rfl
theorem und58 : (Tryd.prog.underlying 58).isSome = true := by kernel_rfl
theorem und79 : (Tryd.prog.underlying 79).isSome = true := by kernel_rfl
theorem und81 : (Tryd.prog.underlying 81).isSome = true := by kernel_rfl
theorem und82 : (Tryd.prog.underlying 82).isSome = true := by kernel_rfl
theorem und84 : (Tryd.prog.underlying 84).isSome = true := by kernel_rfl
theorem und86 : (Tryd.prog.underlying 86).isSome = true := by kernel_rfl
theorem und88 : (Tryd.prog.underlying 88).isSome = true := by kernel_rfl
theorem und98 : (Tryd.prog.underlying 98).isSome = true := by kernel_rfl
theorem und101 : (Tryd.prog.underlying 101).isSome = true := by kernel_rfl
theorem und108 : (Tryd.prog.underlying 108).isSome = true := by kernel_rfl
theorem und117 : (Tryd.prog.underlying 117).isSome = true := by kernel_rfl
theorem t0 : (aggT Tryd.prog 0 = some false) ∧ (sizT Tryd.prog 0 = some 1) ∧ (bytT Tryd.prog 0 = some 0) ∧ (elemT Tryd.prog 0 = none) ∧ (arrT Tryd.prog 0 = none) ∧ (intT Tryd.prog 0 = none) ∧ (strT Tryd.prog 0 = false) ∧ ((Tryd.prog.underlying 0).isSome = true) := ⟨agg0, siz0, byt0, elem0, arr0, int0, str0, und0⟩
theorem t1 : (aggT Tryd.prog 1 = some false) ∧ (sizT Tryd.prog 1 = some 1) ∧ (bytT Tryd.prog 1 = some 8) ∧ (elemT Tryd.prog 1 = none) ∧ (arrT Tryd.prog 1 = none) ∧ (intT Tryd.prog 1 = none) ∧ (zerT Tryd.prog 1 = some [.nilFunc]) ∧ (strT Tryd.prog 1 = false) ∧ ((Tryd.prog.underlying 1).isSome = true) := ⟨agg1, siz1, byt1, elem1, arr1, int1, zer1, str1, und1⟩
theorem t2 : (aggT Tryd.prog 2 = some false) ∧ (sizT Tryd.prog 2 = some 1) ∧ (bytT Tryd.prog 2 = some 8) ∧ (elemT Tryd.prog 2 = none) ∧ (arrT Tryd.prog 2 = none) ∧ (intT Tryd.prog 2 = some .i64) ∧ (zerT Tryd.prog 2 = some [.int .i64 0]) ∧ (strT Tryd.prog 2 = false) ∧ ((Tryd.prog.underlying 2).isSome = true) := ⟨agg2, siz2, byt2, elem2, arr2, int2, zer2, str2, und2⟩
theorem t3 : (aggT Tryd.prog 3 = some false) ∧ (sizT Tryd.prog 3 = some 1) ∧ (bytT Tryd.prog 3 = some 8) ∧ (elemT Tryd.prog 3 = none) ∧ (arrT Tryd.prog 3 = none) ∧ (intT Tryd.prog 3 = some .i64) ∧ (zerT Tryd.prog 3 = some [.int .i64 0]) ∧ (strT Tryd.prog 3 = false) ∧ ((Tryd.prog.underlying 3).isSome = true) := ⟨agg3, siz3, byt3, elem3, arr3, int3, zer3, str3, und3⟩
theorem t4 : (aggT Tryd.prog 4 = some false) ∧ (sizT Tryd.prog 4 = some 1) ∧ (bytT Tryd.prog 4 = some 1) ∧ (elemT Tryd.prog 4 = none) ∧ (arrT Tryd.prog 4 = none) ∧ (intT Tryd.prog 4 = none) ∧ (zerT Tryd.prog 4 = some [.bool false]) ∧ (strT Tryd.prog 4 = false) ∧ ((Tryd.prog.underlying 4).isSome = true) := ⟨agg4, siz4, byt4, elem4, arr4, int4, zer4, str4, und4⟩
theorem t5 : (aggT Tryd.prog 5 = some false) ∧ (sizT Tryd.prog 5 = some 1) ∧ (bytT Tryd.prog 5 = some 1) ∧ (elemT Tryd.prog 5 = none) ∧ (arrT Tryd.prog 5 = none) ∧ (intT Tryd.prog 5 = some .u8) ∧ (zerT Tryd.prog 5 = some [.int .u8 0]) ∧ (strT Tryd.prog 5 = false) ∧ ((Tryd.prog.underlying 5).isSome = true) := ⟨agg5, siz5, byt5, elem5, arr5, int5, zer5, str5, und5⟩
theorem t9 : (aggT Tryd.prog 9 = some false) ∧ (sizT Tryd.prog 9 = some 1) ∧ (bytT Tryd.prog 9 = some 16) ∧ (elemT Tryd.prog 9 = none) ∧ (arrT Tryd.prog 9 = none) ∧ (intT Tryd.prog 9 = none) ∧ (zerT Tryd.prog 9 = some [.string ByteArray.empty]) ∧ (strT Tryd.prog 9 = true) ∧ ((Tryd.prog.underlying 9).isSome = true) := ⟨agg9, siz9, byt9, elem9, arr9, int9, zer9, str9, und9⟩
theorem t22 : (aggT Tryd.prog 22 = some false) ∧ (sizT Tryd.prog 22 = some 1) ∧ (bytT Tryd.prog 22 = some 24) ∧ (elemT Tryd.prog 22 = some 30) ∧ (arrT Tryd.prog 22 = none) ∧ (intT Tryd.prog 22 = none) ∧ (zerT Tryd.prog 22 = some [.slice none 0 0]) ∧ (strT Tryd.prog 22 = false) ∧ ((Tryd.prog.underlying 22).isSome = true) := ⟨agg22, siz22, byt22, elem22, arr22, int22, zer22, str22, und22⟩
theorem t24 : (aggT Tryd.prog 24 = some false) ∧ (sizT Tryd.prog 24 = some 1) ∧ (bytT Tryd.prog 24 = some 8) ∧ (elemT Tryd.prog 24 = none) ∧ (arrT Tryd.prog 24 = none) ∧ (intT Tryd.prog 24 = some .i64) ∧ (zerT Tryd.prog 24 = some [.int .i64 0]) ∧ (strT Tryd.prog 24 = false) ∧ ((Tryd.prog.underlying 24).isSome = true) := ⟨agg24, siz24, byt24, elem24, arr24, int24, zer24, str24, und24⟩
theorem t28 : (aggT Tryd.prog 28 = some false) ∧ (sizT Tryd.prog 28 = some 1) ∧ (bytT Tryd.prog 28 = some 8) ∧ (elemT Tryd.prog 28 = none) ∧ (arrT Tryd.prog 28 = none) ∧ (intT Tryd.prog 28 = some .i64) ∧ (zerT Tryd.prog 28 = some [.int .i64 0]) ∧ (strT Tryd.prog 28 = false) ∧ ((Tryd.prog.underlying 28).isSome = true) := ⟨agg28, siz28, byt28, elem28, arr28, int28, zer28, str28, und28⟩
theorem t30 : (aggT Tryd.prog 30 = some true) ∧ (sizT Tryd.prog 30 = some 7) ∧ (bytT Tryd.prog 30 = some 56) ∧ (elemT Tryd.prog 30 = none) ∧ (arrT Tryd.prog 30 = none) ∧ (intT Tryd.prog 30 = none) ∧ (zerT Tryd.prog 30 = some [.int .i64 0, .int .i64 0, .int .i64 0, .int .i64 0, .int .i64 0, .int .i64 0, .int .i64 0]) ∧ (kdT Tryd.prog 60 30 = some [.int .i64, .int .i64, .int .i64, .int .i64, .int .i64, .int .i64, .int .i64]) ∧ (Tryd.prog.eqGuardType (Tryd.prog.depth) 30 = false) ∧ (sizesOk Tryd.prog 30 = true) ∧ (placeT Tryd.prog 30 0 = some (0, 1)) ∧ (placeT Tryd.prog 30 1 = some (1, 1)) ∧ (placeT Tryd.prog 30 2 = some (2, 1)) ∧ (placeT Tryd.prog 30 3 = some (3, 1)) ∧ (placeT Tryd.prog 30 4 = some (4, 1)) ∧ (placeT Tryd.prog 30 5 = some (5, 1)) ∧ (placeT Tryd.prog 30 6 = some (6, 1)) ∧ (strT Tryd.prog 30 = false) ∧ (fldT Tryd.prog 30 0 = some (0, 3)) ∧ (fldT Tryd.prog 30 1 = some (1, 3)) ∧ (fldT Tryd.prog 30 2 = some (2, 28)) ∧ (fldT Tryd.prog 30 3 = some (3, 2)) ∧ (fldT Tryd.prog 30 4 = some (4, 2)) ∧ (fldT Tryd.prog 30 5 = some (5, 3)) ∧ (fldT Tryd.prog 30 6 = some (6, 3)) ∧ ((Tryd.prog.underlying 30).isSome = true) := ⟨agg30, siz30, byt30, elem30, arr30, int30, zer30, kd30, eqg30, szs30, plc30_0, plc30_1, plc30_2, plc30_3, plc30_4, plc30_5, plc30_6, str30, fld30_0, fld30_1, fld30_2, fld30_3, fld30_4, fld30_5, fld30_6, und30⟩
theorem t39 : (aggT Tryd.prog 39 = some true) ∧ (sizT Tryd.prog 39 = some 4) ∧ (bytT Tryd.prog 39 = some 32) ∧ (elemT Tryd.prog 39 = none) ∧ (arrT Tryd.prog 39 = none) ∧ (intT Tryd.prog 39 = none) ∧ (zerT Tryd.prog 39 = some [.int .i64 0, .int .i64 0, .int .i64 0, .int .i64 0]) ∧ (kdT Tryd.prog 60 39 = some [.int .i64, .int .i64, .int .i64, .int .i64]) ∧ (Tryd.prog.eqGuardType (Tryd.prog.depth) 39 = false) ∧ (sizesOk Tryd.prog 39 = true) ∧ (placeT Tryd.prog 39 0 = some (0, 1)) ∧ (placeT Tryd.prog 39 1 = some (1, 1)) ∧ (placeT Tryd.prog 39 2 = some (2, 1)) ∧ (placeT Tryd.prog 39 3 = some (3, 1)) ∧ (strT Tryd.prog 39 = false) ∧ (fldT Tryd.prog 39 0 = some (0, 3)) ∧ (fldT Tryd.prog 39 1 = some (1, 2)) ∧ (fldT Tryd.prog 39 2 = some (2, 2)) ∧ (fldT Tryd.prog 39 3 = some (3, 2)) ∧ ((Tryd.prog.underlying 39).isSome = true) := ⟨agg39, siz39, byt39, elem39, arr39, int39, zer39, kd39, eqg39, szs39, plc39_0, plc39_1, plc39_2, plc39_3, str39, fld39_0, fld39_1, fld39_2, fld39_3, und39⟩
theorem t42 : (aggT Tryd.prog 42 = some true) ∧ (sizT Tryd.prog 42 = some 4) ∧ (bytT Tryd.prog 42 = some 32) ∧ (elemT Tryd.prog 42 = none) ∧ (arrT Tryd.prog 42 = none) ∧ (intT Tryd.prog 42 = none) ∧ (zerT Tryd.prog 42 = some [.int .i64 0, .int .i64 0, .int .i64 0, .int .i64 0]) ∧ (kdT Tryd.prog 60 42 = some [.int .i64, .int .i64, .int .i64, .int .i64]) ∧ (Tryd.prog.eqGuardType (Tryd.prog.depth) 42 = false) ∧ (sizesOk Tryd.prog 42 = true) ∧ (placeT Tryd.prog 42 0 = some (0, 1)) ∧ (placeT Tryd.prog 42 1 = some (1, 1)) ∧ (placeT Tryd.prog 42 2 = some (2, 1)) ∧ (placeT Tryd.prog 42 3 = some (3, 1)) ∧ (strT Tryd.prog 42 = false) ∧ (fldT Tryd.prog 42 0 = some (0, 28)) ∧ (fldT Tryd.prog 42 1 = some (1, 3)) ∧ (fldT Tryd.prog 42 2 = some (2, 3)) ∧ (fldT Tryd.prog 42 3 = some (3, 3)) ∧ ((Tryd.prog.underlying 42).isSome = true) := ⟨agg42, siz42, byt42, elem42, arr42, int42, zer42, kd42, eqg42, szs42, plc42_0, plc42_1, plc42_2, plc42_3, str42, fld42_0, fld42_1, fld42_2, fld42_3, und42⟩
theorem t51 : (aggT Tryd.prog 51 = some false) ∧ (sizT Tryd.prog 51 = some 1) ∧ (bytT Tryd.prog 51 = some 4) ∧ (elemT Tryd.prog 51 = none) ∧ (arrT Tryd.prog 51 = none) ∧ (intT Tryd.prog 51 = some .u32) ∧ (zerT Tryd.prog 51 = some [.int .u32 0]) ∧ (strT Tryd.prog 51 = false) ∧ ((Tryd.prog.underlying 51).isSome = true) := ⟨agg51, siz51, byt51, elem51, arr51, int51, zer51, str51, und51⟩
theorem t53 : (aggT Tryd.prog 53 = some false) ∧ (sizT Tryd.prog 53 = some 1) ∧ (bytT Tryd.prog 53 = some 2) ∧ (elemT Tryd.prog 53 = none) ∧ (arrT Tryd.prog 53 = none) ∧ (intT Tryd.prog 53 = some .u16) ∧ (zerT Tryd.prog 53 = some [.int .u16 0]) ∧ (strT Tryd.prog 53 = false) ∧ ((Tryd.prog.underlying 53).isSome = true) := ⟨agg53, siz53, byt53, elem53, arr53, int53, zer53, str53, und53⟩
theorem t58 : (aggT Tryd.prog 58 = some false) ∧ (sizT Tryd.prog 58 = some 1) ∧ (bytT Tryd.prog 58 = some 8) ∧ (elemT Tryd.prog 58 = none) ∧ (arrT Tryd.prog 58 = none) ∧ (intT Tryd.prog 58 = none) ∧ (zerT Tryd.prog 58 = some [.nilFunc]) ∧ (strT Tryd.prog 58 = false) ∧ ((Tryd.prog.underlying 58).isSome = true) := ⟨agg58, siz58, byt58, elem58, arr58, int58, zer58, str58, und58⟩
theorem t79 : (aggT Tryd.prog 79 = some false) ∧ (sizT Tryd.prog 79 = some 1) ∧ (bytT Tryd.prog 79 = some 8) ∧ (elemT Tryd.prog 79 = none) ∧ (arrT Tryd.prog 79 = none) ∧ (intT Tryd.prog 79 = some .u64) ∧ (zerT Tryd.prog 79 = some [.int .u64 0]) ∧ (strT Tryd.prog 79 = false) ∧ ((Tryd.prog.underlying 79).isSome = true) := ⟨agg79, siz79, byt79, elem79, arr79, int79, zer79, str79, und79⟩
theorem t81 : (aggT Tryd.prog 81 = some true) ∧ (sizT Tryd.prog 81 = some 2) ∧ (bytT Tryd.prog 81 = some 8) ∧ (elemT Tryd.prog 81 = none) ∧ (arrT Tryd.prog 81 = none) ∧ (intT Tryd.prog 81 = none) ∧ (zerT Tryd.prog 81 = some [.bool false, .int .u32 0]) ∧ (kdT Tryd.prog 60 81 = some [.bool, .int .u32]) ∧ (Tryd.prog.eqGuardType (Tryd.prog.depth) 81 = false) ∧ (sizesOk Tryd.prog 81 = true) ∧ (placeT Tryd.prog 81 0 = some (0, 1)) ∧ (placeT Tryd.prog 81 1 = some (1, 1)) ∧ (strT Tryd.prog 81 = false) ∧ (fldT Tryd.prog 81 0 = some (0, 4)) ∧ (fldT Tryd.prog 81 1 = some (1, 51)) ∧ ((Tryd.prog.underlying 81).isSome = true) := ⟨agg81, siz81, byt81, elem81, arr81, int81, zer81, kd81, eqg81, szs81, plc81_0, plc81_1, str81, fld81_0, fld81_1, und81⟩
theorem t82 : (aggT Tryd.prog 82 = some true) ∧ (sizT Tryd.prog 82 = some 8) ∧ (bytT Tryd.prog 82 = some 8) ∧ (elemT Tryd.prog 82 = none) ∧ (arrT Tryd.prog 82 = some (8, 5)) ∧ (intT Tryd.prog 82 = none) ∧ (zerT Tryd.prog 82 = some [.int .u8 0, .int .u8 0, .int .u8 0, .int .u8 0, .int .u8 0, .int .u8 0, .int .u8 0, .int .u8 0]) ∧ (kdT Tryd.prog 60 82 = some [.int .u8, .int .u8, .int .u8, .int .u8, .int .u8, .int .u8, .int .u8, .int .u8]) ∧ (Tryd.prog.eqGuardType (Tryd.prog.depth) 82 = false) ∧ (sizesOk Tryd.prog 82 = true) ∧ (placeT Tryd.prog 82 0 = some (0, 1)) ∧ (placeT Tryd.prog 82 1 = some (1, 1)) ∧ (placeT Tryd.prog 82 2 = some (2, 1)) ∧ (placeT Tryd.prog 82 3 = some (3, 1)) ∧ (placeT Tryd.prog 82 4 = some (4, 1)) ∧ (placeT Tryd.prog 82 5 = some (5, 1)) ∧ (placeT Tryd.prog 82 6 = some (6, 1)) ∧ (placeT Tryd.prog 82 7 = some (7, 1)) ∧ (placeT Tryd.prog 82 8 = some (8, 1)) ∧ (placeT Tryd.prog 82 9 = some (9, 1)) ∧ (placeT Tryd.prog 82 10 = some (10, 1)) ∧ (placeT Tryd.prog 82 11 = some (11, 1)) ∧ (strT Tryd.prog 82 = false) ∧ ((Tryd.prog.underlying 82).isSome = true) := ⟨agg82, siz82, byt82, elem82, arr82, int82, zer82, kd82, eqg82, szs82, plc82_0, plc82_1, plc82_2, plc82_3, plc82_4, plc82_5, plc82_6, plc82_7, plc82_8, plc82_9, plc82_10, plc82_11, str82, und82⟩
theorem t84 : (aggT Tryd.prog 84 = some true) ∧ (sizT Tryd.prog 84 = some 12) ∧ (bytT Tryd.prog 84 = some 32) ∧ (elemT Tryd.prog 84 = none) ∧ (arrT Tryd.prog 84 = none) ∧ (intT Tryd.prog 84 = none) ∧ (zerT Tryd.prog 84 = some [.bool false, .int .u32 0, .bool false, .int .i64 0, .int .u8 0, .int .u8 0, .int .u8 0, .int .u8 0, .int .u8 0, .int .u8 0, .int .u8 0, .int .u8 0]) ∧ (kdT Tryd.prog 60 84 = some [.bool, .int .u32, .bool, .int .i64, .int .u8, .int .u8, .int .u8, .int .u8, .int .u8, .int .u8, .int .u8, .int .u8]) ∧ (Tryd.prog.eqGuardType (Tryd.prog.depth) 84 = false) ∧ (sizesOk Tryd.prog 84 = true) ∧ (placeT Tryd.prog 84 0 = some (0, 2)) ∧ (placeT Tryd.prog 84 1 = some (2, 1)) ∧ (placeT Tryd.prog 84 2 = some (3, 1)) ∧ (placeT Tryd.prog 84 3 = some (4, 8)) ∧ (strT Tryd.prog 84 = false) ∧ (fldT Tryd.prog 84 0 = some (0, 81)) ∧ (fldT Tryd.prog 84 1 = some (2, 4)) ∧ (fldT Tryd.prog 84 2 = some (3, 3)) ∧ (fldT Tryd.prog 84 3 = some (4, 82)) ∧ ((Tryd.prog.underlying 84).isSome = true) := ⟨agg84, siz84, byt84, elem84, arr84, int84, zer84, kd84, eqg84, szs84, plc84_0, plc84_1, plc84_2, plc84_3, str84, fld84_0, fld84_1, fld84_2, fld84_3, und84⟩
theorem t86 : (aggT Tryd.prog 86 = some false) ∧ (sizT Tryd.prog 86 = some 1) ∧ (bytT Tryd.prog 86 = some 24) ∧ (elemT Tryd.prog 86 = some 5) ∧ (arrT Tryd.prog 86 = none) ∧ (intT Tryd.prog 86 = none) ∧ (zerT Tryd.prog 86 = some [.slice none 0 0]) ∧ (strT Tryd.prog 86 = false) ∧ ((Tryd.prog.underlying 86).isSome = true) := ⟨agg86, siz86, byt86, elem86, arr86, int86, zer86, str86, und86⟩
theorem t88 : (aggT Tryd.prog 88 = some false) ∧ (sizT Tryd.prog 88 = some 1) ∧ (bytT Tryd.prog 88 = some 24) ∧ (elemT Tryd.prog 88 = some 3) ∧ (arrT Tryd.prog 88 = none) ∧ (intT Tryd.prog 88 = none) ∧ (zerT Tryd.prog 88 = some [.slice none 0 0]) ∧ (strT Tryd.prog 88 = false) ∧ ((Tryd.prog.underlying 88).isSome = true) := ⟨agg88, siz88, byt88, elem88, arr88, int88, zer88, str88, und88⟩
theorem t98 : (aggT Tryd.prog 98 = some false) ∧ (sizT Tryd.prog 98 = some 1) ∧ (bytT Tryd.prog 98 = some 8) ∧ (elemT Tryd.prog 98 = none) ∧ (arrT Tryd.prog 98 = none) ∧ (intT Tryd.prog 98 = some .u64) ∧ (zerT Tryd.prog 98 = some [.int .u64 0]) ∧ (strT Tryd.prog 98 = false) ∧ ((Tryd.prog.underlying 98).isSome = true) := ⟨agg98, siz98, byt98, elem98, arr98, int98, zer98, str98, und98⟩
theorem t101 : (aggT Tryd.prog 101 = some false) ∧ (sizT Tryd.prog 101 = some 1) ∧ (bytT Tryd.prog 101 = some 24) ∧ (elemT Tryd.prog 101 = some 2) ∧ (arrT Tryd.prog 101 = none) ∧ (intT Tryd.prog 101 = none) ∧ (zerT Tryd.prog 101 = some [.slice none 0 0]) ∧ (strT Tryd.prog 101 = false) ∧ ((Tryd.prog.underlying 101).isSome = true) := ⟨agg101, siz101, byt101, elem101, arr101, int101, zer101, str101, und101⟩
theorem t108 : (aggT Tryd.prog 108 = some false) ∧ (sizT Tryd.prog 108 = some 1) ∧ (bytT Tryd.prog 108 = some 24) ∧ (elemT Tryd.prog 108 = some 86) ∧ (arrT Tryd.prog 108 = none) ∧ (intT Tryd.prog 108 = none) ∧ (zerT Tryd.prog 108 = some [.slice none 0 0]) ∧ (strT Tryd.prog 108 = false) ∧ ((Tryd.prog.underlying 108).isSome = true) := ⟨agg108, siz108, byt108, elem108, arr108, int108, zer108, str108, und108⟩
theorem t117 : (aggT Tryd.prog 117 = some true) ∧ (sizT Tryd.prog 117 = some 16) ∧ (bytT Tryd.prog 117 = some 16) ∧ (elemT Tryd.prog 117 = none) ∧ (arrT Tryd.prog 117 = some (16, 5)) ∧ (intT Tryd.prog 117 = none) ∧ (zerT Tryd.prog 117 = some [.int .u8 0, .int .u8 0, .int .u8 0, .int .u8 0, .int .u8 0, .int .u8 0, .int .u8 0, .int .u8 0, .int .u8 0, .int .u8 0, .int .u8 0, .int .u8 0, .int .u8 0, .int .u8 0, .int .u8 0, .int .u8 0]) ∧ (kdT Tryd.prog 60 117 = some [.int .u8, .int .u8, .int .u8, .int .u8, .int .u8, .int .u8, .int .u8, .int .u8, .int .u8, .int .u8, .int .u8, .int .u8, .int .u8, .int .u8, .int .u8, .int .u8]) ∧ (Tryd.prog.eqGuardType (Tryd.prog.depth) 117 = false) ∧ (sizesOk Tryd.prog 117 = true) ∧ (placeT Tryd.prog 117 0 = some (0, 1)) ∧ (placeT Tryd.prog 117 1 = some (1, 1)) ∧ (placeT Tryd.prog 117 2 = some (2, 1)) ∧ (placeT Tryd.prog 117 3 = some (3, 1)) ∧ (placeT Tryd.prog 117 4 = some (4, 1)) ∧ (placeT Tryd.prog 117 5 = some (5, 1)) ∧ (placeT Tryd.prog 117 6 = some (6, 1)) ∧ (placeT Tryd.prog 117 7 = some (7, 1)) ∧ (placeT Tryd.prog 117 8 = some (8, 1)) ∧ (placeT Tryd.prog 117 9 = some (9, 1)) ∧ (placeT Tryd.prog 117 10 = some (10, 1)) ∧ (placeT Tryd.prog 117 11 = some (11, 1)) ∧ (strT Tryd.prog 117 = false) ∧ ((Tryd.prog.underlying 117).isSome = true) := ⟨agg117, siz117, byt117, elem117, arr117, int117, zer117, kd117, eqg117, szs117, plc117_0, plc117_1, plc117_2, plc117_3, plc117_4, plc117_5, plc117_6, plc117_7, plc117_8, plc117_9, plc117_10, plc117_11, str117, und117⟩
end Go.Proofs.YtfbkiocijnjmgaaDoor.Ty
