/- Texts of our own, one behind the other: Types, Pure, Bits, OwnOf, Right, Five, Boxes, Laid0, Asks, Str. -/
import Derived.Test.YthjpfllmecpliaaGreatDoorProg
import Derived.Test.YthjpfllmecpliaaGreatDoorMg3
import Derived.KernelRfl
import Derived.Lib.Strings
/- Facts of this seat's types, each asked of the kernel. -/
set_option linter.all false
namespace Go.Proofs.YthjpfllmecpliaaGreatDoor.Ty
open Go Go.Ab
theorem agg0 : aggT Tryz.prog 0 = some false := by kernel_rfl
theorem siz0 : sizT Tryz.prog 0 = some 1 := by kernel_rfl
theorem byt0 : bytT Tryz.prog 0 = some 0 := by kernel_rfl
theorem elem0 : elemT Tryz.prog 0 = none := by kernel_rfl
theorem arr0 : arrT Tryz.prog 0 = none := by kernel_rfl
theorem int0 : intT Tryz.prog 0 = none := by kernel_rfl
theorem str0 : strT Tryz.prog 0 = false := by kernel_rfl
theorem agg1 : aggT Tryz.prog 1 = some false := by kernel_rfl
theorem siz1 : sizT Tryz.prog 1 = some 1 := by kernel_rfl
theorem byt1 : bytT Tryz.prog 1 = some 8 := by kernel_rfl
theorem elem1 : elemT Tryz.prog 1 = none := by kernel_rfl
theorem arr1 : arrT Tryz.prog 1 = none := by kernel_rfl
theorem int1 : intT Tryz.prog 1 = none := by kernel_rfl
theorem zer1 : zerT Tryz.prog 1 = some [.nilFunc] := by kernel_rfl
theorem str1 : strT Tryz.prog 1 = false := by kernel_rfl
theorem agg2 : aggT Tryz.prog 2 = some false := by kernel_rfl
theorem siz2 : sizT Tryz.prog 2 = some 1 := by kernel_rfl
theorem byt2 : bytT Tryz.prog 2 = some 8 := by kernel_rfl
theorem elem2 : elemT Tryz.prog 2 = none := by kernel_rfl
theorem arr2 : arrT Tryz.prog 2 = none := by kernel_rfl
theorem int2 : intT Tryz.prog 2 = some .i64 := by kernel_rfl
theorem zer2 : zerT Tryz.prog 2 = some [.int .i64 0] := by kernel_rfl
theorem str2 : strT Tryz.prog 2 = false := by kernel_rfl
theorem agg3 : aggT Tryz.prog 3 = some false := by kernel_rfl
theorem siz3 : sizT Tryz.prog 3 = some 1 := by kernel_rfl
theorem byt3 : bytT Tryz.prog 3 = some 8 := by kernel_rfl
theorem elem3 : elemT Tryz.prog 3 = none := by kernel_rfl
theorem arr3 : arrT Tryz.prog 3 = none := by kernel_rfl
theorem int3 : intT Tryz.prog 3 = some .i64 := by kernel_rfl
theorem zer3 : zerT Tryz.prog 3 = some [.int .i64 0] := by kernel_rfl
theorem str3 : strT Tryz.prog 3 = false := by kernel_rfl
theorem agg4 : aggT Tryz.prog 4 = some false := by kernel_rfl
theorem siz4 : sizT Tryz.prog 4 = some 1 := by kernel_rfl
theorem byt4 : bytT Tryz.prog 4 = some 1 := by kernel_rfl
theorem elem4 : elemT Tryz.prog 4 = none := by kernel_rfl
theorem arr4 : arrT Tryz.prog 4 = none := by kernel_rfl
theorem int4 : intT Tryz.prog 4 = none := by kernel_rfl
theorem zer4 : zerT Tryz.prog 4 = some [.bool false] := by kernel_rfl
theorem str4 : strT Tryz.prog 4 = false := by kernel_rfl
theorem agg5 : aggT Tryz.prog 5 = some false := by kernel_rfl
theorem siz5 : sizT Tryz.prog 5 = some 1 := by kernel_rfl
theorem byt5 : bytT Tryz.prog 5 = some 1 := by kernel_rfl
theorem elem5 : elemT Tryz.prog 5 = none := by kernel_rfl
theorem arr5 : arrT Tryz.prog 5 = none := by kernel_rfl
theorem int5 : intT Tryz.prog 5 = some .u8 := by kernel_rfl
theorem zer5 : zerT Tryz.prog 5 = some [.int .u8 0] := by kernel_rfl
theorem str5 : strT Tryz.prog 5 = false := by kernel_rfl
theorem agg6 : aggT Tryz.prog 6 = some false := by kernel_rfl
theorem siz6 : sizT Tryz.prog 6 = some 1 := by kernel_rfl
theorem byt6 : bytT Tryz.prog 6 = some 1 := by kernel_rfl
theorem elem6 : elemT Tryz.prog 6 = none := by kernel_rfl
theorem arr6 : arrT Tryz.prog 6 = none := by kernel_rfl
theorem int6 : intT Tryz.prog 6 = some .u8 := by kernel_rfl
theorem zer6 : zerT Tryz.prog 6 = some [.int .u8 0] := by kernel_rfl
theorem str6 : strT Tryz.prog 6 = false := by kernel_rfl
theorem agg8 : aggT Tryz.prog 8 = some true := by kernel_rfl
theorem siz8 : sizT Tryz.prog 8 = some 4 := by kernel_rfl
theorem byt8 : bytT Tryz.prog 8 = some 24 := by kernel_rfl
theorem elem8 : elemT Tryz.prog 8 = none := by kernel_rfl
theorem arr8 : arrT Tryz.prog 8 = none := by kernel_rfl
theorem int8 : intT Tryz.prog 8 = none := by kernel_rfl
theorem zer8 : zerT Tryz.prog 8 = some [.int .i64 0, .int .i64 0, .bool false, .int .u8 0] := by kernel_rfl
theorem kd8 : kdT Tryz.prog 60 8 = some [.int .i64, .int .i64, .bool, .int .u8] := by kernel_rfl
theorem eqg8 : Tryz.prog.eqGuardType (Tryz.prog.depth) 8 = false := by kernel_rfl
theorem szs8 : sizesOk Tryz.prog 8 = true := by kernel_rfl
theorem plc8_0 : placeT Tryz.prog 8 0 = some (0, 1) := by kernel_rfl
theorem plc8_1 : placeT Tryz.prog 8 1 = some (1, 1) := by kernel_rfl
theorem plc8_2 : placeT Tryz.prog 8 2 = some (2, 1) := by kernel_rfl
theorem plc8_3 : placeT Tryz.prog 8 3 = some (3, 1) := by kernel_rfl
theorem str8 : strT Tryz.prog 8 = false := by kernel_rfl
theorem fld8_0 : fldT Tryz.prog 8 0 = some (0, 2) := by kernel_rfl
theorem fld8_1 : fldT Tryz.prog 8 1 = some (1, 3) := by kernel_rfl
theorem fld8_2 : fldT Tryz.prog 8 2 = some (2, 4) := by kernel_rfl
theorem fld8_3 : fldT Tryz.prog 8 3 = some (3, 6) := by kernel_rfl
theorem agg9 : aggT Tryz.prog 9 = some false := by kernel_rfl
theorem siz9 : sizT Tryz.prog 9 = some 1 := by kernel_rfl
theorem byt9 : bytT Tryz.prog 9 = some 16 := by kernel_rfl
theorem elem9 : elemT Tryz.prog 9 = none := by kernel_rfl
theorem arr9 : arrT Tryz.prog 9 = none := by kernel_rfl
theorem int9 : intT Tryz.prog 9 = none := by kernel_rfl
theorem zer9 : zerT Tryz.prog 9 = some [.string ByteArray.empty] := by kernel_rfl
theorem str9 : strT Tryz.prog 9 = true := by kernel_rfl
theorem agg13 : aggT Tryz.prog 13 = some true := by kernel_rfl
theorem siz13 : sizT Tryz.prog 13 = some 2 := by kernel_rfl
theorem byt13 : bytT Tryz.prog 13 = some 24 := by kernel_rfl
theorem elem13 : elemT Tryz.prog 13 = none := by kernel_rfl
theorem arr13 : arrT Tryz.prog 13 = none := by kernel_rfl
theorem int13 : intT Tryz.prog 13 = none := by kernel_rfl
theorem zer13 : zerT Tryz.prog 13 = some [.string ByteArray.empty, .int .u64 0] := by kernel_rfl
theorem eqg13 : Tryz.prog.eqGuardType (Tryz.prog.depth) 13 = false := by kernel_rfl
theorem szs13 : sizesOk Tryz.prog 13 = true := by kernel_rfl
theorem plc13_0 : placeT Tryz.prog 13 0 = some (0, 1) := by kernel_rfl
theorem plc13_1 : placeT Tryz.prog 13 1 = some (1, 1) := by kernel_rfl
theorem str13 : strT Tryz.prog 13 = false := by kernel_rfl
theorem fld13_0 : fldT Tryz.prog 13 0 = some (0, 9) := by kernel_rfl
theorem fld13_1 : fldT Tryz.prog 13 1 = some (1, 12) := by kernel_rfl
theorem agg22 : aggT Tryz.prog 22 = some false := by kernel_rfl
theorem siz22 : sizT Tryz.prog 22 = some 1 := by kernel_rfl
theorem byt22 : bytT Tryz.prog 22 = some 24 := by kernel_rfl
theorem elem22 : elemT Tryz.prog 22 = some 58 := by kernel_rfl
theorem arr22 : arrT Tryz.prog 22 = none := by kernel_rfl
theorem int22 : intT Tryz.prog 22 = none := by kernel_rfl
theorem zer22 : zerT Tryz.prog 22 = some [.slice none 0 0] := by kernel_rfl
theorem str22 : strT Tryz.prog 22 = false := by kernel_rfl
theorem agg24 : aggT Tryz.prog 24 = some true := by kernel_rfl
theorem siz24 : sizT Tryz.prog 24 = some 2 := by kernel_rfl
theorem byt24 : bytT Tryz.prog 24 = some 16 := by kernel_rfl
theorem elem24 : elemT Tryz.prog 24 = none := by kernel_rfl
theorem arr24 : arrT Tryz.prog 24 = none := by kernel_rfl
theorem int24 : intT Tryz.prog 24 = none := by kernel_rfl
theorem zer24 : zerT Tryz.prog 24 = some [.int .i64 0, .int .i64 0] := by kernel_rfl
theorem kd24 : kdT Tryz.prog 60 24 = some [.int .i64, .int .i64] := by kernel_rfl
theorem eqg24 : Tryz.prog.eqGuardType (Tryz.prog.depth) 24 = false := by kernel_rfl
theorem szs24 : sizesOk Tryz.prog 24 = true := by kernel_rfl
theorem plc24_0 : placeT Tryz.prog 24 0 = some (0, 1) := by kernel_rfl
theorem plc24_1 : placeT Tryz.prog 24 1 = some (1, 1) := by kernel_rfl
theorem str24 : strT Tryz.prog 24 = false := by kernel_rfl
theorem fld24_0 : fldT Tryz.prog 24 0 = some (0, 2) := by kernel_rfl
theorem fld24_1 : fldT Tryz.prog 24 1 = some (1, 2) := by kernel_rfl
theorem agg26 : aggT Tryz.prog 26 = some true := by kernel_rfl
theorem siz26 : sizT Tryz.prog 26 = some 10 := by kernel_rfl
theorem byt26 : bytT Tryz.prog 26 = some 96 := by kernel_rfl
theorem elem26 : elemT Tryz.prog 26 = none := by kernel_rfl
theorem arr26 : arrT Tryz.prog 26 = none := by kernel_rfl
theorem int26 : intT Tryz.prog 26 = none := by kernel_rfl
theorem zer26 : zerT Tryz.prog 26 = some [.int .i64 0, .slice none 0 0, .int .i64 0, .int .i64 0, .int .i64 0, .int .i64 0, .int .i64 0, .int .i64 0, .int .i64 0, .int .i64 0] := by kernel_rfl
theorem eqg26 : Tryz.prog.eqGuardType (Tryz.prog.depth) 26 = false := by kernel_rfl
theorem szs26 : sizesOk Tryz.prog 26 = true := by kernel_rfl
theorem plc26_0 : placeT Tryz.prog 26 0 = some (0, 1) := by kernel_rfl
theorem plc26_1 : placeT Tryz.prog 26 1 = some (1, 1) := by kernel_rfl
theorem plc26_2 : placeT Tryz.prog 26 2 = some (2, 1) := by kernel_rfl
theorem plc26_3 : placeT Tryz.prog 26 3 = some (3, 1) := by kernel_rfl
theorem plc26_4 : placeT Tryz.prog 26 4 = some (4, 2) := by kernel_rfl
theorem plc26_5 : placeT Tryz.prog 26 5 = some (6, 1) := by kernel_rfl
theorem plc26_6 : placeT Tryz.prog 26 6 = some (7, 1) := by kernel_rfl
theorem plc26_7 : placeT Tryz.prog 26 7 = some (8, 1) := by kernel_rfl
theorem plc26_8 : placeT Tryz.prog 26 8 = some (9, 1) := by kernel_rfl
theorem str26 : strT Tryz.prog 26 = false := by kernel_rfl
theorem fld26_0 : fldT Tryz.prog 26 0 = some (0, 3) := by kernel_rfl
theorem fld26_1 : fldT Tryz.prog 26 1 = some (1, 22) := by kernel_rfl
theorem fld26_2 : fldT Tryz.prog 26 2 = some (2, 2) := by kernel_rfl
theorem fld26_3 : fldT Tryz.prog 26 3 = some (3, 3) := by kernel_rfl
theorem fld26_4 : fldT Tryz.prog 26 4 = some (4, 24) := by kernel_rfl
theorem fld26_5 : fldT Tryz.prog 26 5 = some (6, 2) := by kernel_rfl
theorem fld26_6 : fldT Tryz.prog 26 6 = some (7, 3) := by kernel_rfl
theorem fld26_7 : fldT Tryz.prog 26 7 = some (8, 3) := by kernel_rfl
theorem fld26_8 : fldT Tryz.prog 26 8 = some (9, 3) := by kernel_rfl
theorem agg27 : aggT Tryz.prog 27 = some false := by kernel_rfl
theorem siz27 : sizT Tryz.prog 27 = some 1 := by kernel_rfl
theorem byt27 : bytT Tryz.prog 27 = some 24 := by kernel_rfl
theorem elem27 : elemT Tryz.prog 27 = some 33 := by kernel_rfl
theorem arr27 : arrT Tryz.prog 27 = none := by kernel_rfl
theorem int27 : intT Tryz.prog 27 = none := by kernel_rfl
theorem zer27 : zerT Tryz.prog 27 = some [.slice none 0 0] := by kernel_rfl
theorem str27 : strT Tryz.prog 27 = false := by kernel_rfl
theorem agg30 : aggT Tryz.prog 30 = some false := by kernel_rfl
theorem siz30 : sizT Tryz.prog 30 = some 1 := by kernel_rfl
theorem byt30 : bytT Tryz.prog 30 = some 8 := by kernel_rfl
theorem elem30 : elemT Tryz.prog 30 = none := by kernel_rfl
theorem arr30 : arrT Tryz.prog 30 = none := by kernel_rfl
theorem int30 : intT Tryz.prog 30 = some .i64 := by kernel_rfl
theorem zer30 : zerT Tryz.prog 30 = some [.int .i64 0] := by kernel_rfl
theorem str30 : strT Tryz.prog 30 = false := by kernel_rfl
theorem agg31 : aggT Tryz.prog 31 = some true := by kernel_rfl
theorem siz31 : sizT Tryz.prog 31 = some 8 := by kernel_rfl
theorem byt31 : bytT Tryz.prog 31 = some 8 := by kernel_rfl
theorem elem31 : elemT Tryz.prog 31 = none := by kernel_rfl
theorem arr31 : arrT Tryz.prog 31 = some (8, 5) := by kernel_rfl
theorem int31 : intT Tryz.prog 31 = none := by kernel_rfl
theorem zer31 : zerT Tryz.prog 31 = some [.int .u8 0, .int .u8 0, .int .u8 0, .int .u8 0, .int .u8 0, .int .u8 0, .int .u8 0, .int .u8 0] := by kernel_rfl
theorem kd31 : kdT Tryz.prog 60 31 = some [.int .u8, .int .u8, .int .u8, .int .u8, .int .u8, .int .u8, .int .u8, .int .u8] := by kernel_rfl
theorem eqg31 : Tryz.prog.eqGuardType (Tryz.prog.depth) 31 = false := by kernel_rfl
theorem szs31 : sizesOk Tryz.prog 31 = true := by kernel_rfl
theorem plc31_0 : placeT Tryz.prog 31 0 = some (0, 1) := by kernel_rfl
theorem plc31_1 : placeT Tryz.prog 31 1 = some (1, 1) := by kernel_rfl
theorem plc31_2 : placeT Tryz.prog 31 2 = some (2, 1) := by kernel_rfl
theorem plc31_3 : placeT Tryz.prog 31 3 = some (3, 1) := by kernel_rfl
theorem plc31_4 : placeT Tryz.prog 31 4 = some (4, 1) := by kernel_rfl
theorem plc31_5 : placeT Tryz.prog 31 5 = some (5, 1) := by kernel_rfl
theorem plc31_6 : placeT Tryz.prog 31 6 = some (6, 1) := by kernel_rfl
theorem plc31_7 : placeT Tryz.prog 31 7 = some (7, 1) := by kernel_rfl
theorem plc31_8 : placeT Tryz.prog 31 8 = some (8, 1) := by kernel_rfl
theorem plc31_9 : placeT Tryz.prog 31 9 = some (9, 1) := by kernel_rfl
theorem plc31_10 : placeT Tryz.prog 31 10 = some (10, 1) := by kernel_rfl
theorem plc31_11 : placeT Tryz.prog 31 11 = some (11, 1) := by kernel_rfl
theorem str31 : strT Tryz.prog 31 = false := by kernel_rfl
theorem agg33 : aggT Tryz.prog 33 = some true := by kernel_rfl
theorem siz33 : sizT Tryz.prog 33 = some 11 := by kernel_rfl
theorem byt33 : bytT Tryz.prog 33 = some 32 := by kernel_rfl
theorem elem33 : elemT Tryz.prog 33 = none := by kernel_rfl
theorem arr33 : arrT Tryz.prog 33 = none := by kernel_rfl
theorem int33 : intT Tryz.prog 33 = none := by kernel_rfl
theorem zer33 : zerT Tryz.prog 33 = some [.int .i64 0, .int .i64 0, .int .i64 0, .int .u8 0, .int .u8 0, .int .u8 0, .int .u8 0, .int .u8 0, .int .u8 0, .int .u8 0, .int .u8 0] := by kernel_rfl
theorem kd33 : kdT Tryz.prog 60 33 = some [.int .i64, .int .i64, .int .i64, .int .u8, .int .u8, .int .u8, .int .u8, .int .u8, .int .u8, .int .u8, .int .u8] := by kernel_rfl
theorem eqg33 : Tryz.prog.eqGuardType (Tryz.prog.depth) 33 = false := by kernel_rfl
theorem szs33 : sizesOk Tryz.prog 33 = true := by kernel_rfl
theorem plc33_0 : placeT Tryz.prog 33 0 = some (0, 1) := by kernel_rfl
theorem plc33_1 : placeT Tryz.prog 33 1 = some (1, 1) := by kernel_rfl
theorem plc33_2 : placeT Tryz.prog 33 2 = some (2, 1) := by kernel_rfl
theorem plc33_3 : placeT Tryz.prog 33 3 = some (3, 8) := by kernel_rfl
theorem str33 : strT Tryz.prog 33 = false := by kernel_rfl
theorem fld33_0 : fldT Tryz.prog 33 0 = some (0, 30) := by kernel_rfl
theorem fld33_1 : fldT Tryz.prog 33 1 = some (1, 3) := by kernel_rfl
theorem fld33_2 : fldT Tryz.prog 33 2 = some (2, 3) := by kernel_rfl
theorem fld33_3 : fldT Tryz.prog 33 3 = some (3, 31) := by kernel_rfl
theorem agg35 : aggT Tryz.prog 35 = some false := by kernel_rfl
theorem siz35 : sizT Tryz.prog 35 = some 1 := by kernel_rfl
theorem byt35 : bytT Tryz.prog 35 = some 8 := by kernel_rfl
theorem elem35 : elemT Tryz.prog 35 = none := by kernel_rfl
theorem arr35 : arrT Tryz.prog 35 = none := by kernel_rfl
theorem int35 : intT Tryz.prog 35 = some .i64 := by kernel_rfl
theorem zer35 : zerT Tryz.prog 35 = some [.int .i64 0] := by kernel_rfl
theorem str35 : strT Tryz.prog 35 = false := by kernel_rfl
theorem agg41 : aggT Tryz.prog 41 = some true := by kernel_rfl
theorem siz41 : sizT Tryz.prog 41 = some 2 := by kernel_rfl
theorem byt41 : bytT Tryz.prog 41 = some 16 := by kernel_rfl
theorem elem41 : elemT Tryz.prog 41 = none := by kernel_rfl
theorem arr41 : arrT Tryz.prog 41 = none := by kernel_rfl
theorem int41 : intT Tryz.prog 41 = none := by kernel_rfl
theorem zer41 : zerT Tryz.prog 41 = some [.int .i64 0, .int .i64 0] := by kernel_rfl
theorem kd41 : kdT Tryz.prog 60 41 = some [.int .i64, .int .i64] := by kernel_rfl
theorem eqg41 : Tryz.prog.eqGuardType (Tryz.prog.depth) 41 = false := by kernel_rfl
theorem szs41 : sizesOk Tryz.prog 41 = true := by kernel_rfl
theorem plc41_0 : placeT Tryz.prog 41 0 = some (0, 1) := by kernel_rfl
theorem plc41_1 : placeT Tryz.prog 41 1 = some (1, 1) := by kernel_rfl
theorem str41 : strT Tryz.prog 41 = false := by kernel_rfl
theorem fld41_0 : fldT Tryz.prog 41 0 = some (0, 35) := by kernel_rfl
theorem fld41_1 : fldT Tryz.prog 41 1 = some (1, 3) := by kernel_rfl
theorem agg48 : aggT Tryz.prog 48 = some false := by kernel_rfl
theorem siz48 : sizT Tryz.prog 48 = some 1 := by kernel_rfl
theorem byt48 : bytT Tryz.prog 48 = some 24 := by kernel_rfl
theorem elem48 : elemT Tryz.prog 48 = some 2 := by kernel_rfl
theorem arr48 : arrT Tryz.prog 48 = none := by kernel_rfl
theorem int48 : intT Tryz.prog 48 = none := by kernel_rfl
theorem zer48 : zerT Tryz.prog 48 = some [.slice none 0 0] := by kernel_rfl
theorem str48 : strT Tryz.prog 48 = false := by kernel_rfl
theorem agg50 : aggT Tryz.prog 50 = some false := by kernel_rfl
theorem siz50 : sizT Tryz.prog 50 = some 1 := by kernel_rfl
theorem byt50 : bytT Tryz.prog 50 = some 24 := by kernel_rfl
theorem elem50 : elemT Tryz.prog 50 = some 9 := by kernel_rfl
theorem arr50 : arrT Tryz.prog 50 = none := by kernel_rfl
theorem int50 : intT Tryz.prog 50 = none := by kernel_rfl
theorem zer50 : zerT Tryz.prog 50 = some [.slice none 0 0] := by kernel_rfl
theorem str50 : strT Tryz.prog 50 = false := by kernel_rfl
theorem agg56 : aggT Tryz.prog 56 = some false := by kernel_rfl
theorem siz56 : sizT Tryz.prog 56 = some 1 := by kernel_rfl
theorem byt56 : bytT Tryz.prog 56 = some 8 := by kernel_rfl
theorem elem56 : elemT Tryz.prog 56 = none := by kernel_rfl
theorem arr56 : arrT Tryz.prog 56 = none := by kernel_rfl
theorem int56 : intT Tryz.prog 56 = some .i64 := by kernel_rfl
theorem zer56 : zerT Tryz.prog 56 = some [.int .i64 0] := by kernel_rfl
theorem str56 : strT Tryz.prog 56 = false := by kernel_rfl
theorem agg58 : aggT Tryz.prog 58 = some true := by kernel_rfl
theorem siz58 : sizT Tryz.prog 58 = some 7 := by kernel_rfl
theorem byt58 : bytT Tryz.prog 58 = some 56 := by kernel_rfl
theorem elem58 : elemT Tryz.prog 58 = none := by kernel_rfl
theorem arr58 : arrT Tryz.prog 58 = none := by kernel_rfl
theorem int58 : intT Tryz.prog 58 = none := by kernel_rfl
theorem zer58 : zerT Tryz.prog 58 = some [.int .i64 0, .int .i64 0, .int .i64 0, .int .i64 0, .int .i64 0, .int .i64 0, .int .i64 0] := by kernel_rfl
theorem kd58 : kdT Tryz.prog 60 58 = some [.int .i64, .int .i64, .int .i64, .int .i64, .int .i64, .int .i64, .int .i64] := by kernel_rfl
theorem eqg58 : Tryz.prog.eqGuardType (Tryz.prog.depth) 58 = false := by kernel_rfl
theorem szs58 : sizesOk Tryz.prog 58 = true := by kernel_rfl
theorem plc58_0 : placeT Tryz.prog 58 0 = some (0, 1) := by kernel_rfl
theorem plc58_1 : placeT Tryz.prog 58 1 = some (1, 1) := by kernel_rfl
theorem plc58_2 : placeT Tryz.prog 58 2 = some (2, 1) := by kernel_rfl
theorem plc58_3 : placeT Tryz.prog 58 3 = some (3, 1) := by kernel_rfl
theorem plc58_4 : placeT Tryz.prog 58 4 = some (4, 1) := by kernel_rfl
theorem plc58_5 : placeT Tryz.prog 58 5 = some (5, 1) := by kernel_rfl
theorem plc58_6 : placeT Tryz.prog 58 6 = some (6, 1) := by kernel_rfl
theorem str58 : strT Tryz.prog 58 = false := by kernel_rfl
theorem fld58_0 : fldT Tryz.prog 58 0 = some (0, 3) := by kernel_rfl
theorem fld58_1 : fldT Tryz.prog 58 1 = some (1, 3) := by kernel_rfl
theorem fld58_2 : fldT Tryz.prog 58 2 = some (2, 56) := by kernel_rfl
theorem fld58_3 : fldT Tryz.prog 58 3 = some (3, 2) := by kernel_rfl
theorem fld58_4 : fldT Tryz.prog 58 4 = some (4, 2) := by kernel_rfl
theorem fld58_5 : fldT Tryz.prog 58 5 = some (5, 3) := by kernel_rfl
theorem fld58_6 : fldT Tryz.prog 58 6 = some (6, 3) := by kernel_rfl
theorem agg65 : aggT Tryz.prog 65 = some true := by kernel_rfl
theorem siz65 : sizT Tryz.prog 65 = some 11 := by kernel_rfl
theorem byt65 : bytT Tryz.prog 65 = some 120 := by kernel_rfl
theorem elem65 : elemT Tryz.prog 65 = none := by kernel_rfl
theorem arr65 : arrT Tryz.prog 65 = none := by kernel_rfl
theorem int65 : intT Tryz.prog 65 = none := by kernel_rfl
theorem zer65 : zerT Tryz.prog 65 = some [.int .i64 0, .slice none 0 0, .int .i64 0, .int .i64 0, .int .i64 0, .int .i64 0, .int .i64 0, .int .i64 0, .int .i64 0, .int .i64 0, .slice none 0 0] := by kernel_rfl
theorem eqg65 : Tryz.prog.eqGuardType (Tryz.prog.depth) 65 = false := by kernel_rfl
theorem szs65 : sizesOk Tryz.prog 65 = true := by kernel_rfl
theorem plc65_0 : placeT Tryz.prog 65 0 = some (0, 10) := by kernel_rfl
theorem plc65_1 : placeT Tryz.prog 65 1 = some (10, 1) := by kernel_rfl
theorem str65 : strT Tryz.prog 65 = false := by kernel_rfl
theorem fld65_0 : fldT Tryz.prog 65 0 = some (0, 26) := by kernel_rfl
theorem fld65_1 : fldT Tryz.prog 65 1 = some (10, 27) := by kernel_rfl
theorem agg70 : aggT Tryz.prog 70 = some false := by kernel_rfl
theorem siz70 : sizT Tryz.prog 70 = some 1 := by kernel_rfl
theorem byt70 : bytT Tryz.prog 70 = some 8 := by kernel_rfl
theorem elem70 : elemT Tryz.prog 70 = none := by kernel_rfl
theorem arr70 : arrT Tryz.prog 70 = none := by kernel_rfl
theorem int70 : intT Tryz.prog 70 = some .u64 := by kernel_rfl
theorem zer70 : zerT Tryz.prog 70 = some [.int .u64 0] := by kernel_rfl
theorem str70 : strT Tryz.prog 70 = false := by kernel_rfl
theorem agg72 : aggT Tryz.prog 72 = some true := by kernel_rfl
theorem siz72 : sizT Tryz.prog 72 = some 3 := by kernel_rfl
theorem byt72 : bytT Tryz.prog 72 = some 24 := by kernel_rfl
theorem elem72 : elemT Tryz.prog 72 = none := by kernel_rfl
theorem arr72 : arrT Tryz.prog 72 = none := by kernel_rfl
theorem int72 : intT Tryz.prog 72 = none := by kernel_rfl
theorem zer72 : zerT Tryz.prog 72 = some [.int .i64 0, .int .i64 0, .int .i64 0] := by kernel_rfl
theorem kd72 : kdT Tryz.prog 60 72 = some [.int .i64, .int .i64, .int .i64] := by kernel_rfl
theorem eqg72 : Tryz.prog.eqGuardType (Tryz.prog.depth) 72 = false := by kernel_rfl
theorem szs72 : sizesOk Tryz.prog 72 = true := by kernel_rfl
theorem plc72_0 : placeT Tryz.prog 72 0 = some (0, 2) := by kernel_rfl
theorem plc72_1 : placeT Tryz.prog 72 1 = some (2, 1) := by kernel_rfl
theorem str72 : strT Tryz.prog 72 = false := by kernel_rfl
theorem fld72_0 : fldT Tryz.prog 72 0 = some (0, 24) := by kernel_rfl
theorem fld72_1 : fldT Tryz.prog 72 1 = some (2, 2) := by kernel_rfl
theorem agg76 : aggT Tryz.prog 76 = some true := by kernel_rfl
theorem siz76 : sizT Tryz.prog 76 = some 3 := by kernel_rfl
theorem byt76 : bytT Tryz.prog 76 = some 24 := by kernel_rfl
theorem elem76 : elemT Tryz.prog 76 = none := by kernel_rfl
theorem arr76 : arrT Tryz.prog 76 = none := by kernel_rfl
theorem int76 : intT Tryz.prog 76 = none := by kernel_rfl
theorem zer76 : zerT Tryz.prog 76 = some [.int .i64 0, .int .i64 0, .int .i64 0] := by kernel_rfl
theorem kd76 : kdT Tryz.prog 60 76 = some [.int .i64, .int .i64, .int .i64] := by kernel_rfl
theorem eqg76 : Tryz.prog.eqGuardType (Tryz.prog.depth) 76 = false := by kernel_rfl
theorem szs76 : sizesOk Tryz.prog 76 = true := by kernel_rfl
theorem plc76_0 : placeT Tryz.prog 76 0 = some (0, 1) := by kernel_rfl
theorem plc76_1 : placeT Tryz.prog 76 1 = some (1, 1) := by kernel_rfl
theorem plc76_2 : placeT Tryz.prog 76 2 = some (2, 1) := by kernel_rfl
theorem str76 : strT Tryz.prog 76 = false := by kernel_rfl
theorem fld76_0 : fldT Tryz.prog 76 0 = some (0, 3) := by kernel_rfl
theorem fld76_1 : fldT Tryz.prog 76 1 = some (1, 3) := by kernel_rfl
theorem fld76_2 : fldT Tryz.prog 76 2 = some (2, 3) := by kernel_rfl
theorem agg93 : aggT Tryz.prog 93 = some true := by kernel_rfl
theorem siz93 : sizT Tryz.prog 93 = some 3 := by kernel_rfl
theorem byt93 : bytT Tryz.prog 93 = some 24 := by kernel_rfl
theorem elem93 : elemT Tryz.prog 93 = none := by kernel_rfl
theorem arr93 : arrT Tryz.prog 93 = none := by kernel_rfl
theorem int93 : intT Tryz.prog 93 = none := by kernel_rfl
theorem zer93 : zerT Tryz.prog 93 = some [.int .i64 0, .int .i64 0, .int .i64 0] := by kernel_rfl
theorem kd93 : kdT Tryz.prog 60 93 = some [.int .i64, .int .i64, .int .i64] := by kernel_rfl
theorem eqg93 : Tryz.prog.eqGuardType (Tryz.prog.depth) 93 = false := by kernel_rfl
theorem szs93 : sizesOk Tryz.prog 93 = true := by kernel_rfl
theorem plc93_0 : placeT Tryz.prog 93 0 = some (0, 2) := by kernel_rfl
theorem plc93_1 : placeT Tryz.prog 93 1 = some (2, 1) := by kernel_rfl
theorem str93 : strT Tryz.prog 93 = false := by kernel_rfl
theorem fld93_0 : fldT Tryz.prog 93 0 = some (0, 24) := by kernel_rfl
theorem fld93_1 : fldT Tryz.prog 93 1 = some (2, 2) := by kernel_rfl
theorem agg96 : aggT Tryz.prog 96 = some true := by kernel_rfl
theorem siz96 : sizT Tryz.prog 96 = some 3 := by kernel_rfl
theorem byt96 : bytT Tryz.prog 96 = some 24 := by kernel_rfl
theorem elem96 : elemT Tryz.prog 96 = none := by kernel_rfl
theorem arr96 : arrT Tryz.prog 96 = none := by kernel_rfl
theorem int96 : intT Tryz.prog 96 = none := by kernel_rfl
theorem zer96 : zerT Tryz.prog 96 = some [.int .i64 0, .int .i64 0, .int .i64 0] := by kernel_rfl
theorem kd96 : kdT Tryz.prog 60 96 = some [.int .i64, .int .i64, .int .i64] := by kernel_rfl
theorem eqg96 : Tryz.prog.eqGuardType (Tryz.prog.depth) 96 = false := by kernel_rfl
theorem szs96 : sizesOk Tryz.prog 96 = true := by kernel_rfl
theorem plc96_0 : placeT Tryz.prog 96 0 = some (0, 1) := by kernel_rfl
theorem plc96_1 : placeT Tryz.prog 96 1 = some (1, 1) := by kernel_rfl
theorem plc96_2 : placeT Tryz.prog 96 2 = some (2, 1) := by kernel_rfl
theorem str96 : strT Tryz.prog 96 = false := by kernel_rfl
theorem fld96_0 : fldT Tryz.prog 96 0 = some (0, 3) := by kernel_rfl
theorem fld96_1 : fldT Tryz.prog 96 1 = some (1, 3) := by kernel_rfl
theorem fld96_2 : fldT Tryz.prog 96 2 = some (2, 3) := by kernel_rfl
theorem agg98 : aggT Tryz.prog 98 = some false := by kernel_rfl
theorem siz98 : sizT Tryz.prog 98 = some 1 := by kernel_rfl
theorem byt98 : bytT Tryz.prog 98 = some 8 := by kernel_rfl
theorem elem98 : elemT Tryz.prog 98 = none := by kernel_rfl
theorem arr98 : arrT Tryz.prog 98 = none := by kernel_rfl
theorem int98 : intT Tryz.prog 98 = none := by kernel_rfl
theorem zer98 : zerT Tryz.prog 98 = some [.pointer none] := by kernel_rfl
theorem str98 : strT Tryz.prog 98 = false := by kernel_rfl
theorem agg100 : aggT Tryz.prog 100 = some false := by kernel_rfl
theorem siz100 : sizT Tryz.prog 100 = some 1 := by kernel_rfl
theorem byt100 : bytT Tryz.prog 100 = some 8 := by kernel_rfl
theorem elem100 : elemT Tryz.prog 100 = none := by kernel_rfl
theorem arr100 : arrT Tryz.prog 100 = none := by kernel_rfl
theorem int100 : intT Tryz.prog 100 = none := by kernel_rfl
theorem zer100 : zerT Tryz.prog 100 = some [.pointer none] := by kernel_rfl
theorem str100 : strT Tryz.prog 100 = false := by kernel_rfl
theorem agg108 : aggT Tryz.prog 108 = some false := by kernel_rfl
theorem siz108 : sizT Tryz.prog 108 = some 1 := by kernel_rfl
theorem byt108 : bytT Tryz.prog 108 = some 8 := by kernel_rfl
theorem elem108 : elemT Tryz.prog 108 = none := by kernel_rfl
theorem arr108 : arrT Tryz.prog 108 = none := by kernel_rfl
theorem int108 : intT Tryz.prog 108 = none := by kernel_rfl
theorem zer108 : zerT Tryz.prog 108 = some [.nilFunc] := by kernel_rfl
theorem str108 : strT Tryz.prog 108 = false := by kernel_rfl
theorem agg118 : aggT Tryz.prog 118 = some false := by kernel_rfl
theorem siz118 : sizT Tryz.prog 118 = some 1 := by kernel_rfl
theorem byt118 : bytT Tryz.prog 118 = some 8 := by kernel_rfl
theorem elem118 : elemT Tryz.prog 118 = none := by kernel_rfl
theorem arr118 : arrT Tryz.prog 118 = none := by kernel_rfl
theorem int118 : intT Tryz.prog 118 = none := by kernel_rfl
theorem zer118 : zerT Tryz.prog 118 = some [.pointer none] := by kernel_rfl
theorem str118 : strT Tryz.prog 118 = false := by kernel_rfl
theorem agg120 : aggT Tryz.prog 120 = some true := by kernel_rfl
theorem siz120 : sizT Tryz.prog 120 = some 6 := by kernel_rfl
theorem byt120 : bytT Tryz.prog 120 = some 96 := by kernel_rfl
theorem elem120 : elemT Tryz.prog 120 = none := by kernel_rfl
theorem arr120 : arrT Tryz.prog 120 = some (6, 9) := by kernel_rfl
theorem int120 : intT Tryz.prog 120 = none := by kernel_rfl
theorem zer120 : zerT Tryz.prog 120 = some [.string ByteArray.empty, .string ByteArray.empty, .string ByteArray.empty, .string ByteArray.empty, .string ByteArray.empty, .string ByteArray.empty] := by kernel_rfl
theorem kd120 : kdT Tryz.prog 60 120 = some [.str, .str, .str, .str, .str, .str] := by kernel_rfl
theorem eqg120 : Tryz.prog.eqGuardType (Tryz.prog.depth) 120 = false := by kernel_rfl
theorem szs120 : sizesOk Tryz.prog 120 = true := by kernel_rfl
theorem plc120_0 : placeT Tryz.prog 120 0 = some (0, 1) := by kernel_rfl
theorem plc120_1 : placeT Tryz.prog 120 1 = some (1, 1) := by kernel_rfl
theorem plc120_2 : placeT Tryz.prog 120 2 = some (2, 1) := by kernel_rfl
theorem plc120_3 : placeT Tryz.prog 120 3 = some (3, 1) := by kernel_rfl
theorem plc120_4 : placeT Tryz.prog 120 4 = some (4, 1) := by kernel_rfl
theorem plc120_5 : placeT Tryz.prog 120 5 = some (5, 1) := by kernel_rfl
theorem plc120_6 : placeT Tryz.prog 120 6 = some (6, 1) := by kernel_rfl
theorem plc120_7 : placeT Tryz.prog 120 7 = some (7, 1) := by kernel_rfl
theorem plc120_8 : placeT Tryz.prog 120 8 = some (8, 1) := by kernel_rfl
theorem plc120_9 : placeT Tryz.prog 120 9 = some (9, 1) := by kernel_rfl
theorem plc120_10 : placeT Tryz.prog 120 10 = some (10, 1) := by kernel_rfl
theorem plc120_11 : placeT Tryz.prog 120 11 = some (11, 1) := by kernel_rfl
theorem str120 : strT Tryz.prog 120 = false := by kernel_rfl
theorem agg122 : aggT Tryz.prog 122 = some false := by kernel_rfl
theorem siz122 : sizT Tryz.prog 122 = some 1 := by kernel_rfl
theorem byt122 : bytT Tryz.prog 122 = some 8 := by kernel_rfl
theorem elem122 : elemT Tryz.prog 122 = none := by kernel_rfl
theorem arr122 : arrT Tryz.prog 122 = none := by kernel_rfl
theorem int122 : intT Tryz.prog 122 = none := by kernel_rfl
theorem zer122 : zerT Tryz.prog 122 = some [.pointer none] := by kernel_rfl
theorem str122 : strT Tryz.prog 122 = false := by kernel_rfl
theorem agg124 : aggT Tryz.prog 124 = some false := by kernel_rfl
theorem siz124 : sizT Tryz.prog 124 = some 1 := by kernel_rfl
theorem byt124 : bytT Tryz.prog 124 = some 8 := by kernel_rfl
theorem elem124 : elemT Tryz.prog 124 = none := by kernel_rfl
theorem arr124 : arrT Tryz.prog 124 = none := by kernel_rfl
theorem int124 : intT Tryz.prog 124 = none := by kernel_rfl
theorem zer124 : zerT Tryz.prog 124 = some [.pointer none] := by kernel_rfl
theorem str124 : strT Tryz.prog 124 = false := by kernel_rfl
theorem agg128 : aggT Tryz.prog 128 = some true := by kernel_rfl
theorem siz128 : sizT Tryz.prog 128 = some 2 := by kernel_rfl
theorem byt128 : bytT Tryz.prog 128 = some 32 := by kernel_rfl
theorem elem128 : elemT Tryz.prog 128 = none := by kernel_rfl
theorem arr128 : arrT Tryz.prog 128 = none := by kernel_rfl
theorem int128 : intT Tryz.prog 128 = none := by kernel_rfl
theorem zer128 : zerT Tryz.prog 128 = some [.slice none 0 0, .bool false] := by kernel_rfl
theorem eqg128 : Tryz.prog.eqGuardType (Tryz.prog.depth) 128 = false := by kernel_rfl
theorem szs128 : sizesOk Tryz.prog 128 = true := by kernel_rfl
theorem plc128_0 : placeT Tryz.prog 128 0 = some (0, 1) := by kernel_rfl
theorem plc128_1 : placeT Tryz.prog 128 1 = some (1, 1) := by kernel_rfl
theorem str128 : strT Tryz.prog 128 = false := by kernel_rfl
theorem fld128_0 : fldT Tryz.prog 128 0 = some (0, 50) := by kernel_rfl
theorem fld128_1 : fldT Tryz.prog 128 1 = some (1, 4) := by kernel_rfl
theorem agg132 : aggT Tryz.prog 132 = some true := by kernel_rfl
theorem siz132 : sizT Tryz.prog 132 = some 4 := by kernel_rfl
theorem byt132 : bytT Tryz.prog 132 = some 32 := by kernel_rfl
theorem elem132 : elemT Tryz.prog 132 = none := by kernel_rfl
theorem arr132 : arrT Tryz.prog 132 = none := by kernel_rfl
theorem int132 : intT Tryz.prog 132 = none := by kernel_rfl
theorem zer132 : zerT Tryz.prog 132 = some [.int .i64 0, .int .i64 0, .int .i64 0, .int .i64 0] := by kernel_rfl
theorem kd132 : kdT Tryz.prog 60 132 = some [.int .i64, .int .i64, .int .i64, .int .i64] := by kernel_rfl
theorem eqg132 : Tryz.prog.eqGuardType (Tryz.prog.depth) 132 = false := by kernel_rfl
theorem szs132 : sizesOk Tryz.prog 132 = true := by kernel_rfl
theorem plc132_0 : placeT Tryz.prog 132 0 = some (0, 1) := by kernel_rfl
theorem plc132_1 : placeT Tryz.prog 132 1 = some (1, 1) := by kernel_rfl
theorem plc132_2 : placeT Tryz.prog 132 2 = some (2, 1) := by kernel_rfl
theorem plc132_3 : placeT Tryz.prog 132 3 = some (3, 1) := by kernel_rfl
theorem str132 : strT Tryz.prog 132 = false := by kernel_rfl
theorem fld132_0 : fldT Tryz.prog 132 0 = some (0, 56) := by kernel_rfl
theorem fld132_1 : fldT Tryz.prog 132 1 = some (1, 3) := by kernel_rfl
theorem fld132_2 : fldT Tryz.prog 132 2 = some (2, 3) := by kernel_rfl
theorem fld132_3 : fldT Tryz.prog 132 3 = some (3, 3) := by kernel_rfl
theorem agg140 : aggT Tryz.prog 140 = some false := by kernel_rfl
theorem siz140 : sizT Tryz.prog 140 = some 1 := by kernel_rfl
theorem byt140 : bytT Tryz.prog 140 = some 24 := by kernel_rfl
theorem elem140 : elemT Tryz.prog 140 = some 122 := by kernel_rfl
theorem arr140 : arrT Tryz.prog 140 = none := by kernel_rfl
theorem int140 : intT Tryz.prog 140 = none := by kernel_rfl
theorem zer140 : zerT Tryz.prog 140 = some [.slice none 0 0] := by kernel_rfl
theorem str140 : strT Tryz.prog 140 = false := by kernel_rfl
theorem agg143 : aggT Tryz.prog 143 = some false := by kernel_rfl
theorem siz143 : sizT Tryz.prog 143 = some 1 := by kernel_rfl
theorem byt143 : bytT Tryz.prog 143 = some 24 := by kernel_rfl
theorem elem143 : elemT Tryz.prog 143 = some 124 := by kernel_rfl
theorem arr143 : arrT Tryz.prog 143 = none := by kernel_rfl
theorem int143 : intT Tryz.prog 143 = none := by kernel_rfl
theorem zer143 : zerT Tryz.prog 143 = some [.slice none 0 0] := by kernel_rfl
theorem str143 : strT Tryz.prog 143 = false := by kernel_rfl
theorem agg144 : aggT Tryz.prog 144 = some false := by kernel_rfl
theorem siz144 : sizT Tryz.prog 144 = some 1 := by kernel_rfl
theorem byt144 : bytT Tryz.prog 144 = some 4 := by kernel_rfl
theorem elem144 : elemT Tryz.prog 144 = none := by kernel_rfl
theorem arr144 : arrT Tryz.prog 144 = none := by kernel_rfl
theorem int144 : intT Tryz.prog 144 = some .u32 := by kernel_rfl
theorem zer144 : zerT Tryz.prog 144 = some [.int .u32 0] := by kernel_rfl
theorem str144 : strT Tryz.prog 144 = false := by kernel_rfl
theorem und0 : (Tryz.prog.underlying 0).isSome = true := by kernel_rfl
theorem und1 : (Tryz.prog.underlying 1).isSome = true := by kernel_rfl
theorem und2 : (Tryz.prog.underlying 2).isSome = true := by kernel_rfl
theorem und3 : (Tryz.prog.underlying 3).isSome = true := by kernel_rfl
theorem und4 : (Tryz.prog.underlying 4).isSome = true := by kernel_rfl
theorem und5 : (Tryz.prog.underlying 5).isSome = true := by kernel_rfl
theorem und6 : (Tryz.prog.underlying 6).isSome = true := by kernel_rfl
theorem und8 : (Tryz.prog.underlying 8).isSome = true := by kernel_rfl
theorem und9 : (Tryz.prog.underlying 9).isSome = true := by kernel_rfl
theorem und13 : (Tryz.prog.underlying 13).isSome = true := by kernel_rfl
theorem und22 : (Tryz.prog.underlying 22).isSome = true := by kernel_rfl
theorem und24 : (Tryz.prog.underlying 24).isSome = true := by kernel_rfl
theorem und26 : (Tryz.prog.underlying 26).isSome = true := by kernel_rfl
theorem und27 : (Tryz.prog.underlying 27).isSome = true := by kernel_rfl
theorem und30 : (Tryz.prog.underlying 30).isSome = true := by kernel_rfl
theorem und31 : (Tryz.prog.underlying 31).isSome = true := by kernel_rfl
theorem und33 : (Tryz.prog.underlying 33).isSome = true := by kernel_rfl
theorem und35 : (Tryz.prog.underlying 35).isSome = true := by kernel_rfl
theorem und41 : (Tryz.prog.underlying 41).isSome = true := by kernel_rfl
theorem und48 : (Tryz.prog.underlying 48).isSome = true := by kernel_rfl
theorem und50 : (Tryz.prog.underlying 50).isSome = true := by kernel_rfl
theorem und56 : (Tryz.prog.underlying 56).isSome = true := by kernel_rfl
theorem und58 : (Tryz.prog.underlying 58).isSome = true := by kernel_rfl
theorem und65 : (Tryz.prog.underlying 65).isSome = true := by kernel_rfl
theorem und70 : (Tryz.prog.underlying 70).isSome = true := by kernel_rfl
theorem und72 : (Tryz.prog.underlying 72).isSome = true := by kernel_rfl
theorem und76 : (Tryz.prog.underlying 76).isSome = true := by kernel_rfl
theorem und93 : (Tryz.prog.underlying 93).isSome = true := by kernel_rfl
theorem und96 : (Tryz.prog.underlying 96).isSome = true := by kernel_rfl
theorem und98 : (Tryz.prog.underlying 98).isSome = true := by kernel_rfl
theorem und100 : (Tryz.prog.underlying 100).isSome = true := by kernel_rfl
theorem und108 : (Tryz.prog.underlying 108).isSome = true := by kernel_rfl
theorem und118 : (Tryz.prog.underlying 118).isSome = true := by kernel_rfl
theorem und120 : (Tryz.prog.underlying 120).isSome = true := by kernel_rfl
theorem und122 : (Tryz.prog.underlying 122).isSome = true := by kernel_rfl
theorem und124 : (Tryz.prog.underlying 124).isSome = true := by kernel_rfl
theorem und128 : (Tryz.prog.underlying 128).isSome = true := by kernel_rfl
theorem und132 : (Tryz.prog.underlying 132).isSome = true := by kernel_rfl
theorem und140 : (Tryz.prog.underlying 140).isSome = true := by kernel_rfl
theorem und143 : (Tryz.prog.underlying 143).isSome = true := by kernel_rfl
theorem und144 : (Tryz.prog.underlying 144).isSome = true := by kernel_rfl
theorem t0 : (aggT Tryz.prog 0 = some false) ∧ (sizT Tryz.prog 0 = some 1) ∧ (bytT Tryz.prog 0 = some 0) ∧ (elemT Tryz.prog 0 = none) ∧ (arrT Tryz.prog 0 = none) ∧ (intT Tryz.prog 0 = none) ∧ (strT Tryz.prog 0 = false) ∧ ((Tryz.prog.underlying 0).isSome = true) := ⟨agg0, siz0, byt0, elem0, arr0, int0, str0, und0⟩
theorem t1 : (aggT Tryz.prog 1 = some false) ∧ (sizT Tryz.prog 1 = some 1) ∧ (bytT Tryz.prog 1 = some 8) ∧ (elemT Tryz.prog 1 = none) ∧ (arrT Tryz.prog 1 = none) ∧ (intT Tryz.prog 1 = none) ∧ (zerT Tryz.prog 1 = some [.nilFunc]) ∧ (strT Tryz.prog 1 = false) ∧ ((Tryz.prog.underlying 1).isSome = true) := ⟨agg1, siz1, byt1, elem1, arr1, int1, zer1, str1, und1⟩
theorem t2 : (aggT Tryz.prog 2 = some false) ∧ (sizT Tryz.prog 2 = some 1) ∧ (bytT Tryz.prog 2 = some 8) ∧ (elemT Tryz.prog 2 = none) ∧ (arrT Tryz.prog 2 = none) ∧ (intT Tryz.prog 2 = some .i64) ∧ (zerT Tryz.prog 2 = some [.int .i64 0]) ∧ (strT Tryz.prog 2 = false) ∧ ((Tryz.prog.underlying 2).isSome = true) := ⟨agg2, siz2, byt2, elem2, arr2, int2, zer2, str2, und2⟩
theorem t3 : (aggT Tryz.prog 3 = some false) ∧ (sizT Tryz.prog 3 = some 1) ∧ (bytT Tryz.prog 3 = some 8) ∧ (elemT Tryz.prog 3 = none) ∧ (arrT Tryz.prog 3 = none) ∧ (intT Tryz.prog 3 = some .i64) ∧ (zerT Tryz.prog 3 = some [.int .i64 0]) ∧ (strT Tryz.prog 3 = false) ∧ ((Tryz.prog.underlying 3).isSome = true) := ⟨agg3, siz3, byt3, elem3, arr3, int3, zer3, str3, und3⟩
theorem t4 : (aggT Tryz.prog 4 = some false) ∧ (sizT Tryz.prog 4 = some 1) ∧ (bytT Tryz.prog 4 = some 1) ∧ (elemT Tryz.prog 4 = none) ∧ (arrT Tryz.prog 4 = none) ∧ (intT Tryz.prog 4 = none) ∧ (zerT Tryz.prog 4 = some [.bool false]) ∧ (strT Tryz.prog 4 = false) ∧ ((Tryz.prog.underlying 4).isSome = true) := ⟨agg4, siz4, byt4, elem4, arr4, int4, zer4, str4, und4⟩
theorem t5 : (aggT Tryz.prog 5 = some false) ∧ (sizT Tryz.prog 5 = some 1) ∧ (bytT Tryz.prog 5 = some 1) ∧ (elemT Tryz.prog 5 = none) ∧ (arrT Tryz.prog 5 = none) ∧ (intT Tryz.prog 5 = some .u8) ∧ (zerT Tryz.prog 5 = some [.int .u8 0]) ∧ (strT Tryz.prog 5 = false) ∧ ((Tryz.prog.underlying 5).isSome = true) := ⟨agg5, siz5, byt5, elem5, arr5, int5, zer5, str5, und5⟩
theorem t6 : (aggT Tryz.prog 6 = some false) ∧ (sizT Tryz.prog 6 = some 1) ∧ (bytT Tryz.prog 6 = some 1) ∧ (elemT Tryz.prog 6 = none) ∧ (arrT Tryz.prog 6 = none) ∧ (intT Tryz.prog 6 = some .u8) ∧ (zerT Tryz.prog 6 = some [.int .u8 0]) ∧ (strT Tryz.prog 6 = false) ∧ ((Tryz.prog.underlying 6).isSome = true) := ⟨agg6, siz6, byt6, elem6, arr6, int6, zer6, str6, und6⟩
theorem t8 : (aggT Tryz.prog 8 = some true) ∧ (sizT Tryz.prog 8 = some 4) ∧ (bytT Tryz.prog 8 = some 24) ∧ (elemT Tryz.prog 8 = none) ∧ (arrT Tryz.prog 8 = none) ∧ (intT Tryz.prog 8 = none) ∧ (zerT Tryz.prog 8 = some [.int .i64 0, .int .i64 0, .bool false, .int .u8 0]) ∧ (kdT Tryz.prog 60 8 = some [.int .i64, .int .i64, .bool, .int .u8]) ∧ (Tryz.prog.eqGuardType (Tryz.prog.depth) 8 = false) ∧ (sizesOk Tryz.prog 8 = true) ∧ (placeT Tryz.prog 8 0 = some (0, 1)) ∧ (placeT Tryz.prog 8 1 = some (1, 1)) ∧ (placeT Tryz.prog 8 2 = some (2, 1)) ∧ (placeT Tryz.prog 8 3 = some (3, 1)) ∧ (strT Tryz.prog 8 = false) ∧ (fldT Tryz.prog 8 0 = some (0, 2)) ∧ (fldT Tryz.prog 8 1 = some (1, 3)) ∧ (fldT Tryz.prog 8 2 = some (2, 4)) ∧ (fldT Tryz.prog 8 3 = some (3, 6)) ∧ ((Tryz.prog.underlying 8).isSome = true) := ⟨agg8, siz8, byt8, elem8, arr8, int8, zer8, kd8, eqg8, szs8, plc8_0, plc8_1, plc8_2, plc8_3, str8, fld8_0, fld8_1, fld8_2, fld8_3, und8⟩
theorem t9 : (aggT Tryz.prog 9 = some false) ∧ (sizT Tryz.prog 9 = some 1) ∧ (bytT Tryz.prog 9 = some 16) ∧ (elemT Tryz.prog 9 = none) ∧ (arrT Tryz.prog 9 = none) ∧ (intT Tryz.prog 9 = none) ∧ (zerT Tryz.prog 9 = some [.string ByteArray.empty]) ∧ (strT Tryz.prog 9 = true) ∧ ((Tryz.prog.underlying 9).isSome = true) := ⟨agg9, siz9, byt9, elem9, arr9, int9, zer9, str9, und9⟩
theorem t13 : (aggT Tryz.prog 13 = some true) ∧ (sizT Tryz.prog 13 = some 2) ∧ (bytT Tryz.prog 13 = some 24) ∧ (elemT Tryz.prog 13 = none) ∧ (arrT Tryz.prog 13 = none) ∧ (intT Tryz.prog 13 = none) ∧ (zerT Tryz.prog 13 = some [.string ByteArray.empty, .int .u64 0]) ∧ (Tryz.prog.eqGuardType (Tryz.prog.depth) 13 = false) ∧ (sizesOk Tryz.prog 13 = true) ∧ (placeT Tryz.prog 13 0 = some (0, 1)) ∧ (placeT Tryz.prog 13 1 = some (1, 1)) ∧ (strT Tryz.prog 13 = false) ∧ (fldT Tryz.prog 13 0 = some (0, 9)) ∧ (fldT Tryz.prog 13 1 = some (1, 12)) ∧ ((Tryz.prog.underlying 13).isSome = true) := ⟨agg13, siz13, byt13, elem13, arr13, int13, zer13, eqg13, szs13, plc13_0, plc13_1, str13, fld13_0, fld13_1, und13⟩
theorem t22 : (aggT Tryz.prog 22 = some false) ∧ (sizT Tryz.prog 22 = some 1) ∧ (bytT Tryz.prog 22 = some 24) ∧ (elemT Tryz.prog 22 = some 58) ∧ (arrT Tryz.prog 22 = none) ∧ (intT Tryz.prog 22 = none) ∧ (zerT Tryz.prog 22 = some [.slice none 0 0]) ∧ (strT Tryz.prog 22 = false) ∧ ((Tryz.prog.underlying 22).isSome = true) := ⟨agg22, siz22, byt22, elem22, arr22, int22, zer22, str22, und22⟩
theorem t24 : (aggT Tryz.prog 24 = some true) ∧ (sizT Tryz.prog 24 = some 2) ∧ (bytT Tryz.prog 24 = some 16) ∧ (elemT Tryz.prog 24 = none) ∧ (arrT Tryz.prog 24 = none) ∧ (intT Tryz.prog 24 = none) ∧ (zerT Tryz.prog 24 = some [.int .i64 0, .int .i64 0]) ∧ (kdT Tryz.prog 60 24 = some [.int .i64, .int .i64]) ∧ (Tryz.prog.eqGuardType (Tryz.prog.depth) 24 = false) ∧ (sizesOk Tryz.prog 24 = true) ∧ (placeT Tryz.prog 24 0 = some (0, 1)) ∧ (placeT Tryz.prog 24 1 = some (1, 1)) ∧ (strT Tryz.prog 24 = false) ∧ (fldT Tryz.prog 24 0 = some (0, 2)) ∧ (fldT Tryz.prog 24 1 = some (1, 2)) ∧ ((Tryz.prog.underlying 24).isSome = true) := ⟨agg24, siz24, byt24, elem24, arr24, int24, zer24, kd24, eqg24, szs24, plc24_0, plc24_1, str24, fld24_0, fld24_1, und24⟩
theorem t26 : (aggT Tryz.prog 26 = some true) ∧ (sizT Tryz.prog 26 = some 10) ∧ (bytT Tryz.prog 26 = some 96) ∧ (elemT Tryz.prog 26 = none) ∧ (arrT Tryz.prog 26 = none) ∧ (intT Tryz.prog 26 = none) ∧ (zerT Tryz.prog 26 = some [.int .i64 0, .slice none 0 0, .int .i64 0, .int .i64 0, .int .i64 0, .int .i64 0, .int .i64 0, .int .i64 0, .int .i64 0, .int .i64 0]) ∧ (Tryz.prog.eqGuardType (Tryz.prog.depth) 26 = false) ∧ (sizesOk Tryz.prog 26 = true) ∧ (placeT Tryz.prog 26 0 = some (0, 1)) ∧ (placeT Tryz.prog 26 1 = some (1, 1)) ∧ (placeT Tryz.prog 26 2 = some (2, 1)) ∧ (placeT Tryz.prog 26 3 = some (3, 1)) ∧ (placeT Tryz.prog 26 4 = some (4, 2)) ∧ (placeT Tryz.prog 26 5 = some (6, 1)) ∧ (placeT Tryz.prog 26 6 = some (7, 1)) ∧ (placeT Tryz.prog 26 7 = some (8, 1)) ∧ (placeT Tryz.prog 26 8 = some (9, 1)) ∧ (strT Tryz.prog 26 = false) ∧ (fldT Tryz.prog 26 0 = some (0, 3)) ∧ (fldT Tryz.prog 26 1 = some (1, 22)) ∧ (fldT Tryz.prog 26 2 = some (2, 2)) ∧ (fldT Tryz.prog 26 3 = some (3, 3)) ∧ (fldT Tryz.prog 26 4 = some (4, 24)) ∧ (fldT Tryz.prog 26 5 = some (6, 2)) ∧ (fldT Tryz.prog 26 6 = some (7, 3)) ∧ (fldT Tryz.prog 26 7 = some (8, 3)) ∧ (fldT Tryz.prog 26 8 = some (9, 3)) ∧ ((Tryz.prog.underlying 26).isSome = true) := ⟨agg26, siz26, byt26, elem26, arr26, int26, zer26, eqg26, szs26, plc26_0, plc26_1, plc26_2, plc26_3, plc26_4, plc26_5, plc26_6, plc26_7, plc26_8, str26, fld26_0, fld26_1, fld26_2, fld26_3, fld26_4, fld26_5, fld26_6, fld26_7, fld26_8, und26⟩
theorem t27 : (aggT Tryz.prog 27 = some false) ∧ (sizT Tryz.prog 27 = some 1) ∧ (bytT Tryz.prog 27 = some 24) ∧ (elemT Tryz.prog 27 = some 33) ∧ (arrT Tryz.prog 27 = none) ∧ (intT Tryz.prog 27 = none) ∧ (zerT Tryz.prog 27 = some [.slice none 0 0]) ∧ (strT Tryz.prog 27 = false) ∧ ((Tryz.prog.underlying 27).isSome = true) := ⟨agg27, siz27, byt27, elem27, arr27, int27, zer27, str27, und27⟩
theorem t30 : (aggT Tryz.prog 30 = some false) ∧ (sizT Tryz.prog 30 = some 1) ∧ (bytT Tryz.prog 30 = some 8) ∧ (elemT Tryz.prog 30 = none) ∧ (arrT Tryz.prog 30 = none) ∧ (intT Tryz.prog 30 = some .i64) ∧ (zerT Tryz.prog 30 = some [.int .i64 0]) ∧ (strT Tryz.prog 30 = false) ∧ ((Tryz.prog.underlying 30).isSome = true) := ⟨agg30, siz30, byt30, elem30, arr30, int30, zer30, str30, und30⟩
theorem t31 : (aggT Tryz.prog 31 = some true) ∧ (sizT Tryz.prog 31 = some 8) ∧ (bytT Tryz.prog 31 = some 8) ∧ (elemT Tryz.prog 31 = none) ∧ (arrT Tryz.prog 31 = some (8, 5)) ∧ (intT Tryz.prog 31 = none) ∧ (zerT Tryz.prog 31 = some [.int .u8 0, .int .u8 0, .int .u8 0, .int .u8 0, .int .u8 0, .int .u8 0, .int .u8 0, .int .u8 0]) ∧ (kdT Tryz.prog 60 31 = some [.int .u8, .int .u8, .int .u8, .int .u8, .int .u8, .int .u8, .int .u8, .int .u8]) ∧ (Tryz.prog.eqGuardType (Tryz.prog.depth) 31 = false) ∧ (sizesOk Tryz.prog 31 = true) ∧ (placeT Tryz.prog 31 0 = some (0, 1)) ∧ (placeT Tryz.prog 31 1 = some (1, 1)) ∧ (placeT Tryz.prog 31 2 = some (2, 1)) ∧ (placeT Tryz.prog 31 3 = some (3, 1)) ∧ (placeT Tryz.prog 31 4 = some (4, 1)) ∧ (placeT Tryz.prog 31 5 = some (5, 1)) ∧ (placeT Tryz.prog 31 6 = some (6, 1)) ∧ (placeT Tryz.prog 31 7 = some (7, 1)) ∧ (placeT Tryz.prog 31 8 = some (8, 1)) ∧ (placeT Tryz.prog 31 9 = some (9, 1)) ∧ (placeT Tryz.prog 31 10 = some (10, 1)) ∧ (placeT Tryz.prog 31 11 = some (11, 1)) ∧ (strT Tryz.prog 31 = false) ∧ ((Tryz.prog.underlying 31).isSome = true) := ⟨agg31, siz31, byt31, elem31, arr31, int31, zer31, kd31, eqg31, szs31, plc31_0, plc31_1, plc31_2, plc31_3, plc31_4, plc31_5, plc31_6, plc31_7, plc31_8, plc31_9, plc31_10, plc31_11, str31, und31⟩
theorem t33 : (aggT Tryz.prog 33 = some true) ∧ (sizT Tryz.prog 33 = some 11) ∧ (bytT Tryz.prog 33 = some 32) ∧ (elemT Tryz.prog 33 = none) ∧ (arrT Tryz.prog 33 = none) ∧ (intT Tryz.prog 33 = none) ∧ (zerT Tryz.prog 33 = some [.int .i64 0, .int .i64 0, .int .i64 0, .int .u8 0, .int .u8 0, .int .u8 0, .int .u8 0, .int .u8 0, .int .u8 0, .int .u8 0, .int .u8 0]) ∧ (kdT Tryz.prog 60 33 = some [.int .i64, .int .i64, .int .i64, .int .u8, .int .u8, .int .u8, .int .u8, .int .u8, .int .u8, .int .u8, .int .u8]) ∧ (Tryz.prog.eqGuardType (Tryz.prog.depth) 33 = false) ∧ (sizesOk Tryz.prog 33 = true) ∧ (placeT Tryz.prog 33 0 = some (0, 1)) ∧ (placeT Tryz.prog 33 1 = some (1, 1)) ∧ (placeT Tryz.prog 33 2 = some (2, 1)) ∧ (placeT Tryz.prog 33 3 = some (3, 8)) ∧ (strT Tryz.prog 33 = false) ∧ (fldT Tryz.prog 33 0 = some (0, 30)) ∧ (fldT Tryz.prog 33 1 = some (1, 3)) ∧ (fldT Tryz.prog 33 2 = some (2, 3)) ∧ (fldT Tryz.prog 33 3 = some (3, 31)) ∧ ((Tryz.prog.underlying 33).isSome = true) := ⟨agg33, siz33, byt33, elem33, arr33, int33, zer33, kd33, eqg33, szs33, plc33_0, plc33_1, plc33_2, plc33_3, str33, fld33_0, fld33_1, fld33_2, fld33_3, und33⟩
theorem t35 : (aggT Tryz.prog 35 = some false) ∧ (sizT Tryz.prog 35 = some 1) ∧ (bytT Tryz.prog 35 = some 8) ∧ (elemT Tryz.prog 35 = none) ∧ (arrT Tryz.prog 35 = none) ∧ (intT Tryz.prog 35 = some .i64) ∧ (zerT Tryz.prog 35 = some [.int .i64 0]) ∧ (strT Tryz.prog 35 = false) ∧ ((Tryz.prog.underlying 35).isSome = true) := ⟨agg35, siz35, byt35, elem35, arr35, int35, zer35, str35, und35⟩
theorem t41 : (aggT Tryz.prog 41 = some true) ∧ (sizT Tryz.prog 41 = some 2) ∧ (bytT Tryz.prog 41 = some 16) ∧ (elemT Tryz.prog 41 = none) ∧ (arrT Tryz.prog 41 = none) ∧ (intT Tryz.prog 41 = none) ∧ (zerT Tryz.prog 41 = some [.int .i64 0, .int .i64 0]) ∧ (kdT Tryz.prog 60 41 = some [.int .i64, .int .i64]) ∧ (Tryz.prog.eqGuardType (Tryz.prog.depth) 41 = false) ∧ (sizesOk Tryz.prog 41 = true) ∧ (placeT Tryz.prog 41 0 = some (0, 1)) ∧ (placeT Tryz.prog 41 1 = some (1, 1)) ∧ (strT Tryz.prog 41 = false) ∧ (fldT Tryz.prog 41 0 = some (0, 35)) ∧ (fldT Tryz.prog 41 1 = some (1, 3)) ∧ ((Tryz.prog.underlying 41).isSome = true) := ⟨agg41, siz41, byt41, elem41, arr41, int41, zer41, kd41, eqg41, szs41, plc41_0, plc41_1, str41, fld41_0, fld41_1, und41⟩
theorem t48 : (aggT Tryz.prog 48 = some false) ∧ (sizT Tryz.prog 48 = some 1) ∧ (bytT Tryz.prog 48 = some 24) ∧ (elemT Tryz.prog 48 = some 2) ∧ (arrT Tryz.prog 48 = none) ∧ (intT Tryz.prog 48 = none) ∧ (zerT Tryz.prog 48 = some [.slice none 0 0]) ∧ (strT Tryz.prog 48 = false) ∧ ((Tryz.prog.underlying 48).isSome = true) := ⟨agg48, siz48, byt48, elem48, arr48, int48, zer48, str48, und48⟩
theorem t50 : (aggT Tryz.prog 50 = some false) ∧ (sizT Tryz.prog 50 = some 1) ∧ (bytT Tryz.prog 50 = some 24) ∧ (elemT Tryz.prog 50 = some 9) ∧ (arrT Tryz.prog 50 = none) ∧ (intT Tryz.prog 50 = none) ∧ (zerT Tryz.prog 50 = some [.slice none 0 0]) ∧ (strT Tryz.prog 50 = false) ∧ ((Tryz.prog.underlying 50).isSome = true) := ⟨agg50, siz50, byt50, elem50, arr50, int50, zer50, str50, und50⟩
theorem t56 : (aggT Tryz.prog 56 = some false) ∧ (sizT Tryz.prog 56 = some 1) ∧ (bytT Tryz.prog 56 = some 8) ∧ (elemT Tryz.prog 56 = none) ∧ (arrT Tryz.prog 56 = none) ∧ (intT Tryz.prog 56 = some .i64) ∧ (zerT Tryz.prog 56 = some [.int .i64 0]) ∧ (strT Tryz.prog 56 = false) ∧ ((Tryz.prog.underlying 56).isSome = true) := ⟨agg56, siz56, byt56, elem56, arr56, int56, zer56, str56, und56⟩
theorem t58 : (aggT Tryz.prog 58 = some true) ∧ (sizT Tryz.prog 58 = some 7) ∧ (bytT Tryz.prog 58 = some 56) ∧ (elemT Tryz.prog 58 = none) ∧ (arrT Tryz.prog 58 = none) ∧ (intT Tryz.prog 58 = none) ∧ (zerT Tryz.prog 58 = some [.int .i64 0, .int .i64 0, .int .i64 0, .int .i64 0, .int .i64 0, .int .i64 0, .int .i64 0]) ∧ (kdT Tryz.prog 60 58 = some [.int .i64, .int .i64, .int .i64, .int .i64, .int .i64, .int .i64, .int .i64]) ∧ (Tryz.prog.eqGuardType (Tryz.prog.depth) 58 = false) ∧ (sizesOk Tryz.prog 58 = true) ∧ (placeT Tryz.prog 58 0 = some (0, 1)) ∧ (placeT Tryz.prog 58 1 = some (1, 1)) ∧ (placeT Tryz.prog 58 2 = some (2, 1)) ∧ (placeT Tryz.prog 58 3 = some (3, 1)) ∧ (placeT Tryz.prog 58 4 = some (4, 1)) ∧ (placeT Tryz.prog 58 5 = some (5, 1)) ∧ (placeT Tryz.prog 58 6 = some (6, 1)) ∧ (strT Tryz.prog 58 = false) ∧ (fldT Tryz.prog 58 0 = some (0, 3)) ∧ (fldT Tryz.prog 58 1 = some (1, 3)) ∧ (fldT Tryz.prog 58 2 = some (2, 56)) ∧ (fldT Tryz.prog 58 3 = some (3, 2)) ∧ (fldT Tryz.prog 58 4 = some (4, 2)) ∧ (fldT Tryz.prog 58 5 = some (5, 3)) ∧ (fldT Tryz.prog 58 6 = some (6, 3)) ∧ ((Tryz.prog.underlying 58).isSome = true) := ⟨agg58, siz58, byt58, elem58, arr58, int58, zer58, kd58, eqg58, szs58, plc58_0, plc58_1, plc58_2, plc58_3, plc58_4, plc58_5, plc58_6, str58, fld58_0, fld58_1, fld58_2, fld58_3, fld58_4, fld58_5, fld58_6, und58⟩
theorem t65 : (aggT Tryz.prog 65 = some true) ∧ (sizT Tryz.prog 65 = some 11) ∧ (bytT Tryz.prog 65 = some 120) ∧ (elemT Tryz.prog 65 = none) ∧ (arrT Tryz.prog 65 = none) ∧ (intT Tryz.prog 65 = none) ∧ (zerT Tryz.prog 65 = some [.int .i64 0, .slice none 0 0, .int .i64 0, .int .i64 0, .int .i64 0, .int .i64 0, .int .i64 0, .int .i64 0, .int .i64 0, .int .i64 0, .slice none 0 0]) ∧ (Tryz.prog.eqGuardType (Tryz.prog.depth) 65 = false) ∧ (sizesOk Tryz.prog 65 = true) ∧ (placeT Tryz.prog 65 0 = some (0, 10)) ∧ (placeT Tryz.prog 65 1 = some (10, 1)) ∧ (strT Tryz.prog 65 = false) ∧ (fldT Tryz.prog 65 0 = some (0, 26)) ∧ (fldT Tryz.prog 65 1 = some (10, 27)) ∧ ((Tryz.prog.underlying 65).isSome = true) := ⟨agg65, siz65, byt65, elem65, arr65, int65, zer65, eqg65, szs65, plc65_0, plc65_1, str65, fld65_0, fld65_1, und65⟩
theorem t70 : (aggT Tryz.prog 70 = some false) ∧ (sizT Tryz.prog 70 = some 1) ∧ (bytT Tryz.prog 70 = some 8) ∧ (elemT Tryz.prog 70 = none) ∧ (arrT Tryz.prog 70 = none) ∧ (intT Tryz.prog 70 = some .u64) ∧ (zerT Tryz.prog 70 = some [.int .u64 0]) ∧ (strT Tryz.prog 70 = false) ∧ ((Tryz.prog.underlying 70).isSome = true) := ⟨agg70, siz70, byt70, elem70, arr70, int70, zer70, str70, und70⟩
theorem t72 : (aggT Tryz.prog 72 = some true) ∧ (sizT Tryz.prog 72 = some 3) ∧ (bytT Tryz.prog 72 = some 24) ∧ (elemT Tryz.prog 72 = none) ∧ (arrT Tryz.prog 72 = none) ∧ (intT Tryz.prog 72 = none) ∧ (zerT Tryz.prog 72 = some [.int .i64 0, .int .i64 0, .int .i64 0]) ∧ (kdT Tryz.prog 60 72 = some [.int .i64, .int .i64, .int .i64]) ∧ (Tryz.prog.eqGuardType (Tryz.prog.depth) 72 = false) ∧ (sizesOk Tryz.prog 72 = true) ∧ (placeT Tryz.prog 72 0 = some (0, 2)) ∧ (placeT Tryz.prog 72 1 = some (2, 1)) ∧ (strT Tryz.prog 72 = false) ∧ (fldT Tryz.prog 72 0 = some (0, 24)) ∧ (fldT Tryz.prog 72 1 = some (2, 2)) ∧ ((Tryz.prog.underlying 72).isSome = true) := ⟨agg72, siz72, byt72, elem72, arr72, int72, zer72, kd72, eqg72, szs72, plc72_0, plc72_1, str72, fld72_0, fld72_1, und72⟩
theorem t76 : (aggT Tryz.prog 76 = some true) ∧ (sizT Tryz.prog 76 = some 3) ∧ (bytT Tryz.prog 76 = some 24) ∧ (elemT Tryz.prog 76 = none) ∧ (arrT Tryz.prog 76 = none) ∧ (intT Tryz.prog 76 = none) ∧ (zerT Tryz.prog 76 = some [.int .i64 0, .int .i64 0, .int .i64 0]) ∧ (kdT Tryz.prog 60 76 = some [.int .i64, .int .i64, .int .i64]) ∧ (Tryz.prog.eqGuardType (Tryz.prog.depth) 76 = false) ∧ (sizesOk Tryz.prog 76 = true) ∧ (placeT Tryz.prog 76 0 = some (0, 1)) ∧ (placeT Tryz.prog 76 1 = some (1, 1)) ∧ (placeT Tryz.prog 76 2 = some (2, 1)) ∧ (strT Tryz.prog 76 = false) ∧ (fldT Tryz.prog 76 0 = some (0, 3)) ∧ (fldT Tryz.prog 76 1 = some (1, 3)) ∧ (fldT Tryz.prog 76 2 = some (2, 3)) ∧ ((Tryz.prog.underlying 76).isSome = true) := ⟨agg76, siz76, byt76, elem76, arr76, int76, zer76, kd76, eqg76, szs76, plc76_0, plc76_1, plc76_2, str76, fld76_0, fld76_1, fld76_2, und76⟩
theorem t93 : (aggT Tryz.prog 93 = some true) ∧ (sizT Tryz.prog 93 = some 3) ∧ (bytT Tryz.prog 93 = some 24) ∧ (elemT Tryz.prog 93 = none) ∧ (arrT Tryz.prog 93 = none) ∧ (intT Tryz.prog 93 = none) ∧ (zerT Tryz.prog 93 = some [.int .i64 0, .int .i64 0, .int .i64 0]) ∧ (kdT Tryz.prog 60 93 = some [.int .i64, .int .i64, .int .i64]) ∧ (Tryz.prog.eqGuardType (Tryz.prog.depth) 93 = false) ∧ (sizesOk Tryz.prog 93 = true) ∧ (placeT Tryz.prog 93 0 = some (0, 2)) ∧ (placeT Tryz.prog 93 1 = some (2, 1)) ∧ (strT Tryz.prog 93 = false) ∧ (fldT Tryz.prog 93 0 = some (0, 24)) ∧ (fldT Tryz.prog 93 1 = some (2, 2)) ∧ ((Tryz.prog.underlying 93).isSome = true) := ⟨agg93, siz93, byt93, elem93, arr93, int93, zer93, kd93, eqg93, szs93, plc93_0, plc93_1, str93, fld93_0, fld93_1, und93⟩
theorem t96 : (aggT Tryz.prog 96 = some true) ∧ (sizT Tryz.prog 96 = some 3) ∧ (bytT Tryz.prog 96 = some 24) ∧ (elemT Tryz.prog 96 = none) ∧ (arrT Tryz.prog 96 = none) ∧ (intT Tryz.prog 96 = none) ∧ (zerT Tryz.prog 96 = some [.int .i64 0, .int .i64 0, .int .i64 0]) ∧ (kdT Tryz.prog 60 96 = some [.int .i64, .int .i64, .int .i64]) ∧ (Tryz.prog.eqGuardType (Tryz.prog.depth) 96 = false) ∧ (sizesOk Tryz.prog 96 = true) ∧ (placeT Tryz.prog 96 0 = some (0, 1)) ∧ (placeT Tryz.prog 96 1 = some (1, 1)) ∧ (placeT Tryz.prog 96 2 = some (2, 1)) ∧ (strT Tryz.prog 96 = false) ∧ (fldT Tryz.prog 96 0 = some (0, 3)) ∧ (fldT Tryz.prog 96 1 = some (1, 3)) ∧ (fldT Tryz.prog 96 2 = some (2, 3)) ∧ ((Tryz.prog.underlying 96).isSome = true) := ⟨agg96, siz96, byt96, elem96, arr96, int96, zer96, kd96, eqg96, szs96, plc96_0, plc96_1, plc96_2, str96, fld96_0, fld96_1, fld96_2, und96⟩
theorem t98 : (aggT Tryz.prog 98 = some false) ∧ (sizT Tryz.prog 98 = some 1) ∧ (bytT Tryz.prog 98 = some 8) ∧ (elemT Tryz.prog 98 = none) ∧ (arrT Tryz.prog 98 = none) ∧ (intT Tryz.prog 98 = none) ∧ (zerT Tryz.prog 98 = some [.pointer none]) ∧ (strT Tryz.prog 98 = false) ∧ ((Tryz.prog.underlying 98).isSome = true) := ⟨agg98, siz98, byt98, elem98, arr98, int98, zer98, str98, und98⟩
theorem t100 : (aggT Tryz.prog 100 = some false) ∧ (sizT Tryz.prog 100 = some 1) ∧ (bytT Tryz.prog 100 = some 8) ∧ (elemT Tryz.prog 100 = none) ∧ (arrT Tryz.prog 100 = none) ∧ (intT Tryz.prog 100 = none) ∧ (zerT Tryz.prog 100 = some [.pointer none]) ∧ (strT Tryz.prog 100 = false) ∧ ((Tryz.prog.underlying 100).isSome = true) := ⟨agg100, siz100, byt100, elem100, arr100, int100, zer100, str100, und100⟩
theorem t108 : (aggT Tryz.prog 108 = some false) ∧ (sizT Tryz.prog 108 = some 1) ∧ (bytT Tryz.prog 108 = some 8) ∧ (elemT Tryz.prog 108 = none) ∧ (arrT Tryz.prog 108 = none) ∧ (intT Tryz.prog 108 = none) ∧ (zerT Tryz.prog 108 = some [.nilFunc]) ∧ (strT Tryz.prog 108 = false) ∧ ((Tryz.prog.underlying 108).isSome = true) := ⟨agg108, siz108, byt108, elem108, arr108, int108, zer108, str108, und108⟩
theorem t118 : (aggT Tryz.prog 118 = some false) ∧ (sizT Tryz.prog 118 = some 1) ∧ (bytT Tryz.prog 118 = some 8) ∧ (elemT Tryz.prog 118 = none) ∧ (arrT Tryz.prog 118 = none) ∧ (intT Tryz.prog 118 = none) ∧ (zerT Tryz.prog 118 = some [.pointer none]) ∧ (strT Tryz.prog 118 = false) ∧ ((Tryz.prog.underlying 118).isSome = true) := ⟨agg118, siz118, byt118, elem118, arr118, int118, zer118, str118, und118⟩
theorem t120 : (aggT Tryz.prog 120 = some true) ∧ (sizT Tryz.prog 120 = some 6) ∧ (bytT Tryz.prog 120 = some 96) ∧ (elemT Tryz.prog 120 = none) ∧ (arrT Tryz.prog 120 = some (6, 9)) ∧ (intT Tryz.prog 120 = none) ∧ (zerT Tryz.prog 120 = some [.string ByteArray.empty, .string ByteArray.empty, .string ByteArray.empty, .string ByteArray.empty, .string ByteArray.empty, .string ByteArray.empty]) ∧ (kdT Tryz.prog 60 120 = some [.str, .str, .str, .str, .str, .str]) ∧ (Tryz.prog.eqGuardType (Tryz.prog.depth) 120 = false) ∧ (sizesOk Tryz.prog 120 = true) ∧ (placeT Tryz.prog 120 0 = some (0, 1)) ∧ (placeT Tryz.prog 120 1 = some (1, 1)) ∧ (placeT Tryz.prog 120 2 = some (2, 1)) ∧ (placeT Tryz.prog 120 3 = some (3, 1)) ∧ (placeT Tryz.prog 120 4 = some (4, 1)) ∧ (placeT Tryz.prog 120 5 = some (5, 1)) ∧ (placeT Tryz.prog 120 6 = some (6, 1)) ∧ (placeT Tryz.prog 120 7 = some (7, 1)) ∧ (placeT Tryz.prog 120 8 = some (8, 1)) ∧ (placeT Tryz.prog 120 9 = some (9, 1)) ∧ (placeT Tryz.prog 120 10 = some (10, 1)) ∧ (placeT Tryz.prog 120 11 = some (11, 1)) ∧ (strT Tryz.prog 120 = false) ∧ ((Tryz.prog.underlying 120).isSome = true) := ⟨agg120, siz120, byt120, elem120, arr120, int120, zer120, kd120, eqg120, szs120, plc120_0, plc120_1, plc120_2, plc120_3, plc120_4, plc120_5, plc120_6, plc120_7, plc120_8, plc120_9, plc120_10, plc120_11, str120, und120⟩
theorem t122 : (aggT Tryz.prog 122 = some false) ∧ (sizT Tryz.prog 122 = some 1) ∧ (bytT Tryz.prog 122 = some 8) ∧ (elemT Tryz.prog 122 = none) ∧ (arrT Tryz.prog 122 = none) ∧ (intT Tryz.prog 122 = none) ∧ (zerT Tryz.prog 122 = some [.pointer none]) ∧ (strT Tryz.prog 122 = false) ∧ ((Tryz.prog.underlying 122).isSome = true) := ⟨agg122, siz122, byt122, elem122, arr122, int122, zer122, str122, und122⟩
theorem t124 : (aggT Tryz.prog 124 = some false) ∧ (sizT Tryz.prog 124 = some 1) ∧ (bytT Tryz.prog 124 = some 8) ∧ (elemT Tryz.prog 124 = none) ∧ (arrT Tryz.prog 124 = none) ∧ (intT Tryz.prog 124 = none) ∧ (zerT Tryz.prog 124 = some [.pointer none]) ∧ (strT Tryz.prog 124 = false) ∧ ((Tryz.prog.underlying 124).isSome = true) := ⟨agg124, siz124, byt124, elem124, arr124, int124, zer124, str124, und124⟩
theorem t128 : (aggT Tryz.prog 128 = some true) ∧ (sizT Tryz.prog 128 = some 2) ∧ (bytT Tryz.prog 128 = some 32) ∧ (elemT Tryz.prog 128 = none) ∧ (arrT Tryz.prog 128 = none) ∧ (intT Tryz.prog 128 = none) ∧ (zerT Tryz.prog 128 = some [.slice none 0 0, .bool false]) ∧ (Tryz.prog.eqGuardType (Tryz.prog.depth) 128 = false) ∧ (sizesOk Tryz.prog 128 = true) ∧ (placeT Tryz.prog 128 0 = some (0, 1)) ∧ (placeT Tryz.prog 128 1 = some (1, 1)) ∧ (strT Tryz.prog 128 = false) ∧ (fldT Tryz.prog 128 0 = some (0, 50)) ∧ (fldT Tryz.prog 128 1 = some (1, 4)) ∧ ((Tryz.prog.underlying 128).isSome = true) := ⟨agg128, siz128, byt128, elem128, arr128, int128, zer128, eqg128, szs128, plc128_0, plc128_1, str128, fld128_0, fld128_1, und128⟩
theorem t132 : (aggT Tryz.prog 132 = some true) ∧ (sizT Tryz.prog 132 = some 4) ∧ (bytT Tryz.prog 132 = some 32) ∧ (elemT Tryz.prog 132 = none) ∧ (arrT Tryz.prog 132 = none) ∧ (intT Tryz.prog 132 = none) ∧ (zerT Tryz.prog 132 = some [.int .i64 0, .int .i64 0, .int .i64 0, .int .i64 0]) ∧ (kdT Tryz.prog 60 132 = some [.int .i64, .int .i64, .int .i64, .int .i64]) ∧ (Tryz.prog.eqGuardType (Tryz.prog.depth) 132 = false) ∧ (sizesOk Tryz.prog 132 = true) ∧ (placeT Tryz.prog 132 0 = some (0, 1)) ∧ (placeT Tryz.prog 132 1 = some (1, 1)) ∧ (placeT Tryz.prog 132 2 = some (2, 1)) ∧ (placeT Tryz.prog 132 3 = some (3, 1)) ∧ (strT Tryz.prog 132 = false) ∧ (fldT Tryz.prog 132 0 = some (0, 56)) ∧ (fldT Tryz.prog 132 1 = some (1, 3)) ∧ (fldT Tryz.prog 132 2 = some (2, 3)) ∧ (fldT Tryz.prog 132 3 = some (3, 3)) ∧ ((Tryz.prog.underlying 132).isSome = true) := ⟨agg132, siz132, byt132, elem132, arr132, int132, zer132, kd132, eqg132, szs132, plc132_0, plc132_1, plc132_2, plc132_3, str132, fld132_0, fld132_1, fld132_2, fld132_3, und132⟩
theorem t140 : (aggT Tryz.prog 140 = some false) ∧ (sizT Tryz.prog 140 = some 1) ∧ (bytT Tryz.prog 140 = some 24) ∧ (elemT Tryz.prog 140 = some 122) ∧ (arrT Tryz.prog 140 = none) ∧ (intT Tryz.prog 140 = none) ∧ (zerT Tryz.prog 140 = some [.slice none 0 0]) ∧ (strT Tryz.prog 140 = false) ∧ ((Tryz.prog.underlying 140).isSome = true) := ⟨agg140, siz140, byt140, elem140, arr140, int140, zer140, str140, und140⟩
theorem t143 : (aggT Tryz.prog 143 = some false) ∧ (sizT Tryz.prog 143 = some 1) ∧ (bytT Tryz.prog 143 = some 24) ∧ (elemT Tryz.prog 143 = some 124) ∧ (arrT Tryz.prog 143 = none) ∧ (intT Tryz.prog 143 = none) ∧ (zerT Tryz.prog 143 = some [.slice none 0 0]) ∧ (strT Tryz.prog 143 = false) ∧ ((Tryz.prog.underlying 143).isSome = true) := ⟨agg143, siz143, byt143, elem143, arr143, int143, zer143, str143, und143⟩
theorem t144 : (aggT Tryz.prog 144 = some false) ∧ (sizT Tryz.prog 144 = some 1) ∧ (bytT Tryz.prog 144 = some 4) ∧ (elemT Tryz.prog 144 = none) ∧ (arrT Tryz.prog 144 = none) ∧ (intT Tryz.prog 144 = some .u32) ∧ (zerT Tryz.prog 144 = some [.int .u32 0]) ∧ (strT Tryz.prog 144 = false) ∧ ((Tryz.prog.underlying 144).isSome = true) := ⟨agg144, siz144, byt144, elem144, arr144, int144, zer144, str144, und144⟩
end Go.Proofs.YthjpfllmecpliaaGreatDoor.Ty
/- Calls whose arguments and answers lead nowhere, where the program's variables lie ahead of all. -/
set_option linter.all false
set_option maxRecDepth 20000
namespace Go.Proofs.YthjpfllmecpliaaGreatDoor
open Go Go.Ab
class Bok (base : Nat) : Prop where
  le5 : 5 ≤ base
theorem Bok.le {base : Nat} [Bok base] : 1 ≤ base := Nat.le_trans (by omega) (Bok.le5 (base := base))
theorem WC_pureG {base : Nat} [Bok base] {f : FuncId} {args : List Value} {s : St} {R : Value → St → Prop} {r : Value} (ha : args.all bareV = true) (hv : bareV r = true)
    (h : ∀ (b : Nat) (t : St), Bok b → b ≤ t.next → WC Tryz.prog b f args t (fun v _ => v = r)) (hR : R r s) : WC Tryz.prog base f args s R :=
  WC_pureAt (g := 5) (t := ⟨s.heap, 5⟩) Bok.le5 okProg1 ha hv rfl (fun _ _ => rfl) (h 5 ⟨s.heap, 5⟩ ⟨Nat.le_refl _⟩ (Nat.le_refl _)) hR
end Go.Proofs.YthjpfllmecpliaaGreatDoor
/- Lists of bits, as memory and as numbers. -/
set_option linter.all false
set_option maxRecDepth 20000
namespace Go.Proofs.YthjpfllmecpliaaGreatDoor
open Go Go.Ab
variable {base : Nat} {s : St} {R : Value → St → Prop}
def one (b : Nat) : Nat := if b = 0 then 0 else 1
end Go.Proofs.YthjpfllmecpliaaGreatDoor
/- The package strand: Of and Number, as contracts. -/
set_option linter.all false
set_option maxRecDepth 20000
namespace Go.Proofs.YthjpfllmecpliaaGreatDoor
open Go Go.Ab
variable {base : Nat} {s : St} {R : Value → St → Prop}
/-- The cells of a list of bytes. -/
def bC (xs : List Nat) : List Value := xs.map fun (b : Nat) => .int .u8 (b : Int)
theorem bC_len (xs : List Nat) : (bC xs).length = xs.length := by simp [bC]
theorem bC_set (xs : List Nat) (i b : Nat) : (bC xs).set i (.int .u8 (b : Int)) = bC (xs.set i b) := by simp [bC, List.map_set]
end Go.Proofs.YthjpfllmecpliaaGreatDoor
/- Frames that can be (frame.Right, bellbuoyref06.Right), and identifiers that can be, as contracts. -/
set_option linter.all false
set_option maxRecDepth 20000
namespace Go.Proofs.YthjpfllmecpliaaGreatDoor
open Go Go.Ab
variable {base : Nat} [Bok base] {s : St} {R : Value → St → Prop}
def idOk (e : Bool) (n : Nat) : Bool := decide (n < if e then 536870912 else 2048)
/-! ### Which byte is the first of which something holds -/
/-! ### Frames -/
def rightF (e : Bool) (n : Nat) (r : Bool) (l : Int) (ds : List Nat) : Int :=
  if idOk e n = false then 1 else if l < 0 ∨ 8 < l then 2 else if (ds.drop (if r then 0 else l.toNat)).any (fun x => x != 0) then 3 else 0
/-! ### Frames that are handed in -/
end Go.Proofs.YthjpfllmecpliaaGreatDoor
/- Keys by which frames win the bus: the package ident, and bellbuoyref05; as contracts. -/
set_option linter.all false
set_option maxRecDepth 20000
namespace Go.Proofs.YthjpfllmecpliaaGreatDoor
open Go Go.Ab
variable {base : Nat} [Bok base] {s : St} {R : Value → St → Prop}
def ask (r : Bool) : Nat := if r then 1 else 0
def keyN (e : Bool) (n : Nat) (r : Bool) : Nat :=
  if idOk e n then (if e then ((n / 262144 * 4 + 3) * 262144 + n % 262144) * 2 + ask r else (n * 2 + ask r) * 1048576) else 0
/-! ### The document's -/
/-! ### Numbers compared -/
end Go.Proofs.YthjpfllmecpliaaGreatDoor
/- Mailboxes (the package boxes), as contracts. -/
set_option linter.all false
set_option maxRecDepth 20000
namespace Go.Proofs.YthjpfllmecpliaaGreatDoor
open Go Go.Ab
variable {base : Nat} [Bok base] {s : St} {R : Value → St → Prop}
/-! ### The first place of which something holds -/
/-! ### Posts -/
structure Po where
  e : Bool
  n : Nat
  r : Bool
  l : Int
  d0 : Nat
  d1 : Nat
  d2 : Nat
  d3 : Nat
  d4 : Nat
  d5 : Nat
  d6 : Nat
  d7 : Nat
  o : Bool
  t : Int
  deriving DecidableEq
def Po.ds (p : Po) : List Nat := [p.d0, p.d1, p.d2, p.d3, p.d4, p.d5, p.d6, p.d7]
abbrev Po.c (p : Po) : List Value := [.bool p.e, .int .u32 (p.n : Int), .bool p.r, .int .i64 p.l, .int .u8 (p.d0 : Int), .int .u8 (p.d1 : Int), .int .u8 (p.d2 : Int), .int .u8 (p.d3 : Int), .int .u8 (p.d4 : Int), .int .u8 (p.d5 : Int), .int .u8 (p.d6 : Int), .int .u8 (p.d7 : Int), .bool p.o, .int .i64 p.t]
def Po.zero : Po := ⟨false, 0, false, 0, 0, 0, 0, 0, 0, 0, 0, 0, false, 0⟩
def Po.right (p : Po) : Int := rightF p.e p.n p.r p.l p.ds
def Po.key (p : Po) : Nat := keyN p.e p.n p.r
def Po.good (p : Po) : Prop := p.n < 2 ^ 32 ∧ p.right = 0
theorem right_id {e : Bool} {n : Nat} {r : Bool} {l : Int} {ds : List Nat} (h : rightF e n r l ds = 0) : idOk e n = true := by
  cases hi : idOk e n
  · simp [rightF, hi] at h
  · rfl
theorem Po.good.id {p : Po} (h : p.good) : idOk p.e p.n = true := right_id h.2
abbrev Bx := List (Option Po)
/-! ### The own boxes -/
def CellB (base : Nat) (s : St) (p : Nat) (X : Nat → Prop) : Option Po → Value → Prop
  | none, v => v = .pointer none
  | some po, v => ∃ q, v = .pointer (some ⟨q, 0, none⟩) ∧ X q ∧ q ≠ p ∧ s.heap q = .row po.c
structure OwnB (base : Nat) (s : St) (p : Nat) (L : Bx) (X : Nat → Prop) : Prop where
  hb : base ≤ p
  hp : p < s.next
  hX : X p
  low : ∀ b, X b → base ≤ b ∧ b < s.next
  room : 1 ≤ L.length ∧ L.length ≤ 8
  good : ∀ po, some po ∈ L → po.good
  row : ∃ qs : List Value, qs.length = 8 ∧ s.heap p = .row (.int .i64 (L.length : Nat) :: qs) ∧ ∀ i, i < 8 → ∃ v, qs[i]? = some v ∧ CellB base s p X (L.getD i none) v
theorem CellB.ch {p : Nat} {X Y : Nat → Prop} {s s' : St} {o : Option Po} {v : Value} (h : CellB base s p X o v) (hl : ∀ b, X b → b < s.next) (hc : Ch s s' Y) (hd : ∀ b, Y b → ¬ X b ∨ b = p) : CellB base s' p X o v := by
  cases o with
  | none => exact h
  | some po =>
    obtain ⟨q, h1, h2, h3, h4⟩ := h
    refine ⟨q, h1, h2, h3, ?_⟩
    rw [hc.heap _ (hl q h2) fun hy => (hd q hy).elim (fun h => h h2) h3]; exact h4
theorem OwnB.ch {p : Nat} {L : Bx} {X Y : Nat → Prop} {s s' : St} (h : OwnB base s p L X) (hc : Ch s s' Y) (hd : ∀ b, Y b → ¬ X b) : OwnB base s' p L X := by
  have hn := hc.next
  obtain ⟨qs, h1, h2, h3⟩ := h.row
  refine ⟨h.hb, Nat.lt_of_lt_of_le h.hp hn, h.hX, fun b hb => ⟨(h.low b hb).1, Nat.lt_of_lt_of_le (h.low b hb).2 hn⟩, h.room, h.good, qs, h1, ?_, fun i hi => ?_⟩
  · rw [hc.heap _ h.hp fun hy => hd _ hy h.hX]; exact h2
  · obtain ⟨v, e1, e2⟩ := h3 i hi
    exact ⟨v, e1, e2.ch (fun b hb => (h.low b hb).2) hc fun b hy => .inl (hd b hy)⟩
theorem OwnB.mild {p : Nat} {L : Bx} {X : Nat → Prop} {s s' : St} (h : OwnB base s p L X) (hm : Mild s s') : OwnB base s' p L X := h.ch (Ch.of_mild hm (fun _ => False)) fun _ h => h.elim
/-! ### Taking out, and looking in -/
theorem OwnB.cell {p : Nat} {L : Bx} {X : Nat → Prop} (h : OwnB base s p L X) {i : Nat} (hi : i < L.length) : ∃ qs v, qs.length = 8 ∧ s.heap p = .row (.int .i64 (L.length : Nat) :: qs) ∧ (Value.int .i64 (L.length : Nat) :: qs)[1 + i * 1]? = some v ∧ CellB base s p X (L.getD i none) v ∧ (∀ j, j < 8 → ∃ v, qs[j]? = some v ∧ CellB base s p X (L.getD j none) v) := by
  obtain ⟨qs, k1, k2, k3⟩ := h.row
  have hr := h.room
  obtain ⟨v, e1, e2⟩ := k3 i (by omega)
  exact ⟨qs, v, k1, k2, by rw [Nat.mul_one, Nat.add_comm, List.getElem?_cons_succ]; exact e1, e2, k3⟩
theorem OwnB.clear {p i : Nat} {L : Bx} {X : Nat → Prop} {qs : List Value} {s' : St} (h : OwnB base s p L X) (hi : i < L.length) (k1 : qs.length = 8) (k3 : ∀ j, j < 8 → ∃ v, qs[j]? = some v ∧ CellB base s p X (L.getD j none) v)
    (hc : Ch s s' (fun b => b = p)) (hrow : s'.heap p = .row (.int .i64 (L.length : Nat) :: qs.set i (.pointer none))) : OwnB base s' p (L.set i none) X := by
  have hn := hc.next
  refine ⟨h.hb, Nat.lt_of_lt_of_le h.hp hn, h.hX, fun b hb => ⟨(h.low b hb).1, Nat.lt_of_lt_of_le (h.low b hb).2 hn⟩, by simpa using h.room, fun po hpo => ?_, qs.set i (.pointer none), by simpa using k1, by rw [hrow]; simp, fun j hj => ?_⟩
  · rcases List.mem_or_eq_of_mem_set hpo with h' | h'
    · exact h.good _ h'
    · cases h'
  · by_cases hji : j = i
    · subst hji
      refine ⟨_, List.getElem?_set_self (by omega), ?_⟩
      have : (L.set j none).getD j none = none := by rw [List.getD_eq_getElem?_getD, List.getElem?_set_self hi]; rfl
      rw [this]
      rfl
    · obtain ⟨v, e1, e2⟩ := k3 j hj
      refine ⟨v, by rw [List.getElem?_set_ne (Ne.symm hji)]; exact e1, ?_⟩
      have : (L.set i none).getD j none = L.getD j none := by rw [List.getD_eq_getElem?_getD, List.getElem?_set_ne (Ne.symm hji), List.getD_eq_getElem?_getD]
      rw [this]
      exact e2.ch (fun b hb => (h.low b hb).2) hc fun b hy => .inr hy
/-! ### The best one -/
/-! ### Which one is the best -/
/-! ### No boxes at all -/
end Go.Proofs.YthjpfllmecpliaaGreatDoor
/- What is laid in this seat's program, and what is open (SHAPED, PINNED). -/
namespace Go.Proofs.YthjpfllmecpliaaGreatDoor
open Go Go.Ab
abbrev laidVars : List (String × DataW Unit) := [("unicode/utf8.acceptRanges", Rows.laid_unicode_utf8_acceptRanges), ("bellbuoy/script.words", Rows.laid_bellbuoy_script_words), ("bellbuoy/script.classes", Rows.laid_bellbuoy_script_classes), ("unicode/utf8.first", Rows.laid_unicode_utf8_first)]
theorem gWords : Tryz.prog.globalNamed "bellbuoy/script.words" = some 0 := by kernel_rfl
theorem gClasses : Tryz.prog.globalNamed "bellbuoy/script.classes" = some 1 := by kernel_rfl
theorem gFirst : Tryz.prog.globalNamed "unicode/utf8.first" = some 3 := by kernel_rfl
theorem tWords : (Tryz.prog.globals[0]?).map (·.type) = some 50 := by kernel_rfl
theorem tClasses : (Tryz.prog.globals[1]?).map (·.type) = some 50 := by kernel_rfl
theorem uStrs : Tryz.prog.underlying 50 = some (.slice 9) := by kernel_rfl
theorem uStr : Tryz.prog.underlying 9 = some .string := by kernel_rfl
/-- The world behind the door, the pinned table in its place. -/
noncomputable def doorW (os : Os) : World :=
  let w := World.doorLaid Tryz.prog 400 os
  { w with heap := w.heap.setIfInBounds 3 (.cells (Go.Pinned.utf8FirstZ.map fun (n : Nat) => Value.int .u8 (n : Int)).toArray ((Tryz.prog.globals[3]?).map (·.type) |>.getD 0) (0, 0)) }
theorem door_met (os : Os) (args : Array Value) : laidMetH Tryz.prog laidVars ((doorW os).forCall (fun _ _ => 0) ⟨#[], args, []⟩).memory :=
  laidMetH_of_parts3 (fuel := 8) (laidMet_of_run' 8 (by kernel_rfl) (by kernel_rfl)) (by kernel_rfl) (by kernel_rfl)
theorem laid_strs {W : World} {g fuel : Nat} {n : String} {C : Array Value} {p : List MemPlace} {ws : List (List UInt8)} (hg : Tryz.prog.globalNamed n = some g) (hv : W.var? Tryz.prog n = some C) (hws : ws ≠ []) (hm : ws.length ≤ 1000)
    (hd : DataW.trod (fun _ => ()) Tryz.prog W 0 (fun _ => true) false fuel 50 C.toList = some (.slice (ws.map fun w => (.lit (.string w) : DataW Unit)) [], p)) :
    g < W.heap.size ∧ ∃ u, (St0 W).heap g = .row [u] ∧ Sl W.heap.size (St0 W) 1 u (ws.map fun w => [Value.string ⟨w.toArray⟩]) ∧ oldOk W.heap.size u = true := by
  obtain ⟨hr, hlt⟩ := var_row hg hv
  obtain ⟨a, cap, hC, hcap, hel⟩ := open_row uStrs (by kernel_rfl) hd
  rw [List.length_map] at hC hcap
  have hn : 0 < ws.length := List.length_pos_iff.2 hws
  have hcell : ∀ i (h : i < ws.length), W.cell? (a.add i) = some (.string ⟨ws[i].toArray⟩) := by
    intro i h
    obtain ⟨v, m, q, h1, h2⟩ := hel i (.lit (.string ws[i])) (by simp [h])
    obtain ⟨b, e1, e2, -⟩ := DataW.trod_string uStr h2
    cases e1
    rw [h1]
    simp only [Prod.mk.injEq, DataW.lit.injEq, Lit.string.injEq] at e2
    rw [e2.1]
  have h0 := hcell 0 hn
  unfold World.cell? at h0
  split at h0
  rotate_left
  · cases h0
  rename_i c ty fr hc
  rw [add_block] at hc
  split at h0
  · cases h0
  rename_i hs0
  have hs : a.spot = none := by
    obtain ⟨b, o, sp⟩ := a
    cases sp with
    | none => rfl
    | some x => simp [Addr.add] at hs0
  have hc' : ∀ i (h : i < ws.length), c[a.off + i]? = some (.string ⟨ws[i].toArray⟩) := by
    intro i h
    have := hcell i h
    unfold World.cell? at this
    rw [add_block, hc] at this
    obtain ⟨b, o, sp⟩ := a
    simp only at hs
    subst hs
    rw [add_lit] at this
    simpa using this
  have hblt : a.block < W.heap.size := (Array.getElem?_eq_some_iff.1 hc).1
  refine ⟨hlt, .slice (some a) ws.length cap, ?_, ?_, by simpa [oldOk, oldA] using hblt⟩
  · rw [hr, hC]
    have : normV g (.slice (some a) ws.length cap) = .slice (some a) ws.length cap := normV_else fun b e => by simp only [Value.slice.injEq] at e; omega
    simp [this]
  · have hrow := old_row (W := W) hc
    have hfl : (ws.map fun w => [Value.string ⟨w.toArray⟩]).flatten = ws.map fun w => Value.string ⟨w.toArray⟩ := by
      clear hel hcell hc' hC hcap hd hws hm h0 hn
      induction ws with
      | nil => rfl
      | cons w ws ih => simp only [List.map_cons, List.flatten_cons, ih]; rfl
    refine .mk (by simp) hcap (fun l hl => by obtain ⟨w, -, rfl⟩ := List.mem_map.1 hl; rfl) (fun _ => ?_) (by unfold kindB; rw [hrow]) hblt
    rw [hfl]
    refine ⟨hs, hblt, .inr ?_, c.toList.map (normV a.block), by rw [hrow]; rfl, ?_⟩
    · rw [List.all_eq_true]
      intro x hx
      obtain ⟨w, -, rfl⟩ := List.mem_map.1 hx
      rfl
    · have hsz : a.off + ws.length ≤ c.size := by
        have := hc' (ws.length - 1) (by omega)
        obtain ⟨h2, -⟩ := Array.getElem?_eq_some_iff.1 this
        omega
      unfold getL
      rw [if_pos (by simp; omega)]
      refine congrArg some (List.ext_getElem? fun i => ?_)
      by_cases hi : i < ws.length
      · rw [List.getElem?_take_of_lt (by simpa using hi), List.getElem?_drop, List.getElem?_map]
        have := hc' i hi
        rw [Array.getElem?_toList, this]
        simp [hi, normV]
      · rw [List.getElem?_eq_none (by simp; omega), List.getElem?_eq_none (by simp; omega)]
/-- What the law needs of what is laid. -/
theorem of_laid {W : World} (h : laidMetH Tryz.prog laidVars W) :
    (∃ u, (St0 W).heap 0 = .row [u] ∧ Sl W.heap.size (St0 W) 1 u (([[], [114, 117, 110], [102, 108, 105, 112], [114, 101, 108, 101, 97, 115, 101], [99, 97, 110, 99, 101, 108], [99, 114, 97, 115, 104], [114, 101, 115, 116, 97, 114, 116], [115, 112, 101, 101, 100]] : List (List UInt8)).map fun w => [Value.string ⟨w.toArray⟩]) ∧ oldOk W.heap.size u = true) ∧
    (∃ u, (St0 W).heap 1 = .row [u] ∧ Sl W.heap.size (St0 W) 1 u (([[], [101, 100, 102], [100, 109], [102, 105, 120, 101, 100]] : List (List UInt8)).map fun w => [Value.string ⟨w.toArray⟩]) ∧ oldOk W.heap.size u = true) := by
  rw [MakeChecks.laidMetH_plain _ _ _ (by kernel_rfl)] at h
  obtain ⟨ps, ⟨g0, t0, cs0, f0, p0, q0, -, -, -, -, ⟨g1, t1, cs1, f1, p1, q1, hg1, ht1, hv1, hd1, ⟨g2, t2, cs2, f2, p2, q2, hg2, ht2, hv2, hd2, -, -⟩, -⟩, -⟩, -, -⟩ := h
  obtain rfl := Option.some.inj (gWords.symm.trans hg1)
  obtain rfl := Option.some.inj (tWords.symm.trans ht1)
  obtain rfl := Option.some.inj (gClasses.symm.trans hg2)
  obtain rfl := Option.some.inj (tClasses.symm.trans ht2)
  exact ⟨(laid_strs hg1 hv1 (by simp) (by simp) hd1).2, (laid_strs hg2 hv2 (by simp) (by simp) hd2).2⟩
/-- The library's own variable holds some number; and how much is laid. -/
theorem of_shaped {W : World} (h : W.ShapedOpen Tryz.prog) : 5 ≤ W.heap.size ∧ ∃ m : Int, (St0 W).heap 2 = .row [.int .i64 m] := by
  have h4 : (((begin Tryz.prog (fun _ _ => 0) default).world.heap[4]?).bind Obj.row?).isSome = true := by kernel_rfl
  obtain ⟨⟨z4, t4⟩, e4⟩ := Option.isSome_iff_exists.1 h4
  obtain ⟨cs4, hh4, -, -⟩ := h.1 4 z4 t4 (of_decide_eq_true (by kernel_rfl)) e4
  have hlt4 : 4 < W.heap.size := (Array.getElem?_eq_some_iff.1 hh4).1
  obtain ⟨cs, hh, hs, hr⟩ := h.1 2 #[.int .i64 0] 3 (of_decide_eq_true (by kernel_rfl)) (by kernel_rfl)
  obtain ⟨m, hm⟩ := cell_of_shapedOpen_int (P := Tryz.prog) (g := 2) (t := 3) (zero := #[.int .i64 0]) (k := .i64) h (of_decide_eq_true (by kernel_rfl)) (by kernel_rfl) rfl (by kernel_rfl) (by kernel_rfl) Tryz.underlying3
  refine ⟨hlt4, m, ?_⟩
  have h1 : 0 < cs.size := by have : cs.size = 1 := hs; omega
  have hc : cs[0] = .int .i64 m := by
    have : W.cell? ⟨2, 0, none⟩ = some cs[0] := by simp [World.cell?, hh, h1]
    rw [this] at hm
    exact Option.some.inj hm
  rw [old_row hh]
  have : cs = #[.int .i64 m] := by
    have hz : cs.size = 1 := hs
    apply Array.ext
    · simp [hz]
    · intro i hi1 hi2
      have : i = 0 := by omega
      subst this
      simpa using hc
  exact congrArg (fun c : Array Value => AObj.row (c.toList.map (normV 2))) this
end Go.Proofs.YthjpfllmecpliaaGreatDoor
/- The package strand's Run; the document's Run, Same, Pack and Unpack; as contracts. -/
set_option linter.all false
set_option maxRecDepth 20000
namespace Go.Proofs.YthjpfllmecpliaaGreatDoor
open Go Go.Ab
variable {base : Nat} {s : St} {R : Value → St → Prop}
/-! ### Runs -/
def rn (xs : List Nat) : Nat → Nat
  | 0 => 0
  | i + 1 => if i ≠ 0 ∧ one (xs.getD i 0) = one (xs.getD (i - 1) 0) then rn xs i + 1 else 1
def rm (xs : List Nat) : Nat → Nat
  | 0 => 0
  | i + 1 => max (rm xs i) (rn xs (i + 1))
end Go.Proofs.YthjpfllmecpliaaGreatDoor
/- Texts as lists of bytes: what the machine does with them, as equations. -/
set_option linter.all false
set_option maxRecDepth 20000
namespace Go.Proofs.YthjpfllmecpliaaGreatDoor
open Go Go.Ab
abbrev strB (l : List UInt8) : ByteArray := ⟨l.toArray⟩
theorem str_size (l : List UInt8) : (strB l).size = l.length := by rw [Lib.size_eq]
theorem str_list (l : List UInt8) : (strB l).toList = l := ByteArray.toList_mk l
theorem str_extract (l : List UInt8) (a b : Nat) : (strB l).extract a b = strB ((l.drop a).take (b - a)) := by rw [Lib.extract_eq]
theorem str_app (l m : List UInt8) : strB l ++ strB m = strB (l ++ m) := by
  apply ByteArray.ext
  simp [strB]
variable {P : Program} {base : Nat} {s : St}
theorem idxStr {t : TypeId} {l : List UInt8} {k : IntKind} {i : Int} (ht : strT P t = true) (h0 : 0 ≤ i) (h1 : i < l.length) : indexV P t (.string (strB l)) (.int k i) = some (.int .u8 ((l.getD i.toNat 0).toNat : Nat)) := by
  simp only [indexV, intOf?]
  rw [if_pos ⟨ht, h0, by rw [str_size]; exact h1⟩]
theorem slcStr {t : TypeId} {l : List UInt8} {k k' : IntKind} {a b : Int} (ht : strT P t = true) (h0 : 0 ≤ a) (h1 : a ≤ b) (h2 : b ≤ l.length) : sliceV P s t (.string (strB l)) (some (.int k a)) (some (.int k' b)) none = some (.string (strB ((l.take b.toNat).drop a.toNat))) := by
  simp only [sliceV]
  rw [if_pos ⟨ht, trivial⟩]
  simp only [cutV, intOf?, str_size]
  rw [if_pos ⟨h0, h1, h2, Int.le_refl _⟩]
  simp only [str_extract]
  rw [List.take_drop, Nat.add_sub_cancel' (by omega)]
theorem slcStrHi {t : TypeId} {l : List UInt8} {k' : IntKind} {b : Int} (ht : strT P t = true) (h1 : 0 ≤ b) (h2 : b ≤ l.length) : sliceV P s t (.string (strB l)) none (some (.int k' b)) none = some (.string (strB (l.take b.toNat))) := by
  simp only [sliceV]
  rw [if_pos ⟨ht, trivial⟩]
  simp only [cutV, intOf?, str_size]
  rw [if_pos ⟨Int.le_refl _, h1, h2, Int.le_refl _⟩]
  simp only [str_extract, Int.toNat_zero, List.drop_zero, Nat.sub_zero]
theorem slcStrLo {t : TypeId} {l : List UInt8} {k : IntKind} {a : Int} (ht : strT P t = true) (h0 : 0 ≤ a) (h1 : a ≤ l.length) : sliceV P s t (.string (strB l)) (some (.int k a)) none none = some (.string (strB (l.drop a.toNat))) := by
  simp only [sliceV]
  rw [if_pos ⟨ht, trivial⟩]
  simp only [cutV, intOf?, str_size, Option.isSome_none, Bool.false_eq_true, if_false]
  rw [if_pos ⟨h0, h1, Int.le_refl _, Int.le_refl _⟩]
  simp only [str_extract, Int.toNat_natCast]
  rw [List.take_of_length_le (by rw [List.length_drop]; omega)]
theorem lenStr {t : TypeId} {ts : List TypeId} {l : List UInt8} (ht : strT P t = true) (ha : arrT P t = none) : lenB P (t :: ts) [.string (strB l)] = some (.int .i64 (l.length : Int)) := by
  simp only [lenB, ha]
  rw [if_pos ht, str_size]
theorem addStrV {l m : List UInt8} (h : l.length + m.length ≤ 1000000) : strV .add (strB l) (strB m) = some (.string (strB (l ++ m))) := by
  simp only [strV, str_size, str_app]
  rw [if_pos (by rw [show IntKind.i64.max = 9223372036854775807 from rfl]; omega)]
theorem eqlStrV {l m : List UInt8} : strV .eql (strB l) (strB m) = some (.bool (decide (l = m))) := by
  simp only [strV, str_list]
  congr 2
  rw [Bool.eq_iff_iff]; simp
theorem eqlStr {t : TypeId} {l m : List UInt8} : binV P .eql t (.string (strB l)) (.string (strB m)) = some (.bool (decide (l = m))) := by
  simp only [binV, strV, str_list]
  congr 2
  rw [Bool.eq_iff_iff]; simp
theorem neqStr {t : TypeId} {l m : List UInt8} : binV P .neq t (.string (strB l)) (.string (strB m)) = some (.bool (decide (¬ l = m))) := by
  simp only [binV, strV, str_list]
  congr 2
  rw [Bool.eq_iff_iff]; simp
end Go.Proofs.YthjpfllmecpliaaGreatDoor
