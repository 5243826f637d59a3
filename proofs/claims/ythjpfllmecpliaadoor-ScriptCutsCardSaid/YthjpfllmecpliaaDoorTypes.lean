/- Facts of this seat's types, each asked of the kernel. -/
import Derived.Test.YthjpfllmecpliaaDoorProg
import Derived.Test.YthjpfllmecpliaaDoorAbC
import Derived.KernelRfl
set_option linter.all false
namespace Go.Proofs.YthjpfllmecpliaaDoor.Ty
open Go Go.Ab
theorem agg0 : aggT Tryd.prog 0 = some false := by kernel_rfl
theorem siz0 : sizT Tryd.prog 0 = some 1 := by kernel_rfl
theorem byt0 : bytT Tryd.prog 0 = some 0 := by kernel_rfl
theorem elem0 : elemT Tryd.prog 0 = none := by kernel_rfl
theorem arr0 : arrT Tryd.prog 0 = none := by kernel_rfl
theorem int0 : intT Tryd.prog 0 = none := by kernel_rfl
theorem str0 : strT Tryd.prog 0 = false := by kernel_rfl
theorem agg1 : aggT Tryd.prog 1 = some false := by kernel_rfl
theorem siz1 : sizT Tryd.prog 1 = some 1 := by kernel_rfl
theorem byt1 : bytT Tryd.prog 1 = some 8 := by kernel_rfl
theorem elem1 : elemT Tryd.prog 1 = none := by kernel_rfl
theorem arr1 : arrT Tryd.prog 1 = none := by kernel_rfl
theorem int1 : intT Tryd.prog 1 = none := by kernel_rfl
theorem zer1 : zerT Tryd.prog 1 = some [.nilFunc] := by kernel_rfl
theorem str1 : strT Tryd.prog 1 = false := by kernel_rfl
theorem agg2 : aggT Tryd.prog 2 = some false := by kernel_rfl
theorem siz2 : sizT Tryd.prog 2 = some 1 := by kernel_rfl
theorem byt2 : bytT Tryd.prog 2 = some 8 := by kernel_rfl
theorem elem2 : elemT Tryd.prog 2 = none := by kernel_rfl
theorem arr2 : arrT Tryd.prog 2 = none := by kernel_rfl
theorem int2 : intT Tryd.prog 2 = some .i64 := by kernel_rfl
theorem zer2 : zerT Tryd.prog 2 = some [.int .i64 0] := by kernel_rfl
theorem str2 : strT Tryd.prog 2 = false := by kernel_rfl
theorem agg3 : aggT Tryd.prog 3 = some false := by kernel_rfl
theorem siz3 : sizT Tryd.prog 3 = some 1 := by kernel_rfl
theorem byt3 : bytT Tryd.prog 3 = some 8 := by kernel_rfl
theorem elem3 : elemT Tryd.prog 3 = none := by kernel_rfl
theorem arr3 : arrT Tryd.prog 3 = none := by kernel_rfl
theorem int3 : intT Tryd.prog 3 = some .i64 := by kernel_rfl
theorem zer3 : zerT Tryd.prog 3 = some [.int .i64 0] := by kernel_rfl
theorem str3 : strT Tryd.prog 3 = false := by kernel_rfl
theorem agg4 : aggT Tryd.prog 4 = some false := by kernel_rfl
theorem siz4 : sizT Tryd.prog 4 = some 1 := by kernel_rfl
theorem byt4 : bytT Tryd.prog 4 = some 1 := by kernel_rfl
theorem elem4 : elemT Tryd.prog 4 = none := by kernel_rfl
theorem arr4 : arrT Tryd.prog 4 = none := by kernel_rfl
theorem int4 : intT Tryd.prog 4 = none := by kernel_rfl
theorem zer4 : zerT Tryd.prog 4 = some [.bool false] := by kernel_rfl
theorem str4 : strT Tryd.prog 4 = false := by kernel_rfl
theorem agg5 : aggT Tryd.prog 5 = some false := by kernel_rfl
theorem siz5 : sizT Tryd.prog 5 = some 1 := by kernel_rfl
theorem byt5 : bytT Tryd.prog 5 = some 1 := by kernel_rfl
theorem elem5 : elemT Tryd.prog 5 = none := by kernel_rfl
theorem arr5 : arrT Tryd.prog 5 = none := by kernel_rfl
theorem int5 : intT Tryd.prog 5 = some .u8 := by kernel_rfl
theorem zer5 : zerT Tryd.prog 5 = some [.int .u8 0] := by kernel_rfl
theorem str5 : strT Tryd.prog 5 = false := by kernel_rfl
theorem agg9 : aggT Tryd.prog 9 = some false := by kernel_rfl
theorem siz9 : sizT Tryd.prog 9 = some 1 := by kernel_rfl
theorem byt9 : bytT Tryd.prog 9 = some 16 := by kernel_rfl
theorem elem9 : elemT Tryd.prog 9 = none := by kernel_rfl
theorem arr9 : arrT Tryd.prog 9 = none := by kernel_rfl
theorem int9 : intT Tryd.prog 9 = none := by kernel_rfl
theorem zer9 : zerT Tryd.prog 9 = some [.string ByteArray.empty] := by kernel_rfl
theorem str9 : strT Tryd.prog 9 = true := by kernel_rfl
theorem agg13 : aggT Tryd.prog 13 = some true := by kernel_rfl
theorem siz13 : sizT Tryd.prog 13 = some 2 := by kernel_rfl
theorem byt13 : bytT Tryd.prog 13 = some 24 := by kernel_rfl
theorem elem13 : elemT Tryd.prog 13 = none := by kernel_rfl
theorem arr13 : arrT Tryd.prog 13 = none := by kernel_rfl
theorem int13 : intT Tryd.prog 13 = none := by kernel_rfl
theorem zer13 : zerT Tryd.prog 13 = some [.string ByteArray.empty, .int .u64 0] := by kernel_rfl
theorem eqg13 : Tryd.prog.eqGuardType (Tryd.prog.depth) 13 = false := by kernel_rfl
theorem szs13 : sizesOk Tryd.prog 13 = true := by kernel_rfl
theorem plc13_0 : placeT Tryd.prog 13 0 = some (0, 1) := by kernel_rfl
theorem plc13_1 : placeT Tryd.prog 13 1 = some (1, 1) := by kernel_rfl
theorem str13 : strT Tryd.prog 13 = false := by kernel_rfl
theorem fld13_0 : fldT Tryd.prog 13 0 = some (0, 9) := by kernel_rfl
theorem fld13_1 : fldT Tryd.prog 13 1 = some (1, 12) := by kernel_rfl
theorem agg22 : aggT Tryd.prog 22 = some false := by kernel_rfl
theorem siz22 : sizT Tryd.prog 22 = some 1 := by kernel_rfl
theorem byt22 : bytT Tryd.prog 22 = some 24 := by kernel_rfl
theorem elem22 : elemT Tryd.prog 22 = some 55 := by kernel_rfl
theorem arr22 : arrT Tryd.prog 22 = none := by kernel_rfl
theorem int22 : intT Tryd.prog 22 = none := by kernel_rfl
theorem zer22 : zerT Tryd.prog 22 = some [.slice none 0 0] := by kernel_rfl
theorem str22 : strT Tryd.prog 22 = false := by kernel_rfl
theorem agg24 : aggT Tryd.prog 24 = some true := by kernel_rfl
theorem siz24 : sizT Tryd.prog 24 = some 2 := by kernel_rfl
theorem byt24 : bytT Tryd.prog 24 = some 16 := by kernel_rfl
theorem elem24 : elemT Tryd.prog 24 = none := by kernel_rfl
theorem arr24 : arrT Tryd.prog 24 = none := by kernel_rfl
theorem int24 : intT Tryd.prog 24 = none := by kernel_rfl
theorem zer24 : zerT Tryd.prog 24 = some [.int .i64 0, .int .i64 0] := by kernel_rfl
theorem kd24 : kdT Tryd.prog 60 24 = some [.int .i64, .int .i64] := by kernel_rfl
theorem eqg24 : Tryd.prog.eqGuardType (Tryd.prog.depth) 24 = false := by kernel_rfl
theorem szs24 : sizesOk Tryd.prog 24 = true := by kernel_rfl
theorem plc24_0 : placeT Tryd.prog 24 0 = some (0, 1) := by kernel_rfl
theorem plc24_1 : placeT Tryd.prog 24 1 = some (1, 1) := by kernel_rfl
theorem str24 : strT Tryd.prog 24 = false := by kernel_rfl
theorem fld24_0 : fldT Tryd.prog 24 0 = some (0, 2) := by kernel_rfl
theorem fld24_1 : fldT Tryd.prog 24 1 = some (1, 2) := by kernel_rfl
theorem agg26 : aggT Tryd.prog 26 = some true := by kernel_rfl
theorem siz26 : sizT Tryd.prog 26 = some 10 := by kernel_rfl
theorem byt26 : bytT Tryd.prog 26 = some 96 := by kernel_rfl
theorem elem26 : elemT Tryd.prog 26 = none := by kernel_rfl
theorem arr26 : arrT Tryd.prog 26 = none := by kernel_rfl
theorem int26 : intT Tryd.prog 26 = none := by kernel_rfl
theorem zer26 : zerT Tryd.prog 26 = some [.int .i64 0, .slice none 0 0, .int .i64 0, .int .i64 0, .int .i64 0, .int .i64 0, .int .i64 0, .int .i64 0, .int .i64 0, .int .i64 0] := by kernel_rfl
theorem eqg26 : Tryd.prog.eqGuardType (Tryd.prog.depth) 26 = false := by kernel_rfl
theorem szs26 : sizesOk Tryd.prog 26 = true := by kernel_rfl
theorem plc26_0 : placeT Tryd.prog 26 0 = some (0, 1) := by kernel_rfl
theorem plc26_1 : placeT Tryd.prog 26 1 = some (1, 1) := by kernel_rfl
theorem plc26_2 : placeT Tryd.prog 26 2 = some (2, 1) := by kernel_rfl
theorem plc26_3 : placeT Tryd.prog 26 3 = some (3, 1) := by kernel_rfl
theorem plc26_4 : placeT Tryd.prog 26 4 = some (4, 2) := by kernel_rfl
theorem plc26_5 : placeT Tryd.prog 26 5 = some (6, 1) := by kernel_rfl
theorem plc26_6 : placeT Tryd.prog 26 6 = some (7, 1) := by kernel_rfl
theorem plc26_7 : placeT Tryd.prog 26 7 = some (8, 1) := by kernel_rfl
theorem plc26_8 : placeT Tryd.prog 26 8 = some (9, 1) := by kernel_rfl
theorem str26 : strT Tryd.prog 26 = false := by kernel_rfl
theorem fld26_0 : fldT Tryd.prog 26 0 = some (0, 3) := by kernel_rfl
theorem fld26_1 : fldT Tryd.prog 26 1 = some (1, 22) := by kernel_rfl
theorem fld26_2 : fldT Tryd.prog 26 2 = some (2, 2) := by kernel_rfl
theorem fld26_3 : fldT Tryd.prog 26 3 = some (3, 3) := by kernel_rfl
theorem fld26_4 : fldT Tryd.prog 26 4 = some (4, 24) := by kernel_rfl
theorem fld26_5 : fldT Tryd.prog 26 5 = some (6, 2) := by kernel_rfl
theorem fld26_6 : fldT Tryd.prog 26 6 = some (7, 3) := by kernel_rfl
theorem fld26_7 : fldT Tryd.prog 26 7 = some (8, 3) := by kernel_rfl
theorem fld26_8 : fldT Tryd.prog 26 8 = some (9, 3) := by kernel_rfl
theorem agg27 : aggT Tryd.prog 27 = some false := by kernel_rfl
theorem siz27 : sizT Tryd.prog 27 = some 1 := by kernel_rfl
theorem byt27 : bytT Tryd.prog 27 = some 24 := by kernel_rfl
theorem elem27 : elemT Tryd.prog 27 = some 45 := by kernel_rfl
theorem arr27 : arrT Tryd.prog 27 = none := by kernel_rfl
theorem int27 : intT Tryd.prog 27 = none := by kernel_rfl
theorem zer27 : zerT Tryd.prog 27 = some [.slice none 0 0] := by kernel_rfl
theorem str27 : strT Tryd.prog 27 = false := by kernel_rfl
theorem agg29 : aggT Tryd.prog 29 = some false := by kernel_rfl
theorem siz29 : sizT Tryd.prog 29 = some 1 := by kernel_rfl
theorem byt29 : bytT Tryd.prog 29 = some 8 := by kernel_rfl
theorem elem29 : elemT Tryd.prog 29 = none := by kernel_rfl
theorem arr29 : arrT Tryd.prog 29 = none := by kernel_rfl
theorem int29 : intT Tryd.prog 29 = some .i64 := by kernel_rfl
theorem zer29 : zerT Tryd.prog 29 = some [.int .i64 0] := by kernel_rfl
theorem str29 : strT Tryd.prog 29 = false := by kernel_rfl
theorem agg33 : aggT Tryd.prog 33 = some true := by kernel_rfl
theorem siz33 : sizT Tryd.prog 33 = some 2 := by kernel_rfl
theorem byt33 : bytT Tryd.prog 33 = some 16 := by kernel_rfl
theorem elem33 : elemT Tryd.prog 33 = none := by kernel_rfl
theorem arr33 : arrT Tryd.prog 33 = none := by kernel_rfl
theorem int33 : intT Tryd.prog 33 = none := by kernel_rfl
theorem zer33 : zerT Tryd.prog 33 = some [.int .i64 0, .int .i64 0] := by kernel_rfl
theorem kd33 : kdT Tryd.prog 60 33 = some [.int .i64, .int .i64] := by kernel_rfl
theorem eqg33 : Tryd.prog.eqGuardType (Tryd.prog.depth) 33 = false := by kernel_rfl
theorem szs33 : sizesOk Tryd.prog 33 = true := by kernel_rfl
theorem plc33_0 : placeT Tryd.prog 33 0 = some (0, 1) := by kernel_rfl
theorem plc33_1 : placeT Tryd.prog 33 1 = some (1, 1) := by kernel_rfl
theorem str33 : strT Tryd.prog 33 = false := by kernel_rfl
theorem fld33_0 : fldT Tryd.prog 33 0 = some (0, 29) := by kernel_rfl
theorem fld33_1 : fldT Tryd.prog 33 1 = some (1, 3) := by kernel_rfl
theorem agg39 : aggT Tryd.prog 39 = some false := by kernel_rfl
theorem siz39 : sizT Tryd.prog 39 = some 1 := by kernel_rfl
theorem byt39 : bytT Tryd.prog 39 = some 2 := by kernel_rfl
theorem elem39 : elemT Tryd.prog 39 = none := by kernel_rfl
theorem arr39 : arrT Tryd.prog 39 = none := by kernel_rfl
theorem int39 : intT Tryd.prog 39 = some .u16 := by kernel_rfl
theorem zer39 : zerT Tryd.prog 39 = some [.int .u16 0] := by kernel_rfl
theorem str39 : strT Tryd.prog 39 = false := by kernel_rfl
theorem agg42 : aggT Tryd.prog 42 = some false := by kernel_rfl
theorem siz42 : sizT Tryd.prog 42 = some 1 := by kernel_rfl
theorem byt42 : bytT Tryd.prog 42 = some 8 := by kernel_rfl
theorem elem42 : elemT Tryd.prog 42 = none := by kernel_rfl
theorem arr42 : arrT Tryd.prog 42 = none := by kernel_rfl
theorem int42 : intT Tryd.prog 42 = some .i64 := by kernel_rfl
theorem zer42 : zerT Tryd.prog 42 = some [.int .i64 0] := by kernel_rfl
theorem str42 : strT Tryd.prog 42 = false := by kernel_rfl
theorem agg43 : aggT Tryd.prog 43 = some true := by kernel_rfl
theorem siz43 : sizT Tryd.prog 43 = some 8 := by kernel_rfl
theorem byt43 : bytT Tryd.prog 43 = some 8 := by kernel_rfl
theorem elem43 : elemT Tryd.prog 43 = none := by kernel_rfl
theorem arr43 : arrT Tryd.prog 43 = some (8, 5) := by kernel_rfl
theorem int43 : intT Tryd.prog 43 = none := by kernel_rfl
theorem zer43 : zerT Tryd.prog 43 = some [.int .u8 0, .int .u8 0, .int .u8 0, .int .u8 0, .int .u8 0, .int .u8 0, .int .u8 0, .int .u8 0] := by kernel_rfl
theorem kd43 : kdT Tryd.prog 60 43 = some [.int .u8, .int .u8, .int .u8, .int .u8, .int .u8, .int .u8, .int .u8, .int .u8] := by kernel_rfl
theorem eqg43 : Tryd.prog.eqGuardType (Tryd.prog.depth) 43 = false := by kernel_rfl
theorem szs43 : sizesOk Tryd.prog 43 = true := by kernel_rfl
theorem plc43_0 : placeT Tryd.prog 43 0 = some (0, 1) := by kernel_rfl
theorem plc43_1 : placeT Tryd.prog 43 1 = some (1, 1) := by kernel_rfl
theorem plc43_2 : placeT Tryd.prog 43 2 = some (2, 1) := by kernel_rfl
theorem plc43_3 : placeT Tryd.prog 43 3 = some (3, 1) := by kernel_rfl
theorem plc43_4 : placeT Tryd.prog 43 4 = some (4, 1) := by kernel_rfl
theorem plc43_5 : placeT Tryd.prog 43 5 = some (5, 1) := by kernel_rfl
theorem plc43_6 : placeT Tryd.prog 43 6 = some (6, 1) := by kernel_rfl
theorem plc43_7 : placeT Tryd.prog 43 7 = some (7, 1) := by kernel_rfl
theorem plc43_8 : placeT Tryd.prog 43 8 = some (8, 1) := by kernel_rfl
theorem plc43_9 : placeT Tryd.prog 43 9 = some (9, 1) := by kernel_rfl
theorem plc43_10 : placeT Tryd.prog 43 10 = some (10, 1) := by kernel_rfl
theorem plc43_11 : placeT Tryd.prog 43 11 = some (11, 1) := by kernel_rfl
theorem str43 : strT Tryd.prog 43 = false := by kernel_rfl
theorem agg45 : aggT Tryd.prog 45 = some true := by kernel_rfl
theorem siz45 : sizT Tryd.prog 45 = some 11 := by kernel_rfl
theorem byt45 : bytT Tryd.prog 45 = some 32 := by kernel_rfl
theorem elem45 : elemT Tryd.prog 45 = none := by kernel_rfl
theorem arr45 : arrT Tryd.prog 45 = none := by kernel_rfl
theorem int45 : intT Tryd.prog 45 = none := by kernel_rfl
theorem zer45 : zerT Tryd.prog 45 = some [.int .i64 0, .int .i64 0, .int .i64 0, .int .u8 0, .int .u8 0, .int .u8 0, .int .u8 0, .int .u8 0, .int .u8 0, .int .u8 0, .int .u8 0] := by kernel_rfl
theorem kd45 : kdT Tryd.prog 60 45 = some [.int .i64, .int .i64, .int .i64, .int .u8, .int .u8, .int .u8, .int .u8, .int .u8, .int .u8, .int .u8, .int .u8] := by kernel_rfl
theorem eqg45 : Tryd.prog.eqGuardType (Tryd.prog.depth) 45 = false := by kernel_rfl
theorem szs45 : sizesOk Tryd.prog 45 = true := by kernel_rfl
theorem plc45_0 : placeT Tryd.prog 45 0 = some (0, 1) := by kernel_rfl
theorem plc45_1 : placeT Tryd.prog 45 1 = some (1, 1) := by kernel_rfl
theorem plc45_2 : placeT Tryd.prog 45 2 = some (2, 1) := by kernel_rfl
theorem plc45_3 : placeT Tryd.prog 45 3 = some (3, 8) := by kernel_rfl
theorem str45 : strT Tryd.prog 45 = false := by kernel_rfl
theorem fld45_0 : fldT Tryd.prog 45 0 = some (0, 42) := by kernel_rfl
theorem fld45_1 : fldT Tryd.prog 45 1 = some (1, 3) := by kernel_rfl
theorem fld45_2 : fldT Tryd.prog 45 2 = some (2, 3) := by kernel_rfl
theorem fld45_3 : fldT Tryd.prog 45 3 = some (3, 43) := by kernel_rfl
theorem agg52 : aggT Tryd.prog 52 = some false := by kernel_rfl
theorem siz52 : sizT Tryd.prog 52 = some 1 := by kernel_rfl
theorem byt52 : bytT Tryd.prog 52 = some 24 := by kernel_rfl
theorem elem52 : elemT Tryd.prog 52 = some 9 := by kernel_rfl
theorem arr52 : arrT Tryd.prog 52 = none := by kernel_rfl
theorem int52 : intT Tryd.prog 52 = none := by kernel_rfl
theorem zer52 : zerT Tryd.prog 52 = some [.slice none 0 0] := by kernel_rfl
theorem str52 : strT Tryd.prog 52 = false := by kernel_rfl
theorem agg53 : aggT Tryd.prog 53 = some false := by kernel_rfl
theorem siz53 : sizT Tryd.prog 53 = some 1 := by kernel_rfl
theorem byt53 : bytT Tryd.prog 53 = some 8 := by kernel_rfl
theorem elem53 : elemT Tryd.prog 53 = none := by kernel_rfl
theorem arr53 : arrT Tryd.prog 53 = none := by kernel_rfl
theorem int53 : intT Tryd.prog 53 = some .i64 := by kernel_rfl
theorem zer53 : zerT Tryd.prog 53 = some [.int .i64 0] := by kernel_rfl
theorem str53 : strT Tryd.prog 53 = false := by kernel_rfl
theorem agg55 : aggT Tryd.prog 55 = some true := by kernel_rfl
theorem siz55 : sizT Tryd.prog 55 = some 7 := by kernel_rfl
theorem byt55 : bytT Tryd.prog 55 = some 56 := by kernel_rfl
theorem elem55 : elemT Tryd.prog 55 = none := by kernel_rfl
theorem arr55 : arrT Tryd.prog 55 = none := by kernel_rfl
theorem int55 : intT Tryd.prog 55 = none := by kernel_rfl
theorem zer55 : zerT Tryd.prog 55 = some [.int .i64 0, .int .i64 0, .int .i64 0, .int .i64 0, .int .i64 0, .int .i64 0, .int .i64 0] := by kernel_rfl
theorem kd55 : kdT Tryd.prog 60 55 = some [.int .i64, .int .i64, .int .i64, .int .i64, .int .i64, .int .i64, .int .i64] := by kernel_rfl
theorem eqg55 : Tryd.prog.eqGuardType (Tryd.prog.depth) 55 = false := by kernel_rfl
theorem szs55 : sizesOk Tryd.prog 55 = true := by kernel_rfl
theorem plc55_0 : placeT Tryd.prog 55 0 = some (0, 1) := by kernel_rfl
theorem plc55_1 : placeT Tryd.prog 55 1 = some (1, 1) := by kernel_rfl
theorem plc55_2 : placeT Tryd.prog 55 2 = some (2, 1) := by kernel_rfl
theorem plc55_3 : placeT Tryd.prog 55 3 = some (3, 1) := by kernel_rfl
theorem plc55_4 : placeT Tryd.prog 55 4 = some (4, 1) := by kernel_rfl
theorem plc55_5 : placeT Tryd.prog 55 5 = some (5, 1) := by kernel_rfl
theorem plc55_6 : placeT Tryd.prog 55 6 = some (6, 1) := by kernel_rfl
theorem str55 : strT Tryd.prog 55 = false := by kernel_rfl
theorem fld55_0 : fldT Tryd.prog 55 0 = some (0, 3) := by kernel_rfl
theorem fld55_1 : fldT Tryd.prog 55 1 = some (1, 3) := by kernel_rfl
theorem fld55_2 : fldT Tryd.prog 55 2 = some (2, 53) := by kernel_rfl
theorem fld55_3 : fldT Tryd.prog 55 3 = some (3, 2) := by kernel_rfl
theorem fld55_4 : fldT Tryd.prog 55 4 = some (4, 2) := by kernel_rfl
theorem fld55_5 : fldT Tryd.prog 55 5 = some (5, 3) := by kernel_rfl
theorem fld55_6 : fldT Tryd.prog 55 6 = some (6, 3) := by kernel_rfl
theorem agg60 : aggT Tryd.prog 60 = some true := by kernel_rfl
theorem siz60 : sizT Tryd.prog 60 = some 11 := by kernel_rfl
theorem byt60 : bytT Tryd.prog 60 = some 120 := by kernel_rfl
theorem elem60 : elemT Tryd.prog 60 = none := by kernel_rfl
theorem arr60 : arrT Tryd.prog 60 = none := by kernel_rfl
theorem int60 : intT Tryd.prog 60 = none := by kernel_rfl
theorem zer60 : zerT Tryd.prog 60 = some [.int .i64 0, .slice none 0 0, .int .i64 0, .int .i64 0, .int .i64 0, .int .i64 0, .int .i64 0, .int .i64 0, .int .i64 0, .int .i64 0, .slice none 0 0] := by kernel_rfl
theorem eqg60 : Tryd.prog.eqGuardType (Tryd.prog.depth) 60 = false := by kernel_rfl
theorem szs60 : sizesOk Tryd.prog 60 = true := by kernel_rfl
theorem plc60_0 : placeT Tryd.prog 60 0 = some (0, 10) := by kernel_rfl
theorem plc60_1 : placeT Tryd.prog 60 1 = some (10, 1) := by kernel_rfl
theorem str60 : strT Tryd.prog 60 = false := by kernel_rfl
theorem fld60_0 : fldT Tryd.prog 60 0 = some (0, 26) := by kernel_rfl
theorem fld60_1 : fldT Tryd.prog 60 1 = some (10, 27) := by kernel_rfl
theorem agg68 : aggT Tryd.prog 68 = some false := by kernel_rfl
theorem siz68 : sizT Tryd.prog 68 = some 1 := by kernel_rfl
theorem byt68 : bytT Tryd.prog 68 = some 24 := by kernel_rfl
theorem elem68 : elemT Tryd.prog 68 = some 2 := by kernel_rfl
theorem arr68 : arrT Tryd.prog 68 = none := by kernel_rfl
theorem int68 : intT Tryd.prog 68 = none := by kernel_rfl
theorem zer68 : zerT Tryd.prog 68 = some [.slice none 0 0] := by kernel_rfl
theorem str68 : strT Tryd.prog 68 = false := by kernel_rfl
theorem agg74 : aggT Tryd.prog 74 = some true := by kernel_rfl
theorem siz74 : sizT Tryd.prog 74 = some 3 := by kernel_rfl
theorem byt74 : bytT Tryd.prog 74 = some 24 := by kernel_rfl
theorem elem74 : elemT Tryd.prog 74 = none := by kernel_rfl
theorem arr74 : arrT Tryd.prog 74 = none := by kernel_rfl
theorem int74 : intT Tryd.prog 74 = none := by kernel_rfl
theorem zer74 : zerT Tryd.prog 74 = some [.int .i64 0, .int .i64 0, .int .i64 0] := by kernel_rfl
theorem kd74 : kdT Tryd.prog 60 74 = some [.int .i64, .int .i64, .int .i64] := by kernel_rfl
theorem eqg74 : Tryd.prog.eqGuardType (Tryd.prog.depth) 74 = false := by kernel_rfl
theorem szs74 : sizesOk Tryd.prog 74 = true := by kernel_rfl
theorem plc74_0 : placeT Tryd.prog 74 0 = some (0, 2) := by kernel_rfl
theorem plc74_1 : placeT Tryd.prog 74 1 = some (2, 1) := by kernel_rfl
theorem str74 : strT Tryd.prog 74 = false := by kernel_rfl
theorem fld74_0 : fldT Tryd.prog 74 0 = some (0, 24) := by kernel_rfl
theorem fld74_1 : fldT Tryd.prog 74 1 = some (2, 2) := by kernel_rfl
theorem agg78 : aggT Tryd.prog 78 = some true := by kernel_rfl
theorem siz78 : sizT Tryd.prog 78 = some 3 := by kernel_rfl
theorem byt78 : bytT Tryd.prog 78 = some 24 := by kernel_rfl
theorem elem78 : elemT Tryd.prog 78 = none := by kernel_rfl
theorem arr78 : arrT Tryd.prog 78 = none := by kernel_rfl
theorem int78 : intT Tryd.prog 78 = none := by kernel_rfl
theorem zer78 : zerT Tryd.prog 78 = some [.int .i64 0, .int .i64 0, .int .i64 0] := by kernel_rfl
theorem kd78 : kdT Tryd.prog 60 78 = some [.int .i64, .int .i64, .int .i64] := by kernel_rfl
theorem eqg78 : Tryd.prog.eqGuardType (Tryd.prog.depth) 78 = false := by kernel_rfl
theorem szs78 : sizesOk Tryd.prog 78 = true := by kernel_rfl
theorem plc78_0 : placeT Tryd.prog 78 0 = some (0, 1) := by kernel_rfl
theorem plc78_1 : placeT Tryd.prog 78 1 = some (1, 1) := by kernel_rfl
theorem plc78_2 : placeT Tryd.prog 78 2 = some (2, 1) := by kernel_rfl
theorem str78 : strT Tryd.prog 78 = false := by kernel_rfl
theorem fld78_0 : fldT Tryd.prog 78 0 = some (0, 3) := by kernel_rfl
theorem fld78_1 : fldT Tryd.prog 78 1 = some (1, 3) := by kernel_rfl
theorem fld78_2 : fldT Tryd.prog 78 2 = some (2, 3) := by kernel_rfl
theorem agg96 : aggT Tryd.prog 96 = some false := by kernel_rfl
theorem siz96 : sizT Tryd.prog 96 = some 1 := by kernel_rfl
theorem byt96 : bytT Tryd.prog 96 = some 8 := by kernel_rfl
theorem elem96 : elemT Tryd.prog 96 = none := by kernel_rfl
theorem arr96 : arrT Tryd.prog 96 = none := by kernel_rfl
theorem int96 : intT Tryd.prog 96 = none := by kernel_rfl
theorem zer96 : zerT Tryd.prog 96 = some [.pointer none] := by kernel_rfl
theorem str96 : strT Tryd.prog 96 = false := by kernel_rfl
theorem agg98 : aggT Tryd.prog 98 = some false := by kernel_rfl
theorem siz98 : sizT Tryd.prog 98 = some 1 := by kernel_rfl
theorem byt98 : bytT Tryd.prog 98 = some 8 := by kernel_rfl
theorem elem98 : elemT Tryd.prog 98 = none := by kernel_rfl
theorem arr98 : arrT Tryd.prog 98 = none := by kernel_rfl
theorem int98 : intT Tryd.prog 98 = none := by kernel_rfl
theorem zer98 : zerT Tryd.prog 98 = some [.pointer none] := by kernel_rfl
theorem str98 : strT Tryd.prog 98 = false := by kernel_rfl
theorem agg104 : aggT Tryd.prog 104 = some false := by kernel_rfl
theorem siz104 : sizT Tryd.prog 104 = some 1 := by kernel_rfl
theorem byt104 : bytT Tryd.prog 104 = some 8 := by kernel_rfl
theorem elem104 : elemT Tryd.prog 104 = none := by kernel_rfl
theorem arr104 : arrT Tryd.prog 104 = none := by kernel_rfl
theorem int104 : intT Tryd.prog 104 = some .u64 := by kernel_rfl
theorem zer104 : zerT Tryd.prog 104 = some [.int .u64 0] := by kernel_rfl
theorem str104 : strT Tryd.prog 104 = false := by kernel_rfl
theorem agg108 : aggT Tryd.prog 108 = some false := by kernel_rfl
theorem siz108 : sizT Tryd.prog 108 = some 1 := by kernel_rfl
theorem byt108 : bytT Tryd.prog 108 = some 8 := by kernel_rfl
theorem elem108 : elemT Tryd.prog 108 = none := by kernel_rfl
theorem arr108 : arrT Tryd.prog 108 = none := by kernel_rfl
theorem int108 : intT Tryd.prog 108 = none := by kernel_rfl
theorem zer108 : zerT Tryd.prog 108 = some [.nilFunc] := by kernel_rfl
theorem str108 : strT Tryd.prog 108 = false := by kernel_rfl
theorem agg118 : aggT Tryd.prog 118 = some false := by kernel_rfl
theorem siz118 : sizT Tryd.prog 118 = some 1 := by kernel_rfl
theorem byt118 : bytT Tryd.prog 118 = some 8 := by kernel_rfl
theorem elem118 : elemT Tryd.prog 118 = none := by kernel_rfl
theorem arr118 : arrT Tryd.prog 118 = none := by kernel_rfl
theorem int118 : intT Tryd.prog 118 = none := by kernel_rfl
theorem zer118 : zerT Tryd.prog 118 = some [.pointer none] := by kernel_rfl
theorem str118 : strT Tryd.prog 118 = false := by kernel_rfl
theorem agg120 : aggT Tryd.prog 120 = some true := by kernel_rfl
theorem siz120 : sizT Tryd.prog 120 = some 6 := by kernel_rfl
theorem byt120 : bytT Tryd.prog 120 = some 96 := by kernel_rfl
theorem elem120 : elemT Tryd.prog 120 = none := by kernel_rfl
theorem arr120 : arrT Tryd.prog 120 = some (6, 9) := by kernel_rfl
theorem int120 : intT Tryd.prog 120 = none := by kernel_rfl
theorem zer120 : zerT Tryd.prog 120 = some [.string ByteArray.empty, .string ByteArray.empty, .string ByteArray.empty, .string ByteArray.empty, .string ByteArray.empty, .string ByteArray.empty] := by kernel_rfl
theorem kd120 : kdT Tryd.prog 60 120 = some [.str, .str, .str, .str, .str, .str] := by kernel_rfl
theorem eqg120 : Tryd.prog.eqGuardType (Tryd.prog.depth) 120 = false := by kernel_rfl
theorem szs120 : sizesOk Tryd.prog 120 = true := by kernel_rfl
theorem plc120_0 : placeT Tryd.prog 120 0 = some (0, 1) := by kernel_rfl
theorem plc120_1 : placeT Tryd.prog 120 1 = some (1, 1) := by kernel_rfl
theorem plc120_2 : placeT Tryd.prog 120 2 = some (2, 1) := by kernel_rfl
theorem plc120_3 : placeT Tryd.prog 120 3 = some (3, 1) := by kernel_rfl
theorem plc120_4 : placeT Tryd.prog 120 4 = some (4, 1) := by kernel_rfl
theorem plc120_5 : placeT Tryd.prog 120 5 = some (5, 1) := by kernel_rfl
theorem plc120_6 : placeT Tryd.prog 120 6 = some (6, 1) := by kernel_rfl
theorem plc120_7 : placeT Tryd.prog 120 7 = some (7, 1) := by kernel_rfl
theorem plc120_8 : placeT Tryd.prog 120 8 = some (8, 1) := by kernel_rfl
theorem plc120_9 : placeT Tryd.prog 120 9 = some (9, 1) := by kernel_rfl
theorem plc120_10 : placeT Tryd.prog 120 10 = some (10, 1) := by kernel_rfl
theorem plc120_11 : placeT Tryd.prog 120 11 = some (11, 1) := by kernel_rfl
theorem str120 : strT Tryd.prog 120 = false := by kernel_rfl
theorem agg122 : aggT Tryd.prog 122 = some false := by kernel_rfl
theorem siz122 : sizT Tryd.prog 122 = some 1 := by kernel_rfl
theorem byt122 : bytT Tryd.prog 122 = some 8 := by kernel_rfl
theorem elem122 : elemT Tryd.prog 122 = none := by kernel_rfl
theorem arr122 : arrT Tryd.prog 122 = none := by kernel_rfl
theorem int122 : intT Tryd.prog 122 = none := by kernel_rfl
theorem zer122 : zerT Tryd.prog 122 = some [.pointer none] := by kernel_rfl
theorem str122 : strT Tryd.prog 122 = false := by kernel_rfl
theorem agg124 : aggT Tryd.prog 124 = some false := by kernel_rfl
theorem siz124 : sizT Tryd.prog 124 = some 1 := by kernel_rfl
theorem byt124 : bytT Tryd.prog 124 = some 8 := by kernel_rfl
theorem elem124 : elemT Tryd.prog 124 = none := by kernel_rfl
theorem arr124 : arrT Tryd.prog 124 = none := by kernel_rfl
theorem int124 : intT Tryd.prog 124 = none := by kernel_rfl
theorem zer124 : zerT Tryd.prog 124 = some [.pointer none] := by kernel_rfl
theorem str124 : strT Tryd.prog 124 = false := by kernel_rfl
theorem agg128 : aggT Tryd.prog 128 = some true := by kernel_rfl
theorem siz128 : sizT Tryd.prog 128 = some 2 := by kernel_rfl
theorem byt128 : bytT Tryd.prog 128 = some 32 := by kernel_rfl
theorem elem128 : elemT Tryd.prog 128 = none := by kernel_rfl
theorem arr128 : arrT Tryd.prog 128 = none := by kernel_rfl
theorem int128 : intT Tryd.prog 128 = none := by kernel_rfl
theorem zer128 : zerT Tryd.prog 128 = some [.slice none 0 0, .bool false] := by kernel_rfl
theorem eqg128 : Tryd.prog.eqGuardType (Tryd.prog.depth) 128 = false := by kernel_rfl
theorem szs128 : sizesOk Tryd.prog 128 = true := by kernel_rfl
theorem plc128_0 : placeT Tryd.prog 128 0 = some (0, 1) := by kernel_rfl
theorem plc128_1 : placeT Tryd.prog 128 1 = some (1, 1) := by kernel_rfl
theorem str128 : strT Tryd.prog 128 = false := by kernel_rfl
theorem fld128_0 : fldT Tryd.prog 128 0 = some (0, 52) := by kernel_rfl
theorem fld128_1 : fldT Tryd.prog 128 1 = some (1, 4) := by kernel_rfl
theorem agg133 : aggT Tryd.prog 133 = some true := by kernel_rfl
theorem siz133 : sizT Tryd.prog 133 = some 4 := by kernel_rfl
theorem byt133 : bytT Tryd.prog 133 = some 32 := by kernel_rfl
theorem elem133 : elemT Tryd.prog 133 = none := by kernel_rfl
theorem arr133 : arrT Tryd.prog 133 = none := by kernel_rfl
theorem int133 : intT Tryd.prog 133 = none := by kernel_rfl
theorem zer133 : zerT Tryd.prog 133 = some [.int .i64 0, .int .i64 0, .int .i64 0, .int .i64 0] := by kernel_rfl
theorem kd133 : kdT Tryd.prog 60 133 = some [.int .i64, .int .i64, .int .i64, .int .i64] := by kernel_rfl
theorem eqg133 : Tryd.prog.eqGuardType (Tryd.prog.depth) 133 = false := by kernel_rfl
theorem szs133 : sizesOk Tryd.prog 133 = true := by kernel_rfl
theorem plc133_0 : placeT Tryd.prog 133 0 = some (0, 1) := by kernel_rfl
theorem plc133_1 : placeT Tryd.prog 133 1 = some (1, 1) := by kernel_rfl
theorem plc133_2 : placeT Tryd.prog 133 2 = some (2, 1) := by kernel_rfl
theorem plc133_3 : placeT Tryd.prog 133 3 = some (3, 1) := by kernel_rfl
theorem str133 : strT Tryd.prog 133 = false := by kernel_rfl
theorem fld133_0 : fldT Tryd.prog 133 0 = some (0, 53) := by kernel_rfl
theorem fld133_1 : fldT Tryd.prog 133 1 = some (1, 3) := by kernel_rfl
theorem fld133_2 : fldT Tryd.prog 133 2 = some (2, 3) := by kernel_rfl
theorem fld133_3 : fldT Tryd.prog 133 3 = some (3, 3) := by kernel_rfl
theorem agg141 : aggT Tryd.prog 141 = some false := by kernel_rfl
theorem siz141 : sizT Tryd.prog 141 = some 1 := by kernel_rfl
theorem byt141 : bytT Tryd.prog 141 = some 24 := by kernel_rfl
theorem elem141 : elemT Tryd.prog 141 = some 122 := by kernel_rfl
theorem arr141 : arrT Tryd.prog 141 = none := by kernel_rfl
theorem int141 : intT Tryd.prog 141 = none := by kernel_rfl
theorem zer141 : zerT Tryd.prog 141 = some [.slice none 0 0] := by kernel_rfl
theorem str141 : strT Tryd.prog 141 = false := by kernel_rfl
theorem agg144 : aggT Tryd.prog 144 = some false := by kernel_rfl
theorem siz144 : sizT Tryd.prog 144 = some 1 := by kernel_rfl
theorem byt144 : bytT Tryd.prog 144 = some 24 := by kernel_rfl
theorem elem144 : elemT Tryd.prog 144 = some 124 := by kernel_rfl
theorem arr144 : arrT Tryd.prog 144 = none := by kernel_rfl
theorem int144 : intT Tryd.prog 144 = none := by kernel_rfl
theorem zer144 : zerT Tryd.prog 144 = some [.slice none 0 0] := by kernel_rfl
theorem str144 : strT Tryd.prog 144 = false := by kernel_rfl
theorem agg145 : aggT Tryd.prog 145 = some false := by kernel_rfl
theorem siz145 : sizT Tryd.prog 145 = some 1 := by kernel_rfl
theorem byt145 : bytT Tryd.prog 145 = some 4 := by kernel_rfl
theorem elem145 : elemT Tryd.prog 145 = none := by kernel_rfl
theorem arr145 : arrT Tryd.prog 145 = none := by kernel_rfl
theorem int145 : intT Tryd.prog 145 = some .u32 := by kernel_rfl
theorem zer145 : zerT Tryd.prog 145 = some [.int .u32 0] := by kernel_rfl
theorem str145 : strT Tryd.prog 145 = false := by kernel_rfl
theorem und0 : (Tryd.prog.underlying 0).isSome = true := by kernel_rfl
theorem und1 : (Tryd.prog.underlying 1).isSome = true := by kernel_rfl
theorem und2 : (Tryd.prog.underlying 2).isSome = true := by kernel_rfl
theorem und3 : (Tryd.prog.underlying 3).isSome = true := by kernel_rfl
theorem und4 : (Tryd.prog.underlying 4).isSome = true := by kernel_rfl
theorem und5 : (Tryd.prog.underlying 5).isSome = true := by kernel_rfl
theorem und9 : (Tryd.prog.underlying 9).isSome = true := by kernel_rfl
theorem und13 : (Tryd.prog.underlying 13).isSome = true := by kernel_rfl
theorem und22 : (Tryd.prog.underlying 22).isSome = true := by kernel_rfl
theorem und24 : (Tryd.prog.underlying 24).isSome = true := by kernel_rfl
theorem und26 : (Tryd.prog.underlying 26).isSome = true := by kernel_rfl
theorem und27 : (Tryd.prog.underlying 27).isSome = true := by kernel_rfl
theorem und29 : (Tryd.prog.underlying 29).isSome = true := by kernel_rfl
theorem und33 : (Tryd.prog.underlying 33).isSome = true := by kernel_rfl
theorem und39 : (Tryd.prog.underlying 39).isSome = true := by kernel_rfl
theorem und42 : (Tryd.prog.underlying 42).isSome = true := by kernel_rfl
theorem und43 : (Tryd.prog.underlying 43).isSome = true := by kernel_rfl
theorem und45 : (Tryd.prog.underlying 45).isSome = true := by kernel_rfl
theorem und52 : (Tryd.prog.underlying 52).isSome = true := by kernel_rfl
theorem und53 : (Tryd.prog.underlying 53).isSome = true := by kernel_rfl
theorem und55 : (Tryd.prog.underlying 55).isSome = true := by kernel_rfl
theorem und60 : (Tryd.prog.underlying 60).isSome = true := by kernel_rfl
theorem und68 : (Tryd.prog.underlying 68).isSome = true := by kernel_rfl
theorem und74 : (Tryd.prog.underlying 74).isSome = true := by kernel_rfl
theorem und78 : (Tryd.prog.underlying 78).isSome = true := by kernel_rfl
theorem und96 : (Tryd.prog.underlying 96).isSome = true := by kernel_rfl
theorem und98 : (Tryd.prog.underlying 98).isSome = true := by kernel_rfl
theorem und104 : (Tryd.prog.underlying 104).isSome = true := by kernel_rfl
theorem und108 : (Tryd.prog.underlying 108).isSome = true := by kernel_rfl
theorem und118 : (Tryd.prog.underlying 118).isSome = true := by kernel_rfl
theorem und120 : (Tryd.prog.underlying 120).isSome = true := by kernel_rfl
theorem und122 : (Tryd.prog.underlying 122).isSome = true := by kernel_rfl
theorem und124 : (Tryd.prog.underlying 124).isSome = true := by kernel_rfl
theorem und128 : (Tryd.prog.underlying 128).isSome = true := by kernel_rfl
theorem und133 : (Tryd.prog.underlying 133).isSome = true := by kernel_rfl
theorem und141 : (Tryd.prog.underlying 141).isSome = true := by kernel_rfl
theorem und144 : (Tryd.prog.underlying 144).isSome = true := by kernel_rfl
theorem und145 : (Tryd.prog.underlying 145).isSome = true := by kernel_rfl
theorem t0 : (aggT Tryd.prog 0 = some false) ∧ (sizT Tryd.prog 0 = some 1) ∧ (bytT Tryd.prog 0 = some 0) ∧ (elemT Tryd.prog 0 = none) ∧ (arrT Tryd.prog 0 = none) ∧ (intT Tryd.prog 0 = none) ∧ (strT Tryd.prog 0 = false) ∧ ((Tryd.prog.underlying 0).isSome = true) := ⟨agg0, siz0, byt0, elem0, arr0, int0, str0, und0⟩
theorem t1 : (aggT Tryd.prog 1 = some false) ∧ (sizT Tryd.prog 1 = some 1) ∧ (bytT Tryd.prog 1 = some 8) ∧ (elemT Tryd.prog 1 = none) ∧ (arrT Tryd.prog 1 = none) ∧ (intT Tryd.prog 1 = none) ∧ (zerT Tryd.prog 1 = some [.nilFunc]) ∧ (strT Tryd.prog 1 = false) ∧ ((Tryd.prog.underlying 1).isSome = true) := ⟨agg1, siz1, byt1, elem1, arr1, int1, zer1, str1, und1⟩
theorem t2 : (aggT Tryd.prog 2 = some false) ∧ (sizT Tryd.prog 2 = some 1) ∧ (bytT Tryd.prog 2 = some 8) ∧ (elemT Tryd.prog 2 = none) ∧ (arrT Tryd.prog 2 = none) ∧ (intT Tryd.prog 2 = some .i64) ∧ (zerT Tryd.prog 2 = some [.int .i64 0]) ∧ (strT Tryd.prog 2 = false) ∧ ((Tryd.prog.underlying 2).isSome = true) := ⟨agg2, siz2, byt2, elem2, arr2, int2, zer2, str2, und2⟩
theorem t3 : (aggT Tryd.prog 3 = some false) ∧ (sizT Tryd.prog 3 = some 1) ∧ (bytT Tryd.prog 3 = some 8) ∧ (elemT Tryd.prog 3 = none) ∧ (arrT Tryd.prog 3 = none) ∧ (intT Tryd.prog 3 = some .i64) ∧ (zerT Tryd.prog 3 = some [.int .i64 0]) ∧ (strT Tryd.prog 3 = false) ∧ ((Tryd.prog.underlying 3).isSome = true) := ⟨agg3, siz3, byt3, elem3, arr3, int3, zer3, str3, und3⟩
theorem t4 : (aggT Tryd.prog 4 = some false) ∧ (sizT Tryd.prog 4 = some 1) ∧ (bytT Tryd.prog 4 = some 1) ∧ (elemT Tryd.prog 4 = none) ∧ (arrT Tryd.prog 4 = none) ∧ (intT Tryd.prog 4 = none) ∧ (zerT Tryd.prog 4 = some [.bool false]) ∧ (strT Tryd.prog 4 = false) ∧ ((Tryd.prog.underlying 4).isSome = true) := ⟨agg4, siz4, byt4, elem4, arr4, int4, zer4, str4, und4⟩
theorem t5 : (aggT Tryd.prog 5 = some false) ∧ (sizT Tryd.prog 5 = some 1) ∧ (bytT Tryd.prog 5 = some 1) ∧ (elemT Tryd.prog 5 = none) ∧ (arrT Tryd.prog 5 = none) ∧ (intT Tryd.prog 5 = some .u8) ∧ (zerT Tryd.prog 5 = some [.int .u8 0]) ∧ (strT Tryd.prog 5 = false) ∧ ((Tryd.prog.underlying 5).isSome = true) := ⟨agg5, siz5, byt5, elem5, arr5, int5, zer5, str5, und5⟩
theorem t9 : (aggT Tryd.prog 9 = some false) ∧ (sizT Tryd.prog 9 = some 1) ∧ (bytT Tryd.prog 9 = some 16) ∧ (elemT Tryd.prog 9 = none) ∧ (arrT Tryd.prog 9 = none) ∧ (intT Tryd.prog 9 = none) ∧ (zerT Tryd.prog 9 = some [.string ByteArray.empty]) ∧ (strT Tryd.prog 9 = true) ∧ ((Tryd.prog.underlying 9).isSome = true) := ⟨agg9, siz9, byt9, elem9, arr9, int9, zer9, str9, und9⟩
theorem t13 : (aggT Tryd.prog 13 = some true) ∧ (sizT Tryd.prog 13 = some 2) ∧ (bytT Tryd.prog 13 = some 24) ∧ (elemT Tryd.prog 13 = none) ∧ (arrT Tryd.prog 13 = none) ∧ (intT Tryd.prog 13 = none) ∧ (zerT Tryd.prog 13 = some [.string ByteArray.empty, .int .u64 0]) ∧ (Tryd.prog.eqGuardType (Tryd.prog.depth) 13 = false) ∧ (sizesOk Tryd.prog 13 = true) ∧ (placeT Tryd.prog 13 0 = some (0, 1)) ∧ (placeT Tryd.prog 13 1 = some (1, 1)) ∧ (strT Tryd.prog 13 = false) ∧ (fldT Tryd.prog 13 0 = some (0, 9)) ∧ (fldT Tryd.prog 13 1 = some (1, 12)) ∧ ((Tryd.prog.underlying 13).isSome = true) := ⟨agg13, siz13, byt13, elem13, arr13, int13, zer13, eqg13, szs13, plc13_0, plc13_1, str13, fld13_0, fld13_1, und13⟩
theorem t22 : (aggT Tryd.prog 22 = some false) ∧ (sizT Tryd.prog 22 = some 1) ∧ (bytT Tryd.prog 22 = some 24) ∧ (elemT Tryd.prog 22 = some 55) ∧ (arrT Tryd.prog 22 = none) ∧ (intT Tryd.prog 22 = none) ∧ (zerT Tryd.prog 22 = some [.slice none 0 0]) ∧ (strT Tryd.prog 22 = false) ∧ ((Tryd.prog.underlying 22).isSome = true) := ⟨agg22, siz22, byt22, elem22, arr22, int22, zer22, str22, und22⟩
theorem t24 : (aggT Tryd.prog 24 = some true) ∧ (sizT Tryd.prog 24 = some 2) ∧ (bytT Tryd.prog 24 = some 16) ∧ (elemT Tryd.prog 24 = none) ∧ (arrT Tryd.prog 24 = none) ∧ (intT Tryd.prog 24 = none) ∧ (zerT Tryd.prog 24 = some [.int .i64 0, .int .i64 0]) ∧ (kdT Tryd.prog 60 24 = some [.int .i64, .int .i64]) ∧ (Tryd.prog.eqGuardType (Tryd.prog.depth) 24 = false) ∧ (sizesOk Tryd.prog 24 = true) ∧ (placeT Tryd.prog 24 0 = some (0, 1)) ∧ (placeT Tryd.prog 24 1 = some (1, 1)) ∧ (strT Tryd.prog 24 = false) ∧ (fldT Tryd.prog 24 0 = some (0, 2)) ∧ (fldT Tryd.prog 24 1 = some (1, 2)) ∧ ((Tryd.prog.underlying 24).isSome = true) := ⟨agg24, siz24, byt24, elem24, arr24, int24, zer24, kd24, eqg24, szs24, plc24_0, plc24_1, str24, fld24_0, fld24_1, und24⟩
theorem t26 : (aggT Tryd.prog 26 = some true) ∧ (sizT Tryd.prog 26 = some 10) ∧ (bytT Tryd.prog 26 = some 96) ∧ (elemT Tryd.prog 26 = none) ∧ (arrT Tryd.prog 26 = none) ∧ (intT Tryd.prog 26 = none) ∧ (zerT Tryd.prog 26 = some [.int .i64 0, .slice none 0 0, .int .i64 0, .int .i64 0, .int .i64 0, .int .i64 0, .int .i64 0, .int .i64 0, .int .i64 0, .int .i64 0]) ∧ (Tryd.prog.eqGuardType (Tryd.prog.depth) 26 = false) ∧ (sizesOk Tryd.prog 26 = true) ∧ (placeT Tryd.prog 26 0 = some (0, 1)) ∧ (placeT Tryd.prog 26 1 = some (1, 1)) ∧ (placeT Tryd.prog 26 2 = some (2, 1)) ∧ (placeT Tryd.prog 26 3 = some (3, 1)) ∧ (placeT Tryd.prog 26 4 = some (4, 2)) ∧ (placeT Tryd.prog 26 5 = some (6, 1)) ∧ (placeT Tryd.prog 26 6 = some (7, 1)) ∧ (placeT Tryd.prog 26 7 = some (8, 1)) ∧ (placeT Tryd.prog 26 8 = some (9, 1)) ∧ (strT Tryd.prog 26 = false) ∧ (fldT Tryd.prog 26 0 = some (0, 3)) ∧ (fldT Tryd.prog 26 1 = some (1, 22)) ∧ (fldT Tryd.prog 26 2 = some (2, 2)) ∧ (fldT Tryd.prog 26 3 = some (3, 3)) ∧ (fldT Tryd.prog 26 4 = some (4, 24)) ∧ (fldT Tryd.prog 26 5 = some (6, 2)) ∧ (fldT Tryd.prog 26 6 = some (7, 3)) ∧ (fldT Tryd.prog 26 7 = some (8, 3)) ∧ (fldT Tryd.prog 26 8 = some (9, 3)) ∧ ((Tryd.prog.underlying 26).isSome = true) := ⟨agg26, siz26, byt26, elem26, arr26, int26, zer26, eqg26, szs26, plc26_0, plc26_1, plc26_2, plc26_3, plc26_4, plc26_5, plc26_6, plc26_7, plc26_8, str26, fld26_0, fld26_1, fld26_2, fld26_3, fld26_4, fld26_5, fld26_6, fld26_7, fld26_8, und26⟩
theorem t27 : (aggT Tryd.prog 27 = some false) ∧ (sizT Tryd.prog 27 = some 1) ∧ (bytT Tryd.prog 27 = some 24) ∧ (elemT Tryd.prog 27 = some 45) ∧ (arrT Tryd.prog 27 = none) ∧ (intT Tryd.prog 27 = none) ∧ (zerT Tryd.prog 27 = some [.slice none 0 0]) ∧ (strT Tryd.prog 27 = false) ∧ ((Tryd.prog.underlying 27).isSome = true) := ⟨agg27, siz27, byt27, elem27, arr27, int27, zer27, str27, und27⟩
theorem t29 : (aggT Tryd.prog 29 = some false) ∧ (sizT Tryd.prog 29 = some 1) ∧ (bytT Tryd.prog 29 = some 8) ∧ (elemT Tryd.prog 29 = none) ∧ (arrT Tryd.prog 29 = none) ∧ (intT Tryd.prog 29 = some .i64) ∧ (zerT Tryd.prog 29 = some [.int .i64 0]) ∧ (strT Tryd.prog 29 = false) ∧ ((Tryd.prog.underlying 29).isSome = true) := ⟨agg29, siz29, byt29, elem29, arr29, int29, zer29, str29, und29⟩
theorem t33 : (aggT Tryd.prog 33 = some true) ∧ (sizT Tryd.prog 33 = some 2) ∧ (bytT Tryd.prog 33 = some 16) ∧ (elemT Tryd.prog 33 = none) ∧ (arrT Tryd.prog 33 = none) ∧ (intT Tryd.prog 33 = none) ∧ (zerT Tryd.prog 33 = some [.int .i64 0, .int .i64 0]) ∧ (kdT Tryd.prog 60 33 = some [.int .i64, .int .i64]) ∧ (Tryd.prog.eqGuardType (Tryd.prog.depth) 33 = false) ∧ (sizesOk Tryd.prog 33 = true) ∧ (placeT Tryd.prog 33 0 = some (0, 1)) ∧ (placeT Tryd.prog 33 1 = some (1, 1)) ∧ (strT Tryd.prog 33 = false) ∧ (fldT Tryd.prog 33 0 = some (0, 29)) ∧ (fldT Tryd.prog 33 1 = some (1, 3)) ∧ ((Tryd.prog.underlying 33).isSome = true) := ⟨agg33, siz33, byt33, elem33, arr33, int33, zer33, kd33, eqg33, szs33, plc33_0, plc33_1, str33, fld33_0, fld33_1, und33⟩
theorem t39 : (aggT Tryd.prog 39 = some false) ∧ (sizT Tryd.prog 39 = some 1) ∧ (bytT Tryd.prog 39 = some 2) ∧ (elemT Tryd.prog 39 = none) ∧ (arrT Tryd.prog 39 = none) ∧ (intT Tryd.prog 39 = some .u16) ∧ (zerT Tryd.prog 39 = some [.int .u16 0]) ∧ (strT Tryd.prog 39 = false) ∧ ((Tryd.prog.underlying 39).isSome = true) := ⟨agg39, siz39, byt39, elem39, arr39, int39, zer39, str39, und39⟩
theorem t42 : (aggT Tryd.prog 42 = some false) ∧ (sizT Tryd.prog 42 = some 1) ∧ (bytT Tryd.prog 42 = some 8) ∧ (elemT Tryd.prog 42 = none) ∧ (arrT Tryd.prog 42 = none) ∧ (intT Tryd.prog 42 = some .i64) ∧ (zerT Tryd.prog 42 = some [.int .i64 0]) ∧ (strT Tryd.prog 42 = false) ∧ ((Tryd.prog.underlying 42).isSome = true) := ⟨agg42, siz42, byt42, elem42, arr42, int42, zer42, str42, und42⟩
theorem t43 : (aggT Tryd.prog 43 = some true) ∧ (sizT Tryd.prog 43 = some 8) ∧ (bytT Tryd.prog 43 = some 8) ∧ (elemT Tryd.prog 43 = none) ∧ (arrT Tryd.prog 43 = some (8, 5)) ∧ (intT Tryd.prog 43 = none) ∧ (zerT Tryd.prog 43 = some [.int .u8 0, .int .u8 0, .int .u8 0, .int .u8 0, .int .u8 0, .int .u8 0, .int .u8 0, .int .u8 0]) ∧ (kdT Tryd.prog 60 43 = some [.int .u8, .int .u8, .int .u8, .int .u8, .int .u8, .int .u8, .int .u8, .int .u8]) ∧ (Tryd.prog.eqGuardType (Tryd.prog.depth) 43 = false) ∧ (sizesOk Tryd.prog 43 = true) ∧ (placeT Tryd.prog 43 0 = some (0, 1)) ∧ (placeT Tryd.prog 43 1 = some (1, 1)) ∧ (placeT Tryd.prog 43 2 = some (2, 1)) ∧ (placeT Tryd.prog 43 3 = some (3, 1)) ∧ (placeT Tryd.prog 43 4 = some (4, 1)) ∧ (placeT Tryd.prog 43 5 = some (5, 1)) ∧ (placeT Tryd.prog 43 6 = some (6, 1)) ∧ (placeT Tryd.prog 43 7 = some (7, 1)) ∧ (placeT Tryd.prog 43 8 = some (8, 1)) ∧ (placeT Tryd.prog 43 9 = some (9, 1)) ∧ (placeT Tryd.prog 43 10 = some (10, 1)) ∧ (placeT Tryd.prog 43 11 = some (11, 1)) ∧ (strT Tryd.prog 43 = false) ∧ ((Tryd.prog.underlying 43).isSome = true) := ⟨agg43, siz43, byt43, elem43, arr43, int43, zer43, kd43, eqg43, szs43, plc43_0, plc43_1, plc43_2, plc43_3, plc43_4, plc43_5, plc43_6, plc43_7, plc43_8, plc43_9, plc43_10, plc43_11, str43, und43⟩
theorem t45 : (aggT Tryd.prog 45 = some true) ∧ (sizT Tryd.prog 45 = some 11) ∧ (bytT Tryd.prog 45 = some 32) ∧ (elemT Tryd.prog 45 = none) ∧ (arrT Tryd.prog 45 = none) ∧ (intT Tryd.prog 45 = none) ∧ (zerT Tryd.prog 45 = some [.int .i64 0, .int .i64 0, .int .i64 0, .int .u8 0, .int .u8 0, .int .u8 0, .int .u8 0, .int .u8 0, .int .u8 0, .int .u8 0, .int .u8 0]) ∧ (kdT Tryd.prog 60 45 = some [.int .i64, .int .i64, .int .i64, .int .u8, .int .u8, .int .u8, .int .u8, .int .u8, .int .u8, .int .u8, .int .u8]) ∧ (Tryd.prog.eqGuardType (Tryd.prog.depth) 45 = false) ∧ (sizesOk Tryd.prog 45 = true) ∧ (placeT Tryd.prog 45 0 = some (0, 1)) ∧ (placeT Tryd.prog 45 1 = some (1, 1)) ∧ (placeT Tryd.prog 45 2 = some (2, 1)) ∧ (placeT Tryd.prog 45 3 = some (3, 8)) ∧ (strT Tryd.prog 45 = false) ∧ (fldT Tryd.prog 45 0 = some (0, 42)) ∧ (fldT Tryd.prog 45 1 = some (1, 3)) ∧ (fldT Tryd.prog 45 2 = some (2, 3)) ∧ (fldT Tryd.prog 45 3 = some (3, 43)) ∧ ((Tryd.prog.underlying 45).isSome = true) := ⟨agg45, siz45, byt45, elem45, arr45, int45, zer45, kd45, eqg45, szs45, plc45_0, plc45_1, plc45_2, plc45_3, str45, fld45_0, fld45_1, fld45_2, fld45_3, und45⟩
theorem t52 : (aggT Tryd.prog 52 = some false) ∧ (sizT Tryd.prog 52 = some 1) ∧ (bytT Tryd.prog 52 = some 24) ∧ (elemT Tryd.prog 52 = some 9) ∧ (arrT Tryd.prog 52 = none) ∧ (intT Tryd.prog 52 = none) ∧ (zerT Tryd.prog 52 = some [.slice none 0 0]) ∧ (strT Tryd.prog 52 = false) ∧ ((Tryd.prog.underlying 52).isSome = true) := ⟨agg52, siz52, byt52, elem52, arr52, int52, zer52, str52, und52⟩
theorem t53 : (aggT Tryd.prog 53 = some false) ∧ (sizT Tryd.prog 53 = some 1) ∧ (bytT Tryd.prog 53 = some 8) ∧ (elemT Tryd.prog 53 = none) ∧ (arrT Tryd.prog 53 = none) ∧ (intT Tryd.prog 53 = some .i64) ∧ (zerT Tryd.prog 53 = some [.int .i64 0]) ∧ (strT Tryd.prog 53 = false) ∧ ((Tryd.prog.underlying 53).isSome = true) := ⟨agg53, siz53, byt53, elem53, arr53, int53, zer53, str53, und53⟩
theorem t55 : (aggT Tryd.prog 55 = some true) ∧ (sizT Tryd.prog 55 = some 7) ∧ (bytT Tryd.prog 55 = some 56) ∧ (elemT Tryd.prog 55 = none) ∧ (arrT Tryd.prog 55 = none) ∧ (intT Tryd.prog 55 = none) ∧ (zerT Tryd.prog 55 = some [.int .i64 0, .int .i64 0, .int .i64 0, .int .i64 0, .int .i64 0, .int .i64 0, .int .i64 0]) ∧ (kdT Tryd.prog 60 55 = some [.int .i64, .int .i64, .int .i64, .int .i64, .int .i64, .int .i64, .int .i64]) ∧ (Tryd.prog.eqGuardType (Tryd.prog.depth) 55 = false) ∧ (sizesOk Tryd.prog 55 = true) ∧ (placeT Tryd.prog 55 0 = some (0, 1)) ∧ (placeT Tryd.prog 55 1 = some (1, 1)) ∧ (placeT Tryd.prog 55 2 = some (2, 1)) ∧ (placeT Tryd.prog 55 3 = some (3, 1)) ∧ (placeT Tryd.prog 55 4 = some (4, 1)) ∧ (placeT Tryd.prog 55 5 = some (5, 1)) ∧ (placeT Tryd.prog 55 6 = some (6, 1)) ∧ (strT Tryd.prog 55 = false) ∧ (fldT Tryd.prog 55 0 = some (0, 3)) ∧ (fldT Tryd.prog 55 1 = some (1, 3)) ∧ (fldT Tryd.prog 55 2 = some (2, 53)) ∧ (fldT Tryd.prog 55 3 = some (3, 2)) ∧ (fldT Tryd.prog 55 4 = some (4, 2)) ∧ (fldT Tryd.prog 55 5 = some (5, 3)) ∧ (fldT Tryd.prog 55 6 = some (6, 3)) ∧ ((Tryd.prog.underlying 55).isSome = true) := ⟨agg55, siz55, byt55, elem55, arr55, int55, zer55, kd55, eqg55, szs55, plc55_0, plc55_1, plc55_2, plc55_3, plc55_4, plc55_5, plc55_6, str55, fld55_0, fld55_1, fld55_2, fld55_3, fld55_4, fld55_5, fld55_6, und55⟩
theorem t60 : (aggT Tryd.prog 60 = some true) ∧ (sizT Tryd.prog 60 = some 11) ∧ (bytT Tryd.prog 60 = some 120) ∧ (elemT Tryd.prog 60 = none) ∧ (arrT Tryd.prog 60 = none) ∧ (intT Tryd.prog 60 = none) ∧ (zerT Tryd.prog 60 = some [.int .i64 0, .slice none 0 0, .int .i64 0, .int .i64 0, .int .i64 0, .int .i64 0, .int .i64 0, .int .i64 0, .int .i64 0, .int .i64 0, .slice none 0 0]) ∧ (Tryd.prog.eqGuardType (Tryd.prog.depth) 60 = false) ∧ (sizesOk Tryd.prog 60 = true) ∧ (placeT Tryd.prog 60 0 = some (0, 10)) ∧ (placeT Tryd.prog 60 1 = some (10, 1)) ∧ (strT Tryd.prog 60 = false) ∧ (fldT Tryd.prog 60 0 = some (0, 26)) ∧ (fldT Tryd.prog 60 1 = some (10, 27)) ∧ ((Tryd.prog.underlying 60).isSome = true) := ⟨agg60, siz60, byt60, elem60, arr60, int60, zer60, eqg60, szs60, plc60_0, plc60_1, str60, fld60_0, fld60_1, und60⟩
theorem t68 : (aggT Tryd.prog 68 = some false) ∧ (sizT Tryd.prog 68 = some 1) ∧ (bytT Tryd.prog 68 = some 24) ∧ (elemT Tryd.prog 68 = some 2) ∧ (arrT Tryd.prog 68 = none) ∧ (intT Tryd.prog 68 = none) ∧ (zerT Tryd.prog 68 = some [.slice none 0 0]) ∧ (strT Tryd.prog 68 = false) ∧ ((Tryd.prog.underlying 68).isSome = true) := ⟨agg68, siz68, byt68, elem68, arr68, int68, zer68, str68, und68⟩
theorem t74 : (aggT Tryd.prog 74 = some true) ∧ (sizT Tryd.prog 74 = some 3) ∧ (bytT Tryd.prog 74 = some 24) ∧ (elemT Tryd.prog 74 = none) ∧ (arrT Tryd.prog 74 = none) ∧ (intT Tryd.prog 74 = none) ∧ (zerT Tryd.prog 74 = some [.int .i64 0, .int .i64 0, .int .i64 0]) ∧ (kdT Tryd.prog 60 74 = some [.int .i64, .int .i64, .int .i64]) ∧ (Tryd.prog.eqGuardType (Tryd.prog.depth) 74 = false) ∧ (sizesOk Tryd.prog 74 = true) ∧ (placeT Tryd.prog 74 0 = some (0, 2)) ∧ (placeT Tryd.prog 74 1 = some (2, 1)) ∧ (strT Tryd.prog 74 = false) ∧ (fldT Tryd.prog 74 0 = some (0, 24)) ∧ (fldT Tryd.prog 74 1 = some (2, 2)) ∧ ((Tryd.prog.underlying 74).isSome = true) := ⟨agg74, siz74, byt74, elem74, arr74, int74, zer74, kd74, eqg74, szs74, plc74_0, plc74_1, str74, fld74_0, fld74_1, und74⟩
theorem t78 : (aggT Tryd.prog 78 = some true) ∧ (sizT Tryd.prog 78 = some 3) ∧ (bytT Tryd.prog 78 = some 24) ∧ (elemT Tryd.prog 78 = none) ∧ (arrT Tryd.prog 78 = none) ∧ (intT Tryd.prog 78 = none) ∧ (zerT Tryd.prog 78 = some [.int .i64 0, .int .i64 0, .int .i64 0]) ∧ (kdT Tryd.prog 60 78 = some [.int .i64, .int .i64, .int .i64]) ∧ (Tryd.prog.eqGuardType (Tryd.prog.depth) 78 = false) ∧ (sizesOk Tryd.prog 78 = true) ∧ (placeT Tryd.prog 78 0 = some (0, 1)) ∧ (placeT Tryd.prog 78 1 = some (1, 1)) ∧ (placeT Tryd.prog 78 2 = some (2, 1)) ∧ (strT Tryd.prog 78 = false) ∧ (fldT Tryd.prog 78 0 = some (0, 3)) ∧ (fldT Tryd.prog 78 1 = some (1, 3)) ∧ (fldT Tryd.prog 78 2 = some (2, 3)) ∧ ((Tryd.prog.underlying 78).isSome = true) := ⟨agg78, siz78, byt78, elem78, arr78, int78, zer78, kd78, eqg78, szs78, plc78_0, plc78_1, plc78_2, str78, fld78_0, fld78_1, fld78_2, und78⟩
theorem t96 : (aggT Tryd.prog 96 = some false) ∧ (sizT Tryd.prog 96 = some 1) ∧ (bytT Tryd.prog 96 = some 8) ∧ (elemT Tryd.prog 96 = none) ∧ (arrT Tryd.prog 96 = none) ∧ (intT Tryd.prog 96 = none) ∧ (zerT Tryd.prog 96 = some [.pointer none]) ∧ (strT Tryd.prog 96 = false) ∧ ((Tryd.prog.underlying 96).isSome = true) := ⟨agg96, siz96, byt96, elem96, arr96, int96, zer96, str96, und96⟩
theorem t98 : (aggT Tryd.prog 98 = some false) ∧ (sizT Tryd.prog 98 = some 1) ∧ (bytT Tryd.prog 98 = some 8) ∧ (elemT Tryd.prog 98 = none) ∧ (arrT Tryd.prog 98 = none) ∧ (intT Tryd.prog 98 = none) ∧ (zerT Tryd.prog 98 = some [.pointer none]) ∧ (strT Tryd.prog 98 = false) ∧ ((Tryd.prog.underlying 98).isSome = true) := ⟨agg98, siz98, byt98, elem98, arr98, int98, zer98, str98, und98⟩
theorem t104 : (aggT Tryd.prog 104 = some false) ∧ (sizT Tryd.prog 104 = some 1) ∧ (bytT Tryd.prog 104 = some 8) ∧ (elemT Tryd.prog 104 = none) ∧ (arrT Tryd.prog 104 = none) ∧ (intT Tryd.prog 104 = some .u64) ∧ (zerT Tryd.prog 104 = some [.int .u64 0]) ∧ (strT Tryd.prog 104 = false) ∧ ((Tryd.prog.underlying 104).isSome = true) := ⟨agg104, siz104, byt104, elem104, arr104, int104, zer104, str104, und104⟩
theorem t108 : (aggT Tryd.prog 108 = some false) ∧ (sizT Tryd.prog 108 = some 1) ∧ (bytT Tryd.prog 108 = some 8) ∧ (elemT Tryd.prog 108 = none) ∧ (arrT Tryd.prog 108 = none) ∧ (intT Tryd.prog 108 = none) ∧ (zerT Tryd.prog 108 = some [.nilFunc]) ∧ (strT Tryd.prog 108 = false) ∧ ((Tryd.prog.underlying 108).isSome = true) := ⟨agg108, siz108, byt108, elem108, arr108, int108, zer108, str108, und108⟩
theorem t118 : (aggT Tryd.prog 118 = some false) ∧ (sizT Tryd.prog 118 = some 1) ∧ (bytT Tryd.prog 118 = some 8) ∧ (elemT Tryd.prog 118 = none) ∧ (arrT Tryd.prog 118 = none) ∧ (intT Tryd.prog 118 = none) ∧ (zerT Tryd.prog 118 = some [.pointer none]) ∧ (strT Tryd.prog 118 = false) ∧ ((Tryd.prog.underlying 118).isSome = true) := ⟨agg118, siz118, byt118, elem118, arr118, int118, zer118, str118, und118⟩
theorem t120 : (aggT Tryd.prog 120 = some true) ∧ (sizT Tryd.prog 120 = some 6) ∧ (bytT Tryd.prog 120 = some 96) ∧ (elemT Tryd.prog 120 = none) ∧ (arrT Tryd.prog 120 = some (6, 9)) ∧ (intT Tryd.prog 120 = none) ∧ (zerT Tryd.prog 120 = some [.string ByteArray.empty, .string ByteArray.empty, .string ByteArray.empty, .string ByteArray.empty, .string ByteArray.empty, .string ByteArray.empty]) ∧ (kdT Tryd.prog 60 120 = some [.str, .str, .str, .str, .str, .str]) ∧ (Tryd.prog.eqGuardType (Tryd.prog.depth) 120 = false) ∧ (sizesOk Tryd.prog 120 = true) ∧ (placeT Tryd.prog 120 0 = some (0, 1)) ∧ (placeT Tryd.prog 120 1 = some (1, 1)) ∧ (placeT Tryd.prog 120 2 = some (2, 1)) ∧ (placeT Tryd.prog 120 3 = some (3, 1)) ∧ (placeT Tryd.prog 120 4 = some (4, 1)) ∧ (placeT Tryd.prog 120 5 = some (5, 1)) ∧ (placeT Tryd.prog 120 6 = some (6, 1)) ∧ (placeT Tryd.prog 120 7 = some (7, 1)) ∧ (placeT Tryd.prog 120 8 = some (8, 1)) ∧ (placeT Tryd.prog 120 9 = some (9, 1)) ∧ (placeT Tryd.prog 120 10 = some (10, 1)) ∧ (placeT Tryd.prog 120 11 = some (11, 1)) ∧ (strT Tryd.prog 120 = false) ∧ ((Tryd.prog.underlying 120).isSome = true) := ⟨agg120, siz120, byt120, elem120, arr120, int120, zer120, kd120, eqg120, szs120, plc120_0, plc120_1, plc120_2, plc120_3, plc120_4, plc120_5, plc120_6, plc120_7, plc120_8, plc120_9, plc120_10, plc120_11, str120, und120⟩
theorem t122 : (aggT Tryd.prog 122 = some false) ∧ (sizT Tryd.prog 122 = some 1) ∧ (bytT Tryd.prog 122 = some 8) ∧ (elemT Tryd.prog 122 = none) ∧ (arrT Tryd.prog 122 = none) ∧ (intT Tryd.prog 122 = none) ∧ (zerT Tryd.prog 122 = some [.pointer none]) ∧ (strT Tryd.prog 122 = false) ∧ ((Tryd.prog.underlying 122).isSome = true) := ⟨agg122, siz122, byt122, elem122, arr122, int122, zer122, str122, und122⟩
theorem t124 : (aggT Tryd.prog 124 = some false) ∧ (sizT Tryd.prog 124 = some 1) ∧ (bytT Tryd.prog 124 = some 8) ∧ (elemT Tryd.prog 124 = none) ∧ (arrT Tryd.prog 124 = none) ∧ (intT Tryd.prog 124 = none) ∧ (zerT Tryd.prog 124 = some [.pointer none]) ∧ (strT Tryd.prog 124 = false) ∧ ((Tryd.prog.underlying 124).isSome = true) := ⟨agg124, siz124, byt124, elem124, arr124, int124, zer124, str124, und124⟩
theorem t128 : (aggT Tryd.prog 128 = some true) ∧ (sizT Tryd.prog 128 = some 2) ∧ (bytT Tryd.prog 128 = some 32) ∧ (elemT Tryd.prog 128 = none) ∧ (arrT Tryd.prog 128 = none) ∧ (intT Tryd.prog 128 = none) ∧ (zerT Tryd.prog 128 = some [.slice none 0 0, .bool false]) ∧ (Tryd.prog.eqGuardType (Tryd.prog.depth) 128 = false) ∧ (sizesOk Tryd.prog 128 = true) ∧ (placeT Tryd.prog 128 0 = some (0, 1)) ∧ (placeT Tryd.prog 128 1 = some (1, 1)) ∧ (strT Tryd.prog 128 = false) ∧ (fldT Tryd.prog 128 0 = some (0, 52)) ∧ (fldT Tryd.prog 128 1 = some (1, 4)) ∧ ((Tryd.prog.underlying 128).isSome = true) := ⟨agg128, siz128, byt128, elem128, arr128, int128, zer128, eqg128, szs128, plc128_0, plc128_1, str128, fld128_0, fld128_1, und128⟩
theorem t133 : (aggT Tryd.prog 133 = some true) ∧ (sizT Tryd.prog 133 = some 4) ∧ (bytT Tryd.prog 133 = some 32) ∧ (elemT Tryd.prog 133 = none) ∧ (arrT Tryd.prog 133 = none) ∧ (intT Tryd.prog 133 = none) ∧ (zerT Tryd.prog 133 = some [.int .i64 0, .int .i64 0, .int .i64 0, .int .i64 0]) ∧ (kdT Tryd.prog 60 133 = some [.int .i64, .int .i64, .int .i64, .int .i64]) ∧ (Tryd.prog.eqGuardType (Tryd.prog.depth) 133 = false) ∧ (sizesOk Tryd.prog 133 = true) ∧ (placeT Tryd.prog 133 0 = some (0, 1)) ∧ (placeT Tryd.prog 133 1 = some (1, 1)) ∧ (placeT Tryd.prog 133 2 = some (2, 1)) ∧ (placeT Tryd.prog 133 3 = some (3, 1)) ∧ (strT Tryd.prog 133 = false) ∧ (fldT Tryd.prog 133 0 = some (0, 53)) ∧ (fldT Tryd.prog 133 1 = some (1, 3)) ∧ (fldT Tryd.prog 133 2 = some (2, 3)) ∧ (fldT Tryd.prog 133 3 = some (3, 3)) ∧ ((Tryd.prog.underlying 133).isSome = true) := ⟨agg133, siz133, byt133, elem133, arr133, int133, zer133, kd133, eqg133, szs133, plc133_0, plc133_1, plc133_2, plc133_3, str133, fld133_0, fld133_1, fld133_2, fld133_3, und133⟩
theorem t141 : (aggT Tryd.prog 141 = some false) ∧ (sizT Tryd.prog 141 = some 1) ∧ (bytT Tryd.prog 141 = some 24) ∧ (elemT Tryd.prog 141 = some 122) ∧ (arrT Tryd.prog 141 = none) ∧ (intT Tryd.prog 141 = none) ∧ (zerT Tryd.prog 141 = some [.slice none 0 0]) ∧ (strT Tryd.prog 141 = false) ∧ ((Tryd.prog.underlying 141).isSome = true) := ⟨agg141, siz141, byt141, elem141, arr141, int141, zer141, str141, und141⟩
theorem t144 : (aggT Tryd.prog 144 = some false) ∧ (sizT Tryd.prog 144 = some 1) ∧ (bytT Tryd.prog 144 = some 24) ∧ (elemT Tryd.prog 144 = some 124) ∧ (arrT Tryd.prog 144 = none) ∧ (intT Tryd.prog 144 = none) ∧ (zerT Tryd.prog 144 = some [.slice none 0 0]) ∧ (strT Tryd.prog 144 = false) ∧ ((Tryd.prog.underlying 144).isSome = true) := ⟨agg144, siz144, byt144, elem144, arr144, int144, zer144, str144, und144⟩
theorem t145 : (aggT Tryd.prog 145 = some false) ∧ (sizT Tryd.prog 145 = some 1) ∧ (bytT Tryd.prog 145 = some 4) ∧ (elemT Tryd.prog 145 = none) ∧ (arrT Tryd.prog 145 = none) ∧ (intT Tryd.prog 145 = some .u32) ∧ (zerT Tryd.prog 145 = some [.int .u32 0]) ∧ (strT Tryd.prog 145 = false) ∧ ((Tryd.prog.underlying 145).isSome = true) := ⟨agg145, siz145, byt145, elem145, arr145, int145, zer145, str145, und145⟩
end Go.Proofs.YthjpfllmecpliaaDoor.Ty
