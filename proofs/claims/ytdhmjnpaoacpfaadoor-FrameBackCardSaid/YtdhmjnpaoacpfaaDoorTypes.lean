/- Facts of this seat's types, each asked of the kernel. -/
import Derived.Test.YtdhmjnpaoacpfaaDoorProg
import Derived.Test.YtdhmjnpaoacpfaaDoorAbC
import Derived.KernelRfl
set_option linter.all false
namespace Go.Proofs.YtdhmjnpaoacpfaaDoor.Ty
open Go Go.Ab
theorem agg0 : aggT Tryd.prog 0 = some false := by kernel_rfl
theorem siz0 : sizT Tryd.prog 0 = some 1 := by kernel_rfl
theorem byt0 : bytT Tryd.prog 0 = some 0 := by kernel_rfl
theorem elem0 : elemT Tryd.prog 0 = none := by kernel_rfl
theorem arr0 : arrT Tryd.prog 0 = none := by kernel_rfl
theorem int0 : intT Tryd.prog 0 = none := by kernel_rfl
theorem str0 : strT Tryd.prog 0 = false := by kernel_rfl
theorem agg1 : aggT Tryd.prog 1 = some false := by kernel_rfl
theorem siz1 : sizT Tryd.prog 1 = some 1 := by kernel_rfl
theorem byt1 : bytT Tryd.prog 1 = some 8 := by kernel_rfl
theorem elem1 : elemT Tryd.prog 1 = none := by kernel_rfl
theorem arr1 : arrT Tryd.prog 1 = none := by kernel_rfl
theorem int1 : intT Tryd.prog 1 = none := by kernel_rfl
theorem zer1 : zerT Tryd.prog 1 = some [.nilFunc] := by kernel_rfl
theorem str1 : strT Tryd.prog 1 = false := by kernel_rfl
theorem agg2 : aggT Tryd.prog 2 = some false := by kernel_rfl
theorem siz2 : sizT Tryd.prog 2 = some 1 := by kernel_rfl
theorem byt2 : bytT Tryd.prog 2 = some 8 := by kernel_rfl
theorem elem2 : elemT Tryd.prog 2 = none := by kernel_rfl
theorem arr2 : arrT Tryd.prog 2 = none := by kernel_rfl
theorem int2 : intT Tryd.prog 2 = some .i64 := by kernel_rfl
theorem zer2 : zerT Tryd.prog 2 = some [.int .i64 0] := by kernel_rfl
theorem str2 : strT Tryd.prog 2 = false := by kernel_rfl
theorem agg3 : aggT Tryd.prog 3 = some false := by kernel_rfl
theorem siz3 : sizT Tryd.prog 3 = some 1 := by kernel_rfl
theorem byt3 : bytT Tryd.prog 3 = some 8 := by kernel_rfl
theorem elem3 : elemT Tryd.prog 3 = none := by kernel_rfl
theorem arr3 : arrT Tryd.prog 3 = none := by kernel_rfl
theorem int3 : intT Tryd.prog 3 = some .i64 := by kernel_rfl
theorem zer3 : zerT Tryd.prog 3 = some [.int .i64 0] := by kernel_rfl
theorem str3 : strT Tryd.prog 3 = false := by kernel_rfl
theorem agg4 : aggT Tryd.prog 4 = some false := by kernel_rfl
theorem siz4 : sizT Tryd.prog 4 = some 1 := by kernel_rfl
theorem byt4 : bytT Tryd.prog 4 = some 1 := by kernel_rfl
theorem elem4 : elemT Tryd.prog 4 = none := by kernel_rfl
theorem arr4 : arrT Tryd.prog 4 = none := by kernel_rfl
theorem int4 : intT Tryd.prog 4 = none := by kernel_rfl
theorem zer4 : zerT Tryd.prog 4 = some [.bool false] := by kernel_rfl
theorem str4 : strT Tryd.prog 4 = false := by kernel_rfl
theorem agg5 : aggT Tryd.prog 5 = some false := by kernel_rfl
theorem siz5 : sizT Tryd.prog 5 = some 1 := by kernel_rfl
theorem byt5 : bytT Tryd.prog 5 = some 1 := by kernel_rfl
theorem elem5 : elemT Tryd.prog 5 = none := by kernel_rfl
theorem arr5 : arrT Tryd.prog 5 = none := by kernel_rfl
theorem int5 : intT Tryd.prog 5 = some .u8 := by kernel_rfl
theorem zer5 : zerT Tryd.prog 5 = some [.int .u8 0] := by kernel_rfl
theorem str5 : strT Tryd.prog 5 = false := by kernel_rfl
theorem agg6 : aggT Tryd.prog 6 = some false := by kernel_rfl
theorem siz6 : sizT Tryd.prog 6 = some 1 := by kernel_rfl
theorem byt6 : bytT Tryd.prog 6 = some 1 := by kernel_rfl
theorem elem6 : elemT Tryd.prog 6 = none := by kernel_rfl
theorem arr6 : arrT Tryd.prog 6 = none := by kernel_rfl
theorem int6 : intT Tryd.prog 6 = some .u8 := by kernel_rfl
theorem zer6 : zerT Tryd.prog 6 = some [.int .u8 0] := by kernel_rfl
theorem str6 : strT Tryd.prog 6 = false := by kernel_rfl
theorem agg8 : aggT Tryd.prog 8 = some true := by kernel_rfl
theorem siz8 : sizT Tryd.prog 8 = some 4 := by kernel_rfl
theorem byt8 : bytT Tryd.prog 8 = some 24 := by kernel_rfl
theorem elem8 : elemT Tryd.prog 8 = none := by kernel_rfl
theorem arr8 : arrT Tryd.prog 8 = none := by kernel_rfl
theorem int8 : intT Tryd.prog 8 = none := by kernel_rfl
theorem zer8 : zerT Tryd.prog 8 = some [.int .i64 0, .int .i64 0, .bool false, .int .u8 0] := by kernel_rfl
theorem kd8 : kdT Tryd.prog 60 8 = some [.int .i64, .int .i64, .bool, .int .u8] := by kernel_rfl
theorem eqg8 : Tryd.prog.eqGuardType (Tryd.prog.depth) 8 = false := by kernel_rfl
theorem szs8 : sizesOk Tryd.prog 8 = true := by kernel_rfl
theorem plc8_0 : placeT Tryd.prog 8 0 = some (0, 1) := by kernel_rfl
theorem plc8_1 : placeT Tryd.prog 8 1 = some (1, 1) := by kernel_rfl
theorem plc8_2 : placeT Tryd.prog 8 2 = some (2, 1) := by kernel_rfl
theorem plc8_3 : placeT Tryd.prog 8 3 = some (3, 1) := by kernel_rfl
theorem str8 : strT Tryd.prog 8 = false := by kernel_rfl
theorem fld8_0 : fldT Tryd.prog 8 0 = some (0, 2) := by kernel_rfl
theorem fld8_1 : fldT Tryd.prog 8 1 = some (1, 3) := by kernel_rfl
theorem fld8_2 : fldT Tryd.prog 8 2 = some (2, 4) := by kernel_rfl
theorem fld8_3 : fldT Tryd.prog 8 3 = some (3, 6) := by kernel_rfl
theorem agg9 : aggT Tryd.prog 9 = some false := by kernel_rfl
theorem siz9 : sizT Tryd.prog 9 = some 1 := by kernel_rfl
theorem byt9 : bytT Tryd.prog 9 = some 16 := by kernel_rfl
theorem elem9 : elemT Tryd.prog 9 = none := by kernel_rfl
theorem arr9 : arrT Tryd.prog 9 = none := by kernel_rfl
theorem int9 : intT Tryd.prog 9 = none := by kernel_rfl
theorem zer9 : zerT Tryd.prog 9 = some [.string ByteArray.empty] := by kernel_rfl
theorem str9 : strT Tryd.prog 9 = true := by kernel_rfl
theorem agg21 : aggT Tryd.prog 21 = some false := by kernel_rfl
theorem siz21 : sizT Tryd.prog 21 = some 1 := by kernel_rfl
theorem byt21 : bytT Tryd.prog 21 = some 4 := by kernel_rfl
theorem elem21 : elemT Tryd.prog 21 = none := by kernel_rfl
theorem arr21 : arrT Tryd.prog 21 = none := by kernel_rfl
theorem int21 : intT Tryd.prog 21 = some .i32 := by kernel_rfl
theorem zer21 : zerT Tryd.prog 21 = some [.int .i32 0] := by kernel_rfl
theorem str21 : strT Tryd.prog 21 = false := by kernel_rfl
theorem agg22 : aggT Tryd.prog 22 = some false := by kernel_rfl
theorem siz22 : sizT Tryd.prog 22 = some 1 := by kernel_rfl
theorem byt22 : bytT Tryd.prog 22 = some 4 := by kernel_rfl
theorem elem22 : elemT Tryd.prog 22 = none := by kernel_rfl
theorem arr22 : arrT Tryd.prog 22 = none := by kernel_rfl
theorem int22 : intT Tryd.prog 22 = some .u32 := by kernel_rfl
theorem zer22 : zerT Tryd.prog 22 = some [.int .u32 0] := by kernel_rfl
theorem str22 : strT Tryd.prog 22 = false := by kernel_rfl
theorem agg24 : aggT Tryd.prog 24 = some true := by kernel_rfl
theorem siz24 : sizT Tryd.prog 24 = some 2 := by kernel_rfl
theorem byt24 : bytT Tryd.prog 24 = some 8 := by kernel_rfl
theorem elem24 : elemT Tryd.prog 24 = none := by kernel_rfl
theorem arr24 : arrT Tryd.prog 24 = none := by kernel_rfl
theorem int24 : intT Tryd.prog 24 = none := by kernel_rfl
theorem zer24 : zerT Tryd.prog 24 = some [.bool false, .int .u32 0] := by kernel_rfl
theorem kd24 : kdT Tryd.prog 60 24 = some [.bool, .int .u32] := by kernel_rfl
theorem eqg24 : Tryd.prog.eqGuardType (Tryd.prog.depth) 24 = false := by kernel_rfl
theorem szs24 : sizesOk Tryd.prog 24 = true := by kernel_rfl
theorem plc24_0 : placeT Tryd.prog 24 0 = some (0, 1) := by kernel_rfl
theorem plc24_1 : placeT Tryd.prog 24 1 = some (1, 1) := by kernel_rfl
theorem str24 : strT Tryd.prog 24 = false := by kernel_rfl
theorem fld24_0 : fldT Tryd.prog 24 0 = some (0, 4) := by kernel_rfl
theorem fld24_1 : fldT Tryd.prog 24 1 = some (1, 22) := by kernel_rfl
theorem agg25 : aggT Tryd.prog 25 = some true := by kernel_rfl
theorem siz25 : sizT Tryd.prog 25 = some 8 := by kernel_rfl
theorem byt25 : bytT Tryd.prog 25 = some 8 := by kernel_rfl
theorem elem25 : elemT Tryd.prog 25 = none := by kernel_rfl
theorem arr25 : arrT Tryd.prog 25 = some (8, 5) := by kernel_rfl
theorem int25 : intT Tryd.prog 25 = none := by kernel_rfl
theorem zer25 : zerT Tryd.prog 25 = some [.int .u8 0, .int .u8 0, .int .u8 0, .int .u8 0, .int .u8 0, .int .u8 0, .int .u8 0, .int .u8 0] := by kernel_rfl
theorem kd25 : kdT Tryd.prog 60 25 = some [.int .u8, .int .u8, .int .u8, .int .u8, .int .u8, .int .u8, .int .u8, .int .u8] := by kernel_rfl
theorem eqg25 : Tryd.prog.eqGuardType (Tryd.prog.depth) 25 = false := by kernel_rfl
theorem szs25 : sizesOk Tryd.prog 25 = true := by kernel_rfl
theorem plc25_0 : placeT Tryd.prog 25 0 = some (0, 1) := by kernel_rfl
theorem plc25_1 : placeT Tryd.prog 25 1 = some (1, 1) := by kernel_rfl
theorem plc25_2 : placeT Tryd.prog 25 2 = some (2, 1) := by kernel_rfl
theorem plc25_3 : placeT Tryd.prog 25 3 = some (3, 1) := by kernel_rfl
theorem plc25_4 : placeT Tryd.prog 25 4 = some (4, 1) := by kernel_rfl
theorem plc25_5 : placeT Tryd.prog 25 5 = some (5, 1) := by kernel_rfl
theorem plc25_6 : placeT Tryd.prog 25 6 = some (6, 1) := by kernel_rfl
theorem plc25_7 : placeT Tryd.prog 25 7 = some (7, 1) := by kernel_rfl
theorem plc25_8 : placeT Tryd.prog 25 8 = some (8, 1) := by kernel_rfl
theorem plc25_9 : placeT Tryd.prog 25 9 = some (9, 1) := by kernel_rfl
theorem plc25_10 : placeT Tryd.prog 25 10 = some (10, 1) := by kernel_rfl
theorem plc25_11 : placeT Tryd.prog 25 11 = some (11, 1) := by kernel_rfl
theorem str25 : strT Tryd.prog 25 = false := by kernel_rfl
theorem agg27 : aggT Tryd.prog 27 = some true := by kernel_rfl
theorem siz27 : sizT Tryd.prog 27 = some 12 := by kernel_rfl
theorem byt27 : bytT Tryd.prog 27 = some 32 := by kernel_rfl
theorem elem27 : elemT Tryd.prog 27 = none := by kernel_rfl
theorem arr27 : arrT Tryd.prog 27 = none := by kernel_rfl
theorem int27 : intT Tryd.prog 27 = none := by kernel_rfl
theorem zer27 : zerT Tryd.prog 27 = some [.bool false, .int .u32 0, .bool false, .int .i64 0, .int .u8 0, .int .u8 0, .int .u8 0, .int .u8 0, .int .u8 0, .int .u8 0, .int .u8 0, .int .u8 0] := by kernel_rfl
theorem kd27 : kdT Tryd.prog 60 27 = some [.bool, .int .u32, .bool, .int .i64, .int .u8, .int .u8, .int .u8, .int .u8, .int .u8, .int .u8, .int .u8, .int .u8] := by kernel_rfl
theorem eqg27 : Tryd.prog.eqGuardType (Tryd.prog.depth) 27 = false := by kernel_rfl
theorem szs27 : sizesOk Tryd.prog 27 = true := by kernel_rfl
theorem plc27_0 : placeT Tryd.prog 27 0 = some (0, 2) := by kernel_rfl
theorem plc27_1 : placeT Tryd.prog 27 1 = some (2, 1) := by kernel_rfl
theorem plc27_2 : placeT Tryd.prog 27 2 = some (3, 1) := by kernel_rfl
theorem plc27_3 : placeT Tryd.prog 27 3 = some (4, 8) := by kernel_rfl
theorem str27 : strT Tryd.prog 27 = false := by kernel_rfl
theorem fld27_0 : fldT Tryd.prog 27 0 = some (0, 24) := by kernel_rfl
theorem fld27_1 : fldT Tryd.prog 27 1 = some (2, 4) := by kernel_rfl
theorem fld27_2 : fldT Tryd.prog 27 2 = some (3, 3) := by kernel_rfl
theorem fld27_3 : fldT Tryd.prog 27 3 = some (4, 25) := by kernel_rfl
theorem agg31 : aggT Tryd.prog 31 = some false := by kernel_rfl
theorem siz31 : sizT Tryd.prog 31 = some 1 := by kernel_rfl
theorem byt31 : bytT Tryd.prog 31 = some 8 := by kernel_rfl
theorem elem31 : elemT Tryd.prog 31 = none := by kernel_rfl
theorem arr31 : arrT Tryd.prog 31 = none := by kernel_rfl
theorem int31 : intT Tryd.prog 31 = some .i64 := by kernel_rfl
theorem zer31 : zerT Tryd.prog 31 = some [.int .i64 0] := by kernel_rfl
theorem str31 : strT Tryd.prog 31 = false := by kernel_rfl
theorem agg34 : aggT Tryd.prog 34 = some false := by kernel_rfl
theorem siz34 : sizT Tryd.prog 34 = some 1 := by kernel_rfl
theorem byt34 : bytT Tryd.prog 34 = some 24 := by kernel_rfl
theorem elem34 : elemT Tryd.prog 34 = some 5 := by kernel_rfl
theorem arr34 : arrT Tryd.prog 34 = none := by kernel_rfl
theorem int34 : intT Tryd.prog 34 = none := by kernel_rfl
theorem zer34 : zerT Tryd.prog 34 = some [.slice none 0 0] := by kernel_rfl
theorem str34 : strT Tryd.prog 34 = false := by kernel_rfl
theorem agg58 : aggT Tryd.prog 58 = some false := by kernel_rfl
theorem siz58 : sizT Tryd.prog 58 = some 1 := by kernel_rfl
theorem byt58 : bytT Tryd.prog 58 = some 8 := by kernel_rfl
theorem elem58 : elemT Tryd.prog 58 = none := by kernel_rfl
theorem arr58 : arrT Tryd.prog 58 = none := by kernel_rfl
theorem int58 : intT Tryd.prog 58 = some .u64 := by kernel_rfl
theorem zer58 : zerT Tryd.prog 58 = some [.int .u64 0] := by kernel_rfl
theorem str58 : strT Tryd.prog 58 = false := by kernel_rfl
theorem agg60 : aggT Tryd.prog 60 = some false := by kernel_rfl
theorem siz60 : sizT Tryd.prog 60 = some 1 := by kernel_rfl
theorem byt60 : bytT Tryd.prog 60 = some 8 := by kernel_rfl
theorem elem60 : elemT Tryd.prog 60 = none := by kernel_rfl
theorem arr60 : arrT Tryd.prog 60 = none := by kernel_rfl
theorem int60 : intT Tryd.prog 60 = some .u64 := by kernel_rfl
theorem zer60 : zerT Tryd.prog 60 = some [.int .u64 0] := by kernel_rfl
theorem str60 : strT Tryd.prog 60 = false := by kernel_rfl
theorem agg63 : aggT Tryd.prog 63 = some true := by kernel_rfl
theorem siz63 : sizT Tryd.prog 63 = some 3 := by kernel_rfl
theorem byt63 : bytT Tryd.prog 63 = some 24 := by kernel_rfl
theorem elem63 : elemT Tryd.prog 63 = none := by kernel_rfl
theorem arr63 : arrT Tryd.prog 63 = none := by kernel_rfl
theorem int63 : intT Tryd.prog 63 = none := by kernel_rfl
theorem zer63 : zerT Tryd.prog 63 = some [.bool false, .int .i64 0, .int .i64 0] := by kernel_rfl
theorem kd63 : kdT Tryd.prog 60 63 = some [.bool, .int .i64, .int .i64] := by kernel_rfl
theorem eqg63 : Tryd.prog.eqGuardType (Tryd.prog.depth) 63 = false := by kernel_rfl
theorem szs63 : sizesOk Tryd.prog 63 = true := by kernel_rfl
theorem plc63_0 : placeT Tryd.prog 63 0 = some (0, 1) := by kernel_rfl
theorem plc63_1 : placeT Tryd.prog 63 1 = some (1, 1) := by kernel_rfl
theorem plc63_2 : placeT Tryd.prog 63 2 = some (2, 1) := by kernel_rfl
theorem str63 : strT Tryd.prog 63 = false := by kernel_rfl
theorem fld63_0 : fldT Tryd.prog 63 0 = some (0, 4) := by kernel_rfl
theorem fld63_1 : fldT Tryd.prog 63 1 = some (1, 3) := by kernel_rfl
theorem fld63_2 : fldT Tryd.prog 63 2 = some (2, 3) := by kernel_rfl
theorem agg65 : aggT Tryd.prog 65 = some true := by kernel_rfl
theorem siz65 : sizT Tryd.prog 65 = some 4 := by kernel_rfl
theorem byt65 : bytT Tryd.prog 65 = some 48 := by kernel_rfl
theorem elem65 : elemT Tryd.prog 65 = none := by kernel_rfl
theorem arr65 : arrT Tryd.prog 65 = none := by kernel_rfl
theorem int65 : intT Tryd.prog 65 = none := by kernel_rfl
theorem zer65 : zerT Tryd.prog 65 = some [.bool false, .int .i64 0, .int .i64 0, .slice none 0 0] := by kernel_rfl
theorem eqg65 : Tryd.prog.eqGuardType (Tryd.prog.depth) 65 = false := by kernel_rfl
theorem szs65 : sizesOk Tryd.prog 65 = true := by kernel_rfl
theorem plc65_0 : placeT Tryd.prog 65 0 = some (0, 3) := by kernel_rfl
theorem plc65_1 : placeT Tryd.prog 65 1 = some (3, 1) := by kernel_rfl
theorem str65 : strT Tryd.prog 65 = false := by kernel_rfl
theorem fld65_0 : fldT Tryd.prog 65 0 = some (0, 63) := by kernel_rfl
theorem fld65_1 : fldT Tryd.prog 65 1 = some (3, 34) := by kernel_rfl
theorem agg78 : aggT Tryd.prog 78 = some false := by kernel_rfl
theorem siz78 : sizT Tryd.prog 78 = some 1 := by kernel_rfl
theorem byt78 : bytT Tryd.prog 78 = some 24 := by kernel_rfl
theorem elem78 : elemT Tryd.prog 78 = some 34 := by kernel_rfl
theorem arr78 : arrT Tryd.prog 78 = none := by kernel_rfl
theorem int78 : intT Tryd.prog 78 = none := by kernel_rfl
theorem zer78 : zerT Tryd.prog 78 = some [.slice none 0 0] := by kernel_rfl
theorem str78 : strT Tryd.prog 78 = false := by kernel_rfl
theorem agg81 : aggT Tryd.prog 81 = some false := by kernel_rfl
theorem siz81 : sizT Tryd.prog 81 = some 1 := by kernel_rfl
theorem byt81 : bytT Tryd.prog 81 = some 2 := by kernel_rfl
theorem elem81 : elemT Tryd.prog 81 = none := by kernel_rfl
theorem arr81 : arrT Tryd.prog 81 = none := by kernel_rfl
theorem int81 : intT Tryd.prog 81 = some .u16 := by kernel_rfl
theorem zer81 : zerT Tryd.prog 81 = some [.int .u16 0] := by kernel_rfl
theorem str81 : strT Tryd.prog 81 = false := by kernel_rfl
theorem agg89 : aggT Tryd.prog 89 = some true := by kernel_rfl
theorem siz89 : sizT Tryd.prog 89 = some 16 := by kernel_rfl
theorem byt89 : bytT Tryd.prog 89 = some 16 := by kernel_rfl
theorem elem89 : elemT Tryd.prog 89 = none := by kernel_rfl
theorem arr89 : arrT Tryd.prog 89 = some (16, 5) := by kernel_rfl
theorem int89 : intT Tryd.prog 89 = none := by kernel_rfl
theorem zer89 : zerT Tryd.prog 89 = some [.int .u8 0, .int .u8 0, .int .u8 0, .int .u8 0, .int .u8 0, .int .u8 0, .int .u8 0, .int .u8 0, .int .u8 0, .int .u8 0, .int .u8 0, .int .u8 0, .int .u8 0, .int .u8 0, .int .u8 0, .int .u8 0] := by kernel_rfl
theorem kd89 : kdT Tryd.prog 60 89 = some [.int .u8, .int .u8, .int .u8, .int .u8, .int .u8, .int .u8, .int .u8, .int .u8, .int .u8, .int .u8, .int .u8, .int .u8, .int .u8, .int .u8, .int .u8, .int .u8] := by kernel_rfl
theorem eqg89 : Tryd.prog.eqGuardType (Tryd.prog.depth) 89 = false := by kernel_rfl
theorem szs89 : sizesOk Tryd.prog 89 = true := by kernel_rfl
theorem plc89_0 : placeT Tryd.prog 89 0 = some (0, 1) := by kernel_rfl
theorem plc89_1 : placeT Tryd.prog 89 1 = some (1, 1) := by kernel_rfl
theorem plc89_2 : placeT Tryd.prog 89 2 = some (2, 1) := by kernel_rfl
theorem plc89_3 : placeT Tryd.prog 89 3 = some (3, 1) := by kernel_rfl
theorem plc89_4 : placeT Tryd.prog 89 4 = some (4, 1) := by kernel_rfl
theorem plc89_5 : placeT Tryd.prog 89 5 = some (5, 1) := by kernel_rfl
theorem plc89_6 : placeT Tryd.prog 89 6 = some (6, 1) := by kernel_rfl
theorem plc89_7 : placeT Tryd.prog 89 7 = some (7, 1) := by kernel_rfl
theorem plc89_8 : placeT Tryd.prog 89 8 = some (8, 1) := by kernel_rfl
theorem plc89_9 : placeT Tryd.prog 89 9 = some (9, 1) := by kernel_rfl
theorem plc89_10 : placeT Tryd.prog 89 10 = some (10, 1) := by kernel_rfl
theorem plc89_11 : placeT Tryd.prog 89 11 = some (11, 1) := by kernel_rfl
theorem str89 : strT Tryd.prog 89 = false := by kernel_rfl
theorem und0 : (Tryd.prog.underlying 0).isSome = true := by kernel_rfl
theorem und1 : (Tryd.prog.underlying 1).isSome = true := by kernel_rfl
theorem und2 : (Tryd.prog.underlying 2).isSome = true := by kernel_rfl
theorem und3 : (Tryd.prog.underlying 3).isSome = true := by kernel_rfl
theorem und4 : (Tryd.prog.underlying 4).isSome = true := by kernel_rfl
theorem und5 : (Tryd.prog.underlying 5).isSome = true := by kernel_rfl
theorem und6 : (Tryd.prog.underlying 6).isSome = true := by kernel_rfl
theorem und8 : (Tryd.prog.underlying 8).isSome = true := by kernel_rfl
theorem und9 : (Tryd.prog.underlying 9).isSome = true := by kernel_rfl
theorem und21 : (Tryd.prog.underlying 21).isSome = true := by kernel_rfl
theorem und22 : (Tryd.prog.underlying 22).isSome = true := by kernel_rfl
theorem und24 : (Tryd.prog.underlying 24).isSome = true := by kernel_rfl
theorem und25 : (Tryd.prog.underlying 25).isSome = true := by kernel_rfl
theorem und27 : (Tryd.prog.underlying 27).isSome = true := by kernel_rfl
theorem und31 : (Tryd.prog.underlying 31).isSome = true := by kernel_rfl
theorem und34 : (Tryd.prog.underlying 34).isSome = true := by kernel_rfl
theorem und58 : (Tryd.prog.underlying 58).isSome = true := by kernel_rfl
theorem und60 : (Tryd.prog.underlying 60).isSome = true := by kernel_rfl
theorem und63 : (Tryd.prog.underlying 63).isSome = true := by kernel_rfl
theorem und65 : (Tryd.prog.underlying 65).isSome = true := by kernel_rfl
theorem und78 : (Tryd.prog.underlying 78).isSome = true := by kernel_rfl
theorem und81 : (Tryd.prog.underlying 81).isSome = true := by kernel_rfl
theorem und89 : (Tryd.prog.underlying 89).isSome = true := by kernel_rfl
theorem t0 : (aggT Tryd.prog 0 = some false) ∧ (sizT Tryd.prog 0 = some 1) ∧ (bytT Tryd.prog 0 = some 0) ∧ (elemT Tryd.prog 0 = none) ∧ (arrT Tryd.prog 0 = none) ∧ (intT Tryd.prog 0 = none) ∧ (strT Tryd.prog 0 = false) ∧ ((Tryd.prog.underlying 0).isSome = true) := ⟨agg0, siz0, byt0, elem0, arr0, int0, str0, und0⟩
theorem t1 : (aggT Tryd.prog 1 = some false) ∧ (sizT Tryd.prog 1 = some 1) ∧ (bytT Tryd.prog 1 = some 8) ∧ (elemT Tryd.prog 1 = none) ∧ (arrT Tryd.prog 1 = none) ∧ (intT Tryd.prog 1 = none) ∧ (zerT Tryd.prog 1 = some [.nilFunc]) ∧ (strT Tryd.prog 1 = false) ∧ ((Tryd.prog.underlying 1).isSome = true) := ⟨agg1, siz1, byt1, elem1, arr1, int1, zer1, str1, und1⟩
theorem t2 : (aggT Tryd.prog 2 = some false) ∧ (sizT Tryd.prog 2 = some 1) ∧ (bytT Tryd.prog 2 = some 8) ∧ (elemT Tryd.prog 2 = none) ∧ (arrT Tryd.prog 2 = none) ∧ (intT Tryd.prog 2 = some .i64) ∧ (zerT Tryd.prog 2 = some [.int .i64 0]) ∧ (strT Tryd.prog 2 = false) ∧ ((Tryd.prog.underlying 2).isSome = true) := ⟨agg2, siz2, byt2, elem2, arr2, int2, zer2, str2, und2⟩
theorem t3 : (aggT Tryd.prog 3 = some false) ∧ (sizT Tryd.prog 3 = some 1) ∧ (bytT Tryd.prog 3 = some 8) ∧ (elemT Tryd.prog 3 = none) ∧ (arrT Tryd.prog 3 = none) ∧ (intT Tryd.prog 3 = some .i64) ∧ (zerT Tryd.prog 3 = some [.int .i64 0]) ∧ (strT Tryd.prog 3 = false) ∧ ((Tryd.prog.underlying 3).isSome = true) := ⟨agg3, siz3, byt3, elem3, arr3, int3, zer3, str3, und3⟩
theorem t4 : (aggT Tryd.prog 4 = some false) ∧ (sizT Tryd.prog 4 = some 1) ∧ (bytT Tryd.prog 4 = some 1) ∧ (elemT Tryd.prog 4 = none) ∧ (arrT Tryd.prog 4 = none) ∧ (intT Tryd.prog 4 = none) ∧ (zerT Tryd.prog 4 = some [.bool false]) ∧ (strT Tryd.prog 4 = false) ∧ ((Tryd.prog.underlying 4).isSome = true) := ⟨agg4, siz4, byt4, elem4, arr4, int4, zer4, str4, und4⟩
theorem t5 : (aggT Tryd.prog 5 = some false) ∧ (sizT Tryd.prog 5 = some 1) ∧ (bytT Tryd.prog 5 = some 1) ∧ (elemT Tryd.prog 5 = none) ∧ (arrT Tryd.prog 5 = none) ∧ (intT Tryd.prog 5 = some .u8) ∧ (zerT Tryd.prog 5 = some [.int .u8 0]) ∧ (strT Tryd.prog 5 = false) ∧ ((Tryd.prog.underlying 5).isSome = true) := ⟨agg5, siz5, byt5, elem5, arr5, int5, zer5, str5, und5⟩
theorem t6 : (aggT Tryd.prog 6 = some false) ∧ (sizT Tryd.prog 6 = some 1) ∧ (bytT Tryd.prog 6 = some 1) ∧ (elemT Tryd.prog 6 = none) ∧ (arrT Tryd.prog 6 = none) ∧ (intT Tryd.prog 6 = some .u8) ∧ (zerT Tryd.prog 6 = some [.int .u8 0]) ∧ (strT Tryd.prog 6 = false) ∧ ((Tryd.prog.underlying 6).isSome = true) := ⟨agg6, siz6, byt6, elem6, arr6, int6, zer6, str6, und6⟩
theorem t8 : (aggT Tryd.prog 8 = some true) ∧ (sizT Tryd.prog 8 = some 4) ∧ (bytT Tryd.prog 8 = some 24) ∧ (elemT Tryd.prog 8 = none) ∧ (arrT Tryd.prog 8 = none) ∧ (intT Tryd.prog 8 = none) ∧ (zerT Tryd.prog 8 = some [.int .i64 0, .int .i64 0, .bool false, .int .u8 0]) ∧ (kdT Tryd.prog 60 8 = some [.int .i64, .int .i64, .bool, .int .u8]) ∧ (Tryd.prog.eqGuardType (Tryd.prog.depth) 8 = false) ∧ (sizesOk Tryd.prog 8 = true) ∧ (placeT Tryd.prog 8 0 = some (0, 1)) ∧ (placeT Tryd.prog 8 1 = some (1, 1)) ∧ (placeT Tryd.prog 8 2 = some (2, 1)) ∧ (placeT Tryd.prog 8 3 = some (3, 1)) ∧ (strT Tryd.prog 8 = false) ∧ (fldT Tryd.prog 8 0 = some (0, 2)) ∧ (fldT Tryd.prog 8 1 = some (1, 3)) ∧ (fldT Tryd.prog 8 2 = some (2, 4)) ∧ (fldT Tryd.prog 8 3 = some (3, 6)) ∧ ((Tryd.prog.underlying 8).isSome = true) := ⟨agg8, siz8, byt8, elem8, arr8, int8, zer8, kd8, eqg8, szs8, plc8_0, plc8_1, plc8_2, plc8_3, str8, fld8_0, fld8_1, fld8_2, fld8_3, und8⟩
theorem t9 : (aggT Tryd.prog 9 = some false) ∧ (sizT Tryd.prog 9 = some 1) ∧ (bytT Tryd.prog 9 = some 16) ∧ (elemT Tryd.prog 9 = none) ∧ (arrT Tryd.prog 9 = none) ∧ (intT Tryd.prog 9 = none) ∧ (zerT Tryd.prog 9 = some [.string ByteArray.empty]) ∧ (strT Tryd.prog 9 = true) ∧ ((Tryd.prog.underlying 9).isSome = true) := ⟨agg9, siz9, byt9, elem9, arr9, int9, zer9, str9, und9⟩
theorem t21 : (aggT Tryd.prog 21 = some false) ∧ (sizT Tryd.prog 21 = some 1) ∧ (bytT Tryd.prog 21 = some 4) ∧ (elemT Tryd.prog 21 = none) ∧ (arrT Tryd.prog 21 = none) ∧ (intT Tryd.prog 21 = some .i32) ∧ (zerT Tryd.prog 21 = some [.int .i32 0]) ∧ (strT Tryd.prog 21 = false) ∧ ((Tryd.prog.underlying 21).isSome = true) := ⟨agg21, siz21, byt21, elem21, arr21, int21, zer21, str21, und21⟩
theorem t22 : (aggT Tryd.prog 22 = some false) ∧ (sizT Tryd.prog 22 = some 1) ∧ (bytT Tryd.prog 22 = some 4) ∧ (elemT Tryd.prog 22 = none) ∧ (arrT Tryd.prog 22 = none) ∧ (intT Tryd.prog 22 = some .u32) ∧ (zerT Tryd.prog 22 = some [.int .u32 0]) ∧ (strT Tryd.prog 22 = false) ∧ ((Tryd.prog.underlying 22).isSome = true) := ⟨agg22, siz22, byt22, elem22, arr22, int22, zer22, str22, und22⟩
theorem t24 : (aggT Tryd.prog 24 = some true) ∧ (sizT Tryd.prog 24 = some 2) ∧ (bytT Tryd.prog 24 = some 8) ∧ (elemT Tryd.prog 24 = none) ∧ (arrT Tryd.prog 24 = none) ∧ (intT Tryd.prog 24 = none) ∧ (zerT Tryd.prog 24 = some [.bool false, .int .u32 0]) ∧ (kdT Tryd.prog 60 24 = some [.bool, .int .u32]) ∧ (Tryd.prog.eqGuardType (Tryd.prog.depth) 24 = false) ∧ (sizesOk Tryd.prog 24 = true) ∧ (placeT Tryd.prog 24 0 = some (0, 1)) ∧ (placeT Tryd.prog 24 1 = some (1, 1)) ∧ (strT Tryd.prog 24 = false) ∧ (fldT Tryd.prog 24 0 = some (0, 4)) ∧ (fldT Tryd.prog 24 1 = some (1, 22)) ∧ ((Tryd.prog.underlying 24).isSome = true) := ⟨agg24, siz24, byt24, elem24, arr24, int24, zer24, kd24, eqg24, szs24, plc24_0, plc24_1, str24, fld24_0, fld24_1, und24⟩
theorem t25 : (aggT Tryd.prog 25 = some true) ∧ (sizT Tryd.prog 25 = some 8) ∧ (bytT Tryd.prog 25 = some 8) ∧ (elemT Tryd.prog 25 = none) ∧ (arrT Tryd.prog 25 = some (8, 5)) ∧ (intT Tryd.prog 25 = none) ∧ (zerT Tryd.prog 25 = some [.int .u8 0, .int .u8 0, .int .u8 0, .int .u8 0, .int .u8 0, .int .u8 0, .int .u8 0, .int .u8 0]) ∧ (kdT Tryd.prog 60 25 = some [.int .u8, .int .u8, .int .u8, .int .u8, .int .u8, .int .u8, .int .u8, .int .u8]) ∧ (Tryd.prog.eqGuardType (Tryd.prog.depth) 25 = false) ∧ (sizesOk Tryd.prog 25 = true) ∧ (placeT Tryd.prog 25 0 = some (0, 1)) ∧ (placeT Tryd.prog 25 1 = some (1, 1)) ∧ (placeT Tryd.prog 25 2 = some (2, 1)) ∧ (placeT Tryd.prog 25 3 = some (3, 1)) ∧ (placeT Tryd.prog 25 4 = some (4, 1)) ∧ (placeT Tryd.prog 25 5 = some (5, 1)) ∧ (placeT Tryd.prog 25 6 = some (6, 1)) ∧ (placeT Tryd.prog 25 7 = some (7, 1)) ∧ (placeT Tryd.prog 25 8 = some (8, 1)) ∧ (placeT Tryd.prog 25 9 = some (9, 1)) ∧ (placeT Tryd.prog 25 10 = some (10, 1)) ∧ (placeT Tryd.prog 25 11 = some (11, 1)) ∧ (strT Tryd.prog 25 = false) ∧ ((Tryd.prog.underlying 25).isSome = true) := ⟨agg25, siz25, byt25, elem25, arr25, int25, zer25, kd25, eqg25, szs25, plc25_0, plc25_1, plc25_2, plc25_3, plc25_4, plc25_5, plc25_6, plc25_7, plc25_8, plc25_9, plc25_10, plc25_11, str25, und25⟩
theorem t27 : (aggT Tryd.prog 27 = some true) ∧ (sizT Tryd.prog 27 = some 12) ∧ (bytT Tryd.prog 27 = some 32) ∧ (elemT Tryd.prog 27 = none) ∧ (arrT Tryd.prog 27 = none) ∧ (intT Tryd.prog 27 = none) ∧ (zerT Tryd.prog 27 = some [.bool false, .int .u32 0, .bool false, .int .i64 0, .int .u8 0, .int .u8 0, .int .u8 0, .int .u8 0, .int .u8 0, .int .u8 0, .int .u8 0, .int .u8 0]) ∧ (kdT Tryd.prog 60 27 = some [.bool, .int .u32, .bool, .int .i64, .int .u8, .int .u8, .int .u8, .int .u8, .int .u8, .int .u8, .int .u8, .int .u8]) ∧ (Tryd.prog.eqGuardType (Tryd.prog.depth) 27 = false) ∧ (sizesOk Tryd.prog 27 = true) ∧ (placeT Tryd.prog 27 0 = some (0, 2)) ∧ (placeT Tryd.prog 27 1 = some (2, 1)) ∧ (placeT Tryd.prog 27 2 = some (3, 1)) ∧ (placeT Tryd.prog 27 3 = some (4, 8)) ∧ (strT Tryd.prog 27 = false) ∧ (fldT Tryd.prog 27 0 = some (0, 24)) ∧ (fldT Tryd.prog 27 1 = some (2, 4)) ∧ (fldT Tryd.prog 27 2 = some (3, 3)) ∧ (fldT Tryd.prog 27 3 = some (4, 25)) ∧ ((Tryd.prog.underlying 27).isSome = true) := ⟨agg27, siz27, byt27, elem27, arr27, int27, zer27, kd27, eqg27, szs27, plc27_0, plc27_1, plc27_2, plc27_3, str27, fld27_0, fld27_1, fld27_2, fld27_3, und27⟩
theorem t31 : (aggT Tryd.prog 31 = some false) ∧ (sizT Tryd.prog 31 = some 1) ∧ (bytT Tryd.prog 31 = some 8) ∧ (elemT Tryd.prog 31 = none) ∧ (arrT Tryd.prog 31 = none) ∧ (intT Tryd.prog 31 = some .i64) ∧ (zerT Tryd.prog 31 = some [.int .i64 0]) ∧ (strT Tryd.prog 31 = false) ∧ ((Tryd.prog.underlying 31).isSome = true) := ⟨agg31, siz31, byt31, elem31, arr31, int31, zer31, str31, und31⟩
theorem t34 : (aggT Tryd.prog 34 = some false) ∧ (sizT Tryd.prog 34 = some 1) ∧ (bytT Tryd.prog 34 = some 24) ∧ (elemT Tryd.prog 34 = some 5) ∧ (arrT Tryd.prog 34 = none) ∧ (intT Tryd.prog 34 = none) ∧ (zerT Tryd.prog 34 = some [.slice none 0 0]) ∧ (strT Tryd.prog 34 = false) ∧ ((Tryd.prog.underlying 34).isSome = true) := ⟨agg34, siz34, byt34, elem34, arr34, int34, zer34, str34, und34⟩
theorem t58 : (aggT Tryd.prog 58 = some false) ∧ (sizT Tryd.prog 58 = some 1) ∧ (bytT Tryd.prog 58 = some 8) ∧ (elemT Tryd.prog 58 = none) ∧ (arrT Tryd.prog 58 = none) ∧ (intT Tryd.prog 58 = some .u64) ∧ (zerT Tryd.prog 58 = some [.int .u64 0]) ∧ (strT Tryd.prog 58 = false) ∧ ((Tryd.prog.underlying 58).isSome = true) := ⟨agg58, siz58, byt58, elem58, arr58, int58, zer58, str58, und58⟩
theorem t60 : (aggT Tryd.prog 60 = some false) ∧ (sizT Tryd.prog 60 = some 1) ∧ (bytT Tryd.prog 60 = some 8) ∧ (elemT Tryd.prog 60 = none) ∧ (arrT Tryd.prog 60 = none) ∧ (intT Tryd.prog 60 = some .u64) ∧ (zerT Tryd.prog 60 = some [.int .u64 0]) ∧ (strT Tryd.prog 60 = false) ∧ ((Tryd.prog.underlying 60).isSome = true) := ⟨agg60, siz60, byt60, elem60, arr60, int60, zer60, str60, und60⟩
theorem t63 : (aggT Tryd.prog 63 = some true) ∧ (sizT Tryd.prog 63 = some 3) ∧ (bytT Tryd.prog 63 = some 24) ∧ (elemT Tryd.prog 63 = none) ∧ (arrT Tryd.prog 63 = none) ∧ (intT Tryd.prog 63 = none) ∧ (zerT Tryd.prog 63 = some [.bool false, .int .i64 0, .int .i64 0]) ∧ (kdT Tryd.prog 60 63 = some [.bool, .int .i64, .int .i64]) ∧ (Tryd.prog.eqGuardType (Tryd.prog.depth) 63 = false) ∧ (sizesOk Tryd.prog 63 = true) ∧ (placeT Tryd.prog 63 0 = some (0, 1)) ∧ (placeT Tryd.prog 63 1 = some (1, 1)) ∧ (placeT Tryd.prog 63 2 = some (2, 1)) ∧ (strT Tryd.prog 63 = false) ∧ (fldT Tryd.prog 63 0 = some (0, 4)) ∧ (fldT Tryd.prog 63 1 = some (1, 3)) ∧ (fldT Tryd.prog 63 2 = some (2, 3)) ∧ ((Tryd.prog.underlying 63).isSome = true) := ⟨agg63, siz63, byt63, elem63, arr63, int63, zer63, kd63, eqg63, szs63, plc63_0, plc63_1, plc63_2, str63, fld63_0, fld63_1, fld63_2, und63⟩
theorem t65 : (aggT Tryd.prog 65 = some true) ∧ (sizT Tryd.prog 65 = some 4) ∧ (bytT Tryd.prog 65 = some 48) ∧ (elemT Tryd.prog 65 = none) ∧ (arrT Tryd.prog 65 = none) ∧ (intT Tryd.prog 65 = none) ∧ (zerT Tryd.prog 65 = some [.bool false, .int .i64 0, .int .i64 0, .slice none 0 0]) ∧ (Tryd.prog.eqGuardType (Tryd.prog.depth) 65 = false) ∧ (sizesOk Tryd.prog 65 = true) ∧ (placeT Tryd.prog 65 0 = some (0, 3)) ∧ (placeT Tryd.prog 65 1 = some (3, 1)) ∧ (strT Tryd.prog 65 = false) ∧ (fldT Tryd.prog 65 0 = some (0, 63)) ∧ (fldT Tryd.prog 65 1 = some (3, 34)) ∧ ((Tryd.prog.underlying 65).isSome = true) := ⟨agg65, siz65, byt65, elem65, arr65, int65, zer65, eqg65, szs65, plc65_0, plc65_1, str65, fld65_0, fld65_1, und65⟩
theorem t78 : (aggT Tryd.prog 78 = some false) ∧ (sizT Tryd.prog 78 = some 1) ∧ (bytT Tryd.prog 78 = some 24) ∧ (elemT Tryd.prog 78 = some 34) ∧ (arrT Tryd.prog 78 = none) ∧ (intT Tryd.prog 78 = none) ∧ (zerT Tryd.prog 78 = some [.slice none 0 0]) ∧ (strT Tryd.prog 78 = false) ∧ ((Tryd.prog.underlying 78).isSome = true) := ⟨agg78, siz78, byt78, elem78, arr78, int78, zer78, str78, und78⟩
theorem t81 : (aggT Tryd.prog 81 = some false) ∧ (sizT Tryd.prog 81 = some 1) ∧ (bytT Tryd.prog 81 = some 2) ∧ (elemT Tryd.prog 81 = none) ∧ (arrT Tryd.prog 81 = none) ∧ (intT Tryd.prog 81 = some .u16) ∧ (zerT Tryd.prog 81 = some [.int .u16 0]) ∧ (strT Tryd.prog 81 = false) ∧ ((Tryd.prog.underlying 81).isSome = true) := ⟨agg81, siz81, byt81, elem81, arr81, int81, zer81, str81, und81⟩
theorem t89 : (aggT Tryd.prog 89 = some true) ∧ (sizT Tryd.prog 89 = some 16) ∧ (bytT Tryd.prog 89 = some 16) ∧ (elemT Tryd.prog 89 = none) ∧ (arrT Tryd.prog 89 = some (16, 5)) ∧ (intT Tryd.prog 89 = none) ∧ (zerT Tryd.prog 89 = some [.int .u8 0, .int .u8 0, .int .u8 0, .int .u8 0, .int .u8 0, .int .u8 0, .int .u8 0, .int .u8 0, .int .u8 0, .int .u8 0, .int .u8 0, .int .u8 0, .int .u8 0, .int .u8 0, .int .u8 0, .int .u8 0]) ∧ (kdT Tryd.prog 60 89 = some [.int .u8, .int .u8, .int .u8, .int .u8, .int .u8, .int .u8, .int .u8, .int .u8, .int .u8, .int .u8, .int .u8, .int .u8, .int .u8, .int .u8, .int .u8, .int .u8]) ∧ (Tryd.prog.eqGuardType (Tryd.prog.depth) 89 = false) ∧ (sizesOk Tryd.prog 89 = true) ∧ (placeT Tryd.prog 89 0 = some (0, 1)) ∧ (placeT Tryd.prog 89 1 = some (1, 1)) ∧ (placeT Tryd.prog 89 2 = some (2, 1)) ∧ (placeT Tryd.prog 89 3 = some (3, 1)) ∧ (placeT Tryd.prog 89 4 = some (4, 1)) ∧ (placeT Tryd.prog 89 5 = some (5, 1)) ∧ (placeT Tryd.prog 89 6 = some (6, 1)) ∧ (placeT Tryd.prog 89 7 = some (7, 1)) ∧ (placeT Tryd.prog 89 8 = some (8, 1)) ∧ (placeT Tryd.prog 89 9 = some (9, 1)) ∧ (placeT Tryd.prog 89 10 = some (10, 1)) ∧ (placeT Tryd.prog 89 11 = some (11, 1)) ∧ (strT Tryd.prog 89 = false) ∧ ((Tryd.prog.underlying 89).isSome = true) := ⟨agg89, siz89, byt89, elem89, arr89, int89, zer89, kd89, eqg89, szs89, plc89_0, plc89_1, plc89_2, plc89_3, plc89_4, plc89_5, plc89_6, plc89_7, plc89_8, plc89_9, plc89_10, plc89_11, str89, und89⟩
end Go.Proofs.YtdhmjnpaoacpfaaDoor.Ty
