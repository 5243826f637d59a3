/- Facts of this seat's types, each asked of the kernel. -/
import Derived.Test.YtdhmjnpaoacpfaaDoorProg
import Derived.Test.YtdhmjnpaoacpfaaDoorAbC
import Derived.KernelRfl
set_option linter.all false
namespace Go.Proofs.YtdhmjnpaoacpfaaDoor.Ty
open Go Go.Ab
theorem agg0 : aggT Tryd.prog 0 = some false := by kernel_rfl
theorem siz0 : sizT Tryd.prog 0 = some 1 := by kernel_rfl
theorem byt0 : bytT Tryd.prog 0 = some 0 := by kernel_rfl
theorem elem0 : elemT Tryd.prog 0 = none := by kernel_rfl
theorem arr0 : arrT Tryd.prog 0 = none := by kernel_rfl
theorem int0 : intT Tryd.prog 0 = none := by kernel_rfl
theorem str0 : strT Tryd.prog 0 = false := by kernel_rfl
theorem agg1 : aggT Tryd.prog 1 = some false := by kernel_rfl
theorem siz1 : sizT Tryd.prog 1 = some 1 := by kernel_rfl
theorem byt1 : bytT Tryd.prog 1 = some 8 := by kernel_rfl
theorem elem1 : elemT Tryd.prog 1 = none := by kernel_rfl
theorem arr1 : arrT Tryd.prog 1 = none := by kernel_rfl
theorem int1 : intT Tryd.prog 1 = none := by kernel_rfl
theorem zer1 : zerT Tryd.prog 1 = some [.nilFunc] := by kernel_rfl
theorem str1 : strT Tryd.prog 1 = false := by kernel_rfl
theorem agg2 : aggT Tryd.prog 2 = some false := by kernel_rfl
theorem siz2 : sizT Tryd.prog 2 = some 1 := by kernel_rfl
theorem byt2 : bytT Tryd.prog 2 = some 8 := by kernel_rfl
theorem elem2 : elemT Tryd.prog 2 = none := by kernel_rfl
theorem arr2 : arrT Tryd.prog 2 = none := by kernel_rfl
theorem int2 : intT Tryd.prog 2 = some .i64 := by kernel_rfl
theorem zer2 : zerT Tryd.prog 2 = some [.int .i64 0] := by kernel_rfl
theorem str2 : strT Tryd.prog 2 = false := by kernel_rfl
theorem agg3 : aggT Tryd.prog 3 = some false := by kernel_rfl
theorem siz3 : sizT Tryd.prog 3 = some 1 := by kernel_rfl
theorem byt3 : bytT Tryd.prog 3 = some 8 := by kernel_rfl
theorem elem3 : elemT Tryd.prog 3 = none := by kernel_rfl
theorem arr3 : arrT Tryd.prog 3 = none := by kernel_rfl
theorem int3 : intT Tryd.prog 3 = some .i64 := by kernel_rfl
theorem zer3 : zerT Tryd.prog 3 = some [.int .i64 0] := by kernel_rfl
theorem str3 : strT Tryd.prog 3 = false := by kernel_rfl
theorem agg4 : aggT Tryd.prog 4 = some false := by kernel_rfl
theorem siz4 : sizT Tryd.prog 4 = some 1 := by kernel_rfl
theorem byt4 : bytT Tryd.prog 4 = some 1 := by kernel_rfl
theorem elem4 : elemT Tryd.prog 4 = none := by kernel_rfl
theorem arr4 : arrT Tryd.prog 4 = none := by kernel_rfl
theorem int4 : intT Tryd.prog 4 = none := by kernel_rfl
theorem zer4 : zerT Tryd.prog 4 = some [.bool false] := by kernel_rfl
theorem str4 : strT Tryd.prog 4 = false := by kernel_rfl
theorem agg5 : aggT Tryd.prog 5 = some false := by kernel_rfl
theorem siz5 : sizT Tryd.prog 5 = some 1 := by kernel_rfl
theorem byt5 : bytT Tryd.prog 5 = some 1 := by kernel_rfl
theorem elem5 : elemT Tryd.prog 5 = none := by kernel_rfl
theorem arr5 : arrT Tryd.prog 5 = none := by kernel_rfl
theorem int5 : intT Tryd.prog 5 = some .u8 := by kernel_rfl
theorem zer5 : zerT Tryd.prog 5 = some [.int .u8 0] := by kernel_rfl
theorem str5 : strT Tryd.prog 5 = false := by kernel_rfl
theorem agg6 : aggT Tryd.prog 6 = some false := by kernel_rfl
theorem siz6 : sizT Tryd.prog 6 = some 1 := by kernel_rfl
theorem byt6 : bytT Tryd.prog 6 = some 1 := by kernel_rfl
theorem elem6 : elemT Tryd.prog 6 = none := by kernel_rfl
theorem arr6 : arrT Tryd.prog 6 = none := by kernel_rfl
theorem int6 : intT Tryd.prog 6 = some .u8 := by kernel_rfl
theorem zer6 : zerT Tryd.prog 6 = some [.int .u8 0] := by kernel_rfl
theorem str6 : strT Tryd.prog 6 = false := by kernel_rfl
theorem agg7 : aggT Tryd.prog 7 = some true := by kernel_rfl
theorem siz7 : sizT Tryd.prog 7 = some 4 := by kernel_rfl
theorem byt7 : bytT Tryd.prog 7 = some 24 := by kernel_rfl
theorem elem7 : elemT Tryd.prog 7 = none := by kernel_rfl
theorem arr7 : arrT Tryd.prog 7 = none := by kernel_rfl
theorem int7 : intT Tryd.prog 7 = none := by kernel_rfl
theorem zer7 : zerT Tryd.prog 7 = some [.int .i64 0, .int .i64 0, .bool false, .int .u8 0] := by kernel_rfl
theorem kd7 : kdT Tryd.prog 60 7 = some [.int .i64, .int .i64, .bool, .int .u8] := by kernel_rfl
theorem eqg7 : Tryd.prog.eqGuardType (Tryd.prog.depth) 7 = false := by kernel_rfl
theorem szs7 : sizesOk Tryd.prog 7 = true := by kernel_rfl
theorem plc7_0 : placeT Tryd.prog 7 0 = some (0, 1) := by kernel_rfl
theorem plc7_1 : placeT Tryd.prog 7 1 = some (1, 1) := by kernel_rfl
theorem plc7_2 : placeT Tryd.prog 7 2 = some (2, 1) := by kernel_rfl
theorem plc7_3 : placeT Tryd.prog 7 3 = some (3, 1) := by kernel_rfl
theorem str7 : strT Tryd.prog 7 = false := by kernel_rfl
theorem fld7_0 : fldT Tryd.prog 7 0 = some (0, 2) := by kernel_rfl
theorem fld7_1 : fldT Tryd.prog 7 1 = some (1, 3) := by kernel_rfl
theorem fld7_2 : fldT Tryd.prog 7 2 = some (2, 4) := by kernel_rfl
theorem fld7_3 : fldT Tryd.prog 7 3 = some (3, 6) := by kernel_rfl
theorem agg8 : aggT Tryd.prog 8 = some true := by kernel_rfl
theorem siz8 : sizT Tryd.prog 8 = some 4 := by kernel_rfl
theorem byt8 : bytT Tryd.prog 8 = some 24 := by kernel_rfl
theorem elem8 : elemT Tryd.prog 8 = none := by kernel_rfl
theorem arr8 : arrT Tryd.prog 8 = none := by kernel_rfl
theorem int8 : intT Tryd.prog 8 = none := by kernel_rfl
theorem zer8 : zerT Tryd.prog 8 = some [.int .i64 0, .int .i64 0, .bool false, .int .u8 0] := by kernel_rfl
theorem kd8 : kdT Tryd.prog 60 8 = some [.int .i64, .int .i64, .bool, .int .u8] := by kernel_rfl
theorem eqg8 : Tryd.prog.eqGuardType (Tryd.prog.depth) 8 = false := by kernel_rfl
theorem szs8 : sizesOk Tryd.prog 8 = true := by kernel_rfl
theorem plc8_0 : placeT Tryd.prog 8 0 = some (0, 1) := by kernel_rfl
theorem plc8_1 : placeT Tryd.prog 8 1 = some (1, 1) := by kernel_rfl
theorem plc8_2 : placeT Tryd.prog 8 2 = some (2, 1) := by kernel_rfl
theorem plc8_3 : placeT Tryd.prog 8 3 = some (3, 1) := by kernel_rfl
theorem str8 : strT Tryd.prog 8 = false := by kernel_rfl
theorem fld8_0 : fldT Tryd.prog 8 0 = some (0, 2) := by kernel_rfl
theorem fld8_1 : fldT Tryd.prog 8 1 = some (1, 3) := by kernel_rfl
theorem fld8_2 : fldT Tryd.prog 8 2 = some (2, 4) := by kernel_rfl
theorem fld8_3 : fldT Tryd.prog 8 3 = some (3, 6) := by kernel_rfl
theorem agg9 : aggT Tryd.prog 9 = some false := by kernel_rfl
theorem siz9 : sizT Tryd.prog 9 = some 1 := by kernel_rfl
theorem byt9 : bytT Tryd.prog 9 = some 16 := by kernel_rfl
theorem elem9 : elemT Tryd.prog 9 = none := by kernel_rfl
theorem arr9 : arrT Tryd.prog 9 = none := by kernel_rfl
theorem int9 : intT Tryd.prog 9 = none := by kernel_rfl
theorem zer9 : zerT Tryd.prog 9 = some [.string ByteArray.empty] := by kernel_rfl
theorem str9 : strT Tryd.prog 9 = true := by kernel_rfl
theorem agg10 : aggT Tryd.prog 10 = some false := by kernel_rfl
theorem siz10 : sizT Tryd.prog 10 = some 1 := by kernel_rfl
theorem byt10 : bytT Tryd.prog 10 = some 16 := by kernel_rfl
theorem elem10 : elemT Tryd.prog 10 = none := by kernel_rfl
theorem arr10 : arrT Tryd.prog 10 = none := by kernel_rfl
theorem int10 : intT Tryd.prog 10 = none := by kernel_rfl
theorem zer10 : zerT Tryd.prog 10 = some [.string ByteArray.empty] := by kernel_rfl
theorem str10 : strT Tryd.prog 10 = true := by kernel_rfl
theorem agg11 : aggT Tryd.prog 11 = some false := by kernel_rfl
theorem siz11 : sizT Tryd.prog 11 = some 1 := by kernel_rfl
theorem byt11 : bytT Tryd.prog 11 = some 16 := by kernel_rfl
theorem elem11 : elemT Tryd.prog 11 = none := by kernel_rfl
theorem arr11 : arrT Tryd.prog 11 = none := by kernel_rfl
theorem int11 : intT Tryd.prog 11 = none := by kernel_rfl
theorem zer11 : zerT Tryd.prog 11 = some [.string ByteArray.empty] := by kernel_rfl
theorem str11 : strT Tryd.prog 11 = true := by kernel_rfl
theorem agg12 : aggT Tryd.prog 12 = some false := by kernel_rfl
theorem siz12 : sizT Tryd.prog 12 = some 1 := by kernel_rfl
theorem byt12 : bytT Tryd.prog 12 = some 8 := by kernel_rfl
theorem elem12 : elemT Tryd.prog 12 = none := by kernel_rfl
theorem arr12 : arrT Tryd.prog 12 = none := by kernel_rfl
theorem int12 : intT Tryd.prog 12 = some .u64 := by kernel_rfl
theorem zer12 : zerT Tryd.prog 12 = some [.int .u64 0] := by kernel_rfl
theorem str12 : strT Tryd.prog 12 = false := by kernel_rfl
theorem agg13 : aggT Tryd.prog 13 = some true := by kernel_rfl
theorem siz13 : sizT Tryd.prog 13 = some 2 := by kernel_rfl
theorem byt13 : bytT Tryd.prog 13 = some 24 := by kernel_rfl
theorem elem13 : elemT Tryd.prog 13 = none := by kernel_rfl
theorem arr13 : arrT Tryd.prog 13 = none := by kernel_rfl
theorem int13 : intT Tryd.prog 13 = none := by kernel_rfl
theorem zer13 : zerT Tryd.prog 13 = some [.string ByteArray.empty, .int .u64 0] := by kernel_rfl
theorem eqg13 : Tryd.prog.eqGuardType (Tryd.prog.depth) 13 = false := by kernel_rfl
theorem szs13 : sizesOk Tryd.prog 13 = true := by kernel_rfl
theorem plc13_0 : placeT Tryd.prog 13 0 = some (0, 1) := by kernel_rfl
theorem plc13_1 : placeT Tryd.prog 13 1 = some (1, 1) := by kernel_rfl
theorem str13 : strT Tryd.prog 13 = false := by kernel_rfl
theorem fld13_0 : fldT Tryd.prog 13 0 = some (0, 9) := by kernel_rfl
theorem fld13_1 : fldT Tryd.prog 13 1 = some (1, 12) := by kernel_rfl
theorem agg14 : aggT Tryd.prog 14 = some true := by kernel_rfl
theorem siz14 : sizT Tryd.prog 14 = some 2 := by kernel_rfl
theorem byt14 : bytT Tryd.prog 14 = some 24 := by kernel_rfl
theorem elem14 : elemT Tryd.prog 14 = none := by kernel_rfl
theorem arr14 : arrT Tryd.prog 14 = none := by kernel_rfl
theorem int14 : intT Tryd.prog 14 = none := by kernel_rfl
theorem zer14 : zerT Tryd.prog 14 = some [.string ByteArray.empty, .int .u64 0] := by kernel_rfl
theorem eqg14 : Tryd.prog.eqGuardType (Tryd.prog.depth) 14 = false := by kernel_rfl
theorem szs14 : sizesOk Tryd.prog 14 = true := by kernel_rfl
theorem plc14_0 : placeT Tryd.prog 14 0 = some (0, 1) := by kernel_rfl
theorem plc14_1 : placeT Tryd.prog 14 1 = some (1, 1) := by kernel_rfl
theorem str14 : strT Tryd.prog 14 = false := by kernel_rfl
theorem fld14_0 : fldT Tryd.prog 14 0 = some (0, 9) := by kernel_rfl
theorem fld14_1 : fldT Tryd.prog 14 1 = some (1, 12) := by kernel_rfl
theorem agg15 : aggT Tryd.prog 15 = some false := by kernel_rfl
theorem siz15 : sizT Tryd.prog 15 = some 1 := by kernel_rfl
theorem byt15 : bytT Tryd.prog 15 = some 8 := by kernel_rfl
theorem elem15 : elemT Tryd.prog 15 = none := by kernel_rfl
theorem arr15 : arrT Tryd.prog 15 = none := by kernel_rfl
theorem int15 : intT Tryd.prog 15 = none := by kernel_rfl
theorem zer15 : zerT Tryd.prog 15 = some [.pointer none] := by kernel_rfl
theorem str15 : strT Tryd.prog 15 = false := by kernel_rfl
theorem agg16 : aggT Tryd.prog 16 = some false := by kernel_rfl
theorem siz16 : sizT Tryd.prog 16 = some 1 := by kernel_rfl
theorem byt16 : bytT Tryd.prog 16 = some 8 := by kernel_rfl
theorem elem16 : elemT Tryd.prog 16 = none := by kernel_rfl
theorem arr16 : arrT Tryd.prog 16 = none := by kernel_rfl
theorem int16 : intT Tryd.prog 16 = none := by kernel_rfl
theorem zer16 : zerT Tryd.prog 16 = some [.pointer none] := by kernel_rfl
theorem str16 : strT Tryd.prog 16 = false := by kernel_rfl
theorem agg17 : aggT Tryd.prog 17 = some false := by kernel_rfl
theorem siz17 : sizT Tryd.prog 17 = some 1 := by kernel_rfl
theorem byt17 : bytT Tryd.prog 17 = some 8 := by kernel_rfl
theorem elem17 : elemT Tryd.prog 17 = none := by kernel_rfl
theorem arr17 : arrT Tryd.prog 17 = none := by kernel_rfl
theorem int17 : intT Tryd.prog 17 = none := by kernel_rfl
theorem zer17 : zerT Tryd.prog 17 = some [.pointer none] := by kernel_rfl
theorem str17 : strT Tryd.prog 17 = false := by kernel_rfl
theorem agg18 : aggT Tryd.prog 18 = some true := by kernel_rfl
theorem siz18 : sizT Tryd.prog 18 = some 1 := by kernel_rfl
theorem byt18 : bytT Tryd.prog 18 = some 8 := by kernel_rfl
theorem elem18 : elemT Tryd.prog 18 = none := by kernel_rfl
theorem arr18 : arrT Tryd.prog 18 = none := by kernel_rfl
theorem int18 : intT Tryd.prog 18 = none := by kernel_rfl
theorem zer18 : zerT Tryd.prog 18 = some [.pointer none] := by kernel_rfl
theorem eqg18 : Tryd.prog.eqGuardType (Tryd.prog.depth) 18 = false := by kernel_rfl
theorem szs18 : sizesOk Tryd.prog 18 = true := by kernel_rfl
theorem plc18_0 : placeT Tryd.prog 18 0 = some (0, 1) := by kernel_rfl
theorem str18 : strT Tryd.prog 18 = false := by kernel_rfl
theorem fld18_0 : fldT Tryd.prog 18 0 = some (0, 17) := by kernel_rfl
theorem agg19 : aggT Tryd.prog 19 = some true := by kernel_rfl
theorem siz19 : sizT Tryd.prog 19 = some 1 := by kernel_rfl
theorem byt19 : bytT Tryd.prog 19 = some 8 := by kernel_rfl
theorem elem19 : elemT Tryd.prog 19 = none := by kernel_rfl
theorem arr19 : arrT Tryd.prog 19 = none := by kernel_rfl
theorem int19 : intT Tryd.prog 19 = none := by kernel_rfl
theorem zer19 : zerT Tryd.prog 19 = some [.pointer none] := by kernel_rfl
theorem eqg19 : Tryd.prog.eqGuardType (Tryd.prog.depth) 19 = false := by kernel_rfl
theorem szs19 : sizesOk Tryd.prog 19 = true := by kernel_rfl
theorem plc19_0 : placeT Tryd.prog 19 0 = some (0, 1) := by kernel_rfl
theorem str19 : strT Tryd.prog 19 = false := by kernel_rfl
theorem fld19_0 : fldT Tryd.prog 19 0 = some (0, 17) := by kernel_rfl
theorem agg20 : aggT Tryd.prog 20 = some false := by kernel_rfl
theorem siz20 : sizT Tryd.prog 20 = some 1 := by kernel_rfl
theorem byt20 : bytT Tryd.prog 20 = some 16 := by kernel_rfl
theorem elem20 : elemT Tryd.prog 20 = none := by kernel_rfl
theorem arr20 : arrT Tryd.prog 20 = none := by kernel_rfl
theorem int20 : intT Tryd.prog 20 = none := by kernel_rfl
theorem zer20 : zerT Tryd.prog 20 = some [.nilIface] := by kernel_rfl
theorem str20 : strT Tryd.prog 20 = false := by kernel_rfl
theorem agg21 : aggT Tryd.prog 21 = some false := by kernel_rfl
theorem siz21 : sizT Tryd.prog 21 = some 1 := by kernel_rfl
theorem byt21 : bytT Tryd.prog 21 = some 4 := by kernel_rfl
theorem elem21 : elemT Tryd.prog 21 = none := by kernel_rfl
theorem arr21 : arrT Tryd.prog 21 = none := by kernel_rfl
theorem int21 : intT Tryd.prog 21 = some .i32 := by kernel_rfl
theorem zer21 : zerT Tryd.prog 21 = some [.int .i32 0] := by kernel_rfl
theorem str21 : strT Tryd.prog 21 = false := by kernel_rfl
theorem agg22 : aggT Tryd.prog 22 = some false := by kernel_rfl
theorem siz22 : sizT Tryd.prog 22 = some 1 := by kernel_rfl
theorem byt22 : bytT Tryd.prog 22 = some 4 := by kernel_rfl
theorem elem22 : elemT Tryd.prog 22 = none := by kernel_rfl
theorem arr22 : arrT Tryd.prog 22 = none := by kernel_rfl
theorem int22 : intT Tryd.prog 22 = some .u32 := by kernel_rfl
theorem zer22 : zerT Tryd.prog 22 = some [.int .u32 0] := by kernel_rfl
theorem str22 : strT Tryd.prog 22 = false := by kernel_rfl
theorem agg23 : aggT Tryd.prog 23 = some true := by kernel_rfl
theorem siz23 : sizT Tryd.prog 23 = some 2 := by kernel_rfl
theorem byt23 : bytT Tryd.prog 23 = some 8 := by kernel_rfl
theorem elem23 : elemT Tryd.prog 23 = none := by kernel_rfl
theorem arr23 : arrT Tryd.prog 23 = none := by kernel_rfl
theorem int23 : intT Tryd.prog 23 = none := by kernel_rfl
theorem zer23 : zerT Tryd.prog 23 = some [.bool false, .int .u32 0] := by kernel_rfl
theorem kd23 : kdT Tryd.prog 60 23 = some [.bool, .int .u32] := by kernel_rfl
theorem eqg23 : Tryd.prog.eqGuardType (Tryd.prog.depth) 23 = false := by kernel_rfl
theorem szs23 : sizesOk Tryd.prog 23 = true := by kernel_rfl
theorem plc23_0 : placeT Tryd.prog 23 0 = some (0, 1) := by kernel_rfl
theorem plc23_1 : placeT Tryd.prog 23 1 = some (1, 1) := by kernel_rfl
theorem str23 : strT Tryd.prog 23 = false := by kernel_rfl
theorem fld23_0 : fldT Tryd.prog 23 0 = some (0, 4) := by kernel_rfl
theorem fld23_1 : fldT Tryd.prog 23 1 = some (1, 22) := by kernel_rfl
theorem agg24 : aggT Tryd.prog 24 = some true := by kernel_rfl
theorem siz24 : sizT Tryd.prog 24 = some 2 := by kernel_rfl
theorem byt24 : bytT Tryd.prog 24 = some 8 := by kernel_rfl
theorem elem24 : elemT Tryd.prog 24 = none := by kernel_rfl
theorem arr24 : arrT Tryd.prog 24 = none := by kernel_rfl
theorem int24 : intT Tryd.prog 24 = none := by kernel_rfl
theorem zer24 : zerT Tryd.prog 24 = some [.bool false, .int .u32 0] := by kernel_rfl
theorem kd24 : kdT Tryd.prog 60 24 = some [.bool, .int .u32] := by kernel_rfl
theorem eqg24 : Tryd.prog.eqGuardType (Tryd.prog.depth) 24 = false := by kernel_rfl
theorem szs24 : sizesOk Tryd.prog 24 = true := by kernel_rfl
theorem plc24_0 : placeT Tryd.prog 24 0 = some (0, 1) := by kernel_rfl
theorem plc24_1 : placeT Tryd.prog 24 1 = some (1, 1) := by kernel_rfl
theorem str24 : strT Tryd.prog 24 = false := by kernel_rfl
theorem fld24_0 : fldT Tryd.prog 24 0 = some (0, 4) := by kernel_rfl
theorem fld24_1 : fldT Tryd.prog 24 1 = some (1, 22) := by kernel_rfl
theorem agg25 : aggT Tryd.prog 25 = some true := by kernel_rfl
theorem siz25 : sizT Tryd.prog 25 = some 8 := by kernel_rfl
theorem byt25 : bytT Tryd.prog 25 = some 8 := by kernel_rfl
theorem elem25 : elemT Tryd.prog 25 = none := by kernel_rfl
theorem arr25 : arrT Tryd.prog 25 = some (8, 5) := by kernel_rfl
theorem int25 : intT Tryd.prog 25 = none := by kernel_rfl
theorem zer25 : zerT Tryd.prog 25 = some [.int .u8 0, .int .u8 0, .int .u8 0, .int .u8 0, .int .u8 0, .int .u8 0, .int .u8 0, .int .u8 0] := by kernel_rfl
theorem kd25 : kdT Tryd.prog 60 25 = some [.int .u8, .int .u8, .int .u8, .int .u8, .int .u8, .int .u8, .int .u8, .int .u8] := by kernel_rfl
theorem eqg25 : Tryd.prog.eqGuardType (Tryd.prog.depth) 25 = false := by kernel_rfl
theorem szs25 : sizesOk Tryd.prog 25 = true := by kernel_rfl
theorem plc25_0 : placeT Tryd.prog 25 0 = some (0, 1) := by kernel_rfl
theorem plc25_1 : placeT Tryd.prog 25 1 = some (1, 1) := by kernel_rfl
theorem plc25_2 : placeT Tryd.prog 25 2 = some (2, 1) := by kernel_rfl
theorem plc25_3 : placeT Tryd.prog 25 3 = some (3, 1) := by kernel_rfl
theorem plc25_4 : placeT Tryd.prog 25 4 = some (4, 1) := by kernel_rfl
theorem plc25_5 : placeT Tryd.prog 25 5 = some (5, 1) := by kernel_rfl
theorem plc25_6 : placeT Tryd.prog 25 6 = some (6, 1) := by kernel_rfl
theorem plc25_7 : placeT Tryd.prog 25 7 = some (7, 1) := by kernel_rfl
theorem plc25_8 : placeT Tryd.prog 25 8 = some (8, 1) := by kernel_rfl
theorem plc25_9 : placeT Tryd.prog 25 9 = some (9, 1) := by kernel_rfl
theorem plc25_10 : placeT Tryd.prog 25 10 = some (10, 1) := by kernel_rfl
theorem plc25_11 : placeT Tryd.prog 25 11 = some (11, 1) := by kernel_rfl
theorem str25 : strT Tryd.prog 25 = false := by kernel_rfl
theorem agg26 : aggT Tryd.prog 26 = some true := by kernel_rfl
theorem siz26 : sizT Tryd.prog 26 = some 12 := by kernel_rfl
theorem byt26 : bytT Tryd.prog 26 = some 32 := by kernel_rfl
theorem elem26 : elemT Tryd.prog 26 = none := by kernel_rfl
theorem arr26 : arrT Tryd.prog 26 = none := by kernel_rfl
theorem int26 : intT Tryd.prog 26 = none := by kernel_rfl
theorem zer26 : zerT Tryd.prog 26 = some [.bool false, .int .u32 0, .bool false, .int .i64 0, .int .u8 0, .int .u8 0, .int .u8 0, .int .u8 0, .int .u8 0, .int .u8 0, .int .u8 0, .int .u8 0] := by kernel_rfl
theorem kd26 : kdT Tryd.prog 60 26 = some [.bool, .int .u32, .bool, .int .i64, .int .u8, .int .u8, .int .u8, .int .u8, .int .u8, .int .u8, .int .u8, .int .u8] := by kernel_rfl
theorem eqg26 : Tryd.prog.eqGuardType (Tryd.prog.depth) 26 = false := by kernel_rfl
theorem szs26 : sizesOk Tryd.prog 26 = true := by kernel_rfl
theorem plc26_0 : placeT Tryd.prog 26 0 = some (0, 2) := by kernel_rfl
theorem plc26_1 : placeT Tryd.prog 26 1 = some (2, 1) := by kernel_rfl
theorem plc26_2 : placeT Tryd.prog 26 2 = some (3, 1) := by kernel_rfl
theorem plc26_3 : placeT Tryd.prog 26 3 = some (4, 8) := by kernel_rfl
theorem str26 : strT Tryd.prog 26 = false := by kernel_rfl
theorem fld26_0 : fldT Tryd.prog 26 0 = some (0, 24) := by kernel_rfl
theorem fld26_1 : fldT Tryd.prog 26 1 = some (2, 4) := by kernel_rfl
theorem fld26_2 : fldT Tryd.prog 26 2 = some (3, 3) := by kernel_rfl
theorem fld26_3 : fldT Tryd.prog 26 3 = some (4, 25) := by kernel_rfl
theorem agg27 : aggT Tryd.prog 27 = some true := by kernel_rfl
theorem siz27 : sizT Tryd.prog 27 = some 12 := by kernel_rfl
theorem byt27 : bytT Tryd.prog 27 = some 32 := by kernel_rfl
theorem elem27 : elemT Tryd.prog 27 = none := by kernel_rfl
theorem arr27 : arrT Tryd.prog 27 = none := by kernel_rfl
theorem int27 : intT Tryd.prog 27 = none := by kernel_rfl
theorem zer27 : zerT Tryd.prog 27 = some [.bool false, .int .u32 0, .bool false, .int .i64 0, .int .u8 0, .int .u8 0, .int .u8 0, .int .u8 0, .int .u8 0, .int .u8 0, .int .u8 0, .int .u8 0] := by kernel_rfl
theorem kd27 : kdT Tryd.prog 60 27 = some [.bool, .int .u32, .bool, .int .i64, .int .u8, .int .u8, .int .u8, .int .u8, .int .u8, .int .u8, .int .u8, .int .u8] := by kernel_rfl
theorem eqg27 : Tryd.prog.eqGuardType (Tryd.prog.depth) 27 = false := by kernel_rfl
theorem szs27 : sizesOk Tryd.prog 27 = true := by kernel_rfl
theorem plc27_0 : placeT Tryd.prog 27 0 = some (0, 2) := by kernel_rfl
theorem plc27_1 : placeT Tryd.prog 27 1 = some (2, 1) := by kernel_rfl
theorem plc27_2 : placeT Tryd.prog 27 2 = some (3, 1) := by kernel_rfl
theorem plc27_3 : placeT Tryd.prog 27 3 = some (4, 8) := by kernel_rfl
theorem str27 : strT Tryd.prog 27 = false := by kernel_rfl
theorem fld27_0 : fldT Tryd.prog 27 0 = some (0, 24) := by kernel_rfl
theorem fld27_1 : fldT Tryd.prog 27 1 = some (2, 4) := by kernel_rfl
theorem fld27_2 : fldT Tryd.prog 27 2 = some (3, 3) := by kernel_rfl
theorem fld27_3 : fldT Tryd.prog 27 3 = some (4, 25) := by kernel_rfl
theorem agg28 : aggT Tryd.prog 28 = some false := by kernel_rfl
theorem siz28 : sizT Tryd.prog 28 = some 1 := by kernel_rfl
theorem byt28 : bytT Tryd.prog 28 = some 8 := by kernel_rfl
theorem elem28 : elemT Tryd.prog 28 = none := by kernel_rfl
theorem arr28 : arrT Tryd.prog 28 = none := by kernel_rfl
theorem int28 : intT Tryd.prog 28 = none := by kernel_rfl
theorem zer28 : zerT Tryd.prog 28 = some [.nilFunc] := by kernel_rfl
theorem str28 : strT Tryd.prog 28 = false := by kernel_rfl
theorem agg29 : aggT Tryd.prog 29 = some false := by kernel_rfl
theorem siz29 : sizT Tryd.prog 29 = some 1 := by kernel_rfl
theorem byt29 : bytT Tryd.prog 29 = some 0 := by kernel_rfl
theorem elem29 : elemT Tryd.prog 29 = none := by kernel_rfl
theorem arr29 : arrT Tryd.prog 29 = none := by kernel_rfl
theorem int29 : intT Tryd.prog 29 = none := by kernel_rfl
theorem str29 : strT Tryd.prog 29 = false := by kernel_rfl
theorem agg30 : aggT Tryd.prog 30 = some false := by kernel_rfl
theorem siz30 : sizT Tryd.prog 30 = some 1 := by kernel_rfl
theorem byt30 : bytT Tryd.prog 30 = some 8 := by kernel_rfl
theorem elem30 : elemT Tryd.prog 30 = none := by kernel_rfl
theorem arr30 : arrT Tryd.prog 30 = none := by kernel_rfl
theorem int30 : intT Tryd.prog 30 = none := by kernel_rfl
theorem zer30 : zerT Tryd.prog 30 = some [.nilFunc] := by kernel_rfl
theorem str30 : strT Tryd.prog 30 = false := by kernel_rfl
theorem agg31 : aggT Tryd.prog 31 = some false := by kernel_rfl
theorem siz31 : sizT Tryd.prog 31 = some 1 := by kernel_rfl
theorem byt31 : bytT Tryd.prog 31 = some 8 := by kernel_rfl
theorem elem31 : elemT Tryd.prog 31 = none := by kernel_rfl
theorem arr31 : arrT Tryd.prog 31 = none := by kernel_rfl
theorem int31 : intT Tryd.prog 31 = some .i64 := by kernel_rfl
theorem zer31 : zerT Tryd.prog 31 = some [.int .i64 0] := by kernel_rfl
theorem str31 : strT Tryd.prog 31 = false := by kernel_rfl
theorem agg32 : aggT Tryd.prog 32 = some false := by kernel_rfl
theorem siz32 : sizT Tryd.prog 32 = some 1 := by kernel_rfl
theorem byt32 : bytT Tryd.prog 32 = some 8 := by kernel_rfl
theorem elem32 : elemT Tryd.prog 32 = none := by kernel_rfl
theorem arr32 : arrT Tryd.prog 32 = none := by kernel_rfl
theorem int32 : intT Tryd.prog 32 = none := by kernel_rfl
theorem zer32 : zerT Tryd.prog 32 = some [.nilFunc] := by kernel_rfl
theorem str32 : strT Tryd.prog 32 = false := by kernel_rfl
theorem agg33 : aggT Tryd.prog 33 = some false := by kernel_rfl
theorem siz33 : sizT Tryd.prog 33 = some 1 := by kernel_rfl
theorem byt33 : bytT Tryd.prog 33 = some 8 := by kernel_rfl
theorem elem33 : elemT Tryd.prog 33 = none := by kernel_rfl
theorem arr33 : arrT Tryd.prog 33 = none := by kernel_rfl
theorem int33 : intT Tryd.prog 33 = none := by kernel_rfl
theorem zer33 : zerT Tryd.prog 33 = some [.nilFunc] := by kernel_rfl
theorem str33 : strT Tryd.prog 33 = false := by kernel_rfl
theorem agg34 : aggT Tryd.prog 34 = some false := by kernel_rfl
theorem siz34 : sizT Tryd.prog 34 = some 1 := by kernel_rfl
theorem byt34 : bytT Tryd.prog 34 = some 24 := by kernel_rfl
theorem elem34 : elemT Tryd.prog 34 = some 5 := by kernel_rfl
theorem arr34 : arrT Tryd.prog 34 = none := by kernel_rfl
theorem int34 : intT Tryd.prog 34 = none := by kernel_rfl
theorem zer34 : zerT Tryd.prog 34 = some [.slice none 0 0] := by kernel_rfl
theorem str34 : strT Tryd.prog 34 = false := by kernel_rfl
theorem agg35 : aggT Tryd.prog 35 = some false := by kernel_rfl
theorem siz35 : sizT Tryd.prog 35 = some 1 := by kernel_rfl
theorem byt35 : bytT Tryd.prog 35 = some 8 := by kernel_rfl
theorem elem35 : elemT Tryd.prog 35 = none := by kernel_rfl
theorem arr35 : arrT Tryd.prog 35 = none := by kernel_rfl
theorem int35 : intT Tryd.prog 35 = none := by kernel_rfl
theorem zer35 : zerT Tryd.prog 35 = some [.nilFunc] := by kernel_rfl
theorem str35 : strT Tryd.prog 35 = false := by kernel_rfl
theorem agg36 : aggT Tryd.prog 36 = some false := by kernel_rfl
theorem siz36 : sizT Tryd.prog 36 = some 1 := by kernel_rfl
theorem byt36 : bytT Tryd.prog 36 = some 8 := by kernel_rfl
theorem elem36 : elemT Tryd.prog 36 = none := by kernel_rfl
theorem arr36 : arrT Tryd.prog 36 = none := by kernel_rfl
theorem int36 : intT Tryd.prog 36 = none := by kernel_rfl
theorem zer36 : zerT Tryd.prog 36 = some [.nilFunc] := by kernel_rfl
theorem str36 : strT Tryd.prog 36 = false := by kernel_rfl
theorem agg37 : aggT Tryd.prog 37 = some false := by kernel_rfl
theorem siz37 : sizT Tryd.prog 37 = some 1 := by kernel_rfl
theorem byt37 : bytT Tryd.prog 37 = some 8 := by kernel_rfl
theorem elem37 : elemT Tryd.prog 37 = none := by kernel_rfl
theorem arr37 : arrT Tryd.prog 37 = none := by kernel_rfl
theorem int37 : intT Tryd.prog 37 = none := by kernel_rfl
theorem zer37 : zerT Tryd.prog 37 = some [.nilFunc] := by kernel_rfl
theorem str37 : strT Tryd.prog 37 = false := by kernel_rfl
theorem agg38 : aggT Tryd.prog 38 = some false := by kernel_rfl
theorem siz38 : sizT Tryd.prog 38 = some 1 := by kernel_rfl
theorem byt38 : bytT Tryd.prog 38 = some 8 := by kernel_rfl
theorem elem38 : elemT Tryd.prog 38 = none := by kernel_rfl
theorem arr38 : arrT Tryd.prog 38 = none := by kernel_rfl
theorem int38 : intT Tryd.prog 38 = none := by kernel_rfl
theorem zer38 : zerT Tryd.prog 38 = some [.nilFunc] := by kernel_rfl
theorem str38 : strT Tryd.prog 38 = false := by kernel_rfl
theorem agg39 : aggT Tryd.prog 39 = some false := by kernel_rfl
theorem siz39 : sizT Tryd.prog 39 = some 1 := by kernel_rfl
theorem byt39 : bytT Tryd.prog 39 = some 0 := by kernel_rfl
theorem elem39 : elemT Tryd.prog 39 = none := by kernel_rfl
theorem arr39 : arrT Tryd.prog 39 = none := by kernel_rfl
theorem int39 : intT Tryd.prog 39 = none := by kernel_rfl
theorem str39 : strT Tryd.prog 39 = false := by kernel_rfl
theorem agg40 : aggT Tryd.prog 40 = some false := by kernel_rfl
theorem siz40 : sizT Tryd.prog 40 = some 1 := by kernel_rfl
theorem byt40 : bytT Tryd.prog 40 = some 8 := by kernel_rfl
theorem elem40 : elemT Tryd.prog 40 = none := by kernel_rfl
theorem arr40 : arrT Tryd.prog 40 = none := by kernel_rfl
theorem int40 : intT Tryd.prog 40 = none := by kernel_rfl
theorem zer40 : zerT Tryd.prog 40 = some [.nilFunc] := by kernel_rfl
theorem str40 : strT Tryd.prog 40 = false := by kernel_rfl
theorem agg41 : aggT Tryd.prog 41 = some false := by kernel_rfl
theorem siz41 : sizT Tryd.prog 41 = some 1 := by kernel_rfl
theorem byt41 : bytT Tryd.prog 41 = some 0 := by kernel_rfl
theorem elem41 : elemT Tryd.prog 41 = none := by kernel_rfl
theorem arr41 : arrT Tryd.prog 41 = none := by kernel_rfl
theorem int41 : intT Tryd.prog 41 = none := by kernel_rfl
theorem str41 : strT Tryd.prog 41 = false := by kernel_rfl
theorem agg42 : aggT Tryd.prog 42 = some false := by kernel_rfl
theorem siz42 : sizT Tryd.prog 42 = some 1 := by kernel_rfl
theorem byt42 : bytT Tryd.prog 42 = some 8 := by kernel_rfl
theorem elem42 : elemT Tryd.prog 42 = none := by kernel_rfl
theorem arr42 : arrT Tryd.prog 42 = none := by kernel_rfl
theorem int42 : intT Tryd.prog 42 = none := by kernel_rfl
theorem zer42 : zerT Tryd.prog 42 = some [.nilFunc] := by kernel_rfl
theorem str42 : strT Tryd.prog 42 = false := by kernel_rfl
theorem agg43 : aggT Tryd.prog 43 = some false := by kernel_rfl
theorem siz43 : sizT Tryd.prog 43 = some 1 := by kernel_rfl
theorem byt43 : bytT Tryd.prog 43 = some 8 := by kernel_rfl
theorem elem43 : elemT Tryd.prog 43 = none := by kernel_rfl
theorem arr43 : arrT Tryd.prog 43 = none := by kernel_rfl
theorem int43 : intT Tryd.prog 43 = none := by kernel_rfl
theorem zer43 : zerT Tryd.prog 43 = some [.nilFunc] := by kernel_rfl
theorem str43 : strT Tryd.prog 43 = false := by kernel_rfl
theorem agg44 : aggT Tryd.prog 44 = some false := by kernel_rfl
theorem siz44 : sizT Tryd.prog 44 = some 1 := by kernel_rfl
theorem byt44 : bytT Tryd.prog 44 = some 8 := by kernel_rfl
theorem elem44 : elemT Tryd.prog 44 = none := by kernel_rfl
theorem arr44 : arrT Tryd.prog 44 = none := by kernel_rfl
theorem int44 : intT Tryd.prog 44 = none := by kernel_rfl
theorem zer44 : zerT Tryd.prog 44 = some [.nilFunc] := by kernel_rfl
theorem str44 : strT Tryd.prog 44 = false := by kernel_rfl
theorem agg45 : aggT Tryd.prog 45 = some false := by kernel_rfl
theorem siz45 : sizT Tryd.prog 45 = some 1 := by kernel_rfl
theorem byt45 : bytT Tryd.prog 45 = some 8 := by kernel_rfl
theorem elem45 : elemT Tryd.prog 45 = none := by kernel_rfl
theorem arr45 : arrT Tryd.prog 45 = none := by kernel_rfl
theorem int45 : intT Tryd.prog 45 = none := by kernel_rfl
theorem zer45 : zerT Tryd.prog 45 = some [.nilFunc] := by kernel_rfl
theorem str45 : strT Tryd.prog 45 = false := by kernel_rfl
theorem agg46 : aggT Tryd.prog 46 = some false := by kernel_rfl
theorem siz46 : sizT Tryd.prog 46 = some 1 := by kernel_rfl
theorem byt46 : bytT Tryd.prog 46 = some 8 := by kernel_rfl
theorem elem46 : elemT Tryd.prog 46 = none := by kernel_rfl
theorem arr46 : arrT Tryd.prog 46 = none := by kernel_rfl
theorem int46 : intT Tryd.prog 46 = none := by kernel_rfl
theorem zer46 : zerT Tryd.prog 46 = some [.nilFunc] := by kernel_rfl
theorem str46 : strT Tryd.prog 46 = false := by kernel_rfl
theorem agg47 : aggT Tryd.prog 47 = some false := by kernel_rfl
theorem siz47 : sizT Tryd.prog 47 = some 1 := by kernel_rfl
theorem byt47 : bytT Tryd.prog 47 = some 8 := by kernel_rfl
theorem elem47 : elemT Tryd.prog 47 = none := by kernel_rfl
theorem arr47 : arrT Tryd.prog 47 = none := by kernel_rfl
theorem int47 : intT Tryd.prog 47 = none := by kernel_rfl
theorem zer47 : zerT Tryd.prog 47 = some [.nilFunc] := by kernel_rfl
theorem str47 : strT Tryd.prog 47 = false := by kernel_rfl
theorem agg48 : aggT Tryd.prog 48 = some false := by kernel_rfl
theorem siz48 : sizT Tryd.prog 48 = some 1 := by kernel_rfl
theorem byt48 : bytT Tryd.prog 48 = some 0 := by kernel_rfl
theorem elem48 : elemT Tryd.prog 48 = none := by kernel_rfl
theorem arr48 : arrT Tryd.prog 48 = none := by kernel_rfl
theorem int48 : intT Tryd.prog 48 = none := by kernel_rfl
theorem str48 : strT Tryd.prog 48 = false := by kernel_rfl
theorem agg49 : aggT Tryd.prog 49 = some false := by kernel_rfl
theorem siz49 : sizT Tryd.prog 49 = some 1 := by kernel_rfl
theorem byt49 : bytT Tryd.prog 49 = some 8 := by kernel_rfl
theorem elem49 : elemT Tryd.prog 49 = none := by kernel_rfl
theorem arr49 : arrT Tryd.prog 49 = none := by kernel_rfl
theorem int49 : intT Tryd.prog 49 = none := by kernel_rfl
theorem zer49 : zerT Tryd.prog 49 = some [.nilFunc] := by kernel_rfl
theorem str49 : strT Tryd.prog 49 = false := by kernel_rfl
theorem agg50 : aggT Tryd.prog 50 = some false := by kernel_rfl
theorem siz50 : sizT Tryd.prog 50 = some 1 := by kernel_rfl
theorem byt50 : bytT Tryd.prog 50 = some 8 := by kernel_rfl
theorem elem50 : elemT Tryd.prog 50 = none := by kernel_rfl
theorem arr50 : arrT Tryd.prog 50 = none := by kernel_rfl
theorem int50 : intT Tryd.prog 50 = none := by kernel_rfl
theorem zer50 : zerT Tryd.prog 50 = some [.nilFunc] := by kernel_rfl
theorem str50 : strT Tryd.prog 50 = false := by kernel_rfl
theorem agg51 : aggT Tryd.prog 51 = some false := by kernel_rfl
theorem siz51 : sizT Tryd.prog 51 = some 1 := by kernel_rfl
theorem byt51 : bytT Tryd.prog 51 = some 8 := by kernel_rfl
theorem elem51 : elemT Tryd.prog 51 = none := by kernel_rfl
theorem arr51 : arrT Tryd.prog 51 = none := by kernel_rfl
theorem int51 : intT Tryd.prog 51 = none := by kernel_rfl
theorem zer51 : zerT Tryd.prog 51 = some [.nilFunc] := by kernel_rfl
theorem str51 : strT Tryd.prog 51 = false := by kernel_rfl
theorem agg52 : aggT Tryd.prog 52 = some false := by kernel_rfl
theorem siz52 : sizT Tryd.prog 52 = some 1 := by kernel_rfl
theorem byt52 : bytT Tryd.prog 52 = some 8 := by kernel_rfl
theorem elem52 : elemT Tryd.prog 52 = none := by kernel_rfl
theorem arr52 : arrT Tryd.prog 52 = none := by kernel_rfl
theorem int52 : intT Tryd.prog 52 = none := by kernel_rfl
theorem zer52 : zerT Tryd.prog 52 = some [.nilFunc] := by kernel_rfl
theorem str52 : strT Tryd.prog 52 = false := by kernel_rfl
theorem agg53 : aggT Tryd.prog 53 = some false := by kernel_rfl
theorem siz53 : sizT Tryd.prog 53 = some 1 := by kernel_rfl
theorem byt53 : bytT Tryd.prog 53 = some 8 := by kernel_rfl
theorem elem53 : elemT Tryd.prog 53 = none := by kernel_rfl
theorem arr53 : arrT Tryd.prog 53 = none := by kernel_rfl
theorem int53 : intT Tryd.prog 53 = none := by kernel_rfl
theorem zer53 : zerT Tryd.prog 53 = some [.nilFunc] := by kernel_rfl
theorem str53 : strT Tryd.prog 53 = false := by kernel_rfl
theorem agg54 : aggT Tryd.prog 54 = some false := by kernel_rfl
theorem siz54 : sizT Tryd.prog 54 = some 1 := by kernel_rfl
theorem byt54 : bytT Tryd.prog 54 = some 8 := by kernel_rfl
theorem elem54 : elemT Tryd.prog 54 = none := by kernel_rfl
theorem arr54 : arrT Tryd.prog 54 = none := by kernel_rfl
theorem int54 : intT Tryd.prog 54 = none := by kernel_rfl
theorem zer54 : zerT Tryd.prog 54 = some [.nilFunc] := by kernel_rfl
theorem str54 : strT Tryd.prog 54 = false := by kernel_rfl
theorem agg55 : aggT Tryd.prog 55 = some false := by kernel_rfl
theorem siz55 : sizT Tryd.prog 55 = some 1 := by kernel_rfl
theorem byt55 : bytT Tryd.prog 55 = some 8 := by kernel_rfl
theorem elem55 : elemT Tryd.prog 55 = none := by kernel_rfl
theorem arr55 : arrT Tryd.prog 55 = none := by kernel_rfl
theorem int55 : intT Tryd.prog 55 = none := by kernel_rfl
theorem zer55 : zerT Tryd.prog 55 = some [.nilFunc] := by kernel_rfl
theorem str55 : strT Tryd.prog 55 = false := by kernel_rfl
theorem agg56 : aggT Tryd.prog 56 = some false := by kernel_rfl
theorem siz56 : sizT Tryd.prog 56 = some 1 := by kernel_rfl
theorem byt56 : bytT Tryd.prog 56 = some 8 := by kernel_rfl
theorem elem56 : elemT Tryd.prog 56 = none := by kernel_rfl
theorem arr56 : arrT Tryd.prog 56 = none := by kernel_rfl
theorem int56 : intT Tryd.prog 56 = none := by kernel_rfl
theorem zer56 : zerT Tryd.prog 56 = some [.nilFunc] := by kernel_rfl
theorem str56 : strT Tryd.prog 56 = false := by kernel_rfl
theorem agg57 : aggT Tryd.prog 57 = some false := by kernel_rfl
theorem siz57 : sizT Tryd.prog 57 = some 1 := by kernel_rfl
theorem byt57 : bytT Tryd.prog 57 = some 8 := by kernel_rfl
theorem elem57 : elemT Tryd.prog 57 = none := by kernel_rfl
theorem arr57 : arrT Tryd.prog 57 = none := by kernel_rfl
theorem int57 : intT Tryd.prog 57 = none := by kernel_rfl
theorem zer57 : zerT Tryd.prog 57 = some [.nilFunc] := by kernel_rfl
theorem str57 : strT Tryd.prog 57 = false := by kernel_rfl
theorem agg58 : aggT Tryd.prog 58 = some false := by kernel_rfl
theorem siz58 : sizT Tryd.prog 58 = some 1 := by kernel_rfl
theorem byt58 : bytT Tryd.prog 58 = some 8 := by kernel_rfl
theorem elem58 : elemT Tryd.prog 58 = none := by kernel_rfl
theorem arr58 : arrT Tryd.prog 58 = none := by kernel_rfl
theorem int58 : intT Tryd.prog 58 = some .u64 := by kernel_rfl
theorem zer58 : zerT Tryd.prog 58 = some [.int .u64 0] := by kernel_rfl
theorem str58 : strT Tryd.prog 58 = false := by kernel_rfl
theorem agg59 : aggT Tryd.prog 59 = some false := by kernel_rfl
theorem siz59 : sizT Tryd.prog 59 = some 1 := by kernel_rfl
theorem byt59 : bytT Tryd.prog 59 = some 8 := by kernel_rfl
theorem elem59 : elemT Tryd.prog 59 = none := by kernel_rfl
theorem arr59 : arrT Tryd.prog 59 = none := by kernel_rfl
theorem int59 : intT Tryd.prog 59 = none := by kernel_rfl
theorem zer59 : zerT Tryd.prog 59 = some [.nilFunc] := by kernel_rfl
theorem str59 : strT Tryd.prog 59 = false := by kernel_rfl
theorem agg60 : aggT Tryd.prog 60 = some false := by kernel_rfl
theorem siz60 : sizT Tryd.prog 60 = some 1 := by kernel_rfl
theorem byt60 : bytT Tryd.prog 60 = some 8 := by kernel_rfl
theorem elem60 : elemT Tryd.prog 60 = none := by kernel_rfl
theorem arr60 : arrT Tryd.prog 60 = none := by kernel_rfl
theorem int60 : intT Tryd.prog 60 = some .u64 := by kernel_rfl
theorem zer60 : zerT Tryd.prog 60 = some [.int .u64 0] := by kernel_rfl
theorem str60 : strT Tryd.prog 60 = false := by kernel_rfl
theorem agg61 : aggT Tryd.prog 61 = some false := by kernel_rfl
theorem siz61 : sizT Tryd.prog 61 = some 1 := by kernel_rfl
theorem byt61 : bytT Tryd.prog 61 = some 8 := by kernel_rfl
theorem elem61 : elemT Tryd.prog 61 = none := by kernel_rfl
theorem arr61 : arrT Tryd.prog 61 = none := by kernel_rfl
theorem int61 : intT Tryd.prog 61 = none := by kernel_rfl
theorem zer61 : zerT Tryd.prog 61 = some [.nilFunc] := by kernel_rfl
theorem str61 : strT Tryd.prog 61 = false := by kernel_rfl
theorem agg62 : aggT Tryd.prog 62 = some true := by kernel_rfl
theorem siz62 : sizT Tryd.prog 62 = some 3 := by kernel_rfl
theorem byt62 : bytT Tryd.prog 62 = some 24 := by kernel_rfl
theorem elem62 : elemT Tryd.prog 62 = none := by kernel_rfl
theorem arr62 : arrT Tryd.prog 62 = none := by kernel_rfl
theorem int62 : intT Tryd.prog 62 = none := by kernel_rfl
theorem zer62 : zerT Tryd.prog 62 = some [.bool false, .int .i64 0, .int .i64 0] := by kernel_rfl
theorem kd62 : kdT Tryd.prog 60 62 = some [.bool, .int .i64, .int .i64] := by kernel_rfl
theorem eqg62 : Tryd.prog.eqGuardType (Tryd.prog.depth) 62 = false := by kernel_rfl
theorem szs62 : sizesOk Tryd.prog 62 = true := by kernel_rfl
theorem plc62_0 : placeT Tryd.prog 62 0 = some (0, 1) := by kernel_rfl
theorem plc62_1 : placeT Tryd.prog 62 1 = some (1, 1) := by kernel_rfl
theorem plc62_2 : placeT Tryd.prog 62 2 = some (2, 1) := by kernel_rfl
theorem str62 : strT Tryd.prog 62 = false := by kernel_rfl
theorem fld62_0 : fldT Tryd.prog 62 0 = some (0, 4) := by kernel_rfl
theorem fld62_1 : fldT Tryd.prog 62 1 = some (1, 3) := by kernel_rfl
theorem fld62_2 : fldT Tryd.prog 62 2 = some (2, 3) := by kernel_rfl
theorem agg63 : aggT Tryd.prog 63 = some true := by kernel_rfl
theorem siz63 : sizT Tryd.prog 63 = some 3 := by kernel_rfl
theorem byt63 : bytT Tryd.prog 63 = some 24 := by kernel_rfl
theorem elem63 : elemT Tryd.prog 63 = none := by kernel_rfl
theorem arr63 : arrT Tryd.prog 63 = none := by kernel_rfl
theorem int63 : intT Tryd.prog 63 = none := by kernel_rfl
theorem zer63 : zerT Tryd.prog 63 = some [.bool false, .int .i64 0, .int .i64 0] := by kernel_rfl
theorem kd63 : kdT Tryd.prog 60 63 = some [.bool, .int .i64, .int .i64] := by kernel_rfl
theorem eqg63 : Tryd.prog.eqGuardType (Tryd.prog.depth) 63 = false := by kernel_rfl
theorem szs63 : sizesOk Tryd.prog 63 = true := by kernel_rfl
theorem plc63_0 : placeT Tryd.prog 63 0 = some (0, 1) := by kernel_rfl
theorem plc63_1 : placeT Tryd.prog 63 1 = some (1, 1) := by kernel_rfl
theorem plc63_2 : placeT Tryd.prog 63 2 = some (2, 1) := by kernel_rfl
theorem str63 : strT Tryd.prog 63 = false := by kernel_rfl
theorem fld63_0 : fldT Tryd.prog 63 0 = some (0, 4) := by kernel_rfl
theorem fld63_1 : fldT Tryd.prog 63 1 = some (1, 3) := by kernel_rfl
theorem fld63_2 : fldT Tryd.prog 63 2 = some (2, 3) := by kernel_rfl
theorem agg64 : aggT Tryd.prog 64 = some true := by kernel_rfl
theorem siz64 : sizT Tryd.prog 64 = some 4 := by kernel_rfl
theorem byt64 : bytT Tryd.prog 64 = some 48 := by kernel_rfl
theorem elem64 : elemT Tryd.prog 64 = none := by kernel_rfl
theorem arr64 : arrT Tryd.prog 64 = none := by kernel_rfl
theorem int64 : intT Tryd.prog 64 = none := by kernel_rfl
theorem zer64 : zerT Tryd.prog 64 = some [.bool false, .int .i64 0, .int .i64 0, .slice none 0 0] := by kernel_rfl
theorem eqg64 : Tryd.prog.eqGuardType (Tryd.prog.depth) 64 = false := by kernel_rfl
theorem szs64 : sizesOk Tryd.prog 64 = true := by kernel_rfl
theorem plc64_0 : placeT Tryd.prog 64 0 = some (0, 3) := by kernel_rfl
theorem plc64_1 : placeT Tryd.prog 64 1 = some (3, 1) := by kernel_rfl
theorem str64 : strT Tryd.prog 64 = false := by kernel_rfl
theorem fld64_0 : fldT Tryd.prog 64 0 = some (0, 63) := by kernel_rfl
theorem fld64_1 : fldT Tryd.prog 64 1 = some (3, 34) := by kernel_rfl
theorem agg65 : aggT Tryd.prog 65 = some true := by kernel_rfl
theorem siz65 : sizT Tryd.prog 65 = some 4 := by kernel_rfl
theorem byt65 : bytT Tryd.prog 65 = some 48 := by kernel_rfl
theorem elem65 : elemT Tryd.prog 65 = none := by kernel_rfl
theorem arr65 : arrT Tryd.prog 65 = none := by kernel_rfl
theorem int65 : intT Tryd.prog 65 = none := by kernel_rfl
theorem zer65 : zerT Tryd.prog 65 = some [.bool false, .int .i64 0, .int .i64 0, .slice none 0 0] := by kernel_rfl
theorem eqg65 : Tryd.prog.eqGuardType (Tryd.prog.depth) 65 = false := by kernel_rfl
theorem szs65 : sizesOk Tryd.prog 65 = true := by kernel_rfl
theorem plc65_0 : placeT Tryd.prog 65 0 = some (0, 3) := by kernel_rfl
theorem plc65_1 : placeT Tryd.prog 65 1 = some (3, 1) := by kernel_rfl
theorem str65 : strT Tryd.prog 65 = false := by kernel_rfl
theorem fld65_0 : fldT Tryd.prog 65 0 = some (0, 63) := by kernel_rfl
theorem fld65_1 : fldT Tryd.prog 65 1 = some (3, 34) := by kernel_rfl
theorem agg66 : aggT Tryd.prog 66 = some false := by kernel_rfl
theorem siz66 : sizT Tryd.prog 66 = some 1 := by kernel_rfl
theorem byt66 : bytT Tryd.prog 66 = some 0 := by kernel_rfl
theorem elem66 : elemT Tryd.prog 66 = none := by kernel_rfl
theorem arr66 : arrT Tryd.prog 66 = none := by kernel_rfl
theorem int66 : intT Tryd.prog 66 = none := by kernel_rfl
theorem str66 : strT Tryd.prog 66 = false := by kernel_rfl
theorem agg67 : aggT Tryd.prog 67 = some false := by kernel_rfl
theorem siz67 : sizT Tryd.prog 67 = some 1 := by kernel_rfl
theorem byt67 : bytT Tryd.prog 67 = some 8 := by kernel_rfl
theorem elem67 : elemT Tryd.prog 67 = none := by kernel_rfl
theorem arr67 : arrT Tryd.prog 67 = none := by kernel_rfl
theorem int67 : intT Tryd.prog 67 = none := by kernel_rfl
theorem zer67 : zerT Tryd.prog 67 = some [.nilFunc] := by kernel_rfl
theorem str67 : strT Tryd.prog 67 = false := by kernel_rfl
theorem agg68 : aggT Tryd.prog 68 = some false := by kernel_rfl
theorem siz68 : sizT Tryd.prog 68 = some 1 := by kernel_rfl
theorem byt68 : bytT Tryd.prog 68 = some 8 := by kernel_rfl
theorem elem68 : elemT Tryd.prog 68 = none := by kernel_rfl
theorem arr68 : arrT Tryd.prog 68 = none := by kernel_rfl
theorem int68 : intT Tryd.prog 68 = none := by kernel_rfl
theorem zer68 : zerT Tryd.prog 68 = some [.nilFunc] := by kernel_rfl
theorem str68 : strT Tryd.prog 68 = false := by kernel_rfl
theorem agg69 : aggT Tryd.prog 69 = some false := by kernel_rfl
theorem siz69 : sizT Tryd.prog 69 = some 1 := by kernel_rfl
theorem byt69 : bytT Tryd.prog 69 = some 8 := by kernel_rfl
theorem elem69 : elemT Tryd.prog 69 = none := by kernel_rfl
theorem arr69 : arrT Tryd.prog 69 = none := by kernel_rfl
theorem int69 : intT Tryd.prog 69 = none := by kernel_rfl
theorem zer69 : zerT Tryd.prog 69 = some [.nilFunc] := by kernel_rfl
theorem str69 : strT Tryd.prog 69 = false := by kernel_rfl
theorem agg70 : aggT Tryd.prog 70 = some false := by kernel_rfl
theorem siz70 : sizT Tryd.prog 70 = some 1 := by kernel_rfl
theorem byt70 : bytT Tryd.prog 70 = some 8 := by kernel_rfl
theorem elem70 : elemT Tryd.prog 70 = none := by kernel_rfl
theorem arr70 : arrT Tryd.prog 70 = none := by kernel_rfl
theorem int70 : intT Tryd.prog 70 = none := by kernel_rfl
theorem zer70 : zerT Tryd.prog 70 = some [.nilFunc] := by kernel_rfl
theorem str70 : strT Tryd.prog 70 = false := by kernel_rfl
theorem agg71 : aggT Tryd.prog 71 = some false := by kernel_rfl
theorem siz71 : sizT Tryd.prog 71 = some 1 := by kernel_rfl
theorem byt71 : bytT Tryd.prog 71 = some 8 := by kernel_rfl
theorem elem71 : elemT Tryd.prog 71 = none := by kernel_rfl
theorem arr71 : arrT Tryd.prog 71 = none := by kernel_rfl
theorem int71 : intT Tryd.prog 71 = none := by kernel_rfl
theorem zer71 : zerT Tryd.prog 71 = some [.nilFunc] := by kernel_rfl
theorem str71 : strT Tryd.prog 71 = false := by kernel_rfl
theorem agg72 : aggT Tryd.prog 72 = some false := by kernel_rfl
theorem siz72 : sizT Tryd.prog 72 = some 1 := by kernel_rfl
theorem byt72 : bytT Tryd.prog 72 = some 8 := by kernel_rfl
theorem elem72 : elemT Tryd.prog 72 = none := by kernel_rfl
theorem arr72 : arrT Tryd.prog 72 = none := by kernel_rfl
theorem int72 : intT Tryd.prog 72 = none := by kernel_rfl
theorem zer72 : zerT Tryd.prog 72 = some [.nilFunc] := by kernel_rfl
theorem str72 : strT Tryd.prog 72 = false := by kernel_rfl
theorem agg73 : aggT Tryd.prog 73 = some false := by kernel_rfl
theorem siz73 : sizT Tryd.prog 73 = some 1 := by kernel_rfl
theorem byt73 : bytT Tryd.prog 73 = some 8 := by kernel_rfl
theorem elem73 : elemT Tryd.prog 73 = none := by kernel_rfl
theorem arr73 : arrT Tryd.prog 73 = none := by kernel_rfl
theorem int73 : intT Tryd.prog 73 = none := by kernel_rfl
theorem zer73 : zerT Tryd.prog 73 = some [.nilFunc] := by kernel_rfl
theorem str73 : strT Tryd.prog 73 = false := by kernel_rfl
theorem agg74 : aggT Tryd.prog 74 = some false := by kernel_rfl
theorem siz74 : sizT Tryd.prog 74 = some 1 := by kernel_rfl
theorem byt74 : bytT Tryd.prog 74 = some 8 := by kernel_rfl
theorem elem74 : elemT Tryd.prog 74 = none := by kernel_rfl
theorem arr74 : arrT Tryd.prog 74 = none := by kernel_rfl
theorem int74 : intT Tryd.prog 74 = none := by kernel_rfl
theorem zer74 : zerT Tryd.prog 74 = some [.nilFunc] := by kernel_rfl
theorem str74 : strT Tryd.prog 74 = false := by kernel_rfl
theorem agg75 : aggT Tryd.prog 75 = some false := by kernel_rfl
theorem siz75 : sizT Tryd.prog 75 = some 1 := by kernel_rfl
theorem byt75 : bytT Tryd.prog 75 = some 8 := by kernel_rfl
theorem elem75 : elemT Tryd.prog 75 = none := by kernel_rfl
theorem arr75 : arrT Tryd.prog 75 = none := by kernel_rfl
theorem int75 : intT Tryd.prog 75 = none := by kernel_rfl
theorem zer75 : zerT Tryd.prog 75 = some [.nilFunc] := by kernel_rfl
theorem str75 : strT Tryd.prog 75 = false := by kernel_rfl
theorem agg76 : aggT Tryd.prog 76 = some false := by kernel_rfl
theorem siz76 : sizT Tryd.prog 76 = some 1 := by kernel_rfl
theorem byt76 : bytT Tryd.prog 76 = some 8 := by kernel_rfl
theorem elem76 : elemT Tryd.prog 76 = none := by kernel_rfl
theorem arr76 : arrT Tryd.prog 76 = none := by kernel_rfl
theorem int76 : intT Tryd.prog 76 = none := by kernel_rfl
theorem zer76 : zerT Tryd.prog 76 = some [.nilFunc] := by kernel_rfl
theorem str76 : strT Tryd.prog 76 = false := by kernel_rfl
theorem agg77 : aggT Tryd.prog 77 = some false := by kernel_rfl
theorem siz77 : sizT Tryd.prog 77 = some 1 := by kernel_rfl
theorem byt77 : bytT Tryd.prog 77 = some 8 := by kernel_rfl
theorem elem77 : elemT Tryd.prog 77 = none := by kernel_rfl
theorem arr77 : arrT Tryd.prog 77 = none := by kernel_rfl
theorem int77 : intT Tryd.prog 77 = none := by kernel_rfl
theorem zer77 : zerT Tryd.prog 77 = some [.nilFunc] := by kernel_rfl
theorem str77 : strT Tryd.prog 77 = false := by kernel_rfl
theorem agg78 : aggT Tryd.prog 78 = some false := by kernel_rfl
theorem siz78 : sizT Tryd.prog 78 = some 1 := by kernel_rfl
theorem byt78 : bytT Tryd.prog 78 = some 24 := by kernel_rfl
theorem elem78 : elemT Tryd.prog 78 = some 34 := by kernel_rfl
theorem arr78 : arrT Tryd.prog 78 = none := by kernel_rfl
theorem int78 : intT Tryd.prog 78 = none := by kernel_rfl
theorem zer78 : zerT Tryd.prog 78 = some [.slice none 0 0] := by kernel_rfl
theorem str78 : strT Tryd.prog 78 = false := by kernel_rfl
theorem agg79 : aggT Tryd.prog 79 = some false := by kernel_rfl
theorem siz79 : sizT Tryd.prog 79 = some 1 := by kernel_rfl
theorem byt79 : bytT Tryd.prog 79 = some 8 := by kernel_rfl
theorem elem79 : elemT Tryd.prog 79 = none := by kernel_rfl
theorem arr79 : arrT Tryd.prog 79 = none := by kernel_rfl
theorem int79 : intT Tryd.prog 79 = none := by kernel_rfl
theorem zer79 : zerT Tryd.prog 79 = some [.nilFunc] := by kernel_rfl
theorem str79 : strT Tryd.prog 79 = false := by kernel_rfl
theorem agg80 : aggT Tryd.prog 80 = some false := by kernel_rfl
theorem siz80 : sizT Tryd.prog 80 = some 1 := by kernel_rfl
theorem byt80 : bytT Tryd.prog 80 = some 8 := by kernel_rfl
theorem elem80 : elemT Tryd.prog 80 = none := by kernel_rfl
theorem arr80 : arrT Tryd.prog 80 = none := by kernel_rfl
theorem int80 : intT Tryd.prog 80 = none := by kernel_rfl
theorem zer80 : zerT Tryd.prog 80 = some [.nilFunc] := by kernel_rfl
theorem str80 : strT Tryd.prog 80 = false := by kernel_rfl
theorem agg81 : aggT Tryd.prog 81 = some false := by kernel_rfl
theorem siz81 : sizT Tryd.prog 81 = some 1 := by kernel_rfl
theorem byt81 : bytT Tryd.prog 81 = some 2 := by kernel_rfl
theorem elem81 : elemT Tryd.prog 81 = none := by kernel_rfl
theorem arr81 : arrT Tryd.prog 81 = none := by kernel_rfl
theorem int81 : intT Tryd.prog 81 = some .u16 := by kernel_rfl
theorem zer81 : zerT Tryd.prog 81 = some [.int .u16 0] := by kernel_rfl
theorem str81 : strT Tryd.prog 81 = false := by kernel_rfl
theorem agg82 : aggT Tryd.prog 82 = some false := by kernel_rfl
theorem siz82 : sizT Tryd.prog 82 = some 1 := by kernel_rfl
theorem byt82 : bytT Tryd.prog 82 = some 8 := by kernel_rfl
theorem elem82 : elemT Tryd.prog 82 = none := by kernel_rfl
theorem arr82 : arrT Tryd.prog 82 = none := by kernel_rfl
theorem int82 : intT Tryd.prog 82 = none := by kernel_rfl
theorem zer82 : zerT Tryd.prog 82 = some [.nilFunc] := by kernel_rfl
theorem str82 : strT Tryd.prog 82 = false := by kernel_rfl
theorem agg83 : aggT Tryd.prog 83 = some false := by kernel_rfl
theorem siz83 : sizT Tryd.prog 83 = some 1 := by kernel_rfl
theorem byt83 : bytT Tryd.prog 83 = some 0 := by kernel_rfl
theorem elem83 : elemT Tryd.prog 83 = none := by kernel_rfl
theorem arr83 : arrT Tryd.prog 83 = none := by kernel_rfl
theorem int83 : intT Tryd.prog 83 = none := by kernel_rfl
theorem str83 : strT Tryd.prog 83 = false := by kernel_rfl
theorem agg84 : aggT Tryd.prog 84 = some false := by kernel_rfl
theorem siz84 : sizT Tryd.prog 84 = some 1 := by kernel_rfl
theorem byt84 : bytT Tryd.prog 84 = some 8 := by kernel_rfl
theorem elem84 : elemT Tryd.prog 84 = none := by kernel_rfl
theorem arr84 : arrT Tryd.prog 84 = none := by kernel_rfl
theorem int84 : intT Tryd.prog 84 = none := by kernel_rfl
theorem zer84 : zerT Tryd.prog 84 = some [.nilFunc] := by kernel_rfl
theorem str84 : strT Tryd.prog 84 = false := by kernel_rfl
theorem agg85 : aggT Tryd.prog 85 = some false := by kernel_rfl
theorem siz85 : sizT Tryd.prog 85 = some 1 := by kernel_rfl
theorem byt85 : bytT Tryd.prog 85 = some 8 := by kernel_rfl
theorem elem85 : elemT Tryd.prog 85 = none := by kernel_rfl
theorem arr85 : arrT Tryd.prog 85 = none := by kernel_rfl
theorem int85 : intT Tryd.prog 85 = none := by kernel_rfl
theorem zer85 : zerT Tryd.prog 85 = some [.nilFunc] := by kernel_rfl
theorem str85 : strT Tryd.prog 85 = false := by kernel_rfl
theorem agg86 : aggT Tryd.prog 86 = some false := by kernel_rfl
theorem siz86 : sizT Tryd.prog 86 = some 1 := by kernel_rfl
theorem byt86 : bytT Tryd.prog 86 = some 8 := by kernel_rfl
theorem elem86 : elemT Tryd.prog 86 = none := by kernel_rfl
theorem arr86 : arrT Tryd.prog 86 = none := by kernel_rfl
theorem int86 : intT Tryd.prog 86 = none := by kernel_rfl
theorem zer86 : zerT Tryd.prog 86 = some [.nilFunc] := by kernel_rfl
theorem str86 : strT Tryd.prog 86 = false := by kernel_rfl
theorem agg87 : aggT Tryd.prog 87 = some false := by kernel_rfl
theorem siz87 : sizT Tryd.prog 87 = some 1 := by kernel_rfl
theorem byt87 : bytT Tryd.prog 87 = some 8 := by kernel_rfl
theorem elem87 : elemT Tryd.prog 87 = none := by kernel_rfl
theorem arr87 : arrT Tryd.prog 87 = none := by kernel_rfl
theorem int87 : intT Tryd.prog 87 = none := by kernel_rfl
theorem zer87 : zerT Tryd.prog 87 = some [.nilFunc] := by kernel_rfl
theorem str87 : strT Tryd.prog 87 = false := by kernel_rfl
theorem agg88 : aggT Tryd.prog 88 = some false := by kernel_rfl
theorem siz88 : sizT Tryd.prog 88 = some 1 := by kernel_rfl
theorem byt88 : bytT Tryd.prog 88 = some 8 := by kernel_rfl
theorem elem88 : elemT Tryd.prog 88 = none := by kernel_rfl
theorem arr88 : arrT Tryd.prog 88 = none := by kernel_rfl
theorem int88 : intT Tryd.prog 88 = none := by kernel_rfl
theorem zer88 : zerT Tryd.prog 88 = some [.nilFunc] := by kernel_rfl
theorem str88 : strT Tryd.prog 88 = false := by kernel_rfl
theorem agg89 : aggT Tryd.prog 89 = some true := by kernel_rfl
theorem siz89 : sizT Tryd.prog 89 = some 16 := by kernel_rfl
theorem byt89 : bytT Tryd.prog 89 = some 16 := by kernel_rfl
theorem elem89 : elemT Tryd.prog 89 = none := by kernel_rfl
theorem arr89 : arrT Tryd.prog 89 = some (16, 5) := by kernel_rfl
theorem int89 : intT Tryd.prog 89 = none := by kernel_rfl
theorem zer89 : zerT Tryd.prog 89 = some [.int .u8 0, .int .u8 0, .int .u8 0, .int .u8 0, .int .u8 0, .int .u8 0, .int .u8 0, .int .u8 0, .int .u8 0, .int .u8 0, .int .u8 0, .int .u8 0, .int .u8 0, .int .u8 0, .int .u8 0, .int .u8 0] := by kernel_rfl
theorem kd89 : kdT Tryd.prog 60 89 = some [.int .u8, .int .u8, .int .u8, .int .u8, .int .u8, .int .u8, .int .u8, .int .u8, .int .u8, .int .u8, .int .u8, .int .u8, .int .u8, .int .u8, .int .u8, .int .u8] := by kernel_rfl
theorem eqg89 : Tryd.prog.eqGuardType (Tryd.prog.depth) 89 = false := by kernel_rfl
theorem szs89 : sizesOk Tryd.prog 89 = true := by kernel_rfl
theorem plc89_0 : placeT Tryd.prog 89 0 = some (0, 1) := by kernel_rfl
theorem plc89_1 : placeT Tryd.prog 89 1 = some (1, 1) := by kernel_rfl
theorem plc89_2 : placeT Tryd.prog 89 2 = some (2, 1) := by kernel_rfl
theorem plc89_3 : placeT Tryd.prog 89 3 = some (3, 1) := by kernel_rfl
theorem plc89_4 : placeT Tryd.prog 89 4 = some (4, 1) := by kernel_rfl
theorem plc89_5 : placeT Tryd.prog 89 5 = some (5, 1) := by kernel_rfl
theorem plc89_6 : placeT Tryd.prog 89 6 = some (6, 1) := by kernel_rfl
theorem plc89_7 : placeT Tryd.prog 89 7 = some (7, 1) := by kernel_rfl
theorem plc89_8 : placeT Tryd.prog 89 8 = some (8, 1) := by kernel_rfl
theorem plc89_9 : placeT Tryd.prog 89 9 = some (9, 1) := by kernel_rfl
theorem plc89_10 : placeT Tryd.prog 89 10 = some (10, 1) := by kernel_rfl
theorem plc89_11 : placeT Tryd.prog 89 11 = some (11, 1) := by kernel_rfl
theorem str89 : strT Tryd.prog 89 = false := by kernel_rfl
theorem agg90 : aggT Tryd.prog 90 = some false := by kernel_rfl
theorem siz90 : sizT Tryd.prog 90 = some 1 := by kernel_rfl
theorem byt90 : bytT Tryd.prog 90 = some 8 := by kernel_rfl
theorem elem90 : elemT Tryd.prog 90 = none := by kernel_rfl
theorem arr90 : arrT Tryd.prog 90 = none := by kernel_rfl
theorem int90 : intT Tryd.prog 90 = none := by kernel_rfl
theorem zer90 : zerT Tryd.prog 90 = some [.nilFunc] := by kernel_rfl
theorem str90 : strT Tryd.prog 90 = false := by kernel_rfl
theorem agg91 : aggT Tryd.prog 91 = some false := by kernel_rfl
theorem siz91 : sizT Tryd.prog 91 = some 1 := by kernel_rfl
theorem byt91 : bytT Tryd.prog 91 = some 8 := by kernel_rfl
theorem elem91 : elemT Tryd.prog 91 = none := by kernel_rfl
theorem arr91 : arrT Tryd.prog 91 = none := by kernel_rfl
theorem int91 : intT Tryd.prog 91 = none := by kernel_rfl
theorem zer91 : zerT Tryd.prog 91 = some [.nilFunc] := by kernel_rfl
theorem str91 : strT Tryd.prog 91 = false := by kernel_rfl
theorem agg92 : aggT Tryd.prog 92 = some false := by kernel_rfl
theorem siz92 : sizT Tryd.prog 92 = some 1 := by kernel_rfl
theorem byt92 : bytT Tryd.prog 92 = some 8 := by kernel_rfl
theorem elem92 : elemT Tryd.prog 92 = none := by kernel_rfl
theorem arr92 : arrT Tryd.prog 92 = none := by kernel_rfl
theorem int92 : intT Tryd.prog 92 = none := by kernel_rfl
theorem zer92 : zerT Tryd.prog 92 = some [.nilFunc] := by kernel_rfl
theorem str92 : strT Tryd.prog 92 = false := by kernel_rfl
theorem agg93 : aggT Tryd.prog 93 = some false := by kernel_rfl
theorem siz93 : sizT Tryd.prog 93 = some 1 := by kernel_rfl
theorem byt93 : bytT Tryd.prog 93 = some 0 := by kernel_rfl
theorem elem93 : elemT Tryd.prog 93 = none := by kernel_rfl
theorem arr93 : arrT Tryd.prog 93 = none := by kernel_rfl
theorem int93 : intT Tryd.prog 93 = none := by kernel_rfl
theorem str93 : strT Tryd.prog 93 = false := by kernel_rfl
theorem agg94 : aggT Tryd.prog 94 = some false := by kernel_rfl
theorem siz94 : sizT Tryd.prog 94 = some 1 := by kernel_rfl
theorem byt94 : bytT Tryd.prog 94 = some 8 := by kernel_rfl
theorem elem94 : elemT Tryd.prog 94 = none := by kernel_rfl
theorem arr94 : arrT Tryd.prog 94 = none := by kernel_rfl
theorem int94 : intT Tryd.prog 94 = none := by kernel_rfl
theorem zer94 : zerT Tryd.prog 94 = some [.nilFunc] := by kernel_rfl
theorem str94 : strT Tryd.prog 94 = false := by kernel_rfl
theorem agg95 : aggT Tryd.prog 95 = some false := by kernel_rfl
theorem siz95 : sizT Tryd.prog 95 = some 1 := by kernel_rfl
theorem byt95 : bytT Tryd.prog 95 = some 8 := by kernel_rfl
theorem elem95 : elemT Tryd.prog 95 = none := by kernel_rfl
theorem arr95 : arrT Tryd.prog 95 = none := by kernel_rfl
theorem int95 : intT Tryd.prog 95 = none := by kernel_rfl
theorem zer95 : zerT Tryd.prog 95 = some [.nilFunc] := by kernel_rfl
theorem str95 : strT Tryd.prog 95 = false := by kernel_rfl
theorem agg96 : aggT Tryd.prog 96 = some true := by kernel_rfl
theorem siz96 : sizT Tryd.prog 96 = some 4 := by kernel_rfl
theorem byt96 : bytT Tryd.prog 96 = some 40 := by kernel_rfl
theorem elem96 : elemT Tryd.prog 96 = none := by kernel_rfl
theorem arr96 : arrT Tryd.prog 96 = none := by kernel_rfl
theorem int96 : intT Tryd.prog 96 = none := by kernel_rfl
theorem zer96 : zerT Tryd.prog 96 = some [.pointer none, .pointer none, .pointer none, .string ByteArray.empty] := by kernel_rfl
theorem eqg96 : Tryd.prog.eqGuardType (Tryd.prog.depth) 96 = false := by kernel_rfl
theorem szs96 : sizesOk Tryd.prog 96 = true := by kernel_rfl
theorem plc96_0 : placeT Tryd.prog 96 0 = some (0, 1) := by kernel_rfl
theorem plc96_1 : placeT Tryd.prog 96 1 = some (1, 1) := by kernel_rfl
theorem plc96_2 : placeT Tryd.prog 96 2 = some (2, 1) := by kernel_rfl
theorem plc96_3 : placeT Tryd.prog 96 3 = some (3, 1) := by kernel_rfl
theorem str96 : strT Tryd.prog 96 = false := by kernel_rfl
theorem fld96_0 : fldT Tryd.prog 96 0 = some (0, 17) := by kernel_rfl
theorem fld96_1 : fldT Tryd.prog 96 1 = some (1, 17) := by kernel_rfl
theorem fld96_2 : fldT Tryd.prog 96 2 = some (2, 17) := by kernel_rfl
theorem fld96_3 : fldT Tryd.prog 96 3 = some (3, 9) := by kernel_rfl
theorem agg97 : aggT Tryd.prog 97 = some true := by kernel_rfl
theorem siz97 : sizT Tryd.prog 97 = some 4 := by kernel_rfl
theorem byt97 : bytT Tryd.prog 97 = some 40 := by kernel_rfl
theorem elem97 : elemT Tryd.prog 97 = none := by kernel_rfl
theorem arr97 : arrT Tryd.prog 97 = none := by kernel_rfl
theorem int97 : intT Tryd.prog 97 = none := by kernel_rfl
theorem zer97 : zerT Tryd.prog 97 = some [.pointer none, .pointer none, .pointer none, .string ByteArray.empty] := by kernel_rfl
theorem eqg97 : Tryd.prog.eqGuardType (Tryd.prog.depth) 97 = false := by kernel_rfl
theorem szs97 : sizesOk Tryd.prog 97 = true := by kernel_rfl
theorem plc97_0 : placeT Tryd.prog 97 0 = some (0, 1) := by kernel_rfl
theorem plc97_1 : placeT Tryd.prog 97 1 = some (1, 1) := by kernel_rfl
theorem plc97_2 : placeT Tryd.prog 97 2 = some (2, 1) := by kernel_rfl
theorem plc97_3 : placeT Tryd.prog 97 3 = some (3, 1) := by kernel_rfl
theorem str97 : strT Tryd.prog 97 = false := by kernel_rfl
theorem fld97_0 : fldT Tryd.prog 97 0 = some (0, 17) := by kernel_rfl
theorem fld97_1 : fldT Tryd.prog 97 1 = some (1, 17) := by kernel_rfl
theorem fld97_2 : fldT Tryd.prog 97 2 = some (2, 17) := by kernel_rfl
theorem fld97_3 : fldT Tryd.prog 97 3 = some (3, 9) := by kernel_rfl
theorem agg98 : aggT Tryd.prog 98 = some true := by kernel_rfl
theorem siz98 : sizT Tryd.prog 98 = some 0 := by kernel_rfl
theorem byt98 : bytT Tryd.prog 98 = some 0 := by kernel_rfl
theorem elem98 : elemT Tryd.prog 98 = none := by kernel_rfl
theorem arr98 : arrT Tryd.prog 98 = some (0, 16) := by kernel_rfl
theorem int98 : intT Tryd.prog 98 = none := by kernel_rfl
theorem zer98 : zerT Tryd.prog 98 = some [] := by kernel_rfl
theorem eqg98 : Tryd.prog.eqGuardType (Tryd.prog.depth) 98 = false := by kernel_rfl
theorem szs98 : sizesOk Tryd.prog 98 = true := by kernel_rfl
theorem plc98_0 : placeT Tryd.prog 98 0 = some (0, 1) := by kernel_rfl
theorem plc98_1 : placeT Tryd.prog 98 1 = some (1, 1) := by kernel_rfl
theorem plc98_2 : placeT Tryd.prog 98 2 = some (2, 1) := by kernel_rfl
theorem plc98_3 : placeT Tryd.prog 98 3 = some (3, 1) := by kernel_rfl
theorem plc98_4 : placeT Tryd.prog 98 4 = some (4, 1) := by kernel_rfl
theorem plc98_5 : placeT Tryd.prog 98 5 = some (5, 1) := by kernel_rfl
theorem plc98_6 : placeT Tryd.prog 98 6 = some (6, 1) := by kernel_rfl
theorem plc98_7 : placeT Tryd.prog 98 7 = some (7, 1) := by kernel_rfl
theorem plc98_8 : placeT Tryd.prog 98 8 = some (8, 1) := by kernel_rfl
theorem plc98_9 : placeT Tryd.prog 98 9 = some (9, 1) := by kernel_rfl
theorem plc98_10 : placeT Tryd.prog 98 10 = some (10, 1) := by kernel_rfl
theorem plc98_11 : placeT Tryd.prog 98 11 = some (11, 1) := by kernel_rfl
theorem str98 : strT Tryd.prog 98 = false := by kernel_rfl
theorem agg99 : aggT Tryd.prog 99 = some true := by kernel_rfl
theorem siz99 : sizT Tryd.prog 99 = some 0 := by kernel_rfl
theorem byt99 : bytT Tryd.prog 99 = some 0 := by kernel_rfl
theorem elem99 : elemT Tryd.prog 99 = none := by kernel_rfl
theorem arr99 : arrT Tryd.prog 99 = none := by kernel_rfl
theorem int99 : intT Tryd.prog 99 = none := by kernel_rfl
theorem zer99 : zerT Tryd.prog 99 = some [] := by kernel_rfl
theorem eqg99 : Tryd.prog.eqGuardType (Tryd.prog.depth) 99 = false := by kernel_rfl
theorem szs99 : sizesOk Tryd.prog 99 = true := by kernel_rfl
theorem plc99_0 : placeT Tryd.prog 99 0 = some (0, 0) := by kernel_rfl
theorem str99 : strT Tryd.prog 99 = false := by kernel_rfl
theorem fld99_0 : fldT Tryd.prog 99 0 = some (0, 98) := by kernel_rfl
theorem agg100 : aggT Tryd.prog 100 = some true := by kernel_rfl
theorem siz100 : sizT Tryd.prog 100 = some 0 := by kernel_rfl
theorem byt100 : bytT Tryd.prog 100 = some 0 := by kernel_rfl
theorem elem100 : elemT Tryd.prog 100 = none := by kernel_rfl
theorem arr100 : arrT Tryd.prog 100 = none := by kernel_rfl
theorem int100 : intT Tryd.prog 100 = none := by kernel_rfl
theorem zer100 : zerT Tryd.prog 100 = some [] := by kernel_rfl
theorem eqg100 : Tryd.prog.eqGuardType (Tryd.prog.depth) 100 = false := by kernel_rfl
theorem szs100 : sizesOk Tryd.prog 100 = true := by kernel_rfl
theorem plc100_0 : placeT Tryd.prog 100 0 = some (0, 0) := by kernel_rfl
theorem str100 : strT Tryd.prog 100 = false := by kernel_rfl
theorem fld100_0 : fldT Tryd.prog 100 0 = some (0, 98) := by kernel_rfl
theorem agg101 : aggT Tryd.prog 101 = some false := by kernel_rfl
theorem siz101 : sizT Tryd.prog 101 = some 1 := by kernel_rfl
theorem byt101 : bytT Tryd.prog 101 = some 1 := by kernel_rfl
theorem elem101 : elemT Tryd.prog 101 = none := by kernel_rfl
theorem arr101 : arrT Tryd.prog 101 = none := by kernel_rfl
theorem int101 : intT Tryd.prog 101 = some .u8 := by kernel_rfl
theorem zer101 : zerT Tryd.prog 101 = some [.int .u8 0] := by kernel_rfl
theorem str101 : strT Tryd.prog 101 = false := by kernel_rfl
theorem agg102 : aggT Tryd.prog 102 = some false := by kernel_rfl
theorem siz102 : sizT Tryd.prog 102 = some 1 := by kernel_rfl
theorem byt102 : bytT Tryd.prog 102 = some 1 := by kernel_rfl
theorem elem102 : elemT Tryd.prog 102 = none := by kernel_rfl
theorem arr102 : arrT Tryd.prog 102 = none := by kernel_rfl
theorem int102 : intT Tryd.prog 102 = some .u8 := by kernel_rfl
theorem zer102 : zerT Tryd.prog 102 = some [.int .u8 0] := by kernel_rfl
theorem str102 : strT Tryd.prog 102 = false := by kernel_rfl
theorem agg103 : aggT Tryd.prog 103 = some false := by kernel_rfl
theorem siz103 : sizT Tryd.prog 103 = some 1 := by kernel_rfl
theorem byt103 : bytT Tryd.prog 103 = some 8 := by kernel_rfl
theorem elem103 : elemT Tryd.prog 103 = none := by kernel_rfl
theorem arr103 : arrT Tryd.prog 103 = none := by kernel_rfl
theorem int103 : intT Tryd.prog 103 = none := by kernel_rfl
theorem zer103 : zerT Tryd.prog 103 = some [.nilFunc] := by kernel_rfl
theorem str103 : strT Tryd.prog 103 = false := by kernel_rfl
theorem agg104 : aggT Tryd.prog 104 = some false := by kernel_rfl
theorem siz104 : sizT Tryd.prog 104 = some 1 := by kernel_rfl
theorem byt104 : bytT Tryd.prog 104 = some 8 := by kernel_rfl
theorem elem104 : elemT Tryd.prog 104 = none := by kernel_rfl
theorem arr104 : arrT Tryd.prog 104 = none := by kernel_rfl
theorem int104 : intT Tryd.prog 104 = none := by kernel_rfl
theorem zer104 : zerT Tryd.prog 104 = some [.pointer none] := by kernel_rfl
theorem str104 : strT Tryd.prog 104 = false := by kernel_rfl
theorem agg105 : aggT Tryd.prog 105 = some false := by kernel_rfl
theorem siz105 : sizT Tryd.prog 105 = some 1 := by kernel_rfl
theorem byt105 : bytT Tryd.prog 105 = some 4 := by kernel_rfl
theorem elem105 : elemT Tryd.prog 105 = none := by kernel_rfl
theorem arr105 : arrT Tryd.prog 105 = none := by kernel_rfl
theorem int105 : intT Tryd.prog 105 = some .i32 := by kernel_rfl
theorem zer105 : zerT Tryd.prog 105 = some [.int .i32 0] := by kernel_rfl
theorem str105 : strT Tryd.prog 105 = false := by kernel_rfl
theorem agg106 : aggT Tryd.prog 106 = some false := by kernel_rfl
theorem siz106 : sizT Tryd.prog 106 = some 1 := by kernel_rfl
theorem byt106 : bytT Tryd.prog 106 = some 4 := by kernel_rfl
theorem elem106 : elemT Tryd.prog 106 = none := by kernel_rfl
theorem arr106 : arrT Tryd.prog 106 = none := by kernel_rfl
theorem int106 : intT Tryd.prog 106 = some .i32 := by kernel_rfl
theorem zer106 : zerT Tryd.prog 106 = some [.int .i32 0] := by kernel_rfl
theorem str106 : strT Tryd.prog 106 = false := by kernel_rfl
theorem agg107 : aggT Tryd.prog 107 = some true := by kernel_rfl
theorem siz107 : sizT Tryd.prog 107 = some 11 := by kernel_rfl
theorem byt107 : bytT Tryd.prog 107 = some 48 := by kernel_rfl
theorem elem107 : elemT Tryd.prog 107 = none := by kernel_rfl
theorem arr107 : arrT Tryd.prog 107 = none := by kernel_rfl
theorem int107 : intT Tryd.prog 107 = none := by kernel_rfl
theorem zer107 : zerT Tryd.prog 107 = some [.int .u64 0, .int .u64 0, .int .u32 0, .int .u8 0, .int .u8 0, .int .u8 0, .int .u8 0, .nilFunc, .pointer none, .int .i32 0, .int .i32 0] := by kernel_rfl
theorem eqg107 : Tryd.prog.eqGuardType (Tryd.prog.depth) 107 = false := by kernel_rfl
theorem szs107 : sizesOk Tryd.prog 107 = true := by kernel_rfl
theorem plc107_0 : placeT Tryd.prog 107 0 = some (0, 1) := by kernel_rfl
theorem plc107_1 : placeT Tryd.prog 107 1 = some (1, 1) := by kernel_rfl
theorem plc107_2 : placeT Tryd.prog 107 2 = some (2, 1) := by kernel_rfl
theorem plc107_3 : placeT Tryd.prog 107 3 = some (3, 1) := by kernel_rfl
theorem plc107_4 : placeT Tryd.prog 107 4 = some (4, 1) := by kernel_rfl
theorem plc107_5 : placeT Tryd.prog 107 5 = some (5, 1) := by kernel_rfl
theorem plc107_6 : placeT Tryd.prog 107 6 = some (6, 1) := by kernel_rfl
theorem plc107_7 : placeT Tryd.prog 107 7 = some (7, 1) := by kernel_rfl
theorem plc107_8 : placeT Tryd.prog 107 8 = some (8, 1) := by kernel_rfl
theorem plc107_9 : placeT Tryd.prog 107 9 = some (9, 1) := by kernel_rfl
theorem plc107_10 : placeT Tryd.prog 107 10 = some (10, 1) := by kernel_rfl
theorem str107 : strT Tryd.prog 107 = false := by kernel_rfl
theorem fld107_0 : fldT Tryd.prog 107 0 = some (0, 12) := by kernel_rfl
theorem fld107_1 : fldT Tryd.prog 107 1 = some (1, 12) := by kernel_rfl
theorem fld107_2 : fldT Tryd.prog 107 2 = some (2, 22) := by kernel_rfl
theorem fld107_3 : fldT Tryd.prog 107 3 = some (3, 101) := by kernel_rfl
theorem fld107_4 : fldT Tryd.prog 107 4 = some (4, 5) := by kernel_rfl
theorem fld107_5 : fldT Tryd.prog 107 5 = some (5, 5) := by kernel_rfl
theorem fld107_6 : fldT Tryd.prog 107 6 = some (6, 102) := by kernel_rfl
theorem fld107_7 : fldT Tryd.prog 107 7 = some (7, 103) := by kernel_rfl
theorem fld107_8 : fldT Tryd.prog 107 8 = some (8, 104) := by kernel_rfl
theorem fld107_9 : fldT Tryd.prog 107 9 = some (9, 105) := by kernel_rfl
theorem fld107_10 : fldT Tryd.prog 107 10 = some (10, 106) := by kernel_rfl
theorem agg108 : aggT Tryd.prog 108 = some true := by kernel_rfl
theorem siz108 : sizT Tryd.prog 108 = some 11 := by kernel_rfl
theorem byt108 : bytT Tryd.prog 108 = some 48 := by kernel_rfl
theorem elem108 : elemT Tryd.prog 108 = none := by kernel_rfl
theorem arr108 : arrT Tryd.prog 108 = none := by kernel_rfl
theorem int108 : intT Tryd.prog 108 = none := by kernel_rfl
theorem zer108 : zerT Tryd.prog 108 = some [.int .u64 0, .int .u64 0, .int .u32 0, .int .u8 0, .int .u8 0, .int .u8 0, .int .u8 0, .nilFunc, .pointer none, .int .i32 0, .int .i32 0] := by kernel_rfl
theorem eqg108 : Tryd.prog.eqGuardType (Tryd.prog.depth) 108 = false := by kernel_rfl
theorem szs108 : sizesOk Tryd.prog 108 = true := by kernel_rfl
theorem plc108_0 : placeT Tryd.prog 108 0 = some (0, 1) := by kernel_rfl
theorem plc108_1 : placeT Tryd.prog 108 1 = some (1, 1) := by kernel_rfl
theorem plc108_2 : placeT Tryd.prog 108 2 = some (2, 1) := by kernel_rfl
theorem plc108_3 : placeT Tryd.prog 108 3 = some (3, 1) := by kernel_rfl
theorem plc108_4 : placeT Tryd.prog 108 4 = some (4, 1) := by kernel_rfl
theorem plc108_5 : placeT Tryd.prog 108 5 = some (5, 1) := by kernel_rfl
theorem plc108_6 : placeT Tryd.prog 108 6 = some (6, 1) := by kernel_rfl
theorem plc108_7 : placeT Tryd.prog 108 7 = some (7, 1) := by kernel_rfl
theorem plc108_8 : placeT Tryd.prog 108 8 = some (8, 1) := by kernel_rfl
theorem plc108_9 : placeT Tryd.prog 108 9 = some (9, 1) := by kernel_rfl
theorem plc108_10 : placeT Tryd.prog 108 10 = some (10, 1) := by kernel_rfl
theorem str108 : strT Tryd.prog 108 = false := by kernel_rfl
theorem fld108_0 : fldT Tryd.prog 108 0 = some (0, 12) := by kernel_rfl
theorem fld108_1 : fldT Tryd.prog 108 1 = some (1, 12) := by kernel_rfl
theorem fld108_2 : fldT Tryd.prog 108 2 = some (2, 22) := by kernel_rfl
theorem fld108_3 : fldT Tryd.prog 108 3 = some (3, 101) := by kernel_rfl
theorem fld108_4 : fldT Tryd.prog 108 4 = some (4, 5) := by kernel_rfl
theorem fld108_5 : fldT Tryd.prog 108 5 = some (5, 5) := by kernel_rfl
theorem fld108_6 : fldT Tryd.prog 108 6 = some (6, 102) := by kernel_rfl
theorem fld108_7 : fldT Tryd.prog 108 7 = some (7, 103) := by kernel_rfl
theorem fld108_8 : fldT Tryd.prog 108 8 = some (8, 104) := by kernel_rfl
theorem fld108_9 : fldT Tryd.prog 108 9 = some (9, 105) := by kernel_rfl
theorem fld108_10 : fldT Tryd.prog 108 10 = some (10, 106) := by kernel_rfl
theorem agg109 : aggT Tryd.prog 109 = some false := by kernel_rfl
theorem siz109 : sizT Tryd.prog 109 = some 1 := by kernel_rfl
theorem byt109 : bytT Tryd.prog 109 = some 8 := by kernel_rfl
theorem elem109 : elemT Tryd.prog 109 = none := by kernel_rfl
theorem arr109 : arrT Tryd.prog 109 = none := by kernel_rfl
theorem int109 : intT Tryd.prog 109 = none := by kernel_rfl
theorem zer109 : zerT Tryd.prog 109 = some [.pointer none] := by kernel_rfl
theorem str109 : strT Tryd.prog 109 = false := by kernel_rfl
theorem und0 : (Tryd.prog.underlying 0).isSome = true := by kernel_rfl
theorem und1 : (Tryd.prog.underlying 1).isSome = true := by kernel_rfl
theorem und2 : (Tryd.prog.underlying 2).isSome = true := by kernel_rfl
theorem und3 : (Tryd.prog.underlying 3).isSome = true := by kernel_rfl
theorem und4 : (Tryd.prog.underlying 4).isSome = true := by kernel_rfl
theorem und5 : (Tryd.prog.underlying 5).isSome = true := by kernel_rfl
theorem und6 : (Tryd.prog.underlying 6).isSome = true := by kernel_rfl
theorem und7 : (Tryd.prog.underlying 7).isSome = true := by kernel_rfl
theorem und8 : (Tryd.prog.underlying 8).isSome = true := by kernel_rfl
theorem und9 : (Tryd.prog.underlying 9).isSome = true := by kernel_rfl
theorem und10 : (Tryd.prog.underlying 10).isSome = true := by kernel_rfl
theorem und11 : (Tryd.prog.underlying 11).isSome = true := by kernel_rfl
theorem und12 : (Tryd.prog.underlying 12).isSome = true := by kernel_rfl
theorem und13 : (Tryd.prog.underlying 13).isSome = true := by kernel_rfl
theorem und14 : (Tryd.prog.underlying 14).isSome = true := by kernel_rfl
theorem und15 : (Tryd.prog.underlying 15).isSome = true := by kernel_rfl
theorem und16 : (Tryd.prog.underlying 16).isSome = true := by kernel_rfl
theorem und17 : (Tryd.prog.underlying 17).isSome = true := by kernel_rfl
theorem und18 : (Tryd.prog.underlying 18).isSome = true := by kernel_rfl
theorem und19 : (Tryd.prog.underlying 19).isSome = true := by kernel_rfl
theorem und20 : (Tryd.prog.underlying 20).isSome = true := by kernel_rfl
theorem und21 : (Tryd.prog.underlying 21).isSome = true := by kernel_rfl
theorem und22 : (Tryd.prog.underlying 22).isSome = true := by kernel_rfl
theorem und23 : (Tryd.prog.underlying 23).isSome = true := by kernel_rfl
theorem und24 : (Tryd.prog.underlying 24).isSome = true := by kernel_rfl
theorem und25 : (Tryd.prog.underlying 25).isSome = true := by kernel_rfl
theorem und26 : (Tryd.prog.underlying 26).isSome = true := by kernel_rfl
theorem und27 : (Tryd.prog.underlying 27).isSome = true := by kernel_rfl
theorem und28 : (Tryd.prog.underlying 28).isSome = true := by kernel_rfl
theorem und29 : (Tryd.prog.underlying 29).isSome = true := by kernel_rfl
theorem und30 : (Tryd.prog.underlying 30).isSome = true := by kernel_rfl
theorem und31 : (Tryd.prog.underlying 31).isSome = true := by kernel_rfl
theorem und32 : (Tryd.prog.underlying 32).isSome = true := by kernel_rfl
theorem und33 : (Tryd.prog.underlying 33).isSome = true := by kernel_rfl
theorem und34 : (Tryd.prog.underlying 34).isSome = true := by kernel_rfl
theorem und35 : (Tryd.prog.underlying 35).isSome = true := by kernel_rfl
theorem und36 : (Tryd.prog.underlying 36).isSome = true := by kernel_rfl
theorem und37 : (Tryd.prog.underlying 37).isSome = true := by kernel_rfl
theorem und38 : (Tryd.prog.underlying 38).isSome = true := by kernel_rfl
theorem und39 : (Tryd.prog.underlying 39).isSome = true := by kernel_rfl
theorem und40 : (Tryd.prog.underlying 40).isSome = true := by kernel_rfl
theorem und41 : (Tryd.prog.underlying 41).isSome = true := by kernel_rfl
theorem und42 : (Tryd.prog.underlying 42).isSome = true := by kernel_rfl
theorem und43 : (Tryd.prog.underlying 43).isSome = true := by kernel_rfl
theorem und44 : (Tryd.prog.underlying 44).isSome = true := by kernel_rfl
theorem und45 : (Tryd.prog.underlying 45).isSome = true := by kernel_rfl
theorem und46 : (Tryd.prog.underlying 46).isSome = true := by kernel_rfl
theorem und47 : (Tryd.prog.underlying 47).isSome = true := by kernel_rfl
theorem und48 : (Tryd.prog.underlying 48).isSome = true := by kernel_rfl
theorem und49 : (Tryd.prog.underlying 49).isSome = true := by kernel_rfl
theorem und50 : (Tryd.prog.underlying 50).isSome = true := by kernel_rfl
theorem und51 : (Tryd.prog.underlying 51).isSome = true := by kernel_rfl
theorem und52 : (Tryd.prog.underlying 52).isSome = true := by kernel_rfl
theorem und53 : (Tryd.prog.underlying 53).isSome = true := by kernel_rfl
theorem und54 : (Tryd.prog.underlying 54).isSome = true := by kernel_rfl
theorem und55 : (Tryd.prog.underlying 55).isSome = true := by kernel_rfl
theorem und56 : (Tryd.prog.underlying 56).isSome = true := by kernel_rfl
theorem und57 : (Tryd.prog.underlying 57).isSome = true := by kernel_rfl
theorem und58 : (Tryd.prog.underlying 58).isSome = true := by kernel_rfl
theorem und59 : (Tryd.prog.underlying 59).isSome = true := by kernel_rfl
theorem und60 : (Tryd.prog.underlying 60).isSome = true := by kernel_rfl
theorem und61 : (Tryd.prog.underlying 61).isSome = true := by kernel_rfl
theorem und62 : (Tryd.prog.underlying 62).isSome = true := by kernel_rfl
theorem und63 : (Tryd.prog.underlying 63).isSome = true := by kernel_rfl
theorem und64 : (Tryd.prog.underlying 64).isSome = true := by kernel_rfl
theorem und65 : (Tryd.prog.underlying 65).isSome = true := by kernel_rfl
theorem und66 : (Tryd.prog.underlying 66).isSome = true := by kernel_rfl
theorem und67 : (Tryd.prog.underlying 67).isSome = true := by kernel_rfl
theorem und68 : (Tryd.prog.underlying 68).isSome = true := by kernel_rfl
theorem und69 : (Tryd.prog.underlying 69).isSome = true := by kernel_rfl
theorem und70 : (Tryd.prog.underlying 70).isSome = true := by kernel_rfl
theorem und71 : (Tryd.prog.underlying 71).isSome = true := by kernel_rfl
theorem und72 : (Tryd.prog.underlying 72).isSome = true := by kernel_rfl
theorem und73 : (Tryd.prog.underlying 73).isSome = true := by kernel_rfl
theorem und74 : (Tryd.prog.underlying 74).isSome = true := by kernel_rfl
theorem und75 : (Tryd.prog.underlying 75).isSome = true := by kernel_rfl
theorem und76 : (Tryd.prog.underlying 76).isSome = true := by kernel_rfl
theorem und77 : (Tryd.prog.underlying 77).isSome = true := by kernel_rfl
theorem und78 : (Tryd.prog.underlying 78).isSome = true := by kernel_rfl
theorem und79 : (Tryd.prog.underlying 79).isSome = true := by kernel_rfl
theorem und80 : (Tryd.prog.underlying 80).isSome = true := by kernel_rfl
theorem und81 : (Tryd.prog.underlying 81).isSome = true := by kernel_rfl
theorem und82 : (Tryd.prog.underlying 82).isSome = true := by kernel_rfl
theorem und83 : (Tryd.prog.underlying 83).isSome = true := by kernel_rfl
theorem und84 : (Tryd.prog.underlying 84).isSome = true := by kernel_rfl
theorem und85 : (Tryd.prog.underlying 85).isSome = true := by kernel_rfl
theorem und86 : (Tryd.prog.underlying 86).isSome = true := by kernel_rfl
theorem und87 : (Tryd.prog.underlying 87).isSome = true := by kernel_rfl
theorem und88 : (Tryd.prog.underlying 88).isSome = true := by kernel_rfl
theorem und89 : (Tryd.prog.underlying 89).isSome = true := by kernel_rfl
theorem und90 : (Tryd.prog.underlying 90).isSome = true := by kernel_rfl
theorem und91 : (Tryd.prog.underlying 91).isSome = true := by kernel_rfl
theorem und92 : (Tryd.prog.underlying 92).isSome = true := by kernel_rfl
theorem und93 : (Tryd.prog.underlying 93).isSome = true := by kernel_rfl
theorem und94 : (Tryd.prog.underlying 94).isSome = true := by kernel_rfl
theorem und95 : (Tryd.prog.underlying 95).isSome = true := by kernel_rfl
theorem und96 : (Tryd.prog.underlying 96).isSome = true := by kernel_rfl
theorem und97 : (Tryd.prog.underlying 97).isSome = true := by kernel_rfl
theorem und98 : (Tryd.prog.underlying 98).isSome = true := by kernel_rfl
theorem und99 : (Tryd.prog.underlying 99).isSome = true := by kernel_rfl
theorem und100 : (Tryd.prog.underlying 100).isSome = true := by kernel_rfl
theorem und101 : (Tryd.prog.underlying 101).isSome = true := by kernel_rfl
theorem und102 : (Tryd.prog.underlying 102).isSome = true := by kernel_rfl
theorem und103 : (Tryd.prog.underlying 103).isSome = true := by kernel_rfl
theorem und104 : (Tryd.prog.underlying 104).isSome = true := by kernel_rfl
theorem und105 : (Tryd.prog.underlying 105).isSome = true := by kernel_rfl
theorem und106 : (Tryd.prog.underlying 106).isSome = true := by kernel_rfl
theorem und107 : (Tryd.prog.underlying 107).isSome = true := by kernel_rfl
theorem und108 : (Tryd.prog.underlying 108).isSome = true := by kernel_rfl
theorem und109 : (Tryd.prog.underlying 109).isSome = true := by kernel_rfl
theorem t0 : (aggT Tryd.prog 0 = some false) ∧ (sizT Tryd.prog 0 = some 1) ∧ (bytT Tryd.prog 0 = some 0) ∧ (elemT Tryd.prog 0 = none) ∧ (arrT Tryd.prog 0 = none) ∧ (intT Tryd.prog 0 = none) ∧ (strT Tryd.prog 0 = false) ∧ ((Tryd.prog.underlying 0).isSome = true) := ⟨agg0, siz0, byt0, elem0, arr0, int0, str0, und0⟩
theorem t1 : (aggT Tryd.prog 1 = some false) ∧ (sizT Tryd.prog 1 = some 1) ∧ (bytT Tryd.prog 1 = some 8) ∧ (elemT Tryd.prog 1 = none) ∧ (arrT Tryd.prog 1 = none) ∧ (intT Tryd.prog 1 = none) ∧ (zerT Tryd.prog 1 = some [.nilFunc]) ∧ (strT Tryd.prog 1 = false) ∧ ((Tryd.prog.underlying 1).isSome = true) := ⟨agg1, siz1, byt1, elem1, arr1, int1, zer1, str1, und1⟩
theorem t2 : (aggT Tryd.prog 2 = some false) ∧ (sizT Tryd.prog 2 = some 1) ∧ (bytT Tryd.prog 2 = some 8) ∧ (elemT Tryd.prog 2 = none) ∧ (arrT Tryd.prog 2 = none) ∧ (intT Tryd.prog 2 = some .i64) ∧ (zerT Tryd.prog 2 = some [.int .i64 0]) ∧ (strT Tryd.prog 2 = false) ∧ ((Tryd.prog.underlying 2).isSome = true) := ⟨agg2, siz2, byt2, elem2, arr2, int2, zer2, str2, und2⟩
theorem t3 : (aggT Tryd.prog 3 = some false) ∧ (sizT Tryd.prog 3 = some 1) ∧ (bytT Tryd.prog 3 = some 8) ∧ (elemT Tryd.prog 3 = none) ∧ (arrT Tryd.prog 3 = none) ∧ (intT Tryd.prog 3 = some .i64) ∧ (zerT Tryd.prog 3 = some [.int .i64 0]) ∧ (strT Tryd.prog 3 = false) ∧ ((Tryd.prog.underlying 3).isSome = true) := ⟨agg3, siz3, byt3, elem3, arr3, int3, zer3, str3, und3⟩
theorem t4 : (aggT Tryd.prog 4 = some false) ∧ (sizT Tryd.prog 4 = some 1) ∧ (bytT Tryd.prog 4 = some 1) ∧ (elemT Tryd.prog 4 = none) ∧ (arrT Tryd.prog 4 = none) ∧ (intT Tryd.prog 4 = none) ∧ (zerT Tryd.prog 4 = some [.bool false]) ∧ (strT Tryd.prog 4 = false) ∧ ((Tryd.prog.underlying 4).isSome = true) := ⟨agg4, siz4, byt4, elem4, arr4, int4, zer4, str4, und4⟩
theorem t5 : (aggT Tryd.prog 5 = some false) ∧ (sizT Tryd.prog 5 = some 1) ∧ (bytT Tryd.prog 5 = some 1) ∧ (elemT Tryd.prog 5 = none) ∧ (arrT Tryd.prog 5 = none) ∧ (intT Tryd.prog 5 = some .u8) ∧ (zerT Tryd.prog 5 = some [.int .u8 0]) ∧ (strT Tryd.prog 5 = false) ∧ ((Tryd.prog.underlying 5).isSome = true) := ⟨agg5, siz5, byt5, elem5, arr5, int5, zer5, str5, und5⟩
theorem t6 : (aggT Tryd.prog 6 = some false) ∧ (sizT Tryd.prog 6 = some 1) ∧ (bytT Tryd.prog 6 = some 1) ∧ (elemT Tryd.prog 6 = none) ∧ (arrT Tryd.prog 6 = none) ∧ (intT Tryd.prog 6 = some .u8) ∧ (zerT Tryd.prog 6 = some [.int .u8 0]) ∧ (strT Tryd.prog 6 = false) ∧ ((Tryd.prog.underlying 6).isSome = true) := ⟨agg6, siz6, byt6, elem6, arr6, int6, zer6, str6, und6⟩
theorem t7 : (aggT Tryd.prog 7 = some true) ∧ (sizT Tryd.prog 7 = some 4) ∧ (bytT Tryd.prog 7 = some 24) ∧ (elemT Tryd.prog 7 = none) ∧ (arrT Tryd.prog 7 = none) ∧ (intT Tryd.prog 7 = none) ∧ (zerT Tryd.prog 7 = some [.int .i64 0, .int .i64 0, .bool false, .int .u8 0]) ∧ (kdT Tryd.prog 60 7 = some [.int .i64, .int .i64, .bool, .int .u8]) ∧ (Tryd.prog.eqGuardType (Tryd.prog.depth) 7 = false) ∧ (sizesOk Tryd.prog 7 = true) ∧ (placeT Tryd.prog 7 0 = some (0, 1)) ∧ (placeT Tryd.prog 7 1 = some (1, 1)) ∧ (placeT Tryd.prog 7 2 = some (2, 1)) ∧ (placeT Tryd.prog 7 3 = some (3, 1)) ∧ (strT Tryd.prog 7 = false) ∧ (fldT Tryd.prog 7 0 = some (0, 2)) ∧ (fldT Tryd.prog 7 1 = some (1, 3)) ∧ (fldT Tryd.prog 7 2 = some (2, 4)) ∧ (fldT Tryd.prog 7 3 = some (3, 6)) ∧ ((Tryd.prog.underlying 7).isSome = true) := ⟨agg7, siz7, byt7, elem7, arr7, int7, zer7, kd7, eqg7, szs7, plc7_0, plc7_1, plc7_2, plc7_3, str7, fld7_0, fld7_1, fld7_2, fld7_3, und7⟩
theorem t8 : (aggT Tryd.prog 8 = some true) ∧ (sizT Tryd.prog 8 = some 4) ∧ (bytT Tryd.prog 8 = some 24) ∧ (elemT Tryd.prog 8 = none) ∧ (arrT Tryd.prog 8 = none) ∧ (intT Tryd.prog 8 = none) ∧ (zerT Tryd.prog 8 = some [.int .i64 0, .int .i64 0, .bool false, .int .u8 0]) ∧ (kdT Tryd.prog 60 8 = some [.int .i64, .int .i64, .bool, .int .u8]) ∧ (Tryd.prog.eqGuardType (Tryd.prog.depth) 8 = false) ∧ (sizesOk Tryd.prog 8 = true) ∧ (placeT Tryd.prog 8 0 = some (0, 1)) ∧ (placeT Tryd.prog 8 1 = some (1, 1)) ∧ (placeT Tryd.prog 8 2 = some (2, 1)) ∧ (placeT Tryd.prog 8 3 = some (3, 1)) ∧ (strT Tryd.prog 8 = false) ∧ (fldT Tryd.prog 8 0 = some (0, 2)) ∧ (fldT Tryd.prog 8 1 = some (1, 3)) ∧ (fldT Tryd.prog 8 2 = some (2, 4)) ∧ (fldT Tryd.prog 8 3 = some (3, 6)) ∧ ((Tryd.prog.underlying 8).isSome = true) := ⟨agg8, siz8, byt8, elem8, arr8, int8, zer8, kd8, eqg8, szs8, plc8_0, plc8_1, plc8_2, plc8_3, str8, fld8_0, fld8_1, fld8_2, fld8_3, und8⟩
theorem t9 : (aggT Tryd.prog 9 = some false) ∧ (sizT Tryd.prog 9 = some 1) ∧ (bytT Tryd.prog 9 = some 16) ∧ (elemT Tryd.prog 9 = none) ∧ (arrT Tryd.prog 9 = none) ∧ (intT Tryd.prog 9 = none) ∧ (zerT Tryd.prog 9 = some [.string ByteArray.empty]) ∧ (strT Tryd.prog 9 = true) ∧ ((Tryd.prog.underlying 9).isSome = true) := ⟨agg9, siz9, byt9, elem9, arr9, int9, zer9, str9, und9⟩
theorem t10 : (aggT Tryd.prog 10 = some false) ∧ (sizT Tryd.prog 10 = some 1) ∧ (bytT Tryd.prog 10 = some 16) ∧ (elemT Tryd.prog 10 = none) ∧ (arrT Tryd.prog 10 = none) ∧ (intT Tryd.prog 10 = none) ∧ (zerT Tryd.prog 10 = some [.string ByteArray.empty]) ∧ (strT Tryd.prog 10 = true) ∧ ((Tryd.prog.underlying 10).isSome = true) := ⟨agg10, siz10, byt10, elem10, arr10, int10, zer10, str10, und10⟩
theorem t11 : (aggT Tryd.prog 11 = some false) ∧ (sizT Tryd.prog 11 = some 1) ∧ (bytT Tryd.prog 11 = some 16) ∧ (elemT Tryd.prog 11 = none) ∧ (arrT Tryd.prog 11 = none) ∧ (intT Tryd.prog 11 = none) ∧ (zerT Tryd.prog 11 = some [.string ByteArray.empty]) ∧ (strT Tryd.prog 11 = true) ∧ ((Tryd.prog.underlying 11).isSome = true) := ⟨agg11, siz11, byt11, elem11, arr11, int11, zer11, str11, und11⟩
theorem t12 : (aggT Tryd.prog 12 = some false) ∧ (sizT Tryd.prog 12 = some 1) ∧ (bytT Tryd.prog 12 = some 8) ∧ (elemT Tryd.prog 12 = none) ∧ (arrT Tryd.prog 12 = none) ∧ (intT Tryd.prog 12 = some .u64) ∧ (zerT Tryd.prog 12 = some [.int .u64 0]) ∧ (strT Tryd.prog 12 = false) ∧ ((Tryd.prog.underlying 12).isSome = true) := ⟨agg12, siz12, byt12, elem12, arr12, int12, zer12, str12, und12⟩
theorem t13 : (aggT Tryd.prog 13 = some true) ∧ (sizT Tryd.prog 13 = some 2) ∧ (bytT Tryd.prog 13 = some 24) ∧ (elemT Tryd.prog 13 = none) ∧ (arrT Tryd.prog 13 = none) ∧ (intT Tryd.prog 13 = none) ∧ (zerT Tryd.prog 13 = some [.string ByteArray.empty, .int .u64 0]) ∧ (Tryd.prog.eqGuardType (Tryd.prog.depth) 13 = false) ∧ (sizesOk Tryd.prog 13 = true) ∧ (placeT Tryd.prog 13 0 = some (0, 1)) ∧ (placeT Tryd.prog 13 1 = some (1, 1)) ∧ (strT Tryd.prog 13 = false) ∧ (fldT Tryd.prog 13 0 = some (0, 9)) ∧ (fldT Tryd.prog 13 1 = some (1, 12)) ∧ ((Tryd.prog.underlying 13).isSome = true) := ⟨agg13, siz13, byt13, elem13, arr13, int13, zer13, eqg13, szs13, plc13_0, plc13_1, str13, fld13_0, fld13_1, und13⟩
theorem t14 : (aggT Tryd.prog 14 = some true) ∧ (sizT Tryd.prog 14 = some 2) ∧ (bytT Tryd.prog 14 = some 24) ∧ (elemT Tryd.prog 14 = none) ∧ (arrT Tryd.prog 14 = none) ∧ (intT Tryd.prog 14 = none) ∧ (zerT Tryd.prog 14 = some [.string ByteArray.empty, .int .u64 0]) ∧ (Tryd.prog.eqGuardType (Tryd.prog.depth) 14 = false) ∧ (sizesOk Tryd.prog 14 = true) ∧ (placeT Tryd.prog 14 0 = some (0, 1)) ∧ (placeT Tryd.prog 14 1 = some (1, 1)) ∧ (strT Tryd.prog 14 = false) ∧ (fldT Tryd.prog 14 0 = some (0, 9)) ∧ (fldT Tryd.prog 14 1 = some (1, 12)) ∧ ((Tryd.prog.underlying 14).isSome = true) := ⟨agg14, siz14, byt14, elem14, arr14, int14, zer14, eqg14, szs14, plc14_0, plc14_1, str14, fld14_0, fld14_1, und14⟩
theorem t15 : (aggT Tryd.prog 15 = some false) ∧ (sizT Tryd.prog 15 = some 1) ∧ (bytT Tryd.prog 15 = some 8) ∧ (elemT Tryd.prog 15 = none) ∧ (arrT Tryd.prog 15 = none) ∧ (intT Tryd.prog 15 = none) ∧ (zerT Tryd.prog 15 = some [.pointer none]) ∧ (strT Tryd.prog 15 = false) ∧ ((Tryd.prog.underlying 15).isSome = true) := ⟨agg15, siz15, byt15, elem15, arr15, int15, zer15, str15, und15⟩
theorem t16 : (aggT Tryd.prog 16 = some false) ∧ (sizT Tryd.prog 16 = some 1) ∧ (bytT Tryd.prog 16 = some 8) ∧ (elemT Tryd.prog 16 = none) ∧ (arrT Tryd.prog 16 = none) ∧ (intT Tryd.prog 16 = none) ∧ (zerT Tryd.prog 16 = some [.pointer none]) ∧ (strT Tryd.prog 16 = false) ∧ ((Tryd.prog.underlying 16).isSome = true) := ⟨agg16, siz16, byt16, elem16, arr16, int16, zer16, str16, und16⟩
theorem t17 : (aggT Tryd.prog 17 = some false) ∧ (sizT Tryd.prog 17 = some 1) ∧ (bytT Tryd.prog 17 = some 8) ∧ (elemT Tryd.prog 17 = none) ∧ (arrT Tryd.prog 17 = none) ∧ (intT Tryd.prog 17 = none) ∧ (zerT Tryd.prog 17 = some [.pointer none]) ∧ (strT Tryd.prog 17 = false) ∧ ((Tryd.prog.underlying 17).isSome = true) := ⟨agg17, siz17, byt17, elem17, arr17, int17, zer17, str17, und17⟩
theorem t18 : (aggT Tryd.prog 18 = some true) ∧ (sizT Tryd.prog 18 = some 1) ∧ (bytT Tryd.prog 18 = some 8) ∧ (elemT Tryd.prog 18 = none) ∧ (arrT Tryd.prog 18 = none) ∧ (intT Tryd.prog 18 = none) ∧ (zerT Tryd.prog 18 = some [.pointer none]) ∧ (Tryd.prog.eqGuardType (Tryd.prog.depth) 18 = false) ∧ (sizesOk Tryd.prog 18 = true) ∧ (placeT Tryd.prog 18 0 = some (0, 1)) ∧ (strT Tryd.prog 18 = false) ∧ (fldT Tryd.prog 18 0 = some (0, 17)) ∧ ((Tryd.prog.underlying 18).isSome = true) := ⟨agg18, siz18, byt18, elem18, arr18, int18, zer18, eqg18, szs18, plc18_0, str18, fld18_0, und18⟩
theorem t19 : (aggT Tryd.prog 19 = some true) ∧ (sizT Tryd.prog 19 = some 1) ∧ (bytT Tryd.prog 19 = some 8) ∧ (elemT Tryd.prog 19 = none) ∧ (arrT Tryd.prog 19 = none) ∧ (intT Tryd.prog 19 = none) ∧ (zerT Tryd.prog 19 = some [.pointer none]) ∧ (Tryd.prog.eqGuardType (Tryd.prog.depth) 19 = false) ∧ (sizesOk Tryd.prog 19 = true) ∧ (placeT Tryd.prog 19 0 = some (0, 1)) ∧ (strT Tryd.prog 19 = false) ∧ (fldT Tryd.prog 19 0 = some (0, 17)) ∧ ((Tryd.prog.underlying 19).isSome = true) := ⟨agg19, siz19, byt19, elem19, arr19, int19, zer19, eqg19, szs19, plc19_0, str19, fld19_0, und19⟩
theorem t20 : (aggT Tryd.prog 20 = some false) ∧ (sizT Tryd.prog 20 = some 1) ∧ (bytT Tryd.prog 20 = some 16) ∧ (elemT Tryd.prog 20 = none) ∧ (arrT Tryd.prog 20 = none) ∧ (intT Tryd.prog 20 = none) ∧ (zerT Tryd.prog 20 = some [.nilIface]) ∧ (strT Tryd.prog 20 = false) ∧ ((Tryd.prog.underlying 20).isSome = true) := ⟨agg20, siz20, byt20, elem20, arr20, int20, zer20, str20, und20⟩
theorem t21 : (aggT Tryd.prog 21 = some false) ∧ (sizT Tryd.prog 21 = some 1) ∧ (bytT Tryd.prog 21 = some 4) ∧ (elemT Tryd.prog 21 = none) ∧ (arrT Tryd.prog 21 = none) ∧ (intT Tryd.prog 21 = some .i32) ∧ (zerT Tryd.prog 21 = some [.int .i32 0]) ∧ (strT Tryd.prog 21 = false) ∧ ((Tryd.prog.underlying 21).isSome = true) := ⟨agg21, siz21, byt21, elem21, arr21, int21, zer21, str21, und21⟩
theorem t22 : (aggT Tryd.prog 22 = some false) ∧ (sizT Tryd.prog 22 = some 1) ∧ (bytT Tryd.prog 22 = some 4) ∧ (elemT Tryd.prog 22 = none) ∧ (arrT Tryd.prog 22 = none) ∧ (intT Tryd.prog 22 = some .u32) ∧ (zerT Tryd.prog 22 = some [.int .u32 0]) ∧ (strT Tryd.prog 22 = false) ∧ ((Tryd.prog.underlying 22).isSome = true) := ⟨agg22, siz22, byt22, elem22, arr22, int22, zer22, str22, und22⟩
theorem t23 : (aggT Tryd.prog 23 = some true) ∧ (sizT Tryd.prog 23 = some 2) ∧ (bytT Tryd.prog 23 = some 8) ∧ (elemT Tryd.prog 23 = none) ∧ (arrT Tryd.prog 23 = none) ∧ (intT Tryd.prog 23 = none) ∧ (zerT Tryd.prog 23 = some [.bool false, .int .u32 0]) ∧ (kdT Tryd.prog 60 23 = some [.bool, .int .u32]) ∧ (Tryd.prog.eqGuardType (Tryd.prog.depth) 23 = false) ∧ (sizesOk Tryd.prog 23 = true) ∧ (placeT Tryd.prog 23 0 = some (0, 1)) ∧ (placeT Tryd.prog 23 1 = some (1, 1)) ∧ (strT Tryd.prog 23 = false) ∧ (fldT Tryd.prog 23 0 = some (0, 4)) ∧ (fldT Tryd.prog 23 1 = some (1, 22)) ∧ ((Tryd.prog.underlying 23).isSome = true) := ⟨agg23, siz23, byt23, elem23, arr23, int23, zer23, kd23, eqg23, szs23, plc23_0, plc23_1, str23, fld23_0, fld23_1, und23⟩
theorem t24 : (aggT Tryd.prog 24 = some true) ∧ (sizT Tryd.prog 24 = some 2) ∧ (bytT Tryd.prog 24 = some 8) ∧ (elemT Tryd.prog 24 = none) ∧ (arrT Tryd.prog 24 = none) ∧ (intT Tryd.prog 24 = none) ∧ (zerT Tryd.prog 24 = some [.bool false, .int .u32 0]) ∧ (kdT Tryd.prog 60 24 = some [.bool, .int .u32]) ∧ (Tryd.prog.eqGuardType (Tryd.prog.depth) 24 = false) ∧ (sizesOk Tryd.prog 24 = true) ∧ (placeT Tryd.prog 24 0 = some (0, 1)) ∧ (placeT Tryd.prog 24 1 = some (1, 1)) ∧ (strT Tryd.prog 24 = false) ∧ (fldT Tryd.prog 24 0 = some (0, 4)) ∧ (fldT Tryd.prog 24 1 = some (1, 22)) ∧ ((Tryd.prog.underlying 24).isSome = true) := ⟨agg24, siz24, byt24, elem24, arr24, int24, zer24, kd24, eqg24, szs24, plc24_0, plc24_1, str24, fld24_0, fld24_1, und24⟩
theorem t25 : (aggT Tryd.prog 25 = some true) ∧ (sizT Tryd.prog 25 = some 8) ∧ (bytT Tryd.prog 25 = some 8) ∧ (elemT Tryd.prog 25 = none) ∧ (arrT Tryd.prog 25 = some (8, 5)) ∧ (intT Tryd.prog 25 = none) ∧ (zerT Tryd.prog 25 = some [.int .u8 0, .int .u8 0, .int .u8 0, .int .u8 0, .int .u8 0, .int .u8 0, .int .u8 0, .int .u8 0]) ∧ (kdT Tryd.prog 60 25 = some [.int .u8, .int .u8, .int .u8, .int .u8, .int .u8, .int .u8, .int .u8, .int .u8]) ∧ (Tryd.prog.eqGuardType (Tryd.prog.depth) 25 = false) ∧ (sizesOk Tryd.prog 25 = true) ∧ (placeT Tryd.prog 25 0 = some (0, 1)) ∧ (placeT Tryd.prog 25 1 = some (1, 1)) ∧ (placeT Tryd.prog 25 2 = some (2, 1)) ∧ (placeT Tryd.prog 25 3 = some (3, 1)) ∧ (placeT Tryd.prog 25 4 = some (4, 1)) ∧ (placeT Tryd.prog 25 5 = some (5, 1)) ∧ (placeT Tryd.prog 25 6 = some (6, 1)) ∧ (placeT Tryd.prog 25 7 = some (7, 1)) ∧ (placeT Tryd.prog 25 8 = some (8, 1)) ∧ (placeT Tryd.prog 25 9 = some (9, 1)) ∧ (placeT Tryd.prog 25 10 = some (10, 1)) ∧ (placeT Tryd.prog 25 11 = some (11, 1)) ∧ (strT Tryd.prog 25 = false) ∧ ((Tryd.prog.underlying 25).isSome = true) := ⟨agg25, siz25, byt25, elem25, arr25, int25, zer25, kd25, eqg25, szs25, plc25_0, plc25_1, plc25_2, plc25_3, plc25_4, plc25_5, plc25_6, plc25_7, plc25_8, plc25_9, plc25_10, plc25_11, str25, und25⟩
theorem t26 : (aggT Tryd.prog 26 = some true) ∧ (sizT Tryd.prog 26 = some 12) ∧ (bytT Tryd.prog 26 = some 32) ∧ (elemT Tryd.prog 26 = none) ∧ (arrT Tryd.prog 26 = none) ∧ (intT Tryd.prog 26 = none) ∧ (zerT Tryd.prog 26 = some [.bool false, .int .u32 0, .bool false, .int .i64 0, .int .u8 0, .int .u8 0, .int .u8 0, .int .u8 0, .int .u8 0, .int .u8 0, .int .u8 0, .int .u8 0]) ∧ (kdT Tryd.prog 60 26 = some [.bool, .int .u32, .bool, .int .i64, .int .u8, .int .u8, .int .u8, .int .u8, .int .u8, .int .u8, .int .u8, .int .u8]) ∧ (Tryd.prog.eqGuardType (Tryd.prog.depth) 26 = false) ∧ (sizesOk Tryd.prog 26 = true) ∧ (placeT Tryd.prog 26 0 = some (0, 2)) ∧ (placeT Tryd.prog 26 1 = some (2, 1)) ∧ (placeT Tryd.prog 26 2 = some (3, 1)) ∧ (placeT Tryd.prog 26 3 = some (4, 8)) ∧ (strT Tryd.prog 26 = false) ∧ (fldT Tryd.prog 26 0 = some (0, 24)) ∧ (fldT Tryd.prog 26 1 = some (2, 4)) ∧ (fldT Tryd.prog 26 2 = some (3, 3)) ∧ (fldT Tryd.prog 26 3 = some (4, 25)) ∧ ((Tryd.prog.underlying 26).isSome = true) := ⟨agg26, siz26, byt26, elem26, arr26, int26, zer26, kd26, eqg26, szs26, plc26_0, plc26_1, plc26_2, plc26_3, str26, fld26_0, fld26_1, fld26_2, fld26_3, und26⟩
theorem t27 : (aggT Tryd.prog 27 = some true) ∧ (sizT Tryd.prog 27 = some 12) ∧ (bytT Tryd.prog 27 = some 32) ∧ (elemT Tryd.prog 27 = none) ∧ (arrT Tryd.prog 27 = none) ∧ (intT Tryd.prog 27 = none) ∧ (zerT Tryd.prog 27 = some [.bool false, .int .u32 0, .bool false, .int .i64 0, .int .u8 0, .int .u8 0, .int .u8 0, .int .u8 0, .int .u8 0, .int .u8 0, .int .u8 0, .int .u8 0]) ∧ (kdT Tryd.prog 60 27 = some [.bool, .int .u32, .bool, .int .i64, .int .u8, .int .u8, .int .u8, .int .u8, .int .u8, .int .u8, .int .u8, .int .u8]) ∧ (Tryd.prog.eqGuardType (Tryd.prog.depth) 27 = false) ∧ (sizesOk Tryd.prog 27 = true) ∧ (placeT Tryd.prog 27 0 = some (0, 2)) ∧ (placeT Tryd.prog 27 1 = some (2, 1)) ∧ (placeT Tryd.prog 27 2 = some (3, 1)) ∧ (placeT Tryd.prog 27 3 = some (4, 8)) ∧ (strT Tryd.prog 27 = false) ∧ (fldT Tryd.prog 27 0 = some (0, 24)) ∧ (fldT Tryd.prog 27 1 = some (2, 4)) ∧ (fldT Tryd.prog 27 2 = some (3, 3)) ∧ (fldT Tryd.prog 27 3 = some (4, 25)) ∧ ((Tryd.prog.underlying 27).isSome = true) := ⟨agg27, siz27, byt27, elem27, arr27, int27, zer27, kd27, eqg27, szs27, plc27_0, plc27_1, plc27_2, plc27_3, str27, fld27_0, fld27_1, fld27_2, fld27_3, und27⟩
theorem t28 : (aggT Tryd.prog 28 = some false) ∧ (sizT Tryd.prog 28 = some 1) ∧ (bytT Tryd.prog 28 = some 8) ∧ (elemT Tryd.prog 28 = none) ∧ (arrT Tryd.prog 28 = none) ∧ (intT Tryd.prog 28 = none) ∧ (zerT Tryd.prog 28 = some [.nilFunc]) ∧ (strT Tryd.prog 28 = false) ∧ ((Tryd.prog.underlying 28).isSome = true) := ⟨agg28, siz28, byt28, elem28, arr28, int28, zer28, str28, und28⟩
theorem t29 : (aggT Tryd.prog 29 = some false) ∧ (sizT Tryd.prog 29 = some 1) ∧ (bytT Tryd.prog 29 = some 0) ∧ (elemT Tryd.prog 29 = none) ∧ (arrT Tryd.prog 29 = none) ∧ (intT Tryd.prog 29 = none) ∧ (strT Tryd.prog 29 = false) ∧ ((Tryd.prog.underlying 29).isSome = true) := ⟨agg29, siz29, byt29, elem29, arr29, int29, str29, und29⟩
theorem t30 : (aggT Tryd.prog 30 = some false) ∧ (sizT Tryd.prog 30 = some 1) ∧ (bytT Tryd.prog 30 = some 8) ∧ (elemT Tryd.prog 30 = none) ∧ (arrT Tryd.prog 30 = none) ∧ (intT Tryd.prog 30 = none) ∧ (zerT Tryd.prog 30 = some [.nilFunc]) ∧ (strT Tryd.prog 30 = false) ∧ ((Tryd.prog.underlying 30).isSome = true) := ⟨agg30, siz30, byt30, elem30, arr30, int30, zer30, str30, und30⟩
theorem t31 : (aggT Tryd.prog 31 = some false) ∧ (sizT Tryd.prog 31 = some 1) ∧ (bytT Tryd.prog 31 = some 8) ∧ (elemT Tryd.prog 31 = none) ∧ (arrT Tryd.prog 31 = none) ∧ (intT Tryd.prog 31 = some .i64) ∧ (zerT Tryd.prog 31 = some [.int .i64 0]) ∧ (strT Tryd.prog 31 = false) ∧ ((Tryd.prog.underlying 31).isSome = true) := ⟨agg31, siz31, byt31, elem31, arr31, int31, zer31, str31, und31⟩
theorem t32 : (aggT Tryd.prog 32 = some false) ∧ (sizT Tryd.prog 32 = some 1) ∧ (bytT Tryd.prog 32 = some 8) ∧ (elemT Tryd.prog 32 = none) ∧ (arrT Tryd.prog 32 = none) ∧ (intT Tryd.prog 32 = none) ∧ (zerT Tryd.prog 32 = some [.nilFunc]) ∧ (strT Tryd.prog 32 = false) ∧ ((Tryd.prog.underlying 32).isSome = true) := ⟨agg32, siz32, byt32, elem32, arr32, int32, zer32, str32, und32⟩
theorem t33 : (aggT Tryd.prog 33 = some false) ∧ (sizT Tryd.prog 33 = some 1) ∧ (bytT Tryd.prog 33 = some 8) ∧ (elemT Tryd.prog 33 = none) ∧ (arrT Tryd.prog 33 = none) ∧ (intT Tryd.prog 33 = none) ∧ (zerT Tryd.prog 33 = some [.nilFunc]) ∧ (strT Tryd.prog 33 = false) ∧ ((Tryd.prog.underlying 33).isSome = true) := ⟨agg33, siz33, byt33, elem33, arr33, int33, zer33, str33, und33⟩
theorem t34 : (aggT Tryd.prog 34 = some false) ∧ (sizT Tryd.prog 34 = some 1) ∧ (bytT Tryd.prog 34 = some 24) ∧ (elemT Tryd.prog 34 = some 5) ∧ (arrT Tryd.prog 34 = none) ∧ (intT Tryd.prog 34 = none) ∧ (zerT Tryd.prog 34 = some [.slice none 0 0]) ∧ (strT Tryd.prog 34 = false) ∧ ((Tryd.prog.underlying 34).isSome = true) := ⟨agg34, siz34, byt34, elem34, arr34, int34, zer34, str34, und34⟩
theorem t35 : (aggT Tryd.prog 35 = some false) ∧ (sizT Tryd.prog 35 = some 1) ∧ (bytT Tryd.prog 35 = some 8) ∧ (elemT Tryd.prog 35 = none) ∧ (arrT Tryd.prog 35 = none) ∧ (intT Tryd.prog 35 = none) ∧ (zerT Tryd.prog 35 = some [.nilFunc]) ∧ (strT Tryd.prog 35 = false) ∧ ((Tryd.prog.underlying 35).isSome = true) := ⟨agg35, siz35, byt35, elem35, arr35, int35, zer35, str35, und35⟩
theorem t36 : (aggT Tryd.prog 36 = some false) ∧ (sizT Tryd.prog 36 = some 1) ∧ (bytT Tryd.prog 36 = some 8) ∧ (elemT Tryd.prog 36 = none) ∧ (arrT Tryd.prog 36 = none) ∧ (intT Tryd.prog 36 = none) ∧ (zerT Tryd.prog 36 = some [.nilFunc]) ∧ (strT Tryd.prog 36 = false) ∧ ((Tryd.prog.underlying 36).isSome = true) := ⟨agg36, siz36, byt36, elem36, arr36, int36, zer36, str36, und36⟩
theorem t37 : (aggT Tryd.prog 37 = some false) ∧ (sizT Tryd.prog 37 = some 1) ∧ (bytT Tryd.prog 37 = some 8) ∧ (elemT Tryd.prog 37 = none) ∧ (arrT Tryd.prog 37 = none) ∧ (intT Tryd.prog 37 = none) ∧ (zerT Tryd.prog 37 = some [.nilFunc]) ∧ (strT Tryd.prog 37 = false) ∧ ((Tryd.prog.underlying 37).isSome = true) := ⟨agg37, siz37, byt37, elem37, arr37, int37, zer37, str37, und37⟩
theorem t38 : (aggT Tryd.prog 38 = some false) ∧ (sizT Tryd.prog 38 = some 1) ∧ (bytT Tryd.prog 38 = some 8) ∧ (elemT Tryd.prog 38 = none) ∧ (arrT Tryd.prog 38 = none) ∧ (intT Tryd.prog 38 = none) ∧ (zerT Tryd.prog 38 = some [.nilFunc]) ∧ (strT Tryd.prog 38 = false) ∧ ((Tryd.prog.underlying 38).isSome = true) := ⟨agg38, siz38, byt38, elem38, arr38, int38, zer38, str38, und38⟩
theorem t39 : (aggT Tryd.prog 39 = some false) ∧ (sizT Tryd.prog 39 = some 1) ∧ (bytT Tryd.prog 39 = some 0) ∧ (elemT Tryd.prog 39 = none) ∧ (arrT Tryd.prog 39 = none) ∧ (intT Tryd.prog 39 = none) ∧ (strT Tryd.prog 39 = false) ∧ ((Tryd.prog.underlying 39).isSome = true) := ⟨agg39, siz39, byt39, elem39, arr39, int39, str39, und39⟩
theorem t40 : (aggT Tryd.prog 40 = some false) ∧ (sizT Tryd.prog 40 = some 1) ∧ (bytT Tryd.prog 40 = some 8) ∧ (elemT Tryd.prog 40 = none) ∧ (arrT Tryd.prog 40 = none) ∧ (intT Tryd.prog 40 = none) ∧ (zerT Tryd.prog 40 = some [.nilFunc]) ∧ (strT Tryd.prog 40 = false) ∧ ((Tryd.prog.underlying 40).isSome = true) := ⟨agg40, siz40, byt40, elem40, arr40, int40, zer40, str40, und40⟩
theorem t41 : (aggT Tryd.prog 41 = some false) ∧ (sizT Tryd.prog 41 = some 1) ∧ (bytT Tryd.prog 41 = some 0) ∧ (elemT Tryd.prog 41 = none) ∧ (arrT Tryd.prog 41 = none) ∧ (intT Tryd.prog 41 = none) ∧ (strT Tryd.prog 41 = false) ∧ ((Tryd.prog.underlying 41).isSome = true) := ⟨agg41, siz41, byt41, elem41, arr41, int41, str41, und41⟩
theorem t42 : (aggT Tryd.prog 42 = some false) ∧ (sizT Tryd.prog 42 = some 1) ∧ (bytT Tryd.prog 42 = some 8) ∧ (elemT Tryd.prog 42 = none) ∧ (arrT Tryd.prog 42 = none) ∧ (intT Tryd.prog 42 = none) ∧ (zerT Tryd.prog 42 = some [.nilFunc]) ∧ (strT Tryd.prog 42 = false) ∧ ((Tryd.prog.underlying 42).isSome = true) := ⟨agg42, siz42, byt42, elem42, arr42, int42, zer42, str42, und42⟩
theorem t43 : (aggT Tryd.prog 43 = some false) ∧ (sizT Tryd.prog 43 = some 1) ∧ (bytT Tryd.prog 43 = some 8) ∧ (elemT Tryd.prog 43 = none) ∧ (arrT Tryd.prog 43 = none) ∧ (intT Tryd.prog 43 = none) ∧ (zerT Tryd.prog 43 = some [.nilFunc]) ∧ (strT Tryd.prog 43 = false) ∧ ((Tryd.prog.underlying 43).isSome = true) := ⟨agg43, siz43, byt43, elem43, arr43, int43, zer43, str43, und43⟩
theorem t44 : (aggT Tryd.prog 44 = some false) ∧ (sizT Tryd.prog 44 = some 1) ∧ (bytT Tryd.prog 44 = some 8) ∧ (elemT Tryd.prog 44 = none) ∧ (arrT Tryd.prog 44 = none) ∧ (intT Tryd.prog 44 = none) ∧ (zerT Tryd.prog 44 = some [.nilFunc]) ∧ (strT Tryd.prog 44 = false) ∧ ((Tryd.prog.underlying 44).isSome = true) := ⟨agg44, siz44, byt44, elem44, arr44, int44, zer44, str44, und44⟩
theorem t45 : (aggT Tryd.prog 45 = some false) ∧ (sizT Tryd.prog 45 = some 1) ∧ (bytT Tryd.prog 45 = some 8) ∧ (elemT Tryd.prog 45 = none) ∧ (arrT Tryd.prog 45 = none) ∧ (intT Tryd.prog 45 = none) ∧ (zerT Tryd.prog 45 = some [.nilFunc]) ∧ (strT Tryd.prog 45 = false) ∧ ((Tryd.prog.underlying 45).isSome = true) := ⟨agg45, siz45, byt45, elem45, arr45, int45, zer45, str45, und45⟩
theorem t46 : (aggT Tryd.prog 46 = some false) ∧ (sizT Tryd.prog 46 = some 1) ∧ (bytT Tryd.prog 46 = some 8) ∧ (elemT Tryd.prog 46 = none) ∧ (arrT Tryd.prog 46 = none) ∧ (intT Tryd.prog 46 = none) ∧ (zerT Tryd.prog 46 = some [.nilFunc]) ∧ (strT Tryd.prog 46 = false) ∧ ((Tryd.prog.underlying 46).isSome = true) := ⟨agg46, siz46, byt46, elem46, arr46, int46, zer46, str46, und46⟩
theorem t47 : (aggT Tryd.prog 47 = some false) ∧ (sizT Tryd.prog 47 = some 1) ∧ (bytT Tryd.prog 47 = some 8) ∧ (elemT Tryd.prog 47 = none) ∧ (arrT Tryd.prog 47 = none) ∧ (intT Tryd.prog 47 = none) ∧ (zerT Tryd.prog 47 = some [.nilFunc]) ∧ (strT Tryd.prog 47 = false) ∧ ((Tryd.prog.underlying 47).isSome = true) := ⟨agg47, siz47, byt47, elem47, arr47, int47, zer47, str47, und47⟩
theorem t48 : (aggT Tryd.prog 48 = some false) ∧ (sizT Tryd.prog 48 = some 1) ∧ (bytT Tryd.prog 48 = some 0) ∧ (elemT Tryd.prog 48 = none) ∧ (arrT Tryd.prog 48 = none) ∧ (intT Tryd.prog 48 = none) ∧ (strT Tryd.prog 48 = false) ∧ ((Tryd.prog.underlying 48).isSome = true) := ⟨agg48, siz48, byt48, elem48, arr48, int48, str48, und48⟩
theorem t49 : (aggT Tryd.prog 49 = some false) ∧ (sizT Tryd.prog 49 = some 1) ∧ (bytT Tryd.prog 49 = some 8) ∧ (elemT Tryd.prog 49 = none) ∧ (arrT Tryd.prog 49 = none) ∧ (intT Tryd.prog 49 = none) ∧ (zerT Tryd.prog 49 = some [.nilFunc]) ∧ (strT Tryd.prog 49 = false) ∧ ((Tryd.prog.underlying 49).isSome = true) := ⟨agg49, siz49, byt49, elem49, arr49, int49, zer49, str49, und49⟩
theorem t50 : (aggT Tryd.prog 50 = some false) ∧ (sizT Tryd.prog 50 = some 1) ∧ (bytT Tryd.prog 50 = some 8) ∧ (elemT Tryd.prog 50 = none) ∧ (arrT Tryd.prog 50 = none) ∧ (intT Tryd.prog 50 = none) ∧ (zerT Tryd.prog 50 = some [.nilFunc]) ∧ (strT Tryd.prog 50 = false) ∧ ((Tryd.prog.underlying 50).isSome = true) := ⟨agg50, siz50, byt50, elem50, arr50, int50, zer50, str50, und50⟩
theorem t51 : (aggT Tryd.prog 51 = some false) ∧ (sizT Tryd.prog 51 = some 1) ∧ (bytT Tryd.prog 51 = some 8) ∧ (elemT Tryd.prog 51 = none) ∧ (arrT Tryd.prog 51 = none) ∧ (intT Tryd.prog 51 = none) ∧ (zerT Tryd.prog 51 = some [.nilFunc]) ∧ (strT Tryd.prog 51 = false) ∧ ((Tryd.prog.underlying 51).isSome = true) := ⟨agg51, siz51, byt51, elem51, arr51, int51, zer51, str51, und51⟩
theorem t52 : (aggT Tryd.prog 52 = some false) ∧ (sizT Tryd.prog 52 = some 1) ∧ (bytT Tryd.prog 52 = some 8) ∧ (elemT Tryd.prog 52 = none) ∧ (arrT Tryd.prog 52 = none) ∧ (intT Tryd.prog 52 = none) ∧ (zerT Tryd.prog 52 = some [.nilFunc]) ∧ (strT Tryd.prog 52 = false) ∧ ((Tryd.prog.underlying 52).isSome = true) := ⟨agg52, siz52, byt52, elem52, arr52, int52, zer52, str52, und52⟩
theorem t53 : (aggT Tryd.prog 53 = some false) ∧ (sizT Tryd.prog 53 = some 1) ∧ (bytT Tryd.prog 53 = some 8) ∧ (elemT Tryd.prog 53 = none) ∧ (arrT Tryd.prog 53 = none) ∧ (intT Tryd.prog 53 = none) ∧ (zerT Tryd.prog 53 = some [.nilFunc]) ∧ (strT Tryd.prog 53 = false) ∧ ((Tryd.prog.underlying 53).isSome = true) := ⟨agg53, siz53, byt53, elem53, arr53, int53, zer53, str53, und53⟩
theorem t54 : (aggT Tryd.prog 54 = some false) ∧ (sizT Tryd.prog 54 = some 1) ∧ (bytT Tryd.prog 54 = some 8) ∧ (elemT Tryd.prog 54 = none) ∧ (arrT Tryd.prog 54 = none) ∧ (intT Tryd.prog 54 = none) ∧ (zerT Tryd.prog 54 = some [.nilFunc]) ∧ (strT Tryd.prog 54 = false) ∧ ((Tryd.prog.underlying 54).isSome = true) := ⟨agg54, siz54, byt54, elem54, arr54, int54, zer54, str54, und54⟩
theorem t55 : (aggT Tryd.prog 55 = some false) ∧ (sizT Tryd.prog 55 = some 1) ∧ (bytT Tryd.prog 55 = some 8) ∧ (elemT Tryd.prog 55 = none) ∧ (arrT Tryd.prog 55 = none) ∧ (intT Tryd.prog 55 = none) ∧ (zerT Tryd.prog 55 = some [.nilFunc]) ∧ (strT Tryd.prog 55 = false) ∧ ((Tryd.prog.underlying 55).isSome = true) := ⟨agg55, siz55, byt55, elem55, arr55, int55, zer55, str55, und55⟩
theorem t56 : (aggT Tryd.prog 56 = some false) ∧ (sizT Tryd.prog 56 = some 1) ∧ (bytT Tryd.prog 56 = some 8) ∧ (elemT Tryd.prog 56 = none) ∧ (arrT Tryd.prog 56 = none) ∧ (intT Tryd.prog 56 = none) ∧ (zerT Tryd.prog 56 = some [.nilFunc]) ∧ (strT Tryd.prog 56 = false) ∧ ((Tryd.prog.underlying 56).isSome = true) := ⟨agg56, siz56, byt56, elem56, arr56, int56, zer56, str56, und56⟩
theorem t57 : (aggT Tryd.prog 57 = some false) ∧ (sizT Tryd.prog 57 = some 1) ∧ (bytT Tryd.prog 57 = some 8) ∧ (elemT Tryd.prog 57 = none) ∧ (arrT Tryd.prog 57 = none) ∧ (intT Tryd.prog 57 = none) ∧ (zerT Tryd.prog 57 = some [.nilFunc]) ∧ (strT Tryd.prog 57 = false) ∧ ((Tryd.prog.underlying 57).isSome = true) := ⟨agg57, siz57, byt57, elem57, arr57, int57, zer57, str57, und57⟩
theorem t58 : (aggT Tryd.prog 58 = some false) ∧ (sizT Tryd.prog 58 = some 1) ∧ (bytT Tryd.prog 58 = some 8) ∧ (elemT Tryd.prog 58 = none) ∧ (arrT Tryd.prog 58 = none) ∧ (intT Tryd.prog 58 = some .u64) ∧ (zerT Tryd.prog 58 = some [.int .u64 0]) ∧ (strT Tryd.prog 58 = false) ∧ ((Tryd.prog.underlying 58).isSome = true) := ⟨agg58, siz58, byt58, elem58, arr58, int58, zer58, str58, und58⟩
theorem t59 : (aggT Tryd.prog 59 = some false) ∧ (sizT Tryd.prog 59 = some 1) ∧ (bytT Tryd.prog 59 = some 8) ∧ (elemT Tryd.prog 59 = none) ∧ (arrT Tryd.prog 59 = none) ∧ (intT Tryd.prog 59 = none) ∧ (zerT Tryd.prog 59 = some [.nilFunc]) ∧ (strT Tryd.prog 59 = false) ∧ ((Tryd.prog.underlying 59).isSome = true) := ⟨agg59, siz59, byt59, elem59, arr59, int59, zer59, str59, und59⟩
theorem t60 : (aggT Tryd.prog 60 = some false) ∧ (sizT Tryd.prog 60 = some 1) ∧ (bytT Tryd.prog 60 = some 8) ∧ (elemT Tryd.prog 60 = none) ∧ (arrT Tryd.prog 60 = none) ∧ (intT Tryd.prog 60 = some .u64) ∧ (zerT Tryd.prog 60 = some [.int .u64 0]) ∧ (strT Tryd.prog 60 = false) ∧ ((Tryd.prog.underlying 60).isSome = true) := ⟨agg60, siz60, byt60, elem60, arr60, int60, zer60, str60, und60⟩
theorem t61 : (aggT Tryd.prog 61 = some false) ∧ (sizT Tryd.prog 61 = some 1) ∧ (bytT Tryd.prog 61 = some 8) ∧ (elemT Tryd.prog 61 = none) ∧ (arrT Tryd.prog 61 = none) ∧ (intT Tryd.prog 61 = none) ∧ (zerT Tryd.prog 61 = some [.nilFunc]) ∧ (strT Tryd.prog 61 = false) ∧ ((Tryd.prog.underlying 61).isSome = true) := ⟨agg61, siz61, byt61, elem61, arr61, int61, zer61, str61, und61⟩
theorem t62 : (aggT Tryd.prog 62 = some true) ∧ (sizT Tryd.prog 62 = some 3) ∧ (bytT Tryd.prog 62 = some 24) ∧ (elemT Tryd.prog 62 = none) ∧ (arrT Tryd.prog 62 = none) ∧ (intT Tryd.prog 62 = none) ∧ (zerT Tryd.prog 62 = some [.bool false, .int .i64 0, .int .i64 0]) ∧ (kdT Tryd.prog 60 62 = some [.bool, .int .i64, .int .i64]) ∧ (Tryd.prog.eqGuardType (Tryd.prog.depth) 62 = false) ∧ (sizesOk Tryd.prog 62 = true) ∧ (placeT Tryd.prog 62 0 = some (0, 1)) ∧ (placeT Tryd.prog 62 1 = some (1, 1)) ∧ (placeT Tryd.prog 62 2 = some (2, 1)) ∧ (strT Tryd.prog 62 = false) ∧ (fldT Tryd.prog 62 0 = some (0, 4)) ∧ (fldT Tryd.prog 62 1 = some (1, 3)) ∧ (fldT Tryd.prog 62 2 = some (2, 3)) ∧ ((Tryd.prog.underlying 62).isSome = true) := ⟨agg62, siz62, byt62, elem62, arr62, int62, zer62, kd62, eqg62, szs62, plc62_0, plc62_1, plc62_2, str62, fld62_0, fld62_1, fld62_2, und62⟩
theorem t63 : (aggT Tryd.prog 63 = some true) ∧ (sizT Tryd.prog 63 = some 3) ∧ (bytT Tryd.prog 63 = some 24) ∧ (elemT Tryd.prog 63 = none) ∧ (arrT Tryd.prog 63 = none) ∧ (intT Tryd.prog 63 = none) ∧ (zerT Tryd.prog 63 = some [.bool false, .int .i64 0, .int .i64 0]) ∧ (kdT Tryd.prog 60 63 = some [.bool, .int .i64, .int .i64]) ∧ (Tryd.prog.eqGuardType (Tryd.prog.depth) 63 = false) ∧ (sizesOk Tryd.prog 63 = true) ∧ (placeT Tryd.prog 63 0 = some (0, 1)) ∧ (placeT Tryd.prog 63 1 = some (1, 1)) ∧ (placeT Tryd.prog 63 2 = some (2, 1)) ∧ (strT Tryd.prog 63 = false) ∧ (fldT Tryd.prog 63 0 = some (0, 4)) ∧ (fldT Tryd.prog 63 1 = some (1, 3)) ∧ (fldT Tryd.prog 63 2 = some (2, 3)) ∧ ((Tryd.prog.underlying 63).isSome = true) := ⟨agg63, siz63, byt63, elem63, arr63, int63, zer63, kd63, eqg63, szs63, plc63_0, plc63_1, plc63_2, str63, fld63_0, fld63_1, fld63_2, und63⟩
theorem t64 : (aggT Tryd.prog 64 = some true) ∧ (sizT Tryd.prog 64 = some 4) ∧ (bytT Tryd.prog 64 = some 48) ∧ (elemT Tryd.prog 64 = none) ∧ (arrT Tryd.prog 64 = none) ∧ (intT Tryd.prog 64 = none) ∧ (zerT Tryd.prog 64 = some [.bool false, .int .i64 0, .int .i64 0, .slice none 0 0]) ∧ (Tryd.prog.eqGuardType (Tryd.prog.depth) 64 = false) ∧ (sizesOk Tryd.prog 64 = true) ∧ (placeT Tryd.prog 64 0 = some (0, 3)) ∧ (placeT Tryd.prog 64 1 = some (3, 1)) ∧ (strT Tryd.prog 64 = false) ∧ (fldT Tryd.prog 64 0 = some (0, 63)) ∧ (fldT Tryd.prog 64 1 = some (3, 34)) ∧ ((Tryd.prog.underlying 64).isSome = true) := ⟨agg64, siz64, byt64, elem64, arr64, int64, zer64, eqg64, szs64, plc64_0, plc64_1, str64, fld64_0, fld64_1, und64⟩
theorem t65 : (aggT Tryd.prog 65 = some true) ∧ (sizT Tryd.prog 65 = some 4) ∧ (bytT Tryd.prog 65 = some 48) ∧ (elemT Tryd.prog 65 = none) ∧ (arrT Tryd.prog 65 = none) ∧ (intT Tryd.prog 65 = none) ∧ (zerT Tryd.prog 65 = some [.bool false, .int .i64 0, .int .i64 0, .slice none 0 0]) ∧ (Tryd.prog.eqGuardType (Tryd.prog.depth) 65 = false) ∧ (sizesOk Tryd.prog 65 = true) ∧ (placeT Tryd.prog 65 0 = some (0, 3)) ∧ (placeT Tryd.prog 65 1 = some (3, 1)) ∧ (strT Tryd.prog 65 = false) ∧ (fldT Tryd.prog 65 0 = some (0, 63)) ∧ (fldT Tryd.prog 65 1 = some (3, 34)) ∧ ((Tryd.prog.underlying 65).isSome = true) := ⟨agg65, siz65, byt65, elem65, arr65, int65, zer65, eqg65, szs65, plc65_0, plc65_1, str65, fld65_0, fld65_1, und65⟩
theorem t66 : (aggT Tryd.prog 66 = some false) ∧ (sizT Tryd.prog 66 = some 1) ∧ (bytT Tryd.prog 66 = some 0) ∧ (elemT Tryd.prog 66 = none) ∧ (arrT Tryd.prog 66 = none) ∧ (intT Tryd.prog 66 = none) ∧ (strT Tryd.prog 66 = false) ∧ ((Tryd.prog.underlying 66).isSome = true) := ⟨agg66, siz66, byt66, elem66, arr66, int66, str66, und66⟩
theorem t67 : (aggT Tryd.prog 67 = some false) ∧ (sizT Tryd.prog 67 = some 1) ∧ (bytT Tryd.prog 67 = some 8) ∧ (elemT Tryd.prog 67 = none) ∧ (arrT Tryd.prog 67 = none) ∧ (intT Tryd.prog 67 = none) ∧ (zerT Tryd.prog 67 = some [.nilFunc]) ∧ (strT Tryd.prog 67 = false) ∧ ((Tryd.prog.underlying 67).isSome = true) := ⟨agg67, siz67, byt67, elem67, arr67, int67, zer67, str67, und67⟩
theorem t68 : (aggT Tryd.prog 68 = some false) ∧ (sizT Tryd.prog 68 = some 1) ∧ (bytT Tryd.prog 68 = some 8) ∧ (elemT Tryd.prog 68 = none) ∧ (arrT Tryd.prog 68 = none) ∧ (intT Tryd.prog 68 = none) ∧ (zerT Tryd.prog 68 = some [.nilFunc]) ∧ (strT Tryd.prog 68 = false) ∧ ((Tryd.prog.underlying 68).isSome = true) := ⟨agg68, siz68, byt68, elem68, arr68, int68, zer68, str68, und68⟩
theorem t69 : (aggT Tryd.prog 69 = some false) ∧ (sizT Tryd.prog 69 = some 1) ∧ (bytT Tryd.prog 69 = some 8) ∧ (elemT Tryd.prog 69 = none) ∧ (arrT Tryd.prog 69 = none) ∧ (intT Tryd.prog 69 = none) ∧ (zerT Tryd.prog 69 = some [.nilFunc]) ∧ (strT Tryd.prog 69 = false) ∧ ((Tryd.prog.underlying 69).isSome = true) := ⟨agg69, siz69, byt69, elem69, arr69, int69, zer69, str69, und69⟩
theorem t70 : (aggT Tryd.prog 70 = some false) ∧ (sizT Tryd.prog 70 = some 1) ∧ (bytT Tryd.prog 70 = some 8) ∧ (elemT Tryd.prog 70 = none) ∧ (arrT Tryd.prog 70 = none) ∧ (intT Tryd.prog 70 = none) ∧ (zerT Tryd.prog 70 = some [.nilFunc]) ∧ (strT Tryd.prog 70 = false) ∧ ((Tryd.prog.underlying 70).isSome = true) := ⟨agg70, siz70, byt70, elem70, arr70, int70, zer70, str70, und70⟩
theorem t71 : (aggT Tryd.prog 71 = some false) ∧ (sizT Tryd.prog 71 = some 1) ∧ (bytT Tryd.prog 71 = some 8) ∧ (elemT Tryd.prog 71 = none) ∧ (arrT Tryd.prog 71 = none) ∧ (intT Tryd.prog 71 = none) ∧ (zerT Tryd.prog 71 = some [.nilFunc]) ∧ (strT Tryd.prog 71 = false) ∧ ((Tryd.prog.underlying 71).isSome = true) := ⟨agg71, siz71, byt71, elem71, arr71, int71, zer71, str71, und71⟩
theorem t72 : (aggT Tryd.prog 72 = some false) ∧ (sizT Tryd.prog 72 = some 1) ∧ (bytT Tryd.prog 72 = some 8) ∧ (elemT Tryd.prog 72 = none) ∧ (arrT Tryd.prog 72 = none) ∧ (intT Tryd.prog 72 = none) ∧ (zerT Tryd.prog 72 = some [.nilFunc]) ∧ (strT Tryd.prog 72 = false) ∧ ((Tryd.prog.underlying 72).isSome = true) := ⟨agg72, siz72, byt72, elem72, arr72, int72, zer72, str72, und72⟩
theorem t73 : (aggT Tryd.prog 73 = some false) ∧ (sizT Tryd.prog 73 = some 1) ∧ (bytT Tryd.prog 73 = some 8) ∧ (elemT Tryd.prog 73 = none) ∧ (arrT Tryd.prog 73 = none) ∧ (intT Tryd.prog 73 = none) ∧ (zerT Tryd.prog 73 = some [.nilFunc]) ∧ (strT Tryd.prog 73 = false) ∧ ((Tryd.prog.underlying 73).isSome = true) := ⟨agg73, siz73, byt73, elem73, arr73, int73, zer73, str73, und73⟩
theorem t74 : (aggT Tryd.prog 74 = some false) ∧ (sizT Tryd.prog 74 = some 1) ∧ (bytT Tryd.prog 74 = some 8) ∧ (elemT Tryd.prog 74 = none) ∧ (arrT Tryd.prog 74 = none) ∧ (intT Tryd.prog 74 = none) ∧ (zerT Tryd.prog 74 = some [.nilFunc]) ∧ (strT Tryd.prog 74 = false) ∧ ((Tryd.prog.underlying 74).isSome = true) := ⟨agg74, siz74, byt74, elem74, arr74, int74, zer74, str74, und74⟩
theorem t75 : (aggT Tryd.prog 75 = some false) ∧ (sizT Tryd.prog 75 = some 1) ∧ (bytT Tryd.prog 75 = some 8) ∧ (elemT Tryd.prog 75 = none) ∧ (arrT Tryd.prog 75 = none) ∧ (intT Tryd.prog 75 = none) ∧ (zerT Tryd.prog 75 = some [.nilFunc]) ∧ (strT Tryd.prog 75 = false) ∧ ((Tryd.prog.underlying 75).isSome = true) := ⟨agg75, siz75, byt75, elem75, arr75, int75, zer75, str75, und75⟩
theorem t76 : (aggT Tryd.prog 76 = some false) ∧ (sizT Tryd.prog 76 = some 1) ∧ (bytT Tryd.prog 76 = some 8) ∧ (elemT Tryd.prog 76 = none) ∧ (arrT Tryd.prog 76 = none) ∧ (intT Tryd.prog 76 = none) ∧ (zerT Tryd.prog 76 = some [.nilFunc]) ∧ (strT Tryd.prog 76 = false) ∧ ((Tryd.prog.underlying 76).isSome = true) := ⟨agg76, siz76, byt76, elem76, arr76, int76, zer76, str76, und76⟩
theorem t77 : (aggT Tryd.prog 77 = some false) ∧ (sizT Tryd.prog 77 = some 1) ∧ (bytT Tryd.prog 77 = some 8) ∧ (elemT Tryd.prog 77 = none) ∧ (arrT Tryd.prog 77 = none) ∧ (intT Tryd.prog 77 = none) ∧ (zerT Tryd.prog 77 = some [.nilFunc]) ∧ (strT Tryd.prog 77 = false) ∧ ((Tryd.prog.underlying 77).isSome = true) := ⟨agg77, siz77, byt77, elem77, arr77, int77, zer77, str77, und77⟩
theorem t78 : (aggT Tryd.prog 78 = some false) ∧ (sizT Tryd.prog 78 = some 1) ∧ (bytT Tryd.prog 78 = some 24) ∧ (elemT Tryd.prog 78 = some 34) ∧ (arrT Tryd.prog 78 = none) ∧ (intT Tryd.prog 78 = none) ∧ (zerT Tryd.prog 78 = some [.slice none 0 0]) ∧ (strT Tryd.prog 78 = false) ∧ ((Tryd.prog.underlying 78).isSome = true) := ⟨agg78, siz78, byt78, elem78, arr78, int78, zer78, str78, und78⟩
theorem t79 : (aggT Tryd.prog 79 = some false) ∧ (sizT Tryd.prog 79 = some 1) ∧ (bytT Tryd.prog 79 = some 8) ∧ (elemT Tryd.prog 79 = none) ∧ (arrT Tryd.prog 79 = none) ∧ (intT Tryd.prog 79 = none) ∧ (zerT Tryd.prog 79 = some [.nilFunc]) ∧ (strT Tryd.prog 79 = false) ∧ ((Tryd.prog.underlying 79).isSome = true) := ⟨agg79, siz79, byt79, elem79, arr79, int79, zer79, str79, und79⟩
theorem t80 : (aggT Tryd.prog 80 = some false) ∧ (sizT Tryd.prog 80 = some 1) ∧ (bytT Tryd.prog 80 = some 8) ∧ (elemT Tryd.prog 80 = none) ∧ (arrT Tryd.prog 80 = none) ∧ (intT Tryd.prog 80 = none) ∧ (zerT Tryd.prog 80 = some [.nilFunc]) ∧ (strT Tryd.prog 80 = false) ∧ ((Tryd.prog.underlying 80).isSome = true) := ⟨agg80, siz80, byt80, elem80, arr80, int80, zer80, str80, und80⟩
theorem t81 : (aggT Tryd.prog 81 = some false) ∧ (sizT Tryd.prog 81 = some 1) ∧ (bytT Tryd.prog 81 = some 2) ∧ (elemT Tryd.prog 81 = none) ∧ (arrT Tryd.prog 81 = none) ∧ (intT Tryd.prog 81 = some .u16) ∧ (zerT Tryd.prog 81 = some [.int .u16 0]) ∧ (strT Tryd.prog 81 = false) ∧ ((Tryd.prog.underlying 81).isSome = true) := ⟨agg81, siz81, byt81, elem81, arr81, int81, zer81, str81, und81⟩
theorem t82 : (aggT Tryd.prog 82 = some false) ∧ (sizT Tryd.prog 82 = some 1) ∧ (bytT Tryd.prog 82 = some 8) ∧ (elemT Tryd.prog 82 = none) ∧ (arrT Tryd.prog 82 = none) ∧ (intT Tryd.prog 82 = none) ∧ (zerT Tryd.prog 82 = some [.nilFunc]) ∧ (strT Tryd.prog 82 = false) ∧ ((Tryd.prog.underlying 82).isSome = true) := ⟨agg82, siz82, byt82, elem82, arr82, int82, zer82, str82, und82⟩
theorem t83 : (aggT Tryd.prog 83 = some false) ∧ (sizT Tryd.prog 83 = some 1) ∧ (bytT Tryd.prog 83 = some 0) ∧ (elemT Tryd.prog 83 = none) ∧ (arrT Tryd.prog 83 = none) ∧ (intT Tryd.prog 83 = none) ∧ (strT Tryd.prog 83 = false) ∧ ((Tryd.prog.underlying 83).isSome = true) := ⟨agg83, siz83, byt83, elem83, arr83, int83, str83, und83⟩
theorem t84 : (aggT Tryd.prog 84 = some false) ∧ (sizT Tryd.prog 84 = some 1) ∧ (bytT Tryd.prog 84 = some 8) ∧ (elemT Tryd.prog 84 = none) ∧ (arrT Tryd.prog 84 = none) ∧ (intT Tryd.prog 84 = none) ∧ (zerT Tryd.prog 84 = some [.nilFunc]) ∧ (strT Tryd.prog 84 = false) ∧ ((Tryd.prog.underlying 84).isSome = true) := ⟨agg84, siz84, byt84, elem84, arr84, int84, zer84, str84, und84⟩
theorem t85 : (aggT Tryd.prog 85 = some false) ∧ (sizT Tryd.prog 85 = some 1) ∧ (bytT Tryd.prog 85 = some 8) ∧ (elemT Tryd.prog 85 = none) ∧ (arrT Tryd.prog 85 = none) ∧ (intT Tryd.prog 85 = none) ∧ (zerT Tryd.prog 85 = some [.nilFunc]) ∧ (strT Tryd.prog 85 = false) ∧ ((Tryd.prog.underlying 85).isSome = true) := ⟨agg85, siz85, byt85, elem85, arr85, int85, zer85, str85, und85⟩
theorem t86 : (aggT Tryd.prog 86 = some false) ∧ (sizT Tryd.prog 86 = some 1) ∧ (bytT Tryd.prog 86 = some 8) ∧ (elemT Tryd.prog 86 = none) ∧ (arrT Tryd.prog 86 = none) ∧ (intT Tryd.prog 86 = none) ∧ (zerT Tryd.prog 86 = some [.nilFunc]) ∧ (strT Tryd.prog 86 = false) ∧ ((Tryd.prog.underlying 86).isSome = true) := ⟨agg86, siz86, byt86, elem86, arr86, int86, zer86, str86, und86⟩
theorem t87 : (aggT Tryd.prog 87 = some false) ∧ (sizT Tryd.prog 87 = some 1) ∧ (bytT Tryd.prog 87 = some 8) ∧ (elemT Tryd.prog 87 = none) ∧ (arrT Tryd.prog 87 = none) ∧ (intT Tryd.prog 87 = none) ∧ (zerT Tryd.prog 87 = some [.nilFunc]) ∧ (strT Tryd.prog 87 = false) ∧ ((Tryd.prog.underlying 87).isSome = true) := ⟨agg87, siz87, byt87, elem87, arr87, int87, zer87, str87, und87⟩
theorem t88 : (aggT Tryd.prog 88 = some false) ∧ (sizT Tryd.prog 88 = some 1) ∧ (bytT Tryd.prog 88 = some 8) ∧ (elemT Tryd.prog 88 = none) ∧ (arrT Tryd.prog 88 = none) ∧ (intT Tryd.prog 88 = none) ∧ (zerT Tryd.prog 88 = some [.nilFunc]) ∧ (strT Tryd.prog 88 = false) ∧ ((Tryd.prog.underlying 88).isSome = true) := ⟨agg88, siz88, byt88, elem88, arr88, int88, zer88, str88, und88⟩
theorem t89 : (aggT Tryd.prog 89 = some true) ∧ (sizT Tryd.prog 89 = some 16) ∧ (bytT Tryd.prog 89 = some 16) ∧ (elemT Tryd.prog 89 = none) ∧ (arrT Tryd.prog 89 = some (16, 5)) ∧ (intT Tryd.prog 89 = none) ∧ (zerT Tryd.prog 89 = some [.int .u8 0, .int .u8 0, .int .u8 0, .int .u8 0, .int .u8 0, .int .u8 0, .int .u8 0, .int .u8 0, .int .u8 0, .int .u8 0, .int .u8 0, .int .u8 0, .int .u8 0, .int .u8 0, .int .u8 0, .int .u8 0]) ∧ (kdT Tryd.prog 60 89 = some [.int .u8, .int .u8, .int .u8, .int .u8, .int .u8, .int .u8, .int .u8, .int .u8, .int .u8, .int .u8, .int .u8, .int .u8, .int .u8, .int .u8, .int .u8, .int .u8]) ∧ (Tryd.prog.eqGuardType (Tryd.prog.depth) 89 = false) ∧ (sizesOk Tryd.prog 89 = true) ∧ (placeT Tryd.prog 89 0 = some (0, 1)) ∧ (placeT Tryd.prog 89 1 = some (1, 1)) ∧ (placeT Tryd.prog 89 2 = some (2, 1)) ∧ (placeT Tryd.prog 89 3 = some (3, 1)) ∧ (placeT Tryd.prog 89 4 = some (4, 1)) ∧ (placeT Tryd.prog 89 5 = some (5, 1)) ∧ (placeT Tryd.prog 89 6 = some (6, 1)) ∧ (placeT Tryd.prog 89 7 = some (7, 1)) ∧ (placeT Tryd.prog 89 8 = some (8, 1)) ∧ (placeT Tryd.prog 89 9 = some (9, 1)) ∧ (placeT Tryd.prog 89 10 = some (10, 1)) ∧ (placeT Tryd.prog 89 11 = some (11, 1)) ∧ (strT Tryd.prog 89 = false) ∧ ((Tryd.prog.underlying 89).isSome = true) := ⟨agg89, siz89, byt89, elem89, arr89, int89, zer89, kd89, eqg89, szs89, plc89_0, plc89_1, plc89_2, plc89_3, plc89_4, plc89_5, plc89_6, plc89_7, plc89_8, plc89_9, plc89_10, plc89_11, str89, und89⟩
theorem t90 : (aggT Tryd.prog 90 = some false) ∧ (sizT Tryd.prog 90 = some 1) ∧ (bytT Tryd.prog 90 = some 8) ∧ (elemT Tryd.prog 90 = none) ∧ (arrT Tryd.prog 90 = none) ∧ (intT Tryd.prog 90 = none) ∧ (zerT Tryd.prog 90 = some [.nilFunc]) ∧ (strT Tryd.prog 90 = false) ∧ ((Tryd.prog.underlying 90).isSome = true) := ⟨agg90, siz90, byt90, elem90, arr90, int90, zer90, str90, und90⟩
theorem t91 : (aggT Tryd.prog 91 = some false) ∧ (sizT Tryd.prog 91 = some 1) ∧ (bytT Tryd.prog 91 = some 8) ∧ (elemT Tryd.prog 91 = none) ∧ (arrT Tryd.prog 91 = none) ∧ (intT Tryd.prog 91 = none) ∧ (zerT Tryd.prog 91 = some [.nilFunc]) ∧ (strT Tryd.prog 91 = false) ∧ ((Tryd.prog.underlying 91).isSome = true) := ⟨agg91, siz91, byt91, elem91, arr91, int91, zer91, str91, und91⟩
theorem t92 : (aggT Tryd.prog 92 = some false) ∧ (sizT Tryd.prog 92 = some 1) ∧ (bytT Tryd.prog 92 = some 8) ∧ (elemT Tryd.prog 92 = none) ∧ (arrT Tryd.prog 92 = none) ∧ (intT Tryd.prog 92 = none) ∧ (zerT Tryd.prog 92 = some [.nilFunc]) ∧ (strT Tryd.prog 92 = false) ∧ ((Tryd.prog.underlying 92).isSome = true) := ⟨agg92, siz92, byt92, elem92, arr92, int92, zer92, str92, und92⟩
theorem t93 : (aggT Tryd.prog 93 = some false) ∧ (sizT Tryd.prog 93 = some 1) ∧ (bytT Tryd.prog 93 = some 0) ∧ (elemT Tryd.prog 93 = none) ∧ (arrT Tryd.prog 93 = none) ∧ (intT Tryd.prog 93 = none) ∧ (strT Tryd.prog 93 = false) ∧ ((Tryd.prog.underlying 93).isSome = true) := ⟨agg93, siz93, byt93, elem93, arr93, int93, str93, und93⟩
theorem t94 : (aggT Tryd.prog 94 = some false) ∧ (sizT Tryd.prog 94 = some 1) ∧ (bytT Tryd.prog 94 = some 8) ∧ (elemT Tryd.prog 94 = none) ∧ (arrT Tryd.prog 94 = none) ∧ (intT Tryd.prog 94 = none) ∧ (zerT Tryd.prog 94 = some [.nilFunc]) ∧ (strT Tryd.prog 94 = false) ∧ ((Tryd.prog.underlying 94).isSome = true) := ⟨agg94, siz94, byt94, elem94, arr94, int94, zer94, str94, und94⟩
theorem t95 : (aggT Tryd.prog 95 = some false) ∧ (sizT Tryd.prog 95 = some 1) ∧ (bytT Tryd.prog 95 = some 8) ∧ (elemT Tryd.prog 95 = none) ∧ (arrT Tryd.prog 95 = none) ∧ (intT Tryd.prog 95 = none) ∧ (zerT Tryd.prog 95 = some [.nilFunc]) ∧ (strT Tryd.prog 95 = false) ∧ ((Tryd.prog.underlying 95).isSome = true) := ⟨agg95, siz95, byt95, elem95, arr95, int95, zer95, str95, und95⟩
theorem t96 : (aggT Tryd.prog 96 = some true) ∧ (sizT Tryd.prog 96 = some 4) ∧ (bytT Tryd.prog 96 = some 40) ∧ (elemT Tryd.prog 96 = none) ∧ (arrT Tryd.prog 96 = none) ∧ (intT Tryd.prog 96 = none) ∧ (zerT Tryd.prog 96 = some [.pointer none, .pointer none, .pointer none, .string ByteArray.empty]) ∧ (Tryd.prog.eqGuardType (Tryd.prog.depth) 96 = false) ∧ (sizesOk Tryd.prog 96 = true) ∧ (placeT Tryd.prog 96 0 = some (0, 1)) ∧ (placeT Tryd.prog 96 1 = some (1, 1)) ∧ (placeT Tryd.prog 96 2 = some (2, 1)) ∧ (placeT Tryd.prog 96 3 = some (3, 1)) ∧ (strT Tryd.prog 96 = false) ∧ (fldT Tryd.prog 96 0 = some (0, 17)) ∧ (fldT Tryd.prog 96 1 = some (1, 17)) ∧ (fldT Tryd.prog 96 2 = some (2, 17)) ∧ (fldT Tryd.prog 96 3 = some (3, 9)) ∧ ((Tryd.prog.underlying 96).isSome = true) := ⟨agg96, siz96, byt96, elem96, arr96, int96, zer96, eqg96, szs96, plc96_0, plc96_1, plc96_2, plc96_3, str96, fld96_0, fld96_1, fld96_2, fld96_3, und96⟩
theorem t97 : (aggT Tryd.prog 97 = some true) ∧ (sizT Tryd.prog 97 = some 4) ∧ (bytT Tryd.prog 97 = some 40) ∧ (elemT Tryd.prog 97 = none) ∧ (arrT Tryd.prog 97 = none) ∧ (intT Tryd.prog 97 = none) ∧ (zerT Tryd.prog 97 = some [.pointer none, .pointer none, .pointer none, .string ByteArray.empty]) ∧ (Tryd.prog.eqGuardType (Tryd.prog.depth) 97 = false) ∧ (sizesOk Tryd.prog 97 = true) ∧ (placeT Tryd.prog 97 0 = some (0, 1)) ∧ (placeT Tryd.prog 97 1 = some (1, 1)) ∧ (placeT Tryd.prog 97 2 = some (2, 1)) ∧ (placeT Tryd.prog 97 3 = some (3, 1)) ∧ (strT Tryd.prog 97 = false) ∧ (fldT Tryd.prog 97 0 = some (0, 17)) ∧ (fldT Tryd.prog 97 1 = some (1, 17)) ∧ (fldT Tryd.prog 97 2 = some (2, 17)) ∧ (fldT Tryd.prog 97 3 = some (3, 9)) ∧ ((Tryd.prog.underlying 97).isSome = true) := ⟨agg97, siz97, byt97, elem97, arr97, int97, zer97, eqg97, szs97, plc97_0, plc97_1, plc97_2, plc97_3, str97, fld97_0, fld97_1, fld97_2, fld97_3, und97⟩
theorem t98 : (aggT Tryd.prog 98 = some true) ∧ (sizT Tryd.prog 98 = some 0) ∧ (bytT Tryd.prog 98 = some 0) ∧ (elemT Tryd.prog 98 = none) ∧ (arrT Tryd.prog 98 = some (0, 16)) ∧ (intT Tryd.prog 98 = none) ∧ (zerT Tryd.prog 98 = some []) ∧ (Tryd.prog.eqGuardType (Tryd.prog.depth) 98 = false) ∧ (sizesOk Tryd.prog 98 = true) ∧ (placeT Tryd.prog 98 0 = some (0, 1)) ∧ (placeT Tryd.prog 98 1 = some (1, 1)) ∧ (placeT Tryd.prog 98 2 = some (2, 1)) ∧ (placeT Tryd.prog 98 3 = some (3, 1)) ∧ (placeT Tryd.prog 98 4 = some (4, 1)) ∧ (placeT Tryd.prog 98 5 = some (5, 1)) ∧ (placeT Tryd.prog 98 6 = some (6, 1)) ∧ (placeT Tryd.prog 98 7 = some (7, 1)) ∧ (placeT Tryd.prog 98 8 = some (8, 1)) ∧ (placeT Tryd.prog 98 9 = some (9, 1)) ∧ (placeT Tryd.prog 98 10 = some (10, 1)) ∧ (placeT Tryd.prog 98 11 = some (11, 1)) ∧ (strT Tryd.prog 98 = false) ∧ ((Tryd.prog.underlying 98).isSome = true) := ⟨agg98, siz98, byt98, elem98, arr98, int98, zer98, eqg98, szs98, plc98_0, plc98_1, plc98_2, plc98_3, plc98_4, plc98_5, plc98_6, plc98_7, plc98_8, plc98_9, plc98_10, plc98_11, str98, und98⟩
theorem t99 : (aggT Tryd.prog 99 = some true) ∧ (sizT Tryd.prog 99 = some 0) ∧ (bytT Tryd.prog 99 = some 0) ∧ (elemT Tryd.prog 99 = none) ∧ (arrT Tryd.prog 99 = none) ∧ (intT Tryd.prog 99 = none) ∧ (zerT Tryd.prog 99 = some []) ∧ (Tryd.prog.eqGuardType (Tryd.prog.depth) 99 = false) ∧ (sizesOk Tryd.prog 99 = true) ∧ (placeT Tryd.prog 99 0 = some (0, 0)) ∧ (strT Tryd.prog 99 = false) ∧ (fldT Tryd.prog 99 0 = some (0, 98)) ∧ ((Tryd.prog.underlying 99).isSome = true) := ⟨agg99, siz99, byt99, elem99, arr99, int99, zer99, eqg99, szs99, plc99_0, str99, fld99_0, und99⟩
theorem t100 : (aggT Tryd.prog 100 = some true) ∧ (sizT Tryd.prog 100 = some 0) ∧ (bytT Tryd.prog 100 = some 0) ∧ (elemT Tryd.prog 100 = none) ∧ (arrT Tryd.prog 100 = none) ∧ (intT Tryd.prog 100 = none) ∧ (zerT Tryd.prog 100 = some []) ∧ (Tryd.prog.eqGuardType (Tryd.prog.depth) 100 = false) ∧ (sizesOk Tryd.prog 100 = true) ∧ (placeT Tryd.prog 100 0 = some (0, 0)) ∧ (strT Tryd.prog 100 = false) ∧ (fldT Tryd.prog 100 0 = some (0, 98)) ∧ ((Tryd.prog.underlying 100).isSome = true) := ⟨agg100, siz100, byt100, elem100, arr100, int100, zer100, eqg100, szs100, plc100_0, str100, fld100_0, und100⟩
theorem t101 : (aggT Tryd.prog 101 = some false) ∧ (sizT Tryd.prog 101 = some 1) ∧ (bytT Tryd.prog 101 = some 1) ∧ (elemT Tryd.prog 101 = none) ∧ (arrT Tryd.prog 101 = none) ∧ (intT Tryd.prog 101 = some .u8) ∧ (zerT Tryd.prog 101 = some [.int .u8 0]) ∧ (strT Tryd.prog 101 = false) ∧ ((Tryd.prog.underlying 101).isSome = true) := ⟨agg101, siz101, byt101, elem101, arr101, int101, zer101, str101, und101⟩
theorem t102 : (aggT Tryd.prog 102 = some false) ∧ (sizT Tryd.prog 102 = some 1) ∧ (bytT Tryd.prog 102 = some 1) ∧ (elemT Tryd.prog 102 = none) ∧ (arrT Tryd.prog 102 = none) ∧ (intT Tryd.prog 102 = some .u8) ∧ (zerT Tryd.prog 102 = some [.int .u8 0]) ∧ (strT Tryd.prog 102 = false) ∧ ((Tryd.prog.underlying 102).isSome = true) := ⟨agg102, siz102, byt102, elem102, arr102, int102, zer102, str102, und102⟩
theorem t103 : (aggT Tryd.prog 103 = some false) ∧ (sizT Tryd.prog 103 = some 1) ∧ (bytT Tryd.prog 103 = some 8) ∧ (elemT Tryd.prog 103 = none) ∧ (arrT Tryd.prog 103 = none) ∧ (intT Tryd.prog 103 = none) ∧ (zerT Tryd.prog 103 = some [.nilFunc]) ∧ (strT Tryd.prog 103 = false) ∧ ((Tryd.prog.underlying 103).isSome = true) := ⟨agg103, siz103, byt103, elem103, arr103, int103, zer103, str103, und103⟩
theorem t104 : (aggT Tryd.prog 104 = some false) ∧ (sizT Tryd.prog 104 = some 1) ∧ (bytT Tryd.prog 104 = some 8) ∧ (elemT Tryd.prog 104 = none) ∧ (arrT Tryd.prog 104 = none) ∧ (intT Tryd.prog 104 = none) ∧ (zerT Tryd.prog 104 = some [.pointer none]) ∧ (strT Tryd.prog 104 = false) ∧ ((Tryd.prog.underlying 104).isSome = true) := ⟨agg104, siz104, byt104, elem104, arr104, int104, zer104, str104, und104⟩
theorem t105 : (aggT Tryd.prog 105 = some false) ∧ (sizT Tryd.prog 105 = some 1) ∧ (bytT Tryd.prog 105 = some 4) ∧ (elemT Tryd.prog 105 = none) ∧ (arrT Tryd.prog 105 = none) ∧ (intT Tryd.prog 105 = some .i32) ∧ (zerT Tryd.prog 105 = some [.int .i32 0]) ∧ (strT Tryd.prog 105 = false) ∧ ((Tryd.prog.underlying 105).isSome = true) := ⟨agg105, siz105, byt105, elem105, arr105, int105, zer105, str105, und105⟩
theorem t106 : (aggT Tryd.prog 106 = some false) ∧ (sizT Tryd.prog 106 = some 1) ∧ (bytT Tryd.prog 106 = some 4) ∧ (elemT Tryd.prog 106 = none) ∧ (arrT Tryd.prog 106 = none) ∧ (intT Tryd.prog 106 = some .i32) ∧ (zerT Tryd.prog 106 = some [.int .i32 0]) ∧ (strT Tryd.prog 106 = false) ∧ ((Tryd.prog.underlying 106).isSome = true) := ⟨agg106, siz106, byt106, elem106, arr106, int106, zer106, str106, und106⟩
theorem t107 : (aggT Tryd.prog 107 = some true) ∧ (sizT Tryd.prog 107 = some 11) ∧ (bytT Tryd.prog 107 = some 48) ∧ (elemT Tryd.prog 107 = none) ∧ (arrT Tryd.prog 107 = none) ∧ (intT Tryd.prog 107 = none) ∧ (zerT Tryd.prog 107 = some [.int .u64 0, .int .u64 0, .int .u32 0, .int .u8 0, .int .u8 0, .int .u8 0, .int .u8 0, .nilFunc, .pointer none, .int .i32 0, .int .i32 0]) ∧ (Tryd.prog.eqGuardType (Tryd.prog.depth) 107 = false) ∧ (sizesOk Tryd.prog 107 = true) ∧ (placeT Tryd.prog 107 0 = some (0, 1)) ∧ (placeT Tryd.prog 107 1 = some (1, 1)) ∧ (placeT Tryd.prog 107 2 = some (2, 1)) ∧ (placeT Tryd.prog 107 3 = some (3, 1)) ∧ (placeT Tryd.prog 107 4 = some (4, 1)) ∧ (placeT Tryd.prog 107 5 = some (5, 1)) ∧ (placeT Tryd.prog 107 6 = some (6, 1)) ∧ (placeT Tryd.prog 107 7 = some (7, 1)) ∧ (placeT Tryd.prog 107 8 = some (8, 1)) ∧ (placeT Tryd.prog 107 9 = some (9, 1)) ∧ (placeT Tryd.prog 107 10 = some (10, 1)) ∧ (strT Tryd.prog 107 = false) ∧ (fldT Tryd.prog 107 0 = some (0, 12)) ∧ (fldT Tryd.prog 107 1 = some (1, 12)) ∧ (fldT Tryd.prog 107 2 = some (2, 22)) ∧ (fldT Tryd.prog 107 3 = some (3, 101)) ∧ (fldT Tryd.prog 107 4 = some (4, 5)) ∧ (fldT Tryd.prog 107 5 = some (5, 5)) ∧ (fldT Tryd.prog 107 6 = some (6, 102)) ∧ (fldT Tryd.prog 107 7 = some (7, 103)) ∧ (fldT Tryd.prog 107 8 = some (8, 104)) ∧ (fldT Tryd.prog 107 9 = some (9, 105)) ∧ (fldT Tryd.prog 107 10 = some (10, 106)) ∧ ((Tryd.prog.underlying 107).isSome = true) := ⟨agg107, siz107, byt107, elem107, arr107, int107, zer107, eqg107, szs107, plc107_0, plc107_1, plc107_2, plc107_3, plc107_4, plc107_5, plc107_6, plc107_7, plc107_8, plc107_9, plc107_10, str107, fld107_0, fld107_1, fld107_2, fld107_3, fld107_4, fld107_5, fld107_6, fld107_7, fld107_8, fld107_9, fld107_10, und107⟩
theorem t108 : (aggT Tryd.prog 108 = some true) ∧ (sizT Tryd.prog 108 = some 11) ∧ (bytT Tryd.prog 108 = some 48) ∧ (elemT Tryd.prog 108 = none) ∧ (arrT Tryd.prog 108 = none) ∧ (intT Tryd.prog 108 = none) ∧ (zerT Tryd.prog 108 = some [.int .u64 0, .int .u64 0, .int .u32 0, .int .u8 0, .int .u8 0, .int .u8 0, .int .u8 0, .nilFunc, .pointer none, .int .i32 0, .int .i32 0]) ∧ (Tryd.prog.eqGuardType (Tryd.prog.depth) 108 = false) ∧ (sizesOk Tryd.prog 108 = true) ∧ (placeT Tryd.prog 108 0 = some (0, 1)) ∧ (placeT Tryd.prog 108 1 = some (1, 1)) ∧ (placeT Tryd.prog 108 2 = some (2, 1)) ∧ (placeT Tryd.prog 108 3 = some (3, 1)) ∧ (placeT Tryd.prog 108 4 = some (4, 1)) ∧ (placeT Tryd.prog 108 5 = some (5, 1)) ∧ (placeT Tryd.prog 108 6 = some (6, 1)) ∧ (placeT Tryd.prog 108 7 = some (7, 1)) ∧ (placeT Tryd.prog 108 8 = some (8, 1)) ∧ (placeT Tryd.prog 108 9 = some (9, 1)) ∧ (placeT Tryd.prog 108 10 = some (10, 1)) ∧ (strT Tryd.prog 108 = false) ∧ (fldT Tryd.prog 108 0 = some (0, 12)) ∧ (fldT Tryd.prog 108 1 = some (1, 12)) ∧ (fldT Tryd.prog 108 2 = some (2, 22)) ∧ (fldT Tryd.prog 108 3 = some (3, 101)) ∧ (fldT Tryd.prog 108 4 = some (4, 5)) ∧ (fldT Tryd.prog 108 5 = some (5, 5)) ∧ (fldT Tryd.prog 108 6 = some (6, 102)) ∧ (fldT Tryd.prog 108 7 = some (7, 103)) ∧ (fldT Tryd.prog 108 8 = some (8, 104)) ∧ (fldT Tryd.prog 108 9 = some (9, 105)) ∧ (fldT Tryd.prog 108 10 = some (10, 106)) ∧ ((Tryd.prog.underlying 108).isSome = true) := ⟨agg108, siz108, byt108, elem108, arr108, int108, zer108, eqg108, szs108, plc108_0, plc108_1, plc108_2, plc108_3, plc108_4, plc108_5, plc108_6, plc108_7, plc108_8, plc108_9, plc108_10, str108, fld108_0, fld108_1, fld108_2, fld108_3, fld108_4, fld108_5, fld108_6, fld108_7, fld108_8, fld108_9, fld108_10, und108⟩
theorem t109 : (aggT Tryd.prog 109 = some false) ∧ (sizT Tryd.prog 109 = some 1) ∧ (bytT Tryd.prog 109 = some 8) ∧ (elemT Tryd.prog 109 = none) ∧ (arrT Tryd.prog 109 = none) ∧ (intT Tryd.prog 109 = none) ∧ (zerT Tryd.prog 109 = some [.pointer none]) ∧ (strT Tryd.prog 109 = false) ∧ ((Tryd.prog.underlying 109).isSome = true) := ⟨agg109, siz109, byt109, elem109, arr109, int109, zer109, str109, und109⟩
end Go.Proofs.YtdhmjnpaoacpfaaDoor.Ty
