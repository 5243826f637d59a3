/- Facts of this seat's types, each asked of the kernel. -/
import Derived.Test.YtgmocacalgiaiaaProg
import Derived.Test.YtgmocacalgiaiaaAbC
import Derived.KernelRfl
set_option linter.all false
namespace Go.Proofs.Ytgmocacalgiaiaa.Ty
open Go Go.Ab
theorem agg0 : aggT Try.prog 0 = some false := by kernel_rfl
theorem siz0 : sizT Try.prog 0 = some 1 := by kernel_rfl
theorem byt0 : bytT Try.prog 0 = some 0 := by kernel_rfl
theorem elem0 : elemT Try.prog 0 = none := by kernel_rfl
theorem arr0 : arrT Try.prog 0 = none := by kernel_rfl
theorem int0 : intT Try.prog 0 = none := by kernel_rfl
theorem str0 : strT Try.prog 0 = false := by kernel_rfl
theorem agg1 : aggT Try.prog 1 = some false := by kernel_rfl
theorem siz1 : sizT Try.prog 1 = some 1 := by kernel_rfl
theorem byt1 : bytT Try.prog 1 = some 8 := by kernel_rfl
theorem elem1 : elemT Try.prog 1 = none := by kernel_rfl
theorem arr1 : arrT Try.prog 1 = none := by kernel_rfl
theorem int1 : intT Try.prog 1 = none := by kernel_rfl
theorem zer1 : zerT Try.prog 1 = some [.nilFunc] := by kernel_rfl
theorem str1 : strT Try.prog 1 = false := by kernel_rfl
theorem agg2 : aggT Try.prog 2 = some false := by kernel_rfl
theorem siz2 : sizT Try.prog 2 = some 1 := by kernel_rfl
theorem byt2 : bytT Try.prog 2 = some 8 := by kernel_rfl
theorem elem2 : elemT Try.prog 2 = none := by kernel_rfl
theorem arr2 : arrT Try.prog 2 = none := by kernel_rfl
theorem int2 : intT Try.prog 2 = some .i64 := by kernel_rfl
theorem zer2 : zerT Try.prog 2 = some [.int .i64 0] := by kernel_rfl
theorem str2 : strT Try.prog 2 = false := by kernel_rfl
theorem agg3 : aggT Try.prog 3 = some false := by kernel_rfl
theorem siz3 : sizT Try.prog 3 = some 1 := by kernel_rfl
theorem byt3 : bytT Try.prog 3 = some 8 := by kernel_rfl
theorem elem3 : elemT Try.prog 3 = none := by kernel_rfl
theorem arr3 : arrT Try.prog 3 = none := by kernel_rfl
theorem int3 : intT Try.prog 3 = some .i64 := by kernel_rfl
theorem zer3 : zerT Try.prog 3 = some [.int .i64 0] := by kernel_rfl
theorem str3 : strT Try.prog 3 = false := by kernel_rfl
theorem agg4 : aggT Try.prog 4 = some false := by kernel_rfl
theorem siz4 : sizT Try.prog 4 = some 1 := by kernel_rfl
theorem byt4 : bytT Try.prog 4 = some 1 := by kernel_rfl
theorem elem4 : elemT Try.prog 4 = none := by kernel_rfl
theorem arr4 : arrT Try.prog 4 = none := by kernel_rfl
theorem int4 : intT Try.prog 4 = none := by kernel_rfl
theorem zer4 : zerT Try.prog 4 = some [.bool false] := by kernel_rfl
theorem str4 : strT Try.prog 4 = false := by kernel_rfl
theorem agg5 : aggT Try.prog 5 = some false := by kernel_rfl
theorem siz5 : sizT Try.prog 5 = some 1 := by kernel_rfl
theorem byt5 : bytT Try.prog 5 = some 1 := by kernel_rfl
theorem elem5 : elemT Try.prog 5 = none := by kernel_rfl
theorem arr5 : arrT Try.prog 5 = none := by kernel_rfl
theorem int5 : intT Try.prog 5 = some .u8 := by kernel_rfl
theorem zer5 : zerT Try.prog 5 = some [.int .u8 0] := by kernel_rfl
theorem str5 : strT Try.prog 5 = false := by kernel_rfl
theorem agg6 : aggT Try.prog 6 = some false := by kernel_rfl
theorem siz6 : sizT Try.prog 6 = some 1 := by kernel_rfl
theorem byt6 : bytT Try.prog 6 = some 1 := by kernel_rfl
theorem elem6 : elemT Try.prog 6 = none := by kernel_rfl
theorem arr6 : arrT Try.prog 6 = none := by kernel_rfl
theorem int6 : intT Try.prog 6 = some .u8 := by kernel_rfl
theorem zer6 : zerT Try.prog 6 = some [.int .u8 0] := by kernel_rfl
theorem str6 : strT Try.prog 6 = false := by kernel_rfl
theorem agg7 : aggT Try.prog 7 = some true := by kernel_rfl
theorem siz7 : sizT Try.prog 7 = some 4 := by kernel_rfl
theorem byt7 : bytT Try.prog 7 = some 24 := by kernel_rfl
theorem elem7 : elemT Try.prog 7 = none := by kernel_rfl
theorem arr7 : arrT Try.prog 7 = none := by kernel_rfl
theorem int7 : intT Try.prog 7 = none := by kernel_rfl
theorem zer7 : zerT Try.prog 7 = some [.int .i64 0, .int .i64 0, .bool false, .int .u8 0] := by kernel_rfl
theorem kd7 : kdT Try.prog 60 7 = some [.int .i64, .int .i64, .bool, .int .u8] := by kernel_rfl
theorem eqg7 : Try.prog.eqGuardType (Try.prog.depth) 7 = false := by kernel_rfl
theorem szs7 : sizesOk Try.prog 7 = true := by kernel_rfl
theorem plc7_0 : placeT Try.prog 7 0 = some (0, 1) := by kernel_rfl
theorem plc7_1 : placeT Try.prog 7 1 = some (1, 1) := by kernel_rfl
theorem plc7_2 : placeT Try.prog 7 2 = some (2, 1) := by kernel_rfl
theorem plc7_3 : placeT Try.prog 7 3 = some (3, 1) := by kernel_rfl
theorem str7 : strT Try.prog 7 = false := by kernel_rfl
theorem fld7_0 : fldT Try.prog 7 0 = some (0, 2) := by kernel_rfl
theorem fld7_1 : fldT Try.prog 7 1 = some (1, 3) := by kernel_rfl
theorem fld7_2 : fldT Try.prog 7 2 = some (2, 4) := by kernel_rfl
theorem fld7_3 : fldT Try.prog 7 3 = some (3, 6) := by kernel_rfl
theorem agg8 : aggT Try.prog 8 = some true := by kernel_rfl
theorem siz8 : sizT Try.prog 8 = some 4 := by kernel_rfl
theorem byt8 : bytT Try.prog 8 = some 24 := by kernel_rfl
theorem elem8 : elemT Try.prog 8 = none := by kernel_rfl
theorem arr8 : arrT Try.prog 8 = none := by kernel_rfl
theorem int8 : intT Try.prog 8 = none := by kernel_rfl
theorem zer8 : zerT Try.prog 8 = some [.int .i64 0, .int .i64 0, .bool false, .int .u8 0] := by kernel_rfl
theorem kd8 : kdT Try.prog 60 8 = some [.int .i64, .int .i64, .bool, .int .u8] := by kernel_rfl
theorem eqg8 : Try.prog.eqGuardType (Try.prog.depth) 8 = false := by kernel_rfl
theorem szs8 : sizesOk Try.prog 8 = true := by kernel_rfl
theorem plc8_0 : placeT Try.prog 8 0 = some (0, 1) := by kernel_rfl
theorem plc8_1 : placeT Try.prog 8 1 = some (1, 1) := by kernel_rfl
theorem plc8_2 : placeT Try.prog 8 2 = some (2, 1) := by kernel_rfl
theorem plc8_3 : placeT Try.prog 8 3 = some (3, 1) := by kernel_rfl
theorem str8 : strT Try.prog 8 = false := by kernel_rfl
theorem fld8_0 : fldT Try.prog 8 0 = some (0, 2) := by kernel_rfl
theorem fld8_1 : fldT Try.prog 8 1 = some (1, 3) := by kernel_rfl
theorem fld8_2 : fldT Try.prog 8 2 = some (2, 4) := by kernel_rfl
theorem fld8_3 : fldT Try.prog 8 3 = some (3, 6) := by kernel_rfl
theorem agg9 : aggT Try.prog 9 = some false := by kernel_rfl
theorem siz9 : sizT Try.prog 9 = some 1 := by kernel_rfl
theorem byt9 : bytT Try.prog 9 = some 16 := by kernel_rfl
theorem elem9 : elemT Try.prog 9 = none := by kernel_rfl
theorem arr9 : arrT Try.prog 9 = none := by kernel_rfl
theorem int9 : intT Try.prog 9 = none := by kernel_rfl
theorem zer9 : zerT Try.prog 9 = some [.string ByteArray.empty] := by kernel_rfl
theorem str9 : strT Try.prog 9 = true := by kernel_rfl
theorem agg10 : aggT Try.prog 10 = some false := by kernel_rfl
theorem siz10 : sizT Try.prog 10 = some 1 := by kernel_rfl
theorem byt10 : bytT Try.prog 10 = some 16 := by kernel_rfl
theorem elem10 : elemT Try.prog 10 = none := by kernel_rfl
theorem arr10 : arrT Try.prog 10 = none := by kernel_rfl
theorem int10 : intT Try.prog 10 = none := by kernel_rfl
theorem zer10 : zerT Try.prog 10 = some [.string ByteArray.empty] := by kernel_rfl
theorem str10 : strT Try.prog 10 = true := by kernel_rfl
theorem agg11 : aggT Try.prog 11 = some false := by kernel_rfl
theorem siz11 : sizT Try.prog 11 = some 1 := by kernel_rfl
theorem byt11 : bytT Try.prog 11 = some 16 := by kernel_rfl
theorem elem11 : elemT Try.prog 11 = none := by kernel_rfl
theorem arr11 : arrT Try.prog 11 = none := by kernel_rfl
theorem int11 : intT Try.prog 11 = none := by kernel_rfl
theorem zer11 : zerT Try.prog 11 = some [.string ByteArray.empty] := by kernel_rfl
theorem str11 : strT Try.prog 11 = true := by kernel_rfl
theorem agg12 : aggT Try.prog 12 = some false := by kernel_rfl
theorem siz12 : sizT Try.prog 12 = some 1 := by kernel_rfl
theorem byt12 : bytT Try.prog 12 = some 8 := by kernel_rfl
theorem elem12 : elemT Try.prog 12 = none := by kernel_rfl
theorem arr12 : arrT Try.prog 12 = none := by kernel_rfl
theorem int12 : intT Try.prog 12 = some .u64 := by kernel_rfl
theorem zer12 : zerT Try.prog 12 = some [.int .u64 0] := by kernel_rfl
theorem str12 : strT Try.prog 12 = false := by kernel_rfl
theorem agg13 : aggT Try.prog 13 = some true := by kernel_rfl
theorem siz13 : sizT Try.prog 13 = some 2 := by kernel_rfl
theorem byt13 : bytT Try.prog 13 = some 24 := by kernel_rfl
theorem elem13 : elemT Try.prog 13 = none := by kernel_rfl
theorem arr13 : arrT Try.prog 13 = none := by kernel_rfl
theorem int13 : intT Try.prog 13 = none := by kernel_rfl
theorem zer13 : zerT Try.prog 13 = some [.string ByteArray.empty, .int .u64 0] := by kernel_rfl
theorem eqg13 : Try.prog.eqGuardType (Try.prog.depth) 13 = false := by kernel_rfl
theorem szs13 : sizesOk Try.prog 13 = true := by kernel_rfl
theorem plc13_0 : placeT Try.prog 13 0 = some (0, 1) := by kernel_rfl
theorem plc13_1 : placeT Try.prog 13 1 = some (1, 1) := by kernel_rfl
theorem str13 : strT Try.prog 13 = false := by kernel_rfl
theorem fld13_0 : fldT Try.prog 13 0 = some (0, 9) := by kernel_rfl
theorem fld13_1 : fldT Try.prog 13 1 = some (1, 12) := by kernel_rfl
theorem agg14 : aggT Try.prog 14 = some true := by kernel_rfl
theorem siz14 : sizT Try.prog 14 = some 2 := by kernel_rfl
theorem byt14 : bytT Try.prog 14 = some 24 := by kernel_rfl
theorem elem14 : elemT Try.prog 14 = none := by kernel_rfl
theorem arr14 : arrT Try.prog 14 = none := by kernel_rfl
theorem int14 : intT Try.prog 14 = none := by kernel_rfl
theorem zer14 : zerT Try.prog 14 = some [.string ByteArray.empty, .int .u64 0] := by kernel_rfl
theorem eqg14 : Try.prog.eqGuardType (Try.prog.depth) 14 = false := by kernel_rfl
theorem szs14 : sizesOk Try.prog 14 = true := by kernel_rfl
theorem plc14_0 : placeT Try.prog 14 0 = some (0, 1) := by kernel_rfl
theorem plc14_1 : placeT Try.prog 14 1 = some (1, 1) := by kernel_rfl
theorem str14 : strT Try.prog 14 = false := by kernel_rfl
theorem fld14_0 : fldT Try.prog 14 0 = some (0, 9) := by kernel_rfl
theorem fld14_1 : fldT Try.prog 14 1 = some (1, 12) := by kernel_rfl
theorem agg15 : aggT Try.prog 15 = some false := by kernel_rfl
theorem siz15 : sizT Try.prog 15 = some 1 := by kernel_rfl
theorem byt15 : bytT Try.prog 15 = some 8 := by kernel_rfl
theorem elem15 : elemT Try.prog 15 = none := by kernel_rfl
theorem arr15 : arrT Try.prog 15 = none := by kernel_rfl
theorem int15 : intT Try.prog 15 = none := by kernel_rfl
theorem zer15 : zerT Try.prog 15 = some [.pointer none] := by kernel_rfl
theorem str15 : strT Try.prog 15 = false := by kernel_rfl
theorem agg16 : aggT Try.prog 16 = some false := by kernel_rfl
theorem siz16 : sizT Try.prog 16 = some 1 := by kernel_rfl
theorem byt16 : bytT Try.prog 16 = some 8 := by kernel_rfl
theorem elem16 : elemT Try.prog 16 = none := by kernel_rfl
theorem arr16 : arrT Try.prog 16 = none := by kernel_rfl
theorem int16 : intT Try.prog 16 = none := by kernel_rfl
theorem zer16 : zerT Try.prog 16 = some [.pointer none] := by kernel_rfl
theorem str16 : strT Try.prog 16 = false := by kernel_rfl
theorem agg17 : aggT Try.prog 17 = some false := by kernel_rfl
theorem siz17 : sizT Try.prog 17 = some 1 := by kernel_rfl
theorem byt17 : bytT Try.prog 17 = some 8 := by kernel_rfl
theorem elem17 : elemT Try.prog 17 = none := by kernel_rfl
theorem arr17 : arrT Try.prog 17 = none := by kernel_rfl
theorem int17 : intT Try.prog 17 = none := by kernel_rfl
theorem zer17 : zerT Try.prog 17 = some [.pointer none] := by kernel_rfl
theorem str17 : strT Try.prog 17 = false := by kernel_rfl
theorem agg18 : aggT Try.prog 18 = some true := by kernel_rfl
theorem siz18 : sizT Try.prog 18 = some 1 := by kernel_rfl
theorem byt18 : bytT Try.prog 18 = some 8 := by kernel_rfl
theorem elem18 : elemT Try.prog 18 = none := by kernel_rfl
theorem arr18 : arrT Try.prog 18 = none := by kernel_rfl
theorem int18 : intT Try.prog 18 = none := by kernel_rfl
theorem zer18 : zerT Try.prog 18 = some [.pointer none] := by kernel_rfl
theorem eqg18 : Try.prog.eqGuardType (Try.prog.depth) 18 = false := by kernel_rfl
theorem szs18 : sizesOk Try.prog 18 = true := by kernel_rfl
theorem plc18_0 : placeT Try.prog 18 0 = some (0, 1) := by kernel_rfl
theorem str18 : strT Try.prog 18 = false := by kernel_rfl
theorem fld18_0 : fldT Try.prog 18 0 = some (0, 17) := by kernel_rfl
theorem agg19 : aggT Try.prog 19 = some true := by kernel_rfl
theorem siz19 : sizT Try.prog 19 = some 1 := by kernel_rfl
theorem byt19 : bytT Try.prog 19 = some 8 := by kernel_rfl
theorem elem19 : elemT Try.prog 19 = none := by kernel_rfl
theorem arr19 : arrT Try.prog 19 = none := by kernel_rfl
theorem int19 : intT Try.prog 19 = none := by kernel_rfl
theorem zer19 : zerT Try.prog 19 = some [.pointer none] := by kernel_rfl
theorem eqg19 : Try.prog.eqGuardType (Try.prog.depth) 19 = false := by kernel_rfl
theorem szs19 : sizesOk Try.prog 19 = true := by kernel_rfl
theorem plc19_0 : placeT Try.prog 19 0 = some (0, 1) := by kernel_rfl
theorem str19 : strT Try.prog 19 = false := by kernel_rfl
theorem fld19_0 : fldT Try.prog 19 0 = some (0, 17) := by kernel_rfl
theorem agg20 : aggT Try.prog 20 = some false := by kernel_rfl
theorem siz20 : sizT Try.prog 20 = some 1 := by kernel_rfl
theorem byt20 : bytT Try.prog 20 = some 16 := by kernel_rfl
theorem elem20 : elemT Try.prog 20 = none := by kernel_rfl
theorem arr20 : arrT Try.prog 20 = none := by kernel_rfl
theorem int20 : intT Try.prog 20 = none := by kernel_rfl
theorem zer20 : zerT Try.prog 20 = some [.nilIface] := by kernel_rfl
theorem str20 : strT Try.prog 20 = false := by kernel_rfl
theorem agg21 : aggT Try.prog 21 = some false := by kernel_rfl
theorem siz21 : sizT Try.prog 21 = some 1 := by kernel_rfl
theorem byt21 : bytT Try.prog 21 = some 4 := by kernel_rfl
theorem elem21 : elemT Try.prog 21 = none := by kernel_rfl
theorem arr21 : arrT Try.prog 21 = none := by kernel_rfl
theorem int21 : intT Try.prog 21 = some .i32 := by kernel_rfl
theorem zer21 : zerT Try.prog 21 = some [.int .i32 0] := by kernel_rfl
theorem str21 : strT Try.prog 21 = false := by kernel_rfl
theorem agg22 : aggT Try.prog 22 = some false := by kernel_rfl
theorem siz22 : sizT Try.prog 22 = some 1 := by kernel_rfl
theorem byt22 : bytT Try.prog 22 = some 24 := by kernel_rfl
theorem elem22 : elemT Try.prog 22 = some 33 := by kernel_rfl
theorem arr22 : arrT Try.prog 22 = none := by kernel_rfl
theorem int22 : intT Try.prog 22 = none := by kernel_rfl
theorem zer22 : zerT Try.prog 22 = some [.slice none 0 0] := by kernel_rfl
theorem str22 : strT Try.prog 22 = false := by kernel_rfl
theorem agg23 : aggT Try.prog 23 = some false := by kernel_rfl
theorem siz23 : sizT Try.prog 23 = some 1 := by kernel_rfl
theorem byt23 : bytT Try.prog 23 = some 8 := by kernel_rfl
theorem elem23 : elemT Try.prog 23 = none := by kernel_rfl
theorem arr23 : arrT Try.prog 23 = none := by kernel_rfl
theorem int23 : intT Try.prog 23 = none := by kernel_rfl
theorem zer23 : zerT Try.prog 23 = some [.pointer none] := by kernel_rfl
theorem str23 : strT Try.prog 23 = false := by kernel_rfl
theorem agg24 : aggT Try.prog 24 = some false := by kernel_rfl
theorem siz24 : sizT Try.prog 24 = some 1 := by kernel_rfl
theorem byt24 : bytT Try.prog 24 = some 8 := by kernel_rfl
theorem elem24 : elemT Try.prog 24 = none := by kernel_rfl
theorem arr24 : arrT Try.prog 24 = none := by kernel_rfl
theorem int24 : intT Try.prog 24 = some .i64 := by kernel_rfl
theorem zer24 : zerT Try.prog 24 = some [.int .i64 0] := by kernel_rfl
theorem str24 : strT Try.prog 24 = false := by kernel_rfl
theorem agg25 : aggT Try.prog 25 = some false := by kernel_rfl
theorem siz25 : sizT Try.prog 25 = some 1 := by kernel_rfl
theorem byt25 : bytT Try.prog 25 = some 0 := by kernel_rfl
theorem elem25 : elemT Try.prog 25 = none := by kernel_rfl
theorem arr25 : arrT Try.prog 25 = none := by kernel_rfl
theorem int25 : intT Try.prog 25 = none := by kernel_rfl
theorem str25 : strT Try.prog 25 = false := by kernel_rfl
theorem agg26 : aggT Try.prog 26 = some false := by kernel_rfl
theorem siz26 : sizT Try.prog 26 = some 1 := by kernel_rfl
theorem byt26 : bytT Try.prog 26 = some 8 := by kernel_rfl
theorem elem26 : elemT Try.prog 26 = none := by kernel_rfl
theorem arr26 : arrT Try.prog 26 = none := by kernel_rfl
theorem int26 : intT Try.prog 26 = none := by kernel_rfl
theorem zer26 : zerT Try.prog 26 = some [.nilFunc] := by kernel_rfl
theorem str26 : strT Try.prog 26 = false := by kernel_rfl
theorem agg27 : aggT Try.prog 27 = some false := by kernel_rfl
theorem siz27 : sizT Try.prog 27 = some 1 := by kernel_rfl
theorem byt27 : bytT Try.prog 27 = some 8 := by kernel_rfl
theorem elem27 : elemT Try.prog 27 = none := by kernel_rfl
theorem arr27 : arrT Try.prog 27 = none := by kernel_rfl
theorem int27 : intT Try.prog 27 = none := by kernel_rfl
theorem zer27 : zerT Try.prog 27 = some [.pointer none] := by kernel_rfl
theorem str27 : strT Try.prog 27 = false := by kernel_rfl
theorem agg28 : aggT Try.prog 28 = some false := by kernel_rfl
theorem siz28 : sizT Try.prog 28 = some 1 := by kernel_rfl
theorem byt28 : bytT Try.prog 28 = some 0 := by kernel_rfl
theorem elem28 : elemT Try.prog 28 = none := by kernel_rfl
theorem arr28 : arrT Try.prog 28 = none := by kernel_rfl
theorem int28 : intT Try.prog 28 = none := by kernel_rfl
theorem str28 : strT Try.prog 28 = false := by kernel_rfl
theorem agg29 : aggT Try.prog 29 = some false := by kernel_rfl
theorem siz29 : sizT Try.prog 29 = some 1 := by kernel_rfl
theorem byt29 : bytT Try.prog 29 = some 8 := by kernel_rfl
theorem elem29 : elemT Try.prog 29 = none := by kernel_rfl
theorem arr29 : arrT Try.prog 29 = none := by kernel_rfl
theorem int29 : intT Try.prog 29 = none := by kernel_rfl
theorem zer29 : zerT Try.prog 29 = some [.nilFunc] := by kernel_rfl
theorem str29 : strT Try.prog 29 = false := by kernel_rfl
theorem agg30 : aggT Try.prog 30 = some true := by kernel_rfl
theorem siz30 : sizT Try.prog 30 = some 2 := by kernel_rfl
theorem byt30 : bytT Try.prog 30 = some 16 := by kernel_rfl
theorem elem30 : elemT Try.prog 30 = none := by kernel_rfl
theorem arr30 : arrT Try.prog 30 = none := by kernel_rfl
theorem int30 : intT Try.prog 30 = none := by kernel_rfl
theorem zer30 : zerT Try.prog 30 = some [.int .i64 0, .int .i64 0] := by kernel_rfl
theorem kd30 : kdT Try.prog 60 30 = some [.int .i64, .int .i64] := by kernel_rfl
theorem eqg30 : Try.prog.eqGuardType (Try.prog.depth) 30 = false := by kernel_rfl
theorem szs30 : sizesOk Try.prog 30 = true := by kernel_rfl
theorem plc30_0 : placeT Try.prog 30 0 = some (0, 1) := by kernel_rfl
theorem plc30_1 : placeT Try.prog 30 1 = some (1, 1) := by kernel_rfl
theorem str30 : strT Try.prog 30 = false := by kernel_rfl
theorem fld30_0 : fldT Try.prog 30 0 = some (0, 2) := by kernel_rfl
theorem fld30_1 : fldT Try.prog 30 1 = some (1, 2) := by kernel_rfl
theorem agg31 : aggT Try.prog 31 = some true := by kernel_rfl
theorem siz31 : sizT Try.prog 31 = some 2 := by kernel_rfl
theorem byt31 : bytT Try.prog 31 = some 16 := by kernel_rfl
theorem elem31 : elemT Try.prog 31 = none := by kernel_rfl
theorem arr31 : arrT Try.prog 31 = none := by kernel_rfl
theorem int31 : intT Try.prog 31 = none := by kernel_rfl
theorem zer31 : zerT Try.prog 31 = some [.int .i64 0, .int .i64 0] := by kernel_rfl
theorem kd31 : kdT Try.prog 60 31 = some [.int .i64, .int .i64] := by kernel_rfl
theorem eqg31 : Try.prog.eqGuardType (Try.prog.depth) 31 = false := by kernel_rfl
theorem szs31 : sizesOk Try.prog 31 = true := by kernel_rfl
theorem plc31_0 : placeT Try.prog 31 0 = some (0, 1) := by kernel_rfl
theorem plc31_1 : placeT Try.prog 31 1 = some (1, 1) := by kernel_rfl
theorem str31 : strT Try.prog 31 = false := by kernel_rfl
theorem fld31_0 : fldT Try.prog 31 0 = some (0, 2) := by kernel_rfl
theorem fld31_1 : fldT Try.prog 31 1 = some (1, 2) := by kernel_rfl
theorem agg32 : aggT Try.prog 32 = some true := by kernel_rfl
theorem siz32 : sizT Try.prog 32 = some 2 := by kernel_rfl
theorem byt32 : bytT Try.prog 32 = some 16 := by kernel_rfl
theorem elem32 : elemT Try.prog 32 = none := by kernel_rfl
theorem arr32 : arrT Try.prog 32 = some (2, 2) := by kernel_rfl
theorem int32 : intT Try.prog 32 = none := by kernel_rfl
theorem zer32 : zerT Try.prog 32 = some [.int .i64 0, .int .i64 0] := by kernel_rfl
theorem kd32 : kdT Try.prog 60 32 = some [.int .i64, .int .i64] := by kernel_rfl
theorem eqg32 : Try.prog.eqGuardType (Try.prog.depth) 32 = false := by kernel_rfl
theorem szs32 : sizesOk Try.prog 32 = true := by kernel_rfl
theorem plc32_0 : placeT Try.prog 32 0 = some (0, 1) := by kernel_rfl
theorem plc32_1 : placeT Try.prog 32 1 = some (1, 1) := by kernel_rfl
theorem plc32_2 : placeT Try.prog 32 2 = some (2, 1) := by kernel_rfl
theorem plc32_3 : placeT Try.prog 32 3 = some (3, 1) := by kernel_rfl
theorem plc32_4 : placeT Try.prog 32 4 = some (4, 1) := by kernel_rfl
theorem plc32_5 : placeT Try.prog 32 5 = some (5, 1) := by kernel_rfl
theorem plc32_6 : placeT Try.prog 32 6 = some (6, 1) := by kernel_rfl
theorem plc32_7 : placeT Try.prog 32 7 = some (7, 1) := by kernel_rfl
theorem plc32_8 : placeT Try.prog 32 8 = some (8, 1) := by kernel_rfl
theorem plc32_9 : placeT Try.prog 32 9 = some (9, 1) := by kernel_rfl
theorem plc32_10 : placeT Try.prog 32 10 = some (10, 1) := by kernel_rfl
theorem plc32_11 : placeT Try.prog 32 11 = some (11, 1) := by kernel_rfl
theorem str32 : strT Try.prog 32 = false := by kernel_rfl
theorem agg33 : aggT Try.prog 33 = some false := by kernel_rfl
theorem siz33 : sizT Try.prog 33 = some 1 := by kernel_rfl
theorem byt33 : bytT Try.prog 33 = some 2 := by kernel_rfl
theorem elem33 : elemT Try.prog 33 = none := by kernel_rfl
theorem arr33 : arrT Try.prog 33 = none := by kernel_rfl
theorem int33 : intT Try.prog 33 = some .u16 := by kernel_rfl
theorem zer33 : zerT Try.prog 33 = some [.int .u16 0] := by kernel_rfl
theorem str33 : strT Try.prog 33 = false := by kernel_rfl
theorem agg34 : aggT Try.prog 34 = some false := by kernel_rfl
theorem siz34 : sizT Try.prog 34 = some 1 := by kernel_rfl
theorem byt34 : bytT Try.prog 34 = some 8 := by kernel_rfl
theorem elem34 : elemT Try.prog 34 = none := by kernel_rfl
theorem arr34 : arrT Try.prog 34 = none := by kernel_rfl
theorem int34 : intT Try.prog 34 = none := by kernel_rfl
theorem zer34 : zerT Try.prog 34 = some [.nilFunc] := by kernel_rfl
theorem str34 : strT Try.prog 34 = false := by kernel_rfl
theorem agg35 : aggT Try.prog 35 = some false := by kernel_rfl
theorem siz35 : sizT Try.prog 35 = some 1 := by kernel_rfl
theorem byt35 : bytT Try.prog 35 = some 8 := by kernel_rfl
theorem elem35 : elemT Try.prog 35 = none := by kernel_rfl
theorem arr35 : arrT Try.prog 35 = none := by kernel_rfl
theorem int35 : intT Try.prog 35 = some .i64 := by kernel_rfl
theorem zer35 : zerT Try.prog 35 = some [.int .i64 0] := by kernel_rfl
theorem str35 : strT Try.prog 35 = false := by kernel_rfl
theorem agg36 : aggT Try.prog 36 = some false := by kernel_rfl
theorem siz36 : sizT Try.prog 36 = some 1 := by kernel_rfl
theorem byt36 : bytT Try.prog 36 = some 4 := by kernel_rfl
theorem elem36 : elemT Try.prog 36 = none := by kernel_rfl
theorem arr36 : arrT Try.prog 36 = none := by kernel_rfl
theorem int36 : intT Try.prog 36 = some .u32 := by kernel_rfl
theorem zer36 : zerT Try.prog 36 = some [.int .u32 0] := by kernel_rfl
theorem str36 : strT Try.prog 36 = false := by kernel_rfl
theorem agg37 : aggT Try.prog 37 = some true := by kernel_rfl
theorem siz37 : sizT Try.prog 37 = some 2 := by kernel_rfl
theorem byt37 : bytT Try.prog 37 = some 8 := by kernel_rfl
theorem elem37 : elemT Try.prog 37 = none := by kernel_rfl
theorem arr37 : arrT Try.prog 37 = none := by kernel_rfl
theorem int37 : intT Try.prog 37 = none := by kernel_rfl
theorem zer37 : zerT Try.prog 37 = some [.bool false, .int .u32 0] := by kernel_rfl
theorem kd37 : kdT Try.prog 60 37 = some [.bool, .int .u32] := by kernel_rfl
theorem eqg37 : Try.prog.eqGuardType (Try.prog.depth) 37 = false := by kernel_rfl
theorem szs37 : sizesOk Try.prog 37 = true := by kernel_rfl
theorem plc37_0 : placeT Try.prog 37 0 = some (0, 1) := by kernel_rfl
theorem plc37_1 : placeT Try.prog 37 1 = some (1, 1) := by kernel_rfl
theorem str37 : strT Try.prog 37 = false := by kernel_rfl
theorem fld37_0 : fldT Try.prog 37 0 = some (0, 4) := by kernel_rfl
theorem fld37_1 : fldT Try.prog 37 1 = some (1, 36) := by kernel_rfl
theorem agg38 : aggT Try.prog 38 = some true := by kernel_rfl
theorem siz38 : sizT Try.prog 38 = some 2 := by kernel_rfl
theorem byt38 : bytT Try.prog 38 = some 8 := by kernel_rfl
theorem elem38 : elemT Try.prog 38 = none := by kernel_rfl
theorem arr38 : arrT Try.prog 38 = none := by kernel_rfl
theorem int38 : intT Try.prog 38 = none := by kernel_rfl
theorem zer38 : zerT Try.prog 38 = some [.bool false, .int .u32 0] := by kernel_rfl
theorem kd38 : kdT Try.prog 60 38 = some [.bool, .int .u32] := by kernel_rfl
theorem eqg38 : Try.prog.eqGuardType (Try.prog.depth) 38 = false := by kernel_rfl
theorem szs38 : sizesOk Try.prog 38 = true := by kernel_rfl
theorem plc38_0 : placeT Try.prog 38 0 = some (0, 1) := by kernel_rfl
theorem plc38_1 : placeT Try.prog 38 1 = some (1, 1) := by kernel_rfl
theorem str38 : strT Try.prog 38 = false := by kernel_rfl
theorem fld38_0 : fldT Try.prog 38 0 = some (0, 4) := by kernel_rfl
theorem fld38_1 : fldT Try.prog 38 1 = some (1, 36) := by kernel_rfl
theorem agg39 : aggT Try.prog 39 = some true := by kernel_rfl
theorem siz39 : sizT Try.prog 39 = some 8 := by kernel_rfl
theorem byt39 : bytT Try.prog 39 = some 8 := by kernel_rfl
theorem elem39 : elemT Try.prog 39 = none := by kernel_rfl
theorem arr39 : arrT Try.prog 39 = some (8, 5) := by kernel_rfl
theorem int39 : intT Try.prog 39 = none := by kernel_rfl
theorem zer39 : zerT Try.prog 39 = some [.int .u8 0, .int .u8 0, .int .u8 0, .int .u8 0, .int .u8 0, .int .u8 0, .int .u8 0, .int .u8 0] := by kernel_rfl
theorem kd39 : kdT Try.prog 60 39 = some [.int .u8, .int .u8, .int .u8, .int .u8, .int .u8, .int .u8, .int .u8, .int .u8] := by kernel_rfl
theorem eqg39 : Try.prog.eqGuardType (Try.prog.depth) 39 = false := by kernel_rfl
theorem szs39 : sizesOk Try.prog 39 = true := by kernel_rfl
theorem plc39_0 : placeT Try.prog 39 0 = some (0, 1) := by kernel_rfl
theorem plc39_1 : placeT Try.prog 39 1 = some (1, 1) := by kernel_rfl
theorem plc39_2 : placeT Try.prog 39 2 = some (2, 1) := by kernel_rfl
theorem plc39_3 : placeT Try.prog 39 3 = some (3, 1) := by kernel_rfl
theorem plc39_4 : placeT Try.prog 39 4 = some (4, 1) := by kernel_rfl
theorem plc39_5 : placeT Try.prog 39 5 = some (5, 1) := by kernel_rfl
theorem plc39_6 : placeT Try.prog 39 6 = some (6, 1) := by kernel_rfl
theorem plc39_7 : placeT Try.prog 39 7 = some (7, 1) := by kernel_rfl
theorem plc39_8 : placeT Try.prog 39 8 = some (8, 1) := by kernel_rfl
theorem plc39_9 : placeT Try.prog 39 9 = some (9, 1) := by kernel_rfl
theorem plc39_10 : placeT Try.prog 39 10 = some (10, 1) := by kernel_rfl
theorem plc39_11 : placeT Try.prog 39 11 = some (11, 1) := by kernel_rfl
theorem str39 : strT Try.prog 39 = false := by kernel_rfl
theorem agg40 : aggT Try.prog 40 = some true := by kernel_rfl
theorem siz40 : sizT Try.prog 40 = some 12 := by kernel_rfl
theorem byt40 : bytT Try.prog 40 = some 32 := by kernel_rfl
theorem elem40 : elemT Try.prog 40 = none := by kernel_rfl
theorem arr40 : arrT Try.prog 40 = none := by kernel_rfl
theorem int40 : intT Try.prog 40 = none := by kernel_rfl
theorem zer40 : zerT Try.prog 40 = some [.bool false, .int .u32 0, .bool false, .int .i64 0, .int .u8 0, .int .u8 0, .int .u8 0, .int .u8 0, .int .u8 0, .int .u8 0, .int .u8 0, .int .u8 0] := by kernel_rfl
theorem kd40 : kdT Try.prog 60 40 = some [.bool, .int .u32, .bool, .int .i64, .int .u8, .int .u8, .int .u8, .int .u8, .int .u8, .int .u8, .int .u8, .int .u8] := by kernel_rfl
theorem eqg40 : Try.prog.eqGuardType (Try.prog.depth) 40 = false := by kernel_rfl
theorem szs40 : sizesOk Try.prog 40 = true := by kernel_rfl
theorem plc40_0 : placeT Try.prog 40 0 = some (0, 2) := by kernel_rfl
theorem plc40_1 : placeT Try.prog 40 1 = some (2, 1) := by kernel_rfl
theorem plc40_2 : placeT Try.prog 40 2 = some (3, 1) := by kernel_rfl
theorem plc40_3 : placeT Try.prog 40 3 = some (4, 8) := by kernel_rfl
theorem str40 : strT Try.prog 40 = false := by kernel_rfl
theorem fld40_0 : fldT Try.prog 40 0 = some (0, 38) := by kernel_rfl
theorem fld40_1 : fldT Try.prog 40 1 = some (2, 4) := by kernel_rfl
theorem fld40_2 : fldT Try.prog 40 2 = some (3, 3) := by kernel_rfl
theorem fld40_3 : fldT Try.prog 40 3 = some (4, 39) := by kernel_rfl
theorem agg41 : aggT Try.prog 41 = some true := by kernel_rfl
theorem siz41 : sizT Try.prog 41 = some 12 := by kernel_rfl
theorem byt41 : bytT Try.prog 41 = some 32 := by kernel_rfl
theorem elem41 : elemT Try.prog 41 = none := by kernel_rfl
theorem arr41 : arrT Try.prog 41 = none := by kernel_rfl
theorem int41 : intT Try.prog 41 = none := by kernel_rfl
theorem zer41 : zerT Try.prog 41 = some [.bool false, .int .u32 0, .bool false, .int .i64 0, .int .u8 0, .int .u8 0, .int .u8 0, .int .u8 0, .int .u8 0, .int .u8 0, .int .u8 0, .int .u8 0] := by kernel_rfl
theorem kd41 : kdT Try.prog 60 41 = some [.bool, .int .u32, .bool, .int .i64, .int .u8, .int .u8, .int .u8, .int .u8, .int .u8, .int .u8, .int .u8, .int .u8] := by kernel_rfl
theorem eqg41 : Try.prog.eqGuardType (Try.prog.depth) 41 = false := by kernel_rfl
theorem szs41 : sizesOk Try.prog 41 = true := by kernel_rfl
theorem plc41_0 : placeT Try.prog 41 0 = some (0, 2) := by kernel_rfl
theorem plc41_1 : placeT Try.prog 41 1 = some (2, 1) := by kernel_rfl
theorem plc41_2 : placeT Try.prog 41 2 = some (3, 1) := by kernel_rfl
theorem plc41_3 : placeT Try.prog 41 3 = some (4, 8) := by kernel_rfl
theorem str41 : strT Try.prog 41 = false := by kernel_rfl
theorem fld41_0 : fldT Try.prog 41 0 = some (0, 38) := by kernel_rfl
theorem fld41_1 : fldT Try.prog 41 1 = some (2, 4) := by kernel_rfl
theorem fld41_2 : fldT Try.prog 41 2 = some (3, 3) := by kernel_rfl
theorem fld41_3 : fldT Try.prog 41 3 = some (4, 39) := by kernel_rfl
theorem agg42 : aggT Try.prog 42 = some true := by kernel_rfl
theorem siz42 : sizT Try.prog 42 = some 17 := by kernel_rfl
theorem byt42 : bytT Try.prog 42 = some 48 := by kernel_rfl
theorem elem42 : elemT Try.prog 42 = none := by kernel_rfl
theorem arr42 : arrT Try.prog 42 = none := by kernel_rfl
theorem int42 : intT Try.prog 42 = none := by kernel_rfl
theorem zer42 : zerT Try.prog 42 = some [.bool false, .bool false, .bool false, .bool false, .int .i64 0, .bool false, .int .u32 0, .bool false, .int .i64 0, .int .u8 0, .int .u8 0, .int .u8 0, .int .u8 0, .int .u8 0, .int .u8 0, .int .u8 0, .int .u8 0] := by kernel_rfl
theorem kd42 : kdT Try.prog 60 42 = some [.bool, .bool, .bool, .bool, .int .i64, .bool, .int .u32, .bool, .int .i64, .int .u8, .int .u8, .int .u8, .int .u8, .int .u8, .int .u8, .int .u8, .int .u8] := by kernel_rfl
theorem eqg42 : Try.prog.eqGuardType (Try.prog.depth) 42 = false := by kernel_rfl
theorem szs42 : sizesOk Try.prog 42 = true := by kernel_rfl
theorem plc42_0 : placeT Try.prog 42 0 = some (0, 1) := by kernel_rfl
theorem plc42_1 : placeT Try.prog 42 1 = some (1, 1) := by kernel_rfl
theorem plc42_2 : placeT Try.prog 42 2 = some (2, 1) := by kernel_rfl
theorem plc42_3 : placeT Try.prog 42 3 = some (3, 1) := by kernel_rfl
theorem plc42_4 : placeT Try.prog 42 4 = some (4, 1) := by kernel_rfl
theorem plc42_5 : placeT Try.prog 42 5 = some (5, 12) := by kernel_rfl
theorem str42 : strT Try.prog 42 = false := by kernel_rfl
theorem fld42_0 : fldT Try.prog 42 0 = some (0, 4) := by kernel_rfl
theorem fld42_1 : fldT Try.prog 42 1 = some (1, 4) := by kernel_rfl
theorem fld42_2 : fldT Try.prog 42 2 = some (2, 4) := by kernel_rfl
theorem fld42_3 : fldT Try.prog 42 3 = some (3, 4) := by kernel_rfl
theorem fld42_4 : fldT Try.prog 42 4 = some (4, 35) := by kernel_rfl
theorem fld42_5 : fldT Try.prog 42 5 = some (5, 41) := by kernel_rfl
theorem agg43 : aggT Try.prog 43 = some true := by kernel_rfl
theorem siz43 : sizT Try.prog 43 = some 17 := by kernel_rfl
theorem byt43 : bytT Try.prog 43 = some 48 := by kernel_rfl
theorem elem43 : elemT Try.prog 43 = none := by kernel_rfl
theorem arr43 : arrT Try.prog 43 = none := by kernel_rfl
theorem int43 : intT Try.prog 43 = none := by kernel_rfl
theorem zer43 : zerT Try.prog 43 = some [.bool false, .bool false, .bool false, .bool false, .int .i64 0, .bool false, .int .u32 0, .bool false, .int .i64 0, .int .u8 0, .int .u8 0, .int .u8 0, .int .u8 0, .int .u8 0, .int .u8 0, .int .u8 0, .int .u8 0] := by kernel_rfl
theorem kd43 : kdT Try.prog 60 43 = some [.bool, .bool, .bool, .bool, .int .i64, .bool, .int .u32, .bool, .int .i64, .int .u8, .int .u8, .int .u8, .int .u8, .int .u8, .int .u8, .int .u8, .int .u8] := by kernel_rfl
theorem eqg43 : Try.prog.eqGuardType (Try.prog.depth) 43 = false := by kernel_rfl
theorem szs43 : sizesOk Try.prog 43 = true := by kernel_rfl
theorem plc43_0 : placeT Try.prog 43 0 = some (0, 1) := by kernel_rfl
theorem plc43_1 : placeT Try.prog 43 1 = some (1, 1) := by kernel_rfl
theorem plc43_2 : placeT Try.prog 43 2 = some (2, 1) := by kernel_rfl
theorem plc43_3 : placeT Try.prog 43 3 = some (3, 1) := by kernel_rfl
theorem plc43_4 : placeT Try.prog 43 4 = some (4, 1) := by kernel_rfl
theorem plc43_5 : placeT Try.prog 43 5 = some (5, 12) := by kernel_rfl
theorem str43 : strT Try.prog 43 = false := by kernel_rfl
theorem fld43_0 : fldT Try.prog 43 0 = some (0, 4) := by kernel_rfl
theorem fld43_1 : fldT Try.prog 43 1 = some (1, 4) := by kernel_rfl
theorem fld43_2 : fldT Try.prog 43 2 = some (2, 4) := by kernel_rfl
theorem fld43_3 : fldT Try.prog 43 3 = some (3, 4) := by kernel_rfl
theorem fld43_4 : fldT Try.prog 43 4 = some (4, 35) := by kernel_rfl
theorem fld43_5 : fldT Try.prog 43 5 = some (5, 41) := by kernel_rfl
theorem agg44 : aggT Try.prog 44 = some false := by kernel_rfl
theorem siz44 : sizT Try.prog 44 = some 1 := by kernel_rfl
theorem byt44 : bytT Try.prog 44 = some 8 := by kernel_rfl
theorem elem44 : elemT Try.prog 44 = none := by kernel_rfl
theorem arr44 : arrT Try.prog 44 = none := by kernel_rfl
theorem int44 : intT Try.prog 44 = some .i64 := by kernel_rfl
theorem zer44 : zerT Try.prog 44 = some [.int .i64 0] := by kernel_rfl
theorem str44 : strT Try.prog 44 = false := by kernel_rfl
theorem agg45 : aggT Try.prog 45 = some false := by kernel_rfl
theorem siz45 : sizT Try.prog 45 = some 1 := by kernel_rfl
theorem byt45 : bytT Try.prog 45 = some 8 := by kernel_rfl
theorem elem45 : elemT Try.prog 45 = none := by kernel_rfl
theorem arr45 : arrT Try.prog 45 = none := by kernel_rfl
theorem int45 : intT Try.prog 45 = none := by kernel_rfl
theorem zer45 : zerT Try.prog 45 = some [.nilFunc] := by kernel_rfl
theorem str45 : strT Try.prog 45 = false := by kernel_rfl
theorem agg46 : aggT Try.prog 46 = some false := by kernel_rfl
theorem siz46 : sizT Try.prog 46 = some 1 := by kernel_rfl
theorem byt46 : bytT Try.prog 46 = some 8 := by kernel_rfl
theorem elem46 : elemT Try.prog 46 = none := by kernel_rfl
theorem arr46 : arrT Try.prog 46 = none := by kernel_rfl
theorem int46 : intT Try.prog 46 = none := by kernel_rfl
theorem zer46 : zerT Try.prog 46 = some [.nilFunc] := by kernel_rfl
theorem str46 : strT Try.prog 46 = false := by kernel_rfl
theorem agg47 : aggT Try.prog 47 = some true := by kernel_rfl
theorem siz47 : sizT Try.prog 47 = some 14 := by kernel_rfl
theorem byt47 : bytT Try.prog 47 = some 48 := by kernel_rfl
theorem elem47 : elemT Try.prog 47 = none := by kernel_rfl
theorem arr47 : arrT Try.prog 47 = none := by kernel_rfl
theorem int47 : intT Try.prog 47 = none := by kernel_rfl
theorem zer47 : zerT Try.prog 47 = some [.bool false, .int .u32 0, .bool false, .int .i64 0, .int .u8 0, .int .u8 0, .int .u8 0, .int .u8 0, .int .u8 0, .int .u8 0, .int .u8 0, .int .u8 0, .int .i64 0, .int .i64 0] := by kernel_rfl
theorem kd47 : kdT Try.prog 60 47 = some [.bool, .int .u32, .bool, .int .i64, .int .u8, .int .u8, .int .u8, .int .u8, .int .u8, .int .u8, .int .u8, .int .u8, .int .i64, .int .i64] := by kernel_rfl
theorem eqg47 : Try.prog.eqGuardType (Try.prog.depth) 47 = false := by kernel_rfl
theorem szs47 : sizesOk Try.prog 47 = true := by kernel_rfl
theorem plc47_0 : placeT Try.prog 47 0 = some (0, 12) := by kernel_rfl
theorem plc47_1 : placeT Try.prog 47 1 = some (12, 1) := by kernel_rfl
theorem plc47_2 : placeT Try.prog 47 2 = some (13, 1) := by kernel_rfl
theorem str47 : strT Try.prog 47 = false := by kernel_rfl
theorem fld47_0 : fldT Try.prog 47 0 = some (0, 41) := by kernel_rfl
theorem fld47_1 : fldT Try.prog 47 1 = some (12, 2) := by kernel_rfl
theorem fld47_2 : fldT Try.prog 47 2 = some (13, 2) := by kernel_rfl
theorem agg48 : aggT Try.prog 48 = some true := by kernel_rfl
theorem siz48 : sizT Try.prog 48 = some 14 := by kernel_rfl
theorem byt48 : bytT Try.prog 48 = some 48 := by kernel_rfl
theorem elem48 : elemT Try.prog 48 = none := by kernel_rfl
theorem arr48 : arrT Try.prog 48 = none := by kernel_rfl
theorem int48 : intT Try.prog 48 = none := by kernel_rfl
theorem zer48 : zerT Try.prog 48 = some [.bool false, .int .u32 0, .bool false, .int .i64 0, .int .u8 0, .int .u8 0, .int .u8 0, .int .u8 0, .int .u8 0, .int .u8 0, .int .u8 0, .int .u8 0, .int .i64 0, .int .i64 0] := by kernel_rfl
theorem kd48 : kdT Try.prog 60 48 = some [.bool, .int .u32, .bool, .int .i64, .int .u8, .int .u8, .int .u8, .int .u8, .int .u8, .int .u8, .int .u8, .int .u8, .int .i64, .int .i64] := by kernel_rfl
theorem eqg48 : Try.prog.eqGuardType (Try.prog.depth) 48 = false := by kernel_rfl
theorem szs48 : sizesOk Try.prog 48 = true := by kernel_rfl
theorem plc48_0 : placeT Try.prog 48 0 = some (0, 12) := by kernel_rfl
theorem plc48_1 : placeT Try.prog 48 1 = some (12, 1) := by kernel_rfl
theorem plc48_2 : placeT Try.prog 48 2 = some (13, 1) := by kernel_rfl
theorem str48 : strT Try.prog 48 = false := by kernel_rfl
theorem fld48_0 : fldT Try.prog 48 0 = some (0, 41) := by kernel_rfl
theorem fld48_1 : fldT Try.prog 48 1 = some (12, 2) := by kernel_rfl
theorem fld48_2 : fldT Try.prog 48 2 = some (13, 2) := by kernel_rfl
theorem agg49 : aggT Try.prog 49 = some false := by kernel_rfl
theorem siz49 : sizT Try.prog 49 = some 1 := by kernel_rfl
theorem byt49 : bytT Try.prog 49 = some 0 := by kernel_rfl
theorem elem49 : elemT Try.prog 49 = none := by kernel_rfl
theorem arr49 : arrT Try.prog 49 = none := by kernel_rfl
theorem int49 : intT Try.prog 49 = none := by kernel_rfl
theorem str49 : strT Try.prog 49 = false := by kernel_rfl
theorem agg50 : aggT Try.prog 50 = some false := by kernel_rfl
theorem siz50 : sizT Try.prog 50 = some 1 := by kernel_rfl
theorem byt50 : bytT Try.prog 50 = some 8 := by kernel_rfl
theorem elem50 : elemT Try.prog 50 = none := by kernel_rfl
theorem arr50 : arrT Try.prog 50 = none := by kernel_rfl
theorem int50 : intT Try.prog 50 = none := by kernel_rfl
theorem zer50 : zerT Try.prog 50 = some [.nilFunc] := by kernel_rfl
theorem str50 : strT Try.prog 50 = false := by kernel_rfl
theorem agg51 : aggT Try.prog 51 = some false := by kernel_rfl
theorem siz51 : sizT Try.prog 51 = some 1 := by kernel_rfl
theorem byt51 : bytT Try.prog 51 = some 0 := by kernel_rfl
theorem elem51 : elemT Try.prog 51 = none := by kernel_rfl
theorem arr51 : arrT Try.prog 51 = none := by kernel_rfl
theorem int51 : intT Try.prog 51 = none := by kernel_rfl
theorem str51 : strT Try.prog 51 = false := by kernel_rfl
theorem agg52 : aggT Try.prog 52 = some false := by kernel_rfl
theorem siz52 : sizT Try.prog 52 = some 1 := by kernel_rfl
theorem byt52 : bytT Try.prog 52 = some 8 := by kernel_rfl
theorem elem52 : elemT Try.prog 52 = none := by kernel_rfl
theorem arr52 : arrT Try.prog 52 = none := by kernel_rfl
theorem int52 : intT Try.prog 52 = none := by kernel_rfl
theorem zer52 : zerT Try.prog 52 = some [.nilFunc] := by kernel_rfl
theorem str52 : strT Try.prog 52 = false := by kernel_rfl
theorem agg53 : aggT Try.prog 53 = some false := by kernel_rfl
theorem siz53 : sizT Try.prog 53 = some 1 := by kernel_rfl
theorem byt53 : bytT Try.prog 53 = some 8 := by kernel_rfl
theorem elem53 : elemT Try.prog 53 = none := by kernel_rfl
theorem arr53 : arrT Try.prog 53 = none := by kernel_rfl
theorem int53 : intT Try.prog 53 = some .u64 := by kernel_rfl
theorem zer53 : zerT Try.prog 53 = some [.int .u64 0] := by kernel_rfl
theorem str53 : strT Try.prog 53 = false := by kernel_rfl
theorem agg54 : aggT Try.prog 54 = some false := by kernel_rfl
theorem siz54 : sizT Try.prog 54 = some 1 := by kernel_rfl
theorem byt54 : bytT Try.prog 54 = some 8 := by kernel_rfl
theorem elem54 : elemT Try.prog 54 = none := by kernel_rfl
theorem arr54 : arrT Try.prog 54 = none := by kernel_rfl
theorem int54 : intT Try.prog 54 = none := by kernel_rfl
theorem zer54 : zerT Try.prog 54 = some [.nilFunc] := by kernel_rfl
theorem str54 : strT Try.prog 54 = false := by kernel_rfl
theorem agg55 : aggT Try.prog 55 = some false := by kernel_rfl
theorem siz55 : sizT Try.prog 55 = some 1 := by kernel_rfl
theorem byt55 : bytT Try.prog 55 = some 8 := by kernel_rfl
theorem elem55 : elemT Try.prog 55 = none := by kernel_rfl
theorem arr55 : arrT Try.prog 55 = none := by kernel_rfl
theorem int55 : intT Try.prog 55 = none := by kernel_rfl
theorem zer55 : zerT Try.prog 55 = some [.nilFunc] := by kernel_rfl
theorem str55 : strT Try.prog 55 = false := by kernel_rfl
theorem agg56 : aggT Try.prog 56 = some false := by kernel_rfl
theorem siz56 : sizT Try.prog 56 = some 1 := by kernel_rfl
theorem byt56 : bytT Try.prog 56 = some 24 := by kernel_rfl
theorem elem56 : elemT Try.prog 56 = some 90 := by kernel_rfl
theorem arr56 : arrT Try.prog 56 = none := by kernel_rfl
theorem int56 : intT Try.prog 56 = none := by kernel_rfl
theorem zer56 : zerT Try.prog 56 = some [.slice none 0 0] := by kernel_rfl
theorem str56 : strT Try.prog 56 = false := by kernel_rfl
theorem agg57 : aggT Try.prog 57 = some false := by kernel_rfl
theorem siz57 : sizT Try.prog 57 = some 1 := by kernel_rfl
theorem byt57 : bytT Try.prog 57 = some 8 := by kernel_rfl
theorem elem57 : elemT Try.prog 57 = none := by kernel_rfl
theorem arr57 : arrT Try.prog 57 = none := by kernel_rfl
theorem int57 : intT Try.prog 57 = none := by kernel_rfl
theorem zer57 : zerT Try.prog 57 = some [.pointer none] := by kernel_rfl
theorem str57 : strT Try.prog 57 = false := by kernel_rfl
theorem agg58 : aggT Try.prog 58 = some false := by kernel_rfl
theorem siz58 : sizT Try.prog 58 = some 1 := by kernel_rfl
theorem byt58 : bytT Try.prog 58 = some 0 := by kernel_rfl
theorem elem58 : elemT Try.prog 58 = none := by kernel_rfl
theorem arr58 : arrT Try.prog 58 = none := by kernel_rfl
theorem int58 : intT Try.prog 58 = none := by kernel_rfl
theorem str58 : strT Try.prog 58 = false := by kernel_rfl
theorem agg59 : aggT Try.prog 59 = some false := by kernel_rfl
theorem siz59 : sizT Try.prog 59 = some 1 := by kernel_rfl
theorem byt59 : bytT Try.prog 59 = some 8 := by kernel_rfl
theorem elem59 : elemT Try.prog 59 = none := by kernel_rfl
theorem arr59 : arrT Try.prog 59 = none := by kernel_rfl
theorem int59 : intT Try.prog 59 = none := by kernel_rfl
theorem zer59 : zerT Try.prog 59 = some [.nilFunc] := by kernel_rfl
theorem str59 : strT Try.prog 59 = false := by kernel_rfl
theorem agg60 : aggT Try.prog 60 = some false := by kernel_rfl
theorem siz60 : sizT Try.prog 60 = some 1 := by kernel_rfl
theorem byt60 : bytT Try.prog 60 = some 8 := by kernel_rfl
theorem elem60 : elemT Try.prog 60 = none := by kernel_rfl
theorem arr60 : arrT Try.prog 60 = none := by kernel_rfl
theorem int60 : intT Try.prog 60 = none := by kernel_rfl
theorem zer60 : zerT Try.prog 60 = some [.pointer none] := by kernel_rfl
theorem str60 : strT Try.prog 60 = false := by kernel_rfl
theorem agg61 : aggT Try.prog 61 = some false := by kernel_rfl
theorem siz61 : sizT Try.prog 61 = some 1 := by kernel_rfl
theorem byt61 : bytT Try.prog 61 = some 0 := by kernel_rfl
theorem elem61 : elemT Try.prog 61 = none := by kernel_rfl
theorem arr61 : arrT Try.prog 61 = none := by kernel_rfl
theorem int61 : intT Try.prog 61 = none := by kernel_rfl
theorem str61 : strT Try.prog 61 = false := by kernel_rfl
theorem agg62 : aggT Try.prog 62 = some false := by kernel_rfl
theorem siz62 : sizT Try.prog 62 = some 1 := by kernel_rfl
theorem byt62 : bytT Try.prog 62 = some 8 := by kernel_rfl
theorem elem62 : elemT Try.prog 62 = none := by kernel_rfl
theorem arr62 : arrT Try.prog 62 = none := by kernel_rfl
theorem int62 : intT Try.prog 62 = none := by kernel_rfl
theorem zer62 : zerT Try.prog 62 = some [.nilFunc] := by kernel_rfl
theorem str62 : strT Try.prog 62 = false := by kernel_rfl
theorem agg63 : aggT Try.prog 63 = some false := by kernel_rfl
theorem siz63 : sizT Try.prog 63 = some 1 := by kernel_rfl
theorem byt63 : bytT Try.prog 63 = some 8 := by kernel_rfl
theorem elem63 : elemT Try.prog 63 = none := by kernel_rfl
theorem arr63 : arrT Try.prog 63 = none := by kernel_rfl
theorem int63 : intT Try.prog 63 = none := by kernel_rfl
theorem zer63 : zerT Try.prog 63 = some [.pointer none] := by kernel_rfl
theorem str63 : strT Try.prog 63 = false := by kernel_rfl
theorem agg64 : aggT Try.prog 64 = some false := by kernel_rfl
theorem siz64 : sizT Try.prog 64 = some 1 := by kernel_rfl
theorem byt64 : bytT Try.prog 64 = some 24 := by kernel_rfl
theorem elem64 : elemT Try.prog 64 = some 115 := by kernel_rfl
theorem arr64 : arrT Try.prog 64 = none := by kernel_rfl
theorem int64 : intT Try.prog 64 = none := by kernel_rfl
theorem zer64 : zerT Try.prog 64 = some [.slice none 0 0] := by kernel_rfl
theorem str64 : strT Try.prog 64 = false := by kernel_rfl
theorem agg65 : aggT Try.prog 65 = some true := by kernel_rfl
theorem siz65 : sizT Try.prog 65 = some 7 := by kernel_rfl
theorem byt65 : bytT Try.prog 65 = some 72 := by kernel_rfl
theorem elem65 : elemT Try.prog 65 = none := by kernel_rfl
theorem arr65 : arrT Try.prog 65 = none := by kernel_rfl
theorem int65 : intT Try.prog 65 = none := by kernel_rfl
theorem zer65 : zerT Try.prog 65 = some [.pointer none, .pointer none, .pointer none, .int .i64 0, .int .i64 0, .int .i64 0, .slice none 0 0] := by kernel_rfl
theorem eqg65 : Try.prog.eqGuardType (Try.prog.depth) 65 = false := by kernel_rfl
theorem szs65 : sizesOk Try.prog 65 = true := by kernel_rfl
theorem plc65_0 : placeT Try.prog 65 0 = some (0, 1) := by kernel_rfl
theorem plc65_1 : placeT Try.prog 65 1 = some (1, 1) := by kernel_rfl
theorem plc65_2 : placeT Try.prog 65 2 = some (2, 1) := by kernel_rfl
theorem plc65_3 : placeT Try.prog 65 3 = some (3, 1) := by kernel_rfl
theorem plc65_4 : placeT Try.prog 65 4 = some (4, 1) := by kernel_rfl
theorem plc65_5 : placeT Try.prog 65 5 = some (5, 1) := by kernel_rfl
theorem plc65_6 : placeT Try.prog 65 6 = some (6, 1) := by kernel_rfl
theorem str65 : strT Try.prog 65 = false := by kernel_rfl
theorem fld65_0 : fldT Try.prog 65 0 = some (0, 57) := by kernel_rfl
theorem fld65_1 : fldT Try.prog 65 1 = some (1, 60) := by kernel_rfl
theorem fld65_2 : fldT Try.prog 65 2 = some (2, 63) := by kernel_rfl
theorem fld65_3 : fldT Try.prog 65 3 = some (3, 44) := by kernel_rfl
theorem fld65_4 : fldT Try.prog 65 4 = some (4, 2) := by kernel_rfl
theorem fld65_5 : fldT Try.prog 65 5 = some (5, 2) := by kernel_rfl
theorem fld65_6 : fldT Try.prog 65 6 = some (6, 64) := by kernel_rfl
theorem agg66 : aggT Try.prog 66 = some true := by kernel_rfl
theorem siz66 : sizT Try.prog 66 = some 7 := by kernel_rfl
theorem byt66 : bytT Try.prog 66 = some 72 := by kernel_rfl
theorem elem66 : elemT Try.prog 66 = none := by kernel_rfl
theorem arr66 : arrT Try.prog 66 = none := by kernel_rfl
theorem int66 : intT Try.prog 66 = none := by kernel_rfl
theorem zer66 : zerT Try.prog 66 = some [.pointer none, .pointer none, .pointer none, .int .i64 0, .int .i64 0, .int .i64 0, .slice none 0 0] := by kernel_rfl
theorem eqg66 : Try.prog.eqGuardType (Try.prog.depth) 66 = false := by kernel_rfl
theorem szs66 : sizesOk Try.prog 66 = true := by kernel_rfl
theorem plc66_0 : placeT Try.prog 66 0 = some (0, 1) := by kernel_rfl
theorem plc66_1 : placeT Try.prog 66 1 = some (1, 1) := by kernel_rfl
theorem plc66_2 : placeT Try.prog 66 2 = some (2, 1) := by kernel_rfl
theorem plc66_3 : placeT Try.prog 66 3 = some (3, 1) := by kernel_rfl
theorem plc66_4 : placeT Try.prog 66 4 = some (4, 1) := by kernel_rfl
theorem plc66_5 : placeT Try.prog 66 5 = some (5, 1) := by kernel_rfl
theorem plc66_6 : placeT Try.prog 66 6 = some (6, 1) := by kernel_rfl
theorem str66 : strT Try.prog 66 = false := by kernel_rfl
theorem fld66_0 : fldT Try.prog 66 0 = some (0, 57) := by kernel_rfl
theorem fld66_1 : fldT Try.prog 66 1 = some (1, 60) := by kernel_rfl
theorem fld66_2 : fldT Try.prog 66 2 = some (2, 63) := by kernel_rfl
theorem fld66_3 : fldT Try.prog 66 3 = some (3, 44) := by kernel_rfl
theorem fld66_4 : fldT Try.prog 66 4 = some (4, 2) := by kernel_rfl
theorem fld66_5 : fldT Try.prog 66 5 = some (5, 2) := by kernel_rfl
theorem fld66_6 : fldT Try.prog 66 6 = some (6, 64) := by kernel_rfl
theorem agg67 : aggT Try.prog 67 = some false := by kernel_rfl
theorem siz67 : sizT Try.prog 67 = some 1 := by kernel_rfl
theorem byt67 : bytT Try.prog 67 = some 8 := by kernel_rfl
theorem elem67 : elemT Try.prog 67 = none := by kernel_rfl
theorem arr67 : arrT Try.prog 67 = none := by kernel_rfl
theorem int67 : intT Try.prog 67 = none := by kernel_rfl
theorem zer67 : zerT Try.prog 67 = some [.nilFunc] := by kernel_rfl
theorem str67 : strT Try.prog 67 = false := by kernel_rfl
theorem agg68 : aggT Try.prog 68 = some true := by kernel_rfl
theorem siz68 : sizT Try.prog 68 = some 2 := by kernel_rfl
theorem byt68 : bytT Try.prog 68 = some 16 := by kernel_rfl
theorem elem68 : elemT Try.prog 68 = none := by kernel_rfl
theorem arr68 : arrT Try.prog 68 = none := by kernel_rfl
theorem int68 : intT Try.prog 68 = none := by kernel_rfl
theorem zer68 : zerT Try.prog 68 = some [.int .i64 0, .int .i64 0] := by kernel_rfl
theorem kd68 : kdT Try.prog 60 68 = some [.int .i64, .int .i64] := by kernel_rfl
theorem eqg68 : Try.prog.eqGuardType (Try.prog.depth) 68 = false := by kernel_rfl
theorem szs68 : sizesOk Try.prog 68 = true := by kernel_rfl
theorem plc68_0 : placeT Try.prog 68 0 = some (0, 2) := by kernel_rfl
theorem str68 : strT Try.prog 68 = false := by kernel_rfl
theorem fld68_0 : fldT Try.prog 68 0 = some (0, 31) := by kernel_rfl
theorem agg69 : aggT Try.prog 69 = some true := by kernel_rfl
theorem siz69 : sizT Try.prog 69 = some 2 := by kernel_rfl
theorem byt69 : bytT Try.prog 69 = some 16 := by kernel_rfl
theorem elem69 : elemT Try.prog 69 = none := by kernel_rfl
theorem arr69 : arrT Try.prog 69 = none := by kernel_rfl
theorem int69 : intT Try.prog 69 = none := by kernel_rfl
theorem zer69 : zerT Try.prog 69 = some [.int .i64 0, .int .i64 0] := by kernel_rfl
theorem kd69 : kdT Try.prog 60 69 = some [.int .i64, .int .i64] := by kernel_rfl
theorem eqg69 : Try.prog.eqGuardType (Try.prog.depth) 69 = false := by kernel_rfl
theorem szs69 : sizesOk Try.prog 69 = true := by kernel_rfl
theorem plc69_0 : placeT Try.prog 69 0 = some (0, 2) := by kernel_rfl
theorem str69 : strT Try.prog 69 = false := by kernel_rfl
theorem fld69_0 : fldT Try.prog 69 0 = some (0, 31) := by kernel_rfl
theorem agg70 : aggT Try.prog 70 = some true := by kernel_rfl
theorem siz70 : sizT Try.prog 70 = some 4 := by kernel_rfl
theorem byt70 : bytT Try.prog 70 = some 32 := by kernel_rfl
theorem elem70 : elemT Try.prog 70 = none := by kernel_rfl
theorem arr70 : arrT Try.prog 70 = none := by kernel_rfl
theorem int70 : intT Try.prog 70 = none := by kernel_rfl
theorem zer70 : zerT Try.prog 70 = some [.int .i64 0, .int .i64 0, .int .i64 0, .bool false] := by kernel_rfl
theorem kd70 : kdT Try.prog 60 70 = some [.int .i64, .int .i64, .int .i64, .bool] := by kernel_rfl
theorem eqg70 : Try.prog.eqGuardType (Try.prog.depth) 70 = false := by kernel_rfl
theorem szs70 : sizesOk Try.prog 70 = true := by kernel_rfl
theorem plc70_0 : placeT Try.prog 70 0 = some (0, 2) := by kernel_rfl
theorem plc70_1 : placeT Try.prog 70 1 = some (2, 1) := by kernel_rfl
theorem plc70_2 : placeT Try.prog 70 2 = some (3, 1) := by kernel_rfl
theorem str70 : strT Try.prog 70 = false := by kernel_rfl
theorem fld70_0 : fldT Try.prog 70 0 = some (0, 69) := by kernel_rfl
theorem fld70_1 : fldT Try.prog 70 1 = some (2, 2) := by kernel_rfl
theorem fld70_2 : fldT Try.prog 70 2 = some (3, 4) := by kernel_rfl
theorem agg71 : aggT Try.prog 71 = some true := by kernel_rfl
theorem siz71 : sizT Try.prog 71 = some 4 := by kernel_rfl
theorem byt71 : bytT Try.prog 71 = some 32 := by kernel_rfl
theorem elem71 : elemT Try.prog 71 = none := by kernel_rfl
theorem arr71 : arrT Try.prog 71 = none := by kernel_rfl
theorem int71 : intT Try.prog 71 = none := by kernel_rfl
theorem zer71 : zerT Try.prog 71 = some [.int .i64 0, .int .i64 0, .int .i64 0, .bool false] := by kernel_rfl
theorem kd71 : kdT Try.prog 60 71 = some [.int .i64, .int .i64, .int .i64, .bool] := by kernel_rfl
theorem eqg71 : Try.prog.eqGuardType (Try.prog.depth) 71 = false := by kernel_rfl
theorem szs71 : sizesOk Try.prog 71 = true := by kernel_rfl
theorem plc71_0 : placeT Try.prog 71 0 = some (0, 2) := by kernel_rfl
theorem plc71_1 : placeT Try.prog 71 1 = some (2, 1) := by kernel_rfl
theorem plc71_2 : placeT Try.prog 71 2 = some (3, 1) := by kernel_rfl
theorem str71 : strT Try.prog 71 = false := by kernel_rfl
theorem fld71_0 : fldT Try.prog 71 0 = some (0, 69) := by kernel_rfl
theorem fld71_1 : fldT Try.prog 71 1 = some (2, 2) := by kernel_rfl
theorem fld71_2 : fldT Try.prog 71 2 = some (3, 4) := by kernel_rfl
theorem agg72 : aggT Try.prog 72 = some false := by kernel_rfl
theorem siz72 : sizT Try.prog 72 = some 1 := by kernel_rfl
theorem byt72 : bytT Try.prog 72 = some 8 := by kernel_rfl
theorem elem72 : elemT Try.prog 72 = none := by kernel_rfl
theorem arr72 : arrT Try.prog 72 = none := by kernel_rfl
theorem int72 : intT Try.prog 72 = none := by kernel_rfl
theorem zer72 : zerT Try.prog 72 = some [.nilFunc] := by kernel_rfl
theorem str72 : strT Try.prog 72 = false := by kernel_rfl
theorem agg73 : aggT Try.prog 73 = some false := by kernel_rfl
theorem siz73 : sizT Try.prog 73 = some 1 := by kernel_rfl
theorem byt73 : bytT Try.prog 73 = some 8 := by kernel_rfl
theorem elem73 : elemT Try.prog 73 = none := by kernel_rfl
theorem arr73 : arrT Try.prog 73 = none := by kernel_rfl
theorem int73 : intT Try.prog 73 = none := by kernel_rfl
theorem zer73 : zerT Try.prog 73 = some [.nilFunc] := by kernel_rfl
theorem str73 : strT Try.prog 73 = false := by kernel_rfl
theorem agg74 : aggT Try.prog 74 = some false := by kernel_rfl
theorem siz74 : sizT Try.prog 74 = some 1 := by kernel_rfl
theorem byt74 : bytT Try.prog 74 = some 8 := by kernel_rfl
theorem elem74 : elemT Try.prog 74 = none := by kernel_rfl
theorem arr74 : arrT Try.prog 74 = none := by kernel_rfl
theorem int74 : intT Try.prog 74 = none := by kernel_rfl
theorem zer74 : zerT Try.prog 74 = some [.nilFunc] := by kernel_rfl
theorem str74 : strT Try.prog 74 = false := by kernel_rfl
theorem agg75 : aggT Try.prog 75 = some false := by kernel_rfl
theorem siz75 : sizT Try.prog 75 = some 1 := by kernel_rfl
theorem byt75 : bytT Try.prog 75 = some 8 := by kernel_rfl
theorem elem75 : elemT Try.prog 75 = none := by kernel_rfl
theorem arr75 : arrT Try.prog 75 = none := by kernel_rfl
theorem int75 : intT Try.prog 75 = none := by kernel_rfl
theorem zer75 : zerT Try.prog 75 = some [.nilFunc] := by kernel_rfl
theorem str75 : strT Try.prog 75 = false := by kernel_rfl
theorem agg76 : aggT Try.prog 76 = some false := by kernel_rfl
theorem siz76 : sizT Try.prog 76 = some 1 := by kernel_rfl
theorem byt76 : bytT Try.prog 76 = some 8 := by kernel_rfl
theorem elem76 : elemT Try.prog 76 = none := by kernel_rfl
theorem arr76 : arrT Try.prog 76 = none := by kernel_rfl
theorem int76 : intT Try.prog 76 = none := by kernel_rfl
theorem zer76 : zerT Try.prog 76 = some [.nilFunc] := by kernel_rfl
theorem str76 : strT Try.prog 76 = false := by kernel_rfl
theorem agg77 : aggT Try.prog 77 = some true := by kernel_rfl
theorem siz77 : sizT Try.prog 77 = some 2 := by kernel_rfl
theorem byt77 : bytT Try.prog 77 = some 16 := by kernel_rfl
theorem elem77 : elemT Try.prog 77 = none := by kernel_rfl
theorem arr77 : arrT Try.prog 77 = none := by kernel_rfl
theorem int77 : intT Try.prog 77 = none := by kernel_rfl
theorem zer77 : zerT Try.prog 77 = some [.int .i64 0, .bool false] := by kernel_rfl
theorem kd77 : kdT Try.prog 60 77 = some [.int .i64, .bool] := by kernel_rfl
theorem eqg77 : Try.prog.eqGuardType (Try.prog.depth) 77 = false := by kernel_rfl
theorem szs77 : sizesOk Try.prog 77 = true := by kernel_rfl
theorem plc77_0 : placeT Try.prog 77 0 = some (0, 1) := by kernel_rfl
theorem plc77_1 : placeT Try.prog 77 1 = some (1, 1) := by kernel_rfl
theorem str77 : strT Try.prog 77 = false := by kernel_rfl
theorem fld77_0 : fldT Try.prog 77 0 = some (0, 3) := by kernel_rfl
theorem fld77_1 : fldT Try.prog 77 1 = some (1, 4) := by kernel_rfl
theorem agg78 : aggT Try.prog 78 = some true := by kernel_rfl
theorem siz78 : sizT Try.prog 78 = some 2 := by kernel_rfl
theorem byt78 : bytT Try.prog 78 = some 16 := by kernel_rfl
theorem elem78 : elemT Try.prog 78 = none := by kernel_rfl
theorem arr78 : arrT Try.prog 78 = none := by kernel_rfl
theorem int78 : intT Try.prog 78 = none := by kernel_rfl
theorem zer78 : zerT Try.prog 78 = some [.int .i64 0, .bool false] := by kernel_rfl
theorem kd78 : kdT Try.prog 60 78 = some [.int .i64, .bool] := by kernel_rfl
theorem eqg78 : Try.prog.eqGuardType (Try.prog.depth) 78 = false := by kernel_rfl
theorem szs78 : sizesOk Try.prog 78 = true := by kernel_rfl
theorem plc78_0 : placeT Try.prog 78 0 = some (0, 1) := by kernel_rfl
theorem plc78_1 : placeT Try.prog 78 1 = some (1, 1) := by kernel_rfl
theorem str78 : strT Try.prog 78 = false := by kernel_rfl
theorem fld78_0 : fldT Try.prog 78 0 = some (0, 3) := by kernel_rfl
theorem fld78_1 : fldT Try.prog 78 1 = some (1, 4) := by kernel_rfl
theorem agg79 : aggT Try.prog 79 = some false := by kernel_rfl
theorem siz79 : sizT Try.prog 79 = some 1 := by kernel_rfl
theorem byt79 : bytT Try.prog 79 = some 8 := by kernel_rfl
theorem elem79 : elemT Try.prog 79 = none := by kernel_rfl
theorem arr79 : arrT Try.prog 79 = none := by kernel_rfl
theorem int79 : intT Try.prog 79 = none := by kernel_rfl
theorem zer79 : zerT Try.prog 79 = some [.nilFunc] := by kernel_rfl
theorem str79 : strT Try.prog 79 = false := by kernel_rfl
theorem agg80 : aggT Try.prog 80 = some false := by kernel_rfl
theorem siz80 : sizT Try.prog 80 = some 1 := by kernel_rfl
theorem byt80 : bytT Try.prog 80 = some 8 := by kernel_rfl
theorem elem80 : elemT Try.prog 80 = none := by kernel_rfl
theorem arr80 : arrT Try.prog 80 = none := by kernel_rfl
theorem int80 : intT Try.prog 80 = some .i64 := by kernel_rfl
theorem zer80 : zerT Try.prog 80 = some [.int .i64 0] := by kernel_rfl
theorem str80 : strT Try.prog 80 = false := by kernel_rfl
theorem agg81 : aggT Try.prog 81 = some false := by kernel_rfl
theorem siz81 : sizT Try.prog 81 = some 1 := by kernel_rfl
theorem byt81 : bytT Try.prog 81 = some 8 := by kernel_rfl
theorem elem81 : elemT Try.prog 81 = none := by kernel_rfl
theorem arr81 : arrT Try.prog 81 = none := by kernel_rfl
theorem int81 : intT Try.prog 81 = none := by kernel_rfl
theorem zer81 : zerT Try.prog 81 = some [.nilFunc] := by kernel_rfl
theorem str81 : strT Try.prog 81 = false := by kernel_rfl
theorem agg82 : aggT Try.prog 82 = some false := by kernel_rfl
theorem siz82 : sizT Try.prog 82 = some 1 := by kernel_rfl
theorem byt82 : bytT Try.prog 82 = some 8 := by kernel_rfl
theorem elem82 : elemT Try.prog 82 = none := by kernel_rfl
theorem arr82 : arrT Try.prog 82 = none := by kernel_rfl
theorem int82 : intT Try.prog 82 = none := by kernel_rfl
theorem zer82 : zerT Try.prog 82 = some [.nilFunc] := by kernel_rfl
theorem str82 : strT Try.prog 82 = false := by kernel_rfl
theorem agg83 : aggT Try.prog 83 = some false := by kernel_rfl
theorem siz83 : sizT Try.prog 83 = some 1 := by kernel_rfl
theorem byt83 : bytT Try.prog 83 = some 8 := by kernel_rfl
theorem elem83 : elemT Try.prog 83 = none := by kernel_rfl
theorem arr83 : arrT Try.prog 83 = none := by kernel_rfl
theorem int83 : intT Try.prog 83 = none := by kernel_rfl
theorem zer83 : zerT Try.prog 83 = some [.nilFunc] := by kernel_rfl
theorem str83 : strT Try.prog 83 = false := by kernel_rfl
theorem agg84 : aggT Try.prog 84 = some false := by kernel_rfl
theorem siz84 : sizT Try.prog 84 = some 1 := by kernel_rfl
theorem byt84 : bytT Try.prog 84 = some 8 := by kernel_rfl
theorem elem84 : elemT Try.prog 84 = none := by kernel_rfl
theorem arr84 : arrT Try.prog 84 = none := by kernel_rfl
theorem int84 : intT Try.prog 84 = none := by kernel_rfl
theorem zer84 : zerT Try.prog 84 = some [.pointer none] := by kernel_rfl
theorem str84 : strT Try.prog 84 = false := by kernel_rfl
theorem agg85 : aggT Try.prog 85 = some true := by kernel_rfl
theorem siz85 : sizT Try.prog 85 = some 8 := by kernel_rfl
theorem byt85 : bytT Try.prog 85 = some 64 := by kernel_rfl
theorem elem85 : elemT Try.prog 85 = none := by kernel_rfl
theorem arr85 : arrT Try.prog 85 = some (8, 84) := by kernel_rfl
theorem int85 : intT Try.prog 85 = none := by kernel_rfl
theorem zer85 : zerT Try.prog 85 = some [.pointer none, .pointer none, .pointer none, .pointer none, .pointer none, .pointer none, .pointer none, .pointer none] := by kernel_rfl
theorem eqg85 : Try.prog.eqGuardType (Try.prog.depth) 85 = false := by kernel_rfl
theorem szs85 : sizesOk Try.prog 85 = true := by kernel_rfl
theorem plc85_0 : placeT Try.prog 85 0 = some (0, 1) := by kernel_rfl
theorem plc85_1 : placeT Try.prog 85 1 = some (1, 1) := by kernel_rfl
theorem plc85_2 : placeT Try.prog 85 2 = some (2, 1) := by kernel_rfl
theorem plc85_3 : placeT Try.prog 85 3 = some (3, 1) := by kernel_rfl
theorem plc85_4 : placeT Try.prog 85 4 = some (4, 1) := by kernel_rfl
theorem plc85_5 : placeT Try.prog 85 5 = some (5, 1) := by kernel_rfl
theorem plc85_6 : placeT Try.prog 85 6 = some (6, 1) := by kernel_rfl
theorem plc85_7 : placeT Try.prog 85 7 = some (7, 1) := by kernel_rfl
theorem plc85_8 : placeT Try.prog 85 8 = some (8, 1) := by kernel_rfl
theorem plc85_9 : placeT Try.prog 85 9 = some (9, 1) := by kernel_rfl
theorem plc85_10 : placeT Try.prog 85 10 = some (10, 1) := by kernel_rfl
theorem plc85_11 : placeT Try.prog 85 11 = some (11, 1) := by kernel_rfl
theorem str85 : strT Try.prog 85 = false := by kernel_rfl
theorem agg86 : aggT Try.prog 86 = some true := by kernel_rfl
theorem siz86 : sizT Try.prog 86 = some 9 := by kernel_rfl
theorem byt86 : bytT Try.prog 86 = some 72 := by kernel_rfl
theorem elem86 : elemT Try.prog 86 = none := by kernel_rfl
theorem arr86 : arrT Try.prog 86 = none := by kernel_rfl
theorem int86 : intT Try.prog 86 = none := by kernel_rfl
theorem zer86 : zerT Try.prog 86 = some [.int .i64 0, .pointer none, .pointer none, .pointer none, .pointer none, .pointer none, .pointer none, .pointer none, .pointer none] := by kernel_rfl
theorem eqg86 : Try.prog.eqGuardType (Try.prog.depth) 86 = false := by kernel_rfl
theorem szs86 : sizesOk Try.prog 86 = true := by kernel_rfl
theorem plc86_0 : placeT Try.prog 86 0 = some (0, 1) := by kernel_rfl
theorem plc86_1 : placeT Try.prog 86 1 = some (1, 8) := by kernel_rfl
theorem str86 : strT Try.prog 86 = false := by kernel_rfl
theorem fld86_0 : fldT Try.prog 86 0 = some (0, 3) := by kernel_rfl
theorem fld86_1 : fldT Try.prog 86 1 = some (1, 85) := by kernel_rfl
theorem agg87 : aggT Try.prog 87 = some true := by kernel_rfl
theorem siz87 : sizT Try.prog 87 = some 9 := by kernel_rfl
theorem byt87 : bytT Try.prog 87 = some 72 := by kernel_rfl
theorem elem87 : elemT Try.prog 87 = none := by kernel_rfl
theorem arr87 : arrT Try.prog 87 = none := by kernel_rfl
theorem int87 : intT Try.prog 87 = none := by kernel_rfl
theorem zer87 : zerT Try.prog 87 = some [.int .i64 0, .pointer none, .pointer none, .pointer none, .pointer none, .pointer none, .pointer none, .pointer none, .pointer none] := by kernel_rfl
theorem eqg87 : Try.prog.eqGuardType (Try.prog.depth) 87 = false := by kernel_rfl
theorem szs87 : sizesOk Try.prog 87 = true := by kernel_rfl
theorem plc87_0 : placeT Try.prog 87 0 = some (0, 1) := by kernel_rfl
theorem plc87_1 : placeT Try.prog 87 1 = some (1, 8) := by kernel_rfl
theorem str87 : strT Try.prog 87 = false := by kernel_rfl
theorem fld87_0 : fldT Try.prog 87 0 = some (0, 3) := by kernel_rfl
theorem fld87_1 : fldT Try.prog 87 1 = some (1, 85) := by kernel_rfl
theorem agg88 : aggT Try.prog 88 = some false := by kernel_rfl
theorem siz88 : sizT Try.prog 88 = some 1 := by kernel_rfl
theorem byt88 : bytT Try.prog 88 = some 8 := by kernel_rfl
theorem elem88 : elemT Try.prog 88 = none := by kernel_rfl
theorem arr88 : arrT Try.prog 88 = none := by kernel_rfl
theorem int88 : intT Try.prog 88 = none := by kernel_rfl
theorem zer88 : zerT Try.prog 88 = some [.nilFunc] := by kernel_rfl
theorem str88 : strT Try.prog 88 = false := by kernel_rfl
theorem agg89 : aggT Try.prog 89 = some true := by kernel_rfl
theorem siz89 : sizT Try.prog 89 = some 3 := by kernel_rfl
theorem byt89 : bytT Try.prog 89 = some 12 := by kernel_rfl
theorem elem89 : elemT Try.prog 89 = none := by kernel_rfl
theorem arr89 : arrT Try.prog 89 = none := by kernel_rfl
theorem int89 : intT Try.prog 89 = none := by kernel_rfl
theorem zer89 : zerT Try.prog 89 = some [.bool false, .int .u32 0, .int .u32 0] := by kernel_rfl
theorem kd89 : kdT Try.prog 60 89 = some [.bool, .int .u32, .int .u32] := by kernel_rfl
theorem eqg89 : Try.prog.eqGuardType (Try.prog.depth) 89 = false := by kernel_rfl
theorem szs89 : sizesOk Try.prog 89 = true := by kernel_rfl
theorem plc89_0 : placeT Try.prog 89 0 = some (0, 1) := by kernel_rfl
theorem plc89_1 : placeT Try.prog 89 1 = some (1, 1) := by kernel_rfl
theorem plc89_2 : placeT Try.prog 89 2 = some (2, 1) := by kernel_rfl
theorem str89 : strT Try.prog 89 = false := by kernel_rfl
theorem fld89_0 : fldT Try.prog 89 0 = some (0, 4) := by kernel_rfl
theorem fld89_1 : fldT Try.prog 89 1 = some (1, 36) := by kernel_rfl
theorem fld89_2 : fldT Try.prog 89 2 = some (2, 36) := by kernel_rfl
theorem agg90 : aggT Try.prog 90 = some true := by kernel_rfl
theorem siz90 : sizT Try.prog 90 = some 3 := by kernel_rfl
theorem byt90 : bytT Try.prog 90 = some 12 := by kernel_rfl
theorem elem90 : elemT Try.prog 90 = none := by kernel_rfl
theorem arr90 : arrT Try.prog 90 = none := by kernel_rfl
theorem int90 : intT Try.prog 90 = none := by kernel_rfl
theorem zer90 : zerT Try.prog 90 = some [.bool false, .int .u32 0, .int .u32 0] := by kernel_rfl
theorem kd90 : kdT Try.prog 60 90 = some [.bool, .int .u32, .int .u32] := by kernel_rfl
theorem eqg90 : Try.prog.eqGuardType (Try.prog.depth) 90 = false := by kernel_rfl
theorem szs90 : sizesOk Try.prog 90 = true := by kernel_rfl
theorem plc90_0 : placeT Try.prog 90 0 = some (0, 1) := by kernel_rfl
theorem plc90_1 : placeT Try.prog 90 1 = some (1, 1) := by kernel_rfl
theorem plc90_2 : placeT Try.prog 90 2 = some (2, 1) := by kernel_rfl
theorem str90 : strT Try.prog 90 = false := by kernel_rfl
theorem fld90_0 : fldT Try.prog 90 0 = some (0, 4) := by kernel_rfl
theorem fld90_1 : fldT Try.prog 90 1 = some (1, 36) := by kernel_rfl
theorem fld90_2 : fldT Try.prog 90 2 = some (2, 36) := by kernel_rfl
theorem agg91 : aggT Try.prog 91 = some false := by kernel_rfl
theorem siz91 : sizT Try.prog 91 = some 1 := by kernel_rfl
theorem byt91 : bytT Try.prog 91 = some 24 := by kernel_rfl
theorem elem91 : elemT Try.prog 91 = some 48 := by kernel_rfl
theorem arr91 : arrT Try.prog 91 = none := by kernel_rfl
theorem int91 : intT Try.prog 91 = none := by kernel_rfl
theorem zer91 : zerT Try.prog 91 = some [.slice none 0 0] := by kernel_rfl
theorem str91 : strT Try.prog 91 = false := by kernel_rfl
theorem agg92 : aggT Try.prog 92 = some true := by kernel_rfl
theorem siz92 : sizT Try.prog 92 = some 4 := by kernel_rfl
theorem byt92 : bytT Try.prog 92 = some 64 := by kernel_rfl
theorem elem92 : elemT Try.prog 92 = none := by kernel_rfl
theorem arr92 : arrT Try.prog 92 = none := by kernel_rfl
theorem int92 : intT Try.prog 92 = none := by kernel_rfl
theorem zer92 : zerT Try.prog 92 = some [.int .i64 0, .slice none 0 0, .slice none 0 0, .bool false] := by kernel_rfl
theorem eqg92 : Try.prog.eqGuardType (Try.prog.depth) 92 = false := by kernel_rfl
theorem szs92 : sizesOk Try.prog 92 = true := by kernel_rfl
theorem plc92_0 : placeT Try.prog 92 0 = some (0, 1) := by kernel_rfl
theorem plc92_1 : placeT Try.prog 92 1 = some (1, 1) := by kernel_rfl
theorem plc92_2 : placeT Try.prog 92 2 = some (2, 1) := by kernel_rfl
theorem plc92_3 : placeT Try.prog 92 3 = some (3, 1) := by kernel_rfl
theorem str92 : strT Try.prog 92 = false := by kernel_rfl
theorem fld92_0 : fldT Try.prog 92 0 = some (0, 3) := by kernel_rfl
theorem fld92_1 : fldT Try.prog 92 1 = some (1, 56) := by kernel_rfl
theorem fld92_2 : fldT Try.prog 92 2 = some (2, 91) := by kernel_rfl
theorem fld92_3 : fldT Try.prog 92 3 = some (3, 4) := by kernel_rfl
theorem agg93 : aggT Try.prog 93 = some true := by kernel_rfl
theorem siz93 : sizT Try.prog 93 = some 4 := by kernel_rfl
theorem byt93 : bytT Try.prog 93 = some 64 := by kernel_rfl
theorem elem93 : elemT Try.prog 93 = none := by kernel_rfl
theorem arr93 : arrT Try.prog 93 = none := by kernel_rfl
theorem int93 : intT Try.prog 93 = none := by kernel_rfl
theorem zer93 : zerT Try.prog 93 = some [.int .i64 0, .slice none 0 0, .slice none 0 0, .bool false] := by kernel_rfl
theorem eqg93 : Try.prog.eqGuardType (Try.prog.depth) 93 = false := by kernel_rfl
theorem szs93 : sizesOk Try.prog 93 = true := by kernel_rfl
theorem plc93_0 : placeT Try.prog 93 0 = some (0, 1) := by kernel_rfl
theorem plc93_1 : placeT Try.prog 93 1 = some (1, 1) := by kernel_rfl
theorem plc93_2 : placeT Try.prog 93 2 = some (2, 1) := by kernel_rfl
theorem plc93_3 : placeT Try.prog 93 3 = some (3, 1) := by kernel_rfl
theorem str93 : strT Try.prog 93 = false := by kernel_rfl
theorem fld93_0 : fldT Try.prog 93 0 = some (0, 3) := by kernel_rfl
theorem fld93_1 : fldT Try.prog 93 1 = some (1, 56) := by kernel_rfl
theorem fld93_2 : fldT Try.prog 93 2 = some (2, 91) := by kernel_rfl
theorem fld93_3 : fldT Try.prog 93 3 = some (3, 4) := by kernel_rfl
theorem agg94 : aggT Try.prog 94 = some false := by kernel_rfl
theorem siz94 : sizT Try.prog 94 = some 1 := by kernel_rfl
theorem byt94 : bytT Try.prog 94 = some 8 := by kernel_rfl
theorem elem94 : elemT Try.prog 94 = none := by kernel_rfl
theorem arr94 : arrT Try.prog 94 = none := by kernel_rfl
theorem int94 : intT Try.prog 94 = none := by kernel_rfl
theorem zer94 : zerT Try.prog 94 = some [.nilFunc] := by kernel_rfl
theorem str94 : strT Try.prog 94 = false := by kernel_rfl
theorem agg95 : aggT Try.prog 95 = some false := by kernel_rfl
theorem siz95 : sizT Try.prog 95 = some 1 := by kernel_rfl
theorem byt95 : bytT Try.prog 95 = some 8 := by kernel_rfl
theorem elem95 : elemT Try.prog 95 = none := by kernel_rfl
theorem arr95 : arrT Try.prog 95 = none := by kernel_rfl
theorem int95 : intT Try.prog 95 = none := by kernel_rfl
theorem zer95 : zerT Try.prog 95 = some [.nilFunc] := by kernel_rfl
theorem str95 : strT Try.prog 95 = false := by kernel_rfl
theorem agg96 : aggT Try.prog 96 = some false := by kernel_rfl
theorem siz96 : sizT Try.prog 96 = some 1 := by kernel_rfl
theorem byt96 : bytT Try.prog 96 = some 24 := by kernel_rfl
theorem elem96 : elemT Try.prog 96 = some 84 := by kernel_rfl
theorem arr96 : arrT Try.prog 96 = none := by kernel_rfl
theorem int96 : intT Try.prog 96 = none := by kernel_rfl
theorem zer96 : zerT Try.prog 96 = some [.slice none 0 0] := by kernel_rfl
theorem str96 : strT Try.prog 96 = false := by kernel_rfl
theorem agg97 : aggT Try.prog 97 = some false := by kernel_rfl
theorem siz97 : sizT Try.prog 97 = some 1 := by kernel_rfl
theorem byt97 : bytT Try.prog 97 = some 8 := by kernel_rfl
theorem elem97 : elemT Try.prog 97 = none := by kernel_rfl
theorem arr97 : arrT Try.prog 97 = none := by kernel_rfl
theorem int97 : intT Try.prog 97 = none := by kernel_rfl
theorem zer97 : zerT Try.prog 97 = some [.nilFunc] := by kernel_rfl
theorem str97 : strT Try.prog 97 = false := by kernel_rfl
theorem agg98 : aggT Try.prog 98 = some false := by kernel_rfl
theorem siz98 : sizT Try.prog 98 = some 1 := by kernel_rfl
theorem byt98 : bytT Try.prog 98 = some 8 := by kernel_rfl
theorem elem98 : elemT Try.prog 98 = none := by kernel_rfl
theorem arr98 : arrT Try.prog 98 = none := by kernel_rfl
theorem int98 : intT Try.prog 98 = none := by kernel_rfl
theorem zer98 : zerT Try.prog 98 = some [.nilFunc] := by kernel_rfl
theorem str98 : strT Try.prog 98 = false := by kernel_rfl
theorem agg99 : aggT Try.prog 99 = some false := by kernel_rfl
theorem siz99 : sizT Try.prog 99 = some 1 := by kernel_rfl
theorem byt99 : bytT Try.prog 99 = some 8 := by kernel_rfl
theorem elem99 : elemT Try.prog 99 = none := by kernel_rfl
theorem arr99 : arrT Try.prog 99 = none := by kernel_rfl
theorem int99 : intT Try.prog 99 = none := by kernel_rfl
theorem zer99 : zerT Try.prog 99 = some [.nilFunc] := by kernel_rfl
theorem str99 : strT Try.prog 99 = false := by kernel_rfl
theorem agg100 : aggT Try.prog 100 = some false := by kernel_rfl
theorem siz100 : sizT Try.prog 100 = some 1 := by kernel_rfl
theorem byt100 : bytT Try.prog 100 = some 8 := by kernel_rfl
theorem elem100 : elemT Try.prog 100 = none := by kernel_rfl
theorem arr100 : arrT Try.prog 100 = none := by kernel_rfl
theorem int100 : intT Try.prog 100 = none := by kernel_rfl
theorem zer100 : zerT Try.prog 100 = some [.nilFunc] := by kernel_rfl
theorem str100 : strT Try.prog 100 = false := by kernel_rfl
theorem agg101 : aggT Try.prog 101 = some false := by kernel_rfl
theorem siz101 : sizT Try.prog 101 = some 1 := by kernel_rfl
theorem byt101 : bytT Try.prog 101 = some 8 := by kernel_rfl
theorem elem101 : elemT Try.prog 101 = none := by kernel_rfl
theorem arr101 : arrT Try.prog 101 = none := by kernel_rfl
theorem int101 : intT Try.prog 101 = none := by kernel_rfl
theorem zer101 : zerT Try.prog 101 = some [.nilFunc] := by kernel_rfl
theorem str101 : strT Try.prog 101 = false := by kernel_rfl
theorem agg102 : aggT Try.prog 102 = some false := by kernel_rfl
theorem siz102 : sizT Try.prog 102 = some 1 := by kernel_rfl
theorem byt102 : bytT Try.prog 102 = some 8 := by kernel_rfl
theorem elem102 : elemT Try.prog 102 = none := by kernel_rfl
theorem arr102 : arrT Try.prog 102 = none := by kernel_rfl
theorem int102 : intT Try.prog 102 = none := by kernel_rfl
theorem zer102 : zerT Try.prog 102 = some [.nilFunc] := by kernel_rfl
theorem str102 : strT Try.prog 102 = false := by kernel_rfl
theorem agg103 : aggT Try.prog 103 = some true := by kernel_rfl
theorem siz103 : sizT Try.prog 103 = some 14 := by kernel_rfl
theorem byt103 : bytT Try.prog 103 = some 48 := by kernel_rfl
theorem elem103 : elemT Try.prog 103 = none := by kernel_rfl
theorem arr103 : arrT Try.prog 103 = none := by kernel_rfl
theorem int103 : intT Try.prog 103 = none := by kernel_rfl
theorem zer103 : zerT Try.prog 103 = some [.bool false, .int .u32 0, .bool false, .int .i64 0, .int .u8 0, .int .u8 0, .int .u8 0, .int .u8 0, .int .u8 0, .int .u8 0, .int .u8 0, .int .u8 0, .bool false, .int .i64 0] := by kernel_rfl
theorem kd103 : kdT Try.prog 60 103 = some [.bool, .int .u32, .bool, .int .i64, .int .u8, .int .u8, .int .u8, .int .u8, .int .u8, .int .u8, .int .u8, .int .u8, .bool, .int .i64] := by kernel_rfl
theorem eqg103 : Try.prog.eqGuardType (Try.prog.depth) 103 = false := by kernel_rfl
theorem szs103 : sizesOk Try.prog 103 = true := by kernel_rfl
theorem plc103_0 : placeT Try.prog 103 0 = some (0, 12) := by kernel_rfl
theorem plc103_1 : placeT Try.prog 103 1 = some (12, 1) := by kernel_rfl
theorem plc103_2 : placeT Try.prog 103 2 = some (13, 1) := by kernel_rfl
theorem str103 : strT Try.prog 103 = false := by kernel_rfl
theorem fld103_0 : fldT Try.prog 103 0 = some (0, 41) := by kernel_rfl
theorem fld103_1 : fldT Try.prog 103 1 = some (12, 4) := by kernel_rfl
theorem fld103_2 : fldT Try.prog 103 2 = some (13, 3) := by kernel_rfl
theorem agg104 : aggT Try.prog 104 = some true := by kernel_rfl
theorem siz104 : sizT Try.prog 104 = some 14 := by kernel_rfl
theorem byt104 : bytT Try.prog 104 = some 48 := by kernel_rfl
theorem elem104 : elemT Try.prog 104 = none := by kernel_rfl
theorem arr104 : arrT Try.prog 104 = none := by kernel_rfl
theorem int104 : intT Try.prog 104 = none := by kernel_rfl
theorem zer104 : zerT Try.prog 104 = some [.bool false, .int .u32 0, .bool false, .int .i64 0, .int .u8 0, .int .u8 0, .int .u8 0, .int .u8 0, .int .u8 0, .int .u8 0, .int .u8 0, .int .u8 0, .bool false, .int .i64 0] := by kernel_rfl
theorem kd104 : kdT Try.prog 60 104 = some [.bool, .int .u32, .bool, .int .i64, .int .u8, .int .u8, .int .u8, .int .u8, .int .u8, .int .u8, .int .u8, .int .u8, .bool, .int .i64] := by kernel_rfl
theorem eqg104 : Try.prog.eqGuardType (Try.prog.depth) 104 = false := by kernel_rfl
theorem szs104 : sizesOk Try.prog 104 = true := by kernel_rfl
theorem plc104_0 : placeT Try.prog 104 0 = some (0, 12) := by kernel_rfl
theorem plc104_1 : placeT Try.prog 104 1 = some (12, 1) := by kernel_rfl
theorem plc104_2 : placeT Try.prog 104 2 = some (13, 1) := by kernel_rfl
theorem str104 : strT Try.prog 104 = false := by kernel_rfl
theorem fld104_0 : fldT Try.prog 104 0 = some (0, 41) := by kernel_rfl
theorem fld104_1 : fldT Try.prog 104 1 = some (12, 4) := by kernel_rfl
theorem fld104_2 : fldT Try.prog 104 2 = some (13, 3) := by kernel_rfl
theorem agg105 : aggT Try.prog 105 = some false := by kernel_rfl
theorem siz105 : sizT Try.prog 105 = some 1 := by kernel_rfl
theorem byt105 : bytT Try.prog 105 = some 0 := by kernel_rfl
theorem elem105 : elemT Try.prog 105 = none := by kernel_rfl
theorem arr105 : arrT Try.prog 105 = none := by kernel_rfl
theorem int105 : intT Try.prog 105 = none := by kernel_rfl
theorem str105 : strT Try.prog 105 = false := by kernel_rfl
theorem agg106 : aggT Try.prog 106 = some false := by kernel_rfl
theorem siz106 : sizT Try.prog 106 = some 1 := by kernel_rfl
theorem byt106 : bytT Try.prog 106 = some 8 := by kernel_rfl
theorem elem106 : elemT Try.prog 106 = none := by kernel_rfl
theorem arr106 : arrT Try.prog 106 = none := by kernel_rfl
theorem int106 : intT Try.prog 106 = none := by kernel_rfl
theorem zer106 : zerT Try.prog 106 = some [.nilFunc] := by kernel_rfl
theorem str106 : strT Try.prog 106 = false := by kernel_rfl
theorem agg107 : aggT Try.prog 107 = some false := by kernel_rfl
theorem siz107 : sizT Try.prog 107 = some 1 := by kernel_rfl
theorem byt107 : bytT Try.prog 107 = some 8 := by kernel_rfl
theorem elem107 : elemT Try.prog 107 = none := by kernel_rfl
theorem arr107 : arrT Try.prog 107 = none := by kernel_rfl
theorem int107 : intT Try.prog 107 = none := by kernel_rfl
theorem zer107 : zerT Try.prog 107 = some [.nilFunc] := by kernel_rfl
theorem str107 : strT Try.prog 107 = false := by kernel_rfl
theorem agg108 : aggT Try.prog 108 = some false := by kernel_rfl
theorem siz108 : sizT Try.prog 108 = some 1 := by kernel_rfl
theorem byt108 : bytT Try.prog 108 = some 8 := by kernel_rfl
theorem elem108 : elemT Try.prog 108 = none := by kernel_rfl
theorem arr108 : arrT Try.prog 108 = none := by kernel_rfl
theorem int108 : intT Try.prog 108 = some .u64 := by kernel_rfl
theorem zer108 : zerT Try.prog 108 = some [.int .u64 0] := by kernel_rfl
theorem str108 : strT Try.prog 108 = false := by kernel_rfl
theorem agg109 : aggT Try.prog 109 = some false := by kernel_rfl
theorem siz109 : sizT Try.prog 109 = some 1 := by kernel_rfl
theorem byt109 : bytT Try.prog 109 = some 8 := by kernel_rfl
theorem elem109 : elemT Try.prog 109 = none := by kernel_rfl
theorem arr109 : arrT Try.prog 109 = none := by kernel_rfl
theorem int109 : intT Try.prog 109 = none := by kernel_rfl
theorem zer109 : zerT Try.prog 109 = some [.nilFunc] := by kernel_rfl
theorem str109 : strT Try.prog 109 = false := by kernel_rfl
theorem agg110 : aggT Try.prog 110 = some false := by kernel_rfl
theorem siz110 : sizT Try.prog 110 = some 1 := by kernel_rfl
theorem byt110 : bytT Try.prog 110 = some 8 := by kernel_rfl
theorem elem110 : elemT Try.prog 110 = none := by kernel_rfl
theorem arr110 : arrT Try.prog 110 = none := by kernel_rfl
theorem int110 : intT Try.prog 110 = none := by kernel_rfl
theorem zer110 : zerT Try.prog 110 = some [.nilFunc] := by kernel_rfl
theorem str110 : strT Try.prog 110 = false := by kernel_rfl
theorem agg111 : aggT Try.prog 111 = some false := by kernel_rfl
theorem siz111 : sizT Try.prog 111 = some 1 := by kernel_rfl
theorem byt111 : bytT Try.prog 111 = some 8 := by kernel_rfl
theorem elem111 : elemT Try.prog 111 = none := by kernel_rfl
theorem arr111 : arrT Try.prog 111 = none := by kernel_rfl
theorem int111 : intT Try.prog 111 = none := by kernel_rfl
theorem zer111 : zerT Try.prog 111 = some [.nilFunc] := by kernel_rfl
theorem str111 : strT Try.prog 111 = false := by kernel_rfl
theorem agg112 : aggT Try.prog 112 = some false := by kernel_rfl
theorem siz112 : sizT Try.prog 112 = some 1 := by kernel_rfl
theorem byt112 : bytT Try.prog 112 = some 0 := by kernel_rfl
theorem elem112 : elemT Try.prog 112 = none := by kernel_rfl
theorem arr112 : arrT Try.prog 112 = none := by kernel_rfl
theorem int112 : intT Try.prog 112 = none := by kernel_rfl
theorem str112 : strT Try.prog 112 = false := by kernel_rfl
theorem agg113 : aggT Try.prog 113 = some false := by kernel_rfl
theorem siz113 : sizT Try.prog 113 = some 1 := by kernel_rfl
theorem byt113 : bytT Try.prog 113 = some 8 := by kernel_rfl
theorem elem113 : elemT Try.prog 113 = none := by kernel_rfl
theorem arr113 : arrT Try.prog 113 = none := by kernel_rfl
theorem int113 : intT Try.prog 113 = none := by kernel_rfl
theorem zer113 : zerT Try.prog 113 = some [.nilFunc] := by kernel_rfl
theorem str113 : strT Try.prog 113 = false := by kernel_rfl
theorem agg114 : aggT Try.prog 114 = some true := by kernel_rfl
theorem siz114 : sizT Try.prog 114 = some 3 := by kernel_rfl
theorem byt114 : bytT Try.prog 114 = some 24 := by kernel_rfl
theorem elem114 : elemT Try.prog 114 = none := by kernel_rfl
theorem arr114 : arrT Try.prog 114 = none := by kernel_rfl
theorem int114 : intT Try.prog 114 = none := by kernel_rfl
theorem zer114 : zerT Try.prog 114 = some [.int .i64 0, .int .i64 0, .int .i64 0] := by kernel_rfl
theorem kd114 : kdT Try.prog 60 114 = some [.int .i64, .int .i64, .int .i64] := by kernel_rfl
theorem eqg114 : Try.prog.eqGuardType (Try.prog.depth) 114 = false := by kernel_rfl
theorem szs114 : sizesOk Try.prog 114 = true := by kernel_rfl
theorem plc114_0 : placeT Try.prog 114 0 = some (0, 1) := by kernel_rfl
theorem plc114_1 : placeT Try.prog 114 1 = some (1, 1) := by kernel_rfl
theorem plc114_2 : placeT Try.prog 114 2 = some (2, 1) := by kernel_rfl
theorem str114 : strT Try.prog 114 = false := by kernel_rfl
theorem fld114_0 : fldT Try.prog 114 0 = some (0, 3) := by kernel_rfl
theorem fld114_1 : fldT Try.prog 114 1 = some (1, 80) := by kernel_rfl
theorem fld114_2 : fldT Try.prog 114 2 = some (2, 2) := by kernel_rfl
theorem agg115 : aggT Try.prog 115 = some true := by kernel_rfl
theorem siz115 : sizT Try.prog 115 = some 3 := by kernel_rfl
theorem byt115 : bytT Try.prog 115 = some 24 := by kernel_rfl
theorem elem115 : elemT Try.prog 115 = none := by kernel_rfl
theorem arr115 : arrT Try.prog 115 = none := by kernel_rfl
theorem int115 : intT Try.prog 115 = none := by kernel_rfl
theorem zer115 : zerT Try.prog 115 = some [.int .i64 0, .int .i64 0, .int .i64 0] := by kernel_rfl
theorem kd115 : kdT Try.prog 60 115 = some [.int .i64, .int .i64, .int .i64] := by kernel_rfl
theorem eqg115 : Try.prog.eqGuardType (Try.prog.depth) 115 = false := by kernel_rfl
theorem szs115 : sizesOk Try.prog 115 = true := by kernel_rfl
theorem plc115_0 : placeT Try.prog 115 0 = some (0, 1) := by kernel_rfl
theorem plc115_1 : placeT Try.prog 115 1 = some (1, 1) := by kernel_rfl
theorem plc115_2 : placeT Try.prog 115 2 = some (2, 1) := by kernel_rfl
theorem str115 : strT Try.prog 115 = false := by kernel_rfl
theorem fld115_0 : fldT Try.prog 115 0 = some (0, 3) := by kernel_rfl
theorem fld115_1 : fldT Try.prog 115 1 = some (1, 80) := by kernel_rfl
theorem fld115_2 : fldT Try.prog 115 2 = some (2, 2) := by kernel_rfl
theorem agg116 : aggT Try.prog 116 = some false := by kernel_rfl
theorem siz116 : sizT Try.prog 116 = some 1 := by kernel_rfl
theorem byt116 : bytT Try.prog 116 = some 8 := by kernel_rfl
theorem elem116 : elemT Try.prog 116 = none := by kernel_rfl
theorem arr116 : arrT Try.prog 116 = none := by kernel_rfl
theorem int116 : intT Try.prog 116 = none := by kernel_rfl
theorem zer116 : zerT Try.prog 116 = some [.nilFunc] := by kernel_rfl
theorem str116 : strT Try.prog 116 = false := by kernel_rfl
theorem agg117 : aggT Try.prog 117 = some false := by kernel_rfl
theorem siz117 : sizT Try.prog 117 = some 1 := by kernel_rfl
theorem byt117 : bytT Try.prog 117 = some 8 := by kernel_rfl
theorem elem117 : elemT Try.prog 117 = none := by kernel_rfl
theorem arr117 : arrT Try.prog 117 = none := by kernel_rfl
theorem int117 : intT Try.prog 117 = none := by kernel_rfl
theorem zer117 : zerT Try.prog 117 = some [.nilFunc] := by kernel_rfl
theorem str117 : strT Try.prog 117 = false := by kernel_rfl
theorem agg118 : aggT Try.prog 118 = some false := by kernel_rfl
theorem siz118 : sizT Try.prog 118 = some 1 := by kernel_rfl
theorem byt118 : bytT Try.prog 118 = some 8 := by kernel_rfl
theorem elem118 : elemT Try.prog 118 = none := by kernel_rfl
theorem arr118 : arrT Try.prog 118 = none := by kernel_rfl
theorem int118 : intT Try.prog 118 = none := by kernel_rfl
theorem zer118 : zerT Try.prog 118 = some [.nilFunc] := by kernel_rfl
theorem str118 : strT Try.prog 118 = false := by kernel_rfl
theorem agg119 : aggT Try.prog 119 = some false := by kernel_rfl
theorem siz119 : sizT Try.prog 119 = some 1 := by kernel_rfl
theorem byt119 : bytT Try.prog 119 = some 8 := by kernel_rfl
theorem elem119 : elemT Try.prog 119 = none := by kernel_rfl
theorem arr119 : arrT Try.prog 119 = none := by kernel_rfl
theorem int119 : intT Try.prog 119 = none := by kernel_rfl
theorem zer119 : zerT Try.prog 119 = some [.nilFunc] := by kernel_rfl
theorem str119 : strT Try.prog 119 = false := by kernel_rfl
theorem agg120 : aggT Try.prog 120 = some false := by kernel_rfl
theorem siz120 : sizT Try.prog 120 = some 1 := by kernel_rfl
theorem byt120 : bytT Try.prog 120 = some 8 := by kernel_rfl
theorem elem120 : elemT Try.prog 120 = none := by kernel_rfl
theorem arr120 : arrT Try.prog 120 = none := by kernel_rfl
theorem int120 : intT Try.prog 120 = none := by kernel_rfl
theorem zer120 : zerT Try.prog 120 = some [.nilFunc] := by kernel_rfl
theorem str120 : strT Try.prog 120 = false := by kernel_rfl
theorem agg121 : aggT Try.prog 121 = some false := by kernel_rfl
theorem siz121 : sizT Try.prog 121 = some 1 := by kernel_rfl
theorem byt121 : bytT Try.prog 121 = some 8 := by kernel_rfl
theorem elem121 : elemT Try.prog 121 = none := by kernel_rfl
theorem arr121 : arrT Try.prog 121 = none := by kernel_rfl
theorem int121 : intT Try.prog 121 = none := by kernel_rfl
theorem zer121 : zerT Try.prog 121 = some [.nilFunc] := by kernel_rfl
theorem str121 : strT Try.prog 121 = false := by kernel_rfl
theorem agg122 : aggT Try.prog 122 = some false := by kernel_rfl
theorem siz122 : sizT Try.prog 122 = some 1 := by kernel_rfl
theorem byt122 : bytT Try.prog 122 = some 8 := by kernel_rfl
theorem elem122 : elemT Try.prog 122 = none := by kernel_rfl
theorem arr122 : arrT Try.prog 122 = none := by kernel_rfl
theorem int122 : intT Try.prog 122 = none := by kernel_rfl
theorem zer122 : zerT Try.prog 122 = some [.nilFunc] := by kernel_rfl
theorem str122 : strT Try.prog 122 = false := by kernel_rfl
theorem agg123 : aggT Try.prog 123 = some true := by kernel_rfl
theorem siz123 : sizT Try.prog 123 = some 4 := by kernel_rfl
theorem byt123 : bytT Try.prog 123 = some 40 := by kernel_rfl
theorem elem123 : elemT Try.prog 123 = none := by kernel_rfl
theorem arr123 : arrT Try.prog 123 = none := by kernel_rfl
theorem int123 : intT Try.prog 123 = none := by kernel_rfl
theorem zer123 : zerT Try.prog 123 = some [.pointer none, .pointer none, .pointer none, .string ByteArray.empty] := by kernel_rfl
theorem eqg123 : Try.prog.eqGuardType (Try.prog.depth) 123 = false := by kernel_rfl
theorem szs123 : sizesOk Try.prog 123 = true := by kernel_rfl
theorem plc123_0 : placeT Try.prog 123 0 = some (0, 1) := by kernel_rfl
theorem plc123_1 : placeT Try.prog 123 1 = some (1, 1) := by kernel_rfl
theorem plc123_2 : placeT Try.prog 123 2 = some (2, 1) := by kernel_rfl
theorem plc123_3 : placeT Try.prog 123 3 = some (3, 1) := by kernel_rfl
theorem str123 : strT Try.prog 123 = false := by kernel_rfl
theorem fld123_0 : fldT Try.prog 123 0 = some (0, 17) := by kernel_rfl
theorem fld123_1 : fldT Try.prog 123 1 = some (1, 17) := by kernel_rfl
theorem fld123_2 : fldT Try.prog 123 2 = some (2, 17) := by kernel_rfl
theorem fld123_3 : fldT Try.prog 123 3 = some (3, 9) := by kernel_rfl
theorem agg124 : aggT Try.prog 124 = some true := by kernel_rfl
theorem siz124 : sizT Try.prog 124 = some 4 := by kernel_rfl
theorem byt124 : bytT Try.prog 124 = some 40 := by kernel_rfl
theorem elem124 : elemT Try.prog 124 = none := by kernel_rfl
theorem arr124 : arrT Try.prog 124 = none := by kernel_rfl
theorem int124 : intT Try.prog 124 = none := by kernel_rfl
theorem zer124 : zerT Try.prog 124 = some [.pointer none, .pointer none, .pointer none, .string ByteArray.empty] := by kernel_rfl
theorem eqg124 : Try.prog.eqGuardType (Try.prog.depth) 124 = false := by kernel_rfl
theorem szs124 : sizesOk Try.prog 124 = true := by kernel_rfl
theorem plc124_0 : placeT Try.prog 124 0 = some (0, 1) := by kernel_rfl
theorem plc124_1 : placeT Try.prog 124 1 = some (1, 1) := by kernel_rfl
theorem plc124_2 : placeT Try.prog 124 2 = some (2, 1) := by kernel_rfl
theorem plc124_3 : placeT Try.prog 124 3 = some (3, 1) := by kernel_rfl
theorem str124 : strT Try.prog 124 = false := by kernel_rfl
theorem fld124_0 : fldT Try.prog 124 0 = some (0, 17) := by kernel_rfl
theorem fld124_1 : fldT Try.prog 124 1 = some (1, 17) := by kernel_rfl
theorem fld124_2 : fldT Try.prog 124 2 = some (2, 17) := by kernel_rfl
theorem fld124_3 : fldT Try.prog 124 3 = some (3, 9) := by kernel_rfl
theorem agg125 : aggT Try.prog 125 = some true := by kernel_rfl
theorem siz125 : sizT Try.prog 125 = some 0 := by kernel_rfl
theorem byt125 : bytT Try.prog 125 = some 0 := by kernel_rfl
theorem elem125 : elemT Try.prog 125 = none := by kernel_rfl
theorem arr125 : arrT Try.prog 125 = some (0, 16) := by kernel_rfl
theorem int125 : intT Try.prog 125 = none := by kernel_rfl
theorem zer125 : zerT Try.prog 125 = some [] := by kernel_rfl
theorem eqg125 : Try.prog.eqGuardType (Try.prog.depth) 125 = false := by kernel_rfl
theorem szs125 : sizesOk Try.prog 125 = true := by kernel_rfl
theorem plc125_0 : placeT Try.prog 125 0 = some (0, 1) := by kernel_rfl
theorem plc125_1 : placeT Try.prog 125 1 = some (1, 1) := by kernel_rfl
theorem plc125_2 : placeT Try.prog 125 2 = some (2, 1) := by kernel_rfl
theorem plc125_3 : placeT Try.prog 125 3 = some (3, 1) := by kernel_rfl
theorem plc125_4 : placeT Try.prog 125 4 = some (4, 1) := by kernel_rfl
theorem plc125_5 : placeT Try.prog 125 5 = some (5, 1) := by kernel_rfl
theorem plc125_6 : placeT Try.prog 125 6 = some (6, 1) := by kernel_rfl
theorem plc125_7 : placeT Try.prog 125 7 = some (7, 1) := by kernel_rfl
theorem plc125_8 : placeT Try.prog 125 8 = some (8, 1) := by kernel_rfl
theorem plc125_9 : placeT Try.prog 125 9 = some (9, 1) := by kernel_rfl
theorem plc125_10 : placeT Try.prog 125 10 = some (10, 1) := by kernel_rfl
theorem plc125_11 : placeT Try.prog 125 11 = some (11, 1) := by kernel_rfl
theorem str125 : strT Try.prog 125 = false := by kernel_rfl
theorem agg126 : aggT Try.prog 126 = some true := by kernel_rfl
theorem siz126 : sizT Try.prog 126 = some 0 := by kernel_rfl
theorem byt126 : bytT Try.prog 126 = some 0 := by kernel_rfl
theorem elem126 : elemT Try.prog 126 = none := by kernel_rfl
theorem arr126 : arrT Try.prog 126 = none := by kernel_rfl
theorem int126 : intT Try.prog 126 = none := by kernel_rfl
theorem zer126 : zerT Try.prog 126 = some [] := by kernel_rfl
theorem eqg126 : Try.prog.eqGuardType (Try.prog.depth) 126 = false := by kernel_rfl
theorem szs126 : sizesOk Try.prog 126 = true := by kernel_rfl
theorem plc126_0 : placeT Try.prog 126 0 = some (0, 0) := by kernel_rfl
theorem str126 : strT Try.prog 126 = false := by kernel_rfl
theorem fld126_0 : fldT Try.prog 126 0 = some (0, 125) := by kernel_rfl
theorem agg127 : aggT Try.prog 127 = some true := by kernel_rfl
theorem siz127 : sizT Try.prog 127 = some 0 := by kernel_rfl
theorem byt127 : bytT Try.prog 127 = some 0 := by kernel_rfl
theorem elem127 : elemT Try.prog 127 = none := by kernel_rfl
theorem arr127 : arrT Try.prog 127 = none := by kernel_rfl
theorem int127 : intT Try.prog 127 = none := by kernel_rfl
theorem zer127 : zerT Try.prog 127 = some [] := by kernel_rfl
theorem eqg127 : Try.prog.eqGuardType (Try.prog.depth) 127 = false := by kernel_rfl
theorem szs127 : sizesOk Try.prog 127 = true := by kernel_rfl
theorem plc127_0 : placeT Try.prog 127 0 = some (0, 0) := by kernel_rfl
theorem str127 : strT Try.prog 127 = false := by kernel_rfl
theorem fld127_0 : fldT Try.prog 127 0 = some (0, 125) := by kernel_rfl
theorem agg128 : aggT Try.prog 128 = some false := by kernel_rfl
theorem siz128 : sizT Try.prog 128 = some 1 := by kernel_rfl
theorem byt128 : bytT Try.prog 128 = some 1 := by kernel_rfl
theorem elem128 : elemT Try.prog 128 = none := by kernel_rfl
theorem arr128 : arrT Try.prog 128 = none := by kernel_rfl
theorem int128 : intT Try.prog 128 = some .u8 := by kernel_rfl
theorem zer128 : zerT Try.prog 128 = some [.int .u8 0] := by kernel_rfl
theorem str128 : strT Try.prog 128 = false := by kernel_rfl
theorem agg129 : aggT Try.prog 129 = some false := by kernel_rfl
theorem siz129 : sizT Try.prog 129 = some 1 := by kernel_rfl
theorem byt129 : bytT Try.prog 129 = some 1 := by kernel_rfl
theorem elem129 : elemT Try.prog 129 = none := by kernel_rfl
theorem arr129 : arrT Try.prog 129 = none := by kernel_rfl
theorem int129 : intT Try.prog 129 = some .u8 := by kernel_rfl
theorem zer129 : zerT Try.prog 129 = some [.int .u8 0] := by kernel_rfl
theorem str129 : strT Try.prog 129 = false := by kernel_rfl
theorem agg130 : aggT Try.prog 130 = some false := by kernel_rfl
theorem siz130 : sizT Try.prog 130 = some 1 := by kernel_rfl
theorem byt130 : bytT Try.prog 130 = some 8 := by kernel_rfl
theorem elem130 : elemT Try.prog 130 = none := by kernel_rfl
theorem arr130 : arrT Try.prog 130 = none := by kernel_rfl
theorem int130 : intT Try.prog 130 = none := by kernel_rfl
theorem zer130 : zerT Try.prog 130 = some [.nilFunc] := by kernel_rfl
theorem str130 : strT Try.prog 130 = false := by kernel_rfl
theorem agg131 : aggT Try.prog 131 = some false := by kernel_rfl
theorem siz131 : sizT Try.prog 131 = some 1 := by kernel_rfl
theorem byt131 : bytT Try.prog 131 = some 8 := by kernel_rfl
theorem elem131 : elemT Try.prog 131 = none := by kernel_rfl
theorem arr131 : arrT Try.prog 131 = none := by kernel_rfl
theorem int131 : intT Try.prog 131 = none := by kernel_rfl
theorem zer131 : zerT Try.prog 131 = some [.pointer none] := by kernel_rfl
theorem str131 : strT Try.prog 131 = false := by kernel_rfl
theorem agg132 : aggT Try.prog 132 = some false := by kernel_rfl
theorem siz132 : sizT Try.prog 132 = some 1 := by kernel_rfl
theorem byt132 : bytT Try.prog 132 = some 4 := by kernel_rfl
theorem elem132 : elemT Try.prog 132 = none := by kernel_rfl
theorem arr132 : arrT Try.prog 132 = none := by kernel_rfl
theorem int132 : intT Try.prog 132 = some .i32 := by kernel_rfl
theorem zer132 : zerT Try.prog 132 = some [.int .i32 0] := by kernel_rfl
theorem str132 : strT Try.prog 132 = false := by kernel_rfl
theorem agg133 : aggT Try.prog 133 = some false := by kernel_rfl
theorem siz133 : sizT Try.prog 133 = some 1 := by kernel_rfl
theorem byt133 : bytT Try.prog 133 = some 4 := by kernel_rfl
theorem elem133 : elemT Try.prog 133 = none := by kernel_rfl
theorem arr133 : arrT Try.prog 133 = none := by kernel_rfl
theorem int133 : intT Try.prog 133 = some .i32 := by kernel_rfl
theorem zer133 : zerT Try.prog 133 = some [.int .i32 0] := by kernel_rfl
theorem str133 : strT Try.prog 133 = false := by kernel_rfl
theorem agg134 : aggT Try.prog 134 = some true := by kernel_rfl
theorem siz134 : sizT Try.prog 134 = some 11 := by kernel_rfl
theorem byt134 : bytT Try.prog 134 = some 48 := by kernel_rfl
theorem elem134 : elemT Try.prog 134 = none := by kernel_rfl
theorem arr134 : arrT Try.prog 134 = none := by kernel_rfl
theorem int134 : intT Try.prog 134 = none := by kernel_rfl
theorem zer134 : zerT Try.prog 134 = some [.int .u64 0, .int .u64 0, .int .u32 0, .int .u8 0, .int .u8 0, .int .u8 0, .int .u8 0, .nilFunc, .pointer none, .int .i32 0, .int .i32 0] := by kernel_rfl
theorem eqg134 : Try.prog.eqGuardType (Try.prog.depth) 134 = false := by kernel_rfl
theorem szs134 : sizesOk Try.prog 134 = true := by kernel_rfl
theorem plc134_0 : placeT Try.prog 134 0 = some (0, 1) := by kernel_rfl
theorem plc134_1 : placeT Try.prog 134 1 = some (1, 1) := by kernel_rfl
theorem plc134_2 : placeT Try.prog 134 2 = some (2, 1) := by kernel_rfl
theorem plc134_3 : placeT Try.prog 134 3 = some (3, 1) := by kernel_rfl
theorem plc134_4 : placeT Try.prog 134 4 = some (4, 1) := by kernel_rfl
theorem plc134_5 : placeT Try.prog 134 5 = some (5, 1) := by kernel_rfl
theorem plc134_6 : placeT Try.prog 134 6 = some (6, 1) := by kernel_rfl
theorem plc134_7 : placeT Try.prog 134 7 = some (7, 1) := by kernel_rfl
theorem plc134_8 : placeT Try.prog 134 8 = some (8, 1) := by kernel_rfl
theorem plc134_9 : placeT Try.prog 134 9 = some (9, 1) := by kernel_rfl
theorem plc134_10 : placeT Try.prog 134 10 = some (10, 1) := by kernel_rfl
theorem str134 : strT Try.prog 134 = false := by kernel_rfl
theorem fld134_0 : fldT Try.prog 134 0 = some (0, 12) := by kernel_rfl
theorem fld134_1 : fldT Try.prog 134 1 = some (1, 12) := by kernel_rfl
theorem fld134_2 : fldT Try.prog 134 2 = some (2, 36) := by kernel_rfl
theorem fld134_3 : fldT Try.prog 134 3 = some (3, 128) := by kernel_rfl
theorem fld134_4 : fldT Try.prog 134 4 = some (4, 5) := by kernel_rfl
theorem fld134_5 : fldT Try.prog 134 5 = some (5, 5) := by kernel_rfl
theorem fld134_6 : fldT Try.prog 134 6 = some (6, 129) := by kernel_rfl
theorem fld134_7 : fldT Try.prog 134 7 = some (7, 130) := by kernel_rfl
theorem fld134_8 : fldT Try.prog 134 8 = some (8, 131) := by kernel_rfl
theorem fld134_9 : fldT Try.prog 134 9 = some (9, 132) := by kernel_rfl
theorem fld134_10 : fldT Try.prog 134 10 = some (10, 133) := by kernel_rfl
theorem agg135 : aggT Try.prog 135 = some true := by kernel_rfl
theorem siz135 : sizT Try.prog 135 = some 11 := by kernel_rfl
theorem byt135 : bytT Try.prog 135 = some 48 := by kernel_rfl
theorem elem135 : elemT Try.prog 135 = none := by kernel_rfl
theorem arr135 : arrT Try.prog 135 = none := by kernel_rfl
theorem int135 : intT Try.prog 135 = none := by kernel_rfl
theorem zer135 : zerT Try.prog 135 = some [.int .u64 0, .int .u64 0, .int .u32 0, .int .u8 0, .int .u8 0, .int .u8 0, .int .u8 0, .nilFunc, .pointer none, .int .i32 0, .int .i32 0] := by kernel_rfl
theorem eqg135 : Try.prog.eqGuardType (Try.prog.depth) 135 = false := by kernel_rfl
theorem szs135 : sizesOk Try.prog 135 = true := by kernel_rfl
theorem plc135_0 : placeT Try.prog 135 0 = some (0, 1) := by kernel_rfl
theorem plc135_1 : placeT Try.prog 135 1 = some (1, 1) := by kernel_rfl
theorem plc135_2 : placeT Try.prog 135 2 = some (2, 1) := by kernel_rfl
theorem plc135_3 : placeT Try.prog 135 3 = some (3, 1) := by kernel_rfl
theorem plc135_4 : placeT Try.prog 135 4 = some (4, 1) := by kernel_rfl
theorem plc135_5 : placeT Try.prog 135 5 = some (5, 1) := by kernel_rfl
theorem plc135_6 : placeT Try.prog 135 6 = some (6, 1) := by kernel_rfl
theorem plc135_7 : placeT Try.prog 135 7 = some (7, 1) := by kernel_rfl
theorem plc135_8 : placeT Try.prog 135 8 = some (8, 1) := by kernel_rfl
theorem plc135_9 : placeT Try.prog 135 9 = some (9, 1) := by kernel_rfl
theorem plc135_10 : placeT Try.prog 135 10 = some (10, 1) := by kernel_rfl
theorem str135 : strT Try.prog 135 = false := by kernel_rfl
theorem fld135_0 : fldT Try.prog 135 0 = some (0, 12) := by kernel_rfl
theorem fld135_1 : fldT Try.prog 135 1 = some (1, 12) := by kernel_rfl
theorem fld135_2 : fldT Try.prog 135 2 = some (2, 36) := by kernel_rfl
theorem fld135_3 : fldT Try.prog 135 3 = some (3, 128) := by kernel_rfl
theorem fld135_4 : fldT Try.prog 135 4 = some (4, 5) := by kernel_rfl
theorem fld135_5 : fldT Try.prog 135 5 = some (5, 5) := by kernel_rfl
theorem fld135_6 : fldT Try.prog 135 6 = some (6, 129) := by kernel_rfl
theorem fld135_7 : fldT Try.prog 135 7 = some (7, 130) := by kernel_rfl
theorem fld135_8 : fldT Try.prog 135 8 = some (8, 131) := by kernel_rfl
theorem fld135_9 : fldT Try.prog 135 9 = some (9, 132) := by kernel_rfl
theorem fld135_10 : fldT Try.prog 135 10 = some (10, 133) := by kernel_rfl
theorem agg136 : aggT Try.prog 136 = some false := by kernel_rfl
theorem siz136 : sizT Try.prog 136 = some 1 := by kernel_rfl
theorem byt136 : bytT Try.prog 136 = some 8 := by kernel_rfl
theorem elem136 : elemT Try.prog 136 = none := by kernel_rfl
theorem arr136 : arrT Try.prog 136 = none := by kernel_rfl
theorem int136 : intT Try.prog 136 = none := by kernel_rfl
theorem zer136 : zerT Try.prog 136 = some [.nilFunc] := by kernel_rfl
theorem str136 : strT Try.prog 136 = false := by kernel_rfl
theorem agg137 : aggT Try.prog 137 = some false := by kernel_rfl
theorem siz137 : sizT Try.prog 137 = some 1 := by kernel_rfl
theorem byt137 : bytT Try.prog 137 = some 8 := by kernel_rfl
theorem elem137 : elemT Try.prog 137 = none := by kernel_rfl
theorem arr137 : arrT Try.prog 137 = none := by kernel_rfl
theorem int137 : intT Try.prog 137 = none := by kernel_rfl
theorem zer137 : zerT Try.prog 137 = some [.pointer none] := by kernel_rfl
theorem str137 : strT Try.prog 137 = false := by kernel_rfl
theorem und0 : (Try.prog.underlying 0).isSome = true := by kernel_rfl
theorem und1 : (Try.prog.underlying 1).isSome = true := by kernel_rfl
theorem und2 : (Try.prog.underlying 2).isSome = true := by kernel_rfl
theorem und3 : (Try.prog.underlying 3).isSome = true := by kernel_rfl
theorem und4 : (Try.prog.underlying 4).isSome = true := by kernel_rfl
theorem und5 : (Try.prog.underlying 5).isSome = true := by kernel_rfl
theorem und6 : (Try.prog.underlying 6).isSome = true := by kernel_rfl
theorem und7 : (Try.prog.underlying 7).isSome = true := by kernel_rfl
theorem und8 : (Try.prog.underlying 8).isSome = true := by kernel_rfl
theorem und9 : (Try.prog.underlying 9).isSome = true := by kernel_rfl
theorem und10 : (Try.prog.underlying 10).isSome = true := by kernel_rfl
theorem und11 : (Try.prog.underlying 11).isSome = true := by kernel_rfl
theorem und12 : (Try.prog.underlying 12).isSome = true := by kernel_rfl
theorem und13 : (Try.prog.underlying 13).isSome = true := by kernel_rfl
theorem und14 : (Try.prog.underlying 14).isSome = true := by kernel_rfl
theorem und15 : (Try.prog.underlying 15).isSome = true := by kernel_rfl
theorem und16 : (Try.prog.underlying 16).isSome = true := by kernel_rfl
theorem und17 : (Try.prog.underlying 17).isSome = true := by kernel_rfl
theorem und18 : (Try.prog.underlying 18).isSome = true := by kernel_rfl
theorem und19 : (Try.prog.underlying 19).isSome = true := by kernel_rfl
theorem und20 : (Try.prog.underlying 20).isSome = true := by kernel_rfl
theorem und21 : (Try.prog.underlying 21).isSome = true := by kernel_rfl
theorem und22 : (Try.prog.underlying 22).isSome = true := by kernel_rfl
theorem und23 : (Try.prog.underlying 23).isSome = true := by kernel_rfl
theorem und24 : (Try.prog.underlying 24).isSome = true := by kernel_rfl
theorem und25 : (Try.prog.underlying 25).isSome = true := by kernel_rfl
theorem und26 : (Try.prog.underlying 26).isSome = true := by kernel_rfl
theorem und27 : (Try.prog.underlying 27).isSome = true := by kernel_rfl
theorem und28 : (Try.prog.underlying 28).isSome = true := by kernel_rfl
theorem und29 : (Try.prog.underlying 29).isSome = true := by kernel_rfl
theorem und30 : (Try.prog.underlying 30).isSome = true := by kernel_rfl
theorem und31 : (Try.prog.underlying 31).isSome = true := by kernel_rfl
theorem und32 : (Try.prog.underlying 32).isSome = true := by kernel_rfl
theorem und33 : (Try.prog.underlying 33).isSome = true := by kernel_rfl
theorem und34 : (Try.prog.underlying 34).isSome = true := by kernel_rfl
theorem und35 : (Try.prog.underlying 35).isSome = true := by kernel_rfl
theorem und36 : (Try.prog.underlying 36).isSome = true := by kernel_rfl
theorem und37 : (Try.prog.underlying 37).isSome = true := by kernel_rfl
theorem und38 : (Try.prog.underlying 38).isSome = true := by kernel_rfl
theorem und39 : (Try.prog.underlying 39).isSome = true := by kernel_rfl
theorem und40 : (Try.prog.underlying 40).isSome = true := by kernel_rfl
theorem und41 : (Try.prog.underlying 41).isSome = true := by kernel_rfl
theorem und42 : (Try.prog.underlying 42).isSome = true := by kernel_rfl
theorem und43 : (Try.prog.underlying 43).isSome = true := by kernel_rfl
theorem und44 : (Try.prog.underlying 44).isSome = true := by kernel_rfl
theorem und45 : (Try.prog.underlying 45).isSome = true := by kernel_rfl
theorem und46 : (Try.prog.underlying 46).isSome = true := by kernel_rfl
theorem und47 : (Try.prog.underlying 47).isSome = true := by kernel_rfl
theorem und48 : (Try.prog.underlying 48).isSome = true := by kernel_rfl
theorem und49 : (Try.prog.underlying 49).isSome = true := by kernel_rfl
theorem und50 : (Try.prog.underlying 50).isSome = true := by kernel_rfl
theorem und51 : (Try.prog.underlying 51).isSome = true := by kernel_rfl
theorem und52 : (Try.prog.underlying 52).isSome = true := by kernel_rfl
theorem und53 : (Try.prog.underlying 53).isSome = true := by kernel_rfl
theorem und54 : (Try.prog.underlying 54).isSome = true := by kernel_rfl
theorem und55 : (Try.prog.underlying 55).isSome = true := by kernel_rfl
theorem und56 : (Try.prog.underlying 56).isSome = true := by kernel_rfl
theorem und57 : (Try.prog.underlying 57).isSome = true := by kernel_rfl
theorem und58 : (Try.prog.underlying 58).isSome = true := by kernel_rfl
theorem und59 : (Try.prog.underlying 59).isSome = true := by kernel_rfl
theorem und60 : (Try.prog.underlying 60).isSome = true := by kernel_rfl
theorem und61 : (Try.prog.underlying 61).isSome = true := by kernel_rfl
theorem und62 : (Try.prog.underlying 62).isSome = true := by kernel_rfl
theorem und63 : (Try.prog.underlying 63).isSome = true := by kernel_rfl
theorem und64 : (Try.prog.underlying 64).isSome = true := by kernel_rfl
theorem und65 : (Try.prog.underlying 65).isSome = true := by kernel_rfl
theorem und66 : (Try.prog.underlying 66).isSome = true := by kernel_rfl
theorem und67 : (Try.prog.underlying 67).isSome = true := by kernel_rfl
theorem und68 : (Try.prog.underlying 68).isSome = true := by kernel_rfl
theorem und69 : (Try.prog.underlying 69).isSome = true := by kernel_rfl
theorem und70 : (Try.prog.underlying 70).isSome = true := by kernel_rfl
theorem und71 : (Try.prog.underlying 71).isSome = true := by kernel_rfl
theorem und72 : (Try.prog.underlying 72).isSome = true := by kernel_rfl
theorem und73 : (Try.prog.underlying 73).isSome = true := by kernel_rfl
theorem und74 : (Try.prog.underlying 74).isSome = true := by kernel_rfl
theorem und75 : (Try.prog.underlying 75).isSome = true := by kernel_rfl
theorem und76 : (Try.prog.underlying 76).isSome = true := by kernel_rfl
theorem und77 : (Try.prog.underlying 77).isSome = true := by kernel_rfl
theorem und78 : (Try.prog.underlying 78).isSome = true := by kernel_rfl
theorem und79 : (Try.prog.underlying 79).isSome = true := by kernel_rfl
theorem und80 : (Try.prog.underlying 80).isSome = true := by kernel_rfl
theorem und81 : (Try.prog.underlying 81).isSome = true := by kernel_rfl
theorem und82 : (Try.prog.underlying 82).isSome = true := by kernel_rfl
theorem und83 : (Try.prog.underlying 83).isSome = true := by kernel_rfl
theorem und84 : (Try.prog.underlying 84).isSome = true := by kernel_rfl
theorem und85 : (Try.prog.underlying 85).isSome = true := by kernel_rfl
theorem und86 : (Try.prog.underlying 86).isSome = true := by kernel_rfl
theorem und87 : (Try.prog.underlying 87).isSome = true := by kernel_rfl
theorem und88 : (Try.prog.underlying 88).isSome = true := by kernel_rfl
theorem und89 : (Try.prog.underlying 89).isSome = true := by kernel_rfl
theorem und90 : (Try.prog.underlying 90).isSome = true := by kernel_rfl
theorem und91 : (Try.prog.underlying 91).isSome = true := by kernel_rfl
theorem und92 : (Try.prog.underlying 92).isSome = true := by kernel_rfl
theorem und93 : (Try.prog.underlying 93).isSome = true := by kernel_rfl
theorem und94 : (Try.prog.underlying 94).isSome = true := by kernel_rfl
theorem und95 : (Try.prog.underlying 95).isSome = true := by kernel_rfl
theorem und96 : (Try.prog.underlying 96).isSome = true := by kernel_rfl
theorem und97 : (Try.prog.underlying 97).isSome = true := by kernel_rfl
theorem und98 : (Try.prog.underlying 98).isSome = true := by kernel_rfl
theorem und99 : (Try.prog.underlying 99).isSome = true := by kernel_rfl
theorem und100 : (Try.prog.underlying 100).isSome = true := by kernel_rfl
theorem und101 : (Try.prog.underlying 101).isSome = true := by kernel_rfl
theorem und102 : (Try.prog.underlying 102).isSome = true := by kernel_rfl
theorem und103 : (Try.prog.underlying 103).isSome = true := by kernel_rfl
theorem und104 : (Try.prog.underlying 104).isSome = true := by kernel_rfl
theorem und105 : (Try.prog.underlying 105).isSome = true := by kernel_rfl
theorem und106 : (Try.prog.underlying 106).isSome = true := by kernel_rfl
theorem und107 : (Try.prog.underlying 107).isSome = true := by kernel_rfl
theorem und108 : (Try.prog.underlying 108).isSome = true := by kernel_rfl
theorem und109 : (Try.prog.underlying 109).isSome = true := by kernel_rfl
theorem und110 : (Try.prog.underlying 110).isSome = true := by kernel_rfl
theorem und111 : (Try.prog.underlying 111).isSome = true := by kernel_rfl
theorem und112 : (Try.prog.underlying 112).isSome = true := by kernel_rfl
theorem und113 : (Try.prog.underlying 113).isSome = true := by kernel_rfl
theorem und114 : (Try.prog.underlying 114).isSome = true := by kernel_rfl
theorem und115 : (Try.prog.underlying 115).isSome = true := by kernel_rfl
theorem und116 : (Try.prog.underlying 116).isSome = true := by kernel_rfl
theorem und117 : (Try.prog.underlying 117).isSome = true := by kernel_rfl
theorem und118 : (Try.prog.underlying 118).isSome = true := by kernel_rfl
theorem und119 : (Try.prog.underlying 119).isSome = true := by kernel_rfl
theorem und120 : (Try.prog.underlying 120).isSome = true := by kernel_rfl
theorem und121 : (Try.prog.underlying 121).isSome = true := by kernel_rfl
theorem und122 : (Try.prog.underlying 122).isSome = true := by kernel_rfl
theorem und123 : (Try.prog.underlying 123).isSome = true := by kernel_rfl
theorem und124 : (Try.prog.underlying 124).isSome = true := by kernel_rfl
theorem und125 : (Try.prog.underlying 125).isSome = true := by kernel_rfl
theorem und126 : (Try.prog.underlying 126).isSome = true := by kernel_rfl
theorem und127 : (Try.prog.underlying 127).isSome = true := by kernel_rfl
theorem und128 : (Try.prog.underlying 128).isSome = true := by kernel_rfl
theorem und129 : (Try.prog.underlying 129).isSome = true := by kernel_rfl
theorem und130 : (Try.prog.underlying 130).isSome = true := by kernel_rfl
theorem und131 : (Try.prog.underlying 131).isSome = true := by kernel_rfl
theorem und132 : (Try.prog.underlying 132).isSome = true := by kernel_rfl
theorem und133 : (Try.prog.underlying 133).isSome = true := by kernel_rfl
theorem und134 : (Try.prog.underlying 134).isSome = true := by kernel_rfl
theorem und135 : (Try.prog.underlying 135).isSome = true := by kernel_rfl
theorem und136 : (Try.prog.underlying 136).isSome = true := by kernel_rfl
theorem und137 : (Try.prog.underlying 137).isSome = true := by kernel_rfl
theorem t0 : (aggT Try.prog 0 = some false) ∧ (sizT Try.prog 0 = some 1) ∧ (bytT Try.prog 0 = some 0) ∧ (elemT Try.prog 0 = none) ∧ (arrT Try.prog 0 = none) ∧ (intT Try.prog 0 = none) ∧ (strT Try.prog 0 = false) ∧ ((Try.prog.underlying 0).isSome = true) := ⟨agg0, siz0, byt0, elem0, arr0, int0, str0, und0⟩
theorem t1 : (aggT Try.prog 1 = some false) ∧ (sizT Try.prog 1 = some 1) ∧ (bytT Try.prog 1 = some 8) ∧ (elemT Try.prog 1 = none) ∧ (arrT Try.prog 1 = none) ∧ (intT Try.prog 1 = none) ∧ (zerT Try.prog 1 = some [.nilFunc]) ∧ (strT Try.prog 1 = false) ∧ ((Try.prog.underlying 1).isSome = true) := ⟨agg1, siz1, byt1, elem1, arr1, int1, zer1, str1, und1⟩
theorem t2 : (aggT Try.prog 2 = some false) ∧ (sizT Try.prog 2 = some 1) ∧ (bytT Try.prog 2 = some 8) ∧ (elemT Try.prog 2 = none) ∧ (arrT Try.prog 2 = none) ∧ (intT Try.prog 2 = some .i64) ∧ (zerT Try.prog 2 = some [.int .i64 0]) ∧ (strT Try.prog 2 = false) ∧ ((Try.prog.underlying 2).isSome = true) := ⟨agg2, siz2, byt2, elem2, arr2, int2, zer2, str2, und2⟩
theorem t3 : (aggT Try.prog 3 = some false) ∧ (sizT Try.prog 3 = some 1) ∧ (bytT Try.prog 3 = some 8) ∧ (elemT Try.prog 3 = none) ∧ (arrT Try.prog 3 = none) ∧ (intT Try.prog 3 = some .i64) ∧ (zerT Try.prog 3 = some [.int .i64 0]) ∧ (strT Try.prog 3 = false) ∧ ((Try.prog.underlying 3).isSome = true) := ⟨agg3, siz3, byt3, elem3, arr3, int3, zer3, str3, und3⟩
theorem t4 : (aggT Try.prog 4 = some false) ∧ (sizT Try.prog 4 = some 1) ∧ (bytT Try.prog 4 = some 1) ∧ (elemT Try.prog 4 = none) ∧ (arrT Try.prog 4 = none) ∧ (intT Try.prog 4 = none) ∧ (zerT Try.prog 4 = some [.bool false]) ∧ (strT Try.prog 4 = false) ∧ ((Try.prog.underlying 4).isSome = true) := ⟨agg4, siz4, byt4, elem4, arr4, int4, zer4, str4, und4⟩
theorem t5 : (aggT Try.prog 5 = some false) ∧ (sizT Try.prog 5 = some 1) ∧ (bytT Try.prog 5 = some 1) ∧ (elemT Try.prog 5 = none) ∧ (arrT Try.prog 5 = none) ∧ (intT Try.prog 5 = some .u8) ∧ (zerT Try.prog 5 = some [.int .u8 0]) ∧ (strT Try.prog 5 = false) ∧ ((Try.prog.underlying 5).isSome = true) := ⟨agg5, siz5, byt5, elem5, arr5, int5, zer5, str5, und5⟩
theorem t6 : (aggT Try.prog 6 = some false) ∧ (sizT Try.prog 6 = some 1) ∧ (bytT Try.prog 6 = some 1) ∧ (elemT Try.prog 6 = none) ∧ (arrT Try.prog 6 = none) ∧ (intT Try.prog 6 = some .u8) ∧ (zerT Try.prog 6 = some [.int .u8 0]) ∧ (strT Try.prog 6 = false) ∧ ((Try.prog.underlying 6).isSome = true) := ⟨agg6, siz6, byt6, elem6, arr6, int6, zer6, str6, und6⟩
theorem t7 : (aggT Try.prog 7 = some true) ∧ (sizT Try.prog 7 = some 4) ∧ (bytT Try.prog 7 = some 24) ∧ (elemT Try.prog 7 = none) ∧ (arrT Try.prog 7 = none) ∧ (intT Try.prog 7 = none) ∧ (zerT Try.prog 7 = some [.int .i64 0, .int .i64 0, .bool false, .int .u8 0]) ∧ (kdT Try.prog 60 7 = some [.int .i64, .int .i64, .bool, .int .u8]) ∧ (Try.prog.eqGuardType (Try.prog.depth) 7 = false) ∧ (sizesOk Try.prog 7 = true) ∧ (placeT Try.prog 7 0 = some (0, 1)) ∧ (placeT Try.prog 7 1 = some (1, 1)) ∧ (placeT Try.prog 7 2 = some (2, 1)) ∧ (placeT Try.prog 7 3 = some (3, 1)) ∧ (strT Try.prog 7 = false) ∧ (fldT Try.prog 7 0 = some (0, 2)) ∧ (fldT Try.prog 7 1 = some (1, 3)) ∧ (fldT Try.prog 7 2 = some (2, 4)) ∧ (fldT Try.prog 7 3 = some (3, 6)) ∧ ((Try.prog.underlying 7).isSome = true) := ⟨agg7, siz7, byt7, elem7, arr7, int7, zer7, kd7, eqg7, szs7, plc7_0, plc7_1, plc7_2, plc7_3, str7, fld7_0, fld7_1, fld7_2, fld7_3, und7⟩
theorem t8 : (aggT Try.prog 8 = some true) ∧ (sizT Try.prog 8 = some 4) ∧ (bytT Try.prog 8 = some 24) ∧ (elemT Try.prog 8 = none) ∧ (arrT Try.prog 8 = none) ∧ (intT Try.prog 8 = none) ∧ (zerT Try.prog 8 = some [.int .i64 0, .int .i64 0, .bool false, .int .u8 0]) ∧ (kdT Try.prog 60 8 = some [.int .i64, .int .i64, .bool, .int .u8]) ∧ (Try.prog.eqGuardType (Try.prog.depth) 8 = false) ∧ (sizesOk Try.prog 8 = true) ∧ (placeT Try.prog 8 0 = some (0, 1)) ∧ (placeT Try.prog 8 1 = some (1, 1)) ∧ (placeT Try.prog 8 2 = some (2, 1)) ∧ (placeT Try.prog 8 3 = some (3, 1)) ∧ (strT Try.prog 8 = false) ∧ (fldT Try.prog 8 0 = some (0, 2)) ∧ (fldT Try.prog 8 1 = some (1, 3)) ∧ (fldT Try.prog 8 2 = some (2, 4)) ∧ (fldT Try.prog 8 3 = some (3, 6)) ∧ ((Try.prog.underlying 8).isSome = true) := ⟨agg8, siz8, byt8, elem8, arr8, int8, zer8, kd8, eqg8, szs8, plc8_0, plc8_1, plc8_2, plc8_3, str8, fld8_0, fld8_1, fld8_2, fld8_3, und8⟩
theorem t9 : (aggT Try.prog 9 = some false) ∧ (sizT Try.prog 9 = some 1) ∧ (bytT Try.prog 9 = some 16) ∧ (elemT Try.prog 9 = none) ∧ (arrT Try.prog 9 = none) ∧ (intT Try.prog 9 = none) ∧ (zerT Try.prog 9 = some [.string ByteArray.empty]) ∧ (strT Try.prog 9 = true) ∧ ((Try.prog.underlying 9).isSome = true) := ⟨agg9, siz9, byt9, elem9, arr9, int9, zer9, str9, und9⟩
theorem t10 : (aggT Try.prog 10 = some false) ∧ (sizT Try.prog 10 = some 1) ∧ (bytT Try.prog 10 = some 16) ∧ (elemT Try.prog 10 = none) ∧ (arrT Try.prog 10 = none) ∧ (intT Try.prog 10 = none) ∧ (zerT Try.prog 10 = some [.string ByteArray.empty]) ∧ (strT Try.prog 10 = true) ∧ ((Try.prog.underlying 10).isSome = true) := ⟨agg10, siz10, byt10, elem10, arr10, int10, zer10, str10, und10⟩
theorem t11 : (aggT Try.prog 11 = some false) ∧ (sizT Try.prog 11 = some 1) ∧ (bytT Try.prog 11 = some 16) ∧ (elemT Try.prog 11 = none) ∧ (arrT Try.prog 11 = none) ∧ (intT Try.prog 11 = none) ∧ (zerT Try.prog 11 = some [.string ByteArray.empty]) ∧ (strT Try.prog 11 = true) ∧ ((Try.prog.underlying 11).isSome = true) := ⟨agg11, siz11, byt11, elem11, arr11, int11, zer11, str11, und11⟩
theorem t12 : (aggT Try.prog 12 = some false) ∧ (sizT Try.prog 12 = some 1) ∧ (bytT Try.prog 12 = some 8) ∧ (elemT Try.prog 12 = none) ∧ (arrT Try.prog 12 = none) ∧ (intT Try.prog 12 = some .u64) ∧ (zerT Try.prog 12 = some [.int .u64 0]) ∧ (strT Try.prog 12 = false) ∧ ((Try.prog.underlying 12).isSome = true) := ⟨agg12, siz12, byt12, elem12, arr12, int12, zer12, str12, und12⟩
theorem t13 : (aggT Try.prog 13 = some true) ∧ (sizT Try.prog 13 = some 2) ∧ (bytT Try.prog 13 = some 24) ∧ (elemT Try.prog 13 = none) ∧ (arrT Try.prog 13 = none) ∧ (intT Try.prog 13 = none) ∧ (zerT Try.prog 13 = some [.string ByteArray.empty, .int .u64 0]) ∧ (Try.prog.eqGuardType (Try.prog.depth) 13 = false) ∧ (sizesOk Try.prog 13 = true) ∧ (placeT Try.prog 13 0 = some (0, 1)) ∧ (placeT Try.prog 13 1 = some (1, 1)) ∧ (strT Try.prog 13 = false) ∧ (fldT Try.prog 13 0 = some (0, 9)) ∧ (fldT Try.prog 13 1 = some (1, 12)) ∧ ((Try.prog.underlying 13).isSome = true) := ⟨agg13, siz13, byt13, elem13, arr13, int13, zer13, eqg13, szs13, plc13_0, plc13_1, str13, fld13_0, fld13_1, und13⟩
theorem t14 : (aggT Try.prog 14 = some true) ∧ (sizT Try.prog 14 = some 2) ∧ (bytT Try.prog 14 = some 24) ∧ (elemT Try.prog 14 = none) ∧ (arrT Try.prog 14 = none) ∧ (intT Try.prog 14 = none) ∧ (zerT Try.prog 14 = some [.string ByteArray.empty, .int .u64 0]) ∧ (Try.prog.eqGuardType (Try.prog.depth) 14 = false) ∧ (sizesOk Try.prog 14 = true) ∧ (placeT Try.prog 14 0 = some (0, 1)) ∧ (placeT Try.prog 14 1 = some (1, 1)) ∧ (strT Try.prog 14 = false) ∧ (fldT Try.prog 14 0 = some (0, 9)) ∧ (fldT Try.prog 14 1 = some (1, 12)) ∧ ((Try.prog.underlying 14).isSome = true) := ⟨agg14, siz14, byt14, elem14, arr14, int14, zer14, eqg14, szs14, plc14_0, plc14_1, str14, fld14_0, fld14_1, und14⟩
theorem t15 : (aggT Try.prog 15 = some false) ∧ (sizT Try.prog 15 = some 1) ∧ (bytT Try.prog 15 = some 8) ∧ (elemT Try.prog 15 = none) ∧ (arrT Try.prog 15 = none) ∧ (intT Try.prog 15 = none) ∧ (zerT Try.prog 15 = some [.pointer none]) ∧ (strT Try.prog 15 = false) ∧ ((Try.prog.underlying 15).isSome = true) := ⟨agg15, siz15, byt15, elem15, arr15, int15, zer15, str15, und15⟩
theorem t16 : (aggT Try.prog 16 = some false) ∧ (sizT Try.prog 16 = some 1) ∧ (bytT Try.prog 16 = some 8) ∧ (elemT Try.prog 16 = none) ∧ (arrT Try.prog 16 = none) ∧ (intT Try.prog 16 = none) ∧ (zerT Try.prog 16 = some [.pointer none]) ∧ (strT Try.prog 16 = false) ∧ ((Try.prog.underlying 16).isSome = true) := ⟨agg16, siz16, byt16, elem16, arr16, int16, zer16, str16, und16⟩
theorem t17 : (aggT Try.prog 17 = some false) ∧ (sizT Try.prog 17 = some 1) ∧ (bytT Try.prog 17 = some 8) ∧ (elemT Try.prog 17 = none) ∧ (arrT Try.prog 17 = none) ∧ (intT Try.prog 17 = none) ∧ (zerT Try.prog 17 = some [.pointer none]) ∧ (strT Try.prog 17 = false) ∧ ((Try.prog.underlying 17).isSome = true) := ⟨agg17, siz17, byt17, elem17, arr17, int17, zer17, str17, und17⟩
theorem t18 : (aggT Try.prog 18 = some true) ∧ (sizT Try.prog 18 = some 1) ∧ (bytT Try.prog 18 = some 8) ∧ (elemT Try.prog 18 = none) ∧ (arrT Try.prog 18 = none) ∧ (intT Try.prog 18 = none) ∧ (zerT Try.prog 18 = some [.pointer none]) ∧ (Try.prog.eqGuardType (Try.prog.depth) 18 = false) ∧ (sizesOk Try.prog 18 = true) ∧ (placeT Try.prog 18 0 = some (0, 1)) ∧ (strT Try.prog 18 = false) ∧ (fldT Try.prog 18 0 = some (0, 17)) ∧ ((Try.prog.underlying 18).isSome = true) := ⟨agg18, siz18, byt18, elem18, arr18, int18, zer18, eqg18, szs18, plc18_0, str18, fld18_0, und18⟩
theorem t19 : (aggT Try.prog 19 = some true) ∧ (sizT Try.prog 19 = some 1) ∧ (bytT Try.prog 19 = some 8) ∧ (elemT Try.prog 19 = none) ∧ (arrT Try.prog 19 = none) ∧ (intT Try.prog 19 = none) ∧ (zerT Try.prog 19 = some [.pointer none]) ∧ (Try.prog.eqGuardType (Try.prog.depth) 19 = false) ∧ (sizesOk Try.prog 19 = true) ∧ (placeT Try.prog 19 0 = some (0, 1)) ∧ (strT Try.prog 19 = false) ∧ (fldT Try.prog 19 0 = some (0, 17)) ∧ ((Try.prog.underlying 19).isSome = true) := ⟨agg19, siz19, byt19, elem19, arr19, int19, zer19, eqg19, szs19, plc19_0, str19, fld19_0, und19⟩
theorem t20 : (aggT Try.prog 20 = some false) ∧ (sizT Try.prog 20 = some 1) ∧ (bytT Try.prog 20 = some 16) ∧ (elemT Try.prog 20 = none) ∧ (arrT Try.prog 20 = none) ∧ (intT Try.prog 20 = none) ∧ (zerT Try.prog 20 = some [.nilIface]) ∧ (strT Try.prog 20 = false) ∧ ((Try.prog.underlying 20).isSome = true) := ⟨agg20, siz20, byt20, elem20, arr20, int20, zer20, str20, und20⟩
theorem t21 : (aggT Try.prog 21 = some false) ∧ (sizT Try.prog 21 = some 1) ∧ (bytT Try.prog 21 = some 4) ∧ (elemT Try.prog 21 = none) ∧ (arrT Try.prog 21 = none) ∧ (intT Try.prog 21 = some .i32) ∧ (zerT Try.prog 21 = some [.int .i32 0]) ∧ (strT Try.prog 21 = false) ∧ ((Try.prog.underlying 21).isSome = true) := ⟨agg21, siz21, byt21, elem21, arr21, int21, zer21, str21, und21⟩
theorem t22 : (aggT Try.prog 22 = some false) ∧ (sizT Try.prog 22 = some 1) ∧ (bytT Try.prog 22 = some 24) ∧ (elemT Try.prog 22 = some 33) ∧ (arrT Try.prog 22 = none) ∧ (intT Try.prog 22 = none) ∧ (zerT Try.prog 22 = some [.slice none 0 0]) ∧ (strT Try.prog 22 = false) ∧ ((Try.prog.underlying 22).isSome = true) := ⟨agg22, siz22, byt22, elem22, arr22, int22, zer22, str22, und22⟩
theorem t23 : (aggT Try.prog 23 = some false) ∧ (sizT Try.prog 23 = some 1) ∧ (bytT Try.prog 23 = some 8) ∧ (elemT Try.prog 23 = none) ∧ (arrT Try.prog 23 = none) ∧ (intT Try.prog 23 = none) ∧ (zerT Try.prog 23 = some [.pointer none]) ∧ (strT Try.prog 23 = false) ∧ ((Try.prog.underlying 23).isSome = true) := ⟨agg23, siz23, byt23, elem23, arr23, int23, zer23, str23, und23⟩
theorem t24 : (aggT Try.prog 24 = some false) ∧ (sizT Try.prog 24 = some 1) ∧ (bytT Try.prog 24 = some 8) ∧ (elemT Try.prog 24 = none) ∧ (arrT Try.prog 24 = none) ∧ (intT Try.prog 24 = some .i64) ∧ (zerT Try.prog 24 = some [.int .i64 0]) ∧ (strT Try.prog 24 = false) ∧ ((Try.prog.underlying 24).isSome = true) := ⟨agg24, siz24, byt24, elem24, arr24, int24, zer24, str24, und24⟩
theorem t25 : (aggT Try.prog 25 = some false) ∧ (sizT Try.prog 25 = some 1) ∧ (bytT Try.prog 25 = some 0) ∧ (elemT Try.prog 25 = none) ∧ (arrT Try.prog 25 = none) ∧ (intT Try.prog 25 = none) ∧ (strT Try.prog 25 = false) ∧ ((Try.prog.underlying 25).isSome = true) := ⟨agg25, siz25, byt25, elem25, arr25, int25, str25, und25⟩
theorem t26 : (aggT Try.prog 26 = some false) ∧ (sizT Try.prog 26 = some 1) ∧ (bytT Try.prog 26 = some 8) ∧ (elemT Try.prog 26 = none) ∧ (arrT Try.prog 26 = none) ∧ (intT Try.prog 26 = none) ∧ (zerT Try.prog 26 = some [.nilFunc]) ∧ (strT Try.prog 26 = false) ∧ ((Try.prog.underlying 26).isSome = true) := ⟨agg26, siz26, byt26, elem26, arr26, int26, zer26, str26, und26⟩
theorem t27 : (aggT Try.prog 27 = some false) ∧ (sizT Try.prog 27 = some 1) ∧ (bytT Try.prog 27 = some 8) ∧ (elemT Try.prog 27 = none) ∧ (arrT Try.prog 27 = none) ∧ (intT Try.prog 27 = none) ∧ (zerT Try.prog 27 = some [.pointer none]) ∧ (strT Try.prog 27 = false) ∧ ((Try.prog.underlying 27).isSome = true) := ⟨agg27, siz27, byt27, elem27, arr27, int27, zer27, str27, und27⟩
theorem t28 : (aggT Try.prog 28 = some false) ∧ (sizT Try.prog 28 = some 1) ∧ (bytT Try.prog 28 = some 0) ∧ (elemT Try.prog 28 = none) ∧ (arrT Try.prog 28 = none) ∧ (intT Try.prog 28 = none) ∧ (strT Try.prog 28 = false) ∧ ((Try.prog.underlying 28).isSome = true) := ⟨agg28, siz28, byt28, elem28, arr28, int28, str28, und28⟩
theorem t29 : (aggT Try.prog 29 = some false) ∧ (sizT Try.prog 29 = some 1) ∧ (bytT Try.prog 29 = some 8) ∧ (elemT Try.prog 29 = none) ∧ (arrT Try.prog 29 = none) ∧ (intT Try.prog 29 = none) ∧ (zerT Try.prog 29 = some [.nilFunc]) ∧ (strT Try.prog 29 = false) ∧ ((Try.prog.underlying 29).isSome = true) := ⟨agg29, siz29, byt29, elem29, arr29, int29, zer29, str29, und29⟩
theorem t30 : (aggT Try.prog 30 = some true) ∧ (sizT Try.prog 30 = some 2) ∧ (bytT Try.prog 30 = some 16) ∧ (elemT Try.prog 30 = none) ∧ (arrT Try.prog 30 = none) ∧ (intT Try.prog 30 = none) ∧ (zerT Try.prog 30 = some [.int .i64 0, .int .i64 0]) ∧ (kdT Try.prog 60 30 = some [.int .i64, .int .i64]) ∧ (Try.prog.eqGuardType (Try.prog.depth) 30 = false) ∧ (sizesOk Try.prog 30 = true) ∧ (placeT Try.prog 30 0 = some (0, 1)) ∧ (placeT Try.prog 30 1 = some (1, 1)) ∧ (strT Try.prog 30 = false) ∧ (fldT Try.prog 30 0 = some (0, 2)) ∧ (fldT Try.prog 30 1 = some (1, 2)) ∧ ((Try.prog.underlying 30).isSome = true) := ⟨agg30, siz30, byt30, elem30, arr30, int30, zer30, kd30, eqg30, szs30, plc30_0, plc30_1, str30, fld30_0, fld30_1, und30⟩
theorem t31 : (aggT Try.prog 31 = some true) ∧ (sizT Try.prog 31 = some 2) ∧ (bytT Try.prog 31 = some 16) ∧ (elemT Try.prog 31 = none) ∧ (arrT Try.prog 31 = none) ∧ (intT Try.prog 31 = none) ∧ (zerT Try.prog 31 = some [.int .i64 0, .int .i64 0]) ∧ (kdT Try.prog 60 31 = some [.int .i64, .int .i64]) ∧ (Try.prog.eqGuardType (Try.prog.depth) 31 = false) ∧ (sizesOk Try.prog 31 = true) ∧ (placeT Try.prog 31 0 = some (0, 1)) ∧ (placeT Try.prog 31 1 = some (1, 1)) ∧ (strT Try.prog 31 = false) ∧ (fldT Try.prog 31 0 = some (0, 2)) ∧ (fldT Try.prog 31 1 = some (1, 2)) ∧ ((Try.prog.underlying 31).isSome = true) := ⟨agg31, siz31, byt31, elem31, arr31, int31, zer31, kd31, eqg31, szs31, plc31_0, plc31_1, str31, fld31_0, fld31_1, und31⟩
theorem t32 : (aggT Try.prog 32 = some true) ∧ (sizT Try.prog 32 = some 2) ∧ (bytT Try.prog 32 = some 16) ∧ (elemT Try.prog 32 = none) ∧ (arrT Try.prog 32 = some (2, 2)) ∧ (intT Try.prog 32 = none) ∧ (zerT Try.prog 32 = some [.int .i64 0, .int .i64 0]) ∧ (kdT Try.prog 60 32 = some [.int .i64, .int .i64]) ∧ (Try.prog.eqGuardType (Try.prog.depth) 32 = false) ∧ (sizesOk Try.prog 32 = true) ∧ (placeT Try.prog 32 0 = some (0, 1)) ∧ (placeT Try.prog 32 1 = some (1, 1)) ∧ (placeT Try.prog 32 2 = some (2, 1)) ∧ (placeT Try.prog 32 3 = some (3, 1)) ∧ (placeT Try.prog 32 4 = some (4, 1)) ∧ (placeT Try.prog 32 5 = some (5, 1)) ∧ (placeT Try.prog 32 6 = some (6, 1)) ∧ (placeT Try.prog 32 7 = some (7, 1)) ∧ (placeT Try.prog 32 8 = some (8, 1)) ∧ (placeT Try.prog 32 9 = some (9, 1)) ∧ (placeT Try.prog 32 10 = some (10, 1)) ∧ (placeT Try.prog 32 11 = some (11, 1)) ∧ (strT Try.prog 32 = false) ∧ ((Try.prog.underlying 32).isSome = true) := ⟨agg32, siz32, byt32, elem32, arr32, int32, zer32, kd32, eqg32, szs32, plc32_0, plc32_1, plc32_2, plc32_3, plc32_4, plc32_5, plc32_6, plc32_7, plc32_8, plc32_9, plc32_10, plc32_11, str32, und32⟩
theorem t33 : (aggT Try.prog 33 = some false) ∧ (sizT Try.prog 33 = some 1) ∧ (bytT Try.prog 33 = some 2) ∧ (elemT Try.prog 33 = none) ∧ (arrT Try.prog 33 = none) ∧ (intT Try.prog 33 = some .u16) ∧ (zerT Try.prog 33 = some [.int .u16 0]) ∧ (strT Try.prog 33 = false) ∧ ((Try.prog.underlying 33).isSome = true) := ⟨agg33, siz33, byt33, elem33, arr33, int33, zer33, str33, und33⟩
theorem t34 : (aggT Try.prog 34 = some false) ∧ (sizT Try.prog 34 = some 1) ∧ (bytT Try.prog 34 = some 8) ∧ (elemT Try.prog 34 = none) ∧ (arrT Try.prog 34 = none) ∧ (intT Try.prog 34 = none) ∧ (zerT Try.prog 34 = some [.nilFunc]) ∧ (strT Try.prog 34 = false) ∧ ((Try.prog.underlying 34).isSome = true) := ⟨agg34, siz34, byt34, elem34, arr34, int34, zer34, str34, und34⟩
theorem t35 : (aggT Try.prog 35 = some false) ∧ (sizT Try.prog 35 = some 1) ∧ (bytT Try.prog 35 = some 8) ∧ (elemT Try.prog 35 = none) ∧ (arrT Try.prog 35 = none) ∧ (intT Try.prog 35 = some .i64) ∧ (zerT Try.prog 35 = some [.int .i64 0]) ∧ (strT Try.prog 35 = false) ∧ ((Try.prog.underlying 35).isSome = true) := ⟨agg35, siz35, byt35, elem35, arr35, int35, zer35, str35, und35⟩
theorem t36 : (aggT Try.prog 36 = some false) ∧ (sizT Try.prog 36 = some 1) ∧ (bytT Try.prog 36 = some 4) ∧ (elemT Try.prog 36 = none) ∧ (arrT Try.prog 36 = none) ∧ (intT Try.prog 36 = some .u32) ∧ (zerT Try.prog 36 = some [.int .u32 0]) ∧ (strT Try.prog 36 = false) ∧ ((Try.prog.underlying 36).isSome = true) := ⟨agg36, siz36, byt36, elem36, arr36, int36, zer36, str36, und36⟩
theorem t37 : (aggT Try.prog 37 = some true) ∧ (sizT Try.prog 37 = some 2) ∧ (bytT Try.prog 37 = some 8) ∧ (elemT Try.prog 37 = none) ∧ (arrT Try.prog 37 = none) ∧ (intT Try.prog 37 = none) ∧ (zerT Try.prog 37 = some [.bool false, .int .u32 0]) ∧ (kdT Try.prog 60 37 = some [.bool, .int .u32]) ∧ (Try.prog.eqGuardType (Try.prog.depth) 37 = false) ∧ (sizesOk Try.prog 37 = true) ∧ (placeT Try.prog 37 0 = some (0, 1)) ∧ (placeT Try.prog 37 1 = some (1, 1)) ∧ (strT Try.prog 37 = false) ∧ (fldT Try.prog 37 0 = some (0, 4)) ∧ (fldT Try.prog 37 1 = some (1, 36)) ∧ ((Try.prog.underlying 37).isSome = true) := ⟨agg37, siz37, byt37, elem37, arr37, int37, zer37, kd37, eqg37, szs37, plc37_0, plc37_1, str37, fld37_0, fld37_1, und37⟩
theorem t38 : (aggT Try.prog 38 = some true) ∧ (sizT Try.prog 38 = some 2) ∧ (bytT Try.prog 38 = some 8) ∧ (elemT Try.prog 38 = none) ∧ (arrT Try.prog 38 = none) ∧ (intT Try.prog 38 = none) ∧ (zerT Try.prog 38 = some [.bool false, .int .u32 0]) ∧ (kdT Try.prog 60 38 = some [.bool, .int .u32]) ∧ (Try.prog.eqGuardType (Try.prog.depth) 38 = false) ∧ (sizesOk Try.prog 38 = true) ∧ (placeT Try.prog 38 0 = some (0, 1)) ∧ (placeT Try.prog 38 1 = some (1, 1)) ∧ (strT Try.prog 38 = false) ∧ (fldT Try.prog 38 0 = some (0, 4)) ∧ (fldT Try.prog 38 1 = some (1, 36)) ∧ ((Try.prog.underlying 38).isSome = true) := ⟨agg38, siz38, byt38, elem38, arr38, int38, zer38, kd38, eqg38, szs38, plc38_0, plc38_1, str38, fld38_0, fld38_1, und38⟩
theorem t39 : (aggT Try.prog 39 = some true) ∧ (sizT Try.prog 39 = some 8) ∧ (bytT Try.prog 39 = some 8) ∧ (elemT Try.prog 39 = none) ∧ (arrT Try.prog 39 = some (8, 5)) ∧ (intT Try.prog 39 = none) ∧ (zerT Try.prog 39 = some [.int .u8 0, .int .u8 0, .int .u8 0, .int .u8 0, .int .u8 0, .int .u8 0, .int .u8 0, .int .u8 0]) ∧ (kdT Try.prog 60 39 = some [.int .u8, .int .u8, .int .u8, .int .u8, .int .u8, .int .u8, .int .u8, .int .u8]) ∧ (Try.prog.eqGuardType (Try.prog.depth) 39 = false) ∧ (sizesOk Try.prog 39 = true) ∧ (placeT Try.prog 39 0 = some (0, 1)) ∧ (placeT Try.prog 39 1 = some (1, 1)) ∧ (placeT Try.prog 39 2 = some (2, 1)) ∧ (placeT Try.prog 39 3 = some (3, 1)) ∧ (placeT Try.prog 39 4 = some (4, 1)) ∧ (placeT Try.prog 39 5 = some (5, 1)) ∧ (placeT Try.prog 39 6 = some (6, 1)) ∧ (placeT Try.prog 39 7 = some (7, 1)) ∧ (placeT Try.prog 39 8 = some (8, 1)) ∧ (placeT Try.prog 39 9 = some (9, 1)) ∧ (placeT Try.prog 39 10 = some (10, 1)) ∧ (placeT Try.prog 39 11 = some (11, 1)) ∧ (strT Try.prog 39 = false) ∧ ((Try.prog.underlying 39).isSome = true) := ⟨agg39, siz39, byt39, elem39, arr39, int39, zer39, kd39, eqg39, szs39, plc39_0, plc39_1, plc39_2, plc39_3, plc39_4, plc39_5, plc39_6, plc39_7, plc39_8, plc39_9, plc39_10, plc39_11, str39, und39⟩
theorem t40 : (aggT Try.prog 40 = some true) ∧ (sizT Try.prog 40 = some 12) ∧ (bytT Try.prog 40 = some 32) ∧ (elemT Try.prog 40 = none) ∧ (arrT Try.prog 40 = none) ∧ (intT Try.prog 40 = none) ∧ (zerT Try.prog 40 = some [.bool false, .int .u32 0, .bool false, .int .i64 0, .int .u8 0, .int .u8 0, .int .u8 0, .int .u8 0, .int .u8 0, .int .u8 0, .int .u8 0, .int .u8 0]) ∧ (kdT Try.prog 60 40 = some [.bool, .int .u32, .bool, .int .i64, .int .u8, .int .u8, .int .u8, .int .u8, .int .u8, .int .u8, .int .u8, .int .u8]) ∧ (Try.prog.eqGuardType (Try.prog.depth) 40 = false) ∧ (sizesOk Try.prog 40 = true) ∧ (placeT Try.prog 40 0 = some (0, 2)) ∧ (placeT Try.prog 40 1 = some (2, 1)) ∧ (placeT Try.prog 40 2 = some (3, 1)) ∧ (placeT Try.prog 40 3 = some (4, 8)) ∧ (strT Try.prog 40 = false) ∧ (fldT Try.prog 40 0 = some (0, 38)) ∧ (fldT Try.prog 40 1 = some (2, 4)) ∧ (fldT Try.prog 40 2 = some (3, 3)) ∧ (fldT Try.prog 40 3 = some (4, 39)) ∧ ((Try.prog.underlying 40).isSome = true) := ⟨agg40, siz40, byt40, elem40, arr40, int40, zer40, kd40, eqg40, szs40, plc40_0, plc40_1, plc40_2, plc40_3, str40, fld40_0, fld40_1, fld40_2, fld40_3, und40⟩
theorem t41 : (aggT Try.prog 41 = some true) ∧ (sizT Try.prog 41 = some 12) ∧ (bytT Try.prog 41 = some 32) ∧ (elemT Try.prog 41 = none) ∧ (arrT Try.prog 41 = none) ∧ (intT Try.prog 41 = none) ∧ (zerT Try.prog 41 = some [.bool false, .int .u32 0, .bool false, .int .i64 0, .int .u8 0, .int .u8 0, .int .u8 0, .int .u8 0, .int .u8 0, .int .u8 0, .int .u8 0, .int .u8 0]) ∧ (kdT Try.prog 60 41 = some [.bool, .int .u32, .bool, .int .i64, .int .u8, .int .u8, .int .u8, .int .u8, .int .u8, .int .u8, .int .u8, .int .u8]) ∧ (Try.prog.eqGuardType (Try.prog.depth) 41 = false) ∧ (sizesOk Try.prog 41 = true) ∧ (placeT Try.prog 41 0 = some (0, 2)) ∧ (placeT Try.prog 41 1 = some (2, 1)) ∧ (placeT Try.prog 41 2 = some (3, 1)) ∧ (placeT Try.prog 41 3 = some (4, 8)) ∧ (strT Try.prog 41 = false) ∧ (fldT Try.prog 41 0 = some (0, 38)) ∧ (fldT Try.prog 41 1 = some (2, 4)) ∧ (fldT Try.prog 41 2 = some (3, 3)) ∧ (fldT Try.prog 41 3 = some (4, 39)) ∧ ((Try.prog.underlying 41).isSome = true) := ⟨agg41, siz41, byt41, elem41, arr41, int41, zer41, kd41, eqg41, szs41, plc41_0, plc41_1, plc41_2, plc41_3, str41, fld41_0, fld41_1, fld41_2, fld41_3, und41⟩
theorem t42 : (aggT Try.prog 42 = some true) ∧ (sizT Try.prog 42 = some 17) ∧ (bytT Try.prog 42 = some 48) ∧ (elemT Try.prog 42 = none) ∧ (arrT Try.prog 42 = none) ∧ (intT Try.prog 42 = none) ∧ (zerT Try.prog 42 = some [.bool false, .bool false, .bool false, .bool false, .int .i64 0, .bool false, .int .u32 0, .bool false, .int .i64 0, .int .u8 0, .int .u8 0, .int .u8 0, .int .u8 0, .int .u8 0, .int .u8 0, .int .u8 0, .int .u8 0]) ∧ (kdT Try.prog 60 42 = some [.bool, .bool, .bool, .bool, .int .i64, .bool, .int .u32, .bool, .int .i64, .int .u8, .int .u8, .int .u8, .int .u8, .int .u8, .int .u8, .int .u8, .int .u8]) ∧ (Try.prog.eqGuardType (Try.prog.depth) 42 = false) ∧ (sizesOk Try.prog 42 = true) ∧ (placeT Try.prog 42 0 = some (0, 1)) ∧ (placeT Try.prog 42 1 = some (1, 1)) ∧ (placeT Try.prog 42 2 = some (2, 1)) ∧ (placeT Try.prog 42 3 = some (3, 1)) ∧ (placeT Try.prog 42 4 = some (4, 1)) ∧ (placeT Try.prog 42 5 = some (5, 12)) ∧ (strT Try.prog 42 = false) ∧ (fldT Try.prog 42 0 = some (0, 4)) ∧ (fldT Try.prog 42 1 = some (1, 4)) ∧ (fldT Try.prog 42 2 = some (2, 4)) ∧ (fldT Try.prog 42 3 = some (3, 4)) ∧ (fldT Try.prog 42 4 = some (4, 35)) ∧ (fldT Try.prog 42 5 = some (5, 41)) ∧ ((Try.prog.underlying 42).isSome = true) := ⟨agg42, siz42, byt42, elem42, arr42, int42, zer42, kd42, eqg42, szs42, plc42_0, plc42_1, plc42_2, plc42_3, plc42_4, plc42_5, str42, fld42_0, fld42_1, fld42_2, fld42_3, fld42_4, fld42_5, und42⟩
theorem t43 : (aggT Try.prog 43 = some true) ∧ (sizT Try.prog 43 = some 17) ∧ (bytT Try.prog 43 = some 48) ∧ (elemT Try.prog 43 = none) ∧ (arrT Try.prog 43 = none) ∧ (intT Try.prog 43 = none) ∧ (zerT Try.prog 43 = some [.bool false, .bool false, .bool false, .bool false, .int .i64 0, .bool false, .int .u32 0, .bool false, .int .i64 0, .int .u8 0, .int .u8 0, .int .u8 0, .int .u8 0, .int .u8 0, .int .u8 0, .int .u8 0, .int .u8 0]) ∧ (kdT Try.prog 60 43 = some [.bool, .bool, .bool, .bool, .int .i64, .bool, .int .u32, .bool, .int .i64, .int .u8, .int .u8, .int .u8, .int .u8, .int .u8, .int .u8, .int .u8, .int .u8]) ∧ (Try.prog.eqGuardType (Try.prog.depth) 43 = false) ∧ (sizesOk Try.prog 43 = true) ∧ (placeT Try.prog 43 0 = some (0, 1)) ∧ (placeT Try.prog 43 1 = some (1, 1)) ∧ (placeT Try.prog 43 2 = some (2, 1)) ∧ (placeT Try.prog 43 3 = some (3, 1)) ∧ (placeT Try.prog 43 4 = some (4, 1)) ∧ (placeT Try.prog 43 5 = some (5, 12)) ∧ (strT Try.prog 43 = false) ∧ (fldT Try.prog 43 0 = some (0, 4)) ∧ (fldT Try.prog 43 1 = some (1, 4)) ∧ (fldT Try.prog 43 2 = some (2, 4)) ∧ (fldT Try.prog 43 3 = some (3, 4)) ∧ (fldT Try.prog 43 4 = some (4, 35)) ∧ (fldT Try.prog 43 5 = some (5, 41)) ∧ ((Try.prog.underlying 43).isSome = true) := ⟨agg43, siz43, byt43, elem43, arr43, int43, zer43, kd43, eqg43, szs43, plc43_0, plc43_1, plc43_2, plc43_3, plc43_4, plc43_5, str43, fld43_0, fld43_1, fld43_2, fld43_3, fld43_4, fld43_5, und43⟩
theorem t44 : (aggT Try.prog 44 = some false) ∧ (sizT Try.prog 44 = some 1) ∧ (bytT Try.prog 44 = some 8) ∧ (elemT Try.prog 44 = none) ∧ (arrT Try.prog 44 = none) ∧ (intT Try.prog 44 = some .i64) ∧ (zerT Try.prog 44 = some [.int .i64 0]) ∧ (strT Try.prog 44 = false) ∧ ((Try.prog.underlying 44).isSome = true) := ⟨agg44, siz44, byt44, elem44, arr44, int44, zer44, str44, und44⟩
theorem t45 : (aggT Try.prog 45 = some false) ∧ (sizT Try.prog 45 = some 1) ∧ (bytT Try.prog 45 = some 8) ∧ (elemT Try.prog 45 = none) ∧ (arrT Try.prog 45 = none) ∧ (intT Try.prog 45 = none) ∧ (zerT Try.prog 45 = some [.nilFunc]) ∧ (strT Try.prog 45 = false) ∧ ((Try.prog.underlying 45).isSome = true) := ⟨agg45, siz45, byt45, elem45, arr45, int45, zer45, str45, und45⟩
theorem t46 : (aggT Try.prog 46 = some false) ∧ (sizT Try.prog 46 = some 1) ∧ (bytT Try.prog 46 = some 8) ∧ (elemT Try.prog 46 = none) ∧ (arrT Try.prog 46 = none) ∧ (intT Try.prog 46 = none) ∧ (zerT Try.prog 46 = some [.nilFunc]) ∧ (strT Try.prog 46 = false) ∧ ((Try.prog.underlying 46).isSome = true) := ⟨agg46, siz46, byt46, elem46, arr46, int46, zer46, str46, und46⟩
theorem t47 : (aggT Try.prog 47 = some true) ∧ (sizT Try.prog 47 = some 14) ∧ (bytT Try.prog 47 = some 48) ∧ (elemT Try.prog 47 = none) ∧ (arrT Try.prog 47 = none) ∧ (intT Try.prog 47 = none) ∧ (zerT Try.prog 47 = some [.bool false, .int .u32 0, .bool false, .int .i64 0, .int .u8 0, .int .u8 0, .int .u8 0, .int .u8 0, .int .u8 0, .int .u8 0, .int .u8 0, .int .u8 0, .int .i64 0, .int .i64 0]) ∧ (kdT Try.prog 60 47 = some [.bool, .int .u32, .bool, .int .i64, .int .u8, .int .u8, .int .u8, .int .u8, .int .u8, .int .u8, .int .u8, .int .u8, .int .i64, .int .i64]) ∧ (Try.prog.eqGuardType (Try.prog.depth) 47 = false) ∧ (sizesOk Try.prog 47 = true) ∧ (placeT Try.prog 47 0 = some (0, 12)) ∧ (placeT Try.prog 47 1 = some (12, 1)) ∧ (placeT Try.prog 47 2 = some (13, 1)) ∧ (strT Try.prog 47 = false) ∧ (fldT Try.prog 47 0 = some (0, 41)) ∧ (fldT Try.prog 47 1 = some (12, 2)) ∧ (fldT Try.prog 47 2 = some (13, 2)) ∧ ((Try.prog.underlying 47).isSome = true) := ⟨agg47, siz47, byt47, elem47, arr47, int47, zer47, kd47, eqg47, szs47, plc47_0, plc47_1, plc47_2, str47, fld47_0, fld47_1, fld47_2, und47⟩
theorem t48 : (aggT Try.prog 48 = some true) ∧ (sizT Try.prog 48 = some 14) ∧ (bytT Try.prog 48 = some 48) ∧ (elemT Try.prog 48 = none) ∧ (arrT Try.prog 48 = none) ∧ (intT Try.prog 48 = none) ∧ (zerT Try.prog 48 = some [.bool false, .int .u32 0, .bool false, .int .i64 0, .int .u8 0, .int .u8 0, .int .u8 0, .int .u8 0, .int .u8 0, .int .u8 0, .int .u8 0, .int .u8 0, .int .i64 0, .int .i64 0]) ∧ (kdT Try.prog 60 48 = some [.bool, .int .u32, .bool, .int .i64, .int .u8, .int .u8, .int .u8, .int .u8, .int .u8, .int .u8, .int .u8, .int .u8, .int .i64, .int .i64]) ∧ (Try.prog.eqGuardType (Try.prog.depth) 48 = false) ∧ (sizesOk Try.prog 48 = true) ∧ (placeT Try.prog 48 0 = some (0, 12)) ∧ (placeT Try.prog 48 1 = some (12, 1)) ∧ (placeT Try.prog 48 2 = some (13, 1)) ∧ (strT Try.prog 48 = false) ∧ (fldT Try.prog 48 0 = some (0, 41)) ∧ (fldT Try.prog 48 1 = some (12, 2)) ∧ (fldT Try.prog 48 2 = some (13, 2)) ∧ ((Try.prog.underlying 48).isSome = true) := ⟨agg48, siz48, byt48, elem48, arr48, int48, zer48, kd48, eqg48, szs48, plc48_0, plc48_1, plc48_2, str48, fld48_0, fld48_1, fld48_2, und48⟩
theorem t49 : (aggT Try.prog 49 = some false) ∧ (sizT Try.prog 49 = some 1) ∧ (bytT Try.prog 49 = some 0) ∧ (elemT Try.prog 49 = none) ∧ (arrT Try.prog 49 = none) ∧ (intT Try.prog 49 = none) ∧ (strT Try.prog 49 = false) ∧ ((Try.prog.underlying 49).isSome = true) := ⟨agg49, siz49, byt49, elem49, arr49, int49, str49, und49⟩
theorem t50 : (aggT Try.prog 50 = some false) ∧ (sizT Try.prog 50 = some 1) ∧ (bytT Try.prog 50 = some 8) ∧ (elemT Try.prog 50 = none) ∧ (arrT Try.prog 50 = none) ∧ (intT Try.prog 50 = none) ∧ (zerT Try.prog 50 = some [.nilFunc]) ∧ (strT Try.prog 50 = false) ∧ ((Try.prog.underlying 50).isSome = true) := ⟨agg50, siz50, byt50, elem50, arr50, int50, zer50, str50, und50⟩
theorem t51 : (aggT Try.prog 51 = some false) ∧ (sizT Try.prog 51 = some 1) ∧ (bytT Try.prog 51 = some 0) ∧ (elemT Try.prog 51 = none) ∧ (arrT Try.prog 51 = none) ∧ (intT Try.prog 51 = none) ∧ (strT Try.prog 51 = false) ∧ ((Try.prog.underlying 51).isSome = true) := ⟨agg51, siz51, byt51, elem51, arr51, int51, str51, und51⟩
theorem t52 : (aggT Try.prog 52 = some false) ∧ (sizT Try.prog 52 = some 1) ∧ (bytT Try.prog 52 = some 8) ∧ (elemT Try.prog 52 = none) ∧ (arrT Try.prog 52 = none) ∧ (intT Try.prog 52 = none) ∧ (zerT Try.prog 52 = some [.nilFunc]) ∧ (strT Try.prog 52 = false) ∧ ((Try.prog.underlying 52).isSome = true) := ⟨agg52, siz52, byt52, elem52, arr52, int52, zer52, str52, und52⟩
theorem t53 : (aggT Try.prog 53 = some false) ∧ (sizT Try.prog 53 = some 1) ∧ (bytT Try.prog 53 = some 8) ∧ (elemT Try.prog 53 = none) ∧ (arrT Try.prog 53 = none) ∧ (intT Try.prog 53 = some .u64) ∧ (zerT Try.prog 53 = some [.int .u64 0]) ∧ (strT Try.prog 53 = false) ∧ ((Try.prog.underlying 53).isSome = true) := ⟨agg53, siz53, byt53, elem53, arr53, int53, zer53, str53, und53⟩
theorem t54 : (aggT Try.prog 54 = some false) ∧ (sizT Try.prog 54 = some 1) ∧ (bytT Try.prog 54 = some 8) ∧ (elemT Try.prog 54 = none) ∧ (arrT Try.prog 54 = none) ∧ (intT Try.prog 54 = none) ∧ (zerT Try.prog 54 = some [.nilFunc]) ∧ (strT Try.prog 54 = false) ∧ ((Try.prog.underlying 54).isSome = true) := ⟨agg54, siz54, byt54, elem54, arr54, int54, zer54, str54, und54⟩
theorem t55 : (aggT Try.prog 55 = some false) ∧ (sizT Try.prog 55 = some 1) ∧ (bytT Try.prog 55 = some 8) ∧ (elemT Try.prog 55 = none) ∧ (arrT Try.prog 55 = none) ∧ (intT Try.prog 55 = none) ∧ (zerT Try.prog 55 = some [.nilFunc]) ∧ (strT Try.prog 55 = false) ∧ ((Try.prog.underlying 55).isSome = true) := ⟨agg55, siz55, byt55, elem55, arr55, int55, zer55, str55, und55⟩
theorem t56 : (aggT Try.prog 56 = some false) ∧ (sizT Try.prog 56 = some 1) ∧ (bytT Try.prog 56 = some 24) ∧ (elemT Try.prog 56 = some 90) ∧ (arrT Try.prog 56 = none) ∧ (intT Try.prog 56 = none) ∧ (zerT Try.prog 56 = some [.slice none 0 0]) ∧ (strT Try.prog 56 = false) ∧ ((Try.prog.underlying 56).isSome = true) := ⟨agg56, siz56, byt56, elem56, arr56, int56, zer56, str56, und56⟩
theorem t57 : (aggT Try.prog 57 = some false) ∧ (sizT Try.prog 57 = some 1) ∧ (bytT Try.prog 57 = some 8) ∧ (elemT Try.prog 57 = none) ∧ (arrT Try.prog 57 = none) ∧ (intT Try.prog 57 = none) ∧ (zerT Try.prog 57 = some [.pointer none]) ∧ (strT Try.prog 57 = false) ∧ ((Try.prog.underlying 57).isSome = true) := ⟨agg57, siz57, byt57, elem57, arr57, int57, zer57, str57, und57⟩
theorem t58 : (aggT Try.prog 58 = some false) ∧ (sizT Try.prog 58 = some 1) ∧ (bytT Try.prog 58 = some 0) ∧ (elemT Try.prog 58 = none) ∧ (arrT Try.prog 58 = none) ∧ (intT Try.prog 58 = none) ∧ (strT Try.prog 58 = false) ∧ ((Try.prog.underlying 58).isSome = true) := ⟨agg58, siz58, byt58, elem58, arr58, int58, str58, und58⟩
theorem t59 : (aggT Try.prog 59 = some false) ∧ (sizT Try.prog 59 = some 1) ∧ (bytT Try.prog 59 = some 8) ∧ (elemT Try.prog 59 = none) ∧ (arrT Try.prog 59 = none) ∧ (intT Try.prog 59 = none) ∧ (zerT Try.prog 59 = some [.nilFunc]) ∧ (strT Try.prog 59 = false) ∧ ((Try.prog.underlying 59).isSome = true) := ⟨agg59, siz59, byt59, elem59, arr59, int59, zer59, str59, und59⟩
theorem t60 : (aggT Try.prog 60 = some false) ∧ (sizT Try.prog 60 = some 1) ∧ (bytT Try.prog 60 = some 8) ∧ (elemT Try.prog 60 = none) ∧ (arrT Try.prog 60 = none) ∧ (intT Try.prog 60 = none) ∧ (zerT Try.prog 60 = some [.pointer none]) ∧ (strT Try.prog 60 = false) ∧ ((Try.prog.underlying 60).isSome = true) := ⟨agg60, siz60, byt60, elem60, arr60, int60, zer60, str60, und60⟩
theorem t61 : (aggT Try.prog 61 = some false) ∧ (sizT Try.prog 61 = some 1) ∧ (bytT Try.prog 61 = some 0) ∧ (elemT Try.prog 61 = none) ∧ (arrT Try.prog 61 = none) ∧ (intT Try.prog 61 = none) ∧ (strT Try.prog 61 = false) ∧ ((Try.prog.underlying 61).isSome = true) := ⟨agg61, siz61, byt61, elem61, arr61, int61, str61, und61⟩
theorem t62 : (aggT Try.prog 62 = some false) ∧ (sizT Try.prog 62 = some 1) ∧ (bytT Try.prog 62 = some 8) ∧ (elemT Try.prog 62 = none) ∧ (arrT Try.prog 62 = none) ∧ (intT Try.prog 62 = none) ∧ (zerT Try.prog 62 = some [.nilFunc]) ∧ (strT Try.prog 62 = false) ∧ ((Try.prog.underlying 62).isSome = true) := ⟨agg62, siz62, byt62, elem62, arr62, int62, zer62, str62, und62⟩
theorem t63 : (aggT Try.prog 63 = some false) ∧ (sizT Try.prog 63 = some 1) ∧ (bytT Try.prog 63 = some 8) ∧ (elemT Try.prog 63 = none) ∧ (arrT Try.prog 63 = none) ∧ (intT Try.prog 63 = none) ∧ (zerT Try.prog 63 = some [.pointer none]) ∧ (strT Try.prog 63 = false) ∧ ((Try.prog.underlying 63).isSome = true) := ⟨agg63, siz63, byt63, elem63, arr63, int63, zer63, str63, und63⟩
theorem t64 : (aggT Try.prog 64 = some false) ∧ (sizT Try.prog 64 = some 1) ∧ (bytT Try.prog 64 = some 24) ∧ (elemT Try.prog 64 = some 115) ∧ (arrT Try.prog 64 = none) ∧ (intT Try.prog 64 = none) ∧ (zerT Try.prog 64 = some [.slice none 0 0]) ∧ (strT Try.prog 64 = false) ∧ ((Try.prog.underlying 64).isSome = true) := ⟨agg64, siz64, byt64, elem64, arr64, int64, zer64, str64, und64⟩
theorem t65 : (aggT Try.prog 65 = some true) ∧ (sizT Try.prog 65 = some 7) ∧ (bytT Try.prog 65 = some 72) ∧ (elemT Try.prog 65 = none) ∧ (arrT Try.prog 65 = none) ∧ (intT Try.prog 65 = none) ∧ (zerT Try.prog 65 = some [.pointer none, .pointer none, .pointer none, .int .i64 0, .int .i64 0, .int .i64 0, .slice none 0 0]) ∧ (Try.prog.eqGuardType (Try.prog.depth) 65 = false) ∧ (sizesOk Try.prog 65 = true) ∧ (placeT Try.prog 65 0 = some (0, 1)) ∧ (placeT Try.prog 65 1 = some (1, 1)) ∧ (placeT Try.prog 65 2 = some (2, 1)) ∧ (placeT Try.prog 65 3 = some (3, 1)) ∧ (placeT Try.prog 65 4 = some (4, 1)) ∧ (placeT Try.prog 65 5 = some (5, 1)) ∧ (placeT Try.prog 65 6 = some (6, 1)) ∧ (strT Try.prog 65 = false) ∧ (fldT Try.prog 65 0 = some (0, 57)) ∧ (fldT Try.prog 65 1 = some (1, 60)) ∧ (fldT Try.prog 65 2 = some (2, 63)) ∧ (fldT Try.prog 65 3 = some (3, 44)) ∧ (fldT Try.prog 65 4 = some (4, 2)) ∧ (fldT Try.prog 65 5 = some (5, 2)) ∧ (fldT Try.prog 65 6 = some (6, 64)) ∧ ((Try.prog.underlying 65).isSome = true) := ⟨agg65, siz65, byt65, elem65, arr65, int65, zer65, eqg65, szs65, plc65_0, plc65_1, plc65_2, plc65_3, plc65_4, plc65_5, plc65_6, str65, fld65_0, fld65_1, fld65_2, fld65_3, fld65_4, fld65_5, fld65_6, und65⟩
theorem t66 : (aggT Try.prog 66 = some true) ∧ (sizT Try.prog 66 = some 7) ∧ (bytT Try.prog 66 = some 72) ∧ (elemT Try.prog 66 = none) ∧ (arrT Try.prog 66 = none) ∧ (intT Try.prog 66 = none) ∧ (zerT Try.prog 66 = some [.pointer none, .pointer none, .pointer none, .int .i64 0, .int .i64 0, .int .i64 0, .slice none 0 0]) ∧ (Try.prog.eqGuardType (Try.prog.depth) 66 = false) ∧ (sizesOk Try.prog 66 = true) ∧ (placeT Try.prog 66 0 = some (0, 1)) ∧ (placeT Try.prog 66 1 = some (1, 1)) ∧ (placeT Try.prog 66 2 = some (2, 1)) ∧ (placeT Try.prog 66 3 = some (3, 1)) ∧ (placeT Try.prog 66 4 = some (4, 1)) ∧ (placeT Try.prog 66 5 = some (5, 1)) ∧ (placeT Try.prog 66 6 = some (6, 1)) ∧ (strT Try.prog 66 = false) ∧ (fldT Try.prog 66 0 = some (0, 57)) ∧ (fldT Try.prog 66 1 = some (1, 60)) ∧ (fldT Try.prog 66 2 = some (2, 63)) ∧ (fldT Try.prog 66 3 = some (3, 44)) ∧ (fldT Try.prog 66 4 = some (4, 2)) ∧ (fldT Try.prog 66 5 = some (5, 2)) ∧ (fldT Try.prog 66 6 = some (6, 64)) ∧ ((Try.prog.underlying 66).isSome = true) := ⟨agg66, siz66, byt66, elem66, arr66, int66, zer66, eqg66, szs66, plc66_0, plc66_1, plc66_2, plc66_3, plc66_4, plc66_5, plc66_6, str66, fld66_0, fld66_1, fld66_2, fld66_3, fld66_4, fld66_5, fld66_6, und66⟩
theorem t67 : (aggT Try.prog 67 = some false) ∧ (sizT Try.prog 67 = some 1) ∧ (bytT Try.prog 67 = some 8) ∧ (elemT Try.prog 67 = none) ∧ (arrT Try.prog 67 = none) ∧ (intT Try.prog 67 = none) ∧ (zerT Try.prog 67 = some [.nilFunc]) ∧ (strT Try.prog 67 = false) ∧ ((Try.prog.underlying 67).isSome = true) := ⟨agg67, siz67, byt67, elem67, arr67, int67, zer67, str67, und67⟩
theorem t68 : (aggT Try.prog 68 = some true) ∧ (sizT Try.prog 68 = some 2) ∧ (bytT Try.prog 68 = some 16) ∧ (elemT Try.prog 68 = none) ∧ (arrT Try.prog 68 = none) ∧ (intT Try.prog 68 = none) ∧ (zerT Try.prog 68 = some [.int .i64 0, .int .i64 0]) ∧ (kdT Try.prog 60 68 = some [.int .i64, .int .i64]) ∧ (Try.prog.eqGuardType (Try.prog.depth) 68 = false) ∧ (sizesOk Try.prog 68 = true) ∧ (placeT Try.prog 68 0 = some (0, 2)) ∧ (strT Try.prog 68 = false) ∧ (fldT Try.prog 68 0 = some (0, 31)) ∧ ((Try.prog.underlying 68).isSome = true) := ⟨agg68, siz68, byt68, elem68, arr68, int68, zer68, kd68, eqg68, szs68, plc68_0, str68, fld68_0, und68⟩
theorem t69 : (aggT Try.prog 69 = some true) ∧ (sizT Try.prog 69 = some 2) ∧ (bytT Try.prog 69 = some 16) ∧ (elemT Try.prog 69 = none) ∧ (arrT Try.prog 69 = none) ∧ (intT Try.prog 69 = none) ∧ (zerT Try.prog 69 = some [.int .i64 0, .int .i64 0]) ∧ (kdT Try.prog 60 69 = some [.int .i64, .int .i64]) ∧ (Try.prog.eqGuardType (Try.prog.depth) 69 = false) ∧ (sizesOk Try.prog 69 = true) ∧ (placeT Try.prog 69 0 = some (0, 2)) ∧ (strT Try.prog 69 = false) ∧ (fldT Try.prog 69 0 = some (0, 31)) ∧ ((Try.prog.underlying 69).isSome = true) := ⟨agg69, siz69, byt69, elem69, arr69, int69, zer69, kd69, eqg69, szs69, plc69_0, str69, fld69_0, und69⟩
theorem t70 : (aggT Try.prog 70 = some true) ∧ (sizT Try.prog 70 = some 4) ∧ (bytT Try.prog 70 = some 32) ∧ (elemT Try.prog 70 = none) ∧ (arrT Try.prog 70 = none) ∧ (intT Try.prog 70 = none) ∧ (zerT Try.prog 70 = some [.int .i64 0, .int .i64 0, .int .i64 0, .bool false]) ∧ (kdT Try.prog 60 70 = some [.int .i64, .int .i64, .int .i64, .bool]) ∧ (Try.prog.eqGuardType (Try.prog.depth) 70 = false) ∧ (sizesOk Try.prog 70 = true) ∧ (placeT Try.prog 70 0 = some (0, 2)) ∧ (placeT Try.prog 70 1 = some (2, 1)) ∧ (placeT Try.prog 70 2 = some (3, 1)) ∧ (strT Try.prog 70 = false) ∧ (fldT Try.prog 70 0 = some (0, 69)) ∧ (fldT Try.prog 70 1 = some (2, 2)) ∧ (fldT Try.prog 70 2 = some (3, 4)) ∧ ((Try.prog.underlying 70).isSome = true) := ⟨agg70, siz70, byt70, elem70, arr70, int70, zer70, kd70, eqg70, szs70, plc70_0, plc70_1, plc70_2, str70, fld70_0, fld70_1, fld70_2, und70⟩
theorem t71 : (aggT Try.prog 71 = some true) ∧ (sizT Try.prog 71 = some 4) ∧ (bytT Try.prog 71 = some 32) ∧ (elemT Try.prog 71 = none) ∧ (arrT Try.prog 71 = none) ∧ (intT Try.prog 71 = none) ∧ (zerT Try.prog 71 = some [.int .i64 0, .int .i64 0, .int .i64 0, .bool false]) ∧ (kdT Try.prog 60 71 = some [.int .i64, .int .i64, .int .i64, .bool]) ∧ (Try.prog.eqGuardType (Try.prog.depth) 71 = false) ∧ (sizesOk Try.prog 71 = true) ∧ (placeT Try.prog 71 0 = some (0, 2)) ∧ (placeT Try.prog 71 1 = some (2, 1)) ∧ (placeT Try.prog 71 2 = some (3, 1)) ∧ (strT Try.prog 71 = false) ∧ (fldT Try.prog 71 0 = some (0, 69)) ∧ (fldT Try.prog 71 1 = some (2, 2)) ∧ (fldT Try.prog 71 2 = some (3, 4)) ∧ ((Try.prog.underlying 71).isSome = true) := ⟨agg71, siz71, byt71, elem71, arr71, int71, zer71, kd71, eqg71, szs71, plc71_0, plc71_1, plc71_2, str71, fld71_0, fld71_1, fld71_2, und71⟩
theorem t72 : (aggT Try.prog 72 = some false) ∧ (sizT Try.prog 72 = some 1) ∧ (bytT Try.prog 72 = some 8) ∧ (elemT Try.prog 72 = none) ∧ (arrT Try.prog 72 = none) ∧ (intT Try.prog 72 = none) ∧ (zerT Try.prog 72 = some [.nilFunc]) ∧ (strT Try.prog 72 = false) ∧ ((Try.prog.underlying 72).isSome = true) := ⟨agg72, siz72, byt72, elem72, arr72, int72, zer72, str72, und72⟩
theorem t73 : (aggT Try.prog 73 = some false) ∧ (sizT Try.prog 73 = some 1) ∧ (bytT Try.prog 73 = some 8) ∧ (elemT Try.prog 73 = none) ∧ (arrT Try.prog 73 = none) ∧ (intT Try.prog 73 = none) ∧ (zerT Try.prog 73 = some [.nilFunc]) ∧ (strT Try.prog 73 = false) ∧ ((Try.prog.underlying 73).isSome = true) := ⟨agg73, siz73, byt73, elem73, arr73, int73, zer73, str73, und73⟩
theorem t74 : (aggT Try.prog 74 = some false) ∧ (sizT Try.prog 74 = some 1) ∧ (bytT Try.prog 74 = some 8) ∧ (elemT Try.prog 74 = none) ∧ (arrT Try.prog 74 = none) ∧ (intT Try.prog 74 = none) ∧ (zerT Try.prog 74 = some [.nilFunc]) ∧ (strT Try.prog 74 = false) ∧ ((Try.prog.underlying 74).isSome = true) := ⟨agg74, siz74, byt74, elem74, arr74, int74, zer74, str74, und74⟩
theorem t75 : (aggT Try.prog 75 = some false) ∧ (sizT Try.prog 75 = some 1) ∧ (bytT Try.prog 75 = some 8) ∧ (elemT Try.prog 75 = none) ∧ (arrT Try.prog 75 = none) ∧ (intT Try.prog 75 = none) ∧ (zerT Try.prog 75 = some [.nilFunc]) ∧ (strT Try.prog 75 = false) ∧ ((Try.prog.underlying 75).isSome = true) := ⟨agg75, siz75, byt75, elem75, arr75, int75, zer75, str75, und75⟩
theorem t76 : (aggT Try.prog 76 = some false) ∧ (sizT Try.prog 76 = some 1) ∧ (bytT Try.prog 76 = some 8) ∧ (elemT Try.prog 76 = none) ∧ (arrT Try.prog 76 = none) ∧ (intT Try.prog 76 = none) ∧ (zerT Try.prog 76 = some [.nilFunc]) ∧ (strT Try.prog 76 = false) ∧ ((Try.prog.underlying 76).isSome = true) := ⟨agg76, siz76, byt76, elem76, arr76, int76, zer76, str76, und76⟩
theorem t77 : (aggT Try.prog 77 = some true) ∧ (sizT Try.prog 77 = some 2) ∧ (bytT Try.prog 77 = some 16) ∧ (elemT Try.prog 77 = none) ∧ (arrT Try.prog 77 = none) ∧ (intT Try.prog 77 = none) ∧ (zerT Try.prog 77 = some [.int .i64 0, .bool false]) ∧ (kdT Try.prog 60 77 = some [.int .i64, .bool]) ∧ (Try.prog.eqGuardType (Try.prog.depth) 77 = false) ∧ (sizesOk Try.prog 77 = true) ∧ (placeT Try.prog 77 0 = some (0, 1)) ∧ (placeT Try.prog 77 1 = some (1, 1)) ∧ (strT Try.prog 77 = false) ∧ (fldT Try.prog 77 0 = some (0, 3)) ∧ (fldT Try.prog 77 1 = some (1, 4)) ∧ ((Try.prog.underlying 77).isSome = true) := ⟨agg77, siz77, byt77, elem77, arr77, int77, zer77, kd77, eqg77, szs77, plc77_0, plc77_1, str77, fld77_0, fld77_1, und77⟩
theorem t78 : (aggT Try.prog 78 = some true) ∧ (sizT Try.prog 78 = some 2) ∧ (bytT Try.prog 78 = some 16) ∧ (elemT Try.prog 78 = none) ∧ (arrT Try.prog 78 = none) ∧ (intT Try.prog 78 = none) ∧ (zerT Try.prog 78 = some [.int .i64 0, .bool false]) ∧ (kdT Try.prog 60 78 = some [.int .i64, .bool]) ∧ (Try.prog.eqGuardType (Try.prog.depth) 78 = false) ∧ (sizesOk Try.prog 78 = true) ∧ (placeT Try.prog 78 0 = some (0, 1)) ∧ (placeT Try.prog 78 1 = some (1, 1)) ∧ (strT Try.prog 78 = false) ∧ (fldT Try.prog 78 0 = some (0, 3)) ∧ (fldT Try.prog 78 1 = some (1, 4)) ∧ ((Try.prog.underlying 78).isSome = true) := ⟨agg78, siz78, byt78, elem78, arr78, int78, zer78, kd78, eqg78, szs78, plc78_0, plc78_1, str78, fld78_0, fld78_1, und78⟩
theorem t79 : (aggT Try.prog 79 = some false) ∧ (sizT Try.prog 79 = some 1) ∧ (bytT Try.prog 79 = some 8) ∧ (elemT Try.prog 79 = none) ∧ (arrT Try.prog 79 = none) ∧ (intT Try.prog 79 = none) ∧ (zerT Try.prog 79 = some [.nilFunc]) ∧ (strT Try.prog 79 = false) ∧ ((Try.prog.underlying 79).isSome = true) := ⟨agg79, siz79, byt79, elem79, arr79, int79, zer79, str79, und79⟩
theorem t80 : (aggT Try.prog 80 = some false) ∧ (sizT Try.prog 80 = some 1) ∧ (bytT Try.prog 80 = some 8) ∧ (elemT Try.prog 80 = none) ∧ (arrT Try.prog 80 = none) ∧ (intT Try.prog 80 = some .i64) ∧ (zerT Try.prog 80 = some [.int .i64 0]) ∧ (strT Try.prog 80 = false) ∧ ((Try.prog.underlying 80).isSome = true) := ⟨agg80, siz80, byt80, elem80, arr80, int80, zer80, str80, und80⟩
theorem t81 : (aggT Try.prog 81 = some false) ∧ (sizT Try.prog 81 = some 1) ∧ (bytT Try.prog 81 = some 8) ∧ (elemT Try.prog 81 = none) ∧ (arrT Try.prog 81 = none) ∧ (intT Try.prog 81 = none) ∧ (zerT Try.prog 81 = some [.nilFunc]) ∧ (strT Try.prog 81 = false) ∧ ((Try.prog.underlying 81).isSome = true) := ⟨agg81, siz81, byt81, elem81, arr81, int81, zer81, str81, und81⟩
theorem t82 : (aggT Try.prog 82 = some false) ∧ (sizT Try.prog 82 = some 1) ∧ (bytT Try.prog 82 = some 8) ∧ (elemT Try.prog 82 = none) ∧ (arrT Try.prog 82 = none) ∧ (intT Try.prog 82 = none) ∧ (zerT Try.prog 82 = some [.nilFunc]) ∧ (strT Try.prog 82 = false) ∧ ((Try.prog.underlying 82).isSome = true) := ⟨agg82, siz82, byt82, elem82, arr82, int82, zer82, str82, und82⟩
theorem t83 : (aggT Try.prog 83 = some false) ∧ (sizT Try.prog 83 = some 1) ∧ (bytT Try.prog 83 = some 8) ∧ (elemT Try.prog 83 = none) ∧ (arrT Try.prog 83 = none) ∧ (intT Try.prog 83 = none) ∧ (zerT Try.prog 83 = some [.nilFunc]) ∧ (strT Try.prog 83 = false) ∧ ((Try.prog.underlying 83).isSome = true) := ⟨agg83, siz83, byt83, elem83, arr83, int83, zer83, str83, und83⟩
theorem t84 : (aggT Try.prog 84 = some false) ∧ (sizT Try.prog 84 = some 1) ∧ (bytT Try.prog 84 = some 8) ∧ (elemT Try.prog 84 = none) ∧ (arrT Try.prog 84 = none) ∧ (intT Try.prog 84 = none) ∧ (zerT Try.prog 84 = some [.pointer none]) ∧ (strT Try.prog 84 = false) ∧ ((Try.prog.underlying 84).isSome = true) := ⟨agg84, siz84, byt84, elem84, arr84, int84, zer84, str84, und84⟩
theorem t85 : (aggT Try.prog 85 = some true) ∧ (sizT Try.prog 85 = some 8) ∧ (bytT Try.prog 85 = some 64) ∧ (elemT Try.prog 85 = none) ∧ (arrT Try.prog 85 = some (8, 84)) ∧ (intT Try.prog 85 = none) ∧ (zerT Try.prog 85 = some [.pointer none, .pointer none, .pointer none, .pointer none, .pointer none, .pointer none, .pointer none, .pointer none]) ∧ (Try.prog.eqGuardType (Try.prog.depth) 85 = false) ∧ (sizesOk Try.prog 85 = true) ∧ (placeT Try.prog 85 0 = some (0, 1)) ∧ (placeT Try.prog 85 1 = some (1, 1)) ∧ (placeT Try.prog 85 2 = some (2, 1)) ∧ (placeT Try.prog 85 3 = some (3, 1)) ∧ (placeT Try.prog 85 4 = some (4, 1)) ∧ (placeT Try.prog 85 5 = some (5, 1)) ∧ (placeT Try.prog 85 6 = some (6, 1)) ∧ (placeT Try.prog 85 7 = some (7, 1)) ∧ (placeT Try.prog 85 8 = some (8, 1)) ∧ (placeT Try.prog 85 9 = some (9, 1)) ∧ (placeT Try.prog 85 10 = some (10, 1)) ∧ (placeT Try.prog 85 11 = some (11, 1)) ∧ (strT Try.prog 85 = false) ∧ ((Try.prog.underlying 85).isSome = true) := ⟨agg85, siz85, byt85, elem85, arr85, int85, zer85, eqg85, szs85, plc85_0, plc85_1, plc85_2, plc85_3, plc85_4, plc85_5, plc85_6, plc85_7, plc85_8, plc85_9, plc85_10, plc85_11, str85, und85⟩
theorem t86 : (aggT Try.prog 86 = some true) ∧ (sizT Try.prog 86 = some 9) ∧ (bytT Try.prog 86 = some 72) ∧ (elemT Try.prog 86 = none) ∧ (arrT Try.prog 86 = none) ∧ (intT Try.prog 86 = none) ∧ (zerT Try.prog 86 = some [.int .i64 0, .pointer none, .pointer none, .pointer none, .pointer none, .pointer none, .pointer none, .pointer none, .pointer none]) ∧ (Try.prog.eqGuardType (Try.prog.depth) 86 = false) ∧ (sizesOk Try.prog 86 = true) ∧ (placeT Try.prog 86 0 = some (0, 1)) ∧ (placeT Try.prog 86 1 = some (1, 8)) ∧ (strT Try.prog 86 = false) ∧ (fldT Try.prog 86 0 = some (0, 3)) ∧ (fldT Try.prog 86 1 = some (1, 85)) ∧ ((Try.prog.underlying 86).isSome = true) := ⟨agg86, siz86, byt86, elem86, arr86, int86, zer86, eqg86, szs86, plc86_0, plc86_1, str86, fld86_0, fld86_1, und86⟩
theorem t87 : (aggT Try.prog 87 = some true) ∧ (sizT Try.prog 87 = some 9) ∧ (bytT Try.prog 87 = some 72) ∧ (elemT Try.prog 87 = none) ∧ (arrT Try.prog 87 = none) ∧ (intT Try.prog 87 = none) ∧ (zerT Try.prog 87 = some [.int .i64 0, .pointer none, .pointer none, .pointer none, .pointer none, .pointer none, .pointer none, .pointer none, .pointer none]) ∧ (Try.prog.eqGuardType (Try.prog.depth) 87 = false) ∧ (sizesOk Try.prog 87 = true) ∧ (placeT Try.prog 87 0 = some (0, 1)) ∧ (placeT Try.prog 87 1 = some (1, 8)) ∧ (strT Try.prog 87 = false) ∧ (fldT Try.prog 87 0 = some (0, 3)) ∧ (fldT Try.prog 87 1 = some (1, 85)) ∧ ((Try.prog.underlying 87).isSome = true) := ⟨agg87, siz87, byt87, elem87, arr87, int87, zer87, eqg87, szs87, plc87_0, plc87_1, str87, fld87_0, fld87_1, und87⟩
theorem t88 : (aggT Try.prog 88 = some false) ∧ (sizT Try.prog 88 = some 1) ∧ (bytT Try.prog 88 = some 8) ∧ (elemT Try.prog 88 = none) ∧ (arrT Try.prog 88 = none) ∧ (intT Try.prog 88 = none) ∧ (zerT Try.prog 88 = some [.nilFunc]) ∧ (strT Try.prog 88 = false) ∧ ((Try.prog.underlying 88).isSome = true) := ⟨agg88, siz88, byt88, elem88, arr88, int88, zer88, str88, und88⟩
theorem t89 : (aggT Try.prog 89 = some true) ∧ (sizT Try.prog 89 = some 3) ∧ (bytT Try.prog 89 = some 12) ∧ (elemT Try.prog 89 = none) ∧ (arrT Try.prog 89 = none) ∧ (intT Try.prog 89 = none) ∧ (zerT Try.prog 89 = some [.bool false, .int .u32 0, .int .u32 0]) ∧ (kdT Try.prog 60 89 = some [.bool, .int .u32, .int .u32]) ∧ (Try.prog.eqGuardType (Try.prog.depth) 89 = false) ∧ (sizesOk Try.prog 89 = true) ∧ (placeT Try.prog 89 0 = some (0, 1)) ∧ (placeT Try.prog 89 1 = some (1, 1)) ∧ (placeT Try.prog 89 2 = some (2, 1)) ∧ (strT Try.prog 89 = false) ∧ (fldT Try.prog 89 0 = some (0, 4)) ∧ (fldT Try.prog 89 1 = some (1, 36)) ∧ (fldT Try.prog 89 2 = some (2, 36)) ∧ ((Try.prog.underlying 89).isSome = true) := ⟨agg89, siz89, byt89, elem89, arr89, int89, zer89, kd89, eqg89, szs89, plc89_0, plc89_1, plc89_2, str89, fld89_0, fld89_1, fld89_2, und89⟩
theorem t90 : (aggT Try.prog 90 = some true) ∧ (sizT Try.prog 90 = some 3) ∧ (bytT Try.prog 90 = some 12) ∧ (elemT Try.prog 90 = none) ∧ (arrT Try.prog 90 = none) ∧ (intT Try.prog 90 = none) ∧ (zerT Try.prog 90 = some [.bool false, .int .u32 0, .int .u32 0]) ∧ (kdT Try.prog 60 90 = some [.bool, .int .u32, .int .u32]) ∧ (Try.prog.eqGuardType (Try.prog.depth) 90 = false) ∧ (sizesOk Try.prog 90 = true) ∧ (placeT Try.prog 90 0 = some (0, 1)) ∧ (placeT Try.prog 90 1 = some (1, 1)) ∧ (placeT Try.prog 90 2 = some (2, 1)) ∧ (strT Try.prog 90 = false) ∧ (fldT Try.prog 90 0 = some (0, 4)) ∧ (fldT Try.prog 90 1 = some (1, 36)) ∧ (fldT Try.prog 90 2 = some (2, 36)) ∧ ((Try.prog.underlying 90).isSome = true) := ⟨agg90, siz90, byt90, elem90, arr90, int90, zer90, kd90, eqg90, szs90, plc90_0, plc90_1, plc90_2, str90, fld90_0, fld90_1, fld90_2, und90⟩
theorem t91 : (aggT Try.prog 91 = some false) ∧ (sizT Try.prog 91 = some 1) ∧ (bytT Try.prog 91 = some 24) ∧ (elemT Try.prog 91 = some 48) ∧ (arrT Try.prog 91 = none) ∧ (intT Try.prog 91 = none) ∧ (zerT Try.prog 91 = some [.slice none 0 0]) ∧ (strT Try.prog 91 = false) ∧ ((Try.prog.underlying 91).isSome = true) := ⟨agg91, siz91, byt91, elem91, arr91, int91, zer91, str91, und91⟩
theorem t92 : (aggT Try.prog 92 = some true) ∧ (sizT Try.prog 92 = some 4) ∧ (bytT Try.prog 92 = some 64) ∧ (elemT Try.prog 92 = none) ∧ (arrT Try.prog 92 = none) ∧ (intT Try.prog 92 = none) ∧ (zerT Try.prog 92 = some [.int .i64 0, .slice none 0 0, .slice none 0 0, .bool false]) ∧ (Try.prog.eqGuardType (Try.prog.depth) 92 = false) ∧ (sizesOk Try.prog 92 = true) ∧ (placeT Try.prog 92 0 = some (0, 1)) ∧ (placeT Try.prog 92 1 = some (1, 1)) ∧ (placeT Try.prog 92 2 = some (2, 1)) ∧ (placeT Try.prog 92 3 = some (3, 1)) ∧ (strT Try.prog 92 = false) ∧ (fldT Try.prog 92 0 = some (0, 3)) ∧ (fldT Try.prog 92 1 = some (1, 56)) ∧ (fldT Try.prog 92 2 = some (2, 91)) ∧ (fldT Try.prog 92 3 = some (3, 4)) ∧ ((Try.prog.underlying 92).isSome = true) := ⟨agg92, siz92, byt92, elem92, arr92, int92, zer92, eqg92, szs92, plc92_0, plc92_1, plc92_2, plc92_3, str92, fld92_0, fld92_1, fld92_2, fld92_3, und92⟩
theorem t93 : (aggT Try.prog 93 = some true) ∧ (sizT Try.prog 93 = some 4) ∧ (bytT Try.prog 93 = some 64) ∧ (elemT Try.prog 93 = none) ∧ (arrT Try.prog 93 = none) ∧ (intT Try.prog 93 = none) ∧ (zerT Try.prog 93 = some [.int .i64 0, .slice none 0 0, .slice none 0 0, .bool false]) ∧ (Try.prog.eqGuardType (Try.prog.depth) 93 = false) ∧ (sizesOk Try.prog 93 = true) ∧ (placeT Try.prog 93 0 = some (0, 1)) ∧ (placeT Try.prog 93 1 = some (1, 1)) ∧ (placeT Try.prog 93 2 = some (2, 1)) ∧ (placeT Try.prog 93 3 = some (3, 1)) ∧ (strT Try.prog 93 = false) ∧ (fldT Try.prog 93 0 = some (0, 3)) ∧ (fldT Try.prog 93 1 = some (1, 56)) ∧ (fldT Try.prog 93 2 = some (2, 91)) ∧ (fldT Try.prog 93 3 = some (3, 4)) ∧ ((Try.prog.underlying 93).isSome = true) := ⟨agg93, siz93, byt93, elem93, arr93, int93, zer93, eqg93, szs93, plc93_0, plc93_1, plc93_2, plc93_3, str93, fld93_0, fld93_1, fld93_2, fld93_3, und93⟩
theorem t94 : (aggT Try.prog 94 = some false) ∧ (sizT Try.prog 94 = some 1) ∧ (bytT Try.prog 94 = some 8) ∧ (elemT Try.prog 94 = none) ∧ (arrT Try.prog 94 = none) ∧ (intT Try.prog 94 = none) ∧ (zerT Try.prog 94 = some [.nilFunc]) ∧ (strT Try.prog 94 = false) ∧ ((Try.prog.underlying 94).isSome = true) := ⟨agg94, siz94, byt94, elem94, arr94, int94, zer94, str94, und94⟩
theorem t95 : (aggT Try.prog 95 = some false) ∧ (sizT Try.prog 95 = some 1) ∧ (bytT Try.prog 95 = some 8) ∧ (elemT Try.prog 95 = none) ∧ (arrT Try.prog 95 = none) ∧ (intT Try.prog 95 = none) ∧ (zerT Try.prog 95 = some [.nilFunc]) ∧ (strT Try.prog 95 = false) ∧ ((Try.prog.underlying 95).isSome = true) := ⟨agg95, siz95, byt95, elem95, arr95, int95, zer95, str95, und95⟩
theorem t96 : (aggT Try.prog 96 = some false) ∧ (sizT Try.prog 96 = some 1) ∧ (bytT Try.prog 96 = some 24) ∧ (elemT Try.prog 96 = some 84) ∧ (arrT Try.prog 96 = none) ∧ (intT Try.prog 96 = none) ∧ (zerT Try.prog 96 = some [.slice none 0 0]) ∧ (strT Try.prog 96 = false) ∧ ((Try.prog.underlying 96).isSome = true) := ⟨agg96, siz96, byt96, elem96, arr96, int96, zer96, str96, und96⟩
theorem t97 : (aggT Try.prog 97 = some false) ∧ (sizT Try.prog 97 = some 1) ∧ (bytT Try.prog 97 = some 8) ∧ (elemT Try.prog 97 = none) ∧ (arrT Try.prog 97 = none) ∧ (intT Try.prog 97 = none) ∧ (zerT Try.prog 97 = some [.nilFunc]) ∧ (strT Try.prog 97 = false) ∧ ((Try.prog.underlying 97).isSome = true) := ⟨agg97, siz97, byt97, elem97, arr97, int97, zer97, str97, und97⟩
theorem t98 : (aggT Try.prog 98 = some false) ∧ (sizT Try.prog 98 = some 1) ∧ (bytT Try.prog 98 = some 8) ∧ (elemT Try.prog 98 = none) ∧ (arrT Try.prog 98 = none) ∧ (intT Try.prog 98 = none) ∧ (zerT Try.prog 98 = some [.nilFunc]) ∧ (strT Try.prog 98 = false) ∧ ((Try.prog.underlying 98).isSome = true) := ⟨agg98, siz98, byt98, elem98, arr98, int98, zer98, str98, und98⟩
theorem t99 : (aggT Try.prog 99 = some false) ∧ (sizT Try.prog 99 = some 1) ∧ (bytT Try.prog 99 = some 8) ∧ (elemT Try.prog 99 = none) ∧ (arrT Try.prog 99 = none) ∧ (intT Try.prog 99 = none) ∧ (zerT Try.prog 99 = some [.nilFunc]) ∧ (strT Try.prog 99 = false) ∧ ((Try.prog.underlying 99).isSome = true) := ⟨agg99, siz99, byt99, elem99, arr99, int99, zer99, str99, und99⟩
theorem t100 : (aggT Try.prog 100 = some false) ∧ (sizT Try.prog 100 = some 1) ∧ (bytT Try.prog 100 = some 8) ∧ (elemT Try.prog 100 = none) ∧ (arrT Try.prog 100 = none) ∧ (intT Try.prog 100 = none) ∧ (zerT Try.prog 100 = some [.nilFunc]) ∧ (strT Try.prog 100 = false) ∧ ((Try.prog.underlying 100).isSome = true) := ⟨agg100, siz100, byt100, elem100, arr100, int100, zer100, str100, und100⟩
theorem t101 : (aggT Try.prog 101 = some false) ∧ (sizT Try.prog 101 = some 1) ∧ (bytT Try.prog 101 = some 8) ∧ (elemT Try.prog 101 = none) ∧ (arrT Try.prog 101 = none) ∧ (intT Try.prog 101 = none) ∧ (zerT Try.prog 101 = some [.nilFunc]) ∧ (strT Try.prog 101 = false) ∧ ((Try.prog.underlying 101).isSome = true) := ⟨agg101, siz101, byt101, elem101, arr101, int101, zer101, str101, und101⟩
theorem t102 : (aggT Try.prog 102 = some false) ∧ (sizT Try.prog 102 = some 1) ∧ (bytT Try.prog 102 = some 8) ∧ (elemT Try.prog 102 = none) ∧ (arrT Try.prog 102 = none) ∧ (intT Try.prog 102 = none) ∧ (zerT Try.prog 102 = some [.nilFunc]) ∧ (strT Try.prog 102 = false) ∧ ((Try.prog.underlying 102).isSome = true) := ⟨agg102, siz102, byt102, elem102, arr102, int102, zer102, str102, und102⟩
theorem t103 : (aggT Try.prog 103 = some true) ∧ (sizT Try.prog 103 = some 14) ∧ (bytT Try.prog 103 = some 48) ∧ (elemT Try.prog 103 = none) ∧ (arrT Try.prog 103 = none) ∧ (intT Try.prog 103 = none) ∧ (zerT Try.prog 103 = some [.bool false, .int .u32 0, .bool false, .int .i64 0, .int .u8 0, .int .u8 0, .int .u8 0, .int .u8 0, .int .u8 0, .int .u8 0, .int .u8 0, .int .u8 0, .bool false, .int .i64 0]) ∧ (kdT Try.prog 60 103 = some [.bool, .int .u32, .bool, .int .i64, .int .u8, .int .u8, .int .u8, .int .u8, .int .u8, .int .u8, .int .u8, .int .u8, .bool, .int .i64]) ∧ (Try.prog.eqGuardType (Try.prog.depth) 103 = false) ∧ (sizesOk Try.prog 103 = true) ∧ (placeT Try.prog 103 0 = some (0, 12)) ∧ (placeT Try.prog 103 1 = some (12, 1)) ∧ (placeT Try.prog 103 2 = some (13, 1)) ∧ (strT Try.prog 103 = false) ∧ (fldT Try.prog 103 0 = some (0, 41)) ∧ (fldT Try.prog 103 1 = some (12, 4)) ∧ (fldT Try.prog 103 2 = some (13, 3)) ∧ ((Try.prog.underlying 103).isSome = true) := ⟨agg103, siz103, byt103, elem103, arr103, int103, zer103, kd103, eqg103, szs103, plc103_0, plc103_1, plc103_2, str103, fld103_0, fld103_1, fld103_2, und103⟩
theorem t104 : (aggT Try.prog 104 = some true) ∧ (sizT Try.prog 104 = some 14) ∧ (bytT Try.prog 104 = some 48) ∧ (elemT Try.prog 104 = none) ∧ (arrT Try.prog 104 = none) ∧ (intT Try.prog 104 = none) ∧ (zerT Try.prog 104 = some [.bool false, .int .u32 0, .bool false, .int .i64 0, .int .u8 0, .int .u8 0, .int .u8 0, .int .u8 0, .int .u8 0, .int .u8 0, .int .u8 0, .int .u8 0, .bool false, .int .i64 0]) ∧ (kdT Try.prog 60 104 = some [.bool, .int .u32, .bool, .int .i64, .int .u8, .int .u8, .int .u8, .int .u8, .int .u8, .int .u8, .int .u8, .int .u8, .bool, .int .i64]) ∧ (Try.prog.eqGuardType (Try.prog.depth) 104 = false) ∧ (sizesOk Try.prog 104 = true) ∧ (placeT Try.prog 104 0 = some (0, 12)) ∧ (placeT Try.prog 104 1 = some (12, 1)) ∧ (placeT Try.prog 104 2 = some (13, 1)) ∧ (strT Try.prog 104 = false) ∧ (fldT Try.prog 104 0 = some (0, 41)) ∧ (fldT Try.prog 104 1 = some (12, 4)) ∧ (fldT Try.prog 104 2 = some (13, 3)) ∧ ((Try.prog.underlying 104).isSome = true) := ⟨agg104, siz104, byt104, elem104, arr104, int104, zer104, kd104, eqg104, szs104, plc104_0, plc104_1, plc104_2, str104, fld104_0, fld104_1, fld104_2, und104⟩
theorem t105 : (aggT Try.prog 105 = some false) ∧ (sizT Try.prog 105 = some 1) ∧ (bytT Try.prog 105 = some 0) ∧ (elemT Try.prog 105 = none) ∧ (arrT Try.prog 105 = none) ∧ (intT Try.prog 105 = none) ∧ (strT Try.prog 105 = false) ∧ ((Try.prog.underlying 105).isSome = true) := ⟨agg105, siz105, byt105, elem105, arr105, int105, str105, und105⟩
theorem t106 : (aggT Try.prog 106 = some false) ∧ (sizT Try.prog 106 = some 1) ∧ (bytT Try.prog 106 = some 8) ∧ (elemT Try.prog 106 = none) ∧ (arrT Try.prog 106 = none) ∧ (intT Try.prog 106 = none) ∧ (zerT Try.prog 106 = some [.nilFunc]) ∧ (strT Try.prog 106 = false) ∧ ((Try.prog.underlying 106).isSome = true) := ⟨agg106, siz106, byt106, elem106, arr106, int106, zer106, str106, und106⟩
theorem t107 : (aggT Try.prog 107 = some false) ∧ (sizT Try.prog 107 = some 1) ∧ (bytT Try.prog 107 = some 8) ∧ (elemT Try.prog 107 = none) ∧ (arrT Try.prog 107 = none) ∧ (intT Try.prog 107 = none) ∧ (zerT Try.prog 107 = some [.nilFunc]) ∧ (strT Try.prog 107 = false) ∧ ((Try.prog.underlying 107).isSome = true) := ⟨agg107, siz107, byt107, elem107, arr107, int107, zer107, str107, und107⟩
theorem t108 : (aggT Try.prog 108 = some false) ∧ (sizT Try.prog 108 = some 1) ∧ (bytT Try.prog 108 = some 8) ∧ (elemT Try.prog 108 = none) ∧ (arrT Try.prog 108 = none) ∧ (intT Try.prog 108 = some .u64) ∧ (zerT Try.prog 108 = some [.int .u64 0]) ∧ (strT Try.prog 108 = false) ∧ ((Try.prog.underlying 108).isSome = true) := ⟨agg108, siz108, byt108, elem108, arr108, int108, zer108, str108, und108⟩
theorem t109 : (aggT Try.prog 109 = some false) ∧ (sizT Try.prog 109 = some 1) ∧ (bytT Try.prog 109 = some 8) ∧ (elemT Try.prog 109 = none) ∧ (arrT Try.prog 109 = none) ∧ (intT Try.prog 109 = none) ∧ (zerT Try.prog 109 = some [.nilFunc]) ∧ (strT Try.prog 109 = false) ∧ ((Try.prog.underlying 109).isSome = true) := ⟨agg109, siz109, byt109, elem109, arr109, int109, zer109, str109, und109⟩
theorem t110 : (aggT Try.prog 110 = some false) ∧ (sizT Try.prog 110 = some 1) ∧ (bytT Try.prog 110 = some 8) ∧ (elemT Try.prog 110 = none) ∧ (arrT Try.prog 110 = none) ∧ (intT Try.prog 110 = none) ∧ (zerT Try.prog 110 = some [.nilFunc]) ∧ (strT Try.prog 110 = false) ∧ ((Try.prog.underlying 110).isSome = true) := ⟨agg110, siz110, byt110, elem110, arr110, int110, zer110, str110, und110⟩
theorem t111 : (aggT Try.prog 111 = some false) ∧ (sizT Try.prog 111 = some 1) ∧ (bytT Try.prog 111 = some 8) ∧ (elemT Try.prog 111 = none) ∧ (arrT Try.prog 111 = none) ∧ (intT Try.prog 111 = none) ∧ (zerT Try.prog 111 = some [.nilFunc]) ∧ (strT Try.prog 111 = false) ∧ ((Try.prog.underlying 111).isSome = true) := ⟨agg111, siz111, byt111, elem111, arr111, int111, zer111, str111, und111⟩
theorem t112 : (aggT Try.prog 112 = some false) ∧ (sizT Try.prog 112 = some 1) ∧ (bytT Try.prog 112 = some 0) ∧ (elemT Try.prog 112 = none) ∧ (arrT Try.prog 112 = none) ∧ (intT Try.prog 112 = none) ∧ (strT Try.prog 112 = false) ∧ ((Try.prog.underlying 112).isSome = true) := ⟨agg112, siz112, byt112, elem112, arr112, int112, str112, und112⟩
theorem t113 : (aggT Try.prog 113 = some false) ∧ (sizT Try.prog 113 = some 1) ∧ (bytT Try.prog 113 = some 8) ∧ (elemT Try.prog 113 = none) ∧ (arrT Try.prog 113 = none) ∧ (intT Try.prog 113 = none) ∧ (zerT Try.prog 113 = some [.nilFunc]) ∧ (strT Try.prog 113 = false) ∧ ((Try.prog.underlying 113).isSome = true) := ⟨agg113, siz113, byt113, elem113, arr113, int113, zer113, str113, und113⟩
theorem t114 : (aggT Try.prog 114 = some true) ∧ (sizT Try.prog 114 = some 3) ∧ (bytT Try.prog 114 = some 24) ∧ (elemT Try.prog 114 = none) ∧ (arrT Try.prog 114 = none) ∧ (intT Try.prog 114 = none) ∧ (zerT Try.prog 114 = some [.int .i64 0, .int .i64 0, .int .i64 0]) ∧ (kdT Try.prog 60 114 = some [.int .i64, .int .i64, .int .i64]) ∧ (Try.prog.eqGuardType (Try.prog.depth) 114 = false) ∧ (sizesOk Try.prog 114 = true) ∧ (placeT Try.prog 114 0 = some (0, 1)) ∧ (placeT Try.prog 114 1 = some (1, 1)) ∧ (placeT Try.prog 114 2 = some (2, 1)) ∧ (strT Try.prog 114 = false) ∧ (fldT Try.prog 114 0 = some (0, 3)) ∧ (fldT Try.prog 114 1 = some (1, 80)) ∧ (fldT Try.prog 114 2 = some (2, 2)) ∧ ((Try.prog.underlying 114).isSome = true) := ⟨agg114, siz114, byt114, elem114, arr114, int114, zer114, kd114, eqg114, szs114, plc114_0, plc114_1, plc114_2, str114, fld114_0, fld114_1, fld114_2, und114⟩
theorem t115 : (aggT Try.prog 115 = some true) ∧ (sizT Try.prog 115 = some 3) ∧ (bytT Try.prog 115 = some 24) ∧ (elemT Try.prog 115 = none) ∧ (arrT Try.prog 115 = none) ∧ (intT Try.prog 115 = none) ∧ (zerT Try.prog 115 = some [.int .i64 0, .int .i64 0, .int .i64 0]) ∧ (kdT Try.prog 60 115 = some [.int .i64, .int .i64, .int .i64]) ∧ (Try.prog.eqGuardType (Try.prog.depth) 115 = false) ∧ (sizesOk Try.prog 115 = true) ∧ (placeT Try.prog 115 0 = some (0, 1)) ∧ (placeT Try.prog 115 1 = some (1, 1)) ∧ (placeT Try.prog 115 2 = some (2, 1)) ∧ (strT Try.prog 115 = false) ∧ (fldT Try.prog 115 0 = some (0, 3)) ∧ (fldT Try.prog 115 1 = some (1, 80)) ∧ (fldT Try.prog 115 2 = some (2, 2)) ∧ ((Try.prog.underlying 115).isSome = true) := ⟨agg115, siz115, byt115, elem115, arr115, int115, zer115, kd115, eqg115, szs115, plc115_0, plc115_1, plc115_2, str115, fld115_0, fld115_1, fld115_2, und115⟩
theorem t116 : (aggT Try.prog 116 = some false) ∧ (sizT Try.prog 116 = some 1) ∧ (bytT Try.prog 116 = some 8) ∧ (elemT Try.prog 116 = none) ∧ (arrT Try.prog 116 = none) ∧ (intT Try.prog 116 = none) ∧ (zerT Try.prog 116 = some [.nilFunc]) ∧ (strT Try.prog 116 = false) ∧ ((Try.prog.underlying 116).isSome = true) := ⟨agg116, siz116, byt116, elem116, arr116, int116, zer116, str116, und116⟩
theorem t117 : (aggT Try.prog 117 = some false) ∧ (sizT Try.prog 117 = some 1) ∧ (bytT Try.prog 117 = some 8) ∧ (elemT Try.prog 117 = none) ∧ (arrT Try.prog 117 = none) ∧ (intT Try.prog 117 = none) ∧ (zerT Try.prog 117 = some [.nilFunc]) ∧ (strT Try.prog 117 = false) ∧ ((Try.prog.underlying 117).isSome = true) := ⟨agg117, siz117, byt117, elem117, arr117, int117, zer117, str117, und117⟩
theorem t118 : (aggT Try.prog 118 = some false) ∧ (sizT Try.prog 118 = some 1) ∧ (bytT Try.prog 118 = some 8) ∧ (elemT Try.prog 118 = none) ∧ (arrT Try.prog 118 = none) ∧ (intT Try.prog 118 = none) ∧ (zerT Try.prog 118 = some [.nilFunc]) ∧ (strT Try.prog 118 = false) ∧ ((Try.prog.underlying 118).isSome = true) := ⟨agg118, siz118, byt118, elem118, arr118, int118, zer118, str118, und118⟩
theorem t119 : (aggT Try.prog 119 = some false) ∧ (sizT Try.prog 119 = some 1) ∧ (bytT Try.prog 119 = some 8) ∧ (elemT Try.prog 119 = none) ∧ (arrT Try.prog 119 = none) ∧ (intT Try.prog 119 = none) ∧ (zerT Try.prog 119 = some [.nilFunc]) ∧ (strT Try.prog 119 = false) ∧ ((Try.prog.underlying 119).isSome = true) := ⟨agg119, siz119, byt119, elem119, arr119, int119, zer119, str119, und119⟩
theorem t120 : (aggT Try.prog 120 = some false) ∧ (sizT Try.prog 120 = some 1) ∧ (bytT Try.prog 120 = some 8) ∧ (elemT Try.prog 120 = none) ∧ (arrT Try.prog 120 = none) ∧ (intT Try.prog 120 = none) ∧ (zerT Try.prog 120 = some [.nilFunc]) ∧ (strT Try.prog 120 = false) ∧ ((Try.prog.underlying 120).isSome = true) := ⟨agg120, siz120, byt120, elem120, arr120, int120, zer120, str120, und120⟩
theorem t121 : (aggT Try.prog 121 = some false) ∧ (sizT Try.prog 121 = some 1) ∧ (bytT Try.prog 121 = some 8) ∧ (elemT Try.prog 121 = none) ∧ (arrT Try.prog 121 = none) ∧ (intT Try.prog 121 = none) ∧ (zerT Try.prog 121 = some [.nilFunc]) ∧ (strT Try.prog 121 = false) ∧ ((Try.prog.underlying 121).isSome = true) := ⟨agg121, siz121, byt121, elem121, arr121, int121, zer121, str121, und121⟩
theorem t122 : (aggT Try.prog 122 = some false) ∧ (sizT Try.prog 122 = some 1) ∧ (bytT Try.prog 122 = some 8) ∧ (elemT Try.prog 122 = none) ∧ (arrT Try.prog 122 = none) ∧ (intT Try.prog 122 = none) ∧ (zerT Try.prog 122 = some [.nilFunc]) ∧ (strT Try.prog 122 = false) ∧ ((Try.prog.underlying 122).isSome = true) := ⟨agg122, siz122, byt122, elem122, arr122, int122, zer122, str122, und122⟩
theorem t123 : (aggT Try.prog 123 = some true) ∧ (sizT Try.prog 123 = some 4) ∧ (bytT Try.prog 123 = some 40) ∧ (elemT Try.prog 123 = none) ∧ (arrT Try.prog 123 = none) ∧ (intT Try.prog 123 = none) ∧ (zerT Try.prog 123 = some [.pointer none, .pointer none, .pointer none, .string ByteArray.empty]) ∧ (Try.prog.eqGuardType (Try.prog.depth) 123 = false) ∧ (sizesOk Try.prog 123 = true) ∧ (placeT Try.prog 123 0 = some (0, 1)) ∧ (placeT Try.prog 123 1 = some (1, 1)) ∧ (placeT Try.prog 123 2 = some (2, 1)) ∧ (placeT Try.prog 123 3 = some (3, 1)) ∧ (strT Try.prog 123 = false) ∧ (fldT Try.prog 123 0 = some (0, 17)) ∧ (fldT Try.prog 123 1 = some (1, 17)) ∧ (fldT Try.prog 123 2 = some (2, 17)) ∧ (fldT Try.prog 123 3 = some (3, 9)) ∧ ((Try.prog.underlying 123).isSome = true) := ⟨agg123, siz123, byt123, elem123, arr123, int123, zer123, eqg123, szs123, plc123_0, plc123_1, plc123_2, plc123_3, str123, fld123_0, fld123_1, fld123_2, fld123_3, und123⟩
theorem t124 : (aggT Try.prog 124 = some true) ∧ (sizT Try.prog 124 = some 4) ∧ (bytT Try.prog 124 = some 40) ∧ (elemT Try.prog 124 = none) ∧ (arrT Try.prog 124 = none) ∧ (intT Try.prog 124 = none) ∧ (zerT Try.prog 124 = some [.pointer none, .pointer none, .pointer none, .string ByteArray.empty]) ∧ (Try.prog.eqGuardType (Try.prog.depth) 124 = false) ∧ (sizesOk Try.prog 124 = true) ∧ (placeT Try.prog 124 0 = some (0, 1)) ∧ (placeT Try.prog 124 1 = some (1, 1)) ∧ (placeT Try.prog 124 2 = some (2, 1)) ∧ (placeT Try.prog 124 3 = some (3, 1)) ∧ (strT Try.prog 124 = false) ∧ (fldT Try.prog 124 0 = some (0, 17)) ∧ (fldT Try.prog 124 1 = some (1, 17)) ∧ (fldT Try.prog 124 2 = some (2, 17)) ∧ (fldT Try.prog 124 3 = some (3, 9)) ∧ ((Try.prog.underlying 124).isSome = true) := ⟨agg124, siz124, byt124, elem124, arr124, int124, zer124, eqg124, szs124, plc124_0, plc124_1, plc124_2, plc124_3, str124, fld124_0, fld124_1, fld124_2, fld124_3, und124⟩
theorem t125 : (aggT Try.prog 125 = some true) ∧ (sizT Try.prog 125 = some 0) ∧ (bytT Try.prog 125 = some 0) ∧ (elemT Try.prog 125 = none) ∧ (arrT Try.prog 125 = some (0, 16)) ∧ (intT Try.prog 125 = none) ∧ (zerT Try.prog 125 = some []) ∧ (Try.prog.eqGuardType (Try.prog.depth) 125 = false) ∧ (sizesOk Try.prog 125 = true) ∧ (placeT Try.prog 125 0 = some (0, 1)) ∧ (placeT Try.prog 125 1 = some (1, 1)) ∧ (placeT Try.prog 125 2 = some (2, 1)) ∧ (placeT Try.prog 125 3 = some (3, 1)) ∧ (placeT Try.prog 125 4 = some (4, 1)) ∧ (placeT Try.prog 125 5 = some (5, 1)) ∧ (placeT Try.prog 125 6 = some (6, 1)) ∧ (placeT Try.prog 125 7 = some (7, 1)) ∧ (placeT Try.prog 125 8 = some (8, 1)) ∧ (placeT Try.prog 125 9 = some (9, 1)) ∧ (placeT Try.prog 125 10 = some (10, 1)) ∧ (placeT Try.prog 125 11 = some (11, 1)) ∧ (strT Try.prog 125 = false) ∧ ((Try.prog.underlying 125).isSome = true) := ⟨agg125, siz125, byt125, elem125, arr125, int125, zer125, eqg125, szs125, plc125_0, plc125_1, plc125_2, plc125_3, plc125_4, plc125_5, plc125_6, plc125_7, plc125_8, plc125_9, plc125_10, plc125_11, str125, und125⟩
theorem t126 : (aggT Try.prog 126 = some true) ∧ (sizT Try.prog 126 = some 0) ∧ (bytT Try.prog 126 = some 0) ∧ (elemT Try.prog 126 = none) ∧ (arrT Try.prog 126 = none) ∧ (intT Try.prog 126 = none) ∧ (zerT Try.prog 126 = some []) ∧ (Try.prog.eqGuardType (Try.prog.depth) 126 = false) ∧ (sizesOk Try.prog 126 = true) ∧ (placeT Try.prog 126 0 = some (0, 0)) ∧ (strT Try.prog 126 = false) ∧ (fldT Try.prog 126 0 = some (0, 125)) ∧ ((Try.prog.underlying 126).isSome = true) := ⟨agg126, siz126, byt126, elem126, arr126, int126, zer126, eqg126, szs126, plc126_0, str126, fld126_0, und126⟩
theorem t127 : (aggT Try.prog 127 = some true) ∧ (sizT Try.prog 127 = some 0) ∧ (bytT Try.prog 127 = some 0) ∧ (elemT Try.prog 127 = none) ∧ (arrT Try.prog 127 = none) ∧ (intT Try.prog 127 = none) ∧ (zerT Try.prog 127 = some []) ∧ (Try.prog.eqGuardType (Try.prog.depth) 127 = false) ∧ (sizesOk Try.prog 127 = true) ∧ (placeT Try.prog 127 0 = some (0, 0)) ∧ (strT Try.prog 127 = false) ∧ (fldT Try.prog 127 0 = some (0, 125)) ∧ ((Try.prog.underlying 127).isSome = true) := ⟨agg127, siz127, byt127, elem127, arr127, int127, zer127, eqg127, szs127, plc127_0, str127, fld127_0, und127⟩
theorem t128 : (aggT Try.prog 128 = some false) ∧ (sizT Try.prog 128 = some 1) ∧ (bytT Try.prog 128 = some 1) ∧ (elemT Try.prog 128 = none) ∧ (arrT Try.prog 128 = none) ∧ (intT Try.prog 128 = some .u8) ∧ (zerT Try.prog 128 = some [.int .u8 0]) ∧ (strT Try.prog 128 = false) ∧ ((Try.prog.underlying 128).isSome = true) := ⟨agg128, siz128, byt128, elem128, arr128, int128, zer128, str128, und128⟩
theorem t129 : (aggT Try.prog 129 = some false) ∧ (sizT Try.prog 129 = some 1) ∧ (bytT Try.prog 129 = some 1) ∧ (elemT Try.prog 129 = none) ∧ (arrT Try.prog 129 = none) ∧ (intT Try.prog 129 = some .u8) ∧ (zerT Try.prog 129 = some [.int .u8 0]) ∧ (strT Try.prog 129 = false) ∧ ((Try.prog.underlying 129).isSome = true) := ⟨agg129, siz129, byt129, elem129, arr129, int129, zer129, str129, und129⟩
theorem t130 : (aggT Try.prog 130 = some false) ∧ (sizT Try.prog 130 = some 1) ∧ (bytT Try.prog 130 = some 8) ∧ (elemT Try.prog 130 = none) ∧ (arrT Try.prog 130 = none) ∧ (intT Try.prog 130 = none) ∧ (zerT Try.prog 130 = some [.nilFunc]) ∧ (strT Try.prog 130 = false) ∧ ((Try.prog.underlying 130).isSome = true) := ⟨agg130, siz130, byt130, elem130, arr130, int130, zer130, str130, und130⟩
theorem t131 : (aggT Try.prog 131 = some false) ∧ (sizT Try.prog 131 = some 1) ∧ (bytT Try.prog 131 = some 8) ∧ (elemT Try.prog 131 = none) ∧ (arrT Try.prog 131 = none) ∧ (intT Try.prog 131 = none) ∧ (zerT Try.prog 131 = some [.pointer none]) ∧ (strT Try.prog 131 = false) ∧ ((Try.prog.underlying 131).isSome = true) := ⟨agg131, siz131, byt131, elem131, arr131, int131, zer131, str131, und131⟩
theorem t132 : (aggT Try.prog 132 = some false) ∧ (sizT Try.prog 132 = some 1) ∧ (bytT Try.prog 132 = some 4) ∧ (elemT Try.prog 132 = none) ∧ (arrT Try.prog 132 = none) ∧ (intT Try.prog 132 = some .i32) ∧ (zerT Try.prog 132 = some [.int .i32 0]) ∧ (strT Try.prog 132 = false) ∧ ((Try.prog.underlying 132).isSome = true) := ⟨agg132, siz132, byt132, elem132, arr132, int132, zer132, str132, und132⟩
theorem t133 : (aggT Try.prog 133 = some false) ∧ (sizT Try.prog 133 = some 1) ∧ (bytT Try.prog 133 = some 4) ∧ (elemT Try.prog 133 = none) ∧ (arrT Try.prog 133 = none) ∧ (intT Try.prog 133 = some .i32) ∧ (zerT Try.prog 133 = some [.int .i32 0]) ∧ (strT Try.prog 133 = false) ∧ ((Try.prog.underlying 133).isSome = true) := ⟨agg133, siz133, byt133, elem133, arr133, int133, zer133, str133, und133⟩
theorem t134 : (aggT Try.prog 134 = some true) ∧ (sizT Try.prog 134 = some 11) ∧ (bytT Try.prog 134 = some 48) ∧ (elemT Try.prog 134 = none) ∧ (arrT Try.prog 134 = none) ∧ (intT Try.prog 134 = none) ∧ (zerT Try.prog 134 = some [.int .u64 0, .int .u64 0, .int .u32 0, .int .u8 0, .int .u8 0, .int .u8 0, .int .u8 0, .nilFunc, .pointer none, .int .i32 0, .int .i32 0]) ∧ (Try.prog.eqGuardType (Try.prog.depth) 134 = false) ∧ (sizesOk Try.prog 134 = true) ∧ (placeT Try.prog 134 0 = some (0, 1)) ∧ (placeT Try.prog 134 1 = some (1, 1)) ∧ (placeT Try.prog 134 2 = some (2, 1)) ∧ (placeT Try.prog 134 3 = some (3, 1)) ∧ (placeT Try.prog 134 4 = some (4, 1)) ∧ (placeT Try.prog 134 5 = some (5, 1)) ∧ (placeT Try.prog 134 6 = some (6, 1)) ∧ (placeT Try.prog 134 7 = some (7, 1)) ∧ (placeT Try.prog 134 8 = some (8, 1)) ∧ (placeT Try.prog 134 9 = some (9, 1)) ∧ (placeT Try.prog 134 10 = some (10, 1)) ∧ (strT Try.prog 134 = false) ∧ (fldT Try.prog 134 0 = some (0, 12)) ∧ (fldT Try.prog 134 1 = some (1, 12)) ∧ (fldT Try.prog 134 2 = some (2, 36)) ∧ (fldT Try.prog 134 3 = some (3, 128)) ∧ (fldT Try.prog 134 4 = some (4, 5)) ∧ (fldT Try.prog 134 5 = some (5, 5)) ∧ (fldT Try.prog 134 6 = some (6, 129)) ∧ (fldT Try.prog 134 7 = some (7, 130)) ∧ (fldT Try.prog 134 8 = some (8, 131)) ∧ (fldT Try.prog 134 9 = some (9, 132)) ∧ (fldT Try.prog 134 10 = some (10, 133)) ∧ ((Try.prog.underlying 134).isSome = true) := ⟨agg134, siz134, byt134, elem134, arr134, int134, zer134, eqg134, szs134, plc134_0, plc134_1, plc134_2, plc134_3, plc134_4, plc134_5, plc134_6, plc134_7, plc134_8, plc134_9, plc134_10, str134, fld134_0, fld134_1, fld134_2, fld134_3, fld134_4, fld134_5, fld134_6, fld134_7, fld134_8, fld134_9, fld134_10, und134⟩
theorem t135 : (aggT Try.prog 135 = some true) ∧ (sizT Try.prog 135 = some 11) ∧ (bytT Try.prog 135 = some 48) ∧ (elemT Try.prog 135 = none) ∧ (arrT Try.prog 135 = none) ∧ (intT Try.prog 135 = none) ∧ (zerT Try.prog 135 = some [.int .u64 0, .int .u64 0, .int .u32 0, .int .u8 0, .int .u8 0, .int .u8 0, .int .u8 0, .nilFunc, .pointer none, .int .i32 0, .int .i32 0]) ∧ (Try.prog.eqGuardType (Try.prog.depth) 135 = false) ∧ (sizesOk Try.prog 135 = true) ∧ (placeT Try.prog 135 0 = some (0, 1)) ∧ (placeT Try.prog 135 1 = some (1, 1)) ∧ (placeT Try.prog 135 2 = some (2, 1)) ∧ (placeT Try.prog 135 3 = some (3, 1)) ∧ (placeT Try.prog 135 4 = some (4, 1)) ∧ (placeT Try.prog 135 5 = some (5, 1)) ∧ (placeT Try.prog 135 6 = some (6, 1)) ∧ (placeT Try.prog 135 7 = some (7, 1)) ∧ (placeT Try.prog 135 8 = some (8, 1)) ∧ (placeT Try.prog 135 9 = some (9, 1)) ∧ (placeT Try.prog 135 10 = some (10, 1)) ∧ (strT Try.prog 135 = false) ∧ (fldT Try.prog 135 0 = some (0, 12)) ∧ (fldT Try.prog 135 1 = some (1, 12)) ∧ (fldT Try.prog 135 2 = some (2, 36)) ∧ (fldT Try.prog 135 3 = some (3, 128)) ∧ (fldT Try.prog 135 4 = some (4, 5)) ∧ (fldT Try.prog 135 5 = some (5, 5)) ∧ (fldT Try.prog 135 6 = some (6, 129)) ∧ (fldT Try.prog 135 7 = some (7, 130)) ∧ (fldT Try.prog 135 8 = some (8, 131)) ∧ (fldT Try.prog 135 9 = some (9, 132)) ∧ (fldT Try.prog 135 10 = some (10, 133)) ∧ ((Try.prog.underlying 135).isSome = true) := ⟨agg135, siz135, byt135, elem135, arr135, int135, zer135, eqg135, szs135, plc135_0, plc135_1, plc135_2, plc135_3, plc135_4, plc135_5, plc135_6, plc135_7, plc135_8, plc135_9, plc135_10, str135, fld135_0, fld135_1, fld135_2, fld135_3, fld135_4, fld135_5, fld135_6, fld135_7, fld135_8, fld135_9, fld135_10, und135⟩
theorem t136 : (aggT Try.prog 136 = some false) ∧ (sizT Try.prog 136 = some 1) ∧ (bytT Try.prog 136 = some 8) ∧ (elemT Try.prog 136 = none) ∧ (arrT Try.prog 136 = none) ∧ (intT Try.prog 136 = none) ∧ (zerT Try.prog 136 = some [.nilFunc]) ∧ (strT Try.prog 136 = false) ∧ ((Try.prog.underlying 136).isSome = true) := ⟨agg136, siz136, byt136, elem136, arr136, int136, zer136, str136, und136⟩
theorem t137 : (aggT Try.prog 137 = some false) ∧ (sizT Try.prog 137 = some 1) ∧ (bytT Try.prog 137 = some 8) ∧ (elemT Try.prog 137 = none) ∧ (arrT Try.prog 137 = none) ∧ (intT Try.prog 137 = none) ∧ (zerT Try.prog 137 = some [.pointer none]) ∧ (strT Try.prog 137 = false) ∧ ((Try.prog.underlying 137).isSome = true) := ⟨agg137, siz137, byt137, elem137, arr137, int137, zer137, str137, und137⟩
end Go.Proofs.Ytgmocacalgiaiaa.Ty
