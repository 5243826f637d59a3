/- Facts of this seat's types, each asked of the kernel. -/
import Derived.Test.YtdllcipkdbhhlaaProg
import Derived.Test.YtdllcipkdbhhlaaAbC
import Derived.KernelRfl
set_option linter.all false
namespace Go.Proofs.Ytdllcipkdbhhlaa.Ty
open Go Go.Ab
theorem agg0 : aggT Try.prog 0 = some false := by kernel_rfl
theorem siz0 : sizT Try.prog 0 = some 1 := by kernel_rfl
theorem byt0 : bytT Try.prog 0 = some 0 := by kernel_rfl
theorem elem0 : elemT Try.prog 0 = none := by kernel_rfl
theorem arr0 : arrT Try.prog 0 = none := by kernel_rfl
theorem int0 : intT Try.prog 0 = none := by kernel_rfl
theorem str0 : strT Try.prog 0 = false := by kernel_rfl
theorem agg1 : aggT Try.prog 1 = some false := by kernel_rfl
theorem siz1 : sizT Try.prog 1 = some 1 := by kernel_rfl
theorem byt1 : bytT Try.prog 1 = some 8 := by kernel_rfl
theorem elem1 : elemT Try.prog 1 = none := by kernel_rfl
theorem arr1 : arrT Try.prog 1 = none := by kernel_rfl
theorem int1 : intT Try.prog 1 = none := by kernel_rfl
theorem zer1 : zerT Try.prog 1 = some [.nilFunc] := by kernel_rfl
theorem str1 : strT Try.prog 1 = false := by kernel_rfl
theorem agg2 : aggT Try.prog 2 = some false := by kernel_rfl
theorem siz2 : sizT Try.prog 2 = some 1 := by kernel_rfl
theorem byt2 : bytT Try.prog 2 = some 8 := by kernel_rfl
theorem elem2 : elemT Try.prog 2 = none := by kernel_rfl
theorem arr2 : arrT Try.prog 2 = none := by kernel_rfl
theorem int2 : intT Try.prog 2 = some .i64 := by kernel_rfl
theorem zer2 : zerT Try.prog 2 = some [.int .i64 0] := by kernel_rfl
theorem str2 : strT Try.prog 2 = false := by kernel_rfl
theorem agg3 : aggT Try.prog 3 = some false := by kernel_rfl
theorem siz3 : sizT Try.prog 3 = some 1 := by kernel_rfl
theorem byt3 : bytT Try.prog 3 = some 8 := by kernel_rfl
theorem elem3 : elemT Try.prog 3 = none := by kernel_rfl
theorem arr3 : arrT Try.prog 3 = none := by kernel_rfl
theorem int3 : intT Try.prog 3 = some .i64 := by kernel_rfl
theorem zer3 : zerT Try.prog 3 = some [.int .i64 0] := by kernel_rfl
theorem str3 : strT Try.prog 3 = false := by kernel_rfl
theorem agg4 : aggT Try.prog 4 = some false := by kernel_rfl
theorem siz4 : sizT Try.prog 4 = some 1 := by kernel_rfl
theorem byt4 : bytT Try.prog 4 = some 1 := by kernel_rfl
theorem elem4 : elemT Try.prog 4 = none := by kernel_rfl
theorem arr4 : arrT Try.prog 4 = none := by kernel_rfl
theorem int4 : intT Try.prog 4 = none := by kernel_rfl
theorem zer4 : zerT Try.prog 4 = some [.bool false] := by kernel_rfl
theorem str4 : strT Try.prog 4 = false := by kernel_rfl
theorem agg5 : aggT Try.prog 5 = some false := by kernel_rfl
theorem siz5 : sizT Try.prog 5 = some 1 := by kernel_rfl
theorem byt5 : bytT Try.prog 5 = some 1 := by kernel_rfl
theorem elem5 : elemT Try.prog 5 = none := by kernel_rfl
theorem arr5 : arrT Try.prog 5 = none := by kernel_rfl
theorem int5 : intT Try.prog 5 = some .u8 := by kernel_rfl
theorem zer5 : zerT Try.prog 5 = some [.int .u8 0] := by kernel_rfl
theorem str5 : strT Try.prog 5 = false := by kernel_rfl
theorem agg6 : aggT Try.prog 6 = some false := by kernel_rfl
theorem siz6 : sizT Try.prog 6 = some 1 := by kernel_rfl
theorem byt6 : bytT Try.prog 6 = some 1 := by kernel_rfl
theorem elem6 : elemT Try.prog 6 = none := by kernel_rfl
theorem arr6 : arrT Try.prog 6 = none := by kernel_rfl
theorem int6 : intT Try.prog 6 = some .u8 := by kernel_rfl
theorem zer6 : zerT Try.prog 6 = some [.int .u8 0] := by kernel_rfl
theorem str6 : strT Try.prog 6 = false := by kernel_rfl
theorem agg7 : aggT Try.prog 7 = some true := by kernel_rfl
theorem siz7 : sizT Try.prog 7 = some 4 := by kernel_rfl
theorem byt7 : bytT Try.prog 7 = some 24 := by kernel_rfl
theorem elem7 : elemT Try.prog 7 = none := by kernel_rfl
theorem arr7 : arrT Try.prog 7 = none := by kernel_rfl
theorem int7 : intT Try.prog 7 = none := by kernel_rfl
theorem zer7 : zerT Try.prog 7 = some [.int .i64 0, .int .i64 0, .bool false, .int .u8 0] := by kernel_rfl
theorem kd7 : kdT Try.prog 60 7 = some [.int .i64, .int .i64, .bool, .int .u8] := by kernel_rfl
theorem eqg7 : Try.prog.eqGuardType (Try.prog.depth) 7 = false := by kernel_rfl
theorem szs7 : sizesOk Try.prog 7 = true := by kernel_rfl
theorem plc7_0 : placeT Try.prog 7 0 = some (0, 1) := by kernel_rfl
theorem plc7_1 : placeT Try.prog 7 1 = some (1, 1) := by kernel_rfl
theorem plc7_2 : placeT Try.prog 7 2 = some (2, 1) := by kernel_rfl
theorem plc7_3 : placeT Try.prog 7 3 = some (3, 1) := by kernel_rfl
theorem str7 : strT Try.prog 7 = false := by kernel_rfl
theorem fld7_0 : fldT Try.prog 7 0 = some (0, 2) := by kernel_rfl
theorem fld7_1 : fldT Try.prog 7 1 = some (1, 3) := by kernel_rfl
theorem fld7_2 : fldT Try.prog 7 2 = some (2, 4) := by kernel_rfl
theorem fld7_3 : fldT Try.prog 7 3 = some (3, 6) := by kernel_rfl
theorem agg8 : aggT Try.prog 8 = some true := by kernel_rfl
theorem siz8 : sizT Try.prog 8 = some 4 := by kernel_rfl
theorem byt8 : bytT Try.prog 8 = some 24 := by kernel_rfl
theorem elem8 : elemT Try.prog 8 = none := by kernel_rfl
theorem arr8 : arrT Try.prog 8 = none := by kernel_rfl
theorem int8 : intT Try.prog 8 = none := by kernel_rfl
theorem zer8 : zerT Try.prog 8 = some [.int .i64 0, .int .i64 0, .bool false, .int .u8 0] := by kernel_rfl
theorem kd8 : kdT Try.prog 60 8 = some [.int .i64, .int .i64, .bool, .int .u8] := by kernel_rfl
theorem eqg8 : Try.prog.eqGuardType (Try.prog.depth) 8 = false := by kernel_rfl
theorem szs8 : sizesOk Try.prog 8 = true := by kernel_rfl
theorem plc8_0 : placeT Try.prog 8 0 = some (0, 1) := by kernel_rfl
theorem plc8_1 : placeT Try.prog 8 1 = some (1, 1) := by kernel_rfl
theorem plc8_2 : placeT Try.prog 8 2 = some (2, 1) := by kernel_rfl
theorem plc8_3 : placeT Try.prog 8 3 = some (3, 1) := by kernel_rfl
theorem str8 : strT Try.prog 8 = false := by kernel_rfl
theorem fld8_0 : fldT Try.prog 8 0 = some (0, 2) := by kernel_rfl
theorem fld8_1 : fldT Try.prog 8 1 = some (1, 3) := by kernel_rfl
theorem fld8_2 : fldT Try.prog 8 2 = some (2, 4) := by kernel_rfl
theorem fld8_3 : fldT Try.prog 8 3 = some (3, 6) := by kernel_rfl
theorem agg9 : aggT Try.prog 9 = some false := by kernel_rfl
theorem siz9 : sizT Try.prog 9 = some 1 := by kernel_rfl
theorem byt9 : bytT Try.prog 9 = some 16 := by kernel_rfl
theorem elem9 : elemT Try.prog 9 = none := by kernel_rfl
theorem arr9 : arrT Try.prog 9 = none := by kernel_rfl
theorem int9 : intT Try.prog 9 = none := by kernel_rfl
theorem zer9 : zerT Try.prog 9 = some [.string ByteArray.empty] := by kernel_rfl
theorem str9 : strT Try.prog 9 = true := by kernel_rfl
theorem agg10 : aggT Try.prog 10 = some false := by kernel_rfl
theorem siz10 : sizT Try.prog 10 = some 1 := by kernel_rfl
theorem byt10 : bytT Try.prog 10 = some 16 := by kernel_rfl
theorem elem10 : elemT Try.prog 10 = none := by kernel_rfl
theorem arr10 : arrT Try.prog 10 = none := by kernel_rfl
theorem int10 : intT Try.prog 10 = none := by kernel_rfl
theorem zer10 : zerT Try.prog 10 = some [.string ByteArray.empty] := by kernel_rfl
theorem str10 : strT Try.prog 10 = true := by kernel_rfl
theorem agg11 : aggT Try.prog 11 = some false := by kernel_rfl
theorem siz11 : sizT Try.prog 11 = some 1 := by kernel_rfl
theorem byt11 : bytT Try.prog 11 = some 16 := by kernel_rfl
theorem elem11 : elemT Try.prog 11 = none := by kernel_rfl
theorem arr11 : arrT Try.prog 11 = none := by kernel_rfl
theorem int11 : intT Try.prog 11 = none := by kernel_rfl
theorem zer11 : zerT Try.prog 11 = some [.string ByteArray.empty] := by kernel_rfl
theorem str11 : strT Try.prog 11 = true := by kernel_rfl
theorem agg12 : aggT Try.prog 12 = some false := by kernel_rfl
theorem siz12 : sizT Try.prog 12 = some 1 := by kernel_rfl
theorem byt12 : bytT Try.prog 12 = some 8 := by kernel_rfl
theorem elem12 : elemT Try.prog 12 = none := by kernel_rfl
theorem arr12 : arrT Try.prog 12 = none := by kernel_rfl
theorem int12 : intT Try.prog 12 = some .u64 := by kernel_rfl
theorem zer12 : zerT Try.prog 12 = some [.int .u64 0] := by kernel_rfl
theorem str12 : strT Try.prog 12 = false := by kernel_rfl
theorem agg13 : aggT Try.prog 13 = some true := by kernel_rfl
theorem siz13 : sizT Try.prog 13 = some 2 := by kernel_rfl
theorem byt13 : bytT Try.prog 13 = some 24 := by kernel_rfl
theorem elem13 : elemT Try.prog 13 = none := by kernel_rfl
theorem arr13 : arrT Try.prog 13 = none := by kernel_rfl
theorem int13 : intT Try.prog 13 = none := by kernel_rfl
theorem zer13 : zerT Try.prog 13 = some [.string ByteArray.empty, .int .u64 0] := by kernel_rfl
theorem eqg13 : Try.prog.eqGuardType (Try.prog.depth) 13 = false := by kernel_rfl
theorem szs13 : sizesOk Try.prog 13 = true := by kernel_rfl
theorem plc13_0 : placeT Try.prog 13 0 = some (0, 1) := by kernel_rfl
theorem plc13_1 : placeT Try.prog 13 1 = some (1, 1) := by kernel_rfl
theorem str13 : strT Try.prog 13 = false := by kernel_rfl
theorem fld13_0 : fldT Try.prog 13 0 = some (0, 9) := by kernel_rfl
theorem fld13_1 : fldT Try.prog 13 1 = some (1, 12) := by kernel_rfl
theorem agg14 : aggT Try.prog 14 = some true := by kernel_rfl
theorem siz14 : sizT Try.prog 14 = some 2 := by kernel_rfl
theorem byt14 : bytT Try.prog 14 = some 24 := by kernel_rfl
theorem elem14 : elemT Try.prog 14 = none := by kernel_rfl
theorem arr14 : arrT Try.prog 14 = none := by kernel_rfl
theorem int14 : intT Try.prog 14 = none := by kernel_rfl
theorem zer14 : zerT Try.prog 14 = some [.string ByteArray.empty, .int .u64 0] := by kernel_rfl
theorem eqg14 : Try.prog.eqGuardType (Try.prog.depth) 14 = false := by kernel_rfl
theorem szs14 : sizesOk Try.prog 14 = true := by kernel_rfl
theorem plc14_0 : placeT Try.prog 14 0 = some (0, 1) := by kernel_rfl
theorem plc14_1 : placeT Try.prog 14 1 = some (1, 1) := by kernel_rfl
theorem str14 : strT Try.prog 14 = false := by kernel_rfl
theorem fld14_0 : fldT Try.prog 14 0 = some (0, 9) := by kernel_rfl
theorem fld14_1 : fldT Try.prog 14 1 = some (1, 12) := by kernel_rfl
theorem agg15 : aggT Try.prog 15 = some false := by kernel_rfl
theorem siz15 : sizT Try.prog 15 = some 1 := by kernel_rfl
theorem byt15 : bytT Try.prog 15 = some 8 := by kernel_rfl
theorem elem15 : elemT Try.prog 15 = none := by kernel_rfl
theorem arr15 : arrT Try.prog 15 = none := by kernel_rfl
theorem int15 : intT Try.prog 15 = none := by kernel_rfl
theorem zer15 : zerT Try.prog 15 = some [.pointer none] := by kernel_rfl
theorem str15 : strT Try.prog 15 = false := by kernel_rfl
theorem agg16 : aggT Try.prog 16 = some false := by kernel_rfl
theorem siz16 : sizT Try.prog 16 = some 1 := by kernel_rfl
theorem byt16 : bytT Try.prog 16 = some 8 := by kernel_rfl
theorem elem16 : elemT Try.prog 16 = none := by kernel_rfl
theorem arr16 : arrT Try.prog 16 = none := by kernel_rfl
theorem int16 : intT Try.prog 16 = none := by kernel_rfl
theorem zer16 : zerT Try.prog 16 = some [.pointer none] := by kernel_rfl
theorem str16 : strT Try.prog 16 = false := by kernel_rfl
theorem agg17 : aggT Try.prog 17 = some false := by kernel_rfl
theorem siz17 : sizT Try.prog 17 = some 1 := by kernel_rfl
theorem byt17 : bytT Try.prog 17 = some 8 := by kernel_rfl
theorem elem17 : elemT Try.prog 17 = none := by kernel_rfl
theorem arr17 : arrT Try.prog 17 = none := by kernel_rfl
theorem int17 : intT Try.prog 17 = none := by kernel_rfl
theorem zer17 : zerT Try.prog 17 = some [.pointer none] := by kernel_rfl
theorem str17 : strT Try.prog 17 = false := by kernel_rfl
theorem agg18 : aggT Try.prog 18 = some true := by kernel_rfl
theorem siz18 : sizT Try.prog 18 = some 1 := by kernel_rfl
theorem byt18 : bytT Try.prog 18 = some 8 := by kernel_rfl
theorem elem18 : elemT Try.prog 18 = none := by kernel_rfl
theorem arr18 : arrT Try.prog 18 = none := by kernel_rfl
theorem int18 : intT Try.prog 18 = none := by kernel_rfl
theorem zer18 : zerT Try.prog 18 = some [.pointer none] := by kernel_rfl
theorem eqg18 : Try.prog.eqGuardType (Try.prog.depth) 18 = false := by kernel_rfl
theorem szs18 : sizesOk Try.prog 18 = true := by kernel_rfl
theorem plc18_0 : placeT Try.prog 18 0 = some (0, 1) := by kernel_rfl
theorem str18 : strT Try.prog 18 = false := by kernel_rfl
theorem fld18_0 : fldT Try.prog 18 0 = some (0, 17) := by kernel_rfl
theorem agg19 : aggT Try.prog 19 = some true := by kernel_rfl
theorem siz19 : sizT Try.prog 19 = some 1 := by kernel_rfl
theorem byt19 : bytT Try.prog 19 = some 8 := by kernel_rfl
theorem elem19 : elemT Try.prog 19 = none := by kernel_rfl
theorem arr19 : arrT Try.prog 19 = none := by kernel_rfl
theorem int19 : intT Try.prog 19 = none := by kernel_rfl
theorem zer19 : zerT Try.prog 19 = some [.pointer none] := by kernel_rfl
theorem eqg19 : Try.prog.eqGuardType (Try.prog.depth) 19 = false := by kernel_rfl
theorem szs19 : sizesOk Try.prog 19 = true := by kernel_rfl
theorem plc19_0 : placeT Try.prog 19 0 = some (0, 1) := by kernel_rfl
theorem str19 : strT Try.prog 19 = false := by kernel_rfl
theorem fld19_0 : fldT Try.prog 19 0 = some (0, 17) := by kernel_rfl
theorem agg20 : aggT Try.prog 20 = some false := by kernel_rfl
theorem siz20 : sizT Try.prog 20 = some 1 := by kernel_rfl
theorem byt20 : bytT Try.prog 20 = some 16 := by kernel_rfl
theorem elem20 : elemT Try.prog 20 = none := by kernel_rfl
theorem arr20 : arrT Try.prog 20 = none := by kernel_rfl
theorem int20 : intT Try.prog 20 = none := by kernel_rfl
theorem zer20 : zerT Try.prog 20 = some [.nilIface] := by kernel_rfl
theorem str20 : strT Try.prog 20 = false := by kernel_rfl
theorem agg21 : aggT Try.prog 21 = some false := by kernel_rfl
theorem siz21 : sizT Try.prog 21 = some 1 := by kernel_rfl
theorem byt21 : bytT Try.prog 21 = some 4 := by kernel_rfl
theorem elem21 : elemT Try.prog 21 = none := by kernel_rfl
theorem arr21 : arrT Try.prog 21 = none := by kernel_rfl
theorem int21 : intT Try.prog 21 = some .i32 := by kernel_rfl
theorem zer21 : zerT Try.prog 21 = some [.int .i32 0] := by kernel_rfl
theorem str21 : strT Try.prog 21 = false := by kernel_rfl
theorem agg22 : aggT Try.prog 22 = some false := by kernel_rfl
theorem siz22 : sizT Try.prog 22 = some 1 := by kernel_rfl
theorem byt22 : bytT Try.prog 22 = some 8 := by kernel_rfl
theorem elem22 : elemT Try.prog 22 = none := by kernel_rfl
theorem arr22 : arrT Try.prog 22 = none := by kernel_rfl
theorem int22 : intT Try.prog 22 = some .u64 := by kernel_rfl
theorem zer22 : zerT Try.prog 22 = some [.int .u64 0] := by kernel_rfl
theorem str22 : strT Try.prog 22 = false := by kernel_rfl
theorem agg23 : aggT Try.prog 23 = some false := by kernel_rfl
theorem siz23 : sizT Try.prog 23 = some 1 := by kernel_rfl
theorem byt23 : bytT Try.prog 23 = some 24 := by kernel_rfl
theorem elem23 : elemT Try.prog 23 = some 5 := by kernel_rfl
theorem arr23 : arrT Try.prog 23 = none := by kernel_rfl
theorem int23 : intT Try.prog 23 = none := by kernel_rfl
theorem zer23 : zerT Try.prog 23 = some [.slice none 0 0] := by kernel_rfl
theorem str23 : strT Try.prog 23 = false := by kernel_rfl
theorem agg24 : aggT Try.prog 24 = some false := by kernel_rfl
theorem siz24 : sizT Try.prog 24 = some 1 := by kernel_rfl
theorem byt24 : bytT Try.prog 24 = some 8 := by kernel_rfl
theorem elem24 : elemT Try.prog 24 = none := by kernel_rfl
theorem arr24 : arrT Try.prog 24 = none := by kernel_rfl
theorem int24 : intT Try.prog 24 = none := by kernel_rfl
theorem zer24 : zerT Try.prog 24 = some [.nilFunc] := by kernel_rfl
theorem str24 : strT Try.prog 24 = false := by kernel_rfl
theorem agg25 : aggT Try.prog 25 = some false := by kernel_rfl
theorem siz25 : sizT Try.prog 25 = some 1 := by kernel_rfl
theorem byt25 : bytT Try.prog 25 = some 8 := by kernel_rfl
theorem elem25 : elemT Try.prog 25 = none := by kernel_rfl
theorem arr25 : arrT Try.prog 25 = none := by kernel_rfl
theorem int25 : intT Try.prog 25 = none := by kernel_rfl
theorem zer25 : zerT Try.prog 25 = some [.nilFunc] := by kernel_rfl
theorem str25 : strT Try.prog 25 = false := by kernel_rfl
theorem agg26 : aggT Try.prog 26 = some false := by kernel_rfl
theorem siz26 : sizT Try.prog 26 = some 1 := by kernel_rfl
theorem byt26 : bytT Try.prog 26 = some 8 := by kernel_rfl
theorem elem26 : elemT Try.prog 26 = none := by kernel_rfl
theorem arr26 : arrT Try.prog 26 = none := by kernel_rfl
theorem int26 : intT Try.prog 26 = none := by kernel_rfl
theorem zer26 : zerT Try.prog 26 = some [.nilFunc] := by kernel_rfl
theorem str26 : strT Try.prog 26 = false := by kernel_rfl
theorem agg27 : aggT Try.prog 27 = some false := by kernel_rfl
theorem siz27 : sizT Try.prog 27 = some 1 := by kernel_rfl
theorem byt27 : bytT Try.prog 27 = some 8 := by kernel_rfl
theorem elem27 : elemT Try.prog 27 = none := by kernel_rfl
theorem arr27 : arrT Try.prog 27 = none := by kernel_rfl
theorem int27 : intT Try.prog 27 = none := by kernel_rfl
theorem zer27 : zerT Try.prog 27 = some [.nilFunc] := by kernel_rfl
theorem str27 : strT Try.prog 27 = false := by kernel_rfl
theorem agg28 : aggT Try.prog 28 = some false := by kernel_rfl
theorem siz28 : sizT Try.prog 28 = some 1 := by kernel_rfl
theorem byt28 : bytT Try.prog 28 = some 8 := by kernel_rfl
theorem elem28 : elemT Try.prog 28 = none := by kernel_rfl
theorem arr28 : arrT Try.prog 28 = none := by kernel_rfl
theorem int28 : intT Try.prog 28 = none := by kernel_rfl
theorem zer28 : zerT Try.prog 28 = some [.nilFunc] := by kernel_rfl
theorem str28 : strT Try.prog 28 = false := by kernel_rfl
theorem agg29 : aggT Try.prog 29 = some false := by kernel_rfl
theorem siz29 : sizT Try.prog 29 = some 1 := by kernel_rfl
theorem byt29 : bytT Try.prog 29 = some 8 := by kernel_rfl
theorem elem29 : elemT Try.prog 29 = none := by kernel_rfl
theorem arr29 : arrT Try.prog 29 = none := by kernel_rfl
theorem int29 : intT Try.prog 29 = none := by kernel_rfl
theorem zer29 : zerT Try.prog 29 = some [.nilFunc] := by kernel_rfl
theorem str29 : strT Try.prog 29 = false := by kernel_rfl
theorem agg30 : aggT Try.prog 30 = some false := by kernel_rfl
theorem siz30 : sizT Try.prog 30 = some 1 := by kernel_rfl
theorem byt30 : bytT Try.prog 30 = some 8 := by kernel_rfl
theorem elem30 : elemT Try.prog 30 = none := by kernel_rfl
theorem arr30 : arrT Try.prog 30 = none := by kernel_rfl
theorem int30 : intT Try.prog 30 = none := by kernel_rfl
theorem zer30 : zerT Try.prog 30 = some [.nilFunc] := by kernel_rfl
theorem str30 : strT Try.prog 30 = false := by kernel_rfl
theorem agg31 : aggT Try.prog 31 = some false := by kernel_rfl
theorem siz31 : sizT Try.prog 31 = some 1 := by kernel_rfl
theorem byt31 : bytT Try.prog 31 = some 24 := by kernel_rfl
theorem elem31 : elemT Try.prog 31 = some 23 := by kernel_rfl
theorem arr31 : arrT Try.prog 31 = none := by kernel_rfl
theorem int31 : intT Try.prog 31 = none := by kernel_rfl
theorem zer31 : zerT Try.prog 31 = some [.slice none 0 0] := by kernel_rfl
theorem str31 : strT Try.prog 31 = false := by kernel_rfl
theorem agg32 : aggT Try.prog 32 = some false := by kernel_rfl
theorem siz32 : sizT Try.prog 32 = some 1 := by kernel_rfl
theorem byt32 : bytT Try.prog 32 = some 8 := by kernel_rfl
theorem elem32 : elemT Try.prog 32 = none := by kernel_rfl
theorem arr32 : arrT Try.prog 32 = none := by kernel_rfl
theorem int32 : intT Try.prog 32 = none := by kernel_rfl
theorem zer32 : zerT Try.prog 32 = some [.nilFunc] := by kernel_rfl
theorem str32 : strT Try.prog 32 = false := by kernel_rfl
theorem agg33 : aggT Try.prog 33 = some false := by kernel_rfl
theorem siz33 : sizT Try.prog 33 = some 1 := by kernel_rfl
theorem byt33 : bytT Try.prog 33 = some 8 := by kernel_rfl
theorem elem33 : elemT Try.prog 33 = none := by kernel_rfl
theorem arr33 : arrT Try.prog 33 = none := by kernel_rfl
theorem int33 : intT Try.prog 33 = none := by kernel_rfl
theorem zer33 : zerT Try.prog 33 = some [.nilFunc] := by kernel_rfl
theorem str33 : strT Try.prog 33 = false := by kernel_rfl
theorem agg34 : aggT Try.prog 34 = some false := by kernel_rfl
theorem siz34 : sizT Try.prog 34 = some 1 := by kernel_rfl
theorem byt34 : bytT Try.prog 34 = some 8 := by kernel_rfl
theorem elem34 : elemT Try.prog 34 = none := by kernel_rfl
theorem arr34 : arrT Try.prog 34 = none := by kernel_rfl
theorem int34 : intT Try.prog 34 = none := by kernel_rfl
theorem zer34 : zerT Try.prog 34 = some [.nilFunc] := by kernel_rfl
theorem str34 : strT Try.prog 34 = false := by kernel_rfl
theorem agg35 : aggT Try.prog 35 = some false := by kernel_rfl
theorem siz35 : sizT Try.prog 35 = some 1 := by kernel_rfl
theorem byt35 : bytT Try.prog 35 = some 8 := by kernel_rfl
theorem elem35 : elemT Try.prog 35 = none := by kernel_rfl
theorem arr35 : arrT Try.prog 35 = none := by kernel_rfl
theorem int35 : intT Try.prog 35 = none := by kernel_rfl
theorem zer35 : zerT Try.prog 35 = some [.nilFunc] := by kernel_rfl
theorem str35 : strT Try.prog 35 = false := by kernel_rfl
theorem agg36 : aggT Try.prog 36 = some false := by kernel_rfl
theorem siz36 : sizT Try.prog 36 = some 1 := by kernel_rfl
theorem byt36 : bytT Try.prog 36 = some 8 := by kernel_rfl
theorem elem36 : elemT Try.prog 36 = none := by kernel_rfl
theorem arr36 : arrT Try.prog 36 = none := by kernel_rfl
theorem int36 : intT Try.prog 36 = none := by kernel_rfl
theorem zer36 : zerT Try.prog 36 = some [.nilFunc] := by kernel_rfl
theorem str36 : strT Try.prog 36 = false := by kernel_rfl
theorem agg37 : aggT Try.prog 37 = some false := by kernel_rfl
theorem siz37 : sizT Try.prog 37 = some 1 := by kernel_rfl
theorem byt37 : bytT Try.prog 37 = some 8 := by kernel_rfl
theorem elem37 : elemT Try.prog 37 = none := by kernel_rfl
theorem arr37 : arrT Try.prog 37 = none := by kernel_rfl
theorem int37 : intT Try.prog 37 = some .u64 := by kernel_rfl
theorem zer37 : zerT Try.prog 37 = some [.int .u64 0] := by kernel_rfl
theorem str37 : strT Try.prog 37 = false := by kernel_rfl
theorem agg38 : aggT Try.prog 38 = some false := by kernel_rfl
theorem siz38 : sizT Try.prog 38 = some 1 := by kernel_rfl
theorem byt38 : bytT Try.prog 38 = some 8 := by kernel_rfl
theorem elem38 : elemT Try.prog 38 = none := by kernel_rfl
theorem arr38 : arrT Try.prog 38 = none := by kernel_rfl
theorem int38 : intT Try.prog 38 = none := by kernel_rfl
theorem zer38 : zerT Try.prog 38 = some [.nilFunc] := by kernel_rfl
theorem str38 : strT Try.prog 38 = false := by kernel_rfl
theorem agg39 : aggT Try.prog 39 = some false := by kernel_rfl
theorem siz39 : sizT Try.prog 39 = some 1 := by kernel_rfl
theorem byt39 : bytT Try.prog 39 = some 8 := by kernel_rfl
theorem elem39 : elemT Try.prog 39 = none := by kernel_rfl
theorem arr39 : arrT Try.prog 39 = none := by kernel_rfl
theorem int39 : intT Try.prog 39 = none := by kernel_rfl
theorem zer39 : zerT Try.prog 39 = some [.nilFunc] := by kernel_rfl
theorem str39 : strT Try.prog 39 = false := by kernel_rfl
theorem agg40 : aggT Try.prog 40 = some false := by kernel_rfl
theorem siz40 : sizT Try.prog 40 = some 1 := by kernel_rfl
theorem byt40 : bytT Try.prog 40 = some 8 := by kernel_rfl
theorem elem40 : elemT Try.prog 40 = none := by kernel_rfl
theorem arr40 : arrT Try.prog 40 = none := by kernel_rfl
theorem int40 : intT Try.prog 40 = none := by kernel_rfl
theorem zer40 : zerT Try.prog 40 = some [.nilFunc] := by kernel_rfl
theorem str40 : strT Try.prog 40 = false := by kernel_rfl
theorem agg41 : aggT Try.prog 41 = some false := by kernel_rfl
theorem siz41 : sizT Try.prog 41 = some 1 := by kernel_rfl
theorem byt41 : bytT Try.prog 41 = some 8 := by kernel_rfl
theorem elem41 : elemT Try.prog 41 = none := by kernel_rfl
theorem arr41 : arrT Try.prog 41 = none := by kernel_rfl
theorem int41 : intT Try.prog 41 = none := by kernel_rfl
theorem zer41 : zerT Try.prog 41 = some [.nilFunc] := by kernel_rfl
theorem str41 : strT Try.prog 41 = false := by kernel_rfl
theorem agg42 : aggT Try.prog 42 = some false := by kernel_rfl
theorem siz42 : sizT Try.prog 42 = some 1 := by kernel_rfl
theorem byt42 : bytT Try.prog 42 = some 8 := by kernel_rfl
theorem elem42 : elemT Try.prog 42 = none := by kernel_rfl
theorem arr42 : arrT Try.prog 42 = none := by kernel_rfl
theorem int42 : intT Try.prog 42 = none := by kernel_rfl
theorem zer42 : zerT Try.prog 42 = some [.nilFunc] := by kernel_rfl
theorem str42 : strT Try.prog 42 = false := by kernel_rfl
theorem agg43 : aggT Try.prog 43 = some false := by kernel_rfl
theorem siz43 : sizT Try.prog 43 = some 1 := by kernel_rfl
theorem byt43 : bytT Try.prog 43 = some 8 := by kernel_rfl
theorem elem43 : elemT Try.prog 43 = none := by kernel_rfl
theorem arr43 : arrT Try.prog 43 = none := by kernel_rfl
theorem int43 : intT Try.prog 43 = none := by kernel_rfl
theorem zer43 : zerT Try.prog 43 = some [.nilFunc] := by kernel_rfl
theorem str43 : strT Try.prog 43 = false := by kernel_rfl
theorem agg44 : aggT Try.prog 44 = some false := by kernel_rfl
theorem siz44 : sizT Try.prog 44 = some 1 := by kernel_rfl
theorem byt44 : bytT Try.prog 44 = some 8 := by kernel_rfl
theorem elem44 : elemT Try.prog 44 = none := by kernel_rfl
theorem arr44 : arrT Try.prog 44 = none := by kernel_rfl
theorem int44 : intT Try.prog 44 = none := by kernel_rfl
theorem zer44 : zerT Try.prog 44 = some [.nilFunc] := by kernel_rfl
theorem str44 : strT Try.prog 44 = false := by kernel_rfl
theorem agg45 : aggT Try.prog 45 = some false := by kernel_rfl
theorem siz45 : sizT Try.prog 45 = some 1 := by kernel_rfl
theorem byt45 : bytT Try.prog 45 = some 8 := by kernel_rfl
theorem elem45 : elemT Try.prog 45 = none := by kernel_rfl
theorem arr45 : arrT Try.prog 45 = none := by kernel_rfl
theorem int45 : intT Try.prog 45 = none := by kernel_rfl
theorem zer45 : zerT Try.prog 45 = some [.nilFunc] := by kernel_rfl
theorem str45 : strT Try.prog 45 = false := by kernel_rfl
theorem agg46 : aggT Try.prog 46 = some false := by kernel_rfl
theorem siz46 : sizT Try.prog 46 = some 1 := by kernel_rfl
theorem byt46 : bytT Try.prog 46 = some 8 := by kernel_rfl
theorem elem46 : elemT Try.prog 46 = none := by kernel_rfl
theorem arr46 : arrT Try.prog 46 = none := by kernel_rfl
theorem int46 : intT Try.prog 46 = none := by kernel_rfl
theorem zer46 : zerT Try.prog 46 = some [.nilFunc] := by kernel_rfl
theorem str46 : strT Try.prog 46 = false := by kernel_rfl
theorem agg47 : aggT Try.prog 47 = some false := by kernel_rfl
theorem siz47 : sizT Try.prog 47 = some 1 := by kernel_rfl
theorem byt47 : bytT Try.prog 47 = some 8 := by kernel_rfl
theorem elem47 : elemT Try.prog 47 = none := by kernel_rfl
theorem arr47 : arrT Try.prog 47 = none := by kernel_rfl
theorem int47 : intT Try.prog 47 = none := by kernel_rfl
theorem zer47 : zerT Try.prog 47 = some [.nilFunc] := by kernel_rfl
theorem str47 : strT Try.prog 47 = false := by kernel_rfl
theorem agg48 : aggT Try.prog 48 = some false := by kernel_rfl
theorem siz48 : sizT Try.prog 48 = some 1 := by kernel_rfl
theorem byt48 : bytT Try.prog 48 = some 8 := by kernel_rfl
theorem elem48 : elemT Try.prog 48 = none := by kernel_rfl
theorem arr48 : arrT Try.prog 48 = none := by kernel_rfl
theorem int48 : intT Try.prog 48 = none := by kernel_rfl
theorem zer48 : zerT Try.prog 48 = some [.nilFunc] := by kernel_rfl
theorem str48 : strT Try.prog 48 = false := by kernel_rfl
theorem agg49 : aggT Try.prog 49 = some false := by kernel_rfl
theorem siz49 : sizT Try.prog 49 = some 1 := by kernel_rfl
theorem byt49 : bytT Try.prog 49 = some 0 := by kernel_rfl
theorem elem49 : elemT Try.prog 49 = none := by kernel_rfl
theorem arr49 : arrT Try.prog 49 = none := by kernel_rfl
theorem int49 : intT Try.prog 49 = none := by kernel_rfl
theorem str49 : strT Try.prog 49 = false := by kernel_rfl
theorem agg50 : aggT Try.prog 50 = some false := by kernel_rfl
theorem siz50 : sizT Try.prog 50 = some 1 := by kernel_rfl
theorem byt50 : bytT Try.prog 50 = some 8 := by kernel_rfl
theorem elem50 : elemT Try.prog 50 = none := by kernel_rfl
theorem arr50 : arrT Try.prog 50 = none := by kernel_rfl
theorem int50 : intT Try.prog 50 = none := by kernel_rfl
theorem zer50 : zerT Try.prog 50 = some [.nilFunc] := by kernel_rfl
theorem str50 : strT Try.prog 50 = false := by kernel_rfl
theorem agg51 : aggT Try.prog 51 = some false := by kernel_rfl
theorem siz51 : sizT Try.prog 51 = some 1 := by kernel_rfl
theorem byt51 : bytT Try.prog 51 = some 4 := by kernel_rfl
theorem elem51 : elemT Try.prog 51 = none := by kernel_rfl
theorem arr51 : arrT Try.prog 51 = none := by kernel_rfl
theorem int51 : intT Try.prog 51 = some .u32 := by kernel_rfl
theorem zer51 : zerT Try.prog 51 = some [.int .u32 0] := by kernel_rfl
theorem str51 : strT Try.prog 51 = false := by kernel_rfl
theorem agg52 : aggT Try.prog 52 = some false := by kernel_rfl
theorem siz52 : sizT Try.prog 52 = some 1 := by kernel_rfl
theorem byt52 : bytT Try.prog 52 = some 0 := by kernel_rfl
theorem elem52 : elemT Try.prog 52 = none := by kernel_rfl
theorem arr52 : arrT Try.prog 52 = none := by kernel_rfl
theorem int52 : intT Try.prog 52 = none := by kernel_rfl
theorem str52 : strT Try.prog 52 = false := by kernel_rfl
theorem agg53 : aggT Try.prog 53 = some false := by kernel_rfl
theorem siz53 : sizT Try.prog 53 = some 1 := by kernel_rfl
theorem byt53 : bytT Try.prog 53 = some 8 := by kernel_rfl
theorem elem53 : elemT Try.prog 53 = none := by kernel_rfl
theorem arr53 : arrT Try.prog 53 = none := by kernel_rfl
theorem int53 : intT Try.prog 53 = none := by kernel_rfl
theorem zer53 : zerT Try.prog 53 = some [.nilFunc] := by kernel_rfl
theorem str53 : strT Try.prog 53 = false := by kernel_rfl
theorem agg54 : aggT Try.prog 54 = some false := by kernel_rfl
theorem siz54 : sizT Try.prog 54 = some 1 := by kernel_rfl
theorem byt54 : bytT Try.prog 54 = some 0 := by kernel_rfl
theorem elem54 : elemT Try.prog 54 = none := by kernel_rfl
theorem arr54 : arrT Try.prog 54 = none := by kernel_rfl
theorem int54 : intT Try.prog 54 = none := by kernel_rfl
theorem str54 : strT Try.prog 54 = false := by kernel_rfl
theorem agg55 : aggT Try.prog 55 = some false := by kernel_rfl
theorem siz55 : sizT Try.prog 55 = some 1 := by kernel_rfl
theorem byt55 : bytT Try.prog 55 = some 8 := by kernel_rfl
theorem elem55 : elemT Try.prog 55 = none := by kernel_rfl
theorem arr55 : arrT Try.prog 55 = none := by kernel_rfl
theorem int55 : intT Try.prog 55 = none := by kernel_rfl
theorem zer55 : zerT Try.prog 55 = some [.nilFunc] := by kernel_rfl
theorem str55 : strT Try.prog 55 = false := by kernel_rfl
theorem agg56 : aggT Try.prog 56 = some false := by kernel_rfl
theorem siz56 : sizT Try.prog 56 = some 1 := by kernel_rfl
theorem byt56 : bytT Try.prog 56 = some 8 := by kernel_rfl
theorem elem56 : elemT Try.prog 56 = none := by kernel_rfl
theorem arr56 : arrT Try.prog 56 = none := by kernel_rfl
theorem int56 : intT Try.prog 56 = none := by kernel_rfl
theorem zer56 : zerT Try.prog 56 = some [.nilFunc] := by kernel_rfl
theorem str56 : strT Try.prog 56 = false := by kernel_rfl
theorem agg57 : aggT Try.prog 57 = some true := by kernel_rfl
theorem siz57 : sizT Try.prog 57 = some 4 := by kernel_rfl
theorem byt57 : bytT Try.prog 57 = some 40 := by kernel_rfl
theorem elem57 : elemT Try.prog 57 = none := by kernel_rfl
theorem arr57 : arrT Try.prog 57 = none := by kernel_rfl
theorem int57 : intT Try.prog 57 = none := by kernel_rfl
theorem zer57 : zerT Try.prog 57 = some [.pointer none, .pointer none, .pointer none, .string ByteArray.empty] := by kernel_rfl
theorem eqg57 : Try.prog.eqGuardType (Try.prog.depth) 57 = false := by kernel_rfl
theorem szs57 : sizesOk Try.prog 57 = true := by kernel_rfl
theorem plc57_0 : placeT Try.prog 57 0 = some (0, 1) := by kernel_rfl
theorem plc57_1 : placeT Try.prog 57 1 = some (1, 1) := by kernel_rfl
theorem plc57_2 : placeT Try.prog 57 2 = some (2, 1) := by kernel_rfl
theorem plc57_3 : placeT Try.prog 57 3 = some (3, 1) := by kernel_rfl
theorem str57 : strT Try.prog 57 = false := by kernel_rfl
theorem fld57_0 : fldT Try.prog 57 0 = some (0, 17) := by kernel_rfl
theorem fld57_1 : fldT Try.prog 57 1 = some (1, 17) := by kernel_rfl
theorem fld57_2 : fldT Try.prog 57 2 = some (2, 17) := by kernel_rfl
theorem fld57_3 : fldT Try.prog 57 3 = some (3, 9) := by kernel_rfl
theorem agg58 : aggT Try.prog 58 = some true := by kernel_rfl
theorem siz58 : sizT Try.prog 58 = some 4 := by kernel_rfl
theorem byt58 : bytT Try.prog 58 = some 40 := by kernel_rfl
theorem elem58 : elemT Try.prog 58 = none := by kernel_rfl
theorem arr58 : arrT Try.prog 58 = none := by kernel_rfl
theorem int58 : intT Try.prog 58 = none := by kernel_rfl
theorem zer58 : zerT Try.prog 58 = some [.pointer none, .pointer none, .pointer none, .string ByteArray.empty] := by kernel_rfl
theorem eqg58 : Try.prog.eqGuardType (Try.prog.depth) 58 = false := by kernel_rfl
theorem szs58 : sizesOk Try.prog 58 = true := by kernel_rfl
theorem plc58_0 : placeT Try.prog 58 0 = some (0, 1) := by kernel_rfl
theorem plc58_1 : placeT Try.prog 58 1 = some (1, 1) := by kernel_rfl
theorem plc58_2 : placeT Try.prog 58 2 = some (2, 1) := by kernel_rfl
theorem plc58_3 : placeT Try.prog 58 3 = some (3, 1) := by kernel_rfl
theorem str58 : strT Try.prog 58 = false := by kernel_rfl
theorem fld58_0 : fldT Try.prog 58 0 = some (0, 17) := by kernel_rfl
theorem fld58_1 : fldT Try.prog 58 1 = some (1, 17) := by kernel_rfl
theorem fld58_2 : fldT Try.prog 58 2 = some (2, 17) := by kernel_rfl
theorem fld58_3 : fldT Try.prog 58 3 = some (3, 9) := by kernel_rfl
theorem agg59 : aggT Try.prog 59 = some true := by kernel_rfl
theorem siz59 : sizT Try.prog 59 = some 0 := by kernel_rfl
theorem byt59 : bytT Try.prog 59 = some 0 := by kernel_rfl
theorem elem59 : elemT Try.prog 59 = none := by kernel_rfl
theorem arr59 : arrT Try.prog 59 = some (0, 16) := by kernel_rfl
theorem int59 : intT Try.prog 59 = none := by kernel_rfl
theorem zer59 : zerT Try.prog 59 = some [] := by kernel_rfl
theorem eqg59 : Try.prog.eqGuardType (Try.prog.depth) 59 = false := by kernel_rfl
theorem szs59 : sizesOk Try.prog 59 = true := by kernel_rfl
theorem plc59_0 : placeT Try.prog 59 0 = some (0, 1) := by kernel_rfl
theorem plc59_1 : placeT Try.prog 59 1 = some (1, 1) := by kernel_rfl
theorem plc59_2 : placeT Try.prog 59 2 = some (2, 1) := by kernel_rfl
theorem plc59_3 : placeT Try.prog 59 3 = some (3, 1) := by kernel_rfl
theorem plc59_4 : placeT Try.prog 59 4 = some (4, 1) := by kernel_rfl
theorem plc59_5 : placeT Try.prog 59 5 = some (5, 1) := by kernel_rfl
theorem plc59_6 : placeT Try.prog 59 6 = some (6, 1) := by kernel_rfl
theorem plc59_7 : placeT Try.prog 59 7 = some (7, 1) := by kernel_rfl
theorem plc59_8 : placeT Try.prog 59 8 = some (8, 1) := by kernel_rfl
theorem plc59_9 : placeT Try.prog 59 9 = some (9, 1) := by kernel_rfl
theorem plc59_10 : placeT Try.prog 59 10 = some (10, 1) := by kernel_rfl
theorem plc59_11 : placeT Try.prog 59 11 = some (11, 1) := by kernel_rfl
theorem str59 : strT Try.prog 59 = false := by kernel_rfl
theorem agg60 : aggT Try.prog 60 = some true := by kernel_rfl
theorem siz60 : sizT Try.prog 60 = some 0 := by kernel_rfl
theorem byt60 : bytT Try.prog 60 = some 0 := by kernel_rfl
theorem elem60 : elemT Try.prog 60 = none := by kernel_rfl
theorem arr60 : arrT Try.prog 60 = none := by kernel_rfl
theorem int60 : intT Try.prog 60 = none := by kernel_rfl
theorem zer60 : zerT Try.prog 60 = some [] := by kernel_rfl
theorem eqg60 : Try.prog.eqGuardType (Try.prog.depth) 60 = false := by kernel_rfl
theorem szs60 : sizesOk Try.prog 60 = true := by kernel_rfl
theorem plc60_0 : placeT Try.prog 60 0 = some (0, 0) := by kernel_rfl
theorem str60 : strT Try.prog 60 = false := by kernel_rfl
theorem fld60_0 : fldT Try.prog 60 0 = some (0, 59) := by kernel_rfl
theorem agg61 : aggT Try.prog 61 = some true := by kernel_rfl
theorem siz61 : sizT Try.prog 61 = some 0 := by kernel_rfl
theorem byt61 : bytT Try.prog 61 = some 0 := by kernel_rfl
theorem elem61 : elemT Try.prog 61 = none := by kernel_rfl
theorem arr61 : arrT Try.prog 61 = none := by kernel_rfl
theorem int61 : intT Try.prog 61 = none := by kernel_rfl
theorem zer61 : zerT Try.prog 61 = some [] := by kernel_rfl
theorem eqg61 : Try.prog.eqGuardType (Try.prog.depth) 61 = false := by kernel_rfl
theorem szs61 : sizesOk Try.prog 61 = true := by kernel_rfl
theorem plc61_0 : placeT Try.prog 61 0 = some (0, 0) := by kernel_rfl
theorem str61 : strT Try.prog 61 = false := by kernel_rfl
theorem fld61_0 : fldT Try.prog 61 0 = some (0, 59) := by kernel_rfl
theorem agg62 : aggT Try.prog 62 = some false := by kernel_rfl
theorem siz62 : sizT Try.prog 62 = some 1 := by kernel_rfl
theorem byt62 : bytT Try.prog 62 = some 8 := by kernel_rfl
theorem elem62 : elemT Try.prog 62 = none := by kernel_rfl
theorem arr62 : arrT Try.prog 62 = none := by kernel_rfl
theorem int62 : intT Try.prog 62 = none := by kernel_rfl
theorem zer62 : zerT Try.prog 62 = some [.nilFunc] := by kernel_rfl
theorem str62 : strT Try.prog 62 = false := by kernel_rfl
theorem agg63 : aggT Try.prog 63 = some false := by kernel_rfl
theorem siz63 : sizT Try.prog 63 = some 1 := by kernel_rfl
theorem byt63 : bytT Try.prog 63 = some 1 := by kernel_rfl
theorem elem63 : elemT Try.prog 63 = none := by kernel_rfl
theorem arr63 : arrT Try.prog 63 = none := by kernel_rfl
theorem int63 : intT Try.prog 63 = some .u8 := by kernel_rfl
theorem zer63 : zerT Try.prog 63 = some [.int .u8 0] := by kernel_rfl
theorem str63 : strT Try.prog 63 = false := by kernel_rfl
theorem agg64 : aggT Try.prog 64 = some false := by kernel_rfl
theorem siz64 : sizT Try.prog 64 = some 1 := by kernel_rfl
theorem byt64 : bytT Try.prog 64 = some 1 := by kernel_rfl
theorem elem64 : elemT Try.prog 64 = none := by kernel_rfl
theorem arr64 : arrT Try.prog 64 = none := by kernel_rfl
theorem int64 : intT Try.prog 64 = some .u8 := by kernel_rfl
theorem zer64 : zerT Try.prog 64 = some [.int .u8 0] := by kernel_rfl
theorem str64 : strT Try.prog 64 = false := by kernel_rfl
theorem agg65 : aggT Try.prog 65 = some false := by kernel_rfl
theorem siz65 : sizT Try.prog 65 = some 1 := by kernel_rfl
theorem byt65 : bytT Try.prog 65 = some 8 := by kernel_rfl
theorem elem65 : elemT Try.prog 65 = none := by kernel_rfl
theorem arr65 : arrT Try.prog 65 = none := by kernel_rfl
theorem int65 : intT Try.prog 65 = none := by kernel_rfl
theorem zer65 : zerT Try.prog 65 = some [.nilFunc] := by kernel_rfl
theorem str65 : strT Try.prog 65 = false := by kernel_rfl
theorem agg66 : aggT Try.prog 66 = some false := by kernel_rfl
theorem siz66 : sizT Try.prog 66 = some 1 := by kernel_rfl
theorem byt66 : bytT Try.prog 66 = some 8 := by kernel_rfl
theorem elem66 : elemT Try.prog 66 = none := by kernel_rfl
theorem arr66 : arrT Try.prog 66 = none := by kernel_rfl
theorem int66 : intT Try.prog 66 = none := by kernel_rfl
theorem zer66 : zerT Try.prog 66 = some [.pointer none] := by kernel_rfl
theorem str66 : strT Try.prog 66 = false := by kernel_rfl
theorem agg67 : aggT Try.prog 67 = some false := by kernel_rfl
theorem siz67 : sizT Try.prog 67 = some 1 := by kernel_rfl
theorem byt67 : bytT Try.prog 67 = some 4 := by kernel_rfl
theorem elem67 : elemT Try.prog 67 = none := by kernel_rfl
theorem arr67 : arrT Try.prog 67 = none := by kernel_rfl
theorem int67 : intT Try.prog 67 = some .i32 := by kernel_rfl
theorem zer67 : zerT Try.prog 67 = some [.int .i32 0] := by kernel_rfl
theorem str67 : strT Try.prog 67 = false := by kernel_rfl
theorem agg68 : aggT Try.prog 68 = some false := by kernel_rfl
theorem siz68 : sizT Try.prog 68 = some 1 := by kernel_rfl
theorem byt68 : bytT Try.prog 68 = some 4 := by kernel_rfl
theorem elem68 : elemT Try.prog 68 = none := by kernel_rfl
theorem arr68 : arrT Try.prog 68 = none := by kernel_rfl
theorem int68 : intT Try.prog 68 = some .i32 := by kernel_rfl
theorem zer68 : zerT Try.prog 68 = some [.int .i32 0] := by kernel_rfl
theorem str68 : strT Try.prog 68 = false := by kernel_rfl
theorem agg69 : aggT Try.prog 69 = some true := by kernel_rfl
theorem siz69 : sizT Try.prog 69 = some 11 := by kernel_rfl
theorem byt69 : bytT Try.prog 69 = some 48 := by kernel_rfl
theorem elem69 : elemT Try.prog 69 = none := by kernel_rfl
theorem arr69 : arrT Try.prog 69 = none := by kernel_rfl
theorem int69 : intT Try.prog 69 = none := by kernel_rfl
theorem zer69 : zerT Try.prog 69 = some [.int .u64 0, .int .u64 0, .int .u32 0, .int .u8 0, .int .u8 0, .int .u8 0, .int .u8 0, .nilFunc, .pointer none, .int .i32 0, .int .i32 0] := by kernel_rfl
theorem eqg69 : Try.prog.eqGuardType (Try.prog.depth) 69 = false := by kernel_rfl
theorem szs69 : sizesOk Try.prog 69 = true := by kernel_rfl
theorem plc69_0 : placeT Try.prog 69 0 = some (0, 1) := by kernel_rfl
theorem plc69_1 : placeT Try.prog 69 1 = some (1, 1) := by kernel_rfl
theorem plc69_2 : placeT Try.prog 69 2 = some (2, 1) := by kernel_rfl
theorem plc69_3 : placeT Try.prog 69 3 = some (3, 1) := by kernel_rfl
theorem plc69_4 : placeT Try.prog 69 4 = some (4, 1) := by kernel_rfl
theorem plc69_5 : placeT Try.prog 69 5 = some (5, 1) := by kernel_rfl
theorem plc69_6 : placeT Try.prog 69 6 = some (6, 1) := by kernel_rfl
theorem plc69_7 : placeT Try.prog 69 7 = some (7, 1) := by kernel_rfl
theorem plc69_8 : placeT Try.prog 69 8 = some (8, 1) := by kernel_rfl
theorem plc69_9 : placeT Try.prog 69 9 = some (9, 1) := by kernel_rfl
theorem plc69_10 : placeT Try.prog 69 10 = some (10, 1) := by kernel_rfl
theorem str69 : strT Try.prog 69 = false := by kernel_rfl
theorem fld69_0 : fldT Try.prog 69 0 = some (0, 12) := by kernel_rfl
theorem fld69_1 : fldT Try.prog 69 1 = some (1, 12) := by kernel_rfl
theorem fld69_2 : fldT Try.prog 69 2 = some (2, 51) := by kernel_rfl
theorem fld69_3 : fldT Try.prog 69 3 = some (3, 63) := by kernel_rfl
theorem fld69_4 : fldT Try.prog 69 4 = some (4, 5) := by kernel_rfl
theorem fld69_5 : fldT Try.prog 69 5 = some (5, 5) := by kernel_rfl
theorem fld69_6 : fldT Try.prog 69 6 = some (6, 64) := by kernel_rfl
theorem fld69_7 : fldT Try.prog 69 7 = some (7, 65) := by kernel_rfl
theorem fld69_8 : fldT Try.prog 69 8 = some (8, 66) := by kernel_rfl
theorem fld69_9 : fldT Try.prog 69 9 = some (9, 67) := by kernel_rfl
theorem fld69_10 : fldT Try.prog 69 10 = some (10, 68) := by kernel_rfl
theorem agg70 : aggT Try.prog 70 = some true := by kernel_rfl
theorem siz70 : sizT Try.prog 70 = some 11 := by kernel_rfl
theorem byt70 : bytT Try.prog 70 = some 48 := by kernel_rfl
theorem elem70 : elemT Try.prog 70 = none := by kernel_rfl
theorem arr70 : arrT Try.prog 70 = none := by kernel_rfl
theorem int70 : intT Try.prog 70 = none := by kernel_rfl
theorem zer70 : zerT Try.prog 70 = some [.int .u64 0, .int .u64 0, .int .u32 0, .int .u8 0, .int .u8 0, .int .u8 0, .int .u8 0, .nilFunc, .pointer none, .int .i32 0, .int .i32 0] := by kernel_rfl
theorem eqg70 : Try.prog.eqGuardType (Try.prog.depth) 70 = false := by kernel_rfl
theorem szs70 : sizesOk Try.prog 70 = true := by kernel_rfl
theorem plc70_0 : placeT Try.prog 70 0 = some (0, 1) := by kernel_rfl
theorem plc70_1 : placeT Try.prog 70 1 = some (1, 1) := by kernel_rfl
theorem plc70_2 : placeT Try.prog 70 2 = some (2, 1) := by kernel_rfl
theorem plc70_3 : placeT Try.prog 70 3 = some (3, 1) := by kernel_rfl
theorem plc70_4 : placeT Try.prog 70 4 = some (4, 1) := by kernel_rfl
theorem plc70_5 : placeT Try.prog 70 5 = some (5, 1) := by kernel_rfl
theorem plc70_6 : placeT Try.prog 70 6 = some (6, 1) := by kernel_rfl
theorem plc70_7 : placeT Try.prog 70 7 = some (7, 1) := by kernel_rfl
theorem plc70_8 : placeT Try.prog 70 8 = some (8, 1) := by kernel_rfl
theorem plc70_9 : placeT Try.prog 70 9 = some (9, 1) := by kernel_rfl
theorem plc70_10 : placeT Try.prog 70 10 = some (10, 1) := by kernel_rfl
theorem str70 : strT Try.prog 70 = false := by kernel_rfl
theorem fld70_0 : fldT Try.prog 70 0 = some (0, 12) := by kernel_rfl
theorem fld70_1 : fldT Try.prog 70 1 = some (1, 12) := by kernel_rfl
theorem fld70_2 : fldT Try.prog 70 2 = some (2, 51) := by kernel_rfl
theorem fld70_3 : fldT Try.prog 70 3 = some (3, 63) := by kernel_rfl
theorem fld70_4 : fldT Try.prog 70 4 = some (4, 5) := by kernel_rfl
theorem fld70_5 : fldT Try.prog 70 5 = some (5, 5) := by kernel_rfl
theorem fld70_6 : fldT Try.prog 70 6 = some (6, 64) := by kernel_rfl
theorem fld70_7 : fldT Try.prog 70 7 = some (7, 65) := by kernel_rfl
theorem fld70_8 : fldT Try.prog 70 8 = some (8, 66) := by kernel_rfl
theorem fld70_9 : fldT Try.prog 70 9 = some (9, 67) := by kernel_rfl
theorem fld70_10 : fldT Try.prog 70 10 = some (10, 68) := by kernel_rfl
theorem agg71 : aggT Try.prog 71 = some false := by kernel_rfl
theorem siz71 : sizT Try.prog 71 = some 1 := by kernel_rfl
theorem byt71 : bytT Try.prog 71 = some 8 := by kernel_rfl
theorem elem71 : elemT Try.prog 71 = none := by kernel_rfl
theorem arr71 : arrT Try.prog 71 = none := by kernel_rfl
theorem int71 : intT Try.prog 71 = none := by kernel_rfl
theorem zer71 : zerT Try.prog 71 = some [.pointer none] := by kernel_rfl
theorem str71 : strT Try.prog 71 = false := by kernel_rfl
theorem und0 : (Try.prog.underlying 0).isSome = true := by kernel_rfl
theorem und1 : (Try.prog.underlying 1).isSome = true := by kernel_rfl
theorem und2 : (Try.prog.underlying 2).isSome = true := by kernel_rfl
theorem und3 : (Try.prog.underlying 3).isSome = true := by kernel_rfl
theorem und4 : (Try.prog.underlying 4).isSome = true := by kernel_rfl
theorem und5 : (Try.prog.underlying 5).isSome = true := by kernel_rfl
theorem und6 : (Try.prog.underlying 6).isSome = true := by kernel_rfl
theorem und7 : (Try.prog.underlying 7).isSome = true := by kernel_rfl
theorem und8 : (Try.prog.underlying 8).isSome = true := by kernel_rfl
theorem und9 : (Try.prog.underlying 9).isSome = true := by kernel_rfl
theorem und10 : (Try.prog.underlying 10).isSome = true := by kernel_rfl
theorem und11 : (Try.prog.underlying 11).isSome = true := by kernel_rfl
theorem und12 : (Try.prog.underlying 12).isSome = true := by kernel_rfl
theorem und13 : (Try.prog.underlying 13).isSome = true := by kernel_rfl
theorem und14 : (Try.prog.underlying 14).isSome = true := by kernel_rfl
theorem und15 : (Try.prog.underlying 15).isSome = true := by kernel_rfl
theorem und16 : (Try.prog.underlying 16).isSome = true := by kernel_rfl
theorem und17 : (Try.prog.underlying 17).isSome = true := by kernel_rfl
theorem und18 : (Try.prog.underlying 18).isSome = true := by kernel_rfl
theorem und19 : (Try.prog.underlying 19).isSome = true := by kernel_rfl
theorem und20 : (Try.prog.underlying 20).isSome = true := by kernel_rfl
theorem und21 : (Try.prog.underlying 21).isSome = true := by kernel_rfl
theorem und22 : (Try.prog.underlying 22).isSome = true := by kernel_rfl
theorem und23 : (Try.prog.underlying 23).isSome = true := by kernel_rfl
theorem und24 : (Try.prog.underlying 24).isSome = true := by kernel_rfl
theorem und25 : (Try.prog.underlying 25).isSome = true := by kernel_rfl
theorem und26 : (Try.prog.underlying 26).isSome = true := by kernel_rfl
theorem und27 : (Try.prog.underlying 27).isSome = true := by kernel_rfl
theorem und28 : (Try.prog.underlying 28).isSome = true := by kernel_rfl
theorem und29 : (Try.prog.underlying 29).isSome = true := by kernel_rfl
theorem und30 : (Try.prog.underlying 30).isSome = true := by kernel_rfl
theorem und31 : (Try.prog.underlying 31).isSome = true := by kernel_rfl
theorem und32 : (Try.prog.underlying 32).isSome = true := by kernel_rfl
theorem und33 : (Try.prog.underlying 33).isSome = true := by kernel_rfl
theorem und34 : (Try.prog.underlying 34).isSome = true := by kernel_rfl
theorem und35 : (Try.prog.underlying 35).isSome = true := by kernel_rfl
theorem und36 : (Try.prog.underlying 36).isSome = true := by kernel_rfl
theorem und37 : (Try.prog.underlying 37).isSome = true := by kernel_rfl
theorem und38 : (Try.prog.underlying 38).isSome = true := by kernel_rfl
theorem und39 : (Try.prog.underlying 39).isSome = true := by kernel_rfl
theorem und40 : (Try.prog.underlying 40).isSome = true := by kernel_rfl
theorem und41 : (Try.prog.underlying 41).isSome = true := by kernel_rfl
theorem und42 : (Try.prog.underlying 42).isSome = true := by kernel_rfl
theorem und43 : (Try.prog.underlying 43).isSome = true := by kernel_rfl
theorem und44 : (Try.prog.underlying 44).isSome = true := by kernel_rfl
theorem und45 : (Try.prog.underlying 45).isSome = true := by kernel_rfl
theorem und46 : (Try.prog.underlying 46).isSome = true := by kernel_rfl
theorem und47 : (Try.prog.underlying 47).isSome = true := by kernel_rfl
theorem und48 : (Try.prog.underlying 48).isSome = true := by kernel_rfl
theorem und49 : (Try.prog.underlying 49).isSome = true := by kernel_rfl
theorem und50 : (Try.prog.underlying 50).isSome = true := by kernel_rfl
theorem und51 : (Try.prog.underlying 51).isSome = true := by kernel_rfl
theorem und52 : (Try.prog.underlying 52).isSome = true := by kernel_rfl
theorem und53 : (Try.prog.underlying 53).isSome = true := by kernel_rfl
theorem und54 : (Try.prog.underlying 54).isSome = true := by kernel_rfl
theorem und55 : (Try.prog.underlying 55).isSome = true := by kernel_rfl
theorem und56 : (Try.prog.underlying 56).isSome = true := by kernel_rfl
theorem und57 : (Try.prog.underlying 57).isSome = true := by kernel_rfl
theorem und58 : (Try.prog.underlying 58).isSome = true := by kernel_rfl
theorem und59 : (Try.prog.underlying 59).isSome = true := by kernel_rfl
theorem und60 : (Try.prog.underlying 60).isSome = true := by kernel_rfl
theorem und61 : (Try.prog.underlying 61).isSome = true := by kernel_rfl
theorem und62 : (Try.prog.underlying 62).isSome = true := by kernel_rfl
theorem und63 : (Try.prog.underlying 63).isSome = true := by kernel_rfl
theorem und64 : (Try.prog.underlying 64).isSome = true := by kernel_rfl
theorem und65 : (Try.prog.underlying 65).isSome = true := by kernel_rfl
theorem und66 : (Try.prog.underlying 66).isSome = true := by kernel_rfl
theorem und67 : (Try.prog.underlying 67).isSome = true := by kernel_rfl
theorem und68 : (Try.prog.underlying 68).isSome = true := by kernel_rfl
theorem und69 : (Try.prog.underlying 69).isSome = true := by kernel_rfl
theorem und70 : (Try.prog.underlying 70).isSome = true := by kernel_rfl
theorem und71 : (Try.prog.underlying 71).isSome = true := by kernel_rfl
theorem t0 : (aggT Try.prog 0 = some false) ∧ (sizT Try.prog 0 = some 1) ∧ (bytT Try.prog 0 = some 0) ∧ (elemT Try.prog 0 = none) ∧ (arrT Try.prog 0 = none) ∧ (intT Try.prog 0 = none) ∧ (strT Try.prog 0 = false) ∧ ((Try.prog.underlying 0).isSome = true) := ⟨agg0, siz0, byt0, elem0, arr0, int0, str0, und0⟩
theorem t1 : (aggT Try.prog 1 = some false) ∧ (sizT Try.prog 1 = some 1) ∧ (bytT Try.prog 1 = some 8) ∧ (elemT Try.prog 1 = none) ∧ (arrT Try.prog 1 = none) ∧ (intT Try.prog 1 = none) ∧ (zerT Try.prog 1 = some [.nilFunc]) ∧ (strT Try.prog 1 = false) ∧ ((Try.prog.underlying 1).isSome = true) := ⟨agg1, siz1, byt1, elem1, arr1, int1, zer1, str1, und1⟩
theorem t2 : (aggT Try.prog 2 = some false) ∧ (sizT Try.prog 2 = some 1) ∧ (bytT Try.prog 2 = some 8) ∧ (elemT Try.prog 2 = none) ∧ (arrT Try.prog 2 = none) ∧ (intT Try.prog 2 = some .i64) ∧ (zerT Try.prog 2 = some [.int .i64 0]) ∧ (strT Try.prog 2 = false) ∧ ((Try.prog.underlying 2).isSome = true) := ⟨agg2, siz2, byt2, elem2, arr2, int2, zer2, str2, und2⟩
theorem t3 : (aggT Try.prog 3 = some false) ∧ (sizT Try.prog 3 = some 1) ∧ (bytT Try.prog 3 = some 8) ∧ (elemT Try.prog 3 = none) ∧ (arrT Try.prog 3 = none) ∧ (intT Try.prog 3 = some .i64) ∧ (zerT Try.prog 3 = some [.int .i64 0]) ∧ (strT Try.prog 3 = false) ∧ ((Try.prog.underlying 3).isSome = true) := ⟨agg3, siz3, byt3, elem3, arr3, int3, zer3, str3, und3⟩
theorem t4 : (aggT Try.prog 4 = some false) ∧ (sizT Try.prog 4 = some 1) ∧ (bytT Try.prog 4 = some 1) ∧ (elemT Try.prog 4 = none) ∧ (arrT Try.prog 4 = none) ∧ (intT Try.prog 4 = none) ∧ (zerT Try.prog 4 = some [.bool false]) ∧ (strT Try.prog 4 = false) ∧ ((Try.prog.underlying 4).isSome = true) := ⟨agg4, siz4, byt4, elem4, arr4, int4, zer4, str4, und4⟩
theorem t5 : (aggT Try.prog 5 = some false) ∧ (sizT Try.prog 5 = some 1) ∧ (bytT Try.prog 5 = some 1) ∧ (elemT Try.prog 5 = none) ∧ (arrT Try.prog 5 = none) ∧ (intT Try.prog 5 = some .u8) ∧ (zerT Try.prog 5 = some [.int .u8 0]) ∧ (strT Try.prog 5 = false) ∧ ((Try.prog.underlying 5).isSome = true) := ⟨agg5, siz5, byt5, elem5, arr5, int5, zer5, str5, und5⟩
theorem t6 : (aggT Try.prog 6 = some false) ∧ (sizT Try.prog 6 = some 1) ∧ (bytT Try.prog 6 = some 1) ∧ (elemT Try.prog 6 = none) ∧ (arrT Try.prog 6 = none) ∧ (intT Try.prog 6 = some .u8) ∧ (zerT Try.prog 6 = some [.int .u8 0]) ∧ (strT Try.prog 6 = false) ∧ ((Try.prog.underlying 6).isSome = true) := ⟨agg6, siz6, byt6, elem6, arr6, int6, zer6, str6, und6⟩
theorem t7 : (aggT Try.prog 7 = some true) ∧ (sizT Try.prog 7 = some 4) ∧ (bytT Try.prog 7 = some 24) ∧ (elemT Try.prog 7 = none) ∧ (arrT Try.prog 7 = none) ∧ (intT Try.prog 7 = none) ∧ (zerT Try.prog 7 = some [.int .i64 0, .int .i64 0, .bool false, .int .u8 0]) ∧ (kdT Try.prog 60 7 = some [.int .i64, .int .i64, .bool, .int .u8]) ∧ (Try.prog.eqGuardType (Try.prog.depth) 7 = false) ∧ (sizesOk Try.prog 7 = true) ∧ (placeT Try.prog 7 0 = some (0, 1)) ∧ (placeT Try.prog 7 1 = some (1, 1)) ∧ (placeT Try.prog 7 2 = some (2, 1)) ∧ (placeT Try.prog 7 3 = some (3, 1)) ∧ (strT Try.prog 7 = false) ∧ (fldT Try.prog 7 0 = some (0, 2)) ∧ (fldT Try.prog 7 1 = some (1, 3)) ∧ (fldT Try.prog 7 2 = some (2, 4)) ∧ (fldT Try.prog 7 3 = some (3, 6)) ∧ ((Try.prog.underlying 7).isSome = true) := ⟨agg7, siz7, byt7, elem7, arr7, int7, zer7, kd7, eqg7, szs7, plc7_0, plc7_1, plc7_2, plc7_3, str7, fld7_0, fld7_1, fld7_2, fld7_3, und7⟩
theorem t8 : (aggT Try.prog 8 = some true) ∧ (sizT Try.prog 8 = some 4) ∧ (bytT Try.prog 8 = some 24) ∧ (elemT Try.prog 8 = none) ∧ (arrT Try.prog 8 = none) ∧ (intT Try.prog 8 = none) ∧ (zerT Try.prog 8 = some [.int .i64 0, .int .i64 0, .bool false, .int .u8 0]) ∧ (kdT Try.prog 60 8 = some [.int .i64, .int .i64, .bool, .int .u8]) ∧ (Try.prog.eqGuardType (Try.prog.depth) 8 = false) ∧ (sizesOk Try.prog 8 = true) ∧ (placeT Try.prog 8 0 = some (0, 1)) ∧ (placeT Try.prog 8 1 = some (1, 1)) ∧ (placeT Try.prog 8 2 = some (2, 1)) ∧ (placeT Try.prog 8 3 = some (3, 1)) ∧ (strT Try.prog 8 = false) ∧ (fldT Try.prog 8 0 = some (0, 2)) ∧ (fldT Try.prog 8 1 = some (1, 3)) ∧ (fldT Try.prog 8 2 = some (2, 4)) ∧ (fldT Try.prog 8 3 = some (3, 6)) ∧ ((Try.prog.underlying 8).isSome = true) := ⟨agg8, siz8, byt8, elem8, arr8, int8, zer8, kd8, eqg8, szs8, plc8_0, plc8_1, plc8_2, plc8_3, str8, fld8_0, fld8_1, fld8_2, fld8_3, und8⟩
theorem t9 : (aggT Try.prog 9 = some false) ∧ (sizT Try.prog 9 = some 1) ∧ (bytT Try.prog 9 = some 16) ∧ (elemT Try.prog 9 = none) ∧ (arrT Try.prog 9 = none) ∧ (intT Try.prog 9 = none) ∧ (zerT Try.prog 9 = some [.string ByteArray.empty]) ∧ (strT Try.prog 9 = true) ∧ ((Try.prog.underlying 9).isSome = true) := ⟨agg9, siz9, byt9, elem9, arr9, int9, zer9, str9, und9⟩
theorem t10 : (aggT Try.prog 10 = some false) ∧ (sizT Try.prog 10 = some 1) ∧ (bytT Try.prog 10 = some 16) ∧ (elemT Try.prog 10 = none) ∧ (arrT Try.prog 10 = none) ∧ (intT Try.prog 10 = none) ∧ (zerT Try.prog 10 = some [.string ByteArray.empty]) ∧ (strT Try.prog 10 = true) ∧ ((Try.prog.underlying 10).isSome = true) := ⟨agg10, siz10, byt10, elem10, arr10, int10, zer10, str10, und10⟩
theorem t11 : (aggT Try.prog 11 = some false) ∧ (sizT Try.prog 11 = some 1) ∧ (bytT Try.prog 11 = some 16) ∧ (elemT Try.prog 11 = none) ∧ (arrT Try.prog 11 = none) ∧ (intT Try.prog 11 = none) ∧ (zerT Try.prog 11 = some [.string ByteArray.empty]) ∧ (strT Try.prog 11 = true) ∧ ((Try.prog.underlying 11).isSome = true) := ⟨agg11, siz11, byt11, elem11, arr11, int11, zer11, str11, und11⟩
theorem t12 : (aggT Try.prog 12 = some false) ∧ (sizT Try.prog 12 = some 1) ∧ (bytT Try.prog 12 = some 8) ∧ (elemT Try.prog 12 = none) ∧ (arrT Try.prog 12 = none) ∧ (intT Try.prog 12 = some .u64) ∧ (zerT Try.prog 12 = some [.int .u64 0]) ∧ (strT Try.prog 12 = false) ∧ ((Try.prog.underlying 12).isSome = true) := ⟨agg12, siz12, byt12, elem12, arr12, int12, zer12, str12, und12⟩
theorem t13 : (aggT Try.prog 13 = some true) ∧ (sizT Try.prog 13 = some 2) ∧ (bytT Try.prog 13 = some 24) ∧ (elemT Try.prog 13 = none) ∧ (arrT Try.prog 13 = none) ∧ (intT Try.prog 13 = none) ∧ (zerT Try.prog 13 = some [.string ByteArray.empty, .int .u64 0]) ∧ (Try.prog.eqGuardType (Try.prog.depth) 13 = false) ∧ (sizesOk Try.prog 13 = true) ∧ (placeT Try.prog 13 0 = some (0, 1)) ∧ (placeT Try.prog 13 1 = some (1, 1)) ∧ (strT Try.prog 13 = false) ∧ (fldT Try.prog 13 0 = some (0, 9)) ∧ (fldT Try.prog 13 1 = some (1, 12)) ∧ ((Try.prog.underlying 13).isSome = true) := ⟨agg13, siz13, byt13, elem13, arr13, int13, zer13, eqg13, szs13, plc13_0, plc13_1, str13, fld13_0, fld13_1, und13⟩
theorem t14 : (aggT Try.prog 14 = some true) ∧ (sizT Try.prog 14 = some 2) ∧ (bytT Try.prog 14 = some 24) ∧ (elemT Try.prog 14 = none) ∧ (arrT Try.prog 14 = none) ∧ (intT Try.prog 14 = none) ∧ (zerT Try.prog 14 = some [.string ByteArray.empty, .int .u64 0]) ∧ (Try.prog.eqGuardType (Try.prog.depth) 14 = false) ∧ (sizesOk Try.prog 14 = true) ∧ (placeT Try.prog 14 0 = some (0, 1)) ∧ (placeT Try.prog 14 1 = some (1, 1)) ∧ (strT Try.prog 14 = false) ∧ (fldT Try.prog 14 0 = some (0, 9)) ∧ (fldT Try.prog 14 1 = some (1, 12)) ∧ ((Try.prog.underlying 14).isSome = true) := ⟨agg14, siz14, byt14, elem14, arr14, int14, zer14, eqg14, szs14, plc14_0, plc14_1, str14, fld14_0, fld14_1, und14⟩
theorem t15 : (aggT Try.prog 15 = some false) ∧ (sizT Try.prog 15 = some 1) ∧ (bytT Try.prog 15 = some 8) ∧ (elemT Try.prog 15 = none) ∧ (arrT Try.prog 15 = none) ∧ (intT Try.prog 15 = none) ∧ (zerT Try.prog 15 = some [.pointer none]) ∧ (strT Try.prog 15 = false) ∧ ((Try.prog.underlying 15).isSome = true) := ⟨agg15, siz15, byt15, elem15, arr15, int15, zer15, str15, und15⟩
theorem t16 : (aggT Try.prog 16 = some false) ∧ (sizT Try.prog 16 = some 1) ∧ (bytT Try.prog 16 = some 8) ∧ (elemT Try.prog 16 = none) ∧ (arrT Try.prog 16 = none) ∧ (intT Try.prog 16 = none) ∧ (zerT Try.prog 16 = some [.pointer none]) ∧ (strT Try.prog 16 = false) ∧ ((Try.prog.underlying 16).isSome = true) := ⟨agg16, siz16, byt16, elem16, arr16, int16, zer16, str16, und16⟩
theorem t17 : (aggT Try.prog 17 = some false) ∧ (sizT Try.prog 17 = some 1) ∧ (bytT Try.prog 17 = some 8) ∧ (elemT Try.prog 17 = none) ∧ (arrT Try.prog 17 = none) ∧ (intT Try.prog 17 = none) ∧ (zerT Try.prog 17 = some [.pointer none]) ∧ (strT Try.prog 17 = false) ∧ ((Try.prog.underlying 17).isSome = true) := ⟨agg17, siz17, byt17, elem17, arr17, int17, zer17, str17, und17⟩
theorem t18 : (aggT Try.prog 18 = some true) ∧ (sizT Try.prog 18 = some 1) ∧ (bytT Try.prog 18 = some 8) ∧ (elemT Try.prog 18 = none) ∧ (arrT Try.prog 18 = none) ∧ (intT Try.prog 18 = none) ∧ (zerT Try.prog 18 = some [.pointer none]) ∧ (Try.prog.eqGuardType (Try.prog.depth) 18 = false) ∧ (sizesOk Try.prog 18 = true) ∧ (placeT Try.prog 18 0 = some (0, 1)) ∧ (strT Try.prog 18 = false) ∧ (fldT Try.prog 18 0 = some (0, 17)) ∧ ((Try.prog.underlying 18).isSome = true) := ⟨agg18, siz18, byt18, elem18, arr18, int18, zer18, eqg18, szs18, plc18_0, str18, fld18_0, und18⟩
theorem t19 : (aggT Try.prog 19 = some true) ∧ (sizT Try.prog 19 = some 1) ∧ (bytT Try.prog 19 = some 8) ∧ (elemT Try.prog 19 = none) ∧ (arrT Try.prog 19 = none) ∧ (intT Try.prog 19 = none) ∧ (zerT Try.prog 19 = some [.pointer none]) ∧ (Try.prog.eqGuardType (Try.prog.depth) 19 = false) ∧ (sizesOk Try.prog 19 = true) ∧ (placeT Try.prog 19 0 = some (0, 1)) ∧ (strT Try.prog 19 = false) ∧ (fldT Try.prog 19 0 = some (0, 17)) ∧ ((Try.prog.underlying 19).isSome = true) := ⟨agg19, siz19, byt19, elem19, arr19, int19, zer19, eqg19, szs19, plc19_0, str19, fld19_0, und19⟩
theorem t20 : (aggT Try.prog 20 = some false) ∧ (sizT Try.prog 20 = some 1) ∧ (bytT Try.prog 20 = some 16) ∧ (elemT Try.prog 20 = none) ∧ (arrT Try.prog 20 = none) ∧ (intT Try.prog 20 = none) ∧ (zerT Try.prog 20 = some [.nilIface]) ∧ (strT Try.prog 20 = false) ∧ ((Try.prog.underlying 20).isSome = true) := ⟨agg20, siz20, byt20, elem20, arr20, int20, zer20, str20, und20⟩
theorem t21 : (aggT Try.prog 21 = some false) ∧ (sizT Try.prog 21 = some 1) ∧ (bytT Try.prog 21 = some 4) ∧ (elemT Try.prog 21 = none) ∧ (arrT Try.prog 21 = none) ∧ (intT Try.prog 21 = some .i32) ∧ (zerT Try.prog 21 = some [.int .i32 0]) ∧ (strT Try.prog 21 = false) ∧ ((Try.prog.underlying 21).isSome = true) := ⟨agg21, siz21, byt21, elem21, arr21, int21, zer21, str21, und21⟩
theorem t22 : (aggT Try.prog 22 = some false) ∧ (sizT Try.prog 22 = some 1) ∧ (bytT Try.prog 22 = some 8) ∧ (elemT Try.prog 22 = none) ∧ (arrT Try.prog 22 = none) ∧ (intT Try.prog 22 = some .u64) ∧ (zerT Try.prog 22 = some [.int .u64 0]) ∧ (strT Try.prog 22 = false) ∧ ((Try.prog.underlying 22).isSome = true) := ⟨agg22, siz22, byt22, elem22, arr22, int22, zer22, str22, und22⟩
theorem t23 : (aggT Try.prog 23 = some false) ∧ (sizT Try.prog 23 = some 1) ∧ (bytT Try.prog 23 = some 24) ∧ (elemT Try.prog 23 = some 5) ∧ (arrT Try.prog 23 = none) ∧ (intT Try.prog 23 = none) ∧ (zerT Try.prog 23 = some [.slice none 0 0]) ∧ (strT Try.prog 23 = false) ∧ ((Try.prog.underlying 23).isSome = true) := ⟨agg23, siz23, byt23, elem23, arr23, int23, zer23, str23, und23⟩
theorem t24 : (aggT Try.prog 24 = some false) ∧ (sizT Try.prog 24 = some 1) ∧ (bytT Try.prog 24 = some 8) ∧ (elemT Try.prog 24 = none) ∧ (arrT Try.prog 24 = none) ∧ (intT Try.prog 24 = none) ∧ (zerT Try.prog 24 = some [.nilFunc]) ∧ (strT Try.prog 24 = false) ∧ ((Try.prog.underlying 24).isSome = true) := ⟨agg24, siz24, byt24, elem24, arr24, int24, zer24, str24, und24⟩
theorem t25 : (aggT Try.prog 25 = some false) ∧ (sizT Try.prog 25 = some 1) ∧ (bytT Try.prog 25 = some 8) ∧ (elemT Try.prog 25 = none) ∧ (arrT Try.prog 25 = none) ∧ (intT Try.prog 25 = none) ∧ (zerT Try.prog 25 = some [.nilFunc]) ∧ (strT Try.prog 25 = false) ∧ ((Try.prog.underlying 25).isSome = true) := ⟨agg25, siz25, byt25, elem25, arr25, int25, zer25, str25, und25⟩
theorem t26 : (aggT Try.prog 26 = some false) ∧ (sizT Try.prog 26 = some 1) ∧ (bytT Try.prog 26 = some 8) ∧ (elemT Try.prog 26 = none) ∧ (arrT Try.prog 26 = none) ∧ (intT Try.prog 26 = none) ∧ (zerT Try.prog 26 = some [.nilFunc]) ∧ (strT Try.prog 26 = false) ∧ ((Try.prog.underlying 26).isSome = true) := ⟨agg26, siz26, byt26, elem26, arr26, int26, zer26, str26, und26⟩
theorem t27 : (aggT Try.prog 27 = some false) ∧ (sizT Try.prog 27 = some 1) ∧ (bytT Try.prog 27 = some 8) ∧ (elemT Try.prog 27 = none) ∧ (arrT Try.prog 27 = none) ∧ (intT Try.prog 27 = none) ∧ (zerT Try.prog 27 = some [.nilFunc]) ∧ (strT Try.prog 27 = false) ∧ ((Try.prog.underlying 27).isSome = true) := ⟨agg27, siz27, byt27, elem27, arr27, int27, zer27, str27, und27⟩
theorem t28 : (aggT Try.prog 28 = some false) ∧ (sizT Try.prog 28 = some 1) ∧ (bytT Try.prog 28 = some 8) ∧ (elemT Try.prog 28 = none) ∧ (arrT Try.prog 28 = none) ∧ (intT Try.prog 28 = none) ∧ (zerT Try.prog 28 = some [.nilFunc]) ∧ (strT Try.prog 28 = false) ∧ ((Try.prog.underlying 28).isSome = true) := ⟨agg28, siz28, byt28, elem28, arr28, int28, zer28, str28, und28⟩
theorem t29 : (aggT Try.prog 29 = some false) ∧ (sizT Try.prog 29 = some 1) ∧ (bytT Try.prog 29 = some 8) ∧ (elemT Try.prog 29 = none) ∧ (arrT Try.prog 29 = none) ∧ (intT Try.prog 29 = none) ∧ (zerT Try.prog 29 = some [.nilFunc]) ∧ (strT Try.prog 29 = false) ∧ ((Try.prog.underlying 29).isSome = true) := ⟨agg29, siz29, byt29, elem29, arr29, int29, zer29, str29, und29⟩
theorem t30 : (aggT Try.prog 30 = some false) ∧ (sizT Try.prog 30 = some 1) ∧ (bytT Try.prog 30 = some 8) ∧ (elemT Try.prog 30 = none) ∧ (arrT Try.prog 30 = none) ∧ (intT Try.prog 30 = none) ∧ (zerT Try.prog 30 = some [.nilFunc]) ∧ (strT Try.prog 30 = false) ∧ ((Try.prog.underlying 30).isSome = true) := ⟨agg30, siz30, byt30, elem30, arr30, int30, zer30, str30, und30⟩
theorem t31 : (aggT Try.prog 31 = some false) ∧ (sizT Try.prog 31 = some 1) ∧ (bytT Try.prog 31 = some 24) ∧ (elemT Try.prog 31 = some 23) ∧ (arrT Try.prog 31 = none) ∧ (intT Try.prog 31 = none) ∧ (zerT Try.prog 31 = some [.slice none 0 0]) ∧ (strT Try.prog 31 = false) ∧ ((Try.prog.underlying 31).isSome = true) := ⟨agg31, siz31, byt31, elem31, arr31, int31, zer31, str31, und31⟩
theorem t32 : (aggT Try.prog 32 = some false) ∧ (sizT Try.prog 32 = some 1) ∧ (bytT Try.prog 32 = some 8) ∧ (elemT Try.prog 32 = none) ∧ (arrT Try.prog 32 = none) ∧ (intT Try.prog 32 = none) ∧ (zerT Try.prog 32 = some [.nilFunc]) ∧ (strT Try.prog 32 = false) ∧ ((Try.prog.underlying 32).isSome = true) := ⟨agg32, siz32, byt32, elem32, arr32, int32, zer32, str32, und32⟩
theorem t33 : (aggT Try.prog 33 = some false) ∧ (sizT Try.prog 33 = some 1) ∧ (bytT Try.prog 33 = some 8) ∧ (elemT Try.prog 33 = none) ∧ (arrT Try.prog 33 = none) ∧ (intT Try.prog 33 = none) ∧ (zerT Try.prog 33 = some [.nilFunc]) ∧ (strT Try.prog 33 = false) ∧ ((Try.prog.underlying 33).isSome = true) := ⟨agg33, siz33, byt33, elem33, arr33, int33, zer33, str33, und33⟩
theorem t34 : (aggT Try.prog 34 = some false) ∧ (sizT Try.prog 34 = some 1) ∧ (bytT Try.prog 34 = some 8) ∧ (elemT Try.prog 34 = none) ∧ (arrT Try.prog 34 = none) ∧ (intT Try.prog 34 = none) ∧ (zerT Try.prog 34 = some [.nilFunc]) ∧ (strT Try.prog 34 = false) ∧ ((Try.prog.underlying 34).isSome = true) := ⟨agg34, siz34, byt34, elem34, arr34, int34, zer34, str34, und34⟩
theorem t35 : (aggT Try.prog 35 = some false) ∧ (sizT Try.prog 35 = some 1) ∧ (bytT Try.prog 35 = some 8) ∧ (elemT Try.prog 35 = none) ∧ (arrT Try.prog 35 = none) ∧ (intT Try.prog 35 = none) ∧ (zerT Try.prog 35 = some [.nilFunc]) ∧ (strT Try.prog 35 = false) ∧ ((Try.prog.underlying 35).isSome = true) := ⟨agg35, siz35, byt35, elem35, arr35, int35, zer35, str35, und35⟩
theorem t36 : (aggT Try.prog 36 = some false) ∧ (sizT Try.prog 36 = some 1) ∧ (bytT Try.prog 36 = some 8) ∧ (elemT Try.prog 36 = none) ∧ (arrT Try.prog 36 = none) ∧ (intT Try.prog 36 = none) ∧ (zerT Try.prog 36 = some [.nilFunc]) ∧ (strT Try.prog 36 = false) ∧ ((Try.prog.underlying 36).isSome = true) := ⟨agg36, siz36, byt36, elem36, arr36, int36, zer36, str36, und36⟩
theorem t37 : (aggT Try.prog 37 = some false) ∧ (sizT Try.prog 37 = some 1) ∧ (bytT Try.prog 37 = some 8) ∧ (elemT Try.prog 37 = none) ∧ (arrT Try.prog 37 = none) ∧ (intT Try.prog 37 = some .u64) ∧ (zerT Try.prog 37 = some [.int .u64 0]) ∧ (strT Try.prog 37 = false) ∧ ((Try.prog.underlying 37).isSome = true) := ⟨agg37, siz37, byt37, elem37, arr37, int37, zer37, str37, und37⟩
theorem t38 : (aggT Try.prog 38 = some false) ∧ (sizT Try.prog 38 = some 1) ∧ (bytT Try.prog 38 = some 8) ∧ (elemT Try.prog 38 = none) ∧ (arrT Try.prog 38 = none) ∧ (intT Try.prog 38 = none) ∧ (zerT Try.prog 38 = some [.nilFunc]) ∧ (strT Try.prog 38 = false) ∧ ((Try.prog.underlying 38).isSome = true) := ⟨agg38, siz38, byt38, elem38, arr38, int38, zer38, str38, und38⟩
theorem t39 : (aggT Try.prog 39 = some false) ∧ (sizT Try.prog 39 = some 1) ∧ (bytT Try.prog 39 = some 8) ∧ (elemT Try.prog 39 = none) ∧ (arrT Try.prog 39 = none) ∧ (intT Try.prog 39 = none) ∧ (zerT Try.prog 39 = some [.nilFunc]) ∧ (strT Try.prog 39 = false) ∧ ((Try.prog.underlying 39).isSome = true) := ⟨agg39, siz39, byt39, elem39, arr39, int39, zer39, str39, und39⟩
theorem t40 : (aggT Try.prog 40 = some false) ∧ (sizT Try.prog 40 = some 1) ∧ (bytT Try.prog 40 = some 8) ∧ (elemT Try.prog 40 = none) ∧ (arrT Try.prog 40 = none) ∧ (intT Try.prog 40 = none) ∧ (zerT Try.prog 40 = some [.nilFunc]) ∧ (strT Try.prog 40 = false) ∧ ((Try.prog.underlying 40).isSome = true) := ⟨agg40, siz40, byt40, elem40, arr40, int40, zer40, str40, und40⟩
theorem t41 : (aggT Try.prog 41 = some false) ∧ (sizT Try.prog 41 = some 1) ∧ (bytT Try.prog 41 = some 8) ∧ (elemT Try.prog 41 = none) ∧ (arrT Try.prog 41 = none) ∧ (intT Try.prog 41 = none) ∧ (zerT Try.prog 41 = some [.nilFunc]) ∧ (strT Try.prog 41 = false) ∧ ((Try.prog.underlying 41).isSome = true) := ⟨agg41, siz41, byt41, elem41, arr41, int41, zer41, str41, und41⟩
theorem t42 : (aggT Try.prog 42 = some false) ∧ (sizT Try.prog 42 = some 1) ∧ (bytT Try.prog 42 = some 8) ∧ (elemT Try.prog 42 = none) ∧ (arrT Try.prog 42 = none) ∧ (intT Try.prog 42 = none) ∧ (zerT Try.prog 42 = some [.nilFunc]) ∧ (strT Try.prog 42 = false) ∧ ((Try.prog.underlying 42).isSome = true) := ⟨agg42, siz42, byt42, elem42, arr42, int42, zer42, str42, und42⟩
theorem t43 : (aggT Try.prog 43 = some false) ∧ (sizT Try.prog 43 = some 1) ∧ (bytT Try.prog 43 = some 8) ∧ (elemT Try.prog 43 = none) ∧ (arrT Try.prog 43 = none) ∧ (intT Try.prog 43 = none) ∧ (zerT Try.prog 43 = some [.nilFunc]) ∧ (strT Try.prog 43 = false) ∧ ((Try.prog.underlying 43).isSome = true) := ⟨agg43, siz43, byt43, elem43, arr43, int43, zer43, str43, und43⟩
theorem t44 : (aggT Try.prog 44 = some false) ∧ (sizT Try.prog 44 = some 1) ∧ (bytT Try.prog 44 = some 8) ∧ (elemT Try.prog 44 = none) ∧ (arrT Try.prog 44 = none) ∧ (intT Try.prog 44 = none) ∧ (zerT Try.prog 44 = some [.nilFunc]) ∧ (strT Try.prog 44 = false) ∧ ((Try.prog.underlying 44).isSome = true) := ⟨agg44, siz44, byt44, elem44, arr44, int44, zer44, str44, und44⟩
theorem t45 : (aggT Try.prog 45 = some false) ∧ (sizT Try.prog 45 = some 1) ∧ (bytT Try.prog 45 = some 8) ∧ (elemT Try.prog 45 = none) ∧ (arrT Try.prog 45 = none) ∧ (intT Try.prog 45 = none) ∧ (zerT Try.prog 45 = some [.nilFunc]) ∧ (strT Try.prog 45 = false) ∧ ((Try.prog.underlying 45).isSome = true) := ⟨agg45, siz45, byt45, elem45, arr45, int45, zer45, str45, und45⟩
theorem t46 : (aggT Try.prog 46 = some false) ∧ (sizT Try.prog 46 = some 1) ∧ (bytT Try.prog 46 = some 8) ∧ (elemT Try.prog 46 = none) ∧ (arrT Try.prog 46 = none) ∧ (intT Try.prog 46 = none) ∧ (zerT Try.prog 46 = some [.nilFunc]) ∧ (strT Try.prog 46 = false) ∧ ((Try.prog.underlying 46).isSome = true) := ⟨agg46, siz46, byt46, elem46, arr46, int46, zer46, str46, und46⟩
theorem t47 : (aggT Try.prog 47 = some false) ∧ (sizT Try.prog 47 = some 1) ∧ (bytT Try.prog 47 = some 8) ∧ (elemT Try.prog 47 = none) ∧ (arrT Try.prog 47 = none) ∧ (intT Try.prog 47 = none) ∧ (zerT Try.prog 47 = some [.nilFunc]) ∧ (strT Try.prog 47 = false) ∧ ((Try.prog.underlying 47).isSome = true) := ⟨agg47, siz47, byt47, elem47, arr47, int47, zer47, str47, und47⟩
theorem t48 : (aggT Try.prog 48 = some false) ∧ (sizT Try.prog 48 = some 1) ∧ (bytT Try.prog 48 = some 8) ∧ (elemT Try.prog 48 = none) ∧ (arrT Try.prog 48 = none) ∧ (intT Try.prog 48 = none) ∧ (zerT Try.prog 48 = some [.nilFunc]) ∧ (strT Try.prog 48 = false) ∧ ((Try.prog.underlying 48).isSome = true) := ⟨agg48, siz48, byt48, elem48, arr48, int48, zer48, str48, und48⟩
theorem t49 : (aggT Try.prog 49 = some false) ∧ (sizT Try.prog 49 = some 1) ∧ (bytT Try.prog 49 = some 0) ∧ (elemT Try.prog 49 = none) ∧ (arrT Try.prog 49 = none) ∧ (intT Try.prog 49 = none) ∧ (strT Try.prog 49 = false) ∧ ((Try.prog.underlying 49).isSome = true) := ⟨agg49, siz49, byt49, elem49, arr49, int49, str49, und49⟩
theorem t50 : (aggT Try.prog 50 = some false) ∧ (sizT Try.prog 50 = some 1) ∧ (bytT Try.prog 50 = some 8) ∧ (elemT Try.prog 50 = none) ∧ (arrT Try.prog 50 = none) ∧ (intT Try.prog 50 = none) ∧ (zerT Try.prog 50 = some [.nilFunc]) ∧ (strT Try.prog 50 = false) ∧ ((Try.prog.underlying 50).isSome = true) := ⟨agg50, siz50, byt50, elem50, arr50, int50, zer50, str50, und50⟩
theorem t51 : (aggT Try.prog 51 = some false) ∧ (sizT Try.prog 51 = some 1) ∧ (bytT Try.prog 51 = some 4) ∧ (elemT Try.prog 51 = none) ∧ (arrT Try.prog 51 = none) ∧ (intT Try.prog 51 = some .u32) ∧ (zerT Try.prog 51 = some [.int .u32 0]) ∧ (strT Try.prog 51 = false) ∧ ((Try.prog.underlying 51).isSome = true) := ⟨agg51, siz51, byt51, elem51, arr51, int51, zer51, str51, und51⟩
theorem t52 : (aggT Try.prog 52 = some false) ∧ (sizT Try.prog 52 = some 1) ∧ (bytT Try.prog 52 = some 0) ∧ (elemT Try.prog 52 = none) ∧ (arrT Try.prog 52 = none) ∧ (intT Try.prog 52 = none) ∧ (strT Try.prog 52 = false) ∧ ((Try.prog.underlying 52).isSome = true) := ⟨agg52, siz52, byt52, elem52, arr52, int52, str52, und52⟩
theorem t53 : (aggT Try.prog 53 = some false) ∧ (sizT Try.prog 53 = some 1) ∧ (bytT Try.prog 53 = some 8) ∧ (elemT Try.prog 53 = none) ∧ (arrT Try.prog 53 = none) ∧ (intT Try.prog 53 = none) ∧ (zerT Try.prog 53 = some [.nilFunc]) ∧ (strT Try.prog 53 = false) ∧ ((Try.prog.underlying 53).isSome = true) := ⟨agg53, siz53, byt53, elem53, arr53, int53, zer53, str53, und53⟩
theorem t54 : (aggT Try.prog 54 = some false) ∧ (sizT Try.prog 54 = some 1) ∧ (bytT Try.prog 54 = some 0) ∧ (elemT Try.prog 54 = none) ∧ (arrT Try.prog 54 = none) ∧ (intT Try.prog 54 = none) ∧ (strT Try.prog 54 = false) ∧ ((Try.prog.underlying 54).isSome = true) := ⟨agg54, siz54, byt54, elem54, arr54, int54, str54, und54⟩
theorem t55 : (aggT Try.prog 55 = some false) ∧ (sizT Try.prog 55 = some 1) ∧ (bytT Try.prog 55 = some 8) ∧ (elemT Try.prog 55 = none) ∧ (arrT Try.prog 55 = none) ∧ (intT Try.prog 55 = none) ∧ (zerT Try.prog 55 = some [.nilFunc]) ∧ (strT Try.prog 55 = false) ∧ ((Try.prog.underlying 55).isSome = true) := ⟨agg55, siz55, byt55, elem55, arr55, int55, zer55, str55, und55⟩
theorem t56 : (aggT Try.prog 56 = some false) ∧ (sizT Try.prog 56 = some 1) ∧ (bytT Try.prog 56 = some 8) ∧ (elemT Try.prog 56 = none) ∧ (arrT Try.prog 56 = none) ∧ (intT Try.prog 56 = none) ∧ (zerT Try.prog 56 = some [.nilFunc]) ∧ (strT Try.prog 56 = false) ∧ ((Try.prog.underlying 56).isSome = true) := ⟨agg56, siz56, byt56, elem56, arr56, int56, zer56, str56, und56⟩
theorem t57 : (aggT Try.prog 57 = some true) ∧ (sizT Try.prog 57 = some 4) ∧ (bytT Try.prog 57 = some 40) ∧ (elemT Try.prog 57 = none) ∧ (arrT Try.prog 57 = none) ∧ (intT Try.prog 57 = none) ∧ (zerT Try.prog 57 = some [.pointer none, .pointer none, .pointer none, .string ByteArray.empty]) ∧ (Try.prog.eqGuardType (Try.prog.depth) 57 = false) ∧ (sizesOk Try.prog 57 = true) ∧ (placeT Try.prog 57 0 = some (0, 1)) ∧ (placeT Try.prog 57 1 = some (1, 1)) ∧ (placeT Try.prog 57 2 = some (2, 1)) ∧ (placeT Try.prog 57 3 = some (3, 1)) ∧ (strT Try.prog 57 = false) ∧ (fldT Try.prog 57 0 = some (0, 17)) ∧ (fldT Try.prog 57 1 = some (1, 17)) ∧ (fldT Try.prog 57 2 = some (2, 17)) ∧ (fldT Try.prog 57 3 = some (3, 9)) ∧ ((Try.prog.underlying 57).isSome = true) := ⟨agg57, siz57, byt57, elem57, arr57, int57, zer57, eqg57, szs57, plc57_0, plc57_1, plc57_2, plc57_3, str57, fld57_0, fld57_1, fld57_2, fld57_3, und57⟩
theorem t58 : (aggT Try.prog 58 = some true) ∧ (sizT Try.prog 58 = some 4) ∧ (bytT Try.prog 58 = some 40) ∧ (elemT Try.prog 58 = none) ∧ (arrT Try.prog 58 = none) ∧ (intT Try.prog 58 = none) ∧ (zerT Try.prog 58 = some [.pointer none, .pointer none, .pointer none, .string ByteArray.empty]) ∧ (Try.prog.eqGuardType (Try.prog.depth) 58 = false) ∧ (sizesOk Try.prog 58 = true) ∧ (placeT Try.prog 58 0 = some (0, 1)) ∧ (placeT Try.prog 58 1 = some (1, 1)) ∧ (placeT Try.prog 58 2 = some (2, 1)) ∧ (placeT Try.prog 58 3 = some (3, 1)) ∧ (strT Try.prog 58 = false) ∧ (fldT Try.prog 58 0 = some (0, 17)) ∧ (fldT Try.prog 58 1 = some (1, 17)) ∧ (fldT Try.prog 58 2 = some (2, 17)) ∧ (fldT Try.prog 58 3 = some (3, 9)) ∧ ((Try.prog.underlying 58).isSome = true) := ⟨agg58, siz58, byt58, elem58, arr58, int58, zer58, eqg58, szs58, plc58_0, plc58_1, plc58_2, plc58_3, str58, fld58_0, fld58_1, fld58_2, fld58_3, und58⟩
theorem t59 : (aggT Try.prog 59 = some true) ∧ (sizT Try.prog 59 = some 0) ∧ (bytT Try.prog 59 = some 0) ∧ (elemT Try.prog 59 = none) ∧ (arrT Try.prog 59 = some (0, 16)) ∧ (intT Try.prog 59 = none) ∧ (zerT Try.prog 59 = some []) ∧ (Try.prog.eqGuardType (Try.prog.depth) 59 = false) ∧ (sizesOk Try.prog 59 = true) ∧ (placeT Try.prog 59 0 = some (0, 1)) ∧ (placeT Try.prog 59 1 = some (1, 1)) ∧ (placeT Try.prog 59 2 = some (2, 1)) ∧ (placeT Try.prog 59 3 = some (3, 1)) ∧ (placeT Try.prog 59 4 = some (4, 1)) ∧ (placeT Try.prog 59 5 = some (5, 1)) ∧ (placeT Try.prog 59 6 = some (6, 1)) ∧ (placeT Try.prog 59 7 = some (7, 1)) ∧ (placeT Try.prog 59 8 = some (8, 1)) ∧ (placeT Try.prog 59 9 = some (9, 1)) ∧ (placeT Try.prog 59 10 = some (10, 1)) ∧ (placeT Try.prog 59 11 = some (11, 1)) ∧ (strT Try.prog 59 = false) ∧ ((Try.prog.underlying 59).isSome = true) := ⟨agg59, siz59, byt59, elem59, arr59, int59, zer59, eqg59, szs59, plc59_0, plc59_1, plc59_2, plc59_3, plc59_4, plc59_5, plc59_6, plc59_7, plc59_8, plc59_9, plc59_10, plc59_11, str59, und59⟩
theorem t60 : (aggT Try.prog 60 = some true) ∧ (sizT Try.prog 60 = some 0) ∧ (bytT Try.prog 60 = some 0) ∧ (elemT Try.prog 60 = none) ∧ (arrT Try.prog 60 = none) ∧ (intT Try.prog 60 = none) ∧ (zerT Try.prog 60 = some []) ∧ (Try.prog.eqGuardType (Try.prog.depth) 60 = false) ∧ (sizesOk Try.prog 60 = true) ∧ (placeT Try.prog 60 0 = some (0, 0)) ∧ (strT Try.prog 60 = false) ∧ (fldT Try.prog 60 0 = some (0, 59)) ∧ ((Try.prog.underlying 60).isSome = true) := ⟨agg60, siz60, byt60, elem60, arr60, int60, zer60, eqg60, szs60, plc60_0, str60, fld60_0, und60⟩
theorem t61 : (aggT Try.prog 61 = some true) ∧ (sizT Try.prog 61 = some 0) ∧ (bytT Try.prog 61 = some 0) ∧ (elemT Try.prog 61 = none) ∧ (arrT Try.prog 61 = none) ∧ (intT Try.prog 61 = none) ∧ (zerT Try.prog 61 = some []) ∧ (Try.prog.eqGuardType (Try.prog.depth) 61 = false) ∧ (sizesOk Try.prog 61 = true) ∧ (placeT Try.prog 61 0 = some (0, 0)) ∧ (strT Try.prog 61 = false) ∧ (fldT Try.prog 61 0 = some (0, 59)) ∧ ((Try.prog.underlying 61).isSome = true) := ⟨agg61, siz61, byt61, elem61, arr61, int61, zer61, eqg61, szs61, plc61_0, str61, fld61_0, und61⟩
theorem t62 : (aggT Try.prog 62 = some false) ∧ (sizT Try.prog 62 = some 1) ∧ (bytT Try.prog 62 = some 8) ∧ (elemT Try.prog 62 = none) ∧ (arrT Try.prog 62 = none) ∧ (intT Try.prog 62 = none) ∧ (zerT Try.prog 62 = some [.nilFunc]) ∧ (strT Try.prog 62 = false) ∧ ((Try.prog.underlying 62).isSome = true) := ⟨agg62, siz62, byt62, elem62, arr62, int62, zer62, str62, und62⟩
theorem t63 : (aggT Try.prog 63 = some false) ∧ (sizT Try.prog 63 = some 1) ∧ (bytT Try.prog 63 = some 1) ∧ (elemT Try.prog 63 = none) ∧ (arrT Try.prog 63 = none) ∧ (intT Try.prog 63 = some .u8) ∧ (zerT Try.prog 63 = some [.int .u8 0]) ∧ (strT Try.prog 63 = false) ∧ ((Try.prog.underlying 63).isSome = true) := ⟨agg63, siz63, byt63, elem63, arr63, int63, zer63, str63, und63⟩
theorem t64 : (aggT Try.prog 64 = some false) ∧ (sizT Try.prog 64 = some 1) ∧ (bytT Try.prog 64 = some 1) ∧ (elemT Try.prog 64 = none) ∧ (arrT Try.prog 64 = none) ∧ (intT Try.prog 64 = some .u8) ∧ (zerT Try.prog 64 = some [.int .u8 0]) ∧ (strT Try.prog 64 = false) ∧ ((Try.prog.underlying 64).isSome = true) := ⟨agg64, siz64, byt64, elem64, arr64, int64, zer64, str64, und64⟩
theorem t65 : (aggT Try.prog 65 = some false) ∧ (sizT Try.prog 65 = some 1) ∧ (bytT Try.prog 65 = some 8) ∧ (elemT Try.prog 65 = none) ∧ (arrT Try.prog 65 = none) ∧ (intT Try.prog 65 = none) ∧ (zerT Try.prog 65 = some [.nilFunc]) ∧ (strT Try.prog 65 = false) ∧ ((Try.prog.underlying 65).isSome = true) := ⟨agg65, siz65, byt65, elem65, arr65, int65, zer65, str65, und65⟩
theorem t66 : (aggT Try.prog 66 = some false) ∧ (sizT Try.prog 66 = some 1) ∧ (bytT Try.prog 66 = some 8) ∧ (elemT Try.prog 66 = none) ∧ (arrT Try.prog 66 = none) ∧ (intT Try.prog 66 = none) ∧ (zerT Try.prog 66 = some [.pointer none]) ∧ (strT Try.prog 66 = false) ∧ ((Try.prog.underlying 66).isSome = true) := ⟨agg66, siz66, byt66, elem66, arr66, int66, zer66, str66, und66⟩
theorem t67 : (aggT Try.prog 67 = some false) ∧ (sizT Try.prog 67 = some 1) ∧ (bytT Try.prog 67 = some 4) ∧ (elemT Try.prog 67 = none) ∧ (arrT Try.prog 67 = none) ∧ (intT Try.prog 67 = some .i32) ∧ (zerT Try.prog 67 = some [.int .i32 0]) ∧ (strT Try.prog 67 = false) ∧ ((Try.prog.underlying 67).isSome = true) := ⟨agg67, siz67, byt67, elem67, arr67, int67, zer67, str67, und67⟩
theorem t68 : (aggT Try.prog 68 = some false) ∧ (sizT Try.prog 68 = some 1) ∧ (bytT Try.prog 68 = some 4) ∧ (elemT Try.prog 68 = none) ∧ (arrT Try.prog 68 = none) ∧ (intT Try.prog 68 = some .i32) ∧ (zerT Try.prog 68 = some [.int .i32 0]) ∧ (strT Try.prog 68 = false) ∧ ((Try.prog.underlying 68).isSome = true) := ⟨agg68, siz68, byt68, elem68, arr68, int68, zer68, str68, und68⟩
theorem t69 : (aggT Try.prog 69 = some true) ∧ (sizT Try.prog 69 = some 11) ∧ (bytT Try.prog 69 = some 48) ∧ (elemT Try.prog 69 = none) ∧ (arrT Try.prog 69 = none) ∧ (intT Try.prog 69 = none) ∧ (zerT Try.prog 69 = some [.int .u64 0, .int .u64 0, .int .u32 0, .int .u8 0, .int .u8 0, .int .u8 0, .int .u8 0, .nilFunc, .pointer none, .int .i32 0, .int .i32 0]) ∧ (Try.prog.eqGuardType (Try.prog.depth) 69 = false) ∧ (sizesOk Try.prog 69 = true) ∧ (placeT Try.prog 69 0 = some (0, 1)) ∧ (placeT Try.prog 69 1 = some (1, 1)) ∧ (placeT Try.prog 69 2 = some (2, 1)) ∧ (placeT Try.prog 69 3 = some (3, 1)) ∧ (placeT Try.prog 69 4 = some (4, 1)) ∧ (placeT Try.prog 69 5 = some (5, 1)) ∧ (placeT Try.prog 69 6 = some (6, 1)) ∧ (placeT Try.prog 69 7 = some (7, 1)) ∧ (placeT Try.prog 69 8 = some (8, 1)) ∧ (placeT Try.prog 69 9 = some (9, 1)) ∧ (placeT Try.prog 69 10 = some (10, 1)) ∧ (strT Try.prog 69 = false) ∧ (fldT Try.prog 69 0 = some (0, 12)) ∧ (fldT Try.prog 69 1 = some (1, 12)) ∧ (fldT Try.prog 69 2 = some (2, 51)) ∧ (fldT Try.prog 69 3 = some (3, 63)) ∧ (fldT Try.prog 69 4 = some (4, 5)) ∧ (fldT Try.prog 69 5 = some (5, 5)) ∧ (fldT Try.prog 69 6 = some (6, 64)) ∧ (fldT Try.prog 69 7 = some (7, 65)) ∧ (fldT Try.prog 69 8 = some (8, 66)) ∧ (fldT Try.prog 69 9 = some (9, 67)) ∧ (fldT Try.prog 69 10 = some (10, 68)) ∧ ((Try.prog.underlying 69).isSome = true) := ⟨agg69, siz69, byt69, elem69, arr69, int69, zer69, eqg69, szs69, plc69_0, plc69_1, plc69_2, plc69_3, plc69_4, plc69_5, plc69_6, plc69_7, plc69_8, plc69_9, plc69_10, str69, fld69_0, fld69_1, fld69_2, fld69_3, fld69_4, fld69_5, fld69_6, fld69_7, fld69_8, fld69_9, fld69_10, und69⟩
theorem t70 : (aggT Try.prog 70 = some true) ∧ (sizT Try.prog 70 = some 11) ∧ (bytT Try.prog 70 = some 48) ∧ (elemT Try.prog 70 = none) ∧ (arrT Try.prog 70 = none) ∧ (intT Try.prog 70 = none) ∧ (zerT Try.prog 70 = some [.int .u64 0, .int .u64 0, .int .u32 0, .int .u8 0, .int .u8 0, .int .u8 0, .int .u8 0, .nilFunc, .pointer none, .int .i32 0, .int .i32 0]) ∧ (Try.prog.eqGuardType (Try.prog.depth) 70 = false) ∧ (sizesOk Try.prog 70 = true) ∧ (placeT Try.prog 70 0 = some (0, 1)) ∧ (placeT Try.prog 70 1 = some (1, 1)) ∧ (placeT Try.prog 70 2 = some (2, 1)) ∧ (placeT Try.prog 70 3 = some (3, 1)) ∧ (placeT Try.prog 70 4 = some (4, 1)) ∧ (placeT Try.prog 70 5 = some (5, 1)) ∧ (placeT Try.prog 70 6 = some (6, 1)) ∧ (placeT Try.prog 70 7 = some (7, 1)) ∧ (placeT Try.prog 70 8 = some (8, 1)) ∧ (placeT Try.prog 70 9 = some (9, 1)) ∧ (placeT Try.prog 70 10 = some (10, 1)) ∧ (strT Try.prog 70 = false) ∧ (fldT Try.prog 70 0 = some (0, 12)) ∧ (fldT Try.prog 70 1 = some (1, 12)) ∧ (fldT Try.prog 70 2 = some (2, 51)) ∧ (fldT Try.prog 70 3 = some (3, 63)) ∧ (fldT Try.prog 70 4 = some (4, 5)) ∧ (fldT Try.prog 70 5 = some (5, 5)) ∧ (fldT Try.prog 70 6 = some (6, 64)) ∧ (fldT Try.prog 70 7 = some (7, 65)) ∧ (fldT Try.prog 70 8 = some (8, 66)) ∧ (fldT Try.prog 70 9 = some (9, 67)) ∧ (fldT Try.prog 70 10 = some (10, 68)) ∧ ((Try.prog.underlying 70).isSome = true) := ⟨agg70, siz70, byt70, elem70, arr70, int70, zer70, eqg70, szs70, plc70_0, plc70_1, plc70_2, plc70_3, plc70_4, plc70_5, plc70_6, plc70_7, plc70_8, plc70_9, plc70_10, str70, fld70_0, fld70_1, fld70_2, fld70_3, fld70_4, fld70_5, fld70_6, fld70_7, fld70_8, fld70_9, fld70_10, und70⟩
theorem t71 : (aggT Try.prog 71 = some false) ∧ (sizT Try.prog 71 = some 1) ∧ (bytT Try.prog 71 = some 8) ∧ (elemT Try.prog 71 = none) ∧ (arrT Try.prog 71 = none) ∧ (intT Try.prog 71 = none) ∧ (zerT Try.prog 71 = some [.pointer none]) ∧ (strT Try.prog 71 = false) ∧ ((Try.prog.underlying 71).isSome = true) := ⟨agg71, siz71, byt71, elem71, arr71, int71, zer71, str71, und71⟩
end Go.Proofs.Ytdllcipkdbhhlaa.Ty
