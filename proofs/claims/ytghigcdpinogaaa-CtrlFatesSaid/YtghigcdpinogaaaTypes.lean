/- Facts of this seat's types, each asked of the kernel. -/
import Derived.Test.YtghigcdpinogaaaProg
import Derived.Test.YtghigcdpinogaaaAbC
import Derived.KernelRfl
set_option linter.all false
namespace Go.Proofs.Ytghigcdpinogaaa.Ty
open Go Go.Ab
theorem agg0 : aggT Try.prog 0 = some false := by kernel_rfl
theorem siz0 : sizT Try.prog 0 = some 1 := by kernel_rfl
theorem byt0 : bytT Try.prog 0 = some 0 := by kernel_rfl
theorem elem0 : elemT Try.prog 0 = none := by kernel_rfl
theorem arr0 : arrT Try.prog 0 = none := by kernel_rfl
theorem int0 : intT Try.prog 0 = none := by kernel_rfl
theorem str0 : strT Try.prog 0 = false := by kernel_rfl
theorem agg1 : aggT Try.prog 1 = some false := by kernel_rfl
theorem siz1 : sizT Try.prog 1 = some 1 := by kernel_rfl
theorem byt1 : bytT Try.prog 1 = some 8 := by kernel_rfl
theorem elem1 : elemT Try.prog 1 = none := by kernel_rfl
theorem arr1 : arrT Try.prog 1 = none := by kernel_rfl
theorem int1 : intT Try.prog 1 = none := by kernel_rfl
theorem zer1 : zerT Try.prog 1 = some [.nilFunc] := by kernel_rfl
theorem str1 : strT Try.prog 1 = false := by kernel_rfl
theorem agg2 : aggT Try.prog 2 = some false := by kernel_rfl
theorem siz2 : sizT Try.prog 2 = some 1 := by kernel_rfl
theorem byt2 : bytT Try.prog 2 = some 8 := by kernel_rfl
theorem elem2 : elemT Try.prog 2 = none := by kernel_rfl
theorem arr2 : arrT Try.prog 2 = none := by kernel_rfl
theorem int2 : intT Try.prog 2 = some .i64 := by kernel_rfl
theorem zer2 : zerT Try.prog 2 = some [.int .i64 0] := by kernel_rfl
theorem str2 : strT Try.prog 2 = false := by kernel_rfl
theorem agg3 : aggT Try.prog 3 = some false := by kernel_rfl
theorem siz3 : sizT Try.prog 3 = some 1 := by kernel_rfl
theorem byt3 : bytT Try.prog 3 = some 8 := by kernel_rfl
theorem elem3 : elemT Try.prog 3 = none := by kernel_rfl
theorem arr3 : arrT Try.prog 3 = none := by kernel_rfl
theorem int3 : intT Try.prog 3 = some .i64 := by kernel_rfl
theorem zer3 : zerT Try.prog 3 = some [.int .i64 0] := by kernel_rfl
theorem str3 : strT Try.prog 3 = false := by kernel_rfl
theorem agg4 : aggT Try.prog 4 = some false := by kernel_rfl
theorem siz4 : sizT Try.prog 4 = some 1 := by kernel_rfl
theorem byt4 : bytT Try.prog 4 = some 1 := by kernel_rfl
theorem elem4 : elemT Try.prog 4 = none := by kernel_rfl
theorem arr4 : arrT Try.prog 4 = none := by kernel_rfl
theorem int4 : intT Try.prog 4 = none := by kernel_rfl
theorem zer4 : zerT Try.prog 4 = some [.bool false] := by kernel_rfl
theorem str4 : strT Try.prog 4 = false := by kernel_rfl
theorem agg5 : aggT Try.prog 5 = some false := by kernel_rfl
theorem siz5 : sizT Try.prog 5 = some 1 := by kernel_rfl
theorem byt5 : bytT Try.prog 5 = some 1 := by kernel_rfl
theorem elem5 : elemT Try.prog 5 = none := by kernel_rfl
theorem arr5 : arrT Try.prog 5 = none := by kernel_rfl
theorem int5 : intT Try.prog 5 = some .u8 := by kernel_rfl
theorem zer5 : zerT Try.prog 5 = some [.int .u8 0] := by kernel_rfl
theorem str5 : strT Try.prog 5 = false := by kernel_rfl
theorem agg6 : aggT Try.prog 6 = some false := by kernel_rfl
theorem siz6 : sizT Try.prog 6 = some 1 := by kernel_rfl
theorem byt6 : bytT Try.prog 6 = some 1 := by kernel_rfl
theorem elem6 : elemT Try.prog 6 = none := by kernel_rfl
theorem arr6 : arrT Try.prog 6 = none := by kernel_rfl
theorem int6 : intT Try.prog 6 = some .u8 := by kernel_rfl
theorem zer6 : zerT Try.prog 6 = some [.int .u8 0] := by kernel_rfl
theorem str6 : strT Try.prog 6 = false := by kernel_rfl
theorem agg7 : aggT Try.prog 7 = some true := by kernel_rfl
theorem siz7 : sizT Try.prog 7 = some 4 := by kernel_rfl
theorem byt7 : bytT Try.prog 7 = some 24 := by kernel_rfl
theorem elem7 : elemT Try.prog 7 = none := by kernel_rfl
theorem arr7 : arrT Try.prog 7 = none := by kernel_rfl
theorem int7 : intT Try.prog 7 = none := by kernel_rfl
theorem zer7 : zerT Try.prog 7 = some [.int .i64 0, .int .i64 0, .bool false, .int .u8 0] := by kernel_rfl
theorem kd7 : kdT Try.prog 60 7 = some [.int .i64, .int .i64, .bool, .int .u8] := by kernel_rfl
theorem eqg7 : Try.prog.eqGuardType (Try.prog.depth) 7 = false := by kernel_rfl
theorem szs7 : sizesOk Try.prog 7 = true := by kernel_rfl
theorem plc7_0 : placeT Try.prog 7 0 = some (0, 1) := by kernel_rfl
theorem plc7_1 : placeT Try.prog 7 1 = some (1, 1) := by kernel_rfl
theorem plc7_2 : placeT Try.prog 7 2 = some (2, 1) := by kernel_rfl
theorem plc7_3 : placeT Try.prog 7 3 = some (3, 1) := by kernel_rfl
theorem str7 : strT Try.prog 7 = false := by kernel_rfl
theorem fld7_0 : fldT Try.prog 7 0 = some (0, 2) := by kernel_rfl
theorem fld7_1 : fldT Try.prog 7 1 = some (1, 3) := by kernel_rfl
theorem fld7_2 : fldT Try.prog 7 2 = some (2, 4) := by kernel_rfl
theorem fld7_3 : fldT Try.prog 7 3 = some (3, 6) := by kernel_rfl
theorem agg8 : aggT Try.prog 8 = some true := by kernel_rfl
theorem siz8 : sizT Try.prog 8 = some 4 := by kernel_rfl
theorem byt8 : bytT Try.prog 8 = some 24 := by kernel_rfl
theorem elem8 : elemT Try.prog 8 = none := by kernel_rfl
theorem arr8 : arrT Try.prog 8 = none := by kernel_rfl
theorem int8 : intT Try.prog 8 = none := by kernel_rfl
theorem zer8 : zerT Try.prog 8 = some [.int .i64 0, .int .i64 0, .bool false, .int .u8 0] := by kernel_rfl
theorem kd8 : kdT Try.prog 60 8 = some [.int .i64, .int .i64, .bool, .int .u8] := by kernel_rfl
theorem eqg8 : Try.prog.eqGuardType (Try.prog.depth) 8 = false := by kernel_rfl
theorem szs8 : sizesOk Try.prog 8 = true := by kernel_rfl
theorem plc8_0 : placeT Try.prog 8 0 = some (0, 1) := by kernel_rfl
theorem plc8_1 : placeT Try.prog 8 1 = some (1, 1) := by kernel_rfl
theorem plc8_2 : placeT Try.prog 8 2 = some (2, 1) := by kernel_rfl
theorem plc8_3 : placeT Try.prog 8 3 = some (3, 1) := by kernel_rfl
theorem str8 : strT Try.prog 8 = false := by kernel_rfl
theorem fld8_0 : fldT Try.prog 8 0 = some (0, 2) := by kernel_rfl
theorem fld8_1 : fldT Try.prog 8 1 = some (1, 3) := by kernel_rfl
theorem fld8_2 : fldT Try.prog 8 2 = some (2, 4) := by kernel_rfl
theorem fld8_3 : fldT Try.prog 8 3 = some (3, 6) := by kernel_rfl
theorem agg9 : aggT Try.prog 9 = some false := by kernel_rfl
theorem siz9 : sizT Try.prog 9 = some 1 := by kernel_rfl
theorem byt9 : bytT Try.prog 9 = some 16 := by kernel_rfl
theorem elem9 : elemT Try.prog 9 = none := by kernel_rfl
theorem arr9 : arrT Try.prog 9 = none := by kernel_rfl
theorem int9 : intT Try.prog 9 = none := by kernel_rfl
theorem zer9 : zerT Try.prog 9 = some [.string ByteArray.empty] := by kernel_rfl
theorem str9 : strT Try.prog 9 = true := by kernel_rfl
theorem agg10 : aggT Try.prog 10 = some false := by kernel_rfl
theorem siz10 : sizT Try.prog 10 = some 1 := by kernel_rfl
theorem byt10 : bytT Try.prog 10 = some 16 := by kernel_rfl
theorem elem10 : elemT Try.prog 10 = none := by kernel_rfl
theorem arr10 : arrT Try.prog 10 = none := by kernel_rfl
theorem int10 : intT Try.prog 10 = none := by kernel_rfl
theorem zer10 : zerT Try.prog 10 = some [.string ByteArray.empty] := by kernel_rfl
theorem str10 : strT Try.prog 10 = true := by kernel_rfl
theorem agg11 : aggT Try.prog 11 = some false := by kernel_rfl
theorem siz11 : sizT Try.prog 11 = some 1 := by kernel_rfl
theorem byt11 : bytT Try.prog 11 = some 16 := by kernel_rfl
theorem elem11 : elemT Try.prog 11 = none := by kernel_rfl
theorem arr11 : arrT Try.prog 11 = none := by kernel_rfl
theorem int11 : intT Try.prog 11 = none := by kernel_rfl
theorem zer11 : zerT Try.prog 11 = some [.string ByteArray.empty] := by kernel_rfl
theorem str11 : strT Try.prog 11 = true := by kernel_rfl
theorem agg12 : aggT Try.prog 12 = some false := by kernel_rfl
theorem siz12 : sizT Try.prog 12 = some 1 := by kernel_rfl
theorem byt12 : bytT Try.prog 12 = some 8 := by kernel_rfl
theorem elem12 : elemT Try.prog 12 = none := by kernel_rfl
theorem arr12 : arrT Try.prog 12 = none := by kernel_rfl
theorem int12 : intT Try.prog 12 = some .u64 := by kernel_rfl
theorem zer12 : zerT Try.prog 12 = some [.int .u64 0] := by kernel_rfl
theorem str12 : strT Try.prog 12 = false := by kernel_rfl
theorem agg13 : aggT Try.prog 13 = some true := by kernel_rfl
theorem siz13 : sizT Try.prog 13 = some 2 := by kernel_rfl
theorem byt13 : bytT Try.prog 13 = some 24 := by kernel_rfl
theorem elem13 : elemT Try.prog 13 = none := by kernel_rfl
theorem arr13 : arrT Try.prog 13 = none := by kernel_rfl
theorem int13 : intT Try.prog 13 = none := by kernel_rfl
theorem zer13 : zerT Try.prog 13 = some [.string ByteArray.empty, .int .u64 0] := by kernel_rfl
theorem eqg13 : Try.prog.eqGuardType (Try.prog.depth) 13 = false := by kernel_rfl
theorem szs13 : sizesOk Try.prog 13 = true := by kernel_rfl
theorem plc13_0 : placeT Try.prog 13 0 = some (0, 1) := by kernel_rfl
theorem plc13_1 : placeT Try.prog 13 1 = some (1, 1) := by kernel_rfl
theorem str13 : strT Try.prog 13 = false := by kernel_rfl
theorem fld13_0 : fldT Try.prog 13 0 = some (0, 9) := by kernel_rfl
theorem fld13_1 : fldT Try.prog 13 1 = some (1, 12) := by kernel_rfl
theorem agg14 : aggT Try.prog 14 = some true := by kernel_rfl
theorem siz14 : sizT Try.prog 14 = some 2 := by kernel_rfl
theorem byt14 : bytT Try.prog 14 = some 24 := by kernel_rfl
theorem elem14 : elemT Try.prog 14 = none := by kernel_rfl
theorem arr14 : arrT Try.prog 14 = none := by kernel_rfl
theorem int14 : intT Try.prog 14 = none := by kernel_rfl
theorem zer14 : zerT Try.prog 14 = some [.string ByteArray.empty, .int .u64 0] := by kernel_rfl
theorem eqg14 : Try.prog.eqGuardType (Try.prog.depth) 14 = false := by kernel_rfl
theorem szs14 : sizesOk Try.prog 14 = true := by kernel_rfl
theorem plc14_0 : placeT Try.prog 14 0 = some (0, 1) := by kernel_rfl
theorem plc14_1 : placeT Try.prog 14 1 = some (1, 1) := by kernel_rfl
theorem str14 : strT Try.prog 14 = false := by kernel_rfl
theorem fld14_0 : fldT Try.prog 14 0 = some (0, 9) := by kernel_rfl
theorem fld14_1 : fldT Try.prog 14 1 = some (1, 12) := by kernel_rfl
theorem agg15 : aggT Try.prog 15 = some false := by kernel_rfl
theorem siz15 : sizT Try.prog 15 = some 1 := by kernel_rfl
theorem byt15 : bytT Try.prog 15 = some 8 := by kernel_rfl
theorem elem15 : elemT Try.prog 15 = none := by kernel_rfl
theorem arr15 : arrT Try.prog 15 = none := by kernel_rfl
theorem int15 : intT Try.prog 15 = none := by kernel_rfl
theorem zer15 : zerT Try.prog 15 = some [.pointer none] := by kernel_rfl
theorem str15 : strT Try.prog 15 = false := by kernel_rfl
theorem agg16 : aggT Try.prog 16 = some false := by kernel_rfl
theorem siz16 : sizT Try.prog 16 = some 1 := by kernel_rfl
theorem byt16 : bytT Try.prog 16 = some 8 := by kernel_rfl
theorem elem16 : elemT Try.prog 16 = none := by kernel_rfl
theorem arr16 : arrT Try.prog 16 = none := by kernel_rfl
theorem int16 : intT Try.prog 16 = none := by kernel_rfl
theorem zer16 : zerT Try.prog 16 = some [.pointer none] := by kernel_rfl
theorem str16 : strT Try.prog 16 = false := by kernel_rfl
theorem agg17 : aggT Try.prog 17 = some false := by kernel_rfl
theorem siz17 : sizT Try.prog 17 = some 1 := by kernel_rfl
theorem byt17 : bytT Try.prog 17 = some 8 := by kernel_rfl
theorem elem17 : elemT Try.prog 17 = none := by kernel_rfl
theorem arr17 : arrT Try.prog 17 = none := by kernel_rfl
theorem int17 : intT Try.prog 17 = none := by kernel_rfl
theorem zer17 : zerT Try.prog 17 = some [.pointer none] := by kernel_rfl
theorem str17 : strT Try.prog 17 = false := by kernel_rfl
theorem agg18 : aggT Try.prog 18 = some true := by kernel_rfl
theorem siz18 : sizT Try.prog 18 = some 1 := by kernel_rfl
theorem byt18 : bytT Try.prog 18 = some 8 := by kernel_rfl
theorem elem18 : elemT Try.prog 18 = none := by kernel_rfl
theorem arr18 : arrT Try.prog 18 = none := by kernel_rfl
theorem int18 : intT Try.prog 18 = none := by kernel_rfl
theorem zer18 : zerT Try.prog 18 = some [.pointer none] := by kernel_rfl
theorem eqg18 : Try.prog.eqGuardType (Try.prog.depth) 18 = false := by kernel_rfl
theorem szs18 : sizesOk Try.prog 18 = true := by kernel_rfl
theorem plc18_0 : placeT Try.prog 18 0 = some (0, 1) := by kernel_rfl
theorem str18 : strT Try.prog 18 = false := by kernel_rfl
theorem fld18_0 : fldT Try.prog 18 0 = some (0, 17) := by kernel_rfl
theorem agg19 : aggT Try.prog 19 = some true := by kernel_rfl
theorem siz19 : sizT Try.prog 19 = some 1 := by kernel_rfl
theorem byt19 : bytT Try.prog 19 = some 8 := by kernel_rfl
theorem elem19 : elemT Try.prog 19 = none := by kernel_rfl
theorem arr19 : arrT Try.prog 19 = none := by kernel_rfl
theorem int19 : intT Try.prog 19 = none := by kernel_rfl
theorem zer19 : zerT Try.prog 19 = some [.pointer none] := by kernel_rfl
theorem eqg19 : Try.prog.eqGuardType (Try.prog.depth) 19 = false := by kernel_rfl
theorem szs19 : sizesOk Try.prog 19 = true := by kernel_rfl
theorem plc19_0 : placeT Try.prog 19 0 = some (0, 1) := by kernel_rfl
theorem str19 : strT Try.prog 19 = false := by kernel_rfl
theorem fld19_0 : fldT Try.prog 19 0 = some (0, 17) := by kernel_rfl
theorem agg20 : aggT Try.prog 20 = some false := by kernel_rfl
theorem siz20 : sizT Try.prog 20 = some 1 := by kernel_rfl
theorem byt20 : bytT Try.prog 20 = some 16 := by kernel_rfl
theorem elem20 : elemT Try.prog 20 = none := by kernel_rfl
theorem arr20 : arrT Try.prog 20 = none := by kernel_rfl
theorem int20 : intT Try.prog 20 = none := by kernel_rfl
theorem zer20 : zerT Try.prog 20 = some [.nilIface] := by kernel_rfl
theorem str20 : strT Try.prog 20 = false := by kernel_rfl
theorem agg21 : aggT Try.prog 21 = some false := by kernel_rfl
theorem siz21 : sizT Try.prog 21 = some 1 := by kernel_rfl
theorem byt21 : bytT Try.prog 21 = some 4 := by kernel_rfl
theorem elem21 : elemT Try.prog 21 = none := by kernel_rfl
theorem arr21 : arrT Try.prog 21 = none := by kernel_rfl
theorem int21 : intT Try.prog 21 = some .i32 := by kernel_rfl
theorem zer21 : zerT Try.prog 21 = some [.int .i32 0] := by kernel_rfl
theorem str21 : strT Try.prog 21 = false := by kernel_rfl
theorem agg22 : aggT Try.prog 22 = some false := by kernel_rfl
theorem siz22 : sizT Try.prog 22 = some 1 := by kernel_rfl
theorem byt22 : bytT Try.prog 22 = some 24 := by kernel_rfl
theorem elem22 : elemT Try.prog 22 = some 40 := by kernel_rfl
theorem arr22 : arrT Try.prog 22 = none := by kernel_rfl
theorem int22 : intT Try.prog 22 = none := by kernel_rfl
theorem zer22 : zerT Try.prog 22 = some [.slice none 0 0] := by kernel_rfl
theorem str22 : strT Try.prog 22 = false := by kernel_rfl
theorem agg23 : aggT Try.prog 23 = some false := by kernel_rfl
theorem siz23 : sizT Try.prog 23 = some 1 := by kernel_rfl
theorem byt23 : bytT Try.prog 23 = some 8 := by kernel_rfl
theorem elem23 : elemT Try.prog 23 = none := by kernel_rfl
theorem arr23 : arrT Try.prog 23 = none := by kernel_rfl
theorem int23 : intT Try.prog 23 = none := by kernel_rfl
theorem zer23 : zerT Try.prog 23 = some [.pointer none] := by kernel_rfl
theorem str23 : strT Try.prog 23 = false := by kernel_rfl
theorem agg24 : aggT Try.prog 24 = some false := by kernel_rfl
theorem siz24 : sizT Try.prog 24 = some 1 := by kernel_rfl
theorem byt24 : bytT Try.prog 24 = some 8 := by kernel_rfl
theorem elem24 : elemT Try.prog 24 = none := by kernel_rfl
theorem arr24 : arrT Try.prog 24 = none := by kernel_rfl
theorem int24 : intT Try.prog 24 = some .i64 := by kernel_rfl
theorem zer24 : zerT Try.prog 24 = some [.int .i64 0] := by kernel_rfl
theorem str24 : strT Try.prog 24 = false := by kernel_rfl
theorem agg25 : aggT Try.prog 25 = some false := by kernel_rfl
theorem siz25 : sizT Try.prog 25 = some 1 := by kernel_rfl
theorem byt25 : bytT Try.prog 25 = some 0 := by kernel_rfl
theorem elem25 : elemT Try.prog 25 = none := by kernel_rfl
theorem arr25 : arrT Try.prog 25 = none := by kernel_rfl
theorem int25 : intT Try.prog 25 = none := by kernel_rfl
theorem str25 : strT Try.prog 25 = false := by kernel_rfl
theorem agg26 : aggT Try.prog 26 = some false := by kernel_rfl
theorem siz26 : sizT Try.prog 26 = some 1 := by kernel_rfl
theorem byt26 : bytT Try.prog 26 = some 8 := by kernel_rfl
theorem elem26 : elemT Try.prog 26 = none := by kernel_rfl
theorem arr26 : arrT Try.prog 26 = none := by kernel_rfl
theorem int26 : intT Try.prog 26 = none := by kernel_rfl
theorem zer26 : zerT Try.prog 26 = some [.nilFunc] := by kernel_rfl
theorem str26 : strT Try.prog 26 = false := by kernel_rfl
theorem agg27 : aggT Try.prog 27 = some false := by kernel_rfl
theorem siz27 : sizT Try.prog 27 = some 1 := by kernel_rfl
theorem byt27 : bytT Try.prog 27 = some 4 := by kernel_rfl
theorem elem27 : elemT Try.prog 27 = none := by kernel_rfl
theorem arr27 : arrT Try.prog 27 = none := by kernel_rfl
theorem int27 : intT Try.prog 27 = some .u32 := by kernel_rfl
theorem zer27 : zerT Try.prog 27 = some [.int .u32 0] := by kernel_rfl
theorem str27 : strT Try.prog 27 = false := by kernel_rfl
theorem agg28 : aggT Try.prog 28 = some true := by kernel_rfl
theorem siz28 : sizT Try.prog 28 = some 2 := by kernel_rfl
theorem byt28 : bytT Try.prog 28 = some 8 := by kernel_rfl
theorem elem28 : elemT Try.prog 28 = none := by kernel_rfl
theorem arr28 : arrT Try.prog 28 = none := by kernel_rfl
theorem int28 : intT Try.prog 28 = none := by kernel_rfl
theorem zer28 : zerT Try.prog 28 = some [.bool false, .int .u32 0] := by kernel_rfl
theorem kd28 : kdT Try.prog 60 28 = some [.bool, .int .u32] := by kernel_rfl
theorem eqg28 : Try.prog.eqGuardType (Try.prog.depth) 28 = false := by kernel_rfl
theorem szs28 : sizesOk Try.prog 28 = true := by kernel_rfl
theorem plc28_0 : placeT Try.prog 28 0 = some (0, 1) := by kernel_rfl
theorem plc28_1 : placeT Try.prog 28 1 = some (1, 1) := by kernel_rfl
theorem str28 : strT Try.prog 28 = false := by kernel_rfl
theorem fld28_0 : fldT Try.prog 28 0 = some (0, 4) := by kernel_rfl
theorem fld28_1 : fldT Try.prog 28 1 = some (1, 27) := by kernel_rfl
theorem agg29 : aggT Try.prog 29 = some true := by kernel_rfl
theorem siz29 : sizT Try.prog 29 = some 2 := by kernel_rfl
theorem byt29 : bytT Try.prog 29 = some 8 := by kernel_rfl
theorem elem29 : elemT Try.prog 29 = none := by kernel_rfl
theorem arr29 : arrT Try.prog 29 = none := by kernel_rfl
theorem int29 : intT Try.prog 29 = none := by kernel_rfl
theorem zer29 : zerT Try.prog 29 = some [.bool false, .int .u32 0] := by kernel_rfl
theorem kd29 : kdT Try.prog 60 29 = some [.bool, .int .u32] := by kernel_rfl
theorem eqg29 : Try.prog.eqGuardType (Try.prog.depth) 29 = false := by kernel_rfl
theorem szs29 : sizesOk Try.prog 29 = true := by kernel_rfl
theorem plc29_0 : placeT Try.prog 29 0 = some (0, 1) := by kernel_rfl
theorem plc29_1 : placeT Try.prog 29 1 = some (1, 1) := by kernel_rfl
theorem str29 : strT Try.prog 29 = false := by kernel_rfl
theorem fld29_0 : fldT Try.prog 29 0 = some (0, 4) := by kernel_rfl
theorem fld29_1 : fldT Try.prog 29 1 = some (1, 27) := by kernel_rfl
theorem agg30 : aggT Try.prog 30 = some true := by kernel_rfl
theorem siz30 : sizT Try.prog 30 = some 8 := by kernel_rfl
theorem byt30 : bytT Try.prog 30 = some 8 := by kernel_rfl
theorem elem30 : elemT Try.prog 30 = none := by kernel_rfl
theorem arr30 : arrT Try.prog 30 = some (8, 5) := by kernel_rfl
theorem int30 : intT Try.prog 30 = none := by kernel_rfl
theorem zer30 : zerT Try.prog 30 = some [.int .u8 0, .int .u8 0, .int .u8 0, .int .u8 0, .int .u8 0, .int .u8 0, .int .u8 0, .int .u8 0] := by kernel_rfl
theorem kd30 : kdT Try.prog 60 30 = some [.int .u8, .int .u8, .int .u8, .int .u8, .int .u8, .int .u8, .int .u8, .int .u8] := by kernel_rfl
theorem eqg30 : Try.prog.eqGuardType (Try.prog.depth) 30 = false := by kernel_rfl
theorem szs30 : sizesOk Try.prog 30 = true := by kernel_rfl
theorem plc30_0 : placeT Try.prog 30 0 = some (0, 1) := by kernel_rfl
theorem plc30_1 : placeT Try.prog 30 1 = some (1, 1) := by kernel_rfl
theorem plc30_2 : placeT Try.prog 30 2 = some (2, 1) := by kernel_rfl
theorem plc30_3 : placeT Try.prog 30 3 = some (3, 1) := by kernel_rfl
theorem plc30_4 : placeT Try.prog 30 4 = some (4, 1) := by kernel_rfl
theorem plc30_5 : placeT Try.prog 30 5 = some (5, 1) := by kernel_rfl
theorem plc30_6 : placeT Try.prog 30 6 = some (6, 1) := by kernel_rfl
theorem plc30_7 : placeT Try.prog 30 7 = some (7, 1) := by kernel_rfl
theorem plc30_8 : placeT Try.prog 30 8 = some (8, 1) := by kernel_rfl
theorem plc30_9 : placeT Try.prog 30 9 = some (9, 1) := by kernel_rfl
theorem plc30_10 : placeT Try.prog 30 10 = some (10, 1) := by kernel_rfl
theorem plc30_11 : placeT Try.prog 30 11 = some (11, 1) := by kernel_rfl
theorem str30 : strT Try.prog 30 = false := by kernel_rfl
theorem agg31 : aggT Try.prog 31 = some true := by kernel_rfl
theorem siz31 : sizT Try.prog 31 = some 12 := by kernel_rfl
theorem byt31 : bytT Try.prog 31 = some 32 := by kernel_rfl
theorem elem31 : elemT Try.prog 31 = none := by kernel_rfl
theorem arr31 : arrT Try.prog 31 = none := by kernel_rfl
theorem int31 : intT Try.prog 31 = none := by kernel_rfl
theorem zer31 : zerT Try.prog 31 = some [.bool false, .int .u32 0, .bool false, .int .i64 0, .int .u8 0, .int .u8 0, .int .u8 0, .int .u8 0, .int .u8 0, .int .u8 0, .int .u8 0, .int .u8 0] := by kernel_rfl
theorem kd31 : kdT Try.prog 60 31 = some [.bool, .int .u32, .bool, .int .i64, .int .u8, .int .u8, .int .u8, .int .u8, .int .u8, .int .u8, .int .u8, .int .u8] := by kernel_rfl
theorem eqg31 : Try.prog.eqGuardType (Try.prog.depth) 31 = false := by kernel_rfl
theorem szs31 : sizesOk Try.prog 31 = true := by kernel_rfl
theorem plc31_0 : placeT Try.prog 31 0 = some (0, 2) := by kernel_rfl
theorem plc31_1 : placeT Try.prog 31 1 = some (2, 1) := by kernel_rfl
theorem plc31_2 : placeT Try.prog 31 2 = some (3, 1) := by kernel_rfl
theorem plc31_3 : placeT Try.prog 31 3 = some (4, 8) := by kernel_rfl
theorem str31 : strT Try.prog 31 = false := by kernel_rfl
theorem fld31_0 : fldT Try.prog 31 0 = some (0, 29) := by kernel_rfl
theorem fld31_1 : fldT Try.prog 31 1 = some (2, 4) := by kernel_rfl
theorem fld31_2 : fldT Try.prog 31 2 = some (3, 3) := by kernel_rfl
theorem fld31_3 : fldT Try.prog 31 3 = some (4, 30) := by kernel_rfl
theorem agg32 : aggT Try.prog 32 = some true := by kernel_rfl
theorem siz32 : sizT Try.prog 32 = some 12 := by kernel_rfl
theorem byt32 : bytT Try.prog 32 = some 32 := by kernel_rfl
theorem elem32 : elemT Try.prog 32 = none := by kernel_rfl
theorem arr32 : arrT Try.prog 32 = none := by kernel_rfl
theorem int32 : intT Try.prog 32 = none := by kernel_rfl
theorem zer32 : zerT Try.prog 32 = some [.bool false, .int .u32 0, .bool false, .int .i64 0, .int .u8 0, .int .u8 0, .int .u8 0, .int .u8 0, .int .u8 0, .int .u8 0, .int .u8 0, .int .u8 0] := by kernel_rfl
theorem kd32 : kdT Try.prog 60 32 = some [.bool, .int .u32, .bool, .int .i64, .int .u8, .int .u8, .int .u8, .int .u8, .int .u8, .int .u8, .int .u8, .int .u8] := by kernel_rfl
theorem eqg32 : Try.prog.eqGuardType (Try.prog.depth) 32 = false := by kernel_rfl
theorem szs32 : sizesOk Try.prog 32 = true := by kernel_rfl
theorem plc32_0 : placeT Try.prog 32 0 = some (0, 2) := by kernel_rfl
theorem plc32_1 : placeT Try.prog 32 1 = some (2, 1) := by kernel_rfl
theorem plc32_2 : placeT Try.prog 32 2 = some (3, 1) := by kernel_rfl
theorem plc32_3 : placeT Try.prog 32 3 = some (4, 8) := by kernel_rfl
theorem str32 : strT Try.prog 32 = false := by kernel_rfl
theorem fld32_0 : fldT Try.prog 32 0 = some (0, 29) := by kernel_rfl
theorem fld32_1 : fldT Try.prog 32 1 = some (2, 4) := by kernel_rfl
theorem fld32_2 : fldT Try.prog 32 2 = some (3, 3) := by kernel_rfl
theorem fld32_3 : fldT Try.prog 32 3 = some (4, 30) := by kernel_rfl
theorem agg33 : aggT Try.prog 33 = some true := by kernel_rfl
theorem siz33 : sizT Try.prog 33 = some 14 := by kernel_rfl
theorem byt33 : bytT Try.prog 33 = some 48 := by kernel_rfl
theorem elem33 : elemT Try.prog 33 = none := by kernel_rfl
theorem arr33 : arrT Try.prog 33 = none := by kernel_rfl
theorem int33 : intT Try.prog 33 = none := by kernel_rfl
theorem zer33 : zerT Try.prog 33 = some [.bool false, .int .u32 0, .bool false, .int .i64 0, .int .u8 0, .int .u8 0, .int .u8 0, .int .u8 0, .int .u8 0, .int .u8 0, .int .u8 0, .int .u8 0, .bool false, .int .i64 0] := by kernel_rfl
theorem kd33 : kdT Try.prog 60 33 = some [.bool, .int .u32, .bool, .int .i64, .int .u8, .int .u8, .int .u8, .int .u8, .int .u8, .int .u8, .int .u8, .int .u8, .bool, .int .i64] := by kernel_rfl
theorem eqg33 : Try.prog.eqGuardType (Try.prog.depth) 33 = false := by kernel_rfl
theorem szs33 : sizesOk Try.prog 33 = true := by kernel_rfl
theorem plc33_0 : placeT Try.prog 33 0 = some (0, 12) := by kernel_rfl
theorem plc33_1 : placeT Try.prog 33 1 = some (12, 1) := by kernel_rfl
theorem plc33_2 : placeT Try.prog 33 2 = some (13, 1) := by kernel_rfl
theorem str33 : strT Try.prog 33 = false := by kernel_rfl
theorem fld33_0 : fldT Try.prog 33 0 = some (0, 32) := by kernel_rfl
theorem fld33_1 : fldT Try.prog 33 1 = some (12, 4) := by kernel_rfl
theorem fld33_2 : fldT Try.prog 33 2 = some (13, 3) := by kernel_rfl
theorem agg34 : aggT Try.prog 34 = some true := by kernel_rfl
theorem siz34 : sizT Try.prog 34 = some 14 := by kernel_rfl
theorem byt34 : bytT Try.prog 34 = some 48 := by kernel_rfl
theorem elem34 : elemT Try.prog 34 = none := by kernel_rfl
theorem arr34 : arrT Try.prog 34 = none := by kernel_rfl
theorem int34 : intT Try.prog 34 = none := by kernel_rfl
theorem zer34 : zerT Try.prog 34 = some [.bool false, .int .u32 0, .bool false, .int .i64 0, .int .u8 0, .int .u8 0, .int .u8 0, .int .u8 0, .int .u8 0, .int .u8 0, .int .u8 0, .int .u8 0, .bool false, .int .i64 0] := by kernel_rfl
theorem kd34 : kdT Try.prog 60 34 = some [.bool, .int .u32, .bool, .int .i64, .int .u8, .int .u8, .int .u8, .int .u8, .int .u8, .int .u8, .int .u8, .int .u8, .bool, .int .i64] := by kernel_rfl
theorem eqg34 : Try.prog.eqGuardType (Try.prog.depth) 34 = false := by kernel_rfl
theorem szs34 : sizesOk Try.prog 34 = true := by kernel_rfl
theorem plc34_0 : placeT Try.prog 34 0 = some (0, 12) := by kernel_rfl
theorem plc34_1 : placeT Try.prog 34 1 = some (12, 1) := by kernel_rfl
theorem plc34_2 : placeT Try.prog 34 2 = some (13, 1) := by kernel_rfl
theorem str34 : strT Try.prog 34 = false := by kernel_rfl
theorem fld34_0 : fldT Try.prog 34 0 = some (0, 32) := by kernel_rfl
theorem fld34_1 : fldT Try.prog 34 1 = some (12, 4) := by kernel_rfl
theorem fld34_2 : fldT Try.prog 34 2 = some (13, 3) := by kernel_rfl
theorem agg35 : aggT Try.prog 35 = some false := by kernel_rfl
theorem siz35 : sizT Try.prog 35 = some 1 := by kernel_rfl
theorem byt35 : bytT Try.prog 35 = some 8 := by kernel_rfl
theorem elem35 : elemT Try.prog 35 = none := by kernel_rfl
theorem arr35 : arrT Try.prog 35 = none := by kernel_rfl
theorem int35 : intT Try.prog 35 = some .i64 := by kernel_rfl
theorem zer35 : zerT Try.prog 35 = some [.int .i64 0] := by kernel_rfl
theorem str35 : strT Try.prog 35 = false := by kernel_rfl
theorem agg36 : aggT Try.prog 36 = some true := by kernel_rfl
theorem siz36 : sizT Try.prog 36 = some 17 := by kernel_rfl
theorem byt36 : bytT Try.prog 36 = some 48 := by kernel_rfl
theorem elem36 : elemT Try.prog 36 = none := by kernel_rfl
theorem arr36 : arrT Try.prog 36 = none := by kernel_rfl
theorem int36 : intT Try.prog 36 = none := by kernel_rfl
theorem zer36 : zerT Try.prog 36 = some [.bool false, .bool false, .bool false, .bool false, .int .i64 0, .bool false, .int .u32 0, .bool false, .int .i64 0, .int .u8 0, .int .u8 0, .int .u8 0, .int .u8 0, .int .u8 0, .int .u8 0, .int .u8 0, .int .u8 0] := by kernel_rfl
theorem kd36 : kdT Try.prog 60 36 = some [.bool, .bool, .bool, .bool, .int .i64, .bool, .int .u32, .bool, .int .i64, .int .u8, .int .u8, .int .u8, .int .u8, .int .u8, .int .u8, .int .u8, .int .u8] := by kernel_rfl
theorem eqg36 : Try.prog.eqGuardType (Try.prog.depth) 36 = false := by kernel_rfl
theorem szs36 : sizesOk Try.prog 36 = true := by kernel_rfl
theorem plc36_0 : placeT Try.prog 36 0 = some (0, 1) := by kernel_rfl
theorem plc36_1 : placeT Try.prog 36 1 = some (1, 1) := by kernel_rfl
theorem plc36_2 : placeT Try.prog 36 2 = some (2, 1) := by kernel_rfl
theorem plc36_3 : placeT Try.prog 36 3 = some (3, 1) := by kernel_rfl
theorem plc36_4 : placeT Try.prog 36 4 = some (4, 1) := by kernel_rfl
theorem plc36_5 : placeT Try.prog 36 5 = some (5, 12) := by kernel_rfl
theorem str36 : strT Try.prog 36 = false := by kernel_rfl
theorem fld36_0 : fldT Try.prog 36 0 = some (0, 4) := by kernel_rfl
theorem fld36_1 : fldT Try.prog 36 1 = some (1, 4) := by kernel_rfl
theorem fld36_2 : fldT Try.prog 36 2 = some (2, 4) := by kernel_rfl
theorem fld36_3 : fldT Try.prog 36 3 = some (3, 4) := by kernel_rfl
theorem fld36_4 : fldT Try.prog 36 4 = some (4, 35) := by kernel_rfl
theorem fld36_5 : fldT Try.prog 36 5 = some (5, 32) := by kernel_rfl
theorem agg37 : aggT Try.prog 37 = some true := by kernel_rfl
theorem siz37 : sizT Try.prog 37 = some 17 := by kernel_rfl
theorem byt37 : bytT Try.prog 37 = some 48 := by kernel_rfl
theorem elem37 : elemT Try.prog 37 = none := by kernel_rfl
theorem arr37 : arrT Try.prog 37 = none := by kernel_rfl
theorem int37 : intT Try.prog 37 = none := by kernel_rfl
theorem zer37 : zerT Try.prog 37 = some [.bool false, .bool false, .bool false, .bool false, .int .i64 0, .bool false, .int .u32 0, .bool false, .int .i64 0, .int .u8 0, .int .u8 0, .int .u8 0, .int .u8 0, .int .u8 0, .int .u8 0, .int .u8 0, .int .u8 0] := by kernel_rfl
theorem kd37 : kdT Try.prog 60 37 = some [.bool, .bool, .bool, .bool, .int .i64, .bool, .int .u32, .bool, .int .i64, .int .u8, .int .u8, .int .u8, .int .u8, .int .u8, .int .u8, .int .u8, .int .u8] := by kernel_rfl
theorem eqg37 : Try.prog.eqGuardType (Try.prog.depth) 37 = false := by kernel_rfl
theorem szs37 : sizesOk Try.prog 37 = true := by kernel_rfl
theorem plc37_0 : placeT Try.prog 37 0 = some (0, 1) := by kernel_rfl
theorem plc37_1 : placeT Try.prog 37 1 = some (1, 1) := by kernel_rfl
theorem plc37_2 : placeT Try.prog 37 2 = some (2, 1) := by kernel_rfl
theorem plc37_3 : placeT Try.prog 37 3 = some (3, 1) := by kernel_rfl
theorem plc37_4 : placeT Try.prog 37 4 = some (4, 1) := by kernel_rfl
theorem plc37_5 : placeT Try.prog 37 5 = some (5, 12) := by kernel_rfl
theorem str37 : strT Try.prog 37 = false := by kernel_rfl
theorem fld37_0 : fldT Try.prog 37 0 = some (0, 4) := by kernel_rfl
theorem fld37_1 : fldT Try.prog 37 1 = some (1, 4) := by kernel_rfl
theorem fld37_2 : fldT Try.prog 37 2 = some (2, 4) := by kernel_rfl
theorem fld37_3 : fldT Try.prog 37 3 = some (3, 4) := by kernel_rfl
theorem fld37_4 : fldT Try.prog 37 4 = some (4, 35) := by kernel_rfl
theorem fld37_5 : fldT Try.prog 37 5 = some (5, 32) := by kernel_rfl
theorem agg38 : aggT Try.prog 38 = some false := by kernel_rfl
theorem siz38 : sizT Try.prog 38 = some 1 := by kernel_rfl
theorem byt38 : bytT Try.prog 38 = some 8 := by kernel_rfl
theorem elem38 : elemT Try.prog 38 = none := by kernel_rfl
theorem arr38 : arrT Try.prog 38 = none := by kernel_rfl
theorem int38 : intT Try.prog 38 = some .i64 := by kernel_rfl
theorem zer38 : zerT Try.prog 38 = some [.int .i64 0] := by kernel_rfl
theorem str38 : strT Try.prog 38 = false := by kernel_rfl
theorem agg39 : aggT Try.prog 39 = some true := by kernel_rfl
theorem siz39 : sizT Try.prog 39 = some 34 := by kernel_rfl
theorem byt39 : bytT Try.prog 39 = some 120 := by kernel_rfl
theorem elem39 : elemT Try.prog 39 = none := by kernel_rfl
theorem arr39 : arrT Try.prog 39 = none := by kernel_rfl
theorem int39 : intT Try.prog 39 = none := by kernel_rfl
theorem zer39 : zerT Try.prog 39 = some [.int .i64 0, .bool false, .int .u32 0, .bool false, .int .i64 0, .int .u8 0, .int .u8 0, .int .u8 0, .int .u8 0, .int .u8 0, .int .u8 0, .int .u8 0, .int .u8 0, .bool false, .int .i64 0, .bool false, .bool false, .bool false, .bool false, .int .i64 0, .bool false, .int .u32 0, .bool false, .int .i64 0, .int .u8 0, .int .u8 0, .int .u8 0, .int .u8 0, .int .u8 0, .int .u8 0, .int .u8 0, .int .u8 0, .int .i64 0, .int .i64 0] := by kernel_rfl
theorem kd39 : kdT Try.prog 60 39 = some [.int .i64, .bool, .int .u32, .bool, .int .i64, .int .u8, .int .u8, .int .u8, .int .u8, .int .u8, .int .u8, .int .u8, .int .u8, .bool, .int .i64, .bool, .bool, .bool, .bool, .int .i64, .bool, .int .u32, .bool, .int .i64, .int .u8, .int .u8, .int .u8, .int .u8, .int .u8, .int .u8, .int .u8, .int .u8, .int .i64, .int .i64] := by kernel_rfl
theorem eqg39 : Try.prog.eqGuardType (Try.prog.depth) 39 = false := by kernel_rfl
theorem szs39 : sizesOk Try.prog 39 = true := by kernel_rfl
theorem plc39_0 : placeT Try.prog 39 0 = some (0, 1) := by kernel_rfl
theorem plc39_1 : placeT Try.prog 39 1 = some (1, 14) := by kernel_rfl
theorem plc39_2 : placeT Try.prog 39 2 = some (15, 17) := by kernel_rfl
theorem plc39_3 : placeT Try.prog 39 3 = some (32, 1) := by kernel_rfl
theorem plc39_4 : placeT Try.prog 39 4 = some (33, 1) := by kernel_rfl
theorem str39 : strT Try.prog 39 = false := by kernel_rfl
theorem fld39_0 : fldT Try.prog 39 0 = some (0, 3) := by kernel_rfl
theorem fld39_1 : fldT Try.prog 39 1 = some (1, 34) := by kernel_rfl
theorem fld39_2 : fldT Try.prog 39 2 = some (15, 37) := by kernel_rfl
theorem fld39_3 : fldT Try.prog 39 3 = some (32, 38) := by kernel_rfl
theorem fld39_4 : fldT Try.prog 39 4 = some (33, 2) := by kernel_rfl
theorem agg40 : aggT Try.prog 40 = some true := by kernel_rfl
theorem siz40 : sizT Try.prog 40 = some 34 := by kernel_rfl
theorem byt40 : bytT Try.prog 40 = some 120 := by kernel_rfl
theorem elem40 : elemT Try.prog 40 = none := by kernel_rfl
theorem arr40 : arrT Try.prog 40 = none := by kernel_rfl
theorem int40 : intT Try.prog 40 = none := by kernel_rfl
theorem zer40 : zerT Try.prog 40 = some [.int .i64 0, .bool false, .int .u32 0, .bool false, .int .i64 0, .int .u8 0, .int .u8 0, .int .u8 0, .int .u8 0, .int .u8 0, .int .u8 0, .int .u8 0, .int .u8 0, .bool false, .int .i64 0, .bool false, .bool false, .bool false, .bool false, .int .i64 0, .bool false, .int .u32 0, .bool false, .int .i64 0, .int .u8 0, .int .u8 0, .int .u8 0, .int .u8 0, .int .u8 0, .int .u8 0, .int .u8 0, .int .u8 0, .int .i64 0, .int .i64 0] := by kernel_rfl
theorem kd40 : kdT Try.prog 60 40 = some [.int .i64, .bool, .int .u32, .bool, .int .i64, .int .u8, .int .u8, .int .u8, .int .u8, .int .u8, .int .u8, .int .u8, .int .u8, .bool, .int .i64, .bool, .bool, .bool, .bool, .int .i64, .bool, .int .u32, .bool, .int .i64, .int .u8, .int .u8, .int .u8, .int .u8, .int .u8, .int .u8, .int .u8, .int .u8, .int .i64, .int .i64] := by kernel_rfl
theorem eqg40 : Try.prog.eqGuardType (Try.prog.depth) 40 = false := by kernel_rfl
theorem szs40 : sizesOk Try.prog 40 = true := by kernel_rfl
theorem plc40_0 : placeT Try.prog 40 0 = some (0, 1) := by kernel_rfl
theorem plc40_1 : placeT Try.prog 40 1 = some (1, 14) := by kernel_rfl
theorem plc40_2 : placeT Try.prog 40 2 = some (15, 17) := by kernel_rfl
theorem plc40_3 : placeT Try.prog 40 3 = some (32, 1) := by kernel_rfl
theorem plc40_4 : placeT Try.prog 40 4 = some (33, 1) := by kernel_rfl
theorem str40 : strT Try.prog 40 = false := by kernel_rfl
theorem fld40_0 : fldT Try.prog 40 0 = some (0, 3) := by kernel_rfl
theorem fld40_1 : fldT Try.prog 40 1 = some (1, 34) := by kernel_rfl
theorem fld40_2 : fldT Try.prog 40 2 = some (15, 37) := by kernel_rfl
theorem fld40_3 : fldT Try.prog 40 3 = some (32, 38) := by kernel_rfl
theorem fld40_4 : fldT Try.prog 40 4 = some (33, 2) := by kernel_rfl
theorem agg41 : aggT Try.prog 41 = some false := by kernel_rfl
theorem siz41 : sizT Try.prog 41 = some 1 := by kernel_rfl
theorem byt41 : bytT Try.prog 41 = some 0 := by kernel_rfl
theorem elem41 : elemT Try.prog 41 = none := by kernel_rfl
theorem arr41 : arrT Try.prog 41 = none := by kernel_rfl
theorem int41 : intT Try.prog 41 = none := by kernel_rfl
theorem str41 : strT Try.prog 41 = false := by kernel_rfl
theorem agg42 : aggT Try.prog 42 = some false := by kernel_rfl
theorem siz42 : sizT Try.prog 42 = some 1 := by kernel_rfl
theorem byt42 : bytT Try.prog 42 = some 8 := by kernel_rfl
theorem elem42 : elemT Try.prog 42 = none := by kernel_rfl
theorem arr42 : arrT Try.prog 42 = none := by kernel_rfl
theorem int42 : intT Try.prog 42 = none := by kernel_rfl
theorem zer42 : zerT Try.prog 42 = some [.nilFunc] := by kernel_rfl
theorem str42 : strT Try.prog 42 = false := by kernel_rfl
theorem agg43 : aggT Try.prog 43 = some false := by kernel_rfl
theorem siz43 : sizT Try.prog 43 = some 1 := by kernel_rfl
theorem byt43 : bytT Try.prog 43 = some 8 := by kernel_rfl
theorem elem43 : elemT Try.prog 43 = none := by kernel_rfl
theorem arr43 : arrT Try.prog 43 = none := by kernel_rfl
theorem int43 : intT Try.prog 43 = none := by kernel_rfl
theorem zer43 : zerT Try.prog 43 = some [.nilFunc] := by kernel_rfl
theorem str43 : strT Try.prog 43 = false := by kernel_rfl
theorem agg44 : aggT Try.prog 44 = some false := by kernel_rfl
theorem siz44 : sizT Try.prog 44 = some 1 := by kernel_rfl
theorem byt44 : bytT Try.prog 44 = some 8 := by kernel_rfl
theorem elem44 : elemT Try.prog 44 = none := by kernel_rfl
theorem arr44 : arrT Try.prog 44 = none := by kernel_rfl
theorem int44 : intT Try.prog 44 = none := by kernel_rfl
theorem zer44 : zerT Try.prog 44 = some [.nilFunc] := by kernel_rfl
theorem str44 : strT Try.prog 44 = false := by kernel_rfl
theorem agg45 : aggT Try.prog 45 = some false := by kernel_rfl
theorem siz45 : sizT Try.prog 45 = some 1 := by kernel_rfl
theorem byt45 : bytT Try.prog 45 = some 24 := by kernel_rfl
theorem elem45 : elemT Try.prog 45 = some 51 := by kernel_rfl
theorem arr45 : arrT Try.prog 45 = none := by kernel_rfl
theorem int45 : intT Try.prog 45 = none := by kernel_rfl
theorem zer45 : zerT Try.prog 45 = some [.slice none 0 0] := by kernel_rfl
theorem str45 : strT Try.prog 45 = false := by kernel_rfl
theorem agg46 : aggT Try.prog 46 = some false := by kernel_rfl
theorem siz46 : sizT Try.prog 46 = some 1 := by kernel_rfl
theorem byt46 : bytT Try.prog 46 = some 8 := by kernel_rfl
theorem elem46 : elemT Try.prog 46 = none := by kernel_rfl
theorem arr46 : arrT Try.prog 46 = none := by kernel_rfl
theorem int46 : intT Try.prog 46 = none := by kernel_rfl
theorem zer46 : zerT Try.prog 46 = some [.nilFunc] := by kernel_rfl
theorem str46 : strT Try.prog 46 = false := by kernel_rfl
theorem agg47 : aggT Try.prog 47 = some false := by kernel_rfl
theorem siz47 : sizT Try.prog 47 = some 1 := by kernel_rfl
theorem byt47 : bytT Try.prog 47 = some 24 := by kernel_rfl
theorem elem47 : elemT Try.prog 47 = some 3 := by kernel_rfl
theorem arr47 : arrT Try.prog 47 = none := by kernel_rfl
theorem int47 : intT Try.prog 47 = none := by kernel_rfl
theorem zer47 : zerT Try.prog 47 = some [.slice none 0 0] := by kernel_rfl
theorem str47 : strT Try.prog 47 = false := by kernel_rfl
theorem agg48 : aggT Try.prog 48 = some false := by kernel_rfl
theorem siz48 : sizT Try.prog 48 = some 1 := by kernel_rfl
theorem byt48 : bytT Try.prog 48 = some 8 := by kernel_rfl
theorem elem48 : elemT Try.prog 48 = none := by kernel_rfl
theorem arr48 : arrT Try.prog 48 = none := by kernel_rfl
theorem int48 : intT Try.prog 48 = none := by kernel_rfl
theorem zer48 : zerT Try.prog 48 = some [.nilFunc] := by kernel_rfl
theorem str48 : strT Try.prog 48 = false := by kernel_rfl
theorem agg49 : aggT Try.prog 49 = some false := by kernel_rfl
theorem siz49 : sizT Try.prog 49 = some 1 := by kernel_rfl
theorem byt49 : bytT Try.prog 49 = some 8 := by kernel_rfl
theorem elem49 : elemT Try.prog 49 = none := by kernel_rfl
theorem arr49 : arrT Try.prog 49 = none := by kernel_rfl
theorem int49 : intT Try.prog 49 = some .i64 := by kernel_rfl
theorem zer49 : zerT Try.prog 49 = some [.int .i64 0] := by kernel_rfl
theorem str49 : strT Try.prog 49 = false := by kernel_rfl
theorem agg50 : aggT Try.prog 50 = some true := by kernel_rfl
theorem siz50 : sizT Try.prog 50 = some 3 := by kernel_rfl
theorem byt50 : bytT Try.prog 50 = some 24 := by kernel_rfl
theorem elem50 : elemT Try.prog 50 = none := by kernel_rfl
theorem arr50 : arrT Try.prog 50 = none := by kernel_rfl
theorem int50 : intT Try.prog 50 = none := by kernel_rfl
theorem zer50 : zerT Try.prog 50 = some [.int .i64 0, .int .i64 0, .int .i64 0] := by kernel_rfl
theorem kd50 : kdT Try.prog 60 50 = some [.int .i64, .int .i64, .int .i64] := by kernel_rfl
theorem eqg50 : Try.prog.eqGuardType (Try.prog.depth) 50 = false := by kernel_rfl
theorem szs50 : sizesOk Try.prog 50 = true := by kernel_rfl
theorem plc50_0 : placeT Try.prog 50 0 = some (0, 1) := by kernel_rfl
theorem plc50_1 : placeT Try.prog 50 1 = some (1, 1) := by kernel_rfl
theorem plc50_2 : placeT Try.prog 50 2 = some (2, 1) := by kernel_rfl
theorem str50 : strT Try.prog 50 = false := by kernel_rfl
theorem fld50_0 : fldT Try.prog 50 0 = some (0, 3) := by kernel_rfl
theorem fld50_1 : fldT Try.prog 50 1 = some (1, 49) := by kernel_rfl
theorem fld50_2 : fldT Try.prog 50 2 = some (2, 2) := by kernel_rfl
theorem agg51 : aggT Try.prog 51 = some true := by kernel_rfl
theorem siz51 : sizT Try.prog 51 = some 3 := by kernel_rfl
theorem byt51 : bytT Try.prog 51 = some 24 := by kernel_rfl
theorem elem51 : elemT Try.prog 51 = none := by kernel_rfl
theorem arr51 : arrT Try.prog 51 = none := by kernel_rfl
theorem int51 : intT Try.prog 51 = none := by kernel_rfl
theorem zer51 : zerT Try.prog 51 = some [.int .i64 0, .int .i64 0, .int .i64 0] := by kernel_rfl
theorem kd51 : kdT Try.prog 60 51 = some [.int .i64, .int .i64, .int .i64] := by kernel_rfl
theorem eqg51 : Try.prog.eqGuardType (Try.prog.depth) 51 = false := by kernel_rfl
theorem szs51 : sizesOk Try.prog 51 = true := by kernel_rfl
theorem plc51_0 : placeT Try.prog 51 0 = some (0, 1) := by kernel_rfl
theorem plc51_1 : placeT Try.prog 51 1 = some (1, 1) := by kernel_rfl
theorem plc51_2 : placeT Try.prog 51 2 = some (2, 1) := by kernel_rfl
theorem str51 : strT Try.prog 51 = false := by kernel_rfl
theorem fld51_0 : fldT Try.prog 51 0 = some (0, 3) := by kernel_rfl
theorem fld51_1 : fldT Try.prog 51 1 = some (1, 49) := by kernel_rfl
theorem fld51_2 : fldT Try.prog 51 2 = some (2, 2) := by kernel_rfl
theorem agg52 : aggT Try.prog 52 = some false := by kernel_rfl
theorem siz52 : sizT Try.prog 52 = some 1 := by kernel_rfl
theorem byt52 : bytT Try.prog 52 = some 8 := by kernel_rfl
theorem elem52 : elemT Try.prog 52 = none := by kernel_rfl
theorem arr52 : arrT Try.prog 52 = none := by kernel_rfl
theorem int52 : intT Try.prog 52 = none := by kernel_rfl
theorem zer52 : zerT Try.prog 52 = some [.nilFunc] := by kernel_rfl
theorem str52 : strT Try.prog 52 = false := by kernel_rfl
theorem agg53 : aggT Try.prog 53 = some false := by kernel_rfl
theorem siz53 : sizT Try.prog 53 = some 1 := by kernel_rfl
theorem byt53 : bytT Try.prog 53 = some 8 := by kernel_rfl
theorem elem53 : elemT Try.prog 53 = none := by kernel_rfl
theorem arr53 : arrT Try.prog 53 = none := by kernel_rfl
theorem int53 : intT Try.prog 53 = none := by kernel_rfl
theorem zer53 : zerT Try.prog 53 = some [.nilFunc] := by kernel_rfl
theorem str53 : strT Try.prog 53 = false := by kernel_rfl
theorem agg54 : aggT Try.prog 54 = some false := by kernel_rfl
theorem siz54 : sizT Try.prog 54 = some 1 := by kernel_rfl
theorem byt54 : bytT Try.prog 54 = some 8 := by kernel_rfl
theorem elem54 : elemT Try.prog 54 = none := by kernel_rfl
theorem arr54 : arrT Try.prog 54 = none := by kernel_rfl
theorem int54 : intT Try.prog 54 = none := by kernel_rfl
theorem zer54 : zerT Try.prog 54 = some [.nilFunc] := by kernel_rfl
theorem str54 : strT Try.prog 54 = false := by kernel_rfl
theorem agg55 : aggT Try.prog 55 = some false := by kernel_rfl
theorem siz55 : sizT Try.prog 55 = some 1 := by kernel_rfl
theorem byt55 : bytT Try.prog 55 = some 0 := by kernel_rfl
theorem elem55 : elemT Try.prog 55 = none := by kernel_rfl
theorem arr55 : arrT Try.prog 55 = none := by kernel_rfl
theorem int55 : intT Try.prog 55 = none := by kernel_rfl
theorem str55 : strT Try.prog 55 = false := by kernel_rfl
theorem agg56 : aggT Try.prog 56 = some false := by kernel_rfl
theorem siz56 : sizT Try.prog 56 = some 1 := by kernel_rfl
theorem byt56 : bytT Try.prog 56 = some 8 := by kernel_rfl
theorem elem56 : elemT Try.prog 56 = none := by kernel_rfl
theorem arr56 : arrT Try.prog 56 = none := by kernel_rfl
theorem int56 : intT Try.prog 56 = none := by kernel_rfl
theorem zer56 : zerT Try.prog 56 = some [.nilFunc] := by kernel_rfl
theorem str56 : strT Try.prog 56 = false := by kernel_rfl
theorem agg57 : aggT Try.prog 57 = some false := by kernel_rfl
theorem siz57 : sizT Try.prog 57 = some 1 := by kernel_rfl
theorem byt57 : bytT Try.prog 57 = some 8 := by kernel_rfl
theorem elem57 : elemT Try.prog 57 = none := by kernel_rfl
theorem arr57 : arrT Try.prog 57 = none := by kernel_rfl
theorem int57 : intT Try.prog 57 = none := by kernel_rfl
theorem zer57 : zerT Try.prog 57 = some [.nilFunc] := by kernel_rfl
theorem str57 : strT Try.prog 57 = false := by kernel_rfl
theorem agg58 : aggT Try.prog 58 = some true := by kernel_rfl
theorem siz58 : sizT Try.prog 58 = some 2 := by kernel_rfl
theorem byt58 : bytT Try.prog 58 = some 16 := by kernel_rfl
theorem elem58 : elemT Try.prog 58 = none := by kernel_rfl
theorem arr58 : arrT Try.prog 58 = some (2, 3) := by kernel_rfl
theorem int58 : intT Try.prog 58 = none := by kernel_rfl
theorem zer58 : zerT Try.prog 58 = some [.int .i64 0, .int .i64 0] := by kernel_rfl
theorem kd58 : kdT Try.prog 60 58 = some [.int .i64, .int .i64] := by kernel_rfl
theorem eqg58 : Try.prog.eqGuardType (Try.prog.depth) 58 = false := by kernel_rfl
theorem szs58 : sizesOk Try.prog 58 = true := by kernel_rfl
theorem plc58_0 : placeT Try.prog 58 0 = some (0, 1) := by kernel_rfl
theorem plc58_1 : placeT Try.prog 58 1 = some (1, 1) := by kernel_rfl
theorem plc58_2 : placeT Try.prog 58 2 = some (2, 1) := by kernel_rfl
theorem plc58_3 : placeT Try.prog 58 3 = some (3, 1) := by kernel_rfl
theorem plc58_4 : placeT Try.prog 58 4 = some (4, 1) := by kernel_rfl
theorem plc58_5 : placeT Try.prog 58 5 = some (5, 1) := by kernel_rfl
theorem plc58_6 : placeT Try.prog 58 6 = some (6, 1) := by kernel_rfl
theorem plc58_7 : placeT Try.prog 58 7 = some (7, 1) := by kernel_rfl
theorem plc58_8 : placeT Try.prog 58 8 = some (8, 1) := by kernel_rfl
theorem plc58_9 : placeT Try.prog 58 9 = some (9, 1) := by kernel_rfl
theorem plc58_10 : placeT Try.prog 58 10 = some (10, 1) := by kernel_rfl
theorem plc58_11 : placeT Try.prog 58 11 = some (11, 1) := by kernel_rfl
theorem str58 : strT Try.prog 58 = false := by kernel_rfl
theorem agg59 : aggT Try.prog 59 = some false := by kernel_rfl
theorem siz59 : sizT Try.prog 59 = some 1 := by kernel_rfl
theorem byt59 : bytT Try.prog 59 = some 24 := by kernel_rfl
theorem elem59 : elemT Try.prog 59 = some 113 := by kernel_rfl
theorem arr59 : arrT Try.prog 59 = none := by kernel_rfl
theorem int59 : intT Try.prog 59 = none := by kernel_rfl
theorem zer59 : zerT Try.prog 59 = some [.slice none 0 0] := by kernel_rfl
theorem str59 : strT Try.prog 59 = false := by kernel_rfl
theorem agg60 : aggT Try.prog 60 = some false := by kernel_rfl
theorem siz60 : sizT Try.prog 60 = some 1 := by kernel_rfl
theorem byt60 : bytT Try.prog 60 = some 8 := by kernel_rfl
theorem elem60 : elemT Try.prog 60 = none := by kernel_rfl
theorem arr60 : arrT Try.prog 60 = none := by kernel_rfl
theorem int60 : intT Try.prog 60 = none := by kernel_rfl
theorem zer60 : zerT Try.prog 60 = some [.pointer none] := by kernel_rfl
theorem str60 : strT Try.prog 60 = false := by kernel_rfl
theorem agg61 : aggT Try.prog 61 = some false := by kernel_rfl
theorem siz61 : sizT Try.prog 61 = some 1 := by kernel_rfl
theorem byt61 : bytT Try.prog 61 = some 0 := by kernel_rfl
theorem elem61 : elemT Try.prog 61 = none := by kernel_rfl
theorem arr61 : arrT Try.prog 61 = none := by kernel_rfl
theorem int61 : intT Try.prog 61 = none := by kernel_rfl
theorem str61 : strT Try.prog 61 = false := by kernel_rfl
theorem agg62 : aggT Try.prog 62 = some false := by kernel_rfl
theorem siz62 : sizT Try.prog 62 = some 1 := by kernel_rfl
theorem byt62 : bytT Try.prog 62 = some 8 := by kernel_rfl
theorem elem62 : elemT Try.prog 62 = none := by kernel_rfl
theorem arr62 : arrT Try.prog 62 = none := by kernel_rfl
theorem int62 : intT Try.prog 62 = none := by kernel_rfl
theorem zer62 : zerT Try.prog 62 = some [.nilFunc] := by kernel_rfl
theorem str62 : strT Try.prog 62 = false := by kernel_rfl
theorem agg63 : aggT Try.prog 63 = some true := by kernel_rfl
theorem siz63 : sizT Try.prog 63 = some 2 := by kernel_rfl
theorem byt63 : bytT Try.prog 63 = some 16 := by kernel_rfl
theorem elem63 : elemT Try.prog 63 = none := by kernel_rfl
theorem arr63 : arrT Try.prog 63 = none := by kernel_rfl
theorem int63 : intT Try.prog 63 = none := by kernel_rfl
theorem zer63 : zerT Try.prog 63 = some [.pointer none, .pointer none] := by kernel_rfl
theorem eqg63 : Try.prog.eqGuardType (Try.prog.depth) 63 = false := by kernel_rfl
theorem szs63 : sizesOk Try.prog 63 = true := by kernel_rfl
theorem plc63_0 : placeT Try.prog 63 0 = some (0, 1) := by kernel_rfl
theorem plc63_1 : placeT Try.prog 63 1 = some (1, 1) := by kernel_rfl
theorem str63 : strT Try.prog 63 = false := by kernel_rfl
theorem fld63_0 : fldT Try.prog 63 0 = some (0, 23) := by kernel_rfl
theorem fld63_1 : fldT Try.prog 63 1 = some (1, 60) := by kernel_rfl
theorem agg64 : aggT Try.prog 64 = some true := by kernel_rfl
theorem siz64 : sizT Try.prog 64 = some 2 := by kernel_rfl
theorem byt64 : bytT Try.prog 64 = some 16 := by kernel_rfl
theorem elem64 : elemT Try.prog 64 = none := by kernel_rfl
theorem arr64 : arrT Try.prog 64 = none := by kernel_rfl
theorem int64 : intT Try.prog 64 = none := by kernel_rfl
theorem zer64 : zerT Try.prog 64 = some [.pointer none, .pointer none] := by kernel_rfl
theorem eqg64 : Try.prog.eqGuardType (Try.prog.depth) 64 = false := by kernel_rfl
theorem szs64 : sizesOk Try.prog 64 = true := by kernel_rfl
theorem plc64_0 : placeT Try.prog 64 0 = some (0, 1) := by kernel_rfl
theorem plc64_1 : placeT Try.prog 64 1 = some (1, 1) := by kernel_rfl
theorem str64 : strT Try.prog 64 = false := by kernel_rfl
theorem fld64_0 : fldT Try.prog 64 0 = some (0, 23) := by kernel_rfl
theorem fld64_1 : fldT Try.prog 64 1 = some (1, 60) := by kernel_rfl
theorem agg65 : aggT Try.prog 65 = some false := by kernel_rfl
theorem siz65 : sizT Try.prog 65 = some 1 := by kernel_rfl
theorem byt65 : bytT Try.prog 65 = some 8 := by kernel_rfl
theorem elem65 : elemT Try.prog 65 = none := by kernel_rfl
theorem arr65 : arrT Try.prog 65 = none := by kernel_rfl
theorem int65 : intT Try.prog 65 = none := by kernel_rfl
theorem zer65 : zerT Try.prog 65 = some [.nilFunc] := by kernel_rfl
theorem str65 : strT Try.prog 65 = false := by kernel_rfl
theorem agg66 : aggT Try.prog 66 = some false := by kernel_rfl
theorem siz66 : sizT Try.prog 66 = some 1 := by kernel_rfl
theorem byt66 : bytT Try.prog 66 = some 8 := by kernel_rfl
theorem elem66 : elemT Try.prog 66 = none := by kernel_rfl
theorem arr66 : arrT Try.prog 66 = none := by kernel_rfl
theorem int66 : intT Try.prog 66 = none := by kernel_rfl
theorem zer66 : zerT Try.prog 66 = some [.nilFunc] := by kernel_rfl
theorem str66 : strT Try.prog 66 = false := by kernel_rfl
theorem agg67 : aggT Try.prog 67 = some false := by kernel_rfl
theorem siz67 : sizT Try.prog 67 = some 1 := by kernel_rfl
theorem byt67 : bytT Try.prog 67 = some 8 := by kernel_rfl
theorem elem67 : elemT Try.prog 67 = none := by kernel_rfl
theorem arr67 : arrT Try.prog 67 = none := by kernel_rfl
theorem int67 : intT Try.prog 67 = none := by kernel_rfl
theorem zer67 : zerT Try.prog 67 = some [.nilFunc] := by kernel_rfl
theorem str67 : strT Try.prog 67 = false := by kernel_rfl
theorem agg68 : aggT Try.prog 68 = some false := by kernel_rfl
theorem siz68 : sizT Try.prog 68 = some 1 := by kernel_rfl
theorem byt68 : bytT Try.prog 68 = some 8 := by kernel_rfl
theorem elem68 : elemT Try.prog 68 = none := by kernel_rfl
theorem arr68 : arrT Try.prog 68 = none := by kernel_rfl
theorem int68 : intT Try.prog 68 = none := by kernel_rfl
theorem zer68 : zerT Try.prog 68 = some [.pointer none] := by kernel_rfl
theorem str68 : strT Try.prog 68 = false := by kernel_rfl
theorem agg69 : aggT Try.prog 69 = some false := by kernel_rfl
theorem siz69 : sizT Try.prog 69 = some 1 := by kernel_rfl
theorem byt69 : bytT Try.prog 69 = some 0 := by kernel_rfl
theorem elem69 : elemT Try.prog 69 = none := by kernel_rfl
theorem arr69 : arrT Try.prog 69 = none := by kernel_rfl
theorem int69 : intT Try.prog 69 = none := by kernel_rfl
theorem str69 : strT Try.prog 69 = false := by kernel_rfl
theorem agg70 : aggT Try.prog 70 = some false := by kernel_rfl
theorem siz70 : sizT Try.prog 70 = some 1 := by kernel_rfl
theorem byt70 : bytT Try.prog 70 = some 8 := by kernel_rfl
theorem elem70 : elemT Try.prog 70 = none := by kernel_rfl
theorem arr70 : arrT Try.prog 70 = none := by kernel_rfl
theorem int70 : intT Try.prog 70 = none := by kernel_rfl
theorem zer70 : zerT Try.prog 70 = some [.nilFunc] := by kernel_rfl
theorem str70 : strT Try.prog 70 = false := by kernel_rfl
theorem agg71 : aggT Try.prog 71 = some false := by kernel_rfl
theorem siz71 : sizT Try.prog 71 = some 1 := by kernel_rfl
theorem byt71 : bytT Try.prog 71 = some 8 := by kernel_rfl
theorem elem71 : elemT Try.prog 71 = none := by kernel_rfl
theorem arr71 : arrT Try.prog 71 = none := by kernel_rfl
theorem int71 : intT Try.prog 71 = none := by kernel_rfl
theorem zer71 : zerT Try.prog 71 = some [.pointer none] := by kernel_rfl
theorem str71 : strT Try.prog 71 = false := by kernel_rfl
theorem agg72 : aggT Try.prog 72 = some false := by kernel_rfl
theorem siz72 : sizT Try.prog 72 = some 1 := by kernel_rfl
theorem byt72 : bytT Try.prog 72 = some 0 := by kernel_rfl
theorem elem72 : elemT Try.prog 72 = none := by kernel_rfl
theorem arr72 : arrT Try.prog 72 = none := by kernel_rfl
theorem int72 : intT Try.prog 72 = none := by kernel_rfl
theorem str72 : strT Try.prog 72 = false := by kernel_rfl
theorem agg73 : aggT Try.prog 73 = some false := by kernel_rfl
theorem siz73 : sizT Try.prog 73 = some 1 := by kernel_rfl
theorem byt73 : bytT Try.prog 73 = some 8 := by kernel_rfl
theorem elem73 : elemT Try.prog 73 = none := by kernel_rfl
theorem arr73 : arrT Try.prog 73 = none := by kernel_rfl
theorem int73 : intT Try.prog 73 = none := by kernel_rfl
theorem zer73 : zerT Try.prog 73 = some [.nilFunc] := by kernel_rfl
theorem str73 : strT Try.prog 73 = false := by kernel_rfl
theorem agg74 : aggT Try.prog 74 = some false := by kernel_rfl
theorem siz74 : sizT Try.prog 74 = some 1 := by kernel_rfl
theorem byt74 : bytT Try.prog 74 = some 8 := by kernel_rfl
theorem elem74 : elemT Try.prog 74 = none := by kernel_rfl
theorem arr74 : arrT Try.prog 74 = none := by kernel_rfl
theorem int74 : intT Try.prog 74 = none := by kernel_rfl
theorem zer74 : zerT Try.prog 74 = some [.pointer none] := by kernel_rfl
theorem str74 : strT Try.prog 74 = false := by kernel_rfl
theorem agg75 : aggT Try.prog 75 = some true := by kernel_rfl
theorem siz75 : sizT Try.prog 75 = some 7 := by kernel_rfl
theorem byt75 : bytT Try.prog 75 = some 72 := by kernel_rfl
theorem elem75 : elemT Try.prog 75 = none := by kernel_rfl
theorem arr75 : arrT Try.prog 75 = none := by kernel_rfl
theorem int75 : intT Try.prog 75 = none := by kernel_rfl
theorem zer75 : zerT Try.prog 75 = some [.pointer none, .pointer none, .pointer none, .int .i64 0, .int .i64 0, .int .i64 0, .slice none 0 0] := by kernel_rfl
theorem eqg75 : Try.prog.eqGuardType (Try.prog.depth) 75 = false := by kernel_rfl
theorem szs75 : sizesOk Try.prog 75 = true := by kernel_rfl
theorem plc75_0 : placeT Try.prog 75 0 = some (0, 1) := by kernel_rfl
theorem plc75_1 : placeT Try.prog 75 1 = some (1, 1) := by kernel_rfl
theorem plc75_2 : placeT Try.prog 75 2 = some (2, 1) := by kernel_rfl
theorem plc75_3 : placeT Try.prog 75 3 = some (3, 1) := by kernel_rfl
theorem plc75_4 : placeT Try.prog 75 4 = some (4, 1) := by kernel_rfl
theorem plc75_5 : placeT Try.prog 75 5 = some (5, 1) := by kernel_rfl
theorem plc75_6 : placeT Try.prog 75 6 = some (6, 1) := by kernel_rfl
theorem str75 : strT Try.prog 75 = false := by kernel_rfl
theorem fld75_0 : fldT Try.prog 75 0 = some (0, 68) := by kernel_rfl
theorem fld75_1 : fldT Try.prog 75 1 = some (1, 71) := by kernel_rfl
theorem fld75_2 : fldT Try.prog 75 2 = some (2, 74) := by kernel_rfl
theorem fld75_3 : fldT Try.prog 75 3 = some (3, 38) := by kernel_rfl
theorem fld75_4 : fldT Try.prog 75 4 = some (4, 2) := by kernel_rfl
theorem fld75_5 : fldT Try.prog 75 5 = some (5, 2) := by kernel_rfl
theorem fld75_6 : fldT Try.prog 75 6 = some (6, 45) := by kernel_rfl
theorem agg76 : aggT Try.prog 76 = some true := by kernel_rfl
theorem siz76 : sizT Try.prog 76 = some 7 := by kernel_rfl
theorem byt76 : bytT Try.prog 76 = some 72 := by kernel_rfl
theorem elem76 : elemT Try.prog 76 = none := by kernel_rfl
theorem arr76 : arrT Try.prog 76 = none := by kernel_rfl
theorem int76 : intT Try.prog 76 = none := by kernel_rfl
theorem zer76 : zerT Try.prog 76 = some [.pointer none, .pointer none, .pointer none, .int .i64 0, .int .i64 0, .int .i64 0, .slice none 0 0] := by kernel_rfl
theorem eqg76 : Try.prog.eqGuardType (Try.prog.depth) 76 = false := by kernel_rfl
theorem szs76 : sizesOk Try.prog 76 = true := by kernel_rfl
theorem plc76_0 : placeT Try.prog 76 0 = some (0, 1) := by kernel_rfl
theorem plc76_1 : placeT Try.prog 76 1 = some (1, 1) := by kernel_rfl
theorem plc76_2 : placeT Try.prog 76 2 = some (2, 1) := by kernel_rfl
theorem plc76_3 : placeT Try.prog 76 3 = some (3, 1) := by kernel_rfl
theorem plc76_4 : placeT Try.prog 76 4 = some (4, 1) := by kernel_rfl
theorem plc76_5 : placeT Try.prog 76 5 = some (5, 1) := by kernel_rfl
theorem plc76_6 : placeT Try.prog 76 6 = some (6, 1) := by kernel_rfl
theorem str76 : strT Try.prog 76 = false := by kernel_rfl
theorem fld76_0 : fldT Try.prog 76 0 = some (0, 68) := by kernel_rfl
theorem fld76_1 : fldT Try.prog 76 1 = some (1, 71) := by kernel_rfl
theorem fld76_2 : fldT Try.prog 76 2 = some (2, 74) := by kernel_rfl
theorem fld76_3 : fldT Try.prog 76 3 = some (3, 38) := by kernel_rfl
theorem fld76_4 : fldT Try.prog 76 4 = some (4, 2) := by kernel_rfl
theorem fld76_5 : fldT Try.prog 76 5 = some (5, 2) := by kernel_rfl
theorem fld76_6 : fldT Try.prog 76 6 = some (6, 45) := by kernel_rfl
theorem agg77 : aggT Try.prog 77 = some false := by kernel_rfl
theorem siz77 : sizT Try.prog 77 = some 1 := by kernel_rfl
theorem byt77 : bytT Try.prog 77 = some 8 := by kernel_rfl
theorem elem77 : elemT Try.prog 77 = none := by kernel_rfl
theorem arr77 : arrT Try.prog 77 = none := by kernel_rfl
theorem int77 : intT Try.prog 77 = none := by kernel_rfl
theorem zer77 : zerT Try.prog 77 = some [.nilFunc] := by kernel_rfl
theorem str77 : strT Try.prog 77 = false := by kernel_rfl
theorem agg78 : aggT Try.prog 78 = some true := by kernel_rfl
theorem siz78 : sizT Try.prog 78 = some 2 := by kernel_rfl
theorem byt78 : bytT Try.prog 78 = some 16 := by kernel_rfl
theorem elem78 : elemT Try.prog 78 = none := by kernel_rfl
theorem arr78 : arrT Try.prog 78 = none := by kernel_rfl
theorem int78 : intT Try.prog 78 = none := by kernel_rfl
theorem zer78 : zerT Try.prog 78 = some [.int .i64 0, .bool false] := by kernel_rfl
theorem kd78 : kdT Try.prog 60 78 = some [.int .i64, .bool] := by kernel_rfl
theorem eqg78 : Try.prog.eqGuardType (Try.prog.depth) 78 = false := by kernel_rfl
theorem szs78 : sizesOk Try.prog 78 = true := by kernel_rfl
theorem plc78_0 : placeT Try.prog 78 0 = some (0, 1) := by kernel_rfl
theorem plc78_1 : placeT Try.prog 78 1 = some (1, 1) := by kernel_rfl
theorem str78 : strT Try.prog 78 = false := by kernel_rfl
theorem fld78_0 : fldT Try.prog 78 0 = some (0, 3) := by kernel_rfl
theorem fld78_1 : fldT Try.prog 78 1 = some (1, 4) := by kernel_rfl
theorem agg79 : aggT Try.prog 79 = some true := by kernel_rfl
theorem siz79 : sizT Try.prog 79 = some 2 := by kernel_rfl
theorem byt79 : bytT Try.prog 79 = some 16 := by kernel_rfl
theorem elem79 : elemT Try.prog 79 = none := by kernel_rfl
theorem arr79 : arrT Try.prog 79 = none := by kernel_rfl
theorem int79 : intT Try.prog 79 = none := by kernel_rfl
theorem zer79 : zerT Try.prog 79 = some [.int .i64 0, .bool false] := by kernel_rfl
theorem kd79 : kdT Try.prog 60 79 = some [.int .i64, .bool] := by kernel_rfl
theorem eqg79 : Try.prog.eqGuardType (Try.prog.depth) 79 = false := by kernel_rfl
theorem szs79 : sizesOk Try.prog 79 = true := by kernel_rfl
theorem plc79_0 : placeT Try.prog 79 0 = some (0, 1) := by kernel_rfl
theorem plc79_1 : placeT Try.prog 79 1 = some (1, 1) := by kernel_rfl
theorem str79 : strT Try.prog 79 = false := by kernel_rfl
theorem fld79_0 : fldT Try.prog 79 0 = some (0, 3) := by kernel_rfl
theorem fld79_1 : fldT Try.prog 79 1 = some (1, 4) := by kernel_rfl
theorem agg80 : aggT Try.prog 80 = some false := by kernel_rfl
theorem siz80 : sizT Try.prog 80 = some 1 := by kernel_rfl
theorem byt80 : bytT Try.prog 80 = some 8 := by kernel_rfl
theorem elem80 : elemT Try.prog 80 = none := by kernel_rfl
theorem arr80 : arrT Try.prog 80 = none := by kernel_rfl
theorem int80 : intT Try.prog 80 = none := by kernel_rfl
theorem zer80 : zerT Try.prog 80 = some [.nilFunc] := by kernel_rfl
theorem str80 : strT Try.prog 80 = false := by kernel_rfl
theorem agg81 : aggT Try.prog 81 = some false := by kernel_rfl
theorem siz81 : sizT Try.prog 81 = some 1 := by kernel_rfl
theorem byt81 : bytT Try.prog 81 = some 8 := by kernel_rfl
theorem elem81 : elemT Try.prog 81 = none := by kernel_rfl
theorem arr81 : arrT Try.prog 81 = none := by kernel_rfl
theorem int81 : intT Try.prog 81 = none := by kernel_rfl
theorem zer81 : zerT Try.prog 81 = some [.nilFunc] := by kernel_rfl
theorem str81 : strT Try.prog 81 = false := by kernel_rfl
theorem agg82 : aggT Try.prog 82 = some false := by kernel_rfl
theorem siz82 : sizT Try.prog 82 = some 1 := by kernel_rfl
theorem byt82 : bytT Try.prog 82 = some 8 := by kernel_rfl
theorem elem82 : elemT Try.prog 82 = none := by kernel_rfl
theorem arr82 : arrT Try.prog 82 = none := by kernel_rfl
theorem int82 : intT Try.prog 82 = none := by kernel_rfl
theorem zer82 : zerT Try.prog 82 = some [.nilFunc] := by kernel_rfl
theorem str82 : strT Try.prog 82 = false := by kernel_rfl
theorem agg83 : aggT Try.prog 83 = some false := by kernel_rfl
theorem siz83 : sizT Try.prog 83 = some 1 := by kernel_rfl
theorem byt83 : bytT Try.prog 83 = some 8 := by kernel_rfl
theorem elem83 : elemT Try.prog 83 = none := by kernel_rfl
theorem arr83 : arrT Try.prog 83 = none := by kernel_rfl
theorem int83 : intT Try.prog 83 = none := by kernel_rfl
theorem zer83 : zerT Try.prog 83 = some [.nilFunc] := by kernel_rfl
theorem str83 : strT Try.prog 83 = false := by kernel_rfl
theorem agg84 : aggT Try.prog 84 = some false := by kernel_rfl
theorem siz84 : sizT Try.prog 84 = some 1 := by kernel_rfl
theorem byt84 : bytT Try.prog 84 = some 8 := by kernel_rfl
theorem elem84 : elemT Try.prog 84 = none := by kernel_rfl
theorem arr84 : arrT Try.prog 84 = none := by kernel_rfl
theorem int84 : intT Try.prog 84 = none := by kernel_rfl
theorem zer84 : zerT Try.prog 84 = some [.nilFunc] := by kernel_rfl
theorem str84 : strT Try.prog 84 = false := by kernel_rfl
theorem agg85 : aggT Try.prog 85 = some false := by kernel_rfl
theorem siz85 : sizT Try.prog 85 = some 1 := by kernel_rfl
theorem byt85 : bytT Try.prog 85 = some 8 := by kernel_rfl
theorem elem85 : elemT Try.prog 85 = none := by kernel_rfl
theorem arr85 : arrT Try.prog 85 = none := by kernel_rfl
theorem int85 : intT Try.prog 85 = none := by kernel_rfl
theorem zer85 : zerT Try.prog 85 = some [.nilFunc] := by kernel_rfl
theorem str85 : strT Try.prog 85 = false := by kernel_rfl
theorem agg86 : aggT Try.prog 86 = some true := by kernel_rfl
theorem siz86 : sizT Try.prog 86 = some 14 := by kernel_rfl
theorem byt86 : bytT Try.prog 86 = some 48 := by kernel_rfl
theorem elem86 : elemT Try.prog 86 = none := by kernel_rfl
theorem arr86 : arrT Try.prog 86 = none := by kernel_rfl
theorem int86 : intT Try.prog 86 = none := by kernel_rfl
theorem zer86 : zerT Try.prog 86 = some [.bool false, .int .u32 0, .bool false, .int .i64 0, .int .u8 0, .int .u8 0, .int .u8 0, .int .u8 0, .int .u8 0, .int .u8 0, .int .u8 0, .int .u8 0, .int .i64 0, .int .i64 0] := by kernel_rfl
theorem kd86 : kdT Try.prog 60 86 = some [.bool, .int .u32, .bool, .int .i64, .int .u8, .int .u8, .int .u8, .int .u8, .int .u8, .int .u8, .int .u8, .int .u8, .int .i64, .int .i64] := by kernel_rfl
theorem eqg86 : Try.prog.eqGuardType (Try.prog.depth) 86 = false := by kernel_rfl
theorem szs86 : sizesOk Try.prog 86 = true := by kernel_rfl
theorem plc86_0 : placeT Try.prog 86 0 = some (0, 12) := by kernel_rfl
theorem plc86_1 : placeT Try.prog 86 1 = some (12, 1) := by kernel_rfl
theorem plc86_2 : placeT Try.prog 86 2 = some (13, 1) := by kernel_rfl
theorem str86 : strT Try.prog 86 = false := by kernel_rfl
theorem fld86_0 : fldT Try.prog 86 0 = some (0, 32) := by kernel_rfl
theorem fld86_1 : fldT Try.prog 86 1 = some (12, 2) := by kernel_rfl
theorem fld86_2 : fldT Try.prog 86 2 = some (13, 2) := by kernel_rfl
theorem agg87 : aggT Try.prog 87 = some true := by kernel_rfl
theorem siz87 : sizT Try.prog 87 = some 14 := by kernel_rfl
theorem byt87 : bytT Try.prog 87 = some 48 := by kernel_rfl
theorem elem87 : elemT Try.prog 87 = none := by kernel_rfl
theorem arr87 : arrT Try.prog 87 = none := by kernel_rfl
theorem int87 : intT Try.prog 87 = none := by kernel_rfl
theorem zer87 : zerT Try.prog 87 = some [.bool false, .int .u32 0, .bool false, .int .i64 0, .int .u8 0, .int .u8 0, .int .u8 0, .int .u8 0, .int .u8 0, .int .u8 0, .int .u8 0, .int .u8 0, .int .i64 0, .int .i64 0] := by kernel_rfl
theorem kd87 : kdT Try.prog 60 87 = some [.bool, .int .u32, .bool, .int .i64, .int .u8, .int .u8, .int .u8, .int .u8, .int .u8, .int .u8, .int .u8, .int .u8, .int .i64, .int .i64] := by kernel_rfl
theorem eqg87 : Try.prog.eqGuardType (Try.prog.depth) 87 = false := by kernel_rfl
theorem szs87 : sizesOk Try.prog 87 = true := by kernel_rfl
theorem plc87_0 : placeT Try.prog 87 0 = some (0, 12) := by kernel_rfl
theorem plc87_1 : placeT Try.prog 87 1 = some (12, 1) := by kernel_rfl
theorem plc87_2 : placeT Try.prog 87 2 = some (13, 1) := by kernel_rfl
theorem str87 : strT Try.prog 87 = false := by kernel_rfl
theorem fld87_0 : fldT Try.prog 87 0 = some (0, 32) := by kernel_rfl
theorem fld87_1 : fldT Try.prog 87 1 = some (12, 2) := by kernel_rfl
theorem fld87_2 : fldT Try.prog 87 2 = some (13, 2) := by kernel_rfl
theorem agg88 : aggT Try.prog 88 = some false := by kernel_rfl
theorem siz88 : sizT Try.prog 88 = some 1 := by kernel_rfl
theorem byt88 : bytT Try.prog 88 = some 0 := by kernel_rfl
theorem elem88 : elemT Try.prog 88 = none := by kernel_rfl
theorem arr88 : arrT Try.prog 88 = none := by kernel_rfl
theorem int88 : intT Try.prog 88 = none := by kernel_rfl
theorem str88 : strT Try.prog 88 = false := by kernel_rfl
theorem agg89 : aggT Try.prog 89 = some false := by kernel_rfl
theorem siz89 : sizT Try.prog 89 = some 1 := by kernel_rfl
theorem byt89 : bytT Try.prog 89 = some 8 := by kernel_rfl
theorem elem89 : elemT Try.prog 89 = none := by kernel_rfl
theorem arr89 : arrT Try.prog 89 = none := by kernel_rfl
theorem int89 : intT Try.prog 89 = none := by kernel_rfl
theorem zer89 : zerT Try.prog 89 = some [.nilFunc] := by kernel_rfl
theorem str89 : strT Try.prog 89 = false := by kernel_rfl
theorem agg90 : aggT Try.prog 90 = some false := by kernel_rfl
theorem siz90 : sizT Try.prog 90 = some 1 := by kernel_rfl
theorem byt90 : bytT Try.prog 90 = some 0 := by kernel_rfl
theorem elem90 : elemT Try.prog 90 = none := by kernel_rfl
theorem arr90 : arrT Try.prog 90 = none := by kernel_rfl
theorem int90 : intT Try.prog 90 = none := by kernel_rfl
theorem str90 : strT Try.prog 90 = false := by kernel_rfl
theorem agg91 : aggT Try.prog 91 = some false := by kernel_rfl
theorem siz91 : sizT Try.prog 91 = some 1 := by kernel_rfl
theorem byt91 : bytT Try.prog 91 = some 8 := by kernel_rfl
theorem elem91 : elemT Try.prog 91 = none := by kernel_rfl
theorem arr91 : arrT Try.prog 91 = none := by kernel_rfl
theorem int91 : intT Try.prog 91 = none := by kernel_rfl
theorem zer91 : zerT Try.prog 91 = some [.nilFunc] := by kernel_rfl
theorem str91 : strT Try.prog 91 = false := by kernel_rfl
theorem agg92 : aggT Try.prog 92 = some false := by kernel_rfl
theorem siz92 : sizT Try.prog 92 = some 1 := by kernel_rfl
theorem byt92 : bytT Try.prog 92 = some 8 := by kernel_rfl
theorem elem92 : elemT Try.prog 92 = none := by kernel_rfl
theorem arr92 : arrT Try.prog 92 = none := by kernel_rfl
theorem int92 : intT Try.prog 92 = none := by kernel_rfl
theorem zer92 : zerT Try.prog 92 = some [.nilFunc] := by kernel_rfl
theorem str92 : strT Try.prog 92 = false := by kernel_rfl
theorem agg93 : aggT Try.prog 93 = some false := by kernel_rfl
theorem siz93 : sizT Try.prog 93 = some 1 := by kernel_rfl
theorem byt93 : bytT Try.prog 93 = some 8 := by kernel_rfl
theorem elem93 : elemT Try.prog 93 = none := by kernel_rfl
theorem arr93 : arrT Try.prog 93 = none := by kernel_rfl
theorem int93 : intT Try.prog 93 = none := by kernel_rfl
theorem zer93 : zerT Try.prog 93 = some [.pointer none] := by kernel_rfl
theorem str93 : strT Try.prog 93 = false := by kernel_rfl
theorem agg94 : aggT Try.prog 94 = some false := by kernel_rfl
theorem siz94 : sizT Try.prog 94 = some 1 := by kernel_rfl
theorem byt94 : bytT Try.prog 94 = some 0 := by kernel_rfl
theorem elem94 : elemT Try.prog 94 = none := by kernel_rfl
theorem arr94 : arrT Try.prog 94 = none := by kernel_rfl
theorem int94 : intT Try.prog 94 = none := by kernel_rfl
theorem str94 : strT Try.prog 94 = false := by kernel_rfl
theorem agg95 : aggT Try.prog 95 = some false := by kernel_rfl
theorem siz95 : sizT Try.prog 95 = some 1 := by kernel_rfl
theorem byt95 : bytT Try.prog 95 = some 8 := by kernel_rfl
theorem elem95 : elemT Try.prog 95 = none := by kernel_rfl
theorem arr95 : arrT Try.prog 95 = none := by kernel_rfl
theorem int95 : intT Try.prog 95 = none := by kernel_rfl
theorem zer95 : zerT Try.prog 95 = some [.nilFunc] := by kernel_rfl
theorem str95 : strT Try.prog 95 = false := by kernel_rfl
theorem agg96 : aggT Try.prog 96 = some false := by kernel_rfl
theorem siz96 : sizT Try.prog 96 = some 1 := by kernel_rfl
theorem byt96 : bytT Try.prog 96 = some 8 := by kernel_rfl
theorem elem96 : elemT Try.prog 96 = none := by kernel_rfl
theorem arr96 : arrT Try.prog 96 = none := by kernel_rfl
theorem int96 : intT Try.prog 96 = none := by kernel_rfl
theorem zer96 : zerT Try.prog 96 = some [.pointer none] := by kernel_rfl
theorem str96 : strT Try.prog 96 = false := by kernel_rfl
theorem agg97 : aggT Try.prog 97 = some false := by kernel_rfl
theorem siz97 : sizT Try.prog 97 = some 1 := by kernel_rfl
theorem byt97 : bytT Try.prog 97 = some 0 := by kernel_rfl
theorem elem97 : elemT Try.prog 97 = none := by kernel_rfl
theorem arr97 : arrT Try.prog 97 = none := by kernel_rfl
theorem int97 : intT Try.prog 97 = none := by kernel_rfl
theorem str97 : strT Try.prog 97 = false := by kernel_rfl
theorem agg98 : aggT Try.prog 98 = some false := by kernel_rfl
theorem siz98 : sizT Try.prog 98 = some 1 := by kernel_rfl
theorem byt98 : bytT Try.prog 98 = some 8 := by kernel_rfl
theorem elem98 : elemT Try.prog 98 = none := by kernel_rfl
theorem arr98 : arrT Try.prog 98 = none := by kernel_rfl
theorem int98 : intT Try.prog 98 = none := by kernel_rfl
theorem zer98 : zerT Try.prog 98 = some [.nilFunc] := by kernel_rfl
theorem str98 : strT Try.prog 98 = false := by kernel_rfl
theorem agg99 : aggT Try.prog 99 = some true := by kernel_rfl
theorem siz99 : sizT Try.prog 99 = some 8 := by kernel_rfl
theorem byt99 : bytT Try.prog 99 = some 80 := by kernel_rfl
theorem elem99 : elemT Try.prog 99 = none := by kernel_rfl
theorem arr99 : arrT Try.prog 99 = none := by kernel_rfl
theorem int99 : intT Try.prog 99 = none := by kernel_rfl
theorem zer99 : zerT Try.prog 99 = some [.pointer none, .pointer none, .int .i64 0, .bool false, .int .i64 0, .int .i64 0, .int .i64 0, .slice none 0 0] := by kernel_rfl
theorem eqg99 : Try.prog.eqGuardType (Try.prog.depth) 99 = false := by kernel_rfl
theorem szs99 : sizesOk Try.prog 99 = true := by kernel_rfl
theorem plc99_0 : placeT Try.prog 99 0 = some (0, 1) := by kernel_rfl
theorem plc99_1 : placeT Try.prog 99 1 = some (1, 1) := by kernel_rfl
theorem plc99_2 : placeT Try.prog 99 2 = some (2, 1) := by kernel_rfl
theorem plc99_3 : placeT Try.prog 99 3 = some (3, 1) := by kernel_rfl
theorem plc99_4 : placeT Try.prog 99 4 = some (4, 1) := by kernel_rfl
theorem plc99_5 : placeT Try.prog 99 5 = some (5, 1) := by kernel_rfl
theorem plc99_6 : placeT Try.prog 99 6 = some (6, 1) := by kernel_rfl
theorem plc99_7 : placeT Try.prog 99 7 = some (7, 1) := by kernel_rfl
theorem str99 : strT Try.prog 99 = false := by kernel_rfl
theorem fld99_0 : fldT Try.prog 99 0 = some (0, 93) := by kernel_rfl
theorem fld99_1 : fldT Try.prog 99 1 = some (1, 96) := by kernel_rfl
theorem fld99_2 : fldT Try.prog 99 2 = some (2, 3) := by kernel_rfl
theorem fld99_3 : fldT Try.prog 99 3 = some (3, 4) := by kernel_rfl
theorem fld99_4 : fldT Try.prog 99 4 = some (4, 38) := by kernel_rfl
theorem fld99_5 : fldT Try.prog 99 5 = some (5, 2) := by kernel_rfl
theorem fld99_6 : fldT Try.prog 99 6 = some (6, 2) := by kernel_rfl
theorem fld99_7 : fldT Try.prog 99 7 = some (7, 45) := by kernel_rfl
theorem agg100 : aggT Try.prog 100 = some true := by kernel_rfl
theorem siz100 : sizT Try.prog 100 = some 8 := by kernel_rfl
theorem byt100 : bytT Try.prog 100 = some 80 := by kernel_rfl
theorem elem100 : elemT Try.prog 100 = none := by kernel_rfl
theorem arr100 : arrT Try.prog 100 = none := by kernel_rfl
theorem int100 : intT Try.prog 100 = none := by kernel_rfl
theorem zer100 : zerT Try.prog 100 = some [.pointer none, .pointer none, .int .i64 0, .bool false, .int .i64 0, .int .i64 0, .int .i64 0, .slice none 0 0] := by kernel_rfl
theorem eqg100 : Try.prog.eqGuardType (Try.prog.depth) 100 = false := by kernel_rfl
theorem szs100 : sizesOk Try.prog 100 = true := by kernel_rfl
theorem plc100_0 : placeT Try.prog 100 0 = some (0, 1) := by kernel_rfl
theorem plc100_1 : placeT Try.prog 100 1 = some (1, 1) := by kernel_rfl
theorem plc100_2 : placeT Try.prog 100 2 = some (2, 1) := by kernel_rfl
theorem plc100_3 : placeT Try.prog 100 3 = some (3, 1) := by kernel_rfl
theorem plc100_4 : placeT Try.prog 100 4 = some (4, 1) := by kernel_rfl
theorem plc100_5 : placeT Try.prog 100 5 = some (5, 1) := by kernel_rfl
theorem plc100_6 : placeT Try.prog 100 6 = some (6, 1) := by kernel_rfl
theorem plc100_7 : placeT Try.prog 100 7 = some (7, 1) := by kernel_rfl
theorem str100 : strT Try.prog 100 = false := by kernel_rfl
theorem fld100_0 : fldT Try.prog 100 0 = some (0, 93) := by kernel_rfl
theorem fld100_1 : fldT Try.prog 100 1 = some (1, 96) := by kernel_rfl
theorem fld100_2 : fldT Try.prog 100 2 = some (2, 3) := by kernel_rfl
theorem fld100_3 : fldT Try.prog 100 3 = some (3, 4) := by kernel_rfl
theorem fld100_4 : fldT Try.prog 100 4 = some (4, 38) := by kernel_rfl
theorem fld100_5 : fldT Try.prog 100 5 = some (5, 2) := by kernel_rfl
theorem fld100_6 : fldT Try.prog 100 6 = some (6, 2) := by kernel_rfl
theorem fld100_7 : fldT Try.prog 100 7 = some (7, 45) := by kernel_rfl
theorem agg101 : aggT Try.prog 101 = some false := by kernel_rfl
theorem siz101 : sizT Try.prog 101 = some 1 := by kernel_rfl
theorem byt101 : bytT Try.prog 101 = some 0 := by kernel_rfl
theorem elem101 : elemT Try.prog 101 = none := by kernel_rfl
theorem arr101 : arrT Try.prog 101 = none := by kernel_rfl
theorem int101 : intT Try.prog 101 = none := by kernel_rfl
theorem str101 : strT Try.prog 101 = false := by kernel_rfl
theorem agg102 : aggT Try.prog 102 = some false := by kernel_rfl
theorem siz102 : sizT Try.prog 102 = some 1 := by kernel_rfl
theorem byt102 : bytT Try.prog 102 = some 8 := by kernel_rfl
theorem elem102 : elemT Try.prog 102 = none := by kernel_rfl
theorem arr102 : arrT Try.prog 102 = none := by kernel_rfl
theorem int102 : intT Try.prog 102 = none := by kernel_rfl
theorem zer102 : zerT Try.prog 102 = some [.nilFunc] := by kernel_rfl
theorem str102 : strT Try.prog 102 = false := by kernel_rfl
theorem agg103 : aggT Try.prog 103 = some false := by kernel_rfl
theorem siz103 : sizT Try.prog 103 = some 1 := by kernel_rfl
theorem byt103 : bytT Try.prog 103 = some 24 := by kernel_rfl
theorem elem103 : elemT Try.prog 103 = some 87 := by kernel_rfl
theorem arr103 : arrT Try.prog 103 = none := by kernel_rfl
theorem int103 : intT Try.prog 103 = none := by kernel_rfl
theorem zer103 : zerT Try.prog 103 = some [.slice none 0 0] := by kernel_rfl
theorem str103 : strT Try.prog 103 = false := by kernel_rfl
theorem agg104 : aggT Try.prog 104 = some true := by kernel_rfl
theorem siz104 : sizT Try.prog 104 = some 4 := by kernel_rfl
theorem byt104 : bytT Try.prog 104 = some 64 := by kernel_rfl
theorem elem104 : elemT Try.prog 104 = none := by kernel_rfl
theorem arr104 : arrT Try.prog 104 = none := by kernel_rfl
theorem int104 : intT Try.prog 104 = none := by kernel_rfl
theorem zer104 : zerT Try.prog 104 = some [.int .i64 0, .slice none 0 0, .slice none 0 0, .bool false] := by kernel_rfl
theorem eqg104 : Try.prog.eqGuardType (Try.prog.depth) 104 = false := by kernel_rfl
theorem szs104 : sizesOk Try.prog 104 = true := by kernel_rfl
theorem plc104_0 : placeT Try.prog 104 0 = some (0, 1) := by kernel_rfl
theorem plc104_1 : placeT Try.prog 104 1 = some (1, 1) := by kernel_rfl
theorem plc104_2 : placeT Try.prog 104 2 = some (2, 1) := by kernel_rfl
theorem plc104_3 : placeT Try.prog 104 3 = some (3, 1) := by kernel_rfl
theorem str104 : strT Try.prog 104 = false := by kernel_rfl
theorem fld104_0 : fldT Try.prog 104 0 = some (0, 3) := by kernel_rfl
theorem fld104_1 : fldT Try.prog 104 1 = some (1, 59) := by kernel_rfl
theorem fld104_2 : fldT Try.prog 104 2 = some (2, 103) := by kernel_rfl
theorem fld104_3 : fldT Try.prog 104 3 = some (3, 4) := by kernel_rfl
theorem agg105 : aggT Try.prog 105 = some true := by kernel_rfl
theorem siz105 : sizT Try.prog 105 = some 4 := by kernel_rfl
theorem byt105 : bytT Try.prog 105 = some 64 := by kernel_rfl
theorem elem105 : elemT Try.prog 105 = none := by kernel_rfl
theorem arr105 : arrT Try.prog 105 = none := by kernel_rfl
theorem int105 : intT Try.prog 105 = none := by kernel_rfl
theorem zer105 : zerT Try.prog 105 = some [.int .i64 0, .slice none 0 0, .slice none 0 0, .bool false] := by kernel_rfl
theorem eqg105 : Try.prog.eqGuardType (Try.prog.depth) 105 = false := by kernel_rfl
theorem szs105 : sizesOk Try.prog 105 = true := by kernel_rfl
theorem plc105_0 : placeT Try.prog 105 0 = some (0, 1) := by kernel_rfl
theorem plc105_1 : placeT Try.prog 105 1 = some (1, 1) := by kernel_rfl
theorem plc105_2 : placeT Try.prog 105 2 = some (2, 1) := by kernel_rfl
theorem plc105_3 : placeT Try.prog 105 3 = some (3, 1) := by kernel_rfl
theorem str105 : strT Try.prog 105 = false := by kernel_rfl
theorem fld105_0 : fldT Try.prog 105 0 = some (0, 3) := by kernel_rfl
theorem fld105_1 : fldT Try.prog 105 1 = some (1, 59) := by kernel_rfl
theorem fld105_2 : fldT Try.prog 105 2 = some (2, 103) := by kernel_rfl
theorem fld105_3 : fldT Try.prog 105 3 = some (3, 4) := by kernel_rfl
theorem agg106 : aggT Try.prog 106 = some false := by kernel_rfl
theorem siz106 : sizT Try.prog 106 = some 1 := by kernel_rfl
theorem byt106 : bytT Try.prog 106 = some 8 := by kernel_rfl
theorem elem106 : elemT Try.prog 106 = none := by kernel_rfl
theorem arr106 : arrT Try.prog 106 = none := by kernel_rfl
theorem int106 : intT Try.prog 106 = none := by kernel_rfl
theorem zer106 : zerT Try.prog 106 = some [.nilFunc] := by kernel_rfl
theorem str106 : strT Try.prog 106 = false := by kernel_rfl
theorem agg107 : aggT Try.prog 107 = some false := by kernel_rfl
theorem siz107 : sizT Try.prog 107 = some 1 := by kernel_rfl
theorem byt107 : bytT Try.prog 107 = some 8 := by kernel_rfl
theorem elem107 : elemT Try.prog 107 = none := by kernel_rfl
theorem arr107 : arrT Try.prog 107 = none := by kernel_rfl
theorem int107 : intT Try.prog 107 = none := by kernel_rfl
theorem zer107 : zerT Try.prog 107 = some [.pointer none] := by kernel_rfl
theorem str107 : strT Try.prog 107 = false := by kernel_rfl
theorem agg108 : aggT Try.prog 108 = some true := by kernel_rfl
theorem siz108 : sizT Try.prog 108 = some 8 := by kernel_rfl
theorem byt108 : bytT Try.prog 108 = some 64 := by kernel_rfl
theorem elem108 : elemT Try.prog 108 = none := by kernel_rfl
theorem arr108 : arrT Try.prog 108 = some (8, 107) := by kernel_rfl
theorem int108 : intT Try.prog 108 = none := by kernel_rfl
theorem zer108 : zerT Try.prog 108 = some [.pointer none, .pointer none, .pointer none, .pointer none, .pointer none, .pointer none, .pointer none, .pointer none] := by kernel_rfl
theorem eqg108 : Try.prog.eqGuardType (Try.prog.depth) 108 = false := by kernel_rfl
theorem szs108 : sizesOk Try.prog 108 = true := by kernel_rfl
theorem plc108_0 : placeT Try.prog 108 0 = some (0, 1) := by kernel_rfl
theorem plc108_1 : placeT Try.prog 108 1 = some (1, 1) := by kernel_rfl
theorem plc108_2 : placeT Try.prog 108 2 = some (2, 1) := by kernel_rfl
theorem plc108_3 : placeT Try.prog 108 3 = some (3, 1) := by kernel_rfl
theorem plc108_4 : placeT Try.prog 108 4 = some (4, 1) := by kernel_rfl
theorem plc108_5 : placeT Try.prog 108 5 = some (5, 1) := by kernel_rfl
theorem plc108_6 : placeT Try.prog 108 6 = some (6, 1) := by kernel_rfl
theorem plc108_7 : placeT Try.prog 108 7 = some (7, 1) := by kernel_rfl
theorem plc108_8 : placeT Try.prog 108 8 = some (8, 1) := by kernel_rfl
theorem plc108_9 : placeT Try.prog 108 9 = some (9, 1) := by kernel_rfl
theorem plc108_10 : placeT Try.prog 108 10 = some (10, 1) := by kernel_rfl
theorem plc108_11 : placeT Try.prog 108 11 = some (11, 1) := by kernel_rfl
theorem str108 : strT Try.prog 108 = false := by kernel_rfl
theorem agg109 : aggT Try.prog 109 = some true := by kernel_rfl
theorem siz109 : sizT Try.prog 109 = some 9 := by kernel_rfl
theorem byt109 : bytT Try.prog 109 = some 72 := by kernel_rfl
theorem elem109 : elemT Try.prog 109 = none := by kernel_rfl
theorem arr109 : arrT Try.prog 109 = none := by kernel_rfl
theorem int109 : intT Try.prog 109 = none := by kernel_rfl
theorem zer109 : zerT Try.prog 109 = some [.int .i64 0, .pointer none, .pointer none, .pointer none, .pointer none, .pointer none, .pointer none, .pointer none, .pointer none] := by kernel_rfl
theorem eqg109 : Try.prog.eqGuardType (Try.prog.depth) 109 = false := by kernel_rfl
theorem szs109 : sizesOk Try.prog 109 = true := by kernel_rfl
theorem plc109_0 : placeT Try.prog 109 0 = some (0, 1) := by kernel_rfl
theorem plc109_1 : placeT Try.prog 109 1 = some (1, 8) := by kernel_rfl
theorem str109 : strT Try.prog 109 = false := by kernel_rfl
theorem fld109_0 : fldT Try.prog 109 0 = some (0, 3) := by kernel_rfl
theorem fld109_1 : fldT Try.prog 109 1 = some (1, 108) := by kernel_rfl
theorem agg110 : aggT Try.prog 110 = some true := by kernel_rfl
theorem siz110 : sizT Try.prog 110 = some 9 := by kernel_rfl
theorem byt110 : bytT Try.prog 110 = some 72 := by kernel_rfl
theorem elem110 : elemT Try.prog 110 = none := by kernel_rfl
theorem arr110 : arrT Try.prog 110 = none := by kernel_rfl
theorem int110 : intT Try.prog 110 = none := by kernel_rfl
theorem zer110 : zerT Try.prog 110 = some [.int .i64 0, .pointer none, .pointer none, .pointer none, .pointer none, .pointer none, .pointer none, .pointer none, .pointer none] := by kernel_rfl
theorem eqg110 : Try.prog.eqGuardType (Try.prog.depth) 110 = false := by kernel_rfl
theorem szs110 : sizesOk Try.prog 110 = true := by kernel_rfl
theorem plc110_0 : placeT Try.prog 110 0 = some (0, 1) := by kernel_rfl
theorem plc110_1 : placeT Try.prog 110 1 = some (1, 8) := by kernel_rfl
theorem str110 : strT Try.prog 110 = false := by kernel_rfl
theorem fld110_0 : fldT Try.prog 110 0 = some (0, 3) := by kernel_rfl
theorem fld110_1 : fldT Try.prog 110 1 = some (1, 108) := by kernel_rfl
theorem agg111 : aggT Try.prog 111 = some false := by kernel_rfl
theorem siz111 : sizT Try.prog 111 = some 1 := by kernel_rfl
theorem byt111 : bytT Try.prog 111 = some 8 := by kernel_rfl
theorem elem111 : elemT Try.prog 111 = none := by kernel_rfl
theorem arr111 : arrT Try.prog 111 = none := by kernel_rfl
theorem int111 : intT Try.prog 111 = none := by kernel_rfl
theorem zer111 : zerT Try.prog 111 = some [.nilFunc] := by kernel_rfl
theorem str111 : strT Try.prog 111 = false := by kernel_rfl
theorem agg112 : aggT Try.prog 112 = some true := by kernel_rfl
theorem siz112 : sizT Try.prog 112 = some 3 := by kernel_rfl
theorem byt112 : bytT Try.prog 112 = some 12 := by kernel_rfl
theorem elem112 : elemT Try.prog 112 = none := by kernel_rfl
theorem arr112 : arrT Try.prog 112 = none := by kernel_rfl
theorem int112 : intT Try.prog 112 = none := by kernel_rfl
theorem zer112 : zerT Try.prog 112 = some [.bool false, .int .u32 0, .int .u32 0] := by kernel_rfl
theorem kd112 : kdT Try.prog 60 112 = some [.bool, .int .u32, .int .u32] := by kernel_rfl
theorem eqg112 : Try.prog.eqGuardType (Try.prog.depth) 112 = false := by kernel_rfl
theorem szs112 : sizesOk Try.prog 112 = true := by kernel_rfl
theorem plc112_0 : placeT Try.prog 112 0 = some (0, 1) := by kernel_rfl
theorem plc112_1 : placeT Try.prog 112 1 = some (1, 1) := by kernel_rfl
theorem plc112_2 : placeT Try.prog 112 2 = some (2, 1) := by kernel_rfl
theorem str112 : strT Try.prog 112 = false := by kernel_rfl
theorem fld112_0 : fldT Try.prog 112 0 = some (0, 4) := by kernel_rfl
theorem fld112_1 : fldT Try.prog 112 1 = some (1, 27) := by kernel_rfl
theorem fld112_2 : fldT Try.prog 112 2 = some (2, 27) := by kernel_rfl
theorem agg113 : aggT Try.prog 113 = some true := by kernel_rfl
theorem siz113 : sizT Try.prog 113 = some 3 := by kernel_rfl
theorem byt113 : bytT Try.prog 113 = some 12 := by kernel_rfl
theorem elem113 : elemT Try.prog 113 = none := by kernel_rfl
theorem arr113 : arrT Try.prog 113 = none := by kernel_rfl
theorem int113 : intT Try.prog 113 = none := by kernel_rfl
theorem zer113 : zerT Try.prog 113 = some [.bool false, .int .u32 0, .int .u32 0] := by kernel_rfl
theorem kd113 : kdT Try.prog 60 113 = some [.bool, .int .u32, .int .u32] := by kernel_rfl
theorem eqg113 : Try.prog.eqGuardType (Try.prog.depth) 113 = false := by kernel_rfl
theorem szs113 : sizesOk Try.prog 113 = true := by kernel_rfl
theorem plc113_0 : placeT Try.prog 113 0 = some (0, 1) := by kernel_rfl
theorem plc113_1 : placeT Try.prog 113 1 = some (1, 1) := by kernel_rfl
theorem plc113_2 : placeT Try.prog 113 2 = some (2, 1) := by kernel_rfl
theorem str113 : strT Try.prog 113 = false := by kernel_rfl
theorem fld113_0 : fldT Try.prog 113 0 = some (0, 4) := by kernel_rfl
theorem fld113_1 : fldT Try.prog 113 1 = some (1, 27) := by kernel_rfl
theorem fld113_2 : fldT Try.prog 113 2 = some (2, 27) := by kernel_rfl
theorem agg114 : aggT Try.prog 114 = some true := by kernel_rfl
theorem siz114 : sizT Try.prog 114 = some 4 := by kernel_rfl
theorem byt114 : bytT Try.prog 114 = some 64 := by kernel_rfl
theorem elem114 : elemT Try.prog 114 = none := by kernel_rfl
theorem arr114 : arrT Try.prog 114 = none := by kernel_rfl
theorem int114 : intT Try.prog 114 = none := by kernel_rfl
theorem zer114 : zerT Try.prog 114 = some [.int .i64 0, .slice none 0 0, .slice none 0 0, .bool false] := by kernel_rfl
theorem eqg114 : Try.prog.eqGuardType (Try.prog.depth) 114 = false := by kernel_rfl
theorem szs114 : sizesOk Try.prog 114 = true := by kernel_rfl
theorem plc114_0 : placeT Try.prog 114 0 = some (0, 1) := by kernel_rfl
theorem plc114_1 : placeT Try.prog 114 1 = some (1, 1) := by kernel_rfl
theorem plc114_2 : placeT Try.prog 114 2 = some (2, 1) := by kernel_rfl
theorem plc114_3 : placeT Try.prog 114 3 = some (3, 1) := by kernel_rfl
theorem str114 : strT Try.prog 114 = false := by kernel_rfl
theorem fld114_0 : fldT Try.prog 114 0 = some (0, 3) := by kernel_rfl
theorem fld114_1 : fldT Try.prog 114 1 = some (1, 59) := by kernel_rfl
theorem fld114_2 : fldT Try.prog 114 2 = some (2, 103) := by kernel_rfl
theorem fld114_3 : fldT Try.prog 114 3 = some (3, 4) := by kernel_rfl
theorem agg115 : aggT Try.prog 115 = some true := by kernel_rfl
theorem siz115 : sizT Try.prog 115 = some 4 := by kernel_rfl
theorem byt115 : bytT Try.prog 115 = some 64 := by kernel_rfl
theorem elem115 : elemT Try.prog 115 = none := by kernel_rfl
theorem arr115 : arrT Try.prog 115 = none := by kernel_rfl
theorem int115 : intT Try.prog 115 = none := by kernel_rfl
theorem zer115 : zerT Try.prog 115 = some [.int .i64 0, .slice none 0 0, .slice none 0 0, .bool false] := by kernel_rfl
theorem eqg115 : Try.prog.eqGuardType (Try.prog.depth) 115 = false := by kernel_rfl
theorem szs115 : sizesOk Try.prog 115 = true := by kernel_rfl
theorem plc115_0 : placeT Try.prog 115 0 = some (0, 1) := by kernel_rfl
theorem plc115_1 : placeT Try.prog 115 1 = some (1, 1) := by kernel_rfl
theorem plc115_2 : placeT Try.prog 115 2 = some (2, 1) := by kernel_rfl
theorem plc115_3 : placeT Try.prog 115 3 = some (3, 1) := by kernel_rfl
theorem str115 : strT Try.prog 115 = false := by kernel_rfl
theorem fld115_0 : fldT Try.prog 115 0 = some (0, 3) := by kernel_rfl
theorem fld115_1 : fldT Try.prog 115 1 = some (1, 59) := by kernel_rfl
theorem fld115_2 : fldT Try.prog 115 2 = some (2, 103) := by kernel_rfl
theorem fld115_3 : fldT Try.prog 115 3 = some (3, 4) := by kernel_rfl
theorem agg116 : aggT Try.prog 116 = some false := by kernel_rfl
theorem siz116 : sizT Try.prog 116 = some 1 := by kernel_rfl
theorem byt116 : bytT Try.prog 116 = some 8 := by kernel_rfl
theorem elem116 : elemT Try.prog 116 = none := by kernel_rfl
theorem arr116 : arrT Try.prog 116 = none := by kernel_rfl
theorem int116 : intT Try.prog 116 = none := by kernel_rfl
theorem zer116 : zerT Try.prog 116 = some [.nilFunc] := by kernel_rfl
theorem str116 : strT Try.prog 116 = false := by kernel_rfl
theorem agg117 : aggT Try.prog 117 = some false := by kernel_rfl
theorem siz117 : sizT Try.prog 117 = some 1 := by kernel_rfl
theorem byt117 : bytT Try.prog 117 = some 8 := by kernel_rfl
theorem elem117 : elemT Try.prog 117 = none := by kernel_rfl
theorem arr117 : arrT Try.prog 117 = none := by kernel_rfl
theorem int117 : intT Try.prog 117 = none := by kernel_rfl
theorem zer117 : zerT Try.prog 117 = some [.nilFunc] := by kernel_rfl
theorem str117 : strT Try.prog 117 = false := by kernel_rfl
theorem agg118 : aggT Try.prog 118 = some false := by kernel_rfl
theorem siz118 : sizT Try.prog 118 = some 1 := by kernel_rfl
theorem byt118 : bytT Try.prog 118 = some 8 := by kernel_rfl
theorem elem118 : elemT Try.prog 118 = none := by kernel_rfl
theorem arr118 : arrT Try.prog 118 = none := by kernel_rfl
theorem int118 : intT Try.prog 118 = none := by kernel_rfl
theorem zer118 : zerT Try.prog 118 = some [.nilFunc] := by kernel_rfl
theorem str118 : strT Try.prog 118 = false := by kernel_rfl
theorem agg119 : aggT Try.prog 119 = some false := by kernel_rfl
theorem siz119 : sizT Try.prog 119 = some 1 := by kernel_rfl
theorem byt119 : bytT Try.prog 119 = some 0 := by kernel_rfl
theorem elem119 : elemT Try.prog 119 = none := by kernel_rfl
theorem arr119 : arrT Try.prog 119 = none := by kernel_rfl
theorem int119 : intT Try.prog 119 = none := by kernel_rfl
theorem str119 : strT Try.prog 119 = false := by kernel_rfl
theorem agg120 : aggT Try.prog 120 = some false := by kernel_rfl
theorem siz120 : sizT Try.prog 120 = some 1 := by kernel_rfl
theorem byt120 : bytT Try.prog 120 = some 8 := by kernel_rfl
theorem elem120 : elemT Try.prog 120 = none := by kernel_rfl
theorem arr120 : arrT Try.prog 120 = none := by kernel_rfl
theorem int120 : intT Try.prog 120 = none := by kernel_rfl
theorem zer120 : zerT Try.prog 120 = some [.nilFunc] := by kernel_rfl
theorem str120 : strT Try.prog 120 = false := by kernel_rfl
theorem agg121 : aggT Try.prog 121 = some false := by kernel_rfl
theorem siz121 : sizT Try.prog 121 = some 1 := by kernel_rfl
theorem byt121 : bytT Try.prog 121 = some 8 := by kernel_rfl
theorem elem121 : elemT Try.prog 121 = none := by kernel_rfl
theorem arr121 : arrT Try.prog 121 = none := by kernel_rfl
theorem int121 : intT Try.prog 121 = some .u64 := by kernel_rfl
theorem zer121 : zerT Try.prog 121 = some [.int .u64 0] := by kernel_rfl
theorem str121 : strT Try.prog 121 = false := by kernel_rfl
theorem agg122 : aggT Try.prog 122 = some false := by kernel_rfl
theorem siz122 : sizT Try.prog 122 = some 1 := by kernel_rfl
theorem byt122 : bytT Try.prog 122 = some 8 := by kernel_rfl
theorem elem122 : elemT Try.prog 122 = none := by kernel_rfl
theorem arr122 : arrT Try.prog 122 = none := by kernel_rfl
theorem int122 : intT Try.prog 122 = none := by kernel_rfl
theorem zer122 : zerT Try.prog 122 = some [.nilFunc] := by kernel_rfl
theorem str122 : strT Try.prog 122 = false := by kernel_rfl
theorem agg123 : aggT Try.prog 123 = some false := by kernel_rfl
theorem siz123 : sizT Try.prog 123 = some 1 := by kernel_rfl
theorem byt123 : bytT Try.prog 123 = some 8 := by kernel_rfl
theorem elem123 : elemT Try.prog 123 = none := by kernel_rfl
theorem arr123 : arrT Try.prog 123 = none := by kernel_rfl
theorem int123 : intT Try.prog 123 = none := by kernel_rfl
theorem zer123 : zerT Try.prog 123 = some [.nilFunc] := by kernel_rfl
theorem str123 : strT Try.prog 123 = false := by kernel_rfl
theorem agg124 : aggT Try.prog 124 = some false := by kernel_rfl
theorem siz124 : sizT Try.prog 124 = some 1 := by kernel_rfl
theorem byt124 : bytT Try.prog 124 = some 24 := by kernel_rfl
theorem elem124 : elemT Try.prog 124 = some 107 := by kernel_rfl
theorem arr124 : arrT Try.prog 124 = none := by kernel_rfl
theorem int124 : intT Try.prog 124 = none := by kernel_rfl
theorem zer124 : zerT Try.prog 124 = some [.slice none 0 0] := by kernel_rfl
theorem str124 : strT Try.prog 124 = false := by kernel_rfl
theorem agg125 : aggT Try.prog 125 = some false := by kernel_rfl
theorem siz125 : sizT Try.prog 125 = some 1 := by kernel_rfl
theorem byt125 : bytT Try.prog 125 = some 8 := by kernel_rfl
theorem elem125 : elemT Try.prog 125 = none := by kernel_rfl
theorem arr125 : arrT Try.prog 125 = none := by kernel_rfl
theorem int125 : intT Try.prog 125 = none := by kernel_rfl
theorem zer125 : zerT Try.prog 125 = some [.nilFunc] := by kernel_rfl
theorem str125 : strT Try.prog 125 = false := by kernel_rfl
theorem agg126 : aggT Try.prog 126 = some false := by kernel_rfl
theorem siz126 : sizT Try.prog 126 = some 1 := by kernel_rfl
theorem byt126 : bytT Try.prog 126 = some 8 := by kernel_rfl
theorem elem126 : elemT Try.prog 126 = none := by kernel_rfl
theorem arr126 : arrT Try.prog 126 = none := by kernel_rfl
theorem int126 : intT Try.prog 126 = none := by kernel_rfl
theorem zer126 : zerT Try.prog 126 = some [.nilFunc] := by kernel_rfl
theorem str126 : strT Try.prog 126 = false := by kernel_rfl
theorem agg127 : aggT Try.prog 127 = some false := by kernel_rfl
theorem siz127 : sizT Try.prog 127 = some 1 := by kernel_rfl
theorem byt127 : bytT Try.prog 127 = some 8 := by kernel_rfl
theorem elem127 : elemT Try.prog 127 = none := by kernel_rfl
theorem arr127 : arrT Try.prog 127 = none := by kernel_rfl
theorem int127 : intT Try.prog 127 = none := by kernel_rfl
theorem zer127 : zerT Try.prog 127 = some [.nilFunc] := by kernel_rfl
theorem str127 : strT Try.prog 127 = false := by kernel_rfl
theorem agg128 : aggT Try.prog 128 = some false := by kernel_rfl
theorem siz128 : sizT Try.prog 128 = some 1 := by kernel_rfl
theorem byt128 : bytT Try.prog 128 = some 8 := by kernel_rfl
theorem elem128 : elemT Try.prog 128 = none := by kernel_rfl
theorem arr128 : arrT Try.prog 128 = none := by kernel_rfl
theorem int128 : intT Try.prog 128 = none := by kernel_rfl
theorem zer128 : zerT Try.prog 128 = some [.nilFunc] := by kernel_rfl
theorem str128 : strT Try.prog 128 = false := by kernel_rfl
theorem agg129 : aggT Try.prog 129 = some false := by kernel_rfl
theorem siz129 : sizT Try.prog 129 = some 1 := by kernel_rfl
theorem byt129 : bytT Try.prog 129 = some 24 := by kernel_rfl
theorem elem129 : elemT Try.prog 129 = some 34 := by kernel_rfl
theorem arr129 : arrT Try.prog 129 = none := by kernel_rfl
theorem int129 : intT Try.prog 129 = none := by kernel_rfl
theorem zer129 : zerT Try.prog 129 = some [.slice none 0 0] := by kernel_rfl
theorem str129 : strT Try.prog 129 = false := by kernel_rfl
theorem agg130 : aggT Try.prog 130 = some false := by kernel_rfl
theorem siz130 : sizT Try.prog 130 = some 1 := by kernel_rfl
theorem byt130 : bytT Try.prog 130 = some 24 := by kernel_rfl
theorem elem130 : elemT Try.prog 130 = some 4 := by kernel_rfl
theorem arr130 : arrT Try.prog 130 = none := by kernel_rfl
theorem int130 : intT Try.prog 130 = none := by kernel_rfl
theorem zer130 : zerT Try.prog 130 = some [.slice none 0 0] := by kernel_rfl
theorem str130 : strT Try.prog 130 = false := by kernel_rfl
theorem agg131 : aggT Try.prog 131 = some true := by kernel_rfl
theorem siz131 : sizT Try.prog 131 = some 2 := by kernel_rfl
theorem byt131 : bytT Try.prog 131 = some 48 := by kernel_rfl
theorem elem131 : elemT Try.prog 131 = none := by kernel_rfl
theorem arr131 : arrT Try.prog 131 = none := by kernel_rfl
theorem int131 : intT Try.prog 131 = none := by kernel_rfl
theorem zer131 : zerT Try.prog 131 = some [.slice none 0 0, .slice none 0 0] := by kernel_rfl
theorem eqg131 : Try.prog.eqGuardType (Try.prog.depth) 131 = false := by kernel_rfl
theorem szs131 : sizesOk Try.prog 131 = true := by kernel_rfl
theorem plc131_0 : placeT Try.prog 131 0 = some (0, 1) := by kernel_rfl
theorem plc131_1 : placeT Try.prog 131 1 = some (1, 1) := by kernel_rfl
theorem str131 : strT Try.prog 131 = false := by kernel_rfl
theorem fld131_0 : fldT Try.prog 131 0 = some (0, 129) := by kernel_rfl
theorem fld131_1 : fldT Try.prog 131 1 = some (1, 130) := by kernel_rfl
theorem agg132 : aggT Try.prog 132 = some true := by kernel_rfl
theorem siz132 : sizT Try.prog 132 = some 2 := by kernel_rfl
theorem byt132 : bytT Try.prog 132 = some 48 := by kernel_rfl
theorem elem132 : elemT Try.prog 132 = none := by kernel_rfl
theorem arr132 : arrT Try.prog 132 = none := by kernel_rfl
theorem int132 : intT Try.prog 132 = none := by kernel_rfl
theorem zer132 : zerT Try.prog 132 = some [.slice none 0 0, .slice none 0 0] := by kernel_rfl
theorem eqg132 : Try.prog.eqGuardType (Try.prog.depth) 132 = false := by kernel_rfl
theorem szs132 : sizesOk Try.prog 132 = true := by kernel_rfl
theorem plc132_0 : placeT Try.prog 132 0 = some (0, 1) := by kernel_rfl
theorem plc132_1 : placeT Try.prog 132 1 = some (1, 1) := by kernel_rfl
theorem str132 : strT Try.prog 132 = false := by kernel_rfl
theorem fld132_0 : fldT Try.prog 132 0 = some (0, 129) := by kernel_rfl
theorem fld132_1 : fldT Try.prog 132 1 = some (1, 130) := by kernel_rfl
theorem agg133 : aggT Try.prog 133 = some false := by kernel_rfl
theorem siz133 : sizT Try.prog 133 = some 1 := by kernel_rfl
theorem byt133 : bytT Try.prog 133 = some 8 := by kernel_rfl
theorem elem133 : elemT Try.prog 133 = none := by kernel_rfl
theorem arr133 : arrT Try.prog 133 = none := by kernel_rfl
theorem int133 : intT Try.prog 133 = none := by kernel_rfl
theorem zer133 : zerT Try.prog 133 = some [.nilFunc] := by kernel_rfl
theorem str133 : strT Try.prog 133 = false := by kernel_rfl
theorem agg134 : aggT Try.prog 134 = some false := by kernel_rfl
theorem siz134 : sizT Try.prog 134 = some 1 := by kernel_rfl
theorem byt134 : bytT Try.prog 134 = some 8 := by kernel_rfl
theorem elem134 : elemT Try.prog 134 = none := by kernel_rfl
theorem arr134 : arrT Try.prog 134 = none := by kernel_rfl
theorem int134 : intT Try.prog 134 = none := by kernel_rfl
theorem zer134 : zerT Try.prog 134 = some [.nilFunc] := by kernel_rfl
theorem str134 : strT Try.prog 134 = false := by kernel_rfl
theorem agg135 : aggT Try.prog 135 = some false := by kernel_rfl
theorem siz135 : sizT Try.prog 135 = some 1 := by kernel_rfl
theorem byt135 : bytT Try.prog 135 = some 24 := by kernel_rfl
theorem elem135 : elemT Try.prog 135 = some 5 := by kernel_rfl
theorem arr135 : arrT Try.prog 135 = none := by kernel_rfl
theorem int135 : intT Try.prog 135 = none := by kernel_rfl
theorem zer135 : zerT Try.prog 135 = some [.slice none 0 0] := by kernel_rfl
theorem str135 : strT Try.prog 135 = false := by kernel_rfl
theorem agg136 : aggT Try.prog 136 = some false := by kernel_rfl
theorem siz136 : sizT Try.prog 136 = some 1 := by kernel_rfl
theorem byt136 : bytT Try.prog 136 = some 8 := by kernel_rfl
theorem elem136 : elemT Try.prog 136 = none := by kernel_rfl
theorem arr136 : arrT Try.prog 136 = none := by kernel_rfl
theorem int136 : intT Try.prog 136 = none := by kernel_rfl
theorem zer136 : zerT Try.prog 136 = some [.nilFunc] := by kernel_rfl
theorem str136 : strT Try.prog 136 = false := by kernel_rfl
theorem agg137 : aggT Try.prog 137 = some false := by kernel_rfl
theorem siz137 : sizT Try.prog 137 = some 1 := by kernel_rfl
theorem byt137 : bytT Try.prog 137 = some 8 := by kernel_rfl
theorem elem137 : elemT Try.prog 137 = none := by kernel_rfl
theorem arr137 : arrT Try.prog 137 = none := by kernel_rfl
theorem int137 : intT Try.prog 137 = none := by kernel_rfl
theorem zer137 : zerT Try.prog 137 = some [.nilFunc] := by kernel_rfl
theorem str137 : strT Try.prog 137 = false := by kernel_rfl
theorem agg138 : aggT Try.prog 138 = some false := by kernel_rfl
theorem siz138 : sizT Try.prog 138 = some 1 := by kernel_rfl
theorem byt138 : bytT Try.prog 138 = some 8 := by kernel_rfl
theorem elem138 : elemT Try.prog 138 = none := by kernel_rfl
theorem arr138 : arrT Try.prog 138 = none := by kernel_rfl
theorem int138 : intT Try.prog 138 = none := by kernel_rfl
theorem zer138 : zerT Try.prog 138 = some [.nilFunc] := by kernel_rfl
theorem str138 : strT Try.prog 138 = false := by kernel_rfl
theorem agg139 : aggT Try.prog 139 = some false := by kernel_rfl
theorem siz139 : sizT Try.prog 139 = some 1 := by kernel_rfl
theorem byt139 : bytT Try.prog 139 = some 8 := by kernel_rfl
theorem elem139 : elemT Try.prog 139 = none := by kernel_rfl
theorem arr139 : arrT Try.prog 139 = none := by kernel_rfl
theorem int139 : intT Try.prog 139 = none := by kernel_rfl
theorem zer139 : zerT Try.prog 139 = some [.nilFunc] := by kernel_rfl
theorem str139 : strT Try.prog 139 = false := by kernel_rfl
theorem agg140 : aggT Try.prog 140 = some false := by kernel_rfl
theorem siz140 : sizT Try.prog 140 = some 1 := by kernel_rfl
theorem byt140 : bytT Try.prog 140 = some 8 := by kernel_rfl
theorem elem140 : elemT Try.prog 140 = none := by kernel_rfl
theorem arr140 : arrT Try.prog 140 = none := by kernel_rfl
theorem int140 : intT Try.prog 140 = none := by kernel_rfl
theorem zer140 : zerT Try.prog 140 = some [.nilFunc] := by kernel_rfl
theorem str140 : strT Try.prog 140 = false := by kernel_rfl
theorem agg141 : aggT Try.prog 141 = some false := by kernel_rfl
theorem siz141 : sizT Try.prog 141 = some 1 := by kernel_rfl
theorem byt141 : bytT Try.prog 141 = some 8 := by kernel_rfl
theorem elem141 : elemT Try.prog 141 = none := by kernel_rfl
theorem arr141 : arrT Try.prog 141 = none := by kernel_rfl
theorem int141 : intT Try.prog 141 = none := by kernel_rfl
theorem zer141 : zerT Try.prog 141 = some [.nilFunc] := by kernel_rfl
theorem str141 : strT Try.prog 141 = false := by kernel_rfl
theorem agg142 : aggT Try.prog 142 = some false := by kernel_rfl
theorem siz142 : sizT Try.prog 142 = some 1 := by kernel_rfl
theorem byt142 : bytT Try.prog 142 = some 8 := by kernel_rfl
theorem elem142 : elemT Try.prog 142 = none := by kernel_rfl
theorem arr142 : arrT Try.prog 142 = none := by kernel_rfl
theorem int142 : intT Try.prog 142 = some .u64 := by kernel_rfl
theorem zer142 : zerT Try.prog 142 = some [.int .u64 0] := by kernel_rfl
theorem str142 : strT Try.prog 142 = false := by kernel_rfl
theorem agg143 : aggT Try.prog 143 = some false := by kernel_rfl
theorem siz143 : sizT Try.prog 143 = some 1 := by kernel_rfl
theorem byt143 : bytT Try.prog 143 = some 8 := by kernel_rfl
theorem elem143 : elemT Try.prog 143 = none := by kernel_rfl
theorem arr143 : arrT Try.prog 143 = none := by kernel_rfl
theorem int143 : intT Try.prog 143 = none := by kernel_rfl
theorem zer143 : zerT Try.prog 143 = some [.nilFunc] := by kernel_rfl
theorem str143 : strT Try.prog 143 = false := by kernel_rfl
theorem agg144 : aggT Try.prog 144 = some false := by kernel_rfl
theorem siz144 : sizT Try.prog 144 = some 1 := by kernel_rfl
theorem byt144 : bytT Try.prog 144 = some 8 := by kernel_rfl
theorem elem144 : elemT Try.prog 144 = none := by kernel_rfl
theorem arr144 : arrT Try.prog 144 = none := by kernel_rfl
theorem int144 : intT Try.prog 144 = none := by kernel_rfl
theorem zer144 : zerT Try.prog 144 = some [.nilFunc] := by kernel_rfl
theorem str144 : strT Try.prog 144 = false := by kernel_rfl
theorem agg145 : aggT Try.prog 145 = some false := by kernel_rfl
theorem siz145 : sizT Try.prog 145 = some 1 := by kernel_rfl
theorem byt145 : bytT Try.prog 145 = some 8 := by kernel_rfl
theorem elem145 : elemT Try.prog 145 = none := by kernel_rfl
theorem arr145 : arrT Try.prog 145 = none := by kernel_rfl
theorem int145 : intT Try.prog 145 = none := by kernel_rfl
theorem zer145 : zerT Try.prog 145 = some [.nilFunc] := by kernel_rfl
theorem str145 : strT Try.prog 145 = false := by kernel_rfl
theorem agg146 : aggT Try.prog 146 = some false := by kernel_rfl
theorem siz146 : sizT Try.prog 146 = some 1 := by kernel_rfl
theorem byt146 : bytT Try.prog 146 = some 8 := by kernel_rfl
theorem elem146 : elemT Try.prog 146 = none := by kernel_rfl
theorem arr146 : arrT Try.prog 146 = none := by kernel_rfl
theorem int146 : intT Try.prog 146 = none := by kernel_rfl
theorem zer146 : zerT Try.prog 146 = some [.nilFunc] := by kernel_rfl
theorem str146 : strT Try.prog 146 = false := by kernel_rfl
theorem agg147 : aggT Try.prog 147 = some false := by kernel_rfl
theorem siz147 : sizT Try.prog 147 = some 1 := by kernel_rfl
theorem byt147 : bytT Try.prog 147 = some 8 := by kernel_rfl
theorem elem147 : elemT Try.prog 147 = none := by kernel_rfl
theorem arr147 : arrT Try.prog 147 = none := by kernel_rfl
theorem int147 : intT Try.prog 147 = none := by kernel_rfl
theorem zer147 : zerT Try.prog 147 = some [.nilFunc] := by kernel_rfl
theorem str147 : strT Try.prog 147 = false := by kernel_rfl
theorem agg148 : aggT Try.prog 148 = some false := by kernel_rfl
theorem siz148 : sizT Try.prog 148 = some 1 := by kernel_rfl
theorem byt148 : bytT Try.prog 148 = some 8 := by kernel_rfl
theorem elem148 : elemT Try.prog 148 = none := by kernel_rfl
theorem arr148 : arrT Try.prog 148 = none := by kernel_rfl
theorem int148 : intT Try.prog 148 = none := by kernel_rfl
theorem zer148 : zerT Try.prog 148 = some [.nilFunc] := by kernel_rfl
theorem str148 : strT Try.prog 148 = false := by kernel_rfl
theorem agg149 : aggT Try.prog 149 = some false := by kernel_rfl
theorem siz149 : sizT Try.prog 149 = some 1 := by kernel_rfl
theorem byt149 : bytT Try.prog 149 = some 8 := by kernel_rfl
theorem elem149 : elemT Try.prog 149 = none := by kernel_rfl
theorem arr149 : arrT Try.prog 149 = none := by kernel_rfl
theorem int149 : intT Try.prog 149 = none := by kernel_rfl
theorem zer149 : zerT Try.prog 149 = some [.nilFunc] := by kernel_rfl
theorem str149 : strT Try.prog 149 = false := by kernel_rfl
theorem agg150 : aggT Try.prog 150 = some false := by kernel_rfl
theorem siz150 : sizT Try.prog 150 = some 1 := by kernel_rfl
theorem byt150 : bytT Try.prog 150 = some 8 := by kernel_rfl
theorem elem150 : elemT Try.prog 150 = none := by kernel_rfl
theorem arr150 : arrT Try.prog 150 = none := by kernel_rfl
theorem int150 : intT Try.prog 150 = none := by kernel_rfl
theorem zer150 : zerT Try.prog 150 = some [.nilFunc] := by kernel_rfl
theorem str150 : strT Try.prog 150 = false := by kernel_rfl
theorem agg151 : aggT Try.prog 151 = some true := by kernel_rfl
theorem siz151 : sizT Try.prog 151 = some 4 := by kernel_rfl
theorem byt151 : bytT Try.prog 151 = some 40 := by kernel_rfl
theorem elem151 : elemT Try.prog 151 = none := by kernel_rfl
theorem arr151 : arrT Try.prog 151 = none := by kernel_rfl
theorem int151 : intT Try.prog 151 = none := by kernel_rfl
theorem zer151 : zerT Try.prog 151 = some [.pointer none, .pointer none, .pointer none, .string ByteArray.empty] := by kernel_rfl
theorem eqg151 : Try.prog.eqGuardType (Try.prog.depth) 151 = false := by kernel_rfl
theorem szs151 : sizesOk Try.prog 151 = true := by kernel_rfl
theorem plc151_0 : placeT Try.prog 151 0 = some (0, 1) := by kernel_rfl
theorem plc151_1 : placeT Try.prog 151 1 = some (1, 1) := by kernel_rfl
theorem plc151_2 : placeT Try.prog 151 2 = some (2, 1) := by kernel_rfl
theorem plc151_3 : placeT Try.prog 151 3 = some (3, 1) := by kernel_rfl
theorem str151 : strT Try.prog 151 = false := by kernel_rfl
theorem fld151_0 : fldT Try.prog 151 0 = some (0, 17) := by kernel_rfl
theorem fld151_1 : fldT Try.prog 151 1 = some (1, 17) := by kernel_rfl
theorem fld151_2 : fldT Try.prog 151 2 = some (2, 17) := by kernel_rfl
theorem fld151_3 : fldT Try.prog 151 3 = some (3, 9) := by kernel_rfl
theorem agg152 : aggT Try.prog 152 = some true := by kernel_rfl
theorem siz152 : sizT Try.prog 152 = some 4 := by kernel_rfl
theorem byt152 : bytT Try.prog 152 = some 40 := by kernel_rfl
theorem elem152 : elemT Try.prog 152 = none := by kernel_rfl
theorem arr152 : arrT Try.prog 152 = none := by kernel_rfl
theorem int152 : intT Try.prog 152 = none := by kernel_rfl
theorem zer152 : zerT Try.prog 152 = some [.pointer none, .pointer none, .pointer none, .string ByteArray.empty] := by kernel_rfl
theorem eqg152 : Try.prog.eqGuardType (Try.prog.depth) 152 = false := by kernel_rfl
theorem szs152 : sizesOk Try.prog 152 = true := by kernel_rfl
theorem plc152_0 : placeT Try.prog 152 0 = some (0, 1) := by kernel_rfl
theorem plc152_1 : placeT Try.prog 152 1 = some (1, 1) := by kernel_rfl
theorem plc152_2 : placeT Try.prog 152 2 = some (2, 1) := by kernel_rfl
theorem plc152_3 : placeT Try.prog 152 3 = some (3, 1) := by kernel_rfl
theorem str152 : strT Try.prog 152 = false := by kernel_rfl
theorem fld152_0 : fldT Try.prog 152 0 = some (0, 17) := by kernel_rfl
theorem fld152_1 : fldT Try.prog 152 1 = some (1, 17) := by kernel_rfl
theorem fld152_2 : fldT Try.prog 152 2 = some (2, 17) := by kernel_rfl
theorem fld152_3 : fldT Try.prog 152 3 = some (3, 9) := by kernel_rfl
theorem agg153 : aggT Try.prog 153 = some true := by kernel_rfl
theorem siz153 : sizT Try.prog 153 = some 0 := by kernel_rfl
theorem byt153 : bytT Try.prog 153 = some 0 := by kernel_rfl
theorem elem153 : elemT Try.prog 153 = none := by kernel_rfl
theorem arr153 : arrT Try.prog 153 = some (0, 16) := by kernel_rfl
theorem int153 : intT Try.prog 153 = none := by kernel_rfl
theorem zer153 : zerT Try.prog 153 = some [] := by kernel_rfl
theorem eqg153 : Try.prog.eqGuardType (Try.prog.depth) 153 = false := by kernel_rfl
theorem szs153 : sizesOk Try.prog 153 = true := by kernel_rfl
theorem plc153_0 : placeT Try.prog 153 0 = some (0, 1) := by kernel_rfl
theorem plc153_1 : placeT Try.prog 153 1 = some (1, 1) := by kernel_rfl
theorem plc153_2 : placeT Try.prog 153 2 = some (2, 1) := by kernel_rfl
theorem plc153_3 : placeT Try.prog 153 3 = some (3, 1) := by kernel_rfl
theorem plc153_4 : placeT Try.prog 153 4 = some (4, 1) := by kernel_rfl
theorem plc153_5 : placeT Try.prog 153 5 = some (5, 1) := by kernel_rfl
theorem plc153_6 : placeT Try.prog 153 6 = some (6, 1) := by kernel_rfl
theorem plc153_7 : placeT Try.prog 153 7 = some (7, 1) := by kernel_rfl
theorem plc153_8 : placeT Try.prog 153 8 = some (8, 1) := by kernel_rfl
theorem plc153_9 : placeT Try.prog 153 9 = some (9, 1) := by kernel_rfl
theorem plc153_10 : placeT Try.prog 153 10 = some (10, 1) := by kernel_rfl
theorem plc153_11 : placeT Try.prog 153 11 = some (11, 1) := by kernel_rfl
theorem str153 : strT Try.prog 153 = false := by kernel_rfl
theorem agg154 : aggT Try.prog 154 = some true := by kernel_rfl
theorem siz154 : sizT Try.prog 154 = some 0 := by kernel_rfl
theorem byt154 : bytT Try.prog 154 = some 0 := by kernel_rfl
theorem elem154 : elemT Try.prog 154 = none := by kernel_rfl
theorem arr154 : arrT Try.prog 154 = none := by kernel_rfl
theorem int154 : intT Try.prog 154 = none := by kernel_rfl
theorem zer154 : zerT Try.prog 154 = some [] := by kernel_rfl
theorem eqg154 : Try.prog.eqGuardType (Try.prog.depth) 154 = false := by kernel_rfl
theorem szs154 : sizesOk Try.prog 154 = true := by kernel_rfl
theorem plc154_0 : placeT Try.prog 154 0 = some (0, 0) := by kernel_rfl
theorem str154 : strT Try.prog 154 = false := by kernel_rfl
theorem fld154_0 : fldT Try.prog 154 0 = some (0, 153) := by kernel_rfl
theorem agg155 : aggT Try.prog 155 = some true := by kernel_rfl
theorem siz155 : sizT Try.prog 155 = some 0 := by kernel_rfl
theorem byt155 : bytT Try.prog 155 = some 0 := by kernel_rfl
theorem elem155 : elemT Try.prog 155 = none := by kernel_rfl
theorem arr155 : arrT Try.prog 155 = none := by kernel_rfl
theorem int155 : intT Try.prog 155 = none := by kernel_rfl
theorem zer155 : zerT Try.prog 155 = some [] := by kernel_rfl
theorem eqg155 : Try.prog.eqGuardType (Try.prog.depth) 155 = false := by kernel_rfl
theorem szs155 : sizesOk Try.prog 155 = true := by kernel_rfl
theorem plc155_0 : placeT Try.prog 155 0 = some (0, 0) := by kernel_rfl
theorem str155 : strT Try.prog 155 = false := by kernel_rfl
theorem fld155_0 : fldT Try.prog 155 0 = some (0, 153) := by kernel_rfl
theorem agg156 : aggT Try.prog 156 = some false := by kernel_rfl
theorem siz156 : sizT Try.prog 156 = some 1 := by kernel_rfl
theorem byt156 : bytT Try.prog 156 = some 1 := by kernel_rfl
theorem elem156 : elemT Try.prog 156 = none := by kernel_rfl
theorem arr156 : arrT Try.prog 156 = none := by kernel_rfl
theorem int156 : intT Try.prog 156 = some .u8 := by kernel_rfl
theorem zer156 : zerT Try.prog 156 = some [.int .u8 0] := by kernel_rfl
theorem str156 : strT Try.prog 156 = false := by kernel_rfl
theorem agg157 : aggT Try.prog 157 = some false := by kernel_rfl
theorem siz157 : sizT Try.prog 157 = some 1 := by kernel_rfl
theorem byt157 : bytT Try.prog 157 = some 1 := by kernel_rfl
theorem elem157 : elemT Try.prog 157 = none := by kernel_rfl
theorem arr157 : arrT Try.prog 157 = none := by kernel_rfl
theorem int157 : intT Try.prog 157 = some .u8 := by kernel_rfl
theorem zer157 : zerT Try.prog 157 = some [.int .u8 0] := by kernel_rfl
theorem str157 : strT Try.prog 157 = false := by kernel_rfl
theorem agg158 : aggT Try.prog 158 = some false := by kernel_rfl
theorem siz158 : sizT Try.prog 158 = some 1 := by kernel_rfl
theorem byt158 : bytT Try.prog 158 = some 8 := by kernel_rfl
theorem elem158 : elemT Try.prog 158 = none := by kernel_rfl
theorem arr158 : arrT Try.prog 158 = none := by kernel_rfl
theorem int158 : intT Try.prog 158 = none := by kernel_rfl
theorem zer158 : zerT Try.prog 158 = some [.nilFunc] := by kernel_rfl
theorem str158 : strT Try.prog 158 = false := by kernel_rfl
theorem agg159 : aggT Try.prog 159 = some false := by kernel_rfl
theorem siz159 : sizT Try.prog 159 = some 1 := by kernel_rfl
theorem byt159 : bytT Try.prog 159 = some 8 := by kernel_rfl
theorem elem159 : elemT Try.prog 159 = none := by kernel_rfl
theorem arr159 : arrT Try.prog 159 = none := by kernel_rfl
theorem int159 : intT Try.prog 159 = none := by kernel_rfl
theorem zer159 : zerT Try.prog 159 = some [.pointer none] := by kernel_rfl
theorem str159 : strT Try.prog 159 = false := by kernel_rfl
theorem agg160 : aggT Try.prog 160 = some false := by kernel_rfl
theorem siz160 : sizT Try.prog 160 = some 1 := by kernel_rfl
theorem byt160 : bytT Try.prog 160 = some 4 := by kernel_rfl
theorem elem160 : elemT Try.prog 160 = none := by kernel_rfl
theorem arr160 : arrT Try.prog 160 = none := by kernel_rfl
theorem int160 : intT Try.prog 160 = some .i32 := by kernel_rfl
theorem zer160 : zerT Try.prog 160 = some [.int .i32 0] := by kernel_rfl
theorem str160 : strT Try.prog 160 = false := by kernel_rfl
theorem agg161 : aggT Try.prog 161 = some false := by kernel_rfl
theorem siz161 : sizT Try.prog 161 = some 1 := by kernel_rfl
theorem byt161 : bytT Try.prog 161 = some 4 := by kernel_rfl
theorem elem161 : elemT Try.prog 161 = none := by kernel_rfl
theorem arr161 : arrT Try.prog 161 = none := by kernel_rfl
theorem int161 : intT Try.prog 161 = some .i32 := by kernel_rfl
theorem zer161 : zerT Try.prog 161 = some [.int .i32 0] := by kernel_rfl
theorem str161 : strT Try.prog 161 = false := by kernel_rfl
theorem agg162 : aggT Try.prog 162 = some true := by kernel_rfl
theorem siz162 : sizT Try.prog 162 = some 11 := by kernel_rfl
theorem byt162 : bytT Try.prog 162 = some 48 := by kernel_rfl
theorem elem162 : elemT Try.prog 162 = none := by kernel_rfl
theorem arr162 : arrT Try.prog 162 = none := by kernel_rfl
theorem int162 : intT Try.prog 162 = none := by kernel_rfl
theorem zer162 : zerT Try.prog 162 = some [.int .u64 0, .int .u64 0, .int .u32 0, .int .u8 0, .int .u8 0, .int .u8 0, .int .u8 0, .nilFunc, .pointer none, .int .i32 0, .int .i32 0] := by kernel_rfl
theorem eqg162 : Try.prog.eqGuardType (Try.prog.depth) 162 = false := by kernel_rfl
theorem szs162 : sizesOk Try.prog 162 = true := by kernel_rfl
theorem plc162_0 : placeT Try.prog 162 0 = some (0, 1) := by kernel_rfl
theorem plc162_1 : placeT Try.prog 162 1 = some (1, 1) := by kernel_rfl
theorem plc162_2 : placeT Try.prog 162 2 = some (2, 1) := by kernel_rfl
theorem plc162_3 : placeT Try.prog 162 3 = some (3, 1) := by kernel_rfl
theorem plc162_4 : placeT Try.prog 162 4 = some (4, 1) := by kernel_rfl
theorem plc162_5 : placeT Try.prog 162 5 = some (5, 1) := by kernel_rfl
theorem plc162_6 : placeT Try.prog 162 6 = some (6, 1) := by kernel_rfl
theorem plc162_7 : placeT Try.prog 162 7 = some (7, 1) := by kernel_rfl
theorem plc162_8 : placeT Try.prog 162 8 = some (8, 1) := by kernel_rfl
theorem plc162_9 : placeT Try.prog 162 9 = some (9, 1) := by kernel_rfl
theorem plc162_10 : placeT Try.prog 162 10 = some (10, 1) := by kernel_rfl
theorem str162 : strT Try.prog 162 = false := by kernel_rfl
theorem fld162_0 : fldT Try.prog 162 0 = some (0, 12) := by kernel_rfl
theorem fld162_1 : fldT Try.prog 162 1 = some (1, 12) := by kernel_rfl
theorem fld162_2 : fldT Try.prog 162 2 = some (2, 27) := by kernel_rfl
theorem fld162_3 : fldT Try.prog 162 3 = some (3, 156) := by kernel_rfl
theorem fld162_4 : fldT Try.prog 162 4 = some (4, 5) := by kernel_rfl
theorem fld162_5 : fldT Try.prog 162 5 = some (5, 5) := by kernel_rfl
theorem fld162_6 : fldT Try.prog 162 6 = some (6, 157) := by kernel_rfl
theorem fld162_7 : fldT Try.prog 162 7 = some (7, 158) := by kernel_rfl
theorem fld162_8 : fldT Try.prog 162 8 = some (8, 159) := by kernel_rfl
theorem fld162_9 : fldT Try.prog 162 9 = some (9, 160) := by kernel_rfl
theorem fld162_10 : fldT Try.prog 162 10 = some (10, 161) := by kernel_rfl
theorem agg163 : aggT Try.prog 163 = some true := by kernel_rfl
theorem siz163 : sizT Try.prog 163 = some 11 := by kernel_rfl
theorem byt163 : bytT Try.prog 163 = some 48 := by kernel_rfl
theorem elem163 : elemT Try.prog 163 = none := by kernel_rfl
theorem arr163 : arrT Try.prog 163 = none := by kernel_rfl
theorem int163 : intT Try.prog 163 = none := by kernel_rfl
theorem zer163 : zerT Try.prog 163 = some [.int .u64 0, .int .u64 0, .int .u32 0, .int .u8 0, .int .u8 0, .int .u8 0, .int .u8 0, .nilFunc, .pointer none, .int .i32 0, .int .i32 0] := by kernel_rfl
theorem eqg163 : Try.prog.eqGuardType (Try.prog.depth) 163 = false := by kernel_rfl
theorem szs163 : sizesOk Try.prog 163 = true := by kernel_rfl
theorem plc163_0 : placeT Try.prog 163 0 = some (0, 1) := by kernel_rfl
theorem plc163_1 : placeT Try.prog 163 1 = some (1, 1) := by kernel_rfl
theorem plc163_2 : placeT Try.prog 163 2 = some (2, 1) := by kernel_rfl
theorem plc163_3 : placeT Try.prog 163 3 = some (3, 1) := by kernel_rfl
theorem plc163_4 : placeT Try.prog 163 4 = some (4, 1) := by kernel_rfl
theorem plc163_5 : placeT Try.prog 163 5 = some (5, 1) := by kernel_rfl
theorem plc163_6 : placeT Try.prog 163 6 = some (6, 1) := by kernel_rfl
theorem plc163_7 : placeT Try.prog 163 7 = some (7, 1) := by kernel_rfl
theorem plc163_8 : placeT Try.prog 163 8 = some (8, 1) := by kernel_rfl
theorem plc163_9 : placeT Try.prog 163 9 = some (9, 1) := by kernel_rfl
theorem plc163_10 : placeT Try.prog 163 10 = some (10, 1) := by kernel_rfl
theorem str163 : strT Try.prog 163 = false := by kernel_rfl
theorem fld163_0 : fldT Try.prog 163 0 = some (0, 12) := by kernel_rfl
theorem fld163_1 : fldT Try.prog 163 1 = some (1, 12) := by kernel_rfl
theorem fld163_2 : fldT Try.prog 163 2 = some (2, 27) := by kernel_rfl
theorem fld163_3 : fldT Try.prog 163 3 = some (3, 156) := by kernel_rfl
theorem fld163_4 : fldT Try.prog 163 4 = some (4, 5) := by kernel_rfl
theorem fld163_5 : fldT Try.prog 163 5 = some (5, 5) := by kernel_rfl
theorem fld163_6 : fldT Try.prog 163 6 = some (6, 157) := by kernel_rfl
theorem fld163_7 : fldT Try.prog 163 7 = some (7, 158) := by kernel_rfl
theorem fld163_8 : fldT Try.prog 163 8 = some (8, 159) := by kernel_rfl
theorem fld163_9 : fldT Try.prog 163 9 = some (9, 160) := by kernel_rfl
theorem fld163_10 : fldT Try.prog 163 10 = some (10, 161) := by kernel_rfl
theorem agg164 : aggT Try.prog 164 = some false := by kernel_rfl
theorem siz164 : sizT Try.prog 164 = some 1 := by kernel_rfl
theorem byt164 : bytT Try.prog 164 = some 8 := by kernel_rfl
theorem elem164 : elemT Try.prog 164 = none := by kernel_rfl
theorem arr164 : arrT Try.prog 164 = none := by kernel_rfl
theorem int164 : intT Try.prog 164 = none := by kernel_rfl
theorem zer164 : zerT Try.prog 164 = some [.pointer none] := by kernel_rfl
theorem str164 : strT Try.prog 164 = false := by kernel_rfl
theorem und0 : (Try.prog.underlying 0).isSome = true := by kernel_rfl
theorem und1 : (Try.prog.underlying 1).isSome = true := by kernel_rfl
theorem und2 : (Try.prog.underlying 2).isSome = true := by kernel_rfl
theorem und3 : (Try.prog.underlying 3).isSome = true := by kernel_rfl
theorem und4 : (Try.prog.underlying 4).isSome = true := by kernel_rfl
theorem und5 : (Try.prog.underlying 5).isSome = true := by kernel_rfl
theorem und6 : (Try.prog.underlying 6).isSome = true := by kernel_rfl
theorem und7 : (Try.prog.underlying 7).isSome = true := by kernel_rfl
theorem und8 : (Try.prog.underlying 8).isSome = true := by kernel_rfl
theorem und9 : (Try.prog.underlying 9).isSome = true := by kernel_rfl
theorem und10 : (Try.prog.underlying 10).isSome = true := by kernel_rfl
theorem und11 : (Try.prog.underlying 11).isSome = true := by kernel_rfl
theorem und12 : (Try.prog.underlying 12).isSome = true := by kernel_rfl
theorem und13 : (Try.prog.underlying 13).isSome = true := by kernel_rfl
theorem und14 : (Try.prog.underlying 14).isSome = true := by kernel_rfl
theorem und15 : (Try.prog.underlying 15).isSome = true := by kernel_rfl
theorem und16 : (Try.prog.underlying 16).isSome = true := by kernel_rfl
theorem und17 : (Try.prog.underlying 17).isSome = true := by kernel_rfl
theorem und18 : (Try.prog.underlying 18).isSome = true := by kernel_rfl
theorem und19 : (Try.prog.underlying 19).isSome = true := by kernel_rfl
theorem und20 : (Try.prog.underlying 20).isSome = true := by kernel_rfl
theorem und21 : (Try.prog.underlying 21).isSome = true := by kernel_rfl
theorem und22 : (Try.prog.underlying 22).isSome = true := by kernel_rfl
theorem und23 : (Try.prog.underlying 23).isSome = true := by kernel_rfl
theorem und24 : (Try.prog.underlying 24).isSome = true := by kernel_rfl
theorem und25 : (Try.prog.underlying 25).isSome = true := by kernel_rfl
theorem und26 : (Try.prog.underlying 26).isSome = true := by kernel_rfl
theorem und27 : (Try.prog.underlying 27).isSome = true := by kernel_rfl
theorem und28 : (Try.prog.underlying 28).isSome = true := by kernel_rfl
theorem und29 : (Try.prog.underlying 29).isSome = true := by kernel_rfl
theorem und30 : (Try.prog.underlying 30).isSome = true := by kernel_rfl
theorem und31 : (Try.prog.underlying 31).isSome = true := by kernel_rfl
theorem und32 : (Try.prog.underlying 32).isSome = true := by kernel_rfl
theorem und33 : (Try.prog.underlying 33).isSome = true := by kernel_rfl
theorem und34 : (Try.prog.underlying 34).isSome = true := by kernel_rfl
theorem und35 : (Try.prog.underlying 35).isSome = true := by kernel_rfl
theorem und36 : (Try.prog.underlying 36).isSome = true := by kernel_rfl
theorem und37 : (Try.prog.underlying 37).isSome = true := by kernel_rfl
theorem und38 : (Try.prog.underlying 38).isSome = true := by kernel_rfl
theorem und39 : (Try.prog.underlying 39).isSome = true := by kernel_rfl
theorem und40 : (Try.prog.underlying 40).isSome = true := by kernel_rfl
theorem und41 : (Try.prog.underlying 41).isSome = true := by kernel_rfl
theorem und42 : (Try.prog.underlying 42).isSome = true := by kernel_rfl
theorem und43 : (Try.prog.underlying 43).isSome = true := by kernel_rfl
theorem und44 : (Try.prog.underlying 44).isSome = true := by kernel_rfl
theorem und45 : (Try.prog.underlying 45).isSome = true := by kernel_rfl
theorem und46 : (Try.prog.underlying 46).isSome = true := by kernel_rfl
theorem und47 : (Try.prog.underlying 47).isSome = true := by kernel_rfl
theorem und48 : (Try.prog.underlying 48).isSome = true := by kernel_rfl
theorem und49 : (Try.prog.underlying 49).isSome = true := by kernel_rfl
theorem und50 : (Try.prog.underlying 50).isSome = true := by kernel_rfl
theorem und51 : (Try.prog.underlying 51).isSome = true := by kernel_rfl
theorem und52 : (Try.prog.underlying 52).isSome = true := by kernel_rfl
theorem und53 : (Try.prog.underlying 53).isSome = true := by kernel_rfl
theorem und54 : (Try.prog.underlying 54).isSome = true := by kernel_rfl
theorem und55 : (Try.prog.underlying 55).isSome = true := by kernel_rfl
theorem und56 : (Try.prog.underlying 56).isSome = true := by kernel_rfl
theorem und57 : (Try.prog.underlying 57).isSome = true := by kernel_rfl
theorem und58 : (Try.prog.underlying 58).isSome = true := by kernel_rfl
theorem und59 : (Try.prog.underlying 59).isSome = true := by kernel_rfl
theorem und60 : (Try.prog.underlying 60).isSome = true := by kernel_rfl
theorem und61 : (Try.prog.underlying 61).isSome = true := by kernel_rfl
theorem und62 : (Try.prog.underlying 62).isSome = true := by kernel_rfl
theorem und63 : (Try.prog.underlying 63).isSome = true := by kernel_rfl
theorem und64 : (Try.prog.underlying 64).isSome = true := by kernel_rfl
theorem und65 : (Try.prog.underlying 65).isSome = true := by kernel_rfl
theorem und66 : (Try.prog.underlying 66).isSome = true := by kernel_rfl
theorem und67 : (Try.prog.underlying 67).isSome = true := by kernel_rfl
theorem und68 : (Try.prog.underlying 68).isSome = true := by kernel_rfl
theorem und69 : (Try.prog.underlying 69).isSome = true := by kernel_rfl
theorem und70 : (Try.prog.underlying 70).isSome = true := by kernel_rfl
theorem und71 : (Try.prog.underlying 71).isSome = true := by kernel_rfl
theorem und72 : (Try.prog.underlying 72).isSome = true := by kernel_rfl
theorem und73 : (Try.prog.underlying 73).isSome = true := by kernel_rfl
theorem und74 : (Try.prog.underlying 74).isSome = true := by kernel_rfl
theorem und75 : (Try.prog.underlying 75).isSome = true := by kernel_rfl
theorem und76 : (Try.prog.underlying 76).isSome = true := by kernel_rfl
theorem und77 : (Try.prog.underlying 77).isSome = true := by kernel_rfl
theorem und78 : (Try.prog.underlying 78).isSome = true := by kernel_rfl
theorem und79 : (Try.prog.underlying 79).isSome = true := by kernel_rfl
theorem und80 : (Try.prog.underlying 80).isSome = true := by kernel_rfl
theorem und81 : (Try.prog.underlying 81).isSome = true := by kernel_rfl
theorem und82 : (Try.prog.underlying 82).isSome = true := by kernel_rfl
theorem und83 : (Try.prog.underlying 83).isSome = true := by kernel_rfl
theorem und84 : (Try.prog.underlying 84).isSome = true := by kernel_rfl
theorem und85 : (Try.prog.underlying 85).isSome = true := by kernel_rfl
theorem und86 : (Try.prog.underlying 86).isSome = true := by kernel_rfl
theorem und87 : (Try.prog.underlying 87).isSome = true := by kernel_rfl
theorem und88 : (Try.prog.underlying 88).isSome = true := by kernel_rfl
theorem und89 : (Try.prog.underlying 89).isSome = true := by kernel_rfl
theorem und90 : (Try.prog.underlying 90).isSome = true := by kernel_rfl
theorem und91 : (Try.prog.underlying 91).isSome = true := by kernel_rfl
theorem und92 : (Try.prog.underlying 92).isSome = true := by kernel_rfl
theorem und93 : (Try.prog.underlying 93).isSome = true := by kernel_rfl
theorem und94 : (Try.prog.underlying 94).isSome = true := by kernel_rfl
theorem und95 : (Try.prog.underlying 95).isSome = true := by kernel_rfl
theorem und96 : (Try.prog.underlying 96).isSome = true := by kernel_rfl
theorem und97 : (Try.prog.underlying 97).isSome = true := by kernel_rfl
theorem und98 : (Try.prog.underlying 98).isSome = true := by kernel_rfl
theorem und99 : (Try.prog.underlying 99).isSome = true := by kernel_rfl
theorem und100 : (Try.prog.underlying 100).isSome = true := by kernel_rfl
theorem und101 : (Try.prog.underlying 101).isSome = true := by kernel_rfl
theorem und102 : (Try.prog.underlying 102).isSome = true := by kernel_rfl
theorem und103 : (Try.prog.underlying 103).isSome = true := by kernel_rfl
theorem und104 : (Try.prog.underlying 104).isSome = true := by kernel_rfl
theorem und105 : (Try.prog.underlying 105).isSome = true := by kernel_rfl
theorem und106 : (Try.prog.underlying 106).isSome = true := by kernel_rfl
theorem und107 : (Try.prog.underlying 107).isSome = true := by kernel_rfl
theorem und108 : (Try.prog.underlying 108).isSome = true := by kernel_rfl
theorem und109 : (Try.prog.underlying 109).isSome = true := by kernel_rfl
theorem und110 : (Try.prog.underlying 110).isSome = true := by kernel_rfl
theorem und111 : (Try.prog.underlying 111).isSome = true := by kernel_rfl
theorem und112 : (Try.prog.underlying 112).isSome = true := by kernel_rfl
theorem und113 : (Try.prog.underlying 113).isSome = true := by kernel_rfl
theorem und114 : (Try.prog.underlying 114).isSome = true := by kernel_rfl
theorem und115 : (Try.prog.underlying 115).isSome = true := by kernel_rfl
theorem und116 : (Try.prog.underlying 116).isSome = true := by kernel_rfl
theorem und117 : (Try.prog.underlying 117).isSome = true := by kernel_rfl
theorem und118 : (Try.prog.underlying 118).isSome = true := by kernel_rfl
theorem und119 : (Try.prog.underlying 119).isSome = true := by kernel_rfl
theorem und120 : (Try.prog.underlying 120).isSome = true := by kernel_rfl
theorem und121 : (Try.prog.underlying 121).isSome = true := by kernel_rfl
theorem und122 : (Try.prog.underlying 122).isSome = true := by kernel_rfl
theorem und123 : (Try.prog.underlying 123).isSome = true := by kernel_rfl
theorem und124 : (Try.prog.underlying 124).isSome = true := by kernel_rfl
theorem und125 : (Try.prog.underlying 125).isSome = true := by kernel_rfl
theorem und126 : (Try.prog.underlying 126).isSome = true := by kernel_rfl
theorem und127 : (Try.prog.underlying 127).isSome = true := by kernel_rfl
theorem und128 : (Try.prog.underlying 128).isSome = true := by kernel_rfl
theorem und129 : (Try.prog.underlying 129).isSome = true := by kernel_rfl
theorem und130 : (Try.prog.underlying 130).isSome = true := by kernel_rfl
theorem und131 : (Try.prog.underlying 131).isSome = true := by kernel_rfl
theorem und132 : (Try.prog.underlying 132).isSome = true := by kernel_rfl
theorem und133 : (Try.prog.underlying 133).isSome = true := by kernel_rfl
theorem und134 : (Try.prog.underlying 134).isSome = true := by kernel_rfl
theorem und135 : (Try.prog.underlying 135).isSome = true := by kernel_rfl
theorem und136 : (Try.prog.underlying 136).isSome = true := by kernel_rfl
theorem und137 : (Try.prog.underlying 137).isSome = true := by kernel_rfl
theorem und138 : (Try.prog.underlying 138).isSome = true := by kernel_rfl
theorem und139 : (Try.prog.underlying 139).isSome = true := by kernel_rfl
theorem und140 : (Try.prog.underlying 140).isSome = true := by kernel_rfl
theorem und141 : (Try.prog.underlying 141).isSome = true := by kernel_rfl
theorem und142 : (Try.prog.underlying 142).isSome = true := by kernel_rfl
theorem und143 : (Try.prog.underlying 143).isSome = true := by kernel_rfl
theorem und144 : (Try.prog.underlying 144).isSome = true := by kernel_rfl
theorem und145 : (Try.prog.underlying 145).isSome = true := by kernel_rfl
theorem und146 : (Try.prog.underlying 146).isSome = true := by kernel_rfl
theorem und147 : (Try.prog.underlying 147).isSome = true := by kernel_rfl
theorem und148 : (Try.prog.underlying 148).isSome = true := by kernel_rfl
theorem und149 : (Try.prog.underlying 149).isSome = true := by kernel_rfl
theorem und150 : (Try.prog.underlying 150).isSome = true := by kernel_rfl
theorem und151 : (Try.prog.underlying 151).isSome = true := by kernel_rfl
theorem und152 : (Try.prog.underlying 152).isSome = true := by kernel_rfl
theorem und153 : (Try.prog.underlying 153).isSome = true := by kernel_rfl
theorem und154 : (Try.prog.underlying 154).isSome = true := by kernel_rfl
theorem und155 : (Try.prog.underlying 155).isSome = true := by kernel_rfl
theorem und156 : (Try.prog.underlying 156).isSome = true := by kernel_rfl
theorem und157 : (Try.prog.underlying 157).isSome = true := by kernel_rfl
theorem und158 : (Try.prog.underlying 158).isSome = true := by kernel_rfl
theorem und159 : (Try.prog.underlying 159).isSome = true := by kernel_rfl
theorem und160 : (Try.prog.underlying 160).isSome = true := by kernel_rfl
theorem und161 : (Try.prog.underlying 161).isSome = true := by kernel_rfl
theorem und162 : (Try.prog.underlying 162).isSome = true := by kernel_rfl
theorem und163 : (Try.prog.underlying 163).isSome = true := by kernel_rfl
theorem und164 : (Try.prog.underlying 164).isSome = true := by kernel_rfl
theorem t0 : (aggT Try.prog 0 = some false) ∧ (sizT Try.prog 0 = some 1) ∧ (bytT Try.prog 0 = some 0) ∧ (elemT Try.prog 0 = none) ∧ (arrT Try.prog 0 = none) ∧ (intT Try.prog 0 = none) ∧ (strT Try.prog 0 = false) ∧ ((Try.prog.underlying 0).isSome = true) := ⟨agg0, siz0, byt0, elem0, arr0, int0, str0, und0⟩
theorem t1 : (aggT Try.prog 1 = some false) ∧ (sizT Try.prog 1 = some 1) ∧ (bytT Try.prog 1 = some 8) ∧ (elemT Try.prog 1 = none) ∧ (arrT Try.prog 1 = none) ∧ (intT Try.prog 1 = none) ∧ (zerT Try.prog 1 = some [.nilFunc]) ∧ (strT Try.prog 1 = false) ∧ ((Try.prog.underlying 1).isSome = true) := ⟨agg1, siz1, byt1, elem1, arr1, int1, zer1, str1, und1⟩
theorem t2 : (aggT Try.prog 2 = some false) ∧ (sizT Try.prog 2 = some 1) ∧ (bytT Try.prog 2 = some 8) ∧ (elemT Try.prog 2 = none) ∧ (arrT Try.prog 2 = none) ∧ (intT Try.prog 2 = some .i64) ∧ (zerT Try.prog 2 = some [.int .i64 0]) ∧ (strT Try.prog 2 = false) ∧ ((Try.prog.underlying 2).isSome = true) := ⟨agg2, siz2, byt2, elem2, arr2, int2, zer2, str2, und2⟩
theorem t3 : (aggT Try.prog 3 = some false) ∧ (sizT Try.prog 3 = some 1) ∧ (bytT Try.prog 3 = some 8) ∧ (elemT Try.prog 3 = none) ∧ (arrT Try.prog 3 = none) ∧ (intT Try.prog 3 = some .i64) ∧ (zerT Try.prog 3 = some [.int .i64 0]) ∧ (strT Try.prog 3 = false) ∧ ((Try.prog.underlying 3).isSome = true) := ⟨agg3, siz3, byt3, elem3, arr3, int3, zer3, str3, und3⟩
theorem t4 : (aggT Try.prog 4 = some false) ∧ (sizT Try.prog 4 = some 1) ∧ (bytT Try.prog 4 = some 1) ∧ (elemT Try.prog 4 = none) ∧ (arrT Try.prog 4 = none) ∧ (intT Try.prog 4 = none) ∧ (zerT Try.prog 4 = some [.bool false]) ∧ (strT Try.prog 4 = false) ∧ ((Try.prog.underlying 4).isSome = true) := ⟨agg4, siz4, byt4, elem4, arr4, int4, zer4, str4, und4⟩
theorem t5 : (aggT Try.prog 5 = some false) ∧ (sizT Try.prog 5 = some 1) ∧ (bytT Try.prog 5 = some 1) ∧ (elemT Try.prog 5 = none) ∧ (arrT Try.prog 5 = none) ∧ (intT Try.prog 5 = some .u8) ∧ (zerT Try.prog 5 = some [.int .u8 0]) ∧ (strT Try.prog 5 = false) ∧ ((Try.prog.underlying 5).isSome = true) := ⟨agg5, siz5, byt5, elem5, arr5, int5, zer5, str5, und5⟩
theorem t6 : (aggT Try.prog 6 = some false) ∧ (sizT Try.prog 6 = some 1) ∧ (bytT Try.prog 6 = some 1) ∧ (elemT Try.prog 6 = none) ∧ (arrT Try.prog 6 = none) ∧ (intT Try.prog 6 = some .u8) ∧ (zerT Try.prog 6 = some [.int .u8 0]) ∧ (strT Try.prog 6 = false) ∧ ((Try.prog.underlying 6).isSome = true) := ⟨agg6, siz6, byt6, elem6, arr6, int6, zer6, str6, und6⟩
theorem t7 : (aggT Try.prog 7 = some true) ∧ (sizT Try.prog 7 = some 4) ∧ (bytT Try.prog 7 = some 24) ∧ (elemT Try.prog 7 = none) ∧ (arrT Try.prog 7 = none) ∧ (intT Try.prog 7 = none) ∧ (zerT Try.prog 7 = some [.int .i64 0, .int .i64 0, .bool false, .int .u8 0]) ∧ (kdT Try.prog 60 7 = some [.int .i64, .int .i64, .bool, .int .u8]) ∧ (Try.prog.eqGuardType (Try.prog.depth) 7 = false) ∧ (sizesOk Try.prog 7 = true) ∧ (placeT Try.prog 7 0 = some (0, 1)) ∧ (placeT Try.prog 7 1 = some (1, 1)) ∧ (placeT Try.prog 7 2 = some (2, 1)) ∧ (placeT Try.prog 7 3 = some (3, 1)) ∧ (strT Try.prog 7 = false) ∧ (fldT Try.prog 7 0 = some (0, 2)) ∧ (fldT Try.prog 7 1 = some (1, 3)) ∧ (fldT Try.prog 7 2 = some (2, 4)) ∧ (fldT Try.prog 7 3 = some (3, 6)) ∧ ((Try.prog.underlying 7).isSome = true) := ⟨agg7, siz7, byt7, elem7, arr7, int7, zer7, kd7, eqg7, szs7, plc7_0, plc7_1, plc7_2, plc7_3, str7, fld7_0, fld7_1, fld7_2, fld7_3, und7⟩
theorem t8 : (aggT Try.prog 8 = some true) ∧ (sizT Try.prog 8 = some 4) ∧ (bytT Try.prog 8 = some 24) ∧ (elemT Try.prog 8 = none) ∧ (arrT Try.prog 8 = none) ∧ (intT Try.prog 8 = none) ∧ (zerT Try.prog 8 = some [.int .i64 0, .int .i64 0, .bool false, .int .u8 0]) ∧ (kdT Try.prog 60 8 = some [.int .i64, .int .i64, .bool, .int .u8]) ∧ (Try.prog.eqGuardType (Try.prog.depth) 8 = false) ∧ (sizesOk Try.prog 8 = true) ∧ (placeT Try.prog 8 0 = some (0, 1)) ∧ (placeT Try.prog 8 1 = some (1, 1)) ∧ (placeT Try.prog 8 2 = some (2, 1)) ∧ (placeT Try.prog 8 3 = some (3, 1)) ∧ (strT Try.prog 8 = false) ∧ (fldT Try.prog 8 0 = some (0, 2)) ∧ (fldT Try.prog 8 1 = some (1, 3)) ∧ (fldT Try.prog 8 2 = some (2, 4)) ∧ (fldT Try.prog 8 3 = some (3, 6)) ∧ ((Try.prog.underlying 8).isSome = true) := ⟨agg8, siz8, byt8, elem8, arr8, int8, zer8, kd8, eqg8, szs8, plc8_0, plc8_1, plc8_2, plc8_3, str8, fld8_0, fld8_1, fld8_2, fld8_3, und8⟩
theorem t9 : (aggT Try.prog 9 = some false) ∧ (sizT Try.prog 9 = some 1) ∧ (bytT Try.prog 9 = some 16) ∧ (elemT Try.prog 9 = none) ∧ (arrT Try.prog 9 = none) ∧ (intT Try.prog 9 = none) ∧ (zerT Try.prog 9 = some [.string ByteArray.empty]) ∧ (strT Try.prog 9 = true) ∧ ((Try.prog.underlying 9).isSome = true) := ⟨agg9, siz9, byt9, elem9, arr9, int9, zer9, str9, und9⟩
theorem t10 : (aggT Try.prog 10 = some false) ∧ (sizT Try.prog 10 = some 1) ∧ (bytT Try.prog 10 = some 16) ∧ (elemT Try.prog 10 = none) ∧ (arrT Try.prog 10 = none) ∧ (intT Try.prog 10 = none) ∧ (zerT Try.prog 10 = some [.string ByteArray.empty]) ∧ (strT Try.prog 10 = true) ∧ ((Try.prog.underlying 10).isSome = true) := ⟨agg10, siz10, byt10, elem10, arr10, int10, zer10, str10, und10⟩
theorem t11 : (aggT Try.prog 11 = some false) ∧ (sizT Try.prog 11 = some 1) ∧ (bytT Try.prog 11 = some 16) ∧ (elemT Try.prog 11 = none) ∧ (arrT Try.prog 11 = none) ∧ (intT Try.prog 11 = none) ∧ (zerT Try.prog 11 = some [.string ByteArray.empty]) ∧ (strT Try.prog 11 = true) ∧ ((Try.prog.underlying 11).isSome = true) := ⟨agg11, siz11, byt11, elem11, arr11, int11, zer11, str11, und11⟩
theorem t12 : (aggT Try.prog 12 = some false) ∧ (sizT Try.prog 12 = some 1) ∧ (bytT Try.prog 12 = some 8) ∧ (elemT Try.prog 12 = none) ∧ (arrT Try.prog 12 = none) ∧ (intT Try.prog 12 = some .u64) ∧ (zerT Try.prog 12 = some [.int .u64 0]) ∧ (strT Try.prog 12 = false) ∧ ((Try.prog.underlying 12).isSome = true) := ⟨agg12, siz12, byt12, elem12, arr12, int12, zer12, str12, und12⟩
theorem t13 : (aggT Try.prog 13 = some true) ∧ (sizT Try.prog 13 = some 2) ∧ (bytT Try.prog 13 = some 24) ∧ (elemT Try.prog 13 = none) ∧ (arrT Try.prog 13 = none) ∧ (intT Try.prog 13 = none) ∧ (zerT Try.prog 13 = some [.string ByteArray.empty, .int .u64 0]) ∧ (Try.prog.eqGuardType (Try.prog.depth) 13 = false) ∧ (sizesOk Try.prog 13 = true) ∧ (placeT Try.prog 13 0 = some (0, 1)) ∧ (placeT Try.prog 13 1 = some (1, 1)) ∧ (strT Try.prog 13 = false) ∧ (fldT Try.prog 13 0 = some (0, 9)) ∧ (fldT Try.prog 13 1 = some (1, 12)) ∧ ((Try.prog.underlying 13).isSome = true) := ⟨agg13, siz13, byt13, elem13, arr13, int13, zer13, eqg13, szs13, plc13_0, plc13_1, str13, fld13_0, fld13_1, und13⟩
theorem t14 : (aggT Try.prog 14 = some true) ∧ (sizT Try.prog 14 = some 2) ∧ (bytT Try.prog 14 = some 24) ∧ (elemT Try.prog 14 = none) ∧ (arrT Try.prog 14 = none) ∧ (intT Try.prog 14 = none) ∧ (zerT Try.prog 14 = some [.string ByteArray.empty, .int .u64 0]) ∧ (Try.prog.eqGuardType (Try.prog.depth) 14 = false) ∧ (sizesOk Try.prog 14 = true) ∧ (placeT Try.prog 14 0 = some (0, 1)) ∧ (placeT Try.prog 14 1 = some (1, 1)) ∧ (strT Try.prog 14 = false) ∧ (fldT Try.prog 14 0 = some (0, 9)) ∧ (fldT Try.prog 14 1 = some (1, 12)) ∧ ((Try.prog.underlying 14).isSome = true) := ⟨agg14, siz14, byt14, elem14, arr14, int14, zer14, eqg14, szs14, plc14_0, plc14_1, str14, fld14_0, fld14_1, und14⟩
theorem t15 : (aggT Try.prog 15 = some false) ∧ (sizT Try.prog 15 = some 1) ∧ (bytT Try.prog 15 = some 8) ∧ (elemT Try.prog 15 = none) ∧ (arrT Try.prog 15 = none) ∧ (intT Try.prog 15 = none) ∧ (zerT Try.prog 15 = some [.pointer none]) ∧ (strT Try.prog 15 = false) ∧ ((Try.prog.underlying 15).isSome = true) := ⟨agg15, siz15, byt15, elem15, arr15, int15, zer15, str15, und15⟩
theorem t16 : (aggT Try.prog 16 = some false) ∧ (sizT Try.prog 16 = some 1) ∧ (bytT Try.prog 16 = some 8) ∧ (elemT Try.prog 16 = none) ∧ (arrT Try.prog 16 = none) ∧ (intT Try.prog 16 = none) ∧ (zerT Try.prog 16 = some [.pointer none]) ∧ (strT Try.prog 16 = false) ∧ ((Try.prog.underlying 16).isSome = true) := ⟨agg16, siz16, byt16, elem16, arr16, int16, zer16, str16, und16⟩
theorem t17 : (aggT Try.prog 17 = some false) ∧ (sizT Try.prog 17 = some 1) ∧ (bytT Try.prog 17 = some 8) ∧ (elemT Try.prog 17 = none) ∧ (arrT Try.prog 17 = none) ∧ (intT Try.prog 17 = none) ∧ (zerT Try.prog 17 = some [.pointer none]) ∧ (strT Try.prog 17 = false) ∧ ((Try.prog.underlying 17).isSome = true) := ⟨agg17, siz17, byt17, elem17, arr17, int17, zer17, str17, und17⟩
theorem t18 : (aggT Try.prog 18 = some true) ∧ (sizT Try.prog 18 = some 1) ∧ (bytT Try.prog 18 = some 8) ∧ (elemT Try.prog 18 = none) ∧ (arrT Try.prog 18 = none) ∧ (intT Try.prog 18 = none) ∧ (zerT Try.prog 18 = some [.pointer none]) ∧ (Try.prog.eqGuardType (Try.prog.depth) 18 = false) ∧ (sizesOk Try.prog 18 = true) ∧ (placeT Try.prog 18 0 = some (0, 1)) ∧ (strT Try.prog 18 = false) ∧ (fldT Try.prog 18 0 = some (0, 17)) ∧ ((Try.prog.underlying 18).isSome = true) := ⟨agg18, siz18, byt18, elem18, arr18, int18, zer18, eqg18, szs18, plc18_0, str18, fld18_0, und18⟩
theorem t19 : (aggT Try.prog 19 = some true) ∧ (sizT Try.prog 19 = some 1) ∧ (bytT Try.prog 19 = some 8) ∧ (elemT Try.prog 19 = none) ∧ (arrT Try.prog 19 = none) ∧ (intT Try.prog 19 = none) ∧ (zerT Try.prog 19 = some [.pointer none]) ∧ (Try.prog.eqGuardType (Try.prog.depth) 19 = false) ∧ (sizesOk Try.prog 19 = true) ∧ (placeT Try.prog 19 0 = some (0, 1)) ∧ (strT Try.prog 19 = false) ∧ (fldT Try.prog 19 0 = some (0, 17)) ∧ ((Try.prog.underlying 19).isSome = true) := ⟨agg19, siz19, byt19, elem19, arr19, int19, zer19, eqg19, szs19, plc19_0, str19, fld19_0, und19⟩
theorem t20 : (aggT Try.prog 20 = some false) ∧ (sizT Try.prog 20 = some 1) ∧ (bytT Try.prog 20 = some 16) ∧ (elemT Try.prog 20 = none) ∧ (arrT Try.prog 20 = none) ∧ (intT Try.prog 20 = none) ∧ (zerT Try.prog 20 = some [.nilIface]) ∧ (strT Try.prog 20 = false) ∧ ((Try.prog.underlying 20).isSome = true) := ⟨agg20, siz20, byt20, elem20, arr20, int20, zer20, str20, und20⟩
theorem t21 : (aggT Try.prog 21 = some false) ∧ (sizT Try.prog 21 = some 1) ∧ (bytT Try.prog 21 = some 4) ∧ (elemT Try.prog 21 = none) ∧ (arrT Try.prog 21 = none) ∧ (intT Try.prog 21 = some .i32) ∧ (zerT Try.prog 21 = some [.int .i32 0]) ∧ (strT Try.prog 21 = false) ∧ ((Try.prog.underlying 21).isSome = true) := ⟨agg21, siz21, byt21, elem21, arr21, int21, zer21, str21, und21⟩
theorem t22 : (aggT Try.prog 22 = some false) ∧ (sizT Try.prog 22 = some 1) ∧ (bytT Try.prog 22 = some 24) ∧ (elemT Try.prog 22 = some 40) ∧ (arrT Try.prog 22 = none) ∧ (intT Try.prog 22 = none) ∧ (zerT Try.prog 22 = some [.slice none 0 0]) ∧ (strT Try.prog 22 = false) ∧ ((Try.prog.underlying 22).isSome = true) := ⟨agg22, siz22, byt22, elem22, arr22, int22, zer22, str22, und22⟩
theorem t23 : (aggT Try.prog 23 = some false) ∧ (sizT Try.prog 23 = some 1) ∧ (bytT Try.prog 23 = some 8) ∧ (elemT Try.prog 23 = none) ∧ (arrT Try.prog 23 = none) ∧ (intT Try.prog 23 = none) ∧ (zerT Try.prog 23 = some [.pointer none]) ∧ (strT Try.prog 23 = false) ∧ ((Try.prog.underlying 23).isSome = true) := ⟨agg23, siz23, byt23, elem23, arr23, int23, zer23, str23, und23⟩
theorem t24 : (aggT Try.prog 24 = some false) ∧ (sizT Try.prog 24 = some 1) ∧ (bytT Try.prog 24 = some 8) ∧ (elemT Try.prog 24 = none) ∧ (arrT Try.prog 24 = none) ∧ (intT Try.prog 24 = some .i64) ∧ (zerT Try.prog 24 = some [.int .i64 0]) ∧ (strT Try.prog 24 = false) ∧ ((Try.prog.underlying 24).isSome = true) := ⟨agg24, siz24, byt24, elem24, arr24, int24, zer24, str24, und24⟩
theorem t25 : (aggT Try.prog 25 = some false) ∧ (sizT Try.prog 25 = some 1) ∧ (bytT Try.prog 25 = some 0) ∧ (elemT Try.prog 25 = none) ∧ (arrT Try.prog 25 = none) ∧ (intT Try.prog 25 = none) ∧ (strT Try.prog 25 = false) ∧ ((Try.prog.underlying 25).isSome = true) := ⟨agg25, siz25, byt25, elem25, arr25, int25, str25, und25⟩
theorem t26 : (aggT Try.prog 26 = some false) ∧ (sizT Try.prog 26 = some 1) ∧ (bytT Try.prog 26 = some 8) ∧ (elemT Try.prog 26 = none) ∧ (arrT Try.prog 26 = none) ∧ (intT Try.prog 26 = none) ∧ (zerT Try.prog 26 = some [.nilFunc]) ∧ (strT Try.prog 26 = false) ∧ ((Try.prog.underlying 26).isSome = true) := ⟨agg26, siz26, byt26, elem26, arr26, int26, zer26, str26, und26⟩
theorem t27 : (aggT Try.prog 27 = some false) ∧ (sizT Try.prog 27 = some 1) ∧ (bytT Try.prog 27 = some 4) ∧ (elemT Try.prog 27 = none) ∧ (arrT Try.prog 27 = none) ∧ (intT Try.prog 27 = some .u32) ∧ (zerT Try.prog 27 = some [.int .u32 0]) ∧ (strT Try.prog 27 = false) ∧ ((Try.prog.underlying 27).isSome = true) := ⟨agg27, siz27, byt27, elem27, arr27, int27, zer27, str27, und27⟩
theorem t28 : (aggT Try.prog 28 = some true) ∧ (sizT Try.prog 28 = some 2) ∧ (bytT Try.prog 28 = some 8) ∧ (elemT Try.prog 28 = none) ∧ (arrT Try.prog 28 = none) ∧ (intT Try.prog 28 = none) ∧ (zerT Try.prog 28 = some [.bool false, .int .u32 0]) ∧ (kdT Try.prog 60 28 = some [.bool, .int .u32]) ∧ (Try.prog.eqGuardType (Try.prog.depth) 28 = false) ∧ (sizesOk Try.prog 28 = true) ∧ (placeT Try.prog 28 0 = some (0, 1)) ∧ (placeT Try.prog 28 1 = some (1, 1)) ∧ (strT Try.prog 28 = false) ∧ (fldT Try.prog 28 0 = some (0, 4)) ∧ (fldT Try.prog 28 1 = some (1, 27)) ∧ ((Try.prog.underlying 28).isSome = true) := ⟨agg28, siz28, byt28, elem28, arr28, int28, zer28, kd28, eqg28, szs28, plc28_0, plc28_1, str28, fld28_0, fld28_1, und28⟩
theorem t29 : (aggT Try.prog 29 = some true) ∧ (sizT Try.prog 29 = some 2) ∧ (bytT Try.prog 29 = some 8) ∧ (elemT Try.prog 29 = none) ∧ (arrT Try.prog 29 = none) ∧ (intT Try.prog 29 = none) ∧ (zerT Try.prog 29 = some [.bool false, .int .u32 0]) ∧ (kdT Try.prog 60 29 = some [.bool, .int .u32]) ∧ (Try.prog.eqGuardType (Try.prog.depth) 29 = false) ∧ (sizesOk Try.prog 29 = true) ∧ (placeT Try.prog 29 0 = some (0, 1)) ∧ (placeT Try.prog 29 1 = some (1, 1)) ∧ (strT Try.prog 29 = false) ∧ (fldT Try.prog 29 0 = some (0, 4)) ∧ (fldT Try.prog 29 1 = some (1, 27)) ∧ ((Try.prog.underlying 29).isSome = true) := ⟨agg29, siz29, byt29, elem29, arr29, int29, zer29, kd29, eqg29, szs29, plc29_0, plc29_1, str29, fld29_0, fld29_1, und29⟩
theorem t30 : (aggT Try.prog 30 = some true) ∧ (sizT Try.prog 30 = some 8) ∧ (bytT Try.prog 30 = some 8) ∧ (elemT Try.prog 30 = none) ∧ (arrT Try.prog 30 = some (8, 5)) ∧ (intT Try.prog 30 = none) ∧ (zerT Try.prog 30 = some [.int .u8 0, .int .u8 0, .int .u8 0, .int .u8 0, .int .u8 0, .int .u8 0, .int .u8 0, .int .u8 0]) ∧ (kdT Try.prog 60 30 = some [.int .u8, .int .u8, .int .u8, .int .u8, .int .u8, .int .u8, .int .u8, .int .u8]) ∧ (Try.prog.eqGuardType (Try.prog.depth) 30 = false) ∧ (sizesOk Try.prog 30 = true) ∧ (placeT Try.prog 30 0 = some (0, 1)) ∧ (placeT Try.prog 30 1 = some (1, 1)) ∧ (placeT Try.prog 30 2 = some (2, 1)) ∧ (placeT Try.prog 30 3 = some (3, 1)) ∧ (placeT Try.prog 30 4 = some (4, 1)) ∧ (placeT Try.prog 30 5 = some (5, 1)) ∧ (placeT Try.prog 30 6 = some (6, 1)) ∧ (placeT Try.prog 30 7 = some (7, 1)) ∧ (placeT Try.prog 30 8 = some (8, 1)) ∧ (placeT Try.prog 30 9 = some (9, 1)) ∧ (placeT Try.prog 30 10 = some (10, 1)) ∧ (placeT Try.prog 30 11 = some (11, 1)) ∧ (strT Try.prog 30 = false) ∧ ((Try.prog.underlying 30).isSome = true) := ⟨agg30, siz30, byt30, elem30, arr30, int30, zer30, kd30, eqg30, szs30, plc30_0, plc30_1, plc30_2, plc30_3, plc30_4, plc30_5, plc30_6, plc30_7, plc30_8, plc30_9, plc30_10, plc30_11, str30, und30⟩
theorem t31 : (aggT Try.prog 31 = some true) ∧ (sizT Try.prog 31 = some 12) ∧ (bytT Try.prog 31 = some 32) ∧ (elemT Try.prog 31 = none) ∧ (arrT Try.prog 31 = none) ∧ (intT Try.prog 31 = none) ∧ (zerT Try.prog 31 = some [.bool false, .int .u32 0, .bool false, .int .i64 0, .int .u8 0, .int .u8 0, .int .u8 0, .int .u8 0, .int .u8 0, .int .u8 0, .int .u8 0, .int .u8 0]) ∧ (kdT Try.prog 60 31 = some [.bool, .int .u32, .bool, .int .i64, .int .u8, .int .u8, .int .u8, .int .u8, .int .u8, .int .u8, .int .u8, .int .u8]) ∧ (Try.prog.eqGuardType (Try.prog.depth) 31 = false) ∧ (sizesOk Try.prog 31 = true) ∧ (placeT Try.prog 31 0 = some (0, 2)) ∧ (placeT Try.prog 31 1 = some (2, 1)) ∧ (placeT Try.prog 31 2 = some (3, 1)) ∧ (placeT Try.prog 31 3 = some (4, 8)) ∧ (strT Try.prog 31 = false) ∧ (fldT Try.prog 31 0 = some (0, 29)) ∧ (fldT Try.prog 31 1 = some (2, 4)) ∧ (fldT Try.prog 31 2 = some (3, 3)) ∧ (fldT Try.prog 31 3 = some (4, 30)) ∧ ((Try.prog.underlying 31).isSome = true) := ⟨agg31, siz31, byt31, elem31, arr31, int31, zer31, kd31, eqg31, szs31, plc31_0, plc31_1, plc31_2, plc31_3, str31, fld31_0, fld31_1, fld31_2, fld31_3, und31⟩
theorem t32 : (aggT Try.prog 32 = some true) ∧ (sizT Try.prog 32 = some 12) ∧ (bytT Try.prog 32 = some 32) ∧ (elemT Try.prog 32 = none) ∧ (arrT Try.prog 32 = none) ∧ (intT Try.prog 32 = none) ∧ (zerT Try.prog 32 = some [.bool false, .int .u32 0, .bool false, .int .i64 0, .int .u8 0, .int .u8 0, .int .u8 0, .int .u8 0, .int .u8 0, .int .u8 0, .int .u8 0, .int .u8 0]) ∧ (kdT Try.prog 60 32 = some [.bool, .int .u32, .bool, .int .i64, .int .u8, .int .u8, .int .u8, .int .u8, .int .u8, .int .u8, .int .u8, .int .u8]) ∧ (Try.prog.eqGuardType (Try.prog.depth) 32 = false) ∧ (sizesOk Try.prog 32 = true) ∧ (placeT Try.prog 32 0 = some (0, 2)) ∧ (placeT Try.prog 32 1 = some (2, 1)) ∧ (placeT Try.prog 32 2 = some (3, 1)) ∧ (placeT Try.prog 32 3 = some (4, 8)) ∧ (strT Try.prog 32 = false) ∧ (fldT Try.prog 32 0 = some (0, 29)) ∧ (fldT Try.prog 32 1 = some (2, 4)) ∧ (fldT Try.prog 32 2 = some (3, 3)) ∧ (fldT Try.prog 32 3 = some (4, 30)) ∧ ((Try.prog.underlying 32).isSome = true) := ⟨agg32, siz32, byt32, elem32, arr32, int32, zer32, kd32, eqg32, szs32, plc32_0, plc32_1, plc32_2, plc32_3, str32, fld32_0, fld32_1, fld32_2, fld32_3, und32⟩
theorem t33 : (aggT Try.prog 33 = some true) ∧ (sizT Try.prog 33 = some 14) ∧ (bytT Try.prog 33 = some 48) ∧ (elemT Try.prog 33 = none) ∧ (arrT Try.prog 33 = none) ∧ (intT Try.prog 33 = none) ∧ (zerT Try.prog 33 = some [.bool false, .int .u32 0, .bool false, .int .i64 0, .int .u8 0, .int .u8 0, .int .u8 0, .int .u8 0, .int .u8 0, .int .u8 0, .int .u8 0, .int .u8 0, .bool false, .int .i64 0]) ∧ (kdT Try.prog 60 33 = some [.bool, .int .u32, .bool, .int .i64, .int .u8, .int .u8, .int .u8, .int .u8, .int .u8, .int .u8, .int .u8, .int .u8, .bool, .int .i64]) ∧ (Try.prog.eqGuardType (Try.prog.depth) 33 = false) ∧ (sizesOk Try.prog 33 = true) ∧ (placeT Try.prog 33 0 = some (0, 12)) ∧ (placeT Try.prog 33 1 = some (12, 1)) ∧ (placeT Try.prog 33 2 = some (13, 1)) ∧ (strT Try.prog 33 = false) ∧ (fldT Try.prog 33 0 = some (0, 32)) ∧ (fldT Try.prog 33 1 = some (12, 4)) ∧ (fldT Try.prog 33 2 = some (13, 3)) ∧ ((Try.prog.underlying 33).isSome = true) := ⟨agg33, siz33, byt33, elem33, arr33, int33, zer33, kd33, eqg33, szs33, plc33_0, plc33_1, plc33_2, str33, fld33_0, fld33_1, fld33_2, und33⟩
theorem t34 : (aggT Try.prog 34 = some true) ∧ (sizT Try.prog 34 = some 14) ∧ (bytT Try.prog 34 = some 48) ∧ (elemT Try.prog 34 = none) ∧ (arrT Try.prog 34 = none) ∧ (intT Try.prog 34 = none) ∧ (zerT Try.prog 34 = some [.bool false, .int .u32 0, .bool false, .int .i64 0, .int .u8 0, .int .u8 0, .int .u8 0, .int .u8 0, .int .u8 0, .int .u8 0, .int .u8 0, .int .u8 0, .bool false, .int .i64 0]) ∧ (kdT Try.prog 60 34 = some [.bool, .int .u32, .bool, .int .i64, .int .u8, .int .u8, .int .u8, .int .u8, .int .u8, .int .u8, .int .u8, .int .u8, .bool, .int .i64]) ∧ (Try.prog.eqGuardType (Try.prog.depth) 34 = false) ∧ (sizesOk Try.prog 34 = true) ∧ (placeT Try.prog 34 0 = some (0, 12)) ∧ (placeT Try.prog 34 1 = some (12, 1)) ∧ (placeT Try.prog 34 2 = some (13, 1)) ∧ (strT Try.prog 34 = false) ∧ (fldT Try.prog 34 0 = some (0, 32)) ∧ (fldT Try.prog 34 1 = some (12, 4)) ∧ (fldT Try.prog 34 2 = some (13, 3)) ∧ ((Try.prog.underlying 34).isSome = true) := ⟨agg34, siz34, byt34, elem34, arr34, int34, zer34, kd34, eqg34, szs34, plc34_0, plc34_1, plc34_2, str34, fld34_0, fld34_1, fld34_2, und34⟩
theorem t35 : (aggT Try.prog 35 = some false) ∧ (sizT Try.prog 35 = some 1) ∧ (bytT Try.prog 35 = some 8) ∧ (elemT Try.prog 35 = none) ∧ (arrT Try.prog 35 = none) ∧ (intT Try.prog 35 = some .i64) ∧ (zerT Try.prog 35 = some [.int .i64 0]) ∧ (strT Try.prog 35 = false) ∧ ((Try.prog.underlying 35).isSome = true) := ⟨agg35, siz35, byt35, elem35, arr35, int35, zer35, str35, und35⟩
theorem t36 : (aggT Try.prog 36 = some true) ∧ (sizT Try.prog 36 = some 17) ∧ (bytT Try.prog 36 = some 48) ∧ (elemT Try.prog 36 = none) ∧ (arrT Try.prog 36 = none) ∧ (intT Try.prog 36 = none) ∧ (zerT Try.prog 36 = some [.bool false, .bool false, .bool false, .bool false, .int .i64 0, .bool false, .int .u32 0, .bool false, .int .i64 0, .int .u8 0, .int .u8 0, .int .u8 0, .int .u8 0, .int .u8 0, .int .u8 0, .int .u8 0, .int .u8 0]) ∧ (kdT Try.prog 60 36 = some [.bool, .bool, .bool, .bool, .int .i64, .bool, .int .u32, .bool, .int .i64, .int .u8, .int .u8, .int .u8, .int .u8, .int .u8, .int .u8, .int .u8, .int .u8]) ∧ (Try.prog.eqGuardType (Try.prog.depth) 36 = false) ∧ (sizesOk Try.prog 36 = true) ∧ (placeT Try.prog 36 0 = some (0, 1)) ∧ (placeT Try.prog 36 1 = some (1, 1)) ∧ (placeT Try.prog 36 2 = some (2, 1)) ∧ (placeT Try.prog 36 3 = some (3, 1)) ∧ (placeT Try.prog 36 4 = some (4, 1)) ∧ (placeT Try.prog 36 5 = some (5, 12)) ∧ (strT Try.prog 36 = false) ∧ (fldT Try.prog 36 0 = some (0, 4)) ∧ (fldT Try.prog 36 1 = some (1, 4)) ∧ (fldT Try.prog 36 2 = some (2, 4)) ∧ (fldT Try.prog 36 3 = some (3, 4)) ∧ (fldT Try.prog 36 4 = some (4, 35)) ∧ (fldT Try.prog 36 5 = some (5, 32)) ∧ ((Try.prog.underlying 36).isSome = true) := ⟨agg36, siz36, byt36, elem36, arr36, int36, zer36, kd36, eqg36, szs36, plc36_0, plc36_1, plc36_2, plc36_3, plc36_4, plc36_5, str36, fld36_0, fld36_1, fld36_2, fld36_3, fld36_4, fld36_5, und36⟩
theorem t37 : (aggT Try.prog 37 = some true) ∧ (sizT Try.prog 37 = some 17) ∧ (bytT Try.prog 37 = some 48) ∧ (elemT Try.prog 37 = none) ∧ (arrT Try.prog 37 = none) ∧ (intT Try.prog 37 = none) ∧ (zerT Try.prog 37 = some [.bool false, .bool false, .bool false, .bool false, .int .i64 0, .bool false, .int .u32 0, .bool false, .int .i64 0, .int .u8 0, .int .u8 0, .int .u8 0, .int .u8 0, .int .u8 0, .int .u8 0, .int .u8 0, .int .u8 0]) ∧ (kdT Try.prog 60 37 = some [.bool, .bool, .bool, .bool, .int .i64, .bool, .int .u32, .bool, .int .i64, .int .u8, .int .u8, .int .u8, .int .u8, .int .u8, .int .u8, .int .u8, .int .u8]) ∧ (Try.prog.eqGuardType (Try.prog.depth) 37 = false) ∧ (sizesOk Try.prog 37 = true) ∧ (placeT Try.prog 37 0 = some (0, 1)) ∧ (placeT Try.prog 37 1 = some (1, 1)) ∧ (placeT Try.prog 37 2 = some (2, 1)) ∧ (placeT Try.prog 37 3 = some (3, 1)) ∧ (placeT Try.prog 37 4 = some (4, 1)) ∧ (placeT Try.prog 37 5 = some (5, 12)) ∧ (strT Try.prog 37 = false) ∧ (fldT Try.prog 37 0 = some (0, 4)) ∧ (fldT Try.prog 37 1 = some (1, 4)) ∧ (fldT Try.prog 37 2 = some (2, 4)) ∧ (fldT Try.prog 37 3 = some (3, 4)) ∧ (fldT Try.prog 37 4 = some (4, 35)) ∧ (fldT Try.prog 37 5 = some (5, 32)) ∧ ((Try.prog.underlying 37).isSome = true) := ⟨agg37, siz37, byt37, elem37, arr37, int37, zer37, kd37, eqg37, szs37, plc37_0, plc37_1, plc37_2, plc37_3, plc37_4, plc37_5, str37, fld37_0, fld37_1, fld37_2, fld37_3, fld37_4, fld37_5, und37⟩
theorem t38 : (aggT Try.prog 38 = some false) ∧ (sizT Try.prog 38 = some 1) ∧ (bytT Try.prog 38 = some 8) ∧ (elemT Try.prog 38 = none) ∧ (arrT Try.prog 38 = none) ∧ (intT Try.prog 38 = some .i64) ∧ (zerT Try.prog 38 = some [.int .i64 0]) ∧ (strT Try.prog 38 = false) ∧ ((Try.prog.underlying 38).isSome = true) := ⟨agg38, siz38, byt38, elem38, arr38, int38, zer38, str38, und38⟩
theorem t39 : (aggT Try.prog 39 = some true) ∧ (sizT Try.prog 39 = some 34) ∧ (bytT Try.prog 39 = some 120) ∧ (elemT Try.prog 39 = none) ∧ (arrT Try.prog 39 = none) ∧ (intT Try.prog 39 = none) ∧ (zerT Try.prog 39 = some [.int .i64 0, .bool false, .int .u32 0, .bool false, .int .i64 0, .int .u8 0, .int .u8 0, .int .u8 0, .int .u8 0, .int .u8 0, .int .u8 0, .int .u8 0, .int .u8 0, .bool false, .int .i64 0, .bool false, .bool false, .bool false, .bool false, .int .i64 0, .bool false, .int .u32 0, .bool false, .int .i64 0, .int .u8 0, .int .u8 0, .int .u8 0, .int .u8 0, .int .u8 0, .int .u8 0, .int .u8 0, .int .u8 0, .int .i64 0, .int .i64 0]) ∧ (kdT Try.prog 60 39 = some [.int .i64, .bool, .int .u32, .bool, .int .i64, .int .u8, .int .u8, .int .u8, .int .u8, .int .u8, .int .u8, .int .u8, .int .u8, .bool, .int .i64, .bool, .bool, .bool, .bool, .int .i64, .bool, .int .u32, .bool, .int .i64, .int .u8, .int .u8, .int .u8, .int .u8, .int .u8, .int .u8, .int .u8, .int .u8, .int .i64, .int .i64]) ∧ (Try.prog.eqGuardType (Try.prog.depth) 39 = false) ∧ (sizesOk Try.prog 39 = true) ∧ (placeT Try.prog 39 0 = some (0, 1)) ∧ (placeT Try.prog 39 1 = some (1, 14)) ∧ (placeT Try.prog 39 2 = some (15, 17)) ∧ (placeT Try.prog 39 3 = some (32, 1)) ∧ (placeT Try.prog 39 4 = some (33, 1)) ∧ (strT Try.prog 39 = false) ∧ (fldT Try.prog 39 0 = some (0, 3)) ∧ (fldT Try.prog 39 1 = some (1, 34)) ∧ (fldT Try.prog 39 2 = some (15, 37)) ∧ (fldT Try.prog 39 3 = some (32, 38)) ∧ (fldT Try.prog 39 4 = some (33, 2)) ∧ ((Try.prog.underlying 39).isSome = true) := ⟨agg39, siz39, byt39, elem39, arr39, int39, zer39, kd39, eqg39, szs39, plc39_0, plc39_1, plc39_2, plc39_3, plc39_4, str39, fld39_0, fld39_1, fld39_2, fld39_3, fld39_4, und39⟩
theorem t40 : (aggT Try.prog 40 = some true) ∧ (sizT Try.prog 40 = some 34) ∧ (bytT Try.prog 40 = some 120) ∧ (elemT Try.prog 40 = none) ∧ (arrT Try.prog 40 = none) ∧ (intT Try.prog 40 = none) ∧ (zerT Try.prog 40 = some [.int .i64 0, .bool false, .int .u32 0, .bool false, .int .i64 0, .int .u8 0, .int .u8 0, .int .u8 0, .int .u8 0, .int .u8 0, .int .u8 0, .int .u8 0, .int .u8 0, .bool false, .int .i64 0, .bool false, .bool false, .bool false, .bool false, .int .i64 0, .bool false, .int .u32 0, .bool false, .int .i64 0, .int .u8 0, .int .u8 0, .int .u8 0, .int .u8 0, .int .u8 0, .int .u8 0, .int .u8 0, .int .u8 0, .int .i64 0, .int .i64 0]) ∧ (kdT Try.prog 60 40 = some [.int .i64, .bool, .int .u32, .bool, .int .i64, .int .u8, .int .u8, .int .u8, .int .u8, .int .u8, .int .u8, .int .u8, .int .u8, .bool, .int .i64, .bool, .bool, .bool, .bool, .int .i64, .bool, .int .u32, .bool, .int .i64, .int .u8, .int .u8, .int .u8, .int .u8, .int .u8, .int .u8, .int .u8, .int .u8, .int .i64, .int .i64]) ∧ (Try.prog.eqGuardType (Try.prog.depth) 40 = false) ∧ (sizesOk Try.prog 40 = true) ∧ (placeT Try.prog 40 0 = some (0, 1)) ∧ (placeT Try.prog 40 1 = some (1, 14)) ∧ (placeT Try.prog 40 2 = some (15, 17)) ∧ (placeT Try.prog 40 3 = some (32, 1)) ∧ (placeT Try.prog 40 4 = some (33, 1)) ∧ (strT Try.prog 40 = false) ∧ (fldT Try.prog 40 0 = some (0, 3)) ∧ (fldT Try.prog 40 1 = some (1, 34)) ∧ (fldT Try.prog 40 2 = some (15, 37)) ∧ (fldT Try.prog 40 3 = some (32, 38)) ∧ (fldT Try.prog 40 4 = some (33, 2)) ∧ ((Try.prog.underlying 40).isSome = true) := ⟨agg40, siz40, byt40, elem40, arr40, int40, zer40, kd40, eqg40, szs40, plc40_0, plc40_1, plc40_2, plc40_3, plc40_4, str40, fld40_0, fld40_1, fld40_2, fld40_3, fld40_4, und40⟩
theorem t41 : (aggT Try.prog 41 = some false) ∧ (sizT Try.prog 41 = some 1) ∧ (bytT Try.prog 41 = some 0) ∧ (elemT Try.prog 41 = none) ∧ (arrT Try.prog 41 = none) ∧ (intT Try.prog 41 = none) ∧ (strT Try.prog 41 = false) ∧ ((Try.prog.underlying 41).isSome = true) := ⟨agg41, siz41, byt41, elem41, arr41, int41, str41, und41⟩
theorem t42 : (aggT Try.prog 42 = some false) ∧ (sizT Try.prog 42 = some 1) ∧ (bytT Try.prog 42 = some 8) ∧ (elemT Try.prog 42 = none) ∧ (arrT Try.prog 42 = none) ∧ (intT Try.prog 42 = none) ∧ (zerT Try.prog 42 = some [.nilFunc]) ∧ (strT Try.prog 42 = false) ∧ ((Try.prog.underlying 42).isSome = true) := ⟨agg42, siz42, byt42, elem42, arr42, int42, zer42, str42, und42⟩
theorem t43 : (aggT Try.prog 43 = some false) ∧ (sizT Try.prog 43 = some 1) ∧ (bytT Try.prog 43 = some 8) ∧ (elemT Try.prog 43 = none) ∧ (arrT Try.prog 43 = none) ∧ (intT Try.prog 43 = none) ∧ (zerT Try.prog 43 = some [.nilFunc]) ∧ (strT Try.prog 43 = false) ∧ ((Try.prog.underlying 43).isSome = true) := ⟨agg43, siz43, byt43, elem43, arr43, int43, zer43, str43, und43⟩
theorem t44 : (aggT Try.prog 44 = some false) ∧ (sizT Try.prog 44 = some 1) ∧ (bytT Try.prog 44 = some 8) ∧ (elemT Try.prog 44 = none) ∧ (arrT Try.prog 44 = none) ∧ (intT Try.prog 44 = none) ∧ (zerT Try.prog 44 = some [.nilFunc]) ∧ (strT Try.prog 44 = false) ∧ ((Try.prog.underlying 44).isSome = true) := ⟨agg44, siz44, byt44, elem44, arr44, int44, zer44, str44, und44⟩
theorem t45 : (aggT Try.prog 45 = some false) ∧ (sizT Try.prog 45 = some 1) ∧ (bytT Try.prog 45 = some 24) ∧ (elemT Try.prog 45 = some 51) ∧ (arrT Try.prog 45 = none) ∧ (intT Try.prog 45 = none) ∧ (zerT Try.prog 45 = some [.slice none 0 0]) ∧ (strT Try.prog 45 = false) ∧ ((Try.prog.underlying 45).isSome = true) := ⟨agg45, siz45, byt45, elem45, arr45, int45, zer45, str45, und45⟩
theorem t46 : (aggT Try.prog 46 = some false) ∧ (sizT Try.prog 46 = some 1) ∧ (bytT Try.prog 46 = some 8) ∧ (elemT Try.prog 46 = none) ∧ (arrT Try.prog 46 = none) ∧ (intT Try.prog 46 = none) ∧ (zerT Try.prog 46 = some [.nilFunc]) ∧ (strT Try.prog 46 = false) ∧ ((Try.prog.underlying 46).isSome = true) := ⟨agg46, siz46, byt46, elem46, arr46, int46, zer46, str46, und46⟩
theorem t47 : (aggT Try.prog 47 = some false) ∧ (sizT Try.prog 47 = some 1) ∧ (bytT Try.prog 47 = some 24) ∧ (elemT Try.prog 47 = some 3) ∧ (arrT Try.prog 47 = none) ∧ (intT Try.prog 47 = none) ∧ (zerT Try.prog 47 = some [.slice none 0 0]) ∧ (strT Try.prog 47 = false) ∧ ((Try.prog.underlying 47).isSome = true) := ⟨agg47, siz47, byt47, elem47, arr47, int47, zer47, str47, und47⟩
theorem t48 : (aggT Try.prog 48 = some false) ∧ (sizT Try.prog 48 = some 1) ∧ (bytT Try.prog 48 = some 8) ∧ (elemT Try.prog 48 = none) ∧ (arrT Try.prog 48 = none) ∧ (intT Try.prog 48 = none) ∧ (zerT Try.prog 48 = some [.nilFunc]) ∧ (strT Try.prog 48 = false) ∧ ((Try.prog.underlying 48).isSome = true) := ⟨agg48, siz48, byt48, elem48, arr48, int48, zer48, str48, und48⟩
theorem t49 : (aggT Try.prog 49 = some false) ∧ (sizT Try.prog 49 = some 1) ∧ (bytT Try.prog 49 = some 8) ∧ (elemT Try.prog 49 = none) ∧ (arrT Try.prog 49 = none) ∧ (intT Try.prog 49 = some .i64) ∧ (zerT Try.prog 49 = some [.int .i64 0]) ∧ (strT Try.prog 49 = false) ∧ ((Try.prog.underlying 49).isSome = true) := ⟨agg49, siz49, byt49, elem49, arr49, int49, zer49, str49, und49⟩
theorem t50 : (aggT Try.prog 50 = some true) ∧ (sizT Try.prog 50 = some 3) ∧ (bytT Try.prog 50 = some 24) ∧ (elemT Try.prog 50 = none) ∧ (arrT Try.prog 50 = none) ∧ (intT Try.prog 50 = none) ∧ (zerT Try.prog 50 = some [.int .i64 0, .int .i64 0, .int .i64 0]) ∧ (kdT Try.prog 60 50 = some [.int .i64, .int .i64, .int .i64]) ∧ (Try.prog.eqGuardType (Try.prog.depth) 50 = false) ∧ (sizesOk Try.prog 50 = true) ∧ (placeT Try.prog 50 0 = some (0, 1)) ∧ (placeT Try.prog 50 1 = some (1, 1)) ∧ (placeT Try.prog 50 2 = some (2, 1)) ∧ (strT Try.prog 50 = false) ∧ (fldT Try.prog 50 0 = some (0, 3)) ∧ (fldT Try.prog 50 1 = some (1, 49)) ∧ (fldT Try.prog 50 2 = some (2, 2)) ∧ ((Try.prog.underlying 50).isSome = true) := ⟨agg50, siz50, byt50, elem50, arr50, int50, zer50, kd50, eqg50, szs50, plc50_0, plc50_1, plc50_2, str50, fld50_0, fld50_1, fld50_2, und50⟩
theorem t51 : (aggT Try.prog 51 = some true) ∧ (sizT Try.prog 51 = some 3) ∧ (bytT Try.prog 51 = some 24) ∧ (elemT Try.prog 51 = none) ∧ (arrT Try.prog 51 = none) ∧ (intT Try.prog 51 = none) ∧ (zerT Try.prog 51 = some [.int .i64 0, .int .i64 0, .int .i64 0]) ∧ (kdT Try.prog 60 51 = some [.int .i64, .int .i64, .int .i64]) ∧ (Try.prog.eqGuardType (Try.prog.depth) 51 = false) ∧ (sizesOk Try.prog 51 = true) ∧ (placeT Try.prog 51 0 = some (0, 1)) ∧ (placeT Try.prog 51 1 = some (1, 1)) ∧ (placeT Try.prog 51 2 = some (2, 1)) ∧ (strT Try.prog 51 = false) ∧ (fldT Try.prog 51 0 = some (0, 3)) ∧ (fldT Try.prog 51 1 = some (1, 49)) ∧ (fldT Try.prog 51 2 = some (2, 2)) ∧ ((Try.prog.underlying 51).isSome = true) := ⟨agg51, siz51, byt51, elem51, arr51, int51, zer51, kd51, eqg51, szs51, plc51_0, plc51_1, plc51_2, str51, fld51_0, fld51_1, fld51_2, und51⟩
theorem t52 : (aggT Try.prog 52 = some false) ∧ (sizT Try.prog 52 = some 1) ∧ (bytT Try.prog 52 = some 8) ∧ (elemT Try.prog 52 = none) ∧ (arrT Try.prog 52 = none) ∧ (intT Try.prog 52 = none) ∧ (zerT Try.prog 52 = some [.nilFunc]) ∧ (strT Try.prog 52 = false) ∧ ((Try.prog.underlying 52).isSome = true) := ⟨agg52, siz52, byt52, elem52, arr52, int52, zer52, str52, und52⟩
theorem t53 : (aggT Try.prog 53 = some false) ∧ (sizT Try.prog 53 = some 1) ∧ (bytT Try.prog 53 = some 8) ∧ (elemT Try.prog 53 = none) ∧ (arrT Try.prog 53 = none) ∧ (intT Try.prog 53 = none) ∧ (zerT Try.prog 53 = some [.nilFunc]) ∧ (strT Try.prog 53 = false) ∧ ((Try.prog.underlying 53).isSome = true) := ⟨agg53, siz53, byt53, elem53, arr53, int53, zer53, str53, und53⟩
theorem t54 : (aggT Try.prog 54 = some false) ∧ (sizT Try.prog 54 = some 1) ∧ (bytT Try.prog 54 = some 8) ∧ (elemT Try.prog 54 = none) ∧ (arrT Try.prog 54 = none) ∧ (intT Try.prog 54 = none) ∧ (zerT Try.prog 54 = some [.nilFunc]) ∧ (strT Try.prog 54 = false) ∧ ((Try.prog.underlying 54).isSome = true) := ⟨agg54, siz54, byt54, elem54, arr54, int54, zer54, str54, und54⟩
theorem t55 : (aggT Try.prog 55 = some false) ∧ (sizT Try.prog 55 = some 1) ∧ (bytT Try.prog 55 = some 0) ∧ (elemT Try.prog 55 = none) ∧ (arrT Try.prog 55 = none) ∧ (intT Try.prog 55 = none) ∧ (strT Try.prog 55 = false) ∧ ((Try.prog.underlying 55).isSome = true) := ⟨agg55, siz55, byt55, elem55, arr55, int55, str55, und55⟩
theorem t56 : (aggT Try.prog 56 = some false) ∧ (sizT Try.prog 56 = some 1) ∧ (bytT Try.prog 56 = some 8) ∧ (elemT Try.prog 56 = none) ∧ (arrT Try.prog 56 = none) ∧ (intT Try.prog 56 = none) ∧ (zerT Try.prog 56 = some [.nilFunc]) ∧ (strT Try.prog 56 = false) ∧ ((Try.prog.underlying 56).isSome = true) := ⟨agg56, siz56, byt56, elem56, arr56, int56, zer56, str56, und56⟩
theorem t57 : (aggT Try.prog 57 = some false) ∧ (sizT Try.prog 57 = some 1) ∧ (bytT Try.prog 57 = some 8) ∧ (elemT Try.prog 57 = none) ∧ (arrT Try.prog 57 = none) ∧ (intT Try.prog 57 = none) ∧ (zerT Try.prog 57 = some [.nilFunc]) ∧ (strT Try.prog 57 = false) ∧ ((Try.prog.underlying 57).isSome = true) := ⟨agg57, siz57, byt57, elem57, arr57, int57, zer57, str57, und57⟩
theorem t58 : (aggT Try.prog 58 = some true) ∧ (sizT Try.prog 58 = some 2) ∧ (bytT Try.prog 58 = some 16) ∧ (elemT Try.prog 58 = none) ∧ (arrT Try.prog 58 = some (2, 3)) ∧ (intT Try.prog 58 = none) ∧ (zerT Try.prog 58 = some [.int .i64 0, .int .i64 0]) ∧ (kdT Try.prog 60 58 = some [.int .i64, .int .i64]) ∧ (Try.prog.eqGuardType (Try.prog.depth) 58 = false) ∧ (sizesOk Try.prog 58 = true) ∧ (placeT Try.prog 58 0 = some (0, 1)) ∧ (placeT Try.prog 58 1 = some (1, 1)) ∧ (placeT Try.prog 58 2 = some (2, 1)) ∧ (placeT Try.prog 58 3 = some (3, 1)) ∧ (placeT Try.prog 58 4 = some (4, 1)) ∧ (placeT Try.prog 58 5 = some (5, 1)) ∧ (placeT Try.prog 58 6 = some (6, 1)) ∧ (placeT Try.prog 58 7 = some (7, 1)) ∧ (placeT Try.prog 58 8 = some (8, 1)) ∧ (placeT Try.prog 58 9 = some (9, 1)) ∧ (placeT Try.prog 58 10 = some (10, 1)) ∧ (placeT Try.prog 58 11 = some (11, 1)) ∧ (strT Try.prog 58 = false) ∧ ((Try.prog.underlying 58).isSome = true) := ⟨agg58, siz58, byt58, elem58, arr58, int58, zer58, kd58, eqg58, szs58, plc58_0, plc58_1, plc58_2, plc58_3, plc58_4, plc58_5, plc58_6, plc58_7, plc58_8, plc58_9, plc58_10, plc58_11, str58, und58⟩
theorem t59 : (aggT Try.prog 59 = some false) ∧ (sizT Try.prog 59 = some 1) ∧ (bytT Try.prog 59 = some 24) ∧ (elemT Try.prog 59 = some 113) ∧ (arrT Try.prog 59 = none) ∧ (intT Try.prog 59 = none) ∧ (zerT Try.prog 59 = some [.slice none 0 0]) ∧ (strT Try.prog 59 = false) ∧ ((Try.prog.underlying 59).isSome = true) := ⟨agg59, siz59, byt59, elem59, arr59, int59, zer59, str59, und59⟩
theorem t60 : (aggT Try.prog 60 = some false) ∧ (sizT Try.prog 60 = some 1) ∧ (bytT Try.prog 60 = some 8) ∧ (elemT Try.prog 60 = none) ∧ (arrT Try.prog 60 = none) ∧ (intT Try.prog 60 = none) ∧ (zerT Try.prog 60 = some [.pointer none]) ∧ (strT Try.prog 60 = false) ∧ ((Try.prog.underlying 60).isSome = true) := ⟨agg60, siz60, byt60, elem60, arr60, int60, zer60, str60, und60⟩
theorem t61 : (aggT Try.prog 61 = some false) ∧ (sizT Try.prog 61 = some 1) ∧ (bytT Try.prog 61 = some 0) ∧ (elemT Try.prog 61 = none) ∧ (arrT Try.prog 61 = none) ∧ (intT Try.prog 61 = none) ∧ (strT Try.prog 61 = false) ∧ ((Try.prog.underlying 61).isSome = true) := ⟨agg61, siz61, byt61, elem61, arr61, int61, str61, und61⟩
theorem t62 : (aggT Try.prog 62 = some false) ∧ (sizT Try.prog 62 = some 1) ∧ (bytT Try.prog 62 = some 8) ∧ (elemT Try.prog 62 = none) ∧ (arrT Try.prog 62 = none) ∧ (intT Try.prog 62 = none) ∧ (zerT Try.prog 62 = some [.nilFunc]) ∧ (strT Try.prog 62 = false) ∧ ((Try.prog.underlying 62).isSome = true) := ⟨agg62, siz62, byt62, elem62, arr62, int62, zer62, str62, und62⟩
theorem t63 : (aggT Try.prog 63 = some true) ∧ (sizT Try.prog 63 = some 2) ∧ (bytT Try.prog 63 = some 16) ∧ (elemT Try.prog 63 = none) ∧ (arrT Try.prog 63 = none) ∧ (intT Try.prog 63 = none) ∧ (zerT Try.prog 63 = some [.pointer none, .pointer none]) ∧ (Try.prog.eqGuardType (Try.prog.depth) 63 = false) ∧ (sizesOk Try.prog 63 = true) ∧ (placeT Try.prog 63 0 = some (0, 1)) ∧ (placeT Try.prog 63 1 = some (1, 1)) ∧ (strT Try.prog 63 = false) ∧ (fldT Try.prog 63 0 = some (0, 23)) ∧ (fldT Try.prog 63 1 = some (1, 60)) ∧ ((Try.prog.underlying 63).isSome = true) := ⟨agg63, siz63, byt63, elem63, arr63, int63, zer63, eqg63, szs63, plc63_0, plc63_1, str63, fld63_0, fld63_1, und63⟩
theorem t64 : (aggT Try.prog 64 = some true) ∧ (sizT Try.prog 64 = some 2) ∧ (bytT Try.prog 64 = some 16) ∧ (elemT Try.prog 64 = none) ∧ (arrT Try.prog 64 = none) ∧ (intT Try.prog 64 = none) ∧ (zerT Try.prog 64 = some [.pointer none, .pointer none]) ∧ (Try.prog.eqGuardType (Try.prog.depth) 64 = false) ∧ (sizesOk Try.prog 64 = true) ∧ (placeT Try.prog 64 0 = some (0, 1)) ∧ (placeT Try.prog 64 1 = some (1, 1)) ∧ (strT Try.prog 64 = false) ∧ (fldT Try.prog 64 0 = some (0, 23)) ∧ (fldT Try.prog 64 1 = some (1, 60)) ∧ ((Try.prog.underlying 64).isSome = true) := ⟨agg64, siz64, byt64, elem64, arr64, int64, zer64, eqg64, szs64, plc64_0, plc64_1, str64, fld64_0, fld64_1, und64⟩
theorem t65 : (aggT Try.prog 65 = some false) ∧ (sizT Try.prog 65 = some 1) ∧ (bytT Try.prog 65 = some 8) ∧ (elemT Try.prog 65 = none) ∧ (arrT Try.prog 65 = none) ∧ (intT Try.prog 65 = none) ∧ (zerT Try.prog 65 = some [.nilFunc]) ∧ (strT Try.prog 65 = false) ∧ ((Try.prog.underlying 65).isSome = true) := ⟨agg65, siz65, byt65, elem65, arr65, int65, zer65, str65, und65⟩
theorem t66 : (aggT Try.prog 66 = some false) ∧ (sizT Try.prog 66 = some 1) ∧ (bytT Try.prog 66 = some 8) ∧ (elemT Try.prog 66 = none) ∧ (arrT Try.prog 66 = none) ∧ (intT Try.prog 66 = none) ∧ (zerT Try.prog 66 = some [.nilFunc]) ∧ (strT Try.prog 66 = false) ∧ ((Try.prog.underlying 66).isSome = true) := ⟨agg66, siz66, byt66, elem66, arr66, int66, zer66, str66, und66⟩
theorem t67 : (aggT Try.prog 67 = some false) ∧ (sizT Try.prog 67 = some 1) ∧ (bytT Try.prog 67 = some 8) ∧ (elemT Try.prog 67 = none) ∧ (arrT Try.prog 67 = none) ∧ (intT Try.prog 67 = none) ∧ (zerT Try.prog 67 = some [.nilFunc]) ∧ (strT Try.prog 67 = false) ∧ ((Try.prog.underlying 67).isSome = true) := ⟨agg67, siz67, byt67, elem67, arr67, int67, zer67, str67, und67⟩
theorem t68 : (aggT Try.prog 68 = some false) ∧ (sizT Try.prog 68 = some 1) ∧ (bytT Try.prog 68 = some 8) ∧ (elemT Try.prog 68 = none) ∧ (arrT Try.prog 68 = none) ∧ (intT Try.prog 68 = none) ∧ (zerT Try.prog 68 = some [.pointer none]) ∧ (strT Try.prog 68 = false) ∧ ((Try.prog.underlying 68).isSome = true) := ⟨agg68, siz68, byt68, elem68, arr68, int68, zer68, str68, und68⟩
theorem t69 : (aggT Try.prog 69 = some false) ∧ (sizT Try.prog 69 = some 1) ∧ (bytT Try.prog 69 = some 0) ∧ (elemT Try.prog 69 = none) ∧ (arrT Try.prog 69 = none) ∧ (intT Try.prog 69 = none) ∧ (strT Try.prog 69 = false) ∧ ((Try.prog.underlying 69).isSome = true) := ⟨agg69, siz69, byt69, elem69, arr69, int69, str69, und69⟩
theorem t70 : (aggT Try.prog 70 = some false) ∧ (sizT Try.prog 70 = some 1) ∧ (bytT Try.prog 70 = some 8) ∧ (elemT Try.prog 70 = none) ∧ (arrT Try.prog 70 = none) ∧ (intT Try.prog 70 = none) ∧ (zerT Try.prog 70 = some [.nilFunc]) ∧ (strT Try.prog 70 = false) ∧ ((Try.prog.underlying 70).isSome = true) := ⟨agg70, siz70, byt70, elem70, arr70, int70, zer70, str70, und70⟩
theorem t71 : (aggT Try.prog 71 = some false) ∧ (sizT Try.prog 71 = some 1) ∧ (bytT Try.prog 71 = some 8) ∧ (elemT Try.prog 71 = none) ∧ (arrT Try.prog 71 = none) ∧ (intT Try.prog 71 = none) ∧ (zerT Try.prog 71 = some [.pointer none]) ∧ (strT Try.prog 71 = false) ∧ ((Try.prog.underlying 71).isSome = true) := ⟨agg71, siz71, byt71, elem71, arr71, int71, zer71, str71, und71⟩
theorem t72 : (aggT Try.prog 72 = some false) ∧ (sizT Try.prog 72 = some 1) ∧ (bytT Try.prog 72 = some 0) ∧ (elemT Try.prog 72 = none) ∧ (arrT Try.prog 72 = none) ∧ (intT Try.prog 72 = none) ∧ (strT Try.prog 72 = false) ∧ ((Try.prog.underlying 72).isSome = true) := ⟨agg72, siz72, byt72, elem72, arr72, int72, str72, und72⟩
theorem t73 : (aggT Try.prog 73 = some false) ∧ (sizT Try.prog 73 = some 1) ∧ (bytT Try.prog 73 = some 8) ∧ (elemT Try.prog 73 = none) ∧ (arrT Try.prog 73 = none) ∧ (intT Try.prog 73 = none) ∧ (zerT Try.prog 73 = some [.nilFunc]) ∧ (strT Try.prog 73 = false) ∧ ((Try.prog.underlying 73).isSome = true) := ⟨agg73, siz73, byt73, elem73, arr73, int73, zer73, str73, und73⟩
theorem t74 : (aggT Try.prog 74 = some false) ∧ (sizT Try.prog 74 = some 1) ∧ (bytT Try.prog 74 = some 8) ∧ (elemT Try.prog 74 = none) ∧ (arrT Try.prog 74 = none) ∧ (intT Try.prog 74 = none) ∧ (zerT Try.prog 74 = some [.pointer none]) ∧ (strT Try.prog 74 = false) ∧ ((Try.prog.underlying 74).isSome = true) := ⟨agg74, siz74, byt74, elem74, arr74, int74, zer74, str74, und74⟩
theorem t75 : (aggT Try.prog 75 = some true) ∧ (sizT Try.prog 75 = some 7) ∧ (bytT Try.prog 75 = some 72) ∧ (elemT Try.prog 75 = none) ∧ (arrT Try.prog 75 = none) ∧ (intT Try.prog 75 = none) ∧ (zerT Try.prog 75 = some [.pointer none, .pointer none, .pointer none, .int .i64 0, .int .i64 0, .int .i64 0, .slice none 0 0]) ∧ (Try.prog.eqGuardType (Try.prog.depth) 75 = false) ∧ (sizesOk Try.prog 75 = true) ∧ (placeT Try.prog 75 0 = some (0, 1)) ∧ (placeT Try.prog 75 1 = some (1, 1)) ∧ (placeT Try.prog 75 2 = some (2, 1)) ∧ (placeT Try.prog 75 3 = some (3, 1)) ∧ (placeT Try.prog 75 4 = some (4, 1)) ∧ (placeT Try.prog 75 5 = some (5, 1)) ∧ (placeT Try.prog 75 6 = some (6, 1)) ∧ (strT Try.prog 75 = false) ∧ (fldT Try.prog 75 0 = some (0, 68)) ∧ (fldT Try.prog 75 1 = some (1, 71)) ∧ (fldT Try.prog 75 2 = some (2, 74)) ∧ (fldT Try.prog 75 3 = some (3, 38)) ∧ (fldT Try.prog 75 4 = some (4, 2)) ∧ (fldT Try.prog 75 5 = some (5, 2)) ∧ (fldT Try.prog 75 6 = some (6, 45)) ∧ ((Try.prog.underlying 75).isSome = true) := ⟨agg75, siz75, byt75, elem75, arr75, int75, zer75, eqg75, szs75, plc75_0, plc75_1, plc75_2, plc75_3, plc75_4, plc75_5, plc75_6, str75, fld75_0, fld75_1, fld75_2, fld75_3, fld75_4, fld75_5, fld75_6, und75⟩
theorem t76 : (aggT Try.prog 76 = some true) ∧ (sizT Try.prog 76 = some 7) ∧ (bytT Try.prog 76 = some 72) ∧ (elemT Try.prog 76 = none) ∧ (arrT Try.prog 76 = none) ∧ (intT Try.prog 76 = none) ∧ (zerT Try.prog 76 = some [.pointer none, .pointer none, .pointer none, .int .i64 0, .int .i64 0, .int .i64 0, .slice none 0 0]) ∧ (Try.prog.eqGuardType (Try.prog.depth) 76 = false) ∧ (sizesOk Try.prog 76 = true) ∧ (placeT Try.prog 76 0 = some (0, 1)) ∧ (placeT Try.prog 76 1 = some (1, 1)) ∧ (placeT Try.prog 76 2 = some (2, 1)) ∧ (placeT Try.prog 76 3 = some (3, 1)) ∧ (placeT Try.prog 76 4 = some (4, 1)) ∧ (placeT Try.prog 76 5 = some (5, 1)) ∧ (placeT Try.prog 76 6 = some (6, 1)) ∧ (strT Try.prog 76 = false) ∧ (fldT Try.prog 76 0 = some (0, 68)) ∧ (fldT Try.prog 76 1 = some (1, 71)) ∧ (fldT Try.prog 76 2 = some (2, 74)) ∧ (fldT Try.prog 76 3 = some (3, 38)) ∧ (fldT Try.prog 76 4 = some (4, 2)) ∧ (fldT Try.prog 76 5 = some (5, 2)) ∧ (fldT Try.prog 76 6 = some (6, 45)) ∧ ((Try.prog.underlying 76).isSome = true) := ⟨agg76, siz76, byt76, elem76, arr76, int76, zer76, eqg76, szs76, plc76_0, plc76_1, plc76_2, plc76_3, plc76_4, plc76_5, plc76_6, str76, fld76_0, fld76_1, fld76_2, fld76_3, fld76_4, fld76_5, fld76_6, und76⟩
theorem t77 : (aggT Try.prog 77 = some false) ∧ (sizT Try.prog 77 = some 1) ∧ (bytT Try.prog 77 = some 8) ∧ (elemT Try.prog 77 = none) ∧ (arrT Try.prog 77 = none) ∧ (intT Try.prog 77 = none) ∧ (zerT Try.prog 77 = some [.nilFunc]) ∧ (strT Try.prog 77 = false) ∧ ((Try.prog.underlying 77).isSome = true) := ⟨agg77, siz77, byt77, elem77, arr77, int77, zer77, str77, und77⟩
theorem t78 : (aggT Try.prog 78 = some true) ∧ (sizT Try.prog 78 = some 2) ∧ (bytT Try.prog 78 = some 16) ∧ (elemT Try.prog 78 = none) ∧ (arrT Try.prog 78 = none) ∧ (intT Try.prog 78 = none) ∧ (zerT Try.prog 78 = some [.int .i64 0, .bool false]) ∧ (kdT Try.prog 60 78 = some [.int .i64, .bool]) ∧ (Try.prog.eqGuardType (Try.prog.depth) 78 = false) ∧ (sizesOk Try.prog 78 = true) ∧ (placeT Try.prog 78 0 = some (0, 1)) ∧ (placeT Try.prog 78 1 = some (1, 1)) ∧ (strT Try.prog 78 = false) ∧ (fldT Try.prog 78 0 = some (0, 3)) ∧ (fldT Try.prog 78 1 = some (1, 4)) ∧ ((Try.prog.underlying 78).isSome = true) := ⟨agg78, siz78, byt78, elem78, arr78, int78, zer78, kd78, eqg78, szs78, plc78_0, plc78_1, str78, fld78_0, fld78_1, und78⟩
theorem t79 : (aggT Try.prog 79 = some true) ∧ (sizT Try.prog 79 = some 2) ∧ (bytT Try.prog 79 = some 16) ∧ (elemT Try.prog 79 = none) ∧ (arrT Try.prog 79 = none) ∧ (intT Try.prog 79 = none) ∧ (zerT Try.prog 79 = some [.int .i64 0, .bool false]) ∧ (kdT Try.prog 60 79 = some [.int .i64, .bool]) ∧ (Try.prog.eqGuardType (Try.prog.depth) 79 = false) ∧ (sizesOk Try.prog 79 = true) ∧ (placeT Try.prog 79 0 = some (0, 1)) ∧ (placeT Try.prog 79 1 = some (1, 1)) ∧ (strT Try.prog 79 = false) ∧ (fldT Try.prog 79 0 = some (0, 3)) ∧ (fldT Try.prog 79 1 = some (1, 4)) ∧ ((Try.prog.underlying 79).isSome = true) := ⟨agg79, siz79, byt79, elem79, arr79, int79, zer79, kd79, eqg79, szs79, plc79_0, plc79_1, str79, fld79_0, fld79_1, und79⟩
theorem t80 : (aggT Try.prog 80 = some false) ∧ (sizT Try.prog 80 = some 1) ∧ (bytT Try.prog 80 = some 8) ∧ (elemT Try.prog 80 = none) ∧ (arrT Try.prog 80 = none) ∧ (intT Try.prog 80 = none) ∧ (zerT Try.prog 80 = some [.nilFunc]) ∧ (strT Try.prog 80 = false) ∧ ((Try.prog.underlying 80).isSome = true) := ⟨agg80, siz80, byt80, elem80, arr80, int80, zer80, str80, und80⟩
theorem t81 : (aggT Try.prog 81 = some false) ∧ (sizT Try.prog 81 = some 1) ∧ (bytT Try.prog 81 = some 8) ∧ (elemT Try.prog 81 = none) ∧ (arrT Try.prog 81 = none) ∧ (intT Try.prog 81 = none) ∧ (zerT Try.prog 81 = some [.nilFunc]) ∧ (strT Try.prog 81 = false) ∧ ((Try.prog.underlying 81).isSome = true) := ⟨agg81, siz81, byt81, elem81, arr81, int81, zer81, str81, und81⟩
theorem t82 : (aggT Try.prog 82 = some false) ∧ (sizT Try.prog 82 = some 1) ∧ (bytT Try.prog 82 = some 8) ∧ (elemT Try.prog 82 = none) ∧ (arrT Try.prog 82 = none) ∧ (intT Try.prog 82 = none) ∧ (zerT Try.prog 82 = some [.nilFunc]) ∧ (strT Try.prog 82 = false) ∧ ((Try.prog.underlying 82).isSome = true) := ⟨agg82, siz82, byt82, elem82, arr82, int82, zer82, str82, und82⟩
theorem t83 : (aggT Try.prog 83 = some false) ∧ (sizT Try.prog 83 = some 1) ∧ (bytT Try.prog 83 = some 8) ∧ (elemT Try.prog 83 = none) ∧ (arrT Try.prog 83 = none) ∧ (intT Try.prog 83 = none) ∧ (zerT Try.prog 83 = some [.nilFunc]) ∧ (strT Try.prog 83 = false) ∧ ((Try.prog.underlying 83).isSome = true) := ⟨agg83, siz83, byt83, elem83, arr83, int83, zer83, str83, und83⟩
theorem t84 : (aggT Try.prog 84 = some false) ∧ (sizT Try.prog 84 = some 1) ∧ (bytT Try.prog 84 = some 8) ∧ (elemT Try.prog 84 = none) ∧ (arrT Try.prog 84 = none) ∧ (intT Try.prog 84 = none) ∧ (zerT Try.prog 84 = some [.nilFunc]) ∧ (strT Try.prog 84 = false) ∧ ((Try.prog.underlying 84).isSome = true) := ⟨agg84, siz84, byt84, elem84, arr84, int84, zer84, str84, und84⟩
theorem t85 : (aggT Try.prog 85 = some false) ∧ (sizT Try.prog 85 = some 1) ∧ (bytT Try.prog 85 = some 8) ∧ (elemT Try.prog 85 = none) ∧ (arrT Try.prog 85 = none) ∧ (intT Try.prog 85 = none) ∧ (zerT Try.prog 85 = some [.nilFunc]) ∧ (strT Try.prog 85 = false) ∧ ((Try.prog.underlying 85).isSome = true) := ⟨agg85, siz85, byt85, elem85, arr85, int85, zer85, str85, und85⟩
theorem t86 : (aggT Try.prog 86 = some true) ∧ (sizT Try.prog 86 = some 14) ∧ (bytT Try.prog 86 = some 48) ∧ (elemT Try.prog 86 = none) ∧ (arrT Try.prog 86 = none) ∧ (intT Try.prog 86 = none) ∧ (zerT Try.prog 86 = some [.bool false, .int .u32 0, .bool false, .int .i64 0, .int .u8 0, .int .u8 0, .int .u8 0, .int .u8 0, .int .u8 0, .int .u8 0, .int .u8 0, .int .u8 0, .int .i64 0, .int .i64 0]) ∧ (kdT Try.prog 60 86 = some [.bool, .int .u32, .bool, .int .i64, .int .u8, .int .u8, .int .u8, .int .u8, .int .u8, .int .u8, .int .u8, .int .u8, .int .i64, .int .i64]) ∧ (Try.prog.eqGuardType (Try.prog.depth) 86 = false) ∧ (sizesOk Try.prog 86 = true) ∧ (placeT Try.prog 86 0 = some (0, 12)) ∧ (placeT Try.prog 86 1 = some (12, 1)) ∧ (placeT Try.prog 86 2 = some (13, 1)) ∧ (strT Try.prog 86 = false) ∧ (fldT Try.prog 86 0 = some (0, 32)) ∧ (fldT Try.prog 86 1 = some (12, 2)) ∧ (fldT Try.prog 86 2 = some (13, 2)) ∧ ((Try.prog.underlying 86).isSome = true) := ⟨agg86, siz86, byt86, elem86, arr86, int86, zer86, kd86, eqg86, szs86, plc86_0, plc86_1, plc86_2, str86, fld86_0, fld86_1, fld86_2, und86⟩
theorem t87 : (aggT Try.prog 87 = some true) ∧ (sizT Try.prog 87 = some 14) ∧ (bytT Try.prog 87 = some 48) ∧ (elemT Try.prog 87 = none) ∧ (arrT Try.prog 87 = none) ∧ (intT Try.prog 87 = none) ∧ (zerT Try.prog 87 = some [.bool false, .int .u32 0, .bool false, .int .i64 0, .int .u8 0, .int .u8 0, .int .u8 0, .int .u8 0, .int .u8 0, .int .u8 0, .int .u8 0, .int .u8 0, .int .i64 0, .int .i64 0]) ∧ (kdT Try.prog 60 87 = some [.bool, .int .u32, .bool, .int .i64, .int .u8, .int .u8, .int .u8, .int .u8, .int .u8, .int .u8, .int .u8, .int .u8, .int .i64, .int .i64]) ∧ (Try.prog.eqGuardType (Try.prog.depth) 87 = false) ∧ (sizesOk Try.prog 87 = true) ∧ (placeT Try.prog 87 0 = some (0, 12)) ∧ (placeT Try.prog 87 1 = some (12, 1)) ∧ (placeT Try.prog 87 2 = some (13, 1)) ∧ (strT Try.prog 87 = false) ∧ (fldT Try.prog 87 0 = some (0, 32)) ∧ (fldT Try.prog 87 1 = some (12, 2)) ∧ (fldT Try.prog 87 2 = some (13, 2)) ∧ ((Try.prog.underlying 87).isSome = true) := ⟨agg87, siz87, byt87, elem87, arr87, int87, zer87, kd87, eqg87, szs87, plc87_0, plc87_1, plc87_2, str87, fld87_0, fld87_1, fld87_2, und87⟩
theorem t88 : (aggT Try.prog 88 = some false) ∧ (sizT Try.prog 88 = some 1) ∧ (bytT Try.prog 88 = some 0) ∧ (elemT Try.prog 88 = none) ∧ (arrT Try.prog 88 = none) ∧ (intT Try.prog 88 = none) ∧ (strT Try.prog 88 = false) ∧ ((Try.prog.underlying 88).isSome = true) := ⟨agg88, siz88, byt88, elem88, arr88, int88, str88, und88⟩
theorem t89 : (aggT Try.prog 89 = some false) ∧ (sizT Try.prog 89 = some 1) ∧ (bytT Try.prog 89 = some 8) ∧ (elemT Try.prog 89 = none) ∧ (arrT Try.prog 89 = none) ∧ (intT Try.prog 89 = none) ∧ (zerT Try.prog 89 = some [.nilFunc]) ∧ (strT Try.prog 89 = false) ∧ ((Try.prog.underlying 89).isSome = true) := ⟨agg89, siz89, byt89, elem89, arr89, int89, zer89, str89, und89⟩
theorem t90 : (aggT Try.prog 90 = some false) ∧ (sizT Try.prog 90 = some 1) ∧ (bytT Try.prog 90 = some 0) ∧ (elemT Try.prog 90 = none) ∧ (arrT Try.prog 90 = none) ∧ (intT Try.prog 90 = none) ∧ (strT Try.prog 90 = false) ∧ ((Try.prog.underlying 90).isSome = true) := ⟨agg90, siz90, byt90, elem90, arr90, int90, str90, und90⟩
theorem t91 : (aggT Try.prog 91 = some false) ∧ (sizT Try.prog 91 = some 1) ∧ (bytT Try.prog 91 = some 8) ∧ (elemT Try.prog 91 = none) ∧ (arrT Try.prog 91 = none) ∧ (intT Try.prog 91 = none) ∧ (zerT Try.prog 91 = some [.nilFunc]) ∧ (strT Try.prog 91 = false) ∧ ((Try.prog.underlying 91).isSome = true) := ⟨agg91, siz91, byt91, elem91, arr91, int91, zer91, str91, und91⟩
theorem t92 : (aggT Try.prog 92 = some false) ∧ (sizT Try.prog 92 = some 1) ∧ (bytT Try.prog 92 = some 8) ∧ (elemT Try.prog 92 = none) ∧ (arrT Try.prog 92 = none) ∧ (intT Try.prog 92 = none) ∧ (zerT Try.prog 92 = some [.nilFunc]) ∧ (strT Try.prog 92 = false) ∧ ((Try.prog.underlying 92).isSome = true) := ⟨agg92, siz92, byt92, elem92, arr92, int92, zer92, str92, und92⟩
theorem t93 : (aggT Try.prog 93 = some false) ∧ (sizT Try.prog 93 = some 1) ∧ (bytT Try.prog 93 = some 8) ∧ (elemT Try.prog 93 = none) ∧ (arrT Try.prog 93 = none) ∧ (intT Try.prog 93 = none) ∧ (zerT Try.prog 93 = some [.pointer none]) ∧ (strT Try.prog 93 = false) ∧ ((Try.prog.underlying 93).isSome = true) := ⟨agg93, siz93, byt93, elem93, arr93, int93, zer93, str93, und93⟩
theorem t94 : (aggT Try.prog 94 = some false) ∧ (sizT Try.prog 94 = some 1) ∧ (bytT Try.prog 94 = some 0) ∧ (elemT Try.prog 94 = none) ∧ (arrT Try.prog 94 = none) ∧ (intT Try.prog 94 = none) ∧ (strT Try.prog 94 = false) ∧ ((Try.prog.underlying 94).isSome = true) := ⟨agg94, siz94, byt94, elem94, arr94, int94, str94, und94⟩
theorem t95 : (aggT Try.prog 95 = some false) ∧ (sizT Try.prog 95 = some 1) ∧ (bytT Try.prog 95 = some 8) ∧ (elemT Try.prog 95 = none) ∧ (arrT Try.prog 95 = none) ∧ (intT Try.prog 95 = none) ∧ (zerT Try.prog 95 = some [.nilFunc]) ∧ (strT Try.prog 95 = false) ∧ ((Try.prog.underlying 95).isSome = true) := ⟨agg95, siz95, byt95, elem95, arr95, int95, zer95, str95, und95⟩
theorem t96 : (aggT Try.prog 96 = some false) ∧ (sizT Try.prog 96 = some 1) ∧ (bytT Try.prog 96 = some 8) ∧ (elemT Try.prog 96 = none) ∧ (arrT Try.prog 96 = none) ∧ (intT Try.prog 96 = none) ∧ (zerT Try.prog 96 = some [.pointer none]) ∧ (strT Try.prog 96 = false) ∧ ((Try.prog.underlying 96).isSome = true) := ⟨agg96, siz96, byt96, elem96, arr96, int96, zer96, str96, und96⟩
theorem t97 : (aggT Try.prog 97 = some false) ∧ (sizT Try.prog 97 = some 1) ∧ (bytT Try.prog 97 = some 0) ∧ (elemT Try.prog 97 = none) ∧ (arrT Try.prog 97 = none) ∧ (intT Try.prog 97 = none) ∧ (strT Try.prog 97 = false) ∧ ((Try.prog.underlying 97).isSome = true) := ⟨agg97, siz97, byt97, elem97, arr97, int97, str97, und97⟩
theorem t98 : (aggT Try.prog 98 = some false) ∧ (sizT Try.prog 98 = some 1) ∧ (bytT Try.prog 98 = some 8) ∧ (elemT Try.prog 98 = none) ∧ (arrT Try.prog 98 = none) ∧ (intT Try.prog 98 = none) ∧ (zerT Try.prog 98 = some [.nilFunc]) ∧ (strT Try.prog 98 = false) ∧ ((Try.prog.underlying 98).isSome = true) := ⟨agg98, siz98, byt98, elem98, arr98, int98, zer98, str98, und98⟩
theorem t99 : (aggT Try.prog 99 = some true) ∧ (sizT Try.prog 99 = some 8) ∧ (bytT Try.prog 99 = some 80) ∧ (elemT Try.prog 99 = none) ∧ (arrT Try.prog 99 = none) ∧ (intT Try.prog 99 = none) ∧ (zerT Try.prog 99 = some [.pointer none, .pointer none, .int .i64 0, .bool false, .int .i64 0, .int .i64 0, .int .i64 0, .slice none 0 0]) ∧ (Try.prog.eqGuardType (Try.prog.depth) 99 = false) ∧ (sizesOk Try.prog 99 = true) ∧ (placeT Try.prog 99 0 = some (0, 1)) ∧ (placeT Try.prog 99 1 = some (1, 1)) ∧ (placeT Try.prog 99 2 = some (2, 1)) ∧ (placeT Try.prog 99 3 = some (3, 1)) ∧ (placeT Try.prog 99 4 = some (4, 1)) ∧ (placeT Try.prog 99 5 = some (5, 1)) ∧ (placeT Try.prog 99 6 = some (6, 1)) ∧ (placeT Try.prog 99 7 = some (7, 1)) ∧ (strT Try.prog 99 = false) ∧ (fldT Try.prog 99 0 = some (0, 93)) ∧ (fldT Try.prog 99 1 = some (1, 96)) ∧ (fldT Try.prog 99 2 = some (2, 3)) ∧ (fldT Try.prog 99 3 = some (3, 4)) ∧ (fldT Try.prog 99 4 = some (4, 38)) ∧ (fldT Try.prog 99 5 = some (5, 2)) ∧ (fldT Try.prog 99 6 = some (6, 2)) ∧ (fldT Try.prog 99 7 = some (7, 45)) ∧ ((Try.prog.underlying 99).isSome = true) := ⟨agg99, siz99, byt99, elem99, arr99, int99, zer99, eqg99, szs99, plc99_0, plc99_1, plc99_2, plc99_3, plc99_4, plc99_5, plc99_6, plc99_7, str99, fld99_0, fld99_1, fld99_2, fld99_3, fld99_4, fld99_5, fld99_6, fld99_7, und99⟩
theorem t100 : (aggT Try.prog 100 = some true) ∧ (sizT Try.prog 100 = some 8) ∧ (bytT Try.prog 100 = some 80) ∧ (elemT Try.prog 100 = none) ∧ (arrT Try.prog 100 = none) ∧ (intT Try.prog 100 = none) ∧ (zerT Try.prog 100 = some [.pointer none, .pointer none, .int .i64 0, .bool false, .int .i64 0, .int .i64 0, .int .i64 0, .slice none 0 0]) ∧ (Try.prog.eqGuardType (Try.prog.depth) 100 = false) ∧ (sizesOk Try.prog 100 = true) ∧ (placeT Try.prog 100 0 = some (0, 1)) ∧ (placeT Try.prog 100 1 = some (1, 1)) ∧ (placeT Try.prog 100 2 = some (2, 1)) ∧ (placeT Try.prog 100 3 = some (3, 1)) ∧ (placeT Try.prog 100 4 = some (4, 1)) ∧ (placeT Try.prog 100 5 = some (5, 1)) ∧ (placeT Try.prog 100 6 = some (6, 1)) ∧ (placeT Try.prog 100 7 = some (7, 1)) ∧ (strT Try.prog 100 = false) ∧ (fldT Try.prog 100 0 = some (0, 93)) ∧ (fldT Try.prog 100 1 = some (1, 96)) ∧ (fldT Try.prog 100 2 = some (2, 3)) ∧ (fldT Try.prog 100 3 = some (3, 4)) ∧ (fldT Try.prog 100 4 = some (4, 38)) ∧ (fldT Try.prog 100 5 = some (5, 2)) ∧ (fldT Try.prog 100 6 = some (6, 2)) ∧ (fldT Try.prog 100 7 = some (7, 45)) ∧ ((Try.prog.underlying 100).isSome = true) := ⟨agg100, siz100, byt100, elem100, arr100, int100, zer100, eqg100, szs100, plc100_0, plc100_1, plc100_2, plc100_3, plc100_4, plc100_5, plc100_6, plc100_7, str100, fld100_0, fld100_1, fld100_2, fld100_3, fld100_4, fld100_5, fld100_6, fld100_7, und100⟩
theorem t101 : (aggT Try.prog 101 = some false) ∧ (sizT Try.prog 101 = some 1) ∧ (bytT Try.prog 101 = some 0) ∧ (elemT Try.prog 101 = none) ∧ (arrT Try.prog 101 = none) ∧ (intT Try.prog 101 = none) ∧ (strT Try.prog 101 = false) ∧ ((Try.prog.underlying 101).isSome = true) := ⟨agg101, siz101, byt101, elem101, arr101, int101, str101, und101⟩
theorem t102 : (aggT Try.prog 102 = some false) ∧ (sizT Try.prog 102 = some 1) ∧ (bytT Try.prog 102 = some 8) ∧ (elemT Try.prog 102 = none) ∧ (arrT Try.prog 102 = none) ∧ (intT Try.prog 102 = none) ∧ (zerT Try.prog 102 = some [.nilFunc]) ∧ (strT Try.prog 102 = false) ∧ ((Try.prog.underlying 102).isSome = true) := ⟨agg102, siz102, byt102, elem102, arr102, int102, zer102, str102, und102⟩
theorem t103 : (aggT Try.prog 103 = some false) ∧ (sizT Try.prog 103 = some 1) ∧ (bytT Try.prog 103 = some 24) ∧ (elemT Try.prog 103 = some 87) ∧ (arrT Try.prog 103 = none) ∧ (intT Try.prog 103 = none) ∧ (zerT Try.prog 103 = some [.slice none 0 0]) ∧ (strT Try.prog 103 = false) ∧ ((Try.prog.underlying 103).isSome = true) := ⟨agg103, siz103, byt103, elem103, arr103, int103, zer103, str103, und103⟩
theorem t104 : (aggT Try.prog 104 = some true) ∧ (sizT Try.prog 104 = some 4) ∧ (bytT Try.prog 104 = some 64) ∧ (elemT Try.prog 104 = none) ∧ (arrT Try.prog 104 = none) ∧ (intT Try.prog 104 = none) ∧ (zerT Try.prog 104 = some [.int .i64 0, .slice none 0 0, .slice none 0 0, .bool false]) ∧ (Try.prog.eqGuardType (Try.prog.depth) 104 = false) ∧ (sizesOk Try.prog 104 = true) ∧ (placeT Try.prog 104 0 = some (0, 1)) ∧ (placeT Try.prog 104 1 = some (1, 1)) ∧ (placeT Try.prog 104 2 = some (2, 1)) ∧ (placeT Try.prog 104 3 = some (3, 1)) ∧ (strT Try.prog 104 = false) ∧ (fldT Try.prog 104 0 = some (0, 3)) ∧ (fldT Try.prog 104 1 = some (1, 59)) ∧ (fldT Try.prog 104 2 = some (2, 103)) ∧ (fldT Try.prog 104 3 = some (3, 4)) ∧ ((Try.prog.underlying 104).isSome = true) := ⟨agg104, siz104, byt104, elem104, arr104, int104, zer104, eqg104, szs104, plc104_0, plc104_1, plc104_2, plc104_3, str104, fld104_0, fld104_1, fld104_2, fld104_3, und104⟩
theorem t105 : (aggT Try.prog 105 = some true) ∧ (sizT Try.prog 105 = some 4) ∧ (bytT Try.prog 105 = some 64) ∧ (elemT Try.prog 105 = none) ∧ (arrT Try.prog 105 = none) ∧ (intT Try.prog 105 = none) ∧ (zerT Try.prog 105 = some [.int .i64 0, .slice none 0 0, .slice none 0 0, .bool false]) ∧ (Try.prog.eqGuardType (Try.prog.depth) 105 = false) ∧ (sizesOk Try.prog 105 = true) ∧ (placeT Try.prog 105 0 = some (0, 1)) ∧ (placeT Try.prog 105 1 = some (1, 1)) ∧ (placeT Try.prog 105 2 = some (2, 1)) ∧ (placeT Try.prog 105 3 = some (3, 1)) ∧ (strT Try.prog 105 = false) ∧ (fldT Try.prog 105 0 = some (0, 3)) ∧ (fldT Try.prog 105 1 = some (1, 59)) ∧ (fldT Try.prog 105 2 = some (2, 103)) ∧ (fldT Try.prog 105 3 = some (3, 4)) ∧ ((Try.prog.underlying 105).isSome = true) := ⟨agg105, siz105, byt105, elem105, arr105, int105, zer105, eqg105, szs105, plc105_0, plc105_1, plc105_2, plc105_3, str105, fld105_0, fld105_1, fld105_2, fld105_3, und105⟩
theorem t106 : (aggT Try.prog 106 = some false) ∧ (sizT Try.prog 106 = some 1) ∧ (bytT Try.prog 106 = some 8) ∧ (elemT Try.prog 106 = none) ∧ (arrT Try.prog 106 = none) ∧ (intT Try.prog 106 = none) ∧ (zerT Try.prog 106 = some [.nilFunc]) ∧ (strT Try.prog 106 = false) ∧ ((Try.prog.underlying 106).isSome = true) := ⟨agg106, siz106, byt106, elem106, arr106, int106, zer106, str106, und106⟩
theorem t107 : (aggT Try.prog 107 = some false) ∧ (sizT Try.prog 107 = some 1) ∧ (bytT Try.prog 107 = some 8) ∧ (elemT Try.prog 107 = none) ∧ (arrT Try.prog 107 = none) ∧ (intT Try.prog 107 = none) ∧ (zerT Try.prog 107 = some [.pointer none]) ∧ (strT Try.prog 107 = false) ∧ ((Try.prog.underlying 107).isSome = true) := ⟨agg107, siz107, byt107, elem107, arr107, int107, zer107, str107, und107⟩
theorem t108 : (aggT Try.prog 108 = some true) ∧ (sizT Try.prog 108 = some 8) ∧ (bytT Try.prog 108 = some 64) ∧ (elemT Try.prog 108 = none) ∧ (arrT Try.prog 108 = some (8, 107)) ∧ (intT Try.prog 108 = none) ∧ (zerT Try.prog 108 = some [.pointer none, .pointer none, .pointer none, .pointer none, .pointer none, .pointer none, .pointer none, .pointer none]) ∧ (Try.prog.eqGuardType (Try.prog.depth) 108 = false) ∧ (sizesOk Try.prog 108 = true) ∧ (placeT Try.prog 108 0 = some (0, 1)) ∧ (placeT Try.prog 108 1 = some (1, 1)) ∧ (placeT Try.prog 108 2 = some (2, 1)) ∧ (placeT Try.prog 108 3 = some (3, 1)) ∧ (placeT Try.prog 108 4 = some (4, 1)) ∧ (placeT Try.prog 108 5 = some (5, 1)) ∧ (placeT Try.prog 108 6 = some (6, 1)) ∧ (placeT Try.prog 108 7 = some (7, 1)) ∧ (placeT Try.prog 108 8 = some (8, 1)) ∧ (placeT Try.prog 108 9 = some (9, 1)) ∧ (placeT Try.prog 108 10 = some (10, 1)) ∧ (placeT Try.prog 108 11 = some (11, 1)) ∧ (strT Try.prog 108 = false) ∧ ((Try.prog.underlying 108).isSome = true) := ⟨agg108, siz108, byt108, elem108, arr108, int108, zer108, eqg108, szs108, plc108_0, plc108_1, plc108_2, plc108_3, plc108_4, plc108_5, plc108_6, plc108_7, plc108_8, plc108_9, plc108_10, plc108_11, str108, und108⟩
theorem t109 : (aggT Try.prog 109 = some true) ∧ (sizT Try.prog 109 = some 9) ∧ (bytT Try.prog 109 = some 72) ∧ (elemT Try.prog 109 = none) ∧ (arrT Try.prog 109 = none) ∧ (intT Try.prog 109 = none) ∧ (zerT Try.prog 109 = some [.int .i64 0, .pointer none, .pointer none, .pointer none, .pointer none, .pointer none, .pointer none, .pointer none, .pointer none]) ∧ (Try.prog.eqGuardType (Try.prog.depth) 109 = false) ∧ (sizesOk Try.prog 109 = true) ∧ (placeT Try.prog 109 0 = some (0, 1)) ∧ (placeT Try.prog 109 1 = some (1, 8)) ∧ (strT Try.prog 109 = false) ∧ (fldT Try.prog 109 0 = some (0, 3)) ∧ (fldT Try.prog 109 1 = some (1, 108)) ∧ ((Try.prog.underlying 109).isSome = true) := ⟨agg109, siz109, byt109, elem109, arr109, int109, zer109, eqg109, szs109, plc109_0, plc109_1, str109, fld109_0, fld109_1, und109⟩
theorem t110 : (aggT Try.prog 110 = some true) ∧ (sizT Try.prog 110 = some 9) ∧ (bytT Try.prog 110 = some 72) ∧ (elemT Try.prog 110 = none) ∧ (arrT Try.prog 110 = none) ∧ (intT Try.prog 110 = none) ∧ (zerT Try.prog 110 = some [.int .i64 0, .pointer none, .pointer none, .pointer none, .pointer none, .pointer none, .pointer none, .pointer none, .pointer none]) ∧ (Try.prog.eqGuardType (Try.prog.depth) 110 = false) ∧ (sizesOk Try.prog 110 = true) ∧ (placeT Try.prog 110 0 = some (0, 1)) ∧ (placeT Try.prog 110 1 = some (1, 8)) ∧ (strT Try.prog 110 = false) ∧ (fldT Try.prog 110 0 = some (0, 3)) ∧ (fldT Try.prog 110 1 = some (1, 108)) ∧ ((Try.prog.underlying 110).isSome = true) := ⟨agg110, siz110, byt110, elem110, arr110, int110, zer110, eqg110, szs110, plc110_0, plc110_1, str110, fld110_0, fld110_1, und110⟩
theorem t111 : (aggT Try.prog 111 = some false) ∧ (sizT Try.prog 111 = some 1) ∧ (bytT Try.prog 111 = some 8) ∧ (elemT Try.prog 111 = none) ∧ (arrT Try.prog 111 = none) ∧ (intT Try.prog 111 = none) ∧ (zerT Try.prog 111 = some [.nilFunc]) ∧ (strT Try.prog 111 = false) ∧ ((Try.prog.underlying 111).isSome = true) := ⟨agg111, siz111, byt111, elem111, arr111, int111, zer111, str111, und111⟩
theorem t112 : (aggT Try.prog 112 = some true) ∧ (sizT Try.prog 112 = some 3) ∧ (bytT Try.prog 112 = some 12) ∧ (elemT Try.prog 112 = none) ∧ (arrT Try.prog 112 = none) ∧ (intT Try.prog 112 = none) ∧ (zerT Try.prog 112 = some [.bool false, .int .u32 0, .int .u32 0]) ∧ (kdT Try.prog 60 112 = some [.bool, .int .u32, .int .u32]) ∧ (Try.prog.eqGuardType (Try.prog.depth) 112 = false) ∧ (sizesOk Try.prog 112 = true) ∧ (placeT Try.prog 112 0 = some (0, 1)) ∧ (placeT Try.prog 112 1 = some (1, 1)) ∧ (placeT Try.prog 112 2 = some (2, 1)) ∧ (strT Try.prog 112 = false) ∧ (fldT Try.prog 112 0 = some (0, 4)) ∧ (fldT Try.prog 112 1 = some (1, 27)) ∧ (fldT Try.prog 112 2 = some (2, 27)) ∧ ((Try.prog.underlying 112).isSome = true) := ⟨agg112, siz112, byt112, elem112, arr112, int112, zer112, kd112, eqg112, szs112, plc112_0, plc112_1, plc112_2, str112, fld112_0, fld112_1, fld112_2, und112⟩
theorem t113 : (aggT Try.prog 113 = some true) ∧ (sizT Try.prog 113 = some 3) ∧ (bytT Try.prog 113 = some 12) ∧ (elemT Try.prog 113 = none) ∧ (arrT Try.prog 113 = none) ∧ (intT Try.prog 113 = none) ∧ (zerT Try.prog 113 = some [.bool false, .int .u32 0, .int .u32 0]) ∧ (kdT Try.prog 60 113 = some [.bool, .int .u32, .int .u32]) ∧ (Try.prog.eqGuardType (Try.prog.depth) 113 = false) ∧ (sizesOk Try.prog 113 = true) ∧ (placeT Try.prog 113 0 = some (0, 1)) ∧ (placeT Try.prog 113 1 = some (1, 1)) ∧ (placeT Try.prog 113 2 = some (2, 1)) ∧ (strT Try.prog 113 = false) ∧ (fldT Try.prog 113 0 = some (0, 4)) ∧ (fldT Try.prog 113 1 = some (1, 27)) ∧ (fldT Try.prog 113 2 = some (2, 27)) ∧ ((Try.prog.underlying 113).isSome = true) := ⟨agg113, siz113, byt113, elem113, arr113, int113, zer113, kd113, eqg113, szs113, plc113_0, plc113_1, plc113_2, str113, fld113_0, fld113_1, fld113_2, und113⟩
theorem t114 : (aggT Try.prog 114 = some true) ∧ (sizT Try.prog 114 = some 4) ∧ (bytT Try.prog 114 = some 64) ∧ (elemT Try.prog 114 = none) ∧ (arrT Try.prog 114 = none) ∧ (intT Try.prog 114 = none) ∧ (zerT Try.prog 114 = some [.int .i64 0, .slice none 0 0, .slice none 0 0, .bool false]) ∧ (Try.prog.eqGuardType (Try.prog.depth) 114 = false) ∧ (sizesOk Try.prog 114 = true) ∧ (placeT Try.prog 114 0 = some (0, 1)) ∧ (placeT Try.prog 114 1 = some (1, 1)) ∧ (placeT Try.prog 114 2 = some (2, 1)) ∧ (placeT Try.prog 114 3 = some (3, 1)) ∧ (strT Try.prog 114 = false) ∧ (fldT Try.prog 114 0 = some (0, 3)) ∧ (fldT Try.prog 114 1 = some (1, 59)) ∧ (fldT Try.prog 114 2 = some (2, 103)) ∧ (fldT Try.prog 114 3 = some (3, 4)) ∧ ((Try.prog.underlying 114).isSome = true) := ⟨agg114, siz114, byt114, elem114, arr114, int114, zer114, eqg114, szs114, plc114_0, plc114_1, plc114_2, plc114_3, str114, fld114_0, fld114_1, fld114_2, fld114_3, und114⟩
theorem t115 : (aggT Try.prog 115 = some true) ∧ (sizT Try.prog 115 = some 4) ∧ (bytT Try.prog 115 = some 64) ∧ (elemT Try.prog 115 = none) ∧ (arrT Try.prog 115 = none) ∧ (intT Try.prog 115 = none) ∧ (zerT Try.prog 115 = some [.int .i64 0, .slice none 0 0, .slice none 0 0, .bool false]) ∧ (Try.prog.eqGuardType (Try.prog.depth) 115 = false) ∧ (sizesOk Try.prog 115 = true) ∧ (placeT Try.prog 115 0 = some (0, 1)) ∧ (placeT Try.prog 115 1 = some (1, 1)) ∧ (placeT Try.prog 115 2 = some (2, 1)) ∧ (placeT Try.prog 115 3 = some (3, 1)) ∧ (strT Try.prog 115 = false) ∧ (fldT Try.prog 115 0 = some (0, 3)) ∧ (fldT Try.prog 115 1 = some (1, 59)) ∧ (fldT Try.prog 115 2 = some (2, 103)) ∧ (fldT Try.prog 115 3 = some (3, 4)) ∧ ((Try.prog.underlying 115).isSome = true) := ⟨agg115, siz115, byt115, elem115, arr115, int115, zer115, eqg115, szs115, plc115_0, plc115_1, plc115_2, plc115_3, str115, fld115_0, fld115_1, fld115_2, fld115_3, und115⟩
theorem t116 : (aggT Try.prog 116 = some false) ∧ (sizT Try.prog 116 = some 1) ∧ (bytT Try.prog 116 = some 8) ∧ (elemT Try.prog 116 = none) ∧ (arrT Try.prog 116 = none) ∧ (intT Try.prog 116 = none) ∧ (zerT Try.prog 116 = some [.nilFunc]) ∧ (strT Try.prog 116 = false) ∧ ((Try.prog.underlying 116).isSome = true) := ⟨agg116, siz116, byt116, elem116, arr116, int116, zer116, str116, und116⟩
theorem t117 : (aggT Try.prog 117 = some false) ∧ (sizT Try.prog 117 = some 1) ∧ (bytT Try.prog 117 = some 8) ∧ (elemT Try.prog 117 = none) ∧ (arrT Try.prog 117 = none) ∧ (intT Try.prog 117 = none) ∧ (zerT Try.prog 117 = some [.nilFunc]) ∧ (strT Try.prog 117 = false) ∧ ((Try.prog.underlying 117).isSome = true) := ⟨agg117, siz117, byt117, elem117, arr117, int117, zer117, str117, und117⟩
theorem t118 : (aggT Try.prog 118 = some false) ∧ (sizT Try.prog 118 = some 1) ∧ (bytT Try.prog 118 = some 8) ∧ (elemT Try.prog 118 = none) ∧ (arrT Try.prog 118 = none) ∧ (intT Try.prog 118 = none) ∧ (zerT Try.prog 118 = some [.nilFunc]) ∧ (strT Try.prog 118 = false) ∧ ((Try.prog.underlying 118).isSome = true) := ⟨agg118, siz118, byt118, elem118, arr118, int118, zer118, str118, und118⟩
theorem t119 : (aggT Try.prog 119 = some false) ∧ (sizT Try.prog 119 = some 1) ∧ (bytT Try.prog 119 = some 0) ∧ (elemT Try.prog 119 = none) ∧ (arrT Try.prog 119 = none) ∧ (intT Try.prog 119 = none) ∧ (strT Try.prog 119 = false) ∧ ((Try.prog.underlying 119).isSome = true) := ⟨agg119, siz119, byt119, elem119, arr119, int119, str119, und119⟩
theorem t120 : (aggT Try.prog 120 = some false) ∧ (sizT Try.prog 120 = some 1) ∧ (bytT Try.prog 120 = some 8) ∧ (elemT Try.prog 120 = none) ∧ (arrT Try.prog 120 = none) ∧ (intT Try.prog 120 = none) ∧ (zerT Try.prog 120 = some [.nilFunc]) ∧ (strT Try.prog 120 = false) ∧ ((Try.prog.underlying 120).isSome = true) := ⟨agg120, siz120, byt120, elem120, arr120, int120, zer120, str120, und120⟩
theorem t121 : (aggT Try.prog 121 = some false) ∧ (sizT Try.prog 121 = some 1) ∧ (bytT Try.prog 121 = some 8) ∧ (elemT Try.prog 121 = none) ∧ (arrT Try.prog 121 = none) ∧ (intT Try.prog 121 = some .u64) ∧ (zerT Try.prog 121 = some [.int .u64 0]) ∧ (strT Try.prog 121 = false) ∧ ((Try.prog.underlying 121).isSome = true) := ⟨agg121, siz121, byt121, elem121, arr121, int121, zer121, str121, und121⟩
theorem t122 : (aggT Try.prog 122 = some false) ∧ (sizT Try.prog 122 = some 1) ∧ (bytT Try.prog 122 = some 8) ∧ (elemT Try.prog 122 = none) ∧ (arrT Try.prog 122 = none) ∧ (intT Try.prog 122 = none) ∧ (zerT Try.prog 122 = some [.nilFunc]) ∧ (strT Try.prog 122 = false) ∧ ((Try.prog.underlying 122).isSome = true) := ⟨agg122, siz122, byt122, elem122, arr122, int122, zer122, str122, und122⟩
theorem t123 : (aggT Try.prog 123 = some false) ∧ (sizT Try.prog 123 = some 1) ∧ (bytT Try.prog 123 = some 8) ∧ (elemT Try.prog 123 = none) ∧ (arrT Try.prog 123 = none) ∧ (intT Try.prog 123 = none) ∧ (zerT Try.prog 123 = some [.nilFunc]) ∧ (strT Try.prog 123 = false) ∧ ((Try.prog.underlying 123).isSome = true) := ⟨agg123, siz123, byt123, elem123, arr123, int123, zer123, str123, und123⟩
theorem t124 : (aggT Try.prog 124 = some false) ∧ (sizT Try.prog 124 = some 1) ∧ (bytT Try.prog 124 = some 24) ∧ (elemT Try.prog 124 = some 107) ∧ (arrT Try.prog 124 = none) ∧ (intT Try.prog 124 = none) ∧ (zerT Try.prog 124 = some [.slice none 0 0]) ∧ (strT Try.prog 124 = false) ∧ ((Try.prog.underlying 124).isSome = true) := ⟨agg124, siz124, byt124, elem124, arr124, int124, zer124, str124, und124⟩
theorem t125 : (aggT Try.prog 125 = some false) ∧ (sizT Try.prog 125 = some 1) ∧ (bytT Try.prog 125 = some 8) ∧ (elemT Try.prog 125 = none) ∧ (arrT Try.prog 125 = none) ∧ (intT Try.prog 125 = none) ∧ (zerT Try.prog 125 = some [.nilFunc]) ∧ (strT Try.prog 125 = false) ∧ ((Try.prog.underlying 125).isSome = true) := ⟨agg125, siz125, byt125, elem125, arr125, int125, zer125, str125, und125⟩
theorem t126 : (aggT Try.prog 126 = some false) ∧ (sizT Try.prog 126 = some 1) ∧ (bytT Try.prog 126 = some 8) ∧ (elemT Try.prog 126 = none) ∧ (arrT Try.prog 126 = none) ∧ (intT Try.prog 126 = none) ∧ (zerT Try.prog 126 = some [.nilFunc]) ∧ (strT Try.prog 126 = false) ∧ ((Try.prog.underlying 126).isSome = true) := ⟨agg126, siz126, byt126, elem126, arr126, int126, zer126, str126, und126⟩
theorem t127 : (aggT Try.prog 127 = some false) ∧ (sizT Try.prog 127 = some 1) ∧ (bytT Try.prog 127 = some 8) ∧ (elemT Try.prog 127 = none) ∧ (arrT Try.prog 127 = none) ∧ (intT Try.prog 127 = none) ∧ (zerT Try.prog 127 = some [.nilFunc]) ∧ (strT Try.prog 127 = false) ∧ ((Try.prog.underlying 127).isSome = true) := ⟨agg127, siz127, byt127, elem127, arr127, int127, zer127, str127, und127⟩
theorem t128 : (aggT Try.prog 128 = some false) ∧ (sizT Try.prog 128 = some 1) ∧ (bytT Try.prog 128 = some 8) ∧ (elemT Try.prog 128 = none) ∧ (arrT Try.prog 128 = none) ∧ (intT Try.prog 128 = none) ∧ (zerT Try.prog 128 = some [.nilFunc]) ∧ (strT Try.prog 128 = false) ∧ ((Try.prog.underlying 128).isSome = true) := ⟨agg128, siz128, byt128, elem128, arr128, int128, zer128, str128, und128⟩
theorem t129 : (aggT Try.prog 129 = some false) ∧ (sizT Try.prog 129 = some 1) ∧ (bytT Try.prog 129 = some 24) ∧ (elemT Try.prog 129 = some 34) ∧ (arrT Try.prog 129 = none) ∧ (intT Try.prog 129 = none) ∧ (zerT Try.prog 129 = some [.slice none 0 0]) ∧ (strT Try.prog 129 = false) ∧ ((Try.prog.underlying 129).isSome = true) := ⟨agg129, siz129, byt129, elem129, arr129, int129, zer129, str129, und129⟩
theorem t130 : (aggT Try.prog 130 = some false) ∧ (sizT Try.prog 130 = some 1) ∧ (bytT Try.prog 130 = some 24) ∧ (elemT Try.prog 130 = some 4) ∧ (arrT Try.prog 130 = none) ∧ (intT Try.prog 130 = none) ∧ (zerT Try.prog 130 = some [.slice none 0 0]) ∧ (strT Try.prog 130 = false) ∧ ((Try.prog.underlying 130).isSome = true) := ⟨agg130, siz130, byt130, elem130, arr130, int130, zer130, str130, und130⟩
theorem t131 : (aggT Try.prog 131 = some true) ∧ (sizT Try.prog 131 = some 2) ∧ (bytT Try.prog 131 = some 48) ∧ (elemT Try.prog 131 = none) ∧ (arrT Try.prog 131 = none) ∧ (intT Try.prog 131 = none) ∧ (zerT Try.prog 131 = some [.slice none 0 0, .slice none 0 0]) ∧ (Try.prog.eqGuardType (Try.prog.depth) 131 = false) ∧ (sizesOk Try.prog 131 = true) ∧ (placeT Try.prog 131 0 = some (0, 1)) ∧ (placeT Try.prog 131 1 = some (1, 1)) ∧ (strT Try.prog 131 = false) ∧ (fldT Try.prog 131 0 = some (0, 129)) ∧ (fldT Try.prog 131 1 = some (1, 130)) ∧ ((Try.prog.underlying 131).isSome = true) := ⟨agg131, siz131, byt131, elem131, arr131, int131, zer131, eqg131, szs131, plc131_0, plc131_1, str131, fld131_0, fld131_1, und131⟩
theorem t132 : (aggT Try.prog 132 = some true) ∧ (sizT Try.prog 132 = some 2) ∧ (bytT Try.prog 132 = some 48) ∧ (elemT Try.prog 132 = none) ∧ (arrT Try.prog 132 = none) ∧ (intT Try.prog 132 = none) ∧ (zerT Try.prog 132 = some [.slice none 0 0, .slice none 0 0]) ∧ (Try.prog.eqGuardType (Try.prog.depth) 132 = false) ∧ (sizesOk Try.prog 132 = true) ∧ (placeT Try.prog 132 0 = some (0, 1)) ∧ (placeT Try.prog 132 1 = some (1, 1)) ∧ (strT Try.prog 132 = false) ∧ (fldT Try.prog 132 0 = some (0, 129)) ∧ (fldT Try.prog 132 1 = some (1, 130)) ∧ ((Try.prog.underlying 132).isSome = true) := ⟨agg132, siz132, byt132, elem132, arr132, int132, zer132, eqg132, szs132, plc132_0, plc132_1, str132, fld132_0, fld132_1, und132⟩
theorem t133 : (aggT Try.prog 133 = some false) ∧ (sizT Try.prog 133 = some 1) ∧ (bytT Try.prog 133 = some 8) ∧ (elemT Try.prog 133 = none) ∧ (arrT Try.prog 133 = none) ∧ (intT Try.prog 133 = none) ∧ (zerT Try.prog 133 = some [.nilFunc]) ∧ (strT Try.prog 133 = false) ∧ ((Try.prog.underlying 133).isSome = true) := ⟨agg133, siz133, byt133, elem133, arr133, int133, zer133, str133, und133⟩
theorem t134 : (aggT Try.prog 134 = some false) ∧ (sizT Try.prog 134 = some 1) ∧ (bytT Try.prog 134 = some 8) ∧ (elemT Try.prog 134 = none) ∧ (arrT Try.prog 134 = none) ∧ (intT Try.prog 134 = none) ∧ (zerT Try.prog 134 = some [.nilFunc]) ∧ (strT Try.prog 134 = false) ∧ ((Try.prog.underlying 134).isSome = true) := ⟨agg134, siz134, byt134, elem134, arr134, int134, zer134, str134, und134⟩
theorem t135 : (aggT Try.prog 135 = some false) ∧ (sizT Try.prog 135 = some 1) ∧ (bytT Try.prog 135 = some 24) ∧ (elemT Try.prog 135 = some 5) ∧ (arrT Try.prog 135 = none) ∧ (intT Try.prog 135 = none) ∧ (zerT Try.prog 135 = some [.slice none 0 0]) ∧ (strT Try.prog 135 = false) ∧ ((Try.prog.underlying 135).isSome = true) := ⟨agg135, siz135, byt135, elem135, arr135, int135, zer135, str135, und135⟩
theorem t136 : (aggT Try.prog 136 = some false) ∧ (sizT Try.prog 136 = some 1) ∧ (bytT Try.prog 136 = some 8) ∧ (elemT Try.prog 136 = none) ∧ (arrT Try.prog 136 = none) ∧ (intT Try.prog 136 = none) ∧ (zerT Try.prog 136 = some [.nilFunc]) ∧ (strT Try.prog 136 = false) ∧ ((Try.prog.underlying 136).isSome = true) := ⟨agg136, siz136, byt136, elem136, arr136, int136, zer136, str136, und136⟩
theorem t137 : (aggT Try.prog 137 = some false) ∧ (sizT Try.prog 137 = some 1) ∧ (bytT Try.prog 137 = some 8) ∧ (elemT Try.prog 137 = none) ∧ (arrT Try.prog 137 = none) ∧ (intT Try.prog 137 = none) ∧ (zerT Try.prog 137 = some [.nilFunc]) ∧ (strT Try.prog 137 = false) ∧ ((Try.prog.underlying 137).isSome = true) := ⟨agg137, siz137, byt137, elem137, arr137, int137, zer137, str137, und137⟩
theorem t138 : (aggT Try.prog 138 = some false) ∧ (sizT Try.prog 138 = some 1) ∧ (bytT Try.prog 138 = some 8) ∧ (elemT Try.prog 138 = none) ∧ (arrT Try.prog 138 = none) ∧ (intT Try.prog 138 = none) ∧ (zerT Try.prog 138 = some [.nilFunc]) ∧ (strT Try.prog 138 = false) ∧ ((Try.prog.underlying 138).isSome = true) := ⟨agg138, siz138, byt138, elem138, arr138, int138, zer138, str138, und138⟩
theorem t139 : (aggT Try.prog 139 = some false) ∧ (sizT Try.prog 139 = some 1) ∧ (bytT Try.prog 139 = some 8) ∧ (elemT Try.prog 139 = none) ∧ (arrT Try.prog 139 = none) ∧ (intT Try.prog 139 = none) ∧ (zerT Try.prog 139 = some [.nilFunc]) ∧ (strT Try.prog 139 = false) ∧ ((Try.prog.underlying 139).isSome = true) := ⟨agg139, siz139, byt139, elem139, arr139, int139, zer139, str139, und139⟩
theorem t140 : (aggT Try.prog 140 = some false) ∧ (sizT Try.prog 140 = some 1) ∧ (bytT Try.prog 140 = some 8) ∧ (elemT Try.prog 140 = none) ∧ (arrT Try.prog 140 = none) ∧ (intT Try.prog 140 = none) ∧ (zerT Try.prog 140 = some [.nilFunc]) ∧ (strT Try.prog 140 = false) ∧ ((Try.prog.underlying 140).isSome = true) := ⟨agg140, siz140, byt140, elem140, arr140, int140, zer140, str140, und140⟩
theorem t141 : (aggT Try.prog 141 = some false) ∧ (sizT Try.prog 141 = some 1) ∧ (bytT Try.prog 141 = some 8) ∧ (elemT Try.prog 141 = none) ∧ (arrT Try.prog 141 = none) ∧ (intT Try.prog 141 = none) ∧ (zerT Try.prog 141 = some [.nilFunc]) ∧ (strT Try.prog 141 = false) ∧ ((Try.prog.underlying 141).isSome = true) := ⟨agg141, siz141, byt141, elem141, arr141, int141, zer141, str141, und141⟩
theorem t142 : (aggT Try.prog 142 = some false) ∧ (sizT Try.prog 142 = some 1) ∧ (bytT Try.prog 142 = some 8) ∧ (elemT Try.prog 142 = none) ∧ (arrT Try.prog 142 = none) ∧ (intT Try.prog 142 = some .u64) ∧ (zerT Try.prog 142 = some [.int .u64 0]) ∧ (strT Try.prog 142 = false) ∧ ((Try.prog.underlying 142).isSome = true) := ⟨agg142, siz142, byt142, elem142, arr142, int142, zer142, str142, und142⟩
theorem t143 : (aggT Try.prog 143 = some false) ∧ (sizT Try.prog 143 = some 1) ∧ (bytT Try.prog 143 = some 8) ∧ (elemT Try.prog 143 = none) ∧ (arrT Try.prog 143 = none) ∧ (intT Try.prog 143 = none) ∧ (zerT Try.prog 143 = some [.nilFunc]) ∧ (strT Try.prog 143 = false) ∧ ((Try.prog.underlying 143).isSome = true) := ⟨agg143, siz143, byt143, elem143, arr143, int143, zer143, str143, und143⟩
theorem t144 : (aggT Try.prog 144 = some false) ∧ (sizT Try.prog 144 = some 1) ∧ (bytT Try.prog 144 = some 8) ∧ (elemT Try.prog 144 = none) ∧ (arrT Try.prog 144 = none) ∧ (intT Try.prog 144 = none) ∧ (zerT Try.prog 144 = some [.nilFunc]) ∧ (strT Try.prog 144 = false) ∧ ((Try.prog.underlying 144).isSome = true) := ⟨agg144, siz144, byt144, elem144, arr144, int144, zer144, str144, und144⟩
theorem t145 : (aggT Try.prog 145 = some false) ∧ (sizT Try.prog 145 = some 1) ∧ (bytT Try.prog 145 = some 8) ∧ (elemT Try.prog 145 = none) ∧ (arrT Try.prog 145 = none) ∧ (intT Try.prog 145 = none) ∧ (zerT Try.prog 145 = some [.nilFunc]) ∧ (strT Try.prog 145 = false) ∧ ((Try.prog.underlying 145).isSome = true) := ⟨agg145, siz145, byt145, elem145, arr145, int145, zer145, str145, und145⟩
theorem t146 : (aggT Try.prog 146 = some false) ∧ (sizT Try.prog 146 = some 1) ∧ (bytT Try.prog 146 = some 8) ∧ (elemT Try.prog 146 = none) ∧ (arrT Try.prog 146 = none) ∧ (intT Try.prog 146 = none) ∧ (zerT Try.prog 146 = some [.nilFunc]) ∧ (strT Try.prog 146 = false) ∧ ((Try.prog.underlying 146).isSome = true) := ⟨agg146, siz146, byt146, elem146, arr146, int146, zer146, str146, und146⟩
theorem t147 : (aggT Try.prog 147 = some false) ∧ (sizT Try.prog 147 = some 1) ∧ (bytT Try.prog 147 = some 8) ∧ (elemT Try.prog 147 = none) ∧ (arrT Try.prog 147 = none) ∧ (intT Try.prog 147 = none) ∧ (zerT Try.prog 147 = some [.nilFunc]) ∧ (strT Try.prog 147 = false) ∧ ((Try.prog.underlying 147).isSome = true) := ⟨agg147, siz147, byt147, elem147, arr147, int147, zer147, str147, und147⟩
theorem t148 : (aggT Try.prog 148 = some false) ∧ (sizT Try.prog 148 = some 1) ∧ (bytT Try.prog 148 = some 8) ∧ (elemT Try.prog 148 = none) ∧ (arrT Try.prog 148 = none) ∧ (intT Try.prog 148 = none) ∧ (zerT Try.prog 148 = some [.nilFunc]) ∧ (strT Try.prog 148 = false) ∧ ((Try.prog.underlying 148).isSome = true) := ⟨agg148, siz148, byt148, elem148, arr148, int148, zer148, str148, und148⟩
theorem t149 : (aggT Try.prog 149 = some false) ∧ (sizT Try.prog 149 = some 1) ∧ (bytT Try.prog 149 = some 8) ∧ (elemT Try.prog 149 = none) ∧ (arrT Try.prog 149 = none) ∧ (intT Try.prog 149 = none) ∧ (zerT Try.prog 149 = some [.nilFunc]) ∧ (strT Try.prog 149 = false) ∧ ((Try.prog.underlying 149).isSome = true) := ⟨agg149, siz149, byt149, elem149, arr149, int149, zer149, str149, und149⟩
theorem t150 : (aggT Try.prog 150 = some false) ∧ (sizT Try.prog 150 = some 1) ∧ (bytT Try.prog 150 = some 8) ∧ (elemT Try.prog 150 = none) ∧ (arrT Try.prog 150 = none) ∧ (intT Try.prog 150 = none) ∧ (zerT Try.prog 150 = some [.nilFunc]) ∧ (strT Try.prog 150 = false) ∧ ((Try.prog.underlying 150).isSome = true) := ⟨agg150, siz150, byt150, elem150, arr150, int150, zer150, str150, und150⟩
theorem t151 : (aggT Try.prog 151 = some true) ∧ (sizT Try.prog 151 = some 4) ∧ (bytT Try.prog 151 = some 40) ∧ (elemT Try.prog 151 = none) ∧ (arrT Try.prog 151 = none) ∧ (intT Try.prog 151 = none) ∧ (zerT Try.prog 151 = some [.pointer none, .pointer none, .pointer none, .string ByteArray.empty]) ∧ (Try.prog.eqGuardType (Try.prog.depth) 151 = false) ∧ (sizesOk Try.prog 151 = true) ∧ (placeT Try.prog 151 0 = some (0, 1)) ∧ (placeT Try.prog 151 1 = some (1, 1)) ∧ (placeT Try.prog 151 2 = some (2, 1)) ∧ (placeT Try.prog 151 3 = some (3, 1)) ∧ (strT Try.prog 151 = false) ∧ (fldT Try.prog 151 0 = some (0, 17)) ∧ (fldT Try.prog 151 1 = some (1, 17)) ∧ (fldT Try.prog 151 2 = some (2, 17)) ∧ (fldT Try.prog 151 3 = some (3, 9)) ∧ ((Try.prog.underlying 151).isSome = true) := ⟨agg151, siz151, byt151, elem151, arr151, int151, zer151, eqg151, szs151, plc151_0, plc151_1, plc151_2, plc151_3, str151, fld151_0, fld151_1, fld151_2, fld151_3, und151⟩
theorem t152 : (aggT Try.prog 152 = some true) ∧ (sizT Try.prog 152 = some 4) ∧ (bytT Try.prog 152 = some 40) ∧ (elemT Try.prog 152 = none) ∧ (arrT Try.prog 152 = none) ∧ (intT Try.prog 152 = none) ∧ (zerT Try.prog 152 = some [.pointer none, .pointer none, .pointer none, .string ByteArray.empty]) ∧ (Try.prog.eqGuardType (Try.prog.depth) 152 = false) ∧ (sizesOk Try.prog 152 = true) ∧ (placeT Try.prog 152 0 = some (0, 1)) ∧ (placeT Try.prog 152 1 = some (1, 1)) ∧ (placeT Try.prog 152 2 = some (2, 1)) ∧ (placeT Try.prog 152 3 = some (3, 1)) ∧ (strT Try.prog 152 = false) ∧ (fldT Try.prog 152 0 = some (0, 17)) ∧ (fldT Try.prog 152 1 = some (1, 17)) ∧ (fldT Try.prog 152 2 = some (2, 17)) ∧ (fldT Try.prog 152 3 = some (3, 9)) ∧ ((Try.prog.underlying 152).isSome = true) := ⟨agg152, siz152, byt152, elem152, arr152, int152, zer152, eqg152, szs152, plc152_0, plc152_1, plc152_2, plc152_3, str152, fld152_0, fld152_1, fld152_2, fld152_3, und152⟩
theorem t153 : (aggT Try.prog 153 = some true) ∧ (sizT Try.prog 153 = some 0) ∧ (bytT Try.prog 153 = some 0) ∧ (elemT Try.prog 153 = none) ∧ (arrT Try.prog 153 = some (0, 16)) ∧ (intT Try.prog 153 = none) ∧ (zerT Try.prog 153 = some []) ∧ (Try.prog.eqGuardType (Try.prog.depth) 153 = false) ∧ (sizesOk Try.prog 153 = true) ∧ (placeT Try.prog 153 0 = some (0, 1)) ∧ (placeT Try.prog 153 1 = some (1, 1)) ∧ (placeT Try.prog 153 2 = some (2, 1)) ∧ (placeT Try.prog 153 3 = some (3, 1)) ∧ (placeT Try.prog 153 4 = some (4, 1)) ∧ (placeT Try.prog 153 5 = some (5, 1)) ∧ (placeT Try.prog 153 6 = some (6, 1)) ∧ (placeT Try.prog 153 7 = some (7, 1)) ∧ (placeT Try.prog 153 8 = some (8, 1)) ∧ (placeT Try.prog 153 9 = some (9, 1)) ∧ (placeT Try.prog 153 10 = some (10, 1)) ∧ (placeT Try.prog 153 11 = some (11, 1)) ∧ (strT Try.prog 153 = false) ∧ ((Try.prog.underlying 153).isSome = true) := ⟨agg153, siz153, byt153, elem153, arr153, int153, zer153, eqg153, szs153, plc153_0, plc153_1, plc153_2, plc153_3, plc153_4, plc153_5, plc153_6, plc153_7, plc153_8, plc153_9, plc153_10, plc153_11, str153, und153⟩
theorem t154 : (aggT Try.prog 154 = some true) ∧ (sizT Try.prog 154 = some 0) ∧ (bytT Try.prog 154 = some 0) ∧ (elemT Try.prog 154 = none) ∧ (arrT Try.prog 154 = none) ∧ (intT Try.prog 154 = none) ∧ (zerT Try.prog 154 = some []) ∧ (Try.prog.eqGuardType (Try.prog.depth) 154 = false) ∧ (sizesOk Try.prog 154 = true) ∧ (placeT Try.prog 154 0 = some (0, 0)) ∧ (strT Try.prog 154 = false) ∧ (fldT Try.prog 154 0 = some (0, 153)) ∧ ((Try.prog.underlying 154).isSome = true) := ⟨agg154, siz154, byt154, elem154, arr154, int154, zer154, eqg154, szs154, plc154_0, str154, fld154_0, und154⟩
theorem t155 : (aggT Try.prog 155 = some true) ∧ (sizT Try.prog 155 = some 0) ∧ (bytT Try.prog 155 = some 0) ∧ (elemT Try.prog 155 = none) ∧ (arrT Try.prog 155 = none) ∧ (intT Try.prog 155 = none) ∧ (zerT Try.prog 155 = some []) ∧ (Try.prog.eqGuardType (Try.prog.depth) 155 = false) ∧ (sizesOk Try.prog 155 = true) ∧ (placeT Try.prog 155 0 = some (0, 0)) ∧ (strT Try.prog 155 = false) ∧ (fldT Try.prog 155 0 = some (0, 153)) ∧ ((Try.prog.underlying 155).isSome = true) := ⟨agg155, siz155, byt155, elem155, arr155, int155, zer155, eqg155, szs155, plc155_0, str155, fld155_0, und155⟩
theorem t156 : (aggT Try.prog 156 = some false) ∧ (sizT Try.prog 156 = some 1) ∧ (bytT Try.prog 156 = some 1) ∧ (elemT Try.prog 156 = none) ∧ (arrT Try.prog 156 = none) ∧ (intT Try.prog 156 = some .u8) ∧ (zerT Try.prog 156 = some [.int .u8 0]) ∧ (strT Try.prog 156 = false) ∧ ((Try.prog.underlying 156).isSome = true) := ⟨agg156, siz156, byt156, elem156, arr156, int156, zer156, str156, und156⟩
theorem t157 : (aggT Try.prog 157 = some false) ∧ (sizT Try.prog 157 = some 1) ∧ (bytT Try.prog 157 = some 1) ∧ (elemT Try.prog 157 = none) ∧ (arrT Try.prog 157 = none) ∧ (intT Try.prog 157 = some .u8) ∧ (zerT Try.prog 157 = some [.int .u8 0]) ∧ (strT Try.prog 157 = false) ∧ ((Try.prog.underlying 157).isSome = true) := ⟨agg157, siz157, byt157, elem157, arr157, int157, zer157, str157, und157⟩
theorem t158 : (aggT Try.prog 158 = some false) ∧ (sizT Try.prog 158 = some 1) ∧ (bytT Try.prog 158 = some 8) ∧ (elemT Try.prog 158 = none) ∧ (arrT Try.prog 158 = none) ∧ (intT Try.prog 158 = none) ∧ (zerT Try.prog 158 = some [.nilFunc]) ∧ (strT Try.prog 158 = false) ∧ ((Try.prog.underlying 158).isSome = true) := ⟨agg158, siz158, byt158, elem158, arr158, int158, zer158, str158, und158⟩
theorem t159 : (aggT Try.prog 159 = some false) ∧ (sizT Try.prog 159 = some 1) ∧ (bytT Try.prog 159 = some 8) ∧ (elemT Try.prog 159 = none) ∧ (arrT Try.prog 159 = none) ∧ (intT Try.prog 159 = none) ∧ (zerT Try.prog 159 = some [.pointer none]) ∧ (strT Try.prog 159 = false) ∧ ((Try.prog.underlying 159).isSome = true) := ⟨agg159, siz159, byt159, elem159, arr159, int159, zer159, str159, und159⟩
theorem t160 : (aggT Try.prog 160 = some false) ∧ (sizT Try.prog 160 = some 1) ∧ (bytT Try.prog 160 = some 4) ∧ (elemT Try.prog 160 = none) ∧ (arrT Try.prog 160 = none) ∧ (intT Try.prog 160 = some .i32) ∧ (zerT Try.prog 160 = some [.int .i32 0]) ∧ (strT Try.prog 160 = false) ∧ ((Try.prog.underlying 160).isSome = true) := ⟨agg160, siz160, byt160, elem160, arr160, int160, zer160, str160, und160⟩
theorem t161 : (aggT Try.prog 161 = some false) ∧ (sizT Try.prog 161 = some 1) ∧ (bytT Try.prog 161 = some 4) ∧ (elemT Try.prog 161 = none) ∧ (arrT Try.prog 161 = none) ∧ (intT Try.prog 161 = some .i32) ∧ (zerT Try.prog 161 = some [.int .i32 0]) ∧ (strT Try.prog 161 = false) ∧ ((Try.prog.underlying 161).isSome = true) := ⟨agg161, siz161, byt161, elem161, arr161, int161, zer161, str161, und161⟩
theorem t162 : (aggT Try.prog 162 = some true) ∧ (sizT Try.prog 162 = some 11) ∧ (bytT Try.prog 162 = some 48) ∧ (elemT Try.prog 162 = none) ∧ (arrT Try.prog 162 = none) ∧ (intT Try.prog 162 = none) ∧ (zerT Try.prog 162 = some [.int .u64 0, .int .u64 0, .int .u32 0, .int .u8 0, .int .u8 0, .int .u8 0, .int .u8 0, .nilFunc, .pointer none, .int .i32 0, .int .i32 0]) ∧ (Try.prog.eqGuardType (Try.prog.depth) 162 = false) ∧ (sizesOk Try.prog 162 = true) ∧ (placeT Try.prog 162 0 = some (0, 1)) ∧ (placeT Try.prog 162 1 = some (1, 1)) ∧ (placeT Try.prog 162 2 = some (2, 1)) ∧ (placeT Try.prog 162 3 = some (3, 1)) ∧ (placeT Try.prog 162 4 = some (4, 1)) ∧ (placeT Try.prog 162 5 = some (5, 1)) ∧ (placeT Try.prog 162 6 = some (6, 1)) ∧ (placeT Try.prog 162 7 = some (7, 1)) ∧ (placeT Try.prog 162 8 = some (8, 1)) ∧ (placeT Try.prog 162 9 = some (9, 1)) ∧ (placeT Try.prog 162 10 = some (10, 1)) ∧ (strT Try.prog 162 = false) ∧ (fldT Try.prog 162 0 = some (0, 12)) ∧ (fldT Try.prog 162 1 = some (1, 12)) ∧ (fldT Try.prog 162 2 = some (2, 27)) ∧ (fldT Try.prog 162 3 = some (3, 156)) ∧ (fldT Try.prog 162 4 = some (4, 5)) ∧ (fldT Try.prog 162 5 = some (5, 5)) ∧ (fldT Try.prog 162 6 = some (6, 157)) ∧ (fldT Try.prog 162 7 = some (7, 158)) ∧ (fldT Try.prog 162 8 = some (8, 159)) ∧ (fldT Try.prog 162 9 = some (9, 160)) ∧ (fldT Try.prog 162 10 = some (10, 161)) ∧ ((Try.prog.underlying 162).isSome = true) := ⟨agg162, siz162, byt162, elem162, arr162, int162, zer162, eqg162, szs162, plc162_0, plc162_1, plc162_2, plc162_3, plc162_4, plc162_5, plc162_6, plc162_7, plc162_8, plc162_9, plc162_10, str162, fld162_0, fld162_1, fld162_2, fld162_3, fld162_4, fld162_5, fld162_6, fld162_7, fld162_8, fld162_9, fld162_10, und162⟩
theorem t163 : (aggT Try.prog 163 = some true) ∧ (sizT Try.prog 163 = some 11) ∧ (bytT Try.prog 163 = some 48) ∧ (elemT Try.prog 163 = none) ∧ (arrT Try.prog 163 = none) ∧ (intT Try.prog 163 = none) ∧ (zerT Try.prog 163 = some [.int .u64 0, .int .u64 0, .int .u32 0, .int .u8 0, .int .u8 0, .int .u8 0, .int .u8 0, .nilFunc, .pointer none, .int .i32 0, .int .i32 0]) ∧ (Try.prog.eqGuardType (Try.prog.depth) 163 = false) ∧ (sizesOk Try.prog 163 = true) ∧ (placeT Try.prog 163 0 = some (0, 1)) ∧ (placeT Try.prog 163 1 = some (1, 1)) ∧ (placeT Try.prog 163 2 = some (2, 1)) ∧ (placeT Try.prog 163 3 = some (3, 1)) ∧ (placeT Try.prog 163 4 = some (4, 1)) ∧ (placeT Try.prog 163 5 = some (5, 1)) ∧ (placeT Try.prog 163 6 = some (6, 1)) ∧ (placeT Try.prog 163 7 = some (7, 1)) ∧ (placeT Try.prog 163 8 = some (8, 1)) ∧ (placeT Try.prog 163 9 = some (9, 1)) ∧ (placeT Try.prog 163 10 = some (10, 1)) ∧ (strT Try.prog 163 = false) ∧ (fldT Try.prog 163 0 = some (0, 12)) ∧ (fldT Try.prog 163 1 = some (1, 12)) ∧ (fldT Try.prog 163 2 = some (2, 27)) ∧ (fldT Try.prog 163 3 = some (3, 156)) ∧ (fldT Try.prog 163 4 = some (4, 5)) ∧ (fldT Try.prog 163 5 = some (5, 5)) ∧ (fldT Try.prog 163 6 = some (6, 157)) ∧ (fldT Try.prog 163 7 = some (7, 158)) ∧ (fldT Try.prog 163 8 = some (8, 159)) ∧ (fldT Try.prog 163 9 = some (9, 160)) ∧ (fldT Try.prog 163 10 = some (10, 161)) ∧ ((Try.prog.underlying 163).isSome = true) := ⟨agg163, siz163, byt163, elem163, arr163, int163, zer163, eqg163, szs163, plc163_0, plc163_1, plc163_2, plc163_3, plc163_4, plc163_5, plc163_6, plc163_7, plc163_8, plc163_9, plc163_10, str163, fld163_0, fld163_1, fld163_2, fld163_3, fld163_4, fld163_5, fld163_6, fld163_7, fld163_8, fld163_9, fld163_10, und163⟩
theorem t164 : (aggT Try.prog 164 = some false) ∧ (sizT Try.prog 164 = some 1) ∧ (bytT Try.prog 164 = some 8) ∧ (elemT Try.prog 164 = none) ∧ (arrT Try.prog 164 = none) ∧ (intT Try.prog 164 = none) ∧ (zerT Try.prog 164 = some [.pointer none]) ∧ (strT Try.prog 164 = false) ∧ ((Try.prog.underlying 164).isSome = true) := ⟨agg164, siz164, byt164, elem164, arr164, int164, zer164, str164, und164⟩
end Go.Proofs.Ytghigcdpinogaaa.Ty
