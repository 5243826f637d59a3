/- Facts of this seat's types, each asked of the kernel. -/
import Derived.Test.YtnhedpdemmbfnaaProg
import Derived.Test.YtnhedpdemmbfnaaAb24
import Derived.KernelRfl
set_option linter.all false
namespace Go.Proofs.Ytnhedpdemmbfnaa.Ty
open Go Go.Ab
theorem agg2 : aggT Try.prog 2 = some false := by kernel_rfl
theorem siz2 : sizT Try.prog 2 = some 1 := by kernel_rfl
theorem byt2 : bytT Try.prog 2 = some 8 := by kernel_rfl
theorem elem2 : elemT Try.prog 2 = none := by kernel_rfl
theorem arr2 : arrT Try.prog 2 = none := by kernel_rfl
theorem int2 : intT Try.prog 2 = some .i64 := by kernel_rfl
theorem zer2 : zerT Try.prog 2 = some [.int .i64 0] := by kernel_rfl
theorem str2 : strT Try.prog 2 = false := by kernel_rfl
theorem agg3 : aggT Try.prog 3 = some false := by kernel_rfl
theorem siz3 : sizT Try.prog 3 = some 1 := by kernel_rfl
theorem byt3 : bytT Try.prog 3 = some 8 := by kernel_rfl
theorem elem3 : elemT Try.prog 3 = none := by kernel_rfl
theorem arr3 : arrT Try.prog 3 = none := by kernel_rfl
theorem int3 : intT Try.prog 3 = some .i64 := by kernel_rfl
theorem zer3 : zerT Try.prog 3 = some [.int .i64 0] := by kernel_rfl
theorem str3 : strT Try.prog 3 = false := by kernel_rfl
theorem agg4 : aggT Try.prog 4 = some false := by kernel_rfl
theorem siz4 : sizT Try.prog 4 = some 1 := by kernel_rfl
theorem byt4 : bytT Try.prog 4 = some 1 := by kernel_rfl
theorem elem4 : elemT Try.prog 4 = none := by kernel_rfl
theorem arr4 : arrT Try.prog 4 = none := by kernel_rfl
theorem int4 : intT Try.prog 4 = none := by kernel_rfl
theorem zer4 : zerT Try.prog 4 = some [.bool false] := by kernel_rfl
theorem str4 : strT Try.prog 4 = false := by kernel_rfl
theorem agg5 : aggT Try.prog 5 = some false := by kernel_rfl
theorem siz5 : sizT Try.prog 5 = some 1 := by kernel_rfl
theorem byt5 : bytT Try.prog 5 = some 1 := by kernel_rfl
theorem elem5 : elemT Try.prog 5 = none := by kernel_rfl
theorem arr5 : arrT Try.prog 5 = none := by kernel_rfl
theorem int5 : intT Try.prog 5 = some .u8 := by kernel_rfl
theorem zer5 : zerT Try.prog 5 = some [.int .u8 0] := by kernel_rfl
theorem str5 : strT Try.prog 5 = false := by kernel_rfl
theorem agg23 : aggT Try.prog 23 = some true := by kernel_rfl
theorem siz23 : sizT Try.prog 23 = some 4 := by kernel_rfl
theorem byt23 : bytT Try.prog 23 = some 32 := by kernel_rfl
theorem elem23 : elemT Try.prog 23 = none := by kernel_rfl
theorem arr23 : arrT Try.prog 23 = none := by kernel_rfl
theorem int23 : intT Try.prog 23 = none := by kernel_rfl
theorem zer23 : zerT Try.prog 23 = some [.bool false, .int .i64 0, .int .i64 0, .int .i64 0] := by kernel_rfl
theorem kd23 : kdT Try.prog 60 23 = some [.bool, .int .i64, .int .i64, .int .i64] := by kernel_rfl
theorem eqg23 : Try.prog.eqGuardType (Try.prog.depth) 23 = false := by kernel_rfl
theorem szs23 : sizesOk Try.prog 23 = true := by kernel_rfl
theorem plc23_0 : placeT Try.prog 23 0 = some (0, 1) := by kernel_rfl
theorem plc23_1 : placeT Try.prog 23 1 = some (1, 1) := by kernel_rfl
theorem plc23_2 : placeT Try.prog 23 2 = some (2, 1) := by kernel_rfl
theorem plc23_3 : placeT Try.prog 23 3 = some (3, 1) := by kernel_rfl
theorem str23 : strT Try.prog 23 = false := by kernel_rfl
theorem fld23_0 : fldT Try.prog 23 0 = some (0, 4) := by kernel_rfl
theorem fld23_1 : fldT Try.prog 23 1 = some (1, 3) := by kernel_rfl
theorem fld23_2 : fldT Try.prog 23 2 = some (2, 3) := by kernel_rfl
theorem fld23_3 : fldT Try.prog 23 3 = some (3, 2) := by kernel_rfl
theorem agg24 : aggT Try.prog 24 = some false := by kernel_rfl
theorem siz24 : sizT Try.prog 24 = some 1 := by kernel_rfl
theorem byt24 : bytT Try.prog 24 = some 4 := by kernel_rfl
theorem elem24 : elemT Try.prog 24 = none := by kernel_rfl
theorem arr24 : arrT Try.prog 24 = none := by kernel_rfl
theorem int24 : intT Try.prog 24 = some .u32 := by kernel_rfl
theorem zer24 : zerT Try.prog 24 = some [.int .u32 0] := by kernel_rfl
theorem str24 : strT Try.prog 24 = false := by kernel_rfl
theorem agg26 : aggT Try.prog 26 = some true := by kernel_rfl
theorem siz26 : sizT Try.prog 26 = some 2 := by kernel_rfl
theorem byt26 : bytT Try.prog 26 = some 8 := by kernel_rfl
theorem elem26 : elemT Try.prog 26 = none := by kernel_rfl
theorem arr26 : arrT Try.prog 26 = none := by kernel_rfl
theorem int26 : intT Try.prog 26 = none := by kernel_rfl
theorem zer26 : zerT Try.prog 26 = some [.bool false, .int .u32 0] := by kernel_rfl
theorem kd26 : kdT Try.prog 60 26 = some [.bool, .int .u32] := by kernel_rfl
theorem eqg26 : Try.prog.eqGuardType (Try.prog.depth) 26 = false := by kernel_rfl
theorem szs26 : sizesOk Try.prog 26 = true := by kernel_rfl
theorem plc26_0 : placeT Try.prog 26 0 = some (0, 1) := by kernel_rfl
theorem plc26_1 : placeT Try.prog 26 1 = some (1, 1) := by kernel_rfl
theorem str26 : strT Try.prog 26 = false := by kernel_rfl
theorem fld26_0 : fldT Try.prog 26 0 = some (0, 4) := by kernel_rfl
theorem fld26_1 : fldT Try.prog 26 1 = some (1, 24) := by kernel_rfl
theorem agg27 : aggT Try.prog 27 = some true := by kernel_rfl
theorem siz27 : sizT Try.prog 27 = some 8 := by kernel_rfl
theorem byt27 : bytT Try.prog 27 = some 8 := by kernel_rfl
theorem elem27 : elemT Try.prog 27 = none := by kernel_rfl
theorem arr27 : arrT Try.prog 27 = some (8, 5) := by kernel_rfl
theorem int27 : intT Try.prog 27 = none := by kernel_rfl
theorem zer27 : zerT Try.prog 27 = some [.int .u8 0, .int .u8 0, .int .u8 0, .int .u8 0, .int .u8 0, .int .u8 0, .int .u8 0, .int .u8 0] := by kernel_rfl
theorem kd27 : kdT Try.prog 60 27 = some [.int .u8, .int .u8, .int .u8, .int .u8, .int .u8, .int .u8, .int .u8, .int .u8] := by kernel_rfl
theorem eqg27 : Try.prog.eqGuardType (Try.prog.depth) 27 = false := by kernel_rfl
theorem szs27 : sizesOk Try.prog 27 = true := by kernel_rfl
theorem plc27_0 : placeT Try.prog 27 0 = some (0, 1) := by kernel_rfl
theorem plc27_1 : placeT Try.prog 27 1 = some (1, 1) := by kernel_rfl
theorem plc27_2 : placeT Try.prog 27 2 = some (2, 1) := by kernel_rfl
theorem plc27_3 : placeT Try.prog 27 3 = some (3, 1) := by kernel_rfl
theorem plc27_4 : placeT Try.prog 27 4 = some (4, 1) := by kernel_rfl
theorem plc27_5 : placeT Try.prog 27 5 = some (5, 1) := by kernel_rfl
theorem plc27_6 : placeT Try.prog 27 6 = some (6, 1) := by kernel_rfl
theorem plc27_7 : placeT Try.prog 27 7 = some (7, 1) := by kernel_rfl
theorem plc27_8 : placeT Try.prog 27 8 = some (8, 1) := by kernel_rfl
theorem plc27_9 : placeT Try.prog 27 9 = some (9, 1) := by kernel_rfl
theorem plc27_10 : placeT Try.prog 27 10 = some (10, 1) := by kernel_rfl
theorem plc27_11 : placeT Try.prog 27 11 = some (11, 1) := by kernel_rfl
theorem str27 : strT Try.prog 27 = false := by kernel_rfl
theorem agg29 : aggT Try.prog 29 = some true := by kernel_rfl
theorem siz29 : sizT Try.prog 29 = some 12 := by kernel_rfl
theorem byt29 : bytT Try.prog 29 = some 32 := by kernel_rfl
theorem elem29 : elemT Try.prog 29 = none := by kernel_rfl
theorem arr29 : arrT Try.prog 29 = none := by kernel_rfl
theorem int29 : intT Try.prog 29 = none := by kernel_rfl
theorem zer29 : zerT Try.prog 29 = some [.bool false, .int .u32 0, .bool false, .int .i64 0, .int .u8 0, .int .u8 0, .int .u8 0, .int .u8 0, .int .u8 0, .int .u8 0, .int .u8 0, .int .u8 0] := by kernel_rfl
theorem kd29 : kdT Try.prog 60 29 = some [.bool, .int .u32, .bool, .int .i64, .int .u8, .int .u8, .int .u8, .int .u8, .int .u8, .int .u8, .int .u8, .int .u8] := by kernel_rfl
theorem eqg29 : Try.prog.eqGuardType (Try.prog.depth) 29 = false := by kernel_rfl
theorem szs29 : sizesOk Try.prog 29 = true := by kernel_rfl
theorem plc29_0 : placeT Try.prog 29 0 = some (0, 2) := by kernel_rfl
theorem plc29_1 : placeT Try.prog 29 1 = some (2, 1) := by kernel_rfl
theorem plc29_2 : placeT Try.prog 29 2 = some (3, 1) := by kernel_rfl
theorem plc29_3 : placeT Try.prog 29 3 = some (4, 8) := by kernel_rfl
theorem str29 : strT Try.prog 29 = false := by kernel_rfl
theorem fld29_0 : fldT Try.prog 29 0 = some (0, 26) := by kernel_rfl
theorem fld29_1 : fldT Try.prog 29 1 = some (2, 4) := by kernel_rfl
theorem fld29_2 : fldT Try.prog 29 2 = some (3, 3) := by kernel_rfl
theorem fld29_3 : fldT Try.prog 29 3 = some (4, 27) := by kernel_rfl
theorem agg30 : aggT Try.prog 30 = some false := by kernel_rfl
theorem siz30 : sizT Try.prog 30 = some 1 := by kernel_rfl
theorem byt30 : bytT Try.prog 30 = some 8 := by kernel_rfl
theorem elem30 : elemT Try.prog 30 = none := by kernel_rfl
theorem arr30 : arrT Try.prog 30 = none := by kernel_rfl
theorem int30 : intT Try.prog 30 = some .i64 := by kernel_rfl
theorem zer30 : zerT Try.prog 30 = some [.int .i64 0] := by kernel_rfl
theorem str30 : strT Try.prog 30 = false := by kernel_rfl
theorem agg34 : aggT Try.prog 34 = some true := by kernel_rfl
theorem siz34 : sizT Try.prog 34 = some 4 := by kernel_rfl
theorem byt34 : bytT Try.prog 34 = some 32 := by kernel_rfl
theorem elem34 : elemT Try.prog 34 = none := by kernel_rfl
theorem arr34 : arrT Try.prog 34 = none := by kernel_rfl
theorem int34 : intT Try.prog 34 = none := by kernel_rfl
theorem zer34 : zerT Try.prog 34 = some [.bool false, .int .i64 0, .int .i64 0, .int .i64 0] := by kernel_rfl
theorem kd34 : kdT Try.prog 60 34 = some [.bool, .int .i64, .int .i64, .int .i64] := by kernel_rfl
theorem eqg34 : Try.prog.eqGuardType (Try.prog.depth) 34 = false := by kernel_rfl
theorem szs34 : sizesOk Try.prog 34 = true := by kernel_rfl
theorem plc34_0 : placeT Try.prog 34 0 = some (0, 1) := by kernel_rfl
theorem plc34_1 : placeT Try.prog 34 1 = some (1, 1) := by kernel_rfl
theorem plc34_2 : placeT Try.prog 34 2 = some (2, 1) := by kernel_rfl
theorem plc34_3 : placeT Try.prog 34 3 = some (3, 1) := by kernel_rfl
theorem str34 : strT Try.prog 34 = false := by kernel_rfl
theorem fld34_0 : fldT Try.prog 34 0 = some (0, 4) := by kernel_rfl
theorem fld34_1 : fldT Try.prog 34 1 = some (1, 3) := by kernel_rfl
theorem fld34_2 : fldT Try.prog 34 2 = some (2, 3) := by kernel_rfl
theorem fld34_3 : fldT Try.prog 34 3 = some (3, 2) := by kernel_rfl
theorem agg44 : aggT Try.prog 44 = some false := by kernel_rfl
theorem siz44 : sizT Try.prog 44 = some 1 := by kernel_rfl
theorem byt44 : bytT Try.prog 44 = some 24 := by kernel_rfl
theorem elem44 : elemT Try.prog 44 = some 52 := by kernel_rfl
theorem arr44 : arrT Try.prog 44 = none := by kernel_rfl
theorem int44 : intT Try.prog 44 = none := by kernel_rfl
theorem zer44 : zerT Try.prog 44 = some [.slice none 0 0] := by kernel_rfl
theorem str44 : strT Try.prog 44 = false := by kernel_rfl
theorem agg45 : aggT Try.prog 45 = some false := by kernel_rfl
theorem siz45 : sizT Try.prog 45 = some 1 := by kernel_rfl
theorem byt45 : bytT Try.prog 45 = some 8 := by kernel_rfl
theorem elem45 : elemT Try.prog 45 = none := by kernel_rfl
theorem arr45 : arrT Try.prog 45 = none := by kernel_rfl
theorem int45 : intT Try.prog 45 = none := by kernel_rfl
theorem zer45 : zerT Try.prog 45 = some [.pointer none] := by kernel_rfl
theorem str45 : strT Try.prog 45 = false := by kernel_rfl
theorem agg47 : aggT Try.prog 47 = some false := by kernel_rfl
theorem siz47 : sizT Try.prog 47 = some 1 := by kernel_rfl
theorem byt47 : bytT Try.prog 47 = some 8 := by kernel_rfl
theorem elem47 : elemT Try.prog 47 = none := by kernel_rfl
theorem arr47 : arrT Try.prog 47 = none := by kernel_rfl
theorem int47 : intT Try.prog 47 = none := by kernel_rfl
theorem zer47 : zerT Try.prog 47 = some [.pointer none] := by kernel_rfl
theorem str47 : strT Try.prog 47 = false := by kernel_rfl
theorem agg52 : aggT Try.prog 52 = some true := by kernel_rfl
theorem siz52 : sizT Try.prog 52 = some 5 := by kernel_rfl
theorem byt52 : bytT Try.prog 52 = some 40 := by kernel_rfl
theorem elem52 : elemT Try.prog 52 = none := by kernel_rfl
theorem arr52 : arrT Try.prog 52 = none := by kernel_rfl
theorem int52 : intT Try.prog 52 = none := by kernel_rfl
theorem zer52 : zerT Try.prog 52 = some [.bool false, .int .i64 0, .int .i64 0, .int .i64 0, .int .i64 0] := by kernel_rfl
theorem kd52 : kdT Try.prog 60 52 = some [.bool, .int .i64, .int .i64, .int .i64, .int .i64] := by kernel_rfl
theorem eqg52 : Try.prog.eqGuardType (Try.prog.depth) 52 = false := by kernel_rfl
theorem szs52 : sizesOk Try.prog 52 = true := by kernel_rfl
theorem plc52_0 : placeT Try.prog 52 0 = some (0, 4) := by kernel_rfl
theorem plc52_1 : placeT Try.prog 52 1 = some (4, 1) := by kernel_rfl
theorem str52 : strT Try.prog 52 = false := by kernel_rfl
theorem fld52_0 : fldT Try.prog 52 0 = some (0, 23) := by kernel_rfl
theorem fld52_1 : fldT Try.prog 52 1 = some (4, 2) := by kernel_rfl
theorem agg57 : aggT Try.prog 57 = some false := by kernel_rfl
theorem siz57 : sizT Try.prog 57 = some 1 := by kernel_rfl
theorem byt57 : bytT Try.prog 57 = some 24 := by kernel_rfl
theorem elem57 : elemT Try.prog 57 = some 5 := by kernel_rfl
theorem arr57 : arrT Try.prog 57 = none := by kernel_rfl
theorem int57 : intT Try.prog 57 = none := by kernel_rfl
theorem zer57 : zerT Try.prog 57 = some [.slice none 0 0] := by kernel_rfl
theorem str57 : strT Try.prog 57 = false := by kernel_rfl
theorem agg65 : aggT Try.prog 65 = some false := by kernel_rfl
theorem siz65 : sizT Try.prog 65 = some 1 := by kernel_rfl
theorem byt65 : bytT Try.prog 65 = some 8 := by kernel_rfl
theorem elem65 : elemT Try.prog 65 = none := by kernel_rfl
theorem arr65 : arrT Try.prog 65 = none := by kernel_rfl
theorem int65 : intT Try.prog 65 = none := by kernel_rfl
theorem zer65 : zerT Try.prog 65 = some [.pointer none] := by kernel_rfl
theorem str65 : strT Try.prog 65 = false := by kernel_rfl
theorem agg67 : aggT Try.prog 67 = some true := by kernel_rfl
theorem siz67 : sizT Try.prog 67 = some 1 := by kernel_rfl
theorem byt67 : bytT Try.prog 67 = some 8 := by kernel_rfl
theorem elem67 : elemT Try.prog 67 = none := by kernel_rfl
theorem arr67 : arrT Try.prog 67 = none := by kernel_rfl
theorem int67 : intT Try.prog 67 = none := by kernel_rfl
theorem zer67 : zerT Try.prog 67 = some [.pointer none] := by kernel_rfl
theorem eqg67 : Try.prog.eqGuardType (Try.prog.depth) 67 = false := by kernel_rfl
theorem szs67 : sizesOk Try.prog 67 = true := by kernel_rfl
theorem plc67_0 : placeT Try.prog 67 0 = some (0, 1) := by kernel_rfl
theorem str67 : strT Try.prog 67 = false := by kernel_rfl
theorem fld67_0 : fldT Try.prog 67 0 = some (0, 65) := by kernel_rfl
theorem agg69 : aggT Try.prog 69 = some true := by kernel_rfl
theorem siz69 : sizT Try.prog 69 = some 6 := by kernel_rfl
theorem byt69 : bytT Try.prog 69 = some 48 := by kernel_rfl
theorem elem69 : elemT Try.prog 69 = none := by kernel_rfl
theorem arr69 : arrT Try.prog 69 = none := by kernel_rfl
theorem int69 : intT Try.prog 69 = none := by kernel_rfl
theorem zer69 : zerT Try.prog 69 = some [.bool false, .bool false, .int .i64 0, .int .i64 0, .int .i64 0, .int .i64 0] := by kernel_rfl
theorem kd69 : kdT Try.prog 60 69 = some [.bool, .bool, .int .i64, .int .i64, .int .i64, .int .i64] := by kernel_rfl
theorem eqg69 : Try.prog.eqGuardType (Try.prog.depth) 69 = false := by kernel_rfl
theorem szs69 : sizesOk Try.prog 69 = true := by kernel_rfl
theorem plc69_0 : placeT Try.prog 69 0 = some (0, 1) := by kernel_rfl
theorem plc69_1 : placeT Try.prog 69 1 = some (1, 4) := by kernel_rfl
theorem plc69_2 : placeT Try.prog 69 2 = some (5, 1) := by kernel_rfl
theorem str69 : strT Try.prog 69 = false := by kernel_rfl
theorem fld69_0 : fldT Try.prog 69 0 = some (0, 4) := by kernel_rfl
theorem fld69_1 : fldT Try.prog 69 1 = some (1, 34) := by kernel_rfl
theorem fld69_2 : fldT Try.prog 69 2 = some (5, 2) := by kernel_rfl
theorem agg71 : aggT Try.prog 71 = some true := by kernel_rfl
theorem siz71 : sizT Try.prog 71 = some 5 := by kernel_rfl
theorem byt71 : bytT Try.prog 71 = some 40 := by kernel_rfl
theorem elem71 : elemT Try.prog 71 = none := by kernel_rfl
theorem arr71 : arrT Try.prog 71 = none := by kernel_rfl
theorem int71 : intT Try.prog 71 = none := by kernel_rfl
theorem zer71 : zerT Try.prog 71 = some [.bool false, .int .i64 0, .int .i64 0, .int .i64 0, .int .i64 0] := by kernel_rfl
theorem kd71 : kdT Try.prog 60 71 = some [.bool, .int .i64, .int .i64, .int .i64, .int .i64] := by kernel_rfl
theorem eqg71 : Try.prog.eqGuardType (Try.prog.depth) 71 = false := by kernel_rfl
theorem szs71 : sizesOk Try.prog 71 = true := by kernel_rfl
theorem plc71_0 : placeT Try.prog 71 0 = some (0, 4) := by kernel_rfl
theorem plc71_1 : placeT Try.prog 71 1 = some (4, 1) := by kernel_rfl
theorem str71 : strT Try.prog 71 = false := by kernel_rfl
theorem fld71_0 : fldT Try.prog 71 0 = some (0, 23) := by kernel_rfl
theorem fld71_1 : fldT Try.prog 71 1 = some (4, 2) := by kernel_rfl
theorem agg74 : aggT Try.prog 74 = some false := by kernel_rfl
theorem siz74 : sizT Try.prog 74 = some 1 := by kernel_rfl
theorem byt74 : bytT Try.prog 74 = some 8 := by kernel_rfl
theorem elem74 : elemT Try.prog 74 = none := by kernel_rfl
theorem arr74 : arrT Try.prog 74 = none := by kernel_rfl
theorem int74 : intT Try.prog 74 = some .u64 := by kernel_rfl
theorem zer74 : zerT Try.prog 74 = some [.int .u64 0] := by kernel_rfl
theorem str74 : strT Try.prog 74 = false := by kernel_rfl
theorem agg80 : aggT Try.prog 80 = some false := by kernel_rfl
theorem siz80 : sizT Try.prog 80 = some 1 := by kernel_rfl
theorem byt80 : bytT Try.prog 80 = some 8 := by kernel_rfl
theorem elem80 : elemT Try.prog 80 = none := by kernel_rfl
theorem arr80 : arrT Try.prog 80 = none := by kernel_rfl
theorem int80 : intT Try.prog 80 = some .u64 := by kernel_rfl
theorem zer80 : zerT Try.prog 80 = some [.int .u64 0] := by kernel_rfl
theorem str80 : strT Try.prog 80 = false := by kernel_rfl
theorem und2 : (Try.prog.underlying 2).isSome = true := by kernel_rfl
theorem und3 : (Try.prog.underlying 3).isSome = true := by kernel_rfl
theorem und4 : (Try.prog.underlying 4).isSome = true := by kernel_rfl
theorem und5 : (Try.prog.underlying 5).isSome = true := by kernel_rfl
theorem und23 : (Try.prog.underlying 23).isSome = true := by kernel_rfl
theorem und24 : (Try.prog.underlying 24).isSome = true := by kernel_rfl
theorem und26 : (Try.prog.underlying 26).isSome = true := by kernel_rfl
theorem und27 : (Try.prog.underlying 27).isSome = true := by kernel_rfl
theorem und29 : (Try.prog.underlying 29).isSome = true := by kernel_rfl
theorem und30 : (Try.prog.underlying 30).isSome = true := by kernel_rfl
theorem und34 : (Try.prog.underlying 34).isSome = true := by kernel_rfl
theorem und44 : (Try.prog.underlying 44).isSome = true := by kernel_rfl
theorem und45 : (Try.prog.underlying 45).isSome = true := by kernel_rfl
theorem und47 : (Try.prog.underlying 47).isSome = true := by kernel_rfl
theorem und52 : (Try.prog.underlying 52).isSome = true := by kernel_rfl
theorem und57 : (Try.prog.underlying 57).isSome = true := by kernel_rfl
theorem und65 : (Try.prog.underlying 65).isSome = true := by kernel_rfl
theorem und67 : (Try.prog.underlying 67).isSome = true := by kernel_rfl
theorem und69 : (Try.prog.underlying 69).isSome = true := by kernel_rfl
theorem und71 : (Try.prog.underlying 71).isSome = true := by kernel_rfl
theorem und74 : (Try.prog.underlying 74).isSome = true := by kernel_rfl
theorem und80 : (Try.prog.underlying 80).isSome = true := by kernel_rfl
end Go.Proofs.Ytnhedpdemmbfnaa.Ty
