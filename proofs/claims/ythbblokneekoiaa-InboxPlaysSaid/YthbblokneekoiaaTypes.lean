/- Facts of this seat's types, each asked of the kernel. -/
import Derived.Test.YthbblokneekoiaaProg
import Derived.Test.YthbblokneekoiaaAb24
import Derived.KernelRfl
set_option linter.all false
namespace Go.Proofs.Ythbblokneekoiaa.Ty
open Go Go.Ab
theorem agg3 : aggT Try.prog 3 = some false := by kernel_rfl
theorem siz3 : sizT Try.prog 3 = some 1 := by kernel_rfl
theorem byt3 : bytT Try.prog 3 = some 8 := by kernel_rfl
theorem elem3 : elemT Try.prog 3 = none := by kernel_rfl
theorem arr3 : arrT Try.prog 3 = none := by kernel_rfl
theorem int3 : intT Try.prog 3 = some .i64 := by kernel_rfl
theorem zer3 : zerT Try.prog 3 = some [.int .i64 0] := by kernel_rfl
theorem str3 : strT Try.prog 3 = false := by kernel_rfl
theorem agg4 : aggT Try.prog 4 = some false := by kernel_rfl
theorem siz4 : sizT Try.prog 4 = some 1 := by kernel_rfl
theorem byt4 : bytT Try.prog 4 = some 1 := by kernel_rfl
theorem elem4 : elemT Try.prog 4 = none := by kernel_rfl
theorem arr4 : arrT Try.prog 4 = none := by kernel_rfl
theorem int4 : intT Try.prog 4 = none := by kernel_rfl
theorem zer4 : zerT Try.prog 4 = some [.bool false] := by kernel_rfl
theorem str4 : strT Try.prog 4 = false := by kernel_rfl
theorem agg5 : aggT Try.prog 5 = some false := by kernel_rfl
theorem siz5 : sizT Try.prog 5 = some 1 := by kernel_rfl
theorem byt5 : bytT Try.prog 5 = some 1 := by kernel_rfl
theorem elem5 : elemT Try.prog 5 = none := by kernel_rfl
theorem arr5 : arrT Try.prog 5 = none := by kernel_rfl
theorem int5 : intT Try.prog 5 = some .u8 := by kernel_rfl
theorem zer5 : zerT Try.prog 5 = some [.int .u8 0] := by kernel_rfl
theorem str5 : strT Try.prog 5 = false := by kernel_rfl
theorem agg22 : aggT Try.prog 22 = some false := by kernel_rfl
theorem siz22 : sizT Try.prog 22 = some 1 := by kernel_rfl
theorem byt22 : bytT Try.prog 22 = some 24 := by kernel_rfl
theorem elem22 : elemT Try.prog 22 = some 53 := by kernel_rfl
theorem arr22 : arrT Try.prog 22 = none := by kernel_rfl
theorem int22 : intT Try.prog 22 = none := by kernel_rfl
theorem zer22 : zerT Try.prog 22 = some [.slice none 0 0] := by kernel_rfl
theorem str22 : strT Try.prog 22 = false := by kernel_rfl
theorem elem23 : elemT Try.prog 23 = some 41 := by kernel_rfl
theorem arr23 : arrT Try.prog 23 = none := by kernel_rfl
theorem agg24 : aggT Try.prog 24 = some false := by kernel_rfl
theorem siz24 : sizT Try.prog 24 = some 1 := by kernel_rfl
theorem byt24 : bytT Try.prog 24 = some 8 := by kernel_rfl
theorem elem24 : elemT Try.prog 24 = none := by kernel_rfl
theorem arr24 : arrT Try.prog 24 = none := by kernel_rfl
theorem int24 : intT Try.prog 24 = none := by kernel_rfl
theorem zer24 : zerT Try.prog 24 = some [.pointer none] := by kernel_rfl
theorem str24 : strT Try.prog 24 = false := by kernel_rfl
theorem agg25 : aggT Try.prog 25 = some false := by kernel_rfl
theorem siz25 : sizT Try.prog 25 = some 1 := by kernel_rfl
theorem byt25 : bytT Try.prog 25 = some 8 := by kernel_rfl
theorem elem25 : elemT Try.prog 25 = none := by kernel_rfl
theorem arr25 : arrT Try.prog 25 = none := by kernel_rfl
theorem int25 : intT Try.prog 25 = some .i64 := by kernel_rfl
theorem zer25 : zerT Try.prog 25 = some [.int .i64 0] := by kernel_rfl
theorem str25 : strT Try.prog 25 = false := by kernel_rfl
theorem agg28 : aggT Try.prog 28 = some false := by kernel_rfl
theorem siz28 : sizT Try.prog 28 = some 1 := by kernel_rfl
theorem byt28 : bytT Try.prog 28 = some 8 := by kernel_rfl
theorem elem28 : elemT Try.prog 28 = none := by kernel_rfl
theorem arr28 : arrT Try.prog 28 = none := by kernel_rfl
theorem int28 : intT Try.prog 28 = none := by kernel_rfl
theorem zer28 : zerT Try.prog 28 = some [.pointer none] := by kernel_rfl
theorem str28 : strT Try.prog 28 = false := by kernel_rfl
theorem agg32 : aggT Try.prog 32 = some false := by kernel_rfl
theorem siz32 : sizT Try.prog 32 = some 1 := by kernel_rfl
theorem byt32 : bytT Try.prog 32 = some 4 := by kernel_rfl
theorem elem32 : elemT Try.prog 32 = none := by kernel_rfl
theorem arr32 : arrT Try.prog 32 = none := by kernel_rfl
theorem int32 : intT Try.prog 32 = some .u32 := by kernel_rfl
theorem zer32 : zerT Try.prog 32 = some [.int .u32 0] := by kernel_rfl
theorem str32 : strT Try.prog 32 = false := by kernel_rfl
theorem agg34 : aggT Try.prog 34 = some true := by kernel_rfl
theorem siz34 : sizT Try.prog 34 = some 2 := by kernel_rfl
theorem byt34 : bytT Try.prog 34 = some 8 := by kernel_rfl
theorem elem34 : elemT Try.prog 34 = none := by kernel_rfl
theorem arr34 : arrT Try.prog 34 = none := by kernel_rfl
theorem int34 : intT Try.prog 34 = none := by kernel_rfl
theorem zer34 : zerT Try.prog 34 = some [.bool false, .int .u32 0] := by kernel_rfl
theorem kd34 : kdT Try.prog 60 34 = some [.bool, .int .u32] := by kernel_rfl
theorem eqg34 : Try.prog.eqGuardType (Try.prog.depth) 34 = false := by kernel_rfl
theorem szs34 : sizesOk Try.prog 34 = true := by kernel_rfl
theorem plc34_0 : placeT Try.prog 34 0 = some (0, 1) := by kernel_rfl
theorem plc34_1 : placeT Try.prog 34 1 = some (1, 1) := by kernel_rfl
theorem str34 : strT Try.prog 34 = false := by kernel_rfl
theorem fld34_0 : fldT Try.prog 34 0 = some (0, 4) := by kernel_rfl
theorem fld34_1 : fldT Try.prog 34 1 = some (1, 32) := by kernel_rfl
theorem agg37 : aggT Try.prog 37 = some true := by kernel_rfl
theorem siz37 : sizT Try.prog 37 = some 12 := by kernel_rfl
theorem byt37 : bytT Try.prog 37 = some 32 := by kernel_rfl
theorem elem37 : elemT Try.prog 37 = none := by kernel_rfl
theorem arr37 : arrT Try.prog 37 = none := by kernel_rfl
theorem int37 : intT Try.prog 37 = none := by kernel_rfl
theorem zer37 : zerT Try.prog 37 = some [.bool false, .int .u32 0, .bool false, .int .i64 0, .int .u8 0, .int .u8 0, .int .u8 0, .int .u8 0, .int .u8 0, .int .u8 0, .int .u8 0, .int .u8 0] := by kernel_rfl
theorem kd37 : kdT Try.prog 60 37 = some [.bool, .int .u32, .bool, .int .i64, .int .u8, .int .u8, .int .u8, .int .u8, .int .u8, .int .u8, .int .u8, .int .u8] := by kernel_rfl
theorem eqg37 : Try.prog.eqGuardType (Try.prog.depth) 37 = false := by kernel_rfl
theorem szs37 : sizesOk Try.prog 37 = true := by kernel_rfl
theorem plc37_0 : placeT Try.prog 37 0 = some (0, 2) := by kernel_rfl
theorem plc37_1 : placeT Try.prog 37 1 = some (2, 1) := by kernel_rfl
theorem plc37_2 : placeT Try.prog 37 2 = some (3, 1) := by kernel_rfl
theorem plc37_3 : placeT Try.prog 37 3 = some (4, 8) := by kernel_rfl
theorem str37 : strT Try.prog 37 = false := by kernel_rfl
theorem fld37_0 : fldT Try.prog 37 0 = some (0, 34) := by kernel_rfl
theorem fld37_1 : fldT Try.prog 37 1 = some (2, 4) := by kernel_rfl
theorem fld37_2 : fldT Try.prog 37 2 = some (3, 3) := by kernel_rfl
theorem fld37_3 : fldT Try.prog 37 3 = some (4, 35) := by kernel_rfl
theorem agg39 : aggT Try.prog 39 = some true := by kernel_rfl
theorem siz39 : sizT Try.prog 39 = some 14 := by kernel_rfl
theorem byt39 : bytT Try.prog 39 = some 48 := by kernel_rfl
theorem elem39 : elemT Try.prog 39 = none := by kernel_rfl
theorem arr39 : arrT Try.prog 39 = none := by kernel_rfl
theorem int39 : intT Try.prog 39 = none := by kernel_rfl
theorem zer39 : zerT Try.prog 39 = some [.bool false, .int .u32 0, .bool false, .int .i64 0, .int .u8 0, .int .u8 0, .int .u8 0, .int .u8 0, .int .u8 0, .int .u8 0, .int .u8 0, .int .u8 0, .int .i64 0, .int .i64 0] := by kernel_rfl
theorem kd39 : kdT Try.prog 60 39 = some [.bool, .int .u32, .bool, .int .i64, .int .u8, .int .u8, .int .u8, .int .u8, .int .u8, .int .u8, .int .u8, .int .u8, .int .i64, .int .i64] := by kernel_rfl
theorem eqg39 : Try.prog.eqGuardType (Try.prog.depth) 39 = false := by kernel_rfl
theorem szs39 : sizesOk Try.prog 39 = true := by kernel_rfl
theorem plc39_0 : placeT Try.prog 39 0 = some (0, 12) := by kernel_rfl
theorem plc39_1 : placeT Try.prog 39 1 = some (12, 1) := by kernel_rfl
theorem plc39_2 : placeT Try.prog 39 2 = some (13, 1) := by kernel_rfl
theorem str39 : strT Try.prog 39 = false := by kernel_rfl
theorem fld39_0 : fldT Try.prog 39 0 = some (0, 37) := by kernel_rfl
theorem fld39_1 : fldT Try.prog 39 1 = some (12, 2) := by kernel_rfl
theorem fld39_2 : fldT Try.prog 39 2 = some (13, 2) := by kernel_rfl
theorem agg41 : aggT Try.prog 41 = some true := by kernel_rfl
theorem siz41 : sizT Try.prog 41 = some 15 := by kernel_rfl
theorem byt41 : bytT Try.prog 41 = some 56 := by kernel_rfl
theorem elem41 : elemT Try.prog 41 = none := by kernel_rfl
theorem arr41 : arrT Try.prog 41 = none := by kernel_rfl
theorem int41 : intT Try.prog 41 = none := by kernel_rfl
theorem zer41 : zerT Try.prog 41 = some [.int .i64 0, .bool false, .int .u32 0, .bool false, .int .i64 0, .int .u8 0, .int .u8 0, .int .u8 0, .int .u8 0, .int .u8 0, .int .u8 0, .int .u8 0, .int .u8 0, .int .i64 0, .int .i64 0] := by kernel_rfl
theorem kd41 : kdT Try.prog 60 41 = some [.int .i64, .bool, .int .u32, .bool, .int .i64, .int .u8, .int .u8, .int .u8, .int .u8, .int .u8, .int .u8, .int .u8, .int .u8, .int .i64, .int .i64] := by kernel_rfl
theorem eqg41 : Try.prog.eqGuardType (Try.prog.depth) 41 = false := by kernel_rfl
theorem szs41 : sizesOk Try.prog 41 = true := by kernel_rfl
theorem plc41_0 : placeT Try.prog 41 0 = some (0, 1) := by kernel_rfl
theorem plc41_1 : placeT Try.prog 41 1 = some (1, 14) := by kernel_rfl
theorem str41 : strT Try.prog 41 = false := by kernel_rfl
theorem fld41_0 : fldT Try.prog 41 0 = some (0, 3) := by kernel_rfl
theorem fld41_1 : fldT Try.prog 41 1 = some (1, 39) := by kernel_rfl
theorem agg46 : aggT Try.prog 46 = some false := by kernel_rfl
theorem siz46 : sizT Try.prog 46 = some 1 := by kernel_rfl
theorem byt46 : bytT Try.prog 46 = some 24 := by kernel_rfl
theorem elem46 : elemT Try.prog 46 = some 39 := by kernel_rfl
theorem arr46 : arrT Try.prog 46 = none := by kernel_rfl
theorem int46 : intT Try.prog 46 = none := by kernel_rfl
theorem zer46 : zerT Try.prog 46 = some [.slice none 0 0] := by kernel_rfl
theorem str46 : strT Try.prog 46 = false := by kernel_rfl
theorem agg48 : aggT Try.prog 48 = some true := by kernel_rfl
theorem siz48 : sizT Try.prog 48 = some 4 := by kernel_rfl
theorem byt48 : bytT Try.prog 48 = some 64 := by kernel_rfl
theorem elem48 : elemT Try.prog 48 = none := by kernel_rfl
theorem arr48 : arrT Try.prog 48 = none := by kernel_rfl
theorem int48 : intT Try.prog 48 = none := by kernel_rfl
theorem zer48 : zerT Try.prog 48 = some [.int .i64 0, .slice none 0 0, .slice none 0 0, .bool false] := by kernel_rfl
theorem eqg48 : Try.prog.eqGuardType (Try.prog.depth) 48 = false := by kernel_rfl
theorem szs48 : sizesOk Try.prog 48 = true := by kernel_rfl
theorem plc48_0 : placeT Try.prog 48 0 = some (0, 1) := by kernel_rfl
theorem plc48_1 : placeT Try.prog 48 1 = some (1, 1) := by kernel_rfl
theorem plc48_2 : placeT Try.prog 48 2 = some (2, 1) := by kernel_rfl
theorem plc48_3 : placeT Try.prog 48 3 = some (3, 1) := by kernel_rfl
theorem str48 : strT Try.prog 48 = false := by kernel_rfl
theorem fld48_0 : fldT Try.prog 48 0 = some (0, 3) := by kernel_rfl
theorem fld48_1 : fldT Try.prog 48 1 = some (1, 22) := by kernel_rfl
theorem fld48_2 : fldT Try.prog 48 2 = some (2, 46) := by kernel_rfl
theorem fld48_3 : fldT Try.prog 48 3 = some (3, 4) := by kernel_rfl
theorem agg53 : aggT Try.prog 53 = some true := by kernel_rfl
theorem siz53 : sizT Try.prog 53 = some 3 := by kernel_rfl
theorem byt53 : bytT Try.prog 53 = some 12 := by kernel_rfl
theorem elem53 : elemT Try.prog 53 = none := by kernel_rfl
theorem arr53 : arrT Try.prog 53 = none := by kernel_rfl
theorem int53 : intT Try.prog 53 = none := by kernel_rfl
theorem zer53 : zerT Try.prog 53 = some [.bool false, .int .u32 0, .int .u32 0] := by kernel_rfl
theorem kd53 : kdT Try.prog 60 53 = some [.bool, .int .u32, .int .u32] := by kernel_rfl
theorem eqg53 : Try.prog.eqGuardType (Try.prog.depth) 53 = false := by kernel_rfl
theorem szs53 : sizesOk Try.prog 53 = true := by kernel_rfl
theorem plc53_0 : placeT Try.prog 53 0 = some (0, 1) := by kernel_rfl
theorem plc53_1 : placeT Try.prog 53 1 = some (1, 1) := by kernel_rfl
theorem plc53_2 : placeT Try.prog 53 2 = some (2, 1) := by kernel_rfl
theorem str53 : strT Try.prog 53 = false := by kernel_rfl
theorem fld53_0 : fldT Try.prog 53 0 = some (0, 4) := by kernel_rfl
theorem fld53_1 : fldT Try.prog 53 1 = some (1, 32) := by kernel_rfl
theorem fld53_2 : fldT Try.prog 53 2 = some (2, 32) := by kernel_rfl
theorem agg57 : aggT Try.prog 57 = some true := by kernel_rfl
theorem siz57 : sizT Try.prog 57 = some 4 := by kernel_rfl
theorem byt57 : bytT Try.prog 57 = some 64 := by kernel_rfl
theorem elem57 : elemT Try.prog 57 = none := by kernel_rfl
theorem arr57 : arrT Try.prog 57 = none := by kernel_rfl
theorem int57 : intT Try.prog 57 = none := by kernel_rfl
theorem zer57 : zerT Try.prog 57 = some [.int .i64 0, .slice none 0 0, .slice none 0 0, .bool false] := by kernel_rfl
theorem eqg57 : Try.prog.eqGuardType (Try.prog.depth) 57 = false := by kernel_rfl
theorem szs57 : sizesOk Try.prog 57 = true := by kernel_rfl
theorem plc57_0 : placeT Try.prog 57 0 = some (0, 1) := by kernel_rfl
theorem plc57_1 : placeT Try.prog 57 1 = some (1, 1) := by kernel_rfl
theorem plc57_2 : placeT Try.prog 57 2 = some (2, 1) := by kernel_rfl
theorem plc57_3 : placeT Try.prog 57 3 = some (3, 1) := by kernel_rfl
theorem str57 : strT Try.prog 57 = false := by kernel_rfl
theorem fld57_0 : fldT Try.prog 57 0 = some (0, 3) := by kernel_rfl
theorem fld57_1 : fldT Try.prog 57 1 = some (1, 22) := by kernel_rfl
theorem fld57_2 : fldT Try.prog 57 2 = some (2, 46) := by kernel_rfl
theorem fld57_3 : fldT Try.prog 57 3 = some (3, 4) := by kernel_rfl
theorem und3 : (Try.prog.underlying 3).isSome = true := by kernel_rfl
theorem und4 : (Try.prog.underlying 4).isSome = true := by kernel_rfl
theorem und5 : (Try.prog.underlying 5).isSome = true := by kernel_rfl
theorem und22 : (Try.prog.underlying 22).isSome = true := by kernel_rfl
theorem und24 : (Try.prog.underlying 24).isSome = true := by kernel_rfl
theorem und25 : (Try.prog.underlying 25).isSome = true := by kernel_rfl
theorem und28 : (Try.prog.underlying 28).isSome = true := by kernel_rfl
theorem und32 : (Try.prog.underlying 32).isSome = true := by kernel_rfl
theorem und34 : (Try.prog.underlying 34).isSome = true := by kernel_rfl
theorem und37 : (Try.prog.underlying 37).isSome = true := by kernel_rfl
theorem und39 : (Try.prog.underlying 39).isSome = true := by kernel_rfl
theorem und41 : (Try.prog.underlying 41).isSome = true := by kernel_rfl
theorem und46 : (Try.prog.underlying 46).isSome = true := by kernel_rfl
theorem und48 : (Try.prog.underlying 48).isSome = true := by kernel_rfl
theorem und53 : (Try.prog.underlying 53).isSome = true := by kernel_rfl
theorem und57 : (Try.prog.underlying 57).isSome = true := by kernel_rfl
end Go.Proofs.Ythbblokneekoiaa.Ty
