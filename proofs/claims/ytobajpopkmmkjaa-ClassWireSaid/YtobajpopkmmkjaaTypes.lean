/- Facts of this seat's types, each asked of the kernel. -/
import Derived.Test.YtobajpopkmmkjaaProg
import Derived.Test.YtobajpopkmmkjaaAb24
import Derived.KernelRfl
set_option linter.all false
namespace Go.Proofs.Ytobajpopkmmkjaa.Ty
open Go Go.Ab
theorem agg3 : aggT Try.prog 3 = some false := by kernel_rfl
theorem siz3 : sizT Try.prog 3 = some 1 := by kernel_rfl
theorem byt3 : bytT Try.prog 3 = some 8 := by kernel_rfl
theorem elem3 : elemT Try.prog 3 = none := by kernel_rfl
theorem arr3 : arrT Try.prog 3 = none := by kernel_rfl
theorem int3 : intT Try.prog 3 = some .i64 := by kernel_rfl
theorem zer3 : zerT Try.prog 3 = some [.int .i64 0] := by kernel_rfl
theorem str3 : strT Try.prog 3 = false := by kernel_rfl
theorem agg4 : aggT Try.prog 4 = some false := by kernel_rfl
theorem siz4 : sizT Try.prog 4 = some 1 := by kernel_rfl
theorem byt4 : bytT Try.prog 4 = some 1 := by kernel_rfl
theorem elem4 : elemT Try.prog 4 = none := by kernel_rfl
theorem arr4 : arrT Try.prog 4 = none := by kernel_rfl
theorem int4 : intT Try.prog 4 = none := by kernel_rfl
theorem zer4 : zerT Try.prog 4 = some [.bool false] := by kernel_rfl
theorem str4 : strT Try.prog 4 = false := by kernel_rfl
theorem agg5 : aggT Try.prog 5 = some false := by kernel_rfl
theorem siz5 : sizT Try.prog 5 = some 1 := by kernel_rfl
theorem byt5 : bytT Try.prog 5 = some 1 := by kernel_rfl
theorem elem5 : elemT Try.prog 5 = none := by kernel_rfl
theorem arr5 : arrT Try.prog 5 = none := by kernel_rfl
theorem int5 : intT Try.prog 5 = some .u8 := by kernel_rfl
theorem zer5 : zerT Try.prog 5 = some [.int .u8 0] := by kernel_rfl
theorem str5 : strT Try.prog 5 = false := by kernel_rfl
theorem agg22 : aggT Try.prog 22 = some false := by kernel_rfl
theorem siz22 : sizT Try.prog 22 = some 1 := by kernel_rfl
theorem byt22 : bytT Try.prog 22 = some 8 := by kernel_rfl
theorem elem22 : elemT Try.prog 22 = none := by kernel_rfl
theorem arr22 : arrT Try.prog 22 = none := by kernel_rfl
theorem int22 : intT Try.prog 22 = some .i64 := by kernel_rfl
theorem zer22 : zerT Try.prog 22 = some [.int .i64 0] := by kernel_rfl
theorem str22 : strT Try.prog 22 = false := by kernel_rfl
theorem agg24 : aggT Try.prog 24 = some true := by kernel_rfl
theorem siz24 : sizT Try.prog 24 = some 4 := by kernel_rfl
theorem byt24 : bytT Try.prog 24 = some 32 := by kernel_rfl
theorem elem24 : elemT Try.prog 24 = none := by kernel_rfl
theorem arr24 : arrT Try.prog 24 = none := by kernel_rfl
theorem int24 : intT Try.prog 24 = none := by kernel_rfl
theorem zer24 : zerT Try.prog 24 = some [.int .i64 0, .int .i64 0, .int .i64 0, .int .i64 0] := by kernel_rfl
theorem kd24 : kdT Try.prog 60 24 = some [.int .i64, .int .i64, .int .i64, .int .i64] := by kernel_rfl
theorem eqg24 : Try.prog.eqGuardType (Try.prog.depth) 24 = false := by kernel_rfl
theorem szs24 : sizesOk Try.prog 24 = true := by kernel_rfl
theorem plc24_0 : placeT Try.prog 24 0 = some (0, 1) := by kernel_rfl
theorem plc24_1 : placeT Try.prog 24 1 = some (1, 1) := by kernel_rfl
theorem plc24_2 : placeT Try.prog 24 2 = some (2, 1) := by kernel_rfl
theorem plc24_3 : placeT Try.prog 24 3 = some (3, 1) := by kernel_rfl
theorem str24 : strT Try.prog 24 = false := by kernel_rfl
theorem fld24_0 : fldT Try.prog 24 0 = some (0, 22) := by kernel_rfl
theorem fld24_1 : fldT Try.prog 24 1 = some (1, 3) := by kernel_rfl
theorem fld24_2 : fldT Try.prog 24 2 = some (2, 3) := by kernel_rfl
theorem fld24_3 : fldT Try.prog 24 3 = some (3, 3) := by kernel_rfl
theorem agg25 : aggT Try.prog 25 = some false := by kernel_rfl
theorem siz25 : sizT Try.prog 25 = some 1 := by kernel_rfl
theorem byt25 : bytT Try.prog 25 = some 4 := by kernel_rfl
theorem elem25 : elemT Try.prog 25 = none := by kernel_rfl
theorem arr25 : arrT Try.prog 25 = none := by kernel_rfl
theorem int25 : intT Try.prog 25 = some .u32 := by kernel_rfl
theorem zer25 : zerT Try.prog 25 = some [.int .u32 0] := by kernel_rfl
theorem str25 : strT Try.prog 25 = false := by kernel_rfl
theorem agg27 : aggT Try.prog 27 = some true := by kernel_rfl
theorem siz27 : sizT Try.prog 27 = some 2 := by kernel_rfl
theorem byt27 : bytT Try.prog 27 = some 8 := by kernel_rfl
theorem elem27 : elemT Try.prog 27 = none := by kernel_rfl
theorem arr27 : arrT Try.prog 27 = none := by kernel_rfl
theorem int27 : intT Try.prog 27 = none := by kernel_rfl
theorem zer27 : zerT Try.prog 27 = some [.bool false, .int .u32 0] := by kernel_rfl
theorem kd27 : kdT Try.prog 60 27 = some [.bool, .int .u32] := by kernel_rfl
theorem eqg27 : Try.prog.eqGuardType (Try.prog.depth) 27 = false := by kernel_rfl
theorem szs27 : sizesOk Try.prog 27 = true := by kernel_rfl
theorem plc27_0 : placeT Try.prog 27 0 = some (0, 1) := by kernel_rfl
theorem plc27_1 : placeT Try.prog 27 1 = some (1, 1) := by kernel_rfl
theorem str27 : strT Try.prog 27 = false := by kernel_rfl
theorem fld27_0 : fldT Try.prog 27 0 = some (0, 4) := by kernel_rfl
theorem fld27_1 : fldT Try.prog 27 1 = some (1, 25) := by kernel_rfl
theorem agg28 : aggT Try.prog 28 = some false := by kernel_rfl
theorem siz28 : sizT Try.prog 28 = some 1 := by kernel_rfl
theorem byt28 : bytT Try.prog 28 = some 8 := by kernel_rfl
theorem elem28 : elemT Try.prog 28 = none := by kernel_rfl
theorem arr28 : arrT Try.prog 28 = none := by kernel_rfl
theorem int28 : intT Try.prog 28 = some .i64 := by kernel_rfl
theorem zer28 : zerT Try.prog 28 = some [.int .i64 0] := by kernel_rfl
theorem str28 : strT Try.prog 28 = false := by kernel_rfl
theorem agg36 : aggT Try.prog 36 = some false := by kernel_rfl
theorem siz36 : sizT Try.prog 36 = some 1 := by kernel_rfl
theorem byt36 : bytT Try.prog 36 = some 24 := by kernel_rfl
theorem elem36 : elemT Try.prog 36 = some 24 := by kernel_rfl
theorem arr36 : arrT Try.prog 36 = none := by kernel_rfl
theorem int36 : intT Try.prog 36 = none := by kernel_rfl
theorem zer36 : zerT Try.prog 36 = some [.slice none 0 0] := by kernel_rfl
theorem str36 : strT Try.prog 36 = false := by kernel_rfl
theorem agg49 : aggT Try.prog 49 = some false := by kernel_rfl
theorem siz49 : sizT Try.prog 49 = some 1 := by kernel_rfl
theorem byt49 : bytT Try.prog 49 = some 8 := by kernel_rfl
theorem elem49 : elemT Try.prog 49 = none := by kernel_rfl
theorem arr49 : arrT Try.prog 49 = none := by kernel_rfl
theorem int49 : intT Try.prog 49 = some .u64 := by kernel_rfl
theorem zer49 : zerT Try.prog 49 = some [.int .u64 0] := by kernel_rfl
theorem str49 : strT Try.prog 49 = false := by kernel_rfl
theorem agg54 : aggT Try.prog 54 = some true := by kernel_rfl
theorem siz54 : sizT Try.prog 54 = some 4 := by kernel_rfl
theorem byt54 : bytT Try.prog 54 = some 32 := by kernel_rfl
theorem elem54 : elemT Try.prog 54 = none := by kernel_rfl
theorem arr54 : arrT Try.prog 54 = some (4, 49) := by kernel_rfl
theorem int54 : intT Try.prog 54 = none := by kernel_rfl
theorem zer54 : zerT Try.prog 54 = some [.int .u64 0, .int .u64 0, .int .u64 0, .int .u64 0] := by kernel_rfl
theorem kd54 : kdT Try.prog 60 54 = some [.int .u64, .int .u64, .int .u64, .int .u64] := by kernel_rfl
theorem eqg54 : Try.prog.eqGuardType (Try.prog.depth) 54 = false := by kernel_rfl
theorem szs54 : sizesOk Try.prog 54 = true := by kernel_rfl
theorem plc54_0 : placeT Try.prog 54 0 = some (0, 1) := by kernel_rfl
theorem plc54_1 : placeT Try.prog 54 1 = some (1, 1) := by kernel_rfl
theorem plc54_2 : placeT Try.prog 54 2 = some (2, 1) := by kernel_rfl
theorem plc54_3 : placeT Try.prog 54 3 = some (3, 1) := by kernel_rfl
theorem plc54_4 : placeT Try.prog 54 4 = some (4, 1) := by kernel_rfl
theorem plc54_5 : placeT Try.prog 54 5 = some (5, 1) := by kernel_rfl
theorem plc54_6 : placeT Try.prog 54 6 = some (6, 1) := by kernel_rfl
theorem plc54_7 : placeT Try.prog 54 7 = some (7, 1) := by kernel_rfl
theorem plc54_8 : placeT Try.prog 54 8 = some (8, 1) := by kernel_rfl
theorem plc54_9 : placeT Try.prog 54 9 = some (9, 1) := by kernel_rfl
theorem plc54_10 : placeT Try.prog 54 10 = some (10, 1) := by kernel_rfl
theorem plc54_11 : placeT Try.prog 54 11 = some (11, 1) := by kernel_rfl
theorem str54 : strT Try.prog 54 = false := by kernel_rfl
theorem agg55 : aggT Try.prog 55 = some true := by kernel_rfl
theorem siz55 : sizT Try.prog 55 = some 4 := by kernel_rfl
theorem byt55 : bytT Try.prog 55 = some 32 := by kernel_rfl
theorem elem55 : elemT Try.prog 55 = none := by kernel_rfl
theorem arr55 : arrT Try.prog 55 = some (4, 3) := by kernel_rfl
theorem int55 : intT Try.prog 55 = none := by kernel_rfl
theorem zer55 : zerT Try.prog 55 = some [.int .i64 0, .int .i64 0, .int .i64 0, .int .i64 0] := by kernel_rfl
theorem kd55 : kdT Try.prog 60 55 = some [.int .i64, .int .i64, .int .i64, .int .i64] := by kernel_rfl
theorem eqg55 : Try.prog.eqGuardType (Try.prog.depth) 55 = false := by kernel_rfl
theorem szs55 : sizesOk Try.prog 55 = true := by kernel_rfl
theorem plc55_0 : placeT Try.prog 55 0 = some (0, 1) := by kernel_rfl
theorem plc55_1 : placeT Try.prog 55 1 = some (1, 1) := by kernel_rfl
theorem plc55_2 : placeT Try.prog 55 2 = some (2, 1) := by kernel_rfl
theorem plc55_3 : placeT Try.prog 55 3 = some (3, 1) := by kernel_rfl
theorem plc55_4 : placeT Try.prog 55 4 = some (4, 1) := by kernel_rfl
theorem plc55_5 : placeT Try.prog 55 5 = some (5, 1) := by kernel_rfl
theorem plc55_6 : placeT Try.prog 55 6 = some (6, 1) := by kernel_rfl
theorem plc55_7 : placeT Try.prog 55 7 = some (7, 1) := by kernel_rfl
theorem plc55_8 : placeT Try.prog 55 8 = some (8, 1) := by kernel_rfl
theorem plc55_9 : placeT Try.prog 55 9 = some (9, 1) := by kernel_rfl
theorem plc55_10 : placeT Try.prog 55 10 = some (10, 1) := by kernel_rfl
theorem plc55_11 : placeT Try.prog 55 11 = some (11, 1) := by kernel_rfl
theorem str55 : strT Try.prog 55 = false := by kernel_rfl
theorem elem58 : elemT Try.prog 58 = some 3 := by kernel_rfl
theorem arr58 : arrT Try.prog 58 = none := by kernel_rfl
theorem agg59 : aggT Try.prog 59 = some false := by kernel_rfl
theorem siz59 : sizT Try.prog 59 = some 1 := by kernel_rfl
theorem byt59 : bytT Try.prog 59 = some 24 := by kernel_rfl
theorem elem59 : elemT Try.prog 59 = some 5 := by kernel_rfl
theorem arr59 : arrT Try.prog 59 = none := by kernel_rfl
theorem int59 : intT Try.prog 59 = none := by kernel_rfl
theorem zer59 : zerT Try.prog 59 = some [.slice none 0 0] := by kernel_rfl
theorem str59 : strT Try.prog 59 = false := by kernel_rfl
theorem agg61 : aggT Try.prog 61 = some false := by kernel_rfl
theorem siz61 : sizT Try.prog 61 = some 1 := by kernel_rfl
theorem byt61 : bytT Try.prog 61 = some 8 := by kernel_rfl
theorem elem61 : elemT Try.prog 61 = none := by kernel_rfl
theorem arr61 : arrT Try.prog 61 = none := by kernel_rfl
theorem int61 : intT Try.prog 61 = some .u64 := by kernel_rfl
theorem zer61 : zerT Try.prog 61 = some [.int .u64 0] := by kernel_rfl
theorem str61 : strT Try.prog 61 = false := by kernel_rfl
theorem und3 : (Try.prog.underlying 3).isSome = true := by kernel_rfl
theorem und4 : (Try.prog.underlying 4).isSome = true := by kernel_rfl
theorem und5 : (Try.prog.underlying 5).isSome = true := by kernel_rfl
theorem und22 : (Try.prog.underlying 22).isSome = true := by kernel_rfl
theorem und24 : (Try.prog.underlying 24).isSome = true := by kernel_rfl
theorem und25 : (Try.prog.underlying 25).isSome = true := by kernel_rfl
theorem und27 : (Try.prog.underlying 27).isSome = true := by kernel_rfl
theorem und28 : (Try.prog.underlying 28).isSome = true := by kernel_rfl
theorem und36 : (Try.prog.underlying 36).isSome = true := by kernel_rfl
theorem und49 : (Try.prog.underlying 49).isSome = true := by kernel_rfl
theorem und54 : (Try.prog.underlying 54).isSome = true := by kernel_rfl
theorem und55 : (Try.prog.underlying 55).isSome = true := by kernel_rfl
theorem und59 : (Try.prog.underlying 59).isSome = true := by kernel_rfl
theorem und61 : (Try.prog.underlying 61).isSome = true := by kernel_rfl
end Go.Proofs.Ytobajpopkmmkjaa.Ty
