/- Facts of this seat's types, each asked of the kernel. -/
import Derived.Test.YtfbjkccangembaaDoorProg
import Derived.Test.YtfbjkccangembaaDoorAb24
import Derived.KernelRfl
set_option linter.all false
namespace Go.Proofs.YtfbjkccangembaaDoor.Ty
open Go Go.Ab
theorem agg3 : aggT Tryd.prog 3 = some false := by kernel_rfl
theorem siz3 : sizT Tryd.prog 3 = some 1 := by kernel_rfl
theorem byt3 : bytT Tryd.prog 3 = some 8 := by kernel_rfl
theorem elem3 : elemT Tryd.prog 3 = none := by kernel_rfl
theorem arr3 : arrT Tryd.prog 3 = none := by kernel_rfl
theorem int3 : intT Tryd.prog 3 = some .i64 := by kernel_rfl
theorem zer3 : zerT Tryd.prog 3 = some [.int .i64 0] := by kernel_rfl
theorem str3 : strT Tryd.prog 3 = false := by kernel_rfl
theorem agg4 : aggT Tryd.prog 4 = some false := by kernel_rfl
theorem siz4 : sizT Tryd.prog 4 = some 1 := by kernel_rfl
theorem byt4 : bytT Tryd.prog 4 = some 1 := by kernel_rfl
theorem elem4 : elemT Tryd.prog 4 = none := by kernel_rfl
theorem arr4 : arrT Tryd.prog 4 = none := by kernel_rfl
theorem int4 : intT Tryd.prog 4 = none := by kernel_rfl
theorem zer4 : zerT Tryd.prog 4 = some [.bool false] := by kernel_rfl
theorem str4 : strT Tryd.prog 4 = false := by kernel_rfl
theorem agg5 : aggT Tryd.prog 5 = some false := by kernel_rfl
theorem siz5 : sizT Tryd.prog 5 = some 1 := by kernel_rfl
theorem byt5 : bytT Tryd.prog 5 = some 1 := by kernel_rfl
theorem elem5 : elemT Tryd.prog 5 = none := by kernel_rfl
theorem arr5 : arrT Tryd.prog 5 = none := by kernel_rfl
theorem int5 : intT Tryd.prog 5 = some .u8 := by kernel_rfl
theorem zer5 : zerT Tryd.prog 5 = some [.int .u8 0] := by kernel_rfl
theorem str5 : strT Tryd.prog 5 = false := by kernel_rfl
theorem agg22 : aggT Tryd.prog 22 = some false := by kernel_rfl
theorem siz22 : sizT Tryd.prog 22 = some 1 := by kernel_rfl
theorem byt22 : bytT Tryd.prog 22 = some 2 := by kernel_rfl
theorem elem22 : elemT Tryd.prog 22 = none := by kernel_rfl
theorem arr22 : arrT Tryd.prog 22 = none := by kernel_rfl
theorem int22 : intT Tryd.prog 22 = some .u16 := by kernel_rfl
theorem zer22 : zerT Tryd.prog 22 = some [.int .u16 0] := by kernel_rfl
theorem str22 : strT Tryd.prog 22 = false := by kernel_rfl
theorem agg23 : aggT Tryd.prog 23 = some false := by kernel_rfl
theorem siz23 : sizT Tryd.prog 23 = some 1 := by kernel_rfl
theorem byt23 : bytT Tryd.prog 23 = some 24 := by kernel_rfl
theorem elem23 : elemT Tryd.prog 23 = some 5 := by kernel_rfl
theorem arr23 : arrT Tryd.prog 23 = none := by kernel_rfl
theorem int23 : intT Tryd.prog 23 = none := by kernel_rfl
theorem zer23 : zerT Tryd.prog 23 = some [.slice none 0 0] := by kernel_rfl
theorem str23 : strT Tryd.prog 23 = false := by kernel_rfl
theorem agg31 : aggT Tryd.prog 31 = some false := by kernel_rfl
theorem siz31 : sizT Tryd.prog 31 = some 1 := by kernel_rfl
theorem byt31 : bytT Tryd.prog 31 = some 8 := by kernel_rfl
theorem elem31 : elemT Tryd.prog 31 = none := by kernel_rfl
theorem arr31 : arrT Tryd.prog 31 = none := by kernel_rfl
theorem int31 : intT Tryd.prog 31 = some .u64 := by kernel_rfl
theorem zer31 : zerT Tryd.prog 31 = some [.int .u64 0] := by kernel_rfl
theorem str31 : strT Tryd.prog 31 = false := by kernel_rfl
theorem agg34 : aggT Tryd.prog 34 = some false := by kernel_rfl
theorem siz34 : sizT Tryd.prog 34 = some 1 := by kernel_rfl
theorem byt34 : bytT Tryd.prog 34 = some 8 := by kernel_rfl
theorem elem34 : elemT Tryd.prog 34 = none := by kernel_rfl
theorem arr34 : arrT Tryd.prog 34 = none := by kernel_rfl
theorem int34 : intT Tryd.prog 34 = some .u64 := by kernel_rfl
theorem zer34 : zerT Tryd.prog 34 = some [.int .u64 0] := by kernel_rfl
theorem str34 : strT Tryd.prog 34 = false := by kernel_rfl
theorem agg36 : aggT Tryd.prog 36 = some false := by kernel_rfl
theorem siz36 : sizT Tryd.prog 36 = some 1 := by kernel_rfl
theorem byt36 : bytT Tryd.prog 36 = some 24 := by kernel_rfl
theorem elem36 : elemT Tryd.prog 36 = some 22 := by kernel_rfl
theorem arr36 : arrT Tryd.prog 36 = none := by kernel_rfl
theorem int36 : intT Tryd.prog 36 = none := by kernel_rfl
theorem zer36 : zerT Tryd.prog 36 = some [.slice none 0 0] := by kernel_rfl
theorem str36 : strT Tryd.prog 36 = false := by kernel_rfl
theorem agg38 : aggT Tryd.prog 38 = some true := by kernel_rfl
theorem siz38 : sizT Tryd.prog 38 = some 16 := by kernel_rfl
theorem byt38 : bytT Tryd.prog 38 = some 16 := by kernel_rfl
theorem elem38 : elemT Tryd.prog 38 = none := by kernel_rfl
theorem arr38 : arrT Tryd.prog 38 = some (16, 5) := by kernel_rfl
theorem int38 : intT Tryd.prog 38 = none := by kernel_rfl
theorem zer38 : zerT Tryd.prog 38 = some [.int .u8 0, .int .u8 0, .int .u8 0, .int .u8 0, .int .u8 0, .int .u8 0, .int .u8 0, .int .u8 0, .int .u8 0, .int .u8 0, .int .u8 0, .int .u8 0, .int .u8 0, .int .u8 0, .int .u8 0, .int .u8 0] := by kernel_rfl
theorem kd38 : kdT Tryd.prog 60 38 = some [.int .u8, .int .u8, .int .u8, .int .u8, .int .u8, .int .u8, .int .u8, .int .u8, .int .u8, .int .u8, .int .u8, .int .u8, .int .u8, .int .u8, .int .u8, .int .u8] := by kernel_rfl
theorem eqg38 : Tryd.prog.eqGuardType (Tryd.prog.depth) 38 = false := by kernel_rfl
theorem szs38 : sizesOk Tryd.prog 38 = true := by kernel_rfl
theorem plc38_0 : placeT Tryd.prog 38 0 = some (0, 1) := by kernel_rfl
theorem plc38_1 : placeT Tryd.prog 38 1 = some (1, 1) := by kernel_rfl
theorem plc38_2 : placeT Tryd.prog 38 2 = some (2, 1) := by kernel_rfl
theorem plc38_3 : placeT Tryd.prog 38 3 = some (3, 1) := by kernel_rfl
theorem plc38_4 : placeT Tryd.prog 38 4 = some (4, 1) := by kernel_rfl
theorem plc38_5 : placeT Tryd.prog 38 5 = some (5, 1) := by kernel_rfl
theorem plc38_6 : placeT Tryd.prog 38 6 = some (6, 1) := by kernel_rfl
theorem plc38_7 : placeT Tryd.prog 38 7 = some (7, 1) := by kernel_rfl
theorem plc38_8 : placeT Tryd.prog 38 8 = some (8, 1) := by kernel_rfl
theorem plc38_9 : placeT Tryd.prog 38 9 = some (9, 1) := by kernel_rfl
theorem plc38_10 : placeT Tryd.prog 38 10 = some (10, 1) := by kernel_rfl
theorem plc38_11 : placeT Tryd.prog 38 11 = some (11, 1) := by kernel_rfl
theorem str38 : strT Tryd.prog 38 = false := by kernel_rfl
theorem und3 : (Tryd.prog.underlying 3).isSome = true := by kernel_rfl
theorem und4 : (Tryd.prog.underlying 4).isSome = true := by kernel_rfl
theorem und5 : (Tryd.prog.underlying 5).isSome = true := by kernel_rfl
theorem und22 : (Tryd.prog.underlying 22).isSome = true := by kernel_rfl
theorem und23 : (Tryd.prog.underlying 23).isSome = true := by kernel_rfl
theorem und31 : (Tryd.prog.underlying 31).isSome = true := by kernel_rfl
theorem und34 : (Tryd.prog.underlying 34).isSome = true := by kernel_rfl
theorem und36 : (Tryd.prog.underlying 36).isSome = true := by kernel_rfl
theorem und38 : (Tryd.prog.underlying 38).isSome = true := by kernel_rfl
end Go.Proofs.YtfbjkccangembaaDoor.Ty
