/- Facts of this seat's types, each asked of the kernel. -/
import Derived.Test.YtlhoogdikhbemaaDoorProg
import Derived.Test.YtlhoogdikhbemaaDoorAbC
import Derived.KernelRfl
set_option linter.all false
namespace Go.Proofs.YtlhoogdikhbemaaDoor.Ty
open Go Go.Ab
theorem agg0 : aggT Tryd.prog 0 = some false := by kernel_rfl
theorem siz0 : sizT Tryd.prog 0 = some 1 := by kernel_rfl
theorem byt0 : bytT Tryd.prog 0 = some 0 := by kernel_rfl
theorem elem0 : elemT Tryd.prog 0 = none := by kernel_rfl
theorem arr0 : arrT Tryd.prog 0 = none := by kernel_rfl
theorem int0 : intT Tryd.prog 0 = none := by kernel_rfl
theorem str0 : strT Tryd.prog 0 = false := by kernel_rfl
theorem agg1 : aggT Tryd.prog 1 = some false := by kernel_rfl
theorem siz1 : sizT Tryd.prog 1 = some 1 := by kernel_rfl
theorem byt1 : bytT Tryd.prog 1 = some 8 := by kernel_rfl
theorem elem1 : elemT Tryd.prog 1 = none := by kernel_rfl
theorem arr1 : arrT Tryd.prog 1 = none := by kernel_rfl
theorem int1 : intT Tryd.prog 1 = none := by kernel_rfl
theorem zer1 : zerT Tryd.prog 1 = some [.nilFunc] := by kernel_rfl
theorem str1 : strT Tryd.prog 1 = false := by kernel_rfl
theorem agg2 : aggT Tryd.prog 2 = some false := by kernel_rfl
theorem siz2 : sizT Tryd.prog 2 = some 1 := by kernel_rfl
theorem byt2 : bytT Tryd.prog 2 = some 8 := by kernel_rfl
theorem elem2 : elemT Tryd.prog 2 = none := by kernel_rfl
theorem arr2 : arrT Tryd.prog 2 = none := by kernel_rfl
theorem int2 : intT Tryd.prog 2 = some .i64 := by kernel_rfl
theorem zer2 : zerT Tryd.prog 2 = some [.int .i64 0] := by kernel_rfl
theorem str2 : strT Tryd.prog 2 = false := by kernel_rfl
theorem agg3 : aggT Tryd.prog 3 = some false := by kernel_rfl
theorem siz3 : sizT Tryd.prog 3 = some 1 := by kernel_rfl
theorem byt3 : bytT Tryd.prog 3 = some 8 := by kernel_rfl
theorem elem3 : elemT Tryd.prog 3 = none := by kernel_rfl
theorem arr3 : arrT Tryd.prog 3 = none := by kernel_rfl
theorem int3 : intT Tryd.prog 3 = some .i64 := by kernel_rfl
theorem zer3 : zerT Tryd.prog 3 = some [.int .i64 0] := by kernel_rfl
theorem str3 : strT Tryd.prog 3 = false := by kernel_rfl
theorem agg4 : aggT Tryd.prog 4 = some false := by kernel_rfl
theorem siz4 : sizT Tryd.prog 4 = some 1 := by kernel_rfl
theorem byt4 : bytT Tryd.prog 4 = some 1 := by kernel_rfl
theorem elem4 : elemT Tryd.prog 4 = none := by kernel_rfl
theorem arr4 : arrT Tryd.prog 4 = none := by kernel_rfl
theorem int4 : intT Tryd.prog 4 = none := by kernel_rfl
theorem zer4 : zerT Tryd.prog 4 = some [.bool false] := by kernel_rfl
theorem str4 : strT Tryd.prog 4 = false := by kernel_rfl
theorem agg5 : aggT Tryd.prog 5 = some false := by kernel_rfl
theorem siz5 : sizT Tryd.prog 5 = some 1 := by kernel_rfl
theorem byt5 : bytT Tryd.prog 5 = some 1 := by kernel_rfl
theorem elem5 : elemT Tryd.prog 5 = none := by kernel_rfl
theorem arr5 : arrT Tryd.prog 5 = none := by kernel_rfl
theorem int5 : intT Tryd.prog 5 = some .u8 := by kernel_rfl
theorem zer5 : zerT Tryd.prog 5 = some [.int .u8 0] := by kernel_rfl
theorem str5 : strT Tryd.prog 5 = false := by kernel_rfl
theorem agg9 : aggT Tryd.prog 9 = some false := by kernel_rfl
theorem siz9 : sizT Tryd.prog 9 = some 1 := by kernel_rfl
theorem byt9 : bytT Tryd.prog 9 = some 16 := by kernel_rfl
theorem elem9 : elemT Tryd.prog 9 = none := by kernel_rfl
theorem arr9 : arrT Tryd.prog 9 = none := by kernel_rfl
theorem int9 : intT Tryd.prog 9 = none := by kernel_rfl
theorem zer9 : zerT Tryd.prog 9 = some [.string ByteArray.empty] := by kernel_rfl
theorem str9 : strT Tryd.prog 9 = true := by kernel_rfl
theorem agg22 : aggT Tryd.prog 22 = some false := by kernel_rfl
theorem siz22 : sizT Tryd.prog 22 = some 1 := by kernel_rfl
theorem byt22 : bytT Tryd.prog 22 = some 24 := by kernel_rfl
theorem elem22 : elemT Tryd.prog 22 = some 54 := by kernel_rfl
theorem arr22 : arrT Tryd.prog 22 = none := by kernel_rfl
theorem int22 : intT Tryd.prog 22 = none := by kernel_rfl
theorem zer22 : zerT Tryd.prog 22 = some [.slice none 0 0] := by kernel_rfl
theorem str22 : strT Tryd.prog 22 = false := by kernel_rfl
theorem agg30 : aggT Tryd.prog 30 = some false := by kernel_rfl
theorem siz30 : sizT Tryd.prog 30 = some 1 := by kernel_rfl
theorem byt30 : bytT Tryd.prog 30 = some 24 := by kernel_rfl
theorem elem30 : elemT Tryd.prog 30 = some 2 := by kernel_rfl
theorem arr30 : arrT Tryd.prog 30 = none := by kernel_rfl
theorem int30 : intT Tryd.prog 30 = none := by kernel_rfl
theorem zer30 : zerT Tryd.prog 30 = some [.slice none 0 0] := by kernel_rfl
theorem str30 : strT Tryd.prog 30 = false := by kernel_rfl
theorem agg33 : aggT Tryd.prog 33 = some false := by kernel_rfl
theorem siz33 : sizT Tryd.prog 33 = some 1 := by kernel_rfl
theorem byt33 : bytT Tryd.prog 33 = some 24 := by kernel_rfl
theorem elem33 : elemT Tryd.prog 33 = some 3 := by kernel_rfl
theorem arr33 : arrT Tryd.prog 33 = none := by kernel_rfl
theorem int33 : intT Tryd.prog 33 = none := by kernel_rfl
theorem zer33 : zerT Tryd.prog 33 = some [.slice none 0 0] := by kernel_rfl
theorem str33 : strT Tryd.prog 33 = false := by kernel_rfl
theorem agg37 : aggT Tryd.prog 37 = some false := by kernel_rfl
theorem siz37 : sizT Tryd.prog 37 = some 1 := by kernel_rfl
theorem byt37 : bytT Tryd.prog 37 = some 24 := by kernel_rfl
theorem elem37 : elemT Tryd.prog 37 = some 66 := by kernel_rfl
theorem arr37 : arrT Tryd.prog 37 = none := by kernel_rfl
theorem int37 : intT Tryd.prog 37 = none := by kernel_rfl
theorem zer37 : zerT Tryd.prog 37 = some [.slice none 0 0] := by kernel_rfl
theorem str37 : strT Tryd.prog 37 = false := by kernel_rfl
theorem agg38 : aggT Tryd.prog 38 = some false := by kernel_rfl
theorem siz38 : sizT Tryd.prog 38 = some 1 := by kernel_rfl
theorem byt38 : bytT Tryd.prog 38 = some 2 := by kernel_rfl
theorem elem38 : elemT Tryd.prog 38 = none := by kernel_rfl
theorem arr38 : arrT Tryd.prog 38 = none := by kernel_rfl
theorem int38 : intT Tryd.prog 38 = some .u16 := by kernel_rfl
theorem zer38 : zerT Tryd.prog 38 = some [.int .u16 0] := by kernel_rfl
theorem str38 : strT Tryd.prog 38 = false := by kernel_rfl
theorem agg40 : aggT Tryd.prog 40 = some false := by kernel_rfl
theorem siz40 : sizT Tryd.prog 40 = some 1 := by kernel_rfl
theorem byt40 : bytT Tryd.prog 40 = some 24 := by kernel_rfl
theorem elem40 : elemT Tryd.prog 40 = some 47 := by kernel_rfl
theorem arr40 : arrT Tryd.prog 40 = none := by kernel_rfl
theorem int40 : intT Tryd.prog 40 = none := by kernel_rfl
theorem zer40 : zerT Tryd.prog 40 = some [.slice none 0 0] := by kernel_rfl
theorem str40 : strT Tryd.prog 40 = false := by kernel_rfl
theorem agg42 : aggT Tryd.prog 42 = some false := by kernel_rfl
theorem siz42 : sizT Tryd.prog 42 = some 1 := by kernel_rfl
theorem byt42 : bytT Tryd.prog 42 = some 24 := by kernel_rfl
theorem elem42 : elemT Tryd.prog 42 = some 49 := by kernel_rfl
theorem arr42 : arrT Tryd.prog 42 = none := by kernel_rfl
theorem int42 : intT Tryd.prog 42 = none := by kernel_rfl
theorem zer42 : zerT Tryd.prog 42 = some [.slice none 0 0] := by kernel_rfl
theorem str42 : strT Tryd.prog 42 = false := by kernel_rfl
theorem agg43 : aggT Tryd.prog 43 = some false := by kernel_rfl
theorem siz43 : sizT Tryd.prog 43 = some 1 := by kernel_rfl
theorem byt43 : bytT Tryd.prog 43 = some 8 := by kernel_rfl
theorem elem43 : elemT Tryd.prog 43 = none := by kernel_rfl
theorem arr43 : arrT Tryd.prog 43 = none := by kernel_rfl
theorem int43 : intT Tryd.prog 43 = some .i64 := by kernel_rfl
theorem zer43 : zerT Tryd.prog 43 = some [.int .i64 0] := by kernel_rfl
theorem str43 : strT Tryd.prog 43 = false := by kernel_rfl
theorem agg47 : aggT Tryd.prog 47 = some true := by kernel_rfl
theorem siz47 : sizT Tryd.prog 47 = some 4 := by kernel_rfl
theorem byt47 : bytT Tryd.prog 47 = some 32 := by kernel_rfl
theorem elem47 : elemT Tryd.prog 47 = none := by kernel_rfl
theorem arr47 : arrT Tryd.prog 47 = none := by kernel_rfl
theorem int47 : intT Tryd.prog 47 = none := by kernel_rfl
theorem zer47 : zerT Tryd.prog 47 = some [.int .i64 0, .int .i64 0, .int .i64 0, .int .i64 0] := by kernel_rfl
theorem kd47 : kdT Tryd.prog 60 47 = some [.int .i64, .int .i64, .int .i64, .int .i64] := by kernel_rfl
theorem eqg47 : Tryd.prog.eqGuardType (Tryd.prog.depth) 47 = false := by kernel_rfl
theorem szs47 : sizesOk Tryd.prog 47 = true := by kernel_rfl
theorem plc47_0 : placeT Tryd.prog 47 0 = some (0, 1) := by kernel_rfl
theorem plc47_1 : placeT Tryd.prog 47 1 = some (1, 1) := by kernel_rfl
theorem plc47_2 : placeT Tryd.prog 47 2 = some (2, 1) := by kernel_rfl
theorem plc47_3 : placeT Tryd.prog 47 3 = some (3, 1) := by kernel_rfl
theorem str47 : strT Tryd.prog 47 = false := by kernel_rfl
theorem fld47_0 : fldT Tryd.prog 47 0 = some (0, 3) := by kernel_rfl
theorem fld47_1 : fldT Tryd.prog 47 1 = some (1, 2) := by kernel_rfl
theorem fld47_2 : fldT Tryd.prog 47 2 = some (2, 2) := by kernel_rfl
theorem fld47_3 : fldT Tryd.prog 47 3 = some (3, 2) := by kernel_rfl
theorem agg49 : aggT Tryd.prog 49 = some true := by kernel_rfl
theorem siz49 : sizT Tryd.prog 49 = some 3 := by kernel_rfl
theorem byt49 : bytT Tryd.prog 49 = some 24 := by kernel_rfl
theorem elem49 : elemT Tryd.prog 49 = none := by kernel_rfl
theorem arr49 : arrT Tryd.prog 49 = none := by kernel_rfl
theorem int49 : intT Tryd.prog 49 = none := by kernel_rfl
theorem zer49 : zerT Tryd.prog 49 = some [.int .i64 0, .int .i64 0, .int .i64 0] := by kernel_rfl
theorem kd49 : kdT Tryd.prog 60 49 = some [.int .i64, .int .i64, .int .i64] := by kernel_rfl
theorem eqg49 : Tryd.prog.eqGuardType (Tryd.prog.depth) 49 = false := by kernel_rfl
theorem szs49 : sizesOk Tryd.prog 49 = true := by kernel_rfl
theorem plc49_0 : placeT Tryd.prog 49 0 = some (0, 1) := by kernel_rfl
theorem plc49_1 : placeT Tryd.prog 49 1 = some (1, 1) := by kernel_rfl
theorem plc49_2 : placeT Tryd.prog 49 2 = some (2, 1) := by kernel_rfl
theorem str49 : strT Tryd.prog 49 = false := by kernel_rfl
theorem fld49_0 : fldT Tryd.prog 49 0 = some (0, 3) := by kernel_rfl
theorem fld49_1 : fldT Tryd.prog 49 1 = some (1, 2) := by kernel_rfl
theorem fld49_2 : fldT Tryd.prog 49 2 = some (2, 2) := by kernel_rfl
theorem agg52 : aggT Tryd.prog 52 = some false := by kernel_rfl
theorem siz52 : sizT Tryd.prog 52 = some 1 := by kernel_rfl
theorem byt52 : bytT Tryd.prog 52 = some 8 := by kernel_rfl
theorem elem52 : elemT Tryd.prog 52 = none := by kernel_rfl
theorem arr52 : arrT Tryd.prog 52 = none := by kernel_rfl
theorem int52 : intT Tryd.prog 52 = some .i64 := by kernel_rfl
theorem zer52 : zerT Tryd.prog 52 = some [.int .i64 0] := by kernel_rfl
theorem str52 : strT Tryd.prog 52 = false := by kernel_rfl
theorem agg54 : aggT Tryd.prog 54 = some true := by kernel_rfl
theorem siz54 : sizT Tryd.prog 54 = some 7 := by kernel_rfl
theorem byt54 : bytT Tryd.prog 54 = some 56 := by kernel_rfl
theorem elem54 : elemT Tryd.prog 54 = none := by kernel_rfl
theorem arr54 : arrT Tryd.prog 54 = none := by kernel_rfl
theorem int54 : intT Tryd.prog 54 = none := by kernel_rfl
theorem zer54 : zerT Tryd.prog 54 = some [.int .i64 0, .int .i64 0, .int .i64 0, .int .i64 0, .int .i64 0, .int .i64 0, .int .i64 0] := by kernel_rfl
theorem kd54 : kdT Tryd.prog 60 54 = some [.int .i64, .int .i64, .int .i64, .int .i64, .int .i64, .int .i64, .int .i64] := by kernel_rfl
theorem eqg54 : Tryd.prog.eqGuardType (Tryd.prog.depth) 54 = false := by kernel_rfl
theorem szs54 : sizesOk Tryd.prog 54 = true := by kernel_rfl
theorem plc54_0 : placeT Tryd.prog 54 0 = some (0, 1) := by kernel_rfl
theorem plc54_1 : placeT Tryd.prog 54 1 = some (1, 1) := by kernel_rfl
theorem plc54_2 : placeT Tryd.prog 54 2 = some (2, 1) := by kernel_rfl
theorem plc54_3 : placeT Tryd.prog 54 3 = some (3, 1) := by kernel_rfl
theorem plc54_4 : placeT Tryd.prog 54 4 = some (4, 1) := by kernel_rfl
theorem plc54_5 : placeT Tryd.prog 54 5 = some (5, 1) := by kernel_rfl
theorem plc54_6 : placeT Tryd.prog 54 6 = some (6, 1) := by kernel_rfl
theorem str54 : strT Tryd.prog 54 = false := by kernel_rfl
theorem fld54_0 : fldT Tryd.prog 54 0 = some (0, 3) := by kernel_rfl
theorem fld54_1 : fldT Tryd.prog 54 1 = some (1, 3) := by kernel_rfl
theorem fld54_2 : fldT Tryd.prog 54 2 = some (2, 52) := by kernel_rfl
theorem fld54_3 : fldT Tryd.prog 54 3 = some (3, 2) := by kernel_rfl
theorem fld54_4 : fldT Tryd.prog 54 4 = some (4, 2) := by kernel_rfl
theorem fld54_5 : fldT Tryd.prog 54 5 = some (5, 3) := by kernel_rfl
theorem fld54_6 : fldT Tryd.prog 54 6 = some (6, 3) := by kernel_rfl
theorem agg66 : aggT Tryd.prog 66 = some true := by kernel_rfl
theorem siz66 : sizT Tryd.prog 66 = some 3 := by kernel_rfl
theorem byt66 : bytT Tryd.prog 66 = some 16 := by kernel_rfl
theorem elem66 : elemT Tryd.prog 66 = none := by kernel_rfl
theorem arr66 : arrT Tryd.prog 66 = none := by kernel_rfl
theorem int66 : intT Tryd.prog 66 = none := by kernel_rfl
theorem zer66 : zerT Tryd.prog 66 = some [.int .i64 0, .int .u16 0, .int .u16 0] := by kernel_rfl
theorem kd66 : kdT Tryd.prog 60 66 = some [.int .i64, .int .u16, .int .u16] := by kernel_rfl
theorem eqg66 : Tryd.prog.eqGuardType (Tryd.prog.depth) 66 = false := by kernel_rfl
theorem szs66 : sizesOk Tryd.prog 66 = true := by kernel_rfl
theorem plc66_0 : placeT Tryd.prog 66 0 = some (0, 1) := by kernel_rfl
theorem plc66_1 : placeT Tryd.prog 66 1 = some (1, 1) := by kernel_rfl
theorem plc66_2 : placeT Tryd.prog 66 2 = some (2, 1) := by kernel_rfl
theorem str66 : strT Tryd.prog 66 = false := by kernel_rfl
theorem fld66_0 : fldT Tryd.prog 66 0 = some (0, 3) := by kernel_rfl
theorem fld66_1 : fldT Tryd.prog 66 1 = some (1, 38) := by kernel_rfl
theorem fld66_2 : fldT Tryd.prog 66 2 = some (2, 38) := by kernel_rfl
theorem agg70 : aggT Tryd.prog 70 = some false := by kernel_rfl
theorem siz70 : sizT Tryd.prog 70 = some 1 := by kernel_rfl
theorem byt70 : bytT Tryd.prog 70 = some 24 := by kernel_rfl
theorem elem70 : elemT Tryd.prog 70 = some 4 := by kernel_rfl
theorem arr70 : arrT Tryd.prog 70 = none := by kernel_rfl
theorem int70 : intT Tryd.prog 70 = none := by kernel_rfl
theorem zer70 : zerT Tryd.prog 70 = some [.slice none 0 0] := by kernel_rfl
theorem str70 : strT Tryd.prog 70 = false := by kernel_rfl
theorem agg79 : aggT Tryd.prog 79 = some false := by kernel_rfl
theorem siz79 : sizT Tryd.prog 79 = some 1 := by kernel_rfl
theorem byt79 : bytT Tryd.prog 79 = some 8 := by kernel_rfl
theorem elem79 : elemT Tryd.prog 79 = none := by kernel_rfl
theorem arr79 : arrT Tryd.prog 79 = none := by kernel_rfl
theorem int79 : intT Tryd.prog 79 = none := by kernel_rfl
theorem zer79 : zerT Tryd.prog 79 = some [.nilFunc] := by kernel_rfl
theorem str79 : strT Tryd.prog 79 = false := by kernel_rfl
theorem agg87 : aggT Tryd.prog 87 = some true := by kernel_rfl
theorem siz87 : sizT Tryd.prog 87 = some 4 := by kernel_rfl
theorem byt87 : bytT Tryd.prog 87 = some 32 := by kernel_rfl
theorem elem87 : elemT Tryd.prog 87 = none := by kernel_rfl
theorem arr87 : arrT Tryd.prog 87 = none := by kernel_rfl
theorem int87 : intT Tryd.prog 87 = none := by kernel_rfl
theorem zer87 : zerT Tryd.prog 87 = some [.int .i64 0, .int .i64 0, .int .i64 0, .int .i64 0] := by kernel_rfl
theorem kd87 : kdT Tryd.prog 60 87 = some [.int .i64, .int .i64, .int .i64, .int .i64] := by kernel_rfl
theorem eqg87 : Tryd.prog.eqGuardType (Tryd.prog.depth) 87 = false := by kernel_rfl
theorem szs87 : sizesOk Tryd.prog 87 = true := by kernel_rfl
theorem plc87_0 : placeT Tryd.prog 87 0 = some (0, 1) := by kernel_rfl
theorem plc87_1 : placeT Tryd.prog 87 1 = some (1, 1) := by kernel_rfl
theorem plc87_2 : placeT Tryd.prog 87 2 = some (2, 1) := by kernel_rfl
theorem plc87_3 : placeT Tryd.prog 87 3 = some (3, 1) := by kernel_rfl
theorem str87 : strT Tryd.prog 87 = false := by kernel_rfl
theorem fld87_0 : fldT Tryd.prog 87 0 = some (0, 52) := by kernel_rfl
theorem fld87_1 : fldT Tryd.prog 87 1 = some (1, 3) := by kernel_rfl
theorem fld87_2 : fldT Tryd.prog 87 2 = some (2, 3) := by kernel_rfl
theorem fld87_3 : fldT Tryd.prog 87 3 = some (3, 3) := by kernel_rfl
theorem agg91 : aggT Tryd.prog 91 = some false := by kernel_rfl
theorem siz91 : sizT Tryd.prog 91 = some 1 := by kernel_rfl
theorem byt91 : bytT Tryd.prog 91 = some 4 := by kernel_rfl
theorem elem91 : elemT Tryd.prog 91 = none := by kernel_rfl
theorem arr91 : arrT Tryd.prog 91 = none := by kernel_rfl
theorem int91 : intT Tryd.prog 91 = some .u32 := by kernel_rfl
theorem zer91 : zerT Tryd.prog 91 = some [.int .u32 0] := by kernel_rfl
theorem str91 : strT Tryd.prog 91 = false := by kernel_rfl
theorem agg93 : aggT Tryd.prog 93 = some true := by kernel_rfl
theorem siz93 : sizT Tryd.prog 93 = some 2 := by kernel_rfl
theorem byt93 : bytT Tryd.prog 93 = some 8 := by kernel_rfl
theorem elem93 : elemT Tryd.prog 93 = none := by kernel_rfl
theorem arr93 : arrT Tryd.prog 93 = none := by kernel_rfl
theorem int93 : intT Tryd.prog 93 = none := by kernel_rfl
theorem zer93 : zerT Tryd.prog 93 = some [.bool false, .int .u32 0] := by kernel_rfl
theorem kd93 : kdT Tryd.prog 60 93 = some [.bool, .int .u32] := by kernel_rfl
theorem eqg93 : Tryd.prog.eqGuardType (Tryd.prog.depth) 93 = false := by kernel_rfl
theorem szs93 : sizesOk Tryd.prog 93 = true := by kernel_rfl
theorem plc93_0 : placeT Tryd.prog 93 0 = some (0, 1) := by kernel_rfl
theorem plc93_1 : placeT Tryd.prog 93 1 = some (1, 1) := by kernel_rfl
theorem str93 : strT Tryd.prog 93 = false := by kernel_rfl
theorem fld93_0 : fldT Tryd.prog 93 0 = some (0, 4) := by kernel_rfl
theorem fld93_1 : fldT Tryd.prog 93 1 = some (1, 91) := by kernel_rfl
theorem agg94 : aggT Tryd.prog 94 = some true := by kernel_rfl
theorem siz94 : sizT Tryd.prog 94 = some 8 := by kernel_rfl
theorem byt94 : bytT Tryd.prog 94 = some 8 := by kernel_rfl
theorem elem94 : elemT Tryd.prog 94 = none := by kernel_rfl
theorem arr94 : arrT Tryd.prog 94 = some (8, 5) := by kernel_rfl
theorem int94 : intT Tryd.prog 94 = none := by kernel_rfl
theorem zer94 : zerT Tryd.prog 94 = some [.int .u8 0, .int .u8 0, .int .u8 0, .int .u8 0, .int .u8 0, .int .u8 0, .int .u8 0, .int .u8 0] := by kernel_rfl
theorem kd94 : kdT Tryd.prog 60 94 = some [.int .u8, .int .u8, .int .u8, .int .u8, .int .u8, .int .u8, .int .u8, .int .u8] := by kernel_rfl
theorem eqg94 : Tryd.prog.eqGuardType (Tryd.prog.depth) 94 = false := by kernel_rfl
theorem szs94 : sizesOk Tryd.prog 94 = true := by kernel_rfl
theorem plc94_0 : placeT Tryd.prog 94 0 = some (0, 1) := by kernel_rfl
theorem plc94_1 : placeT Tryd.prog 94 1 = some (1, 1) := by kernel_rfl
theorem plc94_2 : placeT Tryd.prog 94 2 = some (2, 1) := by kernel_rfl
theorem plc94_3 : placeT Tryd.prog 94 3 = some (3, 1) := by kernel_rfl
theorem plc94_4 : placeT Tryd.prog 94 4 = some (4, 1) := by kernel_rfl
theorem plc94_5 : placeT Tryd.prog 94 5 = some (5, 1) := by kernel_rfl
theorem plc94_6 : placeT Tryd.prog 94 6 = some (6, 1) := by kernel_rfl
theorem plc94_7 : placeT Tryd.prog 94 7 = some (7, 1) := by kernel_rfl
theorem plc94_8 : placeT Tryd.prog 94 8 = some (8, 1) := by kernel_rfl
theorem plc94_9 : placeT Tryd.prog 94 9 = some (9, 1) := by kernel_rfl
theorem plc94_10 : placeT Tryd.prog 94 10 = some (10, 1) := by kernel_rfl
theorem plc94_11 : placeT Tryd.prog 94 11 = some (11, 1) := by kernel_rfl
theorem str94 : strT Tryd.prog 94 = false := by kernel_rfl
theorem agg96 : aggT Tryd.prog 96 = some true := by kernel_rfl
theorem siz96 : sizT Tryd.prog 96 = some 12 := by kernel_rfl
theorem byt96 : bytT Tryd.prog 96 = some 32 := by kernel_rfl
theorem elem96 : elemT Tryd.prog 96 = none := by kernel_rfl
theorem arr96 : arrT Tryd.prog 96 = none := by kernel_rfl
theorem int96 : intT Tryd.prog 96 = none := by kernel_rfl
theorem zer96 : zerT Tryd.prog 96 = some [.bool false, .int .u32 0, .bool false, .int .i64 0, .int .u8 0, .int .u8 0, .int .u8 0, .int .u8 0, .int .u8 0, .int .u8 0, .int .u8 0, .int .u8 0] := by kernel_rfl
theorem kd96 : kdT Tryd.prog 60 96 = some [.bool, .int .u32, .bool, .int .i64, .int .u8, .int .u8, .int .u8, .int .u8, .int .u8, .int .u8, .int .u8, .int .u8] := by kernel_rfl
theorem eqg96 : Tryd.prog.eqGuardType (Tryd.prog.depth) 96 = false := by kernel_rfl
theorem szs96 : sizesOk Tryd.prog 96 = true := by kernel_rfl
theorem plc96_0 : placeT Tryd.prog 96 0 = some (0, 2) := by kernel_rfl
theorem plc96_1 : placeT Tryd.prog 96 1 = some (2, 1) := by kernel_rfl
theorem plc96_2 : placeT Tryd.prog 96 2 = some (3, 1) := by kernel_rfl
theorem plc96_3 : placeT Tryd.prog 96 3 = some (4, 8) := by kernel_rfl
theorem str96 : strT Tryd.prog 96 = false := by kernel_rfl
theorem fld96_0 : fldT Tryd.prog 96 0 = some (0, 93) := by kernel_rfl
theorem fld96_1 : fldT Tryd.prog 96 1 = some (2, 4) := by kernel_rfl
theorem fld96_2 : fldT Tryd.prog 96 2 = some (3, 3) := by kernel_rfl
theorem fld96_3 : fldT Tryd.prog 96 3 = some (4, 94) := by kernel_rfl
theorem agg97 : aggT Tryd.prog 97 = some false := by kernel_rfl
theorem siz97 : sizT Tryd.prog 97 = some 1 := by kernel_rfl
theorem byt97 : bytT Tryd.prog 97 = some 24 := by kernel_rfl
theorem elem97 : elemT Tryd.prog 97 = some 5 := by kernel_rfl
theorem arr97 : arrT Tryd.prog 97 = none := by kernel_rfl
theorem int97 : intT Tryd.prog 97 = none := by kernel_rfl
theorem zer97 : zerT Tryd.prog 97 = some [.slice none 0 0] := by kernel_rfl
theorem str97 : strT Tryd.prog 97 = false := by kernel_rfl
theorem agg99 : aggT Tryd.prog 99 = some false := by kernel_rfl
theorem siz99 : sizT Tryd.prog 99 = some 1 := by kernel_rfl
theorem byt99 : bytT Tryd.prog 99 = some 8 := by kernel_rfl
theorem elem99 : elemT Tryd.prog 99 = none := by kernel_rfl
theorem arr99 : arrT Tryd.prog 99 = none := by kernel_rfl
theorem int99 : intT Tryd.prog 99 = some .u64 := by kernel_rfl
theorem zer99 : zerT Tryd.prog 99 = some [.int .u64 0] := by kernel_rfl
theorem str99 : strT Tryd.prog 99 = false := by kernel_rfl
theorem agg104 : aggT Tryd.prog 104 = some false := by kernel_rfl
theorem siz104 : sizT Tryd.prog 104 = some 1 := by kernel_rfl
theorem byt104 : bytT Tryd.prog 104 = some 8 := by kernel_rfl
theorem elem104 : elemT Tryd.prog 104 = none := by kernel_rfl
theorem arr104 : arrT Tryd.prog 104 = none := by kernel_rfl
theorem int104 : intT Tryd.prog 104 = some .u64 := by kernel_rfl
theorem zer104 : zerT Tryd.prog 104 = some [.int .u64 0] := by kernel_rfl
theorem str104 : strT Tryd.prog 104 = false := by kernel_rfl
theorem agg110 : aggT Tryd.prog 110 = some false := by kernel_rfl
theorem siz110 : sizT Tryd.prog 110 = some 1 := by kernel_rfl
theorem byt110 : bytT Tryd.prog 110 = some 24 := by kernel_rfl
theorem elem110 : elemT Tryd.prog 110 = some 97 := by kernel_rfl
theorem arr110 : arrT Tryd.prog 110 = none := by kernel_rfl
theorem int110 : intT Tryd.prog 110 = none := by kernel_rfl
theorem zer110 : zerT Tryd.prog 110 = some [.slice none 0 0] := by kernel_rfl
theorem str110 : strT Tryd.prog 110 = false := by kernel_rfl
theorem agg119 : aggT Tryd.prog 119 = some true := by kernel_rfl
theorem siz119 : sizT Tryd.prog 119 = some 16 := by kernel_rfl
theorem byt119 : bytT Tryd.prog 119 = some 16 := by kernel_rfl
theorem elem119 : elemT Tryd.prog 119 = none := by kernel_rfl
theorem arr119 : arrT Tryd.prog 119 = some (16, 5) := by kernel_rfl
theorem int119 : intT Tryd.prog 119 = none := by kernel_rfl
theorem zer119 : zerT Tryd.prog 119 = some [.int .u8 0, .int .u8 0, .int .u8 0, .int .u8 0, .int .u8 0, .int .u8 0, .int .u8 0, .int .u8 0, .int .u8 0, .int .u8 0, .int .u8 0, .int .u8 0, .int .u8 0, .int .u8 0, .int .u8 0, .int .u8 0] := by kernel_rfl
theorem kd119 : kdT Tryd.prog 60 119 = some [.int .u8, .int .u8, .int .u8, .int .u8, .int .u8, .int .u8, .int .u8, .int .u8, .int .u8, .int .u8, .int .u8, .int .u8, .int .u8, .int .u8, .int .u8, .int .u8] := by kernel_rfl
theorem eqg119 : Tryd.prog.eqGuardType (Tryd.prog.depth) 119 = false := by kernel_rfl
theorem szs119 : sizesOk Tryd.prog 119 = true := by kernel_rfl
theorem plc119_0 : placeT Tryd.prog 119 0 = some (0, 1) := by kernel_rfl
theorem plc119_1 : placeT Tryd.prog 119 1 = some (1, 1) := by kernel_rfl
theorem plc119_2 : placeT Tryd.prog 119 2 = some (2, 1) := by kernel_rfl
theorem plc119_3 : placeT Tryd.prog 119 3 = some (3, 1) := by kernel_rfl
theorem plc119_4 : placeT Tryd.prog 119 4 = some (4, 1) := by kernel_rfl
theorem plc119_5 : placeT Tryd.prog 119 5 = some (5, 1) := by kernel_rfl
theorem plc119_6 : placeT Tryd.prog 119 6 = some (6, 1) := by kernel_rfl
theorem plc119_7 : placeT Tryd.prog 119 7 = some (7, 1) := by kernel_rfl
theorem plc119_8 : placeT Tryd.prog 119 8 = some (8, 1) := by kernel_rfl
theorem plc119_9 : placeT Tryd.prog 119 9 = some (9, 1) := by kernel_rfl
theorem plc119_10 : placeT Tryd.prog 119 10 = some (10, 1) := by kernel_rfl
theorem plc119_11 : placeT Tryd.prog 119 11 = some (11, 1) := by kernel_rfl
theorem str119 : strT Tryd.prog 119 = false := by kernel_rfl
theorem und0 : (Tryd.prog.underlying 0).isSome = true := by kernel_rfl
theorem und1 : (Tryd.prog.underlying 1).isSome = true := by kernel_rfl
theorem und2 : (Tryd.prog.underlying 2).isSome = true := by kernel_rfl
theorem und3 : (Tryd.prog.underlying 3).isSome = true := by kernel_rfl
theorem und4 : (Tryd.prog.underlying 4).isSome = true := by kernel_rfl
theorem und5 : (Tryd.prog.underlying 5).isSome = true := by kernel_rfl
theorem und9 : (Tryd.prog.underlying 9).isSome = true := by kernel_rfl
theorem und22 : (Tryd.prog.underlying 22).isSome = true := by kernel_rfl
theorem und30 : (Tryd.prog.underlying 30).isSome = true := by kernel_rfl
theorem und33 : (Tryd.prog.underlying 33).isSome = true := by kernel_rfl
theorem und37 : (Tryd.prog.underlying 37).isSome = true := by kernel_rfl
theorem und38 : (Tryd.prog.underlying 38).isSome = true := by kernel_rfl
theorem und40 : (Tryd.prog.underlying 40).isSome = true := by kernel_rfl
theorem und42 : (Tryd.prog.underlying 42).isSome = true := by kernel_rfl
theorem und43 : (Tryd.prog.underlying 43).isSome = true := by kernel_rfl
theorem und47 : (Tryd.prog.underlying 47).isSome = true := by kernel_rfl
theorem und49 : (Tryd.prog.underlying 49).isSome = true := by kernel_rfl
theorem und52 : (Tryd.prog.underlying 52).isSome = true := by kernel_rfl
theorem und54 : (Tryd.prog.underlying 54).isSome = true := by kernel_rfl
theorem und66 : (Tryd.prog.underlying 66).isSome = true := by kernel_rfl
theorem und70 : (Tryd.prog.underlying 70).isSome = true := by kernel_rfl
theorem und79 : (Tryd.prog.underlying 79).isSome = true := by kernel_rfl
theorem und87 : (Tryd.prog.underlying 87).isSome = true := by kernel_rfl
theorem und91 : (Tryd.prog.underlying 91).isSome = true := by kernel_rfl
theorem und93 : (Tryd.prog.underlying 93).isSome = true := by kernel_rfl
theorem und94 : (Tryd.prog.underlying 94).isSome = true := by kernel_rfl
theorem und96 : (Tryd.prog.underlying 96).isSome = true := by kernel_rfl
theorem und97 : (Tryd.prog.underlying 97).isSome = true := by kernel_rfl
theorem und99 : (Tryd.prog.underlying 99).isSome = true := by kernel_rfl
theorem und104 : (Tryd.prog.underlying 104).isSome = true := by kernel_rfl
theorem und110 : (Tryd.prog.underlying 110).isSome = true := by kernel_rfl
theorem und119 : (Tryd.prog.underlying 119).isSome = true := by kernel_rfl
theorem t0 : (aggT Tryd.prog 0 = some false) ∧ (sizT Tryd.prog 0 = some 1) ∧ (bytT Tryd.prog 0 = some 0) ∧ (elemT Tryd.prog 0 = none) ∧ (arrT Tryd.prog 0 = none) ∧ (intT Tryd.prog 0 = none) ∧ (strT Tryd.prog 0 = false) ∧ ((Tryd.prog.underlying 0).isSome = true) := ⟨agg0, siz0, byt0, elem0, arr0, int0, str0, und0⟩
theorem t1 : (aggT Tryd.prog 1 = some false) ∧ (sizT Tryd.prog 1 = some 1) ∧ (bytT Tryd.prog 1 = some 8) ∧ (elemT Tryd.prog 1 = none) ∧ (arrT Tryd.prog 1 = none) ∧ (intT Tryd.prog 1 = none) ∧ (zerT Tryd.prog 1 = some [.nilFunc]) ∧ (strT Tryd.prog 1 = false) ∧ ((Tryd.prog.underlying 1).isSome = true) := ⟨agg1, siz1, byt1, elem1, arr1, int1, zer1, str1, und1⟩
theorem t2 : (aggT Tryd.prog 2 = some false) ∧ (sizT Tryd.prog 2 = some 1) ∧ (bytT Tryd.prog 2 = some 8) ∧ (elemT Tryd.prog 2 = none) ∧ (arrT Tryd.prog 2 = none) ∧ (intT Tryd.prog 2 = some .i64) ∧ (zerT Tryd.prog 2 = some [.int .i64 0]) ∧ (strT Tryd.prog 2 = false) ∧ ((Tryd.prog.underlying 2).isSome = true) := ⟨agg2, siz2, byt2, elem2, arr2, int2, zer2, str2, und2⟩
theorem t3 : (aggT Tryd.prog 3 = some false) ∧ (sizT Tryd.prog 3 = some 1) ∧ (bytT Tryd.prog 3 = some 8) ∧ (elemT Tryd.prog 3 = none) ∧ (arrT Tryd.prog 3 = none) ∧ (intT Tryd.prog 3 = some .i64) ∧ (zerT Tryd.prog 3 = some [.int .i64 0]) ∧ (strT Tryd.prog 3 = false) ∧ ((Tryd.prog.underlying 3).isSome = true) := ⟨agg3, siz3, byt3, elem3, arr3, int3, zer3, str3, und3⟩
theorem t4 : (aggT Tryd.prog 4 = some false) ∧ (sizT Tryd.prog 4 = some 1) ∧ (bytT Tryd.prog 4 = some 1) ∧ (elemT Tryd.prog 4 = none) ∧ (arrT Tryd.prog 4 = none) ∧ (intT Tryd.prog 4 = none) ∧ (zerT Tryd.prog 4 = some [.bool false]) ∧ (strT Tryd.prog 4 = false) ∧ ((Tryd.prog.underlying 4).isSome = true) := ⟨agg4, siz4, byt4, elem4, arr4, int4, zer4, str4, und4⟩
theorem t5 : (aggT Tryd.prog 5 = some false) ∧ (sizT Tryd.prog 5 = some 1) ∧ (bytT Tryd.prog 5 = some 1) ∧ (elemT Tryd.prog 5 = none) ∧ (arrT Tryd.prog 5 = none) ∧ (intT Tryd.prog 5 = some .u8) ∧ (zerT Tryd.prog 5 = some [.int .u8 0]) ∧ (strT Tryd.prog 5 = false) ∧ ((Tryd.prog.underlying 5).isSome = true) := ⟨agg5, siz5, byt5, elem5, arr5, int5, zer5, str5, und5⟩
theorem t9 : (aggT Tryd.prog 9 = some false) ∧ (sizT Tryd.prog 9 = some 1) ∧ (bytT Tryd.prog 9 = some 16) ∧ (elemT Tryd.prog 9 = none) ∧ (arrT Tryd.prog 9 = none) ∧ (intT Tryd.prog 9 = none) ∧ (zerT Tryd.prog 9 = some [.string ByteArray.empty]) ∧ (strT Tryd.prog 9 = true) ∧ ((Tryd.prog.underlying 9).isSome = true) := ⟨agg9, siz9, byt9, elem9, arr9, int9, zer9, str9, und9⟩
theorem t22 : (aggT Tryd.prog 22 = some false) ∧ (sizT Tryd.prog 22 = some 1) ∧ (bytT Tryd.prog 22 = some 24) ∧ (elemT Tryd.prog 22 = some 54) ∧ (arrT Tryd.prog 22 = none) ∧ (intT Tryd.prog 22 = none) ∧ (zerT Tryd.prog 22 = some [.slice none 0 0]) ∧ (strT Tryd.prog 22 = false) ∧ ((Tryd.prog.underlying 22).isSome = true) := ⟨agg22, siz22, byt22, elem22, arr22, int22, zer22, str22, und22⟩
theorem t30 : (aggT Tryd.prog 30 = some false) ∧ (sizT Tryd.prog 30 = some 1) ∧ (bytT Tryd.prog 30 = some 24) ∧ (elemT Tryd.prog 30 = some 2) ∧ (arrT Tryd.prog 30 = none) ∧ (intT Tryd.prog 30 = none) ∧ (zerT Tryd.prog 30 = some [.slice none 0 0]) ∧ (strT Tryd.prog 30 = false) ∧ ((Tryd.prog.underlying 30).isSome = true) := ⟨agg30, siz30, byt30, elem30, arr30, int30, zer30, str30, und30⟩
theorem t33 : (aggT Tryd.prog 33 = some false) ∧ (sizT Tryd.prog 33 = some 1) ∧ (bytT Tryd.prog 33 = some 24) ∧ (elemT Tryd.prog 33 = some 3) ∧ (arrT Tryd.prog 33 = none) ∧ (intT Tryd.prog 33 = none) ∧ (zerT Tryd.prog 33 = some [.slice none 0 0]) ∧ (strT Tryd.prog 33 = false) ∧ ((Tryd.prog.underlying 33).isSome = true) := ⟨agg33, siz33, byt33, elem33, arr33, int33, zer33, str33, und33⟩
theorem t37 : (aggT Tryd.prog 37 = some false) ∧ (sizT Tryd.prog 37 = some 1) ∧ (bytT Tryd.prog 37 = some 24) ∧ (elemT Tryd.prog 37 = some 66) ∧ (arrT Tryd.prog 37 = none) ∧ (intT Tryd.prog 37 = none) ∧ (zerT Tryd.prog 37 = some [.slice none 0 0]) ∧ (strT Tryd.prog 37 = false) ∧ ((Tryd.prog.underlying 37).isSome = true) := ⟨agg37, siz37, byt37, elem37, arr37, int37, zer37, str37, und37⟩
theorem t38 : (aggT Tryd.prog 38 = some false) ∧ (sizT Tryd.prog 38 = some 1) ∧ (bytT Tryd.prog 38 = some 2) ∧ (elemT Tryd.prog 38 = none) ∧ (arrT Tryd.prog 38 = none) ∧ (intT Tryd.prog 38 = some .u16) ∧ (zerT Tryd.prog 38 = some [.int .u16 0]) ∧ (strT Tryd.prog 38 = false) ∧ ((Tryd.prog.underlying 38).isSome = true) := ⟨agg38, siz38, byt38, elem38, arr38, int38, zer38, str38, und38⟩
theorem t40 : (aggT Tryd.prog 40 = some false) ∧ (sizT Tryd.prog 40 = some 1) ∧ (bytT Tryd.prog 40 = some 24) ∧ (elemT Tryd.prog 40 = some 47) ∧ (arrT Tryd.prog 40 = none) ∧ (intT Tryd.prog 40 = none) ∧ (zerT Tryd.prog 40 = some [.slice none 0 0]) ∧ (strT Tryd.prog 40 = false) ∧ ((Tryd.prog.underlying 40).isSome = true) := ⟨agg40, siz40, byt40, elem40, arr40, int40, zer40, str40, und40⟩
theorem t42 : (aggT Tryd.prog 42 = some false) ∧ (sizT Tryd.prog 42 = some 1) ∧ (bytT Tryd.prog 42 = some 24) ∧ (elemT Tryd.prog 42 = some 49) ∧ (arrT Tryd.prog 42 = none) ∧ (intT Tryd.prog 42 = none) ∧ (zerT Tryd.prog 42 = some [.slice none 0 0]) ∧ (strT Tryd.prog 42 = false) ∧ ((Tryd.prog.underlying 42).isSome = true) := ⟨agg42, siz42, byt42, elem42, arr42, int42, zer42, str42, und42⟩
theorem t43 : (aggT Tryd.prog 43 = some false) ∧ (sizT Tryd.prog 43 = some 1) ∧ (bytT Tryd.prog 43 = some 8) ∧ (elemT Tryd.prog 43 = none) ∧ (arrT Tryd.prog 43 = none) ∧ (intT Tryd.prog 43 = some .i64) ∧ (zerT Tryd.prog 43 = some [.int .i64 0]) ∧ (strT Tryd.prog 43 = false) ∧ ((Tryd.prog.underlying 43).isSome = true) := ⟨agg43, siz43, byt43, elem43, arr43, int43, zer43, str43, und43⟩
theorem t47 : (aggT Tryd.prog 47 = some true) ∧ (sizT Tryd.prog 47 = some 4) ∧ (bytT Tryd.prog 47 = some 32) ∧ (elemT Tryd.prog 47 = none) ∧ (arrT Tryd.prog 47 = none) ∧ (intT Tryd.prog 47 = none) ∧ (zerT Tryd.prog 47 = some [.int .i64 0, .int .i64 0, .int .i64 0, .int .i64 0]) ∧ (kdT Tryd.prog 60 47 = some [.int .i64, .int .i64, .int .i64, .int .i64]) ∧ (Tryd.prog.eqGuardType (Tryd.prog.depth) 47 = false) ∧ (sizesOk Tryd.prog 47 = true) ∧ (placeT Tryd.prog 47 0 = some (0, 1)) ∧ (placeT Tryd.prog 47 1 = some (1, 1)) ∧ (placeT Tryd.prog 47 2 = some (2, 1)) ∧ (placeT Tryd.prog 47 3 = some (3, 1)) ∧ (strT Tryd.prog 47 = false) ∧ (fldT Tryd.prog 47 0 = some (0, 3)) ∧ (fldT Tryd.prog 47 1 = some (1, 2)) ∧ (fldT Tryd.prog 47 2 = some (2, 2)) ∧ (fldT Tryd.prog 47 3 = some (3, 2)) ∧ ((Tryd.prog.underlying 47).isSome = true) := ⟨agg47, siz47, byt47, elem47, arr47, int47, zer47, kd47, eqg47, szs47, plc47_0, plc47_1, plc47_2, plc47_3, str47, fld47_0, fld47_1, fld47_2, fld47_3, und47⟩
theorem t49 : (aggT Tryd.prog 49 = some true) ∧ (sizT Tryd.prog 49 = some 3) ∧ (bytT Tryd.prog 49 = some 24) ∧ (elemT Tryd.prog 49 = none) ∧ (arrT Tryd.prog 49 = none) ∧ (intT Tryd.prog 49 = none) ∧ (zerT Tryd.prog 49 = some [.int .i64 0, .int .i64 0, .int .i64 0]) ∧ (kdT Tryd.prog 60 49 = some [.int .i64, .int .i64, .int .i64]) ∧ (Tryd.prog.eqGuardType (Tryd.prog.depth) 49 = false) ∧ (sizesOk Tryd.prog 49 = true) ∧ (placeT Tryd.prog 49 0 = some (0, 1)) ∧ (placeT Tryd.prog 49 1 = some (1, 1)) ∧ (placeT Tryd.prog 49 2 = some (2, 1)) ∧ (strT Tryd.prog 49 = false) ∧ (fldT Tryd.prog 49 0 = some (0, 3)) ∧ (fldT Tryd.prog 49 1 = some (1, 2)) ∧ (fldT Tryd.prog 49 2 = some (2, 2)) ∧ ((Tryd.prog.underlying 49).isSome = true) := ⟨agg49, siz49, byt49, elem49, arr49, int49, zer49, kd49, eqg49, szs49, plc49_0, plc49_1, plc49_2, str49, fld49_0, fld49_1, fld49_2, und49⟩
theorem t52 : (aggT Tryd.prog 52 = some false) ∧ (sizT Tryd.prog 52 = some 1) ∧ (bytT Tryd.prog 52 = some 8) ∧ (elemT Tryd.prog 52 = none) ∧ (arrT Tryd.prog 52 = none) ∧ (intT Tryd.prog 52 = some .i64) ∧ (zerT Tryd.prog 52 = some [.int .i64 0]) ∧ (strT Tryd.prog 52 = false) ∧ ((Tryd.prog.underlying 52).isSome = true) := ⟨agg52, siz52, byt52, elem52, arr52, int52, zer52, str52, und52⟩
theorem t54 : (aggT Tryd.prog 54 = some true) ∧ (sizT Tryd.prog 54 = some 7) ∧ (bytT Tryd.prog 54 = some 56) ∧ (elemT Tryd.prog 54 = none) ∧ (arrT Tryd.prog 54 = none) ∧ (intT Tryd.prog 54 = none) ∧ (zerT Tryd.prog 54 = some [.int .i64 0, .int .i64 0, .int .i64 0, .int .i64 0, .int .i64 0, .int .i64 0, .int .i64 0]) ∧ (kdT Tryd.prog 60 54 = some [.int .i64, .int .i64, .int .i64, .int .i64, .int .i64, .int .i64, .int .i64]) ∧ (Tryd.prog.eqGuardType (Tryd.prog.depth) 54 = false) ∧ (sizesOk Tryd.prog 54 = true) ∧ (placeT Tryd.prog 54 0 = some (0, 1)) ∧ (placeT Tryd.prog 54 1 = some (1, 1)) ∧ (placeT Tryd.prog 54 2 = some (2, 1)) ∧ (placeT Tryd.prog 54 3 = some (3, 1)) ∧ (placeT Tryd.prog 54 4 = some (4, 1)) ∧ (placeT Tryd.prog 54 5 = some (5, 1)) ∧ (placeT Tryd.prog 54 6 = some (6, 1)) ∧ (strT Tryd.prog 54 = false) ∧ (fldT Tryd.prog 54 0 = some (0, 3)) ∧ (fldT Tryd.prog 54 1 = some (1, 3)) ∧ (fldT Tryd.prog 54 2 = some (2, 52)) ∧ (fldT Tryd.prog 54 3 = some (3, 2)) ∧ (fldT Tryd.prog 54 4 = some (4, 2)) ∧ (fldT Tryd.prog 54 5 = some (5, 3)) ∧ (fldT Tryd.prog 54 6 = some (6, 3)) ∧ ((Tryd.prog.underlying 54).isSome = true) := ⟨agg54, siz54, byt54, elem54, arr54, int54, zer54, kd54, eqg54, szs54, plc54_0, plc54_1, plc54_2, plc54_3, plc54_4, plc54_5, plc54_6, str54, fld54_0, fld54_1, fld54_2, fld54_3, fld54_4, fld54_5, fld54_6, und54⟩
theorem t66 : (aggT Tryd.prog 66 = some true) ∧ (sizT Tryd.prog 66 = some 3) ∧ (bytT Tryd.prog 66 = some 16) ∧ (elemT Tryd.prog 66 = none) ∧ (arrT Tryd.prog 66 = none) ∧ (intT Tryd.prog 66 = none) ∧ (zerT Tryd.prog 66 = some [.int .i64 0, .int .u16 0, .int .u16 0]) ∧ (kdT Tryd.prog 60 66 = some [.int .i64, .int .u16, .int .u16]) ∧ (Tryd.prog.eqGuardType (Tryd.prog.depth) 66 = false) ∧ (sizesOk Tryd.prog 66 = true) ∧ (placeT Tryd.prog 66 0 = some (0, 1)) ∧ (placeT Tryd.prog 66 1 = some (1, 1)) ∧ (placeT Tryd.prog 66 2 = some (2, 1)) ∧ (strT Tryd.prog 66 = false) ∧ (fldT Tryd.prog 66 0 = some (0, 3)) ∧ (fldT Tryd.prog 66 1 = some (1, 38)) ∧ (fldT Tryd.prog 66 2 = some (2, 38)) ∧ ((Tryd.prog.underlying 66).isSome = true) := ⟨agg66, siz66, byt66, elem66, arr66, int66, zer66, kd66, eqg66, szs66, plc66_0, plc66_1, plc66_2, str66, fld66_0, fld66_1, fld66_2, und66⟩
theorem t70 : (aggT Tryd.prog 70 = some false) ∧ (sizT Tryd.prog 70 = some 1) ∧ (bytT Tryd.prog 70 = some 24) ∧ (elemT Tryd.prog 70 = some 4) ∧ (arrT Tryd.prog 70 = none) ∧ (intT Tryd.prog 70 = none) ∧ (zerT Tryd.prog 70 = some [.slice none 0 0]) ∧ (strT Tryd.prog 70 = false) ∧ ((Tryd.prog.underlying 70).isSome = true) := ⟨agg70, siz70, byt70, elem70, arr70, int70, zer70, str70, und70⟩
theorem t79 : (aggT Tryd.prog 79 = some false) ∧ (sizT Tryd.prog 79 = some 1) ∧ (bytT Tryd.prog 79 = some 8) ∧ (elemT Tryd.prog 79 = none) ∧ (arrT Tryd.prog 79 = none) ∧ (intT Tryd.prog 79 = none) ∧ (zerT Tryd.prog 79 = some [.nilFunc]) ∧ (strT Tryd.prog 79 = false) ∧ ((Tryd.prog.underlying 79).isSome = true) := ⟨agg79, siz79, byt79, elem79, arr79, int79, zer79, str79, und79⟩
theorem t87 : (aggT Tryd.prog 87 = some true) ∧ (sizT Tryd.prog 87 = some 4) ∧ (bytT Tryd.prog 87 = some 32) ∧ (elemT Tryd.prog 87 = none) ∧ (arrT Tryd.prog 87 = none) ∧ (intT Tryd.prog 87 = none) ∧ (zerT Tryd.prog 87 = some [.int .i64 0, .int .i64 0, .int .i64 0, .int .i64 0]) ∧ (kdT Tryd.prog 60 87 = some [.int .i64, .int .i64, .int .i64, .int .i64]) ∧ (Tryd.prog.eqGuardType (Tryd.prog.depth) 87 = false) ∧ (sizesOk Tryd.prog 87 = true) ∧ (placeT Tryd.prog 87 0 = some (0, 1)) ∧ (placeT Tryd.prog 87 1 = some (1, 1)) ∧ (placeT Tryd.prog 87 2 = some (2, 1)) ∧ (placeT Tryd.prog 87 3 = some (3, 1)) ∧ (strT Tryd.prog 87 = false) ∧ (fldT Tryd.prog 87 0 = some (0, 52)) ∧ (fldT Tryd.prog 87 1 = some (1, 3)) ∧ (fldT Tryd.prog 87 2 = some (2, 3)) ∧ (fldT Tryd.prog 87 3 = some (3, 3)) ∧ ((Tryd.prog.underlying 87).isSome = true) := ⟨agg87, siz87, byt87, elem87, arr87, int87, zer87, kd87, eqg87, szs87, plc87_0, plc87_1, plc87_2, plc87_3, str87, fld87_0, fld87_1, fld87_2, fld87_3, und87⟩
theorem t91 : (aggT Tryd.prog 91 = some false) ∧ (sizT Tryd.prog 91 = some 1) ∧ (bytT Tryd.prog 91 = some 4) ∧ (elemT Tryd.prog 91 = none) ∧ (arrT Tryd.prog 91 = none) ∧ (intT Tryd.prog 91 = some .u32) ∧ (zerT Tryd.prog 91 = some [.int .u32 0]) ∧ (strT Tryd.prog 91 = false) ∧ ((Tryd.prog.underlying 91).isSome = true) := ⟨agg91, siz91, byt91, elem91, arr91, int91, zer91, str91, und91⟩
theorem t93 : (aggT Tryd.prog 93 = some true) ∧ (sizT Tryd.prog 93 = some 2) ∧ (bytT Tryd.prog 93 = some 8) ∧ (elemT Tryd.prog 93 = none) ∧ (arrT Tryd.prog 93 = none) ∧ (intT Tryd.prog 93 = none) ∧ (zerT Tryd.prog 93 = some [.bool false, .int .u32 0]) ∧ (kdT Tryd.prog 60 93 = some [.bool, .int .u32]) ∧ (Tryd.prog.eqGuardType (Tryd.prog.depth) 93 = false) ∧ (sizesOk Tryd.prog 93 = true) ∧ (placeT Tryd.prog 93 0 = some (0, 1)) ∧ (placeT Tryd.prog 93 1 = some (1, 1)) ∧ (strT Tryd.prog 93 = false) ∧ (fldT Tryd.prog 93 0 = some (0, 4)) ∧ (fldT Tryd.prog 93 1 = some (1, 91)) ∧ ((Tryd.prog.underlying 93).isSome = true) := ⟨agg93, siz93, byt93, elem93, arr93, int93, zer93, kd93, eqg93, szs93, plc93_0, plc93_1, str93, fld93_0, fld93_1, und93⟩
theorem t94 : (aggT Tryd.prog 94 = some true) ∧ (sizT Tryd.prog 94 = some 8) ∧ (bytT Tryd.prog 94 = some 8) ∧ (elemT Tryd.prog 94 = none) ∧ (arrT Tryd.prog 94 = some (8, 5)) ∧ (intT Tryd.prog 94 = none) ∧ (zerT Tryd.prog 94 = some [.int .u8 0, .int .u8 0, .int .u8 0, .int .u8 0, .int .u8 0, .int .u8 0, .int .u8 0, .int .u8 0]) ∧ (kdT Tryd.prog 60 94 = some [.int .u8, .int .u8, .int .u8, .int .u8, .int .u8, .int .u8, .int .u8, .int .u8]) ∧ (Tryd.prog.eqGuardType (Tryd.prog.depth) 94 = false) ∧ (sizesOk Tryd.prog 94 = true) ∧ (placeT Tryd.prog 94 0 = some (0, 1)) ∧ (placeT Tryd.prog 94 1 = some (1, 1)) ∧ (placeT Tryd.prog 94 2 = some (2, 1)) ∧ (placeT Tryd.prog 94 3 = some (3, 1)) ∧ (placeT Tryd.prog 94 4 = some (4, 1)) ∧ (placeT Tryd.prog 94 5 = some (5, 1)) ∧ (placeT Tryd.prog 94 6 = some (6, 1)) ∧ (placeT Tryd.prog 94 7 = some (7, 1)) ∧ (placeT Tryd.prog 94 8 = some (8, 1)) ∧ (placeT Tryd.prog 94 9 = some (9, 1)) ∧ (placeT Tryd.prog 94 10 = some (10, 1)) ∧ (placeT Tryd.prog 94 11 = some (11, 1)) ∧ (strT Tryd.prog 94 = false) ∧ ((Tryd.prog.underlying 94).isSome = true) := ⟨agg94, siz94, byt94, elem94, arr94, int94, zer94, kd94, eqg94, szs94, plc94_0, plc94_1, plc94_2, plc94_3, plc94_4, plc94_5, plc94_6, plc94_7, plc94_8, plc94_9, plc94_10, plc94_11, str94, und94⟩
theorem t96 : (aggT Tryd.prog 96 = some true) ∧ (sizT Tryd.prog 96 = some 12) ∧ (bytT Tryd.prog 96 = some 32) ∧ (elemT Tryd.prog 96 = none) ∧ (arrT Tryd.prog 96 = none) ∧ (intT Tryd.prog 96 = none) ∧ (zerT Tryd.prog 96 = some [.bool false, .int .u32 0, .bool false, .int .i64 0, .int .u8 0, .int .u8 0, .int .u8 0, .int .u8 0, .int .u8 0, .int .u8 0, .int .u8 0, .int .u8 0]) ∧ (kdT Tryd.prog 60 96 = some [.bool, .int .u32, .bool, .int .i64, .int .u8, .int .u8, .int .u8, .int .u8, .int .u8, .int .u8, .int .u8, .int .u8]) ∧ (Tryd.prog.eqGuardType (Tryd.prog.depth) 96 = false) ∧ (sizesOk Tryd.prog 96 = true) ∧ (placeT Tryd.prog 96 0 = some (0, 2)) ∧ (placeT Tryd.prog 96 1 = some (2, 1)) ∧ (placeT Tryd.prog 96 2 = some (3, 1)) ∧ (placeT Tryd.prog 96 3 = some (4, 8)) ∧ (strT Tryd.prog 96 = false) ∧ (fldT Tryd.prog 96 0 = some (0, 93)) ∧ (fldT Tryd.prog 96 1 = some (2, 4)) ∧ (fldT Tryd.prog 96 2 = some (3, 3)) ∧ (fldT Tryd.prog 96 3 = some (4, 94)) ∧ ((Tryd.prog.underlying 96).isSome = true) := ⟨agg96, siz96, byt96, elem96, arr96, int96, zer96, kd96, eqg96, szs96, plc96_0, plc96_1, plc96_2, plc96_3, str96, fld96_0, fld96_1, fld96_2, fld96_3, und96⟩
theorem t97 : (aggT Tryd.prog 97 = some false) ∧ (sizT Tryd.prog 97 = some 1) ∧ (bytT Tryd.prog 97 = some 24) ∧ (elemT Tryd.prog 97 = some 5) ∧ (arrT Tryd.prog 97 = none) ∧ (intT Tryd.prog 97 = none) ∧ (zerT Tryd.prog 97 = some [.slice none 0 0]) ∧ (strT Tryd.prog 97 = false) ∧ ((Tryd.prog.underlying 97).isSome = true) := ⟨agg97, siz97, byt97, elem97, arr97, int97, zer97, str97, und97⟩
theorem t99 : (aggT Tryd.prog 99 = some false) ∧ (sizT Tryd.prog 99 = some 1) ∧ (bytT Tryd.prog 99 = some 8) ∧ (elemT Tryd.prog 99 = none) ∧ (arrT Tryd.prog 99 = none) ∧ (intT Tryd.prog 99 = some .u64) ∧ (zerT Tryd.prog 99 = some [.int .u64 0]) ∧ (strT Tryd.prog 99 = false) ∧ ((Tryd.prog.underlying 99).isSome = true) := ⟨agg99, siz99, byt99, elem99, arr99, int99, zer99, str99, und99⟩
theorem t104 : (aggT Tryd.prog 104 = some false) ∧ (sizT Tryd.prog 104 = some 1) ∧ (bytT Tryd.prog 104 = some 8) ∧ (elemT Tryd.prog 104 = none) ∧ (arrT Tryd.prog 104 = none) ∧ (intT Tryd.prog 104 = some .u64) ∧ (zerT Tryd.prog 104 = some [.int .u64 0]) ∧ (strT Tryd.prog 104 = false) ∧ ((Tryd.prog.underlying 104).isSome = true) := ⟨agg104, siz104, byt104, elem104, arr104, int104, zer104, str104, und104⟩
theorem t110 : (aggT Tryd.prog 110 = some false) ∧ (sizT Tryd.prog 110 = some 1) ∧ (bytT Tryd.prog 110 = some 24) ∧ (elemT Tryd.prog 110 = some 97) ∧ (arrT Tryd.prog 110 = none) ∧ (intT Tryd.prog 110 = none) ∧ (zerT Tryd.prog 110 = some [.slice none 0 0]) ∧ (strT Tryd.prog 110 = false) ∧ ((Tryd.prog.underlying 110).isSome = true) := ⟨agg110, siz110, byt110, elem110, arr110, int110, zer110, str110, und110⟩
theorem t119 : (aggT Tryd.prog 119 = some true) ∧ (sizT Tryd.prog 119 = some 16) ∧ (bytT Tryd.prog 119 = some 16) ∧ (elemT Tryd.prog 119 = none) ∧ (arrT Tryd.prog 119 = some (16, 5)) ∧ (intT Tryd.prog 119 = none) ∧ (zerT Tryd.prog 119 = some [.int .u8 0, .int .u8 0, .int .u8 0, .int .u8 0, .int .u8 0, .int .u8 0, .int .u8 0, .int .u8 0, .int .u8 0, .int .u8 0, .int .u8 0, .int .u8 0, .int .u8 0, .int .u8 0, .int .u8 0, .int .u8 0]) ∧ (kdT Tryd.prog 60 119 = some [.int .u8, .int .u8, .int .u8, .int .u8, .int .u8, .int .u8, .int .u8, .int .u8, .int .u8, .int .u8, .int .u8, .int .u8, .int .u8, .int .u8, .int .u8, .int .u8]) ∧ (Tryd.prog.eqGuardType (Tryd.prog.depth) 119 = false) ∧ (sizesOk Tryd.prog 119 = true) ∧ (placeT Tryd.prog 119 0 = some (0, 1)) ∧ (placeT Tryd.prog 119 1 = some (1, 1)) ∧ (placeT Tryd.prog 119 2 = some (2, 1)) ∧ (placeT Tryd.prog 119 3 = some (3, 1)) ∧ (placeT Tryd.prog 119 4 = some (4, 1)) ∧ (placeT Tryd.prog 119 5 = some (5, 1)) ∧ (placeT Tryd.prog 119 6 = some (6, 1)) ∧ (placeT Tryd.prog 119 7 = some (7, 1)) ∧ (placeT Tryd.prog 119 8 = some (8, 1)) ∧ (placeT Tryd.prog 119 9 = some (9, 1)) ∧ (placeT Tryd.prog 119 10 = some (10, 1)) ∧ (placeT Tryd.prog 119 11 = some (11, 1)) ∧ (strT Tryd.prog 119 = false) ∧ ((Tryd.prog.underlying 119).isSome = true) := ⟨agg119, siz119, byt119, elem119, arr119, int119, zer119, kd119, eqg119, szs119, plc119_0, plc119_1, plc119_2, plc119_3, plc119_4, plc119_5, plc119_6, plc119_7, plc119_8, plc119_9, plc119_10, plc119_11, str119, und119⟩
end Go.Proofs.YtlhoogdikhbemaaDoor.Ty
