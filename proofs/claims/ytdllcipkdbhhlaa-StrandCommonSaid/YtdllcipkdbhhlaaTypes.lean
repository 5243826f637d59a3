/- Facts of this seat's types, each asked of the kernel. -/
import Derived.Test.YtdllcipkdbhhlaaProg
import Derived.Test.YtdllcipkdbhhlaaAb24
import Derived.KernelRfl
set_option linter.all false
namespace Go.Proofs.Ytdllcipkdbhhlaa.Ty
open Go Go.Ab
theorem agg3 : aggT Try.prog 3 = some false := by kernel_rfl
theorem siz3 : sizT Try.prog 3 = some 1 := by kernel_rfl
theorem byt3 : bytT Try.prog 3 = some 8 := by kernel_rfl
theorem elem3 : elemT Try.prog 3 = none := by kernel_rfl
theorem arr3 : arrT Try.prog 3 = none := by kernel_rfl
theorem int3 : intT Try.prog 3 = some .i64 := by kernel_rfl
theorem zer3 : zerT Try.prog 3 = some [.int .i64 0] := by kernel_rfl
theorem str3 : strT Try.prog 3 = false := by kernel_rfl
theorem agg4 : aggT Try.prog 4 = some false := by kernel_rfl
theorem siz4 : sizT Try.prog 4 = some 1 := by kernel_rfl
theorem byt4 : bytT Try.prog 4 = some 1 := by kernel_rfl
theorem elem4 : elemT Try.prog 4 = none := by kernel_rfl
theorem arr4 : arrT Try.prog 4 = none := by kernel_rfl
theorem int4 : intT Try.prog 4 = none := by kernel_rfl
theorem zer4 : zerT Try.prog 4 = some [.bool false] := by kernel_rfl
theorem str4 : strT Try.prog 4 = false := by kernel_rfl
theorem agg5 : aggT Try.prog 5 = some false := by kernel_rfl
theorem siz5 : sizT Try.prog 5 = some 1 := by kernel_rfl
theorem byt5 : bytT Try.prog 5 = some 1 := by kernel_rfl
theorem elem5 : elemT Try.prog 5 = none := by kernel_rfl
theorem arr5 : arrT Try.prog 5 = none := by kernel_rfl
theorem int5 : intT Try.prog 5 = some .u8 := by kernel_rfl
theorem zer5 : zerT Try.prog 5 = some [.int .u8 0] := by kernel_rfl
theorem str5 : strT Try.prog 5 = false := by kernel_rfl
theorem agg22 : aggT Try.prog 22 = some false := by kernel_rfl
theorem siz22 : sizT Try.prog 22 = some 1 := by kernel_rfl
theorem byt22 : bytT Try.prog 22 = some 8 := by kernel_rfl
theorem elem22 : elemT Try.prog 22 = none := by kernel_rfl
theorem arr22 : arrT Try.prog 22 = none := by kernel_rfl
theorem int22 : intT Try.prog 22 = some .u64 := by kernel_rfl
theorem zer22 : zerT Try.prog 22 = some [.int .u64 0] := by kernel_rfl
theorem str22 : strT Try.prog 22 = false := by kernel_rfl
theorem agg23 : aggT Try.prog 23 = some false := by kernel_rfl
theorem siz23 : sizT Try.prog 23 = some 1 := by kernel_rfl
theorem byt23 : bytT Try.prog 23 = some 24 := by kernel_rfl
theorem elem23 : elemT Try.prog 23 = some 5 := by kernel_rfl
theorem arr23 : arrT Try.prog 23 = none := by kernel_rfl
theorem int23 : intT Try.prog 23 = none := by kernel_rfl
theorem zer23 : zerT Try.prog 23 = some [.slice none 0 0] := by kernel_rfl
theorem str23 : strT Try.prog 23 = false := by kernel_rfl
theorem agg31 : aggT Try.prog 31 = some false := by kernel_rfl
theorem siz31 : sizT Try.prog 31 = some 1 := by kernel_rfl
theorem byt31 : bytT Try.prog 31 = some 24 := by kernel_rfl
theorem elem31 : elemT Try.prog 31 = some 23 := by kernel_rfl
theorem arr31 : arrT Try.prog 31 = none := by kernel_rfl
theorem int31 : intT Try.prog 31 = none := by kernel_rfl
theorem zer31 : zerT Try.prog 31 = some [.slice none 0 0] := by kernel_rfl
theorem str31 : strT Try.prog 31 = false := by kernel_rfl
theorem agg37 : aggT Try.prog 37 = some false := by kernel_rfl
theorem siz37 : sizT Try.prog 37 = some 1 := by kernel_rfl
theorem byt37 : bytT Try.prog 37 = some 8 := by kernel_rfl
theorem elem37 : elemT Try.prog 37 = none := by kernel_rfl
theorem arr37 : arrT Try.prog 37 = none := by kernel_rfl
theorem int37 : intT Try.prog 37 = some .u64 := by kernel_rfl
theorem zer37 : zerT Try.prog 37 = some [.int .u64 0] := by kernel_rfl
theorem str37 : strT Try.prog 37 = false := by kernel_rfl
theorem und3 : (Try.prog.underlying 3).isSome = true := by kernel_rfl
theorem und4 : (Try.prog.underlying 4).isSome = true := by kernel_rfl
theorem und5 : (Try.prog.underlying 5).isSome = true := by kernel_rfl
theorem und22 : (Try.prog.underlying 22).isSome = true := by kernel_rfl
theorem und23 : (Try.prog.underlying 23).isSome = true := by kernel_rfl
theorem und31 : (Try.prog.underlying 31).isSome = true := by kernel_rfl
theorem und37 : (Try.prog.underlying 37).isSome = true := by kernel_rfl
end Go.Proofs.Ytdllcipkdbhhlaa.Ty
