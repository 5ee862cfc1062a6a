/- How the arguments of this seat's laws lie. -/
import Derived.Test.YtimhbimpaiiceaaDoorT
namespace Go.Proofs.YtimhbimpaiiceaaDoor.Ax
open Go Go.RowKit
abbrev sh3 : Shape := .int .i64
theorem reads3 : Reads Tryd.prog 3 sh3 := Reads.int Tryd.underlying3 (by kernel_rfl)
abbrev sh5 : Shape := .byte
theorem reads5 : Reads Tryd.prog 5 sh5 := Reads.byte Tryd.underlying5 (by kernel_rfl)
abbrev sh29 : Shape := sh5.row 1
theorem reads29 : Reads Tryd.prog 29 sh29 := Reads.row Tryd.underlying29 (by kernel_rfl) (by kernel_rfl) reads5 (by decide)
abbrev sh9 : Shape := .str
theorem reads9 : Reads Tryd.prog 9 sh9 := Reads.str Tryd.underlying9 (by kernel_rfl)
theorem laidOut : laidOutB Tryd.prog = true := by kernel_rfl
end Go.Proofs.YtimhbimpaiiceaaDoor.Ax
