/- How the arguments of this seat's laws lie. -/
import Derived.Test.YtjbpgfcoeaapjaaDoorT
namespace Go.Proofs.YtjbpgfcoeaapjaaDoor.Ax
open Go Go.RowKit
abbrev sh3 : Shape := .int .i64
theorem reads3 : Reads Tryd.prog 3 sh3 := Reads.int Tryd.underlying3 (by kernel_rfl)
abbrev sh5 : Shape := .byte
theorem reads5 : Reads Tryd.prog 5 sh5 := Reads.byte Tryd.underlying5 (by kernel_rfl)
abbrev sh27 : Shape := sh5.row 1
theorem reads27 : Reads Tryd.prog 27 sh27 := Reads.row Tryd.underlying27 (by kernel_rfl) (by kernel_rfl) reads5 (by decide)
abbrev sh9 : Shape := .str
theorem reads9 : Reads Tryd.prog 9 sh9 := Reads.str Tryd.underlying9 (by kernel_rfl)
abbrev sh34 : Shape := sh3.pair (sh9.pair (sh3.pair sh3))
theorem reads34 : Reads Tryd.prog 34 sh34 := Reads.struct Tryd.underlying34 (by kernel_rfl) (.cons rfl reads3 (.cons rfl reads9 (.cons rfl reads3 (.one rfl reads3))))
abbrev sh28 : Shape := sh34.row 40
theorem reads28 : Reads Tryd.prog 28 sh28 := Reads.row Tryd.underlying28 (by kernel_rfl) (by kernel_rfl) reads34 (by decide)
abbrev sh47 : Shape := sh3.row 8
theorem reads47 : Reads Tryd.prog 47 sh47 := Reads.row Tryd.underlying47 (by kernel_rfl) (by kernel_rfl) reads3 (by decide)
theorem laidOut : laidOutB Tryd.prog = true := by kernel_rfl
end Go.Proofs.YtjbpgfcoeaapjaaDoor.Ax
