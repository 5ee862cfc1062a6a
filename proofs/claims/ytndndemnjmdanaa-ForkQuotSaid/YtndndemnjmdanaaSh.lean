/- How the arguments of this seat's laws lie. -/
import Derived.Test.YtndndemnjmdanaaT
namespace Go.Proofs.Ytndndemnjmdanaa.Ax
open Go Go.RowKit
abbrev sh3 : Shape := .int .i64
theorem reads3 : Reads Try.prog 3 sh3 := Reads.int Try.underlying3 (by kernel_rfl)
abbrev sh55 : Shape := sh3.pair sh3
theorem reads55 : Reads Try.prog 55 sh55 := Reads.struct Try.underlying55 (by kernel_rfl) (.cons rfl reads3 (.one rfl reads3))
abbrev sh22 : Shape := sh55.row 16
theorem reads22 : Reads Try.prog 22 sh22 := Reads.row Try.underlying22 (by kernel_rfl) (by kernel_rfl) reads55 (by decide)
abbrev sh24 : Shape := sh3.pair sh22
theorem reads24 : Reads Try.prog 24 sh24 := Reads.struct Try.underlying24 (by kernel_rfl) (.cons rfl reads3 (.one rfl reads22))
abbrev sh40 : Shape := sh3.row 8
theorem reads40 : Reads Try.prog 40 sh40 := Reads.row Try.underlying40 (by kernel_rfl) (by kernel_rfl) reads3 (by decide)
theorem laidOut : laidOutB Try.prog = true := by kernel_rfl
end Go.Proofs.Ytndndemnjmdanaa.Ax
