/- How the arguments of this seat's laws lie. -/
import Derived.Test.YtddcbnillkefhaaT
namespace Go.Proofs.Ytddcbnillkefhaa.Ax
open Go Go.RowKit
abbrev sh3 : Shape := .int .i64
theorem reads3 : Reads Try.prog 3 sh3 := Reads.int Try.underlying3 (by kernel_rfl)
abbrev sh45 : Shape := sh3.pair sh3
theorem reads45 : Reads Try.prog 45 sh45 := Reads.struct Try.underlying45 (by kernel_rfl) (.cons rfl reads3 (.one rfl reads3))
abbrev sh23 : Shape := sh45.row 16
theorem reads23 : Reads Try.prog 23 sh23 := Reads.row Try.underlying23 (by kernel_rfl) (by kernel_rfl) reads45 (by decide)
abbrev sh25 : Shape := sh3.pair sh23
theorem reads25 : Reads Try.prog 25 sh25 := Reads.struct Try.underlying25 (by kernel_rfl) (.cons rfl reads3 (.one rfl reads23))
abbrev sh36 : Shape := sh3.row 8
theorem reads36 : Reads Try.prog 36 sh36 := Reads.row Try.underlying36 (by kernel_rfl) (by kernel_rfl) reads3 (by decide)
theorem laidOut : laidOutB Try.prog = true := by kernel_rfl
end Go.Proofs.Ytddcbnillkefhaa.Ax
