/- How the arguments of this seat's laws lie. -/
import Derived.Test.YtobadhbdhomjnaaT
namespace Go.Proofs.Ytobadhbdhomjnaa.Ax
open Go Go.RowKit
abbrev sh3 : Shape := .int .i64
theorem reads3 : Reads Try.prog 3 sh3 := Reads.int Try.underlying3 (by kernel_rfl)
abbrev sh38 : Shape := sh3.pair sh3
theorem reads38 : Reads Try.prog 38 sh38 := Reads.struct Try.underlying38 (by kernel_rfl) (.cons rfl reads3 (.one rfl reads3))
abbrev sh22 : Shape := sh38.row 16
theorem reads22 : Reads Try.prog 22 sh22 := Reads.row Try.underlying22 (by kernel_rfl) (by kernel_rfl) reads38 (by decide)
abbrev sh24 : Shape := sh3.pair sh22
theorem reads24 : Reads Try.prog 24 sh24 := Reads.struct Try.underlying24 (by kernel_rfl) (.cons rfl reads3 (.one rfl reads22))
abbrev sh4 : Shape := .bool
theorem reads4 : Reads Try.prog 4 sh4 := Reads.bool Try.underlying4 (by kernel_rfl)
abbrev sh26 : Shape := sh24.pair sh4
theorem reads26 : Reads Try.prog 26 sh26 := Reads.struct Try.underlying26 (by kernel_rfl) (.cons rfl reads24 (.one rfl reads4))
abbrev sh39 : Shape := sh26.row 40
theorem reads39 : Reads Try.prog 39 sh39 := Reads.row Try.underlying39 (by kernel_rfl) (by kernel_rfl) reads26 (by decide)
abbrev sh45 : Shape := sh3.row 8
theorem reads45 : Reads Try.prog 45 sh45 := Reads.row Try.underlying45 (by kernel_rfl) (by kernel_rfl) reads3 (by decide)
theorem laidOut : laidOutB Try.prog = true := by kernel_rfl
end Go.Proofs.Ytobadhbdhomjnaa.Ax
