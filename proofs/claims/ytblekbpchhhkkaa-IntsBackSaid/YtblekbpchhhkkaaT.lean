/- The types of this seat's program, as the logic wants them; held against the program by the kernel. -/
import Derived.Test.YtblekbpchhhkkaaA10
import Derived.Test.YtblekbpchhhkkaaProg
namespace Go.Proofs.Ytblekbpchhhkkaa.Ax
open Go
def tys : List (Nat × TI) := [
  (3, { zero := [.int .i64 0] }),
  (4, { zero := [.bool false], bool := true, bytes := 1 }),
  (29, { zero := [.slice none 0 0], slice := true, elem := 3, bytes := 24 }),
  (28, { zero := [.int .u64 0] })]
theorem tys_ok : tysB Try.prog tys = true := by kernel_rfl
theorem mixed : Try.prog.follows .mixedOrders = true := by kernel_rfl
end Go.Proofs.Ytblekbpchhhkkaa.Ax
