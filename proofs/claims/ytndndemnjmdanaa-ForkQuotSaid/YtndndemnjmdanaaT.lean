/- The types of this seat's program, as the logic wants them; held against the program by the kernel. -/
import Derived.Test.YtndndemnjmdanaaA13
import Derived.Test.YtndndemnjmdanaaProg
namespace Go.Proofs.Ytndndemnjmdanaa.Ax
open Go
def tys : List (Nat × TI) := [
  (3, { zero := [.int .i64 0], int := some .i64 }),
  (24, { agg := true, flds := [(0, 3), (1, 22)], size := 2, zero := [.int .i64 0, .slice none 0 0], bytes := 32 }),
  (22, { zero := [.slice none 0 0], slice := true, elem := 55, bytes := 24 }),
  (55, { agg := true, flds := [(0, 3), (1, 3)], size := 2, zero := [.int .i64 0, .int .i64 0], bytes := 16 }),
  (27, { zero := [.slice none 0 0], slice := true, elem := 34, bytes := 24 }),
  (28, { zero := [.int .i64 0], int := some .i64 }),
  (40, { zero := [.slice none 0 0], slice := true, elem := 3, bytes := 24 }),
  (34, { zero := [.slice none 0 0], slice := true, elem := 38, bytes := 24 }),
  (38, { agg := true, flds := [(0, 24), (2, 4)], size := 3, zero := [.int .i64 0, .slice none 0 0, .bool false], bytes := 40 }),
  (57, { zero := [.pointer none] }),
  (59, { agg := true, flds := [(0, 28)], zero := [.int .i64 0] }),
  (26, { zero := [.int .u64 0], int := some .u64 }),
  (4, { zero := [.bool false], bool := true, bytes := 1 }),
  (69, { zero := [.nilFunc] }),
  (47, { zero := [.nilFunc] })]
theorem tys_ok : tysB Try.prog tys = true := by kernel_rfl
theorem mixed : Try.prog.follows .mixedOrders = true := by kernel_rfl
end Go.Proofs.Ytndndemnjmdanaa.Ax
