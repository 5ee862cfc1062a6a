/- The types of this seat's program, as the logic wants them; held against the program by the kernel. -/
import Derived.Test.YtddcbnillkefhaaA13
import Derived.Test.YtddcbnillkefhaaProg
namespace Go.Proofs.Ytddcbnillkefhaa.Ax
open Go
def tys : List (Nat × TI) := [
  (25, { agg := true, flds := [(0, 3), (1, 23)], size := 2, zero := [.int .i64 0, .slice none 0 0], bytes := 32 }),
  (3, { zero := [.int .i64 0], int := some .i64 }),
  (23, { zero := [.slice none 0 0], slice := true, elem := 45, bytes := 24 }),
  (45, { agg := true, flds := [(0, 3), (1, 3)], size := 2, zero := [.int .i64 0, .int .i64 0], bytes := 16 }),
  (26, { zero := [.int .i64 0], int := some .i64 }),
  (36, { zero := [.slice none 0 0], slice := true, elem := 3, bytes := 24 }),
  (54, { zero := [.nilFunc] }),
  (22, { zero := [.int .u64 0], int := some .u64 }),
  (33, { zero := [.nilFunc] })]
theorem tys_ok : tysB Try.prog tys = true := by kernel_rfl
theorem mixed : Try.prog.follows .mixedOrders = true := by kernel_rfl
end Go.Proofs.Ytddcbnillkefhaa.Ax
