/- The types of this seat's program, as the logic wants them; held against the program by the kernel. -/
import Derived.Test.YtjbpgfcoeaapjaaDoorA13
import Derived.Test.YtjbpgfcoeaapjaaDoorProg
namespace Go.Proofs.YtjbpgfcoeaapjaaDoor.Ax
open Go
def tys : List (Nat × TI) := [
  (3, { zero := [.int .i64 0], int := some .i64 }),
  (9, { zero := [.string ⟨#[]⟩], str := true, bytes := 16 }),
  (27, { zero := [.slice none 0 0], slice := true, elem := 5, bytes := 24 }),
  (28, { zero := [.slice none 0 0], slice := true, elem := 34, bytes := 24 }),
  (5, { zero := [.int .u8 0], bytes := 1, int := some .u8 }),
  (34, { agg := true, flds := [(0, 3), (1, 9), (2, 3), (3, 3)], size := 4, zero := [.int .i64 0, .string ⟨#[]⟩, .int .i64 0, .int .i64 0], bytes := 40 }),
  (29, { zero := [.int .i64 0], int := some .i64 }),
  (60, { zero := [.slice none 0 0], slice := true, elem := 27, bytes := 24 }),
  (73, { zero := [.int .u64 0], int := some .u64 }),
  (37, { zero := [.int .u64 0], int := some .u64 }),
  (52, { zero := [.nilIface], bytes := 16, iface := true }),
  (78, { agg := true, flds := [(0, 9), (1, 9), (2, 52)], size := 3, zero := [.string ⟨#[]⟩, .string ⟨#[]⟩, .nilIface], bytes := 48 }),
  (93, { zero := [.int .u32 0], bytes := 4, int := some .u32 }),
  (4, { zero := [.bool false], bool := true, bytes := 1 }),
  (47, { zero := [.slice none 0 0], slice := true, elem := 3, bytes := 24 }),
  (48, { zero := [.slice none 0 0], slice := true, elem := 9, bytes := 24 }),
  (89, { agg := true, flds := [(0, 9)], zero := [.string ⟨#[]⟩], bytes := 16 })]
theorem tys_ok : tysB Tryd.prog tys = true := by kernel_rfl
theorem mixed : Tryd.prog.follows .mixedOrders = true := by kernel_rfl
end Go.Proofs.YtjbpgfcoeaapjaaDoor.Ax
