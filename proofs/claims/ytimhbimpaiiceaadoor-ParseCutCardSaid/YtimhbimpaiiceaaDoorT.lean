/- The types of this seat's program, as the logic wants them; held against the program by the kernel. -/
import Derived.Test.YtimhbimpaiiceaaDoorA13
import Derived.Test.YtimhbimpaiiceaaDoorProg
namespace Go.Proofs.YtimhbimpaiiceaaDoor.Ax
open Go
def tys : List (Nat × TI) := [
  (3, { zero := [.int .i64 0], int := some .i64 }),
  (9, { zero := [.string ⟨#[]⟩], str := true, bytes := 16 }),
  (32, { agg := true, flds := [(0, 30)], zero := [.slice none 0 0], bytes := 24 }),
  (29, { zero := [.slice none 0 0], slice := true, elem := 5, bytes := 24 }),
  (30, { zero := [.slice none 0 0], slice := true, elem := 47, bytes := 24 }),
  (73, { zero := [.pointer none] }),
  (47, { agg := true, flds := [(0, 9), (1, 4), (2, 9), (3, 43), (4, 44), (5, 45)], size := 6, zero := [.string ⟨#[]⟩, .bool false, .string ⟨#[]⟩, .slice none 0 0, .slice none 0 0, .slice none 0 0], bytes := 112 }),
  (54, { agg := true, flds := [(0, 9), (1, 4), (2, 4), (3, 48), (4, 50), (6, 3), (7, 51), (8, 52)], size := 9, zero := [.string ⟨#[]⟩, .bool false, .bool false, .slice none 0 0, .int .i64 0, .string ⟨#[]⟩, .int .i64 0, .slice none 0 0, .slice none 0 0], bytes := 128 }),
  (82, { agg := true, flds := [(0, 3), (1, 9), (2, 3), (3, 3)], size := 4, zero := [.int .i64 0, .string ⟨#[]⟩, .int .i64 0, .int .i64 0], bytes := 40 }),
  (5, { zero := [.int .u8 0], bytes := 1, int := some .u8 }),
  (22, { zero := [.int .u64 0], int := some .u64 }),
  (43, { zero := [.slice none 0 0], slice := true, elem := 9, bytes := 24 }),
  (33, { zero := [.int .i64 0], int := some .i64 }),
  (104, { zero := [.int .u32 0], bytes := 4, int := some .u32 }),
  (50, { agg := true, flds := [(0, 3), (1, 9)], size := 2, zero := [.int .i64 0, .string ⟨#[]⟩], bytes := 24 }),
  (45, { zero := [.slice none 0 0], slice := true, elem := 54, bytes := 24 }),
  (41, { agg := true, flds := [(0, 3), (1, 3), (2, 9), (3, 9)], size := 4, zero := [.int .i64 0, .int .i64 0, .string ⟨#[]⟩, .string ⟨#[]⟩], bytes := 48 }),
  (75, { agg := true, flds := [(0, 60), (1, 3), (2, 3), (3, 3), (4, 33)], size := 5, zero := [.slice none 0 0, .int .i64 0, .int .i64 0, .int .i64 0, .int .i64 0], bytes := 56 }),
  (44, { zero := [.slice none 0 0], slice := true, elem := 57, bytes := 24 }),
  (124, { zero := [.int .u16 0], bytes := 2, int := some .u16 }),
  (48, { zero := [.slice none 0 0], slice := true, elem := 50, bytes := 24 }),
  (51, { zero := [.slice none 0 0], slice := true, elem := 41, bytes := 24 }),
  (60, { zero := [.slice none 0 0], slice := true, elem := 82, bytes := 24 }),
  (52, { zero := [.slice none 0 0], slice := true, elem := 114, bytes := 24 }),
  (4, { zero := [.bool false], bool := true, bytes := 1 }),
  (21, { zero := [.int .i32 0], bytes := 4, int := some .i32 }),
  (85, { zero := [.slice none 0 0], slice := true, elem := 29, bytes := 24 }),
  (129, { agg := true, flds := [(0, 104), (1, 104), (2, 104)], size := 3, zero := [.int .u32 0, .int .u32 0, .int .u32 0], bytes := 12 }),
  (126, { agg := true, flds := [(0, 124), (1, 124), (2, 124)], size := 3, zero := [.int .u16 0, .int .u16 0, .int .u16 0], bytes := 6 }),
  (147, { zero := [.int .u64 0], int := some .u64 }),
  (120, { zero := [.slice none 0 0], slice := true, elem := 126, bytes := 24 }),
  (57, { agg := true, flds := [(0, 9), (1, 50), (3, 4)], size := 4, zero := [.string ⟨#[]⟩, .int .i64 0, .string ⟨#[]⟩, .bool false], bytes := 48 }),
  (101, { zero := [.slice none 0 0], slice := true, elem := 103, bytes := 24 }),
  (114, { agg := true, flds := [(0, 9), (1, 3), (2, 3), (3, 3)], size := 4, zero := [.string ⟨#[]⟩, .int .i64 0, .int .i64 0, .int .i64 0], bytes := 40 }),
  (121, { zero := [.slice none 0 0], slice := true, elem := 129, bytes := 24 }),
  (117, { zero := [.nilIface], bytes := 16, iface := true }),
  (157, { agg := true, flds := [(0, 9), (1, 9), (2, 117)], size := 3, zero := [.string ⟨#[]⟩, .string ⟨#[]⟩, .nilIface], bytes := 48 }),
  (103, { agg := true, flds := [(0, 3), (1, 3)], size := 2, zero := [.int .i64 0, .int .i64 0], bytes := 16 }),
  (123, { agg := true, flds := [(0, 120), (1, 121), (2, 3)], size := 3, zero := [.slice none 0 0, .slice none 0 0, .int .i64 0], bytes := 56 }),
  (55, { zero := [.slice none 0 0], slice := true, elem := 3, bytes := 24 }),
  (106, { zero := [.pointer none] }),
  (167, { agg := true, flds := [(0, 9)], zero := [.string ⟨#[]⟩], bytes := 16 }),
  (91, { zero := [.nilFunc] }),
  (96, { zero := [.pointer none] }),
  (112, { zero := [.pointer none] })]
theorem tys_ok : tysB Tryd.prog tys = true := by kernel_rfl
theorem mixed : Tryd.prog.follows .mixedOrders = true := by kernel_rfl
end Go.Proofs.YtimhbimpaiiceaaDoor.Ax
