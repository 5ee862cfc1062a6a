/- What the rows list of the package's variables, as the walks of the parse layer ask for it. -/
import Derived.Test.YtimhbimpaiiceaaDoorLw
import Derived.Test.YtimhbimpaiiceaaDoorGc
set_option linter.unusedVariables false
namespace Go.Proofs.YtimhbimpaiiceaaDoor.Ax
open Go Go.RowKit
set_option maxRecDepth 100000 in
theorem space_eq {H : Type} : (Rows.laid_strings_asciiSpace : DataW H) = Lib.tabData .u8 Lib.asciiSpaceTab := rfl
theorem tabsP_of {l : List (String × DataW Unit)} {W : World} (h : laidMet Tryd.prog l W)
    (h1 : (l.filter fun x => x.1 == "internal/strconv.uint64pow10") = [("internal/strconv.uint64pow10", Rows.laid_internal_strconv_uint64pow10)])
    (h2 : (l.filter fun x => x.1 == "strconv.ErrSyntax") = [("strconv.ErrSyntax", Rows.laid_strconv_ErrSyntax)])
    (h3 : (l.filter fun x => x.1 == "strings.asciiSpace") = [("strings.asciiSpace", Rows.laid_strings_asciiSpace)]) : ∀ w', Sealed (cellsH W) w' → Shaped W w' → tabP w' := by
  intro w' hs hsh
  have a1 := h.filter fun x => x.1 == "strings.asciiSpace"
  rw [h3, space_eq] at a1
  have t1 := Lib.tabIs_of_head (g := 0) (t := 89) (e := 5) (n := 256) (by kernel_rfl) (by kernel_rfl) Tryd.underlying89 Tryd.underlying5 (by kernel_rfl) (by kernel_rfl) a1
  exact ⟨tabs_of h h1 h2 w' hs hsh, var_keep t1 hs hsh⟩
end Go.Proofs.YtimhbimpaiiceaaDoor.Ax
