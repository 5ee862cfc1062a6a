/- What the rows list of the package's variables, as the walks ask for it. -/
import Derived.Test.YtimhbimpaiiceaaDoorRows
import Derived.Test.YtimhbimpaiiceaaDoorLb
import Derived.Stop.LaidErr
import Derived.LaidSub
import Derived.LaidMore
import Derived.Stop.Joined
import Derived.MakeChecks
import Derived.Lib.LaidTab
set_option linter.unusedVariables false
namespace Go.Proofs.YtimhbimpaiiceaaDoor.Ax
open Go Go.RowKit
theorem var_keep {P : Program} {n : String} {W w' : World} {cs : Array Value} (h : W.var? P n = some cs) (hs : Sealed (cellsH W) w') (hsh : Shaped W w') : w'.var? P n = some cs := by
  unfold World.var? at h ⊢
  cases hg : P.globalNamed n with
  | none => rw [hg] at h; cases h
  | some g =>
    rw [hg] at h
    simp only [Option.bind_some] at h ⊢
    have hlt : g < W.heap.size := by
      rcases Nat.lt_or_ge g W.heap.size with h' | h'
      · exact h'
      · rw [Array.getElem?_eq_none h'] at h; cases h
    have h2 := hsh.2 g hlt
    cases ho : W.heap[g]? with
    | none => rw [ho] at h; cases h
    | some o =>
      rw [ho] at h
      cases o with
      | cells c t f =>
        simp only [Option.some.injEq] at h
        subst h
        simp only [World.shape?, ho] at h2
        cases ho' : w'.heap[g]? with
        | none => rw [ho'] at h2; cases h2
        | some o' =>
          rw [ho'] at h2
          cases o' with
          | cells c' t' f' =>
            simp only [Option.some.injEq, Prod.mk.injEq] at h2
            show some c' = some c
            congr 1
            apply Array.ext h2.2
            intro i hi hi'
            have h3 : cellsH W g i = some c[i] := by
              simp [cellsH, World.cell?, ho]
            have h4 := hs _ _ _ h3
            simp [World.cell?, ho'] at h4
            exact (Array.getElem?_eq_some_iff.1 h4).2
          | _ => cases h2
      | _ => cases h
theorem errRow (u : TypeId) (h : Tryd.prog.typeName? 3 u = some "*errors.errorString") : u = 165 :=
  typeName_ptr_named (nm := "errors.errorString") (by rw [show "*" ++ "errors.errorString" = "*errors.errorString" by decide]; kernel_rfl) (by kernel_rfl) (by decide) u (by rw [show "*" ++ "errors.errorString" = "*errors.errorString" by decide]; exact h)
theorem pow_eq {H : Type} : (Rows.laid_internal_strconv_uint64pow10 : DataW H) = Lib.tabData .u64 Lib.pow10Tab := rfl
theorem tabs_of {l : List (String × DataW Unit)} {W : World} (h : laidMet Tryd.prog l W)
    (h1 : (l.filter fun x => x.1 == "internal/strconv.uint64pow10") = [("internal/strconv.uint64pow10", Rows.laid_internal_strconv_uint64pow10)])
    (h2 : (l.filter fun x => x.1 == "strconv.ErrSyntax") = [("strconv.ErrSyntax", Rows.laid_strconv_ErrSyntax)]) : ∀ w', Sealed (cellsH W) w' → Shaped W w' → tabs w' := by
  intro w' hs hsh
  have a1 := h.filter fun x => x.1 == "internal/strconv.uint64pow10"
  rw [h1, pow_eq] at a1
  have t1 := Lib.tabIs_of_head (g := 5) (t := 160) (e := 147) (n := 20) (by kernel_rfl) (by kernel_rfl) Tryd.underlying160 Tryd.underlying147 (by kernel_rfl) (by kernel_rfl) a1
  have a2 := h.filter fun x => x.1 == "strconv.ErrSyntax"
  rw [h2] at a2
  obtain ⟨a, s, hv, -⟩ := laid_sentinel (g := 3) (ti := 117) (tp := 165) (te := 167) (ts := 9) a2 (by kernel_rfl) (by kernel_rfl) Tryd.underlying117 errRow Tryd.underlying165 Tryd.underlying167 rfl rfl Tryd.underlying9 (by kernel_rfl) (by kernel_rfl)
  exact ⟨var_keep t1 hs hsh, _, _, var_keep hv hs hsh⟩
end Go.Proofs.YtimhbimpaiiceaaDoor.Ax
