/- What library contracts have in common. -/
import Derived.Test.YtimhbimpaiiceaaDoorUi
import Derived.Test.YtimhbimpaiiceaaDoorShelf
set_option linter.unusedVariables false
set_option linter.unusedSimpArgs false
namespace Go.Proofs.YtimhbimpaiiceaaDoor.Ax
open Go Go.RowKit
/-- a library function's answer that names no memory -/
theorem ctr_pure {P : Program} {g : Nat} {c : Ctr} (hfn : ∃ fn, P.funcs[g]? = some fn ∧ (fn.name == "runtime.NumGoroutine") = false ∧ fn.body.isNone = false)
    (h : ∀ (x : c.A) (H : HM) (w : World) (vs : Array Value) (id : Nat), c.dom x → c.gl w → Sealed H w → vs.size = (c.enc x).length → (∀ j, j < (c.enc x).length → G H noB noT (at' (c.enc x) j .junk) (vs.getD j undef)) →
      Calls P g vs w fun e w' => ∃ v, e = .returned v ∧ Below w.heap.size w w' ∧ G (fun _ _ => none) noB noT (c.res x id) v) : CtrSound P g c := by
  refine ⟨hfn, fun x H w vs id hd hs hgl hn hg => ?_⟩
  refine (h x H w vs id hd (hgl w hs ⟨Nat.le_refl _, fun _ _ => rfl⟩) hs hn hg).mono ?_
  rintro e w' ⟨v, rfl, hb, hv⟩
  refine ⟨v, H, noT, rfl, hb, .refl _, fun _ _ _ => rfl, fun _ _ _ h => (by cases h), fun b o u hu => ⟨?_, rfl⟩, hv.mono (fun _ _ _ h => (by cases h)) (.refl _) (.refl _), fun _ => hv.mono (fun _ _ _ h => (by cases h)) (.refl _) (.refl _)⟩
  have := hs b o u hu
  have hlt : b < w.heap.size := by
    rcases Nat.lt_or_ge b w.heap.size with h | h
    · exact h
    · simp [World.cell?, Array.getElem?_eq_none h] at this
  rw [← this]
  simp only [World.cell?, hb.block b hlt]

theorem args1 {H : HM} {a : SV} {vs : Array Value} (hn : vs.size = 1) (hg : ∀ j, j < 1 → G H noB noT (at' [a] j .junk) (vs.getD j undef)) : ∃ v, vs = #[v] ∧ G H noB noT a v := by
  obtain ⟨l⟩ := vs
  match l, hn with
  | [v], _ => exact ⟨v, rfl, hg 0 (by omega)⟩
theorem args2 {H : HM} {a b : SV} {vs : Array Value} (hn : vs.size = 2) (hg : ∀ j, j < 2 → G H noB noT (at' [a, b] j .junk) (vs.getD j undef)) : ∃ u v, vs = #[u, v] ∧ G H noB noT a u ∧ G H noB noT b v := by
  obtain ⟨l⟩ := vs
  match l, hn with
  | [u, v], _ => exact ⟨u, v, rfl, hg 0 (by omega), hg 1 (by omega)⟩
theorem gval' {H : HM} {β : BM} {T : TM} {v u : Value} (h : G H β T (.val v) u) : u = v := by cases h; rfl

end Go.Proofs.YtimhbimpaiiceaaDoor.Ax
