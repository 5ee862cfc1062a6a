/- Layer show: what Go's library answers about rows of texts, as the logic's contracts. -/
import Derived.Test.YtimhbimpaiiceaaDoorL0
set_option linter.unusedVariables false
set_option linter.unusedSimpArgs false
namespace Go.Proofs.YtimhbimpaiiceaaDoor.Ax
open Go Go.RowKit
/-- the package variables that the library reads in this layer -/
def tabS (w : World) : Prop := Lib.TabIs Tryd.prog w "internal/strconv.uint64pow10" .u64 Lib.pow10Tab ∧ Lib.TabIs Tryd.prog w "strings.asciiSpace" .u8 Lib.asciiSpaceTab
def strC (s : ByteArray) : List SV := [S s]
theorem str_cells {H : HM} {w : World} (hs : Sealed H w) {l : List ByteArray} {v : Value} (h : G H noB noT (.row ByteArray 1 strC ⟨#[]⟩ l) v) :
    ∃ p cap, v = .slice p l.length cap ∧ (l ≠ [] → ∃ b o, p = some ⟨b, o, none⟩ ∧ l.length ≤ cap ∧ ∀ (i : Nat), i < l.length → w.cell? ⟨b, o + i, none⟩ = some (.string (l.getD i ⟨#[]⟩))) := by
  cases h with
  | rowE _ _ _ _ a c => exact ⟨a, c, rfl, fun h => absurd rfl h⟩
  | row _ _ _ _ _ b off c vs hc hz hH hG =>
    refine ⟨_, c, rfl, fun _ => ⟨b, off, rfl, hc, fun i hi => ?_⟩⟩
    have h1 := hs _ _ _ (hH i 0 hi (by omega))
    have h2 := hG i 0 hi (by omega)
    have h3 : vs i 0 = .string (l.getD i ⟨#[]⟩) := gval' (show G H noB noT (.val (.string (l.getD i ⟨#[]⟩))) _ from h2)
    rw [Nat.mul_one, Nat.add_zero] at h1
    rw [h1, h3]
def hasC : Ctr := { A := List ByteArray × ByteArray, enc := fun x => [.row ByteArray 1 strC ⟨#[]⟩ x.1, S x.2], dom := fun x => x.1.length ≤ 4611686018427387904, res := fun x _ => B (Lib.containsS x.1 x.2) }
theorem has_ok : CtrSound Tryd.prog 32 hasC := by
  refine ctr_pure ⟨_, Tryd.func32, by kernel_rfl, by kernel_rfl⟩ fun x H w vs id hd hgl hs hn hg => ?_
  obtain ⟨u, v, rfl, h1, h2⟩ := args2 hn hg
  obtain ⟨l, s⟩ := x
  have hd : l.length ≤ 4611686018427387904 := hd
  rw [gval' h2]
  obtain ⟨p, cap, rfl, h3⟩ := str_cells hs h1
  by_cases hl : l = []
  · subst hl
    refine (Tryd.slices_Contains_string_empty p cap s w).mono ?_
    rintro e w' ⟨rfl, rfl⟩
    exact ⟨_, rfl, .refl _ _, .val _⟩
  · obtain ⟨b, o, rfl, hc, h4⟩ := h3 hl
    refine (Tryd.slices_Contains_string b o l.length cap l s w (Nat.le_refl _) (by omega) (fun j hj => h4 j hj)).mono ?_
    rintro e w' ⟨rfl, rfl⟩
    exact ⟨_, rfl, .refl _ _, by rw [List.take_length]; exact .val _⟩
def atC : Ctr := { A := List ByteArray × ByteArray, enc := fun x => [.row ByteArray 1 strC ⟨#[]⟩ x.1, S x.2], dom := fun x => x.1.length ≤ 4611686018427387904, res := fun x _ => I (Lib.idxOfS x.1 x.2) }
theorem at_ok : CtrSound Tryd.prog 29 atC := by
  refine ctr_pure ⟨_, Tryd.func29, by kernel_rfl, by kernel_rfl⟩ fun x H w vs id hd hgl hs hn hg => ?_
  obtain ⟨u, v, rfl, h1, h2⟩ := args2 hn hg
  obtain ⟨l, s⟩ := x
  have hd : l.length ≤ 4611686018427387904 := hd
  rw [gval' h2]
  obtain ⟨p, cap, rfl, h3⟩ := str_cells hs h1
  by_cases hl : l = []
  · subst hl
    refine (Tryd.slices_Index_string_empty p cap s w).mono ?_
    rintro e w' ⟨rfl, rfl⟩
    exact ⟨_, rfl, .refl _ _, .val _⟩
  · obtain ⟨b, o, rfl, hc, h4⟩ := h3 hl
    refine (Tryd.slices_Index_string b o l.length cap l s w (Nat.le_refl _) (by omega) (fun j hj => h4 j hj)).mono ?_
    rintro e w' ⟨rfl, rfl⟩
    exact ⟨_, rfl, .refl _ _, by rw [List.take_length]; exact .val _⟩
/-- texts joined -/
def sjoinF (l : List ByteArray) (sep : ByteArray) : List UInt8 := Lib.join (l.map (·.data.toList)) sep.data.toList
def sjoinC : Ctr := { A := List ByteArray × ByteArray, enc := fun x => [.row ByteArray 1 strC ⟨#[]⟩ x.1, S x.2], dom := fun x => x.1.length ≤ 1000000 ∧ (sjoinF x.1 x.2).length ≤ 140737488355328, res := fun x _ => .val (.string ⟨(sjoinF x.1 x.2).toArray⟩) }
def wordsF (s : ByteArray) : List ByteArray := (Lib.fields s.data.toList).map fun l => ⟨l.toArray⟩
def fieldsC : Ctr := { A := ByteArray, enc := fun s => [S s], dom := fun s => s.size < 4294967281 ∧ ∀ (j : Nat) (b : UInt8), s.data.toList[j]? = some b → b.toNat < 128, res := fun s id => .own ByteArray 1 strC ⟨#[]⟩ (wordsF s) id, gl := tabS }
theorem fields_ok : CtrSound Tryd.prog 33 fieldsC := by
  refine ⟨⟨_, Tryd.func33, by kernel_rfl, by kernel_rfl⟩, fun s H w vs id hd hs hgl hn hg => ?_⟩
  obtain ⟨u, rfl, h1⟩ := args1 hn hg
  rw [gval' h1]
  refine (Tryd.strings_Fields_laid s w hd.1 hd.2 (hgl w hs ⟨Nat.le_refl _, fun _ _ => rfl⟩).2).mono ?_
  rintro e w' ⟨rfl, rfl⟩
  have hlen : (wordsF s).length = (Lib.fields s.data.toList).length := by simp [wordsF]
  have hsl : ∀ b o v, H b o = some v → b < w.heap.size := fun b o v e => World.block_lt_of_cell? w _ (hs b o v e)
  have hcell : ∀ b o, b < w.heap.size → (w.alloc (Go.Obj.cells (List.map (fun l => Go.Value.string { data := l.toArray }) (Go.Lib.fields s.data.toList)).toArray 9)).cell? ⟨b, o, none⟩ = w.cell? ⟨b, o, none⟩ := fun b o h => World.cell?_alloc_lt _ _ _ h
  have hnew : ∀ o, o < (wordsF s).length → (w.alloc (Go.Obj.cells (List.map (fun l => Go.Value.string { data := l.toArray }) (Go.Lib.fields s.data.toList)).toArray 9)).cell? ⟨w.heap.size, o, none⟩ = some (.string ((wordsF s).getD o ⟨#[]⟩)) := by
    intro o ho
    rw [hlen] at ho
    rw [World.cell?_alloc_new]; simp [wordsF, List.getD, ho]
  let H' : HM := fun b o => if b = w.heap.size ∧ o < (wordsF s).length then some (.string ((wordsF s).getD o ⟨#[]⟩)) else H b o
  have hH' : ∀ b o, b < w.heap.size → H' b o = H b o := fun b o h => if_neg (fun c => by omega)
  have hHn : ∀ o, o < (wordsF s).length → H' w.heap.size o = some (.string ((wordsF s).getD o ⟨#[]⟩)) := fun o h => if_pos ⟨rfl, h⟩
  have key : ∀ H2 : HM, (∀ o, o < (wordsF s).length → H2 w.heap.size o = some (.string ((wordsF s).getD o ⟨#[]⟩))) → G H2 noB noT (fieldsC.res s id) (Go.Value.slice (some { block := w.heap.size, off := 0 }) (Go.Lib.fields s.data.toList).length (Go.Lib.fields s.data.toList).length) := by
    intro H2 h2
    rw [← hlen]
    refine .own ByteArray 1 strC ⟨#[]⟩ (wordsF s) id w.heap.size 0 _ (fun i _ => .string ((wordsF s).getD i ⟨#[]⟩)) (Nat.le_refl _) (fun _ _ => rfl) (fun i j hi hj => ?_) (fun i j hi hj => ?_) (fun o h1 h2 => by omega)
    · rw [show 0 + i * 1 + j = i by omega]; exact h2 i hi
    · rw [show j = 0 by omega]; exact .val _
  refine ⟨_, H', noT, rfl, ⟨rfl, rfl, rfl, by simp, fun k hk => Below.heap_alloc _ _ _ hk⟩, fun b o v e => by rw [hH' b o (hsl b o v e)]; exact e, hH', fun _ _ _ h => (by cases h), fun b o v e => ⟨?_, rfl⟩, key H' hHn, fun _ => key _ (fun o h => ?_)⟩
  · by_cases c : b = w.heap.size ∧ o < (wordsF s).length
    · obtain ⟨rfl, c⟩ := c
      rw [hHn o c] at e
      rw [hnew o c]; exact e
    · have e2 : H b o = some v := by have := e; simp only [H'] at this; rwa [if_neg c] at this
      rw [hcell b o (hsl b o v e2)]; exact hs b o v e2
  · unfold newH
    rw [if_neg (by omega)]; exact hHn o h
end Go.Proofs.YtimhbimpaiiceaaDoor.Ax
