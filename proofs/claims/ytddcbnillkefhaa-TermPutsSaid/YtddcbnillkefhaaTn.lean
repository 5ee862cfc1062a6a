/- Layer term by the logic, on: sums, multiples. -/
import Derived.Test.YtddcbnillkefhaaTm
set_option linter.unusedVariables false
set_option linter.unusedSimpArgs false
namespace Go.Proofs.Ytddcbnillkefhaa.Ax
open Go Go.RowKit
def keep (m : Int × Int) (l : List (Int × Int)) : List (Int × Int) := if m.2 = 0 then l else m :: l
def mg : List (Int × Int) → List (Int × Int) → List (Int × Int)
  | [], [] => []
  | a :: x, [] => keep a (mg x [])
  | [], b :: y => keep b (mg [] y)
  | a :: x, b :: y => if a.1 < b.1 then keep a (mg x (b :: y)) else if b.1 < a.1 then keep b (mg (a :: x) y) else keep (a.1, IntKind.i64.wrap (a.2 + b.2)) (mg x y)
termination_by x y => x.length + y.length
def sumF (a b : Int × List (Int × Int)) : Int × List (Int × Int) := (IntKind.i64.wrap (a.1 + b.1), mg a.2 b.2)
theorem keep_t {m : Int × Int} {o r t : List (Int × Int)} (h : (m.2 != 0) = true) (e : o ++ keep m r = t) : (o ++ [m]) ++ r = t := by
  have : m.2 ≠ 0 := by simpa using h
  rw [keep, if_neg this] at e; simpa using e
theorem keep_f {m : Int × Int} {o r t : List (Int × Int)} (h : (m.2 != 0) = false) (e : o ++ keep m r = t) : o ++ r = t := by
  have : m.2 = 0 := by simpa using h
  rwa [keep, if_pos this] at e
theorem mg_l (a : Int × Int) (x : List (Int × Int)) : mg (a :: x) [] = keep a (mg x []) := by rw [mg]
theorem mg_r (b : Int × Int) (y : List (Int × Int)) : mg [] (b :: y) = keep b (mg [] y) := by rw [mg]
theorem mg_lt {a b : Int × Int} (x y : List (Int × Int)) (h : decide (a.1 < b.1) = true) : mg (a :: x) (b :: y) = keep a (mg x (b :: y)) := by rw [mg, if_pos (of_decide_eq_true h)]
theorem mg_gt {a b : Int × Int} (x y : List (Int × Int)) (h : decide (a.1 < b.1) = false) (h2 : decide (b.1 < a.1) = true) : mg (a :: x) (b :: y) = keep b (mg (a :: x) y) := by rw [mg, if_neg (of_decide_eq_false h), if_pos (of_decide_eq_true h2)]
theorem mg_eq {a b : Int × Int} (x y : List (Int × Int)) (h : decide (a.1 < b.1) = false) (h2 : decide (b.1 < a.1) = false) : mg (a :: x) (b :: y) = keep (a.1, IntKind.i64.wrap (a.2 + b.2)) (mg x y) := by rw [mg, if_neg (of_decide_eq_false h), if_neg (of_decide_eq_false h2)]
theorem mg_nil : mg [] [] = [] := by rw [mg]
def term_sum : Ctr := { A := (Int × List (Int × Int)) × (Int × List (Int × Int)), enc := fun x => [termS x.1, termS x.2], dom := fun x => x.1.2.length ≤ 1000 ∧ x.2.2.length ≤ 1000, res := fun x id => termO (sumF x.1 x.2) id }
set_option maxRecDepth 100000 in
set_option maxHeartbeats 4000000 in
theorem term_sum_ok : CtrSound Try.prog 23 term_sum :=
  ctr_of_ax (env_ok tys_ok (eqs := []) trivial (cs := []) trivial) mixed _ Try.func23 (by kernel_rfl) rfl (fun _ _ => Nat.le_of_ble_eq_true rfl) fun (((c, k), (d, l)) : (Int × List (Int × Int)) × (Int × List (Int × Int))) id hd => by
    have hd : k.length ≤ 1000 ∧ l.length ≤ 1000 := hd
    refine ⟨by kernel_rfl, ?_⟩
    refine ⟨List (Int × Int) × List (Int × Int) × List (Int × Int), fun s => [(2, .box 2 0), (3, .box 3 0), (4, .box 4 0), (5, .box 5 0), (6, monos s.1), (7, monos s.2.1)],
      fun s => [(2, [I c, monos k]), (3, [I d, monos l]), (4, [I 0, monos []]), (5, [I (IntKind.i64.wrap (c + d)), monosO s.2.2 97])],
      fun s => s.2.2 ++ mg s.1 s.2.1 = mg k l ∧ s.1.length + s.2.1.length + s.2.2.length ≤ 2000, fun s => s.1.length + s.2.1.length, ⟨(k, l, []), ⟨rfl, by show k.length + l.length + 0 ≤ 2000; omega⟩, ⟨⟨rfl, rfl⟩, ?_⟩⟩, fun ((x, y, o) : List (Int × Int) × List (Int × Int) × List (Int × Int)) hi => ?_⟩
    · refine ⟨?_, ?_⟩
      · exact .refl _
      · skip
        refine ⟨?_, ?_⟩
        · exact .refl _
        · skip
          refine ⟨?_, ?_⟩
          · exact .refl _
          · skip
            refine ⟨?_, ?_⟩
            · exact .refl _
            · skip
              refine ⟨?_, ?_⟩
              · exact .refl _
              · skip
                refine ⟨?_, ?_⟩
                · exact .refl _
                · skip
                  refine ⟨?_, ?_⟩
                  · exact ⟨.refl _, .refl _, trivial⟩
                  · skip
                    refine ⟨?_, ?_⟩
                    · exact ⟨.refl _, .nilO .., trivial⟩
                    · skip
                      refine ⟨?_, ?_⟩
                      · exact ⟨.refl _, .refl _, trivial⟩
                      · skip
                        refine ⟨?_, ?_⟩
                        · exact ⟨.refl _, .nil .., trivial⟩
                        · skip
                          exact trivial
    rcases x with _ | ⟨a, x⟩ <;> rcases y with _ | ⟨b, y⟩
    · have hm := hi.1
      have hl := hi.2
      simp only [List.length_cons, List.length_nil] at hl
      simp only [mg_nil, List.append_nil] at hm
      refine ⟨?_, ?_⟩
      · skip
        intro h -- decide (↑([], [], o).fst.length > 0) = true
        (simp at h; done)
      · skip
        intro h -- decide (↑([], [], o).fst.length > 0) = false
        refine ⟨?_, ?_⟩
        · skip
          intro h -- decide (↑([], [], o).snd.fst.length > 0) = true
          (simp at h; done)
        · skip
          intro h -- decide (↑([], [], o).snd.fst.length > 0) = false
          exact ⟨.agg2 (.refl _) (Sub.ownEq hm), rfl⟩
    · have hm := hi.1
      have hl := hi.2
      simp only [List.length_cons, List.length_nil] at hl
      simp only [mg_r] at hm
      refine ⟨?_, ?_⟩
      · skip
        intro h -- decide (↑([], b :: y, o).fst.length > 0) = true
        (simp at h; done)
      · skip
        intro h -- decide (↑([], b :: y, o).fst.length > 0) = false
        refine ⟨?_, ?_⟩
        · skip
          intro h -- decide (↑([], b :: y, o).snd.fst.length > 0) = true
          refine ⟨?_, ?_⟩
          · kernel_rfl
          · skip
            refine ⟨?_, ?_⟩
            · skip
              intro h -- (↑([], b :: y, o).snd.fst.length == 0) = true
              (simp at h; omega)
            · skip
              intro h -- (↑([], b :: y, o).snd.fst.length == 0) = false
              refine ⟨?_, ?_⟩
              · skip
                intro h -- decide (↑([], b :: y, o).fst.length > 0) = true
                (simp at h; done)
              · skip
                intro h -- decide (↑([], b :: y, o).fst.length > 0) = false
                refine ⟨?_, ?_⟩
                · kernel_rfl
                · skip
                  refine ⟨?_, ?_⟩
                  · skip
                    intro h -- (↑([], b :: y, o).fst.length == 0) = true
                    refine ⟨?_, ?_⟩
                    · kernel_rfl
                    · skip
                      refine ⟨?_, ?_⟩
                      · (refine And.intro ?_ ?_ <;> simp <;> omega)
                      · skip
                        refine ⟨?_, ?_⟩
                        · (refine And.intro ?_ ?_ <;> simp <;> omega)
                        · skip
                          refine ⟨?_, ?_⟩
                          · skip
                            intro h -- ((([], b :: y, o).snd.fst.getD (Int.toNat 0) (0, 0)).snd != 0) = true
                            refine ⟨Int × Int, monoC, (0, 0), [b], ⟨rfl, fun _ => rfl⟩, ⟨.refl _, .refl _, trivial⟩, rfl, ?_⟩
                            refine ⟨Int × Int, monoC, (0, 0), o, [b], 97, ⟨.refl _, .own ..⟩, fun _ => rfl, (by simp only [List.length_cons, List.length_nil]; omega), ?_⟩
                            exact ⟨([], y, o ++ [b]), ⟨keep_t h (hm), by simp only [List.length_cons, List.length_nil, List.length_append]; omega⟩, by simp only [List.length_cons, List.length_nil]; omega, ⟨rfl, rfl⟩, .refl _, .refl _, .refl _, .refl _, .refl _, .refl _, ⟨.refl _, .refl _, trivial⟩, ⟨.refl _, .refl _, trivial⟩, ⟨.refl _, .refl _, trivial⟩, ⟨.refl _, .refl _, trivial⟩, trivial⟩
                          · skip
                            intro h -- ((([], b :: y, o).snd.fst.getD (Int.toNat 0) (0, 0)).snd != 0) = false
                            exact ⟨([], y, o), ⟨keep_f h (hm), by simp only [List.length_cons, List.length_nil]; omega⟩, by simp only [List.length_cons, List.length_nil]; omega, ⟨rfl, rfl⟩, .refl _, .refl _, .refl _, .refl _, .refl _, .refl _, ⟨.refl _, .refl _, trivial⟩, ⟨.refl _, .refl _, trivial⟩, ⟨.refl _, .refl _, trivial⟩, ⟨.refl _, .refl _, trivial⟩, trivial⟩
                  · skip
                    intro h -- (↑([], b :: y, o).fst.length == 0) = false
                    (simp at h; done)
        · skip
          intro h -- decide (↑([], b :: y, o).snd.fst.length > 0) = false
          (simp at h; done)
    · have hm := hi.1
      have hl := hi.2
      simp only [List.length_cons, List.length_nil] at hl
      simp only [mg_l] at hm
      refine ⟨?_, ?_⟩
      · skip
        intro h -- decide (↑(a :: x, [], o).fst.length > 0) = true
        refine ⟨?_, ?_⟩
        · kernel_rfl
        · skip
          refine ⟨?_, ?_⟩
          · skip
            intro h -- (↑(a :: x, [], o).snd.fst.length == 0) = true
            refine ⟨?_, ?_⟩
            · kernel_rfl
            · skip
              refine ⟨?_, ?_⟩
              · (refine And.intro ?_ ?_ <;> simp <;> omega)
              · skip
                refine ⟨?_, ?_⟩
                · (refine And.intro ?_ ?_ <;> simp <;> omega)
                · skip
                  refine ⟨?_, ?_⟩
                  · skip
                    intro h -- (((a :: x, [], o).fst.getD (Int.toNat 0) (0, 0)).snd != 0) = true
                    refine ⟨Int × Int, monoC, (0, 0), [a], ⟨rfl, fun _ => rfl⟩, ⟨.refl _, .refl _, trivial⟩, rfl, ?_⟩
                    refine ⟨Int × Int, monoC, (0, 0), o, [a], 97, ⟨.refl _, .own ..⟩, fun _ => rfl, (by simp only [List.length_cons, List.length_nil]; omega), ?_⟩
                    exact ⟨(x, [], o ++ [a]), ⟨keep_t h (hm), by simp only [List.length_cons, List.length_nil, List.length_append]; omega⟩, by simp only [List.length_cons, List.length_nil]; omega, ⟨rfl, rfl⟩, .refl _, .refl _, .refl _, .refl _, .refl _, .refl _, ⟨.refl _, .refl _, trivial⟩, ⟨.refl _, .refl _, trivial⟩, ⟨.refl _, .refl _, trivial⟩, ⟨.refl _, .refl _, trivial⟩, trivial⟩
                  · skip
                    intro h -- (((a :: x, [], o).fst.getD (Int.toNat 0) (0, 0)).snd != 0) = false
                    exact ⟨(x, [], o), ⟨keep_f h (hm), by simp only [List.length_cons, List.length_nil]; omega⟩, by simp only [List.length_cons, List.length_nil]; omega, ⟨rfl, rfl⟩, .refl _, .refl _, .refl _, .refl _, .refl _, .refl _, ⟨.refl _, .refl _, trivial⟩, ⟨.refl _, .refl _, trivial⟩, ⟨.refl _, .refl _, trivial⟩, ⟨.refl _, .refl _, trivial⟩, trivial⟩
          · skip
            intro h -- (↑(a :: x, [], o).snd.fst.length == 0) = false
            (simp at h; done)
      · skip
        intro h -- decide (↑(a :: x, [], o).fst.length > 0) = false
        (simp at h; done)
    · have hm := hi.1
      have hl := hi.2
      simp only [List.length_cons] at hl
      cases h1 : decide (a.1 < b.1) with
      | true =>
        simp only [mg_lt x y h1] at hm
        refine ⟨?_, ?_⟩
        · skip
          intro h -- decide (↑(a :: x, b :: y, o).fst.length > 0) = true
          refine ⟨?_, ?_⟩
          · kernel_rfl
          · skip
            refine ⟨?_, ?_⟩
            · skip
              intro h -- (↑(a :: x, b :: y, o).snd.fst.length == 0) = true
              (simp at h; omega)
            · skip
              intro h -- (↑(a :: x, b :: y, o).snd.fst.length == 0) = false
              refine ⟨?_, ?_⟩
              · skip
                intro h -- decide (↑(a :: x, b :: y, o).fst.length > 0) = true
                refine ⟨?_, ?_⟩
                · (refine And.intro ?_ ?_ <;> simp <;> omega)
                · skip
                  refine ⟨?_, ?_⟩
                  · (refine And.intro ?_ ?_ <;> simp <;> omega)
                  · skip
                    refine ⟨?_, ?_⟩
                    · skip
                      intro h -- decide (((a :: x, b :: y, o).fst.getD (Int.toNat 0) (0, 0)).fst < ((a :: x, b :: y, o).snd.fst.getD (Int.toNat 0) (0, 0)).fst) = true
                      refine ⟨?_, ?_⟩
                      · kernel_rfl
                      · skip
                        refine ⟨?_, ?_⟩
                        · (refine And.intro ?_ ?_ <;> simp <;> omega)
                        · skip
                          refine ⟨?_, ?_⟩
                          · (refine And.intro ?_ ?_ <;> simp <;> omega)
                          · skip
                            refine ⟨?_, ?_⟩
                            · skip
                              intro h -- (((a :: x, b :: y, o).fst.getD (Int.toNat 0) (0, 0)).snd != 0) = true
                              refine ⟨Int × Int, monoC, (0, 0), [a], ⟨rfl, fun _ => rfl⟩, ⟨.refl _, .refl _, trivial⟩, rfl, ?_⟩
                              refine ⟨Int × Int, monoC, (0, 0), o, [a], 97, ⟨.refl _, .own ..⟩, fun _ => rfl, (by simp only [List.length_cons, List.length_nil]; omega), ?_⟩
                              exact ⟨(x, b :: y, o ++ [a]), ⟨keep_t h (hm), by simp only [List.length_cons, List.length_nil, List.length_append]; omega⟩, by simp only [List.length_cons, List.length_nil]; omega, ⟨rfl, rfl⟩, .refl _, .refl _, .refl _, .refl _, .refl _, .refl _, ⟨.refl _, .refl _, trivial⟩, ⟨.refl _, .refl _, trivial⟩, ⟨.refl _, .refl _, trivial⟩, ⟨.refl _, .refl _, trivial⟩, trivial⟩
                            · skip
                              intro h -- (((a :: x, b :: y, o).fst.getD (Int.toNat 0) (0, 0)).snd != 0) = false
                              exact ⟨(x, b :: y, o), ⟨keep_f h (hm), by simp only [List.length_cons, List.length_nil]; omega⟩, by simp only [List.length_cons, List.length_nil]; omega, ⟨rfl, rfl⟩, .refl _, .refl _, .refl _, .refl _, .refl _, .refl _, ⟨.refl _, .refl _, trivial⟩, ⟨.refl _, .refl _, trivial⟩, ⟨.refl _, .refl _, trivial⟩, ⟨.refl _, .refl _, trivial⟩, trivial⟩
                    · skip
                      intro h -- decide (((a :: x, b :: y, o).fst.getD (Int.toNat 0) (0, 0)).fst < ((a :: x, b :: y, o).snd.fst.getD (Int.toNat 0) (0, 0)).fst) = false
                      (exact Bool.noConfusion (h.symm.trans h1))
              · skip
                intro h -- decide (↑(a :: x, b :: y, o).fst.length > 0) = false
                (simp at h; done)
        · skip
          intro h -- decide (↑(a :: x, b :: y, o).fst.length > 0) = false
          (simp at h; done)
      | false => cases h2 : decide (b.1 < a.1) with
        | true =>
          simp only [mg_gt x y h1 h2] at hm
          refine ⟨?_, ?_⟩
          · skip
            intro h -- decide (↑(a :: x, b :: y, o).fst.length > 0) = true
            refine ⟨?_, ?_⟩
            · kernel_rfl
            · skip
              refine ⟨?_, ?_⟩
              · skip
                intro h -- (↑(a :: x, b :: y, o).snd.fst.length == 0) = true
                (simp at h; omega)
              · skip
                intro h -- (↑(a :: x, b :: y, o).snd.fst.length == 0) = false
                refine ⟨?_, ?_⟩
                · skip
                  intro h -- decide (↑(a :: x, b :: y, o).fst.length > 0) = true
                  refine ⟨?_, ?_⟩
                  · (refine And.intro ?_ ?_ <;> simp <;> omega)
                  · skip
                    refine ⟨?_, ?_⟩
                    · (refine And.intro ?_ ?_ <;> simp <;> omega)
                    · skip
                      refine ⟨?_, ?_⟩
                      · skip
                        intro h -- decide (((a :: x, b :: y, o).fst.getD (Int.toNat 0) (0, 0)).fst < ((a :: x, b :: y, o).snd.fst.getD (Int.toNat 0) (0, 0)).fst) = true
                        (exact Bool.noConfusion (h.symm.trans h1))
                      · skip
                        intro h -- decide (((a :: x, b :: y, o).fst.getD (Int.toNat 0) (0, 0)).fst < ((a :: x, b :: y, o).snd.fst.getD (Int.toNat 0) (0, 0)).fst) = false
                        refine ⟨?_, ?_⟩
                        · kernel_rfl
                        · skip
                          refine ⟨?_, ?_⟩
                          · skip
                            intro h -- (↑(a :: x, b :: y, o).fst.length == 0) = true
                            (simp at h; omega)
                          · skip
                            intro h -- (↑(a :: x, b :: y, o).fst.length == 0) = false
                            refine ⟨?_, ?_⟩
                            · (refine And.intro ?_ ?_ <;> simp <;> omega)
                            · skip
                              refine ⟨?_, ?_⟩
                              · (refine And.intro ?_ ?_ <;> simp <;> omega)
                              · skip
                                refine ⟨?_, ?_⟩
                                · skip
                                  intro h -- decide (((a :: x, b :: y, o).snd.fst.getD (Int.toNat 0) (0, 0)).fst < ((a :: x, b :: y, o).fst.getD (Int.toNat 0) (0, 0)).fst) = true
                                  refine ⟨?_, ?_⟩
                                  · kernel_rfl
                                  · skip
                                    refine ⟨?_, ?_⟩
                                    · (refine And.intro ?_ ?_ <;> simp <;> omega)
                                    · skip
                                      refine ⟨?_, ?_⟩
                                      · (refine And.intro ?_ ?_ <;> simp <;> omega)
                                      · skip
                                        refine ⟨?_, ?_⟩
                                        · skip
                                          intro h -- (((a :: x, b :: y, o).snd.fst.getD (Int.toNat 0) (0, 0)).snd != 0) = true
                                          refine ⟨Int × Int, monoC, (0, 0), [b], ⟨rfl, fun _ => rfl⟩, ⟨.refl _, .refl _, trivial⟩, rfl, ?_⟩
                                          refine ⟨Int × Int, monoC, (0, 0), o, [b], 97, ⟨.refl _, .own ..⟩, fun _ => rfl, (by simp only [List.length_cons, List.length_nil]; omega), ?_⟩
                                          exact ⟨(a :: x, y, o ++ [b]), ⟨keep_t h (hm), by simp only [List.length_cons, List.length_nil, List.length_append]; omega⟩, by simp only [List.length_cons, List.length_nil]; omega, ⟨rfl, rfl⟩, .refl _, .refl _, .refl _, .refl _, .refl _, .refl _, ⟨.refl _, .refl _, trivial⟩, ⟨.refl _, .refl _, trivial⟩, ⟨.refl _, .refl _, trivial⟩, ⟨.refl _, .refl _, trivial⟩, trivial⟩
                                        · skip
                                          intro h -- (((a :: x, b :: y, o).snd.fst.getD (Int.toNat 0) (0, 0)).snd != 0) = false
                                          exact ⟨(a :: x, y, o), ⟨keep_f h (hm), by simp only [List.length_cons, List.length_nil]; omega⟩, by simp only [List.length_cons, List.length_nil]; omega, ⟨rfl, rfl⟩, .refl _, .refl _, .refl _, .refl _, .refl _, .refl _, ⟨.refl _, .refl _, trivial⟩, ⟨.refl _, .refl _, trivial⟩, ⟨.refl _, .refl _, trivial⟩, ⟨.refl _, .refl _, trivial⟩, trivial⟩
                                · skip
                                  intro h -- decide (((a :: x, b :: y, o).snd.fst.getD (Int.toNat 0) (0, 0)).fst < ((a :: x, b :: y, o).fst.getD (Int.toNat 0) (0, 0)).fst) = false
                                  (exact Bool.noConfusion (h.symm.trans h2))
                · skip
                  intro h -- decide (↑(a :: x, b :: y, o).fst.length > 0) = false
                  (simp at h; done)
          · skip
            intro h -- decide (↑(a :: x, b :: y, o).fst.length > 0) = false
            (simp at h; done)
        | false =>
          simp only [mg_eq x y h1 h2] at hm
          refine ⟨?_, ?_⟩
          · skip
            intro h -- decide (↑(a :: x, b :: y, o).fst.length > 0) = true
            refine ⟨?_, ?_⟩
            · kernel_rfl
            · skip
              refine ⟨?_, ?_⟩
              · skip
                intro h -- (↑(a :: x, b :: y, o).snd.fst.length == 0) = true
                (simp at h; omega)
              · skip
                intro h -- (↑(a :: x, b :: y, o).snd.fst.length == 0) = false
                refine ⟨?_, ?_⟩
                · skip
                  intro h -- decide (↑(a :: x, b :: y, o).fst.length > 0) = true
                  refine ⟨?_, ?_⟩
                  · (refine And.intro ?_ ?_ <;> simp <;> omega)
                  · skip
                    refine ⟨?_, ?_⟩
                    · (refine And.intro ?_ ?_ <;> simp <;> omega)
                    · skip
                      refine ⟨?_, ?_⟩
                      · skip
                        intro h -- decide (((a :: x, b :: y, o).fst.getD (Int.toNat 0) (0, 0)).fst < ((a :: x, b :: y, o).snd.fst.getD (Int.toNat 0) (0, 0)).fst) = true
                        (exact Bool.noConfusion (h.symm.trans h1))
                      · skip
                        intro h -- decide (((a :: x, b :: y, o).fst.getD (Int.toNat 0) (0, 0)).fst < ((a :: x, b :: y, o).snd.fst.getD (Int.toNat 0) (0, 0)).fst) = false
                        refine ⟨?_, ?_⟩
                        · kernel_rfl
                        · skip
                          refine ⟨?_, ?_⟩
                          · skip
                            intro h -- (↑(a :: x, b :: y, o).fst.length == 0) = true
                            (simp at h; omega)
                          · skip
                            intro h -- (↑(a :: x, b :: y, o).fst.length == 0) = false
                            refine ⟨?_, ?_⟩
                            · (refine And.intro ?_ ?_ <;> simp <;> omega)
                            · skip
                              refine ⟨?_, ?_⟩
                              · (refine And.intro ?_ ?_ <;> simp <;> omega)
                              · skip
                                refine ⟨?_, ?_⟩
                                · skip
                                  intro h -- decide (((a :: x, b :: y, o).snd.fst.getD (Int.toNat 0) (0, 0)).fst < ((a :: x, b :: y, o).fst.getD (Int.toNat 0) (0, 0)).fst) = true
                                  (exact Bool.noConfusion (h.symm.trans h2))
                                · skip
                                  intro h -- decide (((a :: x, b :: y, o).snd.fst.getD (Int.toNat 0) (0, 0)).fst < ((a :: x, b :: y, o).fst.getD (Int.toNat 0) (0, 0)).fst) = false
                                  refine ⟨?_, ?_⟩
                                  · kernel_rfl
                                  · skip
                                    refine ⟨?_, ?_⟩
                                    · (refine And.intro ?_ ?_ <;> simp <;> omega)
                                    · skip
                                      refine ⟨?_, ?_⟩
                                      · (refine And.intro ?_ ?_ <;> simp <;> omega)
                                      · skip
                                        refine ⟨?_, ?_⟩
                                        · (refine And.intro ?_ ?_ <;> simp <;> omega)
                                        · skip
                                          refine ⟨?_, ?_⟩
                                          · kernel_rfl
                                          · skip
                                            refine ⟨?_, ?_⟩
                                            · (refine And.intro ?_ ?_ <;> simp <;> omega)
                                            · skip
                                              refine ⟨?_, ?_⟩
                                              · (refine And.intro ?_ ?_ <;> simp <;> omega)
                                              · skip
                                                refine ⟨?_, ?_⟩
                                                · skip
                                                  intro h -- (IntKind.i64.wrap (((a :: x, b :: y, o).fst.getD (Int.toNat 0) (0, 0)).snd + ((a :: x, b :: y, o).snd.fst.getD (Int.toNat 0) (0, 0)).snd) != 0) = true
                                                  refine ⟨Int × Int, monoC, (0, 0), [(a.1, IntKind.i64.wrap (a.2 + b.2))], ⟨rfl, fun _ => rfl⟩, ⟨.refl _, .refl _, trivial⟩, rfl, ?_⟩
                                                  refine ⟨Int × Int, monoC, (0, 0), o, [(a.1, IntKind.i64.wrap (a.2 + b.2))], 97, ⟨.refl _, .own ..⟩, fun _ => rfl, (by simp only [List.length_cons, List.length_nil]; omega), ?_⟩
                                                  exact ⟨(x, y, o ++ [(a.1, IntKind.i64.wrap (a.2 + b.2))]), ⟨keep_t h (hm), by simp only [List.length_cons, List.length_nil, List.length_append]; omega⟩, by simp only [List.length_cons, List.length_nil]; omega, ⟨rfl, rfl⟩, .refl _, .refl _, .refl _, .refl _, .refl _, .refl _, ⟨.refl _, .refl _, trivial⟩, ⟨.refl _, .refl _, trivial⟩, ⟨.refl _, .refl _, trivial⟩, ⟨.refl _, .refl _, trivial⟩, trivial⟩
                                                · skip
                                                  intro h -- (IntKind.i64.wrap (((a :: x, b :: y, o).fst.getD (Int.toNat 0) (0, 0)).snd + ((a :: x, b :: y, o).snd.fst.getD (Int.toNat 0) (0, 0)).snd) != 0) = false
                                                  exact ⟨(x, y, o), ⟨keep_f h (hm), by simp only [List.length_cons, List.length_nil]; omega⟩, by simp only [List.length_cons, List.length_nil]; omega, ⟨rfl, rfl⟩, .refl _, .refl _, .refl _, .refl _, .refl _, .refl _, ⟨.refl _, .refl _, trivial⟩, ⟨.refl _, .refl _, trivial⟩, ⟨.refl _, .refl _, trivial⟩, ⟨.refl _, .refl _, trivial⟩, trivial⟩
                · skip
                  intro h -- decide (↑(a :: x, b :: y, o).fst.length > 0) = false
                  (simp at h; done)
          · skip
            intro h -- decide (↑(a :: x, b :: y, o).fst.length > 0) = false
            (simp at h; done)
end Go.Proofs.Ytddcbnillkefhaa.Ax
