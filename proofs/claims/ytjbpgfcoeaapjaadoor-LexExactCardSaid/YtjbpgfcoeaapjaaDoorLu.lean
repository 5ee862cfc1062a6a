/- Layer lex: what is wrong is told at its place (the statement). -/
import Derived.Test.YtjbpgfcoeaapjaaDoorLt
set_option linter.unusedVariables false
set_option linter.unusedSimpArgs false
namespace Go.Proofs.YtjbpgfcoeaapjaaDoor.Ax
open Go Go.RowKit
def odd (c : UInt8) : Prop := isAl c = false ∧ isBlank c = false ∧ c ≠ 45
theorem odd_35 : odd 35 := by unfold odd; decide
theorem scan_first {l : List (Int × ByteArray × Int × Int)} {c : UInt8} (ha : l.all wdOk = true) (hc : odd c) (hs : isSign c = false) (hlen : (Lib.join (l.map wdS) [32]).length ≤ 1000) :
    scanF (Lib.join (l.map wdS) [32] ++ [32, c] ++ [32, 97]) = ([], (((Lib.join (l.map wdS) [32]).length + 1 : Nat) : Int), 3) := by
  have h1 := scan_join 0 l ([32, c] ++ [32, 97]) ha (.inr (by simp; decide))
  have h2 : scanI (0 + (Lib.join (l.map wdS) [32]).length) ([32, c] ++ [32, 97]) = ([], some (0 + (Lib.join (l.map wdS) [32]).length + 1)) := by
    have e : ([32, c] ++ [32, 97] : List UInt8) = [32] ++ ([c] ++ [32, 97]) := rfl
    rw [e, scan_blanks _ [32] ([c] ++ [32, 97]) (by decide)]
    refine scanI_bad _ _ (by simp) (by simpa using hc.2.1) ?_
    have hw : wordF ([c] ++ [32, 97]) = 0 := by
      unfold wordF minus
      simp [hs, hc.2.2, hc.1]
    rw [hw, List.take_zero, token_nil]
  rw [h2] at h1
  rw [List.append_assoc]
  rw [scanF_bad (i := 0 + (Lib.join (l.map wdS) [32]).length + 1) (by simp; omega) h1]
  simp
def LexFirst : Ctr := { A := List (Int × ByteArray × Int × Int) × UInt8, enc := fun x => [.row (Int × ByteArray × Int × Int) 4 tokC tok0 x.1, Y x.2], dom := fun x => sh28.ok x.1 ∧ sh5.ok x.2, res := fun _ _ => .tt, gl := tabs }
set_option maxRecDepth 100000 in
set_option maxHeartbeats 8000000 in
theorem LexFirst_ok : CtrSound Tryd.prog 10 LexFirst :=
  ctr_of_ax (env_okB tys_ok (eqs := []) trivial (cs := [(20, ljoinC), (15, scanC), (18, twinC), (14, wakesC)]) ⟨ljoin_ok, scan_ok, twin_ok, wakes_ok, trivial⟩ (bs := []) trivial (gl := tabs) (cut := [9])) mixed _ Tryd.func10 (by kernel_rfl) rfl (fun _ _ => Nat.le_of_ble_eq_true rfl) fun ((l, bad) : List (Int × ByteArray × Int × Int) × UInt8) id hd => by
    have hok := toks_ok hd.1
    refine ⟨fun h => ⟨.refl _, rfl⟩, fun h => ?_⟩
    have hle : l.length ≤ 60 := by have := of_decide_eq_false h; dsimp only at this; omega
    refine ⟨l, ⟨.refl _, trivial⟩, rfl, (show l.length ≤ 100000 ∧ ∀ t ∈ l, okT t from ⟨by omega, hok⟩), ?_⟩
    refine ⟨fun h => ⟨.refl _, rfl⟩, fun h => ?_⟩
    refine ⟨fun h2 => ⟨.refl _, rfl⟩, fun h2 => ?_⟩
    have hlen : (joinF l).1.length ≤ 1000 := by have := of_decide_eq_false h2; omega
    have hall : l.all wdOk = true := by
      rcases join_cases l with ⟨ha, hj⟩ | ⟨ha, hj⟩
      · exact ha
      · have h : ((joinF l).2 != 0) = false := h
        rw [hj] at h; exact absurd h (by decide)
    have hj : (joinF l).1 = Lib.join (l.map wdS) [32] := by unfold joinF; rw [if_pos hall]
    refine ⟨UInt8, fun c => [(7, Y c), (5, .row UInt8 1 byteC 0 (joinF l).1)], fun _ => [], odd, ?_, fun c hc => ?_⟩
    · have hbo : ∀ (q : isAl bad = false) (q2 : isBlank bad = false) (q3 : bad ≠ 45), odd bad := fun a b c => ⟨a, b, c⟩
      refine ⟨?_, ?_⟩
      · skip
        intro h -- decide (↑(l, bad).snd.toNat ≥ 97) = true
        refine ⟨?_, ?_⟩
        · skip
          intro h -- decide (↑(l, bad).snd.toNat ≤ 122) = true
          exact ⟨35, odd_35, ⟨rfl, rfl⟩, .refl _, .own .., trivial⟩
        · skip
          intro h -- decide (↑(l, bad).snd.toNat ≤ 122) = false
          refine ⟨?_, ?_⟩
          · skip
            intro h -- decide (↑(l, bad).snd.toNat ≥ 65) = true
            refine ⟨?_, ?_⟩
            · skip
              intro h -- decide (↑(l, bad).snd.toNat ≤ 90) = true
              exact ⟨35, odd_35, ⟨rfl, rfl⟩, .refl _, .own .., trivial⟩
            · skip
              intro h -- decide (↑(l, bad).snd.toNat ≤ 90) = false
              refine ⟨?_, ?_⟩
              · skip
                intro h -- decide (↑(l, bad).snd.toNat ≥ 48) = true
                refine ⟨?_, ?_⟩
                · skip
                  intro h -- decide (↑(l, bad).snd.toNat ≤ 57) = true
                  exact ⟨35, odd_35, ⟨rfl, rfl⟩, .refl _, .own .., trivial⟩
                · skip
                  intro h -- decide (↑(l, bad).snd.toNat ≤ 57) = false
                  refine ⟨?_, ?_⟩
                  · skip
                    intro h -- (↑(l, bad).snd.toNat == 95) = true
                    exact ⟨35, odd_35, ⟨rfl, rfl⟩, .refl _, .own .., trivial⟩
                  · skip
                    intro h -- (↑(l, bad).snd.toNat == 95) = false
                    refine ⟨?_, ?_⟩
                    · skip
                      intro h -- (↑(l, bad).snd.toNat == 45) = true
                      exact ⟨35, odd_35, ⟨rfl, rfl⟩, .refl _, .own .., trivial⟩
                    · skip
                      intro h -- (↑(l, bad).snd.toNat == 45) = false
                      refine ⟨?_, ?_⟩
                      · skip
                        intro h -- (↑(l, bad).snd.toNat == 32) = true
                        exact ⟨35, odd_35, ⟨rfl, rfl⟩, .refl _, .own .., trivial⟩
                      · skip
                        intro h -- (↑(l, bad).snd.toNat == 32) = false
                        refine ⟨?_, ?_⟩
                        · skip
                          intro h -- (↑(l, bad).snd.toNat == 9) = true
                          exact ⟨35, odd_35, ⟨rfl, rfl⟩, .refl _, .own .., trivial⟩
                        · skip
                          intro h -- (↑(l, bad).snd.toNat == 9) = false
                          refine ⟨?_, ?_⟩
                          · skip
                            intro h -- (↑(l, bad).snd.toNat == 10) = true
                            exact ⟨35, odd_35, ⟨rfl, rfl⟩, .refl _, .own .., trivial⟩
                          · skip
                            intro h -- (↑(l, bad).snd.toNat == 10) = false
                            refine ⟨?_, ?_⟩
                            · skip
                              intro h -- (↑(l, bad).snd.toNat == 13) = true
                              exact ⟨35, odd_35, ⟨rfl, rfl⟩, .refl _, .own .., trivial⟩
                            · skip
                              intro h -- (↑(l, bad).snd.toNat == 13) = false
                              exact ⟨bad, hbo (by simp [isAl, isLet, isDig] at *; omega) (by rw [blank_eq]; simp at *; omega) (fun c0 => absurd (show bad.toNat = 45 by rw [c0]; rfl) (by simp at *; omega)), ⟨rfl, rfl⟩, .refl _, .own .., trivial⟩
              · skip
                intro h -- decide (↑(l, bad).snd.toNat ≥ 48) = false
                refine ⟨?_, ?_⟩
                · skip
                  intro h -- (↑(l, bad).snd.toNat == 95) = true
                  exact ⟨35, odd_35, ⟨rfl, rfl⟩, .refl _, .own .., trivial⟩
                · skip
                  intro h -- (↑(l, bad).snd.toNat == 95) = false
                  refine ⟨?_, ?_⟩
                  · skip
                    intro h -- (↑(l, bad).snd.toNat == 45) = true
                    exact ⟨35, odd_35, ⟨rfl, rfl⟩, .refl _, .own .., trivial⟩
                  · skip
                    intro h -- (↑(l, bad).snd.toNat == 45) = false
                    refine ⟨?_, ?_⟩
                    · skip
                      intro h -- (↑(l, bad).snd.toNat == 32) = true
                      exact ⟨35, odd_35, ⟨rfl, rfl⟩, .refl _, .own .., trivial⟩
                    · skip
                      intro h -- (↑(l, bad).snd.toNat == 32) = false
                      refine ⟨?_, ?_⟩
                      · skip
                        intro h -- (↑(l, bad).snd.toNat == 9) = true
                        exact ⟨35, odd_35, ⟨rfl, rfl⟩, .refl _, .own .., trivial⟩
                      · skip
                        intro h -- (↑(l, bad).snd.toNat == 9) = false
                        refine ⟨?_, ?_⟩
                        · skip
                          intro h -- (↑(l, bad).snd.toNat == 10) = true
                          exact ⟨35, odd_35, ⟨rfl, rfl⟩, .refl _, .own .., trivial⟩
                        · skip
                          intro h -- (↑(l, bad).snd.toNat == 10) = false
                          refine ⟨?_, ?_⟩
                          · skip
                            intro h -- (↑(l, bad).snd.toNat == 13) = true
                            exact ⟨35, odd_35, ⟨rfl, rfl⟩, .refl _, .own .., trivial⟩
                          · skip
                            intro h -- (↑(l, bad).snd.toNat == 13) = false
                            exact ⟨bad, hbo (by simp [isAl, isLet, isDig] at *; omega) (by rw [blank_eq]; simp at *; omega) (fun c0 => absurd (show bad.toNat = 45 by rw [c0]; rfl) (by simp at *; omega)), ⟨rfl, rfl⟩, .refl _, .own .., trivial⟩
          · skip
            intro h -- decide (↑(l, bad).snd.toNat ≥ 65) = false
            refine ⟨?_, ?_⟩
            · skip
              intro h -- decide (↑(l, bad).snd.toNat ≥ 48) = true
              refine ⟨?_, ?_⟩
              · skip
                intro h -- decide (↑(l, bad).snd.toNat ≤ 57) = true
                exact ⟨35, odd_35, ⟨rfl, rfl⟩, .refl _, .own .., trivial⟩
              · skip
                intro h -- decide (↑(l, bad).snd.toNat ≤ 57) = false
                refine ⟨?_, ?_⟩
                · skip
                  intro h -- (↑(l, bad).snd.toNat == 95) = true
                  exact ⟨35, odd_35, ⟨rfl, rfl⟩, .refl _, .own .., trivial⟩
                · skip
                  intro h -- (↑(l, bad).snd.toNat == 95) = false
                  refine ⟨?_, ?_⟩
                  · skip
                    intro h -- (↑(l, bad).snd.toNat == 45) = true
                    exact ⟨35, odd_35, ⟨rfl, rfl⟩, .refl _, .own .., trivial⟩
                  · skip
                    intro h -- (↑(l, bad).snd.toNat == 45) = false
                    refine ⟨?_, ?_⟩
                    · skip
                      intro h -- (↑(l, bad).snd.toNat == 32) = true
                      exact ⟨35, odd_35, ⟨rfl, rfl⟩, .refl _, .own .., trivial⟩
                    · skip
                      intro h -- (↑(l, bad).snd.toNat == 32) = false
                      refine ⟨?_, ?_⟩
                      · skip
                        intro h -- (↑(l, bad).snd.toNat == 9) = true
                        exact ⟨35, odd_35, ⟨rfl, rfl⟩, .refl _, .own .., trivial⟩
                      · skip
                        intro h -- (↑(l, bad).snd.toNat == 9) = false
                        refine ⟨?_, ?_⟩
                        · skip
                          intro h -- (↑(l, bad).snd.toNat == 10) = true
                          exact ⟨35, odd_35, ⟨rfl, rfl⟩, .refl _, .own .., trivial⟩
                        · skip
                          intro h -- (↑(l, bad).snd.toNat == 10) = false
                          refine ⟨?_, ?_⟩
                          · skip
                            intro h -- (↑(l, bad).snd.toNat == 13) = true
                            exact ⟨35, odd_35, ⟨rfl, rfl⟩, .refl _, .own .., trivial⟩
                          · skip
                            intro h -- (↑(l, bad).snd.toNat == 13) = false
                            exact ⟨bad, hbo (by simp [isAl, isLet, isDig] at *; omega) (by rw [blank_eq]; simp at *; omega) (fun c0 => absurd (show bad.toNat = 45 by rw [c0]; rfl) (by simp at *; omega)), ⟨rfl, rfl⟩, .refl _, .own .., trivial⟩
            · skip
              intro h -- decide (↑(l, bad).snd.toNat ≥ 48) = false
              refine ⟨?_, ?_⟩
              · skip
                intro h -- (↑(l, bad).snd.toNat == 95) = true
                exact ⟨35, odd_35, ⟨rfl, rfl⟩, .refl _, .own .., trivial⟩
              · skip
                intro h -- (↑(l, bad).snd.toNat == 95) = false
                refine ⟨?_, ?_⟩
                · skip
                  intro h -- (↑(l, bad).snd.toNat == 45) = true
                  exact ⟨35, odd_35, ⟨rfl, rfl⟩, .refl _, .own .., trivial⟩
                · skip
                  intro h -- (↑(l, bad).snd.toNat == 45) = false
                  refine ⟨?_, ?_⟩
                  · skip
                    intro h -- (↑(l, bad).snd.toNat == 32) = true
                    exact ⟨35, odd_35, ⟨rfl, rfl⟩, .refl _, .own .., trivial⟩
                  · skip
                    intro h -- (↑(l, bad).snd.toNat == 32) = false
                    refine ⟨?_, ?_⟩
                    · skip
                      intro h -- (↑(l, bad).snd.toNat == 9) = true
                      exact ⟨35, odd_35, ⟨rfl, rfl⟩, .refl _, .own .., trivial⟩
                    · skip
                      intro h -- (↑(l, bad).snd.toNat == 9) = false
                      refine ⟨?_, ?_⟩
                      · skip
                        intro h -- (↑(l, bad).snd.toNat == 10) = true
                        exact ⟨35, odd_35, ⟨rfl, rfl⟩, .refl _, .own .., trivial⟩
                      · skip
                        intro h -- (↑(l, bad).snd.toNat == 10) = false
                        refine ⟨?_, ?_⟩
                        · skip
                          intro h -- (↑(l, bad).snd.toNat == 13) = true
                          exact ⟨35, odd_35, ⟨rfl, rfl⟩, .refl _, .own .., trivial⟩
                        · skip
                          intro h -- (↑(l, bad).snd.toNat == 13) = false
                          exact ⟨bad, hbo (by simp [isAl, isLet, isDig] at *; omega) (by rw [blank_eq]; simp at *; omega) (fun c0 => absurd (show bad.toNat = 45 by rw [c0]; rfl) (by simp at *; omega)), ⟨rfl, rfl⟩, .refl _, .own .., trivial⟩
      · skip
        intro h -- decide (↑(l, bad).snd.toNat ≥ 97) = false
        refine ⟨?_, ?_⟩
        · skip
          intro h -- decide (↑(l, bad).snd.toNat ≥ 65) = true
          refine ⟨?_, ?_⟩
          · skip
            intro h -- decide (↑(l, bad).snd.toNat ≤ 90) = true
            exact ⟨35, odd_35, ⟨rfl, rfl⟩, .refl _, .own .., trivial⟩
          · skip
            intro h -- decide (↑(l, bad).snd.toNat ≤ 90) = false
            refine ⟨?_, ?_⟩
            · skip
              intro h -- decide (↑(l, bad).snd.toNat ≥ 48) = true
              refine ⟨?_, ?_⟩
              · skip
                intro h -- decide (↑(l, bad).snd.toNat ≤ 57) = true
                exact ⟨35, odd_35, ⟨rfl, rfl⟩, .refl _, .own .., trivial⟩
              · skip
                intro h -- decide (↑(l, bad).snd.toNat ≤ 57) = false
                refine ⟨?_, ?_⟩
                · skip
                  intro h -- (↑(l, bad).snd.toNat == 95) = true
                  exact ⟨35, odd_35, ⟨rfl, rfl⟩, .refl _, .own .., trivial⟩
                · skip
                  intro h -- (↑(l, bad).snd.toNat == 95) = false
                  refine ⟨?_, ?_⟩
                  · skip
                    intro h -- (↑(l, bad).snd.toNat == 45) = true
                    exact ⟨35, odd_35, ⟨rfl, rfl⟩, .refl _, .own .., trivial⟩
                  · skip
                    intro h -- (↑(l, bad).snd.toNat == 45) = false
                    refine ⟨?_, ?_⟩
                    · skip
                      intro h -- (↑(l, bad).snd.toNat == 32) = true
                      exact ⟨35, odd_35, ⟨rfl, rfl⟩, .refl _, .own .., trivial⟩
                    · skip
                      intro h -- (↑(l, bad).snd.toNat == 32) = false
                      refine ⟨?_, ?_⟩
                      · skip
                        intro h -- (↑(l, bad).snd.toNat == 9) = true
                        exact ⟨35, odd_35, ⟨rfl, rfl⟩, .refl _, .own .., trivial⟩
                      · skip
                        intro h -- (↑(l, bad).snd.toNat == 9) = false
                        refine ⟨?_, ?_⟩
                        · skip
                          intro h -- (↑(l, bad).snd.toNat == 10) = true
                          exact ⟨35, odd_35, ⟨rfl, rfl⟩, .refl _, .own .., trivial⟩
                        · skip
                          intro h -- (↑(l, bad).snd.toNat == 10) = false
                          refine ⟨?_, ?_⟩
                          · skip
                            intro h -- (↑(l, bad).snd.toNat == 13) = true
                            exact ⟨35, odd_35, ⟨rfl, rfl⟩, .refl _, .own .., trivial⟩
                          · skip
                            intro h -- (↑(l, bad).snd.toNat == 13) = false
                            exact ⟨bad, hbo (by simp [isAl, isLet, isDig] at *; omega) (by rw [blank_eq]; simp at *; omega) (fun c0 => absurd (show bad.toNat = 45 by rw [c0]; rfl) (by simp at *; omega)), ⟨rfl, rfl⟩, .refl _, .own .., trivial⟩
            · skip
              intro h -- decide (↑(l, bad).snd.toNat ≥ 48) = false
              refine ⟨?_, ?_⟩
              · skip
                intro h -- (↑(l, bad).snd.toNat == 95) = true
                exact ⟨35, odd_35, ⟨rfl, rfl⟩, .refl _, .own .., trivial⟩
              · skip
                intro h -- (↑(l, bad).snd.toNat == 95) = false
                refine ⟨?_, ?_⟩
                · skip
                  intro h -- (↑(l, bad).snd.toNat == 45) = true
                  exact ⟨35, odd_35, ⟨rfl, rfl⟩, .refl _, .own .., trivial⟩
                · skip
                  intro h -- (↑(l, bad).snd.toNat == 45) = false
                  refine ⟨?_, ?_⟩
                  · skip
                    intro h -- (↑(l, bad).snd.toNat == 32) = true
                    exact ⟨35, odd_35, ⟨rfl, rfl⟩, .refl _, .own .., trivial⟩
                  · skip
                    intro h -- (↑(l, bad).snd.toNat == 32) = false
                    refine ⟨?_, ?_⟩
                    · skip
                      intro h -- (↑(l, bad).snd.toNat == 9) = true
                      exact ⟨35, odd_35, ⟨rfl, rfl⟩, .refl _, .own .., trivial⟩
                    · skip
                      intro h -- (↑(l, bad).snd.toNat == 9) = false
                      refine ⟨?_, ?_⟩
                      · skip
                        intro h -- (↑(l, bad).snd.toNat == 10) = true
                        exact ⟨35, odd_35, ⟨rfl, rfl⟩, .refl _, .own .., trivial⟩
                      · skip
                        intro h -- (↑(l, bad).snd.toNat == 10) = false
                        refine ⟨?_, ?_⟩
                        · skip
                          intro h -- (↑(l, bad).snd.toNat == 13) = true
                          exact ⟨35, odd_35, ⟨rfl, rfl⟩, .refl _, .own .., trivial⟩
                        · skip
                          intro h -- (↑(l, bad).snd.toNat == 13) = false
                          exact ⟨bad, hbo (by simp [isAl, isLet, isDig] at *; omega) (by rw [blank_eq]; simp at *; omega) (fun c0 => absurd (show bad.toNat = 45 by rw [c0]; rfl) (by simp at *; omega)), ⟨rfl, rfl⟩, .refl _, .own .., trivial⟩
        · skip
          intro h -- decide (↑(l, bad).snd.toNat ≥ 65) = false
          refine ⟨?_, ?_⟩
          · skip
            intro h -- decide (↑(l, bad).snd.toNat ≥ 48) = true
            refine ⟨?_, ?_⟩
            · skip
              intro h -- decide (↑(l, bad).snd.toNat ≤ 57) = true
              exact ⟨35, odd_35, ⟨rfl, rfl⟩, .refl _, .own .., trivial⟩
            · skip
              intro h -- decide (↑(l, bad).snd.toNat ≤ 57) = false
              refine ⟨?_, ?_⟩
              · skip
                intro h -- (↑(l, bad).snd.toNat == 95) = true
                exact ⟨35, odd_35, ⟨rfl, rfl⟩, .refl _, .own .., trivial⟩
              · skip
                intro h -- (↑(l, bad).snd.toNat == 95) = false
                refine ⟨?_, ?_⟩
                · skip
                  intro h -- (↑(l, bad).snd.toNat == 45) = true
                  exact ⟨35, odd_35, ⟨rfl, rfl⟩, .refl _, .own .., trivial⟩
                · skip
                  intro h -- (↑(l, bad).snd.toNat == 45) = false
                  refine ⟨?_, ?_⟩
                  · skip
                    intro h -- (↑(l, bad).snd.toNat == 32) = true
                    exact ⟨35, odd_35, ⟨rfl, rfl⟩, .refl _, .own .., trivial⟩
                  · skip
                    intro h -- (↑(l, bad).snd.toNat == 32) = false
                    refine ⟨?_, ?_⟩
                    · skip
                      intro h -- (↑(l, bad).snd.toNat == 9) = true
                      exact ⟨35, odd_35, ⟨rfl, rfl⟩, .refl _, .own .., trivial⟩
                    · skip
                      intro h -- (↑(l, bad).snd.toNat == 9) = false
                      refine ⟨?_, ?_⟩
                      · skip
                        intro h -- (↑(l, bad).snd.toNat == 10) = true
                        exact ⟨35, odd_35, ⟨rfl, rfl⟩, .refl _, .own .., trivial⟩
                      · skip
                        intro h -- (↑(l, bad).snd.toNat == 10) = false
                        refine ⟨?_, ?_⟩
                        · skip
                          intro h -- (↑(l, bad).snd.toNat == 13) = true
                          exact ⟨35, odd_35, ⟨rfl, rfl⟩, .refl _, .own .., trivial⟩
                        · skip
                          intro h -- (↑(l, bad).snd.toNat == 13) = false
                          exact ⟨bad, hbo (by simp [isAl, isLet, isDig] at *; omega) (by rw [blank_eq]; simp at *; omega) (fun c0 => absurd (show bad.toNat = 45 by rw [c0]; rfl) (by simp at *; omega)), ⟨rfl, rfl⟩, .refl _, .own .., trivial⟩
          · skip
            intro h -- decide (↑(l, bad).snd.toNat ≥ 48) = false
            refine ⟨?_, ?_⟩
            · skip
              intro h -- (↑(l, bad).snd.toNat == 95) = true
              exact ⟨35, odd_35, ⟨rfl, rfl⟩, .refl _, .own .., trivial⟩
            · skip
              intro h -- (↑(l, bad).snd.toNat == 95) = false
              refine ⟨?_, ?_⟩
              · skip
                intro h -- (↑(l, bad).snd.toNat == 45) = true
                exact ⟨35, odd_35, ⟨rfl, rfl⟩, .refl _, .own .., trivial⟩
              · skip
                intro h -- (↑(l, bad).snd.toNat == 45) = false
                refine ⟨?_, ?_⟩
                · skip
                  intro h -- (↑(l, bad).snd.toNat == 32) = true
                  exact ⟨35, odd_35, ⟨rfl, rfl⟩, .refl _, .own .., trivial⟩
                · skip
                  intro h -- (↑(l, bad).snd.toNat == 32) = false
                  refine ⟨?_, ?_⟩
                  · skip
                    intro h -- (↑(l, bad).snd.toNat == 9) = true
                    exact ⟨35, odd_35, ⟨rfl, rfl⟩, .refl _, .own .., trivial⟩
                  · skip
                    intro h -- (↑(l, bad).snd.toNat == 9) = false
                    refine ⟨?_, ?_⟩
                    · skip
                      intro h -- (↑(l, bad).snd.toNat == 10) = true
                      exact ⟨35, odd_35, ⟨rfl, rfl⟩, .refl _, .own .., trivial⟩
                    · skip
                      intro h -- (↑(l, bad).snd.toNat == 10) = false
                      refine ⟨?_, ?_⟩
                      · skip
                        intro h -- (↑(l, bad).snd.toNat == 13) = true
                        exact ⟨35, odd_35, ⟨rfl, rfl⟩, .refl _, .own .., trivial⟩
                      · skip
                        intro h -- (↑(l, bad).snd.toNat == 13) = false
                        exact ⟨bad, hbo (by simp [isAl, isLet, isDig] at *; omega) (by rw [blank_eq]; simp at *; omega) (fun c0 => absurd (show bad.toNat = 45 by rw [c0]; rfl) (by simp at *; omega)), ⟨rfl, rfl⟩, .refl _, .own .., trivial⟩
    have hc : odd c := hc
    refine ⟨UInt8 × Nat, fun s => [(7, Y s.1), (5, .row UInt8 1 byteC 0 (joinF l).1), (9, I s.2), (8, S signsB)], fun _ => [], fun s => odd s.1 ∧ s.2 ≤ 9 ∧ ∀ j, j < s.2 → byteAt signsB j ≠ (s.1.toNat : Int), fun s => 9 - s.2, ⟨(c, 0), ⟨hc, Nat.zero_le _, fun j hj => by omega⟩, ⟨⟨rfl, rfl⟩, .refl _, .refl _, .refl _, .refl _, trivial⟩⟩, fun ((d, i) : UInt8 × Nat) hi => ?_⟩
    have hod : odd d := hi.1
    have hil : i ≤ 9 := hi.2.1
    have hn : ∀ j, j < i → byteAt signsB j ≠ (d.toNat : Int) := hi.2.2
    have hs : signsB.size = 9 := rfl
    have hwj : IntKind.i64.wrap ((i : Int) + 1) = ((i + 1 : Nat) : Int) := by rw [wrap_eq _ (by omega) (by omega)]; omega
    refine ⟨fun h => ?_, fun h => ?_⟩
    · have hlt : i < 9 := by have h : decide ((i : Int) < (signsB.size : Int)) = true := h
                             rw [hs] at h; have := of_decide_eq_true h; omega
      refine ⟨⟨by omega, by show (i : Int) < (signsB.size : Int); rw [hs]; omega⟩, fun h2 => ?_, fun h2 => ?_⟩
      · refine ⟨(35, i + 1), ⟨odd_35, hlt, fun j hj => ?_⟩, by show 9 - (i + 1) < 9 - i; omega, ⟨rfl, rfl⟩, .refl _, .refl _, .int hwj, .refl _, trivial⟩
        have hj : j < 9 := by have hj : j < i + 1 := hj; omega
        match j, hj with
        | 0, _ | 1, _ | 2, _ | 3, _ | 4, _ | 5, _ | 6, _ | 7, _ | 8, _ => show byteAt signsB _ ≠ ((35 : UInt8).toNat : Int); decide
      · refine ⟨(d, i + 1), ⟨hod, hlt, fun j hj => ?_⟩, by show 9 - (i + 1) < 9 - i; omega, ⟨rfl, rfl⟩, .refl _, .refl _, .int hwj, .refl _, trivial⟩
        rcases Nat.lt_succ_iff_lt_or_eq.1 hj with q | rfl
        · exact hn j q
        · have h2 : (byteAt signsB j == (d.toNat : Int)) = false := h2
          simpa using h2
    · have h9 : i = 9 := by have h : decide ((i : Int) < (signsB.size : Int)) = false := h
                            rw [hs] at h; have := of_decide_eq_false h; omega
      have hsg : isSign d = false := by
        have h0 := hn 0 (by omega); have h1 := hn 1 (by omega); have h2 := hn 2 (by omega); have h3 := hn 3 (by omega); have h4 := hn 4 (by omega); have h5 := hn 5 (by omega); have h6 := hn 6 (by omega); have h7 := hn 7 (by omega); have h8 := hn 8 (by omega)
        rw [sign_eq]
        simp [byteAt, signsB] at h0 h1 h2 h3 h4 h5 h6 h7 h8
        simp; omega
      have hsc := scan_first hall hod hsg (by rw [← hj]; exact hlen)
      rw [← hj] at hsc
      obtain ⟨b3, hb3⟩ : ∃ b, b = (joinF l).1 ++ [32, d] ++ [32, 97] := ⟨_, rfl⟩
      rw [← hb3] at hsc
      have s1 : (scanF b3).2.2 = 3 := by rw [hsc]
      have s2 : (scanF b3).2.1 = ((joinF l).1.length + 1 : Nat) := by rw [hsc]
      have s3 : (scanF b3).1.length = 0 := by rw [hsc]; rfl
      have hwl : IntKind.i64.wrap (((joinF l).1.length : Int) + 1) = (((joinF l).1.length + 1 : Nat) : Int) := by rw [wrap_eq _ (by omega) (by omega)]; omega
      refine ⟨(joinF l).1, ⟨.refl _, trivial⟩, rfl, (show (joinF l).1.length ≤ 140737488355328 by omega), ?_⟩
      refine ⟨UInt8, byteC, 0, [32, d], ⟨rfl, fun _ => rfl⟩, ⟨.refl _, .refl _, trivial⟩, rfl, ?_⟩
      refine ⟨UInt8, byteC, 0, (joinF l).1, [32, d], 88, ⟨.refl _, .own ..⟩, fun _ => rfl, (by simp only [List.length_cons, List.length_nil]; omega), ?_⟩
      refine ⟨UInt8, byteC, 0, (joinF l).1 ++ [32, d], [32, 97], 91, ⟨.refl _, .refl _⟩, fun _ => rfl, (by simp only [List.length_append, List.length_cons, List.length_nil]; omega), ?_⟩
      refine ⟨b3, ⟨.ownRow hb3.symm, trivial⟩, rfl, (show b3.length ≤ 4611686018427387904 by rw [hb3]; simp only [List.length_append, List.length_cons, List.length_nil]; omega), ?_⟩
      refine ⟨fun _ => ?_, fun h => absurd h (by show ¬ ((scanF b3).2.2 == 3) = false; rw [s1]; decide)⟩
      refine ⟨fun _ => ?_, fun h => absurd h (by show ¬ ((scanF b3).2.1 == IntKind.i64.wrap (((joinF l).1.length : Int) + 1)) = false; rw [s2, hwl]; simp)⟩
      refine ⟨fun _ => ?_, fun h => absurd h (by show ¬ (((scanF b3).1.length : Int) == 0) = false; rw [s3]; decide)⟩
      refine ⟨(), trivial, rfl, trivial, ?_⟩
      exact ⟨.refl _, rfl⟩
end Go.Proofs.YtjbpgfcoeaapjaaDoor.Ax
