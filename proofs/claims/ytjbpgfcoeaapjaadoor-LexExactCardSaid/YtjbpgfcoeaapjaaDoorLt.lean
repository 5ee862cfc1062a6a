/- Layer lex: two lists; what is wrong is told at its place (the statements). -/
import Derived.Test.YtjbpgfcoeaapjaaDoorLs
set_option linter.unusedVariables false
set_option linter.unusedSimpArgs false
namespace Go.Proofs.YtjbpgfcoeaapjaaDoor.Ax
open Go Go.RowKit
theorem join_two {a b : List (List UInt8)} (ha : a ≠ []) (hb : b ≠ []) : Lib.join (a ++ b) [32] = Lib.join a [32] ++ 32 :: Lib.join b [32] := by
  cases a with
  | nil => exact absurd rfl ha
  | cons x a =>
    cases b with
    | nil => exact absurd rfl hb
    | cons y b =>
      rw [List.cons_append, Lib.join_cons, Lib.join_cons, Lib.join_cons]
      simp [Lib.joinTail]
def LexTwo : Ctr := { A := List (Int × ByteArray × Int × Int) × List (Int × ByteArray × Int × Int), enc := fun x => [.row (Int × ByteArray × Int × Int) 4 tokC tok0 x.1, .row (Int × ByteArray × Int × Int) 4 tokC tok0 x.2], dom := fun x => sh28.ok x.1 ∧ sh28.ok x.2, res := fun _ _ => .tt, gl := tabs }
set_option maxRecDepth 100000 in
set_option maxHeartbeats 4000000 in
theorem LexTwo_ok : CtrSound Tryd.prog 11 LexTwo :=
  ctr_of_ax (env_okB tys_ok (eqs := []) trivial (cs := [(20, ljoinC), (25, keepR UInt8 1 byteC 0), (14, wakesC)]) ⟨ljoin_ok, kBytes_ok, wakes_ok, trivial⟩ (bs := []) trivial (gl := tabs)) mixed _ Tryd.func11 (by kernel_rfl) rfl (fun _ _ => Nat.le_of_ble_eq_true rfl) fun ((a, b) : List (Int × ByteArray × Int × Int) × List (Int × ByteArray × Int × Int)) id hd => by
    have hoka := toks_ok hd.1
    have hokb := toks_ok hd.2
    refine ⟨fun h => ⟨.refl _, rfl⟩, fun h => ?_⟩
    have hla : a.length ≤ 100 := by dsimp only at h; have := of_decide_eq_false h; omega
    refine ⟨fun h => ⟨.refl _, rfl⟩, fun h => ?_⟩
    have hlb : b.length ≤ 100 := by dsimp only at h; have := of_decide_eq_false h; omega
    refine ⟨fun h => ⟨.refl _, rfl⟩, fun h => ?_⟩
    have hna : a ≠ [] := by intro c; dsimp only at h; rw [c] at h; exact absurd h (by decide)
    refine ⟨fun h => ⟨.refl _, rfl⟩, fun h => ?_⟩
    have hnb : b ≠ [] := by intro c; dsimp only at h; rw [c] at h; exact absurd h (by decide)
    refine ⟨a, ⟨.refl _, trivial⟩, rfl, (show a.length ≤ 100000 ∧ ∀ t ∈ a, okT t from ⟨by omega, hoka⟩), ?_⟩
    refine ⟨b, ⟨.refl _, trivial⟩, rfl, (show b.length ≤ 100000 ∧ ∀ t ∈ b, okT t from ⟨by omega, hokb⟩), ?_⟩
    refine ⟨Int × ByteArray × Int × Int, tokC, tok0, [], a, 0, ⟨.e0O .., .refl _⟩, fun _ => rfl, (by simp only [List.length_nil]; omega), ?_⟩
    refine ⟨Int × ByteArray × Int × Int, tokC, tok0, [] ++ a, b, 42, ⟨.refl _, .refl _⟩, fun _ => rfl, (by simp only [List.nil_append]; omega), ?_⟩
    refine ⟨a ++ b, ⟨.ownRow (by simp), trivial⟩, rfl, (show (a ++ b).length ≤ 100000 ∧ ∀ t ∈ a ++ b, okT t from ⟨by rw [List.length_append]; omega, fun t ht => (List.mem_append.1 ht).elim (hoka t) (hokb t)⟩), ?_⟩
    have hall : (a ++ b).all wdOk = (a.all wdOk && b.all wdOk) := List.all_append
    have good : a.all wdOk = true → b.all wdOk = true → joinF (a ++ b) = (Lib.join (a.map wdS) [32] ++ 32 :: Lib.join (b.map wdS) [32], 0) := fun h1 h2 => by
      unfold joinF
      rw [hall, h1, h2, if_pos (by rfl), List.map_append, join_two (by simpa using hna) (by simpa using hnb)]
    have bad : (a.all wdOk = false ∨ b.all wdOk = false) → (joinF (a ++ b)).2 = 4 ∧ (joinF (a ++ b)).1.length = 0 := fun h => by
      have : (a ++ b).all wdOk = false := by rw [hall]; rcases h with h | h <;> simp [h]
      unfold joinF
      rw [this]
      exact ⟨rfl, rfl⟩
    have fin1 : (joinF (a ++ b)).2 = 4 → (((joinF (a ++ b)).2 == 4) = false → False) := fun h c => by rw [h] at c; exact absurd c (by decide)
    refine (join_cases a).elim (fun hq => ?_) (fun hq => ?_)
    · have a1 : (joinF a).2 = 0 := by rw [hq.2]
      have a2 : (joinF a).1 = Lib.join (a.map wdS) [32] := by rw [hq.2]
      refine ⟨fun h => absurd h (by rw [a1]; decide), fun _ => ?_⟩
      refine (join_cases b).elim (fun hr => ?_) (fun hr => ?_)
      · have b1 : (joinF b).2 = 0 := by rw [hr.2]
        have b2 : (joinF b).1 = Lib.join (b.map wdS) [32] := by rw [hr.2]
        refine ⟨fun h => absurd h (by rw [b1]; decide), fun _ => ?_⟩
        have hg := good hq.1 hr.1
        have g1 : (joinF (a ++ b)).2 = 0 := by rw [hg]
        have g2 : (joinF (a ++ b)).1 = (joinF a).1 ++ [32] ++ (joinF b).1 := by rw [hg, a2, b2]; simp
        have la := join_length hq.1
        have lb := join_length hr.1
        rw [← a2] at la
        rw [← b2] at lb
        refine ⟨fun h => ?_, fun h => absurd h (by rw [g1]; decide)⟩
        refine ⟨UInt8, byteC, 0, [32], ⟨rfl, fun _ => rfl⟩, ⟨.refl _, trivial⟩, rfl, ?_⟩
        refine ⟨UInt8, byteC, 0, (joinF a).1, [32], 31, ⟨.refl _, .own ..⟩, fun _ => rfl, (by simp only [List.length_cons, List.length_nil]; omega), ?_⟩
        refine ⟨UInt8, byteC, 0, (joinF a).1 ++ [32], (joinF b).1, 70, ⟨.refl _, .own ..⟩, fun _ => rfl, (by simp only [List.length_append, List.length_cons, List.length_nil]; omega), ?_⟩
        refine ⟨((joinF (a ++ b)).1, (joinF a).1 ++ [32] ++ (joinF b).1), ⟨.own .., .own .., trivial⟩, rfl, (show (joinF (a ++ b)).1.length ≤ 4611686018427387904 by rw [g2]; simp only [List.length_append, List.length_cons, List.length_nil]; omega), ?_⟩
        refine ⟨fun h => ?_, fun h => absurd h (by show ¬ decide ((joinF (a ++ b)).1 = (joinF a).1 ++ [32] ++ (joinF b).1) = false; rw [decide_eq_true g2]; decide)⟩
        refine ⟨(), trivial, rfl, trivial, ?_⟩
        exact ⟨.refl _, rfl⟩
      · have b1 : (joinF b).2 = 4 := by rw [hr.2]
        have hb := bad (.inr hr.1)
        refine ⟨fun h => ?_, fun h => absurd h (by rw [b1]; decide)⟩
        refine ⟨fun h => ?_, fun h => (fin1 hb.1 h).elim⟩
        refine ⟨fun h => ?_, fun h => absurd h (by rw [hb.2]; decide)⟩
        refine ⟨(), trivial, rfl, trivial, ?_⟩
        exact ⟨.refl _, rfl⟩
    · have a1 : (joinF a).2 = 4 := by rw [hq.2]
      have hb := bad (.inl hq.1)
      refine ⟨fun h => ?_, fun h => absurd h (by rw [a1]; decide)⟩
      refine ⟨fun h => ?_, fun h => (fin1 hb.1 h).elim⟩
      refine ⟨fun h => ?_, fun h => absurd h (by rw [hb.2]; decide)⟩
      refine ⟨(), trivial, rfl, trivial, ?_⟩
      exact ⟨.refl _, rfl⟩
end Go.Proofs.YtjbpgfcoeaapjaaDoor.Ax
