/- Layer lex: as the reference says (the statement). -/
import Derived.Test.YtjbpgfcoeaapjaaDoorLl
set_option linter.unusedVariables false
set_option linter.unusedSimpArgs false
namespace Go.Proofs.YtjbpgfcoeaapjaaDoor.Ax
open Go Go.RowKit
def LexExact : Ctr := { A := ByteArray × List UInt8 × List (Int × ByteArray × Int × Int), enc := fun x => [S x.1, .row UInt8 1 byteC 0 x.2.1, .row (Int × ByteArray × Int × Int) 4 tokC tok0 x.2.2], dom := fun x => sh27.ok x.2.1 ∧ sh28.ok x.2.2, res := fun _ _ => .tt, gl := tabs }
set_option maxRecDepth 100000 in
set_option maxHeartbeats 4000000 in
theorem LexExact_ok : CtrSound Tryd.prog 7 LexExact :=
  ctr_of_ax (env_okB tys_ok (eqs := []) trivial (cs := [(15, scanC), (19, rscanC), (20, ljoinC), (21, rjoinC), (13, numC), (22, rnumC), (17, nameC), (23, nameC), (18, twinC), (25, keepR UInt8 1 byteC 0), (24, keepR (Int × ByteArray × Int × Int) 4 tokC tok0), (14, wakesC)])
    ⟨scan_ok, rscan_ok, ljoin_ok, rjoin_ok, num_ok, rnum_ok, name_ok, rname_ok, twin_ok, kBytes_ok, kTokens_ok, wakes_ok, trivial⟩ (bs := []) trivial (gl := tabs)) mixed _ Tryd.func7 (by kernel_rfl) rfl (fun _ _ => Nat.le_of_ble_eq_true rfl) fun ((s, b, l) : ByteArray × List UInt8 × List (Int × ByteArray × Int × Int)) id hd => by
    have hok := toks_ok hd.2
    obtain ⟨u, rfl⟩ : ∃ l : List UInt8, s = ⟨l.toArray⟩ := ⟨s.data.toList, rfl⟩
    have hz := size_txt u
    refine ⟨fun h => ⟨.refl _, rfl⟩, fun h => ?_⟩
    have hu : u.length ≤ 100 := by
      have h : decide (((⟨u.toArray⟩ : ByteArray).size : Int) > 100) = false := h
      have := of_decide_eq_false h; omega
    refine ⟨fun h => ⟨.refl _, rfl⟩, fun h => ?_⟩
    have hb : b.length ≤ 7000 := by dsimp only at h; have := of_decide_eq_false h; omega
    refine ⟨fun h => ⟨.refl _, rfl⟩, fun h => ?_⟩
    have hl : l.length ≤ 400 := by dsimp only at h; have := of_decide_eq_false h; omega
    clear h
    refine ⟨Nat, fun i => [(0, X u), (1, .row UInt8 1 byteC 0 b), (7, I i), (2, .row (Int × ByteArray × Int × Int) 4 tokC tok0 l)], fun _ => [], fun i => i ≤ l.length, fun i => l.length - i, ⟨0, Nat.zero_le _, ⟨⟨rfl, rfl⟩, .refl _, .refl _, .refl _, .refl _, trivial⟩⟩, fun (i : Nat) hil => ?_⟩
    have hil : i ≤ l.length := hil
    have hwj : IntKind.i64.wrap ((i : Int) + 1) = ((i + 1 : Nat) : Int) := by rw [wrap_eq _ (by omega) (by omega)]; omega
    refine ⟨fun h => ?_, fun h => ?_⟩
    · have hlt : i < l.length := dlt h
      refine ⟨by omega, ?_⟩
      refine ⟨fun h => ⟨.refl _, rfl⟩, fun h => ?_⟩
      exact ⟨i + 1, hlt, by show l.length - (i + 1) < l.length - i; omega, ⟨rfl, rfl⟩, .refl _, .refl _, .int hwj, .refl _, trivial⟩
    · refine ⟨b, ⟨.refl _, trivial⟩, rfl, (show b.length ≤ 140737488355328 by omega), ?_⟩
      refine ⟨b, ⟨.own .., trivial⟩, rfl, (show b.length ≤ 4611686018427387904 by omega), ?_⟩
      refine ⟨b, ⟨.refl _, trivial⟩, rfl, (show b.length ≤ 4611686018427387904 by omega), ?_⟩
      refine ⟨l, ⟨.refl _, trivial⟩, rfl, (show l.length ≤ 100000 ∧ ∀ t ∈ l, okT t from ⟨by omega, hok⟩), ?_⟩
      refine ⟨l, ⟨.refl _, trivial⟩, rfl, (show l.length ≤ 100000 ∧ ∀ t ∈ l, okT t from ⟨by omega, hok⟩), ?_⟩
      refine ⟨u, ⟨.refl _, trivial⟩, rfl, (show u.length ≤ 4611686018427387904 by omega), ?_⟩
      refine ⟨u, ⟨.refl _, trivial⟩, rfl, (show u.length ≤ 4611686018427387904 by omega), ?_⟩
      refine ⟨u, ⟨.refl _, trivial⟩, rfl, (show u.length ≤ 4611686018427387904 by omega), ?_⟩
      refine ⟨u, ⟨.refl _, trivial⟩, rfl, (show u.length ≤ 4611686018427387904 by omega), ?_⟩
      have hsl : (scanF b).1.length ≤ 7000 := by
        rcases chain_len b _ _ (chain_F b) with h | h
        · rw [h]; decide
        · omega
      have hjl : (joinF l).1.length ≤ 10000 := by
        rcases join_cases l with ⟨h, e⟩ | ⟨h, e⟩
        · have := join_length h
          rw [e]; show (Lib.join (l.map wdS) [32]).length ≤ _; omega
        · rw [e]; decide
      refine ⟨fun _ => ?_, fun h => absurd h (by show ¬ (nameF u == nameF u) = false; simp)⟩
      refine ⟨fun _ => ?_, fun h => absurd h (by show ¬ ((numF u).getD 0 == (numF u).getD 0) = false; simp)⟩
      refine ⟨fun _ => ?_, fun h => absurd h (by show ¬ ((numF u).isSome == (numF u).isSome) = false; simp)⟩
      refine ⟨((scanF b).1, (scanF b).1), ⟨.own .., .own .., trivial⟩, rfl, (show (scanF b).1.length ≤ 4611686018427387904 by omega), ?_⟩
      refine ⟨fun _ => ?_, fun h => absurd h (by show ¬ decide ((scanF b).1 = (scanF b).1) = false; simp)⟩
      refine ⟨fun _ => ?_, fun h => absurd h (by show ¬ ((scanF b).2.1 == (scanF b).2.1) = false; simp)⟩
      refine ⟨fun _ => ?_, fun h => absurd h (by show ¬ ((scanF b).2.2 == (scanF b).2.2) = false; simp)⟩
      refine ⟨((joinF l).1, (joinF l).1), ⟨.own .., .own .., trivial⟩, rfl, (show (joinF l).1.length ≤ 4611686018427387904 by omega), ?_⟩
      refine ⟨fun _ => ?_, fun h => absurd h (by show ¬ decide ((joinF l).1 = (joinF l).1) = false; simp)⟩
      refine ⟨fun _ => ?_, fun h => absurd h (by show ¬ ((joinF l).2 == (joinF l).2) = false; simp)⟩
      refine ⟨(b, b), ⟨.own .., .refl _, trivial⟩, rfl, (show b.length ≤ 4611686018427387904 by omega), ?_⟩
      refine ⟨fun _ => ?_, fun h => absurd h (by show ¬ decide (b = b) = false; simp)⟩
      refine ⟨(), trivial, rfl, trivial, ?_⟩
      exact ⟨.refl _, rfl⟩
end Go.Proofs.YtjbpgfcoeaapjaaDoor.Ax
