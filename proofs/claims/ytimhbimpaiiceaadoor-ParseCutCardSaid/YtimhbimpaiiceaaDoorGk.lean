/- Layer parse: what each statement wakes; ParseWords. -/
import Derived.Test.YtimhbimpaiiceaaDoorGj
import Derived.Test.YtimhbimpaiiceaaDoorGt
import Derived.Test.YtimhbimpaiiceaaDoorSh
set_option linter.unusedVariables false
set_option linter.unusedSimpArgs false
namespace Go.Proofs.YtimhbimpaiiceaaDoor.Ax
open Go Go.RowKit
abbrev lC : Ctr := { A := Unit, enc := fun _ => [], dom := fun _ => True, res := fun _ _ => .tt, gl := tabP }
theorem wk1 : parseF [99, 108, 97, 115, 115, 32, 65, 32, 123, 32, 102, 105, 101, 108, 100, 32, 120, 32, 58, 32, 105, 110, 116, 32, 59, 32, 125] = ([⟨⟨#[65]⟩, false, noS, [], [⟨⟨#[120]⟩, (2, noS), false⟩], []⟩], 0, 0) := by decide +kernel
theorem wk2 : parseF [99, 108, 97, 115, 115, 32, 65, 32, 123, 32, 102, 105, 101, 108, 100, 32, 105, 110, 116, 32, 58, 32, 105, 110, 116, 32, 59, 32, 125] = ([], 16, 4) := by decide +kernel
theorem wk3 : opV ⟨#[116, 104, 114, 111, 119]⟩ = 43 := by decide +kernel
theorem wk4 : wordF2 8 = ⟨#[97, 100, 100]⟩ := by decide +kernel
theorem wk5 : keptF [99, 108, 97, 115, 115] = true := by decide +kernel
set_option maxRecDepth 100000 in
set_option maxHeartbeats 2000000 in
theorem wakesP_ok : CtrSound Tryd.prog 15 lC :=
  ctr_of_ax (env_okB tys_ok (eqs := []) trivial (cs := [(16, parseC), (12, opC), (11, pwordC), (14, keptC)]) ⟨parse_ok, op_ok, pword_ok, kept_ok, trivial⟩ (bs := []) trivial (vec := [10, 12, 17, 19]) (gl := tabP)) mixed _ Tryd.func15 (by kernel_rfl) rfl (fun _ _ => Nat.le_of_ble_eq_true rfl) fun (_ : Unit) id hd => by
    obtain ⟨b1, e1⟩ : ∃ b : List UInt8, b = [99, 108, 97, 115, 115, 32, 65, 32, 123, 32, 102, 105, 101, 108, 100, 32, 120, 32, 58, 32, 105, 110, 116, 32, 59, 32, 125] := ⟨_, rfl⟩
    obtain ⟨b2, e2⟩ : ∃ b : List UInt8, b = [99, 108, 97, 115, 115, 32, 65, 32, 123, 32, 102, 105, 101, 108, 100, 32, 105, 110, 116, 32, 58, 32, 105, 110, 116, 32, 59, 32, 125] := ⟨_, rfl⟩
    have p1 := wk1
    rw [← e1] at p1
    have p2 := wk2
    rw [← e2] at p2
    have a1 : (parseF b1).2.2 = 0 := by rw [p1]
    have a2 : (parseF b1).1.length = 1 := by rw [p1]; rfl
    have a3 : ((parseF b1).1.getD 0 cls0).fields.length = 1 := by rw [p1]; rfl
    have a4 : (((parseF b1).1.getD 0 cls0).fields.getD 0 fld0).type.1 = 2 := by rw [p1]; rfl
    have a5 : (parseF b2).2.2 = 4 := by rw [p2]
    have a6 : (parseF b2).2.1 = 16 := by rw [p2]
    refine ⟨UInt8, byteC, 0, [99, 108, 97, 115, 115, 32, 65, 32, 123, 32, 102, 105, 101, 108, 100, 32, 120, 32, 58, 32, 105, 110, 116, 32, 59, 32, 125], ⟨rfl, fun _ => ⟨rfl, rfl, rfl⟩⟩, ⟨.refl _, .refl _, .refl _, .refl _, .refl _, .refl _, .refl _, .refl _, .refl _, .refl _, .refl _, .refl _, .refl _, .refl _, .refl _, .refl _, .refl _, .refl _, .refl _, .refl _, .refl _, .refl _, .refl _, .refl _, .refl _, .refl _, .refl _, trivial⟩, ?_⟩
    refine ⟨by decide, ?_⟩
    refine ⟨b1, ⟨.rowEq (by rw [e1]; rfl), trivial⟩, rfl, (show b1.length ≤ 4611686018427387904 by rw [e1]; decide), ?_⟩
    refine ⟨UInt8, byteC, 0, [99, 108, 97, 115, 115, 32, 65, 32, 123, 32, 102, 105, 101, 108, 100, 32, 105, 110, 116, 32, 58, 32, 105, 110, 116, 32, 59, 32, 125], ⟨rfl, fun _ => ⟨rfl, rfl, rfl⟩⟩, ⟨.refl _, .refl _, .refl _, .refl _, .refl _, .refl _, .refl _, .refl _, .refl _, .refl _, .refl _, .refl _, .refl _, .refl _, .refl _, .refl _, .refl _, .refl _, .refl _, .refl _, .refl _, .refl _, .refl _, .refl _, .refl _, .refl _, .refl _, .refl _, .refl _, trivial⟩, ?_⟩
    refine ⟨by decide, ?_⟩
    refine ⟨b2, ⟨.rowEq (by rw [e2]; rfl), trivial⟩, rfl, (show b2.length ≤ 4611686018427387904 by rw [e2]; decide), ?_⟩
    refine ⟨⟨#[116, 104, 114, 111, 119]⟩, ⟨.refl _, trivial⟩, rfl, trivial, ?_⟩
    refine ⟨fun h => ?_, fun h => absurd h (by show ¬ ((parseF b1).2.2 == 0) = false; rw [a1]; decide)⟩
    refine ⟨fun h => ?_, fun h => absurd h (by show ¬ (((parseF b1).1.length : Int) == 1) = false; rw [a2]; decide)⟩
    refine ⟨(show (0 : Int) ≤ 0 ∧ (0 : Int) < ((parseF b1).1.length : Int) by rw [a2]; decide), ?_⟩
    refine ⟨fun h => ?_, fun h => absurd h (by show ¬ ((((parseF b1).1.getD 0 cls0).fields.length : Int) == 1) = false; rw [a3]; decide)⟩
    refine ⟨(show (0 : Int) ≤ 0 ∧ (0 : Int) < ((parseF b1).1.length : Int) by rw [a2]; decide), ?_⟩
    refine ⟨(show (0 : Int) ≤ 0 ∧ (0 : Int) < (((parseF b1).1.getD 0 cls0).fields.length : Int) by rw [a3]; decide), ?_⟩
    refine ⟨fun h => ?_, fun h => absurd h (by show ¬ ((((parseF b1).1.getD 0 cls0).fields.getD 0 fld0).type.1 == 2) = false; rw [a4]; decide)⟩
    refine ⟨fun h => ?_, fun h => absurd h (by show ¬ ((parseF b2).2.2 == 4) = false; rw [a5]; decide)⟩
    refine ⟨fun h => ?_, fun h => absurd h (by show ¬ ((parseF b2).2.1 == 16) = false; rw [a6]; decide)⟩
    refine ⟨fun h => ?_, fun h => absurd h (by show ¬ (decide (0 ≤ opV ⟨#[116, 104, 114, 111, 119]⟩)) = false; rw [wk3]; decide)⟩
    refine ⟨fun h => ?_, fun h => absurd h (by show ¬ ((if opV ⟨#[116, 104, 114, 111, 119]⟩ < 0 then 0 else opV ⟨#[116, 104, 114, 111, 119]⟩) == 43) = false; rw [wk3]; decide)⟩
    refine ⟨(8 : Int), ⟨.refl _, trivial⟩, rfl, trivial, ?_⟩
    refine ⟨fun h => ?_, fun h => absurd h (by show ¬ ((wordF2 8).toList == (⟨#[97, 100, 100]⟩ : ByteArray).toList) = false; rw [wk4]; simp)⟩
    refine ⟨[99, 108, 97, 115, 115], ⟨.str rfl, trivial⟩, rfl, trivial, ?_⟩
    exact ⟨.toTT wk5, rfl⟩
theorem umodC (n : Int) (L : Nat) (h0 : 0 < L) (h1 : L ≤ 1000000000) : ∃ k : Nat, k < L ∧ IntKind.i64.wrap ((IntKind.u64.wrap n).tmod (L : Int)) = (k : Int) := by
  have hr : 0 ≤ IntKind.u64.wrap n := by
    simp only [IntKind.wrap, IntKind.bits, IntKind.signed]
    simp
    omega
  have h3 := Int.tmod_lt_of_pos (IntKind.u64.wrap n) (show (0 : Int) < L by omega)
  have h4 := Int.tmod_nonneg (L : Int) hr
  exact ⟨((IntKind.u64.wrap n).tmod (L : Int)).toNat, by omega, by rw [wrap_eq _ (by omega) (by omega)]; omega⟩
def ParseWords : Ctr := { A := Int × Int, enc := fun x => [I x.1, I x.2], dom := fun _ => True, res := fun _ _ => .tt, gl := tabP }
theorem word_inj {a b : Nat} (ha : a < 44) (hb : b < 44) : wordF2 (a : Int) = wordF2 (b : Int) ↔ a = b := by
  constructor
  · intro h
    have h1 := (word_op (o := (a : Int)) (by omega) (by omega)).2.1
    rw [h, (word_op (o := (b : Int)) (by omega) (by omega)).2.1] at h1
    omega
  · rintro rfl; rfl
theorem ba_len (s : ByteArray) : s.data.toList.length = s.size := by rw [Array.length_toList]; rfl
theorem name_len {s : ByteArray} (h : nameF s.data.toList = true) : s.data.toList.length ≤ 20 := by
  obtain ⟨c, r, e, -, -, h4⟩ := name_form.1 h
  exact h4
set_option maxRecDepth 100000 in
set_option maxHeartbeats 2000000 in
theorem ParseWords_ok : CtrSound Tryd.prog 3 ParseWords :=
  ctr_of_ax (env_okB tys_ok (eqs := []) trivial (cs := [(12, opC), (11, pwordC), (14, keptC), (13, nameC), (15, lC)]) ⟨op_ok, pword_ok, kept_ok, name_ok, wakesP_ok, trivial⟩ (bs := []) trivial (gl := tabP)) mixed _ Tryd.func3 (by kernel_rfl) rfl (fun _ _ => Nat.le_of_ble_eq_true rfl) fun ((op, other) : Int × Int) id hd => by
    obtain ⟨a, ha, ea⟩ := umodC op 44 (by decide) (by decide)
    obtain ⟨b, hb, eb⟩ := umodC other 44 (by decide) (by decide)
    have ea : IntKind.i64.wrap ((IntKind.u64.wrap op).tmod 44) = (a : Int) := ea
    have eb : IntKind.i64.wrap ((IntKind.u64.wrap other).tmod 44) = (b : Int) := eb
    obtain ⟨w1, w2, w3⟩ := word_op (o := (a : Int)) (by omega) (by omega)
    have hl := name_len w1
    refine ⟨by decide, ?_⟩
    refine ⟨by decide, ?_⟩
    refine ⟨(a : Int), ⟨.int ea, trivial⟩, rfl, trivial, ?_⟩
    refine ⟨wordF2 a, ⟨.refl _, trivial⟩, rfl, trivial, ?_⟩
    refine ⟨fun h => ?_, fun h => absurd h (by show ¬ (decide (0 ≤ opV (wordF2 a))) = false; rw [w2]; simp)⟩
    refine ⟨fun h => ?_, fun h => absurd h (by show ¬ ((if opV (wordF2 a) < 0 then 0 else opV (wordF2 a)) == IntKind.i64.wrap ((IntKind.u64.wrap op).tmod 44)) = false; rw [w2, ea]; rw [if_neg (by omega)]; simp)⟩
    refine ⟨(wordF2 a).data.toList, ⟨.refl _, trivial⟩, rfl, (show (wordF2 a).data.toList.length ≤ 4611686018427387904 by omega), ?_⟩
    refine ⟨fun h => ?_, fun h => absurd h (by show ¬ (nameF (wordF2 a).data.toList) = false; rw [w1]; decide)⟩
    refine ⟨(wordF2 a).data.toList, ⟨.refl _, trivial⟩, rfl, trivial, ?_⟩
    refine ⟨fun h => ?_, fun h => absurd h (by show ¬ (!keptW (wordF2 a)) = false; rw [w3]; decide)⟩
    refine ⟨(b : Int), ⟨.int eb, trivial⟩, rfl, trivial, ?_⟩
    refine ⟨fun h => ?_, fun h => absurd h (by
      show ¬ (((wordF2 a).toList == (wordF2 b).toList) == (IntKind.i64.wrap ((IntKind.u64.wrap op).tmod 44) == IntKind.i64.wrap ((IntKind.u64.wrap other).tmod 44))) = false
      rw [ba_eq, ea, eb, show decide (wordF2 (a : Int) = wordF2 (b : Int)) = ((a : Int) == (b : Int)) from by rw [Bool.eq_iff_iff, decide_eq_true_eq, word_inj ha hb]; simp; omega]
      simp)⟩
    refine ⟨(-1 : Int), ⟨.refl _, trivial⟩, rfl, trivial, ?_⟩
    refine ⟨fun h => ?_, fun h => absurd h (by show ¬ ((wordF2 (-1)).toList == noS.toList) = false; rw [ba_eq]; decide)⟩
    refine ⟨(44 : Int), ⟨.refl _, trivial⟩, rfl, trivial, ?_⟩
    refine ⟨fun h => ?_, fun h => absurd h (by show ¬ ((wordF2 44).toList == noS.toList) = false; rw [ba_eq]; decide)⟩
    refine ⟨(), trivial, rfl, trivial, ?_⟩
    exact ⟨.refl _, rfl⟩
end Go.Proofs.YtimhbimpaiiceaaDoor.Ax
