/- Layer parse: ParseKept. -/
import Derived.Test.YtimhbimpaiiceaaDoorGk
set_option linter.unusedVariables false
set_option linter.unusedSimpArgs false
namespace Go.Proofs.YtimhbimpaiiceaaDoor.Ax
open Go Go.RowKit
def kText (s : ByteArray) : List ByteArray := [(⟨#[99, 108, 97, 115, 115, 32]⟩ ++ s) ++ ⟨#[32, 123, 32, 125]⟩, (⟨#[99, 108, 97, 115, 115, 32, 65, 32, 101, 120, 116, 101, 110, 100, 115, 32]⟩ ++ s) ++ ⟨#[32, 123, 32, 125]⟩, (⟨#[99, 108, 97, 115, 115, 32, 65, 32, 123, 32, 102, 105, 101, 108, 100, 32]⟩ ++ s) ++ ⟨#[32, 58, 32, 105, 110, 116, 32, 59, 32, 125]⟩, (⟨#[99, 108, 97, 115, 115, 32, 65, 32, 123, 32, 109, 101, 116, 104, 111, 100, 32]⟩ ++ s) ++ ⟨#[32, 40, 32, 41, 32, 105, 110, 116, 32, 59, 32, 125]⟩, (⟨#[105, 110, 116, 101, 114, 102, 97, 99, 101, 32]⟩ ++ s) ++ ⟨#[32, 123, 32, 125]⟩, (⟨#[99, 108, 97, 115, 115, 32, 65, 32, 123, 32, 102, 105, 101, 108, 100, 32, 120, 32, 58, 32]⟩ ++ s) ++ ⟨#[32, 91, 32, 93, 32, 59, 32, 125]⟩]
def kT (a b : Nat) : List UInt8 := ((kText (keptL.getD a noS)).getD b noS).data.toList
def kTest (a b : Nat) : Bool := if b = 5 ∧ keptL.getD a noS = wInt then decide ((parseF (kT a b)).2.2 = 0) else decide ((parseF (kT a b)).2.2 = 4) && decide ((parseF (kT a b)).1.length = 0)
theorem kTest_all : ((List.range 12).all fun a => (List.range 6).all fun b => kTest a b) = true := by decide +kernel
theorem kTest_at {a b : Nat} (ha : a < 12) (hb : b < 6) : kTest a b = true :=
  List.all_eq_true.1 (List.all_eq_true.1 kTest_all a (List.mem_range.2 ha)) b (List.mem_range.2 hb)
theorem kSize : ∀ a, a < 12 → (keptL.getD a noS).size ≤ 20 ∧ keptW (keptL.getD a noS) = true := by decide +kernel
theorem kLen (a b : Nat) (ha : a < 12) (hb : b < 6) : (kT a b).length ≤ 4611686018427387904 := by
  have : ((List.range 12).all fun a => (List.range 6).all fun b => decide ((kT a b).length ≤ 100)) = true := by decide +kernel
  have := of_decide_eq_true (List.all_eq_true.1 (List.all_eq_true.1 this a (List.mem_range.2 ha)) b (List.mem_range.2 hb))
  omega
def ParseKept : Ctr := { A := Int × Int, enc := fun x => [I x.1, I x.2], dom := fun _ => True, res := fun _ _ => .tt, gl := tabP }
set_option maxRecDepth 100000 in
set_option maxHeartbeats 4000000 in
theorem ParseKept_ok : CtrSound Tryd.prog 7 ParseKept :=
  ctr_of_ax (env_okB tys_ok (eqs := []) trivial (cs := [(16, parseC), (14, keptC), (15, lC)]) ⟨parse_ok, kept_ok, wakesP_ok, trivial⟩ (bs := []) trivial (gl := tabP)) mixed _ Tryd.func7 (by kernel_rfl) rfl (fun _ _ => Nat.le_of_ble_eq_true rfl) fun ((i, wh) : Int × Int) id hd => by
    obtain ⟨a, ha, ea⟩ := umodC i 12 (by decide) (by decide)
    obtain ⟨b, hb, eb⟩ := umodC wh 6 (by decide) (by decide)
    have ea : IntKind.i64.wrap ((IntKind.u64.wrap i).tmod 12) = (a : Int) := ea
    have eb : IntKind.i64.wrap ((IntKind.u64.wrap wh).tmod 6) = (b : Int) := eb
    have hs0 : (keptL.getD (IntKind.i64.wrap ((IntKind.u64.wrap i).tmod 12)).toNat noS) = (keptL.getD a noS) := by rw [ea]; rfl
    have hsz : (keptL.getD (IntKind.i64.wrap ((IntKind.u64.wrap i).tmod 12)).toNat noS).size ≤ 20 := by rw [hs0]; exact (kSize a ha).1
    have hkw : keptW (keptL.getD (IntKind.i64.wrap ((IntKind.u64.wrap i).tmod 12)).toNat noS) = true := by rw [hs0]; exact (kSize a ha).2
    have hT := kTest_at ha hb
    have hLn := kLen a b ha hb
    have z0 : (⟨#[32, 40, 32, 41, 32, 105, 110, 116, 32, 59, 32, 125]⟩ : ByteArray).size = 12 := rfl
    have z1 : (⟨#[32, 58, 32, 105, 110, 116, 32, 59, 32, 125]⟩ : ByteArray).size = 10 := rfl
    have z2 : (⟨#[32, 91, 32, 93, 32, 59, 32, 125]⟩ : ByteArray).size = 8 := rfl
    have z3 : (⟨#[32, 123, 32, 125]⟩ : ByteArray).size = 4 := rfl
    have z4 : (⟨#[99, 108, 97, 115, 115, 32]⟩ : ByteArray).size = 6 := rfl
    have z5 : (⟨#[99, 108, 97, 115, 115, 32, 65, 32, 101, 120, 116, 101, 110, 100, 115, 32]⟩ : ByteArray).size = 16 := rfl
    have z6 : (⟨#[99, 108, 97, 115, 115, 32, 65, 32, 123, 32, 102, 105, 101, 108, 100, 32]⟩ : ByteArray).size = 16 := rfl
    have z7 : (⟨#[99, 108, 97, 115, 115, 32, 65, 32, 123, 32, 102, 105, 101, 108, 100, 32, 120, 32, 58, 32]⟩ : ByteArray).size = 20 := rfl
    have z8 : (⟨#[99, 108, 97, 115, 115, 32, 65, 32, 123, 32, 109, 101, 116, 104, 111, 100, 32]⟩ : ByteArray).size = 17 := rfl
    have z9 : (⟨#[105, 110, 116, 101, 114, 102, 97, 99, 101, 32]⟩ : ByteArray).size = 10 := rfl
    refine ⟨ByteArray, strC, noS, keptL, ⟨rfl, fun _ => rfl⟩, ⟨.refl _, .refl _, .refl _, .refl _, .refl _, .refl _, .refl _, .refl _, .refl _, .refl _, .refl _, .refl _, trivial⟩, rfl, ?_⟩
    refine ⟨by decide, ?_⟩
    refine ⟨(show 0 ≤ IntKind.i64.wrap ((IntKind.u64.wrap i).tmod 12) ∧ IntKind.i64.wrap ((IntKind.u64.wrap i).tmod 12) < ((keptL.length : Nat) : Int) by rw [ea]; show 0 ≤ (a : Int) ∧ (a : Int) < 12; omega), ?_⟩
    refine ⟨(show (⟨#[99, 108, 97, 115, 115, 32]⟩ : ByteArray).size + (keptL.getD (IntKind.i64.wrap ((IntKind.u64.wrap i).tmod 12)).toNat noS).size < 4611686018427387904 by rw [z4]; omega), ?_⟩
    refine ⟨(show ((⟨#[99, 108, 97, 115, 115, 32]⟩ : ByteArray) ++ (keptL.getD (IntKind.i64.wrap ((IntKind.u64.wrap i).tmod 12)).toNat noS)).size + (⟨#[32, 123, 32, 125]⟩ : ByteArray).size < 4611686018427387904 by rw [ByteArray.size_append, z4, z3]; omega), ?_⟩
    refine ⟨(show (⟨#[99, 108, 97, 115, 115, 32, 65, 32, 101, 120, 116, 101, 110, 100, 115, 32]⟩ : ByteArray).size + (keptL.getD (IntKind.i64.wrap ((IntKind.u64.wrap i).tmod 12)).toNat noS).size < 4611686018427387904 by rw [z5]; omega), ?_⟩
    refine ⟨(show ((⟨#[99, 108, 97, 115, 115, 32, 65, 32, 101, 120, 116, 101, 110, 100, 115, 32]⟩ : ByteArray) ++ (keptL.getD (IntKind.i64.wrap ((IntKind.u64.wrap i).tmod 12)).toNat noS)).size + (⟨#[32, 123, 32, 125]⟩ : ByteArray).size < 4611686018427387904 by rw [ByteArray.size_append, z5, z3]; omega), ?_⟩
    refine ⟨(show (⟨#[99, 108, 97, 115, 115, 32, 65, 32, 123, 32, 102, 105, 101, 108, 100, 32]⟩ : ByteArray).size + (keptL.getD (IntKind.i64.wrap ((IntKind.u64.wrap i).tmod 12)).toNat noS).size < 4611686018427387904 by rw [z6]; omega), ?_⟩
    refine ⟨(show ((⟨#[99, 108, 97, 115, 115, 32, 65, 32, 123, 32, 102, 105, 101, 108, 100, 32]⟩ : ByteArray) ++ (keptL.getD (IntKind.i64.wrap ((IntKind.u64.wrap i).tmod 12)).toNat noS)).size + (⟨#[32, 58, 32, 105, 110, 116, 32, 59, 32, 125]⟩ : ByteArray).size < 4611686018427387904 by rw [ByteArray.size_append, z6, z1]; omega), ?_⟩
    refine ⟨(show (⟨#[99, 108, 97, 115, 115, 32, 65, 32, 123, 32, 109, 101, 116, 104, 111, 100, 32]⟩ : ByteArray).size + (keptL.getD (IntKind.i64.wrap ((IntKind.u64.wrap i).tmod 12)).toNat noS).size < 4611686018427387904 by rw [z8]; omega), ?_⟩
    refine ⟨(show ((⟨#[99, 108, 97, 115, 115, 32, 65, 32, 123, 32, 109, 101, 116, 104, 111, 100, 32]⟩ : ByteArray) ++ (keptL.getD (IntKind.i64.wrap ((IntKind.u64.wrap i).tmod 12)).toNat noS)).size + (⟨#[32, 40, 32, 41, 32, 105, 110, 116, 32, 59, 32, 125]⟩ : ByteArray).size < 4611686018427387904 by rw [ByteArray.size_append, z8, z0]; omega), ?_⟩
    refine ⟨(show (⟨#[105, 110, 116, 101, 114, 102, 97, 99, 101, 32]⟩ : ByteArray).size + (keptL.getD (IntKind.i64.wrap ((IntKind.u64.wrap i).tmod 12)).toNat noS).size < 4611686018427387904 by rw [z9]; omega), ?_⟩
    refine ⟨(show ((⟨#[105, 110, 116, 101, 114, 102, 97, 99, 101, 32]⟩ : ByteArray) ++ (keptL.getD (IntKind.i64.wrap ((IntKind.u64.wrap i).tmod 12)).toNat noS)).size + (⟨#[32, 123, 32, 125]⟩ : ByteArray).size < 4611686018427387904 by rw [ByteArray.size_append, z9, z3]; omega), ?_⟩
    refine ⟨(show (⟨#[99, 108, 97, 115, 115, 32, 65, 32, 123, 32, 102, 105, 101, 108, 100, 32, 120, 32, 58, 32]⟩ : ByteArray).size + (keptL.getD (IntKind.i64.wrap ((IntKind.u64.wrap i).tmod 12)).toNat noS).size < 4611686018427387904 by rw [z7]; omega), ?_⟩
    refine ⟨(show ((⟨#[99, 108, 97, 115, 115, 32, 65, 32, 123, 32, 102, 105, 101, 108, 100, 32, 120, 32, 58, 32]⟩ : ByteArray) ++ (keptL.getD (IntKind.i64.wrap ((IntKind.u64.wrap i).tmod 12)).toNat noS)).size + (⟨#[32, 91, 32, 93, 32, 59, 32, 125]⟩ : ByteArray).size < 4611686018427387904 by rw [ByteArray.size_append, z7, z2]; omega), ?_⟩
    refine ⟨ByteArray, strC, noS, kText (keptL.getD (IntKind.i64.wrap ((IntKind.u64.wrap i).tmod 12)).toNat noS), ⟨rfl, fun _ => rfl⟩, ⟨.refl _, .refl _, .refl _, .refl _, .refl _, .refl _, trivial⟩, rfl, ?_⟩
    refine ⟨by decide, ?_⟩
    refine ⟨(show 0 ≤ IntKind.i64.wrap ((IntKind.u64.wrap wh).tmod 6) ∧ IntKind.i64.wrap ((IntKind.u64.wrap wh).tmod 6) < (((kText (keptL.getD (IntKind.i64.wrap ((IntKind.u64.wrap i).tmod 12)).toNat noS)).length : Nat) : Int) by rw [eb]; show 0 ≤ (b : Int) ∧ (b : Int) < 6; omega), ?_⟩
    refine ⟨kT a b, ⟨.rowEq (by rw [eb, ea]; rfl), trivial⟩, rfl, hLn, ?_⟩
    refine ⟨fun h1 => ?_, fun h1 => ?_⟩
    · have h1 : (IntKind.i64.wrap ((IntKind.u64.wrap wh).tmod 6) == 5) = true := h1
      have hb5 : b = 5 := by rw [eb] at h1; simp at h1; omega
      refine ⟨fun h2 => ?_, fun h2 => ?_⟩
      · have h2 : (keptL.getD (IntKind.i64.wrap ((IntKind.u64.wrap i).tmod 12)).toNat noS) = wInt := baT h2
        have e1 : (parseF (kT a b)).2.2 = 0 := by
          unfold kTest at hT
          rw [if_pos ⟨hb5, by rw [← hs0]; exact h2⟩] at hT
          exact of_decide_eq_true hT
        refine ⟨fun h => ?_, fun h => absurd h (by show ¬ ((parseF (kT a b)).2.2 == 0) = false; rw [e1]; decide)⟩
        refine ⟨(), trivial, rfl, trivial, ?_⟩
        exact ⟨.refl _, rfl⟩
      · have h2 : (keptL.getD (IntKind.i64.wrap ((IntKind.u64.wrap i).tmod 12)).toNat noS) ≠ wInt := baF h2
        have hno : ¬ (b = 5 ∧ (keptL.getD a noS) = wInt) := fun c => h2 (by rw [hs0]; exact c.2)
        have e1 : (parseF (kT a b)).2.2 = 4 ∧ (parseF (kT a b)).1.length = 0 := by
          unfold kTest at hT
          rw [if_neg hno, Bool.and_eq_true] at hT
          exact ⟨of_decide_eq_true hT.1, of_decide_eq_true hT.2⟩
        refine ⟨(keptL.getD (IntKind.i64.wrap ((IntKind.u64.wrap i).tmod 12)).toNat noS).data.toList, ⟨.refl _, trivial⟩, rfl, trivial, ?_⟩
        refine ⟨fun h => ?_, fun h => absurd h (by show ¬ (keptW (keptL.getD (IntKind.i64.wrap ((IntKind.u64.wrap i).tmod 12)).toNat noS)) = false; rw [hkw]; decide)⟩
        refine ⟨fun h => ?_, fun h => absurd h (by show ¬ ((parseF (kT a b)).2.2 == 4) = false; rw [e1.1]; decide)⟩
        refine ⟨fun h => ?_, fun h => absurd h (by show ¬ (((parseF (kT a b)).1.length : Int) == 0) = false; rw [e1.2]; decide)⟩
        refine ⟨(), trivial, rfl, trivial, ?_⟩
        exact ⟨.refl _, rfl⟩
    · have h1 : (IntKind.i64.wrap ((IntKind.u64.wrap wh).tmod 6) == 5) = false := h1
      have hno : ¬ (b = 5 ∧ (keptL.getD a noS) = wInt) := fun c => by
        rw [eb, c.1] at h1; exact absurd h1 (by decide)
      have e1 : (parseF (kT a b)).2.2 = 4 ∧ (parseF (kT a b)).1.length = 0 := by
        unfold kTest at hT
        rw [if_neg hno, Bool.and_eq_true] at hT
        exact ⟨of_decide_eq_true hT.1, of_decide_eq_true hT.2⟩
      refine ⟨(keptL.getD (IntKind.i64.wrap ((IntKind.u64.wrap i).tmod 12)).toNat noS).data.toList, ⟨.refl _, trivial⟩, rfl, trivial, ?_⟩
      refine ⟨fun h => ?_, fun h => absurd h (by show ¬ (keptW (keptL.getD (IntKind.i64.wrap ((IntKind.u64.wrap i).tmod 12)).toNat noS)) = false; rw [hkw]; decide)⟩
      refine ⟨fun h => ?_, fun h => absurd h (by show ¬ ((parseF (kT a b)).2.2 == 4) = false; rw [e1.1]; decide)⟩
      refine ⟨fun h => ?_, fun h => absurd h (by show ¬ (((parseF (kT a b)).1.length : Int) == 0) = false; rw [e1.2]; decide)⟩
      refine ⟨(), trivial, rfl, trivial, ?_⟩
      exact ⟨.refl _, rfl⟩
end Go.Proofs.YtimhbimpaiiceaaDoor.Ax
