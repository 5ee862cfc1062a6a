/- Layer parse: ParseMany. -/
import Derived.Test.YtimhbimpaiiceaaDoorGk
set_option linter.unusedVariables false
set_option linter.unusedSimpArgs false
namespace Go.Proofs.YtimhbimpaiiceaaDoor.Ax
open Go Go.RowKit
def mS (w : Nat) : ByteArray := [⟨#[]⟩, ⟨#[99, 108, 97, 115, 115, 32, 65, 32, 123, 32]⟩, ⟨#[99, 108, 97, 115, 115, 32, 65, 32, 123, 32]⟩, ⟨#[99, 108, 97, 115, 115, 32, 65, 32, 123, 32, 109, 101, 116, 104, 111, 100, 32, 109, 32, 40, 32, 105, 110, 116]⟩, ⟨#[99, 108, 97, 115, 115, 32, 65, 32, 123, 32, 109, 101, 116, 104, 111, 100, 32, 109, 32, 40, 32, 41, 32, 118, 111, 105, 100, 32, 108, 111, 99, 97, 108, 115, 32, 48, 32, 123, 32]⟩].getD w noS
def mO (w : Nat) : ByteArray := [⟨#[99, 108, 97, 115, 115, 32, 65, 32, 123, 32, 125, 32]⟩, ⟨#[102, 105, 101, 108, 100, 32, 120, 32, 58, 32, 105, 110, 116, 32, 59, 32]⟩, ⟨#[109, 101, 116, 104, 111, 100, 32, 109, 32, 40, 32, 41, 32, 118, 111, 105, 100, 32, 59, 32]⟩, ⟨#[32, 44, 32, 65, 32, 91, 32, 93]⟩, ⟨#[99, 97, 116, 99, 104, 32, 69, 32, 48, 32, 49, 32, 50, 32, 59, 32]⟩].getD w noS
def mE (w : Nat) : ByteArray := [⟨#[]⟩, ⟨#[125]⟩, ⟨#[125]⟩, ⟨#[32, 41, 32, 118, 111, 105, 100, 32, 59, 32, 125]⟩, ⟨#[125, 32, 125]⟩].getD w noS
def mN (w n : Nat) : Nat := if w = 3 then max n 1 else n
def mK (w n : Nat) : Nat := if w = 3 then max n 1 - 1 else n
def mMost (w : Nat) : Int := [10, 6, 6, 4, 4].getD w 0
def mRep (s o : ByteArray) : Nat → ByteArray
  | 0 => s
  | n + 1 => mRep s o n ++ o
def mT (w n : Nat) : List UInt8 := (mRep (mS w) (mO w) (mK w n) ++ mE w).data.toList
def mTest (w n : Nat) : Bool := if (mN w n : Int) > mMost w then decide ((parseF (mT w n)).2.2 = 2) && (decide ((parseF (mT w n)).2.1 > 0) && decide ((parseF (mT w n)).1.length = 0))
  else decide ((parseF (mT w n)).2.2 = 0) && (decide ((parseF (mT w n)).2.1 = 0) && (decide (w > 0 ∨ (parseF (mT w n)).1.length = mN w n) && decide (w = 0 ∨ (parseF (mT w n)).1.length = 1)))
theorem mTest_all : ((List.range 5).all fun w => (List.range 14).all fun n => mTest w n) = true := by decide +kernel
theorem mTest_at {w n : Nat} (hw : w < 5) (hn : n < 14) : mTest w n = true :=
  List.all_eq_true.1 (List.all_eq_true.1 mTest_all w (List.mem_range.2 hw)) n (List.mem_range.2 hn)
theorem mSz : ∀ w, w < 5 → (mS w).size ≤ 60 ∧ (mO w).size ≤ 60 ∧ (mE w).size ≤ 60 := by decide +kernel
theorem mRep_size (s o : ByteArray) : ∀ n, (mRep s o n).size = s.size + n * o.size
  | 0 => by simp [mRep]
  | n + 1 => by rw [mRep, ByteArray.size_append, mRep_size s o n, Nat.add_mul]; omega
def ParseMany : Ctr := { A := Int × Int, enc := fun x => [I x.1, I x.2], dom := fun _ => True, res := fun _ _ => .tt, gl := tabP }
set_option maxRecDepth 100000 in
set_option maxHeartbeats 4000000 in
theorem ParseMany_ok : CtrSound Tryd.prog 6 ParseMany :=
  ctr_of_ax (env_okB tys_ok (eqs := []) trivial (cs := [(16, parseC), (15, lC)]) ⟨parse_ok, wakesP_ok, trivial⟩ (bs := []) trivial (cut := [15, 18]) (gl := tabP)) mixed _ Tryd.func6 (by kernel_rfl) rfl (fun _ _ => Nat.le_of_ble_eq_true rfl) fun ((wh, nn) : Int × Int) id hd => by
    obtain ⟨w, hw, ew⟩ := umodC wh 5 (by decide) (by decide)
    obtain ⟨n, hn, en⟩ := umodC nn 14 (by decide) (by decide)
    have ew : IntKind.i64.wrap ((IntKind.u64.wrap wh).tmod 5) = (w : Int) := ew
    have en : IntKind.i64.wrap ((IntKind.u64.wrap nn).tmod 14) = (n : Int) := en
    have hT := mTest_at hw hn
    have hz := mSz w hw
    refine ⟨by decide, ?_⟩
    refine ⟨by decide, ?_⟩
    refine ⟨Int, fun n => [I n], 0, [10, 6, 6, 4, 4], ⟨rfl, fun _ => rfl⟩, ⟨.refl _, .refl _, .refl _, .refl _, .refl _, trivial⟩, rfl, ?_⟩
    refine ⟨(show 0 ≤ IntKind.i64.wrap ((IntKind.u64.wrap wh).tmod 5) ∧ IntKind.i64.wrap ((IntKind.u64.wrap wh).tmod 5) < ((5 : Nat) : Int) by rw [ew]; omega), ?_⟩
    have hm : ([10, 6, 6, 4, 4] : List Int).getD (IntKind.i64.wrap ((IntKind.u64.wrap wh).tmod 5)).toNat 0 = mMost w := by rw [ew]; rfl
    refine ⟨Unit, fun _ => [(0, I w), (1, I (mN w n)), (5, I (mMost w)), (6, S (mS w)), (7, S (mO w)), (8, S (mE w))], fun _ => [], fun _ => True, ?_, fun _ _ => ?_⟩
    · refine ⟨fun h => ?_, fun h0 => ?_⟩
      · have hk : w = 0 := by
          have h : (IntKind.i64.wrap ((IntKind.u64.wrap wh).tmod 5) == 0) = true := h
          rw [ew] at h; simp at h; omega
        have e : IntKind.i64.wrap ((IntKind.u64.wrap nn).tmod 14) = ((mN w n : Nat) : Int) := by rw [en, hk]; rfl
        exact ⟨(), trivial, ⟨rfl, rfl⟩, .int ew, .int e, .str (by rw [hk]; rfl), .int hm, .str (by rw [hk]; rfl), .str (by rw [hk]; rfl), trivial⟩
      have g0 : w ≠ 0 := fun c => by
        have h : (IntKind.i64.wrap ((IntKind.u64.wrap wh).tmod 5) == 0) = false := h0
        rw [ew, c] at h; exact absurd h (by decide)
      refine ⟨fun h => ?_, fun h1 => ?_⟩
      · have hk : w = 1 := by
          have h : (IntKind.i64.wrap ((IntKind.u64.wrap wh).tmod 5) == 1) = true := h
          rw [ew] at h; simp at h; omega
        have e : IntKind.i64.wrap ((IntKind.u64.wrap nn).tmod 14) = ((mN w n : Nat) : Int) := by rw [en, hk]; rfl
        exact ⟨(), trivial, ⟨rfl, rfl⟩, .int ew, .int e, .str (by rw [hk]; rfl), .int hm, .str (by rw [hk]; rfl), .str (by rw [hk]; rfl), trivial⟩
      have g1 : w ≠ 1 := fun c => by
        have h : (IntKind.i64.wrap ((IntKind.u64.wrap wh).tmod 5) == 1) = false := h1
        rw [ew, c] at h; exact absurd h (by decide)
      refine ⟨fun h => ?_, fun h2 => ?_⟩
      · have hk : w = 2 := by
          have h : (IntKind.i64.wrap ((IntKind.u64.wrap wh).tmod 5) == 2) = true := h
          rw [ew] at h; simp at h; omega
        have e : IntKind.i64.wrap ((IntKind.u64.wrap nn).tmod 14) = ((mN w n : Nat) : Int) := by rw [en, hk]; rfl
        exact ⟨(), trivial, ⟨rfl, rfl⟩, .int ew, .int e, .str (by rw [hk]; rfl), .int hm, .str (by rw [hk]; rfl), .str (by rw [hk]; rfl), trivial⟩
      have g2 : w ≠ 2 := fun c => by
        have h : (IntKind.i64.wrap ((IntKind.u64.wrap wh).tmod 5) == 2) = false := h2
        rw [ew, c] at h; exact absurd h (by decide)
      refine ⟨fun h => ?_, fun h3 => ?_⟩
      · have hk : w = 3 := by
          have h : (IntKind.i64.wrap ((IntKind.u64.wrap wh).tmod 5) == 3) = true := h
          rw [ew] at h; simp at h; omega
        have e : (if IntKind.i64.wrap ((IntKind.u64.wrap nn).tmod 14) < 1 then 1 else IntKind.i64.wrap ((IntKind.u64.wrap nn).tmod 14)) = ((mN w n : Nat) : Int) := by rw [en, hk]; show _ = ((max n 1 : Nat) : Int); split <;> omega
        exact ⟨(), trivial, ⟨rfl, rfl⟩, .int ew, .int e, .str (by rw [hk]; rfl), .int hm, .str (by rw [hk]; rfl), .str (by rw [hk]; rfl), trivial⟩
      have g3 : w ≠ 3 := fun c => by
        have h : (IntKind.i64.wrap ((IntKind.u64.wrap wh).tmod 5) == 3) = false := h3
        rw [ew, c] at h; exact absurd h (by decide)
      have hk : w = 4 := by omega
      have e : IntKind.i64.wrap ((IntKind.u64.wrap nn).tmod 14) = ((mN w n : Nat) : Int) := by rw [en, hk]; rfl
      exact ⟨(), trivial, ⟨rfl, rfl⟩, .int ew, .int e, .str (by rw [hk]; rfl), .int hm, .str (by rw [hk]; rfl), .str (by rw [hk]; rfl), trivial⟩
    refine ⟨Unit, fun _ => [(0, I w), (1, I (mN w n)), (5, I (mMost w)), (6, S (mS w)), (7, S (mO w)), (8, S (mE w)), (9, I (mK w n))], fun _ => [], fun _ => True, ?_, fun _ _ => ?_⟩
    · refine ⟨fun h => ?_, fun h => ?_⟩
      · have hk : w = 3 := by
          have h : ((w : Int) == 3) = true := h
          simp at h; omega
        have e : IntKind.i64.wrap (((mN w n : Nat) : Int) - 1) = ((mK w n : Nat) : Int) := by
          rw [hk]; show IntKind.i64.wrap (((max n 1 : Nat) : Int) - 1) = ((max n 1 - 1 : Nat) : Int)
          rw [wrap_eq _ (by omega) (by omega)]; omega
        exact ⟨(), trivial, ⟨rfl, rfl⟩, .refl _, .refl _, .refl _, .refl _, .int e, .refl _, .refl _, trivial⟩
      · have hk : w ≠ 3 := fun c => by
          have h : ((w : Int) == 3) = false := h
          rw [c] at h; exact absurd h (by decide)
        have e : ((mN w n : Nat) : Int) = ((mK w n : Nat) : Int) := by unfold mN mK; rw [if_neg hk, if_neg hk]
        exact ⟨(), trivial, ⟨rfl, rfl⟩, .refl _, .refl _, .refl _, .refl _, .int e, .refl _, .refl _, trivial⟩
    have hkk : mK w n ≤ 14 := by unfold mK; split <;> omega
    refine ⟨Nat, fun i => [(0, I w), (1, I (mN w n)), (5, I (mMost w)), (6, S (mRep (mS w) (mO w) i)), (7, S (mO w)), (8, S (mE w)), (9, I (mK w n)), (10, I i)], fun _ => [], fun i => i ≤ mK w n, fun i => mK w n - i,
      ⟨0, Nat.zero_le _, ⟨⟨rfl, rfl⟩, .refl _, .refl _, .refl _, .refl _, .refl _, .refl _, .refl _, .refl _, trivial⟩⟩, fun (i : Nat) hi => ?_⟩
    have hi : i ≤ mK w n := hi
    refine ⟨fun h => ?_, fun h => ?_⟩
    · have hlt : i < mK w n := dlt h
      have hwj : IntKind.i64.wrap ((i : Int) + 1) = ((i + 1 : Nat) : Int) := by rw [wrap_eq _ (by omega) (by omega)]; omega
      have hr := mRep_size (mS w) (mO w) i
      have hle : i * (mO w).size ≤ 14 * 60 := Nat.mul_le_mul (by omega) hz.2.1
      refine ⟨(show (mRep (mS w) (mO w) i).size + (mO w).size < 4611686018427387904 by omega), ?_⟩
      exact ⟨i + 1, hlt, (show mK w n - (i + 1) < mK w n - i by omega), ⟨rfl, rfl⟩, .refl _, .refl _, .refl _, .refl _, .refl _, .refl _, .refl _, .int hwj, trivial⟩
    have he : i = mK w n := by have := dge h; omega
    have hr := mRep_size (mS w) (mO w) i
    have hle : i * (mO w).size ≤ 14 * 60 := Nat.mul_le_mul (by omega) hz.2.1
    refine ⟨(show (mRep (mS w) (mO w) i).size + (mE w).size < 4611686018427387904 by omega), ?_⟩
    have hl : (mT w n).length ≤ 4611686018427387904 := by
      have h1 : (mT w n).length = (mRep (mS w) (mO w) (mK w n) ++ mE w).size := by unfold mT; exact ba_len _
      rw [h1, ByteArray.size_append, ← he]; omega
    refine ⟨mT w n, ⟨.rowEq (by rw [he]; rfl), trivial⟩, rfl, hl, ?_⟩
    refine ⟨fun h => ?_, fun h => ?_⟩
    · have h1 : ((mN w n : Nat) : Int) > mMost w := of_decide_eq_true h
      have e1 : (parseF (mT w n)).2.2 = 2 ∧ (parseF (mT w n)).2.1 > 0 ∧ (parseF (mT w n)).1.length = 0 := by
        unfold mTest at hT
        rw [if_pos h1, Bool.and_eq_true, Bool.and_eq_true] at hT
        exact ⟨of_decide_eq_true hT.1, of_decide_eq_true hT.2.1, of_decide_eq_true hT.2.2⟩
      refine ⟨fun h => ?_, fun h => absurd h (by show ¬ ((parseF (mT w n)).2.2 == 2) = false; rw [e1.1]; decide)⟩
      refine ⟨fun h => ?_, fun h => absurd e1.2.1 (of_decide_eq_false h)⟩
      refine ⟨fun h => ?_, fun h => absurd h (by show ¬ (((parseF (mT w n)).1.length : Int) == 0) = false; rw [e1.2.2]; decide)⟩
      refine ⟨(), trivial, rfl, trivial, ?_⟩
      exact ⟨.refl _, rfl⟩
    have h1 : ¬ ((mN w n : Nat) : Int) > mMost w := of_decide_eq_false h
    have e1 : (parseF (mT w n)).2.2 = 0 ∧ (parseF (mT w n)).2.1 = 0 ∧ (w > 0 ∨ (parseF (mT w n)).1.length = mN w n) ∧ (w = 0 ∨ (parseF (mT w n)).1.length = 1) := by
      unfold mTest at hT
      rw [if_neg h1, Bool.and_eq_true, Bool.and_eq_true, Bool.and_eq_true] at hT
      exact ⟨of_decide_eq_true hT.1, of_decide_eq_true hT.2.1, of_decide_eq_true hT.2.2.1, of_decide_eq_true hT.2.2.2⟩
    refine ⟨fun h => ?_, fun h => absurd h (by show ¬ ((parseF (mT w n)).2.2 == 0) = false; rw [e1.1]; decide)⟩
    refine ⟨fun h => ?_, fun h => absurd h (by show ¬ ((parseF (mT w n)).2.1 == 0) = false; rw [e1.2.1]; decide)⟩
    have fin : w ≠ 0 → (parseF (mT w n)).1.length = 1 := fun c => e1.2.2.2.resolve_left c
    refine ⟨fun h2 => ?_, fun h2 => ?_⟩
    · have h2 : (w : Int) > 0 := of_decide_eq_true h2
      have hw0 : w ≠ 0 := by omega
      refine ⟨fun h3 => absurd h3 (by show ¬ ((w : Int) == 0) = true; simp; omega), fun h3 => ?_⟩
      refine ⟨fun h => ?_, fun h => absurd h (by show ¬ (((parseF (mT w n)).1.length : Int) == 1) = false; rw [fin hw0]; decide)⟩
      refine ⟨(), trivial, rfl, trivial, ?_⟩
      exact ⟨.refl _, rfl⟩
    have h2 : ¬ (w : Int) > 0 := of_decide_eq_false h2
    have hw0 : w = 0 := by omega
    have e3 : (parseF (mT w n)).1.length = mN w n := e1.2.2.1.resolve_left (by omega)
    refine ⟨fun h => ?_, fun h => absurd h (by show ¬ (((parseF (mT w n)).1.length : Int) == ((mN w n : Nat) : Int)) = false; rw [e3]; simp)⟩
    refine ⟨fun h3 => ?_, fun h3 => absurd h3 (by show ¬ ((w : Int) == 0) = false; rw [hw0]; decide)⟩
    refine ⟨(), trivial, rfl, trivial, ?_⟩
    exact ⟨.refl _, rfl⟩
end Go.Proofs.YtimhbimpaiiceaaDoor.Ax
