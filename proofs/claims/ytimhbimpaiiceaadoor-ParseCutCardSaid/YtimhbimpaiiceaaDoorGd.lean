/- Layer parse: the reader takes words. -/
import Derived.Test.YtimhbimpaiiceaaDoorGc
set_option linter.unusedVariables false
set_option linter.unusedSimpArgs false
namespace Go.Proofs.YtimhbimpaiiceaaDoor.Ax
open Go Go.RowKit
def takeC : CtrB := rdC ByteArray (fun w => [S w]) (fun r w _ => B (r.is w)) (fun r w => r.take w) fun _ => True
set_option maxRecDepth 100000 in
theorem take_ok : CtrBSound Tryd.prog 50 takeC :=
  ctrB_of_ax2 mixed _ Tryd.func50 (by kernel_rfl) rfl (fun _ _ => ⟨Nat.le_of_ble_eq_true rfl, Nat.le_of_ble_eq_true rfl⟩) fun ((r, w) : Rs × ByteArray) id hd => by
    refine ⟨_, ⟨env_okB tys_ok (eqs := []) trivial (cs := [(46, isC)]) ⟨is_ok, trivial⟩ (bs := []) trivial (gl := tabP), fun _ h => h⟩, ?_⟩
    refine ⟨(r, w), ⟨.refl _, .refl _, trivial⟩, rfl, ⟨hd.1, trivial⟩, ?_⟩
    refine ⟨fun h => ?_, fun h => ?_⟩
    · have h : (!r.is w) = true := h
      have h1 : r.is w = false := by simpa using h
      have hE : r = r.take w := (if_neg (by rw [h1]; decide)).symm
      exact ⟨.bff h1, ⟨rfl, .rowEq (rL hE :), .int (rI hE :), .int (rN hE :), .int (rA hE :), .int (rE hE :), trivial⟩, trivial⟩
    · have h : (!r.is w) = false := h
      have h1 : r.is w = true := by simpa using h
      have hE : r.step = r.take w := ((if_pos h1)).symm
      exact ⟨.btt h1, ⟨rfl, .rowEq (rL hE :), .int ((hwI hd.1).trans (rI hE :)), .int (rN hE :), .int (rA hE :), .int (rE hE :), trivial⟩, trivial⟩
def wantC : CtrB := rdC ByteArray (fun w => [S w]) (fun _ _ _ => .tup []) (fun r w => r.want w) fun _ => True
set_option maxRecDepth 100000 in
theorem want_ok : CtrBSound Tryd.prog 48 wantC :=
  ctrB_of_ax2 mixed _ Tryd.func48 (by kernel_rfl) rfl (fun _ _ => ⟨Nat.le_of_ble_eq_true rfl, Nat.le_of_ble_eq_true rfl⟩) fun ((r, w) : Rs × ByteArray) id hd => by
    refine ⟨_, ⟨env_okB tys_ok (eqs := []) trivial (cs := []) trivial (bs := [(50, takeC), (62, failC)]) ⟨take_ok, fail_ok, trivial⟩ (gl := tabP), fun _ h => h⟩, ?_⟩
    refine ⟨by kernel_rfl, ?_⟩
    refine ⟨(r, w), ⟨.refl _, .refl _, trivial⟩, ⟨⟨rfl, .refl _, .refl _, .refl _, .refl _, .refl _, trivial⟩, trivial⟩, ⟨hd.1, trivial⟩, ?_⟩
    refine ⟨fun h => ?_, fun h => ?_⟩
    · have h : (!r.is w) = true := h
      have h1 : r.is w = false := by simpa using h
      refine ⟨by kernel_rfl, ?_⟩
      refine ⟨(r.take w, 4), ⟨.refl _, .refl _, trivial⟩, ⟨⟨rfl, .refl _, .refl _, .refl _, .refl _, .refl _, trivial⟩, trivial⟩, ⟨rok_fwd hd.1 (Rs.take_fwd r w), trivial⟩, ?_⟩
      have hE : (r.take w).fail 4 = r.want w := (by unfold Rs.take Rs.want; rw [if_neg (by rw [h1]; decide), if_neg (by rw [h1]; decide)])
      exact ⟨.refl (.tup []), ⟨rfl, .rowEq (rL hE :), .int (rI hE :), .int (rN hE :), .int (rA hE :), .int (rE hE :), trivial⟩, trivial⟩
    · have h : (!r.is w) = false := h
      have h1 : r.is w = true := by simpa using h
      have hE : r.take w = r.want w := (by unfold Rs.take Rs.want; rw [if_pos h1, if_pos h1])
      exact ⟨.refl (.tup []), ⟨rfl, .rowEq (rL hE :), .int (rI hE :), .int (rN hE :), .int (rA hE :), .int (rE hE :), trivial⟩, trivial⟩
def freeC : Ctr := reC Unit (fun _ => []) (fun r _ _ => B r.free) fun _ => True
set_option maxRecDepth 100000 in
theorem free_ok : CtrSound Tryd.prog 63 freeC :=
  ctr_of_ax (env_okB tys_ok (eqs := []) trivial (cs := [(61, nextC), (14, keptC)]) ⟨next_ok, kept_ok, trivial⟩ (bs := []) trivial (gl := tabP)) mixed _ Tryd.func63 (by kernel_rfl) rfl (fun _ _ => Nat.le_of_ble_eq_true rfl) fun ((r, u) : Rs × Unit) id hd => by
    refine ⟨(r, ()), ⟨.refl _, trivial⟩, rfl, ⟨hd.1, trivial⟩, ?_⟩
    refine ⟨fun h => ?_, fun h => ?_⟩
    · have h : (r.next.1 == 1) = true := h
      refine ⟨r.next.2.1.data.toList, ⟨.refl _, trivial⟩, rfl, trivial, ?_⟩
      exact ⟨.bool (by show (!keptW r.next.2.1) = r.free; unfold Rs.free; rw [eqT h]; rfl), rfl⟩
    · have h : (r.next.1 == 1) = false := h
      exact ⟨.bff (by unfold Rs.free; rw [decide_eq_false (eqF h)]; rfl), rfl⟩
def freshRC : CtrB := rdC Unit (fun _ => []) (fun r _ _ => S r.freshV) (fun r _ => r.fresh) fun _ => True
set_option maxRecDepth 100000 in
theorem freshR_ok : CtrBSound Tryd.prog 49 freshRC :=
  ctrB_of_ax2 mixed _ Tryd.func49 (by kernel_rfl) rfl (fun _ _ => ⟨Nat.le_of_ble_eq_true rfl, Nat.le_of_ble_eq_true rfl⟩) fun ((r, u) : Rs × Unit) id hd => by
    refine ⟨_, ⟨env_okB tys_ok (eqs := []) trivial (cs := [(63, freeC)]) ⟨free_ok, trivial⟩ (bs := [(62, failC)]) ⟨fail_ok, trivial⟩ (gl := tabP), fun _ h => h⟩, ?_⟩
    refine ⟨(r, ()), ⟨.refl _, trivial⟩, rfl, ⟨hd.1, trivial⟩, ?_⟩
    refine ⟨fun h => ?_, fun h => ?_⟩
    · have h : (!r.free) = true := h
      have h1 : r.free = false := by simpa using h
      refine ⟨by kernel_rfl, ?_⟩
      refine ⟨(r, 4), ⟨.refl _, .refl _, trivial⟩, ⟨⟨rfl, .refl _, .refl _, .refl _, .refl _, .refl _, trivial⟩, trivial⟩, ⟨hd.1, trivial⟩, ?_⟩
      have hE : r.fail 4 = r.fresh := (if_neg (by rw [h1]; decide)).symm
      exact ⟨.str (if_neg (by rw [h1]; decide)).symm, ⟨rfl, .rowEq (rL hE :), .int (rI hE :), .int (rN hE :), .int (rA hE :), .int (rE hE :), trivial⟩, trivial⟩
    · have h : (!r.free) = false := h
      have h1 : r.free = true := by simpa using h
      have hat := Rs.free_at h1
      have hk : r.L.length ≤ 1000000 := hd.1.1
      have hk2 : r.i ≤ r.L.length := hd.1.2
      have hw : IntKind.i64.wrap ((r.i : Int) + 1) = ((r.i + 1 : Nat) : Int) := by rw [wrap_eq _ (by omega) (by omega)]; omega
      have hw2 : IntKind.i64.wrap (IntKind.i64.wrap ((r.i : Int) + 1) - 1) = (r.i : Int) := by rw [hw, wrap_eq _ (by omega) (by omega)]; omega
      refine ⟨by kernel_rfl, ?_⟩
      refine ⟨(show 0 ≤ IntKind.i64.wrap (IntKind.i64.wrap ((r.i : Int) + 1) - 1) ∧ IntKind.i64.wrap (IntKind.i64.wrap ((r.i : Int) + 1) - 1) < (r.L.length : Int) by rw [hw2]; omega), ?_⟩
      have hE : r.step = r.fresh := ((if_pos h1)).symm
      refine ⟨.str ?_, ⟨rfl, .rowEq (rL hE :), .int ((hwI hd.1).trans (rI hE :)), .int (rN hE :), .int (rA hE :), .int (rE hE :), trivial⟩, trivial⟩
      show (r.L.getD (IntKind.i64.wrap (IntKind.i64.wrap ((r.i : Int) + 1) - 1)).toNat tok0).2.1 = r.freshV
      rw [hw2]
      unfold Rs.freshV
      rw [if_pos h1, Rs.next_some hat]
      rfl
def numRC : CtrB := rdC (Int × Int) (fun x => [I x.1, I x.2]) (fun r x _ => I (r.numV x.1 x.2)) (fun r x => r.num x.1 x.2) fun _ => True
set_option maxRecDepth 100000 in
theorem numR_ok : CtrBSound Tryd.prog 74 numRC :=
  ctrB_of_ax2 mixed _ Tryd.func74 (by kernel_rfl) rfl (fun _ _ => ⟨Nat.le_of_ble_eq_true rfl, Nat.le_of_ble_eq_true rfl⟩) fun ((r, lo, hi) : Rs × Int × Int) id hd => by
    refine ⟨_, ⟨env_okB tys_ok (eqs := []) trivial (cs := [(61, nextC)]) ⟨next_ok, trivial⟩ (bs := [(62, failC)]) ⟨fail_ok, trivial⟩ (gl := tabP), fun _ h => h⟩, ?_⟩
    refine ⟨(r, ()), ⟨.refl _, trivial⟩, rfl, ⟨hd.1, trivial⟩, ?_⟩
    have no : r.numOk lo hi = false → 0 = r.numV lo hi ∧ r.fail 4 = r.num lo hi := fun h => ⟨(if_neg (by rw [h]; decide)).symm, (if_neg (by rw [h]; decide)).symm⟩
    refine ⟨fun h1 => ?_, fun h1 => ?_⟩
    · have hn : r.numOk lo hi = false := decide_eq_false fun c => by
        have h1 : (r.next.1 != 2) = true := h1
        rw [c.1] at h1; simp at h1
      refine ⟨by kernel_rfl, ?_⟩
      refine ⟨(r, 4), ⟨.refl _, .refl _, trivial⟩, ⟨⟨rfl, .refl _, .refl _, .refl _, .refl _, .refl _, trivial⟩, trivial⟩, ⟨hd.1, trivial⟩, ?_⟩
      have hE := (no hn).2
      exact ⟨.int (no hn).1, ⟨rfl, .rowEq (rL hE :), .int (rI hE :), .int (rN hE :), .int (rA hE :), .int (rE hE :), trivial⟩, trivial⟩
    have h1 : (r.next.1 != 2) = false := h1
    have e1 : r.next.1 = 2 := by simpa using h1
    refine ⟨fun h2 => ?_, fun h2 => ?_⟩
    · have h2 : r.next.2.2.1 < lo := of_decide_eq_true h2
      have hn : r.numOk lo hi = false := decide_eq_false fun c => by omega
      refine ⟨by kernel_rfl, ?_⟩
      refine ⟨(r, 4), ⟨.refl _, .refl _, trivial⟩, ⟨⟨rfl, .refl _, .refl _, .refl _, .refl _, .refl _, trivial⟩, trivial⟩, ⟨hd.1, trivial⟩, ?_⟩
      have hE := (no hn).2
      exact ⟨.int (no hn).1, ⟨rfl, .rowEq (rL hE :), .int (rI hE :), .int (rN hE :), .int (rA hE :), .int (rE hE :), trivial⟩, trivial⟩
    have h2 : ¬ r.next.2.2.1 < lo := of_decide_eq_false h2
    refine ⟨fun h3 => ?_, fun h3 => ?_⟩
    · have h3 : r.next.2.2.1 > hi := of_decide_eq_true h3
      have hn : r.numOk lo hi = false := decide_eq_false fun c => by omega
      refine ⟨by kernel_rfl, ?_⟩
      refine ⟨(r, 4), ⟨.refl _, .refl _, trivial⟩, ⟨⟨rfl, .refl _, .refl _, .refl _, .refl _, .refl _, trivial⟩, trivial⟩, ⟨hd.1, trivial⟩, ?_⟩
      have hE := (no hn).2
      exact ⟨.int (no hn).1, ⟨rfl, .rowEq (rL hE :), .int (rI hE :), .int (rN hE :), .int (rA hE :), .int (rE hE :), trivial⟩, trivial⟩
    have h3 : ¬ r.next.2.2.1 > hi := of_decide_eq_false h3
    have hy : r.numOk lo hi = true := decide_eq_true ⟨e1, by omega, by omega⟩
    have hE : r.step = r.num lo hi := ((if_pos hy)).symm
    exact ⟨.int (if_pos hy).symm, ⟨rfl, .rowEq (rL hE :), .int ((hwI hd.1).trans (rI hE :)), .int (rN hE :), .int (rA hE :), .int (rE hE :), trivial⟩, trivial⟩
def roomC : CtrB := rdC (Int × Int) (fun x => [I x.1, I x.2]) (fun _ _ _ => .tup []) (fun r x => r.room x.1 x.2) fun _ => True
set_option maxRecDepth 100000 in
theorem room_ok : CtrBSound Tryd.prog 47 roomC :=
  ctrB_of_ax2 mixed _ Tryd.func47 (by kernel_rfl) rfl (fun _ _ => ⟨Nat.le_of_ble_eq_true rfl, Nat.le_of_ble_eq_true rfl⟩) fun ((r, a, b) : Rs × Int × Int) id hd => by
    refine ⟨_, ⟨env_okB tys_ok (eqs := []) trivial (cs := []) trivial (bs := [(62, failC)]) ⟨fail_ok, trivial⟩ (gl := tabP), fun _ h => h⟩, ?_⟩
    refine ⟨fun h => ?_, fun h => ?_⟩
    · have h : a ≥ b := of_decide_eq_true h
      refine ⟨by kernel_rfl, ?_⟩
      refine ⟨(r, 2), ⟨.refl _, .refl _, trivial⟩, ⟨⟨rfl, .refl _, .refl _, .refl _, .refl _, .refl _, trivial⟩, trivial⟩, ⟨hd.1, trivial⟩, ?_⟩
      have hE : r.fail 2 = r.room a b := (if_pos h).symm
      exact ⟨.refl (.tup []), ⟨rfl, .rowEq (rL hE :), .int (rI hE :), .int (rN hE :), .int (rA hE :), .int (rE hE :), trivial⟩, trivial⟩
    · have h : ¬ a ≥ b := of_decide_eq_false h
      have hE : r = r.room a b := (if_neg h).symm
      exact ⟨.refl (.tup []), ⟨rfl, .rowEq (rL hE :), .int (rI hE :), .int (rN hE :), .int (rA hE :), .int (rE hE :), trivial⟩, trivial⟩
def rowRC : CtrB := rdC Unit (fun _ => []) (fun r _ _ => B (r.is wLb)) (fun r _ => r.rowR) fun _ => True
set_option maxRecDepth 100000 in
theorem rowR_ok : CtrBSound Tryd.prog 73 rowRC :=
  ctrB_of_ax2 mixed _ Tryd.func73 (by kernel_rfl) rfl (fun _ _ => ⟨Nat.le_of_ble_eq_true rfl, Nat.le_of_ble_eq_true rfl⟩) fun ((r, u) : Rs × Unit) id hd => by
    refine ⟨_, ⟨env_okB tys_ok (eqs := []) trivial (cs := []) trivial (bs := [(50, takeC), (48, wantC)]) ⟨take_ok, want_ok, trivial⟩ (gl := tabP), fun _ h => h⟩, ?_⟩
    refine ⟨by kernel_rfl, ?_⟩
    refine ⟨(r, wLb), ⟨.refl _, .str rfl, trivial⟩, ⟨⟨rfl, .refl _, .refl _, .refl _, .refl _, .refl _, trivial⟩, trivial⟩, ⟨hd.1, trivial⟩, ?_⟩
    refine ⟨fun h => ?_, fun h => ?_⟩
    · have h : (!r.is wLb) = true := h
      have h1 : r.is wLb = false := by simpa using h
      have hE : r.take wLb = r.rowR := (by unfold Rs.take Rs.rowR; rw [if_neg (by rw [h1]; decide), if_neg (by rw [h1]; decide)])
      exact ⟨.bff h1, ⟨rfl, .rowEq (rL hE :), .int (rI hE :), .int (rN hE :), .int (rA hE :), .int (rE hE :), trivial⟩, trivial⟩
    · have h : (!r.is wLb) = false := h
      have h1 : r.is wLb = true := by simpa using h
      refine ⟨by kernel_rfl, ?_⟩
      refine ⟨(r.take wLb, wRb), ⟨.refl _, .str rfl, trivial⟩, ⟨⟨rfl, .refl _, .refl _, .refl _, .refl _, .refl _, trivial⟩, trivial⟩, ⟨rok_fwd hd.1 (Rs.take_fwd r wLb), trivial⟩, ?_⟩
      have hE : (r.take wLb).want wRb = r.rowR := (by unfold Rs.take Rs.rowR; rw [if_pos h1, if_pos h1])
      exact ⟨.btt h1, ⟨rfl, .rowEq (rL hE :), .int (rI hE :), .int (rN hE :), .int (rA hE :), .int (rE hE :), trivial⟩, trivial⟩
end Go.Proofs.YtimhbimpaiiceaaDoor.Ax
