/- Layer parse: instructions. -/
import Derived.Test.YtimhbimpaiiceaaDoorGf
set_option linter.unusedVariables false
set_option linter.unusedSimpArgs false
namespace Go.Proofs.YtimhbimpaiiceaaDoor.Ax
open Go Go.RowKit
namespace Rs
def instrV (r : Rs) (many : Int) : Ins := if r.isOp then (r.instr many).1 else ins0
def instrR (r : Rs) (many : Int) : Rs := if r.isOp then (r.instr many).2 else r
theorem instrR_fwd (r : Rs) (many : Int) : Fwd r (r.instrR many) := by
  unfold instrR
  split
  · exact instr_fwd _ _
  · exact .refl _
end Rs
theorem Sub.insEq {a b : Ins} (h : a = b) : Sub (.agg (insC a)) (.agg (insC b)) := by subst h; exact .refl _
def instrRC : CtrB := rdC Int (fun n => [I n]) (fun r n _ => .tup [.agg (insC (r.instrV n)), B r.isOp]) (fun r n => r.instrR n) fun _ => True
set_option maxRecDepth 100000 in
set_option maxHeartbeats 2000000 in
theorem instrR_ok : CtrBSound Tryd.prog 75 instrRC :=
  ctrB_of_ax2 mixed _ Tryd.func75 (by kernel_rfl) rfl (fun _ _ => ⟨Nat.le_of_ble_eq_true rfl, Nat.le_of_ble_eq_true rfl⟩) fun ((r, many) : Rs × Int) id hd => by
    refine ⟨_, ⟨env_okB tys_ok (eqs := []) trivial (cs := [(61, nextC), (12, opC), (79, numsC), (80, namesC)]) ⟨next_ok, op_ok, nums_ok, names_ok, trivial⟩ (bs := [(48, wantC), (47, roomC), (74, numRC), (49, freshRC)]) ⟨want_ok, room_ok, numR_ok, freshR_ok, trivial⟩ (cut := [11, 13, 15]) (gl := tabP), fun _ h => h⟩, ?_⟩
    have f0 : Fwd r (r.in1 many) := Rs.in1_fwd r many
    have f1 : Fwd r ((r.in1 many).in2 (opV r.next.2.1)) := f0.trans (Rs.in2_fwd _ _)
    have f2 : Fwd r (((r.in1 many).in2 (opV r.next.2.1)).in3 (decide (namesF (opV r.next.2.1) > 0))) := f1.trans (Rs.in3_fwd _ _)
    have f3 : Fwd r ((((r.in1 many).in2 (opV r.next.2.1)).in3 (decide (namesF (opV r.next.2.1) > 0))).in3 (decide (namesF (opV r.next.2.1) > 1))) := f2.trans (Rs.in3_fwd _ _)
    refine ⟨(r, ()), ⟨.refl _, trivial⟩, rfl, ⟨hd.1, trivial⟩, ?_⟩
    refine ⟨r.next.2.1, ⟨.refl _, trivial⟩, rfl, trivial, ?_⟩
    have nope : r.isOp = false → ins0 = r.instrV many ∧ r = r.instrR many := fun h => ⟨(if_neg (by rw [h]; decide)).symm, (if_neg (by rw [h]; decide)).symm⟩
    refine ⟨fun h => ?_, fun h => ?_⟩
    · have h : (r.next.1 != 1) = true := h
      have h0 : r.isOp = false := by
        unfold Rs.isOp
        rw [decide_eq_false (fun c => by rw [c] at h; simp at h)]; rfl
      have hE := (nope h0).2
      exact ⟨.tup2 (.insEq (nope h0).1) (.bff h0), ⟨rfl, .rowEq (rL hE :), .int (rI hE :), .int (rN hE :), .int (rA hE :), .int (rE hE :), trivial⟩, trivial⟩
    have hk : (r.next.1 != 1) = false := h
    have hk : r.next.1 = 1 := by simpa using hk
    refine ⟨fun h => ?_, fun h => ?_⟩
    · have h : (!decide (0 ≤ opV r.next.2.1)) = true := h
      have h0 : r.isOp = false := by
        unfold Rs.isOp
        rw [notT h]; simp
      have hE := (nope h0).2
      exact ⟨.tup2 (.insEq (nope h0).1) (.bff h0), ⟨rfl, .rowEq (rL hE :), .int (rI hE :), .int (rN hE :), .int (rA hE :), .int (rE hE :), trivial⟩, trivial⟩
    have h : (!decide (0 ≤ opV r.next.2.1)) = false := h
    have h := notF h
    have h0 : r.isOp = true := by
      unfold Rs.isOp
      rw [h, hk]; rfl
    have ho : ¬ opV r.next.2.1 < 0 := by have := of_decide_eq_true h; omega
    have ev : (if opV r.next.2.1 < 0 then 0 else opV r.next.2.1) = opV r.next.2.1 := if_neg ho
    refine ⟨by kernel_rfl, ?_⟩
    refine ⟨(r, many, 48), ⟨.refl _, .refl _, .refl _, trivial⟩, ⟨⟨rfl, .refl _, .refl _, .refl _, .refl _, .refl _, trivial⟩, trivial⟩, ⟨hd.1, trivial⟩, ?_⟩
    refine ⟨by kernel_rfl, ?_⟩
    refine ⟨(r.room many 48, r.next.2.1), ⟨.refl _, .refl _, trivial⟩, ⟨⟨rfl, .refl _, .refl _, .refl _, .refl _, .refl _, trivial⟩, trivial⟩, ⟨rok_fwd hd.1 (Rs.room_fwd r many 48), trivial⟩, ?_⟩
    refine ⟨Unit, fun _ => [(0, .box 1000 0), (4, .box 4 0), (7, I (opV r.next.2.1)), (9, .box 9 0)], fun _ => [(1000, rsC ((r.in1 many).in2 (opV r.next.2.1))), (4, [I 0, I 0, S noS, S noS]), (9, [I (opV r.next.2.1), I ((r.in1 many).in2V (opV r.next.2.1)), S (noS), S (noS)])], fun _ => True, ?_, fun _ _ => ?_⟩
    · refine ⟨opV r.next.2.1, ⟨.int ev, trivial⟩, rfl, trivial, ?_⟩
      refine ⟨fun h => ?_, fun h => ?_⟩
      · have h1 : (numsF (opV r.next.2.1)).2.2 = true := h
        refine ⟨by kernel_rfl, ?_⟩
        refine ⟨(r.in1 many, (numsF (opV r.next.2.1)).1, (numsF (opV r.next.2.1)).2.1), ⟨.refl _, .refl _, .refl _, trivial⟩, ⟨⟨rfl, .refl _, .refl _, .refl _, .refl _, .refl _, trivial⟩, trivial⟩, ⟨rok_fwd hd.1 f0, trivial⟩, ?_⟩
        have hE : (r.in1 many).num (numsF (opV r.next.2.1)).1 (numsF (opV r.next.2.1)).2.1 = (r.in1 many).in2 (opV r.next.2.1) := (if_pos h1).symm
        have hN : (r.in1 many).numV (numsF (opV r.next.2.1)).1 (numsF (opV r.next.2.1)).2.1 = (r.in1 many).in2V (opV r.next.2.1) := (if_pos h1).symm
        exact ⟨(), trivial, ⟨rfl, rfl⟩, .refl _, .int ev, .refl _, .refl _, ⟨.int ev, .int hN, .refl _, .refl _, trivial⟩, ⟨.refl _, .refl _, .refl _, .refl _, trivial⟩, ⟨.rowEq (rL hE :), .int (rI hE :), .int (rN hE :), .int (rA hE :), .int (rE hE :), trivial⟩, trivial⟩
      · have h1 : (numsF (opV r.next.2.1)).2.2 = false := h
        have hE : r.in1 many = (r.in1 many).in2 (opV r.next.2.1) := (if_neg (by rw [h1]; decide)).symm
        have hN : 0 = (r.in1 many).in2V (opV r.next.2.1) := (if_neg (by rw [h1]; decide)).symm
        exact ⟨(), trivial, ⟨rfl, rfl⟩, .refl _, .int ev, .refl _, .refl _, ⟨.int ev, .int hN, .refl _, .refl _, trivial⟩, ⟨.refl _, .refl _, .refl _, .refl _, trivial⟩, ⟨.rowEq (rL hE :), .int (rI hE :), .int (rN hE :), .int (rA hE :), .int (rE hE :), trivial⟩, trivial⟩
    refine ⟨Unit, fun _ => [(0, .box 1000 0), (4, .box 4 0), (7, I (opV r.next.2.1)), (9, .box 9 0)], fun _ => [(1000, rsC (((r.in1 many).in2 (opV r.next.2.1)).in3 (decide (namesF (opV r.next.2.1) > 0)))), (4, [I 0, I 0, S noS, S noS]), (9, [I (opV r.next.2.1), I ((r.in1 many).in2V (opV r.next.2.1)), S (((r.in1 many).in2 (opV r.next.2.1)).in3V (decide (namesF (opV r.next.2.1) > 0))), S (noS)])], fun _ => True, ?_, fun _ _ => ?_⟩
    · refine ⟨opV r.next.2.1, ⟨.refl _, trivial⟩, rfl, trivial, ?_⟩
      refine ⟨fun h => ?_, fun h => ?_⟩
      · have h1 : decide (namesF (opV r.next.2.1) > 0) = true := h
        refine ⟨by kernel_rfl, ?_⟩
        refine ⟨((r.in1 many).in2 (opV r.next.2.1), ()), ⟨.refl _, trivial⟩, ⟨⟨rfl, .refl _, .refl _, .refl _, .refl _, .refl _, trivial⟩, trivial⟩, ⟨rok_fwd hd.1 f1, trivial⟩, ?_⟩
        have hE : ((r.in1 many).in2 (opV r.next.2.1)).fresh = ((r.in1 many).in2 (opV r.next.2.1)).in3 (decide (namesF (opV r.next.2.1) > 0)) := (if_pos h1).symm
        have hN : ((r.in1 many).in2 (opV r.next.2.1)).freshV = ((r.in1 many).in2 (opV r.next.2.1)).in3V (decide (namesF (opV r.next.2.1) > 0)) := (if_pos h1).symm
        exact ⟨(), trivial, ⟨rfl, rfl⟩, .refl _, .refl _, .refl _, .refl _, ⟨.refl _, .refl _, .str hN, .refl _, trivial⟩, ⟨.refl _, .refl _, .refl _, .refl _, trivial⟩, ⟨.rowEq (rL hE :), .int (rI hE :), .int (rN hE :), .int (rA hE :), .int (rE hE :), trivial⟩, trivial⟩
      · have h1 : decide (namesF (opV r.next.2.1) > 0) = false := h
        have hE : (r.in1 many).in2 (opV r.next.2.1) = ((r.in1 many).in2 (opV r.next.2.1)).in3 (decide (namesF (opV r.next.2.1) > 0)) := (if_neg (by rw [h1]; decide)).symm
        have hN : noS = ((r.in1 many).in2 (opV r.next.2.1)).in3V (decide (namesF (opV r.next.2.1) > 0)) := (if_neg (by rw [h1]; decide)).symm
        exact ⟨(), trivial, ⟨rfl, rfl⟩, .refl _, .refl _, .refl _, .refl _, ⟨.refl _, .refl _, .str hN, .refl _, trivial⟩, ⟨.refl _, .refl _, .refl _, .refl _, trivial⟩, ⟨.rowEq (rL hE :), .int (rI hE :), .int (rN hE :), .int (rA hE :), .int (rE hE :), trivial⟩, trivial⟩
    refine ⟨Unit, fun _ => [(0, .box 1000 0), (4, .box 4 0), (7, I (opV r.next.2.1)), (9, .box 9 0)], fun _ => [(1000, rsC ((((r.in1 many).in2 (opV r.next.2.1)).in3 (decide (namesF (opV r.next.2.1) > 0))).in3 (decide (namesF (opV r.next.2.1) > 1)))), (4, [I 0, I 0, S noS, S noS]), (9, [I (opV r.next.2.1), I ((r.in1 many).in2V (opV r.next.2.1)), S (((r.in1 many).in2 (opV r.next.2.1)).in3V (decide (namesF (opV r.next.2.1) > 0))), S ((((r.in1 many).in2 (opV r.next.2.1)).in3 (decide (namesF (opV r.next.2.1) > 0))).in3V (decide (namesF (opV r.next.2.1) > 1)))])], fun _ => True, ?_, fun _ _ => ?_⟩
    · refine ⟨opV r.next.2.1, ⟨.refl _, trivial⟩, rfl, trivial, ?_⟩
      refine ⟨fun h => ?_, fun h => ?_⟩
      · have h1 : decide (namesF (opV r.next.2.1) > 1) = true := h
        refine ⟨by kernel_rfl, ?_⟩
        refine ⟨(((r.in1 many).in2 (opV r.next.2.1)).in3 (decide (namesF (opV r.next.2.1) > 0)), ()), ⟨.refl _, trivial⟩, ⟨⟨rfl, .refl _, .refl _, .refl _, .refl _, .refl _, trivial⟩, trivial⟩, ⟨rok_fwd hd.1 f2, trivial⟩, ?_⟩
        have hE : (((r.in1 many).in2 (opV r.next.2.1)).in3 (decide (namesF (opV r.next.2.1) > 0))).fresh = (((r.in1 many).in2 (opV r.next.2.1)).in3 (decide (namesF (opV r.next.2.1) > 0))).in3 (decide (namesF (opV r.next.2.1) > 1)) := (if_pos h1).symm
        have hN : (((r.in1 many).in2 (opV r.next.2.1)).in3 (decide (namesF (opV r.next.2.1) > 0))).freshV = (((r.in1 many).in2 (opV r.next.2.1)).in3 (decide (namesF (opV r.next.2.1) > 0))).in3V (decide (namesF (opV r.next.2.1) > 1)) := (if_pos h1).symm
        exact ⟨(), trivial, ⟨rfl, rfl⟩, .refl _, .refl _, .refl _, .refl _, ⟨.refl _, .refl _, .refl _, .str hN, trivial⟩, ⟨.refl _, .refl _, .refl _, .refl _, trivial⟩, ⟨.rowEq (rL hE :), .int (rI hE :), .int (rN hE :), .int (rA hE :), .int (rE hE :), trivial⟩, trivial⟩
      · have h1 : decide (namesF (opV r.next.2.1) > 1) = false := h
        have hE : ((r.in1 many).in2 (opV r.next.2.1)).in3 (decide (namesF (opV r.next.2.1) > 0)) = (((r.in1 many).in2 (opV r.next.2.1)).in3 (decide (namesF (opV r.next.2.1) > 0))).in3 (decide (namesF (opV r.next.2.1) > 1)) := (if_neg (by rw [h1]; decide)).symm
        have hN : noS = (((r.in1 many).in2 (opV r.next.2.1)).in3 (decide (namesF (opV r.next.2.1) > 0))).in3V (decide (namesF (opV r.next.2.1) > 1)) := (if_neg (by rw [h1]; decide)).symm
        exact ⟨(), trivial, ⟨rfl, rfl⟩, .refl _, .refl _, .refl _, .refl _, ⟨.refl _, .refl _, .refl _, .str hN, trivial⟩, ⟨.refl _, .refl _, .refl _, .refl _, trivial⟩, ⟨.rowEq (rL hE :), .int (rI hE :), .int (rN hE :), .int (rA hE :), .int (rE hE :), trivial⟩, trivial⟩
    refine ⟨by kernel_rfl, ?_⟩
    refine ⟨((((r.in1 many).in2 (opV r.next.2.1)).in3 (decide (namesF (opV r.next.2.1) > 0))).in3 (decide (namesF (opV r.next.2.1) > 1)), wSemi), ⟨.refl _, .str rfl, trivial⟩, ⟨⟨rfl, .refl _, .refl _, .refl _, .refl _, .refl _, trivial⟩, trivial⟩, ⟨rok_fwd hd.1 f3, trivial⟩, ?_⟩
    have hE : ((((r.in1 many).in2 (opV r.next.2.1)).in3 (decide (namesF (opV r.next.2.1) > 0))).in3 (decide (namesF (opV r.next.2.1) > 1))).want wSemi = r.instrR many := (if_pos h0).symm
    have hV : (⟨opV r.next.2.1, (r.in1 many).in2V (opV r.next.2.1), ((r.in1 many).in2 (opV r.next.2.1)).in3V (decide (namesF (opV r.next.2.1) > 0)), (((r.in1 many).in2 (opV r.next.2.1)).in3 (decide (namesF (opV r.next.2.1) > 0))).in3V (decide (namesF (opV r.next.2.1) > 1))⟩ : Ins) = r.instrV many := (if_pos h0).symm
    exact ⟨.tup2 (.insEq hV) (.btt h0), ⟨rfl, .rowEq (rL hE :), .int (rI hE :), .int (rN hE :), .int (rA hE :), .int (rE hE :), trivial⟩, trivial⟩
end Go.Proofs.YtimhbimpaiiceaaDoor.Ax
