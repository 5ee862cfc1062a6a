/- Layer parse: parameters, instructions. -/
import Derived.Test.YtimhbimpaiiceaaDoorGe
set_option linter.unusedVariables false
set_option linter.unusedSimpArgs false
namespace Go.Proofs.YtimhbimpaiiceaaDoor.Ax
open Go Go.RowKit
def paramsRC : CtrB := rdC Unit (fun _ => []) (fun r _ id => .own Ty 2 tyC ty0 r.params.1 id) (fun r _ => r.params.2) fun _ => True
set_option maxRecDepth 100000 in
theorem paramsR_ok : CtrBSound Tryd.prog 65 paramsRC :=
  ctrB_of_ax2 mixed _ Tryd.func65 (by kernel_rfl) rfl (fun _ _ => ⟨Nat.le_of_ble_eq_true rfl, Nat.le_of_ble_eq_true rfl⟩) fun ((r, u) : Rs × Unit) id hd => by
    refine ⟨_, ⟨env_okB tys_ok (eqs := []) trivial (cs := [(63, freeC), (46, isC)]) ⟨free_ok, is_ok, trivial⟩ (bs := [(50, takeC), (48, wantC), (64, kindRC), (47, roomC)]) ⟨take_ok, want_ok, kindR_ok, room_ok, trivial⟩ (gl := tabP), fun _ h => h⟩, ?_⟩
    have hL : r.L.length ≤ 1000000 := hd.1.1
    have hf0 := Rs.want_fwd r wLp
    have hf1 : Fwd r (r.want wLp).kind := hf0.trans (Rs.kind_fwd _)
    refine ⟨by kernel_rfl, ?_⟩
    refine ⟨(r, wLp), ⟨.refl _, .str rfl, trivial⟩, ⟨⟨rfl, .refl _, .refl _, .refl _, .refl _, .refl _, trivial⟩, trivial⟩, ⟨hd.1, trivial⟩, ?_⟩
    refine ⟨by kernel_rfl, ?_⟩
    refine ⟨(r.want wLp, wRp), ⟨.refl _, .str rfl, trivial⟩, ⟨⟨rfl, .refl _, .refl _, .refl _, .refl _, .refl _, trivial⟩, trivial⟩, ⟨rok_fwd hd.1 hf0, trivial⟩, ?_⟩
    refine ⟨fun h => ?_, fun h => ?_⟩
    · have h1 : (r.want wLp).is wRp = true := h
      have e : r.params = ([], (r.want wLp).step) := by unfold Rs.params; rw [if_pos h1]
      have hE : (r.want wLp).take wRp = r.params.2 := by rw [e, take_yes h1]
      exact ⟨(show Sub _ (.own Ty 2 tyC ty0 r.params.1 id) by rw [e]; exact .nilO ..), ⟨rfl, .rowEq (rL hE :), .int (rI hE :), .int (rN hE :), .int (rA hE :), .int (rE hE :), trivial⟩, trivial⟩
    have h1 : (r.want wLp).is wRp = false := h
    have e : r.params = ((Rs.paramsL (r.L.length + 2) (r.want wLp).kind [(r.want wLp).kindV]).1, (Rs.paramsL (r.L.length + 2) (r.want wLp).kind [(r.want wLp).kindV]).2.want wRp) := by unfold Rs.params; rw [if_neg (by rw [h1]; decide)]
    have hE : (r.want wLp).take wRp = r.want wLp := take_no h1
    refine ⟨by kernel_rfl, ?_⟩
    refine ⟨(r.want wLp, ()), ⟨.refl _, trivial⟩, ⟨⟨rfl, .rowEq (rL hE :), .int (rI hE :), .int (rN hE :), .int (rA hE :), .int (rE hE :), trivial⟩, trivial⟩, ⟨rok_fwd hd.1 hf0, trivial⟩, ?_⟩
    clear hE
    refine ⟨Ty, tyC, ty0, [(r.want wLp).kindV], ⟨rfl, fun _ => rfl⟩, ⟨.refl _, .refl _, trivial⟩, rfl, ?_⟩
    refine ⟨Nat × Rs × List Ty × Bool, fun s => [(0, .box 1000 0), (3, .own Ty 2 tyC ty0 s.2.2.1 (if s.2.2.2 then 31 else 10))], fun s => [(1000, rsC s.2.1)],
      fun s => Rs.paramsL s.1 s.2.1 s.2.2.1 = Rs.paramsL (r.L.length + 2) (r.want wLp).kind [(r.want wLp).kindV] ∧ s.2.1.need ≤ s.1 ∧ Fwd r s.2.1 ∧ s.2.2.1.length + s.1 = r.L.length + 3, fun s => s.1,
      ⟨(r.L.length + 2, (r.want wLp).kind, [(r.want wLp).kindV], false), ⟨rfl, (by have := need_le (r.want wLp).kind; rw [hf1.L] at this; exact this), hf1, (by show 1 + (r.L.length + 2) = _; omega)⟩, ⟨⟨rfl, rfl⟩, .refl _, .refl _, ⟨.refl _, .refl _, .refl _, .refl _, .refl _, trivial⟩, trivial⟩⟩, fun ((k, q, out, b) : Nat × Rs × List Ty × Bool) hx => ?_⟩
    have hx1 : Rs.paramsL k q out = Rs.paramsL (r.L.length + 2) (r.want wLp).kind [(r.want wLp).kindV] := hx.1
    have hx2 : q.need ≤ k := hx.2.1
    have hx3 : Fwd r q := hx.2.2.1
    have hx4 : out.length + k = r.L.length + 3 := hx.2.2.2
    obtain ⟨k, rfl⟩ : ∃ k', k = k' + 1 := ⟨k - 1, by have := Rs.need_pos q; omega⟩
    have hq : rok q := rok_fwd hd.1 hx3
    refine ⟨by kernel_rfl, ?_⟩
    refine ⟨(q, wComma), ⟨.refl _, .str rfl, trivial⟩, ⟨⟨rfl, .refl _, .refl _, .refl _, .refl _, .refl _, trivial⟩, trivial⟩, ⟨hq, trivial⟩, ?_⟩
    refine ⟨fun h => ?_, fun h => ?_⟩
    · have h1 : q.is wComma = true := h
      have hat := Rs.is_at h1
      have hst := take_yes h1
      have hqs : rok (q.take wComma) := rok_fwd hq (Rs.take_fwd q _)
      have hn1 := Rs.param1_fwd hat (out.length : Int)
      have hrn : rok (q.param1 out.length) := rok_fwd hq hn1
      rw [Rs.paramsL, if_pos h1] at hx1
      have hinv : Rs.paramsL k (q.param1 out.length).kind (out ++ [(q.param1 out.length).kindV]) = Rs.paramsL (r.L.length + 2) (r.want wLp).kind [(r.want wLp).kindV] ∧ (q.param1 out.length).kind.need ≤ k ∧ Fwd r (q.param1 out.length).kind ∧ (out ++ [(q.param1 out.length).kindV]).length + k = r.L.length + 3 := by
        have hf := hn1.trans (Rs.kind_fwd _)
        have := Rs.need_lt hat hf (Rs.on_fwd (Rs.param1_on q out.length) (Rs.kind_fwd _))
        exact ⟨hx1, by omega, hx3.trans hf, by simp; omega⟩
      have fin : ∀ p : Rs, p = q.param1 out.length → p = q.param1 out.length := fun _ h => h
      have yes : ((q.step.free || q.step.is wInt || q.step.is wVoid) = true) → (q.take wComma).room out.length 4 = q.param1 out.length := fun h => by
        rw [hst]; unfold Rs.param1; rw [if_pos h]
      have nope : ((q.step.free || q.step.is wInt || q.step.is wVoid) = false) → q.take wComma = q.param1 out.length := fun h => by
        rw [hst]; unfold Rs.param1; rw [if_neg (by rw [h]; decide)]
      refine ⟨(q.take wComma, ()), ⟨.refl _, trivial⟩, rfl, ⟨hqs, trivial⟩, ?_⟩
      refine ⟨fun h2 => ?_, fun h2 => ?_⟩
      · have h2 : (q.take wComma).free = true := h2
        refine ⟨by kernel_rfl, ?_⟩
        refine ⟨(q.take wComma, (out.length : Int), 4), ⟨.refl _, .refl _, .refl _, trivial⟩, ⟨⟨rfl, .refl _, .refl _, .refl _, .refl _, .refl _, trivial⟩, trivial⟩, ⟨hqs, trivial⟩, ?_⟩
        have hE := yes (by rw [← hst]; rw [h2]; rfl)
        refine ⟨by kernel_rfl, ?_⟩
        refine ⟨(q.param1 out.length, ()), ⟨.refl _, trivial⟩, ⟨⟨rfl, .rowEq (rL hE :), .int (rI hE :), .int (rN hE :), .int (rA hE :), .int (rE hE :), trivial⟩, trivial⟩, ⟨hrn, trivial⟩, ?_⟩
        refine ⟨Ty, tyC, ty0, [(q.param1 out.length).kindV], ⟨rfl, fun _ => rfl⟩, ⟨.refl _, .refl _, trivial⟩, rfl, ?_⟩
        cases b
        · refine ⟨Ty, tyC, ty0, out, [(q.param1 out.length).kindV], 10, ⟨.refl _, .own ..⟩, fun _ => rfl, (by show (out.length + 1) * 24 ≤ 140737488355328; omega), ?_⟩
          exact ⟨(k, (q.param1 out.length).kind, out ++ [(q.param1 out.length).kindV], true), hinv, Nat.lt_succ_self _, ⟨rfl, rfl⟩, .refl _, .refl _, ⟨.refl _, .refl _, .refl _, .refl _, .refl _, trivial⟩, trivial⟩
        · refine ⟨Ty, tyC, ty0, out, [(q.param1 out.length).kindV], 31, ⟨.refl _, .own ..⟩, fun _ => rfl, (by show (out.length + 1) * 24 ≤ 140737488355328; omega), ?_⟩
          exact ⟨(k, (q.param1 out.length).kind, out ++ [(q.param1 out.length).kindV], true), hinv, Nat.lt_succ_self _, ⟨rfl, rfl⟩, .refl _, .refl _, ⟨.refl _, .refl _, .refl _, .refl _, .refl _, trivial⟩, trivial⟩
      have h2 : (q.take wComma).free = false := h2
      refine ⟨(q.take wComma, wInt), ⟨.refl _, .str rfl, trivial⟩, rfl, ⟨hqs, trivial⟩, ?_⟩
      refine ⟨fun h3 => ?_, fun h3 => ?_⟩
      · have h3 : (q.take wComma).is wInt = true := h3
        refine ⟨by kernel_rfl, ?_⟩
        refine ⟨(q.take wComma, (out.length : Int), 4), ⟨.refl _, .refl _, .refl _, trivial⟩, ⟨⟨rfl, .refl _, .refl _, .refl _, .refl _, .refl _, trivial⟩, trivial⟩, ⟨hqs, trivial⟩, ?_⟩
        have hE := yes (by rw [← hst]; rw [h2, h3]; rfl)
        refine ⟨by kernel_rfl, ?_⟩
        refine ⟨(q.param1 out.length, ()), ⟨.refl _, trivial⟩, ⟨⟨rfl, .rowEq (rL hE :), .int (rI hE :), .int (rN hE :), .int (rA hE :), .int (rE hE :), trivial⟩, trivial⟩, ⟨hrn, trivial⟩, ?_⟩
        refine ⟨Ty, tyC, ty0, [(q.param1 out.length).kindV], ⟨rfl, fun _ => rfl⟩, ⟨.refl _, .refl _, trivial⟩, rfl, ?_⟩
        cases b
        · refine ⟨Ty, tyC, ty0, out, [(q.param1 out.length).kindV], 10, ⟨.refl _, .own ..⟩, fun _ => rfl, (by show (out.length + 1) * 24 ≤ 140737488355328; omega), ?_⟩
          exact ⟨(k, (q.param1 out.length).kind, out ++ [(q.param1 out.length).kindV], true), hinv, Nat.lt_succ_self _, ⟨rfl, rfl⟩, .refl _, .refl _, ⟨.refl _, .refl _, .refl _, .refl _, .refl _, trivial⟩, trivial⟩
        · refine ⟨Ty, tyC, ty0, out, [(q.param1 out.length).kindV], 31, ⟨.refl _, .own ..⟩, fun _ => rfl, (by show (out.length + 1) * 24 ≤ 140737488355328; omega), ?_⟩
          exact ⟨(k, (q.param1 out.length).kind, out ++ [(q.param1 out.length).kindV], true), hinv, Nat.lt_succ_self _, ⟨rfl, rfl⟩, .refl _, .refl _, ⟨.refl _, .refl _, .refl _, .refl _, .refl _, trivial⟩, trivial⟩
      have h3 : (q.take wComma).is wInt = false := h3
      refine ⟨(q.take wComma, wVoid), ⟨.refl _, .str rfl, trivial⟩, rfl, ⟨hqs, trivial⟩, ?_⟩
      refine ⟨fun h4 => ?_, fun h4 => ?_⟩
      · have h4 : (q.take wComma).is wVoid = true := h4
        refine ⟨by kernel_rfl, ?_⟩
        refine ⟨(q.take wComma, (out.length : Int), 4), ⟨.refl _, .refl _, .refl _, trivial⟩, ⟨⟨rfl, .refl _, .refl _, .refl _, .refl _, .refl _, trivial⟩, trivial⟩, ⟨hqs, trivial⟩, ?_⟩
        have hE := yes (by rw [← hst]; rw [h2, h3, h4]; rfl)
        refine ⟨by kernel_rfl, ?_⟩
        refine ⟨(q.param1 out.length, ()), ⟨.refl _, trivial⟩, ⟨⟨rfl, .rowEq (rL hE :), .int (rI hE :), .int (rN hE :), .int (rA hE :), .int (rE hE :), trivial⟩, trivial⟩, ⟨hrn, trivial⟩, ?_⟩
        refine ⟨Ty, tyC, ty0, [(q.param1 out.length).kindV], ⟨rfl, fun _ => rfl⟩, ⟨.refl _, .refl _, trivial⟩, rfl, ?_⟩
        cases b
        · refine ⟨Ty, tyC, ty0, out, [(q.param1 out.length).kindV], 10, ⟨.refl _, .own ..⟩, fun _ => rfl, (by show (out.length + 1) * 24 ≤ 140737488355328; omega), ?_⟩
          exact ⟨(k, (q.param1 out.length).kind, out ++ [(q.param1 out.length).kindV], true), hinv, Nat.lt_succ_self _, ⟨rfl, rfl⟩, .refl _, .refl _, ⟨.refl _, .refl _, .refl _, .refl _, .refl _, trivial⟩, trivial⟩
        · refine ⟨Ty, tyC, ty0, out, [(q.param1 out.length).kindV], 31, ⟨.refl _, .own ..⟩, fun _ => rfl, (by show (out.length + 1) * 24 ≤ 140737488355328; omega), ?_⟩
          exact ⟨(k, (q.param1 out.length).kind, out ++ [(q.param1 out.length).kindV], true), hinv, Nat.lt_succ_self _, ⟨rfl, rfl⟩, .refl _, .refl _, ⟨.refl _, .refl _, .refl _, .refl _, .refl _, trivial⟩, trivial⟩
      · have h4 : (q.take wComma).is wVoid = false := h4
        have hE := nope (by rw [← hst]; rw [h2, h3, h4]; rfl)
        refine ⟨by kernel_rfl, ?_⟩
        refine ⟨(q.param1 out.length, ()), ⟨.refl _, trivial⟩, ⟨⟨rfl, .rowEq (rL hE :), .int (rI hE :), .int (rN hE :), .int (rA hE :), .int (rE hE :), trivial⟩, trivial⟩, ⟨hrn, trivial⟩, ?_⟩
        refine ⟨Ty, tyC, ty0, [(q.param1 out.length).kindV], ⟨rfl, fun _ => rfl⟩, ⟨.refl _, .refl _, trivial⟩, rfl, ?_⟩
        cases b
        · refine ⟨Ty, tyC, ty0, out, [(q.param1 out.length).kindV], 10, ⟨.refl _, .own ..⟩, fun _ => rfl, (by show (out.length + 1) * 24 ≤ 140737488355328; omega), ?_⟩
          exact ⟨(k, (q.param1 out.length).kind, out ++ [(q.param1 out.length).kindV], true), hinv, Nat.lt_succ_self _, ⟨rfl, rfl⟩, .refl _, .refl _, ⟨.refl _, .refl _, .refl _, .refl _, .refl _, trivial⟩, trivial⟩
        · refine ⟨Ty, tyC, ty0, out, [(q.param1 out.length).kindV], 31, ⟨.refl _, .own ..⟩, fun _ => rfl, (by show (out.length + 1) * 24 ≤ 140737488355328; omega), ?_⟩
          exact ⟨(k, (q.param1 out.length).kind, out ++ [(q.param1 out.length).kindV], true), hinv, Nat.lt_succ_self _, ⟨rfl, rfl⟩, .refl _, .refl _, ⟨.refl _, .refl _, .refl _, .refl _, .refl _, trivial⟩, trivial⟩
    · have h1 : q.is wComma = false := h
      rw [Rs.paramsL, if_neg (by rw [h1]; decide)] at hx1
      have hE : q.take wComma = (Rs.paramsL (r.L.length + 2) (r.want wLp).kind [(r.want wLp).kindV]).2 := by rw [take_no h1, ← hx1]
      have hE2 : (Rs.paramsL (r.L.length + 2) (r.want wLp).kind [(r.want wLp).kindV]).2.want wRp = r.params.2 := by rw [e]
      refine ⟨by kernel_rfl, ?_⟩
      refine ⟨((Rs.paramsL (r.L.length + 2) (r.want wLp).kind [(r.want wLp).kindV]).2, wRp), ⟨.refl _, .str rfl, trivial⟩, ⟨⟨rfl, .rowEq (rL hE :), .int (rI hE :), .int (rN hE :), .int (rA hE :), .int (rE hE :), trivial⟩, trivial⟩, ⟨rok_fwd hd.1 (hf1.trans (Rs.paramsL_fwd _ _ _)), trivial⟩, ?_⟩
      clear hE
      have hE := hE2
      cases b
      · exact ⟨.ownEq (by rw [e, ← hx1]), ⟨rfl, .rowEq (rL hE :), .int (rI hE :), .int (rN hE :), .int (rA hE :), .int (rE hE :), trivial⟩, trivial⟩
      · exact ⟨.ownEq (by rw [e, ← hx1]), ⟨rfl, .rowEq (rL hE :), .int (rI hE :), .int (rN hE :), .int (rA hE :), .int (rE hE :), trivial⟩, trivial⟩
def opC : Ctr := { A := ByteArray, enc := fun s => [S s], dom := fun _ => True, res := fun s _ => .tup [I (if opV s < 0 then 0 else opV s), B (decide (0 ≤ opV s))], gl := tabS }
set_option maxRecDepth 100000 in
theorem op_ok : CtrSound Tryd.prog 12 opC :=
  ctr_of_ax (env_okB tys_ok (eqs := []) trivial (cs := [(28, opsC), (29, atC)]) ⟨ops_ok, at_ok, trivial⟩ (bs := []) trivial (gl := tabS)) mixed _ Tryd.func12 (by kernel_rfl) rfl (fun _ _ => Nat.le_of_ble_eq_true rfl) fun (s : ByteArray) id hd => by
    refine ⟨(), trivial, rfl, trivial, ?_⟩
    refine ⟨(opsL, s), ⟨.own .., .refl _, trivial⟩, rfl, (show opsL.length ≤ 4611686018427387904 by decide), ?_⟩
    refine ⟨fun h => ?_, fun h => ?_⟩
    · have h : opV s < 0 := of_decide_eq_true h
      exact ⟨.tup2 (.int (if_pos h).symm) (.bff (decide_eq_false (by omega))), rfl⟩
    · have h : ¬ opV s < 0 := of_decide_eq_false h
      exact ⟨.tup2 (.int (if_neg h).symm) (.btt (decide_eq_true (by omega))), rfl⟩
end Go.Proofs.YtimhbimpaiiceaaDoor.Ax
