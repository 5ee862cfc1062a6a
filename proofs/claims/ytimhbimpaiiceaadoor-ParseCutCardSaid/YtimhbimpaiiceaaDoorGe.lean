/- Layer parse: names, types, parameters. -/
import Derived.Test.YtimhbimpaiiceaaDoorGd
set_option linter.unusedVariables false
set_option linter.unusedSimpArgs false
namespace Go.Proofs.YtimhbimpaiiceaaDoor.Ax
open Go Go.RowKit
theorem notT {b : Bool} (h : (!b) = true) : b = false := by simpa using h
theorem notF {b : Bool} (h : (!b) = false) : b = true := by simpa using h
theorem take_yes {r : Rs} {w : ByteArray} (h : r.is w = true) : r.take w = r.step := if_pos h
theorem take_no {r : Rs} {w : ByteArray} (h : r.is w = false) : r.take w = r := if_neg (by rw [h]; decide)
theorem need_le (r : Rs) : r.need ≤ r.L.length + 2 := by
  unfold Rs.need
  split <;> omega
def nmsC : CtrB := rdC Unit (fun _ => []) (fun r _ id => .own ByteArray 1 strC noS r.names.1 id) (fun r _ => r.names.2) fun _ => True
set_option maxRecDepth 100000 in
theorem nms_ok : CtrBSound Tryd.prog 51 nmsC :=
  ctrB_of_ax2 mixed _ Tryd.func51 (by kernel_rfl) rfl (fun _ _ => ⟨Nat.le_of_ble_eq_true rfl, Nat.le_of_ble_eq_true rfl⟩) fun ((r, u) : Rs × Unit) id hd => by
    refine ⟨_, ⟨env_okB tys_ok (eqs := []) trivial (cs := [(63, freeC)]) ⟨free_ok, trivial⟩ (bs := [(50, takeC), (49, freshRC), (47, roomC)]) ⟨take_ok, freshR_ok, room_ok, trivial⟩ (gl := tabP), fun _ h => h⟩, ?_⟩
    have hL : r.L.length ≤ 1000000 := hd.1.1
    refine ⟨by kernel_rfl, ?_⟩
    refine ⟨(r, ()), ⟨.refl _, trivial⟩, ⟨⟨rfl, .refl _, .refl _, .refl _, .refl _, .refl _, trivial⟩, trivial⟩, ⟨hd.1, trivial⟩, ?_⟩
    refine ⟨ByteArray, strC, noS, [r.freshV], ⟨rfl, fun _ => rfl⟩, ⟨.refl _, trivial⟩, rfl, ?_⟩
    refine ⟨Nat × Rs × List ByteArray × Bool, fun s => [(0, .box 1000 0), (3, .own ByteArray 1 strC noS s.2.2.1 (if s.2.2.2 then 19 else 6))], fun s => [(1000, rsC s.2.1)],
      fun s => Rs.namesL s.1 s.2.1 s.2.2.1 = r.names ∧ s.2.1.need ≤ s.1 ∧ Fwd r s.2.1 ∧ s.2.2.1.length + s.1 = r.L.length + 3, fun s => s.1,
      ⟨(r.L.length + 2, r.fresh, [r.freshV], false), ⟨rfl, (by have := need_le r.fresh; rw [(Rs.fresh_fwd r).L] at this; exact this), Rs.fresh_fwd r, (by show 1 + (r.L.length + 2) = _; omega)⟩, ⟨⟨rfl, rfl⟩, .refl _, .refl _, ⟨.refl _, .refl _, .refl _, .refl _, .refl _, trivial⟩, trivial⟩⟩, fun ((k, q, out, b) : Nat × Rs × List ByteArray × Bool) hx => ?_⟩
    have hx1 : Rs.namesL k q out = r.names := hx.1
    have hx2 : q.need ≤ k := hx.2.1
    have hx3 : Fwd r q := hx.2.2.1
    have hx4 : out.length + k = r.L.length + 3 := hx.2.2.2
    obtain ⟨k, rfl⟩ : ∃ k', k = k' + 1 := ⟨k - 1, by have := Rs.need_pos q; omega⟩
    have hq : rok q := rok_fwd hd.1 hx3
    refine ⟨by kernel_rfl, ?_⟩
    refine ⟨(q, wComma), ⟨.refl _, .str rfl, trivial⟩, ⟨⟨rfl, .refl _, .refl _, .refl _, .refl _, .refl _, trivial⟩, trivial⟩, ⟨hq, trivial⟩, ?_⟩
    refine ⟨fun h => ?_, fun h => ?_⟩
    · have h1 : q.is wComma = true := h
      have hat := Rs.is_at h1
      have hst := take_yes h1
      have hqs : rok (q.take wComma) := rok_fwd hq (Rs.take_fwd q _)
      have hn1 := Rs.name1_fwd hat (out.length : Int)
      have hrn : rok (q.name1 out.length) := rok_fwd hq hn1
      rw [Rs.namesL, if_pos h1] at hx1
      have hinv : Rs.namesL k (q.name1 out.length).fresh (out ++ [(q.name1 out.length).freshV]) = r.names ∧ (q.name1 out.length).fresh.need ≤ k ∧ Fwd r (q.name1 out.length).fresh ∧ (out ++ [(q.name1 out.length).freshV]).length + k = r.L.length + 3 := by
        have hf := hn1.trans (Rs.fresh_fwd _)
        have := Rs.need_lt hat hf (Rs.on_fwd (Rs.name1_on q out.length) (Rs.fresh_fwd _))
        exact ⟨hx1, by omega, hx3.trans hf, by simp; omega⟩
      refine ⟨(q.take wComma, ()), ⟨.refl _, trivial⟩, rfl, ⟨hqs, trivial⟩, ?_⟩
      refine ⟨fun h => ?_, fun h => ?_⟩
      · have h2 : (q.take wComma).free = true := h
        refine ⟨by kernel_rfl, ?_⟩
        refine ⟨(q.take wComma, (out.length : Int), 4), ⟨.refl _, .refl _, .refl _, trivial⟩, ⟨⟨rfl, .refl _, .refl _, .refl _, .refl _, .refl _, trivial⟩, trivial⟩, ⟨hqs, trivial⟩, ?_⟩
        have hE : (q.take wComma).room out.length 4 = q.name1 out.length := by
          rw [hst] at h2 ⊢
          unfold Rs.name1; rw [if_pos h2]
        refine ⟨by kernel_rfl, ?_⟩
        refine ⟨(q.name1 out.length, ()), ⟨.refl _, trivial⟩, ⟨⟨rfl, .rowEq (rL hE :), .int (rI hE :), .int (rN hE :), .int (rA hE :), .int (rE hE :), trivial⟩, trivial⟩, ⟨hrn, trivial⟩, ?_⟩
        refine ⟨ByteArray, strC, noS, [(q.name1 out.length).freshV], ⟨rfl, fun _ => rfl⟩, ⟨.refl _, trivial⟩, rfl, ?_⟩
        cases b
        · refine ⟨ByteArray, strC, noS, out, [(q.name1 out.length).freshV], 6, ⟨.refl _, .own ..⟩, fun _ => rfl, (by show (out.length + 1) * 16 ≤ 140737488355328; omega), ?_⟩
          exact ⟨(k, (q.name1 out.length).fresh, out ++ [(q.name1 out.length).freshV], true), hinv, Nat.lt_succ_self _, ⟨rfl, rfl⟩, .refl _, .refl _, ⟨.refl _, .refl _, .refl _, .refl _, .refl _, trivial⟩, trivial⟩
        · refine ⟨ByteArray, strC, noS, out, [(q.name1 out.length).freshV], 19, ⟨.refl _, .own ..⟩, fun _ => rfl, (by show (out.length + 1) * 16 ≤ 140737488355328; omega), ?_⟩
          exact ⟨(k, (q.name1 out.length).fresh, out ++ [(q.name1 out.length).freshV], true), hinv, Nat.lt_succ_self _, ⟨rfl, rfl⟩, .refl _, .refl _, ⟨.refl _, .refl _, .refl _, .refl _, .refl _, trivial⟩, trivial⟩
      · have h2 : (q.take wComma).free = false := h
        have hE : q.take wComma = q.name1 out.length := by
          rw [hst] at h2 ⊢
          unfold Rs.name1; rw [if_neg (by rw [h2]; decide)]
        refine ⟨by kernel_rfl, ?_⟩
        refine ⟨(q.name1 out.length, ()), ⟨.refl _, trivial⟩, ⟨⟨rfl, .rowEq (rL hE :), .int (rI hE :), .int (rN hE :), .int (rA hE :), .int (rE hE :), trivial⟩, trivial⟩, ⟨hrn, trivial⟩, ?_⟩
        refine ⟨ByteArray, strC, noS, [(q.name1 out.length).freshV], ⟨rfl, fun _ => rfl⟩, ⟨.refl _, trivial⟩, rfl, ?_⟩
        cases b
        · refine ⟨ByteArray, strC, noS, out, [(q.name1 out.length).freshV], 6, ⟨.refl _, .own ..⟩, fun _ => rfl, (by show (out.length + 1) * 16 ≤ 140737488355328; omega), ?_⟩
          exact ⟨(k, (q.name1 out.length).fresh, out ++ [(q.name1 out.length).freshV], true), hinv, Nat.lt_succ_self _, ⟨rfl, rfl⟩, .refl _, .refl _, ⟨.refl _, .refl _, .refl _, .refl _, .refl _, trivial⟩, trivial⟩
        · refine ⟨ByteArray, strC, noS, out, [(q.name1 out.length).freshV], 19, ⟨.refl _, .own ..⟩, fun _ => rfl, (by show (out.length + 1) * 16 ≤ 140737488355328; omega), ?_⟩
          exact ⟨(k, (q.name1 out.length).fresh, out ++ [(q.name1 out.length).freshV], true), hinv, Nat.lt_succ_self _, ⟨rfl, rfl⟩, .refl _, .refl _, ⟨.refl _, .refl _, .refl _, .refl _, .refl _, trivial⟩, trivial⟩
    · have h1 : q.is wComma = false := h
      rw [Rs.namesL, if_neg (by rw [h1]; decide)] at hx1
      have hE : q.take wComma = r.names.2 := by rw [take_no h1, ← hx1]
      cases b
      · exact ⟨.ownEq (by rw [← hx1]), ⟨rfl, .rowEq (rL hE :), .int (rI hE :), .int (rN hE :), .int (rA hE :), .int (rE hE :), trivial⟩, trivial⟩
      · exact ⟨.ownEq (by rw [← hx1]), ⟨rfl, .rowEq (rL hE :), .int (rI hE :), .int (rN hE :), .int (rA hE :), .int (rE hE :), trivial⟩, trivial⟩
def kindRC : CtrB := rdC Unit (fun _ => []) (fun r _ _ => tyS r.kindV) (fun r _ => r.kind) fun _ => True
theorem Sub.tyEq {a b : Ty} (h : a = b) : Sub (tyS a) (tyS b) := by subst h; exact .refl _
set_option maxRecDepth 100000 in
theorem kindR_ok : CtrBSound Tryd.prog 64 kindRC :=
  ctrB_of_ax2 mixed _ Tryd.func64 (by kernel_rfl) rfl (fun _ _ => ⟨Nat.le_of_ble_eq_true rfl, Nat.le_of_ble_eq_true rfl⟩) fun ((r, u) : Rs × Unit) id hd => by
    refine ⟨_, ⟨env_okB tys_ok (eqs := []) trivial (cs := []) trivial (bs := [(50, takeC), (49, freshRC), (73, rowRC)]) ⟨take_ok, freshR_ok, rowR_ok, trivial⟩ (gl := tabP), fun _ h => h⟩, ?_⟩
    refine ⟨by kernel_rfl, ?_⟩
    refine ⟨(r, wVoid), ⟨.refl _, .str rfl, trivial⟩, ⟨⟨rfl, .refl _, .refl _, .refl _, .refl _, .refl _, trivial⟩, trivial⟩, ⟨hd.1, trivial⟩, ?_⟩
    refine ⟨fun h => ?_, fun h => ?_⟩
    · have h1 : r.is wVoid = true := h
      have hE : r.take wVoid = r.kind := by rw [take_yes h1]; unfold Rs.kind; rw [if_pos h1]
      have hV : ((1, noS) : Ty) = r.kindV := by unfold Rs.kindV; rw [if_pos h1]
      exact ⟨.tyEq hV, ⟨rfl, .rowEq (rL hE :), .int (rI hE :), .int (rN hE :), .int (rA hE :), .int (rE hE :), trivial⟩, trivial⟩
    have h1 : r.is wVoid = false := h
    have hE : r.take wVoid = r := take_no h1
    refine ⟨by kernel_rfl, ?_⟩
    refine ⟨(r, wInt), ⟨.refl _, .str rfl, trivial⟩, ⟨⟨rfl, .rowEq (rL hE :), .int (rI hE :), .int (rN hE :), .int (rA hE :), .int (rE hE :), trivial⟩, trivial⟩, ⟨hd.1, trivial⟩, ?_⟩
    clear hE
    refine ⟨fun h => ?_, fun h => ?_⟩
    · have h2 : r.is wInt = true := h
      have hst := take_yes h2
      refine ⟨by kernel_rfl, ?_⟩
      refine ⟨(r.take wInt, ()), ⟨.refl _, trivial⟩, ⟨⟨rfl, .refl _, .refl _, .refl _, .refl _, .refl _, trivial⟩, trivial⟩, ⟨rok_fwd hd.1 (Rs.take_fwd r _), trivial⟩, ?_⟩
      have hE : (r.take wInt).rowR = r.kind := by rw [hst]; unfold Rs.kind; rw [if_neg (by rw [h1]; decide), if_pos h2]
      refine ⟨fun h => ?_, fun h => ?_⟩
      · have h3 : (r.take wInt).is wLb = true := h
        have hV : ((4, noS) : Ty) = r.kindV := by rw [hst] at h3; unfold Rs.kindV; rw [if_neg (by rw [h1]; decide), if_pos h2, if_pos h3]
        exact ⟨.tyEq hV, ⟨rfl, .rowEq (rL hE :), .int (rI hE :), .int (rN hE :), .int (rA hE :), .int (rE hE :), trivial⟩, trivial⟩
      · have h3 : (r.take wInt).is wLb = false := h
        have hV : ((2, noS) : Ty) = r.kindV := by rw [hst] at h3; unfold Rs.kindV; rw [if_neg (by rw [h1]; decide), if_pos h2, if_neg (by rw [h3]; decide)]
        exact ⟨.tyEq hV, ⟨rfl, .rowEq (rL hE :), .int (rI hE :), .int (rN hE :), .int (rA hE :), .int (rE hE :), trivial⟩, trivial⟩
    have h2 : r.is wInt = false := h
    have hE : r.take wInt = r := take_no h2
    refine ⟨by kernel_rfl, ?_⟩
    refine ⟨(r, ()), ⟨.refl _, trivial⟩, ⟨⟨rfl, .rowEq (rL hE :), .int (rI hE :), .int (rN hE :), .int (rA hE :), .int (rE hE :), trivial⟩, trivial⟩, ⟨hd.1, trivial⟩, ?_⟩
    clear hE
    refine ⟨by kernel_rfl, ?_⟩
    refine ⟨(r.fresh, ()), ⟨.refl _, trivial⟩, ⟨⟨rfl, .refl _, .refl _, .refl _, .refl _, .refl _, trivial⟩, trivial⟩, ⟨rok_fwd hd.1 (Rs.fresh_fwd r), trivial⟩, ?_⟩
    have hE : r.fresh.rowR = r.kind := by unfold Rs.kind; rw [if_neg (by rw [h1]; decide), if_neg (by rw [h2]; decide)]
    refine ⟨fun h => ?_, fun h => ?_⟩
    · have h3 : r.fresh.is wLb = true := h
      have hV : ((5, r.freshV) : Ty) = r.kindV := by unfold Rs.kindV; rw [if_neg (by rw [h1]; decide), if_neg (by rw [h2]; decide), if_pos h3]
      exact ⟨.tyEq hV, ⟨rfl, .rowEq (rL hE :), .int (rI hE :), .int (rN hE :), .int (rA hE :), .int (rE hE :), trivial⟩, trivial⟩
    · have h3 : r.fresh.is wLb = false := h
      have hV : ((3, r.freshV) : Ty) = r.kindV := by unfold Rs.kindV; rw [if_neg (by rw [h1]; decide), if_neg (by rw [h2]; decide), if_neg (by rw [h3]; decide)]
      exact ⟨.tyEq hV, ⟨rfl, .rowEq (rL hE :), .int (rI hE :), .int (rN hE :), .int (rA hE :), .int (rE hE :), trivial⟩, trivial⟩
end Go.Proofs.YtimhbimpaiiceaaDoor.Ax
