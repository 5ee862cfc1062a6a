/- Layer parse: classes, programs. -/
import Derived.Test.YtimhbimpaiiceaaDoorGi
set_option linter.unusedVariables false
set_option linter.unusedSimpArgs false
namespace Go.Proofs.YtimhbimpaiiceaaDoor.Ax
open Go Go.RowKit
theorem Sub.agg6 {a b c d e f a' b' c' d' e' f' : SV} (h1 : Sub a a') (h2 : Sub b b') (h3 : Sub c c') (h4 : Sub d d') (h5 : Sub e e') (h6 : Sub f f') : Sub (.agg [a, b, c, d, e, f]) (.agg [a', b', c', d', e', f']) := .agg _ _ rfl fun j hj => by
  match j, hj with
  | 0, _ => exact h1
  | 1, _ => exact h2
  | 2, _ => exact h3
  | 3, _ => exact h4
  | 4, _ => exact h5
  | 5, _ => exact h6
def classRC : CtrB := rdC Int (fun n => [I n]) (fun r n _ => .agg (clsC (r.class' n).1)) (fun r n => (r.class' n).2) fun _ => True
theorem member_len (r : Rs) (c : Cls) : (r.member c).1.fields.length + (r.member c).1.methods.length ≤ c.fields.length + c.methods.length + 1 := by
  unfold Rs.member
  split
  · simp; omega
  · split
    · simp; omega
    · simp
set_option maxRecDepth 100000 in
set_option maxHeartbeats 8000000 in
theorem classR_ok : CtrBSound Tryd.prog 34 classRC :=
  ctrB_of_ax2 mixed _ Tryd.func34 (by kernel_rfl) rfl (fun _ _ => ⟨Nat.le_of_ble_eq_true rfl, Nat.le_of_ble_eq_true rfl⟩) fun ((r, many) : Rs × Int) id hd => by
    refine ⟨_, ⟨env_okB tys_ok (eqs := []) trivial (cs := [(46, isC)]) ⟨is_ok, trivial⟩ (bs := [(47, roomC), (48, wantC), (49, freshRC), (50, takeC), (51, nmsC), (52, memberRC)]) ⟨room_ok, want_ok, freshR_ok, take_ok, nms_ok, memberR_ok, trivial⟩ (vec := [60]) (cut := [4, 7, 12, 14]) (gl := tabP), fun _ h => h⟩, ?_⟩
    have hr : rok r := hd.1
    have hL : r.L.length ≤ 1000000 := hd.1.1
    have f1 : Fwd r (r.cl1 many) := Rs.cl1_fwd r many
    have f2 := f1.trans (Rs.fresh_fwd _)
    have f3 := f2.trans (Rs.ex1_fwd _ (r.is wInterface))
    have f4 := f3.trans (Rs.ex2_fwd _ (r.is wInterface) ((r.cl1 many).fresh.ex1 (r.is wInterface)).1.2)
    have f5 : Fwd r (r.clR many) := Rs.clR_fwd r many
    have f0 : Fwd r (if r.is wClass || r.is wInterface then r.room many 10 else r) := by
      split
      · exact Rs.room_fwd _ _ _
      · exact .refl _
    refine ⟨(r, wInterface), ⟨.refl _, .str rfl, trivial⟩, rfl, ⟨hr, trivial⟩, ?_⟩
    refine ⟨Unit, fun _ => [(0, .box 1000 0), (4, .box 4 0), (5, .box 5 0)], fun _ => [(1000, rsC (if r.is wClass || r.is wInterface then r.room many 10 else r)), (4, [S noS, B false, S noS, .val (.slice none 0 0), .val (.slice none 0 0), .val (.slice none 0 0)]), (5, [S (noS), B (r.is wInterface), S (noS), .val (.slice none 0 0), .val (.slice none 0 0), .val (.slice none 0 0)])], fun _ => True, ?_, fun _ _ => ?_⟩
    · refine ⟨(r, wClass), ⟨.refl _, .str rfl, trivial⟩, rfl, ⟨hr, trivial⟩, ?_⟩
      refine ⟨fun h1 => ?_, fun h1 => ?_⟩
      · have h1 : r.is wClass = true := h1
        have hE : r.room many 10 = (if r.is wClass || r.is wInterface then r.room many 10 else r) := (if_pos (by rw [h1]; rfl)).symm
        refine ⟨by kernel_rfl, ?_⟩
        refine ⟨(r, many, 10), ⟨.refl _, .refl _, .refl _, trivial⟩, ⟨⟨rfl, .refl _, .refl _, .refl _, .refl _, .refl _, trivial⟩, trivial⟩, ⟨hr, trivial⟩, ?_⟩
        exact ⟨(), trivial, ⟨rfl, rfl⟩, .refl _, .refl _, .refl _, ⟨.refl _, .refl _, .refl _, .refl _, .refl _, .refl _, trivial⟩, ⟨.refl _, .refl _, .refl _, .refl _, .refl _, .refl _, trivial⟩, ⟨.rowEq (rL hE :), .int (rI hE :), .int (rN hE :), .int (rA hE :), .int (rE hE :), trivial⟩, trivial⟩
      have h1 : r.is wClass = false := h1
      refine ⟨(r, wInterface), ⟨.refl _, .str rfl, trivial⟩, rfl, ⟨hr, trivial⟩, ?_⟩
      refine ⟨fun h2 => ?_, fun h2 => ?_⟩
      · have h2 : r.is wInterface = true := h2
        have hE : r.room many 10 = (if r.is wClass || r.is wInterface then r.room many 10 else r) := (if_pos (by rw [h1, h2]; rfl)).symm
        refine ⟨by kernel_rfl, ?_⟩
        refine ⟨(r, many, 10), ⟨.refl _, .refl _, .refl _, trivial⟩, ⟨⟨rfl, .refl _, .refl _, .refl _, .refl _, .refl _, trivial⟩, trivial⟩, ⟨hr, trivial⟩, ?_⟩
        exact ⟨(), trivial, ⟨rfl, rfl⟩, .refl _, .refl _, .refl _, ⟨.refl _, .refl _, .refl _, .refl _, .refl _, .refl _, trivial⟩, ⟨.refl _, .refl _, .refl _, .refl _, .refl _, .refl _, trivial⟩, ⟨.rowEq (rL hE :), .int (rI hE :), .int (rN hE :), .int (rA hE :), .int (rE hE :), trivial⟩, trivial⟩
      · have h2 : r.is wInterface = false := h2
        have hE : r = (if r.is wClass || r.is wInterface then r.room many 10 else r) := (if_neg (by rw [h1, h2]; decide)).symm
        exact ⟨(), trivial, ⟨rfl, rfl⟩, .refl _, .refl _, .refl _, ⟨.refl _, .refl _, .refl _, .refl _, .refl _, .refl _, trivial⟩, ⟨.refl _, .refl _, .refl _, .refl _, .refl _, .refl _, trivial⟩, ⟨.rowEq (rL hE :), .int (rI hE :), .int (rN hE :), .int (rA hE :), .int (rE hE :), trivial⟩, trivial⟩
    refine ⟨Unit, fun _ => [(0, .box 1000 0), (4, .box 4 0), (5, .box 5 0)], fun _ => [(1000, rsC (r.cl1 many)), (4, [S noS, B false, S noS, .val (.slice none 0 0), .val (.slice none 0 0), .val (.slice none 0 0)]), (5, [S (noS), B (r.is wInterface), S (noS), .val (.slice none 0 0), .val (.slice none 0 0), .val (.slice none 0 0)])], fun _ => True, ?_, fun _ _ => ?_⟩
    · refine ⟨fun h1 => ?_, fun h1 => ?_⟩
      · have h1 : r.is wInterface = true := h1
        have hE : (if r.is wClass || r.is wInterface then r.room many 10 else r).want wInterface = (r.cl1 many) := by unfold Rs.cl1; rw [if_pos (c := r.is wInterface = true) h1]
        refine ⟨by kernel_rfl, ?_⟩
        refine ⟨((if r.is wClass || r.is wInterface then r.room many 10 else r), wInterface), ⟨.refl _, .str rfl, trivial⟩, ⟨⟨rfl, .refl _, .refl _, .refl _, .refl _, .refl _, trivial⟩, trivial⟩, ⟨rok_fwd hr f0, trivial⟩, ?_⟩
        exact ⟨(), trivial, ⟨rfl, rfl⟩, .refl _, .refl _, .refl _, ⟨.refl _, .refl _, .refl _, .refl _, .refl _, .refl _, trivial⟩, ⟨.refl _, .refl _, .refl _, .refl _, .refl _, .refl _, trivial⟩, ⟨.rowEq (rL hE :), .int (rI hE :), .int (rN hE :), .int (rA hE :), .int (rE hE :), trivial⟩, trivial⟩
      · have h1 : r.is wInterface = false := h1
        have hE : (if r.is wClass || r.is wInterface then r.room many 10 else r).want wClass = (r.cl1 many) := by unfold Rs.cl1; rw [if_neg (c := r.is wInterface = true) (by rw [h1]; decide)]
        refine ⟨by kernel_rfl, ?_⟩
        refine ⟨((if r.is wClass || r.is wInterface then r.room many 10 else r), wClass), ⟨.refl _, .str rfl, trivial⟩, ⟨⟨rfl, .refl _, .refl _, .refl _, .refl _, .refl _, trivial⟩, trivial⟩, ⟨rok_fwd hr f0, trivial⟩, ?_⟩
        exact ⟨(), trivial, ⟨rfl, rfl⟩, .refl _, .refl _, .refl _, ⟨.refl _, .refl _, .refl _, .refl _, .refl _, .refl _, trivial⟩, ⟨.refl _, .refl _, .refl _, .refl _, .refl _, .refl _, trivial⟩, ⟨.rowEq (rL hE :), .int (rI hE :), .int (rN hE :), .int (rA hE :), .int (rE hE :), trivial⟩, trivial⟩
    refine ⟨by kernel_rfl, ?_⟩
    refine ⟨((r.cl1 many), ()), ⟨.refl _, trivial⟩, ⟨⟨rfl, .refl _, .refl _, .refl _, .refl _, .refl _, trivial⟩, trivial⟩, ⟨rok_fwd hr f1, trivial⟩, ?_⟩
    refine ⟨Unit, fun _ => [(0, .box 1000 0), (4, .box 4 0), (5, .box 5 0)], fun _ => [(1000, rsC ((r.cl1 many).fresh.ex1 (r.is wInterface)).2), (4, [S noS, B false, S noS, .val (.slice none 0 0), .val (.slice none 0 0), .val (.slice none 0 0)]), (5, [S ((r.cl1 many).freshV), B (r.is wInterface), S (((r.cl1 many).fresh.ex1 (r.is wInterface)).1.1), .row ByteArray 1 strC noS ((r.cl1 many).fresh.ex1 (r.is wInterface)).1.2, .val (.slice none 0 0), .val (.slice none 0 0)])], fun _ => True, ?_, fun _ _ => ?_⟩
    · refine ⟨by kernel_rfl, ?_⟩
      refine ⟨((r.cl1 many).fresh, wExtends), ⟨.refl _, .str rfl, trivial⟩, ⟨⟨rfl, .refl _, .refl _, .refl _, .refl _, .refl _, trivial⟩, trivial⟩, ⟨rok_fwd hr f2, trivial⟩, ?_⟩
      refine ⟨fun h1 => ?_, fun h1 => ?_⟩
      · have h1 : (r.cl1 many).fresh.is wExtends = true := h1
        have hst := take_yes h1
        have fs : rok ((r.cl1 many).fresh.take wExtends) := rok_fwd hr (f2.trans (Rs.take_fwd _ _))
        refine ⟨fun h2 => ?_, fun h2 => ?_⟩
        · have h2 : r.is wInterface = true := h2
          have e : ((r.cl1 many).fresh.ex1 (r.is wInterface)) = ((noS, (r.cl1 many).fresh.step.names.1), (r.cl1 many).fresh.step.names.2) := by unfold Rs.ex1; rw [if_pos h1, if_pos h2]
          have hE : ((r.cl1 many).fresh.take wExtends).names.2 = ((r.cl1 many).fresh.ex1 (r.is wInterface)).2 := by rw [e, hst]
          refine ⟨by kernel_rfl, ?_⟩
          refine ⟨((r.cl1 many).fresh.take wExtends, ()), ⟨.refl _, trivial⟩, ⟨⟨rfl, .refl _, .refl _, .refl _, .refl _, .refl _, trivial⟩, trivial⟩, ⟨fs, trivial⟩, ?_⟩
          exact ⟨(), trivial, ⟨rfl, rfl⟩, .refl _, .refl _, .refl _, ⟨.refl _, .refl _, .str (by rw [e]), .ownRow (by rw [e, hst]), .refl _, .refl _, trivial⟩, ⟨.refl _, .refl _, .refl _, .refl _, .refl _, .refl _, trivial⟩, ⟨.rowEq (rL hE :), .int (rI hE :), .int (rN hE :), .int (rA hE :), .int (rE hE :), trivial⟩, trivial⟩
        · have h2 : r.is wInterface = false := h2
          have e : ((r.cl1 many).fresh.ex1 (r.is wInterface)) = (((r.cl1 many).fresh.step.freshV, []), (r.cl1 many).fresh.step.fresh) := by unfold Rs.ex1; rw [if_pos h1, if_neg (by rw [h2]; decide)]
          have hE : ((r.cl1 many).fresh.take wExtends).fresh = ((r.cl1 many).fresh.ex1 (r.is wInterface)).2 := by rw [e, hst]
          refine ⟨by kernel_rfl, ?_⟩
          refine ⟨((r.cl1 many).fresh.take wExtends, ()), ⟨.refl _, trivial⟩, ⟨⟨rfl, .refl _, .refl _, .refl _, .refl _, .refl _, trivial⟩, trivial⟩, ⟨fs, trivial⟩, ?_⟩
          exact ⟨(), trivial, ⟨rfl, rfl⟩, .refl _, .refl _, .refl _, ⟨.refl _, .refl _, .str (by rw [e, hst]), (show Sub _ (.row ByteArray 1 strC noS ((r.cl1 many).fresh.ex1 (r.is wInterface)).1.2) by rw [e]; exact .nil ..), .refl _, .refl _, trivial⟩, ⟨.refl _, .refl _, .refl _, .refl _, .refl _, .refl _, trivial⟩, ⟨.rowEq (rL hE :), .int (rI hE :), .int (rN hE :), .int (rA hE :), .int (rE hE :), trivial⟩, trivial⟩
      · have h1 : (r.cl1 many).fresh.is wExtends = false := h1
        have e : ((r.cl1 many).fresh.ex1 (r.is wInterface)) = ((noS, []), (r.cl1 many).fresh) := by unfold Rs.ex1; rw [if_neg (by rw [h1]; decide)]
        have hE : (r.cl1 many).fresh.take wExtends = ((r.cl1 many).fresh.ex1 (r.is wInterface)).2 := by rw [e, take_no h1]
        exact ⟨(), trivial, ⟨rfl, rfl⟩, .refl _, .refl _, .refl _, ⟨.refl _, .refl _, .str (by rw [e]), (show Sub _ (.row ByteArray 1 strC noS ((r.cl1 many).fresh.ex1 (r.is wInterface)).1.2) by rw [e]; exact .nil ..), .refl _, .refl _, trivial⟩, ⟨.refl _, .refl _, .refl _, .refl _, .refl _, .refl _, trivial⟩, ⟨.rowEq (rL hE :), .int (rI hE :), .int (rN hE :), .int (rA hE :), .int (rE hE :), trivial⟩, trivial⟩
    refine ⟨Unit, fun _ => [(0, .box 1000 0), (4, .box 4 0), (5, .box 5 0)], fun _ => [(1000, rsC (((r.cl1 many).fresh.ex1 (r.is wInterface)).2.ex2 (r.is wInterface) ((r.cl1 many).fresh.ex1 (r.is wInterface)).1.2).2), (4, [S noS, B false, S noS, .val (.slice none 0 0), .val (.slice none 0 0), .val (.slice none 0 0)]), (5, [S ((r.cl1 many).freshV), B (r.is wInterface), S (((r.cl1 many).fresh.ex1 (r.is wInterface)).1.1), .row ByteArray 1 strC noS (((r.cl1 many).fresh.ex1 (r.is wInterface)).2.ex2 (r.is wInterface) ((r.cl1 many).fresh.ex1 (r.is wInterface)).1.2).1, .val (.slice none 0 0), .val (.slice none 0 0)])], fun _ => True, ?_, fun _ _ => ?_⟩
    · have none : (r.is wInterface = true ∨ ((r.cl1 many).fresh.ex1 (r.is wInterface)).2.is wImplements = false) → (((r.cl1 many).fresh.ex1 (r.is wInterface)).2.ex2 (r.is wInterface) ((r.cl1 many).fresh.ex1 (r.is wInterface)).1.2) = (((r.cl1 many).fresh.ex1 (r.is wInterface)).1.2, ((r.cl1 many).fresh.ex1 (r.is wInterface)).2) := fun h => by
        unfold Rs.ex2
        rcases h with h | h
        · rw [if_neg (by rw [h]; simp)]
        · rw [if_neg (by rw [h]; simp)]
      refine ⟨fun h1 => ?_, fun h1 => ?_⟩
      · have h1 : r.is wInterface = false := notT h1
        refine ⟨by kernel_rfl, ?_⟩
        refine ⟨(((r.cl1 many).fresh.ex1 (r.is wInterface)).2, wImplements), ⟨.refl _, .str rfl, trivial⟩, ⟨⟨rfl, .refl _, .refl _, .refl _, .refl _, .refl _, trivial⟩, trivial⟩, ⟨rok_fwd hr f3, trivial⟩, ?_⟩
        refine ⟨fun h2 => ?_, fun h2 => ?_⟩
        · have h2 : ((r.cl1 many).fresh.ex1 (r.is wInterface)).2.is wImplements = true := h2
          have hst := take_yes h2
          have e : (((r.cl1 many).fresh.ex1 (r.is wInterface)).2.ex2 (r.is wInterface) ((r.cl1 many).fresh.ex1 (r.is wInterface)).1.2) = ((r.cl1 many).fresh.ex1 (r.is wInterface)).2.step.names := by unfold Rs.ex2; rw [if_pos (by rw [Bool.and_eq_true]; exact ⟨by rw [h1]; rfl, h2⟩)]
          have hE : (((r.cl1 many).fresh.ex1 (r.is wInterface)).2.take wImplements).names.2 = (((r.cl1 many).fresh.ex1 (r.is wInterface)).2.ex2 (r.is wInterface) ((r.cl1 many).fresh.ex1 (r.is wInterface)).1.2).2 := by rw [e, hst]
          refine ⟨by kernel_rfl, ?_⟩
          refine ⟨(((r.cl1 many).fresh.ex1 (r.is wInterface)).2.take wImplements, ()), ⟨.refl _, trivial⟩, ⟨⟨rfl, .refl _, .refl _, .refl _, .refl _, .refl _, trivial⟩, trivial⟩, ⟨rok_fwd hr (f3.trans (Rs.take_fwd _ _)), trivial⟩, ?_⟩
          exact ⟨(), trivial, ⟨rfl, rfl⟩, .refl _, .refl _, .refl _, ⟨.refl _, .refl _, .refl _, .ownRow (by rw [e, hst]), .refl _, .refl _, trivial⟩, ⟨.refl _, .refl _, .refl _, .refl _, .refl _, .refl _, trivial⟩, ⟨.rowEq (rL hE :), .int (rI hE :), .int (rN hE :), .int (rA hE :), .int (rE hE :), trivial⟩, trivial⟩
        · have h2 : ((r.cl1 many).fresh.ex1 (r.is wInterface)).2.is wImplements = false := h2
          have hE : ((r.cl1 many).fresh.ex1 (r.is wInterface)).2.take wImplements = (((r.cl1 many).fresh.ex1 (r.is wInterface)).2.ex2 (r.is wInterface) ((r.cl1 many).fresh.ex1 (r.is wInterface)).1.2).2 := by rw [none (.inr h2), take_no h2]
          exact ⟨(), trivial, ⟨rfl, rfl⟩, .refl _, .refl _, .refl _, ⟨.refl _, .refl _, .refl _, .rowEq (by rw [none (.inr h2)]), .refl _, .refl _, trivial⟩, ⟨.refl _, .refl _, .refl _, .refl _, .refl _, .refl _, trivial⟩, ⟨.rowEq (rL hE :), .int (rI hE :), .int (rN hE :), .int (rA hE :), .int (rE hE :), trivial⟩, trivial⟩
      · have h1 : r.is wInterface = true := notF h1
        have hE : ((r.cl1 many).fresh.ex1 (r.is wInterface)).2 = (((r.cl1 many).fresh.ex1 (r.is wInterface)).2.ex2 (r.is wInterface) ((r.cl1 many).fresh.ex1 (r.is wInterface)).1.2).2 := by rw [none (.inl h1)]
        exact ⟨(), trivial, ⟨rfl, rfl⟩, .refl _, .refl _, .refl _, ⟨.refl _, .refl _, .refl _, .rowEq (by rw [none (.inl h1)]), .refl _, .refl _, trivial⟩, ⟨.refl _, .refl _, .refl _, .refl _, .refl _, .refl _, trivial⟩, ⟨.rowEq (rL hE :), .int (rI hE :), .int (rN hE :), .int (rA hE :), .int (rE hE :), trivial⟩, trivial⟩
    refine ⟨by kernel_rfl, ?_⟩
    refine ⟨((((r.cl1 many).fresh.ex1 (r.is wInterface)).2.ex2 (r.is wInterface) ((r.cl1 many).fresh.ex1 (r.is wInterface)).1.2).2, wLc), ⟨.refl _, .str rfl, trivial⟩, ⟨⟨rfl, .refl _, .refl _, .refl _, .refl _, .refl _, trivial⟩, trivial⟩, ⟨rok_fwd hr f4, trivial⟩, ?_⟩
    refine ⟨Nat × Rs × Cls, fun _ => [(0, .box 1000 0), (4, .box 4 0), (5, .box 5 0)], fun s => [(1000, rsC s.2.1), (4, [S noS, B false, S noS, .val (.slice none 0 0), .val (.slice none 0 0), .val (.slice none 0 0)]), (5, cPre s.2.2 6900060 7000060)],
      fun s => Rs.clsL s.1 s.2.1 s.2.2 = r.class' many ∧ s.2.1.need ≤ s.1 ∧ Fwd r s.2.1 ∧ s.2.2.fields.length + s.2.2.methods.length + s.1 ≤ r.L.length + 2, fun s => s.1,
      ⟨(r.L.length + 2, r.clR many, r.clV many), ⟨rfl, (by have := need_le (r.clR many); rw [f5.L] at this; exact this), f5, (by show 0 + 0 + (r.L.length + 2) ≤ _; omega)⟩, ⟨⟨rfl, rfl⟩, .refl _, .refl _, .refl _, ⟨.refl _, .refl _, .refl _, .refl _, .nilO .., .nilO .., trivial⟩, ⟨.refl _, .refl _, .refl _, .refl _, .refl _, .refl _, trivial⟩, ⟨.refl _, .refl _, .refl _, .refl _, .refl _, trivial⟩, trivial⟩⟩, fun ((k, q, c) : Nat × Rs × Cls) hx => ?_⟩
    have hx1 : Rs.clsL k q c = r.class' many := hx.1
    have hx2 : q.need ≤ k := hx.2.1
    have hx3 : Fwd r q := hx.2.2.1
    have hx4 : c.fields.length + c.methods.length + k ≤ r.L.length + 2 := hx.2.2.2
    obtain ⟨k, rfl⟩ : ∃ k', k = k' + 1 := ⟨k - 1, by have := Rs.need_pos q; omega⟩
    have hq : rok q := rok_fwd hr hx3
    rw [Rs.clsL] at hx1
    refine ⟨fun h1 => ?_, fun h1 => ?_⟩
    · have h1 : q.e = 0 := eqT h1
      refine ⟨by kernel_rfl, ?_⟩
      refine ⟨(q, wRc), ⟨.refl _, .str rfl, trivial⟩, ⟨⟨rfl, .refl _, .refl _, .refl _, .refl _, .refl _, trivial⟩, trivial⟩, ⟨hq, trivial⟩, ?_⟩
      refine ⟨fun h2 => ?_, fun h2 => ?_⟩
      · have h2 : q.is wRc = false := notT h2
        rw [if_pos h1, if_neg (by rw [h2]; decide)] at hx1
        have hE : q.take wRc = q := take_no h2
        refine ⟨(q, c), ⟨.refl _, .refl _, trivial⟩, ⟨⟨rfl, .rowEq (rL hE :), .int (rI hE :), .int (rN hE :), .int (rA hE :), .int (rE hE :), trivial⟩, ⟨rfl, .refl _, .refl _, .refl _, .refl _, .refl _, .refl _, trivial⟩, trivial⟩, ⟨hq, (show c.fields.length ≤ 2000000 by omega), (show c.methods.length ≤ 2000000 by omega)⟩, ?_⟩
        have hf := Rs.member_fwd q c
        have hml := member_len q c
        have hn : q.need ≤ k + 1 := hx2
        have hlt : (q.member c).2.need < q.need ∨ ¬ q.i < q.L.length := by
          by_cases c0 : q.i < q.L.length
          · exact .inl (Rs.need_lt ⟨h1, c0⟩ hf (Rs.member_on q c))
          · exact .inr c0
        have hk2 : (q.member c).2.need ≤ k := by
          rcases hlt with hlt | hlt
          · omega
          · have h3 := Rs.member_on q c
            have h4 := hf.bd
            have h5 : (q.member c).2.e ≠ 0 := by
              rcases h3 with h3 | h3
              · exact h3
              · omega
            have h6 : 1 < q.need := by unfold Rs.need; rw [if_pos h1]; omega
            unfold Rs.need
            rw [if_neg h5]; omega
        exact ⟨(k, (q.member c).2, (q.member c).1), ⟨hx1, hk2, hx3.trans hf, (show (q.member c).1.fields.length + (q.member c).1.methods.length + k ≤ r.L.length + 2 by omega)⟩, Nat.lt_succ_self _, ⟨rfl, rfl⟩, .refl _, .refl _, .refl _, ⟨.refl _, .refl _, .refl _, .refl _, .refl _, .refl _, trivial⟩, ⟨.refl _, .refl _, .refl _, .refl _, .refl _, .refl _, trivial⟩, ⟨.refl _, .refl _, .refl _, .refl _, .refl _, trivial⟩, trivial⟩
      · have h2 : q.is wRc = true := notF h2
        rw [if_pos h1, if_pos h2] at hx1
        have hE : q.take wRc = (r.class' many).2 := by rw [take_yes h2, ← hx1]
        exact ⟨.agg6 (.str (by rw [← hx1])) (.bool (by rw [← hx1])) (.str (by rw [← hx1])) (.rowEq (by rw [← hx1])) (.ownRow (by rw [← hx1])) (.ownRow (by rw [← hx1])), ⟨rfl, .rowEq (rL hE :), .int (rI hE :), .int (rN hE :), .int (rA hE :), .int (rE hE :), trivial⟩, trivial⟩
    · have h1 : ¬ q.e = 0 := eqF h1
      rw [if_neg h1] at hx1
      have hE : q = (r.class' many).2 := by rw [← hx1]
      exact ⟨.agg6 (.str (by rw [← hx1])) (.bool (by rw [← hx1])) (.str (by rw [← hx1])) (.rowEq (by rw [← hx1])) (.ownRow (by rw [← hx1])) (.ownRow (by rw [← hx1])), ⟨rfl, .rowEq (rL hE :), .int (rI hE :), .int (rN hE :), .int (rA hE :), .int (rE hE :), trivial⟩, trivial⟩
def parseC : Ctr := { A := List UInt8, enc := fun l => [.row UInt8 1 byteC 0 l], dom := fun l => l.length ≤ 4611686018427387904, res := fun l _ => .tup [.agg [prgR (parseF l).1], I (parseF l).2.1, I (parseF l).2.2], gl := tabP }
theorem scan_count (l : List UInt8) : (scanF l).1.length ≤ 6000 := by
  unfold scanF
  split
  · simp
  · have hh : ∀ (f i : Nat) (l : List UInt8), (scanL f i l).1.length ≤ l.length := by
      intro f
      induction f with
      | zero => intro i l; cases l <;> simp [scanL]
      | succ f ih =>
        intro i l
        cases l with
        | nil => simp [scanL]
        | cons c r =>
          simp only [scanL]
          split
          · have := ih (i + 1) r; simp only [List.length_cons]; omega
          · split
            · rename_i h2
              have h3 := word_pos h2
              have := ih (i + wordF (c :: r)) ((c :: r).drop (wordF (c :: r)))
              simp only [List.length_cons, List.length_drop] at this ⊢
              omega
            · simp
    have h1 := hh l.length 0 l
    split <;> (dsimp only; first | exact Nat.zero_le _ | (show (scanL l.length 0 l).1.length ≤ 6000; omega))
set_option maxRecDepth 100000 in
set_option maxHeartbeats 4000000 in
theorem parse_ok : CtrSound Tryd.prog 16 parseC :=
  ctr_of_ax (env_okB tys_ok (eqs := []) trivial (cs := [(25, scanC)]) ⟨scan_ok, trivial⟩ (bs := [(34, classRC)]) ⟨classR_ok, trivial⟩ (qu := [2, 40]) (sq := [510058, 510062, 520002, 710022]) (gl := tabP)) mixed _ Tryd.func16 (by kernel_rfl) rfl (fun _ _ => Nat.le_of_ble_eq_true rfl) fun (l : List UInt8) id hd => by
    have hd : l.length ≤ 4611686018427387904 := hd
    have hsc := scan_count l
    have err : ∀ (a e : Int), parseF l = ([], a, e) → ∀ s : SV, Sub s (.agg [prgR []]) → Sub (.tup [s, I a, I e]) (.tup [.agg [prgR (parseF l).1], I (parseF l).2.1, I (parseF l).2.2]) := fun a e h s hs => by
      rw [h]; exact .tup3 hs (.refl _) (.refl _)
    refine ⟨l, ⟨.refl _, trivial⟩, rfl, hd, ?_⟩
    refine ⟨fun h => ?_, fun h => ?_⟩
    · have h : ((scanF l).2.2 != 0) = true := h
      have e : parseF l = ([], (scanF l).2.1, (scanF l).2.2) := by
        unfold parseF; rw [if_neg (by simpa using h)]
      exact ⟨err _ _ e _ (.agg _ _ rfl fun j hj => by match j, hj with | 0, _ => exact .nil ..), rfl⟩
    have h0 : (scanF l).2.2 = 0 := by
      have h : ((scanF l).2.2 != 0) = false := h
      simpa using h
    have hr : rok (parse0 l) := ⟨by show (scanF l).1.length ≤ 1000000; omega, Nat.zero_le _⟩
    refine ⟨Nat × Rs × List Cls, fun _ => [(2, .box 2 0), (6, .box 22 0)], fun s => [(2, [.own Cls 6 clsC cls0 s.2.2 48]), (22, rsC s.2.1)],
      fun s => Rs.prgL s.1 s.2.1 s.2.2 = (Rs.prgL ((scanF l).1.length + 2) (parse0 l) []) ∧ s.2.1.need ≤ s.1 ∧ Fwd (parse0 l) s.2.1 ∧ s.2.2.length + s.1 ≤ (scanF l).1.length + 2, fun s => s.1,
      ⟨((scanF l).1.length + 2, parse0 l, []), ⟨rfl, need_le (parse0 l), .refl _, (by show 0 + _ ≤ _; omega)⟩, ⟨⟨rfl, rfl⟩, .refl _, .refl _, ⟨.nilO .., trivial⟩, ⟨.own .., .refl _, .refl _, .refl _, .refl _, trivial⟩, trivial⟩⟩, fun ((k, q, out) : Nat × Rs × List Cls) hx => ?_⟩
    have hx1 : Rs.prgL k q out = (Rs.prgL ((scanF l).1.length + 2) (parse0 l) []) := hx.1
    have hx2 : q.need ≤ k := hx.2.1
    have hx3 : Fwd (parse0 l) q := hx.2.2.1
    have hx4 : out.length + k ≤ (scanF l).1.length + 2 := hx.2.2.2
    obtain ⟨k, rfl⟩ : ∃ k', k = k' + 1 := ⟨k - 1, by have := Rs.need_pos q; omega⟩
    have hq : rok q := rok_fwd hr hx3
    rw [Rs.prgL] at hx1
    refine ⟨by kernel_rfl, ?_⟩
    have fin : ¬ (q.e = 0 ∧ q.i < q.L.length) → (out, q) = (Rs.prgL ((scanF l).1.length + 2) (parse0 l) []) := fun h => by rw [if_neg h] at hx1; exact hx1
    refine ⟨fun h1 => ?_, fun h1 => ?_⟩
    · have h1 : q.e = 0 := eqT h1
      refine ⟨fun h2 => ?_, fun h2 => ?_⟩
      · have h2 : q.i < q.L.length := dlt h2
        rw [if_pos ⟨h1, h2⟩] at hx1
        refine ⟨by kernel_rfl, ?_⟩
        refine ⟨by kernel_rfl, ?_⟩
        refine ⟨(q, (out.length : Int)), ⟨.refl _, .refl _, trivial⟩, ⟨⟨rfl, .refl _, .refl _, .refl _, .refl _, .refl _, trivial⟩, trivial⟩, ⟨hq, trivial⟩, ?_⟩
        refine ⟨Cls, clsC, cls0, [(q.class' out.length).1], ⟨rfl, fun _ => rfl⟩, ⟨.refl _, .refl _, .refl _, .refl _, .refl _, .refl _, trivial⟩, rfl, ?_⟩
        refine ⟨Cls, clsC, cls0, out, [(q.class' out.length).1], 48, ⟨.refl _, .own ..⟩, fun _ => rfl, (by show (out.length + 1) * 112 ≤ 140737488355328; omega), ?_⟩
        have hf := Rs.class_fwd q out.length
        have := Rs.need_lt ⟨h1, h2⟩ hf (Rs.class_on q out.length)
        exact ⟨(k, (q.class' out.length).2, out ++ [(q.class' out.length).1]), ⟨hx1, (show (q.class' out.length).2.need ≤ k by omega), hx3.trans hf, (show (out ++ [(q.class' out.length).1]).length + k ≤ (scanF l).1.length + 2 by simp; omega)⟩, Nat.lt_succ_self _, ⟨rfl, rfl⟩, .refl _, .refl _, ⟨.refl _, trivial⟩, ⟨.refl _, .refl _, .refl _, .refl _, .refl _, trivial⟩, trivial⟩
      · have h2 : ¬ q.i < q.L.length := by
          have h2 : decide ((q.i : Int) < (q.L.length : Int)) = false := h2
          have := dge h2; omega
        have e1 := fin (fun c => h2 c.2)
        refine ⟨fun h3 => ?_, fun h3 => ?_⟩
        · have h3 : (q.e != 0) = true := h3
          rw [h1] at h3; simp at h3
        · have e : parseF l = (out, 0, 0) := by
            unfold parseF; rw [if_pos h0, if_pos (by rw [← e1]; exact h1), ← e1]
          exact ⟨(show Sub _ (.tup [.agg [prgR (parseF l).1], I (parseF l).2.1, I (parseF l).2.2]) by rw [e]; exact .tup3 (.agg _ _ rfl fun j hj => by match j, hj with | 0, _ => exact .own ..) (.refl _) (.refl _)), rfl⟩
    · have h1 : ¬ q.e = 0 := eqF h1
      have e1 := fin (fun c => h1 c.1)
      refine ⟨fun h3 => ?_, fun h3 => ?_⟩
      · have e : parseF l = ([], q.at', q.e) := by
          unfold parseF; rw [if_pos h0, if_neg (by rw [← e1]; exact h1), ← e1]
        refine ⟨by kernel_rfl, ?_⟩
        exact ⟨err _ _ e _ (.agg _ _ rfl fun j hj => by match j, hj with | 0, _ => exact .nil ..), rfl⟩
      · have h3 : (q.e != 0) = false := h3
        exact absurd (by simpa using h3) h1
end Go.Proofs.YtimhbimpaiiceaaDoor.Ax
