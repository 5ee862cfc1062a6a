/- Walks and laws, part 7: Gj Sh Gk Gn Gv Sr Ta Ha Hc Hd Tc Td Lw Gw. -/
import Derived.Test.YtadimoijlgmecaaGreatDoorPk6
import Derived.Test.YtadimoijlgmecaaGreatDoorRows
import Derived.Stop.LaidErr
import Derived.LaidSub
import Derived.LaidMore
import Derived.Stop.Joined
import Derived.MakeChecks
import Derived.Lib.LaidTab
/- Layer parse: classes, programs. -/
set_option linter.unusedVariables false
set_option linter.unusedSimpArgs false
namespace Go.Proofs.YtadimoijlgmecaaGreatDoor.Ax
open Go Go.RowKit
theorem Sub.agg6 {a b c d e f a' b' c' d' e' f' : SV} (h1 : Sub a a') (h2 : Sub b b') (h3 : Sub c c') (h4 : Sub d d') (h5 : Sub e e') (h6 : Sub f f') : Sub (.agg [a, b, c, d, e, f]) (.agg [a', b', c', d', e', f']) := .agg _ _ rfl fun j hj => by
  match j, hj with
  | 0, _ => exact h1
  | 1, _ => exact h2
  | 2, _ => exact h3
  | 3, _ => exact h4
  | 4, _ => exact h5
  | 5, _ => exact h6
def classRC : CtrB := rdC Int (fun n => [I n]) (fun r n _ => .agg (clsC (r.class' n).1)) (fun r n => (r.class' n).2) fun _ => True
theorem member_len (r : Rs) (c : Cls) : (r.member c).1.fields.length + (r.member c).1.methods.length ≤ c.fields.length + c.methods.length + 1 := by
  unfold Rs.member
  split
  · simp; omega
  · split
    · simp; omega
    · simp
set_option maxRecDepth 100000 in
set_option maxHeartbeats 8000000 in
theorem classR_ok : CtrBSound Tryz.prog 37 classRC :=
  ctrB_of_ax2 mixed _ Tryz.func37 (by kernel_rfl) rfl (fun _ _ => ⟨Nat.le_of_ble_eq_true rfl, Nat.le_of_ble_eq_true rfl⟩) fun ((r, many) : Rs × Int) id hd => by
    refine ⟨_, ⟨env_okB tys_ok (eqs := []) trivial (cs := [(62, isC)]) ⟨is_ok, trivial⟩ (bs := [(63, roomC), (64, wantC), (65, freshRC), (66, takeC), (67, nmsC), (68, memberRC)]) ⟨room_ok, want_ok, freshR_ok, take_ok, nms_ok, memberR_ok, trivial⟩ (vec := [60]) (cut := [4, 7, 12, 14]) (gl := tabP), fun _ h => h⟩, ?_⟩
    have hr : rok r := hd.1
    have hL : r.L.length ≤ 1000000 := hd.1.1
    have f1 : Fwd r (r.cl1 many) := Rs.cl1_fwd r many
    have f2 := f1.trans (Rs.fresh_fwd _)
    have f3 := f2.trans (Rs.ex1_fwd _ (r.is wInterface))
    have f4 := f3.trans (Rs.ex2_fwd _ (r.is wInterface) ((r.cl1 many).fresh.ex1 (r.is wInterface)).1.2)
    have f5 : Fwd r (r.clR many) := Rs.clR_fwd r many
    have f0 : Fwd r (if r.is wClass || r.is wInterface then r.room many 10 else r) := by
      split
      · exact Rs.room_fwd _ _ _
      · exact .refl _
    refine ⟨(r, wInterface), ⟨.refl _, .str rfl, trivial⟩, rfl, ⟨hr, trivial⟩, ?_⟩
    refine ⟨Unit, fun _ => [(0, .box 1000 0), (4, .box 4 0), (5, .box 5 0)], fun _ => [(1000, rsC (if r.is wClass || r.is wInterface then r.room many 10 else r)), (4, [S noS, B false, S noS, .val (.slice none 0 0), .val (.slice none 0 0), .val (.slice none 0 0)]), (5, [S (noS), B (r.is wInterface), S (noS), .val (.slice none 0 0), .val (.slice none 0 0), .val (.slice none 0 0)])], fun _ => True, ?_, fun _ _ => ?_⟩
    · refine ⟨(r, wClass), ⟨.refl _, .str rfl, trivial⟩, rfl, ⟨hr, trivial⟩, ?_⟩
      refine ⟨fun h1 => ?_, fun h1 => ?_⟩
      · have h1 : r.is wClass = true := h1
        have hE : r.room many 10 = (if r.is wClass || r.is wInterface then r.room many 10 else r) := (if_pos (by rw [h1]; rfl)).symm
        refine ⟨by kernel_rfl, ?_⟩
        refine ⟨(r, many, 10), ⟨.refl _, .refl _, .refl _, trivial⟩, ⟨⟨rfl, .refl _, .refl _, .refl _, .refl _, .refl _, trivial⟩, trivial⟩, ⟨hr, trivial⟩, ?_⟩
        exact ⟨(), trivial, ⟨rfl, rfl⟩, .refl _, .refl _, .refl _, ⟨.refl _, .refl _, .refl _, .refl _, .refl _, .refl _, trivial⟩, ⟨.refl _, .refl _, .refl _, .refl _, .refl _, .refl _, trivial⟩, ⟨.rowEq (rL hE :), .int (rI hE :), .int (rN hE :), .int (rA hE :), .int (rE hE :), trivial⟩, trivial⟩
      have h1 : r.is wClass = false := h1
      refine ⟨(r, wInterface), ⟨.refl _, .str rfl, trivial⟩, rfl, ⟨hr, trivial⟩, ?_⟩
      refine ⟨fun h2 => ?_, fun h2 => ?_⟩
      · have h2 : r.is wInterface = true := h2
        have hE : r.room many 10 = (if r.is wClass || r.is wInterface then r.room many 10 else r) := (if_pos (by rw [h1, h2]; rfl)).symm
        refine ⟨by kernel_rfl, ?_⟩
        refine ⟨(r, many, 10), ⟨.refl _, .refl _, .refl _, trivial⟩, ⟨⟨rfl, .refl _, .refl _, .refl _, .refl _, .refl _, trivial⟩, trivial⟩, ⟨hr, trivial⟩, ?_⟩
        exact ⟨(), trivial, ⟨rfl, rfl⟩, .refl _, .refl _, .refl _, ⟨.refl _, .refl _, .refl _, .refl _, .refl _, .refl _, trivial⟩, ⟨.refl _, .refl _, .refl _, .refl _, .refl _, .refl _, trivial⟩, ⟨.rowEq (rL hE :), .int (rI hE :), .int (rN hE :), .int (rA hE :), .int (rE hE :), trivial⟩, trivial⟩
      · have h2 : r.is wInterface = false := h2
        have hE : r = (if r.is wClass || r.is wInterface then r.room many 10 else r) := (if_neg (by rw [h1, h2]; decide)).symm
        exact ⟨(), trivial, ⟨rfl, rfl⟩, .refl _, .refl _, .refl _, ⟨.refl _, .refl _, .refl _, .refl _, .refl _, .refl _, trivial⟩, ⟨.refl _, .refl _, .refl _, .refl _, .refl _, .refl _, trivial⟩, ⟨.rowEq (rL hE :), .int (rI hE :), .int (rN hE :), .int (rA hE :), .int (rE hE :), trivial⟩, trivial⟩
    refine ⟨Unit, fun _ => [(0, .box 1000 0), (4, .box 4 0), (5, .box 5 0)], fun _ => [(1000, rsC (r.cl1 many)), (4, [S noS, B false, S noS, .val (.slice none 0 0), .val (.slice none 0 0), .val (.slice none 0 0)]), (5, [S (noS), B (r.is wInterface), S (noS), .val (.slice none 0 0), .val (.slice none 0 0), .val (.slice none 0 0)])], fun _ => True, ?_, fun _ _ => ?_⟩
    · refine ⟨fun h1 => ?_, fun h1 => ?_⟩
      · have h1 : r.is wInterface = true := h1
        have hE : (if r.is wClass || r.is wInterface then r.room many 10 else r).want wInterface = (r.cl1 many) := by unfold Rs.cl1; rw [if_pos (c := r.is wInterface = true) h1]
        refine ⟨by kernel_rfl, ?_⟩
        refine ⟨((if r.is wClass || r.is wInterface then r.room many 10 else r), wInterface), ⟨.refl _, .str rfl, trivial⟩, ⟨⟨rfl, .refl _, .refl _, .refl _, .refl _, .refl _, trivial⟩, trivial⟩, ⟨rok_fwd hr f0, trivial⟩, ?_⟩
        exact ⟨(), trivial, ⟨rfl, rfl⟩, .refl _, .refl _, .refl _, ⟨.refl _, .refl _, .refl _, .refl _, .refl _, .refl _, trivial⟩, ⟨.refl _, .refl _, .refl _, .refl _, .refl _, .refl _, trivial⟩, ⟨.rowEq (rL hE :), .int (rI hE :), .int (rN hE :), .int (rA hE :), .int (rE hE :), trivial⟩, trivial⟩
      · have h1 : r.is wInterface = false := h1
        have hE : (if r.is wClass || r.is wInterface then r.room many 10 else r).want wClass = (r.cl1 many) := by unfold Rs.cl1; rw [if_neg (c := r.is wInterface = true) (by rw [h1]; decide)]
        refine ⟨by kernel_rfl, ?_⟩
        refine ⟨((if r.is wClass || r.is wInterface then r.room many 10 else r), wClass), ⟨.refl _, .str rfl, trivial⟩, ⟨⟨rfl, .refl _, .refl _, .refl _, .refl _, .refl _, trivial⟩, trivial⟩, ⟨rok_fwd hr f0, trivial⟩, ?_⟩
        exact ⟨(), trivial, ⟨rfl, rfl⟩, .refl _, .refl _, .refl _, ⟨.refl _, .refl _, .refl _, .refl _, .refl _, .refl _, trivial⟩, ⟨.refl _, .refl _, .refl _, .refl _, .refl _, .refl _, trivial⟩, ⟨.rowEq (rL hE :), .int (rI hE :), .int (rN hE :), .int (rA hE :), .int (rE hE :), trivial⟩, trivial⟩
    refine ⟨by kernel_rfl, ?_⟩
    refine ⟨((r.cl1 many), ()), ⟨.refl _, trivial⟩, ⟨⟨rfl, .refl _, .refl _, .refl _, .refl _, .refl _, trivial⟩, trivial⟩, ⟨rok_fwd hr f1, trivial⟩, ?_⟩
    refine ⟨Unit, fun _ => [(0, .box 1000 0), (4, .box 4 0), (5, .box 5 0)], fun _ => [(1000, rsC ((r.cl1 many).fresh.ex1 (r.is wInterface)).2), (4, [S noS, B false, S noS, .val (.slice none 0 0), .val (.slice none 0 0), .val (.slice none 0 0)]), (5, [S ((r.cl1 many).freshV), B (r.is wInterface), S (((r.cl1 many).fresh.ex1 (r.is wInterface)).1.1), .row ByteArray 1 strC noS ((r.cl1 many).fresh.ex1 (r.is wInterface)).1.2, .val (.slice none 0 0), .val (.slice none 0 0)])], fun _ => True, ?_, fun _ _ => ?_⟩
    · refine ⟨by kernel_rfl, ?_⟩
      refine ⟨((r.cl1 many).fresh, wExtends), ⟨.refl _, .str rfl, trivial⟩, ⟨⟨rfl, .refl _, .refl _, .refl _, .refl _, .refl _, trivial⟩, trivial⟩, ⟨rok_fwd hr f2, trivial⟩, ?_⟩
      refine ⟨fun h1 => ?_, fun h1 => ?_⟩
      · have h1 : (r.cl1 many).fresh.is wExtends = true := h1
        have hst := take_yes h1
        have fs : rok ((r.cl1 many).fresh.take wExtends) := rok_fwd hr (f2.trans (Rs.take_fwd _ _))
        refine ⟨fun h2 => ?_, fun h2 => ?_⟩
        · have h2 : r.is wInterface = true := h2
          have e : ((r.cl1 many).fresh.ex1 (r.is wInterface)) = ((noS, (r.cl1 many).fresh.step.names.1), (r.cl1 many).fresh.step.names.2) := by unfold Rs.ex1; rw [if_pos h1, if_pos h2]
          have hE : ((r.cl1 many).fresh.take wExtends).names.2 = ((r.cl1 many).fresh.ex1 (r.is wInterface)).2 := by rw [e, hst]
          refine ⟨by kernel_rfl, ?_⟩
          refine ⟨((r.cl1 many).fresh.take wExtends, ()), ⟨.refl _, trivial⟩, ⟨⟨rfl, .refl _, .refl _, .refl _, .refl _, .refl _, trivial⟩, trivial⟩, ⟨fs, trivial⟩, ?_⟩
          exact ⟨(), trivial, ⟨rfl, rfl⟩, .refl _, .refl _, .refl _, ⟨.refl _, .refl _, .str (by rw [e]), .ownRow (by rw [e, hst]), .refl _, .refl _, trivial⟩, ⟨.refl _, .refl _, .refl _, .refl _, .refl _, .refl _, trivial⟩, ⟨.rowEq (rL hE :), .int (rI hE :), .int (rN hE :), .int (rA hE :), .int (rE hE :), trivial⟩, trivial⟩
        · have h2 : r.is wInterface = false := h2
          have e : ((r.cl1 many).fresh.ex1 (r.is wInterface)) = (((r.cl1 many).fresh.step.freshV, []), (r.cl1 many).fresh.step.fresh) := by unfold Rs.ex1; rw [if_pos h1, if_neg (by rw [h2]; decide)]
          have hE : ((r.cl1 many).fresh.take wExtends).fresh = ((r.cl1 many).fresh.ex1 (r.is wInterface)).2 := by rw [e, hst]
          refine ⟨by kernel_rfl, ?_⟩
          refine ⟨((r.cl1 many).fresh.take wExtends, ()), ⟨.refl _, trivial⟩, ⟨⟨rfl, .refl _, .refl _, .refl _, .refl _, .refl _, trivial⟩, trivial⟩, ⟨fs, trivial⟩, ?_⟩
          exact ⟨(), trivial, ⟨rfl, rfl⟩, .refl _, .refl _, .refl _, ⟨.refl _, .refl _, .str (by rw [e, hst]), (show Sub _ (.row ByteArray 1 strC noS ((r.cl1 many).fresh.ex1 (r.is wInterface)).1.2) by rw [e]; exact .nil ..), .refl _, .refl _, trivial⟩, ⟨.refl _, .refl _, .refl _, .refl _, .refl _, .refl _, trivial⟩, ⟨.rowEq (rL hE :), .int (rI hE :), .int (rN hE :), .int (rA hE :), .int (rE hE :), trivial⟩, trivial⟩
      · have h1 : (r.cl1 many).fresh.is wExtends = false := h1
        have e : ((r.cl1 many).fresh.ex1 (r.is wInterface)) = ((noS, []), (r.cl1 many).fresh) := by unfold Rs.ex1; rw [if_neg (by rw [h1]; decide)]
        have hE : (r.cl1 many).fresh.take wExtends = ((r.cl1 many).fresh.ex1 (r.is wInterface)).2 := by rw [e, take_no h1]
        exact ⟨(), trivial, ⟨rfl, rfl⟩, .refl _, .refl _, .refl _, ⟨.refl _, .refl _, .str (by rw [e]), (show Sub _ (.row ByteArray 1 strC noS ((r.cl1 many).fresh.ex1 (r.is wInterface)).1.2) by rw [e]; exact .nil ..), .refl _, .refl _, trivial⟩, ⟨.refl _, .refl _, .refl _, .refl _, .refl _, .refl _, trivial⟩, ⟨.rowEq (rL hE :), .int (rI hE :), .int (rN hE :), .int (rA hE :), .int (rE hE :), trivial⟩, trivial⟩
    refine ⟨Unit, fun _ => [(0, .box 1000 0), (4, .box 4 0), (5, .box 5 0)], fun _ => [(1000, rsC (((r.cl1 many).fresh.ex1 (r.is wInterface)).2.ex2 (r.is wInterface) ((r.cl1 many).fresh.ex1 (r.is wInterface)).1.2).2), (4, [S noS, B false, S noS, .val (.slice none 0 0), .val (.slice none 0 0), .val (.slice none 0 0)]), (5, [S ((r.cl1 many).freshV), B (r.is wInterface), S (((r.cl1 many).fresh.ex1 (r.is wInterface)).1.1), .row ByteArray 1 strC noS (((r.cl1 many).fresh.ex1 (r.is wInterface)).2.ex2 (r.is wInterface) ((r.cl1 many).fresh.ex1 (r.is wInterface)).1.2).1, .val (.slice none 0 0), .val (.slice none 0 0)])], fun _ => True, ?_, fun _ _ => ?_⟩
    · have none : (r.is wInterface = true ∨ ((r.cl1 many).fresh.ex1 (r.is wInterface)).2.is wImplements = false) → (((r.cl1 many).fresh.ex1 (r.is wInterface)).2.ex2 (r.is wInterface) ((r.cl1 many).fresh.ex1 (r.is wInterface)).1.2) = (((r.cl1 many).fresh.ex1 (r.is wInterface)).1.2, ((r.cl1 many).fresh.ex1 (r.is wInterface)).2) := fun h => by
        unfold Rs.ex2
        rcases h with h | h
        · rw [if_neg (by rw [h]; simp)]
        · rw [if_neg (by rw [h]; simp)]
      refine ⟨fun h1 => ?_, fun h1 => ?_⟩
      · have h1 : r.is wInterface = false := notT h1
        refine ⟨by kernel_rfl, ?_⟩
        refine ⟨(((r.cl1 many).fresh.ex1 (r.is wInterface)).2, wImplements), ⟨.refl _, .str rfl, trivial⟩, ⟨⟨rfl, .refl _, .refl _, .refl _, .refl _, .refl _, trivial⟩, trivial⟩, ⟨rok_fwd hr f3, trivial⟩, ?_⟩
        refine ⟨fun h2 => ?_, fun h2 => ?_⟩
        · have h2 : ((r.cl1 many).fresh.ex1 (r.is wInterface)).2.is wImplements = true := h2
          have hst := take_yes h2
          have e : (((r.cl1 many).fresh.ex1 (r.is wInterface)).2.ex2 (r.is wInterface) ((r.cl1 many).fresh.ex1 (r.is wInterface)).1.2) = ((r.cl1 many).fresh.ex1 (r.is wInterface)).2.step.names := by unfold Rs.ex2; rw [if_pos (by rw [Bool.and_eq_true]; exact ⟨by rw [h1]; rfl, h2⟩)]
          have hE : (((r.cl1 many).fresh.ex1 (r.is wInterface)).2.take wImplements).names.2 = (((r.cl1 many).fresh.ex1 (r.is wInterface)).2.ex2 (r.is wInterface) ((r.cl1 many).fresh.ex1 (r.is wInterface)).1.2).2 := by rw [e, hst]
          refine ⟨by kernel_rfl, ?_⟩
          refine ⟨(((r.cl1 many).fresh.ex1 (r.is wInterface)).2.take wImplements, ()), ⟨.refl _, trivial⟩, ⟨⟨rfl, .refl _, .refl _, .refl _, .refl _, .refl _, trivial⟩, trivial⟩, ⟨rok_fwd hr (f3.trans (Rs.take_fwd _ _)), trivial⟩, ?_⟩
          exact ⟨(), trivial, ⟨rfl, rfl⟩, .refl _, .refl _, .refl _, ⟨.refl _, .refl _, .refl _, .ownRow (by rw [e, hst]), .refl _, .refl _, trivial⟩, ⟨.refl _, .refl _, .refl _, .refl _, .refl _, .refl _, trivial⟩, ⟨.rowEq (rL hE :), .int (rI hE :), .int (rN hE :), .int (rA hE :), .int (rE hE :), trivial⟩, trivial⟩
        · have h2 : ((r.cl1 many).fresh.ex1 (r.is wInterface)).2.is wImplements = false := h2
          have hE : ((r.cl1 many).fresh.ex1 (r.is wInterface)).2.take wImplements = (((r.cl1 many).fresh.ex1 (r.is wInterface)).2.ex2 (r.is wInterface) ((r.cl1 many).fresh.ex1 (r.is wInterface)).1.2).2 := by rw [none (.inr h2), take_no h2]
          exact ⟨(), trivial, ⟨rfl, rfl⟩, .refl _, .refl _, .refl _, ⟨.refl _, .refl _, .refl _, .rowEq (by rw [none (.inr h2)]), .refl _, .refl _, trivial⟩, ⟨.refl _, .refl _, .refl _, .refl _, .refl _, .refl _, trivial⟩, ⟨.rowEq (rL hE :), .int (rI hE :), .int (rN hE :), .int (rA hE :), .int (rE hE :), trivial⟩, trivial⟩
      · have h1 : r.is wInterface = true := notF h1
        have hE : ((r.cl1 many).fresh.ex1 (r.is wInterface)).2 = (((r.cl1 many).fresh.ex1 (r.is wInterface)).2.ex2 (r.is wInterface) ((r.cl1 many).fresh.ex1 (r.is wInterface)).1.2).2 := by rw [none (.inl h1)]
        exact ⟨(), trivial, ⟨rfl, rfl⟩, .refl _, .refl _, .refl _, ⟨.refl _, .refl _, .refl _, .rowEq (by rw [none (.inl h1)]), .refl _, .refl _, trivial⟩, ⟨.refl _, .refl _, .refl _, .refl _, .refl _, .refl _, trivial⟩, ⟨.rowEq (rL hE :), .int (rI hE :), .int (rN hE :), .int (rA hE :), .int (rE hE :), trivial⟩, trivial⟩
    refine ⟨by kernel_rfl, ?_⟩
    refine ⟨((((r.cl1 many).fresh.ex1 (r.is wInterface)).2.ex2 (r.is wInterface) ((r.cl1 many).fresh.ex1 (r.is wInterface)).1.2).2, wLc), ⟨.refl _, .str rfl, trivial⟩, ⟨⟨rfl, .refl _, .refl _, .refl _, .refl _, .refl _, trivial⟩, trivial⟩, ⟨rok_fwd hr f4, trivial⟩, ?_⟩
    refine ⟨Nat × Rs × Cls, fun _ => [(0, .box 1000 0), (4, .box 4 0), (5, .box 5 0)], fun s => [(1000, rsC s.2.1), (4, [S noS, B false, S noS, .val (.slice none 0 0), .val (.slice none 0 0), .val (.slice none 0 0)]), (5, cPre s.2.2 6900060 7000060)],
      fun s => Rs.clsL s.1 s.2.1 s.2.2 = r.class' many ∧ s.2.1.need ≤ s.1 ∧ Fwd r s.2.1 ∧ s.2.2.fields.length + s.2.2.methods.length + s.1 ≤ r.L.length + 2, fun s => s.1,
      ⟨(r.L.length + 2, r.clR many, r.clV many), ⟨rfl, (by have := need_le (r.clR many); rw [f5.L] at this; exact this), f5, (by show 0 + 0 + (r.L.length + 2) ≤ _; omega)⟩, ⟨⟨rfl, rfl⟩, .refl _, .refl _, .refl _, ⟨.refl _, .refl _, .refl _, .refl _, .nilO .., .nilO .., trivial⟩, ⟨.refl _, .refl _, .refl _, .refl _, .refl _, .refl _, trivial⟩, ⟨.refl _, .refl _, .refl _, .refl _, .refl _, trivial⟩, trivial⟩⟩, fun ((k, q, c) : Nat × Rs × Cls) hx => ?_⟩
    have hx1 : Rs.clsL k q c = r.class' many := hx.1
    have hx2 : q.need ≤ k := hx.2.1
    have hx3 : Fwd r q := hx.2.2.1
    have hx4 : c.fields.length + c.methods.length + k ≤ r.L.length + 2 := hx.2.2.2
    obtain ⟨k, rfl⟩ : ∃ k', k = k' + 1 := ⟨k - 1, by have := Rs.need_pos q; omega⟩
    have hq : rok q := rok_fwd hr hx3
    rw [Rs.clsL] at hx1
    refine ⟨fun h1 => ?_, fun h1 => ?_⟩
    · have h1 : q.e = 0 := eqT h1
      refine ⟨by kernel_rfl, ?_⟩
      refine ⟨(q, wRc), ⟨.refl _, .str rfl, trivial⟩, ⟨⟨rfl, .refl _, .refl _, .refl _, .refl _, .refl _, trivial⟩, trivial⟩, ⟨hq, trivial⟩, ?_⟩
      refine ⟨fun h2 => ?_, fun h2 => ?_⟩
      · have h2 : q.is wRc = false := notT h2
        rw [if_pos h1, if_neg (by rw [h2]; decide)] at hx1
        have hE : q.take wRc = q := take_no h2
        refine ⟨(q, c), ⟨.refl _, .refl _, trivial⟩, ⟨⟨rfl, .rowEq (rL hE :), .int (rI hE :), .int (rN hE :), .int (rA hE :), .int (rE hE :), trivial⟩, ⟨rfl, .refl _, .refl _, .refl _, .refl _, .refl _, .refl _, trivial⟩, trivial⟩, ⟨hq, (show c.fields.length ≤ 2000000 by omega), (show c.methods.length ≤ 2000000 by omega)⟩, ?_⟩
        have hf := Rs.member_fwd q c
        have hml := member_len q c
        have hn : q.need ≤ k + 1 := hx2
        have hlt : (q.member c).2.need < q.need ∨ ¬ q.i < q.L.length := by
          by_cases c0 : q.i < q.L.length
          · exact .inl (Rs.need_lt ⟨h1, c0⟩ hf (Rs.member_on q c))
          · exact .inr c0
        have hk2 : (q.member c).2.need ≤ k := by
          rcases hlt with hlt | hlt
          · omega
          · have h3 := Rs.member_on q c
            have h4 := hf.bd
            have h5 : (q.member c).2.e ≠ 0 := by
              rcases h3 with h3 | h3
              · exact h3
              · omega
            have h6 : 1 < q.need := by unfold Rs.need; rw [if_pos h1]; omega
            unfold Rs.need
            rw [if_neg h5]; omega
        exact ⟨(k, (q.member c).2, (q.member c).1), ⟨hx1, hk2, hx3.trans hf, (show (q.member c).1.fields.length + (q.member c).1.methods.length + k ≤ r.L.length + 2 by omega)⟩, Nat.lt_succ_self _, ⟨rfl, rfl⟩, .refl _, .refl _, .refl _, ⟨.refl _, .refl _, .refl _, .refl _, .refl _, .refl _, trivial⟩, ⟨.refl _, .refl _, .refl _, .refl _, .refl _, .refl _, trivial⟩, ⟨.refl _, .refl _, .refl _, .refl _, .refl _, trivial⟩, trivial⟩
      · have h2 : q.is wRc = true := notF h2
        rw [if_pos h1, if_pos h2] at hx1
        have hE : q.take wRc = (r.class' many).2 := by rw [take_yes h2, ← hx1]
        exact ⟨.agg6 (.str (by rw [← hx1])) (.bool (by rw [← hx1])) (.str (by rw [← hx1])) (.rowEq (by rw [← hx1])) (.ownRow (by rw [← hx1])) (.ownRow (by rw [← hx1])), ⟨rfl, .rowEq (rL hE :), .int (rI hE :), .int (rN hE :), .int (rA hE :), .int (rE hE :), trivial⟩, trivial⟩
    · have h1 : ¬ q.e = 0 := eqF h1
      rw [if_neg h1] at hx1
      have hE : q = (r.class' many).2 := by rw [← hx1]
      exact ⟨.agg6 (.str (by rw [← hx1])) (.bool (by rw [← hx1])) (.str (by rw [← hx1])) (.rowEq (by rw [← hx1])) (.ownRow (by rw [← hx1])) (.ownRow (by rw [← hx1])), ⟨rfl, .rowEq (rL hE :), .int (rI hE :), .int (rN hE :), .int (rA hE :), .int (rE hE :), trivial⟩, trivial⟩
def parseC : Ctr := { A := List UInt8, enc := fun l => [.row UInt8 1 byteC 0 l], dom := fun l => l.length ≤ 4611686018427387904, res := fun l _ => .tup [.agg [prgR (parseF l).1], I (parseF l).2.1, I (parseF l).2.2], gl := tabP }
theorem scan_count (l : List UInt8) : (scanF l).1.length ≤ 6000 := by
  unfold scanF
  split
  · simp
  · have hh : ∀ (f i : Nat) (l : List UInt8), (scanL f i l).1.length ≤ l.length := by
      intro f
      induction f with
      | zero => intro i l; cases l <;> simp [scanL]
      | succ f ih =>
        intro i l
        cases l with
        | nil => simp [scanL]
        | cons c r =>
          simp only [scanL]
          split
          · have := ih (i + 1) r; simp only [List.length_cons]; omega
          · split
            · rename_i h2
              have h3 := word_pos h2
              have := ih (i + wordF (c :: r)) ((c :: r).drop (wordF (c :: r)))
              simp only [List.length_cons, List.length_drop] at this ⊢
              omega
            · simp
    have h1 := hh l.length 0 l
    split <;> (dsimp only; first | exact Nat.zero_le _ | (show (scanL l.length 0 l).1.length ≤ 6000; omega))
set_option maxRecDepth 100000 in
set_option maxHeartbeats 4000000 in
theorem parse_ok : CtrSound Tryz.prog 18 parseC :=
  ctr_of_ax (env_okB tys_ok (eqs := []) trivial (cs := [(36, scanC)]) ⟨scan_ok, trivial⟩ (bs := [(37, classRC)]) ⟨classR_ok, trivial⟩ (qu := [2, 40]) (sq := [510058, 510062, 520002, 710022]) (gl := tabP)) mixed _ Tryz.func18 (by kernel_rfl) rfl (fun _ _ => Nat.le_of_ble_eq_true rfl) fun (l : List UInt8) id hd => by
    have hd : l.length ≤ 4611686018427387904 := hd
    have hsc := scan_count l
    have err : ∀ (a e : Int), parseF l = ([], a, e) → ∀ s : SV, Sub s (.agg [prgR []]) → Sub (.tup [s, I a, I e]) (.tup [.agg [prgR (parseF l).1], I (parseF l).2.1, I (parseF l).2.2]) := fun a e h s hs => by
      rw [h]; exact .tup3 hs (.refl _) (.refl _)
    refine ⟨l, ⟨.refl _, trivial⟩, rfl, hd, ?_⟩
    refine ⟨fun h => ?_, fun h => ?_⟩
    · have h : ((scanF l).2.2 != 0) = true := h
      have e : parseF l = ([], (scanF l).2.1, (scanF l).2.2) := by
        unfold parseF; rw [if_neg (by simpa using h)]
      exact ⟨err _ _ e _ (.agg _ _ rfl fun j hj => by match j, hj with | 0, _ => exact .nil ..), rfl⟩
    have h0 : (scanF l).2.2 = 0 := by
      have h : ((scanF l).2.2 != 0) = false := h
      simpa using h
    have hr : rok (parse0 l) := ⟨by show (scanF l).1.length ≤ 1000000; omega, Nat.zero_le _⟩
    refine ⟨Nat × Rs × List Cls, fun _ => [(2, .box 2 0), (6, .box 22 0)], fun s => [(2, [.own Cls 6 clsC cls0 s.2.2 48]), (22, rsC s.2.1)],
      fun s => Rs.prgL s.1 s.2.1 s.2.2 = (Rs.prgL ((scanF l).1.length + 2) (parse0 l) []) ∧ s.2.1.need ≤ s.1 ∧ Fwd (parse0 l) s.2.1 ∧ s.2.2.length + s.1 ≤ (scanF l).1.length + 2, fun s => s.1,
      ⟨((scanF l).1.length + 2, parse0 l, []), ⟨rfl, need_le (parse0 l), .refl _, (by show 0 + _ ≤ _; omega)⟩, ⟨⟨rfl, rfl⟩, .refl _, .refl _, ⟨.nilO .., trivial⟩, ⟨.own .., .refl _, .refl _, .refl _, .refl _, trivial⟩, trivial⟩⟩, fun ((k, q, out) : Nat × Rs × List Cls) hx => ?_⟩
    have hx1 : Rs.prgL k q out = (Rs.prgL ((scanF l).1.length + 2) (parse0 l) []) := hx.1
    have hx2 : q.need ≤ k := hx.2.1
    have hx3 : Fwd (parse0 l) q := hx.2.2.1
    have hx4 : out.length + k ≤ (scanF l).1.length + 2 := hx.2.2.2
    obtain ⟨k, rfl⟩ : ∃ k', k = k' + 1 := ⟨k - 1, by have := Rs.need_pos q; omega⟩
    have hq : rok q := rok_fwd hr hx3
    rw [Rs.prgL] at hx1
    refine ⟨by kernel_rfl, ?_⟩
    have fin : ¬ (q.e = 0 ∧ q.i < q.L.length) → (out, q) = (Rs.prgL ((scanF l).1.length + 2) (parse0 l) []) := fun h => by rw [if_neg h] at hx1; exact hx1
    refine ⟨fun h1 => ?_, fun h1 => ?_⟩
    · have h1 : q.e = 0 := eqT h1
      refine ⟨fun h2 => ?_, fun h2 => ?_⟩
      · have h2 : q.i < q.L.length := dlt h2
        rw [if_pos ⟨h1, h2⟩] at hx1
        refine ⟨by kernel_rfl, ?_⟩
        refine ⟨by kernel_rfl, ?_⟩
        refine ⟨(q, (out.length : Int)), ⟨.refl _, .refl _, trivial⟩, ⟨⟨rfl, .refl _, .refl _, .refl _, .refl _, .refl _, trivial⟩, trivial⟩, ⟨hq, trivial⟩, ?_⟩
        refine ⟨Cls, clsC, cls0, [(q.class' out.length).1], ⟨rfl, fun _ => rfl⟩, ⟨.refl _, .refl _, .refl _, .refl _, .refl _, .refl _, trivial⟩, rfl, ?_⟩
        refine ⟨Cls, clsC, cls0, out, [(q.class' out.length).1], 48, ⟨.refl _, .own ..⟩, fun _ => rfl, (by show (out.length + 1) * 112 ≤ 140737488355328; omega), ?_⟩
        have hf := Rs.class_fwd q out.length
        have := Rs.need_lt ⟨h1, h2⟩ hf (Rs.class_on q out.length)
        exact ⟨(k, (q.class' out.length).2, out ++ [(q.class' out.length).1]), ⟨hx1, (show (q.class' out.length).2.need ≤ k by omega), hx3.trans hf, (show (out ++ [(q.class' out.length).1]).length + k ≤ (scanF l).1.length + 2 by simp; omega)⟩, Nat.lt_succ_self _, ⟨rfl, rfl⟩, .refl _, .refl _, ⟨.refl _, trivial⟩, ⟨.refl _, .refl _, .refl _, .refl _, .refl _, trivial⟩, trivial⟩
      · have h2 : ¬ q.i < q.L.length := by
          have h2 : decide ((q.i : Int) < (q.L.length : Int)) = false := h2
          have := dge h2; omega
        have e1 := fin (fun c => h2 c.2)
        refine ⟨fun h3 => ?_, fun h3 => ?_⟩
        · have h3 : (q.e != 0) = true := h3
          rw [h1] at h3; simp at h3
        · have e : parseF l = (out, 0, 0) := by
            unfold parseF; rw [if_pos h0, if_pos (by rw [← e1]; exact h1), ← e1]
          exact ⟨(show Sub _ (.tup [.agg [prgR (parseF l).1], I (parseF l).2.1, I (parseF l).2.2]) by rw [e]; exact .tup3 (.agg _ _ rfl fun j hj => by match j, hj with | 0, _ => exact .own ..) (.refl _) (.refl _)), rfl⟩
    · have h1 : ¬ q.e = 0 := eqF h1
      have e1 := fin (fun c => h1 c.1)
      refine ⟨fun h3 => ?_, fun h3 => ?_⟩
      · have e : parseF l = ([], q.at', q.e) := by
          unfold parseF; rw [if_pos h0, if_neg (by rw [← e1]; exact h1), ← e1]
        refine ⟨by kernel_rfl, ?_⟩
        exact ⟨err _ _ e _ (.agg _ _ rfl fun j hj => by match j, hj with | 0, _ => exact .nil ..), rfl⟩
      · have h3 : (q.e != 0) = false := h3
        exact absurd (by simpa using h3) h1
end Go.Proofs.YtadimoijlgmecaaGreatDoor.Ax
/- How the arguments of this seat's laws lie. -/
namespace Go.Proofs.YtadimoijlgmecaaGreatDoor.Ax
open Go Go.RowKit
abbrev sh9 : Shape := .str
abbrev sh3 : Shape := .int .i64
abbrev sh5 : Shape := .byte
theorem reads5 : Reads Tryz.prog 5 sh5 := Reads.byte Tryz.underlying5 (by kernel_rfl)
abbrev sh29 : Shape := sh5.row 1
theorem reads29 : Reads Tryz.prog 29 sh29 := Reads.row Tryz.underlying29 (by kernel_rfl) (by kernel_rfl) reads5 (by decide)
theorem laidOut : laidOutB Tryz.prog = true := by kernel_rfl
end Go.Proofs.YtadimoijlgmecaaGreatDoor.Ax
/- Layer parse: what each statement wakes; ParseWords. -/
set_option linter.unusedVariables false
set_option linter.unusedSimpArgs false
namespace Go.Proofs.YtadimoijlgmecaaGreatDoor.Ax
open Go Go.RowKit
def ParseWords : Ctr := { A := Int × Int, enc := fun x => [I x.1, I x.2], dom := fun _ => True, res := fun _ _ => .tt, gl := tabP }
theorem name_len {s : ByteArray} (h : nameF s.data.toList = true) : s.data.toList.length ≤ 20 := by
  obtain ⟨c, r, e, -, -, h4⟩ := name_form.1 h
  exact h4
end Go.Proofs.YtadimoijlgmecaaGreatDoor.Ax
/- Layer parse: words with blanks between them; ParseTypes. -/
set_option linter.unusedVariables false
set_option linter.unusedSimpArgs false
namespace Go.Proofs.YtadimoijlgmecaaGreatDoor.Ax
open Go Go.RowKit
/-! ### Words, a blank between them -/
/-! ### What the statement looks at -/
theorem ty_eq : EqSound Tryz.prog 26 (flatC Ty tyC) :=
  eq_flat [.int .i64, .str] _ tyC Tryz.underlying26 (by kernel_rfl) (by kernel_rfl) (by kernel_rfl) (fun _ => rfl)
theorem ty_dec (a b : Ty) : cellsEq (tyC a) (tyC b) = decide (a = b) := by
  obtain ⟨a1, a2⟩ := a
  obtain ⟨b1, b2⟩ := b
  rw [Bool.eq_iff_iff]
  simp [tyC, cellsEq, cellEq, ba_eq]
set_option maxRecDepth 100000 in
theorem kTypes_ok : CtrSound Tryz.prog 120 (keepR Ty 2 tyC ty0) :=
  ctr_of_ax (env_ok tys_ok (eqs := [(26, flatC Ty tyC)]) ⟨ty_eq, trivial⟩ (cs := []) trivial) mixed _ Tryz.func120 (by kernel_rfl) rfl (fun _ _ => Nat.le_of_ble_eq_true rfl) fun ((k, l) : List Ty × List Ty) id hd => by
    have hd : k.length ≤ 4611686018427387904 := hd
    have no : ¬ (k = l) → Sub .ff (B (decide (k = l))) := fun h => .bff (decide_eq_false h)
    refine ⟨fun h2 => ?_, fun h2 => ?_⟩
    · exact ⟨no fun q => lneT h2 (by rw [q]), rfl⟩
    have hl : k.length = l.length := lneF h2
    refine ⟨Nat, fun i => [(0, .row Ty 2 tyC ty0 k), (1, .row Ty 2 tyC ty0 l), (5, I i)], fun _ => [], fun i => i ≤ k.length ∧ ∀ j, j < i → k.getD j ty0 = l.getD j ty0, fun i => k.length - i,
      ⟨0, ⟨Nat.zero_le _, fun j hj => by omega⟩, ⟨⟨rfl, rfl⟩, .refl _, .refl _, .refl _, trivial⟩⟩, fun (i : Nat) hi => ?_⟩
    have hil := hi.1
    have hwj : IntKind.i64.wrap ((i : Int) + 1) = ((i + 1 : Nat) : Int) := by rw [wrap_eq _ (by omega) (by omega)]; omega
    refine ⟨fun h => ?_, fun h => ?_⟩
    · have hlt : i < k.length := dlt h
      refine ⟨by kernel_rfl, ?_⟩
      refine ⟨⟨by omega, by omega⟩, ⟨by omega, by omega⟩, ?_⟩
      refine ⟨k.getD i ty0, l.getD i ty0, ⟨.refl _, .refl _, trivial⟩, ⟨.refl _, .refl _, trivial⟩, fun h => ?_, fun h => ?_⟩
      · have h : (!cellsEq (tyC (k.getD i ty0)) (tyC (l.getD i ty0))) = true := h
        rw [ty_dec] at h
        exact ⟨no fun q => by rw [q] at h; simp at h, rfl⟩
      · have h : (!cellsEq (tyC (k.getD i ty0)) (tyC (l.getD i ty0))) = false := h
        rw [ty_dec] at h
        have he : k.getD i ty0 = l.getD i ty0 := by simpa using h
        exact ⟨i + 1, ⟨hlt, fun j hj => by rcases Nat.lt_succ_iff_lt_or_eq.1 hj with q | rfl; exact hi.2 j q; exact he⟩, by show k.length - (i + 1) < k.length - i; omega, ⟨rfl, rfl⟩, .refl _, .refl _, .int hwj, trivial⟩
    · have hge : i = k.length := Nat.le_antisymm hil (dge h)
      exact ⟨.btt (decide_eq_true (ext_getD ty0 hl fun j (hj : j < k.length) => hi.2 j (hge ▸ hj))), rfl⟩
/-! ### ParseTypes -/
def ParseTypes : Ctr := { A := Int × ByteArray, enc := fun x => [I x.1, S x.2], dom := fun x => sh3.ok x.1 ∧ sh9.ok x.2, res := fun _ _ => .tt, gl := tabP }
end Go.Proofs.YtadimoijlgmecaaGreatDoor.Ax
/- Layer parse: programs compared. -/
set_option linter.unusedVariables false
set_option linter.unusedSimpArgs false
namespace Go.Proofs.YtadimoijlgmecaaGreatDoor.Ax
open Go Go.RowKit
theorem eq_step {P : Program} (w : World) (d : Nat) (f : Go.Field) (fs : List Go.Field) (xs ys : Array Value) (a b : Value) (e r : Bool) (hn : f.name ≠ "_") (px : (part f.type xs f.offset).run P w = .ok a w) (py : (part f.type ys f.offset).run P w = .ok b w)
    (he : (Op.equalIn (d + 1) f.type a b).run P w = .ok e w) (ih : (Op.eqFields (d + 1) xs ys fs).run P w = .ok r w) : (Op.eqFields (d + 1) xs ys (f :: fs)).run P w = .ok (e && r) w := by
  simp only [Op.eqFields]
  rw [if_pos hn]
  simp only [Sem.run_bind, px, py, he, Result.andThen_ok, Sem.run_ite]
  cases e with
  | true => simp only [Bool.not_true, Bool.false_eq_true, if_false, Bool.true_and]; exact ih
  | false => simp
theorem part_flat {P : Program} (w : World) (f : Go.Field) {dd : TypeDesc} (hdd : P.underlying f.type = some dd) (hag : isAggD dd = false) (xs : Array Value) (lx : f.offset < xs.size) : (part f.type xs f.offset).run P w = .ok (xs.getD f.offset undef) w := by
  simp only [part, Sem.run_bind, run_isAgg hdd, hag, Result.andThen_ok]
  simp [Array.getD, lx]
theorem part_sub {P : Program} (w : World) (f : Go.Field) {gs : Array Go.Field} {i : TypeInfo} (hu : P.underlying f.type = some (.struct gs)) (hi : P.info? f.type = some i) (xs : Array Value) : (part f.type xs f.offset).run P w = .ok (.agg (xs.extract f.offset (f.offset + i.size))) w := by
  simp only [part, Sem.run_bind, run_isAgg hu, show isAggD (.struct gs) = true from rfl, Result.andThen_ok]
  rw [if_pos True.intro, Sem.run_bind, run_size hi]
  rfl
theorem fld_shape {P : Program} {t : Nat} {f0 f1 f2 : Go.Field} {gs : Array Go.Field} {i : TypeInfo} (hu : P.underlying t = some (.struct #[f0, f1, f2])) (hp : P.stoodInHeld t = false) (hm : P.eqGuardType P.depth t = false)
    (n0 : f0.name ≠ "_" ∧ f0.offset = 0 ∧ P.underlying f0.type = some .string) (n1 : f1.name ≠ "_" ∧ f1.offset = 1 ∧ P.underlying f1.type = some (.struct gs)) (n2 : f2.name ≠ "_" ∧ f2.offset = 3 ∧ P.underlying f2.type = some .bool)
    (hi : P.info? f1.type = some i) (hz : i.size = 2) (hp1 : P.stoodInHeld f1.type = false) (hk : flatB P 0 gs.toList [.int .i64, .str] = true) : EqSound P t (flatC Fld fldC) := by
  intro u v H β T xs ys w x y hx hy gx gy
  have hx : xs.size = 4 := hx
  have hy : ys.size = 4 := hy
  refine ⟨fun op => run_eqGuard_agg w op t x y xs ys hm, ?_⟩
  have hf : P.fieldsOf t = #[f0, f1, f2] := by unfold Program.fieldsOf; rw [hu]
  show (Op.equalIn (9999 + 1) t (.agg xs) (.agg ys)).run P w = _
  rw [run_equalIn_agg w 9999 t xs ys (by rw [hf]; exact hu) hp, hf]
  have gx0 : xs.getD 0 undef = .string u.name := gval (gx 0 (by show 0 < 4; omega))
  have gy0 : ys.getD 0 undef = .string v.name := gval (gy 0 (by show 0 < 4; omega))
  have gx1 : xs.getD 1 undef = .int .i64 u.type.1 := gval (gx 1 (by show 1 < 4; omega))
  have gy1 : ys.getD 1 undef = .int .i64 v.type.1 := gval (gy 1 (by show 1 < 4; omega))
  have gx2 : xs.getD 2 undef = .string u.type.2 := gval (gx 2 (by show 2 < 4; omega))
  have gy2 : ys.getD 2 undef = .string v.type.2 := gval (gy 2 (by show 2 < 4; omega))
  have gx3 : xs.getD 3 undef = .bool u.static := gval (gx 3 (by show 3 < 4; omega))
  have gy3 : ys.getD 3 undef = .bool v.static := gval (gy 3 (by show 3 < 4; omega))
  have e0 := eq_step w 9998 f0 [f1, f2] xs ys _ _ (u.name.toList == v.name.toList) (cellsEq (tyC u.type) (tyC v.type) && ((u.static == v.static) && true)) n0.1 (part_flat w f0 n0.2.2 rfl xs (by rw [n0.2.1]; omega)) (part_flat w f0 n0.2.2 rfl ys (by rw [n0.2.1]; omega))
    (by rw [n0.2.1, gx0, gy0]; exact run_equalIn_string w 9998 f0.type _ _ n0.2.2) ?_
  · show (Op.eqFields 9999 xs ys [f0, f1, f2]).run P w = _
    rw [e0]
    show Result.ok ((u.name.toList == v.name.toList) && (cellsEq (tyC u.type) (tyC v.type) && ((u.static == v.static) && true))) w = Result.ok (cellsEq (fldC u) (fldC v)) w
    simp [cellsEq, cellEq, fldC, tyC, Bool.and_assoc]
  · have sub : (Op.equalIn (9998 + 1) f1.type (.agg (xs.extract f1.offset (f1.offset + i.size))) (.agg (ys.extract f1.offset (f1.offset + i.size)))).run P w = .ok (cellsEq (tyC u.type) (tyC v.type)) w := by
      have hf1 : P.fieldsOf f1.type = gs := by unfold Program.fieldsOf; rw [n1.2.2]
      rw [run_equalIn_agg w 9998 f1.type _ _ (by rw [hf1]; exact n1.2.2) hp1, hf1, n1.2.1, hz]
      have q : ∀ (zs : Array Value) (a b : Value), zs.size = 4 → zs.getD 1 undef = a → zs.getD 2 undef = b → ∀ j, j < 2 → (zs.extract 1 (1 + 2)).getD j undef = if j = 0 then a else b := by
        intro zs a b hs h1 h2 j hj
        match j, hj with
        | 0, _ => rw [if_pos rfl, ← h1]; simp [Array.getD, hs]
        | 1, _ => rw [if_neg (by decide), ← h2]; simp [Array.getD, hs]
      refine run_eqFields (H := H) (β := β) (T := T) w 9997 (xs.extract 1 (1 + 2)) (ys.extract 1 (1 + 2)) gs.toList [.int .i64, .str] (tyC u.type) (tyC v.type) 0 hk rfl rfl ?_ ?_ (by simp [tyC, hx]) (by simp [tyC, hy])
      · intro j hj
        have hj : j < 2 := hj
        rw [Nat.zero_add, q xs _ _ hx gx1 gx2 j hj]
        match j, hj with
        | 0, _ => exact .val _
        | 1, _ => exact .val _
      · intro j hj
        have hj : j < 2 := hj
        rw [Nat.zero_add, q ys _ _ hy gy1 gy2 j hj]
        match j, hj with
        | 0, _ => exact .val _
        | 1, _ => exact .val _
    have e2 := eq_step w 9998 f2 [] xs ys _ _ (u.static == v.static) true n2.1 (part_flat w f2 n2.2.2 rfl xs (by rw [n2.2.1]; omega)) (part_flat w f2 n2.2.2 rfl ys (by rw [n2.2.1]; omega))
      (by rw [n2.2.1, gx3, gy3]; exact run_equalIn_bool w 9998 f2.type _ _ n2.2.2) (by simp [Op.eqFields])
    exact eq_step w 9998 f1 [f2] xs ys _ _ _ _ n1.1 (part_sub w f1 n1.2.2 hi xs) (part_sub w f1 n1.2.2 hi ys) sub e2
theorem fld_eq : EqSound Tryz.prog 49 (flatC Fld fldC) := by
  obtain ⟨i, hi, hz⟩ := Option.map_eq_some_iff.1 (show (Tryz.prog.info? 26).map (·.size) = some 2 by kernel_rfl)
  exact fld_shape Tryz.underlying49 (by kernel_rfl) (by kernel_rfl) ⟨by decide, rfl, Tryz.underlying9⟩ ⟨by decide, rfl, Tryz.underlying26⟩ ⟨by decide, rfl, Tryz.underlying4⟩ hi hz (by kernel_rfl) (by kernel_rfl)
theorem fld_dec (a b : Fld) : cellsEq (fldC a) (fldC b) = decide (a = b) := by
  obtain ⟨a1, ⟨a2, a3⟩, a4⟩ := a
  obtain ⟨b1, ⟨b2, b3⟩, b4⟩ := b
  rw [Bool.eq_iff_iff]
  simp [fldC, cellsEq, cellEq, ba_eq, and_assoc]
abbrev LB : Nat := 4611686018427387904
def mLen (m : Meth) : Prop := m.params.length ≤ LB ∧ m.code.length ≤ LB ∧ m.catches.length ≤ LB
def cLen (c : Cls) : Prop := c.ifaces.length ≤ LB ∧ c.fields.length ≤ LB ∧ c.methods.length ≤ LB ∧ ∀ m ∈ c.methods, mLen m
def pLen (p : List Cls) : Prop := p.length ≤ LB ∧ ∀ c ∈ p, cLen c
def kepC (T : Type) [DecidableEq T] (e : T → SV) (d : T → Prop) : Ctr := { A := T × T, enc := fun x => [e x.1, e x.2], dom := fun x => d x.1 ∧ d x.2, res := fun x _ => B (decide (x.1 = x.2)) }
theorem cat_eq : EqSound Tryz.prog 63 (flatC Cat catC) :=
  eq_flat [.str, .int .i64, .int .i64, .int .i64] _ catC Tryz.underlying63 (by kernel_rfl) (by kernel_rfl) (by kernel_rfl) (fun _ => rfl)
theorem cat_dec (a b : Cat) : cellsEq (catC a) (catC b) = decide (a = b) := by
  obtain ⟨a1, a2, a3, a4⟩ := a
  obtain ⟨b1, b2, b3, b4⟩ := b
  rw [Bool.eq_iff_iff]
  simp [catC, cellsEq, cellEq, ba_eq]
theorem kins_eq : EqSound Tryz.prog 56 (flatC Ins insC) :=
  eq_flat [.int .i64, .int .i64, .str, .str] _ insC Tryz.underlying56 (by kernel_rfl) (by kernel_rfl) (by kernel_rfl) (fun _ => rfl)
theorem kins_dec (a b : Ins) : cellsEq (insC a) (insC b) = decide (a = b) := by
  obtain ⟨a1, a2, a3, a4⟩ := a
  obtain ⟨b1, b2, b3, b4⟩ := b
  rw [Bool.eq_iff_iff]
  simp [insC, cellsEq, cellEq, ba_eq]
set_option maxRecDepth 100000 in
theorem kStrings_ok : CtrSound Tryz.prog 91 (keepR ByteArray 1 strC noS) :=
  ctr_of_ax (env_ok tys_ok (eqs := []) trivial (cs := []) trivial) mixed _ Tryz.func91 (by kernel_rfl) rfl (fun _ _ => Nat.le_of_ble_eq_true rfl) fun ((k, l) : List ByteArray × List ByteArray) id hd => by
    have hd : k.length ≤ 4611686018427387904 := hd
    have no : ¬ (k = l) → Sub .ff (B (decide (k = l))) := fun h => .bff (decide_eq_false h)
    refine ⟨fun h2 => ?_, fun h2 => ?_⟩
    · exact ⟨no fun q => lneT h2 (by rw [q]), rfl⟩
    have hl : k.length = l.length := lneF h2
    refine ⟨Nat, fun i => [(0, .row ByteArray 1 strC noS k), (1, .row ByteArray 1 strC noS l), (5, I i)], fun _ => [], fun i => i ≤ k.length ∧ ∀ j, j < i → k.getD j noS = l.getD j noS, fun i => k.length - i,
      ⟨0, ⟨Nat.zero_le _, fun j hj => by omega⟩, ⟨⟨rfl, rfl⟩, .refl _, .refl _, .refl _, trivial⟩⟩, fun (i : Nat) hi => ?_⟩
    have hil := hi.1
    have hwj : IntKind.i64.wrap ((i : Int) + 1) = ((i + 1 : Nat) : Int) := by rw [wrap_eq _ (by omega) (by omega)]; omega
    refine ⟨fun h => ?_, fun h => ?_⟩
    · have hlt : i < k.length := dlt h
      refine ⟨by kernel_rfl, ?_⟩
      refine ⟨⟨by omega, by omega⟩, ⟨by omega, by omega⟩, ?_⟩
      refine ⟨fun h => ?_, fun h => ?_⟩
      · have h : (!((k.getD i noS).toList == (l.getD i noS).toList)) = true := h
        exact ⟨no fun q => by rw [q] at h; simp at h, rfl⟩
      · have h : (!((k.getD i noS).toList == (l.getD i noS).toList)) = false := h
        have he : k.getD i noS = l.getD i noS := baT (notF h)
        exact ⟨i + 1, ⟨hlt, fun j hj => by rcases Nat.lt_succ_iff_lt_or_eq.1 hj with q | rfl; exact hi.2 j q; exact he⟩, by show k.length - (i + 1) < k.length - i; omega, ⟨rfl, rfl⟩, .refl _, .refl _, .int hwj, trivial⟩
    · have hge : i = k.length := Nat.le_antisymm hil (dge h)
      exact ⟨.btt (decide_eq_true (ext_getD noS hl fun j (hj : j < k.length) => hi.2 j (hge ▸ hj))), rfl⟩
set_option maxRecDepth 100000 in
set_option maxHeartbeats 4000000 in
theorem kMethod_ok : CtrSound Tryz.prog 92 (kepC Meth (fun m => .agg (methC m)) mLen) :=
  ctr_of_ax (env_ok tys_ok (eqs := [(26, flatC Ty tyC), (56, flatC Ins insC), (63, flatC Cat catC)]) ⟨ty_eq, kins_eq, cat_eq, trivial⟩ (cs := [(120, keepR Ty 2 tyC ty0)]) ⟨kTypes_ok, trivial⟩) mixed _ Tryz.func92 (by kernel_rfl) rfl (fun _ _ => Nat.le_of_ble_eq_true rfl) fun ((a, b) : Meth × Meth) id hd => by
    have hd1 : mLen a := hd.1
    obtain ⟨b1, b2, b3⟩ := hd1
    have no : ¬ (a = b) → Sub .ff (B (decide (a = b))) := fun h => .bff (decide_eq_false h)
    refine ⟨fun h => ?_, fun h => ?_⟩
    · have h : (!(a.name.toList == b.name.toList)) = true := h
      exact ⟨no fun q => by rw [q] at h; simp at h, rfl⟩
    have e_name : a.name = b.name := baT (notF h)
    refine ⟨fun h => ?_, fun h => ?_⟩
    · have h : (!(a.static == b.static)) = true := h
      exact ⟨no fun q => by rw [q] at h; simp at h, rfl⟩
    have e_static : a.static = b.static := by
      have h : (!(a.static == b.static)) = false := h
      simpa using h
    refine ⟨fun h => ?_, fun h => ?_⟩
    · have h : (!(a.abs == b.abs)) = true := h
      exact ⟨no fun q => by rw [q] at h; simp at h, rfl⟩
    have e_abs : a.abs = b.abs := by
      have h : (!(a.abs == b.abs)) = false := h
      simpa using h
    refine ⟨(a.params, b.params), ⟨.refl _, .refl _, trivial⟩, rfl, b1, ?_⟩
    refine ⟨fun h => ?_, fun h => ?_⟩
    · have h : (!decide (a.params = b.params)) = true := h
      exact ⟨no fun q => by rw [q] at h; simp at h, rfl⟩
    have e_params : a.params = b.params := by
      have h : (!decide (a.params = b.params)) = false := h
      simpa using h
    refine ⟨a.ret, b.ret, ⟨.refl _, .refl _, trivial⟩, ⟨.refl _, .refl _, trivial⟩, ?_⟩
    refine ⟨fun h => ?_, fun h => ?_⟩
    · have h : (!cellsEq (tyC a.ret) (tyC b.ret)) = true := h
      rw [ty_dec] at h
      exact ⟨no fun q => by rw [q] at h; simp at h, rfl⟩
    have e_ret : a.ret = b.ret := by
      have h : (!cellsEq (tyC a.ret) (tyC b.ret)) = false := h
      rw [ty_dec] at h
      simpa using h
    refine ⟨fun h => ?_, fun h => ?_⟩
    · have h : (a.locals != b.locals) = true := h
      exact ⟨no fun q => by rw [q] at h; simp at h, rfl⟩
    have e_locals : a.locals = b.locals := by
      have h : (a.locals != b.locals) = false := h
      simpa using h
    refine ⟨fun h => ?_, fun h => ?_⟩
    · have h : ((a.code.length : Int) != (b.code.length : Int)) = true := h
      exact ⟨no fun q => by rw [q] at h; simp at h, rfl⟩
    have l_code : a.code.length = b.code.length := lneF h
    refine ⟨fun h => ?_, fun h => ?_⟩
    · have h : ((a.catches.length : Int) != (b.catches.length : Int)) = true := h
      exact ⟨no fun q => by rw [q] at h; simp at h, rfl⟩
    have l_catches : a.catches.length = b.catches.length := lneF h
    have b2 : a.code.length ≤ 4611686018427387904 := b2
    have b3 : a.catches.length ≤ 4611686018427387904 := b3
    refine ⟨Nat, fun i => [(2, .box 2 0), (3, .box 3 0), (5, I i)], fun _ => [(2, methC a), (3, methC b)], fun i => i ≤ a.code.length ∧ ∀ j, j < i → a.code.getD j ins0 = b.code.getD j ins0, fun i => a.code.length - i,
      ⟨0, ⟨Nat.zero_le _, fun j hj => by omega⟩, ⟨⟨rfl, rfl⟩, .refl _, .refl _, .refl _, ⟨.refl _, .refl _, .refl _, .refl _, .refl _, .refl _, .refl _, .refl _, .refl _, trivial⟩, ⟨.refl _, .refl _, .refl _, .refl _, .refl _, .refl _, .refl _, .refl _, .refl _, trivial⟩, trivial⟩⟩, fun (i : Nat) hi => ?_⟩
    have hil : i ≤ a.code.length := hi.1
    have hwj : IntKind.i64.wrap ((i : Int) + 1) = ((i + 1 : Nat) : Int) := by rw [wrap_eq _ (by omega) (by omega)]; omega
    refine ⟨fun h => ?_, fun h => ?_⟩
    · have hlt : i < a.code.length := dlt h
      refine ⟨by kernel_rfl, ?_⟩
      refine ⟨(show 0 ≤ (i : Int) ∧ (i : Int) < (a.code.length : Int) by omega), (show 0 ≤ (i : Int) ∧ (i : Int) < (b.code.length : Int) by omega), ?_⟩
      refine ⟨a.code.getD i ins0, b.code.getD i ins0, ⟨.refl _, .refl _, .refl _, .refl _, trivial⟩, ⟨.refl _, .refl _, .refl _, .refl _, trivial⟩, ?_⟩
      refine ⟨fun h => ?_, fun h => ?_⟩
      · have h : (!cellsEq (insC (a.code.getD i ins0)) (insC (b.code.getD i ins0))) = true := h
        rw [kins_dec] at h
        exact ⟨no fun q => by rw [q] at h; simp at h, rfl⟩
      · have h : (!cellsEq (insC (a.code.getD i ins0)) (insC (b.code.getD i ins0))) = false := h
        rw [kins_dec] at h
        have he : a.code.getD i ins0 = b.code.getD i ins0 := by simpa using h
        exact ⟨i + 1, ⟨hlt, fun j hj => by rcases Nat.lt_succ_iff_lt_or_eq.1 hj with q | rfl; exact hi.2 j q; exact he⟩, (show a.code.length - (i + 1) < a.code.length - i by omega), ⟨rfl, rfl⟩, .refl _, .int hwj, .refl _, ⟨.refl _, .refl _, .refl _, .refl _, .refl _, .refl _, .refl _, .refl _, .refl _, trivial⟩, ⟨.refl _, .refl _, .refl _, .refl _, .refl _, .refl _, .refl _, .refl _, .refl _, trivial⟩, trivial⟩
    have e_code : a.code = b.code := by
      have hge : i = a.code.length := Nat.le_antisymm hil (dge h)
      exact ext_getD ins0 l_code fun j (hj : j < a.code.length) => hi.2 j (hge ▸ hj)
    clear hi hil hwj h
    refine ⟨Nat, fun i => [(2, .box 2 0), (3, .box 3 0), (6, I i)], fun _ => [(2, methC a), (3, methC b)], fun i => i ≤ a.catches.length ∧ ∀ j, j < i → a.catches.getD j cat0 = b.catches.getD j cat0, fun i => a.catches.length - i,
      ⟨0, ⟨Nat.zero_le _, fun j hj => by omega⟩, ⟨⟨rfl, rfl⟩, .refl _, .refl _, .refl _, ⟨.refl _, .refl _, .refl _, .refl _, .refl _, .refl _, .refl _, .refl _, .refl _, trivial⟩, ⟨.refl _, .refl _, .refl _, .refl _, .refl _, .refl _, .refl _, .refl _, .refl _, trivial⟩, trivial⟩⟩, fun (i : Nat) hi => ?_⟩
    have hil : i ≤ a.catches.length := hi.1
    have hwj : IntKind.i64.wrap ((i : Int) + 1) = ((i + 1 : Nat) : Int) := by rw [wrap_eq _ (by omega) (by omega)]; omega
    refine ⟨fun h => ?_, fun h => ?_⟩
    · have hlt : i < a.catches.length := dlt h
      refine ⟨by kernel_rfl, ?_⟩
      refine ⟨(show 0 ≤ (i : Int) ∧ (i : Int) < (a.catches.length : Int) by omega), (show 0 ≤ (i : Int) ∧ (i : Int) < (b.catches.length : Int) by omega), ?_⟩
      refine ⟨a.catches.getD i cat0, b.catches.getD i cat0, ⟨.refl _, .refl _, .refl _, .refl _, trivial⟩, ⟨.refl _, .refl _, .refl _, .refl _, trivial⟩, ?_⟩
      refine ⟨fun h => ?_, fun h => ?_⟩
      · have h : (!cellsEq (catC (a.catches.getD i cat0)) (catC (b.catches.getD i cat0))) = true := h
        rw [cat_dec] at h
        exact ⟨no fun q => by rw [q] at h; simp at h, rfl⟩
      · have h : (!cellsEq (catC (a.catches.getD i cat0)) (catC (b.catches.getD i cat0))) = false := h
        rw [cat_dec] at h
        have he : a.catches.getD i cat0 = b.catches.getD i cat0 := by simpa using h
        exact ⟨i + 1, ⟨hlt, fun j hj => by rcases Nat.lt_succ_iff_lt_or_eq.1 hj with q | rfl; exact hi.2 j q; exact he⟩, (show a.catches.length - (i + 1) < a.catches.length - i by omega), ⟨rfl, rfl⟩, .refl _, .refl _, .int hwj, ⟨.refl _, .refl _, .refl _, .refl _, .refl _, .refl _, .refl _, .refl _, .refl _, trivial⟩, ⟨.refl _, .refl _, .refl _, .refl _, .refl _, .refl _, .refl _, .refl _, .refl _, trivial⟩, trivial⟩
    have e_catches : a.catches = b.catches := by
      have hge : i = a.catches.length := Nat.le_antisymm hil (dge h)
      exact ext_getD cat0 l_catches fun j (hj : j < a.catches.length) => hi.2 j (hge ▸ hj)
    clear hi hil hwj h
    exact ⟨.btt (decide_eq_true (by cases a; cases b; simp_all)), rfl⟩
set_option maxRecDepth 100000 in
set_option maxHeartbeats 4000000 in
theorem kClass_ok : CtrSound Tryz.prog 55 (kepC Cls (fun c => .agg (clsC c)) cLen) :=
  ctr_of_ax (env_ok tys_ok (eqs := [(49, flatC Fld fldC)]) ⟨fld_eq, trivial⟩ (cs := [(91, keepR ByteArray 1 strC noS), (92, kepC Meth (fun m => .agg (methC m)) mLen)]) ⟨kStrings_ok, kMethod_ok, trivial⟩) mixed _ Tryz.func55 (by kernel_rfl) rfl (fun _ _ => Nat.le_of_ble_eq_true rfl) fun ((a, b) : Cls × Cls) id hd => by
    have hd1 : cLen a := hd.1
    have hd2 : cLen b := hd.2
    obtain ⟨b1, b2, b3, b4⟩ := hd1
    have no : ¬ (a = b) → Sub .ff (B (decide (a = b))) := fun h => .bff (decide_eq_false h)
    refine ⟨fun h => ?_, fun h => ?_⟩
    · have h : (!(a.name.toList == b.name.toList)) = true := h
      exact ⟨no fun q => by rw [q] at h; simp at h, rfl⟩
    have e_name : a.name = b.name := baT (notF h)
    refine ⟨fun h => ?_, fun h => ?_⟩
    · have h : (!(a.iface == b.iface)) = true := h
      exact ⟨no fun q => by rw [q] at h; simp at h, rfl⟩
    have e_iface : a.iface = b.iface := by
      have h : (!(a.iface == b.iface)) = false := h
      simpa using h
    refine ⟨fun h => ?_, fun h => ?_⟩
    · have h : (!(a.super.toList == b.super.toList)) = true := h
      exact ⟨no fun q => by rw [q] at h; simp at h, rfl⟩
    have e_super : a.super = b.super := baT (notF h)
    refine ⟨(a.ifaces, b.ifaces), ⟨.refl _, .refl _, trivial⟩, rfl, b1, ?_⟩
    refine ⟨fun h => ?_, fun h => ?_⟩
    · have h : (!decide (a.ifaces = b.ifaces)) = true := h
      exact ⟨no fun q => by rw [q] at h; simp at h, rfl⟩
    have e_ifaces : a.ifaces = b.ifaces := by
      have h : (!decide (a.ifaces = b.ifaces)) = false := h
      simpa using h
    refine ⟨fun h => ?_, fun h => ?_⟩
    · have h : ((a.fields.length : Int) != (b.fields.length : Int)) = true := h
      exact ⟨no fun q => by rw [q] at h; simp at h, rfl⟩
    have l_fields : a.fields.length = b.fields.length := lneF h
    refine ⟨fun h => ?_, fun h => ?_⟩
    · have h : ((a.methods.length : Int) != (b.methods.length : Int)) = true := h
      exact ⟨no fun q => by rw [q] at h; simp at h, rfl⟩
    have l_methods : a.methods.length = b.methods.length := lneF h
    have b2 : a.fields.length ≤ 4611686018427387904 := b2
    have b3 : a.methods.length ≤ 4611686018427387904 := b3
    refine ⟨Nat, fun i => [(2, .box 2 0), (3, .box 3 0), (5, I i)], fun _ => [(2, clsC a), (3, clsC b)], fun i => i ≤ a.fields.length ∧ ∀ j, j < i → a.fields.getD j fld0 = b.fields.getD j fld0, fun i => a.fields.length - i,
      ⟨0, ⟨Nat.zero_le _, fun j hj => by omega⟩, ⟨⟨rfl, rfl⟩, .refl _, .refl _, .refl _, ⟨.refl _, .refl _, .refl _, .refl _, .refl _, .refl _, trivial⟩, ⟨.refl _, .refl _, .refl _, .refl _, .refl _, .refl _, trivial⟩, trivial⟩⟩, fun (i : Nat) hi => ?_⟩
    have hil : i ≤ a.fields.length := hi.1
    have hwj : IntKind.i64.wrap ((i : Int) + 1) = ((i + 1 : Nat) : Int) := by rw [wrap_eq _ (by omega) (by omega)]; omega
    refine ⟨fun h => ?_, fun h => ?_⟩
    · have hlt : i < a.fields.length := dlt h
      refine ⟨by kernel_rfl, ?_⟩
      refine ⟨(show 0 ≤ (i : Int) ∧ (i : Int) < (a.fields.length : Int) by omega), (show 0 ≤ (i : Int) ∧ (i : Int) < (b.fields.length : Int) by omega), ?_⟩
      refine ⟨a.fields.getD i fld0, b.fields.getD i fld0, ⟨.refl _, .refl _, .refl _, .refl _, trivial⟩, ⟨.refl _, .refl _, .refl _, .refl _, trivial⟩, ?_⟩
      refine ⟨fun h => ?_, fun h => ?_⟩
      · have h : (!cellsEq (fldC (a.fields.getD i fld0)) (fldC (b.fields.getD i fld0))) = true := h
        rw [fld_dec] at h
        exact ⟨no fun q => by rw [q] at h; simp at h, rfl⟩
      · have h : (!cellsEq (fldC (a.fields.getD i fld0)) (fldC (b.fields.getD i fld0))) = false := h
        rw [fld_dec] at h
        have he : a.fields.getD i fld0 = b.fields.getD i fld0 := by simpa using h
        exact ⟨i + 1, ⟨hlt, fun j hj => by rcases Nat.lt_succ_iff_lt_or_eq.1 hj with q | rfl; exact hi.2 j q; exact he⟩, (show a.fields.length - (i + 1) < a.fields.length - i by omega), ⟨rfl, rfl⟩, .refl _, .int hwj, .refl _, ⟨.refl _, .refl _, .refl _, .refl _, .refl _, .refl _, trivial⟩, ⟨.refl _, .refl _, .refl _, .refl _, .refl _, .refl _, trivial⟩, trivial⟩
    have e_fields : a.fields = b.fields := by
      have hge : i = a.fields.length := Nat.le_antisymm hil (dge h)
      exact ext_getD fld0 l_fields fun j (hj : j < a.fields.length) => hi.2 j (hge ▸ hj)
    clear hi hil hwj h
    refine ⟨Nat, fun i => [(2, .box 2 0), (3, .box 3 0), (6, I i)], fun _ => [(2, clsC a), (3, clsC b)], fun i => i ≤ a.methods.length ∧ ∀ j, j < i → a.methods.getD j meth0 = b.methods.getD j meth0, fun i => a.methods.length - i,
      ⟨0, ⟨Nat.zero_le _, fun j hj => by omega⟩, ⟨⟨rfl, rfl⟩, .refl _, .refl _, .refl _, ⟨.refl _, .refl _, .refl _, .refl _, .refl _, .refl _, trivial⟩, ⟨.refl _, .refl _, .refl _, .refl _, .refl _, .refl _, trivial⟩, trivial⟩⟩, fun (i : Nat) hi => ?_⟩
    have hil : i ≤ a.methods.length := hi.1
    have hwj : IntKind.i64.wrap ((i : Int) + 1) = ((i + 1 : Nat) : Int) := by rw [wrap_eq _ (by omega) (by omega)]; omega
    refine ⟨fun h => ?_, fun h => ?_⟩
    · have hlt : i < a.methods.length := dlt h
      refine ⟨by kernel_rfl, ?_⟩
      refine ⟨(show 0 ≤ (i : Int) ∧ (i : Int) < (a.methods.length : Int) by omega), (show 0 ≤ (i : Int) ∧ (i : Int) < (b.methods.length : Int) by omega), ?_⟩
      refine ⟨(a.methods.getD i meth0, b.methods.getD i meth0), ⟨.refl _, .refl _, trivial⟩, rfl, ⟨b4 _ (getT_mem _ _ _ hlt), hd2.2.2.2 _ (getT_mem _ _ _ (l_methods ▸ hlt))⟩, ?_⟩
      refine ⟨fun h => ?_, fun h => ?_⟩
      · have h : (!decide ((a.methods.getD i meth0) = (b.methods.getD i meth0))) = true := h
        skip
        exact ⟨no fun q => by rw [q] at h; simp at h, rfl⟩
      · have h : (!decide ((a.methods.getD i meth0) = (b.methods.getD i meth0))) = false := h
        skip
        have he : a.methods.getD i meth0 = b.methods.getD i meth0 := by simpa using h
        exact ⟨i + 1, ⟨hlt, fun j hj => by rcases Nat.lt_succ_iff_lt_or_eq.1 hj with q | rfl; exact hi.2 j q; exact he⟩, (show a.methods.length - (i + 1) < a.methods.length - i by omega), ⟨rfl, rfl⟩, .refl _, .refl _, .int hwj, ⟨.refl _, .refl _, .refl _, .refl _, .refl _, .refl _, trivial⟩, ⟨.refl _, .refl _, .refl _, .refl _, .refl _, .refl _, trivial⟩, trivial⟩
    have e_methods : a.methods = b.methods := by
      have hge : i = a.methods.length := Nat.le_antisymm hil (dge h)
      exact ext_getD meth0 l_methods fun j (hj : j < a.methods.length) => hi.2 j (hge ▸ hj)
    clear hi hil hwj h
    exact ⟨.btt (decide_eq_true (by cases a; cases b; simp_all)), rfl⟩
def kRow : Ctr := { A := List Cls × List Cls, enc := fun x => [prgR x.1, prgR x.2], dom := fun x => pLen x.1 ∧ pLen x.2, res := fun x _ => B (decide (x.1 = x.2)) }
set_option maxRecDepth 100000 in
theorem kClasses_ok : CtrSound Tryz.prog 33 kRow :=
  ctr_of_ax (env_ok tys_ok (eqs := []) trivial (cs := [(55, kepC Cls (fun c => .agg (clsC c)) cLen)]) ⟨kClass_ok, trivial⟩) mixed _ Tryz.func33 (by kernel_rfl) rfl (fun _ _ => Nat.le_of_ble_eq_true rfl) fun ((k, l) : List Cls × List Cls) id hd => by
    have hd0 : pLen k := hd.1
    have hd2 : pLen l := hd.2
    have hd : k.length ≤ 4611686018427387904 := hd0.1
    have no : ¬ (k = l) → Sub .ff (B (decide (k = l))) := fun h => .bff (decide_eq_false h)
    refine ⟨fun h2 => ?_, fun h2 => ?_⟩
    · exact ⟨no fun q => lneT h2 (by rw [q]), rfl⟩
    have hl : k.length = l.length := lneF h2
    refine ⟨Nat, fun i => [(0, prgR k), (1, prgR l), (5, I i)], fun _ => [], fun i => i ≤ k.length ∧ ∀ j, j < i → k.getD j cls0 = l.getD j cls0, fun i => k.length - i,
      ⟨0, ⟨Nat.zero_le _, fun j hj => by omega⟩, ⟨⟨rfl, rfl⟩, .refl _, .refl _, .refl _, trivial⟩⟩, fun (i : Nat) hi => ?_⟩
    have hil := hi.1
    have hwj : IntKind.i64.wrap ((i : Int) + 1) = ((i + 1 : Nat) : Int) := by rw [wrap_eq _ (by omega) (by omega)]; omega
    refine ⟨fun h => ?_, fun h => ?_⟩
    · have hlt : i < k.length := dlt h
      refine ⟨by kernel_rfl, ?_⟩
      refine ⟨⟨by omega, by omega⟩, ⟨by omega, by omega⟩, ?_⟩
      refine ⟨(k.getD i cls0, l.getD i cls0), ⟨.refl _, .refl _, trivial⟩, rfl, ⟨hd0.2 _ (getT_mem _ _ _ hlt), hd2.2 _ (getT_mem _ _ _ (hl ▸ hlt))⟩, ?_⟩
      refine ⟨fun h => ?_, fun h => ?_⟩
      · have h : (!decide (k.getD i cls0 = l.getD i cls0)) = true := h
        exact ⟨no fun q => by rw [q] at h; simp at h, rfl⟩
      · have h : (!decide (k.getD i cls0 = l.getD i cls0)) = false := h
        have he : k.getD i cls0 = l.getD i cls0 := by simpa using h
        exact ⟨i + 1, ⟨hlt, fun j hj => by rcases Nat.lt_succ_iff_lt_or_eq.1 hj with q | rfl; exact hi.2 j q; exact he⟩, by show k.length - (i + 1) < k.length - i; omega, ⟨rfl, rfl⟩, .refl _, .refl _, .int hwj, trivial⟩
    · have hge : i = k.length := Nat.le_antisymm hil (dge h)
      exact ⟨.btt (decide_eq_true (ext_getD cls0 hl fun j (hj : j < k.length) => hi.2 j (hge ▸ hj))), rfl⟩
def kPrg : Ctr := { A := List Cls × List Cls, enc := fun x => [.agg [prgR x.1], .agg [prgR x.2]], dom := fun x => pLen x.1 ∧ pLen x.2, res := fun x _ => B (decide (x.1 = x.2)) }
set_option maxRecDepth 100000 in
theorem kPrg_ok : CtrSound Tryz.prog 15 kPrg :=
  ctr_of_ax (env_ok tys_ok (eqs := []) trivial (cs := [(33, kRow)]) ⟨kClasses_ok, trivial⟩) mixed _ Tryz.func15 (by kernel_rfl) rfl (fun _ _ => Nat.le_of_ble_eq_true rfl) fun ((k, l) : List Cls × List Cls) id hd => by
    refine ⟨(k, l), ⟨.refl _, .refl _, trivial⟩, rfl, hd, ?_⟩
    exact ⟨.refl _, rfl⟩
end Go.Proofs.YtadimoijlgmecaaGreatDoor.Ax
/- Layer show: what each statement wakes; ShowUnlike, ShowParts. -/
set_option linter.unusedVariables false
set_option linter.unusedSimpArgs false
namespace Go.Proofs.YtadimoijlgmecaaGreatDoor.Ax
open Go Go.RowKit
theorem Sub.agg1 {a b : SV} (h : Sub a b) : Sub (.agg [a]) (.agg [b]) := .agg _ _ rfl fun j hj => by
  obtain rfl : j = 0 := by simpa using hj
  exact h
theorem show_ok {p : List Cls} (h : (showF p).2 = 0) : prgOk p = true ∧ (textP p).length ≤ 6000 ∧ (showF p).1 = textP p := by
  unfold showF at h ⊢
  by_cases h1 : prgOk p = true
  · rw [if_pos h1] at h ⊢
    by_cases h2 : 6000 < (textP p).length
    · rw [if_pos h2] at h; cases h
    · rw [if_neg h2]; exact ⟨h1, by omega, rfl⟩
  · rw [if_neg h1] at h; cases h
theorem show_len (p : List Cls) : (showF p).1.length ≤ 6000 := by
  unfold showF
  split
  · split
    · simp
    · show (textP p).length ≤ 6000; omega
  · simp
abbrev lS : Ctr := { A := Unit, enc := fun _ => [], dom := fun _ => True, res := fun _ _ => .tt, gl := tabS }
abbrev clsA : Cls := ⟨⟨#[65]⟩, false, noS, [], [], []⟩
theorem wkS1 : showF [clsA] = ([99, 108, 97, 115, 115, 32, 65, 32, 123, 10, 125, 10], 0) := by decide +kernel
theorem wkS2 : typeF 5 [65] = ([65, 91, 93], 0) := by decide +kernel
theorem wkS3 : prgOk [cls0] = false := by decide +kernel
theorem clsD_of (s : ByteArray) (h : s.size ≤ 100) : clsD ⟨s, false, noS, [], [], []⟩ := ⟨by show s.size ≤ SM; unfold SM; omega, (by show noS.size ≤ 4611686018427387904; decide), ⟨Nat.zero_le _, fun x hx => by cases hx⟩, ⟨Nat.zero_le _, fun x hx => by cases hx⟩, Nat.zero_le _, fun x hx => by cases hx⟩
set_option maxRecDepth 100000 in
set_option maxHeartbeats 2000000 in
theorem wakesS_ok : CtrSound Tryz.prog 16 lS :=
  ctr_of_ax (env_okB tys_ok (eqs := []) trivial (cs := [(10, textK), (11, typeC), (14, okC)]) ⟨text_ok, type_ok, ok_ok, trivial⟩ (bs := []) trivial (gl := tabS)) mixed _ Tryz.func16 (by kernel_rfl) rfl (fun _ _ => Nat.le_of_ble_eq_true rfl) fun (_ : Unit) id hd => by
    obtain ⟨p1, e1⟩ : ∃ p : List Cls, p = [clsA] := ⟨_, rfl⟩
    obtain ⟨p2, e2⟩ : ∃ p : List Cls, p = [cls0] := ⟨_, rfl⟩
    obtain ⟨l1, f1⟩ : ∃ l : List UInt8, l = [65] := ⟨_, rfl⟩
    have a1 := wkS1
    rw [← e1] at a1
    have a2 := wkS2
    rw [← f1] at a2
    have a3 := wkS3
    rw [← e2] at a3
    have b1 : (showF p1).2 = 0 := by rw [a1]
    have b2 : ((⟨(showF p1).1.toArray⟩ : ByteArray).toList == (⟨#[99, 108, 97, 115, 115, 32, 65, 32, 123, 10, 125, 10]⟩ : ByteArray).toList) = true := by rw [a1]; simp
    have b3 : (typeF 5 l1).2 = 0 := by rw [a2]
    have b4 : ((txt (typeF 5 l1).1).toList == (⟨#[65, 91, 93]⟩ : ByteArray).toList) = true := by rw [a2]; simp [txt]
    refine ⟨Cls, clsC, cls0, [clsA], ⟨rfl, fun _ => rfl⟩, ⟨.refl _, .refl _, .refl _, .nil .., .nil .., .nil .., trivial⟩, rfl, ?_⟩
    refine ⟨p1, ⟨.agg1 (.ownRow e1.symm), trivial⟩, rfl, (show prgD p1 by rw [e1]; exact ⟨by decide, fun c hc => by rw [List.mem_singleton.1 hc]; exact clsD_of _ (by decide)⟩), ?_⟩
    refine ⟨(5, l1), ⟨.agg2 (.refl _) (.str (by rw [f1])), trivial⟩, rfl, (show l1.length ≤ 1000000 by rw [f1]; decide), ?_⟩
    refine ⟨fun h => ?_, fun h => absurd h (by show ¬ ((showF p1).2 == 0) = false; rw [b1]; decide)⟩
    refine ⟨(showF p1).1, .refl _, ?_⟩
    refine ⟨fun h => ?_, fun h => absurd h (by show ¬ ((⟨(showF p1).1.toArray⟩ : ByteArray).toList == (⟨#[99, 108, 97, 115, 115, 32, 65, 32, 123, 10, 125, 10]⟩ : ByteArray).toList) = false; rw [b2]; decide)⟩
    refine ⟨fun h => ?_, fun h => absurd h (by show ¬ ((typeF 5 l1).2 == 0) = false; rw [b3]; decide)⟩
    refine ⟨fun h => ?_, fun h => absurd h (by show ¬ ((txt (typeF 5 l1).1).toList == (⟨#[65, 91, 93]⟩ : ByteArray).toList) = false; rw [b4]; decide)⟩
    refine ⟨Cls, clsC, cls0, [cls0], ⟨rfl, fun _ => rfl⟩, ⟨.refl _, .refl _, .refl _, .nil .., .nil .., .nil .., trivial⟩, rfl, ?_⟩
    refine ⟨p2, ⟨.agg1 (.ownRow e2.symm), trivial⟩, rfl, (show prgD p2 by rw [e2]; exact ⟨by decide, fun c hc => by rw [List.mem_singleton.1 hc]; exact clsD_of _ (by decide)⟩), ?_⟩
    exact ⟨.toTT (by show ((if prgOk p2 then (0 : Int) else 4) == 4) = true; rw [a3]; rfl), rfl⟩
theorem beqT {a b : Int} (h : (a != b) = false) : a = b := by simpa using h
def ShowUnlike : Ctr := { A := List Cls × List Cls, enc := fun x => [.agg [prgR x.1], .agg [prgR x.2]], dom := fun _ => True, res := fun _ _ => .tt, gl := tabS }
def ShowParts : Ctr := { A := List Cls, enc := fun p => [.agg [prgR p]], dom := fun _ => True, res := fun _ _ => .tt, gl := tabS }
end Go.Proofs.YtadimoijlgmecaaGreatDoor.Ax
/- Layer show: ShowBack. -/
set_option linter.unusedVariables false
set_option linter.unusedSimpArgs false
namespace Go.Proofs.YtadimoijlgmecaaGreatDoor.Ax
open Go Go.RowKit
def ShowBack : Ctr := { A := List Cls, enc := fun p => [.agg [prgR p]], dom := fun _ => True, res := fun _ _ => .tt, gl := tabP }
end Go.Proofs.YtadimoijlgmecaaGreatDoor.Ax
/- Layer parse: ParseBlanks. -/
set_option linter.unusedVariables false
set_option linter.unusedSimpArgs false
namespace Go.Proofs.YtadimoijlgmecaaGreatDoor.Ax
open Go Go.RowKit
theorem tok_wd {s : List UInt8} (i : Nat) (h : (tokenF s).2 = true) : wdS (setAt (tokenF s).1 i) = s ∧ wdOk (setAt (tokenF s).1 i) = true := by
  have key : wdS (setAt (tokenF s).1 i) = s := by
    rcases tok_cases h with ⟨m, e, hm⟩ | hn | ⟨h2, h3⟩
    · rw [e, tok_num hm]; rfl
    · rw [tok_name hn]; simp [wdS, setAt, txt]
    · rw [tok_sign h2 h3]; simp [wdS, setAt, txt]
  refine ⟨key, ?_⟩
  unfold wdOk
  rw [key, h]; simp [setAt]
def chain (b : List UInt8) : Nat → List (Int × ByteArray × Int × Int) → Prop
  | _, [] => True
  | e, t :: r => ∃ a : Nat, t.2.2.2 = (a : Int) ∧ e ≤ a ∧ a + (wdS t).length ≤ b.length ∧ (b.drop a).take (wdS t).length = wdS t ∧ wdOk t = true ∧ chain b (a + (wdS t).length) r
theorem chain_le (b : List UInt8) : ∀ (l : List (Int × ByteArray × Int × Int)) (e f : Nat), f ≤ e → chain b e l → chain b f l
  | [], _, _, _, _ => trivial
  | t :: r, e, f, h, ⟨a, h1, h2, h3⟩ => ⟨a, h1, by omega, h3⟩
theorem chain_scan (b : List UInt8) : ∀ (f i : Nat), i ≤ b.length → chain b i (scanL f i (b.drop i)).1 ∧ ∀ x, (scanL f i (b.drop i)).2 = some x → x ≤ b.length := by
  intro f
  induction f with
  | zero =>
    intro i hi
    cases hd : b.drop i with
    | nil => exact ⟨trivial, fun x hx => by cases hx⟩
    | cons c r => exact ⟨trivial, fun x hx => by cases hx; exact hi⟩
  | succ f ih =>
    intro i hi
    cases hd : b.drop i with
    | nil => exact ⟨trivial, fun x hx => by cases hx⟩
    | cons c r =>
      have hlen : (b.drop i).length = b.length - i := List.length_drop ..
      have hlt : i < b.length := by rw [hd] at hlen; simp at hlen; omega
      have hr : b.drop (i + 1) = r := by rw [← List.drop_drop, hd]; rfl
      simp only [scanL]
      split
      · have := ih (i + 1) hlt
        rw [hr] at this
        exact ⟨chain_le b _ _ _ (Nat.le_succ i) this.1, this.2⟩
      · split
        · rename_i ht
          have hwl := wordF_le (c :: r)
          rw [← hd, hlen] at hwl
          have hdw : b.drop (i + wordF (b.drop i)) = (b.drop i).drop (wordF (b.drop i)) := by rw [List.drop_drop]
          have := ih (i + wordF (b.drop i)) (by omega)
          rw [hdw] at this
          rw [hd] at this hwl
          obtain ⟨k1, k2⟩ := tok_wd i ht
          have hl2 : (wdS (setAt (tokenF ((c :: r).take (wordF (c :: r)))).1 i)).length = wordF (c :: r) := by
            rw [k1, List.length_take, ← hd, hlen]; rw [hd]; omega
          refine ⟨⟨i, rfl, Nat.le_refl _, by rw [hl2]; omega, by rw [hl2, hd, k1], k2, by rw [hl2]; exact this.1⟩, this.2⟩
        · exact ⟨trivial, fun x hx => by cases hx; exact hi⟩
theorem chain_F (b : List UInt8) : chain b 0 (scanF b).1 := by
  unfold scanF
  split
  · exact trivial
  · have := (chain_scan b b.length 0 (Nat.zero_le _)).1
    rw [List.drop_zero] at this
    cases hc : (scanI 0 b).2 with
    | none => exact this
    | some x => exact trivial
theorem scan_res (b : List UInt8) : (scanF b).2 = (0, 0) ∨ ((scanF b).1 = [] ∧ (scanF b).2.2 ≠ 0 ∧ 0 ≤ (scanF b).2.1 ∧ (scanF b).2.1 ≤ (b.length : Int)) := by
  unfold scanF
  split
  · exact .inr ⟨rfl, (by decide), (by show (0 : Int) ≤ 0; omega), (by show (0 : Int) ≤ b.length; omega)⟩
  · have := (chain_scan b b.length 0 (Nat.zero_le _)).2
    rw [List.drop_zero] at this
    cases hc : (scanI 0 b).2 with
    | none => exact .inl rfl
    | some x =>
      have := this x hc
      exact .inr ⟨rfl, (by show (3 : Int) ≠ 0; decide), (by show (0 : Int) ≤ (x : Int); omega), (by show (x : Int) ≤ b.length; omega)⟩
theorem chain_wd (b : List UInt8) : ∀ (l : List (Int × ByteArray × Int × Int)) (e : Nat), chain b e l → ∀ t ∈ l, wdOk t = true
  | [], _, _, t, h => by cases h
  | t :: r, e, ⟨a, h1, h2, h3, h4, h5, h6⟩, u, hu => by
    rcases List.mem_cons.1 hu with rfl | q
    · exact h5
    · exact chain_wd b r _ h6 u q
theorem scan_wd (b : List UInt8) : (scanF b).1.all wdOk = true := List.all_eq_true.2 (chain_wd b _ 0 (chain_F b))
theorem namesL_len : ∀ (f : Nat) (r : Rs) (out : List ByteArray), (Rs.namesL f r out).1.length ≤ out.length + f
  | 0, _, _ => Nat.le_refl _
  | f + 1, r, out => by
    unfold Rs.namesL
    split
    · have := namesL_len f (r.name1 out.length).fresh (out ++ [(r.name1 out.length).freshV])
      rw [List.length_append, List.length_singleton] at this
      omega
    · show out.length ≤ _; omega
theorem paramsL_len : ∀ (f : Nat) (r : Rs) (out : List Ty), (Rs.paramsL f r out).1.length ≤ out.length + f
  | 0, _, _ => Nat.le_refl _
  | f + 1, r, out => by
    unfold Rs.paramsL
    split
    · have := paramsL_len f (r.param1 out.length).kind (out ++ [(r.param1 out.length).kindV])
      rw [List.length_append, List.length_singleton] at this
      omega
    · show out.length ≤ _; omega
theorem codeL_len : ∀ (f : Nat) (r : Rs) (out : List Ins), (Rs.codeL f r out).1.length ≤ out.length + f
  | 0, _, _ => Nat.le_refl _
  | f + 1, r, out => by
    unfold Rs.codeL
    split
    · have := codeL_len f (r.instr out.length).2 (out ++ [(r.instr out.length).1])
      rw [List.length_append, List.length_singleton] at this
      omega
    · show out.length ≤ _; omega
theorem catchL_len : ∀ (f : Nat) (r : Rs) (out : List Cat), (Rs.catchL f r out).1.length ≤ out.length + f
  | 0, _, _ => Nat.le_refl _
  | f + 1, r, out => by
    unfold Rs.catchL
    split
    · have := catchL_len f (r.ca1 out.length).catR (out ++ [(r.ca1 out.length).catV])
      rw [List.length_append, List.length_singleton] at this
      omega
    · show out.length ≤ _; omega
theorem names_len (r : Rs) : r.names.1.length ≤ r.L.length + 3 := by
  unfold Rs.names
  have := namesL_len (r.L.length + 2) r.fresh [r.freshV]
  rw [List.length_singleton] at this
  omega
theorem params_len (r : Rs) : r.params.1.length ≤ r.L.length + 3 := by
  unfold Rs.params
  split
  · show 0 ≤ _; omega
  · have := paramsL_len (r.L.length + 2) (r.want wLp).kind [(r.want wLp).kindV]
    rw [List.length_singleton] at this
    show (Rs.paramsL (r.L.length + 2) (r.want wLp).kind [(r.want wLp).kindV]).1.length ≤ _
    omega
theorem mmV_len (r : Rs) (s : Bool) (h : r.L.length + 10 ≤ LB) : mLen (r.mmV s) := by
  have h0 := params_len r.fresh
  rw [(Rs.fresh_fwd r).L] at h0
  have h1 := codeL_len (r.mm1.L.length + 2) r.mm1.bo1 []
  have h2 := catchL_len (r.mm1.L.length + 2) r.mm1.boCode.2 []
  rw [(Rs.mm1_fwd r).L, List.length_nil] at h1 h2
  unfold Rs.mmV
  split
  · exact ⟨by show r.fresh.params.1.length ≤ _; omega, by show 0 ≤ _; omega, by show 0 ≤ _; omega⟩
  · refine ⟨by show r.fresh.params.1.length ≤ _; omega, ?_, ?_⟩
    · show (Rs.codeL (r.mm1.L.length + 2) r.mm1.bo1 []).1.length ≤ _
      rw [(Rs.mm1_fwd r).L]; omega
    · show (Rs.catchL (r.mm1.L.length + 2) r.mm1.boCode.2 []).1.length ≤ _
      rw [(Rs.mm1_fwd r).L]; omega
theorem clsL_len : ∀ (f : Nat) (r : Rs) (c : Cls), r.L.length + 10 ≤ LB → c.ifaces.length ≤ LB → c.fields.length + f ≤ LB → c.methods.length + f ≤ LB → (∀ m ∈ c.methods, mLen m) → cLen (Rs.clsL f r c).1
  | 0, _, _, _, h1, h2, h3, h4 => ⟨h1, Nat.le_trans (Nat.le_add_right _ 0) h2, Nat.le_trans (Nat.le_add_right _ 0) h3, h4⟩
  | f + 1, r, c, h, h1, h2, h3, h4 => by
    unfold Rs.clsL
    split
    · split
      · exact ⟨h1, by show c.fields.length ≤ _; omega, by show c.methods.length ≤ _; omega, h4⟩
      · have hL := (Rs.member_fwd r c).L
        refine clsL_len f _ _ (by rw [hL]; exact h) ?_ ?_ ?_ ?_
        all_goals unfold Rs.member
        · split
          · exact h1
          · split <;> exact h1
        · split
          · show (c.fields ++ [_]).length + f ≤ _
            rw [List.length_append, List.length_singleton]; omega
          · split
            · show c.fields.length + f ≤ _; omega
            · show c.fields.length + f ≤ _; omega
        · split
          · show c.methods.length + f ≤ _; omega
          · split
            · show (c.methods ++ [_]).length + f ≤ _
              rw [List.length_append, List.length_singleton]; omega
            · show c.methods.length + f ≤ _; omega
        · split
          · exact h4
          · split
            · intro m hm
              rcases List.mem_append.1 hm with q | q
              · exact h4 m q
              · rw [List.mem_singleton.1 q]
                exact mmV_len _ _ (by rw [(Rs.memF_fwd r _).L]; exact h)
            · exact h4
    · exact ⟨h1, by show c.fields.length ≤ _; omega, by show c.methods.length ≤ _; omega, h4⟩
theorem class_len (r : Rs) (k : Int) (h : r.L.length + 10 ≤ LB) : cLen (r.class' k).1 := by
  have e1 : (r.cl1 k).fresh.L = r.L := (Rs.fresh_fwd _).L.trans (Rs.cl1_fwd r k).L
  have e2 : ((r.cl1 k).fresh.ex1 (r.is wInterface)).2.L = r.L := (Rs.ex1_fwd _ _).L.trans e1
  have e3 : (r.clR k).L = r.L := (Rs.want_fwd _ _).L.trans ((Rs.ex2_fwd _ _ _).L.trans e2)
  have hx : ∀ b, ((r.cl1 k).fresh.ex1 b).1.2.length ≤ LB := by
    intro b
    unfold Rs.ex1
    split
    · split
      · have := names_len (r.cl1 k).fresh.step
        have e4 : (r.cl1 k).fresh.step.L = r.L := e1
        rw [e4] at this
        show (r.cl1 k).fresh.step.names.1.length ≤ _; omega
      · show 0 ≤ _; omega
    · show 0 ≤ _; omega
  unfold Rs.class'
  refine clsL_len _ _ _ (by rw [e3]; exact h) ?_ (by show 0 + _ ≤ _; omega) (by show 0 + _ ≤ _; omega) (fun m hm => by cases hm)
  show ((((r.cl1 k).fresh.ex1 (r.is wInterface)).2.ex2 (r.is wInterface) ((r.cl1 k).fresh.ex1 (r.is wInterface)).1.2).1).length ≤ LB
  unfold Rs.ex2
  split
  · have := names_len ((r.cl1 k).fresh.ex1 (r.is wInterface)).2.step
    have e4 : ((r.cl1 k).fresh.ex1 (r.is wInterface)).2.step.L = r.L := e2
    rw [e4] at this
    omega
  · exact hx _
theorem prgL_len : ∀ (f : Nat) (r : Rs) (out : List Cls), r.L.length + 10 ≤ LB → out.length + f ≤ LB → (∀ c ∈ out, cLen c) → pLen (Rs.prgL f r out).1
  | 0, _, _, _, h2, h3 => ⟨Nat.le_trans (Nat.le_add_right _ 0) h2, h3⟩
  | f + 1, r, out, h, h2, h3 => by
    unfold Rs.prgL
    split
    · refine prgL_len f _ _ (by rw [(Rs.class_fwd r _).L]; exact h) (by rw [List.length_append, List.length_singleton]; omega) (fun c hc => ?_)
      rcases List.mem_append.1 hc with q | q
      · exact h3 c q
      · rw [List.mem_singleton.1 q]; exact class_len r _ h
    · exact ⟨by show out.length ≤ _; omega, h3⟩
theorem parse_len (b : List UInt8) : pLen (parseF b).1 := by
  have hk := scan_count b
  unfold parseF
  split
  · split
    · exact prgL_len _ _ _ (by show (scanF b).1.length + 10 ≤ 4611686018427387904; omega) (by show 0 + _ ≤ 4611686018427387904; omega) (fun c hc => by cases hc)
    · exact ⟨Nat.zero_le _, fun c hc => by cases hc⟩
  · exact ⟨Nat.zero_le _, fun c hc => by cases hc⟩
def ParseBlanks : Ctr := { A := List UInt8, enc := fun b => [.row UInt8 1 byteC 0 b], dom := fun b => True, res := fun _ _ => .tt, gl := tabP }
end Go.Proofs.YtadimoijlgmecaaGreatDoor.Ax
/- Layer parse: ParseCut. -/
set_option linter.unusedVariables false
set_option linter.unusedSimpArgs false
namespace Go.Proofs.YtadimoijlgmecaaGreatDoor.Ax
open Go Go.RowKit
namespace Rs
def rem (r : Rs) : List T3 := (r.L.drop r.i).map s3
/-- both are wrong alike, or what is left of the first is what is left of the second and X behind it -/
def Rel (X : List T3) (r s : Rs) : Prop := r.e = s.e ∧ (r.e = 0 → rem r = rem s ++ X)
def Halt (s : Rs) : Prop := (s.e = 0 ∧ s.L.length ≤ s.i) ∨ (s.e = 4 ∧ s.at' = s.n)
def Out (X : List T3) {α : Type} (a b : α × Rs) : Prop := (a.1 = b.1 ∧ Rel X a.2 b.2) ∨ (X ≠ [] ∧ Halt b.2)
def OutR (X : List T3) (a b : Rs) : Prop := Rel X a b ∨ (X ≠ [] ∧ Halt b)
theorem rem_nil {r : Rs} : rem r = [] ↔ r.L.length ≤ r.i := by simp [rem]
theorem rem_cons {r : Rs} {t : T3} {l : List T3} (h : rem r = t :: l) : r.i < r.L.length ∧ s3 (r.L.getD r.i tok0) = t ∧ rem r.step = l := by
  have hi : r.i < r.L.length := Nat.lt_of_not_le fun c => by rw [rem_nil.2 c] at h; cases h
  unfold rem at h
  rw [List.drop_eq_getElem_cons hi, List.map_cons] at h
  injection h with h1 h2
  refine ⟨hi, ?_, h2⟩
  have hg : r.L.getD r.i tok0 = r.L[r.i] := by simp [List.getD, hi]
  rw [hg]; exact h1
theorem look {X : List T3} {r s : Rs} (h : Rel X r s) : (X ≠ [] ∧ s.e = 0 ∧ s.L.length ≤ s.i) ∨ s3 r.next = s3 s.next := by
  by_cases he : r.e = 0
  · have hs : s.e = 0 := h.1 ▸ he
    have hr := h.2 he
    cases hm : rem s with
    | nil =>
      have hi := rem_nil.1 hm
      by_cases hX : X = []
      · right
        rw [hm, hX] at hr
        have hj := rem_nil.1 hr
        rw [next_none (fun c => by omega), next_none (fun c => by omega)]
      · exact .inl ⟨hX, hs, hi⟩
    | cons t l =>
      rw [hm] at hr
      obtain ⟨h1, h2, h3⟩ := rem_cons hm
      obtain ⟨k1, k2, k3⟩ := rem_cons (show rem r = t :: (l ++ X) from hr)
      right
      rw [next_some ⟨he, k1⟩, next_some ⟨hs, h1⟩, h2, k2]
  · right
    have hs : ¬ s.e = 0 := h.1 ▸ he
    rw [next_none (fun c => he c.1), next_none (fun c => hs c.1)]
theorem nx1 {r s : Rs} (h : s3 r.next = s3 s.next) : r.next.1 = s.next.1 := by have := congrArg Prod.fst h; exact this
theorem nx2 {r s : Rs} (h : s3 r.next = s3 s.next) : r.next.2.1 = s.next.2.1 := by have := congrArg (fun x => x.2.1) h; exact this
theorem is_eq {r s : Rs} (h : s3 r.next = s3 s.next) (w : ByteArray) : r.is w = s.is w := by unfold is; rw [nx2 h]
theorem free_eq {r s : Rs} (h : s3 r.next = s3 s.next) : r.free = s.free := by unfold free; rw [nx1 h, nx2 h]
theorem freshV_eq {r s : Rs} (h : s3 r.next = s3 s.next) : r.freshV = s.freshV := by unfold freshV; rw [free_eq h, nx2 h]
theorem step_rel {X : List T3} {r s : Rs} (h : Rel X r s) (k : s.e = 0 ∧ s.i < s.L.length) : Rel X r.step s.step := by
  refine ⟨h.1, fun he => ?_⟩
  have hr := h.2 he
  cases hm : rem s with
  | nil => have := rem_nil.1 hm; omega
  | cons t l =>
    rw [hm] at hr
    rw [(rem_cons hm).2.2, (rem_cons (show rem r = t :: (l ++ X) from hr)).2.2]
theorem fail_rel {X : List T3} {r s : Rs} (h : Rel X r s) {e : Int} (he : e ≠ 0) : Rel X (r.fail e) (s.fail e) := by
  by_cases h0 : r.e = 0
  · have h1 : s.e = 0 := h.1 ▸ h0
    have e1 : (r.fail e).e = e := by unfold fail; rw [if_pos h0]
    have e2 : (s.fail e).e = e := by unfold fail; rw [if_pos h1]
    exact ⟨by rw [e1, e2], fun c => absurd (e1 ▸ c) he⟩
  · have h1 : ¬ s.e = 0 := h.1 ▸ h0
    have e1 : r.fail e = r := by unfold fail; rw [if_neg h0]
    have e2 : s.fail e = s := by unfold fail; rw [if_neg h1]
    rw [e1, e2]; exact h
theorem room_rel {X : List T3} {r s : Rs} (h : Rel X r s) (a b : Int) : Rel X (r.room a b) (s.room a b) := by
  unfold room; split
  · exact fail_rel h (by decide)
  · exact h
theorem halt_next {s : Rs} (h : Halt s) : s.next = tok0 := next_none fun c => by
  rcases h with h | h
  · omega
  · have := c.1; have := h.1; omega
theorem halt_free {s : Rs} (h : Halt s) : s.free = false := by unfold free; rw [halt_next h]; rfl
theorem halt_fail {s : Rs} (h : Halt s) : Halt (s.fail 4) := by
  unfold fail
  split
  · rename_i h0
    rcases h with h | h
    · right; exact ⟨rfl, by show (if _ then _ else _) = _; rw [if_neg (by have := h.2; show ¬ s.i < s.L.length; omega)]⟩
    · exact absurd h0 (by rw [h.1]; decide)
  · exact h
theorem halt_fresh {s : Rs} (h : Halt s) : Halt s.fresh := by unfold fresh; rw [halt_free h]; exact halt_fail h
theorem fresh_out {X : List T3} {r s : Rs} (h : Rel X r s) : Out X (r.freshV, r.fresh) (s.freshV, s.fresh) := by
  rcases look h with k | k
  · exact .inr ⟨k.1, halt_fresh (.inl k.2)⟩
  · left
    refine ⟨freshV_eq k, ?_⟩
    show Rel X r.fresh s.fresh
    unfold fresh
    rw [free_eq k]
    split
    · exact step_rel h (free_at (by assumption))
    · exact fail_rel h (by decide)
theorem Out.bind {X : List T3} {α β : Type} {a b : α × Rs} {c d : β × Rs} (h : Out X a b) (g : a.1 = b.1 → Rel X a.2 b.2 → Out X c d) (k : Halt b.2 → Halt d.2) : Out X c d := by
  rcases h with h | h
  · exact g h.1 h.2
  · exact .inr ⟨h.1, k h.2⟩
theorem OutR.bind {X : List T3} {a b c d : Rs} (h : OutR X a b) (g : Rel X a b → OutR X c d) (k : Halt b → Halt d) : OutR X c d := by
  rcases h with h | h
  · exact g h
  · exact .inr ⟨h.1, k h.2⟩
theorem OutR.bindV {X : List T3} {β : Type} {a b : Rs} {c d : β × Rs} (h : OutR X a b) (g : Rel X a b → Out X c d) (k : Halt b → Halt d.2) : Out X c d := by
  rcases h with h | h
  · exact g h
  · exact .inr ⟨h.1, k h.2⟩
theorem Out.r {X : List T3} {α : Type} {a b : α × Rs} (h : Out X a b) : OutR X a.2 b.2 := h.elim (fun h => .inl h.2) .inr
/-- loops -/
def loop {γ : Type} (C : Rs → Bool) (G : Rs → γ → γ × Rs) : Nat → Rs → γ → γ × Rs
  | 0, r, c => (c, r)
  | f + 1, r, c => if C r then loop C G f (G r c).2 (G r c).1 else (c, r)
structure LoopOk (X : List T3) {γ : Type} (C : Rs → Bool) (G : Rs → γ → γ × Rs) : Prop where
  eq : ∀ {r s : Rs}, s3 r.next = s3 s.next → C r = C s
  now : ∀ {r : Rs}, C r = true → r.e = 0 ∧ r.i < r.L.length
  out : ∀ {r s : Rs} (c : γ), Rel X r s → C s = true → Out X (G r c) (G s c)
  fwd : ∀ {r : Rs} (c : γ), C r = true → Fwd r (G r c).2 ∧ ((G r c).2.e ≠ 0 ∨ r.i < (G r c).2.i)
def Room (f : Nat) (r : Rs) : Prop := r.e = 0 → (rem r).length < f
/-- names -/
theorem name1_out {X : List T3} {r s : Rs} (h : Rel X r s) (hs : s.e = 0 ∧ s.i < s.L.length) (k : Int) : OutR X (r.name1 k) (s.name1 k) := by
  have hp := step_rel h hs
  unfold name1
  rcases look hp with q | q
  · have hh : Halt s.step := .inl q.2
    rw [halt_free hh]
    exact .inr ⟨q.1, hh⟩
  · rw [free_eq q]
    split
    · exact .inl (room_rel hp _ _)
    · exact .inl hp
theorem names_ok (X : List T3) : LoopOk X (fun r => r.is wComma) (fun (r : Rs) (out : List ByteArray) => (out ++ [(r.name1 out.length).freshV], (r.name1 out.length).fresh)) where
  eq h := is_eq h _
  now h := is_at h
  out {r s} c h hc := (name1_out h (is_at hc) c.length).bindV (fun k => (fresh_out k).elim (fun q => .inl ⟨congrArg (fun x => c ++ [x]) q.1, q.2⟩) .inr) halt_fresh
  fwd {r} c hc := ⟨(name1_fwd (is_at hc) _).trans (fresh_fwd _), on_fwd (name1_on r _) (fresh_fwd _)⟩
theorem Out.of {X : List T3} {α : Type} {a b : α} {r s : Rs} (h : a = b) (k : OutR X r s) : Out X (a, r) (b, s) := k.elim (fun q => .inl ⟨h, q⟩) .inr
end Rs
namespace Rs
end Rs
theorem parse_of {b : List UInt8} {l : List Tok} (h : scanF b = (l, 0, 0)) : parseF b = if (Rs.prgL (l.length + 2) (parse0 b) []).2.e = 0 then ((Rs.prgL (l.length + 2) (parse0 b) []).1, 0, 0) else ([], (Rs.prgL (l.length + 2) (parse0 b) []).2.at', (Rs.prgL (l.length + 2) (parse0 b) []).2.e) := by
  unfold parseF; rw [h]; exact if_pos rfl
def ParseCut : Ctr := { A := List UInt8 × Int, enc := fun x => [.row UInt8 1 byteC 0 x.1, I x.2], dom := fun _ => True, res := fun _ _ => .tt, gl := tabP }
end Go.Proofs.YtadimoijlgmecaaGreatDoor.Ax
/- Layer parse: ParseJoin, in plain Lean: two texts, one behind the other. -/
set_option linter.unusedVariables false
set_option linter.unusedSimpArgs false
namespace Go.Proofs.YtadimoijlgmecaaGreatDoor.Ax
open Go Go.RowKit
namespace Rs
end Rs
theorem parse_ok0 {b : List UInt8} (h : (parseF b).2.2 = 0) : (scanF b).2.2 = 0 ∧ scanF b = ((scanF b).1, 0, 0) ∧ (Rs.prgL ((scanF b).1.length + 2) (parse0 b) []).2.e = 0 ∧ (parseF b).1 = (Rs.prgL ((scanF b).1.length + 2) (parse0 b) []).1 := by
  have h1 : (scanF b).2.2 = 0 := by
    refine Classical.byContradiction fun c => ?_
    unfold parseF at h
    rw [if_neg c] at h
    exact c h
  have h2 : scanF b = ((scanF b).1, 0, 0) := by
    rcases scan_res b with q | q
    · exact Prod.ext rfl q
    · exact absurd h1 q.2.1
  have h3 := parse_of h2
  refine ⟨h1, h2, ?_⟩
  by_cases c : (Rs.prgL ((scanF b).1.length + 2) (parse0 b) []).2.e = 0
  · rw [if_pos c] at h3
    exact ⟨c, by rw [h3]⟩
  · rw [if_neg c] at h3
    rw [h3] at h
    exact absurd h c
end Go.Proofs.YtadimoijlgmecaaGreatDoor.Ax
/- Layers parse and show: what is parsed can be shown. -/
set_option linter.unusedVariables false
set_option linter.unusedSimpArgs false
namespace Go.Proofs.YtadimoijlgmecaaGreatDoor.Ax
open Go Go.RowKit
namespace Rs
def Wd (r : Rs) : Prop := ∀ t ∈ r.L, wdOk t = true
theorem Wd.go {r s : Rs} (h : Wd r) (f : Fwd r s) : Wd s := by unfold Wd; rw [f.L]; exact h
theorem name_of {t : Tok} (h : wdOk t = true) (h1 : t.1 = 1) : nameF t.2.1.data.toList = true := by
  have e := wd_tok h
  have hs : wdS t = t.2.1.data.toList := by unfold wdS; rw [if_neg (by rw [h1]; decide)]
  have hc := tok_cases (w := wdS t) (by rw [e])
  rcases hc with ⟨m, e1, hm⟩ | hn | ⟨h2, h3⟩
  · rw [e1, tok_num hm] at e
    have : (2 : Int) = t.1 := congrArg (fun x => x.1.1) e
    rw [h1] at this; cases this
  · rw [← hs]; exact hn
  · rw [tok_sign h2 h3] at e
    have : (3 : Int) = t.1 := congrArg (fun x => x.1.1) e
    rw [h1] at this; cases this
theorem free_good {r : Rs} (hw : Wd r) (h : r.free = true) : freshW r.freshV = true := by
  have ha := free_at h
  have hv : r.freshV = r.next.2.1 := by unfold freshV; rw [if_pos h]
  rw [hv]
  unfold free at h
  rw [Bool.and_eq_true, decide_eq_true_eq] at h
  have hm : r.next ∈ r.L := by
    rw [next_some ha, show r.L.getD r.i tok0 = r.L[r.i]'ha.2 by simp [List.getD, ha.2]]
    exact List.getElem_mem _
  unfold freshW freshF
  rw [name_of (hw _ hm) h.1, Bool.true_and]
  exact h.2
theorem fresh_free {r : Rs} (h : r.fresh.e = 0) : r.free = true := by
  cases c : r.free with
  | true => rfl
  | false => exact absurd h (by unfold fresh; rw [c]; exact fail_e _ (by decide))
theorem fresh_good {r : Rs} (hw : Wd r) (h : r.fresh.e = 0) : freshW r.freshV = true := free_good hw (fresh_free h)
theorem room_good {r : Rs} {a b : Int} (h : (r.room a b).e = 0) : a < b := by
  unfold room at h
  split at h
  · exact absurd h (fail_e _ (by decide))
  · omega
theorem num_good {r : Rs} {a b : Int} (h : (r.num a b).e = 0) : inF (r.numV a b) a b = true := by
  cases c : r.numOk a b with
  | false => exact absurd h (by unfold num; rw [c]; exact fail_e _ (by decide))
  | true =>
    unfold numV inF
    rw [c]
    unfold numOk at c
    have := of_decide_eq_true c
    exact decide_eq_true this.2
theorem kind_good {r : Rs} (hw : Wd r) (h : r.kind.e = 0) : tyOk r.kindV = true := by
  unfold kind at h
  unfold kindV
  by_cases c : r.is wVoid = true
  · rw [if_pos c]; decide
  · rw [if_neg c] at h ⊢
    by_cases d : r.is wInt = true
    · rw [if_pos d]; split <;> decide
    · rw [if_neg d] at h ⊢
      have hf := fresh_good hw ((rowR_fwd _).good h)
      have hf : freshF r.freshV.data.toList = true := hf
      unfold tyOk typedF
      split
      · simp [hf]
      · simp [hf]
theorem name1_good {r : Rs} {k : Int} (h : (r.name1 k).fresh.e = 0) : k < 4 := by
  have hf := fresh_free h
  have he := (fresh_fwd _).good h
  unfold name1 at hf he
  cases c : r.step.free with
  | true => rw [c] at he; exact room_good he
  | false => rw [c] at hf; rw [show r.step.free = true from hf] at c; cases c
theorem namesL_good : ∀ (f : Nat) (r : Rs) (out : List ByteArray), Wd r → (namesL f r out).2.e = 0 → out.length ≤ 4 → (∀ x ∈ out, freshW x = true) → (namesL f r out).1.length ≤ 4 ∧ ∀ x ∈ (namesL f r out).1, freshW x = true
  | 0, r, out, hw, he, h1, h2 => ⟨h1, h2⟩
  | f + 1, r, out, hw, he, h1, h2 => by
    unfold namesL at he ⊢
    by_cases c : r.is wComma = true
    · rw [if_pos c] at he ⊢
      have e1 := (namesL_fwd f _ _).good he
      have hn := name1_good e1
      have hw1 := hw.go (name1_fwd (is_at c) out.length)
      refine namesL_good f _ _ (hw1.go (fresh_fwd _)) he (by simp only [List.length_append, List.length_singleton]; omega) fun x hx => ?_
      rcases List.mem_append.1 hx with q | q
      · exact h2 x q
      · rw [List.mem_singleton.1 q]; exact fresh_good hw1 e1
    · rw [if_neg c]; exact ⟨h1, h2⟩
theorem names_good {r : Rs} (hw : Wd r) (h : r.names.2.e = 0) : r.names.1.length ≤ 4 ∧ ∀ x ∈ r.names.1, freshW x = true := by
  have e1 := (namesL_fwd (r.L.length + 2) r.fresh [r.freshV]).good h
  exact namesL_good _ _ _ (hw.go (fresh_fwd r)) h (by simp) fun x hx => by rw [List.mem_singleton.1 hx]; exact fresh_good hw e1
theorem param1_good {r : Rs} {k : Int} (h : (r.param1 k).kind.e = 0) : k < 4 := by
  have he := (kind_fwd _).good h
  unfold param1 at he h
  by_cases c : (r.step.free || r.step.is wInt || r.step.is wVoid) = true
  · rw [if_pos c] at he; exact room_good he
  · rw [if_neg c] at h
    simp only [Bool.or_eq_true, not_or, Bool.not_eq_true] at c
    unfold kind at h
    rw [c.2, c.1.2] at h
    have := fresh_free ((rowR_fwd _).good h)
    rw [c.1.1] at this; cases this
theorem paramsL_good : ∀ (f : Nat) (r : Rs) (out : List Ty), Wd r → (paramsL f r out).2.e = 0 → out.length ≤ 4 → (∀ x ∈ out, tyOk x = true) → (paramsL f r out).1.length ≤ 4 ∧ ∀ x ∈ (paramsL f r out).1, tyOk x = true
  | 0, r, out, hw, he, h1, h2 => ⟨h1, h2⟩
  | f + 1, r, out, hw, he, h1, h2 => by
    unfold paramsL at he ⊢
    by_cases c : r.is wComma = true
    · rw [if_pos c] at he ⊢
      have e1 := (paramsL_fwd f _ _).good he
      have hn := param1_good e1
      have hw1 := hw.go (param1_fwd (is_at c) out.length)
      refine paramsL_good f _ _ (hw1.go (kind_fwd _)) he (by simp only [List.length_append, List.length_singleton]; omega) fun x hx => ?_
      rcases List.mem_append.1 hx with q | q
      · exact h2 x q
      · rw [List.mem_singleton.1 q]; exact kind_good hw1 e1
    · rw [if_neg c]; exact ⟨h1, h2⟩
theorem params_good {r : Rs} (hw : Wd r) (h : r.params.2.e = 0) : r.params.1.length ≤ 4 ∧ ∀ x ∈ r.params.1, tyOk x = true := by
  unfold params at h ⊢
  by_cases c : (r.want wLp).is wRp = true
  · rw [if_pos c]; exact ⟨Nat.zero_le _, fun x hx => by cases hx⟩
  · rw [if_neg c] at h ⊢
    have e1 := (want_fwd _ _).good h
    have e2 := (paramsL_fwd (r.L.length + 2) _ _).good e1
    have hw1 := hw.go (want_fwd r wLp)
    exact paramsL_good _ _ _ (hw1.go (kind_fwd _)) e1 (by simp) fun x hx => by rw [List.mem_singleton.1 hx]; exact kind_good hw1 e2
theorem idx_lt (x : ByteArray) : ∀ (zs : List ByteArray) (i : Nat), Lib.idxFromS zs x i < ((i + zs.length : Nat) : Int) ∨ Lib.idxFromS zs x i = -1
  | [], i => .inr rfl
  | z :: zs, i => by
    unfold Lib.idxFromS
    by_cases c : z = x
    · rw [if_pos c]; left; simp only [List.length_cons]; omega
    · rw [if_neg c]
      rcases idx_lt x zs (i + 1) with h | h
      · left; simp only [List.length_cons]; omega
      · exact .inr h
theorem op_le {s : ByteArray} (h : 0 ≤ opV s) : opV s ≤ 43 := by
  have hl : opsL.length = 44 := by decide +kernel
  unfold opV at h ⊢
  have := idx_lt s opsL 0
  unfold Lib.idxOfS at h ⊢
  rw [hl] at this
  omega
theorem in3_good {r : Rs} {b : Bool} (hw : Wd r) (h : (r.in3 b).e = 0) : namedF (r.in3V b).data.toList b = true := by
  unfold in3 at h
  unfold in3V namedF
  cases b with
  | true => exact fresh_good hw h
  | false => rfl
theorem in2_good {r : Rs} {o : Int} (h : (r.in2 o).e = 0) : inF (r.in2V o) (numsF o).1 (numsF o).2.1 = true := by
  unfold in2 at h
  unfold in2V
  by_cases c : (numsF o).2.2 = true
  · rw [if_pos c] at h ⊢; exact num_good h
  · rw [if_neg c]
    unfold numsF at c ⊢
    split at c
    · exact absurd rfl c
    · split at c
      · exact absurd rfl c
      · split at c
        · exact absurd rfl c
        · rename_i c1 c2 c3
          rw [if_neg c1, if_neg c2, if_neg c3]; rfl
theorem instr_good {r : Rs} {k : Int} (hw : Wd r) (ho : r.isOp = true) (h : (r.instr k).2.e = 0) : insOk (r.instr k).1 = true ∧ k < 48 := by
  have e1 : ((r.in1 k).inArgs (opV r.next.2.1)).e = 0 := (want_fwd _ _).good h
  have e2 := (in3_fwd _ _).good e1
  have e3 := (in3_fwd _ _).good e2
  have e4 := (in2_fwd _ _).good e3
  have e5 := (want_fwd _ _).good e4
  have h0 : 0 ≤ opV r.next.2.1 := by
    unfold isOp at ho
    rw [Bool.and_eq_true, decide_eq_true_eq, decide_eq_true_eq] at ho
    exact ho.2
  have hw1 := hw.go (in1_fwd r k)
  have hw2 := hw1.go (in2_fwd _ (opV r.next.2.1))
  have hw3 := hw2.go (in3_fwd _ (decide (namesF (opV r.next.2.1) > 0)))
  refine ⟨?_, room_good e5⟩
  show instrF (opV r.next.2.1) _ _ _ = true
  unfold instrF
  rw [Bool.and_eq_true, Bool.and_eq_true, Bool.and_eq_true]
  exact ⟨⟨⟨decide_eq_true ⟨h0, op_le h0⟩, in2_good e3⟩, in3_good hw2 e2⟩, in3_good hw3 e1⟩
theorem codeL_good : ∀ (f : Nat) (r : Rs) (out : List Ins), Wd r → (codeL f r out).2.e = 0 → out.length ≤ 48 → (∀ x ∈ out, insOk x = true) → (codeL f r out).1.length ≤ 48 ∧ ∀ x ∈ (codeL f r out).1, insOk x = true
  | 0, r, out, hw, he, h1, h2 => ⟨h1, h2⟩
  | f + 1, r, out, hw, he, h1, h2 => by
    unfold codeL at he ⊢
    by_cases c : r.isOp = true
    · rw [if_pos c] at he ⊢
      have e1 := (codeL_fwd f _ _).good he
      obtain ⟨g1, g2⟩ := instr_good hw c e1
      refine codeL_good f _ _ (hw.go (instr_fwd r _)) he (by simp only [List.length_append, List.length_singleton]; omega) fun x hx => ?_
      rcases List.mem_append.1 hx with q | q
      · exact h2 x q
      · rw [List.mem_singleton.1 q]; exact g1
    · rw [if_neg c]; exact ⟨h1, h2⟩
theorem catch_good {r : Rs} (hw : Wd r) (h : r.catR.e = 0) : catOk r.catV = true := by
  have e1 := (want_fwd _ _).good h
  have e2 := (num_fwd _ _ _).good e1
  have e3 := (num_fwd _ _ _).good e2
  have e4 := (num_fwd _ _ _).good e3
  show catchF _ _ _ _ = true
  unfold catchF
  rw [Bool.and_eq_true, Bool.and_eq_true, Bool.and_eq_true]
  exact ⟨⟨⟨fresh_good hw e4, num_good e3⟩, num_good e2⟩, num_good e1⟩
theorem catchL_good : ∀ (f : Nat) (r : Rs) (out : List Cat), Wd r → (catchL f r out).2.e = 0 → out.length ≤ 4 → (∀ x ∈ out, catOk x = true) → (catchL f r out).1.length ≤ 4 ∧ ∀ x ∈ (catchL f r out).1, catOk x = true
  | 0, r, out, hw, he, h1, h2 => ⟨h1, h2⟩
  | f + 1, r, out, hw, he, h1, h2 => by
    unfold catchL at he ⊢
    by_cases c : r.is wCatch = true
    · rw [if_pos c] at he ⊢
      have e1 := (catchL_fwd f _ _).good he
      have e2 := (catR_fwd _).good e1
      have g2 := room_good ((want_fwd _ _).good e2)
      have hw1 := hw.go (ca1_fwd r (out.length : Int))
      refine catchL_good f _ _ (hw1.go (catR_fwd _)) he (by simp only [List.length_append, List.length_singleton]; omega) fun x hx => ?_
      rcases List.mem_append.1 hx with q | q
      · exact h2 x q
      · rw [List.mem_singleton.1 q]; exact catch_good hw1 e1
    · rw [if_neg c]; exact ⟨h1, h2⟩
theorem mfV_good {r : Rs} {s : Bool} (hw : Wd r) (h : r.mfR.e = 0) : fldOk (r.mfV s) = true := by
  have e1 := (want_fwd _ _).good h
  have e2 := (kind_fwd _).good e1
  have e3 := (want_fwd _ _).good e2
  show (freshW r.freshV && tyOk (r.fresh.want wColon).kindV) = true
  rw [fresh_good hw e3, kind_good ((hw.go (fresh_fwd r)).go (want_fwd _ _)) e1]; rfl
theorem mmV_good {r : Rs} {s : Bool} (hw : Wd r) (h : r.mmR.e = 0) : methOk (r.mmV s) = true := by
  unfold mmR at h
  unfold mmV
  have main : r.mm1.e = 0 → freshW r.freshV = true ∧ (r.fresh.params.1.length ≤ 4 ∧ ∀ x ∈ r.fresh.params.1, tyOk x = true) ∧ tyOk r.fresh.params.2.kindV = true := fun he => by
    have e1 := (kind_fwd _).good he
    have e2 := (params_fwd _).good e1
    exact ⟨fresh_good hw e2, params_good (hw.go (fresh_fwd r)) e1, kind_good ((hw.go (fresh_fwd r)).go (params_fwd _)) he⟩
  by_cases c : r.mm1.is wSemi = true
  · rw [if_pos c]
    obtain ⟨g1, ⟨g2, g3⟩, g4⟩ := main (is_at c).1
    show methOk ⟨r.freshV, s, r.mm1.is wSemi, r.fresh.params.1, r.fresh.params.2.kindV, 0, [], []⟩ = true
    unfold methOk
    rw [c]
    simp [g1, g2, g4, inF, List.all_eq_true]
    exact fun a b hx => g3 (a, b) hx
  · rw [if_neg c] at h ⊢
    have hw1 := hw.go (mm1_fwd r)
    have e1 : r.mm1.boCat.2.e = 0 := (want_fwd _ _).good h
    have e2 : r.mm1.boCode.2.e = 0 := (catchL_fwd _ _ _).good e1
    have e3 : r.mm1.bo1.e = 0 := (codeL_fwd _ _ _).good e2
    have e4 := (want_fwd _ _).good e3
    have e5 := (num_fwd _ _ _).good e4
    obtain ⟨g1, ⟨g2, g3⟩, g4⟩ := main ((want_fwd _ _).good e5)
    have n1 := num_good e4
    obtain ⟨c1, c2⟩ := codeL_good _ _ [] (hw1.go (bo1_fwd _)) e2 (Nat.zero_le _) (fun x hx => by cases hx)
    obtain ⟨d1, d2⟩ := catchL_good _ _ [] (hw1.go (boCode_fwd _)) e1 (Nat.zero_le _) (fun x hx => by cases hx)
    show methOk ⟨r.freshV, s, r.mm1.is wSemi, r.fresh.params.1, r.fresh.params.2.kindV, (r.mm1.want wLocals).numV 0 8, r.mm1.boCode.1, r.mm1.boCat.1⟩ = true
    unfold methOk
    rw [show r.mm1.is wSemi = false by simpa using c]
    simp only [Bool.false_and, Bool.not_false, Bool.true_and, Bool.and_eq_true, decide_eq_true_eq, List.all_eq_true]
    exact ⟨g1, ⟨g2, g3⟩, g4, n1, ⟨c1, c2⟩, d1, d2⟩
def clsG (c : Cls) : Prop := freshW c.name = true ∧ (c.super = noS ∨ (c.iface = false ∧ freshW c.super = true)) ∧ (c.ifaces.length ≤ 4 ∧ ∀ x ∈ c.ifaces, freshW x = true) ∧ (c.fields.length ≤ 6 ∧ ∀ x ∈ c.fields, fldOk x = true) ∧ (c.methods.length ≤ 6 ∧ ∀ x ∈ c.methods, methOk x = true)
theorem clsG_ok {c : Cls} (h : clsG c) : clsOk c = true := by
  obtain ⟨h1, h2, h3, h4, h5⟩ := h
  unfold clsOk
  simp only [Bool.and_eq_true, Bool.or_eq_true, Bool.not_eq_true', decide_eq_true_eq, List.all_eq_true]
  exact ⟨h1, h2, h3, h4, h5⟩
theorem member_good {r : Rs} {c : Cls} (hw : Wd r) (h : (r.member c).2.e = 0) (hc : clsG c) : clsG (r.member c).1 := by
  obtain ⟨h1, h2, h3, ⟨h4, h4'⟩, ⟨h5, h5'⟩⟩ := hc
  unfold member at h ⊢
  by_cases c1 : r.next.2.1 = wField ∨ r.next.2.1 = wStatic
  · rw [if_pos c1] at h ⊢
    have e1 := (mfR_fwd _).good h
    have g := room_good ((want_fwd _ _).good e1)
    refine ⟨h1, h2, h3, ⟨by simp only [List.length_append, List.length_singleton]; omega, fun x hx => ?_⟩, h5, h5'⟩
    rcases List.mem_append.1 hx with q | q
    · exact h4' x q
    · rw [List.mem_singleton.1 q]; exact mfV_good (hw.go (memF_fwd r _)) h
  · rw [if_neg c1] at h ⊢
    by_cases c2 : r.next.2.1 = wMethod ∨ r.next.2.1 = wFunction
    · rw [if_pos c2] at h ⊢
      have e1 := (mmR_fwd _).good h
      have g := room_good ((want_fwd _ _).good e1)
      refine ⟨h1, h2, h3, ⟨h4, h4'⟩, by simp only [List.length_append, List.length_singleton]; omega, fun x hx => ?_⟩
      rcases List.mem_append.1 hx with q | q
      · exact h5' x q
      · rw [List.mem_singleton.1 q]; exact mmV_good (hw.go (memF_fwd r _)) h
    · rw [if_neg c2]; exact ⟨h1, h2, h3, ⟨h4, h4'⟩, h5, h5'⟩
theorem clsL_good : ∀ (f : Nat) (r : Rs) (c : Cls), Wd r → (clsL f r c).2.e = 0 → clsG c → clsG (clsL f r c).1
  | 0, r, c, hw, he, hc => hc
  | f + 1, r, c, hw, he, hc => by
    unfold clsL at he ⊢
    by_cases c1 : r.e = 0
    · rw [if_pos c1] at he ⊢
      by_cases c2 : r.is wRc = true
      · rw [if_pos c2]; exact hc
      · rw [if_neg c2] at he ⊢
        exact clsL_good f _ _ (hw.go (member_fwd r c)) he (member_good hw ((clsL_fwd f _ _).good he) hc)
    · rw [if_neg c1]; exact hc
theorem cl1_good {r : Rs} {k : Int} (h : (r.cl1 k).e = 0) : k < 10 := by
  unfold cl1 at h
  by_cases c : (r.is wClass || r.is wInterface) = true
  · rw [if_pos c] at h; exact room_good ((want_fwd _ _).good h)
  · rw [if_neg c] at h
    simp only [Bool.or_eq_true, not_or, Bool.not_eq_true] at c
    rw [c.2] at h
    unfold want at h
    rw [show r.is (if false = true then wInterface else wClass) = false from c.1] at h
    exact absurd h (fail_e _ (by decide))
theorem ex1_good {r : Rs} {b : Bool} (hw : Wd r) (h : (r.ex1 b).2.e = 0) : ((r.ex1 b).1.1 = noS ∨ (b = false ∧ freshW (r.ex1 b).1.1 = true)) ∧ (r.ex1 b).1.2.length ≤ 4 ∧ ∀ x ∈ (r.ex1 b).1.2, freshW x = true := by
  unfold ex1 at h ⊢
  by_cases c : r.is wExtends = true
  · rw [if_pos c] at h ⊢
    have hw1 := hw.go (step_fwd (is_at c))
    cases b with
    | true => exact ⟨.inl rfl, names_good hw1 h⟩
    | false => exact ⟨.inr ⟨rfl, fresh_good hw1 h⟩, Nat.zero_le _, fun x hx => by cases hx⟩
  · rw [if_neg c]; exact ⟨.inl rfl, Nat.zero_le _, fun x hx => by cases hx⟩
theorem ex2_good {r : Rs} {b : Bool} {l : List ByteArray} (hw : Wd r) (h : (r.ex2 b l).2.e = 0) (hl : l.length ≤ 4 ∧ ∀ x ∈ l, freshW x = true) : (r.ex2 b l).1.length ≤ 4 ∧ ∀ x ∈ (r.ex2 b l).1, freshW x = true := by
  unfold ex2 at h ⊢
  by_cases c : (!b && r.is wImplements) = true
  · rw [if_pos c] at h ⊢
    rw [Bool.and_eq_true] at c
    exact names_good (hw.go (step_fwd (is_at c.2))) h
  · rw [if_neg c]; exact hl
theorem class_good {r : Rs} {k : Int} (hw : Wd r) (h : (r.class' k).2.e = 0) : clsG (r.class' k).1 ∧ k < 10 := by
  have e1 : (r.clR k).e = 0 := (clsL_fwd _ _ _).good h
  have e2 := (want_fwd _ _).good e1
  have e3 := (ex2_fwd _ _ _).good e2
  have e4 := (ex1_fwd _ _).good e3
  have e5 := (fresh_fwd _).good e4
  have hw1 := hw.go (cl1_fwd r k)
  have hw2 := hw1.go (fresh_fwd _)
  obtain ⟨g1, g2⟩ := ex1_good hw2 e3
  have g3 := ex2_good (hw2.go (ex1_fwd _ _)) e2 g2
  refine ⟨clsL_good _ _ _ (hw.go (clR_fwd r k)) h ⟨fresh_good hw1 e4, g1, g3, ⟨Nat.zero_le _, fun x hx => by cases hx⟩, Nat.zero_le _, fun x hx => by cases hx⟩, cl1_good e5⟩
theorem prgL_good : ∀ (f : Nat) (r : Rs) (out : List Cls), Wd r → (prgL f r out).2.e = 0 → out.length ≤ 10 → (∀ x ∈ out, clsOk x = true) → (prgL f r out).1.length ≤ 10 ∧ ∀ x ∈ (prgL f r out).1, clsOk x = true
  | 0, r, out, hw, he, h1, h2 => ⟨h1, h2⟩
  | f + 1, r, out, hw, he, h1, h2 => by
    unfold prgL at he ⊢
    by_cases c : r.e = 0 ∧ r.i < r.L.length
    · rw [if_pos c] at he ⊢
      obtain ⟨g1, g2⟩ := class_good hw ((prgL_fwd f _ _).good he)
      refine prgL_good f _ _ (hw.go (class_fwd r _)) he (by simp only [List.length_append, List.length_singleton]; omega) fun x hx => ?_
      rcases List.mem_append.1 hx with q | q
      · exact h2 x q
      · rw [List.mem_singleton.1 q]; exact clsG_ok g1
    · rw [if_neg c]; exact ⟨h1, h2⟩
end Rs
/-- what is parsed can be shown -/
theorem parse_good {b : List UInt8} (h : (parseF b).2.2 = 0) : prgOk (parseF b).1 = true := by
  obtain ⟨h1, h2, h3, h4⟩ := parse_ok0 h
  rw [h4]
  have hw : Rs.Wd (parse0 b) := fun t ht => List.all_eq_true.1 (scan_wd b) t ht
  obtain ⟨g1, g2⟩ := Rs.prgL_good _ (parse0 b) [] hw h3 (Nat.zero_le _) (fun x hx => by cases hx)
  unfold prgOk
  rw [Bool.and_eq_true, decide_eq_true_eq, List.all_eq_true]
  exact ⟨g1, g2⟩
end Go.Proofs.YtadimoijlgmecaaGreatDoor.Ax
/- Layer show: ShowParsed. -/
set_option linter.unusedVariables false
set_option linter.unusedSimpArgs false
namespace Go.Proofs.YtadimoijlgmecaaGreatDoor.Ax
open Go Go.RowKit
theorem fresh_sz {s : ByteArray} (h : freshW s = true) : s.size ≤ 20 := by
  have h : freshF s.data.toList = true := h
  unfold freshF at h
  rw [Bool.and_eq_true] at h
  have := name_len h.1
  rw [sz_len] at this; exact this
theorem nil_sz {s : ByteArray} (h : s.data.toList = []) : s.size = 0 := by rw [← sz_len, h]; rfl
theorem ty_sz {t : Ty} (h : tyOk t = true) : t.2.size ≤ 20 := by
  have h : typedF t.1 t.2.data.toList = true := h
  unfold typedF at h
  split at h
  · rw [nil_sz (of_decide_eq_true h)]; omega
  · split at h
    · exact fresh_sz h
    · cases h
theorem named_sz {s : ByteArray} {b : Bool} (h : namedF s.data.toList b = true) : s.size ≤ 20 := by
  unfold namedF at h
  cases b with
  | true => exact fresh_sz h
  | false => rw [nil_sz (of_decide_eq_true (by simpa using h))]; omega
theorem ins_sz {x : Ins} (h : insOk x = true) : insD x := by
  have h : instrF x.op x.n x.a.data.toList x.b.data.toList = true := h
  unfold instrF at h
  simp only [Bool.and_eq_true] at h
  have h1 := named_sz h.1.2
  have h2 := named_sz h.2
  exact ⟨by unfold SM; omega, by unfold SM; omega⟩
theorem cat_sz {c : Cat} (h : catOk c = true) : catD c := by
  have h : catchF c.name.data.toList c.fr c.up c.at' = true := h
  unfold catchF at h
  simp only [Bool.and_eq_true] at h
  have h1 := fresh_sz (s := c.name) h.1.1.1
  show c.name.size ≤ SM
  unfold SM; omega
theorem meth_D {m : Meth} (h : methOk m = true) : methD m := by
  obtain ⟨h1, h2, ⟨h3, h4⟩, h5, h6, ⟨h7, h8⟩, h9, h10⟩ := meth_parts h
  have a1 := fresh_sz h2
  have a2 := ty_sz h5
  exact ⟨by unfold SM; omega, by unfold SM; omega, ⟨by omega, fun x hx => by have := ty_sz (h4 x hx); unfold SM; omega⟩, ⟨by omega, fun x hx => ins_sz (h8 x hx)⟩, by omega, fun x hx => cat_sz (h10 x hx)⟩
theorem fld_D {f : Fld} (h : fldOk f = true) : fldD f := by
  have h : (freshW f.name && tyOk f.type) = true := h
  rw [Bool.and_eq_true] at h
  have h1 := fresh_sz h.1
  have h2 := ty_sz h.2
  exact ⟨by unfold SM; omega, by unfold SM; omega⟩
theorem cls_D {c : Cls} (h : clsOk c = true) : clsD c := by
  obtain ⟨h1, h2, ⟨h3, h4⟩, ⟨h5, h6⟩, h7, h8⟩ := cls_parts h
  have a1 := fresh_sz h1
  have a2 : c.super.size ≤ 20 := by
    rcases h2 with q | q
    · rw [q]; decide
    · exact fresh_sz q.2
  exact ⟨by unfold SM; omega, by unfold SM; omega, ⟨by omega, fun x hx => by have := fresh_sz (h4 x hx); unfold SM; omega⟩, ⟨by omega, fun x hx => fld_D (h6 x hx)⟩, by omega, fun x hx => meth_D (h8 x hx)⟩
theorem prg_D {p : List Cls} (h : prgOk p = true) : prgD p := by
  obtain ⟨h1, h2⟩ := prg_parts h
  exact ⟨by omega, fun c hc => cls_D (h2 c hc)⟩
def ShowParsed : Ctr := { A := List UInt8, enc := fun b => [.row UInt8 1 byteC 0 b], dom := fun _ => True, res := fun _ _ => .tt, gl := tabP }
set_option maxRecDepth 100000 in
set_option maxHeartbeats 2000000 in
theorem ShowParsed_ok : CtrSound Tryz.prog 7 ShowParsed :=
  ctr_of_ax (env_okB tys_ok (eqs := []) trivial (cs := [(10, textK), (14, okC), (16, lS), (15, kPrg), (18, parseC)]) ⟨text_ok, ok_ok, wakesS_ok, kPrg_ok, parse_ok, trivial⟩ (bs := []) trivial (gl := tabP)) mixed _ Tryz.func7 (by kernel_rfl) rfl (fun _ _ => Nat.le_of_ble_eq_true rfl) fun (b : List UInt8) id hd => by
    refine ⟨fun h => ⟨.refl _, rfl⟩, fun h => ?_⟩
    have hb : b.length ≤ 7000 := by have := of_decide_eq_false h; omega
    refine ⟨b, ⟨.refl _, trivial⟩, rfl, (show b.length ≤ 4611686018427387904 by omega), ?_⟩
    refine ⟨fun h => ?_, fun h => ?_⟩
    · refine ⟨(), trivial, rfl, trivial, ?_⟩
      exact ⟨.refl _, rfl⟩
    have e0 : (parseF b).2.2 = 0 := beqT h
    have hok := parse_good e0
    have hD := prg_D hok
    have hl := show_len (parseF b).1
    refine ⟨(parseF b).1, ⟨.refl _, trivial⟩, rfl, hD, ?_⟩
    refine ⟨(parseF b).1, ⟨.refl _, trivial⟩, rfl, hD, ?_⟩
    have hcase : (showF (parseF b).1).2 = 0 ∨ (showF (parseF b).1).2 = 2 := by
      unfold showF
      rw [if_pos hok]
      split
      · exact .inr rfl
      · exact .inl rfl
    refine ⟨fun h => absurd h (by show ¬ ((if prgOk (parseF b).1 then (0 : Int) else 4) != 0) = true; rw [hok]; decide), fun h => ?_⟩
    refine ⟨fun h => ?_, fun h => ?_⟩
    · have e2 : (showF (parseF b).1).2 = 2 := by
        rcases hcase with q | q
        · have h : ((showF (parseF b).1).2 != 0) = true := h
          rw [q] at h; cases h
        · exact q
      refine ⟨fun h => absurd h (by show ¬ ((showF (parseF b).1).2 != 2) = true; rw [e2]; decide), fun h => ?_⟩
      refine ⟨fun h => ?_, fun h => absurd h (by show ¬ ((showF (parseF b).1).2 == 2) = false; rw [e2]; decide)⟩
      refine ⟨(), trivial, rfl, trivial, ?_⟩
      exact ⟨.refl _, rfl⟩
    have e2 : (showF (parseF b).1).2 = 0 := beqT h
    obtain ⟨s1, s2, s3⟩ := show_ok e2
    have hpar : parseF (showF (parseF b).1).1 = ((parseF b).1, 0, 0) := by rw [s3]; exact parse_text s1 s2
    refine ⟨fun h => absurd h (by show ¬ ((showF (parseF b).1).2 == 2) = true; rw [e2]; decide), fun h => ?_⟩
    refine ⟨(showF (parseF b).1).1, ⟨.refl _, trivial⟩, rfl, (show (showF (parseF b).1).1.length ≤ 4611686018427387904 by omega), ?_⟩
    refine ⟨fun h => ?_, fun h => absurd h (by show ¬ ((parseF (showF (parseF b).1).1).2.2 == 0) = false; rw [hpar]; simp)⟩
    refine ⟨((parseF b).1, (parseF (showF (parseF b).1).1).1), ⟨.refl _, .refl _, trivial⟩, rfl, ⟨parse_len _, parse_len _⟩, ?_⟩
    refine ⟨fun h => ?_, fun h => absurd h (by show ¬ decide ((parseF b).1 = (parseF (showF (parseF b).1).1).1) = false; rw [hpar]; simp)⟩
    refine ⟨(), trivial, rfl, trivial, ?_⟩
    exact ⟨.refl _, rfl⟩
end Go.Proofs.YtadimoijlgmecaaGreatDoor.Ax
/- What the rows list of the package's variables, as the walks ask for it. -/
set_option linter.unusedVariables false
namespace Go.Proofs.YtadimoijlgmecaaGreatDoor.Ax
open Go Go.RowKit
theorem var_keep {P : Program} {n : String} {W w' : World} {cs : Array Value} (h : W.var? P n = some cs) (hs : Sealed (cellsH W) w') (hsh : Shaped W w') : w'.var? P n = some cs := by
  unfold World.var? at h ⊢
  cases hg : P.globalNamed n with
  | none => rw [hg] at h; cases h
  | some g =>
    rw [hg] at h
    simp only [Option.bind_some] at h ⊢
    have hlt : g < W.heap.size := by
      rcases Nat.lt_or_ge g W.heap.size with h' | h'
      · exact h'
      · rw [Array.getElem?_eq_none h'] at h; cases h
    have h2 := hsh.2 g hlt
    cases ho : W.heap[g]? with
    | none => rw [ho] at h; cases h
    | some o =>
      rw [ho] at h
      cases o with
      | cells c t f =>
        simp only [Option.some.injEq] at h
        subst h
        simp only [World.shape?, ho] at h2
        cases ho' : w'.heap[g]? with
        | none => rw [ho'] at h2; cases h2
        | some o' =>
          rw [ho'] at h2
          cases o' with
          | cells c' t' f' =>
            simp only [Option.some.injEq, Prod.mk.injEq] at h2
            show some c' = some c
            congr 1
            apply Array.ext h2.2
            intro i hi hi'
            have h3 : cellsH W g i = some c[i] := by
              simp [cellsH, World.cell?, ho]
            have h4 := hs _ _ _ h3
            simp [World.cell?, ho'] at h4
            exact (Array.getElem?_eq_some_iff.1 h4).2
          | _ => cases h2
      | _ => cases h
theorem errRow (u : TypeId) (h : Tryz.prog.typeName? 3 u = some "*errors.errorString") : u = 209 :=
  typeName_ptr_named (nm := "errors.errorString") (by rw [show "*" ++ "errors.errorString" = "*errors.errorString" by decide]; kernel_rfl) (by kernel_rfl) (by decide) u (by rw [show "*" ++ "errors.errorString" = "*errors.errorString" by decide]; exact h)
theorem pow_eq {H : Type} : (Rows.laid_internal_strconv_uint64pow10 : DataW H) = Lib.tabData .u64 Lib.pow10Tab := rfl
theorem tabs_of {l : List (String × DataW Unit)} {W : World} (h : laidMet Tryz.prog l W)
    (h1 : (l.filter fun x => x.1 == "internal/strconv.uint64pow10") = [("internal/strconv.uint64pow10", Rows.laid_internal_strconv_uint64pow10)])
    (h2 : (l.filter fun x => x.1 == "strconv.ErrSyntax") = [("strconv.ErrSyntax", Rows.laid_strconv_ErrSyntax)]) : ∀ w', Sealed (cellsH W) w' → Shaped W w' → tabs w' := by
  intro w' hs hsh
  have a1 := h.filter fun x => x.1 == "internal/strconv.uint64pow10"
  rw [h1, pow_eq] at a1
  have t1 := Lib.tabIs_of_head (g := 3) (t := 185) (e := 167) (n := 20) (by kernel_rfl) (by kernel_rfl) Tryz.underlying185 Tryz.underlying167 (by kernel_rfl) (by kernel_rfl) a1
  have a2 := h.filter fun x => x.1 == "strconv.ErrSyntax"
  rw [h2] at a2
  obtain ⟨a, s, hv, -⟩ := laid_sentinel (g := 4) (ti := 70) (tp := 209) (te := 211) (ts := 9) a2 (by kernel_rfl) (by kernel_rfl) Tryz.underlying70 errRow Tryz.underlying209 Tryz.underlying211 rfl rfl Tryz.underlying9 (by kernel_rfl) (by kernel_rfl)
  exact ⟨var_keep t1 hs hsh, _, _, var_keep hv hs hsh⟩
end Go.Proofs.YtadimoijlgmecaaGreatDoor.Ax
/- What the rows list of the package's variables, as the walks of the parse layer ask for it. -/
set_option linter.unusedVariables false
namespace Go.Proofs.YtadimoijlgmecaaGreatDoor.Ax
open Go Go.RowKit
set_option maxRecDepth 100000 in
theorem space_eq {H : Type} : (Rows.laid_strings_asciiSpace : DataW H) = Lib.tabData .u8 Lib.asciiSpaceTab := rfl
theorem tabsP_of {l : List (String × DataW Unit)} {W : World} (h : laidMet Tryz.prog l W)
    (h1 : (l.filter fun x => x.1 == "internal/strconv.uint64pow10") = [("internal/strconv.uint64pow10", Rows.laid_internal_strconv_uint64pow10)])
    (h2 : (l.filter fun x => x.1 == "strconv.ErrSyntax") = [("strconv.ErrSyntax", Rows.laid_strconv_ErrSyntax)])
    (h3 : (l.filter fun x => x.1 == "strings.asciiSpace") = [("strings.asciiSpace", Rows.laid_strings_asciiSpace)]) : ∀ w', Sealed (cellsH W) w' → Shaped W w' → tabP w' := by
  intro w' hs hsh
  have a1 := h.filter fun x => x.1 == "strings.asciiSpace"
  rw [h3, space_eq] at a1
  have t1 := Lib.tabIs_of_head (g := 0) (t := 159) (e := 5) (n := 256) (by kernel_rfl) (by kernel_rfl) Tryz.underlying159 Tryz.underlying5 (by kernel_rfl) (by kernel_rfl) a1
  exact ⟨tabs_of h h1 h2 w' hs hsh, var_keep t1 hs hsh⟩
end Go.Proofs.YtadimoijlgmecaaGreatDoor.Ax
