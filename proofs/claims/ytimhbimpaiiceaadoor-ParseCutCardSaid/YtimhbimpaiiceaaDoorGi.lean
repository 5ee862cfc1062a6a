/- Layer parse: a class' members. -/
import Derived.Test.YtimhbimpaiiceaaDoorGh
set_option linter.unusedVariables false
set_option linter.unusedSimpArgs false
namespace Go.Proofs.YtimhbimpaiiceaaDoor.Ax
open Go Go.RowKit
def cPre (c : Cls) (a b : Nat) : List SV := [S c.name, B c.iface, S c.super, .row ByteArray 1 strC noS c.ifaces, .own Fld 4 fldC fld0 c.fields a, .own Meth 9 methC meth0 c.methods b]
def memberRC : CtrB := { A := Rs × Cls, enc := fun x => [.box 1000 0, .box 1001 0], pre := fun x => [rsC x.1, cPre x.2 6900000 7000000], dom := fun x => rok x.1 ∧ x.2.fields.length ≤ 2000000 ∧ x.2.methods.length ≤ 2000000, res := fun _ _ => .tup [], post := fun x id => [rsC (x.1.member x.2).2, cPre (x.1.member x.2).1 (id + 6900000) (id + 7000000)], gl := tabP }
theorem baT {a b : ByteArray} (h : (a.toList == b.toList) = true) : a = b := by rw [ba_eq] at h; exact of_decide_eq_true h
theorem baF {a b : ByteArray} (h : (a.toList == b.toList) = false) : a ≠ b := by rw [ba_eq] at h; exact of_decide_eq_false h
set_option maxRecDepth 100000 in
set_option maxHeartbeats 8000000 in
theorem memberR_ok : CtrBSound Tryd.prog 52 memberRC :=
  ctrB_of_ax2 mixed _ Tryd.func52 (by kernel_rfl) rfl (fun _ _ => ⟨Nat.le_of_ble_eq_true rfl, Nat.le_of_ble_eq_true rfl⟩) fun ((r, c) : Rs × Cls) id hd => by
    refine ⟨_, ⟨env_okB tys_ok (eqs := []) trivial (cs := [(61, nextC)]) ⟨next_ok, trivial⟩ (bs := [(47, roomC), (48, wantC), (49, freshRC), (64, kindRC), (65, paramsRC), (50, takeC), (66, bodyRC), (62, failC)]) ⟨room_ok, want_ok, freshR_ok, kindR_ok, paramsR_ok, take_ok, bodyR_ok, fail_ok, trivial⟩ (gl := tabP), fun _ h => h⟩, ?_⟩
    refine ⟨(r, ()), ⟨.refl _, trivial⟩, rfl, ⟨hd.1, trivial⟩, ?_⟩
    refine ⟨fun h1 => ?_, fun h1 => ?_⟩
    · have w1 : r.next.2.1 = wField := baT h1
      have hor : r.next.2.1 = wField ∨ r.next.2.1 = wStatic := .inl w1
      refine ⟨fun _ => ?_, fun c => (noTF h1 c).elim⟩
      have hr : rok r := hd.1
      have g1 : Fwd r (r.memF c.fields.length) := Rs.memF_fwd r c.fields.length
      have g2 := g1.trans (Rs.fresh_fwd _)
      have g3 := g2.trans (Rs.want_fwd _ wColon)
      have g4 := g3.trans (Rs.kind_fwd _)
      have e : r.member c = (⟨c.name, c.iface, c.super, c.ifaces, c.fields ++ [(r.memF c.fields.length).mfV (decide (r.next.2.1 = wStatic))], c.methods⟩, (r.memF c.fields.length).mfR) := if_pos hor
      refine ⟨by kernel_rfl, ?_⟩
      refine ⟨(r, (c.fields.length : Int), 6), ⟨.refl _, .refl _, .refl _, trivial⟩, ⟨⟨rfl, .refl _, .refl _, .refl _, .refl _, .refl _, trivial⟩, trivial⟩, ⟨hr, trivial⟩, ?_⟩
      refine ⟨by kernel_rfl, ?_⟩
      refine ⟨(r.room c.fields.length 6, r.next.2.1), ⟨.refl _, .refl _, trivial⟩, ⟨⟨rfl, .refl _, .refl _, .refl _, .refl _, .refl _, trivial⟩, trivial⟩, ⟨rok_fwd hr (Rs.room_fwd r _ _), trivial⟩, ?_⟩
      refine ⟨by kernel_rfl, ?_⟩
      refine ⟨((r.memF c.fields.length), ()), ⟨.refl _, trivial⟩, ⟨⟨rfl, .refl _, .refl _, .refl _, .refl _, .refl _, trivial⟩, trivial⟩, ⟨rok_fwd hr g1, trivial⟩, ?_⟩
      refine ⟨by kernel_rfl, ?_⟩
      refine ⟨((r.memF c.fields.length).fresh, wColon), ⟨.refl _, .str rfl, trivial⟩, ⟨⟨rfl, .refl _, .refl _, .refl _, .refl _, .refl _, trivial⟩, trivial⟩, ⟨rok_fwd hr g2, trivial⟩, ?_⟩
      refine ⟨by kernel_rfl, ?_⟩
      refine ⟨((r.memF c.fields.length).fresh.want wColon, ()), ⟨.refl _, trivial⟩, ⟨⟨rfl, .refl _, .refl _, .refl _, .refl _, .refl _, trivial⟩, trivial⟩, ⟨rok_fwd hr g3, trivial⟩, ?_⟩
      refine ⟨by kernel_rfl, ?_⟩
      refine ⟨(((r.memF c.fields.length).fresh.want wColon).kind, wSemi), ⟨.refl _, .str rfl, trivial⟩, ⟨⟨rfl, .refl _, .refl _, .refl _, .refl _, .refl _, trivial⟩, trivial⟩, ⟨rok_fwd hr g4, trivial⟩, ?_⟩
      refine ⟨by kernel_rfl, ?_⟩
      refine ⟨Fld, fldC, fld0, [(r.memF c.fields.length).mfV (decide (r.next.2.1 = wStatic))], ⟨rfl, fun _ => rfl⟩, ⟨.refl _, .refl _, .refl _, .bool (ba_eq _ _), trivial⟩, rfl, ?_⟩
      refine ⟨Fld, fldC, fld0, c.fields, [(r.memF c.fields.length).mfV (decide (r.next.2.1 = wStatic))], 6900000, ⟨.refl _, .own ..⟩, fun _ => rfl, (by have h5 : c.fields.length ≤ 2000000 := hd.2.1; show (c.fields.length + 1) * 48 ≤ 140737488355328; omega), ?_⟩
      have hE : (((r.memF c.fields.length).fresh.want wColon).kind).want wSemi = (r.member c).2 := by rw [e]; rfl
      exact ⟨.refl (.tup []), ⟨rfl, .rowEq (rL hE :), .int (rI hE :), .int (rN hE :), .int (rA hE :), .int (rE hE :), trivial⟩, ⟨rfl, .str (by rw [e]), .bool (by rw [e]), .str (by rw [e]), .rowEq (by rw [e]), .ownEq (by rw [e]), .ownEq (by rw [e]), trivial⟩, trivial⟩
    have w1 : r.next.2.1 ≠ wField := baF h1
    refine ⟨fun h2 => ?_, fun h2 => ?_⟩
    · have hor : r.next.2.1 = wField ∨ r.next.2.1 = wStatic := .inr (baT h2)
      have hr : rok r := hd.1
      have g1 : Fwd r (r.memF c.fields.length) := Rs.memF_fwd r c.fields.length
      have g2 := g1.trans (Rs.fresh_fwd _)
      have g3 := g2.trans (Rs.want_fwd _ wColon)
      have g4 := g3.trans (Rs.kind_fwd _)
      have e : r.member c = (⟨c.name, c.iface, c.super, c.ifaces, c.fields ++ [(r.memF c.fields.length).mfV (decide (r.next.2.1 = wStatic))], c.methods⟩, (r.memF c.fields.length).mfR) := if_pos hor
      refine ⟨by kernel_rfl, ?_⟩
      refine ⟨(r, (c.fields.length : Int), 6), ⟨.refl _, .refl _, .refl _, trivial⟩, ⟨⟨rfl, .refl _, .refl _, .refl _, .refl _, .refl _, trivial⟩, trivial⟩, ⟨hr, trivial⟩, ?_⟩
      refine ⟨by kernel_rfl, ?_⟩
      refine ⟨(r.room c.fields.length 6, r.next.2.1), ⟨.refl _, .refl _, trivial⟩, ⟨⟨rfl, .refl _, .refl _, .refl _, .refl _, .refl _, trivial⟩, trivial⟩, ⟨rok_fwd hr (Rs.room_fwd r _ _), trivial⟩, ?_⟩
      refine ⟨by kernel_rfl, ?_⟩
      refine ⟨((r.memF c.fields.length), ()), ⟨.refl _, trivial⟩, ⟨⟨rfl, .refl _, .refl _, .refl _, .refl _, .refl _, trivial⟩, trivial⟩, ⟨rok_fwd hr g1, trivial⟩, ?_⟩
      refine ⟨by kernel_rfl, ?_⟩
      refine ⟨((r.memF c.fields.length).fresh, wColon), ⟨.refl _, .str rfl, trivial⟩, ⟨⟨rfl, .refl _, .refl _, .refl _, .refl _, .refl _, trivial⟩, trivial⟩, ⟨rok_fwd hr g2, trivial⟩, ?_⟩
      refine ⟨by kernel_rfl, ?_⟩
      refine ⟨((r.memF c.fields.length).fresh.want wColon, ()), ⟨.refl _, trivial⟩, ⟨⟨rfl, .refl _, .refl _, .refl _, .refl _, .refl _, trivial⟩, trivial⟩, ⟨rok_fwd hr g3, trivial⟩, ?_⟩
      refine ⟨by kernel_rfl, ?_⟩
      refine ⟨(((r.memF c.fields.length).fresh.want wColon).kind, wSemi), ⟨.refl _, .str rfl, trivial⟩, ⟨⟨rfl, .refl _, .refl _, .refl _, .refl _, .refl _, trivial⟩, trivial⟩, ⟨rok_fwd hr g4, trivial⟩, ?_⟩
      refine ⟨by kernel_rfl, ?_⟩
      refine ⟨Fld, fldC, fld0, [(r.memF c.fields.length).mfV (decide (r.next.2.1 = wStatic))], ⟨rfl, fun _ => rfl⟩, ⟨.refl _, .refl _, .refl _, .bool (ba_eq _ _), trivial⟩, rfl, ?_⟩
      refine ⟨Fld, fldC, fld0, c.fields, [(r.memF c.fields.length).mfV (decide (r.next.2.1 = wStatic))], 6900000, ⟨.refl _, .own ..⟩, fun _ => rfl, (by have h5 : c.fields.length ≤ 2000000 := hd.2.1; show (c.fields.length + 1) * 48 ≤ 140737488355328; omega), ?_⟩
      have hE : (((r.memF c.fields.length).fresh.want wColon).kind).want wSemi = (r.member c).2 := by rw [e]; rfl
      exact ⟨.refl (.tup []), ⟨rfl, .rowEq (rL hE :), .int (rI hE :), .int (rN hE :), .int (rA hE :), .int (rE hE :), trivial⟩, ⟨rfl, .str (by rw [e]), .bool (by rw [e]), .str (by rw [e]), .rowEq (by rw [e]), .ownEq (by rw [e]), .ownEq (by rw [e]), trivial⟩, trivial⟩
    have w2 : r.next.2.1 ≠ wStatic := baF h2
    have hno : ¬ (r.next.2.1 = wField ∨ r.next.2.1 = wStatic) := fun c => c.elim w1 w2
    refine ⟨fun h3 => ?_, fun h3 => ?_⟩
    · have hor : r.next.2.1 = wMethod ∨ r.next.2.1 = wFunction := .inl (baT h3)
      refine ⟨fun _ => ?_, fun c => (noTF h3 c).elim⟩
      have hr : rok r := hd.1
      have g1 : Fwd r (r.memF c.methods.length) := Rs.memF_fwd r c.methods.length
      have g2 := g1.trans (Rs.fresh_fwd _)
      have g3 := g2.trans (Rs.params_fwd _)
      have g4 : Fwd r (r.memF c.methods.length).mm1 := g1.trans (Rs.mm1_fwd _)
      refine ⟨by kernel_rfl, ?_⟩
      refine ⟨(r, (c.methods.length : Int), 6), ⟨.refl _, .refl _, .refl _, trivial⟩, ⟨⟨rfl, .refl _, .refl _, .refl _, .refl _, .refl _, trivial⟩, trivial⟩, ⟨hr, trivial⟩, ?_⟩
      refine ⟨by kernel_rfl, ?_⟩
      refine ⟨(r.room c.methods.length 6, r.next.2.1), ⟨.refl _, .refl _, trivial⟩, ⟨⟨rfl, .refl _, .refl _, .refl _, .refl _, .refl _, trivial⟩, trivial⟩, ⟨rok_fwd hr (Rs.room_fwd r _ _), trivial⟩, ?_⟩
      refine ⟨by kernel_rfl, ?_⟩
      refine ⟨((r.memF c.methods.length), ()), ⟨.refl _, trivial⟩, ⟨⟨rfl, .refl _, .refl _, .refl _, .refl _, .refl _, trivial⟩, trivial⟩, ⟨rok_fwd hr g1, trivial⟩, ?_⟩
      refine ⟨by kernel_rfl, ?_⟩
      refine ⟨((r.memF c.methods.length).fresh, ()), ⟨.refl _, trivial⟩, ⟨⟨rfl, .refl _, .refl _, .refl _, .refl _, .refl _, trivial⟩, trivial⟩, ⟨rok_fwd hr g2, trivial⟩, ?_⟩
      refine ⟨by kernel_rfl, ?_⟩
      refine ⟨((r.memF c.methods.length).fresh.params.2, ()), ⟨.refl _, trivial⟩, ⟨⟨rfl, .refl _, .refl _, .refl _, .refl _, .refl _, trivial⟩, trivial⟩, ⟨rok_fwd hr g3, trivial⟩, ?_⟩
      refine ⟨by kernel_rfl, ?_⟩
      refine ⟨((r.memF c.methods.length).mm1, wSemi), ⟨.refl _, .str rfl, trivial⟩, ⟨⟨rfl, .refl _, .refl _, .refl _, .refl _, .refl _, trivial⟩, trivial⟩, ⟨rok_fwd hr g4, trivial⟩, ?_⟩
      refine ⟨fun h => ?_, fun h => ?_⟩
      · have h1 : (r.memF c.methods.length).mm1.is wSemi = false := notT h
        have hv : (r.memF c.methods.length).mmV (decide (r.next.2.1 = wFunction)) = (r.memF c.methods.length).mm1.bodyV ((r.memF c.methods.length).mm1V (decide (r.next.2.1 = wFunction))) := if_neg (by rw [h1]; decide)
        have hR : (r.memF c.methods.length).mm1.body = (r.memF c.methods.length).mmR := (if_neg (by rw [h1]; decide)).symm
        have hE : (r.memF c.methods.length).mm1.take wSemi = (r.memF c.methods.length).mm1 := take_no h1
        refine ⟨by kernel_rfl, ?_⟩
        refine ⟨((r.memF c.methods.length).mm1, ((r.memF c.methods.length).mm1V (decide (r.next.2.1 = wFunction)))), ⟨.refl _, .refl _, trivial⟩, ⟨⟨rfl, .rowEq (rL hE :), .int (rI hE :), .int (rN hE :), .int (rA hE :), .int (rE hE :), trivial⟩, ⟨rfl, .refl _, .bool (ba_eq _ _), .refl _, .refl _, .refl _, .refl _, .refl _, .refl _, .refl _, trivial⟩, trivial⟩, rok_fwd hr g4, ?_⟩
        clear hE
        have e : r.member c = (⟨c.name, c.iface, c.super, c.ifaces, c.fields, c.methods ++ [(r.memF c.methods.length).mm1.bodyV ((r.memF c.methods.length).mm1V (decide (r.next.2.1 = wFunction)))]⟩, (r.memF c.methods.length).mmR) := by
          unfold Rs.member; rw [if_neg hno, if_pos hor, hv]
        refine ⟨by kernel_rfl, ?_⟩
        refine ⟨Meth, methC, meth0, [(r.memF c.methods.length).mm1.bodyV ((r.memF c.methods.length).mm1V (decide (r.next.2.1 = wFunction)))], ⟨rfl, fun _ => rfl⟩, ⟨.refl _, .refl _, .refl _, .refl _, .refl _, .refl _, .refl _, .refl _, .refl _, trivial⟩, rfl, ?_⟩
        refine ⟨Meth, methC, meth0, c.methods, [(r.memF c.methods.length).mm1.bodyV ((r.memF c.methods.length).mm1V (decide (r.next.2.1 = wFunction)))], 7000000, ⟨.refl _, .own ..⟩, fun _ => rfl, (by have h5 : c.methods.length ≤ 2000000 := hd.2.2; show (c.methods.length + 1) * 128 ≤ 140737488355328; omega), ?_⟩
        have hE : (r.memF c.methods.length).mm1.body = (r.member c).2 := by rw [e]; exact hR
        exact ⟨.refl (.tup []), ⟨rfl, .rowEq (rL hE :), .int (rI hE :), .int (rN hE :), .int (rA hE :), .int (rE hE :), trivial⟩, ⟨rfl, .str (by rw [e]), .bool (by rw [e]), .str (by rw [e]), .rowEq (by rw [e]), .ownEq (by rw [e]), .ownEq (by rw [e]), trivial⟩, trivial⟩
      · have h1 : (r.memF c.methods.length).mm1.is wSemi = true := notF h
        have hv : (r.memF c.methods.length).mmV (decide (r.next.2.1 = wFunction)) = ((r.memF c.methods.length).mm1V (decide (r.next.2.1 = wFunction))) := if_pos h1
        have hR : (r.memF c.methods.length).mm1.take wSemi = (r.memF c.methods.length).mmR := by rw [take_yes h1]; exact (if_pos h1).symm
        have e : r.member c = (⟨c.name, c.iface, c.super, c.ifaces, c.fields, c.methods ++ [((r.memF c.methods.length).mm1V (decide (r.next.2.1 = wFunction)))]⟩, (r.memF c.methods.length).mmR) := by
          unfold Rs.member; rw [if_neg hno, if_pos hor, hv]
        refine ⟨by kernel_rfl, ?_⟩
        refine ⟨Meth, methC, meth0, [((r.memF c.methods.length).mm1V (decide (r.next.2.1 = wFunction)))], ⟨rfl, fun _ => rfl⟩, ⟨.refl _, .bool (ba_eq _ _), .refl _, .own .., .refl _, .refl _, .refl _, .nil .., .nil .., trivial⟩, rfl, ?_⟩
        refine ⟨Meth, methC, meth0, c.methods, [((r.memF c.methods.length).mm1V (decide (r.next.2.1 = wFunction)))], 7000000, ⟨.refl _, .own ..⟩, fun _ => rfl, (by have h5 : c.methods.length ≤ 2000000 := hd.2.2; show (c.methods.length + 1) * 128 ≤ 140737488355328; omega), ?_⟩
        have hE : (r.memF c.methods.length).mm1.take wSemi = (r.member c).2 := by rw [e]; exact hR
        exact ⟨.refl (.tup []), ⟨rfl, .rowEq (rL hE :), .int (rI hE :), .int (rN hE :), .int (rA hE :), .int (rE hE :), trivial⟩, ⟨rfl, .str (by rw [e]), .bool (by rw [e]), .str (by rw [e]), .rowEq (by rw [e]), .ownEq (by rw [e]), .ownEq (by rw [e]), trivial⟩, trivial⟩
    have w3 : r.next.2.1 ≠ wMethod := baF h3
    refine ⟨fun h4 => ?_, fun h4 => ?_⟩
    · have hor : r.next.2.1 = wMethod ∨ r.next.2.1 = wFunction := .inr (baT h4)
      have hr : rok r := hd.1
      have g1 : Fwd r (r.memF c.methods.length) := Rs.memF_fwd r c.methods.length
      have g2 := g1.trans (Rs.fresh_fwd _)
      have g3 := g2.trans (Rs.params_fwd _)
      have g4 : Fwd r (r.memF c.methods.length).mm1 := g1.trans (Rs.mm1_fwd _)
      refine ⟨by kernel_rfl, ?_⟩
      refine ⟨(r, (c.methods.length : Int), 6), ⟨.refl _, .refl _, .refl _, trivial⟩, ⟨⟨rfl, .refl _, .refl _, .refl _, .refl _, .refl _, trivial⟩, trivial⟩, ⟨hr, trivial⟩, ?_⟩
      refine ⟨by kernel_rfl, ?_⟩
      refine ⟨(r.room c.methods.length 6, r.next.2.1), ⟨.refl _, .refl _, trivial⟩, ⟨⟨rfl, .refl _, .refl _, .refl _, .refl _, .refl _, trivial⟩, trivial⟩, ⟨rok_fwd hr (Rs.room_fwd r _ _), trivial⟩, ?_⟩
      refine ⟨by kernel_rfl, ?_⟩
      refine ⟨((r.memF c.methods.length), ()), ⟨.refl _, trivial⟩, ⟨⟨rfl, .refl _, .refl _, .refl _, .refl _, .refl _, trivial⟩, trivial⟩, ⟨rok_fwd hr g1, trivial⟩, ?_⟩
      refine ⟨by kernel_rfl, ?_⟩
      refine ⟨((r.memF c.methods.length).fresh, ()), ⟨.refl _, trivial⟩, ⟨⟨rfl, .refl _, .refl _, .refl _, .refl _, .refl _, trivial⟩, trivial⟩, ⟨rok_fwd hr g2, trivial⟩, ?_⟩
      refine ⟨by kernel_rfl, ?_⟩
      refine ⟨((r.memF c.methods.length).fresh.params.2, ()), ⟨.refl _, trivial⟩, ⟨⟨rfl, .refl _, .refl _, .refl _, .refl _, .refl _, trivial⟩, trivial⟩, ⟨rok_fwd hr g3, trivial⟩, ?_⟩
      refine ⟨by kernel_rfl, ?_⟩
      refine ⟨((r.memF c.methods.length).mm1, wSemi), ⟨.refl _, .str rfl, trivial⟩, ⟨⟨rfl, .refl _, .refl _, .refl _, .refl _, .refl _, trivial⟩, trivial⟩, ⟨rok_fwd hr g4, trivial⟩, ?_⟩
      refine ⟨fun h => ?_, fun h => ?_⟩
      · have h1 : (r.memF c.methods.length).mm1.is wSemi = false := notT h
        have hv : (r.memF c.methods.length).mmV (decide (r.next.2.1 = wFunction)) = (r.memF c.methods.length).mm1.bodyV ((r.memF c.methods.length).mm1V (decide (r.next.2.1 = wFunction))) := if_neg (by rw [h1]; decide)
        have hR : (r.memF c.methods.length).mm1.body = (r.memF c.methods.length).mmR := (if_neg (by rw [h1]; decide)).symm
        have hE : (r.memF c.methods.length).mm1.take wSemi = (r.memF c.methods.length).mm1 := take_no h1
        refine ⟨by kernel_rfl, ?_⟩
        refine ⟨((r.memF c.methods.length).mm1, ((r.memF c.methods.length).mm1V (decide (r.next.2.1 = wFunction)))), ⟨.refl _, .refl _, trivial⟩, ⟨⟨rfl, .rowEq (rL hE :), .int (rI hE :), .int (rN hE :), .int (rA hE :), .int (rE hE :), trivial⟩, ⟨rfl, .refl _, .bool (ba_eq _ _), .refl _, .refl _, .refl _, .refl _, .refl _, .refl _, .refl _, trivial⟩, trivial⟩, rok_fwd hr g4, ?_⟩
        clear hE
        have e : r.member c = (⟨c.name, c.iface, c.super, c.ifaces, c.fields, c.methods ++ [(r.memF c.methods.length).mm1.bodyV ((r.memF c.methods.length).mm1V (decide (r.next.2.1 = wFunction)))]⟩, (r.memF c.methods.length).mmR) := by
          unfold Rs.member; rw [if_neg hno, if_pos hor, hv]
        refine ⟨by kernel_rfl, ?_⟩
        refine ⟨Meth, methC, meth0, [(r.memF c.methods.length).mm1.bodyV ((r.memF c.methods.length).mm1V (decide (r.next.2.1 = wFunction)))], ⟨rfl, fun _ => rfl⟩, ⟨.refl _, .refl _, .refl _, .refl _, .refl _, .refl _, .refl _, .refl _, .refl _, trivial⟩, rfl, ?_⟩
        refine ⟨Meth, methC, meth0, c.methods, [(r.memF c.methods.length).mm1.bodyV ((r.memF c.methods.length).mm1V (decide (r.next.2.1 = wFunction)))], 7000000, ⟨.refl _, .own ..⟩, fun _ => rfl, (by have h5 : c.methods.length ≤ 2000000 := hd.2.2; show (c.methods.length + 1) * 128 ≤ 140737488355328; omega), ?_⟩
        have hE : (r.memF c.methods.length).mm1.body = (r.member c).2 := by rw [e]; exact hR
        exact ⟨.refl (.tup []), ⟨rfl, .rowEq (rL hE :), .int (rI hE :), .int (rN hE :), .int (rA hE :), .int (rE hE :), trivial⟩, ⟨rfl, .str (by rw [e]), .bool (by rw [e]), .str (by rw [e]), .rowEq (by rw [e]), .ownEq (by rw [e]), .ownEq (by rw [e]), trivial⟩, trivial⟩
      · have h1 : (r.memF c.methods.length).mm1.is wSemi = true := notF h
        have hv : (r.memF c.methods.length).mmV (decide (r.next.2.1 = wFunction)) = ((r.memF c.methods.length).mm1V (decide (r.next.2.1 = wFunction))) := if_pos h1
        have hR : (r.memF c.methods.length).mm1.take wSemi = (r.memF c.methods.length).mmR := by rw [take_yes h1]; exact (if_pos h1).symm
        have e : r.member c = (⟨c.name, c.iface, c.super, c.ifaces, c.fields, c.methods ++ [((r.memF c.methods.length).mm1V (decide (r.next.2.1 = wFunction)))]⟩, (r.memF c.methods.length).mmR) := by
          unfold Rs.member; rw [if_neg hno, if_pos hor, hv]
        refine ⟨by kernel_rfl, ?_⟩
        refine ⟨Meth, methC, meth0, [((r.memF c.methods.length).mm1V (decide (r.next.2.1 = wFunction)))], ⟨rfl, fun _ => rfl⟩, ⟨.refl _, .bool (ba_eq _ _), .refl _, .own .., .refl _, .refl _, .refl _, .nil .., .nil .., trivial⟩, rfl, ?_⟩
        refine ⟨Meth, methC, meth0, c.methods, [((r.memF c.methods.length).mm1V (decide (r.next.2.1 = wFunction)))], 7000000, ⟨.refl _, .own ..⟩, fun _ => rfl, (by have h5 : c.methods.length ≤ 2000000 := hd.2.2; show (c.methods.length + 1) * 128 ≤ 140737488355328; omega), ?_⟩
        have hE : (r.memF c.methods.length).mm1.take wSemi = (r.member c).2 := by rw [e]; exact hR
        exact ⟨.refl (.tup []), ⟨rfl, .rowEq (rL hE :), .int (rI hE :), .int (rN hE :), .int (rA hE :), .int (rE hE :), trivial⟩, ⟨rfl, .str (by rw [e]), .bool (by rw [e]), .str (by rw [e]), .rowEq (by rw [e]), .ownEq (by rw [e]), .ownEq (by rw [e]), trivial⟩, trivial⟩
    have w4 : r.next.2.1 ≠ wFunction := baF h4
    have e : r.member c = (c, r.fail 4) := by
      unfold Rs.member; rw [if_neg hno, if_neg (fun c => c.elim w3 w4)]
    refine ⟨by kernel_rfl, ?_⟩
    refine ⟨(r, 4), ⟨.refl _, .refl _, trivial⟩, ⟨⟨rfl, .refl _, .refl _, .refl _, .refl _, .refl _, trivial⟩, trivial⟩, ⟨hd.1, trivial⟩, ?_⟩
    have hE : r.fail 4 = (r.member c).2 := by rw [e]
    exact ⟨.refl (.tup []), ⟨rfl, .rowEq (rL hE :), .int (rI hE :), .int (rN hE :), .int (rA hE :), .int (rE hE :), trivial⟩, ⟨rfl, .str (by rw [e]), .bool (by rw [e]), .str (by rw [e]), .rowEq (by rw [e]), .ownEq (by rw [e]), .ownEq (by rw [e]), trivial⟩, trivial⟩
end Go.Proofs.YtimhbimpaiiceaaDoor.Ax
