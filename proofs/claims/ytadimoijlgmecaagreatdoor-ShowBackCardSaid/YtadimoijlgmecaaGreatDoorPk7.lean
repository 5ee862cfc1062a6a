/- Walks and laws, part 7: Gi Gj Sh Gk Gn Gv Sr Ta Lw Gw Hs. -/
import Derived.Test.YtadimoijlgmecaaGreatDoorPk6
import Derived.Test.YtadimoijlgmecaaGreatDoorRows
import Derived.Stop.LaidErr
import Derived.LaidSub
import Derived.LaidMore
import Derived.Stop.Joined
import Derived.MakeChecks
import Derived.Lib.LaidTab
/- Layer parse: a class' members. -/
set_option linter.unusedVariables false
set_option linter.unusedSimpArgs false
namespace Go.Proofs.YtadimoijlgmecaaGreatDoor.Ax
open Go Go.RowKit
def cPre (c : Cls) (a b : Nat) : List SV := [S c.name, B c.iface, S c.super, .row ByteArray 1 strC noS c.ifaces, .own Fld 4 fldC fld0 c.fields a, .own Meth 9 methC meth0 c.methods b]
def memberRC : CtrB := { A := Rs × Cls, enc := fun x => [.box 1000 0, .box 1001 0], pre := fun x => [rsC x.1, cPre x.2 6900000 7000000], dom := fun x => rok x.1 ∧ x.2.fields.length ≤ 2000000 ∧ x.2.methods.length ≤ 2000000, res := fun _ _ => .tup [], post := fun x id => [rsC (x.1.member x.2).2, cPre (x.1.member x.2).1 (id + 6900000) (id + 7000000)], gl := tabP }
theorem baT {a b : ByteArray} (h : (a.toList == b.toList) = true) : a = b := by rw [ba_eq] at h; exact of_decide_eq_true h
theorem baF {a b : ByteArray} (h : (a.toList == b.toList) = false) : a ≠ b := by rw [ba_eq] at h; exact of_decide_eq_false h
set_option maxRecDepth 100000 in
set_option maxHeartbeats 8000000 in
theorem memberR_ok : CtrBSound Tryz.prog 68 memberRC :=
  ctrB_of_ax2 mixed _ Tryz.func68 (by kernel_rfl) rfl (fun _ _ => ⟨Nat.le_of_ble_eq_true rfl, Nat.le_of_ble_eq_true rfl⟩) fun ((r, c) : Rs × Cls) id hd => by
    refine ⟨_, ⟨env_okB tys_ok (eqs := []) trivial (cs := [(97, nextC)]) ⟨next_ok, trivial⟩ (bs := [(63, roomC), (64, wantC), (65, freshRC), (100, kindRC), (101, paramsRC), (66, takeC), (102, bodyRC), (98, failC)]) ⟨room_ok, want_ok, freshR_ok, kindR_ok, paramsR_ok, take_ok, bodyR_ok, fail_ok, trivial⟩ (gl := tabP), fun _ h => h⟩, ?_⟩
    refine ⟨(r, ()), ⟨.refl _, trivial⟩, rfl, ⟨hd.1, trivial⟩, ?_⟩
    refine ⟨fun h1 => ?_, fun h1 => ?_⟩
    · have w1 : r.next.2.1 = wField := baT h1
      have hor : r.next.2.1 = wField ∨ r.next.2.1 = wStatic := .inl w1
      refine ⟨fun _ => ?_, fun c => (noTF h1 c).elim⟩
      have hr : rok r := hd.1
      have g1 : Fwd r (r.memF c.fields.length) := Rs.memF_fwd r c.fields.length
      have g2 := g1.trans (Rs.fresh_fwd _)
      have g3 := g2.trans (Rs.want_fwd _ wColon)
      have g4 := g3.trans (Rs.kind_fwd _)
      have e : r.member c = (⟨c.name, c.iface, c.super, c.ifaces, c.fields ++ [(r.memF c.fields.length).mfV (decide (r.next.2.1 = wStatic))], c.methods⟩, (r.memF c.fields.length).mfR) := if_pos hor
      refine ⟨by kernel_rfl, ?_⟩
      refine ⟨(r, (c.fields.length : Int), 6), ⟨.refl _, .refl _, .refl _, trivial⟩, ⟨⟨rfl, .refl _, .refl _, .refl _, .refl _, .refl _, trivial⟩, trivial⟩, ⟨hr, trivial⟩, ?_⟩
      refine ⟨by kernel_rfl, ?_⟩
      refine ⟨(r.room c.fields.length 6, r.next.2.1), ⟨.refl _, .refl _, trivial⟩, ⟨⟨rfl, .refl _, .refl _, .refl _, .refl _, .refl _, trivial⟩, trivial⟩, ⟨rok_fwd hr (Rs.room_fwd r _ _), trivial⟩, ?_⟩
      refine ⟨by kernel_rfl, ?_⟩
      refine ⟨((r.memF c.fields.length), ()), ⟨.refl _, trivial⟩, ⟨⟨rfl, .refl _, .refl _, .refl _, .refl _, .refl _, trivial⟩, trivial⟩, ⟨rok_fwd hr g1, trivial⟩, ?_⟩
      refine ⟨by kernel_rfl, ?_⟩
      refine ⟨((r.memF c.fields.length).fresh, wColon), ⟨.refl _, .str rfl, trivial⟩, ⟨⟨rfl, .refl _, .refl _, .refl _, .refl _, .refl _, trivial⟩, trivial⟩, ⟨rok_fwd hr g2, trivial⟩, ?_⟩
      refine ⟨by kernel_rfl, ?_⟩
      refine ⟨((r.memF c.fields.length).fresh.want wColon, ()), ⟨.refl _, trivial⟩, ⟨⟨rfl, .refl _, .refl _, .refl _, .refl _, .refl _, trivial⟩, trivial⟩, ⟨rok_fwd hr g3, trivial⟩, ?_⟩
      refine ⟨by kernel_rfl, ?_⟩
      refine ⟨(((r.memF c.fields.length).fresh.want wColon).kind, wSemi), ⟨.refl _, .str rfl, trivial⟩, ⟨⟨rfl, .refl _, .refl _, .refl _, .refl _, .refl _, trivial⟩, trivial⟩, ⟨rok_fwd hr g4, trivial⟩, ?_⟩
      refine ⟨by kernel_rfl, ?_⟩
      refine ⟨Fld, fldC, fld0, [(r.memF c.fields.length).mfV (decide (r.next.2.1 = wStatic))], ⟨rfl, fun _ => rfl⟩, ⟨.refl _, .refl _, .refl _, .bool (ba_eq _ _), trivial⟩, rfl, ?_⟩
      refine ⟨Fld, fldC, fld0, c.fields, [(r.memF c.fields.length).mfV (decide (r.next.2.1 = wStatic))], 6900000, ⟨.refl _, .own ..⟩, fun _ => rfl, (by have h5 : c.fields.length ≤ 2000000 := hd.2.1; show (c.fields.length + 1) * 48 ≤ 140737488355328; omega), ?_⟩
      have hE : (((r.memF c.fields.length).fresh.want wColon).kind).want wSemi = (r.member c).2 := by rw [e]; rfl
      exact ⟨.refl (.tup []), ⟨rfl, .rowEq (rL hE :), .int (rI hE :), .int (rN hE :), .int (rA hE :), .int (rE hE :), trivial⟩, ⟨rfl, .str (by rw [e]), .bool (by rw [e]), .str (by rw [e]), .rowEq (by rw [e]), .ownEq (by rw [e]), .ownEq (by rw [e]), trivial⟩, trivial⟩
    have w1 : r.next.2.1 ≠ wField := baF h1
    refine ⟨fun h2 => ?_, fun h2 => ?_⟩
    · have hor : r.next.2.1 = wField ∨ r.next.2.1 = wStatic := .inr (baT h2)
      have hr : rok r := hd.1
      have g1 : Fwd r (r.memF c.fields.length) := Rs.memF_fwd r c.fields.length
      have g2 := g1.trans (Rs.fresh_fwd _)
      have g3 := g2.trans (Rs.want_fwd _ wColon)
      have g4 := g3.trans (Rs.kind_fwd _)
      have e : r.member c = (⟨c.name, c.iface, c.super, c.ifaces, c.fields ++ [(r.memF c.fields.length).mfV (decide (r.next.2.1 = wStatic))], c.methods⟩, (r.memF c.fields.length).mfR) := if_pos hor
      refine ⟨by kernel_rfl, ?_⟩
      refine ⟨(r, (c.fields.length : Int), 6), ⟨.refl _, .refl _, .refl _, trivial⟩, ⟨⟨rfl, .refl _, .refl _, .refl _, .refl _, .refl _, trivial⟩, trivial⟩, ⟨hr, trivial⟩, ?_⟩
      refine ⟨by kernel_rfl, ?_⟩
      refine ⟨(r.room c.fields.length 6, r.next.2.1), ⟨.refl _, .refl _, trivial⟩, ⟨⟨rfl, .refl _, .refl _, .refl _, .refl _, .refl _, trivial⟩, trivial⟩, ⟨rok_fwd hr (Rs.room_fwd r _ _), trivial⟩, ?_⟩
      refine ⟨by kernel_rfl, ?_⟩
      refine ⟨((r.memF c.fields.length), ()), ⟨.refl _, trivial⟩, ⟨⟨rfl, .refl _, .refl _, .refl _, .refl _, .refl _, trivial⟩, trivial⟩, ⟨rok_fwd hr g1, trivial⟩, ?_⟩
      refine ⟨by kernel_rfl, ?_⟩
      refine ⟨((r.memF c.fields.length).fresh, wColon), ⟨.refl _, .str rfl, trivial⟩, ⟨⟨rfl, .refl _, .refl _, .refl _, .refl _, .refl _, trivial⟩, trivial⟩, ⟨rok_fwd hr g2, trivial⟩, ?_⟩
      refine ⟨by kernel_rfl, ?_⟩
      refine ⟨((r.memF c.fields.length).fresh.want wColon, ()), ⟨.refl _, trivial⟩, ⟨⟨rfl, .refl _, .refl _, .refl _, .refl _, .refl _, trivial⟩, trivial⟩, ⟨rok_fwd hr g3, trivial⟩, ?_⟩
      refine ⟨by kernel_rfl, ?_⟩
      refine ⟨(((r.memF c.fields.length).fresh.want wColon).kind, wSemi), ⟨.refl _, .str rfl, trivial⟩, ⟨⟨rfl, .refl _, .refl _, .refl _, .refl _, .refl _, trivial⟩, trivial⟩, ⟨rok_fwd hr g4, trivial⟩, ?_⟩
      refine ⟨by kernel_rfl, ?_⟩
      refine ⟨Fld, fldC, fld0, [(r.memF c.fields.length).mfV (decide (r.next.2.1 = wStatic))], ⟨rfl, fun _ => rfl⟩, ⟨.refl _, .refl _, .refl _, .bool (ba_eq _ _), trivial⟩, rfl, ?_⟩
      refine ⟨Fld, fldC, fld0, c.fields, [(r.memF c.fields.length).mfV (decide (r.next.2.1 = wStatic))], 6900000, ⟨.refl _, .own ..⟩, fun _ => rfl, (by have h5 : c.fields.length ≤ 2000000 := hd.2.1; show (c.fields.length + 1) * 48 ≤ 140737488355328; omega), ?_⟩
      have hE : (((r.memF c.fields.length).fresh.want wColon).kind).want wSemi = (r.member c).2 := by rw [e]; rfl
      exact ⟨.refl (.tup []), ⟨rfl, .rowEq (rL hE :), .int (rI hE :), .int (rN hE :), .int (rA hE :), .int (rE hE :), trivial⟩, ⟨rfl, .str (by rw [e]), .bool (by rw [e]), .str (by rw [e]), .rowEq (by rw [e]), .ownEq (by rw [e]), .ownEq (by rw [e]), trivial⟩, trivial⟩
    have w2 : r.next.2.1 ≠ wStatic := baF h2
    have hno : ¬ (r.next.2.1 = wField ∨ r.next.2.1 = wStatic) := fun c => c.elim w1 w2
    refine ⟨fun h3 => ?_, fun h3 => ?_⟩
    · have hor : r.next.2.1 = wMethod ∨ r.next.2.1 = wFunction := .inl (baT h3)
      refine ⟨fun _ => ?_, fun c => (noTF h3 c).elim⟩
      have hr : rok r := hd.1
      have g1 : Fwd r (r.memF c.methods.length) := Rs.memF_fwd r c.methods.length
      have g2 := g1.trans (Rs.fresh_fwd _)
      have g3 := g2.trans (Rs.params_fwd _)
      have g4 : Fwd r (r.memF c.methods.length).mm1 := g1.trans (Rs.mm1_fwd _)
      refine ⟨by kernel_rfl, ?_⟩
      refine ⟨(r, (c.methods.length : Int), 6), ⟨.refl _, .refl _, .refl _, trivial⟩, ⟨⟨rfl, .refl _, .refl _, .refl _, .refl _, .refl _, trivial⟩, trivial⟩, ⟨hr, trivial⟩, ?_⟩
      refine ⟨by kernel_rfl, ?_⟩
      refine ⟨(r.room c.methods.length 6, r.next.2.1), ⟨.refl _, .refl _, trivial⟩, ⟨⟨rfl, .refl _, .refl _, .refl _, .refl _, .refl _, trivial⟩, trivial⟩, ⟨rok_fwd hr (Rs.room_fwd r _ _), trivial⟩, ?_⟩
      refine ⟨by kernel_rfl, ?_⟩
      refine ⟨((r.memF c.methods.length), ()), ⟨.refl _, trivial⟩, ⟨⟨rfl, .refl _, .refl _, .refl _, .refl _, .refl _, trivial⟩, trivial⟩, ⟨rok_fwd hr g1, trivial⟩, ?_⟩
      refine ⟨by kernel_rfl, ?_⟩
      refine ⟨((r.memF c.methods.length).fresh, ()), ⟨.refl _, trivial⟩, ⟨⟨rfl, .refl _, .refl _, .refl _, .refl _, .refl _, trivial⟩, trivial⟩, ⟨rok_fwd hr g2, trivial⟩, ?_⟩
      refine ⟨by kernel_rfl, ?_⟩
      refine ⟨((r.memF c.methods.length).fresh.params.2, ()), ⟨.refl _, trivial⟩, ⟨⟨rfl, .refl _, .refl _, .refl _, .refl _, .refl _, trivial⟩, trivial⟩, ⟨rok_fwd hr g3, trivial⟩, ?_⟩
      refine ⟨by kernel_rfl, ?_⟩
      refine ⟨((r.memF c.methods.length).mm1, wSemi), ⟨.refl _, .str rfl, trivial⟩, ⟨⟨rfl, .refl _, .refl _, .refl _, .refl _, .refl _, trivial⟩, trivial⟩, ⟨rok_fwd hr g4, trivial⟩, ?_⟩
      refine ⟨fun h => ?_, fun h => ?_⟩
      · have h1 : (r.memF c.methods.length).mm1.is wSemi = false := notT h
        have hv : (r.memF c.methods.length).mmV (decide (r.next.2.1 = wFunction)) = (r.memF c.methods.length).mm1.bodyV ((r.memF c.methods.length).mm1V (decide (r.next.2.1 = wFunction))) := if_neg (by rw [h1]; decide)
        have hR : (r.memF c.methods.length).mm1.body = (r.memF c.methods.length).mmR := (if_neg (by rw [h1]; decide)).symm
        have hE : (r.memF c.methods.length).mm1.take wSemi = (r.memF c.methods.length).mm1 := take_no h1
        refine ⟨by kernel_rfl, ?_⟩
        refine ⟨((r.memF c.methods.length).mm1, ((r.memF c.methods.length).mm1V (decide (r.next.2.1 = wFunction)))), ⟨.refl _, .refl _, trivial⟩, ⟨⟨rfl, .rowEq (rL hE :), .int (rI hE :), .int (rN hE :), .int (rA hE :), .int (rE hE :), trivial⟩, ⟨rfl, .refl _, .bool (ba_eq _ _), .refl _, .refl _, .refl _, .refl _, .refl _, .refl _, .refl _, trivial⟩, trivial⟩, rok_fwd hr g4, ?_⟩
        clear hE
        have e : r.member c = (⟨c.name, c.iface, c.super, c.ifaces, c.fields, c.methods ++ [(r.memF c.methods.length).mm1.bodyV ((r.memF c.methods.length).mm1V (decide (r.next.2.1 = wFunction)))]⟩, (r.memF c.methods.length).mmR) := by
          unfold Rs.member; rw [if_neg hno, if_pos hor, hv]
        refine ⟨by kernel_rfl, ?_⟩
        refine ⟨Meth, methC, meth0, [(r.memF c.methods.length).mm1.bodyV ((r.memF c.methods.length).mm1V (decide (r.next.2.1 = wFunction)))], ⟨rfl, fun _ => rfl⟩, ⟨.refl _, .refl _, .refl _, .refl _, .refl _, .refl _, .refl _, .refl _, .refl _, trivial⟩, rfl, ?_⟩
        refine ⟨Meth, methC, meth0, c.methods, [(r.memF c.methods.length).mm1.bodyV ((r.memF c.methods.length).mm1V (decide (r.next.2.1 = wFunction)))], 7000000, ⟨.refl _, .own ..⟩, fun _ => rfl, (by have h5 : c.methods.length ≤ 2000000 := hd.2.2; show (c.methods.length + 1) * 128 ≤ 140737488355328; omega), ?_⟩
        have hE : (r.memF c.methods.length).mm1.body = (r.member c).2 := by rw [e]; exact hR
        exact ⟨.refl (.tup []), ⟨rfl, .rowEq (rL hE :), .int (rI hE :), .int (rN hE :), .int (rA hE :), .int (rE hE :), trivial⟩, ⟨rfl, .str (by rw [e]), .bool (by rw [e]), .str (by rw [e]), .rowEq (by rw [e]), .ownEq (by rw [e]), .ownEq (by rw [e]), trivial⟩, trivial⟩
      · have h1 : (r.memF c.methods.length).mm1.is wSemi = true := notF h
        have hv : (r.memF c.methods.length).mmV (decide (r.next.2.1 = wFunction)) = ((r.memF c.methods.length).mm1V (decide (r.next.2.1 = wFunction))) := if_pos h1
        have hR : (r.memF c.methods.length).mm1.take wSemi = (r.memF c.methods.length).mmR := by rw [take_yes h1]; exact (if_pos h1).symm
        have e : r.member c = (⟨c.name, c.iface, c.super, c.ifaces, c.fields, c.methods ++ [((r.memF c.methods.length).mm1V (decide (r.next.2.1 = wFunction)))]⟩, (r.memF c.methods.length).mmR) := by
          unfold Rs.member; rw [if_neg hno, if_pos hor, hv]
        refine ⟨by kernel_rfl, ?_⟩
        refine ⟨Meth, methC, meth0, [((r.memF c.methods.length).mm1V (decide (r.next.2.1 = wFunction)))], ⟨rfl, fun _ => rfl⟩, ⟨.refl _, .bool (ba_eq _ _), .refl _, .own .., .refl _, .refl _, .refl _, .nil .., .nil .., trivial⟩, rfl, ?_⟩
        refine ⟨Meth, methC, meth0, c.methods, [((r.memF c.methods.length).mm1V (decide (r.next.2.1 = wFunction)))], 7000000, ⟨.refl _, .own ..⟩, fun _ => rfl, (by have h5 : c.methods.length ≤ 2000000 := hd.2.2; show (c.methods.length + 1) * 128 ≤ 140737488355328; omega), ?_⟩
        have hE : (r.memF c.methods.length).mm1.take wSemi = (r.member c).2 := by rw [e]; exact hR
        exact ⟨.refl (.tup []), ⟨rfl, .rowEq (rL hE :), .int (rI hE :), .int (rN hE :), .int (rA hE :), .int (rE hE :), trivial⟩, ⟨rfl, .str (by rw [e]), .bool (by rw [e]), .str (by rw [e]), .rowEq (by rw [e]), .ownEq (by rw [e]), .ownEq (by rw [e]), trivial⟩, trivial⟩
    have w3 : r.next.2.1 ≠ wMethod := baF h3
    refine ⟨fun h4 => ?_, fun h4 => ?_⟩
    · have hor : r.next.2.1 = wMethod ∨ r.next.2.1 = wFunction := .inr (baT h4)
      have hr : rok r := hd.1
      have g1 : Fwd r (r.memF c.methods.length) := Rs.memF_fwd r c.methods.length
      have g2 := g1.trans (Rs.fresh_fwd _)
      have g3 := g2.trans (Rs.params_fwd _)
      have g4 : Fwd r (r.memF c.methods.length).mm1 := g1.trans (Rs.mm1_fwd _)
      refine ⟨by kernel_rfl, ?_⟩
      refine ⟨(r, (c.methods.length : Int), 6), ⟨.refl _, .refl _, .refl _, trivial⟩, ⟨⟨rfl, .refl _, .refl _, .refl _, .refl _, .refl _, trivial⟩, trivial⟩, ⟨hr, trivial⟩, ?_⟩
      refine ⟨by kernel_rfl, ?_⟩
      refine ⟨(r.room c.methods.length 6, r.next.2.1), ⟨.refl _, .refl _, trivial⟩, ⟨⟨rfl, .refl _, .refl _, .refl _, .refl _, .refl _, trivial⟩, trivial⟩, ⟨rok_fwd hr (Rs.room_fwd r _ _), trivial⟩, ?_⟩
      refine ⟨by kernel_rfl, ?_⟩
      refine ⟨((r.memF c.methods.length), ()), ⟨.refl _, trivial⟩, ⟨⟨rfl, .refl _, .refl _, .refl _, .refl _, .refl _, trivial⟩, trivial⟩, ⟨rok_fwd hr g1, trivial⟩, ?_⟩
      refine ⟨by kernel_rfl, ?_⟩
      refine ⟨((r.memF c.methods.length).fresh, ()), ⟨.refl _, trivial⟩, ⟨⟨rfl, .refl _, .refl _, .refl _, .refl _, .refl _, trivial⟩, trivial⟩, ⟨rok_fwd hr g2, trivial⟩, ?_⟩
      refine ⟨by kernel_rfl, ?_⟩
      refine ⟨((r.memF c.methods.length).fresh.params.2, ()), ⟨.refl _, trivial⟩, ⟨⟨rfl, .refl _, .refl _, .refl _, .refl _, .refl _, trivial⟩, trivial⟩, ⟨rok_fwd hr g3, trivial⟩, ?_⟩
      refine ⟨by kernel_rfl, ?_⟩
      refine ⟨((r.memF c.methods.length).mm1, wSemi), ⟨.refl _, .str rfl, trivial⟩, ⟨⟨rfl, .refl _, .refl _, .refl _, .refl _, .refl _, trivial⟩, trivial⟩, ⟨rok_fwd hr g4, trivial⟩, ?_⟩
      refine ⟨fun h => ?_, fun h => ?_⟩
      · have h1 : (r.memF c.methods.length).mm1.is wSemi = false := notT h
        have hv : (r.memF c.methods.length).mmV (decide (r.next.2.1 = wFunction)) = (r.memF c.methods.length).mm1.bodyV ((r.memF c.methods.length).mm1V (decide (r.next.2.1 = wFunction))) := if_neg (by rw [h1]; decide)
        have hR : (r.memF c.methods.length).mm1.body = (r.memF c.methods.length).mmR := (if_neg (by rw [h1]; decide)).symm
        have hE : (r.memF c.methods.length).mm1.take wSemi = (r.memF c.methods.length).mm1 := take_no h1
        refine ⟨by kernel_rfl, ?_⟩
        refine ⟨((r.memF c.methods.length).mm1, ((r.memF c.methods.length).mm1V (decide (r.next.2.1 = wFunction)))), ⟨.refl _, .refl _, trivial⟩, ⟨⟨rfl, .rowEq (rL hE :), .int (rI hE :), .int (rN hE :), .int (rA hE :), .int (rE hE :), trivial⟩, ⟨rfl, .refl _, .bool (ba_eq _ _), .refl _, .refl _, .refl _, .refl _, .refl _, .refl _, .refl _, trivial⟩, trivial⟩, rok_fwd hr g4, ?_⟩
        clear hE
        have e : r.member c = (⟨c.name, c.iface, c.super, c.ifaces, c.fields, c.methods ++ [(r.memF c.methods.length).mm1.bodyV ((r.memF c.methods.length).mm1V (decide (r.next.2.1 = wFunction)))]⟩, (r.memF c.methods.length).mmR) := by
          unfold Rs.member; rw [if_neg hno, if_pos hor, hv]
        refine ⟨by kernel_rfl, ?_⟩
        refine ⟨Meth, methC, meth0, [(r.memF c.methods.length).mm1.bodyV ((r.memF c.methods.length).mm1V (decide (r.next.2.1 = wFunction)))], ⟨rfl, fun _ => rfl⟩, ⟨.refl _, .refl _, .refl _, .refl _, .refl _, .refl _, .refl _, .refl _, .refl _, trivial⟩, rfl, ?_⟩
        refine ⟨Meth, methC, meth0, c.methods, [(r.memF c.methods.length).mm1.bodyV ((r.memF c.methods.length).mm1V (decide (r.next.2.1 = wFunction)))], 7000000, ⟨.refl _, .own ..⟩, fun _ => rfl, (by have h5 : c.methods.length ≤ 2000000 := hd.2.2; show (c.methods.length + 1) * 128 ≤ 140737488355328; omega), ?_⟩
        have hE : (r.memF c.methods.length).mm1.body = (r.member c).2 := by rw [e]; exact hR
        exact ⟨.refl (.tup []), ⟨rfl, .rowEq (rL hE :), .int (rI hE :), .int (rN hE :), .int (rA hE :), .int (rE hE :), trivial⟩, ⟨rfl, .str (by rw [e]), .bool (by rw [e]), .str (by rw [e]), .rowEq (by rw [e]), .ownEq (by rw [e]), .ownEq (by rw [e]), trivial⟩, trivial⟩
      · have h1 : (r.memF c.methods.length).mm1.is wSemi = true := notF h
        have hv : (r.memF c.methods.length).mmV (decide (r.next.2.1 = wFunction)) = ((r.memF c.methods.length).mm1V (decide (r.next.2.1 = wFunction))) := if_pos h1
        have hR : (r.memF c.methods.length).mm1.take wSemi = (r.memF c.methods.length).mmR := by rw [take_yes h1]; exact (if_pos h1).symm
        have e : r.member c = (⟨c.name, c.iface, c.super, c.ifaces, c.fields, c.methods ++ [((r.memF c.methods.length).mm1V (decide (r.next.2.1 = wFunction)))]⟩, (r.memF c.methods.length).mmR) := by
          unfold Rs.member; rw [if_neg hno, if_pos hor, hv]
        refine ⟨by kernel_rfl, ?_⟩
        refine ⟨Meth, methC, meth0, [((r.memF c.methods.length).mm1V (decide (r.next.2.1 = wFunction)))], ⟨rfl, fun _ => rfl⟩, ⟨.refl _, .bool (ba_eq _ _), .refl _, .own .., .refl _, .refl _, .refl _, .nil .., .nil .., trivial⟩, rfl, ?_⟩
        refine ⟨Meth, methC, meth0, c.methods, [((r.memF c.methods.length).mm1V (decide (r.next.2.1 = wFunction)))], 7000000, ⟨.refl _, .own ..⟩, fun _ => rfl, (by have h5 : c.methods.length ≤ 2000000 := hd.2.2; show (c.methods.length + 1) * 128 ≤ 140737488355328; omega), ?_⟩
        have hE : (r.memF c.methods.length).mm1.take wSemi = (r.member c).2 := by rw [e]; exact hR
        exact ⟨.refl (.tup []), ⟨rfl, .rowEq (rL hE :), .int (rI hE :), .int (rN hE :), .int (rA hE :), .int (rE hE :), trivial⟩, ⟨rfl, .str (by rw [e]), .bool (by rw [e]), .str (by rw [e]), .rowEq (by rw [e]), .ownEq (by rw [e]), .ownEq (by rw [e]), trivial⟩, trivial⟩
    have w4 : r.next.2.1 ≠ wFunction := baF h4
    have e : r.member c = (c, r.fail 4) := by
      unfold Rs.member; rw [if_neg hno, if_neg (fun c => c.elim w3 w4)]
    refine ⟨by kernel_rfl, ?_⟩
    refine ⟨(r, 4), ⟨.refl _, .refl _, trivial⟩, ⟨⟨rfl, .refl _, .refl _, .refl _, .refl _, .refl _, trivial⟩, trivial⟩, ⟨hd.1, trivial⟩, ?_⟩
    have hE : r.fail 4 = (r.member c).2 := by rw [e]
    exact ⟨.refl (.tup []), ⟨rfl, .rowEq (rL hE :), .int (rI hE :), .int (rN hE :), .int (rA hE :), .int (rE hE :), trivial⟩, ⟨rfl, .str (by rw [e]), .bool (by rw [e]), .str (by rw [e]), .rowEq (by rw [e]), .ownEq (by rw [e]), .ownEq (by rw [e]), trivial⟩, trivial⟩
end Go.Proofs.YtadimoijlgmecaaGreatDoor.Ax
/- Layer parse: classes, programs. -/
set_option linter.unusedVariables false
set_option linter.unusedSimpArgs false
namespace Go.Proofs.YtadimoijlgmecaaGreatDoor.Ax
open Go Go.RowKit
theorem Sub.agg6 {a b c d e f a' b' c' d' e' f' : SV} (h1 : Sub a a') (h2 : Sub b b') (h3 : Sub c c') (h4 : Sub d d') (h5 : Sub e e') (h6 : Sub f f') : Sub (.agg [a, b, c, d, e, f]) (.agg [a', b', c', d', e', f']) := .agg _ _ rfl fun j hj => by
  match j, hj with
  | 0, _ => exact h1
  | 1, _ => exact h2
  | 2, _ => exact h3
  | 3, _ => exact h4
  | 4, _ => exact h5
  | 5, _ => exact h6
def classRC : CtrB := rdC Int (fun n => [I n]) (fun r n _ => .agg (clsC (r.class' n).1)) (fun r n => (r.class' n).2) fun _ => True
theorem member_len (r : Rs) (c : Cls) : (r.member c).1.fields.length + (r.member c).1.methods.length ≤ c.fields.length + c.methods.length + 1 := by
  unfold Rs.member
  split
  · simp; omega
  · split
    · simp; omega
    · simp
set_option maxRecDepth 100000 in
set_option maxHeartbeats 8000000 in
theorem classR_ok : CtrBSound Tryz.prog 37 classRC :=
  ctrB_of_ax2 mixed _ Tryz.func37 (by kernel_rfl) rfl (fun _ _ => ⟨Nat.le_of_ble_eq_true rfl, Nat.le_of_ble_eq_true rfl⟩) fun ((r, many) : Rs × Int) id hd => by
    refine ⟨_, ⟨env_okB tys_ok (eqs := []) trivial (cs := [(62, isC)]) ⟨is_ok, trivial⟩ (bs := [(63, roomC), (64, wantC), (65, freshRC), (66, takeC), (67, nmsC), (68, memberRC)]) ⟨room_ok, want_ok, freshR_ok, take_ok, nms_ok, memberR_ok, trivial⟩ (vec := [60]) (cut := [4, 7, 12, 14]) (gl := tabP), fun _ h => h⟩, ?_⟩
    have hr : rok r := hd.1
    have hL : r.L.length ≤ 1000000 := hd.1.1
    have f1 : Fwd r (r.cl1 many) := Rs.cl1_fwd r many
    have f2 := f1.trans (Rs.fresh_fwd _)
    have f3 := f2.trans (Rs.ex1_fwd _ (r.is wInterface))
    have f4 := f3.trans (Rs.ex2_fwd _ (r.is wInterface) ((r.cl1 many).fresh.ex1 (r.is wInterface)).1.2)
    have f5 : Fwd r (r.clR many) := Rs.clR_fwd r many
    have f0 : Fwd r (if r.is wClass || r.is wInterface then r.room many 10 else r) := by
      split
      · exact Rs.room_fwd _ _ _
      · exact .refl _
    refine ⟨(r, wInterface), ⟨.refl _, .str rfl, trivial⟩, rfl, ⟨hr, trivial⟩, ?_⟩
    refine ⟨Unit, fun _ => [(0, .box 1000 0), (4, .box 4 0), (5, .box 5 0)], fun _ => [(1000, rsC (if r.is wClass || r.is wInterface then r.room many 10 else r)), (4, [S noS, B false, S noS, .val (.slice none 0 0), .val (.slice none 0 0), .val (.slice none 0 0)]), (5, [S (noS), B (r.is wInterface), S (noS), .val (.slice none 0 0), .val (.slice none 0 0), .val (.slice none 0 0)])], fun _ => True, ?_, fun _ _ => ?_⟩
    · refine ⟨(r, wClass), ⟨.refl _, .str rfl, trivial⟩, rfl, ⟨hr, trivial⟩, ?_⟩
      refine ⟨fun h1 => ?_, fun h1 => ?_⟩
      · have h1 : r.is wClass = true := h1
        have hE : r.room many 10 = (if r.is wClass || r.is wInterface then r.room many 10 else r) := (if_pos (by rw [h1]; rfl)).symm
        refine ⟨by kernel_rfl, ?_⟩
        refine ⟨(r, many, 10), ⟨.refl _, .refl _, .refl _, trivial⟩, ⟨⟨rfl, .refl _, .refl _, .refl _, .refl _, .refl _, trivial⟩, trivial⟩, ⟨hr, trivial⟩, ?_⟩
        exact ⟨(), trivial, ⟨rfl, rfl⟩, .refl _, .refl _, .refl _, ⟨.refl _, .refl _, .refl _, .refl _, .refl _, .refl _, trivial⟩, ⟨.refl _, .refl _, .refl _, .refl _, .refl _, .refl _, trivial⟩, ⟨.rowEq (rL hE :), .int (rI hE :), .int (rN hE :), .int (rA hE :), .int (rE hE :), trivial⟩, trivial⟩
      have h1 : r.is wClass = false := h1
      refine ⟨(r, wInterface), ⟨.refl _, .str rfl, trivial⟩, rfl, ⟨hr, trivial⟩, ?_⟩
      refine ⟨fun h2 => ?_, fun h2 => ?_⟩
      · have h2 : r.is wInterface = true := h2
        have hE : r.room many 10 = (if r.is wClass || r.is wInterface then r.room many 10 else r) := (if_pos (by rw [h1, h2]; rfl)).symm
        refine ⟨by kernel_rfl, ?_⟩
        refine ⟨(r, many, 10), ⟨.refl _, .refl _, .refl _, trivial⟩, ⟨⟨rfl, .refl _, .refl _, .refl _, .refl _, .refl _, trivial⟩, trivial⟩, ⟨hr, trivial⟩, ?_⟩
        exact ⟨(), trivial, ⟨rfl, rfl⟩, .refl _, .refl _, .refl _, ⟨.refl _, .refl _, .refl _, .refl _, .refl _, .refl _, trivial⟩, ⟨.refl _, .refl _, .refl _, .refl _, .refl _, .refl _, trivial⟩, ⟨.rowEq (rL hE :), .int (rI hE :), .int (rN hE :), .int (rA hE :), .int (rE hE :), trivial⟩, trivial⟩
      · have h2 : r.is wInterface = false := h2
        have hE : r = (if r.is wClass || r.is wInterface then r.room many 10 else r) := (if_neg (by rw [h1, h2]; decide)).symm
        exact ⟨(), trivial, ⟨rfl, rfl⟩, .refl _, .refl _, .refl _, ⟨.refl _, .refl _, .refl _, .refl _, .refl _, .refl _, trivial⟩, ⟨.refl _, .refl _, .refl _, .refl _, .refl _, .refl _, trivial⟩, ⟨.rowEq (rL hE :), .int (rI hE :), .int (rN hE :), .int (rA hE :), .int (rE hE :), trivial⟩, trivial⟩
    refine ⟨Unit, fun _ => [(0, .box 1000 0), (4, .box 4 0), (5, .box 5 0)], fun _ => [(1000, rsC (r.cl1 many)), (4, [S noS, B false, S noS, .val (.slice none 0 0), .val (.slice none 0 0), .val (.slice none 0 0)]), (5, [S (noS), B (r.is wInterface), S (noS), .val (.slice none 0 0), .val (.slice none 0 0), .val (.slice none 0 0)])], fun _ => True, ?_, fun _ _ => ?_⟩
    · refine ⟨fun h1 => ?_, fun h1 => ?_⟩
      · have h1 : r.is wInterface = true := h1
        have hE : (if r.is wClass || r.is wInterface then r.room many 10 else r).want wInterface = (r.cl1 many) := by unfold Rs.cl1; rw [if_pos (c := r.is wInterface = true) h1]
        refine ⟨by kernel_rfl, ?_⟩
        refine ⟨((if r.is wClass || r.is wInterface then r.room many 10 else r), wInterface), ⟨.refl _, .str rfl, trivial⟩, ⟨⟨rfl, .refl _, .refl _, .refl _, .refl _, .refl _, trivial⟩, trivial⟩, ⟨rok_fwd hr f0, trivial⟩, ?_⟩
        exact ⟨(), trivial, ⟨rfl, rfl⟩, .refl _, .refl _, .refl _, ⟨.refl _, .refl _, .refl _, .refl _, .refl _, .refl _, trivial⟩, ⟨.refl _, .refl _, .refl _, .refl _, .refl _, .refl _, trivial⟩, ⟨.rowEq (rL hE :), .int (rI hE :), .int (rN hE :), .int (rA hE :), .int (rE hE :), trivial⟩, trivial⟩
      · have h1 : r.is wInterface = false := h1
        have hE : (if r.is wClass || r.is wInterface then r.room many 10 else r).want wClass = (r.cl1 many) := by unfold Rs.cl1; rw [if_neg (c := r.is wInterface = true) (by rw [h1]; decide)]
        refine ⟨by kernel_rfl, ?_⟩
        refine ⟨((if r.is wClass || r.is wInterface then r.room many 10 else r), wClass), ⟨.refl _, .str rfl, trivial⟩, ⟨⟨rfl, .refl _, .refl _, .refl _, .refl _, .refl _, trivial⟩, trivial⟩, ⟨rok_fwd hr f0, trivial⟩, ?_⟩
        exact ⟨(), trivial, ⟨rfl, rfl⟩, .refl _, .refl _, .refl _, ⟨.refl _, .refl _, .refl _, .refl _, .refl _, .refl _, trivial⟩, ⟨.refl _, .refl _, .refl _, .refl _, .refl _, .refl _, trivial⟩, ⟨.rowEq (rL hE :), .int (rI hE :), .int (rN hE :), .int (rA hE :), .int (rE hE :), trivial⟩, trivial⟩
    refine ⟨by kernel_rfl, ?_⟩
    refine ⟨((r.cl1 many), ()), ⟨.refl _, trivial⟩, ⟨⟨rfl, .refl _, .refl _, .refl _, .refl _, .refl _, trivial⟩, trivial⟩, ⟨rok_fwd hr f1, trivial⟩, ?_⟩
    refine ⟨Unit, fun _ => [(0, .box 1000 0), (4, .box 4 0), (5, .box 5 0)], fun _ => [(1000, rsC ((r.cl1 many).fresh.ex1 (r.is wInterface)).2), (4, [S noS, B false, S noS, .val (.slice none 0 0), .val (.slice none 0 0), .val (.slice none 0 0)]), (5, [S ((r.cl1 many).freshV), B (r.is wInterface), S (((r.cl1 many).fresh.ex1 (r.is wInterface)).1.1), .row ByteArray 1 strC noS ((r.cl1 many).fresh.ex1 (r.is wInterface)).1.2, .val (.slice none 0 0), .val (.slice none 0 0)])], fun _ => True, ?_, fun _ _ => ?_⟩
    · refine ⟨by kernel_rfl, ?_⟩
      refine ⟨((r.cl1 many).fresh, wExtends), ⟨.refl _, .str rfl, trivial⟩, ⟨⟨rfl, .refl _, .refl _, .refl _, .refl _, .refl _, trivial⟩, trivial⟩, ⟨rok_fwd hr f2, trivial⟩, ?_⟩
      refine ⟨fun h1 => ?_, fun h1 => ?_⟩
      · have h1 : (r.cl1 many).fresh.is wExtends = true := h1
        have hst := take_yes h1
        have fs : rok ((r.cl1 many).fresh.take wExtends) := rok_fwd hr (f2.trans (Rs.take_fwd _ _))
        refine ⟨fun h2 => ?_, fun h2 => ?_⟩
        · have h2 : r.is wInterface = true := h2
          have e : ((r.cl1 many).fresh.ex1 (r.is wInterface)) = ((noS, (r.cl1 many).fresh.step.names.1), (r.cl1 many).fresh.step.names.2) := by unfold Rs.ex1; rw [if_pos h1, if_pos h2]
          have hE : ((r.cl1 many).fresh.take wExtends).names.2 = ((r.cl1 many).fresh.ex1 (r.is wInterface)).2 := by rw [e, hst]
          refine ⟨by kernel_rfl, ?_⟩
          refine ⟨((r.cl1 many).fresh.take wExtends, ()), ⟨.refl _, trivial⟩, ⟨⟨rfl, .refl _, .refl _, .refl _, .refl _, .refl _, trivial⟩, trivial⟩, ⟨fs, trivial⟩, ?_⟩
          exact ⟨(), trivial, ⟨rfl, rfl⟩, .refl _, .refl _, .refl _, ⟨.refl _, .refl _, .str (by rw [e]), .ownRow (by rw [e, hst]), .refl _, .refl _, trivial⟩, ⟨.refl _, .refl _, .refl _, .refl _, .refl _, .refl _, trivial⟩, ⟨.rowEq (rL hE :), .int (rI hE :), .int (rN hE :), .int (rA hE :), .int (rE hE :), trivial⟩, trivial⟩
        · have h2 : r.is wInterface = false := h2
          have e : ((r.cl1 many).fresh.ex1 (r.is wInterface)) = (((r.cl1 many).fresh.step.freshV, []), (r.cl1 many).fresh.step.fresh) := by unfold Rs.ex1; rw [if_pos h1, if_neg (by rw [h2]; decide)]
          have hE : ((r.cl1 many).fresh.take wExtends).fresh = ((r.cl1 many).fresh.ex1 (r.is wInterface)).2 := by rw [e, hst]
          refine ⟨by kernel_rfl, ?_⟩
          refine ⟨((r.cl1 many).fresh.take wExtends, ()), ⟨.refl _, trivial⟩, ⟨⟨rfl, .refl _, .refl _, .refl _, .refl _, .refl _, trivial⟩, trivial⟩, ⟨fs, trivial⟩, ?_⟩
          exact ⟨(), trivial, ⟨rfl, rfl⟩, .refl _, .refl _, .refl _, ⟨.refl _, .refl _, .str (by rw [e, hst]), (show Sub _ (.row ByteArray 1 strC noS ((r.cl1 many).fresh.ex1 (r.is wInterface)).1.2) by rw [e]; exact .nil ..), .refl _, .refl _, trivial⟩, ⟨.refl _, .refl _, .refl _, .refl _, .refl _, .refl _, trivial⟩, ⟨.rowEq (rL hE :), .int (rI hE :), .int (rN hE :), .int (rA hE :), .int (rE hE :), trivial⟩, trivial⟩
      · have h1 : (r.cl1 many).fresh.is wExtends = false := h1
        have e : ((r.cl1 many).fresh.ex1 (r.is wInterface)) = ((noS, []), (r.cl1 many).fresh) := by unfold Rs.ex1; rw [if_neg (by rw [h1]; decide)]
        have hE : (r.cl1 many).fresh.take wExtends = ((r.cl1 many).fresh.ex1 (r.is wInterface)).2 := by rw [e, take_no h1]
        exact ⟨(), trivial, ⟨rfl, rfl⟩, .refl _, .refl _, .refl _, ⟨.refl _, .refl _, .str (by rw [e]), (show Sub _ (.row ByteArray 1 strC noS ((r.cl1 many).fresh.ex1 (r.is wInterface)).1.2) by rw [e]; exact .nil ..), .refl _, .refl _, trivial⟩, ⟨.refl _, .refl _, .refl _, .refl _, .refl _, .refl _, trivial⟩, ⟨.rowEq (rL hE :), .int (rI hE :), .int (rN hE :), .int (rA hE :), .int (rE hE :), trivial⟩, trivial⟩
    refine ⟨Unit, fun _ => [(0, .box 1000 0), (4, .box 4 0), (5, .box 5 0)], fun _ => [(1000, rsC (((r.cl1 many).fresh.ex1 (r.is wInterface)).2.ex2 (r.is wInterface) ((r.cl1 many).fresh.ex1 (r.is wInterface)).1.2).2), (4, [S noS, B false, S noS, .val (.slice none 0 0), .val (.slice none 0 0), .val (.slice none 0 0)]), (5, [S ((r.cl1 many).freshV), B (r.is wInterface), S (((r.cl1 many).fresh.ex1 (r.is wInterface)).1.1), .row ByteArray 1 strC noS (((r.cl1 many).fresh.ex1 (r.is wInterface)).2.ex2 (r.is wInterface) ((r.cl1 many).fresh.ex1 (r.is wInterface)).1.2).1, .val (.slice none 0 0), .val (.slice none 0 0)])], fun _ => True, ?_, fun _ _ => ?_⟩
    · have none : (r.is wInterface = true ∨ ((r.cl1 many).fresh.ex1 (r.is wInterface)).2.is wImplements = false) → (((r.cl1 many).fresh.ex1 (r.is wInterface)).2.ex2 (r.is wInterface) ((r.cl1 many).fresh.ex1 (r.is wInterface)).1.2) = (((r.cl1 many).fresh.ex1 (r.is wInterface)).1.2, ((r.cl1 many).fresh.ex1 (r.is wInterface)).2) := fun h => by
        unfold Rs.ex2
        rcases h with h | h
        · rw [if_neg (by rw [h]; simp)]
        · rw [if_neg (by rw [h]; simp)]
      refine ⟨fun h1 => ?_, fun h1 => ?_⟩
      · have h1 : r.is wInterface = false := notT h1
        refine ⟨by kernel_rfl, ?_⟩
        refine ⟨(((r.cl1 many).fresh.ex1 (r.is wInterface)).2, wImplements), ⟨.refl _, .str rfl, trivial⟩, ⟨⟨rfl, .refl _, .refl _, .refl _, .refl _, .refl _, trivial⟩, trivial⟩, ⟨rok_fwd hr f3, trivial⟩, ?_⟩
        refine ⟨fun h2 => ?_, fun h2 => ?_⟩
        · have h2 : ((r.cl1 many).fresh.ex1 (r.is wInterface)).2.is wImplements = true := h2
          have hst := take_yes h2
          have e : (((r.cl1 many).fresh.ex1 (r.is wInterface)).2.ex2 (r.is wInterface) ((r.cl1 many).fresh.ex1 (r.is wInterface)).1.2) = ((r.cl1 many).fresh.ex1 (r.is wInterface)).2.step.names := by unfold Rs.ex2; rw [if_pos (by rw [Bool.and_eq_true]; exact ⟨by rw [h1]; rfl, h2⟩)]
          have hE : (((r.cl1 many).fresh.ex1 (r.is wInterface)).2.take wImplements).names.2 = (((r.cl1 many).fresh.ex1 (r.is wInterface)).2.ex2 (r.is wInterface) ((r.cl1 many).fresh.ex1 (r.is wInterface)).1.2).2 := by rw [e, hst]
          refine ⟨by kernel_rfl, ?_⟩
          refine ⟨(((r.cl1 many).fresh.ex1 (r.is wInterface)).2.take wImplements, ()), ⟨.refl _, trivial⟩, ⟨⟨rfl, .refl _, .refl _, .refl _, .refl _, .refl _, trivial⟩, trivial⟩, ⟨rok_fwd hr (f3.trans (Rs.take_fwd _ _)), trivial⟩, ?_⟩
          exact ⟨(), trivial, ⟨rfl, rfl⟩, .refl _, .refl _, .refl _, ⟨.refl _, .refl _, .refl _, .ownRow (by rw [e, hst]), .refl _, .refl _, trivial⟩, ⟨.refl _, .refl _, .refl _, .refl _, .refl _, .refl _, trivial⟩, ⟨.rowEq (rL hE :), .int (rI hE :), .int (rN hE :), .int (rA hE :), .int (rE hE :), trivial⟩, trivial⟩
        · have h2 : ((r.cl1 many).fresh.ex1 (r.is wInterface)).2.is wImplements = false := h2
          have hE : ((r.cl1 many).fresh.ex1 (r.is wInterface)).2.take wImplements = (((r.cl1 many).fresh.ex1 (r.is wInterface)).2.ex2 (r.is wInterface) ((r.cl1 many).fresh.ex1 (r.is wInterface)).1.2).2 := by rw [none (.inr h2), take_no h2]
          exact ⟨(), trivial, ⟨rfl, rfl⟩, .refl _, .refl _, .refl _, ⟨.refl _, .refl _, .refl _, .rowEq (by rw [none (.inr h2)]), .refl _, .refl _, trivial⟩, ⟨.refl _, .refl _, .refl _, .refl _, .refl _, .refl _, trivial⟩, ⟨.rowEq (rL hE :), .int (rI hE :), .int (rN hE :), .int (rA hE :), .int (rE hE :), trivial⟩, trivial⟩
      · have h1 : r.is wInterface = true := notF h1
        have hE : ((r.cl1 many).fresh.ex1 (r.is wInterface)).2 = (((r.cl1 many).fresh.ex1 (r.is wInterface)).2.ex2 (r.is wInterface) ((r.cl1 many).fresh.ex1 (r.is wInterface)).1.2).2 := by rw [none (.inl h1)]
        exact ⟨(), trivial, ⟨rfl, rfl⟩, .refl _, .refl _, .refl _, ⟨.refl _, .refl _, .refl _, .rowEq (by rw [none (.inl h1)]), .refl _, .refl _, trivial⟩, ⟨.refl _, .refl _, .refl _, .refl _, .refl _, .refl _, trivial⟩, ⟨.rowEq (rL hE :), .int (rI hE :), .int (rN hE :), .int (rA hE :), .int (rE hE :), trivial⟩, trivial⟩
    refine ⟨by kernel_rfl, ?_⟩
    refine ⟨((((r.cl1 many).fresh.ex1 (r.is wInterface)).2.ex2 (r.is wInterface) ((r.cl1 many).fresh.ex1 (r.is wInterface)).1.2).2, wLc), ⟨.refl _, .str rfl, trivial⟩, ⟨⟨rfl, .refl _, .refl _, .refl _, .refl _, .refl _, trivial⟩, trivial⟩, ⟨rok_fwd hr f4, trivial⟩, ?_⟩
    refine ⟨Nat × Rs × Cls, fun _ => [(0, .box 1000 0), (4, .box 4 0), (5, .box 5 0)], fun s => [(1000, rsC s.2.1), (4, [S noS, B false, S noS, .val (.slice none 0 0), .val (.slice none 0 0), .val (.slice none 0 0)]), (5, cPre s.2.2 6900060 7000060)],
      fun s => Rs.clsL s.1 s.2.1 s.2.2 = r.class' many ∧ s.2.1.need ≤ s.1 ∧ Fwd r s.2.1 ∧ s.2.2.fields.length + s.2.2.methods.length + s.1 ≤ r.L.length + 2, fun s => s.1,
      ⟨(r.L.length + 2, r.clR many, r.clV many), ⟨rfl, (by have := need_le (r.clR many); rw [f5.L] at this; exact this), f5, (by show 0 + 0 + (r.L.length + 2) ≤ _; omega)⟩, ⟨⟨rfl, rfl⟩, .refl _, .refl _, .refl _, ⟨.refl _, .refl _, .refl _, .refl _, .nilO .., .nilO .., trivial⟩, ⟨.refl _, .refl _, .refl _, .refl _, .refl _, .refl _, trivial⟩, ⟨.refl _, .refl _, .refl _, .refl _, .refl _, trivial⟩, trivial⟩⟩, fun ((k, q, c) : Nat × Rs × Cls) hx => ?_⟩
    have hx1 : Rs.clsL k q c = r.class' many := hx.1
    have hx2 : q.need ≤ k := hx.2.1
    have hx3 : Fwd r q := hx.2.2.1
    have hx4 : c.fields.length + c.methods.length + k ≤ r.L.length + 2 := hx.2.2.2
    obtain ⟨k, rfl⟩ : ∃ k', k = k' + 1 := ⟨k - 1, by have := Rs.need_pos q; omega⟩
    have hq : rok q := rok_fwd hr hx3
    rw [Rs.clsL] at hx1
    refine ⟨fun h1 => ?_, fun h1 => ?_⟩
    · have h1 : q.e = 0 := eqT h1
      refine ⟨by kernel_rfl, ?_⟩
      refine ⟨(q, wRc), ⟨.refl _, .str rfl, trivial⟩, ⟨⟨rfl, .refl _, .refl _, .refl _, .refl _, .refl _, trivial⟩, trivial⟩, ⟨hq, trivial⟩, ?_⟩
      refine ⟨fun h2 => ?_, fun h2 => ?_⟩
      · have h2 : q.is wRc = false := notT h2
        rw [if_pos h1, if_neg (by rw [h2]; decide)] at hx1
        have hE : q.take wRc = q := take_no h2
        refine ⟨(q, c), ⟨.refl _, .refl _, trivial⟩, ⟨⟨rfl, .rowEq (rL hE :), .int (rI hE :), .int (rN hE :), .int (rA hE :), .int (rE hE :), trivial⟩, ⟨rfl, .refl _, .refl _, .refl _, .refl _, .refl _, .refl _, trivial⟩, trivial⟩, ⟨hq, (show c.fields.length ≤ 2000000 by omega), (show c.methods.length ≤ 2000000 by omega)⟩, ?_⟩
        have hf := Rs.member_fwd q c
        have hml := member_len q c
        have hn : q.need ≤ k + 1 := hx2
        have hlt : (q.member c).2.need < q.need ∨ ¬ q.i < q.L.length := by
          by_cases c0 : q.i < q.L.length
          · exact .inl (Rs.need_lt ⟨h1, c0⟩ hf (Rs.member_on q c))
          · exact .inr c0
        have hk2 : (q.member c).2.need ≤ k := by
          rcases hlt with hlt | hlt
          · omega
          · have h3 := Rs.member_on q c
            have h4 := hf.bd
            have h5 : (q.member c).2.e ≠ 0 := by
              rcases h3 with h3 | h3
              · exact h3
              · omega
            have h6 : 1 < q.need := by unfold Rs.need; rw [if_pos h1]; omega
            unfold Rs.need
            rw [if_neg h5]; omega
        exact ⟨(k, (q.member c).2, (q.member c).1), ⟨hx1, hk2, hx3.trans hf, (show (q.member c).1.fields.length + (q.member c).1.methods.length + k ≤ r.L.length + 2 by omega)⟩, Nat.lt_succ_self _, ⟨rfl, rfl⟩, .refl _, .refl _, .refl _, ⟨.refl _, .refl _, .refl _, .refl _, .refl _, .refl _, trivial⟩, ⟨.refl _, .refl _, .refl _, .refl _, .refl _, .refl _, trivial⟩, ⟨.refl _, .refl _, .refl _, .refl _, .refl _, trivial⟩, trivial⟩
      · have h2 : q.is wRc = true := notF h2
        rw [if_pos h1, if_pos h2] at hx1
        have hE : q.take wRc = (r.class' many).2 := by rw [take_yes h2, ← hx1]
        exact ⟨.agg6 (.str (by rw [← hx1])) (.bool (by rw [← hx1])) (.str (by rw [← hx1])) (.rowEq (by rw [← hx1])) (.ownRow (by rw [← hx1])) (.ownRow (by rw [← hx1])), ⟨rfl, .rowEq (rL hE :), .int (rI hE :), .int (rN hE :), .int (rA hE :), .int (rE hE :), trivial⟩, trivial⟩
    · have h1 : ¬ q.e = 0 := eqF h1
      rw [if_neg h1] at hx1
      have hE : q = (r.class' many).2 := by rw [← hx1]
      exact ⟨.agg6 (.str (by rw [← hx1])) (.bool (by rw [← hx1])) (.str (by rw [← hx1])) (.rowEq (by rw [← hx1])) (.ownRow (by rw [← hx1])) (.ownRow (by rw [← hx1])), ⟨rfl, .rowEq (rL hE :), .int (rI hE :), .int (rN hE :), .int (rA hE :), .int (rE hE :), trivial⟩, trivial⟩
def parseC : Ctr := { A := List UInt8, enc := fun l => [.row UInt8 1 byteC 0 l], dom := fun l => l.length ≤ 4611686018427387904, res := fun l _ => .tup [.agg [prgR (parseF l).1], I (parseF l).2.1, I (parseF l).2.2], gl := tabP }
theorem scan_count (l : List UInt8) : (scanF l).1.length ≤ 6000 := by
  unfold scanF
  split
  · simp
  · have hh : ∀ (f i : Nat) (l : List UInt8), (scanL f i l).1.length ≤ l.length := by
      intro f
      induction f with
      | zero => intro i l; cases l <;> simp [scanL]
      | succ f ih =>
        intro i l
        cases l with
        | nil => simp [scanL]
        | cons c r =>
          simp only [scanL]
          split
          · have := ih (i + 1) r; simp only [List.length_cons]; omega
          · split
            · rename_i h2
              have h3 := word_pos h2
              have := ih (i + wordF (c :: r)) ((c :: r).drop (wordF (c :: r)))
              simp only [List.length_cons, List.length_drop] at this ⊢
              omega
            · simp
    have h1 := hh l.length 0 l
    split <;> (dsimp only; first | exact Nat.zero_le _ | (show (scanL l.length 0 l).1.length ≤ 6000; omega))
set_option maxRecDepth 100000 in
set_option maxHeartbeats 4000000 in
theorem parse_ok : CtrSound Tryz.prog 18 parseC :=
  ctr_of_ax (env_okB tys_ok (eqs := []) trivial (cs := [(36, scanC)]) ⟨scan_ok, trivial⟩ (bs := [(37, classRC)]) ⟨classR_ok, trivial⟩ (qu := [2, 40]) (sq := [510058, 510062, 520002, 710022]) (gl := tabP)) mixed _ Tryz.func18 (by kernel_rfl) rfl (fun _ _ => Nat.le_of_ble_eq_true rfl) fun (l : List UInt8) id hd => by
    have hd : l.length ≤ 4611686018427387904 := hd
    have hsc := scan_count l
    have err : ∀ (a e : Int), parseF l = ([], a, e) → ∀ s : SV, Sub s (.agg [prgR []]) → Sub (.tup [s, I a, I e]) (.tup [.agg [prgR (parseF l).1], I (parseF l).2.1, I (parseF l).2.2]) := fun a e h s hs => by
      rw [h]; exact .tup3 hs (.refl _) (.refl _)
    refine ⟨l, ⟨.refl _, trivial⟩, rfl, hd, ?_⟩
    refine ⟨fun h => ?_, fun h => ?_⟩
    · have h : ((scanF l).2.2 != 0) = true := h
      have e : parseF l = ([], (scanF l).2.1, (scanF l).2.2) := by
        unfold parseF; rw [if_neg (by simpa using h)]
      exact ⟨err _ _ e _ (.agg _ _ rfl fun j hj => by match j, hj with | 0, _ => exact .nil ..), rfl⟩
    have h0 : (scanF l).2.2 = 0 := by
      have h : ((scanF l).2.2 != 0) = false := h
      simpa using h
    have hr : rok (parse0 l) := ⟨by show (scanF l).1.length ≤ 1000000; omega, Nat.zero_le _⟩
    refine ⟨Nat × Rs × List Cls, fun _ => [(2, .box 2 0), (6, .box 22 0)], fun s => [(2, [.own Cls 6 clsC cls0 s.2.2 48]), (22, rsC s.2.1)],
      fun s => Rs.prgL s.1 s.2.1 s.2.2 = (Rs.prgL ((scanF l).1.length + 2) (parse0 l) []) ∧ s.2.1.need ≤ s.1 ∧ Fwd (parse0 l) s.2.1 ∧ s.2.2.length + s.1 ≤ (scanF l).1.length + 2, fun s => s.1,
      ⟨((scanF l).1.length + 2, parse0 l, []), ⟨rfl, need_le (parse0 l), .refl _, (by show 0 + _ ≤ _; omega)⟩, ⟨⟨rfl, rfl⟩, .refl _, .refl _, ⟨.nilO .., trivial⟩, ⟨.own .., .refl _, .refl _, .refl _, .refl _, trivial⟩, trivial⟩⟩, fun ((k, q, out) : Nat × Rs × List Cls) hx => ?_⟩
    have hx1 : Rs.prgL k q out = (Rs.prgL ((scanF l).1.length + 2) (parse0 l) []) := hx.1
    have hx2 : q.need ≤ k := hx.2.1
    have hx3 : Fwd (parse0 l) q := hx.2.2.1
    have hx4 : out.length + k ≤ (scanF l).1.length + 2 := hx.2.2.2
    obtain ⟨k, rfl⟩ : ∃ k', k = k' + 1 := ⟨k - 1, by have := Rs.need_pos q; omega⟩
    have hq : rok q := rok_fwd hr hx3
    rw [Rs.prgL] at hx1
    refine ⟨by kernel_rfl, ?_⟩
    have fin : ¬ (q.e = 0 ∧ q.i < q.L.length) → (out, q) = (Rs.prgL ((scanF l).1.length + 2) (parse0 l) []) := fun h => by rw [if_neg h] at hx1; exact hx1
    refine ⟨fun h1 => ?_, fun h1 => ?_⟩
    · have h1 : q.e = 0 := eqT h1
      refine ⟨fun h2 => ?_, fun h2 => ?_⟩
      · have h2 : q.i < q.L.length := dlt h2
        rw [if_pos ⟨h1, h2⟩] at hx1
        refine ⟨by kernel_rfl, ?_⟩
        refine ⟨by kernel_rfl, ?_⟩
        refine ⟨(q, (out.length : Int)), ⟨.refl _, .refl _, trivial⟩, ⟨⟨rfl, .refl _, .refl _, .refl _, .refl _, .refl _, trivial⟩, trivial⟩, ⟨hq, trivial⟩, ?_⟩
        refine ⟨Cls, clsC, cls0, [(q.class' out.length).1], ⟨rfl, fun _ => rfl⟩, ⟨.refl _, .refl _, .refl _, .refl _, .refl _, .refl _, trivial⟩, rfl, ?_⟩
        refine ⟨Cls, clsC, cls0, out, [(q.class' out.length).1], 48, ⟨.refl _, .own ..⟩, fun _ => rfl, (by show (out.length + 1) * 112 ≤ 140737488355328; omega), ?_⟩
        have hf := Rs.class_fwd q out.length
        have := Rs.need_lt ⟨h1, h2⟩ hf (Rs.class_on q out.length)
        exact ⟨(k, (q.class' out.length).2, out ++ [(q.class' out.length).1]), ⟨hx1, (show (q.class' out.length).2.need ≤ k by omega), hx3.trans hf, (show (out ++ [(q.class' out.length).1]).length + k ≤ (scanF l).1.length + 2 by simp; omega)⟩, Nat.lt_succ_self _, ⟨rfl, rfl⟩, .refl _, .refl _, ⟨.refl _, trivial⟩, ⟨.refl _, .refl _, .refl _, .refl _, .refl _, trivial⟩, trivial⟩
      · have h2 : ¬ q.i < q.L.length := by
          have h2 : decide ((q.i : Int) < (q.L.length : Int)) = false := h2
          have := dge h2; omega
        have e1 := fin (fun c => h2 c.2)
        refine ⟨fun h3 => ?_, fun h3 => ?_⟩
        · have h3 : (q.e != 0) = true := h3
          rw [h1] at h3; simp at h3
        · have e : parseF l = (out, 0, 0) := by
            unfold parseF; rw [if_pos h0, if_pos (by rw [← e1]; exact h1), ← e1]
          exact ⟨(show Sub _ (.tup [.agg [prgR (parseF l).1], I (parseF l).2.1, I (parseF l).2.2]) by rw [e]; exact .tup3 (.agg _ _ rfl fun j hj => by match j, hj with | 0, _ => exact .own ..) (.refl _) (.refl _)), rfl⟩
    · have h1 : ¬ q.e = 0 := eqF h1
      have e1 := fin (fun c => h1 c.1)
      refine ⟨fun h3 => ?_, fun h3 => ?_⟩
      · have e : parseF l = ([], q.at', q.e) := by
          unfold parseF; rw [if_pos h0, if_neg (by rw [← e1]; exact h1), ← e1]
        refine ⟨by kernel_rfl, ?_⟩
        exact ⟨err _ _ e _ (.agg _ _ rfl fun j hj => by match j, hj with | 0, _ => exact .nil ..), rfl⟩
      · have h3 : (q.e != 0) = false := h3
        exact absurd (by simpa using h3) h1
end Go.Proofs.YtadimoijlgmecaaGreatDoor.Ax
/- How the arguments of this seat's laws lie. -/
namespace Go.Proofs.YtadimoijlgmecaaGreatDoor.Ax
open Go Go.RowKit
abbrev sh9 : Shape := .str
abbrev sh3 : Shape := .int .i64
theorem laidOut : laidOutB Tryz.prog = true := by kernel_rfl
end Go.Proofs.YtadimoijlgmecaaGreatDoor.Ax
/- Layer parse: what each statement wakes; ParseWords. -/
set_option linter.unusedVariables false
set_option linter.unusedSimpArgs false
namespace Go.Proofs.YtadimoijlgmecaaGreatDoor.Ax
open Go Go.RowKit
def ParseWords : Ctr := { A := Int × Int, enc := fun x => [I x.1, I x.2], dom := fun _ => True, res := fun _ _ => .tt, gl := tabP }
end Go.Proofs.YtadimoijlgmecaaGreatDoor.Ax
/- Layer parse: words with blanks between them; ParseTypes. -/
set_option linter.unusedVariables false
set_option linter.unusedSimpArgs false
namespace Go.Proofs.YtadimoijlgmecaaGreatDoor.Ax
open Go Go.RowKit
/-! ### Words, a blank between them -/
/-! ### What the statement looks at -/
theorem ty_eq : EqSound Tryz.prog 26 (flatC Ty tyC) :=
  eq_flat [.int .i64, .str] _ tyC Tryz.underlying26 (by kernel_rfl) (by kernel_rfl) (by kernel_rfl) (fun _ => rfl)
theorem ty_dec (a b : Ty) : cellsEq (tyC a) (tyC b) = decide (a = b) := by
  obtain ⟨a1, a2⟩ := a
  obtain ⟨b1, b2⟩ := b
  rw [Bool.eq_iff_iff]
  simp [tyC, cellsEq, cellEq, ba_eq]
set_option maxRecDepth 100000 in
theorem kTypes_ok : CtrSound Tryz.prog 120 (keepR Ty 2 tyC ty0) :=
  ctr_of_ax (env_ok tys_ok (eqs := [(26, flatC Ty tyC)]) ⟨ty_eq, trivial⟩ (cs := []) trivial) mixed _ Tryz.func120 (by kernel_rfl) rfl (fun _ _ => Nat.le_of_ble_eq_true rfl) fun ((k, l) : List Ty × List Ty) id hd => by
    have hd : k.length ≤ 4611686018427387904 := hd
    have no : ¬ (k = l) → Sub .ff (B (decide (k = l))) := fun h => .bff (decide_eq_false h)
    refine ⟨fun h2 => ?_, fun h2 => ?_⟩
    · exact ⟨no fun q => lneT h2 (by rw [q]), rfl⟩
    have hl : k.length = l.length := lneF h2
    refine ⟨Nat, fun i => [(0, .row Ty 2 tyC ty0 k), (1, .row Ty 2 tyC ty0 l), (5, I i)], fun _ => [], fun i => i ≤ k.length ∧ ∀ j, j < i → k.getD j ty0 = l.getD j ty0, fun i => k.length - i,
      ⟨0, ⟨Nat.zero_le _, fun j hj => by omega⟩, ⟨⟨rfl, rfl⟩, .refl _, .refl _, .refl _, trivial⟩⟩, fun (i : Nat) hi => ?_⟩
    have hil := hi.1
    have hwj : IntKind.i64.wrap ((i : Int) + 1) = ((i + 1 : Nat) : Int) := by rw [wrap_eq _ (by omega) (by omega)]; omega
    refine ⟨fun h => ?_, fun h => ?_⟩
    · have hlt : i < k.length := dlt h
      refine ⟨by kernel_rfl, ?_⟩
      refine ⟨⟨by omega, by omega⟩, ⟨by omega, by omega⟩, ?_⟩
      refine ⟨k.getD i ty0, l.getD i ty0, ⟨.refl _, .refl _, trivial⟩, ⟨.refl _, .refl _, trivial⟩, fun h => ?_, fun h => ?_⟩
      · have h : (!cellsEq (tyC (k.getD i ty0)) (tyC (l.getD i ty0))) = true := h
        rw [ty_dec] at h
        exact ⟨no fun q => by rw [q] at h; simp at h, rfl⟩
      · have h : (!cellsEq (tyC (k.getD i ty0)) (tyC (l.getD i ty0))) = false := h
        rw [ty_dec] at h
        have he : k.getD i ty0 = l.getD i ty0 := by simpa using h
        exact ⟨i + 1, ⟨hlt, fun j hj => by rcases Nat.lt_succ_iff_lt_or_eq.1 hj with q | rfl; exact hi.2 j q; exact he⟩, by show k.length - (i + 1) < k.length - i; omega, ⟨rfl, rfl⟩, .refl _, .refl _, .int hwj, trivial⟩
    · have hge : i = k.length := Nat.le_antisymm hil (dge h)
      exact ⟨.btt (decide_eq_true (ext_getD ty0 hl fun j (hj : j < k.length) => hi.2 j (hge ▸ hj))), rfl⟩
/-! ### ParseTypes -/
def ParseTypes : Ctr := { A := Int × ByteArray, enc := fun x => [I x.1, S x.2], dom := fun x => sh3.ok x.1 ∧ sh9.ok x.2, res := fun _ _ => .tt, gl := tabP }
end Go.Proofs.YtadimoijlgmecaaGreatDoor.Ax
/- Layer parse: programs compared. -/
set_option linter.unusedVariables false
set_option linter.unusedSimpArgs false
namespace Go.Proofs.YtadimoijlgmecaaGreatDoor.Ax
open Go Go.RowKit
theorem eq_step {P : Program} (w : World) (d : Nat) (f : Go.Field) (fs : List Go.Field) (xs ys : Array Value) (a b : Value) (e r : Bool) (hn : f.name ≠ "_") (px : (part f.type xs f.offset).run P w = .ok a w) (py : (part f.type ys f.offset).run P w = .ok b w)
    (he : (Op.equalIn (d + 1) f.type a b).run P w = .ok e w) (ih : (Op.eqFields (d + 1) xs ys fs).run P w = .ok r w) : (Op.eqFields (d + 1) xs ys (f :: fs)).run P w = .ok (e && r) w := by
  simp only [Op.eqFields]
  rw [if_pos hn]
  simp only [Sem.run_bind, px, py, he, Result.andThen_ok, Sem.run_ite]
  cases e with
  | true => simp only [Bool.not_true, Bool.false_eq_true, if_false, Bool.true_and]; exact ih
  | false => simp
theorem part_flat {P : Program} (w : World) (f : Go.Field) {dd : TypeDesc} (hdd : P.underlying f.type = some dd) (hag : isAggD dd = false) (xs : Array Value) (lx : f.offset < xs.size) : (part f.type xs f.offset).run P w = .ok (xs.getD f.offset undef) w := by
  simp only [part, Sem.run_bind, run_isAgg hdd, hag, Result.andThen_ok]
  simp [Array.getD, lx]
theorem part_sub {P : Program} (w : World) (f : Go.Field) {gs : Array Go.Field} {i : TypeInfo} (hu : P.underlying f.type = some (.struct gs)) (hi : P.info? f.type = some i) (xs : Array Value) : (part f.type xs f.offset).run P w = .ok (.agg (xs.extract f.offset (f.offset + i.size))) w := by
  simp only [part, Sem.run_bind, run_isAgg hu, show isAggD (.struct gs) = true from rfl, Result.andThen_ok]
  rw [if_pos True.intro, Sem.run_bind, run_size hi]
  rfl
theorem fld_shape {P : Program} {t : Nat} {f0 f1 f2 : Go.Field} {gs : Array Go.Field} {i : TypeInfo} (hu : P.underlying t = some (.struct #[f0, f1, f2])) (hp : P.stoodInHeld t = false) (hm : P.eqGuardType P.depth t = false)
    (n0 : f0.name ≠ "_" ∧ f0.offset = 0 ∧ P.underlying f0.type = some .string) (n1 : f1.name ≠ "_" ∧ f1.offset = 1 ∧ P.underlying f1.type = some (.struct gs)) (n2 : f2.name ≠ "_" ∧ f2.offset = 3 ∧ P.underlying f2.type = some .bool)
    (hi : P.info? f1.type = some i) (hz : i.size = 2) (hp1 : P.stoodInHeld f1.type = false) (hk : flatB P 0 gs.toList [.int .i64, .str] = true) : EqSound P t (flatC Fld fldC) := by
  intro u v H β T xs ys w x y hx hy gx gy
  have hx : xs.size = 4 := hx
  have hy : ys.size = 4 := hy
  refine ⟨fun op => run_eqGuard_agg w op t x y xs ys hm, ?_⟩
  have hf : P.fieldsOf t = #[f0, f1, f2] := by unfold Program.fieldsOf; rw [hu]
  show (Op.equalIn (9999 + 1) t (.agg xs) (.agg ys)).run P w = _
  rw [run_equalIn_agg w 9999 t xs ys (by rw [hf]; exact hu) hp, hf]
  have gx0 : xs.getD 0 undef = .string u.name := gval (gx 0 (by show 0 < 4; omega))
  have gy0 : ys.getD 0 undef = .string v.name := gval (gy 0 (by show 0 < 4; omega))
  have gx1 : xs.getD 1 undef = .int .i64 u.type.1 := gval (gx 1 (by show 1 < 4; omega))
  have gy1 : ys.getD 1 undef = .int .i64 v.type.1 := gval (gy 1 (by show 1 < 4; omega))
  have gx2 : xs.getD 2 undef = .string u.type.2 := gval (gx 2 (by show 2 < 4; omega))
  have gy2 : ys.getD 2 undef = .string v.type.2 := gval (gy 2 (by show 2 < 4; omega))
  have gx3 : xs.getD 3 undef = .bool u.static := gval (gx 3 (by show 3 < 4; omega))
  have gy3 : ys.getD 3 undef = .bool v.static := gval (gy 3 (by show 3 < 4; omega))
  have e0 := eq_step w 9998 f0 [f1, f2] xs ys _ _ (u.name.toList == v.name.toList) (cellsEq (tyC u.type) (tyC v.type) && ((u.static == v.static) && true)) n0.1 (part_flat w f0 n0.2.2 rfl xs (by rw [n0.2.1]; omega)) (part_flat w f0 n0.2.2 rfl ys (by rw [n0.2.1]; omega))
    (by rw [n0.2.1, gx0, gy0]; exact run_equalIn_string w 9998 f0.type _ _ n0.2.2) ?_
  · show (Op.eqFields 9999 xs ys [f0, f1, f2]).run P w = _
    rw [e0]
    show Result.ok ((u.name.toList == v.name.toList) && (cellsEq (tyC u.type) (tyC v.type) && ((u.static == v.static) && true))) w = Result.ok (cellsEq (fldC u) (fldC v)) w
    simp [cellsEq, cellEq, fldC, tyC, Bool.and_assoc]
  · have sub : (Op.equalIn (9998 + 1) f1.type (.agg (xs.extract f1.offset (f1.offset + i.size))) (.agg (ys.extract f1.offset (f1.offset + i.size)))).run P w = .ok (cellsEq (tyC u.type) (tyC v.type)) w := by
      have hf1 : P.fieldsOf f1.type = gs := by unfold Program.fieldsOf; rw [n1.2.2]
      rw [run_equalIn_agg w 9998 f1.type _ _ (by rw [hf1]; exact n1.2.2) hp1, hf1, n1.2.1, hz]
      have q : ∀ (zs : Array Value) (a b : Value), zs.size = 4 → zs.getD 1 undef = a → zs.getD 2 undef = b → ∀ j, j < 2 → (zs.extract 1 (1 + 2)).getD j undef = if j = 0 then a else b := by
        intro zs a b hs h1 h2 j hj
        match j, hj with
        | 0, _ => rw [if_pos rfl, ← h1]; simp [Array.getD, hs]
        | 1, _ => rw [if_neg (by decide), ← h2]; simp [Array.getD, hs]
      refine run_eqFields (H := H) (β := β) (T := T) w 9997 (xs.extract 1 (1 + 2)) (ys.extract 1 (1 + 2)) gs.toList [.int .i64, .str] (tyC u.type) (tyC v.type) 0 hk rfl rfl ?_ ?_ (by simp [tyC, hx]) (by simp [tyC, hy])
      · intro j hj
        have hj : j < 2 := hj
        rw [Nat.zero_add, q xs _ _ hx gx1 gx2 j hj]
        match j, hj with
        | 0, _ => exact .val _
        | 1, _ => exact .val _
      · intro j hj
        have hj : j < 2 := hj
        rw [Nat.zero_add, q ys _ _ hy gy1 gy2 j hj]
        match j, hj with
        | 0, _ => exact .val _
        | 1, _ => exact .val _
    have e2 := eq_step w 9998 f2 [] xs ys _ _ (u.static == v.static) true n2.1 (part_flat w f2 n2.2.2 rfl xs (by rw [n2.2.1]; omega)) (part_flat w f2 n2.2.2 rfl ys (by rw [n2.2.1]; omega))
      (by rw [n2.2.1, gx3, gy3]; exact run_equalIn_bool w 9998 f2.type _ _ n2.2.2) (by simp [Op.eqFields])
    exact eq_step w 9998 f1 [f2] xs ys _ _ _ _ n1.1 (part_sub w f1 n1.2.2 hi xs) (part_sub w f1 n1.2.2 hi ys) sub e2
theorem fld_eq : EqSound Tryz.prog 49 (flatC Fld fldC) := by
  obtain ⟨i, hi, hz⟩ := Option.map_eq_some_iff.1 (show (Tryz.prog.info? 26).map (·.size) = some 2 by kernel_rfl)
  exact fld_shape Tryz.underlying49 (by kernel_rfl) (by kernel_rfl) ⟨by decide, rfl, Tryz.underlying9⟩ ⟨by decide, rfl, Tryz.underlying26⟩ ⟨by decide, rfl, Tryz.underlying4⟩ hi hz (by kernel_rfl) (by kernel_rfl)
theorem fld_dec (a b : Fld) : cellsEq (fldC a) (fldC b) = decide (a = b) := by
  obtain ⟨a1, ⟨a2, a3⟩, a4⟩ := a
  obtain ⟨b1, ⟨b2, b3⟩, b4⟩ := b
  rw [Bool.eq_iff_iff]
  simp [fldC, cellsEq, cellEq, ba_eq, and_assoc]
abbrev LB : Nat := 4611686018427387904
def mLen (m : Meth) : Prop := m.params.length ≤ LB ∧ m.code.length ≤ LB ∧ m.catches.length ≤ LB
def cLen (c : Cls) : Prop := c.ifaces.length ≤ LB ∧ c.fields.length ≤ LB ∧ c.methods.length ≤ LB ∧ ∀ m ∈ c.methods, mLen m
def pLen (p : List Cls) : Prop := p.length ≤ LB ∧ ∀ c ∈ p, cLen c
def kepC (T : Type) [DecidableEq T] (e : T → SV) (d : T → Prop) : Ctr := { A := T × T, enc := fun x => [e x.1, e x.2], dom := fun x => d x.1 ∧ d x.2, res := fun x _ => B (decide (x.1 = x.2)) }
theorem cat_eq : EqSound Tryz.prog 63 (flatC Cat catC) :=
  eq_flat [.str, .int .i64, .int .i64, .int .i64] _ catC Tryz.underlying63 (by kernel_rfl) (by kernel_rfl) (by kernel_rfl) (fun _ => rfl)
theorem cat_dec (a b : Cat) : cellsEq (catC a) (catC b) = decide (a = b) := by
  obtain ⟨a1, a2, a3, a4⟩ := a
  obtain ⟨b1, b2, b3, b4⟩ := b
  rw [Bool.eq_iff_iff]
  simp [catC, cellsEq, cellEq, ba_eq]
theorem kins_eq : EqSound Tryz.prog 56 (flatC Ins insC) :=
  eq_flat [.int .i64, .int .i64, .str, .str] _ insC Tryz.underlying56 (by kernel_rfl) (by kernel_rfl) (by kernel_rfl) (fun _ => rfl)
theorem kins_dec (a b : Ins) : cellsEq (insC a) (insC b) = decide (a = b) := by
  obtain ⟨a1, a2, a3, a4⟩ := a
  obtain ⟨b1, b2, b3, b4⟩ := b
  rw [Bool.eq_iff_iff]
  simp [insC, cellsEq, cellEq, ba_eq]
set_option maxRecDepth 100000 in
theorem kStrings_ok : CtrSound Tryz.prog 91 (keepR ByteArray 1 strC noS) :=
  ctr_of_ax (env_ok tys_ok (eqs := []) trivial (cs := []) trivial) mixed _ Tryz.func91 (by kernel_rfl) rfl (fun _ _ => Nat.le_of_ble_eq_true rfl) fun ((k, l) : List ByteArray × List ByteArray) id hd => by
    have hd : k.length ≤ 4611686018427387904 := hd
    have no : ¬ (k = l) → Sub .ff (B (decide (k = l))) := fun h => .bff (decide_eq_false h)
    refine ⟨fun h2 => ?_, fun h2 => ?_⟩
    · exact ⟨no fun q => lneT h2 (by rw [q]), rfl⟩
    have hl : k.length = l.length := lneF h2
    refine ⟨Nat, fun i => [(0, .row ByteArray 1 strC noS k), (1, .row ByteArray 1 strC noS l), (5, I i)], fun _ => [], fun i => i ≤ k.length ∧ ∀ j, j < i → k.getD j noS = l.getD j noS, fun i => k.length - i,
      ⟨0, ⟨Nat.zero_le _, fun j hj => by omega⟩, ⟨⟨rfl, rfl⟩, .refl _, .refl _, .refl _, trivial⟩⟩, fun (i : Nat) hi => ?_⟩
    have hil := hi.1
    have hwj : IntKind.i64.wrap ((i : Int) + 1) = ((i + 1 : Nat) : Int) := by rw [wrap_eq _ (by omega) (by omega)]; omega
    refine ⟨fun h => ?_, fun h => ?_⟩
    · have hlt : i < k.length := dlt h
      refine ⟨by kernel_rfl, ?_⟩
      refine ⟨⟨by omega, by omega⟩, ⟨by omega, by omega⟩, ?_⟩
      refine ⟨fun h => ?_, fun h => ?_⟩
      · have h : (!((k.getD i noS).toList == (l.getD i noS).toList)) = true := h
        exact ⟨no fun q => by rw [q] at h; simp at h, rfl⟩
      · have h : (!((k.getD i noS).toList == (l.getD i noS).toList)) = false := h
        have he : k.getD i noS = l.getD i noS := baT (notF h)
        exact ⟨i + 1, ⟨hlt, fun j hj => by rcases Nat.lt_succ_iff_lt_or_eq.1 hj with q | rfl; exact hi.2 j q; exact he⟩, by show k.length - (i + 1) < k.length - i; omega, ⟨rfl, rfl⟩, .refl _, .refl _, .int hwj, trivial⟩
    · have hge : i = k.length := Nat.le_antisymm hil (dge h)
      exact ⟨.btt (decide_eq_true (ext_getD noS hl fun j (hj : j < k.length) => hi.2 j (hge ▸ hj))), rfl⟩
set_option maxRecDepth 100000 in
set_option maxHeartbeats 4000000 in
theorem kMethod_ok : CtrSound Tryz.prog 92 (kepC Meth (fun m => .agg (methC m)) mLen) :=
  ctr_of_ax (env_ok tys_ok (eqs := [(26, flatC Ty tyC), (56, flatC Ins insC), (63, flatC Cat catC)]) ⟨ty_eq, kins_eq, cat_eq, trivial⟩ (cs := [(120, keepR Ty 2 tyC ty0)]) ⟨kTypes_ok, trivial⟩) mixed _ Tryz.func92 (by kernel_rfl) rfl (fun _ _ => Nat.le_of_ble_eq_true rfl) fun ((a, b) : Meth × Meth) id hd => by
    have hd1 : mLen a := hd.1
    obtain ⟨b1, b2, b3⟩ := hd1
    have no : ¬ (a = b) → Sub .ff (B (decide (a = b))) := fun h => .bff (decide_eq_false h)
    refine ⟨fun h => ?_, fun h => ?_⟩
    · have h : (!(a.name.toList == b.name.toList)) = true := h
      exact ⟨no fun q => by rw [q] at h; simp at h, rfl⟩
    have e_name : a.name = b.name := baT (notF h)
    refine ⟨fun h => ?_, fun h => ?_⟩
    · have h : (!(a.static == b.static)) = true := h
      exact ⟨no fun q => by rw [q] at h; simp at h, rfl⟩
    have e_static : a.static = b.static := by
      have h : (!(a.static == b.static)) = false := h
      simpa using h
    refine ⟨fun h => ?_, fun h => ?_⟩
    · have h : (!(a.abs == b.abs)) = true := h
      exact ⟨no fun q => by rw [q] at h; simp at h, rfl⟩
    have e_abs : a.abs = b.abs := by
      have h : (!(a.abs == b.abs)) = false := h
      simpa using h
    refine ⟨(a.params, b.params), ⟨.refl _, .refl _, trivial⟩, rfl, b1, ?_⟩
    refine ⟨fun h => ?_, fun h => ?_⟩
    · have h : (!decide (a.params = b.params)) = true := h
      exact ⟨no fun q => by rw [q] at h; simp at h, rfl⟩
    have e_params : a.params = b.params := by
      have h : (!decide (a.params = b.params)) = false := h
      simpa using h
    refine ⟨a.ret, b.ret, ⟨.refl _, .refl _, trivial⟩, ⟨.refl _, .refl _, trivial⟩, ?_⟩
    refine ⟨fun h => ?_, fun h => ?_⟩
    · have h : (!cellsEq (tyC a.ret) (tyC b.ret)) = true := h
      rw [ty_dec] at h
      exact ⟨no fun q => by rw [q] at h; simp at h, rfl⟩
    have e_ret : a.ret = b.ret := by
      have h : (!cellsEq (tyC a.ret) (tyC b.ret)) = false := h
      rw [ty_dec] at h
      simpa using h
    refine ⟨fun h => ?_, fun h => ?_⟩
    · have h : (a.locals != b.locals) = true := h
      exact ⟨no fun q => by rw [q] at h; simp at h, rfl⟩
    have e_locals : a.locals = b.locals := by
      have h : (a.locals != b.locals) = false := h
      simpa using h
    refine ⟨fun h => ?_, fun h => ?_⟩
    · have h : ((a.code.length : Int) != (b.code.length : Int)) = true := h
      exact ⟨no fun q => by rw [q] at h; simp at h, rfl⟩
    have l_code : a.code.length = b.code.length := lneF h
    refine ⟨fun h => ?_, fun h => ?_⟩
    · have h : ((a.catches.length : Int) != (b.catches.length : Int)) = true := h
      exact ⟨no fun q => by rw [q] at h; simp at h, rfl⟩
    have l_catches : a.catches.length = b.catches.length := lneF h
    have b2 : a.code.length ≤ 4611686018427387904 := b2
    have b3 : a.catches.length ≤ 4611686018427387904 := b3
    refine ⟨Nat, fun i => [(2, .box 2 0), (3, .box 3 0), (5, I i)], fun _ => [(2, methC a), (3, methC b)], fun i => i ≤ a.code.length ∧ ∀ j, j < i → a.code.getD j ins0 = b.code.getD j ins0, fun i => a.code.length - i,
      ⟨0, ⟨Nat.zero_le _, fun j hj => by omega⟩, ⟨⟨rfl, rfl⟩, .refl _, .refl _, .refl _, ⟨.refl _, .refl _, .refl _, .refl _, .refl _, .refl _, .refl _, .refl _, .refl _, trivial⟩, ⟨.refl _, .refl _, .refl _, .refl _, .refl _, .refl _, .refl _, .refl _, .refl _, trivial⟩, trivial⟩⟩, fun (i : Nat) hi => ?_⟩
    have hil : i ≤ a.code.length := hi.1
    have hwj : IntKind.i64.wrap ((i : Int) + 1) = ((i + 1 : Nat) : Int) := by rw [wrap_eq _ (by omega) (by omega)]; omega
    refine ⟨fun h => ?_, fun h => ?_⟩
    · have hlt : i < a.code.length := dlt h
      refine ⟨by kernel_rfl, ?_⟩
      refine ⟨(show 0 ≤ (i : Int) ∧ (i : Int) < (a.code.length : Int) by omega), (show 0 ≤ (i : Int) ∧ (i : Int) < (b.code.length : Int) by omega), ?_⟩
      refine ⟨a.code.getD i ins0, b.code.getD i ins0, ⟨.refl _, .refl _, .refl _, .refl _, trivial⟩, ⟨.refl _, .refl _, .refl _, .refl _, trivial⟩, ?_⟩
      refine ⟨fun h => ?_, fun h => ?_⟩
      · have h : (!cellsEq (insC (a.code.getD i ins0)) (insC (b.code.getD i ins0))) = true := h
        rw [kins_dec] at h
        exact ⟨no fun q => by rw [q] at h; simp at h, rfl⟩
      · have h : (!cellsEq (insC (a.code.getD i ins0)) (insC (b.code.getD i ins0))) = false := h
        rw [kins_dec] at h
        have he : a.code.getD i ins0 = b.code.getD i ins0 := by simpa using h
        exact ⟨i + 1, ⟨hlt, fun j hj => by rcases Nat.lt_succ_iff_lt_or_eq.1 hj with q | rfl; exact hi.2 j q; exact he⟩, (show a.code.length - (i + 1) < a.code.length - i by omega), ⟨rfl, rfl⟩, .refl _, .int hwj, .refl _, ⟨.refl _, .refl _, .refl _, .refl _, .refl _, .refl _, .refl _, .refl _, .refl _, trivial⟩, ⟨.refl _, .refl _, .refl _, .refl _, .refl _, .refl _, .refl _, .refl _, .refl _, trivial⟩, trivial⟩
    have e_code : a.code = b.code := by
      have hge : i = a.code.length := Nat.le_antisymm hil (dge h)
      exact ext_getD ins0 l_code fun j (hj : j < a.code.length) => hi.2 j (hge ▸ hj)
    clear hi hil hwj h
    refine ⟨Nat, fun i => [(2, .box 2 0), (3, .box 3 0), (6, I i)], fun _ => [(2, methC a), (3, methC b)], fun i => i ≤ a.catches.length ∧ ∀ j, j < i → a.catches.getD j cat0 = b.catches.getD j cat0, fun i => a.catches.length - i,
      ⟨0, ⟨Nat.zero_le _, fun j hj => by omega⟩, ⟨⟨rfl, rfl⟩, .refl _, .refl _, .refl _, ⟨.refl _, .refl _, .refl _, .refl _, .refl _, .refl _, .refl _, .refl _, .refl _, trivial⟩, ⟨.refl _, .refl _, .refl _, .refl _, .refl _, .refl _, .refl _, .refl _, .refl _, trivial⟩, trivial⟩⟩, fun (i : Nat) hi => ?_⟩
    have hil : i ≤ a.catches.length := hi.1
    have hwj : IntKind.i64.wrap ((i : Int) + 1) = ((i + 1 : Nat) : Int) := by rw [wrap_eq _ (by omega) (by omega)]; omega
    refine ⟨fun h => ?_, fun h => ?_⟩
    · have hlt : i < a.catches.length := dlt h
      refine ⟨by kernel_rfl, ?_⟩
      refine ⟨(show 0 ≤ (i : Int) ∧ (i : Int) < (a.catches.length : Int) by omega), (show 0 ≤ (i : Int) ∧ (i : Int) < (b.catches.length : Int) by omega), ?_⟩
      refine ⟨a.catches.getD i cat0, b.catches.getD i cat0, ⟨.refl _, .refl _, .refl _, .refl _, trivial⟩, ⟨.refl _, .refl _, .refl _, .refl _, trivial⟩, ?_⟩
      refine ⟨fun h => ?_, fun h => ?_⟩
      · have h : (!cellsEq (catC (a.catches.getD i cat0)) (catC (b.catches.getD i cat0))) = true := h
        rw [cat_dec] at h
        exact ⟨no fun q => by rw [q] at h; simp at h, rfl⟩
      · have h : (!cellsEq (catC (a.catches.getD i cat0)) (catC (b.catches.getD i cat0))) = false := h
        rw [cat_dec] at h
        have he : a.catches.getD i cat0 = b.catches.getD i cat0 := by simpa using h
        exact ⟨i + 1, ⟨hlt, fun j hj => by rcases Nat.lt_succ_iff_lt_or_eq.1 hj with q | rfl; exact hi.2 j q; exact he⟩, (show a.catches.length - (i + 1) < a.catches.length - i by omega), ⟨rfl, rfl⟩, .refl _, .refl _, .int hwj, ⟨.refl _, .refl _, .refl _, .refl _, .refl _, .refl _, .refl _, .refl _, .refl _, trivial⟩, ⟨.refl _, .refl _, .refl _, .refl _, .refl _, .refl _, .refl _, .refl _, .refl _, trivial⟩, trivial⟩
    have e_catches : a.catches = b.catches := by
      have hge : i = a.catches.length := Nat.le_antisymm hil (dge h)
      exact ext_getD cat0 l_catches fun j (hj : j < a.catches.length) => hi.2 j (hge ▸ hj)
    clear hi hil hwj h
    exact ⟨.btt (decide_eq_true (by cases a; cases b; simp_all)), rfl⟩
set_option maxRecDepth 100000 in
set_option maxHeartbeats 4000000 in
theorem kClass_ok : CtrSound Tryz.prog 55 (kepC Cls (fun c => .agg (clsC c)) cLen) :=
  ctr_of_ax (env_ok tys_ok (eqs := [(49, flatC Fld fldC)]) ⟨fld_eq, trivial⟩ (cs := [(91, keepR ByteArray 1 strC noS), (92, kepC Meth (fun m => .agg (methC m)) mLen)]) ⟨kStrings_ok, kMethod_ok, trivial⟩) mixed _ Tryz.func55 (by kernel_rfl) rfl (fun _ _ => Nat.le_of_ble_eq_true rfl) fun ((a, b) : Cls × Cls) id hd => by
    have hd1 : cLen a := hd.1
    have hd2 : cLen b := hd.2
    obtain ⟨b1, b2, b3, b4⟩ := hd1
    have no : ¬ (a = b) → Sub .ff (B (decide (a = b))) := fun h => .bff (decide_eq_false h)
    refine ⟨fun h => ?_, fun h => ?_⟩
    · have h : (!(a.name.toList == b.name.toList)) = true := h
      exact ⟨no fun q => by rw [q] at h; simp at h, rfl⟩
    have e_name : a.name = b.name := baT (notF h)
    refine ⟨fun h => ?_, fun h => ?_⟩
    · have h : (!(a.iface == b.iface)) = true := h
      exact ⟨no fun q => by rw [q] at h; simp at h, rfl⟩
    have e_iface : a.iface = b.iface := by
      have h : (!(a.iface == b.iface)) = false := h
      simpa using h
    refine ⟨fun h => ?_, fun h => ?_⟩
    · have h : (!(a.super.toList == b.super.toList)) = true := h
      exact ⟨no fun q => by rw [q] at h; simp at h, rfl⟩
    have e_super : a.super = b.super := baT (notF h)
    refine ⟨(a.ifaces, b.ifaces), ⟨.refl _, .refl _, trivial⟩, rfl, b1, ?_⟩
    refine ⟨fun h => ?_, fun h => ?_⟩
    · have h : (!decide (a.ifaces = b.ifaces)) = true := h
      exact ⟨no fun q => by rw [q] at h; simp at h, rfl⟩
    have e_ifaces : a.ifaces = b.ifaces := by
      have h : (!decide (a.ifaces = b.ifaces)) = false := h
      simpa using h
    refine ⟨fun h => ?_, fun h => ?_⟩
    · have h : ((a.fields.length : Int) != (b.fields.length : Int)) = true := h
      exact ⟨no fun q => by rw [q] at h; simp at h, rfl⟩
    have l_fields : a.fields.length = b.fields.length := lneF h
    refine ⟨fun h => ?_, fun h => ?_⟩
    · have h : ((a.methods.length : Int) != (b.methods.length : Int)) = true := h
      exact ⟨no fun q => by rw [q] at h; simp at h, rfl⟩
    have l_methods : a.methods.length = b.methods.length := lneF h
    have b2 : a.fields.length ≤ 4611686018427387904 := b2
    have b3 : a.methods.length ≤ 4611686018427387904 := b3
    refine ⟨Nat, fun i => [(2, .box 2 0), (3, .box 3 0), (5, I i)], fun _ => [(2, clsC a), (3, clsC b)], fun i => i ≤ a.fields.length ∧ ∀ j, j < i → a.fields.getD j fld0 = b.fields.getD j fld0, fun i => a.fields.length - i,
      ⟨0, ⟨Nat.zero_le _, fun j hj => by omega⟩, ⟨⟨rfl, rfl⟩, .refl _, .refl _, .refl _, ⟨.refl _, .refl _, .refl _, .refl _, .refl _, .refl _, trivial⟩, ⟨.refl _, .refl _, .refl _, .refl _, .refl _, .refl _, trivial⟩, trivial⟩⟩, fun (i : Nat) hi => ?_⟩
    have hil : i ≤ a.fields.length := hi.1
    have hwj : IntKind.i64.wrap ((i : Int) + 1) = ((i + 1 : Nat) : Int) := by rw [wrap_eq _ (by omega) (by omega)]; omega
    refine ⟨fun h => ?_, fun h => ?_⟩
    · have hlt : i < a.fields.length := dlt h
      refine ⟨by kernel_rfl, ?_⟩
      refine ⟨(show 0 ≤ (i : Int) ∧ (i : Int) < (a.fields.length : Int) by omega), (show 0 ≤ (i : Int) ∧ (i : Int) < (b.fields.length : Int) by omega), ?_⟩
      refine ⟨a.fields.getD i fld0, b.fields.getD i fld0, ⟨.refl _, .refl _, .refl _, .refl _, trivial⟩, ⟨.refl _, .refl _, .refl _, .refl _, trivial⟩, ?_⟩
      refine ⟨fun h => ?_, fun h => ?_⟩
      · have h : (!cellsEq (fldC (a.fields.getD i fld0)) (fldC (b.fields.getD i fld0))) = true := h
        rw [fld_dec] at h
        exact ⟨no fun q => by rw [q] at h; simp at h, rfl⟩
      · have h : (!cellsEq (fldC (a.fields.getD i fld0)) (fldC (b.fields.getD i fld0))) = false := h
        rw [fld_dec] at h
        have he : a.fields.getD i fld0 = b.fields.getD i fld0 := by simpa using h
        exact ⟨i + 1, ⟨hlt, fun j hj => by rcases Nat.lt_succ_iff_lt_or_eq.1 hj with q | rfl; exact hi.2 j q; exact he⟩, (show a.fields.length - (i + 1) < a.fields.length - i by omega), ⟨rfl, rfl⟩, .refl _, .int hwj, .refl _, ⟨.refl _, .refl _, .refl _, .refl _, .refl _, .refl _, trivial⟩, ⟨.refl _, .refl _, .refl _, .refl _, .refl _, .refl _, trivial⟩, trivial⟩
    have e_fields : a.fields = b.fields := by
      have hge : i = a.fields.length := Nat.le_antisymm hil (dge h)
      exact ext_getD fld0 l_fields fun j (hj : j < a.fields.length) => hi.2 j (hge ▸ hj)
    clear hi hil hwj h
    refine ⟨Nat, fun i => [(2, .box 2 0), (3, .box 3 0), (6, I i)], fun _ => [(2, clsC a), (3, clsC b)], fun i => i ≤ a.methods.length ∧ ∀ j, j < i → a.methods.getD j meth0 = b.methods.getD j meth0, fun i => a.methods.length - i,
      ⟨0, ⟨Nat.zero_le _, fun j hj => by omega⟩, ⟨⟨rfl, rfl⟩, .refl _, .refl _, .refl _, ⟨.refl _, .refl _, .refl _, .refl _, .refl _, .refl _, trivial⟩, ⟨.refl _, .refl _, .refl _, .refl _, .refl _, .refl _, trivial⟩, trivial⟩⟩, fun (i : Nat) hi => ?_⟩
    have hil : i ≤ a.methods.length := hi.1
    have hwj : IntKind.i64.wrap ((i : Int) + 1) = ((i + 1 : Nat) : Int) := by rw [wrap_eq _ (by omega) (by omega)]; omega
    refine ⟨fun h => ?_, fun h => ?_⟩
    · have hlt : i < a.methods.length := dlt h
      refine ⟨by kernel_rfl, ?_⟩
      refine ⟨(show 0 ≤ (i : Int) ∧ (i : Int) < (a.methods.length : Int) by omega), (show 0 ≤ (i : Int) ∧ (i : Int) < (b.methods.length : Int) by omega), ?_⟩
      refine ⟨(a.methods.getD i meth0, b.methods.getD i meth0), ⟨.refl _, .refl _, trivial⟩, rfl, ⟨b4 _ (getT_mem _ _ _ hlt), hd2.2.2.2 _ (getT_mem _ _ _ (l_methods ▸ hlt))⟩, ?_⟩
      refine ⟨fun h => ?_, fun h => ?_⟩
      · have h : (!decide ((a.methods.getD i meth0) = (b.methods.getD i meth0))) = true := h
        skip
        exact ⟨no fun q => by rw [q] at h; simp at h, rfl⟩
      · have h : (!decide ((a.methods.getD i meth0) = (b.methods.getD i meth0))) = false := h
        skip
        have he : a.methods.getD i meth0 = b.methods.getD i meth0 := by simpa using h
        exact ⟨i + 1, ⟨hlt, fun j hj => by rcases Nat.lt_succ_iff_lt_or_eq.1 hj with q | rfl; exact hi.2 j q; exact he⟩, (show a.methods.length - (i + 1) < a.methods.length - i by omega), ⟨rfl, rfl⟩, .refl _, .refl _, .int hwj, ⟨.refl _, .refl _, .refl _, .refl _, .refl _, .refl _, trivial⟩, ⟨.refl _, .refl _, .refl _, .refl _, .refl _, .refl _, trivial⟩, trivial⟩
    have e_methods : a.methods = b.methods := by
      have hge : i = a.methods.length := Nat.le_antisymm hil (dge h)
      exact ext_getD meth0 l_methods fun j (hj : j < a.methods.length) => hi.2 j (hge ▸ hj)
    clear hi hil hwj h
    exact ⟨.btt (decide_eq_true (by cases a; cases b; simp_all)), rfl⟩
def kRow : Ctr := { A := List Cls × List Cls, enc := fun x => [prgR x.1, prgR x.2], dom := fun x => pLen x.1 ∧ pLen x.2, res := fun x _ => B (decide (x.1 = x.2)) }
set_option maxRecDepth 100000 in
theorem kClasses_ok : CtrSound Tryz.prog 33 kRow :=
  ctr_of_ax (env_ok tys_ok (eqs := []) trivial (cs := [(55, kepC Cls (fun c => .agg (clsC c)) cLen)]) ⟨kClass_ok, trivial⟩) mixed _ Tryz.func33 (by kernel_rfl) rfl (fun _ _ => Nat.le_of_ble_eq_true rfl) fun ((k, l) : List Cls × List Cls) id hd => by
    have hd0 : pLen k := hd.1
    have hd2 : pLen l := hd.2
    have hd : k.length ≤ 4611686018427387904 := hd0.1
    have no : ¬ (k = l) → Sub .ff (B (decide (k = l))) := fun h => .bff (decide_eq_false h)
    refine ⟨fun h2 => ?_, fun h2 => ?_⟩
    · exact ⟨no fun q => lneT h2 (by rw [q]), rfl⟩
    have hl : k.length = l.length := lneF h2
    refine ⟨Nat, fun i => [(0, prgR k), (1, prgR l), (5, I i)], fun _ => [], fun i => i ≤ k.length ∧ ∀ j, j < i → k.getD j cls0 = l.getD j cls0, fun i => k.length - i,
      ⟨0, ⟨Nat.zero_le _, fun j hj => by omega⟩, ⟨⟨rfl, rfl⟩, .refl _, .refl _, .refl _, trivial⟩⟩, fun (i : Nat) hi => ?_⟩
    have hil := hi.1
    have hwj : IntKind.i64.wrap ((i : Int) + 1) = ((i + 1 : Nat) : Int) := by rw [wrap_eq _ (by omega) (by omega)]; omega
    refine ⟨fun h => ?_, fun h => ?_⟩
    · have hlt : i < k.length := dlt h
      refine ⟨by kernel_rfl, ?_⟩
      refine ⟨⟨by omega, by omega⟩, ⟨by omega, by omega⟩, ?_⟩
      refine ⟨(k.getD i cls0, l.getD i cls0), ⟨.refl _, .refl _, trivial⟩, rfl, ⟨hd0.2 _ (getT_mem _ _ _ hlt), hd2.2 _ (getT_mem _ _ _ (hl ▸ hlt))⟩, ?_⟩
      refine ⟨fun h => ?_, fun h => ?_⟩
      · have h : (!decide (k.getD i cls0 = l.getD i cls0)) = true := h
        exact ⟨no fun q => by rw [q] at h; simp at h, rfl⟩
      · have h : (!decide (k.getD i cls0 = l.getD i cls0)) = false := h
        have he : k.getD i cls0 = l.getD i cls0 := by simpa using h
        exact ⟨i + 1, ⟨hlt, fun j hj => by rcases Nat.lt_succ_iff_lt_or_eq.1 hj with q | rfl; exact hi.2 j q; exact he⟩, by show k.length - (i + 1) < k.length - i; omega, ⟨rfl, rfl⟩, .refl _, .refl _, .int hwj, trivial⟩
    · have hge : i = k.length := Nat.le_antisymm hil (dge h)
      exact ⟨.btt (decide_eq_true (ext_getD cls0 hl fun j (hj : j < k.length) => hi.2 j (hge ▸ hj))), rfl⟩
def kPrg : Ctr := { A := List Cls × List Cls, enc := fun x => [.agg [prgR x.1], .agg [prgR x.2]], dom := fun x => pLen x.1 ∧ pLen x.2, res := fun x _ => B (decide (x.1 = x.2)) }
set_option maxRecDepth 100000 in
theorem kPrg_ok : CtrSound Tryz.prog 15 kPrg :=
  ctr_of_ax (env_ok tys_ok (eqs := []) trivial (cs := [(33, kRow)]) ⟨kClasses_ok, trivial⟩) mixed _ Tryz.func15 (by kernel_rfl) rfl (fun _ _ => Nat.le_of_ble_eq_true rfl) fun ((k, l) : List Cls × List Cls) id hd => by
    refine ⟨(k, l), ⟨.refl _, .refl _, trivial⟩, rfl, hd, ?_⟩
    exact ⟨.refl _, rfl⟩
end Go.Proofs.YtadimoijlgmecaaGreatDoor.Ax
/- Layer show: what each statement wakes; ShowUnlike, ShowParts. -/
set_option linter.unusedVariables false
set_option linter.unusedSimpArgs false
namespace Go.Proofs.YtadimoijlgmecaaGreatDoor.Ax
open Go Go.RowKit
theorem Sub.agg1 {a b : SV} (h : Sub a b) : Sub (.agg [a]) (.agg [b]) := .agg _ _ rfl fun j hj => by
  obtain rfl : j = 0 := by simpa using hj
  exact h
theorem meth_H {m : Meth} (h : methH m = true) : methD m ∧ mLen m := by
  unfold methH methH0 at h
  simp only [Bool.and_eq_true, decide_eq_true_eq, List.all_eq_true] at h
  obtain ⟨⟨h1, h2, h3, h4, h5⟩, h6, h7, h8⟩ := h
  refine ⟨⟨by unfold SM; omega, by unfold SM; omega, ⟨by omega, fun x hx => ?_⟩, ⟨by omega, fun x hx => ?_⟩, by omega, fun x hx => ?_⟩, by unfold LB; omega, by unfold LB; omega, by unfold LB; omega⟩
  · have := h7 x hx; unfold tyH at this; have := of_decide_eq_true this; unfold SM; omega
  · have := h6 x hx; unfold insH at this; simp only [Bool.and_eq_true, decide_eq_true_eq] at this; exact ⟨by unfold SM; omega, by unfold SM; omega⟩
  · have := h8 x hx; unfold catH at this; have := of_decide_eq_true this; show x.name.size ≤ SM; unfold SM; omega
theorem cls_H {c : Cls} (h : clsH c = true) : clsD c ∧ cLen c := by
  unfold clsH clsH0 at h
  simp only [Bool.and_eq_true, decide_eq_true_eq, List.all_eq_true] at h
  obtain ⟨⟨h1, h2, h3, h4, h5⟩, h6, h7, h8⟩ := h
  refine ⟨⟨by unfold SM; omega, by unfold SM; omega, ⟨by omega, fun x hx => ?_⟩, ⟨by omega, fun x hx => ?_⟩, by omega, fun x hx => (meth_H (h8 x hx)).1⟩, by unfold LB; omega, by unfold LB; omega, by unfold LB; omega, fun x hx => (meth_H (h8 x hx)).2⟩
  · have := h7 x hx; unfold strH at this; have := of_decide_eq_true this; unfold SM; omega
  · have := h6 x hx; unfold fldH at this; simp only [Bool.and_eq_true, decide_eq_true_eq] at this; exact ⟨by unfold SM; omega, by unfold SM; omega⟩
theorem prg_H {p : List Cls} (h : prgH p = true) : prgD p ∧ pLen p := by
  unfold prgH at h
  simp only [Bool.and_eq_true, decide_eq_true_eq, List.all_eq_true] at h
  exact ⟨⟨by omega, fun c hc => (cls_H (h.2 c hc)).1⟩, by unfold LB; omega, fun c hc => (cls_H (h.2 c hc)).2⟩
theorem show_ok {p : List Cls} (h : (showF p).2 = 0) : prgOk p = true ∧ (textP p).length ≤ 6000 ∧ (showF p).1 = textP p := by
  unfold showF at h ⊢
  by_cases h1 : prgOk p = true
  · rw [if_pos h1] at h ⊢
    by_cases h2 : 6000 < (textP p).length
    · rw [if_pos h2] at h; cases h
    · rw [if_neg h2]; exact ⟨h1, by omega, rfl⟩
  · rw [if_neg h1] at h; cases h
theorem show_len (p : List Cls) : (showF p).1.length ≤ 6000 := by
  unfold showF
  split
  · split
    · simp
    · show (textP p).length ≤ 6000; omega
  · simp
abbrev lS : Ctr := { A := Unit, enc := fun _ => [], dom := fun _ => True, res := fun _ _ => .tt, gl := tabS }
abbrev clsA : Cls := ⟨⟨#[65]⟩, false, noS, [], [], []⟩
theorem wkS1 : showF [clsA] = ([99, 108, 97, 115, 115, 32, 65, 32, 123, 10, 125, 10], 0) := by decide +kernel
theorem wkS2 : typeF 5 [65] = ([65, 91, 93], 0) := by decide +kernel
theorem wkS3 : prgOk [cls0] = false := by decide +kernel
theorem clsD_of (s : ByteArray) (h : s.size ≤ 100) : clsD ⟨s, false, noS, [], [], []⟩ := ⟨by show s.size ≤ SM; unfold SM; omega, (by show noS.size ≤ 4611686018427387904; decide), ⟨Nat.zero_le _, fun x hx => by cases hx⟩, ⟨Nat.zero_le _, fun x hx => by cases hx⟩, Nat.zero_le _, fun x hx => by cases hx⟩
set_option maxRecDepth 100000 in
set_option maxHeartbeats 2000000 in
theorem wakesS_ok : CtrSound Tryz.prog 16 lS :=
  ctr_of_ax (env_okB tys_ok (eqs := []) trivial (cs := [(10, textK), (11, typeC), (14, okC)]) ⟨text_ok, type_ok, ok_ok, trivial⟩ (bs := []) trivial (gl := tabS)) mixed _ Tryz.func16 (by kernel_rfl) rfl (fun _ _ => Nat.le_of_ble_eq_true rfl) fun (_ : Unit) id hd => by
    obtain ⟨p1, e1⟩ : ∃ p : List Cls, p = [clsA] := ⟨_, rfl⟩
    obtain ⟨p2, e2⟩ : ∃ p : List Cls, p = [cls0] := ⟨_, rfl⟩
    obtain ⟨l1, f1⟩ : ∃ l : List UInt8, l = [65] := ⟨_, rfl⟩
    have a1 := wkS1
    rw [← e1] at a1
    have a2 := wkS2
    rw [← f1] at a2
    have a3 := wkS3
    rw [← e2] at a3
    have b1 : (showF p1).2 = 0 := by rw [a1]
    have b2 : ((⟨(showF p1).1.toArray⟩ : ByteArray).toList == (⟨#[99, 108, 97, 115, 115, 32, 65, 32, 123, 10, 125, 10]⟩ : ByteArray).toList) = true := by rw [a1]; simp
    have b3 : (typeF 5 l1).2 = 0 := by rw [a2]
    have b4 : ((txt (typeF 5 l1).1).toList == (⟨#[65, 91, 93]⟩ : ByteArray).toList) = true := by rw [a2]; simp [txt]
    refine ⟨Cls, clsC, cls0, [clsA], ⟨rfl, fun _ => rfl⟩, ⟨.refl _, .refl _, .refl _, .nil .., .nil .., .nil .., trivial⟩, rfl, ?_⟩
    refine ⟨p1, ⟨.agg1 (.ownRow e1.symm), trivial⟩, rfl, (show prgD p1 by rw [e1]; exact ⟨by decide, fun c hc => by rw [List.mem_singleton.1 hc]; exact clsD_of _ (by decide)⟩), ?_⟩
    refine ⟨(5, l1), ⟨.agg2 (.refl _) (.str (by rw [f1])), trivial⟩, rfl, (show l1.length ≤ 1000000 by rw [f1]; decide), ?_⟩
    refine ⟨fun h => ?_, fun h => absurd h (by show ¬ ((showF p1).2 == 0) = false; rw [b1]; decide)⟩
    refine ⟨(showF p1).1, .refl _, ?_⟩
    refine ⟨fun h => ?_, fun h => absurd h (by show ¬ ((⟨(showF p1).1.toArray⟩ : ByteArray).toList == (⟨#[99, 108, 97, 115, 115, 32, 65, 32, 123, 10, 125, 10]⟩ : ByteArray).toList) = false; rw [b2]; decide)⟩
    refine ⟨fun h => ?_, fun h => absurd h (by show ¬ ((typeF 5 l1).2 == 0) = false; rw [b3]; decide)⟩
    refine ⟨fun h => ?_, fun h => absurd h (by show ¬ ((txt (typeF 5 l1).1).toList == (⟨#[65, 91, 93]⟩ : ByteArray).toList) = false; rw [b4]; decide)⟩
    refine ⟨Cls, clsC, cls0, [cls0], ⟨rfl, fun _ => rfl⟩, ⟨.refl _, .refl _, .refl _, .nil .., .nil .., .nil .., trivial⟩, rfl, ?_⟩
    refine ⟨p2, ⟨.agg1 (.ownRow e2.symm), trivial⟩, rfl, (show prgD p2 by rw [e2]; exact ⟨by decide, fun c hc => by rw [List.mem_singleton.1 hc]; exact clsD_of _ (by decide)⟩), ?_⟩
    exact ⟨.toTT (by show ((if prgOk p2 then (0 : Int) else 4) == 4) = true; rw [a3]; rfl), rfl⟩
theorem beqT {a b : Int} (h : (a != b) = false) : a = b := by simpa using h
def ShowUnlike : Ctr := { A := List Cls × List Cls, enc := fun x => [.agg [prgR x.1], .agg [prgR x.2]], dom := fun _ => True, res := fun _ _ => .tt, gl := tabS }
def ShowParts : Ctr := { A := List Cls, enc := fun p => [.agg [prgR p]], dom := fun _ => True, res := fun _ _ => .tt, gl := tabS }
end Go.Proofs.YtadimoijlgmecaaGreatDoor.Ax
/- Layer show: ShowBack. -/
set_option linter.unusedVariables false
set_option linter.unusedSimpArgs false
namespace Go.Proofs.YtadimoijlgmecaaGreatDoor.Ax
open Go Go.RowKit
theorem show_bad {p : List Cls} (h : (showF p).2 ≠ 0) : (showF p).1 = [] ∧ ((showF p).2 = 2 ∨ (showF p).2 = 4) := by
  unfold showF at h ⊢
  by_cases h1 : prgOk p = true
  · rw [if_pos h1] at h ⊢
    by_cases h2 : 6000 < (textP p).length
    · rw [if_pos h2]; exact ⟨rfl, .inl rfl⟩
    · rw [if_neg h2] at h; exact absurd rfl h
  · rw [if_neg h1]; exact ⟨rfl, .inr rfl⟩
def ShowBack : Ctr := { A := List Cls, enc := fun p => [.agg [prgR p]], dom := fun _ => True, res := fun _ _ => .tt, gl := tabP }
set_option maxRecDepth 100000 in
set_option maxHeartbeats 2000000 in
theorem ShowBack_ok : CtrSound Tryz.prog 6 ShowBack :=
  ctr_of_ax (env_okB tys_ok (eqs := []) trivial (cs := [(8, heavyC), (10, textK), (16, lS), (19, keepR UInt8 1 byteC 0), (15, kPrg), (18, parseC)]) ⟨heavy_ok, text_ok, wakesS_ok, kBytes_ok, kPrg_ok, parse_ok, trivial⟩ (bs := []) trivial (gl := tabP)) mixed _ Tryz.func6 (by kernel_rfl) rfl (fun _ _ => Nat.le_of_ble_eq_true rfl) fun (p : List Cls) id hd => by
    refine ⟨p, ⟨.refl _, trivial⟩, rfl, trivial, ?_⟩
    refine ⟨fun h => ⟨.refl _, rfl⟩, fun h => ?_⟩
    have hp : prgH p = true := by have h : (!prgH p) = false := h; simpa using h
    obtain ⟨dp, lp⟩ := prg_H hp
    have hl := show_len p
    refine ⟨p, ⟨.refl _, trivial⟩, rfl, dp, ?_⟩
    refine ⟨fun h => ?_, fun h => ?_⟩
    · have ep : (showF p).2 ≠ 0 := by have h : ((showF p).2 != 0) = true := h; simpa using h
      have e1 := (show_bad ep).1
      refine ⟨fun h => ?_, fun h => absurd h (by show ¬ decide ((((showF p).1.length : Nat) : Int) = 0) = false; rw [e1]; decide)⟩
      refine ⟨(), trivial, rfl, trivial, ?_⟩
      exact ⟨.refl _, rfl⟩
    have ep : (showF p).2 = 0 := beqT h
    obtain ⟨h1, h2, h3⟩ := show_ok ep
    have hpar : parseF (showF p).1 = (p, 0, 0) := by rw [h3]; exact parse_text h1 h2
    refine ⟨(showF p).1, ⟨.refl _, trivial⟩, rfl, (show (showF p).1.length ≤ 4611686018427387904 by omega), ?_⟩
    refine ⟨(parseF (showF p).1).1, ⟨.refl _, trivial⟩, rfl, (show prgD (parseF (showF p).1).1 by rw [hpar]; exact dp), ?_⟩
    refine ⟨fun h => ?_, fun h => absurd h (by show ¬ ((parseF (showF p).1).2.2 == 0) = false; rw [hpar]; simp)⟩
    refine ⟨fun h => ?_, fun h => absurd h (by show ¬ ((showF (parseF (showF p).1).1).2 == 0) = false; rw [hpar]; show ¬ ((showF p).2 == 0) = false; rw [ep]; decide)⟩
    refine ⟨(p, (parseF (showF p).1).1), ⟨.refl _, .refl _, trivial⟩, rfl, ⟨lp, (by show pLen (parseF (showF p).1).1; rw [hpar]; exact lp)⟩, ?_⟩
    refine ⟨fun h => ?_, fun h => absurd h (by show ¬ decide (p = (parseF (showF p).1).1) = false; rw [hpar]; simp)⟩
    refine ⟨((showF p).1, (showF (parseF (showF p).1).1).1), ⟨.refl _, .refl _, trivial⟩, rfl, (show (showF p).1.length ≤ 4611686018427387904 by omega), ?_⟩
    refine ⟨fun h => ?_, fun h => absurd h (by show ¬ decide ((showF p).1 = (showF (parseF (showF p).1).1).1) = false; rw [hpar]; simp)⟩
    refine ⟨(), trivial, rfl, trivial, ?_⟩
    exact ⟨.refl _, rfl⟩
end Go.Proofs.YtadimoijlgmecaaGreatDoor.Ax
/- What the rows list of the package's variables, as the walks ask for it. -/
set_option linter.unusedVariables false
namespace Go.Proofs.YtadimoijlgmecaaGreatDoor.Ax
open Go Go.RowKit
theorem var_keep {P : Program} {n : String} {W w' : World} {cs : Array Value} (h : W.var? P n = some cs) (hs : Sealed (cellsH W) w') (hsh : Shaped W w') : w'.var? P n = some cs := by
  unfold World.var? at h ⊢
  cases hg : P.globalNamed n with
  | none => rw [hg] at h; cases h
  | some g =>
    rw [hg] at h
    simp only [Option.bind_some] at h ⊢
    have hlt : g < W.heap.size := by
      rcases Nat.lt_or_ge g W.heap.size with h' | h'
      · exact h'
      · rw [Array.getElem?_eq_none h'] at h; cases h
    have h2 := hsh.2 g hlt
    cases ho : W.heap[g]? with
    | none => rw [ho] at h; cases h
    | some o =>
      rw [ho] at h
      cases o with
      | cells c t f =>
        simp only [Option.some.injEq] at h
        subst h
        simp only [World.shape?, ho] at h2
        cases ho' : w'.heap[g]? with
        | none => rw [ho'] at h2; cases h2
        | some o' =>
          rw [ho'] at h2
          cases o' with
          | cells c' t' f' =>
            simp only [Option.some.injEq, Prod.mk.injEq] at h2
            show some c' = some c
            congr 1
            apply Array.ext h2.2
            intro i hi hi'
            have h3 : cellsH W g i = some c[i] := by
              simp [cellsH, World.cell?, ho]
            have h4 := hs _ _ _ h3
            simp [World.cell?, ho'] at h4
            exact (Array.getElem?_eq_some_iff.1 h4).2
          | _ => cases h2
      | _ => cases h
theorem errRow (u : TypeId) (h : Tryz.prog.typeName? 3 u = some "*errors.errorString") : u = 209 :=
  typeName_ptr_named (nm := "errors.errorString") (by rw [show "*" ++ "errors.errorString" = "*errors.errorString" by decide]; kernel_rfl) (by kernel_rfl) (by decide) u (by rw [show "*" ++ "errors.errorString" = "*errors.errorString" by decide]; exact h)
theorem pow_eq {H : Type} : (Rows.laid_internal_strconv_uint64pow10 : DataW H) = Lib.tabData .u64 Lib.pow10Tab := rfl
theorem tabs_of {l : List (String × DataW Unit)} {W : World} (h : laidMet Tryz.prog l W)
    (h1 : (l.filter fun x => x.1 == "internal/strconv.uint64pow10") = [("internal/strconv.uint64pow10", Rows.laid_internal_strconv_uint64pow10)])
    (h2 : (l.filter fun x => x.1 == "strconv.ErrSyntax") = [("strconv.ErrSyntax", Rows.laid_strconv_ErrSyntax)]) : ∀ w', Sealed (cellsH W) w' → Shaped W w' → tabs w' := by
  intro w' hs hsh
  have a1 := h.filter fun x => x.1 == "internal/strconv.uint64pow10"
  rw [h1, pow_eq] at a1
  have t1 := Lib.tabIs_of_head (g := 3) (t := 185) (e := 167) (n := 20) (by kernel_rfl) (by kernel_rfl) Tryz.underlying185 Tryz.underlying167 (by kernel_rfl) (by kernel_rfl) a1
  have a2 := h.filter fun x => x.1 == "strconv.ErrSyntax"
  rw [h2] at a2
  obtain ⟨a, s, hv, -⟩ := laid_sentinel (g := 4) (ti := 70) (tp := 209) (te := 211) (ts := 9) a2 (by kernel_rfl) (by kernel_rfl) Tryz.underlying70 errRow Tryz.underlying209 Tryz.underlying211 rfl rfl Tryz.underlying9 (by kernel_rfl) (by kernel_rfl)
  exact ⟨var_keep t1 hs hsh, _, _, var_keep hv hs hsh⟩
end Go.Proofs.YtadimoijlgmecaaGreatDoor.Ax
/- What the rows list of the package's variables, as the walks of the parse layer ask for it. -/
set_option linter.unusedVariables false
namespace Go.Proofs.YtadimoijlgmecaaGreatDoor.Ax
open Go Go.RowKit
set_option maxRecDepth 100000 in
theorem space_eq {H : Type} : (Rows.laid_strings_asciiSpace : DataW H) = Lib.tabData .u8 Lib.asciiSpaceTab := rfl
theorem tabsP_of {l : List (String × DataW Unit)} {W : World} (h : laidMet Tryz.prog l W)
    (h1 : (l.filter fun x => x.1 == "internal/strconv.uint64pow10") = [("internal/strconv.uint64pow10", Rows.laid_internal_strconv_uint64pow10)])
    (h2 : (l.filter fun x => x.1 == "strconv.ErrSyntax") = [("strconv.ErrSyntax", Rows.laid_strconv_ErrSyntax)])
    (h3 : (l.filter fun x => x.1 == "strings.asciiSpace") = [("strings.asciiSpace", Rows.laid_strings_asciiSpace)]) : ∀ w', Sealed (cellsH W) w' → Shaped W w' → tabP w' := by
  intro w' hs hsh
  have a1 := h.filter fun x => x.1 == "strings.asciiSpace"
  rw [h3, space_eq] at a1
  have t1 := Lib.tabIs_of_head (g := 0) (t := 159) (e := 5) (n := 256) (by kernel_rfl) (by kernel_rfl) Tryz.underlying159 Tryz.underlying5 (by kernel_rfl) (by kernel_rfl) a1
  exact ⟨tabs_of h h1 h2 w' hs hsh, var_keep t1 hs hsh⟩
end Go.Proofs.YtadimoijlgmecaaGreatDoor.Ax
/- Programs among a law's arguments. -/
set_option linter.unusedVariables false
set_option linter.unusedSimpArgs false
namespace Go.Proofs.YtadimoijlgmecaaGreatDoor.Ax
open Go Go.RowKit
theorem Reads.map {P : Program} {t : Nat} {s s' : Shape} (h : Reads P t s) (f : s.X → s'.X) (hz : s'.sz = s.sz) (hc : ∀ x, s'.cs (f x) = s.cs x) (hk : ∀ x, s.ok x → s'.ok (f x)) : Reads P t s' :=
  ⟨h.1.trans hz.symm, fun H enc w base fuel l r h1 h2 => by
    obtain ⟨x, k1, k2, k3, k4⟩ := h.2 H enc w base fuel l r h1 h2
    exact ⟨f x, hk x k1, k2.trans hz.symm, by rw [hc, k3, hz], fun j hj => by rw [hc]; exact k4 j (by omega)⟩⟩
abbrev shS : Shape := .str
theorem rdS : Reads Tryz.prog 9 shS := Reads.str Tryz.underlying9 (by kernel_rfl)
abbrev shB : Shape := .bool
theorem rdB : Reads Tryz.prog 4 shB := Reads.bool Tryz.underlying4 (by kernel_rfl)
abbrev shI : Shape := .int .i64
theorem rdI : Reads Tryz.prog 3 shI := Reads.int Tryz.underlying3 (by kernel_rfl)
abbrev shTy : Shape := shI.pair shS
theorem rdTy : Reads Tryz.prog 26 shTy := Reads.struct Tryz.underlying26 (by kernel_rfl) (.cons rfl rdI (.one rfl rdS))
abbrev shFld : Shape := ⟨Fld, 4, fldC, fld0, fun x => shS.ok x.name ∧ shTy.ok x.type⟩
theorem rdFld : Reads Tryz.prog 49 shFld :=
  (Reads.struct (s := shS.pair (shTy.pair shB)) Tryz.underlying49 (by kernel_rfl) (.cons rfl rdS (.cons rfl rdTy (.one rfl rdB)))).map (fun x => ⟨x.1, x.2.1, x.2.2⟩) rfl (fun _ => rfl) (fun _ h => ⟨h.1, h.2.1⟩)
abbrev shIns : Shape := ⟨Ins, 4, insC, ins0, fun x => (shI.ok x.op ∧ shI.ok x.n) ∧ shS.ok x.a ∧ shS.ok x.b⟩
theorem rdIns : Reads Tryz.prog 56 shIns :=
  (Reads.struct (s := shI.pair (shI.pair (shS.pair shS))) Tryz.underlying56 (by kernel_rfl) (.cons rfl rdI (.cons rfl rdI (.cons rfl rdS (.one rfl rdS))))).map (fun x => ⟨x.1, x.2.1, x.2.2.1, x.2.2.2⟩) rfl (fun _ => rfl) (fun _ h => ⟨⟨h.1, h.2.1⟩, h.2.2⟩)
abbrev shCat : Shape := ⟨Cat, 4, catC, cat0, fun x => shS.ok x.name ∧ shI.ok x.fr ∧ shI.ok x.up ∧ shI.ok x.at'⟩
theorem rdCat : Reads Tryz.prog 63 shCat :=
  (Reads.struct (s := shS.pair (shI.pair (shI.pair shI))) Tryz.underlying63 (by kernel_rfl) (.cons rfl rdS (.cons rfl rdI (.cons rfl rdI (.one rfl rdI))))).map (fun x => ⟨x.1, x.2.1, x.2.2.1, x.2.2.2⟩) rfl (fun _ => rfl) (fun _ h => h)
theorem rdTys : Reads Tryz.prog 50 (shTy.row 24) := Reads.row Tryz.underlying50 (by kernel_rfl) (by kernel_rfl) rdTy (by decide)
theorem rdInss : Reads Tryz.prog 51 (shIns.row 48) := Reads.row Tryz.underlying51 (by kernel_rfl) (by kernel_rfl) rdIns (by decide)
theorem rdCats : Reads Tryz.prog 52 (shCat.row 40) := Reads.row Tryz.underlying52 (by kernel_rfl) (by kernel_rfl) rdCat (by decide)
theorem rdFlds : Reads Tryz.prog 43 (shFld.row 48) := Reads.row Tryz.underlying43 (by kernel_rfl) (by kernel_rfl) rdFld (by decide)
theorem rdStrs : Reads Tryz.prog 42 (shS.row 16) := Reads.row Tryz.underlying42 (by kernel_rfl) (by kernel_rfl) rdS (by decide)
abbrev shMeth : Shape := ⟨Meth, 9, methC, meth0, fun x => shS.ok x.name ∧ (shTy.row 24).ok x.params ∧ shTy.ok x.ret ∧ shI.ok x.locals ∧ (shIns.row 48).ok x.code ∧ (shCat.row 40).ok x.catches⟩
theorem rdMeth : Reads Tryz.prog 54 shMeth :=
  (Reads.struct (s := shS.pair (shB.pair (shB.pair ((shTy.row 24).pair (shTy.pair (shI.pair ((shIns.row 48).pair (shCat.row 40)))))))) Tryz.underlying54 (by kernel_rfl) (.cons rfl rdS (.cons rfl rdB (.cons rfl rdB (.cons rfl rdTys (.cons rfl rdTy (.cons rfl rdI (.cons rfl rdInss (.one rfl rdCats))))))))).map
    (fun x => ⟨x.1, x.2.1, x.2.2.1, x.2.2.2.1, x.2.2.2.2.1, x.2.2.2.2.2.1, x.2.2.2.2.2.2.1, x.2.2.2.2.2.2.2⟩) rfl (fun _ => rfl) (fun _ h => ⟨h.1, h.2.2.2.1, h.2.2.2.2.1, h.2.2.2.2.2.1, h.2.2.2.2.2.2.1, h.2.2.2.2.2.2.2⟩)
theorem rdMeths : Reads Tryz.prog 44 (shMeth.row 128) := Reads.row Tryz.underlying44 (by kernel_rfl) (by kernel_rfl) rdMeth (by decide)
abbrev shCls : Shape := ⟨Cls, 6, clsC, cls0, fun x => shS.ok x.name ∧ shS.ok x.super ∧ (shS.row 16).ok x.ifaces ∧ (shFld.row 48).ok x.fields ∧ (shMeth.row 128).ok x.methods⟩
theorem rdCls : Reads Tryz.prog 46 shCls :=
  (Reads.struct (s := shS.pair (shB.pair (shS.pair ((shS.row 16).pair ((shFld.row 48).pair (shMeth.row 128)))))) Tryz.underlying46 (by kernel_rfl) (.cons rfl rdS (.cons rfl rdB (.cons rfl rdS (.cons rfl rdStrs (.cons rfl rdFlds (.one rfl rdMeths))))))).map
    (fun x => ⟨x.1, x.2.1, x.2.2.1, x.2.2.2.1, x.2.2.2.2.1, x.2.2.2.2.2⟩) rfl (fun _ => rfl) (fun _ h => ⟨h.1, h.2.2.1, h.2.2.2.1, h.2.2.2.2.1, h.2.2.2.2.2⟩)
abbrev shPrg : Shape := shCls.row 112
theorem rdPrgs : Reads Tryz.prog 22 shPrg := Reads.row Tryz.underlying22 (by kernel_rfl) (by kernel_rfl) rdCls (by decide)
theorem rdPrg : Reads Tryz.prog 24 shPrg := Reads.struct Tryz.underlying24 (by kernel_rfl) (.one rfl rdPrgs)
end Go.Proofs.YtadimoijlgmecaaGreatDoor.Ax
