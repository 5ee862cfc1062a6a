/- Walks and laws, part 6: Gh Gi Gj Sh Gk Gn Gv Ha Hc Hd. -/
import Derived.Test.YtimhbimpaiiceaaDoorPk5
/- Layer parse: what a method does. -/
set_option linter.unusedVariables false
set_option linter.unusedSimpArgs false
namespace Go.Proofs.YtimhbimpaiiceaaDoor.Ax
open Go Go.RowKit
def mPre (m : Meth) : List SV := [S m.name, B m.static, B m.abs, .row Ty 2 tyC ty0 m.params, I m.ret.1, S m.ret.2, I 0, .val (.slice none 0 0), .val (.slice none 0 0)]
def bodyRC : CtrB := { A := Rs × Meth, enc := fun x => [.box 1000 0, .box 1001 0], pre := fun x => [rsC x.1, mPre x.2], dom := fun x => rok x.1, res := fun _ _ => .tup [], post := fun x _ => [rsC x.1.body, methC (x.1.bodyV x.2)], gl := tabP }
theorem instr_yes {r : Rs} {n : Int} (h : r.isOp = true) : r.instrR n = (r.instr n).2 ∧ r.instrV n = (r.instr n).1 := ⟨if_pos h, if_pos h⟩
theorem instr_no {r : Rs} {n : Int} (h : r.isOp = false) : r.instrR n = r := if_neg (by rw [h]; decide)
set_option maxRecDepth 100000 in
set_option maxHeartbeats 4000000 in
theorem bodyR_ok : CtrBSound Tryd.prog 66 bodyRC :=
  ctrB_of_ax2 mixed _ Tryd.func66 (by kernel_rfl) rfl (fun _ _ => ⟨Nat.le_of_ble_eq_true rfl, Nat.le_of_ble_eq_true rfl⟩) fun ((r, m) : Rs × Meth) id hd => by
    refine ⟨_, ⟨env_okB tys_ok (eqs := []) trivial (cs := [(46, isC)]) ⟨is_ok, trivial⟩ (bs := [(48, wantC), (74, numRC), (75, instrRC), (47, roomC), (49, freshRC)]) ⟨want_ok, numR_ok, instrR_ok, room_ok, freshR_ok, trivial⟩ (gl := tabP), fun _ h => h⟩, ?_⟩
    have hd : rok r := hd
    have hL : r.L.length ≤ 1000000 := hd.1
    have f1 := Rs.want_fwd r wLocals
    have f2 := f1.trans (Rs.num_fwd _ 0 8)
    have f3 : Fwd r r.bo1 := Rs.bo1_fwd r
    have f4 : Fwd r r.boCode.2 := Rs.boCode_fwd r
    have f5 : Fwd r r.boCat.2 := Rs.boCat_fwd r
    refine ⟨by kernel_rfl, ?_⟩
    refine ⟨(r, wLocals), ⟨.refl _, .str rfl, trivial⟩, ⟨⟨rfl, .refl _, .refl _, .refl _, .refl _, .refl _, trivial⟩, trivial⟩, ⟨hd, trivial⟩, ?_⟩
    refine ⟨by kernel_rfl, ?_⟩
    refine ⟨(r.want wLocals, 0, 8), ⟨.refl _, .refl _, .refl _, trivial⟩, ⟨⟨rfl, .refl _, .refl _, .refl _, .refl _, .refl _, trivial⟩, trivial⟩, ⟨rok_fwd hd f1, trivial⟩, ?_⟩
    refine ⟨by kernel_rfl, ?_⟩
    refine ⟨((r.want wLocals).num 0 8, wLc), ⟨.refl _, .str rfl, trivial⟩, ⟨⟨rfl, .refl _, .refl _, .refl _, .refl _, .refl _, trivial⟩, trivial⟩, ⟨rok_fwd hd f2, trivial⟩, ?_⟩
    refine ⟨Nat × Rs × List Ins, fun _ => [(0, .box 1000 0), (1, .box 1001 0)], fun s => [(1000, rsC s.2.1), (1001, [S m.name, B m.static, B m.abs, .row Ty 2 tyC ty0 m.params, I m.ret.1, S m.ret.2, I ((r.want wLocals).numV 0 8), .own Ins 4 insC ins0 s.2.2 35, .val (.slice none 0 0)])],
      fun s => Rs.codeL s.1 s.2.1 s.2.2 = r.boCode ∧ s.2.1.need ≤ s.1 ∧ Fwd r s.2.1 ∧ s.2.2.length + s.1 = r.L.length + 2, fun s => s.1,
      ⟨(r.L.length + 2, r.bo1, []), ⟨rfl, (by have := need_le r.bo1; rw [f3.L] at this; exact this), f3, (by show 0 + (r.L.length + 2) = _; omega)⟩, ⟨⟨rfl, rfl⟩, .refl _, .refl _, ⟨.refl _, .refl _, .refl _, .refl _, .refl _, .refl _, .refl _, .nilO .., .refl _, trivial⟩, ⟨.refl _, .refl _, .refl _, .refl _, .refl _, trivial⟩, trivial⟩⟩, fun ((k, q, out) : Nat × Rs × List Ins) hx => ?_⟩
    have hx1 : Rs.codeL k q out = r.boCode := hx.1
    have hx2 : q.need ≤ k := hx.2.1
    have hx3 : Fwd r q := hx.2.2.1
    have hx4 : out.length + k = r.L.length + 2 := hx.2.2.2
    obtain ⟨k, rfl⟩ : ∃ k', k = k' + 1 := ⟨k - 1, by have := Rs.need_pos q; omega⟩
    have hq : rok q := rok_fwd hd hx3
    refine ⟨by kernel_rfl, ?_⟩
    refine ⟨(q, (out.length : Int)), ⟨.refl _, .refl _, trivial⟩, ⟨⟨rfl, .refl _, .refl _, .refl _, .refl _, .refl _, trivial⟩, trivial⟩, ⟨hq, trivial⟩, ?_⟩
    refine ⟨fun h => ?_, fun h => ?_⟩
    rotate_left
    · have h1 : q.isOp = true := notF h
      have hat := Rs.isOp_at h1
      have hy := instr_yes (n := (out.length : Int)) h1
      rw [Rs.codeL, if_pos h1] at hx1
      have hinv : Rs.codeL k (q.instrR out.length) (out ++ [q.instrV out.length]) = r.boCode ∧ (q.instrR out.length).need ≤ k ∧ Fwd r (q.instrR out.length) ∧ (out ++ [q.instrV out.length]).length + k = r.L.length + 2 := by
        rw [hy.1, hy.2]
        have hf := Rs.instr_fwd q out.length
        have := Rs.need_lt hat hf (Rs.instr_on q out.length)
        exact ⟨hx1, by omega, hx3.trans hf, by simp; omega⟩
      refine ⟨by kernel_rfl, ?_⟩
      refine ⟨Ins, insC, ins0, [q.instrV out.length], ⟨rfl, fun _ => rfl⟩, ⟨.refl _, .refl _, .refl _, .refl _, trivial⟩, rfl, ?_⟩
      refine ⟨Ins, insC, ins0, out, [q.instrV out.length], 35, ⟨.refl _, .own ..⟩, fun _ => rfl, (by show (out.length + 1) * 48 ≤ 140737488355328; omega), ?_⟩
      exact ⟨(k, q.instrR out.length, out ++ [q.instrV out.length]), hinv, Nat.lt_succ_self _, ⟨rfl, rfl⟩, .refl _, .refl _, ⟨.refl _, .refl _, .refl _, .refl _, .refl _, .refl _, .refl _, .refl _, .refl _, trivial⟩, ⟨.refl _, .refl _, .refl _, .refl _, .refl _, trivial⟩, trivial⟩
    have h1 : q.isOp = false := notT h
    rw [Rs.codeL, if_neg (by rw [h1]; decide)] at hx1
    have e1 : out = r.boCode.1 := by rw [← hx1]
    have e2 : q.instrR out.length = r.boCode.2 := by rw [instr_no h1, ← hx1]
    have hE := e2
    refine ⟨Nat × Rs × List Cat, fun _ => [(0, .box 1000 0), (1, .box 1001 0)], fun s => [(1000, rsC s.2.1), (1001, [S m.name, B m.static, B m.abs, .row Ty 2 tyC ty0 m.params, I m.ret.1, S m.ret.2, I ((r.want wLocals).numV 0 8), .own Ins 4 insC ins0 r.boCode.1 35, .own Cat 4 catC cat0 s.2.2 70])],
      fun s => Rs.catchL s.1 s.2.1 s.2.2 = r.boCat ∧ s.2.1.need ≤ s.1 ∧ Fwd r s.2.1 ∧ s.2.2.length + s.1 = r.L.length + 2, fun s => s.1,
      ⟨(r.L.length + 2, r.boCode.2, []), ⟨rfl, (by have := need_le r.boCode.2; rw [f4.L] at this; exact this), f4, (by show 0 + (r.L.length + 2) = _; omega)⟩, ⟨⟨rfl, rfl⟩, .refl _, .refl _, ⟨.refl _, .refl _, .refl _, .refl _, .refl _, .refl _, .refl _, .ownEq e1, .nilO .., trivial⟩, ⟨.rowEq (rL hE :), .int (rI hE :), .int (rN hE :), .int (rA hE :), .int (rE hE :), trivial⟩, trivial⟩⟩, fun ((k2, p, cs) : Nat × Rs × List Cat) hy => ?_⟩
    clear hE
    have hy1 : Rs.catchL k2 p cs = r.boCat := hy.1
    have hy2 : p.need ≤ k2 := hy.2.1
    have hy3 : Fwd r p := hy.2.2.1
    have hy4 : cs.length + k2 = r.L.length + 2 := hy.2.2.2
    obtain ⟨k2, rfl⟩ : ∃ k', k2 = k' + 1 := ⟨k2 - 1, by have := Rs.need_pos p; omega⟩
    have hp : rok p := rok_fwd hd hy3
    refine ⟨(p, wCatch), ⟨.refl _, .str rfl, trivial⟩, rfl, ⟨hp, trivial⟩, ?_⟩
    refine ⟨fun h => ?_, fun h => ?_⟩
    · have h1 : p.is wCatch = true := h
      have hat := Rs.is_at h1
      rw [Rs.catchL, if_pos h1] at hy1
      have g0 := Rs.room_fwd p (cs.length : Int) 4
      have g1 : Fwd p (p.ca1 cs.length) := Rs.ca1_fwd p cs.length
      have g2 := g1.trans (Rs.fresh_fwd _)
      have g3 := g2.trans (Rs.num_fwd _ 0 48)
      have g4 := g3.trans (Rs.num_fwd _ 0 48)
      have g5 := g4.trans (Rs.num_fwd _ 0 48)
      have hinv : Rs.catchL k2 (p.ca1 cs.length).catR (cs ++ [(p.ca1 cs.length).catV]) = r.boCat ∧ (p.ca1 cs.length).catR.need ≤ k2 ∧ Fwd r (p.ca1 cs.length).catR ∧ (cs ++ [(p.ca1 cs.length).catV]).length + k2 = r.L.length + 2 := by
        have hf := g1.trans (Rs.catR_fwd _)
        have := Rs.need_lt hat hf (Rs.catch_on p cs.length)
        exact ⟨hy1, by omega, hy3.trans hf, by simp; omega⟩
      refine ⟨by kernel_rfl, ?_⟩
      refine ⟨(p, (cs.length : Int), 4), ⟨.refl _, .refl _, .refl _, trivial⟩, ⟨⟨rfl, .refl _, .refl _, .refl _, .refl _, .refl _, trivial⟩, trivial⟩, ⟨hp, trivial⟩, ?_⟩
      refine ⟨by kernel_rfl, ?_⟩
      refine ⟨(p.room cs.length 4, wCatch), ⟨.refl _, .str rfl, trivial⟩, ⟨⟨rfl, .refl _, .refl _, .refl _, .refl _, .refl _, trivial⟩, trivial⟩, ⟨rok_fwd hp g0, trivial⟩, ?_⟩
      refine ⟨by kernel_rfl, ?_⟩
      refine ⟨((p.ca1 cs.length), ()), ⟨.refl _, trivial⟩, ⟨⟨rfl, .refl _, .refl _, .refl _, .refl _, .refl _, trivial⟩, trivial⟩, ⟨rok_fwd hp g1, trivial⟩, ?_⟩
      refine ⟨by kernel_rfl, ?_⟩
      refine ⟨((p.ca1 cs.length).fresh, 0, 48), ⟨.refl _, .refl _, .refl _, trivial⟩, ⟨⟨rfl, .refl _, .refl _, .refl _, .refl _, .refl _, trivial⟩, trivial⟩, ⟨rok_fwd hp g2, trivial⟩, ?_⟩
      refine ⟨by kernel_rfl, ?_⟩
      refine ⟨((p.ca1 cs.length).fresh.num 0 48, 0, 48), ⟨.refl _, .refl _, .refl _, trivial⟩, ⟨⟨rfl, .refl _, .refl _, .refl _, .refl _, .refl _, trivial⟩, trivial⟩, ⟨rok_fwd hp g3, trivial⟩, ?_⟩
      refine ⟨by kernel_rfl, ?_⟩
      refine ⟨(((p.ca1 cs.length).fresh.num 0 48).num 0 48, 0, 48), ⟨.refl _, .refl _, .refl _, trivial⟩, ⟨⟨rfl, .refl _, .refl _, .refl _, .refl _, .refl _, trivial⟩, trivial⟩, ⟨rok_fwd hp g4, trivial⟩, ?_⟩
      refine ⟨by kernel_rfl, ?_⟩
      refine ⟨((((p.ca1 cs.length).fresh.num 0 48).num 0 48).num 0 48, wSemi), ⟨.refl _, .str rfl, trivial⟩, ⟨⟨rfl, .refl _, .refl _, .refl _, .refl _, .refl _, trivial⟩, trivial⟩, ⟨rok_fwd hp g5, trivial⟩, ?_⟩
      refine ⟨by kernel_rfl, ?_⟩
      refine ⟨Cat, catC, cat0, [(p.ca1 cs.length).catV], ⟨rfl, fun _ => rfl⟩, ⟨.refl _, .refl _, .refl _, .refl _, trivial⟩, rfl, ?_⟩
      refine ⟨Cat, catC, cat0, cs, [(p.ca1 cs.length).catV], 70, ⟨.refl _, .own ..⟩, fun _ => rfl, (by show (cs.length + 1) * 40 ≤ 140737488355328; omega), ?_⟩
      exact ⟨(k2, (p.ca1 cs.length).catR, cs ++ [(p.ca1 cs.length).catV]), hinv, Nat.lt_succ_self _, ⟨rfl, rfl⟩, .refl _, .refl _, ⟨.refl _, .refl _, .refl _, .refl _, .refl _, .refl _, .refl _, .refl _, .refl _, trivial⟩, ⟨.refl _, .refl _, .refl _, .refl _, .refl _, trivial⟩, trivial⟩
    have h1 : p.is wCatch = false := h
    rw [Rs.catchL, if_neg (by rw [h1]; decide)] at hy1
    have e3 : cs = r.boCat.1 := by rw [← hy1]
    have hE : p = r.boCat.2 := by rw [← hy1]
    refine ⟨by kernel_rfl, ?_⟩
    refine ⟨(r.boCat.2, wRc), ⟨.refl _, .str rfl, trivial⟩, ⟨⟨rfl, .rowEq (rL hE :), .int (rI hE :), .int (rN hE :), .int (rA hE :), .int (rE hE :), trivial⟩, trivial⟩, ⟨rok_fwd hd f5, trivial⟩, ?_⟩
    exact ⟨.refl (.tup []), ⟨rfl, .refl _, .refl _, .refl _, .refl _, .refl _, trivial⟩, ⟨rfl, .refl _, .refl _, .refl _, .refl _, .refl _, .refl _, .refl _, .own .., .ownRow e3, trivial⟩, trivial⟩
end Go.Proofs.YtimhbimpaiiceaaDoor.Ax
/- Layer parse: a class' members. -/
set_option linter.unusedVariables false
set_option linter.unusedSimpArgs false
namespace Go.Proofs.YtimhbimpaiiceaaDoor.Ax
open Go Go.RowKit
def cPre (c : Cls) (a b : Nat) : List SV := [S c.name, B c.iface, S c.super, .row ByteArray 1 strC noS c.ifaces, .own Fld 4 fldC fld0 c.fields a, .own Meth 9 methC meth0 c.methods b]
def memberRC : CtrB := { A := Rs × Cls, enc := fun x => [.box 1000 0, .box 1001 0], pre := fun x => [rsC x.1, cPre x.2 6900000 7000000], dom := fun x => rok x.1 ∧ x.2.fields.length ≤ 2000000 ∧ x.2.methods.length ≤ 2000000, res := fun _ _ => .tup [], post := fun x id => [rsC (x.1.member x.2).2, cPre (x.1.member x.2).1 (id + 6900000) (id + 7000000)], gl := tabP }
theorem baT {a b : ByteArray} (h : (a.toList == b.toList) = true) : a = b := by rw [ba_eq] at h; exact of_decide_eq_true h
theorem baF {a b : ByteArray} (h : (a.toList == b.toList) = false) : a ≠ b := by rw [ba_eq] at h; exact of_decide_eq_false h
set_option maxRecDepth 100000 in
set_option maxHeartbeats 8000000 in
theorem memberR_ok : CtrBSound Tryd.prog 52 memberRC :=
  ctrB_of_ax2 mixed _ Tryd.func52 (by kernel_rfl) rfl (fun _ _ => ⟨Nat.le_of_ble_eq_true rfl, Nat.le_of_ble_eq_true rfl⟩) fun ((r, c) : Rs × Cls) id hd => by
    refine ⟨_, ⟨env_okB tys_ok (eqs := []) trivial (cs := [(61, nextC)]) ⟨next_ok, trivial⟩ (bs := [(47, roomC), (48, wantC), (49, freshRC), (64, kindRC), (65, paramsRC), (50, takeC), (66, bodyRC), (62, failC)]) ⟨room_ok, want_ok, freshR_ok, kindR_ok, paramsR_ok, take_ok, bodyR_ok, fail_ok, trivial⟩ (gl := tabP), fun _ h => h⟩, ?_⟩
    refine ⟨(r, ()), ⟨.refl _, trivial⟩, rfl, ⟨hd.1, trivial⟩, ?_⟩
    refine ⟨fun h1 => ?_, fun h1 => ?_⟩
    · have w1 : r.next.2.1 = wField := baT h1
      have hor : r.next.2.1 = wField ∨ r.next.2.1 = wStatic := .inl w1
      refine ⟨fun _ => ?_, fun c => (noTF h1 c).elim⟩
      have hr : rok r := hd.1
      have g1 : Fwd r (r.memF c.fields.length) := Rs.memF_fwd r c.fields.length
      have g2 := g1.trans (Rs.fresh_fwd _)
      have g3 := g2.trans (Rs.want_fwd _ wColon)
      have g4 := g3.trans (Rs.kind_fwd _)
      have e : r.member c = (⟨c.name, c.iface, c.super, c.ifaces, c.fields ++ [(r.memF c.fields.length).mfV (decide (r.next.2.1 = wStatic))], c.methods⟩, (r.memF c.fields.length).mfR) := if_pos hor
      refine ⟨by kernel_rfl, ?_⟩
      refine ⟨(r, (c.fields.length : Int), 6), ⟨.refl _, .refl _, .refl _, trivial⟩, ⟨⟨rfl, .refl _, .refl _, .refl _, .refl _, .refl _, trivial⟩, trivial⟩, ⟨hr, trivial⟩, ?_⟩
      refine ⟨by kernel_rfl, ?_⟩
      refine ⟨(r.room c.fields.length 6, r.next.2.1), ⟨.refl _, .refl _, trivial⟩, ⟨⟨rfl, .refl _, .refl _, .refl _, .refl _, .refl _, trivial⟩, trivial⟩, ⟨rok_fwd hr (Rs.room_fwd r _ _), trivial⟩, ?_⟩
      refine ⟨by kernel_rfl, ?_⟩
      refine ⟨((r.memF c.fields.length), ()), ⟨.refl _, trivial⟩, ⟨⟨rfl, .refl _, .refl _, .refl _, .refl _, .refl _, trivial⟩, trivial⟩, ⟨rok_fwd hr g1, trivial⟩, ?_⟩
      refine ⟨by kernel_rfl, ?_⟩
      refine ⟨((r.memF c.fields.length).fresh, wColon), ⟨.refl _, .str rfl, trivial⟩, ⟨⟨rfl, .refl _, .refl _, .refl _, .refl _, .refl _, trivial⟩, trivial⟩, ⟨rok_fwd hr g2, trivial⟩, ?_⟩
      refine ⟨by kernel_rfl, ?_⟩
      refine ⟨((r.memF c.fields.length).fresh.want wColon, ()), ⟨.refl _, trivial⟩, ⟨⟨rfl, .refl _, .refl _, .refl _, .refl _, .refl _, trivial⟩, trivial⟩, ⟨rok_fwd hr g3, trivial⟩, ?_⟩
      refine ⟨by kernel_rfl, ?_⟩
      refine ⟨(((r.memF c.fields.length).fresh.want wColon).kind, wSemi), ⟨.refl _, .str rfl, trivial⟩, ⟨⟨rfl, .refl _, .refl _, .refl _, .refl _, .refl _, trivial⟩, trivial⟩, ⟨rok_fwd hr g4, trivial⟩, ?_⟩
      refine ⟨by kernel_rfl, ?_⟩
      refine ⟨Fld, fldC, fld0, [(r.memF c.fields.length).mfV (decide (r.next.2.1 = wStatic))], ⟨rfl, fun _ => rfl⟩, ⟨.refl _, .refl _, .refl _, .bool (ba_eq _ _), trivial⟩, rfl, ?_⟩
      refine ⟨Fld, fldC, fld0, c.fields, [(r.memF c.fields.length).mfV (decide (r.next.2.1 = wStatic))], 6900000, ⟨.refl _, .own ..⟩, fun _ => rfl, (by have h5 : c.fields.length ≤ 2000000 := hd.2.1; show (c.fields.length + 1) * 48 ≤ 140737488355328; omega), ?_⟩
      have hE : (((r.memF c.fields.length).fresh.want wColon).kind).want wSemi = (r.member c).2 := by rw [e]; rfl
      exact ⟨.refl (.tup []), ⟨rfl, .rowEq (rL hE :), .int (rI hE :), .int (rN hE :), .int (rA hE :), .int (rE hE :), trivial⟩, ⟨rfl, .str (by rw [e]), .bool (by rw [e]), .str (by rw [e]), .rowEq (by rw [e]), .ownEq (by rw [e]), .ownEq (by rw [e]), trivial⟩, trivial⟩
    have w1 : r.next.2.1 ≠ wField := baF h1
    refine ⟨fun h2 => ?_, fun h2 => ?_⟩
    · have hor : r.next.2.1 = wField ∨ r.next.2.1 = wStatic := .inr (baT h2)
      have hr : rok r := hd.1
      have g1 : Fwd r (r.memF c.fields.length) := Rs.memF_fwd r c.fields.length
      have g2 := g1.trans (Rs.fresh_fwd _)
      have g3 := g2.trans (Rs.want_fwd _ wColon)
      have g4 := g3.trans (Rs.kind_fwd _)
      have e : r.member c = (⟨c.name, c.iface, c.super, c.ifaces, c.fields ++ [(r.memF c.fields.length).mfV (decide (r.next.2.1 = wStatic))], c.methods⟩, (r.memF c.fields.length).mfR) := if_pos hor
      refine ⟨by kernel_rfl, ?_⟩
      refine ⟨(r, (c.fields.length : Int), 6), ⟨.refl _, .refl _, .refl _, trivial⟩, ⟨⟨rfl, .refl _, .refl _, .refl _, .refl _, .refl _, trivial⟩, trivial⟩, ⟨hr, trivial⟩, ?_⟩
      refine ⟨by kernel_rfl, ?_⟩
      refine ⟨(r.room c.fields.length 6, r.next.2.1), ⟨.refl _, .refl _, trivial⟩, ⟨⟨rfl, .refl _, .refl _, .refl _, .refl _, .refl _, trivial⟩, trivial⟩, ⟨rok_fwd hr (Rs.room_fwd r _ _), trivial⟩, ?_⟩
      refine ⟨by kernel_rfl, ?_⟩
      refine ⟨((r.memF c.fields.length), ()), ⟨.refl _, trivial⟩, ⟨⟨rfl, .refl _, .refl _, .refl _, .refl _, .refl _, trivial⟩, trivial⟩, ⟨rok_fwd hr g1, trivial⟩, ?_⟩
      refine ⟨by kernel_rfl, ?_⟩
      refine ⟨((r.memF c.fields.length).fresh, wColon), ⟨.refl _, .str rfl, trivial⟩, ⟨⟨rfl, .refl _, .refl _, .refl _, .refl _, .refl _, trivial⟩, trivial⟩, ⟨rok_fwd hr g2, trivial⟩, ?_⟩
      refine ⟨by kernel_rfl, ?_⟩
      refine ⟨((r.memF c.fields.length).fresh.want wColon, ()), ⟨.refl _, trivial⟩, ⟨⟨rfl, .refl _, .refl _, .refl _, .refl _, .refl _, trivial⟩, trivial⟩, ⟨rok_fwd hr g3, trivial⟩, ?_⟩
      refine ⟨by kernel_rfl, ?_⟩
      refine ⟨(((r.memF c.fields.length).fresh.want wColon).kind, wSemi), ⟨.refl _, .str rfl, trivial⟩, ⟨⟨rfl, .refl _, .refl _, .refl _, .refl _, .refl _, trivial⟩, trivial⟩, ⟨rok_fwd hr g4, trivial⟩, ?_⟩
      refine ⟨by kernel_rfl, ?_⟩
      refine ⟨Fld, fldC, fld0, [(r.memF c.fields.length).mfV (decide (r.next.2.1 = wStatic))], ⟨rfl, fun _ => rfl⟩, ⟨.refl _, .refl _, .refl _, .bool (ba_eq _ _), trivial⟩, rfl, ?_⟩
      refine ⟨Fld, fldC, fld0, c.fields, [(r.memF c.fields.length).mfV (decide (r.next.2.1 = wStatic))], 6900000, ⟨.refl _, .own ..⟩, fun _ => rfl, (by have h5 : c.fields.length ≤ 2000000 := hd.2.1; show (c.fields.length + 1) * 48 ≤ 140737488355328; omega), ?_⟩
      have hE : (((r.memF c.fields.length).fresh.want wColon).kind).want wSemi = (r.member c).2 := by rw [e]; rfl
      exact ⟨.refl (.tup []), ⟨rfl, .rowEq (rL hE :), .int (rI hE :), .int (rN hE :), .int (rA hE :), .int (rE hE :), trivial⟩, ⟨rfl, .str (by rw [e]), .bool (by rw [e]), .str (by rw [e]), .rowEq (by rw [e]), .ownEq (by rw [e]), .ownEq (by rw [e]), trivial⟩, trivial⟩
    have w2 : r.next.2.1 ≠ wStatic := baF h2
    have hno : ¬ (r.next.2.1 = wField ∨ r.next.2.1 = wStatic) := fun c => c.elim w1 w2
    refine ⟨fun h3 => ?_, fun h3 => ?_⟩
    · have hor : r.next.2.1 = wMethod ∨ r.next.2.1 = wFunction := .inl (baT h3)
      refine ⟨fun _ => ?_, fun c => (noTF h3 c).elim⟩
      have hr : rok r := hd.1
      have g1 : Fwd r (r.memF c.methods.length) := Rs.memF_fwd r c.methods.length
      have g2 := g1.trans (Rs.fresh_fwd _)
      have g3 := g2.trans (Rs.params_fwd _)
      have g4 : Fwd r (r.memF c.methods.length).mm1 := g1.trans (Rs.mm1_fwd _)
      refine ⟨by kernel_rfl, ?_⟩
      refine ⟨(r, (c.methods.length : Int), 6), ⟨.refl _, .refl _, .refl _, trivial⟩, ⟨⟨rfl, .refl _, .refl _, .refl _, .refl _, .refl _, trivial⟩, trivial⟩, ⟨hr, trivial⟩, ?_⟩
      refine ⟨by kernel_rfl, ?_⟩
      refine ⟨(r.room c.methods.length 6, r.next.2.1), ⟨.refl _, .refl _, trivial⟩, ⟨⟨rfl, .refl _, .refl _, .refl _, .refl _, .refl _, trivial⟩, trivial⟩, ⟨rok_fwd hr (Rs.room_fwd r _ _), trivial⟩, ?_⟩
      refine ⟨by kernel_rfl, ?_⟩
      refine ⟨((r.memF c.methods.length), ()), ⟨.refl _, trivial⟩, ⟨⟨rfl, .refl _, .refl _, .refl _, .refl _, .refl _, trivial⟩, trivial⟩, ⟨rok_fwd hr g1, trivial⟩, ?_⟩
      refine ⟨by kernel_rfl, ?_⟩
      refine ⟨((r.memF c.methods.length).fresh, ()), ⟨.refl _, trivial⟩, ⟨⟨rfl, .refl _, .refl _, .refl _, .refl _, .refl _, trivial⟩, trivial⟩, ⟨rok_fwd hr g2, trivial⟩, ?_⟩
      refine ⟨by kernel_rfl, ?_⟩
      refine ⟨((r.memF c.methods.length).fresh.params.2, ()), ⟨.refl _, trivial⟩, ⟨⟨rfl, .refl _, .refl _, .refl _, .refl _, .refl _, trivial⟩, trivial⟩, ⟨rok_fwd hr g3, trivial⟩, ?_⟩
      refine ⟨by kernel_rfl, ?_⟩
      refine ⟨((r.memF c.methods.length).mm1, wSemi), ⟨.refl _, .str rfl, trivial⟩, ⟨⟨rfl, .refl _, .refl _, .refl _, .refl _, .refl _, trivial⟩, trivial⟩, ⟨rok_fwd hr g4, trivial⟩, ?_⟩
      refine ⟨fun h => ?_, fun h => ?_⟩
      · have h1 : (r.memF c.methods.length).mm1.is wSemi = false := notT h
        have hv : (r.memF c.methods.length).mmV (decide (r.next.2.1 = wFunction)) = (r.memF c.methods.length).mm1.bodyV ((r.memF c.methods.length).mm1V (decide (r.next.2.1 = wFunction))) := if_neg (by rw [h1]; decide)
        have hR : (r.memF c.methods.length).mm1.body = (r.memF c.methods.length).mmR := (if_neg (by rw [h1]; decide)).symm
        have hE : (r.memF c.methods.length).mm1.take wSemi = (r.memF c.methods.length).mm1 := take_no h1
        refine ⟨by kernel_rfl, ?_⟩
        refine ⟨((r.memF c.methods.length).mm1, ((r.memF c.methods.length).mm1V (decide (r.next.2.1 = wFunction)))), ⟨.refl _, .refl _, trivial⟩, ⟨⟨rfl, .rowEq (rL hE :), .int (rI hE :), .int (rN hE :), .int (rA hE :), .int (rE hE :), trivial⟩, ⟨rfl, .refl _, .bool (ba_eq _ _), .refl _, .refl _, .refl _, .refl _, .refl _, .refl _, .refl _, trivial⟩, trivial⟩, rok_fwd hr g4, ?_⟩
        clear hE
        have e : r.member c = (⟨c.name, c.iface, c.super, c.ifaces, c.fields, c.methods ++ [(r.memF c.methods.length).mm1.bodyV ((r.memF c.methods.length).mm1V (decide (r.next.2.1 = wFunction)))]⟩, (r.memF c.methods.length).mmR) := by
          unfold Rs.member; rw [if_neg hno, if_pos hor, hv]
        refine ⟨by kernel_rfl, ?_⟩
        refine ⟨Meth, methC, meth0, [(r.memF c.methods.length).mm1.bodyV ((r.memF c.methods.length).mm1V (decide (r.next.2.1 = wFunction)))], ⟨rfl, fun _ => rfl⟩, ⟨.refl _, .refl _, .refl _, .refl _, .refl _, .refl _, .refl _, .refl _, .refl _, trivial⟩, rfl, ?_⟩
        refine ⟨Meth, methC, meth0, c.methods, [(r.memF c.methods.length).mm1.bodyV ((r.memF c.methods.length).mm1V (decide (r.next.2.1 = wFunction)))], 7000000, ⟨.refl _, .own ..⟩, fun _ => rfl, (by have h5 : c.methods.length ≤ 2000000 := hd.2.2; show (c.methods.length + 1) * 128 ≤ 140737488355328; omega), ?_⟩
        have hE : (r.memF c.methods.length).mm1.body = (r.member c).2 := by rw [e]; exact hR
        exact ⟨.refl (.tup []), ⟨rfl, .rowEq (rL hE :), .int (rI hE :), .int (rN hE :), .int (rA hE :), .int (rE hE :), trivial⟩, ⟨rfl, .str (by rw [e]), .bool (by rw [e]), .str (by rw [e]), .rowEq (by rw [e]), .ownEq (by rw [e]), .ownEq (by rw [e]), trivial⟩, trivial⟩
      · have h1 : (r.memF c.methods.length).mm1.is wSemi = true := notF h
        have hv : (r.memF c.methods.length).mmV (decide (r.next.2.1 = wFunction)) = ((r.memF c.methods.length).mm1V (decide (r.next.2.1 = wFunction))) := if_pos h1
        have hR : (r.memF c.methods.length).mm1.take wSemi = (r.memF c.methods.length).mmR := by rw [take_yes h1]; exact (if_pos h1).symm
        have e : r.member c = (⟨c.name, c.iface, c.super, c.ifaces, c.fields, c.methods ++ [((r.memF c.methods.length).mm1V (decide (r.next.2.1 = wFunction)))]⟩, (r.memF c.methods.length).mmR) := by
          unfold Rs.member; rw [if_neg hno, if_pos hor, hv]
        refine ⟨by kernel_rfl, ?_⟩
        refine ⟨Meth, methC, meth0, [((r.memF c.methods.length).mm1V (decide (r.next.2.1 = wFunction)))], ⟨rfl, fun _ => rfl⟩, ⟨.refl _, .bool (ba_eq _ _), .refl _, .own .., .refl _, .refl _, .refl _, .nil .., .nil .., trivial⟩, rfl, ?_⟩
        refine ⟨Meth, methC, meth0, c.methods, [((r.memF c.methods.length).mm1V (decide (r.next.2.1 = wFunction)))], 7000000, ⟨.refl _, .own ..⟩, fun _ => rfl, (by have h5 : c.methods.length ≤ 2000000 := hd.2.2; show (c.methods.length + 1) * 128 ≤ 140737488355328; omega), ?_⟩
        have hE : (r.memF c.methods.length).mm1.take wSemi = (r.member c).2 := by rw [e]; exact hR
        exact ⟨.refl (.tup []), ⟨rfl, .rowEq (rL hE :), .int (rI hE :), .int (rN hE :), .int (rA hE :), .int (rE hE :), trivial⟩, ⟨rfl, .str (by rw [e]), .bool (by rw [e]), .str (by rw [e]), .rowEq (by rw [e]), .ownEq (by rw [e]), .ownEq (by rw [e]), trivial⟩, trivial⟩
    have w3 : r.next.2.1 ≠ wMethod := baF h3
    refine ⟨fun h4 => ?_, fun h4 => ?_⟩
    · have hor : r.next.2.1 = wMethod ∨ r.next.2.1 = wFunction := .inr (baT h4)
      have hr : rok r := hd.1
      have g1 : Fwd r (r.memF c.methods.length) := Rs.memF_fwd r c.methods.length
      have g2 := g1.trans (Rs.fresh_fwd _)
      have g3 := g2.trans (Rs.params_fwd _)
      have g4 : Fwd r (r.memF c.methods.length).mm1 := g1.trans (Rs.mm1_fwd _)
      refine ⟨by kernel_rfl, ?_⟩
      refine ⟨(r, (c.methods.length : Int), 6), ⟨.refl _, .refl _, .refl _, trivial⟩, ⟨⟨rfl, .refl _, .refl _, .refl _, .refl _, .refl _, trivial⟩, trivial⟩, ⟨hr, trivial⟩, ?_⟩
      refine ⟨by kernel_rfl, ?_⟩
      refine ⟨(r.room c.methods.length 6, r.next.2.1), ⟨.refl _, .refl _, trivial⟩, ⟨⟨rfl, .refl _, .refl _, .refl _, .refl _, .refl _, trivial⟩, trivial⟩, ⟨rok_fwd hr (Rs.room_fwd r _ _), trivial⟩, ?_⟩
      refine ⟨by kernel_rfl, ?_⟩
      refine ⟨((r.memF c.methods.length), ()), ⟨.refl _, trivial⟩, ⟨⟨rfl, .refl _, .refl _, .refl _, .refl _, .refl _, trivial⟩, trivial⟩, ⟨rok_fwd hr g1, trivial⟩, ?_⟩
      refine ⟨by kernel_rfl, ?_⟩
      refine ⟨((r.memF c.methods.length).fresh, ()), ⟨.refl _, trivial⟩, ⟨⟨rfl, .refl _, .refl _, .refl _, .refl _, .refl _, trivial⟩, trivial⟩, ⟨rok_fwd hr g2, trivial⟩, ?_⟩
      refine ⟨by kernel_rfl, ?_⟩
      refine ⟨((r.memF c.methods.length).fresh.params.2, ()), ⟨.refl _, trivial⟩, ⟨⟨rfl, .refl _, .refl _, .refl _, .refl _, .refl _, trivial⟩, trivial⟩, ⟨rok_fwd hr g3, trivial⟩, ?_⟩
      refine ⟨by kernel_rfl, ?_⟩
      refine ⟨((r.memF c.methods.length).mm1, wSemi), ⟨.refl _, .str rfl, trivial⟩, ⟨⟨rfl, .refl _, .refl _, .refl _, .refl _, .refl _, trivial⟩, trivial⟩, ⟨rok_fwd hr g4, trivial⟩, ?_⟩
      refine ⟨fun h => ?_, fun h => ?_⟩
      · have h1 : (r.memF c.methods.length).mm1.is wSemi = false := notT h
        have hv : (r.memF c.methods.length).mmV (decide (r.next.2.1 = wFunction)) = (r.memF c.methods.length).mm1.bodyV ((r.memF c.methods.length).mm1V (decide (r.next.2.1 = wFunction))) := if_neg (by rw [h1]; decide)
        have hR : (r.memF c.methods.length).mm1.body = (r.memF c.methods.length).mmR := (if_neg (by rw [h1]; decide)).symm
        have hE : (r.memF c.methods.length).mm1.take wSemi = (r.memF c.methods.length).mm1 := take_no h1
        refine ⟨by kernel_rfl, ?_⟩
        refine ⟨((r.memF c.methods.length).mm1, ((r.memF c.methods.length).mm1V (decide (r.next.2.1 = wFunction)))), ⟨.refl _, .refl _, trivial⟩, ⟨⟨rfl, .rowEq (rL hE :), .int (rI hE :), .int (rN hE :), .int (rA hE :), .int (rE hE :), trivial⟩, ⟨rfl, .refl _, .bool (ba_eq _ _), .refl _, .refl _, .refl _, .refl _, .refl _, .refl _, .refl _, trivial⟩, trivial⟩, rok_fwd hr g4, ?_⟩
        clear hE
        have e : r.member c = (⟨c.name, c.iface, c.super, c.ifaces, c.fields, c.methods ++ [(r.memF c.methods.length).mm1.bodyV ((r.memF c.methods.length).mm1V (decide (r.next.2.1 = wFunction)))]⟩, (r.memF c.methods.length).mmR) := by
          unfold Rs.member; rw [if_neg hno, if_pos hor, hv]
        refine ⟨by kernel_rfl, ?_⟩
        refine ⟨Meth, methC, meth0, [(r.memF c.methods.length).mm1.bodyV ((r.memF c.methods.length).mm1V (decide (r.next.2.1 = wFunction)))], ⟨rfl, fun _ => rfl⟩, ⟨.refl _, .refl _, .refl _, .refl _, .refl _, .refl _, .refl _, .refl _, .refl _, trivial⟩, rfl, ?_⟩
        refine ⟨Meth, methC, meth0, c.methods, [(r.memF c.methods.length).mm1.bodyV ((r.memF c.methods.length).mm1V (decide (r.next.2.1 = wFunction)))], 7000000, ⟨.refl _, .own ..⟩, fun _ => rfl, (by have h5 : c.methods.length ≤ 2000000 := hd.2.2; show (c.methods.length + 1) * 128 ≤ 140737488355328; omega), ?_⟩
        have hE : (r.memF c.methods.length).mm1.body = (r.member c).2 := by rw [e]; exact hR
        exact ⟨.refl (.tup []), ⟨rfl, .rowEq (rL hE :), .int (rI hE :), .int (rN hE :), .int (rA hE :), .int (rE hE :), trivial⟩, ⟨rfl, .str (by rw [e]), .bool (by rw [e]), .str (by rw [e]), .rowEq (by rw [e]), .ownEq (by rw [e]), .ownEq (by rw [e]), trivial⟩, trivial⟩
      · have h1 : (r.memF c.methods.length).mm1.is wSemi = true := notF h
        have hv : (r.memF c.methods.length).mmV (decide (r.next.2.1 = wFunction)) = ((r.memF c.methods.length).mm1V (decide (r.next.2.1 = wFunction))) := if_pos h1
        have hR : (r.memF c.methods.length).mm1.take wSemi = (r.memF c.methods.length).mmR := by rw [take_yes h1]; exact (if_pos h1).symm
        have e : r.member c = (⟨c.name, c.iface, c.super, c.ifaces, c.fields, c.methods ++ [((r.memF c.methods.length).mm1V (decide (r.next.2.1 = wFunction)))]⟩, (r.memF c.methods.length).mmR) := by
          unfold Rs.member; rw [if_neg hno, if_pos hor, hv]
        refine ⟨by kernel_rfl, ?_⟩
        refine ⟨Meth, methC, meth0, [((r.memF c.methods.length).mm1V (decide (r.next.2.1 = wFunction)))], ⟨rfl, fun _ => rfl⟩, ⟨.refl _, .bool (ba_eq _ _), .refl _, .own .., .refl _, .refl _, .refl _, .nil .., .nil .., trivial⟩, rfl, ?_⟩
        refine ⟨Meth, methC, meth0, c.methods, [((r.memF c.methods.length).mm1V (decide (r.next.2.1 = wFunction)))], 7000000, ⟨.refl _, .own ..⟩, fun _ => rfl, (by have h5 : c.methods.length ≤ 2000000 := hd.2.2; show (c.methods.length + 1) * 128 ≤ 140737488355328; omega), ?_⟩
        have hE : (r.memF c.methods.length).mm1.take wSemi = (r.member c).2 := by rw [e]; exact hR
        exact ⟨.refl (.tup []), ⟨rfl, .rowEq (rL hE :), .int (rI hE :), .int (rN hE :), .int (rA hE :), .int (rE hE :), trivial⟩, ⟨rfl, .str (by rw [e]), .bool (by rw [e]), .str (by rw [e]), .rowEq (by rw [e]), .ownEq (by rw [e]), .ownEq (by rw [e]), trivial⟩, trivial⟩
    have w4 : r.next.2.1 ≠ wFunction := baF h4
    have e : r.member c = (c, r.fail 4) := by
      unfold Rs.member; rw [if_neg hno, if_neg (fun c => c.elim w3 w4)]
    refine ⟨by kernel_rfl, ?_⟩
    refine ⟨(r, 4), ⟨.refl _, .refl _, trivial⟩, ⟨⟨rfl, .refl _, .refl _, .refl _, .refl _, .refl _, trivial⟩, trivial⟩, ⟨hd.1, trivial⟩, ?_⟩
    have hE : r.fail 4 = (r.member c).2 := by rw [e]
    exact ⟨.refl (.tup []), ⟨rfl, .rowEq (rL hE :), .int (rI hE :), .int (rN hE :), .int (rA hE :), .int (rE hE :), trivial⟩, ⟨rfl, .str (by rw [e]), .bool (by rw [e]), .str (by rw [e]), .rowEq (by rw [e]), .ownEq (by rw [e]), .ownEq (by rw [e]), trivial⟩, trivial⟩
end Go.Proofs.YtimhbimpaiiceaaDoor.Ax
/- Layer parse: classes, programs. -/
set_option linter.unusedVariables false
set_option linter.unusedSimpArgs false
namespace Go.Proofs.YtimhbimpaiiceaaDoor.Ax
open Go Go.RowKit
theorem Sub.agg6 {a b c d e f a' b' c' d' e' f' : SV} (h1 : Sub a a') (h2 : Sub b b') (h3 : Sub c c') (h4 : Sub d d') (h5 : Sub e e') (h6 : Sub f f') : Sub (.agg [a, b, c, d, e, f]) (.agg [a', b', c', d', e', f']) := .agg _ _ rfl fun j hj => by
  match j, hj with
  | 0, _ => exact h1
  | 1, _ => exact h2
  | 2, _ => exact h3
  | 3, _ => exact h4
  | 4, _ => exact h5
  | 5, _ => exact h6
def classRC : CtrB := rdC Int (fun n => [I n]) (fun r n _ => .agg (clsC (r.class' n).1)) (fun r n => (r.class' n).2) fun _ => True
theorem member_len (r : Rs) (c : Cls) : (r.member c).1.fields.length + (r.member c).1.methods.length ≤ c.fields.length + c.methods.length + 1 := by
  unfold Rs.member
  split
  · simp; omega
  · split
    · simp; omega
    · simp
set_option maxRecDepth 100000 in
set_option maxHeartbeats 8000000 in
theorem classR_ok : CtrBSound Tryd.prog 34 classRC :=
  ctrB_of_ax2 mixed _ Tryd.func34 (by kernel_rfl) rfl (fun _ _ => ⟨Nat.le_of_ble_eq_true rfl, Nat.le_of_ble_eq_true rfl⟩) fun ((r, many) : Rs × Int) id hd => by
    refine ⟨_, ⟨env_okB tys_ok (eqs := []) trivial (cs := [(46, isC)]) ⟨is_ok, trivial⟩ (bs := [(47, roomC), (48, wantC), (49, freshRC), (50, takeC), (51, nmsC), (52, memberRC)]) ⟨room_ok, want_ok, freshR_ok, take_ok, nms_ok, memberR_ok, trivial⟩ (vec := [60]) (cut := [4, 7, 12, 14]) (gl := tabP), fun _ h => h⟩, ?_⟩
    have hr : rok r := hd.1
    have hL : r.L.length ≤ 1000000 := hd.1.1
    have f1 : Fwd r (r.cl1 many) := Rs.cl1_fwd r many
    have f2 := f1.trans (Rs.fresh_fwd _)
    have f3 := f2.trans (Rs.ex1_fwd _ (r.is wInterface))
    have f4 := f3.trans (Rs.ex2_fwd _ (r.is wInterface) ((r.cl1 many).fresh.ex1 (r.is wInterface)).1.2)
    have f5 : Fwd r (r.clR many) := Rs.clR_fwd r many
    have f0 : Fwd r (if r.is wClass || r.is wInterface then r.room many 10 else r) := by
      split
      · exact Rs.room_fwd _ _ _
      · exact .refl _
    refine ⟨(r, wInterface), ⟨.refl _, .str rfl, trivial⟩, rfl, ⟨hr, trivial⟩, ?_⟩
    refine ⟨Unit, fun _ => [(0, .box 1000 0), (4, .box 4 0), (5, .box 5 0)], fun _ => [(1000, rsC (if r.is wClass || r.is wInterface then r.room many 10 else r)), (4, [S noS, B false, S noS, .val (.slice none 0 0), .val (.slice none 0 0), .val (.slice none 0 0)]), (5, [S (noS), B (r.is wInterface), S (noS), .val (.slice none 0 0), .val (.slice none 0 0), .val (.slice none 0 0)])], fun _ => True, ?_, fun _ _ => ?_⟩
    · refine ⟨(r, wClass), ⟨.refl _, .str rfl, trivial⟩, rfl, ⟨hr, trivial⟩, ?_⟩
      refine ⟨fun h1 => ?_, fun h1 => ?_⟩
      · have h1 : r.is wClass = true := h1
        have hE : r.room many 10 = (if r.is wClass || r.is wInterface then r.room many 10 else r) := (if_pos (by rw [h1]; rfl)).symm
        refine ⟨by kernel_rfl, ?_⟩
        refine ⟨(r, many, 10), ⟨.refl _, .refl _, .refl _, trivial⟩, ⟨⟨rfl, .refl _, .refl _, .refl _, .refl _, .refl _, trivial⟩, trivial⟩, ⟨hr, trivial⟩, ?_⟩
        exact ⟨(), trivial, ⟨rfl, rfl⟩, .refl _, .refl _, .refl _, ⟨.refl _, .refl _, .refl _, .refl _, .refl _, .refl _, trivial⟩, ⟨.refl _, .refl _, .refl _, .refl _, .refl _, .refl _, trivial⟩, ⟨.rowEq (rL hE :), .int (rI hE :), .int (rN hE :), .int (rA hE :), .int (rE hE :), trivial⟩, trivial⟩
      have h1 : r.is wClass = false := h1
      refine ⟨(r, wInterface), ⟨.refl _, .str rfl, trivial⟩, rfl, ⟨hr, trivial⟩, ?_⟩
      refine ⟨fun h2 => ?_, fun h2 => ?_⟩
      · have h2 : r.is wInterface = true := h2
        have hE : r.room many 10 = (if r.is wClass || r.is wInterface then r.room many 10 else r) := (if_pos (by rw [h1, h2]; rfl)).symm
        refine ⟨by kernel_rfl, ?_⟩
        refine ⟨(r, many, 10), ⟨.refl _, .refl _, .refl _, trivial⟩, ⟨⟨rfl, .refl _, .refl _, .refl _, .refl _, .refl _, trivial⟩, trivial⟩, ⟨hr, trivial⟩, ?_⟩
        exact ⟨(), trivial, ⟨rfl, rfl⟩, .refl _, .refl _, .refl _, ⟨.refl _, .refl _, .refl _, .refl _, .refl _, .refl _, trivial⟩, ⟨.refl _, .refl _, .refl _, .refl _, .refl _, .refl _, trivial⟩, ⟨.rowEq (rL hE :), .int (rI hE :), .int (rN hE :), .int (rA hE :), .int (rE hE :), trivial⟩, trivial⟩
      · have h2 : r.is wInterface = false := h2
        have hE : r = (if r.is wClass || r.is wInterface then r.room many 10 else r) := (if_neg (by rw [h1, h2]; decide)).symm
        exact ⟨(), trivial, ⟨rfl, rfl⟩, .refl _, .refl _, .refl _, ⟨.refl _, .refl _, .refl _, .refl _, .refl _, .refl _, trivial⟩, ⟨.refl _, .refl _, .refl _, .refl _, .refl _, .refl _, trivial⟩, ⟨.rowEq (rL hE :), .int (rI hE :), .int (rN hE :), .int (rA hE :), .int (rE hE :), trivial⟩, trivial⟩
    refine ⟨Unit, fun _ => [(0, .box 1000 0), (4, .box 4 0), (5, .box 5 0)], fun _ => [(1000, rsC (r.cl1 many)), (4, [S noS, B false, S noS, .val (.slice none 0 0), .val (.slice none 0 0), .val (.slice none 0 0)]), (5, [S (noS), B (r.is wInterface), S (noS), .val (.slice none 0 0), .val (.slice none 0 0), .val (.slice none 0 0)])], fun _ => True, ?_, fun _ _ => ?_⟩
    · refine ⟨fun h1 => ?_, fun h1 => ?_⟩
      · have h1 : r.is wInterface = true := h1
        have hE : (if r.is wClass || r.is wInterface then r.room many 10 else r).want wInterface = (r.cl1 many) := by unfold Rs.cl1; rw [if_pos (c := r.is wInterface = true) h1]
        refine ⟨by kernel_rfl, ?_⟩
        refine ⟨((if r.is wClass || r.is wInterface then r.room many 10 else r), wInterface), ⟨.refl _, .str rfl, trivial⟩, ⟨⟨rfl, .refl _, .refl _, .refl _, .refl _, .refl _, trivial⟩, trivial⟩, ⟨rok_fwd hr f0, trivial⟩, ?_⟩
        exact ⟨(), trivial, ⟨rfl, rfl⟩, .refl _, .refl _, .refl _, ⟨.refl _, .refl _, .refl _, .refl _, .refl _, .refl _, trivial⟩, ⟨.refl _, .refl _, .refl _, .refl _, .refl _, .refl _, trivial⟩, ⟨.rowEq (rL hE :), .int (rI hE :), .int (rN hE :), .int (rA hE :), .int (rE hE :), trivial⟩, trivial⟩
      · have h1 : r.is wInterface = false := h1
        have hE : (if r.is wClass || r.is wInterface then r.room many 10 else r).want wClass = (r.cl1 many) := by unfold Rs.cl1; rw [if_neg (c := r.is wInterface = true) (by rw [h1]; decide)]
        refine ⟨by kernel_rfl, ?_⟩
        refine ⟨((if r.is wClass || r.is wInterface then r.room many 10 else r), wClass), ⟨.refl _, .str rfl, trivial⟩, ⟨⟨rfl, .refl _, .refl _, .refl _, .refl _, .refl _, trivial⟩, trivial⟩, ⟨rok_fwd hr f0, trivial⟩, ?_⟩
        exact ⟨(), trivial, ⟨rfl, rfl⟩, .refl _, .refl _, .refl _, ⟨.refl _, .refl _, .refl _, .refl _, .refl _, .refl _, trivial⟩, ⟨.refl _, .refl _, .refl _, .refl _, .refl _, .refl _, trivial⟩, ⟨.rowEq (rL hE :), .int (rI hE :), .int (rN hE :), .int (rA hE :), .int (rE hE :), trivial⟩, trivial⟩
    refine ⟨by kernel_rfl, ?_⟩
    refine ⟨((r.cl1 many), ()), ⟨.refl _, trivial⟩, ⟨⟨rfl, .refl _, .refl _, .refl _, .refl _, .refl _, trivial⟩, trivial⟩, ⟨rok_fwd hr f1, trivial⟩, ?_⟩
    refine ⟨Unit, fun _ => [(0, .box 1000 0), (4, .box 4 0), (5, .box 5 0)], fun _ => [(1000, rsC ((r.cl1 many).fresh.ex1 (r.is wInterface)).2), (4, [S noS, B false, S noS, .val (.slice none 0 0), .val (.slice none 0 0), .val (.slice none 0 0)]), (5, [S ((r.cl1 many).freshV), B (r.is wInterface), S (((r.cl1 many).fresh.ex1 (r.is wInterface)).1.1), .row ByteArray 1 strC noS ((r.cl1 many).fresh.ex1 (r.is wInterface)).1.2, .val (.slice none 0 0), .val (.slice none 0 0)])], fun _ => True, ?_, fun _ _ => ?_⟩
    · refine ⟨by kernel_rfl, ?_⟩
      refine ⟨((r.cl1 many).fresh, wExtends), ⟨.refl _, .str rfl, trivial⟩, ⟨⟨rfl, .refl _, .refl _, .refl _, .refl _, .refl _, trivial⟩, trivial⟩, ⟨rok_fwd hr f2, trivial⟩, ?_⟩
      refine ⟨fun h1 => ?_, fun h1 => ?_⟩
      · have h1 : (r.cl1 many).fresh.is wExtends = true := h1
        have hst := take_yes h1
        have fs : rok ((r.cl1 many).fresh.take wExtends) := rok_fwd hr (f2.trans (Rs.take_fwd _ _))
        refine ⟨fun h2 => ?_, fun h2 => ?_⟩
        · have h2 : r.is wInterface = true := h2
          have e : ((r.cl1 many).fresh.ex1 (r.is wInterface)) = ((noS, (r.cl1 many).fresh.step.names.1), (r.cl1 many).fresh.step.names.2) := by unfold Rs.ex1; rw [if_pos h1, if_pos h2]
          have hE : ((r.cl1 many).fresh.take wExtends).names.2 = ((r.cl1 many).fresh.ex1 (r.is wInterface)).2 := by rw [e, hst]
          refine ⟨by kernel_rfl, ?_⟩
          refine ⟨((r.cl1 many).fresh.take wExtends, ()), ⟨.refl _, trivial⟩, ⟨⟨rfl, .refl _, .refl _, .refl _, .refl _, .refl _, trivial⟩, trivial⟩, ⟨fs, trivial⟩, ?_⟩
          exact ⟨(), trivial, ⟨rfl, rfl⟩, .refl _, .refl _, .refl _, ⟨.refl _, .refl _, .str (by rw [e]), .ownRow (by rw [e, hst]), .refl _, .refl _, trivial⟩, ⟨.refl _, .refl _, .refl _, .refl _, .refl _, .refl _, trivial⟩, ⟨.rowEq (rL hE :), .int (rI hE :), .int (rN hE :), .int (rA hE :), .int (rE hE :), trivial⟩, trivial⟩
        · have h2 : r.is wInterface = false := h2
          have e : ((r.cl1 many).fresh.ex1 (r.is wInterface)) = (((r.cl1 many).fresh.step.freshV, []), (r.cl1 many).fresh.step.fresh) := by unfold Rs.ex1; rw [if_pos h1, if_neg (by rw [h2]; decide)]
          have hE : ((r.cl1 many).fresh.take wExtends).fresh = ((r.cl1 many).fresh.ex1 (r.is wInterface)).2 := by rw [e, hst]
          refine ⟨by kernel_rfl, ?_⟩
          refine ⟨((r.cl1 many).fresh.take wExtends, ()), ⟨.refl _, trivial⟩, ⟨⟨rfl, .refl _, .refl _, .refl _, .refl _, .refl _, trivial⟩, trivial⟩, ⟨fs, trivial⟩, ?_⟩
          exact ⟨(), trivial, ⟨rfl, rfl⟩, .refl _, .refl _, .refl _, ⟨.refl _, .refl _, .str (by rw [e, hst]), (show Sub _ (.row ByteArray 1 strC noS ((r.cl1 many).fresh.ex1 (r.is wInterface)).1.2) by rw [e]; exact .nil ..), .refl _, .refl _, trivial⟩, ⟨.refl _, .refl _, .refl _, .refl _, .refl _, .refl _, trivial⟩, ⟨.rowEq (rL hE :), .int (rI hE :), .int (rN hE :), .int (rA hE :), .int (rE hE :), trivial⟩, trivial⟩
      · have h1 : (r.cl1 many).fresh.is wExtends = false := h1
        have e : ((r.cl1 many).fresh.ex1 (r.is wInterface)) = ((noS, []), (r.cl1 many).fresh) := by unfold Rs.ex1; rw [if_neg (by rw [h1]; decide)]
        have hE : (r.cl1 many).fresh.take wExtends = ((r.cl1 many).fresh.ex1 (r.is wInterface)).2 := by rw [e, take_no h1]
        exact ⟨(), trivial, ⟨rfl, rfl⟩, .refl _, .refl _, .refl _, ⟨.refl _, .refl _, .str (by rw [e]), (show Sub _ (.row ByteArray 1 strC noS ((r.cl1 many).fresh.ex1 (r.is wInterface)).1.2) by rw [e]; exact .nil ..), .refl _, .refl _, trivial⟩, ⟨.refl _, .refl _, .refl _, .refl _, .refl _, .refl _, trivial⟩, ⟨.rowEq (rL hE :), .int (rI hE :), .int (rN hE :), .int (rA hE :), .int (rE hE :), trivial⟩, trivial⟩
    refine ⟨Unit, fun _ => [(0, .box 1000 0), (4, .box 4 0), (5, .box 5 0)], fun _ => [(1000, rsC (((r.cl1 many).fresh.ex1 (r.is wInterface)).2.ex2 (r.is wInterface) ((r.cl1 many).fresh.ex1 (r.is wInterface)).1.2).2), (4, [S noS, B false, S noS, .val (.slice none 0 0), .val (.slice none 0 0), .val (.slice none 0 0)]), (5, [S ((r.cl1 many).freshV), B (r.is wInterface), S (((r.cl1 many).fresh.ex1 (r.is wInterface)).1.1), .row ByteArray 1 strC noS (((r.cl1 many).fresh.ex1 (r.is wInterface)).2.ex2 (r.is wInterface) ((r.cl1 many).fresh.ex1 (r.is wInterface)).1.2).1, .val (.slice none 0 0), .val (.slice none 0 0)])], fun _ => True, ?_, fun _ _ => ?_⟩
    · have none : (r.is wInterface = true ∨ ((r.cl1 many).fresh.ex1 (r.is wInterface)).2.is wImplements = false) → (((r.cl1 many).fresh.ex1 (r.is wInterface)).2.ex2 (r.is wInterface) ((r.cl1 many).fresh.ex1 (r.is wInterface)).1.2) = (((r.cl1 many).fresh.ex1 (r.is wInterface)).1.2, ((r.cl1 many).fresh.ex1 (r.is wInterface)).2) := fun h => by
        unfold Rs.ex2
        rcases h with h | h
        · rw [if_neg (by rw [h]; simp)]
        · rw [if_neg (by rw [h]; simp)]
      refine ⟨fun h1 => ?_, fun h1 => ?_⟩
      · have h1 : r.is wInterface = false := notT h1
        refine ⟨by kernel_rfl, ?_⟩
        refine ⟨(((r.cl1 many).fresh.ex1 (r.is wInterface)).2, wImplements), ⟨.refl _, .str rfl, trivial⟩, ⟨⟨rfl, .refl _, .refl _, .refl _, .refl _, .refl _, trivial⟩, trivial⟩, ⟨rok_fwd hr f3, trivial⟩, ?_⟩
        refine ⟨fun h2 => ?_, fun h2 => ?_⟩
        · have h2 : ((r.cl1 many).fresh.ex1 (r.is wInterface)).2.is wImplements = true := h2
          have hst := take_yes h2
          have e : (((r.cl1 many).fresh.ex1 (r.is wInterface)).2.ex2 (r.is wInterface) ((r.cl1 many).fresh.ex1 (r.is wInterface)).1.2) = ((r.cl1 many).fresh.ex1 (r.is wInterface)).2.step.names := by unfold Rs.ex2; rw [if_pos (by rw [Bool.and_eq_true]; exact ⟨by rw [h1]; rfl, h2⟩)]
          have hE : (((r.cl1 many).fresh.ex1 (r.is wInterface)).2.take wImplements).names.2 = (((r.cl1 many).fresh.ex1 (r.is wInterface)).2.ex2 (r.is wInterface) ((r.cl1 many).fresh.ex1 (r.is wInterface)).1.2).2 := by rw [e, hst]
          refine ⟨by kernel_rfl, ?_⟩
          refine ⟨(((r.cl1 many).fresh.ex1 (r.is wInterface)).2.take wImplements, ()), ⟨.refl _, trivial⟩, ⟨⟨rfl, .refl _, .refl _, .refl _, .refl _, .refl _, trivial⟩, trivial⟩, ⟨rok_fwd hr (f3.trans (Rs.take_fwd _ _)), trivial⟩, ?_⟩
          exact ⟨(), trivial, ⟨rfl, rfl⟩, .refl _, .refl _, .refl _, ⟨.refl _, .refl _, .refl _, .ownRow (by rw [e, hst]), .refl _, .refl _, trivial⟩, ⟨.refl _, .refl _, .refl _, .refl _, .refl _, .refl _, trivial⟩, ⟨.rowEq (rL hE :), .int (rI hE :), .int (rN hE :), .int (rA hE :), .int (rE hE :), trivial⟩, trivial⟩
        · have h2 : ((r.cl1 many).fresh.ex1 (r.is wInterface)).2.is wImplements = false := h2
          have hE : ((r.cl1 many).fresh.ex1 (r.is wInterface)).2.take wImplements = (((r.cl1 many).fresh.ex1 (r.is wInterface)).2.ex2 (r.is wInterface) ((r.cl1 many).fresh.ex1 (r.is wInterface)).1.2).2 := by rw [none (.inr h2), take_no h2]
          exact ⟨(), trivial, ⟨rfl, rfl⟩, .refl _, .refl _, .refl _, ⟨.refl _, .refl _, .refl _, .rowEq (by rw [none (.inr h2)]), .refl _, .refl _, trivial⟩, ⟨.refl _, .refl _, .refl _, .refl _, .refl _, .refl _, trivial⟩, ⟨.rowEq (rL hE :), .int (rI hE :), .int (rN hE :), .int (rA hE :), .int (rE hE :), trivial⟩, trivial⟩
      · have h1 : r.is wInterface = true := notF h1
        have hE : ((r.cl1 many).fresh.ex1 (r.is wInterface)).2 = (((r.cl1 many).fresh.ex1 (r.is wInterface)).2.ex2 (r.is wInterface) ((r.cl1 many).fresh.ex1 (r.is wInterface)).1.2).2 := by rw [none (.inl h1)]
        exact ⟨(), trivial, ⟨rfl, rfl⟩, .refl _, .refl _, .refl _, ⟨.refl _, .refl _, .refl _, .rowEq (by rw [none (.inl h1)]), .refl _, .refl _, trivial⟩, ⟨.refl _, .refl _, .refl _, .refl _, .refl _, .refl _, trivial⟩, ⟨.rowEq (rL hE :), .int (rI hE :), .int (rN hE :), .int (rA hE :), .int (rE hE :), trivial⟩, trivial⟩
    refine ⟨by kernel_rfl, ?_⟩
    refine ⟨((((r.cl1 many).fresh.ex1 (r.is wInterface)).2.ex2 (r.is wInterface) ((r.cl1 many).fresh.ex1 (r.is wInterface)).1.2).2, wLc), ⟨.refl _, .str rfl, trivial⟩, ⟨⟨rfl, .refl _, .refl _, .refl _, .refl _, .refl _, trivial⟩, trivial⟩, ⟨rok_fwd hr f4, trivial⟩, ?_⟩
    refine ⟨Nat × Rs × Cls, fun _ => [(0, .box 1000 0), (4, .box 4 0), (5, .box 5 0)], fun s => [(1000, rsC s.2.1), (4, [S noS, B false, S noS, .val (.slice none 0 0), .val (.slice none 0 0), .val (.slice none 0 0)]), (5, cPre s.2.2 6900060 7000060)],
      fun s => Rs.clsL s.1 s.2.1 s.2.2 = r.class' many ∧ s.2.1.need ≤ s.1 ∧ Fwd r s.2.1 ∧ s.2.2.fields.length + s.2.2.methods.length + s.1 ≤ r.L.length + 2, fun s => s.1,
      ⟨(r.L.length + 2, r.clR many, r.clV many), ⟨rfl, (by have := need_le (r.clR many); rw [f5.L] at this; exact this), f5, (by show 0 + 0 + (r.L.length + 2) ≤ _; omega)⟩, ⟨⟨rfl, rfl⟩, .refl _, .refl _, .refl _, ⟨.refl _, .refl _, .refl _, .refl _, .nilO .., .nilO .., trivial⟩, ⟨.refl _, .refl _, .refl _, .refl _, .refl _, .refl _, trivial⟩, ⟨.refl _, .refl _, .refl _, .refl _, .refl _, trivial⟩, trivial⟩⟩, fun ((k, q, c) : Nat × Rs × Cls) hx => ?_⟩
    have hx1 : Rs.clsL k q c = r.class' many := hx.1
    have hx2 : q.need ≤ k := hx.2.1
    have hx3 : Fwd r q := hx.2.2.1
    have hx4 : c.fields.length + c.methods.length + k ≤ r.L.length + 2 := hx.2.2.2
    obtain ⟨k, rfl⟩ : ∃ k', k = k' + 1 := ⟨k - 1, by have := Rs.need_pos q; omega⟩
    have hq : rok q := rok_fwd hr hx3
    rw [Rs.clsL] at hx1
    refine ⟨fun h1 => ?_, fun h1 => ?_⟩
    · have h1 : q.e = 0 := eqT h1
      refine ⟨by kernel_rfl, ?_⟩
      refine ⟨(q, wRc), ⟨.refl _, .str rfl, trivial⟩, ⟨⟨rfl, .refl _, .refl _, .refl _, .refl _, .refl _, trivial⟩, trivial⟩, ⟨hq, trivial⟩, ?_⟩
      refine ⟨fun h2 => ?_, fun h2 => ?_⟩
      · have h2 : q.is wRc = false := notT h2
        rw [if_pos h1, if_neg (by rw [h2]; decide)] at hx1
        have hE : q.take wRc = q := take_no h2
        refine ⟨(q, c), ⟨.refl _, .refl _, trivial⟩, ⟨⟨rfl, .rowEq (rL hE :), .int (rI hE :), .int (rN hE :), .int (rA hE :), .int (rE hE :), trivial⟩, ⟨rfl, .refl _, .refl _, .refl _, .refl _, .refl _, .refl _, trivial⟩, trivial⟩, ⟨hq, (show c.fields.length ≤ 2000000 by omega), (show c.methods.length ≤ 2000000 by omega)⟩, ?_⟩
        have hf := Rs.member_fwd q c
        have hml := member_len q c
        have hn : q.need ≤ k + 1 := hx2
        have hlt : (q.member c).2.need < q.need ∨ ¬ q.i < q.L.length := by
          by_cases c0 : q.i < q.L.length
          · exact .inl (Rs.need_lt ⟨h1, c0⟩ hf (Rs.member_on q c))
          · exact .inr c0
        have hk2 : (q.member c).2.need ≤ k := by
          rcases hlt with hlt | hlt
          · omega
          · have h3 := Rs.member_on q c
            have h4 := hf.bd
            have h5 : (q.member c).2.e ≠ 0 := by
              rcases h3 with h3 | h3
              · exact h3
              · omega
            have h6 : 1 < q.need := by unfold Rs.need; rw [if_pos h1]; omega
            unfold Rs.need
            rw [if_neg h5]; omega
        exact ⟨(k, (q.member c).2, (q.member c).1), ⟨hx1, hk2, hx3.trans hf, (show (q.member c).1.fields.length + (q.member c).1.methods.length + k ≤ r.L.length + 2 by omega)⟩, Nat.lt_succ_self _, ⟨rfl, rfl⟩, .refl _, .refl _, .refl _, ⟨.refl _, .refl _, .refl _, .refl _, .refl _, .refl _, trivial⟩, ⟨.refl _, .refl _, .refl _, .refl _, .refl _, .refl _, trivial⟩, ⟨.refl _, .refl _, .refl _, .refl _, .refl _, trivial⟩, trivial⟩
      · have h2 : q.is wRc = true := notF h2
        rw [if_pos h1, if_pos h2] at hx1
        have hE : q.take wRc = (r.class' many).2 := by rw [take_yes h2, ← hx1]
        exact ⟨.agg6 (.str (by rw [← hx1])) (.bool (by rw [← hx1])) (.str (by rw [← hx1])) (.rowEq (by rw [← hx1])) (.ownRow (by rw [← hx1])) (.ownRow (by rw [← hx1])), ⟨rfl, .rowEq (rL hE :), .int (rI hE :), .int (rN hE :), .int (rA hE :), .int (rE hE :), trivial⟩, trivial⟩
    · have h1 : ¬ q.e = 0 := eqF h1
      rw [if_neg h1] at hx1
      have hE : q = (r.class' many).2 := by rw [← hx1]
      exact ⟨.agg6 (.str (by rw [← hx1])) (.bool (by rw [← hx1])) (.str (by rw [← hx1])) (.rowEq (by rw [← hx1])) (.ownRow (by rw [← hx1])) (.ownRow (by rw [← hx1])), ⟨rfl, .rowEq (rL hE :), .int (rI hE :), .int (rN hE :), .int (rA hE :), .int (rE hE :), trivial⟩, trivial⟩
def parseC : Ctr := { A := List UInt8, enc := fun l => [.row UInt8 1 byteC 0 l], dom := fun l => l.length ≤ 4611686018427387904, res := fun l _ => .tup [.agg [prgR (parseF l).1], I (parseF l).2.1, I (parseF l).2.2], gl := tabP }
theorem scan_count (l : List UInt8) : (scanF l).1.length ≤ 6000 := by
  unfold scanF
  split
  · simp
  · have hh : ∀ (f i : Nat) (l : List UInt8), (scanL f i l).1.length ≤ l.length := by
      intro f
      induction f with
      | zero => intro i l; cases l <;> simp [scanL]
      | succ f ih =>
        intro i l
        cases l with
        | nil => simp [scanL]
        | cons c r =>
          simp only [scanL]
          split
          · have := ih (i + 1) r; simp only [List.length_cons]; omega
          · split
            · rename_i h2
              have h3 := word_pos h2
              have := ih (i + wordF (c :: r)) ((c :: r).drop (wordF (c :: r)))
              simp only [List.length_cons, List.length_drop] at this ⊢
              omega
            · simp
    have h1 := hh l.length 0 l
    split <;> (dsimp only; first | exact Nat.zero_le _ | (show (scanL l.length 0 l).1.length ≤ 6000; omega))
set_option maxRecDepth 100000 in
set_option maxHeartbeats 4000000 in
theorem parse_ok : CtrSound Tryd.prog 16 parseC :=
  ctr_of_ax (env_okB tys_ok (eqs := []) trivial (cs := [(25, scanC)]) ⟨scan_ok, trivial⟩ (bs := [(34, classRC)]) ⟨classR_ok, trivial⟩ (qu := [2, 40]) (sq := [510058, 510062, 520002, 710022]) (gl := tabP)) mixed _ Tryd.func16 (by kernel_rfl) rfl (fun _ _ => Nat.le_of_ble_eq_true rfl) fun (l : List UInt8) id hd => by
    have hd : l.length ≤ 4611686018427387904 := hd
    have hsc := scan_count l
    have err : ∀ (a e : Int), parseF l = ([], a, e) → ∀ s : SV, Sub s (.agg [prgR []]) → Sub (.tup [s, I a, I e]) (.tup [.agg [prgR (parseF l).1], I (parseF l).2.1, I (parseF l).2.2]) := fun a e h s hs => by
      rw [h]; exact .tup3 hs (.refl _) (.refl _)
    refine ⟨l, ⟨.refl _, trivial⟩, rfl, hd, ?_⟩
    refine ⟨fun h => ?_, fun h => ?_⟩
    · have h : ((scanF l).2.2 != 0) = true := h
      have e : parseF l = ([], (scanF l).2.1, (scanF l).2.2) := by
        unfold parseF; rw [if_neg (by simpa using h)]
      exact ⟨err _ _ e _ (.agg _ _ rfl fun j hj => by match j, hj with | 0, _ => exact .nil ..), rfl⟩
    have h0 : (scanF l).2.2 = 0 := by
      have h : ((scanF l).2.2 != 0) = false := h
      simpa using h
    have hr : rok (parse0 l) := ⟨by show (scanF l).1.length ≤ 1000000; omega, Nat.zero_le _⟩
    refine ⟨Nat × Rs × List Cls, fun _ => [(2, .box 2 0), (6, .box 22 0)], fun s => [(2, [.own Cls 6 clsC cls0 s.2.2 48]), (22, rsC s.2.1)],
      fun s => Rs.prgL s.1 s.2.1 s.2.2 = (Rs.prgL ((scanF l).1.length + 2) (parse0 l) []) ∧ s.2.1.need ≤ s.1 ∧ Fwd (parse0 l) s.2.1 ∧ s.2.2.length + s.1 ≤ (scanF l).1.length + 2, fun s => s.1,
      ⟨((scanF l).1.length + 2, parse0 l, []), ⟨rfl, need_le (parse0 l), .refl _, (by show 0 + _ ≤ _; omega)⟩, ⟨⟨rfl, rfl⟩, .refl _, .refl _, ⟨.nilO .., trivial⟩, ⟨.own .., .refl _, .refl _, .refl _, .refl _, trivial⟩, trivial⟩⟩, fun ((k, q, out) : Nat × Rs × List Cls) hx => ?_⟩
    have hx1 : Rs.prgL k q out = (Rs.prgL ((scanF l).1.length + 2) (parse0 l) []) := hx.1
    have hx2 : q.need ≤ k := hx.2.1
    have hx3 : Fwd (parse0 l) q := hx.2.2.1
    have hx4 : out.length + k ≤ (scanF l).1.length + 2 := hx.2.2.2
    obtain ⟨k, rfl⟩ : ∃ k', k = k' + 1 := ⟨k - 1, by have := Rs.need_pos q; omega⟩
    have hq : rok q := rok_fwd hr hx3
    rw [Rs.prgL] at hx1
    refine ⟨by kernel_rfl, ?_⟩
    have fin : ¬ (q.e = 0 ∧ q.i < q.L.length) → (out, q) = (Rs.prgL ((scanF l).1.length + 2) (parse0 l) []) := fun h => by rw [if_neg h] at hx1; exact hx1
    refine ⟨fun h1 => ?_, fun h1 => ?_⟩
    · have h1 : q.e = 0 := eqT h1
      refine ⟨fun h2 => ?_, fun h2 => ?_⟩
      · have h2 : q.i < q.L.length := dlt h2
        rw [if_pos ⟨h1, h2⟩] at hx1
        refine ⟨by kernel_rfl, ?_⟩
        refine ⟨by kernel_rfl, ?_⟩
        refine ⟨(q, (out.length : Int)), ⟨.refl _, .refl _, trivial⟩, ⟨⟨rfl, .refl _, .refl _, .refl _, .refl _, .refl _, trivial⟩, trivial⟩, ⟨hq, trivial⟩, ?_⟩
        refine ⟨Cls, clsC, cls0, [(q.class' out.length).1], ⟨rfl, fun _ => rfl⟩, ⟨.refl _, .refl _, .refl _, .refl _, .refl _, .refl _, trivial⟩, rfl, ?_⟩
        refine ⟨Cls, clsC, cls0, out, [(q.class' out.length).1], 48, ⟨.refl _, .own ..⟩, fun _ => rfl, (by show (out.length + 1) * 112 ≤ 140737488355328; omega), ?_⟩
        have hf := Rs.class_fwd q out.length
        have := Rs.need_lt ⟨h1, h2⟩ hf (Rs.class_on q out.length)
        exact ⟨(k, (q.class' out.length).2, out ++ [(q.class' out.length).1]), ⟨hx1, (show (q.class' out.length).2.need ≤ k by omega), hx3.trans hf, (show (out ++ [(q.class' out.length).1]).length + k ≤ (scanF l).1.length + 2 by simp; omega)⟩, Nat.lt_succ_self _, ⟨rfl, rfl⟩, .refl _, .refl _, ⟨.refl _, trivial⟩, ⟨.refl _, .refl _, .refl _, .refl _, .refl _, trivial⟩, trivial⟩
      · have h2 : ¬ q.i < q.L.length := by
          have h2 : decide ((q.i : Int) < (q.L.length : Int)) = false := h2
          have := dge h2; omega
        have e1 := fin (fun c => h2 c.2)
        refine ⟨fun h3 => ?_, fun h3 => ?_⟩
        · have h3 : (q.e != 0) = true := h3
          rw [h1] at h3; simp at h3
        · have e : parseF l = (out, 0, 0) := by
            unfold parseF; rw [if_pos h0, if_pos (by rw [← e1]; exact h1), ← e1]
          exact ⟨(show Sub _ (.tup [.agg [prgR (parseF l).1], I (parseF l).2.1, I (parseF l).2.2]) by rw [e]; exact .tup3 (.agg _ _ rfl fun j hj => by match j, hj with | 0, _ => exact .own ..) (.refl _) (.refl _)), rfl⟩
    · have h1 : ¬ q.e = 0 := eqF h1
      have e1 := fin (fun c => h1 c.1)
      refine ⟨fun h3 => ?_, fun h3 => ?_⟩
      · have e : parseF l = ([], q.at', q.e) := by
          unfold parseF; rw [if_pos h0, if_neg (by rw [← e1]; exact h1), ← e1]
        refine ⟨by kernel_rfl, ?_⟩
        exact ⟨err _ _ e _ (.agg _ _ rfl fun j hj => by match j, hj with | 0, _ => exact .nil ..), rfl⟩
      · have h3 : (q.e != 0) = false := h3
        exact absurd (by simpa using h3) h1
end Go.Proofs.YtimhbimpaiiceaaDoor.Ax
/- How the arguments of this seat's laws lie. -/
namespace Go.Proofs.YtimhbimpaiiceaaDoor.Ax
open Go Go.RowKit
abbrev sh3 : Shape := .int .i64
theorem reads3 : Reads Tryd.prog 3 sh3 := Reads.int Tryd.underlying3 (by kernel_rfl)
abbrev sh5 : Shape := .byte
theorem reads5 : Reads Tryd.prog 5 sh5 := Reads.byte Tryd.underlying5 (by kernel_rfl)
abbrev sh29 : Shape := sh5.row 1
theorem reads29 : Reads Tryd.prog 29 sh29 := Reads.row Tryd.underlying29 (by kernel_rfl) (by kernel_rfl) reads5 (by decide)
abbrev sh9 : Shape := .str
theorem reads9 : Reads Tryd.prog 9 sh9 := Reads.str Tryd.underlying9 (by kernel_rfl)
theorem laidOut : laidOutB Tryd.prog = true := by kernel_rfl
end Go.Proofs.YtimhbimpaiiceaaDoor.Ax
/- Layer parse: what each statement wakes; ParseWords. -/
set_option linter.unusedVariables false
set_option linter.unusedSimpArgs false
namespace Go.Proofs.YtimhbimpaiiceaaDoor.Ax
open Go Go.RowKit
abbrev lC : Ctr := { A := Unit, enc := fun _ => [], dom := fun _ => True, res := fun _ _ => .tt, gl := tabP }
theorem wk1 : parseF [99, 108, 97, 115, 115, 32, 65, 32, 123, 32, 102, 105, 101, 108, 100, 32, 120, 32, 58, 32, 105, 110, 116, 32, 59, 32, 125] = ([⟨⟨#[65]⟩, false, noS, [], [⟨⟨#[120]⟩, (2, noS), false⟩], []⟩], 0, 0) := by decide +kernel
theorem wk2 : parseF [99, 108, 97, 115, 115, 32, 65, 32, 123, 32, 102, 105, 101, 108, 100, 32, 105, 110, 116, 32, 58, 32, 105, 110, 116, 32, 59, 32, 125] = ([], 16, 4) := by decide +kernel
theorem wk3 : opV ⟨#[116, 104, 114, 111, 119]⟩ = 43 := by decide +kernel
theorem wk4 : wordF2 8 = ⟨#[97, 100, 100]⟩ := by decide +kernel
theorem wk5 : keptF [99, 108, 97, 115, 115] = true := by decide +kernel
set_option maxRecDepth 100000 in
set_option maxHeartbeats 2000000 in
theorem wakesP_ok : CtrSound Tryd.prog 15 lC :=
  ctr_of_ax (env_okB tys_ok (eqs := []) trivial (cs := [(16, parseC), (12, opC), (11, pwordC), (14, keptC)]) ⟨parse_ok, op_ok, pword_ok, kept_ok, trivial⟩ (bs := []) trivial (vec := [10, 12, 17, 19]) (gl := tabP)) mixed _ Tryd.func15 (by kernel_rfl) rfl (fun _ _ => Nat.le_of_ble_eq_true rfl) fun (_ : Unit) id hd => by
    obtain ⟨b1, e1⟩ : ∃ b : List UInt8, b = [99, 108, 97, 115, 115, 32, 65, 32, 123, 32, 102, 105, 101, 108, 100, 32, 120, 32, 58, 32, 105, 110, 116, 32, 59, 32, 125] := ⟨_, rfl⟩
    obtain ⟨b2, e2⟩ : ∃ b : List UInt8, b = [99, 108, 97, 115, 115, 32, 65, 32, 123, 32, 102, 105, 101, 108, 100, 32, 105, 110, 116, 32, 58, 32, 105, 110, 116, 32, 59, 32, 125] := ⟨_, rfl⟩
    have p1 := wk1
    rw [← e1] at p1
    have p2 := wk2
    rw [← e2] at p2
    have a1 : (parseF b1).2.2 = 0 := by rw [p1]
    have a2 : (parseF b1).1.length = 1 := by rw [p1]; rfl
    have a3 : ((parseF b1).1.getD 0 cls0).fields.length = 1 := by rw [p1]; rfl
    have a4 : (((parseF b1).1.getD 0 cls0).fields.getD 0 fld0).type.1 = 2 := by rw [p1]; rfl
    have a5 : (parseF b2).2.2 = 4 := by rw [p2]
    have a6 : (parseF b2).2.1 = 16 := by rw [p2]
    refine ⟨UInt8, byteC, 0, [99, 108, 97, 115, 115, 32, 65, 32, 123, 32, 102, 105, 101, 108, 100, 32, 120, 32, 58, 32, 105, 110, 116, 32, 59, 32, 125], ⟨rfl, fun _ => ⟨rfl, rfl, rfl⟩⟩, ⟨.refl _, .refl _, .refl _, .refl _, .refl _, .refl _, .refl _, .refl _, .refl _, .refl _, .refl _, .refl _, .refl _, .refl _, .refl _, .refl _, .refl _, .refl _, .refl _, .refl _, .refl _, .refl _, .refl _, .refl _, .refl _, .refl _, .refl _, trivial⟩, ?_⟩
    refine ⟨by decide, ?_⟩
    refine ⟨b1, ⟨.rowEq (by rw [e1]; rfl), trivial⟩, rfl, (show b1.length ≤ 4611686018427387904 by rw [e1]; decide), ?_⟩
    refine ⟨UInt8, byteC, 0, [99, 108, 97, 115, 115, 32, 65, 32, 123, 32, 102, 105, 101, 108, 100, 32, 105, 110, 116, 32, 58, 32, 105, 110, 116, 32, 59, 32, 125], ⟨rfl, fun _ => ⟨rfl, rfl, rfl⟩⟩, ⟨.refl _, .refl _, .refl _, .refl _, .refl _, .refl _, .refl _, .refl _, .refl _, .refl _, .refl _, .refl _, .refl _, .refl _, .refl _, .refl _, .refl _, .refl _, .refl _, .refl _, .refl _, .refl _, .refl _, .refl _, .refl _, .refl _, .refl _, .refl _, .refl _, trivial⟩, ?_⟩
    refine ⟨by decide, ?_⟩
    refine ⟨b2, ⟨.rowEq (by rw [e2]; rfl), trivial⟩, rfl, (show b2.length ≤ 4611686018427387904 by rw [e2]; decide), ?_⟩
    refine ⟨⟨#[116, 104, 114, 111, 119]⟩, ⟨.refl _, trivial⟩, rfl, trivial, ?_⟩
    refine ⟨fun h => ?_, fun h => absurd h (by show ¬ ((parseF b1).2.2 == 0) = false; rw [a1]; decide)⟩
    refine ⟨fun h => ?_, fun h => absurd h (by show ¬ (((parseF b1).1.length : Int) == 1) = false; rw [a2]; decide)⟩
    refine ⟨(show (0 : Int) ≤ 0 ∧ (0 : Int) < ((parseF b1).1.length : Int) by rw [a2]; decide), ?_⟩
    refine ⟨fun h => ?_, fun h => absurd h (by show ¬ ((((parseF b1).1.getD 0 cls0).fields.length : Int) == 1) = false; rw [a3]; decide)⟩
    refine ⟨(show (0 : Int) ≤ 0 ∧ (0 : Int) < ((parseF b1).1.length : Int) by rw [a2]; decide), ?_⟩
    refine ⟨(show (0 : Int) ≤ 0 ∧ (0 : Int) < (((parseF b1).1.getD 0 cls0).fields.length : Int) by rw [a3]; decide), ?_⟩
    refine ⟨fun h => ?_, fun h => absurd h (by show ¬ ((((parseF b1).1.getD 0 cls0).fields.getD 0 fld0).type.1 == 2) = false; rw [a4]; decide)⟩
    refine ⟨fun h => ?_, fun h => absurd h (by show ¬ ((parseF b2).2.2 == 4) = false; rw [a5]; decide)⟩
    refine ⟨fun h => ?_, fun h => absurd h (by show ¬ ((parseF b2).2.1 == 16) = false; rw [a6]; decide)⟩
    refine ⟨fun h => ?_, fun h => absurd h (by show ¬ (decide (0 ≤ opV ⟨#[116, 104, 114, 111, 119]⟩)) = false; rw [wk3]; decide)⟩
    refine ⟨fun h => ?_, fun h => absurd h (by show ¬ ((if opV ⟨#[116, 104, 114, 111, 119]⟩ < 0 then 0 else opV ⟨#[116, 104, 114, 111, 119]⟩) == 43) = false; rw [wk3]; decide)⟩
    refine ⟨(8 : Int), ⟨.refl _, trivial⟩, rfl, trivial, ?_⟩
    refine ⟨fun h => ?_, fun h => absurd h (by show ¬ ((wordF2 8).toList == (⟨#[97, 100, 100]⟩ : ByteArray).toList) = false; rw [wk4]; simp)⟩
    refine ⟨[99, 108, 97, 115, 115], ⟨.str rfl, trivial⟩, rfl, trivial, ?_⟩
    exact ⟨.toTT wk5, rfl⟩
theorem umodC (n : Int) (L : Nat) (h0 : 0 < L) (h1 : L ≤ 1000000000) : ∃ k : Nat, k < L ∧ IntKind.i64.wrap ((IntKind.u64.wrap n).tmod (L : Int)) = (k : Int) := by
  have hr : 0 ≤ IntKind.u64.wrap n := by
    simp only [IntKind.wrap, IntKind.bits, IntKind.signed]
    simp
    omega
  have h3 := Int.tmod_lt_of_pos (IntKind.u64.wrap n) (show (0 : Int) < L by omega)
  have h4 := Int.tmod_nonneg (L : Int) hr
  exact ⟨((IntKind.u64.wrap n).tmod (L : Int)).toNat, by omega, by rw [wrap_eq _ (by omega) (by omega)]; omega⟩
def ParseWords : Ctr := { A := Int × Int, enc := fun x => [I x.1, I x.2], dom := fun _ => True, res := fun _ _ => .tt, gl := tabP }
theorem word_inj {a b : Nat} (ha : a < 44) (hb : b < 44) : wordF2 (a : Int) = wordF2 (b : Int) ↔ a = b := by
  constructor
  · intro h
    have h1 := (word_op (o := (a : Int)) (by omega) (by omega)).2.1
    rw [h, (word_op (o := (b : Int)) (by omega) (by omega)).2.1] at h1
    omega
  · rintro rfl; rfl
theorem ba_len (s : ByteArray) : s.data.toList.length = s.size := by rw [Array.length_toList]; rfl
theorem name_len {s : ByteArray} (h : nameF s.data.toList = true) : s.data.toList.length ≤ 20 := by
  obtain ⟨c, r, e, -, -, h4⟩ := name_form.1 h
  exact h4
set_option maxRecDepth 100000 in
set_option maxHeartbeats 2000000 in
theorem ParseWords_ok : CtrSound Tryd.prog 3 ParseWords :=
  ctr_of_ax (env_okB tys_ok (eqs := []) trivial (cs := [(12, opC), (11, pwordC), (14, keptC), (13, nameC), (15, lC)]) ⟨op_ok, pword_ok, kept_ok, name_ok, wakesP_ok, trivial⟩ (bs := []) trivial (gl := tabP)) mixed _ Tryd.func3 (by kernel_rfl) rfl (fun _ _ => Nat.le_of_ble_eq_true rfl) fun ((op, other) : Int × Int) id hd => by
    obtain ⟨a, ha, ea⟩ := umodC op 44 (by decide) (by decide)
    obtain ⟨b, hb, eb⟩ := umodC other 44 (by decide) (by decide)
    have ea : IntKind.i64.wrap ((IntKind.u64.wrap op).tmod 44) = (a : Int) := ea
    have eb : IntKind.i64.wrap ((IntKind.u64.wrap other).tmod 44) = (b : Int) := eb
    obtain ⟨w1, w2, w3⟩ := word_op (o := (a : Int)) (by omega) (by omega)
    have hl := name_len w1
    refine ⟨by decide, ?_⟩
    refine ⟨by decide, ?_⟩
    refine ⟨(a : Int), ⟨.int ea, trivial⟩, rfl, trivial, ?_⟩
    refine ⟨wordF2 a, ⟨.refl _, trivial⟩, rfl, trivial, ?_⟩
    refine ⟨fun h => ?_, fun h => absurd h (by show ¬ (decide (0 ≤ opV (wordF2 a))) = false; rw [w2]; simp)⟩
    refine ⟨fun h => ?_, fun h => absurd h (by show ¬ ((if opV (wordF2 a) < 0 then 0 else opV (wordF2 a)) == IntKind.i64.wrap ((IntKind.u64.wrap op).tmod 44)) = false; rw [w2, ea]; rw [if_neg (by omega)]; simp)⟩
    refine ⟨(wordF2 a).data.toList, ⟨.refl _, trivial⟩, rfl, (show (wordF2 a).data.toList.length ≤ 4611686018427387904 by omega), ?_⟩
    refine ⟨fun h => ?_, fun h => absurd h (by show ¬ (nameF (wordF2 a).data.toList) = false; rw [w1]; decide)⟩
    refine ⟨(wordF2 a).data.toList, ⟨.refl _, trivial⟩, rfl, trivial, ?_⟩
    refine ⟨fun h => ?_, fun h => absurd h (by show ¬ (!keptW (wordF2 a)) = false; rw [w3]; decide)⟩
    refine ⟨(b : Int), ⟨.int eb, trivial⟩, rfl, trivial, ?_⟩
    refine ⟨fun h => ?_, fun h => absurd h (by
      show ¬ (((wordF2 a).toList == (wordF2 b).toList) == (IntKind.i64.wrap ((IntKind.u64.wrap op).tmod 44) == IntKind.i64.wrap ((IntKind.u64.wrap other).tmod 44))) = false
      rw [ba_eq, ea, eb, show decide (wordF2 (a : Int) = wordF2 (b : Int)) = ((a : Int) == (b : Int)) from by rw [Bool.eq_iff_iff, decide_eq_true_eq, word_inj ha hb]; simp; omega]
      simp)⟩
    refine ⟨(-1 : Int), ⟨.refl _, trivial⟩, rfl, trivial, ?_⟩
    refine ⟨fun h => ?_, fun h => absurd h (by show ¬ ((wordF2 (-1)).toList == noS.toList) = false; rw [ba_eq]; decide)⟩
    refine ⟨(44 : Int), ⟨.refl _, trivial⟩, rfl, trivial, ?_⟩
    refine ⟨fun h => ?_, fun h => absurd h (by show ¬ ((wordF2 44).toList == noS.toList) = false; rw [ba_eq]; decide)⟩
    refine ⟨(), trivial, rfl, trivial, ?_⟩
    exact ⟨.refl _, rfl⟩
end Go.Proofs.YtimhbimpaiiceaaDoor.Ax
/- Layer parse: words with blanks between them; ParseTypes. -/
set_option linter.unusedVariables false
set_option linter.unusedSimpArgs false
namespace Go.Proofs.YtimhbimpaiiceaaDoor.Ax
open Go Go.RowKit
theorem rep_long (l : List UInt8) (h : 20 < l.length) : nameF l = false := by
  unfold nameF
  rw [decide_eq_false (by omega)]; rfl
theorem dd_nz : ∀ (u : Nat), (Lib.decDigits u).getD 0 0 = 48 → u = 0 := by
  intro u
  induction u using Nat.strongRecOn with
  | ind u ih =>
    intro h
    rw [Lib.decDigits] at h
    split at h
    · rename_i hu
      have h : UInt8.ofNat (48 + u) = 48 := by simpa using h
      have h2 := congrArg UInt8.toNat h
      rw [UInt8.toNat_ofNat'] at h2
      have : (48 : UInt8).toNat = 48 := rfl
      omega
    · rename_i hu
      obtain ⟨b, r, hb, -⟩ := dd_head (u / 10)
      have := ih (u / 10) (by omega) (by rw [hb] at h ⊢; simpa using h)
      omega
theorem dd_z48 : Lib.decDigits 0 = [48] := by rw [Lib.decDigits, dif_pos (by decide)]; rfl
def tlF (l : List UInt8) : List UInt8 := if l.getD 0 0 = 45 then l.drop 1 else l
theorem num_shape {l : List UInt8} {n : Int} (h : Lib.itoa n = l) (hr : inR n) : 1 ≤ (tlF l).length ∧ (tlF l).length ≤ 10 ∧ ((tlF l).getD 0 0 = 48 → l.length ≤ 1) ∧ ∀ b ∈ tlF l, isDig b = true := by
  have hr1 := hr.1
  have hr2 := hr.2
  unfold Lib.itoa at h
  split at h
  · rename_i hn
    subst h
    have e : tlF (45 :: Lib.decDigits n.natAbs) = Lib.decDigits n.natAbs := rfl
    rw [e]
    have h1 := nd_le (u := n.natAbs) (k := 10) (by omega) (by omega)
    obtain ⟨b, r, hb, -⟩ := dd_head n.natAbs
    refine ⟨by rw [hb]; simp, by rw [Lib.decDigits_length]; omega, fun c => ?_, dd_dig _⟩
    have := dd_nz _ c
    omega
  · rename_i hn
    subst h
    obtain ⟨b, r, hb, hd⟩ := dd_head n.toNat
    have e : tlF (Lib.decDigits n.toNat) = Lib.decDigits n.toNat := by
      unfold tlF
      rw [if_neg]
      rw [hb]
      intro c
      have c : b = 45 := c
      rw [c] at hd; exact absurd hd (by decide)
    rw [e]
    have h1 := nd_le (u := n.toNat) (k := 10) (by omega) (by omega)
    refine ⟨by rw [hb]; simp, by rw [Lib.decDigits_length]; omega, fun c => ?_, dd_dig _⟩
    have := dd_nz _ c
    rw [this, dd_z48]; decide
theorem num_bad {l : List UInt8} (h : (tlF l).length < 1 ∨ 10 < (tlF l).length ∨ ((tlF l).getD 0 0 = 48 ∧ 1 < l.length) ∨ ∃ j, j < (tlF l).length ∧ isDig ((tlF l).getD j 0) = false) : numF l = none := by
  rw [numF_none]
  rintro n ⟨h1, h2⟩
  obtain ⟨a, b, c, d⟩ := num_shape h1 h2
  rcases h with h | h | h | ⟨j, hj, h⟩
  · omega
  · omega
  · have := c h.1; omega
  · rw [d _ (by rw [List.getD, List.getElem?_eq_getElem hj]; exact List.getElem_mem hj)] at h; cases h
def sgF (l : List UInt8) (m : Nat) : Int := if (tlF l).length < l.length then -(m : Int) else m
theorem num_val {l : List UInt8} {m : Nat} (h1 : 1 ≤ (tlF l).length) (h2 : (tlF l).getD 0 0 = 48 → l.length ≤ 1) (hm : Lib.decFrom 0 (tlF l) = some m) : Lib.itoa (sgF l m) = l := by
  have hdd : Lib.decDigits m = tlF l := dd_of _ _ hm (by intro c; rw [c] at h1; simp at h1) (by
    by_cases c : (tlF l).getD 0 0 = 48
    · left; have := h2 c
      have : (tlF l).length ≤ l.length := by unfold tlF; split <;> simp
      omega
    · right; exact c)
  by_cases c : l.getD 0 0 = 45
  · cases l with
    | nil => cases c
    | cons b r =>
      have hb : b = 45 := c
      subst hb
      have ht : tlF (45 :: r) = r := rfl
      rw [ht] at hdd h1 h2
      have hs : sgF (45 :: r) m = -(m : Int) := by unfold sgF; rw [ht, if_pos (by simp)]
      have hm0 : 0 < m := by
        rcases Nat.eq_zero_or_pos m with z | z
        · subst z
          have : r.getD 0 0 = 48 := by rw [← hdd, dd_z48]; rfl
          have := h2 this
          simp at this; subst this; simp at h1
        · exact z
      rw [hs]; unfold Lib.itoa
      rw [if_pos (by omega), show (-(m : Int)).natAbs = m by omega, hdd]
  · have ht : tlF l = l := if_neg c
    rw [ht] at hdd
    have hs : sgF l m = (m : Int) := by unfold sgF; rw [ht, if_neg (by omega)]
    rw [hs]; unfold Lib.itoa
    rw [if_neg (by omega), Int.toNat_natCast, hdd]
theorem num_yes {l : List UInt8} {m : Nat} (h1 : 1 ≤ (tlF l).length) (h2 : (tlF l).getD 0 0 = 48 → l.length ≤ 1) (hm : Lib.decFrom 0 (tlF l) = some m) (hr : inR (sgF l m)) : numF l = some (sgF l m) := (numF_iff _ _).2 ⟨num_val h1 h2 hm, hr⟩
theorem num_out {l : List UInt8} {m : Nat} (h1 : 1 ≤ (tlF l).length) (h2 : (tlF l).getD 0 0 = 48 → l.length ≤ 1) (hm : Lib.decFrom 0 (tlF l) = some m) (hr : ¬ inR (sgF l m)) : numF l = none := by
  rw [numF_none]
  rintro n ⟨a, b⟩
  rw [← num_val h1 h2 hm] at a
  rw [itoa_inj a] at b
  exact hr b
theorem dec_step {t : List UInt8} {i m : Nat} (h : Lib.decFrom 0 (t.take i) = some m) (hi : i < t.length) (hd : isDig (t.getD i 0) = true) : Lib.decFrom 0 (t.take (i + 1)) = some (m * 10 + ((t.getD i 0).toNat - 48)) := by
  rw [takeT t 0 i hi, decFrom_append _ _ _ _ h]
  have hd : 48 ≤ (t.getD i 0).toNat ∧ (t.getD i 0).toNat ≤ 57 := by simpa [isDig] using hd
  have e : Lib.digitVal (t.getD i 0) = some ((t.getD i 0).toNat - 48) := by
    have := dig_ofNat (d := (t.getD i 0).toNat - 48) (by omega)
    rw [← this]; congr 1
    apply UInt8.toNat_inj.1
    rw [UInt8.toNat_ofNat']; omega
  simp only [Lib.decFrom, e]
theorem by_at (l : List UInt8) (i : Nat) : byteAt (⟨l.toArray⟩ : ByteArray) i = ((l.getD i 0).toNat : Int) := by simp [byteAt]
theorem name_bad {l : List UInt8} {i : Nat} (h : i < l.length) (h1 : isLet (l.getD i 0) = false) (h2 : isDig (l.getD i 0) = false) : nameF l = false := by
  have : l.all isAl = false := by
    rw [Bool.eq_false_iff]
    intro c
    have := (all_at isAl l).1 c i h
    rw [isAl, h1, h2] at this
    cases this
  simp [nameF, this]
set_option maxRecDepth 100000 in
theorem rname_ok : CtrSound Tryd.prog 22 nameC :=
  ctr_of_ax (env_ok tys_ok (eqs := []) trivial (cs := [(37, byteB isLet), (38, byteB isDig)]) ⟨rletter_ok, rdigit_ok, trivial⟩) mixed _ Tryd.func22 (by kernel_rfl) rfl (fun _ _ => Nat.le_of_ble_eq_true rfl) fun (l : List UInt8) id hd => by
    have hd : l.length ≤ 4611686018427387904 := hd
    have hz := size_txt l
    have ha := at_txt l
    have no1 : l.length < 1 → nameF l = false := fun h => by unfold nameF; rw [decide_eq_false (by omega)]; rfl
    have no3 : isLet (l.getD 0 0) = false → nameF l = false := fun h => by simp only [nameF, h]; simp
    refine ⟨fun h => ?_, fun h => ?_⟩
    · exact ⟨.bff (no1 (by have h : decide (((⟨l.toArray⟩ : ByteArray).size : Int) < 1) = true := h
                           have := of_decide_eq_true h; omega)), rfl⟩
    have hpos : 0 < l.length := by
      have h : decide (((⟨l.toArray⟩ : ByteArray).size : Int) < 1) = false := h
      have := of_decide_eq_false h; omega
    refine ⟨fun h => ?_, fun h => ?_⟩
    · exact ⟨.bff (rep_long l (by have h : decide (((⟨l.toArray⟩ : ByteArray).size : Int) > 20) = true := h
                                  have := of_decide_eq_true h; omega)), rfl⟩
    have hle : l.length ≤ 20 := by
      have h : decide (((⟨l.toArray⟩ : ByteArray).size : Int) > 20) = false := h
      have := of_decide_eq_false h; omega
    refine ⟨⟨by omega, by rw [hz]; omega⟩, ?_⟩
    refine ⟨(txt l).data.getD 0 0, ⟨.refl _, trivial⟩, rfl, trivial, ?_⟩
    refine ⟨fun h => ?_, fun h => ?_⟩
    · rw [ha] at h; exact ⟨.bff (no3 (by simpa using h)), rfl⟩
    have hlet : isLet (l.getD 0 0) = true := by rw [ha] at h; simpa using h
    refine ⟨Nat, fun i => [(0, X l), (3, I i)], fun _ => [], fun i => 1 ≤ i ∧ i ≤ l.length ∧ ∀ j, j < i → isAl (l.getD j 0) = true, fun i => l.length - i, ⟨1, ⟨Nat.le_refl _, hpos, fun j hj => by rw [show j = 0 by omega, isAl, hlet]; rfl⟩, ⟨⟨rfl, rfl⟩, .refl _, .refl _, trivial⟩⟩, fun (i : Nat) hi => ?_⟩
    have hil : i ≤ l.length := hi.2.1
    have hn := hi.2.2
    have hwj : IntKind.i64.wrap ((i : Int) + 1) = ((i + 1 : Nat) : Int) := by rw [wrap_eq _ (by omega) (by omega)]; omega
    refine ⟨fun h => ?_, fun h => ?_⟩
    · have hlt : i < l.length := by
        have h : decide ((i : Int) < ((⟨l.toArray⟩ : ByteArray).size : Int)) = true := h
        have := of_decide_eq_true h; omega
      have nb : ∀ {f : UInt8 → Bool}, (!f ((txt l).data.getD i 0)) = true → f (l.getD i 0) = false := fun h => by rw [ha] at h; simpa using h
      have yb : ∀ {f : UInt8 → Bool}, (!f ((txt l).data.getD i 0)) = false → f (l.getD i 0) = true := fun h => by rw [ha] at h; simpa using h
      have nx : ∀ b, isAl (l.getD i 0) = b → b = true → ∀ j, j < i + 1 → isAl (l.getD j 0) = true := fun b hb hb2 j hj => by
        rcases Nat.lt_succ_iff_lt_or_eq.1 hj with q | rfl
        · exact hn j q
        · rw [hb, hb2]
      refine ⟨⟨by omega, by rw [hz]; omega⟩, ?_⟩
      refine ⟨(txt l).data.getD i 0, ⟨.refl _, trivial⟩, rfl, trivial, ?_⟩
      refine ⟨fun h => ?_, fun h => ?_⟩
      · refine ⟨⟨by omega, by rw [hz]; omega⟩, ?_⟩
        refine ⟨(txt l).data.getD i 0, ⟨.refl _, trivial⟩, rfl, trivial, ?_⟩
        refine ⟨fun h2 => ?_, fun h2 => ?_⟩
        · exact ⟨.bff (name_bad hlt (nb h) (nb h2)), rfl⟩
        · exact ⟨i + 1, ⟨by omega, hlt, nx _ rfl (by simp only [isAl, yb h2, Bool.or_true])⟩, by show l.length - (i + 1) < l.length - i; omega, ⟨rfl, rfl⟩, .refl _, .int hwj, trivial⟩
      · exact ⟨i + 1, ⟨by omega, hlt, nx _ rfl (by simp only [isAl, yb h, Bool.true_or])⟩, by show l.length - (i + 1) < l.length - i; omega, ⟨rfl, rfl⟩, .refl _, .int hwj, trivial⟩
    · have hie : i = l.length := by
        have h : decide ((i : Int) < ((⟨l.toArray⟩ : ByteArray).size : Int)) = false := h
        have := of_decide_eq_false h; omega
      exact ⟨.btt (by subst hie; simp only [nameF, hlet, (all_at isAl l).2 hn]; simp; omega), rfl⟩
/-! ### Words, a blank between them -/
def joinB : List ByteArray → List UInt8
  | [] => []
  | [w] => w.data.toList
  | w :: v :: r => w.data.toList ++ 32 :: joinB (v :: r)
theorem joinB_app : ∀ (a b : List ByteArray), a ≠ [] → b ≠ [] → joinB (a ++ b) = joinB a ++ 32 :: joinB b
  | [], _, h, _ => absurd rfl h
  | [w], [], _, h => absurd rfl h
  | [w], v :: r, _, _ => rfl
  | w :: x :: a, b, _, hb => by
    show w.data.toList ++ 32 :: joinB (x :: a ++ b) = _
    rw [joinB_app (x :: a) b (by simp) hb]
    simp [joinB]
theorem scan_joinB : ∀ (ws : List ByteArray) (i : Nat), (∀ w ∈ ws, tokB w = true) → ∃ l, scanI i (joinB ws) = (l, none) ∧ l.map s3 = tks ws
  | [], i, _ => ⟨[], scanI_nil i, rfl⟩
  | [w], i, h => by
    refine ⟨[setAt (tokenF w.data.toList).1 i], ?_, rfl⟩
    have := scan_word i (w := w.data.toList) (r := []) (h w (by simp)) (.inl rfl)
    rw [List.append_nil, scanI_nil] at this
    exact this
  | w :: v :: r, i, h => by
    obtain ⟨l, h1, h2⟩ := scan_joinB (v :: r) (i + w.data.toList.length + 1) (fun x hx => h x (by simp [hx]))
    refine ⟨setAt (tokenF w.data.toList).1 i :: l, ?_, ?_⟩
    · show scanI i (w.data.toList ++ 32 :: joinB (v :: r)) = _
      rw [scan_word i (w := w.data.toList) (r := 32 :: joinB (v :: r)) (h w (by simp)) (.inr (show isAl 32 = false by decide))]
      have := scan_blanks (i + w.data.toList.length) [32] (joinB (v :: r)) (by decide)
      rw [show (32 : UInt8) :: joinB (v :: r) = [32] ++ joinB (v :: r) from rfl, this]
      simp only [List.length_cons, List.length_nil]
      rw [h1]
    · rw [List.map_cons, h2]; rfl
theorem parse_toks {b : List UInt8} {p : List Cls} {l : List Tok} (h : prgOk p = true) (h1 : scanF b = (l, 0, 0)) (h2 : l.map s3 = tks (p.flatMap wordsC)) : parseF b = (p, 0, 0) := by
  obtain ⟨h3, h4⟩ := prg_parts h
  have hat : At (parse0 b) (tks (p.flatMap wordsC)) := ⟨rfl, by show ((scanF b).1.drop 0).map s3 = _; rw [h1]; exact h2⟩
  have hlen := at_len hat
  have hfl := flat_len wordsC p (fun x _ => by simp [wordsC])
  have hL : (parse0 b).L.length - (parse0 b).i = (scanF b).1.length := by simp [parse0]
  rw [hL] at hlen
  simp only [List.length_map] at hlen
  have := at_prgL p ((scanF b).1.length + 2) (parse0 b) [] h4 (by simpa using h3) (by omega) hat
  unfold parseF
  rw [if_pos (by rw [h1]), if_pos this.2, this.1]
  rfl
theorem parse_joinB {p : List Cls} (h : prgOk p = true) (hl : (joinB (p.flatMap wordsC)).length ≤ 6000) : parseF (joinB (p.flatMap wordsC)) = (p, 0, 0) := by
  obtain ⟨l, h1, h2⟩ := scan_joinB (p.flatMap wordsC) 0 (Toks.flat fun c hc => cls_tok ((prg_parts h).2 c hc))
  refine parse_toks h (l := l) ?_ h2
  unfold scanF
  rw [if_neg (by omega), h1]
/-! ### What the statement looks at -/
def rkeptC : Ctr := { A := ByteArray, enc := fun s => [S s], dom := fun _ => True, res := fun s _ => B (Lib.containsS keptL s) }
set_option maxRecDepth 100000 in
theorem rkept_ok : CtrSound Tryd.prog 23 rkeptC :=
  ctr_of_ax (env_ok tys_ok (eqs := []) trivial (cs := []) trivial) mixed _ Tryd.func23 (by kernel_rfl) rfl (fun _ _ => Nat.le_of_ble_eq_true rfl) fun (s : ByteArray) id _ => by
    have hl : keptL.length = 12 := by decide
    refine ⟨ByteArray, strC, noS, keptL, ⟨rfl, fun _ => rfl⟩, ⟨.refl _, .refl _, .refl _, .refl _, .refl _, .refl _, .refl _, .refl _, .refl _, .refl _, .refl _, .refl _, trivial⟩, rfl, ?_⟩
    refine ⟨Nat, fun i => [(0, S s), (3, .own ByteArray 1 strC noS keptL 5), (4, I i)], fun _ => [], fun i => i ≤ keptL.length ∧ ∀ j, j < i → keptL.getD j noS ≠ s, fun i => keptL.length - i,
      ⟨0, ⟨Nat.zero_le _, fun j hj => by omega⟩, ⟨⟨rfl, rfl⟩, .refl _, .refl _, .refl _, trivial⟩⟩, fun (i : Nat) hi => ?_⟩
    have hil := hi.1
    have hwj : IntKind.i64.wrap ((i : Int) + 1) = ((i + 1 : Nat) : Int) := by rw [wrap_eq _ (by omega) (by omega)]; omega
    refine ⟨fun h => ?_, fun h => ?_⟩
    · have hlt : i < keptL.length := dlt h
      refine ⟨(show 0 ≤ (i : Int) ∧ (i : Int) < ((keptL.length : Nat) : Int) by omega), ?_⟩
      refine ⟨fun h => ?_, fun h => ?_⟩
      · have h : keptL.getD i noS = s := baT h
        exact ⟨.btt ((Lib.containsS_iff _ _).2 (by rw [← h]; exact getT_mem _ _ _ hlt)), rfl⟩
      · have h : keptL.getD i noS ≠ s := baF h
        exact ⟨i + 1, ⟨hlt, fun j hj => by rcases Nat.lt_succ_iff_lt_or_eq.1 hj with q | rfl; exact hi.2 j q; exact h⟩, (show keptL.length - (i + 1) < keptL.length - i by omega), ⟨rfl, rfl⟩, .refl _, .refl _, .int hwj, trivial⟩
    · have hge : i = keptL.length := Nat.le_antisymm hil (dge h)
      have hno : Lib.containsS keptL s = false := by
        rw [Bool.eq_false_iff]
        intro c
        obtain ⟨j, hj, e⟩ := List.mem_iff_getElem.1 ((Lib.containsS_iff _ _).1 c)
        exact hi.2 j (by omega) (by simp [List.getD, hj, e])
      exact ⟨.bff hno, rfl⟩
theorem ty_eq : EqSound Tryd.prog 50 (flatC Ty tyC) :=
  eq_flat [.int .i64, .str] _ tyC Tryd.underlying50 (by kernel_rfl) (by kernel_rfl) (by kernel_rfl) (fun _ => rfl)
theorem ty_dec (a b : Ty) : cellsEq (tyC a) (tyC b) = decide (a = b) := by
  obtain ⟨a1, a2⟩ := a
  obtain ⟨b1, b2⟩ := b
  rw [Bool.eq_iff_iff]
  simp [tyC, cellsEq, cellEq, ba_eq]
set_option maxRecDepth 100000 in
theorem kTypes_ok : CtrSound Tryd.prog 24 (keepR Ty 2 tyC ty0) :=
  ctr_of_ax (env_ok tys_ok (eqs := [(50, flatC Ty tyC)]) ⟨ty_eq, trivial⟩ (cs := []) trivial) mixed _ Tryd.func24 (by kernel_rfl) rfl (fun _ _ => Nat.le_of_ble_eq_true rfl) fun ((k, l) : List Ty × List Ty) id hd => by
    have hd : k.length ≤ 4611686018427387904 := hd
    have no : ¬ (k = l) → Sub .ff (B (decide (k = l))) := fun h => .bff (decide_eq_false h)
    refine ⟨fun h2 => ?_, fun h2 => ?_⟩
    · exact ⟨no fun q => lneT h2 (by rw [q]), rfl⟩
    have hl : k.length = l.length := lneF h2
    refine ⟨Nat, fun i => [(0, .row Ty 2 tyC ty0 k), (1, .row Ty 2 tyC ty0 l), (5, I i)], fun _ => [], fun i => i ≤ k.length ∧ ∀ j, j < i → k.getD j ty0 = l.getD j ty0, fun i => k.length - i,
      ⟨0, ⟨Nat.zero_le _, fun j hj => by omega⟩, ⟨⟨rfl, rfl⟩, .refl _, .refl _, .refl _, trivial⟩⟩, fun (i : Nat) hi => ?_⟩
    have hil := hi.1
    have hwj : IntKind.i64.wrap ((i : Int) + 1) = ((i + 1 : Nat) : Int) := by rw [wrap_eq _ (by omega) (by omega)]; omega
    refine ⟨fun h => ?_, fun h => ?_⟩
    · have hlt : i < k.length := dlt h
      refine ⟨by kernel_rfl, ?_⟩
      refine ⟨⟨by omega, by omega⟩, ⟨by omega, by omega⟩, ?_⟩
      refine ⟨k.getD i ty0, l.getD i ty0, ⟨.refl _, .refl _, trivial⟩, ⟨.refl _, .refl _, trivial⟩, fun h => ?_, fun h => ?_⟩
      · have h : (!cellsEq (tyC (k.getD i ty0)) (tyC (l.getD i ty0))) = true := h
        rw [ty_dec] at h
        exact ⟨no fun q => by rw [q] at h; simp at h, rfl⟩
      · have h : (!cellsEq (tyC (k.getD i ty0)) (tyC (l.getD i ty0))) = false := h
        rw [ty_dec] at h
        have he : k.getD i ty0 = l.getD i ty0 := by simpa using h
        exact ⟨i + 1, ⟨hlt, fun j hj => by rcases Nat.lt_succ_iff_lt_or_eq.1 hj with q | rfl; exact hi.2 j q; exact he⟩, by show k.length - (i + 1) < k.length - i; omega, ⟨rfl, rfl⟩, .refl _, .refl _, .int hwj, trivial⟩
    · have hge : i = k.length := Nat.le_antisymm hil (dge h)
      exact ⟨.btt (decide_eq_true (ext_getD ty0 hl fun j (hj : j < k.length) => hi.2 j (hge ▸ hj))), rfl⟩
/-! ### ParseTypes -/
def tText (s : ByteArray) : ByteArray := (((((((⟨#[105, 110, 116, 101, 114, 102, 97, 99, 101, 32, 65, 32, 123, 32, 115, 116, 97, 116, 105, 99, 32, 102, 32, 58, 32]⟩ ++ s) ++ ⟨#[32, 59, 32, 109, 101, 116, 104, 111, 100, 32, 109, 32, 40, 32]⟩) ++ s) ++ ⟨#[32, 44, 32]⟩) ++ s) ++ ⟨#[32, 41, 32]⟩) ++ s) ++ ⟨#[32, 59, 32, 125]⟩
def tWord (nm : ByteArray) : List ByteArray := [⟨#[118, 111, 105, 100]⟩, ⟨#[105, 110, 116]⟩, nm, ⟨#[105, 110, 116, 32, 91, 32, 93]⟩, nm ++ ⟨#[32, 91, 32, 93]⟩]
def tTy (nm : ByteArray) : List Ty := [(1, noS), (2, noS), (3, nm), (4, noS), (5, nm)]
def tCls (t : Ty) : Cls := ⟨⟨#[65]⟩, true, noS, [], [⟨⟨#[102]⟩, t, true⟩], [⟨⟨#[109]⟩, false, true, [t, t], t, 0, [], []⟩]⟩
theorem tCls_ok {t : Ty} (h : tyOk t = true) : prgOk [tCls t] = true := by
  have a : freshW ⟨#[65]⟩ = true := by decide +kernel
  have b : freshW ⟨#[102]⟩ = true := by decide +kernel
  have c : freshW ⟨#[109]⟩ = true := by decide +kernel
  have d : fldOk ⟨⟨#[102]⟩, t, true⟩ = true := by unfold fldOk; rw [b, h]; rfl
  have e : methOk ⟨⟨#[109]⟩, false, true, [t, t], t, 0, [], []⟩ = true := by
    unfold methOk
    simp only [c, h, List.all_cons, List.all_nil, Bool.and_self]
    rfl
  have f : clsOk (tCls t) = true := by
    unfold clsOk tCls
    simp only [a, d, e, List.all_cons, List.all_nil, Bool.and_self]
    rfl
  unfold prgOk
  simp only [f, List.all_cons, List.all_nil, Bool.and_self]
  rfl
theorem tText_data (s : ByteArray) : (tText s).data.toList = [105, 110, 116, 101, 114, 102, 97, 99, 101, 32, 65, 32, 123, 32, 115, 116, 97, 116, 105, 99, 32, 102, 32, 58, 32] ++ (s.data.toList ++ ([32, 59, 32, 109, 101, 116, 104, 111, 100, 32, 109, 32, 40, 32] ++ (s.data.toList ++ ([32, 44, 32] ++ (s.data.toList ++ ([32, 41, 32] ++ (s.data.toList ++ [32, 59, 32, 125]))))))) := by
  simp [tText, ByteArray.data_append]
theorem tWords (t : Ty) : wordsC (tCls t) = [wInterface, ⟨#[65]⟩, wLc, wStatic, ⟨#[102]⟩, wColon] ++ (kindW t ++ ([wSemi, wMethod, ⟨#[109]⟩, wLp] ++ (kindW t ++ ([wComma] ++ (kindW t ++ ([wRp] ++ (kindW t ++ [wSemi, wRc]))))))) := by
  simp [wordsC, tCls, listF, fldF, doesF, paramsF, noS]
theorem tJoin (t : Ty) (hk : kindW t ≠ []) : joinB (wordsC (tCls t)) = [105, 110, 116, 101, 114, 102, 97, 99, 101, 32, 65, 32, 123, 32, 115, 116, 97, 116, 105, 99, 32, 102, 32, 58, 32] ++ (joinB (kindW t) ++ ([32, 59, 32, 109, 101, 116, 104, 111, 100, 32, 109, 32, 40, 32] ++ (joinB (kindW t) ++ ([32, 44, 32] ++ (joinB (kindW t) ++ ([32, 41, 32] ++ (joinB (kindW t) ++ [32, 59, 32, 125]))))))) := by
  rw [tWords, joinB_app _ _ (by simp) (by simp [hk]), joinB_app _ _ hk (by simp), joinB_app _ _ (by simp) (by simp [hk]), joinB_app _ _ hk (by simp), joinB_app _ _ (by simp) (by simp [hk]), joinB_app _ _ hk (by simp), joinB_app _ _ (by simp) (by simp [hk]), joinB_app _ _ hk (by simp)]
  simp [joinB, wInterface, wLc, wStatic, wColon, wSemi, wMethod, wLp, wComma, wRp, wRc]
theorem tFacts (nm : ByteArray) (hn : nameF nm.data.toList = true) (hk : Lib.containsS keptL nm = false) : ∀ a, a < 5 → tyOk ((tTy nm).getD a ty0) = true ∧ kindW ((tTy nm).getD a ty0) ≠ [] ∧ joinB (kindW ((tTy nm).getD a ty0)) = ((tWord nm).getD a noS).data.toList ∧ ((tWord nm).getD a noS).size ≤ 30 := by
  have hl := name_len hn
  have hz : nm.size ≤ 20 := by rw [← ba_len]; exact hl
  have hf : freshF nm.data.toList = true := by
    unfold freshF keptF
    rw [hn]
    rw [show Lib.containsS keptL ⟨nm.data.toList.toArray⟩ = false from hk]; rfl
  intro a ha
  match a, ha with
  | 0, _ => exact ⟨(show tyOk (1, noS) = true by decide +kernel), (show kindW (1, noS) ≠ [] by decide), rfl, (show (⟨#[118, 111, 105, 100]⟩ : ByteArray).size ≤ 30 by decide)⟩
  | 1, _ => exact ⟨(show tyOk (2, noS) = true by decide +kernel), (show kindW (2, noS) ≠ [] by decide), rfl, (show (⟨#[105, 110, 116]⟩ : ByteArray).size ≤ 30 by decide)⟩
  | 2, _ => exact ⟨by show typedF 3 nm.data.toList = true; unfold typedF; rw [if_neg (by decide), if_pos (by decide)]; exact hf, by show kindF 3 nm ≠ []; simp [kindF], by show joinB (kindF 3 nm) = _; simp [kindF, joinB]; rfl, by show nm.size ≤ 30; omega⟩
  | 3, _ => exact ⟨(show tyOk (4, noS) = true by decide +kernel), (show kindW (4, noS) ≠ [] by decide), (show joinB (kindW (4, noS)) = (⟨#[105, 110, 116, 32, 91, 32, 93]⟩ : ByteArray).data.toList by decide), (show (⟨#[105, 110, 116, 32, 91, 32, 93]⟩ : ByteArray).size ≤ 30 by decide)⟩
  | 4, _ => exact ⟨by show typedF 5 nm.data.toList = true; unfold typedF; rw [if_neg (by decide), if_pos (by decide)]; exact hf, by show kindF 5 nm ≠ []; simp [kindF], by show joinB (kindF 5 nm) = (nm ++ ⟨#[32, 91, 32, 93]⟩).data.toList; simp [kindF, joinB, ByteArray.data_append], by show (nm ++ ⟨#[32, 91, 32, 93]⟩).size ≤ 30; rw [ByteArray.size_append, show (⟨#[32, 91, 32, 93]⟩ : ByteArray).size = 4 from rfl]; omega⟩
theorem tParse (nm : ByteArray) (hn : nameF nm.data.toList = true) (hk : Lib.containsS keptL nm = false) {a : Nat} (ha : a < 5) : parseF (tText ((tWord nm).getD a noS)).data.toList = ([tCls ((tTy nm).getD a ty0)], 0, 0) := by
  obtain ⟨h1, h2, h3, h4⟩ := tFacts nm hn hk a ha
  have e : (tText ((tWord nm).getD a noS)).data.toList = joinB ([tCls ((tTy nm).getD a ty0)].flatMap wordsC) := by
    rw [List.flatMap_cons, List.flatMap_nil, List.append_nil, tJoin _ h2, tText_data, h3]
  rw [e]
  refine parse_joinB (tCls_ok h1) ?_
  rw [← e, tText_data]
  have h5 : ((tWord nm).getD a noS).data.toList.length ≤ 30 := by
    rw [ba_len]; exact h4
  simp only [List.length_append, List.length_cons, List.length_nil]
  omega
def ParseTypes : Ctr := { A := Int × ByteArray, enc := fun x => [I x.1, S x.2], dom := fun x => sh3.ok x.1 ∧ sh9.ok x.2, res := fun _ _ => .tt, gl := tabP }
set_option maxRecDepth 100000 in
set_option maxHeartbeats 4000000 in
theorem ParseTypes_ok : CtrSound Tryd.prog 8 ParseTypes :=
  ctr_of_ax (env_okB tys_ok (eqs := [(50, flatC Ty tyC)]) ⟨ty_eq, trivial⟩ (cs := [(16, parseC), (22, nameC), (23, rkeptC), (24, keepR Ty 2 tyC ty0), (15, lC)]) ⟨parse_ok, rname_ok, rkept_ok, kTypes_ok, wakesP_ok, trivial⟩ (bs := []) trivial (gl := tabP)) mixed _ Tryd.func8 (by kernel_rfl) rfl (fun _ _ => Nat.le_of_ble_eq_true rfl) fun ((kk, nm) : Int × ByteArray) id hd => by
    have hsz : nm.size ≤ 140737488351232 := hd.2
    have hln : nm.data.toList.length ≤ 4611686018427387904 := by rw [ba_len]; omega
    refine ⟨nm.data.toList, ⟨.refl _, trivial⟩, rfl, hln, ?_⟩
    refine ⟨fun h => ⟨.refl _, rfl⟩, fun h => ?_⟩
    have hn : nameF nm.data.toList = true := notF h
    refine ⟨nm, ⟨.refl _, trivial⟩, rfl, trivial, ?_⟩
    refine ⟨fun h => ⟨.refl _, rfl⟩, fun h => ?_⟩
    have hk : Lib.containsS keptL nm = false := h
    obtain ⟨a, ha, ea⟩ := umodC kk 5 (by decide) (by decide)
    have ea : IntKind.i64.wrap ((IntKind.u64.wrap kk).tmod 5) = (a : Int) := ea
    have hs0 : ((tWord nm).getD (IntKind.i64.wrap ((IntKind.u64.wrap kk).tmod 5)).toNat noS) = ((tWord nm).getD a noS) := by rw [ea]; rfl
    have ht0 : ((tTy nm).getD (IntKind.i64.wrap ((IntKind.u64.wrap kk).tmod 5)).toNat ty0) = ((tTy nm).getD a ty0) := by rw [ea]; rfl
    have hp := tParse nm hn hk ha
    obtain ⟨f1, f2, f3, f4⟩ := tFacts nm hn hk a ha
    have f4 : ((tWord nm).getD (IntKind.i64.wrap ((IntKind.u64.wrap kk).tmod 5)).toNat noS).size ≤ 30 := by rw [hs0]; exact f4
    have hnl : nm.size ≤ 20 := by rw [← ba_len]; exact name_len hn
    refine ⟨by decide, ?_⟩
    refine ⟨(show nm.size + (⟨#[32, 91, 32, 93]⟩ : ByteArray).size < 4611686018427387904 by rw [show (⟨#[32, 91, 32, 93]⟩ : ByteArray).size = 4 from rfl]; omega), ?_⟩
    refine ⟨ByteArray, strC, noS, tWord nm, ⟨rfl, fun _ => rfl⟩, ⟨.refl _, .refl _, .refl _, .refl _, .refl _, trivial⟩, rfl, ?_⟩
    refine ⟨(show 0 ≤ IntKind.i64.wrap ((IntKind.u64.wrap kk).tmod 5) ∧ IntKind.i64.wrap ((IntKind.u64.wrap kk).tmod 5) < ((5 : Nat) : Int) by rw [ea]; omega), ?_⟩
    refine ⟨Ty, tyC, ty0, tTy nm, ⟨rfl, fun _ => rfl⟩, ⟨.refl _, .refl _, .refl _, .refl _, .refl _, .refl _, .refl _, .refl _, .refl _, .refl _, trivial⟩, rfl, ?_⟩
    refine ⟨(show 0 ≤ IntKind.i64.wrap ((IntKind.u64.wrap kk).tmod 5) ∧ IntKind.i64.wrap ((IntKind.u64.wrap kk).tmod 5) < ((5 : Nat) : Int) by rw [ea]; omega), ?_⟩
    have z0 : (⟨#[105, 110, 116, 101, 114, 102, 97, 99, 101, 32, 65, 32, 123, 32, 115, 116, 97, 116, 105, 99, 32, 102, 32, 58, 32]⟩ : ByteArray).size = 25 := rfl
    have z1 : (⟨#[32, 59, 32, 109, 101, 116, 104, 111, 100, 32, 109, 32, 40, 32]⟩ : ByteArray).size = 14 := rfl
    have z2 : (⟨#[32, 44, 32]⟩ : ByteArray).size = 3 := rfl
    have z3 : (⟨#[32, 41, 32]⟩ : ByteArray).size = 3 := rfl
    have z4 : (⟨#[32, 59, 32, 125]⟩ : ByteArray).size = 4 := rfl
    refine ⟨(show (⟨#[105, 110, 116, 101, 114, 102, 97, 99, 101, 32, 65, 32, 123, 32, 115, 116, 97, 116, 105, 99, 32, 102, 32, 58, 32]⟩ : ByteArray).size + ((tWord nm).getD (IntKind.i64.wrap ((IntKind.u64.wrap kk).tmod 5)).toNat noS).size < 4611686018427387904 by simp only [ByteArray.size_append, z0, z1, z2, z3, z4]; omega), ?_⟩
    refine ⟨(show ((⟨#[105, 110, 116, 101, 114, 102, 97, 99, 101, 32, 65, 32, 123, 32, 115, 116, 97, 116, 105, 99, 32, 102, 32, 58, 32]⟩ : ByteArray) ++ ((tWord nm).getD (IntKind.i64.wrap ((IntKind.u64.wrap kk).tmod 5)).toNat noS)).size + (⟨#[32, 59, 32, 109, 101, 116, 104, 111, 100, 32, 109, 32, 40, 32]⟩ : ByteArray).size < 4611686018427387904 by simp only [ByteArray.size_append, z0, z1, z2, z3, z4]; omega), ?_⟩
    refine ⟨(show (((⟨#[105, 110, 116, 101, 114, 102, 97, 99, 101, 32, 65, 32, 123, 32, 115, 116, 97, 116, 105, 99, 32, 102, 32, 58, 32]⟩ : ByteArray) ++ ((tWord nm).getD (IntKind.i64.wrap ((IntKind.u64.wrap kk).tmod 5)).toNat noS)) ++ ⟨#[32, 59, 32, 109, 101, 116, 104, 111, 100, 32, 109, 32, 40, 32]⟩).size + ((tWord nm).getD (IntKind.i64.wrap ((IntKind.u64.wrap kk).tmod 5)).toNat noS).size < 4611686018427387904 by simp only [ByteArray.size_append, z0, z1, z2, z3, z4]; omega), ?_⟩
    refine ⟨(show ((((⟨#[105, 110, 116, 101, 114, 102, 97, 99, 101, 32, 65, 32, 123, 32, 115, 116, 97, 116, 105, 99, 32, 102, 32, 58, 32]⟩ : ByteArray) ++ ((tWord nm).getD (IntKind.i64.wrap ((IntKind.u64.wrap kk).tmod 5)).toNat noS)) ++ ⟨#[32, 59, 32, 109, 101, 116, 104, 111, 100, 32, 109, 32, 40, 32]⟩) ++ ((tWord nm).getD (IntKind.i64.wrap ((IntKind.u64.wrap kk).tmod 5)).toNat noS)).size + (⟨#[32, 44, 32]⟩ : ByteArray).size < 4611686018427387904 by simp only [ByteArray.size_append, z0, z1, z2, z3, z4]; omega), ?_⟩
    refine ⟨(show (((((⟨#[105, 110, 116, 101, 114, 102, 97, 99, 101, 32, 65, 32, 123, 32, 115, 116, 97, 116, 105, 99, 32, 102, 32, 58, 32]⟩ : ByteArray) ++ ((tWord nm).getD (IntKind.i64.wrap ((IntKind.u64.wrap kk).tmod 5)).toNat noS)) ++ ⟨#[32, 59, 32, 109, 101, 116, 104, 111, 100, 32, 109, 32, 40, 32]⟩) ++ ((tWord nm).getD (IntKind.i64.wrap ((IntKind.u64.wrap kk).tmod 5)).toNat noS)) ++ ⟨#[32, 44, 32]⟩).size + ((tWord nm).getD (IntKind.i64.wrap ((IntKind.u64.wrap kk).tmod 5)).toNat noS).size < 4611686018427387904 by simp only [ByteArray.size_append, z0, z1, z2, z3, z4]; omega), ?_⟩
    refine ⟨(show ((((((⟨#[105, 110, 116, 101, 114, 102, 97, 99, 101, 32, 65, 32, 123, 32, 115, 116, 97, 116, 105, 99, 32, 102, 32, 58, 32]⟩ : ByteArray) ++ ((tWord nm).getD (IntKind.i64.wrap ((IntKind.u64.wrap kk).tmod 5)).toNat noS)) ++ ⟨#[32, 59, 32, 109, 101, 116, 104, 111, 100, 32, 109, 32, 40, 32]⟩) ++ ((tWord nm).getD (IntKind.i64.wrap ((IntKind.u64.wrap kk).tmod 5)).toNat noS)) ++ ⟨#[32, 44, 32]⟩) ++ ((tWord nm).getD (IntKind.i64.wrap ((IntKind.u64.wrap kk).tmod 5)).toNat noS)).size + (⟨#[32, 41, 32]⟩ : ByteArray).size < 4611686018427387904 by simp only [ByteArray.size_append, z0, z1, z2, z3, z4]; omega), ?_⟩
    refine ⟨(show (((((((⟨#[105, 110, 116, 101, 114, 102, 97, 99, 101, 32, 65, 32, 123, 32, 115, 116, 97, 116, 105, 99, 32, 102, 32, 58, 32]⟩ : ByteArray) ++ ((tWord nm).getD (IntKind.i64.wrap ((IntKind.u64.wrap kk).tmod 5)).toNat noS)) ++ ⟨#[32, 59, 32, 109, 101, 116, 104, 111, 100, 32, 109, 32, 40, 32]⟩) ++ ((tWord nm).getD (IntKind.i64.wrap ((IntKind.u64.wrap kk).tmod 5)).toNat noS)) ++ ⟨#[32, 44, 32]⟩) ++ ((tWord nm).getD (IntKind.i64.wrap ((IntKind.u64.wrap kk).tmod 5)).toNat noS)) ++ ⟨#[32, 41, 32]⟩).size + ((tWord nm).getD (IntKind.i64.wrap ((IntKind.u64.wrap kk).tmod 5)).toNat noS).size < 4611686018427387904 by simp only [ByteArray.size_append, z0, z1, z2, z3, z4]; omega), ?_⟩
    refine ⟨(show ((((((((⟨#[105, 110, 116, 101, 114, 102, 97, 99, 101, 32, 65, 32, 123, 32, 115, 116, 97, 116, 105, 99, 32, 102, 32, 58, 32]⟩ : ByteArray) ++ ((tWord nm).getD (IntKind.i64.wrap ((IntKind.u64.wrap kk).tmod 5)).toNat noS)) ++ ⟨#[32, 59, 32, 109, 101, 116, 104, 111, 100, 32, 109, 32, 40, 32]⟩) ++ ((tWord nm).getD (IntKind.i64.wrap ((IntKind.u64.wrap kk).tmod 5)).toNat noS)) ++ ⟨#[32, 44, 32]⟩) ++ ((tWord nm).getD (IntKind.i64.wrap ((IntKind.u64.wrap kk).tmod 5)).toNat noS)) ++ ⟨#[32, 41, 32]⟩) ++ ((tWord nm).getD (IntKind.i64.wrap ((IntKind.u64.wrap kk).tmod 5)).toNat noS)).size + (⟨#[32, 59, 32, 125]⟩ : ByteArray).size < 4611686018427387904 by simp only [ByteArray.size_append, z0, z1, z2, z3, z4]; omega), ?_⟩
    refine ⟨(tText ((tWord nm).getD a noS)).data.toList, ⟨.rowEq (by rw [← hs0]; rfl), trivial⟩, rfl, ?_, ?_⟩
    · show (tText ((tWord nm).getD a noS)).data.toList.length ≤ 4611686018427387904
      rw [← hs0, tText_data]
      have h5 : ((tWord nm).getD (IntKind.i64.wrap ((IntKind.u64.wrap kk).tmod 5)).toNat noS).data.toList.length ≤ 30 := by
        rw [ba_len]; exact f4
      simp only [List.length_append, List.length_cons, List.length_nil]
      omega
    have a1 : (parseF (tText ((tWord nm).getD a noS)).data.toList).2.2 = 0 := by rw [hp]
    have a2 : (parseF (tText ((tWord nm).getD a noS)).data.toList).1.length = 1 := by rw [hp]; rfl
    have a3 : (parseF (tText ((tWord nm).getD a noS)).data.toList).1.getD 0 cls0 = tCls ((tTy nm).getD a ty0) := by rw [hp]; rfl
    have a4 : ((parseF (tText ((tWord nm).getD a noS)).data.toList).1.getD 0 cls0).fields.length = 1 := by rw [a3]; rfl
    have a5 : ((parseF (tText ((tWord nm).getD a noS)).data.toList).1.getD 0 cls0).methods.length = 1 := by rw [a3]; rfl
    have a6 : (((parseF (tText ((tWord nm).getD a noS)).data.toList).1.getD 0 cls0).fields.getD 0 fld0).type = ((tTy nm).getD a ty0) := by rw [a3]; rfl
    have a7 : ((parseF (tText ((tWord nm).getD a noS)).data.toList).1.getD 0 cls0).methods.getD 0 meth0 = ⟨⟨#[109]⟩, false, true, [((tTy nm).getD a ty0), ((tTy nm).getD a ty0)], ((tTy nm).getD a ty0), 0, [], []⟩ := by rw [a3]; rfl
    have a8 : ((parseF (tText ((tWord nm).getD a noS)).data.toList).1.getD 0 cls0).iface = true := by rw [a3]; rfl
    refine ⟨fun h => absurd h (by show ¬ ((parseF (tText ((tWord nm).getD a noS)).data.toList).2.2 != 0) = true; rw [a1]; decide), fun h => ?_⟩
    refine ⟨fun h => absurd h (by show ¬ (((parseF (tText ((tWord nm).getD a noS)).data.toList).1.length : Int) != 1) = true; rw [a2]; decide), fun h => ?_⟩
    refine ⟨(show (0 : Int) ≤ 0 ∧ (0 : Int) < ((parseF (tText ((tWord nm).getD a noS)).data.toList).1.length : Int) by rw [a2]; decide), ?_⟩
    refine ⟨fun h => absurd h (by show ¬ ((((parseF (tText ((tWord nm).getD a noS)).data.toList).1.getD 0 cls0).fields.length : Int) != 1) = true; rw [a4]; decide), fun h => ?_⟩
    refine ⟨(show (0 : Int) ≤ 0 ∧ (0 : Int) < ((parseF (tText ((tWord nm).getD a noS)).data.toList).1.length : Int) by rw [a2]; decide), ?_⟩
    refine ⟨fun h => absurd h (by show ¬ ((((parseF (tText ((tWord nm).getD a noS)).data.toList).1.getD 0 cls0).methods.length : Int) != 1) = true; rw [a5]; decide), fun h => ?_⟩
    refine ⟨(show (0 : Int) ≤ 0 ∧ (0 : Int) < ((parseF (tText ((tWord nm).getD a noS)).data.toList).1.length : Int) by rw [a2]; decide), ?_⟩
    refine ⟨(show (0 : Int) ≤ 0 ∧ (0 : Int) < ((((parseF (tText ((tWord nm).getD a noS)).data.toList).1.getD 0 cls0).methods.length : Nat) : Int) by rw [a5]; decide), ?_⟩
    refine ⟨by kernel_rfl, ?_⟩
    refine ⟨(show (0 : Int) ≤ 0 ∧ (0 : Int) < ((parseF (tText ((tWord nm).getD a noS)).data.toList).1.length : Int) by rw [a2]; decide), ?_⟩
    refine ⟨(show (0 : Int) ≤ 0 ∧ (0 : Int) < ((((parseF (tText ((tWord nm).getD a noS)).data.toList).1.getD 0 cls0).fields.length : Nat) : Int) by rw [a4]; decide), ?_⟩
    refine ⟨(((parseF (tText ((tWord nm).getD a noS)).data.toList).1.getD 0 cls0).fields.getD 0 fld0).type, ((tTy nm).getD a ty0), ⟨.refl _, .refl _, trivial⟩, ⟨.int (by rw [← ht0]), .str (by rw [← ht0]), trivial⟩, ?_⟩
    refine ⟨fun h => ?_, fun h => absurd h (by show ¬ (cellsEq (tyC (((parseF (tText ((tWord nm).getD a noS)).data.toList).1.getD 0 cls0).fields.getD 0 fld0).type) (tyC ((tTy nm).getD a ty0))) = false; rw [a6, ty_dec]; simp)⟩
    refine ⟨(((parseF (tText ((tWord nm).getD a noS)).data.toList).1.getD 0 cls0).methods.getD 0 meth0).ret, ((tTy nm).getD a ty0), ⟨.refl _, .refl _, trivial⟩, ⟨.int (by rw [← ht0]), .str (by rw [← ht0]), trivial⟩, ?_⟩
    refine ⟨fun h => ?_, fun h => absurd h (by show ¬ (cellsEq (tyC (((parseF (tText ((tWord nm).getD a noS)).data.toList).1.getD 0 cls0).methods.getD 0 meth0).ret) (tyC ((tTy nm).getD a ty0))) = false; rw [a7, ty_dec]; simp)⟩
    refine ⟨Ty, tyC, ty0, [((tTy nm).getD a ty0), ((tTy nm).getD a ty0)], ⟨rfl, fun _ => rfl⟩, ⟨.int (by rw [← ht0]), .str (by rw [← ht0]), .int (by rw [← ht0]), .str (by rw [← ht0]), trivial⟩, rfl, ?_⟩
    refine ⟨((((parseF (tText ((tWord nm).getD a noS)).data.toList).1.getD 0 cls0).methods.getD 0 meth0).params, [((tTy nm).getD a ty0), ((tTy nm).getD a ty0)]), ⟨.refl _, .own .., trivial⟩, rfl, (show (((parseF (tText ((tWord nm).getD a noS)).data.toList).1.getD 0 cls0).methods.getD 0 meth0).params.length ≤ 4611686018427387904 by rw [a7]; show 2 ≤ 4611686018427387904; decide), ?_⟩
    refine ⟨fun h => ?_, fun h => absurd h (by show ¬ (decide ((((parseF (tText ((tWord nm).getD a noS)).data.toList).1.getD 0 cls0).methods.getD 0 meth0).params = [((tTy nm).getD a ty0), ((tTy nm).getD a ty0)])) = false; rw [a7]; simp)⟩
    refine ⟨fun h => ?_, fun h => absurd h (by show ¬ ((((parseF (tText ((tWord nm).getD a noS)).data.toList).1.getD 0 cls0).methods.getD 0 meth0).abs) = false; rw [a7]; simp)⟩
    refine ⟨(show (0 : Int) ≤ 0 ∧ (0 : Int) < ((parseF (tText ((tWord nm).getD a noS)).data.toList).1.length : Int) by rw [a2]; decide), ?_⟩
    refine ⟨fun h => ?_, fun h => absurd h (by show ¬ (((parseF (tText ((tWord nm).getD a noS)).data.toList).1.getD 0 cls0).iface) = false; rw [a8]; decide)⟩
    refine ⟨(), trivial, rfl, trivial, ?_⟩
    exact ⟨.refl _, rfl⟩
end Go.Proofs.YtimhbimpaiiceaaDoor.Ax
/- Layer parse: programs compared. -/
set_option linter.unusedVariables false
set_option linter.unusedSimpArgs false
namespace Go.Proofs.YtimhbimpaiiceaaDoor.Ax
open Go Go.RowKit
theorem eq_step {P : Program} (w : World) (d : Nat) (f : Go.Field) (fs : List Go.Field) (xs ys : Array Value) (a b : Value) (e r : Bool) (hn : f.name ≠ "_") (px : (part f.type xs f.offset).run P w = .ok a w) (py : (part f.type ys f.offset).run P w = .ok b w)
    (he : (Op.equalIn (d + 1) f.type a b).run P w = .ok e w) (ih : (Op.eqFields (d + 1) xs ys fs).run P w = .ok r w) : (Op.eqFields (d + 1) xs ys (f :: fs)).run P w = .ok (e && r) w := by
  simp only [Op.eqFields]
  rw [if_pos hn]
  simp only [Sem.run_bind, px, py, he, Result.andThen_ok, Sem.run_ite]
  cases e with
  | true => simp only [Bool.not_true, Bool.false_eq_true, if_false, Bool.true_and]; exact ih
  | false => simp
theorem part_flat {P : Program} (w : World) (f : Go.Field) {dd : TypeDesc} (hdd : P.underlying f.type = some dd) (hag : isAggD dd = false) (xs : Array Value) (lx : f.offset < xs.size) : (part f.type xs f.offset).run P w = .ok (xs.getD f.offset undef) w := by
  simp only [part, Sem.run_bind, run_isAgg hdd, hag, Result.andThen_ok]
  simp [Array.getD, lx]
theorem part_sub {P : Program} (w : World) (f : Go.Field) {gs : Array Go.Field} {i : TypeInfo} (hu : P.underlying f.type = some (.struct gs)) (hi : P.info? f.type = some i) (xs : Array Value) : (part f.type xs f.offset).run P w = .ok (.agg (xs.extract f.offset (f.offset + i.size))) w := by
  simp only [part, Sem.run_bind, run_isAgg hu, show isAggD (.struct gs) = true from rfl, Result.andThen_ok]
  rw [if_pos True.intro, Sem.run_bind, run_size hi]
  rfl
theorem fld_shape {P : Program} {t : Nat} {f0 f1 f2 : Go.Field} {gs : Array Go.Field} {i : TypeInfo} (hu : P.underlying t = some (.struct #[f0, f1, f2])) (hp : P.stoodInHeld t = false) (hm : P.eqGuardType P.depth t = false)
    (n0 : f0.name ≠ "_" ∧ f0.offset = 0 ∧ P.underlying f0.type = some .string) (n1 : f1.name ≠ "_" ∧ f1.offset = 1 ∧ P.underlying f1.type = some (.struct gs)) (n2 : f2.name ≠ "_" ∧ f2.offset = 3 ∧ P.underlying f2.type = some .bool)
    (hi : P.info? f1.type = some i) (hz : i.size = 2) (hp1 : P.stoodInHeld f1.type = false) (hk : flatB P 0 gs.toList [.int .i64, .str] = true) : EqSound P t (flatC Fld fldC) := by
  intro u v H β T xs ys w x y hx hy gx gy
  have hx : xs.size = 4 := hx
  have hy : ys.size = 4 := hy
  refine ⟨fun op => run_eqGuard_agg w op t x y xs ys hm, ?_⟩
  have hf : P.fieldsOf t = #[f0, f1, f2] := by unfold Program.fieldsOf; rw [hu]
  show (Op.equalIn (9999 + 1) t (.agg xs) (.agg ys)).run P w = _
  rw [run_equalIn_agg w 9999 t xs ys (by rw [hf]; exact hu) hp, hf]
  have gx0 : xs.getD 0 undef = .string u.name := gval (gx 0 (by show 0 < 4; omega))
  have gy0 : ys.getD 0 undef = .string v.name := gval (gy 0 (by show 0 < 4; omega))
  have gx1 : xs.getD 1 undef = .int .i64 u.type.1 := gval (gx 1 (by show 1 < 4; omega))
  have gy1 : ys.getD 1 undef = .int .i64 v.type.1 := gval (gy 1 (by show 1 < 4; omega))
  have gx2 : xs.getD 2 undef = .string u.type.2 := gval (gx 2 (by show 2 < 4; omega))
  have gy2 : ys.getD 2 undef = .string v.type.2 := gval (gy 2 (by show 2 < 4; omega))
  have gx3 : xs.getD 3 undef = .bool u.static := gval (gx 3 (by show 3 < 4; omega))
  have gy3 : ys.getD 3 undef = .bool v.static := gval (gy 3 (by show 3 < 4; omega))
  have e0 := eq_step w 9998 f0 [f1, f2] xs ys _ _ (u.name.toList == v.name.toList) (cellsEq (tyC u.type) (tyC v.type) && ((u.static == v.static) && true)) n0.1 (part_flat w f0 n0.2.2 rfl xs (by rw [n0.2.1]; omega)) (part_flat w f0 n0.2.2 rfl ys (by rw [n0.2.1]; omega))
    (by rw [n0.2.1, gx0, gy0]; exact run_equalIn_string w 9998 f0.type _ _ n0.2.2) ?_
  · show (Op.eqFields 9999 xs ys [f0, f1, f2]).run P w = _
    rw [e0]
    show Result.ok ((u.name.toList == v.name.toList) && (cellsEq (tyC u.type) (tyC v.type) && ((u.static == v.static) && true))) w = Result.ok (cellsEq (fldC u) (fldC v)) w
    simp [cellsEq, cellEq, fldC, tyC, Bool.and_assoc]
  · have sub : (Op.equalIn (9998 + 1) f1.type (.agg (xs.extract f1.offset (f1.offset + i.size))) (.agg (ys.extract f1.offset (f1.offset + i.size)))).run P w = .ok (cellsEq (tyC u.type) (tyC v.type)) w := by
      have hf1 : P.fieldsOf f1.type = gs := by unfold Program.fieldsOf; rw [n1.2.2]
      rw [run_equalIn_agg w 9998 f1.type _ _ (by rw [hf1]; exact n1.2.2) hp1, hf1, n1.2.1, hz]
      have q : ∀ (zs : Array Value) (a b : Value), zs.size = 4 → zs.getD 1 undef = a → zs.getD 2 undef = b → ∀ j, j < 2 → (zs.extract 1 (1 + 2)).getD j undef = if j = 0 then a else b := by
        intro zs a b hs h1 h2 j hj
        match j, hj with
        | 0, _ => rw [if_pos rfl, ← h1]; simp [Array.getD, hs]
        | 1, _ => rw [if_neg (by decide), ← h2]; simp [Array.getD, hs]
      refine run_eqFields (H := H) (β := β) (T := T) w 9997 (xs.extract 1 (1 + 2)) (ys.extract 1 (1 + 2)) gs.toList [.int .i64, .str] (tyC u.type) (tyC v.type) 0 hk rfl rfl ?_ ?_ (by simp [tyC, hx]) (by simp [tyC, hy])
      · intro j hj
        have hj : j < 2 := hj
        rw [Nat.zero_add, q xs _ _ hx gx1 gx2 j hj]
        match j, hj with
        | 0, _ => exact .val _
        | 1, _ => exact .val _
      · intro j hj
        have hj : j < 2 := hj
        rw [Nat.zero_add, q ys _ _ hy gy1 gy2 j hj]
        match j, hj with
        | 0, _ => exact .val _
        | 1, _ => exact .val _
    have e2 := eq_step w 9998 f2 [] xs ys _ _ (u.static == v.static) true n2.1 (part_flat w f2 n2.2.2 rfl xs (by rw [n2.2.1]; omega)) (part_flat w f2 n2.2.2 rfl ys (by rw [n2.2.1]; omega))
      (by rw [n2.2.1, gx3, gy3]; exact run_equalIn_bool w 9998 f2.type _ _ n2.2.2) (by simp [Op.eqFields])
    exact eq_step w 9998 f1 [f2] xs ys _ _ _ _ n1.1 (part_sub w f1 n1.2.2 hi xs) (part_sub w f1 n1.2.2 hi ys) sub e2
theorem fld_eq : EqSound Tryd.prog 57 (flatC Fld fldC) := by
  obtain ⟨i, hi, hz⟩ := Option.map_eq_some_iff.1 (show (Tryd.prog.info? 50).map (·.size) = some 2 by kernel_rfl)
  exact fld_shape Tryd.underlying57 (by kernel_rfl) (by kernel_rfl) ⟨by decide, rfl, Tryd.underlying9⟩ ⟨by decide, rfl, Tryd.underlying50⟩ ⟨by decide, rfl, Tryd.underlying4⟩ hi hz (by kernel_rfl) (by kernel_rfl)
theorem fld_dec (a b : Fld) : cellsEq (fldC a) (fldC b) = decide (a = b) := by
  obtain ⟨a1, ⟨a2, a3⟩, a4⟩ := a
  obtain ⟨b1, ⟨b2, b3⟩, b4⟩ := b
  rw [Bool.eq_iff_iff]
  simp [fldC, cellsEq, cellEq, ba_eq, and_assoc]
abbrev LB : Nat := 4611686018427387904
def mLen (m : Meth) : Prop := m.params.length ≤ LB ∧ m.code.length ≤ LB ∧ m.catches.length ≤ LB
def cLen (c : Cls) : Prop := c.ifaces.length ≤ LB ∧ c.fields.length ≤ LB ∧ c.methods.length ≤ LB ∧ ∀ m ∈ c.methods, mLen m
def pLen (p : List Cls) : Prop := p.length ≤ LB ∧ ∀ c ∈ p, cLen c
def kepC (T : Type) [DecidableEq T] (e : T → SV) (d : T → Prop) : Ctr := { A := T × T, enc := fun x => [e x.1, e x.2], dom := fun x => d x.1 ∧ d x.2, res := fun x _ => B (decide (x.1 = x.2)) }
theorem cat_eq : EqSound Tryd.prog 114 (flatC Cat catC) :=
  eq_flat [.str, .int .i64, .int .i64, .int .i64] _ catC Tryd.underlying114 (by kernel_rfl) (by kernel_rfl) (by kernel_rfl) (fun _ => rfl)
theorem cat_dec (a b : Cat) : cellsEq (catC a) (catC b) = decide (a = b) := by
  obtain ⟨a1, a2, a3, a4⟩ := a
  obtain ⟨b1, b2, b3, b4⟩ := b
  rw [Bool.eq_iff_iff]
  simp [catC, cellsEq, cellEq, ba_eq]
theorem kins_eq : EqSound Tryd.prog 41 (flatC Ins insC) :=
  eq_flat [.int .i64, .int .i64, .str, .str] _ insC Tryd.underlying41 (by kernel_rfl) (by kernel_rfl) (by kernel_rfl) (fun _ => rfl)
theorem kins_dec (a b : Ins) : cellsEq (insC a) (insC b) = decide (a = b) := by
  obtain ⟨a1, a2, a3, a4⟩ := a
  obtain ⟨b1, b2, b3, b4⟩ := b
  rw [Bool.eq_iff_iff]
  simp [insC, cellsEq, cellEq, ba_eq]
set_option maxRecDepth 100000 in
theorem kStrings_ok : CtrSound Tryd.prog 53 (keepR ByteArray 1 strC noS) :=
  ctr_of_ax (env_ok tys_ok (eqs := []) trivial (cs := []) trivial) mixed _ Tryd.func53 (by kernel_rfl) rfl (fun _ _ => Nat.le_of_ble_eq_true rfl) fun ((k, l) : List ByteArray × List ByteArray) id hd => by
    have hd : k.length ≤ 4611686018427387904 := hd
    have no : ¬ (k = l) → Sub .ff (B (decide (k = l))) := fun h => .bff (decide_eq_false h)
    refine ⟨fun h2 => ?_, fun h2 => ?_⟩
    · exact ⟨no fun q => lneT h2 (by rw [q]), rfl⟩
    have hl : k.length = l.length := lneF h2
    refine ⟨Nat, fun i => [(0, .row ByteArray 1 strC noS k), (1, .row ByteArray 1 strC noS l), (5, I i)], fun _ => [], fun i => i ≤ k.length ∧ ∀ j, j < i → k.getD j noS = l.getD j noS, fun i => k.length - i,
      ⟨0, ⟨Nat.zero_le _, fun j hj => by omega⟩, ⟨⟨rfl, rfl⟩, .refl _, .refl _, .refl _, trivial⟩⟩, fun (i : Nat) hi => ?_⟩
    have hil := hi.1
    have hwj : IntKind.i64.wrap ((i : Int) + 1) = ((i + 1 : Nat) : Int) := by rw [wrap_eq _ (by omega) (by omega)]; omega
    refine ⟨fun h => ?_, fun h => ?_⟩
    · have hlt : i < k.length := dlt h
      refine ⟨by kernel_rfl, ?_⟩
      refine ⟨⟨by omega, by omega⟩, ⟨by omega, by omega⟩, ?_⟩
      refine ⟨fun h => ?_, fun h => ?_⟩
      · have h : (!((k.getD i noS).toList == (l.getD i noS).toList)) = true := h
        exact ⟨no fun q => by rw [q] at h; simp at h, rfl⟩
      · have h : (!((k.getD i noS).toList == (l.getD i noS).toList)) = false := h
        have he : k.getD i noS = l.getD i noS := baT (notF h)
        exact ⟨i + 1, ⟨hlt, fun j hj => by rcases Nat.lt_succ_iff_lt_or_eq.1 hj with q | rfl; exact hi.2 j q; exact he⟩, by show k.length - (i + 1) < k.length - i; omega, ⟨rfl, rfl⟩, .refl _, .refl _, .int hwj, trivial⟩
    · have hge : i = k.length := Nat.le_antisymm hil (dge h)
      exact ⟨.btt (decide_eq_true (ext_getD noS hl fun j (hj : j < k.length) => hi.2 j (hge ▸ hj))), rfl⟩
set_option maxRecDepth 100000 in
set_option maxHeartbeats 4000000 in
theorem kMethod_ok : CtrSound Tryd.prog 54 (kepC Meth (fun m => .agg (methC m)) mLen) :=
  ctr_of_ax (env_ok tys_ok (eqs := [(50, flatC Ty tyC), (41, flatC Ins insC), (114, flatC Cat catC)]) ⟨ty_eq, kins_eq, cat_eq, trivial⟩ (cs := [(24, keepR Ty 2 tyC ty0)]) ⟨kTypes_ok, trivial⟩) mixed _ Tryd.func54 (by kernel_rfl) rfl (fun _ _ => Nat.le_of_ble_eq_true rfl) fun ((a, b) : Meth × Meth) id hd => by
    have hd1 : mLen a := hd.1
    obtain ⟨b1, b2, b3⟩ := hd1
    have no : ¬ (a = b) → Sub .ff (B (decide (a = b))) := fun h => .bff (decide_eq_false h)
    refine ⟨fun h => ?_, fun h => ?_⟩
    · have h : (!(a.name.toList == b.name.toList)) = true := h
      exact ⟨no fun q => by rw [q] at h; simp at h, rfl⟩
    have e_name : a.name = b.name := baT (notF h)
    refine ⟨fun h => ?_, fun h => ?_⟩
    · have h : (!(a.static == b.static)) = true := h
      exact ⟨no fun q => by rw [q] at h; simp at h, rfl⟩
    have e_static : a.static = b.static := by
      have h : (!(a.static == b.static)) = false := h
      simpa using h
    refine ⟨fun h => ?_, fun h => ?_⟩
    · have h : (!(a.abs == b.abs)) = true := h
      exact ⟨no fun q => by rw [q] at h; simp at h, rfl⟩
    have e_abs : a.abs = b.abs := by
      have h : (!(a.abs == b.abs)) = false := h
      simpa using h
    refine ⟨(a.params, b.params), ⟨.refl _, .refl _, trivial⟩, rfl, b1, ?_⟩
    refine ⟨fun h => ?_, fun h => ?_⟩
    · have h : (!decide (a.params = b.params)) = true := h
      exact ⟨no fun q => by rw [q] at h; simp at h, rfl⟩
    have e_params : a.params = b.params := by
      have h : (!decide (a.params = b.params)) = false := h
      simpa using h
    refine ⟨a.ret, b.ret, ⟨.refl _, .refl _, trivial⟩, ⟨.refl _, .refl _, trivial⟩, ?_⟩
    refine ⟨fun h => ?_, fun h => ?_⟩
    · have h : (!cellsEq (tyC a.ret) (tyC b.ret)) = true := h
      rw [ty_dec] at h
      exact ⟨no fun q => by rw [q] at h; simp at h, rfl⟩
    have e_ret : a.ret = b.ret := by
      have h : (!cellsEq (tyC a.ret) (tyC b.ret)) = false := h
      rw [ty_dec] at h
      simpa using h
    refine ⟨fun h => ?_, fun h => ?_⟩
    · have h : (a.locals != b.locals) = true := h
      exact ⟨no fun q => by rw [q] at h; simp at h, rfl⟩
    have e_locals : a.locals = b.locals := by
      have h : (a.locals != b.locals) = false := h
      simpa using h
    refine ⟨fun h => ?_, fun h => ?_⟩
    · have h : ((a.code.length : Int) != (b.code.length : Int)) = true := h
      exact ⟨no fun q => by rw [q] at h; simp at h, rfl⟩
    have l_code : a.code.length = b.code.length := lneF h
    refine ⟨fun h => ?_, fun h => ?_⟩
    · have h : ((a.catches.length : Int) != (b.catches.length : Int)) = true := h
      exact ⟨no fun q => by rw [q] at h; simp at h, rfl⟩
    have l_catches : a.catches.length = b.catches.length := lneF h
    have b2 : a.code.length ≤ 4611686018427387904 := b2
    have b3 : a.catches.length ≤ 4611686018427387904 := b3
    refine ⟨Nat, fun i => [(2, .box 2 0), (3, .box 3 0), (5, I i)], fun _ => [(2, methC a), (3, methC b)], fun i => i ≤ a.code.length ∧ ∀ j, j < i → a.code.getD j ins0 = b.code.getD j ins0, fun i => a.code.length - i,
      ⟨0, ⟨Nat.zero_le _, fun j hj => by omega⟩, ⟨⟨rfl, rfl⟩, .refl _, .refl _, .refl _, ⟨.refl _, .refl _, .refl _, .refl _, .refl _, .refl _, .refl _, .refl _, .refl _, trivial⟩, ⟨.refl _, .refl _, .refl _, .refl _, .refl _, .refl _, .refl _, .refl _, .refl _, trivial⟩, trivial⟩⟩, fun (i : Nat) hi => ?_⟩
    have hil : i ≤ a.code.length := hi.1
    have hwj : IntKind.i64.wrap ((i : Int) + 1) = ((i + 1 : Nat) : Int) := by rw [wrap_eq _ (by omega) (by omega)]; omega
    refine ⟨fun h => ?_, fun h => ?_⟩
    · have hlt : i < a.code.length := dlt h
      refine ⟨by kernel_rfl, ?_⟩
      refine ⟨(show 0 ≤ (i : Int) ∧ (i : Int) < (a.code.length : Int) by omega), (show 0 ≤ (i : Int) ∧ (i : Int) < (b.code.length : Int) by omega), ?_⟩
      refine ⟨a.code.getD i ins0, b.code.getD i ins0, ⟨.refl _, .refl _, .refl _, .refl _, trivial⟩, ⟨.refl _, .refl _, .refl _, .refl _, trivial⟩, ?_⟩
      refine ⟨fun h => ?_, fun h => ?_⟩
      · have h : (!cellsEq (insC (a.code.getD i ins0)) (insC (b.code.getD i ins0))) = true := h
        rw [kins_dec] at h
        exact ⟨no fun q => by rw [q] at h; simp at h, rfl⟩
      · have h : (!cellsEq (insC (a.code.getD i ins0)) (insC (b.code.getD i ins0))) = false := h
        rw [kins_dec] at h
        have he : a.code.getD i ins0 = b.code.getD i ins0 := by simpa using h
        exact ⟨i + 1, ⟨hlt, fun j hj => by rcases Nat.lt_succ_iff_lt_or_eq.1 hj with q | rfl; exact hi.2 j q; exact he⟩, (show a.code.length - (i + 1) < a.code.length - i by omega), ⟨rfl, rfl⟩, .refl _, .int hwj, .refl _, ⟨.refl _, .refl _, .refl _, .refl _, .refl _, .refl _, .refl _, .refl _, .refl _, trivial⟩, ⟨.refl _, .refl _, .refl _, .refl _, .refl _, .refl _, .refl _, .refl _, .refl _, trivial⟩, trivial⟩
    have e_code : a.code = b.code := by
      have hge : i = a.code.length := Nat.le_antisymm hil (dge h)
      exact ext_getD ins0 l_code fun j (hj : j < a.code.length) => hi.2 j (hge ▸ hj)
    clear hi hil hwj h
    refine ⟨Nat, fun i => [(2, .box 2 0), (3, .box 3 0), (6, I i)], fun _ => [(2, methC a), (3, methC b)], fun i => i ≤ a.catches.length ∧ ∀ j, j < i → a.catches.getD j cat0 = b.catches.getD j cat0, fun i => a.catches.length - i,
      ⟨0, ⟨Nat.zero_le _, fun j hj => by omega⟩, ⟨⟨rfl, rfl⟩, .refl _, .refl _, .refl _, ⟨.refl _, .refl _, .refl _, .refl _, .refl _, .refl _, .refl _, .refl _, .refl _, trivial⟩, ⟨.refl _, .refl _, .refl _, .refl _, .refl _, .refl _, .refl _, .refl _, .refl _, trivial⟩, trivial⟩⟩, fun (i : Nat) hi => ?_⟩
    have hil : i ≤ a.catches.length := hi.1
    have hwj : IntKind.i64.wrap ((i : Int) + 1) = ((i + 1 : Nat) : Int) := by rw [wrap_eq _ (by omega) (by omega)]; omega
    refine ⟨fun h => ?_, fun h => ?_⟩
    · have hlt : i < a.catches.length := dlt h
      refine ⟨by kernel_rfl, ?_⟩
      refine ⟨(show 0 ≤ (i : Int) ∧ (i : Int) < (a.catches.length : Int) by omega), (show 0 ≤ (i : Int) ∧ (i : Int) < (b.catches.length : Int) by omega), ?_⟩
      refine ⟨a.catches.getD i cat0, b.catches.getD i cat0, ⟨.refl _, .refl _, .refl _, .refl _, trivial⟩, ⟨.refl _, .refl _, .refl _, .refl _, trivial⟩, ?_⟩
      refine ⟨fun h => ?_, fun h => ?_⟩
      · have h : (!cellsEq (catC (a.catches.getD i cat0)) (catC (b.catches.getD i cat0))) = true := h
        rw [cat_dec] at h
        exact ⟨no fun q => by rw [q] at h; simp at h, rfl⟩
      · have h : (!cellsEq (catC (a.catches.getD i cat0)) (catC (b.catches.getD i cat0))) = false := h
        rw [cat_dec] at h
        have he : a.catches.getD i cat0 = b.catches.getD i cat0 := by simpa using h
        exact ⟨i + 1, ⟨hlt, fun j hj => by rcases Nat.lt_succ_iff_lt_or_eq.1 hj with q | rfl; exact hi.2 j q; exact he⟩, (show a.catches.length - (i + 1) < a.catches.length - i by omega), ⟨rfl, rfl⟩, .refl _, .refl _, .int hwj, ⟨.refl _, .refl _, .refl _, .refl _, .refl _, .refl _, .refl _, .refl _, .refl _, trivial⟩, ⟨.refl _, .refl _, .refl _, .refl _, .refl _, .refl _, .refl _, .refl _, .refl _, trivial⟩, trivial⟩
    have e_catches : a.catches = b.catches := by
      have hge : i = a.catches.length := Nat.le_antisymm hil (dge h)
      exact ext_getD cat0 l_catches fun j (hj : j < a.catches.length) => hi.2 j (hge ▸ hj)
    clear hi hil hwj h
    exact ⟨.btt (decide_eq_true (by cases a; cases b; simp_all)), rfl⟩
set_option maxRecDepth 100000 in
set_option maxHeartbeats 4000000 in
theorem kClass_ok : CtrSound Tryd.prog 35 (kepC Cls (fun c => .agg (clsC c)) cLen) :=
  ctr_of_ax (env_ok tys_ok (eqs := [(57, flatC Fld fldC)]) ⟨fld_eq, trivial⟩ (cs := [(53, keepR ByteArray 1 strC noS), (54, kepC Meth (fun m => .agg (methC m)) mLen)]) ⟨kStrings_ok, kMethod_ok, trivial⟩) mixed _ Tryd.func35 (by kernel_rfl) rfl (fun _ _ => Nat.le_of_ble_eq_true rfl) fun ((a, b) : Cls × Cls) id hd => by
    have hd1 : cLen a := hd.1
    have hd2 : cLen b := hd.2
    obtain ⟨b1, b2, b3, b4⟩ := hd1
    have no : ¬ (a = b) → Sub .ff (B (decide (a = b))) := fun h => .bff (decide_eq_false h)
    refine ⟨fun h => ?_, fun h => ?_⟩
    · have h : (!(a.name.toList == b.name.toList)) = true := h
      exact ⟨no fun q => by rw [q] at h; simp at h, rfl⟩
    have e_name : a.name = b.name := baT (notF h)
    refine ⟨fun h => ?_, fun h => ?_⟩
    · have h : (!(a.iface == b.iface)) = true := h
      exact ⟨no fun q => by rw [q] at h; simp at h, rfl⟩
    have e_iface : a.iface = b.iface := by
      have h : (!(a.iface == b.iface)) = false := h
      simpa using h
    refine ⟨fun h => ?_, fun h => ?_⟩
    · have h : (!(a.super.toList == b.super.toList)) = true := h
      exact ⟨no fun q => by rw [q] at h; simp at h, rfl⟩
    have e_super : a.super = b.super := baT (notF h)
    refine ⟨(a.ifaces, b.ifaces), ⟨.refl _, .refl _, trivial⟩, rfl, b1, ?_⟩
    refine ⟨fun h => ?_, fun h => ?_⟩
    · have h : (!decide (a.ifaces = b.ifaces)) = true := h
      exact ⟨no fun q => by rw [q] at h; simp at h, rfl⟩
    have e_ifaces : a.ifaces = b.ifaces := by
      have h : (!decide (a.ifaces = b.ifaces)) = false := h
      simpa using h
    refine ⟨fun h => ?_, fun h => ?_⟩
    · have h : ((a.fields.length : Int) != (b.fields.length : Int)) = true := h
      exact ⟨no fun q => by rw [q] at h; simp at h, rfl⟩
    have l_fields : a.fields.length = b.fields.length := lneF h
    refine ⟨fun h => ?_, fun h => ?_⟩
    · have h : ((a.methods.length : Int) != (b.methods.length : Int)) = true := h
      exact ⟨no fun q => by rw [q] at h; simp at h, rfl⟩
    have l_methods : a.methods.length = b.methods.length := lneF h
    have b2 : a.fields.length ≤ 4611686018427387904 := b2
    have b3 : a.methods.length ≤ 4611686018427387904 := b3
    refine ⟨Nat, fun i => [(2, .box 2 0), (3, .box 3 0), (5, I i)], fun _ => [(2, clsC a), (3, clsC b)], fun i => i ≤ a.fields.length ∧ ∀ j, j < i → a.fields.getD j fld0 = b.fields.getD j fld0, fun i => a.fields.length - i,
      ⟨0, ⟨Nat.zero_le _, fun j hj => by omega⟩, ⟨⟨rfl, rfl⟩, .refl _, .refl _, .refl _, ⟨.refl _, .refl _, .refl _, .refl _, .refl _, .refl _, trivial⟩, ⟨.refl _, .refl _, .refl _, .refl _, .refl _, .refl _, trivial⟩, trivial⟩⟩, fun (i : Nat) hi => ?_⟩
    have hil : i ≤ a.fields.length := hi.1
    have hwj : IntKind.i64.wrap ((i : Int) + 1) = ((i + 1 : Nat) : Int) := by rw [wrap_eq _ (by omega) (by omega)]; omega
    refine ⟨fun h => ?_, fun h => ?_⟩
    · have hlt : i < a.fields.length := dlt h
      refine ⟨by kernel_rfl, ?_⟩
      refine ⟨(show 0 ≤ (i : Int) ∧ (i : Int) < (a.fields.length : Int) by omega), (show 0 ≤ (i : Int) ∧ (i : Int) < (b.fields.length : Int) by omega), ?_⟩
      refine ⟨a.fields.getD i fld0, b.fields.getD i fld0, ⟨.refl _, .refl _, .refl _, .refl _, trivial⟩, ⟨.refl _, .refl _, .refl _, .refl _, trivial⟩, ?_⟩
      refine ⟨fun h => ?_, fun h => ?_⟩
      · have h : (!cellsEq (fldC (a.fields.getD i fld0)) (fldC (b.fields.getD i fld0))) = true := h
        rw [fld_dec] at h
        exact ⟨no fun q => by rw [q] at h; simp at h, rfl⟩
      · have h : (!cellsEq (fldC (a.fields.getD i fld0)) (fldC (b.fields.getD i fld0))) = false := h
        rw [fld_dec] at h
        have he : a.fields.getD i fld0 = b.fields.getD i fld0 := by simpa using h
        exact ⟨i + 1, ⟨hlt, fun j hj => by rcases Nat.lt_succ_iff_lt_or_eq.1 hj with q | rfl; exact hi.2 j q; exact he⟩, (show a.fields.length - (i + 1) < a.fields.length - i by omega), ⟨rfl, rfl⟩, .refl _, .int hwj, .refl _, ⟨.refl _, .refl _, .refl _, .refl _, .refl _, .refl _, trivial⟩, ⟨.refl _, .refl _, .refl _, .refl _, .refl _, .refl _, trivial⟩, trivial⟩
    have e_fields : a.fields = b.fields := by
      have hge : i = a.fields.length := Nat.le_antisymm hil (dge h)
      exact ext_getD fld0 l_fields fun j (hj : j < a.fields.length) => hi.2 j (hge ▸ hj)
    clear hi hil hwj h
    refine ⟨Nat, fun i => [(2, .box 2 0), (3, .box 3 0), (6, I i)], fun _ => [(2, clsC a), (3, clsC b)], fun i => i ≤ a.methods.length ∧ ∀ j, j < i → a.methods.getD j meth0 = b.methods.getD j meth0, fun i => a.methods.length - i,
      ⟨0, ⟨Nat.zero_le _, fun j hj => by omega⟩, ⟨⟨rfl, rfl⟩, .refl _, .refl _, .refl _, ⟨.refl _, .refl _, .refl _, .refl _, .refl _, .refl _, trivial⟩, ⟨.refl _, .refl _, .refl _, .refl _, .refl _, .refl _, trivial⟩, trivial⟩⟩, fun (i : Nat) hi => ?_⟩
    have hil : i ≤ a.methods.length := hi.1
    have hwj : IntKind.i64.wrap ((i : Int) + 1) = ((i + 1 : Nat) : Int) := by rw [wrap_eq _ (by omega) (by omega)]; omega
    refine ⟨fun h => ?_, fun h => ?_⟩
    · have hlt : i < a.methods.length := dlt h
      refine ⟨by kernel_rfl, ?_⟩
      refine ⟨(show 0 ≤ (i : Int) ∧ (i : Int) < (a.methods.length : Int) by omega), (show 0 ≤ (i : Int) ∧ (i : Int) < (b.methods.length : Int) by omega), ?_⟩
      refine ⟨(a.methods.getD i meth0, b.methods.getD i meth0), ⟨.refl _, .refl _, trivial⟩, rfl, ⟨b4 _ (getT_mem _ _ _ hlt), hd2.2.2.2 _ (getT_mem _ _ _ (l_methods ▸ hlt))⟩, ?_⟩
      refine ⟨fun h => ?_, fun h => ?_⟩
      · have h : (!decide ((a.methods.getD i meth0) = (b.methods.getD i meth0))) = true := h
        skip
        exact ⟨no fun q => by rw [q] at h; simp at h, rfl⟩
      · have h : (!decide ((a.methods.getD i meth0) = (b.methods.getD i meth0))) = false := h
        skip
        have he : a.methods.getD i meth0 = b.methods.getD i meth0 := by simpa using h
        exact ⟨i + 1, ⟨hlt, fun j hj => by rcases Nat.lt_succ_iff_lt_or_eq.1 hj with q | rfl; exact hi.2 j q; exact he⟩, (show a.methods.length - (i + 1) < a.methods.length - i by omega), ⟨rfl, rfl⟩, .refl _, .refl _, .int hwj, ⟨.refl _, .refl _, .refl _, .refl _, .refl _, .refl _, trivial⟩, ⟨.refl _, .refl _, .refl _, .refl _, .refl _, .refl _, trivial⟩, trivial⟩
    have e_methods : a.methods = b.methods := by
      have hge : i = a.methods.length := Nat.le_antisymm hil (dge h)
      exact ext_getD meth0 l_methods fun j (hj : j < a.methods.length) => hi.2 j (hge ▸ hj)
    clear hi hil hwj h
    exact ⟨.btt (decide_eq_true (by cases a; cases b; simp_all)), rfl⟩
def kRow : Ctr := { A := List Cls × List Cls, enc := fun x => [prgR x.1, prgR x.2], dom := fun x => pLen x.1 ∧ pLen x.2, res := fun x _ => B (decide (x.1 = x.2)) }
set_option maxRecDepth 100000 in
theorem kClasses_ok : CtrSound Tryd.prog 18 kRow :=
  ctr_of_ax (env_ok tys_ok (eqs := []) trivial (cs := [(35, kepC Cls (fun c => .agg (clsC c)) cLen)]) ⟨kClass_ok, trivial⟩) mixed _ Tryd.func18 (by kernel_rfl) rfl (fun _ _ => Nat.le_of_ble_eq_true rfl) fun ((k, l) : List Cls × List Cls) id hd => by
    have hd0 : pLen k := hd.1
    have hd2 : pLen l := hd.2
    have hd : k.length ≤ 4611686018427387904 := hd0.1
    have no : ¬ (k = l) → Sub .ff (B (decide (k = l))) := fun h => .bff (decide_eq_false h)
    refine ⟨fun h2 => ?_, fun h2 => ?_⟩
    · exact ⟨no fun q => lneT h2 (by rw [q]), rfl⟩
    have hl : k.length = l.length := lneF h2
    refine ⟨Nat, fun i => [(0, prgR k), (1, prgR l), (5, I i)], fun _ => [], fun i => i ≤ k.length ∧ ∀ j, j < i → k.getD j cls0 = l.getD j cls0, fun i => k.length - i,
      ⟨0, ⟨Nat.zero_le _, fun j hj => by omega⟩, ⟨⟨rfl, rfl⟩, .refl _, .refl _, .refl _, trivial⟩⟩, fun (i : Nat) hi => ?_⟩
    have hil := hi.1
    have hwj : IntKind.i64.wrap ((i : Int) + 1) = ((i + 1 : Nat) : Int) := by rw [wrap_eq _ (by omega) (by omega)]; omega
    refine ⟨fun h => ?_, fun h => ?_⟩
    · have hlt : i < k.length := dlt h
      refine ⟨by kernel_rfl, ?_⟩
      refine ⟨⟨by omega, by omega⟩, ⟨by omega, by omega⟩, ?_⟩
      refine ⟨(k.getD i cls0, l.getD i cls0), ⟨.refl _, .refl _, trivial⟩, rfl, ⟨hd0.2 _ (getT_mem _ _ _ hlt), hd2.2 _ (getT_mem _ _ _ (hl ▸ hlt))⟩, ?_⟩
      refine ⟨fun h => ?_, fun h => ?_⟩
      · have h : (!decide (k.getD i cls0 = l.getD i cls0)) = true := h
        exact ⟨no fun q => by rw [q] at h; simp at h, rfl⟩
      · have h : (!decide (k.getD i cls0 = l.getD i cls0)) = false := h
        have he : k.getD i cls0 = l.getD i cls0 := by simpa using h
        exact ⟨i + 1, ⟨hlt, fun j hj => by rcases Nat.lt_succ_iff_lt_or_eq.1 hj with q | rfl; exact hi.2 j q; exact he⟩, by show k.length - (i + 1) < k.length - i; omega, ⟨rfl, rfl⟩, .refl _, .refl _, .int hwj, trivial⟩
    · have hge : i = k.length := Nat.le_antisymm hil (dge h)
      exact ⟨.btt (decide_eq_true (ext_getD cls0 hl fun j (hj : j < k.length) => hi.2 j (hge ▸ hj))), rfl⟩
def kPrg : Ctr := { A := List Cls × List Cls, enc := fun x => [.agg [prgR x.1], .agg [prgR x.2]], dom := fun x => pLen x.1 ∧ pLen x.2, res := fun x _ => B (decide (x.1 = x.2)) }
set_option maxRecDepth 100000 in
theorem kPrg_ok : CtrSound Tryd.prog 27 kPrg :=
  ctr_of_ax (env_ok tys_ok (eqs := []) trivial (cs := [(18, kRow)]) ⟨kClasses_ok, trivial⟩) mixed _ Tryd.func27 (by kernel_rfl) rfl (fun _ _ => Nat.le_of_ble_eq_true rfl) fun ((k, l) : List Cls × List Cls) id hd => by
    refine ⟨(k, l), ⟨.refl _, .refl _, trivial⟩, rfl, hd, ?_⟩
    exact ⟨.refl _, rfl⟩
end Go.Proofs.YtimhbimpaiiceaaDoor.Ax
/- Layer parse: ParseBlanks. -/
set_option linter.unusedVariables false
set_option linter.unusedSimpArgs false
namespace Go.Proofs.YtimhbimpaiiceaaDoor.Ax
open Go Go.RowKit
/-- a reader of the same words, without their places -/
def un0 (t : Tok) : Tok := (t.1, t.2.1, t.2.2.1, 0)
def strip (r : Rs) : Rs := ⟨r.L.map un0, 0, r.i, 0, r.e⟩
theorem st_len (r : Rs) : (strip r).L.length = r.L.length := by simp [strip]
theorem st_get (l : List Tok) (i : Nat) : (l.map un0).getD i tok0 = un0 (l.getD i tok0) := by
  simp only [List.getD, List.getElem?_map]
  cases l[i]? <;> rfl
theorem st_next (r : Rs) : (strip r).next = un0 r.next := by
  unfold Rs.next
  rw [st_len]
  show (if r.e = 0 ∧ r.i < r.L.length then (r.L.map un0).getD r.i tok0 else tok0) = _
  split
  · rw [st_get]
  · rfl
theorem st_is (r : Rs) (w : ByteArray) : (strip r).is w = r.is w := by unfold Rs.is; rw [st_next]; rfl
theorem st_e (r : Rs) : (strip r).e = r.e := rfl
theorem st_i (r : Rs) : (strip r).i = r.i := rfl
theorem st_step (r : Rs) : (strip r).step = strip r.step := rfl
theorem st_fail (r : Rs) (e : Int) : (strip r).fail e = strip (r.fail e) := by
  unfold Rs.fail
  rw [st_len, st_e, st_i]
  split
  · show Rs.mk _ _ _ (if r.i < r.L.length then ((r.L.map un0).getD r.i tok0).2.2.2 else 0) e = strip _
    rw [st_get]
    have : (if r.i < r.L.length then (un0 (r.L.getD r.i tok0)).2.2.2 else 0) = 0 := by split <;> rfl
    rw [this]; rfl
  · rfl
theorem st_take (r : Rs) (w : ByteArray) : (strip r).take w = strip (r.take w) := by unfold Rs.take; rw [st_is]; split <;> rfl
theorem st_want (r : Rs) (w : ByteArray) : (strip r).want w = strip (r.want w) := by unfold Rs.want; rw [st_is]; split; rfl; exact st_fail r 4
theorem st_free (r : Rs) : (strip r).free = r.free := by unfold Rs.free; rw [st_next]; rfl
theorem st_freshV (r : Rs) : (strip r).freshV = r.freshV := by unfold Rs.freshV; rw [st_free, st_next]; rfl
theorem st_fresh (r : Rs) : (strip r).fresh = strip r.fresh := by unfold Rs.fresh; rw [st_free]; split; rfl; exact st_fail r 4
theorem st_numOk (r : Rs) (a b : Int) : (strip r).numOk a b = r.numOk a b := by unfold Rs.numOk; rw [st_next]; rfl
theorem st_numV (r : Rs) (a b : Int) : (strip r).numV a b = r.numV a b := by unfold Rs.numV; rw [st_numOk, st_next]; rfl
theorem st_num (r : Rs) (a b : Int) : (strip r).num a b = strip (r.num a b) := by unfold Rs.num; rw [st_numOk]; split; rfl; exact st_fail r 4
theorem st_room (r : Rs) (a b : Int) : (strip r).room a b = strip (r.room a b) := by unfold Rs.room; split; exact st_fail r 2; rfl
theorem st_name1 (r : Rs) (k : Int) : (strip r).name1 k = strip (r.name1 k) := by unfold Rs.name1; rw [st_step, st_free]; split; exact st_room _ _ _; rfl
theorem st_namesL : ∀ (f : Nat) (r : Rs) (out : List ByteArray), Rs.namesL f (strip r) out = ((Rs.namesL f r out).1, strip (Rs.namesL f r out).2)
  | 0, _, _ => rfl
  | f + 1, r, out => by
    unfold Rs.namesL
    rw [st_is]
    split
    · rw [st_name1, st_fresh, st_freshV, st_namesL f]
    · rfl
theorem st_names (r : Rs) : (strip r).names = (r.names.1, strip r.names.2) := by unfold Rs.names; rw [st_len, st_fresh, st_freshV, st_namesL]
theorem st_rowR (r : Rs) : (strip r).rowR = strip r.rowR := by unfold Rs.rowR; rw [st_is]; split; exact st_want r.step _; rfl
theorem st_kindV (r : Rs) : (strip r).kindV = r.kindV := by unfold Rs.kindV; rw [st_is, st_is, st_step, st_is, st_fresh, st_is, st_freshV]
theorem st_kind (r : Rs) : (strip r).kind = strip r.kind := by
  unfold Rs.kind
  rw [st_is, st_is, st_step, st_fresh]
  split
  · rfl
  · split
    · exact st_rowR _
    · exact st_rowR _
theorem st_param1 (r : Rs) (k : Int) : (strip r).param1 k = strip (r.param1 k) := by unfold Rs.param1; rw [st_step, st_free, st_is, st_is]; split; exact st_room _ _ _; rfl
theorem st_paramsL : ∀ (f : Nat) (r : Rs) (out : List Ty), Rs.paramsL f (strip r) out = ((Rs.paramsL f r out).1, strip (Rs.paramsL f r out).2)
  | 0, _, _ => rfl
  | f + 1, r, out => by
    unfold Rs.paramsL
    rw [st_is]
    split
    · rw [st_param1, st_kind, st_kindV, st_paramsL f]
    · rfl
theorem st_params (r : Rs) : (strip r).params = (r.params.1, strip r.params.2) := by
  unfold Rs.params
  rw [st_want, st_is, st_len, st_kind, st_kindV, st_paramsL]
  split
  · rfl
  · simp only [st_want]
theorem st_isOp (r : Rs) : (strip r).isOp = r.isOp := by unfold Rs.isOp; rw [st_next]; rfl
theorem st_in1 (r : Rs) (k : Int) : (strip r).in1 k = strip (r.in1 k) := by unfold Rs.in1; rw [st_room, st_next]; exact st_want _ _
theorem st_in2 (r : Rs) (o : Int) : (strip r).in2 o = strip (r.in2 o) := by unfold Rs.in2; split; exact st_num _ _ _; rfl
theorem st_in2V (r : Rs) (o : Int) : (strip r).in2V o = r.in2V o := by unfold Rs.in2V; split; exact st_numV _ _ _; rfl
theorem st_in3 (r : Rs) (b : Bool) : (strip r).in3 b = strip (r.in3 b) := by unfold Rs.in3; split; exact st_fresh _; rfl
theorem st_in3V (r : Rs) (b : Bool) : (strip r).in3V b = r.in3V b := by unfold Rs.in3V; split; exact st_freshV _; rfl
theorem st_instr (r : Rs) (k : Int) : (strip r).instr k = ((r.instr k).1, strip (r.instr k).2) := by
  unfold Rs.instr Rs.inVal Rs.inArgs
  rw [st_in1, st_next]
  simp only [un0, st_in2, st_in2V, st_in3, st_in3V, st_want]
  rfl
theorem st_codeL : ∀ (f : Nat) (r : Rs) (out : List Ins), Rs.codeL f (strip r) out = ((Rs.codeL f r out).1, strip (Rs.codeL f r out).2)
  | 0, _, _ => rfl
  | f + 1, r, out => by
    unfold Rs.codeL
    rw [st_isOp]
    split
    · rw [st_instr, st_codeL f]
    · rfl
theorem st_ca1 (r : Rs) (k : Int) : (strip r).ca1 k = strip (r.ca1 k) := by unfold Rs.ca1; rw [st_room]; exact st_want _ _
theorem st_catV (r : Rs) : (strip r).catV = r.catV := by unfold Rs.catV; simp only [st_freshV, st_fresh, st_num, st_numV]
theorem st_catR (r : Rs) : (strip r).catR = strip r.catR := by unfold Rs.catR; simp only [st_fresh, st_num, st_want]
theorem st_catchL : ∀ (f : Nat) (r : Rs) (out : List Cat), Rs.catchL f (strip r) out = ((Rs.catchL f r out).1, strip (Rs.catchL f r out).2)
  | 0, _, _ => rfl
  | f + 1, r, out => by
    unfold Rs.catchL
    rw [st_is]
    split
    · rw [st_ca1, st_catR, st_catV, st_catchL f]
    · rfl
theorem st_bo1 (r : Rs) : (strip r).bo1 = strip r.bo1 := by unfold Rs.bo1; simp only [st_want, st_num]
theorem st_boCode (r : Rs) : (strip r).boCode = (r.boCode.1, strip r.boCode.2) := by unfold Rs.boCode; rw [st_len, st_bo1, st_codeL]
theorem st_boCat (r : Rs) : (strip r).boCat = (r.boCat.1, strip r.boCat.2) := by unfold Rs.boCat; rw [st_len, st_boCode]; exact st_catchL _ _ _
theorem st_body (r : Rs) : (strip r).body = strip r.body := by unfold Rs.body; rw [st_boCat]; exact st_want _ _
theorem st_bodyV (r : Rs) (m : Meth) : (strip r).bodyV m = r.bodyV m := by unfold Rs.bodyV; rw [st_want, st_numV, st_boCode, st_boCat]
theorem st_mfV (r : Rs) (s : Bool) : (strip r).mfV s = r.mfV s := by unfold Rs.mfV; simp only [st_freshV, st_fresh, st_want, st_kindV]
theorem st_mfR (r : Rs) : (strip r).mfR = strip r.mfR := by unfold Rs.mfR; simp only [st_fresh, st_want, st_kind]
theorem st_mm1 (r : Rs) : (strip r).mm1 = strip r.mm1 := by unfold Rs.mm1; rw [st_fresh, st_params]; exact st_kind _
theorem st_mm1V (r : Rs) (s : Bool) : (strip r).mm1V s = r.mm1V s := by unfold Rs.mm1V; rw [st_freshV, st_mm1, st_is, st_fresh, st_params]; simp only [st_kindV]
theorem st_mmV (r : Rs) (s : Bool) : (strip r).mmV s = r.mmV s := by unfold Rs.mmV; rw [st_mm1, st_is, st_mm1V, st_bodyV]
theorem st_mmR (r : Rs) : (strip r).mmR = strip r.mmR := by unfold Rs.mmR; rw [st_mm1, st_is, st_body]; split <;> rfl
theorem st_memF (r : Rs) (k : Int) : (strip r).memF k = strip (r.memF k) := by unfold Rs.memF; rw [st_room, st_next]; exact st_want _ _
theorem st_member (r : Rs) (c : Cls) : (strip r).member c = ((r.member c).1, strip (r.member c).2) := by
  unfold Rs.member
  rw [st_next]
  simp only [un0, st_memF, st_mfV, st_mfR, st_mmV, st_mmR, st_fail]
  split
  · rfl
  · split <;> rfl
theorem st_clsL : ∀ (f : Nat) (r : Rs) (c : Cls), Rs.clsL f (strip r) c = ((Rs.clsL f r c).1, strip (Rs.clsL f r c).2)
  | 0, _, _ => rfl
  | f + 1, r, c => by
    unfold Rs.clsL
    rw [st_e, st_is, st_member, st_clsL f]
    split
    · split <;> rfl
    · rfl
theorem st_cl1 (r : Rs) (k : Int) : (strip r).cl1 k = strip (r.cl1 k) := by
  unfold Rs.cl1
  rw [st_is, st_is, st_room]
  split <;> exact st_want _ _
theorem st_ex1 (r : Rs) (b : Bool) : (strip r).ex1 b = ((r.ex1 b).1, strip (r.ex1 b).2) := by
  unfold Rs.ex1
  rw [st_is, st_step, st_names, st_fresh, st_freshV]
  split
  · split <;> rfl
  · rfl
theorem st_ex2 (r : Rs) (b : Bool) (l : List ByteArray) : (strip r).ex2 b l = ((r.ex2 b l).1, strip (r.ex2 b l).2) := by
  unfold Rs.ex2
  rw [st_is, st_step, st_names]
  split <;> rfl
theorem st_clV (r : Rs) (k : Int) : (strip r).clV k = r.clV k := by
  unfold Rs.clV
  rw [st_cl1, st_is, st_freshV, st_fresh, st_ex1]
  simp only [st_ex2]
theorem st_clR (r : Rs) (k : Int) : (strip r).clR k = strip (r.clR k) := by
  unfold Rs.clR
  rw [st_cl1, st_is, st_fresh, st_ex1]
  simp only [st_ex2, st_want]
theorem st_class (r : Rs) (k : Int) : (strip r).class' k = ((r.class' k).1, strip (r.class' k).2) := by unfold Rs.class'; rw [st_len, st_clR, st_clV, st_clsL]
theorem st_prgL : ∀ (f : Nat) (r : Rs) (out : List Cls), Rs.prgL f (strip r) out = ((Rs.prgL f r out).1, strip (Rs.prgL f r out).2)
  | 0, _, _ => rfl
  | f + 1, r, out => by
    unfold Rs.prgL
    rw [st_e, st_i, st_len]
    split
    · rw [st_class, st_prgL f]
    · rfl
theorem s3_un0 {l m : List Tok} (h : l.map s3 = m.map s3) : l.map un0 = m.map un0 := by
  have e : ∀ k : List Tok, k.map un0 = (k.map s3).map fun x => (x.1, x.2.1, x.2.2, 0) := fun k => by rw [List.map_map]; rfl
  rw [e, e, h]
/-- the words alone tell the program -/
theorem parse_same {b c : List UInt8} {l m : List Tok} (hb : scanF b = (l, 0, 0)) (hc : scanF c = (m, 0, 0)) (h : l.map s3 = m.map s3) : (parseF b).1 = (parseF c).1 ∧ (parseF b).2.2 = (parseF c).2.2 := by
  have hlen : l.length = m.length := by have := congrArg List.length h; simpa using this
  have hst : strip (parse0 b) = strip (parse0 c) := by
    unfold strip parse0
    rw [hb, hc]
    simp only
    rw [s3_un0 h]
  have e1 := st_prgL (l.length + 2) (parse0 b) []
  have e2 := st_prgL (l.length + 2) (parse0 c) []
  rw [hst, e2] at e1
  obtain ⟨f1, f2⟩ := Prod.mk.inj e1
  have g2 := congrArg Rs.e f2
  have f2 : (Rs.prgL (l.length + 2) (parse0 c) []).2.e = (Rs.prgL (l.length + 2) (parse0 b) []).2.e := g2
  have q1 : parseF b = if (Rs.prgL (l.length + 2) (parse0 b) []).2.e = 0 then ((Rs.prgL (l.length + 2) (parse0 b) []).1, 0, 0) else ([], (Rs.prgL (l.length + 2) (parse0 b) []).2.at', (Rs.prgL (l.length + 2) (parse0 b) []).2.e) := by
    unfold parseF; rw [hb]; exact if_pos rfl
  have q2 : parseF c = if (Rs.prgL (l.length + 2) (parse0 c) []).2.e = 0 then ((Rs.prgL (l.length + 2) (parse0 c) []).1, 0, 0) else ([], (Rs.prgL (l.length + 2) (parse0 c) []).2.at', (Rs.prgL (l.length + 2) (parse0 c) []).2.e) := by
    unfold parseF; rw [hc]; simp only; rw [← hlen]; exact if_pos True.intro
  rw [q1, q2, f1, f2]
  split
  · exact ⟨rfl, rfl⟩
  · exact ⟨rfl, rfl⟩
theorem tok_wd {s : List UInt8} (i : Nat) (h : (tokenF s).2 = true) : wdS (setAt (tokenF s).1 i) = s ∧ wdOk (setAt (tokenF s).1 i) = true := by
  have key : wdS (setAt (tokenF s).1 i) = s := by
    rcases tok_cases h with ⟨m, e, hm⟩ | hn | ⟨h2, h3⟩
    · rw [e, tok_num hm]; rfl
    · rw [tok_name hn]; simp [wdS, setAt, txt]
    · rw [tok_sign h2 h3]; simp [wdS, setAt, txt]
  refine ⟨key, ?_⟩
  unfold wdOk
  rw [key, h]; simp [setAt]
def chain (b : List UInt8) : Nat → List (Int × ByteArray × Int × Int) → Prop
  | _, [] => True
  | e, t :: r => ∃ a : Nat, t.2.2.2 = (a : Int) ∧ e ≤ a ∧ a + (wdS t).length ≤ b.length ∧ (b.drop a).take (wdS t).length = wdS t ∧ wdOk t = true ∧ chain b (a + (wdS t).length) r
theorem chain_le (b : List UInt8) : ∀ (l : List (Int × ByteArray × Int × Int)) (e f : Nat), f ≤ e → chain b e l → chain b f l
  | [], _, _, _, _ => trivial
  | t :: r, e, f, h, ⟨a, h1, h2, h3⟩ => ⟨a, h1, by omega, h3⟩
theorem chain_scan (b : List UInt8) : ∀ (f i : Nat), i ≤ b.length → chain b i (scanL f i (b.drop i)).1 ∧ ∀ x, (scanL f i (b.drop i)).2 = some x → x ≤ b.length := by
  intro f
  induction f with
  | zero =>
    intro i hi
    cases hd : b.drop i with
    | nil => exact ⟨trivial, fun x hx => by cases hx⟩
    | cons c r => exact ⟨trivial, fun x hx => by cases hx; exact hi⟩
  | succ f ih =>
    intro i hi
    cases hd : b.drop i with
    | nil => exact ⟨trivial, fun x hx => by cases hx⟩
    | cons c r =>
      have hlen : (b.drop i).length = b.length - i := List.length_drop ..
      have hlt : i < b.length := by rw [hd] at hlen; simp at hlen; omega
      have hr : b.drop (i + 1) = r := by rw [← List.drop_drop, hd]; rfl
      simp only [scanL]
      split
      · have := ih (i + 1) hlt
        rw [hr] at this
        exact ⟨chain_le b _ _ _ (Nat.le_succ i) this.1, this.2⟩
      · split
        · rename_i ht
          have hwl := wordF_le (c :: r)
          rw [← hd, hlen] at hwl
          have hdw : b.drop (i + wordF (b.drop i)) = (b.drop i).drop (wordF (b.drop i)) := by rw [List.drop_drop]
          have := ih (i + wordF (b.drop i)) (by omega)
          rw [hdw] at this
          rw [hd] at this hwl
          obtain ⟨k1, k2⟩ := tok_wd i ht
          have hl2 : (wdS (setAt (tokenF ((c :: r).take (wordF (c :: r)))).1 i)).length = wordF (c :: r) := by
            rw [k1, List.length_take, ← hd, hlen]; rw [hd]; omega
          refine ⟨⟨i, rfl, Nat.le_refl _, by rw [hl2]; omega, by rw [hl2, hd, k1], k2, by rw [hl2]; exact this.1⟩, this.2⟩
        · exact ⟨trivial, fun x hx => by cases hx; exact hi⟩
theorem chain_F (b : List UInt8) : chain b 0 (scanF b).1 := by
  unfold scanF
  split
  · exact trivial
  · have := (chain_scan b b.length 0 (Nat.zero_le _)).1
    rw [List.drop_zero] at this
    cases hc : (scanI 0 b).2 with
    | none => exact this
    | some x => exact trivial
theorem chain_len (b : List UInt8) : ∀ (l : List (Int × ByteArray × Int × Int)) (e : Nat), chain b e l → l = [] ∨ e + l.length ≤ b.length
  | [], _, _ => .inl rfl
  | t :: r, e, ⟨a, h1, h2, h3, h4, h5, h6⟩ => by
    have hw := wd_len h5
    right
    rcases chain_len b r _ h6 with rfl | h
    · simp; omega
    · simp only [List.length_cons]; omega
theorem scan_res (b : List UInt8) : (scanF b).2 = (0, 0) ∨ ((scanF b).1 = [] ∧ (scanF b).2.2 ≠ 0 ∧ 0 ≤ (scanF b).2.1 ∧ (scanF b).2.1 ≤ (b.length : Int)) := by
  unfold scanF
  split
  · exact .inr ⟨rfl, (by decide), (by show (0 : Int) ≤ 0; omega), (by show (0 : Int) ≤ b.length; omega)⟩
  · have := (chain_scan b b.length 0 (Nat.zero_le _)).2
    rw [List.drop_zero] at this
    cases hc : (scanI 0 b).2 with
    | none => exact .inl rfl
    | some x =>
      have := this x hc
      exact .inr ⟨rfl, (by show (3 : Int) ≠ 0; decide), (by show (0 : Int) ≤ (x : Int); omega), (by show (x : Int) ≤ b.length; omega)⟩
theorem ok_wdP {t : Int × ByteArray × Int × Int} (h : wdOk t = true) : okT t := by
  have e := wd_tok h
  have hc := tok_cases (w := wdS t) (by rw [e])
  unfold okT
  rcases hc with ⟨m, e1, hm⟩ | hn | ⟨h2, h3⟩
  · rw [e1, tok_num hm] at e
    have e2 : (2, (⟨#[]⟩ : ByteArray), m, (0 : Int)) = (t.1, t.2.1, t.2.2.1, 0) := congrArg Prod.fst e
    have h4 : m = t.2.2.1 := congrArg (fun x => x.2.2.1) e2
    have h5 : (⟨#[]⟩ : ByteArray) = t.2.1 := congrArg (fun x => x.2.1) e2
    have := hm.1
    have := hm.2
    rw [← h4, ← h5]
    exact ⟨by omega, by omega, by decide⟩
  · rw [tok_name hn] at e
    have e2 : (1, txt (wdS t), (0 : Int), (0 : Int)) = (t.1, t.2.1, t.2.2.1, 0) := congrArg Prod.fst e
    have h4 : 0 = t.2.2.1 := congrArg (fun x => x.2.2.1) e2
    have h5 : txt (wdS t) = t.2.1 := congrArg (fun x => x.2.1) e2
    have h6 : (txt (wdS t)).size = (wdS t).length := size_txt _
    have h7 := (wd_len h).1
    rw [← h4, ← h5, h6]
    exact ⟨by omega, by omega, by omega⟩
  · rw [tok_sign h2 h3] at e
    have e2 : (3, txt (wdS t), (0 : Int), (0 : Int)) = (t.1, t.2.1, t.2.2.1, 0) := congrArg Prod.fst e
    have h4 : 0 = t.2.2.1 := congrArg (fun x => x.2.2.1) e2
    have h5 : txt (wdS t) = t.2.1 := congrArg (fun x => x.2.1) e2
    have h6 : (txt (wdS t)).size = (wdS t).length := size_txt _
    have h7 := (wd_len h).1
    rw [← h4, ← h5, h6]
    exact ⟨by omega, by omega, by omega⟩
theorem chain_wd (b : List UInt8) : ∀ (l : List (Int × ByteArray × Int × Int)) (e : Nat), chain b e l → ∀ t ∈ l, wdOk t = true
  | [], _, _, t, h => by cases h
  | t :: r, e, ⟨a, h1, h2, h3, h4, h5, h6⟩, u, hu => by
    rcases List.mem_cons.1 hu with rfl | q
    · exact h5
    · exact chain_wd b r _ h6 u q
theorem scan_wd (b : List UInt8) : (scanF b).1.all wdOk = true := List.all_eq_true.2 (chain_wd b _ 0 (chain_F b))
theorem scan_okT (b : List UInt8) : ∀ t ∈ (scanF b).1, okT t := fun t ht => ok_wdP (chain_wd b _ 0 (chain_F b) t ht)
theorem placeF_s3 : ∀ (i : Nat) (l : List Tok), (placeF i l).map s3 = l.map s3
  | _, [] => rfl
  | i, t :: r => by simp only [placeF, List.map_cons]; rw [placeF_s3 _ r]; rfl
/-- the words of a text, joined, parse as the text -/
theorem parse_words {b : List UInt8} (h : (scanF b).2.2 = 0) (hl : (Lib.join ((scanF b).1.map wdS) [32]).length ≤ 6000) :
    (parseF b).1 = (parseF (Lib.join ((scanF b).1.map wdS) [32])).1 ∧ (parseF b).2.2 = (parseF (Lib.join ((scanF b).1.map wdS) [32])).2.2 := by
  have h1 : scanF b = ((scanF b).1, 0, 0) := by
    rcases scan_res b with q | q
    · exact Prod.ext rfl q
    · exact absurd h q.2.1
  have h2 : scanF (Lib.join ((scanF b).1.map wdS) [32]) = (placeF 0 (scanF b).1, 0, 0) := by
    have := scan_all _ (scan_wd b)
    generalize Lib.join ((scanF b).1.map wdS) [32] = c at this hl ⊢
    generalize placeF 0 (scanF b).1 = m at this ⊢
    unfold scanF
    rw [if_neg (by omega), this]
  exact parse_same h1 h2 (placeF_s3 _ _).symm
theorem namesL_len : ∀ (f : Nat) (r : Rs) (out : List ByteArray), (Rs.namesL f r out).1.length ≤ out.length + f
  | 0, _, _ => Nat.le_refl _
  | f + 1, r, out => by
    unfold Rs.namesL
    split
    · have := namesL_len f (r.name1 out.length).fresh (out ++ [(r.name1 out.length).freshV])
      rw [List.length_append, List.length_singleton] at this
      omega
    · show out.length ≤ _; omega
theorem paramsL_len : ∀ (f : Nat) (r : Rs) (out : List Ty), (Rs.paramsL f r out).1.length ≤ out.length + f
  | 0, _, _ => Nat.le_refl _
  | f + 1, r, out => by
    unfold Rs.paramsL
    split
    · have := paramsL_len f (r.param1 out.length).kind (out ++ [(r.param1 out.length).kindV])
      rw [List.length_append, List.length_singleton] at this
      omega
    · show out.length ≤ _; omega
theorem codeL_len : ∀ (f : Nat) (r : Rs) (out : List Ins), (Rs.codeL f r out).1.length ≤ out.length + f
  | 0, _, _ => Nat.le_refl _
  | f + 1, r, out => by
    unfold Rs.codeL
    split
    · have := codeL_len f (r.instr out.length).2 (out ++ [(r.instr out.length).1])
      rw [List.length_append, List.length_singleton] at this
      omega
    · show out.length ≤ _; omega
theorem catchL_len : ∀ (f : Nat) (r : Rs) (out : List Cat), (Rs.catchL f r out).1.length ≤ out.length + f
  | 0, _, _ => Nat.le_refl _
  | f + 1, r, out => by
    unfold Rs.catchL
    split
    · have := catchL_len f (r.ca1 out.length).catR (out ++ [(r.ca1 out.length).catV])
      rw [List.length_append, List.length_singleton] at this
      omega
    · show out.length ≤ _; omega
theorem names_len (r : Rs) : r.names.1.length ≤ r.L.length + 3 := by
  unfold Rs.names
  have := namesL_len (r.L.length + 2) r.fresh [r.freshV]
  rw [List.length_singleton] at this
  omega
theorem params_len (r : Rs) : r.params.1.length ≤ r.L.length + 3 := by
  unfold Rs.params
  split
  · show 0 ≤ _; omega
  · have := paramsL_len (r.L.length + 2) (r.want wLp).kind [(r.want wLp).kindV]
    rw [List.length_singleton] at this
    show (Rs.paramsL (r.L.length + 2) (r.want wLp).kind [(r.want wLp).kindV]).1.length ≤ _
    omega
theorem mmV_len (r : Rs) (s : Bool) (h : r.L.length + 10 ≤ LB) : mLen (r.mmV s) := by
  have h0 := params_len r.fresh
  rw [(Rs.fresh_fwd r).L] at h0
  have h1 := codeL_len (r.mm1.L.length + 2) r.mm1.bo1 []
  have h2 := catchL_len (r.mm1.L.length + 2) r.mm1.boCode.2 []
  rw [(Rs.mm1_fwd r).L, List.length_nil] at h1 h2
  unfold Rs.mmV
  split
  · exact ⟨by show r.fresh.params.1.length ≤ _; omega, by show 0 ≤ _; omega, by show 0 ≤ _; omega⟩
  · refine ⟨by show r.fresh.params.1.length ≤ _; omega, ?_, ?_⟩
    · show (Rs.codeL (r.mm1.L.length + 2) r.mm1.bo1 []).1.length ≤ _
      rw [(Rs.mm1_fwd r).L]; omega
    · show (Rs.catchL (r.mm1.L.length + 2) r.mm1.boCode.2 []).1.length ≤ _
      rw [(Rs.mm1_fwd r).L]; omega
theorem clsL_len : ∀ (f : Nat) (r : Rs) (c : Cls), r.L.length + 10 ≤ LB → c.ifaces.length ≤ LB → c.fields.length + f ≤ LB → c.methods.length + f ≤ LB → (∀ m ∈ c.methods, mLen m) → cLen (Rs.clsL f r c).1
  | 0, _, _, _, h1, h2, h3, h4 => ⟨h1, Nat.le_trans (Nat.le_add_right _ 0) h2, Nat.le_trans (Nat.le_add_right _ 0) h3, h4⟩
  | f + 1, r, c, h, h1, h2, h3, h4 => by
    unfold Rs.clsL
    split
    · split
      · exact ⟨h1, by show c.fields.length ≤ _; omega, by show c.methods.length ≤ _; omega, h4⟩
      · have hL := (Rs.member_fwd r c).L
        refine clsL_len f _ _ (by rw [hL]; exact h) ?_ ?_ ?_ ?_
        all_goals unfold Rs.member
        · split
          · exact h1
          · split <;> exact h1
        · split
          · show (c.fields ++ [_]).length + f ≤ _
            rw [List.length_append, List.length_singleton]; omega
          · split
            · show c.fields.length + f ≤ _; omega
            · show c.fields.length + f ≤ _; omega
        · split
          · show c.methods.length + f ≤ _; omega
          · split
            · show (c.methods ++ [_]).length + f ≤ _
              rw [List.length_append, List.length_singleton]; omega
            · show c.methods.length + f ≤ _; omega
        · split
          · exact h4
          · split
            · intro m hm
              rcases List.mem_append.1 hm with q | q
              · exact h4 m q
              · rw [List.mem_singleton.1 q]
                exact mmV_len _ _ (by rw [(Rs.memF_fwd r _).L]; exact h)
            · exact h4
    · exact ⟨h1, by show c.fields.length ≤ _; omega, by show c.methods.length ≤ _; omega, h4⟩
theorem class_len (r : Rs) (k : Int) (h : r.L.length + 10 ≤ LB) : cLen (r.class' k).1 := by
  have e1 : (r.cl1 k).fresh.L = r.L := (Rs.fresh_fwd _).L.trans (Rs.cl1_fwd r k).L
  have e2 : ((r.cl1 k).fresh.ex1 (r.is wInterface)).2.L = r.L := (Rs.ex1_fwd _ _).L.trans e1
  have e3 : (r.clR k).L = r.L := (Rs.want_fwd _ _).L.trans ((Rs.ex2_fwd _ _ _).L.trans e2)
  have hx : ∀ b, ((r.cl1 k).fresh.ex1 b).1.2.length ≤ LB := by
    intro b
    unfold Rs.ex1
    split
    · split
      · have := names_len (r.cl1 k).fresh.step
        have e4 : (r.cl1 k).fresh.step.L = r.L := e1
        rw [e4] at this
        show (r.cl1 k).fresh.step.names.1.length ≤ _; omega
      · show 0 ≤ _; omega
    · show 0 ≤ _; omega
  unfold Rs.class'
  refine clsL_len _ _ _ (by rw [e3]; exact h) ?_ (by show 0 + _ ≤ _; omega) (by show 0 + _ ≤ _; omega) (fun m hm => by cases hm)
  show ((((r.cl1 k).fresh.ex1 (r.is wInterface)).2.ex2 (r.is wInterface) ((r.cl1 k).fresh.ex1 (r.is wInterface)).1.2).1).length ≤ LB
  unfold Rs.ex2
  split
  · have := names_len ((r.cl1 k).fresh.ex1 (r.is wInterface)).2.step
    have e4 : ((r.cl1 k).fresh.ex1 (r.is wInterface)).2.step.L = r.L := e2
    rw [e4] at this
    omega
  · exact hx _
theorem prgL_len : ∀ (f : Nat) (r : Rs) (out : List Cls), r.L.length + 10 ≤ LB → out.length + f ≤ LB → (∀ c ∈ out, cLen c) → pLen (Rs.prgL f r out).1
  | 0, _, _, _, h2, h3 => ⟨Nat.le_trans (Nat.le_add_right _ 0) h2, h3⟩
  | f + 1, r, out, h, h2, h3 => by
    unfold Rs.prgL
    split
    · refine prgL_len f _ _ (by rw [(Rs.class_fwd r _).L]; exact h) (by rw [List.length_append, List.length_singleton]; omega) (fun c hc => ?_)
      rcases List.mem_append.1 hc with q | q
      · exact h3 c q
      · rw [List.mem_singleton.1 q]; exact class_len r _ h
    · exact ⟨by show out.length ≤ _; omega, h3⟩
theorem parse_len (b : List UInt8) : pLen (parseF b).1 := by
  have hk := scan_count b
  unfold parseF
  split
  · split
    · exact prgL_len _ _ _ (by show (scanF b).1.length + 10 ≤ 4611686018427387904; omega) (by show 0 + _ ≤ 4611686018427387904; omega) (fun c hc => by cases hc)
    · exact ⟨Nat.zero_le _, fun c hc => by cases hc⟩
  · exact ⟨Nat.zero_le _, fun c hc => by cases hc⟩
theorem lens_max (k : Nat) (l : List (Int × ByteArray × Int × Int)) (h : l.all wdOk = true) : (Lib.join (l.map wdS) [32]).length ≤ 21 * l.length := by
  have hb := lens_le 20 (l.map wdS) (fun x hx => by
    obtain ⟨t, ht, rfl⟩ := List.mem_map.1 hx
    exact (wd_len (List.all_eq_true.1 h t ht)).1)
  simp only [List.length_map] at hb
  have tl : ∀ r : List (List UInt8), (Lib.joinTail [32] r).length = Lib.lens r + r.length := by
    intro r
    induction r with
    | nil => rfl
    | cons y r ih =>
      simp only [Lib.joinTail, List.map_cons, List.flatten_cons, List.length_append, Lib.lens, List.sum_cons, List.length_cons] at *
      simp only [List.length_nil]
      omega
  have key : ∀ m : List (List UInt8), (Lib.join m [32]).length ≤ Lib.lens m + m.length := by
    intro m
    cases m with
    | nil => simp [Lib.join_nil]
    | cons x r =>
      rw [Lib.join_cons]
      simp only [List.length_append, tl, Lib.lens, List.map_cons, List.sum_cons, List.length_cons]
      omega
  have := key (l.map wdS)
  simp only [List.length_map] at this
  omega
def ParseBlanks : Ctr := { A := List UInt8, enc := fun b => [.row UInt8 1 byteC 0 b], dom := fun b => True, res := fun _ _ => .tt, gl := tabP }
set_option maxRecDepth 100000 in
set_option maxHeartbeats 4000000 in
theorem ParseBlanks_ok : CtrSound Tryd.prog 9 ParseBlanks :=
  ctr_of_ax (env_okB tys_ok (eqs := []) trivial (cs := [(25, scanC), (26, ljoinC), (16, parseC), (27, kPrg), (15, lC)]) ⟨scan_ok, ljoin_ok, parse_ok, kPrg_ok, wakesP_ok, trivial⟩ (bs := []) trivial (gl := tabP)) mixed _ Tryd.func9 (by kernel_rfl) rfl (fun _ _ => Nat.le_of_ble_eq_true rfl) fun (b : List UInt8) id hd => by
    refine ⟨fun h => ⟨.refl _, rfl⟩, fun h => ?_⟩
    have hlb : b.length ≤ 7000 := by have := of_decide_eq_false h; omega
    refine ⟨b, ⟨.refl _, trivial⟩, rfl, (show b.length ≤ 4611686018427387904 by omega), ?_⟩
    have hw := scan_wd b
    have hc := scan_count b
    have hlen := lens_max 0 _ hw
    have hj : joinF (scanF b).1 = (Lib.join ((scanF b).1.map wdS) [32], 0) := by unfold joinF; exact if_pos hw
    have j1 : (joinF (scanF b).1).2 = 0 := by rw [hj]
    have j2 : (joinF (scanF b).1).1 = Lib.join ((scanF b).1.map wdS) [32] := by rw [hj]
    have hpw := @parse_words b
    rw [← j2] at hlen hpw
    refine ⟨fun h => ?_, fun h => ?_⟩
    · refine ⟨(), trivial, rfl, trivial, ?_⟩
      exact ⟨.refl _, rfl⟩
    have he : (scanF b).2.2 = 0 := by simpa using h
    refine ⟨(scanF b).1, ⟨.own .., trivial⟩, rfl, (show (scanF b).1.length ≤ 100000 ∧ ∀ t ∈ (scanF b).1, okT t from ⟨by omega, scan_okT b⟩), ?_⟩
    refine ⟨fun h => absurd h (by rw [j1]; decide), fun _ => ?_⟩
    refine ⟨fun h => ?_, fun h => ?_⟩
    · refine ⟨(), trivial, rfl, trivial, ?_⟩
      exact ⟨.refl _, rfl⟩
    have hl : (joinF (scanF b).1).1.length ≤ 6000 := by have := of_decide_eq_false h; omega
    obtain ⟨g1, g2⟩ := hpw he hl
    refine ⟨b, ⟨.refl _, trivial⟩, rfl, (show b.length ≤ 4611686018427387904 by omega), ?_⟩
    refine ⟨(joinF (scanF b).1).1, ⟨.own .., trivial⟩, rfl, (show (joinF (scanF b).1).1.length ≤ 4611686018427387904 by omega), ?_⟩
    have q1 : (parseF b).2.2 == (parseF (joinF (scanF b).1).1).2.2 := by rw [g2]; simp
    refine ⟨fun h => ?_, fun h => absurd (show ((parseF b).2.2 == (parseF (joinF (scanF b).1).1).2.2) = false from h) (by rw [q1]; decide)⟩
    refine ⟨((parseF b).1, (parseF (joinF (scanF b).1).1).1), ⟨.refl _, .refl _, trivial⟩, rfl, ⟨parse_len _, parse_len _⟩, ?_⟩
    refine ⟨fun h => ?_, fun h => absurd (show decide ((parseF b).1 = (parseF (joinF (scanF b).1).1).1) = false from h) (by rw [decide_eq_true g1]; decide)⟩
    refine ⟨(), trivial, rfl, trivial, ?_⟩
    exact ⟨.refl _, rfl⟩
end Go.Proofs.YtimhbimpaiiceaaDoor.Ax
/- Layer parse: ParseCut. -/
set_option linter.unusedVariables false
set_option linter.unusedSimpArgs false
namespace Go.Proofs.YtimhbimpaiiceaaDoor.Ax
open Go Go.RowKit
namespace Rs
def rem (r : Rs) : List T3 := (r.L.drop r.i).map s3
/-- both are wrong alike, or what is left of the first is what is left of the second and X behind it -/
def Rel (X : List T3) (r s : Rs) : Prop := r.e = s.e ∧ (r.e = 0 → rem r = rem s ++ X)
def Halt (s : Rs) : Prop := (s.e = 0 ∧ s.L.length ≤ s.i) ∨ (s.e = 4 ∧ s.at' = s.n)
def Out (X : List T3) {α : Type} (a b : α × Rs) : Prop := (a.1 = b.1 ∧ Rel X a.2 b.2) ∨ (X ≠ [] ∧ Halt b.2)
def OutR (X : List T3) (a b : Rs) : Prop := Rel X a b ∨ (X ≠ [] ∧ Halt b)
theorem rem_nil {r : Rs} : rem r = [] ↔ r.L.length ≤ r.i := by simp [rem]
theorem rem_cons {r : Rs} {t : T3} {l : List T3} (h : rem r = t :: l) : r.i < r.L.length ∧ s3 (r.L.getD r.i tok0) = t ∧ rem r.step = l := by
  have hi : r.i < r.L.length := Nat.lt_of_not_le fun c => by rw [rem_nil.2 c] at h; cases h
  unfold rem at h
  rw [List.drop_eq_getElem_cons hi, List.map_cons] at h
  injection h with h1 h2
  refine ⟨hi, ?_, h2⟩
  have hg : r.L.getD r.i tok0 = r.L[r.i] := by simp [List.getD, hi]
  rw [hg]; exact h1
theorem look {X : List T3} {r s : Rs} (h : Rel X r s) : (X ≠ [] ∧ s.e = 0 ∧ s.L.length ≤ s.i) ∨ s3 r.next = s3 s.next := by
  by_cases he : r.e = 0
  · have hs : s.e = 0 := h.1 ▸ he
    have hr := h.2 he
    cases hm : rem s with
    | nil =>
      have hi := rem_nil.1 hm
      by_cases hX : X = []
      · right
        rw [hm, hX] at hr
        have hj := rem_nil.1 hr
        rw [next_none (fun c => by omega), next_none (fun c => by omega)]
      · exact .inl ⟨hX, hs, hi⟩
    | cons t l =>
      rw [hm] at hr
      obtain ⟨h1, h2, h3⟩ := rem_cons hm
      obtain ⟨k1, k2, k3⟩ := rem_cons (show rem r = t :: (l ++ X) from hr)
      right
      rw [next_some ⟨he, k1⟩, next_some ⟨hs, h1⟩, h2, k2]
  · right
    have hs : ¬ s.e = 0 := h.1 ▸ he
    rw [next_none (fun c => he c.1), next_none (fun c => hs c.1)]
theorem nx1 {r s : Rs} (h : s3 r.next = s3 s.next) : r.next.1 = s.next.1 := by have := congrArg Prod.fst h; exact this
theorem nx2 {r s : Rs} (h : s3 r.next = s3 s.next) : r.next.2.1 = s.next.2.1 := by have := congrArg (fun x => x.2.1) h; exact this
theorem nx3 {r s : Rs} (h : s3 r.next = s3 s.next) : r.next.2.2.1 = s.next.2.2.1 := by have := congrArg (fun x => x.2.2) h; exact this
theorem is_eq {r s : Rs} (h : s3 r.next = s3 s.next) (w : ByteArray) : r.is w = s.is w := by unfold is; rw [nx2 h]
theorem free_eq {r s : Rs} (h : s3 r.next = s3 s.next) : r.free = s.free := by unfold free; rw [nx1 h, nx2 h]
theorem freshV_eq {r s : Rs} (h : s3 r.next = s3 s.next) : r.freshV = s.freshV := by unfold freshV; rw [free_eq h, nx2 h]
theorem numOk_eq {r s : Rs} (h : s3 r.next = s3 s.next) (a b : Int) : r.numOk a b = s.numOk a b := by unfold numOk; rw [nx1 h, nx3 h]
theorem numV_eq {r s : Rs} (h : s3 r.next = s3 s.next) (a b : Int) : r.numV a b = s.numV a b := by unfold numV; rw [numOk_eq h, nx3 h]
theorem isOp_eq {r s : Rs} (h : s3 r.next = s3 s.next) : r.isOp = s.isOp := by unfold isOp; rw [nx1 h, nx2 h]
theorem step_rel {X : List T3} {r s : Rs} (h : Rel X r s) (k : s.e = 0 ∧ s.i < s.L.length) : Rel X r.step s.step := by
  refine ⟨h.1, fun he => ?_⟩
  have hr := h.2 he
  cases hm : rem s with
  | nil => have := rem_nil.1 hm; omega
  | cons t l =>
    rw [hm] at hr
    rw [(rem_cons hm).2.2, (rem_cons (show rem r = t :: (l ++ X) from hr)).2.2]
theorem fail_rel {X : List T3} {r s : Rs} (h : Rel X r s) {e : Int} (he : e ≠ 0) : Rel X (r.fail e) (s.fail e) := by
  by_cases h0 : r.e = 0
  · have h1 : s.e = 0 := h.1 ▸ h0
    have e1 : (r.fail e).e = e := by unfold fail; rw [if_pos h0]
    have e2 : (s.fail e).e = e := by unfold fail; rw [if_pos h1]
    exact ⟨by rw [e1, e2], fun c => absurd (e1 ▸ c) he⟩
  · have h1 : ¬ s.e = 0 := h.1 ▸ h0
    have e1 : r.fail e = r := by unfold fail; rw [if_neg h0]
    have e2 : s.fail e = s := by unfold fail; rw [if_neg h1]
    rw [e1, e2]; exact h
theorem room_rel {X : List T3} {r s : Rs} (h : Rel X r s) (a b : Int) : Rel X (r.room a b) (s.room a b) := by
  unfold room; split
  · exact fail_rel h (by decide)
  · exact h
theorem halt_next {s : Rs} (h : Halt s) : s.next = tok0 := next_none fun c => by
  rcases h with h | h
  · omega
  · have := c.1; have := h.1; omega
theorem halt_is {s : Rs} (h : Halt s) (w : ByteArray) : s.is w = false := by
  cases hc : s.is w with
  | false => rfl
  | true =>
    have := is_at hc
    rcases h with h | h
    · omega
    · have := h.1; omega
theorem halt_free {s : Rs} (h : Halt s) : s.free = false := by unfold free; rw [halt_next h]; rfl
theorem halt_num {s : Rs} (h : Halt s) (a b : Int) : s.numOk a b = false := by
  unfold numOk; rw [halt_next h]; exact decide_eq_false fun c => by have := c.1; revert this; decide
theorem halt_op {s : Rs} (h : Halt s) : s.isOp = false := by unfold isOp; rw [halt_next h]; rfl
theorem halt_fail {s : Rs} (h : Halt s) : Halt (s.fail 4) := by
  unfold fail
  split
  · rename_i h0
    rcases h with h | h
    · right; exact ⟨rfl, by show (if _ then _ else _) = _; rw [if_neg (by have := h.2; show ¬ s.i < s.L.length; omega)]⟩
    · exact absurd h0 (by rw [h.1]; decide)
  · exact h
theorem halt_want {s : Rs} (h : Halt s) (w : ByteArray) : Halt (s.want w) := by unfold want; rw [halt_is h]; exact halt_fail h
theorem halt_fresh {s : Rs} (h : Halt s) : Halt s.fresh := by unfold fresh; rw [halt_free h]; exact halt_fail h
theorem halt_numR {s : Rs} (h : Halt s) (a b : Int) : Halt (s.num a b) := by unfold num; rw [halt_num h]; exact halt_fail h
theorem want_out {X : List T3} {r s : Rs} (h : Rel X r s) (w : ByteArray) : OutR X (r.want w) (s.want w) := by
  rcases look h with k | k
  · exact .inr ⟨k.1, halt_want (.inl k.2) w⟩
  · left
    unfold want
    rw [is_eq k]
    split
    · exact step_rel h (is_at (by assumption))
    · exact fail_rel h (by decide)
theorem fresh_out {X : List T3} {r s : Rs} (h : Rel X r s) : Out X (r.freshV, r.fresh) (s.freshV, s.fresh) := by
  rcases look h with k | k
  · exact .inr ⟨k.1, halt_fresh (.inl k.2)⟩
  · left
    refine ⟨freshV_eq k, ?_⟩
    show Rel X r.fresh s.fresh
    unfold fresh
    rw [free_eq k]
    split
    · exact step_rel h (free_at (by assumption))
    · exact fail_rel h (by decide)
theorem num_out {X : List T3} {r s : Rs} (h : Rel X r s) (a b : Int) : Out X (r.numV a b, r.num a b) (s.numV a b, s.num a b) := by
  rcases look h with k | k
  · exact .inr ⟨k.1, halt_numR (.inl k.2) a b⟩
  · left
    refine ⟨numV_eq k a b, ?_⟩
    show Rel X (r.num a b) (s.num a b)
    unfold num
    rw [numOk_eq k]
    split
    · exact step_rel h (num_at (by assumption))
    · exact fail_rel h (by decide)
theorem Out.bind {X : List T3} {α β : Type} {a b : α × Rs} {c d : β × Rs} (h : Out X a b) (g : a.1 = b.1 → Rel X a.2 b.2 → Out X c d) (k : Halt b.2 → Halt d.2) : Out X c d := by
  rcases h with h | h
  · exact g h.1 h.2
  · exact .inr ⟨h.1, k h.2⟩
theorem OutR.bind {X : List T3} {a b c d : Rs} (h : OutR X a b) (g : Rel X a b → OutR X c d) (k : Halt b → Halt d) : OutR X c d := by
  rcases h with h | h
  · exact g h
  · exact .inr ⟨h.1, k h.2⟩
theorem OutR.bindV {X : List T3} {β : Type} {a b : Rs} {c d : β × Rs} (h : OutR X a b) (g : Rel X a b → Out X c d) (k : Halt b → Halt d.2) : Out X c d := by
  rcases h with h | h
  · exact g h
  · exact .inr ⟨h.1, k h.2⟩
theorem Out.r {X : List T3} {α : Type} {a b : α × Rs} (h : Out X a b) : OutR X a.2 b.2 := h.elim (fun h => .inl h.2) .inr
/-- loops -/
def loop {γ : Type} (C : Rs → Bool) (G : Rs → γ → γ × Rs) : Nat → Rs → γ → γ × Rs
  | 0, r, c => (c, r)
  | f + 1, r, c => if C r then loop C G f (G r c).2 (G r c).1 else (c, r)
structure LoopOk (X : List T3) {γ : Type} (C : Rs → Bool) (G : Rs → γ → γ × Rs) : Prop where
  eq : ∀ {r s : Rs}, s3 r.next = s3 s.next → C r = C s
  now : ∀ {r : Rs}, C r = true → r.e = 0 ∧ r.i < r.L.length
  out : ∀ {r s : Rs} (c : γ), Rel X r s → C s = true → Out X (G r c) (G s c)
  fwd : ∀ {r : Rs} (c : γ), C r = true → Fwd r (G r c).2 ∧ ((G r c).2.e ≠ 0 ∨ r.i < (G r c).2.i)
def Room (f : Nat) (r : Rs) : Prop := r.e = 0 → (rem r).length < f
theorem rem_length (r : Rs) : (rem r).length = r.L.length - r.i := by simp [rem]
theorem room_step {f : Nat} {r s : Rs} (h : Room (f + 1) r) (he : r.e = 0 ∧ r.i < r.L.length) (hf : Fwd r s ∧ (s.e ≠ 0 ∨ r.i < s.i)) : Room f s := fun e => by
  have h1 := h he.1
  rw [rem_length] at h1 ⊢
  have h2 : s.L = r.L := hf.1.L
  have h3 : r.i < s.i := hf.2.resolve_left (fun q => q e)
  have := he.2
  rw [h2]; omega
theorem halt_off {X : List T3} {γ : Type} {C : Rs → Bool} {G : Rs → γ → γ × Rs} (o : LoopOk X C G) {s : Rs} (h : Halt s) : C s = false := by
  cases hc : C s with
  | false => rfl
  | true =>
    have := o.now hc
    rcases h with h | h
    · omega
    · have := h.1; omega
theorem halt_loop {X : List T3} {γ : Type} {C : Rs → Bool} {G : Rs → γ → γ × Rs} (o : LoopOk X C G) (f : Nat) {s : Rs} (h : Halt s) (c : γ) : Halt (loop C G f s c).2 := by
  cases f with
  | zero => exact h
  | succ f => unfold loop; rw [halt_off o h]; exact h
theorem loop_out {X : List T3} {γ : Type} {C : Rs → Bool} {G : Rs → γ → γ × Rs} (o : LoopOk X C G) : ∀ (f g : Nat) (r s : Rs) (c : γ), Rel X r s → Room f r → Room g s → Out X (loop C G f r c) (loop C G g s c)
  | 0, g, r, s, c, h, hf, hg => by
    have he : ¬ r.e = 0 := fun c => by have := hf c; omega
    have hs : ¬ s.e = 0 := h.1 ▸ he
    have e : loop C G g s c = (c, s) := by
      cases g with
      | zero => rfl
      | succ g =>
        unfold loop
        cases hc : C s with
        | false => rfl
        | true => exact absurd (o.now hc).1 hs
    rw [e]; exact .inl ⟨rfl, h⟩
  | f + 1, g, r, s, c, h, hf, hg => by
    rcases look h with q | q
    · exact .inr ⟨q.1, halt_loop o g (.inl q.2) c⟩
    · cases hc : C s with
      | false =>
        have e : loop C G g s c = (c, s) := by
          cases g with
          | zero => rfl
          | succ g => unfold loop; rw [hc]; rfl
        have e2 : loop C G (f + 1) r c = (c, r) := by unfold loop; rw [o.eq q, hc]; rfl
        rw [e, e2]; exact .inl ⟨rfl, h⟩
      | true =>
        have hn := o.now hc
        have hn2 := o.now ((o.eq q).trans hc)
        cases g with
        | zero => have := hg hn.1; omega
        | succ g =>
          have e : loop C G (g + 1) s c = loop C G g (G s c).2 (G s c).1 := by rw [loop, hc]; rfl
          have e2 : loop C G (f + 1) r c = loop C G f (G r c).2 (G r c).1 := by rw [loop, o.eq q, hc]; rfl
          rw [e, e2]
          refine (o.out c h hc).bind (fun h1 h2 => ?_) (fun h => halt_loop o g h _)
          rw [h1]
          exact loop_out o f g _ _ _ h2 (room_step hf hn2 (o.fwd c ((o.eq q).trans hc))) (room_step hg hn (o.fwd c hc))
theorem room_of {a b : Rs} (h : Fwd a b) : Room (a.L.length + 2) b := fun _ => by rw [rem_length, h.L]; omega
/-- names -/
theorem name1_out {X : List T3} {r s : Rs} (h : Rel X r s) (hs : s.e = 0 ∧ s.i < s.L.length) (k : Int) : OutR X (r.name1 k) (s.name1 k) := by
  have hp := step_rel h hs
  unfold name1
  rcases look hp with q | q
  · have hh : Halt s.step := .inl q.2
    rw [halt_free hh]
    exact .inr ⟨q.1, hh⟩
  · rw [free_eq q]
    split
    · exact .inl (room_rel hp _ _)
    · exact .inl hp
theorem namesL_loop : ∀ (f : Nat) (r : Rs) (out : List ByteArray), namesL f r out = loop (fun r => r.is wComma) (fun r out => (out ++ [(r.name1 out.length).freshV], (r.name1 out.length).fresh)) f r out
  | 0, _, _ => rfl
  | f + 1, r, out => by unfold namesL loop; split; exact namesL_loop f _ _; rfl
theorem names_ok (X : List T3) : LoopOk X (fun r => r.is wComma) (fun (r : Rs) (out : List ByteArray) => (out ++ [(r.name1 out.length).freshV], (r.name1 out.length).fresh)) where
  eq h := is_eq h _
  now h := is_at h
  out {r s} c h hc := (name1_out h (is_at hc) c.length).bindV (fun k => (fresh_out k).elim (fun q => .inl ⟨congrArg (fun x => c ++ [x]) q.1, q.2⟩) .inr) halt_fresh
  fwd {r} c hc := ⟨(name1_fwd (is_at hc) _).trans (fresh_fwd _), on_fwd (name1_on r _) (fresh_fwd _)⟩
theorem names_out {X : List T3} {r s : Rs} (h : Rel X r s) : Out X r.names s.names := by
  unfold names
  refine (fresh_out h).bind (fun h1 h2 => ?_) (fun h => ?_)
  · have h1 : r.freshV = s.freshV := h1
    rw [namesL_loop, namesL_loop, h1]
    exact loop_out (names_ok X) _ _ _ _ _ h2 (room_of (fresh_fwd r)) (room_of (fresh_fwd s))
  · rw [namesL_loop]; exact halt_loop (names_ok X) _ h _
theorem halt_rowR {s : Rs} (h : Halt s) : Halt s.rowR := by unfold rowR; rw [halt_is h]; exact h
theorem rowR_out {X : List T3} {r s : Rs} (h : Rel X r s) : OutR X r.rowR s.rowR := by
  rcases look h with q | q
  · exact .inr ⟨q.1, halt_rowR (.inl q.2)⟩
  · unfold rowR
    rw [is_eq q]
    split
    · exact want_out (step_rel h (is_at (by assumption))) _
    · exact .inl h
theorem halt_kind {s : Rs} (h : Halt s) : Halt s.kind := by
  unfold kind; rw [halt_is h, halt_is h]; exact halt_rowR (halt_fresh h)
theorem Out.of {X : List T3} {α : Type} {a b : α} {r s : Rs} (h : a = b) (k : OutR X r s) : Out X (a, r) (b, s) := k.elim (fun q => .inl ⟨h, q⟩) .inr
theorem kind_out {X : List T3} {r s : Rs} (h : Rel X r s) : Out X (r.kindV, r.kind) (s.kindV, s.kind) := by
  rcases look h with q | q
  · exact .inr ⟨q.1, halt_kind (.inl q.2)⟩
  · unfold kindV kind
    rw [is_eq q, is_eq q]
    split
    · exact .inl ⟨rfl, step_rel h (is_at (by assumption))⟩
    · split
      · have hp := step_rel h (is_at (by assumption))
        rcases look hp with k | k
        · exact .inr ⟨k.1, halt_rowR (.inl k.2)⟩
        · rw [is_eq k]; exact .of rfl (rowR_out hp)
      · refine (fresh_out h).bind (fun h1 h2 => ?_) (fun k => halt_rowR k)
        have h1 : r.freshV = s.freshV := h1
        have h2 : Rel X r.fresh s.fresh := h2
        rcases look h2 with k | k
        · exact .inr ⟨k.1, halt_rowR (.inl k.2)⟩
        · rw [is_eq k, h1]; exact .of rfl (rowR_out h2)
theorem param1_out {X : List T3} {r s : Rs} (h : Rel X r s) (hs : s.e = 0 ∧ s.i < s.L.length) (k : Int) : OutR X (r.param1 k) (s.param1 k) := by
  have hp := step_rel h hs
  unfold param1
  rcases look hp with q | q
  · have hh : Halt s.step := .inl q.2
    rw [halt_free hh, halt_is hh, halt_is hh]
    exact .inr ⟨q.1, hh⟩
  · rw [free_eq q, is_eq q, is_eq q]
    split
    · exact .inl (room_rel hp _ _)
    · exact .inl hp
abbrev paG (r : Rs) (out : List Ty) : List Ty × Rs := (out ++ [(r.param1 out.length).kindV], (r.param1 out.length).kind)
theorem paramsL_loop : ∀ (f : Nat) (r : Rs) (out : List Ty), paramsL f r out = loop (fun r => r.is wComma) paG f r out
  | 0, _, _ => rfl
  | f + 1, r, out => by unfold paramsL loop; split; exact paramsL_loop f _ _; rfl
theorem pa_ok (X : List T3) : LoopOk X (fun r => r.is wComma) paG where
  eq h := is_eq h _
  now h := is_at h
  out {r s} c h hc := (param1_out h (is_at hc) c.length).bindV (fun k => (kind_out k).elim (fun q => .inl ⟨congrArg (fun x => c ++ [x]) q.1, q.2⟩) .inr) halt_kind
  fwd {r} c hc := ⟨(param1_fwd (is_at hc) _).trans (kind_fwd _), on_fwd (param1_on r _) (kind_fwd _)⟩
theorem halt_params {s : Rs} (h : Halt s) : Halt s.params.2 := by
  unfold params
  rw [halt_is (halt_want h _)]
  show Halt ((paramsL _ _ _).2.want wRp)
  rw [paramsL_loop]
  exact halt_want (halt_loop (pa_ok []) _ (halt_kind (halt_want h _)) _) _
theorem params_out {X : List T3} {r s : Rs} (h : Rel X r s) : Out X r.params s.params := by
  refine (want_out h wLp).bindV (fun k => ?_) (fun k => ?_)
  · rcases look k with q | q
    · right
      refine ⟨q.1, ?_⟩
      have hh : Halt (s.want wLp) := .inl q.2
      unfold params
      rw [halt_is hh]
      show Halt ((paramsL _ _ _).2.want wRp)
      rw [paramsL_loop]
      exact halt_want (halt_loop (pa_ok []) _ (halt_kind hh) _) _
    · unfold params
      rw [is_eq q]
      split
      · exact .inl ⟨rfl, step_rel k (is_at (by assumption))⟩
      · refine (kind_out k).bind (fun h1 h2 => ?_) (fun k => ?_)
        · have h1 : (r.want wLp).kindV = (s.want wLp).kindV := h1
          rw [paramsL_loop, paramsL_loop, h1]
          refine (loop_out (pa_ok X) _ _ _ _ _ h2 (room_of ((want_fwd r _).trans (kind_fwd _))) (room_of ((want_fwd s _).trans (kind_fwd _)))).bind (fun h3 h4 => ?_) (fun k => halt_want k _)
          exact .of h3 (want_out h4 _)
        · show Halt ((paramsL _ _ _).2.want wRp)
          rw [paramsL_loop]
          exact halt_want (halt_loop (pa_ok []) _ k _) _
  · unfold params
    rw [halt_is k]
    show Halt ((paramsL _ _ _).2.want wRp)
    rw [paramsL_loop]
    exact halt_want (halt_loop (pa_ok []) _ (halt_kind k) _) _
theorem in2_out {X : List T3} {r s : Rs} (h : Rel X r s) (o : Int) : Out X (r.in2V o, r.in2 o) (s.in2V o, s.in2 o) := by
  unfold in2 in2V
  split
  · exact num_out h _ _
  · exact .inl ⟨rfl, h⟩
theorem in3_out {X : List T3} {r s : Rs} (h : Rel X r s) (b : Bool) : Out X (r.in3V b, r.in3 b) (s.in3V b, s.in3 b) := by
  unfold in3 in3V
  split
  · exact fresh_out h
  · exact .inl ⟨rfl, h⟩
theorem halt_in2 {s : Rs} (h : Halt s) (o : Int) : Halt (s.in2 o) := by
  unfold in2; split
  · exact halt_numR h _ _
  · exact h
theorem halt_in3 {s : Rs} (h : Halt s) (b : Bool) : Halt (s.in3 b) := by
  unfold in3; split
  · exact halt_fresh h
  · exact h
theorem halt_instr {s : Rs} (o : Int) (h : Halt s) : Halt ((s.inArgs o).want wSemi) := halt_want (halt_in3 (halt_in3 (halt_in2 h o) _) _) _
theorem inArgs_out {X : List T3} {r s : Rs} (h : Rel X r s) (o : Int) : Out X (r.inVal o, r.inArgs o) (s.inVal o, s.inArgs o) := by
  refine (in2_out h o).bind (fun h1 h2 => ?_) (fun k => halt_in3 (halt_in3 k _) _)
  refine (in3_out h2 (decide (namesF o > 0))).bind (fun h3 h4 => ?_) (fun k => halt_in3 k _)
  refine (in3_out h4 (decide (namesF o > 1))).bind (fun h5 h6 => ?_) (fun k => k)
  refine .inl ⟨?_, h6⟩
  have h1 : r.in2V o = s.in2V o := h1
  have h3 : (r.in2 o).in3V (decide (namesF o > 0)) = (s.in2 o).in3V (decide (namesF o > 0)) := h3
  have h5 : ((r.in2 o).in3 (decide (namesF o > 0))).in3V (decide (namesF o > 1)) = ((s.in2 o).in3 (decide (namesF o > 0))).in3V (decide (namesF o > 1)) := h5
  show r.inVal o = s.inVal o
  unfold inVal
  rw [h1, h3, h5]
theorem instr_out {X : List T3} {r s : Rs} (h : Rel X r s) (hs : s.isOp = true) (k : Int) : Out X (r.instr k) (s.instr k) := by
  rcases look h with q | q
  · exact absurd hs (by rw [halt_op (.inl q.2)]; decide)
  · unfold instr in1
    rw [nx2 q]
    refine (want_out (room_rel h _ _) _).bindV (fun k => ?_) (fun k => halt_instr _ k)
    refine (inArgs_out k _).bind (fun h1 h2 => ?_) (fun k => halt_want k _)
    exact .of h1 (want_out h2 _)
abbrev coG (r : Rs) (out : List Ins) : List Ins × Rs := (out ++ [(r.instr out.length).1], (r.instr out.length).2)
theorem codeL_loop : ∀ (f : Nat) (r : Rs) (out : List Ins), codeL f r out = loop isOp coG f r out
  | 0, _, _ => rfl
  | f + 1, r, out => by unfold codeL loop; split; exact codeL_loop f _ _; rfl
theorem co_ok (X : List T3) : LoopOk X isOp coG where
  eq h := isOp_eq h
  now h := isOp_at h
  out {r s} c h hc := (instr_out h hc c.length).elim (fun q => .inl ⟨congrArg (fun x => c ++ [x]) q.1, q.2⟩) .inr
  fwd {r} c hc := ⟨instr_fwd r _, instr_on r _⟩
abbrev caG (r : Rs) (out : List Cat) : List Cat × Rs := (out ++ [(r.ca1 out.length).catV], (r.ca1 out.length).catR)
theorem catchL_loop : ∀ (f : Nat) (r : Rs) (out : List Cat), catchL f r out = loop (fun r => r.is wCatch) caG f r out
  | 0, _, _ => rfl
  | f + 1, r, out => by unfold catchL loop; split; exact catchL_loop f _ _; rfl
theorem halt_cat {s : Rs} (h : Halt s) : Halt s.catR := halt_want (halt_numR (halt_numR (halt_numR (halt_fresh h) _ _) _ _) _ _) _
theorem cat_out {X : List T3} {r s : Rs} (h : Rel X r s) : Out X (r.catV, r.catR) (s.catV, s.catR) := by
  refine (fresh_out h).bind (fun h1 h2 => ?_) (fun k => halt_want (halt_numR (halt_numR (halt_numR k _ _) _ _) _ _) _)
  refine (num_out h2 0 48).bind (fun h3 h4 => ?_) (fun k => halt_want (halt_numR (halt_numR k _ _) _ _) _)
  refine (num_out h4 0 48).bind (fun h5 h6 => ?_) (fun k => halt_want (halt_numR k _ _) _)
  refine (num_out h6 0 48).bind (fun h7 h8 => ?_) (fun k => halt_want k _)
  refine .of ?_ (want_out h8 _)
  have h1 : r.freshV = s.freshV := h1
  have h3 : r.fresh.numV 0 48 = s.fresh.numV 0 48 := h3
  have h5 : (r.fresh.num 0 48).numV 0 48 = (s.fresh.num 0 48).numV 0 48 := h5
  have h7 : ((r.fresh.num 0 48).num 0 48).numV 0 48 = ((s.fresh.num 0 48).num 0 48).numV 0 48 := h7
  unfold catV
  rw [h1, h3, h5, h7]
theorem ca_ok (X : List T3) : LoopOk X (fun r => r.is wCatch) caG where
  eq h := is_eq h _
  now h := is_at h
  out {r s} c h hc := ((want_out (room_rel h _ _) wCatch).bindV (fun k => cat_out k) (fun k => halt_cat k)).elim (fun q => .inl ⟨congrArg (fun x => c ++ [x]) q.1, q.2⟩) .inr
  fwd {r} c hc := ⟨(ca1_fwd r _).trans (catR_fwd _), catch_on r _⟩
theorem halt_code {s : Rs} (h : Halt s) (f : Nat) (out : List Ins) : Halt (codeL f s out).2 := by rw [codeL_loop]; exact halt_loop (co_ok []) f h out
theorem halt_catch {s : Rs} (h : Halt s) (f : Nat) (out : List Cat) : Halt (catchL f s out).2 := by rw [catchL_loop]; exact halt_loop (ca_ok []) f h out
theorem halt_bo1 {s : Rs} (h : Halt (s.want wLocals)) : Halt s.body := by
  have h1 : Halt s.bo1 := halt_want (halt_numR h _ _) _
  exact halt_want (halt_catch (halt_code h1 _ _) _ _) _
theorem body_out {X : List T3} {r s : Rs} (h : Rel X r s) {m n : Meth} (hm : m = n) : Out X (r.bodyV m, r.body) (s.bodyV n, s.body) := by
  subst hm
  refine (want_out h wLocals).bindV (fun k => ?_) (fun k => halt_bo1 k)
  refine (num_out k 0 8).bind (fun h1 h2 => ?_) (fun k => halt_want (halt_catch (halt_code (halt_want k _) _ _) _ _) _)
  refine (want_out h2 wLc).bindV (fun h3 => ?_) (fun k => halt_want (halt_catch (halt_code k _ _) _ _) _)
  have c1 : Out X r.boCode s.boCode := by
    unfold boCode
    rw [codeL_loop, codeL_loop]
    exact loop_out (co_ok X) _ _ _ _ _ h3 (room_of (bo1_fwd r)) (room_of (bo1_fwd s))
  refine c1.bind (fun h4 h5 => ?_) (fun k => halt_want (halt_catch k _ _) _)
  have c2 : Out X r.boCat s.boCat := by
    unfold boCat
    rw [catchL_loop, catchL_loop]
    exact loop_out (ca_ok X) _ _ _ _ _ h5 (room_of (boCode_fwd r)) (room_of (boCode_fwd s))
  refine c2.bind (fun h6 h7 => ?_) (fun k => halt_want k _)
  refine .of ?_ (want_out h7 _)
  have h1 : (r.want wLocals).numV 0 8 = (s.want wLocals).numV 0 8 := h1
  unfold bodyV
  rw [h1, h4, h6]
theorem halt_mf {s : Rs} (h : Halt s) : Halt s.mfR := halt_want (halt_kind (halt_want (halt_fresh h) _)) _
theorem mf_out {X : List T3} {r s : Rs} (h : Rel X r s) (b : Bool) : Out X (r.mfV b, r.mfR) (s.mfV b, s.mfR) := by
  refine (fresh_out h).bind (fun h1 h2 => ?_) (fun k => halt_want (halt_kind (halt_want k _)) _)
  refine (want_out h2 wColon).bindV (fun h3 => ?_) (fun k => halt_want (halt_kind k) _)
  refine (kind_out h3).bind (fun h4 h5 => ?_) (fun k => halt_want k _)
  refine .of ?_ (want_out h5 _)
  have h1 : r.freshV = s.freshV := h1
  have h4 : (r.fresh.want wColon).kindV = (s.fresh.want wColon).kindV := h4
  unfold mfV
  rw [h1, h4]
theorem halt_mm1 {s : Rs} (k : Halt s.mm1) : Halt s.mmR := by
  unfold mmR
  rw [halt_is k]
  exact halt_bo1 (halt_want k _)
theorem mm_out {X : List T3} {r s : Rs} (h : Rel X r s) (b : Bool) : Out X (r.mmV b, r.mmR) (s.mmV b, s.mmR) := by
  refine (fresh_out h).bind (fun h1 h2 => ?_) (fun k => halt_mm1 (halt_kind (halt_params k)))
  refine (params_out h2).bind (fun h3 h4 => ?_) (fun k => halt_mm1 (halt_kind k))
  refine (kind_out h4).bind (fun h5 h6 => ?_) (fun k => halt_mm1 k)
  have h1 : r.freshV = s.freshV := h1
  have h5 : r.fresh.params.2.kindV = s.fresh.params.2.kindV := h5
  have h6 : Rel X r.mm1 s.mm1 := h6
  rcases look h6 with q | q
  · exact .inr ⟨q.1, halt_mm1 (.inl q.2)⟩
  · have hv : r.mm1V b = s.mm1V b := by unfold mm1V; rw [h1, h3, h5, is_eq q]
    unfold mmV mmR
    rw [is_eq q]
    split
    · exact .inl ⟨hv, step_rel h6 (is_at (by assumption))⟩
    · exact body_out h6 hv
theorem halt_member {s : Rs} (h : Halt s) (c : Cls) : (s.member c).2.e = 4 ∧ (s.member c).2.at' = (s.member c).2.n := by
  have e : (s.member c).2 = s.fail 4 := by unfold member; rw [halt_next h]; rfl
  rw [e]
  have := halt_fail h
  rcases this with q | q
  · exfalso
    have h1 := q.1
    unfold fail at h1
    split at h1
    · exact absurd h1 (show ¬ (4 : Int) = 0 by decide)
    · exact absurd h1 (by assumption)
  · exact q
theorem memF_out {X : List T3} {r s : Rs} (h : Rel X r s) (q : s3 r.next = s3 s.next) (k : Int) : OutR X (r.memF k) (s.memF k) := by
  unfold memF
  rw [nx2 q]
  exact want_out (room_rel h _ _) _
theorem member_out {X : List T3} {r s : Rs} (h : Rel X r s) (c : Cls) : Out X (r.member c) (s.member c) := by
  rcases look h with q | q
  · exact .inr ⟨q.1, .inr (halt_member (.inl q.2) c)⟩
  · unfold member
    rw [nx2 q]
    split
    · refine (memF_out h q _).bindV (fun k => ?_) (fun k => halt_mf k)
      exact (mf_out k (decide (s.next.2.1 = wStatic))).elim (fun p => .inl ⟨congrArg (fun x => (⟨c.name, c.iface, c.super, c.ifaces, c.fields ++ [x], c.methods⟩ : Cls)) p.1, p.2⟩) .inr
    · split
      · refine (memF_out h q _).bindV (fun k => ?_) (fun k => halt_mm1 (halt_kind (halt_params (halt_fresh k))))
        exact (mm_out k (decide (s.next.2.1 = wFunction))).elim (fun p => .inl ⟨congrArg (fun x => (⟨c.name, c.iface, c.super, c.ifaces, c.fields, c.methods ++ [x]⟩ : Cls)) p.1, p.2⟩) .inr
      · exact .inl ⟨rfl, fail_rel h (by decide)⟩
/-- as Out, but never at the end without an error -/
def OutB (X : List T3) {α : Type} (a b : α × Rs) : Prop := (a.1 = b.1 ∧ Rel X a.2 b.2) ∨ (X ≠ [] ∧ b.2.e = 4 ∧ b.2.at' = b.2.n)
theorem clsL_stop (g : Nat) {s : Rs} (h : s.e ≠ 0) (c : Cls) : clsL g s c = (c, s) := by
  cases g with
  | zero => rfl
  | succ g => unfold clsL; rw [if_neg h]
theorem clsL_halt (g : Nat) {s : Rs} (h : Halt s) (hg : Room g s) (c : Cls) : (clsL g s c).2.e = 4 ∧ (clsL g s c).2.at' = (clsL g s c).2.n := by
  rcases h with h | h
  · cases g with
    | zero => have := hg h.1; omega
    | succ g =>
      have hm := halt_member (.inl h) c
      have e : clsL (g + 1) s c = clsL g (s.member c).2 (s.member c).1 := by rw [clsL, if_pos h.1, halt_is (.inl h)]; rfl
      rw [e, clsL_stop _ (by rw [hm.1]; decide)]
      exact hm
  · rw [clsL_stop _ (by rw [h.1]; decide)]; exact h
theorem clsL_out {X : List T3} : ∀ (f g : Nat) (r s : Rs) (c : Cls), Rel X r s → Room f r → Room g s → OutB X (clsL f r c) (clsL g s c)
  | 0, g, r, s, c, h, hf, hg => by
    have he : r.e ≠ 0 := fun c => by have := hf c; omega
    have hs : s.e ≠ 0 := h.1 ▸ he
    rw [clsL_stop g hs, clsL_stop 0 he]
    exact .inl ⟨rfl, h⟩
  | f + 1, g, r, s, c, h, hf, hg => by
    rcases look h with q | q
    · exact .inr ⟨q.1, clsL_halt g (.inl q.2) hg c⟩
    · by_cases he : s.e = 0
      · have hr : r.e = 0 := h.1.trans he
        cases g with
        | zero => have := hg he; omega
        | succ g =>
          unfold clsL
          rw [if_pos hr, if_pos he, is_eq q]
          by_cases hc : s.is wRc = true
          · rw [if_pos hc, if_pos hc]; exact .inl ⟨rfl, step_rel h (is_at hc)⟩
          · rw [if_neg hc, if_neg hc]
            have rf : ∀ (f : Nat) (r : Rs), r.e = 0 → Room (f + 1) r → Room f (r.member c).2 := fun f r h0 hf => by
              by_cases hi : r.i < r.L.length
              · exact room_step hf ⟨h0, hi⟩ ⟨member_fwd r c, member_on r c⟩
              · intro e
                have := halt_member (s := r) (.inl ⟨h0, by omega⟩) c
                rw [this.1] at e; exact absurd e (by decide)
            rcases member_out h c with p | p
            · rw [p.1]
              exact clsL_out f g _ _ _ p.2 (rf f r hr hf) (rf g s he hg)
            · exact .inr ⟨p.1, clsL_halt g p.2 (rf g s he hg) _⟩
      · have hr : r.e ≠ 0 := fun c => he (h.1 ▸ c)
        rw [clsL_stop _ he, clsL_stop _ hr]; exact .inl ⟨rfl, h⟩
theorem halt_ex1 {s : Rs} (h : Halt s) (b : Bool) : Halt (s.ex1 b).2 := by unfold ex1; rw [halt_is h]; exact h
theorem halt_ex2 {s : Rs} (h : Halt s) (b : Bool) (l : List ByteArray) : Halt (s.ex2 b l).2 := by unfold ex2; rw [halt_is h, Bool.and_false]; exact h
theorem ex1_out {X : List T3} {r s : Rs} (h : Rel X r s) (b : Bool) : Out X (r.ex1 b) (s.ex1 b) := by
  rcases look h with q | q
  · exact .inr ⟨q.1, halt_ex1 (.inl q.2) b⟩
  · unfold ex1
    rw [is_eq q]
    split
    · have hp := step_rel h (is_at (by assumption))
      split
      · exact (names_out hp).elim (fun p => .inl ⟨congrArg (fun x => (noS, x)) p.1, p.2⟩) .inr
      · exact (fresh_out hp).elim (fun p => .inl ⟨congrArg (fun x => (x, [])) p.1, p.2⟩) .inr
    · exact .inl ⟨rfl, h⟩
theorem ex2_out {X : List T3} {r s : Rs} (h : Rel X r s) (b : Bool) (l : List ByteArray) : Out X (r.ex2 b l) (s.ex2 b l) := by
  rcases look h with q | q
  · exact .inr ⟨q.1, halt_ex2 (.inl q.2) b l⟩
  · unfold ex2
    rw [is_eq q]
    split
    · rename_i hc
      exact names_out (step_rel h (is_at (Bool.and_eq_true _ _ ▸ hc).2))
    · exact .inl ⟨rfl, h⟩
theorem OutR.bindB {X : List T3} {β : Type} {a b : Rs} {c d : β × Rs} (h : OutR X a b) (g : Rel X a b → OutB X c d) (k : Halt b → d.2.e = 4 ∧ d.2.at' = d.2.n) : OutB X c d := by
  rcases h with h | h
  · exact g h
  · exact .inr ⟨h.1, k h.2⟩
theorem Out.bindB {X : List T3} {α β : Type} {a b : α × Rs} {c d : β × Rs} (h : Out X a b) (g : a.1 = b.1 → Rel X a.2 b.2 → OutB X c d) (k : Halt b.2 → d.2.e = 4 ∧ d.2.at' = d.2.n) : OutB X c d := by
  rcases h with h | h
  · exact g h.1 h.2
  · exact .inr ⟨h.1, k h.2⟩
theorem cl1_out {X : List T3} {r s : Rs} (h : Rel X r s) (q : s3 r.next = s3 s.next) (k : Int) : OutR X (r.cl1 k) (s.cl1 k) := by
  unfold cl1
  rw [is_eq q, is_eq q]
  refine want_out ?_ _
  split
  · exact room_rel h _ _
  · exact h
theorem halt_class {s : Rs} (k : Int) (h : Halt (s.clR k)) : (s.class' k).2.e = 4 ∧ (s.class' k).2.at' = (s.class' k).2.n := by
  unfold class'
  exact clsL_halt _ h (room_of (clR_fwd s k)) _
theorem class_out {X : List T3} {r s : Rs} (h : Rel X r s) (k : Int) : OutB X (r.class' k) (s.class' k) := by
  rcases look h with q | q
  · refine .inr ⟨q.1, halt_class k ?_⟩
    have hh : Halt s := .inl q.2
    have h1 : Halt (s.cl1 k) := by unfold cl1; rw [halt_is hh, halt_is hh]; exact halt_want hh _
    exact halt_want (halt_ex2 (halt_ex1 (halt_fresh h1) _) _ _) _
  · have w := is_eq q wInterface
    refine (cl1_out h q k).bindB (fun h1 => ?_) (fun p => halt_class k (halt_want (halt_ex2 (halt_ex1 (halt_fresh p) _) _ _) _))
    refine (fresh_out h1).bindB (fun h2 h3 => ?_) (fun p => halt_class k (halt_want (halt_ex2 (halt_ex1 p _) _ _) _))
    refine (ex1_out h3 (s.is wInterface)).bindB (fun h4 h5 => ?_) (fun p => halt_class k (halt_want (halt_ex2 p _ _) _))
    have h4 : ((r.cl1 k).fresh.ex1 (s.is wInterface)).1 = ((s.cl1 k).fresh.ex1 (s.is wInterface)).1 := h4
    have h5 : Rel X ((r.cl1 k).fresh.ex1 (s.is wInterface)).2 ((s.cl1 k).fresh.ex1 (s.is wInterface)).2 := h5
    have hl : ((r.cl1 k).fresh.ex1 (s.is wInterface)).1.2 = ((s.cl1 k).fresh.ex1 (s.is wInterface)).1.2 := by rw [h4]
    have h6 : Out X (((r.cl1 k).fresh.ex1 (s.is wInterface)).2.ex2 (s.is wInterface) ((r.cl1 k).fresh.ex1 (s.is wInterface)).1.2) (((s.cl1 k).fresh.ex1 (s.is wInterface)).2.ex2 (s.is wInterface) ((s.cl1 k).fresh.ex1 (s.is wInterface)).1.2) := by
      rw [hl]; exact ex2_out h5 _ _
    refine h6.bindB (fun h7 h8 => ?_) (fun p => halt_class k (halt_want p _))
    refine (want_out h8 wLc).bindB (fun h9 => ?_) (fun p => halt_class k p)
    have h2 : (r.cl1 k).freshV = (s.cl1 k).freshV := h2
    have e1 : r.clV k = s.clV k := by
      unfold clV
      rw [w, h2, h7, h4]
    have e2 : Rel X (r.clR k) (s.clR k) := by
      unfold clR
      rw [w]
      exact h9
    unfold class'
    rw [e1]
    exact clsL_out _ _ _ _ _ e2 (room_of (clR_fwd r k)) (room_of (clR_fwd s k))
theorem prgL_stop (g : Nat) {s : Rs} (h : ¬ (s.e = 0 ∧ s.i < s.L.length)) (c : List Cls) : prgL g s c = (c, s) := by
  cases g with
  | zero => rfl
  | succ g => unfold prgL; rw [if_neg h]
/-- a program read from a row with X behind it -/
theorem prgL_out {X : List T3} : ∀ (f g : Nat) (r s : Rs) (out : List Cls), Rel X r s → Room f r → Room g s →
    (X ≠ [] ∧ (prgL g s out).2.e = 4 ∧ (prgL g s out).2.at' = (prgL g s out).2.n)
    ∨ ((prgL g s out).2.e = 0 ∧ ∃ f1 r1, prgL f r out = prgL f1 r1 (prgL g s out).1 ∧ Rel X r1 (prgL g s out).2 ∧ rem (prgL g s out).2 = [] ∧ Room f1 r1)
    ∨ ((prgL g s out).2.e ≠ 0 ∧ (prgL f r out).2.e = (prgL g s out).2.e)
  | 0, g, r, s, out, h, hf, hg => by
    have he : r.e ≠ 0 := fun c => by have := hf c; omega
    have hs : s.e ≠ 0 := h.1 ▸ he
    rw [prgL_stop g (fun c => hs c.1), prgL_stop 0 (fun c => he c.1)]
    exact .inr (.inr ⟨hs, h.1⟩)
  | f + 1, g, r, s, out, h, hf, hg => by
    by_cases he : s.e = 0
    · by_cases hi : s.i < s.L.length
      · have hr : r.e = 0 := h.1.trans he
        have hri : r.i < r.L.length := by
          have h1 := h.2 hr
          have h2 : rem s ≠ [] := fun c => by have := rem_nil.1 c; omega
          refine Nat.lt_of_not_le fun c => h2 ?_
          have := rem_nil.2 c
          rw [this] at h1
          exact (List.append_eq_nil_iff.1 h1.symm).1
        cases g with
        | zero => have := hg he; omega
        | succ g =>
          have e1 : prgL (g + 1) s out = prgL g (s.class' out.length).2 (out ++ [(s.class' out.length).1]) := by rw [prgL, if_pos ⟨he, hi⟩]
          have e2 : prgL (f + 1) r out = prgL f (r.class' out.length).2 (out ++ [(r.class' out.length).1]) := by rw [prgL, if_pos ⟨hr, hri⟩]
          rw [e1, e2]
          rcases class_out h out.length with p | p
          · rw [p.1]
            exact prgL_out f g _ _ _ p.2 (room_step hf ⟨hr, hri⟩ ⟨class_fwd r _, class_on r _⟩) (room_step hg ⟨he, hi⟩ ⟨class_fwd s _, class_on s _⟩)
          · left
            rw [prgL_stop g (fun c => absurd c.1 (by rw [p.2.1]; decide))]
            exact p
      · rw [prgL_stop g (fun c => hi c.2)]
        exact .inr (.inl ⟨he, f + 1, r, rfl, h, rem_nil.2 (by show s.L.length ≤ s.i; omega), hf⟩)
    · have hr : r.e ≠ 0 := fun c => he (h.1 ▸ c)
      rw [prgL_stop g (fun c => he c.1), prgL_stop _ (fun c => hr c.1)]
      exact .inr (.inr ⟨he, h.1⟩)
end Rs
namespace Rs
theorem prgL_more : ∀ (f : Nat) (r : Rs) (out : List Cls), ∃ more, (prgL f r out).1 = out ++ more
  | 0, _, out => ⟨[], (List.append_nil out).symm⟩
  | f + 1, r, out => by
    unfold prgL
    split
    · obtain ⟨m, hm⟩ := prgL_more f (r.class' out.length).2 (out ++ [(r.class' out.length).1])
      exact ⟨(r.class' out.length).1 :: m, by rw [hm]; simp⟩
    · exact ⟨[], (List.append_nil out).symm⟩
theorem prgL_n (f : Nat) (r : Rs) (out : List Cls) : (prgL f r out).2.n = r.n := (prgL_fwd f r out).n
end Rs
theorem parse_of {b : List UInt8} {l : List Tok} (h : scanF b = (l, 0, 0)) : parseF b = if (Rs.prgL (l.length + 2) (parse0 b) []).2.e = 0 then ((Rs.prgL (l.length + 2) (parse0 b) []).1, 0, 0) else ([], (Rs.prgL (l.length + 2) (parse0 b) []).2.at', (Rs.prgL (l.length + 2) (parse0 b) []).2.e) := by
  unfold parseF; rw [h]; exact if_pos rfl
/-- a text whose words are the first words of another's -/
theorem parse_cut {b c : List UInt8} {l k : List Tok} {X : List T3} (hb : scanF b = (l, 0, 0)) (hc : scanF c = (k, 0, 0)) (hX : l.map s3 = k.map s3 ++ X) (h0 : X ≠ []) (hp : (parseF b).2.2 = 0) :
    ((parseF c).2.2 = 0 ∧ ∃ more, (parseF b).1 = (parseF c).1 ++ more ∧ more ≠ []) ∨ ((parseF c).2.2 = 4 ∧ (parseF c).2.1 = (c.length : Int) ∧ (parseF c).1 = []) := by
  have e0 : (parse0 b).L = l := by show (scanF b).1 = l; rw [hb]
  have e1 : (parse0 c).L = k := by show (scanF c).1 = k; rw [hc]
  have hrel : Rs.Rel X (parse0 b) (parse0 c) := by
    refine ⟨rfl, fun _ => ?_⟩
    show ((parse0 b).L.drop 0).map s3 = ((parse0 c).L.drop 0).map s3 ++ X
    rw [e0, e1]; exact hX
  have r0 : Rs.Room (l.length + 2) (parse0 b) := fun _ => by rw [Rs.rem_length, e0]; omega
  have r1 : Rs.Room (k.length + 2) (parse0 c) := fun _ => by rw [Rs.rem_length, e1]; omega
  have q1 := parse_of hb
  have q2 := parse_of hc
  have hbe : (Rs.prgL (l.length + 2) (parse0 b) []).2.e = 0 := by
    rw [q1] at hp
    split at hp
    · assumption
    · exact hp
  rw [if_pos hbe] at q1
  rcases Rs.prgL_out _ _ _ _ [] hrel r0 r1 with h | h | h
  · right
    rw [if_neg (by rw [h.2.1]; decide)] at q2
    rw [q2]
    refine ⟨h.2.1, ?_, rfl⟩
    show (Rs.prgL (k.length + 2) (parse0 c) []).2.at' = _
    rw [h.2.2, Rs.prgL_n]; rfl
  · left
    rw [if_pos h.1] at q2
    obtain ⟨f1, p1, g1, g2, g3, g4⟩ := h.2
    rw [q1, q2, g1]
    refine ⟨rfl, ?_⟩
    have he : p1.e = 0 := g2.1.trans h.1
    have hr : p1.rem = X := by have := g2.2 he; rw [g3] at this; simpa using this
    have hi : p1.i < p1.L.length := Nat.lt_of_not_le fun c => h0 (hr ▸ Rs.rem_nil.2 c)
    cases f1 with
    | zero => have := g4 he; omega
    | succ f1 =>
      generalize (Rs.prgL (k.length + 2) (parse0 c) []).1 = out
      have e3 : Rs.prgL (f1 + 1) p1 out = Rs.prgL f1 (p1.class' out.length).2 (out ++ [(p1.class' out.length).1]) := by rw [Rs.prgL, if_pos ⟨he, hi⟩]
      obtain ⟨m, hm⟩ := Rs.prgL_more f1 (p1.class' out.length).2 (out ++ [(p1.class' out.length).1])
      exact ⟨(p1.class' out.length).1 :: m, by show (Rs.prgL (f1 + 1) p1 out).1 = _; rw [e3, hm]; simp, by simp⟩
  · exact absurd (h.2.symm.trans hbe) h.1
theorem chain_lens (b : List UInt8) : ∀ (l : List (Int × ByteArray × Int × Int)) (e : Nat), e ≤ b.length → chain b e l → e + Lib.lens (l.map wdS) ≤ b.length ∧ l.length ≤ Lib.lens (l.map wdS)
  | [], e, h, _ => ⟨h, Nat.zero_le _⟩
  | t :: r, e, h, ⟨a, h1, h2, h3, h4, h5, h6⟩ => by
    have hw := wd_len h5
    obtain ⟨k1, k2⟩ := chain_lens b r _ h3 h6
    simp only [List.map_cons, Lib.lens, List.sum_cons, List.length_cons] at *
    omega
theorem lens_take (l : List (Int × ByteArray × Int × Int)) (m : Nat) : Lib.lens ((l.take m).map wdS) ≤ Lib.lens (l.map wdS) := by
  induction l generalizing m with
  | nil => simp
  | cons t r ih =>
    cases m with
    | zero => simp [Lib.lens]
    | succ m =>
      have := ih m
      simp only [List.take_succ_cons, List.map_cons, Lib.lens, List.sum_cons] at *
      omega
theorem join_le (m : List (List UInt8)) : (Lib.join m [32]).length ≤ Lib.lens m + m.length := by
  have tl : ∀ r : List (List UInt8), (Lib.joinTail [32] r).length = Lib.lens r + r.length := by
    intro r
    induction r with
    | nil => rfl
    | cons y r ih =>
      simp only [Lib.joinTail, List.map_cons, List.flatten_cons, List.length_append, Lib.lens, List.sum_cons, List.length_cons] at *
      simp only [List.length_nil]
      omega
  cases m with
  | nil => simp [Lib.join_nil]
  | cons x r =>
    rw [Lib.join_cons]
    simp only [List.length_append, tl, Lib.lens, List.map_cons, List.sum_cons, List.length_cons]
    omega
theorem all_take {α : Type} {l : List α} {p : α → Bool} (h : l.all p = true) (m : Nat) : (l.take m).all p = true := List.all_eq_true.2 fun x hx => List.all_eq_true.1 h x (List.mem_of_mem_take hx)
/-- what ParseCut hands to the parser -/
theorem cut_facts {b : List UInt8} (hb : b.length ≤ 3000) (hs : (scanF b).2.2 = 0) (hp : (parseF b).2.2 = 0) {m : Nat} (hm : m < (scanF b).1.length) :
    joinF ((scanF b).1.take m) = (Lib.join (((scanF b).1.take m).map wdS) [32], 0) ∧ (Lib.join (((scanF b).1.take m).map wdS) [32]).length ≤ 6000 ∧
    (((parseF (Lib.join (((scanF b).1.take m).map wdS) [32])).2.2 = 0 ∧ ∃ more, (parseF b).1 = (parseF (Lib.join (((scanF b).1.take m).map wdS) [32])).1 ++ more ∧ more ≠ []) ∨
     ((parseF (Lib.join (((scanF b).1.take m).map wdS) [32])).2.2 = 4 ∧ (parseF (Lib.join (((scanF b).1.take m).map wdS) [32])).2.1 = ((Lib.join (((scanF b).1.take m).map wdS) [32]).length : Int) ∧ (parseF (Lib.join (((scanF b).1.take m).map wdS) [32])).1 = [])) := by
  have hw := all_take (scan_wd b) m
  have h1 : scanF b = ((scanF b).1, 0, 0) := by
    rcases scan_res b with q | q
    · exact Prod.ext rfl q
    · exact absurd hs q.2.1
  have hl : (Lib.join (((scanF b).1.take m).map wdS) [32]).length ≤ 6000 := by
    have h2 := join_le (((scanF b).1.take m).map wdS)
    have h3 := lens_take (scanF b).1 m
    have h4 := chain_lens b _ 0 (Nat.zero_le _) (chain_F b)
    rw [List.length_map, List.length_take] at h2
    omega
  refine ⟨by unfold joinF; exact if_pos hw, hl, ?_⟩
  have h2 : scanF (Lib.join (((scanF b).1.take m).map wdS) [32]) = (placeF 0 ((scanF b).1.take m), 0, 0) := by
    have := scan_all _ hw
    generalize Lib.join (((scanF b).1.take m).map wdS) [32] = c at this hl ⊢
    generalize placeF 0 ((scanF b).1.take m) = q at this ⊢
    unfold scanF
    rw [if_neg (by omega), this]
  refine parse_cut (X := ((scanF b).1.drop m).map s3) h1 h2 ?_ ?_ hp
  · rw [placeF_s3, ← List.map_append, List.take_append_drop]
  · intro c
    have := congrArg List.length c
    simp at this
    omega
def ParseCut : Ctr := { A := List UInt8 × Int, enc := fun x => [.row UInt8 1 byteC 0 x.1, I x.2], dom := fun _ => True, res := fun _ _ => .tt, gl := tabP }
set_option maxRecDepth 100000 in
set_option maxHeartbeats 4000000 in
theorem ParseCut_ok : CtrSound Tryd.prog 10 ParseCut :=
  ctr_of_ax (env_okB tys_ok (eqs := []) trivial (cs := [(25, scanC), (26, ljoinC), (16, parseC), (18, kRow), (15, lC)]) ⟨scan_ok, ljoin_ok, parse_ok, kClasses_ok, wakesP_ok, trivial⟩ (bs := []) trivial (gl := tabP)) mixed _ Tryd.func10 (by kernel_rfl) rfl (fun _ _ => Nat.le_of_ble_eq_true rfl) fun ((b, cut) : List UInt8 × Int) id hd => by
    refine ⟨fun h => ⟨.refl _, rfl⟩, fun h => ?_⟩
    have hlb : b.length ≤ 3000 := by dsimp only at h; have := of_decide_eq_false h; omega
    refine ⟨b, ⟨.refl _, trivial⟩, rfl, (show b.length ≤ 4611686018427387904 by omega), ?_⟩
    refine ⟨b, ⟨.refl _, trivial⟩, rfl, (show b.length ≤ 4611686018427387904 by omega), ?_⟩
    refine ⟨fun h => ?_, fun h1 => ?_⟩
    · refine ⟨(), trivial, rfl, trivial, ?_⟩
      exact ⟨.refl _, rfl⟩
    have hp : (parseF b).2.2 = 0 := by simpa using h1
    refine ⟨fun h => ?_, fun h2 => ?_⟩
    · refine ⟨(), trivial, rfl, trivial, ?_⟩
      exact ⟨.refl _, rfl⟩
    have hs : (scanF b).2.2 = 0 := by simpa using h2
    refine ⟨fun h => ?_, fun h3 => ?_⟩
    · refine ⟨(), trivial, rfl, trivial, ?_⟩
      exact ⟨.refl _, rfl⟩
    have h3 : ¬ ((scanF b).1.length : Int) = 0 := by simpa using h3
    have hl0 : 0 < (scanF b).1.length := by omega
    have hcn := scan_count b
    obtain ⟨m, hm, em⟩ := umodC cut (scanF b).1.length hl0 (by omega)
    obtain ⟨f1, f2, f3⟩ := cut_facts hlb hs hp hm
    have eu : IntKind.u64.wrap ((scanF b).1.length : Int) = ((scanF b).1.length : Int) := by
      have := IntKind.u64.wrap
      simp only [IntKind.wrap, IntKind.bits, IntKind.signed]
      simp
      omega
    have em2 : IntKind.i64.wrap ((IntKind.u64.wrap cut).tmod (IntKind.u64.wrap ((scanF b).1.length : Int))) = (m : Int) := by rw [eu]; exact em
    refine ⟨(show IntKind.u64.wrap ((scanF b).1.length : Int) ≠ 0 by rw [eu]; omega), ?_⟩
    refine ⟨⟨Int.le_refl 0, (show 0 ≤ IntKind.i64.wrap ((IntKind.u64.wrap cut).tmod (IntKind.u64.wrap ((scanF b).1.length : Int))) by rw [em2]; omega), (show IntKind.i64.wrap ((IntKind.u64.wrap cut).tmod (IntKind.u64.wrap ((scanF b).1.length : Int))) ≤ ((scanF b).1.length : Int) by rw [em2]; omega)⟩, ?_⟩
    have et : ((scanF b).1.take (IntKind.i64.wrap ((IntKind.u64.wrap cut).tmod (IntKind.u64.wrap ((scanF b).1.length : Int)))).toNat).drop 0 = (scanF b).1.take m := by rw [em2]; rfl
    refine ⟨(scanF b).1.take m, ⟨.rowEq et, trivial⟩, rfl, (show ((scanF b).1.take m).length ≤ 100000 ∧ ∀ t ∈ (scanF b).1.take m, okT t from ⟨by rw [List.length_take]; omega, fun t ht => scan_okT b t (List.mem_of_mem_take ht)⟩), ?_⟩
    have j1 : (joinF ((scanF b).1.take m)).2 = 0 := by rw [f1]
    have j2 : (joinF ((scanF b).1.take m)).1 = Lib.join (((scanF b).1.take m).map wdS) [32] := by rw [f1]
    rw [← j2] at f2 f3
    refine ⟨fun h => absurd h (by rw [j1]; decide), fun _ => ?_⟩
    refine ⟨(joinF ((scanF b).1.take m)).1, ⟨.own .., trivial⟩, rfl, (show (joinF ((scanF b).1.take m)).1.length ≤ 4611686018427387904 by omega), ?_⟩
    refine ⟨fun h => ?_, fun h => ?_⟩
    · have h4 : (parseF (joinF ((scanF b).1.take m)).1).2.2 = 0 := by simpa using h
      obtain ⟨more, g1, g2⟩ : ∃ more, (parseF b).1 = (parseF (joinF ((scanF b).1.take m)).1).1 ++ more ∧ more ≠ [] := f3.elim (fun q => q.2) (fun q => absurd (q.1.symm.trans h4) (by decide))
      have g3 : (parseF (joinF ((scanF b).1.take m)).1).1.length < (parseF b).1.length := by
        rw [g1, List.length_append]
        have := List.length_pos_iff.2 g2
        omega
      have g4 : ((parseF b).1.take (parseF (joinF ((scanF b).1.take m)).1).1.length).drop 0 = (parseF (joinF ((scanF b).1.take m)).1).1 := by rw [g1]; simp
      refine ⟨by kernel_rfl, ?_⟩
      refine ⟨fun h => ?_, fun h => absurd g3 (by have := of_decide_eq_false h; omega)⟩
      refine ⟨⟨Int.le_refl 0, Int.natCast_nonneg _, (show (((parseF (joinF ((scanF b).1.take m)).1).1.length : Nat) : Int) ≤ ((parseF b).1.length : Int) by omega)⟩, ?_⟩
      refine ⟨((parseF (joinF ((scanF b).1.take m)).1).1, (parseF (joinF ((scanF b).1.take m)).1).1), ⟨.refl _, .rowEq g4, trivial⟩, rfl, ⟨parse_len _, parse_len _⟩, ?_⟩
      refine ⟨fun h => ?_, fun h => absurd (show decide ((parseF (joinF ((scanF b).1.take m)).1).1 = (parseF (joinF ((scanF b).1.take m)).1).1) = false from h) (by simp)⟩
      refine ⟨(), trivial, rfl, trivial, ?_⟩
      exact ⟨.refl _, rfl⟩
    have h4 : ¬ (parseF (joinF ((scanF b).1.take m)).1).2.2 = 0 := by simpa using h
    have g1 := f3.resolve_left (fun q => h4 q.1)
    refine ⟨fun h => ?_, fun h => absurd (show ((parseF (joinF ((scanF b).1.take m)).1).2.2 == 4) = false from h) (by rw [g1.1]; decide)⟩
    refine ⟨fun h => ?_, fun h => absurd (show ((parseF (joinF ((scanF b).1.take m)).1).2.1 == ((joinF ((scanF b).1.take m)).1.length : Int)) = false from h) (by rw [g1.2.1]; simp)⟩
    refine ⟨fun h => ?_, fun h => absurd (show ((((parseF (joinF ((scanF b).1.take m)).1).1.length : Nat) : Int) == 0) = false from h) (by rw [g1.2.2]; decide)⟩
    refine ⟨(), trivial, rfl, trivial, ?_⟩
    exact ⟨.refl _, rfl⟩

end Go.Proofs.YtimhbimpaiiceaaDoor.Ax
/- Layer parse: ParseJoin, in plain Lean: two texts, one behind the other. -/
set_option linter.unusedVariables false
set_option linter.unusedSimpArgs false
namespace Go.Proofs.YtimhbimpaiiceaaDoor.Ax
open Go Go.RowKit
theorem tw_app {p : UInt8 → Bool} {r : List UInt8} (hr : r = [] ∨ p (r.getD 0 0) = false) : ∀ m : List UInt8, ((m ++ r).takeWhile p) = m.takeWhile p
  | [] => by
    rcases hr with rfl | hr
    · rfl
    · cases r with
      | nil => rfl
      | cons c r =>
        have hr : p c = false := by simpa using hr
        simp [List.takeWhile_cons, hr]
  | c :: m => by
    simp only [List.cons_append, List.takeWhile_cons]
    cases p c with
    | false => rfl
    | true => simp only [if_true]; rw [tw_app hr m]
theorem wordF_app2 {l r : List UInt8} (h : 0 < l.length) (hr : r = [] ∨ isAl (r.getD 0 0) = false) : wordF (l ++ r) = wordF l := by
  cases l with
  | nil => simp at h
  | cons c m =>
    have e0 : ((c :: m) ++ r).getD 0 0 = c := rfl
    have e1 : (c :: m).getD 0 0 = c := rfl
    have em : minus ((c :: m) ++ r) = minus (c :: m) := by unfold minus; rw [e0, e1]
    have w1 : wordF ((c :: m) ++ r) = if isSign c then 1 else minus (c :: m) + ((((c :: m) ++ r).drop (minus (c :: m))).takeWhile isAl).length := by
      unfold wordF
      rw [if_neg (by simp), e0, em]
    have w2 : wordF (c :: m) = if isSign c then 1 else minus (c :: m) + (((c :: m).drop (minus (c :: m))).takeWhile isAl).length := by
      unfold wordF
      rw [if_neg (by simp), e1]
    rw [w1, w2]
    have hd : ((c :: m) ++ r).drop (minus (c :: m)) = (c :: m).drop (minus (c :: m)) ++ r := by
      have : minus (c :: m) ≤ (c :: m).length := by unfold minus; split <;> simp
      rw [List.drop_append_of_le_length this]
    rw [hd, tw_app hr]
/-- what is scanned ahead of a blank does not hang on what stands behind it -/
theorem scanI_app {r : List UInt8} (hr : r = [] ∨ isAl (r.getD 0 0) = false) : ∀ (n : Nat) (l : List UInt8) (i : Nat), l.length ≤ n → (scanI i l).2 = none →
    scanI i (l ++ r) = ((scanI i l).1 ++ (scanI (i + l.length) r).1, (scanI (i + l.length) r).2)
  | n, [], i, _, _ => by simp [scanI_nil]
  | 0, _ :: _, _, h, _ => by simp at h
  | n + 1, c :: m, i, h, hn => by
    have hl : 0 < (c :: m).length := by simp
    have hl2 : 0 < ((c :: m) ++ r).length := by simp
    have e0 : ((c :: m) ++ r).getD 0 0 = (c :: m).getD 0 0 := rfl
    simp only [List.length_cons] at h
    cases hb : isBlank ((c :: m).getD 0 0) with
    | true =>
      rw [scanI_blank i _ hl hb] at hn ⊢
      rw [scanI_blank i _ hl2 (e0 ▸ hb)]
      have := scanI_app hr n m (i + 1) (by omega) hn
      simp only [List.cons_append, List.drop_succ_cons, List.drop_zero, List.length_cons]
      rw [this, show i + 1 + m.length = i + (m.length + 1) by omega]
    | false =>
      cases ht : (tokenF ((c :: m).take (wordF (c :: m)))).2 with
      | false => rw [scanI_bad i _ hl hb ht] at hn; cases hn
      | true =>
        have hp := word_pos ht
        have hw := wordF_app2 hl hr
        have hle := wordF_le (c :: m)
        have etk : ((c :: m) ++ r).take (wordF (c :: m)) = (c :: m).take (wordF (c :: m)) := List.take_append_of_le_length hle
        have edr : ((c :: m) ++ r).drop (wordF (c :: m)) = (c :: m).drop (wordF (c :: m)) ++ r := List.drop_append_of_le_length hle
        rw [scanI_tok i _ hl hb ht] at hn ⊢
        rw [scanI_tok i _ hl2 (e0 ▸ hb) (by rw [hw, etk]; exact ht), hw, etk, edr]
        have hdl : ((c :: m).drop (wordF (c :: m))).length = m.length + 1 - wordF (c :: m) := by rw [List.length_drop, List.length_cons]
        have := scanI_app hr n ((c :: m).drop (wordF (c :: m))) (i + wordF (c :: m)) (by omega) hn
        rw [this, hdl, show i + wordF (c :: m) + (m.length + 1 - wordF (c :: m)) = i + (c :: m).length by simp only [List.length_cons] at hle ⊢; omega]
        rfl
/-- places hang on where the text begins, words do not -/
theorem scanI_shift : ∀ (n : Nat) (l : List UInt8) (i j : Nat), l.length ≤ n → (scanI i l).1.map s3 = (scanI j l).1.map s3 ∧ ((scanI i l).2 = none → (scanI j l).2 = none)
  | n, [], i, j, _ => ⟨rfl, fun _ => rfl⟩
  | 0, _ :: _, _, _, h => by simp at h
  | n + 1, c :: m, i, j, h => by
    have hl : 0 < (c :: m).length := by simp
    simp only [List.length_cons] at h
    cases hb : isBlank ((c :: m).getD 0 0) with
    | true =>
      rw [scanI_blank i _ hl hb, scanI_blank j _ hl hb]
      exact scanI_shift n m (i + 1) (j + 1) (by omega)
    | false =>
      cases ht : (tokenF ((c :: m).take (wordF (c :: m)))).2 with
      | false =>
        rw [scanI_bad i _ hl hb ht, scanI_bad j _ hl hb ht]
        exact ⟨rfl, fun h => by cases h⟩
      | true =>
        have hp := word_pos ht
        rw [scanI_tok i _ hl hb ht, scanI_tok j _ hl hb ht]
        have hdl : ((c :: m).drop (wordF (c :: m))).length = m.length + 1 - wordF (c :: m) := by rw [List.length_drop, List.length_cons]
        have := scanI_shift n ((c :: m).drop (wordF (c :: m))) (i + wordF (c :: m)) (j + wordF (c :: m)) (by omega)
        refine ⟨?_, this.2⟩
        simp only [List.map_cons, this.1]
        rfl
theorem scan_I {b : List UInt8} (h : (scanF b).2.2 = 0) : b.length ≤ 6000 ∧ (scanI 0 b).2 = none ∧ (scanF b).1 = (scanI 0 b).1 := by
  unfold scanF at h ⊢
  split at h
  · cases h
  · rename_i hl
    rw [if_neg hl]
    cases hs : (scanI 0 b).2 with
    | none => exact ⟨by omega, rfl, rfl⟩
    | some i => rw [hs] at h; cases h
theorem scan_two {a b : List UInt8} (ha : (scanF a).2.2 = 0) (hb : (scanF b).2.2 = 0) (hl : a.length + b.length ≤ 5000) :
    ∃ l, scanF (a ++ [10] ++ b) = (l, 0, 0) ∧ l.map s3 = (scanF a).1.map s3 ++ (scanF b).1.map s3 := by
  obtain ⟨-, a2, a3⟩ := scan_I ha
  obtain ⟨-, b2, b3⟩ := scan_I hb
  have e1 : a ++ [10] ++ b = a ++ (10 :: b) := by simp
  have hr : (10 :: b) = [] ∨ isAl ((10 :: b).getD 0 0) = false := .inr (by show isAl 10 = false; decide +kernel)
  have h1 := scanI_app hr a.length a 0 (Nat.le_refl _) a2
  rw [scanI_blank (0 + a.length) (10 :: b) (by simp) (by show isBlank 10 = true; decide +kernel)] at h1
  have h2 := scanI_shift b.length b 0 (0 + a.length + 1) (Nat.le_refl _)
  have h3 : scanI 0 (a ++ [10] ++ b) = ((scanI 0 a).1 ++ (scanI (0 + a.length + 1) b).1, none) := by
    rw [e1, h1]
    exact Prod.ext rfl (h2.2 b2)
  refine ⟨(scanI 0 a).1 ++ (scanI (0 + a.length + 1) b).1, ?_, ?_⟩
  · unfold scanF
    rw [if_neg (by simp; omega), h3]
  · rw [List.map_append, a3, b3, h2.1]
namespace Rs
theorem class_few (r : Rs) {k j : Int} (hk : k < 10) (hj : j < 10) : r.class' k = r.class' j := by
  have e : r.cl1 k = r.cl1 j := by unfold cl1; rw [room_lt r hk, room_lt r hj]
  have e1 : r.clR k = r.clR j := by unfold clR; rw [e]
  have e2 : r.clV k = r.clV j := by unfold clV; rw [e]
  unfold class'; rw [e1, e2]
theorem want_off {r : Rs} {w : ByteArray} (h : r.is w = false) (he : r.e = 0) : (r.want w).e = 4 := by
  unfold want; rw [h]; unfold fail; simp only [if_pos he]; rfl
theorem class_err {r : Rs} {k : Int} (h : (r.cl1 k).e ≠ 0) : (r.class' k).2 = r.cl1 k := by
  have h1 : Fwd (r.cl1 k) (r.clR k) := (((fresh_fwd _).trans (ex1_fwd _ _)).trans (ex2_fwd _ _ _)).trans (want_fwd _ _)
  have h2 := (h1.trans (clsL_fwd ((r.clR k).L.length + 2) _ (r.clV k))).err h
  have h3 : (r.clR k).L.length = r.L.length := by rw [(clR_fwd r k).L]
  rw [h3] at h2
  exact h2
/-- where a class is read, one begins -/
theorem class_begins {r : Rs} {k : Int} (he : r.e = 0) (h : (r.class' k).2.e = 0) : (r.is wClass || r.is wInterface) = true := by
  cases hc : (r.is wClass || r.is wInterface) with
  | true => rfl
  | false =>
    simp only [Bool.or_eq_false_iff] at hc
    have e1 : (r.cl1 k).e = 4 := by
      unfold cl1
      rw [hc.1, hc.2]
      exact want_off hc.1 he
    rw [class_err (by rw [e1]; decide)] at h
    rw [e1] at h; cases h
theorem class_many {r : Rs} {k : Int} (he : r.e = 0) (hk : 10 ≤ k) (h : (r.is wClass || r.is wInterface) = true) : (r.class' k).2.e = 2 := by
  have e1 : (r.cl1 k).e = 2 := by
    unfold cl1
    rw [h]
    simp only [if_true]
    have e2 : (r.room k 10).e = 2 := by unfold room; rw [if_pos hk]; unfold fail; rw [if_pos he]
    rw [((want_fwd (r.room k 10) _).err (by rw [e2]; decide))]
    exact e2
  rw [class_err (by rw [e1]; decide), e1]
/-- a program read behind others -/
theorem prgL_join (p : List Cls) : ∀ (f g : Nat) (r s : Rs) (out : List Cls), Rel [] r s → Room f r → Room g s → (prgL g s out).2.e = 0 → p.length + out.length ≤ 10 →
    (p.length + (prgL g s out).1.length ≤ 10 ∧ (prgL f r (p ++ out)).1 = p ++ (prgL g s out).1 ∧ (prgL f r (p ++ out)).2.e = 0) ∨
    (10 < p.length + (prgL g s out).1.length ∧ (prgL f r (p ++ out)).2.e = 2)
  | 0, g, r, s, out, h, hf, hg, h0, hl => by
    have he : r.e ≠ 0 := fun c => by have := hf c; omega
    have hs : s.e ≠ 0 := h.1 ▸ he
    rw [prgL_stop g (fun c => hs c.1)] at h0
    exact absurd h0 hs
  | f + 1, g, r, s, out, h, hf, hg, h0, hl => by
    by_cases he : s.e = 0
    · have hr : r.e = 0 := h.1.trans he
      by_cases hi : s.i < s.L.length
      · have hri : r.i < r.L.length := by
          have h1 := h.2 hr
          have h2 : rem s ≠ [] := fun c => by have := rem_nil.1 c; omega
          refine Nat.lt_of_not_le fun c => h2 ?_
          have := rem_nil.2 c
          rw [this] at h1
          exact (List.append_eq_nil_iff.1 h1.symm).1
        cases g with
        | zero => have := hg he; omega
        | succ g =>
          have e1 : prgL (g + 1) s out = prgL g (s.class' out.length).2 (out ++ [(s.class' out.length).1]) := by rw [prgL, if_pos ⟨he, hi⟩]
          have e2 : prgL (f + 1) r (p ++ out) = prgL f (r.class' (p ++ out).length).2 (p ++ (out ++ [(r.class' (p ++ out).length).1])) := by rw [prgL, if_pos ⟨hr, hri⟩, List.append_assoc]
          rw [e1] at h0
          have hc0 : (s.class' out.length).2.e = 0 := by
            refine Classical.byContradiction fun c => ?_
            rw [prgL_stop g (fun q => c q.1)] at h0
            exact c h0
          have hb := class_begins he hc0
          have hlk : s3 r.next = s3 s.next := (look h).resolve_left (fun q => q.1 rfl)
          have hbr : (r.is wClass || r.is wInterface) = true := by rw [is_eq hlk, is_eq hlk]; exact hb
          have hlen : ((p ++ out).length : Int) = p.length + out.length := by simp
          by_cases hm : p.length + out.length < 10
          · have ek : r.class' (p ++ out).length = r.class' out.length := class_few r (by omega) (by omega)
            obtain ⟨q1, q2⟩ := (class_out h (out.length : Int)).resolve_right (fun q => q.1 rfl)
            have := prgL_join p f g _ _ (out ++ [(s.class' out.length).1]) q2 (room_step hf ⟨hr, hri⟩ ⟨class_fwd r _, class_on r _⟩) (room_step hg ⟨he, hi⟩ ⟨class_fwd s _, class_on s _⟩) h0 (by simp; omega)
            rw [e1, e2, ek, q1]
            exact this
          · right
            obtain ⟨more, em⟩ := prgL_more g (s.class' out.length).2 (out ++ [(s.class' out.length).1])
            have e3 : (r.class' (p ++ out).length).2.e = 2 := class_many hr (by omega) hbr
            refine ⟨by rw [e1, em]; simp; omega, ?_⟩
            rw [e2, prgL_stop f (fun q => by rw [e3] at q; exact absurd q.1 (by decide))]
            exact e3
      · have hri : ¬ r.i < r.L.length := fun c => by
          have h1 := h.2 hr
          rw [rem_nil.2 (show s.L.length ≤ s.i by omega)] at h1
          have := rem_nil.1 h1
          omega
        rw [prgL_stop g (fun q => hi q.2), prgL_stop _ (fun q => hri q.2)]
        exact .inl ⟨hl, rfl, hr⟩
    · rw [prgL_stop g (fun q => he q.1)] at h0
      exact absurd h0 he
end Rs
theorem parse_ok0 {b : List UInt8} (h : (parseF b).2.2 = 0) : (scanF b).2.2 = 0 ∧ scanF b = ((scanF b).1, 0, 0) ∧ (Rs.prgL ((scanF b).1.length + 2) (parse0 b) []).2.e = 0 ∧ (parseF b).1 = (Rs.prgL ((scanF b).1.length + 2) (parse0 b) []).1 := by
  have h1 : (scanF b).2.2 = 0 := by
    refine Classical.byContradiction fun c => ?_
    unfold parseF at h
    rw [if_neg c] at h
    exact c h
  have h2 : scanF b = ((scanF b).1, 0, 0) := by
    rcases scan_res b with q | q
    · exact Prod.ext rfl q
    · exact absurd h1 q.2.1
  have h3 := parse_of h2
  refine ⟨h1, h2, ?_⟩
  by_cases c : (Rs.prgL ((scanF b).1.length + 2) (parse0 b) []).2.e = 0
  · rw [if_pos c] at h3
    exact ⟨c, by rw [h3]⟩
  · rw [if_neg c] at h3
    rw [h3] at h
    exact absurd h c
/-- two programs' texts, one behind the other -/
theorem parse_join {a b : List UInt8} (ha : (parseF a).2.2 = 0) (hb : (parseF b).2.2 = 0) (hl : a.length + b.length ≤ 5000) :
    ((parseF a).1.length + (parseF b).1.length ≤ 10 ∧ parseF (a ++ [10] ++ b) = ((parseF a).1 ++ (parseF b).1, 0, 0)) ∨
    (10 < (parseF a).1.length + (parseF b).1.length ∧ (parseF (a ++ [10] ++ b)).1 = [] ∧ (parseF (a ++ [10] ++ b)).2.2 = 2) := by
  obtain ⟨a1, a2, a3, a4⟩ := parse_ok0 ha
  obtain ⟨b1, b2, b3, b4⟩ := parse_ok0 hb
  obtain ⟨l, c1, c2⟩ := scan_two a1 b1 hl
  have e0 : (parse0 (a ++ [10] ++ b)).L = l := by show (scanF _).1 = l; rw [c1]
  have hrel : Rs.Rel ((scanF b).1.map s3) (parse0 (a ++ [10] ++ b)) (parse0 a) := by
    refine ⟨rfl, fun _ => ?_⟩
    show ((parse0 _).L.drop 0).map s3 = ((parse0 a).L.drop 0).map s3 ++ _
    rw [e0]; exact c2
  have r0 : Rs.Room (l.length + 2) (parse0 (a ++ [10] ++ b)) := fun _ => by rw [Rs.rem_length, e0]; omega
  have r1 : Rs.Room ((scanF a).1.length + 2) (parse0 a) := fun _ => by rw [Rs.rem_length]; show (scanF a).1.length - _ < _; omega
  have r2 : Rs.Room ((scanF b).1.length + 2) (parse0 b) := fun _ => by rw [Rs.rem_length]; show (scanF b).1.length - _ < _; omega
  have q := parse_of c1
  rcases Rs.prgL_out _ _ _ _ [] hrel r0 r1 with h | h | h
  · exact absurd (h.2.1.symm.trans a3) (by decide)
  · obtain ⟨-, f1, p1, g1, g2, g3, g4⟩ := h
    rw [← a4] at g1
    have hrel2 : Rs.Rel [] p1 (parse0 b) := by
      refine ⟨g2.1.trans a3, fun he => ?_⟩
      have := g2.2 he
      rw [g3] at this
      rw [this]
      show [] ++ _ = ((scanF b).1.drop 0).map s3 ++ []
      simp
    have ha10 : (parseF a).1.length ≤ 10 := by
      have := Rs.prgL_join [] _ _ (parse0 a) (parse0 a) [] ⟨rfl, fun _ => by simp⟩ r1 r1 a3 (by simp)
      rw [← a4] at this
      rcases this with w | w
      · simpa using w.1
      · exact absurd (w.2.symm.trans a3) (by decide)
    have h5 := Rs.prgL_join (parseF a).1 f1 _ p1 (parse0 b) [] hrel2 g4 r2 b3 (by simpa using ha10)
    rw [← b4, List.append_nil, ← g1] at h5
    rcases h5 with w | w
    · left
      rw [if_pos w.2.2] at q
      exact ⟨w.1, by rw [q, w.2.1]⟩
    · right
      rw [if_neg (by rw [w.2]; decide)] at q
      rw [q]
      exact ⟨w.1, rfl, w.2⟩
  · exact absurd a3 h.1
end Go.Proofs.YtimhbimpaiiceaaDoor.Ax
