/- Layer parse: what a method does. -/
import Derived.Test.YtimhbimpaiiceaaDoorGg
set_option linter.unusedVariables false
set_option linter.unusedSimpArgs false
namespace Go.Proofs.YtimhbimpaiiceaaDoor.Ax
open Go Go.RowKit
def mPre (m : Meth) : List SV := [S m.name, B m.static, B m.abs, .row Ty 2 tyC ty0 m.params, I m.ret.1, S m.ret.2, I 0, .val (.slice none 0 0), .val (.slice none 0 0)]
def bodyRC : CtrB := { A := Rs × Meth, enc := fun x => [.box 1000 0, .box 1001 0], pre := fun x => [rsC x.1, mPre x.2], dom := fun x => rok x.1, res := fun _ _ => .tup [], post := fun x _ => [rsC x.1.body, methC (x.1.bodyV x.2)], gl := tabP }
theorem instr_yes {r : Rs} {n : Int} (h : r.isOp = true) : r.instrR n = (r.instr n).2 ∧ r.instrV n = (r.instr n).1 := ⟨if_pos h, if_pos h⟩
theorem instr_no {r : Rs} {n : Int} (h : r.isOp = false) : r.instrR n = r := if_neg (by rw [h]; decide)
set_option maxRecDepth 100000 in
set_option maxHeartbeats 4000000 in
theorem bodyR_ok : CtrBSound Tryd.prog 66 bodyRC :=
  ctrB_of_ax2 mixed _ Tryd.func66 (by kernel_rfl) rfl (fun _ _ => ⟨Nat.le_of_ble_eq_true rfl, Nat.le_of_ble_eq_true rfl⟩) fun ((r, m) : Rs × Meth) id hd => by
    refine ⟨_, ⟨env_okB tys_ok (eqs := []) trivial (cs := [(46, isC)]) ⟨is_ok, trivial⟩ (bs := [(48, wantC), (74, numRC), (75, instrRC), (47, roomC), (49, freshRC)]) ⟨want_ok, numR_ok, instrR_ok, room_ok, freshR_ok, trivial⟩ (gl := tabP), fun _ h => h⟩, ?_⟩
    have hd : rok r := hd
    have hL : r.L.length ≤ 1000000 := hd.1
    have f1 := Rs.want_fwd r wLocals
    have f2 := f1.trans (Rs.num_fwd _ 0 8)
    have f3 : Fwd r r.bo1 := Rs.bo1_fwd r
    have f4 : Fwd r r.boCode.2 := Rs.boCode_fwd r
    have f5 : Fwd r r.boCat.2 := Rs.boCat_fwd r
    refine ⟨by kernel_rfl, ?_⟩
    refine ⟨(r, wLocals), ⟨.refl _, .str rfl, trivial⟩, ⟨⟨rfl, .refl _, .refl _, .refl _, .refl _, .refl _, trivial⟩, trivial⟩, ⟨hd, trivial⟩, ?_⟩
    refine ⟨by kernel_rfl, ?_⟩
    refine ⟨(r.want wLocals, 0, 8), ⟨.refl _, .refl _, .refl _, trivial⟩, ⟨⟨rfl, .refl _, .refl _, .refl _, .refl _, .refl _, trivial⟩, trivial⟩, ⟨rok_fwd hd f1, trivial⟩, ?_⟩
    refine ⟨by kernel_rfl, ?_⟩
    refine ⟨((r.want wLocals).num 0 8, wLc), ⟨.refl _, .str rfl, trivial⟩, ⟨⟨rfl, .refl _, .refl _, .refl _, .refl _, .refl _, trivial⟩, trivial⟩, ⟨rok_fwd hd f2, trivial⟩, ?_⟩
    refine ⟨Nat × Rs × List Ins, fun _ => [(0, .box 1000 0), (1, .box 1001 0)], fun s => [(1000, rsC s.2.1), (1001, [S m.name, B m.static, B m.abs, .row Ty 2 tyC ty0 m.params, I m.ret.1, S m.ret.2, I ((r.want wLocals).numV 0 8), .own Ins 4 insC ins0 s.2.2 35, .val (.slice none 0 0)])],
      fun s => Rs.codeL s.1 s.2.1 s.2.2 = r.boCode ∧ s.2.1.need ≤ s.1 ∧ Fwd r s.2.1 ∧ s.2.2.length + s.1 = r.L.length + 2, fun s => s.1,
      ⟨(r.L.length + 2, r.bo1, []), ⟨rfl, (by have := need_le r.bo1; rw [f3.L] at this; exact this), f3, (by show 0 + (r.L.length + 2) = _; omega)⟩, ⟨⟨rfl, rfl⟩, .refl _, .refl _, ⟨.refl _, .refl _, .refl _, .refl _, .refl _, .refl _, .refl _, .nilO .., .refl _, trivial⟩, ⟨.refl _, .refl _, .refl _, .refl _, .refl _, trivial⟩, trivial⟩⟩, fun ((k, q, out) : Nat × Rs × List Ins) hx => ?_⟩
    have hx1 : Rs.codeL k q out = r.boCode := hx.1
    have hx2 : q.need ≤ k := hx.2.1
    have hx3 : Fwd r q := hx.2.2.1
    have hx4 : out.length + k = r.L.length + 2 := hx.2.2.2
    obtain ⟨k, rfl⟩ : ∃ k', k = k' + 1 := ⟨k - 1, by have := Rs.need_pos q; omega⟩
    have hq : rok q := rok_fwd hd hx3
    refine ⟨by kernel_rfl, ?_⟩
    refine ⟨(q, (out.length : Int)), ⟨.refl _, .refl _, trivial⟩, ⟨⟨rfl, .refl _, .refl _, .refl _, .refl _, .refl _, trivial⟩, trivial⟩, ⟨hq, trivial⟩, ?_⟩
    refine ⟨fun h => ?_, fun h => ?_⟩
    rotate_left
    · have h1 : q.isOp = true := notF h
      have hat := Rs.isOp_at h1
      have hy := instr_yes (n := (out.length : Int)) h1
      rw [Rs.codeL, if_pos h1] at hx1
      have hinv : Rs.codeL k (q.instrR out.length) (out ++ [q.instrV out.length]) = r.boCode ∧ (q.instrR out.length).need ≤ k ∧ Fwd r (q.instrR out.length) ∧ (out ++ [q.instrV out.length]).length + k = r.L.length + 2 := by
        rw [hy.1, hy.2]
        have hf := Rs.instr_fwd q out.length
        have := Rs.need_lt hat hf (Rs.instr_on q out.length)
        exact ⟨hx1, by omega, hx3.trans hf, by simp; omega⟩
      refine ⟨by kernel_rfl, ?_⟩
      refine ⟨Ins, insC, ins0, [q.instrV out.length], ⟨rfl, fun _ => rfl⟩, ⟨.refl _, .refl _, .refl _, .refl _, trivial⟩, rfl, ?_⟩
      refine ⟨Ins, insC, ins0, out, [q.instrV out.length], 35, ⟨.refl _, .own ..⟩, fun _ => rfl, (by show (out.length + 1) * 48 ≤ 140737488355328; omega), ?_⟩
      exact ⟨(k, q.instrR out.length, out ++ [q.instrV out.length]), hinv, Nat.lt_succ_self _, ⟨rfl, rfl⟩, .refl _, .refl _, ⟨.refl _, .refl _, .refl _, .refl _, .refl _, .refl _, .refl _, .refl _, .refl _, trivial⟩, ⟨.refl _, .refl _, .refl _, .refl _, .refl _, trivial⟩, trivial⟩
    have h1 : q.isOp = false := notT h
    rw [Rs.codeL, if_neg (by rw [h1]; decide)] at hx1
    have e1 : out = r.boCode.1 := by rw [← hx1]
    have e2 : q.instrR out.length = r.boCode.2 := by rw [instr_no h1, ← hx1]
    have hE := e2
    refine ⟨Nat × Rs × List Cat, fun _ => [(0, .box 1000 0), (1, .box 1001 0)], fun s => [(1000, rsC s.2.1), (1001, [S m.name, B m.static, B m.abs, .row Ty 2 tyC ty0 m.params, I m.ret.1, S m.ret.2, I ((r.want wLocals).numV 0 8), .own Ins 4 insC ins0 r.boCode.1 35, .own Cat 4 catC cat0 s.2.2 70])],
      fun s => Rs.catchL s.1 s.2.1 s.2.2 = r.boCat ∧ s.2.1.need ≤ s.1 ∧ Fwd r s.2.1 ∧ s.2.2.length + s.1 = r.L.length + 2, fun s => s.1,
      ⟨(r.L.length + 2, r.boCode.2, []), ⟨rfl, (by have := need_le r.boCode.2; rw [f4.L] at this; exact this), f4, (by show 0 + (r.L.length + 2) = _; omega)⟩, ⟨⟨rfl, rfl⟩, .refl _, .refl _, ⟨.refl _, .refl _, .refl _, .refl _, .refl _, .refl _, .refl _, .ownEq e1, .nilO .., trivial⟩, ⟨.rowEq (rL hE :), .int (rI hE :), .int (rN hE :), .int (rA hE :), .int (rE hE :), trivial⟩, trivial⟩⟩, fun ((k2, p, cs) : Nat × Rs × List Cat) hy => ?_⟩
    clear hE
    have hy1 : Rs.catchL k2 p cs = r.boCat := hy.1
    have hy2 : p.need ≤ k2 := hy.2.1
    have hy3 : Fwd r p := hy.2.2.1
    have hy4 : cs.length + k2 = r.L.length + 2 := hy.2.2.2
    obtain ⟨k2, rfl⟩ : ∃ k', k2 = k' + 1 := ⟨k2 - 1, by have := Rs.need_pos p; omega⟩
    have hp : rok p := rok_fwd hd hy3
    refine ⟨(p, wCatch), ⟨.refl _, .str rfl, trivial⟩, rfl, ⟨hp, trivial⟩, ?_⟩
    refine ⟨fun h => ?_, fun h => ?_⟩
    · have h1 : p.is wCatch = true := h
      have hat := Rs.is_at h1
      rw [Rs.catchL, if_pos h1] at hy1
      have g0 := Rs.room_fwd p (cs.length : Int) 4
      have g1 : Fwd p (p.ca1 cs.length) := Rs.ca1_fwd p cs.length
      have g2 := g1.trans (Rs.fresh_fwd _)
      have g3 := g2.trans (Rs.num_fwd _ 0 48)
      have g4 := g3.trans (Rs.num_fwd _ 0 48)
      have g5 := g4.trans (Rs.num_fwd _ 0 48)
      have hinv : Rs.catchL k2 (p.ca1 cs.length).catR (cs ++ [(p.ca1 cs.length).catV]) = r.boCat ∧ (p.ca1 cs.length).catR.need ≤ k2 ∧ Fwd r (p.ca1 cs.length).catR ∧ (cs ++ [(p.ca1 cs.length).catV]).length + k2 = r.L.length + 2 := by
        have hf := g1.trans (Rs.catR_fwd _)
        have := Rs.need_lt hat hf (Rs.catch_on p cs.length)
        exact ⟨hy1, by omega, hy3.trans hf, by simp; omega⟩
      refine ⟨by kernel_rfl, ?_⟩
      refine ⟨(p, (cs.length : Int), 4), ⟨.refl _, .refl _, .refl _, trivial⟩, ⟨⟨rfl, .refl _, .refl _, .refl _, .refl _, .refl _, trivial⟩, trivial⟩, ⟨hp, trivial⟩, ?_⟩
      refine ⟨by kernel_rfl, ?_⟩
      refine ⟨(p.room cs.length 4, wCatch), ⟨.refl _, .str rfl, trivial⟩, ⟨⟨rfl, .refl _, .refl _, .refl _, .refl _, .refl _, trivial⟩, trivial⟩, ⟨rok_fwd hp g0, trivial⟩, ?_⟩
      refine ⟨by kernel_rfl, ?_⟩
      refine ⟨((p.ca1 cs.length), ()), ⟨.refl _, trivial⟩, ⟨⟨rfl, .refl _, .refl _, .refl _, .refl _, .refl _, trivial⟩, trivial⟩, ⟨rok_fwd hp g1, trivial⟩, ?_⟩
      refine ⟨by kernel_rfl, ?_⟩
      refine ⟨((p.ca1 cs.length).fresh, 0, 48), ⟨.refl _, .refl _, .refl _, trivial⟩, ⟨⟨rfl, .refl _, .refl _, .refl _, .refl _, .refl _, trivial⟩, trivial⟩, ⟨rok_fwd hp g2, trivial⟩, ?_⟩
      refine ⟨by kernel_rfl, ?_⟩
      refine ⟨((p.ca1 cs.length).fresh.num 0 48, 0, 48), ⟨.refl _, .refl _, .refl _, trivial⟩, ⟨⟨rfl, .refl _, .refl _, .refl _, .refl _, .refl _, trivial⟩, trivial⟩, ⟨rok_fwd hp g3, trivial⟩, ?_⟩
      refine ⟨by kernel_rfl, ?_⟩
      refine ⟨(((p.ca1 cs.length).fresh.num 0 48).num 0 48, 0, 48), ⟨.refl _, .refl _, .refl _, trivial⟩, ⟨⟨rfl, .refl _, .refl _, .refl _, .refl _, .refl _, trivial⟩, trivial⟩, ⟨rok_fwd hp g4, trivial⟩, ?_⟩
      refine ⟨by kernel_rfl, ?_⟩
      refine ⟨((((p.ca1 cs.length).fresh.num 0 48).num 0 48).num 0 48, wSemi), ⟨.refl _, .str rfl, trivial⟩, ⟨⟨rfl, .refl _, .refl _, .refl _, .refl _, .refl _, trivial⟩, trivial⟩, ⟨rok_fwd hp g5, trivial⟩, ?_⟩
      refine ⟨by kernel_rfl, ?_⟩
      refine ⟨Cat, catC, cat0, [(p.ca1 cs.length).catV], ⟨rfl, fun _ => rfl⟩, ⟨.refl _, .refl _, .refl _, .refl _, trivial⟩, rfl, ?_⟩
      refine ⟨Cat, catC, cat0, cs, [(p.ca1 cs.length).catV], 70, ⟨.refl _, .own ..⟩, fun _ => rfl, (by show (cs.length + 1) * 40 ≤ 140737488355328; omega), ?_⟩
      exact ⟨(k2, (p.ca1 cs.length).catR, cs ++ [(p.ca1 cs.length).catV]), hinv, Nat.lt_succ_self _, ⟨rfl, rfl⟩, .refl _, .refl _, ⟨.refl _, .refl _, .refl _, .refl _, .refl _, .refl _, .refl _, .refl _, .refl _, trivial⟩, ⟨.refl _, .refl _, .refl _, .refl _, .refl _, trivial⟩, trivial⟩
    have h1 : p.is wCatch = false := h
    rw [Rs.catchL, if_neg (by rw [h1]; decide)] at hy1
    have e3 : cs = r.boCat.1 := by rw [← hy1]
    have hE : p = r.boCat.2 := by rw [← hy1]
    refine ⟨by kernel_rfl, ?_⟩
    refine ⟨(r.boCat.2, wRc), ⟨.refl _, .str rfl, trivial⟩, ⟨⟨rfl, .rowEq (rL hE :), .int (rI hE :), .int (rN hE :), .int (rA hE :), .int (rE hE :), trivial⟩, trivial⟩, ⟨rok_fwd hd f5, trivial⟩, ?_⟩
    exact ⟨.refl (.tup []), ⟨rfl, .refl _, .refl _, .refl _, .refl _, .refl _, trivial⟩, ⟨rfl, .refl _, .refl _, .refl _, .refl _, .refl _, .refl _, .refl _, .own .., .ownRow e3, trivial⟩, trivial⟩
end Go.Proofs.YtimhbimpaiiceaaDoor.Ax
