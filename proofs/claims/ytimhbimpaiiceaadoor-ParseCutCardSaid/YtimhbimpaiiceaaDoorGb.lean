/- Layer parse: a reader goes on, and ends. -/
import Derived.Test.YtimhbimpaiiceaaDoorGa
set_option linter.unusedVariables false
set_option linter.unusedSimpArgs false
namespace Go.Proofs.YtimhbimpaiiceaaDoor.Ax
open Go Go.RowKit
/-- One reader behind another: no further than to the words' end; not on behind what is wrong. -/
structure Fwd (r r' : Rs) : Prop where
  L : r'.L = r.L
  n : r'.n = r.n
  le : r.i ≤ r'.i
  bd : r'.i ≤ r.L.length ∨ r'.i = r.i
  err : r.e ≠ 0 → r' = r
namespace Fwd
theorem refl (r : Rs) : Fwd r r := ⟨rfl, rfl, Nat.le_refl _, .inr rfl, fun _ => rfl⟩
theorem trans {a b c : Rs} (h : Fwd a b) (k : Fwd b c) : Fwd a c := by
  refine ⟨k.L.trans h.L, k.n.trans h.n, Nat.le_trans h.le k.le, ?_, fun he => ?_⟩
  · have h1 := h.bd; have h2 := k.bd; have h3 := h.le; have h4 := k.le
    rw [h.L] at h2
    omega
  · have := h.err he
    subst this
    exact k.err he
theorem ok {a b : Rs} (h : Fwd a b) (k : a.i ≤ a.L.length) : b.i ≤ b.L.length := by
  have := h.bd
  rw [h.L]; omega
theorem good {a b : Rs} (h : Fwd a b) (k : b.e = 0) : a.e = 0 := Classical.byContradiction fun c => c (by have := h.err c; subst this; exact k)
end Fwd
namespace Rs
theorem next_none {r : Rs} (h : ¬ (r.e = 0 ∧ r.i < r.L.length)) : r.next = tok0 := if_neg h
theorem next_some {r : Rs} (h : r.e = 0 ∧ r.i < r.L.length) : r.next = r.L.getD r.i tok0 := if_pos h
theorem is_at {r : Rs} {w : ByteArray} (h : r.is w = true) : r.e = 0 ∧ r.i < r.L.length := by
  refine Classical.byContradiction fun c => ?_
  unfold is at h
  rw [next_none c] at h
  simp at h
  exact h.2 h.1.symm
theorem free_at {r : Rs} (h : r.free = true) : r.e = 0 ∧ r.i < r.L.length := by
  refine Classical.byContradiction fun c => ?_
  unfold free at h
  rw [next_none c] at h
  simp at h
theorem num_at {r : Rs} {lo hi : Int} (h : r.numOk lo hi = true) : r.e = 0 ∧ r.i < r.L.length := by
  refine Classical.byContradiction fun c => ?_
  unfold numOk at h
  rw [next_none c] at h
  simp at h
theorem isOp_at {r : Rs} (h : r.isOp = true) : r.e = 0 ∧ r.i < r.L.length := by
  refine Classical.byContradiction fun c => ?_
  unfold isOp at h
  rw [next_none c] at h
  simp at h
theorem fail_fwd (r : Rs) (e : Int) : Fwd r (r.fail e) := by
  unfold fail
  split
  · rename_i h; exact ⟨rfl, rfl, Nat.le_refl _, .inr rfl, fun c => absurd h c⟩
  · exact .refl _
theorem fail_e (r : Rs) {e : Int} (h : e ≠ 0) : (r.fail e).e ≠ 0 := by
  unfold fail
  split
  · exact h
  · assumption
theorem step_fwd {r : Rs} (h : r.e = 0 ∧ r.i < r.L.length) : Fwd r r.step := ⟨rfl, rfl, Nat.le_succ _, .inl h.2, fun c => absurd h.1 c⟩
theorem take_fwd (r : Rs) (w : ByteArray) : Fwd r (r.take w) := by
  unfold take
  split
  · exact step_fwd (is_at (by assumption))
  · exact .refl _
theorem want_fwd (r : Rs) (w : ByteArray) : Fwd r (r.want w) := by
  unfold want
  split
  · exact step_fwd (is_at (by assumption))
  · exact fail_fwd _ _
theorem fresh_fwd (r : Rs) : Fwd r r.fresh := by
  unfold fresh
  split
  · exact step_fwd (free_at (by assumption))
  · exact fail_fwd _ _
theorem num_fwd (r : Rs) (lo hi : Int) : Fwd r (r.num lo hi) := by
  unfold num
  split
  · exact step_fwd (num_at (by assumption))
  · exact fail_fwd _ _
theorem room_fwd (r : Rs) (a b : Int) : Fwd r (r.room a b) := by
  unfold room
  split
  · exact fail_fwd _ _
  · exact .refl _
theorem name1_fwd {r : Rs} (h : r.e = 0 ∧ r.i < r.L.length) (k : Int) : Fwd r (r.name1 k) := by
  unfold name1
  split
  · exact (step_fwd h).trans (room_fwd _ _ _)
  · exact step_fwd h
theorem namesL_fwd : ∀ (f : Nat) (r : Rs) (out : List ByteArray), Fwd r (namesL f r out).2
  | 0, r, out => .refl _
  | f + 1, r, out => by
    unfold namesL
    split
    · exact ((name1_fwd (is_at (by assumption)) _).trans (fresh_fwd _)).trans (namesL_fwd f _ _)
    · exact .refl _
theorem names_fwd (r : Rs) : Fwd r r.names.2 := (fresh_fwd r).trans (namesL_fwd _ _ _)
theorem rowR_fwd (r : Rs) : Fwd r r.rowR := by
  unfold rowR
  split
  · exact (step_fwd (is_at (by assumption))).trans (want_fwd _ _)
  · exact .refl _
theorem kind_fwd (r : Rs) : Fwd r r.kind := by
  unfold kind
  split
  · exact step_fwd (is_at (by assumption))
  · split
    · exact (step_fwd (is_at (by assumption))).trans (rowR_fwd _)
    · exact (fresh_fwd r).trans (rowR_fwd _)
theorem param1_fwd {r : Rs} (h : r.e = 0 ∧ r.i < r.L.length) (k : Int) : Fwd r (r.param1 k) := by
  unfold param1
  split
  · exact (step_fwd h).trans (room_fwd _ _ _)
  · exact step_fwd h
theorem paramsL_fwd : ∀ (f : Nat) (r : Rs) (out : List Ty), Fwd r (paramsL f r out).2
  | 0, r, out => .refl _
  | f + 1, r, out => by
    unfold paramsL
    split
    · exact ((param1_fwd (is_at (by assumption)) _).trans (kind_fwd _)).trans (paramsL_fwd f _ _)
    · exact .refl _
theorem params_fwd (r : Rs) : Fwd r r.params.2 := by
  unfold params
  split
  · exact (want_fwd r _).trans (step_fwd (is_at (by assumption)))
  · exact (((want_fwd r _).trans (kind_fwd _)).trans (paramsL_fwd _ _ _)).trans (want_fwd _ _)
theorem in1_fwd (r : Rs) (k : Int) : Fwd r (r.in1 k) := (room_fwd r k _).trans (want_fwd _ _)
theorem in2_fwd (r : Rs) (o : Int) : Fwd r (r.in2 o) := by
  unfold in2
  split
  · exact num_fwd _ _ _
  · exact .refl _
theorem in3_fwd (r : Rs) (b : Bool) : Fwd r (r.in3 b) := by
  unfold in3
  split
  · exact fresh_fwd _
  · exact .refl _
theorem inArgs_fwd (r : Rs) (o : Int) : Fwd r (r.inArgs o) := ((in2_fwd r o).trans (in3_fwd _ _)).trans (in3_fwd _ _)
theorem instr_fwd (r : Rs) (k : Int) : Fwd r (r.instr k).2 := ((in1_fwd r k).trans (inArgs_fwd _ _)).trans (want_fwd _ _)
theorem codeL_fwd : ∀ (f : Nat) (r : Rs) (out : List Ins), Fwd r (codeL f r out).2
  | 0, r, out => .refl _
  | f + 1, r, out => by
    unfold codeL
    split
    · exact (instr_fwd _ _).trans (codeL_fwd f _ _)
    · exact .refl _
theorem ca1_fwd (r : Rs) (k : Int) : Fwd r (r.ca1 k) := (room_fwd r k _).trans (want_fwd _ _)
theorem catR_fwd (r : Rs) : Fwd r r.catR := ((((fresh_fwd r).trans (num_fwd _ _ _)).trans (num_fwd _ _ _)).trans (num_fwd _ _ _)).trans (want_fwd _ _)
theorem catchL_fwd : ∀ (f : Nat) (r : Rs) (out : List Cat), Fwd r (catchL f r out).2
  | 0, r, out => .refl _
  | f + 1, r, out => by
    unfold catchL
    split
    · exact ((ca1_fwd _ _).trans (catR_fwd _)).trans (catchL_fwd f _ _)
    · exact .refl _
theorem bo1_fwd (r : Rs) : Fwd r r.bo1 := ((want_fwd r _).trans (num_fwd _ _ _)).trans (want_fwd _ _)
theorem boCode_fwd (r : Rs) : Fwd r r.boCode.2 := (bo1_fwd r).trans (codeL_fwd _ _ _)
theorem boCat_fwd (r : Rs) : Fwd r r.boCat.2 := (boCode_fwd r).trans (catchL_fwd _ _ _)
theorem body_fwd (r : Rs) : Fwd r r.body := (boCat_fwd r).trans (want_fwd _ _)
theorem mfR_fwd (r : Rs) : Fwd r r.mfR := (((fresh_fwd r).trans (want_fwd _ _)).trans (kind_fwd _)).trans (want_fwd _ _)
theorem mm1_fwd (r : Rs) : Fwd r r.mm1 := ((fresh_fwd r).trans (params_fwd _)).trans (kind_fwd _)
theorem mmR_fwd (r : Rs) : Fwd r r.mmR := by
  unfold mmR
  split
  · exact (mm1_fwd r).trans (step_fwd (is_at (by assumption)))
  · exact (mm1_fwd r).trans (body_fwd _)
theorem memF_fwd (r : Rs) (k : Int) : Fwd r (r.memF k) := (room_fwd r k _).trans (want_fwd _ _)
theorem member_fwd (r : Rs) (c : Cls) : Fwd r (r.member c).2 := by
  unfold member
  split
  · exact (memF_fwd r _).trans (mfR_fwd _)
  · split
    · exact (memF_fwd r _).trans (mmR_fwd _)
    · exact fail_fwd _ _
theorem clsL_fwd : ∀ (f : Nat) (r : Rs) (c : Cls), Fwd r (clsL f r c).2
  | 0, r, c => .refl _
  | f + 1, r, c => by
    unfold clsL
    split
    · split
      · exact step_fwd (is_at (by assumption))
      · exact (member_fwd _ _).trans (clsL_fwd f _ _)
    · exact .refl _
theorem cl1_fwd (r : Rs) (k : Int) : Fwd r (r.cl1 k) := by
  unfold cl1
  split
  · exact (room_fwd _ _ _).trans (want_fwd _ _)
  · exact want_fwd _ _
theorem ex1_fwd (r : Rs) (b : Bool) : Fwd r (r.ex1 b).2 := by
  unfold ex1
  split
  · split
    · exact (step_fwd (is_at (by assumption))).trans (names_fwd _)
    · exact (step_fwd (is_at (by assumption))).trans (fresh_fwd _)
  · exact .refl _
theorem ex2_fwd (r : Rs) (b : Bool) (l : List ByteArray) : Fwd r (r.ex2 b l).2 := by
  unfold ex2
  split
  · rename_i h
    rw [Bool.and_eq_true] at h
    exact (step_fwd (is_at h.2)).trans (names_fwd _)
  · exact .refl _
theorem clR_fwd (r : Rs) (k : Int) : Fwd r (r.clR k) := ((((cl1_fwd r k).trans (fresh_fwd _)).trans (ex1_fwd _ _)).trans (ex2_fwd _ _ _)).trans (want_fwd _ _)
theorem class_fwd (r : Rs) (k : Int) : Fwd r (r.class' k).2 := (clR_fwd r k).trans (clsL_fwd _ _ _)
theorem prgL_fwd : ∀ (f : Nat) (r : Rs) (out : List Cls), Fwd r (prgL f r out).2
  | 0, r, out => .refl _
  | f + 1, r, out => by
    unfold prgL
    split
    · exact (class_fwd _ _).trans (prgL_fwd f _ _)
    · exact .refl _

/-- what takes a word, or finds something wrong, needs fewer rounds -/
theorem need_lt {r r' : Rs} (h : r.e = 0 ∧ r.i < r.L.length) (hf : Fwd r r') (hp : r'.e ≠ 0 ∨ r.i < r'.i) : r'.need < r.need := by
  unfold need
  rw [if_pos h.1]
  have h1 := h.2
  have h2 := hf.le
  split
  · rw [hf.L]
    rcases hp with hp | hp
    · rename_i c; exact absurd c hp
    · omega
  · omega
theorem need_pos (r : Rs) : 0 < r.need := by
  unfold need
  split <;> omega
theorem want_on (r : Rs) (w : ByteArray) : (r.want w).e ≠ 0 ∨ r.i < (r.want w).i := by
  unfold want
  split
  · exact .inr (Nat.lt_succ_self _)
  · exact .inl (fail_e _ (by decide))
theorem fresh_on (r : Rs) : r.fresh.e ≠ 0 ∨ r.i < r.fresh.i := by
  unfold fresh
  split
  · exact .inr (Nat.lt_succ_self _)
  · exact .inl (fail_e _ (by decide))
theorem on_fwd {a b c : Rs} (h : b.e ≠ 0 ∨ a.i < b.i) (hf : Fwd b c) : c.e ≠ 0 ∨ a.i < c.i := by
  rcases h with h | h
  · left
    rw [hf.err h]; exact h
  · exact .inr (Nat.lt_of_lt_of_le h hf.le)
theorem fwd_on {a b c : Rs} (hf : Fwd a b) (h : c.e ≠ 0 ∨ b.i < c.i) : c.e ≠ 0 ∨ a.i < c.i := by
  rcases h with h | h
  · exact .inl h
  · exact .inr (Nat.lt_of_le_of_lt hf.le h)
theorem name1_on (r : Rs) (k : Int) : (r.name1 k).e ≠ 0 ∨ r.i < (r.name1 k).i := by
  have h0 : r.step.e ≠ 0 ∨ r.i < r.step.i := .inr (Nat.lt_succ_self _)
  unfold name1
  split
  · exact on_fwd h0 (room_fwd _ _ _)
  · exact h0
theorem param1_on (r : Rs) (k : Int) : (r.param1 k).e ≠ 0 ∨ r.i < (r.param1 k).i := by
  have h0 : r.step.e ≠ 0 ∨ r.i < r.step.i := .inr (Nat.lt_succ_self _)
  unfold param1
  split
  · exact on_fwd h0 (room_fwd _ _ _)
  · exact h0
theorem instr_on (r : Rs) (k : Int) : (r.instr k).2.e ≠ 0 ∨ r.i < (r.instr k).2.i :=
  on_fwd (on_fwd (fwd_on (room_fwd r k 48) (want_on _ _)) (inArgs_fwd _ _)) (want_fwd _ _)
theorem catch_on (r : Rs) (k : Int) : (r.ca1 k).catR.e ≠ 0 ∨ r.i < (r.ca1 k).catR.i := on_fwd (fwd_on (room_fwd r k 4) (want_on _ _)) (catR_fwd _)
theorem member_on (r : Rs) (c : Cls) : (r.member c).2.e ≠ 0 ∨ r.i < (r.member c).2.i := by
  unfold member
  split
  · exact on_fwd (fwd_on (room_fwd r _ 6) (want_on _ _)) (mfR_fwd _)
  · split
    · exact on_fwd (fwd_on (room_fwd r _ 6) (want_on _ _)) (mmR_fwd _)
    · exact .inl (fail_e _ (by decide))
theorem cl1_on (r : Rs) (k : Int) : (r.cl1 k).e ≠ 0 ∨ r.i < (r.cl1 k).i := by
  unfold cl1
  split
  · exact fwd_on (room_fwd _ _ _) (want_on _ _)
  · exact want_on _ _
theorem class_on (r : Rs) (k : Int) : (r.class' k).2.e ≠ 0 ∨ r.i < (r.class' k).2.i :=
  on_fwd (on_fwd (cl1_on r k) ((((fresh_fwd _).trans (ex1_fwd _ _)).trans (ex2_fwd _ _ _)).trans (want_fwd _ _))) (clsL_fwd _ _ _)
end Rs
end Go.Proofs.YtimhbimpaiiceaaDoor.Ax
