/- Walks and laws, part 7: Tc Hf Lw Gw. -/
import Derived.Test.YtimhbimpaiiceaaDoorPk6
import Derived.Test.YtimhbimpaiiceaaDoorRows
import Derived.Stop.LaidErr
import Derived.LaidSub
import Derived.LaidMore
import Derived.Stop.Joined
import Derived.MakeChecks
import Derived.Lib.LaidTab
/- Layers parse and show: what is parsed can be shown. -/
set_option linter.unusedVariables false
set_option linter.unusedSimpArgs false
namespace Go.Proofs.YtimhbimpaiiceaaDoor.Ax
open Go Go.RowKit
namespace Rs
def Wd (r : Rs) : Prop := ∀ t ∈ r.L, wdOk t = true
theorem Wd.go {r s : Rs} (h : Wd r) (f : Fwd r s) : Wd s := by unfold Wd; rw [f.L]; exact h
theorem name_of {t : Tok} (h : wdOk t = true) (h1 : t.1 = 1) : nameF t.2.1.data.toList = true := by
  have e := wd_tok h
  have hs : wdS t = t.2.1.data.toList := by unfold wdS; rw [if_neg (by rw [h1]; decide)]
  have hc := tok_cases (w := wdS t) (by rw [e])
  rcases hc with ⟨m, e1, hm⟩ | hn | ⟨h2, h3⟩
  · rw [e1, tok_num hm] at e
    have : (2 : Int) = t.1 := congrArg (fun x => x.1.1) e
    rw [h1] at this; cases this
  · rw [← hs]; exact hn
  · rw [tok_sign h2 h3] at e
    have : (3 : Int) = t.1 := congrArg (fun x => x.1.1) e
    rw [h1] at this; cases this
theorem free_good {r : Rs} (hw : Wd r) (h : r.free = true) : freshW r.freshV = true := by
  have ha := free_at h
  have hv : r.freshV = r.next.2.1 := by unfold freshV; rw [if_pos h]
  rw [hv]
  unfold free at h
  rw [Bool.and_eq_true, decide_eq_true_eq] at h
  have hm : r.next ∈ r.L := by
    rw [next_some ha, show r.L.getD r.i tok0 = r.L[r.i]'ha.2 by simp [List.getD, ha.2]]
    exact List.getElem_mem _
  unfold freshW freshF
  rw [name_of (hw _ hm) h.1, Bool.true_and]
  exact h.2
theorem fresh_free {r : Rs} (h : r.fresh.e = 0) : r.free = true := by
  cases c : r.free with
  | true => rfl
  | false => exact absurd h (by unfold fresh; rw [c]; exact fail_e _ (by decide))
theorem fresh_good {r : Rs} (hw : Wd r) (h : r.fresh.e = 0) : freshW r.freshV = true := free_good hw (fresh_free h)
theorem room_good {r : Rs} {a b : Int} (h : (r.room a b).e = 0) : a < b := by
  unfold room at h
  split at h
  · exact absurd h (fail_e _ (by decide))
  · omega
theorem num_good {r : Rs} {a b : Int} (h : (r.num a b).e = 0) : inF (r.numV a b) a b = true := by
  cases c : r.numOk a b with
  | false => exact absurd h (by unfold num; rw [c]; exact fail_e _ (by decide))
  | true =>
    unfold numV inF
    rw [c]
    unfold numOk at c
    have := of_decide_eq_true c
    exact decide_eq_true this.2
theorem kind_good {r : Rs} (hw : Wd r) (h : r.kind.e = 0) : tyOk r.kindV = true := by
  unfold kind at h
  unfold kindV
  by_cases c : r.is wVoid = true
  · rw [if_pos c]; decide
  · rw [if_neg c] at h ⊢
    by_cases d : r.is wInt = true
    · rw [if_pos d]; split <;> decide
    · rw [if_neg d] at h ⊢
      have hf := fresh_good hw ((rowR_fwd _).good h)
      have hf : freshF r.freshV.data.toList = true := hf
      unfold tyOk typedF
      split
      · simp [hf]
      · simp [hf]
theorem name1_good {r : Rs} {k : Int} (h : (r.name1 k).fresh.e = 0) : k < 4 := by
  have hf := fresh_free h
  have he := (fresh_fwd _).good h
  unfold name1 at hf he
  cases c : r.step.free with
  | true => rw [c] at he; exact room_good he
  | false => rw [c] at hf; rw [show r.step.free = true from hf] at c; cases c
theorem namesL_good : ∀ (f : Nat) (r : Rs) (out : List ByteArray), Wd r → (namesL f r out).2.e = 0 → out.length ≤ 4 → (∀ x ∈ out, freshW x = true) → (namesL f r out).1.length ≤ 4 ∧ ∀ x ∈ (namesL f r out).1, freshW x = true
  | 0, r, out, hw, he, h1, h2 => ⟨h1, h2⟩
  | f + 1, r, out, hw, he, h1, h2 => by
    unfold namesL at he ⊢
    by_cases c : r.is wComma = true
    · rw [if_pos c] at he ⊢
      have e1 := (namesL_fwd f _ _).good he
      have hn := name1_good e1
      have hw1 := hw.go (name1_fwd (is_at c) out.length)
      refine namesL_good f _ _ (hw1.go (fresh_fwd _)) he (by simp only [List.length_append, List.length_singleton]; omega) fun x hx => ?_
      rcases List.mem_append.1 hx with q | q
      · exact h2 x q
      · rw [List.mem_singleton.1 q]; exact fresh_good hw1 e1
    · rw [if_neg c]; exact ⟨h1, h2⟩
theorem names_good {r : Rs} (hw : Wd r) (h : r.names.2.e = 0) : r.names.1.length ≤ 4 ∧ ∀ x ∈ r.names.1, freshW x = true := by
  have e1 := (namesL_fwd (r.L.length + 2) r.fresh [r.freshV]).good h
  exact namesL_good _ _ _ (hw.go (fresh_fwd r)) h (by simp) fun x hx => by rw [List.mem_singleton.1 hx]; exact fresh_good hw e1
theorem param1_good {r : Rs} {k : Int} (h : (r.param1 k).kind.e = 0) : k < 4 := by
  have he := (kind_fwd _).good h
  unfold param1 at he h
  by_cases c : (r.step.free || r.step.is wInt || r.step.is wVoid) = true
  · rw [if_pos c] at he; exact room_good he
  · rw [if_neg c] at h
    simp only [Bool.or_eq_true, not_or, Bool.not_eq_true] at c
    unfold kind at h
    rw [c.2, c.1.2] at h
    have := fresh_free ((rowR_fwd _).good h)
    rw [c.1.1] at this; cases this
theorem paramsL_good : ∀ (f : Nat) (r : Rs) (out : List Ty), Wd r → (paramsL f r out).2.e = 0 → out.length ≤ 4 → (∀ x ∈ out, tyOk x = true) → (paramsL f r out).1.length ≤ 4 ∧ ∀ x ∈ (paramsL f r out).1, tyOk x = true
  | 0, r, out, hw, he, h1, h2 => ⟨h1, h2⟩
  | f + 1, r, out, hw, he, h1, h2 => by
    unfold paramsL at he ⊢
    by_cases c : r.is wComma = true
    · rw [if_pos c] at he ⊢
      have e1 := (paramsL_fwd f _ _).good he
      have hn := param1_good e1
      have hw1 := hw.go (param1_fwd (is_at c) out.length)
      refine paramsL_good f _ _ (hw1.go (kind_fwd _)) he (by simp only [List.length_append, List.length_singleton]; omega) fun x hx => ?_
      rcases List.mem_append.1 hx with q | q
      · exact h2 x q
      · rw [List.mem_singleton.1 q]; exact kind_good hw1 e1
    · rw [if_neg c]; exact ⟨h1, h2⟩
theorem params_good {r : Rs} (hw : Wd r) (h : r.params.2.e = 0) : r.params.1.length ≤ 4 ∧ ∀ x ∈ r.params.1, tyOk x = true := by
  unfold params at h ⊢
  by_cases c : (r.want wLp).is wRp = true
  · rw [if_pos c]; exact ⟨Nat.zero_le _, fun x hx => by cases hx⟩
  · rw [if_neg c] at h ⊢
    have e1 := (want_fwd _ _).good h
    have e2 := (paramsL_fwd (r.L.length + 2) _ _).good e1
    have hw1 := hw.go (want_fwd r wLp)
    exact paramsL_good _ _ _ (hw1.go (kind_fwd _)) e1 (by simp) fun x hx => by rw [List.mem_singleton.1 hx]; exact kind_good hw1 e2
theorem idx_lt (x : ByteArray) : ∀ (zs : List ByteArray) (i : Nat), Lib.idxFromS zs x i < ((i + zs.length : Nat) : Int) ∨ Lib.idxFromS zs x i = -1
  | [], i => .inr rfl
  | z :: zs, i => by
    unfold Lib.idxFromS
    by_cases c : z = x
    · rw [if_pos c]; left; simp only [List.length_cons]; omega
    · rw [if_neg c]
      rcases idx_lt x zs (i + 1) with h | h
      · left; simp only [List.length_cons]; omega
      · exact .inr h
theorem op_le {s : ByteArray} (h : 0 ≤ opV s) : opV s ≤ 43 := by
  have hl : opsL.length = 44 := by decide +kernel
  unfold opV at h ⊢
  have := idx_lt s opsL 0
  unfold Lib.idxOfS at h ⊢
  rw [hl] at this
  omega
theorem in3_good {r : Rs} {b : Bool} (hw : Wd r) (h : (r.in3 b).e = 0) : namedF (r.in3V b).data.toList b = true := by
  unfold in3 at h
  unfold in3V namedF
  cases b with
  | true => exact fresh_good hw h
  | false => rfl
theorem in2_good {r : Rs} {o : Int} (h : (r.in2 o).e = 0) : inF (r.in2V o) (numsF o).1 (numsF o).2.1 = true := by
  unfold in2 at h
  unfold in2V
  by_cases c : (numsF o).2.2 = true
  · rw [if_pos c] at h ⊢; exact num_good h
  · rw [if_neg c]
    unfold numsF at c ⊢
    split at c
    · exact absurd rfl c
    · split at c
      · exact absurd rfl c
      · split at c
        · exact absurd rfl c
        · rename_i c1 c2 c3
          rw [if_neg c1, if_neg c2, if_neg c3]; rfl
theorem instr_good {r : Rs} {k : Int} (hw : Wd r) (ho : r.isOp = true) (h : (r.instr k).2.e = 0) : insOk (r.instr k).1 = true ∧ k < 48 := by
  have e1 : ((r.in1 k).inArgs (opV r.next.2.1)).e = 0 := (want_fwd _ _).good h
  have e2 := (in3_fwd _ _).good e1
  have e3 := (in3_fwd _ _).good e2
  have e4 := (in2_fwd _ _).good e3
  have e5 := (want_fwd _ _).good e4
  have h0 : 0 ≤ opV r.next.2.1 := by
    unfold isOp at ho
    rw [Bool.and_eq_true, decide_eq_true_eq, decide_eq_true_eq] at ho
    exact ho.2
  have hw1 := hw.go (in1_fwd r k)
  have hw2 := hw1.go (in2_fwd _ (opV r.next.2.1))
  have hw3 := hw2.go (in3_fwd _ (decide (namesF (opV r.next.2.1) > 0)))
  refine ⟨?_, room_good e5⟩
  show instrF (opV r.next.2.1) _ _ _ = true
  unfold instrF
  rw [Bool.and_eq_true, Bool.and_eq_true, Bool.and_eq_true]
  exact ⟨⟨⟨decide_eq_true ⟨h0, op_le h0⟩, in2_good e3⟩, in3_good hw2 e2⟩, in3_good hw3 e1⟩
theorem codeL_good : ∀ (f : Nat) (r : Rs) (out : List Ins), Wd r → (codeL f r out).2.e = 0 → out.length ≤ 48 → (∀ x ∈ out, insOk x = true) → (codeL f r out).1.length ≤ 48 ∧ ∀ x ∈ (codeL f r out).1, insOk x = true
  | 0, r, out, hw, he, h1, h2 => ⟨h1, h2⟩
  | f + 1, r, out, hw, he, h1, h2 => by
    unfold codeL at he ⊢
    by_cases c : r.isOp = true
    · rw [if_pos c] at he ⊢
      have e1 := (codeL_fwd f _ _).good he
      obtain ⟨g1, g2⟩ := instr_good hw c e1
      refine codeL_good f _ _ (hw.go (instr_fwd r _)) he (by simp only [List.length_append, List.length_singleton]; omega) fun x hx => ?_
      rcases List.mem_append.1 hx with q | q
      · exact h2 x q
      · rw [List.mem_singleton.1 q]; exact g1
    · rw [if_neg c]; exact ⟨h1, h2⟩
theorem catch_good {r : Rs} (hw : Wd r) (h : r.catR.e = 0) : catOk r.catV = true := by
  have e1 := (want_fwd _ _).good h
  have e2 := (num_fwd _ _ _).good e1
  have e3 := (num_fwd _ _ _).good e2
  have e4 := (num_fwd _ _ _).good e3
  show catchF _ _ _ _ = true
  unfold catchF
  rw [Bool.and_eq_true, Bool.and_eq_true, Bool.and_eq_true]
  exact ⟨⟨⟨fresh_good hw e4, num_good e3⟩, num_good e2⟩, num_good e1⟩
theorem catchL_good : ∀ (f : Nat) (r : Rs) (out : List Cat), Wd r → (catchL f r out).2.e = 0 → out.length ≤ 4 → (∀ x ∈ out, catOk x = true) → (catchL f r out).1.length ≤ 4 ∧ ∀ x ∈ (catchL f r out).1, catOk x = true
  | 0, r, out, hw, he, h1, h2 => ⟨h1, h2⟩
  | f + 1, r, out, hw, he, h1, h2 => by
    unfold catchL at he ⊢
    by_cases c : r.is wCatch = true
    · rw [if_pos c] at he ⊢
      have e1 := (catchL_fwd f _ _).good he
      have e2 := (catR_fwd _).good e1
      have g2 := room_good ((want_fwd _ _).good e2)
      have hw1 := hw.go (ca1_fwd r (out.length : Int))
      refine catchL_good f _ _ (hw1.go (catR_fwd _)) he (by simp only [List.length_append, List.length_singleton]; omega) fun x hx => ?_
      rcases List.mem_append.1 hx with q | q
      · exact h2 x q
      · rw [List.mem_singleton.1 q]; exact catch_good hw1 e1
    · rw [if_neg c]; exact ⟨h1, h2⟩
theorem mfV_good {r : Rs} {s : Bool} (hw : Wd r) (h : r.mfR.e = 0) : fldOk (r.mfV s) = true := by
  have e1 := (want_fwd _ _).good h
  have e2 := (kind_fwd _).good e1
  have e3 := (want_fwd _ _).good e2
  show (freshW r.freshV && tyOk (r.fresh.want wColon).kindV) = true
  rw [fresh_good hw e3, kind_good ((hw.go (fresh_fwd r)).go (want_fwd _ _)) e1]; rfl
theorem mmV_good {r : Rs} {s : Bool} (hw : Wd r) (h : r.mmR.e = 0) : methOk (r.mmV s) = true := by
  unfold mmR at h
  unfold mmV
  have main : r.mm1.e = 0 → freshW r.freshV = true ∧ (r.fresh.params.1.length ≤ 4 ∧ ∀ x ∈ r.fresh.params.1, tyOk x = true) ∧ tyOk r.fresh.params.2.kindV = true := fun he => by
    have e1 := (kind_fwd _).good he
    have e2 := (params_fwd _).good e1
    exact ⟨fresh_good hw e2, params_good (hw.go (fresh_fwd r)) e1, kind_good ((hw.go (fresh_fwd r)).go (params_fwd _)) he⟩
  by_cases c : r.mm1.is wSemi = true
  · rw [if_pos c]
    obtain ⟨g1, ⟨g2, g3⟩, g4⟩ := main (is_at c).1
    show methOk ⟨r.freshV, s, r.mm1.is wSemi, r.fresh.params.1, r.fresh.params.2.kindV, 0, [], []⟩ = true
    unfold methOk
    rw [c]
    simp [g1, g2, g4, inF, List.all_eq_true]
    exact fun a b hx => g3 (a, b) hx
  · rw [if_neg c] at h ⊢
    have hw1 := hw.go (mm1_fwd r)
    have e1 : r.mm1.boCat.2.e = 0 := (want_fwd _ _).good h
    have e2 : r.mm1.boCode.2.e = 0 := (catchL_fwd _ _ _).good e1
    have e3 : r.mm1.bo1.e = 0 := (codeL_fwd _ _ _).good e2
    have e4 := (want_fwd _ _).good e3
    have e5 := (num_fwd _ _ _).good e4
    obtain ⟨g1, ⟨g2, g3⟩, g4⟩ := main ((want_fwd _ _).good e5)
    have n1 := num_good e4
    obtain ⟨c1, c2⟩ := codeL_good _ _ [] (hw1.go (bo1_fwd _)) e2 (Nat.zero_le _) (fun x hx => by cases hx)
    obtain ⟨d1, d2⟩ := catchL_good _ _ [] (hw1.go (boCode_fwd _)) e1 (Nat.zero_le _) (fun x hx => by cases hx)
    show methOk ⟨r.freshV, s, r.mm1.is wSemi, r.fresh.params.1, r.fresh.params.2.kindV, (r.mm1.want wLocals).numV 0 8, r.mm1.boCode.1, r.mm1.boCat.1⟩ = true
    unfold methOk
    rw [show r.mm1.is wSemi = false by simpa using c]
    simp only [Bool.false_and, Bool.not_false, Bool.true_and, Bool.and_eq_true, decide_eq_true_eq, List.all_eq_true]
    exact ⟨g1, ⟨g2, g3⟩, g4, n1, ⟨c1, c2⟩, d1, d2⟩
def clsG (c : Cls) : Prop := freshW c.name = true ∧ (c.super = noS ∨ (c.iface = false ∧ freshW c.super = true)) ∧ (c.ifaces.length ≤ 4 ∧ ∀ x ∈ c.ifaces, freshW x = true) ∧ (c.fields.length ≤ 6 ∧ ∀ x ∈ c.fields, fldOk x = true) ∧ (c.methods.length ≤ 6 ∧ ∀ x ∈ c.methods, methOk x = true)
theorem clsG_ok {c : Cls} (h : clsG c) : clsOk c = true := by
  obtain ⟨h1, h2, h3, h4, h5⟩ := h
  unfold clsOk
  simp only [Bool.and_eq_true, Bool.or_eq_true, Bool.not_eq_true', decide_eq_true_eq, List.all_eq_true]
  exact ⟨h1, h2, h3, h4, h5⟩
theorem member_good {r : Rs} {c : Cls} (hw : Wd r) (h : (r.member c).2.e = 0) (hc : clsG c) : clsG (r.member c).1 := by
  obtain ⟨h1, h2, h3, ⟨h4, h4'⟩, ⟨h5, h5'⟩⟩ := hc
  unfold member at h ⊢
  by_cases c1 : r.next.2.1 = wField ∨ r.next.2.1 = wStatic
  · rw [if_pos c1] at h ⊢
    have e1 := (mfR_fwd _).good h
    have g := room_good ((want_fwd _ _).good e1)
    refine ⟨h1, h2, h3, ⟨by simp only [List.length_append, List.length_singleton]; omega, fun x hx => ?_⟩, h5, h5'⟩
    rcases List.mem_append.1 hx with q | q
    · exact h4' x q
    · rw [List.mem_singleton.1 q]; exact mfV_good (hw.go (memF_fwd r _)) h
  · rw [if_neg c1] at h ⊢
    by_cases c2 : r.next.2.1 = wMethod ∨ r.next.2.1 = wFunction
    · rw [if_pos c2] at h ⊢
      have e1 := (mmR_fwd _).good h
      have g := room_good ((want_fwd _ _).good e1)
      refine ⟨h1, h2, h3, ⟨h4, h4'⟩, by simp only [List.length_append, List.length_singleton]; omega, fun x hx => ?_⟩
      rcases List.mem_append.1 hx with q | q
      · exact h5' x q
      · rw [List.mem_singleton.1 q]; exact mmV_good (hw.go (memF_fwd r _)) h
    · rw [if_neg c2]; exact ⟨h1, h2, h3, ⟨h4, h4'⟩, h5, h5'⟩
theorem clsL_good : ∀ (f : Nat) (r : Rs) (c : Cls), Wd r → (clsL f r c).2.e = 0 → clsG c → clsG (clsL f r c).1
  | 0, r, c, hw, he, hc => hc
  | f + 1, r, c, hw, he, hc => by
    unfold clsL at he ⊢
    by_cases c1 : r.e = 0
    · rw [if_pos c1] at he ⊢
      by_cases c2 : r.is wRc = true
      · rw [if_pos c2]; exact hc
      · rw [if_neg c2] at he ⊢
        exact clsL_good f _ _ (hw.go (member_fwd r c)) he (member_good hw ((clsL_fwd f _ _).good he) hc)
    · rw [if_neg c1]; exact hc
theorem cl1_good {r : Rs} {k : Int} (h : (r.cl1 k).e = 0) : k < 10 := by
  unfold cl1 at h
  by_cases c : (r.is wClass || r.is wInterface) = true
  · rw [if_pos c] at h; exact room_good ((want_fwd _ _).good h)
  · rw [if_neg c] at h
    simp only [Bool.or_eq_true, not_or, Bool.not_eq_true] at c
    rw [c.2] at h
    unfold want at h
    rw [show r.is (if false = true then wInterface else wClass) = false from c.1] at h
    exact absurd h (fail_e _ (by decide))
theorem ex1_good {r : Rs} {b : Bool} (hw : Wd r) (h : (r.ex1 b).2.e = 0) : ((r.ex1 b).1.1 = noS ∨ (b = false ∧ freshW (r.ex1 b).1.1 = true)) ∧ (r.ex1 b).1.2.length ≤ 4 ∧ ∀ x ∈ (r.ex1 b).1.2, freshW x = true := by
  unfold ex1 at h ⊢
  by_cases c : r.is wExtends = true
  · rw [if_pos c] at h ⊢
    have hw1 := hw.go (step_fwd (is_at c))
    cases b with
    | true => exact ⟨.inl rfl, names_good hw1 h⟩
    | false => exact ⟨.inr ⟨rfl, fresh_good hw1 h⟩, Nat.zero_le _, fun x hx => by cases hx⟩
  · rw [if_neg c]; exact ⟨.inl rfl, Nat.zero_le _, fun x hx => by cases hx⟩
theorem ex2_good {r : Rs} {b : Bool} {l : List ByteArray} (hw : Wd r) (h : (r.ex2 b l).2.e = 0) (hl : l.length ≤ 4 ∧ ∀ x ∈ l, freshW x = true) : (r.ex2 b l).1.length ≤ 4 ∧ ∀ x ∈ (r.ex2 b l).1, freshW x = true := by
  unfold ex2 at h ⊢
  by_cases c : (!b && r.is wImplements) = true
  · rw [if_pos c] at h ⊢
    rw [Bool.and_eq_true] at c
    exact names_good (hw.go (step_fwd (is_at c.2))) h
  · rw [if_neg c]; exact hl
theorem class_good {r : Rs} {k : Int} (hw : Wd r) (h : (r.class' k).2.e = 0) : clsG (r.class' k).1 ∧ k < 10 := by
  have e1 : (r.clR k).e = 0 := (clsL_fwd _ _ _).good h
  have e2 := (want_fwd _ _).good e1
  have e3 := (ex2_fwd _ _ _).good e2
  have e4 := (ex1_fwd _ _).good e3
  have e5 := (fresh_fwd _).good e4
  have hw1 := hw.go (cl1_fwd r k)
  have hw2 := hw1.go (fresh_fwd _)
  obtain ⟨g1, g2⟩ := ex1_good hw2 e3
  have g3 := ex2_good (hw2.go (ex1_fwd _ _)) e2 g2
  refine ⟨clsL_good _ _ _ (hw.go (clR_fwd r k)) h ⟨fresh_good hw1 e4, g1, g3, ⟨Nat.zero_le _, fun x hx => by cases hx⟩, Nat.zero_le _, fun x hx => by cases hx⟩, cl1_good e5⟩
theorem prgL_good : ∀ (f : Nat) (r : Rs) (out : List Cls), Wd r → (prgL f r out).2.e = 0 → out.length ≤ 10 → (∀ x ∈ out, clsOk x = true) → (prgL f r out).1.length ≤ 10 ∧ ∀ x ∈ (prgL f r out).1, clsOk x = true
  | 0, r, out, hw, he, h1, h2 => ⟨h1, h2⟩
  | f + 1, r, out, hw, he, h1, h2 => by
    unfold prgL at he ⊢
    by_cases c : r.e = 0 ∧ r.i < r.L.length
    · rw [if_pos c] at he ⊢
      obtain ⟨g1, g2⟩ := class_good hw ((prgL_fwd f _ _).good he)
      refine prgL_good f _ _ (hw.go (class_fwd r _)) he (by simp only [List.length_append, List.length_singleton]; omega) fun x hx => ?_
      rcases List.mem_append.1 hx with q | q
      · exact h2 x q
      · rw [List.mem_singleton.1 q]; exact clsG_ok g1
    · rw [if_neg c]; exact ⟨h1, h2⟩
end Rs
/-- what is parsed can be shown -/
theorem parse_good {b : List UInt8} (h : (parseF b).2.2 = 0) : prgOk (parseF b).1 = true := by
  obtain ⟨h1, h2, h3, h4⟩ := parse_ok0 h
  rw [h4]
  have hw : Rs.Wd (parse0 b) := fun t ht => List.all_eq_true.1 (scan_wd b) t ht
  obtain ⟨g1, g2⟩ := Rs.prgL_good _ (parse0 b) [] hw h3 (Nat.zero_le _) (fun x hx => by cases hx)
  unfold prgOk
  rw [Bool.and_eq_true, decide_eq_true_eq, List.all_eq_true]
  exact ⟨g1, g2⟩
end Go.Proofs.YtimhbimpaiiceaaDoor.Ax
/- Layer parse: ParseJoin. -/
set_option linter.unusedVariables false
set_option linter.unusedSimpArgs false
namespace Go.Proofs.YtimhbimpaiiceaaDoor.Ax
open Go Go.RowKit
theorem meth_tm {m : Meth} (h : methOk m = true) : tmD m := by
  unfold methOk at h
  simp only [Bool.and_eq_true, decide_eq_true_eq] at h
  obtain ⟨-, -, ⟨h1, -⟩, -, -, ⟨h2, -⟩, h3, -⟩ := h
  exact ⟨by omega, by omega, by omega⟩
theorem cls_tc {c : Cls} (h : clsOk c = true) : tcD c := by
  unfold clsOk at h
  simp only [Bool.and_eq_true, decide_eq_true_eq, List.all_eq_true] at h
  obtain ⟨-, -, ⟨h1, -⟩, ⟨h2, -⟩, h3, h4⟩ := h
  exact ⟨by omega, by omega, by omega, fun m hm => meth_tm (h4 m hm)⟩
theorem prg_tp {p : List Cls} (h : prgOk p = true) : tpD p := by
  obtain ⟨h1, h2⟩ := prg_parts h
  exact ⟨by omega, fun c hc => cls_tc (h2 c hc)⟩
def ParseJoin : Ctr := { A := List UInt8 × List UInt8, enc := fun x => [.row UInt8 1 byteC 0 x.1, .row UInt8 1 byteC 0 x.2], dom := fun _ => True, res := fun _ _ => .tt, gl := tabP }
set_option maxRecDepth 100000 in
set_option maxHeartbeats 4000000 in
theorem ParseJoin_ok : CtrSound Tryd.prog 4 ParseJoin :=
  ctr_of_ax (env_okB tys_ok (eqs := []) trivial (cs := [(16, parseC), (15, lC), (17, twinC), (19, twPC), (18, kRow)]) ⟨parse_ok, wakesP_ok, twin_ok, twP_ok, kClasses_ok, trivial⟩ (bs := []) trivial (gl := tabP)) mixed _ Tryd.func4 (by kernel_rfl) rfl (fun _ _ => Nat.le_of_ble_eq_true rfl) fun ((a, b) : List UInt8 × List UInt8) id hd => by
    have wk : ∀ {x y : Int}, x ≤ 2500 → True := fun _ => trivial
    refine ⟨fun h => ⟨.refl _, rfl⟩, fun h => ?_⟩
    have ha : a.length ≤ 2500 := by have h : decide ((a.length : Int) > 2500) = false := h; have := of_decide_eq_false h; omega
    refine ⟨fun h => ⟨.refl _, rfl⟩, fun h => ?_⟩
    have hb : b.length ≤ 2500 := by have h : decide ((b.length : Int) > 2500) = false := h; have := of_decide_eq_false h; omega
    refine ⟨a, ⟨.refl _, trivial⟩, rfl, (show a.length ≤ 4611686018427387904 by omega), ?_⟩
    refine ⟨b, ⟨.refl _, trivial⟩, rfl, (show b.length ≤ 4611686018427387904 by omega), ?_⟩
    refine ⟨fun h => ?_, fun h => ?_⟩
    · refine ⟨(), trivial, rfl, trivial, ?_⟩
      exact ⟨.refl _, rfl⟩
    have ea : (parseF a).2.2 = 0 := by have h : ((parseF a).2.2 != 0) = false := h; simpa using h
    refine ⟨fun h => ?_, fun h => ?_⟩
    · refine ⟨(), trivial, rfl, trivial, ?_⟩
      exact ⟨.refl _, rfl⟩
    have eb : (parseF b).2.2 = 0 := by have h : ((parseF b).2.2 != 0) = false := h; simpa using h
    have pa := prg_tp (parse_good ea)
    have pb := prg_tp (parse_good eb)
    have la : (parseF a).1.length ≤ 100000 := pa.1
    have lb : (parseF b).1.length ≤ 100000 := pb.1
    have hj := parse_join ea eb (by omega)
    refine ⟨a, ⟨.refl _, trivial⟩, rfl, (show a.length ≤ 140737488355328 by omega), ?_⟩
    refine ⟨UInt8, byteC, 0, [10], ⟨rfl, fun _ => rfl⟩, ⟨.refl _, trivial⟩, rfl, ?_⟩
    refine ⟨UInt8, byteC, 0, a, [10], 43, ⟨.refl _, .own ..⟩, fun _ => rfl, (by simp only [List.length_singleton]; omega), ?_⟩
    refine ⟨UInt8, byteC, 0, a ++ [10], b, 45, ⟨.refl _, .refl _⟩, fun _ => rfl, (by simp only [List.length_append, List.length_singleton]; omega), ?_⟩
    refine ⟨a ++ [10] ++ b, ⟨.own .., trivial⟩, rfl, (show (a ++ [10] ++ b).length ≤ 4611686018427387904 by simp only [List.length_append, List.length_singleton]; omega), ?_⟩
    have hw : IntKind.i64.wrap (((parseF a).1.length : Int) + ((parseF b).1.length : Int)) = (((parseF a).1.length + (parseF b).1.length : Nat) : Int) := by rw [wrap_eq _ (by omega) (by omega)]; omega
    refine ⟨fun h => ?_, fun h => ?_⟩
    · have h : decide (IntKind.i64.wrap (((parseF a).1.length : Int) + ((parseF b).1.length : Int)) > 10) = true := h
      rw [hw] at h
      have h := of_decide_eq_true h
      obtain ⟨h1, h2⟩ : (parseF (a ++ [10] ++ b)).1 = [] ∧ (parseF (a ++ [10] ++ b)).2.2 = 2 := by
        rcases hj with q | q
        · omega
        · exact q.2
      refine ⟨fun h => ?_, fun h => absurd h (by show ¬ ((parseF (a ++ [10] ++ b)).2.2 == 2) = false; rw [h2]; decide)⟩
      refine ⟨fun h => ?_, fun h => absurd h (by show ¬ decide ((((parseF (a ++ [10] ++ b)).1.length : Nat) : Int) = 0) = false; rw [h1]; decide)⟩
      refine ⟨(), trivial, rfl, trivial, ?_⟩
      exact ⟨.refl _, rfl⟩
    · have h : decide (IntKind.i64.wrap (((parseF a).1.length : Int) + ((parseF b).1.length : Int)) > 10) = false := h
      rw [hw] at h
      have h := of_decide_eq_false h
      have h1 : parseF (a ++ [10] ++ b) = ((parseF a).1 ++ (parseF b).1, 0, 0) := by
        rcases hj with q | q
        · exact q.2
        · omega
      refine ⟨by kernel_rfl, ?_⟩
      refine ⟨fun h => ?_, fun h => absurd h (by show ¬ ((parseF (a ++ [10] ++ b)).2.2 == 0) = false; rw [h1]; simp)⟩
      refine ⟨(parseF a).1, ⟨.refl _, trivial⟩, rfl, pa, ?_⟩
      refine ⟨Cls, clsC, cls0, (parseF a).1, (parseF b).1, 77, ⟨.refl _, .refl _⟩, fun _ => rfl, (show ((parseF a).1.length + (parseF b).1.length) * 112 ≤ 140737488355328 by omega), ?_⟩
      refine ⟨((parseF (a ++ [10] ++ b)).1, (parseF a).1 ++ (parseF b).1), ⟨.refl _, .own .., trivial⟩, rfl, ⟨parse_len _, (by have := parse_len (a ++ [10] ++ b); rw [h1] at this; exact this)⟩, ?_⟩
      refine ⟨fun h => ?_, fun h => absurd h (by show ¬ decide ((parseF (a ++ [10] ++ b)).1 = (parseF a).1 ++ (parseF b).1) = false; rw [h1]; simp)⟩
      refine ⟨(), trivial, rfl, trivial, ?_⟩
      exact ⟨.refl _, rfl⟩
end Go.Proofs.YtimhbimpaiiceaaDoor.Ax
/- What the rows list of the package's variables, as the walks ask for it. -/
set_option linter.unusedVariables false
namespace Go.Proofs.YtimhbimpaiiceaaDoor.Ax
open Go Go.RowKit
theorem var_keep {P : Program} {n : String} {W w' : World} {cs : Array Value} (h : W.var? P n = some cs) (hs : Sealed (cellsH W) w') (hsh : Shaped W w') : w'.var? P n = some cs := by
  unfold World.var? at h ⊢
  cases hg : P.globalNamed n with
  | none => rw [hg] at h; cases h
  | some g =>
    rw [hg] at h
    simp only [Option.bind_some] at h ⊢
    have hlt : g < W.heap.size := by
      rcases Nat.lt_or_ge g W.heap.size with h' | h'
      · exact h'
      · rw [Array.getElem?_eq_none h'] at h; cases h
    have h2 := hsh.2 g hlt
    cases ho : W.heap[g]? with
    | none => rw [ho] at h; cases h
    | some o =>
      rw [ho] at h
      cases o with
      | cells c t f =>
        simp only [Option.some.injEq] at h
        subst h
        simp only [World.shape?, ho] at h2
        cases ho' : w'.heap[g]? with
        | none => rw [ho'] at h2; cases h2
        | some o' =>
          rw [ho'] at h2
          cases o' with
          | cells c' t' f' =>
            simp only [Option.some.injEq, Prod.mk.injEq] at h2
            show some c' = some c
            congr 1
            apply Array.ext h2.2
            intro i hi hi'
            have h3 : cellsH W g i = some c[i] := by
              simp [cellsH, World.cell?, ho]
            have h4 := hs _ _ _ h3
            simp [World.cell?, ho'] at h4
            exact (Array.getElem?_eq_some_iff.1 h4).2
          | _ => cases h2
      | _ => cases h
theorem errRow (u : TypeId) (h : Tryd.prog.typeName? 3 u = some "*errors.errorString") : u = 165 :=
  typeName_ptr_named (nm := "errors.errorString") (by rw [show "*" ++ "errors.errorString" = "*errors.errorString" by decide]; kernel_rfl) (by kernel_rfl) (by decide) u (by rw [show "*" ++ "errors.errorString" = "*errors.errorString" by decide]; exact h)
theorem pow_eq {H : Type} : (Rows.laid_internal_strconv_uint64pow10 : DataW H) = Lib.tabData .u64 Lib.pow10Tab := rfl
theorem tabs_of {l : List (String × DataW Unit)} {W : World} (h : laidMet Tryd.prog l W)
    (h1 : (l.filter fun x => x.1 == "internal/strconv.uint64pow10") = [("internal/strconv.uint64pow10", Rows.laid_internal_strconv_uint64pow10)])
    (h2 : (l.filter fun x => x.1 == "strconv.ErrSyntax") = [("strconv.ErrSyntax", Rows.laid_strconv_ErrSyntax)]) : ∀ w', Sealed (cellsH W) w' → Shaped W w' → tabs w' := by
  intro w' hs hsh
  have a1 := h.filter fun x => x.1 == "internal/strconv.uint64pow10"
  rw [h1, pow_eq] at a1
  have t1 := Lib.tabIs_of_head (g := 5) (t := 160) (e := 147) (n := 20) (by kernel_rfl) (by kernel_rfl) Tryd.underlying160 Tryd.underlying147 (by kernel_rfl) (by kernel_rfl) a1
  have a2 := h.filter fun x => x.1 == "strconv.ErrSyntax"
  rw [h2] at a2
  obtain ⟨a, s, hv, -⟩ := laid_sentinel (g := 3) (ti := 117) (tp := 165) (te := 167) (ts := 9) a2 (by kernel_rfl) (by kernel_rfl) Tryd.underlying117 errRow Tryd.underlying165 Tryd.underlying167 rfl rfl Tryd.underlying9 (by kernel_rfl) (by kernel_rfl)
  exact ⟨var_keep t1 hs hsh, _, _, var_keep hv hs hsh⟩
end Go.Proofs.YtimhbimpaiiceaaDoor.Ax
/- What the rows list of the package's variables, as the walks of the parse layer ask for it. -/
set_option linter.unusedVariables false
namespace Go.Proofs.YtimhbimpaiiceaaDoor.Ax
open Go Go.RowKit
set_option maxRecDepth 100000 in
theorem space_eq {H : Type} : (Rows.laid_strings_asciiSpace : DataW H) = Lib.tabData .u8 Lib.asciiSpaceTab := rfl
theorem tabsP_of {l : List (String × DataW Unit)} {W : World} (h : laidMet Tryd.prog l W)
    (h1 : (l.filter fun x => x.1 == "internal/strconv.uint64pow10") = [("internal/strconv.uint64pow10", Rows.laid_internal_strconv_uint64pow10)])
    (h2 : (l.filter fun x => x.1 == "strconv.ErrSyntax") = [("strconv.ErrSyntax", Rows.laid_strconv_ErrSyntax)])
    (h3 : (l.filter fun x => x.1 == "strings.asciiSpace") = [("strings.asciiSpace", Rows.laid_strings_asciiSpace)]) : ∀ w', Sealed (cellsH W) w' → Shaped W w' → tabP w' := by
  intro w' hs hsh
  have a1 := h.filter fun x => x.1 == "strings.asciiSpace"
  rw [h3, space_eq] at a1
  have t1 := Lib.tabIs_of_head (g := 0) (t := 89) (e := 5) (n := 256) (by kernel_rfl) (by kernel_rfl) Tryd.underlying89 Tryd.underlying5 (by kernel_rfl) (by kernel_rfl) a1
  exact ⟨tabs_of h h1 h2 w' hs hsh, var_keep t1 hs hsh⟩
end Go.Proofs.YtimhbimpaiiceaaDoor.Ax
