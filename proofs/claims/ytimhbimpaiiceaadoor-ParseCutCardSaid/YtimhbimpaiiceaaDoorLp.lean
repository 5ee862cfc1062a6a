/- Words behind each other are scanned as these words. -/
import Derived.Test.YtimhbimpaiiceaaDoorLh
set_option linter.unusedVariables false
set_option linter.unusedSimpArgs false
namespace Go.Proofs.YtimhbimpaiiceaaDoor.Ax
open Go Go.RowKit
theorem dd_cons (u : Nat) : ∃ b r, Lib.decDigits u = b :: r ∧ isDig b = true ∧ r.all isAl = true := by
  obtain ⟨b, r, h, hb⟩ := dd_head u
  refine ⟨b, r, h, hb, ?_⟩
  rw [List.all_eq_true]
  intro x hx
  have := dd_dig u x (by rw [h]; exact List.mem_cons_of_mem _ hx)
  simp [isAl, this]
theorem itoa_form (n : Int) : (∃ b r, Lib.itoa n = b :: r ∧ isDig b = true ∧ r.all isAl = true) ∨ (∃ b r, Lib.itoa n = 45 :: b :: r ∧ isDig b = true ∧ r.all isAl = true) := by
  unfold Lib.itoa
  split
  · obtain ⟨b, r, h, hb, hr⟩ := dd_cons n.natAbs
    exact .inr ⟨b, r, by rw [h], hb, hr⟩
  · exact .inl (dd_cons n.toNat)
theorem let_not {c : UInt8} (h : isLet c = true) : isBlank c = false ∧ isSign c = false ∧ c ≠ 45 ∧ isDig c = false ∧ isAl c = true := by
  have h' := h
  simp only [isLet, decide_eq_true_eq] at h'
  refine ⟨?_, ?_, ?_, ?_, by simp [isAl, h]⟩
  · rw [blank_eq]; simp; omega
  · rw [sign_eq]; simp; omega
  · rintro rfl; simp at h'
  · simp [isDig]; omega
theorem dig_not {c : UInt8} (h : isDig c = true) : isBlank c = false ∧ isSign c = false ∧ c ≠ 45 ∧ isLet c = false ∧ isAl c = true := by
  have h' := h
  simp only [isDig, decide_eq_true_eq] at h'
  refine ⟨?_, ?_, ?_, ?_, by simp [isAl, h]⟩
  · rw [blank_eq]; simp; omega
  · rw [sign_eq]; simp; omega
  · rintro rfl; simp at h'
  · simp [isLet]; omega
theorem sign_not {c : UInt8} (h : isSign c = true) : isBlank c = false ∧ isAl c = false := by
  rw [sign_eq] at h
  simp only [decide_eq_true_eq] at h
  refine ⟨?_, ?_⟩
  · rw [blank_eq]; simp; omega
  · simp [isAl, isLet, isDig]; omega
theorem blank_not {c : UInt8} (h : isBlank c = true) : isAl c = false ∧ isSign c = false := by
  rw [blank_eq] at h
  simp only [decide_eq_true_eq] at h
  refine ⟨?_, ?_⟩
  · simp [isAl, isLet, isDig]; omega
  · rw [sign_eq]; simp; omega
theorem name_form {l : List UInt8} : nameF l = true ↔ ∃ c r, l = c :: r ∧ isLet c = true ∧ r.all isAl = true ∧ l.length ≤ 20 := by
  constructor
  · intro h
    cases l with
    | nil => simp [nameF] at h
    | cons c r =>
      simp only [nameF, Bool.and_eq_true, decide_eq_true_eq, List.getD_cons_zero, List.all_cons] at h
      exact ⟨c, r, rfl, h.1.2, h.2.2, h.1.1.2⟩
  · rintro ⟨c, r, rfl, h1, h2, h3⟩
    simp only [nameF, Bool.and_eq_true, decide_eq_true_eq, List.getD_cons_zero, List.all_cons]
    exact ⟨⟨⟨by simp, h3⟩, h1⟩, (let_not h1).2.2.2.2, h2⟩
theorem name_not_num {l : List UInt8} (h : nameF l = true) : numF l = none := by
  rw [numF_none]
  rintro n ⟨e, -⟩
  obtain ⟨c, r, rfl, h1, -, -⟩ := name_form.1 h
  rcases itoa_form n with ⟨b, q, h2, h3, -⟩ | ⟨b, q, h2, h3, -⟩ <;> rw [e] at h2 <;> simp only [List.cons.injEq] at h2
  · rw [h2.1] at h1; rw [(dig_not h3).2.2.2.1] at h1; cases h1
  · exact (let_not h1).2.2.1 h2.1
theorem sign_not_num {l : List UInt8} (h : l.length = 1) (hs : isSign (l.getD 0 0) = true) : numF l = none ∧ nameF l = false := by
  match l, h with
  | [c], _ =>
    have hs : isSign c = true := by simpa using hs
    constructor
    · rw [numF_none]
      rintro n ⟨e, -⟩
      rcases itoa_form n with ⟨b, q, h2, h3, -⟩ | ⟨b, q, h2, h3, -⟩ <;> rw [e] at h2 <;> simp only [List.cons.injEq] at h2
      · rw [h2.1, (dig_not h3).2.1] at hs; cases hs
      · cases h2.2
    · cases hn : nameF [c] with
      | false => rfl
      | true =>
        obtain ⟨d, r, e, h1, -, -⟩ := name_form.1 hn
        cases e
        rw [(let_not h1).2.1] at hs; cases hs
theorem tok_num {n : Int} (h : inR n) : tokenF (Lib.itoa n) = ((2, ⟨#[]⟩, n, 0), true) := by
  unfold tokenF
  rw [(numF_iff _ _).2 ⟨rfl, h⟩]
theorem tok_name {l : List UInt8} (h : nameF l = true) : tokenF l = ((1, txt l, 0, 0), true) := by
  unfold tokenF
  rw [name_not_num h]
  simp only; rw [if_pos h]
theorem tok_sign {l : List UInt8} (h : l.length = 1) (hs : isSign (l.getD 0 0) = true) : tokenF l = ((3, txt l, 0, 0), true) := by
  unfold tokenF
  obtain ⟨h1, h2⟩ := sign_not_num h hs
  rw [h1]
  simp only; rw [if_neg (by rw [h2]; simp), if_pos ⟨h, hs⟩]
/-- what a word is -/
theorem tok_cases {w : List UInt8} (h : (tokenF w).2 = true) : (∃ n, w = Lib.itoa n ∧ inR n) ∨ nameF w = true ∨ (w.length = 1 ∧ isSign (w.getD 0 0) = true) := by
  unfold tokenF at h
  cases hn : numF w with
  | some n => obtain ⟨e1, e2⟩ := (numF_iff _ _).1 hn; exact .inl ⟨n, e1.symm, e2⟩
  | none =>
    rw [hn] at h
    simp only at h
    by_cases hN : nameF w = true
    · exact .inr (.inl hN)
    · rw [if_neg hN] at h
      by_cases hs : w.length = 1 ∧ isSign (w.getD 0 0) = true
      · exact .inr (.inr hs)
      · rw [if_neg hs] at h; cases h
theorem tok_at0 {w : List UInt8} : (tokenF w).1.2.2.2 = 0 := by
  unfold tokenF
  cases numF w with
  | some n => rfl
  | none =>
    simp only
    split
    · rfl
    · split <;> rfl
theorem tw_all {p : UInt8 → Bool} {m r : List UInt8} (h : m.all p = true) (hr : r = [] ∨ p (r.getD 0 0) = false) : ((m ++ r).takeWhile p).length = m.length := by
  apply tw_len
  · simp
  · intro j hj
    have := (all_at p m).1 h j hj
    rw [← this]
    congr 1
    simp [List.getD, List.getElem?_append_left hj]
  · rcases hr with rfl | hr
    · left; simp
    · right
      rw [← hr]
      congr 1
      simp [List.getD, List.getElem?_append_right (Nat.le_refl _)]
/-- a word ends where no letter, no digit goes on -/
theorem wordF_app {w r : List UInt8} (h : (tokenF w).2 = true) (hr : r = [] ∨ isAl (r.getD 0 0) = false) : wordF (w ++ r) = w.length := by
  have alph : ∀ c q, isSign c = false → c ≠ 45 → (c :: q).all isAl = true → wordF ((c :: q) ++ r) = (c :: q).length := by
    intro c q h1 h2 h3
    unfold wordF minus
    simp only [List.cons_append, List.length_cons, Nat.succ_ne_zero, if_false, List.getD_cons_zero, h1, Bool.false_eq_true, h2, List.drop_zero, Nat.zero_add]
    have := tw_all (r := r) h3 hr
    simpa using this
  rcases tok_cases h with ⟨n, rfl, hn⟩ | hn | ⟨h1, h2⟩
  · rcases itoa_form n with ⟨b, q, e, hb, hq⟩ | ⟨b, q, e, hb, hq⟩
    · rw [e]
      have := dig_not hb
      exact alph b q this.2.1 this.2.2.1 (by rw [List.all_cons, this.2.2.2.2, hq]; rfl)
    · rw [e]
      have hb' := dig_not hb
      have hs : isSign 45 = false := by decide
      unfold wordF minus
      simp only [List.cons_append, List.length_cons, Nat.succ_ne_zero, if_false, List.getD_cons_zero, hs, Bool.false_eq_true, if_true, List.drop_succ_cons, List.drop_zero]
      have := tw_all (m := b :: q) (r := r) (by rw [List.all_cons, hb'.2.2.2.2, hq]; rfl) hr
      simp only [List.cons_append, List.length_cons] at this
      omega
  · obtain ⟨c, q, rfl, hc, hq, -⟩ := name_form.1 hn
    have := let_not hc
    exact alph c q this.2.1 this.2.2.1 (by rw [List.all_cons, this.2.2.2.2, hq]; rfl)
  · match w, h1 with
    | [c], _ =>
      have h2 : isSign c = true := by simpa using h2
      unfold wordF
      simp [h2]
theorem tok_head {w : List UInt8} (h : (tokenF w).2 = true) : 0 < w.length ∧ isBlank (w.getD 0 0) = false := by
  rcases tok_cases h with ⟨n, rfl, hn⟩ | hn | ⟨h1, h2⟩
  · rcases itoa_form n with ⟨b, q, e, hb, hq⟩ | ⟨b, q, e, hb, hq⟩
    · rw [e]; exact ⟨by simp, by simpa using (dig_not hb).1⟩
    · rw [e]; exact ⟨by simp, by simp; decide⟩
  · obtain ⟨c, q, rfl, hc, hq, -⟩ := name_form.1 hn
    exact ⟨by simp, by simpa using (let_not hc).1⟩
  · exact ⟨by omega, (sign_not h2).1⟩
/-- a word, then what is behind it -/
theorem scan_word (i : Nat) {w r : List UInt8} (h : (tokenF w).2 = true) (hr : r = [] ∨ isAl (r.getD 0 0) = false) :
    scanI i (w ++ r) = (setAt (tokenF w).1 i :: (scanI (i + w.length) r).1, (scanI (i + w.length) r).2) := by
  have hw := wordF_app h hr
  obtain ⟨h1, h2⟩ := tok_head h
  have e1 : (w ++ r).take (wordF (w ++ r)) = w := by rw [hw]; simp
  have e2 : (w ++ r).drop (wordF (w ++ r)) = r := by rw [hw]; simp
  have e3 : (w ++ r).getD 0 0 = w.getD 0 0 := by simp [List.getD, List.getElem?_append_left h1]
  have := scanI_tok i (w ++ r) (by rw [List.length_append]; omega) (by rw [e3]; exact h2) (by rw [e1]; exact h)
  rw [e1, e2, hw] at this
  exact this
theorem scan_blanks : ∀ (i : Nat) (b r : List UInt8), b.all isBlank = true → scanI i (b ++ r) = scanI (i + b.length) r
  | i, [], r, _ => rfl
  | i, c :: b, r, h => by
    simp only [List.all_cons, Bool.and_eq_true] at h
    rw [List.cons_append, scanI_blank i (c :: (b ++ r)) (by simp) (by simpa using h.1)]
    simp only [List.drop_succ_cons, List.drop_zero]
    rw [scan_blanks (i + 1) b r h.2, List.length_cons]
    congr 1; omega
theorem wd_tok {t : Int × ByteArray × Int × Int} (h : wdOk t = true) : tokenF (wdS t) = ((t.1, t.2.1, t.2.2.1, 0), true) := by
  have h1 : (tokenF (wdS t)).2 = true := by
    unfold wdOk at h
    cases hc : (tokenF (wdS t)).2 with
    | true => rfl
    | false => rw [hc] at h; cases h
  unfold wdOk at h
  rw [h1] at h
  simp only [Bool.true_and, decide_eq_true_eq] at h
  have h0 := tok_at0 (w := wdS t)
  obtain ⟨a, b, c⟩ := h
  generalize tokenF (wdS t) = z at *
  obtain ⟨⟨z1, z2, z3, z4⟩, zb⟩ := z
  simp only at *
  subst a b c h0 h1
  rfl
/-- the words' places in a text -/
def placeF : Nat → List (Int × ByteArray × Int × Int) → List (Int × ByteArray × Int × Int)
  | _, [] => []
  | i, t :: r => (t.1, t.2.1, t.2.2.1, (i : Int)) :: placeF (i + (wdS t).length + 1) r
theorem placeF_length : ∀ (i : Nat) (l : List (Int × ByteArray × Int × Int)), (placeF i l).length = l.length
  | _, [] => rfl
  | i, t :: r => by simp [placeF, placeF_length _ r]
theorem placeF_at : ∀ (i : Nat) (l : List (Int × ByteArray × Int × Int)) (j : Nat), j < l.length → ((placeF i l).getD j tok0).1 = (l.getD j tok0).1 ∧ ((placeF i l).getD j tok0).2.1 = (l.getD j tok0).2.1 ∧ ((placeF i l).getD j tok0).2.2.1 = (l.getD j tok0).2.2.1
  | _, [], j, h => by simp at h
  | i, t :: r, 0, _ => by simp [placeF]
  | i, t :: r, j + 1, h => by simpa [placeF] using placeF_at (i + (wdS t).length + 1) r j (by simpa using h)
theorem scan_tail : ∀ (i : Nat) (l : List (Int × ByteArray × Int × Int)) (r : List UInt8), l.all wdOk = true → (r = [] ∨ isAl (r.getD 0 0) = false) →
    scanI i (Lib.joinTail [32] (l.map wdS) ++ r) = (placeF (i + 1) l ++ (scanI (i + (Lib.joinTail [32] (l.map wdS)).length) r).1, (scanI (i + (Lib.joinTail [32] (l.map wdS)).length) r).2)
  | i, [], r, _, _ => by simp [Lib.joinTail, placeF]
  | i, t :: l, r, h, hr => by
    simp only [List.all_cons, Bool.and_eq_true] at h
    have e : Lib.joinTail [32] ((t :: l).map wdS) = [32] ++ (wdS t ++ Lib.joinTail [32] (l.map wdS)) := by simp [Lib.joinTail]
    have hrest : (Lib.joinTail [32] (l.map wdS) ++ r) = [] ∨ isAl ((Lib.joinTail [32] (l.map wdS) ++ r).getD 0 0) = false := by
      cases l with
      | nil => simpa [Lib.joinTail] using hr
      | cons a q => right; simp [Lib.joinTail]; decide
    have ht := wd_tok h.1
    rw [e, List.append_assoc, scan_blanks i [32] _ (by decide), List.append_assoc, scan_word _ (by rw [ht]) hrest, scan_tail _ l r h.2 hr]
    rw [ht]
    have e3 : i + ([32] ++ (wdS t ++ Lib.joinTail [32] (l.map wdS))).length = i + [(32 : UInt8)].length + (wdS t).length + (Lib.joinTail [32] (l.map wdS)).length := by
      simp only [List.length_append, List.length_cons, List.length_nil]; omega
    rw [e3]
    rfl
theorem scan_join (i : Nat) (l : List (Int × ByteArray × Int × Int)) (r : List UInt8) (h : l.all wdOk = true) (hr : r = [] ∨ isAl (r.getD 0 0) = false) :
    scanI i (Lib.join (l.map wdS) [32] ++ r) = (placeF i l ++ (scanI (i + (Lib.join (l.map wdS) [32]).length) r).1, (scanI (i + (Lib.join (l.map wdS) [32]).length) r).2) := by
  cases l with
  | nil => simp [Lib.join_nil, placeF]
  | cons t l =>
    simp only [List.all_cons, Bool.and_eq_true] at h
    have hrest : (Lib.joinTail [32] (l.map wdS) ++ r) = [] ∨ isAl ((Lib.joinTail [32] (l.map wdS) ++ r).getD 0 0) = false := by
      cases l with
      | nil => simpa [Lib.joinTail] using hr
      | cons a q => right; simp [Lib.joinTail]; decide
    have ht := wd_tok h.1
    rw [List.map_cons, Lib.join_cons, List.append_assoc, scan_word _ (by rw [ht]) hrest, scan_tail _ l r h.2 hr]
    rw [ht]
    have e3 : i + (wdS t ++ Lib.joinTail [32] (l.map wdS)).length = i + (wdS t).length + (Lib.joinTail [32] (l.map wdS)).length := by
      simp only [List.length_append]; omega
    rw [e3]
    rfl
theorem scan_all (l : List (Int × ByteArray × Int × Int)) (h : l.all wdOk = true) : scanI 0 (Lib.join (l.map wdS) [32]) = (placeF 0 l, none) := by
  have := scan_join 0 l [] h (.inl rfl)
  simpa [scanI_nil] using this
end Go.Proofs.YtimhbimpaiiceaaDoor.Ax
