/- Walks and laws, part 5: Ld Le Lf Sb Sc Sd Se Ga Lg Lh Tb Gb Lp Sf Sg Gs Gt Gc Gd Ge Gf Gg. -/
import Derived.Test.YtimhbimpaiiceaaDoorPk4
/- Layer lex by the logic: numbers, words. -/
set_option linter.unusedVariables false
set_option linter.unusedSimpArgs false
namespace Go.Proofs.YtimhbimpaiiceaaDoor.Ax
open Go Go.RowKit
theorem txt_app (a b : List UInt8) : (txt a ++ txt b) = txt (a ++ b) := by
  apply ByteArray.ext
  simp [txt]
theorem u8_wrap (d : Nat) (h : d < 256) : IntKind.u8.wrap (d : Int) = ((UInt8.ofNat d).toNat : Int) := by
  have e : (UInt8.ofNat d).toNat = d := by rw [UInt8.toNat_ofNat']; omega
  rw [e]
  simp only [IntKind.wrap, IntKind.bits, IntKind.signed]
  simp
  omega
def digM (n : Int) : Nat := 2 * n.natAbs + (if n < 0 then 1 else 0)
def digC (k : Nat) : Ctr := { A := Int, enc := fun n => [I n], dom := fun n => digM n < k ∧ -4611686018427387904 ≤ n ∧ n ≤ 4611686018427387904, res := fun n _ => X (Lib.itoa n) }
theorem dig_lt (n : Int) (h0 : -4611686018427387904 ≤ n) (h1 : n ≤ 4611686018427387904) : (Lib.itoa n).length ≤ 21 := Lib.itoa_length_le n (by omega) (by omega)
theorem dig_ok : ∀ k, CtrSound Tryd.prog 21 (digC k) := by
  intro k
  induction k with
  | zero =>
    exact ctr_of_ax (env_ok tys_ok (eqs := []) trivial (cs := []) trivial) mixed _ Tryd.func21 (by kernel_rfl) rfl (fun _ _ => Nat.le_of_ble_eq_true rfl) fun n id hd => absurd hd.1 (Nat.not_lt_zero _)
  | succ k ih =>
    refine ctr_of_ax (env_ok tys_ok (eqs := []) trivial (cs := [(21, digC k)]) ⟨ih, trivial⟩) mixed _ Tryd.func21 (by kernel_rfl) rfl (fun _ _ => Nat.le_of_ble_eq_true rfl) fun (n : Int) id hd => ?_
    have hm : digM n < k + 1 := hd.1
    have h0 : -4611686018427387904 ≤ n := hd.2.1
    have h1 : n ≤ 4611686018427387904 := hd.2.2
    refine ⟨fun h => ?_, fun h => ?_⟩
    · have hn : n < 0 := of_decide_eq_true h
      have hw : IntKind.i64.wrap (0 - n) = -n := by rw [wrap_eq _ (by omega) (by omega)]; omega
      have hl := dig_lt (-n) (by omega) (by omega)
      have he : Lib.itoa n = 45 :: Lib.itoa (-n) := by
        unfold Lib.itoa
        rw [if_pos hn, if_neg (by omega), show (-n).toNat = n.natAbs by omega]
      refine ⟨-n, ⟨.int hw, trivial⟩, rfl, (show digM (-n) < k ∧ -4611686018427387904 ≤ -n ∧ -n ≤ 4611686018427387904 by (unfold digM at hm ⊢; rw [if_pos hn] at hm; rw [if_neg (by omega)]; omega)), ?_⟩
      refine ⟨by have := size_txt (Lib.itoa (-n)); have h3 : (⟨#[45]⟩ : ByteArray).size = 1 := rfl; omega, ?_⟩
      exact ⟨.str (by rw [he]; exact txt_app [45] _), rfl⟩
    · have hn : 0 ≤ n := by have := of_decide_eq_false h; omega
      have hd2 : n.tmod 10 = ((n.toNat % 10 : Nat) : Int) := by rw [Int.tmod_eq_emod_of_nonneg hn]; omega
      have hq : n.tdiv 10 = ((n.toNat / 10 : Nat) : Int) := by rw [Int.tdiv_eq_ediv_of_nonneg hn]; omega
      have hit : Lib.itoa n = Lib.decDigits n.toNat := by unfold Lib.itoa; rw [if_neg (by omega)]
      have hby : IntKind.u8.wrap (IntKind.i64.wrap (48 + n.tmod 10)) = ((UInt8.ofNat (48 + n.toNat % 10)).toNat : Int) := by
        rw [hd2, wrap_eq _ (by omega) (by omega)]
        exact u8_wrap (48 + n.toNat % 10) (by omega)
      refine ⟨by decide, ?_⟩
      refine ⟨UInt8, byteC, 0, [UInt8.ofNat (48 + n.toNat % 10)], ⟨rfl, fun _ => rfl⟩, ⟨.int hby, trivial⟩, rfl, ?_⟩
      refine ⟨_, .own .., ?_⟩
      refine ⟨fun h2 => ?_, fun h2 => ?_⟩
      · have hb : 10 ≤ n := by have := of_decide_eq_true h2; omega
        have hqw : IntKind.i64.wrap (n.tdiv 10) = ((n.toNat / 10 : Nat) : Int) := by rw [hq, wrap_eq _ (by omega) (by omega)]
        have hl := dig_lt ((n.toNat / 10 : Nat) : Int) (by omega) (by omega)
        have he : Lib.itoa n = Lib.itoa ((n.toNat / 10 : Nat) : Int) ++ [UInt8.ofNat (48 + n.toNat % 10)] := by
          have e2 : Lib.itoa ((n.toNat / 10 : Nat) : Int) = Lib.decDigits (n.toNat / 10) := by unfold Lib.itoa; rw [if_neg (by omega)]; rfl
          rw [hit, e2, Lib.decDigits, dif_neg (by omega)]
        refine ⟨by decide, ?_⟩
        refine ⟨((n.toNat / 10 : Nat) : Int), ⟨.int hqw, trivial⟩, rfl, (show digM ((n.toNat / 10 : Nat) : Int) < k ∧ -4611686018427387904 ≤ ((n.toNat / 10 : Nat) : Int) ∧ ((n.toNat / 10 : Nat) : Int) ≤ 4611686018427387904 by (unfold digM at hm ⊢; rw [if_neg (by omega)] at hm ⊢; omega)), ?_⟩
        refine ⟨by have := size_txt (Lib.itoa ((n.toNat / 10 : Nat) : Int)); have h3 := size_txt [UInt8.ofNat (48 + n.toNat % 10)]; simp only [List.length_cons, List.length_nil] at h3; omega, ?_⟩
        exact ⟨.str (by rw [he]; exact txt_app _ _), rfl⟩
      · have hb : n < 10 := by have := of_decide_eq_false h2; omega
        have he : Lib.itoa n = [UInt8.ofNat (48 + n.toNat % 10)] := by
          rw [hit, Lib.decDigits, dif_pos (by omega), show n.toNat % 10 = n.toNat by omega]
        exact ⟨.str (by rw [he]), rfl⟩
def digitsC : Ctr := { A := Int, enc := fun n => [I n], dom := fun n => -4611686018427387904 ≤ n ∧ n ≤ 4611686018427387904, res := fun n _ => X (Lib.itoa n) }
theorem digits_ok : CtrSound Tryd.prog 21 digitsC := ⟨(dig_ok 0).1, fun x H w vs id hd => (dig_ok (digM x + 1)).2 x H w vs id ⟨Nat.lt_succ_self _, hd.1, hd.2⟩⟩

def numC : Ctr := { A := List UInt8, enc := fun l => [X l], dom := fun l => l.length ≤ 4611686018427387904, res := fun l _ => .tup [I ((numF l).getD 0), B (numF l).isSome], gl := tabs }
theorem num_ok : CtrSound Tryd.prog 57 numC :=
  ctr_of_ax (env_okB tys_ok (eqs := []) trivial (cs := [(69, atoiC), (58, itoaC)]) ⟨atoi_ok, itoa_ok, trivial⟩ (bs := []) trivial (gl := tabs)) mixed _ Tryd.func57 (by kernel_rfl) rfl (fun _ _ => Nat.le_of_ble_eq_true rfl) fun (l : List UInt8) id hd => by
    have hd : l.length ≤ 4611686018427387904 := hd
    have hz := size_txt l
    have none_of : (∀ n, ¬ (Lib.itoa n = l ∧ inR n)) → Sub (.tup [I 0, .ff]) (.tup [I ((numF l).getD 0), B (numF l).isSome]) := fun h => by
      rw [(numF_none l).2 h]; exact .tup2 (.refl _) .ff
    have none_of' : numF l = none → Sub (.tup [I 0, .ff]) (.tup [I ((numF l).getD 0), B (numF l).isSome]) := fun h => by
      rw [h]; exact .tup2 (.refl _) .ff
    refine ⟨fun h => ?_, fun h => ?_⟩
    · rw [txt_nil] at h
      exact ⟨none_of' (if_pos (.inl (of_decide_eq_true h))), rfl⟩
    rw [txt_nil] at h
    have hpos : l.length ≠ 0 := of_decide_eq_false h
    refine ⟨fun h => ?_, fun h => ?_⟩
    · exact ⟨none_of' (if_pos (.inr (by have := of_decide_eq_true h; omega))), rfl⟩
    have hle : l.length ≤ 11 := by have := of_decide_eq_false h; omega
    cases hat : Lib.atoi l with
    | none =>
      refine ⟨(txt l, none), ⟨.refl _, trivial⟩, rfl, (show (⟨l.toArray⟩ : ByteArray).size ≤ 18 ∧ Lib.atoi (txt l).data.toList = none from ⟨by omega, hat⟩), ?_⟩
      refine ⟨fun _ => ?_, fun h => absurd h (by decide)⟩
      exact ⟨none_of' (by unfold numF; rw [hat]; split <;> rfl), rfl⟩
    | some n =>
      have hb := Lib.atoi_bound hat (by omega)
      refine ⟨(txt l, some n), ⟨.refl _, trivial⟩, rfl, (show (⟨l.toArray⟩ : ByteArray).size ≤ 18 ∧ Lib.atoi (txt l).data.toList = some n from ⟨by omega, hat⟩), ?_⟩
      refine ⟨fun h => absurd h (by decide), fun _ => ?_⟩
      have no : ¬ (Lib.itoa n = l ∧ inR n) → numF l = none := fun h => by
        unfold numF; rw [if_neg (by omega), hat]; simp only; rw [if_neg h]
      have yes : Lib.itoa n = l → inR n → numF l = some n := fun h h2 => (numF_iff l n).2 ⟨h, h2⟩
      refine ⟨n, ⟨.refl _, trivial⟩, rfl, (show -9223372036854775808 ≤ n ∧ n ≤ 9223372036854775807 by omega), ?_⟩
      have ht := txt_eq (Lib.itoa n) l
      refine ⟨fun h => ?_, fun h => ⟨fun h2 => ?_, fun h2 => ⟨fun h3 => ?_, fun h3 => ?_⟩⟩⟩
      · have h : (!((txt (Lib.itoa n)).toList == (txt l).toList)) = true := h
        rw [ht] at h
        exact ⟨none_of' (no (fun c => by simp [c.1] at h)), rfl⟩
      · exact ⟨none_of' (no (fun c => by have := of_decide_eq_true h2; unfold inR at c; omega)), rfl⟩
      · exact ⟨none_of' (no (fun c => by have := of_decide_eq_true h3; unfold inR at c; omega)), rfl⟩
      · have h : (!((txt (Lib.itoa n)).toList == (txt l).toList)) = false := h
        rw [ht] at h
        have hy := yes (by simpa using h) (by have := of_decide_eq_false h2; have := of_decide_eq_false h3; unfold inR; omega)
        exact ⟨(show Sub (.tup [I n, .tt]) (.tup [I ((numF l).getD 0), B (numF l).isSome]) by rw [hy]; exact .tup2 (.refl _) .tt), rfl⟩
end Go.Proofs.YtimhbimpaiiceaaDoor.Ax
/- Layer lex by the logic: where a word ends. -/
set_option linter.unusedVariables false
set_option linter.unusedSimpArgs false
namespace Go.Proofs.YtimhbimpaiiceaaDoor.Ax
open Go Go.RowKit
theorem tw_len (p : UInt8 → Bool) : ∀ (m : List UInt8) (i : Nat), i ≤ m.length → (∀ j, j < i → p (m.getD j 0) = true) → (i = m.length ∨ p (m.getD i 0) = false) → (m.takeWhile p).length = i
  | [], i, h1, _, _ => by simp at h1; subst h1; rfl
  | c :: m, 0, _, _, h3 => by
    rcases h3 with h3 | h3
    · simp at h3
    · have : p c = false := by simpa using h3
      simp [this]
  | c :: m, i + 1, h1, h2, h3 => by
    have hc : p c = true := by simpa using h2 0 (by omega)
    simp only [List.takeWhile_cons, hc, if_true, List.length_cons]
    rw [tw_len p m i (by simpa using h1) (fun j hj => by simpa using h2 (j + 1) (by omega)) (by rcases h3 with h3 | h3; exact .inl (by simpa using h3); exact .inr (by simpa using h3))]
theorem tw_at (p : UInt8 → Bool) (l : List UInt8) (k n : Nat) (h1 : k ≤ n) (h2 : n ≤ l.length) (h3 : ∀ j, k ≤ j → j < n → p (l.getD j 0) = true) (h4 : n = l.length ∨ p (l.getD n 0) = false) : k + ((l.drop k).takeWhile p).length = n := by
  have hg : ∀ j, (l.drop k).getD j 0 = l.getD (k + j) 0 := fun j => by simp [List.getD, List.getElem?_drop]
  rw [tw_len p (l.drop k) (n - k) (by rw [List.length_drop]; omega) (fun j hj => by rw [hg]; exact h3 _ (by omega) (by omega)) (by
    rw [List.length_drop, hg, show k + (n - k) = n by omega]
    rcases h4 with h4 | h4
    · exact .inl (by omega)
    · exact .inr h4)]
  omega
def minus (l : List UInt8) : Nat := if l.getD 0 0 = 45 then 1 else 0
def wordF (l : List UInt8) : Nat := if l.length = 0 then 0 else if isSign (l.getD 0 0) then 1 else minus l + ((l.drop (minus l)).takeWhile isAl).length
theorem tw_le (p : UInt8 → Bool) (m : List UInt8) : (m.takeWhile p).length ≤ m.length := (List.takeWhile_sublist p).length_le
theorem wordF_le (l : List UInt8) : wordF l ≤ l.length := by
  unfold wordF
  split
  · omega
  · split
    · omega
    · have := tw_le isAl (l.drop (minus l))
      rw [List.length_drop] at this
      unfold minus at *
      split <;> rename_i h <;> simp only [h, if_true, if_false] at * <;> omega
def wordC : Ctr := { A := List UInt8, enc := fun l => [.row UInt8 1 byteC 0 l], dom := fun l => l.length ≤ 1000000, res := fun l _ => I (wordF l) }
set_option maxRecDepth 100000 in
theorem word_ok : CtrSound Tryd.prog 40 wordC :=
  ctr_of_ax (env_okB tys_ok (eqs := []) trivial (cs := [(39, idxC), (30, byteB isLet), (31, byteB isDig)]) ⟨idx_ok, letter_ok, digit_ok, trivial⟩ (bs := []) trivial (cut := [8])) mixed _ Tryd.func40 (by kernel_rfl) rfl (fun _ _ => Nat.le_of_ble_eq_true rfl) fun (l : List UInt8) id hd => by
    have hd : l.length ≤ 1000000 := hd
    refine ⟨fun h => ?_, fun h => ?_⟩
    · have h0 : (l.length : Int) = 0 := by simpa using h
      exact ⟨.int (by unfold wordF; rw [if_pos (by omega)]; rfl), rfl⟩
    have hpos : 0 < l.length := by have h0 : ¬ (l.length : Int) = 0 := by simpa using h
                                   omega
    refine ⟨by omega, ?_⟩
    refine ⟨(signsB, l.getD 0 0), ⟨.refl _, .refl _, trivial⟩, rfl, trivial, ?_⟩
    have hsg : decide (Lib.indexByte signsB.data.toList (l.getD 0 0) ≥ 0) = isSign (l.getD 0 0) := idx_has _ _
    refine ⟨fun h => ?_, fun h => ?_⟩
    · have h : decide (Lib.indexByte signsB.data.toList (l.getD 0 0) ≥ 0) = true := h
      rw [hsg] at h
      exact ⟨.int (by unfold wordF; rw [if_neg (by omega), if_pos h]; rfl), rfl⟩
    have h : decide (Lib.indexByte signsB.data.toList (l.getD 0 0) ≥ 0) = false := h
    rw [hsg] at h
    have hw : wordF l = minus l + ((l.drop (minus l)).takeWhile isAl).length := by unfold wordF; rw [if_neg (by omega), if_neg (by simp only [h]; simp)]
    have hm : minus l ≤ 1 := by unfold minus; split <;> omega
    refine ⟨Unit, fun _ => [(0, .row UInt8 1 byteC 0 l), (3, I (minus l))], fun _ => [], fun _ => True, ?_, fun _ _ => ?_⟩
    · refine ⟨by omega, ?_⟩
      refine ⟨fun h2 => ?_, fun h2 => ?_⟩
      · have e : minus l = 1 := by
          unfold minus
          rw [if_pos]
          have h2 : ((l.getD 0 0).toNat : Int) = 45 := by simpa using h2
          apply UInt8.toNat_inj.1
          show (l.getD 0 0).toNat = 45
          omega
        exact ⟨(), trivial, ⟨rfl, rfl⟩, .refl _, .int (by rw [e]; rfl), trivial⟩
      · have e : minus l = 0 := by
          unfold minus
          rw [if_neg]
          intro c
          have h2 : ¬ ((l.getD 0 0).toNat : Int) = 45 := by simpa using h2
          apply h2
          rw [c]; rfl
        exact ⟨(), trivial, ⟨rfl, rfl⟩, .refl _, .int (by rw [e]; rfl), trivial⟩
    refine ⟨Nat, fun n => [(0, .row UInt8 1 byteC 0 l), (3, I n)], fun _ => [], fun n => minus l ≤ n ∧ n ≤ l.length ∧ ∀ j, minus l ≤ j → j < n → isAl (l.getD j 0) = true, fun n => l.length - n, ⟨minus l, ⟨Nat.le_refl _, by omega, fun j h1 h2 => by omega⟩, ⟨⟨rfl, rfl⟩, .refl _, .refl _, trivial⟩⟩, fun (n : Nat) hi => ?_⟩
    have h1 := hi.1
    have h2 := hi.2.1
    have h3 := hi.2.2
    have hwj : IntKind.i64.wrap ((n : Int) + 1) = ((n + 1 : Nat) : Int) := by rw [wrap_eq _ (by omega) (by omega)]; omega
    have fin : (n = l.length ∨ isAl (l.getD n 0) = false) → wordF l = n := fun h4 => by rw [hw]; exact tw_at isAl l _ n h1 h2 h3 h4
    have nx : isAl (l.getD n 0) = true → ∀ j, minus l ≤ j → j < n + 1 → isAl (l.getD j 0) = true := fun hb j q1 q2 => by
      rcases Nat.lt_succ_iff_lt_or_eq.1 q2 with q | rfl
      · exact h3 j q1 q
      · exact hb
    have di : (n : Int).toNat = n := by omega
    refine ⟨fun h => ?_, fun h => ?_⟩
    · have hlt : n < l.length := by have := of_decide_eq_true h; omega
      refine ⟨by omega, ?_⟩
      refine ⟨l.getD n 0, ⟨.refl _, trivial⟩, rfl, trivial, ?_⟩
      refine ⟨fun h4 => ?_, fun h4 => ?_⟩
      · exact ⟨n + 1, ⟨by omega, hlt, nx (by simp only [isAl]; rw [show isLet (l.getD n 0) = true from h4]; rfl)⟩, by show l.length - (n + 1) < l.length - n; omega, ⟨rfl, rfl⟩, .refl _, .int hwj, trivial⟩
      · refine ⟨by omega, ?_⟩
        refine ⟨l.getD n 0, ⟨.refl _, trivial⟩, rfl, trivial, ?_⟩
        refine ⟨fun h5 => ?_, fun h5 => ?_⟩
        · exact ⟨n + 1, ⟨by omega, hlt, nx (by simp only [isAl]; rw [show isDig (l.getD n 0) = true from h5]; simp)⟩, by show l.length - (n + 1) < l.length - n; omega, ⟨rfl, rfl⟩, .refl _, .int hwj, trivial⟩
        · exact ⟨.int (by rw [fin (.inr (by simp only [isAl]; rw [show isLet (l.getD n 0) = false from h4, show isDig (l.getD n 0) = false from h5]; rfl))]), rfl⟩
    · exact ⟨.int (by rw [fin (.inl (by have := of_decide_eq_false h; omega))]), rfl⟩
end Go.Proofs.YtimhbimpaiiceaaDoor.Ax
/- Layer lex by the logic: tokens, scanning. -/
set_option linter.unusedVariables false
set_option linter.unusedSimpArgs false
namespace Go.Proofs.YtimhbimpaiiceaaDoor.Ax
open Go Go.RowKit
abbrev Tok := Int × ByteArray × Int × Int
def tokC (t : Int × ByteArray × Int × Int) : List SV := [I t.1, S t.2.1, I t.2.2.1, I t.2.2.2]
abbrev tok0 : Int × ByteArray × Int × Int := (0, ⟨#[]⟩, 0, 0)
def tokS (t : Int × ByteArray × Int × Int) : SV := .agg (tokC t)
def tokenF (l : List UInt8) : (Int × ByteArray × Int × Int) × Bool := match numF l with
  | some n => ((2, ⟨#[]⟩, n, 0), true)
  | none => if nameF l then ((1, txt l, 0, 0), true) else if l.length = 1 ∧ isSign (l.getD 0 0) = true then ((3, txt l, 0, 0), true) else (tok0, false)
def tokenC : Ctr := { A := List UInt8, enc := fun l => [X l], dom := fun l => l.length ≤ 4611686018427387904, res := fun l _ => .tup [tokS (tokenF l).1, B (tokenF l).2], gl := tabs }
theorem token_ok : CtrSound Tryd.prog 41 tokenC :=
  ctr_of_ax (env_okB tys_ok (eqs := []) trivial (cs := [(39, idxC), (57, numC), (13, nameC)]) ⟨idx_ok, num_ok, name_ok, trivial⟩ (bs := []) trivial (gl := tabs)) mixed _ Tryd.func41 (by kernel_rfl) rfl (fun _ _ => Nat.le_of_ble_eq_true rfl) fun (l : List UInt8) id hd => by
    have hd : l.length ≤ 4611686018427387904 := hd
    have hz := size_txt l
    have ha := at_txt l
    have fin : ∀ (a b : Int) (s : ByteArray) (c d : Int) (k : Bool), tokenF l = ((a, s, b, c), k) → ∀ x, (Sub x (B k)) → Sub (.tup [.agg [I a, S s, I b, I c], x]) (.tup [tokS (tokenF l).1, B (tokenF l).2]) := fun a b s c d k h x hx => by
      rw [h]; exact .tup2 (.refl _) hx
    refine ⟨l, ⟨.refl _, trivial⟩, rfl, hd, ?_⟩
    refine ⟨fun h => ?_, fun h => ?_⟩
    · obtain ⟨n, hn⟩ := Option.isSome_iff_exists.1 h
      have e : tokenF l = ((2, ⟨#[]⟩, (numF l).getD 0, 0), true) := by unfold tokenF; rw [hn]; rfl
      exact ⟨fin _ _ _ _ 0 _ e _ .tt, rfl⟩
    have hn : numF l = none := by
      cases hc : numF l with
      | none => rfl
      | some n => rw [hc] at h; cases h
    refine ⟨l, ⟨.refl _, trivial⟩, rfl, hd, ?_⟩
    refine ⟨fun h => ?_, fun h => ?_⟩
    · have e : tokenF l = ((1, txt l, 0, 0), true) := by unfold tokenF; rw [hn]; simp only; rw [if_pos h]
      exact ⟨fin _ _ _ _ 0 _ e _ .tt, rfl⟩
    have e1 : tokenF l = if l.length = 1 ∧ isSign (l.getD 0 0) = true then ((3, txt l, 0, 0), true) else (tok0, false) := by
      unfold tokenF; rw [hn]; simp only; rw [if_neg (by simp only [show nameF l = false from h]; simp)]
    refine ⟨fun h => ?_, fun h => ?_⟩
    · have h1 : l.length = 1 := by have h : ((⟨l.toArray⟩ : ByteArray).size : Int) = 1 := by simpa using h
                                   omega
      refine ⟨⟨by omega, by omega⟩, ?_⟩
      refine ⟨(signsB, (txt l).data.getD 0 0), ⟨.refl _, .refl _, trivial⟩, rfl, trivial, ?_⟩
      have hsg : decide (Lib.indexByte signsB.data.toList ((txt l).data.getD 0 0) ≥ 0) = isSign (l.getD 0 0) := by rw [ha]; exact idx_has _ _
      refine ⟨fun h => ?_, fun h => ?_⟩
      · have h : decide (Lib.indexByte signsB.data.toList ((txt l).data.getD 0 0) ≥ 0) = true := h
        rw [hsg] at h
        exact ⟨fin _ _ _ _ 0 _ (by rw [e1, if_pos ⟨h1, h⟩]) _ .tt, rfl⟩
      · have h : decide (Lib.indexByte signsB.data.toList ((txt l).data.getD 0 0) ≥ 0) = false := h
        rw [hsg] at h
        exact ⟨fin _ _ _ _ 0 _ (by rw [e1, if_neg (fun c => by rw [h] at c; exact absurd c.2 (by decide))]) _ .ff, rfl⟩
    · have h1 : l.length ≠ 1 := by have h : ¬ ((⟨l.toArray⟩ : ByteArray).size : Int) = 1 := by simpa using h
                                   omega
      exact ⟨fin _ _ _ _ 0 _ (by rw [e1, if_neg (fun c => h1 c.1)]) _ .ff, rfl⟩
theorem token_nil : (tokenF []).2 = false := by
  unfold tokenF
  rw [numC_none]
  simp [nameF]
def setAt (t : Int × ByteArray × Int × Int) (i : Nat) : Int × ByteArray × Int × Int := (t.1, t.2.1, t.2.2.1, (i : Int))
def scanL : Nat → Nat → List UInt8 → List (Int × ByteArray × Int × Int) × Option Nat
  | _, _, [] => ([], none)
  | 0, i, _ :: _ => ([], some i)
  | f + 1, i, c :: r => if isBlank c then scanL f (i + 1) r else
      if (tokenF ((c :: r).take (wordF (c :: r)))).2 then
        (setAt (tokenF ((c :: r).take (wordF (c :: r)))).1 i :: (scanL f (i + wordF (c :: r)) ((c :: r).drop (wordF (c :: r)))).1, (scanL f (i + wordF (c :: r)) ((c :: r).drop (wordF (c :: r)))).2)
      else ([], some i)
theorem word_pos {l : List UInt8} (h : (tokenF (l.take (wordF l))).2 = true) : 0 < wordF l := by
  rcases Nat.eq_zero_or_pos (wordF l) with h0 | h0
  · rw [h0, List.take_zero, token_nil] at h; cases h
  · exact h0
theorem scanL_fuel : ∀ (f g i : Nat) (l : List UInt8), l.length ≤ f → l.length ≤ g → scanL f i l = scanL g i l
  | f, g, i, [], _, _ => by cases f <;> cases g <;> rfl
  | 0, _, _, _ :: _, h, _ => by simp at h
  | _, 0, _, _ :: _, _, h => by simp at h
  | f + 1, g + 1, i, c :: r, h1, h2 => by
    simp only [List.length_cons] at h1 h2
    simp only [scanL]
    rw [scanL_fuel f g (i + 1) r (by omega) (by omega)]
    split
    · rfl
    · split
      · rename_i h
        have hp := word_pos h
        rw [scanL_fuel f g _ _ (by rw [List.length_drop, List.length_cons]; omega) (by rw [List.length_drop, List.length_cons]; omega)]
      · rfl
def scanI (i : Nat) (l : List UInt8) := scanL l.length i l
theorem scanI_nil (i : Nat) : scanI i [] = ([], none) := rfl
theorem scanI_blank (i : Nat) (l : List UInt8) (h : 0 < l.length) (hb : isBlank (l.getD 0 0) = true) : scanI i l = scanI (i + 1) (l.drop 1) := by
  cases l with
  | nil => simp at h
  | cons c r =>
    have hb : isBlank c = true := by simpa using hb
    simp only [scanI, scanL, List.length_cons, hb, if_true, List.drop_succ_cons, List.drop_zero]
theorem scanI_bad (i : Nat) (l : List UInt8) (h : 0 < l.length) (hb : isBlank (l.getD 0 0) = false) (ht : (tokenF (l.take (wordF l))).2 = false) : scanI i l = ([], some i) := by
  cases l with
  | nil => simp at h
  | cons c r =>
    have hb : isBlank c = false := by simpa using hb
    simp only [scanI, List.length_cons, scanL]
    rw [if_neg (by simp [hb]), if_neg (by simp only [ht]; simp)]
theorem scanI_tok (i : Nat) (l : List UInt8) (h : 0 < l.length) (hb : isBlank (l.getD 0 0) = false) (ht : (tokenF (l.take (wordF l))).2 = true) :
    scanI i l = (setAt (tokenF (l.take (wordF l))).1 i :: (scanI (i + wordF l) (l.drop (wordF l))).1, (scanI (i + wordF l) (l.drop (wordF l))).2) := by
  have hp := word_pos ht
  cases l with
  | nil => simp at h
  | cons c r =>
    have hb : isBlank c = false := by simpa using hb
    rw [scanI, List.length_cons, scanL]
    rw [if_neg (by simp [hb]), if_pos ht]
    rw [scanL_fuel r.length ((c :: r).drop (wordF (c :: r))).length _ _ (by rw [List.length_drop, List.length_cons]; omega) (Nat.le_refl _)]
    rfl
def scanF (b : List UInt8) : List (Int × ByteArray × Int × Int) × Int × Int := if 6000 < b.length then ([], 0, 2) else match (scanI 0 b).2 with
  | none => ((scanI 0 b).1, 0, 0)
  | some i => ([], (i : Int), 3)
def scanC : Ctr := { A := List UInt8, enc := fun b => [.row UInt8 1 byteC 0 b], dom := fun b => b.length ≤ 4611686018427387904, res := fun b id => .tup [.own (Int × ByteArray × Int × Int) 4 tokC tok0 (scanF b).1 id, I (scanF b).2.1, I (scanF b).2.2], gl := tabs }
def blanksB : ByteArray := ⟨#[32, 9, 10, 13]⟩
set_option maxRecDepth 100000 in
theorem scan_ok : CtrSound Tryd.prog 25 scanC :=
  ctr_of_ax (env_okB tys_ok (eqs := []) trivial (cs := [(39, idxC), (40, wordC), (41, tokenC)]) ⟨idx_ok, word_ok, token_ok, trivial⟩ (bs := []) trivial (gl := tabs)) mixed _ Tryd.func25 (by kernel_rfl) rfl (fun _ _ => Nat.le_of_ble_eq_true rfl) fun (b : List UInt8) id hd => by
    refine ⟨fun h => ?_, fun h => ?_⟩
    · have e : scanF b = ([], 0, 2) := if_pos (by have := of_decide_eq_true h; omega)
      exact ⟨(show Sub _ (.tup [.own (Int × ByteArray × Int × Int) 4 tokC tok0 (scanF b).1 id, I (scanF b).2.1, I (scanF b).2.2]) by rw [e]; exact .tup3 (.nilO ..) (.refl _) (.refl _)), rfl⟩
    have hle : b.length ≤ 6000 := by have := of_decide_eq_false h; omega
    have e0 : scanF b = match (scanI 0 b).2 with | none => ((scanI 0 b).1, 0, 0) | some i => ([], (i : Int), 3) := if_neg (by omega)
    refine ⟨Nat × List (Int × ByteArray × Int × Int), fun s => [(0, .row UInt8 1 byteC 0 b), (5, I s.1), (2, .own (Int × ByteArray × Int × Int) 4 tokC tok0 s.2 47)], fun _ => [],
      fun s => s.1 ≤ b.length ∧ s.2.length ≤ s.1 ∧ s.2 ++ (scanI s.1 (b.drop s.1)).1 = (scanI 0 b).1 ∧ (scanI s.1 (b.drop s.1)).2 = (scanI 0 b).2, fun s => b.length - s.1, ⟨(0, []), ⟨Nat.zero_le _, Nat.le_refl _, rfl, rfl⟩, ⟨⟨rfl, rfl⟩, .refl _, .refl _, .nilO .., trivial⟩⟩, fun ((i, o) : Nat × List (Int × ByteArray × Int × Int)) hi => ?_⟩
    have h1 : i ≤ b.length := hi.1
    have h2 : o.length ≤ i := hi.2.1
    have h3 : o ++ (scanI i (b.drop i)).1 = (scanI 0 b).1 := hi.2.2.1
    have h4 : (scanI i (b.drop i)).2 = (scanI 0 b).2 := hi.2.2.2
    have hwj : IntKind.i64.wrap ((i : Int) + 1) = ((i + 1 : Nat) : Int) := by rw [wrap_eq _ (by omega) (by omega)]; omega
    have di : (i : Int).toNat = i := by omega
    refine ⟨fun h => ?_, fun h => ?_⟩
    · have hlt : i < b.length := by have := of_decide_eq_true h; omega
      have hdl : 0 < (b.drop i).length := by rw [List.length_drop]; omega
      have hg : (b.drop i).getD 0 0 = b.getD i 0 := by simp [List.getD, List.getElem?_drop]
      refine ⟨by omega, ?_⟩
      refine ⟨(blanksB, b.getD i 0), ⟨.refl _, .refl _, trivial⟩, rfl, trivial, ?_⟩
      have hbl : decide (Lib.indexByte blanksB.data.toList (b.getD i 0) ≥ 0) = isBlank (b.getD i 0) := idx_has _ _
      refine ⟨fun h => ?_, fun h => ?_⟩
      · have h : decide (Lib.indexByte blanksB.data.toList (b.getD i 0) ≥ 0) = true := h
        rw [hbl] at h
        have e := scanI_blank i (b.drop i) hdl (by rw [hg]; exact h)
        rw [List.drop_drop] at e
        rw [e] at h3 h4
        exact ⟨(i + 1, o), ⟨hlt, by show o.length ≤ i + 1; omega, h3, h4⟩, by show b.length - (i + 1) < b.length - i; omega, ⟨rfl, rfl⟩, .refl _, .int hwj, .refl _, trivial⟩
      have h : decide (Lib.indexByte blanksB.data.toList (b.getD i 0) ≥ 0) = false := h
      rw [hbl] at h
      refine ⟨by omega, ?_⟩
      refine ⟨b.drop i, ⟨.refl _, trivial⟩, rfl, (show (b.drop i).length ≤ 1000000 by rw [List.length_drop]; omega), ?_⟩
      have hwl := wordF_le (b.drop i)
      rw [List.length_drop] at hwl
      have hww : IntKind.i64.wrap ((i : Int) + ((wordF (b.drop i) : Nat) : Int)) = ((i + wordF (b.drop i) : Nat) : Int) := by rw [wrap_eq _ (by omega) (by omega)]; omega
      have htk : (b.take (i + wordF (b.drop i))).drop i = (b.drop i).take (wordF (b.drop i)) := by
        rw [List.drop_take]; congr 1; omega
      refine ⟨⟨by omega, by show (i : Int) ≤ IntKind.i64.wrap ((i : Int) + ((wordF (b.drop i) : Nat) : Int)); omega, by show IntKind.i64.wrap ((i : Int) + ((wordF (b.drop i) : Nat) : Int)) ≤ (b.length : Int); omega⟩, ?_⟩
      refine ⟨(b.drop i).take (wordF (b.drop i)), ?_, ?_⟩
      · show Sub (.row UInt8 1 byteC 0 ((b.take (IntKind.i64.wrap ((i : Int) + ((wordF (b.drop i) : Nat) : Int))).toNat).drop (i : Int).toNat)) _
        rw [hww, di, show ((i + wordF (b.drop i) : Nat) : Int).toNat = i + wordF (b.drop i) by omega, htk]
        exact .refl _
      refine ⟨(b.drop i).take (wordF (b.drop i)), ⟨.refl _, trivial⟩, rfl, (show ((b.drop i).take (wordF (b.drop i))).length ≤ 4611686018427387904 by rw [List.length_take, List.length_drop]; omega), ?_⟩
      refine ⟨fun h5 => ?_, fun h5 => ?_⟩
      · have h5 : (tokenF ((b.drop i).take (wordF (b.drop i)))).2 = false := by simpa using h5
        have e := scanI_bad i (b.drop i) hdl (by rw [hg]; exact h) h5
        rw [e] at h4
        have e2 : scanF b = ([], (i : Int), 3) := by rw [e0, ← h4]
        exact ⟨(show Sub _ (.tup [.own (Int × ByteArray × Int × Int) 4 tokC tok0 (scanF b).1 id, I (scanF b).2.1, I (scanF b).2.2]) by rw [e2]; exact .tup3 (.nilO ..) (.refl _) (.refl _)), rfl⟩
      · have h5 : (tokenF ((b.drop i).take (wordF (b.drop i)))).2 = true := by simpa using h5
        have hp := word_pos h5
        have e := scanI_tok i (b.drop i) hdl (by rw [hg]; exact h) h5
        rw [List.drop_drop] at e
        rw [e] at h3 h4
        refine ⟨(Int × ByteArray × Int × Int), tokC, tok0, [setAt (tokenF ((b.drop i).take (wordF (b.drop i)))).1 i], ⟨rfl, fun _ => rfl⟩, ⟨.refl _, .refl _, .refl _, .refl _, trivial⟩, rfl, ?_⟩
        refine ⟨(Int × ByteArray × Int × Int), tokC, tok0, o, [setAt (tokenF ((b.drop i).take (wordF (b.drop i)))).1 i], 47, ⟨.refl _, .own ..⟩, fun _ => rfl, (by simp only [List.length_cons, List.length_nil]; omega), ?_⟩
        exact ⟨(i + wordF (b.drop i), o ++ [setAt (tokenF ((b.drop i).take (wordF (b.drop i)))).1 i]), ⟨by omega, by show (o ++ [_]).length ≤ i + wordF (b.drop i); rw [List.length_append, List.length_singleton]; omega, by rw [List.append_assoc]; exact h3, h4⟩, by show b.length - (i + wordF (b.drop i)) < b.length - i; omega, ⟨rfl, rfl⟩, .refl _, .int hww, .refl _, trivial⟩
    · have hge : i = b.length := by have := of_decide_eq_false h; omega
      rw [List.drop_of_length_le (by omega), scanI_nil] at h3 h4
      have e2 : scanF b = (o, 0, 0) := by rw [e0, ← h4, ← h3]; simp
      exact ⟨(show Sub _ (.tup [.own (Int × ByteArray × Int × Int) 4 tokC tok0 (scanF b).1 id, I (scanF b).2.1, I (scanF b).2.2]) by rw [e2]; exact .tup3 (.refl _) (.refl _) (.refl _)), rfl⟩
end Go.Proofs.YtimhbimpaiiceaaDoor.Ax
/- Layer show: what Go's library answers about rows of texts, as the logic's contracts. -/
set_option linter.unusedVariables false
set_option linter.unusedSimpArgs false
namespace Go.Proofs.YtimhbimpaiiceaaDoor.Ax
open Go Go.RowKit
/-- the package variables that the library reads in this layer -/
def tabS (w : World) : Prop := Lib.TabIs Tryd.prog w "internal/strconv.uint64pow10" .u64 Lib.pow10Tab ∧ Lib.TabIs Tryd.prog w "strings.asciiSpace" .u8 Lib.asciiSpaceTab
def strC (s : ByteArray) : List SV := [S s]
theorem str_cells {H : HM} {w : World} (hs : Sealed H w) {l : List ByteArray} {v : Value} (h : G H noB noT (.row ByteArray 1 strC ⟨#[]⟩ l) v) :
    ∃ p cap, v = .slice p l.length cap ∧ (l ≠ [] → ∃ b o, p = some ⟨b, o, none⟩ ∧ l.length ≤ cap ∧ ∀ (i : Nat), i < l.length → w.cell? ⟨b, o + i, none⟩ = some (.string (l.getD i ⟨#[]⟩))) := by
  cases h with
  | rowE _ _ _ _ a c => exact ⟨a, c, rfl, fun h => absurd rfl h⟩
  | row _ _ _ _ _ b off c vs hc hz hH hG =>
    refine ⟨_, c, rfl, fun _ => ⟨b, off, rfl, hc, fun i hi => ?_⟩⟩
    have h1 := hs _ _ _ (hH i 0 hi (by omega))
    have h2 := hG i 0 hi (by omega)
    have h3 : vs i 0 = .string (l.getD i ⟨#[]⟩) := gval' (show G H noB noT (.val (.string (l.getD i ⟨#[]⟩))) _ from h2)
    rw [Nat.mul_one, Nat.add_zero] at h1
    rw [h1, h3]
def hasC : Ctr := { A := List ByteArray × ByteArray, enc := fun x => [.row ByteArray 1 strC ⟨#[]⟩ x.1, S x.2], dom := fun x => x.1.length ≤ 4611686018427387904, res := fun x _ => B (Lib.containsS x.1 x.2) }
theorem has_ok : CtrSound Tryd.prog 32 hasC := by
  refine ctr_pure ⟨_, Tryd.func32, by kernel_rfl, by kernel_rfl⟩ fun x H w vs id hd hgl hs hn hg => ?_
  obtain ⟨u, v, rfl, h1, h2⟩ := args2 hn hg
  obtain ⟨l, s⟩ := x
  have hd : l.length ≤ 4611686018427387904 := hd
  rw [gval' h2]
  obtain ⟨p, cap, rfl, h3⟩ := str_cells hs h1
  by_cases hl : l = []
  · subst hl
    refine (Tryd.slices_Contains_string_empty p cap s w).mono ?_
    rintro e w' ⟨rfl, rfl⟩
    exact ⟨_, rfl, .refl _ _, .val _⟩
  · obtain ⟨b, o, rfl, hc, h4⟩ := h3 hl
    refine (Tryd.slices_Contains_string b o l.length cap l s w (Nat.le_refl _) (by omega) (fun j hj => h4 j hj)).mono ?_
    rintro e w' ⟨rfl, rfl⟩
    exact ⟨_, rfl, .refl _ _, by rw [List.take_length]; exact .val _⟩
def atC : Ctr := { A := List ByteArray × ByteArray, enc := fun x => [.row ByteArray 1 strC ⟨#[]⟩ x.1, S x.2], dom := fun x => x.1.length ≤ 4611686018427387904, res := fun x _ => I (Lib.idxOfS x.1 x.2) }
theorem at_ok : CtrSound Tryd.prog 29 atC := by
  refine ctr_pure ⟨_, Tryd.func29, by kernel_rfl, by kernel_rfl⟩ fun x H w vs id hd hgl hs hn hg => ?_
  obtain ⟨u, v, rfl, h1, h2⟩ := args2 hn hg
  obtain ⟨l, s⟩ := x
  have hd : l.length ≤ 4611686018427387904 := hd
  rw [gval' h2]
  obtain ⟨p, cap, rfl, h3⟩ := str_cells hs h1
  by_cases hl : l = []
  · subst hl
    refine (Tryd.slices_Index_string_empty p cap s w).mono ?_
    rintro e w' ⟨rfl, rfl⟩
    exact ⟨_, rfl, .refl _ _, .val _⟩
  · obtain ⟨b, o, rfl, hc, h4⟩ := h3 hl
    refine (Tryd.slices_Index_string b o l.length cap l s w (Nat.le_refl _) (by omega) (fun j hj => h4 j hj)).mono ?_
    rintro e w' ⟨rfl, rfl⟩
    exact ⟨_, rfl, .refl _ _, by rw [List.take_length]; exact .val _⟩
/-- texts joined -/
def sjoinF (l : List ByteArray) (sep : ByteArray) : List UInt8 := Lib.join (l.map (·.data.toList)) sep.data.toList
def sjoinC : Ctr := { A := List ByteArray × ByteArray, enc := fun x => [.row ByteArray 1 strC ⟨#[]⟩ x.1, S x.2], dom := fun x => x.1.length ≤ 1000000 ∧ (sjoinF x.1 x.2).length ≤ 140737488355328, res := fun x _ => .val (.string ⟨(sjoinF x.1 x.2).toArray⟩) }
def wordsF (s : ByteArray) : List ByteArray := (Lib.fields s.data.toList).map fun l => ⟨l.toArray⟩
def fieldsC : Ctr := { A := ByteArray, enc := fun s => [S s], dom := fun s => s.size < 4294967281 ∧ ∀ (j : Nat) (b : UInt8), s.data.toList[j]? = some b → b.toNat < 128, res := fun s id => .own ByteArray 1 strC ⟨#[]⟩ (wordsF s) id, gl := tabS }
theorem fields_ok : CtrSound Tryd.prog 33 fieldsC := by
  refine ⟨⟨_, Tryd.func33, by kernel_rfl, by kernel_rfl⟩, fun s H w vs id hd hs hgl hn hg => ?_⟩
  obtain ⟨u, rfl, h1⟩ := args1 hn hg
  rw [gval' h1]
  refine (Tryd.strings_Fields_laid s w hd.1 hd.2 (hgl w hs ⟨Nat.le_refl _, fun _ _ => rfl⟩).2).mono ?_
  rintro e w' ⟨rfl, rfl⟩
  have hlen : (wordsF s).length = (Lib.fields s.data.toList).length := by simp [wordsF]
  have hsl : ∀ b o v, H b o = some v → b < w.heap.size := fun b o v e => World.block_lt_of_cell? w _ (hs b o v e)
  have hcell : ∀ b o, b < w.heap.size → (w.alloc (Go.Obj.cells (List.map (fun l => Go.Value.string { data := l.toArray }) (Go.Lib.fields s.data.toList)).toArray 9)).cell? ⟨b, o, none⟩ = w.cell? ⟨b, o, none⟩ := fun b o h => World.cell?_alloc_lt _ _ _ h
  have hnew : ∀ o, o < (wordsF s).length → (w.alloc (Go.Obj.cells (List.map (fun l => Go.Value.string { data := l.toArray }) (Go.Lib.fields s.data.toList)).toArray 9)).cell? ⟨w.heap.size, o, none⟩ = some (.string ((wordsF s).getD o ⟨#[]⟩)) := by
    intro o ho
    rw [hlen] at ho
    rw [World.cell?_alloc_new]; simp [wordsF, List.getD, ho]
  let H' : HM := fun b o => if b = w.heap.size ∧ o < (wordsF s).length then some (.string ((wordsF s).getD o ⟨#[]⟩)) else H b o
  have hH' : ∀ b o, b < w.heap.size → H' b o = H b o := fun b o h => if_neg (fun c => by omega)
  have hHn : ∀ o, o < (wordsF s).length → H' w.heap.size o = some (.string ((wordsF s).getD o ⟨#[]⟩)) := fun o h => if_pos ⟨rfl, h⟩
  have key : ∀ H2 : HM, (∀ o, o < (wordsF s).length → H2 w.heap.size o = some (.string ((wordsF s).getD o ⟨#[]⟩))) → G H2 noB noT (fieldsC.res s id) (Go.Value.slice (some { block := w.heap.size, off := 0 }) (Go.Lib.fields s.data.toList).length (Go.Lib.fields s.data.toList).length) := by
    intro H2 h2
    rw [← hlen]
    refine .own ByteArray 1 strC ⟨#[]⟩ (wordsF s) id w.heap.size 0 _ (fun i _ => .string ((wordsF s).getD i ⟨#[]⟩)) (Nat.le_refl _) (fun _ _ => rfl) (fun i j hi hj => ?_) (fun i j hi hj => ?_) (fun o h1 h2 => by omega)
    · rw [show 0 + i * 1 + j = i by omega]; exact h2 i hi
    · rw [show j = 0 by omega]; exact .val _
  refine ⟨_, H', noT, rfl, ⟨rfl, rfl, rfl, by simp, fun k hk => Below.heap_alloc _ _ _ hk⟩, fun b o v e => by rw [hH' b o (hsl b o v e)]; exact e, hH', fun _ _ _ h => (by cases h), fun b o v e => ⟨?_, rfl⟩, key H' hHn, fun _ => key _ (fun o h => ?_)⟩
  · by_cases c : b = w.heap.size ∧ o < (wordsF s).length
    · obtain ⟨rfl, c⟩ := c
      rw [hHn o c] at e
      rw [hnew o c]; exact e
    · have e2 : H b o = some v := by have := e; simp only [H'] at this; rwa [if_neg c] at this
      rw [hcell b o (hsl b o v e2)]; exact hs b o v e2
  · unfold newH
    rw [if_neg (by omega)]; exact hHn o h
end Go.Proofs.YtimhbimpaiiceaaDoor.Ax
/- Layer show: the words of instructions, the kept ones. -/
set_option linter.unusedVariables false
set_option linter.unusedSimpArgs false
namespace Go.Proofs.YtimhbimpaiiceaaDoor.Ax
open Go Go.RowKit
def keptB : ByteArray := ⟨#[99, 108, 97, 115, 115, 32, 105, 110, 116, 101, 114, 102, 97, 99, 101, 32, 101, 120, 116, 101, 110, 100, 115, 32, 105, 109, 112, 108, 101, 109, 101, 110, 116, 115, 32, 102, 105, 101, 108, 100, 32, 115, 116, 97, 116, 105, 99, 32, 109, 101, 116, 104, 111, 100, 32, 102, 117, 110, 99, 116, 105, 111, 110, 32, 108, 111, 99, 97, 108, 115, 32, 99, 97, 116, 99, 104, 32, 105, 110, 116, 32, 118, 111, 105, 100]⟩
def keptL : List ByteArray := [⟨#[99, 108, 97, 115, 115]⟩, ⟨#[105, 110, 116, 101, 114, 102, 97, 99, 101]⟩, ⟨#[101, 120, 116, 101, 110, 100, 115]⟩, ⟨#[105, 109, 112, 108, 101, 109, 101, 110, 116, 115]⟩, ⟨#[102, 105, 101, 108, 100]⟩, ⟨#[115, 116, 97, 116, 105, 99]⟩, ⟨#[109, 101, 116, 104, 111, 100]⟩, ⟨#[102, 117, 110, 99, 116, 105, 111, 110]⟩, ⟨#[108, 111, 99, 97, 108, 115]⟩, ⟨#[99, 97, 116, 99, 104]⟩, ⟨#[105, 110, 116]⟩, ⟨#[118, 111, 105, 100]⟩]
def opsB : ByteArray := ⟨#[110, 111, 112, 32, 99, 111, 110, 115, 116, 32, 110, 117, 108, 108, 32, 108, 111, 97, 100, 32, 115, 116, 111, 114, 101, 32, 112, 111, 112, 32, 100, 117, 112, 32, 115, 119, 97, 112, 32, 97, 100, 100, 32, 115, 117, 98, 32, 109, 117, 108, 32, 100, 105, 118, 32, 114, 101, 109, 32, 110, 101, 103, 32, 103, 111, 116, 111, 32, 105, 102, 101, 113, 32, 105, 102, 110, 101, 32, 105, 102, 108, 116, 32, 105, 102, 103, 101, 32, 99, 109, 112, 101, 113, 32, 99, 109, 112, 110, 101, 32, 99, 109, 112, 108, 116, 32, 99, 109, 112, 103, 101, 32, 105, 102, 110, 117, 108, 108, 32, 105, 102, 114, 101, 102, 32, 115, 97, 109, 101, 32, 111, 116, 104, 101, 114, 32, 110, 101, 119, 32, 103, 101, 116, 32, 112, 117, 116, 32, 103, 101, 116, 115, 32, 112, 117, 116, 115, 32, 105, 110, 116, 115, 32, 114, 101, 102, 115, 32, 108, 101, 110, 32, 97, 116, 32, 115, 101, 116, 32, 105, 115, 32, 99, 97, 115, 116, 32, 99, 97, 108, 108, 32, 102, 117, 110, 99, 32, 114, 101, 116, 32, 108, 101, 97, 118, 101, 32, 116, 104, 114, 111, 119]⟩
def opsL : List ByteArray := [⟨#[110, 111, 112]⟩, ⟨#[99, 111, 110, 115, 116]⟩, ⟨#[110, 117, 108, 108]⟩, ⟨#[108, 111, 97, 100]⟩, ⟨#[115, 116, 111, 114, 101]⟩, ⟨#[112, 111, 112]⟩, ⟨#[100, 117, 112]⟩, ⟨#[115, 119, 97, 112]⟩, ⟨#[97, 100, 100]⟩, ⟨#[115, 117, 98]⟩, ⟨#[109, 117, 108]⟩, ⟨#[100, 105, 118]⟩, ⟨#[114, 101, 109]⟩, ⟨#[110, 101, 103]⟩, ⟨#[103, 111, 116, 111]⟩, ⟨#[105, 102, 101, 113]⟩, ⟨#[105, 102, 110, 101]⟩, ⟨#[105, 102, 108, 116]⟩, ⟨#[105, 102, 103, 101]⟩, ⟨#[99, 109, 112, 101, 113]⟩, ⟨#[99, 109, 112, 110, 101]⟩, ⟨#[99, 109, 112, 108, 116]⟩, ⟨#[99, 109, 112, 103, 101]⟩, ⟨#[105, 102, 110, 117, 108, 108]⟩, ⟨#[105, 102, 114, 101, 102]⟩, ⟨#[115, 97, 109, 101]⟩, ⟨#[111, 116, 104, 101, 114]⟩, ⟨#[110, 101, 119]⟩, ⟨#[103, 101, 116]⟩, ⟨#[112, 117, 116]⟩, ⟨#[103, 101, 116, 115]⟩, ⟨#[112, 117, 116, 115]⟩, ⟨#[105, 110, 116, 115]⟩, ⟨#[114, 101, 102, 115]⟩, ⟨#[108, 101, 110]⟩, ⟨#[97, 116]⟩, ⟨#[115, 101, 116]⟩, ⟨#[105, 115]⟩, ⟨#[99, 97, 115, 116]⟩, ⟨#[99, 97, 108, 108]⟩, ⟨#[102, 117, 110, 99]⟩, ⟨#[114, 101, 116]⟩, ⟨#[108, 101, 97, 118, 101]⟩, ⟨#[116, 104, 114, 111, 119]⟩]
theorem kept_words : wordsF keptB = keptL := by decide +kernel
theorem ops_words : wordsF opsB = opsL := by decide +kernel
theorem ascii_dom {s : ByteArray} (h1 : s.size < 4294967281) (h2 : (s.data.toList.all fun b => decide (b.toNat < 128)) = true) : s.size < 4294967281 ∧ ∀ (j : Nat) (b : UInt8), s.data.toList[j]? = some b → b.toNat < 128 :=
  ⟨h1, fun j b hb => of_decide_eq_true (List.all_eq_true.1 h2 b (List.mem_of_getElem? hb))⟩
theorem kept_dom : fieldsC.dom keptB := ascii_dom (s := keptB) (by decide +kernel) (by decide +kernel)
theorem ops_dom : fieldsC.dom opsB := ascii_dom (s := opsB) (by decide +kernel) (by decide +kernel)
def keptF (l : List UInt8) : Bool := Lib.containsS keptL ⟨l.toArray⟩
def keptC : Ctr := { A := List UInt8, enc := fun l => [X l], dom := fun _ => True, res := fun l _ => B (keptF l), gl := tabS }
set_option maxRecDepth 100000 in
theorem kept_ok : CtrSound Tryd.prog 14 keptC :=
  ctr_of_ax (env_okB tys_ok (eqs := []) trivial (cs := [(33, fieldsC), (32, hasC)]) ⟨fields_ok, has_ok, trivial⟩ (bs := []) trivial (gl := tabS)) mixed _ Tryd.func14 (by kernel_rfl) rfl (fun _ _ => Nat.le_of_ble_eq_true rfl) fun (l : List UInt8) id hd => by
    refine ⟨keptB, ⟨.str (by kernel_rfl), trivial⟩, rfl, kept_dom, ?_⟩
    refine ⟨(wordsF keptB, ⟨l.toArray⟩), ⟨.own .., .refl _, trivial⟩, rfl, (show (wordsF keptB).length ≤ 4611686018427387904 by rw [kept_words]; decide), ?_⟩
    exact ⟨.bool (by show Lib.containsS (wordsF keptB) _ = _; rw [kept_words]; rfl), rfl⟩
def freshF (l : List UInt8) : Bool := nameF l && !keptF l
def freshC : Ctr := { A := List UInt8, enc := fun l => [X l], dom := fun l => l.length ≤ 4611686018427387904, res := fun l _ => B (freshF l), gl := tabS }
def opsC : Ctr := { A := Unit, enc := fun _ => [], dom := fun _ => True, res := fun _ id => .own ByteArray 1 strC ⟨#[]⟩ opsL id, gl := tabS }
set_option maxRecDepth 100000 in
theorem ops_ok : CtrSound Tryd.prog 28 opsC :=
  ctr_of_ax (env_okB tys_ok (eqs := []) trivial (cs := [(33, fieldsC)]) ⟨fields_ok, trivial⟩ (bs := []) trivial (gl := tabS)) mixed _ Tryd.func28 (by kernel_rfl) rfl (fun _ _ => Nat.le_of_ble_eq_true rfl) fun (_ : Unit) id hd => by
    refine ⟨opsB, ⟨.str (by kernel_rfl), trivial⟩, rfl, ops_dom, ?_⟩
    exact ⟨.ownEq ops_words, rfl⟩
def wordF2 (n : Int) : ByteArray := if n < 0 ∨ 44 ≤ n then ⟨#[]⟩ else opsL.getD n.toNat ⟨#[]⟩
def pwordC : Ctr := { A := Int, enc := fun n => [I n], dom := fun _ => True, res := fun n _ => S (wordF2 n), gl := tabS }
set_option maxRecDepth 100000 in
theorem pword_ok : CtrSound Tryd.prog 11 pwordC :=
  ctr_of_ax (env_okB tys_ok (eqs := []) trivial (cs := [(28, opsC)]) ⟨ops_ok, trivial⟩ (bs := []) trivial (gl := tabS)) mixed _ Tryd.func11 (by kernel_rfl) rfl (fun _ _ => Nat.le_of_ble_eq_true rfl) fun (n : Int) id hd => by
    refine ⟨fun h => ?_, fun h => ?_⟩
    · exact ⟨.str (by unfold wordF2; rw [if_pos (.inl (of_decide_eq_true h))]), rfl⟩
    have h0 : ¬ n < 0 := of_decide_eq_false h
    refine ⟨fun h => ?_, fun h => ?_⟩
    · exact ⟨.str (by unfold wordF2; rw [if_pos (.inr (of_decide_eq_true h))]), rfl⟩
    have h1 : ¬ n ≥ 44 := of_decide_eq_false h
    have hl : opsL.length = 44 := by decide
    refine ⟨(), trivial, rfl, trivial, ?_⟩
    refine ⟨⟨by omega, by rw [hl]; show n < ((44 : Nat) : Int); omega⟩, ?_⟩
    exact ⟨.str (by unfold wordF2; rw [if_neg (by omega)]), rfl⟩
end Go.Proofs.YtimhbimpaiiceaaDoor.Ax
/- Layer show: types. -/
set_option linter.unusedVariables false
set_option linter.unusedSimpArgs false
namespace Go.Proofs.YtimhbimpaiiceaaDoor.Ax
open Go Go.RowKit
theorem eqT {a b : Int} (h : (a == b) = true) : a = b := eq_of_beq h
theorem eqF {a b : Int} (h : (a == b) = false) : a ≠ b := fun c => by rw [c] at h; simp at h
def tyS (t : Int × ByteArray) : SV := .agg [I t.1, S t.2]
def typedF (k : Int) (l : List UInt8) : Bool := if k = 1 ∨ k = 2 ∨ k = 4 then decide (l = []) else if k = 3 ∨ k = 5 then freshF l else false
def typedC : Ctr := { A := Int × List UInt8, enc := fun x => [tyS (x.1, txt x.2)], dom := fun x => x.2.length ≤ 4611686018427387904, res := fun x _ => B (typedF x.1 x.2), gl := tabS }
def kindF (k : Int) (s : ByteArray) : List ByteArray := if k = 1 then [⟨#[118, 111, 105, 100]⟩] else if k = 2 then [⟨#[105, 110, 116]⟩] else if k = 4 then [⟨#[105, 110, 116]⟩, ⟨#[91]⟩, ⟨#[93]⟩] else if k = 5 then [s, ⟨#[91]⟩, ⟨#[93]⟩] else [s]
def kindC : Ctr := { A := Int × ByteArray, enc := fun x => [tyS x], dom := fun _ => True, res := fun x id => .own ByteArray 1 strC ⟨#[]⟩ (kindF x.1 x.2) id }
theorem kind_len (k : Int) (l : List UInt8) : (kindF k (txt l)).length ≤ 3 ∧ (sjoinF (kindF k (txt l)) ⟨#[]⟩).length ≤ l.length + 10 := by
  unfold kindF sjoinF
  split
  · exact ⟨by decide, by simp [Lib.join_cons, Lib.joinTail]⟩
  · split
    · exact ⟨by decide, by simp [Lib.join_cons, Lib.joinTail]⟩
    · split
      · exact ⟨by decide, by simp [Lib.join_cons, Lib.joinTail]⟩
      · split
        · exact ⟨by simp, by simp [Lib.join_cons, Lib.joinTail]⟩
        · exact ⟨by simp, by simp [Lib.join_cons, Lib.joinTail]⟩
def typeF (k : Int) (l : List UInt8) : List UInt8 × Int := if typedF k l then (sjoinF (kindF k (txt l)) ⟨#[]⟩, 0) else ([], 4)
def typeC : Ctr := { A := Int × List UInt8, enc := fun x => [tyS (x.1, txt x.2)], dom := fun x => x.2.length ≤ 1000000, res := fun x _ => .tup [X (typeF x.1 x.2).1, I (typeF x.1 x.2).2], gl := tabS }
end Go.Proofs.YtimhbimpaiiceaaDoor.Ax
/- Layer show: what instructions have. -/
set_option linter.unusedVariables false
set_option linter.unusedSimpArgs false
namespace Go.Proofs.YtimhbimpaiiceaaDoor.Ax
open Go Go.RowKit
theorem noTF {b : Bool} (h : b = true) (c : b = false) : False := by rw [h] at c; cases c
def inF (n lo hi : Int) : Bool := decide (lo ≤ n ∧ n ≤ hi)
def inC : Ctr := { A := Int × Int × Int, enc := fun x => [I x.1, I x.2.1, I x.2.2], dom := fun _ => True, res := fun x _ => B (inF x.1 x.2.1 x.2.2) }
def jumpF (n : Int) : Bool := decide (14 ≤ n ∧ n ≤ 26)
def jumpC : Ctr := { A := Int, enc := fun x => [I x], dom := fun _ => True, res := fun x _ => B (jumpF x) }
theorem jump_ok : CtrSound Tryd.prog 90 jumpC :=
  ctr_of_ax (env_ok tys_ok (eqs := []) trivial (cs := []) trivial) mixed _ Tryd.func90 (by kernel_rfl) rfl (fun _ _ => Nat.le_of_ble_eq_true rfl) fun (n : Int) id _ => by
    refine ⟨fun h => ?_, fun h => ?_⟩
    · have h1 : n ≥ 14 := of_decide_eq_true h
      exact ⟨.bool (by show decide (n ≤ 26) = jumpF n; unfold jumpF; rw [Bool.eq_iff_iff]; simp; omega), rfl⟩
    · have h1 : ¬ n ≥ 14 := of_decide_eq_false h
      exact ⟨.bff (by unfold jumpF; simp; omega), rfl⟩
def numsF (n : Int) : Int × Int × Bool := if n = 1 then (-2147483648, 2147483647, true) else if n = 3 ∨ n = 4 then (0, 7, true) else if jumpF n then (0, 47, true) else (0, 0, false)
def numsC : Ctr := { A := Int, enc := fun x => [I x], dom := fun _ => True, res := fun x _ => .tup [I (numsF x).1, I (numsF x).2.1, B (numsF x).2.2] }
theorem nums_ok : CtrSound Tryd.prog 79 numsC :=
  ctr_of_ax (env_ok tys_ok (eqs := []) trivial (cs := [(90, jumpC)]) ⟨jump_ok, trivial⟩) mixed _ Tryd.func79 (by kernel_rfl) rfl (fun _ _ => Nat.le_of_ble_eq_true rfl) fun (n : Int) id _ => by
    have fin : ∀ (a b : Int) (c : Bool) (s : SV), numsF n = (a, b, c) → Sub s (B c) → Sub (.tup [I a, I b, s]) (.tup [I (numsF n).1, I (numsF n).2.1, B (numsF n).2.2]) := fun a b c s e h => by rw [e]; exact .tup3 (.refl _) (.refl _) h
    refine ⟨fun h => ?_, fun h => ?_⟩
    · exact ⟨fin _ _ true _ (if_pos (eqT h)) .tt, rfl⟩
    have h1 := eqF h
    refine ⟨fun h => ?_, fun h => ?_⟩
    · exact ⟨fin _ _ true _ ((if_neg h1).trans (if_pos (.inl (eqT h)))) .tt, rfl⟩
    have h3 := eqF h
    refine ⟨fun h => ?_, fun h => ?_⟩
    · exact ⟨fin _ _ true _ ((if_neg h1).trans (if_pos (.inr (eqT h)))) .tt, rfl⟩
    have h4 := eqF h
    refine ⟨n, ⟨.refl _, trivial⟩, rfl, trivial, ?_⟩
    refine ⟨fun h => ?_, fun h => ?_⟩
    · exact ⟨fin _ _ true _ ((if_neg h1).trans ((if_neg (fun c => c.elim h3 h4)).trans (if_pos h))) .tt, rfl⟩
    · exact ⟨fin _ _ false _ ((if_neg h1).trans ((if_neg (fun c => c.elim h3 h4)).trans (if_neg (by rw [show jumpF n = false from h]; decide)))) .ff, rfl⟩
def namesF (n : Int) : Int := if n = 27 ∨ n = 33 ∨ n = 37 ∨ n = 38 then 1 else if n = 28 ∨ n = 29 ∨ n = 30 ∨ n = 31 ∨ n = 39 ∨ n = 40 then 2 else 0
def namesC : Ctr := { A := Int, enc := fun x => [I x], dom := fun _ => True, res := fun x _ => I (namesF x) }
theorem names_ok : CtrSound Tryd.prog 80 namesC :=
  ctr_of_ax (env_ok tys_ok (eqs := []) trivial (cs := []) trivial) mixed _ Tryd.func80 (by kernel_rfl) rfl (fun _ _ => Nat.le_of_ble_eq_true rfl) fun (n : Int) id _ => by
    have one : (n = 27 ∨ n = 33 ∨ n = 37 ∨ n = 38) → 1 = namesF n := fun h => (if_pos h).symm
    have two : (n = 28 ∨ n = 29 ∨ n = 30 ∨ n = 31 ∨ n = 39 ∨ n = 40) → 2 = namesF n := fun h => by unfold namesF; rw [if_neg (by omega), if_pos h]
    refine ⟨fun h => ⟨fun _ => ⟨.int (one (.inl (eqT h))), rfl⟩, fun c => (noTF h c).elim⟩, fun h1 => ?_⟩
    refine ⟨fun h => ⟨fun _ => ⟨.int (one (.inr (.inl (eqT h)))), rfl⟩, fun c => (noTF h c).elim⟩, fun h2 => ?_⟩
    refine ⟨fun h => ⟨fun _ => ⟨.int (one (.inr (.inr (.inl (eqT h))))), rfl⟩, fun c => (noTF h c).elim⟩, fun h3 => ?_⟩
    refine ⟨fun h => ⟨.int (one (.inr (.inr (.inr (eqT h))))), rfl⟩, fun h4 => ?_⟩
    refine ⟨fun h => ⟨fun _ => ⟨.int (two (.inl (eqT h))), rfl⟩, fun c => (noTF h c).elim⟩, fun h5 => ?_⟩
    refine ⟨fun h => ⟨fun _ => ⟨.int (two (.inr (.inl (eqT h)))), rfl⟩, fun c => (noTF h c).elim⟩, fun h6 => ?_⟩
    refine ⟨fun h => ⟨fun _ => ⟨.int (two (.inr (.inr (.inl (eqT h))))), rfl⟩, fun c => (noTF h c).elim⟩, fun h7 => ?_⟩
    refine ⟨fun h => ⟨fun _ => ⟨.int (two (.inr (.inr (.inr (.inl (eqT h)))))), rfl⟩, fun c => (noTF h c).elim⟩, fun h8 => ?_⟩
    refine ⟨fun h => ⟨fun _ => ⟨.int (two (.inr (.inr (.inr (.inr (.inl (eqT h))))))), rfl⟩, fun c => (noTF h c).elim⟩, fun h9 => ?_⟩
    refine ⟨fun h => ⟨.int (two (.inr (.inr (.inr (.inr (.inr (eqT h))))))), rfl⟩, fun h10 => ?_⟩
    have e1 := eqF h1; have e2 := eqF h2; have e3 := eqF h3; have e4 := eqF h4; have e5 := eqF h5; have e6 := eqF h6; have e7 := eqF h7; have e8 := eqF h8; have e9 := eqF h9; have e10 := eqF h10
    exact ⟨.int (by unfold namesF; rw [if_neg (by omega), if_neg (by omega)]), rfl⟩
end Go.Proofs.YtimhbimpaiiceaaDoor.Ax
/- Layer parse: what a reader of words does, in plain Lean. -/
set_option linter.unusedVariables false
set_option linter.unusedSimpArgs false
namespace Go.Proofs.YtimhbimpaiiceaaDoor.Ax
open Go Go.RowKit
abbrev Ty := Int × ByteArray
structure Fld where
  name : ByteArray
  type : Ty
  static : Bool
structure Ins where
  op : Int
  n : Int
  a : ByteArray
  b : ByteArray
structure Cat where
  name : ByteArray
  fr : Int
  up : Int
  at' : Int
structure Meth where
  name : ByteArray
  static : Bool
  abs : Bool
  params : List Ty
  ret : Ty
  locals : Int
  code : List Ins
  catches : List Cat
structure Cls where
  name : ByteArray
  iface : Bool
  super : ByteArray
  ifaces : List ByteArray
  fields : List Fld
  methods : List Meth
instance : DecidableEq Fld := fun a b => decidable_of_iff (a.name = b.name ∧ a.type = b.type ∧ a.static = b.static) (by cases a; cases b; simp)
instance : DecidableEq Ins := fun a b => decidable_of_iff (a.op = b.op ∧ a.n = b.n ∧ a.a = b.a ∧ a.b = b.b) (by cases a; cases b; simp)
instance : DecidableEq Cat := fun a b => decidable_of_iff (a.name = b.name ∧ a.fr = b.fr ∧ a.up = b.up ∧ a.at' = b.at') (by cases a; cases b; simp)
instance : DecidableEq Meth := fun a b => decidable_of_iff (a.name = b.name ∧ a.static = b.static ∧ a.abs = b.abs ∧ a.params = b.params ∧ a.ret = b.ret ∧ a.locals = b.locals ∧ a.code = b.code ∧ a.catches = b.catches) (by cases a; cases b; simp)
instance : DecidableEq Cls := fun a b => decidable_of_iff (a.name = b.name ∧ a.iface = b.iface ∧ a.super = b.super ∧ a.ifaces = b.ifaces ∧ a.fields = b.fields ∧ a.methods = b.methods) (by cases a; cases b; simp)
abbrev noS : ByteArray := ⟨#[]⟩
abbrev ty0 : Ty := (0, noS)
abbrev fld0 : Fld := ⟨noS, ty0, false⟩
abbrev ins0 : Ins := ⟨0, 0, noS, noS⟩
abbrev cat0 : Cat := ⟨noS, 0, 0, 0⟩
abbrev meth0 : Meth := ⟨noS, false, false, [], ty0, 0, [], []⟩
abbrev cls0 : Cls := ⟨noS, false, noS, [], [], []⟩
def tyC (t : Ty) : List SV := [I t.1, S t.2]
def fldC (f : Fld) : List SV := [S f.name, I f.type.1, S f.type.2, B f.static]
def insC (x : Ins) : List SV := [I x.op, I x.n, S x.a, S x.b]
def catC (c : Cat) : List SV := [S c.name, I c.fr, I c.up, I c.at']
def methC (m : Meth) : List SV := [S m.name, B m.static, B m.abs, .row Ty 2 tyC ty0 m.params, I m.ret.1, S m.ret.2, I m.locals, .row Ins 4 insC ins0 m.code, .row Cat 4 catC cat0 m.catches]
def clsC (c : Cls) : List SV := [S c.name, B c.iface, S c.super, .row ByteArray 1 strC noS c.ifaces, .row Fld 4 fldC fld0 c.fields, .row Meth 9 methC meth0 c.methods]
abbrev prgR (l : List Cls) : SV := .row Cls 6 clsC cls0 l

/-- The reader: words, where the text ends, the next word, where something is wrong, what. -/
structure Rs where
  L : List Tok
  n : Int
  i : Nat
  at' : Int
  e : Int
def rsC (r : Rs) : List SV := [.row Tok 4 tokC tok0 r.L, I r.i, I r.n, I r.at', I r.e]
def keptW (s : ByteArray) : Bool := keptF s.data.toList
def opV (s : ByteArray) : Int := Lib.idxOfS opsL s
def wVoid : ByteArray := ⟨#[118, 111, 105, 100]⟩
def wInt : ByteArray := ⟨#[105, 110, 116]⟩
def wLb : ByteArray := ⟨#[91]⟩
def wRb : ByteArray := ⟨#[93]⟩
def wLp : ByteArray := ⟨#[40]⟩
def wRp : ByteArray := ⟨#[41]⟩
def wLc : ByteArray := ⟨#[123]⟩
def wRc : ByteArray := ⟨#[125]⟩
def wComma : ByteArray := ⟨#[44]⟩
def wSemi : ByteArray := ⟨#[59]⟩
def wColon : ByteArray := ⟨#[58]⟩
def wLocals : ByteArray := ⟨#[108, 111, 99, 97, 108, 115]⟩
def wCatch : ByteArray := ⟨#[99, 97, 116, 99, 104]⟩
def wField : ByteArray := ⟨#[102, 105, 101, 108, 100]⟩
def wStatic : ByteArray := ⟨#[115, 116, 97, 116, 105, 99]⟩
def wMethod : ByteArray := ⟨#[109, 101, 116, 104, 111, 100]⟩
def wFunction : ByteArray := ⟨#[102, 117, 110, 99, 116, 105, 111, 110]⟩
def wClass : ByteArray := ⟨#[99, 108, 97, 115, 115]⟩
def wInterface : ByteArray := ⟨#[105, 110, 116, 101, 114, 102, 97, 99, 101]⟩
def wExtends : ByteArray := ⟨#[101, 120, 116, 101, 110, 100, 115]⟩
def wImplements : ByteArray := ⟨#[105, 109, 112, 108, 101, 109, 101, 110, 116, 115]⟩

namespace Rs
def fail (r : Rs) (e : Int) : Rs := if r.e = 0 then ⟨r.L, r.n, r.i, if r.i < r.L.length then (r.L.getD r.i tok0).2.2.2 else r.n, e⟩ else r
def next (r : Rs) : Tok := if r.e = 0 ∧ r.i < r.L.length then r.L.getD r.i tok0 else tok0
def is (r : Rs) (w : ByteArray) : Bool := decide (r.next.2.1 = w) && decide (w ≠ noS)
def step (r : Rs) : Rs := ⟨r.L, r.n, r.i + 1, r.at', r.e⟩
def take (r : Rs) (w : ByteArray) : Rs := if r.is w then r.step else r
def want (r : Rs) (w : ByteArray) : Rs := if r.is w then r.step else r.fail 4
def free (r : Rs) : Bool := decide (r.next.1 = 1) && !keptW r.next.2.1
def freshV (r : Rs) : ByteArray := if r.free then r.next.2.1 else noS
def fresh (r : Rs) : Rs := if r.free then r.step else r.fail 4
def numOk (r : Rs) (lo hi : Int) : Bool := decide (r.next.1 = 2 ∧ lo ≤ r.next.2.2.1 ∧ r.next.2.2.1 ≤ hi)
def numV (r : Rs) (lo hi : Int) : Int := if r.numOk lo hi then r.next.2.2.1 else 0
def num (r : Rs) (lo hi : Int) : Rs := if r.numOk lo hi then r.step else r.fail 4
def room (r : Rs) (many most : Int) : Rs := if many ≥ most then r.fail 2 else r
/-- how many rounds there may be yet -/
def need (r : Rs) : Nat := if r.e = 0 then r.L.length - r.i + 2 else 1
def name1 (r : Rs) (k : Int) : Rs := if r.step.free then r.step.room k 4 else r.step
def namesL : Nat → Rs → List ByteArray → List ByteArray × Rs
  | 0, r, out => (out, r)
  | f + 1, r, out => if r.is wComma then namesL f (r.name1 out.length).fresh (out ++ [(r.name1 out.length).freshV]) else (out, r)
def names (r : Rs) : List ByteArray × Rs := namesL (r.L.length + 2) r.fresh [r.freshV]
def rowR (r : Rs) : Rs := if r.is wLb then r.step.want wRb else r
def kindV (r : Rs) : Ty := if r.is wVoid then (1, noS) else if r.is wInt then (if r.step.is wLb then 4 else 2, noS) else (if r.fresh.is wLb then 5 else 3, r.freshV)
def kind (r : Rs) : Rs := if r.is wVoid then r.step else if r.is wInt then r.step.rowR else r.fresh.rowR
def param1 (r : Rs) (k : Int) : Rs := if r.step.free || r.step.is wInt || r.step.is wVoid then r.step.room k 4 else r.step
def paramsL : Nat → Rs → List Ty → List Ty × Rs
  | 0, r, out => (out, r)
  | f + 1, r, out => if r.is wComma then paramsL f (r.param1 out.length).kind (out ++ [(r.param1 out.length).kindV]) else (out, r)
def params (r : Rs) : List Ty × Rs := if (r.want wLp).is wRp then ([], (r.want wLp).step) else ((paramsL (r.L.length + 2) (r.want wLp).kind [(r.want wLp).kindV]).1, (paramsL (r.L.length + 2) (r.want wLp).kind [(r.want wLp).kindV]).2.want wRp)
def isOp (r : Rs) : Bool := decide (r.next.1 = 1) && decide (0 ≤ opV r.next.2.1)
def in1 (r : Rs) (many : Int) : Rs := (r.room many 48).want r.next.2.1
def in2 (r : Rs) (o : Int) : Rs := if (numsF o).2.2 then r.num (numsF o).1 (numsF o).2.1 else r
def in2V (r : Rs) (o : Int) : Int := if (numsF o).2.2 then r.numV (numsF o).1 (numsF o).2.1 else 0
def in3 (r : Rs) (b : Bool) : Rs := if b then r.fresh else r
def in3V (r : Rs) (b : Bool) : ByteArray := if b then r.freshV else noS
def inArgs (r : Rs) (o : Int) : Rs := ((r.in2 o).in3 (decide (namesF o > 0))).in3 (decide (namesF o > 1))
def inVal (r : Rs) (o : Int) : Ins := ⟨o, r.in2V o, (r.in2 o).in3V (decide (namesF o > 0)), ((r.in2 o).in3 (decide (namesF o > 0))).in3V (decide (namesF o > 1))⟩
def instr (r : Rs) (many : Int) : Ins × Rs := ((r.in1 many).inVal (opV r.next.2.1), ((r.in1 many).inArgs (opV r.next.2.1)).want wSemi)
def codeL : Nat → Rs → List Ins → List Ins × Rs
  | 0, r, out => (out, r)
  | f + 1, r, out => if r.isOp then codeL f (r.instr out.length).2 (out ++ [(r.instr out.length).1]) else (out, r)
def ca1 (r : Rs) (k : Int) : Rs := (r.room k 4).want wCatch
def catV (r : Rs) : Cat := ⟨r.freshV, r.fresh.numV 0 48, (r.fresh.num 0 48).numV 0 48, ((r.fresh.num 0 48).num 0 48).numV 0 48⟩
def catR (r : Rs) : Rs := (((r.fresh.num 0 48).num 0 48).num 0 48).want wSemi
def catchL : Nat → Rs → List Cat → List Cat × Rs
  | 0, r, out => (out, r)
  | f + 1, r, out => if r.is wCatch then catchL f (r.ca1 out.length).catR (out ++ [(r.ca1 out.length).catV]) else (out, r)
def bo1 (r : Rs) : Rs := ((r.want wLocals).num 0 8).want wLc
def boCode (r : Rs) : List Ins × Rs := codeL (r.L.length + 2) r.bo1 []
def boCat (r : Rs) : List Cat × Rs := catchL (r.L.length + 2) r.boCode.2 []
def body (r : Rs) : Rs := r.boCat.2.want wRc
def bodyV (r : Rs) (m : Meth) : Meth := ⟨m.name, m.static, m.abs, m.params, m.ret, (r.want wLocals).numV 0 8, r.boCode.1, r.boCat.1⟩
def mfV (r : Rs) (s : Bool) : Fld := ⟨r.freshV, (r.fresh.want wColon).kindV, s⟩
def mfR (r : Rs) : Rs := (r.fresh.want wColon).kind.want wSemi
def mm1 (r : Rs) : Rs := r.fresh.params.2.kind
def mm1V (r : Rs) (s : Bool) : Meth := ⟨r.freshV, s, r.mm1.is wSemi, r.fresh.params.1, r.fresh.params.2.kindV, 0, [], []⟩
def mmV (r : Rs) (s : Bool) : Meth := if r.mm1.is wSemi then r.mm1V s else r.mm1.bodyV (r.mm1V s)
def mmR (r : Rs) : Rs := if r.mm1.is wSemi then r.mm1.step else r.mm1.body
def memF (r : Rs) (k : Int) : Rs := (r.room k 6).want r.next.2.1
def member (r : Rs) (c : Cls) : Cls × Rs :=
  if r.next.2.1 = wField ∨ r.next.2.1 = wStatic then (⟨c.name, c.iface, c.super, c.ifaces, c.fields ++ [(r.memF c.fields.length).mfV (decide (r.next.2.1 = wStatic))], c.methods⟩, (r.memF c.fields.length).mfR)
  else if r.next.2.1 = wMethod ∨ r.next.2.1 = wFunction then (⟨c.name, c.iface, c.super, c.ifaces, c.fields, c.methods ++ [(r.memF c.methods.length).mmV (decide (r.next.2.1 = wFunction))]⟩, (r.memF c.methods.length).mmR)
  else (c, r.fail 4)
def clsL : Nat → Rs → Cls → Cls × Rs
  | 0, r, c => (c, r)
  | f + 1, r, c => if r.e = 0 then (if r.is wRc then (c, r.step) else clsL f (r.member c).2 (r.member c).1) else (c, r)
def cl1 (r : Rs) (many : Int) : Rs := (if r.is wClass || r.is wInterface then r.room many 10 else r).want (if r.is wInterface then wInterface else wClass)
/-- behind a class' name: its super, its interfaces -/
def ex1 (r : Rs) (ifc : Bool) : (ByteArray × List ByteArray) × Rs := if r.is wExtends then (if ifc then ((noS, r.step.names.1), r.step.names.2) else ((r.step.freshV, []), r.step.fresh)) else ((noS, []), r)
def ex2 (r : Rs) (ifc : Bool) (l : List ByteArray) : List ByteArray × Rs := if !ifc && r.is wImplements then r.step.names else (l, r)
def clV (r : Rs) (many : Int) : Cls := ⟨(r.cl1 many).freshV, r.is wInterface, ((r.cl1 many).fresh.ex1 (r.is wInterface)).1.1, (((r.cl1 many).fresh.ex1 (r.is wInterface)).2.ex2 (r.is wInterface) ((r.cl1 many).fresh.ex1 (r.is wInterface)).1.2).1, [], []⟩
def clR (r : Rs) (many : Int) : Rs := ((((r.cl1 many).fresh.ex1 (r.is wInterface)).2.ex2 (r.is wInterface) ((r.cl1 many).fresh.ex1 (r.is wInterface)).1.2).2).want wLc
def class' (r : Rs) (many : Int) : Cls × Rs := clsL (r.L.length + 2) (r.clR many) (r.clV many)
def prgL : Nat → Rs → List Cls → List Cls × Rs
  | 0, r, out => (out, r)
  | f + 1, r, out => if r.e = 0 ∧ r.i < r.L.length then prgL f (r.class' out.length).2 (out ++ [(r.class' out.length).1]) else (out, r)
end Rs
def parse0 (l : List UInt8) : Rs := ⟨(scanF l).1, l.length, 0, 0, 0⟩
def parseF (l : List UInt8) : List Cls × Int × Int :=
  if (scanF l).2.2 = 0 then (if (Rs.prgL ((scanF l).1.length + 2) (parse0 l) []).2.e = 0 then ((Rs.prgL ((scanF l).1.length + 2) (parse0 l) []).1, 0, 0) else ([], (Rs.prgL ((scanF l).1.length + 2) (parse0 l) []).2.at', (Rs.prgL ((scanF l).1.length + 2) (parse0 l) []).2.e)) else ([], (scanF l).2.1, (scanF l).2.2)
end Go.Proofs.YtimhbimpaiiceaaDoor.Ax
/- Layer lex by the logic: words joined; rows compared. -/
set_option linter.unusedVariables false
set_option linter.unusedSimpArgs false
namespace Go.Proofs.YtimhbimpaiiceaaDoor.Ax
open Go Go.RowKit
theorem ba_eq (a b : ByteArray) : (a.toList == b.toList) = decide (a = b) := by
  have h : ∀ b : ByteArray, b.toList = b.data.toList := fun b => ByteArray.toList_eq b
  rw [Bool.eq_iff_iff]
  simp only [h, beq_iff_eq, decide_eq_true_eq]
  constructor
  · intro h; exact ByteArray.ext (Array.toList_inj.1 h)
  · rintro rfl; rfl
def okT (t : Int × ByteArray × Int × Int) : Prop := -9223372036854775808 ≤ t.2.2.1 ∧ t.2.2.1 ≤ 9223372036854775807 ∧ t.2.1.size ≤ 140737488355328
def wdS (t : Int × ByteArray × Int × Int) : List UInt8 := if t.1 = 2 then Lib.itoa t.2.2.1 else t.2.1.data.toList
def wdOk (t : Int × ByteArray × Int × Int) : Bool := (tokenF (wdS t)).2 && decide ((tokenF (wdS t)).1.1 = t.1 ∧ (tokenF (wdS t)).1.2.1 = t.2.1 ∧ (tokenF (wdS t)).1.2.2.1 = t.2.2.1)
def wdC : Ctr := { A := Int × ByteArray × Int × Int, enc := fun t => [tokS t], dom := okT, res := fun t _ => .tup [X (wdS t), B (wdOk t)], gl := tabs }
set_option maxRecDepth 100000 in
theorem wd_ok : CtrSound Tryd.prog 42 wdC :=
  ctr_of_ax (env_okB tys_ok (eqs := []) trivial (cs := [(58, itoaC), (41, tokenC)]) ⟨itoa_ok, token_ok, trivial⟩ (bs := []) trivial (gl := tabs) (cut := [4])) mixed _ Tryd.func42 (by kernel_rfl) rfl (fun _ _ => Nat.le_of_ble_eq_true rfl) fun ((a, s, n, p) : Int × ByteArray × Int × Int) id hd => by
    have hd : okT (a, s, n, p) := hd
    obtain ⟨h0, h1, h2⟩ := hd
    have hls : (wdS (a, s, n, p)).length ≤ 4611686018427387904 := by
      unfold wdS
      split
      · have := Lib.itoa_length_le n h0 h1; show (Lib.itoa n).length ≤ _; omega
      · have : s.data.toList.length = s.size := by simp
        show s.data.toList.length ≤ _
        simp only at h2; omega
    refine ⟨Unit, fun _ => [(1, .box 1 0), (4, X (wdS (a, s, n, p)))], fun _ => [(1, [I a, S s, I n, I p])], fun _ => True, ?_, fun _ _ => ?_⟩
    · refine ⟨fun h => ?_, fun h => ?_⟩
      · have ha : a = 2 := by simpa using h
        refine ⟨n, ⟨.refl _, trivial⟩, rfl, ⟨h0, h1⟩, ?_⟩
        exact ⟨(), trivial, ⟨rfl, rfl⟩, .refl _, .str (by unfold wdS; rw [if_pos ha]; rfl), ⟨.refl _, .refl _, .refl _, .refl _, trivial⟩, trivial⟩
      · have ha : ¬ a = 2 := by simpa using h
        exact ⟨(), trivial, ⟨rfl, rfl⟩, .refl _, .str (by unfold wdS; rw [if_neg ha]), ⟨.refl _, .refl _, .refl _, .refl _, trivial⟩, trivial⟩
    refine ⟨wdS (a, s, n, p), ⟨.refl _, trivial⟩, rfl, hls, ?_⟩
    have e : wdOk (a, s, n, p) = ((tokenF (wdS (a, s, n, p))).2 && decide ((tokenF (wdS (a, s, n, p))).1.1 = a ∧ (tokenF (wdS (a, s, n, p))).1.2.1 = s ∧ (tokenF (wdS (a, s, n, p))).1.2.2.1 = n)) := rfl
    have hb := ba_eq (tokenF (wdS (a, s, n, p))).1.2.1 s
    have fin : ∀ x : Bool, wdOk (a, s, n, p) = x → ∀ y : SV, Sub y (B x) → Sub (.tup [X (wdS (a, s, n, p)), y]) (wdC.res (a, s, n, p) id) := fun x h y hy => by
      show Sub _ (.tup [X (wdS (a, s, n, p)), B (wdOk (a, s, n, p))])
      rw [h]; exact .tup2 (.refl _) hy
    refine ⟨by kernel_rfl, ?_⟩
    refine ⟨fun h1 => ?_, fun h1 => ?_⟩
    · refine ⟨fun h2 => ?_, fun h2 => ?_⟩
      · refine ⟨fun h3 => ?_, fun h3 => ?_⟩
        · have h3 : (((tokenF (wdS (a, s, n, p))).1.2.1).toList == s.toList) = true := h3
          rw [hb] at h3
          exact ⟨fin _ (by rw [e, h1]; simp at h2 h3; simp [h2, h3]; rfl) _ (.refl _), rfl⟩
        · have h3 : (((tokenF (wdS (a, s, n, p))).1.2.1).toList == s.toList) = false := h3
          rw [hb] at h3
          exact ⟨fin false (by rw [e]; simp at h3; simp [h3]) _ .ff, rfl⟩
      · exact ⟨fin false (by rw [e]; simp at h2; simp [h2]) _ .ff, rfl⟩
    · exact ⟨fin false (by rw [e, h1]; rfl) _ .ff, rfl⟩

theorem wd_len {t : Int × ByteArray × Int × Int} (h : wdOk t = true) : (wdS t).length ≤ 20 ∧ 0 < (wdS t).length := by
  have h1 : (tokenF (wdS t)).2 = true := by
    unfold wdOk at h
    cases hc : (tokenF (wdS t)).2 with
    | true => rfl
    | false => rw [hc] at h; cases h
  have h2 : 0 < (wdS t).length := by
    rcases Nat.eq_zero_or_pos (wdS t).length with h3 | h3
    · rw [List.eq_nil_of_length_eq_zero h3, token_nil] at h1; cases h1
    · exact h3
  refine ⟨?_, h2⟩
  unfold tokenF at h1
  cases hn : numF (wdS t) with
  | some n =>
    obtain ⟨e1, e2⟩ := (numF_iff _ _).1 hn
    have := itoa_len e2
    rw [e1] at this; omega
  | none =>
    rw [hn] at h1
    simp only at h1
    by_cases hN : nameF (wdS t) = true
    · unfold nameF at hN
      simp only [Bool.and_eq_true, decide_eq_true_eq] at hN
      omega
    · rw [if_neg hN] at h1
      by_cases hs : (wdS t).length = 1 ∧ isSign ((wdS t).getD 0 0) = true
      · omega
      · rw [if_neg hs] at h1; cases h1
def joinF (l : List (Int × ByteArray × Int × Int)) : List UInt8 × Int := if l.all wdOk then (Lib.join (l.map wdS) [32], 0) else ([], 4)
def ljoinC : Ctr := { A := List (Int × ByteArray × Int × Int), enc := fun l => [.row (Int × ByteArray × Int × Int) 4 tokC tok0 l], dom := fun l => l.length ≤ 100000 ∧ ∀ t ∈ l, okT t, res := fun l id => .tup [.own UInt8 1 byteC 0 (joinF l).1 id, I (joinF l).2], gl := tabs }
theorem lens_le (k : Nat) : ∀ (l : List (List UInt8)), (∀ x ∈ l, x.length ≤ k) → Lib.lens l ≤ k * l.length
  | [], _ => by simp [Lib.lens]
  | x :: l, h => by
    have h1 := h x List.mem_cons_self
    have h2 := lens_le k l (fun y hy => h y (List.mem_cons_of_mem _ hy))
    simp only [Lib.lens, List.map_cons, List.sum_cons, List.length_cons] at *
    rw [Nat.mul_add]; omega
theorem takeT {α : Type} (l : List α) (d : α) (i : Nat) (h : i < l.length) : l.take (i + 1) = l.take i ++ [l.getD i d] := by
  rw [List.take_add_one, List.getElem?_eq_getElem h]
  simp only [List.getD, List.getElem?_eq_getElem h, Option.getD_some, Option.toList_some]
theorem allT {α : Type} (l : List α) (d : α) (p : α → Bool) (i : Nat) (h : i < l.length) : (l.take (i + 1)).all p = ((l.take i).all p && p (l.getD i d)) := by
  rw [takeT l d i h, List.all_append]
  simp only [List.all_cons, List.all_nil, Bool.and_true]
theorem mapT {α β : Type} (l : List α) (d : α) (f : α → β) (i : Nat) (h : i < l.length) : (l.take (i + 1)).map f = (l.take i).map f ++ [f (l.getD i d)] := by
  rw [takeT l d i h, List.map_append]
  rfl
theorem getT_mem {α : Type} (l : List α) (d : α) (i : Nat) (h : i < l.length) : l.getD i d ∈ l := by
  simp only [List.getD, List.getElem?_eq_getElem h, Option.getD_some]; exact List.getElem_mem h
set_option maxRecDepth 100000 in
theorem ljoin_ok : CtrSound Tryd.prog 26 ljoinC :=
  ctr_of_ax (env_okB tys_ok (eqs := []) trivial (cs := [(42, wdC), (43, joinC)]) ⟨wd_ok, join_ok, trivial⟩ (bs := []) trivial (gl := tabs)) mixed _ Tryd.func26 (by kernel_rfl) rfl (fun _ _ => Nat.le_of_ble_eq_true rfl) fun (l : List (Int × ByteArray × Int × Int)) id hd => by
    have hd : l.length ≤ 100000 ∧ ∀ t ∈ l, okT t := hd
    obtain ⟨hl, hok⟩ := hd
    refine ⟨Nat, fun i => [(11, I i), (9, .row (Int × ByteArray × Int × Int) 4 tokC tok0 l), (4, .own (List UInt8) 1 rowsC [] ((l.take i).map wdS) 26), (10, I l.length)], fun _ => [], fun i => i ≤ l.length ∧ (l.take i).all wdOk = true, fun i => l.length - i, ⟨0, ⟨Nat.zero_le _, rfl⟩, ⟨⟨rfl, rfl⟩, .refl _, .refl _, .nilO .., .refl _, trivial⟩⟩, fun (i : Nat) hi => ?_⟩
    have h1 : i ≤ l.length := hi.1
    have h2 : (l.take i).all wdOk = true := hi.2
    have hwj : IntKind.i64.wrap ((i : Int) + 1) = ((i + 1 : Nat) : Int) := by rw [wrap_eq _ (by omega) (by omega)]; omega
    refine ⟨fun h => ?_, fun h => ?_⟩
    · have hlt : i < l.length := by have := of_decide_eq_true h; omega
      refine ⟨by omega, ?_⟩
      refine ⟨l.getD i tok0, ⟨.refl _, trivial⟩, rfl, hok _ (getT_mem l tok0 i hlt), ?_⟩
      refine ⟨fun h3 => ?_, fun h3 => ?_⟩
      · have h3 : wdOk (l.getD i tok0) = false := by have h3 : (!wdOk (l.getD i tok0)) = true := h3
                                                     exact Bool.not_eq_true' _ ▸ h3
        have e : joinF l = ([], 4) := by
          unfold joinF
          rw [if_neg]
          intro c
          have := List.all_eq_true.1 c _ (getT_mem l tok0 i hlt)
          rw [h3] at this; cases this
        exact ⟨(show Sub _ (.tup [.own UInt8 1 byteC 0 (joinF l).1 id, I (joinF l).2]) by rw [e]; exact .tup2 (.nilO ..) (.refl _)), rfl⟩
      · have h3 : wdOk (l.getD i tok0) = true := by have h3 : (!wdOk (l.getD i tok0)) = false := h3
                                                    exact Bool.not_eq_false' _ ▸ h3
        refine ⟨List UInt8, rowsC, [], [wdS (l.getD i tok0)], ⟨rfl, fun _ => rfl⟩, ⟨.refl _, trivial⟩, rfl, ?_⟩
        refine ⟨List UInt8, rowsC, [], (l.take i).map wdS, [wdS (l.getD i tok0)], 26, ⟨.refl _, .own ..⟩, fun _ => rfl, (by simp only [List.length_cons, List.length_nil, List.length_map, List.length_take]; omega), ?_⟩
        exact ⟨i + 1, ⟨hlt, by rw [allT _ tok0 _ _ hlt, h2, h3]; rfl⟩, by show l.length - (i + 1) < l.length - i; omega, ⟨rfl, rfl⟩, .int hwj, .refl _, .ownEq (mapT _ tok0 _ _ hlt).symm, .refl _, trivial⟩
    · have hge : i = l.length := by have := of_decide_eq_false h; omega
      have ht : l.take i = l := by rw [hge]; exact List.take_length
      rw [ht] at h2
      have e : joinF l = (Lib.join (l.map wdS) [32], 0) := if_pos h2
      refine ⟨UInt8, byteC, 0, [32], ⟨rfl, fun _ => rfl⟩, ⟨.refl _, trivial⟩, rfl, ?_⟩
      have hb := lens_le 20 (l.map wdS) (fun x hx => by
        obtain ⟨t, ht, rfl⟩ := List.mem_map.1 hx
        exact (wd_len (List.all_eq_true.1 h2 t ht)).1)
      simp only [List.length_map] at hb
      refine ⟨(l.map wdS, [32]), ⟨.ownRow (by rw [ht]), .own .., trivial⟩, rfl, (show (l.map wdS).length ≤ 1000000 ∧ Lib.lens (l.map wdS) + [(32 : UInt8)].length * ((l.map wdS).length - 1) ≤ 140737488355328 by simp only [List.length_map, List.length_singleton]; omega), ?_⟩
      exact ⟨(show Sub _ (.tup [.own UInt8 1 byteC 0 (joinF l).1 id, I (joinF l).2]) by rw [e]; exact .tup2 (.refl _) (.refl _)), rfl⟩
end Go.Proofs.YtimhbimpaiiceaaDoor.Ax
/- Layer lex by the logic: what the statements look at. -/
set_option linter.unusedVariables false
set_option linter.unusedSimpArgs false
namespace Go.Proofs.YtimhbimpaiiceaaDoor.Ax
open Go Go.RowKit
theorem dlt {a b : Nat} (h : decide ((a : Int) < (b : Int)) = true) : a < b := by have := of_decide_eq_true h; omega
theorem dge {a b : Nat} (h : decide ((a : Int) < (b : Int)) = false) : b ≤ a := by have := of_decide_eq_false h; omega
theorem lneT {a b : Nat} (h : ((a : Int) != (b : Int)) = true) : a ≠ b := by simp at h; omega
theorem lneF {a b : Nat} (h : ((a : Int) != (b : Int)) = false) : a = b := by simp at h; omega
theorem ext_getD {α : Type} (d : α) : ∀ {k l : List α}, k.length = l.length → (∀ j, j < k.length → k.getD j d = l.getD j d) → k = l
  | [], [], _, _ => rfl
  | [], _ :: _, h, _ => by simp at h
  | _ :: _, [], h, _ => by simp at h
  | x :: k, y :: l, h, hj => by
    have h0 : x = y := by simpa using hj 0 (by simp)
    rw [h0, ext_getD d (k := k) (l := l) (by simpa using h) (fun j hlt => by simpa using hj (j + 1) (by simpa using hlt))]
def keepR (T : Type) [DecidableEq T] (sz : Nat) (cs : T → List SV) (d : T) : Ctr := { A := List T × List T, enc := fun x => [.row T sz cs d x.1, .row T sz cs d x.2], dom := fun x => x.1.length ≤ 4611686018427387904, res := fun x _ => B (decide (x.1 = x.2)) }
theorem tok_eq : EqSound Tryd.prog 82 (flatC (Int × ByteArray × Int × Int) tokC) :=
  eq_flat [.int .i64, .str, .int .i64, .int .i64] _ tokC Tryd.underlying82 (by kernel_rfl) (by kernel_rfl) (by kernel_rfl) (fun _ => rfl)
theorem tok_dec (a b : Int × ByteArray × Int × Int) : cellsEq (tokC a) (tokC b) = decide (a = b) := by
  obtain ⟨a1, a2, a3, a4⟩ := a
  obtain ⟨b1, b2, b3, b4⟩ := b
  rw [Bool.eq_iff_iff]
  simp [tokC, cellsEq, cellEq, ba_eq]
def twinC : Ctr := { A := List UInt8, enc := fun l => [.row UInt8 1 byteC 0 l], dom := fun l => l.length ≤ 140737488355328, res := fun l id => .own UInt8 1 byteC 0 l id }
theorem twin_ok : CtrSound Tryd.prog 17 twinC :=
  ctr_of_ax (env_ok tys_ok (eqs := []) trivial (cs := []) trivial) mixed _ Tryd.func17 (by kernel_rfl) rfl (fun _ _ => Nat.le_of_ble_eq_true rfl) fun (l : List UInt8) id hd => by
    have hd : l.length ≤ 140737488355328 := hd
    refine ⟨UInt8, byteC, 0, [], l, 0, ⟨.nilO .., .refl _⟩, fun _ => rfl, (by simp only [List.length_nil]; omega), ?_⟩
    exact ⟨.ownEq (by simp), rfl⟩
def wakesC : Ctr := { A := Unit, enc := fun _ => [], dom := fun _ => True, res := fun _ _ => .tt, gl := tabs }
theorem w1 : (scanF [97, 45, 49, 32, 123]).2 = (0, 0) := by decide +kernel
theorem w2 : (scanF [97, 32, 48, 49]).2 = (2, 3) := by decide +kernel
theorem w3 : (scanF [97, 45, 49, 32, 123]).1.length = 3 := by decide +kernel
theorem w4 : ((scanF [97, 45, 49, 32, 123]).1.getD 1 tok0).2.2.1 = -1 := by decide +kernel
theorem w5 : ((scanF [97, 45, 49, 32, 123]).1.getD 2 tok0).2.2.2 = 4 := by decide +kernel
theorem w6 : nameF [95, 97, 49] = true := by decide +kernel
theorem w7 : nameF [49, 97] = false := by decide +kernel
end Go.Proofs.YtimhbimpaiiceaaDoor.Ax
/- Twins of programs: in memory of their own. -/
set_option linter.unusedVariables false
set_option linter.unusedSimpArgs false
namespace Go.Proofs.YtimhbimpaiiceaaDoor.Ax
open Go Go.RowKit
theorem Sub.agg1T {a b : SV} (h : Sub a b) : Sub (.agg [a]) (.agg [b]) := .agg _ _ rfl fun j hj => by
  obtain rfl : j = 0 := by simpa using hj
  exact h
def twTyC : Ctr := { A := List Ty, enc := fun l => [.row Ty 2 tyC ty0 l], dom := fun l => l.length ≤ 100000, res := fun l _ => .row Ty 2 tyC ty0 l }
theorem twTy_ok : CtrSound Tryd.prog 67 twTyC :=
  ctr_of_ax (env_ok tys_ok (eqs := []) trivial (cs := []) trivial) mixed _ Tryd.func67 (by kernel_rfl) rfl (fun _ _ => Nat.le_of_ble_eq_true rfl) fun (l : List Ty) id hd => by
    have hd : l.length ≤ 100000 := hd
    refine ⟨Ty, tyC, ty0, [], l, 0, ⟨.nilO .., .refl _⟩, fun _ => rfl, (by simp only [List.length_nil]; omega), ?_⟩
    exact ⟨.ownRow (by simp), rfl⟩
def tmD (m : Meth) : Prop := m.params.length ≤ 100000 ∧ m.code.length ≤ 100000 ∧ m.catches.length ≤ 100000
def tcD (c : Cls) : Prop := c.ifaces.length ≤ 100000 ∧ c.fields.length ≤ 100000 ∧ c.methods.length ≤ 100000 ∧ ∀ m ∈ c.methods, tmD m
def tpD (p : List Cls) : Prop := p.length ≤ 100000 ∧ ∀ c ∈ p, tcD c
def twMC : Ctr := { A := Meth, enc := fun m => [.agg (methC m)], dom := tmD, res := fun m _ => .agg (methC m) }
set_option maxRecDepth 100000 in
theorem twM_ok : CtrSound Tryd.prog 55 twMC :=
  ctr_of_ax (env_ok tys_ok (eqs := []) trivial (cs := [(67, twTyC)]) ⟨twTy_ok, trivial⟩) mixed _ Tryd.func55 (by kernel_rfl) rfl (fun _ _ => Nat.le_of_ble_eq_true rfl) fun (m : Meth) id hd => by
    obtain ⟨h1, h2, h3⟩ : tmD m := hd
    refine ⟨by kernel_rfl, ?_⟩
    refine ⟨m.params, ⟨.refl _, trivial⟩, rfl, h1, ?_⟩
    refine ⟨Ins, insC, ins0, [], m.code, 0, ⟨.nilO .., .refl _⟩, fun _ => rfl, (by simp only [List.length_nil]; omega), ?_⟩
    refine ⟨Cat, catC, cat0, [], m.catches, 0, ⟨.nilO .., .refl _⟩, fun _ => rfl, (by simp only [List.length_nil]; omega), ?_⟩
    exact ⟨.agg _ _ rfl fun j hj => by match j, hj with | 0, _ => exact .refl _ | 1, _ => exact .refl _ | 2, _ => exact .refl _ | 3, _ => exact .refl _ | 4, _ => exact .refl _ | 5, _ => exact .refl _ | 6, _ => exact .refl _ | 7, _ => exact .ownRow (by simp) | 8, _ => exact .ownRow (by simp), rfl⟩
def twCC : Ctr := { A := Cls, enc := fun c => [.agg (clsC c)], dom := tcD, res := fun c _ => .agg (clsC c) }
set_option maxRecDepth 100000 in
theorem twC_ok : CtrSound Tryd.prog 36 twCC :=
  ctr_of_ax (env_ok tys_ok (eqs := []) trivial (cs := [(55, twMC)]) ⟨twM_ok, trivial⟩) mixed _ Tryd.func36 (by kernel_rfl) rfl (fun _ _ => Nat.le_of_ble_eq_true rfl) fun (c : Cls) id hd => by
    obtain ⟨h1, h2, h3, h4⟩ : tcD c := hd
    refine ⟨by kernel_rfl, ?_⟩
    refine ⟨ByteArray, strC, noS, [], c.ifaces, 0, ⟨.nilO .., .refl _⟩, fun _ => rfl, (by simp only [List.length_nil]; omega), ?_⟩
    refine ⟨Fld, fldC, fld0, [], c.fields, 0, ⟨.nilO .., .refl _⟩, fun _ => rfl, (by simp only [List.length_nil]; omega), ?_⟩
    refine ⟨Nat, fun i => [(1, .box 1 0), (2, .box 2 0), (5, .own Meth 9 methC meth0 (c.methods.take i) 32), (6, I i)], fun _ => [(1, [S c.name, B c.iface, S c.super, .row ByteArray 1 strC noS c.ifaces, .row Fld 4 fldC fld0 c.fields, .row Meth 9 methC meth0 c.methods]), (2, clsC cls0)], fun i => i ≤ c.methods.length, fun i => c.methods.length - i,
      ⟨0, Nat.zero_le _, ⟨⟨rfl, rfl⟩, .refl _, .nilO .., .refl _, .refl _, ⟨.refl _, .refl _, .refl _, .ownRow (by simp), .ownRow (by simp), .refl _, trivial⟩, ⟨.refl _, .refl _, .refl _, .nil .., .nil .., .nil .., trivial⟩, trivial⟩⟩, fun (i : Nat) hi => ?_⟩
    have hi : i ≤ c.methods.length := hi
    have hwj : IntKind.i64.wrap ((i : Int) + 1) = ((i + 1 : Nat) : Int) := by rw [wrap_eq _ (by omega) (by omega)]; omega
    refine ⟨fun h => ?_, fun h => ?_⟩
    · have hlt : i < c.methods.length := dlt h
      refine ⟨⟨by omega, by omega⟩, ?_⟩
      refine ⟨c.methods.getD i meth0, ⟨.refl _, trivial⟩, rfl, h4 _ (getT_mem _ _ _ hlt), ?_⟩
      refine ⟨Meth, methC, meth0, [c.methods.getD i meth0], ⟨rfl, fun _ => rfl⟩, ⟨.refl _, .refl _, .refl _, .refl _, .refl _, .refl _, .refl _, .refl _, .refl _, trivial⟩, rfl, ?_⟩
      refine ⟨Meth, methC, meth0, c.methods.take i, [c.methods.getD i meth0], 32, ⟨.refl _, .own ..⟩, fun _ => rfl, (by simp only [List.length_take, List.length_singleton]; omega), ?_⟩
      exact ⟨i + 1, hlt, by show c.methods.length - (i + 1) < c.methods.length - i; omega, ⟨rfl, rfl⟩, .refl _, .ownEq (by rw [takeT _ meth0 _ hlt]), .refl _, .int hwj, ⟨.refl _, .refl _, .refl _, .refl _, .refl _, .refl _, trivial⟩, ⟨.refl _, .refl _, .refl _, .refl _, .refl _, .refl _, trivial⟩, trivial⟩
    · have hge : i = c.methods.length := Nat.le_antisymm hi (dge h)
      exact ⟨.agg _ _ rfl fun j hj => by match j, hj with | 0, _ => exact .refl _ | 1, _ => exact .refl _ | 2, _ => exact .refl _ | 3, _ => exact .refl _ | 4, _ => exact .refl _ | 5, _ => exact .ownRow (by rw [hge, List.take_length]), rfl⟩
def twPC : Ctr := { A := List Cls, enc := fun p => [.agg [prgR p]], dom := tpD, res := fun p id => .agg [.own Cls 6 clsC cls0 p id] }
set_option maxRecDepth 100000 in
theorem twP_ok : CtrSound Tryd.prog 19 twPC :=
  ctr_of_ax (env_ok tys_ok (eqs := []) trivial (cs := [(36, twCC)]) ⟨twC_ok, trivial⟩) mixed _ Tryd.func19 (by kernel_rfl) rfl (fun _ _ => Nat.le_of_ble_eq_true rfl) fun (p : List Cls) id hd => by
    obtain ⟨h1, h2⟩ : tpD p := hd
    refine ⟨Nat, fun i => [(1, .box 1 0), (2, .box 2 0), (3, .box 3 0), (4, I i)], fun i => [(1, [prgR p]), (3, [.own Cls 6 clsC cls0 (p.take i) 21]), (2, [prgR []])], fun i => i ≤ p.length, fun i => p.length - i,
      ⟨0, Nat.zero_le _, ⟨⟨rfl, rfl⟩, .refl _, .refl _, .refl _, .refl _, ⟨.refl _, trivial⟩, ⟨.nilO .., trivial⟩, ⟨.nil .., trivial⟩, trivial⟩⟩, fun (i : Nat) hi => ?_⟩
    have hi : i ≤ p.length := hi
    have hwj : IntKind.i64.wrap ((i : Int) + 1) = ((i + 1 : Nat) : Int) := by rw [wrap_eq _ (by omega) (by omega)]; omega
    refine ⟨fun h => ?_, fun h => ?_⟩
    · have hlt : i < p.length := dlt h
      refine ⟨by kernel_rfl, ?_⟩
      refine ⟨⟨by omega, by omega⟩, ?_⟩
      refine ⟨p.getD i cls0, ⟨.refl _, trivial⟩, rfl, h2 _ (getT_mem _ _ _ hlt), ?_⟩
      refine ⟨Cls, clsC, cls0, [p.getD i cls0], ⟨rfl, fun _ => rfl⟩, ⟨.refl _, .refl _, .refl _, .refl _, .refl _, .refl _, trivial⟩, rfl, ?_⟩
      refine ⟨Cls, clsC, cls0, p.take i, [p.getD i cls0], 21, ⟨.refl _, .own ..⟩, fun _ => rfl, (by simp only [List.length_take, List.length_singleton]; omega), ?_⟩
      exact ⟨i + 1, hlt, by show p.length - (i + 1) < p.length - i; omega, ⟨rfl, rfl⟩, .refl _, .refl _, .refl _, .int hwj, ⟨.refl _, trivial⟩, ⟨.ownEq (by rw [takeT _ cls0 _ hlt]), trivial⟩, ⟨.refl _, trivial⟩, trivial⟩
    · have hge : i = p.length := Nat.le_antisymm hi (dge h)
      exact ⟨.agg1T (.ownEq (by rw [hge, List.take_length])), rfl⟩
end Go.Proofs.YtimhbimpaiiceaaDoor.Ax
/- Layer parse: a reader goes on, and ends. -/
set_option linter.unusedVariables false
set_option linter.unusedSimpArgs false
namespace Go.Proofs.YtimhbimpaiiceaaDoor.Ax
open Go Go.RowKit
/-- One reader behind another: no further than to the words' end; not on behind what is wrong. -/
structure Fwd (r r' : Rs) : Prop where
  L : r'.L = r.L
  n : r'.n = r.n
  le : r.i ≤ r'.i
  bd : r'.i ≤ r.L.length ∨ r'.i = r.i
  err : r.e ≠ 0 → r' = r
namespace Fwd
theorem refl (r : Rs) : Fwd r r := ⟨rfl, rfl, Nat.le_refl _, .inr rfl, fun _ => rfl⟩
theorem trans {a b c : Rs} (h : Fwd a b) (k : Fwd b c) : Fwd a c := by
  refine ⟨k.L.trans h.L, k.n.trans h.n, Nat.le_trans h.le k.le, ?_, fun he => ?_⟩
  · have h1 := h.bd; have h2 := k.bd; have h3 := h.le; have h4 := k.le
    rw [h.L] at h2
    omega
  · have := h.err he
    subst this
    exact k.err he
theorem ok {a b : Rs} (h : Fwd a b) (k : a.i ≤ a.L.length) : b.i ≤ b.L.length := by
  have := h.bd
  rw [h.L]; omega
theorem good {a b : Rs} (h : Fwd a b) (k : b.e = 0) : a.e = 0 := Classical.byContradiction fun c => c (by have := h.err c; subst this; exact k)
end Fwd
namespace Rs
theorem next_none {r : Rs} (h : ¬ (r.e = 0 ∧ r.i < r.L.length)) : r.next = tok0 := if_neg h
theorem next_some {r : Rs} (h : r.e = 0 ∧ r.i < r.L.length) : r.next = r.L.getD r.i tok0 := if_pos h
theorem is_at {r : Rs} {w : ByteArray} (h : r.is w = true) : r.e = 0 ∧ r.i < r.L.length := by
  refine Classical.byContradiction fun c => ?_
  unfold is at h
  rw [next_none c] at h
  simp at h
  exact h.2 h.1.symm
theorem free_at {r : Rs} (h : r.free = true) : r.e = 0 ∧ r.i < r.L.length := by
  refine Classical.byContradiction fun c => ?_
  unfold free at h
  rw [next_none c] at h
  simp at h
theorem num_at {r : Rs} {lo hi : Int} (h : r.numOk lo hi = true) : r.e = 0 ∧ r.i < r.L.length := by
  refine Classical.byContradiction fun c => ?_
  unfold numOk at h
  rw [next_none c] at h
  simp at h
theorem isOp_at {r : Rs} (h : r.isOp = true) : r.e = 0 ∧ r.i < r.L.length := by
  refine Classical.byContradiction fun c => ?_
  unfold isOp at h
  rw [next_none c] at h
  simp at h
theorem fail_fwd (r : Rs) (e : Int) : Fwd r (r.fail e) := by
  unfold fail
  split
  · rename_i h; exact ⟨rfl, rfl, Nat.le_refl _, .inr rfl, fun c => absurd h c⟩
  · exact .refl _
theorem fail_e (r : Rs) {e : Int} (h : e ≠ 0) : (r.fail e).e ≠ 0 := by
  unfold fail
  split
  · exact h
  · assumption
theorem step_fwd {r : Rs} (h : r.e = 0 ∧ r.i < r.L.length) : Fwd r r.step := ⟨rfl, rfl, Nat.le_succ _, .inl h.2, fun c => absurd h.1 c⟩
theorem take_fwd (r : Rs) (w : ByteArray) : Fwd r (r.take w) := by
  unfold take
  split
  · exact step_fwd (is_at (by assumption))
  · exact .refl _
theorem want_fwd (r : Rs) (w : ByteArray) : Fwd r (r.want w) := by
  unfold want
  split
  · exact step_fwd (is_at (by assumption))
  · exact fail_fwd _ _
theorem fresh_fwd (r : Rs) : Fwd r r.fresh := by
  unfold fresh
  split
  · exact step_fwd (free_at (by assumption))
  · exact fail_fwd _ _
theorem num_fwd (r : Rs) (lo hi : Int) : Fwd r (r.num lo hi) := by
  unfold num
  split
  · exact step_fwd (num_at (by assumption))
  · exact fail_fwd _ _
theorem room_fwd (r : Rs) (a b : Int) : Fwd r (r.room a b) := by
  unfold room
  split
  · exact fail_fwd _ _
  · exact .refl _
theorem name1_fwd {r : Rs} (h : r.e = 0 ∧ r.i < r.L.length) (k : Int) : Fwd r (r.name1 k) := by
  unfold name1
  split
  · exact (step_fwd h).trans (room_fwd _ _ _)
  · exact step_fwd h
theorem namesL_fwd : ∀ (f : Nat) (r : Rs) (out : List ByteArray), Fwd r (namesL f r out).2
  | 0, r, out => .refl _
  | f + 1, r, out => by
    unfold namesL
    split
    · exact ((name1_fwd (is_at (by assumption)) _).trans (fresh_fwd _)).trans (namesL_fwd f _ _)
    · exact .refl _
theorem names_fwd (r : Rs) : Fwd r r.names.2 := (fresh_fwd r).trans (namesL_fwd _ _ _)
theorem rowR_fwd (r : Rs) : Fwd r r.rowR := by
  unfold rowR
  split
  · exact (step_fwd (is_at (by assumption))).trans (want_fwd _ _)
  · exact .refl _
theorem kind_fwd (r : Rs) : Fwd r r.kind := by
  unfold kind
  split
  · exact step_fwd (is_at (by assumption))
  · split
    · exact (step_fwd (is_at (by assumption))).trans (rowR_fwd _)
    · exact (fresh_fwd r).trans (rowR_fwd _)
theorem param1_fwd {r : Rs} (h : r.e = 0 ∧ r.i < r.L.length) (k : Int) : Fwd r (r.param1 k) := by
  unfold param1
  split
  · exact (step_fwd h).trans (room_fwd _ _ _)
  · exact step_fwd h
theorem paramsL_fwd : ∀ (f : Nat) (r : Rs) (out : List Ty), Fwd r (paramsL f r out).2
  | 0, r, out => .refl _
  | f + 1, r, out => by
    unfold paramsL
    split
    · exact ((param1_fwd (is_at (by assumption)) _).trans (kind_fwd _)).trans (paramsL_fwd f _ _)
    · exact .refl _
theorem params_fwd (r : Rs) : Fwd r r.params.2 := by
  unfold params
  split
  · exact (want_fwd r _).trans (step_fwd (is_at (by assumption)))
  · exact (((want_fwd r _).trans (kind_fwd _)).trans (paramsL_fwd _ _ _)).trans (want_fwd _ _)
theorem in1_fwd (r : Rs) (k : Int) : Fwd r (r.in1 k) := (room_fwd r k _).trans (want_fwd _ _)
theorem in2_fwd (r : Rs) (o : Int) : Fwd r (r.in2 o) := by
  unfold in2
  split
  · exact num_fwd _ _ _
  · exact .refl _
theorem in3_fwd (r : Rs) (b : Bool) : Fwd r (r.in3 b) := by
  unfold in3
  split
  · exact fresh_fwd _
  · exact .refl _
theorem inArgs_fwd (r : Rs) (o : Int) : Fwd r (r.inArgs o) := ((in2_fwd r o).trans (in3_fwd _ _)).trans (in3_fwd _ _)
theorem instr_fwd (r : Rs) (k : Int) : Fwd r (r.instr k).2 := ((in1_fwd r k).trans (inArgs_fwd _ _)).trans (want_fwd _ _)
theorem codeL_fwd : ∀ (f : Nat) (r : Rs) (out : List Ins), Fwd r (codeL f r out).2
  | 0, r, out => .refl _
  | f + 1, r, out => by
    unfold codeL
    split
    · exact (instr_fwd _ _).trans (codeL_fwd f _ _)
    · exact .refl _
theorem ca1_fwd (r : Rs) (k : Int) : Fwd r (r.ca1 k) := (room_fwd r k _).trans (want_fwd _ _)
theorem catR_fwd (r : Rs) : Fwd r r.catR := ((((fresh_fwd r).trans (num_fwd _ _ _)).trans (num_fwd _ _ _)).trans (num_fwd _ _ _)).trans (want_fwd _ _)
theorem catchL_fwd : ∀ (f : Nat) (r : Rs) (out : List Cat), Fwd r (catchL f r out).2
  | 0, r, out => .refl _
  | f + 1, r, out => by
    unfold catchL
    split
    · exact ((ca1_fwd _ _).trans (catR_fwd _)).trans (catchL_fwd f _ _)
    · exact .refl _
theorem bo1_fwd (r : Rs) : Fwd r r.bo1 := ((want_fwd r _).trans (num_fwd _ _ _)).trans (want_fwd _ _)
theorem boCode_fwd (r : Rs) : Fwd r r.boCode.2 := (bo1_fwd r).trans (codeL_fwd _ _ _)
theorem boCat_fwd (r : Rs) : Fwd r r.boCat.2 := (boCode_fwd r).trans (catchL_fwd _ _ _)
theorem body_fwd (r : Rs) : Fwd r r.body := (boCat_fwd r).trans (want_fwd _ _)
theorem mfR_fwd (r : Rs) : Fwd r r.mfR := (((fresh_fwd r).trans (want_fwd _ _)).trans (kind_fwd _)).trans (want_fwd _ _)
theorem mm1_fwd (r : Rs) : Fwd r r.mm1 := ((fresh_fwd r).trans (params_fwd _)).trans (kind_fwd _)
theorem mmR_fwd (r : Rs) : Fwd r r.mmR := by
  unfold mmR
  split
  · exact (mm1_fwd r).trans (step_fwd (is_at (by assumption)))
  · exact (mm1_fwd r).trans (body_fwd _)
theorem memF_fwd (r : Rs) (k : Int) : Fwd r (r.memF k) := (room_fwd r k _).trans (want_fwd _ _)
theorem member_fwd (r : Rs) (c : Cls) : Fwd r (r.member c).2 := by
  unfold member
  split
  · exact (memF_fwd r _).trans (mfR_fwd _)
  · split
    · exact (memF_fwd r _).trans (mmR_fwd _)
    · exact fail_fwd _ _
theorem clsL_fwd : ∀ (f : Nat) (r : Rs) (c : Cls), Fwd r (clsL f r c).2
  | 0, r, c => .refl _
  | f + 1, r, c => by
    unfold clsL
    split
    · split
      · exact step_fwd (is_at (by assumption))
      · exact (member_fwd _ _).trans (clsL_fwd f _ _)
    · exact .refl _
theorem cl1_fwd (r : Rs) (k : Int) : Fwd r (r.cl1 k) := by
  unfold cl1
  split
  · exact (room_fwd _ _ _).trans (want_fwd _ _)
  · exact want_fwd _ _
theorem ex1_fwd (r : Rs) (b : Bool) : Fwd r (r.ex1 b).2 := by
  unfold ex1
  split
  · split
    · exact (step_fwd (is_at (by assumption))).trans (names_fwd _)
    · exact (step_fwd (is_at (by assumption))).trans (fresh_fwd _)
  · exact .refl _
theorem ex2_fwd (r : Rs) (b : Bool) (l : List ByteArray) : Fwd r (r.ex2 b l).2 := by
  unfold ex2
  split
  · rename_i h
    rw [Bool.and_eq_true] at h
    exact (step_fwd (is_at h.2)).trans (names_fwd _)
  · exact .refl _
theorem clR_fwd (r : Rs) (k : Int) : Fwd r (r.clR k) := ((((cl1_fwd r k).trans (fresh_fwd _)).trans (ex1_fwd _ _)).trans (ex2_fwd _ _ _)).trans (want_fwd _ _)
theorem class_fwd (r : Rs) (k : Int) : Fwd r (r.class' k).2 := (clR_fwd r k).trans (clsL_fwd _ _ _)
theorem prgL_fwd : ∀ (f : Nat) (r : Rs) (out : List Cls), Fwd r (prgL f r out).2
  | 0, r, out => .refl _
  | f + 1, r, out => by
    unfold prgL
    split
    · exact (class_fwd _ _).trans (prgL_fwd f _ _)
    · exact .refl _

/-- what takes a word, or finds something wrong, needs fewer rounds -/
theorem need_lt {r r' : Rs} (h : r.e = 0 ∧ r.i < r.L.length) (hf : Fwd r r') (hp : r'.e ≠ 0 ∨ r.i < r'.i) : r'.need < r.need := by
  unfold need
  rw [if_pos h.1]
  have h1 := h.2
  have h2 := hf.le
  split
  · rw [hf.L]
    rcases hp with hp | hp
    · rename_i c; exact absurd c hp
    · omega
  · omega
theorem need_pos (r : Rs) : 0 < r.need := by
  unfold need
  split <;> omega
theorem want_on (r : Rs) (w : ByteArray) : (r.want w).e ≠ 0 ∨ r.i < (r.want w).i := by
  unfold want
  split
  · exact .inr (Nat.lt_succ_self _)
  · exact .inl (fail_e _ (by decide))
theorem fresh_on (r : Rs) : r.fresh.e ≠ 0 ∨ r.i < r.fresh.i := by
  unfold fresh
  split
  · exact .inr (Nat.lt_succ_self _)
  · exact .inl (fail_e _ (by decide))
theorem on_fwd {a b c : Rs} (h : b.e ≠ 0 ∨ a.i < b.i) (hf : Fwd b c) : c.e ≠ 0 ∨ a.i < c.i := by
  rcases h with h | h
  · left
    rw [hf.err h]; exact h
  · exact .inr (Nat.lt_of_lt_of_le h hf.le)
theorem fwd_on {a b c : Rs} (hf : Fwd a b) (h : c.e ≠ 0 ∨ b.i < c.i) : c.e ≠ 0 ∨ a.i < c.i := by
  rcases h with h | h
  · exact .inl h
  · exact .inr (Nat.lt_of_le_of_lt hf.le h)
theorem name1_on (r : Rs) (k : Int) : (r.name1 k).e ≠ 0 ∨ r.i < (r.name1 k).i := by
  have h0 : r.step.e ≠ 0 ∨ r.i < r.step.i := .inr (Nat.lt_succ_self _)
  unfold name1
  split
  · exact on_fwd h0 (room_fwd _ _ _)
  · exact h0
theorem param1_on (r : Rs) (k : Int) : (r.param1 k).e ≠ 0 ∨ r.i < (r.param1 k).i := by
  have h0 : r.step.e ≠ 0 ∨ r.i < r.step.i := .inr (Nat.lt_succ_self _)
  unfold param1
  split
  · exact on_fwd h0 (room_fwd _ _ _)
  · exact h0
theorem instr_on (r : Rs) (k : Int) : (r.instr k).2.e ≠ 0 ∨ r.i < (r.instr k).2.i :=
  on_fwd (on_fwd (fwd_on (room_fwd r k 48) (want_on _ _)) (inArgs_fwd _ _)) (want_fwd _ _)
theorem catch_on (r : Rs) (k : Int) : (r.ca1 k).catR.e ≠ 0 ∨ r.i < (r.ca1 k).catR.i := on_fwd (fwd_on (room_fwd r k 4) (want_on _ _)) (catR_fwd _)
theorem member_on (r : Rs) (c : Cls) : (r.member c).2.e ≠ 0 ∨ r.i < (r.member c).2.i := by
  unfold member
  split
  · exact on_fwd (fwd_on (room_fwd r _ 6) (want_on _ _)) (mfR_fwd _)
  · split
    · exact on_fwd (fwd_on (room_fwd r _ 6) (want_on _ _)) (mmR_fwd _)
    · exact .inl (fail_e _ (by decide))
theorem cl1_on (r : Rs) (k : Int) : (r.cl1 k).e ≠ 0 ∨ r.i < (r.cl1 k).i := by
  unfold cl1
  split
  · exact fwd_on (room_fwd _ _ _) (want_on _ _)
  · exact want_on _ _
theorem class_on (r : Rs) (k : Int) : (r.class' k).2.e ≠ 0 ∨ r.i < (r.class' k).2.i :=
  on_fwd (on_fwd (cl1_on r k) ((((fresh_fwd _).trans (ex1_fwd _ _)).trans (ex2_fwd _ _ _)).trans (want_fwd _ _))) (clsL_fwd _ _ _)
end Rs
end Go.Proofs.YtimhbimpaiiceaaDoor.Ax
/- Words behind each other are scanned as these words. -/
set_option linter.unusedVariables false
set_option linter.unusedSimpArgs false
namespace Go.Proofs.YtimhbimpaiiceaaDoor.Ax
open Go Go.RowKit
theorem dd_cons (u : Nat) : ∃ b r, Lib.decDigits u = b :: r ∧ isDig b = true ∧ r.all isAl = true := by
  obtain ⟨b, r, h, hb⟩ := dd_head u
  refine ⟨b, r, h, hb, ?_⟩
  rw [List.all_eq_true]
  intro x hx
  have := dd_dig u x (by rw [h]; exact List.mem_cons_of_mem _ hx)
  simp [isAl, this]
theorem itoa_form (n : Int) : (∃ b r, Lib.itoa n = b :: r ∧ isDig b = true ∧ r.all isAl = true) ∨ (∃ b r, Lib.itoa n = 45 :: b :: r ∧ isDig b = true ∧ r.all isAl = true) := by
  unfold Lib.itoa
  split
  · obtain ⟨b, r, h, hb, hr⟩ := dd_cons n.natAbs
    exact .inr ⟨b, r, by rw [h], hb, hr⟩
  · exact .inl (dd_cons n.toNat)
theorem let_not {c : UInt8} (h : isLet c = true) : isBlank c = false ∧ isSign c = false ∧ c ≠ 45 ∧ isDig c = false ∧ isAl c = true := by
  have h' := h
  simp only [isLet, decide_eq_true_eq] at h'
  refine ⟨?_, ?_, ?_, ?_, by simp [isAl, h]⟩
  · rw [blank_eq]; simp; omega
  · rw [sign_eq]; simp; omega
  · rintro rfl; simp at h'
  · simp [isDig]; omega
theorem dig_not {c : UInt8} (h : isDig c = true) : isBlank c = false ∧ isSign c = false ∧ c ≠ 45 ∧ isLet c = false ∧ isAl c = true := by
  have h' := h
  simp only [isDig, decide_eq_true_eq] at h'
  refine ⟨?_, ?_, ?_, ?_, by simp [isAl, h]⟩
  · rw [blank_eq]; simp; omega
  · rw [sign_eq]; simp; omega
  · rintro rfl; simp at h'
  · simp [isLet]; omega
theorem sign_not {c : UInt8} (h : isSign c = true) : isBlank c = false ∧ isAl c = false := by
  rw [sign_eq] at h
  simp only [decide_eq_true_eq] at h
  refine ⟨?_, ?_⟩
  · rw [blank_eq]; simp; omega
  · simp [isAl, isLet, isDig]; omega
theorem blank_not {c : UInt8} (h : isBlank c = true) : isAl c = false ∧ isSign c = false := by
  rw [blank_eq] at h
  simp only [decide_eq_true_eq] at h
  refine ⟨?_, ?_⟩
  · simp [isAl, isLet, isDig]; omega
  · rw [sign_eq]; simp; omega
theorem name_form {l : List UInt8} : nameF l = true ↔ ∃ c r, l = c :: r ∧ isLet c = true ∧ r.all isAl = true ∧ l.length ≤ 20 := by
  constructor
  · intro h
    cases l with
    | nil => simp [nameF] at h
    | cons c r =>
      simp only [nameF, Bool.and_eq_true, decide_eq_true_eq, List.getD_cons_zero, List.all_cons] at h
      exact ⟨c, r, rfl, h.1.2, h.2.2, h.1.1.2⟩
  · rintro ⟨c, r, rfl, h1, h2, h3⟩
    simp only [nameF, Bool.and_eq_true, decide_eq_true_eq, List.getD_cons_zero, List.all_cons]
    exact ⟨⟨⟨by simp, h3⟩, h1⟩, (let_not h1).2.2.2.2, h2⟩
theorem name_not_num {l : List UInt8} (h : nameF l = true) : numF l = none := by
  rw [numF_none]
  rintro n ⟨e, -⟩
  obtain ⟨c, r, rfl, h1, -, -⟩ := name_form.1 h
  rcases itoa_form n with ⟨b, q, h2, h3, -⟩ | ⟨b, q, h2, h3, -⟩ <;> rw [e] at h2 <;> simp only [List.cons.injEq] at h2
  · rw [h2.1] at h1; rw [(dig_not h3).2.2.2.1] at h1; cases h1
  · exact (let_not h1).2.2.1 h2.1
theorem sign_not_num {l : List UInt8} (h : l.length = 1) (hs : isSign (l.getD 0 0) = true) : numF l = none ∧ nameF l = false := by
  match l, h with
  | [c], _ =>
    have hs : isSign c = true := by simpa using hs
    constructor
    · rw [numF_none]
      rintro n ⟨e, -⟩
      rcases itoa_form n with ⟨b, q, h2, h3, -⟩ | ⟨b, q, h2, h3, -⟩ <;> rw [e] at h2 <;> simp only [List.cons.injEq] at h2
      · rw [h2.1, (dig_not h3).2.1] at hs; cases hs
      · cases h2.2
    · cases hn : nameF [c] with
      | false => rfl
      | true =>
        obtain ⟨d, r, e, h1, -, -⟩ := name_form.1 hn
        cases e
        rw [(let_not h1).2.1] at hs; cases hs
theorem tok_num {n : Int} (h : inR n) : tokenF (Lib.itoa n) = ((2, ⟨#[]⟩, n, 0), true) := by
  unfold tokenF
  rw [(numF_iff _ _).2 ⟨rfl, h⟩]
theorem tok_name {l : List UInt8} (h : nameF l = true) : tokenF l = ((1, txt l, 0, 0), true) := by
  unfold tokenF
  rw [name_not_num h]
  simp only; rw [if_pos h]
theorem tok_sign {l : List UInt8} (h : l.length = 1) (hs : isSign (l.getD 0 0) = true) : tokenF l = ((3, txt l, 0, 0), true) := by
  unfold tokenF
  obtain ⟨h1, h2⟩ := sign_not_num h hs
  rw [h1]
  simp only; rw [if_neg (by rw [h2]; simp), if_pos ⟨h, hs⟩]
/-- what a word is -/
theorem tok_cases {w : List UInt8} (h : (tokenF w).2 = true) : (∃ n, w = Lib.itoa n ∧ inR n) ∨ nameF w = true ∨ (w.length = 1 ∧ isSign (w.getD 0 0) = true) := by
  unfold tokenF at h
  cases hn : numF w with
  | some n => obtain ⟨e1, e2⟩ := (numF_iff _ _).1 hn; exact .inl ⟨n, e1.symm, e2⟩
  | none =>
    rw [hn] at h
    simp only at h
    by_cases hN : nameF w = true
    · exact .inr (.inl hN)
    · rw [if_neg hN] at h
      by_cases hs : w.length = 1 ∧ isSign (w.getD 0 0) = true
      · exact .inr (.inr hs)
      · rw [if_neg hs] at h; cases h
theorem tok_at0 {w : List UInt8} : (tokenF w).1.2.2.2 = 0 := by
  unfold tokenF
  cases numF w with
  | some n => rfl
  | none =>
    simp only
    split
    · rfl
    · split <;> rfl
theorem tw_all {p : UInt8 → Bool} {m r : List UInt8} (h : m.all p = true) (hr : r = [] ∨ p (r.getD 0 0) = false) : ((m ++ r).takeWhile p).length = m.length := by
  apply tw_len
  · simp
  · intro j hj
    have := (all_at p m).1 h j hj
    rw [← this]
    congr 1
    simp [List.getD, List.getElem?_append_left hj]
  · rcases hr with rfl | hr
    · left; simp
    · right
      rw [← hr]
      congr 1
      simp [List.getD, List.getElem?_append_right (Nat.le_refl _)]
/-- a word ends where no letter, no digit goes on -/
theorem wordF_app {w r : List UInt8} (h : (tokenF w).2 = true) (hr : r = [] ∨ isAl (r.getD 0 0) = false) : wordF (w ++ r) = w.length := by
  have alph : ∀ c q, isSign c = false → c ≠ 45 → (c :: q).all isAl = true → wordF ((c :: q) ++ r) = (c :: q).length := by
    intro c q h1 h2 h3
    unfold wordF minus
    simp only [List.cons_append, List.length_cons, Nat.succ_ne_zero, if_false, List.getD_cons_zero, h1, Bool.false_eq_true, h2, List.drop_zero, Nat.zero_add]
    have := tw_all (r := r) h3 hr
    simpa using this
  rcases tok_cases h with ⟨n, rfl, hn⟩ | hn | ⟨h1, h2⟩
  · rcases itoa_form n with ⟨b, q, e, hb, hq⟩ | ⟨b, q, e, hb, hq⟩
    · rw [e]
      have := dig_not hb
      exact alph b q this.2.1 this.2.2.1 (by rw [List.all_cons, this.2.2.2.2, hq]; rfl)
    · rw [e]
      have hb' := dig_not hb
      have hs : isSign 45 = false := by decide
      unfold wordF minus
      simp only [List.cons_append, List.length_cons, Nat.succ_ne_zero, if_false, List.getD_cons_zero, hs, Bool.false_eq_true, if_true, List.drop_succ_cons, List.drop_zero]
      have := tw_all (m := b :: q) (r := r) (by rw [List.all_cons, hb'.2.2.2.2, hq]; rfl) hr
      simp only [List.cons_append, List.length_cons] at this
      omega
  · obtain ⟨c, q, rfl, hc, hq, -⟩ := name_form.1 hn
    have := let_not hc
    exact alph c q this.2.1 this.2.2.1 (by rw [List.all_cons, this.2.2.2.2, hq]; rfl)
  · match w, h1 with
    | [c], _ =>
      have h2 : isSign c = true := by simpa using h2
      unfold wordF
      simp [h2]
theorem tok_head {w : List UInt8} (h : (tokenF w).2 = true) : 0 < w.length ∧ isBlank (w.getD 0 0) = false := by
  rcases tok_cases h with ⟨n, rfl, hn⟩ | hn | ⟨h1, h2⟩
  · rcases itoa_form n with ⟨b, q, e, hb, hq⟩ | ⟨b, q, e, hb, hq⟩
    · rw [e]; exact ⟨by simp, by simpa using (dig_not hb).1⟩
    · rw [e]; exact ⟨by simp, by simp; decide⟩
  · obtain ⟨c, q, rfl, hc, hq, -⟩ := name_form.1 hn
    exact ⟨by simp, by simpa using (let_not hc).1⟩
  · exact ⟨by omega, (sign_not h2).1⟩
/-- a word, then what is behind it -/
theorem scan_word (i : Nat) {w r : List UInt8} (h : (tokenF w).2 = true) (hr : r = [] ∨ isAl (r.getD 0 0) = false) :
    scanI i (w ++ r) = (setAt (tokenF w).1 i :: (scanI (i + w.length) r).1, (scanI (i + w.length) r).2) := by
  have hw := wordF_app h hr
  obtain ⟨h1, h2⟩ := tok_head h
  have e1 : (w ++ r).take (wordF (w ++ r)) = w := by rw [hw]; simp
  have e2 : (w ++ r).drop (wordF (w ++ r)) = r := by rw [hw]; simp
  have e3 : (w ++ r).getD 0 0 = w.getD 0 0 := by simp [List.getD, List.getElem?_append_left h1]
  have := scanI_tok i (w ++ r) (by rw [List.length_append]; omega) (by rw [e3]; exact h2) (by rw [e1]; exact h)
  rw [e1, e2, hw] at this
  exact this
theorem scan_blanks : ∀ (i : Nat) (b r : List UInt8), b.all isBlank = true → scanI i (b ++ r) = scanI (i + b.length) r
  | i, [], r, _ => rfl
  | i, c :: b, r, h => by
    simp only [List.all_cons, Bool.and_eq_true] at h
    rw [List.cons_append, scanI_blank i (c :: (b ++ r)) (by simp) (by simpa using h.1)]
    simp only [List.drop_succ_cons, List.drop_zero]
    rw [scan_blanks (i + 1) b r h.2, List.length_cons]
    congr 1; omega
theorem wd_tok {t : Int × ByteArray × Int × Int} (h : wdOk t = true) : tokenF (wdS t) = ((t.1, t.2.1, t.2.2.1, 0), true) := by
  have h1 : (tokenF (wdS t)).2 = true := by
    unfold wdOk at h
    cases hc : (tokenF (wdS t)).2 with
    | true => rfl
    | false => rw [hc] at h; cases h
  unfold wdOk at h
  rw [h1] at h
  simp only [Bool.true_and, decide_eq_true_eq] at h
  have h0 := tok_at0 (w := wdS t)
  obtain ⟨a, b, c⟩ := h
  generalize tokenF (wdS t) = z at *
  obtain ⟨⟨z1, z2, z3, z4⟩, zb⟩ := z
  simp only at *
  subst a b c h0 h1
  rfl
/-- the words' places in a text -/
def placeF : Nat → List (Int × ByteArray × Int × Int) → List (Int × ByteArray × Int × Int)
  | _, [] => []
  | i, t :: r => (t.1, t.2.1, t.2.2.1, (i : Int)) :: placeF (i + (wdS t).length + 1) r
theorem placeF_length : ∀ (i : Nat) (l : List (Int × ByteArray × Int × Int)), (placeF i l).length = l.length
  | _, [] => rfl
  | i, t :: r => by simp [placeF, placeF_length _ r]
theorem placeF_at : ∀ (i : Nat) (l : List (Int × ByteArray × Int × Int)) (j : Nat), j < l.length → ((placeF i l).getD j tok0).1 = (l.getD j tok0).1 ∧ ((placeF i l).getD j tok0).2.1 = (l.getD j tok0).2.1 ∧ ((placeF i l).getD j tok0).2.2.1 = (l.getD j tok0).2.2.1
  | _, [], j, h => by simp at h
  | i, t :: r, 0, _ => by simp [placeF]
  | i, t :: r, j + 1, h => by simpa [placeF] using placeF_at (i + (wdS t).length + 1) r j (by simpa using h)
theorem scan_tail : ∀ (i : Nat) (l : List (Int × ByteArray × Int × Int)) (r : List UInt8), l.all wdOk = true → (r = [] ∨ isAl (r.getD 0 0) = false) →
    scanI i (Lib.joinTail [32] (l.map wdS) ++ r) = (placeF (i + 1) l ++ (scanI (i + (Lib.joinTail [32] (l.map wdS)).length) r).1, (scanI (i + (Lib.joinTail [32] (l.map wdS)).length) r).2)
  | i, [], r, _, _ => by simp [Lib.joinTail, placeF]
  | i, t :: l, r, h, hr => by
    simp only [List.all_cons, Bool.and_eq_true] at h
    have e : Lib.joinTail [32] ((t :: l).map wdS) = [32] ++ (wdS t ++ Lib.joinTail [32] (l.map wdS)) := by simp [Lib.joinTail]
    have hrest : (Lib.joinTail [32] (l.map wdS) ++ r) = [] ∨ isAl ((Lib.joinTail [32] (l.map wdS) ++ r).getD 0 0) = false := by
      cases l with
      | nil => simpa [Lib.joinTail] using hr
      | cons a q => right; simp [Lib.joinTail]; decide
    have ht := wd_tok h.1
    rw [e, List.append_assoc, scan_blanks i [32] _ (by decide), List.append_assoc, scan_word _ (by rw [ht]) hrest, scan_tail _ l r h.2 hr]
    rw [ht]
    have e3 : i + ([32] ++ (wdS t ++ Lib.joinTail [32] (l.map wdS))).length = i + [(32 : UInt8)].length + (wdS t).length + (Lib.joinTail [32] (l.map wdS)).length := by
      simp only [List.length_append, List.length_cons, List.length_nil]; omega
    rw [e3]
    rfl
theorem scan_join (i : Nat) (l : List (Int × ByteArray × Int × Int)) (r : List UInt8) (h : l.all wdOk = true) (hr : r = [] ∨ isAl (r.getD 0 0) = false) :
    scanI i (Lib.join (l.map wdS) [32] ++ r) = (placeF i l ++ (scanI (i + (Lib.join (l.map wdS) [32]).length) r).1, (scanI (i + (Lib.join (l.map wdS) [32]).length) r).2) := by
  cases l with
  | nil => simp [Lib.join_nil, placeF]
  | cons t l =>
    simp only [List.all_cons, Bool.and_eq_true] at h
    have hrest : (Lib.joinTail [32] (l.map wdS) ++ r) = [] ∨ isAl ((Lib.joinTail [32] (l.map wdS) ++ r).getD 0 0) = false := by
      cases l with
      | nil => simpa [Lib.joinTail] using hr
      | cons a q => right; simp [Lib.joinTail]; decide
    have ht := wd_tok h.1
    rw [List.map_cons, Lib.join_cons, List.append_assoc, scan_word _ (by rw [ht]) hrest, scan_tail _ l r h.2 hr]
    rw [ht]
    have e3 : i + (wdS t ++ Lib.joinTail [32] (l.map wdS)).length = i + (wdS t).length + (Lib.joinTail [32] (l.map wdS)).length := by
      simp only [List.length_append]; omega
    rw [e3]
    rfl
theorem scan_all (l : List (Int × ByteArray × Int × Int)) (h : l.all wdOk = true) : scanI 0 (Lib.join (l.map wdS) [32]) = (placeF 0 l, none) := by
  have := scan_join 0 l [] h (.inl rfl)
  simpa [scanI_nil] using this
end Go.Proofs.YtimhbimpaiiceaaDoor.Ax
/- Layer show: fields, catches, names of instructions. -/
set_option linter.unusedVariables false
set_option linter.unusedSimpArgs false
namespace Go.Proofs.YtimhbimpaiiceaaDoor.Ax
open Go Go.RowKit
def catchF (l : List UInt8) (a b c : Int) : Bool := freshF l && inF a 0 48 && inF b 0 48 && inF c 0 48
def catchC : Ctr := { A := List UInt8 × Int × Int × Int, enc := fun x => [.agg [X x.1, I x.2.1, I x.2.2.1, I x.2.2.2]], dom := fun x => x.1.length ≤ 4611686018427387904, res := fun x _ => B (catchF x.1 x.2.1 x.2.2.1 x.2.2.2), gl := tabS }
def fieldC : Ctr := { A := List UInt8 × Int × List UInt8 × Bool, enc := fun x => [.agg [X x.1, I x.2.1, X x.2.2.1, B x.2.2.2]], dom := fun x => x.1.length ≤ 4611686018427387904 ∧ x.2.2.1.length ≤ 4611686018427387904, res := fun x _ => B (freshF x.1 && typedF x.2.1 x.2.2.1), gl := tabS }
def namedF (l : List UInt8) (b : Bool) : Bool := if b then freshF l else decide (l = [])
def namedC : Ctr := { A := List UInt8 × Bool, enc := fun x => [X x.1, B x.2], dom := fun x => x.1.length ≤ 4611686018427387904, res := fun x _ => B (namedF x.1 x.2), gl := tabS }
end Go.Proofs.YtimhbimpaiiceaaDoor.Ax
/- Layer show: instructions. -/
set_option linter.unusedVariables false
set_option linter.unusedSimpArgs false
namespace Go.Proofs.YtimhbimpaiiceaaDoor.Ax
open Go Go.RowKit
def instrF (o n : Int) (a b : List UInt8) : Bool := inF o 0 43 && inF n (numsF o).1 (numsF o).2.1 && namedF a (decide (namesF o > 0)) && namedF b (decide (namesF o > 1))
def instrC : Ctr := { A := Int × Int × List UInt8 × List UInt8, enc := fun x => [.agg [I x.1, I x.2.1, X x.2.2.1, X x.2.2.2]], dom := fun x => x.2.2.1.length ≤ 4611686018427387904 ∧ x.2.2.2.length ≤ 4611686018427387904, res := fun x _ => B (instrF x.1 x.2.1 x.2.2.1 x.2.2.2), gl := tabS }
end Go.Proofs.YtimhbimpaiiceaaDoor.Ax
/- Layers parse and show: what is shown is read again: lists, methods, classes, programs. -/
set_option linter.unusedVariables false
set_option linter.unusedSimpArgs false
namespace Go.Proofs.YtimhbimpaiiceaaDoor.Ax
open Go Go.RowKit
/-! ### What show writes -/
def dig (n : Int) : ByteArray := itoaB n
def freshW (s : ByteArray) : Bool := freshF s.data.toList
def tyOk (t : Ty) : Bool := typedF t.1 t.2.data.toList
def insOk (x : Ins) : Bool := instrF x.op x.n x.a.data.toList x.b.data.toList
def catOk (c : Cat) : Bool := catchF c.name.data.toList c.fr c.up c.at'
def fldOk (f : Fld) : Bool := freshW f.name && tyOk f.type
def methOk (m : Meth) : Bool := !(m.abs && (decide (m.locals ≠ 0) || decide (m.code.length + m.catches.length > 0))) && (freshW m.name && ((decide (m.params.length ≤ 4) && m.params.all tyOk) && (tyOk m.ret && (inF m.locals 0 8 && ((decide (m.code.length ≤ 48) && m.code.all insOk) && (decide (m.catches.length ≤ 4) && m.catches.all catOk))))))
def clsOk (c : Cls) : Bool := freshW c.name && ((decide (c.super = noS) || (!c.iface && freshW c.super)) && ((decide (c.ifaces.length ≤ 4) && c.ifaces.all freshW) && ((decide (c.fields.length ≤ 6) && c.fields.all fldOk) && (decide (c.methods.length ≤ 6) && c.methods.all methOk))))
def prgOk (p : List Cls) : Bool := decide (p.length ≤ 10) && p.all clsOk
def kindW (t : Ty) : List ByteArray := kindF t.1 t.2
def listF (w : ByteArray) : List ByteArray → List ByteArray
  | [] => []
  | s :: r => [w, s] ++ r.flatMap fun x => [wComma, x]
def codeF (x : Ins) : List ByteArray := [wordF2 x.op] ++ ((if (numsF x.op).2.2 then [dig x.n] else []) ++ ((if x.a = noS then [] else [x.a]) ++ ((if x.b = noS then [] else [x.b]) ++ [wSemi])))
def paramsF : List Ty → List ByteArray
  | [] => []
  | t :: r => kindW t ++ r.flatMap fun x => wComma :: kindW x
def catF (c : Cat) : List ByteArray := [wCatch, c.name, dig c.fr, dig c.up, dig c.at', wSemi]
def doesF (m : Meth) : List ByteArray := [if m.static then wFunction else wMethod, m.name, wLp] ++ (paramsF m.params ++ ([wRp] ++ (kindW m.ret ++ (if m.abs then [wSemi] else [wLocals, dig m.locals, wLc] ++ (m.code.flatMap codeF ++ (m.catches.flatMap catF ++ [wRc]))))))
def fldF (f : Fld) : List ByteArray := [if f.static then wStatic else wField, f.name, wColon] ++ (kindW f.type ++ [wSemi])
def wordsC (c : Cls) : List ByteArray := [if c.iface then wInterface else wClass, c.name] ++ ((if c.super = noS then [] else [wExtends, c.super]) ++ (listF (if c.iface then wExtends else wImplements) c.ifaces ++ ([wLc] ++ (c.fields.flatMap fldF ++ (c.methods.flatMap doesF ++ [wRc])))))
def sepOf (w : ByteArray) : UInt8 := if w = wLc ∨ w = wRc ∨ w = wSemi then 10 else 32
def putW (w : ByteArray) : List UInt8 := w.data.toList ++ [sepOf w]
def textC (c : Cls) : List UInt8 := (wordsC c).flatMap putW
def textP (p : List Cls) : List UInt8 := p.flatMap textC
def showF (p : List Cls) : List UInt8 × Int := if prgOk p then (if 6000 < (textP p).length then ([], 2) else (textP p, 0)) else ([], 4)

/-! ### Words as tokens -/
abbrev T3 := Int × ByteArray × Int
def s3 (t : Tok) : T3 := (t.1, t.2.1, t.2.2.1)
def tokT (w : ByteArray) : T3 := s3 (tokenF w.data.toList).1
def tokB (w : ByteArray) : Bool := (tokenF w.data.toList).2
theorem ba_eta (s : ByteArray) : txt s.data.toList = s := rfl
theorem name_T {s : ByteArray} (h : nameF s.data.toList = true) : tokT s = (1, s, 0) ∧ tokB s = true := by
  unfold tokT tokB
  rw [tok_name h]
  exact ⟨rfl, rfl⟩
theorem sign_T {s : ByteArray} (h : s.data.toList.length = 1) (hs : isSign (s.data.toList.getD 0 0) = true) : tokT s = (3, s, 0) ∧ tokB s = true := by
  unfold tokT tokB
  rw [tok_sign h hs]
  exact ⟨rfl, rfl⟩
theorem num_T {n : Int} (h : inR n) : tokT (dig n) = (2, noS, n) ∧ tokB (dig n) = true := by
  unfold tokT tokB
  rw [show (dig n).data.toList = Lib.itoa n by simp [dig, itoaB], tok_num h]
  exact ⟨rfl, rfl⟩
theorem T_void : tokT wVoid = (1, wVoid, 0) ∧ tokB wVoid = true := name_T (by decide +kernel)
theorem T_int : tokT wInt = (1, wInt, 0) ∧ tokB wInt = true := name_T (by decide +kernel)
theorem T_locals : tokT wLocals = (1, wLocals, 0) ∧ tokB wLocals = true := name_T (by decide +kernel)
theorem T_catch : tokT wCatch = (1, wCatch, 0) ∧ tokB wCatch = true := name_T (by decide +kernel)
theorem T_field : tokT wField = (1, wField, 0) ∧ tokB wField = true := name_T (by decide +kernel)
theorem T_static : tokT wStatic = (1, wStatic, 0) ∧ tokB wStatic = true := name_T (by decide +kernel)
theorem T_method : tokT wMethod = (1, wMethod, 0) ∧ tokB wMethod = true := name_T (by decide +kernel)
theorem T_function : tokT wFunction = (1, wFunction, 0) ∧ tokB wFunction = true := name_T (by decide +kernel)
theorem T_class : tokT wClass = (1, wClass, 0) ∧ tokB wClass = true := name_T (by decide +kernel)
theorem T_interface : tokT wInterface = (1, wInterface, 0) ∧ tokB wInterface = true := name_T (by decide +kernel)
theorem T_extends : tokT wExtends = (1, wExtends, 0) ∧ tokB wExtends = true := name_T (by decide +kernel)
theorem T_implements : tokT wImplements = (1, wImplements, 0) ∧ tokB wImplements = true := name_T (by decide +kernel)
theorem T_lb : tokT wLb = (3, wLb, 0) ∧ tokB wLb = true := sign_T (by decide +kernel) (by decide +kernel)
theorem T_rb : tokT wRb = (3, wRb, 0) ∧ tokB wRb = true := sign_T (by decide +kernel) (by decide +kernel)
theorem T_lp : tokT wLp = (3, wLp, 0) ∧ tokB wLp = true := sign_T (by decide +kernel) (by decide +kernel)
theorem T_rp : tokT wRp = (3, wRp, 0) ∧ tokB wRp = true := sign_T (by decide +kernel) (by decide +kernel)
theorem T_lc : tokT wLc = (3, wLc, 0) ∧ tokB wLc = true := sign_T (by decide +kernel) (by decide +kernel)
theorem T_rc : tokT wRc = (3, wRc, 0) ∧ tokB wRc = true := sign_T (by decide +kernel) (by decide +kernel)
theorem T_comma : tokT wComma = (3, wComma, 0) ∧ tokB wComma = true := sign_T (by decide +kernel) (by decide +kernel)
theorem T_semi : tokT wSemi = (3, wSemi, 0) ∧ tokB wSemi = true := sign_T (by decide +kernel) (by decide +kernel)
theorem T_colon : tokT wColon = (3, wColon, 0) ∧ tokB wColon = true := sign_T (by decide +kernel) (by decide +kernel)
/-- a fresh name is none of the words that are kept, and no sign -/
theorem fresh_T {s : ByteArray} (h : freshW s = true) : tokT s = (1, s, 0) ∧ tokB s = true ∧ keptW s = false := by
  unfold freshW freshF at h
  rw [Bool.and_eq_true] at h
  exact ⟨(name_T h.1).1, (name_T h.1).2, by simpa [keptW] using h.2⟩
theorem fresh_ne {s w : ByteArray} (h : freshW s = true) (hw : keptW w = true ∨ nameF w.data.toList = false) : s ≠ w := by
  rintro rfl
  unfold freshW freshF at h
  rw [Bool.and_eq_true] at h
  rcases hw with hw | hw
  · have := h.2
    rw [show keptF s.data.toList = true from hw] at this; cases this
  · rw [hw] at h; cases h.1
theorem fresh_noS {s : ByteArray} (h : freshW s = true) : s ≠ noS := fresh_ne h (.inr (by decide +kernel))

/-! ### A reader ahead of words -/
structure At (r : Rs) (ts : List T3) : Prop where
  e : r.e = 0
  ts : (r.L.drop r.i).map s3 = ts
theorem at_cons {r : Rs} {t : T3} {ts : List T3} (h : At r (t :: ts)) : r.i < r.L.length ∧ s3 r.next = t ∧ At r.step ts := by
  have h1 := h.ts
  by_cases hlt : r.i < r.L.length
  · rw [List.drop_eq_getElem_cons hlt] at h1
    simp only [List.map_cons, List.cons.injEq] at h1
    refine ⟨hlt, ?_, ⟨h.e, h1.2⟩⟩
    rw [Rs.next_some ⟨h.e, hlt⟩, show r.L.getD r.i tok0 = r.L[r.i] by simp [List.getD, hlt]]
    exact h1.1
  · rw [List.drop_eq_nil_of_le (by omega)] at h1
    cases h1
theorem at_nil {r : Rs} (h : At r []) : r.next = tok0 := by
  refine Rs.next_none fun c => ?_
  have h1 := h.ts
  rw [List.drop_eq_getElem_cons c.2] at h1
  cases h1
theorem at_next {r : Rs} {k n : Int} {w : ByteArray} {ts : List T3} (h : At r ((k, w, n) :: ts)) : r.next.1 = k ∧ r.next.2.1 = w ∧ r.next.2.2.1 = n := by
  have := (at_cons h).2.1
  unfold s3 at this
  simp only [Prod.mk.injEq] at this
  exact this
theorem at_is {r : Rs} {k n : Int} {w : ByteArray} {ts : List T3} (h : At r ((k, w, n) :: ts)) (w' : ByteArray) : r.is w' = (decide (w = w') && decide (w' ≠ noS)) := by
  unfold Rs.is
  rw [(at_next h).2.1]
theorem at_yes {r : Rs} {k n : Int} {w : ByteArray} {ts : List T3} (h : At r ((k, w, n) :: ts)) (hw : w ≠ noS) : r.is w = true := by
  rw [at_is h]; simp [hw]
theorem at_no {r : Rs} {k n : Int} {w w' : ByteArray} {ts : List T3} (h : At r ((k, w, n) :: ts)) (hw : w ≠ w') : r.is w' = false := by
  rw [at_is h]; simp [hw]
theorem at_is0 {r : Rs} (h : At r []) (w : ByteArray) : r.is w = false := by
  unfold Rs.is
  rw [at_nil h]
  simp
  exact fun c => c.symm
theorem at_want {r : Rs} {k n : Int} {w : ByteArray} {ts : List T3} (h : At r ((k, w, n) :: ts)) (hw : w ≠ noS) : At (r.want w) ts := by
  unfold Rs.want
  rw [if_pos (at_yes h hw)]
  exact (at_cons h).2.2
theorem at_fresh {r : Rs} {s : ByteArray} {ts : List T3} (h : At r ((1, s, 0) :: ts)) (hk : keptW s = false) : r.free = true ∧ r.freshV = s ∧ At r.fresh ts := by
  have hf : r.free = true := by
    unfold Rs.free
    rw [(at_next h).1, (at_next h).2.1, hk]; rfl
  refine ⟨hf, ?_, ?_⟩
  · unfold Rs.freshV
    rw [if_pos hf, (at_next h).2.1]
  · unfold Rs.fresh
    rw [if_pos hf]
    exact (at_cons h).2.2
theorem at_num {r : Rs} {n lo hi : Int} {ts : List T3} (h : At r ((2, noS, n) :: ts)) (h1 : lo ≤ n) (h2 : n ≤ hi) : r.numV lo hi = n ∧ At (r.num lo hi) ts := by
  have hf : r.numOk lo hi = true := by
    unfold Rs.numOk
    rw [(at_next h).1, (at_next h).2.2]
    exact decide_eq_true ⟨rfl, h1, h2⟩
  refine ⟨?_, ?_⟩
  · unfold Rs.numV
    rw [if_pos hf, (at_next h).2.2]
  · unfold Rs.num
    rw [if_pos hf]
    exact (at_cons h).2.2
theorem room_lt (r : Rs) {a b : Int} (h : a < b) : r.room a b = r := by
  unfold Rs.room
  rw [if_neg (by omega)]
theorem at_len {r : Rs} {ts : List T3} (h : At r ts) : ts.length = r.L.length - r.i := by
  rw [← h.ts]; simp
/-- not this word next -/
def noW (ts : List T3) (w : ByteArray) : Prop := ∀ t, ts.head? = some t → t.2.1 ≠ w
theorem at_noW {r : Rs} {ts : List T3} {w : ByteArray} (h : At r ts) (hn : noW ts w) : r.is w = false := by
  cases ts with
  | nil => exact at_is0 h w
  | cons t ts =>
    obtain ⟨k, w', n⟩ := t
    exact at_no h (hn _ rfl)
theorem noW_cons {k n : Int} {w w' : ByteArray} {ts : List T3} (h : w ≠ w') : noW ((k, w, n) :: ts) w' := fun t e => by
  cases e; exact h

/-- a type's words -/
theorem at_kind {r : Rs} {t : Ty} {ts : List T3} (ht : tyOk t = true) (h : At r ((kindW t).map tokT ++ ts)) (hn : noW ts wLb) : r.kindV = t ∧ At r.kind ts := by
  obtain ⟨k, s⟩ := t
  unfold tyOk typedF at ht
  unfold kindW kindF at h
  have hv : ¬ (wInt = wVoid) := by decide
  simp only at ht h
  by_cases h1 : k = 1
  · rw [if_pos (.inl h1)] at ht
    rw [if_pos h1] at h
    have hs : s = noS := by
      have := of_decide_eq_true ht
      exact ByteArray.ext (Array.ext' this)
    subst h1 hs
    have h : At r ((1, wVoid, 0) :: ts) := by
      have := T_void.1
      unfold wVoid at this
      rw [List.map_cons, List.map_nil, this] at h
      exact h
    have hy : r.is wVoid = true := at_yes h (by decide)
    unfold Rs.kindV Rs.kind
    rw [if_pos hy, if_pos hy]
    exact ⟨rfl, (at_cons h).2.2⟩
  · rw [if_neg h1] at h
    by_cases h2 : k = 2
    · rw [if_pos (.inr (.inl h2))] at ht
      rw [if_pos h2] at h
      have hs : s = noS := ByteArray.ext (Array.ext' (of_decide_eq_true ht))
      subst h2 hs
      have h : At r ((1, wInt, 0) :: ts) := by
        have := T_int.1
        unfold wInt at this
        rw [List.map_cons, List.map_nil, this] at h
        exact h
      have hy : r.is wInt = true := at_yes h (by decide)
      have hx : r.is wVoid = false := at_no h (by decide)
      have hb := at_noW (at_cons h).2.2 hn
      unfold Rs.kindV Rs.kind Rs.rowR
      rw [if_neg (by rw [hx]; decide), if_pos hy, if_neg (by rw [hb]; decide), if_neg (by rw [hx]; decide), if_pos hy, if_neg (by rw [hb]; decide)]
      exact ⟨rfl, (at_cons h).2.2⟩
    · rw [if_neg h2] at h
      by_cases h4 : k = 4
      · rw [if_pos (.inr (.inr h4))] at ht
        rw [if_pos h4] at h
        have hs : s = noS := ByteArray.ext (Array.ext' (of_decide_eq_true ht))
        subst h4 hs
        have h : At r ((1, wInt, 0) :: (3, wLb, 0) :: (3, wRb, 0) :: ts) := by
          have a1 := T_int.1; have a2 := T_lb.1; have a3 := T_rb.1
          unfold wInt at a1; unfold wLb at a2; unfold wRb at a3
          rw [List.map_cons, List.map_cons, List.map_cons, List.map_nil, a1, a2, a3] at h
          exact h
        have hy : r.is wInt = true := at_yes h (by decide)
        have hx : r.is wVoid = false := at_no h (by decide)
        have hb : r.step.is wLb = true := at_yes (at_cons h).2.2 (by decide)
        unfold Rs.kindV Rs.kind Rs.rowR
        rw [if_neg (by rw [hx]; decide), if_pos hy, if_pos hb, if_neg (by rw [hx]; decide), if_pos hy, if_pos hb]
        exact ⟨rfl, at_want (at_cons (at_cons h).2.2).2.2 (by decide)⟩
      · rw [if_neg h4] at h
        rw [if_neg (by omega)] at ht
        have h35 : k = 3 ∨ k = 5 := by
          by_cases c : k = 3 ∨ k = 5
          · exact c
          · rw [if_neg c] at ht; cases ht
        rw [if_pos h35] at ht
        have hf : freshW s = true := ht
        obtain ⟨hs1, -, hk⟩ := fresh_T hf
        have n1 : s ≠ wVoid := fresh_ne hf (.inl (by decide +kernel))
        have n2 : s ≠ wInt := fresh_ne hf (.inl (by decide +kernel))
        by_cases h5 : k = 5
        · rw [if_pos h5] at h
          subst h5
          have h : At r ((1, s, 0) :: (3, wLb, 0) :: (3, wRb, 0) :: ts) := by
            have a2 := T_lb.1; have a3 := T_rb.1
            unfold wLb at a2; unfold wRb at a3
            rw [List.map_cons, List.map_cons, List.map_cons, List.map_nil, hs1, a2, a3] at h
            exact h
          obtain ⟨f1, f2, f3⟩ := at_fresh h hk
          have hy : r.is wInt = false := at_no h n2
          have hx : r.is wVoid = false := at_no h n1
          have hb : r.fresh.is wLb = true := at_yes f3 (by decide)
          unfold Rs.kindV Rs.kind Rs.rowR
          rw [if_neg (by rw [hx]; decide), if_neg (by rw [hy]; decide), if_pos hb, if_neg (by rw [hx]; decide), if_neg (by rw [hy]; decide), if_pos hb, f2]
          exact ⟨rfl, at_want (at_cons f3).2.2 (by decide)⟩
        · rw [if_neg h5] at h
          have h3 : k = 3 := by omega
          subst h3
          have h : At r ((1, s, 0) :: ts) := by
            rw [List.map_cons, List.map_nil, hs1] at h
            exact h
          obtain ⟨f1, f2, f3⟩ := at_fresh h hk
          have hy : r.is wInt = false := at_no h n2
          have hx : r.is wVoid = false := at_no h n1
          have hb := at_noW f3 hn
          unfold Rs.kindV Rs.kind Rs.rowR
          rw [if_neg (by rw [hx]; decide), if_neg (by rw [hy]; decide), if_neg (by rw [hb]; decide), if_neg (by rw [hx]; decide), if_neg (by rw [hy]; decide), if_neg (by rw [hb]; decide), f2]
          exact ⟨rfl, f3⟩
abbrev tks (ws : List ByteArray) : List T3 := ws.map tokT
theorem name_sign {s w : ByteArray} (h : nameF s.data.toList = true) (hw : nameF w.data.toList = false) : s ≠ w := by
  rintro rfl
  rw [hw] at h; cases h
theorem kind_head {t : Ty} (ht : tyOk t = true) : ∃ w rest, tks (kindW t) = (1, w, 0) :: rest ∧ nameF w.data.toList = true := by
  obtain ⟨k, s⟩ := t
  unfold tyOk typedF at ht
  unfold kindW kindF
  simp only at ht ⊢
  by_cases h1 : k = 1
  · rw [if_pos h1]; exact ⟨wVoid, [], by rw [← T_void.1]; rfl, by decide +kernel⟩
  · rw [if_neg h1]
    by_cases h2 : k = 2
    · rw [if_pos h2]; exact ⟨wInt, [], by rw [← T_int.1]; rfl, by decide +kernel⟩
    · rw [if_neg h2]
      by_cases h4 : k = 4
      · rw [if_pos h4]; exact ⟨wInt, tks [wLb, wRb], by rw [← T_int.1]; rfl, by decide +kernel⟩
      · rw [if_neg h4]
        rw [if_neg (by omega)] at ht
        have h35 : k = 3 ∨ k = 5 := by
          by_cases c : k = 3 ∨ k = 5
          · exact c
          · rw [if_neg c] at ht; cases ht
        rw [if_pos h35] at ht
        have hf : freshW s = true := ht
        have hn : nameF s.data.toList = true := by
          unfold freshW freshF at hf
          rw [Bool.and_eq_true] at hf; exact hf.1
        by_cases h5 : k = 5
        · rw [if_pos h5]; exact ⟨s, tks [wLb, wRb], by rw [← (fresh_T hf).1]; rfl, hn⟩
        · rw [if_neg h5]; exact ⟨s, [], by rw [← (fresh_T hf).1]; rfl, hn⟩
theorem noW_kind {t : Ty} (ht : tyOk t = true) (ts : List T3) {w : ByteArray} (hw : nameF w.data.toList = false) : noW (tks (kindW t) ++ ts) w := by
  obtain ⟨v, rest, e, hv⟩ := kind_head ht
  rw [e]
  exact noW_cons (name_sign hv hw)
theorem at_namesL : ∀ (l : List ByteArray) (f : Nat) (r : Rs) (out : List ByteArray) (ts : List T3), (∀ s ∈ l, freshW s = true) → out.length + l.length ≤ 4 → l.length < f →
    At r (tks (l.flatMap fun x => [wComma, x]) ++ ts) → noW ts wComma → (Rs.namesL f r out).1 = out ++ l ∧ At (Rs.namesL f r out).2 ts
  | _, 0, _, _, _, _, _, hf, _, _ => by omega
  | [], f + 1, r, out, ts, _, _, _, h, hn => by
    have h : At r ts := h
    unfold Rs.namesL
    rw [if_neg (by rw [at_noW h hn]; decide)]
    exact ⟨by simp, h⟩
  | s :: l, f + 1, r, out, ts, hs, hl, hf, h, hn => by
    have hf1 := fresh_T (hs s (by simp))
    have h : At r ((3, wComma, 0) :: (1, s, 0) :: (tks (l.flatMap fun x => [wComma, x]) ++ ts)) := by
      rw [← T_comma.1, ← hf1.1]; exact h
    have hy := at_yes h (by decide)
    have h2 := (at_cons h).2.2
    obtain ⟨f1, f2, f3⟩ := at_fresh h2 hf1.2.2
    simp only [List.length_cons] at hl hf
    have e1 : r.name1 out.length = r.step := by
      unfold Rs.name1
      rw [if_pos f1, room_lt _ (by omega)]
    unfold Rs.namesL
    rw [if_pos hy, e1, f2]
    have := at_namesL l f r.step.fresh (out ++ [s]) ts (fun x hx => hs x (by simp [hx])) (by simp; omega) (by omega) f3 hn
    exact ⟨by rw [this.1]; simp, this.2⟩
theorem flat_len {α : Type} (g : α → List ByteArray) : ∀ (l : List α), (∀ x ∈ l, 0 < (g x).length) → l.length ≤ (l.flatMap g).length
  | [], _ => by simp
  | x :: l, h => by
    have := flat_len g l (fun y hy => h y (by simp [hy]))
    have := h x (by simp)
    rw [List.flatMap_cons, List.length_append, List.length_cons]; omega
theorem at_names {s : ByteArray} {l : List ByteArray} {r : Rs} {ts : List T3} (hs : ∀ x ∈ s :: l, freshW x = true) (hl : (s :: l).length ≤ 4)
    (h : At r (tokT s :: (tks (l.flatMap fun x => [wComma, x]) ++ ts))) (hn : noW ts wComma) : r.names.1 = s :: l ∧ At r.names.2 ts := by
  have hf1 := fresh_T (hs s (by simp))
  have hlen := at_len h
  have hfl := flat_len (fun x => [wComma, x]) l (fun _ _ => by simp)
  rw [hf1.1] at h
  obtain ⟨f1, f2, f3⟩ := at_fresh h hf1.2.2
  simp only [List.length_cons, List.length_append, List.length_map] at hlen hl
  have := at_namesL l (r.L.length + 2) r.fresh [s] ts (fun x hx => hs x (by simp [hx])) (by simp; omega) (by omega) f3 hn
  unfold Rs.names
  rw [f2]
  exact ⟨this.1, this.2⟩
theorem at_paramsL : ∀ (l : List Ty) (f : Nat) (r : Rs) (out : List Ty) (ts : List T3), (∀ t ∈ l, tyOk t = true) → out.length + l.length ≤ 4 → l.length < f →
    At r (tks (l.flatMap fun x => wComma :: kindW x) ++ ts) → noW ts wComma → noW ts wLb → (Rs.paramsL f r out).1 = out ++ l ∧ At (Rs.paramsL f r out).2 ts
  | _, 0, _, _, _, _, _, hf, _, _, _ => by omega
  | [], f + 1, r, out, ts, _, _, _, h, hn, _ => by
    have h : At r ts := h
    unfold Rs.paramsL
    rw [if_neg (by rw [at_noW h hn]; decide)]
    exact ⟨by simp, h⟩
  | t :: l, f + 1, r, out, ts, hs, hl, hf, h, hn, hb => by
    have h : At r ((3, wComma, 0) :: (tks (kindW t) ++ (tks (l.flatMap fun x => wComma :: kindW x) ++ ts))) := by
      rw [← T_comma.1]
      simpa [tks, List.flatMap_cons] using h
    have hy := at_yes h (by decide)
    have h2 := (at_cons h).2.2
    have hnb : noW (tks (l.flatMap fun x => wComma :: kindW x) ++ ts) wLb := by
      cases l with
      | nil => exact hb
      | cons x l =>
        show noW (tokT wComma :: _) wLb
        rw [T_comma.1]
        exact noW_cons (by decide)
    obtain ⟨f2, f3⟩ := at_kind (hs t (by simp)) h2 hnb
    simp only [List.length_cons] at hl hf
    have e1 : r.param1 out.length = r.step := by
      unfold Rs.param1
      split
      · rw [room_lt _ (by omega)]
      · rfl
    unfold Rs.paramsL
    rw [if_pos hy, e1, f2]
    have := at_paramsL l f r.step.kind (out ++ [t]) ts (fun x hx => hs x (by simp [hx])) (by simp; omega) (by omega) f3 hn hb
    exact ⟨by rw [this.1]; simp, this.2⟩
theorem at_params {ps : List Ty} {r : Rs} {ts : List T3} (hs : ∀ t ∈ ps, tyOk t = true) (hl : ps.length ≤ 4) (h : At r (tokT wLp :: (tks (paramsF ps) ++ tokT wRp :: ts))) : r.params.1 = ps ∧ At r.params.2 ts := by
  rw [T_lp.1, T_rp.1] at h
  have h1 := at_want h (by decide)
  cases ps with
  | nil =>
    have h1 : At (r.want wLp) ((3, wRp, 0) :: ts) := h1
    unfold Rs.params
    rw [if_pos (at_yes h1 (by decide))]
    exact ⟨rfl, (at_cons h1).2.2⟩
  | cons t l =>
    have h1 : At (r.want wLp) (tks (kindW t) ++ (tks (l.flatMap fun x => wComma :: kindW x) ++ (3, wRp, 0) :: ts)) := by
      simpa [tks, paramsF] using h1
    have hno : (r.want wLp).is wRp = false := at_noW h1 (noW_kind (hs t (by simp)) _ (by decide +kernel))
    have hnb : noW (tks (l.flatMap fun x => wComma :: kindW x) ++ (3, wRp, 0) :: ts) wLb := by
      cases l with
      | nil => exact noW_cons (by decide)
      | cons x l =>
        show noW (tokT wComma :: _) wLb
        rw [T_comma.1]
        exact noW_cons (by decide)
    obtain ⟨f2, f3⟩ := at_kind (hs t (by simp)) h1 hnb
    have hlen := at_len f3
    have hfl := flat_len (fun x => wComma :: kindW x) l (fun _ _ => by simp)
    have hL : (r.want wLp).kind.L = r.L := ((Rs.want_fwd r wLp).trans (Rs.kind_fwd _)).L
    rw [hL] at hlen
    simp only [List.length_cons, List.length_append, List.length_map] at hlen hl
    have := at_paramsL l (r.L.length + 2) (r.want wLp).kind [t] ((3, wRp, 0) :: ts) (fun x hx => hs x (by simp [hx])) (by simp; omega) (by omega) f3 (noW_cons (by decide)) (noW_cons (by decide))
    unfold Rs.params
    rw [if_neg (by rw [hno]; decide), f2]
    exact ⟨by rw [this.1]; rfl, at_want this.2 (by decide)⟩
/-! ### Instructions -/
theorem op_facts : ∀ k, k < 44 → nameF (opsL.getD k noS).data.toList = true ∧ opV (opsL.getD k noS) = (k : Int) ∧ keptW (opsL.getD k noS) = false := by decide +kernel
theorem nums_R (o : Int) : -2147483648 ≤ (numsF o).1 ∧ (numsF o).2.1 ≤ 2147483647 ∧ ((numsF o).2.2 = false → (numsF o).1 = 0 ∧ (numsF o).2.1 = 0) := by
  unfold numsF
  split
  · exact ⟨by decide, by decide, fun h => by cases h⟩
  · split
    · exact ⟨by decide, by decide, fun h => by cases h⟩
    · split
      · exact ⟨by decide, by decide, fun h => by cases h⟩
      · exact ⟨by decide, by decide, fun _ => ⟨rfl, rfl⟩⟩
theorem named_T {s : ByteArray} {b : Bool} (h : namedF s.data.toList b = true) : (b = true → freshW s = true) ∧ (b = false → s = noS) := by
  unfold namedF at h
  refine ⟨fun hb => ?_, fun hb => ?_⟩
  · rw [if_pos hb] at h; exact h
  · rw [if_neg (by rw [hb]; decide)] at h
    exact ByteArray.ext (Array.ext' (of_decide_eq_true h))
theorem ins_parts {x : Ins} (h : insOk x = true) : 0 ≤ x.op ∧ x.op ≤ 43 ∧ (numsF x.op).1 ≤ x.n ∧ x.n ≤ (numsF x.op).2.1 ∧ namedF x.a.data.toList (decide (namesF x.op > 0)) = true ∧ namedF x.b.data.toList (decide (namesF x.op > 1)) = true := by
  unfold insOk instrF at h
  rw [Bool.and_eq_true, Bool.and_eq_true, Bool.and_eq_true] at h
  obtain ⟨⟨⟨h1, h2⟩, h3⟩, h4⟩ := h
  unfold inF at h1 h2
  have h1 := of_decide_eq_true h1
  have h2 := of_decide_eq_true h2
  exact ⟨h1.1, h1.2, h2.1, h2.2, h3, h4⟩
theorem word_op {o : Int} (h0 : 0 ≤ o) (h1 : o ≤ 43) : nameF (wordF2 o).data.toList = true ∧ opV (wordF2 o) = o ∧ keptW (wordF2 o) = false := by
  unfold wordF2
  rw [if_neg (by omega)]
  have := op_facts o.toNat (by omega)
  exact ⟨this.1, by rw [this.2.1]; omega, this.2.2⟩
theorem name_noS {s : ByteArray} (h : nameF s.data.toList = true) : s ≠ noS := name_sign h (by decide +kernel)
theorem at_in3 {r : Rs} {s : ByteArray} {b : Bool} {ts : List T3} (hs : namedF s.data.toList b = true) (h : At r (tks (if s = noS then [] else [s]) ++ ts)) : r.in3V b = s ∧ At (r.in3 b) ts := by
  cases b with
  | true =>
    have hf := (named_T hs).1 rfl
    rw [if_neg (fresh_noS hf)] at h
    have h : At r ((1, s, 0) :: ts) := by rw [← (fresh_T hf).1]; exact h
    obtain ⟨f1, f2, f3⟩ := at_fresh h (fresh_T hf).2.2
    exact ⟨f2, f3⟩
  | false =>
    have hf := (named_T hs).2 rfl
    rw [if_pos hf] at h
    exact ⟨hf.symm, h⟩
theorem at_in2 {r : Rs} {o n : Int} {ts : List T3} (h1 : (numsF o).1 ≤ n) (h2 : n ≤ (numsF o).2.1) (h : At r (tks (if (numsF o).2.2 then [dig n] else []) ++ ts)) : r.in2V o = n ∧ At (r.in2 o) ts := by
  have hR := nums_R o
  unfold Rs.in2V Rs.in2
  cases hc : (numsF o).2.2 with
  | true =>
    rw [if_pos hc] at h
    have h : At r ((2, noS, n) :: ts) := by
      rw [← (num_T (n := n) ⟨by omega, by omega⟩).1]; exact h
    rw [if_pos rfl, if_pos rfl]
    exact at_num h h1 h2
  | false =>
    rw [if_neg (by rw [hc]; decide)] at h
    rw [if_neg (by decide), if_neg (by decide)]
    have := hR.2.2 hc
    exact ⟨by omega, h⟩
theorem at_op {r : Rs} {o : Int} {ts : List T3} (h0 : 0 ≤ o) (h1 : o ≤ 43) (h : At r (tokT (wordF2 o) :: ts)) : r.isOp = true ∧ opV r.next.2.1 = o ∧ r.next.2.1 = wordF2 o ∧ At (r.want (wordF2 o)) ts := by
  obtain ⟨w1, w2, w3⟩ := word_op h0 h1
  rw [(name_T w1).1] at h
  have hx := at_next h
  refine ⟨?_, by rw [hx.2.1, w2], hx.2.1, at_want h (name_noS w1)⟩
  unfold Rs.isOp
  rw [hx.1, hx.2.1, w2]
  simpa using h0
theorem at_instr {x : Ins} {r : Rs} {ts : List T3} {many : Int} (hx : insOk x = true) (hm : many < 48) (h : At r (tks (codeF x) ++ ts)) : r.isOp = true ∧ (r.instr many).1 = x ∧ At (r.instr many).2 ts := by
  obtain ⟨h1, h2, h3, h4, h5, h6⟩ := ins_parts hx
  have h : At r (tokT (wordF2 x.op) :: (tks (if (numsF x.op).2.2 then [dig x.n] else []) ++ (tks (if x.a = noS then [] else [x.a]) ++ (tks (if x.b = noS then [] else [x.b]) ++ (tokT wSemi :: ts))))) := by
    have := h
    unfold codeF at this
    simpa [tks] using this
  obtain ⟨g1, g2, g3, g4⟩ := at_op h1 h2 h
  obtain ⟨i1, i2⟩ := at_in2 h3 h4 g4
  obtain ⟨j1, j2⟩ := at_in3 h5 i2
  obtain ⟨k1, k2⟩ := at_in3 h6 j2
  rw [T_semi.1] at k2
  refine ⟨g1, ?_, ?_⟩
  · unfold Rs.instr Rs.in1 Rs.inVal
    rw [g2, g3, room_lt _ hm]
    simp only
    rw [i1, j1, k1]
  · unfold Rs.instr Rs.in1 Rs.inArgs
    rw [g2, g3, room_lt _ hm]
    exact at_want k2 (by decide)
def noOp (ts : List T3) : Prop := ∀ t, ts.head? = some t → opV t.2.1 < 0
theorem at_noOp {r : Rs} {ts : List T3} (h : At r ts) (hn : noOp ts) : r.isOp = false := by
  unfold Rs.isOp
  cases ts with
  | nil => rw [at_nil h]; simp
  | cons t ts =>
    obtain ⟨k, w, n⟩ := t
    rw [(at_next h).2.1]
    have h2 := hn _ rfl
    simp only at h2
    simp
    intro _; omega
theorem at_codeL : ∀ (l : List Ins) (f : Nat) (r : Rs) (out : List Ins) (ts : List T3), (∀ x ∈ l, insOk x = true) → out.length + l.length ≤ 48 → l.length < f →
    At r (tks (l.flatMap codeF) ++ ts) → noOp ts → (Rs.codeL f r out).1 = out ++ l ∧ At (Rs.codeL f r out).2 ts
  | _, 0, _, _, _, _, _, hf, _, _ => by omega
  | [], f + 1, r, out, ts, _, _, _, h, hn => by
    have h : At r ts := h
    unfold Rs.codeL
    rw [if_neg (by rw [at_noOp h hn]; decide)]
    exact ⟨by simp, h⟩
  | x :: l, f + 1, r, out, ts, hs, hl, hf, h, hn => by
    have h : At r (tks (codeF x) ++ (tks (l.flatMap codeF) ++ ts)) := by
      simpa [tks, List.flatMap_cons] using h
    simp only [List.length_cons] at hl hf
    obtain ⟨g1, g2, g3⟩ := at_instr (many := out.length) (hs x (by simp)) (by omega) h
    unfold Rs.codeL
    rw [if_pos g1, g2]
    have := at_codeL l f _ (out ++ [x]) ts (fun y hy => hs y (by simp [hy])) (by simp; omega) (by omega) g3 hn
    exact ⟨by rw [this.1]; simp, this.2⟩
theorem cat_parts {c : Cat} (h : catOk c = true) : freshW c.name = true ∧ (0 ≤ c.fr ∧ c.fr ≤ 48) ∧ (0 ≤ c.up ∧ c.up ≤ 48) ∧ 0 ≤ c.at' ∧ c.at' ≤ 48 := by
  unfold catOk catchF at h
  rw [Bool.and_eq_true, Bool.and_eq_true, Bool.and_eq_true] at h
  obtain ⟨⟨⟨h1, h2⟩, h3⟩, h4⟩ := h
  exact ⟨h1, of_decide_eq_true h2, of_decide_eq_true h3, of_decide_eq_true h4⟩
theorem at_catch {c : Cat} {r : Rs} {ts : List T3} {many : Int} (hc : catOk c = true) (hm : many < 4) (h : At r (tks (catF c) ++ ts)) : r.is wCatch = true ∧ (r.ca1 many).catV = c ∧ At (r.ca1 many).catR ts := by
  obtain ⟨h1, h2, h3, h4⟩ := cat_parts hc
  have h : At r ((1, wCatch, 0) :: (1, c.name, 0) :: (2, noS, c.fr) :: (2, noS, c.up) :: (2, noS, c.at') :: (3, wSemi, 0) :: ts) := by
    rw [← T_catch.1, ← (fresh_T h1).1, ← (num_T (n := c.fr) ⟨by omega, by omega⟩).1, ← (num_T (n := c.up) ⟨by omega, by omega⟩).1, ← (num_T (n := c.at') ⟨by omega, by omega⟩).1, ← T_semi.1]
    exact h
  have g1 := at_want h (by decide)
  obtain ⟨-, f2, f3⟩ := at_fresh g1 (fresh_T h1).2.2
  obtain ⟨a1, a2⟩ := at_num f3 h2.1 h2.2
  obtain ⟨b1, b2⟩ := at_num a2 h3.1 h3.2
  obtain ⟨c1, c2⟩ := at_num b2 h4.1 h4.2
  refine ⟨at_yes h (by decide), ?_, ?_⟩
  · unfold Rs.ca1 Rs.catV
    rw [room_lt _ hm, f2, a1, b1, c1]
  · unfold Rs.ca1 Rs.catR
    rw [room_lt _ hm]
    exact at_want c2 (by decide)
theorem at_catchL : ∀ (l : List Cat) (f : Nat) (r : Rs) (out : List Cat) (ts : List T3), (∀ x ∈ l, catOk x = true) → out.length + l.length ≤ 4 → l.length < f →
    At r (tks (l.flatMap catF) ++ ts) → noW ts wCatch → (Rs.catchL f r out).1 = out ++ l ∧ At (Rs.catchL f r out).2 ts
  | _, 0, _, _, _, _, _, hf, _, _ => by omega
  | [], f + 1, r, out, ts, _, _, _, h, hn => by
    have h : At r ts := h
    unfold Rs.catchL
    rw [if_neg (by rw [at_noW h hn]; decide)]
    exact ⟨by simp, h⟩
  | x :: l, f + 1, r, out, ts, hs, hl, hf, h, hn => by
    have h : At r (tks (catF x) ++ (tks (l.flatMap catF) ++ ts)) := by
      simpa [tks, List.flatMap_cons] using h
    simp only [List.length_cons] at hl hf
    obtain ⟨g1, g2, g3⟩ := at_catch (many := out.length) (hs x (by simp)) (by omega) h
    unfold Rs.catchL
    rw [if_pos g1, g2]
    have := at_catchL l f _ (out ++ [x]) ts (fun y hy => hs y (by simp [hy])) (by simp; omega) (by omega) g3 hn
    exact ⟨by rw [this.1]; simp, this.2⟩
end Go.Proofs.YtimhbimpaiiceaaDoor.Ax
/- Layers parse and show: what is shown is read again: members, classes, programs. -/
set_option linter.unusedVariables false
set_option linter.unusedSimpArgs false
namespace Go.Proofs.YtimhbimpaiiceaaDoor.Ax
open Go Go.RowKit
theorem noOp_cons {k n : Int} {w : ByteArray} {ts : List T3} (h : opV w < 0) : noOp ((k, w, n) :: ts) := fun t e => by
  cases e; exact h
def bodyW (m : Meth) : List ByteArray := [wLocals, dig m.locals, wLc] ++ (m.code.flatMap codeF ++ (m.catches.flatMap catF ++ [wRc]))
theorem at_body {m m0 : Meth} {r : Rs} {ts : List T3} (hl : 0 ≤ m.locals ∧ m.locals ≤ 8) (h1 : ∀ x ∈ m.code, insOk x = true) (h2 : m.code.length ≤ 48) (h3 : ∀ x ∈ m.catches, catOk x = true) (h4 : m.catches.length ≤ 4)
    (h : At r (tks (bodyW m) ++ ts)) : r.bodyV m0 = ⟨m0.name, m0.static, m0.abs, m0.params, m0.ret, m.locals, m.code, m.catches⟩ ∧ At r.body ts := by
  have h : At r ((1, wLocals, 0) :: (2, noS, m.locals) :: (3, wLc, 0) :: (tks (m.code.flatMap codeF) ++ (tks (m.catches.flatMap catF) ++ (3, wRc, 0) :: ts))) := by
    rw [← T_locals.1, ← (num_T (n := m.locals) ⟨by omega, by omega⟩).1, ← T_lc.1, ← T_rc.1]
    have := h
    unfold bodyW at this
    simpa [tks] using this
  have g1 := at_want h (by decide)
  obtain ⟨a1, a2⟩ := at_num g1 hl.1 hl.2
  have g2 : At r.bo1 _ := at_want a2 (by decide)
  have hL : r.bo1.L = r.L := (Rs.bo1_fwd r).L
  have hlen := at_len g2
  rw [hL] at hlen
  have hf1 := flat_len codeF m.code (fun x _ => by simp [codeF])
  have hf2 := flat_len catF m.catches (fun x _ => by simp [catF])
  simp only [List.length_cons, List.length_append, List.length_map] at hlen
  have hno : noOp (tks (m.catches.flatMap catF) ++ (3, wRc, 0) :: ts) := by
    cases m.catches with
    | nil => exact noOp_cons (by decide +kernel)
    | cons c l =>
      show noOp (tokT wCatch :: _)
      rw [T_catch.1]
      exact noOp_cons (by decide +kernel)
  obtain ⟨b1, b2⟩ := at_codeL m.code (r.L.length + 2) r.bo1 [] _ h1 (by simp; omega) (by omega) g2 hno
  obtain ⟨c1, c2⟩ := at_catchL m.catches (r.L.length + 2) r.boCode.2 [] _ h3 (by simp; omega) (by omega) b2 (noW_cons (by decide))
  refine ⟨?_, at_want c2 (by decide)⟩
  unfold Rs.bodyV
  rw [a1, show r.boCode.1 = m.code from b1, show r.boCat.1 = m.catches from c1]
theorem meth_parts {m : Meth} (h : methOk m = true) : (m.abs = true → m.locals = 0 ∧ m.code = [] ∧ m.catches = []) ∧ freshW m.name = true ∧ (m.params.length ≤ 4 ∧ ∀ t ∈ m.params, tyOk t = true) ∧ tyOk m.ret = true ∧ (0 ≤ m.locals ∧ m.locals ≤ 8) ∧
    (m.code.length ≤ 48 ∧ ∀ x ∈ m.code, insOk x = true) ∧ m.catches.length ≤ 4 ∧ ∀ x ∈ m.catches, catOk x = true := by
  unfold methOk inF at h
  simp only [Bool.and_eq_true, decide_eq_true_eq, List.all_eq_true, Bool.not_eq_true', Bool.and_eq_false_iff, Bool.or_eq_false_iff, decide_eq_false_iff_not] at h
  obtain ⟨h1, h2, h3, h4, h5, h6, h7⟩ := h
  refine ⟨fun ha => ?_, h2, h3, h4, h5, h6, h7⟩
  rcases h1 with h1 | h1
  · rw [ha] at h1; cases h1
  · refine ⟨Classical.byContradiction h1.1, ?_, ?_⟩
    · exact List.eq_nil_of_length_eq_zero (by omega)
    · exact List.eq_nil_of_length_eq_zero (by omega)
def methT (m : Meth) : List ByteArray := if m.abs then [wSemi] else bodyW m
theorem at_meth {m : Meth} {r : Rs} {ts : List T3} (hm : methOk m = true) (h : At r (tokT m.name :: tokT wLp :: (tks (paramsF m.params) ++ tokT wRp :: (tks (kindW m.ret) ++ (tks (methT m) ++ ts))))) : r.mmV m.static = m ∧ At r.mmR ts := by
  obtain ⟨p1, p2, p3, p4, p5, p6, p7⟩ := meth_parts hm
  rw [(fresh_T p2).1] at h
  obtain ⟨-, f2, f3⟩ := at_fresh h (fresh_T p2).2.2
  obtain ⟨g1, g2⟩ := at_params p3.2 p3.1 f3
  cases hab : m.abs with
  | true =>
    have hT : methT m = [wSemi] := if_pos hab
    rw [hT] at g2
    have g2 : At r.fresh.params.2 (tks (kindW m.ret) ++ (3, wSemi, 0) :: ts) := by rw [← T_semi.1]; exact g2
    obtain ⟨k1, k2⟩ := at_kind p4 g2 (noW_cons (by decide))
    have hs : r.mm1.is wSemi = true := at_yes k2 (by decide)
    obtain ⟨q1, q2, q3⟩ := p1 hab
    unfold Rs.mmV Rs.mmR
    rw [if_pos hs, if_pos hs]
    refine ⟨?_, (at_cons k2).2.2⟩
    unfold Rs.mm1V
    rw [hs, f2, g1, k1]
    cases m; simp_all
  | false =>
    have hT : methT m = bodyW m := if_neg (by rw [hab]; decide)
    rw [hT] at g2
    have hb : noW (tks (bodyW m) ++ ts) wLb := by
      show noW (tokT wLocals :: _) wLb
      rw [T_locals.1]
      exact noW_cons (by decide)
    obtain ⟨k1, k2⟩ := at_kind p4 g2 hb
    have hs : r.mm1.is wSemi = false := by
      refine at_noW k2 ?_
      show noW (tokT wLocals :: _) wSemi
      rw [T_locals.1]
      exact noW_cons (by decide)
    obtain ⟨b1, b2⟩ := at_body (m0 := r.mm1V m.static) p5 p6.2 p6.1 p7.2 p7.1 k2
    unfold Rs.mmV Rs.mmR
    rw [if_neg (by rw [hs]; decide), if_neg (by rw [hs]; decide)]
    refine ⟨?_, b2⟩
    rw [show r.mm1.bodyV (r.mm1V m.static) = _ from b1]
    unfold Rs.mm1V
    simp only
    rw [hs, f2, g1, k1]
    cases m; simp_all
theorem at_member_f {x : Fld} {r : Rs} {c : Cls} {ts : List T3} (hf : fldOk x = true) (hc : c.fields.length < 6) (h : At r (tks (fldF x) ++ ts)) :
    r.is wRc = false ∧ (r.member c).1 = ⟨c.name, c.iface, c.super, c.ifaces, c.fields ++ [x], c.methods⟩ ∧ At (r.member c).2 ts := by
  unfold fldOk at hf
  rw [Bool.and_eq_true] at hf
  have h : At r ((1, if x.static then wStatic else wField, 0) :: (1, x.name, 0) :: (3, wColon, 0) :: (tks (kindW x.type) ++ (3, wSemi, 0) :: ts)) := by
    rw [← (fresh_T hf.1).1, ← T_colon.1, ← T_semi.1]
    have e : (1, if x.static then wStatic else wField, 0) = tokT (if x.static then wStatic else wField) := by
      cases x.static
      · exact T_field.1.symm
      · exact T_static.1.symm
    rw [e]
    have := h
    unfold fldF at this
    simpa [tks] using this
  have hw : (if x.static then wStatic else wField) ≠ noS := by cases x.static <;> decide
  have hn := (at_next h).2.1
  have g1 := at_want h hw
  obtain ⟨-, f2, f3⟩ := at_fresh g1 (fresh_T hf.1).2.2
  have g2 := at_want f3 (by decide)
  obtain ⟨k1, k2⟩ := at_kind hf.2 g2 (noW_cons (by decide))
  have hor : r.next.2.1 = wField ∨ r.next.2.1 = wStatic := by
    rw [hn]; cases x.static
    · exact .inl rfl
    · exact .inr rfl
  have hst : decide (r.next.2.1 = wStatic) = x.static := by
    rw [hn]; cases x.static <;> decide
  refine ⟨at_no h (by cases x.static <;> decide), ?_, ?_⟩
  · unfold Rs.member Rs.memF
    rw [if_pos hor, room_lt _ (by omega), hn]
    simp only
    unfold Rs.mfV
    rw [f2, k1, ← hn, hst]
  · unfold Rs.member Rs.memF
    rw [if_pos hor, room_lt _ (by omega), hn]
    exact at_want k2 (by decide)
theorem at_member_m {x : Meth} {r : Rs} {c : Cls} {ts : List T3} (hf : methOk x = true) (hc : c.methods.length < 6) (h : At r (tks (doesF x) ++ ts)) :
    r.is wRc = false ∧ (r.member c).1 = ⟨c.name, c.iface, c.super, c.ifaces, c.fields, c.methods ++ [x]⟩ ∧ At (r.member c).2 ts := by
  have h : At r ((1, if x.static then wFunction else wMethod, 0) :: tokT x.name :: tokT wLp :: (tks (paramsF x.params) ++ tokT wRp :: (tks (kindW x.ret) ++ (tks (methT x) ++ ts)))) := by
    have e : (1, if x.static then wFunction else wMethod, 0) = tokT (if x.static then wFunction else wMethod) := by
      cases x.static
      · exact T_method.1.symm
      · exact T_function.1.symm
    rw [e]
    have := h
    unfold doesF at this
    unfold methT bodyW
    simpa [tks] using this
  have hw : (if x.static then wFunction else wMethod) ≠ noS := by cases x.static <;> decide
  have hn := (at_next h).2.1
  have g1 := at_want h hw
  obtain ⟨m1, m2⟩ := at_meth hf g1
  have hno : ¬ (r.next.2.1 = wField ∨ r.next.2.1 = wStatic) := by
    rw [hn]; cases x.static <;> decide
  have hor : r.next.2.1 = wMethod ∨ r.next.2.1 = wFunction := by
    rw [hn]; cases x.static
    · exact .inl rfl
    · exact .inr rfl
  have hst : decide (r.next.2.1 = wFunction) = x.static := by
    rw [hn]; cases x.static <;> decide
  refine ⟨at_no h (by cases x.static <;> decide), ?_, ?_⟩
  · unfold Rs.member Rs.memF
    rw [if_neg hno, if_pos hor, room_lt _ (by omega), hst, hn]
    simp only
    rw [m1]
  · unfold Rs.member Rs.memF
    rw [if_neg hno, if_pos hor, room_lt _ (by omega), hn]
    exact m2
theorem at_fields : ∀ (l : List Fld) (f : Nat) (r : Rs) (c : Cls) (ts : List T3), (∀ x ∈ l, fldOk x = true) → c.fields.length + l.length ≤ 6 → l.length ≤ f → At r (tks (l.flatMap fldF) ++ ts) →
    ∃ r', At r' ts ∧ r'.L = r.L ∧ Rs.clsL f r c = Rs.clsL (f - l.length) r' ⟨c.name, c.iface, c.super, c.ifaces, c.fields ++ l, c.methods⟩
  | [], f, r, c, ts, _, _, _, h => ⟨r, h, rfl, by rw [List.append_nil]; rfl⟩
  | x :: l, 0, _, _, _, _, _, hf, _ => by simp at hf
  | x :: l, f + 1, r, c, ts, hs, hl, hf, h => by
    have h : At r (tks (fldF x) ++ (tks (l.flatMap fldF) ++ ts)) := by
      simpa [tks, List.flatMap_cons] using h
    simp only [List.length_cons] at hl hf
    obtain ⟨g1, g2, g3⟩ := at_member_f (c := c) (hs x (by simp)) (by omega) h
    obtain ⟨r', i1, i2, i3⟩ := at_fields l f (r.member c).2 (r.member c).1 ts (fun y hy => hs y (by simp [hy])) (by rw [g2]; simp; omega) (by omega) g3
    refine ⟨r', i1, i2.trans (Rs.member_fwd r c).L, ?_⟩
    rw [Rs.clsL, if_pos h.e, if_neg (by rw [g1]; decide), i3, g2]
    simp only [List.append_assoc, List.singleton_append, List.length_cons]
    rw [show f + 1 - (l.length + 1) = f - l.length by omega]
theorem at_methods : ∀ (l : List Meth) (f : Nat) (r : Rs) (c : Cls) (ts : List T3), (∀ x ∈ l, methOk x = true) → c.methods.length + l.length ≤ 6 → l.length ≤ f → At r (tks (l.flatMap doesF) ++ ts) →
    ∃ r', At r' ts ∧ r'.L = r.L ∧ Rs.clsL f r c = Rs.clsL (f - l.length) r' ⟨c.name, c.iface, c.super, c.ifaces, c.fields, c.methods ++ l⟩
  | [], f, r, c, ts, _, _, _, h => ⟨r, h, rfl, by rw [List.append_nil]; rfl⟩
  | x :: l, 0, _, _, _, _, _, hf, _ => by simp at hf
  | x :: l, f + 1, r, c, ts, hs, hl, hf, h => by
    have h : At r (tks (doesF x) ++ (tks (l.flatMap doesF) ++ ts)) := by
      simpa [tks, List.flatMap_cons] using h
    simp only [List.length_cons] at hl hf
    obtain ⟨g1, g2, g3⟩ := at_member_m (c := c) (hs x (by simp)) (by omega) h
    obtain ⟨r', i1, i2, i3⟩ := at_methods l f (r.member c).2 (r.member c).1 ts (fun y hy => hs y (by simp [hy])) (by rw [g2]; simp; omega) (by omega) g3
    refine ⟨r', i1, i2.trans (Rs.member_fwd r c).L, ?_⟩
    rw [Rs.clsL, if_pos h.e, if_neg (by rw [g1]; decide), i3, g2]
    simp only [List.append_assoc, List.singleton_append, List.length_cons]
    rw [show f + 1 - (l.length + 1) = f - l.length by omega]
theorem cls_parts {c : Cls} (h : clsOk c = true) : freshW c.name = true ∧ (c.super = noS ∨ (c.iface = false ∧ freshW c.super = true)) ∧ (c.ifaces.length ≤ 4 ∧ ∀ x ∈ c.ifaces, freshW x = true) ∧ (c.fields.length ≤ 6 ∧ ∀ x ∈ c.fields, fldOk x = true) ∧ c.methods.length ≤ 6 ∧ ∀ x ∈ c.methods, methOk x = true := by
  unfold clsOk at h
  simp only [Bool.and_eq_true, Bool.or_eq_true, decide_eq_true_eq, List.all_eq_true, Bool.not_eq_true'] at h
  exact h
theorem at_ex {c : Cls} {r : Rs} {ts : List T3} (h2 : c.super = noS ∨ (c.iface = false ∧ freshW c.super = true)) (h3 : c.ifaces.length ≤ 4 ∧ ∀ x ∈ c.ifaces, freshW x = true)
    (h : At r (tks (if c.super = noS then [] else [wExtends, c.super]) ++ (tks (listF (if c.iface then wExtends else wImplements) c.ifaces) ++ (3, wLc, 0) :: ts))) :
    (r.ex1 c.iface).1.1 = c.super ∧ ((r.ex1 c.iface).2.ex2 c.iface (r.ex1 c.iface).1.2).1 = c.ifaces ∧ At ((r.ex1 c.iface).2.ex2 c.iface (r.ex1 c.iface).1.2).2 ((3, wLc, 0) :: ts) := by
  cases hi : c.iface with
  | true =>
    have hs : c.super = noS := h2.resolve_right fun q => by rw [hi] at q; cases q.1
    rw [hs, if_pos rfl, hi, if_pos rfl] at h
    cases hl : c.ifaces with
    | nil =>
      rw [hl] at h
      have h : At r ((3, wLc, 0) :: ts) := h
      have hn : r.is wExtends = false := at_no h (by decide)
      have e : r.ex1 true = ((noS, []), r) := by unfold Rs.ex1; rw [if_neg (by rw [hn]; decide)]
      rw [e]
      exact ⟨hs.symm, rfl, h⟩
    | cons s l =>
      rw [hl] at h h3
      have h : At r ((1, wExtends, 0) :: tokT s :: (tks (l.flatMap fun x => [wComma, x]) ++ (3, wLc, 0) :: ts)) := by
        rw [← T_extends.1]; exact h
      have hy : r.is wExtends = true := at_yes h (by decide)
      obtain ⟨n1, n2⟩ := at_names h3.2 h3.1 (at_cons h).2.2 (noW_cons (by decide))
      have e : r.ex1 true = ((noS, r.step.names.1), r.step.names.2) := by unfold Rs.ex1; rw [if_pos hy, if_pos rfl]
      rw [e]
      exact ⟨hs.symm, n1, n2⟩
  | false =>
    rw [hi] at h
    have hE : ∃ r', r.ex1 false = ((c.super, []), r') ∧ At r' (tks (listF wImplements c.ifaces) ++ (3, wLc, 0) :: ts) := by
      by_cases hs : c.super = noS
      · rw [if_pos hs] at h
        have h : At r (tks (listF wImplements c.ifaces) ++ (3, wLc, 0) :: ts) := h
        have hn : r.is wExtends = false := by
          refine at_noW h ?_
          cases c.ifaces with
          | nil => exact noW_cons (by decide)
          | cons s l =>
            show noW (tokT wImplements :: _) wExtends
            rw [T_implements.1]
            exact noW_cons (by decide)
        exact ⟨r, by unfold Rs.ex1; rw [if_neg (by rw [hn]; decide), hs], h⟩
      · rw [if_neg hs] at h
        have hf : freshW c.super = true := (h2.resolve_left hs).2
        have h : At r ((1, wExtends, 0) :: (1, c.super, 0) :: (tks (listF wImplements c.ifaces) ++ (3, wLc, 0) :: ts)) := by
          rw [← T_extends.1, ← (fresh_T hf).1]; exact h
        have hy : r.is wExtends = true := at_yes h (by decide)
        obtain ⟨-, f2, f3⟩ := at_fresh (at_cons h).2.2 (fresh_T hf).2.2
        exact ⟨r.step.fresh, by unfold Rs.ex1; rw [if_pos hy, if_neg (by decide), f2], f3⟩
    obtain ⟨r', e1, e2⟩ := hE
    rw [e1]
    cases hl : c.ifaces with
    | nil =>
      rw [hl] at e2
      have e2 : At r' ((3, wLc, 0) :: ts) := e2
      have hn : r'.is wImplements = false := at_no e2 (by decide)
      have e : r'.ex2 false [] = ([], r') := by unfold Rs.ex2; rw [if_neg (by rw [hn]; decide)]
      rw [e]
      exact ⟨rfl, rfl, e2⟩
    | cons s l =>
      rw [hl] at e2 h3
      have e2 : At r' ((1, wImplements, 0) :: tokT s :: (tks (l.flatMap fun x => [wComma, x]) ++ (3, wLc, 0) :: ts)) := by
        rw [← T_implements.1]; exact e2
      have hy : r'.is wImplements = true := at_yes e2 (by decide)
      obtain ⟨n1, n2⟩ := at_names h3.2 h3.1 (at_cons e2).2.2 (noW_cons (by decide))
      have e : r'.ex2 false [] = r'.step.names := by unfold Rs.ex2; rw [if_pos (by rw [hy]; rfl)]
      rw [e]
      exact ⟨rfl, n1, n2⟩
theorem at_class {c : Cls} {r : Rs} {ts : List T3} {many : Int} (hc : clsOk c = true) (hm : many < 10) (h : At r (tks (wordsC c) ++ ts)) : (r.class' many).1 = c ∧ At (r.class' many).2 ts := by
  obtain ⟨h1, h2, h3, h4, h5⟩ := cls_parts hc
  have h : At r ((1, if c.iface then wInterface else wClass, 0) :: (1, c.name, 0) :: (tks (if c.super = noS then [] else [wExtends, c.super]) ++ (tks (listF (if c.iface then wExtends else wImplements) c.ifaces) ++ (3, wLc, 0) :: (tks (c.fields.flatMap fldF) ++ (tks (c.methods.flatMap doesF) ++ (3, wRc, 0) :: ts))))) := by
    have e : (1, if c.iface then wInterface else wClass, 0) = tokT (if c.iface then wInterface else wClass) := by
      cases c.iface
      · exact T_class.1.symm
      · exact T_interface.1.symm
    rw [e, ← (fresh_T h1).1, ← T_lc.1, ← T_rc.1]
    have := h
    unfold wordsC at this
    simpa [tks] using this
  have hw : (if c.iface then wInterface else wClass) ≠ noS := by cases c.iface <;> decide
  have hi : r.is wInterface = c.iface := by
    rw [at_is h]; cases c.iface <;> decide
  have hor : (r.is wClass || r.is wInterface) = true := by
    rw [at_is h, at_is h]; cases c.iface <;> decide
  have e1 : r.cl1 many = r.want (if c.iface then wInterface else wClass) := by
    unfold Rs.cl1
    rw [if_pos hor, room_lt _ hm, hi]
  have g1 := at_want h hw
  obtain ⟨-, f2, f3⟩ := at_fresh g1 (fresh_T h1).2.2
  obtain ⟨x1, x2, x3⟩ := at_ex h2 h3 f3
  have g4 : At (r.clR many) (tks (c.fields.flatMap fldF) ++ (tks (c.methods.flatMap doesF) ++ (3, wRc, 0) :: ts)) := by
    unfold Rs.clR
    rw [e1, hi]
    exact at_want x3 (by decide)
  have hV : r.clV many = ⟨c.name, c.iface, c.super, c.ifaces, [], []⟩ := by
    unfold Rs.clV
    rw [e1, hi, f2, x1, x2]
  have hL : (r.clR many).L = r.L := (Rs.clR_fwd r many).L
  have hlen := at_len g4
  rw [hL] at hlen
  have hf1 := flat_len fldF c.fields (fun x _ => by simp [fldF])
  have hf2 := flat_len doesF c.methods (fun x _ => by simp [doesF])
  simp only [List.length_cons, List.length_append, List.length_map] at hlen
  unfold Rs.class'
  rw [hV]
  obtain ⟨r1, i1, i2, i3⟩ := at_fields c.fields (r.L.length + 2) (r.clR many) ⟨c.name, c.iface, c.super, c.ifaces, [], []⟩ _ h4.2 (by simp; omega) (by omega) g4
  rw [i3]
  obtain ⟨r2, j1, j2, j3⟩ := at_methods c.methods (r.L.length + 2 - c.fields.length) r1 ⟨c.name, c.iface, c.super, c.ifaces, [] ++ c.fields, []⟩ _ h5.2 (by simp; omega) (by omega) i1
  rw [j3]
  obtain ⟨f, hf⟩ : ∃ f, r.L.length + 2 - c.fields.length - c.methods.length = f + 1 := ⟨r.L.length + 2 - c.fields.length - c.methods.length - 1, by omega⟩
  rw [hf, Rs.clsL, if_pos j1.e, if_pos (at_yes j1 (by decide))]
  refine ⟨?_, (at_cons j1).2.2⟩
  cases c; rfl
theorem at_prgL : ∀ (l : List Cls) (f : Nat) (r : Rs) (out : List Cls), (∀ x ∈ l, clsOk x = true) → out.length + l.length ≤ 10 → l.length < f → At r (tks (l.flatMap wordsC)) → (Rs.prgL f r out).1 = out ++ l ∧ (Rs.prgL f r out).2.e = 0
  | _, 0, _, _, _, _, hf, _ => by omega
  | [], f + 1, r, out, _, _, _, h => by
    have hn : ¬ (r.e = 0 ∧ r.i < r.L.length) := fun c => by
      have := at_len h
      simp at this; omega
    rw [Rs.prgL, if_neg hn]
    exact ⟨by simp, h.e⟩
  | x :: l, f + 1, r, out, hs, hl, hf, h => by
    have h : At r (tks (wordsC x) ++ tks (l.flatMap wordsC)) := by
      simpa [tks, List.flatMap_cons] using h
    simp only [List.length_cons] at hl hf
    obtain ⟨g1, g2⟩ := at_class (many := out.length) (hs x (by simp)) (by omega) h
    have hy : r.e = 0 ∧ r.i < r.L.length := ⟨h.e, by
      have := at_len h
      have h2 : 0 < (wordsC x).length := by simp [wordsC]
      simp only [List.length_append, List.length_map] at this
      omega⟩
    rw [Rs.prgL, if_pos hy, g1]
    have := at_prgL l f _ (out ++ [x]) (fun y hy => hs y (by simp [hy])) (by simp; omega) (by omega) g2
    exact ⟨by rw [this.1]; simp, this.2⟩

/-! ### The text's words -/
theorem sep_blank (w : ByteArray) : isBlank (sepOf w) = true ∧ isAl (sepOf w) = false := by
  unfold sepOf
  split
  · exact ⟨by decide, by decide⟩
  · exact ⟨by decide, by decide⟩
theorem scan_words : ∀ (ws : List ByteArray) (i : Nat), (∀ w ∈ ws, tokB w = true) → ∃ l, scanI i (ws.flatMap putW) = (l, none) ∧ l.map s3 = tks ws
  | [], i, _ => ⟨[], scanI_nil i, rfl⟩
  | w :: ws, i, h => by
    obtain ⟨l, h1, h2⟩ := scan_words ws (i + w.data.toList.length + 1) (fun x hx => h x (by simp [hx]))
    have hb := sep_blank w
    refine ⟨setAt (tokenF w.data.toList).1 i :: l, ?_, ?_⟩
    · rw [List.flatMap_cons]
      have e : putW w ++ ws.flatMap putW = w.data.toList ++ (sepOf w :: ws.flatMap putW) := by simp [putW]
      rw [e, scan_word i (w := w.data.toList) (r := sepOf w :: ws.flatMap putW) (h w (by simp)) (.inr hb.2)]
      have := scan_blanks (i + w.data.toList.length) [sepOf w] (ws.flatMap putW) (by simp [hb.1])
      rw [show sepOf w :: ws.flatMap putW = [sepOf w] ++ ws.flatMap putW from rfl, this]
      simp only [List.length_cons, List.length_nil]
      rw [h1]
    · rw [List.map_cons, h2]; rfl
theorem kind_tok {t : Ty} (ht : tyOk t = true) : ∀ w ∈ kindW t, tokB w = true := by
  obtain ⟨k, s⟩ := t
  unfold tyOk typedF at ht
  unfold kindW kindF
  simp only at ht ⊢
  have a1 : tokB (⟨#[118, 111, 105, 100]⟩ : ByteArray) = true := T_void.2
  have a2 : tokB (⟨#[105, 110, 116]⟩ : ByteArray) = true := T_int.2
  have a3 : tokB (⟨#[91]⟩ : ByteArray) = true := T_lb.2
  have a4 : tokB (⟨#[93]⟩ : ByteArray) = true := T_rb.2
  by_cases h1 : k = 1
  · rw [if_pos h1]; intro w hw; simp at hw; rw [hw]; exact a1
  · rw [if_neg h1]
    by_cases h2 : k = 2
    · rw [if_pos h2]; intro w hw; simp at hw; rw [hw]; exact a2
    · rw [if_neg h2]
      by_cases h4 : k = 4
      · rw [if_pos h4]; intro w hw; simp at hw; rcases hw with rfl | rfl | rfl <;> assumption
      · rw [if_neg h4]
        rw [if_neg (by omega)] at ht
        have h35 : k = 3 ∨ k = 5 := by
          by_cases c : k = 3 ∨ k = 5
          · exact c
          · rw [if_neg c] at ht; cases ht
        rw [if_pos h35] at ht
        have hf : freshW s = true := ht
        have a5 := (fresh_T hf).2.1
        by_cases h5 : k = 5
        · rw [if_pos h5]; intro w hw; simp at hw; rcases hw with rfl | rfl | rfl <;> assumption
        · rw [if_neg h5]; intro w hw; simp at hw; rw [hw]; exact a5
def Toks (ws : List ByteArray) : Prop := ∀ w ∈ ws, tokB w = true
theorem Toks.app {a b : List ByteArray} (h : Toks a) (k : Toks b) : Toks (a ++ b) := fun w hw => (List.mem_append.1 hw).elim (h w) (k w)
theorem Toks.nil : Toks [] := fun _ h => by cases h
theorem Toks.cons {w : ByteArray} {ws : List ByteArray} (h : tokB w = true) (k : Toks ws) : Toks (w :: ws) := fun x hx => (List.mem_cons.1 hx).elim (fun e => e ▸ h) (k x)
theorem Toks.flat {α : Type} {g : α → List ByteArray} {l : List α} (h : ∀ x ∈ l, Toks (g x)) : Toks (l.flatMap g) := fun w hw => by
  obtain ⟨x, h1, h2⟩ := List.mem_flatMap.1 hw
  exact h x h1 w h2
theorem code_tok {x : Ins} (hx : insOk x = true) : Toks (codeF x) := by
  obtain ⟨h1, h2, h3, h4, h5, h6⟩ := ins_parts hx
  have hR := nums_R x.op
  unfold codeF
  refine .app (.cons (name_T (word_op h1 h2).1).2 .nil) (.app ?_ (.app ?_ (.app ?_ (.cons T_semi.2 .nil))))
  · split
    · exact .cons (num_T ⟨by omega, by omega⟩).2 .nil
    · exact .nil
  · split
    · exact .nil
    · rename_i hne
      cases hb : decide (namesF x.op > 0) with
      | true => rw [hb] at h5; exact .cons (fresh_T ((named_T h5).1 rfl)).2.1 .nil
      | false => rw [hb] at h5; exact absurd ((named_T h5).2 rfl) hne
  · split
    · exact .nil
    · rename_i hne
      cases hb : decide (namesF x.op > 1) with
      | true => rw [hb] at h6; exact .cons (fresh_T ((named_T h6).1 rfl)).2.1 .nil
      | false => rw [hb] at h6; exact absurd ((named_T h6).2 rfl) hne
theorem cat_tok {c : Cat} (hc : catOk c = true) : Toks (catF c) := by
  obtain ⟨h1, h2, h3, h4⟩ := cat_parts hc
  exact .cons T_catch.2 (.cons (fresh_T h1).2.1 (.cons (num_T ⟨by omega, by omega⟩).2 (.cons (num_T ⟨by omega, by omega⟩).2 (.cons (num_T ⟨by omega, by omega⟩).2 (.cons T_semi.2 .nil)))))
theorem params_tok {ps : List Ty} (h : ∀ t ∈ ps, tyOk t = true) : Toks (paramsF ps) := by
  cases ps with
  | nil => exact .nil
  | cons t l =>
    unfold paramsF
    exact .app (kind_tok (h t (by simp))) (.flat fun x hx => .cons T_comma.2 (kind_tok (h x (by simp [hx]))))
theorem does_tok {m : Meth} (hm : methOk m = true) : Toks (doesF m) := by
  obtain ⟨p1, p2, p3, p4, p5, p6, p7⟩ := meth_parts hm
  unfold doesF
  refine .app (.cons ?_ (.cons (fresh_T p2).2.1 (.cons T_lp.2 .nil))) (.app (params_tok p3.2) (.app (.cons T_rp.2 .nil) (.app (kind_tok p4) ?_)))
  · split
    · exact T_function.2
    · exact T_method.2
  · split
    · exact .cons T_semi.2 .nil
    · exact .app (.cons T_locals.2 (.cons (num_T ⟨by omega, by omega⟩).2 (.cons T_lc.2 .nil))) (.app (.flat fun x hx => code_tok (p6.2 x hx)) (.app (.flat fun x hx => cat_tok (p7.2 x hx)) (.cons T_rc.2 .nil)))
theorem fld_tok {f : Fld} (hf : fldOk f = true) : Toks (fldF f) := by
  unfold fldOk at hf
  rw [Bool.and_eq_true] at hf
  unfold fldF
  refine .app (.cons ?_ (.cons (fresh_T hf.1).2.1 (.cons T_colon.2 .nil))) (.app (kind_tok hf.2) (.cons T_semi.2 .nil))
  split
  · exact T_static.2
  · exact T_field.2
theorem cls_tok {c : Cls} (hc : clsOk c = true) : Toks (wordsC c) := by
  obtain ⟨h1, h2, h3, h4, h5⟩ := cls_parts hc
  unfold wordsC
  refine .app (.cons ?_ (.cons (fresh_T h1).2.1 .nil)) (.app ?_ (.app ?_ (.app (.cons T_lc.2 .nil) (.app (.flat fun x hx => fld_tok (h4.2 x hx)) (.app (.flat fun x hx => does_tok (h5.2 x hx)) (.cons T_rc.2 .nil))))))
  · split
    · exact T_interface.2
    · exact T_class.2
  · split
    · exact .nil
    · rename_i hne
      exact .cons T_extends.2 (.cons (fresh_T (h2.resolve_left hne).2).2.1 .nil)
  · cases hl : c.ifaces with
    | nil => exact .nil
    | cons s l =>
      rw [hl] at h3
      refine .app (.cons ?_ (.cons (fresh_T (h3.2 s (by simp))).2.1 .nil)) (.flat fun x hx => .cons T_comma.2 (.cons (fresh_T (h3.2 x (by simp [hx]))).2.1 .nil))
      split
      · exact T_extends.2
      · exact T_implements.2
theorem prg_parts {p : List Cls} (h : prgOk p = true) : p.length ≤ 10 ∧ ∀ c ∈ p, clsOk c = true := by
  unfold prgOk at h
  simpa using h
theorem text_words (p : List Cls) : textP p = (p.flatMap wordsC).flatMap putW := by
  unfold textP
  rw [List.flatMap_assoc]; rfl
theorem scan_text {p : List Cls} (h : prgOk p = true) (hl : (textP p).length ≤ 6000) : ∃ l, scanF (textP p) = (l, 0, 0) ∧ l.map s3 = tks (p.flatMap wordsC) := by
  obtain ⟨l, h1, h2⟩ := scan_words (p.flatMap wordsC) 0 (Toks.flat fun c hc => cls_tok ((prg_parts h).2 c hc))
  refine ⟨l, ?_, h2⟩
  rw [← text_words] at h1
  unfold scanF
  rw [if_neg (by omega), h1]
theorem parse_text {p : List Cls} (h : prgOk p = true) (hl : (textP p).length ≤ 6000) : parseF (textP p) = (p, 0, 0) := by
  obtain ⟨l, h1, h2⟩ := scan_text h hl
  obtain ⟨h3, h4⟩ := prg_parts h
  have hat : At (parse0 (textP p)) (tks (p.flatMap wordsC)) := ⟨rfl, by show ((scanF (textP p)).1.drop 0).map s3 = _; rw [h1]; exact h2⟩
  have hlen := at_len hat
  have hfl := flat_len wordsC p (fun x _ => by simp [wordsC])
  have hL : (parse0 (textP p)).L.length - (parse0 (textP p)).i = (scanF (textP p)).1.length := by simp [parse0]
  rw [hL] at hlen
  simp only [List.length_map] at hlen
  have := at_prgL p ((scanF (textP p)).1.length + 2) (parse0 (textP p)) [] h4 (by simpa using h3) (by omega) hat
  unfold parseF
  rw [if_pos (by rw [h1]), if_pos this.2, this.1]
  rfl
end Go.Proofs.YtimhbimpaiiceaaDoor.Ax
/- Layer parse: the reader's small steps. -/
set_option linter.unusedVariables false
set_option linter.unusedSimpArgs false
namespace Go.Proofs.YtimhbimpaiiceaaDoor.Ax
open Go Go.RowKit
/-- what lies in the package variables that the library reads -/
def tabP (w : World) : Prop := tabs w ∧ Lib.TabIs Tryd.prog w "strings.asciiSpace" .u8 Lib.asciiSpaceTab
def rok (r : Rs) : Prop := r.L.length ≤ 1000000 ∧ r.i ≤ r.L.length
theorem rok_fwd {r r' : Rs} (h : rok r) (f : Fwd r r') : rok r' := ⟨by rw [f.L]; exact h.1, f.ok h.2⟩
/-- a contract of a reader's method that only reads -/
def reC (A : Type) (a : A → List SV) (v : Rs → A → Nat → SV) (d : A → Prop) : Ctr := { A := Rs × A, enc := fun x => .elt Unit 5 (fun _ => rsC x.1) () [()] 0 0 :: a x.2, dom := fun x => rok x.1 ∧ d x.2, res := fun x id => v x.1 x.2 id, gl := tabP }
/-- .. that goes on -/
def rdC (A : Type) (a : A → List SV) (v : Rs → A → Nat → SV) (p : Rs → A → Rs) (d : A → Prop) : CtrB := { A := Rs × A, enc := fun x => .box 1000 0 :: a x.2, pre := fun x => [rsC x.1], dom := fun x => rok x.1 ∧ d x.2, res := fun x id => v x.1 x.2 id, post := fun x _ => [rsC (p x.1 x.2)], gl := tabP }
theorem Sub.tokEq {a b : Tok} (h : a = b) : Sub (tokS a) (tokS b) := by subst h; exact .refl _
def nextC : Ctr := reC Unit (fun _ => []) (fun r _ _ => tokS r.next) fun _ => True
set_option maxRecDepth 100000 in
theorem next_ok : CtrSound Tryd.prog 61 nextC :=
  ctr_of_ax (env_okB tys_ok (eqs := []) trivial (cs := []) trivial (bs := []) trivial (gl := tabP)) mixed _ Tryd.func61 (by kernel_rfl) rfl (fun _ _ => Nat.le_of_ble_eq_true rfl) fun ((r, u) : Rs × Unit) id hd => by
    have hd : r.L.length ≤ 1000000 ∧ r.i ≤ r.L.length := hd.1
    refine ⟨by kernel_rfl, ?_⟩
    refine ⟨fun h => ?_, fun h => ?_⟩
    · have e : r.next = tok0 := Rs.next_none fun c => by
        have h : (r.e != 0) = true := h
        rw [c.1] at h; simp at h
      exact ⟨.tokEq e.symm, rfl⟩
    have h1 : r.e = 0 := by
      have h : (r.e != 0) = false := h
      simpa using h
    refine ⟨fun h => ?_, fun h => ?_⟩
    · have h2 : ¬ r.i < r.L.length := by
        have h : decide ((r.i : Int) ≥ (r.L.length : Int)) = true := h
        have := of_decide_eq_true h; omega
      exact ⟨.tokEq (Rs.next_none fun c => h2 c.2).symm, rfl⟩
    have h2 : r.i < r.L.length := by
      have h : decide ((r.i : Int) ≥ (r.L.length : Int)) = false := h
      have := of_decide_eq_false h; omega
    refine ⟨by kernel_rfl, ?_⟩
    refine ⟨(show 0 ≤ (r.i : Int) ∧ (r.i : Int) < (r.L.length : Int) from ⟨by omega, by omega⟩), ?_⟩
    exact ⟨.tokEq (Rs.next_some ⟨h1, h2⟩).symm, rfl⟩
def isC : Ctr := reC ByteArray (fun w => [S w]) (fun r w _ => B (r.is w)) fun _ => True
theorem noS_eq (w : ByteArray) : (w.toList == noS.toList) = decide (w = noS) := ba_eq w noS
set_option maxRecDepth 100000 in
theorem is_ok : CtrSound Tryd.prog 46 isC :=
  ctr_of_ax (env_okB tys_ok (eqs := []) trivial (cs := [(61, nextC)]) ⟨next_ok, trivial⟩ (bs := []) trivial (gl := tabP)) mixed _ Tryd.func46 (by kernel_rfl) rfl (fun _ _ => Nat.le_of_ble_eq_true rfl) fun ((r, w) : Rs × ByteArray) id hd => by
    refine ⟨(r, ()), ⟨.refl _, trivial⟩, rfl, ⟨hd.1, trivial⟩, ?_⟩
    refine ⟨fun h => ?_, fun h => ?_⟩
    · have h : (r.next.2.1.toList == w.toList) = true := h
      rw [ba_eq] at h
      exact ⟨.bool (by show (!(w.toList == noS.toList)) = r.is w; unfold Rs.is; rw [h, noS_eq]; simp), rfl⟩
    · have h : (r.next.2.1.toList == w.toList) = false := h
      rw [ba_eq] at h
      exact ⟨.bff (by unfold Rs.is; rw [h]; rfl), rfl⟩
def failC : CtrB := rdC Int (fun e => [I e]) (fun _ _ _ => .tup []) (fun r e => r.fail e) fun _ => True
theorem rL {a b : Rs} (h : a = b) : a.L = b.L := congrArg Rs.L h
theorem rI {a b : Rs} (h : a = b) : (a.i : Int) = (b.i : Int) := congrArg (fun s : Rs => (s.i : Int)) h
theorem rN {a b : Rs} (h : a = b) : a.n = b.n := congrArg Rs.n h
theorem rA {a b : Rs} (h : a = b) : a.at' = b.at' := congrArg Rs.at' h
theorem rE {a b : Rs} (h : a = b) : a.e = b.e := congrArg Rs.e h
theorem hwI {r : Rs} (hd : rok r) : IntKind.i64.wrap ((r.i : Int) + 1) = (r.step.i : Int) := by
  have h1 := hd.1; have h2 := hd.2
  show _ = ((r.i + 1 : Nat) : Int)
  rw [wrap_eq _ (by omega) (by omega)]; omega
set_option maxRecDepth 100000 in
theorem fail_ok : CtrBSound Tryd.prog 62 failC :=
  ctrB_of_ax2 mixed _ Tryd.func62 (by kernel_rfl) rfl (fun _ _ => ⟨Nat.le_of_ble_eq_true rfl, Nat.le_of_ble_eq_true rfl⟩) fun ((r, e) : Rs × Int) id hd => by
    refine ⟨_, ⟨env_okB tys_ok (eqs := []) trivial (cs := []) trivial (bs := []) trivial (gl := tabP), fun _ h => h⟩, ?_⟩
    have hd : r.L.length ≤ 1000000 ∧ r.i ≤ r.L.length := hd.1
    refine ⟨fun h => ?_, fun h => ?_⟩
    · have h : (r.e != 0) = true := h
      have hE : r = r.fail e := (if_neg (by simpa using h)).symm
      exact ⟨.refl (.tup []), ⟨rfl, .rowEq (rL hE :), .int (rI hE :), .int (rN hE :), .int (rA hE :), .int (rE hE :), trivial⟩, trivial⟩
    have h1 : r.e = 0 := by
      have h : (r.e != 0) = false := h
      simpa using h
    have e1 : r.fail e = ⟨r.L, r.n, r.i, if r.i < r.L.length then (r.L.getD r.i tok0).2.2.2 else r.n, e⟩ := if_pos h1
    refine ⟨by kernel_rfl, ?_⟩
    refine ⟨fun h => ?_, fun h => ?_⟩
    · have h2 : r.i < r.L.length := dlt h
      refine ⟨by kernel_rfl, ?_⟩
      refine ⟨(show 0 ≤ (r.i : Int) ∧ (r.i : Int) < (r.L.length : Int) from ⟨by omega, by omega⟩), ?_⟩
      have hE : (⟨r.L, r.n, r.i, (r.L.getD r.i tok0).2.2.2, e⟩ : Rs) = r.fail e := by rw [e1, if_pos h2]
      exact ⟨.refl (.tup []), ⟨rfl, .rowEq (rL hE :), .int (rI hE :), .int (rN hE :), .int (rA hE :), .int (rE hE :), trivial⟩, trivial⟩
    · have h2 : ¬ r.i < r.L.length := by
        have h : decide ((r.i : Int) < (r.L.length : Int)) = false := h
        have := dge h; omega
      have hE : (⟨r.L, r.n, r.i, r.n, e⟩ : Rs) = r.fail e := by rw [e1, if_neg h2]
      exact ⟨.refl (.tup []), ⟨rfl, .rowEq (rL hE :), .int (rI hE :), .int (rN hE :), .int (rA hE :), .int (rE hE :), trivial⟩, trivial⟩
end Go.Proofs.YtimhbimpaiiceaaDoor.Ax
/- Layer parse: the reader takes words. -/
set_option linter.unusedVariables false
set_option linter.unusedSimpArgs false
namespace Go.Proofs.YtimhbimpaiiceaaDoor.Ax
open Go Go.RowKit
def takeC : CtrB := rdC ByteArray (fun w => [S w]) (fun r w _ => B (r.is w)) (fun r w => r.take w) fun _ => True
set_option maxRecDepth 100000 in
theorem take_ok : CtrBSound Tryd.prog 50 takeC :=
  ctrB_of_ax2 mixed _ Tryd.func50 (by kernel_rfl) rfl (fun _ _ => ⟨Nat.le_of_ble_eq_true rfl, Nat.le_of_ble_eq_true rfl⟩) fun ((r, w) : Rs × ByteArray) id hd => by
    refine ⟨_, ⟨env_okB tys_ok (eqs := []) trivial (cs := [(46, isC)]) ⟨is_ok, trivial⟩ (bs := []) trivial (gl := tabP), fun _ h => h⟩, ?_⟩
    refine ⟨(r, w), ⟨.refl _, .refl _, trivial⟩, rfl, ⟨hd.1, trivial⟩, ?_⟩
    refine ⟨fun h => ?_, fun h => ?_⟩
    · have h : (!r.is w) = true := h
      have h1 : r.is w = false := by simpa using h
      have hE : r = r.take w := (if_neg (by rw [h1]; decide)).symm
      exact ⟨.bff h1, ⟨rfl, .rowEq (rL hE :), .int (rI hE :), .int (rN hE :), .int (rA hE :), .int (rE hE :), trivial⟩, trivial⟩
    · have h : (!r.is w) = false := h
      have h1 : r.is w = true := by simpa using h
      have hE : r.step = r.take w := ((if_pos h1)).symm
      exact ⟨.btt h1, ⟨rfl, .rowEq (rL hE :), .int ((hwI hd.1).trans (rI hE :)), .int (rN hE :), .int (rA hE :), .int (rE hE :), trivial⟩, trivial⟩
def wantC : CtrB := rdC ByteArray (fun w => [S w]) (fun _ _ _ => .tup []) (fun r w => r.want w) fun _ => True
set_option maxRecDepth 100000 in
theorem want_ok : CtrBSound Tryd.prog 48 wantC :=
  ctrB_of_ax2 mixed _ Tryd.func48 (by kernel_rfl) rfl (fun _ _ => ⟨Nat.le_of_ble_eq_true rfl, Nat.le_of_ble_eq_true rfl⟩) fun ((r, w) : Rs × ByteArray) id hd => by
    refine ⟨_, ⟨env_okB tys_ok (eqs := []) trivial (cs := []) trivial (bs := [(50, takeC), (62, failC)]) ⟨take_ok, fail_ok, trivial⟩ (gl := tabP), fun _ h => h⟩, ?_⟩
    refine ⟨by kernel_rfl, ?_⟩
    refine ⟨(r, w), ⟨.refl _, .refl _, trivial⟩, ⟨⟨rfl, .refl _, .refl _, .refl _, .refl _, .refl _, trivial⟩, trivial⟩, ⟨hd.1, trivial⟩, ?_⟩
    refine ⟨fun h => ?_, fun h => ?_⟩
    · have h : (!r.is w) = true := h
      have h1 : r.is w = false := by simpa using h
      refine ⟨by kernel_rfl, ?_⟩
      refine ⟨(r.take w, 4), ⟨.refl _, .refl _, trivial⟩, ⟨⟨rfl, .refl _, .refl _, .refl _, .refl _, .refl _, trivial⟩, trivial⟩, ⟨rok_fwd hd.1 (Rs.take_fwd r w), trivial⟩, ?_⟩
      have hE : (r.take w).fail 4 = r.want w := (by unfold Rs.take Rs.want; rw [if_neg (by rw [h1]; decide), if_neg (by rw [h1]; decide)])
      exact ⟨.refl (.tup []), ⟨rfl, .rowEq (rL hE :), .int (rI hE :), .int (rN hE :), .int (rA hE :), .int (rE hE :), trivial⟩, trivial⟩
    · have h : (!r.is w) = false := h
      have h1 : r.is w = true := by simpa using h
      have hE : r.take w = r.want w := (by unfold Rs.take Rs.want; rw [if_pos h1, if_pos h1])
      exact ⟨.refl (.tup []), ⟨rfl, .rowEq (rL hE :), .int (rI hE :), .int (rN hE :), .int (rA hE :), .int (rE hE :), trivial⟩, trivial⟩
def freeC : Ctr := reC Unit (fun _ => []) (fun r _ _ => B r.free) fun _ => True
set_option maxRecDepth 100000 in
theorem free_ok : CtrSound Tryd.prog 63 freeC :=
  ctr_of_ax (env_okB tys_ok (eqs := []) trivial (cs := [(61, nextC), (14, keptC)]) ⟨next_ok, kept_ok, trivial⟩ (bs := []) trivial (gl := tabP)) mixed _ Tryd.func63 (by kernel_rfl) rfl (fun _ _ => Nat.le_of_ble_eq_true rfl) fun ((r, u) : Rs × Unit) id hd => by
    refine ⟨(r, ()), ⟨.refl _, trivial⟩, rfl, ⟨hd.1, trivial⟩, ?_⟩
    refine ⟨fun h => ?_, fun h => ?_⟩
    · have h : (r.next.1 == 1) = true := h
      refine ⟨r.next.2.1.data.toList, ⟨.refl _, trivial⟩, rfl, trivial, ?_⟩
      exact ⟨.bool (by show (!keptW r.next.2.1) = r.free; unfold Rs.free; rw [eqT h]; rfl), rfl⟩
    · have h : (r.next.1 == 1) = false := h
      exact ⟨.bff (by unfold Rs.free; rw [decide_eq_false (eqF h)]; rfl), rfl⟩
def freshRC : CtrB := rdC Unit (fun _ => []) (fun r _ _ => S r.freshV) (fun r _ => r.fresh) fun _ => True
set_option maxRecDepth 100000 in
theorem freshR_ok : CtrBSound Tryd.prog 49 freshRC :=
  ctrB_of_ax2 mixed _ Tryd.func49 (by kernel_rfl) rfl (fun _ _ => ⟨Nat.le_of_ble_eq_true rfl, Nat.le_of_ble_eq_true rfl⟩) fun ((r, u) : Rs × Unit) id hd => by
    refine ⟨_, ⟨env_okB tys_ok (eqs := []) trivial (cs := [(63, freeC)]) ⟨free_ok, trivial⟩ (bs := [(62, failC)]) ⟨fail_ok, trivial⟩ (gl := tabP), fun _ h => h⟩, ?_⟩
    refine ⟨(r, ()), ⟨.refl _, trivial⟩, rfl, ⟨hd.1, trivial⟩, ?_⟩
    refine ⟨fun h => ?_, fun h => ?_⟩
    · have h : (!r.free) = true := h
      have h1 : r.free = false := by simpa using h
      refine ⟨by kernel_rfl, ?_⟩
      refine ⟨(r, 4), ⟨.refl _, .refl _, trivial⟩, ⟨⟨rfl, .refl _, .refl _, .refl _, .refl _, .refl _, trivial⟩, trivial⟩, ⟨hd.1, trivial⟩, ?_⟩
      have hE : r.fail 4 = r.fresh := (if_neg (by rw [h1]; decide)).symm
      exact ⟨.str (if_neg (by rw [h1]; decide)).symm, ⟨rfl, .rowEq (rL hE :), .int (rI hE :), .int (rN hE :), .int (rA hE :), .int (rE hE :), trivial⟩, trivial⟩
    · have h : (!r.free) = false := h
      have h1 : r.free = true := by simpa using h
      have hat := Rs.free_at h1
      have hk : r.L.length ≤ 1000000 := hd.1.1
      have hk2 : r.i ≤ r.L.length := hd.1.2
      have hw : IntKind.i64.wrap ((r.i : Int) + 1) = ((r.i + 1 : Nat) : Int) := by rw [wrap_eq _ (by omega) (by omega)]; omega
      have hw2 : IntKind.i64.wrap (IntKind.i64.wrap ((r.i : Int) + 1) - 1) = (r.i : Int) := by rw [hw, wrap_eq _ (by omega) (by omega)]; omega
      refine ⟨by kernel_rfl, ?_⟩
      refine ⟨(show 0 ≤ IntKind.i64.wrap (IntKind.i64.wrap ((r.i : Int) + 1) - 1) ∧ IntKind.i64.wrap (IntKind.i64.wrap ((r.i : Int) + 1) - 1) < (r.L.length : Int) by rw [hw2]; omega), ?_⟩
      have hE : r.step = r.fresh := ((if_pos h1)).symm
      refine ⟨.str ?_, ⟨rfl, .rowEq (rL hE :), .int ((hwI hd.1).trans (rI hE :)), .int (rN hE :), .int (rA hE :), .int (rE hE :), trivial⟩, trivial⟩
      show (r.L.getD (IntKind.i64.wrap (IntKind.i64.wrap ((r.i : Int) + 1) - 1)).toNat tok0).2.1 = r.freshV
      rw [hw2]
      unfold Rs.freshV
      rw [if_pos h1, Rs.next_some hat]
      rfl
def numRC : CtrB := rdC (Int × Int) (fun x => [I x.1, I x.2]) (fun r x _ => I (r.numV x.1 x.2)) (fun r x => r.num x.1 x.2) fun _ => True
set_option maxRecDepth 100000 in
theorem numR_ok : CtrBSound Tryd.prog 74 numRC :=
  ctrB_of_ax2 mixed _ Tryd.func74 (by kernel_rfl) rfl (fun _ _ => ⟨Nat.le_of_ble_eq_true rfl, Nat.le_of_ble_eq_true rfl⟩) fun ((r, lo, hi) : Rs × Int × Int) id hd => by
    refine ⟨_, ⟨env_okB tys_ok (eqs := []) trivial (cs := [(61, nextC)]) ⟨next_ok, trivial⟩ (bs := [(62, failC)]) ⟨fail_ok, trivial⟩ (gl := tabP), fun _ h => h⟩, ?_⟩
    refine ⟨(r, ()), ⟨.refl _, trivial⟩, rfl, ⟨hd.1, trivial⟩, ?_⟩
    have no : r.numOk lo hi = false → 0 = r.numV lo hi ∧ r.fail 4 = r.num lo hi := fun h => ⟨(if_neg (by rw [h]; decide)).symm, (if_neg (by rw [h]; decide)).symm⟩
    refine ⟨fun h1 => ?_, fun h1 => ?_⟩
    · have hn : r.numOk lo hi = false := decide_eq_false fun c => by
        have h1 : (r.next.1 != 2) = true := h1
        rw [c.1] at h1; simp at h1
      refine ⟨by kernel_rfl, ?_⟩
      refine ⟨(r, 4), ⟨.refl _, .refl _, trivial⟩, ⟨⟨rfl, .refl _, .refl _, .refl _, .refl _, .refl _, trivial⟩, trivial⟩, ⟨hd.1, trivial⟩, ?_⟩
      have hE := (no hn).2
      exact ⟨.int (no hn).1, ⟨rfl, .rowEq (rL hE :), .int (rI hE :), .int (rN hE :), .int (rA hE :), .int (rE hE :), trivial⟩, trivial⟩
    have h1 : (r.next.1 != 2) = false := h1
    have e1 : r.next.1 = 2 := by simpa using h1
    refine ⟨fun h2 => ?_, fun h2 => ?_⟩
    · have h2 : r.next.2.2.1 < lo := of_decide_eq_true h2
      have hn : r.numOk lo hi = false := decide_eq_false fun c => by omega
      refine ⟨by kernel_rfl, ?_⟩
      refine ⟨(r, 4), ⟨.refl _, .refl _, trivial⟩, ⟨⟨rfl, .refl _, .refl _, .refl _, .refl _, .refl _, trivial⟩, trivial⟩, ⟨hd.1, trivial⟩, ?_⟩
      have hE := (no hn).2
      exact ⟨.int (no hn).1, ⟨rfl, .rowEq (rL hE :), .int (rI hE :), .int (rN hE :), .int (rA hE :), .int (rE hE :), trivial⟩, trivial⟩
    have h2 : ¬ r.next.2.2.1 < lo := of_decide_eq_false h2
    refine ⟨fun h3 => ?_, fun h3 => ?_⟩
    · have h3 : r.next.2.2.1 > hi := of_decide_eq_true h3
      have hn : r.numOk lo hi = false := decide_eq_false fun c => by omega
      refine ⟨by kernel_rfl, ?_⟩
      refine ⟨(r, 4), ⟨.refl _, .refl _, trivial⟩, ⟨⟨rfl, .refl _, .refl _, .refl _, .refl _, .refl _, trivial⟩, trivial⟩, ⟨hd.1, trivial⟩, ?_⟩
      have hE := (no hn).2
      exact ⟨.int (no hn).1, ⟨rfl, .rowEq (rL hE :), .int (rI hE :), .int (rN hE :), .int (rA hE :), .int (rE hE :), trivial⟩, trivial⟩
    have h3 : ¬ r.next.2.2.1 > hi := of_decide_eq_false h3
    have hy : r.numOk lo hi = true := decide_eq_true ⟨e1, by omega, by omega⟩
    have hE : r.step = r.num lo hi := ((if_pos hy)).symm
    exact ⟨.int (if_pos hy).symm, ⟨rfl, .rowEq (rL hE :), .int ((hwI hd.1).trans (rI hE :)), .int (rN hE :), .int (rA hE :), .int (rE hE :), trivial⟩, trivial⟩
def roomC : CtrB := rdC (Int × Int) (fun x => [I x.1, I x.2]) (fun _ _ _ => .tup []) (fun r x => r.room x.1 x.2) fun _ => True
set_option maxRecDepth 100000 in
theorem room_ok : CtrBSound Tryd.prog 47 roomC :=
  ctrB_of_ax2 mixed _ Tryd.func47 (by kernel_rfl) rfl (fun _ _ => ⟨Nat.le_of_ble_eq_true rfl, Nat.le_of_ble_eq_true rfl⟩) fun ((r, a, b) : Rs × Int × Int) id hd => by
    refine ⟨_, ⟨env_okB tys_ok (eqs := []) trivial (cs := []) trivial (bs := [(62, failC)]) ⟨fail_ok, trivial⟩ (gl := tabP), fun _ h => h⟩, ?_⟩
    refine ⟨fun h => ?_, fun h => ?_⟩
    · have h : a ≥ b := of_decide_eq_true h
      refine ⟨by kernel_rfl, ?_⟩
      refine ⟨(r, 2), ⟨.refl _, .refl _, trivial⟩, ⟨⟨rfl, .refl _, .refl _, .refl _, .refl _, .refl _, trivial⟩, trivial⟩, ⟨hd.1, trivial⟩, ?_⟩
      have hE : r.fail 2 = r.room a b := (if_pos h).symm
      exact ⟨.refl (.tup []), ⟨rfl, .rowEq (rL hE :), .int (rI hE :), .int (rN hE :), .int (rA hE :), .int (rE hE :), trivial⟩, trivial⟩
    · have h : ¬ a ≥ b := of_decide_eq_false h
      have hE : r = r.room a b := (if_neg h).symm
      exact ⟨.refl (.tup []), ⟨rfl, .rowEq (rL hE :), .int (rI hE :), .int (rN hE :), .int (rA hE :), .int (rE hE :), trivial⟩, trivial⟩
def rowRC : CtrB := rdC Unit (fun _ => []) (fun r _ _ => B (r.is wLb)) (fun r _ => r.rowR) fun _ => True
set_option maxRecDepth 100000 in
theorem rowR_ok : CtrBSound Tryd.prog 73 rowRC :=
  ctrB_of_ax2 mixed _ Tryd.func73 (by kernel_rfl) rfl (fun _ _ => ⟨Nat.le_of_ble_eq_true rfl, Nat.le_of_ble_eq_true rfl⟩) fun ((r, u) : Rs × Unit) id hd => by
    refine ⟨_, ⟨env_okB tys_ok (eqs := []) trivial (cs := []) trivial (bs := [(50, takeC), (48, wantC)]) ⟨take_ok, want_ok, trivial⟩ (gl := tabP), fun _ h => h⟩, ?_⟩
    refine ⟨by kernel_rfl, ?_⟩
    refine ⟨(r, wLb), ⟨.refl _, .str rfl, trivial⟩, ⟨⟨rfl, .refl _, .refl _, .refl _, .refl _, .refl _, trivial⟩, trivial⟩, ⟨hd.1, trivial⟩, ?_⟩
    refine ⟨fun h => ?_, fun h => ?_⟩
    · have h : (!r.is wLb) = true := h
      have h1 : r.is wLb = false := by simpa using h
      have hE : r.take wLb = r.rowR := (by unfold Rs.take Rs.rowR; rw [if_neg (by rw [h1]; decide), if_neg (by rw [h1]; decide)])
      exact ⟨.bff h1, ⟨rfl, .rowEq (rL hE :), .int (rI hE :), .int (rN hE :), .int (rA hE :), .int (rE hE :), trivial⟩, trivial⟩
    · have h : (!r.is wLb) = false := h
      have h1 : r.is wLb = true := by simpa using h
      refine ⟨by kernel_rfl, ?_⟩
      refine ⟨(r.take wLb, wRb), ⟨.refl _, .str rfl, trivial⟩, ⟨⟨rfl, .refl _, .refl _, .refl _, .refl _, .refl _, trivial⟩, trivial⟩, ⟨rok_fwd hd.1 (Rs.take_fwd r wLb), trivial⟩, ?_⟩
      have hE : (r.take wLb).want wRb = r.rowR := (by unfold Rs.take Rs.rowR; rw [if_pos h1, if_pos h1])
      exact ⟨.btt h1, ⟨rfl, .rowEq (rL hE :), .int (rI hE :), .int (rN hE :), .int (rA hE :), .int (rE hE :), trivial⟩, trivial⟩
end Go.Proofs.YtimhbimpaiiceaaDoor.Ax
/- Layer parse: names, types, parameters. -/
set_option linter.unusedVariables false
set_option linter.unusedSimpArgs false
namespace Go.Proofs.YtimhbimpaiiceaaDoor.Ax
open Go Go.RowKit
theorem notT {b : Bool} (h : (!b) = true) : b = false := by simpa using h
theorem notF {b : Bool} (h : (!b) = false) : b = true := by simpa using h
theorem take_yes {r : Rs} {w : ByteArray} (h : r.is w = true) : r.take w = r.step := if_pos h
theorem take_no {r : Rs} {w : ByteArray} (h : r.is w = false) : r.take w = r := if_neg (by rw [h]; decide)
theorem need_le (r : Rs) : r.need ≤ r.L.length + 2 := by
  unfold Rs.need
  split <;> omega
def nmsC : CtrB := rdC Unit (fun _ => []) (fun r _ id => .own ByteArray 1 strC noS r.names.1 id) (fun r _ => r.names.2) fun _ => True
set_option maxRecDepth 100000 in
theorem nms_ok : CtrBSound Tryd.prog 51 nmsC :=
  ctrB_of_ax2 mixed _ Tryd.func51 (by kernel_rfl) rfl (fun _ _ => ⟨Nat.le_of_ble_eq_true rfl, Nat.le_of_ble_eq_true rfl⟩) fun ((r, u) : Rs × Unit) id hd => by
    refine ⟨_, ⟨env_okB tys_ok (eqs := []) trivial (cs := [(63, freeC)]) ⟨free_ok, trivial⟩ (bs := [(50, takeC), (49, freshRC), (47, roomC)]) ⟨take_ok, freshR_ok, room_ok, trivial⟩ (gl := tabP), fun _ h => h⟩, ?_⟩
    have hL : r.L.length ≤ 1000000 := hd.1.1
    refine ⟨by kernel_rfl, ?_⟩
    refine ⟨(r, ()), ⟨.refl _, trivial⟩, ⟨⟨rfl, .refl _, .refl _, .refl _, .refl _, .refl _, trivial⟩, trivial⟩, ⟨hd.1, trivial⟩, ?_⟩
    refine ⟨ByteArray, strC, noS, [r.freshV], ⟨rfl, fun _ => rfl⟩, ⟨.refl _, trivial⟩, rfl, ?_⟩
    refine ⟨Nat × Rs × List ByteArray × Bool, fun s => [(0, .box 1000 0), (3, .own ByteArray 1 strC noS s.2.2.1 (if s.2.2.2 then 19 else 6))], fun s => [(1000, rsC s.2.1)],
      fun s => Rs.namesL s.1 s.2.1 s.2.2.1 = r.names ∧ s.2.1.need ≤ s.1 ∧ Fwd r s.2.1 ∧ s.2.2.1.length + s.1 = r.L.length + 3, fun s => s.1,
      ⟨(r.L.length + 2, r.fresh, [r.freshV], false), ⟨rfl, (by have := need_le r.fresh; rw [(Rs.fresh_fwd r).L] at this; exact this), Rs.fresh_fwd r, (by show 1 + (r.L.length + 2) = _; omega)⟩, ⟨⟨rfl, rfl⟩, .refl _, .refl _, ⟨.refl _, .refl _, .refl _, .refl _, .refl _, trivial⟩, trivial⟩⟩, fun ((k, q, out, b) : Nat × Rs × List ByteArray × Bool) hx => ?_⟩
    have hx1 : Rs.namesL k q out = r.names := hx.1
    have hx2 : q.need ≤ k := hx.2.1
    have hx3 : Fwd r q := hx.2.2.1
    have hx4 : out.length + k = r.L.length + 3 := hx.2.2.2
    obtain ⟨k, rfl⟩ : ∃ k', k = k' + 1 := ⟨k - 1, by have := Rs.need_pos q; omega⟩
    have hq : rok q := rok_fwd hd.1 hx3
    refine ⟨by kernel_rfl, ?_⟩
    refine ⟨(q, wComma), ⟨.refl _, .str rfl, trivial⟩, ⟨⟨rfl, .refl _, .refl _, .refl _, .refl _, .refl _, trivial⟩, trivial⟩, ⟨hq, trivial⟩, ?_⟩
    refine ⟨fun h => ?_, fun h => ?_⟩
    · have h1 : q.is wComma = true := h
      have hat := Rs.is_at h1
      have hst := take_yes h1
      have hqs : rok (q.take wComma) := rok_fwd hq (Rs.take_fwd q _)
      have hn1 := Rs.name1_fwd hat (out.length : Int)
      have hrn : rok (q.name1 out.length) := rok_fwd hq hn1
      rw [Rs.namesL, if_pos h1] at hx1
      have hinv : Rs.namesL k (q.name1 out.length).fresh (out ++ [(q.name1 out.length).freshV]) = r.names ∧ (q.name1 out.length).fresh.need ≤ k ∧ Fwd r (q.name1 out.length).fresh ∧ (out ++ [(q.name1 out.length).freshV]).length + k = r.L.length + 3 := by
        have hf := hn1.trans (Rs.fresh_fwd _)
        have := Rs.need_lt hat hf (Rs.on_fwd (Rs.name1_on q out.length) (Rs.fresh_fwd _))
        exact ⟨hx1, by omega, hx3.trans hf, by simp; omega⟩
      refine ⟨(q.take wComma, ()), ⟨.refl _, trivial⟩, rfl, ⟨hqs, trivial⟩, ?_⟩
      refine ⟨fun h => ?_, fun h => ?_⟩
      · have h2 : (q.take wComma).free = true := h
        refine ⟨by kernel_rfl, ?_⟩
        refine ⟨(q.take wComma, (out.length : Int), 4), ⟨.refl _, .refl _, .refl _, trivial⟩, ⟨⟨rfl, .refl _, .refl _, .refl _, .refl _, .refl _, trivial⟩, trivial⟩, ⟨hqs, trivial⟩, ?_⟩
        have hE : (q.take wComma).room out.length 4 = q.name1 out.length := by
          rw [hst] at h2 ⊢
          unfold Rs.name1; rw [if_pos h2]
        refine ⟨by kernel_rfl, ?_⟩
        refine ⟨(q.name1 out.length, ()), ⟨.refl _, trivial⟩, ⟨⟨rfl, .rowEq (rL hE :), .int (rI hE :), .int (rN hE :), .int (rA hE :), .int (rE hE :), trivial⟩, trivial⟩, ⟨hrn, trivial⟩, ?_⟩
        refine ⟨ByteArray, strC, noS, [(q.name1 out.length).freshV], ⟨rfl, fun _ => rfl⟩, ⟨.refl _, trivial⟩, rfl, ?_⟩
        cases b
        · refine ⟨ByteArray, strC, noS, out, [(q.name1 out.length).freshV], 6, ⟨.refl _, .own ..⟩, fun _ => rfl, (by show (out.length + 1) * 16 ≤ 140737488355328; omega), ?_⟩
          exact ⟨(k, (q.name1 out.length).fresh, out ++ [(q.name1 out.length).freshV], true), hinv, Nat.lt_succ_self _, ⟨rfl, rfl⟩, .refl _, .refl _, ⟨.refl _, .refl _, .refl _, .refl _, .refl _, trivial⟩, trivial⟩
        · refine ⟨ByteArray, strC, noS, out, [(q.name1 out.length).freshV], 19, ⟨.refl _, .own ..⟩, fun _ => rfl, (by show (out.length + 1) * 16 ≤ 140737488355328; omega), ?_⟩
          exact ⟨(k, (q.name1 out.length).fresh, out ++ [(q.name1 out.length).freshV], true), hinv, Nat.lt_succ_self _, ⟨rfl, rfl⟩, .refl _, .refl _, ⟨.refl _, .refl _, .refl _, .refl _, .refl _, trivial⟩, trivial⟩
      · have h2 : (q.take wComma).free = false := h
        have hE : q.take wComma = q.name1 out.length := by
          rw [hst] at h2 ⊢
          unfold Rs.name1; rw [if_neg (by rw [h2]; decide)]
        refine ⟨by kernel_rfl, ?_⟩
        refine ⟨(q.name1 out.length, ()), ⟨.refl _, trivial⟩, ⟨⟨rfl, .rowEq (rL hE :), .int (rI hE :), .int (rN hE :), .int (rA hE :), .int (rE hE :), trivial⟩, trivial⟩, ⟨hrn, trivial⟩, ?_⟩
        refine ⟨ByteArray, strC, noS, [(q.name1 out.length).freshV], ⟨rfl, fun _ => rfl⟩, ⟨.refl _, trivial⟩, rfl, ?_⟩
        cases b
        · refine ⟨ByteArray, strC, noS, out, [(q.name1 out.length).freshV], 6, ⟨.refl _, .own ..⟩, fun _ => rfl, (by show (out.length + 1) * 16 ≤ 140737488355328; omega), ?_⟩
          exact ⟨(k, (q.name1 out.length).fresh, out ++ [(q.name1 out.length).freshV], true), hinv, Nat.lt_succ_self _, ⟨rfl, rfl⟩, .refl _, .refl _, ⟨.refl _, .refl _, .refl _, .refl _, .refl _, trivial⟩, trivial⟩
        · refine ⟨ByteArray, strC, noS, out, [(q.name1 out.length).freshV], 19, ⟨.refl _, .own ..⟩, fun _ => rfl, (by show (out.length + 1) * 16 ≤ 140737488355328; omega), ?_⟩
          exact ⟨(k, (q.name1 out.length).fresh, out ++ [(q.name1 out.length).freshV], true), hinv, Nat.lt_succ_self _, ⟨rfl, rfl⟩, .refl _, .refl _, ⟨.refl _, .refl _, .refl _, .refl _, .refl _, trivial⟩, trivial⟩
    · have h1 : q.is wComma = false := h
      rw [Rs.namesL, if_neg (by rw [h1]; decide)] at hx1
      have hE : q.take wComma = r.names.2 := by rw [take_no h1, ← hx1]
      cases b
      · exact ⟨.ownEq (by rw [← hx1]), ⟨rfl, .rowEq (rL hE :), .int (rI hE :), .int (rN hE :), .int (rA hE :), .int (rE hE :), trivial⟩, trivial⟩
      · exact ⟨.ownEq (by rw [← hx1]), ⟨rfl, .rowEq (rL hE :), .int (rI hE :), .int (rN hE :), .int (rA hE :), .int (rE hE :), trivial⟩, trivial⟩
def kindRC : CtrB := rdC Unit (fun _ => []) (fun r _ _ => tyS r.kindV) (fun r _ => r.kind) fun _ => True
theorem Sub.tyEq {a b : Ty} (h : a = b) : Sub (tyS a) (tyS b) := by subst h; exact .refl _
set_option maxRecDepth 100000 in
theorem kindR_ok : CtrBSound Tryd.prog 64 kindRC :=
  ctrB_of_ax2 mixed _ Tryd.func64 (by kernel_rfl) rfl (fun _ _ => ⟨Nat.le_of_ble_eq_true rfl, Nat.le_of_ble_eq_true rfl⟩) fun ((r, u) : Rs × Unit) id hd => by
    refine ⟨_, ⟨env_okB tys_ok (eqs := []) trivial (cs := []) trivial (bs := [(50, takeC), (49, freshRC), (73, rowRC)]) ⟨take_ok, freshR_ok, rowR_ok, trivial⟩ (gl := tabP), fun _ h => h⟩, ?_⟩
    refine ⟨by kernel_rfl, ?_⟩
    refine ⟨(r, wVoid), ⟨.refl _, .str rfl, trivial⟩, ⟨⟨rfl, .refl _, .refl _, .refl _, .refl _, .refl _, trivial⟩, trivial⟩, ⟨hd.1, trivial⟩, ?_⟩
    refine ⟨fun h => ?_, fun h => ?_⟩
    · have h1 : r.is wVoid = true := h
      have hE : r.take wVoid = r.kind := by rw [take_yes h1]; unfold Rs.kind; rw [if_pos h1]
      have hV : ((1, noS) : Ty) = r.kindV := by unfold Rs.kindV; rw [if_pos h1]
      exact ⟨.tyEq hV, ⟨rfl, .rowEq (rL hE :), .int (rI hE :), .int (rN hE :), .int (rA hE :), .int (rE hE :), trivial⟩, trivial⟩
    have h1 : r.is wVoid = false := h
    have hE : r.take wVoid = r := take_no h1
    refine ⟨by kernel_rfl, ?_⟩
    refine ⟨(r, wInt), ⟨.refl _, .str rfl, trivial⟩, ⟨⟨rfl, .rowEq (rL hE :), .int (rI hE :), .int (rN hE :), .int (rA hE :), .int (rE hE :), trivial⟩, trivial⟩, ⟨hd.1, trivial⟩, ?_⟩
    clear hE
    refine ⟨fun h => ?_, fun h => ?_⟩
    · have h2 : r.is wInt = true := h
      have hst := take_yes h2
      refine ⟨by kernel_rfl, ?_⟩
      refine ⟨(r.take wInt, ()), ⟨.refl _, trivial⟩, ⟨⟨rfl, .refl _, .refl _, .refl _, .refl _, .refl _, trivial⟩, trivial⟩, ⟨rok_fwd hd.1 (Rs.take_fwd r _), trivial⟩, ?_⟩
      have hE : (r.take wInt).rowR = r.kind := by rw [hst]; unfold Rs.kind; rw [if_neg (by rw [h1]; decide), if_pos h2]
      refine ⟨fun h => ?_, fun h => ?_⟩
      · have h3 : (r.take wInt).is wLb = true := h
        have hV : ((4, noS) : Ty) = r.kindV := by rw [hst] at h3; unfold Rs.kindV; rw [if_neg (by rw [h1]; decide), if_pos h2, if_pos h3]
        exact ⟨.tyEq hV, ⟨rfl, .rowEq (rL hE :), .int (rI hE :), .int (rN hE :), .int (rA hE :), .int (rE hE :), trivial⟩, trivial⟩
      · have h3 : (r.take wInt).is wLb = false := h
        have hV : ((2, noS) : Ty) = r.kindV := by rw [hst] at h3; unfold Rs.kindV; rw [if_neg (by rw [h1]; decide), if_pos h2, if_neg (by rw [h3]; decide)]
        exact ⟨.tyEq hV, ⟨rfl, .rowEq (rL hE :), .int (rI hE :), .int (rN hE :), .int (rA hE :), .int (rE hE :), trivial⟩, trivial⟩
    have h2 : r.is wInt = false := h
    have hE : r.take wInt = r := take_no h2
    refine ⟨by kernel_rfl, ?_⟩
    refine ⟨(r, ()), ⟨.refl _, trivial⟩, ⟨⟨rfl, .rowEq (rL hE :), .int (rI hE :), .int (rN hE :), .int (rA hE :), .int (rE hE :), trivial⟩, trivial⟩, ⟨hd.1, trivial⟩, ?_⟩
    clear hE
    refine ⟨by kernel_rfl, ?_⟩
    refine ⟨(r.fresh, ()), ⟨.refl _, trivial⟩, ⟨⟨rfl, .refl _, .refl _, .refl _, .refl _, .refl _, trivial⟩, trivial⟩, ⟨rok_fwd hd.1 (Rs.fresh_fwd r), trivial⟩, ?_⟩
    have hE : r.fresh.rowR = r.kind := by unfold Rs.kind; rw [if_neg (by rw [h1]; decide), if_neg (by rw [h2]; decide)]
    refine ⟨fun h => ?_, fun h => ?_⟩
    · have h3 : r.fresh.is wLb = true := h
      have hV : ((5, r.freshV) : Ty) = r.kindV := by unfold Rs.kindV; rw [if_neg (by rw [h1]; decide), if_neg (by rw [h2]; decide), if_pos h3]
      exact ⟨.tyEq hV, ⟨rfl, .rowEq (rL hE :), .int (rI hE :), .int (rN hE :), .int (rA hE :), .int (rE hE :), trivial⟩, trivial⟩
    · have h3 : r.fresh.is wLb = false := h
      have hV : ((3, r.freshV) : Ty) = r.kindV := by unfold Rs.kindV; rw [if_neg (by rw [h1]; decide), if_neg (by rw [h2]; decide), if_neg (by rw [h3]; decide)]
      exact ⟨.tyEq hV, ⟨rfl, .rowEq (rL hE :), .int (rI hE :), .int (rN hE :), .int (rA hE :), .int (rE hE :), trivial⟩, trivial⟩
end Go.Proofs.YtimhbimpaiiceaaDoor.Ax
/- Layer parse: parameters, instructions. -/
set_option linter.unusedVariables false
set_option linter.unusedSimpArgs false
namespace Go.Proofs.YtimhbimpaiiceaaDoor.Ax
open Go Go.RowKit
def paramsRC : CtrB := rdC Unit (fun _ => []) (fun r _ id => .own Ty 2 tyC ty0 r.params.1 id) (fun r _ => r.params.2) fun _ => True
set_option maxRecDepth 100000 in
theorem paramsR_ok : CtrBSound Tryd.prog 65 paramsRC :=
  ctrB_of_ax2 mixed _ Tryd.func65 (by kernel_rfl) rfl (fun _ _ => ⟨Nat.le_of_ble_eq_true rfl, Nat.le_of_ble_eq_true rfl⟩) fun ((r, u) : Rs × Unit) id hd => by
    refine ⟨_, ⟨env_okB tys_ok (eqs := []) trivial (cs := [(63, freeC), (46, isC)]) ⟨free_ok, is_ok, trivial⟩ (bs := [(50, takeC), (48, wantC), (64, kindRC), (47, roomC)]) ⟨take_ok, want_ok, kindR_ok, room_ok, trivial⟩ (gl := tabP), fun _ h => h⟩, ?_⟩
    have hL : r.L.length ≤ 1000000 := hd.1.1
    have hf0 := Rs.want_fwd r wLp
    have hf1 : Fwd r (r.want wLp).kind := hf0.trans (Rs.kind_fwd _)
    refine ⟨by kernel_rfl, ?_⟩
    refine ⟨(r, wLp), ⟨.refl _, .str rfl, trivial⟩, ⟨⟨rfl, .refl _, .refl _, .refl _, .refl _, .refl _, trivial⟩, trivial⟩, ⟨hd.1, trivial⟩, ?_⟩
    refine ⟨by kernel_rfl, ?_⟩
    refine ⟨(r.want wLp, wRp), ⟨.refl _, .str rfl, trivial⟩, ⟨⟨rfl, .refl _, .refl _, .refl _, .refl _, .refl _, trivial⟩, trivial⟩, ⟨rok_fwd hd.1 hf0, trivial⟩, ?_⟩
    refine ⟨fun h => ?_, fun h => ?_⟩
    · have h1 : (r.want wLp).is wRp = true := h
      have e : r.params = ([], (r.want wLp).step) := by unfold Rs.params; rw [if_pos h1]
      have hE : (r.want wLp).take wRp = r.params.2 := by rw [e, take_yes h1]
      exact ⟨(show Sub _ (.own Ty 2 tyC ty0 r.params.1 id) by rw [e]; exact .nilO ..), ⟨rfl, .rowEq (rL hE :), .int (rI hE :), .int (rN hE :), .int (rA hE :), .int (rE hE :), trivial⟩, trivial⟩
    have h1 : (r.want wLp).is wRp = false := h
    have e : r.params = ((Rs.paramsL (r.L.length + 2) (r.want wLp).kind [(r.want wLp).kindV]).1, (Rs.paramsL (r.L.length + 2) (r.want wLp).kind [(r.want wLp).kindV]).2.want wRp) := by unfold Rs.params; rw [if_neg (by rw [h1]; decide)]
    have hE : (r.want wLp).take wRp = r.want wLp := take_no h1
    refine ⟨by kernel_rfl, ?_⟩
    refine ⟨(r.want wLp, ()), ⟨.refl _, trivial⟩, ⟨⟨rfl, .rowEq (rL hE :), .int (rI hE :), .int (rN hE :), .int (rA hE :), .int (rE hE :), trivial⟩, trivial⟩, ⟨rok_fwd hd.1 hf0, trivial⟩, ?_⟩
    clear hE
    refine ⟨Ty, tyC, ty0, [(r.want wLp).kindV], ⟨rfl, fun _ => rfl⟩, ⟨.refl _, .refl _, trivial⟩, rfl, ?_⟩
    refine ⟨Nat × Rs × List Ty × Bool, fun s => [(0, .box 1000 0), (3, .own Ty 2 tyC ty0 s.2.2.1 (if s.2.2.2 then 31 else 10))], fun s => [(1000, rsC s.2.1)],
      fun s => Rs.paramsL s.1 s.2.1 s.2.2.1 = Rs.paramsL (r.L.length + 2) (r.want wLp).kind [(r.want wLp).kindV] ∧ s.2.1.need ≤ s.1 ∧ Fwd r s.2.1 ∧ s.2.2.1.length + s.1 = r.L.length + 3, fun s => s.1,
      ⟨(r.L.length + 2, (r.want wLp).kind, [(r.want wLp).kindV], false), ⟨rfl, (by have := need_le (r.want wLp).kind; rw [hf1.L] at this; exact this), hf1, (by show 1 + (r.L.length + 2) = _; omega)⟩, ⟨⟨rfl, rfl⟩, .refl _, .refl _, ⟨.refl _, .refl _, .refl _, .refl _, .refl _, trivial⟩, trivial⟩⟩, fun ((k, q, out, b) : Nat × Rs × List Ty × Bool) hx => ?_⟩
    have hx1 : Rs.paramsL k q out = Rs.paramsL (r.L.length + 2) (r.want wLp).kind [(r.want wLp).kindV] := hx.1
    have hx2 : q.need ≤ k := hx.2.1
    have hx3 : Fwd r q := hx.2.2.1
    have hx4 : out.length + k = r.L.length + 3 := hx.2.2.2
    obtain ⟨k, rfl⟩ : ∃ k', k = k' + 1 := ⟨k - 1, by have := Rs.need_pos q; omega⟩
    have hq : rok q := rok_fwd hd.1 hx3
    refine ⟨by kernel_rfl, ?_⟩
    refine ⟨(q, wComma), ⟨.refl _, .str rfl, trivial⟩, ⟨⟨rfl, .refl _, .refl _, .refl _, .refl _, .refl _, trivial⟩, trivial⟩, ⟨hq, trivial⟩, ?_⟩
    refine ⟨fun h => ?_, fun h => ?_⟩
    · have h1 : q.is wComma = true := h
      have hat := Rs.is_at h1
      have hst := take_yes h1
      have hqs : rok (q.take wComma) := rok_fwd hq (Rs.take_fwd q _)
      have hn1 := Rs.param1_fwd hat (out.length : Int)
      have hrn : rok (q.param1 out.length) := rok_fwd hq hn1
      rw [Rs.paramsL, if_pos h1] at hx1
      have hinv : Rs.paramsL k (q.param1 out.length).kind (out ++ [(q.param1 out.length).kindV]) = Rs.paramsL (r.L.length + 2) (r.want wLp).kind [(r.want wLp).kindV] ∧ (q.param1 out.length).kind.need ≤ k ∧ Fwd r (q.param1 out.length).kind ∧ (out ++ [(q.param1 out.length).kindV]).length + k = r.L.length + 3 := by
        have hf := hn1.trans (Rs.kind_fwd _)
        have := Rs.need_lt hat hf (Rs.on_fwd (Rs.param1_on q out.length) (Rs.kind_fwd _))
        exact ⟨hx1, by omega, hx3.trans hf, by simp; omega⟩
      have fin : ∀ p : Rs, p = q.param1 out.length → p = q.param1 out.length := fun _ h => h
      have yes : ((q.step.free || q.step.is wInt || q.step.is wVoid) = true) → (q.take wComma).room out.length 4 = q.param1 out.length := fun h => by
        rw [hst]; unfold Rs.param1; rw [if_pos h]
      have nope : ((q.step.free || q.step.is wInt || q.step.is wVoid) = false) → q.take wComma = q.param1 out.length := fun h => by
        rw [hst]; unfold Rs.param1; rw [if_neg (by rw [h]; decide)]
      refine ⟨(q.take wComma, ()), ⟨.refl _, trivial⟩, rfl, ⟨hqs, trivial⟩, ?_⟩
      refine ⟨fun h2 => ?_, fun h2 => ?_⟩
      · have h2 : (q.take wComma).free = true := h2
        refine ⟨by kernel_rfl, ?_⟩
        refine ⟨(q.take wComma, (out.length : Int), 4), ⟨.refl _, .refl _, .refl _, trivial⟩, ⟨⟨rfl, .refl _, .refl _, .refl _, .refl _, .refl _, trivial⟩, trivial⟩, ⟨hqs, trivial⟩, ?_⟩
        have hE := yes (by rw [← hst]; rw [h2]; rfl)
        refine ⟨by kernel_rfl, ?_⟩
        refine ⟨(q.param1 out.length, ()), ⟨.refl _, trivial⟩, ⟨⟨rfl, .rowEq (rL hE :), .int (rI hE :), .int (rN hE :), .int (rA hE :), .int (rE hE :), trivial⟩, trivial⟩, ⟨hrn, trivial⟩, ?_⟩
        refine ⟨Ty, tyC, ty0, [(q.param1 out.length).kindV], ⟨rfl, fun _ => rfl⟩, ⟨.refl _, .refl _, trivial⟩, rfl, ?_⟩
        cases b
        · refine ⟨Ty, tyC, ty0, out, [(q.param1 out.length).kindV], 10, ⟨.refl _, .own ..⟩, fun _ => rfl, (by show (out.length + 1) * 24 ≤ 140737488355328; omega), ?_⟩
          exact ⟨(k, (q.param1 out.length).kind, out ++ [(q.param1 out.length).kindV], true), hinv, Nat.lt_succ_self _, ⟨rfl, rfl⟩, .refl _, .refl _, ⟨.refl _, .refl _, .refl _, .refl _, .refl _, trivial⟩, trivial⟩
        · refine ⟨Ty, tyC, ty0, out, [(q.param1 out.length).kindV], 31, ⟨.refl _, .own ..⟩, fun _ => rfl, (by show (out.length + 1) * 24 ≤ 140737488355328; omega), ?_⟩
          exact ⟨(k, (q.param1 out.length).kind, out ++ [(q.param1 out.length).kindV], true), hinv, Nat.lt_succ_self _, ⟨rfl, rfl⟩, .refl _, .refl _, ⟨.refl _, .refl _, .refl _, .refl _, .refl _, trivial⟩, trivial⟩
      have h2 : (q.take wComma).free = false := h2
      refine ⟨(q.take wComma, wInt), ⟨.refl _, .str rfl, trivial⟩, rfl, ⟨hqs, trivial⟩, ?_⟩
      refine ⟨fun h3 => ?_, fun h3 => ?_⟩
      · have h3 : (q.take wComma).is wInt = true := h3
        refine ⟨by kernel_rfl, ?_⟩
        refine ⟨(q.take wComma, (out.length : Int), 4), ⟨.refl _, .refl _, .refl _, trivial⟩, ⟨⟨rfl, .refl _, .refl _, .refl _, .refl _, .refl _, trivial⟩, trivial⟩, ⟨hqs, trivial⟩, ?_⟩
        have hE := yes (by rw [← hst]; rw [h2, h3]; rfl)
        refine ⟨by kernel_rfl, ?_⟩
        refine ⟨(q.param1 out.length, ()), ⟨.refl _, trivial⟩, ⟨⟨rfl, .rowEq (rL hE :), .int (rI hE :), .int (rN hE :), .int (rA hE :), .int (rE hE :), trivial⟩, trivial⟩, ⟨hrn, trivial⟩, ?_⟩
        refine ⟨Ty, tyC, ty0, [(q.param1 out.length).kindV], ⟨rfl, fun _ => rfl⟩, ⟨.refl _, .refl _, trivial⟩, rfl, ?_⟩
        cases b
        · refine ⟨Ty, tyC, ty0, out, [(q.param1 out.length).kindV], 10, ⟨.refl _, .own ..⟩, fun _ => rfl, (by show (out.length + 1) * 24 ≤ 140737488355328; omega), ?_⟩
          exact ⟨(k, (q.param1 out.length).kind, out ++ [(q.param1 out.length).kindV], true), hinv, Nat.lt_succ_self _, ⟨rfl, rfl⟩, .refl _, .refl _, ⟨.refl _, .refl _, .refl _, .refl _, .refl _, trivial⟩, trivial⟩
        · refine ⟨Ty, tyC, ty0, out, [(q.param1 out.length).kindV], 31, ⟨.refl _, .own ..⟩, fun _ => rfl, (by show (out.length + 1) * 24 ≤ 140737488355328; omega), ?_⟩
          exact ⟨(k, (q.param1 out.length).kind, out ++ [(q.param1 out.length).kindV], true), hinv, Nat.lt_succ_self _, ⟨rfl, rfl⟩, .refl _, .refl _, ⟨.refl _, .refl _, .refl _, .refl _, .refl _, trivial⟩, trivial⟩
      have h3 : (q.take wComma).is wInt = false := h3
      refine ⟨(q.take wComma, wVoid), ⟨.refl _, .str rfl, trivial⟩, rfl, ⟨hqs, trivial⟩, ?_⟩
      refine ⟨fun h4 => ?_, fun h4 => ?_⟩
      · have h4 : (q.take wComma).is wVoid = true := h4
        refine ⟨by kernel_rfl, ?_⟩
        refine ⟨(q.take wComma, (out.length : Int), 4), ⟨.refl _, .refl _, .refl _, trivial⟩, ⟨⟨rfl, .refl _, .refl _, .refl _, .refl _, .refl _, trivial⟩, trivial⟩, ⟨hqs, trivial⟩, ?_⟩
        have hE := yes (by rw [← hst]; rw [h2, h3, h4]; rfl)
        refine ⟨by kernel_rfl, ?_⟩
        refine ⟨(q.param1 out.length, ()), ⟨.refl _, trivial⟩, ⟨⟨rfl, .rowEq (rL hE :), .int (rI hE :), .int (rN hE :), .int (rA hE :), .int (rE hE :), trivial⟩, trivial⟩, ⟨hrn, trivial⟩, ?_⟩
        refine ⟨Ty, tyC, ty0, [(q.param1 out.length).kindV], ⟨rfl, fun _ => rfl⟩, ⟨.refl _, .refl _, trivial⟩, rfl, ?_⟩
        cases b
        · refine ⟨Ty, tyC, ty0, out, [(q.param1 out.length).kindV], 10, ⟨.refl _, .own ..⟩, fun _ => rfl, (by show (out.length + 1) * 24 ≤ 140737488355328; omega), ?_⟩
          exact ⟨(k, (q.param1 out.length).kind, out ++ [(q.param1 out.length).kindV], true), hinv, Nat.lt_succ_self _, ⟨rfl, rfl⟩, .refl _, .refl _, ⟨.refl _, .refl _, .refl _, .refl _, .refl _, trivial⟩, trivial⟩
        · refine ⟨Ty, tyC, ty0, out, [(q.param1 out.length).kindV], 31, ⟨.refl _, .own ..⟩, fun _ => rfl, (by show (out.length + 1) * 24 ≤ 140737488355328; omega), ?_⟩
          exact ⟨(k, (q.param1 out.length).kind, out ++ [(q.param1 out.length).kindV], true), hinv, Nat.lt_succ_self _, ⟨rfl, rfl⟩, .refl _, .refl _, ⟨.refl _, .refl _, .refl _, .refl _, .refl _, trivial⟩, trivial⟩
      · have h4 : (q.take wComma).is wVoid = false := h4
        have hE := nope (by rw [← hst]; rw [h2, h3, h4]; rfl)
        refine ⟨by kernel_rfl, ?_⟩
        refine ⟨(q.param1 out.length, ()), ⟨.refl _, trivial⟩, ⟨⟨rfl, .rowEq (rL hE :), .int (rI hE :), .int (rN hE :), .int (rA hE :), .int (rE hE :), trivial⟩, trivial⟩, ⟨hrn, trivial⟩, ?_⟩
        refine ⟨Ty, tyC, ty0, [(q.param1 out.length).kindV], ⟨rfl, fun _ => rfl⟩, ⟨.refl _, .refl _, trivial⟩, rfl, ?_⟩
        cases b
        · refine ⟨Ty, tyC, ty0, out, [(q.param1 out.length).kindV], 10, ⟨.refl _, .own ..⟩, fun _ => rfl, (by show (out.length + 1) * 24 ≤ 140737488355328; omega), ?_⟩
          exact ⟨(k, (q.param1 out.length).kind, out ++ [(q.param1 out.length).kindV], true), hinv, Nat.lt_succ_self _, ⟨rfl, rfl⟩, .refl _, .refl _, ⟨.refl _, .refl _, .refl _, .refl _, .refl _, trivial⟩, trivial⟩
        · refine ⟨Ty, tyC, ty0, out, [(q.param1 out.length).kindV], 31, ⟨.refl _, .own ..⟩, fun _ => rfl, (by show (out.length + 1) * 24 ≤ 140737488355328; omega), ?_⟩
          exact ⟨(k, (q.param1 out.length).kind, out ++ [(q.param1 out.length).kindV], true), hinv, Nat.lt_succ_self _, ⟨rfl, rfl⟩, .refl _, .refl _, ⟨.refl _, .refl _, .refl _, .refl _, .refl _, trivial⟩, trivial⟩
    · have h1 : q.is wComma = false := h
      rw [Rs.paramsL, if_neg (by rw [h1]; decide)] at hx1
      have hE : q.take wComma = (Rs.paramsL (r.L.length + 2) (r.want wLp).kind [(r.want wLp).kindV]).2 := by rw [take_no h1, ← hx1]
      have hE2 : (Rs.paramsL (r.L.length + 2) (r.want wLp).kind [(r.want wLp).kindV]).2.want wRp = r.params.2 := by rw [e]
      refine ⟨by kernel_rfl, ?_⟩
      refine ⟨((Rs.paramsL (r.L.length + 2) (r.want wLp).kind [(r.want wLp).kindV]).2, wRp), ⟨.refl _, .str rfl, trivial⟩, ⟨⟨rfl, .rowEq (rL hE :), .int (rI hE :), .int (rN hE :), .int (rA hE :), .int (rE hE :), trivial⟩, trivial⟩, ⟨rok_fwd hd.1 (hf1.trans (Rs.paramsL_fwd _ _ _)), trivial⟩, ?_⟩
      clear hE
      have hE := hE2
      cases b
      · exact ⟨.ownEq (by rw [e, ← hx1]), ⟨rfl, .rowEq (rL hE :), .int (rI hE :), .int (rN hE :), .int (rA hE :), .int (rE hE :), trivial⟩, trivial⟩
      · exact ⟨.ownEq (by rw [e, ← hx1]), ⟨rfl, .rowEq (rL hE :), .int (rI hE :), .int (rN hE :), .int (rA hE :), .int (rE hE :), trivial⟩, trivial⟩
def opC : Ctr := { A := ByteArray, enc := fun s => [S s], dom := fun _ => True, res := fun s _ => .tup [I (if opV s < 0 then 0 else opV s), B (decide (0 ≤ opV s))], gl := tabS }
set_option maxRecDepth 100000 in
theorem op_ok : CtrSound Tryd.prog 12 opC :=
  ctr_of_ax (env_okB tys_ok (eqs := []) trivial (cs := [(28, opsC), (29, atC)]) ⟨ops_ok, at_ok, trivial⟩ (bs := []) trivial (gl := tabS)) mixed _ Tryd.func12 (by kernel_rfl) rfl (fun _ _ => Nat.le_of_ble_eq_true rfl) fun (s : ByteArray) id hd => by
    refine ⟨(), trivial, rfl, trivial, ?_⟩
    refine ⟨(opsL, s), ⟨.own .., .refl _, trivial⟩, rfl, (show opsL.length ≤ 4611686018427387904 by decide), ?_⟩
    refine ⟨fun h => ?_, fun h => ?_⟩
    · have h : opV s < 0 := of_decide_eq_true h
      exact ⟨.tup2 (.int (if_pos h).symm) (.bff (decide_eq_false (by omega))), rfl⟩
    · have h : ¬ opV s < 0 := of_decide_eq_false h
      exact ⟨.tup2 (.int (if_neg h).symm) (.btt (decide_eq_true (by omega))), rfl⟩
end Go.Proofs.YtimhbimpaiiceaaDoor.Ax
/- Layer parse: instructions. -/
set_option linter.unusedVariables false
set_option linter.unusedSimpArgs false
namespace Go.Proofs.YtimhbimpaiiceaaDoor.Ax
open Go Go.RowKit
namespace Rs
def instrV (r : Rs) (many : Int) : Ins := if r.isOp then (r.instr many).1 else ins0
def instrR (r : Rs) (many : Int) : Rs := if r.isOp then (r.instr many).2 else r
theorem instrR_fwd (r : Rs) (many : Int) : Fwd r (r.instrR many) := by
  unfold instrR
  split
  · exact instr_fwd _ _
  · exact .refl _
end Rs
theorem Sub.insEq {a b : Ins} (h : a = b) : Sub (.agg (insC a)) (.agg (insC b)) := by subst h; exact .refl _
def instrRC : CtrB := rdC Int (fun n => [I n]) (fun r n _ => .tup [.agg (insC (r.instrV n)), B r.isOp]) (fun r n => r.instrR n) fun _ => True
set_option maxRecDepth 100000 in
set_option maxHeartbeats 2000000 in
theorem instrR_ok : CtrBSound Tryd.prog 75 instrRC :=
  ctrB_of_ax2 mixed _ Tryd.func75 (by kernel_rfl) rfl (fun _ _ => ⟨Nat.le_of_ble_eq_true rfl, Nat.le_of_ble_eq_true rfl⟩) fun ((r, many) : Rs × Int) id hd => by
    refine ⟨_, ⟨env_okB tys_ok (eqs := []) trivial (cs := [(61, nextC), (12, opC), (79, numsC), (80, namesC)]) ⟨next_ok, op_ok, nums_ok, names_ok, trivial⟩ (bs := [(48, wantC), (47, roomC), (74, numRC), (49, freshRC)]) ⟨want_ok, room_ok, numR_ok, freshR_ok, trivial⟩ (cut := [11, 13, 15]) (gl := tabP), fun _ h => h⟩, ?_⟩
    have f0 : Fwd r (r.in1 many) := Rs.in1_fwd r many
    have f1 : Fwd r ((r.in1 many).in2 (opV r.next.2.1)) := f0.trans (Rs.in2_fwd _ _)
    have f2 : Fwd r (((r.in1 many).in2 (opV r.next.2.1)).in3 (decide (namesF (opV r.next.2.1) > 0))) := f1.trans (Rs.in3_fwd _ _)
    have f3 : Fwd r ((((r.in1 many).in2 (opV r.next.2.1)).in3 (decide (namesF (opV r.next.2.1) > 0))).in3 (decide (namesF (opV r.next.2.1) > 1))) := f2.trans (Rs.in3_fwd _ _)
    refine ⟨(r, ()), ⟨.refl _, trivial⟩, rfl, ⟨hd.1, trivial⟩, ?_⟩
    refine ⟨r.next.2.1, ⟨.refl _, trivial⟩, rfl, trivial, ?_⟩
    have nope : r.isOp = false → ins0 = r.instrV many ∧ r = r.instrR many := fun h => ⟨(if_neg (by rw [h]; decide)).symm, (if_neg (by rw [h]; decide)).symm⟩
    refine ⟨fun h => ?_, fun h => ?_⟩
    · have h : (r.next.1 != 1) = true := h
      have h0 : r.isOp = false := by
        unfold Rs.isOp
        rw [decide_eq_false (fun c => by rw [c] at h; simp at h)]; rfl
      have hE := (nope h0).2
      exact ⟨.tup2 (.insEq (nope h0).1) (.bff h0), ⟨rfl, .rowEq (rL hE :), .int (rI hE :), .int (rN hE :), .int (rA hE :), .int (rE hE :), trivial⟩, trivial⟩
    have hk : (r.next.1 != 1) = false := h
    have hk : r.next.1 = 1 := by simpa using hk
    refine ⟨fun h => ?_, fun h => ?_⟩
    · have h : (!decide (0 ≤ opV r.next.2.1)) = true := h
      have h0 : r.isOp = false := by
        unfold Rs.isOp
        rw [notT h]; simp
      have hE := (nope h0).2
      exact ⟨.tup2 (.insEq (nope h0).1) (.bff h0), ⟨rfl, .rowEq (rL hE :), .int (rI hE :), .int (rN hE :), .int (rA hE :), .int (rE hE :), trivial⟩, trivial⟩
    have h : (!decide (0 ≤ opV r.next.2.1)) = false := h
    have h := notF h
    have h0 : r.isOp = true := by
      unfold Rs.isOp
      rw [h, hk]; rfl
    have ho : ¬ opV r.next.2.1 < 0 := by have := of_decide_eq_true h; omega
    have ev : (if opV r.next.2.1 < 0 then 0 else opV r.next.2.1) = opV r.next.2.1 := if_neg ho
    refine ⟨by kernel_rfl, ?_⟩
    refine ⟨(r, many, 48), ⟨.refl _, .refl _, .refl _, trivial⟩, ⟨⟨rfl, .refl _, .refl _, .refl _, .refl _, .refl _, trivial⟩, trivial⟩, ⟨hd.1, trivial⟩, ?_⟩
    refine ⟨by kernel_rfl, ?_⟩
    refine ⟨(r.room many 48, r.next.2.1), ⟨.refl _, .refl _, trivial⟩, ⟨⟨rfl, .refl _, .refl _, .refl _, .refl _, .refl _, trivial⟩, trivial⟩, ⟨rok_fwd hd.1 (Rs.room_fwd r many 48), trivial⟩, ?_⟩
    refine ⟨Unit, fun _ => [(0, .box 1000 0), (4, .box 4 0), (7, I (opV r.next.2.1)), (9, .box 9 0)], fun _ => [(1000, rsC ((r.in1 many).in2 (opV r.next.2.1))), (4, [I 0, I 0, S noS, S noS]), (9, [I (opV r.next.2.1), I ((r.in1 many).in2V (opV r.next.2.1)), S (noS), S (noS)])], fun _ => True, ?_, fun _ _ => ?_⟩
    · refine ⟨opV r.next.2.1, ⟨.int ev, trivial⟩, rfl, trivial, ?_⟩
      refine ⟨fun h => ?_, fun h => ?_⟩
      · have h1 : (numsF (opV r.next.2.1)).2.2 = true := h
        refine ⟨by kernel_rfl, ?_⟩
        refine ⟨(r.in1 many, (numsF (opV r.next.2.1)).1, (numsF (opV r.next.2.1)).2.1), ⟨.refl _, .refl _, .refl _, trivial⟩, ⟨⟨rfl, .refl _, .refl _, .refl _, .refl _, .refl _, trivial⟩, trivial⟩, ⟨rok_fwd hd.1 f0, trivial⟩, ?_⟩
        have hE : (r.in1 many).num (numsF (opV r.next.2.1)).1 (numsF (opV r.next.2.1)).2.1 = (r.in1 many).in2 (opV r.next.2.1) := (if_pos h1).symm
        have hN : (r.in1 many).numV (numsF (opV r.next.2.1)).1 (numsF (opV r.next.2.1)).2.1 = (r.in1 many).in2V (opV r.next.2.1) := (if_pos h1).symm
        exact ⟨(), trivial, ⟨rfl, rfl⟩, .refl _, .int ev, .refl _, .refl _, ⟨.int ev, .int hN, .refl _, .refl _, trivial⟩, ⟨.refl _, .refl _, .refl _, .refl _, trivial⟩, ⟨.rowEq (rL hE :), .int (rI hE :), .int (rN hE :), .int (rA hE :), .int (rE hE :), trivial⟩, trivial⟩
      · have h1 : (numsF (opV r.next.2.1)).2.2 = false := h
        have hE : r.in1 many = (r.in1 many).in2 (opV r.next.2.1) := (if_neg (by rw [h1]; decide)).symm
        have hN : 0 = (r.in1 many).in2V (opV r.next.2.1) := (if_neg (by rw [h1]; decide)).symm
        exact ⟨(), trivial, ⟨rfl, rfl⟩, .refl _, .int ev, .refl _, .refl _, ⟨.int ev, .int hN, .refl _, .refl _, trivial⟩, ⟨.refl _, .refl _, .refl _, .refl _, trivial⟩, ⟨.rowEq (rL hE :), .int (rI hE :), .int (rN hE :), .int (rA hE :), .int (rE hE :), trivial⟩, trivial⟩
    refine ⟨Unit, fun _ => [(0, .box 1000 0), (4, .box 4 0), (7, I (opV r.next.2.1)), (9, .box 9 0)], fun _ => [(1000, rsC (((r.in1 many).in2 (opV r.next.2.1)).in3 (decide (namesF (opV r.next.2.1) > 0)))), (4, [I 0, I 0, S noS, S noS]), (9, [I (opV r.next.2.1), I ((r.in1 many).in2V (opV r.next.2.1)), S (((r.in1 many).in2 (opV r.next.2.1)).in3V (decide (namesF (opV r.next.2.1) > 0))), S (noS)])], fun _ => True, ?_, fun _ _ => ?_⟩
    · refine ⟨opV r.next.2.1, ⟨.refl _, trivial⟩, rfl, trivial, ?_⟩
      refine ⟨fun h => ?_, fun h => ?_⟩
      · have h1 : decide (namesF (opV r.next.2.1) > 0) = true := h
        refine ⟨by kernel_rfl, ?_⟩
        refine ⟨((r.in1 many).in2 (opV r.next.2.1), ()), ⟨.refl _, trivial⟩, ⟨⟨rfl, .refl _, .refl _, .refl _, .refl _, .refl _, trivial⟩, trivial⟩, ⟨rok_fwd hd.1 f1, trivial⟩, ?_⟩
        have hE : ((r.in1 many).in2 (opV r.next.2.1)).fresh = ((r.in1 many).in2 (opV r.next.2.1)).in3 (decide (namesF (opV r.next.2.1) > 0)) := (if_pos h1).symm
        have hN : ((r.in1 many).in2 (opV r.next.2.1)).freshV = ((r.in1 many).in2 (opV r.next.2.1)).in3V (decide (namesF (opV r.next.2.1) > 0)) := (if_pos h1).symm
        exact ⟨(), trivial, ⟨rfl, rfl⟩, .refl _, .refl _, .refl _, .refl _, ⟨.refl _, .refl _, .str hN, .refl _, trivial⟩, ⟨.refl _, .refl _, .refl _, .refl _, trivial⟩, ⟨.rowEq (rL hE :), .int (rI hE :), .int (rN hE :), .int (rA hE :), .int (rE hE :), trivial⟩, trivial⟩
      · have h1 : decide (namesF (opV r.next.2.1) > 0) = false := h
        have hE : (r.in1 many).in2 (opV r.next.2.1) = ((r.in1 many).in2 (opV r.next.2.1)).in3 (decide (namesF (opV r.next.2.1) > 0)) := (if_neg (by rw [h1]; decide)).symm
        have hN : noS = ((r.in1 many).in2 (opV r.next.2.1)).in3V (decide (namesF (opV r.next.2.1) > 0)) := (if_neg (by rw [h1]; decide)).symm
        exact ⟨(), trivial, ⟨rfl, rfl⟩, .refl _, .refl _, .refl _, .refl _, ⟨.refl _, .refl _, .str hN, .refl _, trivial⟩, ⟨.refl _, .refl _, .refl _, .refl _, trivial⟩, ⟨.rowEq (rL hE :), .int (rI hE :), .int (rN hE :), .int (rA hE :), .int (rE hE :), trivial⟩, trivial⟩
    refine ⟨Unit, fun _ => [(0, .box 1000 0), (4, .box 4 0), (7, I (opV r.next.2.1)), (9, .box 9 0)], fun _ => [(1000, rsC ((((r.in1 many).in2 (opV r.next.2.1)).in3 (decide (namesF (opV r.next.2.1) > 0))).in3 (decide (namesF (opV r.next.2.1) > 1)))), (4, [I 0, I 0, S noS, S noS]), (9, [I (opV r.next.2.1), I ((r.in1 many).in2V (opV r.next.2.1)), S (((r.in1 many).in2 (opV r.next.2.1)).in3V (decide (namesF (opV r.next.2.1) > 0))), S ((((r.in1 many).in2 (opV r.next.2.1)).in3 (decide (namesF (opV r.next.2.1) > 0))).in3V (decide (namesF (opV r.next.2.1) > 1)))])], fun _ => True, ?_, fun _ _ => ?_⟩
    · refine ⟨opV r.next.2.1, ⟨.refl _, trivial⟩, rfl, trivial, ?_⟩
      refine ⟨fun h => ?_, fun h => ?_⟩
      · have h1 : decide (namesF (opV r.next.2.1) > 1) = true := h
        refine ⟨by kernel_rfl, ?_⟩
        refine ⟨(((r.in1 many).in2 (opV r.next.2.1)).in3 (decide (namesF (opV r.next.2.1) > 0)), ()), ⟨.refl _, trivial⟩, ⟨⟨rfl, .refl _, .refl _, .refl _, .refl _, .refl _, trivial⟩, trivial⟩, ⟨rok_fwd hd.1 f2, trivial⟩, ?_⟩
        have hE : (((r.in1 many).in2 (opV r.next.2.1)).in3 (decide (namesF (opV r.next.2.1) > 0))).fresh = (((r.in1 many).in2 (opV r.next.2.1)).in3 (decide (namesF (opV r.next.2.1) > 0))).in3 (decide (namesF (opV r.next.2.1) > 1)) := (if_pos h1).symm
        have hN : (((r.in1 many).in2 (opV r.next.2.1)).in3 (decide (namesF (opV r.next.2.1) > 0))).freshV = (((r.in1 many).in2 (opV r.next.2.1)).in3 (decide (namesF (opV r.next.2.1) > 0))).in3V (decide (namesF (opV r.next.2.1) > 1)) := (if_pos h1).symm
        exact ⟨(), trivial, ⟨rfl, rfl⟩, .refl _, .refl _, .refl _, .refl _, ⟨.refl _, .refl _, .refl _, .str hN, trivial⟩, ⟨.refl _, .refl _, .refl _, .refl _, trivial⟩, ⟨.rowEq (rL hE :), .int (rI hE :), .int (rN hE :), .int (rA hE :), .int (rE hE :), trivial⟩, trivial⟩
      · have h1 : decide (namesF (opV r.next.2.1) > 1) = false := h
        have hE : ((r.in1 many).in2 (opV r.next.2.1)).in3 (decide (namesF (opV r.next.2.1) > 0)) = (((r.in1 many).in2 (opV r.next.2.1)).in3 (decide (namesF (opV r.next.2.1) > 0))).in3 (decide (namesF (opV r.next.2.1) > 1)) := (if_neg (by rw [h1]; decide)).symm
        have hN : noS = (((r.in1 many).in2 (opV r.next.2.1)).in3 (decide (namesF (opV r.next.2.1) > 0))).in3V (decide (namesF (opV r.next.2.1) > 1)) := (if_neg (by rw [h1]; decide)).symm
        exact ⟨(), trivial, ⟨rfl, rfl⟩, .refl _, .refl _, .refl _, .refl _, ⟨.refl _, .refl _, .refl _, .str hN, trivial⟩, ⟨.refl _, .refl _, .refl _, .refl _, trivial⟩, ⟨.rowEq (rL hE :), .int (rI hE :), .int (rN hE :), .int (rA hE :), .int (rE hE :), trivial⟩, trivial⟩
    refine ⟨by kernel_rfl, ?_⟩
    refine ⟨((((r.in1 many).in2 (opV r.next.2.1)).in3 (decide (namesF (opV r.next.2.1) > 0))).in3 (decide (namesF (opV r.next.2.1) > 1)), wSemi), ⟨.refl _, .str rfl, trivial⟩, ⟨⟨rfl, .refl _, .refl _, .refl _, .refl _, .refl _, trivial⟩, trivial⟩, ⟨rok_fwd hd.1 f3, trivial⟩, ?_⟩
    have hE : ((((r.in1 many).in2 (opV r.next.2.1)).in3 (decide (namesF (opV r.next.2.1) > 0))).in3 (decide (namesF (opV r.next.2.1) > 1))).want wSemi = r.instrR many := (if_pos h0).symm
    have hV : (⟨opV r.next.2.1, (r.in1 many).in2V (opV r.next.2.1), ((r.in1 many).in2 (opV r.next.2.1)).in3V (decide (namesF (opV r.next.2.1) > 0)), (((r.in1 many).in2 (opV r.next.2.1)).in3 (decide (namesF (opV r.next.2.1) > 0))).in3V (decide (namesF (opV r.next.2.1) > 1))⟩ : Ins) = r.instrV many := (if_pos h0).symm
    exact ⟨.tup2 (.insEq hV) (.btt h0), ⟨rfl, .rowEq (rL hE :), .int (rI hE :), .int (rN hE :), .int (rA hE :), .int (rE hE :), trivial⟩, trivial⟩
end Go.Proofs.YtimhbimpaiiceaaDoor.Ax
