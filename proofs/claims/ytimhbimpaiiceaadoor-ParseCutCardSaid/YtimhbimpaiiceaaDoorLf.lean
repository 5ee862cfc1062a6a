/- Layer lex by the logic: tokens, scanning. -/
import Derived.Test.YtimhbimpaiiceaaDoorLe
set_option linter.unusedVariables false
set_option linter.unusedSimpArgs false
namespace Go.Proofs.YtimhbimpaiiceaaDoor.Ax
open Go Go.RowKit
abbrev Tok := Int × ByteArray × Int × Int
def tokC (t : Int × ByteArray × Int × Int) : List SV := [I t.1, S t.2.1, I t.2.2.1, I t.2.2.2]
abbrev tok0 : Int × ByteArray × Int × Int := (0, ⟨#[]⟩, 0, 0)
def tokS (t : Int × ByteArray × Int × Int) : SV := .agg (tokC t)
def tokenF (l : List UInt8) : (Int × ByteArray × Int × Int) × Bool := match numF l with
  | some n => ((2, ⟨#[]⟩, n, 0), true)
  | none => if nameF l then ((1, txt l, 0, 0), true) else if l.length = 1 ∧ isSign (l.getD 0 0) = true then ((3, txt l, 0, 0), true) else (tok0, false)
def tokenC : Ctr := { A := List UInt8, enc := fun l => [X l], dom := fun l => l.length ≤ 4611686018427387904, res := fun l _ => .tup [tokS (tokenF l).1, B (tokenF l).2], gl := tabs }
theorem token_ok : CtrSound Tryd.prog 41 tokenC :=
  ctr_of_ax (env_okB tys_ok (eqs := []) trivial (cs := [(39, idxC), (57, numC), (13, nameC)]) ⟨idx_ok, num_ok, name_ok, trivial⟩ (bs := []) trivial (gl := tabs)) mixed _ Tryd.func41 (by kernel_rfl) rfl (fun _ _ => Nat.le_of_ble_eq_true rfl) fun (l : List UInt8) id hd => by
    have hd : l.length ≤ 4611686018427387904 := hd
    have hz := size_txt l
    have ha := at_txt l
    have fin : ∀ (a b : Int) (s : ByteArray) (c d : Int) (k : Bool), tokenF l = ((a, s, b, c), k) → ∀ x, (Sub x (B k)) → Sub (.tup [.agg [I a, S s, I b, I c], x]) (.tup [tokS (tokenF l).1, B (tokenF l).2]) := fun a b s c d k h x hx => by
      rw [h]; exact .tup2 (.refl _) hx
    refine ⟨l, ⟨.refl _, trivial⟩, rfl, hd, ?_⟩
    refine ⟨fun h => ?_, fun h => ?_⟩
    · obtain ⟨n, hn⟩ := Option.isSome_iff_exists.1 h
      have e : tokenF l = ((2, ⟨#[]⟩, (numF l).getD 0, 0), true) := by unfold tokenF; rw [hn]; rfl
      exact ⟨fin _ _ _ _ 0 _ e _ .tt, rfl⟩
    have hn : numF l = none := by
      cases hc : numF l with
      | none => rfl
      | some n => rw [hc] at h; cases h
    refine ⟨l, ⟨.refl _, trivial⟩, rfl, hd, ?_⟩
    refine ⟨fun h => ?_, fun h => ?_⟩
    · have e : tokenF l = ((1, txt l, 0, 0), true) := by unfold tokenF; rw [hn]; simp only; rw [if_pos h]
      exact ⟨fin _ _ _ _ 0 _ e _ .tt, rfl⟩
    have e1 : tokenF l = if l.length = 1 ∧ isSign (l.getD 0 0) = true then ((3, txt l, 0, 0), true) else (tok0, false) := by
      unfold tokenF; rw [hn]; simp only; rw [if_neg (by simp only [show nameF l = false from h]; simp)]
    refine ⟨fun h => ?_, fun h => ?_⟩
    · have h1 : l.length = 1 := by have h : ((⟨l.toArray⟩ : ByteArray).size : Int) = 1 := by simpa using h
                                   omega
      refine ⟨⟨by omega, by omega⟩, ?_⟩
      refine ⟨(signsB, (txt l).data.getD 0 0), ⟨.refl _, .refl _, trivial⟩, rfl, trivial, ?_⟩
      have hsg : decide (Lib.indexByte signsB.data.toList ((txt l).data.getD 0 0) ≥ 0) = isSign (l.getD 0 0) := by rw [ha]; exact idx_has _ _
      refine ⟨fun h => ?_, fun h => ?_⟩
      · have h : decide (Lib.indexByte signsB.data.toList ((txt l).data.getD 0 0) ≥ 0) = true := h
        rw [hsg] at h
        exact ⟨fin _ _ _ _ 0 _ (by rw [e1, if_pos ⟨h1, h⟩]) _ .tt, rfl⟩
      · have h : decide (Lib.indexByte signsB.data.toList ((txt l).data.getD 0 0) ≥ 0) = false := h
        rw [hsg] at h
        exact ⟨fin _ _ _ _ 0 _ (by rw [e1, if_neg (fun c => by rw [h] at c; exact absurd c.2 (by decide))]) _ .ff, rfl⟩
    · have h1 : l.length ≠ 1 := by have h : ¬ ((⟨l.toArray⟩ : ByteArray).size : Int) = 1 := by simpa using h
                                   omega
      exact ⟨fin _ _ _ _ 0 _ (by rw [e1, if_neg (fun c => h1 c.1)]) _ .ff, rfl⟩
theorem token_nil : (tokenF []).2 = false := by
  unfold tokenF
  rw [numC_none]
  simp [nameF]
def setAt (t : Int × ByteArray × Int × Int) (i : Nat) : Int × ByteArray × Int × Int := (t.1, t.2.1, t.2.2.1, (i : Int))
def scanL : Nat → Nat → List UInt8 → List (Int × ByteArray × Int × Int) × Option Nat
  | _, _, [] => ([], none)
  | 0, i, _ :: _ => ([], some i)
  | f + 1, i, c :: r => if isBlank c then scanL f (i + 1) r else
      if (tokenF ((c :: r).take (wordF (c :: r)))).2 then
        (setAt (tokenF ((c :: r).take (wordF (c :: r)))).1 i :: (scanL f (i + wordF (c :: r)) ((c :: r).drop (wordF (c :: r)))).1, (scanL f (i + wordF (c :: r)) ((c :: r).drop (wordF (c :: r)))).2)
      else ([], some i)
theorem word_pos {l : List UInt8} (h : (tokenF (l.take (wordF l))).2 = true) : 0 < wordF l := by
  rcases Nat.eq_zero_or_pos (wordF l) with h0 | h0
  · rw [h0, List.take_zero, token_nil] at h; cases h
  · exact h0
theorem scanL_fuel : ∀ (f g i : Nat) (l : List UInt8), l.length ≤ f → l.length ≤ g → scanL f i l = scanL g i l
  | f, g, i, [], _, _ => by cases f <;> cases g <;> rfl
  | 0, _, _, _ :: _, h, _ => by simp at h
  | _, 0, _, _ :: _, _, h => by simp at h
  | f + 1, g + 1, i, c :: r, h1, h2 => by
    simp only [List.length_cons] at h1 h2
    simp only [scanL]
    rw [scanL_fuel f g (i + 1) r (by omega) (by omega)]
    split
    · rfl
    · split
      · rename_i h
        have hp := word_pos h
        rw [scanL_fuel f g _ _ (by rw [List.length_drop, List.length_cons]; omega) (by rw [List.length_drop, List.length_cons]; omega)]
      · rfl
def scanI (i : Nat) (l : List UInt8) := scanL l.length i l
theorem scanI_nil (i : Nat) : scanI i [] = ([], none) := rfl
theorem scanI_blank (i : Nat) (l : List UInt8) (h : 0 < l.length) (hb : isBlank (l.getD 0 0) = true) : scanI i l = scanI (i + 1) (l.drop 1) := by
  cases l with
  | nil => simp at h
  | cons c r =>
    have hb : isBlank c = true := by simpa using hb
    simp only [scanI, scanL, List.length_cons, hb, if_true, List.drop_succ_cons, List.drop_zero]
theorem scanI_bad (i : Nat) (l : List UInt8) (h : 0 < l.length) (hb : isBlank (l.getD 0 0) = false) (ht : (tokenF (l.take (wordF l))).2 = false) : scanI i l = ([], some i) := by
  cases l with
  | nil => simp at h
  | cons c r =>
    have hb : isBlank c = false := by simpa using hb
    simp only [scanI, List.length_cons, scanL]
    rw [if_neg (by simp [hb]), if_neg (by simp only [ht]; simp)]
theorem scanI_tok (i : Nat) (l : List UInt8) (h : 0 < l.length) (hb : isBlank (l.getD 0 0) = false) (ht : (tokenF (l.take (wordF l))).2 = true) :
    scanI i l = (setAt (tokenF (l.take (wordF l))).1 i :: (scanI (i + wordF l) (l.drop (wordF l))).1, (scanI (i + wordF l) (l.drop (wordF l))).2) := by
  have hp := word_pos ht
  cases l with
  | nil => simp at h
  | cons c r =>
    have hb : isBlank c = false := by simpa using hb
    rw [scanI, List.length_cons, scanL]
    rw [if_neg (by simp [hb]), if_pos ht]
    rw [scanL_fuel r.length ((c :: r).drop (wordF (c :: r))).length _ _ (by rw [List.length_drop, List.length_cons]; omega) (Nat.le_refl _)]
    rfl
def scanF (b : List UInt8) : List (Int × ByteArray × Int × Int) × Int × Int := if 6000 < b.length then ([], 0, 2) else match (scanI 0 b).2 with
  | none => ((scanI 0 b).1, 0, 0)
  | some i => ([], (i : Int), 3)
def scanC : Ctr := { A := List UInt8, enc := fun b => [.row UInt8 1 byteC 0 b], dom := fun b => b.length ≤ 4611686018427387904, res := fun b id => .tup [.own (Int × ByteArray × Int × Int) 4 tokC tok0 (scanF b).1 id, I (scanF b).2.1, I (scanF b).2.2], gl := tabs }
def blanksB : ByteArray := ⟨#[32, 9, 10, 13]⟩
set_option maxRecDepth 100000 in
theorem scan_ok : CtrSound Tryd.prog 25 scanC :=
  ctr_of_ax (env_okB tys_ok (eqs := []) trivial (cs := [(39, idxC), (40, wordC), (41, tokenC)]) ⟨idx_ok, word_ok, token_ok, trivial⟩ (bs := []) trivial (gl := tabs)) mixed _ Tryd.func25 (by kernel_rfl) rfl (fun _ _ => Nat.le_of_ble_eq_true rfl) fun (b : List UInt8) id hd => by
    refine ⟨fun h => ?_, fun h => ?_⟩
    · have e : scanF b = ([], 0, 2) := if_pos (by have := of_decide_eq_true h; omega)
      exact ⟨(show Sub _ (.tup [.own (Int × ByteArray × Int × Int) 4 tokC tok0 (scanF b).1 id, I (scanF b).2.1, I (scanF b).2.2]) by rw [e]; exact .tup3 (.nilO ..) (.refl _) (.refl _)), rfl⟩
    have hle : b.length ≤ 6000 := by have := of_decide_eq_false h; omega
    have e0 : scanF b = match (scanI 0 b).2 with | none => ((scanI 0 b).1, 0, 0) | some i => ([], (i : Int), 3) := if_neg (by omega)
    refine ⟨Nat × List (Int × ByteArray × Int × Int), fun s => [(0, .row UInt8 1 byteC 0 b), (5, I s.1), (2, .own (Int × ByteArray × Int × Int) 4 tokC tok0 s.2 47)], fun _ => [],
      fun s => s.1 ≤ b.length ∧ s.2.length ≤ s.1 ∧ s.2 ++ (scanI s.1 (b.drop s.1)).1 = (scanI 0 b).1 ∧ (scanI s.1 (b.drop s.1)).2 = (scanI 0 b).2, fun s => b.length - s.1, ⟨(0, []), ⟨Nat.zero_le _, Nat.le_refl _, rfl, rfl⟩, ⟨⟨rfl, rfl⟩, .refl _, .refl _, .nilO .., trivial⟩⟩, fun ((i, o) : Nat × List (Int × ByteArray × Int × Int)) hi => ?_⟩
    have h1 : i ≤ b.length := hi.1
    have h2 : o.length ≤ i := hi.2.1
    have h3 : o ++ (scanI i (b.drop i)).1 = (scanI 0 b).1 := hi.2.2.1
    have h4 : (scanI i (b.drop i)).2 = (scanI 0 b).2 := hi.2.2.2
    have hwj : IntKind.i64.wrap ((i : Int) + 1) = ((i + 1 : Nat) : Int) := by rw [wrap_eq _ (by omega) (by omega)]; omega
    have di : (i : Int).toNat = i := by omega
    refine ⟨fun h => ?_, fun h => ?_⟩
    · have hlt : i < b.length := by have := of_decide_eq_true h; omega
      have hdl : 0 < (b.drop i).length := by rw [List.length_drop]; omega
      have hg : (b.drop i).getD 0 0 = b.getD i 0 := by simp [List.getD, List.getElem?_drop]
      refine ⟨by omega, ?_⟩
      refine ⟨(blanksB, b.getD i 0), ⟨.refl _, .refl _, trivial⟩, rfl, trivial, ?_⟩
      have hbl : decide (Lib.indexByte blanksB.data.toList (b.getD i 0) ≥ 0) = isBlank (b.getD i 0) := idx_has _ _
      refine ⟨fun h => ?_, fun h => ?_⟩
      · have h : decide (Lib.indexByte blanksB.data.toList (b.getD i 0) ≥ 0) = true := h
        rw [hbl] at h
        have e := scanI_blank i (b.drop i) hdl (by rw [hg]; exact h)
        rw [List.drop_drop] at e
        rw [e] at h3 h4
        exact ⟨(i + 1, o), ⟨hlt, by show o.length ≤ i + 1; omega, h3, h4⟩, by show b.length - (i + 1) < b.length - i; omega, ⟨rfl, rfl⟩, .refl _, .int hwj, .refl _, trivial⟩
      have h : decide (Lib.indexByte blanksB.data.toList (b.getD i 0) ≥ 0) = false := h
      rw [hbl] at h
      refine ⟨by omega, ?_⟩
      refine ⟨b.drop i, ⟨.refl _, trivial⟩, rfl, (show (b.drop i).length ≤ 1000000 by rw [List.length_drop]; omega), ?_⟩
      have hwl := wordF_le (b.drop i)
      rw [List.length_drop] at hwl
      have hww : IntKind.i64.wrap ((i : Int) + ((wordF (b.drop i) : Nat) : Int)) = ((i + wordF (b.drop i) : Nat) : Int) := by rw [wrap_eq _ (by omega) (by omega)]; omega
      have htk : (b.take (i + wordF (b.drop i))).drop i = (b.drop i).take (wordF (b.drop i)) := by
        rw [List.drop_take]; congr 1; omega
      refine ⟨⟨by omega, by show (i : Int) ≤ IntKind.i64.wrap ((i : Int) + ((wordF (b.drop i) : Nat) : Int)); omega, by show IntKind.i64.wrap ((i : Int) + ((wordF (b.drop i) : Nat) : Int)) ≤ (b.length : Int); omega⟩, ?_⟩
      refine ⟨(b.drop i).take (wordF (b.drop i)), ?_, ?_⟩
      · show Sub (.row UInt8 1 byteC 0 ((b.take (IntKind.i64.wrap ((i : Int) + ((wordF (b.drop i) : Nat) : Int))).toNat).drop (i : Int).toNat)) _
        rw [hww, di, show ((i + wordF (b.drop i) : Nat) : Int).toNat = i + wordF (b.drop i) by omega, htk]
        exact .refl _
      refine ⟨(b.drop i).take (wordF (b.drop i)), ⟨.refl _, trivial⟩, rfl, (show ((b.drop i).take (wordF (b.drop i))).length ≤ 4611686018427387904 by rw [List.length_take, List.length_drop]; omega), ?_⟩
      refine ⟨fun h5 => ?_, fun h5 => ?_⟩
      · have h5 : (tokenF ((b.drop i).take (wordF (b.drop i)))).2 = false := by simpa using h5
        have e := scanI_bad i (b.drop i) hdl (by rw [hg]; exact h) h5
        rw [e] at h4
        have e2 : scanF b = ([], (i : Int), 3) := by rw [e0, ← h4]
        exact ⟨(show Sub _ (.tup [.own (Int × ByteArray × Int × Int) 4 tokC tok0 (scanF b).1 id, I (scanF b).2.1, I (scanF b).2.2]) by rw [e2]; exact .tup3 (.nilO ..) (.refl _) (.refl _)), rfl⟩
      · have h5 : (tokenF ((b.drop i).take (wordF (b.drop i)))).2 = true := by simpa using h5
        have hp := word_pos h5
        have e := scanI_tok i (b.drop i) hdl (by rw [hg]; exact h) h5
        rw [List.drop_drop] at e
        rw [e] at h3 h4
        refine ⟨(Int × ByteArray × Int × Int), tokC, tok0, [setAt (tokenF ((b.drop i).take (wordF (b.drop i)))).1 i], ⟨rfl, fun _ => rfl⟩, ⟨.refl _, .refl _, .refl _, .refl _, trivial⟩, rfl, ?_⟩
        refine ⟨(Int × ByteArray × Int × Int), tokC, tok0, o, [setAt (tokenF ((b.drop i).take (wordF (b.drop i)))).1 i], 47, ⟨.refl _, .own ..⟩, fun _ => rfl, (by simp only [List.length_cons, List.length_nil]; omega), ?_⟩
        exact ⟨(i + wordF (b.drop i), o ++ [setAt (tokenF ((b.drop i).take (wordF (b.drop i)))).1 i]), ⟨by omega, by show (o ++ [_]).length ≤ i + wordF (b.drop i); rw [List.length_append, List.length_singleton]; omega, by rw [List.append_assoc]; exact h3, h4⟩, by show b.length - (i + wordF (b.drop i)) < b.length - i; omega, ⟨rfl, rfl⟩, .refl _, .int hww, .refl _, trivial⟩
    · have hge : i = b.length := by have := of_decide_eq_false h; omega
      rw [List.drop_of_length_le (by omega), scanI_nil] at h3 h4
      have e2 : scanF b = (o, 0, 0) := by rw [e0, ← h4, ← h3]; simp
      exact ⟨(show Sub _ (.tup [.own (Int × ByteArray × Int × Int) 4 tokC tok0 (scanF b).1 id, I (scanF b).2.1, I (scanF b).2.2]) by rw [e2]; exact .tup3 (.refl _) (.refl _) (.refl _)), rfl⟩
end Go.Proofs.YtimhbimpaiiceaaDoor.Ax
