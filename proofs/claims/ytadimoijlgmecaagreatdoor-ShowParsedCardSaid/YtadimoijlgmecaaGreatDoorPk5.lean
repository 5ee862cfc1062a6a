/- Walks and laws, part 5: Lf Sb Sc Sd Se Ga Gb Lg Lh Lp Sf Sg Gs Si Sj Sk Gt. -/
import Derived.Test.YtadimoijlgmecaaGreatDoorPk4
/- Layer lex by the logic: tokens, scanning. -/
set_option linter.unusedVariables false
set_option linter.unusedSimpArgs false
namespace Go.Proofs.YtadimoijlgmecaaGreatDoor.Ax
open Go Go.RowKit
abbrev Tok := Int × ByteArray × Int × Int
def tokC (t : Int × ByteArray × Int × Int) : List SV := [I t.1, S t.2.1, I t.2.2.1, I t.2.2.2]
abbrev tok0 : Int × ByteArray × Int × Int := (0, ⟨#[]⟩, 0, 0)
def tokS (t : Int × ByteArray × Int × Int) : SV := .agg (tokC t)
def tokenF (l : List UInt8) : (Int × ByteArray × Int × Int) × Bool := match numF l with
  | some n => ((2, ⟨#[]⟩, n, 0), true)
  | none => if nameF l then ((1, txt l, 0, 0), true) else if l.length = 1 ∧ isSign (l.getD 0 0) = true then ((3, txt l, 0, 0), true) else (tok0, false)
def tokenC : Ctr := { A := List UInt8, enc := fun l => [X l], dom := fun l => l.length ≤ 4611686018427387904, res := fun l _ => .tup [tokS (tokenF l).1, B (tokenF l).2], gl := tabs }
theorem token_ok : CtrSound Tryz.prog 61 tokenC :=
  ctr_of_ax (env_okB tys_ok (eqs := []) trivial (cs := [(59, idxC), (96, numC), (73, nameC)]) ⟨idx_ok, num_ok, name_ok, trivial⟩ (bs := []) trivial (gl := tabs)) mixed _ Tryz.func61 (by kernel_rfl) rfl (fun _ _ => Nat.le_of_ble_eq_true rfl) fun (l : List UInt8) id hd => by
    have hd : l.length ≤ 4611686018427387904 := hd
    have hz := size_txt l
    have ha := at_txt l
    have fin : ∀ (a b : Int) (s : ByteArray) (c d : Int) (k : Bool), tokenF l = ((a, s, b, c), k) → ∀ x, (Sub x (B k)) → Sub (.tup [.agg [I a, S s, I b, I c], x]) (.tup [tokS (tokenF l).1, B (tokenF l).2]) := fun a b s c d k h x hx => by
      rw [h]; exact .tup2 (.refl _) hx
    refine ⟨l, ⟨.refl _, trivial⟩, rfl, hd, ?_⟩
    refine ⟨fun h => ?_, fun h => ?_⟩
    · obtain ⟨n, hn⟩ := Option.isSome_iff_exists.1 h
      have e : tokenF l = ((2, ⟨#[]⟩, (numF l).getD 0, 0), true) := by unfold tokenF; rw [hn]; rfl
      exact ⟨fin _ _ _ _ 0 _ e _ .tt, rfl⟩
    have hn : numF l = none := by
      cases hc : numF l with
      | none => rfl
      | some n => rw [hc] at h; cases h
    refine ⟨l, ⟨.refl _, trivial⟩, rfl, hd, ?_⟩
    refine ⟨fun h => ?_, fun h => ?_⟩
    · have e : tokenF l = ((1, txt l, 0, 0), true) := by unfold tokenF; rw [hn]; simp only; rw [if_pos h]
      exact ⟨fin _ _ _ _ 0 _ e _ .tt, rfl⟩
    have e1 : tokenF l = if l.length = 1 ∧ isSign (l.getD 0 0) = true then ((3, txt l, 0, 0), true) else (tok0, false) := by
      unfold tokenF; rw [hn]; simp only; rw [if_neg (by simp only [show nameF l = false from h]; simp)]
    refine ⟨fun h => ?_, fun h => ?_⟩
    · have h1 : l.length = 1 := by have h : ((⟨l.toArray⟩ : ByteArray).size : Int) = 1 := by simpa using h
                                   omega
      refine ⟨⟨by omega, by omega⟩, ?_⟩
      refine ⟨(signsB, (txt l).data.getD 0 0), ⟨.refl _, .refl _, trivial⟩, rfl, trivial, ?_⟩
      have hsg : decide (Lib.indexByte signsB.data.toList ((txt l).data.getD 0 0) ≥ 0) = isSign (l.getD 0 0) := by rw [ha]; exact idx_has _ _
      refine ⟨fun h => ?_, fun h => ?_⟩
      · have h : decide (Lib.indexByte signsB.data.toList ((txt l).data.getD 0 0) ≥ 0) = true := h
        rw [hsg] at h
        exact ⟨fin _ _ _ _ 0 _ (by rw [e1, if_pos ⟨h1, h⟩]) _ .tt, rfl⟩
      · have h : decide (Lib.indexByte signsB.data.toList ((txt l).data.getD 0 0) ≥ 0) = false := h
        rw [hsg] at h
        exact ⟨fin _ _ _ _ 0 _ (by rw [e1, if_neg (fun c => by rw [h] at c; exact absurd c.2 (by decide))]) _ .ff, rfl⟩
    · have h1 : l.length ≠ 1 := by have h : ¬ ((⟨l.toArray⟩ : ByteArray).size : Int) = 1 := by simpa using h
                                   omega
      exact ⟨fin _ _ _ _ 0 _ (by rw [e1, if_neg (fun c => h1 c.1)]) _ .ff, rfl⟩
theorem token_nil : (tokenF []).2 = false := by
  unfold tokenF
  rw [numC_none]
  simp [nameF]
def setAt (t : Int × ByteArray × Int × Int) (i : Nat) : Int × ByteArray × Int × Int := (t.1, t.2.1, t.2.2.1, (i : Int))
def scanL : Nat → Nat → List UInt8 → List (Int × ByteArray × Int × Int) × Option Nat
  | _, _, [] => ([], none)
  | 0, i, _ :: _ => ([], some i)
  | f + 1, i, c :: r => if isBlank c then scanL f (i + 1) r else
      if (tokenF ((c :: r).take (wordF (c :: r)))).2 then
        (setAt (tokenF ((c :: r).take (wordF (c :: r)))).1 i :: (scanL f (i + wordF (c :: r)) ((c :: r).drop (wordF (c :: r)))).1, (scanL f (i + wordF (c :: r)) ((c :: r).drop (wordF (c :: r)))).2)
      else ([], some i)
theorem word_pos {l : List UInt8} (h : (tokenF (l.take (wordF l))).2 = true) : 0 < wordF l := by
  rcases Nat.eq_zero_or_pos (wordF l) with h0 | h0
  · rw [h0, List.take_zero, token_nil] at h; cases h
  · exact h0
theorem scanL_fuel : ∀ (f g i : Nat) (l : List UInt8), l.length ≤ f → l.length ≤ g → scanL f i l = scanL g i l
  | f, g, i, [], _, _ => by cases f <;> cases g <;> rfl
  | 0, _, _, _ :: _, h, _ => by simp at h
  | _, 0, _, _ :: _, _, h => by simp at h
  | f + 1, g + 1, i, c :: r, h1, h2 => by
    simp only [List.length_cons] at h1 h2
    simp only [scanL]
    rw [scanL_fuel f g (i + 1) r (by omega) (by omega)]
    split
    · rfl
    · split
      · rename_i h
        have hp := word_pos h
        rw [scanL_fuel f g _ _ (by rw [List.length_drop, List.length_cons]; omega) (by rw [List.length_drop, List.length_cons]; omega)]
      · rfl
def scanI (i : Nat) (l : List UInt8) := scanL l.length i l
theorem scanI_nil (i : Nat) : scanI i [] = ([], none) := rfl
theorem scanI_blank (i : Nat) (l : List UInt8) (h : 0 < l.length) (hb : isBlank (l.getD 0 0) = true) : scanI i l = scanI (i + 1) (l.drop 1) := by
  cases l with
  | nil => simp at h
  | cons c r =>
    have hb : isBlank c = true := by simpa using hb
    simp only [scanI, scanL, List.length_cons, hb, if_true, List.drop_succ_cons, List.drop_zero]
theorem scanI_bad (i : Nat) (l : List UInt8) (h : 0 < l.length) (hb : isBlank (l.getD 0 0) = false) (ht : (tokenF (l.take (wordF l))).2 = false) : scanI i l = ([], some i) := by
  cases l with
  | nil => simp at h
  | cons c r =>
    have hb : isBlank c = false := by simpa using hb
    simp only [scanI, List.length_cons, scanL]
    rw [if_neg (by simp [hb]), if_neg (by simp only [ht]; simp)]
theorem scanI_tok (i : Nat) (l : List UInt8) (h : 0 < l.length) (hb : isBlank (l.getD 0 0) = false) (ht : (tokenF (l.take (wordF l))).2 = true) :
    scanI i l = (setAt (tokenF (l.take (wordF l))).1 i :: (scanI (i + wordF l) (l.drop (wordF l))).1, (scanI (i + wordF l) (l.drop (wordF l))).2) := by
  have hp := word_pos ht
  cases l with
  | nil => simp at h
  | cons c r =>
    have hb : isBlank c = false := by simpa using hb
    rw [scanI, List.length_cons, scanL]
    rw [if_neg (by simp [hb]), if_pos ht]
    rw [scanL_fuel r.length ((c :: r).drop (wordF (c :: r))).length _ _ (by rw [List.length_drop, List.length_cons]; omega) (Nat.le_refl _)]
    rfl
def scanF (b : List UInt8) : List (Int × ByteArray × Int × Int) × Int × Int := if 6000 < b.length then ([], 0, 2) else match (scanI 0 b).2 with
  | none => ((scanI 0 b).1, 0, 0)
  | some i => ([], (i : Int), 3)
def scanC : Ctr := { A := List UInt8, enc := fun b => [.row UInt8 1 byteC 0 b], dom := fun b => b.length ≤ 4611686018427387904, res := fun b id => .tup [.own (Int × ByteArray × Int × Int) 4 tokC tok0 (scanF b).1 id, I (scanF b).2.1, I (scanF b).2.2], gl := tabs }
def blanksB : ByteArray := ⟨#[32, 9, 10, 13]⟩
set_option maxRecDepth 100000 in
theorem scan_ok : CtrSound Tryz.prog 36 scanC :=
  ctr_of_ax (env_okB tys_ok (eqs := []) trivial (cs := [(59, idxC), (60, wordC), (61, tokenC)]) ⟨idx_ok, word_ok, token_ok, trivial⟩ (bs := []) trivial (gl := tabs)) mixed _ Tryz.func36 (by kernel_rfl) rfl (fun _ _ => Nat.le_of_ble_eq_true rfl) fun (b : List UInt8) id hd => by
    refine ⟨fun h => ?_, fun h => ?_⟩
    · have e : scanF b = ([], 0, 2) := if_pos (by have := of_decide_eq_true h; omega)
      exact ⟨(show Sub _ (.tup [.own (Int × ByteArray × Int × Int) 4 tokC tok0 (scanF b).1 id, I (scanF b).2.1, I (scanF b).2.2]) by rw [e]; exact .tup3 (.nilO ..) (.refl _) (.refl _)), rfl⟩
    have hle : b.length ≤ 6000 := by have := of_decide_eq_false h; omega
    have e0 : scanF b = match (scanI 0 b).2 with | none => ((scanI 0 b).1, 0, 0) | some i => ([], (i : Int), 3) := if_neg (by omega)
    refine ⟨Nat × List (Int × ByteArray × Int × Int), fun s => [(0, .row UInt8 1 byteC 0 b), (5, I s.1), (2, .own (Int × ByteArray × Int × Int) 4 tokC tok0 s.2 47)], fun _ => [],
      fun s => s.1 ≤ b.length ∧ s.2.length ≤ s.1 ∧ s.2 ++ (scanI s.1 (b.drop s.1)).1 = (scanI 0 b).1 ∧ (scanI s.1 (b.drop s.1)).2 = (scanI 0 b).2, fun s => b.length - s.1, ⟨(0, []), ⟨Nat.zero_le _, Nat.le_refl _, rfl, rfl⟩, ⟨⟨rfl, rfl⟩, .refl _, .refl _, .nilO .., trivial⟩⟩, fun ((i, o) : Nat × List (Int × ByteArray × Int × Int)) hi => ?_⟩
    have h1 : i ≤ b.length := hi.1
    have h2 : o.length ≤ i := hi.2.1
    have h3 : o ++ (scanI i (b.drop i)).1 = (scanI 0 b).1 := hi.2.2.1
    have h4 : (scanI i (b.drop i)).2 = (scanI 0 b).2 := hi.2.2.2
    have hwj : IntKind.i64.wrap ((i : Int) + 1) = ((i + 1 : Nat) : Int) := by rw [wrap_eq _ (by omega) (by omega)]; omega
    have di : (i : Int).toNat = i := by omega
    refine ⟨fun h => ?_, fun h => ?_⟩
    · have hlt : i < b.length := by have := of_decide_eq_true h; omega
      have hdl : 0 < (b.drop i).length := by rw [List.length_drop]; omega
      have hg : (b.drop i).getD 0 0 = b.getD i 0 := by simp [List.getD, List.getElem?_drop]
      refine ⟨by omega, ?_⟩
      refine ⟨(blanksB, b.getD i 0), ⟨.refl _, .refl _, trivial⟩, rfl, trivial, ?_⟩
      have hbl : decide (Lib.indexByte blanksB.data.toList (b.getD i 0) ≥ 0) = isBlank (b.getD i 0) := idx_has _ _
      refine ⟨fun h => ?_, fun h => ?_⟩
      · have h : decide (Lib.indexByte blanksB.data.toList (b.getD i 0) ≥ 0) = true := h
        rw [hbl] at h
        have e := scanI_blank i (b.drop i) hdl (by rw [hg]; exact h)
        rw [List.drop_drop] at e
        rw [e] at h3 h4
        exact ⟨(i + 1, o), ⟨hlt, by show o.length ≤ i + 1; omega, h3, h4⟩, by show b.length - (i + 1) < b.length - i; omega, ⟨rfl, rfl⟩, .refl _, .int hwj, .refl _, trivial⟩
      have h : decide (Lib.indexByte blanksB.data.toList (b.getD i 0) ≥ 0) = false := h
      rw [hbl] at h
      refine ⟨by omega, ?_⟩
      refine ⟨b.drop i, ⟨.refl _, trivial⟩, rfl, (show (b.drop i).length ≤ 1000000 by rw [List.length_drop]; omega), ?_⟩
      have hwl := wordF_le (b.drop i)
      rw [List.length_drop] at hwl
      have hww : IntKind.i64.wrap ((i : Int) + ((wordF (b.drop i) : Nat) : Int)) = ((i + wordF (b.drop i) : Nat) : Int) := by rw [wrap_eq _ (by omega) (by omega)]; omega
      have htk : (b.take (i + wordF (b.drop i))).drop i = (b.drop i).take (wordF (b.drop i)) := by
        rw [List.drop_take]; congr 1; omega
      refine ⟨⟨by omega, by show (i : Int) ≤ IntKind.i64.wrap ((i : Int) + ((wordF (b.drop i) : Nat) : Int)); omega, by show IntKind.i64.wrap ((i : Int) + ((wordF (b.drop i) : Nat) : Int)) ≤ (b.length : Int); omega⟩, ?_⟩
      refine ⟨(b.drop i).take (wordF (b.drop i)), ?_, ?_⟩
      · show Sub (.row UInt8 1 byteC 0 ((b.take (IntKind.i64.wrap ((i : Int) + ((wordF (b.drop i) : Nat) : Int))).toNat).drop (i : Int).toNat)) _
        rw [hww, di, show ((i + wordF (b.drop i) : Nat) : Int).toNat = i + wordF (b.drop i) by omega, htk]
        exact .refl _
      refine ⟨(b.drop i).take (wordF (b.drop i)), ⟨.refl _, trivial⟩, rfl, (show ((b.drop i).take (wordF (b.drop i))).length ≤ 4611686018427387904 by rw [List.length_take, List.length_drop]; omega), ?_⟩
      refine ⟨fun h5 => ?_, fun h5 => ?_⟩
      · have h5 : (tokenF ((b.drop i).take (wordF (b.drop i)))).2 = false := by simpa using h5
        have e := scanI_bad i (b.drop i) hdl (by rw [hg]; exact h) h5
        rw [e] at h4
        have e2 : scanF b = ([], (i : Int), 3) := by rw [e0, ← h4]
        exact ⟨(show Sub _ (.tup [.own (Int × ByteArray × Int × Int) 4 tokC tok0 (scanF b).1 id, I (scanF b).2.1, I (scanF b).2.2]) by rw [e2]; exact .tup3 (.nilO ..) (.refl _) (.refl _)), rfl⟩
      · have h5 : (tokenF ((b.drop i).take (wordF (b.drop i)))).2 = true := by simpa using h5
        have hp := word_pos h5
        have e := scanI_tok i (b.drop i) hdl (by rw [hg]; exact h) h5
        rw [List.drop_drop] at e
        rw [e] at h3 h4
        refine ⟨(Int × ByteArray × Int × Int), tokC, tok0, [setAt (tokenF ((b.drop i).take (wordF (b.drop i)))).1 i], ⟨rfl, fun _ => rfl⟩, ⟨.refl _, .refl _, .refl _, .refl _, trivial⟩, rfl, ?_⟩
        refine ⟨(Int × ByteArray × Int × Int), tokC, tok0, o, [setAt (tokenF ((b.drop i).take (wordF (b.drop i)))).1 i], 47, ⟨.refl _, .own ..⟩, fun _ => rfl, (by simp only [List.length_cons, List.length_nil]; omega), ?_⟩
        exact ⟨(i + wordF (b.drop i), o ++ [setAt (tokenF ((b.drop i).take (wordF (b.drop i)))).1 i]), ⟨by omega, by show (o ++ [_]).length ≤ i + wordF (b.drop i); rw [List.length_append, List.length_singleton]; omega, by rw [List.append_assoc]; exact h3, h4⟩, by show b.length - (i + wordF (b.drop i)) < b.length - i; omega, ⟨rfl, rfl⟩, .refl _, .int hww, .refl _, trivial⟩
    · have hge : i = b.length := by have := of_decide_eq_false h; omega
      rw [List.drop_of_length_le (by omega), scanI_nil] at h3 h4
      have e2 : scanF b = (o, 0, 0) := by rw [e0, ← h4, ← h3]; simp
      exact ⟨(show Sub _ (.tup [.own (Int × ByteArray × Int × Int) 4 tokC tok0 (scanF b).1 id, I (scanF b).2.1, I (scanF b).2.2]) by rw [e2]; exact .tup3 (.refl _) (.refl _) (.refl _)), rfl⟩
end Go.Proofs.YtadimoijlgmecaaGreatDoor.Ax
/- Layer show: what Go's library answers about rows of texts, as the logic's contracts. -/
set_option linter.unusedVariables false
set_option linter.unusedSimpArgs false
namespace Go.Proofs.YtadimoijlgmecaaGreatDoor.Ax
open Go Go.RowKit
/-- the package variables that the library reads in this layer -/
def tabS (w : World) : Prop := Lib.TabIs Tryz.prog w "internal/strconv.uint64pow10" .u64 Lib.pow10Tab ∧ Lib.TabIs Tryz.prog w "strings.asciiSpace" .u8 Lib.asciiSpaceTab
def strC (s : ByteArray) : List SV := [S s]
theorem str_cells {H : HM} {w : World} (hs : Sealed H w) {l : List ByteArray} {v : Value} (h : G H noB noT (.row ByteArray 1 strC ⟨#[]⟩ l) v) :
    ∃ p cap, v = .slice p l.length cap ∧ (l ≠ [] → ∃ b o, p = some ⟨b, o, none⟩ ∧ l.length ≤ cap ∧ ∀ (i : Nat), i < l.length → w.cell? ⟨b, o + i, none⟩ = some (.string (l.getD i ⟨#[]⟩))) := by
  cases h with
  | rowE _ _ _ _ a c => exact ⟨a, c, rfl, fun h => absurd rfl h⟩
  | row _ _ _ _ _ b off c vs hc hz hH hG =>
    refine ⟨_, c, rfl, fun _ => ⟨b, off, rfl, hc, fun i hi => ?_⟩⟩
    have h1 := hs _ _ _ (hH i 0 hi (by omega))
    have h2 := hG i 0 hi (by omega)
    have h3 : vs i 0 = .string (l.getD i ⟨#[]⟩) := gval' (show G H noB noT (.val (.string (l.getD i ⟨#[]⟩))) _ from h2)
    rw [Nat.mul_one, Nat.add_zero] at h1
    rw [h1, h3]
def hasC : Ctr := { A := List ByteArray × ByteArray, enc := fun x => [.row ByteArray 1 strC ⟨#[]⟩ x.1, S x.2], dom := fun x => x.1.length ≤ 4611686018427387904, res := fun x _ => B (Lib.containsS x.1 x.2) }
theorem has_ok : CtrSound Tryz.prog 106 hasC := by
  refine ctr_pure ⟨_, Tryz.func106, by kernel_rfl, by kernel_rfl⟩ fun x H w vs id hd hgl hs hn hg => ?_
  obtain ⟨u, v, rfl, h1, h2⟩ := args2 hn hg
  obtain ⟨l, s⟩ := x
  have hd : l.length ≤ 4611686018427387904 := hd
  rw [gval' h2]
  obtain ⟨p, cap, rfl, h3⟩ := str_cells hs h1
  by_cases hl : l = []
  · subst hl
    refine (Tryz.slices_Contains_string_empty p cap s w).mono ?_
    rintro e w' ⟨rfl, rfl⟩
    exact ⟨_, rfl, .refl _ _, .val _⟩
  · obtain ⟨b, o, rfl, hc, h4⟩ := h3 hl
    refine (Tryz.slices_Contains_string b o l.length cap l s w (Nat.le_refl _) (by omega) (fun j hj => h4 j hj)).mono ?_
    rintro e w' ⟨rfl, rfl⟩
    exact ⟨_, rfl, .refl _ _, by rw [List.take_length]; exact .val _⟩
def atC : Ctr := { A := List ByteArray × ByteArray, enc := fun x => [.row ByteArray 1 strC ⟨#[]⟩ x.1, S x.2], dom := fun x => x.1.length ≤ 4611686018427387904, res := fun x _ => I (Lib.idxOfS x.1 x.2) }
theorem at_ok : CtrSound Tryz.prog 129 atC := by
  refine ctr_pure ⟨_, Tryz.func129, by kernel_rfl, by kernel_rfl⟩ fun x H w vs id hd hgl hs hn hg => ?_
  obtain ⟨u, v, rfl, h1, h2⟩ := args2 hn hg
  obtain ⟨l, s⟩ := x
  have hd : l.length ≤ 4611686018427387904 := hd
  rw [gval' h2]
  obtain ⟨p, cap, rfl, h3⟩ := str_cells hs h1
  by_cases hl : l = []
  · subst hl
    refine (Tryz.slices_Index_string_empty p cap s w).mono ?_
    rintro e w' ⟨rfl, rfl⟩
    exact ⟨_, rfl, .refl _ _, .val _⟩
  · obtain ⟨b, o, rfl, hc, h4⟩ := h3 hl
    refine (Tryz.slices_Index_string b o l.length cap l s w (Nat.le_refl _) (by omega) (fun j hj => h4 j hj)).mono ?_
    rintro e w' ⟨rfl, rfl⟩
    exact ⟨_, rfl, .refl _ _, by rw [List.take_length]; exact .val _⟩
/-- texts joined -/
def sjoinF (l : List ByteArray) (sep : ByteArray) : List UInt8 := Lib.join (l.map (·.data.toList)) sep.data.toList
def sjoinC : Ctr := { A := List ByteArray × ByteArray, enc := fun x => [.row ByteArray 1 strC ⟨#[]⟩ x.1, S x.2], dom := fun x => x.1.length ≤ 1000000 ∧ (sjoinF x.1 x.2).length ≤ 140737488355328, res := fun x _ => .val (.string ⟨(sjoinF x.1 x.2).toArray⟩) }
theorem sjoin_ok : CtrSound Tryz.prog 27 sjoinC := by
  refine ctr_pure ⟨_, Tryz.func27, by kernel_rfl, by kernel_rfl⟩ fun x H w vs id hd hgl hs hn hg => ?_
  obtain ⟨u, v, rfl, h1, h2⟩ := args2 hn hg
  obtain ⟨l, s⟩ := x
  have hd : l.length ≤ 1000000 ∧ (sjoinF l s).length ≤ 140737488355328 := hd
  rw [gval' h2]
  obtain ⟨p, cap, rfl, h3⟩ := str_cells hs h1
  by_cases hl : l = []
  · subst hl
    refine (Tryz.strings_Join_none p cap s w).mono ?_
    rintro e w' ⟨rfl, rfl⟩
    exact ⟨_, rfl, .refl _ _, .val _⟩
  · obtain ⟨b, o, rfl, hc, h4⟩ := h3 hl
    have hpos : 0 < l.length := List.length_pos_iff.2 hl
    have hbl : b < w.heap.size := by
      have := h4 0 hpos
      rcases Nat.lt_or_ge b w.heap.size with h | h
      · exact h
      · simp [World.cell?, Array.getElem?_eq_none h] at this
    refine (Tryz.strings_Join b o cap l s w (fun j x hx => ?_) hbl (by omega) hc hd.2).mono ?_
    · have hj := (List.getElem?_eq_some_iff.1 hx).1
      rw [h4 j hj, List.getD, hx]; rfl
    · rintro e w' ⟨rfl, hb⟩
      exact ⟨_, rfl, hb, .val _⟩
/-- a text's words -/
def wordsF (s : ByteArray) : List ByteArray := (Lib.fields s.data.toList).map fun l => ⟨l.toArray⟩
def fieldsC : Ctr := { A := ByteArray, enc := fun s => [S s], dom := fun s => s.size < 4294967281 ∧ ∀ (j : Nat) (b : UInt8), s.data.toList[j]? = some b → b.toNat < 128, res := fun s id => .own ByteArray 1 strC ⟨#[]⟩ (wordsF s) id, gl := tabS }
theorem fields_ok : CtrSound Tryz.prog 107 fieldsC := by
  refine ⟨⟨_, Tryz.func107, by kernel_rfl, by kernel_rfl⟩, fun s H w vs id hd hs hgl hn hg => ?_⟩
  obtain ⟨u, rfl, h1⟩ := args1 hn hg
  rw [gval' h1]
  refine (Tryz.strings_Fields_laid s w hd.1 hd.2 (hgl w hs ⟨Nat.le_refl _, fun _ _ => rfl⟩).2).mono ?_
  rintro e w' ⟨rfl, rfl⟩
  have hlen : (wordsF s).length = (Lib.fields s.data.toList).length := by simp [wordsF]
  have hsl : ∀ b o v, H b o = some v → b < w.heap.size := fun b o v e => World.block_lt_of_cell? w _ (hs b o v e)
  have hcell : ∀ b o, b < w.heap.size → (w.alloc (Go.Obj.cells (List.map (fun l => Go.Value.string { data := l.toArray }) (Go.Lib.fields s.data.toList)).toArray 9)).cell? ⟨b, o, none⟩ = w.cell? ⟨b, o, none⟩ := fun b o h => World.cell?_alloc_lt _ _ _ h
  have hnew : ∀ o, o < (wordsF s).length → (w.alloc (Go.Obj.cells (List.map (fun l => Go.Value.string { data := l.toArray }) (Go.Lib.fields s.data.toList)).toArray 9)).cell? ⟨w.heap.size, o, none⟩ = some (.string ((wordsF s).getD o ⟨#[]⟩)) := by
    intro o ho
    rw [hlen] at ho
    rw [World.cell?_alloc_new]; simp [wordsF, List.getD, ho]
  let H' : HM := fun b o => if b = w.heap.size ∧ o < (wordsF s).length then some (.string ((wordsF s).getD o ⟨#[]⟩)) else H b o
  have hH' : ∀ b o, b < w.heap.size → H' b o = H b o := fun b o h => if_neg (fun c => by omega)
  have hHn : ∀ o, o < (wordsF s).length → H' w.heap.size o = some (.string ((wordsF s).getD o ⟨#[]⟩)) := fun o h => if_pos ⟨rfl, h⟩
  have key : ∀ H2 : HM, (∀ o, o < (wordsF s).length → H2 w.heap.size o = some (.string ((wordsF s).getD o ⟨#[]⟩))) → G H2 noB noT (fieldsC.res s id) (Go.Value.slice (some { block := w.heap.size, off := 0 }) (Go.Lib.fields s.data.toList).length (Go.Lib.fields s.data.toList).length) := by
    intro H2 h2
    rw [← hlen]
    refine .own ByteArray 1 strC ⟨#[]⟩ (wordsF s) id w.heap.size 0 _ (fun i _ => .string ((wordsF s).getD i ⟨#[]⟩)) (Nat.le_refl _) (fun _ _ => rfl) (fun i j hi hj => ?_) (fun i j hi hj => ?_) (fun o h1 h2 => by omega)
    · rw [show 0 + i * 1 + j = i by omega]; exact h2 i hi
    · rw [show j = 0 by omega]; exact .val _
  refine ⟨_, H', noT, rfl, ⟨rfl, rfl, rfl, by simp, fun k hk => Below.heap_alloc _ _ _ hk⟩, fun b o v e => by rw [hH' b o (hsl b o v e)]; exact e, hH', fun _ _ _ h => (by cases h), fun b o v e => ⟨?_, rfl⟩, key H' hHn, fun _ => key _ (fun o h => ?_)⟩
  · by_cases c : b = w.heap.size ∧ o < (wordsF s).length
    · obtain ⟨rfl, c⟩ := c
      rw [hHn o c] at e
      rw [hnew o c]; exact e
    · have e2 : H b o = some v := by have := e; simp only [H'] at this; rwa [if_neg c] at this
      rw [hcell b o (hsl b o v e2)]; exact hs b o v e2
  · unfold newH
    rw [if_neg (by omega)]; exact hHn o h
end Go.Proofs.YtadimoijlgmecaaGreatDoor.Ax
/- Layer show: the words of instructions, the kept ones. -/
set_option linter.unusedVariables false
set_option linter.unusedSimpArgs false
namespace Go.Proofs.YtadimoijlgmecaaGreatDoor.Ax
open Go Go.RowKit
def keptB : ByteArray := ⟨#[99, 108, 97, 115, 115, 32, 105, 110, 116, 101, 114, 102, 97, 99, 101, 32, 101, 120, 116, 101, 110, 100, 115, 32, 105, 109, 112, 108, 101, 109, 101, 110, 116, 115, 32, 102, 105, 101, 108, 100, 32, 115, 116, 97, 116, 105, 99, 32, 109, 101, 116, 104, 111, 100, 32, 102, 117, 110, 99, 116, 105, 111, 110, 32, 108, 111, 99, 97, 108, 115, 32, 99, 97, 116, 99, 104, 32, 105, 110, 116, 32, 118, 111, 105, 100]⟩
def keptL : List ByteArray := [⟨#[99, 108, 97, 115, 115]⟩, ⟨#[105, 110, 116, 101, 114, 102, 97, 99, 101]⟩, ⟨#[101, 120, 116, 101, 110, 100, 115]⟩, ⟨#[105, 109, 112, 108, 101, 109, 101, 110, 116, 115]⟩, ⟨#[102, 105, 101, 108, 100]⟩, ⟨#[115, 116, 97, 116, 105, 99]⟩, ⟨#[109, 101, 116, 104, 111, 100]⟩, ⟨#[102, 117, 110, 99, 116, 105, 111, 110]⟩, ⟨#[108, 111, 99, 97, 108, 115]⟩, ⟨#[99, 97, 116, 99, 104]⟩, ⟨#[105, 110, 116]⟩, ⟨#[118, 111, 105, 100]⟩]
def opsB : ByteArray := ⟨#[110, 111, 112, 32, 99, 111, 110, 115, 116, 32, 110, 117, 108, 108, 32, 108, 111, 97, 100, 32, 115, 116, 111, 114, 101, 32, 112, 111, 112, 32, 100, 117, 112, 32, 115, 119, 97, 112, 32, 97, 100, 100, 32, 115, 117, 98, 32, 109, 117, 108, 32, 100, 105, 118, 32, 114, 101, 109, 32, 110, 101, 103, 32, 103, 111, 116, 111, 32, 105, 102, 101, 113, 32, 105, 102, 110, 101, 32, 105, 102, 108, 116, 32, 105, 102, 103, 101, 32, 99, 109, 112, 101, 113, 32, 99, 109, 112, 110, 101, 32, 99, 109, 112, 108, 116, 32, 99, 109, 112, 103, 101, 32, 105, 102, 110, 117, 108, 108, 32, 105, 102, 114, 101, 102, 32, 115, 97, 109, 101, 32, 111, 116, 104, 101, 114, 32, 110, 101, 119, 32, 103, 101, 116, 32, 112, 117, 116, 32, 103, 101, 116, 115, 32, 112, 117, 116, 115, 32, 105, 110, 116, 115, 32, 114, 101, 102, 115, 32, 108, 101, 110, 32, 97, 116, 32, 115, 101, 116, 32, 105, 115, 32, 99, 97, 115, 116, 32, 99, 97, 108, 108, 32, 102, 117, 110, 99, 32, 114, 101, 116, 32, 108, 101, 97, 118, 101, 32, 116, 104, 114, 111, 119]⟩
def opsL : List ByteArray := [⟨#[110, 111, 112]⟩, ⟨#[99, 111, 110, 115, 116]⟩, ⟨#[110, 117, 108, 108]⟩, ⟨#[108, 111, 97, 100]⟩, ⟨#[115, 116, 111, 114, 101]⟩, ⟨#[112, 111, 112]⟩, ⟨#[100, 117, 112]⟩, ⟨#[115, 119, 97, 112]⟩, ⟨#[97, 100, 100]⟩, ⟨#[115, 117, 98]⟩, ⟨#[109, 117, 108]⟩, ⟨#[100, 105, 118]⟩, ⟨#[114, 101, 109]⟩, ⟨#[110, 101, 103]⟩, ⟨#[103, 111, 116, 111]⟩, ⟨#[105, 102, 101, 113]⟩, ⟨#[105, 102, 110, 101]⟩, ⟨#[105, 102, 108, 116]⟩, ⟨#[105, 102, 103, 101]⟩, ⟨#[99, 109, 112, 101, 113]⟩, ⟨#[99, 109, 112, 110, 101]⟩, ⟨#[99, 109, 112, 108, 116]⟩, ⟨#[99, 109, 112, 103, 101]⟩, ⟨#[105, 102, 110, 117, 108, 108]⟩, ⟨#[105, 102, 114, 101, 102]⟩, ⟨#[115, 97, 109, 101]⟩, ⟨#[111, 116, 104, 101, 114]⟩, ⟨#[110, 101, 119]⟩, ⟨#[103, 101, 116]⟩, ⟨#[112, 117, 116]⟩, ⟨#[103, 101, 116, 115]⟩, ⟨#[112, 117, 116, 115]⟩, ⟨#[105, 110, 116, 115]⟩, ⟨#[114, 101, 102, 115]⟩, ⟨#[108, 101, 110]⟩, ⟨#[97, 116]⟩, ⟨#[115, 101, 116]⟩, ⟨#[105, 115]⟩, ⟨#[99, 97, 115, 116]⟩, ⟨#[99, 97, 108, 108]⟩, ⟨#[102, 117, 110, 99]⟩, ⟨#[114, 101, 116]⟩, ⟨#[108, 101, 97, 118, 101]⟩, ⟨#[116, 104, 114, 111, 119]⟩]
theorem kept_words : wordsF keptB = keptL := by decide +kernel
theorem ops_words : wordsF opsB = opsL := by decide +kernel
theorem ascii_dom {s : ByteArray} (h1 : s.size < 4294967281) (h2 : (s.data.toList.all fun b => decide (b.toNat < 128)) = true) : s.size < 4294967281 ∧ ∀ (j : Nat) (b : UInt8), s.data.toList[j]? = some b → b.toNat < 128 :=
  ⟨h1, fun j b hb => of_decide_eq_true (List.all_eq_true.1 h2 b (List.mem_of_getElem? hb))⟩
theorem kept_dom : fieldsC.dom keptB := ascii_dom (s := keptB) (by decide +kernel) (by decide +kernel)
theorem ops_dom : fieldsC.dom opsB := ascii_dom (s := opsB) (by decide +kernel) (by decide +kernel)
def keptF (l : List UInt8) : Bool := Lib.containsS keptL ⟨l.toArray⟩
def keptC : Ctr := { A := List UInt8, enc := fun l => [X l], dom := fun _ => True, res := fun l _ => B (keptF l), gl := tabS }
set_option maxRecDepth 100000 in
theorem kept_ok : CtrSound Tryz.prog 74 keptC :=
  ctr_of_ax (env_okB tys_ok (eqs := []) trivial (cs := [(107, fieldsC), (106, hasC)]) ⟨fields_ok, has_ok, trivial⟩ (bs := []) trivial (gl := tabS)) mixed _ Tryz.func74 (by kernel_rfl) rfl (fun _ _ => Nat.le_of_ble_eq_true rfl) fun (l : List UInt8) id hd => by
    refine ⟨keptB, ⟨.str (by kernel_rfl), trivial⟩, rfl, kept_dom, ?_⟩
    refine ⟨(wordsF keptB, ⟨l.toArray⟩), ⟨.own .., .refl _, trivial⟩, rfl, (show (wordsF keptB).length ≤ 4611686018427387904 by rw [kept_words]; decide), ?_⟩
    exact ⟨.bool (by show Lib.containsS (wordsF keptB) _ = _; rw [kept_words]; rfl), rfl⟩
def freshF (l : List UInt8) : Bool := nameF l && !keptF l
def freshC : Ctr := { A := List UInt8, enc := fun l => [X l], dom := fun l => l.length ≤ 4611686018427387904, res := fun l _ => B (freshF l), gl := tabS }
set_option maxRecDepth 100000 in
theorem fresh_ok : CtrSound Tryz.prog 42 freshC :=
  ctr_of_ax (env_okB tys_ok (eqs := []) trivial (cs := [(73, nameC), (74, keptC)]) ⟨name_ok, kept_ok, trivial⟩ (bs := []) trivial (gl := tabS)) mixed _ Tryz.func42 (by kernel_rfl) rfl (fun _ _ => Nat.le_of_ble_eq_true rfl) fun (l : List UInt8) id hd => by
    refine ⟨l, ⟨.refl _, trivial⟩, rfl, hd, ?_⟩
    refine ⟨fun h => ?_, fun h => ?_⟩
    · refine ⟨l, ⟨.refl _, trivial⟩, rfl, trivial, ?_⟩
      exact ⟨.bool (by show (!keptF l) = freshF l; unfold freshF; rw [show nameF l = true from h]; rfl), rfl⟩
    · exact ⟨.bff (by unfold freshF; rw [show nameF l = false from h]; rfl), rfl⟩
def opsC : Ctr := { A := Unit, enc := fun _ => [], dom := fun _ => True, res := fun _ id => .own ByteArray 1 strC ⟨#[]⟩ opsL id, gl := tabS }
set_option maxRecDepth 100000 in
theorem ops_ok : CtrSound Tryz.prog 127 opsC :=
  ctr_of_ax (env_okB tys_ok (eqs := []) trivial (cs := [(107, fieldsC)]) ⟨fields_ok, trivial⟩ (bs := []) trivial (gl := tabS)) mixed _ Tryz.func127 (by kernel_rfl) rfl (fun _ _ => Nat.le_of_ble_eq_true rfl) fun (_ : Unit) id hd => by
    refine ⟨opsB, ⟨.str (by kernel_rfl), trivial⟩, rfl, ops_dom, ?_⟩
    exact ⟨.ownEq ops_words, rfl⟩
def wordF2 (n : Int) : ByteArray := if n < 0 ∨ 44 ≤ n then ⟨#[]⟩ else opsL.getD n.toNat ⟨#[]⟩
def pwordC : Ctr := { A := Int, enc := fun n => [I n], dom := fun _ => True, res := fun n _ => S (wordF2 n), gl := tabS }
set_option maxRecDepth 100000 in
theorem pword_ok : CtrSound Tryz.prog 104 pwordC :=
  ctr_of_ax (env_okB tys_ok (eqs := []) trivial (cs := [(127, opsC)]) ⟨ops_ok, trivial⟩ (bs := []) trivial (gl := tabS)) mixed _ Tryz.func104 (by kernel_rfl) rfl (fun _ _ => Nat.le_of_ble_eq_true rfl) fun (n : Int) id hd => by
    refine ⟨fun h => ?_, fun h => ?_⟩
    · exact ⟨.str (by unfold wordF2; rw [if_pos (.inl (of_decide_eq_true h))]), rfl⟩
    have h0 : ¬ n < 0 := of_decide_eq_false h
    refine ⟨fun h => ?_, fun h => ?_⟩
    · exact ⟨.str (by unfold wordF2; rw [if_pos (.inr (of_decide_eq_true h))]), rfl⟩
    have h1 : ¬ n ≥ 44 := of_decide_eq_false h
    have hl : opsL.length = 44 := by decide
    refine ⟨(), trivial, rfl, trivial, ?_⟩
    refine ⟨⟨by omega, by rw [hl]; show n < ((44 : Nat) : Int); omega⟩, ?_⟩
    exact ⟨.str (by unfold wordF2; rw [if_neg (by omega)]), rfl⟩
end Go.Proofs.YtadimoijlgmecaaGreatDoor.Ax
/- Layer show: types. -/
set_option linter.unusedVariables false
set_option linter.unusedSimpArgs false
namespace Go.Proofs.YtadimoijlgmecaaGreatDoor.Ax
open Go Go.RowKit
theorem eqT {a b : Int} (h : (a == b) = true) : a = b := eq_of_beq h
theorem eqF {a b : Int} (h : (a == b) = false) : a ≠ b := fun c => by rw [c] at h; simp at h
def tyS (t : Int × ByteArray) : SV := .agg [I t.1, S t.2]
def typedF (k : Int) (l : List UInt8) : Bool := if k = 1 ∨ k = 2 ∨ k = 4 then decide (l = []) else if k = 3 ∨ k = 5 then freshF l else false
def typedC : Ctr := { A := Int × List UInt8, enc := fun x => [tyS (x.1, txt x.2)], dom := fun x => x.2.length ≤ 4611686018427387904, res := fun x _ => B (typedF x.1 x.2), gl := tabS }
set_option maxRecDepth 100000 in
theorem typed_ok : CtrSound Tryz.prog 26 typedC :=
  ctr_of_ax (env_okB tys_ok (eqs := []) trivial (cs := [(42, freshC)]) ⟨fresh_ok, trivial⟩ (bs := []) trivial (gl := tabS)) mixed _ Tryz.func26 (by kernel_rfl) rfl (fun _ _ => Nat.le_of_ble_eq_true rfl) fun ((k, l) : Int × List UInt8) id hd => by
    have ht := txt_nil l
    have a1 : (k = 1 ∨ k = 2 ∨ k = 4) → ((txt l).toList == (⟨#[]⟩ : ByteArray).toList) = typedF k l := fun h => by
      rw [ht]; unfold typedF; rw [if_pos h]; simp [List.length_eq_zero_iff]
    have a2 : ¬ (k = 1 ∨ k = 2 ∨ k = 4) → (k = 3 ∨ k = 5) → freshF l = typedF k l := fun h h2 => by unfold typedF; rw [if_neg h, if_pos h2]
    have no : ∀ {b : Bool}, b = true → b = false → False := fun h c => by rw [h] at c; cases c
    refine ⟨fun h1 => ?_, fun h1 => ?_⟩
    · refine ⟨fun _ => ?_, fun c => (no h1 c).elim⟩
      exact ⟨.bool (a1 (.inl (eqT h1))), rfl⟩
    refine ⟨fun h2 => ?_, fun h2 => ?_⟩
    · refine ⟨fun _ => ?_, fun c => (no h2 c).elim⟩
      exact ⟨.bool (a1 (.inr (.inl (eqT h2)))), rfl⟩
    refine ⟨fun h3 => ?_, fun h3 => ?_⟩
    · exact ⟨.bool (a1 (.inr (.inr (eqT h3)))), rfl⟩
    have hn : ¬ (k = 1 ∨ k = 2 ∨ k = 4) := fun c => c.elim (eqF h1) fun c => c.elim (eqF h2) (eqF h3)
    refine ⟨fun h4 => ?_, fun h4 => ?_⟩
    · refine ⟨fun _ => ?_, fun c => (no h4 c).elim⟩
      refine ⟨l, ⟨.refl _, trivial⟩, rfl, hd, ?_⟩
      exact ⟨.bool (a2 hn (.inl (eqT h4))), rfl⟩
    refine ⟨fun h5 => ?_, fun h5 => ?_⟩
    · refine ⟨l, ⟨.refl _, trivial⟩, rfl, hd, ?_⟩
      exact ⟨.bool (a2 hn (.inr (eqT h5))), rfl⟩
    · exact ⟨.bff (by unfold typedF; rw [if_neg hn, if_neg (fun c => c.elim (eqF h4) (eqF h5))]), rfl⟩
def kindF (k : Int) (s : ByteArray) : List ByteArray := if k = 1 then [⟨#[118, 111, 105, 100]⟩] else if k = 2 then [⟨#[105, 110, 116]⟩] else if k = 4 then [⟨#[105, 110, 116]⟩, ⟨#[91]⟩, ⟨#[93]⟩] else if k = 5 then [s, ⟨#[91]⟩, ⟨#[93]⟩] else [s]
def kindC : Ctr := { A := Int × ByteArray, enc := fun x => [tyS x], dom := fun _ => True, res := fun x id => .own ByteArray 1 strC ⟨#[]⟩ (kindF x.1 x.2) id }
set_option maxRecDepth 100000 in
theorem kind_ok : CtrSound Tryz.prog 28 kindC :=
  ctr_of_ax (env_okB tys_ok (eqs := []) trivial (cs := []) trivial (bs := []) trivial) mixed _ Tryz.func28 (by kernel_rfl) rfl (fun _ _ => Nat.le_of_ble_eq_true rfl) fun ((k, s) : Int × ByteArray) id hd => by
    refine ⟨fun h1 => ?_, fun h1 => ?_⟩
    · refine ⟨ByteArray, strC, ⟨#[]⟩, [⟨#[118, 111, 105, 100]⟩], ⟨rfl, fun _ => rfl⟩, ⟨.refl _, trivial⟩, rfl, ?_⟩
      exact ⟨.ownEq (by unfold kindF; rw [if_pos (eqT h1)]), rfl⟩
    refine ⟨fun h2 => ?_, fun h2 => ?_⟩
    · refine ⟨ByteArray, strC, ⟨#[]⟩, [⟨#[105, 110, 116]⟩], ⟨rfl, fun _ => rfl⟩, ⟨.refl _, trivial⟩, rfl, ?_⟩
      exact ⟨.ownEq (by unfold kindF; rw [if_neg (eqF h1), if_pos (eqT h2)]), rfl⟩
    refine ⟨fun h3 => ?_, fun h3 => ?_⟩
    · refine ⟨ByteArray, strC, ⟨#[]⟩, [⟨#[105, 110, 116]⟩, ⟨#[91]⟩, ⟨#[93]⟩], ⟨rfl, fun _ => rfl⟩, ⟨.refl _, .refl _, .refl _, trivial⟩, rfl, ?_⟩
      exact ⟨.ownEq (by unfold kindF; rw [if_neg (eqF h1), if_neg (eqF h2), if_pos (eqT h3)]), rfl⟩
    refine ⟨fun h4 => ?_, fun h4 => ?_⟩
    · refine ⟨ByteArray, strC, ⟨#[]⟩, [s, ⟨#[91]⟩, ⟨#[93]⟩], ⟨rfl, fun _ => rfl⟩, ⟨.refl _, .refl _, .refl _, trivial⟩, rfl, ?_⟩
      exact ⟨.ownEq (by unfold kindF; rw [if_neg (eqF h1), if_neg (eqF h2), if_neg (eqF h3), if_pos (eqT h4)]), rfl⟩
    refine ⟨ByteArray, strC, ⟨#[]⟩, [s], ⟨rfl, fun _ => rfl⟩, ⟨.refl _, trivial⟩, rfl, ?_⟩
    exact ⟨.ownEq (by unfold kindF; rw [if_neg (eqF h1), if_neg (eqF h2), if_neg (eqF h3), if_neg (eqF h4)]), rfl⟩
theorem kind_len (k : Int) (l : List UInt8) : (kindF k (txt l)).length ≤ 3 ∧ (sjoinF (kindF k (txt l)) ⟨#[]⟩).length ≤ l.length + 10 := by
  unfold kindF sjoinF
  split
  · exact ⟨by decide, by simp [Lib.join_cons, Lib.joinTail]⟩
  · split
    · exact ⟨by decide, by simp [Lib.join_cons, Lib.joinTail]⟩
    · split
      · exact ⟨by decide, by simp [Lib.join_cons, Lib.joinTail]⟩
      · split
        · exact ⟨by simp, by simp [Lib.join_cons, Lib.joinTail]⟩
        · exact ⟨by simp, by simp [Lib.join_cons, Lib.joinTail]⟩
def typeF (k : Int) (l : List UInt8) : List UInt8 × Int := if typedF k l then (sjoinF (kindF k (txt l)) ⟨#[]⟩, 0) else ([], 4)
def typeC : Ctr := { A := Int × List UInt8, enc := fun x => [tyS (x.1, txt x.2)], dom := fun x => x.2.length ≤ 1000000, res := fun x _ => .tup [X (typeF x.1 x.2).1, I (typeF x.1 x.2).2], gl := tabS }
set_option maxRecDepth 100000 in
theorem type_ok : CtrSound Tryz.prog 11 typeC :=
  ctr_of_ax (env_okB tys_ok (eqs := []) trivial (cs := [(26, typedC), (28, kindC), (27, sjoinC)]) ⟨typed_ok, kind_ok, sjoin_ok, trivial⟩ (bs := []) trivial (gl := tabS)) mixed _ Tryz.func11 (by kernel_rfl) rfl (fun _ _ => Nat.le_of_ble_eq_true rfl) fun ((k, l) : Int × List UInt8) id hd => by
    have hd : l.length ≤ 1000000 := hd
    refine ⟨(k, l), ⟨.refl _, trivial⟩, rfl, (show l.length ≤ 4611686018427387904 by omega), ?_⟩
    refine ⟨fun h => ?_, fun h => ?_⟩
    · have h : (!typedF k l) = true := h
      have e : typeF k l = ([], 4) := if_neg (by simpa using h)
      exact ⟨(show Sub _ (.tup [X (typeF k l).1, I (typeF k l).2]) by rw [e]; exact .tup2 (.refl _) (.refl _)), rfl⟩
    · have h : (!typedF k l) = false := h
      have e : typeF k l = (sjoinF (kindF k (txt l)) ⟨#[]⟩, 0) := if_pos (by simpa using h)
      have hk := kind_len k l
      refine ⟨(k, txt l), ⟨.refl _, trivial⟩, rfl, trivial, ?_⟩
      refine ⟨(kindF k (txt l), ⟨#[]⟩), ⟨.own .., .refl _, trivial⟩, rfl, (show (kindF k (txt l)).length ≤ 1000000 ∧ (sjoinF (kindF k (txt l)) ⟨#[]⟩).length ≤ 140737488355328 by omega), ?_⟩
      exact ⟨(show Sub _ (.tup [X (typeF k l).1, I (typeF k l).2]) by rw [e]; exact .tup2 (.refl _) (.refl _)), rfl⟩
end Go.Proofs.YtadimoijlgmecaaGreatDoor.Ax
/- Layer show: what instructions have. -/
set_option linter.unusedVariables false
set_option linter.unusedSimpArgs false
namespace Go.Proofs.YtadimoijlgmecaaGreatDoor.Ax
open Go Go.RowKit
theorem noTF {b : Bool} (h : b = true) (c : b = false) : False := by rw [h] at c; cases c
def inF (n lo hi : Int) : Bool := decide (lo ≤ n ∧ n ≤ hi)
def inC : Ctr := { A := Int × Int × Int, enc := fun x => [I x.1, I x.2.1, I x.2.2], dom := fun _ => True, res := fun x _ => B (inF x.1 x.2.1 x.2.2) }
theorem in_ok : CtrSound Tryz.prog 86 inC :=
  ctr_of_ax (env_ok tys_ok (eqs := []) trivial (cs := []) trivial) mixed _ Tryz.func86 (by kernel_rfl) rfl (fun _ _ => Nat.le_of_ble_eq_true rfl) fun ((n, lo, hi) : Int × Int × Int) id _ => by
    refine ⟨fun h => ?_, fun h => ?_⟩
    · have h1 : n ≥ lo := of_decide_eq_true h
      exact ⟨.bool (by show decide (n ≤ hi) = inF n lo hi; unfold inF; rw [Bool.eq_iff_iff]; simp; omega), rfl⟩
    · have h1 : ¬ n ≥ lo := of_decide_eq_false h
      exact ⟨.bff (by unfold inF; simp; omega), rfl⟩
def jumpF (n : Int) : Bool := decide (14 ≤ n ∧ n ≤ 26)
def jumpC : Ctr := { A := Int, enc := fun x => [I x], dom := fun _ => True, res := fun x _ => B (jumpF x) }
theorem jump_ok : CtrSound Tryz.prog 128 jumpC :=
  ctr_of_ax (env_ok tys_ok (eqs := []) trivial (cs := []) trivial) mixed _ Tryz.func128 (by kernel_rfl) rfl (fun _ _ => Nat.le_of_ble_eq_true rfl) fun (n : Int) id _ => by
    refine ⟨fun h => ?_, fun h => ?_⟩
    · have h1 : n ≥ 14 := of_decide_eq_true h
      exact ⟨.bool (by show decide (n ≤ 26) = jumpF n; unfold jumpF; rw [Bool.eq_iff_iff]; simp; omega), rfl⟩
    · have h1 : ¬ n ≥ 14 := of_decide_eq_false h
      exact ⟨.bff (by unfold jumpF; simp; omega), rfl⟩
def numsF (n : Int) : Int × Int × Bool := if n = 1 then (-2147483648, 2147483647, true) else if n = 3 ∨ n = 4 then (0, 7, true) else if jumpF n then (0, 47, true) else (0, 0, false)
def numsC : Ctr := { A := Int, enc := fun x => [I x], dom := fun _ => True, res := fun x _ => .tup [I (numsF x).1, I (numsF x).2.1, B (numsF x).2.2] }
theorem nums_ok : CtrSound Tryz.prog 105 numsC :=
  ctr_of_ax (env_ok tys_ok (eqs := []) trivial (cs := [(128, jumpC)]) ⟨jump_ok, trivial⟩) mixed _ Tryz.func105 (by kernel_rfl) rfl (fun _ _ => Nat.le_of_ble_eq_true rfl) fun (n : Int) id _ => by
    have fin : ∀ (a b : Int) (c : Bool) (s : SV), numsF n = (a, b, c) → Sub s (B c) → Sub (.tup [I a, I b, s]) (.tup [I (numsF n).1, I (numsF n).2.1, B (numsF n).2.2]) := fun a b c s e h => by rw [e]; exact .tup3 (.refl _) (.refl _) h
    refine ⟨fun h => ?_, fun h => ?_⟩
    · exact ⟨fin _ _ true _ (if_pos (eqT h)) .tt, rfl⟩
    have h1 := eqF h
    refine ⟨fun h => ?_, fun h => ?_⟩
    · exact ⟨fin _ _ true _ ((if_neg h1).trans (if_pos (.inl (eqT h)))) .tt, rfl⟩
    have h3 := eqF h
    refine ⟨fun h => ?_, fun h => ?_⟩
    · exact ⟨fin _ _ true _ ((if_neg h1).trans (if_pos (.inr (eqT h)))) .tt, rfl⟩
    have h4 := eqF h
    refine ⟨n, ⟨.refl _, trivial⟩, rfl, trivial, ?_⟩
    refine ⟨fun h => ?_, fun h => ?_⟩
    · exact ⟨fin _ _ true _ ((if_neg h1).trans ((if_neg (fun c => c.elim h3 h4)).trans (if_pos h))) .tt, rfl⟩
    · exact ⟨fin _ _ false _ ((if_neg h1).trans ((if_neg (fun c => c.elim h3 h4)).trans (if_neg (by rw [show jumpF n = false from h]; decide)))) .ff, rfl⟩
def namesF (n : Int) : Int := if n = 27 ∨ n = 33 ∨ n = 37 ∨ n = 38 then 1 else if n = 28 ∨ n = 29 ∨ n = 30 ∨ n = 31 ∨ n = 39 ∨ n = 40 then 2 else 0
def namesC : Ctr := { A := Int, enc := fun x => [I x], dom := fun _ => True, res := fun x _ => I (namesF x) }
theorem names_ok : CtrSound Tryz.prog 117 namesC :=
  ctr_of_ax (env_ok tys_ok (eqs := []) trivial (cs := []) trivial) mixed _ Tryz.func117 (by kernel_rfl) rfl (fun _ _ => Nat.le_of_ble_eq_true rfl) fun (n : Int) id _ => by
    have one : (n = 27 ∨ n = 33 ∨ n = 37 ∨ n = 38) → 1 = namesF n := fun h => (if_pos h).symm
    have two : (n = 28 ∨ n = 29 ∨ n = 30 ∨ n = 31 ∨ n = 39 ∨ n = 40) → 2 = namesF n := fun h => by unfold namesF; rw [if_neg (by omega), if_pos h]
    refine ⟨fun h => ⟨fun _ => ⟨.int (one (.inl (eqT h))), rfl⟩, fun c => (noTF h c).elim⟩, fun h1 => ?_⟩
    refine ⟨fun h => ⟨fun _ => ⟨.int (one (.inr (.inl (eqT h)))), rfl⟩, fun c => (noTF h c).elim⟩, fun h2 => ?_⟩
    refine ⟨fun h => ⟨fun _ => ⟨.int (one (.inr (.inr (.inl (eqT h))))), rfl⟩, fun c => (noTF h c).elim⟩, fun h3 => ?_⟩
    refine ⟨fun h => ⟨.int (one (.inr (.inr (.inr (eqT h))))), rfl⟩, fun h4 => ?_⟩
    refine ⟨fun h => ⟨fun _ => ⟨.int (two (.inl (eqT h))), rfl⟩, fun c => (noTF h c).elim⟩, fun h5 => ?_⟩
    refine ⟨fun h => ⟨fun _ => ⟨.int (two (.inr (.inl (eqT h)))), rfl⟩, fun c => (noTF h c).elim⟩, fun h6 => ?_⟩
    refine ⟨fun h => ⟨fun _ => ⟨.int (two (.inr (.inr (.inl (eqT h))))), rfl⟩, fun c => (noTF h c).elim⟩, fun h7 => ?_⟩
    refine ⟨fun h => ⟨fun _ => ⟨.int (two (.inr (.inr (.inr (.inl (eqT h)))))), rfl⟩, fun c => (noTF h c).elim⟩, fun h8 => ?_⟩
    refine ⟨fun h => ⟨fun _ => ⟨.int (two (.inr (.inr (.inr (.inr (.inl (eqT h))))))), rfl⟩, fun c => (noTF h c).elim⟩, fun h9 => ?_⟩
    refine ⟨fun h => ⟨.int (two (.inr (.inr (.inr (.inr (.inr (eqT h))))))), rfl⟩, fun h10 => ?_⟩
    have e1 := eqF h1; have e2 := eqF h2; have e3 := eqF h3; have e4 := eqF h4; have e5 := eqF h5; have e6 := eqF h6; have e7 := eqF h7; have e8 := eqF h8; have e9 := eqF h9; have e10 := eqF h10
    exact ⟨.int (by unfold namesF; rw [if_neg (by omega), if_neg (by omega)]), rfl⟩
end Go.Proofs.YtadimoijlgmecaaGreatDoor.Ax
/- Layer parse: what a reader of words does, in plain Lean. -/
set_option linter.unusedVariables false
set_option linter.unusedSimpArgs false
namespace Go.Proofs.YtadimoijlgmecaaGreatDoor.Ax
open Go Go.RowKit
abbrev Ty := Int × ByteArray
structure Fld where
  name : ByteArray
  type : Ty
  static : Bool
structure Ins where
  op : Int
  n : Int
  a : ByteArray
  b : ByteArray
structure Cat where
  name : ByteArray
  fr : Int
  up : Int
  at' : Int
structure Meth where
  name : ByteArray
  static : Bool
  abs : Bool
  params : List Ty
  ret : Ty
  locals : Int
  code : List Ins
  catches : List Cat
structure Cls where
  name : ByteArray
  iface : Bool
  super : ByteArray
  ifaces : List ByteArray
  fields : List Fld
  methods : List Meth
instance : DecidableEq Fld := fun a b => decidable_of_iff (a.name = b.name ∧ a.type = b.type ∧ a.static = b.static) (by cases a; cases b; simp)
instance : DecidableEq Ins := fun a b => decidable_of_iff (a.op = b.op ∧ a.n = b.n ∧ a.a = b.a ∧ a.b = b.b) (by cases a; cases b; simp)
instance : DecidableEq Cat := fun a b => decidable_of_iff (a.name = b.name ∧ a.fr = b.fr ∧ a.up = b.up ∧ a.at' = b.at') (by cases a; cases b; simp)
instance : DecidableEq Meth := fun a b => decidable_of_iff (a.name = b.name ∧ a.static = b.static ∧ a.abs = b.abs ∧ a.params = b.params ∧ a.ret = b.ret ∧ a.locals = b.locals ∧ a.code = b.code ∧ a.catches = b.catches) (by cases a; cases b; simp)
instance : DecidableEq Cls := fun a b => decidable_of_iff (a.name = b.name ∧ a.iface = b.iface ∧ a.super = b.super ∧ a.ifaces = b.ifaces ∧ a.fields = b.fields ∧ a.methods = b.methods) (by cases a; cases b; simp)
abbrev noS : ByteArray := ⟨#[]⟩
abbrev ty0 : Ty := (0, noS)
abbrev fld0 : Fld := ⟨noS, ty0, false⟩
abbrev ins0 : Ins := ⟨0, 0, noS, noS⟩
abbrev cat0 : Cat := ⟨noS, 0, 0, 0⟩
abbrev meth0 : Meth := ⟨noS, false, false, [], ty0, 0, [], []⟩
abbrev cls0 : Cls := ⟨noS, false, noS, [], [], []⟩
def tyC (t : Ty) : List SV := [I t.1, S t.2]
def fldC (f : Fld) : List SV := [S f.name, I f.type.1, S f.type.2, B f.static]
def insC (x : Ins) : List SV := [I x.op, I x.n, S x.a, S x.b]
def catC (c : Cat) : List SV := [S c.name, I c.fr, I c.up, I c.at']
def methC (m : Meth) : List SV := [S m.name, B m.static, B m.abs, .row Ty 2 tyC ty0 m.params, I m.ret.1, S m.ret.2, I m.locals, .row Ins 4 insC ins0 m.code, .row Cat 4 catC cat0 m.catches]
def clsC (c : Cls) : List SV := [S c.name, B c.iface, S c.super, .row ByteArray 1 strC noS c.ifaces, .row Fld 4 fldC fld0 c.fields, .row Meth 9 methC meth0 c.methods]
abbrev prgR (l : List Cls) : SV := .row Cls 6 clsC cls0 l

/-- The reader: words, where the text ends, the next word, where something is wrong, what. -/
structure Rs where
  L : List Tok
  n : Int
  i : Nat
  at' : Int
  e : Int
def rsC (r : Rs) : List SV := [.row Tok 4 tokC tok0 r.L, I r.i, I r.n, I r.at', I r.e]
def keptW (s : ByteArray) : Bool := keptF s.data.toList
def opV (s : ByteArray) : Int := Lib.idxOfS opsL s
def wVoid : ByteArray := ⟨#[118, 111, 105, 100]⟩
def wInt : ByteArray := ⟨#[105, 110, 116]⟩
def wLb : ByteArray := ⟨#[91]⟩
def wRb : ByteArray := ⟨#[93]⟩
def wLp : ByteArray := ⟨#[40]⟩
def wRp : ByteArray := ⟨#[41]⟩
def wLc : ByteArray := ⟨#[123]⟩
def wRc : ByteArray := ⟨#[125]⟩
def wComma : ByteArray := ⟨#[44]⟩
def wSemi : ByteArray := ⟨#[59]⟩
def wColon : ByteArray := ⟨#[58]⟩
def wLocals : ByteArray := ⟨#[108, 111, 99, 97, 108, 115]⟩
def wCatch : ByteArray := ⟨#[99, 97, 116, 99, 104]⟩
def wField : ByteArray := ⟨#[102, 105, 101, 108, 100]⟩
def wStatic : ByteArray := ⟨#[115, 116, 97, 116, 105, 99]⟩
def wMethod : ByteArray := ⟨#[109, 101, 116, 104, 111, 100]⟩
def wFunction : ByteArray := ⟨#[102, 117, 110, 99, 116, 105, 111, 110]⟩
def wClass : ByteArray := ⟨#[99, 108, 97, 115, 115]⟩
def wInterface : ByteArray := ⟨#[105, 110, 116, 101, 114, 102, 97, 99, 101]⟩
def wExtends : ByteArray := ⟨#[101, 120, 116, 101, 110, 100, 115]⟩
def wImplements : ByteArray := ⟨#[105, 109, 112, 108, 101, 109, 101, 110, 116, 115]⟩

namespace Rs
def fail (r : Rs) (e : Int) : Rs := if r.e = 0 then ⟨r.L, r.n, r.i, if r.i < r.L.length then (r.L.getD r.i tok0).2.2.2 else r.n, e⟩ else r
def next (r : Rs) : Tok := if r.e = 0 ∧ r.i < r.L.length then r.L.getD r.i tok0 else tok0
def is (r : Rs) (w : ByteArray) : Bool := decide (r.next.2.1 = w) && decide (w ≠ noS)
def step (r : Rs) : Rs := ⟨r.L, r.n, r.i + 1, r.at', r.e⟩
def take (r : Rs) (w : ByteArray) : Rs := if r.is w then r.step else r
def want (r : Rs) (w : ByteArray) : Rs := if r.is w then r.step else r.fail 4
def free (r : Rs) : Bool := decide (r.next.1 = 1) && !keptW r.next.2.1
def freshV (r : Rs) : ByteArray := if r.free then r.next.2.1 else noS
def fresh (r : Rs) : Rs := if r.free then r.step else r.fail 4
def numOk (r : Rs) (lo hi : Int) : Bool := decide (r.next.1 = 2 ∧ lo ≤ r.next.2.2.1 ∧ r.next.2.2.1 ≤ hi)
def numV (r : Rs) (lo hi : Int) : Int := if r.numOk lo hi then r.next.2.2.1 else 0
def num (r : Rs) (lo hi : Int) : Rs := if r.numOk lo hi then r.step else r.fail 4
def room (r : Rs) (many most : Int) : Rs := if many ≥ most then r.fail 2 else r
/-- how many rounds there may be yet -/
def need (r : Rs) : Nat := if r.e = 0 then r.L.length - r.i + 2 else 1
def name1 (r : Rs) (k : Int) : Rs := if r.step.free then r.step.room k 4 else r.step
def namesL : Nat → Rs → List ByteArray → List ByteArray × Rs
  | 0, r, out => (out, r)
  | f + 1, r, out => if r.is wComma then namesL f (r.name1 out.length).fresh (out ++ [(r.name1 out.length).freshV]) else (out, r)
def names (r : Rs) : List ByteArray × Rs := namesL (r.L.length + 2) r.fresh [r.freshV]
def rowR (r : Rs) : Rs := if r.is wLb then r.step.want wRb else r
def kindV (r : Rs) : Ty := if r.is wVoid then (1, noS) else if r.is wInt then (if r.step.is wLb then 4 else 2, noS) else (if r.fresh.is wLb then 5 else 3, r.freshV)
def kind (r : Rs) : Rs := if r.is wVoid then r.step else if r.is wInt then r.step.rowR else r.fresh.rowR
def param1 (r : Rs) (k : Int) : Rs := if r.step.free || r.step.is wInt || r.step.is wVoid then r.step.room k 4 else r.step
def paramsL : Nat → Rs → List Ty → List Ty × Rs
  | 0, r, out => (out, r)
  | f + 1, r, out => if r.is wComma then paramsL f (r.param1 out.length).kind (out ++ [(r.param1 out.length).kindV]) else (out, r)
def params (r : Rs) : List Ty × Rs := if (r.want wLp).is wRp then ([], (r.want wLp).step) else ((paramsL (r.L.length + 2) (r.want wLp).kind [(r.want wLp).kindV]).1, (paramsL (r.L.length + 2) (r.want wLp).kind [(r.want wLp).kindV]).2.want wRp)
def isOp (r : Rs) : Bool := decide (r.next.1 = 1) && decide (0 ≤ opV r.next.2.1)
def in1 (r : Rs) (many : Int) : Rs := (r.room many 48).want r.next.2.1
def in2 (r : Rs) (o : Int) : Rs := if (numsF o).2.2 then r.num (numsF o).1 (numsF o).2.1 else r
def in2V (r : Rs) (o : Int) : Int := if (numsF o).2.2 then r.numV (numsF o).1 (numsF o).2.1 else 0
def in3 (r : Rs) (b : Bool) : Rs := if b then r.fresh else r
def in3V (r : Rs) (b : Bool) : ByteArray := if b then r.freshV else noS
def inArgs (r : Rs) (o : Int) : Rs := ((r.in2 o).in3 (decide (namesF o > 0))).in3 (decide (namesF o > 1))
def inVal (r : Rs) (o : Int) : Ins := ⟨o, r.in2V o, (r.in2 o).in3V (decide (namesF o > 0)), ((r.in2 o).in3 (decide (namesF o > 0))).in3V (decide (namesF o > 1))⟩
def instr (r : Rs) (many : Int) : Ins × Rs := ((r.in1 many).inVal (opV r.next.2.1), ((r.in1 many).inArgs (opV r.next.2.1)).want wSemi)
def codeL : Nat → Rs → List Ins → List Ins × Rs
  | 0, r, out => (out, r)
  | f + 1, r, out => if r.isOp then codeL f (r.instr out.length).2 (out ++ [(r.instr out.length).1]) else (out, r)
def ca1 (r : Rs) (k : Int) : Rs := (r.room k 4).want wCatch
def catV (r : Rs) : Cat := ⟨r.freshV, r.fresh.numV 0 48, (r.fresh.num 0 48).numV 0 48, ((r.fresh.num 0 48).num 0 48).numV 0 48⟩
def catR (r : Rs) : Rs := (((r.fresh.num 0 48).num 0 48).num 0 48).want wSemi
def catchL : Nat → Rs → List Cat → List Cat × Rs
  | 0, r, out => (out, r)
  | f + 1, r, out => if r.is wCatch then catchL f (r.ca1 out.length).catR (out ++ [(r.ca1 out.length).catV]) else (out, r)
def bo1 (r : Rs) : Rs := ((r.want wLocals).num 0 8).want wLc
def boCode (r : Rs) : List Ins × Rs := codeL (r.L.length + 2) r.bo1 []
def boCat (r : Rs) : List Cat × Rs := catchL (r.L.length + 2) r.boCode.2 []
def body (r : Rs) : Rs := r.boCat.2.want wRc
def bodyV (r : Rs) (m : Meth) : Meth := ⟨m.name, m.static, m.abs, m.params, m.ret, (r.want wLocals).numV 0 8, r.boCode.1, r.boCat.1⟩
def mfV (r : Rs) (s : Bool) : Fld := ⟨r.freshV, (r.fresh.want wColon).kindV, s⟩
def mfR (r : Rs) : Rs := (r.fresh.want wColon).kind.want wSemi
def mm1 (r : Rs) : Rs := r.fresh.params.2.kind
def mm1V (r : Rs) (s : Bool) : Meth := ⟨r.freshV, s, r.mm1.is wSemi, r.fresh.params.1, r.fresh.params.2.kindV, 0, [], []⟩
def mmV (r : Rs) (s : Bool) : Meth := if r.mm1.is wSemi then r.mm1V s else r.mm1.bodyV (r.mm1V s)
def mmR (r : Rs) : Rs := if r.mm1.is wSemi then r.mm1.step else r.mm1.body
def memF (r : Rs) (k : Int) : Rs := (r.room k 6).want r.next.2.1
def member (r : Rs) (c : Cls) : Cls × Rs :=
  if r.next.2.1 = wField ∨ r.next.2.1 = wStatic then (⟨c.name, c.iface, c.super, c.ifaces, c.fields ++ [(r.memF c.fields.length).mfV (decide (r.next.2.1 = wStatic))], c.methods⟩, (r.memF c.fields.length).mfR)
  else if r.next.2.1 = wMethod ∨ r.next.2.1 = wFunction then (⟨c.name, c.iface, c.super, c.ifaces, c.fields, c.methods ++ [(r.memF c.methods.length).mmV (decide (r.next.2.1 = wFunction))]⟩, (r.memF c.methods.length).mmR)
  else (c, r.fail 4)
def clsL : Nat → Rs → Cls → Cls × Rs
  | 0, r, c => (c, r)
  | f + 1, r, c => if r.e = 0 then (if r.is wRc then (c, r.step) else clsL f (r.member c).2 (r.member c).1) else (c, r)
def cl1 (r : Rs) (many : Int) : Rs := (if r.is wClass || r.is wInterface then r.room many 10 else r).want (if r.is wInterface then wInterface else wClass)
/-- behind a class' name: its super, its interfaces -/
def ex1 (r : Rs) (ifc : Bool) : (ByteArray × List ByteArray) × Rs := if r.is wExtends then (if ifc then ((noS, r.step.names.1), r.step.names.2) else ((r.step.freshV, []), r.step.fresh)) else ((noS, []), r)
def ex2 (r : Rs) (ifc : Bool) (l : List ByteArray) : List ByteArray × Rs := if !ifc && r.is wImplements then r.step.names else (l, r)
def clV (r : Rs) (many : Int) : Cls := ⟨(r.cl1 many).freshV, r.is wInterface, ((r.cl1 many).fresh.ex1 (r.is wInterface)).1.1, (((r.cl1 many).fresh.ex1 (r.is wInterface)).2.ex2 (r.is wInterface) ((r.cl1 many).fresh.ex1 (r.is wInterface)).1.2).1, [], []⟩
def clR (r : Rs) (many : Int) : Rs := ((((r.cl1 many).fresh.ex1 (r.is wInterface)).2.ex2 (r.is wInterface) ((r.cl1 many).fresh.ex1 (r.is wInterface)).1.2).2).want wLc
def class' (r : Rs) (many : Int) : Cls × Rs := clsL (r.L.length + 2) (r.clR many) (r.clV many)
def prgL : Nat → Rs → List Cls → List Cls × Rs
  | 0, r, out => (out, r)
  | f + 1, r, out => if r.e = 0 ∧ r.i < r.L.length then prgL f (r.class' out.length).2 (out ++ [(r.class' out.length).1]) else (out, r)
end Rs
def parse0 (l : List UInt8) : Rs := ⟨(scanF l).1, l.length, 0, 0, 0⟩
def parseF (l : List UInt8) : List Cls × Int × Int :=
  if (scanF l).2.2 = 0 then (if (Rs.prgL ((scanF l).1.length + 2) (parse0 l) []).2.e = 0 then ((Rs.prgL ((scanF l).1.length + 2) (parse0 l) []).1, 0, 0) else ([], (Rs.prgL ((scanF l).1.length + 2) (parse0 l) []).2.at', (Rs.prgL ((scanF l).1.length + 2) (parse0 l) []).2.e)) else ([], (scanF l).2.1, (scanF l).2.2)
end Go.Proofs.YtadimoijlgmecaaGreatDoor.Ax
/- Layer parse: a reader goes on, and ends. -/
set_option linter.unusedVariables false
set_option linter.unusedSimpArgs false
namespace Go.Proofs.YtadimoijlgmecaaGreatDoor.Ax
open Go Go.RowKit
/-- One reader behind another: no further than to the words' end; not on behind what is wrong. -/
structure Fwd (r r' : Rs) : Prop where
  L : r'.L = r.L
  n : r'.n = r.n
  le : r.i ≤ r'.i
  bd : r'.i ≤ r.L.length ∨ r'.i = r.i
  err : r.e ≠ 0 → r' = r
namespace Fwd
theorem refl (r : Rs) : Fwd r r := ⟨rfl, rfl, Nat.le_refl _, .inr rfl, fun _ => rfl⟩
theorem trans {a b c : Rs} (h : Fwd a b) (k : Fwd b c) : Fwd a c := by
  refine ⟨k.L.trans h.L, k.n.trans h.n, Nat.le_trans h.le k.le, ?_, fun he => ?_⟩
  · have h1 := h.bd; have h2 := k.bd; have h3 := h.le; have h4 := k.le
    rw [h.L] at h2
    omega
  · have := h.err he
    subst this
    exact k.err he
theorem ok {a b : Rs} (h : Fwd a b) (k : a.i ≤ a.L.length) : b.i ≤ b.L.length := by
  have := h.bd
  rw [h.L]; omega
theorem good {a b : Rs} (h : Fwd a b) (k : b.e = 0) : a.e = 0 := Classical.byContradiction fun c => c (by have := h.err c; subst this; exact k)
end Fwd
namespace Rs
theorem next_none {r : Rs} (h : ¬ (r.e = 0 ∧ r.i < r.L.length)) : r.next = tok0 := if_neg h
theorem next_some {r : Rs} (h : r.e = 0 ∧ r.i < r.L.length) : r.next = r.L.getD r.i tok0 := if_pos h
theorem is_at {r : Rs} {w : ByteArray} (h : r.is w = true) : r.e = 0 ∧ r.i < r.L.length := by
  refine Classical.byContradiction fun c => ?_
  unfold is at h
  rw [next_none c] at h
  simp at h
  exact h.2 h.1.symm
theorem free_at {r : Rs} (h : r.free = true) : r.e = 0 ∧ r.i < r.L.length := by
  refine Classical.byContradiction fun c => ?_
  unfold free at h
  rw [next_none c] at h
  simp at h
theorem num_at {r : Rs} {lo hi : Int} (h : r.numOk lo hi = true) : r.e = 0 ∧ r.i < r.L.length := by
  refine Classical.byContradiction fun c => ?_
  unfold numOk at h
  rw [next_none c] at h
  simp at h
theorem isOp_at {r : Rs} (h : r.isOp = true) : r.e = 0 ∧ r.i < r.L.length := by
  refine Classical.byContradiction fun c => ?_
  unfold isOp at h
  rw [next_none c] at h
  simp at h
theorem fail_fwd (r : Rs) (e : Int) : Fwd r (r.fail e) := by
  unfold fail
  split
  · rename_i h; exact ⟨rfl, rfl, Nat.le_refl _, .inr rfl, fun c => absurd h c⟩
  · exact .refl _
theorem fail_e (r : Rs) {e : Int} (h : e ≠ 0) : (r.fail e).e ≠ 0 := by
  unfold fail
  split
  · exact h
  · assumption
theorem step_fwd {r : Rs} (h : r.e = 0 ∧ r.i < r.L.length) : Fwd r r.step := ⟨rfl, rfl, Nat.le_succ _, .inl h.2, fun c => absurd h.1 c⟩
theorem take_fwd (r : Rs) (w : ByteArray) : Fwd r (r.take w) := by
  unfold take
  split
  · exact step_fwd (is_at (by assumption))
  · exact .refl _
theorem want_fwd (r : Rs) (w : ByteArray) : Fwd r (r.want w) := by
  unfold want
  split
  · exact step_fwd (is_at (by assumption))
  · exact fail_fwd _ _
theorem fresh_fwd (r : Rs) : Fwd r r.fresh := by
  unfold fresh
  split
  · exact step_fwd (free_at (by assumption))
  · exact fail_fwd _ _
theorem num_fwd (r : Rs) (lo hi : Int) : Fwd r (r.num lo hi) := by
  unfold num
  split
  · exact step_fwd (num_at (by assumption))
  · exact fail_fwd _ _
theorem room_fwd (r : Rs) (a b : Int) : Fwd r (r.room a b) := by
  unfold room
  split
  · exact fail_fwd _ _
  · exact .refl _
theorem name1_fwd {r : Rs} (h : r.e = 0 ∧ r.i < r.L.length) (k : Int) : Fwd r (r.name1 k) := by
  unfold name1
  split
  · exact (step_fwd h).trans (room_fwd _ _ _)
  · exact step_fwd h
theorem namesL_fwd : ∀ (f : Nat) (r : Rs) (out : List ByteArray), Fwd r (namesL f r out).2
  | 0, r, out => .refl _
  | f + 1, r, out => by
    unfold namesL
    split
    · exact ((name1_fwd (is_at (by assumption)) _).trans (fresh_fwd _)).trans (namesL_fwd f _ _)
    · exact .refl _
theorem names_fwd (r : Rs) : Fwd r r.names.2 := (fresh_fwd r).trans (namesL_fwd _ _ _)
theorem rowR_fwd (r : Rs) : Fwd r r.rowR := by
  unfold rowR
  split
  · exact (step_fwd (is_at (by assumption))).trans (want_fwd _ _)
  · exact .refl _
theorem kind_fwd (r : Rs) : Fwd r r.kind := by
  unfold kind
  split
  · exact step_fwd (is_at (by assumption))
  · split
    · exact (step_fwd (is_at (by assumption))).trans (rowR_fwd _)
    · exact (fresh_fwd r).trans (rowR_fwd _)
theorem param1_fwd {r : Rs} (h : r.e = 0 ∧ r.i < r.L.length) (k : Int) : Fwd r (r.param1 k) := by
  unfold param1
  split
  · exact (step_fwd h).trans (room_fwd _ _ _)
  · exact step_fwd h
theorem paramsL_fwd : ∀ (f : Nat) (r : Rs) (out : List Ty), Fwd r (paramsL f r out).2
  | 0, r, out => .refl _
  | f + 1, r, out => by
    unfold paramsL
    split
    · exact ((param1_fwd (is_at (by assumption)) _).trans (kind_fwd _)).trans (paramsL_fwd f _ _)
    · exact .refl _
theorem params_fwd (r : Rs) : Fwd r r.params.2 := by
  unfold params
  split
  · exact (want_fwd r _).trans (step_fwd (is_at (by assumption)))
  · exact (((want_fwd r _).trans (kind_fwd _)).trans (paramsL_fwd _ _ _)).trans (want_fwd _ _)
theorem in1_fwd (r : Rs) (k : Int) : Fwd r (r.in1 k) := (room_fwd r k _).trans (want_fwd _ _)
theorem in2_fwd (r : Rs) (o : Int) : Fwd r (r.in2 o) := by
  unfold in2
  split
  · exact num_fwd _ _ _
  · exact .refl _
theorem in3_fwd (r : Rs) (b : Bool) : Fwd r (r.in3 b) := by
  unfold in3
  split
  · exact fresh_fwd _
  · exact .refl _
theorem inArgs_fwd (r : Rs) (o : Int) : Fwd r (r.inArgs o) := ((in2_fwd r o).trans (in3_fwd _ _)).trans (in3_fwd _ _)
theorem instr_fwd (r : Rs) (k : Int) : Fwd r (r.instr k).2 := ((in1_fwd r k).trans (inArgs_fwd _ _)).trans (want_fwd _ _)
theorem codeL_fwd : ∀ (f : Nat) (r : Rs) (out : List Ins), Fwd r (codeL f r out).2
  | 0, r, out => .refl _
  | f + 1, r, out => by
    unfold codeL
    split
    · exact (instr_fwd _ _).trans (codeL_fwd f _ _)
    · exact .refl _
theorem ca1_fwd (r : Rs) (k : Int) : Fwd r (r.ca1 k) := (room_fwd r k _).trans (want_fwd _ _)
theorem catR_fwd (r : Rs) : Fwd r r.catR := ((((fresh_fwd r).trans (num_fwd _ _ _)).trans (num_fwd _ _ _)).trans (num_fwd _ _ _)).trans (want_fwd _ _)
theorem catchL_fwd : ∀ (f : Nat) (r : Rs) (out : List Cat), Fwd r (catchL f r out).2
  | 0, r, out => .refl _
  | f + 1, r, out => by
    unfold catchL
    split
    · exact ((ca1_fwd _ _).trans (catR_fwd _)).trans (catchL_fwd f _ _)
    · exact .refl _
theorem bo1_fwd (r : Rs) : Fwd r r.bo1 := ((want_fwd r _).trans (num_fwd _ _ _)).trans (want_fwd _ _)
theorem boCode_fwd (r : Rs) : Fwd r r.boCode.2 := (bo1_fwd r).trans (codeL_fwd _ _ _)
theorem boCat_fwd (r : Rs) : Fwd r r.boCat.2 := (boCode_fwd r).trans (catchL_fwd _ _ _)
theorem body_fwd (r : Rs) : Fwd r r.body := (boCat_fwd r).trans (want_fwd _ _)
theorem mfR_fwd (r : Rs) : Fwd r r.mfR := (((fresh_fwd r).trans (want_fwd _ _)).trans (kind_fwd _)).trans (want_fwd _ _)
theorem mm1_fwd (r : Rs) : Fwd r r.mm1 := ((fresh_fwd r).trans (params_fwd _)).trans (kind_fwd _)
theorem mmR_fwd (r : Rs) : Fwd r r.mmR := by
  unfold mmR
  split
  · exact (mm1_fwd r).trans (step_fwd (is_at (by assumption)))
  · exact (mm1_fwd r).trans (body_fwd _)
theorem memF_fwd (r : Rs) (k : Int) : Fwd r (r.memF k) := (room_fwd r k _).trans (want_fwd _ _)
theorem member_fwd (r : Rs) (c : Cls) : Fwd r (r.member c).2 := by
  unfold member
  split
  · exact (memF_fwd r _).trans (mfR_fwd _)
  · split
    · exact (memF_fwd r _).trans (mmR_fwd _)
    · exact fail_fwd _ _
theorem clsL_fwd : ∀ (f : Nat) (r : Rs) (c : Cls), Fwd r (clsL f r c).2
  | 0, r, c => .refl _
  | f + 1, r, c => by
    unfold clsL
    split
    · split
      · exact step_fwd (is_at (by assumption))
      · exact (member_fwd _ _).trans (clsL_fwd f _ _)
    · exact .refl _
theorem cl1_fwd (r : Rs) (k : Int) : Fwd r (r.cl1 k) := by
  unfold cl1
  split
  · exact (room_fwd _ _ _).trans (want_fwd _ _)
  · exact want_fwd _ _
theorem ex1_fwd (r : Rs) (b : Bool) : Fwd r (r.ex1 b).2 := by
  unfold ex1
  split
  · split
    · exact (step_fwd (is_at (by assumption))).trans (names_fwd _)
    · exact (step_fwd (is_at (by assumption))).trans (fresh_fwd _)
  · exact .refl _
theorem ex2_fwd (r : Rs) (b : Bool) (l : List ByteArray) : Fwd r (r.ex2 b l).2 := by
  unfold ex2
  split
  · rename_i h
    rw [Bool.and_eq_true] at h
    exact (step_fwd (is_at h.2)).trans (names_fwd _)
  · exact .refl _
theorem clR_fwd (r : Rs) (k : Int) : Fwd r (r.clR k) := ((((cl1_fwd r k).trans (fresh_fwd _)).trans (ex1_fwd _ _)).trans (ex2_fwd _ _ _)).trans (want_fwd _ _)
theorem class_fwd (r : Rs) (k : Int) : Fwd r (r.class' k).2 := (clR_fwd r k).trans (clsL_fwd _ _ _)
theorem prgL_fwd : ∀ (f : Nat) (r : Rs) (out : List Cls), Fwd r (prgL f r out).2
  | 0, r, out => .refl _
  | f + 1, r, out => by
    unfold prgL
    split
    · exact (class_fwd _ _).trans (prgL_fwd f _ _)
    · exact .refl _

/-- what takes a word, or finds something wrong, needs fewer rounds -/
theorem need_lt {r r' : Rs} (h : r.e = 0 ∧ r.i < r.L.length) (hf : Fwd r r') (hp : r'.e ≠ 0 ∨ r.i < r'.i) : r'.need < r.need := by
  unfold need
  rw [if_pos h.1]
  have h1 := h.2
  have h2 := hf.le
  split
  · rw [hf.L]
    rcases hp with hp | hp
    · rename_i c; exact absurd c hp
    · omega
  · omega
theorem need_pos (r : Rs) : 0 < r.need := by
  unfold need
  split <;> omega
theorem want_on (r : Rs) (w : ByteArray) : (r.want w).e ≠ 0 ∨ r.i < (r.want w).i := by
  unfold want
  split
  · exact .inr (Nat.lt_succ_self _)
  · exact .inl (fail_e _ (by decide))
theorem on_fwd {a b c : Rs} (h : b.e ≠ 0 ∨ a.i < b.i) (hf : Fwd b c) : c.e ≠ 0 ∨ a.i < c.i := by
  rcases h with h | h
  · left
    rw [hf.err h]; exact h
  · exact .inr (Nat.lt_of_lt_of_le h hf.le)
theorem fwd_on {a b c : Rs} (hf : Fwd a b) (h : c.e ≠ 0 ∨ b.i < c.i) : c.e ≠ 0 ∨ a.i < c.i := by
  rcases h with h | h
  · exact .inl h
  · exact .inr (Nat.lt_of_le_of_lt hf.le h)
theorem name1_on (r : Rs) (k : Int) : (r.name1 k).e ≠ 0 ∨ r.i < (r.name1 k).i := by
  have h0 : r.step.e ≠ 0 ∨ r.i < r.step.i := .inr (Nat.lt_succ_self _)
  unfold name1
  split
  · exact on_fwd h0 (room_fwd _ _ _)
  · exact h0
theorem param1_on (r : Rs) (k : Int) : (r.param1 k).e ≠ 0 ∨ r.i < (r.param1 k).i := by
  have h0 : r.step.e ≠ 0 ∨ r.i < r.step.i := .inr (Nat.lt_succ_self _)
  unfold param1
  split
  · exact on_fwd h0 (room_fwd _ _ _)
  · exact h0
theorem instr_on (r : Rs) (k : Int) : (r.instr k).2.e ≠ 0 ∨ r.i < (r.instr k).2.i :=
  on_fwd (on_fwd (fwd_on (room_fwd r k 48) (want_on _ _)) (inArgs_fwd _ _)) (want_fwd _ _)
theorem catch_on (r : Rs) (k : Int) : (r.ca1 k).catR.e ≠ 0 ∨ r.i < (r.ca1 k).catR.i := on_fwd (fwd_on (room_fwd r k 4) (want_on _ _)) (catR_fwd _)
theorem member_on (r : Rs) (c : Cls) : (r.member c).2.e ≠ 0 ∨ r.i < (r.member c).2.i := by
  unfold member
  split
  · exact on_fwd (fwd_on (room_fwd r _ 6) (want_on _ _)) (mfR_fwd _)
  · split
    · exact on_fwd (fwd_on (room_fwd r _ 6) (want_on _ _)) (mmR_fwd _)
    · exact .inl (fail_e _ (by decide))
theorem cl1_on (r : Rs) (k : Int) : (r.cl1 k).e ≠ 0 ∨ r.i < (r.cl1 k).i := by
  unfold cl1
  split
  · exact fwd_on (room_fwd _ _ _) (want_on _ _)
  · exact want_on _ _
theorem class_on (r : Rs) (k : Int) : (r.class' k).2.e ≠ 0 ∨ r.i < (r.class' k).2.i :=
  on_fwd (on_fwd (cl1_on r k) ((((fresh_fwd _).trans (ex1_fwd _ _)).trans (ex2_fwd _ _ _)).trans (want_fwd _ _))) (clsL_fwd _ _ _)
end Rs
end Go.Proofs.YtadimoijlgmecaaGreatDoor.Ax
/- Layer lex by the logic: words joined; rows compared. -/
set_option linter.unusedVariables false
set_option linter.unusedSimpArgs false
namespace Go.Proofs.YtadimoijlgmecaaGreatDoor.Ax
open Go Go.RowKit
theorem ba_eq (a b : ByteArray) : (a.toList == b.toList) = decide (a = b) := by
  have h : ∀ b : ByteArray, b.toList = b.data.toList := fun b => ByteArray.toList_eq b
  rw [Bool.eq_iff_iff]
  simp only [h, beq_iff_eq, decide_eq_true_eq]
  constructor
  · intro h; exact ByteArray.ext (Array.toList_inj.1 h)
  · rintro rfl; rfl
def wdS (t : Int × ByteArray × Int × Int) : List UInt8 := if t.1 = 2 then Lib.itoa t.2.2.1 else t.2.1.data.toList
def wdOk (t : Int × ByteArray × Int × Int) : Bool := (tokenF (wdS t)).2 && decide ((tokenF (wdS t)).1.1 = t.1 ∧ (tokenF (wdS t)).1.2.1 = t.2.1 ∧ (tokenF (wdS t)).1.2.2.1 = t.2.2.1)
theorem takeT {α : Type} (l : List α) (d : α) (i : Nat) (h : i < l.length) : l.take (i + 1) = l.take i ++ [l.getD i d] := by
  rw [List.take_add_one, List.getElem?_eq_getElem h]
  simp only [List.getD, List.getElem?_eq_getElem h, Option.getD_some, Option.toList_some]
theorem getT_mem {α : Type} (l : List α) (d : α) (i : Nat) (h : i < l.length) : l.getD i d ∈ l := by
  simp only [List.getD, List.getElem?_eq_getElem h, Option.getD_some]; exact List.getElem_mem h
end Go.Proofs.YtadimoijlgmecaaGreatDoor.Ax
/- Layer lex by the logic: what the statements look at. -/
set_option linter.unusedVariables false
set_option linter.unusedSimpArgs false
namespace Go.Proofs.YtadimoijlgmecaaGreatDoor.Ax
open Go Go.RowKit
theorem dlt {a b : Nat} (h : decide ((a : Int) < (b : Int)) = true) : a < b := by have := of_decide_eq_true h; omega
theorem dge {a b : Nat} (h : decide ((a : Int) < (b : Int)) = false) : b ≤ a := by have := of_decide_eq_false h; omega
theorem lneT {a b : Nat} (h : ((a : Int) != (b : Int)) = true) : a ≠ b := by simp at h; omega
theorem lneF {a b : Nat} (h : ((a : Int) != (b : Int)) = false) : a = b := by simp at h; omega
theorem ext_getD {α : Type} (d : α) : ∀ {k l : List α}, k.length = l.length → (∀ j, j < k.length → k.getD j d = l.getD j d) → k = l
  | [], [], _, _ => rfl
  | [], _ :: _, h, _ => by simp at h
  | _ :: _, [], h, _ => by simp at h
  | x :: k, y :: l, h, hj => by
    have h0 : x = y := by simpa using hj 0 (by simp)
    rw [h0, ext_getD d (k := k) (l := l) (by simpa using h) (fun j hlt => by simpa using hj (j + 1) (by simpa using hlt))]
def keepR (T : Type) [DecidableEq T] (sz : Nat) (cs : T → List SV) (d : T) : Ctr := { A := List T × List T, enc := fun x => [.row T sz cs d x.1, .row T sz cs d x.2], dom := fun x => x.1.length ≤ 4611686018427387904, res := fun x _ => B (decide (x.1 = x.2)) }
theorem w1 : (scanF [97, 45, 49, 32, 123]).2 = (0, 0) := by decide +kernel
theorem w2 : (scanF [97, 32, 48, 49]).2 = (2, 3) := by decide +kernel
theorem w3 : (scanF [97, 45, 49, 32, 123]).1.length = 3 := by decide +kernel
theorem w4 : ((scanF [97, 45, 49, 32, 123]).1.getD 1 tok0).2.2.1 = -1 := by decide +kernel
theorem w5 : ((scanF [97, 45, 49, 32, 123]).1.getD 2 tok0).2.2.2 = 4 := by decide +kernel
theorem w6 : nameF [95, 97, 49] = true := by decide +kernel
end Go.Proofs.YtadimoijlgmecaaGreatDoor.Ax
/- Words behind each other are scanned as these words. -/
set_option linter.unusedVariables false
set_option linter.unusedSimpArgs false
namespace Go.Proofs.YtadimoijlgmecaaGreatDoor.Ax
open Go Go.RowKit
theorem dd_cons (u : Nat) : ∃ b r, Lib.decDigits u = b :: r ∧ isDig b = true ∧ r.all isAl = true := by
  obtain ⟨b, r, h, hb⟩ := dd_head u
  refine ⟨b, r, h, hb, ?_⟩
  rw [List.all_eq_true]
  intro x hx
  have := dd_dig u x (by rw [h]; exact List.mem_cons_of_mem _ hx)
  simp [isAl, this]
theorem itoa_form (n : Int) : (∃ b r, Lib.itoa n = b :: r ∧ isDig b = true ∧ r.all isAl = true) ∨ (∃ b r, Lib.itoa n = 45 :: b :: r ∧ isDig b = true ∧ r.all isAl = true) := by
  unfold Lib.itoa
  split
  · obtain ⟨b, r, h, hb, hr⟩ := dd_cons n.natAbs
    exact .inr ⟨b, r, by rw [h], hb, hr⟩
  · exact .inl (dd_cons n.toNat)
theorem let_not {c : UInt8} (h : isLet c = true) : isBlank c = false ∧ isSign c = false ∧ c ≠ 45 ∧ isDig c = false ∧ isAl c = true := by
  have h' := h
  simp only [isLet, decide_eq_true_eq] at h'
  refine ⟨?_, ?_, ?_, ?_, by simp [isAl, h]⟩
  · rw [blank_eq]; simp; omega
  · rw [sign_eq]; simp; omega
  · rintro rfl; simp at h'
  · simp [isDig]; omega
theorem dig_not {c : UInt8} (h : isDig c = true) : isBlank c = false ∧ isSign c = false ∧ c ≠ 45 ∧ isLet c = false ∧ isAl c = true := by
  have h' := h
  simp only [isDig, decide_eq_true_eq] at h'
  refine ⟨?_, ?_, ?_, ?_, by simp [isAl, h]⟩
  · rw [blank_eq]; simp; omega
  · rw [sign_eq]; simp; omega
  · rintro rfl; simp at h'
  · simp [isLet]; omega
theorem sign_not {c : UInt8} (h : isSign c = true) : isBlank c = false ∧ isAl c = false := by
  rw [sign_eq] at h
  simp only [decide_eq_true_eq] at h
  refine ⟨?_, ?_⟩
  · rw [blank_eq]; simp; omega
  · simp [isAl, isLet, isDig]; omega
theorem name_form {l : List UInt8} : nameF l = true ↔ ∃ c r, l = c :: r ∧ isLet c = true ∧ r.all isAl = true ∧ l.length ≤ 20 := by
  constructor
  · intro h
    cases l with
    | nil => simp [nameF] at h
    | cons c r =>
      simp only [nameF, Bool.and_eq_true, decide_eq_true_eq, List.getD_cons_zero, List.all_cons] at h
      exact ⟨c, r, rfl, h.1.2, h.2.2, h.1.1.2⟩
  · rintro ⟨c, r, rfl, h1, h2, h3⟩
    simp only [nameF, Bool.and_eq_true, decide_eq_true_eq, List.getD_cons_zero, List.all_cons]
    exact ⟨⟨⟨by simp, h3⟩, h1⟩, (let_not h1).2.2.2.2, h2⟩
theorem name_not_num {l : List UInt8} (h : nameF l = true) : numF l = none := by
  rw [numF_none]
  rintro n ⟨e, -⟩
  obtain ⟨c, r, rfl, h1, -, -⟩ := name_form.1 h
  rcases itoa_form n with ⟨b, q, h2, h3, -⟩ | ⟨b, q, h2, h3, -⟩ <;> rw [e] at h2 <;> simp only [List.cons.injEq] at h2
  · rw [h2.1] at h1; rw [(dig_not h3).2.2.2.1] at h1; cases h1
  · exact (let_not h1).2.2.1 h2.1
theorem sign_not_num {l : List UInt8} (h : l.length = 1) (hs : isSign (l.getD 0 0) = true) : numF l = none ∧ nameF l = false := by
  match l, h with
  | [c], _ =>
    have hs : isSign c = true := by simpa using hs
    constructor
    · rw [numF_none]
      rintro n ⟨e, -⟩
      rcases itoa_form n with ⟨b, q, h2, h3, -⟩ | ⟨b, q, h2, h3, -⟩ <;> rw [e] at h2 <;> simp only [List.cons.injEq] at h2
      · rw [h2.1, (dig_not h3).2.1] at hs; cases hs
      · cases h2.2
    · cases hn : nameF [c] with
      | false => rfl
      | true =>
        obtain ⟨d, r, e, h1, -, -⟩ := name_form.1 hn
        cases e
        rw [(let_not h1).2.1] at hs; cases hs
theorem tok_num {n : Int} (h : inR n) : tokenF (Lib.itoa n) = ((2, ⟨#[]⟩, n, 0), true) := by
  unfold tokenF
  rw [(numF_iff _ _).2 ⟨rfl, h⟩]
theorem tok_name {l : List UInt8} (h : nameF l = true) : tokenF l = ((1, txt l, 0, 0), true) := by
  unfold tokenF
  rw [name_not_num h]
  simp only; rw [if_pos h]
theorem tok_sign {l : List UInt8} (h : l.length = 1) (hs : isSign (l.getD 0 0) = true) : tokenF l = ((3, txt l, 0, 0), true) := by
  unfold tokenF
  obtain ⟨h1, h2⟩ := sign_not_num h hs
  rw [h1]
  simp only; rw [if_neg (by rw [h2]; simp), if_pos ⟨h, hs⟩]
/-- what a word is -/
theorem tok_cases {w : List UInt8} (h : (tokenF w).2 = true) : (∃ n, w = Lib.itoa n ∧ inR n) ∨ nameF w = true ∨ (w.length = 1 ∧ isSign (w.getD 0 0) = true) := by
  unfold tokenF at h
  cases hn : numF w with
  | some n => obtain ⟨e1, e2⟩ := (numF_iff _ _).1 hn; exact .inl ⟨n, e1.symm, e2⟩
  | none =>
    rw [hn] at h
    simp only at h
    by_cases hN : nameF w = true
    · exact .inr (.inl hN)
    · rw [if_neg hN] at h
      by_cases hs : w.length = 1 ∧ isSign (w.getD 0 0) = true
      · exact .inr (.inr hs)
      · rw [if_neg hs] at h; cases h
theorem tok_at0 {w : List UInt8} : (tokenF w).1.2.2.2 = 0 := by
  unfold tokenF
  cases numF w with
  | some n => rfl
  | none =>
    simp only
    split
    · rfl
    · split <;> rfl
theorem tw_all {p : UInt8 → Bool} {m r : List UInt8} (h : m.all p = true) (hr : r = [] ∨ p (r.getD 0 0) = false) : ((m ++ r).takeWhile p).length = m.length := by
  apply tw_len
  · simp
  · intro j hj
    have := (all_at p m).1 h j hj
    rw [← this]
    congr 1
    simp [List.getD, List.getElem?_append_left hj]
  · rcases hr with rfl | hr
    · left; simp
    · right
      rw [← hr]
      congr 1
      simp [List.getD, List.getElem?_append_right (Nat.le_refl _)]
/-- a word ends where no letter, no digit goes on -/
theorem wordF_app {w r : List UInt8} (h : (tokenF w).2 = true) (hr : r = [] ∨ isAl (r.getD 0 0) = false) : wordF (w ++ r) = w.length := by
  have alph : ∀ c q, isSign c = false → c ≠ 45 → (c :: q).all isAl = true → wordF ((c :: q) ++ r) = (c :: q).length := by
    intro c q h1 h2 h3
    unfold wordF minus
    simp only [List.cons_append, List.length_cons, Nat.succ_ne_zero, if_false, List.getD_cons_zero, h1, Bool.false_eq_true, h2, List.drop_zero, Nat.zero_add]
    have := tw_all (r := r) h3 hr
    simpa using this
  rcases tok_cases h with ⟨n, rfl, hn⟩ | hn | ⟨h1, h2⟩
  · rcases itoa_form n with ⟨b, q, e, hb, hq⟩ | ⟨b, q, e, hb, hq⟩
    · rw [e]
      have := dig_not hb
      exact alph b q this.2.1 this.2.2.1 (by rw [List.all_cons, this.2.2.2.2, hq]; rfl)
    · rw [e]
      have hb' := dig_not hb
      have hs : isSign 45 = false := by decide
      unfold wordF minus
      simp only [List.cons_append, List.length_cons, Nat.succ_ne_zero, if_false, List.getD_cons_zero, hs, Bool.false_eq_true, if_true, List.drop_succ_cons, List.drop_zero]
      have := tw_all (m := b :: q) (r := r) (by rw [List.all_cons, hb'.2.2.2.2, hq]; rfl) hr
      simp only [List.cons_append, List.length_cons] at this
      omega
  · obtain ⟨c, q, rfl, hc, hq, -⟩ := name_form.1 hn
    have := let_not hc
    exact alph c q this.2.1 this.2.2.1 (by rw [List.all_cons, this.2.2.2.2, hq]; rfl)
  · match w, h1 with
    | [c], _ =>
      have h2 : isSign c = true := by simpa using h2
      unfold wordF
      simp [h2]
theorem tok_head {w : List UInt8} (h : (tokenF w).2 = true) : 0 < w.length ∧ isBlank (w.getD 0 0) = false := by
  rcases tok_cases h with ⟨n, rfl, hn⟩ | hn | ⟨h1, h2⟩
  · rcases itoa_form n with ⟨b, q, e, hb, hq⟩ | ⟨b, q, e, hb, hq⟩
    · rw [e]; exact ⟨by simp, by simpa using (dig_not hb).1⟩
    · rw [e]; exact ⟨by simp, by simp; decide⟩
  · obtain ⟨c, q, rfl, hc, hq, -⟩ := name_form.1 hn
    exact ⟨by simp, by simpa using (let_not hc).1⟩
  · exact ⟨by omega, (sign_not h2).1⟩
/-- a word, then what is behind it -/
theorem scan_word (i : Nat) {w r : List UInt8} (h : (tokenF w).2 = true) (hr : r = [] ∨ isAl (r.getD 0 0) = false) :
    scanI i (w ++ r) = (setAt (tokenF w).1 i :: (scanI (i + w.length) r).1, (scanI (i + w.length) r).2) := by
  have hw := wordF_app h hr
  obtain ⟨h1, h2⟩ := tok_head h
  have e1 : (w ++ r).take (wordF (w ++ r)) = w := by rw [hw]; simp
  have e2 : (w ++ r).drop (wordF (w ++ r)) = r := by rw [hw]; simp
  have e3 : (w ++ r).getD 0 0 = w.getD 0 0 := by simp [List.getD, List.getElem?_append_left h1]
  have := scanI_tok i (w ++ r) (by rw [List.length_append]; omega) (by rw [e3]; exact h2) (by rw [e1]; exact h)
  rw [e1, e2, hw] at this
  exact this
theorem scan_blanks : ∀ (i : Nat) (b r : List UInt8), b.all isBlank = true → scanI i (b ++ r) = scanI (i + b.length) r
  | i, [], r, _ => rfl
  | i, c :: b, r, h => by
    simp only [List.all_cons, Bool.and_eq_true] at h
    rw [List.cons_append, scanI_blank i (c :: (b ++ r)) (by simp) (by simpa using h.1)]
    simp only [List.drop_succ_cons, List.drop_zero]
    rw [scan_blanks (i + 1) b r h.2, List.length_cons]
    congr 1; omega
theorem wd_tok {t : Int × ByteArray × Int × Int} (h : wdOk t = true) : tokenF (wdS t) = ((t.1, t.2.1, t.2.2.1, 0), true) := by
  have h1 : (tokenF (wdS t)).2 = true := by
    unfold wdOk at h
    cases hc : (tokenF (wdS t)).2 with
    | true => rfl
    | false => rw [hc] at h; cases h
  unfold wdOk at h
  rw [h1] at h
  simp only [Bool.true_and, decide_eq_true_eq] at h
  have h0 := tok_at0 (w := wdS t)
  obtain ⟨a, b, c⟩ := h
  generalize tokenF (wdS t) = z at *
  obtain ⟨⟨z1, z2, z3, z4⟩, zb⟩ := z
  simp only at *
  subst a b c h0 h1
  rfl
end Go.Proofs.YtadimoijlgmecaaGreatDoor.Ax
/- Layer show: fields, catches, names of instructions. -/
set_option linter.unusedVariables false
set_option linter.unusedSimpArgs false
namespace Go.Proofs.YtadimoijlgmecaaGreatDoor.Ax
open Go Go.RowKit
def catchF (l : List UInt8) (a b c : Int) : Bool := freshF l && inF a 0 48 && inF b 0 48 && inF c 0 48
def catchC : Ctr := { A := List UInt8 × Int × Int × Int, enc := fun x => [.agg [X x.1, I x.2.1, I x.2.2.1, I x.2.2.2]], dom := fun x => x.1.length ≤ 4611686018427387904, res := fun x _ => B (catchF x.1 x.2.1 x.2.2.1 x.2.2.2), gl := tabS }
set_option maxRecDepth 100000 in
theorem catch_ok : CtrSound Tryz.prog 90 catchC :=
  ctr_of_ax (env_okB tys_ok (eqs := []) trivial (cs := [(42, freshC), (86, inC)]) ⟨fresh_ok, in_ok, trivial⟩ (bs := []) trivial (gl := tabS)) mixed _ Tryz.func90 (by kernel_rfl) rfl (fun _ _ => Nat.le_of_ble_eq_true rfl) fun ((l, a, b, c) : List UInt8 × Int × Int × Int) id hd => by
    refine ⟨l, ⟨.refl _, trivial⟩, rfl, hd, ?_⟩
    refine ⟨fun h1 => ?_, fun h1 => ⟨.bff (by unfold catchF; rw [show freshF l = false from h1]; rfl), rfl⟩⟩
    refine ⟨(a, 0, 48), ⟨.refl _, .refl _, .refl _, trivial⟩, rfl, trivial, ?_⟩
    refine ⟨fun h2 => ?_, fun h2 => ⟨.bff (by unfold catchF; rw [show inF a 0 48 = false from h2]; simp), rfl⟩⟩
    refine ⟨(b, 0, 48), ⟨.refl _, .refl _, .refl _, trivial⟩, rfl, trivial, ?_⟩
    refine ⟨fun h3 => ?_, fun h3 => ⟨.bff (by unfold catchF; rw [show inF b 0 48 = false from h3]; simp), rfl⟩⟩
    refine ⟨(c, 0, 48), ⟨.refl _, .refl _, .refl _, trivial⟩, rfl, trivial, ?_⟩
    exact ⟨.bool (by show inF c 0 48 = catchF l a b c; unfold catchF; rw [show freshF l = true from h1, show inF a 0 48 = true from h2, show inF b 0 48 = true from h3]; simp), rfl⟩
def fieldC : Ctr := { A := List UInt8 × Int × List UInt8 × Bool, enc := fun x => [.agg [X x.1, I x.2.1, X x.2.2.1, B x.2.2.2]], dom := fun x => x.1.length ≤ 4611686018427387904 ∧ x.2.2.1.length ≤ 4611686018427387904, res := fun x _ => B (freshF x.1 && typedF x.2.1 x.2.2.1), gl := tabS }
set_option maxRecDepth 100000 in
theorem field_ok : CtrSound Tryz.prog 52 fieldC :=
  ctr_of_ax (env_okB tys_ok (eqs := []) trivial (cs := [(42, freshC), (26, typedC)]) ⟨fresh_ok, typed_ok, trivial⟩ (bs := []) trivial (gl := tabS)) mixed _ Tryz.func52 (by kernel_rfl) rfl (fun _ _ => Nat.le_of_ble_eq_true rfl) fun ((l, k, m, s) : List UInt8 × Int × List UInt8 × Bool) id hd => by
    refine ⟨l, ⟨.refl _, trivial⟩, rfl, hd.1, ?_⟩
    refine ⟨fun h1 => ?_, fun h1 => ⟨.bff (by show (freshF l && typedF k m) = false; rw [show freshF l = false from h1]; rfl), rfl⟩⟩
    refine ⟨(k, m), ⟨.refl _, trivial⟩, rfl, hd.2, ?_⟩
    exact ⟨.bool (by show typedF k m = (freshF l && typedF k m); rw [show freshF l = true from h1]; rfl), rfl⟩
def namedF (l : List UInt8) (b : Bool) : Bool := if b then freshF l else decide (l = [])
def namedC : Ctr := { A := List UInt8 × Bool, enc := fun x => [X x.1, B x.2], dom := fun x => x.1.length ≤ 4611686018427387904, res := fun x _ => B (namedF x.1 x.2), gl := tabS }
set_option maxRecDepth 100000 in
theorem named_ok : CtrSound Tryz.prog 116 namedC :=
  ctr_of_ax (env_okB tys_ok (eqs := []) trivial (cs := [(42, freshC)]) ⟨fresh_ok, trivial⟩ (bs := []) trivial (gl := tabS)) mixed _ Tryz.func116 (by kernel_rfl) rfl (fun _ _ => Nat.le_of_ble_eq_true rfl) fun ((l, b) : List UInt8 × Bool) id hd => by
    have ht := txt_nil l
    refine ⟨fun h1 => ?_, fun h1 => ?_⟩
    · have h1 : b = true := h1
      refine ⟨l, ⟨.refl _, trivial⟩, rfl, hd, ?_⟩
      refine ⟨fun h2 => ⟨.btt (by unfold namedF; rw [if_pos h1]; exact h2), rfl⟩, fun h2 => ?_⟩
      refine ⟨fun c => ?_, fun _ => ?_⟩
      · have c : (!b) = true := c
        rw [h1] at c; cases c
      · exact ⟨.bff (by unfold namedF; rw [if_pos h1]; exact h2), rfl⟩
    · have h1 : b = false := h1
      refine ⟨fun _ => ?_, fun c => ?_⟩
      · exact ⟨.bool (by show ((txt l).toList == (⟨#[]⟩ : ByteArray).toList) = namedF l b; rw [ht]; unfold namedF; rw [if_neg (by rw [h1]; decide)]; simp [List.length_eq_zero_iff]), rfl⟩
      · have c : (!b) = false := c
        rw [h1] at c; cases c
end Go.Proofs.YtadimoijlgmecaaGreatDoor.Ax
/- Layer show: instructions. -/
set_option linter.unusedVariables false
set_option linter.unusedSimpArgs false
namespace Go.Proofs.YtadimoijlgmecaaGreatDoor.Ax
open Go Go.RowKit
def instrF (o n : Int) (a b : List UInt8) : Bool := inF o 0 43 && inF n (numsF o).1 (numsF o).2.1 && namedF a (decide (namesF o > 0)) && namedF b (decide (namesF o > 1))
def instrC : Ctr := { A := Int × Int × List UInt8 × List UInt8, enc := fun x => [.agg [I x.1, I x.2.1, X x.2.2.1, X x.2.2.2]], dom := fun x => x.2.2.1.length ≤ 4611686018427387904 ∧ x.2.2.2.length ≤ 4611686018427387904, res := fun x _ => B (instrF x.1 x.2.1 x.2.2.1 x.2.2.2), gl := tabS }
set_option maxRecDepth 100000 in
theorem instr_ok : CtrSound Tryz.prog 88 instrC :=
  ctr_of_ax (env_okB tys_ok (eqs := []) trivial (cs := [(105, numsC), (86, inC), (117, namesC), (116, namedC)]) ⟨nums_ok, in_ok, names_ok, named_ok, trivial⟩ (bs := []) trivial (gl := tabS)) mixed _ Tryz.func88 (by kernel_rfl) rfl (fun _ _ => Nat.le_of_ble_eq_true rfl) fun ((o, n, a, b) : Int × Int × List UInt8 × List UInt8) id hd => by
    refine ⟨o, ⟨.refl _, trivial⟩, rfl, trivial, ?_⟩
    refine ⟨by kernel_rfl, ?_⟩
    refine ⟨(o, 0, 43), ⟨.refl _, .refl _, .refl _, trivial⟩, rfl, trivial, ?_⟩
    refine ⟨fun h1 => ?_, fun h1 => ⟨.bff (by unfold instrF; rw [show inF o 0 43 = false from h1]; rfl), rfl⟩⟩
    refine ⟨(n, (numsF o).1, (numsF o).2.1), ⟨.refl _, .refl _, .refl _, trivial⟩, rfl, trivial, ?_⟩
    refine ⟨fun h2 => ?_, fun h2 => ⟨.bff (by unfold instrF; rw [show inF n (numsF o).1 (numsF o).2.1 = false from h2]; simp), rfl⟩⟩
    refine ⟨o, ⟨.refl _, trivial⟩, rfl, trivial, ?_⟩
    refine ⟨(a, decide (namesF o > 0)), ⟨.refl _, .refl _, trivial⟩, rfl, hd.1, ?_⟩
    refine ⟨fun h3 => ?_, fun h3 => ⟨.bff (by unfold instrF; rw [show namedF a (decide (namesF o > 0)) = false from h3]; simp), rfl⟩⟩
    refine ⟨o, ⟨.refl _, trivial⟩, rfl, trivial, ?_⟩
    refine ⟨(b, decide (namesF o > 1)), ⟨.refl _, .refl _, trivial⟩, rfl, hd.2, ?_⟩
    exact ⟨.bool (by show namedF b (decide (namesF o > 1)) = instrF o n a b; unfold instrF; rw [show inF o 0 43 = true from h1, show inF n (numsF o).1 (numsF o).2.1 = true from h2, show namedF a (decide (namesF o > 0)) = true from h3]; simp), rfl⟩
end Go.Proofs.YtadimoijlgmecaaGreatDoor.Ax
/- Layers parse and show: what is shown is read again: lists, methods, classes, programs. -/
set_option linter.unusedVariables false
set_option linter.unusedSimpArgs false
namespace Go.Proofs.YtadimoijlgmecaaGreatDoor.Ax
open Go Go.RowKit
/-! ### What show writes -/
def dig (n : Int) : ByteArray := itoaB n
def freshW (s : ByteArray) : Bool := freshF s.data.toList
def tyOk (t : Ty) : Bool := typedF t.1 t.2.data.toList
def insOk (x : Ins) : Bool := instrF x.op x.n x.a.data.toList x.b.data.toList
def catOk (c : Cat) : Bool := catchF c.name.data.toList c.fr c.up c.at'
def fldOk (f : Fld) : Bool := freshW f.name && tyOk f.type
def methOk (m : Meth) : Bool := !(m.abs && (decide (m.locals ≠ 0) || decide (m.code.length + m.catches.length > 0))) && (freshW m.name && ((decide (m.params.length ≤ 4) && m.params.all tyOk) && (tyOk m.ret && (inF m.locals 0 8 && ((decide (m.code.length ≤ 48) && m.code.all insOk) && (decide (m.catches.length ≤ 4) && m.catches.all catOk))))))
def clsOk (c : Cls) : Bool := freshW c.name && ((decide (c.super = noS) || (!c.iface && freshW c.super)) && ((decide (c.ifaces.length ≤ 4) && c.ifaces.all freshW) && ((decide (c.fields.length ≤ 6) && c.fields.all fldOk) && (decide (c.methods.length ≤ 6) && c.methods.all methOk))))
def prgOk (p : List Cls) : Bool := decide (p.length ≤ 10) && p.all clsOk
def kindW (t : Ty) : List ByteArray := kindF t.1 t.2
def listF (w : ByteArray) : List ByteArray → List ByteArray
  | [] => []
  | s :: r => [w, s] ++ r.flatMap fun x => [wComma, x]
def codeF (x : Ins) : List ByteArray := [wordF2 x.op] ++ ((if (numsF x.op).2.2 then [dig x.n] else []) ++ ((if x.a = noS then [] else [x.a]) ++ ((if x.b = noS then [] else [x.b]) ++ [wSemi])))
def paramsF : List Ty → List ByteArray
  | [] => []
  | t :: r => kindW t ++ r.flatMap fun x => wComma :: kindW x
def catF (c : Cat) : List ByteArray := [wCatch, c.name, dig c.fr, dig c.up, dig c.at', wSemi]
def doesF (m : Meth) : List ByteArray := [if m.static then wFunction else wMethod, m.name, wLp] ++ (paramsF m.params ++ ([wRp] ++ (kindW m.ret ++ (if m.abs then [wSemi] else [wLocals, dig m.locals, wLc] ++ (m.code.flatMap codeF ++ (m.catches.flatMap catF ++ [wRc]))))))
def fldF (f : Fld) : List ByteArray := [if f.static then wStatic else wField, f.name, wColon] ++ (kindW f.type ++ [wSemi])
def wordsC (c : Cls) : List ByteArray := [if c.iface then wInterface else wClass, c.name] ++ ((if c.super = noS then [] else [wExtends, c.super]) ++ (listF (if c.iface then wExtends else wImplements) c.ifaces ++ ([wLc] ++ (c.fields.flatMap fldF ++ (c.methods.flatMap doesF ++ [wRc])))))
def sepOf (w : ByteArray) : UInt8 := if w = wLc ∨ w = wRc ∨ w = wSemi then 10 else 32
def putW (w : ByteArray) : List UInt8 := w.data.toList ++ [sepOf w]
def textC (c : Cls) : List UInt8 := (wordsC c).flatMap putW
def textP (p : List Cls) : List UInt8 := p.flatMap textC
def showF (p : List Cls) : List UInt8 × Int := if prgOk p then (if 6000 < (textP p).length then ([], 2) else (textP p, 0)) else ([], 4)

/-! ### Words as tokens -/
abbrev T3 := Int × ByteArray × Int
def s3 (t : Tok) : T3 := (t.1, t.2.1, t.2.2.1)
def tokT (w : ByteArray) : T3 := s3 (tokenF w.data.toList).1
def tokB (w : ByteArray) : Bool := (tokenF w.data.toList).2
theorem name_T {s : ByteArray} (h : nameF s.data.toList = true) : tokT s = (1, s, 0) ∧ tokB s = true := by
  unfold tokT tokB
  rw [tok_name h]
  exact ⟨rfl, rfl⟩
theorem sign_T {s : ByteArray} (h : s.data.toList.length = 1) (hs : isSign (s.data.toList.getD 0 0) = true) : tokT s = (3, s, 0) ∧ tokB s = true := by
  unfold tokT tokB
  rw [tok_sign h hs]
  exact ⟨rfl, rfl⟩
theorem num_T {n : Int} (h : inR n) : tokT (dig n) = (2, noS, n) ∧ tokB (dig n) = true := by
  unfold tokT tokB
  rw [show (dig n).data.toList = Lib.itoa n by simp [dig, itoaB], tok_num h]
  exact ⟨rfl, rfl⟩
theorem T_void : tokT wVoid = (1, wVoid, 0) ∧ tokB wVoid = true := name_T (by decide +kernel)
theorem T_int : tokT wInt = (1, wInt, 0) ∧ tokB wInt = true := name_T (by decide +kernel)
theorem T_locals : tokT wLocals = (1, wLocals, 0) ∧ tokB wLocals = true := name_T (by decide +kernel)
theorem T_catch : tokT wCatch = (1, wCatch, 0) ∧ tokB wCatch = true := name_T (by decide +kernel)
theorem T_field : tokT wField = (1, wField, 0) ∧ tokB wField = true := name_T (by decide +kernel)
theorem T_static : tokT wStatic = (1, wStatic, 0) ∧ tokB wStatic = true := name_T (by decide +kernel)
theorem T_method : tokT wMethod = (1, wMethod, 0) ∧ tokB wMethod = true := name_T (by decide +kernel)
theorem T_function : tokT wFunction = (1, wFunction, 0) ∧ tokB wFunction = true := name_T (by decide +kernel)
theorem T_class : tokT wClass = (1, wClass, 0) ∧ tokB wClass = true := name_T (by decide +kernel)
theorem T_interface : tokT wInterface = (1, wInterface, 0) ∧ tokB wInterface = true := name_T (by decide +kernel)
theorem T_extends : tokT wExtends = (1, wExtends, 0) ∧ tokB wExtends = true := name_T (by decide +kernel)
theorem T_implements : tokT wImplements = (1, wImplements, 0) ∧ tokB wImplements = true := name_T (by decide +kernel)
theorem T_lb : tokT wLb = (3, wLb, 0) ∧ tokB wLb = true := sign_T (by decide +kernel) (by decide +kernel)
theorem T_rb : tokT wRb = (3, wRb, 0) ∧ tokB wRb = true := sign_T (by decide +kernel) (by decide +kernel)
theorem T_lp : tokT wLp = (3, wLp, 0) ∧ tokB wLp = true := sign_T (by decide +kernel) (by decide +kernel)
theorem T_rp : tokT wRp = (3, wRp, 0) ∧ tokB wRp = true := sign_T (by decide +kernel) (by decide +kernel)
theorem T_lc : tokT wLc = (3, wLc, 0) ∧ tokB wLc = true := sign_T (by decide +kernel) (by decide +kernel)
theorem T_rc : tokT wRc = (3, wRc, 0) ∧ tokB wRc = true := sign_T (by decide +kernel) (by decide +kernel)
theorem T_comma : tokT wComma = (3, wComma, 0) ∧ tokB wComma = true := sign_T (by decide +kernel) (by decide +kernel)
theorem T_semi : tokT wSemi = (3, wSemi, 0) ∧ tokB wSemi = true := sign_T (by decide +kernel) (by decide +kernel)
theorem T_colon : tokT wColon = (3, wColon, 0) ∧ tokB wColon = true := sign_T (by decide +kernel) (by decide +kernel)
/-- a fresh name is none of the words that are kept, and no sign -/
theorem fresh_T {s : ByteArray} (h : freshW s = true) : tokT s = (1, s, 0) ∧ tokB s = true ∧ keptW s = false := by
  unfold freshW freshF at h
  rw [Bool.and_eq_true] at h
  exact ⟨(name_T h.1).1, (name_T h.1).2, by simpa [keptW] using h.2⟩
theorem fresh_ne {s w : ByteArray} (h : freshW s = true) (hw : keptW w = true ∨ nameF w.data.toList = false) : s ≠ w := by
  rintro rfl
  unfold freshW freshF at h
  rw [Bool.and_eq_true] at h
  rcases hw with hw | hw
  · have := h.2
    rw [show keptF s.data.toList = true from hw] at this; cases this
  · rw [hw] at h; cases h.1
theorem fresh_noS {s : ByteArray} (h : freshW s = true) : s ≠ noS := fresh_ne h (.inr (by decide +kernel))

/-! ### A reader ahead of words -/
structure At (r : Rs) (ts : List T3) : Prop where
  e : r.e = 0
  ts : (r.L.drop r.i).map s3 = ts
theorem at_cons {r : Rs} {t : T3} {ts : List T3} (h : At r (t :: ts)) : r.i < r.L.length ∧ s3 r.next = t ∧ At r.step ts := by
  have h1 := h.ts
  by_cases hlt : r.i < r.L.length
  · rw [List.drop_eq_getElem_cons hlt] at h1
    simp only [List.map_cons, List.cons.injEq] at h1
    refine ⟨hlt, ?_, ⟨h.e, h1.2⟩⟩
    rw [Rs.next_some ⟨h.e, hlt⟩, show r.L.getD r.i tok0 = r.L[r.i] by simp [List.getD, hlt]]
    exact h1.1
  · rw [List.drop_eq_nil_of_le (by omega)] at h1
    cases h1
theorem at_nil {r : Rs} (h : At r []) : r.next = tok0 := by
  refine Rs.next_none fun c => ?_
  have h1 := h.ts
  rw [List.drop_eq_getElem_cons c.2] at h1
  cases h1
theorem at_next {r : Rs} {k n : Int} {w : ByteArray} {ts : List T3} (h : At r ((k, w, n) :: ts)) : r.next.1 = k ∧ r.next.2.1 = w ∧ r.next.2.2.1 = n := by
  have := (at_cons h).2.1
  unfold s3 at this
  simp only [Prod.mk.injEq] at this
  exact this
theorem at_is {r : Rs} {k n : Int} {w : ByteArray} {ts : List T3} (h : At r ((k, w, n) :: ts)) (w' : ByteArray) : r.is w' = (decide (w = w') && decide (w' ≠ noS)) := by
  unfold Rs.is
  rw [(at_next h).2.1]
theorem at_yes {r : Rs} {k n : Int} {w : ByteArray} {ts : List T3} (h : At r ((k, w, n) :: ts)) (hw : w ≠ noS) : r.is w = true := by
  rw [at_is h]; simp [hw]
theorem at_no {r : Rs} {k n : Int} {w w' : ByteArray} {ts : List T3} (h : At r ((k, w, n) :: ts)) (hw : w ≠ w') : r.is w' = false := by
  rw [at_is h]; simp [hw]
theorem at_is0 {r : Rs} (h : At r []) (w : ByteArray) : r.is w = false := by
  unfold Rs.is
  rw [at_nil h]
  simp
  exact fun c => c.symm
theorem at_want {r : Rs} {k n : Int} {w : ByteArray} {ts : List T3} (h : At r ((k, w, n) :: ts)) (hw : w ≠ noS) : At (r.want w) ts := by
  unfold Rs.want
  rw [if_pos (at_yes h hw)]
  exact (at_cons h).2.2
theorem at_fresh {r : Rs} {s : ByteArray} {ts : List T3} (h : At r ((1, s, 0) :: ts)) (hk : keptW s = false) : r.free = true ∧ r.freshV = s ∧ At r.fresh ts := by
  have hf : r.free = true := by
    unfold Rs.free
    rw [(at_next h).1, (at_next h).2.1, hk]; rfl
  refine ⟨hf, ?_, ?_⟩
  · unfold Rs.freshV
    rw [if_pos hf, (at_next h).2.1]
  · unfold Rs.fresh
    rw [if_pos hf]
    exact (at_cons h).2.2
theorem at_num {r : Rs} {n lo hi : Int} {ts : List T3} (h : At r ((2, noS, n) :: ts)) (h1 : lo ≤ n) (h2 : n ≤ hi) : r.numV lo hi = n ∧ At (r.num lo hi) ts := by
  have hf : r.numOk lo hi = true := by
    unfold Rs.numOk
    rw [(at_next h).1, (at_next h).2.2]
    exact decide_eq_true ⟨rfl, h1, h2⟩
  refine ⟨?_, ?_⟩
  · unfold Rs.numV
    rw [if_pos hf, (at_next h).2.2]
  · unfold Rs.num
    rw [if_pos hf]
    exact (at_cons h).2.2
theorem room_lt (r : Rs) {a b : Int} (h : a < b) : r.room a b = r := by
  unfold Rs.room
  rw [if_neg (by omega)]
theorem at_len {r : Rs} {ts : List T3} (h : At r ts) : ts.length = r.L.length - r.i := by
  rw [← h.ts]; simp
/-- not this word next -/
def noW (ts : List T3) (w : ByteArray) : Prop := ∀ t, ts.head? = some t → t.2.1 ≠ w
theorem at_noW {r : Rs} {ts : List T3} {w : ByteArray} (h : At r ts) (hn : noW ts w) : r.is w = false := by
  cases ts with
  | nil => exact at_is0 h w
  | cons t ts =>
    obtain ⟨k, w', n⟩ := t
    exact at_no h (hn _ rfl)
theorem noW_cons {k n : Int} {w w' : ByteArray} {ts : List T3} (h : w ≠ w') : noW ((k, w, n) :: ts) w' := fun t e => by
  cases e; exact h

/-- a type's words -/
theorem at_kind {r : Rs} {t : Ty} {ts : List T3} (ht : tyOk t = true) (h : At r ((kindW t).map tokT ++ ts)) (hn : noW ts wLb) : r.kindV = t ∧ At r.kind ts := by
  obtain ⟨k, s⟩ := t
  unfold tyOk typedF at ht
  unfold kindW kindF at h
  have hv : ¬ (wInt = wVoid) := by decide
  simp only at ht h
  by_cases h1 : k = 1
  · rw [if_pos (.inl h1)] at ht
    rw [if_pos h1] at h
    have hs : s = noS := by
      have := of_decide_eq_true ht
      exact ByteArray.ext (Array.ext' this)
    subst h1 hs
    have h : At r ((1, wVoid, 0) :: ts) := by
      have := T_void.1
      unfold wVoid at this
      rw [List.map_cons, List.map_nil, this] at h
      exact h
    have hy : r.is wVoid = true := at_yes h (by decide)
    unfold Rs.kindV Rs.kind
    rw [if_pos hy, if_pos hy]
    exact ⟨rfl, (at_cons h).2.2⟩
  · rw [if_neg h1] at h
    by_cases h2 : k = 2
    · rw [if_pos (.inr (.inl h2))] at ht
      rw [if_pos h2] at h
      have hs : s = noS := ByteArray.ext (Array.ext' (of_decide_eq_true ht))
      subst h2 hs
      have h : At r ((1, wInt, 0) :: ts) := by
        have := T_int.1
        unfold wInt at this
        rw [List.map_cons, List.map_nil, this] at h
        exact h
      have hy : r.is wInt = true := at_yes h (by decide)
      have hx : r.is wVoid = false := at_no h (by decide)
      have hb := at_noW (at_cons h).2.2 hn
      unfold Rs.kindV Rs.kind Rs.rowR
      rw [if_neg (by rw [hx]; decide), if_pos hy, if_neg (by rw [hb]; decide), if_neg (by rw [hx]; decide), if_pos hy, if_neg (by rw [hb]; decide)]
      exact ⟨rfl, (at_cons h).2.2⟩
    · rw [if_neg h2] at h
      by_cases h4 : k = 4
      · rw [if_pos (.inr (.inr h4))] at ht
        rw [if_pos h4] at h
        have hs : s = noS := ByteArray.ext (Array.ext' (of_decide_eq_true ht))
        subst h4 hs
        have h : At r ((1, wInt, 0) :: (3, wLb, 0) :: (3, wRb, 0) :: ts) := by
          have a1 := T_int.1; have a2 := T_lb.1; have a3 := T_rb.1
          unfold wInt at a1; unfold wLb at a2; unfold wRb at a3
          rw [List.map_cons, List.map_cons, List.map_cons, List.map_nil, a1, a2, a3] at h
          exact h
        have hy : r.is wInt = true := at_yes h (by decide)
        have hx : r.is wVoid = false := at_no h (by decide)
        have hb : r.step.is wLb = true := at_yes (at_cons h).2.2 (by decide)
        unfold Rs.kindV Rs.kind Rs.rowR
        rw [if_neg (by rw [hx]; decide), if_pos hy, if_pos hb, if_neg (by rw [hx]; decide), if_pos hy, if_pos hb]
        exact ⟨rfl, at_want (at_cons (at_cons h).2.2).2.2 (by decide)⟩
      · rw [if_neg h4] at h
        rw [if_neg (by omega)] at ht
        have h35 : k = 3 ∨ k = 5 := by
          by_cases c : k = 3 ∨ k = 5
          · exact c
          · rw [if_neg c] at ht; cases ht
        rw [if_pos h35] at ht
        have hf : freshW s = true := ht
        obtain ⟨hs1, -, hk⟩ := fresh_T hf
        have n1 : s ≠ wVoid := fresh_ne hf (.inl (by decide +kernel))
        have n2 : s ≠ wInt := fresh_ne hf (.inl (by decide +kernel))
        by_cases h5 : k = 5
        · rw [if_pos h5] at h
          subst h5
          have h : At r ((1, s, 0) :: (3, wLb, 0) :: (3, wRb, 0) :: ts) := by
            have a2 := T_lb.1; have a3 := T_rb.1
            unfold wLb at a2; unfold wRb at a3
            rw [List.map_cons, List.map_cons, List.map_cons, List.map_nil, hs1, a2, a3] at h
            exact h
          obtain ⟨f1, f2, f3⟩ := at_fresh h hk
          have hy : r.is wInt = false := at_no h n2
          have hx : r.is wVoid = false := at_no h n1
          have hb : r.fresh.is wLb = true := at_yes f3 (by decide)
          unfold Rs.kindV Rs.kind Rs.rowR
          rw [if_neg (by rw [hx]; decide), if_neg (by rw [hy]; decide), if_pos hb, if_neg (by rw [hx]; decide), if_neg (by rw [hy]; decide), if_pos hb, f2]
          exact ⟨rfl, at_want (at_cons f3).2.2 (by decide)⟩
        · rw [if_neg h5] at h
          have h3 : k = 3 := by omega
          subst h3
          have h : At r ((1, s, 0) :: ts) := by
            rw [List.map_cons, List.map_nil, hs1] at h
            exact h
          obtain ⟨f1, f2, f3⟩ := at_fresh h hk
          have hy : r.is wInt = false := at_no h n2
          have hx : r.is wVoid = false := at_no h n1
          have hb := at_noW f3 hn
          unfold Rs.kindV Rs.kind Rs.rowR
          rw [if_neg (by rw [hx]; decide), if_neg (by rw [hy]; decide), if_neg (by rw [hb]; decide), if_neg (by rw [hx]; decide), if_neg (by rw [hy]; decide), if_neg (by rw [hb]; decide), f2]
          exact ⟨rfl, f3⟩
abbrev tks (ws : List ByteArray) : List T3 := ws.map tokT
theorem name_sign {s w : ByteArray} (h : nameF s.data.toList = true) (hw : nameF w.data.toList = false) : s ≠ w := by
  rintro rfl
  rw [hw] at h; cases h
theorem kind_head {t : Ty} (ht : tyOk t = true) : ∃ w rest, tks (kindW t) = (1, w, 0) :: rest ∧ nameF w.data.toList = true := by
  obtain ⟨k, s⟩ := t
  unfold tyOk typedF at ht
  unfold kindW kindF
  simp only at ht ⊢
  by_cases h1 : k = 1
  · rw [if_pos h1]; exact ⟨wVoid, [], by rw [← T_void.1]; rfl, by decide +kernel⟩
  · rw [if_neg h1]
    by_cases h2 : k = 2
    · rw [if_pos h2]; exact ⟨wInt, [], by rw [← T_int.1]; rfl, by decide +kernel⟩
    · rw [if_neg h2]
      by_cases h4 : k = 4
      · rw [if_pos h4]; exact ⟨wInt, tks [wLb, wRb], by rw [← T_int.1]; rfl, by decide +kernel⟩
      · rw [if_neg h4]
        rw [if_neg (by omega)] at ht
        have h35 : k = 3 ∨ k = 5 := by
          by_cases c : k = 3 ∨ k = 5
          · exact c
          · rw [if_neg c] at ht; cases ht
        rw [if_pos h35] at ht
        have hf : freshW s = true := ht
        have hn : nameF s.data.toList = true := by
          unfold freshW freshF at hf
          rw [Bool.and_eq_true] at hf; exact hf.1
        by_cases h5 : k = 5
        · rw [if_pos h5]; exact ⟨s, tks [wLb, wRb], by rw [← (fresh_T hf).1]; rfl, hn⟩
        · rw [if_neg h5]; exact ⟨s, [], by rw [← (fresh_T hf).1]; rfl, hn⟩
theorem noW_kind {t : Ty} (ht : tyOk t = true) (ts : List T3) {w : ByteArray} (hw : nameF w.data.toList = false) : noW (tks (kindW t) ++ ts) w := by
  obtain ⟨v, rest, e, hv⟩ := kind_head ht
  rw [e]
  exact noW_cons (name_sign hv hw)
theorem at_namesL : ∀ (l : List ByteArray) (f : Nat) (r : Rs) (out : List ByteArray) (ts : List T3), (∀ s ∈ l, freshW s = true) → out.length + l.length ≤ 4 → l.length < f →
    At r (tks (l.flatMap fun x => [wComma, x]) ++ ts) → noW ts wComma → (Rs.namesL f r out).1 = out ++ l ∧ At (Rs.namesL f r out).2 ts
  | _, 0, _, _, _, _, _, hf, _, _ => by omega
  | [], f + 1, r, out, ts, _, _, _, h, hn => by
    have h : At r ts := h
    unfold Rs.namesL
    rw [if_neg (by rw [at_noW h hn]; decide)]
    exact ⟨by simp, h⟩
  | s :: l, f + 1, r, out, ts, hs, hl, hf, h, hn => by
    have hf1 := fresh_T (hs s (by simp))
    have h : At r ((3, wComma, 0) :: (1, s, 0) :: (tks (l.flatMap fun x => [wComma, x]) ++ ts)) := by
      rw [← T_comma.1, ← hf1.1]; exact h
    have hy := at_yes h (by decide)
    have h2 := (at_cons h).2.2
    obtain ⟨f1, f2, f3⟩ := at_fresh h2 hf1.2.2
    simp only [List.length_cons] at hl hf
    have e1 : r.name1 out.length = r.step := by
      unfold Rs.name1
      rw [if_pos f1, room_lt _ (by omega)]
    unfold Rs.namesL
    rw [if_pos hy, e1, f2]
    have := at_namesL l f r.step.fresh (out ++ [s]) ts (fun x hx => hs x (by simp [hx])) (by simp; omega) (by omega) f3 hn
    exact ⟨by rw [this.1]; simp, this.2⟩
theorem flat_len {α : Type} (g : α → List ByteArray) : ∀ (l : List α), (∀ x ∈ l, 0 < (g x).length) → l.length ≤ (l.flatMap g).length
  | [], _ => by simp
  | x :: l, h => by
    have := flat_len g l (fun y hy => h y (by simp [hy]))
    have := h x (by simp)
    rw [List.flatMap_cons, List.length_append, List.length_cons]; omega
theorem at_names {s : ByteArray} {l : List ByteArray} {r : Rs} {ts : List T3} (hs : ∀ x ∈ s :: l, freshW x = true) (hl : (s :: l).length ≤ 4)
    (h : At r (tokT s :: (tks (l.flatMap fun x => [wComma, x]) ++ ts))) (hn : noW ts wComma) : r.names.1 = s :: l ∧ At r.names.2 ts := by
  have hf1 := fresh_T (hs s (by simp))
  have hlen := at_len h
  have hfl := flat_len (fun x => [wComma, x]) l (fun _ _ => by simp)
  rw [hf1.1] at h
  obtain ⟨f1, f2, f3⟩ := at_fresh h hf1.2.2
  simp only [List.length_cons, List.length_append, List.length_map] at hlen hl
  have := at_namesL l (r.L.length + 2) r.fresh [s] ts (fun x hx => hs x (by simp [hx])) (by simp; omega) (by omega) f3 hn
  unfold Rs.names
  rw [f2]
  exact ⟨this.1, this.2⟩
theorem at_paramsL : ∀ (l : List Ty) (f : Nat) (r : Rs) (out : List Ty) (ts : List T3), (∀ t ∈ l, tyOk t = true) → out.length + l.length ≤ 4 → l.length < f →
    At r (tks (l.flatMap fun x => wComma :: kindW x) ++ ts) → noW ts wComma → noW ts wLb → (Rs.paramsL f r out).1 = out ++ l ∧ At (Rs.paramsL f r out).2 ts
  | _, 0, _, _, _, _, _, hf, _, _, _ => by omega
  | [], f + 1, r, out, ts, _, _, _, h, hn, _ => by
    have h : At r ts := h
    unfold Rs.paramsL
    rw [if_neg (by rw [at_noW h hn]; decide)]
    exact ⟨by simp, h⟩
  | t :: l, f + 1, r, out, ts, hs, hl, hf, h, hn, hb => by
    have h : At r ((3, wComma, 0) :: (tks (kindW t) ++ (tks (l.flatMap fun x => wComma :: kindW x) ++ ts))) := by
      rw [← T_comma.1]
      simpa [tks, List.flatMap_cons] using h
    have hy := at_yes h (by decide)
    have h2 := (at_cons h).2.2
    have hnb : noW (tks (l.flatMap fun x => wComma :: kindW x) ++ ts) wLb := by
      cases l with
      | nil => exact hb
      | cons x l =>
        show noW (tokT wComma :: _) wLb
        rw [T_comma.1]
        exact noW_cons (by decide)
    obtain ⟨f2, f3⟩ := at_kind (hs t (by simp)) h2 hnb
    simp only [List.length_cons] at hl hf
    have e1 : r.param1 out.length = r.step := by
      unfold Rs.param1
      split
      · rw [room_lt _ (by omega)]
      · rfl
    unfold Rs.paramsL
    rw [if_pos hy, e1, f2]
    have := at_paramsL l f r.step.kind (out ++ [t]) ts (fun x hx => hs x (by simp [hx])) (by simp; omega) (by omega) f3 hn hb
    exact ⟨by rw [this.1]; simp, this.2⟩
theorem at_params {ps : List Ty} {r : Rs} {ts : List T3} (hs : ∀ t ∈ ps, tyOk t = true) (hl : ps.length ≤ 4) (h : At r (tokT wLp :: (tks (paramsF ps) ++ tokT wRp :: ts))) : r.params.1 = ps ∧ At r.params.2 ts := by
  rw [T_lp.1, T_rp.1] at h
  have h1 := at_want h (by decide)
  cases ps with
  | nil =>
    have h1 : At (r.want wLp) ((3, wRp, 0) :: ts) := h1
    unfold Rs.params
    rw [if_pos (at_yes h1 (by decide))]
    exact ⟨rfl, (at_cons h1).2.2⟩
  | cons t l =>
    have h1 : At (r.want wLp) (tks (kindW t) ++ (tks (l.flatMap fun x => wComma :: kindW x) ++ (3, wRp, 0) :: ts)) := by
      simpa [tks, paramsF] using h1
    have hno : (r.want wLp).is wRp = false := at_noW h1 (noW_kind (hs t (by simp)) _ (by decide +kernel))
    have hnb : noW (tks (l.flatMap fun x => wComma :: kindW x) ++ (3, wRp, 0) :: ts) wLb := by
      cases l with
      | nil => exact noW_cons (by decide)
      | cons x l =>
        show noW (tokT wComma :: _) wLb
        rw [T_comma.1]
        exact noW_cons (by decide)
    obtain ⟨f2, f3⟩ := at_kind (hs t (by simp)) h1 hnb
    have hlen := at_len f3
    have hfl := flat_len (fun x => wComma :: kindW x) l (fun _ _ => by simp)
    have hL : (r.want wLp).kind.L = r.L := ((Rs.want_fwd r wLp).trans (Rs.kind_fwd _)).L
    rw [hL] at hlen
    simp only [List.length_cons, List.length_append, List.length_map] at hlen hl
    have := at_paramsL l (r.L.length + 2) (r.want wLp).kind [t] ((3, wRp, 0) :: ts) (fun x hx => hs x (by simp [hx])) (by simp; omega) (by omega) f3 (noW_cons (by decide)) (noW_cons (by decide))
    unfold Rs.params
    rw [if_neg (by rw [hno]; decide), f2]
    exact ⟨by rw [this.1]; rfl, at_want this.2 (by decide)⟩
/-! ### Instructions -/
theorem op_facts : ∀ k, k < 44 → nameF (opsL.getD k noS).data.toList = true ∧ opV (opsL.getD k noS) = (k : Int) ∧ keptW (opsL.getD k noS) = false := by decide +kernel
theorem nums_R (o : Int) : -2147483648 ≤ (numsF o).1 ∧ (numsF o).2.1 ≤ 2147483647 ∧ ((numsF o).2.2 = false → (numsF o).1 = 0 ∧ (numsF o).2.1 = 0) := by
  unfold numsF
  split
  · exact ⟨by decide, by decide, fun h => by cases h⟩
  · split
    · exact ⟨by decide, by decide, fun h => by cases h⟩
    · split
      · exact ⟨by decide, by decide, fun h => by cases h⟩
      · exact ⟨by decide, by decide, fun _ => ⟨rfl, rfl⟩⟩
theorem named_T {s : ByteArray} {b : Bool} (h : namedF s.data.toList b = true) : (b = true → freshW s = true) ∧ (b = false → s = noS) := by
  unfold namedF at h
  refine ⟨fun hb => ?_, fun hb => ?_⟩
  · rw [if_pos hb] at h; exact h
  · rw [if_neg (by rw [hb]; decide)] at h
    exact ByteArray.ext (Array.ext' (of_decide_eq_true h))
theorem ins_parts {x : Ins} (h : insOk x = true) : 0 ≤ x.op ∧ x.op ≤ 43 ∧ (numsF x.op).1 ≤ x.n ∧ x.n ≤ (numsF x.op).2.1 ∧ namedF x.a.data.toList (decide (namesF x.op > 0)) = true ∧ namedF x.b.data.toList (decide (namesF x.op > 1)) = true := by
  unfold insOk instrF at h
  rw [Bool.and_eq_true, Bool.and_eq_true, Bool.and_eq_true] at h
  obtain ⟨⟨⟨h1, h2⟩, h3⟩, h4⟩ := h
  unfold inF at h1 h2
  have h1 := of_decide_eq_true h1
  have h2 := of_decide_eq_true h2
  exact ⟨h1.1, h1.2, h2.1, h2.2, h3, h4⟩
theorem word_op {o : Int} (h0 : 0 ≤ o) (h1 : o ≤ 43) : nameF (wordF2 o).data.toList = true ∧ opV (wordF2 o) = o ∧ keptW (wordF2 o) = false := by
  unfold wordF2
  rw [if_neg (by omega)]
  have := op_facts o.toNat (by omega)
  exact ⟨this.1, by rw [this.2.1]; omega, this.2.2⟩
theorem name_noS {s : ByteArray} (h : nameF s.data.toList = true) : s ≠ noS := name_sign h (by decide +kernel)
theorem at_in3 {r : Rs} {s : ByteArray} {b : Bool} {ts : List T3} (hs : namedF s.data.toList b = true) (h : At r (tks (if s = noS then [] else [s]) ++ ts)) : r.in3V b = s ∧ At (r.in3 b) ts := by
  cases b with
  | true =>
    have hf := (named_T hs).1 rfl
    rw [if_neg (fresh_noS hf)] at h
    have h : At r ((1, s, 0) :: ts) := by rw [← (fresh_T hf).1]; exact h
    obtain ⟨f1, f2, f3⟩ := at_fresh h (fresh_T hf).2.2
    exact ⟨f2, f3⟩
  | false =>
    have hf := (named_T hs).2 rfl
    rw [if_pos hf] at h
    exact ⟨hf.symm, h⟩
theorem at_in2 {r : Rs} {o n : Int} {ts : List T3} (h1 : (numsF o).1 ≤ n) (h2 : n ≤ (numsF o).2.1) (h : At r (tks (if (numsF o).2.2 then [dig n] else []) ++ ts)) : r.in2V o = n ∧ At (r.in2 o) ts := by
  have hR := nums_R o
  unfold Rs.in2V Rs.in2
  cases hc : (numsF o).2.2 with
  | true =>
    rw [if_pos hc] at h
    have h : At r ((2, noS, n) :: ts) := by
      rw [← (num_T (n := n) ⟨by omega, by omega⟩).1]; exact h
    rw [if_pos rfl, if_pos rfl]
    exact at_num h h1 h2
  | false =>
    rw [if_neg (by rw [hc]; decide)] at h
    rw [if_neg (by decide), if_neg (by decide)]
    have := hR.2.2 hc
    exact ⟨by omega, h⟩
theorem at_op {r : Rs} {o : Int} {ts : List T3} (h0 : 0 ≤ o) (h1 : o ≤ 43) (h : At r (tokT (wordF2 o) :: ts)) : r.isOp = true ∧ opV r.next.2.1 = o ∧ r.next.2.1 = wordF2 o ∧ At (r.want (wordF2 o)) ts := by
  obtain ⟨w1, w2, w3⟩ := word_op h0 h1
  rw [(name_T w1).1] at h
  have hx := at_next h
  refine ⟨?_, by rw [hx.2.1, w2], hx.2.1, at_want h (name_noS w1)⟩
  unfold Rs.isOp
  rw [hx.1, hx.2.1, w2]
  simpa using h0
theorem at_instr {x : Ins} {r : Rs} {ts : List T3} {many : Int} (hx : insOk x = true) (hm : many < 48) (h : At r (tks (codeF x) ++ ts)) : r.isOp = true ∧ (r.instr many).1 = x ∧ At (r.instr many).2 ts := by
  obtain ⟨h1, h2, h3, h4, h5, h6⟩ := ins_parts hx
  have h : At r (tokT (wordF2 x.op) :: (tks (if (numsF x.op).2.2 then [dig x.n] else []) ++ (tks (if x.a = noS then [] else [x.a]) ++ (tks (if x.b = noS then [] else [x.b]) ++ (tokT wSemi :: ts))))) := by
    have := h
    unfold codeF at this
    simpa [tks] using this
  obtain ⟨g1, g2, g3, g4⟩ := at_op h1 h2 h
  obtain ⟨i1, i2⟩ := at_in2 h3 h4 g4
  obtain ⟨j1, j2⟩ := at_in3 h5 i2
  obtain ⟨k1, k2⟩ := at_in3 h6 j2
  rw [T_semi.1] at k2
  refine ⟨g1, ?_, ?_⟩
  · unfold Rs.instr Rs.in1 Rs.inVal
    rw [g2, g3, room_lt _ hm]
    simp only
    rw [i1, j1, k1]
  · unfold Rs.instr Rs.in1 Rs.inArgs
    rw [g2, g3, room_lt _ hm]
    exact at_want k2 (by decide)
def noOp (ts : List T3) : Prop := ∀ t, ts.head? = some t → opV t.2.1 < 0
theorem at_noOp {r : Rs} {ts : List T3} (h : At r ts) (hn : noOp ts) : r.isOp = false := by
  unfold Rs.isOp
  cases ts with
  | nil => rw [at_nil h]; simp
  | cons t ts =>
    obtain ⟨k, w, n⟩ := t
    rw [(at_next h).2.1]
    have h2 := hn _ rfl
    simp only at h2
    simp
    intro _; omega
theorem at_codeL : ∀ (l : List Ins) (f : Nat) (r : Rs) (out : List Ins) (ts : List T3), (∀ x ∈ l, insOk x = true) → out.length + l.length ≤ 48 → l.length < f →
    At r (tks (l.flatMap codeF) ++ ts) → noOp ts → (Rs.codeL f r out).1 = out ++ l ∧ At (Rs.codeL f r out).2 ts
  | _, 0, _, _, _, _, _, hf, _, _ => by omega
  | [], f + 1, r, out, ts, _, _, _, h, hn => by
    have h : At r ts := h
    unfold Rs.codeL
    rw [if_neg (by rw [at_noOp h hn]; decide)]
    exact ⟨by simp, h⟩
  | x :: l, f + 1, r, out, ts, hs, hl, hf, h, hn => by
    have h : At r (tks (codeF x) ++ (tks (l.flatMap codeF) ++ ts)) := by
      simpa [tks, List.flatMap_cons] using h
    simp only [List.length_cons] at hl hf
    obtain ⟨g1, g2, g3⟩ := at_instr (many := out.length) (hs x (by simp)) (by omega) h
    unfold Rs.codeL
    rw [if_pos g1, g2]
    have := at_codeL l f _ (out ++ [x]) ts (fun y hy => hs y (by simp [hy])) (by simp; omega) (by omega) g3 hn
    exact ⟨by rw [this.1]; simp, this.2⟩
theorem cat_parts {c : Cat} (h : catOk c = true) : freshW c.name = true ∧ (0 ≤ c.fr ∧ c.fr ≤ 48) ∧ (0 ≤ c.up ∧ c.up ≤ 48) ∧ 0 ≤ c.at' ∧ c.at' ≤ 48 := by
  unfold catOk catchF at h
  rw [Bool.and_eq_true, Bool.and_eq_true, Bool.and_eq_true] at h
  obtain ⟨⟨⟨h1, h2⟩, h3⟩, h4⟩ := h
  exact ⟨h1, of_decide_eq_true h2, of_decide_eq_true h3, of_decide_eq_true h4⟩
theorem at_catch {c : Cat} {r : Rs} {ts : List T3} {many : Int} (hc : catOk c = true) (hm : many < 4) (h : At r (tks (catF c) ++ ts)) : r.is wCatch = true ∧ (r.ca1 many).catV = c ∧ At (r.ca1 many).catR ts := by
  obtain ⟨h1, h2, h3, h4⟩ := cat_parts hc
  have h : At r ((1, wCatch, 0) :: (1, c.name, 0) :: (2, noS, c.fr) :: (2, noS, c.up) :: (2, noS, c.at') :: (3, wSemi, 0) :: ts) := by
    rw [← T_catch.1, ← (fresh_T h1).1, ← (num_T (n := c.fr) ⟨by omega, by omega⟩).1, ← (num_T (n := c.up) ⟨by omega, by omega⟩).1, ← (num_T (n := c.at') ⟨by omega, by omega⟩).1, ← T_semi.1]
    exact h
  have g1 := at_want h (by decide)
  obtain ⟨-, f2, f3⟩ := at_fresh g1 (fresh_T h1).2.2
  obtain ⟨a1, a2⟩ := at_num f3 h2.1 h2.2
  obtain ⟨b1, b2⟩ := at_num a2 h3.1 h3.2
  obtain ⟨c1, c2⟩ := at_num b2 h4.1 h4.2
  refine ⟨at_yes h (by decide), ?_, ?_⟩
  · unfold Rs.ca1 Rs.catV
    rw [room_lt _ hm, f2, a1, b1, c1]
  · unfold Rs.ca1 Rs.catR
    rw [room_lt _ hm]
    exact at_want c2 (by decide)
theorem at_catchL : ∀ (l : List Cat) (f : Nat) (r : Rs) (out : List Cat) (ts : List T3), (∀ x ∈ l, catOk x = true) → out.length + l.length ≤ 4 → l.length < f →
    At r (tks (l.flatMap catF) ++ ts) → noW ts wCatch → (Rs.catchL f r out).1 = out ++ l ∧ At (Rs.catchL f r out).2 ts
  | _, 0, _, _, _, _, _, hf, _, _ => by omega
  | [], f + 1, r, out, ts, _, _, _, h, hn => by
    have h : At r ts := h
    unfold Rs.catchL
    rw [if_neg (by rw [at_noW h hn]; decide)]
    exact ⟨by simp, h⟩
  | x :: l, f + 1, r, out, ts, hs, hl, hf, h, hn => by
    have h : At r (tks (catF x) ++ (tks (l.flatMap catF) ++ ts)) := by
      simpa [tks, List.flatMap_cons] using h
    simp only [List.length_cons] at hl hf
    obtain ⟨g1, g2, g3⟩ := at_catch (many := out.length) (hs x (by simp)) (by omega) h
    unfold Rs.catchL
    rw [if_pos g1, g2]
    have := at_catchL l f _ (out ++ [x]) ts (fun y hy => hs y (by simp [hy])) (by simp; omega) (by omega) g3 hn
    exact ⟨by rw [this.1]; simp, this.2⟩
end Go.Proofs.YtadimoijlgmecaaGreatDoor.Ax
/- Layer show: each of a row is right. PRINTED by wip/sp/si.py. -/
set_option linter.unusedVariables false
set_option linter.unusedSimpArgs false
namespace Go.Proofs.YtadimoijlgmecaaGreatDoor.Ax
open Go Go.RowKit
def ixF {α : Type} (p : α → Bool) : List α → Nat → Int
  | [], _ => -1
  | x :: xs, i => if p x then (i : Int) else ixF p xs (i + 1)
theorem ixF_any {α : Type} (p : α → Bool) : ∀ (l : List α) (i : Nat), decide (ixF p l i ≥ 0) = l.any p
  | [], i => by simp [ixF]
  | x :: xs, i => by
    simp only [List.any_cons]
    by_cases h : p x = true
    · have e : ixF p (x :: xs) i = (i : Int) := if_pos h
      rw [h, Bool.true_or]
      exact decide_eq_true (by show 0 ≤ ixF p (x :: xs) i; rw [e]; exact Int.natCast_nonneg _)
    · have e : ixF p (x :: xs) i = ixF p xs (i + 1) := if_neg h
      rw [show p x = false by simpa using h, Bool.false_or, ← ixF_any p xs (i + 1)]
      exact decide_eq_decide.2 (by show 0 ≤ ixF p (x :: xs) i ↔ 0 ≤ ixF p xs (i + 1); rw [e])
theorem drop_at {α : Type} (d : α) (l : List α) (i : Nat) (h : i < l.length) : l.drop i = l.getD i d :: l.drop (i + 1) := by
  rw [List.drop_eq_getElem_cons h]; simp [List.getD, h]
theorem not_any_not {α : Type} (p : α → Bool) : ∀ l : List α, (!l.any fun x => !p x) = l.all p
  | [] => rfl
  | x :: xs => by simp only [List.any_cons, List.all_cons, Bool.not_or, Bool.not_not]; rw [not_any_not p xs]
abbrev SM : Nat := 4611686018427387904
def fldD (f : Fld) : Prop := f.name.size ≤ SM ∧ f.type.2.size ≤ SM
def insD (x : Ins) : Prop := x.a.size ≤ SM ∧ x.b.size ≤ SM
def catD (c : Cat) : Prop := c.name.size ≤ SM
def methD (m : Meth) : Prop := m.name.size ≤ SM ∧ m.ret.2.size ≤ SM ∧ (m.params.length ≤ 100000 ∧ ∀ x ∈ m.params, x.2.size ≤ SM) ∧ (m.code.length ≤ 100000 ∧ ∀ x ∈ m.code, insD x) ∧ (m.catches.length ≤ 100000 ∧ ∀ x ∈ m.catches, catD x)
def clsD (c : Cls) : Prop := c.name.size ≤ SM ∧ c.super.size ≤ SM ∧ (c.ifaces.length ≤ 100000 ∧ ∀ x ∈ c.ifaces, x.size ≤ SM) ∧ (c.fields.length ≤ 100000 ∧ ∀ x ∈ c.fields, fldD x) ∧ (c.methods.length ≤ 100000 ∧ ∀ x ∈ c.methods, methD x)
def prgD (p : List Cls) : Prop := p.length ≤ 100000 ∧ ∀ c ∈ p, clsD c
def eaStr_cap : SV := .elt Unit 1 (fun _ => [.fn 42 []]) () [()] 0 0
def eaStr_row (l : List ByteArray) : SV := .row ByteArray 1 strC noS l
def eaStr_lit : Ctr := { A := ByteArray, enc := fun x => [S x, eaStr_cap], dom := fun x => x.size ≤ 4611686018427387904, res := fun x _ => B (!(freshW x)), gl := tabS }
def eaStr_one : Ctr := { A := ByteArray, enc := fun x => [S x], dom := fun x => x.size ≤ 4611686018427387904, res := fun x _ => B (freshW x), gl := tabS }
theorem eaStr_lit_ok (h1 : CtrSound Tryz.prog 42 eaStr_one) : CtrSound Tryz.prog 80 eaStr_lit :=
  ctr_of_ax (env_okB tys_ok (eqs := []) trivial (cs := [(42, eaStr_one)]) ⟨h1, trivial⟩ (bs := []) trivial (gl := tabS)) mixed _ Tryz.func80 (by kernel_rfl) rfl (fun _ _ => Nat.le_of_ble_eq_true rfl) fun (x : ByteArray) id hd => by
    refine ⟨x, ⟨.refl _, trivial⟩, rfl, hd, ?_⟩
    exact ⟨.refl _, rfl⟩
def eaStr_ix : Ctr := { A := List ByteArray, enc := fun l => [eaStr_row l, .fn 80 [eaStr_cap]], dom := fun l => l.length ≤ 4611686018427387904 ∧ ∀ x ∈ l, x.size ≤ 4611686018427387904, res := fun l _ => I (ixF (fun x => !(freshW x)) l 0), gl := tabS }
theorem eaStr_ix_ok (h1 : CtrSound Tryz.prog 42 eaStr_one) : CtrSound Tryz.prog 109 eaStr_ix :=
  ctr_of_ax (env_okB tys_ok (eqs := []) trivial (cs := [(80, eaStr_lit)]) ⟨eaStr_lit_ok h1, trivial⟩ (bs := []) trivial (gl := tabS)) mixed _ Tryz.func109 (by kernel_rfl) rfl (fun _ _ => Nat.le_of_ble_eq_true rfl) fun (l : List ByteArray) id hd => by
    have hd1 : l.length ≤ 4611686018427387904 := hd.1
    refine ⟨Nat, fun i => [(0, eaStr_row l), (1, .fn 80 [eaStr_cap]), (7, I l.length), (8, I i)], fun _ => [], fun i => i ≤ l.length ∧ ixF (fun x => !(freshW x)) (l.drop i) i = ixF (fun x => !(freshW x)) l 0, fun i => l.length - i,
      ⟨0, ⟨Nat.zero_le _, rfl⟩, ⟨⟨rfl, rfl⟩, .refl _, .refl _, .refl _, .refl _, trivial⟩⟩, fun (i : Nat) hi => ?_⟩
    have hil := hi.1
    have hk := hi.2
    have hwj : IntKind.i64.wrap ((i : Int) + 1) = ((i + 1 : Nat) : Int) := by rw [wrap_eq _ (by omega) (by omega)]; omega
    refine ⟨fun h => ?_, fun h => ?_⟩
    · have hlt : i < l.length := by have := of_decide_eq_true h; omega
      rw [drop_at noS l i hlt] at hk
      refine ⟨⟨by omega, by omega⟩, ?_⟩
      refine ⟨l.getD i noS, ⟨.refl _, .refl _, trivial⟩, rfl, hd.2 _ (getT_mem l noS i hlt), ?_⟩
      refine ⟨fun h => ?_, fun h => ?_⟩
      · exact ⟨.int (by rw [← hk, ixF, if_pos h]), rfl⟩
      · rw [ixF, if_neg (by rw [show (!(fun x => (freshW x)) (l.getD i noS)) = false from h]; decide)] at hk
        exact ⟨i + 1, ⟨hlt, hk⟩, by show l.length - (i + 1) < l.length - i; omega, ⟨rfl, rfl⟩, .refl _, .refl _, .refl _, .int hwj, trivial⟩
    · have hge : i = l.length := by have := of_decide_eq_false h; omega
      subst hge
      rw [List.drop_length] at hk
      exact ⟨.int (by rw [← hk] <;> rfl), rfl⟩
def eaStr_has : Ctr := { A := List ByteArray, enc := fun l => [eaStr_row l, .fn 80 [eaStr_cap]], dom := fun l => l.length ≤ 4611686018427387904 ∧ ∀ x ∈ l, x.size ≤ 4611686018427387904, res := fun l _ => B (l.any (fun x => !(freshW x))), gl := tabS }
theorem eaStr_has_ok (h1 : CtrSound Tryz.prog 42 eaStr_one) : CtrSound Tryz.prog 79 eaStr_has :=
  ctr_of_ax (env_okB tys_ok (eqs := []) trivial (cs := [(109, eaStr_ix)]) ⟨eaStr_ix_ok h1, trivial⟩ (bs := []) trivial (gl := tabS)) mixed _ Tryz.func79 (by kernel_rfl) rfl (fun _ _ => Nat.le_of_ble_eq_true rfl) fun (l : List ByteArray) id hd => by
    refine ⟨l, ⟨.refl _, .refl _, trivial⟩, rfl, hd, ?_⟩
    exact ⟨.bool (by rw [← ixF_any] <;> rfl), rfl⟩
def eaStr_each : Ctr := { A := List ByteArray × Int, enc := fun x => [eaStr_row x.1, I x.2, .fn 42 []], dom := fun z => z.1.length ≤ 4611686018427387904 ∧ ∀ x ∈ z.1, x.size ≤ 4611686018427387904, res := fun z _ => B (decide ((z.1.length : Int) ≤ z.2) && z.1.all (fun x => (freshW x))), gl := tabS }
set_option maxRecDepth 100000 in
theorem eaStr_each_ok (h1 : CtrSound Tryz.prog 42 eaStr_one) : CtrSound Tryz.prog 50 eaStr_each :=
  ctr_of_ax (env_okB tys_ok (eqs := []) trivial (cs := [(79, eaStr_has)]) ⟨eaStr_has_ok h1, trivial⟩ (bs := []) trivial (gl := tabS)) mixed _ Tryz.func50 (by kernel_rfl) rfl (fun _ _ => Nat.le_of_ble_eq_true rfl) fun ((l, m) : List ByteArray × Int) id hd => by
    refine ⟨fun h => ?_, fun h => ?_⟩
    · refine ⟨l, ⟨.refl _, .refl _, trivial⟩, rfl, hd, ?_⟩
      exact ⟨.bool (by rw [show decide ((l.length : Int) ≤ m) = true from h, not_any_not]; rfl), rfl⟩
    · exact ⟨.bff (by rw [show decide ((l.length : Int) ≤ m) = false from h]; rfl), rfl⟩
def eaTy_cap : SV := .elt Unit 1 (fun _ => [.fn 26 []]) () [()] 0 0
def eaTy_row (l : List Ty) : SV := .row Ty 2 tyC ty0 l
def eaTy_lit : Ctr := { A := Ty, enc := fun x => [tyS x, eaTy_cap], dom := fun x => x.2.size ≤ 4611686018427387904, res := fun x _ => B (!(tyOk x)), gl := tabS }
def eaTy_one : Ctr := { A := Ty, enc := fun x => [tyS x], dom := fun x => x.2.size ≤ 4611686018427387904, res := fun x _ => B (tyOk x), gl := tabS }
theorem eaTy_lit_ok (h1 : CtrSound Tryz.prog 26 eaTy_one) : CtrSound Tryz.prog 113 eaTy_lit :=
  ctr_of_ax (env_okB tys_ok (eqs := []) trivial (cs := [(26, eaTy_one)]) ⟨h1, trivial⟩ (bs := []) trivial (gl := tabS)) mixed _ Tryz.func113 (by kernel_rfl) rfl (fun _ _ => Nat.le_of_ble_eq_true rfl) fun (x : Ty) id hd => by
    refine ⟨x, ⟨.refl _, trivial⟩, rfl, hd, ?_⟩
    exact ⟨.refl _, rfl⟩
def eaTy_ix : Ctr := { A := List Ty, enc := fun l => [eaTy_row l, .fn 113 [eaTy_cap]], dom := fun l => l.length ≤ 4611686018427387904 ∧ ∀ x ∈ l, x.2.size ≤ 4611686018427387904, res := fun l _ => I (ixF (fun x => !(tyOk x)) l 0), gl := tabS }
theorem eaTy_ix_ok (h1 : CtrSound Tryz.prog 26 eaTy_one) : CtrSound Tryz.prog 132 eaTy_ix :=
  ctr_of_ax (env_okB tys_ok (eqs := []) trivial (cs := [(113, eaTy_lit)]) ⟨eaTy_lit_ok h1, trivial⟩ (bs := []) trivial (gl := tabS)) mixed _ Tryz.func132 (by kernel_rfl) rfl (fun _ _ => Nat.le_of_ble_eq_true rfl) fun (l : List Ty) id hd => by
    have hd1 : l.length ≤ 4611686018427387904 := hd.1
    refine ⟨Nat, fun i => [(0, eaTy_row l), (1, .fn 113 [eaTy_cap]), (7, I l.length), (8, I i)], fun _ => [], fun i => i ≤ l.length ∧ ixF (fun x => !(tyOk x)) (l.drop i) i = ixF (fun x => !(tyOk x)) l 0, fun i => l.length - i,
      ⟨0, ⟨Nat.zero_le _, rfl⟩, ⟨⟨rfl, rfl⟩, .refl _, .refl _, .refl _, .refl _, trivial⟩⟩, fun (i : Nat) hi => ?_⟩
    have hil := hi.1
    have hk := hi.2
    have hwj : IntKind.i64.wrap ((i : Int) + 1) = ((i + 1 : Nat) : Int) := by rw [wrap_eq _ (by omega) (by omega)]; omega
    refine ⟨fun h => ?_, fun h => ?_⟩
    · have hlt : i < l.length := by have := of_decide_eq_true h; omega
      rw [drop_at ty0 l i hlt] at hk
      refine ⟨⟨by omega, by omega⟩, ?_⟩
      refine ⟨l.getD i ty0, ⟨.refl _, .refl _, trivial⟩, rfl, hd.2 _ (getT_mem l ty0 i hlt), ?_⟩
      refine ⟨fun h => ?_, fun h => ?_⟩
      · exact ⟨.int (by rw [← hk, ixF, if_pos h]), rfl⟩
      · rw [ixF, if_neg (by rw [show (!(fun x => (tyOk x)) (l.getD i ty0)) = false from h]; decide)] at hk
        exact ⟨i + 1, ⟨hlt, hk⟩, by show l.length - (i + 1) < l.length - i; omega, ⟨rfl, rfl⟩, .refl _, .refl _, .refl _, .int hwj, trivial⟩
    · have hge : i = l.length := by have := of_decide_eq_false h; omega
      subst hge
      rw [List.drop_length] at hk
      exact ⟨.int (by rw [← hk] <;> rfl), rfl⟩
def eaTy_has : Ctr := { A := List Ty, enc := fun l => [eaTy_row l, .fn 113 [eaTy_cap]], dom := fun l => l.length ≤ 4611686018427387904 ∧ ∀ x ∈ l, x.2.size ≤ 4611686018427387904, res := fun l _ => B (l.any (fun x => !(tyOk x))), gl := tabS }
theorem eaTy_has_ok (h1 : CtrSound Tryz.prog 26 eaTy_one) : CtrSound Tryz.prog 112 eaTy_has :=
  ctr_of_ax (env_okB tys_ok (eqs := []) trivial (cs := [(132, eaTy_ix)]) ⟨eaTy_ix_ok h1, trivial⟩ (bs := []) trivial (gl := tabS)) mixed _ Tryz.func112 (by kernel_rfl) rfl (fun _ _ => Nat.le_of_ble_eq_true rfl) fun (l : List Ty) id hd => by
    refine ⟨l, ⟨.refl _, .refl _, trivial⟩, rfl, hd, ?_⟩
    exact ⟨.bool (by rw [← ixF_any] <;> rfl), rfl⟩
def eaTy_each : Ctr := { A := List Ty × Int, enc := fun x => [eaTy_row x.1, I x.2, .fn 26 []], dom := fun z => z.1.length ≤ 4611686018427387904 ∧ ∀ x ∈ z.1, x.2.size ≤ 4611686018427387904, res := fun z _ => B (decide ((z.1.length : Int) ≤ z.2) && z.1.all (fun x => (tyOk x))), gl := tabS }
set_option maxRecDepth 100000 in
theorem eaTy_each_ok (h1 : CtrSound Tryz.prog 26 eaTy_one) : CtrSound Tryz.prog 85 eaTy_each :=
  ctr_of_ax (env_okB tys_ok (eqs := []) trivial (cs := [(112, eaTy_has)]) ⟨eaTy_has_ok h1, trivial⟩ (bs := []) trivial (gl := tabS)) mixed _ Tryz.func85 (by kernel_rfl) rfl (fun _ _ => Nat.le_of_ble_eq_true rfl) fun ((l, m) : List Ty × Int) id hd => by
    refine ⟨fun h => ?_, fun h => ?_⟩
    · refine ⟨l, ⟨.refl _, .refl _, trivial⟩, rfl, hd, ?_⟩
      exact ⟨.bool (by rw [show decide ((l.length : Int) ≤ m) = true from h, not_any_not]; rfl), rfl⟩
    · exact ⟨.bff (by rw [show decide ((l.length : Int) ≤ m) = false from h]; rfl), rfl⟩
def eaFld_cap : SV := .elt Unit 1 (fun _ => [.fn 52 []]) () [()] 0 0
def eaFld_row (l : List Fld) : SV := .row Fld 4 fldC fld0 l
def eaFld_lit : Ctr := { A := Fld, enc := fun x => [.agg (fldC x), eaFld_cap], dom := fun x => fldD x, res := fun x _ => B (!(fldOk x)), gl := tabS }
def eaFld_one : Ctr := { A := Fld, enc := fun x => [.agg (fldC x)], dom := fun x => fldD x, res := fun x _ => B (fldOk x), gl := tabS }
theorem eaFld_lit_ok (h1 : CtrSound Tryz.prog 52 eaFld_one) : CtrSound Tryz.prog 82 eaFld_lit :=
  ctr_of_ax (env_okB tys_ok (eqs := []) trivial (cs := [(52, eaFld_one)]) ⟨h1, trivial⟩ (bs := []) trivial (gl := tabS)) mixed _ Tryz.func82 (by kernel_rfl) rfl (fun _ _ => Nat.le_of_ble_eq_true rfl) fun (x : Fld) id hd => by
    refine ⟨x, ⟨.refl _, trivial⟩, rfl, hd, ?_⟩
    exact ⟨.refl _, rfl⟩
def eaFld_ix : Ctr := { A := List Fld, enc := fun l => [eaFld_row l, .fn 82 [eaFld_cap]], dom := fun l => l.length ≤ 4611686018427387904 ∧ ∀ x ∈ l, fldD x, res := fun l _ => I (ixF (fun x => !(fldOk x)) l 0), gl := tabS }
theorem eaFld_ix_ok (h1 : CtrSound Tryz.prog 52 eaFld_one) : CtrSound Tryz.prog 110 eaFld_ix :=
  ctr_of_ax (env_okB tys_ok (eqs := []) trivial (cs := [(82, eaFld_lit)]) ⟨eaFld_lit_ok h1, trivial⟩ (bs := []) trivial (gl := tabS)) mixed _ Tryz.func110 (by kernel_rfl) rfl (fun _ _ => Nat.le_of_ble_eq_true rfl) fun (l : List Fld) id hd => by
    have hd1 : l.length ≤ 4611686018427387904 := hd.1
    refine ⟨Nat, fun i => [(0, eaFld_row l), (1, .fn 82 [eaFld_cap]), (7, I l.length), (8, I i)], fun _ => [], fun i => i ≤ l.length ∧ ixF (fun x => !(fldOk x)) (l.drop i) i = ixF (fun x => !(fldOk x)) l 0, fun i => l.length - i,
      ⟨0, ⟨Nat.zero_le _, rfl⟩, ⟨⟨rfl, rfl⟩, .refl _, .refl _, .refl _, .refl _, trivial⟩⟩, fun (i : Nat) hi => ?_⟩
    have hil := hi.1
    have hk := hi.2
    have hwj : IntKind.i64.wrap ((i : Int) + 1) = ((i + 1 : Nat) : Int) := by rw [wrap_eq _ (by omega) (by omega)]; omega
    refine ⟨fun h => ?_, fun h => ?_⟩
    · have hlt : i < l.length := by have := of_decide_eq_true h; omega
      rw [drop_at fld0 l i hlt] at hk
      refine ⟨⟨by omega, by omega⟩, ?_⟩
      refine ⟨l.getD i fld0, ⟨.refl _, .refl _, trivial⟩, rfl, hd.2 _ (getT_mem l fld0 i hlt), ?_⟩
      refine ⟨fun h => ?_, fun h => ?_⟩
      · exact ⟨.int (by rw [← hk, ixF, if_pos h]), rfl⟩
      · rw [ixF, if_neg (by rw [show (!(fun x => (fldOk x)) (l.getD i fld0)) = false from h]; decide)] at hk
        exact ⟨i + 1, ⟨hlt, hk⟩, by show l.length - (i + 1) < l.length - i; omega, ⟨rfl, rfl⟩, .refl _, .refl _, .refl _, .int hwj, trivial⟩
    · have hge : i = l.length := by have := of_decide_eq_false h; omega
      subst hge
      rw [List.drop_length] at hk
      exact ⟨.int (by rw [← hk] <;> rfl), rfl⟩
def eaFld_has : Ctr := { A := List Fld, enc := fun l => [eaFld_row l, .fn 82 [eaFld_cap]], dom := fun l => l.length ≤ 4611686018427387904 ∧ ∀ x ∈ l, fldD x, res := fun l _ => B (l.any (fun x => !(fldOk x))), gl := tabS }
theorem eaFld_has_ok (h1 : CtrSound Tryz.prog 52 eaFld_one) : CtrSound Tryz.prog 81 eaFld_has :=
  ctr_of_ax (env_okB tys_ok (eqs := []) trivial (cs := [(110, eaFld_ix)]) ⟨eaFld_ix_ok h1, trivial⟩ (bs := []) trivial (gl := tabS)) mixed _ Tryz.func81 (by kernel_rfl) rfl (fun _ _ => Nat.le_of_ble_eq_true rfl) fun (l : List Fld) id hd => by
    refine ⟨l, ⟨.refl _, .refl _, trivial⟩, rfl, hd, ?_⟩
    exact ⟨.bool (by rw [← ixF_any] <;> rfl), rfl⟩
def eaFld_each : Ctr := { A := List Fld × Int, enc := fun x => [eaFld_row x.1, I x.2, .fn 52 []], dom := fun z => z.1.length ≤ 4611686018427387904 ∧ ∀ x ∈ z.1, fldD x, res := fun z _ => B (decide ((z.1.length : Int) ≤ z.2) && z.1.all (fun x => (fldOk x))), gl := tabS }
set_option maxRecDepth 100000 in
theorem eaFld_each_ok (h1 : CtrSound Tryz.prog 52 eaFld_one) : CtrSound Tryz.prog 51 eaFld_each :=
  ctr_of_ax (env_okB tys_ok (eqs := []) trivial (cs := [(81, eaFld_has)]) ⟨eaFld_has_ok h1, trivial⟩ (bs := []) trivial (gl := tabS)) mixed _ Tryz.func51 (by kernel_rfl) rfl (fun _ _ => Nat.le_of_ble_eq_true rfl) fun ((l, m) : List Fld × Int) id hd => by
    refine ⟨fun h => ?_, fun h => ?_⟩
    · refine ⟨l, ⟨.refl _, .refl _, trivial⟩, rfl, hd, ?_⟩
      exact ⟨.bool (by rw [show decide ((l.length : Int) ≤ m) = true from h, not_any_not]; rfl), rfl⟩
    · exact ⟨.bff (by rw [show decide ((l.length : Int) ≤ m) = false from h]; rfl), rfl⟩
def eaIns_cap : SV := .elt Unit 1 (fun _ => [.fn 88 []]) () [()] 0 0
def eaIns_row (l : List Ins) : SV := .row Ins 4 insC ins0 l
def eaIns_lit : Ctr := { A := Ins, enc := fun x => [.agg (insC x), eaIns_cap], dom := fun x => insD x, res := fun x _ => B (!(insOk x)), gl := tabS }
def eaIns_one : Ctr := { A := Ins, enc := fun x => [.agg (insC x)], dom := fun x => insD x, res := fun x _ => B (insOk x), gl := tabS }
theorem eaIns_lit_ok (h1 : CtrSound Tryz.prog 88 eaIns_one) : CtrSound Tryz.prog 115 eaIns_lit :=
  ctr_of_ax (env_okB tys_ok (eqs := []) trivial (cs := [(88, eaIns_one)]) ⟨h1, trivial⟩ (bs := []) trivial (gl := tabS)) mixed _ Tryz.func115 (by kernel_rfl) rfl (fun _ _ => Nat.le_of_ble_eq_true rfl) fun (x : Ins) id hd => by
    refine ⟨x, ⟨.refl _, trivial⟩, rfl, hd, ?_⟩
    exact ⟨.refl _, rfl⟩
def eaIns_ix : Ctr := { A := List Ins, enc := fun l => [eaIns_row l, .fn 115 [eaIns_cap]], dom := fun l => l.length ≤ 4611686018427387904 ∧ ∀ x ∈ l, insD x, res := fun l _ => I (ixF (fun x => !(insOk x)) l 0), gl := tabS }
theorem eaIns_ix_ok (h1 : CtrSound Tryz.prog 88 eaIns_one) : CtrSound Tryz.prog 133 eaIns_ix :=
  ctr_of_ax (env_okB tys_ok (eqs := []) trivial (cs := [(115, eaIns_lit)]) ⟨eaIns_lit_ok h1, trivial⟩ (bs := []) trivial (gl := tabS)) mixed _ Tryz.func133 (by kernel_rfl) rfl (fun _ _ => Nat.le_of_ble_eq_true rfl) fun (l : List Ins) id hd => by
    have hd1 : l.length ≤ 4611686018427387904 := hd.1
    refine ⟨Nat, fun i => [(0, eaIns_row l), (1, .fn 115 [eaIns_cap]), (7, I l.length), (8, I i)], fun _ => [], fun i => i ≤ l.length ∧ ixF (fun x => !(insOk x)) (l.drop i) i = ixF (fun x => !(insOk x)) l 0, fun i => l.length - i,
      ⟨0, ⟨Nat.zero_le _, rfl⟩, ⟨⟨rfl, rfl⟩, .refl _, .refl _, .refl _, .refl _, trivial⟩⟩, fun (i : Nat) hi => ?_⟩
    have hil := hi.1
    have hk := hi.2
    have hwj : IntKind.i64.wrap ((i : Int) + 1) = ((i + 1 : Nat) : Int) := by rw [wrap_eq _ (by omega) (by omega)]; omega
    refine ⟨fun h => ?_, fun h => ?_⟩
    · have hlt : i < l.length := by have := of_decide_eq_true h; omega
      rw [drop_at ins0 l i hlt] at hk
      refine ⟨⟨by omega, by omega⟩, ?_⟩
      refine ⟨l.getD i ins0, ⟨.refl _, .refl _, trivial⟩, rfl, hd.2 _ (getT_mem l ins0 i hlt), ?_⟩
      refine ⟨fun h => ?_, fun h => ?_⟩
      · exact ⟨.int (by rw [← hk, ixF, if_pos h]), rfl⟩
      · rw [ixF, if_neg (by rw [show (!(fun x => (insOk x)) (l.getD i ins0)) = false from h]; decide)] at hk
        exact ⟨i + 1, ⟨hlt, hk⟩, by show l.length - (i + 1) < l.length - i; omega, ⟨rfl, rfl⟩, .refl _, .refl _, .refl _, .int hwj, trivial⟩
    · have hge : i = l.length := by have := of_decide_eq_false h; omega
      subst hge
      rw [List.drop_length] at hk
      exact ⟨.int (by rw [← hk] <;> rfl), rfl⟩
def eaIns_has : Ctr := { A := List Ins, enc := fun l => [eaIns_row l, .fn 115 [eaIns_cap]], dom := fun l => l.length ≤ 4611686018427387904 ∧ ∀ x ∈ l, insD x, res := fun l _ => B (l.any (fun x => !(insOk x))), gl := tabS }
theorem eaIns_has_ok (h1 : CtrSound Tryz.prog 88 eaIns_one) : CtrSound Tryz.prog 114 eaIns_has :=
  ctr_of_ax (env_okB tys_ok (eqs := []) trivial (cs := [(133, eaIns_ix)]) ⟨eaIns_ix_ok h1, trivial⟩ (bs := []) trivial (gl := tabS)) mixed _ Tryz.func114 (by kernel_rfl) rfl (fun _ _ => Nat.le_of_ble_eq_true rfl) fun (l : List Ins) id hd => by
    refine ⟨l, ⟨.refl _, .refl _, trivial⟩, rfl, hd, ?_⟩
    exact ⟨.bool (by rw [← ixF_any] <;> rfl), rfl⟩
def eaIns_each : Ctr := { A := List Ins × Int, enc := fun x => [eaIns_row x.1, I x.2, .fn 88 []], dom := fun z => z.1.length ≤ 4611686018427387904 ∧ ∀ x ∈ z.1, insD x, res := fun z _ => B (decide ((z.1.length : Int) ≤ z.2) && z.1.all (fun x => (insOk x))), gl := tabS }
set_option maxRecDepth 100000 in
theorem eaIns_each_ok (h1 : CtrSound Tryz.prog 88 eaIns_one) : CtrSound Tryz.prog 87 eaIns_each :=
  ctr_of_ax (env_okB tys_ok (eqs := []) trivial (cs := [(114, eaIns_has)]) ⟨eaIns_has_ok h1, trivial⟩ (bs := []) trivial (gl := tabS)) mixed _ Tryz.func87 (by kernel_rfl) rfl (fun _ _ => Nat.le_of_ble_eq_true rfl) fun ((l, m) : List Ins × Int) id hd => by
    refine ⟨fun h => ?_, fun h => ?_⟩
    · refine ⟨l, ⟨.refl _, .refl _, trivial⟩, rfl, hd, ?_⟩
      exact ⟨.bool (by rw [show decide ((l.length : Int) ≤ m) = true from h, not_any_not]; rfl), rfl⟩
    · exact ⟨.bff (by rw [show decide ((l.length : Int) ≤ m) = false from h]; rfl), rfl⟩
def eaCat_cap : SV := .elt Unit 1 (fun _ => [.fn 90 []]) () [()] 0 0
def eaCat_row (l : List Cat) : SV := .row Cat 4 catC cat0 l
def eaCat_lit : Ctr := { A := Cat, enc := fun x => [.agg (catC x), eaCat_cap], dom := fun x => catD x, res := fun x _ => B (!(catOk x)), gl := tabS }
def eaCat_one : Ctr := { A := Cat, enc := fun x => [.agg (catC x)], dom := fun x => catD x, res := fun x _ => B (catOk x), gl := tabS }
theorem eaCat_lit_ok (h1 : CtrSound Tryz.prog 90 eaCat_one) : CtrSound Tryz.prog 119 eaCat_lit :=
  ctr_of_ax (env_okB tys_ok (eqs := []) trivial (cs := [(90, eaCat_one)]) ⟨h1, trivial⟩ (bs := []) trivial (gl := tabS)) mixed _ Tryz.func119 (by kernel_rfl) rfl (fun _ _ => Nat.le_of_ble_eq_true rfl) fun (x : Cat) id hd => by
    refine ⟨x, ⟨.refl _, trivial⟩, rfl, hd, ?_⟩
    exact ⟨.refl _, rfl⟩
def eaCat_ix : Ctr := { A := List Cat, enc := fun l => [eaCat_row l, .fn 119 [eaCat_cap]], dom := fun l => l.length ≤ 4611686018427387904 ∧ ∀ x ∈ l, catD x, res := fun l _ => I (ixF (fun x => !(catOk x)) l 0), gl := tabS }
theorem eaCat_ix_ok (h1 : CtrSound Tryz.prog 90 eaCat_one) : CtrSound Tryz.prog 134 eaCat_ix :=
  ctr_of_ax (env_okB tys_ok (eqs := []) trivial (cs := [(119, eaCat_lit)]) ⟨eaCat_lit_ok h1, trivial⟩ (bs := []) trivial (gl := tabS)) mixed _ Tryz.func134 (by kernel_rfl) rfl (fun _ _ => Nat.le_of_ble_eq_true rfl) fun (l : List Cat) id hd => by
    have hd1 : l.length ≤ 4611686018427387904 := hd.1
    refine ⟨Nat, fun i => [(0, eaCat_row l), (1, .fn 119 [eaCat_cap]), (7, I l.length), (8, I i)], fun _ => [], fun i => i ≤ l.length ∧ ixF (fun x => !(catOk x)) (l.drop i) i = ixF (fun x => !(catOk x)) l 0, fun i => l.length - i,
      ⟨0, ⟨Nat.zero_le _, rfl⟩, ⟨⟨rfl, rfl⟩, .refl _, .refl _, .refl _, .refl _, trivial⟩⟩, fun (i : Nat) hi => ?_⟩
    have hil := hi.1
    have hk := hi.2
    have hwj : IntKind.i64.wrap ((i : Int) + 1) = ((i + 1 : Nat) : Int) := by rw [wrap_eq _ (by omega) (by omega)]; omega
    refine ⟨fun h => ?_, fun h => ?_⟩
    · have hlt : i < l.length := by have := of_decide_eq_true h; omega
      rw [drop_at cat0 l i hlt] at hk
      refine ⟨⟨by omega, by omega⟩, ?_⟩
      refine ⟨l.getD i cat0, ⟨.refl _, .refl _, trivial⟩, rfl, hd.2 _ (getT_mem l cat0 i hlt), ?_⟩
      refine ⟨fun h => ?_, fun h => ?_⟩
      · exact ⟨.int (by rw [← hk, ixF, if_pos h]), rfl⟩
      · rw [ixF, if_neg (by rw [show (!(fun x => (catOk x)) (l.getD i cat0)) = false from h]; decide)] at hk
        exact ⟨i + 1, ⟨hlt, hk⟩, by show l.length - (i + 1) < l.length - i; omega, ⟨rfl, rfl⟩, .refl _, .refl _, .refl _, .int hwj, trivial⟩
    · have hge : i = l.length := by have := of_decide_eq_false h; omega
      subst hge
      rw [List.drop_length] at hk
      exact ⟨.int (by rw [← hk] <;> rfl), rfl⟩
def eaCat_has : Ctr := { A := List Cat, enc := fun l => [eaCat_row l, .fn 119 [eaCat_cap]], dom := fun l => l.length ≤ 4611686018427387904 ∧ ∀ x ∈ l, catD x, res := fun l _ => B (l.any (fun x => !(catOk x))), gl := tabS }
theorem eaCat_has_ok (h1 : CtrSound Tryz.prog 90 eaCat_one) : CtrSound Tryz.prog 118 eaCat_has :=
  ctr_of_ax (env_okB tys_ok (eqs := []) trivial (cs := [(134, eaCat_ix)]) ⟨eaCat_ix_ok h1, trivial⟩ (bs := []) trivial (gl := tabS)) mixed _ Tryz.func118 (by kernel_rfl) rfl (fun _ _ => Nat.le_of_ble_eq_true rfl) fun (l : List Cat) id hd => by
    refine ⟨l, ⟨.refl _, .refl _, trivial⟩, rfl, hd, ?_⟩
    exact ⟨.bool (by rw [← ixF_any] <;> rfl), rfl⟩
def eaCat_each : Ctr := { A := List Cat × Int, enc := fun x => [eaCat_row x.1, I x.2, .fn 90 []], dom := fun z => z.1.length ≤ 4611686018427387904 ∧ ∀ x ∈ z.1, catD x, res := fun z _ => B (decide ((z.1.length : Int) ≤ z.2) && z.1.all (fun x => (catOk x))), gl := tabS }
set_option maxRecDepth 100000 in
theorem eaCat_each_ok (h1 : CtrSound Tryz.prog 90 eaCat_one) : CtrSound Tryz.prog 89 eaCat_each :=
  ctr_of_ax (env_okB tys_ok (eqs := []) trivial (cs := [(118, eaCat_has)]) ⟨eaCat_has_ok h1, trivial⟩ (bs := []) trivial (gl := tabS)) mixed _ Tryz.func89 (by kernel_rfl) rfl (fun _ _ => Nat.le_of_ble_eq_true rfl) fun ((l, m) : List Cat × Int) id hd => by
    refine ⟨fun h => ?_, fun h => ?_⟩
    · refine ⟨l, ⟨.refl _, .refl _, trivial⟩, rfl, hd, ?_⟩
      exact ⟨.bool (by rw [show decide ((l.length : Int) ≤ m) = true from h, not_any_not]; rfl), rfl⟩
    · exact ⟨.bff (by rw [show decide ((l.length : Int) ≤ m) = false from h]; rfl), rfl⟩
def eaMeth_cap : SV := .elt Unit 1 (fun _ => [.fn 54 []]) () [()] 0 0
def eaMeth_row (l : List Meth) : SV := .row Meth 9 methC meth0 l
def eaMeth_lit : Ctr := { A := Meth, enc := fun x => [.agg (methC x), eaMeth_cap], dom := fun x => methD x, res := fun x _ => B (!(methOk x)), gl := tabS }
def eaMeth_one : Ctr := { A := Meth, enc := fun x => [.agg (methC x)], dom := fun x => methD x, res := fun x _ => B (methOk x), gl := tabS }
theorem eaMeth_lit_ok (h1 : CtrSound Tryz.prog 54 eaMeth_one) : CtrSound Tryz.prog 84 eaMeth_lit :=
  ctr_of_ax (env_okB tys_ok (eqs := []) trivial (cs := [(54, eaMeth_one)]) ⟨h1, trivial⟩ (bs := []) trivial (gl := tabS)) mixed _ Tryz.func84 (by kernel_rfl) rfl (fun _ _ => Nat.le_of_ble_eq_true rfl) fun (x : Meth) id hd => by
    refine ⟨x, ⟨.refl _, trivial⟩, rfl, hd, ?_⟩
    exact ⟨.refl _, rfl⟩
def eaMeth_ix : Ctr := { A := List Meth, enc := fun l => [eaMeth_row l, .fn 84 [eaMeth_cap]], dom := fun l => l.length ≤ 4611686018427387904 ∧ ∀ x ∈ l, methD x, res := fun l _ => I (ixF (fun x => !(methOk x)) l 0), gl := tabS }
theorem eaMeth_ix_ok (h1 : CtrSound Tryz.prog 54 eaMeth_one) : CtrSound Tryz.prog 111 eaMeth_ix :=
  ctr_of_ax (env_okB tys_ok (eqs := []) trivial (cs := [(84, eaMeth_lit)]) ⟨eaMeth_lit_ok h1, trivial⟩ (bs := []) trivial (gl := tabS)) mixed _ Tryz.func111 (by kernel_rfl) rfl (fun _ _ => Nat.le_of_ble_eq_true rfl) fun (l : List Meth) id hd => by
    have hd1 : l.length ≤ 4611686018427387904 := hd.1
    refine ⟨Nat, fun i => [(0, eaMeth_row l), (1, .fn 84 [eaMeth_cap]), (7, I l.length), (8, I i)], fun _ => [], fun i => i ≤ l.length ∧ ixF (fun x => !(methOk x)) (l.drop i) i = ixF (fun x => !(methOk x)) l 0, fun i => l.length - i,
      ⟨0, ⟨Nat.zero_le _, rfl⟩, ⟨⟨rfl, rfl⟩, .refl _, .refl _, .refl _, .refl _, trivial⟩⟩, fun (i : Nat) hi => ?_⟩
    have hil := hi.1
    have hk := hi.2
    have hwj : IntKind.i64.wrap ((i : Int) + 1) = ((i + 1 : Nat) : Int) := by rw [wrap_eq _ (by omega) (by omega)]; omega
    refine ⟨fun h => ?_, fun h => ?_⟩
    · have hlt : i < l.length := by have := of_decide_eq_true h; omega
      rw [drop_at meth0 l i hlt] at hk
      refine ⟨⟨by omega, by omega⟩, ?_⟩
      refine ⟨l.getD i meth0, ⟨.refl _, .refl _, trivial⟩, rfl, hd.2 _ (getT_mem l meth0 i hlt), ?_⟩
      refine ⟨fun h => ?_, fun h => ?_⟩
      · exact ⟨.int (by rw [← hk, ixF, if_pos h]), rfl⟩
      · rw [ixF, if_neg (by rw [show (!(fun x => (methOk x)) (l.getD i meth0)) = false from h]; decide)] at hk
        exact ⟨i + 1, ⟨hlt, hk⟩, by show l.length - (i + 1) < l.length - i; omega, ⟨rfl, rfl⟩, .refl _, .refl _, .refl _, .int hwj, trivial⟩
    · have hge : i = l.length := by have := of_decide_eq_false h; omega
      subst hge
      rw [List.drop_length] at hk
      exact ⟨.int (by rw [← hk] <;> rfl), rfl⟩
def eaMeth_has : Ctr := { A := List Meth, enc := fun l => [eaMeth_row l, .fn 84 [eaMeth_cap]], dom := fun l => l.length ≤ 4611686018427387904 ∧ ∀ x ∈ l, methD x, res := fun l _ => B (l.any (fun x => !(methOk x))), gl := tabS }
theorem eaMeth_has_ok (h1 : CtrSound Tryz.prog 54 eaMeth_one) : CtrSound Tryz.prog 83 eaMeth_has :=
  ctr_of_ax (env_okB tys_ok (eqs := []) trivial (cs := [(111, eaMeth_ix)]) ⟨eaMeth_ix_ok h1, trivial⟩ (bs := []) trivial (gl := tabS)) mixed _ Tryz.func83 (by kernel_rfl) rfl (fun _ _ => Nat.le_of_ble_eq_true rfl) fun (l : List Meth) id hd => by
    refine ⟨l, ⟨.refl _, .refl _, trivial⟩, rfl, hd, ?_⟩
    exact ⟨.bool (by rw [← ixF_any] <;> rfl), rfl⟩
def eaMeth_each : Ctr := { A := List Meth × Int, enc := fun x => [eaMeth_row x.1, I x.2, .fn 54 []], dom := fun z => z.1.length ≤ 4611686018427387904 ∧ ∀ x ∈ z.1, methD x, res := fun z _ => B (decide ((z.1.length : Int) ≤ z.2) && z.1.all (fun x => (methOk x))), gl := tabS }
set_option maxRecDepth 100000 in
theorem eaMeth_each_ok (h1 : CtrSound Tryz.prog 54 eaMeth_one) : CtrSound Tryz.prog 53 eaMeth_each :=
  ctr_of_ax (env_okB tys_ok (eqs := []) trivial (cs := [(83, eaMeth_has)]) ⟨eaMeth_has_ok h1, trivial⟩ (bs := []) trivial (gl := tabS)) mixed _ Tryz.func53 (by kernel_rfl) rfl (fun _ _ => Nat.le_of_ble_eq_true rfl) fun ((l, m) : List Meth × Int) id hd => by
    refine ⟨fun h => ?_, fun h => ?_⟩
    · refine ⟨l, ⟨.refl _, .refl _, trivial⟩, rfl, hd, ?_⟩
      exact ⟨.bool (by rw [show decide ((l.length : Int) ≤ m) = true from h, not_any_not]; rfl), rfl⟩
    · exact ⟨.bff (by rw [show decide ((l.length : Int) ≤ m) = false from h]; rfl), rfl⟩
def eaCls_cap : SV := .elt Unit 1 (fun _ => [.fn 32 []]) () [()] 0 0
def eaCls_row (l : List Cls) : SV := .row Cls 6 clsC cls0 l
def eaCls_lit : Ctr := { A := Cls, enc := fun x => [.agg (clsC x), eaCls_cap], dom := fun x => clsD x, res := fun x _ => B (!(clsOk x)), gl := tabS }
def eaCls_one : Ctr := { A := Cls, enc := fun x => [.agg (clsC x)], dom := fun x => clsD x, res := fun x _ => B (clsOk x), gl := tabS }
theorem eaCls_lit_ok (h1 : CtrSound Tryz.prog 32 eaCls_one) : CtrSound Tryz.prog 49 eaCls_lit :=
  ctr_of_ax (env_okB tys_ok (eqs := []) trivial (cs := [(32, eaCls_one)]) ⟨h1, trivial⟩ (bs := []) trivial (gl := tabS)) mixed _ Tryz.func49 (by kernel_rfl) rfl (fun _ _ => Nat.le_of_ble_eq_true rfl) fun (x : Cls) id hd => by
    refine ⟨x, ⟨.refl _, trivial⟩, rfl, hd, ?_⟩
    exact ⟨.refl _, rfl⟩
def eaCls_ix : Ctr := { A := List Cls, enc := fun l => [eaCls_row l, .fn 49 [eaCls_cap]], dom := fun l => l.length ≤ 4611686018427387904 ∧ ∀ x ∈ l, clsD x, res := fun l _ => I (ixF (fun x => !(clsOk x)) l 0), gl := tabS }
theorem eaCls_ix_ok (h1 : CtrSound Tryz.prog 32 eaCls_one) : CtrSound Tryz.prog 78 eaCls_ix :=
  ctr_of_ax (env_okB tys_ok (eqs := []) trivial (cs := [(49, eaCls_lit)]) ⟨eaCls_lit_ok h1, trivial⟩ (bs := []) trivial (gl := tabS)) mixed _ Tryz.func78 (by kernel_rfl) rfl (fun _ _ => Nat.le_of_ble_eq_true rfl) fun (l : List Cls) id hd => by
    have hd1 : l.length ≤ 4611686018427387904 := hd.1
    refine ⟨Nat, fun i => [(0, eaCls_row l), (1, .fn 49 [eaCls_cap]), (7, I l.length), (8, I i)], fun _ => [], fun i => i ≤ l.length ∧ ixF (fun x => !(clsOk x)) (l.drop i) i = ixF (fun x => !(clsOk x)) l 0, fun i => l.length - i,
      ⟨0, ⟨Nat.zero_le _, rfl⟩, ⟨⟨rfl, rfl⟩, .refl _, .refl _, .refl _, .refl _, trivial⟩⟩, fun (i : Nat) hi => ?_⟩
    have hil := hi.1
    have hk := hi.2
    have hwj : IntKind.i64.wrap ((i : Int) + 1) = ((i + 1 : Nat) : Int) := by rw [wrap_eq _ (by omega) (by omega)]; omega
    refine ⟨fun h => ?_, fun h => ?_⟩
    · have hlt : i < l.length := by have := of_decide_eq_true h; omega
      rw [drop_at cls0 l i hlt] at hk
      refine ⟨⟨by omega, by omega⟩, ?_⟩
      refine ⟨l.getD i cls0, ⟨.refl _, .refl _, trivial⟩, rfl, hd.2 _ (getT_mem l cls0 i hlt), ?_⟩
      refine ⟨fun h => ?_, fun h => ?_⟩
      · exact ⟨.int (by rw [← hk, ixF, if_pos h]), rfl⟩
      · rw [ixF, if_neg (by rw [show (!(fun x => (clsOk x)) (l.getD i cls0)) = false from h]; decide)] at hk
        exact ⟨i + 1, ⟨hlt, hk⟩, by show l.length - (i + 1) < l.length - i; omega, ⟨rfl, rfl⟩, .refl _, .refl _, .refl _, .int hwj, trivial⟩
    · have hge : i = l.length := by have := of_decide_eq_false h; omega
      subst hge
      rw [List.drop_length] at hk
      exact ⟨.int (by rw [← hk] <;> rfl), rfl⟩
def eaCls_has : Ctr := { A := List Cls, enc := fun l => [eaCls_row l, .fn 49 [eaCls_cap]], dom := fun l => l.length ≤ 4611686018427387904 ∧ ∀ x ∈ l, clsD x, res := fun l _ => B (l.any (fun x => !(clsOk x))), gl := tabS }
theorem eaCls_has_ok (h1 : CtrSound Tryz.prog 32 eaCls_one) : CtrSound Tryz.prog 48 eaCls_has :=
  ctr_of_ax (env_okB tys_ok (eqs := []) trivial (cs := [(78, eaCls_ix)]) ⟨eaCls_ix_ok h1, trivial⟩ (bs := []) trivial (gl := tabS)) mixed _ Tryz.func48 (by kernel_rfl) rfl (fun _ _ => Nat.le_of_ble_eq_true rfl) fun (l : List Cls) id hd => by
    refine ⟨l, ⟨.refl _, .refl _, trivial⟩, rfl, hd, ?_⟩
    exact ⟨.bool (by rw [← ixF_any] <;> rfl), rfl⟩
def eaCls_each : Ctr := { A := List Cls × Int, enc := fun x => [eaCls_row x.1, I x.2, .fn 32 []], dom := fun z => z.1.length ≤ 4611686018427387904 ∧ ∀ x ∈ z.1, clsD x, res := fun z _ => B (decide ((z.1.length : Int) ≤ z.2) && z.1.all (fun x => (clsOk x))), gl := tabS }
set_option maxRecDepth 100000 in
theorem eaCls_each_ok (h1 : CtrSound Tryz.prog 32 eaCls_one) : CtrSound Tryz.prog 31 eaCls_each :=
  ctr_of_ax (env_okB tys_ok (eqs := []) trivial (cs := [(48, eaCls_has)]) ⟨eaCls_has_ok h1, trivial⟩ (bs := []) trivial (gl := tabS)) mixed _ Tryz.func31 (by kernel_rfl) rfl (fun _ _ => Nat.le_of_ble_eq_true rfl) fun ((l, m) : List Cls × Int) id hd => by
    refine ⟨fun h => ?_, fun h => ?_⟩
    · refine ⟨l, ⟨.refl _, .refl _, trivial⟩, rfl, hd, ?_⟩
      exact ⟨.bool (by rw [show decide ((l.length : Int) ≤ m) = true from h, not_any_not]; rfl), rfl⟩
    · exact ⟨.bff (by rw [show decide ((l.length : Int) ≤ m) = false from h]; rfl), rfl⟩
end Go.Proofs.YtadimoijlgmecaaGreatDoor.Ax
/- Layer show: methods, classes, programs that can be shown. -/
set_option linter.unusedVariables false
set_option linter.unusedSimpArgs false
namespace Go.Proofs.YtadimoijlgmecaaGreatDoor.Ax
open Go Go.RowKit
theorem sz_len (s : ByteArray) : s.data.toList.length = s.size := by rw [Array.length_toList]; rfl
theorem eaStr_one_ok : CtrSound Tryz.prog 42 eaStr_one :=
  fresh_ok.weaken (c' := eaStr_one) (fun (x : ByteArray) => x.data.toList) (fun _ _ => rfl) (fun (x : ByteArray) h => by show x.data.toList.length ≤ _; rw [sz_len]; exact h) (fun _ _ _ => .refl _)
theorem eaTy_one_ok : CtrSound Tryz.prog 26 eaTy_one :=
  typed_ok.weaken (c' := eaTy_one) (fun (x : Ty) => (x.1, x.2.data.toList)) (fun _ _ => rfl) (fun (x : Ty) h => by show x.2.data.toList.length ≤ _; rw [sz_len]; exact h) (fun _ _ _ => .refl _)
theorem eaFld_one_ok : CtrSound Tryz.prog 52 eaFld_one :=
  field_ok.weaken (c' := eaFld_one) (fun (x : Fld) => (x.name.data.toList, x.type.1, x.type.2.data.toList, x.static)) (fun _ _ => rfl) (fun (x : Fld) h => ⟨by show x.name.data.toList.length ≤ _; rw [sz_len]; exact h.1, by show x.type.2.data.toList.length ≤ _; rw [sz_len]; exact h.2⟩) (fun _ _ _ => .refl _)
theorem eaIns_one_ok : CtrSound Tryz.prog 88 eaIns_one :=
  instr_ok.weaken (c' := eaIns_one) (fun (x : Ins) => (x.op, x.n, x.a.data.toList, x.b.data.toList)) (fun _ _ => rfl) (fun (x : Ins) h => ⟨by show x.a.data.toList.length ≤ _; rw [sz_len]; exact h.1, by show x.b.data.toList.length ≤ _; rw [sz_len]; exact h.2⟩) (fun _ _ _ => .refl _)
theorem eaCat_one_ok : CtrSound Tryz.prog 90 eaCat_one :=
  catch_ok.weaken (c' := eaCat_one) (fun (x : Cat) => (x.name.data.toList, x.fr, x.up, x.at')) (fun _ _ => rfl) (fun (x : Cat) h => by show x.name.data.toList.length ≤ _; rw [sz_len]; exact h) (fun _ _ _ => .refl _)
theorem len4 (n : Nat) : decide ((n : Int) ≤ 4) = decide (n ≤ 4) := decide_eq_decide.2 (by omega)
theorem len48 (n : Nat) : decide ((n : Int) ≤ 48) = decide (n ≤ 48) := decide_eq_decide.2 (by omega)
theorem len6 (n : Nat) : decide ((n : Int) ≤ 6) = decide (n ≤ 6) := decide_eq_decide.2 (by omega)
theorem len10 (n : Nat) : decide ((n : Int) ≤ 10) = decide (n ≤ 10) := decide_eq_decide.2 (by omega)
def methR (m : Meth) : Bool := freshW m.name && ((decide (m.params.length ≤ 4) && m.params.all tyOk) && (tyOk m.ret && (inF m.locals 0 8 && ((decide (m.code.length ≤ 48) && m.code.all insOk) && (decide (m.catches.length ≤ 4) && m.catches.all catOk)))))
def methL (m : Meth) : Bool := m.abs && (decide (m.locals ≠ 0) || decide (m.code.length + m.catches.length > 0))
theorem methOk_eq (m : Meth) : methOk m = (!methL m && methR m) := rfl
set_option maxRecDepth 100000 in
theorem eaMeth_one_ok : CtrSound Tryz.prog 54 eaMeth_one :=
  ctr_of_ax (env_okB tys_ok (eqs := []) trivial (cs := [(42, eaStr_one), (26, eaTy_one), (86, inC), (85, eaTy_each), (87, eaIns_each), (89, eaCat_each)]) ⟨eaStr_one_ok, eaTy_one_ok, in_ok, eaTy_each_ok eaTy_one_ok, eaIns_each_ok eaIns_one_ok, eaCat_each_ok eaCat_one_ok, trivial⟩ (bs := []) trivial (gl := tabS)) mixed _ Tryz.func54 (by kernel_rfl) rfl (fun _ _ => Nat.le_of_ble_eq_true rfl) fun (m : Meth) id hd => by
    obtain ⟨hd1, hd2, hd3, hd4, hd5⟩ : methD m := hd
    have hadd : IntKind.i64.wrap ((m.code.length : Int) + (m.catches.length : Int)) = ((m.code.length + m.catches.length : Nat) : Int) := by rw [wrap_eq _ (by omega) (by omega)]; omega
    have bad : methL m = true → methOk m = false := fun h => by rw [methOk_eq, h]; rfl
    have good : methL m = false → methOk m = methR m := fun h => by rw [methOk_eq, h]; simp
    have hl0 : (m.locals != 0) = false → decide (m.locals ≠ 0) = false := fun h => by simpa using h
    have ha : m.abs = true → (m.locals != 0) = false → decide (IntKind.i64.wrap ((m.code.length : Int) + (m.catches.length : Int)) > 0) = false → methOk m = methR m := fun h1 h2 h3 => good (by
      have h3 := of_decide_eq_false h3
      rw [hadd] at h3
      unfold methL
      rw [hl0 h2, decide_eq_false (by omega)]; simp)
    have hb : m.abs = false → methOk m = methR m := fun h => good (by unfold methL; rw [h]; rfl)
    have fin : methOk m = methR m → ∀ b, b = methR m → Sub (B b) (B (methOk m)) := fun h b hb => by rw [h, hb]; exact .refl _
    refine ⟨fun h1 => ⟨fun h2 => ⟨.bff (bad (by unfold methL; rw [show m.abs = true from h1, show decide (m.locals ≠ 0) = true from by simpa using h2]; rfl)), rfl⟩, fun h2 => ⟨fun h3 => ⟨.bff (bad (by
        have h3 : decide (IntKind.i64.wrap ((m.code.length : Int) + (m.catches.length : Int)) > 0) = true := h3
        have h3 := of_decide_eq_true h3
        rw [hadd] at h3
        unfold methL
        rw [show m.abs = true from h1, show decide (m.code.length + m.catches.length > 0) = true from decide_eq_true (by omega)]; simp)), rfl⟩, fun h3 => ?_⟩⟩, fun h1 => ?_⟩
    all_goals
      have hg : methOk m = methR m := by first | exact ha h1 h2 h3 | exact hb h1
      refine ⟨m.name, ⟨.refl _, trivial⟩, rfl, hd1, ?_⟩
      refine ⟨fun k1 => ?_, fun k1 => ⟨.bff (by rw [hg]; unfold methR; rw [show freshW m.name = false from k1]; rfl), rfl⟩⟩
      refine ⟨(m.params, 4), ⟨.refl _, .refl _, .refl _, trivial⟩, rfl, ⟨(show m.params.length ≤ 4611686018427387904 by omega), hd3.2⟩, ?_⟩
      refine ⟨fun k2 => ?_, fun k2 => ⟨.bff (by rw [hg]; unfold methR; rw [← len4, show (decide ((m.params.length : Int) ≤ 4) && m.params.all tyOk) = false from k2]; simp), rfl⟩⟩
      refine ⟨m.ret, ⟨.refl _, trivial⟩, rfl, hd2, ?_⟩
      refine ⟨fun k3 => ?_, fun k3 => ⟨.bff (by rw [hg]; unfold methR; rw [show tyOk m.ret = false from k3]; simp), rfl⟩⟩
      refine ⟨(m.locals, 0, 8), ⟨.refl _, .refl _, .refl _, trivial⟩, rfl, trivial, ?_⟩
      refine ⟨fun k4 => ?_, fun k4 => ⟨.bff (by rw [hg]; unfold methR; rw [show inF m.locals 0 8 = false from k4]; simp), rfl⟩⟩
      refine ⟨(m.code, 48), ⟨.refl _, .refl _, .refl _, trivial⟩, rfl, ⟨(show m.code.length ≤ 4611686018427387904 by omega), hd4.2⟩, ?_⟩
      refine ⟨fun k5 => ?_, fun k5 => ⟨.bff (by rw [hg]; unfold methR; rw [← len48, show (decide ((m.code.length : Int) ≤ 48) && m.code.all insOk) = false from k5]; simp), rfl⟩⟩
      refine ⟨(m.catches, 4), ⟨.refl _, .refl _, .refl _, trivial⟩, rfl, ⟨(show m.catches.length ≤ 4611686018427387904 by omega), hd5.2⟩, ?_⟩
      refine ⟨fin hg _ ?_, rfl⟩
      unfold methR
      rw [← len4, ← len48, ← len4]
      rw [show freshW m.name = true from k1, show (decide ((m.params.length : Int) ≤ 4) && m.params.all tyOk) = true from k2, show tyOk m.ret = true from k3, show inF m.locals 0 8 = true from k4, show (decide ((m.code.length : Int) ≤ 48) && m.code.all insOk) = true from k5]
      rfl
set_option maxRecDepth 100000 in
theorem eaCls_one_ok : CtrSound Tryz.prog 32 eaCls_one :=
  ctr_of_ax (env_okB tys_ok (eqs := []) trivial (cs := [(42, eaStr_one), (50, eaStr_each), (51, eaFld_each), (53, eaMeth_each)]) ⟨eaStr_one_ok, eaStr_each_ok eaStr_one_ok, eaFld_each_ok eaFld_one_ok, eaMeth_each_ok eaMeth_one_ok, trivial⟩ (bs := []) trivial (gl := tabS)) mixed _ Tryz.func32 (by kernel_rfl) rfl (fun _ _ => Nat.le_of_ble_eq_true rfl) fun (c : Cls) id hd => by
    obtain ⟨hd1, hd2, hd3, hd4, hd5⟩ : clsD c := hd
    have hns : (c.super.toList == (⟨#[]⟩ : ByteArray).toList) = decide (c.super = noS) := ba_eq _ _
    have e0 : (decide (c.super = noS) || (!c.iface && freshW c.super)) = true → clsOk c = (freshW c.name && ((decide (c.ifaces.length ≤ 4) && c.ifaces.all freshW) && ((decide (c.fields.length ≤ 6) && c.fields.all fldOk) && (decide (c.methods.length ≤ 6) && c.methods.all methOk)))) := fun h => by unfold clsOk; rw [h]; simp
    have e1 : (decide (c.super = noS) || (!c.iface && freshW c.super)) = false → clsOk c = false := fun h => by unfold clsOk; rw [h]; simp
    have nm : freshW c.name = false → clsOk c = false := fun h => by unfold clsOk; rw [h]; rfl
    have rest : (decide (c.super = noS) || (!c.iface && freshW c.super)) = true → freshW c.name = true → ∀ b, b = ((decide (c.ifaces.length ≤ 4) && c.ifaces.all freshW) && ((decide (c.fields.length ≤ 6) && c.fields.all fldOk) && (decide (c.methods.length ≤ 6) && c.methods.all methOk))) → b = clsOk c := fun h h2 b hb => by rw [e0 h, h2, hb]; rfl
    have bad : ∀ (h : (decide (c.super = noS) || (!c.iface && freshW c.super)) = true) (h2 : freshW c.name = true), ((decide (c.ifaces.length ≤ 4) && c.ifaces.all freshW) && ((decide (c.fields.length ≤ 6) && c.fields.all fldOk) && (decide (c.methods.length ≤ 6) && c.methods.all methOk))) = false → clsOk c = false := fun h h2 h3 => by rw [e0 h, h2, h3]; rfl
    refine ⟨fun k1 => ?_, fun k1 => ⟨fun k2 => ?_, fun k2 => ?_⟩⟩
    · have s1 : (decide (c.super = noS) || (!c.iface && freshW c.super)) = true := by rw [← hns, show (c.super.toList == (⟨#[]⟩ : ByteArray).toList) = true from k1]; rfl
      refine ⟨c.name, ⟨.refl _, trivial⟩, rfl, hd1, ?_⟩
      refine ⟨fun k3 => ?_, fun k3 => ⟨.bff (nm k3), rfl⟩⟩
      refine ⟨(c.ifaces, 4), ⟨.refl _, .refl _, .refl _, trivial⟩, rfl, ⟨(show c.ifaces.length ≤ 4611686018427387904 by omega), hd3.2⟩, ?_⟩
      refine ⟨fun k5 => ?_, fun k5 => ⟨.bff (bad s1 k3 (by rw [← len4, show (decide ((c.ifaces.length : Int) ≤ 4) && c.ifaces.all freshW) = false from k5]; rfl)), rfl⟩⟩
      refine ⟨(c.fields, 6), ⟨.refl _, .refl _, .refl _, trivial⟩, rfl, ⟨(show c.fields.length ≤ 4611686018427387904 by omega), hd4.2⟩, ?_⟩
      refine ⟨fun k6 => ?_, fun k6 => ⟨.bff (bad s1 k3 (by rw [← len6 c.fields.length, show (decide ((c.fields.length : Int) ≤ 6) && c.fields.all fldOk) = false from k6]; simp)), rfl⟩⟩
      refine ⟨(c.methods, 6), ⟨.refl _, .refl _, .refl _, trivial⟩, rfl, ⟨(show c.methods.length ≤ 4611686018427387904 by omega), hd5.2⟩, ?_⟩
      refine ⟨.bool (rest s1 k3 _ ?_), rfl⟩
      rw [← len4, ← len6 c.fields.length, ← len6 c.methods.length, show (decide ((c.ifaces.length : Int) ≤ 4) && c.ifaces.all freshW) = true from k5, show (decide ((c.fields.length : Int) ≤ 6) && c.fields.all fldOk) = true from k6]
      rfl
    · refine ⟨c.super, ⟨.refl _, trivial⟩, rfl, hd2, ?_⟩
      refine ⟨c.name, ⟨.refl _, trivial⟩, rfl, hd1, ?_⟩
      refine ⟨fun k3 => ?_, fun k3 => ⟨.bff (nm k3), rfl⟩⟩
      have hs : (decide (c.super = noS) || (!c.iface && freshW c.super)) = freshW c.super := by rw [← hns, show (c.super.toList == (⟨#[]⟩ : ByteArray).toList) = false from k1, show (!c.iface) = true from k2]; rfl
      refine ⟨fun k4 => ?_, fun k4 => ⟨.bff (e1 (hs.trans k4)), rfl⟩⟩
      have s1 := hs.trans k4
      refine ⟨(c.ifaces, 4), ⟨.refl _, .refl _, .refl _, trivial⟩, rfl, ⟨(show c.ifaces.length ≤ 4611686018427387904 by omega), hd3.2⟩, ?_⟩
      refine ⟨fun k5 => ?_, fun k5 => ⟨.bff (bad s1 k3 (by rw [← len4, show (decide ((c.ifaces.length : Int) ≤ 4) && c.ifaces.all freshW) = false from k5]; rfl)), rfl⟩⟩
      refine ⟨(c.fields, 6), ⟨.refl _, .refl _, .refl _, trivial⟩, rfl, ⟨(show c.fields.length ≤ 4611686018427387904 by omega), hd4.2⟩, ?_⟩
      refine ⟨fun k6 => ?_, fun k6 => ⟨.bff (bad s1 k3 (by rw [← len6 c.fields.length, show (decide ((c.fields.length : Int) ≤ 6) && c.fields.all fldOk) = false from k6]; simp)), rfl⟩⟩
      refine ⟨(c.methods, 6), ⟨.refl _, .refl _, .refl _, trivial⟩, rfl, ⟨(show c.methods.length ≤ 4611686018427387904 by omega), hd5.2⟩, ?_⟩
      refine ⟨.bool (rest s1 k3 _ ?_), rfl⟩
      rw [← len4, ← len6 c.fields.length, ← len6 c.methods.length, show (decide ((c.ifaces.length : Int) ≤ 4) && c.ifaces.all freshW) = true from k5, show (decide ((c.fields.length : Int) ≤ 6) && c.fields.all fldOk) = true from k6]
      rfl
    · have hs : (decide (c.super = noS) || (!c.iface && freshW c.super)) = false := by rw [← hns, show (c.super.toList == (⟨#[]⟩ : ByteArray).toList) = false from k1, show (!c.iface) = false from k2]; rfl
      refine ⟨c.name, ⟨.refl _, trivial⟩, rfl, hd1, ?_⟩
      refine ⟨fun k3 => ⟨.bff (e1 hs), rfl⟩, fun k3 => ⟨.bff (nm k3), rfl⟩⟩
def okC : Ctr := { A := List Cls, enc := fun p => [.agg [prgR p]], dom := prgD, res := fun p _ => I (if prgOk p then 0 else 4), gl := tabS }
set_option maxRecDepth 100000 in
theorem ok_ok : CtrSound Tryz.prog 14 okC :=
  ctr_of_ax (env_okB tys_ok (eqs := []) trivial (cs := [(31, eaCls_each)]) ⟨eaCls_each_ok eaCls_one_ok, trivial⟩ (bs := []) trivial (gl := tabS)) mixed _ Tryz.func14 (by kernel_rfl) rfl (fun _ _ => Nat.le_of_ble_eq_true rfl) fun (p : List Cls) id hd => by
    have hd : prgD p := hd
    have hd1 := hd.1
    refine ⟨(p, 10), ⟨.refl _, .refl _, .refl _, trivial⟩, rfl, ⟨(show p.length ≤ 4611686018427387904 by omega), hd.2⟩, ?_⟩
    refine ⟨fun h => ?_, fun h => ?_⟩
    · have h : (!(decide ((p.length : Int) ≤ 10) && p.all clsOk)) = true := h
      rw [len10] at h
      exact ⟨.int (by show (4 : Int) = if prgOk p then 0 else 4; rw [if_neg (by intro c; have c : (decide (p.length ≤ 10) && p.all clsOk) = true := c; rw [c] at h; cases h)]), rfl⟩
    · have h : (!(decide ((p.length : Int) ≤ 10) && p.all clsOk)) = false := h
      rw [len10] at h
      exact ⟨.int (by show (0 : Int) = if prgOk p then 0 else 4; rw [if_pos (by unfold prgOk; simpa using h)]), rfl⟩
end Go.Proofs.YtadimoijlgmecaaGreatDoor.Ax
/- Layer show: the words of lists and instructions. PRINTED by wip/sp/sk.py. -/
set_option linter.unusedVariables false
set_option linter.unusedSimpArgs false
namespace Go.Proofs.YtadimoijlgmecaaGreatDoor.Ax
open Go Go.RowKit
def itoaS : Ctr := { A := Int, enc := fun x => [I x], dom := fun x => -9223372036854775808 ≤ x ∧ x ≤ 9223372036854775807, res := fun x _ => S (dig x), gl := tabS }
theorem itoaS_ok : CtrSound Tryz.prog 70 itoaS := by
  refine ctr_pure ⟨_, Tryz.func70, by kernel_rfl, by kernel_rfl⟩ fun x H w vs id hd hgl hs hn hg => ?_
  obtain ⟨u, rfl, h1⟩ := args1 hn hg
  rw [gval' h1]
  refine (Tryz.strconv_Itoa x hd.1 hd.2 w hgl.1).mono ?_
  rintro e w' ⟨rfl, k, os, rfl⟩
  refine ⟨_, rfl, ?_, .val _⟩
  refine ⟨rfl, rfl, rfl, by simp [Sort.grow, World.drewN], fun i hi => ?_⟩
  show (w.heap ++ os)[i]? = w.heap[i]?
  exact Array.getElem?_append_left hi
theorem flat_snoc {α β : Type} (g : α → List β) (l : List α) (d : α) (i : Nat) (h : i < l.length) : (l.take (i + 1)).flatMap g = (l.take i).flatMap g ++ g (l.getD i d) := by
  rw [takeT l d i h, List.flatMap_append]; simp
theorem listF_snoc (w : ByteArray) (l : List ByteArray) (i : Nat) (h : i < l.length) : listF w (l.take (i + 1)) = listF w (l.take i) ++ [if i = 0 then w else wComma, l.getD i noS] := by
  cases l with
  | nil => simp at h
  | cons s r =>
    cases i with
    | zero => simp [listF]
    | succ i =>
      simp only [List.length_cons] at h
      simp only [List.take_succ_cons, listF, List.getD_cons_succ]
      rw [flat_snoc _ r noS i (by omega), if_neg (by omega)]
      simp
theorem listF_len (w : ByteArray) (l : List ByteArray) : (listF w l).length = 2 * l.length := by
  cases l with
  | nil => rfl
  | cons s r =>
    have : ∀ r : List ByteArray, (r.flatMap fun x => [wComma, x]).length = 2 * r.length := by
      intro r
      induction r with
      | nil => rfl
      | cons a r ih => simp only [List.flatMap_cons, List.length_append, ih, List.length_cons, List.length_nil]; omega
    simp only [listF, List.length_append, List.length_cons, List.length_nil, this]
    omega
def listC : Ctr := { A := ByteArray × List ByteArray, enc := fun x => [S x.1, .row ByteArray 1 strC noS x.2], dom := fun x => x.2.length ≤ 100000, res := fun x id => .own ByteArray 1 strC noS (listF x.1 x.2) id }
set_option maxRecDepth 100000 in
theorem list_ok : CtrSound Tryz.prog 39 listC :=
  ctr_of_ax (env_okB tys_ok (eqs := []) trivial (cs := []) trivial (bs := []) trivial) mixed _ Tryz.func39 (by kernel_rfl) rfl (fun _ _ => Nat.le_of_ble_eq_true rfl) fun ((w, l) : ByteArray × List ByteArray) id hd => by
    have hd : l.length ≤ 100000 := hd
    refine ⟨Nat, fun i => [(0, S w), (11, I i), (5, .own ByteArray 1 strC noS (listF w (l.take i)) 23), (9, .row ByteArray 1 strC noS l), (10, I l.length)], fun _ => [], fun i => i ≤ l.length, fun i => l.length - i, ⟨0, Nat.zero_le _, ⟨⟨rfl, rfl⟩, .refl _, .refl _, .nilO .., .refl _, .refl _, trivial⟩⟩, fun (i : Nat) hi => ?_⟩
    have h1 : i ≤ l.length := hi
    have hwj : IntKind.i64.wrap ((i : Int) + 1) = ((i + 1 : Nat) : Int) := by rw [wrap_eq _ (by omega) (by omega)]; omega
    have hb := listF_len w (l.take i)
    rw [List.length_take] at hb
    refine ⟨fun h => ?_, fun h => ?_⟩
    · have hlt : i < l.length := by have := of_decide_eq_true h; omega
      have hs := listF_snoc w l i hlt
      refine ⟨⟨by omega, by omega⟩, ?_⟩
      refine ⟨fun h3 => ?_, fun h3 => ?_⟩
      · have h0 : i = 0 := by have : (i : Int) = 0 := eqT h3
                              omega
        rw [if_pos h0] at hs
        refine ⟨ByteArray, strC, noS, [w, l.getD i noS], ⟨rfl, fun _ => rfl⟩, ⟨.refl _, .refl _, trivial⟩, rfl, ?_⟩
        refine ⟨ByteArray, strC, noS, listF w (l.take i), [w, l.getD i noS], 23, ⟨.refl _, .own ..⟩, fun _ => rfl, (by simp only [List.length_cons, List.length_nil, hb]; omega), ?_⟩
        exact ⟨i + 1, hlt, by show l.length - (i + 1) < l.length - i; omega, ⟨rfl, rfl⟩, .refl _, .int hwj, .ownEq hs.symm, .refl _, .refl _, trivial⟩
      · have h0 : ¬ i = 0 := fun c => by have : (i : Int) ≠ 0 := eqF h3
                                         omega
        rw [if_neg h0] at hs
        refine ⟨ByteArray, strC, noS, [wComma, l.getD i noS], ⟨rfl, fun _ => rfl⟩, ⟨.refl _, .refl _, trivial⟩, rfl, ?_⟩
        refine ⟨ByteArray, strC, noS, listF w (l.take i), [wComma, l.getD i noS], 23, ⟨.refl _, .own ..⟩, fun _ => rfl, (by simp only [List.length_cons, List.length_nil, hb]; omega), ?_⟩
        exact ⟨i + 1, hlt, by show l.length - (i + 1) < l.length - i; omega, ⟨rfl, rfl⟩, .refl _, .int hwj, .ownEq hs.symm, .refl _, .refl _, trivial⟩
    · have hge : i = l.length := by have := of_decide_eq_false h; omega
      exact ⟨.ownEq (by rw [hge, List.take_length]), rfl⟩
def someW (s : ByteArray) : List ByteArray := if s = noS then [] else [s]
theorem codeF_eq (x : Ins) : codeF x = ([wordF2 x.op] ++ (if (numsF x.op).2.2 then [dig x.n] else [])) ++ (([x.a, x.b].take 2).flatMap someW) ++ [wSemi] := by
  unfold codeF someW; simp
def codeC : Ctr := { A := Ins, enc := fun x => [.agg (insC x)], dom := fun x => -9223372036854775808 ≤ x.n ∧ x.n ≤ 9223372036854775807, res := fun x id => .own ByteArray 1 strC noS (codeF x) id, gl := tabS }
theorem someW_len (l : List ByteArray) : (l.flatMap someW).length ≤ l.length := by
  induction l with
  | nil => simp
  | cons a r ih => simp only [List.flatMap_cons, List.length_append, List.length_cons]; have : (someW a).length ≤ 1 := by unfold someW; split <;> simp
                   omega
set_option maxRecDepth 100000 in
theorem code_ok : CtrSound Tryz.prog 71 codeC :=
  ctr_of_ax (env_okB tys_ok (eqs := []) trivial (cs := [(104, pwordC), (105, numsC), (70, itoaS)]) ⟨pword_ok, nums_ok, itoaS_ok, trivial⟩ (bs := []) trivial (gl := tabS)) mixed _ Tryz.func71 (by kernel_rfl) rfl (fun _ _ => Nat.le_of_ble_eq_true rfl) fun (x : Ins) id hd => by
    have hd : -9223372036854775808 ≤ x.n ∧ x.n ≤ 9223372036854775807 := hd
    refine ⟨x.op, ⟨.refl _, trivial⟩, rfl, trivial, ?_⟩
    refine ⟨ByteArray, strC, noS, [wordF2 x.op], ⟨rfl, fun _ => rfl⟩, ⟨.refl _, trivial⟩, rfl, ?_⟩
    refine ⟨x.op, ⟨.refl _, trivial⟩, rfl, trivial, ?_⟩
    refine ⟨fun hq => ?_, fun hq => ?_⟩
    · have hq : (numsF x.op).2.2 = true := hq
      refine ⟨x.n, ⟨.refl _, trivial⟩, rfl, hd, ?_⟩
      refine ⟨ByteArray, strC, noS, [dig x.n], ⟨rfl, fun _ => rfl⟩, ⟨.refl _, trivial⟩, rfl, ?_⟩
      refine ⟨ByteArray, strC, noS, [wordF2 x.op], [dig x.n], 12, ⟨.refl _, .own ..⟩, fun _ => rfl, (by simp only [List.length_cons, List.length_nil]; omega), ?_⟩
      refine ⟨ByteArray, strC, noS, [x.a, x.b], ⟨rfl, fun _ => rfl⟩, ⟨.refl _, .refl _, trivial⟩, rfl, ?_⟩
      refine ⟨Nat × Bool, fun s => [(3, .own ByteArray 1 strC noS (([wordF2 x.op] ++ [dig x.n]) ++ ([x.a, x.b].take s.1).flatMap someW) (if s.2 then 42 else 26)), (31, .row ByteArray 1 strC noS [x.a, x.b]), (33, I s.1), (32, I 2)], fun _ => [], fun s => s.1 ≤ 2, fun s => 2 - s.1, ⟨(0, false), Nat.zero_le _, ⟨⟨rfl, rfl⟩, .ownEq (by simp), .own .., .refl _, .refl _, trivial⟩⟩, fun ((i, b) : Nat × Bool) hi => ?_⟩
      have hi : i ≤ 2 := hi
      have hwj : IntKind.i64.wrap ((i : Int) + 1) = ((i + 1 : Nat) : Int) := by rw [wrap_eq _ (by omega) (by omega)]; omega
      have hl := someW_len ([x.a, x.b].take i)
      have hl2 : ([x.a, x.b].take i).length ≤ 2 := by rw [List.length_take]; simp; omega
      cases b
      case false =>
        refine ⟨fun h => ?_, fun h => ?_⟩
        · have hlt : i < [x.a, x.b].length := by have := of_decide_eq_true h; simp only [List.length_cons, List.length_nil]; omega
          have hs := flat_snoc someW [x.a, x.b] noS i hlt
          have hlt2 : i < 2 := hlt
          refine ⟨⟨by omega, by simp only [List.length_cons, List.length_nil]; omega⟩, ?_⟩
          have hne : (!(([x.a, x.b].getD i noS).toList == (⟨#[]⟩ : ByteArray).toList)) = !decide ([x.a, x.b].getD i noS = noS) := by rw [ba_eq]
          refine ⟨fun h3 => ?_, fun h3 => ?_⟩
          · have h3 : ¬ [x.a, x.b].getD i noS = noS := by have h3 : (!(([x.a, x.b].getD i noS).toList == (⟨#[]⟩ : ByteArray).toList)) = true := h3
                                                          rw [hne] at h3; simpa using h3
            have hs2 : someW ([x.a, x.b].getD i noS) = [[x.a, x.b].getD i noS] := if_neg h3
            rw [hs2] at hs
            refine ⟨ByteArray, strC, noS, [[x.a, x.b].getD i noS], ⟨rfl, fun _ => rfl⟩, ⟨.refl _, trivial⟩, rfl, ?_⟩
            refine ⟨ByteArray, strC, noS, ([wordF2 x.op] ++ [dig x.n]) ++ ([x.a, x.b].take i).flatMap someW, [[x.a, x.b].getD i noS], 26, ⟨.refl _, .own ..⟩, fun _ => rfl, (by simp only [List.length_append, List.length_cons, List.length_nil]; omega), ?_⟩
            exact ⟨(i + 1, true), (show i + 1 ≤ 2 by omega), by show 2 - (i + 1) < 2 - i; omega, ⟨rfl, rfl⟩, .ownEq (by rw [hs, List.append_assoc]), .refl _, .int hwj, .refl _, trivial⟩
          · have h3 : [x.a, x.b].getD i noS = noS := by have h3 : (!(([x.a, x.b].getD i noS).toList == (⟨#[]⟩ : ByteArray).toList)) = false := h3
                                                        rw [hne] at h3; simpa using h3
            have hs2 : someW ([x.a, x.b].getD i noS) = [] := if_pos h3
            rw [hs2, List.append_nil] at hs
            exact ⟨(i + 1, false), (show i + 1 ≤ 2 by omega), by show 2 - (i + 1) < 2 - i; omega, ⟨rfl, rfl⟩, .ownEq (by rw [hs]), .refl _, .int hwj, .refl _, trivial⟩
        · have hge : i = 2 := by have := of_decide_eq_false h; omega
          subst hge
          refine ⟨ByteArray, strC, noS, [wSemi], ⟨rfl, fun _ => rfl⟩, ⟨.refl _, trivial⟩, rfl, ?_⟩
          refine ⟨ByteArray, strC, noS, ([wordF2 x.op] ++ [dig x.n]) ++ ([x.a, x.b].take 2).flatMap someW, [wSemi], 26, ⟨.refl _, .own ..⟩, fun _ => rfl, (by simp only [List.length_append, List.length_cons, List.length_nil]; omega), ?_⟩
          exact ⟨.ownEq (by rw [codeF_eq]; rw [if_pos hq]), rfl⟩
      case true =>
        refine ⟨fun h => ?_, fun h => ?_⟩
        · have hlt : i < [x.a, x.b].length := by have := of_decide_eq_true h; simp only [List.length_cons, List.length_nil]; omega
          have hs := flat_snoc someW [x.a, x.b] noS i hlt
          have hlt2 : i < 2 := hlt
          refine ⟨⟨by omega, by simp only [List.length_cons, List.length_nil]; omega⟩, ?_⟩
          have hne : (!(([x.a, x.b].getD i noS).toList == (⟨#[]⟩ : ByteArray).toList)) = !decide ([x.a, x.b].getD i noS = noS) := by rw [ba_eq]
          refine ⟨fun h3 => ?_, fun h3 => ?_⟩
          · have h3 : ¬ [x.a, x.b].getD i noS = noS := by have h3 : (!(([x.a, x.b].getD i noS).toList == (⟨#[]⟩ : ByteArray).toList)) = true := h3
                                                          rw [hne] at h3; simpa using h3
            have hs2 : someW ([x.a, x.b].getD i noS) = [[x.a, x.b].getD i noS] := if_neg h3
            rw [hs2] at hs
            refine ⟨ByteArray, strC, noS, [[x.a, x.b].getD i noS], ⟨rfl, fun _ => rfl⟩, ⟨.refl _, trivial⟩, rfl, ?_⟩
            refine ⟨ByteArray, strC, noS, ([wordF2 x.op] ++ [dig x.n]) ++ ([x.a, x.b].take i).flatMap someW, [[x.a, x.b].getD i noS], 42, ⟨.refl _, .own ..⟩, fun _ => rfl, (by simp only [List.length_append, List.length_cons, List.length_nil]; omega), ?_⟩
            exact ⟨(i + 1, true), (show i + 1 ≤ 2 by omega), by show 2 - (i + 1) < 2 - i; omega, ⟨rfl, rfl⟩, .ownEq (by rw [hs, List.append_assoc]), .refl _, .int hwj, .refl _, trivial⟩
          · have h3 : [x.a, x.b].getD i noS = noS := by have h3 : (!(([x.a, x.b].getD i noS).toList == (⟨#[]⟩ : ByteArray).toList)) = false := h3
                                                        rw [hne] at h3; simpa using h3
            have hs2 : someW ([x.a, x.b].getD i noS) = [] := if_pos h3
            rw [hs2, List.append_nil] at hs
            exact ⟨(i + 1, true), (show i + 1 ≤ 2 by omega), by show 2 - (i + 1) < 2 - i; omega, ⟨rfl, rfl⟩, .ownEq (by rw [hs]), .refl _, .int hwj, .refl _, trivial⟩
        · have hge : i = 2 := by have := of_decide_eq_false h; omega
          subst hge
          refine ⟨ByteArray, strC, noS, [wSemi], ⟨rfl, fun _ => rfl⟩, ⟨.refl _, trivial⟩, rfl, ?_⟩
          refine ⟨ByteArray, strC, noS, ([wordF2 x.op] ++ [dig x.n]) ++ ([x.a, x.b].take 2).flatMap someW, [wSemi], 42, ⟨.refl _, .own ..⟩, fun _ => rfl, (by simp only [List.length_append, List.length_cons, List.length_nil]; omega), ?_⟩
          exact ⟨.ownEq (by rw [codeF_eq]; rw [if_pos hq]), rfl⟩
    · have hq : (numsF x.op).2.2 = false := hq
      refine ⟨ByteArray, strC, noS, [x.a, x.b], ⟨rfl, fun _ => rfl⟩, ⟨.refl _, .refl _, trivial⟩, rfl, ?_⟩
      refine ⟨Nat × Bool, fun s => [(3, .own ByteArray 1 strC noS ([wordF2 x.op] ++ ([x.a, x.b].take s.1).flatMap someW) (if s.2 then 42 else 12)), (31, .row ByteArray 1 strC noS [x.a, x.b]), (33, I s.1), (32, I 2)], fun _ => [], fun s => s.1 ≤ 2, fun s => 2 - s.1, ⟨(0, false), Nat.zero_le _, ⟨⟨rfl, rfl⟩, .ownEq (by simp), .own .., .refl _, .refl _, trivial⟩⟩, fun ((i, b) : Nat × Bool) hi => ?_⟩
      have hi : i ≤ 2 := hi
      have hwj : IntKind.i64.wrap ((i : Int) + 1) = ((i + 1 : Nat) : Int) := by rw [wrap_eq _ (by omega) (by omega)]; omega
      have hl := someW_len ([x.a, x.b].take i)
      have hl2 : ([x.a, x.b].take i).length ≤ 2 := by rw [List.length_take]; simp; omega
      cases b
      case false =>
        refine ⟨fun h => ?_, fun h => ?_⟩
        · have hlt : i < [x.a, x.b].length := by have := of_decide_eq_true h; simp only [List.length_cons, List.length_nil]; omega
          have hs := flat_snoc someW [x.a, x.b] noS i hlt
          have hlt2 : i < 2 := hlt
          refine ⟨⟨by omega, by simp only [List.length_cons, List.length_nil]; omega⟩, ?_⟩
          have hne : (!(([x.a, x.b].getD i noS).toList == (⟨#[]⟩ : ByteArray).toList)) = !decide ([x.a, x.b].getD i noS = noS) := by rw [ba_eq]
          refine ⟨fun h3 => ?_, fun h3 => ?_⟩
          · have h3 : ¬ [x.a, x.b].getD i noS = noS := by have h3 : (!(([x.a, x.b].getD i noS).toList == (⟨#[]⟩ : ByteArray).toList)) = true := h3
                                                          rw [hne] at h3; simpa using h3
            have hs2 : someW ([x.a, x.b].getD i noS) = [[x.a, x.b].getD i noS] := if_neg h3
            rw [hs2] at hs
            refine ⟨ByteArray, strC, noS, [[x.a, x.b].getD i noS], ⟨rfl, fun _ => rfl⟩, ⟨.refl _, trivial⟩, rfl, ?_⟩
            refine ⟨ByteArray, strC, noS, [wordF2 x.op] ++ ([x.a, x.b].take i).flatMap someW, [[x.a, x.b].getD i noS], 12, ⟨.refl _, .own ..⟩, fun _ => rfl, (by simp only [List.length_append, List.length_cons, List.length_nil]; omega), ?_⟩
            exact ⟨(i + 1, true), (show i + 1 ≤ 2 by omega), by show 2 - (i + 1) < 2 - i; omega, ⟨rfl, rfl⟩, .ownEq (by rw [hs, List.append_assoc]), .refl _, .int hwj, .refl _, trivial⟩
          · have h3 : [x.a, x.b].getD i noS = noS := by have h3 : (!(([x.a, x.b].getD i noS).toList == (⟨#[]⟩ : ByteArray).toList)) = false := h3
                                                        rw [hne] at h3; simpa using h3
            have hs2 : someW ([x.a, x.b].getD i noS) = [] := if_pos h3
            rw [hs2, List.append_nil] at hs
            exact ⟨(i + 1, false), (show i + 1 ≤ 2 by omega), by show 2 - (i + 1) < 2 - i; omega, ⟨rfl, rfl⟩, .ownEq (by rw [hs]), .refl _, .int hwj, .refl _, trivial⟩
        · have hge : i = 2 := by have := of_decide_eq_false h; omega
          subst hge
          refine ⟨ByteArray, strC, noS, [wSemi], ⟨rfl, fun _ => rfl⟩, ⟨.refl _, trivial⟩, rfl, ?_⟩
          refine ⟨ByteArray, strC, noS, [wordF2 x.op] ++ ([x.a, x.b].take 2).flatMap someW, [wSemi], 12, ⟨.refl _, .own ..⟩, fun _ => rfl, (by simp only [List.length_append, List.length_cons, List.length_nil]; omega), ?_⟩
          exact ⟨.ownEq (by rw [codeF_eq]; rw [if_neg (by rw [hq]; decide), List.append_nil]), rfl⟩
      case true =>
        refine ⟨fun h => ?_, fun h => ?_⟩
        · have hlt : i < [x.a, x.b].length := by have := of_decide_eq_true h; simp only [List.length_cons, List.length_nil]; omega
          have hs := flat_snoc someW [x.a, x.b] noS i hlt
          have hlt2 : i < 2 := hlt
          refine ⟨⟨by omega, by simp only [List.length_cons, List.length_nil]; omega⟩, ?_⟩
          have hne : (!(([x.a, x.b].getD i noS).toList == (⟨#[]⟩ : ByteArray).toList)) = !decide ([x.a, x.b].getD i noS = noS) := by rw [ba_eq]
          refine ⟨fun h3 => ?_, fun h3 => ?_⟩
          · have h3 : ¬ [x.a, x.b].getD i noS = noS := by have h3 : (!(([x.a, x.b].getD i noS).toList == (⟨#[]⟩ : ByteArray).toList)) = true := h3
                                                          rw [hne] at h3; simpa using h3
            have hs2 : someW ([x.a, x.b].getD i noS) = [[x.a, x.b].getD i noS] := if_neg h3
            rw [hs2] at hs
            refine ⟨ByteArray, strC, noS, [[x.a, x.b].getD i noS], ⟨rfl, fun _ => rfl⟩, ⟨.refl _, trivial⟩, rfl, ?_⟩
            refine ⟨ByteArray, strC, noS, [wordF2 x.op] ++ ([x.a, x.b].take i).flatMap someW, [[x.a, x.b].getD i noS], 42, ⟨.refl _, .own ..⟩, fun _ => rfl, (by simp only [List.length_append, List.length_cons, List.length_nil]; omega), ?_⟩
            exact ⟨(i + 1, true), (show i + 1 ≤ 2 by omega), by show 2 - (i + 1) < 2 - i; omega, ⟨rfl, rfl⟩, .ownEq (by rw [hs, List.append_assoc]), .refl _, .int hwj, .refl _, trivial⟩
          · have h3 : [x.a, x.b].getD i noS = noS := by have h3 : (!(([x.a, x.b].getD i noS).toList == (⟨#[]⟩ : ByteArray).toList)) = false := h3
                                                        rw [hne] at h3; simpa using h3
            have hs2 : someW ([x.a, x.b].getD i noS) = [] := if_pos h3
            rw [hs2, List.append_nil] at hs
            exact ⟨(i + 1, true), (show i + 1 ≤ 2 by omega), by show 2 - (i + 1) < 2 - i; omega, ⟨rfl, rfl⟩, .ownEq (by rw [hs]), .refl _, .int hwj, .refl _, trivial⟩
        · have hge : i = 2 := by have := of_decide_eq_false h; omega
          subst hge
          refine ⟨ByteArray, strC, noS, [wSemi], ⟨rfl, fun _ => rfl⟩, ⟨.refl _, trivial⟩, rfl, ?_⟩
          refine ⟨ByteArray, strC, noS, [wordF2 x.op] ++ ([x.a, x.b].take 2).flatMap someW, [wSemi], 42, ⟨.refl _, .own ..⟩, fun _ => rfl, (by simp only [List.length_append, List.length_cons, List.length_nil]; omega), ?_⟩
          exact ⟨.ownEq (by rw [codeF_eq]; rw [if_neg (by rw [hq]; decide), List.append_nil]), rfl⟩
end Go.Proofs.YtadimoijlgmecaaGreatDoor.Ax
/- Layers parse and show: what is shown is read again: members, classes, programs. -/
set_option linter.unusedVariables false
set_option linter.unusedSimpArgs false
namespace Go.Proofs.YtadimoijlgmecaaGreatDoor.Ax
open Go Go.RowKit
theorem noOp_cons {k n : Int} {w : ByteArray} {ts : List T3} (h : opV w < 0) : noOp ((k, w, n) :: ts) := fun t e => by
  cases e; exact h
def bodyW (m : Meth) : List ByteArray := [wLocals, dig m.locals, wLc] ++ (m.code.flatMap codeF ++ (m.catches.flatMap catF ++ [wRc]))
theorem at_body {m m0 : Meth} {r : Rs} {ts : List T3} (hl : 0 ≤ m.locals ∧ m.locals ≤ 8) (h1 : ∀ x ∈ m.code, insOk x = true) (h2 : m.code.length ≤ 48) (h3 : ∀ x ∈ m.catches, catOk x = true) (h4 : m.catches.length ≤ 4)
    (h : At r (tks (bodyW m) ++ ts)) : r.bodyV m0 = ⟨m0.name, m0.static, m0.abs, m0.params, m0.ret, m.locals, m.code, m.catches⟩ ∧ At r.body ts := by
  have h : At r ((1, wLocals, 0) :: (2, noS, m.locals) :: (3, wLc, 0) :: (tks (m.code.flatMap codeF) ++ (tks (m.catches.flatMap catF) ++ (3, wRc, 0) :: ts))) := by
    rw [← T_locals.1, ← (num_T (n := m.locals) ⟨by omega, by omega⟩).1, ← T_lc.1, ← T_rc.1]
    have := h
    unfold bodyW at this
    simpa [tks] using this
  have g1 := at_want h (by decide)
  obtain ⟨a1, a2⟩ := at_num g1 hl.1 hl.2
  have g2 : At r.bo1 _ := at_want a2 (by decide)
  have hL : r.bo1.L = r.L := (Rs.bo1_fwd r).L
  have hlen := at_len g2
  rw [hL] at hlen
  have hf1 := flat_len codeF m.code (fun x _ => by simp [codeF])
  have hf2 := flat_len catF m.catches (fun x _ => by simp [catF])
  simp only [List.length_cons, List.length_append, List.length_map] at hlen
  have hno : noOp (tks (m.catches.flatMap catF) ++ (3, wRc, 0) :: ts) := by
    cases m.catches with
    | nil => exact noOp_cons (by decide +kernel)
    | cons c l =>
      show noOp (tokT wCatch :: _)
      rw [T_catch.1]
      exact noOp_cons (by decide +kernel)
  obtain ⟨b1, b2⟩ := at_codeL m.code (r.L.length + 2) r.bo1 [] _ h1 (by simp; omega) (by omega) g2 hno
  obtain ⟨c1, c2⟩ := at_catchL m.catches (r.L.length + 2) r.boCode.2 [] _ h3 (by simp; omega) (by omega) b2 (noW_cons (by decide))
  refine ⟨?_, at_want c2 (by decide)⟩
  unfold Rs.bodyV
  rw [a1, show r.boCode.1 = m.code from b1, show r.boCat.1 = m.catches from c1]
theorem meth_parts {m : Meth} (h : methOk m = true) : (m.abs = true → m.locals = 0 ∧ m.code = [] ∧ m.catches = []) ∧ freshW m.name = true ∧ (m.params.length ≤ 4 ∧ ∀ t ∈ m.params, tyOk t = true) ∧ tyOk m.ret = true ∧ (0 ≤ m.locals ∧ m.locals ≤ 8) ∧
    (m.code.length ≤ 48 ∧ ∀ x ∈ m.code, insOk x = true) ∧ m.catches.length ≤ 4 ∧ ∀ x ∈ m.catches, catOk x = true := by
  unfold methOk inF at h
  simp only [Bool.and_eq_true, decide_eq_true_eq, List.all_eq_true, Bool.not_eq_true', Bool.and_eq_false_iff, Bool.or_eq_false_iff, decide_eq_false_iff_not] at h
  obtain ⟨h1, h2, h3, h4, h5, h6, h7⟩ := h
  refine ⟨fun ha => ?_, h2, h3, h4, h5, h6, h7⟩
  rcases h1 with h1 | h1
  · rw [ha] at h1; cases h1
  · refine ⟨Classical.byContradiction h1.1, ?_, ?_⟩
    · exact List.eq_nil_of_length_eq_zero (by omega)
    · exact List.eq_nil_of_length_eq_zero (by omega)
def methT (m : Meth) : List ByteArray := if m.abs then [wSemi] else bodyW m
theorem at_meth {m : Meth} {r : Rs} {ts : List T3} (hm : methOk m = true) (h : At r (tokT m.name :: tokT wLp :: (tks (paramsF m.params) ++ tokT wRp :: (tks (kindW m.ret) ++ (tks (methT m) ++ ts))))) : r.mmV m.static = m ∧ At r.mmR ts := by
  obtain ⟨p1, p2, p3, p4, p5, p6, p7⟩ := meth_parts hm
  rw [(fresh_T p2).1] at h
  obtain ⟨-, f2, f3⟩ := at_fresh h (fresh_T p2).2.2
  obtain ⟨g1, g2⟩ := at_params p3.2 p3.1 f3
  cases hab : m.abs with
  | true =>
    have hT : methT m = [wSemi] := if_pos hab
    rw [hT] at g2
    have g2 : At r.fresh.params.2 (tks (kindW m.ret) ++ (3, wSemi, 0) :: ts) := by rw [← T_semi.1]; exact g2
    obtain ⟨k1, k2⟩ := at_kind p4 g2 (noW_cons (by decide))
    have hs : r.mm1.is wSemi = true := at_yes k2 (by decide)
    obtain ⟨q1, q2, q3⟩ := p1 hab
    unfold Rs.mmV Rs.mmR
    rw [if_pos hs, if_pos hs]
    refine ⟨?_, (at_cons k2).2.2⟩
    unfold Rs.mm1V
    rw [hs, f2, g1, k1]
    cases m; simp_all
  | false =>
    have hT : methT m = bodyW m := if_neg (by rw [hab]; decide)
    rw [hT] at g2
    have hb : noW (tks (bodyW m) ++ ts) wLb := by
      show noW (tokT wLocals :: _) wLb
      rw [T_locals.1]
      exact noW_cons (by decide)
    obtain ⟨k1, k2⟩ := at_kind p4 g2 hb
    have hs : r.mm1.is wSemi = false := by
      refine at_noW k2 ?_
      show noW (tokT wLocals :: _) wSemi
      rw [T_locals.1]
      exact noW_cons (by decide)
    obtain ⟨b1, b2⟩ := at_body (m0 := r.mm1V m.static) p5 p6.2 p6.1 p7.2 p7.1 k2
    unfold Rs.mmV Rs.mmR
    rw [if_neg (by rw [hs]; decide), if_neg (by rw [hs]; decide)]
    refine ⟨?_, b2⟩
    rw [show r.mm1.bodyV (r.mm1V m.static) = _ from b1]
    unfold Rs.mm1V
    simp only
    rw [hs, f2, g1, k1]
    cases m; simp_all
theorem at_member_f {x : Fld} {r : Rs} {c : Cls} {ts : List T3} (hf : fldOk x = true) (hc : c.fields.length < 6) (h : At r (tks (fldF x) ++ ts)) :
    r.is wRc = false ∧ (r.member c).1 = ⟨c.name, c.iface, c.super, c.ifaces, c.fields ++ [x], c.methods⟩ ∧ At (r.member c).2 ts := by
  unfold fldOk at hf
  rw [Bool.and_eq_true] at hf
  have h : At r ((1, if x.static then wStatic else wField, 0) :: (1, x.name, 0) :: (3, wColon, 0) :: (tks (kindW x.type) ++ (3, wSemi, 0) :: ts)) := by
    rw [← (fresh_T hf.1).1, ← T_colon.1, ← T_semi.1]
    have e : (1, if x.static then wStatic else wField, 0) = tokT (if x.static then wStatic else wField) := by
      cases x.static
      · exact T_field.1.symm
      · exact T_static.1.symm
    rw [e]
    have := h
    unfold fldF at this
    simpa [tks] using this
  have hw : (if x.static then wStatic else wField) ≠ noS := by cases x.static <;> decide
  have hn := (at_next h).2.1
  have g1 := at_want h hw
  obtain ⟨-, f2, f3⟩ := at_fresh g1 (fresh_T hf.1).2.2
  have g2 := at_want f3 (by decide)
  obtain ⟨k1, k2⟩ := at_kind hf.2 g2 (noW_cons (by decide))
  have hor : r.next.2.1 = wField ∨ r.next.2.1 = wStatic := by
    rw [hn]; cases x.static
    · exact .inl rfl
    · exact .inr rfl
  have hst : decide (r.next.2.1 = wStatic) = x.static := by
    rw [hn]; cases x.static <;> decide
  refine ⟨at_no h (by cases x.static <;> decide), ?_, ?_⟩
  · unfold Rs.member Rs.memF
    rw [if_pos hor, room_lt _ (by omega), hn]
    simp only
    unfold Rs.mfV
    rw [f2, k1, ← hn, hst]
  · unfold Rs.member Rs.memF
    rw [if_pos hor, room_lt _ (by omega), hn]
    exact at_want k2 (by decide)
theorem at_member_m {x : Meth} {r : Rs} {c : Cls} {ts : List T3} (hf : methOk x = true) (hc : c.methods.length < 6) (h : At r (tks (doesF x) ++ ts)) :
    r.is wRc = false ∧ (r.member c).1 = ⟨c.name, c.iface, c.super, c.ifaces, c.fields, c.methods ++ [x]⟩ ∧ At (r.member c).2 ts := by
  have h : At r ((1, if x.static then wFunction else wMethod, 0) :: tokT x.name :: tokT wLp :: (tks (paramsF x.params) ++ tokT wRp :: (tks (kindW x.ret) ++ (tks (methT x) ++ ts)))) := by
    have e : (1, if x.static then wFunction else wMethod, 0) = tokT (if x.static then wFunction else wMethod) := by
      cases x.static
      · exact T_method.1.symm
      · exact T_function.1.symm
    rw [e]
    have := h
    unfold doesF at this
    unfold methT bodyW
    simpa [tks] using this
  have hw : (if x.static then wFunction else wMethod) ≠ noS := by cases x.static <;> decide
  have hn := (at_next h).2.1
  have g1 := at_want h hw
  obtain ⟨m1, m2⟩ := at_meth hf g1
  have hno : ¬ (r.next.2.1 = wField ∨ r.next.2.1 = wStatic) := by
    rw [hn]; cases x.static <;> decide
  have hor : r.next.2.1 = wMethod ∨ r.next.2.1 = wFunction := by
    rw [hn]; cases x.static
    · exact .inl rfl
    · exact .inr rfl
  have hst : decide (r.next.2.1 = wFunction) = x.static := by
    rw [hn]; cases x.static <;> decide
  refine ⟨at_no h (by cases x.static <;> decide), ?_, ?_⟩
  · unfold Rs.member Rs.memF
    rw [if_neg hno, if_pos hor, room_lt _ (by omega), hst, hn]
    simp only
    rw [m1]
  · unfold Rs.member Rs.memF
    rw [if_neg hno, if_pos hor, room_lt _ (by omega), hn]
    exact m2
theorem at_fields : ∀ (l : List Fld) (f : Nat) (r : Rs) (c : Cls) (ts : List T3), (∀ x ∈ l, fldOk x = true) → c.fields.length + l.length ≤ 6 → l.length ≤ f → At r (tks (l.flatMap fldF) ++ ts) →
    ∃ r', At r' ts ∧ r'.L = r.L ∧ Rs.clsL f r c = Rs.clsL (f - l.length) r' ⟨c.name, c.iface, c.super, c.ifaces, c.fields ++ l, c.methods⟩
  | [], f, r, c, ts, _, _, _, h => ⟨r, h, rfl, by rw [List.append_nil]; rfl⟩
  | x :: l, 0, _, _, _, _, _, hf, _ => by simp at hf
  | x :: l, f + 1, r, c, ts, hs, hl, hf, h => by
    have h : At r (tks (fldF x) ++ (tks (l.flatMap fldF) ++ ts)) := by
      simpa [tks, List.flatMap_cons] using h
    simp only [List.length_cons] at hl hf
    obtain ⟨g1, g2, g3⟩ := at_member_f (c := c) (hs x (by simp)) (by omega) h
    obtain ⟨r', i1, i2, i3⟩ := at_fields l f (r.member c).2 (r.member c).1 ts (fun y hy => hs y (by simp [hy])) (by rw [g2]; simp; omega) (by omega) g3
    refine ⟨r', i1, i2.trans (Rs.member_fwd r c).L, ?_⟩
    rw [Rs.clsL, if_pos h.e, if_neg (by rw [g1]; decide), i3, g2]
    simp only [List.append_assoc, List.singleton_append, List.length_cons]
    rw [show f + 1 - (l.length + 1) = f - l.length by omega]
theorem at_methods : ∀ (l : List Meth) (f : Nat) (r : Rs) (c : Cls) (ts : List T3), (∀ x ∈ l, methOk x = true) → c.methods.length + l.length ≤ 6 → l.length ≤ f → At r (tks (l.flatMap doesF) ++ ts) →
    ∃ r', At r' ts ∧ r'.L = r.L ∧ Rs.clsL f r c = Rs.clsL (f - l.length) r' ⟨c.name, c.iface, c.super, c.ifaces, c.fields, c.methods ++ l⟩
  | [], f, r, c, ts, _, _, _, h => ⟨r, h, rfl, by rw [List.append_nil]; rfl⟩
  | x :: l, 0, _, _, _, _, _, hf, _ => by simp at hf
  | x :: l, f + 1, r, c, ts, hs, hl, hf, h => by
    have h : At r (tks (doesF x) ++ (tks (l.flatMap doesF) ++ ts)) := by
      simpa [tks, List.flatMap_cons] using h
    simp only [List.length_cons] at hl hf
    obtain ⟨g1, g2, g3⟩ := at_member_m (c := c) (hs x (by simp)) (by omega) h
    obtain ⟨r', i1, i2, i3⟩ := at_methods l f (r.member c).2 (r.member c).1 ts (fun y hy => hs y (by simp [hy])) (by rw [g2]; simp; omega) (by omega) g3
    refine ⟨r', i1, i2.trans (Rs.member_fwd r c).L, ?_⟩
    rw [Rs.clsL, if_pos h.e, if_neg (by rw [g1]; decide), i3, g2]
    simp only [List.append_assoc, List.singleton_append, List.length_cons]
    rw [show f + 1 - (l.length + 1) = f - l.length by omega]
theorem cls_parts {c : Cls} (h : clsOk c = true) : freshW c.name = true ∧ (c.super = noS ∨ (c.iface = false ∧ freshW c.super = true)) ∧ (c.ifaces.length ≤ 4 ∧ ∀ x ∈ c.ifaces, freshW x = true) ∧ (c.fields.length ≤ 6 ∧ ∀ x ∈ c.fields, fldOk x = true) ∧ c.methods.length ≤ 6 ∧ ∀ x ∈ c.methods, methOk x = true := by
  unfold clsOk at h
  simp only [Bool.and_eq_true, Bool.or_eq_true, decide_eq_true_eq, List.all_eq_true, Bool.not_eq_true'] at h
  exact h
theorem at_ex {c : Cls} {r : Rs} {ts : List T3} (h2 : c.super = noS ∨ (c.iface = false ∧ freshW c.super = true)) (h3 : c.ifaces.length ≤ 4 ∧ ∀ x ∈ c.ifaces, freshW x = true)
    (h : At r (tks (if c.super = noS then [] else [wExtends, c.super]) ++ (tks (listF (if c.iface then wExtends else wImplements) c.ifaces) ++ (3, wLc, 0) :: ts))) :
    (r.ex1 c.iface).1.1 = c.super ∧ ((r.ex1 c.iface).2.ex2 c.iface (r.ex1 c.iface).1.2).1 = c.ifaces ∧ At ((r.ex1 c.iface).2.ex2 c.iface (r.ex1 c.iface).1.2).2 ((3, wLc, 0) :: ts) := by
  cases hi : c.iface with
  | true =>
    have hs : c.super = noS := h2.resolve_right fun q => by rw [hi] at q; cases q.1
    rw [hs, if_pos rfl, hi, if_pos rfl] at h
    cases hl : c.ifaces with
    | nil =>
      rw [hl] at h
      have h : At r ((3, wLc, 0) :: ts) := h
      have hn : r.is wExtends = false := at_no h (by decide)
      have e : r.ex1 true = ((noS, []), r) := by unfold Rs.ex1; rw [if_neg (by rw [hn]; decide)]
      rw [e]
      exact ⟨hs.symm, rfl, h⟩
    | cons s l =>
      rw [hl] at h h3
      have h : At r ((1, wExtends, 0) :: tokT s :: (tks (l.flatMap fun x => [wComma, x]) ++ (3, wLc, 0) :: ts)) := by
        rw [← T_extends.1]; exact h
      have hy : r.is wExtends = true := at_yes h (by decide)
      obtain ⟨n1, n2⟩ := at_names h3.2 h3.1 (at_cons h).2.2 (noW_cons (by decide))
      have e : r.ex1 true = ((noS, r.step.names.1), r.step.names.2) := by unfold Rs.ex1; rw [if_pos hy, if_pos rfl]
      rw [e]
      exact ⟨hs.symm, n1, n2⟩
  | false =>
    rw [hi] at h
    have hE : ∃ r', r.ex1 false = ((c.super, []), r') ∧ At r' (tks (listF wImplements c.ifaces) ++ (3, wLc, 0) :: ts) := by
      by_cases hs : c.super = noS
      · rw [if_pos hs] at h
        have h : At r (tks (listF wImplements c.ifaces) ++ (3, wLc, 0) :: ts) := h
        have hn : r.is wExtends = false := by
          refine at_noW h ?_
          cases c.ifaces with
          | nil => exact noW_cons (by decide)
          | cons s l =>
            show noW (tokT wImplements :: _) wExtends
            rw [T_implements.1]
            exact noW_cons (by decide)
        exact ⟨r, by unfold Rs.ex1; rw [if_neg (by rw [hn]; decide), hs], h⟩
      · rw [if_neg hs] at h
        have hf : freshW c.super = true := (h2.resolve_left hs).2
        have h : At r ((1, wExtends, 0) :: (1, c.super, 0) :: (tks (listF wImplements c.ifaces) ++ (3, wLc, 0) :: ts)) := by
          rw [← T_extends.1, ← (fresh_T hf).1]; exact h
        have hy : r.is wExtends = true := at_yes h (by decide)
        obtain ⟨-, f2, f3⟩ := at_fresh (at_cons h).2.2 (fresh_T hf).2.2
        exact ⟨r.step.fresh, by unfold Rs.ex1; rw [if_pos hy, if_neg (by decide), f2], f3⟩
    obtain ⟨r', e1, e2⟩ := hE
    rw [e1]
    cases hl : c.ifaces with
    | nil =>
      rw [hl] at e2
      have e2 : At r' ((3, wLc, 0) :: ts) := e2
      have hn : r'.is wImplements = false := at_no e2 (by decide)
      have e : r'.ex2 false [] = ([], r') := by unfold Rs.ex2; rw [if_neg (by rw [hn]; decide)]
      rw [e]
      exact ⟨rfl, rfl, e2⟩
    | cons s l =>
      rw [hl] at e2 h3
      have e2 : At r' ((1, wImplements, 0) :: tokT s :: (tks (l.flatMap fun x => [wComma, x]) ++ (3, wLc, 0) :: ts)) := by
        rw [← T_implements.1]; exact e2
      have hy : r'.is wImplements = true := at_yes e2 (by decide)
      obtain ⟨n1, n2⟩ := at_names h3.2 h3.1 (at_cons e2).2.2 (noW_cons (by decide))
      have e : r'.ex2 false [] = r'.step.names := by unfold Rs.ex2; rw [if_pos (by rw [hy]; rfl)]
      rw [e]
      exact ⟨rfl, n1, n2⟩
theorem at_class {c : Cls} {r : Rs} {ts : List T3} {many : Int} (hc : clsOk c = true) (hm : many < 10) (h : At r (tks (wordsC c) ++ ts)) : (r.class' many).1 = c ∧ At (r.class' many).2 ts := by
  obtain ⟨h1, h2, h3, h4, h5⟩ := cls_parts hc
  have h : At r ((1, if c.iface then wInterface else wClass, 0) :: (1, c.name, 0) :: (tks (if c.super = noS then [] else [wExtends, c.super]) ++ (tks (listF (if c.iface then wExtends else wImplements) c.ifaces) ++ (3, wLc, 0) :: (tks (c.fields.flatMap fldF) ++ (tks (c.methods.flatMap doesF) ++ (3, wRc, 0) :: ts))))) := by
    have e : (1, if c.iface then wInterface else wClass, 0) = tokT (if c.iface then wInterface else wClass) := by
      cases c.iface
      · exact T_class.1.symm
      · exact T_interface.1.symm
    rw [e, ← (fresh_T h1).1, ← T_lc.1, ← T_rc.1]
    have := h
    unfold wordsC at this
    simpa [tks] using this
  have hw : (if c.iface then wInterface else wClass) ≠ noS := by cases c.iface <;> decide
  have hi : r.is wInterface = c.iface := by
    rw [at_is h]; cases c.iface <;> decide
  have hor : (r.is wClass || r.is wInterface) = true := by
    rw [at_is h, at_is h]; cases c.iface <;> decide
  have e1 : r.cl1 many = r.want (if c.iface then wInterface else wClass) := by
    unfold Rs.cl1
    rw [if_pos hor, room_lt _ hm, hi]
  have g1 := at_want h hw
  obtain ⟨-, f2, f3⟩ := at_fresh g1 (fresh_T h1).2.2
  obtain ⟨x1, x2, x3⟩ := at_ex h2 h3 f3
  have g4 : At (r.clR many) (tks (c.fields.flatMap fldF) ++ (tks (c.methods.flatMap doesF) ++ (3, wRc, 0) :: ts)) := by
    unfold Rs.clR
    rw [e1, hi]
    exact at_want x3 (by decide)
  have hV : r.clV many = ⟨c.name, c.iface, c.super, c.ifaces, [], []⟩ := by
    unfold Rs.clV
    rw [e1, hi, f2, x1, x2]
  have hL : (r.clR many).L = r.L := (Rs.clR_fwd r many).L
  have hlen := at_len g4
  rw [hL] at hlen
  have hf1 := flat_len fldF c.fields (fun x _ => by simp [fldF])
  have hf2 := flat_len doesF c.methods (fun x _ => by simp [doesF])
  simp only [List.length_cons, List.length_append, List.length_map] at hlen
  unfold Rs.class'
  rw [hV]
  obtain ⟨r1, i1, i2, i3⟩ := at_fields c.fields (r.L.length + 2) (r.clR many) ⟨c.name, c.iface, c.super, c.ifaces, [], []⟩ _ h4.2 (by simp; omega) (by omega) g4
  rw [i3]
  obtain ⟨r2, j1, j2, j3⟩ := at_methods c.methods (r.L.length + 2 - c.fields.length) r1 ⟨c.name, c.iface, c.super, c.ifaces, [] ++ c.fields, []⟩ _ h5.2 (by simp; omega) (by omega) i1
  rw [j3]
  obtain ⟨f, hf⟩ : ∃ f, r.L.length + 2 - c.fields.length - c.methods.length = f + 1 := ⟨r.L.length + 2 - c.fields.length - c.methods.length - 1, by omega⟩
  rw [hf, Rs.clsL, if_pos j1.e, if_pos (at_yes j1 (by decide))]
  refine ⟨?_, (at_cons j1).2.2⟩
  cases c; rfl
theorem at_prgL : ∀ (l : List Cls) (f : Nat) (r : Rs) (out : List Cls), (∀ x ∈ l, clsOk x = true) → out.length + l.length ≤ 10 → l.length < f → At r (tks (l.flatMap wordsC)) → (Rs.prgL f r out).1 = out ++ l ∧ (Rs.prgL f r out).2.e = 0
  | _, 0, _, _, _, _, hf, _ => by omega
  | [], f + 1, r, out, _, _, _, h => by
    have hn : ¬ (r.e = 0 ∧ r.i < r.L.length) := fun c => by
      have := at_len h
      simp at this; omega
    rw [Rs.prgL, if_neg hn]
    exact ⟨by simp, h.e⟩
  | x :: l, f + 1, r, out, hs, hl, hf, h => by
    have h : At r (tks (wordsC x) ++ tks (l.flatMap wordsC)) := by
      simpa [tks, List.flatMap_cons] using h
    simp only [List.length_cons] at hl hf
    obtain ⟨g1, g2⟩ := at_class (many := out.length) (hs x (by simp)) (by omega) h
    have hy : r.e = 0 ∧ r.i < r.L.length := ⟨h.e, by
      have := at_len h
      have h2 : 0 < (wordsC x).length := by simp [wordsC]
      simp only [List.length_append, List.length_map] at this
      omega⟩
    rw [Rs.prgL, if_pos hy, g1]
    have := at_prgL l f _ (out ++ [x]) (fun y hy => hs y (by simp [hy])) (by simp; omega) (by omega) g2
    exact ⟨by rw [this.1]; simp, this.2⟩

/-! ### The text's words -/
theorem sep_blank (w : ByteArray) : isBlank (sepOf w) = true ∧ isAl (sepOf w) = false := by
  unfold sepOf
  split
  · exact ⟨by decide, by decide⟩
  · exact ⟨by decide, by decide⟩
theorem scan_words : ∀ (ws : List ByteArray) (i : Nat), (∀ w ∈ ws, tokB w = true) → ∃ l, scanI i (ws.flatMap putW) = (l, none) ∧ l.map s3 = tks ws
  | [], i, _ => ⟨[], scanI_nil i, rfl⟩
  | w :: ws, i, h => by
    obtain ⟨l, h1, h2⟩ := scan_words ws (i + w.data.toList.length + 1) (fun x hx => h x (by simp [hx]))
    have hb := sep_blank w
    refine ⟨setAt (tokenF w.data.toList).1 i :: l, ?_, ?_⟩
    · rw [List.flatMap_cons]
      have e : putW w ++ ws.flatMap putW = w.data.toList ++ (sepOf w :: ws.flatMap putW) := by simp [putW]
      rw [e, scan_word i (w := w.data.toList) (r := sepOf w :: ws.flatMap putW) (h w (by simp)) (.inr hb.2)]
      have := scan_blanks (i + w.data.toList.length) [sepOf w] (ws.flatMap putW) (by simp [hb.1])
      rw [show sepOf w :: ws.flatMap putW = [sepOf w] ++ ws.flatMap putW from rfl, this]
      simp only [List.length_cons, List.length_nil]
      rw [h1]
    · rw [List.map_cons, h2]; rfl
theorem kind_tok {t : Ty} (ht : tyOk t = true) : ∀ w ∈ kindW t, tokB w = true := by
  obtain ⟨k, s⟩ := t
  unfold tyOk typedF at ht
  unfold kindW kindF
  simp only at ht ⊢
  have a1 : tokB (⟨#[118, 111, 105, 100]⟩ : ByteArray) = true := T_void.2
  have a2 : tokB (⟨#[105, 110, 116]⟩ : ByteArray) = true := T_int.2
  have a3 : tokB (⟨#[91]⟩ : ByteArray) = true := T_lb.2
  have a4 : tokB (⟨#[93]⟩ : ByteArray) = true := T_rb.2
  by_cases h1 : k = 1
  · rw [if_pos h1]; intro w hw; simp at hw; rw [hw]; exact a1
  · rw [if_neg h1]
    by_cases h2 : k = 2
    · rw [if_pos h2]; intro w hw; simp at hw; rw [hw]; exact a2
    · rw [if_neg h2]
      by_cases h4 : k = 4
      · rw [if_pos h4]; intro w hw; simp at hw; rcases hw with rfl | rfl | rfl <;> assumption
      · rw [if_neg h4]
        rw [if_neg (by omega)] at ht
        have h35 : k = 3 ∨ k = 5 := by
          by_cases c : k = 3 ∨ k = 5
          · exact c
          · rw [if_neg c] at ht; cases ht
        rw [if_pos h35] at ht
        have hf : freshW s = true := ht
        have a5 := (fresh_T hf).2.1
        by_cases h5 : k = 5
        · rw [if_pos h5]; intro w hw; simp at hw; rcases hw with rfl | rfl | rfl <;> assumption
        · rw [if_neg h5]; intro w hw; simp at hw; rw [hw]; exact a5
def Toks (ws : List ByteArray) : Prop := ∀ w ∈ ws, tokB w = true
theorem Toks.app {a b : List ByteArray} (h : Toks a) (k : Toks b) : Toks (a ++ b) := fun w hw => (List.mem_append.1 hw).elim (h w) (k w)
theorem Toks.nil : Toks [] := fun _ h => by cases h
theorem Toks.cons {w : ByteArray} {ws : List ByteArray} (h : tokB w = true) (k : Toks ws) : Toks (w :: ws) := fun x hx => (List.mem_cons.1 hx).elim (fun e => e ▸ h) (k x)
theorem Toks.flat {α : Type} {g : α → List ByteArray} {l : List α} (h : ∀ x ∈ l, Toks (g x)) : Toks (l.flatMap g) := fun w hw => by
  obtain ⟨x, h1, h2⟩ := List.mem_flatMap.1 hw
  exact h x h1 w h2
theorem code_tok {x : Ins} (hx : insOk x = true) : Toks (codeF x) := by
  obtain ⟨h1, h2, h3, h4, h5, h6⟩ := ins_parts hx
  have hR := nums_R x.op
  unfold codeF
  refine .app (.cons (name_T (word_op h1 h2).1).2 .nil) (.app ?_ (.app ?_ (.app ?_ (.cons T_semi.2 .nil))))
  · split
    · exact .cons (num_T ⟨by omega, by omega⟩).2 .nil
    · exact .nil
  · split
    · exact .nil
    · rename_i hne
      cases hb : decide (namesF x.op > 0) with
      | true => rw [hb] at h5; exact .cons (fresh_T ((named_T h5).1 rfl)).2.1 .nil
      | false => rw [hb] at h5; exact absurd ((named_T h5).2 rfl) hne
  · split
    · exact .nil
    · rename_i hne
      cases hb : decide (namesF x.op > 1) with
      | true => rw [hb] at h6; exact .cons (fresh_T ((named_T h6).1 rfl)).2.1 .nil
      | false => rw [hb] at h6; exact absurd ((named_T h6).2 rfl) hne
theorem cat_tok {c : Cat} (hc : catOk c = true) : Toks (catF c) := by
  obtain ⟨h1, h2, h3, h4⟩ := cat_parts hc
  exact .cons T_catch.2 (.cons (fresh_T h1).2.1 (.cons (num_T ⟨by omega, by omega⟩).2 (.cons (num_T ⟨by omega, by omega⟩).2 (.cons (num_T ⟨by omega, by omega⟩).2 (.cons T_semi.2 .nil)))))
theorem params_tok {ps : List Ty} (h : ∀ t ∈ ps, tyOk t = true) : Toks (paramsF ps) := by
  cases ps with
  | nil => exact .nil
  | cons t l =>
    unfold paramsF
    exact .app (kind_tok (h t (by simp))) (.flat fun x hx => .cons T_comma.2 (kind_tok (h x (by simp [hx]))))
theorem does_tok {m : Meth} (hm : methOk m = true) : Toks (doesF m) := by
  obtain ⟨p1, p2, p3, p4, p5, p6, p7⟩ := meth_parts hm
  unfold doesF
  refine .app (.cons ?_ (.cons (fresh_T p2).2.1 (.cons T_lp.2 .nil))) (.app (params_tok p3.2) (.app (.cons T_rp.2 .nil) (.app (kind_tok p4) ?_)))
  · split
    · exact T_function.2
    · exact T_method.2
  · split
    · exact .cons T_semi.2 .nil
    · exact .app (.cons T_locals.2 (.cons (num_T ⟨by omega, by omega⟩).2 (.cons T_lc.2 .nil))) (.app (.flat fun x hx => code_tok (p6.2 x hx)) (.app (.flat fun x hx => cat_tok (p7.2 x hx)) (.cons T_rc.2 .nil)))
theorem fld_tok {f : Fld} (hf : fldOk f = true) : Toks (fldF f) := by
  unfold fldOk at hf
  rw [Bool.and_eq_true] at hf
  unfold fldF
  refine .app (.cons ?_ (.cons (fresh_T hf.1).2.1 (.cons T_colon.2 .nil))) (.app (kind_tok hf.2) (.cons T_semi.2 .nil))
  split
  · exact T_static.2
  · exact T_field.2
theorem cls_tok {c : Cls} (hc : clsOk c = true) : Toks (wordsC c) := by
  obtain ⟨h1, h2, h3, h4, h5⟩ := cls_parts hc
  unfold wordsC
  refine .app (.cons ?_ (.cons (fresh_T h1).2.1 .nil)) (.app ?_ (.app ?_ (.app (.cons T_lc.2 .nil) (.app (.flat fun x hx => fld_tok (h4.2 x hx)) (.app (.flat fun x hx => does_tok (h5.2 x hx)) (.cons T_rc.2 .nil))))))
  · split
    · exact T_interface.2
    · exact T_class.2
  · split
    · exact .nil
    · rename_i hne
      exact .cons T_extends.2 (.cons (fresh_T (h2.resolve_left hne).2).2.1 .nil)
  · cases hl : c.ifaces with
    | nil => exact .nil
    | cons s l =>
      rw [hl] at h3
      refine .app (.cons ?_ (.cons (fresh_T (h3.2 s (by simp))).2.1 .nil)) (.flat fun x hx => .cons T_comma.2 (.cons (fresh_T (h3.2 x (by simp [hx]))).2.1 .nil))
      split
      · exact T_extends.2
      · exact T_implements.2
theorem prg_parts {p : List Cls} (h : prgOk p = true) : p.length ≤ 10 ∧ ∀ c ∈ p, clsOk c = true := by
  unfold prgOk at h
  simpa using h
theorem text_words (p : List Cls) : textP p = (p.flatMap wordsC).flatMap putW := by
  unfold textP
  rw [List.flatMap_assoc]; rfl
theorem scan_text {p : List Cls} (h : prgOk p = true) (hl : (textP p).length ≤ 6000) : ∃ l, scanF (textP p) = (l, 0, 0) ∧ l.map s3 = tks (p.flatMap wordsC) := by
  obtain ⟨l, h1, h2⟩ := scan_words (p.flatMap wordsC) 0 (Toks.flat fun c hc => cls_tok ((prg_parts h).2 c hc))
  refine ⟨l, ?_, h2⟩
  rw [← text_words] at h1
  unfold scanF
  rw [if_neg (by omega), h1]
theorem parse_text {p : List Cls} (h : prgOk p = true) (hl : (textP p).length ≤ 6000) : parseF (textP p) = (p, 0, 0) := by
  obtain ⟨l, h1, h2⟩ := scan_text h hl
  obtain ⟨h3, h4⟩ := prg_parts h
  have hat : At (parse0 (textP p)) (tks (p.flatMap wordsC)) := ⟨rfl, by show ((scanF (textP p)).1.drop 0).map s3 = _; rw [h1]; exact h2⟩
  have hlen := at_len hat
  have hfl := flat_len wordsC p (fun x _ => by simp [wordsC])
  have hL : (parse0 (textP p)).L.length - (parse0 (textP p)).i = (scanF (textP p)).1.length := by simp [parse0]
  rw [hL] at hlen
  simp only [List.length_map] at hlen
  have := at_prgL p ((scanF (textP p)).1.length + 2) (parse0 (textP p)) [] h4 (by simpa using h3) (by omega) hat
  unfold parseF
  rw [if_pos (by rw [h1]), if_pos this.2, this.1]
  rfl
end Go.Proofs.YtadimoijlgmecaaGreatDoor.Ax
