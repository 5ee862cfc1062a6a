/- Walks and laws, part 5: Lf Sb Sc Sd Se Ga Gb Lg Lh Lp Sf Sg Gs Gt Gc Gd Ge Gf Gg Gh Gi Gj Sh Gk Gn. -/
import Derived.Test.YtimhbimpaiiceaaGreatDoorPk4
import Derived.Lib.Join
/- Layer lex by the logic: tokens, scanning. -/
set_option linter.unusedVariables false
set_option linter.unusedSimpArgs false
namespace Go.Proofs.YtimhbimpaiiceaaGreatDoor.Ax
open Go Go.RowKit
abbrev Tok := Int × ByteArray × Int × Int
def tokC (t : Int × ByteArray × Int × Int) : List SV := [I t.1, S t.2.1, I t.2.2.1, I t.2.2.2]
abbrev tok0 : Int × ByteArray × Int × Int := (0, ⟨#[]⟩, 0, 0)
def tokS (t : Int × ByteArray × Int × Int) : SV := .agg (tokC t)
def tokenF (l : List UInt8) : (Int × ByteArray × Int × Int) × Bool := match numF l with
  | some n => ((2, ⟨#[]⟩, n, 0), true)
  | none => if nameF l then ((1, txt l, 0, 0), true) else if l.length = 1 ∧ isSign (l.getD 0 0) = true then ((3, txt l, 0, 0), true) else (tok0, false)
def tokenC : Ctr := { A := List UInt8, enc := fun l => [X l], dom := fun l => l.length ≤ 4611686018427387904, res := fun l _ => .tup [tokS (tokenF l).1, B (tokenF l).2], gl := tabs }
theorem token_ok : CtrSound Tryz.prog 29 tokenC :=
  ctr_of_ax (env_okB tys_ok (eqs := []) trivial (cs := [(27, idxC), (55, numC), (56, nameC)]) ⟨idx_ok, num_ok, name_ok, trivial⟩ (bs := []) trivial (gl := tabs)) mixed _ Tryz.func29 (by kernel_rfl) rfl (fun _ _ => Nat.le_of_ble_eq_true rfl) fun (l : List UInt8) id hd => by
    have hd : l.length ≤ 4611686018427387904 := hd
    have hz := size_txt l
    have ha := at_txt l
    have fin : ∀ (a b : Int) (s : ByteArray) (c d : Int) (k : Bool), tokenF l = ((a, s, b, c), k) → ∀ x, (Sub x (B k)) → Sub (.tup [.agg [I a, S s, I b, I c], x]) (.tup [tokS (tokenF l).1, B (tokenF l).2]) := fun a b s c d k h x hx => by
      rw [h]; exact .tup2 (.refl _) hx
    refine ⟨l, ⟨.refl _, trivial⟩, rfl, hd, ?_⟩
    refine ⟨fun h => ?_, fun h => ?_⟩
    · obtain ⟨n, hn⟩ := Option.isSome_iff_exists.1 h
      have e : tokenF l = ((2, ⟨#[]⟩, (numF l).getD 0, 0), true) := by unfold tokenF; rw [hn]; rfl
      exact ⟨fin _ _ _ _ 0 _ e _ .tt, rfl⟩
    have hn : numF l = none := by
      cases hc : numF l with
      | none => rfl
      | some n => rw [hc] at h; cases h
    refine ⟨l, ⟨.refl _, trivial⟩, rfl, hd, ?_⟩
    refine ⟨fun h => ?_, fun h => ?_⟩
    · have e : tokenF l = ((1, txt l, 0, 0), true) := by unfold tokenF; rw [hn]; simp only; rw [if_pos h]
      exact ⟨fin _ _ _ _ 0 _ e _ .tt, rfl⟩
    have e1 : tokenF l = if l.length = 1 ∧ isSign (l.getD 0 0) = true then ((3, txt l, 0, 0), true) else (tok0, false) := by
      unfold tokenF; rw [hn]; simp only; rw [if_neg (by simp only [show nameF l = false from h]; simp)]
    refine ⟨fun h => ?_, fun h => ?_⟩
    · have h1 : l.length = 1 := by have h : ((⟨l.toArray⟩ : ByteArray).size : Int) = 1 := by simpa using h
                                   omega
      refine ⟨⟨by omega, by omega⟩, ?_⟩
      refine ⟨(signsB, (txt l).data.getD 0 0), ⟨.refl _, .refl _, trivial⟩, rfl, trivial, ?_⟩
      have hsg : decide (Lib.indexByte signsB.data.toList ((txt l).data.getD 0 0) ≥ 0) = isSign (l.getD 0 0) := by rw [ha]; exact idx_has _ _
      refine ⟨fun h => ?_, fun h => ?_⟩
      · have h : decide (Lib.indexByte signsB.data.toList ((txt l).data.getD 0 0) ≥ 0) = true := h
        rw [hsg] at h
        exact ⟨fin _ _ _ _ 0 _ (by rw [e1, if_pos ⟨h1, h⟩]) _ .tt, rfl⟩
      · have h : decide (Lib.indexByte signsB.data.toList ((txt l).data.getD 0 0) ≥ 0) = false := h
        rw [hsg] at h
        exact ⟨fin _ _ _ _ 0 _ (by rw [e1, if_neg (fun c => by rw [h] at c; exact absurd c.2 (by decide))]) _ .ff, rfl⟩
    · have h1 : l.length ≠ 1 := by have h : ¬ ((⟨l.toArray⟩ : ByteArray).size : Int) = 1 := by simpa using h
                                   omega
      exact ⟨fin _ _ _ _ 0 _ (by rw [e1, if_neg (fun c => h1 c.1)]) _ .ff, rfl⟩
theorem token_nil : (tokenF []).2 = false := by
  unfold tokenF
  rw [numC_none]
  simp [nameF]
def setAt (t : Int × ByteArray × Int × Int) (i : Nat) : Int × ByteArray × Int × Int := (t.1, t.2.1, t.2.2.1, (i : Int))
def scanL : Nat → Nat → List UInt8 → List (Int × ByteArray × Int × Int) × Option Nat
  | _, _, [] => ([], none)
  | 0, i, _ :: _ => ([], some i)
  | f + 1, i, c :: r => if isBlank c then scanL f (i + 1) r else
      if (tokenF ((c :: r).take (wordF (c :: r)))).2 then
        (setAt (tokenF ((c :: r).take (wordF (c :: r)))).1 i :: (scanL f (i + wordF (c :: r)) ((c :: r).drop (wordF (c :: r)))).1, (scanL f (i + wordF (c :: r)) ((c :: r).drop (wordF (c :: r)))).2)
      else ([], some i)
theorem word_pos {l : List UInt8} (h : (tokenF (l.take (wordF l))).2 = true) : 0 < wordF l := by
  rcases Nat.eq_zero_or_pos (wordF l) with h0 | h0
  · rw [h0, List.take_zero, token_nil] at h; cases h
  · exact h0
theorem scanL_fuel : ∀ (f g i : Nat) (l : List UInt8), l.length ≤ f → l.length ≤ g → scanL f i l = scanL g i l
  | f, g, i, [], _, _ => by cases f <;> cases g <;> rfl
  | 0, _, _, _ :: _, h, _ => by simp at h
  | _, 0, _, _ :: _, _, h => by simp at h
  | f + 1, g + 1, i, c :: r, h1, h2 => by
    simp only [List.length_cons] at h1 h2
    simp only [scanL]
    rw [scanL_fuel f g (i + 1) r (by omega) (by omega)]
    split
    · rfl
    · split
      · rename_i h
        have hp := word_pos h
        rw [scanL_fuel f g _ _ (by rw [List.length_drop, List.length_cons]; omega) (by rw [List.length_drop, List.length_cons]; omega)]
      · rfl
def scanI (i : Nat) (l : List UInt8) := scanL l.length i l
theorem scanI_nil (i : Nat) : scanI i [] = ([], none) := rfl
theorem scanI_blank (i : Nat) (l : List UInt8) (h : 0 < l.length) (hb : isBlank (l.getD 0 0) = true) : scanI i l = scanI (i + 1) (l.drop 1) := by
  cases l with
  | nil => simp at h
  | cons c r =>
    have hb : isBlank c = true := by simpa using hb
    simp only [scanI, scanL, List.length_cons, hb, if_true, List.drop_succ_cons, List.drop_zero]
theorem scanI_bad (i : Nat) (l : List UInt8) (h : 0 < l.length) (hb : isBlank (l.getD 0 0) = false) (ht : (tokenF (l.take (wordF l))).2 = false) : scanI i l = ([], some i) := by
  cases l with
  | nil => simp at h
  | cons c r =>
    have hb : isBlank c = false := by simpa using hb
    simp only [scanI, List.length_cons, scanL]
    rw [if_neg (by simp [hb]), if_neg (by simp only [ht]; simp)]
theorem scanI_tok (i : Nat) (l : List UInt8) (h : 0 < l.length) (hb : isBlank (l.getD 0 0) = false) (ht : (tokenF (l.take (wordF l))).2 = true) :
    scanI i l = (setAt (tokenF (l.take (wordF l))).1 i :: (scanI (i + wordF l) (l.drop (wordF l))).1, (scanI (i + wordF l) (l.drop (wordF l))).2) := by
  have hp := word_pos ht
  cases l with
  | nil => simp at h
  | cons c r =>
    have hb : isBlank c = false := by simpa using hb
    rw [scanI, List.length_cons, scanL]
    rw [if_neg (by simp [hb]), if_pos ht]
    rw [scanL_fuel r.length ((c :: r).drop (wordF (c :: r))).length _ _ (by rw [List.length_drop, List.length_cons]; omega) (Nat.le_refl _)]
    rfl
def scanF (b : List UInt8) : List (Int × ByteArray × Int × Int) × Int × Int := if 6000 < b.length then ([], 0, 2) else match (scanI 0 b).2 with
  | none => ((scanI 0 b).1, 0, 0)
  | some i => ([], (i : Int), 3)
def scanC : Ctr := { A := List UInt8, enc := fun b => [.row UInt8 1 byteC 0 b], dom := fun b => b.length ≤ 4611686018427387904, res := fun b id => .tup [.own (Int × ByteArray × Int × Int) 4 tokC tok0 (scanF b).1 id, I (scanF b).2.1, I (scanF b).2.2], gl := tabs }
def blanksB : ByteArray := ⟨#[32, 9, 10, 13]⟩
set_option maxRecDepth 100000 in
theorem scan_ok : CtrSound Tryz.prog 16 scanC :=
  ctr_of_ax (env_okB tys_ok (eqs := []) trivial (cs := [(27, idxC), (28, wordC), (29, tokenC)]) ⟨idx_ok, word_ok, token_ok, trivial⟩ (bs := []) trivial (gl := tabs)) mixed _ Tryz.func16 (by kernel_rfl) rfl (fun _ _ => Nat.le_of_ble_eq_true rfl) fun (b : List UInt8) id hd => by
    refine ⟨fun h => ?_, fun h => ?_⟩
    · have e : scanF b = ([], 0, 2) := if_pos (by have := of_decide_eq_true h; omega)
      exact ⟨(show Sub _ (.tup [.own (Int × ByteArray × Int × Int) 4 tokC tok0 (scanF b).1 id, I (scanF b).2.1, I (scanF b).2.2]) by rw [e]; exact .tup3 (.nilO ..) (.refl _) (.refl _)), rfl⟩
    have hle : b.length ≤ 6000 := by have := of_decide_eq_false h; omega
    have e0 : scanF b = match (scanI 0 b).2 with | none => ((scanI 0 b).1, 0, 0) | some i => ([], (i : Int), 3) := if_neg (by omega)
    refine ⟨Nat × List (Int × ByteArray × Int × Int), fun s => [(0, .row UInt8 1 byteC 0 b), (5, I s.1), (2, .own (Int × ByteArray × Int × Int) 4 tokC tok0 s.2 47)], fun _ => [],
      fun s => s.1 ≤ b.length ∧ s.2.length ≤ s.1 ∧ s.2 ++ (scanI s.1 (b.drop s.1)).1 = (scanI 0 b).1 ∧ (scanI s.1 (b.drop s.1)).2 = (scanI 0 b).2, fun s => b.length - s.1, ⟨(0, []), ⟨Nat.zero_le _, Nat.le_refl _, rfl, rfl⟩, ⟨⟨rfl, rfl⟩, .refl _, .refl _, .nilO .., trivial⟩⟩, fun ((i, o) : Nat × List (Int × ByteArray × Int × Int)) hi => ?_⟩
    have h1 : i ≤ b.length := hi.1
    have h2 : o.length ≤ i := hi.2.1
    have h3 : o ++ (scanI i (b.drop i)).1 = (scanI 0 b).1 := hi.2.2.1
    have h4 : (scanI i (b.drop i)).2 = (scanI 0 b).2 := hi.2.2.2
    have hwj : IntKind.i64.wrap ((i : Int) + 1) = ((i + 1 : Nat) : Int) := by rw [wrap_eq _ (by omega) (by omega)]; omega
    have di : (i : Int).toNat = i := by omega
    refine ⟨fun h => ?_, fun h => ?_⟩
    · have hlt : i < b.length := by have := of_decide_eq_true h; omega
      have hdl : 0 < (b.drop i).length := by rw [List.length_drop]; omega
      have hg : (b.drop i).getD 0 0 = b.getD i 0 := by simp [List.getD, List.getElem?_drop]
      refine ⟨by omega, ?_⟩
      refine ⟨(blanksB, b.getD i 0), ⟨.refl _, .refl _, trivial⟩, rfl, trivial, ?_⟩
      have hbl : decide (Lib.indexByte blanksB.data.toList (b.getD i 0) ≥ 0) = isBlank (b.getD i 0) := idx_has _ _
      refine ⟨fun h => ?_, fun h => ?_⟩
      · have h : decide (Lib.indexByte blanksB.data.toList (b.getD i 0) ≥ 0) = true := h
        rw [hbl] at h
        have e := scanI_blank i (b.drop i) hdl (by rw [hg]; exact h)
        rw [List.drop_drop] at e
        rw [e] at h3 h4
        exact ⟨(i + 1, o), ⟨hlt, by show o.length ≤ i + 1; omega, h3, h4⟩, by show b.length - (i + 1) < b.length - i; omega, ⟨rfl, rfl⟩, .refl _, .int hwj, .refl _, trivial⟩
      have h : decide (Lib.indexByte blanksB.data.toList (b.getD i 0) ≥ 0) = false := h
      rw [hbl] at h
      refine ⟨by omega, ?_⟩
      refine ⟨b.drop i, ⟨.refl _, trivial⟩, rfl, (show (b.drop i).length ≤ 1000000 by rw [List.length_drop]; omega), ?_⟩
      have hwl := wordF_le (b.drop i)
      rw [List.length_drop] at hwl
      have hww : IntKind.i64.wrap ((i : Int) + ((wordF (b.drop i) : Nat) : Int)) = ((i + wordF (b.drop i) : Nat) : Int) := by rw [wrap_eq _ (by omega) (by omega)]; omega
      have htk : (b.take (i + wordF (b.drop i))).drop i = (b.drop i).take (wordF (b.drop i)) := by
        rw [List.drop_take]; congr 1; omega
      refine ⟨⟨by omega, by show (i : Int) ≤ IntKind.i64.wrap ((i : Int) + ((wordF (b.drop i) : Nat) : Int)); omega, by show IntKind.i64.wrap ((i : Int) + ((wordF (b.drop i) : Nat) : Int)) ≤ (b.length : Int); omega⟩, ?_⟩
      refine ⟨(b.drop i).take (wordF (b.drop i)), ?_, ?_⟩
      · show Sub (.row UInt8 1 byteC 0 ((b.take (IntKind.i64.wrap ((i : Int) + ((wordF (b.drop i) : Nat) : Int))).toNat).drop (i : Int).toNat)) _
        rw [hww, di, show ((i + wordF (b.drop i) : Nat) : Int).toNat = i + wordF (b.drop i) by omega, htk]
        exact .refl _
      refine ⟨(b.drop i).take (wordF (b.drop i)), ⟨.refl _, trivial⟩, rfl, (show ((b.drop i).take (wordF (b.drop i))).length ≤ 4611686018427387904 by rw [List.length_take, List.length_drop]; omega), ?_⟩
      refine ⟨fun h5 => ?_, fun h5 => ?_⟩
      · have h5 : (tokenF ((b.drop i).take (wordF (b.drop i)))).2 = false := by simpa using h5
        have e := scanI_bad i (b.drop i) hdl (by rw [hg]; exact h) h5
        rw [e] at h4
        have e2 : scanF b = ([], (i : Int), 3) := by rw [e0, ← h4]
        exact ⟨(show Sub _ (.tup [.own (Int × ByteArray × Int × Int) 4 tokC tok0 (scanF b).1 id, I (scanF b).2.1, I (scanF b).2.2]) by rw [e2]; exact .tup3 (.nilO ..) (.refl _) (.refl _)), rfl⟩
      · have h5 : (tokenF ((b.drop i).take (wordF (b.drop i)))).2 = true := by simpa using h5
        have hp := word_pos h5
        have e := scanI_tok i (b.drop i) hdl (by rw [hg]; exact h) h5
        rw [List.drop_drop] at e
        rw [e] at h3 h4
        refine ⟨(Int × ByteArray × Int × Int), tokC, tok0, [setAt (tokenF ((b.drop i).take (wordF (b.drop i)))).1 i], ⟨rfl, fun _ => rfl⟩, ⟨.refl _, .refl _, .refl _, .refl _, trivial⟩, rfl, ?_⟩
        refine ⟨(Int × ByteArray × Int × Int), tokC, tok0, o, [setAt (tokenF ((b.drop i).take (wordF (b.drop i)))).1 i], 47, ⟨.refl _, .own ..⟩, fun _ => rfl, (by simp only [List.length_cons, List.length_nil]; omega), ?_⟩
        exact ⟨(i + wordF (b.drop i), o ++ [setAt (tokenF ((b.drop i).take (wordF (b.drop i)))).1 i]), ⟨by omega, by show (o ++ [_]).length ≤ i + wordF (b.drop i); rw [List.length_append, List.length_singleton]; omega, by rw [List.append_assoc]; exact h3, h4⟩, by show b.length - (i + wordF (b.drop i)) < b.length - i; omega, ⟨rfl, rfl⟩, .refl _, .int hww, .refl _, trivial⟩
    · have hge : i = b.length := by have := of_decide_eq_false h; omega
      rw [List.drop_of_length_le (by omega), scanI_nil] at h3 h4
      have e2 : scanF b = (o, 0, 0) := by rw [e0, ← h4, ← h3]; simp
      exact ⟨(show Sub _ (.tup [.own (Int × ByteArray × Int × Int) 4 tokC tok0 (scanF b).1 id, I (scanF b).2.1, I (scanF b).2.2]) by rw [e2]; exact .tup3 (.refl _) (.refl _) (.refl _)), rfl⟩
end Go.Proofs.YtimhbimpaiiceaaGreatDoor.Ax
/- Layer show: what Go's library answers about rows of texts, as the logic's contracts. -/
set_option linter.unusedVariables false
set_option linter.unusedSimpArgs false
namespace Go.Proofs.YtimhbimpaiiceaaGreatDoor.Ax
open Go Go.RowKit
/-- the package variables that the library reads in this layer -/
def tabS (w : World) : Prop := Lib.TabIs Tryz.prog w "internal/strconv.uint64pow10" .u64 Lib.pow10Tab ∧ Lib.TabIs Tryz.prog w "strings.asciiSpace" .u8 Lib.asciiSpaceTab
def strC (s : ByteArray) : List SV := [S s]
theorem str_cells {H : HM} {w : World} (hs : Sealed H w) {l : List ByteArray} {v : Value} (h : G H noB noT (.row ByteArray 1 strC ⟨#[]⟩ l) v) :
    ∃ p cap, v = .slice p l.length cap ∧ (l ≠ [] → ∃ b o, p = some ⟨b, o, none⟩ ∧ l.length ≤ cap ∧ ∀ (i : Nat), i < l.length → w.cell? ⟨b, o + i, none⟩ = some (.string (l.getD i ⟨#[]⟩))) := by
  cases h with
  | rowE _ _ _ _ a c => exact ⟨a, c, rfl, fun h => absurd rfl h⟩
  | row _ _ _ _ _ b off c vs hc hz hH hG =>
    refine ⟨_, c, rfl, fun _ => ⟨b, off, rfl, hc, fun i hi => ?_⟩⟩
    have h1 := hs _ _ _ (hH i 0 hi (by omega))
    have h2 := hG i 0 hi (by omega)
    have h3 : vs i 0 = .string (l.getD i ⟨#[]⟩) := gval' (show G H noB noT (.val (.string (l.getD i ⟨#[]⟩))) _ from h2)
    rw [Nat.mul_one, Nat.add_zero] at h1
    rw [h1, h3]
def hasC : Ctr := { A := List ByteArray × ByteArray, enc := fun x => [.row ByteArray 1 strC ⟨#[]⟩ x.1, S x.2], dom := fun x => x.1.length ≤ 4611686018427387904, res := fun x _ => B (Lib.containsS x.1 x.2) }
theorem has_ok : CtrSound Tryz.prog 25 hasC := by
  refine ctr_pure ⟨_, Tryz.func25, by kernel_rfl, by kernel_rfl⟩ fun x H w vs id hd hgl hs hn hg => ?_
  obtain ⟨u, v, rfl, h1, h2⟩ := args2 hn hg
  obtain ⟨l, s⟩ := x
  have hd : l.length ≤ 4611686018427387904 := hd
  rw [gval' h2]
  obtain ⟨p, cap, rfl, h3⟩ := str_cells hs h1
  by_cases hl : l = []
  · subst hl
    refine (Tryz.slices_Contains_string_empty p cap s w).mono ?_
    rintro e w' ⟨rfl, rfl⟩
    exact ⟨_, rfl, .refl _ _, .val _⟩
  · obtain ⟨b, o, rfl, hc, h4⟩ := h3 hl
    refine (Tryz.slices_Contains_string b o l.length cap l s w (Nat.le_refl _) (by omega) (fun j hj => h4 j hj)).mono ?_
    rintro e w' ⟨rfl, rfl⟩
    exact ⟨_, rfl, .refl _ _, by rw [List.take_length]; exact .val _⟩
def atC : Ctr := { A := List ByteArray × ByteArray, enc := fun x => [.row ByteArray 1 strC ⟨#[]⟩ x.1, S x.2], dom := fun x => x.1.length ≤ 4611686018427387904, res := fun x _ => I (Lib.idxOfS x.1 x.2) }
theorem at_ok : CtrSound Tryz.prog 22 atC := by
  refine ctr_pure ⟨_, Tryz.func22, by kernel_rfl, by kernel_rfl⟩ fun x H w vs id hd hgl hs hn hg => ?_
  obtain ⟨u, v, rfl, h1, h2⟩ := args2 hn hg
  obtain ⟨l, s⟩ := x
  have hd : l.length ≤ 4611686018427387904 := hd
  rw [gval' h2]
  obtain ⟨p, cap, rfl, h3⟩ := str_cells hs h1
  by_cases hl : l = []
  · subst hl
    refine (Tryz.slices_Index_string_empty p cap s w).mono ?_
    rintro e w' ⟨rfl, rfl⟩
    exact ⟨_, rfl, .refl _ _, .val _⟩
  · obtain ⟨b, o, rfl, hc, h4⟩ := h3 hl
    refine (Tryz.slices_Index_string b o l.length cap l s w (Nat.le_refl _) (by omega) (fun j hj => h4 j hj)).mono ?_
    rintro e w' ⟨rfl, rfl⟩
    exact ⟨_, rfl, .refl _ _, by rw [List.take_length]; exact .val _⟩
def wordsF (s : ByteArray) : List ByteArray := (Lib.fields s.data.toList).map fun l => ⟨l.toArray⟩
def fieldsC : Ctr := { A := ByteArray, enc := fun s => [S s], dom := fun s => s.size < 4294967281 ∧ ∀ (j : Nat) (b : UInt8), s.data.toList[j]? = some b → b.toNat < 128, res := fun s id => .own ByteArray 1 strC ⟨#[]⟩ (wordsF s) id, gl := tabS }
theorem fields_ok : CtrSound Tryz.prog 26 fieldsC := by
  refine ⟨⟨_, Tryz.func26, by kernel_rfl, by kernel_rfl⟩, fun s H w vs id hd hs hgl hn hg => ?_⟩
  obtain ⟨u, rfl, h1⟩ := args1 hn hg
  rw [gval' h1]
  refine (Tryz.strings_Fields_laid s w hd.1 hd.2 (hgl w hs ⟨Nat.le_refl _, fun _ _ => rfl⟩).2).mono ?_
  rintro e w' ⟨rfl, rfl⟩
  have hlen : (wordsF s).length = (Lib.fields s.data.toList).length := by simp [wordsF]
  have hsl : ∀ b o v, H b o = some v → b < w.heap.size := fun b o v e => World.block_lt_of_cell? w _ (hs b o v e)
  have hcell : ∀ b o, b < w.heap.size → (w.alloc (Go.Obj.cells (List.map (fun l => Go.Value.string { data := l.toArray }) (Go.Lib.fields s.data.toList)).toArray 9)).cell? ⟨b, o, none⟩ = w.cell? ⟨b, o, none⟩ := fun b o h => World.cell?_alloc_lt _ _ _ h
  have hnew : ∀ o, o < (wordsF s).length → (w.alloc (Go.Obj.cells (List.map (fun l => Go.Value.string { data := l.toArray }) (Go.Lib.fields s.data.toList)).toArray 9)).cell? ⟨w.heap.size, o, none⟩ = some (.string ((wordsF s).getD o ⟨#[]⟩)) := by
    intro o ho
    rw [hlen] at ho
    rw [World.cell?_alloc_new]; simp [wordsF, List.getD, ho]
  let H' : HM := fun b o => if b = w.heap.size ∧ o < (wordsF s).length then some (.string ((wordsF s).getD o ⟨#[]⟩)) else H b o
  have hH' : ∀ b o, b < w.heap.size → H' b o = H b o := fun b o h => if_neg (fun c => by omega)
  have hHn : ∀ o, o < (wordsF s).length → H' w.heap.size o = some (.string ((wordsF s).getD o ⟨#[]⟩)) := fun o h => if_pos ⟨rfl, h⟩
  have key : ∀ H2 : HM, (∀ o, o < (wordsF s).length → H2 w.heap.size o = some (.string ((wordsF s).getD o ⟨#[]⟩))) → G H2 noB noT (fieldsC.res s id) (Go.Value.slice (some { block := w.heap.size, off := 0 }) (Go.Lib.fields s.data.toList).length (Go.Lib.fields s.data.toList).length) := by
    intro H2 h2
    rw [← hlen]
    refine .own ByteArray 1 strC ⟨#[]⟩ (wordsF s) id w.heap.size 0 _ (fun i _ => .string ((wordsF s).getD i ⟨#[]⟩)) (Nat.le_refl _) (fun _ _ => rfl) (fun i j hi hj => ?_) (fun i j hi hj => ?_) (fun o h1 h2 => by omega)
    · rw [show 0 + i * 1 + j = i by omega]; exact h2 i hi
    · rw [show j = 0 by omega]; exact .val _
  refine ⟨_, H', noT, rfl, ⟨rfl, rfl, rfl, by simp, fun k hk => Below.heap_alloc _ _ _ hk⟩, fun b o v e => by rw [hH' b o (hsl b o v e)]; exact e, hH', fun _ _ _ h => (by cases h), fun b o v e => ⟨?_, rfl⟩, key H' hHn, fun _ => key _ (fun o h => ?_)⟩
  · by_cases c : b = w.heap.size ∧ o < (wordsF s).length
    · obtain ⟨rfl, c⟩ := c
      rw [hHn o c] at e
      rw [hnew o c]; exact e
    · have e2 : H b o = some v := by have := e; simp only [H'] at this; rwa [if_neg c] at this
      rw [hcell b o (hsl b o v e2)]; exact hs b o v e2
  · unfold newH
    rw [if_neg (by omega)]; exact hHn o h
end Go.Proofs.YtimhbimpaiiceaaGreatDoor.Ax
/- Layer show: the words of instructions, the kept ones. -/
set_option linter.unusedVariables false
set_option linter.unusedSimpArgs false
namespace Go.Proofs.YtimhbimpaiiceaaGreatDoor.Ax
open Go Go.RowKit
def keptB : ByteArray := ⟨#[99, 108, 97, 115, 115, 32, 105, 110, 116, 101, 114, 102, 97, 99, 101, 32, 101, 120, 116, 101, 110, 100, 115, 32, 105, 109, 112, 108, 101, 109, 101, 110, 116, 115, 32, 102, 105, 101, 108, 100, 32, 115, 116, 97, 116, 105, 99, 32, 109, 101, 116, 104, 111, 100, 32, 102, 117, 110, 99, 116, 105, 111, 110, 32, 108, 111, 99, 97, 108, 115, 32, 99, 97, 116, 99, 104, 32, 105, 110, 116, 32, 118, 111, 105, 100]⟩
def keptL : List ByteArray := [⟨#[99, 108, 97, 115, 115]⟩, ⟨#[105, 110, 116, 101, 114, 102, 97, 99, 101]⟩, ⟨#[101, 120, 116, 101, 110, 100, 115]⟩, ⟨#[105, 109, 112, 108, 101, 109, 101, 110, 116, 115]⟩, ⟨#[102, 105, 101, 108, 100]⟩, ⟨#[115, 116, 97, 116, 105, 99]⟩, ⟨#[109, 101, 116, 104, 111, 100]⟩, ⟨#[102, 117, 110, 99, 116, 105, 111, 110]⟩, ⟨#[108, 111, 99, 97, 108, 115]⟩, ⟨#[99, 97, 116, 99, 104]⟩, ⟨#[105, 110, 116]⟩, ⟨#[118, 111, 105, 100]⟩]
def opsB : ByteArray := ⟨#[110, 111, 112, 32, 99, 111, 110, 115, 116, 32, 110, 117, 108, 108, 32, 108, 111, 97, 100, 32, 115, 116, 111, 114, 101, 32, 112, 111, 112, 32, 100, 117, 112, 32, 115, 119, 97, 112, 32, 97, 100, 100, 32, 115, 117, 98, 32, 109, 117, 108, 32, 100, 105, 118, 32, 114, 101, 109, 32, 110, 101, 103, 32, 103, 111, 116, 111, 32, 105, 102, 101, 113, 32, 105, 102, 110, 101, 32, 105, 102, 108, 116, 32, 105, 102, 103, 101, 32, 99, 109, 112, 101, 113, 32, 99, 109, 112, 110, 101, 32, 99, 109, 112, 108, 116, 32, 99, 109, 112, 103, 101, 32, 105, 102, 110, 117, 108, 108, 32, 105, 102, 114, 101, 102, 32, 115, 97, 109, 101, 32, 111, 116, 104, 101, 114, 32, 110, 101, 119, 32, 103, 101, 116, 32, 112, 117, 116, 32, 103, 101, 116, 115, 32, 112, 117, 116, 115, 32, 105, 110, 116, 115, 32, 114, 101, 102, 115, 32, 108, 101, 110, 32, 97, 116, 32, 115, 101, 116, 32, 105, 115, 32, 99, 97, 115, 116, 32, 99, 97, 108, 108, 32, 102, 117, 110, 99, 32, 114, 101, 116, 32, 108, 101, 97, 118, 101, 32, 116, 104, 114, 111, 119]⟩
def opsL : List ByteArray := [⟨#[110, 111, 112]⟩, ⟨#[99, 111, 110, 115, 116]⟩, ⟨#[110, 117, 108, 108]⟩, ⟨#[108, 111, 97, 100]⟩, ⟨#[115, 116, 111, 114, 101]⟩, ⟨#[112, 111, 112]⟩, ⟨#[100, 117, 112]⟩, ⟨#[115, 119, 97, 112]⟩, ⟨#[97, 100, 100]⟩, ⟨#[115, 117, 98]⟩, ⟨#[109, 117, 108]⟩, ⟨#[100, 105, 118]⟩, ⟨#[114, 101, 109]⟩, ⟨#[110, 101, 103]⟩, ⟨#[103, 111, 116, 111]⟩, ⟨#[105, 102, 101, 113]⟩, ⟨#[105, 102, 110, 101]⟩, ⟨#[105, 102, 108, 116]⟩, ⟨#[105, 102, 103, 101]⟩, ⟨#[99, 109, 112, 101, 113]⟩, ⟨#[99, 109, 112, 110, 101]⟩, ⟨#[99, 109, 112, 108, 116]⟩, ⟨#[99, 109, 112, 103, 101]⟩, ⟨#[105, 102, 110, 117, 108, 108]⟩, ⟨#[105, 102, 114, 101, 102]⟩, ⟨#[115, 97, 109, 101]⟩, ⟨#[111, 116, 104, 101, 114]⟩, ⟨#[110, 101, 119]⟩, ⟨#[103, 101, 116]⟩, ⟨#[112, 117, 116]⟩, ⟨#[103, 101, 116, 115]⟩, ⟨#[112, 117, 116, 115]⟩, ⟨#[105, 110, 116, 115]⟩, ⟨#[114, 101, 102, 115]⟩, ⟨#[108, 101, 110]⟩, ⟨#[97, 116]⟩, ⟨#[115, 101, 116]⟩, ⟨#[105, 115]⟩, ⟨#[99, 97, 115, 116]⟩, ⟨#[99, 97, 108, 108]⟩, ⟨#[102, 117, 110, 99]⟩, ⟨#[114, 101, 116]⟩, ⟨#[108, 101, 97, 118, 101]⟩, ⟨#[116, 104, 114, 111, 119]⟩]
theorem kept_words : wordsF keptB = keptL := by decide +kernel
theorem ops_words : wordsF opsB = opsL := by decide +kernel
theorem ascii_dom {s : ByteArray} (h1 : s.size < 4294967281) (h2 : (s.data.toList.all fun b => decide (b.toNat < 128)) = true) : s.size < 4294967281 ∧ ∀ (j : Nat) (b : UInt8), s.data.toList[j]? = some b → b.toNat < 128 :=
  ⟨h1, fun j b hb => of_decide_eq_true (List.all_eq_true.1 h2 b (List.mem_of_getElem? hb))⟩
theorem kept_dom : fieldsC.dom keptB := ascii_dom (s := keptB) (by decide +kernel) (by decide +kernel)
theorem ops_dom : fieldsC.dom opsB := ascii_dom (s := opsB) (by decide +kernel) (by decide +kernel)
def keptF (l : List UInt8) : Bool := Lib.containsS keptL ⟨l.toArray⟩
def keptC : Ctr := { A := List UInt8, enc := fun l => [X l], dom := fun _ => True, res := fun l _ => B (keptF l), gl := tabS }
set_option maxRecDepth 100000 in
theorem kept_ok : CtrSound Tryz.prog 12 keptC :=
  ctr_of_ax (env_okB tys_ok (eqs := []) trivial (cs := [(26, fieldsC), (25, hasC)]) ⟨fields_ok, has_ok, trivial⟩ (bs := []) trivial (gl := tabS)) mixed _ Tryz.func12 (by kernel_rfl) rfl (fun _ _ => Nat.le_of_ble_eq_true rfl) fun (l : List UInt8) id hd => by
    refine ⟨keptB, ⟨.str (by kernel_rfl), trivial⟩, rfl, kept_dom, ?_⟩
    refine ⟨(wordsF keptB, ⟨l.toArray⟩), ⟨.own .., .refl _, trivial⟩, rfl, (show (wordsF keptB).length ≤ 4611686018427387904 by rw [kept_words]; decide), ?_⟩
    exact ⟨.bool (by show Lib.containsS (wordsF keptB) _ = _; rw [kept_words]; rfl), rfl⟩
def opsC : Ctr := { A := Unit, enc := fun _ => [], dom := fun _ => True, res := fun _ id => .own ByteArray 1 strC ⟨#[]⟩ opsL id, gl := tabS }
set_option maxRecDepth 100000 in
theorem ops_ok : CtrSound Tryz.prog 23 opsC :=
  ctr_of_ax (env_okB tys_ok (eqs := []) trivial (cs := [(26, fieldsC)]) ⟨fields_ok, trivial⟩ (bs := []) trivial (gl := tabS)) mixed _ Tryz.func23 (by kernel_rfl) rfl (fun _ _ => Nat.le_of_ble_eq_true rfl) fun (_ : Unit) id hd => by
    refine ⟨opsB, ⟨.str (by kernel_rfl), trivial⟩, rfl, ops_dom, ?_⟩
    exact ⟨.ownEq ops_words, rfl⟩
def wordF2 (n : Int) : ByteArray := if n < 0 ∨ 44 ≤ n then ⟨#[]⟩ else opsL.getD n.toNat ⟨#[]⟩
def pwordC : Ctr := { A := Int, enc := fun n => [I n], dom := fun _ => True, res := fun n _ => S (wordF2 n), gl := tabS }
set_option maxRecDepth 100000 in
theorem pword_ok : CtrSound Tryz.prog 14 pwordC :=
  ctr_of_ax (env_okB tys_ok (eqs := []) trivial (cs := [(23, opsC)]) ⟨ops_ok, trivial⟩ (bs := []) trivial (gl := tabS)) mixed _ Tryz.func14 (by kernel_rfl) rfl (fun _ _ => Nat.le_of_ble_eq_true rfl) fun (n : Int) id hd => by
    refine ⟨fun h => ?_, fun h => ?_⟩
    · exact ⟨.str (by unfold wordF2; rw [if_pos (.inl (of_decide_eq_true h))]), rfl⟩
    have h0 : ¬ n < 0 := of_decide_eq_false h
    refine ⟨fun h => ?_, fun h => ?_⟩
    · exact ⟨.str (by unfold wordF2; rw [if_pos (.inr (of_decide_eq_true h))]), rfl⟩
    have h1 : ¬ n ≥ 44 := of_decide_eq_false h
    have hl : opsL.length = 44 := by decide
    refine ⟨(), trivial, rfl, trivial, ?_⟩
    refine ⟨⟨by omega, by rw [hl]; show n < ((44 : Nat) : Int); omega⟩, ?_⟩
    exact ⟨.str (by unfold wordF2; rw [if_neg (by omega)]), rfl⟩
end Go.Proofs.YtimhbimpaiiceaaGreatDoor.Ax
/- Layer show: types. -/
set_option linter.unusedVariables false
set_option linter.unusedSimpArgs false
namespace Go.Proofs.YtimhbimpaiiceaaGreatDoor.Ax
open Go Go.RowKit
theorem eqT {a b : Int} (h : (a == b) = true) : a = b := eq_of_beq h
theorem eqF {a b : Int} (h : (a == b) = false) : a ≠ b := fun c => by rw [c] at h; simp at h
def tyS (t : Int × ByteArray) : SV := .agg [I t.1, S t.2]
end Go.Proofs.YtimhbimpaiiceaaGreatDoor.Ax
/- Layer show: what instructions have. -/
set_option linter.unusedVariables false
set_option linter.unusedSimpArgs false
namespace Go.Proofs.YtimhbimpaiiceaaGreatDoor.Ax
open Go Go.RowKit
theorem noTF {b : Bool} (h : b = true) (c : b = false) : False := by rw [h] at c; cases c
def jumpF (n : Int) : Bool := decide (14 ≤ n ∧ n ≤ 26)
def jumpC : Ctr := { A := Int, enc := fun x => [I x], dom := fun _ => True, res := fun x _ => B (jumpF x) }
theorem jump_ok : CtrSound Tryz.prog 90 jumpC :=
  ctr_of_ax (env_ok tys_ok (eqs := []) trivial (cs := []) trivial) mixed _ Tryz.func90 (by kernel_rfl) rfl (fun _ _ => Nat.le_of_ble_eq_true rfl) fun (n : Int) id _ => by
    refine ⟨fun h => ?_, fun h => ?_⟩
    · have h1 : n ≥ 14 := of_decide_eq_true h
      exact ⟨.bool (by show decide (n ≤ 26) = jumpF n; unfold jumpF; rw [Bool.eq_iff_iff]; simp; omega), rfl⟩
    · have h1 : ¬ n ≥ 14 := of_decide_eq_false h
      exact ⟨.bff (by unfold jumpF; simp; omega), rfl⟩
def numsF (n : Int) : Int × Int × Bool := if n = 1 then (-2147483648, 2147483647, true) else if n = 3 ∨ n = 4 then (0, 7, true) else if jumpF n then (0, 47, true) else (0, 0, false)
def numsC : Ctr := { A := Int, enc := fun x => [I x], dom := fun _ => True, res := fun x _ => .tup [I (numsF x).1, I (numsF x).2.1, B (numsF x).2.2] }
theorem nums_ok : CtrSound Tryz.prog 82 numsC :=
  ctr_of_ax (env_ok tys_ok (eqs := []) trivial (cs := [(90, jumpC)]) ⟨jump_ok, trivial⟩) mixed _ Tryz.func82 (by kernel_rfl) rfl (fun _ _ => Nat.le_of_ble_eq_true rfl) fun (n : Int) id _ => by
    have fin : ∀ (a b : Int) (c : Bool) (s : SV), numsF n = (a, b, c) → Sub s (B c) → Sub (.tup [I a, I b, s]) (.tup [I (numsF n).1, I (numsF n).2.1, B (numsF n).2.2]) := fun a b c s e h => by rw [e]; exact .tup3 (.refl _) (.refl _) h
    refine ⟨fun h => ?_, fun h => ?_⟩
    · exact ⟨fin _ _ true _ (if_pos (eqT h)) .tt, rfl⟩
    have h1 := eqF h
    refine ⟨fun h => ?_, fun h => ?_⟩
    · exact ⟨fin _ _ true _ ((if_neg h1).trans (if_pos (.inl (eqT h)))) .tt, rfl⟩
    have h3 := eqF h
    refine ⟨fun h => ?_, fun h => ?_⟩
    · exact ⟨fin _ _ true _ ((if_neg h1).trans (if_pos (.inr (eqT h)))) .tt, rfl⟩
    have h4 := eqF h
    refine ⟨n, ⟨.refl _, trivial⟩, rfl, trivial, ?_⟩
    refine ⟨fun h => ?_, fun h => ?_⟩
    · exact ⟨fin _ _ true _ ((if_neg h1).trans ((if_neg (fun c => c.elim h3 h4)).trans (if_pos h))) .tt, rfl⟩
    · exact ⟨fin _ _ false _ ((if_neg h1).trans ((if_neg (fun c => c.elim h3 h4)).trans (if_neg (by rw [show jumpF n = false from h]; decide)))) .ff, rfl⟩
def namesF (n : Int) : Int := if n = 27 ∨ n = 33 ∨ n = 37 ∨ n = 38 then 1 else if n = 28 ∨ n = 29 ∨ n = 30 ∨ n = 31 ∨ n = 39 ∨ n = 40 then 2 else 0
def namesC : Ctr := { A := Int, enc := fun x => [I x], dom := fun _ => True, res := fun x _ => I (namesF x) }
theorem names_ok : CtrSound Tryz.prog 83 namesC :=
  ctr_of_ax (env_ok tys_ok (eqs := []) trivial (cs := []) trivial) mixed _ Tryz.func83 (by kernel_rfl) rfl (fun _ _ => Nat.le_of_ble_eq_true rfl) fun (n : Int) id _ => by
    have one : (n = 27 ∨ n = 33 ∨ n = 37 ∨ n = 38) → 1 = namesF n := fun h => (if_pos h).symm
    have two : (n = 28 ∨ n = 29 ∨ n = 30 ∨ n = 31 ∨ n = 39 ∨ n = 40) → 2 = namesF n := fun h => by unfold namesF; rw [if_neg (by omega), if_pos h]
    refine ⟨fun h => ⟨fun _ => ⟨.int (one (.inl (eqT h))), rfl⟩, fun c => (noTF h c).elim⟩, fun h1 => ?_⟩
    refine ⟨fun h => ⟨fun _ => ⟨.int (one (.inr (.inl (eqT h)))), rfl⟩, fun c => (noTF h c).elim⟩, fun h2 => ?_⟩
    refine ⟨fun h => ⟨fun _ => ⟨.int (one (.inr (.inr (.inl (eqT h))))), rfl⟩, fun c => (noTF h c).elim⟩, fun h3 => ?_⟩
    refine ⟨fun h => ⟨.int (one (.inr (.inr (.inr (eqT h))))), rfl⟩, fun h4 => ?_⟩
    refine ⟨fun h => ⟨fun _ => ⟨.int (two (.inl (eqT h))), rfl⟩, fun c => (noTF h c).elim⟩, fun h5 => ?_⟩
    refine ⟨fun h => ⟨fun _ => ⟨.int (two (.inr (.inl (eqT h)))), rfl⟩, fun c => (noTF h c).elim⟩, fun h6 => ?_⟩
    refine ⟨fun h => ⟨fun _ => ⟨.int (two (.inr (.inr (.inl (eqT h))))), rfl⟩, fun c => (noTF h c).elim⟩, fun h7 => ?_⟩
    refine ⟨fun h => ⟨fun _ => ⟨.int (two (.inr (.inr (.inr (.inl (eqT h)))))), rfl⟩, fun c => (noTF h c).elim⟩, fun h8 => ?_⟩
    refine ⟨fun h => ⟨fun _ => ⟨.int (two (.inr (.inr (.inr (.inr (.inl (eqT h))))))), rfl⟩, fun c => (noTF h c).elim⟩, fun h9 => ?_⟩
    refine ⟨fun h => ⟨.int (two (.inr (.inr (.inr (.inr (.inr (eqT h))))))), rfl⟩, fun h10 => ?_⟩
    have e1 := eqF h1; have e2 := eqF h2; have e3 := eqF h3; have e4 := eqF h4; have e5 := eqF h5; have e6 := eqF h6; have e7 := eqF h7; have e8 := eqF h8; have e9 := eqF h9; have e10 := eqF h10
    exact ⟨.int (by unfold namesF; rw [if_neg (by omega), if_neg (by omega)]), rfl⟩
end Go.Proofs.YtimhbimpaiiceaaGreatDoor.Ax
/- Layer parse: what a reader of words does, in plain Lean. -/
set_option linter.unusedVariables false
set_option linter.unusedSimpArgs false
namespace Go.Proofs.YtimhbimpaiiceaaGreatDoor.Ax
open Go Go.RowKit
abbrev Ty := Int × ByteArray
structure Fld where
  name : ByteArray
  type : Ty
  static : Bool
structure Ins where
  op : Int
  n : Int
  a : ByteArray
  b : ByteArray
structure Cat where
  name : ByteArray
  fr : Int
  up : Int
  at' : Int
structure Meth where
  name : ByteArray
  static : Bool
  abs : Bool
  params : List Ty
  ret : Ty
  locals : Int
  code : List Ins
  catches : List Cat
structure Cls where
  name : ByteArray
  iface : Bool
  super : ByteArray
  ifaces : List ByteArray
  fields : List Fld
  methods : List Meth
instance : DecidableEq Fld := fun a b => decidable_of_iff (a.name = b.name ∧ a.type = b.type ∧ a.static = b.static) (by cases a; cases b; simp)
instance : DecidableEq Ins := fun a b => decidable_of_iff (a.op = b.op ∧ a.n = b.n ∧ a.a = b.a ∧ a.b = b.b) (by cases a; cases b; simp)
instance : DecidableEq Cat := fun a b => decidable_of_iff (a.name = b.name ∧ a.fr = b.fr ∧ a.up = b.up ∧ a.at' = b.at') (by cases a; cases b; simp)
instance : DecidableEq Meth := fun a b => decidable_of_iff (a.name = b.name ∧ a.static = b.static ∧ a.abs = b.abs ∧ a.params = b.params ∧ a.ret = b.ret ∧ a.locals = b.locals ∧ a.code = b.code ∧ a.catches = b.catches) (by cases a; cases b; simp)
instance : DecidableEq Cls := fun a b => decidable_of_iff (a.name = b.name ∧ a.iface = b.iface ∧ a.super = b.super ∧ a.ifaces = b.ifaces ∧ a.fields = b.fields ∧ a.methods = b.methods) (by cases a; cases b; simp)
abbrev noS : ByteArray := ⟨#[]⟩
abbrev ty0 : Ty := (0, noS)
abbrev fld0 : Fld := ⟨noS, ty0, false⟩
abbrev ins0 : Ins := ⟨0, 0, noS, noS⟩
abbrev cat0 : Cat := ⟨noS, 0, 0, 0⟩
abbrev meth0 : Meth := ⟨noS, false, false, [], ty0, 0, [], []⟩
abbrev cls0 : Cls := ⟨noS, false, noS, [], [], []⟩
def tyC (t : Ty) : List SV := [I t.1, S t.2]
def fldC (f : Fld) : List SV := [S f.name, I f.type.1, S f.type.2, B f.static]
def insC (x : Ins) : List SV := [I x.op, I x.n, S x.a, S x.b]
def catC (c : Cat) : List SV := [S c.name, I c.fr, I c.up, I c.at']
def methC (m : Meth) : List SV := [S m.name, B m.static, B m.abs, .row Ty 2 tyC ty0 m.params, I m.ret.1, S m.ret.2, I m.locals, .row Ins 4 insC ins0 m.code, .row Cat 4 catC cat0 m.catches]
def clsC (c : Cls) : List SV := [S c.name, B c.iface, S c.super, .row ByteArray 1 strC noS c.ifaces, .row Fld 4 fldC fld0 c.fields, .row Meth 9 methC meth0 c.methods]
abbrev prgR (l : List Cls) : SV := .row Cls 6 clsC cls0 l

/-- The reader: words, where the text ends, the next word, where something is wrong, what. -/
structure Rs where
  L : List Tok
  n : Int
  i : Nat
  at' : Int
  e : Int
def rsC (r : Rs) : List SV := [.row Tok 4 tokC tok0 r.L, I r.i, I r.n, I r.at', I r.e]
def keptW (s : ByteArray) : Bool := keptF s.data.toList
def opV (s : ByteArray) : Int := Lib.idxOfS opsL s
def wVoid : ByteArray := ⟨#[118, 111, 105, 100]⟩
def wInt : ByteArray := ⟨#[105, 110, 116]⟩
def wLb : ByteArray := ⟨#[91]⟩
def wRb : ByteArray := ⟨#[93]⟩
def wLp : ByteArray := ⟨#[40]⟩
def wRp : ByteArray := ⟨#[41]⟩
def wLc : ByteArray := ⟨#[123]⟩
def wRc : ByteArray := ⟨#[125]⟩
def wComma : ByteArray := ⟨#[44]⟩
def wSemi : ByteArray := ⟨#[59]⟩
def wColon : ByteArray := ⟨#[58]⟩
def wLocals : ByteArray := ⟨#[108, 111, 99, 97, 108, 115]⟩
def wCatch : ByteArray := ⟨#[99, 97, 116, 99, 104]⟩
def wField : ByteArray := ⟨#[102, 105, 101, 108, 100]⟩
def wStatic : ByteArray := ⟨#[115, 116, 97, 116, 105, 99]⟩
def wMethod : ByteArray := ⟨#[109, 101, 116, 104, 111, 100]⟩
def wFunction : ByteArray := ⟨#[102, 117, 110, 99, 116, 105, 111, 110]⟩
def wClass : ByteArray := ⟨#[99, 108, 97, 115, 115]⟩
def wInterface : ByteArray := ⟨#[105, 110, 116, 101, 114, 102, 97, 99, 101]⟩
def wExtends : ByteArray := ⟨#[101, 120, 116, 101, 110, 100, 115]⟩
def wImplements : ByteArray := ⟨#[105, 109, 112, 108, 101, 109, 101, 110, 116, 115]⟩

namespace Rs
def fail (r : Rs) (e : Int) : Rs := if r.e = 0 then ⟨r.L, r.n, r.i, if r.i < r.L.length then (r.L.getD r.i tok0).2.2.2 else r.n, e⟩ else r
def next (r : Rs) : Tok := if r.e = 0 ∧ r.i < r.L.length then r.L.getD r.i tok0 else tok0
def is (r : Rs) (w : ByteArray) : Bool := decide (r.next.2.1 = w) && decide (w ≠ noS)
def step (r : Rs) : Rs := ⟨r.L, r.n, r.i + 1, r.at', r.e⟩
def take (r : Rs) (w : ByteArray) : Rs := if r.is w then r.step else r
def want (r : Rs) (w : ByteArray) : Rs := if r.is w then r.step else r.fail 4
def free (r : Rs) : Bool := decide (r.next.1 = 1) && !keptW r.next.2.1
def freshV (r : Rs) : ByteArray := if r.free then r.next.2.1 else noS
def fresh (r : Rs) : Rs := if r.free then r.step else r.fail 4
def numOk (r : Rs) (lo hi : Int) : Bool := decide (r.next.1 = 2 ∧ lo ≤ r.next.2.2.1 ∧ r.next.2.2.1 ≤ hi)
def numV (r : Rs) (lo hi : Int) : Int := if r.numOk lo hi then r.next.2.2.1 else 0
def num (r : Rs) (lo hi : Int) : Rs := if r.numOk lo hi then r.step else r.fail 4
def room (r : Rs) (many most : Int) : Rs := if many ≥ most then r.fail 2 else r
/-- how many rounds there may be yet -/
def need (r : Rs) : Nat := if r.e = 0 then r.L.length - r.i + 2 else 1
def name1 (r : Rs) (k : Int) : Rs := if r.step.free then r.step.room k 4 else r.step
def namesL : Nat → Rs → List ByteArray → List ByteArray × Rs
  | 0, r, out => (out, r)
  | f + 1, r, out => if r.is wComma then namesL f (r.name1 out.length).fresh (out ++ [(r.name1 out.length).freshV]) else (out, r)
def names (r : Rs) : List ByteArray × Rs := namesL (r.L.length + 2) r.fresh [r.freshV]
def rowR (r : Rs) : Rs := if r.is wLb then r.step.want wRb else r
def kindV (r : Rs) : Ty := if r.is wVoid then (1, noS) else if r.is wInt then (if r.step.is wLb then 4 else 2, noS) else (if r.fresh.is wLb then 5 else 3, r.freshV)
def kind (r : Rs) : Rs := if r.is wVoid then r.step else if r.is wInt then r.step.rowR else r.fresh.rowR
def param1 (r : Rs) (k : Int) : Rs := if r.step.free || r.step.is wInt || r.step.is wVoid then r.step.room k 4 else r.step
def paramsL : Nat → Rs → List Ty → List Ty × Rs
  | 0, r, out => (out, r)
  | f + 1, r, out => if r.is wComma then paramsL f (r.param1 out.length).kind (out ++ [(r.param1 out.length).kindV]) else (out, r)
def params (r : Rs) : List Ty × Rs := if (r.want wLp).is wRp then ([], (r.want wLp).step) else ((paramsL (r.L.length + 2) (r.want wLp).kind [(r.want wLp).kindV]).1, (paramsL (r.L.length + 2) (r.want wLp).kind [(r.want wLp).kindV]).2.want wRp)
def isOp (r : Rs) : Bool := decide (r.next.1 = 1) && decide (0 ≤ opV r.next.2.1)
def in1 (r : Rs) (many : Int) : Rs := (r.room many 48).want r.next.2.1
def in2 (r : Rs) (o : Int) : Rs := if (numsF o).2.2 then r.num (numsF o).1 (numsF o).2.1 else r
def in2V (r : Rs) (o : Int) : Int := if (numsF o).2.2 then r.numV (numsF o).1 (numsF o).2.1 else 0
def in3 (r : Rs) (b : Bool) : Rs := if b then r.fresh else r
def in3V (r : Rs) (b : Bool) : ByteArray := if b then r.freshV else noS
def inArgs (r : Rs) (o : Int) : Rs := ((r.in2 o).in3 (decide (namesF o > 0))).in3 (decide (namesF o > 1))
def inVal (r : Rs) (o : Int) : Ins := ⟨o, r.in2V o, (r.in2 o).in3V (decide (namesF o > 0)), ((r.in2 o).in3 (decide (namesF o > 0))).in3V (decide (namesF o > 1))⟩
def instr (r : Rs) (many : Int) : Ins × Rs := ((r.in1 many).inVal (opV r.next.2.1), ((r.in1 many).inArgs (opV r.next.2.1)).want wSemi)
def codeL : Nat → Rs → List Ins → List Ins × Rs
  | 0, r, out => (out, r)
  | f + 1, r, out => if r.isOp then codeL f (r.instr out.length).2 (out ++ [(r.instr out.length).1]) else (out, r)
def ca1 (r : Rs) (k : Int) : Rs := (r.room k 4).want wCatch
def catV (r : Rs) : Cat := ⟨r.freshV, r.fresh.numV 0 48, (r.fresh.num 0 48).numV 0 48, ((r.fresh.num 0 48).num 0 48).numV 0 48⟩
def catR (r : Rs) : Rs := (((r.fresh.num 0 48).num 0 48).num 0 48).want wSemi
def catchL : Nat → Rs → List Cat → List Cat × Rs
  | 0, r, out => (out, r)
  | f + 1, r, out => if r.is wCatch then catchL f (r.ca1 out.length).catR (out ++ [(r.ca1 out.length).catV]) else (out, r)
def bo1 (r : Rs) : Rs := ((r.want wLocals).num 0 8).want wLc
def boCode (r : Rs) : List Ins × Rs := codeL (r.L.length + 2) r.bo1 []
def boCat (r : Rs) : List Cat × Rs := catchL (r.L.length + 2) r.boCode.2 []
def body (r : Rs) : Rs := r.boCat.2.want wRc
def bodyV (r : Rs) (m : Meth) : Meth := ⟨m.name, m.static, m.abs, m.params, m.ret, (r.want wLocals).numV 0 8, r.boCode.1, r.boCat.1⟩
def mfV (r : Rs) (s : Bool) : Fld := ⟨r.freshV, (r.fresh.want wColon).kindV, s⟩
def mfR (r : Rs) : Rs := (r.fresh.want wColon).kind.want wSemi
def mm1 (r : Rs) : Rs := r.fresh.params.2.kind
def mm1V (r : Rs) (s : Bool) : Meth := ⟨r.freshV, s, r.mm1.is wSemi, r.fresh.params.1, r.fresh.params.2.kindV, 0, [], []⟩
def mmV (r : Rs) (s : Bool) : Meth := if r.mm1.is wSemi then r.mm1V s else r.mm1.bodyV (r.mm1V s)
def mmR (r : Rs) : Rs := if r.mm1.is wSemi then r.mm1.step else r.mm1.body
def memF (r : Rs) (k : Int) : Rs := (r.room k 6).want r.next.2.1
def member (r : Rs) (c : Cls) : Cls × Rs :=
  if r.next.2.1 = wField ∨ r.next.2.1 = wStatic then (⟨c.name, c.iface, c.super, c.ifaces, c.fields ++ [(r.memF c.fields.length).mfV (decide (r.next.2.1 = wStatic))], c.methods⟩, (r.memF c.fields.length).mfR)
  else if r.next.2.1 = wMethod ∨ r.next.2.1 = wFunction then (⟨c.name, c.iface, c.super, c.ifaces, c.fields, c.methods ++ [(r.memF c.methods.length).mmV (decide (r.next.2.1 = wFunction))]⟩, (r.memF c.methods.length).mmR)
  else (c, r.fail 4)
def clsL : Nat → Rs → Cls → Cls × Rs
  | 0, r, c => (c, r)
  | f + 1, r, c => if r.e = 0 then (if r.is wRc then (c, r.step) else clsL f (r.member c).2 (r.member c).1) else (c, r)
def cl1 (r : Rs) (many : Int) : Rs := (if r.is wClass || r.is wInterface then r.room many 10 else r).want (if r.is wInterface then wInterface else wClass)
/-- behind a class' name: its super, its interfaces -/
def ex1 (r : Rs) (ifc : Bool) : (ByteArray × List ByteArray) × Rs := if r.is wExtends then (if ifc then ((noS, r.step.names.1), r.step.names.2) else ((r.step.freshV, []), r.step.fresh)) else ((noS, []), r)
def ex2 (r : Rs) (ifc : Bool) (l : List ByteArray) : List ByteArray × Rs := if !ifc && r.is wImplements then r.step.names else (l, r)
def clV (r : Rs) (many : Int) : Cls := ⟨(r.cl1 many).freshV, r.is wInterface, ((r.cl1 many).fresh.ex1 (r.is wInterface)).1.1, (((r.cl1 many).fresh.ex1 (r.is wInterface)).2.ex2 (r.is wInterface) ((r.cl1 many).fresh.ex1 (r.is wInterface)).1.2).1, [], []⟩
def clR (r : Rs) (many : Int) : Rs := ((((r.cl1 many).fresh.ex1 (r.is wInterface)).2.ex2 (r.is wInterface) ((r.cl1 many).fresh.ex1 (r.is wInterface)).1.2).2).want wLc
def class' (r : Rs) (many : Int) : Cls × Rs := clsL (r.L.length + 2) (r.clR many) (r.clV many)
def prgL : Nat → Rs → List Cls → List Cls × Rs
  | 0, r, out => (out, r)
  | f + 1, r, out => if r.e = 0 ∧ r.i < r.L.length then prgL f (r.class' out.length).2 (out ++ [(r.class' out.length).1]) else (out, r)
end Rs
def parse0 (l : List UInt8) : Rs := ⟨(scanF l).1, l.length, 0, 0, 0⟩
def parseF (l : List UInt8) : List Cls × Int × Int :=
  if (scanF l).2.2 = 0 then (if (Rs.prgL ((scanF l).1.length + 2) (parse0 l) []).2.e = 0 then ((Rs.prgL ((scanF l).1.length + 2) (parse0 l) []).1, 0, 0) else ([], (Rs.prgL ((scanF l).1.length + 2) (parse0 l) []).2.at', (Rs.prgL ((scanF l).1.length + 2) (parse0 l) []).2.e)) else ([], (scanF l).2.1, (scanF l).2.2)
end Go.Proofs.YtimhbimpaiiceaaGreatDoor.Ax
/- Layer parse: a reader goes on, and ends. -/
set_option linter.unusedVariables false
set_option linter.unusedSimpArgs false
namespace Go.Proofs.YtimhbimpaiiceaaGreatDoor.Ax
open Go Go.RowKit
/-- One reader behind another: no further than to the words' end; not on behind what is wrong. -/
structure Fwd (r r' : Rs) : Prop where
  L : r'.L = r.L
  n : r'.n = r.n
  le : r.i ≤ r'.i
  bd : r'.i ≤ r.L.length ∨ r'.i = r.i
  err : r.e ≠ 0 → r' = r
namespace Fwd
theorem refl (r : Rs) : Fwd r r := ⟨rfl, rfl, Nat.le_refl _, .inr rfl, fun _ => rfl⟩
theorem trans {a b c : Rs} (h : Fwd a b) (k : Fwd b c) : Fwd a c := by
  refine ⟨k.L.trans h.L, k.n.trans h.n, Nat.le_trans h.le k.le, ?_, fun he => ?_⟩
  · have h1 := h.bd; have h2 := k.bd; have h3 := h.le; have h4 := k.le
    rw [h.L] at h2
    omega
  · have := h.err he
    subst this
    exact k.err he
theorem ok {a b : Rs} (h : Fwd a b) (k : a.i ≤ a.L.length) : b.i ≤ b.L.length := by
  have := h.bd
  rw [h.L]; omega
theorem good {a b : Rs} (h : Fwd a b) (k : b.e = 0) : a.e = 0 := Classical.byContradiction fun c => c (by have := h.err c; subst this; exact k)
end Fwd
namespace Rs
theorem next_none {r : Rs} (h : ¬ (r.e = 0 ∧ r.i < r.L.length)) : r.next = tok0 := if_neg h
theorem next_some {r : Rs} (h : r.e = 0 ∧ r.i < r.L.length) : r.next = r.L.getD r.i tok0 := if_pos h
theorem is_at {r : Rs} {w : ByteArray} (h : r.is w = true) : r.e = 0 ∧ r.i < r.L.length := by
  refine Classical.byContradiction fun c => ?_
  unfold is at h
  rw [next_none c] at h
  simp at h
  exact h.2 h.1.symm
theorem free_at {r : Rs} (h : r.free = true) : r.e = 0 ∧ r.i < r.L.length := by
  refine Classical.byContradiction fun c => ?_
  unfold free at h
  rw [next_none c] at h
  simp at h
theorem num_at {r : Rs} {lo hi : Int} (h : r.numOk lo hi = true) : r.e = 0 ∧ r.i < r.L.length := by
  refine Classical.byContradiction fun c => ?_
  unfold numOk at h
  rw [next_none c] at h
  simp at h
theorem isOp_at {r : Rs} (h : r.isOp = true) : r.e = 0 ∧ r.i < r.L.length := by
  refine Classical.byContradiction fun c => ?_
  unfold isOp at h
  rw [next_none c] at h
  simp at h
theorem fail_fwd (r : Rs) (e : Int) : Fwd r (r.fail e) := by
  unfold fail
  split
  · rename_i h; exact ⟨rfl, rfl, Nat.le_refl _, .inr rfl, fun c => absurd h c⟩
  · exact .refl _
theorem fail_e (r : Rs) {e : Int} (h : e ≠ 0) : (r.fail e).e ≠ 0 := by
  unfold fail
  split
  · exact h
  · assumption
theorem step_fwd {r : Rs} (h : r.e = 0 ∧ r.i < r.L.length) : Fwd r r.step := ⟨rfl, rfl, Nat.le_succ _, .inl h.2, fun c => absurd h.1 c⟩
theorem take_fwd (r : Rs) (w : ByteArray) : Fwd r (r.take w) := by
  unfold take
  split
  · exact step_fwd (is_at (by assumption))
  · exact .refl _
theorem want_fwd (r : Rs) (w : ByteArray) : Fwd r (r.want w) := by
  unfold want
  split
  · exact step_fwd (is_at (by assumption))
  · exact fail_fwd _ _
theorem fresh_fwd (r : Rs) : Fwd r r.fresh := by
  unfold fresh
  split
  · exact step_fwd (free_at (by assumption))
  · exact fail_fwd _ _
theorem num_fwd (r : Rs) (lo hi : Int) : Fwd r (r.num lo hi) := by
  unfold num
  split
  · exact step_fwd (num_at (by assumption))
  · exact fail_fwd _ _
theorem room_fwd (r : Rs) (a b : Int) : Fwd r (r.room a b) := by
  unfold room
  split
  · exact fail_fwd _ _
  · exact .refl _
theorem name1_fwd {r : Rs} (h : r.e = 0 ∧ r.i < r.L.length) (k : Int) : Fwd r (r.name1 k) := by
  unfold name1
  split
  · exact (step_fwd h).trans (room_fwd _ _ _)
  · exact step_fwd h
theorem namesL_fwd : ∀ (f : Nat) (r : Rs) (out : List ByteArray), Fwd r (namesL f r out).2
  | 0, r, out => .refl _
  | f + 1, r, out => by
    unfold namesL
    split
    · exact ((name1_fwd (is_at (by assumption)) _).trans (fresh_fwd _)).trans (namesL_fwd f _ _)
    · exact .refl _
theorem names_fwd (r : Rs) : Fwd r r.names.2 := (fresh_fwd r).trans (namesL_fwd _ _ _)
theorem rowR_fwd (r : Rs) : Fwd r r.rowR := by
  unfold rowR
  split
  · exact (step_fwd (is_at (by assumption))).trans (want_fwd _ _)
  · exact .refl _
theorem kind_fwd (r : Rs) : Fwd r r.kind := by
  unfold kind
  split
  · exact step_fwd (is_at (by assumption))
  · split
    · exact (step_fwd (is_at (by assumption))).trans (rowR_fwd _)
    · exact (fresh_fwd r).trans (rowR_fwd _)
theorem param1_fwd {r : Rs} (h : r.e = 0 ∧ r.i < r.L.length) (k : Int) : Fwd r (r.param1 k) := by
  unfold param1
  split
  · exact (step_fwd h).trans (room_fwd _ _ _)
  · exact step_fwd h
theorem paramsL_fwd : ∀ (f : Nat) (r : Rs) (out : List Ty), Fwd r (paramsL f r out).2
  | 0, r, out => .refl _
  | f + 1, r, out => by
    unfold paramsL
    split
    · exact ((param1_fwd (is_at (by assumption)) _).trans (kind_fwd _)).trans (paramsL_fwd f _ _)
    · exact .refl _
theorem params_fwd (r : Rs) : Fwd r r.params.2 := by
  unfold params
  split
  · exact (want_fwd r _).trans (step_fwd (is_at (by assumption)))
  · exact (((want_fwd r _).trans (kind_fwd _)).trans (paramsL_fwd _ _ _)).trans (want_fwd _ _)
theorem in1_fwd (r : Rs) (k : Int) : Fwd r (r.in1 k) := (room_fwd r k _).trans (want_fwd _ _)
theorem in2_fwd (r : Rs) (o : Int) : Fwd r (r.in2 o) := by
  unfold in2
  split
  · exact num_fwd _ _ _
  · exact .refl _
theorem in3_fwd (r : Rs) (b : Bool) : Fwd r (r.in3 b) := by
  unfold in3
  split
  · exact fresh_fwd _
  · exact .refl _
theorem inArgs_fwd (r : Rs) (o : Int) : Fwd r (r.inArgs o) := ((in2_fwd r o).trans (in3_fwd _ _)).trans (in3_fwd _ _)
theorem instr_fwd (r : Rs) (k : Int) : Fwd r (r.instr k).2 := ((in1_fwd r k).trans (inArgs_fwd _ _)).trans (want_fwd _ _)
theorem codeL_fwd : ∀ (f : Nat) (r : Rs) (out : List Ins), Fwd r (codeL f r out).2
  | 0, r, out => .refl _
  | f + 1, r, out => by
    unfold codeL
    split
    · exact (instr_fwd _ _).trans (codeL_fwd f _ _)
    · exact .refl _
theorem ca1_fwd (r : Rs) (k : Int) : Fwd r (r.ca1 k) := (room_fwd r k _).trans (want_fwd _ _)
theorem catR_fwd (r : Rs) : Fwd r r.catR := ((((fresh_fwd r).trans (num_fwd _ _ _)).trans (num_fwd _ _ _)).trans (num_fwd _ _ _)).trans (want_fwd _ _)
theorem catchL_fwd : ∀ (f : Nat) (r : Rs) (out : List Cat), Fwd r (catchL f r out).2
  | 0, r, out => .refl _
  | f + 1, r, out => by
    unfold catchL
    split
    · exact ((ca1_fwd _ _).trans (catR_fwd _)).trans (catchL_fwd f _ _)
    · exact .refl _
theorem bo1_fwd (r : Rs) : Fwd r r.bo1 := ((want_fwd r _).trans (num_fwd _ _ _)).trans (want_fwd _ _)
theorem boCode_fwd (r : Rs) : Fwd r r.boCode.2 := (bo1_fwd r).trans (codeL_fwd _ _ _)
theorem boCat_fwd (r : Rs) : Fwd r r.boCat.2 := (boCode_fwd r).trans (catchL_fwd _ _ _)
theorem body_fwd (r : Rs) : Fwd r r.body := (boCat_fwd r).trans (want_fwd _ _)
theorem mfR_fwd (r : Rs) : Fwd r r.mfR := (((fresh_fwd r).trans (want_fwd _ _)).trans (kind_fwd _)).trans (want_fwd _ _)
theorem mm1_fwd (r : Rs) : Fwd r r.mm1 := ((fresh_fwd r).trans (params_fwd _)).trans (kind_fwd _)
theorem mmR_fwd (r : Rs) : Fwd r r.mmR := by
  unfold mmR
  split
  · exact (mm1_fwd r).trans (step_fwd (is_at (by assumption)))
  · exact (mm1_fwd r).trans (body_fwd _)
theorem memF_fwd (r : Rs) (k : Int) : Fwd r (r.memF k) := (room_fwd r k _).trans (want_fwd _ _)
theorem member_fwd (r : Rs) (c : Cls) : Fwd r (r.member c).2 := by
  unfold member
  split
  · exact (memF_fwd r _).trans (mfR_fwd _)
  · split
    · exact (memF_fwd r _).trans (mmR_fwd _)
    · exact fail_fwd _ _
theorem clsL_fwd : ∀ (f : Nat) (r : Rs) (c : Cls), Fwd r (clsL f r c).2
  | 0, r, c => .refl _
  | f + 1, r, c => by
    unfold clsL
    split
    · split
      · exact step_fwd (is_at (by assumption))
      · exact (member_fwd _ _).trans (clsL_fwd f _ _)
    · exact .refl _
theorem cl1_fwd (r : Rs) (k : Int) : Fwd r (r.cl1 k) := by
  unfold cl1
  split
  · exact (room_fwd _ _ _).trans (want_fwd _ _)
  · exact want_fwd _ _
theorem ex1_fwd (r : Rs) (b : Bool) : Fwd r (r.ex1 b).2 := by
  unfold ex1
  split
  · split
    · exact (step_fwd (is_at (by assumption))).trans (names_fwd _)
    · exact (step_fwd (is_at (by assumption))).trans (fresh_fwd _)
  · exact .refl _
theorem ex2_fwd (r : Rs) (b : Bool) (l : List ByteArray) : Fwd r (r.ex2 b l).2 := by
  unfold ex2
  split
  · rename_i h
    rw [Bool.and_eq_true] at h
    exact (step_fwd (is_at h.2)).trans (names_fwd _)
  · exact .refl _
theorem clR_fwd (r : Rs) (k : Int) : Fwd r (r.clR k) := ((((cl1_fwd r k).trans (fresh_fwd _)).trans (ex1_fwd _ _)).trans (ex2_fwd _ _ _)).trans (want_fwd _ _)
theorem class_fwd (r : Rs) (k : Int) : Fwd r (r.class' k).2 := (clR_fwd r k).trans (clsL_fwd _ _ _)
theorem prgL_fwd : ∀ (f : Nat) (r : Rs) (out : List Cls), Fwd r (prgL f r out).2
  | 0, r, out => .refl _
  | f + 1, r, out => by
    unfold prgL
    split
    · exact (class_fwd _ _).trans (prgL_fwd f _ _)
    · exact .refl _

/-- what takes a word, or finds something wrong, needs fewer rounds -/
theorem need_lt {r r' : Rs} (h : r.e = 0 ∧ r.i < r.L.length) (hf : Fwd r r') (hp : r'.e ≠ 0 ∨ r.i < r'.i) : r'.need < r.need := by
  unfold need
  rw [if_pos h.1]
  have h1 := h.2
  have h2 := hf.le
  split
  · rw [hf.L]
    rcases hp with hp | hp
    · rename_i c; exact absurd c hp
    · omega
  · omega
theorem need_pos (r : Rs) : 0 < r.need := by
  unfold need
  split <;> omega
theorem want_on (r : Rs) (w : ByteArray) : (r.want w).e ≠ 0 ∨ r.i < (r.want w).i := by
  unfold want
  split
  · exact .inr (Nat.lt_succ_self _)
  · exact .inl (fail_e _ (by decide))
theorem on_fwd {a b c : Rs} (h : b.e ≠ 0 ∨ a.i < b.i) (hf : Fwd b c) : c.e ≠ 0 ∨ a.i < c.i := by
  rcases h with h | h
  · left
    rw [hf.err h]; exact h
  · exact .inr (Nat.lt_of_lt_of_le h hf.le)
theorem fwd_on {a b c : Rs} (hf : Fwd a b) (h : c.e ≠ 0 ∨ b.i < c.i) : c.e ≠ 0 ∨ a.i < c.i := by
  rcases h with h | h
  · exact .inl h
  · exact .inr (Nat.lt_of_le_of_lt hf.le h)
theorem name1_on (r : Rs) (k : Int) : (r.name1 k).e ≠ 0 ∨ r.i < (r.name1 k).i := by
  have h0 : r.step.e ≠ 0 ∨ r.i < r.step.i := .inr (Nat.lt_succ_self _)
  unfold name1
  split
  · exact on_fwd h0 (room_fwd _ _ _)
  · exact h0
theorem param1_on (r : Rs) (k : Int) : (r.param1 k).e ≠ 0 ∨ r.i < (r.param1 k).i := by
  have h0 : r.step.e ≠ 0 ∨ r.i < r.step.i := .inr (Nat.lt_succ_self _)
  unfold param1
  split
  · exact on_fwd h0 (room_fwd _ _ _)
  · exact h0
theorem instr_on (r : Rs) (k : Int) : (r.instr k).2.e ≠ 0 ∨ r.i < (r.instr k).2.i :=
  on_fwd (on_fwd (fwd_on (room_fwd r k 48) (want_on _ _)) (inArgs_fwd _ _)) (want_fwd _ _)
theorem catch_on (r : Rs) (k : Int) : (r.ca1 k).catR.e ≠ 0 ∨ r.i < (r.ca1 k).catR.i := on_fwd (fwd_on (room_fwd r k 4) (want_on _ _)) (catR_fwd _)
theorem member_on (r : Rs) (c : Cls) : (r.member c).2.e ≠ 0 ∨ r.i < (r.member c).2.i := by
  unfold member
  split
  · exact on_fwd (fwd_on (room_fwd r _ 6) (want_on _ _)) (mfR_fwd _)
  · split
    · exact on_fwd (fwd_on (room_fwd r _ 6) (want_on _ _)) (mmR_fwd _)
    · exact .inl (fail_e _ (by decide))
theorem cl1_on (r : Rs) (k : Int) : (r.cl1 k).e ≠ 0 ∨ r.i < (r.cl1 k).i := by
  unfold cl1
  split
  · exact fwd_on (room_fwd _ _ _) (want_on _ _)
  · exact want_on _ _
theorem class_on (r : Rs) (k : Int) : (r.class' k).2.e ≠ 0 ∨ r.i < (r.class' k).2.i :=
  on_fwd (on_fwd (cl1_on r k) ((((fresh_fwd _).trans (ex1_fwd _ _)).trans (ex2_fwd _ _ _)).trans (want_fwd _ _))) (clsL_fwd _ _ _)
end Rs
end Go.Proofs.YtimhbimpaiiceaaGreatDoor.Ax
/- Layer lex by the logic: words joined; rows compared. -/
set_option linter.unusedVariables false
set_option linter.unusedSimpArgs false
namespace Go.Proofs.YtimhbimpaiiceaaGreatDoor.Ax
open Go Go.RowKit
theorem ba_eq (a b : ByteArray) : (a.toList == b.toList) = decide (a = b) := by
  have h : ∀ b : ByteArray, b.toList = b.data.toList := fun b => ByteArray.toList_eq b
  rw [Bool.eq_iff_iff]
  simp only [h, beq_iff_eq, decide_eq_true_eq]
  constructor
  · intro h; exact ByteArray.ext (Array.toList_inj.1 h)
  · rintro rfl; rfl
def wdS (t : Int × ByteArray × Int × Int) : List UInt8 := if t.1 = 2 then Lib.itoa t.2.2.1 else t.2.1.data.toList
def wdOk (t : Int × ByteArray × Int × Int) : Bool := (tokenF (wdS t)).2 && decide ((tokenF (wdS t)).1.1 = t.1 ∧ (tokenF (wdS t)).1.2.1 = t.2.1 ∧ (tokenF (wdS t)).1.2.2.1 = t.2.2.1)
theorem takeT {α : Type} (l : List α) (d : α) (i : Nat) (h : i < l.length) : l.take (i + 1) = l.take i ++ [l.getD i d] := by
  rw [List.take_add_one, List.getElem?_eq_getElem h]
  simp only [List.getD, List.getElem?_eq_getElem h, Option.getD_some, Option.toList_some]
theorem getT_mem {α : Type} (l : List α) (d : α) (i : Nat) (h : i < l.length) : l.getD i d ∈ l := by
  simp only [List.getD, List.getElem?_eq_getElem h, Option.getD_some]; exact List.getElem_mem h
end Go.Proofs.YtimhbimpaiiceaaGreatDoor.Ax
/- Layer lex by the logic: what the statements look at. -/
set_option linter.unusedVariables false
set_option linter.unusedSimpArgs false
namespace Go.Proofs.YtimhbimpaiiceaaGreatDoor.Ax
open Go Go.RowKit
theorem dlt {a b : Nat} (h : decide ((a : Int) < (b : Int)) = true) : a < b := by have := of_decide_eq_true h; omega
theorem dge {a b : Nat} (h : decide ((a : Int) < (b : Int)) = false) : b ≤ a := by have := of_decide_eq_false h; omega
theorem lneT {a b : Nat} (h : ((a : Int) != (b : Int)) = true) : a ≠ b := by simp at h; omega
theorem lneF {a b : Nat} (h : ((a : Int) != (b : Int)) = false) : a = b := by simp at h; omega
theorem ext_getD {α : Type} (d : α) : ∀ {k l : List α}, k.length = l.length → (∀ j, j < k.length → k.getD j d = l.getD j d) → k = l
  | [], [], _, _ => rfl
  | [], _ :: _, h, _ => by simp at h
  | _ :: _, [], h, _ => by simp at h
  | x :: k, y :: l, h, hj => by
    have h0 : x = y := by simpa using hj 0 (by simp)
    rw [h0, ext_getD d (k := k) (l := l) (by simpa using h) (fun j hlt => by simpa using hj (j + 1) (by simpa using hlt))]
def keepR (T : Type) [DecidableEq T] (sz : Nat) (cs : T → List SV) (d : T) : Ctr := { A := List T × List T, enc := fun x => [.row T sz cs d x.1, .row T sz cs d x.2], dom := fun x => x.1.length ≤ 4611686018427387904, res := fun x _ => B (decide (x.1 = x.2)) }
set_option maxRecDepth 100000 in
theorem kBytes_ok : CtrSound Tryz.prog 11 (keepR UInt8 1 byteC 0) :=
  ctr_of_ax (env_ok tys_ok (eqs := []) trivial (cs := []) trivial) mixed _ Tryz.func11 (by kernel_rfl) rfl (fun _ _ => Nat.le_of_ble_eq_true rfl) fun ((k, l) : List UInt8 × List UInt8) id hd => by
    have hd : k.length ≤ 4611686018427387904 := hd
    have no : ¬ (k = l) → Sub .ff (B (decide (k = l))) := fun h => .bff (decide_eq_false h)
    refine ⟨fun h2 => ?_, fun h2 => ?_⟩
    · exact ⟨no fun q => lneT h2 (by rw [q]), rfl⟩
    have hl : k.length = l.length := lneF h2
    refine ⟨Nat, fun i => [(0, .row UInt8 1 byteC 0 k), (1, .row UInt8 1 byteC 0 l), (5, I i)], fun _ => [], fun i => i ≤ k.length ∧ ∀ j, j < i → k.getD j 0 = l.getD j 0, fun i => k.length - i,
      ⟨0, ⟨Nat.zero_le _, fun j hj => by omega⟩, ⟨⟨rfl, rfl⟩, .refl _, .refl _, .refl _, trivial⟩⟩, fun (i : Nat) hi => ?_⟩
    have hil := hi.1
    have hwj : IntKind.i64.wrap ((i : Int) + 1) = ((i + 1 : Nat) : Int) := by rw [wrap_eq _ (by omega) (by omega)]; omega
    refine ⟨fun h => ?_, fun h => ?_⟩
    · have hlt : i < k.length := dlt h
      refine ⟨by kernel_rfl, ?_⟩
      refine ⟨⟨by omega, by omega⟩, ⟨by omega, by omega⟩, ?_⟩
      refine ⟨fun h => ?_, fun h => ?_⟩
      · exact ⟨no fun q => by have h : (((k.getD i 0).toNat : Int) != ((l.getD i 0).toNat : Int)) = true := h
                              rw [q] at h; simp at h, rfl⟩
      · have he : k.getD i 0 = l.getD i 0 := by
          have h : (((k.getD i 0).toNat : Int) != ((l.getD i 0).toNat : Int)) = false := h
          exact UInt8.toNat_inj.1 (lneF h)
        exact ⟨i + 1, ⟨hlt, fun j hj => by rcases Nat.lt_succ_iff_lt_or_eq.1 hj with q | rfl; exact hi.2 j q; exact he⟩, by show k.length - (i + 1) < k.length - i; omega, ⟨rfl, rfl⟩, .refl _, .refl _, .int hwj, trivial⟩
    · have hge : i = k.length := Nat.le_antisymm hil (dge h)
      exact ⟨.btt (decide_eq_true (ext_getD 0 hl fun j (hj : j < k.length) => hi.2 j (hge ▸ hj))), rfl⟩
def twinC : Ctr := { A := List UInt8, enc := fun l => [.row UInt8 1 byteC 0 l], dom := fun l => l.length ≤ 140737488355328, res := fun l id => .own UInt8 1 byteC 0 l id }
theorem twin_ok : CtrSound Tryz.prog 4 twinC :=
  ctr_of_ax (env_ok tys_ok (eqs := []) trivial (cs := []) trivial) mixed _ Tryz.func4 (by kernel_rfl) rfl (fun _ _ => Nat.le_of_ble_eq_true rfl) fun (l : List UInt8) id hd => by
    have hd : l.length ≤ 140737488355328 := hd
    refine ⟨UInt8, byteC, 0, [], l, 0, ⟨.nilO .., .refl _⟩, fun _ => rfl, (by simp only [List.length_nil]; omega), ?_⟩
    exact ⟨.ownEq (by simp), rfl⟩
theorem w1 : (scanF [97, 45, 49, 32, 123]).2 = (0, 0) := by decide +kernel
theorem w2 : (scanF [97, 32, 48, 49]).2 = (2, 3) := by decide +kernel
theorem w3 : (scanF [97, 45, 49, 32, 123]).1.length = 3 := by decide +kernel
theorem w4 : ((scanF [97, 45, 49, 32, 123]).1.getD 1 tok0).2.2.1 = -1 := by decide +kernel
end Go.Proofs.YtimhbimpaiiceaaGreatDoor.Ax
/- Words behind each other are scanned as these words. -/
set_option linter.unusedVariables false
set_option linter.unusedSimpArgs false
namespace Go.Proofs.YtimhbimpaiiceaaGreatDoor.Ax
open Go Go.RowKit
theorem dd_cons (u : Nat) : ∃ b r, Lib.decDigits u = b :: r ∧ isDig b = true ∧ r.all isAl = true := by
  obtain ⟨b, r, h, hb⟩ := dd_head u
  refine ⟨b, r, h, hb, ?_⟩
  rw [List.all_eq_true]
  intro x hx
  have := dd_dig u x (by rw [h]; exact List.mem_cons_of_mem _ hx)
  simp [isAl, this]
theorem itoa_form (n : Int) : (∃ b r, Lib.itoa n = b :: r ∧ isDig b = true ∧ r.all isAl = true) ∨ (∃ b r, Lib.itoa n = 45 :: b :: r ∧ isDig b = true ∧ r.all isAl = true) := by
  unfold Lib.itoa
  split
  · obtain ⟨b, r, h, hb, hr⟩ := dd_cons n.natAbs
    exact .inr ⟨b, r, by rw [h], hb, hr⟩
  · exact .inl (dd_cons n.toNat)
theorem let_not {c : UInt8} (h : isLet c = true) : isBlank c = false ∧ isSign c = false ∧ c ≠ 45 ∧ isDig c = false ∧ isAl c = true := by
  have h' := h
  simp only [isLet, decide_eq_true_eq] at h'
  refine ⟨?_, ?_, ?_, ?_, by simp [isAl, h]⟩
  · rw [blank_eq]; simp; omega
  · rw [sign_eq]; simp; omega
  · rintro rfl; simp at h'
  · simp [isDig]; omega
theorem dig_not {c : UInt8} (h : isDig c = true) : isBlank c = false ∧ isSign c = false ∧ c ≠ 45 ∧ isLet c = false ∧ isAl c = true := by
  have h' := h
  simp only [isDig, decide_eq_true_eq] at h'
  refine ⟨?_, ?_, ?_, ?_, by simp [isAl, h]⟩
  · rw [blank_eq]; simp; omega
  · rw [sign_eq]; simp; omega
  · rintro rfl; simp at h'
  · simp [isLet]; omega
theorem name_form {l : List UInt8} : nameF l = true ↔ ∃ c r, l = c :: r ∧ isLet c = true ∧ r.all isAl = true ∧ l.length ≤ 20 := by
  constructor
  · intro h
    cases l with
    | nil => simp [nameF] at h
    | cons c r =>
      simp only [nameF, Bool.and_eq_true, decide_eq_true_eq, List.getD_cons_zero, List.all_cons] at h
      exact ⟨c, r, rfl, h.1.2, h.2.2, h.1.1.2⟩
  · rintro ⟨c, r, rfl, h1, h2, h3⟩
    simp only [nameF, Bool.and_eq_true, decide_eq_true_eq, List.getD_cons_zero, List.all_cons]
    exact ⟨⟨⟨by simp, h3⟩, h1⟩, (let_not h1).2.2.2.2, h2⟩
theorem name_not_num {l : List UInt8} (h : nameF l = true) : numF l = none := by
  rw [numF_none]
  rintro n ⟨e, -⟩
  obtain ⟨c, r, rfl, h1, -, -⟩ := name_form.1 h
  rcases itoa_form n with ⟨b, q, h2, h3, -⟩ | ⟨b, q, h2, h3, -⟩ <;> rw [e] at h2 <;> simp only [List.cons.injEq] at h2
  · rw [h2.1] at h1; rw [(dig_not h3).2.2.2.1] at h1; cases h1
  · exact (let_not h1).2.2.1 h2.1
theorem sign_not_num {l : List UInt8} (h : l.length = 1) (hs : isSign (l.getD 0 0) = true) : numF l = none ∧ nameF l = false := by
  match l, h with
  | [c], _ =>
    have hs : isSign c = true := by simpa using hs
    constructor
    · rw [numF_none]
      rintro n ⟨e, -⟩
      rcases itoa_form n with ⟨b, q, h2, h3, -⟩ | ⟨b, q, h2, h3, -⟩ <;> rw [e] at h2 <;> simp only [List.cons.injEq] at h2
      · rw [h2.1, (dig_not h3).2.1] at hs; cases hs
      · cases h2.2
    · cases hn : nameF [c] with
      | false => rfl
      | true =>
        obtain ⟨d, r, e, h1, -, -⟩ := name_form.1 hn
        cases e
        rw [(let_not h1).2.1] at hs; cases hs
theorem tok_num {n : Int} (h : inR n) : tokenF (Lib.itoa n) = ((2, ⟨#[]⟩, n, 0), true) := by
  unfold tokenF
  rw [(numF_iff _ _).2 ⟨rfl, h⟩]
theorem tok_name {l : List UInt8} (h : nameF l = true) : tokenF l = ((1, txt l, 0, 0), true) := by
  unfold tokenF
  rw [name_not_num h]
  simp only; rw [if_pos h]
theorem tok_sign {l : List UInt8} (h : l.length = 1) (hs : isSign (l.getD 0 0) = true) : tokenF l = ((3, txt l, 0, 0), true) := by
  unfold tokenF
  obtain ⟨h1, h2⟩ := sign_not_num h hs
  rw [h1]
  simp only; rw [if_neg (by rw [h2]; simp), if_pos ⟨h, hs⟩]
/-- what a word is -/
theorem tok_cases {w : List UInt8} (h : (tokenF w).2 = true) : (∃ n, w = Lib.itoa n ∧ inR n) ∨ nameF w = true ∨ (w.length = 1 ∧ isSign (w.getD 0 0) = true) := by
  unfold tokenF at h
  cases hn : numF w with
  | some n => obtain ⟨e1, e2⟩ := (numF_iff _ _).1 hn; exact .inl ⟨n, e1.symm, e2⟩
  | none =>
    rw [hn] at h
    simp only at h
    by_cases hN : nameF w = true
    · exact .inr (.inl hN)
    · rw [if_neg hN] at h
      by_cases hs : w.length = 1 ∧ isSign (w.getD 0 0) = true
      · exact .inr (.inr hs)
      · rw [if_neg hs] at h; cases h
theorem tok_at0 {w : List UInt8} : (tokenF w).1.2.2.2 = 0 := by
  unfold tokenF
  cases numF w with
  | some n => rfl
  | none =>
    simp only
    split
    · rfl
    · split <;> rfl
theorem wd_tok {t : Int × ByteArray × Int × Int} (h : wdOk t = true) : tokenF (wdS t) = ((t.1, t.2.1, t.2.2.1, 0), true) := by
  have h1 : (tokenF (wdS t)).2 = true := by
    unfold wdOk at h
    cases hc : (tokenF (wdS t)).2 with
    | true => rfl
    | false => rw [hc] at h; cases h
  unfold wdOk at h
  rw [h1] at h
  simp only [Bool.true_and, decide_eq_true_eq] at h
  have h0 := tok_at0 (w := wdS t)
  obtain ⟨a, b, c⟩ := h
  generalize tokenF (wdS t) = z at *
  obtain ⟨⟨z1, z2, z3, z4⟩, zb⟩ := z
  simp only at *
  subst a b c h0 h1
  rfl
end Go.Proofs.YtimhbimpaiiceaaGreatDoor.Ax
/- Layer show: fields, catches, names of instructions. -/
set_option linter.unusedVariables false
set_option linter.unusedSimpArgs false
namespace Go.Proofs.YtimhbimpaiiceaaGreatDoor.Ax
open Go Go.RowKit
end Go.Proofs.YtimhbimpaiiceaaGreatDoor.Ax
/- Layer show: instructions. -/
set_option linter.unusedVariables false
set_option linter.unusedSimpArgs false
namespace Go.Proofs.YtimhbimpaiiceaaGreatDoor.Ax
open Go Go.RowKit
end Go.Proofs.YtimhbimpaiiceaaGreatDoor.Ax
/- Layers parse and show: what is shown is read again: lists, methods, classes, programs. -/
set_option linter.unusedVariables false
set_option linter.unusedSimpArgs false
namespace Go.Proofs.YtimhbimpaiiceaaGreatDoor.Ax
open Go Go.RowKit
/-! ### What show writes -/
/-! ### Words as tokens -/
abbrev T3 := Int × ByteArray × Int
def s3 (t : Tok) : T3 := (t.1, t.2.1, t.2.2.1)
def tokB (w : ByteArray) : Bool := (tokenF w.data.toList).2
/-! ### A reader ahead of words -/
structure At (r : Rs) (ts : List T3) : Prop where
  e : r.e = 0
  ts : (r.L.drop r.i).map s3 = ts
/-! ### Instructions -/
end Go.Proofs.YtimhbimpaiiceaaGreatDoor.Ax
/- Layers parse and show: what is shown is read again: members, classes, programs. -/
set_option linter.unusedVariables false
set_option linter.unusedSimpArgs false
namespace Go.Proofs.YtimhbimpaiiceaaGreatDoor.Ax
open Go Go.RowKit
/-! ### The text's words -/
def Toks (ws : List ByteArray) : Prop := ∀ w ∈ ws, tokB w = true
theorem Toks.nil : Toks [] := fun _ h => by cases h
theorem Toks.cons {w : ByteArray} {ws : List ByteArray} (h : tokB w = true) (k : Toks ws) : Toks (w :: ws) := fun x hx => (List.mem_cons.1 hx).elim (fun e => e ▸ h) (k x)
theorem Toks.flat {α : Type} {g : α → List ByteArray} {l : List α} (h : ∀ x ∈ l, Toks (g x)) : Toks (l.flatMap g) := fun w hw => by
  obtain ⟨x, h1, h2⟩ := List.mem_flatMap.1 hw
  exact h x h1 w h2
end Go.Proofs.YtimhbimpaiiceaaGreatDoor.Ax
/- Layer parse: the reader's small steps. -/
set_option linter.unusedVariables false
set_option linter.unusedSimpArgs false
namespace Go.Proofs.YtimhbimpaiiceaaGreatDoor.Ax
open Go Go.RowKit
/-- what lies in the package variables that the library reads -/
def tabP (w : World) : Prop := tabs w ∧ Lib.TabIs Tryz.prog w "strings.asciiSpace" .u8 Lib.asciiSpaceTab
def rok (r : Rs) : Prop := r.L.length ≤ 1000000 ∧ r.i ≤ r.L.length
theorem rok_fwd {r r' : Rs} (h : rok r) (f : Fwd r r') : rok r' := ⟨by rw [f.L]; exact h.1, f.ok h.2⟩
/-- a contract of a reader's method that only reads -/
def reC (A : Type) (a : A → List SV) (v : Rs → A → Nat → SV) (d : A → Prop) : Ctr := { A := Rs × A, enc := fun x => .elt Unit 5 (fun _ => rsC x.1) () [()] 0 0 :: a x.2, dom := fun x => rok x.1 ∧ d x.2, res := fun x id => v x.1 x.2 id, gl := tabP }
/-- .. that goes on -/
def rdC (A : Type) (a : A → List SV) (v : Rs → A → Nat → SV) (p : Rs → A → Rs) (d : A → Prop) : CtrB := { A := Rs × A, enc := fun x => .box 1000 0 :: a x.2, pre := fun x => [rsC x.1], dom := fun x => rok x.1 ∧ d x.2, res := fun x id => v x.1 x.2 id, post := fun x _ => [rsC (p x.1 x.2)], gl := tabP }
theorem Sub.tokEq {a b : Tok} (h : a = b) : Sub (tokS a) (tokS b) := by subst h; exact .refl _
def nextC : Ctr := reC Unit (fun _ => []) (fun r _ _ => tokS r.next) fun _ => True
set_option maxRecDepth 100000 in
theorem next_ok : CtrSound Tryz.prog 57 nextC :=
  ctr_of_ax (env_okB tys_ok (eqs := []) trivial (cs := []) trivial (bs := []) trivial (gl := tabP)) mixed _ Tryz.func57 (by kernel_rfl) rfl (fun _ _ => Nat.le_of_ble_eq_true rfl) fun ((r, u) : Rs × Unit) id hd => by
    have hd : r.L.length ≤ 1000000 ∧ r.i ≤ r.L.length := hd.1
    refine ⟨by kernel_rfl, ?_⟩
    refine ⟨fun h => ?_, fun h => ?_⟩
    · have e : r.next = tok0 := Rs.next_none fun c => by
        have h : (r.e != 0) = true := h
        rw [c.1] at h; simp at h
      exact ⟨.tokEq e.symm, rfl⟩
    have h1 : r.e = 0 := by
      have h : (r.e != 0) = false := h
      simpa using h
    refine ⟨fun h => ?_, fun h => ?_⟩
    · have h2 : ¬ r.i < r.L.length := by
        have h : decide ((r.i : Int) ≥ (r.L.length : Int)) = true := h
        have := of_decide_eq_true h; omega
      exact ⟨.tokEq (Rs.next_none fun c => h2 c.2).symm, rfl⟩
    have h2 : r.i < r.L.length := by
      have h : decide ((r.i : Int) ≥ (r.L.length : Int)) = false := h
      have := of_decide_eq_false h; omega
    refine ⟨by kernel_rfl, ?_⟩
    refine ⟨(show 0 ≤ (r.i : Int) ∧ (r.i : Int) < (r.L.length : Int) from ⟨by omega, by omega⟩), ?_⟩
    exact ⟨.tokEq (Rs.next_some ⟨h1, h2⟩).symm, rfl⟩
def isC : Ctr := reC ByteArray (fun w => [S w]) (fun r w _ => B (r.is w)) fun _ => True
theorem noS_eq (w : ByteArray) : (w.toList == noS.toList) = decide (w = noS) := ba_eq w noS
set_option maxRecDepth 100000 in
theorem is_ok : CtrSound Tryz.prog 30 isC :=
  ctr_of_ax (env_okB tys_ok (eqs := []) trivial (cs := [(57, nextC)]) ⟨next_ok, trivial⟩ (bs := []) trivial (gl := tabP)) mixed _ Tryz.func30 (by kernel_rfl) rfl (fun _ _ => Nat.le_of_ble_eq_true rfl) fun ((r, w) : Rs × ByteArray) id hd => by
    refine ⟨(r, ()), ⟨.refl _, trivial⟩, rfl, ⟨hd.1, trivial⟩, ?_⟩
    refine ⟨fun h => ?_, fun h => ?_⟩
    · have h : (r.next.2.1.toList == w.toList) = true := h
      rw [ba_eq] at h
      exact ⟨.bool (by show (!(w.toList == noS.toList)) = r.is w; unfold Rs.is; rw [h, noS_eq]; simp), rfl⟩
    · have h : (r.next.2.1.toList == w.toList) = false := h
      rw [ba_eq] at h
      exact ⟨.bff (by unfold Rs.is; rw [h]; rfl), rfl⟩
def failC : CtrB := rdC Int (fun e => [I e]) (fun _ _ _ => .tup []) (fun r e => r.fail e) fun _ => True
theorem rL {a b : Rs} (h : a = b) : a.L = b.L := congrArg Rs.L h
theorem rI {a b : Rs} (h : a = b) : (a.i : Int) = (b.i : Int) := congrArg (fun s : Rs => (s.i : Int)) h
theorem rN {a b : Rs} (h : a = b) : a.n = b.n := congrArg Rs.n h
theorem rA {a b : Rs} (h : a = b) : a.at' = b.at' := congrArg Rs.at' h
theorem rE {a b : Rs} (h : a = b) : a.e = b.e := congrArg Rs.e h
theorem hwI {r : Rs} (hd : rok r) : IntKind.i64.wrap ((r.i : Int) + 1) = (r.step.i : Int) := by
  have h1 := hd.1; have h2 := hd.2
  show _ = ((r.i + 1 : Nat) : Int)
  rw [wrap_eq _ (by omega) (by omega)]; omega
set_option maxRecDepth 100000 in
theorem fail_ok : CtrBSound Tryz.prog 58 failC :=
  ctrB_of_ax2 mixed _ Tryz.func58 (by kernel_rfl) rfl (fun _ _ => ⟨Nat.le_of_ble_eq_true rfl, Nat.le_of_ble_eq_true rfl⟩) fun ((r, e) : Rs × Int) id hd => by
    refine ⟨_, ⟨env_okB tys_ok (eqs := []) trivial (cs := []) trivial (bs := []) trivial (gl := tabP), fun _ h => h⟩, ?_⟩
    have hd : r.L.length ≤ 1000000 ∧ r.i ≤ r.L.length := hd.1
    refine ⟨fun h => ?_, fun h => ?_⟩
    · have h : (r.e != 0) = true := h
      have hE : r = r.fail e := (if_neg (by simpa using h)).symm
      exact ⟨.refl (.tup []), ⟨rfl, .rowEq (rL hE :), .int (rI hE :), .int (rN hE :), .int (rA hE :), .int (rE hE :), trivial⟩, trivial⟩
    have h1 : r.e = 0 := by
      have h : (r.e != 0) = false := h
      simpa using h
    have e1 : r.fail e = ⟨r.L, r.n, r.i, if r.i < r.L.length then (r.L.getD r.i tok0).2.2.2 else r.n, e⟩ := if_pos h1
    refine ⟨by kernel_rfl, ?_⟩
    refine ⟨fun h => ?_, fun h => ?_⟩
    · have h2 : r.i < r.L.length := dlt h
      refine ⟨by kernel_rfl, ?_⟩
      refine ⟨(show 0 ≤ (r.i : Int) ∧ (r.i : Int) < (r.L.length : Int) from ⟨by omega, by omega⟩), ?_⟩
      have hE : (⟨r.L, r.n, r.i, (r.L.getD r.i tok0).2.2.2, e⟩ : Rs) = r.fail e := by rw [e1, if_pos h2]
      exact ⟨.refl (.tup []), ⟨rfl, .rowEq (rL hE :), .int (rI hE :), .int (rN hE :), .int (rA hE :), .int (rE hE :), trivial⟩, trivial⟩
    · have h2 : ¬ r.i < r.L.length := by
        have h : decide ((r.i : Int) < (r.L.length : Int)) = false := h
        have := dge h; omega
      have hE : (⟨r.L, r.n, r.i, r.n, e⟩ : Rs) = r.fail e := by rw [e1, if_neg h2]
      exact ⟨.refl (.tup []), ⟨rfl, .rowEq (rL hE :), .int (rI hE :), .int (rN hE :), .int (rA hE :), .int (rE hE :), trivial⟩, trivial⟩
end Go.Proofs.YtimhbimpaiiceaaGreatDoor.Ax
/- Layer parse: the reader takes words. -/
set_option linter.unusedVariables false
set_option linter.unusedSimpArgs false
namespace Go.Proofs.YtimhbimpaiiceaaGreatDoor.Ax
open Go Go.RowKit
def takeC : CtrB := rdC ByteArray (fun w => [S w]) (fun r w _ => B (r.is w)) (fun r w => r.take w) fun _ => True
set_option maxRecDepth 100000 in
theorem take_ok : CtrBSound Tryz.prog 34 takeC :=
  ctrB_of_ax2 mixed _ Tryz.func34 (by kernel_rfl) rfl (fun _ _ => ⟨Nat.le_of_ble_eq_true rfl, Nat.le_of_ble_eq_true rfl⟩) fun ((r, w) : Rs × ByteArray) id hd => by
    refine ⟨_, ⟨env_okB tys_ok (eqs := []) trivial (cs := [(30, isC)]) ⟨is_ok, trivial⟩ (bs := []) trivial (gl := tabP), fun _ h => h⟩, ?_⟩
    refine ⟨(r, w), ⟨.refl _, .refl _, trivial⟩, rfl, ⟨hd.1, trivial⟩, ?_⟩
    refine ⟨fun h => ?_, fun h => ?_⟩
    · have h : (!r.is w) = true := h
      have h1 : r.is w = false := by simpa using h
      have hE : r = r.take w := (if_neg (by rw [h1]; decide)).symm
      exact ⟨.bff h1, ⟨rfl, .rowEq (rL hE :), .int (rI hE :), .int (rN hE :), .int (rA hE :), .int (rE hE :), trivial⟩, trivial⟩
    · have h : (!r.is w) = false := h
      have h1 : r.is w = true := by simpa using h
      have hE : r.step = r.take w := ((if_pos h1)).symm
      exact ⟨.btt h1, ⟨rfl, .rowEq (rL hE :), .int ((hwI hd.1).trans (rI hE :)), .int (rN hE :), .int (rA hE :), .int (rE hE :), trivial⟩, trivial⟩
def wantC : CtrB := rdC ByteArray (fun w => [S w]) (fun _ _ _ => .tup []) (fun r w => r.want w) fun _ => True
set_option maxRecDepth 100000 in
theorem want_ok : CtrBSound Tryz.prog 32 wantC :=
  ctrB_of_ax2 mixed _ Tryz.func32 (by kernel_rfl) rfl (fun _ _ => ⟨Nat.le_of_ble_eq_true rfl, Nat.le_of_ble_eq_true rfl⟩) fun ((r, w) : Rs × ByteArray) id hd => by
    refine ⟨_, ⟨env_okB tys_ok (eqs := []) trivial (cs := []) trivial (bs := [(34, takeC), (58, failC)]) ⟨take_ok, fail_ok, trivial⟩ (gl := tabP), fun _ h => h⟩, ?_⟩
    refine ⟨by kernel_rfl, ?_⟩
    refine ⟨(r, w), ⟨.refl _, .refl _, trivial⟩, ⟨⟨rfl, .refl _, .refl _, .refl _, .refl _, .refl _, trivial⟩, trivial⟩, ⟨hd.1, trivial⟩, ?_⟩
    refine ⟨fun h => ?_, fun h => ?_⟩
    · have h : (!r.is w) = true := h
      have h1 : r.is w = false := by simpa using h
      refine ⟨by kernel_rfl, ?_⟩
      refine ⟨(r.take w, 4), ⟨.refl _, .refl _, trivial⟩, ⟨⟨rfl, .refl _, .refl _, .refl _, .refl _, .refl _, trivial⟩, trivial⟩, ⟨rok_fwd hd.1 (Rs.take_fwd r w), trivial⟩, ?_⟩
      have hE : (r.take w).fail 4 = r.want w := (by unfold Rs.take Rs.want; rw [if_neg (by rw [h1]; decide), if_neg (by rw [h1]; decide)])
      exact ⟨.refl (.tup []), ⟨rfl, .rowEq (rL hE :), .int (rI hE :), .int (rN hE :), .int (rA hE :), .int (rE hE :), trivial⟩, trivial⟩
    · have h : (!r.is w) = false := h
      have h1 : r.is w = true := by simpa using h
      have hE : r.take w = r.want w := (by unfold Rs.take Rs.want; rw [if_pos h1, if_pos h1])
      exact ⟨.refl (.tup []), ⟨rfl, .rowEq (rL hE :), .int (rI hE :), .int (rN hE :), .int (rA hE :), .int (rE hE :), trivial⟩, trivial⟩
def freeC : Ctr := reC Unit (fun _ => []) (fun r _ _ => B r.free) fun _ => True
set_option maxRecDepth 100000 in
theorem free_ok : CtrSound Tryz.prog 59 freeC :=
  ctr_of_ax (env_okB tys_ok (eqs := []) trivial (cs := [(57, nextC), (12, keptC)]) ⟨next_ok, kept_ok, trivial⟩ (bs := []) trivial (gl := tabP)) mixed _ Tryz.func59 (by kernel_rfl) rfl (fun _ _ => Nat.le_of_ble_eq_true rfl) fun ((r, u) : Rs × Unit) id hd => by
    refine ⟨(r, ()), ⟨.refl _, trivial⟩, rfl, ⟨hd.1, trivial⟩, ?_⟩
    refine ⟨fun h => ?_, fun h => ?_⟩
    · have h : (r.next.1 == 1) = true := h
      refine ⟨r.next.2.1.data.toList, ⟨.refl _, trivial⟩, rfl, trivial, ?_⟩
      exact ⟨.bool (by show (!keptW r.next.2.1) = r.free; unfold Rs.free; rw [eqT h]; rfl), rfl⟩
    · have h : (r.next.1 == 1) = false := h
      exact ⟨.bff (by unfold Rs.free; rw [decide_eq_false (eqF h)]; rfl), rfl⟩
def freshRC : CtrB := rdC Unit (fun _ => []) (fun r _ _ => S r.freshV) (fun r _ => r.fresh) fun _ => True
set_option maxRecDepth 100000 in
theorem freshR_ok : CtrBSound Tryz.prog 33 freshRC :=
  ctrB_of_ax2 mixed _ Tryz.func33 (by kernel_rfl) rfl (fun _ _ => ⟨Nat.le_of_ble_eq_true rfl, Nat.le_of_ble_eq_true rfl⟩) fun ((r, u) : Rs × Unit) id hd => by
    refine ⟨_, ⟨env_okB tys_ok (eqs := []) trivial (cs := [(59, freeC)]) ⟨free_ok, trivial⟩ (bs := [(58, failC)]) ⟨fail_ok, trivial⟩ (gl := tabP), fun _ h => h⟩, ?_⟩
    refine ⟨(r, ()), ⟨.refl _, trivial⟩, rfl, ⟨hd.1, trivial⟩, ?_⟩
    refine ⟨fun h => ?_, fun h => ?_⟩
    · have h : (!r.free) = true := h
      have h1 : r.free = false := by simpa using h
      refine ⟨by kernel_rfl, ?_⟩
      refine ⟨(r, 4), ⟨.refl _, .refl _, trivial⟩, ⟨⟨rfl, .refl _, .refl _, .refl _, .refl _, .refl _, trivial⟩, trivial⟩, ⟨hd.1, trivial⟩, ?_⟩
      have hE : r.fail 4 = r.fresh := (if_neg (by rw [h1]; decide)).symm
      exact ⟨.str (if_neg (by rw [h1]; decide)).symm, ⟨rfl, .rowEq (rL hE :), .int (rI hE :), .int (rN hE :), .int (rA hE :), .int (rE hE :), trivial⟩, trivial⟩
    · have h : (!r.free) = false := h
      have h1 : r.free = true := by simpa using h
      have hat := Rs.free_at h1
      have hk : r.L.length ≤ 1000000 := hd.1.1
      have hk2 : r.i ≤ r.L.length := hd.1.2
      have hw : IntKind.i64.wrap ((r.i : Int) + 1) = ((r.i + 1 : Nat) : Int) := by rw [wrap_eq _ (by omega) (by omega)]; omega
      have hw2 : IntKind.i64.wrap (IntKind.i64.wrap ((r.i : Int) + 1) - 1) = (r.i : Int) := by rw [hw, wrap_eq _ (by omega) (by omega)]; omega
      refine ⟨by kernel_rfl, ?_⟩
      refine ⟨(show 0 ≤ IntKind.i64.wrap (IntKind.i64.wrap ((r.i : Int) + 1) - 1) ∧ IntKind.i64.wrap (IntKind.i64.wrap ((r.i : Int) + 1) - 1) < (r.L.length : Int) by rw [hw2]; omega), ?_⟩
      have hE : r.step = r.fresh := ((if_pos h1)).symm
      refine ⟨.str ?_, ⟨rfl, .rowEq (rL hE :), .int ((hwI hd.1).trans (rI hE :)), .int (rN hE :), .int (rA hE :), .int (rE hE :), trivial⟩, trivial⟩
      show (r.L.getD (IntKind.i64.wrap (IntKind.i64.wrap ((r.i : Int) + 1) - 1)).toNat tok0).2.1 = r.freshV
      rw [hw2]
      unfold Rs.freshV
      rw [if_pos h1, Rs.next_some hat]
      rfl
def numRC : CtrB := rdC (Int × Int) (fun x => [I x.1, I x.2]) (fun r x _ => I (r.numV x.1 x.2)) (fun r x => r.num x.1 x.2) fun _ => True
set_option maxRecDepth 100000 in
theorem numR_ok : CtrBSound Tryz.prog 73 numRC :=
  ctrB_of_ax2 mixed _ Tryz.func73 (by kernel_rfl) rfl (fun _ _ => ⟨Nat.le_of_ble_eq_true rfl, Nat.le_of_ble_eq_true rfl⟩) fun ((r, lo, hi) : Rs × Int × Int) id hd => by
    refine ⟨_, ⟨env_okB tys_ok (eqs := []) trivial (cs := [(57, nextC)]) ⟨next_ok, trivial⟩ (bs := [(58, failC)]) ⟨fail_ok, trivial⟩ (gl := tabP), fun _ h => h⟩, ?_⟩
    refine ⟨(r, ()), ⟨.refl _, trivial⟩, rfl, ⟨hd.1, trivial⟩, ?_⟩
    have no : r.numOk lo hi = false → 0 = r.numV lo hi ∧ r.fail 4 = r.num lo hi := fun h => ⟨(if_neg (by rw [h]; decide)).symm, (if_neg (by rw [h]; decide)).symm⟩
    refine ⟨fun h1 => ?_, fun h1 => ?_⟩
    · have hn : r.numOk lo hi = false := decide_eq_false fun c => by
        have h1 : (r.next.1 != 2) = true := h1
        rw [c.1] at h1; simp at h1
      refine ⟨by kernel_rfl, ?_⟩
      refine ⟨(r, 4), ⟨.refl _, .refl _, trivial⟩, ⟨⟨rfl, .refl _, .refl _, .refl _, .refl _, .refl _, trivial⟩, trivial⟩, ⟨hd.1, trivial⟩, ?_⟩
      have hE := (no hn).2
      exact ⟨.int (no hn).1, ⟨rfl, .rowEq (rL hE :), .int (rI hE :), .int (rN hE :), .int (rA hE :), .int (rE hE :), trivial⟩, trivial⟩
    have h1 : (r.next.1 != 2) = false := h1
    have e1 : r.next.1 = 2 := by simpa using h1
    refine ⟨fun h2 => ?_, fun h2 => ?_⟩
    · have h2 : r.next.2.2.1 < lo := of_decide_eq_true h2
      have hn : r.numOk lo hi = false := decide_eq_false fun c => by omega
      refine ⟨by kernel_rfl, ?_⟩
      refine ⟨(r, 4), ⟨.refl _, .refl _, trivial⟩, ⟨⟨rfl, .refl _, .refl _, .refl _, .refl _, .refl _, trivial⟩, trivial⟩, ⟨hd.1, trivial⟩, ?_⟩
      have hE := (no hn).2
      exact ⟨.int (no hn).1, ⟨rfl, .rowEq (rL hE :), .int (rI hE :), .int (rN hE :), .int (rA hE :), .int (rE hE :), trivial⟩, trivial⟩
    have h2 : ¬ r.next.2.2.1 < lo := of_decide_eq_false h2
    refine ⟨fun h3 => ?_, fun h3 => ?_⟩
    · have h3 : r.next.2.2.1 > hi := of_decide_eq_true h3
      have hn : r.numOk lo hi = false := decide_eq_false fun c => by omega
      refine ⟨by kernel_rfl, ?_⟩
      refine ⟨(r, 4), ⟨.refl _, .refl _, trivial⟩, ⟨⟨rfl, .refl _, .refl _, .refl _, .refl _, .refl _, trivial⟩, trivial⟩, ⟨hd.1, trivial⟩, ?_⟩
      have hE := (no hn).2
      exact ⟨.int (no hn).1, ⟨rfl, .rowEq (rL hE :), .int (rI hE :), .int (rN hE :), .int (rA hE :), .int (rE hE :), trivial⟩, trivial⟩
    have h3 : ¬ r.next.2.2.1 > hi := of_decide_eq_false h3
    have hy : r.numOk lo hi = true := decide_eq_true ⟨e1, by omega, by omega⟩
    have hE : r.step = r.num lo hi := ((if_pos hy)).symm
    exact ⟨.int (if_pos hy).symm, ⟨rfl, .rowEq (rL hE :), .int ((hwI hd.1).trans (rI hE :)), .int (rN hE :), .int (rA hE :), .int (rE hE :), trivial⟩, trivial⟩
def roomC : CtrB := rdC (Int × Int) (fun x => [I x.1, I x.2]) (fun _ _ _ => .tup []) (fun r x => r.room x.1 x.2) fun _ => True
set_option maxRecDepth 100000 in
theorem room_ok : CtrBSound Tryz.prog 31 roomC :=
  ctrB_of_ax2 mixed _ Tryz.func31 (by kernel_rfl) rfl (fun _ _ => ⟨Nat.le_of_ble_eq_true rfl, Nat.le_of_ble_eq_true rfl⟩) fun ((r, a, b) : Rs × Int × Int) id hd => by
    refine ⟨_, ⟨env_okB tys_ok (eqs := []) trivial (cs := []) trivial (bs := [(58, failC)]) ⟨fail_ok, trivial⟩ (gl := tabP), fun _ h => h⟩, ?_⟩
    refine ⟨fun h => ?_, fun h => ?_⟩
    · have h : a ≥ b := of_decide_eq_true h
      refine ⟨by kernel_rfl, ?_⟩
      refine ⟨(r, 2), ⟨.refl _, .refl _, trivial⟩, ⟨⟨rfl, .refl _, .refl _, .refl _, .refl _, .refl _, trivial⟩, trivial⟩, ⟨hd.1, trivial⟩, ?_⟩
      have hE : r.fail 2 = r.room a b := (if_pos h).symm
      exact ⟨.refl (.tup []), ⟨rfl, .rowEq (rL hE :), .int (rI hE :), .int (rN hE :), .int (rA hE :), .int (rE hE :), trivial⟩, trivial⟩
    · have h : ¬ a ≥ b := of_decide_eq_false h
      have hE : r = r.room a b := (if_neg h).symm
      exact ⟨.refl (.tup []), ⟨rfl, .rowEq (rL hE :), .int (rI hE :), .int (rN hE :), .int (rA hE :), .int (rE hE :), trivial⟩, trivial⟩
def rowRC : CtrB := rdC Unit (fun _ => []) (fun r _ _ => B (r.is wLb)) (fun r _ => r.rowR) fun _ => True
set_option maxRecDepth 100000 in
theorem rowR_ok : CtrBSound Tryz.prog 72 rowRC :=
  ctrB_of_ax2 mixed _ Tryz.func72 (by kernel_rfl) rfl (fun _ _ => ⟨Nat.le_of_ble_eq_true rfl, Nat.le_of_ble_eq_true rfl⟩) fun ((r, u) : Rs × Unit) id hd => by
    refine ⟨_, ⟨env_okB tys_ok (eqs := []) trivial (cs := []) trivial (bs := [(34, takeC), (32, wantC)]) ⟨take_ok, want_ok, trivial⟩ (gl := tabP), fun _ h => h⟩, ?_⟩
    refine ⟨by kernel_rfl, ?_⟩
    refine ⟨(r, wLb), ⟨.refl _, .str rfl, trivial⟩, ⟨⟨rfl, .refl _, .refl _, .refl _, .refl _, .refl _, trivial⟩, trivial⟩, ⟨hd.1, trivial⟩, ?_⟩
    refine ⟨fun h => ?_, fun h => ?_⟩
    · have h : (!r.is wLb) = true := h
      have h1 : r.is wLb = false := by simpa using h
      have hE : r.take wLb = r.rowR := (by unfold Rs.take Rs.rowR; rw [if_neg (by rw [h1]; decide), if_neg (by rw [h1]; decide)])
      exact ⟨.bff h1, ⟨rfl, .rowEq (rL hE :), .int (rI hE :), .int (rN hE :), .int (rA hE :), .int (rE hE :), trivial⟩, trivial⟩
    · have h : (!r.is wLb) = false := h
      have h1 : r.is wLb = true := by simpa using h
      refine ⟨by kernel_rfl, ?_⟩
      refine ⟨(r.take wLb, wRb), ⟨.refl _, .str rfl, trivial⟩, ⟨⟨rfl, .refl _, .refl _, .refl _, .refl _, .refl _, trivial⟩, trivial⟩, ⟨rok_fwd hd.1 (Rs.take_fwd r wLb), trivial⟩, ?_⟩
      have hE : (r.take wLb).want wRb = r.rowR := (by unfold Rs.take Rs.rowR; rw [if_pos h1, if_pos h1])
      exact ⟨.btt h1, ⟨rfl, .rowEq (rL hE :), .int (rI hE :), .int (rN hE :), .int (rA hE :), .int (rE hE :), trivial⟩, trivial⟩
end Go.Proofs.YtimhbimpaiiceaaGreatDoor.Ax
/- Layer parse: names, types, parameters. -/
set_option linter.unusedVariables false
set_option linter.unusedSimpArgs false
namespace Go.Proofs.YtimhbimpaiiceaaGreatDoor.Ax
open Go Go.RowKit
theorem notT {b : Bool} (h : (!b) = true) : b = false := by simpa using h
theorem notF {b : Bool} (h : (!b) = false) : b = true := by simpa using h
theorem take_yes {r : Rs} {w : ByteArray} (h : r.is w = true) : r.take w = r.step := if_pos h
theorem take_no {r : Rs} {w : ByteArray} (h : r.is w = false) : r.take w = r := if_neg (by rw [h]; decide)
theorem need_le (r : Rs) : r.need ≤ r.L.length + 2 := by
  unfold Rs.need
  split <;> omega
def nmsC : CtrB := rdC Unit (fun _ => []) (fun r _ id => .own ByteArray 1 strC noS r.names.1 id) (fun r _ => r.names.2) fun _ => True
set_option maxRecDepth 100000 in
theorem nms_ok : CtrBSound Tryz.prog 35 nmsC :=
  ctrB_of_ax2 mixed _ Tryz.func35 (by kernel_rfl) rfl (fun _ _ => ⟨Nat.le_of_ble_eq_true rfl, Nat.le_of_ble_eq_true rfl⟩) fun ((r, u) : Rs × Unit) id hd => by
    refine ⟨_, ⟨env_okB tys_ok (eqs := []) trivial (cs := [(59, freeC)]) ⟨free_ok, trivial⟩ (bs := [(34, takeC), (33, freshRC), (31, roomC)]) ⟨take_ok, freshR_ok, room_ok, trivial⟩ (gl := tabP), fun _ h => h⟩, ?_⟩
    have hL : r.L.length ≤ 1000000 := hd.1.1
    refine ⟨by kernel_rfl, ?_⟩
    refine ⟨(r, ()), ⟨.refl _, trivial⟩, ⟨⟨rfl, .refl _, .refl _, .refl _, .refl _, .refl _, trivial⟩, trivial⟩, ⟨hd.1, trivial⟩, ?_⟩
    refine ⟨ByteArray, strC, noS, [r.freshV], ⟨rfl, fun _ => rfl⟩, ⟨.refl _, trivial⟩, rfl, ?_⟩
    refine ⟨Nat × Rs × List ByteArray × Bool, fun s => [(0, .box 1000 0), (3, .own ByteArray 1 strC noS s.2.2.1 (if s.2.2.2 then 19 else 6))], fun s => [(1000, rsC s.2.1)],
      fun s => Rs.namesL s.1 s.2.1 s.2.2.1 = r.names ∧ s.2.1.need ≤ s.1 ∧ Fwd r s.2.1 ∧ s.2.2.1.length + s.1 = r.L.length + 3, fun s => s.1,
      ⟨(r.L.length + 2, r.fresh, [r.freshV], false), ⟨rfl, (by have := need_le r.fresh; rw [(Rs.fresh_fwd r).L] at this; exact this), Rs.fresh_fwd r, (by show 1 + (r.L.length + 2) = _; omega)⟩, ⟨⟨rfl, rfl⟩, .refl _, .refl _, ⟨.refl _, .refl _, .refl _, .refl _, .refl _, trivial⟩, trivial⟩⟩, fun ((k, q, out, b) : Nat × Rs × List ByteArray × Bool) hx => ?_⟩
    have hx1 : Rs.namesL k q out = r.names := hx.1
    have hx2 : q.need ≤ k := hx.2.1
    have hx3 : Fwd r q := hx.2.2.1
    have hx4 : out.length + k = r.L.length + 3 := hx.2.2.2
    obtain ⟨k, rfl⟩ : ∃ k', k = k' + 1 := ⟨k - 1, by have := Rs.need_pos q; omega⟩
    have hq : rok q := rok_fwd hd.1 hx3
    refine ⟨by kernel_rfl, ?_⟩
    refine ⟨(q, wComma), ⟨.refl _, .str rfl, trivial⟩, ⟨⟨rfl, .refl _, .refl _, .refl _, .refl _, .refl _, trivial⟩, trivial⟩, ⟨hq, trivial⟩, ?_⟩
    refine ⟨fun h => ?_, fun h => ?_⟩
    · have h1 : q.is wComma = true := h
      have hat := Rs.is_at h1
      have hst := take_yes h1
      have hqs : rok (q.take wComma) := rok_fwd hq (Rs.take_fwd q _)
      have hn1 := Rs.name1_fwd hat (out.length : Int)
      have hrn : rok (q.name1 out.length) := rok_fwd hq hn1
      rw [Rs.namesL, if_pos h1] at hx1
      have hinv : Rs.namesL k (q.name1 out.length).fresh (out ++ [(q.name1 out.length).freshV]) = r.names ∧ (q.name1 out.length).fresh.need ≤ k ∧ Fwd r (q.name1 out.length).fresh ∧ (out ++ [(q.name1 out.length).freshV]).length + k = r.L.length + 3 := by
        have hf := hn1.trans (Rs.fresh_fwd _)
        have := Rs.need_lt hat hf (Rs.on_fwd (Rs.name1_on q out.length) (Rs.fresh_fwd _))
        exact ⟨hx1, by omega, hx3.trans hf, by simp; omega⟩
      refine ⟨(q.take wComma, ()), ⟨.refl _, trivial⟩, rfl, ⟨hqs, trivial⟩, ?_⟩
      refine ⟨fun h => ?_, fun h => ?_⟩
      · have h2 : (q.take wComma).free = true := h
        refine ⟨by kernel_rfl, ?_⟩
        refine ⟨(q.take wComma, (out.length : Int), 4), ⟨.refl _, .refl _, .refl _, trivial⟩, ⟨⟨rfl, .refl _, .refl _, .refl _, .refl _, .refl _, trivial⟩, trivial⟩, ⟨hqs, trivial⟩, ?_⟩
        have hE : (q.take wComma).room out.length 4 = q.name1 out.length := by
          rw [hst] at h2 ⊢
          unfold Rs.name1; rw [if_pos h2]
        refine ⟨by kernel_rfl, ?_⟩
        refine ⟨(q.name1 out.length, ()), ⟨.refl _, trivial⟩, ⟨⟨rfl, .rowEq (rL hE :), .int (rI hE :), .int (rN hE :), .int (rA hE :), .int (rE hE :), trivial⟩, trivial⟩, ⟨hrn, trivial⟩, ?_⟩
        refine ⟨ByteArray, strC, noS, [(q.name1 out.length).freshV], ⟨rfl, fun _ => rfl⟩, ⟨.refl _, trivial⟩, rfl, ?_⟩
        cases b
        · refine ⟨ByteArray, strC, noS, out, [(q.name1 out.length).freshV], 6, ⟨.refl _, .own ..⟩, fun _ => rfl, (by show (out.length + 1) * 16 ≤ 140737488355328; omega), ?_⟩
          exact ⟨(k, (q.name1 out.length).fresh, out ++ [(q.name1 out.length).freshV], true), hinv, Nat.lt_succ_self _, ⟨rfl, rfl⟩, .refl _, .refl _, ⟨.refl _, .refl _, .refl _, .refl _, .refl _, trivial⟩, trivial⟩
        · refine ⟨ByteArray, strC, noS, out, [(q.name1 out.length).freshV], 19, ⟨.refl _, .own ..⟩, fun _ => rfl, (by show (out.length + 1) * 16 ≤ 140737488355328; omega), ?_⟩
          exact ⟨(k, (q.name1 out.length).fresh, out ++ [(q.name1 out.length).freshV], true), hinv, Nat.lt_succ_self _, ⟨rfl, rfl⟩, .refl _, .refl _, ⟨.refl _, .refl _, .refl _, .refl _, .refl _, trivial⟩, trivial⟩
      · have h2 : (q.take wComma).free = false := h
        have hE : q.take wComma = q.name1 out.length := by
          rw [hst] at h2 ⊢
          unfold Rs.name1; rw [if_neg (by rw [h2]; decide)]
        refine ⟨by kernel_rfl, ?_⟩
        refine ⟨(q.name1 out.length, ()), ⟨.refl _, trivial⟩, ⟨⟨rfl, .rowEq (rL hE :), .int (rI hE :), .int (rN hE :), .int (rA hE :), .int (rE hE :), trivial⟩, trivial⟩, ⟨hrn, trivial⟩, ?_⟩
        refine ⟨ByteArray, strC, noS, [(q.name1 out.length).freshV], ⟨rfl, fun _ => rfl⟩, ⟨.refl _, trivial⟩, rfl, ?_⟩
        cases b
        · refine ⟨ByteArray, strC, noS, out, [(q.name1 out.length).freshV], 6, ⟨.refl _, .own ..⟩, fun _ => rfl, (by show (out.length + 1) * 16 ≤ 140737488355328; omega), ?_⟩
          exact ⟨(k, (q.name1 out.length).fresh, out ++ [(q.name1 out.length).freshV], true), hinv, Nat.lt_succ_self _, ⟨rfl, rfl⟩, .refl _, .refl _, ⟨.refl _, .refl _, .refl _, .refl _, .refl _, trivial⟩, trivial⟩
        · refine ⟨ByteArray, strC, noS, out, [(q.name1 out.length).freshV], 19, ⟨.refl _, .own ..⟩, fun _ => rfl, (by show (out.length + 1) * 16 ≤ 140737488355328; omega), ?_⟩
          exact ⟨(k, (q.name1 out.length).fresh, out ++ [(q.name1 out.length).freshV], true), hinv, Nat.lt_succ_self _, ⟨rfl, rfl⟩, .refl _, .refl _, ⟨.refl _, .refl _, .refl _, .refl _, .refl _, trivial⟩, trivial⟩
    · have h1 : q.is wComma = false := h
      rw [Rs.namesL, if_neg (by rw [h1]; decide)] at hx1
      have hE : q.take wComma = r.names.2 := by rw [take_no h1, ← hx1]
      cases b
      · exact ⟨.ownEq (by rw [← hx1]), ⟨rfl, .rowEq (rL hE :), .int (rI hE :), .int (rN hE :), .int (rA hE :), .int (rE hE :), trivial⟩, trivial⟩
      · exact ⟨.ownEq (by rw [← hx1]), ⟨rfl, .rowEq (rL hE :), .int (rI hE :), .int (rN hE :), .int (rA hE :), .int (rE hE :), trivial⟩, trivial⟩
def kindRC : CtrB := rdC Unit (fun _ => []) (fun r _ _ => tyS r.kindV) (fun r _ => r.kind) fun _ => True
theorem Sub.tyEq {a b : Ty} (h : a = b) : Sub (tyS a) (tyS b) := by subst h; exact .refl _
set_option maxRecDepth 100000 in
theorem kindR_ok : CtrBSound Tryz.prog 60 kindRC :=
  ctrB_of_ax2 mixed _ Tryz.func60 (by kernel_rfl) rfl (fun _ _ => ⟨Nat.le_of_ble_eq_true rfl, Nat.le_of_ble_eq_true rfl⟩) fun ((r, u) : Rs × Unit) id hd => by
    refine ⟨_, ⟨env_okB tys_ok (eqs := []) trivial (cs := []) trivial (bs := [(34, takeC), (33, freshRC), (72, rowRC)]) ⟨take_ok, freshR_ok, rowR_ok, trivial⟩ (gl := tabP), fun _ h => h⟩, ?_⟩
    refine ⟨by kernel_rfl, ?_⟩
    refine ⟨(r, wVoid), ⟨.refl _, .str rfl, trivial⟩, ⟨⟨rfl, .refl _, .refl _, .refl _, .refl _, .refl _, trivial⟩, trivial⟩, ⟨hd.1, trivial⟩, ?_⟩
    refine ⟨fun h => ?_, fun h => ?_⟩
    · have h1 : r.is wVoid = true := h
      have hE : r.take wVoid = r.kind := by rw [take_yes h1]; unfold Rs.kind; rw [if_pos h1]
      have hV : ((1, noS) : Ty) = r.kindV := by unfold Rs.kindV; rw [if_pos h1]
      exact ⟨.tyEq hV, ⟨rfl, .rowEq (rL hE :), .int (rI hE :), .int (rN hE :), .int (rA hE :), .int (rE hE :), trivial⟩, trivial⟩
    have h1 : r.is wVoid = false := h
    have hE : r.take wVoid = r := take_no h1
    refine ⟨by kernel_rfl, ?_⟩
    refine ⟨(r, wInt), ⟨.refl _, .str rfl, trivial⟩, ⟨⟨rfl, .rowEq (rL hE :), .int (rI hE :), .int (rN hE :), .int (rA hE :), .int (rE hE :), trivial⟩, trivial⟩, ⟨hd.1, trivial⟩, ?_⟩
    clear hE
    refine ⟨fun h => ?_, fun h => ?_⟩
    · have h2 : r.is wInt = true := h
      have hst := take_yes h2
      refine ⟨by kernel_rfl, ?_⟩
      refine ⟨(r.take wInt, ()), ⟨.refl _, trivial⟩, ⟨⟨rfl, .refl _, .refl _, .refl _, .refl _, .refl _, trivial⟩, trivial⟩, ⟨rok_fwd hd.1 (Rs.take_fwd r _), trivial⟩, ?_⟩
      have hE : (r.take wInt).rowR = r.kind := by rw [hst]; unfold Rs.kind; rw [if_neg (by rw [h1]; decide), if_pos h2]
      refine ⟨fun h => ?_, fun h => ?_⟩
      · have h3 : (r.take wInt).is wLb = true := h
        have hV : ((4, noS) : Ty) = r.kindV := by rw [hst] at h3; unfold Rs.kindV; rw [if_neg (by rw [h1]; decide), if_pos h2, if_pos h3]
        exact ⟨.tyEq hV, ⟨rfl, .rowEq (rL hE :), .int (rI hE :), .int (rN hE :), .int (rA hE :), .int (rE hE :), trivial⟩, trivial⟩
      · have h3 : (r.take wInt).is wLb = false := h
        have hV : ((2, noS) : Ty) = r.kindV := by rw [hst] at h3; unfold Rs.kindV; rw [if_neg (by rw [h1]; decide), if_pos h2, if_neg (by rw [h3]; decide)]
        exact ⟨.tyEq hV, ⟨rfl, .rowEq (rL hE :), .int (rI hE :), .int (rN hE :), .int (rA hE :), .int (rE hE :), trivial⟩, trivial⟩
    have h2 : r.is wInt = false := h
    have hE : r.take wInt = r := take_no h2
    refine ⟨by kernel_rfl, ?_⟩
    refine ⟨(r, ()), ⟨.refl _, trivial⟩, ⟨⟨rfl, .rowEq (rL hE :), .int (rI hE :), .int (rN hE :), .int (rA hE :), .int (rE hE :), trivial⟩, trivial⟩, ⟨hd.1, trivial⟩, ?_⟩
    clear hE
    refine ⟨by kernel_rfl, ?_⟩
    refine ⟨(r.fresh, ()), ⟨.refl _, trivial⟩, ⟨⟨rfl, .refl _, .refl _, .refl _, .refl _, .refl _, trivial⟩, trivial⟩, ⟨rok_fwd hd.1 (Rs.fresh_fwd r), trivial⟩, ?_⟩
    have hE : r.fresh.rowR = r.kind := by unfold Rs.kind; rw [if_neg (by rw [h1]; decide), if_neg (by rw [h2]; decide)]
    refine ⟨fun h => ?_, fun h => ?_⟩
    · have h3 : r.fresh.is wLb = true := h
      have hV : ((5, r.freshV) : Ty) = r.kindV := by unfold Rs.kindV; rw [if_neg (by rw [h1]; decide), if_neg (by rw [h2]; decide), if_pos h3]
      exact ⟨.tyEq hV, ⟨rfl, .rowEq (rL hE :), .int (rI hE :), .int (rN hE :), .int (rA hE :), .int (rE hE :), trivial⟩, trivial⟩
    · have h3 : r.fresh.is wLb = false := h
      have hV : ((3, r.freshV) : Ty) = r.kindV := by unfold Rs.kindV; rw [if_neg (by rw [h1]; decide), if_neg (by rw [h2]; decide), if_neg (by rw [h3]; decide)]
      exact ⟨.tyEq hV, ⟨rfl, .rowEq (rL hE :), .int (rI hE :), .int (rN hE :), .int (rA hE :), .int (rE hE :), trivial⟩, trivial⟩
end Go.Proofs.YtimhbimpaiiceaaGreatDoor.Ax
/- Layer parse: parameters, instructions. -/
set_option linter.unusedVariables false
set_option linter.unusedSimpArgs false
namespace Go.Proofs.YtimhbimpaiiceaaGreatDoor.Ax
open Go Go.RowKit
def paramsRC : CtrB := rdC Unit (fun _ => []) (fun r _ id => .own Ty 2 tyC ty0 r.params.1 id) (fun r _ => r.params.2) fun _ => True
set_option maxRecDepth 100000 in
theorem paramsR_ok : CtrBSound Tryz.prog 61 paramsRC :=
  ctrB_of_ax2 mixed _ Tryz.func61 (by kernel_rfl) rfl (fun _ _ => ⟨Nat.le_of_ble_eq_true rfl, Nat.le_of_ble_eq_true rfl⟩) fun ((r, u) : Rs × Unit) id hd => by
    refine ⟨_, ⟨env_okB tys_ok (eqs := []) trivial (cs := [(59, freeC), (30, isC)]) ⟨free_ok, is_ok, trivial⟩ (bs := [(34, takeC), (32, wantC), (60, kindRC), (31, roomC)]) ⟨take_ok, want_ok, kindR_ok, room_ok, trivial⟩ (gl := tabP), fun _ h => h⟩, ?_⟩
    have hL : r.L.length ≤ 1000000 := hd.1.1
    have hf0 := Rs.want_fwd r wLp
    have hf1 : Fwd r (r.want wLp).kind := hf0.trans (Rs.kind_fwd _)
    refine ⟨by kernel_rfl, ?_⟩
    refine ⟨(r, wLp), ⟨.refl _, .str rfl, trivial⟩, ⟨⟨rfl, .refl _, .refl _, .refl _, .refl _, .refl _, trivial⟩, trivial⟩, ⟨hd.1, trivial⟩, ?_⟩
    refine ⟨by kernel_rfl, ?_⟩
    refine ⟨(r.want wLp, wRp), ⟨.refl _, .str rfl, trivial⟩, ⟨⟨rfl, .refl _, .refl _, .refl _, .refl _, .refl _, trivial⟩, trivial⟩, ⟨rok_fwd hd.1 hf0, trivial⟩, ?_⟩
    refine ⟨fun h => ?_, fun h => ?_⟩
    · have h1 : (r.want wLp).is wRp = true := h
      have e : r.params = ([], (r.want wLp).step) := by unfold Rs.params; rw [if_pos h1]
      have hE : (r.want wLp).take wRp = r.params.2 := by rw [e, take_yes h1]
      exact ⟨(show Sub _ (.own Ty 2 tyC ty0 r.params.1 id) by rw [e]; exact .nilO ..), ⟨rfl, .rowEq (rL hE :), .int (rI hE :), .int (rN hE :), .int (rA hE :), .int (rE hE :), trivial⟩, trivial⟩
    have h1 : (r.want wLp).is wRp = false := h
    have e : r.params = ((Rs.paramsL (r.L.length + 2) (r.want wLp).kind [(r.want wLp).kindV]).1, (Rs.paramsL (r.L.length + 2) (r.want wLp).kind [(r.want wLp).kindV]).2.want wRp) := by unfold Rs.params; rw [if_neg (by rw [h1]; decide)]
    have hE : (r.want wLp).take wRp = r.want wLp := take_no h1
    refine ⟨by kernel_rfl, ?_⟩
    refine ⟨(r.want wLp, ()), ⟨.refl _, trivial⟩, ⟨⟨rfl, .rowEq (rL hE :), .int (rI hE :), .int (rN hE :), .int (rA hE :), .int (rE hE :), trivial⟩, trivial⟩, ⟨rok_fwd hd.1 hf0, trivial⟩, ?_⟩
    clear hE
    refine ⟨Ty, tyC, ty0, [(r.want wLp).kindV], ⟨rfl, fun _ => rfl⟩, ⟨.refl _, .refl _, trivial⟩, rfl, ?_⟩
    refine ⟨Nat × Rs × List Ty × Bool, fun s => [(0, .box 1000 0), (3, .own Ty 2 tyC ty0 s.2.2.1 (if s.2.2.2 then 31 else 10))], fun s => [(1000, rsC s.2.1)],
      fun s => Rs.paramsL s.1 s.2.1 s.2.2.1 = Rs.paramsL (r.L.length + 2) (r.want wLp).kind [(r.want wLp).kindV] ∧ s.2.1.need ≤ s.1 ∧ Fwd r s.2.1 ∧ s.2.2.1.length + s.1 = r.L.length + 3, fun s => s.1,
      ⟨(r.L.length + 2, (r.want wLp).kind, [(r.want wLp).kindV], false), ⟨rfl, (by have := need_le (r.want wLp).kind; rw [hf1.L] at this; exact this), hf1, (by show 1 + (r.L.length + 2) = _; omega)⟩, ⟨⟨rfl, rfl⟩, .refl _, .refl _, ⟨.refl _, .refl _, .refl _, .refl _, .refl _, trivial⟩, trivial⟩⟩, fun ((k, q, out, b) : Nat × Rs × List Ty × Bool) hx => ?_⟩
    have hx1 : Rs.paramsL k q out = Rs.paramsL (r.L.length + 2) (r.want wLp).kind [(r.want wLp).kindV] := hx.1
    have hx2 : q.need ≤ k := hx.2.1
    have hx3 : Fwd r q := hx.2.2.1
    have hx4 : out.length + k = r.L.length + 3 := hx.2.2.2
    obtain ⟨k, rfl⟩ : ∃ k', k = k' + 1 := ⟨k - 1, by have := Rs.need_pos q; omega⟩
    have hq : rok q := rok_fwd hd.1 hx3
    refine ⟨by kernel_rfl, ?_⟩
    refine ⟨(q, wComma), ⟨.refl _, .str rfl, trivial⟩, ⟨⟨rfl, .refl _, .refl _, .refl _, .refl _, .refl _, trivial⟩, trivial⟩, ⟨hq, trivial⟩, ?_⟩
    refine ⟨fun h => ?_, fun h => ?_⟩
    · have h1 : q.is wComma = true := h
      have hat := Rs.is_at h1
      have hst := take_yes h1
      have hqs : rok (q.take wComma) := rok_fwd hq (Rs.take_fwd q _)
      have hn1 := Rs.param1_fwd hat (out.length : Int)
      have hrn : rok (q.param1 out.length) := rok_fwd hq hn1
      rw [Rs.paramsL, if_pos h1] at hx1
      have hinv : Rs.paramsL k (q.param1 out.length).kind (out ++ [(q.param1 out.length).kindV]) = Rs.paramsL (r.L.length + 2) (r.want wLp).kind [(r.want wLp).kindV] ∧ (q.param1 out.length).kind.need ≤ k ∧ Fwd r (q.param1 out.length).kind ∧ (out ++ [(q.param1 out.length).kindV]).length + k = r.L.length + 3 := by
        have hf := hn1.trans (Rs.kind_fwd _)
        have := Rs.need_lt hat hf (Rs.on_fwd (Rs.param1_on q out.length) (Rs.kind_fwd _))
        exact ⟨hx1, by omega, hx3.trans hf, by simp; omega⟩
      have fin : ∀ p : Rs, p = q.param1 out.length → p = q.param1 out.length := fun _ h => h
      have yes : ((q.step.free || q.step.is wInt || q.step.is wVoid) = true) → (q.take wComma).room out.length 4 = q.param1 out.length := fun h => by
        rw [hst]; unfold Rs.param1; rw [if_pos h]
      have nope : ((q.step.free || q.step.is wInt || q.step.is wVoid) = false) → q.take wComma = q.param1 out.length := fun h => by
        rw [hst]; unfold Rs.param1; rw [if_neg (by rw [h]; decide)]
      refine ⟨(q.take wComma, ()), ⟨.refl _, trivial⟩, rfl, ⟨hqs, trivial⟩, ?_⟩
      refine ⟨fun h2 => ?_, fun h2 => ?_⟩
      · have h2 : (q.take wComma).free = true := h2
        refine ⟨by kernel_rfl, ?_⟩
        refine ⟨(q.take wComma, (out.length : Int), 4), ⟨.refl _, .refl _, .refl _, trivial⟩, ⟨⟨rfl, .refl _, .refl _, .refl _, .refl _, .refl _, trivial⟩, trivial⟩, ⟨hqs, trivial⟩, ?_⟩
        have hE := yes (by rw [← hst]; rw [h2]; rfl)
        refine ⟨by kernel_rfl, ?_⟩
        refine ⟨(q.param1 out.length, ()), ⟨.refl _, trivial⟩, ⟨⟨rfl, .rowEq (rL hE :), .int (rI hE :), .int (rN hE :), .int (rA hE :), .int (rE hE :), trivial⟩, trivial⟩, ⟨hrn, trivial⟩, ?_⟩
        refine ⟨Ty, tyC, ty0, [(q.param1 out.length).kindV], ⟨rfl, fun _ => rfl⟩, ⟨.refl _, .refl _, trivial⟩, rfl, ?_⟩
        cases b
        · refine ⟨Ty, tyC, ty0, out, [(q.param1 out.length).kindV], 10, ⟨.refl _, .own ..⟩, fun _ => rfl, (by show (out.length + 1) * 24 ≤ 140737488355328; omega), ?_⟩
          exact ⟨(k, (q.param1 out.length).kind, out ++ [(q.param1 out.length).kindV], true), hinv, Nat.lt_succ_self _, ⟨rfl, rfl⟩, .refl _, .refl _, ⟨.refl _, .refl _, .refl _, .refl _, .refl _, trivial⟩, trivial⟩
        · refine ⟨Ty, tyC, ty0, out, [(q.param1 out.length).kindV], 31, ⟨.refl _, .own ..⟩, fun _ => rfl, (by show (out.length + 1) * 24 ≤ 140737488355328; omega), ?_⟩
          exact ⟨(k, (q.param1 out.length).kind, out ++ [(q.param1 out.length).kindV], true), hinv, Nat.lt_succ_self _, ⟨rfl, rfl⟩, .refl _, .refl _, ⟨.refl _, .refl _, .refl _, .refl _, .refl _, trivial⟩, trivial⟩
      have h2 : (q.take wComma).free = false := h2
      refine ⟨(q.take wComma, wInt), ⟨.refl _, .str rfl, trivial⟩, rfl, ⟨hqs, trivial⟩, ?_⟩
      refine ⟨fun h3 => ?_, fun h3 => ?_⟩
      · have h3 : (q.take wComma).is wInt = true := h3
        refine ⟨by kernel_rfl, ?_⟩
        refine ⟨(q.take wComma, (out.length : Int), 4), ⟨.refl _, .refl _, .refl _, trivial⟩, ⟨⟨rfl, .refl _, .refl _, .refl _, .refl _, .refl _, trivial⟩, trivial⟩, ⟨hqs, trivial⟩, ?_⟩
        have hE := yes (by rw [← hst]; rw [h2, h3]; rfl)
        refine ⟨by kernel_rfl, ?_⟩
        refine ⟨(q.param1 out.length, ()), ⟨.refl _, trivial⟩, ⟨⟨rfl, .rowEq (rL hE :), .int (rI hE :), .int (rN hE :), .int (rA hE :), .int (rE hE :), trivial⟩, trivial⟩, ⟨hrn, trivial⟩, ?_⟩
        refine ⟨Ty, tyC, ty0, [(q.param1 out.length).kindV], ⟨rfl, fun _ => rfl⟩, ⟨.refl _, .refl _, trivial⟩, rfl, ?_⟩
        cases b
        · refine ⟨Ty, tyC, ty0, out, [(q.param1 out.length).kindV], 10, ⟨.refl _, .own ..⟩, fun _ => rfl, (by show (out.length + 1) * 24 ≤ 140737488355328; omega), ?_⟩
          exact ⟨(k, (q.param1 out.length).kind, out ++ [(q.param1 out.length).kindV], true), hinv, Nat.lt_succ_self _, ⟨rfl, rfl⟩, .refl _, .refl _, ⟨.refl _, .refl _, .refl _, .refl _, .refl _, trivial⟩, trivial⟩
        · refine ⟨Ty, tyC, ty0, out, [(q.param1 out.length).kindV], 31, ⟨.refl _, .own ..⟩, fun _ => rfl, (by show (out.length + 1) * 24 ≤ 140737488355328; omega), ?_⟩
          exact ⟨(k, (q.param1 out.length).kind, out ++ [(q.param1 out.length).kindV], true), hinv, Nat.lt_succ_self _, ⟨rfl, rfl⟩, .refl _, .refl _, ⟨.refl _, .refl _, .refl _, .refl _, .refl _, trivial⟩, trivial⟩
      have h3 : (q.take wComma).is wInt = false := h3
      refine ⟨(q.take wComma, wVoid), ⟨.refl _, .str rfl, trivial⟩, rfl, ⟨hqs, trivial⟩, ?_⟩
      refine ⟨fun h4 => ?_, fun h4 => ?_⟩
      · have h4 : (q.take wComma).is wVoid = true := h4
        refine ⟨by kernel_rfl, ?_⟩
        refine ⟨(q.take wComma, (out.length : Int), 4), ⟨.refl _, .refl _, .refl _, trivial⟩, ⟨⟨rfl, .refl _, .refl _, .refl _, .refl _, .refl _, trivial⟩, trivial⟩, ⟨hqs, trivial⟩, ?_⟩
        have hE := yes (by rw [← hst]; rw [h2, h3, h4]; rfl)
        refine ⟨by kernel_rfl, ?_⟩
        refine ⟨(q.param1 out.length, ()), ⟨.refl _, trivial⟩, ⟨⟨rfl, .rowEq (rL hE :), .int (rI hE :), .int (rN hE :), .int (rA hE :), .int (rE hE :), trivial⟩, trivial⟩, ⟨hrn, trivial⟩, ?_⟩
        refine ⟨Ty, tyC, ty0, [(q.param1 out.length).kindV], ⟨rfl, fun _ => rfl⟩, ⟨.refl _, .refl _, trivial⟩, rfl, ?_⟩
        cases b
        · refine ⟨Ty, tyC, ty0, out, [(q.param1 out.length).kindV], 10, ⟨.refl _, .own ..⟩, fun _ => rfl, (by show (out.length + 1) * 24 ≤ 140737488355328; omega), ?_⟩
          exact ⟨(k, (q.param1 out.length).kind, out ++ [(q.param1 out.length).kindV], true), hinv, Nat.lt_succ_self _, ⟨rfl, rfl⟩, .refl _, .refl _, ⟨.refl _, .refl _, .refl _, .refl _, .refl _, trivial⟩, trivial⟩
        · refine ⟨Ty, tyC, ty0, out, [(q.param1 out.length).kindV], 31, ⟨.refl _, .own ..⟩, fun _ => rfl, (by show (out.length + 1) * 24 ≤ 140737488355328; omega), ?_⟩
          exact ⟨(k, (q.param1 out.length).kind, out ++ [(q.param1 out.length).kindV], true), hinv, Nat.lt_succ_self _, ⟨rfl, rfl⟩, .refl _, .refl _, ⟨.refl _, .refl _, .refl _, .refl _, .refl _, trivial⟩, trivial⟩
      · have h4 : (q.take wComma).is wVoid = false := h4
        have hE := nope (by rw [← hst]; rw [h2, h3, h4]; rfl)
        refine ⟨by kernel_rfl, ?_⟩
        refine ⟨(q.param1 out.length, ()), ⟨.refl _, trivial⟩, ⟨⟨rfl, .rowEq (rL hE :), .int (rI hE :), .int (rN hE :), .int (rA hE :), .int (rE hE :), trivial⟩, trivial⟩, ⟨hrn, trivial⟩, ?_⟩
        refine ⟨Ty, tyC, ty0, [(q.param1 out.length).kindV], ⟨rfl, fun _ => rfl⟩, ⟨.refl _, .refl _, trivial⟩, rfl, ?_⟩
        cases b
        · refine ⟨Ty, tyC, ty0, out, [(q.param1 out.length).kindV], 10, ⟨.refl _, .own ..⟩, fun _ => rfl, (by show (out.length + 1) * 24 ≤ 140737488355328; omega), ?_⟩
          exact ⟨(k, (q.param1 out.length).kind, out ++ [(q.param1 out.length).kindV], true), hinv, Nat.lt_succ_self _, ⟨rfl, rfl⟩, .refl _, .refl _, ⟨.refl _, .refl _, .refl _, .refl _, .refl _, trivial⟩, trivial⟩
        · refine ⟨Ty, tyC, ty0, out, [(q.param1 out.length).kindV], 31, ⟨.refl _, .own ..⟩, fun _ => rfl, (by show (out.length + 1) * 24 ≤ 140737488355328; omega), ?_⟩
          exact ⟨(k, (q.param1 out.length).kind, out ++ [(q.param1 out.length).kindV], true), hinv, Nat.lt_succ_self _, ⟨rfl, rfl⟩, .refl _, .refl _, ⟨.refl _, .refl _, .refl _, .refl _, .refl _, trivial⟩, trivial⟩
    · have h1 : q.is wComma = false := h
      rw [Rs.paramsL, if_neg (by rw [h1]; decide)] at hx1
      have hE : q.take wComma = (Rs.paramsL (r.L.length + 2) (r.want wLp).kind [(r.want wLp).kindV]).2 := by rw [take_no h1, ← hx1]
      have hE2 : (Rs.paramsL (r.L.length + 2) (r.want wLp).kind [(r.want wLp).kindV]).2.want wRp = r.params.2 := by rw [e]
      refine ⟨by kernel_rfl, ?_⟩
      refine ⟨((Rs.paramsL (r.L.length + 2) (r.want wLp).kind [(r.want wLp).kindV]).2, wRp), ⟨.refl _, .str rfl, trivial⟩, ⟨⟨rfl, .rowEq (rL hE :), .int (rI hE :), .int (rN hE :), .int (rA hE :), .int (rE hE :), trivial⟩, trivial⟩, ⟨rok_fwd hd.1 (hf1.trans (Rs.paramsL_fwd _ _ _)), trivial⟩, ?_⟩
      clear hE
      have hE := hE2
      cases b
      · exact ⟨.ownEq (by rw [e, ← hx1]), ⟨rfl, .rowEq (rL hE :), .int (rI hE :), .int (rN hE :), .int (rA hE :), .int (rE hE :), trivial⟩, trivial⟩
      · exact ⟨.ownEq (by rw [e, ← hx1]), ⟨rfl, .rowEq (rL hE :), .int (rI hE :), .int (rN hE :), .int (rA hE :), .int (rE hE :), trivial⟩, trivial⟩
def opC : Ctr := { A := ByteArray, enc := fun s => [S s], dom := fun _ => True, res := fun s _ => .tup [I (if opV s < 0 then 0 else opV s), B (decide (0 ≤ opV s))], gl := tabS }
set_option maxRecDepth 100000 in
theorem op_ok : CtrSound Tryz.prog 7 opC :=
  ctr_of_ax (env_okB tys_ok (eqs := []) trivial (cs := [(23, opsC), (22, atC)]) ⟨ops_ok, at_ok, trivial⟩ (bs := []) trivial (gl := tabS)) mixed _ Tryz.func7 (by kernel_rfl) rfl (fun _ _ => Nat.le_of_ble_eq_true rfl) fun (s : ByteArray) id hd => by
    refine ⟨(), trivial, rfl, trivial, ?_⟩
    refine ⟨(opsL, s), ⟨.own .., .refl _, trivial⟩, rfl, (show opsL.length ≤ 4611686018427387904 by decide), ?_⟩
    refine ⟨fun h => ?_, fun h => ?_⟩
    · have h : opV s < 0 := of_decide_eq_true h
      exact ⟨.tup2 (.int (if_pos h).symm) (.bff (decide_eq_false (by omega))), rfl⟩
    · have h : ¬ opV s < 0 := of_decide_eq_false h
      exact ⟨.tup2 (.int (if_neg h).symm) (.btt (decide_eq_true (by omega))), rfl⟩
end Go.Proofs.YtimhbimpaiiceaaGreatDoor.Ax
/- Layer parse: instructions. -/
set_option linter.unusedVariables false
set_option linter.unusedSimpArgs false
namespace Go.Proofs.YtimhbimpaiiceaaGreatDoor.Ax
open Go Go.RowKit
namespace Rs
def instrV (r : Rs) (many : Int) : Ins := if r.isOp then (r.instr many).1 else ins0
def instrR (r : Rs) (many : Int) : Rs := if r.isOp then (r.instr many).2 else r
end Rs
theorem Sub.insEq {a b : Ins} (h : a = b) : Sub (.agg (insC a)) (.agg (insC b)) := by subst h; exact .refl _
def instrRC : CtrB := rdC Int (fun n => [I n]) (fun r n _ => .tup [.agg (insC (r.instrV n)), B r.isOp]) (fun r n => r.instrR n) fun _ => True
set_option maxRecDepth 100000 in
set_option maxHeartbeats 2000000 in
theorem instrR_ok : CtrBSound Tryz.prog 74 instrRC :=
  ctrB_of_ax2 mixed _ Tryz.func74 (by kernel_rfl) rfl (fun _ _ => ⟨Nat.le_of_ble_eq_true rfl, Nat.le_of_ble_eq_true rfl⟩) fun ((r, many) : Rs × Int) id hd => by
    refine ⟨_, ⟨env_okB tys_ok (eqs := []) trivial (cs := [(57, nextC), (7, opC), (82, numsC), (83, namesC)]) ⟨next_ok, op_ok, nums_ok, names_ok, trivial⟩ (bs := [(32, wantC), (31, roomC), (73, numRC), (33, freshRC)]) ⟨want_ok, room_ok, numR_ok, freshR_ok, trivial⟩ (cut := [11, 13, 15]) (gl := tabP), fun _ h => h⟩, ?_⟩
    have f0 : Fwd r (r.in1 many) := Rs.in1_fwd r many
    have f1 : Fwd r ((r.in1 many).in2 (opV r.next.2.1)) := f0.trans (Rs.in2_fwd _ _)
    have f2 : Fwd r (((r.in1 many).in2 (opV r.next.2.1)).in3 (decide (namesF (opV r.next.2.1) > 0))) := f1.trans (Rs.in3_fwd _ _)
    have f3 : Fwd r ((((r.in1 many).in2 (opV r.next.2.1)).in3 (decide (namesF (opV r.next.2.1) > 0))).in3 (decide (namesF (opV r.next.2.1) > 1))) := f2.trans (Rs.in3_fwd _ _)
    refine ⟨(r, ()), ⟨.refl _, trivial⟩, rfl, ⟨hd.1, trivial⟩, ?_⟩
    refine ⟨r.next.2.1, ⟨.refl _, trivial⟩, rfl, trivial, ?_⟩
    have nope : r.isOp = false → ins0 = r.instrV many ∧ r = r.instrR many := fun h => ⟨(if_neg (by rw [h]; decide)).symm, (if_neg (by rw [h]; decide)).symm⟩
    refine ⟨fun h => ?_, fun h => ?_⟩
    · have h : (r.next.1 != 1) = true := h
      have h0 : r.isOp = false := by
        unfold Rs.isOp
        rw [decide_eq_false (fun c => by rw [c] at h; simp at h)]; rfl
      have hE := (nope h0).2
      exact ⟨.tup2 (.insEq (nope h0).1) (.bff h0), ⟨rfl, .rowEq (rL hE :), .int (rI hE :), .int (rN hE :), .int (rA hE :), .int (rE hE :), trivial⟩, trivial⟩
    have hk : (r.next.1 != 1) = false := h
    have hk : r.next.1 = 1 := by simpa using hk
    refine ⟨fun h => ?_, fun h => ?_⟩
    · have h : (!decide (0 ≤ opV r.next.2.1)) = true := h
      have h0 : r.isOp = false := by
        unfold Rs.isOp
        rw [notT h]; simp
      have hE := (nope h0).2
      exact ⟨.tup2 (.insEq (nope h0).1) (.bff h0), ⟨rfl, .rowEq (rL hE :), .int (rI hE :), .int (rN hE :), .int (rA hE :), .int (rE hE :), trivial⟩, trivial⟩
    have h : (!decide (0 ≤ opV r.next.2.1)) = false := h
    have h := notF h
    have h0 : r.isOp = true := by
      unfold Rs.isOp
      rw [h, hk]; rfl
    have ho : ¬ opV r.next.2.1 < 0 := by have := of_decide_eq_true h; omega
    have ev : (if opV r.next.2.1 < 0 then 0 else opV r.next.2.1) = opV r.next.2.1 := if_neg ho
    refine ⟨by kernel_rfl, ?_⟩
    refine ⟨(r, many, 48), ⟨.refl _, .refl _, .refl _, trivial⟩, ⟨⟨rfl, .refl _, .refl _, .refl _, .refl _, .refl _, trivial⟩, trivial⟩, ⟨hd.1, trivial⟩, ?_⟩
    refine ⟨by kernel_rfl, ?_⟩
    refine ⟨(r.room many 48, r.next.2.1), ⟨.refl _, .refl _, trivial⟩, ⟨⟨rfl, .refl _, .refl _, .refl _, .refl _, .refl _, trivial⟩, trivial⟩, ⟨rok_fwd hd.1 (Rs.room_fwd r many 48), trivial⟩, ?_⟩
    refine ⟨Unit, fun _ => [(0, .box 1000 0), (4, .box 4 0), (7, I (opV r.next.2.1)), (9, .box 9 0)], fun _ => [(1000, rsC ((r.in1 many).in2 (opV r.next.2.1))), (4, [I 0, I 0, S noS, S noS]), (9, [I (opV r.next.2.1), I ((r.in1 many).in2V (opV r.next.2.1)), S (noS), S (noS)])], fun _ => True, ?_, fun _ _ => ?_⟩
    · refine ⟨opV r.next.2.1, ⟨.int ev, trivial⟩, rfl, trivial, ?_⟩
      refine ⟨fun h => ?_, fun h => ?_⟩
      · have h1 : (numsF (opV r.next.2.1)).2.2 = true := h
        refine ⟨by kernel_rfl, ?_⟩
        refine ⟨(r.in1 many, (numsF (opV r.next.2.1)).1, (numsF (opV r.next.2.1)).2.1), ⟨.refl _, .refl _, .refl _, trivial⟩, ⟨⟨rfl, .refl _, .refl _, .refl _, .refl _, .refl _, trivial⟩, trivial⟩, ⟨rok_fwd hd.1 f0, trivial⟩, ?_⟩
        have hE : (r.in1 many).num (numsF (opV r.next.2.1)).1 (numsF (opV r.next.2.1)).2.1 = (r.in1 many).in2 (opV r.next.2.1) := (if_pos h1).symm
        have hN : (r.in1 many).numV (numsF (opV r.next.2.1)).1 (numsF (opV r.next.2.1)).2.1 = (r.in1 many).in2V (opV r.next.2.1) := (if_pos h1).symm
        exact ⟨(), trivial, ⟨rfl, rfl⟩, .refl _, .int ev, .refl _, .refl _, ⟨.int ev, .int hN, .refl _, .refl _, trivial⟩, ⟨.refl _, .refl _, .refl _, .refl _, trivial⟩, ⟨.rowEq (rL hE :), .int (rI hE :), .int (rN hE :), .int (rA hE :), .int (rE hE :), trivial⟩, trivial⟩
      · have h1 : (numsF (opV r.next.2.1)).2.2 = false := h
        have hE : r.in1 many = (r.in1 many).in2 (opV r.next.2.1) := (if_neg (by rw [h1]; decide)).symm
        have hN : 0 = (r.in1 many).in2V (opV r.next.2.1) := (if_neg (by rw [h1]; decide)).symm
        exact ⟨(), trivial, ⟨rfl, rfl⟩, .refl _, .int ev, .refl _, .refl _, ⟨.int ev, .int hN, .refl _, .refl _, trivial⟩, ⟨.refl _, .refl _, .refl _, .refl _, trivial⟩, ⟨.rowEq (rL hE :), .int (rI hE :), .int (rN hE :), .int (rA hE :), .int (rE hE :), trivial⟩, trivial⟩
    refine ⟨Unit, fun _ => [(0, .box 1000 0), (4, .box 4 0), (7, I (opV r.next.2.1)), (9, .box 9 0)], fun _ => [(1000, rsC (((r.in1 many).in2 (opV r.next.2.1)).in3 (decide (namesF (opV r.next.2.1) > 0)))), (4, [I 0, I 0, S noS, S noS]), (9, [I (opV r.next.2.1), I ((r.in1 many).in2V (opV r.next.2.1)), S (((r.in1 many).in2 (opV r.next.2.1)).in3V (decide (namesF (opV r.next.2.1) > 0))), S (noS)])], fun _ => True, ?_, fun _ _ => ?_⟩
    · refine ⟨opV r.next.2.1, ⟨.refl _, trivial⟩, rfl, trivial, ?_⟩
      refine ⟨fun h => ?_, fun h => ?_⟩
      · have h1 : decide (namesF (opV r.next.2.1) > 0) = true := h
        refine ⟨by kernel_rfl, ?_⟩
        refine ⟨((r.in1 many).in2 (opV r.next.2.1), ()), ⟨.refl _, trivial⟩, ⟨⟨rfl, .refl _, .refl _, .refl _, .refl _, .refl _, trivial⟩, trivial⟩, ⟨rok_fwd hd.1 f1, trivial⟩, ?_⟩
        have hE : ((r.in1 many).in2 (opV r.next.2.1)).fresh = ((r.in1 many).in2 (opV r.next.2.1)).in3 (decide (namesF (opV r.next.2.1) > 0)) := (if_pos h1).symm
        have hN : ((r.in1 many).in2 (opV r.next.2.1)).freshV = ((r.in1 many).in2 (opV r.next.2.1)).in3V (decide (namesF (opV r.next.2.1) > 0)) := (if_pos h1).symm
        exact ⟨(), trivial, ⟨rfl, rfl⟩, .refl _, .refl _, .refl _, .refl _, ⟨.refl _, .refl _, .str hN, .refl _, trivial⟩, ⟨.refl _, .refl _, .refl _, .refl _, trivial⟩, ⟨.rowEq (rL hE :), .int (rI hE :), .int (rN hE :), .int (rA hE :), .int (rE hE :), trivial⟩, trivial⟩
      · have h1 : decide (namesF (opV r.next.2.1) > 0) = false := h
        have hE : (r.in1 many).in2 (opV r.next.2.1) = ((r.in1 many).in2 (opV r.next.2.1)).in3 (decide (namesF (opV r.next.2.1) > 0)) := (if_neg (by rw [h1]; decide)).symm
        have hN : noS = ((r.in1 many).in2 (opV r.next.2.1)).in3V (decide (namesF (opV r.next.2.1) > 0)) := (if_neg (by rw [h1]; decide)).symm
        exact ⟨(), trivial, ⟨rfl, rfl⟩, .refl _, .refl _, .refl _, .refl _, ⟨.refl _, .refl _, .str hN, .refl _, trivial⟩, ⟨.refl _, .refl _, .refl _, .refl _, trivial⟩, ⟨.rowEq (rL hE :), .int (rI hE :), .int (rN hE :), .int (rA hE :), .int (rE hE :), trivial⟩, trivial⟩
    refine ⟨Unit, fun _ => [(0, .box 1000 0), (4, .box 4 0), (7, I (opV r.next.2.1)), (9, .box 9 0)], fun _ => [(1000, rsC ((((r.in1 many).in2 (opV r.next.2.1)).in3 (decide (namesF (opV r.next.2.1) > 0))).in3 (decide (namesF (opV r.next.2.1) > 1)))), (4, [I 0, I 0, S noS, S noS]), (9, [I (opV r.next.2.1), I ((r.in1 many).in2V (opV r.next.2.1)), S (((r.in1 many).in2 (opV r.next.2.1)).in3V (decide (namesF (opV r.next.2.1) > 0))), S ((((r.in1 many).in2 (opV r.next.2.1)).in3 (decide (namesF (opV r.next.2.1) > 0))).in3V (decide (namesF (opV r.next.2.1) > 1)))])], fun _ => True, ?_, fun _ _ => ?_⟩
    · refine ⟨opV r.next.2.1, ⟨.refl _, trivial⟩, rfl, trivial, ?_⟩
      refine ⟨fun h => ?_, fun h => ?_⟩
      · have h1 : decide (namesF (opV r.next.2.1) > 1) = true := h
        refine ⟨by kernel_rfl, ?_⟩
        refine ⟨(((r.in1 many).in2 (opV r.next.2.1)).in3 (decide (namesF (opV r.next.2.1) > 0)), ()), ⟨.refl _, trivial⟩, ⟨⟨rfl, .refl _, .refl _, .refl _, .refl _, .refl _, trivial⟩, trivial⟩, ⟨rok_fwd hd.1 f2, trivial⟩, ?_⟩
        have hE : (((r.in1 many).in2 (opV r.next.2.1)).in3 (decide (namesF (opV r.next.2.1) > 0))).fresh = (((r.in1 many).in2 (opV r.next.2.1)).in3 (decide (namesF (opV r.next.2.1) > 0))).in3 (decide (namesF (opV r.next.2.1) > 1)) := (if_pos h1).symm
        have hN : (((r.in1 many).in2 (opV r.next.2.1)).in3 (decide (namesF (opV r.next.2.1) > 0))).freshV = (((r.in1 many).in2 (opV r.next.2.1)).in3 (decide (namesF (opV r.next.2.1) > 0))).in3V (decide (namesF (opV r.next.2.1) > 1)) := (if_pos h1).symm
        exact ⟨(), trivial, ⟨rfl, rfl⟩, .refl _, .refl _, .refl _, .refl _, ⟨.refl _, .refl _, .refl _, .str hN, trivial⟩, ⟨.refl _, .refl _, .refl _, .refl _, trivial⟩, ⟨.rowEq (rL hE :), .int (rI hE :), .int (rN hE :), .int (rA hE :), .int (rE hE :), trivial⟩, trivial⟩
      · have h1 : decide (namesF (opV r.next.2.1) > 1) = false := h
        have hE : ((r.in1 many).in2 (opV r.next.2.1)).in3 (decide (namesF (opV r.next.2.1) > 0)) = (((r.in1 many).in2 (opV r.next.2.1)).in3 (decide (namesF (opV r.next.2.1) > 0))).in3 (decide (namesF (opV r.next.2.1) > 1)) := (if_neg (by rw [h1]; decide)).symm
        have hN : noS = (((r.in1 many).in2 (opV r.next.2.1)).in3 (decide (namesF (opV r.next.2.1) > 0))).in3V (decide (namesF (opV r.next.2.1) > 1)) := (if_neg (by rw [h1]; decide)).symm
        exact ⟨(), trivial, ⟨rfl, rfl⟩, .refl _, .refl _, .refl _, .refl _, ⟨.refl _, .refl _, .refl _, .str hN, trivial⟩, ⟨.refl _, .refl _, .refl _, .refl _, trivial⟩, ⟨.rowEq (rL hE :), .int (rI hE :), .int (rN hE :), .int (rA hE :), .int (rE hE :), trivial⟩, trivial⟩
    refine ⟨by kernel_rfl, ?_⟩
    refine ⟨((((r.in1 many).in2 (opV r.next.2.1)).in3 (decide (namesF (opV r.next.2.1) > 0))).in3 (decide (namesF (opV r.next.2.1) > 1)), wSemi), ⟨.refl _, .str rfl, trivial⟩, ⟨⟨rfl, .refl _, .refl _, .refl _, .refl _, .refl _, trivial⟩, trivial⟩, ⟨rok_fwd hd.1 f3, trivial⟩, ?_⟩
    have hE : ((((r.in1 many).in2 (opV r.next.2.1)).in3 (decide (namesF (opV r.next.2.1) > 0))).in3 (decide (namesF (opV r.next.2.1) > 1))).want wSemi = r.instrR many := (if_pos h0).symm
    have hV : (⟨opV r.next.2.1, (r.in1 many).in2V (opV r.next.2.1), ((r.in1 many).in2 (opV r.next.2.1)).in3V (decide (namesF (opV r.next.2.1) > 0)), (((r.in1 many).in2 (opV r.next.2.1)).in3 (decide (namesF (opV r.next.2.1) > 0))).in3V (decide (namesF (opV r.next.2.1) > 1))⟩ : Ins) = r.instrV many := (if_pos h0).symm
    exact ⟨.tup2 (.insEq hV) (.btt h0), ⟨rfl, .rowEq (rL hE :), .int (rI hE :), .int (rN hE :), .int (rA hE :), .int (rE hE :), trivial⟩, trivial⟩
end Go.Proofs.YtimhbimpaiiceaaGreatDoor.Ax
/- Layer parse: what a method does. -/
set_option linter.unusedVariables false
set_option linter.unusedSimpArgs false
namespace Go.Proofs.YtimhbimpaiiceaaGreatDoor.Ax
open Go Go.RowKit
def mPre (m : Meth) : List SV := [S m.name, B m.static, B m.abs, .row Ty 2 tyC ty0 m.params, I m.ret.1, S m.ret.2, I 0, .val (.slice none 0 0), .val (.slice none 0 0)]
def bodyRC : CtrB := { A := Rs × Meth, enc := fun x => [.box 1000 0, .box 1001 0], pre := fun x => [rsC x.1, mPre x.2], dom := fun x => rok x.1, res := fun _ _ => .tup [], post := fun x _ => [rsC x.1.body, methC (x.1.bodyV x.2)], gl := tabP }
theorem instr_yes {r : Rs} {n : Int} (h : r.isOp = true) : r.instrR n = (r.instr n).2 ∧ r.instrV n = (r.instr n).1 := ⟨if_pos h, if_pos h⟩
theorem instr_no {r : Rs} {n : Int} (h : r.isOp = false) : r.instrR n = r := if_neg (by rw [h]; decide)
set_option maxRecDepth 100000 in
set_option maxHeartbeats 4000000 in
theorem bodyR_ok : CtrBSound Tryz.prog 62 bodyRC :=
  ctrB_of_ax2 mixed _ Tryz.func62 (by kernel_rfl) rfl (fun _ _ => ⟨Nat.le_of_ble_eq_true rfl, Nat.le_of_ble_eq_true rfl⟩) fun ((r, m) : Rs × Meth) id hd => by
    refine ⟨_, ⟨env_okB tys_ok (eqs := []) trivial (cs := [(30, isC)]) ⟨is_ok, trivial⟩ (bs := [(32, wantC), (73, numRC), (74, instrRC), (31, roomC), (33, freshRC)]) ⟨want_ok, numR_ok, instrR_ok, room_ok, freshR_ok, trivial⟩ (gl := tabP), fun _ h => h⟩, ?_⟩
    have hd : rok r := hd
    have hL : r.L.length ≤ 1000000 := hd.1
    have f1 := Rs.want_fwd r wLocals
    have f2 := f1.trans (Rs.num_fwd _ 0 8)
    have f3 : Fwd r r.bo1 := Rs.bo1_fwd r
    have f4 : Fwd r r.boCode.2 := Rs.boCode_fwd r
    have f5 : Fwd r r.boCat.2 := Rs.boCat_fwd r
    refine ⟨by kernel_rfl, ?_⟩
    refine ⟨(r, wLocals), ⟨.refl _, .str rfl, trivial⟩, ⟨⟨rfl, .refl _, .refl _, .refl _, .refl _, .refl _, trivial⟩, trivial⟩, ⟨hd, trivial⟩, ?_⟩
    refine ⟨by kernel_rfl, ?_⟩
    refine ⟨(r.want wLocals, 0, 8), ⟨.refl _, .refl _, .refl _, trivial⟩, ⟨⟨rfl, .refl _, .refl _, .refl _, .refl _, .refl _, trivial⟩, trivial⟩, ⟨rok_fwd hd f1, trivial⟩, ?_⟩
    refine ⟨by kernel_rfl, ?_⟩
    refine ⟨((r.want wLocals).num 0 8, wLc), ⟨.refl _, .str rfl, trivial⟩, ⟨⟨rfl, .refl _, .refl _, .refl _, .refl _, .refl _, trivial⟩, trivial⟩, ⟨rok_fwd hd f2, trivial⟩, ?_⟩
    refine ⟨Nat × Rs × List Ins, fun _ => [(0, .box 1000 0), (1, .box 1001 0)], fun s => [(1000, rsC s.2.1), (1001, [S m.name, B m.static, B m.abs, .row Ty 2 tyC ty0 m.params, I m.ret.1, S m.ret.2, I ((r.want wLocals).numV 0 8), .own Ins 4 insC ins0 s.2.2 35, .val (.slice none 0 0)])],
      fun s => Rs.codeL s.1 s.2.1 s.2.2 = r.boCode ∧ s.2.1.need ≤ s.1 ∧ Fwd r s.2.1 ∧ s.2.2.length + s.1 = r.L.length + 2, fun s => s.1,
      ⟨(r.L.length + 2, r.bo1, []), ⟨rfl, (by have := need_le r.bo1; rw [f3.L] at this; exact this), f3, (by show 0 + (r.L.length + 2) = _; omega)⟩, ⟨⟨rfl, rfl⟩, .refl _, .refl _, ⟨.refl _, .refl _, .refl _, .refl _, .refl _, .refl _, .refl _, .nilO .., .refl _, trivial⟩, ⟨.refl _, .refl _, .refl _, .refl _, .refl _, trivial⟩, trivial⟩⟩, fun ((k, q, out) : Nat × Rs × List Ins) hx => ?_⟩
    have hx1 : Rs.codeL k q out = r.boCode := hx.1
    have hx2 : q.need ≤ k := hx.2.1
    have hx3 : Fwd r q := hx.2.2.1
    have hx4 : out.length + k = r.L.length + 2 := hx.2.2.2
    obtain ⟨k, rfl⟩ : ∃ k', k = k' + 1 := ⟨k - 1, by have := Rs.need_pos q; omega⟩
    have hq : rok q := rok_fwd hd hx3
    refine ⟨by kernel_rfl, ?_⟩
    refine ⟨(q, (out.length : Int)), ⟨.refl _, .refl _, trivial⟩, ⟨⟨rfl, .refl _, .refl _, .refl _, .refl _, .refl _, trivial⟩, trivial⟩, ⟨hq, trivial⟩, ?_⟩
    refine ⟨fun h => ?_, fun h => ?_⟩
    rotate_left
    · have h1 : q.isOp = true := notF h
      have hat := Rs.isOp_at h1
      have hy := instr_yes (n := (out.length : Int)) h1
      rw [Rs.codeL, if_pos h1] at hx1
      have hinv : Rs.codeL k (q.instrR out.length) (out ++ [q.instrV out.length]) = r.boCode ∧ (q.instrR out.length).need ≤ k ∧ Fwd r (q.instrR out.length) ∧ (out ++ [q.instrV out.length]).length + k = r.L.length + 2 := by
        rw [hy.1, hy.2]
        have hf := Rs.instr_fwd q out.length
        have := Rs.need_lt hat hf (Rs.instr_on q out.length)
        exact ⟨hx1, by omega, hx3.trans hf, by simp; omega⟩
      refine ⟨by kernel_rfl, ?_⟩
      refine ⟨Ins, insC, ins0, [q.instrV out.length], ⟨rfl, fun _ => rfl⟩, ⟨.refl _, .refl _, .refl _, .refl _, trivial⟩, rfl, ?_⟩
      refine ⟨Ins, insC, ins0, out, [q.instrV out.length], 35, ⟨.refl _, .own ..⟩, fun _ => rfl, (by show (out.length + 1) * 48 ≤ 140737488355328; omega), ?_⟩
      exact ⟨(k, q.instrR out.length, out ++ [q.instrV out.length]), hinv, Nat.lt_succ_self _, ⟨rfl, rfl⟩, .refl _, .refl _, ⟨.refl _, .refl _, .refl _, .refl _, .refl _, .refl _, .refl _, .refl _, .refl _, trivial⟩, ⟨.refl _, .refl _, .refl _, .refl _, .refl _, trivial⟩, trivial⟩
    have h1 : q.isOp = false := notT h
    rw [Rs.codeL, if_neg (by rw [h1]; decide)] at hx1
    have e1 : out = r.boCode.1 := by rw [← hx1]
    have e2 : q.instrR out.length = r.boCode.2 := by rw [instr_no h1, ← hx1]
    have hE := e2
    refine ⟨Nat × Rs × List Cat, fun _ => [(0, .box 1000 0), (1, .box 1001 0)], fun s => [(1000, rsC s.2.1), (1001, [S m.name, B m.static, B m.abs, .row Ty 2 tyC ty0 m.params, I m.ret.1, S m.ret.2, I ((r.want wLocals).numV 0 8), .own Ins 4 insC ins0 r.boCode.1 35, .own Cat 4 catC cat0 s.2.2 70])],
      fun s => Rs.catchL s.1 s.2.1 s.2.2 = r.boCat ∧ s.2.1.need ≤ s.1 ∧ Fwd r s.2.1 ∧ s.2.2.length + s.1 = r.L.length + 2, fun s => s.1,
      ⟨(r.L.length + 2, r.boCode.2, []), ⟨rfl, (by have := need_le r.boCode.2; rw [f4.L] at this; exact this), f4, (by show 0 + (r.L.length + 2) = _; omega)⟩, ⟨⟨rfl, rfl⟩, .refl _, .refl _, ⟨.refl _, .refl _, .refl _, .refl _, .refl _, .refl _, .refl _, .ownEq e1, .nilO .., trivial⟩, ⟨.rowEq (rL hE :), .int (rI hE :), .int (rN hE :), .int (rA hE :), .int (rE hE :), trivial⟩, trivial⟩⟩, fun ((k2, p, cs) : Nat × Rs × List Cat) hy => ?_⟩
    clear hE
    have hy1 : Rs.catchL k2 p cs = r.boCat := hy.1
    have hy2 : p.need ≤ k2 := hy.2.1
    have hy3 : Fwd r p := hy.2.2.1
    have hy4 : cs.length + k2 = r.L.length + 2 := hy.2.2.2
    obtain ⟨k2, rfl⟩ : ∃ k', k2 = k' + 1 := ⟨k2 - 1, by have := Rs.need_pos p; omega⟩
    have hp : rok p := rok_fwd hd hy3
    refine ⟨(p, wCatch), ⟨.refl _, .str rfl, trivial⟩, rfl, ⟨hp, trivial⟩, ?_⟩
    refine ⟨fun h => ?_, fun h => ?_⟩
    · have h1 : p.is wCatch = true := h
      have hat := Rs.is_at h1
      rw [Rs.catchL, if_pos h1] at hy1
      have g0 := Rs.room_fwd p (cs.length : Int) 4
      have g1 : Fwd p (p.ca1 cs.length) := Rs.ca1_fwd p cs.length
      have g2 := g1.trans (Rs.fresh_fwd _)
      have g3 := g2.trans (Rs.num_fwd _ 0 48)
      have g4 := g3.trans (Rs.num_fwd _ 0 48)
      have g5 := g4.trans (Rs.num_fwd _ 0 48)
      have hinv : Rs.catchL k2 (p.ca1 cs.length).catR (cs ++ [(p.ca1 cs.length).catV]) = r.boCat ∧ (p.ca1 cs.length).catR.need ≤ k2 ∧ Fwd r (p.ca1 cs.length).catR ∧ (cs ++ [(p.ca1 cs.length).catV]).length + k2 = r.L.length + 2 := by
        have hf := g1.trans (Rs.catR_fwd _)
        have := Rs.need_lt hat hf (Rs.catch_on p cs.length)
        exact ⟨hy1, by omega, hy3.trans hf, by simp; omega⟩
      refine ⟨by kernel_rfl, ?_⟩
      refine ⟨(p, (cs.length : Int), 4), ⟨.refl _, .refl _, .refl _, trivial⟩, ⟨⟨rfl, .refl _, .refl _, .refl _, .refl _, .refl _, trivial⟩, trivial⟩, ⟨hp, trivial⟩, ?_⟩
      refine ⟨by kernel_rfl, ?_⟩
      refine ⟨(p.room cs.length 4, wCatch), ⟨.refl _, .str rfl, trivial⟩, ⟨⟨rfl, .refl _, .refl _, .refl _, .refl _, .refl _, trivial⟩, trivial⟩, ⟨rok_fwd hp g0, trivial⟩, ?_⟩
      refine ⟨by kernel_rfl, ?_⟩
      refine ⟨((p.ca1 cs.length), ()), ⟨.refl _, trivial⟩, ⟨⟨rfl, .refl _, .refl _, .refl _, .refl _, .refl _, trivial⟩, trivial⟩, ⟨rok_fwd hp g1, trivial⟩, ?_⟩
      refine ⟨by kernel_rfl, ?_⟩
      refine ⟨((p.ca1 cs.length).fresh, 0, 48), ⟨.refl _, .refl _, .refl _, trivial⟩, ⟨⟨rfl, .refl _, .refl _, .refl _, .refl _, .refl _, trivial⟩, trivial⟩, ⟨rok_fwd hp g2, trivial⟩, ?_⟩
      refine ⟨by kernel_rfl, ?_⟩
      refine ⟨((p.ca1 cs.length).fresh.num 0 48, 0, 48), ⟨.refl _, .refl _, .refl _, trivial⟩, ⟨⟨rfl, .refl _, .refl _, .refl _, .refl _, .refl _, trivial⟩, trivial⟩, ⟨rok_fwd hp g3, trivial⟩, ?_⟩
      refine ⟨by kernel_rfl, ?_⟩
      refine ⟨(((p.ca1 cs.length).fresh.num 0 48).num 0 48, 0, 48), ⟨.refl _, .refl _, .refl _, trivial⟩, ⟨⟨rfl, .refl _, .refl _, .refl _, .refl _, .refl _, trivial⟩, trivial⟩, ⟨rok_fwd hp g4, trivial⟩, ?_⟩
      refine ⟨by kernel_rfl, ?_⟩
      refine ⟨((((p.ca1 cs.length).fresh.num 0 48).num 0 48).num 0 48, wSemi), ⟨.refl _, .str rfl, trivial⟩, ⟨⟨rfl, .refl _, .refl _, .refl _, .refl _, .refl _, trivial⟩, trivial⟩, ⟨rok_fwd hp g5, trivial⟩, ?_⟩
      refine ⟨by kernel_rfl, ?_⟩
      refine ⟨Cat, catC, cat0, [(p.ca1 cs.length).catV], ⟨rfl, fun _ => rfl⟩, ⟨.refl _, .refl _, .refl _, .refl _, trivial⟩, rfl, ?_⟩
      refine ⟨Cat, catC, cat0, cs, [(p.ca1 cs.length).catV], 70, ⟨.refl _, .own ..⟩, fun _ => rfl, (by show (cs.length + 1) * 40 ≤ 140737488355328; omega), ?_⟩
      exact ⟨(k2, (p.ca1 cs.length).catR, cs ++ [(p.ca1 cs.length).catV]), hinv, Nat.lt_succ_self _, ⟨rfl, rfl⟩, .refl _, .refl _, ⟨.refl _, .refl _, .refl _, .refl _, .refl _, .refl _, .refl _, .refl _, .refl _, trivial⟩, ⟨.refl _, .refl _, .refl _, .refl _, .refl _, trivial⟩, trivial⟩
    have h1 : p.is wCatch = false := h
    rw [Rs.catchL, if_neg (by rw [h1]; decide)] at hy1
    have e3 : cs = r.boCat.1 := by rw [← hy1]
    have hE : p = r.boCat.2 := by rw [← hy1]
    refine ⟨by kernel_rfl, ?_⟩
    refine ⟨(r.boCat.2, wRc), ⟨.refl _, .str rfl, trivial⟩, ⟨⟨rfl, .rowEq (rL hE :), .int (rI hE :), .int (rN hE :), .int (rA hE :), .int (rE hE :), trivial⟩, trivial⟩, ⟨rok_fwd hd f5, trivial⟩, ?_⟩
    exact ⟨.refl (.tup []), ⟨rfl, .refl _, .refl _, .refl _, .refl _, .refl _, trivial⟩, ⟨rfl, .refl _, .refl _, .refl _, .refl _, .refl _, .refl _, .refl _, .own .., .ownRow e3, trivial⟩, trivial⟩
end Go.Proofs.YtimhbimpaiiceaaGreatDoor.Ax
/- Layer parse: a class' members. -/
set_option linter.unusedVariables false
set_option linter.unusedSimpArgs false
namespace Go.Proofs.YtimhbimpaiiceaaGreatDoor.Ax
open Go Go.RowKit
def cPre (c : Cls) (a b : Nat) : List SV := [S c.name, B c.iface, S c.super, .row ByteArray 1 strC noS c.ifaces, .own Fld 4 fldC fld0 c.fields a, .own Meth 9 methC meth0 c.methods b]
def memberRC : CtrB := { A := Rs × Cls, enc := fun x => [.box 1000 0, .box 1001 0], pre := fun x => [rsC x.1, cPre x.2 6900000 7000000], dom := fun x => rok x.1 ∧ x.2.fields.length ≤ 2000000 ∧ x.2.methods.length ≤ 2000000, res := fun _ _ => .tup [], post := fun x id => [rsC (x.1.member x.2).2, cPre (x.1.member x.2).1 (id + 6900000) (id + 7000000)], gl := tabP }
theorem baT {a b : ByteArray} (h : (a.toList == b.toList) = true) : a = b := by rw [ba_eq] at h; exact of_decide_eq_true h
theorem baF {a b : ByteArray} (h : (a.toList == b.toList) = false) : a ≠ b := by rw [ba_eq] at h; exact of_decide_eq_false h
set_option maxRecDepth 100000 in
set_option maxHeartbeats 8000000 in
theorem memberR_ok : CtrBSound Tryz.prog 36 memberRC :=
  ctrB_of_ax2 mixed _ Tryz.func36 (by kernel_rfl) rfl (fun _ _ => ⟨Nat.le_of_ble_eq_true rfl, Nat.le_of_ble_eq_true rfl⟩) fun ((r, c) : Rs × Cls) id hd => by
    refine ⟨_, ⟨env_okB tys_ok (eqs := []) trivial (cs := [(57, nextC)]) ⟨next_ok, trivial⟩ (bs := [(31, roomC), (32, wantC), (33, freshRC), (60, kindRC), (61, paramsRC), (34, takeC), (62, bodyRC), (58, failC)]) ⟨room_ok, want_ok, freshR_ok, kindR_ok, paramsR_ok, take_ok, bodyR_ok, fail_ok, trivial⟩ (gl := tabP), fun _ h => h⟩, ?_⟩
    refine ⟨(r, ()), ⟨.refl _, trivial⟩, rfl, ⟨hd.1, trivial⟩, ?_⟩
    refine ⟨fun h1 => ?_, fun h1 => ?_⟩
    · have w1 : r.next.2.1 = wField := baT h1
      have hor : r.next.2.1 = wField ∨ r.next.2.1 = wStatic := .inl w1
      refine ⟨fun _ => ?_, fun c => (noTF h1 c).elim⟩
      have hr : rok r := hd.1
      have g1 : Fwd r (r.memF c.fields.length) := Rs.memF_fwd r c.fields.length
      have g2 := g1.trans (Rs.fresh_fwd _)
      have g3 := g2.trans (Rs.want_fwd _ wColon)
      have g4 := g3.trans (Rs.kind_fwd _)
      have e : r.member c = (⟨c.name, c.iface, c.super, c.ifaces, c.fields ++ [(r.memF c.fields.length).mfV (decide (r.next.2.1 = wStatic))], c.methods⟩, (r.memF c.fields.length).mfR) := if_pos hor
      refine ⟨by kernel_rfl, ?_⟩
      refine ⟨(r, (c.fields.length : Int), 6), ⟨.refl _, .refl _, .refl _, trivial⟩, ⟨⟨rfl, .refl _, .refl _, .refl _, .refl _, .refl _, trivial⟩, trivial⟩, ⟨hr, trivial⟩, ?_⟩
      refine ⟨by kernel_rfl, ?_⟩
      refine ⟨(r.room c.fields.length 6, r.next.2.1), ⟨.refl _, .refl _, trivial⟩, ⟨⟨rfl, .refl _, .refl _, .refl _, .refl _, .refl _, trivial⟩, trivial⟩, ⟨rok_fwd hr (Rs.room_fwd r _ _), trivial⟩, ?_⟩
      refine ⟨by kernel_rfl, ?_⟩
      refine ⟨((r.memF c.fields.length), ()), ⟨.refl _, trivial⟩, ⟨⟨rfl, .refl _, .refl _, .refl _, .refl _, .refl _, trivial⟩, trivial⟩, ⟨rok_fwd hr g1, trivial⟩, ?_⟩
      refine ⟨by kernel_rfl, ?_⟩
      refine ⟨((r.memF c.fields.length).fresh, wColon), ⟨.refl _, .str rfl, trivial⟩, ⟨⟨rfl, .refl _, .refl _, .refl _, .refl _, .refl _, trivial⟩, trivial⟩, ⟨rok_fwd hr g2, trivial⟩, ?_⟩
      refine ⟨by kernel_rfl, ?_⟩
      refine ⟨((r.memF c.fields.length).fresh.want wColon, ()), ⟨.refl _, trivial⟩, ⟨⟨rfl, .refl _, .refl _, .refl _, .refl _, .refl _, trivial⟩, trivial⟩, ⟨rok_fwd hr g3, trivial⟩, ?_⟩
      refine ⟨by kernel_rfl, ?_⟩
      refine ⟨(((r.memF c.fields.length).fresh.want wColon).kind, wSemi), ⟨.refl _, .str rfl, trivial⟩, ⟨⟨rfl, .refl _, .refl _, .refl _, .refl _, .refl _, trivial⟩, trivial⟩, ⟨rok_fwd hr g4, trivial⟩, ?_⟩
      refine ⟨by kernel_rfl, ?_⟩
      refine ⟨Fld, fldC, fld0, [(r.memF c.fields.length).mfV (decide (r.next.2.1 = wStatic))], ⟨rfl, fun _ => rfl⟩, ⟨.refl _, .refl _, .refl _, .bool (ba_eq _ _), trivial⟩, rfl, ?_⟩
      refine ⟨Fld, fldC, fld0, c.fields, [(r.memF c.fields.length).mfV (decide (r.next.2.1 = wStatic))], 6900000, ⟨.refl _, .own ..⟩, fun _ => rfl, (by have h5 : c.fields.length ≤ 2000000 := hd.2.1; show (c.fields.length + 1) * 48 ≤ 140737488355328; omega), ?_⟩
      have hE : (((r.memF c.fields.length).fresh.want wColon).kind).want wSemi = (r.member c).2 := by rw [e]; rfl
      exact ⟨.refl (.tup []), ⟨rfl, .rowEq (rL hE :), .int (rI hE :), .int (rN hE :), .int (rA hE :), .int (rE hE :), trivial⟩, ⟨rfl, .str (by rw [e]), .bool (by rw [e]), .str (by rw [e]), .rowEq (by rw [e]), .ownEq (by rw [e]), .ownEq (by rw [e]), trivial⟩, trivial⟩
    have w1 : r.next.2.1 ≠ wField := baF h1
    refine ⟨fun h2 => ?_, fun h2 => ?_⟩
    · have hor : r.next.2.1 = wField ∨ r.next.2.1 = wStatic := .inr (baT h2)
      have hr : rok r := hd.1
      have g1 : Fwd r (r.memF c.fields.length) := Rs.memF_fwd r c.fields.length
      have g2 := g1.trans (Rs.fresh_fwd _)
      have g3 := g2.trans (Rs.want_fwd _ wColon)
      have g4 := g3.trans (Rs.kind_fwd _)
      have e : r.member c = (⟨c.name, c.iface, c.super, c.ifaces, c.fields ++ [(r.memF c.fields.length).mfV (decide (r.next.2.1 = wStatic))], c.methods⟩, (r.memF c.fields.length).mfR) := if_pos hor
      refine ⟨by kernel_rfl, ?_⟩
      refine ⟨(r, (c.fields.length : Int), 6), ⟨.refl _, .refl _, .refl _, trivial⟩, ⟨⟨rfl, .refl _, .refl _, .refl _, .refl _, .refl _, trivial⟩, trivial⟩, ⟨hr, trivial⟩, ?_⟩
      refine ⟨by kernel_rfl, ?_⟩
      refine ⟨(r.room c.fields.length 6, r.next.2.1), ⟨.refl _, .refl _, trivial⟩, ⟨⟨rfl, .refl _, .refl _, .refl _, .refl _, .refl _, trivial⟩, trivial⟩, ⟨rok_fwd hr (Rs.room_fwd r _ _), trivial⟩, ?_⟩
      refine ⟨by kernel_rfl, ?_⟩
      refine ⟨((r.memF c.fields.length), ()), ⟨.refl _, trivial⟩, ⟨⟨rfl, .refl _, .refl _, .refl _, .refl _, .refl _, trivial⟩, trivial⟩, ⟨rok_fwd hr g1, trivial⟩, ?_⟩
      refine ⟨by kernel_rfl, ?_⟩
      refine ⟨((r.memF c.fields.length).fresh, wColon), ⟨.refl _, .str rfl, trivial⟩, ⟨⟨rfl, .refl _, .refl _, .refl _, .refl _, .refl _, trivial⟩, trivial⟩, ⟨rok_fwd hr g2, trivial⟩, ?_⟩
      refine ⟨by kernel_rfl, ?_⟩
      refine ⟨((r.memF c.fields.length).fresh.want wColon, ()), ⟨.refl _, trivial⟩, ⟨⟨rfl, .refl _, .refl _, .refl _, .refl _, .refl _, trivial⟩, trivial⟩, ⟨rok_fwd hr g3, trivial⟩, ?_⟩
      refine ⟨by kernel_rfl, ?_⟩
      refine ⟨(((r.memF c.fields.length).fresh.want wColon).kind, wSemi), ⟨.refl _, .str rfl, trivial⟩, ⟨⟨rfl, .refl _, .refl _, .refl _, .refl _, .refl _, trivial⟩, trivial⟩, ⟨rok_fwd hr g4, trivial⟩, ?_⟩
      refine ⟨by kernel_rfl, ?_⟩
      refine ⟨Fld, fldC, fld0, [(r.memF c.fields.length).mfV (decide (r.next.2.1 = wStatic))], ⟨rfl, fun _ => rfl⟩, ⟨.refl _, .refl _, .refl _, .bool (ba_eq _ _), trivial⟩, rfl, ?_⟩
      refine ⟨Fld, fldC, fld0, c.fields, [(r.memF c.fields.length).mfV (decide (r.next.2.1 = wStatic))], 6900000, ⟨.refl _, .own ..⟩, fun _ => rfl, (by have h5 : c.fields.length ≤ 2000000 := hd.2.1; show (c.fields.length + 1) * 48 ≤ 140737488355328; omega), ?_⟩
      have hE : (((r.memF c.fields.length).fresh.want wColon).kind).want wSemi = (r.member c).2 := by rw [e]; rfl
      exact ⟨.refl (.tup []), ⟨rfl, .rowEq (rL hE :), .int (rI hE :), .int (rN hE :), .int (rA hE :), .int (rE hE :), trivial⟩, ⟨rfl, .str (by rw [e]), .bool (by rw [e]), .str (by rw [e]), .rowEq (by rw [e]), .ownEq (by rw [e]), .ownEq (by rw [e]), trivial⟩, trivial⟩
    have w2 : r.next.2.1 ≠ wStatic := baF h2
    have hno : ¬ (r.next.2.1 = wField ∨ r.next.2.1 = wStatic) := fun c => c.elim w1 w2
    refine ⟨fun h3 => ?_, fun h3 => ?_⟩
    · have hor : r.next.2.1 = wMethod ∨ r.next.2.1 = wFunction := .inl (baT h3)
      refine ⟨fun _ => ?_, fun c => (noTF h3 c).elim⟩
      have hr : rok r := hd.1
      have g1 : Fwd r (r.memF c.methods.length) := Rs.memF_fwd r c.methods.length
      have g2 := g1.trans (Rs.fresh_fwd _)
      have g3 := g2.trans (Rs.params_fwd _)
      have g4 : Fwd r (r.memF c.methods.length).mm1 := g1.trans (Rs.mm1_fwd _)
      refine ⟨by kernel_rfl, ?_⟩
      refine ⟨(r, (c.methods.length : Int), 6), ⟨.refl _, .refl _, .refl _, trivial⟩, ⟨⟨rfl, .refl _, .refl _, .refl _, .refl _, .refl _, trivial⟩, trivial⟩, ⟨hr, trivial⟩, ?_⟩
      refine ⟨by kernel_rfl, ?_⟩
      refine ⟨(r.room c.methods.length 6, r.next.2.1), ⟨.refl _, .refl _, trivial⟩, ⟨⟨rfl, .refl _, .refl _, .refl _, .refl _, .refl _, trivial⟩, trivial⟩, ⟨rok_fwd hr (Rs.room_fwd r _ _), trivial⟩, ?_⟩
      refine ⟨by kernel_rfl, ?_⟩
      refine ⟨((r.memF c.methods.length), ()), ⟨.refl _, trivial⟩, ⟨⟨rfl, .refl _, .refl _, .refl _, .refl _, .refl _, trivial⟩, trivial⟩, ⟨rok_fwd hr g1, trivial⟩, ?_⟩
      refine ⟨by kernel_rfl, ?_⟩
      refine ⟨((r.memF c.methods.length).fresh, ()), ⟨.refl _, trivial⟩, ⟨⟨rfl, .refl _, .refl _, .refl _, .refl _, .refl _, trivial⟩, trivial⟩, ⟨rok_fwd hr g2, trivial⟩, ?_⟩
      refine ⟨by kernel_rfl, ?_⟩
      refine ⟨((r.memF c.methods.length).fresh.params.2, ()), ⟨.refl _, trivial⟩, ⟨⟨rfl, .refl _, .refl _, .refl _, .refl _, .refl _, trivial⟩, trivial⟩, ⟨rok_fwd hr g3, trivial⟩, ?_⟩
      refine ⟨by kernel_rfl, ?_⟩
      refine ⟨((r.memF c.methods.length).mm1, wSemi), ⟨.refl _, .str rfl, trivial⟩, ⟨⟨rfl, .refl _, .refl _, .refl _, .refl _, .refl _, trivial⟩, trivial⟩, ⟨rok_fwd hr g4, trivial⟩, ?_⟩
      refine ⟨fun h => ?_, fun h => ?_⟩
      · have h1 : (r.memF c.methods.length).mm1.is wSemi = false := notT h
        have hv : (r.memF c.methods.length).mmV (decide (r.next.2.1 = wFunction)) = (r.memF c.methods.length).mm1.bodyV ((r.memF c.methods.length).mm1V (decide (r.next.2.1 = wFunction))) := if_neg (by rw [h1]; decide)
        have hR : (r.memF c.methods.length).mm1.body = (r.memF c.methods.length).mmR := (if_neg (by rw [h1]; decide)).symm
        have hE : (r.memF c.methods.length).mm1.take wSemi = (r.memF c.methods.length).mm1 := take_no h1
        refine ⟨by kernel_rfl, ?_⟩
        refine ⟨((r.memF c.methods.length).mm1, ((r.memF c.methods.length).mm1V (decide (r.next.2.1 = wFunction)))), ⟨.refl _, .refl _, trivial⟩, ⟨⟨rfl, .rowEq (rL hE :), .int (rI hE :), .int (rN hE :), .int (rA hE :), .int (rE hE :), trivial⟩, ⟨rfl, .refl _, .bool (ba_eq _ _), .refl _, .refl _, .refl _, .refl _, .refl _, .refl _, .refl _, trivial⟩, trivial⟩, rok_fwd hr g4, ?_⟩
        clear hE
        have e : r.member c = (⟨c.name, c.iface, c.super, c.ifaces, c.fields, c.methods ++ [(r.memF c.methods.length).mm1.bodyV ((r.memF c.methods.length).mm1V (decide (r.next.2.1 = wFunction)))]⟩, (r.memF c.methods.length).mmR) := by
          unfold Rs.member; rw [if_neg hno, if_pos hor, hv]
        refine ⟨by kernel_rfl, ?_⟩
        refine ⟨Meth, methC, meth0, [(r.memF c.methods.length).mm1.bodyV ((r.memF c.methods.length).mm1V (decide (r.next.2.1 = wFunction)))], ⟨rfl, fun _ => rfl⟩, ⟨.refl _, .refl _, .refl _, .refl _, .refl _, .refl _, .refl _, .refl _, .refl _, trivial⟩, rfl, ?_⟩
        refine ⟨Meth, methC, meth0, c.methods, [(r.memF c.methods.length).mm1.bodyV ((r.memF c.methods.length).mm1V (decide (r.next.2.1 = wFunction)))], 7000000, ⟨.refl _, .own ..⟩, fun _ => rfl, (by have h5 : c.methods.length ≤ 2000000 := hd.2.2; show (c.methods.length + 1) * 128 ≤ 140737488355328; omega), ?_⟩
        have hE : (r.memF c.methods.length).mm1.body = (r.member c).2 := by rw [e]; exact hR
        exact ⟨.refl (.tup []), ⟨rfl, .rowEq (rL hE :), .int (rI hE :), .int (rN hE :), .int (rA hE :), .int (rE hE :), trivial⟩, ⟨rfl, .str (by rw [e]), .bool (by rw [e]), .str (by rw [e]), .rowEq (by rw [e]), .ownEq (by rw [e]), .ownEq (by rw [e]), trivial⟩, trivial⟩
      · have h1 : (r.memF c.methods.length).mm1.is wSemi = true := notF h
        have hv : (r.memF c.methods.length).mmV (decide (r.next.2.1 = wFunction)) = ((r.memF c.methods.length).mm1V (decide (r.next.2.1 = wFunction))) := if_pos h1
        have hR : (r.memF c.methods.length).mm1.take wSemi = (r.memF c.methods.length).mmR := by rw [take_yes h1]; exact (if_pos h1).symm
        have e : r.member c = (⟨c.name, c.iface, c.super, c.ifaces, c.fields, c.methods ++ [((r.memF c.methods.length).mm1V (decide (r.next.2.1 = wFunction)))]⟩, (r.memF c.methods.length).mmR) := by
          unfold Rs.member; rw [if_neg hno, if_pos hor, hv]
        refine ⟨by kernel_rfl, ?_⟩
        refine ⟨Meth, methC, meth0, [((r.memF c.methods.length).mm1V (decide (r.next.2.1 = wFunction)))], ⟨rfl, fun _ => rfl⟩, ⟨.refl _, .bool (ba_eq _ _), .refl _, .own .., .refl _, .refl _, .refl _, .nil .., .nil .., trivial⟩, rfl, ?_⟩
        refine ⟨Meth, methC, meth0, c.methods, [((r.memF c.methods.length).mm1V (decide (r.next.2.1 = wFunction)))], 7000000, ⟨.refl _, .own ..⟩, fun _ => rfl, (by have h5 : c.methods.length ≤ 2000000 := hd.2.2; show (c.methods.length + 1) * 128 ≤ 140737488355328; omega), ?_⟩
        have hE : (r.memF c.methods.length).mm1.take wSemi = (r.member c).2 := by rw [e]; exact hR
        exact ⟨.refl (.tup []), ⟨rfl, .rowEq (rL hE :), .int (rI hE :), .int (rN hE :), .int (rA hE :), .int (rE hE :), trivial⟩, ⟨rfl, .str (by rw [e]), .bool (by rw [e]), .str (by rw [e]), .rowEq (by rw [e]), .ownEq (by rw [e]), .ownEq (by rw [e]), trivial⟩, trivial⟩
    have w3 : r.next.2.1 ≠ wMethod := baF h3
    refine ⟨fun h4 => ?_, fun h4 => ?_⟩
    · have hor : r.next.2.1 = wMethod ∨ r.next.2.1 = wFunction := .inr (baT h4)
      have hr : rok r := hd.1
      have g1 : Fwd r (r.memF c.methods.length) := Rs.memF_fwd r c.methods.length
      have g2 := g1.trans (Rs.fresh_fwd _)
      have g3 := g2.trans (Rs.params_fwd _)
      have g4 : Fwd r (r.memF c.methods.length).mm1 := g1.trans (Rs.mm1_fwd _)
      refine ⟨by kernel_rfl, ?_⟩
      refine ⟨(r, (c.methods.length : Int), 6), ⟨.refl _, .refl _, .refl _, trivial⟩, ⟨⟨rfl, .refl _, .refl _, .refl _, .refl _, .refl _, trivial⟩, trivial⟩, ⟨hr, trivial⟩, ?_⟩
      refine ⟨by kernel_rfl, ?_⟩
      refine ⟨(r.room c.methods.length 6, r.next.2.1), ⟨.refl _, .refl _, trivial⟩, ⟨⟨rfl, .refl _, .refl _, .refl _, .refl _, .refl _, trivial⟩, trivial⟩, ⟨rok_fwd hr (Rs.room_fwd r _ _), trivial⟩, ?_⟩
      refine ⟨by kernel_rfl, ?_⟩
      refine ⟨((r.memF c.methods.length), ()), ⟨.refl _, trivial⟩, ⟨⟨rfl, .refl _, .refl _, .refl _, .refl _, .refl _, trivial⟩, trivial⟩, ⟨rok_fwd hr g1, trivial⟩, ?_⟩
      refine ⟨by kernel_rfl, ?_⟩
      refine ⟨((r.memF c.methods.length).fresh, ()), ⟨.refl _, trivial⟩, ⟨⟨rfl, .refl _, .refl _, .refl _, .refl _, .refl _, trivial⟩, trivial⟩, ⟨rok_fwd hr g2, trivial⟩, ?_⟩
      refine ⟨by kernel_rfl, ?_⟩
      refine ⟨((r.memF c.methods.length).fresh.params.2, ()), ⟨.refl _, trivial⟩, ⟨⟨rfl, .refl _, .refl _, .refl _, .refl _, .refl _, trivial⟩, trivial⟩, ⟨rok_fwd hr g3, trivial⟩, ?_⟩
      refine ⟨by kernel_rfl, ?_⟩
      refine ⟨((r.memF c.methods.length).mm1, wSemi), ⟨.refl _, .str rfl, trivial⟩, ⟨⟨rfl, .refl _, .refl _, .refl _, .refl _, .refl _, trivial⟩, trivial⟩, ⟨rok_fwd hr g4, trivial⟩, ?_⟩
      refine ⟨fun h => ?_, fun h => ?_⟩
      · have h1 : (r.memF c.methods.length).mm1.is wSemi = false := notT h
        have hv : (r.memF c.methods.length).mmV (decide (r.next.2.1 = wFunction)) = (r.memF c.methods.length).mm1.bodyV ((r.memF c.methods.length).mm1V (decide (r.next.2.1 = wFunction))) := if_neg (by rw [h1]; decide)
        have hR : (r.memF c.methods.length).mm1.body = (r.memF c.methods.length).mmR := (if_neg (by rw [h1]; decide)).symm
        have hE : (r.memF c.methods.length).mm1.take wSemi = (r.memF c.methods.length).mm1 := take_no h1
        refine ⟨by kernel_rfl, ?_⟩
        refine ⟨((r.memF c.methods.length).mm1, ((r.memF c.methods.length).mm1V (decide (r.next.2.1 = wFunction)))), ⟨.refl _, .refl _, trivial⟩, ⟨⟨rfl, .rowEq (rL hE :), .int (rI hE :), .int (rN hE :), .int (rA hE :), .int (rE hE :), trivial⟩, ⟨rfl, .refl _, .bool (ba_eq _ _), .refl _, .refl _, .refl _, .refl _, .refl _, .refl _, .refl _, trivial⟩, trivial⟩, rok_fwd hr g4, ?_⟩
        clear hE
        have e : r.member c = (⟨c.name, c.iface, c.super, c.ifaces, c.fields, c.methods ++ [(r.memF c.methods.length).mm1.bodyV ((r.memF c.methods.length).mm1V (decide (r.next.2.1 = wFunction)))]⟩, (r.memF c.methods.length).mmR) := by
          unfold Rs.member; rw [if_neg hno, if_pos hor, hv]
        refine ⟨by kernel_rfl, ?_⟩
        refine ⟨Meth, methC, meth0, [(r.memF c.methods.length).mm1.bodyV ((r.memF c.methods.length).mm1V (decide (r.next.2.1 = wFunction)))], ⟨rfl, fun _ => rfl⟩, ⟨.refl _, .refl _, .refl _, .refl _, .refl _, .refl _, .refl _, .refl _, .refl _, trivial⟩, rfl, ?_⟩
        refine ⟨Meth, methC, meth0, c.methods, [(r.memF c.methods.length).mm1.bodyV ((r.memF c.methods.length).mm1V (decide (r.next.2.1 = wFunction)))], 7000000, ⟨.refl _, .own ..⟩, fun _ => rfl, (by have h5 : c.methods.length ≤ 2000000 := hd.2.2; show (c.methods.length + 1) * 128 ≤ 140737488355328; omega), ?_⟩
        have hE : (r.memF c.methods.length).mm1.body = (r.member c).2 := by rw [e]; exact hR
        exact ⟨.refl (.tup []), ⟨rfl, .rowEq (rL hE :), .int (rI hE :), .int (rN hE :), .int (rA hE :), .int (rE hE :), trivial⟩, ⟨rfl, .str (by rw [e]), .bool (by rw [e]), .str (by rw [e]), .rowEq (by rw [e]), .ownEq (by rw [e]), .ownEq (by rw [e]), trivial⟩, trivial⟩
      · have h1 : (r.memF c.methods.length).mm1.is wSemi = true := notF h
        have hv : (r.memF c.methods.length).mmV (decide (r.next.2.1 = wFunction)) = ((r.memF c.methods.length).mm1V (decide (r.next.2.1 = wFunction))) := if_pos h1
        have hR : (r.memF c.methods.length).mm1.take wSemi = (r.memF c.methods.length).mmR := by rw [take_yes h1]; exact (if_pos h1).symm
        have e : r.member c = (⟨c.name, c.iface, c.super, c.ifaces, c.fields, c.methods ++ [((r.memF c.methods.length).mm1V (decide (r.next.2.1 = wFunction)))]⟩, (r.memF c.methods.length).mmR) := by
          unfold Rs.member; rw [if_neg hno, if_pos hor, hv]
        refine ⟨by kernel_rfl, ?_⟩
        refine ⟨Meth, methC, meth0, [((r.memF c.methods.length).mm1V (decide (r.next.2.1 = wFunction)))], ⟨rfl, fun _ => rfl⟩, ⟨.refl _, .bool (ba_eq _ _), .refl _, .own .., .refl _, .refl _, .refl _, .nil .., .nil .., trivial⟩, rfl, ?_⟩
        refine ⟨Meth, methC, meth0, c.methods, [((r.memF c.methods.length).mm1V (decide (r.next.2.1 = wFunction)))], 7000000, ⟨.refl _, .own ..⟩, fun _ => rfl, (by have h5 : c.methods.length ≤ 2000000 := hd.2.2; show (c.methods.length + 1) * 128 ≤ 140737488355328; omega), ?_⟩
        have hE : (r.memF c.methods.length).mm1.take wSemi = (r.member c).2 := by rw [e]; exact hR
        exact ⟨.refl (.tup []), ⟨rfl, .rowEq (rL hE :), .int (rI hE :), .int (rN hE :), .int (rA hE :), .int (rE hE :), trivial⟩, ⟨rfl, .str (by rw [e]), .bool (by rw [e]), .str (by rw [e]), .rowEq (by rw [e]), .ownEq (by rw [e]), .ownEq (by rw [e]), trivial⟩, trivial⟩
    have w4 : r.next.2.1 ≠ wFunction := baF h4
    have e : r.member c = (c, r.fail 4) := by
      unfold Rs.member; rw [if_neg hno, if_neg (fun c => c.elim w3 w4)]
    refine ⟨by kernel_rfl, ?_⟩
    refine ⟨(r, 4), ⟨.refl _, .refl _, trivial⟩, ⟨⟨rfl, .refl _, .refl _, .refl _, .refl _, .refl _, trivial⟩, trivial⟩, ⟨hd.1, trivial⟩, ?_⟩
    have hE : r.fail 4 = (r.member c).2 := by rw [e]
    exact ⟨.refl (.tup []), ⟨rfl, .rowEq (rL hE :), .int (rI hE :), .int (rN hE :), .int (rA hE :), .int (rE hE :), trivial⟩, ⟨rfl, .str (by rw [e]), .bool (by rw [e]), .str (by rw [e]), .rowEq (by rw [e]), .ownEq (by rw [e]), .ownEq (by rw [e]), trivial⟩, trivial⟩
end Go.Proofs.YtimhbimpaiiceaaGreatDoor.Ax
/- Layer parse: classes, programs. -/
set_option linter.unusedVariables false
set_option linter.unusedSimpArgs false
namespace Go.Proofs.YtimhbimpaiiceaaGreatDoor.Ax
open Go Go.RowKit
theorem Sub.agg6 {a b c d e f a' b' c' d' e' f' : SV} (h1 : Sub a a') (h2 : Sub b b') (h3 : Sub c c') (h4 : Sub d d') (h5 : Sub e e') (h6 : Sub f f') : Sub (.agg [a, b, c, d, e, f]) (.agg [a', b', c', d', e', f']) := .agg _ _ rfl fun j hj => by
  match j, hj with
  | 0, _ => exact h1
  | 1, _ => exact h2
  | 2, _ => exact h3
  | 3, _ => exact h4
  | 4, _ => exact h5
  | 5, _ => exact h6
def classRC : CtrB := rdC Int (fun n => [I n]) (fun r n _ => .agg (clsC (r.class' n).1)) (fun r n => (r.class' n).2) fun _ => True
theorem member_len (r : Rs) (c : Cls) : (r.member c).1.fields.length + (r.member c).1.methods.length ≤ c.fields.length + c.methods.length + 1 := by
  unfold Rs.member
  split
  · simp; omega
  · split
    · simp; omega
    · simp
set_option maxRecDepth 100000 in
set_option maxHeartbeats 8000000 in
theorem classR_ok : CtrBSound Tryz.prog 17 classRC :=
  ctrB_of_ax2 mixed _ Tryz.func17 (by kernel_rfl) rfl (fun _ _ => ⟨Nat.le_of_ble_eq_true rfl, Nat.le_of_ble_eq_true rfl⟩) fun ((r, many) : Rs × Int) id hd => by
    refine ⟨_, ⟨env_okB tys_ok (eqs := []) trivial (cs := [(30, isC)]) ⟨is_ok, trivial⟩ (bs := [(31, roomC), (32, wantC), (33, freshRC), (34, takeC), (35, nmsC), (36, memberRC)]) ⟨room_ok, want_ok, freshR_ok, take_ok, nms_ok, memberR_ok, trivial⟩ (vec := [60]) (cut := [4, 7, 12, 14]) (gl := tabP), fun _ h => h⟩, ?_⟩
    have hr : rok r := hd.1
    have hL : r.L.length ≤ 1000000 := hd.1.1
    have f1 : Fwd r (r.cl1 many) := Rs.cl1_fwd r many
    have f2 := f1.trans (Rs.fresh_fwd _)
    have f3 := f2.trans (Rs.ex1_fwd _ (r.is wInterface))
    have f4 := f3.trans (Rs.ex2_fwd _ (r.is wInterface) ((r.cl1 many).fresh.ex1 (r.is wInterface)).1.2)
    have f5 : Fwd r (r.clR many) := Rs.clR_fwd r many
    have f0 : Fwd r (if r.is wClass || r.is wInterface then r.room many 10 else r) := by
      split
      · exact Rs.room_fwd _ _ _
      · exact .refl _
    refine ⟨(r, wInterface), ⟨.refl _, .str rfl, trivial⟩, rfl, ⟨hr, trivial⟩, ?_⟩
    refine ⟨Unit, fun _ => [(0, .box 1000 0), (4, .box 4 0), (5, .box 5 0)], fun _ => [(1000, rsC (if r.is wClass || r.is wInterface then r.room many 10 else r)), (4, [S noS, B false, S noS, .val (.slice none 0 0), .val (.slice none 0 0), .val (.slice none 0 0)]), (5, [S (noS), B (r.is wInterface), S (noS), .val (.slice none 0 0), .val (.slice none 0 0), .val (.slice none 0 0)])], fun _ => True, ?_, fun _ _ => ?_⟩
    · refine ⟨(r, wClass), ⟨.refl _, .str rfl, trivial⟩, rfl, ⟨hr, trivial⟩, ?_⟩
      refine ⟨fun h1 => ?_, fun h1 => ?_⟩
      · have h1 : r.is wClass = true := h1
        have hE : r.room many 10 = (if r.is wClass || r.is wInterface then r.room many 10 else r) := (if_pos (by rw [h1]; rfl)).symm
        refine ⟨by kernel_rfl, ?_⟩
        refine ⟨(r, many, 10), ⟨.refl _, .refl _, .refl _, trivial⟩, ⟨⟨rfl, .refl _, .refl _, .refl _, .refl _, .refl _, trivial⟩, trivial⟩, ⟨hr, trivial⟩, ?_⟩
        exact ⟨(), trivial, ⟨rfl, rfl⟩, .refl _, .refl _, .refl _, ⟨.refl _, .refl _, .refl _, .refl _, .refl _, .refl _, trivial⟩, ⟨.refl _, .refl _, .refl _, .refl _, .refl _, .refl _, trivial⟩, ⟨.rowEq (rL hE :), .int (rI hE :), .int (rN hE :), .int (rA hE :), .int (rE hE :), trivial⟩, trivial⟩
      have h1 : r.is wClass = false := h1
      refine ⟨(r, wInterface), ⟨.refl _, .str rfl, trivial⟩, rfl, ⟨hr, trivial⟩, ?_⟩
      refine ⟨fun h2 => ?_, fun h2 => ?_⟩
      · have h2 : r.is wInterface = true := h2
        have hE : r.room many 10 = (if r.is wClass || r.is wInterface then r.room many 10 else r) := (if_pos (by rw [h1, h2]; rfl)).symm
        refine ⟨by kernel_rfl, ?_⟩
        refine ⟨(r, many, 10), ⟨.refl _, .refl _, .refl _, trivial⟩, ⟨⟨rfl, .refl _, .refl _, .refl _, .refl _, .refl _, trivial⟩, trivial⟩, ⟨hr, trivial⟩, ?_⟩
        exact ⟨(), trivial, ⟨rfl, rfl⟩, .refl _, .refl _, .refl _, ⟨.refl _, .refl _, .refl _, .refl _, .refl _, .refl _, trivial⟩, ⟨.refl _, .refl _, .refl _, .refl _, .refl _, .refl _, trivial⟩, ⟨.rowEq (rL hE :), .int (rI hE :), .int (rN hE :), .int (rA hE :), .int (rE hE :), trivial⟩, trivial⟩
      · have h2 : r.is wInterface = false := h2
        have hE : r = (if r.is wClass || r.is wInterface then r.room many 10 else r) := (if_neg (by rw [h1, h2]; decide)).symm
        exact ⟨(), trivial, ⟨rfl, rfl⟩, .refl _, .refl _, .refl _, ⟨.refl _, .refl _, .refl _, .refl _, .refl _, .refl _, trivial⟩, ⟨.refl _, .refl _, .refl _, .refl _, .refl _, .refl _, trivial⟩, ⟨.rowEq (rL hE :), .int (rI hE :), .int (rN hE :), .int (rA hE :), .int (rE hE :), trivial⟩, trivial⟩
    refine ⟨Unit, fun _ => [(0, .box 1000 0), (4, .box 4 0), (5, .box 5 0)], fun _ => [(1000, rsC (r.cl1 many)), (4, [S noS, B false, S noS, .val (.slice none 0 0), .val (.slice none 0 0), .val (.slice none 0 0)]), (5, [S (noS), B (r.is wInterface), S (noS), .val (.slice none 0 0), .val (.slice none 0 0), .val (.slice none 0 0)])], fun _ => True, ?_, fun _ _ => ?_⟩
    · refine ⟨fun h1 => ?_, fun h1 => ?_⟩
      · have h1 : r.is wInterface = true := h1
        have hE : (if r.is wClass || r.is wInterface then r.room many 10 else r).want wInterface = (r.cl1 many) := by unfold Rs.cl1; rw [if_pos (c := r.is wInterface = true) h1]
        refine ⟨by kernel_rfl, ?_⟩
        refine ⟨((if r.is wClass || r.is wInterface then r.room many 10 else r), wInterface), ⟨.refl _, .str rfl, trivial⟩, ⟨⟨rfl, .refl _, .refl _, .refl _, .refl _, .refl _, trivial⟩, trivial⟩, ⟨rok_fwd hr f0, trivial⟩, ?_⟩
        exact ⟨(), trivial, ⟨rfl, rfl⟩, .refl _, .refl _, .refl _, ⟨.refl _, .refl _, .refl _, .refl _, .refl _, .refl _, trivial⟩, ⟨.refl _, .refl _, .refl _, .refl _, .refl _, .refl _, trivial⟩, ⟨.rowEq (rL hE :), .int (rI hE :), .int (rN hE :), .int (rA hE :), .int (rE hE :), trivial⟩, trivial⟩
      · have h1 : r.is wInterface = false := h1
        have hE : (if r.is wClass || r.is wInterface then r.room many 10 else r).want wClass = (r.cl1 many) := by unfold Rs.cl1; rw [if_neg (c := r.is wInterface = true) (by rw [h1]; decide)]
        refine ⟨by kernel_rfl, ?_⟩
        refine ⟨((if r.is wClass || r.is wInterface then r.room many 10 else r), wClass), ⟨.refl _, .str rfl, trivial⟩, ⟨⟨rfl, .refl _, .refl _, .refl _, .refl _, .refl _, trivial⟩, trivial⟩, ⟨rok_fwd hr f0, trivial⟩, ?_⟩
        exact ⟨(), trivial, ⟨rfl, rfl⟩, .refl _, .refl _, .refl _, ⟨.refl _, .refl _, .refl _, .refl _, .refl _, .refl _, trivial⟩, ⟨.refl _, .refl _, .refl _, .refl _, .refl _, .refl _, trivial⟩, ⟨.rowEq (rL hE :), .int (rI hE :), .int (rN hE :), .int (rA hE :), .int (rE hE :), trivial⟩, trivial⟩
    refine ⟨by kernel_rfl, ?_⟩
    refine ⟨((r.cl1 many), ()), ⟨.refl _, trivial⟩, ⟨⟨rfl, .refl _, .refl _, .refl _, .refl _, .refl _, trivial⟩, trivial⟩, ⟨rok_fwd hr f1, trivial⟩, ?_⟩
    refine ⟨Unit, fun _ => [(0, .box 1000 0), (4, .box 4 0), (5, .box 5 0)], fun _ => [(1000, rsC ((r.cl1 many).fresh.ex1 (r.is wInterface)).2), (4, [S noS, B false, S noS, .val (.slice none 0 0), .val (.slice none 0 0), .val (.slice none 0 0)]), (5, [S ((r.cl1 many).freshV), B (r.is wInterface), S (((r.cl1 many).fresh.ex1 (r.is wInterface)).1.1), .row ByteArray 1 strC noS ((r.cl1 many).fresh.ex1 (r.is wInterface)).1.2, .val (.slice none 0 0), .val (.slice none 0 0)])], fun _ => True, ?_, fun _ _ => ?_⟩
    · refine ⟨by kernel_rfl, ?_⟩
      refine ⟨((r.cl1 many).fresh, wExtends), ⟨.refl _, .str rfl, trivial⟩, ⟨⟨rfl, .refl _, .refl _, .refl _, .refl _, .refl _, trivial⟩, trivial⟩, ⟨rok_fwd hr f2, trivial⟩, ?_⟩
      refine ⟨fun h1 => ?_, fun h1 => ?_⟩
      · have h1 : (r.cl1 many).fresh.is wExtends = true := h1
        have hst := take_yes h1
        have fs : rok ((r.cl1 many).fresh.take wExtends) := rok_fwd hr (f2.trans (Rs.take_fwd _ _))
        refine ⟨fun h2 => ?_, fun h2 => ?_⟩
        · have h2 : r.is wInterface = true := h2
          have e : ((r.cl1 many).fresh.ex1 (r.is wInterface)) = ((noS, (r.cl1 many).fresh.step.names.1), (r.cl1 many).fresh.step.names.2) := by unfold Rs.ex1; rw [if_pos h1, if_pos h2]
          have hE : ((r.cl1 many).fresh.take wExtends).names.2 = ((r.cl1 many).fresh.ex1 (r.is wInterface)).2 := by rw [e, hst]
          refine ⟨by kernel_rfl, ?_⟩
          refine ⟨((r.cl1 many).fresh.take wExtends, ()), ⟨.refl _, trivial⟩, ⟨⟨rfl, .refl _, .refl _, .refl _, .refl _, .refl _, trivial⟩, trivial⟩, ⟨fs, trivial⟩, ?_⟩
          exact ⟨(), trivial, ⟨rfl, rfl⟩, .refl _, .refl _, .refl _, ⟨.refl _, .refl _, .str (by rw [e]), .ownRow (by rw [e, hst]), .refl _, .refl _, trivial⟩, ⟨.refl _, .refl _, .refl _, .refl _, .refl _, .refl _, trivial⟩, ⟨.rowEq (rL hE :), .int (rI hE :), .int (rN hE :), .int (rA hE :), .int (rE hE :), trivial⟩, trivial⟩
        · have h2 : r.is wInterface = false := h2
          have e : ((r.cl1 many).fresh.ex1 (r.is wInterface)) = (((r.cl1 many).fresh.step.freshV, []), (r.cl1 many).fresh.step.fresh) := by unfold Rs.ex1; rw [if_pos h1, if_neg (by rw [h2]; decide)]
          have hE : ((r.cl1 many).fresh.take wExtends).fresh = ((r.cl1 many).fresh.ex1 (r.is wInterface)).2 := by rw [e, hst]
          refine ⟨by kernel_rfl, ?_⟩
          refine ⟨((r.cl1 many).fresh.take wExtends, ()), ⟨.refl _, trivial⟩, ⟨⟨rfl, .refl _, .refl _, .refl _, .refl _, .refl _, trivial⟩, trivial⟩, ⟨fs, trivial⟩, ?_⟩
          exact ⟨(), trivial, ⟨rfl, rfl⟩, .refl _, .refl _, .refl _, ⟨.refl _, .refl _, .str (by rw [e, hst]), (show Sub _ (.row ByteArray 1 strC noS ((r.cl1 many).fresh.ex1 (r.is wInterface)).1.2) by rw [e]; exact .nil ..), .refl _, .refl _, trivial⟩, ⟨.refl _, .refl _, .refl _, .refl _, .refl _, .refl _, trivial⟩, ⟨.rowEq (rL hE :), .int (rI hE :), .int (rN hE :), .int (rA hE :), .int (rE hE :), trivial⟩, trivial⟩
      · have h1 : (r.cl1 many).fresh.is wExtends = false := h1
        have e : ((r.cl1 many).fresh.ex1 (r.is wInterface)) = ((noS, []), (r.cl1 many).fresh) := by unfold Rs.ex1; rw [if_neg (by rw [h1]; decide)]
        have hE : (r.cl1 many).fresh.take wExtends = ((r.cl1 many).fresh.ex1 (r.is wInterface)).2 := by rw [e, take_no h1]
        exact ⟨(), trivial, ⟨rfl, rfl⟩, .refl _, .refl _, .refl _, ⟨.refl _, .refl _, .str (by rw [e]), (show Sub _ (.row ByteArray 1 strC noS ((r.cl1 many).fresh.ex1 (r.is wInterface)).1.2) by rw [e]; exact .nil ..), .refl _, .refl _, trivial⟩, ⟨.refl _, .refl _, .refl _, .refl _, .refl _, .refl _, trivial⟩, ⟨.rowEq (rL hE :), .int (rI hE :), .int (rN hE :), .int (rA hE :), .int (rE hE :), trivial⟩, trivial⟩
    refine ⟨Unit, fun _ => [(0, .box 1000 0), (4, .box 4 0), (5, .box 5 0)], fun _ => [(1000, rsC (((r.cl1 many).fresh.ex1 (r.is wInterface)).2.ex2 (r.is wInterface) ((r.cl1 many).fresh.ex1 (r.is wInterface)).1.2).2), (4, [S noS, B false, S noS, .val (.slice none 0 0), .val (.slice none 0 0), .val (.slice none 0 0)]), (5, [S ((r.cl1 many).freshV), B (r.is wInterface), S (((r.cl1 many).fresh.ex1 (r.is wInterface)).1.1), .row ByteArray 1 strC noS (((r.cl1 many).fresh.ex1 (r.is wInterface)).2.ex2 (r.is wInterface) ((r.cl1 many).fresh.ex1 (r.is wInterface)).1.2).1, .val (.slice none 0 0), .val (.slice none 0 0)])], fun _ => True, ?_, fun _ _ => ?_⟩
    · have none : (r.is wInterface = true ∨ ((r.cl1 many).fresh.ex1 (r.is wInterface)).2.is wImplements = false) → (((r.cl1 many).fresh.ex1 (r.is wInterface)).2.ex2 (r.is wInterface) ((r.cl1 many).fresh.ex1 (r.is wInterface)).1.2) = (((r.cl1 many).fresh.ex1 (r.is wInterface)).1.2, ((r.cl1 many).fresh.ex1 (r.is wInterface)).2) := fun h => by
        unfold Rs.ex2
        rcases h with h | h
        · rw [if_neg (by rw [h]; simp)]
        · rw [if_neg (by rw [h]; simp)]
      refine ⟨fun h1 => ?_, fun h1 => ?_⟩
      · have h1 : r.is wInterface = false := notT h1
        refine ⟨by kernel_rfl, ?_⟩
        refine ⟨(((r.cl1 many).fresh.ex1 (r.is wInterface)).2, wImplements), ⟨.refl _, .str rfl, trivial⟩, ⟨⟨rfl, .refl _, .refl _, .refl _, .refl _, .refl _, trivial⟩, trivial⟩, ⟨rok_fwd hr f3, trivial⟩, ?_⟩
        refine ⟨fun h2 => ?_, fun h2 => ?_⟩
        · have h2 : ((r.cl1 many).fresh.ex1 (r.is wInterface)).2.is wImplements = true := h2
          have hst := take_yes h2
          have e : (((r.cl1 many).fresh.ex1 (r.is wInterface)).2.ex2 (r.is wInterface) ((r.cl1 many).fresh.ex1 (r.is wInterface)).1.2) = ((r.cl1 many).fresh.ex1 (r.is wInterface)).2.step.names := by unfold Rs.ex2; rw [if_pos (by rw [Bool.and_eq_true]; exact ⟨by rw [h1]; rfl, h2⟩)]
          have hE : (((r.cl1 many).fresh.ex1 (r.is wInterface)).2.take wImplements).names.2 = (((r.cl1 many).fresh.ex1 (r.is wInterface)).2.ex2 (r.is wInterface) ((r.cl1 many).fresh.ex1 (r.is wInterface)).1.2).2 := by rw [e, hst]
          refine ⟨by kernel_rfl, ?_⟩
          refine ⟨(((r.cl1 many).fresh.ex1 (r.is wInterface)).2.take wImplements, ()), ⟨.refl _, trivial⟩, ⟨⟨rfl, .refl _, .refl _, .refl _, .refl _, .refl _, trivial⟩, trivial⟩, ⟨rok_fwd hr (f3.trans (Rs.take_fwd _ _)), trivial⟩, ?_⟩
          exact ⟨(), trivial, ⟨rfl, rfl⟩, .refl _, .refl _, .refl _, ⟨.refl _, .refl _, .refl _, .ownRow (by rw [e, hst]), .refl _, .refl _, trivial⟩, ⟨.refl _, .refl _, .refl _, .refl _, .refl _, .refl _, trivial⟩, ⟨.rowEq (rL hE :), .int (rI hE :), .int (rN hE :), .int (rA hE :), .int (rE hE :), trivial⟩, trivial⟩
        · have h2 : ((r.cl1 many).fresh.ex1 (r.is wInterface)).2.is wImplements = false := h2
          have hE : ((r.cl1 many).fresh.ex1 (r.is wInterface)).2.take wImplements = (((r.cl1 many).fresh.ex1 (r.is wInterface)).2.ex2 (r.is wInterface) ((r.cl1 many).fresh.ex1 (r.is wInterface)).1.2).2 := by rw [none (.inr h2), take_no h2]
          exact ⟨(), trivial, ⟨rfl, rfl⟩, .refl _, .refl _, .refl _, ⟨.refl _, .refl _, .refl _, .rowEq (by rw [none (.inr h2)]), .refl _, .refl _, trivial⟩, ⟨.refl _, .refl _, .refl _, .refl _, .refl _, .refl _, trivial⟩, ⟨.rowEq (rL hE :), .int (rI hE :), .int (rN hE :), .int (rA hE :), .int (rE hE :), trivial⟩, trivial⟩
      · have h1 : r.is wInterface = true := notF h1
        have hE : ((r.cl1 many).fresh.ex1 (r.is wInterface)).2 = (((r.cl1 many).fresh.ex1 (r.is wInterface)).2.ex2 (r.is wInterface) ((r.cl1 many).fresh.ex1 (r.is wInterface)).1.2).2 := by rw [none (.inl h1)]
        exact ⟨(), trivial, ⟨rfl, rfl⟩, .refl _, .refl _, .refl _, ⟨.refl _, .refl _, .refl _, .rowEq (by rw [none (.inl h1)]), .refl _, .refl _, trivial⟩, ⟨.refl _, .refl _, .refl _, .refl _, .refl _, .refl _, trivial⟩, ⟨.rowEq (rL hE :), .int (rI hE :), .int (rN hE :), .int (rA hE :), .int (rE hE :), trivial⟩, trivial⟩
    refine ⟨by kernel_rfl, ?_⟩
    refine ⟨((((r.cl1 many).fresh.ex1 (r.is wInterface)).2.ex2 (r.is wInterface) ((r.cl1 many).fresh.ex1 (r.is wInterface)).1.2).2, wLc), ⟨.refl _, .str rfl, trivial⟩, ⟨⟨rfl, .refl _, .refl _, .refl _, .refl _, .refl _, trivial⟩, trivial⟩, ⟨rok_fwd hr f4, trivial⟩, ?_⟩
    refine ⟨Nat × Rs × Cls, fun _ => [(0, .box 1000 0), (4, .box 4 0), (5, .box 5 0)], fun s => [(1000, rsC s.2.1), (4, [S noS, B false, S noS, .val (.slice none 0 0), .val (.slice none 0 0), .val (.slice none 0 0)]), (5, cPre s.2.2 6900060 7000060)],
      fun s => Rs.clsL s.1 s.2.1 s.2.2 = r.class' many ∧ s.2.1.need ≤ s.1 ∧ Fwd r s.2.1 ∧ s.2.2.fields.length + s.2.2.methods.length + s.1 ≤ r.L.length + 2, fun s => s.1,
      ⟨(r.L.length + 2, r.clR many, r.clV many), ⟨rfl, (by have := need_le (r.clR many); rw [f5.L] at this; exact this), f5, (by show 0 + 0 + (r.L.length + 2) ≤ _; omega)⟩, ⟨⟨rfl, rfl⟩, .refl _, .refl _, .refl _, ⟨.refl _, .refl _, .refl _, .refl _, .nilO .., .nilO .., trivial⟩, ⟨.refl _, .refl _, .refl _, .refl _, .refl _, .refl _, trivial⟩, ⟨.refl _, .refl _, .refl _, .refl _, .refl _, trivial⟩, trivial⟩⟩, fun ((k, q, c) : Nat × Rs × Cls) hx => ?_⟩
    have hx1 : Rs.clsL k q c = r.class' many := hx.1
    have hx2 : q.need ≤ k := hx.2.1
    have hx3 : Fwd r q := hx.2.2.1
    have hx4 : c.fields.length + c.methods.length + k ≤ r.L.length + 2 := hx.2.2.2
    obtain ⟨k, rfl⟩ : ∃ k', k = k' + 1 := ⟨k - 1, by have := Rs.need_pos q; omega⟩
    have hq : rok q := rok_fwd hr hx3
    rw [Rs.clsL] at hx1
    refine ⟨fun h1 => ?_, fun h1 => ?_⟩
    · have h1 : q.e = 0 := eqT h1
      refine ⟨by kernel_rfl, ?_⟩
      refine ⟨(q, wRc), ⟨.refl _, .str rfl, trivial⟩, ⟨⟨rfl, .refl _, .refl _, .refl _, .refl _, .refl _, trivial⟩, trivial⟩, ⟨hq, trivial⟩, ?_⟩
      refine ⟨fun h2 => ?_, fun h2 => ?_⟩
      · have h2 : q.is wRc = false := notT h2
        rw [if_pos h1, if_neg (by rw [h2]; decide)] at hx1
        have hE : q.take wRc = q := take_no h2
        refine ⟨(q, c), ⟨.refl _, .refl _, trivial⟩, ⟨⟨rfl, .rowEq (rL hE :), .int (rI hE :), .int (rN hE :), .int (rA hE :), .int (rE hE :), trivial⟩, ⟨rfl, .refl _, .refl _, .refl _, .refl _, .refl _, .refl _, trivial⟩, trivial⟩, ⟨hq, (show c.fields.length ≤ 2000000 by omega), (show c.methods.length ≤ 2000000 by omega)⟩, ?_⟩
        have hf := Rs.member_fwd q c
        have hml := member_len q c
        have hn : q.need ≤ k + 1 := hx2
        have hlt : (q.member c).2.need < q.need ∨ ¬ q.i < q.L.length := by
          by_cases c0 : q.i < q.L.length
          · exact .inl (Rs.need_lt ⟨h1, c0⟩ hf (Rs.member_on q c))
          · exact .inr c0
        have hk2 : (q.member c).2.need ≤ k := by
          rcases hlt with hlt | hlt
          · omega
          · have h3 := Rs.member_on q c
            have h4 := hf.bd
            have h5 : (q.member c).2.e ≠ 0 := by
              rcases h3 with h3 | h3
              · exact h3
              · omega
            have h6 : 1 < q.need := by unfold Rs.need; rw [if_pos h1]; omega
            unfold Rs.need
            rw [if_neg h5]; omega
        exact ⟨(k, (q.member c).2, (q.member c).1), ⟨hx1, hk2, hx3.trans hf, (show (q.member c).1.fields.length + (q.member c).1.methods.length + k ≤ r.L.length + 2 by omega)⟩, Nat.lt_succ_self _, ⟨rfl, rfl⟩, .refl _, .refl _, .refl _, ⟨.refl _, .refl _, .refl _, .refl _, .refl _, .refl _, trivial⟩, ⟨.refl _, .refl _, .refl _, .refl _, .refl _, .refl _, trivial⟩, ⟨.refl _, .refl _, .refl _, .refl _, .refl _, trivial⟩, trivial⟩
      · have h2 : q.is wRc = true := notF h2
        rw [if_pos h1, if_pos h2] at hx1
        have hE : q.take wRc = (r.class' many).2 := by rw [take_yes h2, ← hx1]
        exact ⟨.agg6 (.str (by rw [← hx1])) (.bool (by rw [← hx1])) (.str (by rw [← hx1])) (.rowEq (by rw [← hx1])) (.ownRow (by rw [← hx1])) (.ownRow (by rw [← hx1])), ⟨rfl, .rowEq (rL hE :), .int (rI hE :), .int (rN hE :), .int (rA hE :), .int (rE hE :), trivial⟩, trivial⟩
    · have h1 : ¬ q.e = 0 := eqF h1
      rw [if_neg h1] at hx1
      have hE : q = (r.class' many).2 := by rw [← hx1]
      exact ⟨.agg6 (.str (by rw [← hx1])) (.bool (by rw [← hx1])) (.str (by rw [← hx1])) (.rowEq (by rw [← hx1])) (.ownRow (by rw [← hx1])) (.ownRow (by rw [← hx1])), ⟨rfl, .rowEq (rL hE :), .int (rI hE :), .int (rN hE :), .int (rA hE :), .int (rE hE :), trivial⟩, trivial⟩
def parseC : Ctr := { A := List UInt8, enc := fun l => [.row UInt8 1 byteC 0 l], dom := fun l => l.length ≤ 4611686018427387904, res := fun l _ => .tup [.agg [prgR (parseF l).1], I (parseF l).2.1, I (parseF l).2.2], gl := tabP }
theorem scan_count (l : List UInt8) : (scanF l).1.length ≤ 6000 := by
  unfold scanF
  split
  · simp
  · have hh : ∀ (f i : Nat) (l : List UInt8), (scanL f i l).1.length ≤ l.length := by
      intro f
      induction f with
      | zero => intro i l; cases l <;> simp [scanL]
      | succ f ih =>
        intro i l
        cases l with
        | nil => simp [scanL]
        | cons c r =>
          simp only [scanL]
          split
          · have := ih (i + 1) r; simp only [List.length_cons]; omega
          · split
            · rename_i h2
              have h3 := word_pos h2
              have := ih (i + wordF (c :: r)) ((c :: r).drop (wordF (c :: r)))
              simp only [List.length_cons, List.length_drop] at this ⊢
              omega
            · simp
    have h1 := hh l.length 0 l
    split <;> (dsimp only; first | exact Nat.zero_le _ | (show (scanL l.length 0 l).1.length ≤ 6000; omega))
set_option maxRecDepth 100000 in
set_option maxHeartbeats 4000000 in
theorem parse_ok : CtrSound Tryz.prog 5 parseC :=
  ctr_of_ax (env_okB tys_ok (eqs := []) trivial (cs := [(16, scanC)]) ⟨scan_ok, trivial⟩ (bs := [(17, classRC)]) ⟨classR_ok, trivial⟩ (qu := [2, 40]) (sq := [510058, 510062, 520002, 710022]) (gl := tabP)) mixed _ Tryz.func5 (by kernel_rfl) rfl (fun _ _ => Nat.le_of_ble_eq_true rfl) fun (l : List UInt8) id hd => by
    have hd : l.length ≤ 4611686018427387904 := hd
    have hsc := scan_count l
    have err : ∀ (a e : Int), parseF l = ([], a, e) → ∀ s : SV, Sub s (.agg [prgR []]) → Sub (.tup [s, I a, I e]) (.tup [.agg [prgR (parseF l).1], I (parseF l).2.1, I (parseF l).2.2]) := fun a e h s hs => by
      rw [h]; exact .tup3 hs (.refl _) (.refl _)
    refine ⟨l, ⟨.refl _, trivial⟩, rfl, hd, ?_⟩
    refine ⟨fun h => ?_, fun h => ?_⟩
    · have h : ((scanF l).2.2 != 0) = true := h
      have e : parseF l = ([], (scanF l).2.1, (scanF l).2.2) := by
        unfold parseF; rw [if_neg (by simpa using h)]
      exact ⟨err _ _ e _ (.agg _ _ rfl fun j hj => by match j, hj with | 0, _ => exact .nil ..), rfl⟩
    have h0 : (scanF l).2.2 = 0 := by
      have h : ((scanF l).2.2 != 0) = false := h
      simpa using h
    have hr : rok (parse0 l) := ⟨by show (scanF l).1.length ≤ 1000000; omega, Nat.zero_le _⟩
    refine ⟨Nat × Rs × List Cls, fun _ => [(2, .box 2 0), (6, .box 22 0)], fun s => [(2, [.own Cls 6 clsC cls0 s.2.2 48]), (22, rsC s.2.1)],
      fun s => Rs.prgL s.1 s.2.1 s.2.2 = (Rs.prgL ((scanF l).1.length + 2) (parse0 l) []) ∧ s.2.1.need ≤ s.1 ∧ Fwd (parse0 l) s.2.1 ∧ s.2.2.length + s.1 ≤ (scanF l).1.length + 2, fun s => s.1,
      ⟨((scanF l).1.length + 2, parse0 l, []), ⟨rfl, need_le (parse0 l), .refl _, (by show 0 + _ ≤ _; omega)⟩, ⟨⟨rfl, rfl⟩, .refl _, .refl _, ⟨.nilO .., trivial⟩, ⟨.own .., .refl _, .refl _, .refl _, .refl _, trivial⟩, trivial⟩⟩, fun ((k, q, out) : Nat × Rs × List Cls) hx => ?_⟩
    have hx1 : Rs.prgL k q out = (Rs.prgL ((scanF l).1.length + 2) (parse0 l) []) := hx.1
    have hx2 : q.need ≤ k := hx.2.1
    have hx3 : Fwd (parse0 l) q := hx.2.2.1
    have hx4 : out.length + k ≤ (scanF l).1.length + 2 := hx.2.2.2
    obtain ⟨k, rfl⟩ : ∃ k', k = k' + 1 := ⟨k - 1, by have := Rs.need_pos q; omega⟩
    have hq : rok q := rok_fwd hr hx3
    rw [Rs.prgL] at hx1
    refine ⟨by kernel_rfl, ?_⟩
    have fin : ¬ (q.e = 0 ∧ q.i < q.L.length) → (out, q) = (Rs.prgL ((scanF l).1.length + 2) (parse0 l) []) := fun h => by rw [if_neg h] at hx1; exact hx1
    refine ⟨fun h1 => ?_, fun h1 => ?_⟩
    · have h1 : q.e = 0 := eqT h1
      refine ⟨fun h2 => ?_, fun h2 => ?_⟩
      · have h2 : q.i < q.L.length := dlt h2
        rw [if_pos ⟨h1, h2⟩] at hx1
        refine ⟨by kernel_rfl, ?_⟩
        refine ⟨by kernel_rfl, ?_⟩
        refine ⟨(q, (out.length : Int)), ⟨.refl _, .refl _, trivial⟩, ⟨⟨rfl, .refl _, .refl _, .refl _, .refl _, .refl _, trivial⟩, trivial⟩, ⟨hq, trivial⟩, ?_⟩
        refine ⟨Cls, clsC, cls0, [(q.class' out.length).1], ⟨rfl, fun _ => rfl⟩, ⟨.refl _, .refl _, .refl _, .refl _, .refl _, .refl _, trivial⟩, rfl, ?_⟩
        refine ⟨Cls, clsC, cls0, out, [(q.class' out.length).1], 48, ⟨.refl _, .own ..⟩, fun _ => rfl, (by show (out.length + 1) * 112 ≤ 140737488355328; omega), ?_⟩
        have hf := Rs.class_fwd q out.length
        have := Rs.need_lt ⟨h1, h2⟩ hf (Rs.class_on q out.length)
        exact ⟨(k, (q.class' out.length).2, out ++ [(q.class' out.length).1]), ⟨hx1, (show (q.class' out.length).2.need ≤ k by omega), hx3.trans hf, (show (out ++ [(q.class' out.length).1]).length + k ≤ (scanF l).1.length + 2 by simp; omega)⟩, Nat.lt_succ_self _, ⟨rfl, rfl⟩, .refl _, .refl _, ⟨.refl _, trivial⟩, ⟨.refl _, .refl _, .refl _, .refl _, .refl _, trivial⟩, trivial⟩
      · have h2 : ¬ q.i < q.L.length := by
          have h2 : decide ((q.i : Int) < (q.L.length : Int)) = false := h2
          have := dge h2; omega
        have e1 := fin (fun c => h2 c.2)
        refine ⟨fun h3 => ?_, fun h3 => ?_⟩
        · have h3 : (q.e != 0) = true := h3
          rw [h1] at h3; simp at h3
        · have e : parseF l = (out, 0, 0) := by
            unfold parseF; rw [if_pos h0, if_pos (by rw [← e1]; exact h1), ← e1]
          exact ⟨(show Sub _ (.tup [.agg [prgR (parseF l).1], I (parseF l).2.1, I (parseF l).2.2]) by rw [e]; exact .tup3 (.agg _ _ rfl fun j hj => by match j, hj with | 0, _ => exact .own ..) (.refl _) (.refl _)), rfl⟩
    · have h1 : ¬ q.e = 0 := eqF h1
      have e1 := fin (fun c => h1 c.1)
      refine ⟨fun h3 => ?_, fun h3 => ?_⟩
      · have e : parseF l = ([], q.at', q.e) := by
          unfold parseF; rw [if_pos h0, if_neg (by rw [← e1]; exact h1), ← e1]
        refine ⟨by kernel_rfl, ?_⟩
        exact ⟨err _ _ e _ (.agg _ _ rfl fun j hj => by match j, hj with | 0, _ => exact .nil ..), rfl⟩
      · have h3 : (q.e != 0) = false := h3
        exact absurd (by simpa using h3) h1
end Go.Proofs.YtimhbimpaiiceaaGreatDoor.Ax
/- How the arguments of this seat's laws lie. -/
namespace Go.Proofs.YtimhbimpaiiceaaGreatDoor.Ax
open Go Go.RowKit
abbrev sh5 : Shape := .byte
theorem reads5 : Reads Tryz.prog 5 sh5 := Reads.byte Tryz.underlying5 (by kernel_rfl)
abbrev sh22 : Shape := sh5.row 1
theorem reads22 : Reads Tryz.prog 22 sh22 := Reads.row Tryz.underlying22 (by kernel_rfl) (by kernel_rfl) reads5 (by decide)
abbrev sh9 : Shape := .str
theorem reads9 : Reads Tryz.prog 9 sh9 := Reads.str Tryz.underlying9 (by kernel_rfl)
abbrev sh3 : Shape := .int .i64
theorem reads3 : Reads Tryz.prog 3 sh3 := Reads.int Tryz.underlying3 (by kernel_rfl)
theorem laidOut : laidOutB Tryz.prog = true := by kernel_rfl
end Go.Proofs.YtimhbimpaiiceaaGreatDoor.Ax
/- Layer parse: what each statement wakes; ParseWords. -/
set_option linter.unusedVariables false
set_option linter.unusedSimpArgs false
namespace Go.Proofs.YtimhbimpaiiceaaGreatDoor.Ax
open Go Go.RowKit
abbrev lC : Ctr := { A := Unit, enc := fun _ => [], dom := fun _ => True, res := fun _ _ => .tt, gl := tabP }
theorem wk1 : parseF [99, 108, 97, 115, 115, 32, 65, 32, 123, 32, 102, 105, 101, 108, 100, 32, 120, 32, 58, 32, 105, 110, 116, 32, 59, 32, 125] = ([⟨⟨#[65]⟩, false, noS, [], [⟨⟨#[120]⟩, (2, noS), false⟩], []⟩], 0, 0) := by decide +kernel
theorem wk2 : parseF [99, 108, 97, 115, 115, 32, 65, 32, 123, 32, 102, 105, 101, 108, 100, 32, 105, 110, 116, 32, 58, 32, 105, 110, 116, 32, 59, 32, 125] = ([], 16, 4) := by decide +kernel
theorem wk3 : opV ⟨#[116, 104, 114, 111, 119]⟩ = 43 := by decide +kernel
theorem wk4 : wordF2 8 = ⟨#[97, 100, 100]⟩ := by decide +kernel
theorem wk5 : keptF [99, 108, 97, 115, 115] = true := by decide +kernel
set_option maxRecDepth 100000 in
set_option maxHeartbeats 2000000 in
theorem wakesP_ok : CtrSound Tryz.prog 15 lC :=
  ctr_of_ax (env_okB tys_ok (eqs := []) trivial (cs := [(5, parseC), (7, opC), (14, pwordC), (12, keptC)]) ⟨parse_ok, op_ok, pword_ok, kept_ok, trivial⟩ (bs := []) trivial (vec := [10, 12, 17, 19]) (gl := tabP)) mixed _ Tryz.func15 (by kernel_rfl) rfl (fun _ _ => Nat.le_of_ble_eq_true rfl) fun (_ : Unit) id hd => by
    obtain ⟨b1, e1⟩ : ∃ b : List UInt8, b = [99, 108, 97, 115, 115, 32, 65, 32, 123, 32, 102, 105, 101, 108, 100, 32, 120, 32, 58, 32, 105, 110, 116, 32, 59, 32, 125] := ⟨_, rfl⟩
    obtain ⟨b2, e2⟩ : ∃ b : List UInt8, b = [99, 108, 97, 115, 115, 32, 65, 32, 123, 32, 102, 105, 101, 108, 100, 32, 105, 110, 116, 32, 58, 32, 105, 110, 116, 32, 59, 32, 125] := ⟨_, rfl⟩
    have p1 := wk1
    rw [← e1] at p1
    have p2 := wk2
    rw [← e2] at p2
    have a1 : (parseF b1).2.2 = 0 := by rw [p1]
    have a2 : (parseF b1).1.length = 1 := by rw [p1]; rfl
    have a3 : ((parseF b1).1.getD 0 cls0).fields.length = 1 := by rw [p1]; rfl
    have a4 : (((parseF b1).1.getD 0 cls0).fields.getD 0 fld0).type.1 = 2 := by rw [p1]; rfl
    have a5 : (parseF b2).2.2 = 4 := by rw [p2]
    have a6 : (parseF b2).2.1 = 16 := by rw [p2]
    refine ⟨UInt8, byteC, 0, [99, 108, 97, 115, 115, 32, 65, 32, 123, 32, 102, 105, 101, 108, 100, 32, 120, 32, 58, 32, 105, 110, 116, 32, 59, 32, 125], ⟨rfl, fun _ => ⟨rfl, rfl, rfl⟩⟩, ⟨.refl _, .refl _, .refl _, .refl _, .refl _, .refl _, .refl _, .refl _, .refl _, .refl _, .refl _, .refl _, .refl _, .refl _, .refl _, .refl _, .refl _, .refl _, .refl _, .refl _, .refl _, .refl _, .refl _, .refl _, .refl _, .refl _, .refl _, trivial⟩, ?_⟩
    refine ⟨by decide, ?_⟩
    refine ⟨b1, ⟨.rowEq (by rw [e1]; rfl), trivial⟩, rfl, (show b1.length ≤ 4611686018427387904 by rw [e1]; decide), ?_⟩
    refine ⟨UInt8, byteC, 0, [99, 108, 97, 115, 115, 32, 65, 32, 123, 32, 102, 105, 101, 108, 100, 32, 105, 110, 116, 32, 58, 32, 105, 110, 116, 32, 59, 32, 125], ⟨rfl, fun _ => ⟨rfl, rfl, rfl⟩⟩, ⟨.refl _, .refl _, .refl _, .refl _, .refl _, .refl _, .refl _, .refl _, .refl _, .refl _, .refl _, .refl _, .refl _, .refl _, .refl _, .refl _, .refl _, .refl _, .refl _, .refl _, .refl _, .refl _, .refl _, .refl _, .refl _, .refl _, .refl _, .refl _, .refl _, trivial⟩, ?_⟩
    refine ⟨by decide, ?_⟩
    refine ⟨b2, ⟨.rowEq (by rw [e2]; rfl), trivial⟩, rfl, (show b2.length ≤ 4611686018427387904 by rw [e2]; decide), ?_⟩
    refine ⟨⟨#[116, 104, 114, 111, 119]⟩, ⟨.refl _, trivial⟩, rfl, trivial, ?_⟩
    refine ⟨fun h => ?_, fun h => absurd h (by show ¬ ((parseF b1).2.2 == 0) = false; rw [a1]; decide)⟩
    refine ⟨fun h => ?_, fun h => absurd h (by show ¬ (((parseF b1).1.length : Int) == 1) = false; rw [a2]; decide)⟩
    refine ⟨(show (0 : Int) ≤ 0 ∧ (0 : Int) < ((parseF b1).1.length : Int) by rw [a2]; decide), ?_⟩
    refine ⟨fun h => ?_, fun h => absurd h (by show ¬ ((((parseF b1).1.getD 0 cls0).fields.length : Int) == 1) = false; rw [a3]; decide)⟩
    refine ⟨(show (0 : Int) ≤ 0 ∧ (0 : Int) < ((parseF b1).1.length : Int) by rw [a2]; decide), ?_⟩
    refine ⟨(show (0 : Int) ≤ 0 ∧ (0 : Int) < (((parseF b1).1.getD 0 cls0).fields.length : Int) by rw [a3]; decide), ?_⟩
    refine ⟨fun h => ?_, fun h => absurd h (by show ¬ ((((parseF b1).1.getD 0 cls0).fields.getD 0 fld0).type.1 == 2) = false; rw [a4]; decide)⟩
    refine ⟨fun h => ?_, fun h => absurd h (by show ¬ ((parseF b2).2.2 == 4) = false; rw [a5]; decide)⟩
    refine ⟨fun h => ?_, fun h => absurd h (by show ¬ ((parseF b2).2.1 == 16) = false; rw [a6]; decide)⟩
    refine ⟨fun h => ?_, fun h => absurd h (by show ¬ (decide (0 ≤ opV ⟨#[116, 104, 114, 111, 119]⟩)) = false; rw [wk3]; decide)⟩
    refine ⟨fun h => ?_, fun h => absurd h (by show ¬ ((if opV ⟨#[116, 104, 114, 111, 119]⟩ < 0 then 0 else opV ⟨#[116, 104, 114, 111, 119]⟩) == 43) = false; rw [wk3]; decide)⟩
    refine ⟨(8 : Int), ⟨.refl _, trivial⟩, rfl, trivial, ?_⟩
    refine ⟨fun h => ?_, fun h => absurd h (by show ¬ ((wordF2 8).toList == (⟨#[97, 100, 100]⟩ : ByteArray).toList) = false; rw [wk4]; simp)⟩
    refine ⟨[99, 108, 97, 115, 115], ⟨.str rfl, trivial⟩, rfl, trivial, ?_⟩
    exact ⟨.toTT wk5, rfl⟩
def ParseWords : Ctr := { A := Int × Int, enc := fun x => [I x.1, I x.2], dom := fun _ => True, res := fun _ _ => .tt, gl := tabP }
end Go.Proofs.YtimhbimpaiiceaaGreatDoor.Ax
/- Layer parse: words with blanks between them; ParseTypes. -/
set_option linter.unusedVariables false
set_option linter.unusedSimpArgs false
namespace Go.Proofs.YtimhbimpaiiceaaGreatDoor.Ax
open Go Go.RowKit
theorem rep_long (l : List UInt8) (h : 20 < l.length) : nameF l = false := by
  unfold nameF
  rw [decide_eq_false (by omega)]; rfl
theorem dd_nz : ∀ (u : Nat), (Lib.decDigits u).getD 0 0 = 48 → u = 0 := by
  intro u
  induction u using Nat.strongRecOn with
  | ind u ih =>
    intro h
    rw [Lib.decDigits] at h
    split at h
    · rename_i hu
      have h : UInt8.ofNat (48 + u) = 48 := by simpa using h
      have h2 := congrArg UInt8.toNat h
      rw [UInt8.toNat_ofNat'] at h2
      have : (48 : UInt8).toNat = 48 := rfl
      omega
    · rename_i hu
      obtain ⟨b, r, hb, -⟩ := dd_head (u / 10)
      have := ih (u / 10) (by omega) (by rw [hb] at h ⊢; simpa using h)
      omega
theorem dd_z48 : Lib.decDigits 0 = [48] := by rw [Lib.decDigits, dif_pos (by decide)]; rfl
def tlF (l : List UInt8) : List UInt8 := if l.getD 0 0 = 45 then l.drop 1 else l
theorem num_shape {l : List UInt8} {n : Int} (h : Lib.itoa n = l) (hr : inR n) : 1 ≤ (tlF l).length ∧ (tlF l).length ≤ 10 ∧ ((tlF l).getD 0 0 = 48 → l.length ≤ 1) ∧ ∀ b ∈ tlF l, isDig b = true := by
  have hr1 := hr.1
  have hr2 := hr.2
  unfold Lib.itoa at h
  split at h
  · rename_i hn
    subst h
    have e : tlF (45 :: Lib.decDigits n.natAbs) = Lib.decDigits n.natAbs := rfl
    rw [e]
    have h1 := nd_le (u := n.natAbs) (k := 10) (by omega) (by omega)
    obtain ⟨b, r, hb, -⟩ := dd_head n.natAbs
    refine ⟨by rw [hb]; simp, by rw [Lib.decDigits_length]; omega, fun c => ?_, dd_dig _⟩
    have := dd_nz _ c
    omega
  · rename_i hn
    subst h
    obtain ⟨b, r, hb, hd⟩ := dd_head n.toNat
    have e : tlF (Lib.decDigits n.toNat) = Lib.decDigits n.toNat := by
      unfold tlF
      rw [if_neg]
      rw [hb]
      intro c
      have c : b = 45 := c
      rw [c] at hd; exact absurd hd (by decide)
    rw [e]
    have h1 := nd_le (u := n.toNat) (k := 10) (by omega) (by omega)
    refine ⟨by rw [hb]; simp, by rw [Lib.decDigits_length]; omega, fun c => ?_, dd_dig _⟩
    have := dd_nz _ c
    rw [this, dd_z48]; decide
theorem num_bad {l : List UInt8} (h : (tlF l).length < 1 ∨ 10 < (tlF l).length ∨ ((tlF l).getD 0 0 = 48 ∧ 1 < l.length) ∨ ∃ j, j < (tlF l).length ∧ isDig ((tlF l).getD j 0) = false) : numF l = none := by
  rw [numF_none]
  rintro n ⟨h1, h2⟩
  obtain ⟨a, b, c, d⟩ := num_shape h1 h2
  rcases h with h | h | h | ⟨j, hj, h⟩
  · omega
  · omega
  · have := c h.1; omega
  · rw [d _ (by rw [List.getD, List.getElem?_eq_getElem hj]; exact List.getElem_mem hj)] at h; cases h
def sgF (l : List UInt8) (m : Nat) : Int := if (tlF l).length < l.length then -(m : Int) else m
theorem num_val {l : List UInt8} {m : Nat} (h1 : 1 ≤ (tlF l).length) (h2 : (tlF l).getD 0 0 = 48 → l.length ≤ 1) (hm : Lib.decFrom 0 (tlF l) = some m) : Lib.itoa (sgF l m) = l := by
  have hdd : Lib.decDigits m = tlF l := dd_of _ _ hm (by intro c; rw [c] at h1; simp at h1) (by
    by_cases c : (tlF l).getD 0 0 = 48
    · left; have := h2 c
      have : (tlF l).length ≤ l.length := by unfold tlF; split <;> simp
      omega
    · right; exact c)
  by_cases c : l.getD 0 0 = 45
  · cases l with
    | nil => cases c
    | cons b r =>
      have hb : b = 45 := c
      subst hb
      have ht : tlF (45 :: r) = r := rfl
      rw [ht] at hdd h1 h2
      have hs : sgF (45 :: r) m = -(m : Int) := by unfold sgF; rw [ht, if_pos (by simp)]
      have hm0 : 0 < m := by
        rcases Nat.eq_zero_or_pos m with z | z
        · subst z
          have : r.getD 0 0 = 48 := by rw [← hdd, dd_z48]; rfl
          have := h2 this
          simp at this; subst this; simp at h1
        · exact z
      rw [hs]; unfold Lib.itoa
      rw [if_pos (by omega), show (-(m : Int)).natAbs = m by omega, hdd]
  · have ht : tlF l = l := if_neg c
    rw [ht] at hdd
    have hs : sgF l m = (m : Int) := by unfold sgF; rw [ht, if_neg (by omega)]
    rw [hs]; unfold Lib.itoa
    rw [if_neg (by omega), Int.toNat_natCast, hdd]
theorem num_yes {l : List UInt8} {m : Nat} (h1 : 1 ≤ (tlF l).length) (h2 : (tlF l).getD 0 0 = 48 → l.length ≤ 1) (hm : Lib.decFrom 0 (tlF l) = some m) (hr : inR (sgF l m)) : numF l = some (sgF l m) := (numF_iff _ _).2 ⟨num_val h1 h2 hm, hr⟩
theorem num_out {l : List UInt8} {m : Nat} (h1 : 1 ≤ (tlF l).length) (h2 : (tlF l).getD 0 0 = 48 → l.length ≤ 1) (hm : Lib.decFrom 0 (tlF l) = some m) (hr : ¬ inR (sgF l m)) : numF l = none := by
  rw [numF_none]
  rintro n ⟨a, b⟩
  rw [← num_val h1 h2 hm] at a
  rw [itoa_inj a] at b
  exact hr b
theorem dec_step {t : List UInt8} {i m : Nat} (h : Lib.decFrom 0 (t.take i) = some m) (hi : i < t.length) (hd : isDig (t.getD i 0) = true) : Lib.decFrom 0 (t.take (i + 1)) = some (m * 10 + ((t.getD i 0).toNat - 48)) := by
  rw [takeT t 0 i hi, decFrom_append _ _ _ _ h]
  have hd : 48 ≤ (t.getD i 0).toNat ∧ (t.getD i 0).toNat ≤ 57 := by simpa [isDig] using hd
  have e : Lib.digitVal (t.getD i 0) = some ((t.getD i 0).toNat - 48) := by
    have := dig_ofNat (d := (t.getD i 0).toNat - 48) (by omega)
    rw [← this]; congr 1
    apply UInt8.toNat_inj.1
    rw [UInt8.toNat_ofNat']; omega
  simp only [Lib.decFrom, e]
theorem by_at (l : List UInt8) (i : Nat) : byteAt (⟨l.toArray⟩ : ByteArray) i = ((l.getD i 0).toNat : Int) := by simp [byteAt]
theorem name_bad {l : List UInt8} {i : Nat} (h : i < l.length) (h1 : isLet (l.getD i 0) = false) (h2 : isDig (l.getD i 0) = false) : nameF l = false := by
  have : l.all isAl = false := by
    rw [Bool.eq_false_iff]
    intro c
    have := (all_at isAl l).1 c i h
    rw [isAl, h1, h2] at this
    cases this
  simp [nameF, this]
set_option maxRecDepth 100000 in
theorem rname_ok : CtrSound Tryz.prog 42 nameC :=
  ctr_of_ax (env_ok tys_ok (eqs := []) trivial (cs := [(39, byteB isLet), (40, byteB isDig)]) ⟨rletter_ok, rdigit_ok, trivial⟩) mixed _ Tryz.func42 (by kernel_rfl) rfl (fun _ _ => Nat.le_of_ble_eq_true rfl) fun (l : List UInt8) id hd => by
    have hd : l.length ≤ 4611686018427387904 := hd
    have hz := size_txt l
    have ha := at_txt l
    have no1 : l.length < 1 → nameF l = false := fun h => by unfold nameF; rw [decide_eq_false (by omega)]; rfl
    have no3 : isLet (l.getD 0 0) = false → nameF l = false := fun h => by simp only [nameF, h]; simp
    refine ⟨fun h => ?_, fun h => ?_⟩
    · exact ⟨.bff (no1 (by have h : decide (((⟨l.toArray⟩ : ByteArray).size : Int) < 1) = true := h
                           have := of_decide_eq_true h; omega)), rfl⟩
    have hpos : 0 < l.length := by
      have h : decide (((⟨l.toArray⟩ : ByteArray).size : Int) < 1) = false := h
      have := of_decide_eq_false h; omega
    refine ⟨fun h => ?_, fun h => ?_⟩
    · exact ⟨.bff (rep_long l (by have h : decide (((⟨l.toArray⟩ : ByteArray).size : Int) > 20) = true := h
                                  have := of_decide_eq_true h; omega)), rfl⟩
    have hle : l.length ≤ 20 := by
      have h : decide (((⟨l.toArray⟩ : ByteArray).size : Int) > 20) = false := h
      have := of_decide_eq_false h; omega
    refine ⟨⟨by omega, by rw [hz]; omega⟩, ?_⟩
    refine ⟨(txt l).data.getD 0 0, ⟨.refl _, trivial⟩, rfl, trivial, ?_⟩
    refine ⟨fun h => ?_, fun h => ?_⟩
    · rw [ha] at h; exact ⟨.bff (no3 (by simpa using h)), rfl⟩
    have hlet : isLet (l.getD 0 0) = true := by rw [ha] at h; simpa using h
    refine ⟨Nat, fun i => [(0, X l), (3, I i)], fun _ => [], fun i => 1 ≤ i ∧ i ≤ l.length ∧ ∀ j, j < i → isAl (l.getD j 0) = true, fun i => l.length - i, ⟨1, ⟨Nat.le_refl _, hpos, fun j hj => by rw [show j = 0 by omega, isAl, hlet]; rfl⟩, ⟨⟨rfl, rfl⟩, .refl _, .refl _, trivial⟩⟩, fun (i : Nat) hi => ?_⟩
    have hil : i ≤ l.length := hi.2.1
    have hn := hi.2.2
    have hwj : IntKind.i64.wrap ((i : Int) + 1) = ((i + 1 : Nat) : Int) := by rw [wrap_eq _ (by omega) (by omega)]; omega
    refine ⟨fun h => ?_, fun h => ?_⟩
    · have hlt : i < l.length := by
        have h : decide ((i : Int) < ((⟨l.toArray⟩ : ByteArray).size : Int)) = true := h
        have := of_decide_eq_true h; omega
      have nb : ∀ {f : UInt8 → Bool}, (!f ((txt l).data.getD i 0)) = true → f (l.getD i 0) = false := fun h => by rw [ha] at h; simpa using h
      have yb : ∀ {f : UInt8 → Bool}, (!f ((txt l).data.getD i 0)) = false → f (l.getD i 0) = true := fun h => by rw [ha] at h; simpa using h
      have nx : ∀ b, isAl (l.getD i 0) = b → b = true → ∀ j, j < i + 1 → isAl (l.getD j 0) = true := fun b hb hb2 j hj => by
        rcases Nat.lt_succ_iff_lt_or_eq.1 hj with q | rfl
        · exact hn j q
        · rw [hb, hb2]
      refine ⟨⟨by omega, by rw [hz]; omega⟩, ?_⟩
      refine ⟨(txt l).data.getD i 0, ⟨.refl _, trivial⟩, rfl, trivial, ?_⟩
      refine ⟨fun h => ?_, fun h => ?_⟩
      · refine ⟨⟨by omega, by rw [hz]; omega⟩, ?_⟩
        refine ⟨(txt l).data.getD i 0, ⟨.refl _, trivial⟩, rfl, trivial, ?_⟩
        refine ⟨fun h2 => ?_, fun h2 => ?_⟩
        · exact ⟨.bff (name_bad hlt (nb h) (nb h2)), rfl⟩
        · exact ⟨i + 1, ⟨by omega, hlt, nx _ rfl (by simp only [isAl, yb h2, Bool.or_true])⟩, by show l.length - (i + 1) < l.length - i; omega, ⟨rfl, rfl⟩, .refl _, .int hwj, trivial⟩
      · exact ⟨i + 1, ⟨by omega, hlt, nx _ rfl (by simp only [isAl, yb h, Bool.true_or])⟩, by show l.length - (i + 1) < l.length - i; omega, ⟨rfl, rfl⟩, .refl _, .int hwj, trivial⟩
    · have hie : i = l.length := by
        have h : decide ((i : Int) < ((⟨l.toArray⟩ : ByteArray).size : Int)) = false := h
        have := of_decide_eq_false h; omega
      exact ⟨.btt (by subst hie; simp only [nameF, hlet, (all_at isAl l).2 hn]; simp; omega), rfl⟩
/-! ### Words, a blank between them -/
/-! ### What the statement looks at -/
def rkeptC : Ctr := { A := ByteArray, enc := fun s => [S s], dom := fun _ => True, res := fun s _ => B (Lib.containsS keptL s) }
set_option maxRecDepth 100000 in
theorem rkept_ok : CtrSound Tryz.prog 13 rkeptC :=
  ctr_of_ax (env_ok tys_ok (eqs := []) trivial (cs := []) trivial) mixed _ Tryz.func13 (by kernel_rfl) rfl (fun _ _ => Nat.le_of_ble_eq_true rfl) fun (s : ByteArray) id _ => by
    have hl : keptL.length = 12 := by decide
    refine ⟨ByteArray, strC, noS, keptL, ⟨rfl, fun _ => rfl⟩, ⟨.refl _, .refl _, .refl _, .refl _, .refl _, .refl _, .refl _, .refl _, .refl _, .refl _, .refl _, .refl _, trivial⟩, rfl, ?_⟩
    refine ⟨Nat, fun i => [(0, S s), (3, .own ByteArray 1 strC noS keptL 5), (4, I i)], fun _ => [], fun i => i ≤ keptL.length ∧ ∀ j, j < i → keptL.getD j noS ≠ s, fun i => keptL.length - i,
      ⟨0, ⟨Nat.zero_le _, fun j hj => by omega⟩, ⟨⟨rfl, rfl⟩, .refl _, .refl _, .refl _, trivial⟩⟩, fun (i : Nat) hi => ?_⟩
    have hil := hi.1
    have hwj : IntKind.i64.wrap ((i : Int) + 1) = ((i + 1 : Nat) : Int) := by rw [wrap_eq _ (by omega) (by omega)]; omega
    refine ⟨fun h => ?_, fun h => ?_⟩
    · have hlt : i < keptL.length := dlt h
      refine ⟨(show 0 ≤ (i : Int) ∧ (i : Int) < ((keptL.length : Nat) : Int) by omega), ?_⟩
      refine ⟨fun h => ?_, fun h => ?_⟩
      · have h : keptL.getD i noS = s := baT h
        exact ⟨.btt ((Lib.containsS_iff _ _).2 (by rw [← h]; exact getT_mem _ _ _ hlt)), rfl⟩
      · have h : keptL.getD i noS ≠ s := baF h
        exact ⟨i + 1, ⟨hlt, fun j hj => by rcases Nat.lt_succ_iff_lt_or_eq.1 hj with q | rfl; exact hi.2 j q; exact h⟩, (show keptL.length - (i + 1) < keptL.length - i by omega), ⟨rfl, rfl⟩, .refl _, .refl _, .int hwj, trivial⟩
    · have hge : i = keptL.length := Nat.le_antisymm hil (dge h)
      have hno : Lib.containsS keptL s = false := by
        rw [Bool.eq_false_iff]
        intro c
        obtain ⟨j, hj, e⟩ := List.mem_iff_getElem.1 ((Lib.containsS_iff _ _).1 c)
        exact hi.2 j (by omega) (by simp [List.getD, hj, e])
      exact ⟨.bff hno, rfl⟩
theorem ty_eq : EqSound Tryz.prog 64 (flatC Ty tyC) :=
  eq_flat [.int .i64, .str] _ tyC Tryz.underlying64 (by kernel_rfl) (by kernel_rfl) (by kernel_rfl) (fun _ => rfl)
theorem ty_dec (a b : Ty) : cellsEq (tyC a) (tyC b) = decide (a = b) := by
  obtain ⟨a1, a2⟩ := a
  obtain ⟨b1, b2⟩ := b
  rw [Bool.eq_iff_iff]
  simp [tyC, cellsEq, cellEq, ba_eq]
set_option maxRecDepth 100000 in
theorem kTypes_ok : CtrSound Tryz.prog 76 (keepR Ty 2 tyC ty0) :=
  ctr_of_ax (env_ok tys_ok (eqs := [(64, flatC Ty tyC)]) ⟨ty_eq, trivial⟩ (cs := []) trivial) mixed _ Tryz.func76 (by kernel_rfl) rfl (fun _ _ => Nat.le_of_ble_eq_true rfl) fun ((k, l) : List Ty × List Ty) id hd => by
    have hd : k.length ≤ 4611686018427387904 := hd
    have no : ¬ (k = l) → Sub .ff (B (decide (k = l))) := fun h => .bff (decide_eq_false h)
    refine ⟨fun h2 => ?_, fun h2 => ?_⟩
    · exact ⟨no fun q => lneT h2 (by rw [q]), rfl⟩
    have hl : k.length = l.length := lneF h2
    refine ⟨Nat, fun i => [(0, .row Ty 2 tyC ty0 k), (1, .row Ty 2 tyC ty0 l), (5, I i)], fun _ => [], fun i => i ≤ k.length ∧ ∀ j, j < i → k.getD j ty0 = l.getD j ty0, fun i => k.length - i,
      ⟨0, ⟨Nat.zero_le _, fun j hj => by omega⟩, ⟨⟨rfl, rfl⟩, .refl _, .refl _, .refl _, trivial⟩⟩, fun (i : Nat) hi => ?_⟩
    have hil := hi.1
    have hwj : IntKind.i64.wrap ((i : Int) + 1) = ((i + 1 : Nat) : Int) := by rw [wrap_eq _ (by omega) (by omega)]; omega
    refine ⟨fun h => ?_, fun h => ?_⟩
    · have hlt : i < k.length := dlt h
      refine ⟨by kernel_rfl, ?_⟩
      refine ⟨⟨by omega, by omega⟩, ⟨by omega, by omega⟩, ?_⟩
      refine ⟨k.getD i ty0, l.getD i ty0, ⟨.refl _, .refl _, trivial⟩, ⟨.refl _, .refl _, trivial⟩, fun h => ?_, fun h => ?_⟩
      · have h : (!cellsEq (tyC (k.getD i ty0)) (tyC (l.getD i ty0))) = true := h
        rw [ty_dec] at h
        exact ⟨no fun q => by rw [q] at h; simp at h, rfl⟩
      · have h : (!cellsEq (tyC (k.getD i ty0)) (tyC (l.getD i ty0))) = false := h
        rw [ty_dec] at h
        have he : k.getD i ty0 = l.getD i ty0 := by simpa using h
        exact ⟨i + 1, ⟨hlt, fun j hj => by rcases Nat.lt_succ_iff_lt_or_eq.1 hj with q | rfl; exact hi.2 j q; exact he⟩, by show k.length - (i + 1) < k.length - i; omega, ⟨rfl, rfl⟩, .refl _, .refl _, .int hwj, trivial⟩
    · have hge : i = k.length := Nat.le_antisymm hil (dge h)
      exact ⟨.btt (decide_eq_true (ext_getD ty0 hl fun j (hj : j < k.length) => hi.2 j (hge ▸ hj))), rfl⟩
/-! ### ParseTypes -/
def ParseTypes : Ctr := { A := Int × ByteArray, enc := fun x => [I x.1, S x.2], dom := fun x => sh3.ok x.1 ∧ sh9.ok x.2, res := fun _ _ => .tt, gl := tabP }
end Go.Proofs.YtimhbimpaiiceaaGreatDoor.Ax
