/- Walks and laws, part 7: Um Ug Uh Lw Gw. -/
import Derived.Test.YtimhbimpaiiceaaGreatDoorPk6
import Derived.Test.YtimhbimpaiiceaaGreatDoorRows
import Derived.Stop.LaidErr
import Derived.LaidSub
import Derived.LaidMore
import Derived.Stop.Joined
import Derived.MakeChecks
import Derived.Lib.LaidTab
/- The reference's Scan (taken together from the lex layer's texts). -/
set_option linter.unusedVariables false
set_option linter.unusedSimpArgs false
namespace Go.Proofs.YtimhbimpaiiceaaGreatDoor.Ax
open Go Go.RowKit
theorem ext_txt (l : List UInt8) (a b : Nat) : (⟨l.toArray⟩ : ByteArray).extract a b = txt ((l.take b).drop a) := by
  apply ByteArray.ext
  rw [ByteArray.data_extract]
  simp only [txt, List.extract_toArray, List.extract_eq_take_drop, List.drop_take]
theorem cut_one {α : Type} (l : List α) (d : α) (i : Nat) (h : i < l.length) : (l.take (i + 1)).drop i = [l.getD i d] := by
  rw [takeT l d i h]
  have e : (l.take i).length = i := by rw [List.length_take]; omega
  rw [List.drop_append_of_le_length (by omega)]
  rw [List.drop_eq_nil_of_le (by omega)]; rfl
theorem u8_sub (c : UInt8) (h : 48 ≤ c.toNat) : IntKind.u8.wrap ((c.toNat : Int) - 48) = ((c.toNat - 48 : Nat) : Int) := by
  have hc := c.toNat_lt
  rw [show (c.toNat : Int) - 48 = ((c.toNat - 48 : Nat) : Int) by omega]
  generalize c.toNat = n at *
  simp only [IntKind.wrap, IntKind.bits, IntKind.signed]
  simp
  omega
def rnumC : Ctr := { A := List UInt8, enc := fun l => [X l], dom := fun l => l.length ≤ 4611686018427387904, res := fun l _ => .tup [I ((numF l).getD 0), B (numF l).isSome] }
set_option maxRecDepth 100000 in
theorem rnum_ok : CtrSound Tryz.prog 41 rnumC :=
  ctr_of_ax (env_okB tys_ok (eqs := []) trivial (cs := [(40, byteB isDig)]) ⟨rdigit_ok, trivial⟩ (bs := []) trivial (cut := [4, 6, 15])) mixed _ Tryz.func41 (by kernel_rfl) rfl (fun _ _ => Nat.le_of_ble_eq_true rfl) fun (l : List UInt8) id hd => by
    have hd : l.length ≤ 4611686018427387904 := hd
    have hz := size_txt l
    refine ⟨Unit, fun _ => [(0, X l), (4, X (tlF l))], fun _ => [], fun _ => True, ?_, fun _ _ => ?_⟩
    · refine ⟨fun h => ?_, fun h => ?_⟩
      · have hpos : 0 < l.length := by
          have h : decide (((⟨l.toArray⟩ : ByteArray).size : Int) > 0) = true := h
          have := of_decide_eq_true h; omega
        refine ⟨⟨by omega, by rw [hz]; omega⟩, ?_⟩
        refine ⟨fun h2 => ?_, fun h2 => ?_⟩
        · have h45 : l.getD 0 0 = 45 := by
            have h2 : (byteAt (⟨l.toArray⟩ : ByteArray) 0 == 45) = true := h2
            rw [by_at] at h2
            apply UInt8.toNat_inj.1
            have := eq_of_beq h2
            have e : (45 : UInt8).toNat = 45 := rfl
            omega
          refine ⟨⟨by omega, by rw [hz]; omega⟩, ?_⟩
          exact ⟨(), trivial, ⟨rfl, rfl⟩, .refl _, .str (by show (⟨l.toArray⟩ : ByteArray).extract 1 (⟨l.toArray⟩ : ByteArray).size = _; rw [ext_txt, hz, List.take_length]; unfold tlF; rw [if_pos h45]), trivial⟩
        · have h45 : l.getD 0 0 ≠ 45 := fun c => by
            have h2 : (byteAt (⟨l.toArray⟩ : ByteArray) 0 == 45) = false := h2
            rw [by_at, c] at h2
            exact absurd h2 (by decide)
          exact ⟨(), trivial, ⟨rfl, rfl⟩, .refl _, .str (by unfold tlF; rw [if_neg h45]), trivial⟩
      · have h0 : l = [] := List.eq_nil_of_length_eq_zero (by
          have h : decide (((⟨l.toArray⟩ : ByteArray).size : Int) > 0) = false := h
          have := of_decide_eq_false h; omega)
        exact ⟨(), trivial, ⟨rfl, rfl⟩, .refl _, .str (by rw [h0]; rfl), trivial⟩
    have hzt := size_txt (tlF l)
    have htl : (tlF l).length ≤ l.length := by unfold tlF; split <;> simp
    have none_ok : numF l = none → Sub (.tup [I 0, .ff]) (.tup [I ((numF l).getD 0), B (numF l).isSome]) := fun h => by rw [h]; exact .tup2 (.refl _) (.bff rfl)
    refine ⟨Unit, fun _ => [(0, X l), (4, X (tlF l))], fun _ => [], fun _ => 1 ≤ (tlF l).length ∧ (tlF l).length ≤ 10 ∧ ((tlF l).getD 0 0 = 48 → l.length ≤ 1), ?_, fun _ hc => ?_⟩
    · refine ⟨fun h => ?_, fun h => ?_⟩
      · exact ⟨none_ok (num_bad (.inl (by have h : decide (((⟨(tlF l).toArray⟩ : ByteArray).size : Int) < 1) = true := h
                                          have := of_decide_eq_true h; omega))), rfl⟩
      have hpos : 1 ≤ (tlF l).length := by
        have h : decide (((⟨(tlF l).toArray⟩ : ByteArray).size : Int) < 1) = false := h
        have := of_decide_eq_false h; omega
      refine ⟨fun h => ?_, fun h => ?_⟩
      · exact ⟨none_ok (num_bad (.inr (.inl (by have h : decide (((⟨(tlF l).toArray⟩ : ByteArray).size : Int) > 10) = true := h
                                                have := of_decide_eq_true h; omega)))), rfl⟩
      have hle : (tlF l).length ≤ 10 := by
        have h : decide (((⟨(tlF l).toArray⟩ : ByteArray).size : Int) > 10) = false := h
        have := of_decide_eq_false h; omega
      refine ⟨⟨by omega, by rw [hzt]; omega⟩, ?_⟩
      refine ⟨fun h => ?_, fun h => ?_⟩
      · have h48 : (tlF l).getD 0 0 = 48 := by
          have h2 : (byteAt (⟨(tlF l).toArray⟩ : ByteArray) 0 == 48) = true := h
          rw [by_at] at h2
          apply UInt8.toNat_inj.1
          have := eq_of_beq h2
          have e : (48 : UInt8).toNat = 48 := rfl
          omega
        refine ⟨fun h2 => ?_, fun h2 => ?_⟩
        · exact ⟨none_ok (num_bad (.inr (.inr (.inl ⟨h48, by have h2 : decide (((⟨l.toArray⟩ : ByteArray).size : Int) > 1) = true := h2
                                                             have := of_decide_eq_true h2; omega⟩)))), rfl⟩
        · exact ⟨(), ⟨hpos, hle, fun _ => by have h2 : decide (((⟨l.toArray⟩ : ByteArray).size : Int) > 1) = false := h2
                                             have := of_decide_eq_false h2; omega⟩, ⟨rfl, rfl⟩, .refl _, .refl _, trivial⟩
      · exact ⟨(), ⟨hpos, hle, fun c => absurd h (by show ¬ (byteAt (⟨(tlF l).toArray⟩ : ByteArray) 0 == 48) = false; rw [by_at, c]; decide)⟩, ⟨rfl, rfl⟩, .refl _, .refl _, trivial⟩
    have h1 : 1 ≤ (tlF l).length := hc.1
    have h10 : (tlF l).length ≤ 10 := hc.2.1
    have h48 : (tlF l).getD 0 0 = 48 → l.length ≤ 1 := hc.2.2
    refine ⟨Nat × Nat, fun s => [(0, X l), (5, I s.2), (4, X (tlF l)), (6, I s.1)], fun _ => [], fun s => s.1 ≤ (tlF l).length ∧ Lib.decFrom 0 ((tlF l).take s.1) = some s.2 ∧ s.2 < 10 ^ s.1, fun s => (tlF l).length - s.1, ⟨(0, 0), ⟨Nat.zero_le _, rfl, by decide⟩, ⟨⟨rfl, rfl⟩, .refl _, .refl _, .refl _, .refl _, trivial⟩⟩, fun ((i, m) : Nat × Nat) hi => ?_⟩
    have hil : i ≤ (tlF l).length := hi.1
    have hdm : Lib.decFrom 0 ((tlF l).take i) = some m := hi.2.1
    have hmb : m < 10 ^ i := hi.2.2
    have hm10 : m < 10000000000 := Nat.lt_of_lt_of_le hmb (Nat.pow_le_pow_right (show 0 < 10 by decide) (show i ≤ 10 by omega))
    have hwj : IntKind.i64.wrap ((i : Int) + 1) = ((i + 1 : Nat) : Int) := by rw [wrap_eq _ (by omega) (by omega)]; omega
    refine ⟨fun h => ?_, fun h => ?_⟩
    · have hlt : i < (tlF l).length := by
        have h : decide ((i : Int) < ((⟨(tlF l).toArray⟩ : ByteArray).size : Int)) = true := h
        have := of_decide_eq_true h; omega
      refine ⟨⟨by omega, by rw [hzt]; omega⟩, ?_⟩
      refine ⟨(txt (tlF l)).data.getD i 0, ⟨.refl _, trivial⟩, rfl, trivial, ?_⟩
      have ha := at_txt (tlF l) i
      refine ⟨fun h => ?_, fun h => ?_⟩
      · rw [ha] at h
        exact ⟨none_ok (num_bad (.inr (.inr (.inr ⟨i, hlt, by simpa using h⟩)))), rfl⟩
      have hd : isDig ((tlF l).getD i 0) = true := by rw [ha] at h; simpa using h
      have hdr : 48 ≤ ((tlF l).getD i 0).toNat ∧ ((tlF l).getD i 0).toNat ≤ 57 := by simpa [isDig] using hd
      have hst := dec_step hdm hlt hd
      have hpw : 10 ^ (i + 1) = 10 ^ i * 10 := Nat.pow_succ ..
      refine ⟨⟨by omega, by rw [hzt]; omega⟩, ?_⟩
      refine ⟨(i + 1, m * 10 + (((tlF l).getD i 0).toNat - 48)), ⟨hlt, hst, by show m * 10 + (((tlF l).getD i 0).toNat - 48) < 10 ^ (i + 1); rw [hpw]; omega⟩, by show (tlF l).length - (i + 1) < (tlF l).length - i; omega, ⟨rfl, rfl⟩, .refl _, .int ?_, .refl _, .int hwj, trivial⟩
      show IntKind.i64.wrap (IntKind.i64.wrap (10 * (m : Int)) + IntKind.i64.wrap (IntKind.u8.wrap (byteAt (⟨(tlF l).toArray⟩ : ByteArray) i - 48))) = _
      have e8 : IntKind.u8.wrap (byteAt (⟨(tlF l).toArray⟩ : ByteArray) i - 48) = ((((tlF l).getD i 0).toNat - 48 : Nat) : Int) := by
        rw [by_at]
        exact u8_sub _ hdr.1
      rw [e8, wrap_eq (10 * (m : Int)) (by omega) (by omega), wrap_eq ((((tlF l).getD i 0).toNat - 48 : Nat) : Int) (by omega) (by omega), wrap_eq _ (by omega) (by omega)]
      omega
    have hie : i = (tlF l).length := by
      have h : decide ((i : Int) < ((⟨(tlF l).toArray⟩ : ByteArray).size : Int)) = false := h
      have := of_decide_eq_false h; omega
    have hdv : Lib.decFrom 0 (tlF l) = some m := by rw [hie, List.take_length] at hdm; exact hdm
    refine ⟨Unit, fun _ => [(5, I (sgF l m))], fun _ => [], fun _ => True, ?_, fun _ _ => ?_⟩
    · refine ⟨fun h => ?_, fun h => ?_⟩
      · have hlt : (tlF l).length < l.length := by
          have h : decide (((⟨(tlF l).toArray⟩ : ByteArray).size : Int) < ((⟨l.toArray⟩ : ByteArray).size : Int)) = true := h
          have := of_decide_eq_true h; omega
        exact ⟨(), trivial, ⟨rfl, rfl⟩, .int (by unfold sgF; rw [if_pos hlt, wrap_eq _ (by omega) (by omega)]; omega), trivial⟩
      · have hlt : ¬ (tlF l).length < l.length := by
          have h : decide (((⟨(tlF l).toArray⟩ : ByteArray).size : Int) < ((⟨l.toArray⟩ : ByteArray).size : Int)) = false := h
          have := of_decide_eq_false h; omega
        exact ⟨(), trivial, ⟨rfl, rfl⟩, .int (by unfold sgF; rw [if_neg hlt]), trivial⟩
    refine ⟨fun h => ?_, fun h => ?_⟩
    · exact ⟨none_ok (num_out h1 h48 hdv (fun c => by have := c.1; have := of_decide_eq_true h; omega)), rfl⟩
    have hlo : -2147483648 ≤ sgF l m := by have := of_decide_eq_false h; omega
    refine ⟨fun h => ?_, fun h => ?_⟩
    · exact ⟨none_ok (num_out h1 h48 hdv (fun c => by have := c.2; have := of_decide_eq_true h; omega)), rfl⟩
    have hhi : sgF l m ≤ 2147483647 := by have := of_decide_eq_false h; omega
    have hy := num_yes h1 h48 hdv ⟨hlo, hhi⟩
    exact ⟨(show Sub _ (.tup [I ((numF l).getD 0), B (numF l).isSome]) by rw [hy]; exact .tup2 (.refl _) (.btt rfl)), rfl⟩
theorem beqT {a b : Int} (h : (a == b) = true) : a = b := eq_of_beq h
theorem tok_nosign {s : List UInt8} (h : isSign (s.getD 0 0) = false) : tokenF s = if nameF s then ((1, txt s, 0, 0), true) else match numF s with | some n => ((2, ⟨#[]⟩, n, 0), true) | none => (tok0, false) := by
  by_cases hn : nameF s = true
  · rw [if_pos hn, tok_name hn]
  · rw [if_neg hn]
    unfold tokenF
    cases numF s with
    | some n => rfl
    | none =>
      simp only
      rw [if_neg hn, if_neg (by rintro ⟨-, c⟩; rw [h] at c; cases c)]
inductive V3 | a | b | c
def V3.n : V3 → Nat
  | .a => 40
  | .b => 90
  | .c => 98
theorem drop_at (b : List UInt8) (i j : Nat) : (b.drop i).getD j 0 = b.getD (i + j) 0 := by simp [List.getD, List.getElem?_drop]
theorem take_hd (s : List UInt8) (n : Nat) (h : 0 < n) : (s.take n).getD 0 0 = s.getD 0 0 := by
  cases s with
  | nil => simp
  | cons c r => cases n with
    | zero => omega
    | succ n => simp
theorem len1 (s : List UInt8) (h : 0 < s.length) : s.take 1 = [s.getD 0 0] := by
  cases s with
  | nil => simp at h
  | cons c r => simp
def rscanC : Ctr := { A := List UInt8, enc := fun b => [.row UInt8 1 byteC 0 b], dom := fun b => b.length ≤ 4611686018427387904, res := fun b id => .tup [.own (Int × ByteArray × Int × Int) 4 tokC tok0 (scanF b).1 id, I (scanF b).2.1, I (scanF b).2.2] }
set_option maxRecDepth 100000 in
set_option maxHeartbeats 4000000 in
theorem rscan_ok : CtrSound Tryz.prog 18 rscanC :=
  ctr_of_ax (env_okB tys_ok (eqs := []) trivial (cs := [(42, nameC), (41, rnumC), (38, byteB isSign), (37, byteB isBlank), (39, byteB isLet), (40, byteB isDig)]) ⟨rname_ok, rnum_ok, rsign_ok, rblank_ok, rletter_ok, rdigit_ok, trivial⟩ (bs := []) trivial (cut := [14, 16])) mixed _ Tryz.func18 (by kernel_rfl) rfl (fun _ _ => Nat.le_of_ble_eq_true rfl) fun (b : List UInt8) id hd => by
    refine ⟨fun h => ?_, fun h => ?_⟩
    · have e : scanF b = ([], 0, 2) := if_pos (by have := of_decide_eq_true h; omega)
      exact ⟨(show Sub _ (.tup [.own (Int × ByteArray × Int × Int) 4 tokC tok0 (scanF b).1 id, I (scanF b).2.1, I (scanF b).2.2]) by rw [e]; exact .tup3 (.nilO ..) (.refl _) (.refl _)), rfl⟩
    have hle : b.length ≤ 6000 := by have := of_decide_eq_false h; omega
    have e0 : scanF b = match (scanI 0 b).2 with | none => ((scanI 0 b).1, 0, 0) | some i => ([], (i : Int), 3) := if_neg (by omega)
    refine ⟨Nat × List (Int × ByteArray × Int × Int) × V3, fun s => [(0, .row UInt8 1 byteC 0 b), (5, .own (Int × ByteArray × Int × Int) 4 tokC tok0 s.2.1 s.2.2.n), (6, I s.1)], fun _ => [],
      fun s => s.1 ≤ b.length ∧ s.2.1.length ≤ s.1 ∧ s.2.1 ++ (scanI s.1 (b.drop s.1)).1 = (scanI 0 b).1 ∧ (scanI s.1 (b.drop s.1)).2 = (scanI 0 b).2, fun s => b.length - s.1, ⟨(0, [], .a), ⟨Nat.zero_le _, Nat.le_refl _, rfl, rfl⟩, ⟨⟨rfl, rfl⟩, .refl _, .nilO .., .refl _, trivial⟩⟩, fun ((i, o, v) : Nat × List (Int × ByteArray × Int × Int) × V3) hi => ?_⟩
    have h1 : i ≤ b.length := hi.1
    have h2 : o.length ≤ i := hi.2.1
    have h3 : o ++ (scanI i (b.drop i)).1 = (scanI 0 b).1 := hi.2.2.1
    have h4 : (scanI i (b.drop i)).2 = (scanI 0 b).2 := hi.2.2.2
    have hwj : IntKind.i64.wrap ((i : Int) + 1) = ((i + 1 : Nat) : Int) := by rw [wrap_eq _ (by omega) (by omega)]; omega
    have di : (i : Int).toNat = i := by omega
    have hg : (b.drop i).getD 0 0 = b.getD i 0 := by rw [drop_at]; rfl
    have stop : ∀ {x : Nat} {k : List (Int × ByteArray × Int × Int)}, scanI i (b.drop i) = (k, some x) → scanF b = ([], (x : Int), 3) := fun e => by rw [e] at h4; rw [e0, ← h4]
    clear hi
    cases v
    · refine ⟨fun h => ?_, fun h => ?_⟩
      · have hlt : i < b.length := dlt h
        have hdl : 0 < (b.drop i).length := by rw [List.length_drop]; omega
        refine ⟨by omega, ?_⟩
        refine ⟨b.getD i 0, ⟨.refl _, trivial⟩, rfl, trivial, ?_⟩
        refine ⟨fun h => ?_, fun hb => ?_⟩
        · have h : isBlank (b.getD i 0) = true := h
          have e := scanI_blank i (b.drop i) hdl (by rw [hg]; exact h)
          rw [List.drop_drop] at e
          rw [e] at h3 h4
          exact ⟨(i + 1, o, .a), ⟨hlt, by show o.length ≤ i + 1; omega, h3, h4⟩, by show b.length - (i + 1) < b.length - i; omega, ⟨rfl, rfl⟩, .refl _, .refl _, .int hwj, trivial⟩
        have hb : isBlank (b.getD i 0) = false := hb
        refine ⟨by omega, ?_⟩
        refine ⟨b.getD i 0, ⟨.refl _, trivial⟩, rfl, trivial, ?_⟩
        refine ⟨fun hs => ?_, fun hs => ?_⟩
        · have hs : isSign (b.getD i 0) = true := hs
          have hw : wordF (b.drop i) = 1 := by unfold wordF; rw [if_neg (by omega), if_pos (by rw [hg]; exact hs)]
          have ht : (b.drop i).take 1 = [b.getD i 0] := by rw [len1 _ hdl, hg]
          have htk : tokenF [b.getD i 0] = ((3, txt [b.getD i 0], 0, 0), true) := tok_sign rfl hs
          have e := scanI_tok i (b.drop i) hdl (by rw [hg]; exact hb) (by rw [hw, ht, htk])
          rw [hw, ht, htk, List.drop_drop] at e
          rw [e] at h3 h4
          refine ⟨⟨by omega, by rw [hwj]; omega, by rw [hwj]; omega⟩, ?_⟩
          refine ⟨[b.getD i 0], (show Sub (.row UInt8 1 byteC 0 ((b.take (IntKind.i64.wrap ((i : Int) + 1)).toNat).drop (i : Int).toNat)) _ by rw [hwj, di]; show Sub (.row UInt8 1 byteC 0 ((b.take (i + 1)).drop i)) _; rw [cut_one b 0 i hlt]; exact .refl _), ?_⟩
          refine ⟨Int × ByteArray × Int × Int, tokC, tok0, [(3, txt [b.getD i 0], 0, (i : Int))], ⟨rfl, fun _ => rfl⟩, ⟨.refl _, .refl _, .refl _, .refl _, trivial⟩, rfl, ?_⟩
          refine ⟨Int × ByteArray × Int × Int, tokC, tok0, o, [(3, txt [b.getD i 0], 0, (i : Int))], 40, ⟨.refl _, .own ..⟩, fun _ => rfl, (by simp only [List.length_cons, List.length_nil]; omega), ?_⟩
          exact ⟨(i + 1, o ++ [(3, txt [b.getD i 0], 0, (i : Int))], .a), ⟨hlt, by rw [List.length_append]; simp only [List.length_cons, List.length_nil]; omega, by rw [List.append_assoc]; exact h3, h4⟩, by show b.length - (i + 1) < b.length - i; omega, ⟨rfl, rfl⟩, .refl _, .refl _, .int hwj, trivial⟩
        have hs : isSign (b.getD i 0) = false := hs
        have hw : wordF (b.drop i) = minus (b.drop i) + (((b.drop i).drop (minus (b.drop i))).takeWhile isAl).length := by unfold wordF; rw [if_neg (by omega), if_neg (by rw [hg, hs]; decide)]
        have hwl := wordF_le (b.drop i)
        have hdn : (b.drop i).length = b.length - i := List.length_drop ..
        refine ⟨Unit, fun _ => [(0, .row UInt8 1 byteC 0 b), (7, I ((i + minus (b.drop i) : Nat) : Int)), (5, .own (Int × ByteArray × Int × Int) 4 tokC tok0 o 40), (6, I i)], fun _ => [], fun _ => True, ?_, fun _ _ => ?_⟩
        · refine ⟨by omega, ?_⟩
          refine ⟨fun h => ?_, fun h => ?_⟩
          · have e : minus (b.drop i) = 1 := by
              unfold minus
              rw [if_pos]
              rw [hg]
              apply UInt8.toNat_inj.1
              have h : (((b.getD i 0).toNat : Int) == 45) = true := h
              have := beqT h
              show (b.getD i 0).toNat = 45
              omega
            exact ⟨(), trivial, ⟨rfl, rfl⟩, .refl _, .int (by rw [e]; exact hwj), .refl _, .refl _, trivial⟩
          · have e : minus (b.drop i) = 0 := by
              unfold minus
              rw [if_neg]
              rw [hg]
              intro c
              have h : (((b.getD i 0).toNat : Int) == 45) = false := h
              rw [c] at h
              exact absurd h (by decide)
            exact ⟨(), trivial, ⟨rfl, rfl⟩, .refl _, .int (by rw [e]; rfl), .refl _, .refl _, trivial⟩
        have hm : minus (b.drop i) ≤ 1 := by unfold minus; split <;> omega
        refine ⟨Unit, fun _ => [(0, .row UInt8 1 byteC 0 b), (7, I ((i + wordF (b.drop i) : Nat) : Int)), (5, .own (Int × ByteArray × Int × Int) 4 tokC tok0 o 40), (6, I i)], fun _ => [], fun _ => True, ?_, fun _ _ => ?_⟩
        · refine ⟨Nat, fun n => [(0, .row UInt8 1 byteC 0 b), (7, I ((i + n : Nat) : Int)), (5, .own (Int × ByteArray × Int × Int) 4 tokC tok0 o 40), (6, I i)], fun _ => [], fun n => minus (b.drop i) ≤ n ∧ n ≤ (b.drop i).length ∧ ∀ j, minus (b.drop i) ≤ j → j < n → isAl ((b.drop i).getD j 0) = true, fun n => (b.drop i).length - n, ⟨minus (b.drop i), ⟨Nat.le_refl _, by omega, fun j h1 h2 => by omega⟩, ⟨⟨rfl, rfl⟩, .refl _, .refl _, .refl _, .refl _, trivial⟩⟩, fun (n : Nat) hi => ?_⟩
          have k1 : minus (b.drop i) ≤ n := hi.1
          have k2 : n ≤ (b.drop i).length := hi.2.1
          have k3 : ∀ j, minus (b.drop i) ≤ j → j < n → isAl ((b.drop i).getD j 0) = true := hi.2.2
          clear hi
          have hwn : IntKind.i64.wrap (((i + n : Nat) : Int) + 1) = ((i + (n + 1) : Nat) : Int) := by rw [wrap_eq _ (by omega) (by omega)]; omega
          have fin : (n = (b.drop i).length ∨ isAl ((b.drop i).getD n 0) = false) → wordF (b.drop i) = n := fun h4 => by rw [hw]; exact tw_at isAl (b.drop i) _ n k1 k2 k3 h4
          have nx : isAl ((b.drop i).getD n 0) = true → ∀ j, minus (b.drop i) ≤ j → j < n + 1 → isAl ((b.drop i).getD j 0) = true := fun hb j q1 q2 => by
            rcases Nat.lt_succ_iff_lt_or_eq.1 q2 with q | rfl
            · exact k3 j q1 q
            · exact hb
          have da := drop_at b i n
          rw [da] at nx fin
          refine ⟨fun h => ?_, fun h => ?_⟩
          · have hln : i + n < b.length := by
              have h : decide (((i + n : Nat) : Int) < (b.length : Int)) = true := h
              exact dlt h
            refine ⟨by omega, ?_⟩
            refine ⟨b.getD (i + n) 0, ⟨.refl _, trivial⟩, rfl, trivial, ?_⟩
            refine ⟨fun h4 => ?_, fun h4 => ?_⟩
            · exact ⟨n + 1, ⟨by omega, by omega, nx (by simp only [isAl]; rw [show isLet (b.getD (i + n) 0) = true from h4]; rfl)⟩, by show (b.drop i).length - (n + 1) < (b.drop i).length - n; omega, ⟨rfl, rfl⟩, .refl _, .int hwn, .refl _, .refl _, trivial⟩
            · refine ⟨by omega, ?_⟩
              refine ⟨b.getD (i + n) 0, ⟨.refl _, trivial⟩, rfl, trivial, ?_⟩
              refine ⟨fun h5 => ?_, fun h5 => ?_⟩
              · exact ⟨n + 1, ⟨by omega, by omega, nx (by simp only [isAl]; rw [show isDig (b.getD (i + n) 0) = true from h5]; simp)⟩, by show (b.drop i).length - (n + 1) < (b.drop i).length - n; omega, ⟨rfl, rfl⟩, .refl _, .int hwn, .refl _, .refl _, trivial⟩
              · exact ⟨(), trivial, ⟨rfl, rfl⟩, .refl _, .int (by rw [fin (.inr (by simp only [isAl]; rw [show isLet (b.getD (i + n) 0) = false from h4, show isDig (b.getD (i + n) 0) = false from h5]; rfl))]), .refl _, .refl _, trivial⟩
          · have hln : b.length ≤ i + n := by
              have h : decide (((i + n : Nat) : Int) < (b.length : Int)) = false := h
              exact dge h
            exact ⟨(), trivial, ⟨rfl, rfl⟩, .refl _, .int (by rw [fin (.inl (by omega))]), .refl _, .refl _, trivial⟩
        have htk : (b.take (i + wordF (b.drop i))).drop i = (b.drop i).take (wordF (b.drop i)) := by
          rw [List.drop_take]; congr 1; omega
        refine ⟨⟨by omega, by omega, by omega⟩, ?_⟩
        refine Exists.elim (show ∃ s : List UInt8, s = (b.drop i).take (wordF (b.drop i)) from ⟨_, rfl⟩) fun s hse => ?_
        refine ⟨s, (show Sub (.row UInt8 1 byteC 0 ((b.take (i + wordF (b.drop i))).drop i)) _ by rw [htk, hse]; exact .refl _), ?_⟩
        have hsl : s.length ≤ b.length := by rw [hse, List.length_take]; omega
        have hsn : isSign (s.getD 0 0) = false := by
          rcases Nat.eq_zero_or_pos (wordF (b.drop i)) with z | z
          · rw [hse, z, List.take_zero]; decide
          · rw [hse, take_hd _ _ z, hg]; exact hs
        have htok := tok_nosign hsn
        have good : ∀ k, tokenF s = (k, true) → 0 < wordF (b.drop i) ∧ scanI i (b.drop i) = (setAt k i :: (scanI (i + wordF (b.drop i)) (b.drop (i + wordF (b.drop i)))).1, (scanI (i + wordF (b.drop i)) (b.drop (i + wordF (b.drop i)))).2) := fun k hk => by
          have h5 : (tokenF ((b.drop i).take (wordF (b.drop i)))).2 = true := by rw [← hse, hk]
          have e := scanI_tok i (b.drop i) hdl (by rw [hg]; exact hb) h5
          rw [List.drop_drop, ← hse, hk] at e
          exact ⟨word_pos h5, e⟩
        refine ⟨s, ⟨.refl _, trivial⟩, rfl, (show s.length ≤ 4611686018427387904 by omega), ?_⟩
        refine ⟨s, ⟨.refl _, trivial⟩, rfl, (show s.length ≤ 4611686018427387904 by omega), ?_⟩
        refine ⟨fun hn => ?_, fun hn => ?_⟩
        · have hn : nameF s = true := hn
          rw [if_pos hn] at htok
          have hgd := good _ htok
          have e := hgd.2
          rw [e] at h3 h4
          refine ⟨Int × ByteArray × Int × Int, tokC, tok0, [(1, txt s, 0, (i : Int))], ⟨rfl, fun _ => rfl⟩, ⟨.refl _, .refl _, .refl _, .refl _, trivial⟩, rfl, ?_⟩
          refine ⟨Int × ByteArray × Int × Int, tokC, tok0, o, [(1, txt s, 0, (i : Int))], 40, ⟨.refl _, .own ..⟩, fun _ => rfl, (by simp only [List.length_cons, List.length_nil]; omega), ?_⟩
          have hp := hgd.1
          exact ⟨(i + wordF (b.drop i), o ++ [(1, txt s, 0, (i : Int))], .b), ⟨by omega, by show (o ++ [_]).length ≤ i + wordF (b.drop i); rw [List.length_append]; simp only [List.length_cons, List.length_nil]; omega, by rw [List.append_assoc]; exact h3, h4⟩, by show b.length - (i + wordF (b.drop i)) < b.length - i; omega, ⟨rfl, rfl⟩, .refl _, .refl _, .refl _, trivial⟩
        have hn : nameF s = false := hn
        rw [if_neg (by rw [hn]; decide)] at htok
        refine ⟨fun hq => ?_, fun hq => ?_⟩
        · have hq : (numF s).isSome = true := hq
          refine Exists.elim (Option.isSome_iff_exists.1 hq) fun m hm => ?_
          rw [hm] at htok
          have hgd := good _ htok
          have e := hgd.2
          rw [e] at h3 h4
          have hmv : (numF s).getD 0 = m := by rw [hm]; rfl
          refine ⟨Int × ByteArray × Int × Int, tokC, tok0, [(2, ⟨#[]⟩, m, (i : Int))], ⟨rfl, fun _ => rfl⟩, ⟨.refl _, .refl _, .int hmv, .refl _, trivial⟩, rfl, ?_⟩
          refine ⟨Int × ByteArray × Int × Int, tokC, tok0, o, [(2, ⟨#[]⟩, m, (i : Int))], 40, ⟨.refl _, .own ..⟩, fun _ => rfl, (by simp only [List.length_cons, List.length_nil]; omega), ?_⟩
          have hp := hgd.1
          exact ⟨(i + wordF (b.drop i), o ++ [(2, ⟨#[]⟩, m, (i : Int))], .c), ⟨by omega, by show (o ++ [_]).length ≤ i + wordF (b.drop i); rw [List.length_append]; simp only [List.length_cons, List.length_nil]; omega, by rw [List.append_assoc]; exact h3, h4⟩, by show b.length - (i + wordF (b.drop i)) < b.length - i; omega, ⟨rfl, rfl⟩, .refl _, .refl _, .refl _, trivial⟩
        · have hq : numF s = none := by
            have hq : (numF s).isSome = false := hq
            cases hc : numF s with
            | none => rfl
            | some m => rw [hc] at hq; cases hq
          rw [hq] at htok
          have e := scanI_bad i (b.drop i) hdl (by rw [hg]; exact hb) (by rw [← hse, htok])
          have e2 := stop e
          exact ⟨(show Sub _ (.tup [.own (Int × ByteArray × Int × Int) 4 tokC tok0 (scanF b).1 id, I (scanF b).2.1, I (scanF b).2.2]) by rw [e2]; exact .tup3 (.nilO ..) (.refl _) (.refl _)), rfl⟩
      · have hge : i = b.length := by have := dge h; omega
        rw [List.drop_of_length_le (by omega), scanI_nil] at h3 h4
        have e2 : scanF b = (o, 0, 0) := by rw [e0, ← h4, ← h3]; simp
        exact ⟨(show Sub _ (.tup [.own (Int × ByteArray × Int × Int) 4 tokC tok0 (scanF b).1 id, I (scanF b).2.1, I (scanF b).2.2]) by rw [e2]; exact .tup3 (.refl _) (.refl _) (.refl _)), rfl⟩
    · refine ⟨fun h => ?_, fun h => ?_⟩
      · have hlt : i < b.length := dlt h
        have hdl : 0 < (b.drop i).length := by rw [List.length_drop]; omega
        refine ⟨by omega, ?_⟩
        refine ⟨b.getD i 0, ⟨.refl _, trivial⟩, rfl, trivial, ?_⟩
        refine ⟨fun h => ?_, fun hb => ?_⟩
        · have h : isBlank (b.getD i 0) = true := h
          have e := scanI_blank i (b.drop i) hdl (by rw [hg]; exact h)
          rw [List.drop_drop] at e
          rw [e] at h3 h4
          exact ⟨(i + 1, o, .b), ⟨hlt, by show o.length ≤ i + 1; omega, h3, h4⟩, by show b.length - (i + 1) < b.length - i; omega, ⟨rfl, rfl⟩, .refl _, .refl _, .int hwj, trivial⟩
        have hb : isBlank (b.getD i 0) = false := hb
        refine ⟨by omega, ?_⟩
        refine ⟨b.getD i 0, ⟨.refl _, trivial⟩, rfl, trivial, ?_⟩
        refine ⟨fun hs => ?_, fun hs => ?_⟩
        · have hs : isSign (b.getD i 0) = true := hs
          have hw : wordF (b.drop i) = 1 := by unfold wordF; rw [if_neg (by omega), if_pos (by rw [hg]; exact hs)]
          have ht : (b.drop i).take 1 = [b.getD i 0] := by rw [len1 _ hdl, hg]
          have htk : tokenF [b.getD i 0] = ((3, txt [b.getD i 0], 0, 0), true) := tok_sign rfl hs
          have e := scanI_tok i (b.drop i) hdl (by rw [hg]; exact hb) (by rw [hw, ht, htk])
          rw [hw, ht, htk, List.drop_drop] at e
          rw [e] at h3 h4
          refine ⟨⟨by omega, by rw [hwj]; omega, by rw [hwj]; omega⟩, ?_⟩
          refine ⟨[b.getD i 0], (show Sub (.row UInt8 1 byteC 0 ((b.take (IntKind.i64.wrap ((i : Int) + 1)).toNat).drop (i : Int).toNat)) _ by rw [hwj, di]; show Sub (.row UInt8 1 byteC 0 ((b.take (i + 1)).drop i)) _; rw [cut_one b 0 i hlt]; exact .refl _), ?_⟩
          refine ⟨Int × ByteArray × Int × Int, tokC, tok0, [(3, txt [b.getD i 0], 0, (i : Int))], ⟨rfl, fun _ => rfl⟩, ⟨.refl _, .refl _, .refl _, .refl _, trivial⟩, rfl, ?_⟩
          refine ⟨Int × ByteArray × Int × Int, tokC, tok0, o, [(3, txt [b.getD i 0], 0, (i : Int))], 90, ⟨.refl _, .own ..⟩, fun _ => rfl, (by simp only [List.length_cons, List.length_nil]; omega), ?_⟩
          exact ⟨(i + 1, o ++ [(3, txt [b.getD i 0], 0, (i : Int))], .a), ⟨hlt, by rw [List.length_append]; simp only [List.length_cons, List.length_nil]; omega, by rw [List.append_assoc]; exact h3, h4⟩, by show b.length - (i + 1) < b.length - i; omega, ⟨rfl, rfl⟩, .refl _, .refl _, .int hwj, trivial⟩
        have hs : isSign (b.getD i 0) = false := hs
        have hw : wordF (b.drop i) = minus (b.drop i) + (((b.drop i).drop (minus (b.drop i))).takeWhile isAl).length := by unfold wordF; rw [if_neg (by omega), if_neg (by rw [hg, hs]; decide)]
        have hwl := wordF_le (b.drop i)
        have hdn : (b.drop i).length = b.length - i := List.length_drop ..
        refine ⟨Unit, fun _ => [(0, .row UInt8 1 byteC 0 b), (7, I ((i + minus (b.drop i) : Nat) : Int)), (5, .own (Int × ByteArray × Int × Int) 4 tokC tok0 o 90), (6, I i)], fun _ => [], fun _ => True, ?_, fun _ _ => ?_⟩
        · refine ⟨by omega, ?_⟩
          refine ⟨fun h => ?_, fun h => ?_⟩
          · have e : minus (b.drop i) = 1 := by
              unfold minus
              rw [if_pos]
              rw [hg]
              apply UInt8.toNat_inj.1
              have h : (((b.getD i 0).toNat : Int) == 45) = true := h
              have := beqT h
              show (b.getD i 0).toNat = 45
              omega
            exact ⟨(), trivial, ⟨rfl, rfl⟩, .refl _, .int (by rw [e]; exact hwj), .refl _, .refl _, trivial⟩
          · have e : minus (b.drop i) = 0 := by
              unfold minus
              rw [if_neg]
              rw [hg]
              intro c
              have h : (((b.getD i 0).toNat : Int) == 45) = false := h
              rw [c] at h
              exact absurd h (by decide)
            exact ⟨(), trivial, ⟨rfl, rfl⟩, .refl _, .int (by rw [e]; rfl), .refl _, .refl _, trivial⟩
        have hm : minus (b.drop i) ≤ 1 := by unfold minus; split <;> omega
        refine ⟨Unit, fun _ => [(0, .row UInt8 1 byteC 0 b), (7, I ((i + wordF (b.drop i) : Nat) : Int)), (5, .own (Int × ByteArray × Int × Int) 4 tokC tok0 o 90), (6, I i)], fun _ => [], fun _ => True, ?_, fun _ _ => ?_⟩
        · refine ⟨Nat, fun n => [(0, .row UInt8 1 byteC 0 b), (7, I ((i + n : Nat) : Int)), (5, .own (Int × ByteArray × Int × Int) 4 tokC tok0 o 90), (6, I i)], fun _ => [], fun n => minus (b.drop i) ≤ n ∧ n ≤ (b.drop i).length ∧ ∀ j, minus (b.drop i) ≤ j → j < n → isAl ((b.drop i).getD j 0) = true, fun n => (b.drop i).length - n, ⟨minus (b.drop i), ⟨Nat.le_refl _, by omega, fun j h1 h2 => by omega⟩, ⟨⟨rfl, rfl⟩, .refl _, .refl _, .refl _, .refl _, trivial⟩⟩, fun (n : Nat) hi => ?_⟩
          have k1 : minus (b.drop i) ≤ n := hi.1
          have k2 : n ≤ (b.drop i).length := hi.2.1
          have k3 : ∀ j, minus (b.drop i) ≤ j → j < n → isAl ((b.drop i).getD j 0) = true := hi.2.2
          clear hi
          have hwn : IntKind.i64.wrap (((i + n : Nat) : Int) + 1) = ((i + (n + 1) : Nat) : Int) := by rw [wrap_eq _ (by omega) (by omega)]; omega
          have fin : (n = (b.drop i).length ∨ isAl ((b.drop i).getD n 0) = false) → wordF (b.drop i) = n := fun h4 => by rw [hw]; exact tw_at isAl (b.drop i) _ n k1 k2 k3 h4
          have nx : isAl ((b.drop i).getD n 0) = true → ∀ j, minus (b.drop i) ≤ j → j < n + 1 → isAl ((b.drop i).getD j 0) = true := fun hb j q1 q2 => by
            rcases Nat.lt_succ_iff_lt_or_eq.1 q2 with q | rfl
            · exact k3 j q1 q
            · exact hb
          have da := drop_at b i n
          rw [da] at nx fin
          refine ⟨fun h => ?_, fun h => ?_⟩
          · have hln : i + n < b.length := by
              have h : decide (((i + n : Nat) : Int) < (b.length : Int)) = true := h
              exact dlt h
            refine ⟨by omega, ?_⟩
            refine ⟨b.getD (i + n) 0, ⟨.refl _, trivial⟩, rfl, trivial, ?_⟩
            refine ⟨fun h4 => ?_, fun h4 => ?_⟩
            · exact ⟨n + 1, ⟨by omega, by omega, nx (by simp only [isAl]; rw [show isLet (b.getD (i + n) 0) = true from h4]; rfl)⟩, by show (b.drop i).length - (n + 1) < (b.drop i).length - n; omega, ⟨rfl, rfl⟩, .refl _, .int hwn, .refl _, .refl _, trivial⟩
            · refine ⟨by omega, ?_⟩
              refine ⟨b.getD (i + n) 0, ⟨.refl _, trivial⟩, rfl, trivial, ?_⟩
              refine ⟨fun h5 => ?_, fun h5 => ?_⟩
              · exact ⟨n + 1, ⟨by omega, by omega, nx (by simp only [isAl]; rw [show isDig (b.getD (i + n) 0) = true from h5]; simp)⟩, by show (b.drop i).length - (n + 1) < (b.drop i).length - n; omega, ⟨rfl, rfl⟩, .refl _, .int hwn, .refl _, .refl _, trivial⟩
              · exact ⟨(), trivial, ⟨rfl, rfl⟩, .refl _, .int (by rw [fin (.inr (by simp only [isAl]; rw [show isLet (b.getD (i + n) 0) = false from h4, show isDig (b.getD (i + n) 0) = false from h5]; rfl))]), .refl _, .refl _, trivial⟩
          · have hln : b.length ≤ i + n := by
              have h : decide (((i + n : Nat) : Int) < (b.length : Int)) = false := h
              exact dge h
            exact ⟨(), trivial, ⟨rfl, rfl⟩, .refl _, .int (by rw [fin (.inl (by omega))]), .refl _, .refl _, trivial⟩
        have htk : (b.take (i + wordF (b.drop i))).drop i = (b.drop i).take (wordF (b.drop i)) := by
          rw [List.drop_take]; congr 1; omega
        refine ⟨⟨by omega, by omega, by omega⟩, ?_⟩
        refine Exists.elim (show ∃ s : List UInt8, s = (b.drop i).take (wordF (b.drop i)) from ⟨_, rfl⟩) fun s hse => ?_
        refine ⟨s, (show Sub (.row UInt8 1 byteC 0 ((b.take (i + wordF (b.drop i))).drop i)) _ by rw [htk, hse]; exact .refl _), ?_⟩
        have hsl : s.length ≤ b.length := by rw [hse, List.length_take]; omega
        have hsn : isSign (s.getD 0 0) = false := by
          rcases Nat.eq_zero_or_pos (wordF (b.drop i)) with z | z
          · rw [hse, z, List.take_zero]; decide
          · rw [hse, take_hd _ _ z, hg]; exact hs
        have htok := tok_nosign hsn
        have good : ∀ k, tokenF s = (k, true) → 0 < wordF (b.drop i) ∧ scanI i (b.drop i) = (setAt k i :: (scanI (i + wordF (b.drop i)) (b.drop (i + wordF (b.drop i)))).1, (scanI (i + wordF (b.drop i)) (b.drop (i + wordF (b.drop i)))).2) := fun k hk => by
          have h5 : (tokenF ((b.drop i).take (wordF (b.drop i)))).2 = true := by rw [← hse, hk]
          have e := scanI_tok i (b.drop i) hdl (by rw [hg]; exact hb) h5
          rw [List.drop_drop, ← hse, hk] at e
          exact ⟨word_pos h5, e⟩
        refine ⟨s, ⟨.refl _, trivial⟩, rfl, (show s.length ≤ 4611686018427387904 by omega), ?_⟩
        refine ⟨s, ⟨.refl _, trivial⟩, rfl, (show s.length ≤ 4611686018427387904 by omega), ?_⟩
        refine ⟨fun hn => ?_, fun hn => ?_⟩
        · have hn : nameF s = true := hn
          rw [if_pos hn] at htok
          have hgd := good _ htok
          have e := hgd.2
          rw [e] at h3 h4
          refine ⟨Int × ByteArray × Int × Int, tokC, tok0, [(1, txt s, 0, (i : Int))], ⟨rfl, fun _ => rfl⟩, ⟨.refl _, .refl _, .refl _, .refl _, trivial⟩, rfl, ?_⟩
          refine ⟨Int × ByteArray × Int × Int, tokC, tok0, o, [(1, txt s, 0, (i : Int))], 90, ⟨.refl _, .own ..⟩, fun _ => rfl, (by simp only [List.length_cons, List.length_nil]; omega), ?_⟩
          have hp := hgd.1
          exact ⟨(i + wordF (b.drop i), o ++ [(1, txt s, 0, (i : Int))], .b), ⟨by omega, by show (o ++ [_]).length ≤ i + wordF (b.drop i); rw [List.length_append]; simp only [List.length_cons, List.length_nil]; omega, by rw [List.append_assoc]; exact h3, h4⟩, by show b.length - (i + wordF (b.drop i)) < b.length - i; omega, ⟨rfl, rfl⟩, .refl _, .refl _, .refl _, trivial⟩
        have hn : nameF s = false := hn
        rw [if_neg (by rw [hn]; decide)] at htok
        refine ⟨fun hq => ?_, fun hq => ?_⟩
        · have hq : (numF s).isSome = true := hq
          refine Exists.elim (Option.isSome_iff_exists.1 hq) fun m hm => ?_
          rw [hm] at htok
          have hgd := good _ htok
          have e := hgd.2
          rw [e] at h3 h4
          have hmv : (numF s).getD 0 = m := by rw [hm]; rfl
          refine ⟨Int × ByteArray × Int × Int, tokC, tok0, [(2, ⟨#[]⟩, m, (i : Int))], ⟨rfl, fun _ => rfl⟩, ⟨.refl _, .refl _, .int hmv, .refl _, trivial⟩, rfl, ?_⟩
          refine ⟨Int × ByteArray × Int × Int, tokC, tok0, o, [(2, ⟨#[]⟩, m, (i : Int))], 90, ⟨.refl _, .own ..⟩, fun _ => rfl, (by simp only [List.length_cons, List.length_nil]; omega), ?_⟩
          have hp := hgd.1
          exact ⟨(i + wordF (b.drop i), o ++ [(2, ⟨#[]⟩, m, (i : Int))], .c), ⟨by omega, by show (o ++ [_]).length ≤ i + wordF (b.drop i); rw [List.length_append]; simp only [List.length_cons, List.length_nil]; omega, by rw [List.append_assoc]; exact h3, h4⟩, by show b.length - (i + wordF (b.drop i)) < b.length - i; omega, ⟨rfl, rfl⟩, .refl _, .refl _, .refl _, trivial⟩
        · have hq : numF s = none := by
            have hq : (numF s).isSome = false := hq
            cases hc : numF s with
            | none => rfl
            | some m => rw [hc] at hq; cases hq
          rw [hq] at htok
          have e := scanI_bad i (b.drop i) hdl (by rw [hg]; exact hb) (by rw [← hse, htok])
          have e2 := stop e
          exact ⟨(show Sub _ (.tup [.own (Int × ByteArray × Int × Int) 4 tokC tok0 (scanF b).1 id, I (scanF b).2.1, I (scanF b).2.2]) by rw [e2]; exact .tup3 (.nilO ..) (.refl _) (.refl _)), rfl⟩
      · have hge : i = b.length := by have := dge h; omega
        rw [List.drop_of_length_le (by omega), scanI_nil] at h3 h4
        have e2 : scanF b = (o, 0, 0) := by rw [e0, ← h4, ← h3]; simp
        exact ⟨(show Sub _ (.tup [.own (Int × ByteArray × Int × Int) 4 tokC tok0 (scanF b).1 id, I (scanF b).2.1, I (scanF b).2.2]) by rw [e2]; exact .tup3 (.refl _) (.refl _) (.refl _)), rfl⟩
    · refine ⟨fun h => ?_, fun h => ?_⟩
      · have hlt : i < b.length := dlt h
        have hdl : 0 < (b.drop i).length := by rw [List.length_drop]; omega
        refine ⟨by omega, ?_⟩
        refine ⟨b.getD i 0, ⟨.refl _, trivial⟩, rfl, trivial, ?_⟩
        refine ⟨fun h => ?_, fun hb => ?_⟩
        · have h : isBlank (b.getD i 0) = true := h
          have e := scanI_blank i (b.drop i) hdl (by rw [hg]; exact h)
          rw [List.drop_drop] at e
          rw [e] at h3 h4
          exact ⟨(i + 1, o, .c), ⟨hlt, by show o.length ≤ i + 1; omega, h3, h4⟩, by show b.length - (i + 1) < b.length - i; omega, ⟨rfl, rfl⟩, .refl _, .refl _, .int hwj, trivial⟩
        have hb : isBlank (b.getD i 0) = false := hb
        refine ⟨by omega, ?_⟩
        refine ⟨b.getD i 0, ⟨.refl _, trivial⟩, rfl, trivial, ?_⟩
        refine ⟨fun hs => ?_, fun hs => ?_⟩
        · have hs : isSign (b.getD i 0) = true := hs
          have hw : wordF (b.drop i) = 1 := by unfold wordF; rw [if_neg (by omega), if_pos (by rw [hg]; exact hs)]
          have ht : (b.drop i).take 1 = [b.getD i 0] := by rw [len1 _ hdl, hg]
          have htk : tokenF [b.getD i 0] = ((3, txt [b.getD i 0], 0, 0), true) := tok_sign rfl hs
          have e := scanI_tok i (b.drop i) hdl (by rw [hg]; exact hb) (by rw [hw, ht, htk])
          rw [hw, ht, htk, List.drop_drop] at e
          rw [e] at h3 h4
          refine ⟨⟨by omega, by rw [hwj]; omega, by rw [hwj]; omega⟩, ?_⟩
          refine ⟨[b.getD i 0], (show Sub (.row UInt8 1 byteC 0 ((b.take (IntKind.i64.wrap ((i : Int) + 1)).toNat).drop (i : Int).toNat)) _ by rw [hwj, di]; show Sub (.row UInt8 1 byteC 0 ((b.take (i + 1)).drop i)) _; rw [cut_one b 0 i hlt]; exact .refl _), ?_⟩
          refine ⟨Int × ByteArray × Int × Int, tokC, tok0, [(3, txt [b.getD i 0], 0, (i : Int))], ⟨rfl, fun _ => rfl⟩, ⟨.refl _, .refl _, .refl _, .refl _, trivial⟩, rfl, ?_⟩
          refine ⟨Int × ByteArray × Int × Int, tokC, tok0, o, [(3, txt [b.getD i 0], 0, (i : Int))], 98, ⟨.refl _, .own ..⟩, fun _ => rfl, (by simp only [List.length_cons, List.length_nil]; omega), ?_⟩
          exact ⟨(i + 1, o ++ [(3, txt [b.getD i 0], 0, (i : Int))], .a), ⟨hlt, by rw [List.length_append]; simp only [List.length_cons, List.length_nil]; omega, by rw [List.append_assoc]; exact h3, h4⟩, by show b.length - (i + 1) < b.length - i; omega, ⟨rfl, rfl⟩, .refl _, .refl _, .int hwj, trivial⟩
        have hs : isSign (b.getD i 0) = false := hs
        have hw : wordF (b.drop i) = minus (b.drop i) + (((b.drop i).drop (minus (b.drop i))).takeWhile isAl).length := by unfold wordF; rw [if_neg (by omega), if_neg (by rw [hg, hs]; decide)]
        have hwl := wordF_le (b.drop i)
        have hdn : (b.drop i).length = b.length - i := List.length_drop ..
        refine ⟨Unit, fun _ => [(0, .row UInt8 1 byteC 0 b), (7, I ((i + minus (b.drop i) : Nat) : Int)), (5, .own (Int × ByteArray × Int × Int) 4 tokC tok0 o 98), (6, I i)], fun _ => [], fun _ => True, ?_, fun _ _ => ?_⟩
        · refine ⟨by omega, ?_⟩
          refine ⟨fun h => ?_, fun h => ?_⟩
          · have e : minus (b.drop i) = 1 := by
              unfold minus
              rw [if_pos]
              rw [hg]
              apply UInt8.toNat_inj.1
              have h : (((b.getD i 0).toNat : Int) == 45) = true := h
              have := beqT h
              show (b.getD i 0).toNat = 45
              omega
            exact ⟨(), trivial, ⟨rfl, rfl⟩, .refl _, .int (by rw [e]; exact hwj), .refl _, .refl _, trivial⟩
          · have e : minus (b.drop i) = 0 := by
              unfold minus
              rw [if_neg]
              rw [hg]
              intro c
              have h : (((b.getD i 0).toNat : Int) == 45) = false := h
              rw [c] at h
              exact absurd h (by decide)
            exact ⟨(), trivial, ⟨rfl, rfl⟩, .refl _, .int (by rw [e]; rfl), .refl _, .refl _, trivial⟩
        have hm : minus (b.drop i) ≤ 1 := by unfold minus; split <;> omega
        refine ⟨Unit, fun _ => [(0, .row UInt8 1 byteC 0 b), (7, I ((i + wordF (b.drop i) : Nat) : Int)), (5, .own (Int × ByteArray × Int × Int) 4 tokC tok0 o 98), (6, I i)], fun _ => [], fun _ => True, ?_, fun _ _ => ?_⟩
        · refine ⟨Nat, fun n => [(0, .row UInt8 1 byteC 0 b), (7, I ((i + n : Nat) : Int)), (5, .own (Int × ByteArray × Int × Int) 4 tokC tok0 o 98), (6, I i)], fun _ => [], fun n => minus (b.drop i) ≤ n ∧ n ≤ (b.drop i).length ∧ ∀ j, minus (b.drop i) ≤ j → j < n → isAl ((b.drop i).getD j 0) = true, fun n => (b.drop i).length - n, ⟨minus (b.drop i), ⟨Nat.le_refl _, by omega, fun j h1 h2 => by omega⟩, ⟨⟨rfl, rfl⟩, .refl _, .refl _, .refl _, .refl _, trivial⟩⟩, fun (n : Nat) hi => ?_⟩
          have k1 : minus (b.drop i) ≤ n := hi.1
          have k2 : n ≤ (b.drop i).length := hi.2.1
          have k3 : ∀ j, minus (b.drop i) ≤ j → j < n → isAl ((b.drop i).getD j 0) = true := hi.2.2
          clear hi
          have hwn : IntKind.i64.wrap (((i + n : Nat) : Int) + 1) = ((i + (n + 1) : Nat) : Int) := by rw [wrap_eq _ (by omega) (by omega)]; omega
          have fin : (n = (b.drop i).length ∨ isAl ((b.drop i).getD n 0) = false) → wordF (b.drop i) = n := fun h4 => by rw [hw]; exact tw_at isAl (b.drop i) _ n k1 k2 k3 h4
          have nx : isAl ((b.drop i).getD n 0) = true → ∀ j, minus (b.drop i) ≤ j → j < n + 1 → isAl ((b.drop i).getD j 0) = true := fun hb j q1 q2 => by
            rcases Nat.lt_succ_iff_lt_or_eq.1 q2 with q | rfl
            · exact k3 j q1 q
            · exact hb
          have da := drop_at b i n
          rw [da] at nx fin
          refine ⟨fun h => ?_, fun h => ?_⟩
          · have hln : i + n < b.length := by
              have h : decide (((i + n : Nat) : Int) < (b.length : Int)) = true := h
              exact dlt h
            refine ⟨by omega, ?_⟩
            refine ⟨b.getD (i + n) 0, ⟨.refl _, trivial⟩, rfl, trivial, ?_⟩
            refine ⟨fun h4 => ?_, fun h4 => ?_⟩
            · exact ⟨n + 1, ⟨by omega, by omega, nx (by simp only [isAl]; rw [show isLet (b.getD (i + n) 0) = true from h4]; rfl)⟩, by show (b.drop i).length - (n + 1) < (b.drop i).length - n; omega, ⟨rfl, rfl⟩, .refl _, .int hwn, .refl _, .refl _, trivial⟩
            · refine ⟨by omega, ?_⟩
              refine ⟨b.getD (i + n) 0, ⟨.refl _, trivial⟩, rfl, trivial, ?_⟩
              refine ⟨fun h5 => ?_, fun h5 => ?_⟩
              · exact ⟨n + 1, ⟨by omega, by omega, nx (by simp only [isAl]; rw [show isDig (b.getD (i + n) 0) = true from h5]; simp)⟩, by show (b.drop i).length - (n + 1) < (b.drop i).length - n; omega, ⟨rfl, rfl⟩, .refl _, .int hwn, .refl _, .refl _, trivial⟩
              · exact ⟨(), trivial, ⟨rfl, rfl⟩, .refl _, .int (by rw [fin (.inr (by simp only [isAl]; rw [show isLet (b.getD (i + n) 0) = false from h4, show isDig (b.getD (i + n) 0) = false from h5]; rfl))]), .refl _, .refl _, trivial⟩
          · have hln : b.length ≤ i + n := by
              have h : decide (((i + n : Nat) : Int) < (b.length : Int)) = false := h
              exact dge h
            exact ⟨(), trivial, ⟨rfl, rfl⟩, .refl _, .int (by rw [fin (.inl (by omega))]), .refl _, .refl _, trivial⟩
        have htk : (b.take (i + wordF (b.drop i))).drop i = (b.drop i).take (wordF (b.drop i)) := by
          rw [List.drop_take]; congr 1; omega
        refine ⟨⟨by omega, by omega, by omega⟩, ?_⟩
        refine Exists.elim (show ∃ s : List UInt8, s = (b.drop i).take (wordF (b.drop i)) from ⟨_, rfl⟩) fun s hse => ?_
        refine ⟨s, (show Sub (.row UInt8 1 byteC 0 ((b.take (i + wordF (b.drop i))).drop i)) _ by rw [htk, hse]; exact .refl _), ?_⟩
        have hsl : s.length ≤ b.length := by rw [hse, List.length_take]; omega
        have hsn : isSign (s.getD 0 0) = false := by
          rcases Nat.eq_zero_or_pos (wordF (b.drop i)) with z | z
          · rw [hse, z, List.take_zero]; decide
          · rw [hse, take_hd _ _ z, hg]; exact hs
        have htok := tok_nosign hsn
        have good : ∀ k, tokenF s = (k, true) → 0 < wordF (b.drop i) ∧ scanI i (b.drop i) = (setAt k i :: (scanI (i + wordF (b.drop i)) (b.drop (i + wordF (b.drop i)))).1, (scanI (i + wordF (b.drop i)) (b.drop (i + wordF (b.drop i)))).2) := fun k hk => by
          have h5 : (tokenF ((b.drop i).take (wordF (b.drop i)))).2 = true := by rw [← hse, hk]
          have e := scanI_tok i (b.drop i) hdl (by rw [hg]; exact hb) h5
          rw [List.drop_drop, ← hse, hk] at e
          exact ⟨word_pos h5, e⟩
        refine ⟨s, ⟨.refl _, trivial⟩, rfl, (show s.length ≤ 4611686018427387904 by omega), ?_⟩
        refine ⟨s, ⟨.refl _, trivial⟩, rfl, (show s.length ≤ 4611686018427387904 by omega), ?_⟩
        refine ⟨fun hn => ?_, fun hn => ?_⟩
        · have hn : nameF s = true := hn
          rw [if_pos hn] at htok
          have hgd := good _ htok
          have e := hgd.2
          rw [e] at h3 h4
          refine ⟨Int × ByteArray × Int × Int, tokC, tok0, [(1, txt s, 0, (i : Int))], ⟨rfl, fun _ => rfl⟩, ⟨.refl _, .refl _, .refl _, .refl _, trivial⟩, rfl, ?_⟩
          refine ⟨Int × ByteArray × Int × Int, tokC, tok0, o, [(1, txt s, 0, (i : Int))], 98, ⟨.refl _, .own ..⟩, fun _ => rfl, (by simp only [List.length_cons, List.length_nil]; omega), ?_⟩
          have hp := hgd.1
          exact ⟨(i + wordF (b.drop i), o ++ [(1, txt s, 0, (i : Int))], .b), ⟨by omega, by show (o ++ [_]).length ≤ i + wordF (b.drop i); rw [List.length_append]; simp only [List.length_cons, List.length_nil]; omega, by rw [List.append_assoc]; exact h3, h4⟩, by show b.length - (i + wordF (b.drop i)) < b.length - i; omega, ⟨rfl, rfl⟩, .refl _, .refl _, .refl _, trivial⟩
        have hn : nameF s = false := hn
        rw [if_neg (by rw [hn]; decide)] at htok
        refine ⟨fun hq => ?_, fun hq => ?_⟩
        · have hq : (numF s).isSome = true := hq
          refine Exists.elim (Option.isSome_iff_exists.1 hq) fun m hm => ?_
          rw [hm] at htok
          have hgd := good _ htok
          have e := hgd.2
          rw [e] at h3 h4
          have hmv : (numF s).getD 0 = m := by rw [hm]; rfl
          refine ⟨Int × ByteArray × Int × Int, tokC, tok0, [(2, ⟨#[]⟩, m, (i : Int))], ⟨rfl, fun _ => rfl⟩, ⟨.refl _, .refl _, .int hmv, .refl _, trivial⟩, rfl, ?_⟩
          refine ⟨Int × ByteArray × Int × Int, tokC, tok0, o, [(2, ⟨#[]⟩, m, (i : Int))], 98, ⟨.refl _, .own ..⟩, fun _ => rfl, (by simp only [List.length_cons, List.length_nil]; omega), ?_⟩
          have hp := hgd.1
          exact ⟨(i + wordF (b.drop i), o ++ [(2, ⟨#[]⟩, m, (i : Int))], .c), ⟨by omega, by show (o ++ [_]).length ≤ i + wordF (b.drop i); rw [List.length_append]; simp only [List.length_cons, List.length_nil]; omega, by rw [List.append_assoc]; exact h3, h4⟩, by show b.length - (i + wordF (b.drop i)) < b.length - i; omega, ⟨rfl, rfl⟩, .refl _, .refl _, .refl _, trivial⟩
        · have hq : numF s = none := by
            have hq : (numF s).isSome = false := hq
            cases hc : numF s with
            | none => rfl
            | some m => rw [hc] at hq; cases hq
          rw [hq] at htok
          have e := scanI_bad i (b.drop i) hdl (by rw [hg]; exact hb) (by rw [← hse, htok])
          have e2 := stop e
          exact ⟨(show Sub _ (.tup [.own (Int × ByteArray × Int × Int) 4 tokC tok0 (scanF b).1 id, I (scanF b).2.1, I (scanF b).2.2]) by rw [e2]; exact .tup3 (.nilO ..) (.refl _) (.refl _)), rfl⟩
      · have hge : i = b.length := by have := dge h; omega
        rw [List.drop_of_length_le (by omega), scanI_nil] at h3 h4
        have e2 : scanF b = (o, 0, 0) := by rw [e0, ← h4, ← h3]; simp
        exact ⟨(show Sub _ (.tup [.own (Int × ByteArray × Int × Int) 4 tokC tok0 (scanF b).1 id, I (scanF b).2.1, I (scanF b).2.2]) by rw [e2]; exact .tup3 (.refl _) (.refl _) (.refl _)), rfl⟩
end Go.Proofs.YtimhbimpaiiceaaGreatDoor.Ax
/- The reference's parser: programs. -/
set_option linter.unusedVariables false
set_option linter.unusedSimpArgs false
namespace Go.Proofs.YtimhbimpaiiceaaGreatDoor.Ax
open Go Go.RowKit
namespace Rs
theorem rPrgL_fwd : ∀ (f : Nat) (r : Rs) (c : List Cls), Fwd r (rPrgL f r c).2
  | 0, r, c => .refl _
  | f + 1, r, c => by
    rw [rPrgL]
    split
    · split
      · exact fail_fwd _ _
      · exact (rClass_fwd r).trans (rPrgL_fwd f _ _)
    · exact .refl _
theorem rClass_on (r : Rs) : r.rClass.2.e ≠ 0 ∨ r.i < r.rClass.2.i :=
  on_fwd (on_fwd (cl1_on r 0) ((((fresh_fwd _).trans (ex1_fwd _ _)).trans (ex2_fwd _ _ _)).trans (want_fwd _ _))) ((rClsL_fwd _ _ _).trans (want_fwd _ _))
end Rs
theorem wd_num {t : Tok} (h : wdOk t = true) (h2 : t.1 = 2) : t.2.1 = noS := by
  have e := wd_tok h
  have hc := tok_cases (w := wdS t) (by rw [e])
  rcases hc with ⟨m, e1, hm⟩ | hn | ⟨h3, h4⟩
  · rw [e1, tok_num hm] at e
    exact (congrArg (fun x => x.1.2.1) e).symm
  · rw [tok_name hn] at e
    have : (1 : Int) = t.1 := congrArg (fun x => x.1.1) e
    omega
  · rw [tok_sign h3 h4] at e
    have : (3 : Int) = t.1 := congrArg (fun x => x.1.1) e
    omega
abbrev rprogC : Ctr := { A := List UInt8, enc := fun l => [.row UInt8 1 byteC 0 l], dom := fun l => l.length ≤ 1000000, res := fun l _ => .tup [.agg [prgR (rParse l).1], I (rParse l).2.1, I (rParse l).2.2] }
set_option maxRecDepth 100000 in
set_option maxHeartbeats 4000000 in
theorem rprog_ok : CtrSound Tryz.prog 6 rprogC :=
  ctr_of_ax (env_okB tys_ok (eqs := []) trivial (cs := [(18, rscanC), (19, uisC)]) ⟨rscan_ok, uis_ok, trivial⟩ (bs := [(20, ubadC), (21, uclassC)]) ⟨ubad_ok, uclass_ok, trivial⟩ (qu := [9, 52]) (cut := [10]) (sq := [510075, 510078, 510082, 510089, 520002, 710023])) mixed _ Tryz.func6 (by kernel_rfl) rfl (fun _ _ => Nat.le_of_ble_eq_true rfl) fun (l : List UInt8) id hd => by
    have hd : l.length ≤ 1000000 := hd
    obtain ⟨nFi, nSt, nMe, nFu, nCl, nIf⟩ := Rs.key_ne
    have hsc := scan_count l
    refine ⟨l, ⟨.refl _, trivial⟩, rfl, (show l.length ≤ 4611686018427387904 by omega), ?_⟩
    have nilP : ∀ s : SV, s = .val (.slice none 0 0) → Sub (.agg [s]) (.agg [prgR []]) := fun s h => by
      rw [h]; exact .agg _ _ rfl fun j hj => by match j, hj with | 0, _ => exact .nil ..
    refine ⟨fun h => ?_, fun h => ?_⟩
    · have h0 : (scanF l).2.2 ≠ 0 := by have h : ((scanF l).2.2 != 0) = true := h; simpa using h
      have e : rParse l = ([], (scanF l).2.1, (scanF l).2.2) := by unfold rParse; rw [if_neg h0]
      exact ⟨(show Sub _ (.tup [.agg [prgR (rParse l).1], I (rParse l).2.1, I (rParse l).2.2]) by rw [e]; exact .tup3 (nilP _ rfl) (.refl _) (.refl _)), rfl⟩
    have h0 : (scanF l).2.2 = 0 := by have h : ((scanF l).2.2 != 0) = false := h; simpa using h
    have hr : rokU (parse0 l) := ⟨⟨by show (scanF l).1.length ≤ 1000000; omega, Nat.zero_le _⟩, fun t ht h2 => wd_num (List.all_eq_true.1 (scan_wd l) t ht) h2⟩
    obtain ⟨R, eR⟩ : ∃ R, R = Rs.rPrgL ((scanF l).1.length + 2) (parse0 l) [] := ⟨_, rfl⟩
    have gR : Fwd (parse0 l) R.2 := by rw [eR]; exact Rs.rPrgL_fwd _ _ _
    refine ⟨Unit, fun _ => [(0, .row UInt8 1 byteC 0 l), (2, .box 2 0), (5, .row Tok 4 tokC tok0 (scanF l).1), (8, .box 23 0), (9, .box 9 0)], fun _ => [(2, [prgR []]), (9, [prgR R.1]), (23, rsR R.2)], fun _ => True, ?_, fun _ _ => ?_⟩
    · refine ⟨Nat × Rs × List Cls, fun _ => [(0, .row UInt8 1 byteC 0 l), (2, .box 2 0), (5, .row Tok 4 tokC tok0 (scanF l).1), (8, .box 23 0), (9, .box 9 0)], fun x => [(2, [prgR []]), (9, [.own Cls 6 clsC cls0 x.2.2 57]), (23, rsR x.2.1)],
        fun x => Rs.rPrgL x.1 x.2.1 x.2.2 = R ∧ x.2.1.need ≤ x.1 ∧ Fwd (parse0 l) x.2.1 ∧ x.2.2.length + x.1 ≤ (scanF l).1.length + 2, fun x => x.1,
        ⟨((scanF l).1.length + 2, parse0 l, []), ⟨eR.symm, Rs.need_len (.refl (parse0 l)), .refl _, (by show 0 + _ ≤ _; omega)⟩, ⟨⟨rfl, rfl⟩, .refl _, .ownRow rfl, .refl _, .refl _, .refl _, ⟨.ownRow rfl, .refl _, .refl _, trivial⟩, ⟨.nilO .., trivial⟩, ⟨.nil .., trivial⟩, trivial⟩⟩, fun ((k, q, out) : Nat × Rs × List Cls) hx => ?_⟩
      obtain ⟨hx1, hx2, hx3, hx4⟩ : Rs.rPrgL k q out = R ∧ q.need ≤ k ∧ Fwd (parse0 l) q ∧ out.length + k ≤ (scanF l).1.length + 2 := hx
      obtain ⟨k, rfl⟩ : ∃ k', k = k' + 1 := ⟨k - 1, by have := Rs.need_pos q; omega⟩
      have hq : rokU q := rokU_fwd hr hx3
      have hqL : q.L.length = (scanF l).1.length := by rw [hx3.L]; rfl
      rw [Rs.rPrgL] at hx1
      have stop : ¬ (q.e = 0 ∧ q.i < q.L.length) → (out, q) = R := fun h => by rw [if_neg h] at hx1; exact hx1
      refine ⟨fun h => ?_, fun h => ?_⟩
      · have h1 : q.e = 0 := eqT h
        refine ⟨fun h => ?_, fun h => ?_⟩
        · have h2 : q.i < q.L.length := by rw [hqL]; exact dlt h
          rw [if_pos ⟨h1, h2⟩] at hx1
          have bad : out.length = 10 ∧ (q.is wClass = true ∨ q.is wInterface = true) → (out, q.fail 2) = R := fun c => by rw [if_pos c] at hx1; exact hx1
          have hcall : ¬ (out.length = 10 ∧ (q.is wClass = true ∨ q.is wInterface = true)) → Rs.rPrgL k q.rClass.2 (out ++ [q.rClass.1]) = R := fun c => by rw [if_neg c] at hx1; exact hx1
          have hf := Rs.rClass_fwd q
          have hn := Rs.need_lt ⟨h1, h2⟩ hf (Rs.rClass_on q)
          refine ⟨fun h => ?_, fun h => ?_⟩
          · have h3 : out.length = 10 := by have := of_decide_eq_true (show decide ((out.length : Int) = 10) = true from h); omega
            refine ⟨(q, wClass), ⟨.refl _, .str rfl, trivial⟩, rfl, ⟨hq, nCl⟩, ?_⟩
            refine ⟨fun h => ?_, fun h => ?_⟩
            · have hE0 := bad ⟨h3, .inl h⟩
              have hE : q.fail 2 = R.2 := by rw [← hE0]
              refine ⟨by kernel_rfl, ?_⟩
              refine ⟨(q, 2), ⟨.refl _, .refl _, trivial⟩, ⟨⟨rfl, .refl _, .refl _, .refl _, trivial⟩, trivial⟩, ⟨hq, trivial⟩, ?_⟩
              exact ⟨(), trivial, ⟨rfl, rfl⟩, .refl _, .refl _, .refl _, .refl _, .refl _, ⟨.rowEq (rL hE :), .int (rI hE :), .int (rE hE :), trivial⟩, ⟨.ownRow (by rw [← hE0]), trivial⟩, ⟨.refl _, trivial⟩, trivial⟩
            have c1 : q.is wClass = false := h
            refine ⟨(q, wInterface), ⟨.refl _, .str rfl, trivial⟩, rfl, ⟨hq, nIf⟩, ?_⟩
            refine ⟨fun h => ?_, fun h => ?_⟩
            · have hE0 := bad ⟨h3, .inr h⟩
              have hE : q.fail 2 = R.2 := by rw [← hE0]
              refine ⟨by kernel_rfl, ?_⟩
              refine ⟨(q, 2), ⟨.refl _, .refl _, trivial⟩, ⟨⟨rfl, .refl _, .refl _, .refl _, trivial⟩, trivial⟩, ⟨hq, trivial⟩, ?_⟩
              exact ⟨(), trivial, ⟨rfl, rfl⟩, .refl _, .refl _, .refl _, .refl _, .refl _, ⟨.rowEq (rL hE :), .int (rI hE :), .int (rE hE :), trivial⟩, ⟨.ownRow (by rw [← hE0]), trivial⟩, ⟨.refl _, trivial⟩, trivial⟩
            have c2 : q.is wInterface = false := h
            have hgo := hcall (fun c => c.2.elim (fun c => by rw [c1] at c; cases c) (fun c => by rw [c2] at c; cases c))
            refine ⟨by kernel_rfl, ?_⟩
            refine ⟨by kernel_rfl, ?_⟩
            refine ⟨(q, ()), ⟨.refl _, trivial⟩, ⟨⟨rfl, .refl _, .refl _, .refl _, trivial⟩, trivial⟩, ⟨hq, trivial⟩, ?_⟩
            refine ⟨Cls, clsC, cls0, [q.rClass.1], ⟨rfl, fun _ => rfl⟩, ⟨.refl _, .refl _, .refl _, .refl _, .refl _, .refl _, trivial⟩, rfl, ?_⟩
            refine ⟨Cls, clsC, cls0, out, [q.rClass.1], 57, ⟨.refl _, .own ..⟩, fun _ => rfl, (by show (out.length + 1) * 112 ≤ 140737488355328; omega), ?_⟩
            exact ⟨(k, q.rClass.2, out ++ [q.rClass.1]), ⟨hgo, (show q.rClass.2.need ≤ k by omega), hx3.trans hf, (show (out ++ [q.rClass.1]).length + k ≤ (scanF l).1.length + 2 by simp; omega)⟩, Nat.lt_succ_self _, ⟨rfl, rfl⟩, .refl _, .refl _, .refl _, .refl _, .refl _, ⟨.refl _, .refl _, .refl _, trivial⟩, ⟨.refl _, trivial⟩, ⟨.refl _, trivial⟩, trivial⟩
          · have h3 : ¬ out.length = 10 := by have := of_decide_eq_false (show decide ((out.length : Int) = 10) = false from h); omega
            have hgo := hcall (fun c => h3 c.1)
            refine ⟨by kernel_rfl, ?_⟩
            refine ⟨by kernel_rfl, ?_⟩
            refine ⟨(q, ()), ⟨.refl _, trivial⟩, ⟨⟨rfl, .refl _, .refl _, .refl _, trivial⟩, trivial⟩, ⟨hq, trivial⟩, ?_⟩
            refine ⟨Cls, clsC, cls0, [q.rClass.1], ⟨rfl, fun _ => rfl⟩, ⟨.refl _, .refl _, .refl _, .refl _, .refl _, .refl _, trivial⟩, rfl, ?_⟩
            refine ⟨Cls, clsC, cls0, out, [q.rClass.1], 57, ⟨.refl _, .own ..⟩, fun _ => rfl, (by show (out.length + 1) * 112 ≤ 140737488355328; omega), ?_⟩
            exact ⟨(k, q.rClass.2, out ++ [q.rClass.1]), ⟨hgo, (show q.rClass.2.need ≤ k by omega), hx3.trans hf, (show (out ++ [q.rClass.1]).length + k ≤ (scanF l).1.length + 2 by simp; omega)⟩, Nat.lt_succ_self _, ⟨rfl, rfl⟩, .refl _, .refl _, .refl _, .refl _, .refl _, ⟨.refl _, .refl _, .refl _, trivial⟩, ⟨.refl _, trivial⟩, ⟨.refl _, trivial⟩, trivial⟩
        · have h2 : ¬ q.i < q.L.length := by rw [hqL]; have := dge (show decide ((q.i : Int) < ((scanF l).1.length : Int)) = false from h); omega
          have hE0 := stop (fun c => h2 c.2)
          have hE : q = R.2 := by rw [← hE0]
          exact ⟨(), trivial, ⟨rfl, rfl⟩, .refl _, .refl _, .refl _, .refl _, .refl _, ⟨.rowEq (rL hE :), .int (rI hE :), .int (rE hE :), trivial⟩, ⟨.ownRow (by rw [← hE0]), trivial⟩, ⟨.refl _, trivial⟩, trivial⟩
      · have h1 : ¬ q.e = 0 := eqF h
        have hE0 := stop (fun c => h1 c.1)
        have hE : q = R.2 := by rw [← hE0]
        exact ⟨(), trivial, ⟨rfl, rfl⟩, .refl _, .refl _, .refl _, .refl _, .refl _, ⟨.rowEq (rL hE :), .int (rI hE :), .int (rE hE :), trivial⟩, ⟨.ownRow (by rw [← hE0]), trivial⟩, ⟨.refl _, trivial⟩, trivial⟩
    have hRL : R.2.L = (scanF l).1 := gR.L
    refine ⟨fun h => ?_, fun h => ?_⟩
    · have h1 : R.2.e ≠ 0 := by have h : (R.2.e != 0) = true := h; simpa using h
      refine ⟨fun h => ?_, fun h => ?_⟩
      · have h2 : R.2.i < (scanF l).1.length := dlt h
        have e : rParse l = ([], ((scanF l).1.getD R.2.i tok0).2.2.2, R.2.e) := by unfold rParse; rw [if_pos h0, ← eR, if_neg h1, if_pos h2]
        refine ⟨by kernel_rfl, ?_⟩
        refine ⟨(show 0 ≤ (R.2.i : Int) ∧ (R.2.i : Int) < ((scanF l).1.length : Int) by omega), ?_⟩
        exact ⟨(show Sub _ (.tup [.agg [prgR (rParse l).1], I (rParse l).2.1, I (rParse l).2.2]) by rw [e]; exact .tup3 (nilP _ rfl) (.refl _) (.refl _)), rfl⟩
      · have h2 : ¬ R.2.i < (scanF l).1.length := by have := dge (show decide ((R.2.i : Int) < ((scanF l).1.length : Int)) = false from h); omega
        have e : rParse l = ([], (l.length : Int), R.2.e) := by unfold rParse; rw [if_pos h0, ← eR, if_neg h1, if_neg h2]
        refine ⟨by kernel_rfl, ?_⟩
        exact ⟨(show Sub _ (.tup [.agg [prgR (rParse l).1], I (rParse l).2.1, I (rParse l).2.2]) by rw [e]; exact .tup3 (nilP _ rfl) (.refl _) (.refl _)), rfl⟩
    · have h1 : R.2.e = 0 := by have h : (R.2.e != 0) = false := h; simpa using h
      have e : rParse l = (R.1, 0, 0) := by unfold rParse; rw [if_pos h0, ← eR, if_pos h1]
      exact ⟨(show Sub _ (.tup [.agg [prgR (rParse l).1], I (rParse l).2.1, I (rParse l).2.2]) by rw [e]; exact .refl _), rfl⟩
end Go.Proofs.YtimhbimpaiiceaaGreatDoor.Ax
/- Layer parse: ParseExact. -/
set_option linter.unusedVariables false
set_option linter.unusedSimpArgs false
namespace Go.Proofs.YtimhbimpaiiceaaGreatDoor.Ax
open Go Go.RowKit
def ParseExact : Ctr := { A := List UInt8 × ByteArray × Int, enc := fun x => [.row UInt8 1 byteC 0 x.1, S x.2.1, I x.2.2], dom := fun _ => True, res := fun _ _ => .tt, gl := tabP }
set_option maxRecDepth 100000 in
set_option maxHeartbeats 4000000 in
theorem ParseExact_ok : CtrSound Tryz.prog 3 ParseExact :=
  ctr_of_ax (env_okB tys_ok (eqs := []) trivial (cs := [(4, twinC), (5, parseC), (6, rprogC), (7, opC), (8, uopC), (9, uwordsC), (10, kPrg), (11, keepR UInt8 1 byteC 0), (12, keptC), (13, rkeptC), (14, pwordC), (15, lC)]) ⟨twin_ok, parse_ok, rprog_ok, op_ok, uop_ok, uwords_ok, kPrg_ok, kBytes_ok, kept_ok, rkept_ok, pword_ok, wakesP_ok, trivial⟩ (bs := []) trivial (gl := tabP)) mixed _ Tryz.func3 (by kernel_rfl) rfl (fun _ _ => Nat.le_of_ble_eq_true rfl) fun ((b, s, op) : List UInt8 × ByteArray × Int) id hd => by
    refine ⟨fun h => ⟨.refl _, rfl⟩, fun h => ?_⟩
    have hb : b.length ≤ 7000 := by have h : decide ((b.length : Int) > 7000) = false := h; have := of_decide_eq_false h; omega
    refine ⟨fun h => ⟨.refl _, rfl⟩, fun h => ?_⟩
    have hs : s.size ≤ 100 := by have h : decide ((s.size : Int) > 100) = false := h; have := of_decide_eq_false h; omega
    refine ⟨b, ⟨.refl _, trivial⟩, rfl, (show b.length ≤ 140737488355328 by omega), ?_⟩
    refine ⟨b, ⟨.own .., trivial⟩, rfl, (show b.length ≤ 4611686018427387904 by omega), ?_⟩
    refine ⟨b, ⟨.refl _, trivial⟩, rfl, (show b.length ≤ 1000000 by omega), ?_⟩
    refine ⟨s, ⟨.refl _, trivial⟩, rfl, trivial, ?_⟩
    refine ⟨s, ⟨.refl _, trivial⟩, rfl, trivial, ?_⟩
    have hpe := rParse_eq b
    have ol : opsL.length = 44 := by decide +kernel
    refine ⟨fun h => ?_, fun h => ?_⟩
    · have h1 : 0 ≤ op := by have := of_decide_eq_true (show decide (op ≥ 0) = true from h); omega
      refine ⟨fun h => ?_, fun h => ?_⟩
      · have h2 : op < 44 := of_decide_eq_true (show decide (op < 44) = true from h)
        have hw : wordF2 op = opsL.getD op.toNat noS := by unfold wordF2; rw [if_neg (by omega)]
        refine ⟨(), trivial, rfl, trivial, ?_⟩
        refine ⟨(show 0 ≤ op ∧ op < ((opsL.length : Nat) : Int) by rw [ol]; omega), ?_⟩
        refine ⟨((parseF b).1, (rParse b).1), ⟨.refl _, .refl _, trivial⟩, rfl, ⟨parse_len b, (by show pLen (rParse b).1; rw [hpe]; exact parse_len b)⟩, ?_⟩
        refine ⟨fun h => ?_, fun h => absurd h (by show ¬ (decide ((parseF b).1 = (rParse b).1)) = false; rw [hpe]; simp)⟩
        refine ⟨fun h => ?_, fun h => absurd h (by show ¬ ((parseF b).2.1 == (rParse b).2.1) = false; rw [hpe]; simp)⟩
        refine ⟨fun h => ?_, fun h => absurd h (by show ¬ ((parseF b).2.2 == (rParse b).2.2) = false; rw [hpe]; simp)⟩
        refine ⟨(b, b), ⟨.own .., .refl _, trivial⟩, rfl, (show b.length ≤ 4611686018427387904 by omega), ?_⟩
        refine ⟨fun h => ?_, fun h => absurd h (by show ¬ (decide (b = b)) = false; simp)⟩
        refine ⟨s.data.toList, ⟨.refl _, trivial⟩, rfl, trivial, ?_⟩
        refine ⟨s, ⟨.refl _, trivial⟩, rfl, trivial, ?_⟩
        refine ⟨fun h => ?_, fun h => absurd h (by show ¬ (keptF s.data.toList == Lib.containsS keptL s) = false; show ¬ (Lib.containsS keptL s == Lib.containsS keptL s) = false; simp)⟩
        refine ⟨fun h => ?_, fun h => absurd h (by show ¬ (decide (0 ≤ opV s) == decide (opV s ≥ 0)) = false; show ¬ (decide (0 ≤ opV s) == decide (0 ≤ opV s)) = false; simp)⟩
        refine ⟨fun h => ?_, fun h => ?_⟩
        · have hn : ¬ 0 ≤ opV s := by have h : (!decide (0 ≤ opV s)) = true := h; simpa using h
          refine ⟨fun h => ?_, fun h => absurd h (by show ¬ ((if opV s < 0 then 0 else opV s) == 0) = false; rw [if_pos (by omega)]; decide)⟩
          refine ⟨op, ⟨.refl _, trivial⟩, rfl, trivial, ?_⟩
          refine ⟨fun h => ?_, fun h => absurd h (by show ¬ ((wordF2 op).toList == (opsL.getD op.toNat noS).toList) = false; rw [hw]; simp)⟩
          refine ⟨(), trivial, rfl, trivial, ?_⟩
          exact ⟨.refl _, rfl⟩
        have hy : 0 ≤ opV s := by have h : (!decide (0 ≤ opV s)) = false := h; simpa using h
        refine ⟨fun h => ?_, fun h => absurd h (by show ¬ decide (0 ≤ opV s) = false; rw [decide_eq_true hy]; decide)⟩
        refine ⟨fun h => ?_, fun h => absurd h (by show ¬ ((if opV s < 0 then 0 else opV s) == opV s) = false; rw [if_neg (by omega)]; simp)⟩
        refine ⟨op, ⟨.refl _, trivial⟩, rfl, trivial, ?_⟩
        refine ⟨fun h => ?_, fun h => absurd h (by show ¬ ((wordF2 op).toList == (opsL.getD op.toNat noS).toList) = false; rw [hw]; simp)⟩
        refine ⟨(), trivial, rfl, trivial, ?_⟩
        exact ⟨.refl _, rfl⟩
      have h2 : ¬ op < 44 := of_decide_eq_false (show decide (op < 44) = false from h)
      have hw : wordF2 op = noS := by unfold wordF2; rw [if_pos (by omega)]
      refine ⟨((parseF b).1, (rParse b).1), ⟨.refl _, .refl _, trivial⟩, rfl, ⟨parse_len b, (by show pLen (rParse b).1; rw [hpe]; exact parse_len b)⟩, ?_⟩
      refine ⟨fun h => ?_, fun h => absurd h (by show ¬ (decide ((parseF b).1 = (rParse b).1)) = false; rw [hpe]; simp)⟩
      refine ⟨fun h => ?_, fun h => absurd h (by show ¬ ((parseF b).2.1 == (rParse b).2.1) = false; rw [hpe]; simp)⟩
      refine ⟨fun h => ?_, fun h => absurd h (by show ¬ ((parseF b).2.2 == (rParse b).2.2) = false; rw [hpe]; simp)⟩
      refine ⟨(b, b), ⟨.own .., .refl _, trivial⟩, rfl, (show b.length ≤ 4611686018427387904 by omega), ?_⟩
      refine ⟨fun h => ?_, fun h => absurd h (by show ¬ (decide (b = b)) = false; simp)⟩
      refine ⟨s.data.toList, ⟨.refl _, trivial⟩, rfl, trivial, ?_⟩
      refine ⟨s, ⟨.refl _, trivial⟩, rfl, trivial, ?_⟩
      refine ⟨fun h => ?_, fun h => absurd h (by show ¬ (keptF s.data.toList == Lib.containsS keptL s) = false; show ¬ (Lib.containsS keptL s == Lib.containsS keptL s) = false; simp)⟩
      refine ⟨fun h => ?_, fun h => absurd h (by show ¬ (decide (0 ≤ opV s) == decide (opV s ≥ 0)) = false; show ¬ (decide (0 ≤ opV s) == decide (0 ≤ opV s)) = false; simp)⟩
      refine ⟨fun h => ?_, fun h => ?_⟩
      · have hn : ¬ 0 ≤ opV s := by have h : (!decide (0 ≤ opV s)) = true := h; simpa using h
        refine ⟨fun h => ?_, fun h => absurd h (by show ¬ ((if opV s < 0 then 0 else opV s) == 0) = false; rw [if_pos (by omega)]; decide)⟩
        refine ⟨op, ⟨.refl _, trivial⟩, rfl, trivial, ?_⟩
        refine ⟨fun h => ?_, fun h => absurd h (by show ¬ ((wordF2 op).toList == (noS).toList) = false; rw [hw]; simp)⟩
        refine ⟨(), trivial, rfl, trivial, ?_⟩
        exact ⟨.refl _, rfl⟩
      have hy : 0 ≤ opV s := by have h : (!decide (0 ≤ opV s)) = false := h; simpa using h
      refine ⟨fun h => ?_, fun h => absurd h (by show ¬ decide (0 ≤ opV s) = false; rw [decide_eq_true hy]; decide)⟩
      refine ⟨fun h => ?_, fun h => absurd h (by show ¬ ((if opV s < 0 then 0 else opV s) == opV s) = false; rw [if_neg (by omega)]; simp)⟩
      refine ⟨op, ⟨.refl _, trivial⟩, rfl, trivial, ?_⟩
      refine ⟨fun h => ?_, fun h => absurd h (by show ¬ ((wordF2 op).toList == (noS).toList) = false; rw [hw]; simp)⟩
      refine ⟨(), trivial, rfl, trivial, ?_⟩
      exact ⟨.refl _, rfl⟩
    have h1 : ¬ 0 ≤ op := by have := of_decide_eq_false (show decide (op ≥ 0) = false from h); omega
    have hw : wordF2 op = noS := by unfold wordF2; rw [if_pos (by omega)]
    refine ⟨((parseF b).1, (rParse b).1), ⟨.refl _, .refl _, trivial⟩, rfl, ⟨parse_len b, (by show pLen (rParse b).1; rw [hpe]; exact parse_len b)⟩, ?_⟩
    refine ⟨fun h => ?_, fun h => absurd h (by show ¬ (decide ((parseF b).1 = (rParse b).1)) = false; rw [hpe]; simp)⟩
    refine ⟨fun h => ?_, fun h => absurd h (by show ¬ ((parseF b).2.1 == (rParse b).2.1) = false; rw [hpe]; simp)⟩
    refine ⟨fun h => ?_, fun h => absurd h (by show ¬ ((parseF b).2.2 == (rParse b).2.2) = false; rw [hpe]; simp)⟩
    refine ⟨(b, b), ⟨.own .., .refl _, trivial⟩, rfl, (show b.length ≤ 4611686018427387904 by omega), ?_⟩
    refine ⟨fun h => ?_, fun h => absurd h (by show ¬ (decide (b = b)) = false; simp)⟩
    refine ⟨s.data.toList, ⟨.refl _, trivial⟩, rfl, trivial, ?_⟩
    refine ⟨s, ⟨.refl _, trivial⟩, rfl, trivial, ?_⟩
    refine ⟨fun h => ?_, fun h => absurd h (by show ¬ (keptF s.data.toList == Lib.containsS keptL s) = false; show ¬ (Lib.containsS keptL s == Lib.containsS keptL s) = false; simp)⟩
    refine ⟨fun h => ?_, fun h => absurd h (by show ¬ (decide (0 ≤ opV s) == decide (opV s ≥ 0)) = false; show ¬ (decide (0 ≤ opV s) == decide (0 ≤ opV s)) = false; simp)⟩
    refine ⟨fun h => ?_, fun h => ?_⟩
    · have hn : ¬ 0 ≤ opV s := by have h : (!decide (0 ≤ opV s)) = true := h; simpa using h
      refine ⟨fun h => ?_, fun h => absurd h (by show ¬ ((if opV s < 0 then 0 else opV s) == 0) = false; rw [if_pos (by omega)]; decide)⟩
      refine ⟨op, ⟨.refl _, trivial⟩, rfl, trivial, ?_⟩
      refine ⟨fun h => ?_, fun h => absurd h (by show ¬ ((wordF2 op).toList == (noS).toList) = false; rw [hw]; simp)⟩
      refine ⟨(), trivial, rfl, trivial, ?_⟩
      exact ⟨.refl _, rfl⟩
    have hy : 0 ≤ opV s := by have h : (!decide (0 ≤ opV s)) = false := h; simpa using h
    refine ⟨fun h => ?_, fun h => absurd h (by show ¬ decide (0 ≤ opV s) = false; rw [decide_eq_true hy]; decide)⟩
    refine ⟨fun h => ?_, fun h => absurd h (by show ¬ ((if opV s < 0 then 0 else opV s) == opV s) = false; rw [if_neg (by omega)]; simp)⟩
    refine ⟨op, ⟨.refl _, trivial⟩, rfl, trivial, ?_⟩
    refine ⟨fun h => ?_, fun h => absurd h (by show ¬ ((wordF2 op).toList == (noS).toList) = false; rw [hw]; simp)⟩
    refine ⟨(), trivial, rfl, trivial, ?_⟩
    exact ⟨.refl _, rfl⟩
end Go.Proofs.YtimhbimpaiiceaaGreatDoor.Ax
/- What the rows list of the package's variables, as the walks ask for it. -/
set_option linter.unusedVariables false
namespace Go.Proofs.YtimhbimpaiiceaaGreatDoor.Ax
open Go Go.RowKit
theorem var_keep {P : Program} {n : String} {W w' : World} {cs : Array Value} (h : W.var? P n = some cs) (hs : Sealed (cellsH W) w') (hsh : Shaped W w') : w'.var? P n = some cs := by
  unfold World.var? at h ⊢
  cases hg : P.globalNamed n with
  | none => rw [hg] at h; cases h
  | some g =>
    rw [hg] at h
    simp only [Option.bind_some] at h ⊢
    have hlt : g < W.heap.size := by
      rcases Nat.lt_or_ge g W.heap.size with h' | h'
      · exact h'
      · rw [Array.getElem?_eq_none h'] at h; cases h
    have h2 := hsh.2 g hlt
    cases ho : W.heap[g]? with
    | none => rw [ho] at h; cases h
    | some o =>
      rw [ho] at h
      cases o with
      | cells c t f =>
        simp only [Option.some.injEq] at h
        subst h
        simp only [World.shape?, ho] at h2
        cases ho' : w'.heap[g]? with
        | none => rw [ho'] at h2; cases h2
        | some o' =>
          rw [ho'] at h2
          cases o' with
          | cells c' t' f' =>
            simp only [Option.some.injEq, Prod.mk.injEq] at h2
            show some c' = some c
            congr 1
            apply Array.ext h2.2
            intro i hi hi'
            have h3 : cellsH W g i = some c[i] := by
              simp [cellsH, World.cell?, ho]
            have h4 := hs _ _ _ h3
            simp [World.cell?, ho'] at h4
            exact (Array.getElem?_eq_some_iff.1 h4).2
          | _ => cases h2
      | _ => cases h
theorem errRow (u : TypeId) (h : Tryz.prog.typeName? 3 u = some "*errors.errorString") : u = 152 :=
  typeName_ptr_named (nm := "errors.errorString") (by rw [show "*" ++ "errors.errorString" = "*errors.errorString" by decide]; kernel_rfl) (by kernel_rfl) (by decide) u (by rw [show "*" ++ "errors.errorString" = "*errors.errorString" by decide]; exact h)
theorem pow_eq {H : Type} : (Rows.laid_internal_strconv_uint64pow10 : DataW H) = Lib.tabData .u64 Lib.pow10Tab := rfl
theorem tabs_of {l : List (String × DataW Unit)} {W : World} (h : laidMet Tryz.prog l W)
    (h1 : (l.filter fun x => x.1 == "internal/strconv.uint64pow10") = [("internal/strconv.uint64pow10", Rows.laid_internal_strconv_uint64pow10)])
    (h2 : (l.filter fun x => x.1 == "strconv.ErrSyntax") = [("strconv.ErrSyntax", Rows.laid_strconv_ErrSyntax)]) : ∀ w', Sealed (cellsH W) w' → Shaped W w' → tabs w' := by
  intro w' hs hsh
  have a1 := h.filter fun x => x.1 == "internal/strconv.uint64pow10"
  rw [h1, pow_eq] at a1
  have t1 := Lib.tabIs_of_head (g := 5) (t := 156) (e := 138) (n := 20) (by kernel_rfl) (by kernel_rfl) Tryz.underlying156 Tryz.underlying138 (by kernel_rfl) (by kernel_rfl) a1
  have a2 := h.filter fun x => x.1 == "strconv.ErrSyntax"
  rw [h2] at a2
  obtain ⟨a, s, hv, -⟩ := laid_sentinel (g := 3) (ti := 104) (tp := 152) (te := 154) (ts := 9) a2 (by kernel_rfl) (by kernel_rfl) Tryz.underlying104 errRow Tryz.underlying152 Tryz.underlying154 rfl rfl Tryz.underlying9 (by kernel_rfl) (by kernel_rfl)
  exact ⟨var_keep t1 hs hsh, _, _, var_keep hv hs hsh⟩
end Go.Proofs.YtimhbimpaiiceaaGreatDoor.Ax
/- What the rows list of the package's variables, as the walks of the parse layer ask for it. -/
set_option linter.unusedVariables false
namespace Go.Proofs.YtimhbimpaiiceaaGreatDoor.Ax
open Go Go.RowKit
set_option maxRecDepth 100000 in
theorem space_eq {H : Type} : (Rows.laid_strings_asciiSpace : DataW H) = Lib.tabData .u8 Lib.asciiSpaceTab := rfl
theorem tabsP_of {l : List (String × DataW Unit)} {W : World} (h : laidMet Tryz.prog l W)
    (h1 : (l.filter fun x => x.1 == "internal/strconv.uint64pow10") = [("internal/strconv.uint64pow10", Rows.laid_internal_strconv_uint64pow10)])
    (h2 : (l.filter fun x => x.1 == "strconv.ErrSyntax") = [("strconv.ErrSyntax", Rows.laid_strconv_ErrSyntax)])
    (h3 : (l.filter fun x => x.1 == "strings.asciiSpace") = [("strings.asciiSpace", Rows.laid_strings_asciiSpace)]) : ∀ w', Sealed (cellsH W) w' → Shaped W w' → tabP w' := by
  intro w' hs hsh
  have a1 := h.filter fun x => x.1 == "strings.asciiSpace"
  rw [h3, space_eq] at a1
  have t1 := Lib.tabIs_of_head (g := 0) (t := 85) (e := 5) (n := 256) (by kernel_rfl) (by kernel_rfl) Tryz.underlying85 Tryz.underlying5 (by kernel_rfl) (by kernel_rfl) a1
  exact ⟨tabs_of h h1 h2 w' hs hsh, var_keep t1 hs hsh⟩
end Go.Proofs.YtimhbimpaiiceaaGreatDoor.Ax
