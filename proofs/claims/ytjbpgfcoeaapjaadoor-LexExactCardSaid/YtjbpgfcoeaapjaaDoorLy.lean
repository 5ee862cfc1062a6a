/- Layer lex: the reference's names and numbers. -/
import Derived.Test.YtjbpgfcoeaapjaaDoorLx
set_option linter.unusedVariables false
set_option linter.unusedSimpArgs false
namespace Go.Proofs.YtjbpgfcoeaapjaaDoor.Ax
open Go Go.RowKit
theorem dd_nz : ∀ (u : Nat), (Lib.decDigits u).getD 0 0 = 48 → u = 0 := by
  intro u
  induction u using Nat.strongRecOn with
  | ind u ih =>
    intro h
    rw [Lib.decDigits] at h
    split at h
    · rename_i hu
      have h : UInt8.ofNat (48 + u) = 48 := by simpa using h
      have h2 := congrArg UInt8.toNat h
      rw [UInt8.toNat_ofNat'] at h2
      have : (48 : UInt8).toNat = 48 := rfl
      omega
    · rename_i hu
      obtain ⟨b, r, hb, -⟩ := dd_head (u / 10)
      have := ih (u / 10) (by omega) (by rw [hb] at h ⊢; simpa using h)
      omega
theorem dd_z48 : Lib.decDigits 0 = [48] := by rw [Lib.decDigits, dif_pos (by decide)]; rfl
def tlF (l : List UInt8) : List UInt8 := if l.getD 0 0 = 45 then l.drop 1 else l
theorem num_shape {l : List UInt8} {n : Int} (h : Lib.itoa n = l) (hr : inR n) : 1 ≤ (tlF l).length ∧ (tlF l).length ≤ 10 ∧ ((tlF l).getD 0 0 = 48 → l.length ≤ 1) ∧ ∀ b ∈ tlF l, isDig b = true := by
  have hr1 := hr.1
  have hr2 := hr.2
  unfold Lib.itoa at h
  split at h
  · rename_i hn
    subst h
    have e : tlF (45 :: Lib.decDigits n.natAbs) = Lib.decDigits n.natAbs := rfl
    rw [e]
    have h1 := nd_le (u := n.natAbs) (k := 10) (by omega) (by omega)
    obtain ⟨b, r, hb, -⟩ := dd_head n.natAbs
    refine ⟨by rw [hb]; simp, by rw [Lib.decDigits_length]; omega, fun c => ?_, dd_dig _⟩
    have := dd_nz _ c
    omega
  · rename_i hn
    subst h
    obtain ⟨b, r, hb, hd⟩ := dd_head n.toNat
    have e : tlF (Lib.decDigits n.toNat) = Lib.decDigits n.toNat := by
      unfold tlF
      rw [if_neg]
      rw [hb]
      intro c
      have c : b = 45 := c
      rw [c] at hd; exact absurd hd (by decide)
    rw [e]
    have h1 := nd_le (u := n.toNat) (k := 10) (by omega) (by omega)
    refine ⟨by rw [hb]; simp, by rw [Lib.decDigits_length]; omega, fun c => ?_, dd_dig _⟩
    have := dd_nz _ c
    rw [this, dd_z48]; decide
theorem num_bad {l : List UInt8} (h : (tlF l).length < 1 ∨ 10 < (tlF l).length ∨ ((tlF l).getD 0 0 = 48 ∧ 1 < l.length) ∨ ∃ j, j < (tlF l).length ∧ isDig ((tlF l).getD j 0) = false) : numF l = none := by
  rw [numF_none]
  rintro n ⟨h1, h2⟩
  obtain ⟨a, b, c, d⟩ := num_shape h1 h2
  rcases h with h | h | h | ⟨j, hj, h⟩
  · omega
  · omega
  · have := c h.1; omega
  · rw [d _ (by rw [List.getD, List.getElem?_eq_getElem hj]; exact List.getElem_mem hj)] at h; cases h
def sgF (l : List UInt8) (m : Nat) : Int := if (tlF l).length < l.length then -(m : Int) else m
theorem num_val {l : List UInt8} {m : Nat} (h1 : 1 ≤ (tlF l).length) (h2 : (tlF l).getD 0 0 = 48 → l.length ≤ 1) (hm : Lib.decFrom 0 (tlF l) = some m) : Lib.itoa (sgF l m) = l := by
  have hdd : Lib.decDigits m = tlF l := dd_of _ _ hm (by intro c; rw [c] at h1; simp at h1) (by
    by_cases c : (tlF l).getD 0 0 = 48
    · left; have := h2 c
      have : (tlF l).length ≤ l.length := by unfold tlF; split <;> simp
      omega
    · right; exact c)
  by_cases c : l.getD 0 0 = 45
  · cases l with
    | nil => cases c
    | cons b r =>
      have hb : b = 45 := c
      subst hb
      have ht : tlF (45 :: r) = r := rfl
      rw [ht] at hdd h1 h2
      have hs : sgF (45 :: r) m = -(m : Int) := by unfold sgF; rw [ht, if_pos (by simp)]
      have hm0 : 0 < m := by
        rcases Nat.eq_zero_or_pos m with z | z
        · subst z
          have : r.getD 0 0 = 48 := by rw [← hdd, dd_z48]; rfl
          have := h2 this
          simp at this; subst this; simp at h1
        · exact z
      rw [hs]; unfold Lib.itoa
      rw [if_pos (by omega), show (-(m : Int)).natAbs = m by omega, hdd]
  · have ht : tlF l = l := if_neg c
    rw [ht] at hdd
    have hs : sgF l m = (m : Int) := by unfold sgF; rw [ht, if_neg (by omega)]
    rw [hs]; unfold Lib.itoa
    rw [if_neg (by omega), Int.toNat_natCast, hdd]
theorem num_yes {l : List UInt8} {m : Nat} (h1 : 1 ≤ (tlF l).length) (h2 : (tlF l).getD 0 0 = 48 → l.length ≤ 1) (hm : Lib.decFrom 0 (tlF l) = some m) (hr : inR (sgF l m)) : numF l = some (sgF l m) := (numF_iff _ _).2 ⟨num_val h1 h2 hm, hr⟩
theorem num_out {l : List UInt8} {m : Nat} (h1 : 1 ≤ (tlF l).length) (h2 : (tlF l).getD 0 0 = 48 → l.length ≤ 1) (hm : Lib.decFrom 0 (tlF l) = some m) (hr : ¬ inR (sgF l m)) : numF l = none := by
  rw [numF_none]
  rintro n ⟨a, b⟩
  rw [← num_val h1 h2 hm] at a
  rw [itoa_inj a] at b
  exact hr b
theorem dec_step {t : List UInt8} {i m : Nat} (h : Lib.decFrom 0 (t.take i) = some m) (hi : i < t.length) (hd : isDig (t.getD i 0) = true) : Lib.decFrom 0 (t.take (i + 1)) = some (m * 10 + ((t.getD i 0).toNat - 48)) := by
  rw [takeT t 0 i hi, decFrom_append _ _ _ _ h]
  have hd : 48 ≤ (t.getD i 0).toNat ∧ (t.getD i 0).toNat ≤ 57 := by simpa [isDig] using hd
  have e : Lib.digitVal (t.getD i 0) = some ((t.getD i 0).toNat - 48) := by
    have := dig_ofNat (d := (t.getD i 0).toNat - 48) (by omega)
    rw [← this]; congr 1
    apply UInt8.toNat_inj.1
    rw [UInt8.toNat_ofNat']; omega
  simp only [Lib.decFrom, e]
theorem by_at (l : List UInt8) (i : Nat) : byteAt (⟨l.toArray⟩ : ByteArray) i = ((l.getD i 0).toNat : Int) := by simp [byteAt]
theorem name_bad {l : List UInt8} {i : Nat} (h : i < l.length) (h1 : isLet (l.getD i 0) = false) (h2 : isDig (l.getD i 0) = false) : nameF l = false := by
  have : l.all isAl = false := by
    rw [Bool.eq_false_iff]
    intro c
    have := (all_at isAl l).1 c i h
    rw [isAl, h1, h2] at this
    cases this
  simp [nameF, this]
set_option maxRecDepth 100000 in
theorem rname_ok : CtrSound Tryd.prog 23 nameC :=
  ctr_of_ax (env_ok tys_ok (eqs := []) trivial (cs := [(35, byteB isLet), (36, byteB isDig)]) ⟨rletter_ok, rdigit_ok, trivial⟩) mixed _ Tryd.func23 (by kernel_rfl) rfl (fun _ _ => Nat.le_of_ble_eq_true rfl) fun (l : List UInt8) id hd => by
    have hd : l.length ≤ 4611686018427387904 := hd
    have hz := size_txt l
    have ha := at_txt l
    have no1 : l.length < 1 → nameF l = false := fun h => by unfold nameF; rw [decide_eq_false (by omega)]; rfl
    have no3 : isLet (l.getD 0 0) = false → nameF l = false := fun h => by simp only [nameF, h]; simp
    refine ⟨fun h => ?_, fun h => ?_⟩
    · exact ⟨.bff (no1 (by have h : decide (((⟨l.toArray⟩ : ByteArray).size : Int) < 1) = true := h
                           have := of_decide_eq_true h; omega)), rfl⟩
    have hpos : 0 < l.length := by
      have h : decide (((⟨l.toArray⟩ : ByteArray).size : Int) < 1) = false := h
      have := of_decide_eq_false h; omega
    refine ⟨fun h => ?_, fun h => ?_⟩
    · exact ⟨.bff (rep_long l (by have h : decide (((⟨l.toArray⟩ : ByteArray).size : Int) > 20) = true := h
                                  have := of_decide_eq_true h; omega)), rfl⟩
    have hle : l.length ≤ 20 := by
      have h : decide (((⟨l.toArray⟩ : ByteArray).size : Int) > 20) = false := h
      have := of_decide_eq_false h; omega
    refine ⟨⟨by omega, by rw [hz]; omega⟩, ?_⟩
    refine ⟨(txt l).data.getD 0 0, ⟨.refl _, trivial⟩, rfl, trivial, ?_⟩
    refine ⟨fun h => ?_, fun h => ?_⟩
    · rw [ha] at h; exact ⟨.bff (no3 (by simpa using h)), rfl⟩
    have hlet : isLet (l.getD 0 0) = true := by rw [ha] at h; simpa using h
    refine ⟨Nat, fun i => [(0, X l), (3, I i)], fun _ => [], fun i => 1 ≤ i ∧ i ≤ l.length ∧ ∀ j, j < i → isAl (l.getD j 0) = true, fun i => l.length - i, ⟨1, ⟨Nat.le_refl _, hpos, fun j hj => by rw [show j = 0 by omega, isAl, hlet]; rfl⟩, ⟨⟨rfl, rfl⟩, .refl _, .refl _, trivial⟩⟩, fun (i : Nat) hi => ?_⟩
    have hil : i ≤ l.length := hi.2.1
    have hn := hi.2.2
    have hwj : IntKind.i64.wrap ((i : Int) + 1) = ((i + 1 : Nat) : Int) := by rw [wrap_eq _ (by omega) (by omega)]; omega
    refine ⟨fun h => ?_, fun h => ?_⟩
    · have hlt : i < l.length := by
        have h : decide ((i : Int) < ((⟨l.toArray⟩ : ByteArray).size : Int)) = true := h
        have := of_decide_eq_true h; omega
      have nb : ∀ {f : UInt8 → Bool}, (!f ((txt l).data.getD i 0)) = true → f (l.getD i 0) = false := fun h => by rw [ha] at h; simpa using h
      have yb : ∀ {f : UInt8 → Bool}, (!f ((txt l).data.getD i 0)) = false → f (l.getD i 0) = true := fun h => by rw [ha] at h; simpa using h
      have nx : ∀ b, isAl (l.getD i 0) = b → b = true → ∀ j, j < i + 1 → isAl (l.getD j 0) = true := fun b hb hb2 j hj => by
        rcases Nat.lt_succ_iff_lt_or_eq.1 hj with q | rfl
        · exact hn j q
        · rw [hb, hb2]
      refine ⟨⟨by omega, by rw [hz]; omega⟩, ?_⟩
      refine ⟨(txt l).data.getD i 0, ⟨.refl _, trivial⟩, rfl, trivial, ?_⟩
      refine ⟨fun h => ?_, fun h => ?_⟩
      · refine ⟨⟨by omega, by rw [hz]; omega⟩, ?_⟩
        refine ⟨(txt l).data.getD i 0, ⟨.refl _, trivial⟩, rfl, trivial, ?_⟩
        refine ⟨fun h2 => ?_, fun h2 => ?_⟩
        · exact ⟨.bff (name_bad hlt (nb h) (nb h2)), rfl⟩
        · exact ⟨i + 1, ⟨by omega, hlt, nx _ rfl (by simp only [isAl, yb h2, Bool.or_true])⟩, by show l.length - (i + 1) < l.length - i; omega, ⟨rfl, rfl⟩, .refl _, .int hwj, trivial⟩
      · exact ⟨i + 1, ⟨by omega, hlt, nx _ rfl (by simp only [isAl, yb h, Bool.true_or])⟩, by show l.length - (i + 1) < l.length - i; omega, ⟨rfl, rfl⟩, .refl _, .int hwj, trivial⟩
    · have hie : i = l.length := by
        have h : decide ((i : Int) < ((⟨l.toArray⟩ : ByteArray).size : Int)) = false := h
        have := of_decide_eq_false h; omega
      exact ⟨.btt (by subst hie; simp only [nameF, hlet, (all_at isAl l).2 hn]; simp; omega), rfl⟩
theorem u8_sub (c : UInt8) (h : 48 ≤ c.toNat) : IntKind.u8.wrap ((c.toNat : Int) - 48) = ((c.toNat - 48 : Nat) : Int) := by
  have hc := c.toNat_lt
  rw [show (c.toNat : Int) - 48 = ((c.toNat - 48 : Nat) : Int) by omega]
  generalize c.toNat = n at *
  simp only [IntKind.wrap, IntKind.bits, IntKind.signed]
  simp
  omega
def rnumC : Ctr := { A := List UInt8, enc := fun l => [X l], dom := fun l => l.length ≤ 4611686018427387904, res := fun l _ => .tup [I ((numF l).getD 0), B (numF l).isSome] }
set_option maxRecDepth 100000 in
theorem rnum_ok : CtrSound Tryd.prog 22 rnumC :=
  ctr_of_ax (env_okB tys_ok (eqs := []) trivial (cs := [(36, byteB isDig)]) ⟨rdigit_ok, trivial⟩ (bs := []) trivial (cut := [4, 6, 15])) mixed _ Tryd.func22 (by kernel_rfl) rfl (fun _ _ => Nat.le_of_ble_eq_true rfl) fun (l : List UInt8) id hd => by
    have hd : l.length ≤ 4611686018427387904 := hd
    have hz := size_txt l
    refine ⟨Unit, fun _ => [(0, X l), (4, X (tlF l))], fun _ => [], fun _ => True, ?_, fun _ _ => ?_⟩
    · refine ⟨fun h => ?_, fun h => ?_⟩
      · have hpos : 0 < l.length := by
          have h : decide (((⟨l.toArray⟩ : ByteArray).size : Int) > 0) = true := h
          have := of_decide_eq_true h; omega
        refine ⟨⟨by omega, by rw [hz]; omega⟩, ?_⟩
        refine ⟨fun h2 => ?_, fun h2 => ?_⟩
        · have h45 : l.getD 0 0 = 45 := by
            have h2 : (byteAt (⟨l.toArray⟩ : ByteArray) 0 == 45) = true := h2
            rw [by_at] at h2
            apply UInt8.toNat_inj.1
            have := eq_of_beq h2
            have e : (45 : UInt8).toNat = 45 := rfl
            omega
          refine ⟨⟨by omega, by rw [hz]; omega⟩, ?_⟩
          exact ⟨(), trivial, ⟨rfl, rfl⟩, .refl _, .str (by show (⟨l.toArray⟩ : ByteArray).extract 1 (⟨l.toArray⟩ : ByteArray).size = _; rw [ext_txt, hz, List.take_length]; unfold tlF; rw [if_pos h45]), trivial⟩
        · have h45 : l.getD 0 0 ≠ 45 := fun c => by
            have h2 : (byteAt (⟨l.toArray⟩ : ByteArray) 0 == 45) = false := h2
            rw [by_at, c] at h2
            exact absurd h2 (by decide)
          exact ⟨(), trivial, ⟨rfl, rfl⟩, .refl _, .str (by unfold tlF; rw [if_neg h45]), trivial⟩
      · have h0 : l = [] := List.eq_nil_of_length_eq_zero (by
          have h : decide (((⟨l.toArray⟩ : ByteArray).size : Int) > 0) = false := h
          have := of_decide_eq_false h; omega)
        exact ⟨(), trivial, ⟨rfl, rfl⟩, .refl _, .str (by rw [h0]; rfl), trivial⟩
    have hzt := size_txt (tlF l)
    have htl : (tlF l).length ≤ l.length := by unfold tlF; split <;> simp
    have none_ok : numF l = none → Sub (.tup [I 0, .ff]) (.tup [I ((numF l).getD 0), B (numF l).isSome]) := fun h => by rw [h]; exact .tup2 (.refl _) (.bff rfl)
    refine ⟨Unit, fun _ => [(0, X l), (4, X (tlF l))], fun _ => [], fun _ => 1 ≤ (tlF l).length ∧ (tlF l).length ≤ 10 ∧ ((tlF l).getD 0 0 = 48 → l.length ≤ 1), ?_, fun _ hc => ?_⟩
    · refine ⟨fun h => ?_, fun h => ?_⟩
      · exact ⟨none_ok (num_bad (.inl (by have h : decide (((⟨(tlF l).toArray⟩ : ByteArray).size : Int) < 1) = true := h
                                          have := of_decide_eq_true h; omega))), rfl⟩
      have hpos : 1 ≤ (tlF l).length := by
        have h : decide (((⟨(tlF l).toArray⟩ : ByteArray).size : Int) < 1) = false := h
        have := of_decide_eq_false h; omega
      refine ⟨fun h => ?_, fun h => ?_⟩
      · exact ⟨none_ok (num_bad (.inr (.inl (by have h : decide (((⟨(tlF l).toArray⟩ : ByteArray).size : Int) > 10) = true := h
                                                have := of_decide_eq_true h; omega)))), rfl⟩
      have hle : (tlF l).length ≤ 10 := by
        have h : decide (((⟨(tlF l).toArray⟩ : ByteArray).size : Int) > 10) = false := h
        have := of_decide_eq_false h; omega
      refine ⟨⟨by omega, by rw [hzt]; omega⟩, ?_⟩
      refine ⟨fun h => ?_, fun h => ?_⟩
      · have h48 : (tlF l).getD 0 0 = 48 := by
          have h2 : (byteAt (⟨(tlF l).toArray⟩ : ByteArray) 0 == 48) = true := h
          rw [by_at] at h2
          apply UInt8.toNat_inj.1
          have := eq_of_beq h2
          have e : (48 : UInt8).toNat = 48 := rfl
          omega
        refine ⟨fun h2 => ?_, fun h2 => ?_⟩
        · exact ⟨none_ok (num_bad (.inr (.inr (.inl ⟨h48, by have h2 : decide (((⟨l.toArray⟩ : ByteArray).size : Int) > 1) = true := h2
                                                             have := of_decide_eq_true h2; omega⟩)))), rfl⟩
        · exact ⟨(), ⟨hpos, hle, fun _ => by have h2 : decide (((⟨l.toArray⟩ : ByteArray).size : Int) > 1) = false := h2
                                             have := of_decide_eq_false h2; omega⟩, ⟨rfl, rfl⟩, .refl _, .refl _, trivial⟩
      · exact ⟨(), ⟨hpos, hle, fun c => absurd h (by show ¬ (byteAt (⟨(tlF l).toArray⟩ : ByteArray) 0 == 48) = false; rw [by_at, c]; decide)⟩, ⟨rfl, rfl⟩, .refl _, .refl _, trivial⟩
    have h1 : 1 ≤ (tlF l).length := hc.1
    have h10 : (tlF l).length ≤ 10 := hc.2.1
    have h48 : (tlF l).getD 0 0 = 48 → l.length ≤ 1 := hc.2.2
    refine ⟨Nat × Nat, fun s => [(0, X l), (5, I s.2), (4, X (tlF l)), (6, I s.1)], fun _ => [], fun s => s.1 ≤ (tlF l).length ∧ Lib.decFrom 0 ((tlF l).take s.1) = some s.2 ∧ s.2 < 10 ^ s.1, fun s => (tlF l).length - s.1, ⟨(0, 0), ⟨Nat.zero_le _, rfl, by decide⟩, ⟨⟨rfl, rfl⟩, .refl _, .refl _, .refl _, .refl _, trivial⟩⟩, fun ((i, m) : Nat × Nat) hi => ?_⟩
    have hil : i ≤ (tlF l).length := hi.1
    have hdm : Lib.decFrom 0 ((tlF l).take i) = some m := hi.2.1
    have hmb : m < 10 ^ i := hi.2.2
    have hm10 : m < 10000000000 := Nat.lt_of_lt_of_le hmb (Nat.pow_le_pow_right (show 0 < 10 by decide) (show i ≤ 10 by omega))
    have hwj : IntKind.i64.wrap ((i : Int) + 1) = ((i + 1 : Nat) : Int) := by rw [wrap_eq _ (by omega) (by omega)]; omega
    refine ⟨fun h => ?_, fun h => ?_⟩
    · have hlt : i < (tlF l).length := by
        have h : decide ((i : Int) < ((⟨(tlF l).toArray⟩ : ByteArray).size : Int)) = true := h
        have := of_decide_eq_true h; omega
      refine ⟨⟨by omega, by rw [hzt]; omega⟩, ?_⟩
      refine ⟨(txt (tlF l)).data.getD i 0, ⟨.refl _, trivial⟩, rfl, trivial, ?_⟩
      have ha := at_txt (tlF l) i
      refine ⟨fun h => ?_, fun h => ?_⟩
      · rw [ha] at h
        exact ⟨none_ok (num_bad (.inr (.inr (.inr ⟨i, hlt, by simpa using h⟩)))), rfl⟩
      have hd : isDig ((tlF l).getD i 0) = true := by rw [ha] at h; simpa using h
      have hdr : 48 ≤ ((tlF l).getD i 0).toNat ∧ ((tlF l).getD i 0).toNat ≤ 57 := by simpa [isDig] using hd
      have hst := dec_step hdm hlt hd
      have hpw : 10 ^ (i + 1) = 10 ^ i * 10 := Nat.pow_succ ..
      refine ⟨⟨by omega, by rw [hzt]; omega⟩, ?_⟩
      refine ⟨(i + 1, m * 10 + (((tlF l).getD i 0).toNat - 48)), ⟨hlt, hst, by show m * 10 + (((tlF l).getD i 0).toNat - 48) < 10 ^ (i + 1); rw [hpw]; omega⟩, by show (tlF l).length - (i + 1) < (tlF l).length - i; omega, ⟨rfl, rfl⟩, .refl _, .int ?_, .refl _, .int hwj, trivial⟩
      show IntKind.i64.wrap (IntKind.i64.wrap (10 * (m : Int)) + IntKind.i64.wrap (IntKind.u8.wrap (byteAt (⟨(tlF l).toArray⟩ : ByteArray) i - 48))) = _
      have e8 : IntKind.u8.wrap (byteAt (⟨(tlF l).toArray⟩ : ByteArray) i - 48) = ((((tlF l).getD i 0).toNat - 48 : Nat) : Int) := by
        rw [by_at]
        exact u8_sub _ hdr.1
      rw [e8, wrap_eq (10 * (m : Int)) (by omega) (by omega), wrap_eq ((((tlF l).getD i 0).toNat - 48 : Nat) : Int) (by omega) (by omega), wrap_eq _ (by omega) (by omega)]
      omega
    have hie : i = (tlF l).length := by
      have h : decide ((i : Int) < ((⟨(tlF l).toArray⟩ : ByteArray).size : Int)) = false := h
      have := of_decide_eq_false h; omega
    have hdv : Lib.decFrom 0 (tlF l) = some m := by rw [hie, List.take_length] at hdm; exact hdm
    refine ⟨Unit, fun _ => [(5, I (sgF l m))], fun _ => [], fun _ => True, ?_, fun _ _ => ?_⟩
    · refine ⟨fun h => ?_, fun h => ?_⟩
      · have hlt : (tlF l).length < l.length := by
          have h : decide (((⟨(tlF l).toArray⟩ : ByteArray).size : Int) < ((⟨l.toArray⟩ : ByteArray).size : Int)) = true := h
          have := of_decide_eq_true h; omega
        exact ⟨(), trivial, ⟨rfl, rfl⟩, .int (by unfold sgF; rw [if_pos hlt, wrap_eq _ (by omega) (by omega)]; omega), trivial⟩
      · have hlt : ¬ (tlF l).length < l.length := by
          have h : decide (((⟨(tlF l).toArray⟩ : ByteArray).size : Int) < ((⟨l.toArray⟩ : ByteArray).size : Int)) = false := h
          have := of_decide_eq_false h; omega
        exact ⟨(), trivial, ⟨rfl, rfl⟩, .int (by unfold sgF; rw [if_neg hlt]), trivial⟩
    refine ⟨fun h => ?_, fun h => ?_⟩
    · exact ⟨none_ok (num_out h1 h48 hdv (fun c => by have := c.1; have := of_decide_eq_true h; omega)), rfl⟩
    have hlo : -2147483648 ≤ sgF l m := by have := of_decide_eq_false h; omega
    refine ⟨fun h => ?_, fun h => ?_⟩
    · exact ⟨none_ok (num_out h1 h48 hdv (fun c => by have := c.2; have := of_decide_eq_true h; omega)), rfl⟩
    have hhi : sgF l m ≤ 2147483647 := by have := of_decide_eq_false h; omega
    have hy := num_yes h1 h48 hdv ⟨hlo, hhi⟩
    exact ⟨(show Sub _ (.tup [I ((numF l).getD 0), B (numF l).isSome]) by rw [hy]; exact .tup2 (.refl _) (.btt rfl)), rfl⟩
end Go.Proofs.YtjbpgfcoeaapjaaDoor.Ax
