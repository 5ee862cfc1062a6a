/- Layer lex: the reference's names and numbers. -/
import Derived.Test.YtimhbimpaiiceaaDoorLp
import Derived.Test.YtimhbimpaiiceaaDoorLh
set_option linter.unusedVariables false
set_option linter.unusedSimpArgs false
namespace Go.Proofs.YtimhbimpaiiceaaDoor.Ax
open Go Go.RowKit
theorem rep_long (l : List UInt8) (h : 20 < l.length) : nameF l = false := by
  unfold nameF
  rw [decide_eq_false (by omega)]; rfl
theorem dd_nz : ∀ (u : Nat), (Lib.decDigits u).getD 0 0 = 48 → u = 0 := by
  intro u
  induction u using Nat.strongRecOn with
  | ind u ih =>
    intro h
    rw [Lib.decDigits] at h
    split at h
    · rename_i hu
      have h : UInt8.ofNat (48 + u) = 48 := by simpa using h
      have h2 := congrArg UInt8.toNat h
      rw [UInt8.toNat_ofNat'] at h2
      have : (48 : UInt8).toNat = 48 := rfl
      omega
    · rename_i hu
      obtain ⟨b, r, hb, -⟩ := dd_head (u / 10)
      have := ih (u / 10) (by omega) (by rw [hb] at h ⊢; simpa using h)
      omega
theorem dd_z48 : Lib.decDigits 0 = [48] := by rw [Lib.decDigits, dif_pos (by decide)]; rfl
def tlF (l : List UInt8) : List UInt8 := if l.getD 0 0 = 45 then l.drop 1 else l
theorem num_shape {l : List UInt8} {n : Int} (h : Lib.itoa n = l) (hr : inR n) : 1 ≤ (tlF l).length ∧ (tlF l).length ≤ 10 ∧ ((tlF l).getD 0 0 = 48 → l.length ≤ 1) ∧ ∀ b ∈ tlF l, isDig b = true := by
  have hr1 := hr.1
  have hr2 := hr.2
  unfold Lib.itoa at h
  split at h
  · rename_i hn
    subst h
    have e : tlF (45 :: Lib.decDigits n.natAbs) = Lib.decDigits n.natAbs := rfl
    rw [e]
    have h1 := nd_le (u := n.natAbs) (k := 10) (by omega) (by omega)
    obtain ⟨b, r, hb, -⟩ := dd_head n.natAbs
    refine ⟨by rw [hb]; simp, by rw [Lib.decDigits_length]; omega, fun c => ?_, dd_dig _⟩
    have := dd_nz _ c
    omega
  · rename_i hn
    subst h
    obtain ⟨b, r, hb, hd⟩ := dd_head n.toNat
    have e : tlF (Lib.decDigits n.toNat) = Lib.decDigits n.toNat := by
      unfold tlF
      rw [if_neg]
      rw [hb]
      intro c
      have c : b = 45 := c
      rw [c] at hd; exact absurd hd (by decide)
    rw [e]
    have h1 := nd_le (u := n.toNat) (k := 10) (by omega) (by omega)
    refine ⟨by rw [hb]; simp, by rw [Lib.decDigits_length]; omega, fun c => ?_, dd_dig _⟩
    have := dd_nz _ c
    rw [this, dd_z48]; decide
theorem num_bad {l : List UInt8} (h : (tlF l).length < 1 ∨ 10 < (tlF l).length ∨ ((tlF l).getD 0 0 = 48 ∧ 1 < l.length) ∨ ∃ j, j < (tlF l).length ∧ isDig ((tlF l).getD j 0) = false) : numF l = none := by
  rw [numF_none]
  rintro n ⟨h1, h2⟩
  obtain ⟨a, b, c, d⟩ := num_shape h1 h2
  rcases h with h | h | h | ⟨j, hj, h⟩
  · omega
  · omega
  · have := c h.1; omega
  · rw [d _ (by rw [List.getD, List.getElem?_eq_getElem hj]; exact List.getElem_mem hj)] at h; cases h
def sgF (l : List UInt8) (m : Nat) : Int := if (tlF l).length < l.length then -(m : Int) else m
theorem num_val {l : List UInt8} {m : Nat} (h1 : 1 ≤ (tlF l).length) (h2 : (tlF l).getD 0 0 = 48 → l.length ≤ 1) (hm : Lib.decFrom 0 (tlF l) = some m) : Lib.itoa (sgF l m) = l := by
  have hdd : Lib.decDigits m = tlF l := dd_of _ _ hm (by intro c; rw [c] at h1; simp at h1) (by
    by_cases c : (tlF l).getD 0 0 = 48
    · left; have := h2 c
      have : (tlF l).length ≤ l.length := by unfold tlF; split <;> simp
      omega
    · right; exact c)
  by_cases c : l.getD 0 0 = 45
  · cases l with
    | nil => cases c
    | cons b r =>
      have hb : b = 45 := c
      subst hb
      have ht : tlF (45 :: r) = r := rfl
      rw [ht] at hdd h1 h2
      have hs : sgF (45 :: r) m = -(m : Int) := by unfold sgF; rw [ht, if_pos (by simp)]
      have hm0 : 0 < m := by
        rcases Nat.eq_zero_or_pos m with z | z
        · subst z
          have : r.getD 0 0 = 48 := by rw [← hdd, dd_z48]; rfl
          have := h2 this
          simp at this; subst this; simp at h1
        · exact z
      rw [hs]; unfold Lib.itoa
      rw [if_pos (by omega), show (-(m : Int)).natAbs = m by omega, hdd]
  · have ht : tlF l = l := if_neg c
    rw [ht] at hdd
    have hs : sgF l m = (m : Int) := by unfold sgF; rw [ht, if_neg (by omega)]
    rw [hs]; unfold Lib.itoa
    rw [if_neg (by omega), Int.toNat_natCast, hdd]
theorem num_yes {l : List UInt8} {m : Nat} (h1 : 1 ≤ (tlF l).length) (h2 : (tlF l).getD 0 0 = 48 → l.length ≤ 1) (hm : Lib.decFrom 0 (tlF l) = some m) (hr : inR (sgF l m)) : numF l = some (sgF l m) := (numF_iff _ _).2 ⟨num_val h1 h2 hm, hr⟩
theorem num_out {l : List UInt8} {m : Nat} (h1 : 1 ≤ (tlF l).length) (h2 : (tlF l).getD 0 0 = 48 → l.length ≤ 1) (hm : Lib.decFrom 0 (tlF l) = some m) (hr : ¬ inR (sgF l m)) : numF l = none := by
  rw [numF_none]
  rintro n ⟨a, b⟩
  rw [← num_val h1 h2 hm] at a
  rw [itoa_inj a] at b
  exact hr b
theorem dec_step {t : List UInt8} {i m : Nat} (h : Lib.decFrom 0 (t.take i) = some m) (hi : i < t.length) (hd : isDig (t.getD i 0) = true) : Lib.decFrom 0 (t.take (i + 1)) = some (m * 10 + ((t.getD i 0).toNat - 48)) := by
  rw [takeT t 0 i hi, decFrom_append _ _ _ _ h]
  have hd : 48 ≤ (t.getD i 0).toNat ∧ (t.getD i 0).toNat ≤ 57 := by simpa [isDig] using hd
  have e : Lib.digitVal (t.getD i 0) = some ((t.getD i 0).toNat - 48) := by
    have := dig_ofNat (d := (t.getD i 0).toNat - 48) (by omega)
    rw [← this]; congr 1
    apply UInt8.toNat_inj.1
    rw [UInt8.toNat_ofNat']; omega
  simp only [Lib.decFrom, e]
theorem by_at (l : List UInt8) (i : Nat) : byteAt (⟨l.toArray⟩ : ByteArray) i = ((l.getD i 0).toNat : Int) := by simp [byteAt]
theorem name_bad {l : List UInt8} {i : Nat} (h : i < l.length) (h1 : isLet (l.getD i 0) = false) (h2 : isDig (l.getD i 0) = false) : nameF l = false := by
  have : l.all isAl = false := by
    rw [Bool.eq_false_iff]
    intro c
    have := (all_at isAl l).1 c i h
    rw [isAl, h1, h2] at this
    cases this
  simp [nameF, this]
set_option maxRecDepth 100000 in
theorem rname_ok : CtrSound Tryd.prog 22 nameC :=
  ctr_of_ax (env_ok tys_ok (eqs := []) trivial (cs := [(37, byteB isLet), (38, byteB isDig)]) ⟨rletter_ok, rdigit_ok, trivial⟩) mixed _ Tryd.func22 (by kernel_rfl) rfl (fun _ _ => Nat.le_of_ble_eq_true rfl) fun (l : List UInt8) id hd => by
    have hd : l.length ≤ 4611686018427387904 := hd
    have hz := size_txt l
    have ha := at_txt l
    have no1 : l.length < 1 → nameF l = false := fun h => by unfold nameF; rw [decide_eq_false (by omega)]; rfl
    have no3 : isLet (l.getD 0 0) = false → nameF l = false := fun h => by simp only [nameF, h]; simp
    refine ⟨fun h => ?_, fun h => ?_⟩
    · exact ⟨.bff (no1 (by have h : decide (((⟨l.toArray⟩ : ByteArray).size : Int) < 1) = true := h
                           have := of_decide_eq_true h; omega)), rfl⟩
    have hpos : 0 < l.length := by
      have h : decide (((⟨l.toArray⟩ : ByteArray).size : Int) < 1) = false := h
      have := of_decide_eq_false h; omega
    refine ⟨fun h => ?_, fun h => ?_⟩
    · exact ⟨.bff (rep_long l (by have h : decide (((⟨l.toArray⟩ : ByteArray).size : Int) > 20) = true := h
                                  have := of_decide_eq_true h; omega)), rfl⟩
    have hle : l.length ≤ 20 := by
      have h : decide (((⟨l.toArray⟩ : ByteArray).size : Int) > 20) = false := h
      have := of_decide_eq_false h; omega
    refine ⟨⟨by omega, by rw [hz]; omega⟩, ?_⟩
    refine ⟨(txt l).data.getD 0 0, ⟨.refl _, trivial⟩, rfl, trivial, ?_⟩
    refine ⟨fun h => ?_, fun h => ?_⟩
    · rw [ha] at h; exact ⟨.bff (no3 (by simpa using h)), rfl⟩
    have hlet : isLet (l.getD 0 0) = true := by rw [ha] at h; simpa using h
    refine ⟨Nat, fun i => [(0, X l), (3, I i)], fun _ => [], fun i => 1 ≤ i ∧ i ≤ l.length ∧ ∀ j, j < i → isAl (l.getD j 0) = true, fun i => l.length - i, ⟨1, ⟨Nat.le_refl _, hpos, fun j hj => by rw [show j = 0 by omega, isAl, hlet]; rfl⟩, ⟨⟨rfl, rfl⟩, .refl _, .refl _, trivial⟩⟩, fun (i : Nat) hi => ?_⟩
    have hil : i ≤ l.length := hi.2.1
    have hn := hi.2.2
    have hwj : IntKind.i64.wrap ((i : Int) + 1) = ((i + 1 : Nat) : Int) := by rw [wrap_eq _ (by omega) (by omega)]; omega
    refine ⟨fun h => ?_, fun h => ?_⟩
    · have hlt : i < l.length := by
        have h : decide ((i : Int) < ((⟨l.toArray⟩ : ByteArray).size : Int)) = true := h
        have := of_decide_eq_true h; omega
      have nb : ∀ {f : UInt8 → Bool}, (!f ((txt l).data.getD i 0)) = true → f (l.getD i 0) = false := fun h => by rw [ha] at h; simpa using h
      have yb : ∀ {f : UInt8 → Bool}, (!f ((txt l).data.getD i 0)) = false → f (l.getD i 0) = true := fun h => by rw [ha] at h; simpa using h
      have nx : ∀ b, isAl (l.getD i 0) = b → b = true → ∀ j, j < i + 1 → isAl (l.getD j 0) = true := fun b hb hb2 j hj => by
        rcases Nat.lt_succ_iff_lt_or_eq.1 hj with q | rfl
        · exact hn j q
        · rw [hb, hb2]
      refine ⟨⟨by omega, by rw [hz]; omega⟩, ?_⟩
      refine ⟨(txt l).data.getD i 0, ⟨.refl _, trivial⟩, rfl, trivial, ?_⟩
      refine ⟨fun h => ?_, fun h => ?_⟩
      · refine ⟨⟨by omega, by rw [hz]; omega⟩, ?_⟩
        refine ⟨(txt l).data.getD i 0, ⟨.refl _, trivial⟩, rfl, trivial, ?_⟩
        refine ⟨fun h2 => ?_, fun h2 => ?_⟩
        · exact ⟨.bff (name_bad hlt (nb h) (nb h2)), rfl⟩
        · exact ⟨i + 1, ⟨by omega, hlt, nx _ rfl (by simp only [isAl, yb h2, Bool.or_true])⟩, by show l.length - (i + 1) < l.length - i; omega, ⟨rfl, rfl⟩, .refl _, .int hwj, trivial⟩
      · exact ⟨i + 1, ⟨by omega, hlt, nx _ rfl (by simp only [isAl, yb h, Bool.true_or])⟩, by show l.length - (i + 1) < l.length - i; omega, ⟨rfl, rfl⟩, .refl _, .int hwj, trivial⟩
    · have hie : i = l.length := by
        have h : decide ((i : Int) < ((⟨l.toArray⟩ : ByteArray).size : Int)) = false := h
        have := of_decide_eq_false h; omega
      exact ⟨.btt (by subst hie; simp only [nameF, hlet, (all_at isAl l).2 hn]; simp; omega), rfl⟩
end Go.Proofs.YtimhbimpaiiceaaDoor.Ax
