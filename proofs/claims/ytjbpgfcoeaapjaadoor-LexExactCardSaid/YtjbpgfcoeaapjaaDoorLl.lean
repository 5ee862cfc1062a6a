/- Layer lex: each word stands where it is told to (the statement). -/
import Derived.Test.YtjbpgfcoeaapjaaDoorLm
set_option linter.unusedVariables false
set_option linter.unusedSimpArgs false
namespace Go.Proofs.YtjbpgfcoeaapjaaDoor.Ax
open Go Go.RowKit
theorem tok_wd {s : List UInt8} (i : Nat) (h : (tokenF s).2 = true) : wdS (setAt (tokenF s).1 i) = s ∧ wdOk (setAt (tokenF s).1 i) = true := by
  have key : wdS (setAt (tokenF s).1 i) = s := by
    rcases tok_cases h with ⟨m, e, hm⟩ | hn | ⟨h2, h3⟩
    · rw [e, tok_num hm]; rfl
    · rw [tok_name hn]; simp [wdS, setAt, txt]
    · rw [tok_sign h2 h3]; simp [wdS, setAt, txt]
  refine ⟨key, ?_⟩
  unfold wdOk
  rw [key, h]; simp [setAt]
def chain (b : List UInt8) : Nat → List (Int × ByteArray × Int × Int) → Prop
  | _, [] => True
  | e, t :: r => ∃ a : Nat, t.2.2.2 = (a : Int) ∧ e ≤ a ∧ a + (wdS t).length ≤ b.length ∧ (b.drop a).take (wdS t).length = wdS t ∧ wdOk t = true ∧ chain b (a + (wdS t).length) r
theorem chain_le (b : List UInt8) : ∀ (l : List (Int × ByteArray × Int × Int)) (e f : Nat), f ≤ e → chain b e l → chain b f l
  | [], _, _, _, _ => trivial
  | t :: r, e, f, h, ⟨a, h1, h2, h3⟩ => ⟨a, h1, by omega, h3⟩
theorem chain_scan (b : List UInt8) : ∀ (f i : Nat), i ≤ b.length → chain b i (scanL f i (b.drop i)).1 ∧ ∀ x, (scanL f i (b.drop i)).2 = some x → x ≤ b.length := by
  intro f
  induction f with
  | zero =>
    intro i hi
    cases hd : b.drop i with
    | nil => exact ⟨trivial, fun x hx => by cases hx⟩
    | cons c r => exact ⟨trivial, fun x hx => by cases hx; exact hi⟩
  | succ f ih =>
    intro i hi
    cases hd : b.drop i with
    | nil => exact ⟨trivial, fun x hx => by cases hx⟩
    | cons c r =>
      have hlen : (b.drop i).length = b.length - i := List.length_drop ..
      have hlt : i < b.length := by rw [hd] at hlen; simp at hlen; omega
      have hr : b.drop (i + 1) = r := by rw [← List.drop_drop, hd]; rfl
      simp only [scanL]
      split
      · have := ih (i + 1) hlt
        rw [hr] at this
        exact ⟨chain_le b _ _ _ (Nat.le_succ i) this.1, this.2⟩
      · split
        · rename_i ht
          have hwl := wordF_le (c :: r)
          rw [← hd, hlen] at hwl
          have hdw : b.drop (i + wordF (b.drop i)) = (b.drop i).drop (wordF (b.drop i)) := by rw [List.drop_drop]
          have := ih (i + wordF (b.drop i)) (by omega)
          rw [hdw] at this
          rw [hd] at this hwl
          obtain ⟨k1, k2⟩ := tok_wd i ht
          have hl2 : (wdS (setAt (tokenF ((c :: r).take (wordF (c :: r)))).1 i)).length = wordF (c :: r) := by
            rw [k1, List.length_take, ← hd, hlen]; rw [hd]; omega
          refine ⟨⟨i, rfl, Nat.le_refl _, by rw [hl2]; omega, by rw [hl2, hd, k1], k2, by rw [hl2]; exact this.1⟩, this.2⟩
        · exact ⟨trivial, fun x hx => by cases hx; exact hi⟩
theorem chain_F (b : List UInt8) : chain b 0 (scanF b).1 := by
  unfold scanF
  split
  · exact trivial
  · have := (chain_scan b b.length 0 (Nat.zero_le _)).1
    rw [List.drop_zero] at this
    cases hc : (scanI 0 b).2 with
    | none => exact this
    | some x => exact trivial
theorem chain_len (b : List UInt8) : ∀ (l : List (Int × ByteArray × Int × Int)) (e : Nat), chain b e l → l = [] ∨ e + l.length ≤ b.length
  | [], _, _ => .inl rfl
  | t :: r, e, ⟨a, h1, h2, h3, h4, h5, h6⟩ => by
    have hw := wd_len h5
    right
    rcases chain_len b r _ h6 with rfl | h
    · simp; omega
    · simp only [List.length_cons]; omega
theorem scan_res (b : List UInt8) : (scanF b).2 = (0, 0) ∨ ((scanF b).1 = [] ∧ (scanF b).2.2 ≠ 0 ∧ 0 ≤ (scanF b).2.1 ∧ (scanF b).2.1 ≤ (b.length : Int)) := by
  unfold scanF
  split
  · exact .inr ⟨rfl, (by decide), (by show (0 : Int) ≤ 0; omega), (by show (0 : Int) ≤ b.length; omega)⟩
  · have := (chain_scan b b.length 0 (Nat.zero_le _)).2
    rw [List.drop_zero] at this
    cases hc : (scanI 0 b).2 with
    | none => exact .inl rfl
    | some x =>
      have := this x hc
      exact .inr ⟨rfl, (by show (3 : Int) ≠ 0; decide), (by show (0 : Int) ≤ (x : Int); omega), (by show (x : Int) ≤ b.length; omega)⟩
theorem ok_wd {t : Int × ByteArray × Int × Int} (h : wdOk t = true) : okT t := by
  obtain ⟨a, s, n, p⟩ := t
  obtain ⟨b, rfl⟩ : ∃ b : List UInt8, s = txt b := ⟨s.data.toList, rfl⟩
  have hz := size_txt b
  have hz : (txt b).size = b.length := hz
  unfold okT
  rcases wd_is.1 h with ⟨h1, h2, h3⟩ | ⟨h1, h2, h4, h3⟩ | ⟨h1, h2, h3⟩
  · obtain ⟨c, r, e, -, -, hl⟩ := name_form.1 h2
    exact ⟨by show _ ≤ n; omega, by show n ≤ _; omega, by show (txt b).size ≤ _; omega⟩
  · exact ⟨by show _ ≤ n; omega, by show n ≤ _; omega, by show (txt b).size ≤ _; omega⟩
  · have := h3.1
    have := h3.2
    exact ⟨by show _ ≤ n; omega, by show n ≤ _; omega, by show (txt b).size ≤ _; rw [hz, h2]; decide⟩
def LexPlaces : Ctr := { A := List UInt8, enc := fun b => [.row UInt8 1 byteC 0 b], dom := fun b => sh27.ok b, res := fun _ _ => .tt, gl := tabs }
set_option maxRecDepth 100000 in
set_option maxHeartbeats 4000000 in
theorem LexPlaces_ok : CtrSound Tryd.prog 4 LexPlaces :=
  ctr_of_ax (env_okB tys_ok (eqs := []) trivial (cs := [(15, scanC), (16, rwdC), (14, wakesC)]) ⟨scan_ok, rwd_ok, wakes_ok, trivial⟩ (bs := []) trivial (gl := tabs)) mixed _ Tryd.func4 (by kernel_rfl) rfl (fun _ _ => Nat.le_of_ble_eq_true rfl) fun (b : List UInt8) id hd => by
    refine ⟨fun h => ⟨.refl _, rfl⟩, fun h => ?_⟩
    have hle : b.length ≤ 7000 := by have := of_decide_eq_false h; omega
    refine ⟨b, ⟨.refl _, trivial⟩, rfl, (show b.length ≤ 4611686018427387904 by omega), ?_⟩
    have hch := chain_F b
    have hsl : (scanF b).1.length ≤ 7000 := by
      rcases chain_len b _ _ hch with h | h
      · rw [h]; decide
      · omega
    refine (scan_res b).elim (fun hr => ?_) (fun hr => ?_)
    · have s1 : (scanF b).2.2 = 0 := by rw [hr]
      have s2 : (scanF b).2.1 = 0 := by rw [hr]
      refine ⟨fun h => absurd h (by show ¬ ((scanF b).2.2 != 0) = true; rw [s1]; decide), fun _ => ?_⟩
      refine ⟨Nat × Nat, fun s => [(0, .row UInt8 1 byteC 0 b), (3, .row (Int × ByteArray × Int × Int) 4 tokC tok0 (scanF b).1), (7, I s.1), (4, I 0), (6, I s.2)], fun _ => [], fun s => s.1 ≤ (scanF b).1.length ∧ s.2 ≤ b.length ∧ chain b s.2 ((scanF b).1.drop s.1), fun s => (scanF b).1.length - s.1, ⟨(0, 0), ⟨Nat.zero_le _, Nat.zero_le _, hch⟩, ⟨⟨rfl, rfl⟩, .refl _, .own .., .refl _, .int s2, .refl _, trivial⟩⟩, fun ((i, e) : Nat × Nat) hi => ?_⟩
      have h1 : i ≤ (scanF b).1.length := hi.1
      have h2 : e ≤ b.length := hi.2.1
      have h3 : chain b e ((scanF b).1.drop i) := hi.2.2
      clear hi
      refine ⟨fun h => ?_, fun h => ?_⟩
      · have hlt : i < (scanF b).1.length := dlt h
        have hcons : (scanF b).1.drop i = (scanF b).1.getD i tok0 :: (scanF b).1.drop (i + 1) := by
          rw [List.drop_eq_getElem_cons hlt]; simp [List.getD, List.getElem?_eq_getElem hlt]
        rw [hcons] at h3
        refine Exists.elim h3 fun a hh => ?_
        have k1 := hh.1
        have k2 := hh.2.1
        have k3 := hh.2.2.1
        have k4 := hh.2.2.2.1
        have k5 := hh.2.2.2.2.1
        have k6 := hh.2.2.2.2.2
        clear hh h3
        have hwj : IntKind.i64.wrap ((i : Int) + 1) = ((i + 1 : Nat) : Int) := by rw [wrap_eq _ (by omega) (by omega)]; omega
        have hrw : rwF ((scanF b).1.getD i tok0) = wdS ((scanF b).1.getD i tok0) := if_pos k5
        have hwl := wd_len k5
        have hz := size_txt (rwF ((scanF b).1.getD i tok0))
        have hto : IntKind.i64.wrap (((scanF b).1.getD i tok0).2.2.2 + ((⟨(rwF ((scanF b).1.getD i tok0)).toArray⟩ : ByteArray).size : Int)) = ((a + (wdS ((scanF b).1.getD i tok0)).length : Nat) : Int) := by
          rw [k1, hz, hrw, wrap_eq _ (by omega) (by omega)]; omega
        refine ⟨by omega, ?_⟩
        refine ⟨(scanF b).1.getD i tok0, ⟨.refl _, trivial⟩, rfl, ok_wd k5, ?_⟩
        refine ⟨by omega, ?_⟩
        have ht := txt_nil (rwF ((scanF b).1.getD i tok0))
        refine ⟨fun h => absurd h (by show ¬ ((txt (rwF ((scanF b).1.getD i tok0))).toList == (⟨#[]⟩ : ByteArray).toList) = true; rw [ht, decide_eq_false (by rw [hrw]; omega)]; decide), fun _ => ?_⟩
        refine ⟨by omega, ?_⟩
        refine ⟨fun h => absurd (of_decide_eq_true h) (by show ¬ ((scanF b).1.getD i tok0).2.2.2 < (e : Int); rw [k1]; omega), fun _ => ?_⟩
        refine ⟨fun h => absurd (of_decide_eq_true h) (by show ¬ IntKind.i64.wrap (((scanF b).1.getD i tok0).2.2.2 + ((⟨(rwF ((scanF b).1.getD i tok0)).toArray⟩ : ByteArray).size : Int)) > (b.length : Int); rw [hto]; omega), fun _ => ?_⟩
        refine ⟨by omega, ?_⟩
        refine ⟨⟨by show (0 : Int) ≤ ((scanF b).1.getD i tok0).2.2.2; rw [k1]; omega, by show ((scanF b).1.getD i tok0).2.2.2 ≤ IntKind.i64.wrap (((scanF b).1.getD i tok0).2.2.2 + ((⟨(rwF ((scanF b).1.getD i tok0)).toArray⟩ : ByteArray).size : Int)); rw [hto, k1]; omega, by show IntKind.i64.wrap (((scanF b).1.getD i tok0).2.2.2 + ((⟨(rwF ((scanF b).1.getD i tok0)).toArray⟩ : ByteArray).size : Int)) ≤ (b.length : Int); rw [hto]; omega⟩, ?_⟩
        refine ⟨wdS ((scanF b).1.getD i tok0), ?_, ?_⟩
        · show Sub (.row UInt8 1 byteC 0 ((b.take (IntKind.i64.wrap (((scanF b).1.getD i tok0).2.2.2 + ((⟨(rwF ((scanF b).1.getD i tok0)).toArray⟩ : ByteArray).size : Int))).toNat).drop (((scanF b).1.getD i tok0).2.2.2).toNat)) _
          rw [hto, k1]
          show Sub (.row UInt8 1 byteC 0 ((b.take (a + (wdS ((scanF b).1.getD i tok0)).length)).drop a)) _
          rw [List.drop_take, show a + (wdS ((scanF b).1.getD i tok0)).length - a = (wdS ((scanF b).1.getD i tok0)).length by omega, k4]
          exact .refl _
        refine ⟨fun h => absurd h (by show ¬ (!((txt (wdS ((scanF b).1.getD i tok0))).toList == (txt (rwF ((scanF b).1.getD i tok0))).toList)) = true; rw [hrw]; simp), fun _ => ?_⟩
        exact ⟨(i + 1, a + (wdS ((scanF b).1.getD i tok0)).length), ⟨hlt, k3, k6⟩, by show (scanF b).1.length - (i + 1) < (scanF b).1.length - i; omega, ⟨rfl, rfl⟩, .refl _, .refl _, .int hwj, .refl _, .int hto, trivial⟩
      · refine ⟨fun _ => ?_, fun h => absurd h (by decide)⟩
        refine ⟨(), trivial, rfl, trivial, ?_⟩
        exact ⟨.refl _, rfl⟩
    · have s3 : (scanF b).1.length = 0 := by rw [hr.1]; rfl
      have s1 := hr.2.1
      have q1 := hr.2.2.1
      have q2 := hr.2.2.2
      refine ⟨fun _ => ?_, fun h => absurd h (by show ¬ ((scanF b).2.2 != 0) = false; simp [s1])⟩
      refine ⟨fun _ => ?_, fun h => absurd h (by show ¬ (((scanF b).1.length : Int) == 0) = false; rw [s3]; decide)⟩
      refine ⟨fun _ => ?_, fun h => absurd (of_decide_eq_false h) (by show ¬ ¬ ((scanF b).2.1 ≥ 0); omega)⟩
      refine ⟨fun _ => ?_, fun h => absurd (of_decide_eq_false h) (by show ¬ ¬ ((scanF b).2.1 ≤ (b.length : Int)); omega)⟩
      refine ⟨(), trivial, rfl, trivial, ?_⟩
      exact ⟨.refl _, rfl⟩
end Go.Proofs.YtjbpgfcoeaapjaaDoor.Ax
