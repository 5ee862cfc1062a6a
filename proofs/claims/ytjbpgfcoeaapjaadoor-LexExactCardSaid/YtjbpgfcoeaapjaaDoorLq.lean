/- Layer lex: names (the statement). -/
import Derived.Test.YtjbpgfcoeaapjaaDoorLp
import Derived.Test.YtjbpgfcoeaapjaaDoorSh
set_option linter.unusedVariables false
set_option linter.unusedSimpArgs false
namespace Go.Proofs.YtjbpgfcoeaapjaaDoor.Ax
open Go Go.RowKit
theorem u64_range (n : Int) : 0 ≤ IntKind.u64.wrap n ∧ IntKind.u64.wrap n < 18446744073709551616 := by
  simp only [IntKind.wrap, IntKind.bits, IntKind.signed]
  simp
  omega
theorem u64_nat (k : Nat) (h : k < 18446744073709551616) : IntKind.u64.wrap (k : Int) = (k : Int) := by
  simp only [IntKind.wrap, IntKind.bits, IntKind.signed]
  simp
  omega
theorem umod (n : Int) (L : Nat) (h0 : 0 < L) (h1 : L ≤ 1000000000) : ∃ k : Nat, k < L ∧ (IntKind.u64.wrap n).tmod (IntKind.u64.wrap (L : Int)) = (k : Int) := by
  rw [u64_nat L (by omega)]
  obtain ⟨h2, h3⟩ := u64_range n
  refine ⟨((IntKind.u64.wrap n).tmod (L : Int)).toNat, ?_, ?_⟩
  · have := Int.tmod_lt_of_pos (IntKind.u64.wrap n) (show (0 : Int) < L by omega)
    omega
  · have := Int.tmod_nonneg (L : Int) h2
    omega
theorem i64_nat (k : Nat) (h : k < 9223372036854775808) : IntKind.i64.wrap (k : Int) = (k : Int) := wrap_eq _ (by omega) (by omega)
theorem ext_txt (l : List UInt8) (a b : Nat) : (⟨l.toArray⟩ : ByteArray).extract a b = txt ((l.take b).drop a) := by
  apply ByteArray.ext
  rw [ByteArray.data_extract]
  simp only [txt, List.extract_toArray, List.extract_eq_take_drop, List.drop_take]
theorem pairT {a b : Bool} : (a == b) = true ↔ a = b := by simp
def LexNames : Ctr := { A := ByteArray × Int, enc := fun x => [S x.1, I x.2], dom := fun x => True, res := fun _ _ => .tt, gl := tabs }
theorem nm_take {l : List UInt8} {k : Nat} (h : nameF l = true) (h1 : 0 < k) : nameF (l.take k) = true := by
  obtain ⟨c, r, rfl, h2, h3, h4⟩ := name_form.1 h
  cases k with
  | zero => omega
  | succ k =>
    refine name_form.2 ⟨c, r.take k, by simp, h2, ?_, by simp [List.length_take] at h4 ⊢; omega⟩
    rw [List.all_eq_true] at h3 ⊢
    intro x hx
    exact h3 x (List.mem_of_mem_take hx)
theorem nm_seven {l : List UInt8} (h : nameF l = true) : nameF (l ++ [55]) = decide ((l.length : Int) < 20) := by
  obtain ⟨c, r, rfl, h2, h3, h4⟩ := name_form.1 h
  rw [Bool.eq_iff_iff, name_form, decide_eq_true_eq]
  constructor
  · rintro ⟨d, q, e, -, -, h5⟩
    simp at h5 ⊢; omega
  · intro h5
    refine ⟨c, r ++ [55], rfl, h2, by rw [List.all_append, h3]; decide, by simp at h5 ⊢; omega⟩
theorem nm_ahead (l : List UInt8) : nameF (55 :: l) = false := by
  cases h : nameF (55 :: l) with
  | false => rfl
  | true =>
    obtain ⟨c, r, e, h2, -, -⟩ := name_form.1 h
    cases e
    exact absurd h2 (by decide)
theorem nm_blank (l : List UInt8) : nameF (l ++ [32]) = false := by
  cases h : nameF (l ++ [32]) with
  | false => rfl
  | true =>
    obtain ⟨c, r, e, h2, h3, -⟩ := name_form.1 h
    have hall : (l ++ [32]).all isAl = true := by rw [e, List.all_cons, (let_not h2).2.2.2.2, h3]; rfl
    rw [List.all_append] at hall
    simp at hall
    exact absurd hall.2 (by decide)
theorem nm_scan {l : List UInt8} (h : nameF l = true) : scanF l = ([(1, txt l, 0, 0)], 0, 0) := by
  have h1 := tok_name h
  have h2 := scan_word 0 (w := l) (r := []) (by rw [h1]) (.inl rfl)
  rw [List.append_nil, h1, scanI_nil] at h2
  obtain ⟨c, r, e, -, -, h4⟩ := name_form.1 h
  unfold scanF
  rw [if_neg (by omega), h2]
  rfl
set_option maxRecDepth 100000 in
set_option maxHeartbeats 4000000 in
theorem LexNames_ok : CtrSound Tryd.prog 5 LexNames :=
  ctr_of_ax (env_okB tys_ok (eqs := []) trivial (cs := [(15, scanC), (17, nameC), (14, wakesC)]) ⟨scan_ok, name_ok, wakes_ok, trivial⟩ (bs := []) trivial (gl := tabs)) mixed _ Tryd.func5 (by kernel_rfl) rfl (fun _ _ => Nat.le_of_ble_eq_true rfl) fun ((s, n) : ByteArray × Int) id hd => by
    obtain ⟨l, rfl⟩ : ∃ l : List UInt8, s = ⟨l.toArray⟩ := ⟨s.data.toList, rfl⟩
    have hz := size_txt l
    refine ⟨fun h => ?_, fun h => ?_⟩
    · exact ⟨.refl _, rfl⟩
    have hle : l.length ≤ 100 := by
      have h : decide (((⟨l.toArray⟩ : ByteArray).size : Int) > 100) = false := h
      have := of_decide_eq_false h; omega
    refine ⟨l, ⟨.refl _, trivial⟩, rfl, (show l.length ≤ 4611686018427387904 by omega), ?_⟩
    refine ⟨fun h => ?_, fun h => ?_⟩
    · refine ⟨by rw [hz]; have h3 : (⟨#[32]⟩ : ByteArray).size = 1 := rfl; omega, ?_⟩
      refine ⟨l ++ [32], ⟨.str (txt_app l [32]), trivial⟩, rfl, (show (l ++ [32]).length ≤ 4611686018427387904 by simp; omega), ?_⟩
      have hb := nm_blank l
      refine ⟨fun h2 => ?_, fun h2 => ?_⟩
      · refine ⟨(), trivial, rfl, trivial, ?_⟩
        exact ⟨.refl _, rfl⟩
      · exact absurd h2 (by show ¬ (!nameF (l ++ [32])) = false; rw [hb]; decide)
    have hnm : nameF l = true := by have h : (!nameF l) = false := h
                                    simpa using h
    obtain ⟨c, r, hlr, -, -, h20⟩ := name_form.1 hnm
    have hpos : 0 < l.length := by rw [hlr]; simp
    obtain ⟨k, hk1, hk2⟩ := umod n l.length hpos (by omega)
    have hk3 : IntKind.i64.wrap (1 + IntKind.i64.wrap ((IntKind.u64.wrap n).tmod (IntKind.u64.wrap (({ data := l.toArray } : ByteArray).size : Int)))) = ((k + 1 : Nat) : Int) := by
      rw [hz, hk2, i64_nat k (by omega), wrap_eq _ (by omega) (by omega)]; omega
    refine ⟨by rw [hz, u64_nat _ (by omega)]; omega, ?_⟩
    refine ⟨l, ⟨.refl _, trivial⟩, rfl, (show l.length ≤ 4611686018427387904 by omega), ?_⟩
    have hsc := nm_scan hnm
    have s1 : (scanF l).1 = [(1, txt l, 0, 0)] := by rw [hsc]
    have s2 : (scanF l).2.2 = 0 := by rw [hsc]
    have s3 : (scanF l).1.length = 1 := by rw [s1]; rfl
    have s4 : ((scanF l).1.getD 0 tok0).1 = 1 := by rw [s1]; rfl
    have s5 : ((scanF l).1.getD 0 tok0).2.1 = txt l := by rw [s1]; rfl
    refine ⟨fun h2 => ?_, fun h2 => absurd h2 (by rw [hz]; simp; omega)⟩
    refine ⟨⟨by decide, by rw [hk3]; omega, by rw [hk3, hz]; omega⟩, ?_⟩
    refine ⟨l.take (k + 1), ⟨.str (by rw [hk3]; show (⟨l.toArray⟩ : ByteArray).extract 0 (k + 1) = _; rw [ext_txt]; rfl), trivial⟩, rfl, (show (l.take (k + 1)).length ≤ 4611686018427387904 by rw [List.length_take]; omega), ?_⟩
    refine ⟨fun h3 => ?_, fun h3 => absurd h3 (by rw [nm_take hnm (Nat.succ_pos k)]; decide)⟩
    refine ⟨by rw [hz]; have h3 : (⟨#[55]⟩ : ByteArray).size = 1 := rfl; omega, ?_⟩
    refine ⟨l ++ [55], ⟨.str (txt_app l [55]), trivial⟩, rfl, (show (l ++ [55]).length ≤ 4611686018427387904 by simp; omega), ?_⟩
    refine ⟨fun h4 => ?_, fun h4 => absurd h4 (by show ¬ (nameF (l ++ [55]) == decide ((({ data := l.toArray } : ByteArray).size : Int) < 20)) = false; rw [nm_seven hnm, hz]; simp)⟩
    refine ⟨by rw [hz]; have h3 : (⟨#[55]⟩ : ByteArray).size = 1 := rfl; omega, ?_⟩
    refine ⟨55 :: l, ⟨.str (txt_app [55] l), trivial⟩, rfl, (show (55 :: l).length ≤ 4611686018427387904 by simp; omega), ?_⟩
    refine ⟨fun h5 => ?_, fun h5 => absurd h5 (by show ¬ (!nameF (55 :: l)) = false; rw [nm_ahead]; decide)⟩
    refine ⟨fun h6 => ?_, fun h6 => absurd h6 (by show ¬ ((scanF l).2.2 == 0) = false; rw [s2]; decide)⟩
    refine ⟨fun h7 => ?_, fun h7 => absurd h7 (by show ¬ (((scanF l).1.length : Int) == 1) = false; rw [s3]; decide)⟩
    refine ⟨by rw [s3]; decide, ?_⟩
    refine ⟨fun h8 => ?_, fun h8 => absurd h8 (by show ¬ (((scanF l).1.getD 0 tok0).1 == 1) = false; rw [s4]; decide)⟩
    refine ⟨by rw [s3]; decide, ?_⟩
    refine ⟨fun h9 => ?_, fun h9 => absurd h9 (by show ¬ ((((scanF l).1.getD 0 tok0).2.1).toList == (txt l).toList) = false; rw [s5]; simp)⟩
    refine ⟨(), trivial, rfl, trivial, ?_⟩
    exact ⟨.refl _, rfl⟩
end Go.Proofs.YtjbpgfcoeaapjaaDoor.Ax
