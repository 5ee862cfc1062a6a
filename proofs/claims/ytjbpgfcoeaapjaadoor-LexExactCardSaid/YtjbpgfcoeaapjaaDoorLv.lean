/- Layer lex: as many bytes as may be (the statement). -/
import Derived.Test.YtjbpgfcoeaapjaaDoorLu
set_option linter.unusedVariables false
set_option linter.unusedSimpArgs false
namespace Go.Proofs.YtjbpgfcoeaapjaaDoor.Ax
open Go Go.RowKit
def alt (c : UInt8) : Nat → List UInt8
  | 0 => []
  | 1 => [c]
  | n + 2 => c :: 32 :: alt c n
theorem alt_length (c : UInt8) : ∀ n, (alt c n).length = n
  | 0 => rfl
  | 1 => rfl
  | n + 2 => by simp [alt, alt_length c n]
theorem alt_app (c : UInt8) : ∀ k, alt c (2 * k) ++ [c, 32] = alt c (2 * (k + 1))
  | 0 => rfl
  | k + 1 => by
    show c :: 32 :: (alt c (2 * k) ++ [c, 32]) = _
    rw [alt_app c k]; rfl
theorem alt_take (c : UInt8) : ∀ n m, n ≤ m → (alt c m).take n = alt c n
  | 0, _, _ => by simp [alt]
  | 1, 0, h => by omega
  | 1, 1, _ => rfl
  | 1, m + 2, _ => rfl
  | n + 2, 0, h => by omega
  | n + 2, 1, h => by omega
  | n + 2, m + 2, h => by
    show c :: 32 :: (alt c m).take n = _
    rw [alt_take c n m (by omega)]; rfl
theorem tok_let {c : UInt8} (hc : isLet c = true) : (tokenF [c]).2 = true := by
  rw [tok_name (name_form.2 ⟨c, [], rfl, hc, rfl, by simp⟩)]
theorem alt_scan {c : UInt8} (hc : isLet c = true) : ∀ (n i : Nat), ∃ l, scanI i (alt c n) = (l, none) ∧ l.length = (n + 1) / 2
  | 0, i => ⟨[], rfl, rfl⟩
  | 1, i => by
    have h := scan_word i (w := [c]) (r := []) (tok_let hc) (.inl rfl)
    exact ⟨[setAt (tokenF [c]).1 i], h, rfl⟩
  | n + 2, i => by
    have h := scan_word i (w := [c]) (r := 32 :: alt c n) (tok_let hc) (.inr (by rfl))
    have h2 := scan_blanks (i + 1) [32] (alt c n) (by decide)
    obtain ⟨l, hl, hn⟩ := alt_scan hc n (i + 1 + 1)
    have h3 : scanI (i + 1) (32 :: alt c n) = (l, none) := h2.trans hl
    refine ⟨setAt (tokenF [c]).1 i :: l, ?_, by rw [List.length_cons, hn]; omega⟩
    have h : scanI i (alt c (n + 2)) = (setAt (tokenF [c]).1 i :: (scanI (i + 1) (32 :: alt c n)).1, (scanI (i + 1) (32 :: alt c n)).2) := h
    rw [h, h3]
theorem alt_ok {c : UInt8} (hc : isLet c = true) (n : Nat) (h : n ≤ 6000) : (scanF (alt c n)).2 = (0, 0) ∧ (scanF (alt c n)).1.length = (n + 1) / 2 := by
  obtain ⟨l, hl, hn⟩ := alt_scan hc n 0
  rw [scanF_of (by rw [alt_length]; exact h) hl]
  exact ⟨rfl, hn⟩
theorem alt_long (c : UInt8) (n : Nat) (h : 6000 < n) : scanF (alt c n) = ([], 0, 2) := if_pos (by rw [alt_length]; exact h)
theorem rep_name {c : UInt8} (hc : isLet c = true) (n : Nat) (h0 : 0 < n) (h : n ≤ 20) : nameF (List.replicate n c) = true := by
  refine name_form.2 ⟨c, List.replicate (n - 1) c, ?_, hc, ?_, by simpa using h⟩
  · rw [← List.replicate_succ]; congr 1; omega
  · rw [List.all_replicate, (let_not hc).2.2.2.2]; split <;> rfl
theorem rep_long (l : List UInt8) (h : 20 < l.length) : nameF l = false := by
  unfold nameF
  rw [decide_eq_false (by omega)]; rfl
def LexEdges : Ctr := { A := Int × UInt8, enc := fun x => [I x.1, Y x.2], dom := fun x => True, res := fun _ _ => .tt, gl := tabs }
set_option maxRecDepth 100000 in
set_option maxHeartbeats 4000000 in
theorem LexEdges_ok : CtrSound Tryd.prog 6 LexEdges :=
  ctr_of_ax (env_okB tys_ok (eqs := []) trivial (cs := [(15, scanC), (17, nameC), (14, wakesC)]) ⟨scan_ok, name_ok, wakes_ok, trivial⟩ (bs := []) trivial (gl := tabs) (cut := [4])) mixed _ Tryd.func6 (by kernel_rfl) rfl (fun _ _ => Nat.le_of_ble_eq_true rfl) fun ((n, c) : Int × UInt8) id hd => by
    refine Exists.elim (umod n 3 (by decide) (by decide)) fun k hk => ?_
    have hw : IntKind.i64.wrap (5999 + IntKind.i64.wrap ((IntKind.u64.wrap n).tmod (IntKind.u64.wrap ((3 : Nat) : Int)))) = ((5999 + k : Nat) : Int) := by
      have := hk.1
      rw [hk.2, i64_nat k (by omega), wrap_eq _ (by omega) (by omega)]; omega
    refine ⟨by decide, ?_⟩
    refine ⟨UInt8, fun c => [(0, I ((5999 + k : Nat) : Int)), (1, Y c)], fun _ => [], fun c => isLet c = true, ?_, fun c hc => ?_⟩
    · have hlo : ∀ (a : ¬ c.toNat < 97) (b : ¬ 122 < c.toNat), isLet c = true := fun a b => by simp [isLet]; omega
      have ha : isLet 97 = true := by decide
      refine ⟨fun h => ?_, fun h => ?_⟩
      · exact ⟨97, ha, ⟨rfl, rfl⟩, .int hw, .refl _, trivial⟩
      · refine ⟨fun h2 => ?_, fun h2 => ?_⟩
        · exact ⟨97, ha, ⟨rfl, rfl⟩, .int hw, .refl _, trivial⟩
        · exact ⟨c, hlo (by dsimp only at h; have := of_decide_eq_false h; omega) (by dsimp only at h2; have := of_decide_eq_false h2; omega), ⟨rfl, rfl⟩, .int hw, .refl _, trivial⟩
    have hc : isLet c = true := hc
    refine ⟨Nat, fun j => [(0, I ((5999 + k : Nat) : Int)), (1, Y c), (5, .own UInt8 1 byteC 0 (alt c (2 * j)) 28)], fun _ => [], fun j => 2 * j ≤ 5999 + k + 1, fun j => 7000 - j, ⟨0, by omega, ⟨⟨rfl, rfl⟩, .refl _, .refl _, .nilO .., trivial⟩⟩, fun j hj => ?_⟩
    have hj : 2 * j ≤ 5999 + k + 1 := hj
    have hlen := alt_length c (2 * j)
    refine ⟨fun h => ?_, fun h => ?_⟩
    · have hlt : 2 * j < 5999 + k := by
        have h : decide (((alt c (2 * j)).length : Int) < ((5999 + k : Nat) : Int)) = true := h
        have := of_decide_eq_true h; omega
      refine ⟨UInt8, byteC, 0, [c, 32], ⟨rfl, fun _ => rfl⟩, ⟨.refl _, .refl _, trivial⟩, rfl, ?_⟩
      refine ⟨UInt8, byteC, 0, alt c (2 * j), [c, 32], 28, ⟨.refl _, .own ..⟩, fun _ => rfl, (by simp only [List.length_cons, List.length_nil, hlen]; omega), ?_⟩
      exact ⟨j + 1, by show 2 * (j + 1) ≤ _; omega, by show 7000 - (j + 1) < 7000 - j; omega, ⟨rfl, rfl⟩, .refl _, .refl _, (by rw [← alt_app]; exact .refl _), trivial⟩
    have hge : 5999 + k ≤ 2 * j := by
      have h : decide (((alt c (2 * j)).length : Int) < ((5999 + k : Nat) : Int)) = false := h
      have := of_decide_eq_false h; omega
    have htk := alt_take c (5999 + k) (2 * j) hge
    have hk3 := hk.1
    refine ⟨⟨by omega, by rw [hlen]; omega⟩, ?_⟩
    refine ⟨alt c (5999 + k), ⟨(show Sub (.row UInt8 1 byteC 0 ((alt c (2 * j)).take (5999 + k))) (.row UInt8 1 byteC 0 (alt c (5999 + k))) by rw [htk]; exact .refl _), trivial⟩, rfl, (show (alt c (5999 + k)).length ≤ 4611686018427387904 by rw [alt_length]; omega), ?_⟩
    refine ⟨fun h => ?_, fun h => ?_⟩
    · have hs := alt_long c (5999 + k) (by have h : decide (((5999 + k : Nat) : Int) > 6000) = true := h
                                           have := of_decide_eq_true h; omega)
      have s1 : (scanF (alt c (5999 + k))).2.2 = 2 := by rw [hs]
      have s2 : (scanF (alt c (5999 + k))).2.1 = 0 := by rw [hs]
      have s3 : (scanF (alt c (5999 + k))).1.length = 0 := by rw [hs]; rfl
      refine ⟨fun h => ?_, fun h => absurd h (by show ¬ ((scanF (alt c (5999 + k))).2.2 == 2) = false; rw [s1]; decide)⟩
      refine ⟨fun h => ?_, fun h => absurd h (by show ¬ ((scanF (alt c (5999 + k))).2.1 == 0) = false; rw [s2]; decide)⟩
      refine ⟨fun h => ?_, fun h => absurd h (by show ¬ (((scanF (alt c (5999 + k))).1.length : Int) == 0) = false; rw [s3]; decide)⟩
      refine ⟨(), trivial, rfl, trivial, ?_⟩
      exact ⟨.refl _, rfl⟩
    have hle : 5999 + k ≤ 6000 := by
      have h : decide (((5999 + k : Nat) : Int) > 6000) = false := h
      have := of_decide_eq_false h; omega
    have hs := alt_ok hc (5999 + k) hle
    have s1 : (scanF (alt c (5999 + k))).2.2 = 0 := by rw [hs.1]
    refine ⟨Nat, fun j => [(0, I ((5999 + k : Nat) : Int)), (1, Y c), (9, X (List.replicate j c)), (8, I 0), (6, .row (Int × ByteArray × Int × Int) 4 tokC tok0 (scanF (alt c (5999 + k))).1)], fun _ => [], fun j => j ≤ 20, fun j => 20 - j, ⟨0, by omega, ⟨⟨rfl, rfl⟩, .refl _, .refl _, .refl _, .int s1, .own .., trivial⟩⟩, fun j hj => ?_⟩
    have hj : j ≤ 20 := hj
    have hz := size_txt (List.replicate j c)
    rw [List.length_replicate] at hz
    refine ⟨fun h => ?_, fun h => ?_⟩
    · have hlt : j < 20 := by
        have h : decide (((⟨(List.replicate j c).toArray⟩ : ByteArray).size : Int) < 20) = true := h
        have := of_decide_eq_true h; omega
      refine ⟨UInt8, byteC, 0, [c], ⟨rfl, fun _ => rfl⟩, ⟨.refl _, trivial⟩, rfl, ?_⟩
      refine ⟨[c], .own .., ?_⟩
      refine ⟨by rw [hz]; have h3 : (⟨#[c]⟩ : ByteArray).size = 1 := rfl; have h4 : ({ data := [c].toArray } : ByteArray).size = 1 := rfl; omega, ?_⟩
      exact ⟨j + 1, hlt, by show 20 - (j + 1) < 20 - j; omega, ⟨rfl, rfl⟩, .refl _, .refl _, .str (by rw [List.replicate_succ']; exact txt_app _ [c]), .refl _, .refl _, trivial⟩
    have h20 : j = 20 := by
      have h : decide (((⟨(List.replicate j c).toArray⟩ : ByteArray).size : Int) < 20) = false := h
      have := of_decide_eq_false h; omega
    have n1 := rep_name hc j (by omega) (by omega)
    have n2 : nameF (List.replicate j c ++ [97]) = false := rep_long _ (by simp; omega)
    have hq : IntKind.i64.wrap ((IntKind.i64.wrap (((5999 + k : Nat) : Int) + 1)).tdiv 2) = ((scanF (alt c (5999 + k))).1.length : Int) := by
      have hk3 := hk.1
      have e : (((5999 + k : Nat) : Int) + 1) = ((5999 + k + 1 : Nat) : Int) := by omega
      have e2 : ((5999 + k + 1 : Nat) : Int).tdiv 2 = (((5999 + k + 1) / 2 : Nat) : Int) := (Int.ofNat_tdiv _ _).symm
      rw [hs.2, wrap_eq (((5999 + k : Nat) : Int) + 1) (by omega) (by omega), e, e2, wrap_eq _ (by omega) (by omega)]
    refine ⟨fun h => ?_, fun h => absurd h (by decide)⟩
    refine ⟨by decide, ?_⟩
    refine ⟨fun h => ?_, fun h => absurd h (by rw [hq]; simp)⟩
    refine ⟨List.replicate j c, ⟨.refl _, trivial⟩, rfl, (show (List.replicate j c).length ≤ 4611686018427387904 by rw [List.length_replicate]; omega), ?_⟩
    refine ⟨fun h => ?_, fun h => absurd h (by rw [n1]; decide)⟩
    refine ⟨by rw [hz]; have h3 : (⟨#[97]⟩ : ByteArray).size = 1 := rfl; omega, ?_⟩
    refine ⟨List.replicate j c ++ [97], ⟨.str (txt_app _ [97]), trivial⟩, rfl, (show (List.replicate j c ++ [97]).length ≤ 4611686018427387904 by simp; omega), ?_⟩
    refine ⟨fun h => ?_, fun h => absurd h (by show ¬ (!nameF (List.replicate j c ++ [97])) = false; rw [n2]; decide)⟩
    refine ⟨(), trivial, rfl, trivial, ?_⟩
    exact ⟨.refl _, rfl⟩
end Go.Proofs.YtjbpgfcoeaapjaaDoor.Ax
