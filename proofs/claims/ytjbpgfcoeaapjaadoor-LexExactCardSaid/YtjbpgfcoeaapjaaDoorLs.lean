/- Layer lex: words joined are scanned again (the statements). -/
import Derived.Test.YtjbpgfcoeaapjaaDoorLr
set_option linter.unusedVariables false
set_option linter.unusedSimpArgs false
namespace Go.Proofs.YtjbpgfcoeaapjaaDoor.Ax
open Go Go.RowKit
theorem wf_i64 {n : Int} (h : (Lit.int .i64 n).wf = true) : -9223372036854775808 ≤ n ∧ n ≤ 9223372036854775807 := by
  simp only [Lit.wf, Bool.and_eq_true, decide_eq_true_eq] at h
  have h3 : IntKind.min .i64 = -9223372036854775808 := by decide
  have h4 : IntKind.max .i64 = 9223372036854775807 := by decide
  omega
theorem toks_ok {l : List (Int × ByteArray × Int × Int)} (h : sh28.ok l) : ∀ t ∈ l, okT t := fun t ht => by
  obtain ⟨h1, h2, h3, h4⟩ := h.2 t ht
  have h3 := wf_i64 h3
  exact ⟨h3.1, h3.2, Nat.le_trans h2 (by decide)⟩
theorem join_cases (l : List (Int × ByteArray × Int × Int)) : (l.all wdOk = true ∧ joinF l = (Lib.join (l.map wdS) [32], 0)) ∨ (l.all wdOk = false ∧ joinF l = ([], 4)) := by
  unfold joinF
  cases h : l.all wdOk with
  | true => exact .inl ⟨rfl, if_pos rfl⟩
  | false => exact .inr ⟨rfl, if_neg (by simp)⟩
theorem join_length {l : List (Int × ByteArray × Int × Int)} (h : l.all wdOk = true) : (Lib.join (l.map wdS) [32]).length ≤ 21 * l.length := by
  have hb := lens_le 20 (l.map wdS) (fun x hx => by
    obtain ⟨t, ht, rfl⟩ := List.mem_map.1 hx
    exact (wd_len (List.all_eq_true.1 h t ht)).1)
  simp only [List.length_map] at hb
  have key : ∀ m : List (List UInt8), (Lib.join m [32]).length ≤ Lib.lens m + m.length := by
    intro m
    cases m with
    | nil => simp [Lib.join_nil]
    | cons x r =>
      rw [Lib.join_cons]
      have : ∀ r : List (List UInt8), (Lib.joinTail [32] r).length = Lib.lens r + r.length := by
        intro r
        induction r with
        | nil => rfl
        | cons y r ih =>
          simp only [Lib.joinTail, List.map_cons, List.flatten_cons, List.length_append, Lib.lens, List.sum_cons, List.length_cons] at *
          simp only [List.length_nil]
          omega
      simp only [List.length_append, this, Lib.lens, List.map_cons, List.sum_cons, List.length_cons]
      omega
  have := key (l.map wdS)
  simp only [List.length_map] at this
  omega
theorem scanF_of {b : List UInt8} {l : List (Int × ByteArray × Int × Int)} (h1 : b.length ≤ 6000) (h2 : scanI 0 b = (l, none)) : scanF b = (l, 0, 0) := by
  unfold scanF; rw [if_neg (by omega), h2]
theorem scanF_bad {b : List UInt8} {l : List (Int × ByteArray × Int × Int)} {i : Nat} (h1 : b.length ≤ 6000) (h2 : scanI 0 b = (l, some i)) : scanF b = ([], (i : Int), 3) := by
  unfold scanF; rw [if_neg (by omega), h2]
def LexBack : Ctr := { A := List (Int × ByteArray × Int × Int), enc := fun l => [.row (Int × ByteArray × Int × Int) 4 tokC tok0 l], dom := fun l => sh28.ok l, res := fun _ _ => .tt, gl := tabs }
set_option maxRecDepth 100000 in
set_option maxHeartbeats 4000000 in
theorem LexBack_ok : CtrSound Tryd.prog 8 LexBack :=
  ctr_of_ax (env_okB tys_ok (eqs := []) trivial (cs := [(20, ljoinC), (15, scanC), (14, wakesC)]) ⟨ljoin_ok, scan_ok, wakes_ok, trivial⟩ (bs := []) trivial (gl := tabs)) mixed _ Tryd.func8 (by kernel_rfl) rfl (fun _ _ => Nat.le_of_ble_eq_true rfl) fun (l : List (Int × ByteArray × Int × Int)) id hd => by
    have hok := toks_ok hd
    refine ⟨fun h => ?_, fun h => ?_⟩
    · exact ⟨.refl _, rfl⟩
    have hle : l.length ≤ 200 := by have := of_decide_eq_false h; omega
    refine ⟨l, ⟨.refl _, trivial⟩, rfl, (show l.length ≤ 100000 ∧ ∀ t ∈ l, okT t from ⟨by omega, hok⟩), ?_⟩
    refine (join_cases l).elim (fun hq => ?_) (fun hq => ?_)
    · have ha := hq.1
      have hj := hq.2
      have j1 : (joinF l).2 = 0 := by rw [hj]
      have j2 : (joinF l).1 = Lib.join (l.map wdS) [32] := by rw [hj]
      have hjl := join_length ha
      refine ⟨fun h => absurd h (by rw [j1]; decide), fun _ => ?_⟩
      refine ⟨(joinF l).1, ⟨.own .., trivial⟩, rfl, (show (joinF l).1.length ≤ 4611686018427387904 by rw [j2]; omega), ?_⟩
      refine ⟨fun h => absurd (of_decide_eq_true h) (by rw [j2]; omega), fun _ => ?_⟩
      have hs : scanF (joinF l).1 = (placeF 0 l, 0, 0) := by rw [j2]; exact scanF_of (by omega) (scan_all l ha)
      have s1 : (scanF (joinF l).1).2.2 = 0 := by rw [hs]
      have s2 : (scanF (joinF l).1).1 = placeF 0 l := by rw [hs]
      have s3 : (scanF (joinF l).1).1.length = l.length := by rw [s2, placeF_length]
      have s4 := placeF_at 0 l
      rw [← s2] at s4
      refine ⟨fun h => absurd h (by rw [s1]; decide), fun _ => ⟨fun h => absurd h (by rw [s3]; simp), fun _ => ?_⟩⟩
      refine ⟨Nat, fun i => [(0, .row (Int × ByteArray × Int × Int) 4 tokC tok0 l), (5, .row (Int × ByteArray × Int × Int) 4 tokC tok0 (scanF (joinF l).1).1), (8, I i)], fun _ => [], fun i => i ≤ l.length, fun i => l.length - i, ⟨0, Nat.zero_le _, ⟨⟨rfl, rfl⟩, .refl _, .own .., .refl _, trivial⟩⟩, fun (i : Nat) hil => ?_⟩
      have hil : i ≤ l.length := hil
      have hwj : IntKind.i64.wrap ((i : Int) + 1) = ((i + 1 : Nat) : Int) := by rw [wrap_eq _ (by omega) (by omega)]; omega
      refine ⟨fun h => ?_, fun h => ?_⟩
      · have hlt : i < l.length := dlt h
        have q1 := (s4 i hlt).1
        have q2 := (s4 i hlt).2.1
        have q3 := (s4 i hlt).2.2
        refine ⟨by kernel_rfl, ?_⟩
        refine ⟨by rw [s3]; omega, by omega, fun h => absurd h (by show ¬ ((((scanF (joinF l).1).1.getD i tok0).1 != (l.getD i tok0).1) = true); rw [q1]; simp), fun _ => ?_⟩
        refine ⟨by rw [s3]; omega, by omega, fun h => absurd h (by show ¬ ((!(((scanF (joinF l).1).1.getD i tok0).2.1.toList == (l.getD i tok0).2.1.toList)) = true); rw [q2]; simp), fun _ => ?_⟩
        refine ⟨by rw [s3]; omega, by omega, fun h => absurd h (by show ¬ ((((scanF (joinF l).1).1.getD i tok0).2.2.1 != (l.getD i tok0).2.2.1) = true); rw [q3]; simp), fun _ => ?_⟩
        exact ⟨i + 1, hlt, by show l.length - (i + 1) < l.length - i; omega, ⟨rfl, rfl⟩, .refl _, .refl _, .int hwj, trivial⟩
      · refine ⟨(), trivial, rfl, trivial, ?_⟩
        exact ⟨.refl _, rfl⟩
    · have ha := hq.1
      have hj := hq.2
      have j1 : (joinF l).2 = 4 := by rw [hj]
      have j2 : (joinF l).1 = [] := by rw [hj]
      refine ⟨fun h => ?_, fun h => absurd h (by rw [j1]; decide)⟩
      refine ⟨fun h => ?_, fun h => absurd h (by rw [j2]; decide)⟩
      refine ⟨(), trivial, rfl, trivial, ?_⟩
      exact ⟨.refl _, rfl⟩
end Go.Proofs.YtjbpgfcoeaapjaaDoor.Ax
