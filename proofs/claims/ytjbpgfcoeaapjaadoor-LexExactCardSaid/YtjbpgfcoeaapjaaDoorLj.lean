/- Layer lex: the reference's Join and Scan. -/
import Derived.Test.YtjbpgfcoeaapjaaDoorLk
set_option linter.unusedVariables false
set_option linter.unusedSimpArgs false
namespace Go.Proofs.YtjbpgfcoeaapjaaDoor.Ax
open Go Go.RowKit
def joinP (l : List (Int × ByteArray × Int × Int)) (i : Nat) : List UInt8 := Lib.join ((l.take i).map wdS) [32]
theorem joinP_one (l : List (Int × ByteArray × Int × Int)) (h : 0 < l.length) : joinP l 1 = wdS (l.getD 0 tok0) := by
  unfold joinP
  rw [show (1 : Nat) = 0 + 1 from rfl, mapT l tok0 wdS 0 h]
  simp [Lib.join_cons, Lib.joinTail]
theorem joinP_step (l : List (Int × ByteArray × Int × Int)) (i : Nat) (h : i < l.length) (h0 : 0 < i) : joinP l (i + 1) = joinP l i ++ [32] ++ wdS (l.getD i tok0) := by
  unfold joinP
  rw [mapT l tok0 wdS i h, join_two (by intro c; have := congrArg List.length c; rw [List.length_map, List.length_take] at this; simp only [List.length_nil] at this; omega) (by simp)]
  simp [Lib.join_cons, Lib.joinTail]
theorem joinP_len (l : List (Int × ByteArray × Int × Int)) (i : Nat) (h : (l.take i).all wdOk = true) : (joinP l i).length ≤ 21 * i := by
  have := join_length h
  rw [List.length_take] at this
  unfold joinP; omega
def rjoinC : Ctr := { A := List (Int × ByteArray × Int × Int), enc := fun l => [.row (Int × ByteArray × Int × Int) 4 tokC tok0 l], dom := fun l => l.length ≤ 100000 ∧ ∀ t ∈ l, okT t, res := fun l id => .tup [.own UInt8 1 byteC 0 (joinF l).1 id, I (joinF l).2] }
set_option maxRecDepth 100000 in
theorem rjoin_ok : CtrSound Tryd.prog 21 rjoinC :=
  ctr_of_ax (env_okB tys_ok (eqs := []) trivial (cs := [(16, rwdC)]) ⟨rwd_ok, trivial⟩ (bs := []) trivial (cut := [10])) mixed _ Tryd.func21 (by kernel_rfl) rfl (fun _ _ => Nat.le_of_ble_eq_true rfl) fun (l : List (Int × ByteArray × Int × Int)) id hd => by
    have hd : l.length ≤ 100000 ∧ ∀ t ∈ l, okT t := hd
    have hl := hd.1
    have hok := hd.2
    refine ⟨Nat, fun i => [(0, .row (Int × ByteArray × Int × Int) 4 tokC tok0 l), (5, I i), (4, .own UInt8 1 byteC 0 (joinP l i) 27)], fun _ => [], fun i => i ≤ l.length ∧ (l.take i).all wdOk = true, fun i => l.length - i, ⟨0, ⟨Nat.zero_le _, rfl⟩, ⟨⟨rfl, rfl⟩, .refl _, .refl _, .nilO .., trivial⟩⟩, fun (i : Nat) hi => ?_⟩
    have h1 : i ≤ l.length := hi.1
    have h2 : (l.take i).all wdOk = true := hi.2
    have hwj : IntKind.i64.wrap ((i : Int) + 1) = ((i + 1 : Nat) : Int) := by rw [wrap_eq _ (by omega) (by omega)]; omega
    refine ⟨fun h => ?_, fun h => ?_⟩
    · have hlt : i < l.length := dlt h
      refine ⟨by omega, ?_⟩
      refine ⟨l.getD i tok0, ⟨.refl _, trivial⟩, rfl, hok _ (getT_mem l tok0 i hlt), ?_⟩
      have ht := txt_nil (rwF (l.getD i tok0))
      refine ⟨fun h3 => ?_, fun h3 => ?_⟩
      · have h3 : wdOk (l.getD i tok0) = false := by
          have h : ((txt (rwF (l.getD i tok0))).toList == (⟨#[]⟩ : ByteArray).toList) = true := h3
          rw [ht] at h
          have h := of_decide_eq_true h
          cases hc : wdOk (l.getD i tok0) with
          | false => rfl
          | true =>
            have := (wd_len hc).2
            unfold rwF at h
            rw [if_pos hc] at h; omega
        have e : joinF l = ([], 4) := by
          unfold joinF
          rw [if_neg]
          intro c
          have := List.all_eq_true.1 c _ (getT_mem l tok0 i hlt)
          rw [h3] at this; cases this
        exact ⟨(show Sub _ (.tup [.own UInt8 1 byteC 0 (joinF l).1 id, I (joinF l).2]) by rw [e]; exact .tup2 (.nilO ..) (.refl _)), rfl⟩
      · have h3 : wdOk (l.getD i tok0) = true := by
          have h : ((txt (rwF (l.getD i tok0))).toList == (⟨#[]⟩ : ByteArray).toList) = false := h3
          rw [ht] at h
          have h := of_decide_eq_false h
          cases hc : wdOk (l.getD i tok0) with
          | true => rfl
          | false =>
            unfold rwF at h
            rw [if_neg (by rw [hc]; decide)] at h; exact absurd rfl h
        have hrw : rwF (l.getD i tok0) = wdS (l.getD i tok0) := if_pos h3
        have hall : (l.take (i + 1)).all wdOk = true := by rw [allT _ tok0 _ _ hlt, h2, h3]; rfl
        have hwl := wd_len h3
        have hpl := joinP_len l i h2
        refine ⟨List UInt8 × Bool, fun s => [(0, .row (Int × ByteArray × Int × Int) 4 tokC tok0 l), (5, I i), (4, .own UInt8 1 byteC 0 s.1 (if s.2 then 24 else 27)), (6, X (wdS (l.getD i tok0)))], fun _ => [], fun s => joinP l (i + 1) = s.1 ++ wdS (l.getD i tok0) ∧ s.1.length ≤ 21 * i + 1, ?_, fun ((u, v) : List UInt8 × Bool) hs => ?_⟩
        · refine ⟨fun h => ?_, fun h => ?_⟩
          · have hi0 : 0 < i := by
              have h : decide ((i : Int) > 0) = true := h
              have := of_decide_eq_true h; omega
            refine ⟨UInt8, byteC, 0, [32], ⟨rfl, fun _ => rfl⟩, ⟨.refl _, trivial⟩, rfl, ?_⟩
            refine ⟨UInt8, byteC, 0, joinP l i, [32], 27, ⟨.refl _, .own ..⟩, fun _ => rfl, (by simp only [List.length_cons, List.length_nil]; omega), ?_⟩
            exact ⟨(joinP l i ++ [32], true), ⟨joinP_step l i hlt hi0, by rw [List.length_append]; simp only [List.length_cons, List.length_nil]; omega⟩, ⟨rfl, rfl⟩, .refl _, .refl _, .refl _, .str (by rw [hrw]), trivial⟩
          · have hi0 : i = 0 := by
              have h : decide ((i : Int) > 0) = false := h
              have := of_decide_eq_false h; omega
            exact ⟨(joinP l i, false), ⟨by rw [hi0, joinP_one l (by omega)]; rfl, by show (joinP l i).length ≤ _; omega⟩, ⟨rfl, rfl⟩, .refl _, .refl _, .refl _, .str (by rw [hrw]), trivial⟩
        have hs1 : joinP l (i + 1) = u ++ wdS (l.getD i tok0) := hs.1
        have hs2 : u.length ≤ 21 * i + 1 := hs.2
        have nx : joinP l (i + 1) = u ++ wdS (l.getD i tok0) := hs1
        cases v
        · refine ⟨UInt8, byteC, 0, u, wdS (l.getD i tok0), 27, ⟨.refl _, .refl _⟩, fun _ => rfl, (by show (u.length + (wdS (l.getD i tok0)).length) * 1 ≤ _; omega), ?_⟩
          exact ⟨i + 1, ⟨hlt, hall⟩, by show l.length - (i + 1) < l.length - i; omega, ⟨rfl, rfl⟩, .refl _, .int hwj, .ownEq nx.symm, trivial⟩
        · refine ⟨UInt8, byteC, 0, u, wdS (l.getD i tok0), 24, ⟨.refl _, .refl _⟩, fun _ => rfl, (by show (u.length + (wdS (l.getD i tok0)).length) * 1 ≤ _; omega), ?_⟩
          exact ⟨i + 1, ⟨hlt, hall⟩, by show l.length - (i + 1) < l.length - i; omega, ⟨rfl, rfl⟩, .refl _, .int hwj, .ownEq nx.symm, trivial⟩
    · have hge : i = l.length := by have := dge h; omega
      have ht : l.take i = l := by rw [hge]; exact List.take_length
      rw [ht] at h2
      have e : joinF l = (Lib.join (l.map wdS) [32], 0) := if_pos h2
      exact ⟨(show Sub _ (.tup [.own UInt8 1 byteC 0 (joinF l).1 id, I (joinF l).2]) by rw [e]; unfold joinP; rw [ht]; exact .tup2 (.refl _) (.refl _)), rfl⟩
end Go.Proofs.YtjbpgfcoeaapjaaDoor.Ax
