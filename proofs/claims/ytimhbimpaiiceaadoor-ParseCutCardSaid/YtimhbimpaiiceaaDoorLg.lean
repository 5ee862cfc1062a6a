/- Layer lex by the logic: words joined; rows compared. -/
import Derived.Test.YtimhbimpaiiceaaDoorLf
set_option linter.unusedVariables false
set_option linter.unusedSimpArgs false
namespace Go.Proofs.YtimhbimpaiiceaaDoor.Ax
open Go Go.RowKit
theorem ba_eq (a b : ByteArray) : (a.toList == b.toList) = decide (a = b) := by
  have h : ∀ b : ByteArray, b.toList = b.data.toList := fun b => ByteArray.toList_eq b
  rw [Bool.eq_iff_iff]
  simp only [h, beq_iff_eq, decide_eq_true_eq]
  constructor
  · intro h; exact ByteArray.ext (Array.toList_inj.1 h)
  · rintro rfl; rfl
def okT (t : Int × ByteArray × Int × Int) : Prop := -9223372036854775808 ≤ t.2.2.1 ∧ t.2.2.1 ≤ 9223372036854775807 ∧ t.2.1.size ≤ 140737488355328
def wdS (t : Int × ByteArray × Int × Int) : List UInt8 := if t.1 = 2 then Lib.itoa t.2.2.1 else t.2.1.data.toList
def wdOk (t : Int × ByteArray × Int × Int) : Bool := (tokenF (wdS t)).2 && decide ((tokenF (wdS t)).1.1 = t.1 ∧ (tokenF (wdS t)).1.2.1 = t.2.1 ∧ (tokenF (wdS t)).1.2.2.1 = t.2.2.1)
def wdC : Ctr := { A := Int × ByteArray × Int × Int, enc := fun t => [tokS t], dom := okT, res := fun t _ => .tup [X (wdS t), B (wdOk t)], gl := tabs }
set_option maxRecDepth 100000 in
theorem wd_ok : CtrSound Tryd.prog 42 wdC :=
  ctr_of_ax (env_okB tys_ok (eqs := []) trivial (cs := [(58, itoaC), (41, tokenC)]) ⟨itoa_ok, token_ok, trivial⟩ (bs := []) trivial (gl := tabs) (cut := [4])) mixed _ Tryd.func42 (by kernel_rfl) rfl (fun _ _ => Nat.le_of_ble_eq_true rfl) fun ((a, s, n, p) : Int × ByteArray × Int × Int) id hd => by
    have hd : okT (a, s, n, p) := hd
    obtain ⟨h0, h1, h2⟩ := hd
    have hls : (wdS (a, s, n, p)).length ≤ 4611686018427387904 := by
      unfold wdS
      split
      · have := Lib.itoa_length_le n h0 h1; show (Lib.itoa n).length ≤ _; omega
      · have : s.data.toList.length = s.size := by simp
        show s.data.toList.length ≤ _
        simp only at h2; omega
    refine ⟨Unit, fun _ => [(1, .box 1 0), (4, X (wdS (a, s, n, p)))], fun _ => [(1, [I a, S s, I n, I p])], fun _ => True, ?_, fun _ _ => ?_⟩
    · refine ⟨fun h => ?_, fun h => ?_⟩
      · have ha : a = 2 := by simpa using h
        refine ⟨n, ⟨.refl _, trivial⟩, rfl, ⟨h0, h1⟩, ?_⟩
        exact ⟨(), trivial, ⟨rfl, rfl⟩, .refl _, .str (by unfold wdS; rw [if_pos ha]; rfl), ⟨.refl _, .refl _, .refl _, .refl _, trivial⟩, trivial⟩
      · have ha : ¬ a = 2 := by simpa using h
        exact ⟨(), trivial, ⟨rfl, rfl⟩, .refl _, .str (by unfold wdS; rw [if_neg ha]), ⟨.refl _, .refl _, .refl _, .refl _, trivial⟩, trivial⟩
    refine ⟨wdS (a, s, n, p), ⟨.refl _, trivial⟩, rfl, hls, ?_⟩
    have e : wdOk (a, s, n, p) = ((tokenF (wdS (a, s, n, p))).2 && decide ((tokenF (wdS (a, s, n, p))).1.1 = a ∧ (tokenF (wdS (a, s, n, p))).1.2.1 = s ∧ (tokenF (wdS (a, s, n, p))).1.2.2.1 = n)) := rfl
    have hb := ba_eq (tokenF (wdS (a, s, n, p))).1.2.1 s
    have fin : ∀ x : Bool, wdOk (a, s, n, p) = x → ∀ y : SV, Sub y (B x) → Sub (.tup [X (wdS (a, s, n, p)), y]) (wdC.res (a, s, n, p) id) := fun x h y hy => by
      show Sub _ (.tup [X (wdS (a, s, n, p)), B (wdOk (a, s, n, p))])
      rw [h]; exact .tup2 (.refl _) hy
    refine ⟨by kernel_rfl, ?_⟩
    refine ⟨fun h1 => ?_, fun h1 => ?_⟩
    · refine ⟨fun h2 => ?_, fun h2 => ?_⟩
      · refine ⟨fun h3 => ?_, fun h3 => ?_⟩
        · have h3 : (((tokenF (wdS (a, s, n, p))).1.2.1).toList == s.toList) = true := h3
          rw [hb] at h3
          exact ⟨fin _ (by rw [e, h1]; simp at h2 h3; simp [h2, h3]; rfl) _ (.refl _), rfl⟩
        · have h3 : (((tokenF (wdS (a, s, n, p))).1.2.1).toList == s.toList) = false := h3
          rw [hb] at h3
          exact ⟨fin false (by rw [e]; simp at h3; simp [h3]) _ .ff, rfl⟩
      · exact ⟨fin false (by rw [e]; simp at h2; simp [h2]) _ .ff, rfl⟩
    · exact ⟨fin false (by rw [e, h1]; rfl) _ .ff, rfl⟩

theorem wd_len {t : Int × ByteArray × Int × Int} (h : wdOk t = true) : (wdS t).length ≤ 20 ∧ 0 < (wdS t).length := by
  have h1 : (tokenF (wdS t)).2 = true := by
    unfold wdOk at h
    cases hc : (tokenF (wdS t)).2 with
    | true => rfl
    | false => rw [hc] at h; cases h
  have h2 : 0 < (wdS t).length := by
    rcases Nat.eq_zero_or_pos (wdS t).length with h3 | h3
    · rw [List.eq_nil_of_length_eq_zero h3, token_nil] at h1; cases h1
    · exact h3
  refine ⟨?_, h2⟩
  unfold tokenF at h1
  cases hn : numF (wdS t) with
  | some n =>
    obtain ⟨e1, e2⟩ := (numF_iff _ _).1 hn
    have := itoa_len e2
    rw [e1] at this; omega
  | none =>
    rw [hn] at h1
    simp only at h1
    by_cases hN : nameF (wdS t) = true
    · unfold nameF at hN
      simp only [Bool.and_eq_true, decide_eq_true_eq] at hN
      omega
    · rw [if_neg hN] at h1
      by_cases hs : (wdS t).length = 1 ∧ isSign ((wdS t).getD 0 0) = true
      · omega
      · rw [if_neg hs] at h1; cases h1
def joinF (l : List (Int × ByteArray × Int × Int)) : List UInt8 × Int := if l.all wdOk then (Lib.join (l.map wdS) [32], 0) else ([], 4)
def ljoinC : Ctr := { A := List (Int × ByteArray × Int × Int), enc := fun l => [.row (Int × ByteArray × Int × Int) 4 tokC tok0 l], dom := fun l => l.length ≤ 100000 ∧ ∀ t ∈ l, okT t, res := fun l id => .tup [.own UInt8 1 byteC 0 (joinF l).1 id, I (joinF l).2], gl := tabs }
theorem lens_le (k : Nat) : ∀ (l : List (List UInt8)), (∀ x ∈ l, x.length ≤ k) → Lib.lens l ≤ k * l.length
  | [], _ => by simp [Lib.lens]
  | x :: l, h => by
    have h1 := h x List.mem_cons_self
    have h2 := lens_le k l (fun y hy => h y (List.mem_cons_of_mem _ hy))
    simp only [Lib.lens, List.map_cons, List.sum_cons, List.length_cons] at *
    rw [Nat.mul_add]; omega
theorem takeT {α : Type} (l : List α) (d : α) (i : Nat) (h : i < l.length) : l.take (i + 1) = l.take i ++ [l.getD i d] := by
  rw [List.take_add_one, List.getElem?_eq_getElem h]
  simp only [List.getD, List.getElem?_eq_getElem h, Option.getD_some, Option.toList_some]
theorem allT {α : Type} (l : List α) (d : α) (p : α → Bool) (i : Nat) (h : i < l.length) : (l.take (i + 1)).all p = ((l.take i).all p && p (l.getD i d)) := by
  rw [takeT l d i h, List.all_append]
  simp only [List.all_cons, List.all_nil, Bool.and_true]
theorem mapT {α β : Type} (l : List α) (d : α) (f : α → β) (i : Nat) (h : i < l.length) : (l.take (i + 1)).map f = (l.take i).map f ++ [f (l.getD i d)] := by
  rw [takeT l d i h, List.map_append]
  rfl
theorem getT_mem {α : Type} (l : List α) (d : α) (i : Nat) (h : i < l.length) : l.getD i d ∈ l := by
  simp only [List.getD, List.getElem?_eq_getElem h, Option.getD_some]; exact List.getElem_mem h
set_option maxRecDepth 100000 in
theorem ljoin_ok : CtrSound Tryd.prog 26 ljoinC :=
  ctr_of_ax (env_okB tys_ok (eqs := []) trivial (cs := [(42, wdC), (43, joinC)]) ⟨wd_ok, join_ok, trivial⟩ (bs := []) trivial (gl := tabs)) mixed _ Tryd.func26 (by kernel_rfl) rfl (fun _ _ => Nat.le_of_ble_eq_true rfl) fun (l : List (Int × ByteArray × Int × Int)) id hd => by
    have hd : l.length ≤ 100000 ∧ ∀ t ∈ l, okT t := hd
    obtain ⟨hl, hok⟩ := hd
    refine ⟨Nat, fun i => [(11, I i), (9, .row (Int × ByteArray × Int × Int) 4 tokC tok0 l), (4, .own (List UInt8) 1 rowsC [] ((l.take i).map wdS) 26), (10, I l.length)], fun _ => [], fun i => i ≤ l.length ∧ (l.take i).all wdOk = true, fun i => l.length - i, ⟨0, ⟨Nat.zero_le _, rfl⟩, ⟨⟨rfl, rfl⟩, .refl _, .refl _, .nilO .., .refl _, trivial⟩⟩, fun (i : Nat) hi => ?_⟩
    have h1 : i ≤ l.length := hi.1
    have h2 : (l.take i).all wdOk = true := hi.2
    have hwj : IntKind.i64.wrap ((i : Int) + 1) = ((i + 1 : Nat) : Int) := by rw [wrap_eq _ (by omega) (by omega)]; omega
    refine ⟨fun h => ?_, fun h => ?_⟩
    · have hlt : i < l.length := by have := of_decide_eq_true h; omega
      refine ⟨by omega, ?_⟩
      refine ⟨l.getD i tok0, ⟨.refl _, trivial⟩, rfl, hok _ (getT_mem l tok0 i hlt), ?_⟩
      refine ⟨fun h3 => ?_, fun h3 => ?_⟩
      · have h3 : wdOk (l.getD i tok0) = false := by have h3 : (!wdOk (l.getD i tok0)) = true := h3
                                                     exact Bool.not_eq_true' _ ▸ h3
        have e : joinF l = ([], 4) := by
          unfold joinF
          rw [if_neg]
          intro c
          have := List.all_eq_true.1 c _ (getT_mem l tok0 i hlt)
          rw [h3] at this; cases this
        exact ⟨(show Sub _ (.tup [.own UInt8 1 byteC 0 (joinF l).1 id, I (joinF l).2]) by rw [e]; exact .tup2 (.nilO ..) (.refl _)), rfl⟩
      · have h3 : wdOk (l.getD i tok0) = true := by have h3 : (!wdOk (l.getD i tok0)) = false := h3
                                                    exact Bool.not_eq_false' _ ▸ h3
        refine ⟨List UInt8, rowsC, [], [wdS (l.getD i tok0)], ⟨rfl, fun _ => rfl⟩, ⟨.refl _, trivial⟩, rfl, ?_⟩
        refine ⟨List UInt8, rowsC, [], (l.take i).map wdS, [wdS (l.getD i tok0)], 26, ⟨.refl _, .own ..⟩, fun _ => rfl, (by simp only [List.length_cons, List.length_nil, List.length_map, List.length_take]; omega), ?_⟩
        exact ⟨i + 1, ⟨hlt, by rw [allT _ tok0 _ _ hlt, h2, h3]; rfl⟩, by show l.length - (i + 1) < l.length - i; omega, ⟨rfl, rfl⟩, .int hwj, .refl _, .ownEq (mapT _ tok0 _ _ hlt).symm, .refl _, trivial⟩
    · have hge : i = l.length := by have := of_decide_eq_false h; omega
      have ht : l.take i = l := by rw [hge]; exact List.take_length
      rw [ht] at h2
      have e : joinF l = (Lib.join (l.map wdS) [32], 0) := if_pos h2
      refine ⟨UInt8, byteC, 0, [32], ⟨rfl, fun _ => rfl⟩, ⟨.refl _, trivial⟩, rfl, ?_⟩
      have hb := lens_le 20 (l.map wdS) (fun x hx => by
        obtain ⟨t, ht, rfl⟩ := List.mem_map.1 hx
        exact (wd_len (List.all_eq_true.1 h2 t ht)).1)
      simp only [List.length_map] at hb
      refine ⟨(l.map wdS, [32]), ⟨.ownRow (by rw [ht]), .own .., trivial⟩, rfl, (show (l.map wdS).length ≤ 1000000 ∧ Lib.lens (l.map wdS) + [(32 : UInt8)].length * ((l.map wdS).length - 1) ≤ 140737488355328 by simp only [List.length_map, List.length_singleton]; omega), ?_⟩
      exact ⟨(show Sub _ (.tup [.own UInt8 1 byteC 0 (joinF l).1 id, I (joinF l).2]) by rw [e]; exact .tup2 (.refl _) (.refl _)), rfl⟩
end Go.Proofs.YtimhbimpaiiceaaDoor.Ax
