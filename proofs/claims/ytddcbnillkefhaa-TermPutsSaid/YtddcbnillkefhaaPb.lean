/- Layer term by the logic: DeleteFunc. -/
import Derived.Test.YtddcbnillkefhaaPa
set_option linter.unusedVariables false
set_option linter.unusedSimpArgs false
namespace Go.Proofs.Ytddcbnillkefhaa.Ax
open Go Go.RowKit
def varE (v : Int) : SV := .elt Unit 1 (fun _ => [I v]) () [()] 0 0
def put_pred (v : Int) (m : Int × Int) : Bool := m.1 == v
def put_lit : Ctr := { A := (Int × Int) × Int, enc := fun x => [.agg (monoC x.1), varE x.2], dom := fun _ => True, res := fun x _ => B (put_pred x.2 x.1) }
theorem put_lit_ok : CtrSound Try.prog 32 put_lit :=
  ctr_of_ax (env_ok tys_ok (eqs := []) trivial (cs := []) trivial) mixed _ Try.func32 (by kernel_rfl) rfl (fun _ _ => Nat.le_of_ble_eq_true rfl) fun ((m, v) : (Int × Int) × Int) id hd => by
    exact ⟨.refl _, rfl⟩
def put_ix : Ctr := { A := List (Int × Int) × Int, enc := fun x => [monos x.1, .fn 32 [varE x.2]], dom := fun x => x.1.length ≤ 1000000, res := fun x _ => I (ixF (put_pred x.2) x.1 0) }
theorem put_ix_ok : CtrSound Try.prog 33 put_ix :=
  ctr_of_ax (env_ok tys_ok (eqs := []) trivial (cs := [(32, put_lit)]) ⟨put_lit_ok, trivial⟩) mixed _ Try.func33 (by kernel_rfl) rfl (fun _ _ => Nat.le_of_ble_eq_true rfl) fun ((l, v) : List (Int × Int) × Int) id hd => by
    have hd : l.length ≤ 1000000 := hd
    refine ⟨Nat, fun i => [(0, monos l), (1, .fn 32 [varE v]), (7, I l.length), (8, I i)], fun _ => [], fun i => i ≤ l.length ∧ ixF (put_pred v) (l.drop i) i = ixF (put_pred v) l 0, fun i => l.length - i,
      ⟨0, ⟨Nat.zero_le _, rfl⟩, ⟨⟨rfl, rfl⟩, .refl _, .refl _, .refl _, .refl _, trivial⟩⟩, fun (i : Nat) hi => ?_⟩
    have hil := hi.1
    have hk := hi.2
    have hwj : IntKind.i64.wrap ((i : Int) + 1) = ((i + 1 : Nat) : Int) := by rw [wrap_eq _ (by omega) (by omega)]; omega
    refine ⟨fun h => ?_, fun h => ?_⟩
    · have hlt : i < l.length := by have := of_decide_eq_true h; omega
      rw [drop_at (0, 0) l i hlt] at hk
      refine ⟨⟨by omega, by omega⟩, ?_⟩
      refine ⟨(l.getD i (0, 0), v), ⟨.refl _, .refl _, trivial⟩, rfl, trivial, ?_⟩
      refine ⟨fun h => ?_, fun h => ?_⟩
      · exact ⟨.int (by rw [← hk, ixF, if_pos h]), rfl⟩
      · rw [ixF, if_neg (by simpa using h)] at hk
        exact ⟨i + 1, ⟨hlt, hk⟩, by show l.length - (i + 1) < l.length - i; omega, ⟨rfl, rfl⟩, .refl _, .refl _, .refl _, .int hwj, trivial⟩
    · have hge : i = l.length := by have := of_decide_eq_false h; omega
      subst hge
      rw [List.drop_length] at hk
      exact ⟨.int (by rw [← hk] <;> rfl), rfl⟩
def dlF (v : Int) (l : List (Int × Int)) : List (Int × Int) := l.filter fun m => !put_pred v m
theorem ixF_spec (v : Int) : ∀ (l : List (Int × Int)) (i : Nat), (ixF (put_pred v) l i = -1 ∧ dlF v l = l) ∨ ∃ k, k < l.length ∧ ixF (put_pred v) l i = ((i + k : Nat) : Int) ∧ dlF v (l.take (k + 1)) = l.take k
  | [], i => .inl ⟨rfl, rfl⟩
  | a :: r, i => by
    rw [ixF]
    cases h : put_pred v a with
    | true => exact .inr ⟨0, by simp, by simp, by simp [dlF, h]⟩
    | false =>
      rcases ixF_spec v r (i + 1) with ⟨h1, h2⟩ | ⟨k, h1, h2, h3⟩
      · refine .inl ⟨by simpa using h1, ?_⟩
        unfold dlF at h2 ⊢
        rw [List.filter_cons_of_pos (by rw [h]; rfl), h2]
      · refine .inr ⟨k + 1, by simpa using h1, by rw [if_neg Bool.false_ne_true, h2]; omega, ?_⟩
        rw [List.take_succ_cons, List.take_succ_cons]
        unfold dlF at h3 ⊢
        rw [List.filter_cons_of_pos (by rw [h]; rfl), h3]
def dInv (v : Int) (l : List (Int × Int)) (L : List (Int × Int)) (i j : Nat) : Prop := L.length = l.length ∧ j ≤ l.length ∧ i < j ∧ L.take i = dlF v (l.take j) ∧ L.drop j = l.drop j
theorem take_at (l : List (Int × Int)) (j : Nat) (h : j < l.length) : l.take (j + 1) = l.take j ++ [l.getD j (0, 0)] := by
  rw [List.take_succ_eq_append_getElem h]; simp [List.getD, h]
theorem dInv_at {v : Int} {l L : List (Int × Int)} {i j : Nat} (h : dInv v l L i j) (hj : j < l.length) : L.getD j (0, 0) = l.getD j (0, 0) := by
  have h5 := h.2.2.2.2
  rw [drop_at (0, 0) L j (by rw [h.1]; exact hj), drop_at (0, 0) l j hj] at h5
  exact (List.cons.inj h5).1
theorem dInv_keep {v : Int} {l L : List (Int × Int)} {i j : Nat} (h : dInv v l L i j) (hj : j < l.length) (hp : put_pred v (l.getD j (0, 0)) = false) : dInv v l (L.set i (l.getD j (0, 0))) (i + 1) (j + 1) := by
  obtain ⟨h1, h2, h3, h4, h5⟩ := h
  refine ⟨by rw [List.length_set, h1], hj, by omega, ?_, ?_⟩
  · rw [take_at _ i (by rw [List.length_set, h1]; omega), take_at l j hj]
    have e : dlF v (l.take j ++ [l.getD j (0, 0)]) = dlF v (l.take j) ++ [l.getD j (0, 0)] := by unfold dlF; rw [List.filter_append, List.filter_cons_of_pos (by rw [hp]; rfl)]; rfl
    rw [e, ← h4, List.take_set_of_le (Nat.le_refl _)]
    congr 2
    simp [List.getD_eq_getElem?_getD, List.getElem?_set_self (show i < L.length by omega)]
  · rw [List.drop_set_of_lt (by omega)]
    have := congrArg (List.drop 1) h5
    simpa [List.drop_drop] using this
theorem dInv_drop {v : Int} {l L : List (Int × Int)} {i j : Nat} (h : dInv v l L i j) (hj : j < l.length) (hp : put_pred v (l.getD j (0, 0)) = true) : dInv v l L i (j + 1) := by
  obtain ⟨h1, h2, h3, h4, h5⟩ := h
  refine ⟨h1, hj, by omega, ?_, ?_⟩
  · rw [take_at l j hj, h4]
    unfold dlF
    rw [List.filter_append, List.filter_cons_of_neg (by rw [hp]; exact fun c => Bool.noConfusion c)]
    simp
  · have := congrArg (List.drop 1) h5
    simpa [List.drop_drop] using this
theorem Sub.arrEq {b z o n m : Nat} {c : Option Nat} (h : n = m) : Sub (.arr b z o n c) (.arr b z o m c) := by subst h; exact .refl _
theorem Sub.manyEq {T : Type} {sz : Nat} {cs : T → List SV} {d : T} {a b : List T} (h : a = b) : Sub (.many T sz cs d a) (.many T sz cs d b) := by subst h; exact .refl _
def delP (l : List (Int × Int)) (v : Int) : List (Int × Int) := dlF v l ++ List.replicate (l.length - (dlF v l).length) (0, 0)
theorem dlF_len (v : Int) (l : List (Int × Int)) : (dlF v l).length ≤ l.length := List.length_filter_le _ _
def p_Del : CtrB := { A := List (Int × Int) × Int, enc := fun x => [.arr 1000 2 0 x.1.length none, .fn 32 [.box 1001 0]], pre := fun x => [[monoM x.1], [I x.2]], dom := fun x => x.1.length ≤ 1000000, res := fun x _ => .arr 1000 2 0 (dlF x.2 x.1).length none, post := fun x _ => [[monoM (delP x.1 x.2)], [I x.2]] }
set_option maxRecDepth 100000 in
set_option maxHeartbeats 4000000 in
theorem p_Del_ok : CtrBSound Try.prog 31 p_Del :=
  ctrB_of_ax2 mixed _ Try.func31 (by kernel_rfl) rfl (fun _ _ => ⟨Nat.le_of_ble_eq_true rfl, Nat.le_of_ble_eq_true rfl⟩) fun ((l, v) : List (Int × Int) × Int) id hd => by
    have hd : l.length ≤ 1000000 := hd
    refine ⟨_, ⟨env_okB tys_ok (eqs := []) trivial (cs := [(32, put_lit), (33, put_ix)]) ⟨put_lit_ok, put_ix_ok, trivial⟩ (bs := []) trivial (vec := []), fun _ h => h⟩, ?_⟩
    have t0 : ∀ L : List (Int × Int), L.length = l.length → (L.drop 0).take l.length = L := fun L h => by rw [List.drop_zero, ← h, List.take_length]
    refine ⟨Nat.le_of_eq (Nat.zero_add _), ?_⟩
    refine ⟨(l, v), ⟨.rowEq (t0 l rfl), .refl _, trivial⟩, rfl, hd, ?_⟩
    rcases ixF_spec v l 0 with ⟨h1, h2⟩ | ⟨k, h1, h2, h3⟩
    · have e : delP l v = l := by unfold delP; rw [h2, Nat.sub_self]; simp
      refine ⟨fun h => ?_, fun h => ?_⟩
      · exact ⟨.arrEq (by rw [h2]), ⟨rfl, .manyEq e.symm, trivial⟩, ⟨rfl, .refl _, trivial⟩, trivial⟩
      · have h : (ixF (put_pred v) l 0 == -1) = false := h
        rw [h1] at h; exact absurd h (by decide)
    refine ⟨fun h => ?_, fun h => ?_⟩
    · have h : (ixF (put_pred v) l 0 == -1) = true := h
      have := eq_of_beq h
      omega
    have hx : ixF (put_pred v) l 0 = (k : Int) := by rw [h2, Nat.zero_add]
    have hw1 : IntKind.i64.wrap (ixF (put_pred v) l 0 + 1) = ((k + 1 : Nat) : Int) := by rw [hx, wrap_eq _ (by omega) (by omega)]; omega
    refine ⟨List (Int × Int) × Nat × Nat, fun s => [(0, .arr 1000 2 0 l.length none), (1, .fn 32 [.box 1001 0]), (5, I s.2.1), (6, I s.2.2)], fun s => [(1000, [monoM s.1]), (1001, [I v])],
      fun s => dInv v l s.1 s.2.1 s.2.2, fun s => l.length - s.2.2, ⟨(l, k, k + 1), ⟨rfl, h1, Nat.lt_succ_self k, h3.symm, rfl⟩, ⟨⟨rfl, rfl⟩, .refl _, .refl _, .int hx, .int hw1, ⟨.refl _, trivial⟩, ⟨.refl _, trivial⟩, trivial⟩⟩, fun ((L, i, j) : List (Int × Int) × Nat × Nat) hi => ?_⟩
    have hi : dInv v l L i j := hi
    have hL := hi.1
    have hjl := hi.2.1
    have hij := hi.2.2.1
    have hwj : IntKind.i64.wrap ((j : Int) + 1) = ((j + 1 : Nat) : Int) := by rw [wrap_eq _ (by omega) (by omega)]; omega
    have hwi : IntKind.i64.wrap ((i : Int) + 1) = ((i + 1 : Nat) : Int) := by rw [wrap_eq _ (by omega) (by omega)]; omega
    refine ⟨fun h => ?_, fun h => ?_⟩
    · have hlt : j < l.length := by have := of_decide_eq_true h; dsimp only at this; omega
      have hat := dInv_at hi hlt
      have zj : (((0 : Nat) : Int) + (j : Int)).toNat = j := by omega
      have zi : (((0 : Nat) : Int) + (i : Int)).toNat = i := by omega
      have hg : L.getD (((0 : Nat) : Int) + (j : Int)).toNat (0, 0) = l.getD j (0, 0) := by rw [zj, hat]
      refine ⟨⟨by dsimp only; omega, by dsimp only; omega⟩, ?_⟩
      refine ⟨⟨by dsimp only; omega, by dsimp only; omega⟩, ?_⟩
      refine ⟨(L.getD (((0 : Nat) : Int) + (j : Int)).toNat (0, 0), v), ⟨.refl _, .refl _, trivial⟩, rfl, trivial, ?_⟩
      refine ⟨fun h => ?_, fun h => ?_⟩
      · have h : (!put_pred v (L.getD (((0 : Nat) : Int) + (j : Int)).toNat (0, 0))) = true := h
        rw [hg] at h
        have hk := dInv_keep hi hlt (ynot h)
        refine ⟨⟨by dsimp only; omega, by dsimp only; omega⟩, ?_⟩
        refine ⟨⟨by dsimp only; omega, by dsimp only; omega⟩, ?_⟩
        refine ⟨L.getD (((0 : Nat) : Int) + (j : Int)).toNat (0, 0), ⟨.refl _, .refl _, trivial⟩, ?_⟩
        exact ⟨(L.set i (l.getD j (0, 0)), i + 1, j + 1), hk, by show l.length - (j + 1) < l.length - j; omega, ⟨rfl, rfl⟩, .refl _, .refl _, .int hwi, .int hwj, ⟨.refl _, trivial⟩, ⟨.manyEq (by rw [hg, zi]), trivial⟩, trivial⟩
      · have h : (!put_pred v (L.getD (((0 : Nat) : Int) + (j : Int)).toNat (0, 0))) = false := h
        rw [hg] at h
        have hk := dInv_drop hi hlt (nnot h)
        exact ⟨(L, i, j + 1), hk, by show l.length - (j + 1) < l.length - j; omega, ⟨rfl, rfl⟩, .refl _, .refl _, .refl _, .int hwj, ⟨.refl _, trivial⟩, ⟨.refl _, trivial⟩, trivial⟩
    · have hge : j = l.length := by have := of_decide_eq_false h; dsimp only at this; omega
      have htk : L.take i = dlF v l := by rw [hi.2.2.2.1, hge, List.take_length]
      have hil : i = (dlF v l).length := by rw [← htk, List.length_take]; omega
      have hp : L.take (0 + (i : Int).toNat) ++ (List.replicate (l.length - (i : Int).toNat) (0, 0) ++ L.drop (0 + (i : Int).toNat + (l.length - (i : Int).toNat))) = delP l v := by
        unfold delP
        rw [Int.toNat_natCast, Nat.zero_add, htk, show i + (l.length - i) = L.length from by omega, List.drop_length, List.append_nil, ← hil]
      refine ⟨⟨by dsimp only; omega, by dsimp only; omega⟩, ?_⟩
      refine ⟨show 0 + (i : Int).toNat + (l.length - (i : Int).toNat) ≤ L.length from by rw [Int.toNat_natCast]; omega, ?_⟩
      refine ⟨(0, 0), ⟨.refl _, .refl _, trivial⟩, ?_⟩
      refine ⟨⟨by first | omega | (dsimp only; omega), by first | omega | (dsimp only; omega)⟩, ?_⟩
      exact ⟨.arrEq (by rw [← hil]; rfl), ⟨rfl, .manyEq hp, trivial⟩, ⟨rfl, .refl _, trivial⟩, trivial⟩
end Go.Proofs.Ytddcbnillkefhaa.Ax
