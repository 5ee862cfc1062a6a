/- Layer norm by the logic: the short forms of constraints; whether one holds. -/
import Derived.Test.YtobadhbdhomjnaaNm
set_option linter.unusedVariables false
set_option linter.unusedSimpArgs false
namespace Go.Proofs.Ytobadhbdhomjnaa.Ax
open Go Go.RowKit
theorem mono_eq : EqSound Try.prog 38 (flatC (Int × Int) monoC) :=
  eq_flat [.int .i64, .int .i64] (Int × Int) monoC Try.underlying38 (by kernel_rfl) (by kernel_rfl) (by kernel_rfl) (fun _ => rfl)
theorem mono_eq_dec (u v : Int × Int) : cellsEq (monoC u) (monoC v) = decide (u = v) := by
  obtain ⟨a, b⟩ := u
  obtain ⟨c, d⟩ := v
  simp only [monoC, cellsEq, cellEq, Bool.and_true, Prod.mk.injEq]
  by_cases h1 : a = c <;> by_cases h2 : b = d <;> simp [h1, h2]
theorem list_ext_getD {α : Type} (d : α) {l k : List α} (hl : l.length = k.length) (h : ∀ j, j < l.length → l.getD j d = k.getD j d) : l = k := by
  apply List.ext_getElem hl
  intro i h1 h2
  have := h i h1
  simpa [List.getD, h1, h2] using this
def mono_Equal : Ctr := { A := List (Int × Int) × List (Int × Int), enc := fun x => [monos x.1, monos x.2], dom := fun x => x.1.length ≤ 4611686018427387904, res := fun x _ => B (decide (x.1 = x.2)) }
theorem mono_Equal_ok : CtrSound Try.prog 43 mono_Equal :=
  ctr_of_ax (env_ok tys_ok (eqs := [(38, flatC (Int × Int) monoC)]) ⟨mono_eq, trivial⟩ (cs := []) trivial) mixed _ Try.func43 (by kernel_rfl) rfl (fun _ _ => Nat.le_of_ble_eq_true rfl) fun ((k, l) : List (Int × Int) × List (Int × Int)) id hd => by
    have hd : k.length ≤ 4611686018427387904 := hd
    refine ⟨fun h => ?_, fun h => ?_⟩
    · exact ⟨.bff (decide_eq_false fun c => by have c : k = l := c; rw [c] at h; simp at h), rfl⟩
    have hl : k.length = l.length := by simp at h; omega
    refine ⟨Nat, fun i => [(0, monos k), (1, monos l), (12, I k.length), (13, I i)], fun _ => [], fun i => i ≤ k.length ∧ ∀ j, j < i → k.getD j (0, 0) = l.getD j (0, 0), fun i => k.length - i,
      ⟨0, ⟨Nat.zero_le _, fun j hj => by omega⟩, ⟨⟨rfl, rfl⟩, .refl _, .refl _, .refl _, .refl _, trivial⟩⟩, fun (i : Nat) hi => ?_⟩
    have hil := hi.1
    have hwj : IntKind.i64.wrap ((i : Int) + 1) = ((i + 1 : Nat) : Int) := by rw [wrap_eq _ (by omega) (by omega)]; omega
    refine ⟨fun h => ?_, fun h => ?_⟩
    · have hlt : i < k.length := of_decide_lt h
      refine ⟨by kernel_rfl, ?_⟩
      refine ⟨⟨by omega, by omega⟩, ⟨by omega, by omega⟩, ?_⟩
      refine ⟨k.getD i (0, 0), l.getD i (0, 0), ⟨.refl _, .refl _, trivial⟩, ⟨.refl _, .refl _, trivial⟩, fun h => ?_, fun h => ?_⟩
      · have h : (!cellsEq (monoC (k.getD i (0, 0))) (monoC (l.getD i (0, 0)))) = true := h
        rw [mono_eq_dec] at h
        exact ⟨.bff (decide_eq_false fun c => by have c : k = l := c; rw [c] at h; simp at h), rfl⟩
      · have h : (!cellsEq (monoC (k.getD i (0, 0))) (monoC (l.getD i (0, 0)))) = false := h
        rw [mono_eq_dec] at h
        have he : k.getD i (0, 0) = l.getD i (0, 0) := by simpa using h
        exact ⟨i + 1, ⟨hlt, fun j hj => by rcases Nat.lt_succ_iff_lt_or_eq.1 hj with q | rfl; exact hi.2 j q; exact he⟩, by show k.length - (i + 1) < k.length - i; omega, ⟨rfl, rfl⟩, .refl _, .refl _, .int hwj, .refl _, trivial⟩
    · have hge : i = k.length := of_decide_ge h hil
      exact ⟨.btt (decide_eq_true (list_ext_getD (0, 0) hl fun j hj => hi.2 j (by dsimp only at hj; omega))), rfl⟩
def term_Same : Ctr := { A := (Int × List (Int × Int)) × (Int × List (Int × Int)), enc := fun x => [termS x.1, termS x.2], dom := fun x => x.1.2.length ≤ 4611686018427387904, res := fun x _ => B (decide (x.1 = x.2)) }
theorem term_Same_ok : CtrSound Try.prog 33 term_Same :=
  ctr_of_ax (env_ok tys_ok (eqs := []) trivial (cs := [(43, mono_Equal)]) ⟨mono_Equal_ok, trivial⟩) mixed _ Try.func33 (by kernel_rfl) rfl (fun _ _ => Nat.le_of_ble_eq_true rfl) fun (((c, k), (d, l)) : (Int × List (Int × Int)) × (Int × List (Int × Int))) id hd => by
    refine ⟨fun h => ?_, fun h => ?_⟩
    · have hc : c = d := eq_of_beq h
      refine ⟨(k, l), ⟨.refl _, .refl _, trivial⟩, rfl, hd, ?_⟩
      exact ⟨.bool (by rw [decide_eq_decide]; show k = l ↔ (c, k) = (d, l); rw [hc]; simp), rfl⟩
    · exact ⟨.bff (decide_eq_false fun q => by have : c = d := congrArg Prod.fst q; rw [this] at h; simp at h), rfl⟩
def consE (c : (Int × List (Int × Int)) × Bool) : SV := .elt Unit 3 (fun _ => consC c) () [()] 0 0
def same_row (l : List ((Int × List (Int × Int)) × Bool)) : SV := .row ((Int × List (Int × Int)) × Bool) 3 consC ((0, []), false) l
def same_pred (v : (Int × List (Int × Int)) × Bool) (x : (Int × List (Int × Int)) × Bool) : Bool := decide (x = v)
def same_lit : Ctr := { A := ((Int × List (Int × Int)) × Bool) × ((Int × List (Int × Int)) × Bool), enc := fun x => (fun (x : (Int × List (Int × Int)) × Bool) => .agg (consC x)) x.1 :: (fun (v : (Int × List (Int × Int)) × Bool) => [consE v]) x.2, dom := fun x => x.1.1.2.length ≤ 4611686018427387904, res := fun x _ => B (same_pred x.2 x.1) }
def same_ix : Ctr := { A := List ((Int × List (Int × Int)) × Bool) × ((Int × List (Int × Int)) × Bool), enc := fun x => [same_row x.1, .fn 32 ((fun (v : (Int × List (Int × Int)) × Bool) => [consE v]) x.2)], dom := fun x => x.1.length ≤ 4611686018427387904 ∧ ∀ y ∈ x.1, y.1.2.length ≤ 4611686018427387904, res := fun x _ => I (ixF (same_pred x.2) x.1 0) }
theorem same_ix_ok (hl : CtrSound Try.prog 32 same_lit) : CtrSound Try.prog 42 same_ix :=
  ctr_of_ax (env_ok tys_ok (eqs := []) trivial (cs := [(32, same_lit)]) ⟨hl, trivial⟩) mixed _ Try.func42 (by kernel_rfl) rfl (fun _ _ => Nat.le_of_ble_eq_true rfl) fun ((l, v) : List ((Int × List (Int × Int)) × Bool) × ((Int × List (Int × Int)) × Bool)) id hd => by
    have hm : ∀ y ∈ l, y.1.2.length ≤ 4611686018427387904 := hd.2
    have hd : l.length ≤ 4611686018427387904 := hd.1
    refine ⟨Nat, fun i => [(0, same_row l), (1, .fn 32 ((fun (v : (Int × List (Int × Int)) × Bool) => [consE v]) v)), (7, I l.length), (8, I i)], fun _ => [], fun i => i ≤ l.length ∧ ixF (same_pred v) (l.drop i) i = ixF (same_pred v) l 0, fun i => l.length - i,
      ⟨0, ⟨Nat.zero_le _, rfl⟩, ⟨⟨rfl, rfl⟩, .refl _, .refl _, .refl _, .refl _, trivial⟩⟩, fun (i : Nat) hi => ?_⟩
    have hil := hi.1
    have hk := hi.2
    have hwj : IntKind.i64.wrap ((i : Int) + 1) = ((i + 1 : Nat) : Int) := by rw [wrap_eq _ (by omega) (by omega)]; omega
    refine ⟨fun h => ?_, fun h => ?_⟩
    · have hlt : i < l.length := by have := of_decide_eq_true h; omega
      rw [drop_at ((0, []), false) l i hlt] at hk
      refine ⟨⟨by omega, by omega⟩, ?_⟩
      refine ⟨(l.getD i ((0, []), false), v), ⟨.refl _, .refl _, trivial⟩, rfl, hm _ (getD_mem l i ((0, []), false) hlt), ?_⟩
      refine ⟨fun h => ?_, fun h => ?_⟩
      · exact ⟨.int (by rw [← hk, ixF, if_pos h]), rfl⟩
      · rw [ixF, if_neg (by simpa using h)] at hk
        exact ⟨i + 1, ⟨hlt, hk⟩, by show l.length - (i + 1) < l.length - i; omega, ⟨rfl, rfl⟩, .refl _, .refl _, .refl _, .int hwj, trivial⟩
    · have hge : i = l.length := by have := of_decide_eq_false h; omega
      subst hge
      rw [List.drop_length] at hk
      exact ⟨.int (by rw [← hk] <;> rfl), rfl⟩
def same_has : Ctr := { A := List ((Int × List (Int × Int)) × Bool) × ((Int × List (Int × Int)) × Bool), enc := fun x => [same_row x.1, .fn 32 ((fun (v : (Int × List (Int × Int)) × Bool) => [consE v]) x.2)], dom := fun x => x.1.length ≤ 4611686018427387904 ∧ ∀ y ∈ x.1, y.1.2.length ≤ 4611686018427387904, res := fun x _ => B (x.1.any (same_pred x.2)) }
theorem same_has_ok (hl : CtrSound Try.prog 32 same_lit) : CtrSound Try.prog 31 same_has :=
  ctr_of_ax (env_ok tys_ok (eqs := []) trivial (cs := [(42, same_ix)]) ⟨same_ix_ok hl, trivial⟩) mixed _ Try.func31 (by kernel_rfl) rfl (fun _ _ => Nat.le_of_ble_eq_true rfl) fun ((l, v) : List ((Int × List (Int × Int)) × Bool) × ((Int × List (Int × Int)) × Bool)) id hd => by
    refine ⟨(l, v), ⟨.refl _, .refl _, trivial⟩, rfl, hd, ?_⟩
    exact ⟨.bool (by rw [← ixF_any] <;> rfl), rfl⟩
theorem same_lit_ok : CtrSound Try.prog 32 same_lit :=
  ctr_of_ax (env_ok tys_ok (eqs := []) trivial (cs := [(33, term_Same)]) ⟨term_Same_ok, trivial⟩) mixed _ Try.func32 (by kernel_rfl) rfl (fun _ _ => Nat.le_of_ble_eq_true rfl) fun (((t, e), (u, f)) : ((Int × List (Int × Int)) × Bool) × ((Int × List (Int × Int)) × Bool)) id hd => by
    have hd : t.2.length ≤ 4611686018427387904 := hd
    refine ⟨fun h => ?_, fun h => ?_⟩
    · have he : e = f := by simpa using h
      refine ⟨(t, u), ⟨.refl _, .refl _, trivial⟩, rfl, hd, ?_⟩
      exact ⟨.bool (by rw [same_pred, decide_eq_decide]; show t = u ↔ (t, e) = (u, f); rw [he]; simp), rfl⟩
    · exact ⟨.bff (decide_eq_false fun q => by have : e = f := congrArg Prod.snd q; rw [this] at h; simp at h), rfl⟩
end Go.Proofs.Ytobadhbdhomjnaa.Ax
