/- Layer norm by the logic: heavy lists, constraints alike; plain laws of the short forms of many. -/
import Derived.Test.YtobadhbdhomjnaaNx
set_option linter.unusedVariables false
set_option linter.unusedSimpArgs false
namespace Go.Proofs.Ytobadhbdhomjnaa.Ax
open Go Go.RowKit
abbrev CC := (Int × List (Int × Int)) × Bool
def Heavy14 : Ctr := { A := List CC, enc := fun l => [conses l], dom := fun l => l.length ≤ 4611686018427387904, res := fun l _ => B (decide (l.length > 60) || l.any fun c => decide (c.1.2.length > 60)) }
theorem Heavy14_ok : CtrSound Try.prog 15 Heavy14 :=
  ctr_of_ax (env_ok tys_ok (eqs := []) trivial (cs := [(9, Heavy13)]) ⟨Heavy13_ok, trivial⟩) mixed _ Try.func15 (by kernel_rfl) rfl (fun _ _ => Nat.le_of_ble_eq_true rfl) fun (l : List CC) id hd => by
    have hd : l.length ≤ 4611686018427387904 := hd
    refine ⟨fun h => ?_, fun h => ?_⟩
    · have h := of_decide_eq_true h
      exact ⟨.btt (by rw [decide_eq_true (show l.length > 60 by omega)]; rfl), rfl⟩
    have hs : ¬ l.length > 60 := by have h := of_decide_eq_false h; omega
    refine ⟨Nat, fun i => [(0, conses l), (3, I i)], fun _ => [], fun i => i ≤ l.length ∧ (l.drop i).any (fun c => decide (c.1.2.length > 60)) = l.any (fun c => decide (c.1.2.length > 60)), fun i => l.length - i, ⟨0, ⟨Nat.zero_le _, rfl⟩, ⟨⟨rfl, rfl⟩, .refl _, .refl _, trivial⟩⟩, fun (i : Nat) hi => ?_⟩
    have hil : i ≤ l.length := hi.1
    have hk : (l.drop i).any (fun c => decide (c.1.2.length > 60)) = l.any (fun c => decide (c.1.2.length > 60)) := hi.2
    have hwj : IntKind.i64.wrap ((i : Int) + 1) = ((i + 1 : Nat) : Int) := by rw [wrap_eq _ (by omega) (by omega)]; omega
    refine ⟨fun h => ?_, fun h => ?_⟩
    · have hlt : i < l.length := of_decide_lt h
      rw [drop_at ((0, []), false) l i hlt, List.any_cons] at hk
      refine ⟨⟨by omega, by omega⟩, ?_⟩
      refine ⟨(l.getD i ((0, []), false)).1, ⟨.agg2 (.refl _) (.refl _), trivial⟩, rfl, trivial, fun h2 => ?_, fun h2 => ?_⟩
      · have h2 : decide ((l.getD i ((0, []), false)).1.2.length > 60) = true := h2
        rw [h2, Bool.true_or] at hk
        exact ⟨.btt (by rw [← hk, Bool.or_true]), rfl⟩
      · have h2 : decide ((l.getD i ((0, []), false)).1.2.length > 60) = false := h2
        rw [h2, Bool.false_or] at hk
        exact ⟨i + 1, ⟨hlt, hk⟩, by show l.length - (i + 1) < l.length - i; omega, ⟨rfl, rfl⟩, .refl _, .int hwj, trivial⟩
    · have hge : i = l.length := of_decide_ge h hil
      subst hge
      rw [List.drop_length, List.any_nil] at hk
      exact ⟨.bff (by rw [← hk, decide_eq_false hs]; rfl), rfl⟩
def keep_Cons : Ctr := { A := List CC × List CC, enc := fun x => [conses x.1, conses x.2], dom := fun x => x.1.length ≤ 4611686018427387904 ∧ ∀ y ∈ x.1, y.1.2.length ≤ 4611686018427387904, res := fun x _ => B (decide (x.1 = x.2)) }
set_option maxRecDepth 100000 in
set_option maxHeartbeats 4000000 in
theorem keep_Cons_ok : CtrSound Try.prog 19 keep_Cons :=
  ctr_of_ax (env_ok tys_ok (eqs := []) trivial (cs := [(14, keep_Term)]) ⟨keep_Term_ok, trivial⟩) mixed _ Try.func19 (by kernel_rfl) rfl (fun _ _ => Nat.le_of_ble_eq_true rfl) fun ((k, l) : List CC × List CC) id hd => by
    have hm : ∀ y ∈ k, y.1.2.length ≤ 4611686018427387904 := hd.2
    have hd : k.length ≤ 4611686018427387904 := hd.1
    have no : ¬ (k = l) → Sub .ff (B (decide (k = l))) := fun h => .bff (decide_eq_false h)
    refine ⟨fun h => ?_, fun h => ?_⟩
    · exact ⟨no fun q => by have h : ((k.length : Int) != (l.length : Int)) = true := h; rw [q] at h; simp at h, rfl⟩
    have hl : k.length = l.length := by have h : ((k.length : Int) != (l.length : Int)) = false := h; simp at h; omega
    refine ⟨Nat, fun i => [(0, conses k), (1, conses l), (5, I i)], fun _ => [], fun i => i ≤ k.length ∧ ∀ j, j < i → k.getD j ((0, []), false) = l.getD j ((0, []), false), fun i => k.length - i,
      ⟨0, ⟨Nat.zero_le _, fun j hj => by omega⟩, ⟨⟨rfl, rfl⟩, .refl _, .refl _, .refl _, trivial⟩⟩, fun (i : Nat) hi => ?_⟩
    have hil := hi.1
    have hwj : IntKind.i64.wrap ((i : Int) + 1) = ((i + 1 : Nat) : Int) := by rw [wrap_eq _ (by omega) (by omega)]; omega
    refine ⟨fun h => ?_, fun h => ?_⟩
    · have hlt : i < k.length := of_decide_lt h
      refine ⟨by kernel_rfl, ?_⟩
      refine ⟨⟨by omega, by omega⟩, ⟨by omega, by omega⟩, fun h2 => ?_, fun h2 => ?_⟩
      · have h2 : (!((k.getD i ((0, []), false)).2 == (l.getD i ((0, []), false)).2)) = true := h2
        exact ⟨no fun q => by rw [q] at h2; simp at h2, rfl⟩
      have h2 : (!((k.getD i ((0, []), false)).2 == (l.getD i ((0, []), false)).2)) = false := h2
      refine ⟨⟨by omega, by omega⟩, ⟨by omega, by omega⟩, ?_⟩
      refine ⟨((k.getD i ((0, []), false)).1, (l.getD i ((0, []), false)).1), ⟨.agg2 (.refl _) (.refl _), .agg2 (.refl _) (.refl _), trivial⟩, rfl, hm _ (getD_mem k i _ hlt), fun h3 => ?_, fun h3 => ?_⟩
      · have h3 : (!decide ((k.getD i ((0, []), false)).1 = (l.getD i ((0, []), false)).1)) = true := h3
        exact ⟨no fun q => by rw [q] at h3; simp at h3, rfl⟩
      · have h3 : (!decide ((k.getD i ((0, []), false)).1 = (l.getD i ((0, []), false)).1)) = false := h3
        have he : k.getD i ((0, []), false) = l.getD i ((0, []), false) := Prod.ext (by simpa using h3) (by simpa using h2)
        exact ⟨i + 1, ⟨hlt, fun j hj => by rcases Nat.lt_succ_iff_lt_or_eq.1 hj with q | rfl; exact hi.2 j q; exact he⟩, by show k.length - (i + 1) < k.length - i; omega, ⟨rfl, rfl⟩, .refl _, .refl _, .int hwj, trivial⟩
    · have hge : i = k.length := of_decide_ge h hil
      exact ⟨.btt (decide_eq_true (list_ext_getD ((0, []), false) hl fun j hj => hi.2 j (by dsimp only at hj; omega))), rfl⟩
/-! plain laws -/
def fin3 (nv : Bool) (out : List CC) : List CC × Int × Int := if nv then ([], 1, 0) else if out = [] then ([], 2, 0) else (out, 0, 0)
def dd : List CC → List CC → List CC
  | out, [] => out
  | out, c :: r => dd (if ((oneF c).2.1 == 0 && !out.any (same_pred (oneF c).1)) = true then out ++ [(oneF c).1] else out) r
theorem aL_dd : ∀ (l : List CC) (nv : Bool) (out : List CC), (∀ c ∈ l, (oneF c).2.2 = 0) → aL nv out l = fin3 (nv || l.any fun c => (oneF c).2.1 == 1) (dd out l)
  | [], nv, out, _ => by
    cases nv <;> by_cases h : out = [] <;> simp [aL, fin3, dd, h]
  | c :: r, nv, out, h => by
    rw [aL, if_neg (by simp [h c List.mem_cons_self]), aL_dd r _ _ fun x hx => h x (List.mem_cons_of_mem _ hx), List.any_cons, Bool.or_assoc, dd]
theorem dd_len : ∀ (l out : List CC), (dd out l).length ≤ out.length + l.length
  | [], out => by simp [dd]
  | c :: r, out => by
    rw [dd]
    have := dd_len r (if ((oneF c).2.1 == 0 && !out.any (same_pred (oneF c).1)) = true then out ++ [(oneF c).1] else out)
    have h2 : (if ((oneF c).2.1 == 0 && !out.any (same_pred (oneF c).1)) = true then out ++ [(oneF c).1] else out).length ≤ out.length + 1 := by split <;> simp
    simp only [List.length_cons]
    omega
theorem same_iff (s x : CC) : same_pred s x = true ↔ x = s := by unfold same_pred; simp
theorem any_same (out : List CC) (s : CC) : out.any (same_pred s) = true ↔ s ∈ out := by
  rw [List.any_eq_true]
  exact ⟨fun ⟨x, hx, h⟩ => (same_iff s x).1 h ▸ hx, fun h => ⟨s, h, (same_iff s s).2 rfl⟩⟩
theorem dd_mem (x : CC) : ∀ (l out : List CC), x ∈ dd out l ↔ x ∈ out ∨ ∃ c ∈ l, (oneF c).2.1 = 0 ∧ (oneF c).1 = x
  | [], out => by simp [dd]
  | c :: r, out => by
    rw [dd, dd_mem x r]
    constructor
    · rintro (h | ⟨c', h1, h2⟩)
      · split at h
        · rename_i q
          simp only [Bool.and_eq_true, beq_iff_eq] at q
          rcases List.mem_append.1 h with h | h
          · exact .inl h
          · exact .inr ⟨c, List.mem_cons_self, q.1, (List.mem_singleton.1 h).symm⟩
        · exact .inl h
      · exact .inr ⟨c', List.mem_cons_of_mem _ h1, h2⟩
    · rintro (h | ⟨c', h1, h2, h3⟩)
      · left
        split
        · exact List.mem_append_left _ h
        · exact h
      · rcases List.mem_cons.1 h1 with rfl | h1
        · left
          split
          · exact List.mem_append_right _ (by rw [h3]; exact List.mem_singleton.2 rfl)
          · rename_i q
            rw [h3] at q
            have : out.any (same_pred x) = true := by
              cases ho : out.any (same_pred x) with
              | true => rfl
              | false => rw [ho, h2] at q; exact absurd rfl q
            exact (any_same out x).1 this
        · exact .inr ⟨c', h1, h2, h3⟩
theorem dd_nodup : ∀ (l out : List CC), out.Nodup → (dd out l).Nodup
  | [], out, h => h
  | c :: r, out, h => by
    rw [dd]
    refine dd_nodup r _ ?_
    split
    · rename_i q
      simp only [Bool.and_eq_true, Bool.not_eq_true'] at q
      have hn : (oneF c).1 ∉ out := fun z => by rw [(any_same out _).2 z] at q; cases q.2
      rw [List.nodup_append]
      exact ⟨h, by simp, fun a ha b hb => by rw [List.mem_singleton.1 hb]; exact fun e => hn (e ▸ ha)⟩
    · exact h
theorem dd_self : ∀ (l acc : List CC), (acc ++ l).Nodup → (∀ x ∈ l, oneF x = (x, 0, 0)) → dd acc l = acc ++ l
  | [], acc, _, _ => by simp [dd]
  | c :: r, acc, hn, h => by
    rw [dd, h c List.mem_cons_self]
    have hc : acc.any (same_pred c) = false := by
      cases ha : acc.any (same_pred c) with
      | false => rfl
      | true =>
        rw [List.nodup_append] at hn
        exact absurd rfl (hn.2.2 c ((any_same acc c).1 ha) c List.mem_cons_self)
    rw [if_pos (by simp [hc]), dd_self r (acc ++ [c]) (by simpa using hn) fun x hx => h x (List.mem_cons_of_mem _ hx)]
    simp
/-- a short form stays -/
theorem one_idem {c : CC} {v : List Int} (h : (valueF c.1 v).2 = 0) (h2 : (oneF c).2.1 = 0) : oneF (oneF c).1 = ((oneF c).1, 0, 0) := by
  have hh := holds_short h
  have h1 := hh.2.1
  have hv := hh.2.2.2.2.1 h2
  obtain ⟨r, n, -, e⟩ := one_short h1 h2
  have hval : (valueF (oneF c).1.1 v).2 = 0 := by
    cases hz : decide ((valueF (oneF c).1.1 v).2 = 0) with
    | true => exact of_decide_eq_true hz
    | false =>
      have hz := of_decide_eq_false hz
      unfold holdsF at hv
      rw [if_neg hz] at hv
      exact absurd (congrArg Prod.snd hv) hz
  have r2 := (value_told hval).1
  have n2 : (oneF c).1.1.2 ≠ [] := by rw [e]; simpa using n
  have ho2 := ((right_iff _).1 r2).2.2
  obtain ⟨-, hg⟩ := gL_le (oneF c).1.1.2 0 (-1) ho2 (by omega)
  have hg := hg (.inr n2)
  have hg1 : gL 0 (oneF c).1.1.2 = 1 := by
    rcases Nat.lt_or_ge 1 (gL 0 (oneF c).1.1.2) with q | q
    · exfalso
      have hp := short_prime h1 h2 (gL 0 (oneF c).1.1.2 : Nat) (by omega)
      rw [List.all_eq_false] at hp
      obtain ⟨m, hm, hq⟩ := hp
      refine hq ?_
      have := (gL_dvd (oneF c).1.1.2 0).2 m hm
      exact beq_iff_eq.2 (Int.tmod_eq_zero_of_dvd (Int.ofNat_dvd_left.2 this))
    · omega
  have he : (oneF c).1.2 = c.2 := by rw [e]
  have hs : sgF (oneF c).1 = 1 := by
    unfold sgF
    rw [if_neg]
    rintro ⟨q1, q2⟩
    have := short_first h1 h2 (he ▸ q1)
    omega
  rw [one_eq r2 n2, hg1, hs]
  have ht : ∀ a : Int, a.tmod ((1 : Nat) : Int) = 0 := fun a => by simp
  rw [if_neg (by simp [ht])]
  have hu : upF (oneF c).1.1.1 ((1 : Nat) : Int) = (oneF c).1.1.1 := by
    unfold upF; rw [ht, if_neg (by omega)]; simp
  rw [hu]
  have hm : ((oneF c).1.1.2.map fun m => (m.1, (1 * m.2).tdiv ((1 : Nat) : Int))) = (oneF c).1.1.2 := by
    conv => rhs; rw [← List.map_id (oneF c).1.1.2]
    refine List.map_congr_left fun m _ => ?_
    simp
  rw [hm, Int.one_mul]
theorem all_facts {l : List CC} {v : List Int} (h : ∀ c ∈ l, (valueF c.1 v).2 = 0) :
    (allF l).2.2 = 0 ∧ (allF l).1.length ≤ l.length ∧ ((allF l).2.1 = 1 → (l.all fun c => (holdsF c v).1) = false ∧ (allF l).1.length = 0) ∧ ((allF l).2.1 = 2 → (l.all fun c => (holdsF c v).1) = true ∧ (allF l).1.length = 0) ∧
    ((allF l).2.1 ≠ 1 → (allF l).2.1 ≠ 2 → (∀ x ∈ (allF l).1, (holdsF x v).2 = 0) ∧ ((allF l).1.all fun c => (holdsF c v).1) = (l.all fun c => (holdsF c v).1) ∧ allF (allF l).1 = ((allF l).1, 0, 0)) ∧ ∀ x ∈ (allF l).1, x.1.2.length ≤ 40 := by
  have hs : ∀ c ∈ l, _ := fun c hc => holds_short (h c hc)
  have ha : allF l = fin3 (l.any fun c => (oneF c).2.1 == 1) (dd [] l) := by
    unfold allF; rw [aL_dd l false [] fun c hc => (hs c hc).2.1]; rfl
  have hlen := dd_len l []
  have hmem : ∀ x ∈ dd [] l, ∃ c ∈ l, (oneF c).2.1 = 0 ∧ (oneF c).1 = x := fun x hx => by
    rcases (dd_mem x l []).1 hx with q | q
    · cases q
    · exact q
  have h40 : ∀ x ∈ dd [] l, x.1.2.length ≤ 40 := fun x hx => by
    obtain ⟨c, _, _, rfl⟩ := hmem x hx
    exact oneF_len c
  cases hany : (l.any fun c => (oneF c).2.1 == 1) with
  | true =>
    rw [hany] at ha
    have e : allF l = ([], 1, 0) := ha
    obtain ⟨c, hc, hw⟩ := List.any_eq_true.1 hany
    have hf := (hs c hc).2.2.2.1 (eq_of_beq hw)
    refine ⟨by rw [e], by rw [e]; simp, fun _ => ⟨?_, by rw [e]; rfl⟩, fun z => (by rw [e] at z; cases z), fun z => (by rw [e] at z; exact absurd rfl z), fun x hx => (by rw [e] at hx; cases hx)⟩
    rw [List.all_eq_false]
    exact ⟨c, hc, by simp [hf]⟩
  | false =>
    rw [hany] at ha
    have hno : ∀ c ∈ l, (oneF c).2.1 ≠ 1 := fun c hc z => by
      rw [List.any_eq_false] at hany
      exact hany c hc (beq_iff_eq.2 z)
    have hall : ((dd [] l).all fun c => (holdsF c v).1) = (l.all fun c => (holdsF c v).1) := by
      rw [Bool.eq_iff_iff, List.all_eq_true, List.all_eq_true]
      constructor
      · intro w c hc
        rcases (hs c hc).2.2.2.2.2 with q | q | q
        · have h5 := w (oneF c).1 ((dd_mem _ l []).2 (.inr ⟨c, hc, q, rfl⟩))
          rw [(hs c hc).2.2.2.2.1 q] at h5
          exact h5
        · exact absurd q (hno c hc)
        · exact (hs c hc).2.2.1 q
      · intro w x hx
        obtain ⟨c, hc, q, rfl⟩ := hmem x hx
        rw [(hs c hc).2.2.2.2.1 q]
        exact w c hc
    by_cases hn : dd [] l = []
    · have e : allF l = ([], 2, 0) := by rw [ha]; simp [fin3, hn]
      refine ⟨by rw [e], by rw [e]; simp, fun z => (by rw [e] at z; cases z), fun _ => ⟨?_, by rw [e]; rfl⟩, fun _ z => (by rw [e] at z; exact absurd rfl z), fun x hx => (by rw [e] at hx; cases hx)⟩
      rw [← hall, hn]; rfl
    · have e : allF l = (dd [] l, 0, 0) := by rw [ha]; simp [fin3, hn]
      have hidem : ∀ x ∈ dd [] l, oneF x = (x, 0, 0) := fun x hx => by
        obtain ⟨c, hc, q, rfl⟩ := hmem x hx
        exact one_idem (h c hc) q
      have hd2 : dd [] (dd [] l) = dd [] l := by
        rw [dd_self (dd [] l) [] (by simpa using dd_nodup l [] List.nodup_nil) hidem]; rfl
      refine ⟨by rw [e], by rw [e]; simpa using hlen, fun z => (by rw [e] at z; cases z), fun z => (by rw [e] at z; cases z), fun _ _ => ⟨fun x hx => ?_, by rw [e]; exact hall, ?_⟩, fun x hx => h40 x (by rw [e] at hx; exact hx)⟩
      · rw [e] at hx
        obtain ⟨c, hc, q, rfl⟩ := hmem x hx
        rw [(hs c hc).2.2.2.2.1 q]
      · rw [e]
        show allF (dd [] l) = _
        unfold allF
        rw [aL_dd (dd [] l) false [] fun x hx => by rw [hidem x hx], hd2]
        have : ((dd [] l).any fun c => (oneF c).2.1 == 1) = false := by
          rw [List.any_eq_false]
          intro x hx
          rw [hidem x hx]; simp
        rw [this]
        simp [fin3, hn]
end Go.Proofs.Ytobadhbdhomjnaa.Ax
