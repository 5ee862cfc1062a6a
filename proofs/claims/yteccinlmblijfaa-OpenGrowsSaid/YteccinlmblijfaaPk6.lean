/- Walks and laws, part 6: Qa Qb Sh. -/
import Derived.Test.YteccinlmblijfaaPk5
/- Layer open: what is right stays right with a place told. -/
set_option linter.unusedVariables false
set_option linter.unusedSimpArgs false
namespace Go.Proofs.Yteccinlmblijfaa.Ax
open Go Go.RowKit
theorem symB_open {vars nh : Int} {L : List Int} {y : SymT} (h : (symB vars nh L y).1 = true) (h4 : y.1 = 4) : symB vars nh L y = (true, L) := by
  unfold symB at h ⊢
  rw [if_neg (by omega), if_pos (.inr h4)] at h ⊢
  exact Prod.ext h rfl
theorem symB_z {vars : Int} {nh : Nat} {y : SymT} (hk : y.1 = 2 ∨ y.1 = 3) (h : symN y.1 y.2.1.1 y.2.2 y.2.1.2.length nh = true) (L : List Int) : symB vars nh L (zSym y) = (true, L) := by
  unfold symN at h
  unfold symB
  have hp : plainT (zSym y) = true := by simp [plainT, zSym]
  rw [if_neg (show ¬ (zSym y).1 = 1 by show ¬ y.1 = 1; omega)]
  rcases hk with hk | hk
  · rw [if_pos (show (zSym y).1 = 2 ∨ (zSym y).1 = 4 from .inl hk), hp]
    rw [if_pos (.inl hk)] at h
    rw [Bool.and_eq_true] at h
    have : (zSym y).2.2 = 0 := of_decide_eq_true h.2
    rw [this]; rfl
  · rw [if_neg (show ¬ ((zSym y).1 = 2 ∨ (zSym y).1 = 4) by show ¬ (y.1 = 2 ∨ y.1 = 4); omega), if_pos (show (zSym y).1 = 3 from hk), hp]
    rw [if_neg (by omega), if_pos hk] at h
    simp only [Bool.and_eq_true] at h
    have h1 : 0 ≤ (zSym y).2.2 := of_decide_eq_true h.2.1
    have h2 : (zSym y).2.2 < (nh : Int) := of_decide_eq_true h.2.2
    rw [decide_eq_true ⟨h1, h2⟩]; rfl
theorem symsB_set {vars nh : Int} {y' : SymT} (hz : ∀ L, symB vars nh L y' = (true, L)) : ∀ {l : List SymT} {L : List Int} {j : Nat}, (symsB vars nh L l).1 = true → j < l.length → (l.getD j sym0).1 = 4 → symsB vars nh L (l.set j y') = symsB vars nh L l
  | [], _, _, _, h, _ => by simp at h
  | x :: l, L, 0, h, _, h4 => by
    have h4 : x.1 = 4 := h4
    unfold symsB at h
    show symsB vars nh L (y' :: l) = symsB vars nh L (x :: l)
    unfold symsB
    by_cases h1 : (symB vars nh L x).1 = true
    · rw [symB_open h1 h4, hz L]
    · rw [if_neg h1] at h; cases h
  | x :: l, L, j + 1, h, hj, h4 => by
    unfold symsB at h
    show symsB vars nh L (x :: l.set j y') = symsB vars nh L (x :: l)
    unfold symsB
    by_cases h1 : (symB vars nh L x).1 = true
    · rw [if_pos h1] at h ⊢
      rw [if_pos h1]
      exact symsB_set hz h (by simpa using hj) (by simpa [List.getD] using h4)
    · rw [if_neg h1] at h; cases h
theorem slotsB_set {vars nh k : Int} {y' : SymT} (hz : ∀ L, symB vars nh L y' = (true, L)) (hy : y'.1 ≠ 1) : ∀ {l : List SymT} {L : List Int} {j : Nat}, (slotsB vars nh k L l).1 = true → j < l.length → (l.getD j sym0).1 = 4 → slotsB vars nh k L (l.set j y') = slotsB vars nh k L l
  | [], _, _, _, h, _ => by simp at h
  | x :: l, L, 0, h, _, h4 => by
    have h4 : x.1 = 4 := h4
    unfold slotsB at h
    show slotsB vars nh k L (y' :: l) = slotsB vars nh k L (x :: l)
    unfold slotsB
    by_cases h1 : ((symB vars nh L x).1 && !(isRowB k && ((x.1 == 1) != (k == 4)))) = true
    · have h2 := h1
      rw [Bool.and_eq_true] at h2
      rw [symB_open h2.1 h4, hz L]
      have e : (y'.1 == 1) = (x.1 == 1) := by rw [h4]; simpa using hy
      rw [e]
    · rw [if_neg h1] at h; cases h
  | x :: l, L, j + 1, h, hj, h4 => by
    unfold slotsB at h
    show slotsB vars nh k L (x :: l.set j y') = slotsB vars nh k L (x :: l)
    unfold slotsB
    by_cases h1 : ((symB vars nh L x).1 && !(isRowB k && ((x.1 == 1) != (k == 4)))) = true
    · rw [if_pos h1] at h ⊢
      rw [if_pos h1]
      exact slotsB_set hz hy h (by simpa using hj) (by simpa [List.getD] using h4)
    · rw [if_neg h1] at h; cases h
theorem objB_set {vars nh i : Int} {L : List Int} {o : ObjT} {j : Nat} {y' : SymT} (hz : ∀ L, symB vars nh L y' = (true, L)) (hy : y'.1 ≠ 1) (h : (objB vars nh L i o).1 = true) (hj : j < o.2.1.length) (h4 : (o.2.1.getD j sym0).1 = 4) : objB vars nh L i (putO o j y') = objB vars nh L i o := by
  have e1 : (putO o j y').1 = o.1 := rfl
  have e2 : (putO o j y').2.2 = o.2.2 := rfl
  have e3 : (putO o j y').2.1 = o.2.1.set j y' := rfl
  unfold objB at h ⊢
  rw [e1, e2, e3, List.length_set]
  by_cases h1 : (o.1.1 ≠ 3 ∧ isRowB o.1.1 = false) ∨ o.2.2 ≠ i ∨ mostI o.1.1 < (o.2.1.length : Int)
  · rw [if_pos h1] at h; cases h
  · rw [if_neg h1] at h; rw [if_neg h1, if_neg h1]
    exact slotsB_set hz hy h hj h4
theorem objsB_set {vars nh : Int} {o' : ObjT} : ∀ {l : List ObjT} {L : List Int} {i : Int} {m : Nat}, (∀ L i, (objB vars nh L i (l.getD m sobj0)).1 = true → objB vars nh L i o' = objB vars nh L i (l.getD m sobj0)) → m < l.length → objsB vars nh L i l = true → objsB vars nh L i (l.set m o') = true
  | [], _, _, _, _, h, _ => by simp at h
  | x :: l, L, i, 0, hz, _, h => by
    have hz : ∀ L i, (objB vars nh L i x).1 = true → objB vars nh L i o' = objB vars nh L i x := hz
    unfold objsB at h
    show objsB vars nh L i (o' :: l) = true
    unfold objsB
    rw [Bool.and_eq_true] at h
    rw [hz L i h.1, h.1, h.2]; rfl
  | x :: l, L, i, m + 1, hz, hm, h => by
    unfold objsB at h
    show objsB vars nh L i (x :: l.set m o') = true
    unfold objsB
    rw [Bool.and_eq_true] at h ⊢
    exact ⟨h.1, objsB_set (by simpa [List.getD] using hz) (by simpa using hm) h.2⟩
/-- what is known when a place is told -/
theorem set_parts {x : SetT} (h : setE x.s x.vars x.obj x.slot x.y = 0) : chkF x.s x.vars = 0 ∧ ¬ (x.obj < -1 ∨ (x.s.2.length : Int) ≤ x.obj ∨ x.slot < 0 ∨ ((slotsOf x.s x.obj).length : Int) ≤ x.slot ∨ ((slotsOf x.s x.obj).getD x.slot.toNat sym0).1 ≠ 4) ∧
    (x.y.1 = 2 ∨ x.y.1 = 3) ∧ symN x.y.1 x.y.2.1.1 x.y.2.2 x.y.2.1.2.length x.s.2.length = true := by
  unfold setE at h
  by_cases h1 : chkF x.s x.vars ≠ 0
  · rw [if_pos h1] at h; exact (h1 h).elim
  rw [if_neg h1] at h
  have hc : chkF x.s x.vars = 0 := Classical.byContradiction h1
  split at h
  · cases h
  · rename_i h2
    split at h
    · cases h
    · rename_i h3
      refine ⟨hc, h2, Classical.byContradiction fun c => h3 (.inl ⟨fun d => c (.inl d), fun d => c (.inr d)⟩), ?_⟩
      cases e : symN x.y.1 x.y.2.1.1 x.y.2.2 x.y.2.1.2.length x.s.2.length with
      | true => rfl
      | false => exact (h3 (.inr e)).elim
theorem set_right {x : SetT} (h : setE x.s x.vars x.obj x.slot x.y = 0) : chkF (setS x) x.vars = 0 ∧ (slotsOf (setS x) x.obj).getD x.slot.toNat sym0 = zSym x.y ∧ (setS x).2.length = x.s.2.length ∧ (slotsOf (setS x) x.obj).length = (slotsOf x.s x.obj).length := by
  obtain ⟨hc, hp, hk, hn⟩ := set_parts h
  have hs : setS x = putIn x.s x.obj x.slot.toNat (zSym x.y) := if_pos h
  rw [hs]
  obtain ⟨s, vars, obj, slot, y⟩ := x
  dsimp only at hc hp hk hn ⊢
  have hj : slot.toNat < (slotsOf s obj).length := by omega
  have h4 : ((slotsOf s obj).getD slot.toNat sym0).1 = 4 := Classical.byContradiction fun c => hp (.inr (.inr (.inr (.inr c))))
  obtain ⟨p1, p2, p3⟩ := chk_parts.1 hc
  have hz := fun L => symB_z (vars := vars) hk hn L
  have hy : (zSym y).1 ≠ 1 := by show y.1 ≠ 1; omega
  have hlen := put_len s ⟨sy0, ⟨none, 0, []⟩⟩ obj slot.toNat (zSym y)
  have hio : isObj (putIn s obj slot.toNat (zSym y)) obj = isObj s obj := by unfold isObj; rw [hlen.2.1]
  unfold slotsOf at hj h4
  refine ⟨?_, ?_, hlen.2.1, ?_⟩
  · refine chk_parts.2 ⟨⟨p1.1, p1.2.1, by rw [hlen.1]; exact p1.2.2.1, by rw [hlen.2.1]; exact p1.2.2.2⟩, ?_, ?_⟩
    all_goals
      rw [hlen.2.1]
      unfold putIn
      cases hi : isObj s obj with
      | false =>
        rw [hi] at hj h4
        simp only [Bool.false_eq_true, if_false] at hj h4 ⊢
        rw [symsB_set hz p2 hj h4]
        first | exact p2 | exact p3
      | true =>
        rw [hi] at hj h4
        simp only [if_true] at hj h4 ⊢
        have hm := of_decide_eq_true hi
        first
          | exact p2
          | exact objsB_set (fun L i ho => objB_set hz hy ho hj h4) (by omega) p3
  · unfold slotsOf
    rw [hio]
    unfold putIn
    cases hi : isObj s obj with
    | false =>
      rw [hi] at hj
      simp only [Bool.false_eq_true, if_false] at hj ⊢
      simp [List.getD, List.getElem?_set_self hj]
    | true =>
      rw [hi] at hj
      simp only [if_true] at hj ⊢
      have hm := of_decide_eq_true hi
      have hm : obj.toNat < s.2.length := by omega
      simp only [List.getD, List.getElem?_set_self hm, Option.getD_some] at hj ⊢
      show ((s.2[obj.toNat]?.getD sobj0).2.1.set slot.toNat (zSym y))[slot.toNat]?.getD sym0 = _
      rw [List.getElem?_set_self hj]; rfl
  · unfold slotsOf
    rw [hio]
    unfold putIn
    cases hi : isObj s obj with
    | false => simp
    | true =>
      have hm := of_decide_eq_true hi
      have hm : obj.toNat < s.2.length := by omega
      simp only [if_true, List.getD, List.getElem?_set_self hm, Option.getD_some]
      show ((s.2[obj.toNat]?.getD sobj0).2.1.set slot.toNat (zSym y)).length = _
      simp
theorem set_twice {x : SetT} (h : setE x.s x.vars x.obj x.slot x.y = 0) (y : SymT) : setE (setS x) x.vars x.obj x.slot y = 11 := by
  obtain ⟨h1, h2, h3, h4⟩ := set_right h
  obtain ⟨hc, hp, hk, hn⟩ := set_parts h
  unfold setE
  rw [if_neg (fun c => c h1), if_pos]
  refine .inr (.inr (.inr (.inr ?_)))
  rw [h2]
  show x.y.1 ≠ 4
  omega
end Go.Proofs.Yteccinlmblijfaa.Ax
/- Layer open: OpenGrows. -/
set_option linter.unusedVariables false
set_option linter.unusedSimpArgs false
namespace Go.Proofs.Yteccinlmblijfaa.Ax
open Go Go.RowKit
theorem begin_right {l : List TyT} (h : (beginF l).2.2 = 0) : chkF (beginF l).1 (beginF l).2.1 = 0 := by
  unfold beginF at h ⊢
  by_cases h1 : 4 < l.length
  · rw [if_pos h1] at h; cases h
  rw [if_neg h1] at h ⊢
  by_cases h2 : (freshF l 0).2.2 = false
  · rw [if_pos h2] at h; cases h
  rw [if_neg h2]
  obtain ⟨args, n, e1, e2⟩ := freshF_some h2
  obtain ⟨rest, q1, q2, q3, q4, q5⟩ := freshL_spec _ _ _ _ _ e1
  have q1 : args = rest := by simpa using q1
  subst q1
  rw [e2]
  have := q5 (Int.le_refl _) n 0 [] (Int.le_refl _) (fun x hx => by cases hx)
  exact chk_parts.2 ⟨⟨q3, by show n ≤ 40; omega, by show args.length ≤ 4; omega, Nat.zero_le _⟩, this.1, rfl⟩
theorem begin_none {l : List TyT} (h : (beginF l).2.2 ≠ 0) : ((beginF l).2.2 = 2 ∨ (beginF l).2.2 = 8) ∧ (beginF l).2.1 = 0 := by
  unfold beginF at h ⊢
  by_cases h1 : 4 < l.length
  · rw [if_pos h1]; exact ⟨.inl rfl, rfl⟩
  rw [if_neg h1] at h ⊢
  by_cases h2 : (freshF l 0).2.2 = false
  · rw [if_pos h2]; exact ⟨.inr rfl, rfl⟩
  · rw [if_neg h2] at h; exact (h rfl).elim
def tellY (nh : Nat) (y : SymT) : Prop := y.2.1 = (0, []) ∧ ((y.1 = 2 ∧ y.2.2 = 0) ∨ (y.1 = 3 ∧ 0 ≤ y.2.2 ∧ y.2.2 < (nh : Int)))
theorem set_11 {s : InT} {n obj slot : Int} {y : SymT} (hc : chkF s n = 0) (hy : tellY s.2.length y) : setE s n obj slot y = 0 ∨ setE s n obj slot y = 11 := by
  obtain ⟨h1, h2⟩ := hy
  have hn : symN y.1 y.2.1.1 y.2.2 y.2.1.2.length s.2.length = true := by
    rw [h1]
    unfold symN
    rcases h2 with ⟨h2, h3⟩ | ⟨h2, h3, h4⟩
    · rw [if_pos (.inl h2), h3]; rfl
    · rw [if_neg (by omega), if_pos h2]; simp [h3, h4]
  unfold setE
  rw [if_neg (fun c => c hc)]
  split
  · exact .inr rfl
  · rw [if_neg]
    · exact .inl rfl
    · rintro (c | c)
      · omega
      · rw [hn] at c; cases c
abbrev tyRows (l : List (List TyT)) : SV := .row (List TyT) 1 (fun l => [tys' l]) [] l
abbrev boolsS (l : List Bool) : SV := .row Bool 1 (fun b => [B b]) false l
def OpenGrows : Ctr := { A := List TyT × List (List TyT) × List Bool × List Int, enc := fun x => [tys' x.1, tyRows x.2.1, boolsS x.2.2.1, intsS x.2.2.2], dom := fun _ => True, res := fun _ _ => .tt }
set_option maxRecDepth 100000 in
set_option maxHeartbeats 4000000 in
theorem OpenGrows_ok : CtrSound Try.prog 3 OpenGrows :=
  ctr_of_ax (env_okB tys_ok (eqs := []) trivial (cs := [(8, beginC), (10, addC), (14, setC), (11, chkC), (12, keep_Heap), (13, keep_Syms), (9, wakes17)]) ⟨begin_ok, add_ok, setC_ok, chk_ok, keep_Heap_ok, keep_Syms_ok, wakes17_ok, trivial⟩ (bs := []) trivial (cut := [14, 26])) mixed _ Try.func3 (by kernel_rfl) rfl (fun _ _ => Nat.le_of_ble_eq_true rfl) fun ((params, l, rows, places) : List TyT × List (List TyT) × List Bool × List Int) id _ => by
    refine ⟨fun h => ⟨.refl _, rfl⟩, fun h1 => ⟨fun h => ⟨.refl _, rfl⟩, fun h2 => ⟨fun h => ⟨.refl _, rfl⟩, fun h3 => ?_⟩⟩⟩
    have hl : l.length ≤ 10 := by have := of_decide_eq_false h2; dsimp only at this; omega
    have hp : places.length ≤ 60 := by have := of_decide_eq_false h3; dsimp only at this; omega
    refine ⟨params, ⟨.refl _, trivial⟩, rfl, trivial, ?_⟩
    refine ⟨fun h4 => ?_, fun h4 => ?_⟩
    · have h4 : (beginF params).2.2 ≠ 0 := by simpa using h4
      obtain ⟨h5, h6⟩ := begin_none h4
      have hn0 : ((beginF params).2.1 == 0) = true := by rw [h6]; rfl
      refine ⟨fun h7 => ⟨fun h8 => ?_, fun h8 => absurd (hn0.symm.trans h8) (by decide)⟩, fun h7 => ⟨fun h8 => ⟨fun h9 => ?_, fun h9 => absurd (hn0.symm.trans h9) (by decide)⟩, fun h8 => ?_⟩⟩
      · refine ⟨(), trivial, rfl, trivial, ?_⟩
        exact ⟨.refl _, rfl⟩
      · refine ⟨(), trivial, rfl, trivial, ?_⟩
        exact ⟨.refl _, rfl⟩
      · exfalso
        have h7 : ¬ (beginF params).2.2 = 2 := by simpa using h7
        have h8 : ¬ (beginF params).2.2 = 8 := by simpa using h8
        omega
    have h4 : (beginF params).2.2 = 0 := by simpa using h4
    refine ⟨InT × Int × Nat, fun s => [(1, tyRows l), (2, boolsS rows), (3, intsS places), (9, .box 9 0), (10, I s.2.1), (12, I s.2.2)], fun s => [(9, sinC s.1)], fun s => s.2.2 ≤ l.length ∧ chkF s.1 s.2.1 = 0, fun s => l.length - s.2.2,
      ⟨((beginF params).1, (beginF params).2.1, 0), ⟨Nat.zero_le _, begin_right h4⟩, ⟨⟨rfl, rfl⟩, .refl _, .refl _, .refl _, .refl _, .refl _, .refl _, ⟨.refl _, .refl _, trivial⟩, trivial⟩⟩, fun ((s, n, i) : InT × Int × Nat) hi => ?_⟩
    obtain ⟨hi, hc⟩ := hi
    have hi : i ≤ l.length := hi
    have hc : chkF s n = 0 := hc
    have hsm := chk_small hc
    have hwj : IntKind.i64.wrap ((i : Int) + 1) = ((i + 1 : Nat) : Int) := by rw [wrap_eq _ (by omega) (by omega)]; omega
    refine ⟨fun h => ?_, fun h => ?_⟩
    · have hlt : i < l.length := dec_lt h
      refine ⟨⟨by omega, by dsimp only; omega⟩, ?_⟩
      refine ⟨fun h5 => ⟨.refl _, rfl⟩, fun h5 => ?_⟩
      have h5 : (l.getD i []).length ≤ 80 := by have : ¬ ((l.getD i []).length : Int) > 80 := of_decide_eq_false h5; omega
      refine ⟨TyT, fun t => [(1, tyRows l), (2, boolsS rows), (3, intsS places), (9, .box 9 0), (10, I n), (12, I i), (13, .box 13 0)], fun t => [(9, sinC s), (13, tyC t)], fun _ => True, ?_, fun (t : TyT) _ => ?_⟩
      · refine ⟨fun h6 => ?_, fun h6 => ?_⟩
        · have h6' : i < rows.length := dec_lt h6
          refine ⟨⟨Int.natCast_nonneg _, Int.ofNat_lt.2 h6'⟩, ?_⟩
          refine ⟨fun h7 => ?_, fun h7 => ?_⟩
          · exact ⟨(4, ⟨#[]⟩), trivial, ⟨rfl, rfl⟩, .refl _, .refl _, .refl _, .refl _, .refl _, .refl _, .refl _, ⟨.refl _, .refl _, trivial⟩, ⟨.refl _, .refl _, trivial⟩, trivial⟩
          · exact ⟨tR, trivial, ⟨rfl, rfl⟩, .refl _, .refl _, .refl _, .refl _, .refl _, .refl _, .refl _, ⟨.refl _, .refl _, trivial⟩, ⟨.refl _, .refl _, trivial⟩, trivial⟩
        · exact ⟨tR, trivial, ⟨rfl, rfl⟩, .refl _, .refl _, .refl _, .refl _, .refl _, .refl _, .refl _, ⟨.refl _, .refl _, trivial⟩, ⟨.refl _, .refl _, trivial⟩, trivial⟩
      · refine ⟨by kernel_rfl, ?_⟩
        refine ⟨⟨Int.natCast_nonneg _, Int.ofNat_lt.2 hlt⟩, ?_⟩
        refine ⟨⟨s, n, t, l.getD i []⟩, ⟨.agg2 (.refl _) (.refl _), .refl _, .agg2 (.refl _) (.refl _), .refl _, trivial⟩, rfl, ⟨chk_sin hc, by show (l.getD i []).length ≤ 1000000; omega⟩, ?_⟩
        have hR := @add_right ⟨s, n, t, l.getD i []⟩
        have hF : addE ⟨s, n, t, l.getD i []⟩ = 0 → addF ⟨s, n, t, l.getD i []⟩ = ((s.1, s.2 ++ [(t, (freshF (l.getD i []) n).1, (s.2.length : Int))]), (freshF (l.getD i []) n).2.1) := fun h => if_pos h
        refine ⟨fun h6 => ?_, fun h6 => ?_⟩
        · exact ⟨(s, n, i + 1), ⟨hlt, hc⟩, (by show l.length - (i + 1) < l.length - i; omega), ⟨rfl, rfl⟩, .refl _, .refl _, .refl _, .refl _, .int hwj, .refl _, ⟨.refl _, .refl _, trivial⟩, trivial⟩
        · have h6 : addE ⟨s, n, t, l.getD i []⟩ = 0 := by simpa using h6
          obtain ⟨r1, r2, -⟩ := hR h6
          have hF : addF ⟨s, n, t, l.getD i []⟩ = _ := hF h6
          have e1 : (addF ⟨s, n, t, l.getD i []⟩).1.1 = s.1 := by rw [hF]
          have e2 : (addF ⟨s, n, t, l.getD i []⟩).1.2 = s.2 ++ [(t, (freshF (l.getD i []) n).1, (s.2.length : Int))] := by rw [hF]
          have r2 : n ≤ (addF ⟨s, n, t, l.getD i []⟩).2 := r2
          have r1 : chkF (addF ⟨s, n, t, l.getD i []⟩).1 (addF ⟨s, n, t, l.getD i []⟩).2 = 0 := r1
          clear hF hR
          generalize addF ⟨s, n, t, l.getD i []⟩ = x at r1 r2 e1 e2 ⊢
          have hsx := chk_small r1
          obtain ⟨tw1, tw2⟩ := chk_tw hc
          have hw1 : IntKind.i64.wrap ((s.2.length : Int) + 1) = ((s.2.length + 1 : Nat) : Int) := by rw [wrap_eq _ (by omega) (by omega)]; omega
          have hxl : x.1.2.length = s.2.length + 1 := by rw [e2]; simp
          refine ⟨by kernel_rfl, ?_⟩
          refine ⟨fun h7 => absurd (show ((x.1.2.length : Int) != IntKind.i64.wrap ((s.2.length : Int) + 1)) = true from h7) (by rw [hw1, hxl]; simp), fun h7 => ?_⟩
          refine ⟨fun h8 => absurd (of_decide_eq_true h8) (by show ¬ x.2 < n; omega), fun h8 => ?_⟩
          refine ⟨(x.1, x.2), ⟨.agg2 (.refl _) (.refl _), .refl _, trivial⟩, rfl, chk_sin r1, ?_⟩
          refine ⟨fun h9 => absurd (show (chkF x.1 x.2 != 0) = true from h9) (by rw [r1]; decide), fun h9 => ?_⟩
          have hx2 : x.1.2.take s.2.length = s.2 := by rw [e2]; simp
          have hx2' : (x.1.2.take s.2.length).drop 0 = s.2 := by rw [hx2]; rfl
          refine ⟨⟨by decide, Int.natCast_nonneg _, by show (s.2.length : Int) ≤ (x.1.2.length : Int); rw [hxl]; omega⟩, ?_⟩
          refine ⟨((x.1.2.take s.2.length).drop 0, s.2), ⟨.refl _, .refl _, trivial⟩, rfl, ⟨by show ((x.1.2.take s.2.length).drop 0).length ≤ _; rw [hx2']; omega, fun o ho => by rw [hx2'] at ho; have := tw2.2 o ho; exact ⟨by omega, fun y hy => by have := this.2 y hy; unfold smallY; omega⟩⟩, ?_⟩
          refine ⟨fun h10 => absurd (show (!decide ((x.1.2.take s.2.length).drop 0 = s.2)) = true from h10) (by rw [hx2']; simp), fun h10 => ?_⟩
          refine ⟨(x.1.1, s.1), ⟨.refl _, .refl _, trivial⟩, rfl, ⟨by show x.1.1.length ≤ _; rw [e1]; omega, fun y hy => by rw [e1] at hy; have := tw1.2 y hy; unfold smallY; omega⟩, ?_⟩
          refine ⟨fun h11 => absurd (show (!decide (x.1.1 = s.1)) = true from h11) (by rw [e1]; simp), fun h11 => ?_⟩
          exact ⟨(x.1, x.2, i + 1), ⟨hlt, r1⟩, (by show l.length - (i + 1) < l.length - i; omega), ⟨rfl, rfl⟩, .refl _, .refl _, .refl _, .refl _, .int hwj, .refl _, ⟨.refl _, .refl _, trivial⟩, trivial⟩
    · have hge : ¬ i < l.length := dec_ge h
      refine ⟨InT × Nat, fun s => [(3, intsS places), (9, .box 9 0), (10, I n), (17, I s.2)], fun s => [(9, sinC s.1)], fun s => s.2 ≤ places.length ∧ chkF s.1 n = 0, fun s => places.length - s.2,
        ⟨(s, 0), ⟨Nat.zero_le _, hc⟩, ⟨⟨rfl, rfl⟩, .refl _, .refl _, .refl _, .refl _, ⟨.refl _, .refl _, trivial⟩, trivial⟩⟩, fun ((s, j) : InT × Nat) hj => ?_⟩
      obtain ⟨hj, hc⟩ := hj
      have hj : j ≤ places.length := hj
      have hc : chkF s n = 0 := hc
      have hsm := chk_small hc
      have hwk : IntKind.i64.wrap ((j : Int) + 1) = ((j + 1 : Nat) : Int) := by rw [wrap_eq _ (by omega) (by omega)]; omega
      refine ⟨fun h => ?_, fun h => ?_⟩
      · have hlt : j < places.length := dec_lt h
        have hnz : IntKind.u64.wrap (IntKind.i64.wrap ((s.2.length : Int) + 1)) ≠ 0 := by
          rw [wrap_eq _ (by omega) (by omega)]
          show ((s.2.length : Int) + 1) % 18446744073709551616 ≠ 0
          omega
        refine ⟨by kernel_rfl, ?_⟩
        refine ⟨⟨Int.natCast_nonneg _, Int.ofNat_lt.2 hlt⟩, ?_⟩
        refine ⟨hnz, ?_⟩
        refine ⟨⟨Int.natCast_nonneg _, Int.ofNat_lt.2 hlt⟩, ?_⟩
        refine ⟨by decide, ?_⟩
        refine ⟨by decide, ?_⟩
        refine ⟨SymT × Int × Int, fun t => [(3, intsS places), (9, .box 9 0), (10, I n), (17, I j), (18, I t.2.1), (19, I t.2.2), (20, .box 20 0)], fun t => [(9, sinC s), (20, symC t.1)], fun t => tellY s.2.length t.1, ?_, fun ((y, obj, slot) : SymT × Int × Int) hy => ?_⟩
        · refine ⟨fun h1 => ?_, fun h1 => ?_⟩
          · have h1 : 0 < s.2.length := by have : (s.2.length : Int) > 0 := of_decide_eq_true h1; omega
            refine ⟨⟨Int.natCast_nonneg _, Int.ofNat_lt.2 hlt⟩, ?_⟩
            refine ⟨by decide, ?_⟩
            refine ⟨fun h2 => ?_, fun h2 => ?_⟩
            · refine ⟨by kernel_rfl, ?_⟩
              refine ⟨⟨Int.natCast_nonneg _, Int.ofNat_lt.2 hlt⟩, ?_⟩
              refine ⟨by decide, ?_⟩
              have hnl : IntKind.u64.wrap (s.2.length : Int) = (s.2.length : Int) := by show (s.2.length : Int) % 18446744073709551616 = _; omega
              refine ⟨(by show IntKind.u64.wrap (s.2.length : Int) ≠ 0; rw [hnl]; omega), ?_⟩
              have hN : ∀ Q : Int, 0 ≤ Q → 0 ≤ IntKind.i64.wrap (Q.tmod (IntKind.u64.wrap (s.2.length : Int))) ∧ IntKind.i64.wrap (Q.tmod (IntKind.u64.wrap (s.2.length : Int))) < (s.2.length : Int) := fun Q hQ => by
                rw [hnl, Int.tmod_eq_emod_of_nonneg hQ]
                have q1 := Int.emod_nonneg Q (show (s.2.length : Int) ≠ 0 by omega)
                have q2 := Int.emod_lt_of_pos Q (show (0 : Int) < (s.2.length : Int) by omega)
                rw [wrap_eq _ (by omega) (by omega)]
                exact ⟨q1, q2⟩
              have hu : ∀ v : Int, 0 ≤ IntKind.u64.wrap v := fun v => Int.emod_nonneg v (show (18446744073709551616 : Int) ≠ 0 by decide)
              exact ⟨((3, (0, []), IntKind.i64.wrap ((IntKind.u64.wrap ((IntKind.u64.wrap (places.getD j 0)).tdiv 3)).tmod (IntKind.u64.wrap (s.2.length : Int)))), _, _), ⟨rfl, .inr ⟨rfl, hN _ (hu _)⟩⟩, ⟨rfl, rfl⟩, .refl _, .refl _, .refl _, .refl _, .refl _, .refl _, .refl _, ⟨.refl _, .refl _, trivial⟩, ⟨.refl _, .refl _, .nil .., .refl _, trivial⟩, trivial⟩
            · exact ⟨((2, (0, []), 0), _, _), ⟨rfl, .inl ⟨rfl, rfl⟩⟩, ⟨rfl, rfl⟩, .refl _, .refl _, .refl _, .refl _, .refl _, .refl _, .refl _, ⟨.refl _, .refl _, trivial⟩, ⟨.refl _, .refl _, .nil .., .refl _, trivial⟩, trivial⟩
          · exact ⟨((2, (0, []), 0), _, _), ⟨rfl, .inl ⟨rfl, rfl⟩⟩, ⟨rfl, rfl⟩, .refl _, .refl _, .refl _, .refl _, .refl _, .refl _, .refl _, ⟨.refl _, .refl _, trivial⟩, ⟨.refl _, .refl _, .nil .., .refl _, trivial⟩, trivial⟩
        · have hy : tellY s.2.length y := hy
          refine ⟨⟨s, n, obj, slot, y⟩, ⟨.agg2 (.refl _) (.refl _), .refl _, .refl _, .refl _, .agg4 (.refl _) (.refl _) (.refl _) (.refl _), trivial⟩, rfl, chk_sin hc, ?_⟩
          have h11 := set_11 (obj := obj) (slot := slot) hc hy
          have hR := @set_right ⟨s, n, obj, slot, y⟩
          have hT := fun h => @set_twice ⟨s, n, obj, slot, y⟩ h y
          refine ⟨fun h1 => ?_, fun h1 => ?_⟩
          · have h1 : setE s n obj slot y ≠ 0 := by simpa using h1
            have h11 := h11.resolve_left h1
            refine ⟨fun h2 => absurd (show (setE s n obj slot y != 11) = true from h2) (by rw [h11]; decide), fun h2 => ?_⟩
            exact ⟨(s, j + 1), ⟨hlt, hc⟩, (by show places.length - (j + 1) < places.length - j; omega), ⟨rfl, rfl⟩, .refl _, .refl _, .int hwk, .refl _, ⟨.refl _, .refl _, trivial⟩, trivial⟩
          · have h1 : setE s n obj slot y = 0 := by simpa using h1
            obtain ⟨r1, -⟩ := hR h1
            have hT : setE (setS ⟨s, n, obj, slot, y⟩) n obj slot y = 11 := hT h1
            have r1 : chkF (setS ⟨s, n, obj, slot, y⟩) n = 0 := r1
            clear hR
            generalize setS ⟨s, n, obj, slot, y⟩ = x at hT r1 ⊢
            refine ⟨⟨x, n, obj, slot, y⟩, ⟨.agg2 (.refl _) (.refl _), .refl _, .refl _, .refl _, .agg4 (.refl _) (.refl _) (.refl _) (.refl _), trivial⟩, rfl, chk_sin r1, ?_⟩
            refine ⟨fun h2 => absurd (show (setE x n obj slot y != 11) = true from h2) (by rw [hT]; decide), fun h2 => ?_⟩
            refine ⟨(x, n), ⟨.agg2 (.refl _) (.refl _), .refl _, trivial⟩, rfl, chk_sin r1, ?_⟩
            refine ⟨fun h3 => absurd (show (chkF x n != 0) = true from h3) (by rw [r1]; decide), fun h3 => ?_⟩
            exact ⟨(x, j + 1), ⟨hlt, r1⟩, (by show places.length - (j + 1) < places.length - j; omega), ⟨rfl, rfl⟩, .refl _, .refl _, .int hwk, .refl _, ⟨.refl _, .refl _, trivial⟩, trivial⟩
      · refine ⟨(s, n), ⟨.agg2 (.refl _) (.refl _), .refl _, trivial⟩, rfl, chk_sin hc, ?_⟩
        refine ⟨fun h1 => ?_, fun h1 => absurd (show (chkF s n == 0) = false from h1) (by rw [hc]; decide)⟩
        refine ⟨(), trivial, rfl, trivial, ?_⟩
        exact ⟨.refl _, rfl⟩
end Go.Proofs.Yteccinlmblijfaa.Ax
/- How the arguments of this seat's laws lie. -/
namespace Go.Proofs.Yteccinlmblijfaa.Ax
open Go Go.RowKit
abbrev sh3 : Shape := .int .i64
theorem reads3 : Reads Try.prog 3 sh3 := Reads.int Try.underlying3 (by kernel_rfl)
abbrev sh9 : Shape := .str
theorem reads9 : Reads Try.prog 9 sh9 := Reads.str Try.underlying9 (by kernel_rfl)
abbrev sh35 : Shape := sh3.pair sh9
theorem reads35 : Reads Try.prog 35 sh35 := Reads.struct Try.underlying35 (by kernel_rfl) (.cons rfl reads3 (.one rfl reads9))
abbrev sh22 : Shape := sh35.row 24
theorem reads22 : Reads Try.prog 22 sh22 := Reads.row Try.underlying22 (by kernel_rfl) (by kernel_rfl) reads35 (by decide)
abbrev sh23 : Shape := sh22.row 24
theorem reads23 : Reads Try.prog 23 sh23 := Reads.row Try.underlying23 (by kernel_rfl) (by kernel_rfl) reads22 (by decide)
abbrev sh4 : Shape := .bool
theorem reads4 : Reads Try.prog 4 sh4 := Reads.bool Try.underlying4 (by kernel_rfl)
abbrev sh24 : Shape := sh4.row 1
theorem reads24 : Reads Try.prog 24 sh24 := Reads.row Try.underlying24 (by kernel_rfl) (by kernel_rfl) reads4 (by decide)
abbrev sh25 : Shape := sh3.row 8
theorem reads25 : Reads Try.prog 25 sh25 := Reads.row Try.underlying25 (by kernel_rfl) (by kernel_rfl) reads3 (by decide)
theorem laidOut : laidOutB Try.prog = true := by kernel_rfl
end Go.Proofs.Yteccinlmblijfaa.Ax
