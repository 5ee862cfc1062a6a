/- Layer norm by the logic: the short form of one constraint. -/
import Derived.Test.YtobadhbdhomjnaaTz
set_option linter.unusedVariables false
set_option linter.unusedSimpArgs false
namespace Go.Proofs.Ytobadhbdhomjnaa.Ax
open Go Go.RowKit
abbrev Cons := (Int × List (Int × Int)) × Bool
def consC (c : (Int × List (Int × Int)) × Bool) : List SV := [I c.1.1, monos c.1.2, B c.2]
def consS (c : (Int × List (Int × Int)) × Bool) : SV := .agg (consC c)
def consO (c : (Int × List (Int × Int)) × Bool) (id : Nat) : SV := .agg [I c.1.1, monosO c.1.2 id, B c.2]
def conses (l : List ((Int × List (Int × Int)) × Bool)) : SV := .row ((Int × List (Int × Int)) × Bool) 3 consC ((0, []), false) l
def consesO (l : List ((Int × List (Int × Int)) × Bool)) (id : Nat) : SV := .own ((Int × List (Int × Int)) × Bool) 3 consC ((0, []), false) l id
def alwaysF (c : (Int × List (Int × Int)) × Bool) : Int := if c.1.1 = 0 ∨ (c.1.1 < 0 ∧ c.2 = false) then 2 else 1
def norm_always : Ctr := { A := (Int × List (Int × Int)) × Bool, enc := fun c => [consS c], dom := fun _ => True, res := fun c _ => I (alwaysF c) }
theorem norm_always_ok : CtrSound Try.prog 28 norm_always :=
  ctr_of_ax (env_ok tys_ok (eqs := []) trivial (cs := []) trivial) mixed _ Try.func28 (by kernel_rfl) rfl (fun _ _ => Nat.le_of_ble_eq_true rfl) fun (((c, l), e) : (Int × List (Int × Int)) × Bool) id hd => by
    refine ⟨?_, ?_⟩
    · skip
      intro h -- (((c, l), e).fst.fst == 0) = true
      dsimp only at h
      exact ⟨.int (by unfold alwaysF; first | (rw [if_pos (.inl (eq_of_beq h))]; done)), rfl⟩
    · skip
      intro h -- (((c, l), e).fst.fst == 0) = false
      dsimp only at h
      refine ⟨?_, ?_⟩
      · skip
        intro h -- decide (((c, l), e).fst.fst < 0) = true
        dsimp only at h
        refine ⟨?_, ?_⟩
        · skip
          intro h -- (!((c, l), e).snd) = true
          dsimp only at h
          exact ⟨.int (by unfold alwaysF; rw [if_pos (.inr ⟨of_decide_eq_true ‹decide (c < 0) = true›, by simpa using h⟩)]), rfl⟩
        · skip
          intro h -- (!((c, l), e).snd) = false
          dsimp only at h
          exact ⟨.int (by unfold alwaysF; rw [if_neg]; rintro (q | q); exact absurd (beq_iff_eq.2 q) (by rw [‹(c == 0) = false›]; decide); exact absurd q.2 (by simpa using h)), rfl⟩
      · skip
        intro h -- decide (((c, l), e).fst.fst < 0) = false
        dsimp only at h
        exact ⟨.int (by unfold alwaysF; rw [if_neg]; rintro (q | q); exact absurd (beq_iff_eq.2 q) (by rw [‹(c == 0) = false›]; decide); exact of_decide_eq_false h q.1), rfl⟩
theorem gcd_step (x y : Int) : Int.gcd y (x.tmod y) = Int.gcd x y := by
  unfold Int.gcd
  rw [Int.natAbs_tmod, Nat.gcd_comm y.natAbs, ← Nat.gcd_rec, Nat.gcd_comm]
def norm_divisor : Ctr := { A := Int × Int, enc := fun x => [I x.1, I x.2], dom := fun x => (-1152921504606846976 ≤ x.1 ∧ x.1 ≤ 1152921504606846976) ∧ -1152921504606846976 ≤ x.2 ∧ x.2 ≤ 1152921504606846976, res := fun x _ => I (Int.gcd x.1 x.2) }
theorem norm_divisor_ok : CtrSound Try.prog 29 norm_divisor :=
  ctr_of_ax (env_ok tys_ok (eqs := []) trivial (cs := []) trivial) mixed _ Try.func29 (by kernel_rfl) rfl (fun _ _ => Nat.le_of_ble_eq_true rfl) fun ((a, b) : Int × Int) id hd => by
    have hd : (-1152921504606846976 ≤ a ∧ a ≤ 1152921504606846976) ∧ -1152921504606846976 ≤ b ∧ b ≤ 1152921504606846976 := hd
    refine ⟨Int × Int, fun s => [(0, I s.1), (1, I s.2)], fun _ => [], fun s => Int.gcd s.1 s.2 = Int.gcd a b ∧ (-1152921504606846976 ≤ s.1 ∧ s.1 ≤ 1152921504606846976) ∧ -1152921504606846976 ≤ s.2 ∧ s.2 ≤ 1152921504606846976, fun s => s.2.natAbs,
      ⟨(a, b), ⟨rfl, hd⟩, ⟨⟨rfl, rfl⟩, .refl _, .refl _, trivial⟩⟩, fun ((x, y) : Int × Int) hi => ?_⟩
    have hg : Int.gcd x y = Int.gcd a b := hi.1
    have hx : -1152921504606846976 ≤ x ∧ x ≤ 1152921504606846976 := hi.2.1
    have hy : -1152921504606846976 ≤ y ∧ y ≤ 1152921504606846976 := hi.2.2
    refine ⟨fun h => ?_, fun h => ?_⟩
    · have hne : y ≠ 0 := by simpa using h
      have hm : (x.tmod y).natAbs < y.natAbs := by rw [Int.natAbs_tmod]; exact Nat.mod_lt _ (by omega)
      refine ⟨by kernel_rfl, ?_⟩
      refine ⟨hne, ?_⟩
      exact ⟨(y, x.tmod y), ⟨(gcd_step x y).trans hg, hy, by omega⟩, hm, ⟨rfl, rfl⟩, .refl _, .refl _, trivial⟩
    · have hz : y = 0 := by simpa using h
      have hw : IntKind.i64.wrap (0 - x) = -x := by rw [wrap_eq _ (by omega) (by omega)]; omega
      exact ⟨.int (by
        show (if x < IntKind.i64.wrap (0 - x) then IntKind.i64.wrap (0 - x) else x) = ((Int.gcd a b : Nat) : Int)
        rw [hw, ← hg, hz, Int.gcd_zero_right]
        split <;> omega), rfl⟩
def upF (a b : Int) : Int := if a.tmod b > 0 then a.tdiv b + 1 else a.tdiv b
def norm_up : Ctr := { A := Int × Int, enc := fun x => [I x.1, I x.2], dom := fun x => (-1152921504606846976 ≤ x.1 ∧ x.1 ≤ 1152921504606846976) ∧ 0 < x.2, res := fun x _ => I (upF x.1 x.2) }
theorem norm_up_ok : CtrSound Try.prog 30 norm_up :=
  ctr_of_ax (env_ok tys_ok (eqs := []) trivial (cs := []) trivial) mixed _ Try.func30 (by kernel_rfl) rfl (fun _ _ => Nat.le_of_ble_eq_true rfl) fun ((a, b) : Int × Int) id hd => by
    have hd : (-1152921504606846976 ≤ a ∧ a ≤ 1152921504606846976) ∧ 0 < b := hd
    have hq : (a.tdiv b).natAbs ≤ a.natAbs := by rw [Int.natAbs_tdiv]; exact Nat.div_le_self _ _
    have hne : b ≠ 0 := by omega
    have w1 : IntKind.i64.wrap (a.tdiv b) = a.tdiv b := wrap_eq _ (by omega) (by omega)
    have w2 : IntKind.i64.wrap (a.tdiv b + 1) = a.tdiv b + 1 := wrap_eq _ (by omega) (by omega)
    refine ⟨hne, hne, fun h => ?_, fun h => ?_⟩
    · exact ⟨.int (by
        show IntKind.i64.wrap (IntKind.i64.wrap (a.tdiv b) + 1) = upF a b
        rw [w1, w2, upF, if_pos (of_decide_eq_true h)]), rfl⟩
    · exact ⟨.int (by
        show IntKind.i64.wrap (a.tdiv b) = upF a b
        rw [w1, upF, if_neg (of_decide_eq_false h)]), rfl⟩
def gL (g : Nat) : List (Int × Int) → Nat
  | [] => g
  | m :: r => gL (Int.gcd g m.2) r
def sgF (c : (Int × List (Int × Int)) × Bool) : Int := if c.2 = true ∧ (c.1.2.getD 0 (0, 0)).2 < 0 then -1 else 1
def oneF (c : (Int × List (Int × Int)) × Bool) : ((Int × List (Int × Int)) × Bool) × Int × Int :=
  if right c.1 then
    if c.1.2 = [] then (((0, []), false), alwaysF c, 0)
    else if c.2 = true ∧ c.1.1.tmod (gL 0 c.1.2) ≠ 0 then (((0, []), false), 1, 0)
    else (((sgF c * upF c.1.1 (gL 0 c.1.2), c.1.2.map fun m => (m.1, (sgF c * m.2).tdiv (gL 0 c.1.2))), c.2), 0, 0)
  else (((0, []), false), 0, 1)
theorem gL_le : ∀ (l : List (Int × Int)) (g : Nat) (lo : Int), ord lo l → g ≤ 1048576 → gL g l ≤ 1048576 ∧ (0 < g ∨ l ≠ [] → 0 < gL g l)
  | [], g, _, _, h => ⟨h, fun c => by rcases c with c | c; exact c; exact absurd rfl c⟩
  | m :: r, g, lo, ⟨a, b, c, d, e, f⟩, h => by
    have hp : 0 < Int.gcd g m.2 := Int.gcd_pos_of_ne_zero_right _ c
    have hl : Int.gcd g m.2 ≤ m.2.natAbs := Nat.le_of_dvd (by omega) (Nat.gcd_dvd_right _ _)
    obtain ⟨h1, h2⟩ := gL_le r (Int.gcd g m.2) m.1 f (by omega)
    exact ⟨h1, fun _ => h2 (.inl hp)⟩
def FW (sg : Int) (g : Nat) (m : Int × Int) : Int × Int := (m.1, IntKind.i64.wrap ((IntKind.i64.wrap (sg * m.2)).tdiv (g : Int)))
theorem map_step {α β : Type} (d : α) {l : List α} {i : Nat} {f : α → β} {o t : List β} (h : i < l.length) (e : o ++ (l.drop i).map f = t) : (o ++ [f (l.getD i d)]) ++ (l.drop (i + 1)).map f = t := by
  rw [drop_at d l i h] at e
  simpa using e
theorem of_decide_lt {i n : Nat} (h : decide ((i : Int) < (n : Int)) = true) : i < n := by have := of_decide_eq_true h; omega
theorem of_decide_ge {i n : Nat} (h : decide ((i : Int) < (n : Int)) = false) (h2 : i ≤ n) : i = n := by have := of_decide_eq_false h; omega
def norm_One : Ctr := { A := (Int × List (Int × Int)) × Bool, enc := fun c => [consS c], dom := fun _ => True, res := fun c id => .tup [consO (oneF c).1 id, I (oneF c).2.1, I (oneF c).2.2] }
set_option maxRecDepth 100000 in
set_option maxHeartbeats 4000000 in
theorem norm_One_ok : CtrSound Try.prog 13 norm_One :=
  ctr_of_ax (env_ok tys_ok (eqs := []) trivial (cs := [(27, term_Check), (28, norm_always), (29, norm_divisor), (30, norm_up)]) ⟨term_Check_ok, norm_always_ok, norm_divisor_ok, norm_up_ok, trivial⟩) mixed _ Try.func13 (by kernel_rfl) rfl (fun _ _ => Nat.le_of_ble_eq_true rfl) fun (((c, l), e) : (Int × List (Int × Int)) × Bool) id hd => by
    have ck : ∀ t, (checkF t != 0) = true → checkF t = 1 ∧ ¬ right t := fun t h => ⟨by unfold checkF at *; split at h <;> simp_all, fun r => by simp [checkF, if_pos r] at h⟩
    have ck' : ∀ t, (checkF t != 0) = false → right t := fun t h => Classical.byContradiction fun r => by simp [checkF, if_neg r] at h
    refine ⟨(c, l), ⟨.agg2 (.refl _) (.refl _), trivial⟩, rfl, trivial, fun h1 => ?_, fun h1 => ⟨fun h2 => ?_, fun h2 => ?_⟩⟩
    · have q := ck _ h1
      have e0 : oneF ((c, l), e) = (((0, []), false), 0, 1) := if_neg q.2
      exact ⟨.tup3 (.agg3 (.int (by rw [e0])) (by rw [e0]; exact .nilO ..) (.bool (by rw [e0]))) (.int (by rw [e0])) (.int (by rw [e0, q.1])), rfl⟩
    · have hr := ck' _ h1
      have hnil : l = [] := List.eq_nil_of_length_eq_zero (by have := eq_of_beq h2; dsimp only at this; omega)
      have e0 : oneF ((c, l), e) = (((0, []), false), alwaysF ((c, l), e), 0) := by unfold oneF; rw [if_pos hr, if_pos hnil]
      refine ⟨((c, l), e), ⟨.agg3 (.refl _) (.refl _) (.refl _), trivial⟩, rfl, trivial, ?_⟩
      exact ⟨.tup3 (.agg3 (.int (by rw [e0])) (by rw [e0]; exact .nilO ..) (.bool (by rw [e0]))) (.int (by rw [e0])) (.int (by rw [e0])), rfl⟩
    have hr := ck' _ h1
    obtain ⟨hc, hlen, ho⟩ := (right_iff _).1 hr
    have hc : -1099511627776 ≤ c ∧ c ≤ 1099511627776 := hc
    have hlen : l.length ≤ 40 := hlen
    have ho : ord (-1) l := ho
    have hne : l ≠ [] := fun q => by subst q; simp at h2
    obtain ⟨hg1, hg2⟩ := gL_le l 0 (-1) ho (by omega)
    have hg2 : 0 < gL 0 l := hg2 (.inr hne)
    generalize hG : gL 0 l = G at hg1 hg2
    refine ⟨Nat × Nat, fun s => [(1, .box 1 0), (2, .box 2 0), (5, I s.2), (30, monos l), (31, I l.length), (32, I s.1)], fun s => [(1, [I c, monos l, B e]), (2, [I 0, .val (.slice none 0 0), B false])],
      fun s => s.1 ≤ l.length ∧ gL s.2 (l.drop s.1) = G ∧ s.2 ≤ 1048576, fun s => l.length - s.1, ⟨(0, 0), ⟨Nat.zero_le _, hG, Nat.zero_le _⟩, ⟨⟨rfl, rfl⟩, .refl _, .refl _, .refl _, .refl _, .refl _, .refl _, ⟨.refl _, .refl _, .refl _, trivial⟩, ⟨.refl _, .refl _, .refl _, trivial⟩, trivial⟩⟩, fun ((i, g) : Nat × Nat) hi => ?_⟩
    have hil : i ≤ l.length := hi.1
    have hk : gL g (l.drop i) = G := hi.2.1
    have hgb : g ≤ 1048576 := hi.2.2
    have hwj : IntKind.i64.wrap ((i : Int) + 1) = ((i + 1 : Nat) : Int) := by rw [wrap_eq _ (by omega) (by omega)]; omega
    refine ⟨fun h => ?_, fun h => ?_⟩
    · have hlt : i < l.length := by have := of_decide_eq_true h; dsimp only at this; omega
      have gd := (good_of_ord l (-1) (by omega) ho i hlt).1
      rw [drop_at (0, 0) l i hlt, gL] at hk
      have hb : Int.gcd g (l.getD i (0, 0)).2 ≤ (l.getD i (0, 0)).2.natAbs := Nat.le_of_dvd (by have := gd.2.2.2.1; omega) (Nat.gcd_dvd_right _ _)
      refine ⟨⟨by omega, by dsimp only; omega⟩, ?_⟩
      refine ⟨((g : Int), (l.getD i (0, 0)).2), ⟨.refl _, .refl _, trivial⟩, rfl, (show (-1152921504606846976 ≤ (g : Int) ∧ (g : Int) ≤ 1152921504606846976) ∧ -1152921504606846976 ≤ (l.getD i (0, 0)).2 ∧ (l.getD i (0, 0)).2 ≤ 1152921504606846976 from by have := gd.2.2.2.2; omega), ?_⟩
      exact ⟨(i + 1, Int.gcd g (l.getD i (0, 0)).2), ⟨hlt, hk, by have := gd.2.2.2.2; show Int.gcd g (l.getD i (0, 0)).2 ≤ 1048576; omega⟩, by show l.length - (i + 1) < l.length - i; omega, ⟨rfl, rfl⟩, .refl _, .refl _, .refl _, .refl _, .int hwj, .refl _, ⟨.refl _, .refl _, .refl _, trivial⟩, ⟨.refl _, .refl _, .refl _, trivial⟩, trivial⟩
    have hge : i = l.length := by have := of_decide_eq_false h; dsimp only at this; omega
    subst hge
    rw [List.drop_length] at hk
    obtain rfl : g = G := hk
    have hgz : (g : Int) ≠ 0 := by omega
    have h0 : (0 : Int) ≤ 0 ∧ (0 : Int) < (l.length : Int) := ⟨Int.le_refl _, by have := List.length_pos_iff.2 hne; omega⟩
    have ee : e = true → (c.tmod (g : Int) != 0) = true → oneF ((c, l), e) = (((0, []), false), 1, 0) := fun h h' => by
      unfold oneF; rw [if_pos hr, if_neg hne, hG, if_pos ⟨h, by simpa using h'⟩]
    have hu : (upF c g).natAbs ≤ 1099511627777 := by
      have h5 : (c.tdiv (g : Int)).natAbs ≤ c.natAbs := by rw [Int.natAbs_tdiv]; exact Nat.div_le_self _ _
      unfold upF; split <;> omega
    have fin : ∀ (sg : Int) (o : List (Int × Int)) (i : Nat), (sg = 1 ∨ sg = -1) → sgF ((c, l), e) = sg → (e = true → c.tmod (g : Int) = 0) → i = l.length → o ++ (l.drop i).map (FW sg g) = l.map (FW sg g) →
        Sub (.tup [.agg [I (IntKind.i64.wrap (sg * upF c g)), monosO o id, B e], I 0, I 0]) (norm_One.res ((c, l), e) id) := by
      intro sg o i hs1 hs2 hz hil ho2
      have w1 : IntKind.i64.wrap (sg * upF c g) = sg * upF c g := by rcases hs1 with rfl | rfl <;> exact wrap_eq _ (by omega) (by omega)
      have w2 : o = l.map fun m => (m.1, (sg * m.2).tdiv (g : Int)) := by
        rw [hil, List.drop_length] at ho2
        simp only [List.map_nil, List.append_nil] at ho2
        rw [ho2]
        refine List.map_congr_left fun m hm => ?_
        obtain ⟨j, hj, rfl⟩ := List.getElem_of_mem hm
        have gd := (good_of_ord l (-1) (by omega) ho j hj).1
        have e5 : l.getD j (0, 0) = l[j] := by simp [List.getD, hj]
        have gb := gd.2.2.2.2
        rw [e5] at gb
        have h6 : (sg * l[j].2).natAbs ≤ 1048576 := by rcases hs1 with rfl | rfl <;> omega
        have h7 : ((sg * l[j].2).tdiv (g : Int)).natAbs ≤ (sg * l[j].2).natAbs := by rw [Int.natAbs_tdiv]; exact Nat.div_le_self _ _
        unfold FW
        rw [wrap_eq (sg * l[j].2) (by omega) (by omega), wrap_eq _ (by omega) (by omega)]
      have e0 : oneF ((c, l), e) = (((sg * upF c g, l.map fun m => (m.1, (sg * m.2).tdiv (g : Int))), e), 0, 0) := by
        unfold oneF
        rw [if_pos hr, if_neg hne, hG, hs2, if_neg (fun q => q.2 (hz q.1))]
      exact .tup3 (.agg3 (.int (by rw [e0, w1])) (Sub.ownEq (by rw [e0, w2])) (.bool (by rw [e0]))) (.int (by rw [e0])) (.int (by rw [e0]))
    refine ⟨?_, ?_⟩
    · skip
      intro h -- e = true
      refine ⟨?_, ?_⟩
      · skip
        intro h -- ↑(l.length, g).snd = 0
        dsimp only at h
        exact absurd h hgz
      · skip
        refine ⟨?_, ?_⟩
        · skip
          intro h -- (c.tmod ↑(l.length, g).snd != 0) = true
          dsimp only at h
          exact ⟨.tup3 (.agg3 (.int (by rw [ee ‹e = true› h])) (by rw [ee ‹e = true› h]; exact .nilO ..) (.bool (by rw [ee ‹e = true› h]))) (.int (by rw [ee ‹e = true› h])) (.int (by rw [ee ‹e = true› h])), rfl⟩
        · skip
          intro h -- (c.tmod ↑(l.length, g).snd != 0) = false
          dsimp only at h
          refine ⟨?_, ?_⟩
          · skip
            intro h -- e = true
            refine ⟨?_, ?_⟩
            · exact h0
            · skip
              refine ⟨?_, ?_⟩
              · skip
                intro h -- decide ((l.getD (Int.toNat 0) (0, 0)).snd < 0) = true
                refine ⟨?_, ?_⟩
                · kernel_rfl
                · skip
                  refine ⟨(c, (g : Int)), ⟨.refl _, .refl _, trivial⟩, rfl, (show (-1152921504606846976 ≤ c ∧ c ≤ 1152921504606846976) ∧ 0 < (g : Int) by omega), ?_⟩
                  (have _ := ‹decide ((l.getD 0 (0, 0)).2 < 0) = true›; refine ⟨Nat × List (Int × Int), fun s => [(1, .box 1 0), (2, .box 2 0), (5, I (g : Int)), (8, I (-1)), (76, monos l), (77, I l.length), (78, I s.1)], fun s => [(1, [I c, monos l, B e]), (2, [I (IntKind.i64.wrap ((-1) * upF c g)), monosO s.2 95, B e])], fun s => s.1 ≤ l.length ∧ s.2 ++ (l.drop s.1).map (FW (-1) g) = l.map (FW (-1) g) ∧ s.2.length ≤ s.1, fun s => l.length - s.1, ⟨(0, []), ⟨Nat.zero_le _, rfl, Nat.le_refl _⟩, ⟨⟨rfl, rfl⟩, .refl _, .refl _, .refl _, .refl _, .refl _, .refl _, .refl _, ⟨.refl _, .refl _, .refl _, trivial⟩, ⟨.refl _, .nilO .., .refl _, trivial⟩, trivial⟩⟩, fun ((i, o) : Nat × List (Int × Int)) hi => ?_⟩)
                  refine ⟨?_, ?_⟩
                  · skip
                    intro h -- decide (↑(i, o).fst < ↑l.length) = true
                    dsimp only at h
                    refine ⟨?_, ?_⟩
                    · exact ⟨Int.natCast_nonneg _, of_decide_eq_true h⟩
                    · skip
                      refine ⟨?_, ?_⟩
                      · kernel_rfl
                      · skip
                        refine ⟨?_, ?_⟩
                        · skip
                          intro h -- ↑g = 0
                          exact absurd h hgz
                        · skip
                          (have _ := ‹decide ((l.getD 0 (0, 0)).2 < 0) = true›; refine ⟨Int × Int, monoC, (0, 0), [FW (-1) g (l.getD i (0, 0))], ⟨rfl, fun _ => rfl⟩, ⟨.refl _, .refl _, trivial⟩, rfl, ?_⟩)
                          (have _ := ‹decide ((l.getD 0 (0, 0)).2 < 0) = true›; refine ⟨Int × Int, monoC, (0, 0), o, [FW (-1) g (l.getD i (0, 0))], 95, ⟨.refl _, .own ..⟩, fun _ => rfl, (by have h5 := hi.2.2; have h6 := hi.1; dsimp only at h5 h6; simp only [List.length_cons, List.length_nil]; omega), ?_⟩)
                          (have _ := ‹decide ((l.getD 0 (0, 0)).2 < 0) = true›; exact ⟨(i + 1, o ++ [FW (-1) g (l.getD i (0, 0))]), ⟨(of_decide_lt h), map_step (0, 0) (of_decide_lt h) hi.2.1, (by have h5 := hi.2.2; dsimp only at h5; simp only [List.length_append, List.length_cons, List.length_nil]; omega)⟩, (by have h5 := of_decide_lt h; show l.length - (i + 1) < l.length - i; omega), ⟨rfl, rfl⟩, .refl _, .refl _, .refl _, .refl _, .refl _, .refl _, .int (by have h6 := hi.1; dsimp only at h6; rw [wrap_eq _ (by omega) (by omega)]; rfl), ⟨.refl _, .refl _, .refl _, trivial⟩, ⟨.refl _, .refl _, .refl _, trivial⟩, trivial⟩)
                  · skip
                    intro h -- decide (↑(i, o).fst < ↑l.length) = false
                    dsimp only at h
                    (have _ := ‹decide ((l.getD 0 (0, 0)).2 < 0) = true›; exact ⟨fin (-1) o i (.inr rfl) (if_pos ⟨‹e = true›, of_decide_eq_true ‹decide ((l.getD 0 (0, 0)).2 < 0) = true›⟩) (fun _ => by simpa using ‹(c.tmod (g : Int) != 0) = false›) (of_decide_ge h hi.1) hi.2.1, rfl⟩)
              · skip
                intro h -- decide ((l.getD (Int.toNat 0) (0, 0)).snd < 0) = false
                refine ⟨?_, ?_⟩
                · kernel_rfl
                · skip
                  refine ⟨(c, (g : Int)), ⟨.refl _, .refl _, trivial⟩, rfl, (show (-1152921504606846976 ≤ c ∧ c ≤ 1152921504606846976) ∧ 0 < (g : Int) by omega), ?_⟩
                  refine ⟨Nat × List (Int × Int), fun s => [(1, .box 1 0), (2, .box 2 0), (5, I (g : Int)), (8, I (1)), (76, monos l), (77, I l.length), (78, I s.1)], fun s => [(1, [I c, monos l, B e]), (2, [I (IntKind.i64.wrap ((1) * upF c g)), monosO s.2 95, B e])], fun s => s.1 ≤ l.length ∧ s.2 ++ (l.drop s.1).map (FW (1) g) = l.map (FW (1) g) ∧ s.2.length ≤ s.1, fun s => l.length - s.1, ⟨(0, []), ⟨Nat.zero_le _, rfl, Nat.le_refl _⟩, ⟨⟨rfl, rfl⟩, .refl _, .refl _, .refl _, .refl _, .refl _, .refl _, .refl _, ⟨.refl _, .refl _, .refl _, trivial⟩, ⟨.refl _, .nilO .., .refl _, trivial⟩, trivial⟩⟩, fun ((i, o) : Nat × List (Int × Int)) hi => ?_⟩
                  refine ⟨?_, ?_⟩
                  · skip
                    intro h -- decide (↑(i, o).fst < ↑l.length) = true
                    dsimp only at h
                    refine ⟨?_, ?_⟩
                    · exact ⟨Int.natCast_nonneg _, of_decide_eq_true h⟩
                    · skip
                      refine ⟨?_, ?_⟩
                      · kernel_rfl
                      · skip
                        refine ⟨?_, ?_⟩
                        · skip
                          intro h -- ↑g = 0
                          exact absurd h hgz
                        · skip
                          refine ⟨Int × Int, monoC, (0, 0), [FW (1) g (l.getD i (0, 0))], ⟨rfl, fun _ => rfl⟩, ⟨.refl _, .refl _, trivial⟩, rfl, ?_⟩
                          refine ⟨Int × Int, monoC, (0, 0), o, [FW (1) g (l.getD i (0, 0))], 95, ⟨.refl _, .own ..⟩, fun _ => rfl, (by have h5 := hi.2.2; have h6 := hi.1; dsimp only at h5 h6; simp only [List.length_cons, List.length_nil]; omega), ?_⟩
                          exact ⟨(i + 1, o ++ [FW (1) g (l.getD i (0, 0))]), ⟨(of_decide_lt h), map_step (0, 0) (of_decide_lt h) hi.2.1, (by have h5 := hi.2.2; dsimp only at h5; simp only [List.length_append, List.length_cons, List.length_nil]; omega)⟩, (by have h5 := of_decide_lt h; show l.length - (i + 1) < l.length - i; omega), ⟨rfl, rfl⟩, .refl _, .refl _, .refl _, .refl _, .refl _, .refl _, .int (by have h6 := hi.1; dsimp only at h6; rw [wrap_eq _ (by omega) (by omega)]; rfl), ⟨.refl _, .refl _, .refl _, trivial⟩, ⟨.refl _, .refl _, .refl _, trivial⟩, trivial⟩
                  · skip
                    intro h -- decide (↑(i, o).fst < ↑l.length) = false
                    dsimp only at h
                    exact ⟨fin 1 o i (.inl rfl) (if_neg fun q => of_decide_eq_false ‹decide ((l.getD 0 (0, 0)).2 < 0) = false› q.2) (fun _ => by simpa using ‹(c.tmod (g : Int) != 0) = false›) (of_decide_ge h hi.1) hi.2.1, rfl⟩
          · skip
            intro h -- e = false
            exact Bool.noConfusion (h.symm.trans ‹e = true›)
    · skip
      intro h -- e = false
      refine ⟨?_, ?_⟩
      · skip
        intro h -- e = true
        exact Bool.noConfusion (h.symm.trans ‹e = false›)
      · skip
        intro h -- e = false
        refine ⟨?_, ?_⟩
        · kernel_rfl
        · skip
          refine ⟨(c, (g : Int)), ⟨.refl _, .refl _, trivial⟩, rfl, (show (-1152921504606846976 ≤ c ∧ c ≤ 1152921504606846976) ∧ 0 < (g : Int) by omega), ?_⟩
          refine ⟨Nat × List (Int × Int), fun s => [(1, .box 1 0), (2, .box 2 0), (5, I (g : Int)), (8, I (1)), (76, monos l), (77, I l.length), (78, I s.1)], fun s => [(1, [I c, monos l, B e]), (2, [I (IntKind.i64.wrap ((1) * upF c g)), monosO s.2 95, B e])], fun s => s.1 ≤ l.length ∧ s.2 ++ (l.drop s.1).map (FW (1) g) = l.map (FW (1) g) ∧ s.2.length ≤ s.1, fun s => l.length - s.1, ⟨(0, []), ⟨Nat.zero_le _, rfl, Nat.le_refl _⟩, ⟨⟨rfl, rfl⟩, .refl _, .refl _, .refl _, .refl _, .refl _, .refl _, .refl _, ⟨.refl _, .refl _, .refl _, trivial⟩, ⟨.refl _, .nilO .., .refl _, trivial⟩, trivial⟩⟩, fun ((i, o) : Nat × List (Int × Int)) hi => ?_⟩
          refine ⟨?_, ?_⟩
          · skip
            intro h -- decide (↑(i, o).fst < ↑l.length) = true
            dsimp only at h
            refine ⟨?_, ?_⟩
            · exact ⟨Int.natCast_nonneg _, of_decide_eq_true h⟩
            · skip
              refine ⟨?_, ?_⟩
              · kernel_rfl
              · skip
                refine ⟨?_, ?_⟩
                · skip
                  intro h -- ↑g = 0
                  exact absurd h hgz
                · skip
                  refine ⟨Int × Int, monoC, (0, 0), [FW (1) g (l.getD i (0, 0))], ⟨rfl, fun _ => rfl⟩, ⟨.refl _, .refl _, trivial⟩, rfl, ?_⟩
                  refine ⟨Int × Int, monoC, (0, 0), o, [FW (1) g (l.getD i (0, 0))], 95, ⟨.refl _, .own ..⟩, fun _ => rfl, (by have h5 := hi.2.2; have h6 := hi.1; dsimp only at h5 h6; simp only [List.length_cons, List.length_nil]; omega), ?_⟩
                  exact ⟨(i + 1, o ++ [FW (1) g (l.getD i (0, 0))]), ⟨(of_decide_lt h), map_step (0, 0) (of_decide_lt h) hi.2.1, (by have h5 := hi.2.2; dsimp only at h5; simp only [List.length_append, List.length_cons, List.length_nil]; omega)⟩, (by have h5 := of_decide_lt h; show l.length - (i + 1) < l.length - i; omega), ⟨rfl, rfl⟩, .refl _, .refl _, .refl _, .refl _, .refl _, .refl _, .int (by have h6 := hi.1; dsimp only at h6; rw [wrap_eq _ (by omega) (by omega)]; rfl), ⟨.refl _, .refl _, .refl _, trivial⟩, ⟨.refl _, .refl _, .refl _, trivial⟩, trivial⟩
          · skip
            intro h -- decide (↑(i, o).fst < ↑l.length) = false
            dsimp only at h
            exact ⟨fin 1 o i (.inl rfl) (if_neg fun q => Bool.noConfusion (q.1.symm.trans ‹e = false›)) (fun q => Bool.noConfusion (q.symm.trans ‹e = false›)) (of_decide_ge h hi.1) hi.2.1, rfl⟩
end Go.Proofs.Ytobadhbdhomjnaa.Ax
