/- The laws of layer ints by the logic: IntsBack, IntsSigns. -/
import Derived.Test.YtblekbpchhhkkaaFi
set_option linter.unusedVariables false
set_option linter.unusedSimpArgs false
namespace Go.Proofs.Ytblekbpchhhkkaa.Ax
open Go Go.RowKit

theorem add_def (a b : Int) : addF a b = if F a ∧ F b ∧ F (a + b) then (a + b, true) else (0, false) := rfl
def wakes8 : Ctr := { A := Unit, enc := fun _ => [], dom := fun _ => True, res := fun _ _ => .tt }
set_option maxRecDepth 100000 in
theorem wakes8_ok : CtrSound Try.prog 11 wakes8 :=
  ctr_of_ax (env_ok tys_ok (eqs := []) trivial (cs := [(14, ints_Div), (15, ints_Rem), (12, ints_Add), (9, ints_Fits)]) ⟨ints_Div_ok, ints_Rem_ok, ints_Add_ok, ints_Fits_ok, trivial⟩) mixed _ Try.func11 (by kernel_rfl) rfl (fun _ _ => Nat.le_of_ble_eq_true rfl) fun (x : Unit) id _ => by
    refine ⟨(_, _), ⟨.refl _, .refl _, trivial⟩, rfl, trivial, ?_⟩
    refine ⟨(_, _), ⟨.refl _, .refl _, trivial⟩, rfl, trivial, ?_⟩
    refine ⟨(_, _), ⟨.refl _, .refl _, trivial⟩, rfl, trivial, ?_⟩
    repeat' (first
      | (intro h; first | exact absurd h (by decide) | skip)
      | (refine ⟨_, ⟨.refl _, trivial⟩, rfl, trivial, ?_⟩)
      | (refine ⟨.toTT (by decide), rfl⟩)
      | (refine ⟨?_, ?_⟩))
def two (n : Int × Int) : List SV := [I n.1, I n.2]
/-- a contract at one input, its answer known -/
def atU (args : List SV) (r : SV) : Ctr := { A := Unit, enc := fun _ => args, dom := fun _ => True, res := fun _ _ => r }
def fitsT : Ctr := { A := Int, enc := fun n => [I n], dom := F, res := fun _ _ => .tt }
theorem fitsT_ok {g : Nat} (h : CtrSound Try.prog g ints_Fits) : CtrSound Try.prog g fitsT :=
  h.weaken (fun n => n) (fun _ _ => rfl) (fun _ _ => trivial) (fun (n : Int) _ (hn : F n) => .toTT (decide_eq_true hn))
def tf (b : Bool) : SV := match b with | true => .tt | false => .ff
theorem Sub.tf (b : Bool) : Sub (B b) (Ax.tf b) := by cases b; exact .ff'; exact .tt'
theorem at_add {a b : Int} {p : Int × Bool} (e : addF a b = p) : CtrSound Try.prog 12 (atU [I a, I b] (.tup [I p.1, tf p.2])) :=
  ints_Add_ok.weaken (fun _ => (a, b)) (fun _ _ => rfl) (fun _ _ => trivial) (fun _ _ _ => by subst e; exact .tup2 (.refl _) (.tf _))
theorem at_sub {a b : Int} {p : Int × Bool} (e : subF a b = p) : CtrSound Try.prog 13 (atU [I a, I b] (.tup [I p.1, tf p.2])) :=
  ints_Sub_ok.weaken (fun _ => (a, b)) (fun _ _ => rfl) (fun _ _ => trivial) (fun _ _ _ => by subst e; exact .tup2 (.refl _) (.tf _))
theorem at_div {a b : Int} {p : Int × Bool} (e : divF a b = p) : CtrSound Try.prog 14 (atU [I a, I b] (.tup [I p.1, tf p.2])) :=
  ints_Div_ok.weaken (fun _ => (a, b)) (fun _ _ => rfl) (fun _ _ => trivial) (fun _ _ _ => by subst e; exact .tup2 (.refl _) (.tf _))
theorem at_rem {a b : Int} {p : Int × Bool} (e : remF a b = p) : CtrSound Try.prog 15 (atU [I a, I b] (.tup [I p.1, tf p.2])) :=
  ints_Rem_ok.weaken (fun _ => (a, b)) (fun _ _ => rfl) (fun _ _ => trivial) (fun _ _ _ => by subst e; exact .tup2 (.refl _) (.tf _))
def IntsBack : Ctr := { A := Int × Int, enc := two, dom := fun _ => True, res := fun _ _ => .tt }
set_option maxRecDepth 100000 in
set_option maxHeartbeats 4000000 in
theorem back_in (a b : Int) (ha : F a) (hb : F b) (id : Nat) : ∃ E, EnvOk Try.prog E ∧ ax E (Try.f3.body.getD .skip) (st0 [I a, I b] Try.f3.ntmps) (Post E Try.f3.results.toList id .tt) := by
  have hm := Int.tmod_add_tdiv_mul a b
  have hd0 := tdivb a b
  have hm0 := tmodb a b
  have hlt : b ≠ 0 → (Int.tmod a b).natAbs < b.natAbs := fun h => by rw [Int.natAbs_tmod]; exact Nat.mod_lt _ (by omega)
  have hs : 0 ≤ a → 0 ≤ Int.tmod a b := fun h => Int.tmod_nonneg b h
  have hs' : a < 0 → Int.tmod a b ≤ 0 := fun h => by
    have := Int.tmod_nonneg b (a := -a) (by omega)
    rw [Int.neg_tmod] at this
    omega
  have hF : ∀ x, F x ↔ -2147483648 ≤ x ∧ x ≤ 2147483647 := fun x => Iff.rfl
  have ha' := ha
  have hb' := hb
  rw [hF] at ha' hb'
  have w0 : IntKind.i64.wrap (0 - b) = -b := by rw [wrap_eq _ (by omega) (by omega)]; omega
  have w1 : IntKind.i64.wrap (Int.tdiv a b * b) = Int.tdiv a b * b := wrap_eq _ (by omega) (by omega)
  have w2 : IntKind.i64.wrap (Int.tdiv a b * b + Int.tmod a b) = a := by rw [wrap_eq _ (by omega) (by omega)]; omega
  have hadd : (∃ s, addF a b = (s, true) ∧ subF s b = (a, true)) ∨ addF a b = (0, false) := by
    unfold addF
    by_cases c : F a ∧ F b ∧ F (a + b)
    · left
      rw [if_pos c]
      refine ⟨a + b, rfl, ?_⟩
      unfold subF
      rw [Int.add_sub_cancel, if_pos ⟨c.2.2, c.2.1, c.1⟩]
    · right; rw [if_neg c]
  have hE : ∃ p q : Int × Bool, divF a b = p ∧ remF a b = q ∧ (b = 0 → p = (0, false) ∧ q = (0, false)) ∧ (b ≠ 0 → q = (Int.tmod a b, true) ∧ (p = (Int.tdiv a b, true) ∨ p = (0, false) ∧ a = -2147483648 ∧ b = -1)) := by
    refine ⟨_, _, rfl, rfl, fun h0 => ⟨div_no (fun c => c.2.2 h0), rem_no (fun c => c.2.2 h0)⟩, fun h0 => ⟨?_, ?_⟩⟩
    · unfold remF
      rw [if_pos ⟨ha, hb, h0, by rw [hF]; have := hlt h0; omega⟩]
    · unfold divF
      by_cases c : F (Int.tdiv a b)
      · left; rw [if_pos ⟨ha, hb, h0, c⟩]
      · right
        refine ⟨by rw [if_neg (fun h => c h.2.2.2)], ?_⟩
        rw [hF] at c
        have h1 : (Int.tdiv a b).natAbs = a.natAbs / b.natAbs := Int.natAbs_tdiv a b
        have h2 : b.natAbs = 1 := by
          by_cases h3 : b.natAbs = 1
          · exact h3
          · exfalso
            have : a.natAbs / b.natAbs ≤ a.natAbs / 2 := Nat.div_le_div_left (by omega) (by omega)
            omega
        have h3 : a = -2147483648 := by
          rw [h2] at h1
          omega
        refine ⟨h3, ?_⟩
        have h4 : b = 1 ∨ b = -1 := by omega
        rcases h4 with h4 | h4
        · exfalso; subst h4; rw [Int.tdiv_one] at c; omega
        · exact h4
  obtain ⟨p, q, ep, eq, h00, h01⟩ := hE
  have main : ∀ (c1 c2 : Ctr), CtrSound Try.prog 12 c1 → CtrSound Try.prog 13 c2 → EnvOk Try.prog (env tys [] [(11, wakes8), (14, atU [I a, I b] (.tup [I p.1, tf p.2])), (15, atU [I a, I b] (.tup [I q.1, tf q.2])), (12, c1), (13, c2), (9, fitsT), (10, fitsT)]) :=
    fun c1 c2 h1 h2 => env_ok tys_ok trivial ⟨wakes8_ok, at_div ep, at_rem eq, h1, h2, fitsT_ok ints_Fits_ok, fitsT_ok ref_Fit_ok, trivial⟩
  rcases hadd with ⟨s, e1, e2⟩ | e1
  · refine ⟨_, main _ _ (at_add e1) (at_sub e2), ?_⟩
    by_cases h0 : b = 0
    · obtain ⟨rfl, rfl⟩ := h00 h0
      refine ⟨_, ⟨.refl _, trivial⟩, rfl, (by assumption), ?_⟩
      refine ⟨_, ⟨.refl _, trivial⟩, rfl, (by assumption), ?_⟩
      refine ⟨_, ⟨.refl _, trivial⟩, rfl, (by assumption), ?_⟩
      refine ⟨_, ⟨.refl _, trivial⟩, rfl, (by assumption), ?_⟩
      refine ⟨(), ⟨.refl _, .refl _, trivial⟩, rfl, trivial, ?_⟩
      refine ⟨(), ⟨.refl _, .refl _, trivial⟩, rfl, trivial, ?_⟩
      refine ⟨?_, ?_⟩
      · skip
        intro h -- ((a, true).fst != a) = true
        (replace h := bne_iff_ne.1 h; try simp only [w0, w1, w2] at h)
        exact (by exfalso; omega)
      · skip
        intro h -- ((a, true).fst != a) = false
        (replace h := bne_eq_false_iff_eq.1 h; try simp only [w0, w1, w2] at h)
        refine ⟨(), ⟨.refl _, .refl _, trivial⟩, rfl, trivial, ?_⟩
        refine ⟨(), ⟨.refl _, .refl _, trivial⟩, rfl, trivial, ?_⟩
        refine ⟨?_, ?_⟩
        · skip
          intro h -- (b == 0) = true
          (replace h := of_decide_eq_true h; try simp only [w0, w1, w2] at h)
          refine ⟨?_, ?_⟩
          · skip
            intro h -- (IntKind.i64.wrap ((0, false).fst + (0, false).fst) == 0) = true
            (replace h := of_decide_eq_true h; try simp only [w0, w1, w2] at h)
            refine ⟨(), trivial, rfl, trivial, ?_⟩
            exact ⟨.refl _, rfl⟩
          · skip
            intro h -- (IntKind.i64.wrap ((0, false).fst + (0, false).fst) == 0) = false
            (replace h := of_decide_eq_false h; try simp only [w0, w1, w2] at h)
            exact (by exfalso; exact h rfl)
        · skip
          intro h -- (b == 0) = false
          (replace h := of_decide_eq_false h; try simp only [w0, w1, w2] at h)
          exact (by exfalso; omega)
    · obtain ⟨rfl, h2⟩ := h01 h0
      have hlt' := hlt h0
      rcases h2 with rfl | ⟨rfl, h3, h4⟩
      · refine ⟨_, ⟨.refl _, trivial⟩, rfl, (by assumption), ?_⟩
        refine ⟨_, ⟨.refl _, trivial⟩, rfl, (by assumption), ?_⟩
        refine ⟨_, ⟨.refl _, trivial⟩, rfl, (by assumption), ?_⟩
        refine ⟨_, ⟨.refl _, trivial⟩, rfl, (by assumption), ?_⟩
        refine ⟨(), ⟨.refl _, .refl _, trivial⟩, rfl, trivial, ?_⟩
        refine ⟨(), ⟨.refl _, .refl _, trivial⟩, rfl, trivial, ?_⟩
        refine ⟨?_, ?_⟩
        · skip
          intro h -- ((a, true).fst != a) = true
          (replace h := bne_iff_ne.1 h; try simp only [w0, w1, w2] at h)
          exact (by exfalso; omega)
        · skip
          intro h -- ((a, true).fst != a) = false
          (replace h := bne_eq_false_iff_eq.1 h; try simp only [w0, w1, w2] at h)
          refine ⟨(), ⟨.refl _, .refl _, trivial⟩, rfl, trivial, ?_⟩
          refine ⟨(), ⟨.refl _, .refl _, trivial⟩, rfl, trivial, ?_⟩
          refine ⟨?_, ?_⟩
          · skip
            intro h -- (b == 0) = true
            (replace h := of_decide_eq_true h; try simp only [w0, w1, w2] at h)
            exact (by exfalso; omega)
          · skip
            intro h -- (b == 0) = false
            (replace h := of_decide_eq_false h; try simp only [w0, w1, w2] at h)
            refine ⟨?_, ?_⟩
            · skip
              intro h -- decide (a ≥ 0) = true
              (replace h := of_decide_eq_true h; try simp only [w0, w1, w2] at h)
              refine ⟨?_, ?_⟩
              · skip
                intro h -- decide ((a.tmod b, true).fst < 0) = true
                (replace h := of_decide_eq_true h; try simp only [w0, w1, w2] at h)
                exact (by exfalso; omega)
              · skip
                intro h -- decide ((a.tmod b, true).fst < 0) = false
                (replace h := of_decide_eq_false h; try simp only [w0, w1, w2] at h)
                refine ⟨?_, ?_⟩
                · skip
                  intro h -- decide ((a.tmod b, true).fst > a) = true
                  (replace h := of_decide_eq_true h; try simp only [w0, w1, w2] at h)
                  exact (by exfalso; omega)
                · skip
                  intro h -- decide ((a.tmod b, true).fst > a) = false
                  (replace h := of_decide_eq_false h; try simp only [w0, w1, w2] at h)
                  refine ⟨?_, ?_⟩
                  · skip
                    intro h -- decide (a < 0) = true
                    (replace h := of_decide_eq_true h; try simp only [w0, w1, w2] at h)
                    exact (by exfalso; omega)
                  · skip
                    intro h -- decide (a < 0) = false
                    (replace h := of_decide_eq_false h; try simp only [w0, w1, w2] at h)
                    refine ⟨?_, ?_⟩
                    · skip
                      intro h -- decide (b > 0) = true
                      (replace h := of_decide_eq_true h; try simp only [w0, w1, w2] at h)
                      refine ⟨?_, ?_⟩
                      · skip
                        intro h -- decide ((a.tmod b, true).fst ≥ b) = true
                        (replace h := of_decide_eq_true h; try simp only [w0, w1, w2] at h)
                        exact (by exfalso; omega)
                      · skip
                        intro h -- decide ((a.tmod b, true).fst ≥ b) = false
                        (replace h := of_decide_eq_false h; try simp only [w0, w1, w2] at h)
                        refine ⟨?_, ?_⟩
                        · skip
                          intro h -- decide ((a.tmod b, true).fst ≤ IntKind.i64.wrap (0 - b)) = true
                          (replace h := of_decide_eq_true h; try simp only [w0, w1, w2] at h)
                          exact (by exfalso; omega)
                        · skip
                          intro h -- decide ((a.tmod b, true).fst ≤ IntKind.i64.wrap (0 - b)) = false
                          (replace h := of_decide_eq_false h; try simp only [w0, w1, w2] at h)
                          refine ⟨?_, ?_⟩
                          · skip
                            intro h -- decide (b < 0) = true
                            (replace h := of_decide_eq_true h; try simp only [w0, w1, w2] at h)
                            exact (by exfalso; omega)
                          · skip
                            intro h -- decide (b < 0) = false
                            (replace h := of_decide_eq_false h; try simp only [w0, w1, w2] at h)
                            refine ⟨?_, ?_⟩
                            · skip
                              intro h -- (IntKind.i64.wrap (IntKind.i64.wrap ((a.tdiv b, true).fst * b) + (a.tmod b, true).fst) == a) = true
                              (replace h := of_decide_eq_true h; try simp only [w0, w1, w2] at h)
                              refine ⟨(), trivial, rfl, trivial, ?_⟩
                              exact ⟨.refl _, rfl⟩
                            · skip
                              intro h -- (IntKind.i64.wrap (IntKind.i64.wrap ((a.tdiv b, true).fst * b) + (a.tmod b, true).fst) == a) = false
                              (replace h := of_decide_eq_false h; try simp only [w0, w1, w2] at h)
                              exact (by exfalso; exact absurd h (by decide))
                    · skip
                      intro h -- decide (b > 0) = false
                      (replace h := of_decide_eq_false h; try simp only [w0, w1, w2] at h)
                      refine ⟨?_, ?_⟩
                      · skip
                        intro h -- decide (b < 0) = true
                        (replace h := of_decide_eq_true h; try simp only [w0, w1, w2] at h)
                        refine ⟨?_, ?_⟩
                        · skip
                          intro h -- decide ((a.tmod b, true).fst ≥ IntKind.i64.wrap (0 - b)) = true
                          (replace h := of_decide_eq_true h; try simp only [w0, w1, w2] at h)
                          exact (by exfalso; omega)
                        · skip
                          intro h -- decide ((a.tmod b, true).fst ≥ IntKind.i64.wrap (0 - b)) = false
                          (replace h := of_decide_eq_false h; try simp only [w0, w1, w2] at h)
                          refine ⟨?_, ?_⟩
                          · skip
                            intro h -- decide ((a.tmod b, true).fst ≤ b) = true
                            (replace h := of_decide_eq_true h; try simp only [w0, w1, w2] at h)
                            exact (by exfalso; omega)
                          · skip
                            intro h -- decide ((a.tmod b, true).fst ≤ b) = false
                            (replace h := of_decide_eq_false h; try simp only [w0, w1, w2] at h)
                            refine ⟨?_, ?_⟩
                            · skip
                              intro h -- (IntKind.i64.wrap (IntKind.i64.wrap ((a.tdiv b, true).fst * b) + (a.tmod b, true).fst) == a) = true
                              (replace h := of_decide_eq_true h; try simp only [w0, w1, w2] at h)
                              refine ⟨(), trivial, rfl, trivial, ?_⟩
                              exact ⟨.refl _, rfl⟩
                            · skip
                              intro h -- (IntKind.i64.wrap (IntKind.i64.wrap ((a.tdiv b, true).fst * b) + (a.tmod b, true).fst) == a) = false
                              (replace h := of_decide_eq_false h; try simp only [w0, w1, w2] at h)
                              exact (by exfalso; exact absurd h (by decide))
                      · skip
                        intro h -- decide (b < 0) = false
                        (replace h := of_decide_eq_false h; try simp only [w0, w1, w2] at h)
                        exact (by exfalso; omega)
            · skip
              intro h -- decide (a ≥ 0) = false
              (replace h := of_decide_eq_false h; try simp only [w0, w1, w2] at h)
              refine ⟨?_, ?_⟩
              · skip
                intro h -- decide (a < 0) = true
                (replace h := of_decide_eq_true h; try simp only [w0, w1, w2] at h)
                refine ⟨?_, ?_⟩
                · skip
                  intro h -- decide ((a.tmod b, true).fst > 0) = true
                  (replace h := of_decide_eq_true h; try simp only [w0, w1, w2] at h)
                  exact (by exfalso; omega)
                · skip
                  intro h -- decide ((a.tmod b, true).fst > 0) = false
                  (replace h := of_decide_eq_false h; try simp only [w0, w1, w2] at h)
                  refine ⟨?_, ?_⟩
                  · skip
                    intro h -- decide ((a.tmod b, true).fst < a) = true
                    (replace h := of_decide_eq_true h; try simp only [w0, w1, w2] at h)
                    exact (by exfalso; omega)
                  · skip
                    intro h -- decide ((a.tmod b, true).fst < a) = false
                    (replace h := of_decide_eq_false h; try simp only [w0, w1, w2] at h)
                    refine ⟨?_, ?_⟩
                    · skip
                      intro h -- decide (b > 0) = true
                      (replace h := of_decide_eq_true h; try simp only [w0, w1, w2] at h)
                      refine ⟨?_, ?_⟩
                      · skip
                        intro h -- decide ((a.tmod b, true).fst ≥ b) = true
                        (replace h := of_decide_eq_true h; try simp only [w0, w1, w2] at h)
                        exact (by exfalso; omega)
                      · skip
                        intro h -- decide ((a.tmod b, true).fst ≥ b) = false
                        (replace h := of_decide_eq_false h; try simp only [w0, w1, w2] at h)
                        refine ⟨?_, ?_⟩
                        · skip
                          intro h -- decide ((a.tmod b, true).fst ≤ IntKind.i64.wrap (0 - b)) = true
                          (replace h := of_decide_eq_true h; try simp only [w0, w1, w2] at h)
                          exact (by exfalso; omega)
                        · skip
                          intro h -- decide ((a.tmod b, true).fst ≤ IntKind.i64.wrap (0 - b)) = false
                          (replace h := of_decide_eq_false h; try simp only [w0, w1, w2] at h)
                          refine ⟨?_, ?_⟩
                          · skip
                            intro h -- decide (b < 0) = true
                            (replace h := of_decide_eq_true h; try simp only [w0, w1, w2] at h)
                            exact (by exfalso; omega)
                          · skip
                            intro h -- decide (b < 0) = false
                            (replace h := of_decide_eq_false h; try simp only [w0, w1, w2] at h)
                            refine ⟨?_, ?_⟩
                            · skip
                              intro h -- (IntKind.i64.wrap (IntKind.i64.wrap ((a.tdiv b, true).fst * b) + (a.tmod b, true).fst) == a) = true
                              (replace h := of_decide_eq_true h; try simp only [w0, w1, w2] at h)
                              refine ⟨(), trivial, rfl, trivial, ?_⟩
                              exact ⟨.refl _, rfl⟩
                            · skip
                              intro h -- (IntKind.i64.wrap (IntKind.i64.wrap ((a.tdiv b, true).fst * b) + (a.tmod b, true).fst) == a) = false
                              (replace h := of_decide_eq_false h; try simp only [w0, w1, w2] at h)
                              exact (by exfalso; exact absurd h (by decide))
                    · skip
                      intro h -- decide (b > 0) = false
                      (replace h := of_decide_eq_false h; try simp only [w0, w1, w2] at h)
                      refine ⟨?_, ?_⟩
                      · skip
                        intro h -- decide (b < 0) = true
                        (replace h := of_decide_eq_true h; try simp only [w0, w1, w2] at h)
                        refine ⟨?_, ?_⟩
                        · skip
                          intro h -- decide ((a.tmod b, true).fst ≥ IntKind.i64.wrap (0 - b)) = true
                          (replace h := of_decide_eq_true h; try simp only [w0, w1, w2] at h)
                          exact (by exfalso; omega)
                        · skip
                          intro h -- decide ((a.tmod b, true).fst ≥ IntKind.i64.wrap (0 - b)) = false
                          (replace h := of_decide_eq_false h; try simp only [w0, w1, w2] at h)
                          refine ⟨?_, ?_⟩
                          · skip
                            intro h -- decide ((a.tmod b, true).fst ≤ b) = true
                            (replace h := of_decide_eq_true h; try simp only [w0, w1, w2] at h)
                            exact (by exfalso; omega)
                          · skip
                            intro h -- decide ((a.tmod b, true).fst ≤ b) = false
                            (replace h := of_decide_eq_false h; try simp only [w0, w1, w2] at h)
                            refine ⟨?_, ?_⟩
                            · skip
                              intro h -- (IntKind.i64.wrap (IntKind.i64.wrap ((a.tdiv b, true).fst * b) + (a.tmod b, true).fst) == a) = true
                              (replace h := of_decide_eq_true h; try simp only [w0, w1, w2] at h)
                              refine ⟨(), trivial, rfl, trivial, ?_⟩
                              exact ⟨.refl _, rfl⟩
                            · skip
                              intro h -- (IntKind.i64.wrap (IntKind.i64.wrap ((a.tdiv b, true).fst * b) + (a.tmod b, true).fst) == a) = false
                              (replace h := of_decide_eq_false h; try simp only [w0, w1, w2] at h)
                              exact (by exfalso; exact absurd h (by decide))
                      · skip
                        intro h -- decide (b < 0) = false
                        (replace h := of_decide_eq_false h; try simp only [w0, w1, w2] at h)
                        exact (by exfalso; omega)
              · skip
                intro h -- decide (a < 0) = false
                (replace h := of_decide_eq_false h; try simp only [w0, w1, w2] at h)
                exact (by exfalso; omega)
      · refine ⟨_, ⟨.refl _, trivial⟩, rfl, (by assumption), ?_⟩
        refine ⟨_, ⟨.refl _, trivial⟩, rfl, (by assumption), ?_⟩
        refine ⟨_, ⟨.refl _, trivial⟩, rfl, (by assumption), ?_⟩
        refine ⟨_, ⟨.refl _, trivial⟩, rfl, (by assumption), ?_⟩
        refine ⟨(), ⟨.refl _, .refl _, trivial⟩, rfl, trivial, ?_⟩
        refine ⟨(), ⟨.refl _, .refl _, trivial⟩, rfl, trivial, ?_⟩
        refine ⟨?_, ?_⟩
        · skip
          intro h -- ((a, true).fst != a) = true
          (replace h := bne_iff_ne.1 h; try simp only [w0, w1, w2] at h)
          exact (by exfalso; omega)
        · skip
          intro h -- ((a, true).fst != a) = false
          (replace h := bne_eq_false_iff_eq.1 h; try simp only [w0, w1, w2] at h)
          refine ⟨(), ⟨.refl _, .refl _, trivial⟩, rfl, trivial, ?_⟩
          refine ⟨(), ⟨.refl _, .refl _, trivial⟩, rfl, trivial, ?_⟩
          refine ⟨?_, ?_⟩
          · skip
            intro h -- (b == 0) = true
            (replace h := of_decide_eq_true h; try simp only [w0, w1, w2] at h)
            exact (by exfalso; omega)
          · skip
            intro h -- (b == 0) = false
            (replace h := of_decide_eq_false h; try simp only [w0, w1, w2] at h)
            refine ⟨?_, ?_⟩
            · skip
              intro h -- decide (a ≥ 0) = true
              (replace h := of_decide_eq_true h; try simp only [w0, w1, w2] at h)
              exact (by exfalso; omega)
            · skip
              intro h -- decide (a ≥ 0) = false
              (replace h := of_decide_eq_false h; try simp only [w0, w1, w2] at h)
              refine ⟨?_, ?_⟩
              · skip
                intro h -- decide (a < 0) = true
                (replace h := of_decide_eq_true h; try simp only [w0, w1, w2] at h)
                refine ⟨?_, ?_⟩
                · skip
                  intro h -- decide ((a.tmod b, true).fst > 0) = true
                  (replace h := of_decide_eq_true h; try simp only [w0, w1, w2] at h)
                  exact (by exfalso; omega)
                · skip
                  intro h -- decide ((a.tmod b, true).fst > 0) = false
                  (replace h := of_decide_eq_false h; try simp only [w0, w1, w2] at h)
                  refine ⟨?_, ?_⟩
                  · skip
                    intro h -- decide ((a.tmod b, true).fst < a) = true
                    (replace h := of_decide_eq_true h; try simp only [w0, w1, w2] at h)
                    exact (by exfalso; omega)
                  · skip
                    intro h -- decide ((a.tmod b, true).fst < a) = false
                    (replace h := of_decide_eq_false h; try simp only [w0, w1, w2] at h)
                    refine ⟨?_, ?_⟩
                    · skip
                      intro h -- decide (b > 0) = true
                      (replace h := of_decide_eq_true h; try simp only [w0, w1, w2] at h)
                      exact (by exfalso; omega)
                    · skip
                      intro h -- decide (b > 0) = false
                      (replace h := of_decide_eq_false h; try simp only [w0, w1, w2] at h)
                      refine ⟨?_, ?_⟩
                      · skip
                        intro h -- decide (b < 0) = true
                        (replace h := of_decide_eq_true h; try simp only [w0, w1, w2] at h)
                        refine ⟨?_, ?_⟩
                        · skip
                          intro h -- decide ((a.tmod b, true).fst ≥ IntKind.i64.wrap (0 - b)) = true
                          (replace h := of_decide_eq_true h; try simp only [w0, w1, w2] at h)
                          exact (by exfalso; omega)
                        · skip
                          intro h -- decide ((a.tmod b, true).fst ≥ IntKind.i64.wrap (0 - b)) = false
                          (replace h := of_decide_eq_false h; try simp only [w0, w1, w2] at h)
                          refine ⟨?_, ?_⟩
                          · skip
                            intro h -- decide ((a.tmod b, true).fst ≤ b) = true
                            (replace h := of_decide_eq_true h; try simp only [w0, w1, w2] at h)
                            exact (by exfalso; omega)
                          · skip
                            intro h -- decide ((a.tmod b, true).fst ≤ b) = false
                            (replace h := of_decide_eq_false h; try simp only [w0, w1, w2] at h)
                            refine ⟨?_, ?_⟩
                            · skip
                              intro h -- (a == -2147483648) = true
                              (replace h := of_decide_eq_true h; try simp only [w0, w1, w2] at h)
                              refine ⟨?_, ?_⟩
                              · skip
                                intro h -- (b == -1) = true
                                (replace h := of_decide_eq_true h; try simp only [w0, w1, w2] at h)
                                refine ⟨(), trivial, rfl, trivial, ?_⟩
                                exact ⟨.refl _, rfl⟩
                              · skip
                                intro h -- (b == -1) = false
                                (replace h := of_decide_eq_false h; try simp only [w0, w1, w2] at h)
                                exact (by exfalso; omega)
                            · skip
                              intro h -- (a == -2147483648) = false
                              (replace h := of_decide_eq_false h; try simp only [w0, w1, w2] at h)
                              exact (by exfalso; omega)
                      · skip
                        intro h -- decide (b < 0) = false
                        (replace h := of_decide_eq_false h; try simp only [w0, w1, w2] at h)
                        exact (by exfalso; omega)
              · skip
                intro h -- decide (a < 0) = false
                (replace h := of_decide_eq_false h; try simp only [w0, w1, w2] at h)
                exact (by exfalso; omega)
  · refine ⟨_, main _ _ (at_add e1) ints_Sub_ok, ?_⟩
    by_cases h0 : b = 0
    · obtain ⟨rfl, rfl⟩ := h00 h0
      refine ⟨_, ⟨.refl _, trivial⟩, rfl, (by assumption), ?_⟩
      refine ⟨_, ⟨.refl _, trivial⟩, rfl, (by assumption), ?_⟩
      refine ⟨_, ⟨.refl _, trivial⟩, rfl, (by assumption), ?_⟩
      refine ⟨_, ⟨.refl _, trivial⟩, rfl, (by assumption), ?_⟩
      refine ⟨(), ⟨.refl _, .refl _, trivial⟩, rfl, trivial, ?_⟩
      refine ⟨(), ⟨.refl _, .refl _, trivial⟩, rfl, trivial, ?_⟩
      refine ⟨(), ⟨.refl _, .refl _, trivial⟩, rfl, trivial, ?_⟩
      refine ⟨?_, ?_⟩
      · skip
        intro h -- (b == 0) = true
        (replace h := of_decide_eq_true h; try simp only [w0, w1, w2] at h)
        refine ⟨?_, ?_⟩
        · skip
          intro h -- (IntKind.i64.wrap ((0, false).fst + (0, false).fst) == 0) = true
          (replace h := of_decide_eq_true h; try simp only [w0, w1, w2] at h)
          refine ⟨(), trivial, rfl, trivial, ?_⟩
          exact ⟨.refl _, rfl⟩
        · skip
          intro h -- (IntKind.i64.wrap ((0, false).fst + (0, false).fst) == 0) = false
          (replace h := of_decide_eq_false h; try simp only [w0, w1, w2] at h)
          exact (by exfalso; exact h rfl)
      · skip
        intro h -- (b == 0) = false
        (replace h := of_decide_eq_false h; try simp only [w0, w1, w2] at h)
        exact (by exfalso; omega)
    · obtain ⟨rfl, h2⟩ := h01 h0
      have hlt' := hlt h0
      rcases h2 with rfl | ⟨rfl, h3, h4⟩
      · refine ⟨_, ⟨.refl _, trivial⟩, rfl, (by assumption), ?_⟩
        refine ⟨_, ⟨.refl _, trivial⟩, rfl, (by assumption), ?_⟩
        refine ⟨_, ⟨.refl _, trivial⟩, rfl, (by assumption), ?_⟩
        refine ⟨_, ⟨.refl _, trivial⟩, rfl, (by assumption), ?_⟩
        refine ⟨(), ⟨.refl _, .refl _, trivial⟩, rfl, trivial, ?_⟩
        refine ⟨(), ⟨.refl _, .refl _, trivial⟩, rfl, trivial, ?_⟩
        refine ⟨(), ⟨.refl _, .refl _, trivial⟩, rfl, trivial, ?_⟩
        refine ⟨?_, ?_⟩
        · skip
          intro h -- (b == 0) = true
          (replace h := of_decide_eq_true h; try simp only [w0, w1, w2] at h)
          exact (by exfalso; omega)
        · skip
          intro h -- (b == 0) = false
          (replace h := of_decide_eq_false h; try simp only [w0, w1, w2] at h)
          refine ⟨?_, ?_⟩
          · skip
            intro h -- decide (a ≥ 0) = true
            (replace h := of_decide_eq_true h; try simp only [w0, w1, w2] at h)
            refine ⟨?_, ?_⟩
            · skip
              intro h -- decide ((a.tmod b, true).fst < 0) = true
              (replace h := of_decide_eq_true h; try simp only [w0, w1, w2] at h)
              exact (by exfalso; omega)
            · skip
              intro h -- decide ((a.tmod b, true).fst < 0) = false
              (replace h := of_decide_eq_false h; try simp only [w0, w1, w2] at h)
              refine ⟨?_, ?_⟩
              · skip
                intro h -- decide ((a.tmod b, true).fst > a) = true
                (replace h := of_decide_eq_true h; try simp only [w0, w1, w2] at h)
                exact (by exfalso; omega)
              · skip
                intro h -- decide ((a.tmod b, true).fst > a) = false
                (replace h := of_decide_eq_false h; try simp only [w0, w1, w2] at h)
                refine ⟨?_, ?_⟩
                · skip
                  intro h -- decide (a < 0) = true
                  (replace h := of_decide_eq_true h; try simp only [w0, w1, w2] at h)
                  exact (by exfalso; omega)
                · skip
                  intro h -- decide (a < 0) = false
                  (replace h := of_decide_eq_false h; try simp only [w0, w1, w2] at h)
                  refine ⟨?_, ?_⟩
                  · skip
                    intro h -- decide (b > 0) = true
                    (replace h := of_decide_eq_true h; try simp only [w0, w1, w2] at h)
                    refine ⟨?_, ?_⟩
                    · skip
                      intro h -- decide ((a.tmod b, true).fst ≥ b) = true
                      (replace h := of_decide_eq_true h; try simp only [w0, w1, w2] at h)
                      exact (by exfalso; omega)
                    · skip
                      intro h -- decide ((a.tmod b, true).fst ≥ b) = false
                      (replace h := of_decide_eq_false h; try simp only [w0, w1, w2] at h)
                      refine ⟨?_, ?_⟩
                      · skip
                        intro h -- decide ((a.tmod b, true).fst ≤ IntKind.i64.wrap (0 - b)) = true
                        (replace h := of_decide_eq_true h; try simp only [w0, w1, w2] at h)
                        exact (by exfalso; omega)
                      · skip
                        intro h -- decide ((a.tmod b, true).fst ≤ IntKind.i64.wrap (0 - b)) = false
                        (replace h := of_decide_eq_false h; try simp only [w0, w1, w2] at h)
                        refine ⟨?_, ?_⟩
                        · skip
                          intro h -- decide (b < 0) = true
                          (replace h := of_decide_eq_true h; try simp only [w0, w1, w2] at h)
                          exact (by exfalso; omega)
                        · skip
                          intro h -- decide (b < 0) = false
                          (replace h := of_decide_eq_false h; try simp only [w0, w1, w2] at h)
                          refine ⟨?_, ?_⟩
                          · skip
                            intro h -- (IntKind.i64.wrap (IntKind.i64.wrap ((a.tdiv b, true).fst * b) + (a.tmod b, true).fst) == a) = true
                            (replace h := of_decide_eq_true h; try simp only [w0, w1, w2] at h)
                            refine ⟨(), trivial, rfl, trivial, ?_⟩
                            exact ⟨.refl _, rfl⟩
                          · skip
                            intro h -- (IntKind.i64.wrap (IntKind.i64.wrap ((a.tdiv b, true).fst * b) + (a.tmod b, true).fst) == a) = false
                            (replace h := of_decide_eq_false h; try simp only [w0, w1, w2] at h)
                            exact (by exfalso; exact absurd h (by decide))
                  · skip
                    intro h -- decide (b > 0) = false
                    (replace h := of_decide_eq_false h; try simp only [w0, w1, w2] at h)
                    refine ⟨?_, ?_⟩
                    · skip
                      intro h -- decide (b < 0) = true
                      (replace h := of_decide_eq_true h; try simp only [w0, w1, w2] at h)
                      refine ⟨?_, ?_⟩
                      · skip
                        intro h -- decide ((a.tmod b, true).fst ≥ IntKind.i64.wrap (0 - b)) = true
                        (replace h := of_decide_eq_true h; try simp only [w0, w1, w2] at h)
                        exact (by exfalso; omega)
                      · skip
                        intro h -- decide ((a.tmod b, true).fst ≥ IntKind.i64.wrap (0 - b)) = false
                        (replace h := of_decide_eq_false h; try simp only [w0, w1, w2] at h)
                        refine ⟨?_, ?_⟩
                        · skip
                          intro h -- decide ((a.tmod b, true).fst ≤ b) = true
                          (replace h := of_decide_eq_true h; try simp only [w0, w1, w2] at h)
                          exact (by exfalso; omega)
                        · skip
                          intro h -- decide ((a.tmod b, true).fst ≤ b) = false
                          (replace h := of_decide_eq_false h; try simp only [w0, w1, w2] at h)
                          refine ⟨?_, ?_⟩
                          · skip
                            intro h -- (IntKind.i64.wrap (IntKind.i64.wrap ((a.tdiv b, true).fst * b) + (a.tmod b, true).fst) == a) = true
                            (replace h := of_decide_eq_true h; try simp only [w0, w1, w2] at h)
                            refine ⟨(), trivial, rfl, trivial, ?_⟩
                            exact ⟨.refl _, rfl⟩
                          · skip
                            intro h -- (IntKind.i64.wrap (IntKind.i64.wrap ((a.tdiv b, true).fst * b) + (a.tmod b, true).fst) == a) = false
                            (replace h := of_decide_eq_false h; try simp only [w0, w1, w2] at h)
                            exact (by exfalso; exact absurd h (by decide))
                    · skip
                      intro h -- decide (b < 0) = false
                      (replace h := of_decide_eq_false h; try simp only [w0, w1, w2] at h)
                      exact (by exfalso; omega)
          · skip
            intro h -- decide (a ≥ 0) = false
            (replace h := of_decide_eq_false h; try simp only [w0, w1, w2] at h)
            refine ⟨?_, ?_⟩
            · skip
              intro h -- decide (a < 0) = true
              (replace h := of_decide_eq_true h; try simp only [w0, w1, w2] at h)
              refine ⟨?_, ?_⟩
              · skip
                intro h -- decide ((a.tmod b, true).fst > 0) = true
                (replace h := of_decide_eq_true h; try simp only [w0, w1, w2] at h)
                exact (by exfalso; omega)
              · skip
                intro h -- decide ((a.tmod b, true).fst > 0) = false
                (replace h := of_decide_eq_false h; try simp only [w0, w1, w2] at h)
                refine ⟨?_, ?_⟩
                · skip
                  intro h -- decide ((a.tmod b, true).fst < a) = true
                  (replace h := of_decide_eq_true h; try simp only [w0, w1, w2] at h)
                  exact (by exfalso; omega)
                · skip
                  intro h -- decide ((a.tmod b, true).fst < a) = false
                  (replace h := of_decide_eq_false h; try simp only [w0, w1, w2] at h)
                  refine ⟨?_, ?_⟩
                  · skip
                    intro h -- decide (b > 0) = true
                    (replace h := of_decide_eq_true h; try simp only [w0, w1, w2] at h)
                    refine ⟨?_, ?_⟩
                    · skip
                      intro h -- decide ((a.tmod b, true).fst ≥ b) = true
                      (replace h := of_decide_eq_true h; try simp only [w0, w1, w2] at h)
                      exact (by exfalso; omega)
                    · skip
                      intro h -- decide ((a.tmod b, true).fst ≥ b) = false
                      (replace h := of_decide_eq_false h; try simp only [w0, w1, w2] at h)
                      refine ⟨?_, ?_⟩
                      · skip
                        intro h -- decide ((a.tmod b, true).fst ≤ IntKind.i64.wrap (0 - b)) = true
                        (replace h := of_decide_eq_true h; try simp only [w0, w1, w2] at h)
                        exact (by exfalso; omega)
                      · skip
                        intro h -- decide ((a.tmod b, true).fst ≤ IntKind.i64.wrap (0 - b)) = false
                        (replace h := of_decide_eq_false h; try simp only [w0, w1, w2] at h)
                        refine ⟨?_, ?_⟩
                        · skip
                          intro h -- decide (b < 0) = true
                          (replace h := of_decide_eq_true h; try simp only [w0, w1, w2] at h)
                          exact (by exfalso; omega)
                        · skip
                          intro h -- decide (b < 0) = false
                          (replace h := of_decide_eq_false h; try simp only [w0, w1, w2] at h)
                          refine ⟨?_, ?_⟩
                          · skip
                            intro h -- (IntKind.i64.wrap (IntKind.i64.wrap ((a.tdiv b, true).fst * b) + (a.tmod b, true).fst) == a) = true
                            (replace h := of_decide_eq_true h; try simp only [w0, w1, w2] at h)
                            refine ⟨(), trivial, rfl, trivial, ?_⟩
                            exact ⟨.refl _, rfl⟩
                          · skip
                            intro h -- (IntKind.i64.wrap (IntKind.i64.wrap ((a.tdiv b, true).fst * b) + (a.tmod b, true).fst) == a) = false
                            (replace h := of_decide_eq_false h; try simp only [w0, w1, w2] at h)
                            exact (by exfalso; exact absurd h (by decide))
                  · skip
                    intro h -- decide (b > 0) = false
                    (replace h := of_decide_eq_false h; try simp only [w0, w1, w2] at h)
                    refine ⟨?_, ?_⟩
                    · skip
                      intro h -- decide (b < 0) = true
                      (replace h := of_decide_eq_true h; try simp only [w0, w1, w2] at h)
                      refine ⟨?_, ?_⟩
                      · skip
                        intro h -- decide ((a.tmod b, true).fst ≥ IntKind.i64.wrap (0 - b)) = true
                        (replace h := of_decide_eq_true h; try simp only [w0, w1, w2] at h)
                        exact (by exfalso; omega)
                      · skip
                        intro h -- decide ((a.tmod b, true).fst ≥ IntKind.i64.wrap (0 - b)) = false
                        (replace h := of_decide_eq_false h; try simp only [w0, w1, w2] at h)
                        refine ⟨?_, ?_⟩
                        · skip
                          intro h -- decide ((a.tmod b, true).fst ≤ b) = true
                          (replace h := of_decide_eq_true h; try simp only [w0, w1, w2] at h)
                          exact (by exfalso; omega)
                        · skip
                          intro h -- decide ((a.tmod b, true).fst ≤ b) = false
                          (replace h := of_decide_eq_false h; try simp only [w0, w1, w2] at h)
                          refine ⟨?_, ?_⟩
                          · skip
                            intro h -- (IntKind.i64.wrap (IntKind.i64.wrap ((a.tdiv b, true).fst * b) + (a.tmod b, true).fst) == a) = true
                            (replace h := of_decide_eq_true h; try simp only [w0, w1, w2] at h)
                            refine ⟨(), trivial, rfl, trivial, ?_⟩
                            exact ⟨.refl _, rfl⟩
                          · skip
                            intro h -- (IntKind.i64.wrap (IntKind.i64.wrap ((a.tdiv b, true).fst * b) + (a.tmod b, true).fst) == a) = false
                            (replace h := of_decide_eq_false h; try simp only [w0, w1, w2] at h)
                            exact (by exfalso; exact absurd h (by decide))
                    · skip
                      intro h -- decide (b < 0) = false
                      (replace h := of_decide_eq_false h; try simp only [w0, w1, w2] at h)
                      exact (by exfalso; omega)
            · skip
              intro h -- decide (a < 0) = false
              (replace h := of_decide_eq_false h; try simp only [w0, w1, w2] at h)
              exact (by exfalso; omega)
      · refine ⟨_, ⟨.refl _, trivial⟩, rfl, (by assumption), ?_⟩
        refine ⟨_, ⟨.refl _, trivial⟩, rfl, (by assumption), ?_⟩
        refine ⟨_, ⟨.refl _, trivial⟩, rfl, (by assumption), ?_⟩
        refine ⟨_, ⟨.refl _, trivial⟩, rfl, (by assumption), ?_⟩
        refine ⟨(), ⟨.refl _, .refl _, trivial⟩, rfl, trivial, ?_⟩
        refine ⟨(), ⟨.refl _, .refl _, trivial⟩, rfl, trivial, ?_⟩
        refine ⟨(), ⟨.refl _, .refl _, trivial⟩, rfl, trivial, ?_⟩
        refine ⟨?_, ?_⟩
        · skip
          intro h -- (b == 0) = true
          (replace h := of_decide_eq_true h; try simp only [w0, w1, w2] at h)
          exact (by exfalso; omega)
        · skip
          intro h -- (b == 0) = false
          (replace h := of_decide_eq_false h; try simp only [w0, w1, w2] at h)
          refine ⟨?_, ?_⟩
          · skip
            intro h -- decide (a ≥ 0) = true
            (replace h := of_decide_eq_true h; try simp only [w0, w1, w2] at h)
            exact (by exfalso; omega)
          · skip
            intro h -- decide (a ≥ 0) = false
            (replace h := of_decide_eq_false h; try simp only [w0, w1, w2] at h)
            refine ⟨?_, ?_⟩
            · skip
              intro h -- decide (a < 0) = true
              (replace h := of_decide_eq_true h; try simp only [w0, w1, w2] at h)
              refine ⟨?_, ?_⟩
              · skip
                intro h -- decide ((a.tmod b, true).fst > 0) = true
                (replace h := of_decide_eq_true h; try simp only [w0, w1, w2] at h)
                exact (by exfalso; omega)
              · skip
                intro h -- decide ((a.tmod b, true).fst > 0) = false
                (replace h := of_decide_eq_false h; try simp only [w0, w1, w2] at h)
                refine ⟨?_, ?_⟩
                · skip
                  intro h -- decide ((a.tmod b, true).fst < a) = true
                  (replace h := of_decide_eq_true h; try simp only [w0, w1, w2] at h)
                  exact (by exfalso; omega)
                · skip
                  intro h -- decide ((a.tmod b, true).fst < a) = false
                  (replace h := of_decide_eq_false h; try simp only [w0, w1, w2] at h)
                  refine ⟨?_, ?_⟩
                  · skip
                    intro h -- decide (b > 0) = true
                    (replace h := of_decide_eq_true h; try simp only [w0, w1, w2] at h)
                    exact (by exfalso; omega)
                  · skip
                    intro h -- decide (b > 0) = false
                    (replace h := of_decide_eq_false h; try simp only [w0, w1, w2] at h)
                    refine ⟨?_, ?_⟩
                    · skip
                      intro h -- decide (b < 0) = true
                      (replace h := of_decide_eq_true h; try simp only [w0, w1, w2] at h)
                      refine ⟨?_, ?_⟩
                      · skip
                        intro h -- decide ((a.tmod b, true).fst ≥ IntKind.i64.wrap (0 - b)) = true
                        (replace h := of_decide_eq_true h; try simp only [w0, w1, w2] at h)
                        exact (by exfalso; omega)
                      · skip
                        intro h -- decide ((a.tmod b, true).fst ≥ IntKind.i64.wrap (0 - b)) = false
                        (replace h := of_decide_eq_false h; try simp only [w0, w1, w2] at h)
                        refine ⟨?_, ?_⟩
                        · skip
                          intro h -- decide ((a.tmod b, true).fst ≤ b) = true
                          (replace h := of_decide_eq_true h; try simp only [w0, w1, w2] at h)
                          exact (by exfalso; omega)
                        · skip
                          intro h -- decide ((a.tmod b, true).fst ≤ b) = false
                          (replace h := of_decide_eq_false h; try simp only [w0, w1, w2] at h)
                          refine ⟨?_, ?_⟩
                          · skip
                            intro h -- (a == -2147483648) = true
                            (replace h := of_decide_eq_true h; try simp only [w0, w1, w2] at h)
                            refine ⟨?_, ?_⟩
                            · skip
                              intro h -- (b == -1) = true
                              (replace h := of_decide_eq_true h; try simp only [w0, w1, w2] at h)
                              refine ⟨(), trivial, rfl, trivial, ?_⟩
                              exact ⟨.refl _, rfl⟩
                            · skip
                              intro h -- (b == -1) = false
                              (replace h := of_decide_eq_false h; try simp only [w0, w1, w2] at h)
                              exact (by exfalso; omega)
                          · skip
                            intro h -- (a == -2147483648) = false
                            (replace h := of_decide_eq_false h; try simp only [w0, w1, w2] at h)
                            exact (by exfalso; omega)
                    · skip
                      intro h -- decide (b < 0) = false
                      (replace h := of_decide_eq_false h; try simp only [w0, w1, w2] at h)
                      exact (by exfalso; omega)
            · skip
              intro h -- decide (a < 0) = false
              (replace h := of_decide_eq_false h; try simp only [w0, w1, w2] at h)
              exact (by exfalso; omega)
theorem IntsBack_ok : CtrSound Try.prog 3 IntsBack :=
  ctr_of_ax2 mixed _ Try.func3 (by kernel_rfl) rfl (fun _ _ => Nat.le_of_ble_eq_true rfl) fun ((a, b) : Int × Int) id _ => by
    by_cases h : F a ∧ F b
    · exact back_in a b h.1 h.2 id
    · refine ⟨env tys [] [(11, wakes8), (9, ints_Fits), (10, ref_Fit)], env_ok tys_ok trivial ⟨wakes8_ok, ints_Fits_ok, ref_Fit_ok, trivial⟩, ?_⟩
      have e1 : (decide (F a) == decide (F a)) = true := by simp
      have e2 : (decide (F b) == decide (F b)) = true := by simp
      refine ⟨_, ⟨.refl _, trivial⟩, rfl, trivial, ?_⟩
      refine ⟨?_, ?_⟩
      · skip
        intro h -- (!decide (F (a, b).fst)) = true
        refine ⟨_, ⟨.refl _, trivial⟩, rfl, trivial, ?_⟩
        refine ⟨_, ⟨.refl _, trivial⟩, rfl, trivial, ?_⟩
        refine ⟨?_, ?_⟩
        · skip
          intro h -- (decide (F (a, b).fst) == decide (F (a, b).fst)) = true
          refine ⟨_, ⟨.refl _, trivial⟩, rfl, trivial, ?_⟩
          refine ⟨_, ⟨.refl _, trivial⟩, rfl, trivial, ?_⟩
          refine ⟨?_, ?_⟩
          · skip
            intro h -- (decide (F (a, b).snd) == decide (F (a, b).snd)) = true
            refine ⟨(), trivial, rfl, trivial, ?_⟩
            exact ⟨.refl _, rfl⟩
          · skip
            intro h -- (decide (F (a, b).snd) == decide (F (a, b).snd)) = false
            exact (by exfalso; rw [e2] at h; exact absurd h (by decide))
        · skip
          intro h -- (decide (F (a, b).fst) == decide (F (a, b).fst)) = false
          exact (by exfalso; rw [e1] at h; exact absurd h (by decide))
      · skip
        intro h -- (!decide (F (a, b).fst)) = false
        refine ⟨_, ⟨.refl _, trivial⟩, rfl, trivial, ?_⟩
        refine ⟨?_, ?_⟩
        · skip
          intro h -- (!decide (F (a, b).snd)) = true
          refine ⟨_, ⟨.refl _, trivial⟩, rfl, trivial, ?_⟩
          refine ⟨_, ⟨.refl _, trivial⟩, rfl, trivial, ?_⟩
          refine ⟨?_, ?_⟩
          · skip
            intro h -- (decide (F (a, b).fst) == decide (F (a, b).fst)) = true
            refine ⟨_, ⟨.refl _, trivial⟩, rfl, trivial, ?_⟩
            refine ⟨_, ⟨.refl _, trivial⟩, rfl, trivial, ?_⟩
            refine ⟨?_, ?_⟩
            · skip
              intro h -- (decide (F (a, b).snd) == decide (F (a, b).snd)) = true
              refine ⟨(), trivial, rfl, trivial, ?_⟩
              exact ⟨.refl _, rfl⟩
            · skip
              intro h -- (decide (F (a, b).snd) == decide (F (a, b).snd)) = false
              exact (by exfalso; rw [e2] at h; exact absurd h (by decide))
          · skip
            intro h -- (decide (F (a, b).fst) == decide (F (a, b).fst)) = false
            exact (by exfalso; rw [e1] at h; exact absurd h (by decide))
        · skip
          intro h -- (!decide (F (a, b).snd)) = false
          exact (by exfalso; simp_all)
theorem at_mul {a b : Int} {p : Int × Bool} (e : mulF a b = p) : CtrSound Try.prog 16 (atU [I a, I b] (.tup [I p.1, tf p.2])) :=
  ints_Mul_ok.weaken (fun _ => (a, b)) (fun _ _ => rfl) (fun _ _ => trivial) (fun _ _ _ => by subst e; exact .tup2 (.refl _) (.tf _))
theorem at_neg {a : Int} {p : Int × Bool} (e : subF 0 a = p) : CtrSound Try.prog 17 (atU [I a] (.tup [I p.1, tf p.2])) :=
  ints_Neg_ok.weaken (fun _ => a) (fun _ _ => rfl) (fun _ _ => trivial) (fun _ _ _ => by subst e; exact .tup2 (.refl _) (.tf _))
theorem at_fit {a : Int} {b : Bool} (e : decide (F a) = b) : CtrSound Try.prog 10 (atU [I a] (tf b)) :=
  ref_Fit_ok.weaken (fun _ => a) (fun _ _ => rfl) (fun _ _ => trivial) (fun _ _ _ => by subst e; exact .tf _)
/-- the same answer wherever both orders are asked -/
def anyR (l : List (Int × Int)) (v : Int) (b : Bool) : Ctr := { A := Int × Int, enc := two, dom := fun x => x ∈ l, res := fun _ _ => .tup [I v, tf b] }
def IntsSigns : Ctr := { A := Int × Int, enc := two, dom := fun _ => True, res := fun _ _ => .tt }
set_option maxRecDepth 100000 in
set_option maxHeartbeats 4000000 in
theorem IntsSigns_ok : CtrSound Try.prog 8 IntsSigns :=
  ctr_of_ax2 mixed _ Try.func8 (by kernel_rfl) rfl (fun _ _ => Nat.le_of_ble_eq_true rfl) fun ((a, b) : Int × Int) id _ => by
    obtain ⟨m, e1⟩ : ∃ m, mulF a b = m := ⟨_, rfl⟩
    have e2 : mulF b a = m := by
      rw [← e1]; unfold mulF
      by_cases c : F a ∧ F b ∧ F (a * b)
      · rw [if_pos c, if_pos ⟨c.2.1, c.1, by rw [Int.mul_comm]; exact c.2.2⟩, Int.mul_comm]
      · rw [if_neg c, if_neg (fun d => c ⟨d.2.1, d.1, by rw [Int.mul_comm]; exact d.2.2⟩)]
    obtain ⟨s, e3⟩ : ∃ m, addF a b = m := ⟨_, rfl⟩
    have e4 : addF b a = s := by
      rw [← e3]; unfold addF
      by_cases c : F a ∧ F b ∧ F (a + b)
      · rw [if_pos c, if_pos ⟨c.2.1, c.1, by rw [Int.add_comm]; exact c.2.2⟩, Int.add_comm]
      · rw [if_neg c, if_neg (fun d => c ⟨d.2.1, d.1, by rw [Int.add_comm]; exact d.2.2⟩)]
    have hneg : ∃ p : Int × Bool, ∃ q : Bool, subF 0 a = p ∧ decide (F a) = q ∧ (q = false → p.2 = false) ∧ (q = true → (p.2 = true ↔ a ≠ -2147483648)) ∧ (p.2 = true → p.1 = IntKind.i64.wrap (0 - a)) := by
      refine ⟨_, _, rfl, rfl, ?_, ?_, ?_⟩
      · intro h
        have h := of_decide_eq_false h
        unfold subF
        rw [if_neg (fun c => h c.2.1)]
      · intro h
        have h := of_decide_eq_true h
        unfold subF F at *
        by_cases c : (-2147483648 ≤ (0 : Int) ∧ (0 : Int) ≤ 2147483647) ∧ (-2147483648 ≤ a ∧ a ≤ 2147483647) ∧ -2147483648 ≤ 0 - a ∧ 0 - a ≤ 2147483647
        · rw [if_pos c]; simp; omega
        · rw [if_neg c]; simp; omega
      · intro h
        unfold subF at h ⊢
        by_cases c : F 0 ∧ F a ∧ F (0 - a)
        · rw [if_pos c]
          unfold F at c
          rw [wrap_eq _ (by omega) (by omega)]
        · rw [if_neg c] at h; simp at h
    obtain ⟨p, q, e5, e6, h1, h2, h3⟩ := hneg
    have mulok : CtrSound Try.prog 16 (anyR [(a, b), (b, a)] m.1 m.2) := ints_Mul_ok.weaken (fun x => x) (fun _ _ => rfl) (fun _ _ => trivial) (fun (x : Int × Int) _ (hx : x ∈ [(a, b), (b, a)]) => by
      have hx : x = (a, b) ∨ x = (b, a) := by simpa using hx
      have : mulF x.1 x.2 = m := by rcases hx with rfl | rfl; exact e1; exact e2
      show Sub (R (mulF x.1 x.2).1 (mulF x.1 x.2).2) _
      rw [this]; exact .tup2 (.refl _) (.tf _))
    have addok : CtrSound Try.prog 12 (anyR [(a, b), (b, a)] s.1 s.2) := ints_Add_ok.weaken (fun x => x) (fun _ _ => rfl) (fun _ _ => trivial) (fun (x : Int × Int) _ (hx : x ∈ [(a, b), (b, a)]) => by
      have hx : x = (a, b) ∨ x = (b, a) := by simpa using hx
      have : addF x.1 x.2 = s := by rcases hx with rfl | rfl; exact e3; exact e4
      show Sub (R (addF x.1 x.2).1 (addF x.1 x.2).2) _
      rw [this]; exact .tup2 (.refl _) (.tf _))
    refine ⟨env tys [] [(11, wakes8), (16, anyR [(a, b), (b, a)] m.1 m.2), (12, anyR [(a, b), (b, a)] s.1 s.2), (17, atU [I a] (.tup [I p.1, tf p.2])), (13, atU [I 0, I a] (.tup [I p.1, tf p.2])), (10, atU [I a] (tf q))],
      env_ok tys_ok trivial ⟨wakes8_ok, mulok, addok, at_neg e5, at_sub e5, at_fit e6, trivial⟩, ?_⟩
    obtain ⟨m1, m2⟩ := m
    obtain ⟨s1, s2⟩ := s
    obtain ⟨p1, p2⟩ := p
    cases m2 <;> cases s2 <;> cases p2 <;> cases q
    · refine ⟨(_, _), ⟨.refl _, .refl _, trivial⟩, rfl, (by simp [anyR]), ?_⟩
      refine ⟨(_, _), ⟨.refl _, .refl _, trivial⟩, rfl, (by simp [anyR]), ?_⟩
      refine ⟨(_, _), ⟨.refl _, .refl _, trivial⟩, rfl, (by simp [anyR]), ?_⟩
      refine ⟨(_, _), ⟨.refl _, .refl _, trivial⟩, rfl, (by simp [anyR]), ?_⟩
      refine ⟨(), ⟨.refl _, trivial⟩, rfl, trivial, ?_⟩
      refine ⟨?_, ?_⟩
      · skip
        intro h -- ((m1, false).fst != (m1, false).fst) = true
        replace h := bne_iff_ne.1 h
        exact (by exfalso; exact h rfl)
      · skip
        intro h -- ((m1, false).fst != (m1, false).fst) = false
        replace h := bne_eq_false_iff_eq.1 h
        refine ⟨?_, ?_⟩
        · skip
          intro h -- (!false == false) = true
          replace h := bne_iff_ne.1 h
          exact (by exfalso; exact h rfl)
        · skip
          intro h -- (!false == false) = false
          replace h := bne_eq_false_iff_eq.1 h
          refine ⟨?_, ?_⟩
          · skip
            intro h -- ((s1, false).fst != (s1, false).fst) = true
            replace h := bne_iff_ne.1 h
            exact (by exfalso; exact h rfl)
          · skip
            intro h -- ((s1, false).fst != (s1, false).fst) = false
            replace h := bne_eq_false_iff_eq.1 h
            refine ⟨?_, ?_⟩
            · skip
              intro h -- (!false == false) = true
              replace h := bne_iff_ne.1 h
              exact (by exfalso; exact h rfl)
            · skip
              intro h -- (!false == false) = false
              replace h := bne_eq_false_iff_eq.1 h
              refine ⟨(), ⟨.refl _, trivial⟩, rfl, trivial, ?_⟩
              refine ⟨?_, ?_⟩
              · skip
                intro h -- (!false == false) = true
                replace h := bne_iff_ne.1 h
                exact (by exfalso; exact h rfl)
              · skip
                intro h -- (!false == false) = false
                replace h := bne_eq_false_iff_eq.1 h
                refine ⟨(), ⟨.refl _, .refl _, trivial⟩, rfl, trivial, ?_⟩
                refine ⟨?_, ?_⟩
                · skip
                  intro h -- ((p1, false).fst == (p1, false).fst) = true
                  replace h := of_decide_eq_true h
                  refine ⟨?_, ?_⟩
                  · skip
                    intro h -- (false == false) = true
                    replace h := of_decide_eq_true h
                    refine ⟨(), trivial, rfl, trivial, ?_⟩
                    exact ⟨.refl _, rfl⟩
                  · skip
                    intro h -- (false == false) = false
                    replace h := of_decide_eq_false h
                    exact (by exfalso; exact h rfl)
                · skip
                  intro h -- ((p1, false).fst == (p1, false).fst) = false
                  replace h := of_decide_eq_false h
                  exact (by exfalso; exact h rfl)
    · refine ⟨(_, _), ⟨.refl _, .refl _, trivial⟩, rfl, (by simp [anyR]), ?_⟩
      refine ⟨(_, _), ⟨.refl _, .refl _, trivial⟩, rfl, (by simp [anyR]), ?_⟩
      refine ⟨(_, _), ⟨.refl _, .refl _, trivial⟩, rfl, (by simp [anyR]), ?_⟩
      refine ⟨(_, _), ⟨.refl _, .refl _, trivial⟩, rfl, (by simp [anyR]), ?_⟩
      refine ⟨(), ⟨.refl _, trivial⟩, rfl, trivial, ?_⟩
      refine ⟨?_, ?_⟩
      · skip
        intro h -- ((m1, false).fst != (m1, false).fst) = true
        replace h := bne_iff_ne.1 h
        exact (by exfalso; exact h rfl)
      · skip
        intro h -- ((m1, false).fst != (m1, false).fst) = false
        replace h := bne_eq_false_iff_eq.1 h
        refine ⟨?_, ?_⟩
        · skip
          intro h -- (!false == false) = true
          replace h := bne_iff_ne.1 h
          exact (by exfalso; exact h rfl)
        · skip
          intro h -- (!false == false) = false
          replace h := bne_eq_false_iff_eq.1 h
          refine ⟨?_, ?_⟩
          · skip
            intro h -- ((s1, false).fst != (s1, false).fst) = true
            replace h := bne_iff_ne.1 h
            exact (by exfalso; exact h rfl)
          · skip
            intro h -- ((s1, false).fst != (s1, false).fst) = false
            replace h := bne_eq_false_iff_eq.1 h
            refine ⟨?_, ?_⟩
            · skip
              intro h -- (!false == false) = true
              replace h := bne_iff_ne.1 h
              exact (by exfalso; exact h rfl)
            · skip
              intro h -- (!false == false) = false
              replace h := bne_eq_false_iff_eq.1 h
              refine ⟨(), ⟨.refl _, trivial⟩, rfl, trivial, ?_⟩
              refine ⟨?_, ?_⟩
              · skip
                intro h -- (!false == ((a, b).fst != -2147483648)) = true
                replace h := bne_iff_ne.1 h
                exact (by exfalso; simp at h1 h2 h; exact h h2)
              · skip
                intro h -- (!false == ((a, b).fst != -2147483648)) = false
                replace h := bne_eq_false_iff_eq.1 h
                refine ⟨(), ⟨.refl _, .refl _, trivial⟩, rfl, trivial, ?_⟩
                refine ⟨?_, ?_⟩
                · skip
                  intro h -- ((p1, false).fst == (p1, false).fst) = true
                  replace h := of_decide_eq_true h
                  refine ⟨?_, ?_⟩
                  · skip
                    intro h -- (false == false) = true
                    replace h := of_decide_eq_true h
                    refine ⟨(), trivial, rfl, trivial, ?_⟩
                    exact ⟨.refl _, rfl⟩
                  · skip
                    intro h -- (false == false) = false
                    replace h := of_decide_eq_false h
                    exact (by exfalso; exact h rfl)
                · skip
                  intro h -- ((p1, false).fst == (p1, false).fst) = false
                  replace h := of_decide_eq_false h
                  exact (by exfalso; exact h rfl)
    · refine ⟨(_, _), ⟨.refl _, .refl _, trivial⟩, rfl, (by simp [anyR]), ?_⟩
      refine ⟨(_, _), ⟨.refl _, .refl _, trivial⟩, rfl, (by simp [anyR]), ?_⟩
      refine ⟨(_, _), ⟨.refl _, .refl _, trivial⟩, rfl, (by simp [anyR]), ?_⟩
      refine ⟨(_, _), ⟨.refl _, .refl _, trivial⟩, rfl, (by simp [anyR]), ?_⟩
      refine ⟨(), ⟨.refl _, trivial⟩, rfl, trivial, ?_⟩
      refine ⟨?_, ?_⟩
      · skip
        intro h -- ((m1, false).fst != (m1, false).fst) = true
        replace h := bne_iff_ne.1 h
        exact (by exfalso; exact h rfl)
      · skip
        intro h -- ((m1, false).fst != (m1, false).fst) = false
        replace h := bne_eq_false_iff_eq.1 h
        exact (by exfalso; simp at h1)
    · refine ⟨(_, _), ⟨.refl _, .refl _, trivial⟩, rfl, (by simp [anyR]), ?_⟩
      refine ⟨(_, _), ⟨.refl _, .refl _, trivial⟩, rfl, (by simp [anyR]), ?_⟩
      refine ⟨(_, _), ⟨.refl _, .refl _, trivial⟩, rfl, (by simp [anyR]), ?_⟩
      refine ⟨(_, _), ⟨.refl _, .refl _, trivial⟩, rfl, (by simp [anyR]), ?_⟩
      refine ⟨(), ⟨.refl _, trivial⟩, rfl, trivial, ?_⟩
      refine ⟨?_, ?_⟩
      · skip
        intro h -- ((m1, false).fst != (m1, false).fst) = true
        replace h := bne_iff_ne.1 h
        exact (by exfalso; exact h rfl)
      · skip
        intro h -- ((m1, false).fst != (m1, false).fst) = false
        replace h := bne_eq_false_iff_eq.1 h
        refine ⟨?_, ?_⟩
        · skip
          intro h -- (!false == false) = true
          replace h := bne_iff_ne.1 h
          exact (by exfalso; exact h rfl)
        · skip
          intro h -- (!false == false) = false
          replace h := bne_eq_false_iff_eq.1 h
          refine ⟨?_, ?_⟩
          · skip
            intro h -- ((s1, false).fst != (s1, false).fst) = true
            replace h := bne_iff_ne.1 h
            exact (by exfalso; exact h rfl)
          · skip
            intro h -- ((s1, false).fst != (s1, false).fst) = false
            replace h := bne_eq_false_iff_eq.1 h
            refine ⟨?_, ?_⟩
            · skip
              intro h -- (!false == false) = true
              replace h := bne_iff_ne.1 h
              exact (by exfalso; exact h rfl)
            · skip
              intro h -- (!false == false) = false
              replace h := bne_eq_false_iff_eq.1 h
              refine ⟨(), ⟨.refl _, trivial⟩, rfl, trivial, ?_⟩
              refine ⟨?_, ?_⟩
              · skip
                intro h -- (!true == ((a, b).fst != -2147483648)) = true
                replace h := bne_iff_ne.1 h
                exact (by exfalso; simp_all)
              · skip
                intro h -- (!true == ((a, b).fst != -2147483648)) = false
                replace h := bne_eq_false_iff_eq.1 h
                refine ⟨?_, ?_⟩
                · skip
                  intro h -- ((p1, true).fst != IntKind.i64.wrap (0 - (a, b).fst)) = true
                  replace h := bne_iff_ne.1 h
                  exact (by exfalso; exact h (h3 rfl))
                · skip
                  intro h -- ((p1, true).fst != IntKind.i64.wrap (0 - (a, b).fst)) = false
                  replace h := bne_eq_false_iff_eq.1 h
                  refine ⟨(), ⟨.refl _, .refl _, trivial⟩, rfl, trivial, ?_⟩
                  refine ⟨?_, ?_⟩
                  · skip
                    intro h -- ((p1, true).fst == (p1, true).fst) = true
                    replace h := of_decide_eq_true h
                    refine ⟨?_, ?_⟩
                    · skip
                      intro h -- (true == true) = true
                      replace h := of_decide_eq_true h
                      refine ⟨(), trivial, rfl, trivial, ?_⟩
                      exact ⟨.refl _, rfl⟩
                    · skip
                      intro h -- (true == true) = false
                      replace h := of_decide_eq_false h
                      exact (by exfalso; exact h rfl)
                  · skip
                    intro h -- ((p1, true).fst == (p1, true).fst) = false
                    replace h := of_decide_eq_false h
                    exact (by exfalso; exact h rfl)
    · refine ⟨(_, _), ⟨.refl _, .refl _, trivial⟩, rfl, (by simp [anyR]), ?_⟩
      refine ⟨(_, _), ⟨.refl _, .refl _, trivial⟩, rfl, (by simp [anyR]), ?_⟩
      refine ⟨(_, _), ⟨.refl _, .refl _, trivial⟩, rfl, (by simp [anyR]), ?_⟩
      refine ⟨(_, _), ⟨.refl _, .refl _, trivial⟩, rfl, (by simp [anyR]), ?_⟩
      refine ⟨(), ⟨.refl _, trivial⟩, rfl, trivial, ?_⟩
      refine ⟨?_, ?_⟩
      · skip
        intro h -- ((m1, false).fst != (m1, false).fst) = true
        replace h := bne_iff_ne.1 h
        exact (by exfalso; exact h rfl)
      · skip
        intro h -- ((m1, false).fst != (m1, false).fst) = false
        replace h := bne_eq_false_iff_eq.1 h
        refine ⟨?_, ?_⟩
        · skip
          intro h -- (!false == false) = true
          replace h := bne_iff_ne.1 h
          exact (by exfalso; exact h rfl)
        · skip
          intro h -- (!false == false) = false
          replace h := bne_eq_false_iff_eq.1 h
          refine ⟨?_, ?_⟩
          · skip
            intro h -- ((s1, true).fst != (s1, true).fst) = true
            replace h := bne_iff_ne.1 h
            exact (by exfalso; exact h rfl)
          · skip
            intro h -- ((s1, true).fst != (s1, true).fst) = false
            replace h := bne_eq_false_iff_eq.1 h
            refine ⟨?_, ?_⟩
            · skip
              intro h -- (!true == true) = true
              replace h := bne_iff_ne.1 h
              exact (by exfalso; exact h rfl)
            · skip
              intro h -- (!true == true) = false
              replace h := bne_eq_false_iff_eq.1 h
              refine ⟨(), ⟨.refl _, trivial⟩, rfl, trivial, ?_⟩
              refine ⟨?_, ?_⟩
              · skip
                intro h -- (!false == false) = true
                replace h := bne_iff_ne.1 h
                exact (by exfalso; exact h rfl)
              · skip
                intro h -- (!false == false) = false
                replace h := bne_eq_false_iff_eq.1 h
                refine ⟨(), ⟨.refl _, .refl _, trivial⟩, rfl, trivial, ?_⟩
                refine ⟨?_, ?_⟩
                · skip
                  intro h -- ((p1, false).fst == (p1, false).fst) = true
                  replace h := of_decide_eq_true h
                  refine ⟨?_, ?_⟩
                  · skip
                    intro h -- (false == false) = true
                    replace h := of_decide_eq_true h
                    refine ⟨(), trivial, rfl, trivial, ?_⟩
                    exact ⟨.refl _, rfl⟩
                  · skip
                    intro h -- (false == false) = false
                    replace h := of_decide_eq_false h
                    exact (by exfalso; exact h rfl)
                · skip
                  intro h -- ((p1, false).fst == (p1, false).fst) = false
                  replace h := of_decide_eq_false h
                  exact (by exfalso; exact h rfl)
    · refine ⟨(_, _), ⟨.refl _, .refl _, trivial⟩, rfl, (by simp [anyR]), ?_⟩
      refine ⟨(_, _), ⟨.refl _, .refl _, trivial⟩, rfl, (by simp [anyR]), ?_⟩
      refine ⟨(_, _), ⟨.refl _, .refl _, trivial⟩, rfl, (by simp [anyR]), ?_⟩
      refine ⟨(_, _), ⟨.refl _, .refl _, trivial⟩, rfl, (by simp [anyR]), ?_⟩
      refine ⟨(), ⟨.refl _, trivial⟩, rfl, trivial, ?_⟩
      refine ⟨?_, ?_⟩
      · skip
        intro h -- ((m1, false).fst != (m1, false).fst) = true
        replace h := bne_iff_ne.1 h
        exact (by exfalso; exact h rfl)
      · skip
        intro h -- ((m1, false).fst != (m1, false).fst) = false
        replace h := bne_eq_false_iff_eq.1 h
        refine ⟨?_, ?_⟩
        · skip
          intro h -- (!false == false) = true
          replace h := bne_iff_ne.1 h
          exact (by exfalso; exact h rfl)
        · skip
          intro h -- (!false == false) = false
          replace h := bne_eq_false_iff_eq.1 h
          refine ⟨?_, ?_⟩
          · skip
            intro h -- ((s1, true).fst != (s1, true).fst) = true
            replace h := bne_iff_ne.1 h
            exact (by exfalso; exact h rfl)
          · skip
            intro h -- ((s1, true).fst != (s1, true).fst) = false
            replace h := bne_eq_false_iff_eq.1 h
            refine ⟨?_, ?_⟩
            · skip
              intro h -- (!true == true) = true
              replace h := bne_iff_ne.1 h
              exact (by exfalso; exact h rfl)
            · skip
              intro h -- (!true == true) = false
              replace h := bne_eq_false_iff_eq.1 h
              refine ⟨(), ⟨.refl _, trivial⟩, rfl, trivial, ?_⟩
              refine ⟨?_, ?_⟩
              · skip
                intro h -- (!false == ((a, b).fst != -2147483648)) = true
                replace h := bne_iff_ne.1 h
                exact (by exfalso; simp at h1 h2 h; exact h h2)
              · skip
                intro h -- (!false == ((a, b).fst != -2147483648)) = false
                replace h := bne_eq_false_iff_eq.1 h
                refine ⟨(), ⟨.refl _, .refl _, trivial⟩, rfl, trivial, ?_⟩
                refine ⟨?_, ?_⟩
                · skip
                  intro h -- ((p1, false).fst == (p1, false).fst) = true
                  replace h := of_decide_eq_true h
                  refine ⟨?_, ?_⟩
                  · skip
                    intro h -- (false == false) = true
                    replace h := of_decide_eq_true h
                    refine ⟨(), trivial, rfl, trivial, ?_⟩
                    exact ⟨.refl _, rfl⟩
                  · skip
                    intro h -- (false == false) = false
                    replace h := of_decide_eq_false h
                    exact (by exfalso; exact h rfl)
                · skip
                  intro h -- ((p1, false).fst == (p1, false).fst) = false
                  replace h := of_decide_eq_false h
                  exact (by exfalso; exact h rfl)
    · refine ⟨(_, _), ⟨.refl _, .refl _, trivial⟩, rfl, (by simp [anyR]), ?_⟩
      refine ⟨(_, _), ⟨.refl _, .refl _, trivial⟩, rfl, (by simp [anyR]), ?_⟩
      refine ⟨(_, _), ⟨.refl _, .refl _, trivial⟩, rfl, (by simp [anyR]), ?_⟩
      refine ⟨(_, _), ⟨.refl _, .refl _, trivial⟩, rfl, (by simp [anyR]), ?_⟩
      refine ⟨(), ⟨.refl _, trivial⟩, rfl, trivial, ?_⟩
      refine ⟨?_, ?_⟩
      · skip
        intro h -- ((m1, false).fst != (m1, false).fst) = true
        replace h := bne_iff_ne.1 h
        exact (by exfalso; exact h rfl)
      · skip
        intro h -- ((m1, false).fst != (m1, false).fst) = false
        replace h := bne_eq_false_iff_eq.1 h
        exact (by exfalso; simp at h1)
    · refine ⟨(_, _), ⟨.refl _, .refl _, trivial⟩, rfl, (by simp [anyR]), ?_⟩
      refine ⟨(_, _), ⟨.refl _, .refl _, trivial⟩, rfl, (by simp [anyR]), ?_⟩
      refine ⟨(_, _), ⟨.refl _, .refl _, trivial⟩, rfl, (by simp [anyR]), ?_⟩
      refine ⟨(_, _), ⟨.refl _, .refl _, trivial⟩, rfl, (by simp [anyR]), ?_⟩
      refine ⟨(), ⟨.refl _, trivial⟩, rfl, trivial, ?_⟩
      refine ⟨?_, ?_⟩
      · skip
        intro h -- ((m1, false).fst != (m1, false).fst) = true
        replace h := bne_iff_ne.1 h
        exact (by exfalso; exact h rfl)
      · skip
        intro h -- ((m1, false).fst != (m1, false).fst) = false
        replace h := bne_eq_false_iff_eq.1 h
        refine ⟨?_, ?_⟩
        · skip
          intro h -- (!false == false) = true
          replace h := bne_iff_ne.1 h
          exact (by exfalso; exact h rfl)
        · skip
          intro h -- (!false == false) = false
          replace h := bne_eq_false_iff_eq.1 h
          refine ⟨?_, ?_⟩
          · skip
            intro h -- ((s1, true).fst != (s1, true).fst) = true
            replace h := bne_iff_ne.1 h
            exact (by exfalso; exact h rfl)
          · skip
            intro h -- ((s1, true).fst != (s1, true).fst) = false
            replace h := bne_eq_false_iff_eq.1 h
            refine ⟨?_, ?_⟩
            · skip
              intro h -- (!true == true) = true
              replace h := bne_iff_ne.1 h
              exact (by exfalso; exact h rfl)
            · skip
              intro h -- (!true == true) = false
              replace h := bne_eq_false_iff_eq.1 h
              refine ⟨(), ⟨.refl _, trivial⟩, rfl, trivial, ?_⟩
              refine ⟨?_, ?_⟩
              · skip
                intro h -- (!true == ((a, b).fst != -2147483648)) = true
                replace h := bne_iff_ne.1 h
                exact (by exfalso; simp_all)
              · skip
                intro h -- (!true == ((a, b).fst != -2147483648)) = false
                replace h := bne_eq_false_iff_eq.1 h
                refine ⟨?_, ?_⟩
                · skip
                  intro h -- ((p1, true).fst != IntKind.i64.wrap (0 - (a, b).fst)) = true
                  replace h := bne_iff_ne.1 h
                  exact (by exfalso; exact h (h3 rfl))
                · skip
                  intro h -- ((p1, true).fst != IntKind.i64.wrap (0 - (a, b).fst)) = false
                  replace h := bne_eq_false_iff_eq.1 h
                  refine ⟨(), ⟨.refl _, .refl _, trivial⟩, rfl, trivial, ?_⟩
                  refine ⟨?_, ?_⟩
                  · skip
                    intro h -- ((p1, true).fst == (p1, true).fst) = true
                    replace h := of_decide_eq_true h
                    refine ⟨?_, ?_⟩
                    · skip
                      intro h -- (true == true) = true
                      replace h := of_decide_eq_true h
                      refine ⟨(), trivial, rfl, trivial, ?_⟩
                      exact ⟨.refl _, rfl⟩
                    · skip
                      intro h -- (true == true) = false
                      replace h := of_decide_eq_false h
                      exact (by exfalso; exact h rfl)
                  · skip
                    intro h -- ((p1, true).fst == (p1, true).fst) = false
                    replace h := of_decide_eq_false h
                    exact (by exfalso; exact h rfl)
    · refine ⟨(_, _), ⟨.refl _, .refl _, trivial⟩, rfl, (by simp [anyR]), ?_⟩
      refine ⟨(_, _), ⟨.refl _, .refl _, trivial⟩, rfl, (by simp [anyR]), ?_⟩
      refine ⟨(_, _), ⟨.refl _, .refl _, trivial⟩, rfl, (by simp [anyR]), ?_⟩
      refine ⟨(_, _), ⟨.refl _, .refl _, trivial⟩, rfl, (by simp [anyR]), ?_⟩
      refine ⟨(), ⟨.refl _, trivial⟩, rfl, trivial, ?_⟩
      refine ⟨?_, ?_⟩
      · skip
        intro h -- ((m1, true).fst != (m1, true).fst) = true
        replace h := bne_iff_ne.1 h
        exact (by exfalso; exact h rfl)
      · skip
        intro h -- ((m1, true).fst != (m1, true).fst) = false
        replace h := bne_eq_false_iff_eq.1 h
        refine ⟨?_, ?_⟩
        · skip
          intro h -- (!true == true) = true
          replace h := bne_iff_ne.1 h
          exact (by exfalso; exact h rfl)
        · skip
          intro h -- (!true == true) = false
          replace h := bne_eq_false_iff_eq.1 h
          refine ⟨?_, ?_⟩
          · skip
            intro h -- ((s1, false).fst != (s1, false).fst) = true
            replace h := bne_iff_ne.1 h
            exact (by exfalso; exact h rfl)
          · skip
            intro h -- ((s1, false).fst != (s1, false).fst) = false
            replace h := bne_eq_false_iff_eq.1 h
            refine ⟨?_, ?_⟩
            · skip
              intro h -- (!false == false) = true
              replace h := bne_iff_ne.1 h
              exact (by exfalso; exact h rfl)
            · skip
              intro h -- (!false == false) = false
              replace h := bne_eq_false_iff_eq.1 h
              refine ⟨(), ⟨.refl _, trivial⟩, rfl, trivial, ?_⟩
              refine ⟨?_, ?_⟩
              · skip
                intro h -- (!false == false) = true
                replace h := bne_iff_ne.1 h
                exact (by exfalso; exact h rfl)
              · skip
                intro h -- (!false == false) = false
                replace h := bne_eq_false_iff_eq.1 h
                refine ⟨(), ⟨.refl _, .refl _, trivial⟩, rfl, trivial, ?_⟩
                refine ⟨?_, ?_⟩
                · skip
                  intro h -- ((p1, false).fst == (p1, false).fst) = true
                  replace h := of_decide_eq_true h
                  refine ⟨?_, ?_⟩
                  · skip
                    intro h -- (false == false) = true
                    replace h := of_decide_eq_true h
                    refine ⟨(), trivial, rfl, trivial, ?_⟩
                    exact ⟨.refl _, rfl⟩
                  · skip
                    intro h -- (false == false) = false
                    replace h := of_decide_eq_false h
                    exact (by exfalso; exact h rfl)
                · skip
                  intro h -- ((p1, false).fst == (p1, false).fst) = false
                  replace h := of_decide_eq_false h
                  exact (by exfalso; exact h rfl)
    · refine ⟨(_, _), ⟨.refl _, .refl _, trivial⟩, rfl, (by simp [anyR]), ?_⟩
      refine ⟨(_, _), ⟨.refl _, .refl _, trivial⟩, rfl, (by simp [anyR]), ?_⟩
      refine ⟨(_, _), ⟨.refl _, .refl _, trivial⟩, rfl, (by simp [anyR]), ?_⟩
      refine ⟨(_, _), ⟨.refl _, .refl _, trivial⟩, rfl, (by simp [anyR]), ?_⟩
      refine ⟨(), ⟨.refl _, trivial⟩, rfl, trivial, ?_⟩
      refine ⟨?_, ?_⟩
      · skip
        intro h -- ((m1, true).fst != (m1, true).fst) = true
        replace h := bne_iff_ne.1 h
        exact (by exfalso; exact h rfl)
      · skip
        intro h -- ((m1, true).fst != (m1, true).fst) = false
        replace h := bne_eq_false_iff_eq.1 h
        refine ⟨?_, ?_⟩
        · skip
          intro h -- (!true == true) = true
          replace h := bne_iff_ne.1 h
          exact (by exfalso; exact h rfl)
        · skip
          intro h -- (!true == true) = false
          replace h := bne_eq_false_iff_eq.1 h
          refine ⟨?_, ?_⟩
          · skip
            intro h -- ((s1, false).fst != (s1, false).fst) = true
            replace h := bne_iff_ne.1 h
            exact (by exfalso; exact h rfl)
          · skip
            intro h -- ((s1, false).fst != (s1, false).fst) = false
            replace h := bne_eq_false_iff_eq.1 h
            refine ⟨?_, ?_⟩
            · skip
              intro h -- (!false == false) = true
              replace h := bne_iff_ne.1 h
              exact (by exfalso; exact h rfl)
            · skip
              intro h -- (!false == false) = false
              replace h := bne_eq_false_iff_eq.1 h
              refine ⟨(), ⟨.refl _, trivial⟩, rfl, trivial, ?_⟩
              refine ⟨?_, ?_⟩
              · skip
                intro h -- (!false == ((a, b).fst != -2147483648)) = true
                replace h := bne_iff_ne.1 h
                exact (by exfalso; simp at h1 h2 h; exact h h2)
              · skip
                intro h -- (!false == ((a, b).fst != -2147483648)) = false
                replace h := bne_eq_false_iff_eq.1 h
                refine ⟨(), ⟨.refl _, .refl _, trivial⟩, rfl, trivial, ?_⟩
                refine ⟨?_, ?_⟩
                · skip
                  intro h -- ((p1, false).fst == (p1, false).fst) = true
                  replace h := of_decide_eq_true h
                  refine ⟨?_, ?_⟩
                  · skip
                    intro h -- (false == false) = true
                    replace h := of_decide_eq_true h
                    refine ⟨(), trivial, rfl, trivial, ?_⟩
                    exact ⟨.refl _, rfl⟩
                  · skip
                    intro h -- (false == false) = false
                    replace h := of_decide_eq_false h
                    exact (by exfalso; exact h rfl)
                · skip
                  intro h -- ((p1, false).fst == (p1, false).fst) = false
                  replace h := of_decide_eq_false h
                  exact (by exfalso; exact h rfl)
    · refine ⟨(_, _), ⟨.refl _, .refl _, trivial⟩, rfl, (by simp [anyR]), ?_⟩
      refine ⟨(_, _), ⟨.refl _, .refl _, trivial⟩, rfl, (by simp [anyR]), ?_⟩
      refine ⟨(_, _), ⟨.refl _, .refl _, trivial⟩, rfl, (by simp [anyR]), ?_⟩
      refine ⟨(_, _), ⟨.refl _, .refl _, trivial⟩, rfl, (by simp [anyR]), ?_⟩
      refine ⟨(), ⟨.refl _, trivial⟩, rfl, trivial, ?_⟩
      refine ⟨?_, ?_⟩
      · skip
        intro h -- ((m1, true).fst != (m1, true).fst) = true
        replace h := bne_iff_ne.1 h
        exact (by exfalso; exact h rfl)
      · skip
        intro h -- ((m1, true).fst != (m1, true).fst) = false
        replace h := bne_eq_false_iff_eq.1 h
        exact (by exfalso; simp at h1)
    · refine ⟨(_, _), ⟨.refl _, .refl _, trivial⟩, rfl, (by simp [anyR]), ?_⟩
      refine ⟨(_, _), ⟨.refl _, .refl _, trivial⟩, rfl, (by simp [anyR]), ?_⟩
      refine ⟨(_, _), ⟨.refl _, .refl _, trivial⟩, rfl, (by simp [anyR]), ?_⟩
      refine ⟨(_, _), ⟨.refl _, .refl _, trivial⟩, rfl, (by simp [anyR]), ?_⟩
      refine ⟨(), ⟨.refl _, trivial⟩, rfl, trivial, ?_⟩
      refine ⟨?_, ?_⟩
      · skip
        intro h -- ((m1, true).fst != (m1, true).fst) = true
        replace h := bne_iff_ne.1 h
        exact (by exfalso; exact h rfl)
      · skip
        intro h -- ((m1, true).fst != (m1, true).fst) = false
        replace h := bne_eq_false_iff_eq.1 h
        refine ⟨?_, ?_⟩
        · skip
          intro h -- (!true == true) = true
          replace h := bne_iff_ne.1 h
          exact (by exfalso; exact h rfl)
        · skip
          intro h -- (!true == true) = false
          replace h := bne_eq_false_iff_eq.1 h
          refine ⟨?_, ?_⟩
          · skip
            intro h -- ((s1, false).fst != (s1, false).fst) = true
            replace h := bne_iff_ne.1 h
            exact (by exfalso; exact h rfl)
          · skip
            intro h -- ((s1, false).fst != (s1, false).fst) = false
            replace h := bne_eq_false_iff_eq.1 h
            refine ⟨?_, ?_⟩
            · skip
              intro h -- (!false == false) = true
              replace h := bne_iff_ne.1 h
              exact (by exfalso; exact h rfl)
            · skip
              intro h -- (!false == false) = false
              replace h := bne_eq_false_iff_eq.1 h
              refine ⟨(), ⟨.refl _, trivial⟩, rfl, trivial, ?_⟩
              refine ⟨?_, ?_⟩
              · skip
                intro h -- (!true == ((a, b).fst != -2147483648)) = true
                replace h := bne_iff_ne.1 h
                exact (by exfalso; simp_all)
              · skip
                intro h -- (!true == ((a, b).fst != -2147483648)) = false
                replace h := bne_eq_false_iff_eq.1 h
                refine ⟨?_, ?_⟩
                · skip
                  intro h -- ((p1, true).fst != IntKind.i64.wrap (0 - (a, b).fst)) = true
                  replace h := bne_iff_ne.1 h
                  exact (by exfalso; exact h (h3 rfl))
                · skip
                  intro h -- ((p1, true).fst != IntKind.i64.wrap (0 - (a, b).fst)) = false
                  replace h := bne_eq_false_iff_eq.1 h
                  refine ⟨(), ⟨.refl _, .refl _, trivial⟩, rfl, trivial, ?_⟩
                  refine ⟨?_, ?_⟩
                  · skip
                    intro h -- ((p1, true).fst == (p1, true).fst) = true
                    replace h := of_decide_eq_true h
                    refine ⟨?_, ?_⟩
                    · skip
                      intro h -- (true == true) = true
                      replace h := of_decide_eq_true h
                      refine ⟨(), trivial, rfl, trivial, ?_⟩
                      exact ⟨.refl _, rfl⟩
                    · skip
                      intro h -- (true == true) = false
                      replace h := of_decide_eq_false h
                      exact (by exfalso; exact h rfl)
                  · skip
                    intro h -- ((p1, true).fst == (p1, true).fst) = false
                    replace h := of_decide_eq_false h
                    exact (by exfalso; exact h rfl)
    · refine ⟨(_, _), ⟨.refl _, .refl _, trivial⟩, rfl, (by simp [anyR]), ?_⟩
      refine ⟨(_, _), ⟨.refl _, .refl _, trivial⟩, rfl, (by simp [anyR]), ?_⟩
      refine ⟨(_, _), ⟨.refl _, .refl _, trivial⟩, rfl, (by simp [anyR]), ?_⟩
      refine ⟨(_, _), ⟨.refl _, .refl _, trivial⟩, rfl, (by simp [anyR]), ?_⟩
      refine ⟨(), ⟨.refl _, trivial⟩, rfl, trivial, ?_⟩
      refine ⟨?_, ?_⟩
      · skip
        intro h -- ((m1, true).fst != (m1, true).fst) = true
        replace h := bne_iff_ne.1 h
        exact (by exfalso; exact h rfl)
      · skip
        intro h -- ((m1, true).fst != (m1, true).fst) = false
        replace h := bne_eq_false_iff_eq.1 h
        refine ⟨?_, ?_⟩
        · skip
          intro h -- (!true == true) = true
          replace h := bne_iff_ne.1 h
          exact (by exfalso; exact h rfl)
        · skip
          intro h -- (!true == true) = false
          replace h := bne_eq_false_iff_eq.1 h
          refine ⟨?_, ?_⟩
          · skip
            intro h -- ((s1, true).fst != (s1, true).fst) = true
            replace h := bne_iff_ne.1 h
            exact (by exfalso; exact h rfl)
          · skip
            intro h -- ((s1, true).fst != (s1, true).fst) = false
            replace h := bne_eq_false_iff_eq.1 h
            refine ⟨?_, ?_⟩
            · skip
              intro h -- (!true == true) = true
              replace h := bne_iff_ne.1 h
              exact (by exfalso; exact h rfl)
            · skip
              intro h -- (!true == true) = false
              replace h := bne_eq_false_iff_eq.1 h
              refine ⟨(), ⟨.refl _, trivial⟩, rfl, trivial, ?_⟩
              refine ⟨?_, ?_⟩
              · skip
                intro h -- (!false == false) = true
                replace h := bne_iff_ne.1 h
                exact (by exfalso; exact h rfl)
              · skip
                intro h -- (!false == false) = false
                replace h := bne_eq_false_iff_eq.1 h
                refine ⟨(), ⟨.refl _, .refl _, trivial⟩, rfl, trivial, ?_⟩
                refine ⟨?_, ?_⟩
                · skip
                  intro h -- ((p1, false).fst == (p1, false).fst) = true
                  replace h := of_decide_eq_true h
                  refine ⟨?_, ?_⟩
                  · skip
                    intro h -- (false == false) = true
                    replace h := of_decide_eq_true h
                    refine ⟨(), trivial, rfl, trivial, ?_⟩
                    exact ⟨.refl _, rfl⟩
                  · skip
                    intro h -- (false == false) = false
                    replace h := of_decide_eq_false h
                    exact (by exfalso; exact h rfl)
                · skip
                  intro h -- ((p1, false).fst == (p1, false).fst) = false
                  replace h := of_decide_eq_false h
                  exact (by exfalso; exact h rfl)
    · refine ⟨(_, _), ⟨.refl _, .refl _, trivial⟩, rfl, (by simp [anyR]), ?_⟩
      refine ⟨(_, _), ⟨.refl _, .refl _, trivial⟩, rfl, (by simp [anyR]), ?_⟩
      refine ⟨(_, _), ⟨.refl _, .refl _, trivial⟩, rfl, (by simp [anyR]), ?_⟩
      refine ⟨(_, _), ⟨.refl _, .refl _, trivial⟩, rfl, (by simp [anyR]), ?_⟩
      refine ⟨(), ⟨.refl _, trivial⟩, rfl, trivial, ?_⟩
      refine ⟨?_, ?_⟩
      · skip
        intro h -- ((m1, true).fst != (m1, true).fst) = true
        replace h := bne_iff_ne.1 h
        exact (by exfalso; exact h rfl)
      · skip
        intro h -- ((m1, true).fst != (m1, true).fst) = false
        replace h := bne_eq_false_iff_eq.1 h
        refine ⟨?_, ?_⟩
        · skip
          intro h -- (!true == true) = true
          replace h := bne_iff_ne.1 h
          exact (by exfalso; exact h rfl)
        · skip
          intro h -- (!true == true) = false
          replace h := bne_eq_false_iff_eq.1 h
          refine ⟨?_, ?_⟩
          · skip
            intro h -- ((s1, true).fst != (s1, true).fst) = true
            replace h := bne_iff_ne.1 h
            exact (by exfalso; exact h rfl)
          · skip
            intro h -- ((s1, true).fst != (s1, true).fst) = false
            replace h := bne_eq_false_iff_eq.1 h
            refine ⟨?_, ?_⟩
            · skip
              intro h -- (!true == true) = true
              replace h := bne_iff_ne.1 h
              exact (by exfalso; exact h rfl)
            · skip
              intro h -- (!true == true) = false
              replace h := bne_eq_false_iff_eq.1 h
              refine ⟨(), ⟨.refl _, trivial⟩, rfl, trivial, ?_⟩
              refine ⟨?_, ?_⟩
              · skip
                intro h -- (!false == ((a, b).fst != -2147483648)) = true
                replace h := bne_iff_ne.1 h
                exact (by exfalso; simp at h1 h2 h; exact h h2)
              · skip
                intro h -- (!false == ((a, b).fst != -2147483648)) = false
                replace h := bne_eq_false_iff_eq.1 h
                refine ⟨(), ⟨.refl _, .refl _, trivial⟩, rfl, trivial, ?_⟩
                refine ⟨?_, ?_⟩
                · skip
                  intro h -- ((p1, false).fst == (p1, false).fst) = true
                  replace h := of_decide_eq_true h
                  refine ⟨?_, ?_⟩
                  · skip
                    intro h -- (false == false) = true
                    replace h := of_decide_eq_true h
                    refine ⟨(), trivial, rfl, trivial, ?_⟩
                    exact ⟨.refl _, rfl⟩
                  · skip
                    intro h -- (false == false) = false
                    replace h := of_decide_eq_false h
                    exact (by exfalso; exact h rfl)
                · skip
                  intro h -- ((p1, false).fst == (p1, false).fst) = false
                  replace h := of_decide_eq_false h
                  exact (by exfalso; exact h rfl)
    · refine ⟨(_, _), ⟨.refl _, .refl _, trivial⟩, rfl, (by simp [anyR]), ?_⟩
      refine ⟨(_, _), ⟨.refl _, .refl _, trivial⟩, rfl, (by simp [anyR]), ?_⟩
      refine ⟨(_, _), ⟨.refl _, .refl _, trivial⟩, rfl, (by simp [anyR]), ?_⟩
      refine ⟨(_, _), ⟨.refl _, .refl _, trivial⟩, rfl, (by simp [anyR]), ?_⟩
      refine ⟨(), ⟨.refl _, trivial⟩, rfl, trivial, ?_⟩
      refine ⟨?_, ?_⟩
      · skip
        intro h -- ((m1, true).fst != (m1, true).fst) = true
        replace h := bne_iff_ne.1 h
        exact (by exfalso; exact h rfl)
      · skip
        intro h -- ((m1, true).fst != (m1, true).fst) = false
        replace h := bne_eq_false_iff_eq.1 h
        exact (by exfalso; simp at h1)
    · refine ⟨(_, _), ⟨.refl _, .refl _, trivial⟩, rfl, (by simp [anyR]), ?_⟩
      refine ⟨(_, _), ⟨.refl _, .refl _, trivial⟩, rfl, (by simp [anyR]), ?_⟩
      refine ⟨(_, _), ⟨.refl _, .refl _, trivial⟩, rfl, (by simp [anyR]), ?_⟩
      refine ⟨(_, _), ⟨.refl _, .refl _, trivial⟩, rfl, (by simp [anyR]), ?_⟩
      refine ⟨(), ⟨.refl _, trivial⟩, rfl, trivial, ?_⟩
      refine ⟨?_, ?_⟩
      · skip
        intro h -- ((m1, true).fst != (m1, true).fst) = true
        replace h := bne_iff_ne.1 h
        exact (by exfalso; exact h rfl)
      · skip
        intro h -- ((m1, true).fst != (m1, true).fst) = false
        replace h := bne_eq_false_iff_eq.1 h
        refine ⟨?_, ?_⟩
        · skip
          intro h -- (!true == true) = true
          replace h := bne_iff_ne.1 h
          exact (by exfalso; exact h rfl)
        · skip
          intro h -- (!true == true) = false
          replace h := bne_eq_false_iff_eq.1 h
          refine ⟨?_, ?_⟩
          · skip
            intro h -- ((s1, true).fst != (s1, true).fst) = true
            replace h := bne_iff_ne.1 h
            exact (by exfalso; exact h rfl)
          · skip
            intro h -- ((s1, true).fst != (s1, true).fst) = false
            replace h := bne_eq_false_iff_eq.1 h
            refine ⟨?_, ?_⟩
            · skip
              intro h -- (!true == true) = true
              replace h := bne_iff_ne.1 h
              exact (by exfalso; exact h rfl)
            · skip
              intro h -- (!true == true) = false
              replace h := bne_eq_false_iff_eq.1 h
              refine ⟨(), ⟨.refl _, trivial⟩, rfl, trivial, ?_⟩
              refine ⟨?_, ?_⟩
              · skip
                intro h -- (!true == ((a, b).fst != -2147483648)) = true
                replace h := bne_iff_ne.1 h
                exact (by exfalso; simp_all)
              · skip
                intro h -- (!true == ((a, b).fst != -2147483648)) = false
                replace h := bne_eq_false_iff_eq.1 h
                refine ⟨?_, ?_⟩
                · skip
                  intro h -- ((p1, true).fst != IntKind.i64.wrap (0 - (a, b).fst)) = true
                  replace h := bne_iff_ne.1 h
                  exact (by exfalso; exact h (h3 rfl))
                · skip
                  intro h -- ((p1, true).fst != IntKind.i64.wrap (0 - (a, b).fst)) = false
                  replace h := bne_eq_false_iff_eq.1 h
                  refine ⟨(), ⟨.refl _, .refl _, trivial⟩, rfl, trivial, ?_⟩
                  refine ⟨?_, ?_⟩
                  · skip
                    intro h -- ((p1, true).fst == (p1, true).fst) = true
                    replace h := of_decide_eq_true h
                    refine ⟨?_, ?_⟩
                    · skip
                      intro h -- (true == true) = true
                      replace h := of_decide_eq_true h
                      refine ⟨(), trivial, rfl, trivial, ?_⟩
                      exact ⟨.refl _, rfl⟩
                    · skip
                      intro h -- (true == true) = false
                      replace h := of_decide_eq_false h
                      exact (by exfalso; exact h rfl)
                  · skip
                    intro h -- ((p1, true).fst == (p1, true).fst) = false
                    replace h := of_decide_eq_false h
                    exact (by exfalso; exact h rfl)
end Go.Proofs.Ytblekbpchhhkkaa.Ax
