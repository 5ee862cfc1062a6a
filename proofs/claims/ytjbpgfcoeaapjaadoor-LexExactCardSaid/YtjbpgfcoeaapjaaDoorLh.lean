/- Layer lex by the logic: what the statements look at. -/
import Derived.Test.YtjbpgfcoeaapjaaDoorLg
set_option linter.unusedVariables false
set_option linter.unusedSimpArgs false
namespace Go.Proofs.YtjbpgfcoeaapjaaDoor.Ax
open Go Go.RowKit
theorem dlt {a b : Nat} (h : decide ((a : Int) < (b : Int)) = true) : a < b := by have := of_decide_eq_true h; omega
theorem dge {a b : Nat} (h : decide ((a : Int) < (b : Int)) = false) : b ≤ a := by have := of_decide_eq_false h; omega
theorem lneT {a b : Nat} (h : ((a : Int) != (b : Int)) = true) : a ≠ b := by simp at h; omega
theorem lneF {a b : Nat} (h : ((a : Int) != (b : Int)) = false) : a = b := by simp at h; omega
theorem ext_getD {α : Type} (d : α) : ∀ {k l : List α}, k.length = l.length → (∀ j, j < k.length → k.getD j d = l.getD j d) → k = l
  | [], [], _, _ => rfl
  | [], _ :: _, h, _ => by simp at h
  | _ :: _, [], h, _ => by simp at h
  | x :: k, y :: l, h, hj => by
    have h0 : x = y := by simpa using hj 0 (by simp)
    rw [h0, ext_getD d (k := k) (l := l) (by simpa using h) (fun j hlt => by simpa using hj (j + 1) (by simpa using hlt))]
def keepR (T : Type) [DecidableEq T] (sz : Nat) (cs : T → List SV) (d : T) : Ctr := { A := List T × List T, enc := fun x => [.row T sz cs d x.1, .row T sz cs d x.2], dom := fun x => x.1.length ≤ 4611686018427387904, res := fun x _ => B (decide (x.1 = x.2)) }
set_option maxRecDepth 100000 in
theorem kBytes_ok : CtrSound Tryd.prog 25 (keepR UInt8 1 byteC 0) :=
  ctr_of_ax (env_ok tys_ok (eqs := []) trivial (cs := []) trivial) mixed _ Tryd.func25 (by kernel_rfl) rfl (fun _ _ => Nat.le_of_ble_eq_true rfl) fun ((k, l) : List UInt8 × List UInt8) id hd => by
    have hd : k.length ≤ 4611686018427387904 := hd
    have no : ¬ (k = l) → Sub .ff (B (decide (k = l))) := fun h => .bff (decide_eq_false h)
    refine ⟨fun h2 => ?_, fun h2 => ?_⟩
    · exact ⟨no fun q => lneT h2 (by rw [q]), rfl⟩
    have hl : k.length = l.length := lneF h2
    refine ⟨Nat, fun i => [(0, .row UInt8 1 byteC 0 k), (1, .row UInt8 1 byteC 0 l), (5, I i)], fun _ => [], fun i => i ≤ k.length ∧ ∀ j, j < i → k.getD j 0 = l.getD j 0, fun i => k.length - i,
      ⟨0, ⟨Nat.zero_le _, fun j hj => by omega⟩, ⟨⟨rfl, rfl⟩, .refl _, .refl _, .refl _, trivial⟩⟩, fun (i : Nat) hi => ?_⟩
    have hil := hi.1
    have hwj : IntKind.i64.wrap ((i : Int) + 1) = ((i + 1 : Nat) : Int) := by rw [wrap_eq _ (by omega) (by omega)]; omega
    refine ⟨fun h => ?_, fun h => ?_⟩
    · have hlt : i < k.length := dlt h
      refine ⟨by kernel_rfl, ?_⟩
      refine ⟨⟨by omega, by omega⟩, ⟨by omega, by omega⟩, ?_⟩
      refine ⟨fun h => ?_, fun h => ?_⟩
      · exact ⟨no fun q => by have h : (((k.getD i 0).toNat : Int) != ((l.getD i 0).toNat : Int)) = true := h
                              rw [q] at h; simp at h, rfl⟩
      · have he : k.getD i 0 = l.getD i 0 := by
          have h : (((k.getD i 0).toNat : Int) != ((l.getD i 0).toNat : Int)) = false := h
          exact UInt8.toNat_inj.1 (lneF h)
        exact ⟨i + 1, ⟨hlt, fun j hj => by rcases Nat.lt_succ_iff_lt_or_eq.1 hj with q | rfl; exact hi.2 j q; exact he⟩, by show k.length - (i + 1) < k.length - i; omega, ⟨rfl, rfl⟩, .refl _, .refl _, .int hwj, trivial⟩
    · have hge : i = k.length := Nat.le_antisymm hil (dge h)
      exact ⟨.btt (decide_eq_true (ext_getD 0 hl fun j (hj : j < k.length) => hi.2 j (hge ▸ hj))), rfl⟩
theorem tok_eq : EqSound Tryd.prog 34 (flatC (Int × ByteArray × Int × Int) tokC) :=
  eq_flat [.int .i64, .str, .int .i64, .int .i64] _ tokC Tryd.underlying34 (by kernel_rfl) (by kernel_rfl) (by kernel_rfl) (fun _ => rfl)
theorem tok_dec (a b : Int × ByteArray × Int × Int) : cellsEq (tokC a) (tokC b) = decide (a = b) := by
  obtain ⟨a1, a2, a3, a4⟩ := a
  obtain ⟨b1, b2, b3, b4⟩ := b
  rw [Bool.eq_iff_iff]
  simp [tokC, cellsEq, cellEq, ba_eq]
set_option maxRecDepth 100000 in
theorem kTokens_ok : CtrSound Tryd.prog 24 (keepR (Int × ByteArray × Int × Int) 4 tokC tok0) :=
  ctr_of_ax (env_ok tys_ok (eqs := [(34, flatC (Int × ByteArray × Int × Int) tokC)]) ⟨tok_eq, trivial⟩ (cs := []) trivial) mixed _ Tryd.func24 (by kernel_rfl) rfl (fun _ _ => Nat.le_of_ble_eq_true rfl) fun ((k, l) : List (Int × ByteArray × Int × Int) × List (Int × ByteArray × Int × Int)) id hd => by
    have hd : k.length ≤ 4611686018427387904 := hd
    have no : ¬ (k = l) → Sub .ff (B (decide (k = l))) := fun h => .bff (decide_eq_false h)
    refine ⟨fun h2 => ?_, fun h2 => ?_⟩
    · exact ⟨no fun q => lneT h2 (by rw [q]), rfl⟩
    have hl : k.length = l.length := lneF h2
    refine ⟨Nat, fun i => [(0, .row (Int × ByteArray × Int × Int) 4 tokC tok0 k), (1, .row (Int × ByteArray × Int × Int) 4 tokC tok0 l), (5, I i)], fun _ => [], fun i => i ≤ k.length ∧ ∀ j, j < i → k.getD j tok0 = l.getD j tok0, fun i => k.length - i,
      ⟨0, ⟨Nat.zero_le _, fun j hj => by omega⟩, ⟨⟨rfl, rfl⟩, .refl _, .refl _, .refl _, trivial⟩⟩, fun (i : Nat) hi => ?_⟩
    have hil := hi.1
    have hwj : IntKind.i64.wrap ((i : Int) + 1) = ((i + 1 : Nat) : Int) := by rw [wrap_eq _ (by omega) (by omega)]; omega
    refine ⟨fun h => ?_, fun h => ?_⟩
    · have hlt : i < k.length := dlt h
      refine ⟨by kernel_rfl, ?_⟩
      refine ⟨⟨by omega, by omega⟩, ⟨by omega, by omega⟩, ?_⟩
      refine ⟨k.getD i tok0, l.getD i tok0, ⟨.refl _, .refl _, .refl _, .refl _, trivial⟩, ⟨.refl _, .refl _, .refl _, .refl _, trivial⟩, fun h => ?_, fun h => ?_⟩
      · have h : (!cellsEq (tokC (k.getD i tok0)) (tokC (l.getD i tok0))) = true := h
        rw [tok_dec] at h
        exact ⟨no fun q => by rw [q] at h; simp at h, rfl⟩
      · have h : (!cellsEq (tokC (k.getD i tok0)) (tokC (l.getD i tok0))) = false := h
        rw [tok_dec] at h
        have he : k.getD i tok0 = l.getD i tok0 := by simpa using h
        exact ⟨i + 1, ⟨hlt, fun j hj => by rcases Nat.lt_succ_iff_lt_or_eq.1 hj with q | rfl; exact hi.2 j q; exact he⟩, by show k.length - (i + 1) < k.length - i; omega, ⟨rfl, rfl⟩, .refl _, .refl _, .int hwj, trivial⟩
    · have hge : i = k.length := Nat.le_antisymm hil (dge h)
      exact ⟨.btt (decide_eq_true (ext_getD tok0 hl fun j (hj : j < k.length) => hi.2 j (hge ▸ hj))), rfl⟩
def twinC : Ctr := { A := List UInt8, enc := fun l => [.row UInt8 1 byteC 0 l], dom := fun l => l.length ≤ 140737488355328, res := fun l id => .own UInt8 1 byteC 0 l id }
theorem twin_ok : CtrSound Tryd.prog 18 twinC :=
  ctr_of_ax (env_ok tys_ok (eqs := []) trivial (cs := []) trivial) mixed _ Tryd.func18 (by kernel_rfl) rfl (fun _ _ => Nat.le_of_ble_eq_true rfl) fun (l : List UInt8) id hd => by
    have hd : l.length ≤ 140737488355328 := hd
    refine ⟨UInt8, byteC, 0, [], l, 0, ⟨.nilO .., .refl _⟩, fun _ => rfl, (by simp only [List.length_nil]; omega), ?_⟩
    exact ⟨.ownEq (by simp), rfl⟩
def wakesC : Ctr := { A := Unit, enc := fun _ => [], dom := fun _ => True, res := fun _ _ => .tt, gl := tabs }
theorem w1 : (scanF [97, 45, 49, 32, 123]).2 = (0, 0) := by decide +kernel
theorem w2 : (scanF [97, 32, 48, 49]).2 = (2, 3) := by decide +kernel
theorem w3 : (scanF [97, 45, 49, 32, 123]).1.length = 3 := by decide +kernel
theorem w4 : ((scanF [97, 45, 49, 32, 123]).1.getD 1 tok0).2.2.1 = -1 := by decide +kernel
theorem w5 : ((scanF [97, 45, 49, 32, 123]).1.getD 2 tok0).2.2.2 = 4 := by decide +kernel
theorem w6 : nameF [95, 97, 49] = true := by decide +kernel
theorem w7 : nameF [49, 97] = false := by decide +kernel
set_option maxRecDepth 100000 in
theorem wakes_ok : CtrSound Tryd.prog 14 wakesC :=
  ctr_of_ax (env_okB tys_ok (eqs := []) trivial (cs := [(15, scanC), (17, nameC)]) ⟨scan_ok, name_ok, trivial⟩ (bs := []) trivial (gl := tabs) (vec := [8, 10, 15, 17])) mixed _ Tryd.func14 (by kernel_rfl) rfl (fun _ _ => Nat.le_of_ble_eq_true rfl) fun (_ : Unit) id _ => by
    obtain ⟨b1, e1⟩ : ∃ b : List UInt8, b = [97, 45, 49, 32, 123] := ⟨_, rfl⟩
    obtain ⟨b2, e2⟩ : ∃ b : List UInt8, b = [97, 32, 48, 49] := ⟨_, rfl⟩
    obtain ⟨n1, f1⟩ : ∃ b : List UInt8, b = [95, 97, 49] := ⟨_, rfl⟩
    obtain ⟨n2, f2⟩ : ∃ b : List UInt8, b = [49, 97] := ⟨_, rfl⟩
    have w1 : (scanF b1).2 = (0, 0) := e1 ▸ w1
    have w2 : (scanF b2).2 = (2, 3) := e2 ▸ w2
    have w3 : (scanF b1).1.length = 3 := e1 ▸ w3
    have w4 : ((scanF b1).1.getD 1 tok0).2.2.1 = -1 := e1 ▸ w4
    have w5 : ((scanF b1).1.getD 2 tok0).2.2.2 = 4 := e1 ▸ w5
    have w6 : nameF n1 = true := f1 ▸ w6
    have w7 : nameF n2 = false := f2 ▸ w7
    refine ⟨UInt8, byteC, 0, [97, 45, 49, 32, 123], ⟨rfl, fun _ => ⟨rfl, rfl, rfl⟩⟩, ⟨.refl _, .refl _, .refl _, .refl _, .refl _, trivial⟩, ?_⟩
    refine ⟨by decide, ?_⟩
    refine ⟨b1, ⟨.rowEq (by rw [e1]; rfl), trivial⟩, rfl, (show b1.length ≤ 4611686018427387904 by rw [e1]; decide), ?_⟩
    refine ⟨UInt8, byteC, 0, [97, 32, 48, 49], ⟨rfl, fun _ => ⟨rfl, rfl, rfl⟩⟩, ⟨.refl _, .refl _, .refl _, .refl _, trivial⟩, ?_⟩
    refine ⟨by decide, ?_⟩
    refine ⟨b2, ⟨.rowEq (by rw [e2]; rfl), trivial⟩, rfl, (show b2.length ≤ 4611686018427387904 by rw [e2]; decide), ?_⟩
    have w1a : (scanF b1).2.1 = 0 := by rw [w1]
    have w1b : (scanF b1).2.2 = 0 := by rw [w1]
    have w2a : (scanF b2).2.1 = 2 := by rw [w2]
    have w2b : (scanF b2).2.2 = 3 := by rw [w2]
    refine ⟨?_, ?_⟩
    · skip
      intro h -- ((scanF b1).snd.snd == 0) = true
      refine ⟨?_, ?_⟩
      · skip
        intro h -- (↑(scanF b1).fst.length == 3) = true
        refine ⟨?_, ?_⟩
        · (rw [w3]; decide)
        · skip
          refine ⟨?_, ?_⟩
          · skip
            intro h -- (((scanF b1).fst.getD (Int.toNat 1) tok0).snd.snd.fst == -1) = true
            refine ⟨?_, ?_⟩
            · (rw [w3]; decide)
            · skip
              refine ⟨?_, ?_⟩
              · skip
                intro h -- (((scanF b1).fst.getD (Int.toNat 2) tok0).snd.snd.snd == 4) = true
                refine ⟨?_, ?_⟩
                · skip
                  intro h -- ((scanF b2).snd.snd == 3) = true
                  refine ⟨?_, ?_⟩
                  · skip
                    intro h -- ((scanF b2).snd.fst == 2) = true
                    refine ⟨n1, ⟨.str (by rw [f1]), trivial⟩, rfl, (show n1.length ≤ 4611686018427387904 by rw [f1]; decide), ?_⟩
                    refine ⟨?_, ?_⟩
                    · skip
                      intro h -- nameF n1 = true
                      refine ⟨n2, ⟨.str (by rw [f2]), trivial⟩, rfl, (show n2.length ≤ 4611686018427387904 by rw [f2]; decide), ?_⟩
                      exact ⟨.toTT (by rw [w7]; rfl), rfl⟩
                    · skip
                      intro h -- nameF n1 = false
                      exact absurd h (by first | (simp only [w1a, w1b, w2a, w2b, w3]; decide) | (show ¬ (((scanF b1).1.length : Int) == 3) = false; rw [w3]; decide) | (show ¬ (((scanF b1).1.getD 1 tok0).2.2.1 == -1) = false; rw [w4]; decide) | (show ¬ (((scanF b1).1.getD 2 tok0).2.2.2 == 4) = false; rw [w5]; decide) | (rw [w6]; decide) | (rw [w7]; decide))
                  · skip
                    intro h -- ((scanF b2).snd.fst == 2) = false
                    exact absurd h (by first | (simp only [w1a, w1b, w2a, w2b, w3]; decide) | (show ¬ (((scanF b1).1.length : Int) == 3) = false; rw [w3]; decide) | (show ¬ (((scanF b1).1.getD 1 tok0).2.2.1 == -1) = false; rw [w4]; decide) | (show ¬ (((scanF b1).1.getD 2 tok0).2.2.2 == 4) = false; rw [w5]; decide) | (rw [w6]; decide) | (rw [w7]; decide))
                · skip
                  intro h -- ((scanF b2).snd.snd == 3) = false
                  exact absurd h (by first | (simp only [w1a, w1b, w2a, w2b, w3]; decide) | (show ¬ (((scanF b1).1.length : Int) == 3) = false; rw [w3]; decide) | (show ¬ (((scanF b1).1.getD 1 tok0).2.2.1 == -1) = false; rw [w4]; decide) | (show ¬ (((scanF b1).1.getD 2 tok0).2.2.2 == 4) = false; rw [w5]; decide) | (rw [w6]; decide) | (rw [w7]; decide))
              · skip
                intro h -- (((scanF b1).fst.getD (Int.toNat 2) tok0).snd.snd.snd == 4) = false
                exact absurd h (by first | (simp only [w1a, w1b, w2a, w2b, w3]; decide) | (show ¬ (((scanF b1).1.length : Int) == 3) = false; rw [w3]; decide) | (show ¬ (((scanF b1).1.getD 1 tok0).2.2.1 == -1) = false; rw [w4]; decide) | (show ¬ (((scanF b1).1.getD 2 tok0).2.2.2 == 4) = false; rw [w5]; decide) | (rw [w6]; decide) | (rw [w7]; decide))
          · skip
            intro h -- (((scanF b1).fst.getD (Int.toNat 1) tok0).snd.snd.fst == -1) = false
            exact absurd h (by first | (simp only [w1a, w1b, w2a, w2b, w3]; decide) | (show ¬ (((scanF b1).1.length : Int) == 3) = false; rw [w3]; decide) | (show ¬ (((scanF b1).1.getD 1 tok0).2.2.1 == -1) = false; rw [w4]; decide) | (show ¬ (((scanF b1).1.getD 2 tok0).2.2.2 == 4) = false; rw [w5]; decide) | (rw [w6]; decide) | (rw [w7]; decide))
      · skip
        intro h -- (↑(scanF b1).fst.length == 3) = false
        exact absurd h (by first | (simp only [w1a, w1b, w2a, w2b, w3]; decide) | (show ¬ (((scanF b1).1.length : Int) == 3) = false; rw [w3]; decide) | (show ¬ (((scanF b1).1.getD 1 tok0).2.2.1 == -1) = false; rw [w4]; decide) | (show ¬ (((scanF b1).1.getD 2 tok0).2.2.2 == 4) = false; rw [w5]; decide) | (rw [w6]; decide) | (rw [w7]; decide))
    · skip
      intro h -- ((scanF b1).snd.snd == 0) = false
      exact absurd h (by first | (simp only [w1a, w1b, w2a, w2b, w3]; decide) | (show ¬ (((scanF b1).1.length : Int) == 3) = false; rw [w3]; decide) | (show ¬ (((scanF b1).1.getD 1 tok0).2.2.1 == -1) = false; rw [w4]; decide) | (show ¬ (((scanF b1).1.getD 2 tok0).2.2.2 == 4) = false; rw [w5]; decide) | (rw [w6]; decide) | (rw [w7]; decide))
end Go.Proofs.YtjbpgfcoeaapjaaDoor.Ax
