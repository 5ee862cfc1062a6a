/- Layer parse: the reader's small steps. -/
import Derived.Test.YtimhbimpaiiceaaDoorGb
import Derived.Test.YtimhbimpaiiceaaDoorLh
set_option linter.unusedVariables false
set_option linter.unusedSimpArgs false
namespace Go.Proofs.YtimhbimpaiiceaaDoor.Ax
open Go Go.RowKit
/-- what lies in the package variables that the library reads -/
def tabP (w : World) : Prop := tabs w ∧ Lib.TabIs Tryd.prog w "strings.asciiSpace" .u8 Lib.asciiSpaceTab
def rok (r : Rs) : Prop := r.L.length ≤ 1000000 ∧ r.i ≤ r.L.length
theorem rok_fwd {r r' : Rs} (h : rok r) (f : Fwd r r') : rok r' := ⟨by rw [f.L]; exact h.1, f.ok h.2⟩
/-- a contract of a reader's method that only reads -/
def reC (A : Type) (a : A → List SV) (v : Rs → A → Nat → SV) (d : A → Prop) : Ctr := { A := Rs × A, enc := fun x => .elt Unit 5 (fun _ => rsC x.1) () [()] 0 0 :: a x.2, dom := fun x => rok x.1 ∧ d x.2, res := fun x id => v x.1 x.2 id, gl := tabP }
/-- .. that goes on -/
def rdC (A : Type) (a : A → List SV) (v : Rs → A → Nat → SV) (p : Rs → A → Rs) (d : A → Prop) : CtrB := { A := Rs × A, enc := fun x => .box 1000 0 :: a x.2, pre := fun x => [rsC x.1], dom := fun x => rok x.1 ∧ d x.2, res := fun x id => v x.1 x.2 id, post := fun x _ => [rsC (p x.1 x.2)], gl := tabP }
theorem Sub.tokEq {a b : Tok} (h : a = b) : Sub (tokS a) (tokS b) := by subst h; exact .refl _
def nextC : Ctr := reC Unit (fun _ => []) (fun r _ _ => tokS r.next) fun _ => True
set_option maxRecDepth 100000 in
theorem next_ok : CtrSound Tryd.prog 61 nextC :=
  ctr_of_ax (env_okB tys_ok (eqs := []) trivial (cs := []) trivial (bs := []) trivial (gl := tabP)) mixed _ Tryd.func61 (by kernel_rfl) rfl (fun _ _ => Nat.le_of_ble_eq_true rfl) fun ((r, u) : Rs × Unit) id hd => by
    have hd : r.L.length ≤ 1000000 ∧ r.i ≤ r.L.length := hd.1
    refine ⟨by kernel_rfl, ?_⟩
    refine ⟨fun h => ?_, fun h => ?_⟩
    · have e : r.next = tok0 := Rs.next_none fun c => by
        have h : (r.e != 0) = true := h
        rw [c.1] at h; simp at h
      exact ⟨.tokEq e.symm, rfl⟩
    have h1 : r.e = 0 := by
      have h : (r.e != 0) = false := h
      simpa using h
    refine ⟨fun h => ?_, fun h => ?_⟩
    · have h2 : ¬ r.i < r.L.length := by
        have h : decide ((r.i : Int) ≥ (r.L.length : Int)) = true := h
        have := of_decide_eq_true h; omega
      exact ⟨.tokEq (Rs.next_none fun c => h2 c.2).symm, rfl⟩
    have h2 : r.i < r.L.length := by
      have h : decide ((r.i : Int) ≥ (r.L.length : Int)) = false := h
      have := of_decide_eq_false h; omega
    refine ⟨by kernel_rfl, ?_⟩
    refine ⟨(show 0 ≤ (r.i : Int) ∧ (r.i : Int) < (r.L.length : Int) from ⟨by omega, by omega⟩), ?_⟩
    exact ⟨.tokEq (Rs.next_some ⟨h1, h2⟩).symm, rfl⟩
def isC : Ctr := reC ByteArray (fun w => [S w]) (fun r w _ => B (r.is w)) fun _ => True
theorem noS_eq (w : ByteArray) : (w.toList == noS.toList) = decide (w = noS) := ba_eq w noS
set_option maxRecDepth 100000 in
theorem is_ok : CtrSound Tryd.prog 46 isC :=
  ctr_of_ax (env_okB tys_ok (eqs := []) trivial (cs := [(61, nextC)]) ⟨next_ok, trivial⟩ (bs := []) trivial (gl := tabP)) mixed _ Tryd.func46 (by kernel_rfl) rfl (fun _ _ => Nat.le_of_ble_eq_true rfl) fun ((r, w) : Rs × ByteArray) id hd => by
    refine ⟨(r, ()), ⟨.refl _, trivial⟩, rfl, ⟨hd.1, trivial⟩, ?_⟩
    refine ⟨fun h => ?_, fun h => ?_⟩
    · have h : (r.next.2.1.toList == w.toList) = true := h
      rw [ba_eq] at h
      exact ⟨.bool (by show (!(w.toList == noS.toList)) = r.is w; unfold Rs.is; rw [h, noS_eq]; simp), rfl⟩
    · have h : (r.next.2.1.toList == w.toList) = false := h
      rw [ba_eq] at h
      exact ⟨.bff (by unfold Rs.is; rw [h]; rfl), rfl⟩
def failC : CtrB := rdC Int (fun e => [I e]) (fun _ _ _ => .tup []) (fun r e => r.fail e) fun _ => True
theorem rL {a b : Rs} (h : a = b) : a.L = b.L := congrArg Rs.L h
theorem rI {a b : Rs} (h : a = b) : (a.i : Int) = (b.i : Int) := congrArg (fun s : Rs => (s.i : Int)) h
theorem rN {a b : Rs} (h : a = b) : a.n = b.n := congrArg Rs.n h
theorem rA {a b : Rs} (h : a = b) : a.at' = b.at' := congrArg Rs.at' h
theorem rE {a b : Rs} (h : a = b) : a.e = b.e := congrArg Rs.e h
theorem hwI {r : Rs} (hd : rok r) : IntKind.i64.wrap ((r.i : Int) + 1) = (r.step.i : Int) := by
  have h1 := hd.1; have h2 := hd.2
  show _ = ((r.i + 1 : Nat) : Int)
  rw [wrap_eq _ (by omega) (by omega)]; omega
set_option maxRecDepth 100000 in
theorem fail_ok : CtrBSound Tryd.prog 62 failC :=
  ctrB_of_ax2 mixed _ Tryd.func62 (by kernel_rfl) rfl (fun _ _ => ⟨Nat.le_of_ble_eq_true rfl, Nat.le_of_ble_eq_true rfl⟩) fun ((r, e) : Rs × Int) id hd => by
    refine ⟨_, ⟨env_okB tys_ok (eqs := []) trivial (cs := []) trivial (bs := []) trivial (gl := tabP), fun _ h => h⟩, ?_⟩
    have hd : r.L.length ≤ 1000000 ∧ r.i ≤ r.L.length := hd.1
    refine ⟨fun h => ?_, fun h => ?_⟩
    · have h : (r.e != 0) = true := h
      have hE : r = r.fail e := (if_neg (by simpa using h)).symm
      exact ⟨.refl (.tup []), ⟨rfl, .rowEq (rL hE :), .int (rI hE :), .int (rN hE :), .int (rA hE :), .int (rE hE :), trivial⟩, trivial⟩
    have h1 : r.e = 0 := by
      have h : (r.e != 0) = false := h
      simpa using h
    have e1 : r.fail e = ⟨r.L, r.n, r.i, if r.i < r.L.length then (r.L.getD r.i tok0).2.2.2 else r.n, e⟩ := if_pos h1
    refine ⟨by kernel_rfl, ?_⟩
    refine ⟨fun h => ?_, fun h => ?_⟩
    · have h2 : r.i < r.L.length := dlt h
      refine ⟨by kernel_rfl, ?_⟩
      refine ⟨(show 0 ≤ (r.i : Int) ∧ (r.i : Int) < (r.L.length : Int) from ⟨by omega, by omega⟩), ?_⟩
      have hE : (⟨r.L, r.n, r.i, (r.L.getD r.i tok0).2.2.2, e⟩ : Rs) = r.fail e := by rw [e1, if_pos h2]
      exact ⟨.refl (.tup []), ⟨rfl, .rowEq (rL hE :), .int (rI hE :), .int (rN hE :), .int (rA hE :), .int (rE hE :), trivial⟩, trivial⟩
    · have h2 : ¬ r.i < r.L.length := by
        have h : decide ((r.i : Int) < (r.L.length : Int)) = false := h
        have := dge h; omega
      have hE : (⟨r.L, r.n, r.i, r.n, e⟩ : Rs) = r.fail e := by rw [e1, if_neg h2]
      exact ⟨.refl (.tup []), ⟨rfl, .rowEq (rL hE :), .int (rI hE :), .int (rN hE :), .int (rA hE :), .int (rE hE :), trivial⟩, trivial⟩
end Go.Proofs.YtimhbimpaiiceaaDoor.Ax
