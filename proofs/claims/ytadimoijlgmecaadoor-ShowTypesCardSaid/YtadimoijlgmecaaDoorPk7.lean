/- Walks and laws, part 7: Sr St Lw Hw Hs. -/
import Derived.Test.YtadimoijlgmecaaDoorPk6
import Derived.Test.YtadimoijlgmecaaDoorRows
import Derived.Stop.LaidErr
import Derived.LaidSub
import Derived.LaidMore
import Derived.Stop.Joined
import Derived.MakeChecks
import Derived.Lib.LaidTab
/- Layer show: what each statement wakes; ShowUnlike, ShowParts. -/
set_option linter.unusedVariables false
set_option linter.unusedSimpArgs false
namespace Go.Proofs.YtadimoijlgmecaaDoor.Ax
open Go Go.RowKit
theorem Sub.agg1 {a b : SV} (h : Sub a b) : Sub (.agg [a]) (.agg [b]) := .agg _ _ rfl fun j hj => by
  obtain rfl : j = 0 := by simpa using hj
  exact h
theorem meth_H {m : Meth} (h : methH m = true) : methD m ∧ mLen m := by
  unfold methH methH0 at h
  simp only [Bool.and_eq_true, decide_eq_true_eq, List.all_eq_true] at h
  obtain ⟨⟨h1, h2, h3, h4, h5⟩, h6, h7, h8⟩ := h
  refine ⟨⟨by unfold SM; omega, by unfold SM; omega, ⟨by omega, fun x hx => ?_⟩, ⟨by omega, fun x hx => ?_⟩, by omega, fun x hx => ?_⟩, by unfold LB; omega, by unfold LB; omega, by unfold LB; omega⟩
  · have := h7 x hx; unfold tyH at this; have := of_decide_eq_true this; unfold SM; omega
  · have := h6 x hx; unfold insH at this; simp only [Bool.and_eq_true, decide_eq_true_eq] at this; exact ⟨by unfold SM; omega, by unfold SM; omega⟩
  · have := h8 x hx; unfold catH at this; have := of_decide_eq_true this; show x.name.size ≤ SM; unfold SM; omega
theorem cls_H {c : Cls} (h : clsH c = true) : clsD c ∧ cLen c := by
  unfold clsH clsH0 at h
  simp only [Bool.and_eq_true, decide_eq_true_eq, List.all_eq_true] at h
  obtain ⟨⟨h1, h2, h3, h4, h5⟩, h6, h7, h8⟩ := h
  refine ⟨⟨by unfold SM; omega, by unfold SM; omega, ⟨by omega, fun x hx => ?_⟩, ⟨by omega, fun x hx => ?_⟩, by omega, fun x hx => (meth_H (h8 x hx)).1⟩, by unfold LB; omega, by unfold LB; omega, by unfold LB; omega, fun x hx => (meth_H (h8 x hx)).2⟩
  · have := h7 x hx; unfold strH at this; have := of_decide_eq_true this; unfold SM; omega
  · have := h6 x hx; unfold fldH at this; simp only [Bool.and_eq_true, decide_eq_true_eq] at this; exact ⟨by unfold SM; omega, by unfold SM; omega⟩
theorem prg_H {p : List Cls} (h : prgH p = true) : prgD p ∧ pLen p := by
  unfold prgH at h
  simp only [Bool.and_eq_true, decide_eq_true_eq, List.all_eq_true] at h
  exact ⟨⟨by omega, fun c hc => (cls_H (h.2 c hc)).1⟩, by unfold LB; omega, fun c hc => (cls_H (h.2 c hc)).2⟩
theorem show_ok {p : List Cls} (h : (showF p).2 = 0) : prgOk p = true ∧ (textP p).length ≤ 6000 ∧ (showF p).1 = textP p := by
  unfold showF at h ⊢
  by_cases h1 : prgOk p = true
  · rw [if_pos h1] at h ⊢
    by_cases h2 : 6000 < (textP p).length
    · rw [if_pos h2] at h; cases h
    · rw [if_neg h2]; exact ⟨h1, by omega, rfl⟩
  · rw [if_neg h1] at h; cases h
theorem show_good {p : List Cls} (h : prgOk p = true) (hl : (textP p).length ≤ 6000) : showF p = (textP p, 0) := by
  unfold showF; rw [if_pos h, if_neg (by omega)]
theorem show_len (p : List Cls) : (showF p).1.length ≤ 6000 := by
  unfold showF
  split
  · split
    · simp
    · show (textP p).length ≤ 6000; omega
  · simp
abbrev lS : Ctr := { A := Unit, enc := fun _ => [], dom := fun _ => True, res := fun _ _ => .tt, gl := tabS }
abbrev clsA : Cls := ⟨⟨#[65]⟩, false, noS, [], [], []⟩
theorem wkS1 : showF [clsA] = ([99, 108, 97, 115, 115, 32, 65, 32, 123, 10, 125, 10], 0) := by decide +kernel
theorem wkS2 : typeF 5 [65] = ([65, 91, 93], 0) := by decide +kernel
theorem wkS3 : prgOk [cls0] = false := by decide +kernel
theorem clsD_of (s : ByteArray) (h : s.size ≤ 100) : clsD ⟨s, false, noS, [], [], []⟩ := ⟨by show s.size ≤ SM; unfold SM; omega, (by show noS.size ≤ 4611686018427387904; decide), ⟨Nat.zero_le _, fun x hx => by cases hx⟩, ⟨Nat.zero_le _, fun x hx => by cases hx⟩, Nat.zero_le _, fun x hx => by cases hx⟩
set_option maxRecDepth 100000 in
set_option maxHeartbeats 2000000 in
theorem wakesS_ok : CtrSound Tryd.prog 8 lS :=
  ctr_of_ax (env_okB tys_ok (eqs := []) trivial (cs := [(7, textK), (13, typeC), (14, okC)]) ⟨text_ok, type_ok, ok_ok, trivial⟩ (bs := []) trivial (gl := tabS)) mixed _ Tryd.func8 (by kernel_rfl) rfl (fun _ _ => Nat.le_of_ble_eq_true rfl) fun (_ : Unit) id hd => by
    obtain ⟨p1, e1⟩ : ∃ p : List Cls, p = [clsA] := ⟨_, rfl⟩
    obtain ⟨p2, e2⟩ : ∃ p : List Cls, p = [cls0] := ⟨_, rfl⟩
    obtain ⟨l1, f1⟩ : ∃ l : List UInt8, l = [65] := ⟨_, rfl⟩
    have a1 := wkS1
    rw [← e1] at a1
    have a2 := wkS2
    rw [← f1] at a2
    have a3 := wkS3
    rw [← e2] at a3
    have b1 : (showF p1).2 = 0 := by rw [a1]
    have b2 : ((⟨(showF p1).1.toArray⟩ : ByteArray).toList == (⟨#[99, 108, 97, 115, 115, 32, 65, 32, 123, 10, 125, 10]⟩ : ByteArray).toList) = true := by rw [a1]; simp
    have b3 : (typeF 5 l1).2 = 0 := by rw [a2]
    have b4 : ((txt (typeF 5 l1).1).toList == (⟨#[65, 91, 93]⟩ : ByteArray).toList) = true := by rw [a2]; simp [txt]
    refine ⟨Cls, clsC, cls0, [clsA], ⟨rfl, fun _ => rfl⟩, ⟨.refl _, .refl _, .refl _, .nil .., .nil .., .nil .., trivial⟩, rfl, ?_⟩
    refine ⟨p1, ⟨.agg1 (.ownRow e1.symm), trivial⟩, rfl, (show prgD p1 by rw [e1]; exact ⟨by decide, fun c hc => by rw [List.mem_singleton.1 hc]; exact clsD_of _ (by decide)⟩), ?_⟩
    refine ⟨(5, l1), ⟨.agg2 (.refl _) (.str (by rw [f1])), trivial⟩, rfl, (show l1.length ≤ 1000000 by rw [f1]; decide), ?_⟩
    refine ⟨fun h => ?_, fun h => absurd h (by show ¬ ((showF p1).2 == 0) = false; rw [b1]; decide)⟩
    refine ⟨(showF p1).1, .refl _, ?_⟩
    refine ⟨fun h => ?_, fun h => absurd h (by show ¬ ((⟨(showF p1).1.toArray⟩ : ByteArray).toList == (⟨#[99, 108, 97, 115, 115, 32, 65, 32, 123, 10, 125, 10]⟩ : ByteArray).toList) = false; rw [b2]; decide)⟩
    refine ⟨fun h => ?_, fun h => absurd h (by show ¬ ((typeF 5 l1).2 == 0) = false; rw [b3]; decide)⟩
    refine ⟨fun h => ?_, fun h => absurd h (by show ¬ ((txt (typeF 5 l1).1).toList == (⟨#[65, 91, 93]⟩ : ByteArray).toList) = false; rw [b4]; decide)⟩
    refine ⟨Cls, clsC, cls0, [cls0], ⟨rfl, fun _ => rfl⟩, ⟨.refl _, .refl _, .refl _, .nil .., .nil .., .nil .., trivial⟩, rfl, ?_⟩
    refine ⟨p2, ⟨.agg1 (.ownRow e2.symm), trivial⟩, rfl, (show prgD p2 by rw [e2]; exact ⟨by decide, fun c hc => by rw [List.mem_singleton.1 hc]; exact clsD_of _ (by decide)⟩), ?_⟩
    exact ⟨.toTT (by show ((if prgOk p2 then (0 : Int) else 4) == 4) = true; rw [a3]; rfl), rfl⟩
theorem text_inj {p q : List Cls} (hp : (showF p).2 = 0) (hq : (showF q).2 = 0) : decide ((showF p).1 = (showF q).1) = decide (p = q) := by
  obtain ⟨p1, p2, p3⟩ := show_ok hp
  obtain ⟨q1, q2, q3⟩ := show_ok hq
  rw [p3, q3]
  refine decide_eq_decide.2 ⟨fun h => ?_, fun h => by rw [h]⟩
  have h1 := parse_text p1 p2
  rw [h, parse_text q1 q2] at h1
  exact (congrArg Prod.fst h1).symm
theorem beqT {a b : Int} (h : (a != b) = false) : a = b := by simpa using h
def ShowUnlike : Ctr := { A := List Cls × List Cls, enc := fun x => [.agg [prgR x.1], .agg [prgR x.2]], dom := fun _ => True, res := fun _ _ => .tt, gl := tabS }
set_option maxRecDepth 100000 in
set_option maxHeartbeats 2000000 in
theorem ShowUnlike_ok : CtrSound Tryd.prog 3 ShowUnlike :=
  ctr_of_ax (env_okB tys_ok (eqs := []) trivial (cs := [(6, heavyC), (7, textK), (8, lS), (9, keepR UInt8 1 byteC 0), (10, kPrg)]) ⟨heavy_ok, text_ok, wakesS_ok, kBytes_ok, kPrg_ok, trivial⟩ (bs := []) trivial (gl := tabS)) mixed _ Tryd.func3 (by kernel_rfl) rfl (fun _ _ => Nat.le_of_ble_eq_true rfl) fun ((p, q) : List Cls × List Cls) id hd => by
    refine ⟨p, ⟨.refl _, trivial⟩, rfl, trivial, ?_⟩
    refine ⟨fun h => ⟨.refl _, rfl⟩, fun h => ?_⟩
    have hp : prgH p = true := by have h : (!prgH p) = false := h; simpa using h
    refine ⟨q, ⟨.refl _, trivial⟩, rfl, trivial, ?_⟩
    refine ⟨fun h => ⟨.refl _, rfl⟩, fun h => ?_⟩
    have hq : prgH q = true := by have h : (!prgH q) = false := h; simpa using h
    obtain ⟨dp, lp⟩ := prg_H hp
    obtain ⟨dq, lq⟩ := prg_H hq
    refine ⟨p, ⟨.refl _, trivial⟩, rfl, dp, ?_⟩
    refine ⟨q, ⟨.refl _, trivial⟩, rfl, dq, ?_⟩
    refine ⟨fun h => ?_, fun h => ?_⟩
    · refine ⟨(), trivial, rfl, trivial, ?_⟩
      exact ⟨.refl _, rfl⟩
    have ep : (showF p).2 = 0 := beqT h
    refine ⟨fun h => ?_, fun h => ?_⟩
    · refine ⟨(), trivial, rfl, trivial, ?_⟩
      exact ⟨.refl _, rfl⟩
    have eq : (showF q).2 = 0 := beqT h
    have hl := show_len p
    refine ⟨by kernel_rfl, ?_⟩
    refine ⟨((showF p).1, (showF q).1), ⟨.refl _, .refl _, trivial⟩, rfl, (show (showF p).1.length ≤ 4611686018427387904 by omega), ?_⟩
    refine ⟨(p, q), ⟨.refl _, .refl _, trivial⟩, rfl, ⟨lp, lq⟩, ?_⟩
    refine ⟨fun h => ?_, fun h => ?_⟩
    · refine ⟨(), trivial, rfl, trivial, ?_⟩
      exact ⟨.refl _, rfl⟩
    · have h : (decide ((showF p).1 = (showF q).1) == decide (p = q)) = false := h
      rw [text_inj ep eq] at h; simp at h
theorem part_ok {p : List Cls} (h : (showF p).2 = 0) {i : Nat} (hi : i < p.length) : showF [p.getD i cls0] = (textC (p.getD i cls0), 0) := by
  obtain ⟨h1, h2, -⟩ := show_ok h
  have hm := getT_mem p cls0 i hi
  obtain ⟨-, h3⟩ := prg_parts h1
  have ho : prgOk [p.getD i cls0] = true := by
    unfold prgOk
    simp only [List.length_cons, List.length_nil, List.all_cons, List.all_nil, Bool.and_true, Bool.and_eq_true, decide_eq_true_eq]
    exact ⟨by omega, h3 _ hm⟩
  have ht : textP [p.getD i cls0] = textC (p.getD i cls0) := by unfold textP; simp
  have hl : (textC (p.getD i cls0)).length ≤ (textP p).length := by
    have := flat_snoc textC p cls0 i hi
    have h4 : (p.take (i + 1)).flatMap textC ++ (p.drop (i + 1)).flatMap textC = textP p := by rw [← List.flatMap_append, List.take_append_drop]; rfl
    rw [← h4, this]; simp only [List.length_append]; omega
  rw [show_good ho (by rw [ht]; omega), ht]
def ShowParts : Ctr := { A := List Cls, enc := fun p => [.agg [prgR p]], dom := fun _ => True, res := fun _ _ => .tt, gl := tabS }
set_option maxRecDepth 100000 in
set_option maxHeartbeats 2000000 in
theorem ShowParts_ok : CtrSound Tryd.prog 4 ShowParts :=
  ctr_of_ax (env_okB tys_ok (eqs := []) trivial (cs := [(6, heavyC), (7, textK), (8, lS), (9, keepR UInt8 1 byteC 0)]) ⟨heavy_ok, text_ok, wakesS_ok, kBytes_ok, trivial⟩ (bs := []) trivial (gl := tabS)) mixed _ Tryd.func4 (by kernel_rfl) rfl (fun _ _ => Nat.le_of_ble_eq_true rfl) fun (p : List Cls) id hd => by
    refine ⟨p, ⟨.refl _, trivial⟩, rfl, trivial, ?_⟩
    refine ⟨fun h => ⟨.refl _, rfl⟩, fun h => ?_⟩
    have hp : prgH p = true := by have h : (!prgH p) = false := h; simpa using h
    obtain ⟨dp, lp⟩ := prg_H hp
    have hpl : p.length ≤ 100000 := dp.1
    refine ⟨p, ⟨.refl _, trivial⟩, rfl, dp, ?_⟩
    refine ⟨fun h => ?_, fun h => ?_⟩
    · refine ⟨(), trivial, rfl, trivial, ?_⟩
      exact ⟨.refl _, rfl⟩
    have ep : (showF p).2 = 0 := beqT h
    obtain ⟨h1, h2, h3⟩ := show_ok ep
    refine ⟨Nat, fun i => [(1, .box 1 0), (3, .row UInt8 1 byteC 0 (showF p).1), (5, .own UInt8 1 byteC 0 ((p.take i).flatMap textC) 41), (6, I i)], fun _ => [(1, [prgR p])], fun i => i ≤ p.length, fun i => p.length - i, ⟨0, Nat.zero_le _, ⟨⟨rfl, rfl⟩, .refl _, .refl _, .nilO .., .refl _, ⟨.refl _, trivial⟩, trivial⟩⟩, fun (i : Nat) hi => ?_⟩
    have hi1 : i ≤ p.length := hi
    have hwj : IntKind.i64.wrap ((i : Int) + 1) = ((i + 1 : Nat) : Int) := by rw [wrap_eq _ (by omega) (by omega)]; omega
    have hbi := textP_len h1 i
    refine ⟨fun h => ?_, fun h => ?_⟩
    · have hlt : i < p.length := by have := of_decide_eq_true h; omega
      have hpart := part_ok ep hlt
      have hcl := textC_len ((prg_parts h1).2 _ (getT_mem p cls0 i hlt))
      obtain ⟨pi, ei⟩ : ∃ l, l = [p.getD i cls0] := ⟨_, rfl⟩
      have hsl : (p.take (IntKind.i64.wrap ((i : Int) + 1)).toNat).drop (i : Int).toNat = pi := by
        rw [hwj, ei]
        show (p.take (i + 1)).drop i = _
        rw [takeT p cls0 i hlt, List.drop_left' (by rw [List.length_take]; omega)]
      rw [← ei] at hpart
      refine ⟨⟨by omega, by rw [hwj]; omega, by rw [hwj]; omega⟩, ?_⟩
      refine ⟨pi, ⟨.agg1 (.rowEq hsl), trivial⟩, rfl, (show prgD pi by rw [ei]; exact ⟨(show 1 ≤ 100000 by decide), fun c hc => by rw [List.mem_singleton.1 hc]; exact dp.2 _ (getT_mem p cls0 i hlt)⟩), ?_⟩
      refine ⟨fun h => absurd h (by show ¬ ((showF pi).2 != 0) = true; rw [show (showF pi).2 = 0 by rw [hpart]]; decide), fun h => ?_⟩
      have hl1 : (showF pi).1 = textC (p.getD i cls0) := by rw [hpart]
      refine ⟨UInt8, byteC, 0, (p.take i).flatMap textC, (showF pi).1, 41, ⟨.refl _, .refl _⟩, fun _ => rfl, (by rw [hl1]; simp only []; omega), ?_⟩
      exact ⟨i + 1, hlt, by show p.length - (i + 1) < p.length - i; omega, ⟨rfl, rfl⟩, .refl _, .refl _, .ownEq (by rw [flat_snoc textC p cls0 i hlt, hl1]), .int hwj, ⟨.refl _, trivial⟩, trivial⟩
    · have hge : i = p.length := by have := of_decide_eq_false h; omega
      refine ⟨((p.take i).flatMap textC, (showF p).1), ⟨.own .., .refl _, trivial⟩, rfl, (show ((p.take i).flatMap textC).length ≤ 4611686018427387904 by omega), ?_⟩
      have he : decide ((p.take i).flatMap textC = (showF p).1) = true := decide_eq_true (by rw [hge, List.take_length, h3]; rfl)
      refine ⟨fun h => ?_, fun h => absurd h (by show ¬ decide ((p.take i).flatMap textC = (showF p).1) = false; rw [he]; decide)⟩
      refine ⟨(), trivial, rfl, trivial, ?_⟩
      exact ⟨.refl _, rfl⟩
end Go.Proofs.YtadimoijlgmecaaDoor.Ax
/- Layer show: ShowTypes. -/
set_option linter.unusedVariables false
set_option linter.unusedSimpArgs false
namespace Go.Proofs.YtadimoijlgmecaaDoor.Ax
open Go Go.RowKit
theorem typeF3 (l : List UInt8) : typeF 3 l = if freshF l then (l, 0) else ([], 4) := by
  have h1 : typedF 3 l = freshF l := rfl
  have h2 : sjoinF (kindF 3 (txt l)) ⟨#[]⟩ = l := by
    show Lib.join [(txt l).data.toList] [] = l
    simp [Lib.join_cons, Lib.joinTail, txt]
  unfold typeF; rw [h1, h2]
theorem typeF5 (l : List UInt8) : typeF 5 l = if freshF l then (l ++ [91, 93], 0) else ([], 4) := by
  have h1 : typedF 5 l = freshF l := rfl
  have h2 : sjoinF (kindF 5 (txt l)) ⟨#[]⟩ = l ++ [91, 93] := by
    show Lib.join [(txt l).data.toList, [91], [93]] [] = _
    simp [Lib.join_cons, Lib.joinTail, txt]
  unfold typeF; rw [h1, h2]
theorem typeF4 : typeF 4 [] = ([105, 110, 116, 91, 93], 0) := by decide +kernel
theorem typeF2 : typeF 2 [65] = ([], 4) := by decide +kernel
theorem freshNil : freshF [] = false := by decide +kernel
theorem typeK (k : Int) : ((typeF k []).2 == 0) = (k == 2 || (k == 1 || k == 4)) := by
  unfold typeF typedF
  rw [freshNil]
  by_cases h : k = 1 ∨ k = 2 ∨ k = 4
  · rw [if_pos h]
    rcases h with h | h | h <;> subst h <;> decide
  · rw [if_neg h]
    have h1 : k ≠ 1 := fun c => h (.inl c)
    have h2 : k ≠ 2 := fun c => h (.inr (.inl c))
    have h4 : k ≠ 4 := fun c => h (.inr (.inr c))
    simp [h1, h2, h4]
def ShowTypes : Ctr := { A := ByteArray × Int, enc := fun x => [S x.1, I x.2], dom := fun _ => True, res := fun _ _ => .tt, gl := tabS }
set_option maxRecDepth 100000 in
set_option maxHeartbeats 4000000 in
theorem ShowTypes_ok : CtrSound Tryd.prog 5 ShowTypes :=
  ctr_of_ax (env_okB tys_ok (eqs := []) trivial (cs := [(11, nameC), (12, rkeptC), (13, typeC), (8, lS)]) ⟨rname_ok, rkept_ok, type_ok, wakesS_ok, trivial⟩ (bs := []) trivial (gl := tabS) (cut := [4, 10])) mixed _ Tryd.func5 (by kernel_rfl) rfl (fun _ _ => Nat.le_of_ble_eq_true rfl) fun ((s, k) : ByteArray × Int) id hd => by
    refine ⟨fun h => ⟨.refl _, rfl⟩, fun h => ?_⟩
    have hs : s.size ≤ 60 := by have := of_decide_eq_false h; dsimp only at this; omega
    have hl : s.data.toList.length ≤ 60 := by rw [sz_len]; exact hs
    refine ⟨Unit, fun _ => [(0, S s), (1, I k), (5, B (freshF s.data.toList))], fun _ => [], fun _ => True, ?_, fun _ _ => ?_⟩
    · refine ⟨s.data.toList, ⟨.refl _, trivial⟩, rfl, (show s.data.toList.length ≤ 4611686018427387904 by omega), ?_⟩
      refine ⟨fun h => ?_, fun h => ?_⟩
      · refine ⟨s, ⟨.refl _, trivial⟩, rfl, trivial, ?_⟩
        exact ⟨(), trivial, ⟨rfl, rfl⟩, .refl _, .refl _, .bool (by unfold freshF keptF; rw [show nameF s.data.toList = true from h]; rfl), trivial⟩
      · exact ⟨(), trivial, ⟨rfl, rfl⟩, .refl _, .refl _, .bff (by unfold freshF; rw [show nameF s.data.toList = false from h]; rfl), trivial⟩
    refine ⟨(3, s.data.toList), ⟨.refl _, trivial⟩, rfl, (show s.data.toList.length ≤ 1000000 by omega), ?_⟩
    refine ⟨(5, s.data.toList), ⟨.refl _, trivial⟩, rfl, (show s.data.toList.length ≤ 1000000 by omega), ?_⟩
    refine ⟨(4, []), ⟨.refl _, trivial⟩, rfl, (show ([] : List UInt8).length ≤ 1000000 by decide), ?_⟩
    refine ⟨(2, [65]), ⟨.refl _, trivial⟩, rfl, (show ([65] : List UInt8).length ≤ 1000000 by decide), ?_⟩
    have r3 := typeF3 s.data.toList
    have r5 := typeF5 s.data.toList
    refine ⟨Unit, fun _ => [(1, I k), (11, I 0), (13, I 4), (10, S ⟨#[105, 110, 116, 91, 93]⟩)], fun _ => [], fun _ => True, ?_, fun _ _ => ?_⟩
    · have q1 : ((typeF 3 s.data.toList).2 == 0) = freshF s.data.toList := by rw [r3]; cases freshF s.data.toList <;> rfl
      have q2 : ((typeF 5 s.data.toList).2 == 0) = freshF s.data.toList := by rw [r5]; cases freshF s.data.toList <;> rfl
      refine ⟨fun h => absurd h (by show ¬ (!(((typeF 3 s.data.toList).2 == 0) == freshF s.data.toList)) = true; rw [q1]; simp), fun h1 => ?_⟩
      refine ⟨fun h => absurd h (by show ¬ (!(((typeF 5 s.data.toList).2 == 0) == freshF s.data.toList)) = true; rw [q2]; simp), fun h2 => ?_⟩
      refine ⟨fun h3 => ?_, fun h3 => ?_⟩
      · have h3 : freshF s.data.toList = true := h3
        rw [h3] at r3 r5
        have z1 : (typeF 3 s.data.toList).1 = s.data.toList := by rw [r3]; rfl
        have z2 : (typeF 5 s.data.toList).1 = s.data.toList ++ [91, 93] := by rw [r5]; rfl
        refine ⟨fun h => absurd h (by show ¬ (!((txt (typeF 3 s.data.toList).1).toList == s.toList)) = true; rw [z1]; simp [ba_eta]), fun h4 => ?_⟩
        refine ⟨(show s.size + 2 < 4611686018427387904 by omega), ?_⟩
        refine ⟨fun h => absurd h (by
          show ¬ (!((txt (typeF 5 s.data.toList).1).toList == (s ++ (⟨#[91, 93]⟩ : ByteArray)).toList)) = true
          rw [z2, show txt (s.data.toList ++ [91, 93]) = s ++ (⟨#[91, 93]⟩ : ByteArray) from ?_]
          · simp
          · apply ByteArray.ext; apply Array.ext'; simp [txt, ByteArray.data_append]), fun h5 => ?_⟩
        refine ⟨fun h => absurd h (by show ¬ (!freshF s.data.toList) = true; rw [h3]; decide), fun h6 => ?_⟩
        exact ⟨(), trivial, ⟨rfl, rfl⟩, .refl _, .int (by show (typeF 4 []).2 = 0; rw [typeF4]), .int (by show (typeF 2 [65]).2 = 4; rw [typeF2]), .str (by show txt (typeF 4 []).1 = _; rw [typeF4]), trivial⟩
      · have h3 : freshF s.data.toList = false := h3
        rw [h3] at r3 r5
        have z1 : (typeF 3 s.data.toList).1 = [] := by rw [r3]; rfl
        have z2 : (typeF 5 s.data.toList).1 = [] := by rw [r5]; rfl
        refine ⟨fun h6 => ?_, fun h => absurd h (by show ¬ (!freshF s.data.toList) = false; rw [h3]; decide)⟩
        refine ⟨(show (txt (typeF 3 s.data.toList).1).size + (txt (typeF 5 s.data.toList).1).size < 4611686018427387904 by rw [z1, z2]; decide), ?_⟩
        refine ⟨fun h => absurd h (by
          show ¬ (!((txt (typeF 3 s.data.toList).1 ++ txt (typeF 5 s.data.toList).1).toList == (⟨#[]⟩ : ByteArray).toList)) = true
          rw [z1, z2, show txt [] ++ txt [] = (⟨#[]⟩ : ByteArray) by decide +kernel]
          simp), fun h5 => ?_⟩
        exact ⟨(), trivial, ⟨rfl, rfl⟩, .refl _, .int (by show (typeF 4 []).2 = 0; rw [typeF4]), .int (by show (typeF 2 [65]).2 = 4; rw [typeF2]), .str (by show txt (typeF 4 []).1 = _; rw [typeF4]), trivial⟩
    refine ⟨(k, []), ⟨.refl _, trivial⟩, rfl, (show ([] : List UInt8).length ≤ 1000000 by decide), ?_⟩
    have qk := typeK k
    refine ⟨fun _ => ?_, fun h => absurd h (by decide)⟩
    refine ⟨fun _ => ?_, fun h => absurd h (by show ¬ ((⟨#[105, 110, 116, 91, 93]⟩ : ByteArray).toList == (⟨#[105, 110, 116, 91, 93]⟩ : ByteArray).toList) = false; simp)⟩
    refine ⟨fun _ => ?_, fun h => absurd h (by decide)⟩
    refine ⟨fun g1 => ?_, fun g1 => ⟨fun g2 => ?_, fun g2 => ?_⟩⟩
    · have g1 : (k == 2) = true := g1
      rw [g1, Bool.true_or] at qk
      refine ⟨fun h => ?_, fun h => absurd h (by show ¬ (((typeF k []).2 == 0) == true) = false; rw [qk]; decide)⟩
      refine ⟨(), trivial, rfl, trivial, ?_⟩
      exact ⟨.refl _, rfl⟩
    · have g1 : (k == 2) = false := g1
      have g2 : (k == 1) = true := g2
      rw [g1, g2, Bool.true_or, Bool.or_true] at qk
      refine ⟨fun h => ?_, fun h => absurd h (by show ¬ (((typeF k []).2 == 0) == true) = false; rw [qk]; decide)⟩
      refine ⟨(), trivial, rfl, trivial, ?_⟩
      exact ⟨.refl _, rfl⟩
    · have g1 : (k == 2) = false := g1
      have g2 : (k == 1) = false := g2
      rw [g1, g2, Bool.false_or, Bool.false_or] at qk
      refine ⟨fun h => ?_, fun h => absurd h (by show ¬ (((typeF k []).2 == 0) == (k == 4)) = false; rw [qk]; simp)⟩
      refine ⟨(), trivial, rfl, trivial, ?_⟩
      exact ⟨.refl _, rfl⟩
end Go.Proofs.YtadimoijlgmecaaDoor.Ax
/- What the rows list of the package's variables, as the walks ask for it. -/
set_option linter.unusedVariables false
namespace Go.Proofs.YtadimoijlgmecaaDoor.Ax
open Go Go.RowKit
theorem var_keep {P : Program} {n : String} {W w' : World} {cs : Array Value} (h : W.var? P n = some cs) (hs : Sealed (cellsH W) w') (hsh : Shaped W w') : w'.var? P n = some cs := by
  unfold World.var? at h ⊢
  cases hg : P.globalNamed n with
  | none => rw [hg] at h; cases h
  | some g =>
    rw [hg] at h
    simp only [Option.bind_some] at h ⊢
    have hlt : g < W.heap.size := by
      rcases Nat.lt_or_ge g W.heap.size with h' | h'
      · exact h'
      · rw [Array.getElem?_eq_none h'] at h; cases h
    have h2 := hsh.2 g hlt
    cases ho : W.heap[g]? with
    | none => rw [ho] at h; cases h
    | some o =>
      rw [ho] at h
      cases o with
      | cells c t f =>
        simp only [Option.some.injEq] at h
        subst h
        simp only [World.shape?, ho] at h2
        cases ho' : w'.heap[g]? with
        | none => rw [ho'] at h2; cases h2
        | some o' =>
          rw [ho'] at h2
          cases o' with
          | cells c' t' f' =>
            simp only [Option.some.injEq, Prod.mk.injEq] at h2
            show some c' = some c
            congr 1
            apply Array.ext h2.2
            intro i hi hi'
            have h3 : cellsH W g i = some c[i] := by
              simp [cellsH, World.cell?, ho]
            have h4 := hs _ _ _ h3
            simp [World.cell?, ho'] at h4
            exact (Array.getElem?_eq_some_iff.1 h4).2
          | _ => cases h2
      | _ => cases h
theorem pow_eq {H : Type} : (Rows.laid_internal_strconv_uint64pow10 : DataW H) = Lib.tabData .u64 Lib.pow10Tab := rfl
end Go.Proofs.YtadimoijlgmecaaDoor.Ax
/- What the rows list of the package's variables, as the walks of the show layer ask for it. -/
set_option linter.unusedVariables false
namespace Go.Proofs.YtadimoijlgmecaaDoor.Ax
open Go Go.RowKit
set_option maxRecDepth 100000 in
theorem spaceS_eq {H : Type} : (Rows.laid_strings_asciiSpace : DataW H) = Lib.tabData .u8 Lib.asciiSpaceTab := rfl
theorem tabsS_of {l : List (String × DataW Unit)} {W : World} (h : laidMet Tryd.prog l W)
    (h1 : (l.filter fun x => x.1 == "internal/strconv.uint64pow10") = [("internal/strconv.uint64pow10", Rows.laid_internal_strconv_uint64pow10)])
    (h3 : (l.filter fun x => x.1 == "strings.asciiSpace") = [("strings.asciiSpace", Rows.laid_strings_asciiSpace)]) : ∀ w', Sealed (cellsH W) w' → Shaped W w' → tabS w' := by
  intro w' hs hsh
  have a1 := h.filter fun x => x.1 == "internal/strconv.uint64pow10"
  rw [h1, pow_eq] at a1
  have t1 := Lib.tabIs_of_head (g := 3) (t := 138) (e := 126) (n := 20) (by kernel_rfl) (by kernel_rfl) Tryd.underlying138 Tryd.underlying126 (by kernel_rfl) (by kernel_rfl) a1
  have a2 := h.filter fun x => x.1 == "strings.asciiSpace"
  rw [h3, spaceS_eq] at a2
  have t2 := Lib.tabIs_of_head (g := 0) (t := 119) (e := 5) (n := 256) (by kernel_rfl) (by kernel_rfl) Tryd.underlying119 Tryd.underlying5 (by kernel_rfl) (by kernel_rfl) a2
  exact ⟨var_keep t1 hs hsh, var_keep t2 hs hsh⟩
end Go.Proofs.YtadimoijlgmecaaDoor.Ax
/- Programs among a law's arguments. -/
set_option linter.unusedVariables false
set_option linter.unusedSimpArgs false
namespace Go.Proofs.YtadimoijlgmecaaDoor.Ax
open Go Go.RowKit
theorem Reads.map {P : Program} {t : Nat} {s s' : Shape} (h : Reads P t s) (f : s.X → s'.X) (hz : s'.sz = s.sz) (hc : ∀ x, s'.cs (f x) = s.cs x) (hk : ∀ x, s.ok x → s'.ok (f x)) : Reads P t s' :=
  ⟨h.1.trans hz.symm, fun H enc w base fuel l r h1 h2 => by
    obtain ⟨x, k1, k2, k3, k4⟩ := h.2 H enc w base fuel l r h1 h2
    exact ⟨f x, hk x k1, k2.trans hz.symm, by rw [hc, k3, hz], fun j hj => by rw [hc]; exact k4 j (by omega)⟩⟩
abbrev shS : Shape := .str
theorem rdS : Reads Tryd.prog 9 shS := Reads.str Tryd.underlying9 (by kernel_rfl)
abbrev shB : Shape := .bool
theorem rdB : Reads Tryd.prog 4 shB := Reads.bool Tryd.underlying4 (by kernel_rfl)
abbrev shI : Shape := .int .i64
theorem rdI : Reads Tryd.prog 3 shI := Reads.int Tryd.underlying3 (by kernel_rfl)
abbrev shTy : Shape := shI.pair shS
theorem rdTy : Reads Tryd.prog 37 shTy := Reads.struct Tryd.underlying37 (by kernel_rfl) (.cons rfl rdI (.one rfl rdS))
abbrev shFld : Shape := ⟨Fld, 4, fldC, fld0, fun x => shS.ok x.name ∧ shTy.ok x.type⟩
theorem rdFld : Reads Tryd.prog 45 shFld :=
  (Reads.struct (s := shS.pair (shTy.pair shB)) Tryd.underlying45 (by kernel_rfl) (.cons rfl rdS (.cons rfl rdTy (.one rfl rdB)))).map (fun x => ⟨x.1, x.2.1, x.2.2⟩) rfl (fun _ => rfl) (fun _ h => ⟨h.1, h.2.1⟩)
abbrev shIns : Shape := ⟨Ins, 4, insC, ins0, fun x => (shI.ok x.op ∧ shI.ok x.n) ∧ shS.ok x.a ∧ shS.ok x.b⟩
theorem rdIns : Reads Tryd.prog 52 shIns :=
  (Reads.struct (s := shI.pair (shI.pair (shS.pair shS))) Tryd.underlying52 (by kernel_rfl) (.cons rfl rdI (.cons rfl rdI (.cons rfl rdS (.one rfl rdS))))).map (fun x => ⟨x.1, x.2.1, x.2.2.1, x.2.2.2⟩) rfl (fun _ => rfl) (fun _ h => ⟨⟨h.1, h.2.1⟩, h.2.2⟩)
abbrev shCat : Shape := ⟨Cat, 4, catC, cat0, fun x => shS.ok x.name ∧ shI.ok x.fr ∧ shI.ok x.up ∧ shI.ok x.at'⟩
theorem rdCat : Reads Tryd.prog 54 shCat :=
  (Reads.struct (s := shS.pair (shI.pair (shI.pair shI))) Tryd.underlying54 (by kernel_rfl) (.cons rfl rdS (.cons rfl rdI (.cons rfl rdI (.one rfl rdI))))).map (fun x => ⟨x.1, x.2.1, x.2.2.1, x.2.2.2⟩) rfl (fun _ => rfl) (fun _ h => h)
theorem rdTys : Reads Tryd.prog 46 (shTy.row 24) := Reads.row Tryd.underlying46 (by kernel_rfl) (by kernel_rfl) rdTy (by decide)
theorem rdInss : Reads Tryd.prog 47 (shIns.row 48) := Reads.row Tryd.underlying47 (by kernel_rfl) (by kernel_rfl) rdIns (by decide)
theorem rdCats : Reads Tryd.prog 48 (shCat.row 40) := Reads.row Tryd.underlying48 (by kernel_rfl) (by kernel_rfl) rdCat (by decide)
theorem rdFlds : Reads Tryd.prog 40 (shFld.row 48) := Reads.row Tryd.underlying40 (by kernel_rfl) (by kernel_rfl) rdFld (by decide)
theorem rdStrs : Reads Tryd.prog 39 (shS.row 16) := Reads.row Tryd.underlying39 (by kernel_rfl) (by kernel_rfl) rdS (by decide)
abbrev shMeth : Shape := ⟨Meth, 9, methC, meth0, fun x => shS.ok x.name ∧ (shTy.row 24).ok x.params ∧ shTy.ok x.ret ∧ shI.ok x.locals ∧ (shIns.row 48).ok x.code ∧ (shCat.row 40).ok x.catches⟩
theorem rdMeth : Reads Tryd.prog 50 shMeth :=
  (Reads.struct (s := shS.pair (shB.pair (shB.pair ((shTy.row 24).pair (shTy.pair (shI.pair ((shIns.row 48).pair (shCat.row 40)))))))) Tryd.underlying50 (by kernel_rfl) (.cons rfl rdS (.cons rfl rdB (.cons rfl rdB (.cons rfl rdTys (.cons rfl rdTy (.cons rfl rdI (.cons rfl rdInss (.one rfl rdCats))))))))).map
    (fun x => ⟨x.1, x.2.1, x.2.2.1, x.2.2.2.1, x.2.2.2.2.1, x.2.2.2.2.2.1, x.2.2.2.2.2.2.1, x.2.2.2.2.2.2.2⟩) rfl (fun _ => rfl) (fun _ h => ⟨h.1, h.2.2.2.1, h.2.2.2.2.1, h.2.2.2.2.2.1, h.2.2.2.2.2.2.1, h.2.2.2.2.2.2.2⟩)
theorem rdMeths : Reads Tryd.prog 41 (shMeth.row 128) := Reads.row Tryd.underlying41 (by kernel_rfl) (by kernel_rfl) rdMeth (by decide)
abbrev shCls : Shape := ⟨Cls, 6, clsC, cls0, fun x => shS.ok x.name ∧ shS.ok x.super ∧ (shS.row 16).ok x.ifaces ∧ (shFld.row 48).ok x.fields ∧ (shMeth.row 128).ok x.methods⟩
theorem rdCls : Reads Tryd.prog 43 shCls :=
  (Reads.struct (s := shS.pair (shB.pair (shS.pair ((shS.row 16).pair ((shFld.row 48).pair (shMeth.row 128)))))) Tryd.underlying43 (by kernel_rfl) (.cons rfl rdS (.cons rfl rdB (.cons rfl rdS (.cons rfl rdStrs (.cons rfl rdFlds (.one rfl rdMeths))))))).map
    (fun x => ⟨x.1, x.2.1, x.2.2.1, x.2.2.2.1, x.2.2.2.2.1, x.2.2.2.2.2⟩) rfl (fun _ => rfl) (fun _ h => ⟨h.1, h.2.2.1, h.2.2.2.1, h.2.2.2.2.1, h.2.2.2.2.2⟩)
abbrev shPrg : Shape := shCls.row 112
theorem rdPrgs : Reads Tryd.prog 22 shPrg := Reads.row Tryd.underlying22 (by kernel_rfl) (by kernel_rfl) rdCls (by decide)
theorem rdPrg : Reads Tryd.prog 24 shPrg := Reads.struct Tryd.underlying24 (by kernel_rfl) (.one rfl rdPrgs)
end Go.Proofs.YtadimoijlgmecaaDoor.Ax
