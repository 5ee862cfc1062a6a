/- Walks and laws, part 6: Sl Sn Wa So Sq Gc Gd Ge Gf Gg Gh Gi. -/
import Derived.Test.YtadimoijlgmecaaGreatDoorPk5
import Derived.Shelf.Strings.BuilderK
import Derived.WalkKit
import Derived.BigCall
import Derived.Lib.Hide
/- Layer show: the words of methods and classes. PRINTED by wip/sp/sl.py. -/
set_option linter.unusedVariables false
set_option linter.unusedSimpArgs false
namespace Go.Proofs.YtadimoijlgmecaaGreatDoor.Ax
open Go Go.RowKit
theorem kindW_len (t : Ty) : (kindW t).length ≤ 3 ∧ 0 < (kindW t).length := by
  unfold kindW kindF
  split <;> first | exact ⟨by decide, by decide⟩ | skip
  split <;> first | exact ⟨by decide, by decide⟩ | skip
  split <;> first | exact ⟨by simp, by simp⟩ | skip
  split <;> exact ⟨by simp, by simp⟩
theorem flat_le {α β : Type} (g : α → List β) (k : Nat) : ∀ l : List α, (∀ x ∈ l, (g x).length ≤ k) → (l.flatMap g).length ≤ k * l.length
  | [], _ => by simp
  | a :: r, h => by
    have h1 := h a List.mem_cons_self
    have h2 := flat_le g k r fun x hx => h x (List.mem_cons_of_mem _ hx)
    simp only [List.flatMap_cons, List.length_append, List.length_cons, Nat.mul_succ]
    omega
theorem paramsF_snoc (l : List Ty) (i : Nat) (h : i < l.length) : paramsF (l.take (i + 1)) = paramsF (l.take i) ++ ((if i = 0 then [] else [wComma]) ++ kindW (l.getD i ty0)) := by
  cases l with
  | nil => simp at h
  | cons s r =>
    cases i with
    | zero => simp [paramsF]
    | succ i =>
      simp only [List.length_cons] at h
      simp only [List.take_succ_cons, paramsF, List.getD_cons_succ]
      rw [flat_snoc _ r ty0 i (by omega), if_neg (by omega)]
      simp
theorem paramsF_len (l : List Ty) : (paramsF l).length ≤ 4 * l.length := by
  cases l with
  | nil => simp [paramsF]
  | cons s r =>
    have h1 := (kindW_len s).1
    have h2 := flat_le (fun x => wComma :: kindW x) 4 r fun x _ => by have := (kindW_len x).1; simp only [List.length_cons]; omega
    simp only [paramsF, List.length_append, List.length_cons]
    omega
theorem codeF_len (x : Ins) : (codeF x).length ≤ 5 := by
  rw [codeF_eq]
  have h := someW_len ([x.a, x.b].take 2)
  have h2 : (if (numsF x.op).2.2 then [dig x.n] else []).length ≤ 1 := by split <;> simp
  simp only [List.length_append, List.length_cons, List.length_nil] at h ⊢
  simp only [List.take_succ_cons, List.take_zero, List.length_cons, List.length_nil] at h
  simp only [List.take_succ_cons, List.take_zero]
  omega
theorem catF_len (c : Cat) : (catF c).length = 6 := rfl
theorem takeF_le {α β : Type} (g : α → List β) (k : Nat) (hg : ∀ x, (g x).length ≤ k) (l : List α) (i : Nat) : ((l.take i).flatMap g).length ≤ k * l.length := by
  have h1 := flat_le g k (l.take i) fun x _ => hg x
  have h2 : (l.take i).length ≤ l.length := by rw [List.length_take]; omega
  exact Nat.le_trans h1 (Nat.mul_le_mul_left k h2)
theorem Sub.manyEq {T : Type} {sz : Nat} {cs : T → List SV} {d : T} {a b : List T} (h : a = b) : Sub (.many T sz cs d a) (.many T sz cs d b) := by subst h; exact .refl _
def hdM (m : Meth) : List ByteArray := [if m.static then wFunction else wMethod, m.name, wLp]
def doM1 (m : Meth) : List ByteArray := hdM m ++ paramsF m.params ++ [wRp] ++ kindW m.ret
def doM2 (m : Meth) : List ByteArray := doM1 m ++ [wLocals, dig m.locals, wLc]
theorem doesF_abs {m : Meth} (h : m.abs = true) : doesF m = doM1 m ++ [wSemi] := by
  unfold doesF doM1 hdM; rw [if_pos (show m.abs = true from h)]; simp
theorem doesF_code {m : Meth} (h : m.abs = false) : doesF m = doM2 m ++ m.code.flatMap codeF ++ m.catches.flatMap catF ++ [wRc] := by
  unfold doesF doM2 doM1 hdM; rw [if_neg (show ¬ m.abs = true by rw [h]; decide)]; simp
def doesC : Ctr := { A := Meth, enc := fun m => [.agg (methC m)], dom := fun m => methOk m = true, res := fun m id => .own ByteArray 1 strC noS (doesF m) id, gl := tabS }
set_option maxRecDepth 100000 in
set_option maxHeartbeats 4000000 in
theorem does_ok : CtrSound Tryz.prog 40 doesC :=
  ctr_of_ax (env_okB tys_ok (eqs := []) trivial (cs := [(28, kindC), (71, codeC), (70, itoaS)]) ⟨kind_ok, code_ok, itoaS_ok, trivial⟩ (bs := []) trivial (vec := [12]) (gl := tabS) (cut := [4, 12])) mixed _ Tryz.func40 (by kernel_rfl) rfl (fun _ _ => Nat.le_of_ble_eq_true rfl) fun (m : Meth) id hd => by
    have hd : methOk m = true := hd
    obtain ⟨hp1, hp2, hp3, hp4, hp5, hp6, hp7⟩ := meth_parts hd
    have hpl := paramsF_len m.params
    have hkr := kindW_len m.ret
    have hm1 : (doM1 m).length ≤ 100 := by unfold doM1 hdM; simp only [List.length_append, List.length_cons, List.length_nil]; omega
    have hm2 : (doM2 m).length ≤ 103 := by unfold doM2; simp only [List.length_append, List.length_cons, List.length_nil]; omega
    have hcl : ∀ i, ((m.code.take i).flatMap codeF).length ≤ 240 := fun i => by
      have := takeF_le codeF 5 codeF_len m.code i
      have := hp6.1
      omega
    have hkl : ∀ i, ((m.catches.take i).flatMap catF).length ≤ 24 := fun i => by
      have := takeF_le catF 6 (fun c => Nat.le_of_eq (catF_len c)) m.catches i
      have := hp7.1
      omega
    refine ⟨ByteArray, strC, noS, [wMethod, m.name, wLp], ⟨rfl, fun _ => ⟨rfl, rfl, rfl⟩⟩, ⟨.refl _, .refl _, .refl _, trivial⟩, ?_⟩
    refine ⟨Unit, fun _ => [(1, .box 1 0), (3, .arr 12 1 0 3 (some 3))], fun _ => [(1, methC m), (12, [.many ByteArray 1 strC noS (hdM m)])], fun _ => True, ?_, fun _ _ => ?_⟩
    · refine ⟨fun h => ?_, fun h => ?_⟩
      · have h : m.static = true := h
        refine ⟨⟨by decide, by decide⟩, ?_⟩
        refine ⟨⟨Int.le_refl 0, (show (0 : Int) < 3 by decide)⟩, ?_⟩
        refine ⟨wFunction, ⟨.refl _, trivial⟩, ?_⟩
        exact ⟨(), trivial, ⟨rfl, rfl⟩, .refl _, .refl _, ⟨.refl _, .refl _, .refl _, .refl _, .refl _, .refl _, .refl _, .refl _, .refl _, trivial⟩, ⟨.manyEq (by unfold hdM; rw [if_pos h]; rfl), trivial⟩, trivial⟩
      · have h : m.static = false := h
        exact ⟨(), trivial, ⟨rfl, rfl⟩, .refl _, .refl _, ⟨.refl _, .refl _, .refl _, .refl _, .refl _, .refl _, .refl _, .refl _, .refl _, trivial⟩, ⟨.manyEq (by unfold hdM; rw [if_neg (by rw [h]; decide)]), trivial⟩, trivial⟩
    refine ⟨Nat × Bool, fun s => [(1, .box 1 0), (3, cond s.2 (.own ByteArray 1 strC noS (hdM m ++ paramsF (m.params.take s.1)) 33) (.arr 12 1 0 3 (some 3))), (19, I m.params.length), (20, I s.1), (18, .row Ty 2 tyC ty0 m.params)],
      fun s => cond s.2 [(1, methC m)] [(1, methC m), (12, [.many ByteArray 1 strC noS (hdM m)])], fun s => s.1 ≤ m.params.length ∧ (s.2 = false → s.1 = 0), fun s => m.params.length - s.1,
      ⟨(0, false), ⟨Nat.zero_le _, fun _ => rfl⟩, ⟨⟨rfl, rfl⟩, .refl _, .refl _, .refl _, .refl _, .refl _, ⟨.refl _, .refl _, .refl _, .refl _, .refl _, .refl _, .refl _, .refl _, .refl _, trivial⟩, ⟨.refl _, trivial⟩, trivial⟩⟩, fun ((i, b) : Nat × Bool) hi => ?_⟩
    have hi1 : i ≤ m.params.length := hi.1
    have hwj : IntKind.i64.wrap ((i : Int) + 1) = ((i + 1 : Nat) : Int) := by rw [wrap_eq _ (by omega) (by omega)]; omega
    have hbi := paramsF_len (m.params.take i)
    have hti : (m.params.take i).length ≤ 4 := by rw [List.length_take]; omega
    have hki := kindW_len (m.params.getD i ty0)
    cases b
    case false =>
      have h0 : i = 0 := hi.2 rfl
      refine ⟨fun h => ?_, fun h => ?_⟩
      · have hlt : i < m.params.length := by have := of_decide_eq_true h; omega
        have hs := paramsF_snoc m.params i hlt
        rw [if_pos h0] at hs
        refine ⟨⟨by omega, by omega⟩, ?_⟩
        refine ⟨fun h3 => ?_, fun h3 => ?_⟩
        · have h3 := of_decide_eq_true h3
          exact absurd h3 (by omega)
        · refine ⟨m.params.getD i ty0, ⟨.refl _, trivial⟩, rfl, trivial, ?_⟩
          refine .inl ⟨kindW (m.params.getD i ty0), ⟨rfl, Nat.le_refl _, hki.2, .own ..⟩, (show (3 + (kindW (m.params.getD i ty0)).length) * 16 ≤ 140737488355328 by omega), ?_⟩
          exact ⟨(i + 1, true), ⟨hlt, fun c => by cases c⟩, by show m.params.length - (i + 1) < m.params.length - i; omega, ⟨rfl, rfl⟩, .refl _, .ownEq (by rw [hs, h0]; rfl), .refl _, .int hwj, .refl _, ⟨.refl _, .refl _, .refl _, .refl _, .refl _, .refl _, .refl _, .refl _, .refl _, trivial⟩, trivial⟩
      · have hge : m.params.length = 0 := by have := of_decide_eq_false h; omega
        have hnil : m.params = [] := List.length_eq_zero_iff.1 hge
        refine ⟨Unit, fun _ => [(1, .box 1 0), (3, .own ByteArray 1 strC noS (doM1 m) 41)], fun _ => [(1, methC m)], fun _ => True, ?_, fun _ _ => ?_⟩
        · refine ⟨by kernel_rfl, ?_⟩
          refine ⟨ByteArray, strC, noS, [wRp], ⟨rfl, fun _ => rfl⟩, ⟨.refl _, trivial⟩, rfl, ?_⟩
          refine .inl ⟨[wRp], ⟨rfl, Nat.le_refl _, Nat.succ_pos _, .own ..⟩, (show (3 + 1) * 16 ≤ 140737488355328 by omega), ?_⟩
          refine ⟨m.ret, ⟨.refl _, trivial⟩, rfl, trivial, ?_⟩
          refine ⟨ByteArray, strC, noS, hdM m ++ [wRp], kindW m.ret, 37, ⟨.refl _, .own ..⟩, fun _ => rfl, (by unfold hdM; simp only [List.length_append, List.length_cons, List.length_nil]; omega), ?_⟩
          exact ⟨(), trivial, ⟨rfl, rfl⟩, .refl _, .ownEq (by unfold doM1; rw [hnil]; simp [paramsF]), ⟨.refl _, .refl _, .refl _, .refl _, .refl _, .refl _, .refl _, .refl _, .refl _, trivial⟩, trivial⟩
        clear hwj hbi hti hki h hi hi1
        refine ⟨fun ha => ?_, fun ha => ?_⟩
        · refine ⟨ByteArray, strC, noS, [wSemi], ⟨rfl, fun _ => rfl⟩, ⟨.refl _, trivial⟩, rfl, ?_⟩
          refine ⟨ByteArray, strC, noS, doM1 m, [wSemi], 41, ⟨.refl _, .own ..⟩, fun _ => rfl, (by simp only [List.length_cons, List.length_nil]; omega), ?_⟩
          exact ⟨.ownEq (doesF_abs ha).symm, rfl⟩
        · refine ⟨m.locals, ⟨.refl _, trivial⟩, rfl, ⟨by omega, by omega⟩, ?_⟩
          refine ⟨ByteArray, strC, noS, [wLocals, dig m.locals, wLc], ⟨rfl, fun _ => rfl⟩, ⟨.refl _, .refl _, .refl _, trivial⟩, rfl, ?_⟩
          refine ⟨ByteArray, strC, noS, doM1 m, [wLocals, dig m.locals, wLc], 41, ⟨.refl _, .own ..⟩, fun _ => rfl, (by simp only [List.length_cons, List.length_nil]; omega), ?_⟩
          refine ⟨Nat × Bool, fun s => [(1, .box 1 0), (3, .own ByteArray 1 strC noS (doM2 m ++ (m.code.take s.1).flatMap codeF) (cond s.2 63 52)), (55, I m.code.length), (56, I s.1), (54, .row Ins 4 insC ins0 m.code)], fun _ => [(1, methC m)], fun s => s.1 ≤ m.code.length, fun s => m.code.length - s.1,
            ⟨(0, false), Nat.zero_le _, ⟨⟨rfl, rfl⟩, .refl _, .ownEq (by simp [doM2]), .refl _, .refl _, .refl _, ⟨.refl _, .refl _, .refl _, .refl _, .refl _, .refl _, .refl _, .refl _, .refl _, trivial⟩, trivial⟩⟩, fun ((i, b) : Nat × Bool) hi => ?_⟩
          have hi1 : i ≤ m.code.length := hi
          have hwj : IntKind.i64.wrap ((i : Int) + 1) = ((i + 1 : Nat) : Int) := by rw [wrap_eq _ (by omega) (by omega)]; omega
          have hbi := hcl i
          cases b
          case false =>
            refine ⟨fun h => ?_, fun h => ?_⟩
            · have hlt : i < m.code.length := by have := of_decide_eq_true h; omega
              have hs := flat_snoc codeF m.code ins0 i hlt
              have hx := ins_parts (hp6.2 _ (getT_mem m.code ins0 i hlt))
              have hr := nums_R (m.code.getD i ins0).op
              have hcx := codeF_len (m.code.getD i ins0)
              refine ⟨⟨by omega, by omega⟩, ?_⟩
              refine ⟨m.code.getD i ins0, ⟨.refl _, trivial⟩, rfl, ⟨by omega, by omega⟩, ?_⟩
              refine ⟨ByteArray, strC, noS, doM2 m ++ (m.code.take i).flatMap codeF, codeF (m.code.getD i ins0), 52, ⟨.refl _, .own ..⟩, fun _ => rfl, (by simp only [List.length_append]; omega), ?_⟩
              exact ⟨(i + 1, true), hlt, by show m.code.length - (i + 1) < m.code.length - i; omega, ⟨rfl, rfl⟩, .refl _, .ownEq (by rw [hs, List.append_assoc]), .refl _, .int hwj, .refl _, ⟨.refl _, .refl _, .refl _, .refl _, .refl _, .refl _, .refl _, .refl _, .refl _, trivial⟩, trivial⟩
            · have hge : i = m.code.length := by have := of_decide_eq_false h; omega
              have hcb := hcl m.code.length
              rw [List.take_length] at hcb
              clear hwj hbi h hi hi1
              refine ⟨Nat × Bool, fun s => [(3, .own ByteArray 1 strC noS (doM2 m ++ m.code.flatMap codeF ++ (m.catches.take s.1).flatMap catF) (cond s.2 85 52)), (67, I m.catches.length), (68, I s.1), (66, .row Cat 4 catC cat0 m.catches)], fun _ => [], fun s => s.1 ≤ m.catches.length, fun s => m.catches.length - s.1,
                ⟨(0, false), Nat.zero_le _, ⟨⟨rfl, rfl⟩, .ownEq (by rw [hge, List.take_length]; simp), .refl _, .refl _, .refl _, trivial⟩⟩, fun ((i, b) : Nat × Bool) hi => ?_⟩
              have hi1 : i ≤ m.catches.length := hi
              have hwj : IntKind.i64.wrap ((i : Int) + 1) = ((i + 1 : Nat) : Int) := by rw [wrap_eq _ (by omega) (by omega)]; omega
              have hbi := hkl i
              cases b
              case false =>
                refine ⟨fun h => ?_, fun h => ?_⟩
                · have hlt : i < m.catches.length := by have := of_decide_eq_true h; omega
                  have hs := flat_snoc catF m.catches cat0 i hlt
                  have hx := cat_parts (hp7.2 _ (getT_mem m.catches cat0 i hlt))
                  refine ⟨⟨by omega, by omega⟩, ?_⟩
                  refine ⟨by kernel_rfl, ?_⟩
                  refine ⟨(m.catches.getD i cat0).fr, ⟨.refl _, trivial⟩, rfl, ⟨by omega, by omega⟩, ?_⟩
                  refine ⟨(m.catches.getD i cat0).up, ⟨.refl _, trivial⟩, rfl, ⟨by omega, by omega⟩, ?_⟩
                  refine ⟨(m.catches.getD i cat0).at', ⟨.refl _, trivial⟩, rfl, ⟨by omega, by omega⟩, ?_⟩
                  refine ⟨ByteArray, strC, noS, catF (m.catches.getD i cat0), ⟨rfl, fun _ => rfl⟩, ⟨.refl _, .refl _, .refl _, .refl _, .refl _, .refl _, trivial⟩, rfl, ?_⟩
                  refine ⟨ByteArray, strC, noS, doM2 m ++ m.code.flatMap codeF ++ (m.catches.take i).flatMap catF, catF (m.catches.getD i cat0), 52, ⟨.refl _, .own ..⟩, fun _ => rfl, (by simp only [List.length_append, catF_len]; omega), ?_⟩
                  exact ⟨(i + 1, true), hlt, by show m.catches.length - (i + 1) < m.catches.length - i; omega, ⟨rfl, rfl⟩, .ownEq (by rw [hs]; simp), .refl _, .int hwj, .refl _, trivial⟩
                · have hge2 : i = m.catches.length := by have := of_decide_eq_false h; omega
                  refine ⟨ByteArray, strC, noS, [wRc], ⟨rfl, fun _ => rfl⟩, ⟨.refl _, trivial⟩, rfl, ?_⟩
                  refine ⟨ByteArray, strC, noS, doM2 m ++ m.code.flatMap codeF ++ (m.catches.take i).flatMap catF, [wRc], 52, ⟨.refl _, .own ..⟩, fun _ => rfl, (by simp only [List.length_append, List.length_cons, List.length_nil]; omega), ?_⟩
                  exact ⟨.ownEq (by rw [doesF_code ha, hge2, List.take_length]), rfl⟩
              case true =>
                refine ⟨fun h => ?_, fun h => ?_⟩
                · have hlt : i < m.catches.length := by have := of_decide_eq_true h; omega
                  have hs := flat_snoc catF m.catches cat0 i hlt
                  have hx := cat_parts (hp7.2 _ (getT_mem m.catches cat0 i hlt))
                  refine ⟨⟨by omega, by omega⟩, ?_⟩
                  refine ⟨by kernel_rfl, ?_⟩
                  refine ⟨(m.catches.getD i cat0).fr, ⟨.refl _, trivial⟩, rfl, ⟨by omega, by omega⟩, ?_⟩
                  refine ⟨(m.catches.getD i cat0).up, ⟨.refl _, trivial⟩, rfl, ⟨by omega, by omega⟩, ?_⟩
                  refine ⟨(m.catches.getD i cat0).at', ⟨.refl _, trivial⟩, rfl, ⟨by omega, by omega⟩, ?_⟩
                  refine ⟨ByteArray, strC, noS, catF (m.catches.getD i cat0), ⟨rfl, fun _ => rfl⟩, ⟨.refl _, .refl _, .refl _, .refl _, .refl _, .refl _, trivial⟩, rfl, ?_⟩
                  refine ⟨ByteArray, strC, noS, doM2 m ++ m.code.flatMap codeF ++ (m.catches.take i).flatMap catF, catF (m.catches.getD i cat0), 85, ⟨.refl _, .own ..⟩, fun _ => rfl, (by simp only [List.length_append, catF_len]; omega), ?_⟩
                  exact ⟨(i + 1, true), hlt, by show m.catches.length - (i + 1) < m.catches.length - i; omega, ⟨rfl, rfl⟩, .ownEq (by rw [hs]; simp), .refl _, .int hwj, .refl _, trivial⟩
                · have hge2 : i = m.catches.length := by have := of_decide_eq_false h; omega
                  refine ⟨ByteArray, strC, noS, [wRc], ⟨rfl, fun _ => rfl⟩, ⟨.refl _, trivial⟩, rfl, ?_⟩
                  refine ⟨ByteArray, strC, noS, doM2 m ++ m.code.flatMap codeF ++ (m.catches.take i).flatMap catF, [wRc], 85, ⟨.refl _, .own ..⟩, fun _ => rfl, (by simp only [List.length_append, List.length_cons, List.length_nil]; omega), ?_⟩
                  exact ⟨.ownEq (by rw [doesF_code ha, hge2, List.take_length]), rfl⟩
          case true =>
            refine ⟨fun h => ?_, fun h => ?_⟩
            · have hlt : i < m.code.length := by have := of_decide_eq_true h; omega
              have hs := flat_snoc codeF m.code ins0 i hlt
              have hx := ins_parts (hp6.2 _ (getT_mem m.code ins0 i hlt))
              have hr := nums_R (m.code.getD i ins0).op
              have hcx := codeF_len (m.code.getD i ins0)
              refine ⟨⟨by omega, by omega⟩, ?_⟩
              refine ⟨m.code.getD i ins0, ⟨.refl _, trivial⟩, rfl, ⟨by omega, by omega⟩, ?_⟩
              refine ⟨ByteArray, strC, noS, doM2 m ++ (m.code.take i).flatMap codeF, codeF (m.code.getD i ins0), 63, ⟨.refl _, .own ..⟩, fun _ => rfl, (by simp only [List.length_append]; omega), ?_⟩
              exact ⟨(i + 1, true), hlt, by show m.code.length - (i + 1) < m.code.length - i; omega, ⟨rfl, rfl⟩, .refl _, .ownEq (by rw [hs, List.append_assoc]), .refl _, .int hwj, .refl _, ⟨.refl _, .refl _, .refl _, .refl _, .refl _, .refl _, .refl _, .refl _, .refl _, trivial⟩, trivial⟩
            · have hge : i = m.code.length := by have := of_decide_eq_false h; omega
              have hcb := hcl m.code.length
              rw [List.take_length] at hcb
              clear hwj hbi h hi hi1
              refine ⟨Nat × Bool, fun s => [(3, .own ByteArray 1 strC noS (doM2 m ++ m.code.flatMap codeF ++ (m.catches.take s.1).flatMap catF) (cond s.2 85 63)), (67, I m.catches.length), (68, I s.1), (66, .row Cat 4 catC cat0 m.catches)], fun _ => [], fun s => s.1 ≤ m.catches.length, fun s => m.catches.length - s.1,
                ⟨(0, false), Nat.zero_le _, ⟨⟨rfl, rfl⟩, .ownEq (by rw [hge, List.take_length]; simp), .refl _, .refl _, .refl _, trivial⟩⟩, fun ((i, b) : Nat × Bool) hi => ?_⟩
              have hi1 : i ≤ m.catches.length := hi
              have hwj : IntKind.i64.wrap ((i : Int) + 1) = ((i + 1 : Nat) : Int) := by rw [wrap_eq _ (by omega) (by omega)]; omega
              have hbi := hkl i
              cases b
              case false =>
                refine ⟨fun h => ?_, fun h => ?_⟩
                · have hlt : i < m.catches.length := by have := of_decide_eq_true h; omega
                  have hs := flat_snoc catF m.catches cat0 i hlt
                  have hx := cat_parts (hp7.2 _ (getT_mem m.catches cat0 i hlt))
                  refine ⟨⟨by omega, by omega⟩, ?_⟩
                  refine ⟨by kernel_rfl, ?_⟩
                  refine ⟨(m.catches.getD i cat0).fr, ⟨.refl _, trivial⟩, rfl, ⟨by omega, by omega⟩, ?_⟩
                  refine ⟨(m.catches.getD i cat0).up, ⟨.refl _, trivial⟩, rfl, ⟨by omega, by omega⟩, ?_⟩
                  refine ⟨(m.catches.getD i cat0).at', ⟨.refl _, trivial⟩, rfl, ⟨by omega, by omega⟩, ?_⟩
                  refine ⟨ByteArray, strC, noS, catF (m.catches.getD i cat0), ⟨rfl, fun _ => rfl⟩, ⟨.refl _, .refl _, .refl _, .refl _, .refl _, .refl _, trivial⟩, rfl, ?_⟩
                  refine ⟨ByteArray, strC, noS, doM2 m ++ m.code.flatMap codeF ++ (m.catches.take i).flatMap catF, catF (m.catches.getD i cat0), 63, ⟨.refl _, .own ..⟩, fun _ => rfl, (by simp only [List.length_append, catF_len]; omega), ?_⟩
                  exact ⟨(i + 1, true), hlt, by show m.catches.length - (i + 1) < m.catches.length - i; omega, ⟨rfl, rfl⟩, .ownEq (by rw [hs]; simp), .refl _, .int hwj, .refl _, trivial⟩
                · have hge2 : i = m.catches.length := by have := of_decide_eq_false h; omega
                  refine ⟨ByteArray, strC, noS, [wRc], ⟨rfl, fun _ => rfl⟩, ⟨.refl _, trivial⟩, rfl, ?_⟩
                  refine ⟨ByteArray, strC, noS, doM2 m ++ m.code.flatMap codeF ++ (m.catches.take i).flatMap catF, [wRc], 63, ⟨.refl _, .own ..⟩, fun _ => rfl, (by simp only [List.length_append, List.length_cons, List.length_nil]; omega), ?_⟩
                  exact ⟨.ownEq (by rw [doesF_code ha, hge2, List.take_length]), rfl⟩
              case true =>
                refine ⟨fun h => ?_, fun h => ?_⟩
                · have hlt : i < m.catches.length := by have := of_decide_eq_true h; omega
                  have hs := flat_snoc catF m.catches cat0 i hlt
                  have hx := cat_parts (hp7.2 _ (getT_mem m.catches cat0 i hlt))
                  refine ⟨⟨by omega, by omega⟩, ?_⟩
                  refine ⟨by kernel_rfl, ?_⟩
                  refine ⟨(m.catches.getD i cat0).fr, ⟨.refl _, trivial⟩, rfl, ⟨by omega, by omega⟩, ?_⟩
                  refine ⟨(m.catches.getD i cat0).up, ⟨.refl _, trivial⟩, rfl, ⟨by omega, by omega⟩, ?_⟩
                  refine ⟨(m.catches.getD i cat0).at', ⟨.refl _, trivial⟩, rfl, ⟨by omega, by omega⟩, ?_⟩
                  refine ⟨ByteArray, strC, noS, catF (m.catches.getD i cat0), ⟨rfl, fun _ => rfl⟩, ⟨.refl _, .refl _, .refl _, .refl _, .refl _, .refl _, trivial⟩, rfl, ?_⟩
                  refine ⟨ByteArray, strC, noS, doM2 m ++ m.code.flatMap codeF ++ (m.catches.take i).flatMap catF, catF (m.catches.getD i cat0), 85, ⟨.refl _, .own ..⟩, fun _ => rfl, (by simp only [List.length_append, catF_len]; omega), ?_⟩
                  exact ⟨(i + 1, true), hlt, by show m.catches.length - (i + 1) < m.catches.length - i; omega, ⟨rfl, rfl⟩, .ownEq (by rw [hs]; simp), .refl _, .int hwj, .refl _, trivial⟩
                · have hge2 : i = m.catches.length := by have := of_decide_eq_false h; omega
                  refine ⟨ByteArray, strC, noS, [wRc], ⟨rfl, fun _ => rfl⟩, ⟨.refl _, trivial⟩, rfl, ?_⟩
                  refine ⟨ByteArray, strC, noS, doM2 m ++ m.code.flatMap codeF ++ (m.catches.take i).flatMap catF, [wRc], 85, ⟨.refl _, .own ..⟩, fun _ => rfl, (by simp only [List.length_append, List.length_cons, List.length_nil]; omega), ?_⟩
                  exact ⟨.ownEq (by rw [doesF_code ha, hge2, List.take_length]), rfl⟩
    case true =>
      refine ⟨fun h => ?_, fun h => ?_⟩
      · have hlt : i < m.params.length := by have := of_decide_eq_true h; omega
        have hs := paramsF_snoc m.params i hlt
        refine ⟨⟨by omega, by omega⟩, ?_⟩
        refine ⟨fun h3 => ?_, fun h3 => ?_⟩
        · have h3 := of_decide_eq_true h3
          rw [if_neg (by omega)] at hs
          refine ⟨ByteArray, strC, noS, [wComma], ⟨rfl, fun _ => rfl⟩, ⟨.refl _, trivial⟩, rfl, ?_⟩
          refine ⟨ByteArray, strC, noS, hdM m ++ paramsF (m.params.take i), [wComma], 33, ⟨.refl _, .own ..⟩, fun _ => rfl, (by unfold hdM; simp only [List.length_append, List.length_cons, List.length_nil]; omega), ?_⟩
          refine ⟨m.params.getD i ty0, ⟨.refl _, trivial⟩, rfl, trivial, ?_⟩
          refine ⟨ByteArray, strC, noS, hdM m ++ paramsF (m.params.take i) ++ [wComma], kindW (m.params.getD i ty0), 29, ⟨.refl _, .own ..⟩, fun _ => rfl, (by unfold hdM; simp only [List.length_append, List.length_cons, List.length_nil]; omega), ?_⟩
          exact ⟨(i + 1, true), ⟨hlt, fun c => by cases c⟩, by show m.params.length - (i + 1) < m.params.length - i; omega, ⟨rfl, rfl⟩, .refl _, .ownEq (by rw [hs]; simp), .refl _, .int hwj, .refl _, ⟨.refl _, .refl _, .refl _, .refl _, .refl _, .refl _, .refl _, .refl _, .refl _, trivial⟩, trivial⟩
        · have h3 := of_decide_eq_false h3
          rw [if_pos (by omega)] at hs
          refine ⟨m.params.getD i ty0, ⟨.refl _, trivial⟩, rfl, trivial, ?_⟩
          refine ⟨ByteArray, strC, noS, hdM m ++ paramsF (m.params.take i), kindW (m.params.getD i ty0), 33, ⟨.refl _, .own ..⟩, fun _ => rfl, (by unfold hdM; simp only [List.length_append, List.length_cons, List.length_nil]; omega), ?_⟩
          exact ⟨(i + 1, true), ⟨hlt, fun c => by cases c⟩, by show m.params.length - (i + 1) < m.params.length - i; omega, ⟨rfl, rfl⟩, .refl _, .ownEq (by rw [hs]; simp), .refl _, .int hwj, .refl _, ⟨.refl _, .refl _, .refl _, .refl _, .refl _, .refl _, .refl _, .refl _, .refl _, trivial⟩, trivial⟩
      · have hge : i = m.params.length := by have := of_decide_eq_false h; omega
        refine ⟨Unit, fun _ => [(1, .box 1 0), (3, .own ByteArray 1 strC noS (doM1 m) 41)], fun _ => [(1, methC m)], fun _ => True, ?_, fun _ _ => ?_⟩
        · refine ⟨by kernel_rfl, ?_⟩
          refine ⟨ByteArray, strC, noS, [wRp], ⟨rfl, fun _ => rfl⟩, ⟨.refl _, trivial⟩, rfl, ?_⟩
          refine ⟨ByteArray, strC, noS, hdM m ++ paramsF (m.params.take i), [wRp], 33, ⟨.refl _, .own ..⟩, fun _ => rfl, (by unfold hdM; simp only [List.length_append, List.length_cons, List.length_nil]; omega), ?_⟩
          refine ⟨m.ret, ⟨.refl _, trivial⟩, rfl, trivial, ?_⟩
          refine ⟨ByteArray, strC, noS, hdM m ++ paramsF (m.params.take i) ++ [wRp], kindW m.ret, 37, ⟨.refl _, .own ..⟩, fun _ => rfl, (by unfold hdM; simp only [List.length_append, List.length_cons, List.length_nil]; omega), ?_⟩
          exact ⟨(), trivial, ⟨rfl, rfl⟩, .refl _, .ownEq (by unfold doM1; rw [hge, List.take_length]), ⟨.refl _, .refl _, .refl _, .refl _, .refl _, .refl _, .refl _, .refl _, .refl _, trivial⟩, trivial⟩
        clear hwj hbi hti hki h hi hi1
        refine ⟨fun ha => ?_, fun ha => ?_⟩
        · refine ⟨ByteArray, strC, noS, [wSemi], ⟨rfl, fun _ => rfl⟩, ⟨.refl _, trivial⟩, rfl, ?_⟩
          refine ⟨ByteArray, strC, noS, doM1 m, [wSemi], 41, ⟨.refl _, .own ..⟩, fun _ => rfl, (by simp only [List.length_cons, List.length_nil]; omega), ?_⟩
          exact ⟨.ownEq (doesF_abs ha).symm, rfl⟩
        · refine ⟨m.locals, ⟨.refl _, trivial⟩, rfl, ⟨by omega, by omega⟩, ?_⟩
          refine ⟨ByteArray, strC, noS, [wLocals, dig m.locals, wLc], ⟨rfl, fun _ => rfl⟩, ⟨.refl _, .refl _, .refl _, trivial⟩, rfl, ?_⟩
          refine ⟨ByteArray, strC, noS, doM1 m, [wLocals, dig m.locals, wLc], 41, ⟨.refl _, .own ..⟩, fun _ => rfl, (by simp only [List.length_cons, List.length_nil]; omega), ?_⟩
          refine ⟨Nat × Bool, fun s => [(1, .box 1 0), (3, .own ByteArray 1 strC noS (doM2 m ++ (m.code.take s.1).flatMap codeF) (cond s.2 63 52)), (55, I m.code.length), (56, I s.1), (54, .row Ins 4 insC ins0 m.code)], fun _ => [(1, methC m)], fun s => s.1 ≤ m.code.length, fun s => m.code.length - s.1,
            ⟨(0, false), Nat.zero_le _, ⟨⟨rfl, rfl⟩, .refl _, .ownEq (by simp [doM2]), .refl _, .refl _, .refl _, ⟨.refl _, .refl _, .refl _, .refl _, .refl _, .refl _, .refl _, .refl _, .refl _, trivial⟩, trivial⟩⟩, fun ((i, b) : Nat × Bool) hi => ?_⟩
          have hi1 : i ≤ m.code.length := hi
          have hwj : IntKind.i64.wrap ((i : Int) + 1) = ((i + 1 : Nat) : Int) := by rw [wrap_eq _ (by omega) (by omega)]; omega
          have hbi := hcl i
          cases b
          case false =>
            refine ⟨fun h => ?_, fun h => ?_⟩
            · have hlt : i < m.code.length := by have := of_decide_eq_true h; omega
              have hs := flat_snoc codeF m.code ins0 i hlt
              have hx := ins_parts (hp6.2 _ (getT_mem m.code ins0 i hlt))
              have hr := nums_R (m.code.getD i ins0).op
              have hcx := codeF_len (m.code.getD i ins0)
              refine ⟨⟨by omega, by omega⟩, ?_⟩
              refine ⟨m.code.getD i ins0, ⟨.refl _, trivial⟩, rfl, ⟨by omega, by omega⟩, ?_⟩
              refine ⟨ByteArray, strC, noS, doM2 m ++ (m.code.take i).flatMap codeF, codeF (m.code.getD i ins0), 52, ⟨.refl _, .own ..⟩, fun _ => rfl, (by simp only [List.length_append]; omega), ?_⟩
              exact ⟨(i + 1, true), hlt, by show m.code.length - (i + 1) < m.code.length - i; omega, ⟨rfl, rfl⟩, .refl _, .ownEq (by rw [hs, List.append_assoc]), .refl _, .int hwj, .refl _, ⟨.refl _, .refl _, .refl _, .refl _, .refl _, .refl _, .refl _, .refl _, .refl _, trivial⟩, trivial⟩
            · have hge : i = m.code.length := by have := of_decide_eq_false h; omega
              have hcb := hcl m.code.length
              rw [List.take_length] at hcb
              clear hwj hbi h hi hi1
              refine ⟨Nat × Bool, fun s => [(3, .own ByteArray 1 strC noS (doM2 m ++ m.code.flatMap codeF ++ (m.catches.take s.1).flatMap catF) (cond s.2 85 52)), (67, I m.catches.length), (68, I s.1), (66, .row Cat 4 catC cat0 m.catches)], fun _ => [], fun s => s.1 ≤ m.catches.length, fun s => m.catches.length - s.1,
                ⟨(0, false), Nat.zero_le _, ⟨⟨rfl, rfl⟩, .ownEq (by rw [hge, List.take_length]; simp), .refl _, .refl _, .refl _, trivial⟩⟩, fun ((i, b) : Nat × Bool) hi => ?_⟩
              have hi1 : i ≤ m.catches.length := hi
              have hwj : IntKind.i64.wrap ((i : Int) + 1) = ((i + 1 : Nat) : Int) := by rw [wrap_eq _ (by omega) (by omega)]; omega
              have hbi := hkl i
              cases b
              case false =>
                refine ⟨fun h => ?_, fun h => ?_⟩
                · have hlt : i < m.catches.length := by have := of_decide_eq_true h; omega
                  have hs := flat_snoc catF m.catches cat0 i hlt
                  have hx := cat_parts (hp7.2 _ (getT_mem m.catches cat0 i hlt))
                  refine ⟨⟨by omega, by omega⟩, ?_⟩
                  refine ⟨by kernel_rfl, ?_⟩
                  refine ⟨(m.catches.getD i cat0).fr, ⟨.refl _, trivial⟩, rfl, ⟨by omega, by omega⟩, ?_⟩
                  refine ⟨(m.catches.getD i cat0).up, ⟨.refl _, trivial⟩, rfl, ⟨by omega, by omega⟩, ?_⟩
                  refine ⟨(m.catches.getD i cat0).at', ⟨.refl _, trivial⟩, rfl, ⟨by omega, by omega⟩, ?_⟩
                  refine ⟨ByteArray, strC, noS, catF (m.catches.getD i cat0), ⟨rfl, fun _ => rfl⟩, ⟨.refl _, .refl _, .refl _, .refl _, .refl _, .refl _, trivial⟩, rfl, ?_⟩
                  refine ⟨ByteArray, strC, noS, doM2 m ++ m.code.flatMap codeF ++ (m.catches.take i).flatMap catF, catF (m.catches.getD i cat0), 52, ⟨.refl _, .own ..⟩, fun _ => rfl, (by simp only [List.length_append, catF_len]; omega), ?_⟩
                  exact ⟨(i + 1, true), hlt, by show m.catches.length - (i + 1) < m.catches.length - i; omega, ⟨rfl, rfl⟩, .ownEq (by rw [hs]; simp), .refl _, .int hwj, .refl _, trivial⟩
                · have hge2 : i = m.catches.length := by have := of_decide_eq_false h; omega
                  refine ⟨ByteArray, strC, noS, [wRc], ⟨rfl, fun _ => rfl⟩, ⟨.refl _, trivial⟩, rfl, ?_⟩
                  refine ⟨ByteArray, strC, noS, doM2 m ++ m.code.flatMap codeF ++ (m.catches.take i).flatMap catF, [wRc], 52, ⟨.refl _, .own ..⟩, fun _ => rfl, (by simp only [List.length_append, List.length_cons, List.length_nil]; omega), ?_⟩
                  exact ⟨.ownEq (by rw [doesF_code ha, hge2, List.take_length]), rfl⟩
              case true =>
                refine ⟨fun h => ?_, fun h => ?_⟩
                · have hlt : i < m.catches.length := by have := of_decide_eq_true h; omega
                  have hs := flat_snoc catF m.catches cat0 i hlt
                  have hx := cat_parts (hp7.2 _ (getT_mem m.catches cat0 i hlt))
                  refine ⟨⟨by omega, by omega⟩, ?_⟩
                  refine ⟨by kernel_rfl, ?_⟩
                  refine ⟨(m.catches.getD i cat0).fr, ⟨.refl _, trivial⟩, rfl, ⟨by omega, by omega⟩, ?_⟩
                  refine ⟨(m.catches.getD i cat0).up, ⟨.refl _, trivial⟩, rfl, ⟨by omega, by omega⟩, ?_⟩
                  refine ⟨(m.catches.getD i cat0).at', ⟨.refl _, trivial⟩, rfl, ⟨by omega, by omega⟩, ?_⟩
                  refine ⟨ByteArray, strC, noS, catF (m.catches.getD i cat0), ⟨rfl, fun _ => rfl⟩, ⟨.refl _, .refl _, .refl _, .refl _, .refl _, .refl _, trivial⟩, rfl, ?_⟩
                  refine ⟨ByteArray, strC, noS, doM2 m ++ m.code.flatMap codeF ++ (m.catches.take i).flatMap catF, catF (m.catches.getD i cat0), 85, ⟨.refl _, .own ..⟩, fun _ => rfl, (by simp only [List.length_append, catF_len]; omega), ?_⟩
                  exact ⟨(i + 1, true), hlt, by show m.catches.length - (i + 1) < m.catches.length - i; omega, ⟨rfl, rfl⟩, .ownEq (by rw [hs]; simp), .refl _, .int hwj, .refl _, trivial⟩
                · have hge2 : i = m.catches.length := by have := of_decide_eq_false h; omega
                  refine ⟨ByteArray, strC, noS, [wRc], ⟨rfl, fun _ => rfl⟩, ⟨.refl _, trivial⟩, rfl, ?_⟩
                  refine ⟨ByteArray, strC, noS, doM2 m ++ m.code.flatMap codeF ++ (m.catches.take i).flatMap catF, [wRc], 85, ⟨.refl _, .own ..⟩, fun _ => rfl, (by simp only [List.length_append, List.length_cons, List.length_nil]; omega), ?_⟩
                  exact ⟨.ownEq (by rw [doesF_code ha, hge2, List.take_length]), rfl⟩
          case true =>
            refine ⟨fun h => ?_, fun h => ?_⟩
            · have hlt : i < m.code.length := by have := of_decide_eq_true h; omega
              have hs := flat_snoc codeF m.code ins0 i hlt
              have hx := ins_parts (hp6.2 _ (getT_mem m.code ins0 i hlt))
              have hr := nums_R (m.code.getD i ins0).op
              have hcx := codeF_len (m.code.getD i ins0)
              refine ⟨⟨by omega, by omega⟩, ?_⟩
              refine ⟨m.code.getD i ins0, ⟨.refl _, trivial⟩, rfl, ⟨by omega, by omega⟩, ?_⟩
              refine ⟨ByteArray, strC, noS, doM2 m ++ (m.code.take i).flatMap codeF, codeF (m.code.getD i ins0), 63, ⟨.refl _, .own ..⟩, fun _ => rfl, (by simp only [List.length_append]; omega), ?_⟩
              exact ⟨(i + 1, true), hlt, by show m.code.length - (i + 1) < m.code.length - i; omega, ⟨rfl, rfl⟩, .refl _, .ownEq (by rw [hs, List.append_assoc]), .refl _, .int hwj, .refl _, ⟨.refl _, .refl _, .refl _, .refl _, .refl _, .refl _, .refl _, .refl _, .refl _, trivial⟩, trivial⟩
            · have hge : i = m.code.length := by have := of_decide_eq_false h; omega
              have hcb := hcl m.code.length
              rw [List.take_length] at hcb
              clear hwj hbi h hi hi1
              refine ⟨Nat × Bool, fun s => [(3, .own ByteArray 1 strC noS (doM2 m ++ m.code.flatMap codeF ++ (m.catches.take s.1).flatMap catF) (cond s.2 85 63)), (67, I m.catches.length), (68, I s.1), (66, .row Cat 4 catC cat0 m.catches)], fun _ => [], fun s => s.1 ≤ m.catches.length, fun s => m.catches.length - s.1,
                ⟨(0, false), Nat.zero_le _, ⟨⟨rfl, rfl⟩, .ownEq (by rw [hge, List.take_length]; simp), .refl _, .refl _, .refl _, trivial⟩⟩, fun ((i, b) : Nat × Bool) hi => ?_⟩
              have hi1 : i ≤ m.catches.length := hi
              have hwj : IntKind.i64.wrap ((i : Int) + 1) = ((i + 1 : Nat) : Int) := by rw [wrap_eq _ (by omega) (by omega)]; omega
              have hbi := hkl i
              cases b
              case false =>
                refine ⟨fun h => ?_, fun h => ?_⟩
                · have hlt : i < m.catches.length := by have := of_decide_eq_true h; omega
                  have hs := flat_snoc catF m.catches cat0 i hlt
                  have hx := cat_parts (hp7.2 _ (getT_mem m.catches cat0 i hlt))
                  refine ⟨⟨by omega, by omega⟩, ?_⟩
                  refine ⟨by kernel_rfl, ?_⟩
                  refine ⟨(m.catches.getD i cat0).fr, ⟨.refl _, trivial⟩, rfl, ⟨by omega, by omega⟩, ?_⟩
                  refine ⟨(m.catches.getD i cat0).up, ⟨.refl _, trivial⟩, rfl, ⟨by omega, by omega⟩, ?_⟩
                  refine ⟨(m.catches.getD i cat0).at', ⟨.refl _, trivial⟩, rfl, ⟨by omega, by omega⟩, ?_⟩
                  refine ⟨ByteArray, strC, noS, catF (m.catches.getD i cat0), ⟨rfl, fun _ => rfl⟩, ⟨.refl _, .refl _, .refl _, .refl _, .refl _, .refl _, trivial⟩, rfl, ?_⟩
                  refine ⟨ByteArray, strC, noS, doM2 m ++ m.code.flatMap codeF ++ (m.catches.take i).flatMap catF, catF (m.catches.getD i cat0), 63, ⟨.refl _, .own ..⟩, fun _ => rfl, (by simp only [List.length_append, catF_len]; omega), ?_⟩
                  exact ⟨(i + 1, true), hlt, by show m.catches.length - (i + 1) < m.catches.length - i; omega, ⟨rfl, rfl⟩, .ownEq (by rw [hs]; simp), .refl _, .int hwj, .refl _, trivial⟩
                · have hge2 : i = m.catches.length := by have := of_decide_eq_false h; omega
                  refine ⟨ByteArray, strC, noS, [wRc], ⟨rfl, fun _ => rfl⟩, ⟨.refl _, trivial⟩, rfl, ?_⟩
                  refine ⟨ByteArray, strC, noS, doM2 m ++ m.code.flatMap codeF ++ (m.catches.take i).flatMap catF, [wRc], 63, ⟨.refl _, .own ..⟩, fun _ => rfl, (by simp only [List.length_append, List.length_cons, List.length_nil]; omega), ?_⟩
                  exact ⟨.ownEq (by rw [doesF_code ha, hge2, List.take_length]), rfl⟩
              case true =>
                refine ⟨fun h => ?_, fun h => ?_⟩
                · have hlt : i < m.catches.length := by have := of_decide_eq_true h; omega
                  have hs := flat_snoc catF m.catches cat0 i hlt
                  have hx := cat_parts (hp7.2 _ (getT_mem m.catches cat0 i hlt))
                  refine ⟨⟨by omega, by omega⟩, ?_⟩
                  refine ⟨by kernel_rfl, ?_⟩
                  refine ⟨(m.catches.getD i cat0).fr, ⟨.refl _, trivial⟩, rfl, ⟨by omega, by omega⟩, ?_⟩
                  refine ⟨(m.catches.getD i cat0).up, ⟨.refl _, trivial⟩, rfl, ⟨by omega, by omega⟩, ?_⟩
                  refine ⟨(m.catches.getD i cat0).at', ⟨.refl _, trivial⟩, rfl, ⟨by omega, by omega⟩, ?_⟩
                  refine ⟨ByteArray, strC, noS, catF (m.catches.getD i cat0), ⟨rfl, fun _ => rfl⟩, ⟨.refl _, .refl _, .refl _, .refl _, .refl _, .refl _, trivial⟩, rfl, ?_⟩
                  refine ⟨ByteArray, strC, noS, doM2 m ++ m.code.flatMap codeF ++ (m.catches.take i).flatMap catF, catF (m.catches.getD i cat0), 85, ⟨.refl _, .own ..⟩, fun _ => rfl, (by simp only [List.length_append, catF_len]; omega), ?_⟩
                  exact ⟨(i + 1, true), hlt, by show m.catches.length - (i + 1) < m.catches.length - i; omega, ⟨rfl, rfl⟩, .ownEq (by rw [hs]; simp), .refl _, .int hwj, .refl _, trivial⟩
                · have hge2 : i = m.catches.length := by have := of_decide_eq_false h; omega
                  refine ⟨ByteArray, strC, noS, [wRc], ⟨rfl, fun _ => rfl⟩, ⟨.refl _, trivial⟩, rfl, ?_⟩
                  refine ⟨ByteArray, strC, noS, doM2 m ++ m.code.flatMap codeF ++ (m.catches.take i).flatMap catF, [wRc], 85, ⟨.refl _, .own ..⟩, fun _ => rfl, (by simp only [List.length_append, List.length_cons, List.length_nil]; omega), ?_⟩
                  exact ⟨.ownEq (by rw [doesF_code ha, hge2, List.take_length]), rfl⟩
end Go.Proofs.YtadimoijlgmecaaGreatDoor.Ax
/- Layer show: the words of classes. PRINTED by wip/sp/sn.py. -/
set_option linter.unusedVariables false
set_option linter.unusedSimpArgs false
namespace Go.Proofs.YtadimoijlgmecaaGreatDoor.Ax
open Go Go.RowKit
theorem does_len {m : Meth} (h : methOk m = true) : (doesF m).length ≤ 400 := by
  obtain ⟨hp1, hp2, hp3, hp4, hp5, hp6, hp7⟩ := meth_parts h
  have hpl := paramsF_len m.params
  have hkr := kindW_len m.ret
  have hm1 : (doM1 m).length ≤ 100 := by unfold doM1 hdM; simp only [List.length_append, List.length_cons, List.length_nil]; omega
  have hm2 : (doM2 m).length ≤ 103 := by unfold doM2; simp only [List.length_append, List.length_cons, List.length_nil]; omega
  have h1 := flat_le codeF 5 m.code fun x _ => codeF_len x
  have h2 := flat_le catF 6 m.catches fun c _ => Nat.le_of_eq (catF_len c)
  have h3 := hp6.1
  have h4 := hp7.1
  cases ha : m.abs with
  | true => rw [doesF_abs ha]; simp only [List.length_append, List.length_cons, List.length_nil]; omega
  | false => rw [doesF_code ha]; simp only [List.length_append, List.length_cons, List.length_nil]; omega
theorem fldF_len (f : Fld) : (fldF f).length ≤ 7 := by
  have := kindW_len f.type
  unfold fldF; simp only [List.length_append, List.length_cons, List.length_nil]; omega
theorem takeM_le (l : List Meth) (h : ∀ m ∈ l, methOk m = true) (i : Nat) : ((l.take i).flatMap doesF).length ≤ 400 * l.length := by
  have h1 := flat_le doesF 400 (l.take i) fun x hx => does_len (h x (List.mem_of_mem_take hx))
  have h2 : (l.take i).length ≤ l.length := by rw [List.length_take]; omega
  exact Nat.le_trans h1 (Nat.mul_le_mul_left 400 h2)
def hdC (c : Cls) : List ByteArray := [if c.iface then wInterface else wClass, c.name]
def supC (c : Cls) : List ByteArray := if c.super = noS then [] else [wExtends, c.super]
def lstC (c : Cls) : List ByteArray := listF (if c.iface then wExtends else wImplements) c.ifaces
def doC1 (c : Cls) : List ByteArray := hdC c ++ supC c ++ lstC c ++ [wLc]
theorem wordsC_eq (c : Cls) : wordsC c = doC1 c ++ c.fields.flatMap fldF ++ c.methods.flatMap doesF ++ [wRc] := by
  unfold wordsC doC1 hdC supC lstC; simp
def wordsK : Ctr := { A := Cls, enc := fun c => [.agg (clsC c)], dom := fun c => clsOk c = true, res := fun c id => .own ByteArray 1 strC noS (wordsC c) id, gl := tabS }
set_option maxRecDepth 100000 in
set_option maxHeartbeats 8000000 in
theorem words_ok : CtrSound Tryz.prog 21 wordsK :=
  ctr_of_ax (env_okB tys_ok (eqs := []) trivial (cs := [(28, kindC), (40, doesC), (39, listC)]) ⟨kind_ok, does_ok, list_ok, trivial⟩ (bs := []) trivial (vec := [12]) (gl := tabS) (cut := [4]) (sq := [800052])) mixed _ Tryz.func21 (by kernel_rfl) rfl (fun _ _ => Nat.le_of_ble_eq_true rfl) fun (c : Cls) id hd => by
    have hd : clsOk c = true := hd
    obtain ⟨hp1, hp2, hp3, hp4, hp5⟩ := cls_parts hd
    have hll := listF_len (if c.iface then wExtends else wImplements) c.ifaces
    have hsl : (supC c).length ≤ 2 := by unfold supC; split <;> simp
    have hl3 := hp3.1
    have hm1 : (doC1 c).length ≤ 20 := by unfold doC1 hdC lstC; simp only [List.length_append, List.length_cons, List.length_nil]; omega
    have hfl : ∀ i, ((c.fields.take i).flatMap fldF).length ≤ 42 := fun i => by
      have := takeF_le fldF 7 fldF_len c.fields i
      have := hp4.1
      omega
    have hml : ∀ i, ((c.methods.take i).flatMap doesF).length ≤ 2400 := fun i => by
      have := takeM_le c.methods hp5.2 i
      have := hp5.1
      omega
    have hns : (!(c.super.toList == (⟨#[]⟩ : ByteArray).toList)) = !decide (c.super = noS) := by rw [ba_eq]
    refine ⟨ByteArray, strC, noS, [wClass, c.name], ⟨rfl, fun _ => ⟨rfl, rfl, rfl⟩⟩, ⟨.refl _, .refl _, trivial⟩, ?_⟩
    refine ⟨Unit, fun _ => [(1, .box 1 0), (3, .arr 12 1 0 2 (some 2)), (4, S (if c.iface then wExtends else wImplements))], fun _ => [(1, clsC c), (12, [.many ByteArray 1 strC noS (hdC c)])], fun _ => True, ?_, fun _ _ => ?_⟩
    · refine ⟨fun h => ?_, fun h => ?_⟩
      · have h : c.iface = true := h
        refine ⟨⟨by decide, by decide⟩, ?_⟩
        refine ⟨⟨Int.le_refl 0, (show (0 : Int) < 2 by decide)⟩, ?_⟩
        refine ⟨wInterface, ⟨.refl _, trivial⟩, ?_⟩
        exact ⟨(), trivial, ⟨rfl, rfl⟩, .refl _, .refl _, .str (by rw [if_pos h]; rfl), ⟨.refl _, .refl _, .refl _, .refl _, .refl _, .refl _, trivial⟩, ⟨.manyEq (by unfold hdC; rw [if_pos h]; rfl), trivial⟩, trivial⟩
      · have h : c.iface = false := h
        exact ⟨(), trivial, ⟨rfl, rfl⟩, .refl _, .refl _, .str (by rw [if_neg (by rw [h]; decide)]; rfl), ⟨.refl _, .refl _, .refl _, .refl _, .refl _, .refl _, trivial⟩, ⟨.manyEq (by unfold hdC; rw [if_neg (by rw [h]; decide)]), trivial⟩, trivial⟩
    refine ⟨fun hs => ?_, fun hs => ?_⟩
    · have hs : supC c = [wExtends, c.super] := by
        have hs : (!(c.super.toList == (⟨#[]⟩ : ByteArray).toList)) = true := hs
        rw [hns] at hs
        unfold supC; rw [if_neg (by simpa using hs)]
      refine ⟨ByteArray, strC, noS, [wExtends, c.super], ⟨rfl, fun _ => rfl⟩, ⟨.refl _, .refl _, trivial⟩, rfl, ?_⟩
      refine .inl ⟨[wExtends, c.super], ⟨rfl, Nat.le_refl _, Nat.succ_pos _, .own ..⟩, (show (2 + 2) * 16 ≤ 140737488355328 by omega), ?_⟩
      refine ⟨(if c.iface then wExtends else wImplements, c.ifaces), ⟨.refl _, .refl _, trivial⟩, rfl, (show c.ifaces.length ≤ 100000 by omega), ?_⟩
      refine ⟨ByteArray, strC, noS, hdC c ++ [wExtends, c.super], lstC c, 24, ⟨.refl _, .own ..⟩, fun _ => rfl, (by unfold hdC lstC; simp only [List.length_append, List.length_cons, List.length_nil]; omega), ?_⟩
      refine ⟨ByteArray, strC, noS, [wLc], ⟨rfl, fun _ => rfl⟩, ⟨.refl _, trivial⟩, rfl, ?_⟩
      refine ⟨ByteArray, strC, noS, hdC c ++ [wExtends, c.super] ++ lstC c, [wLc], 30, ⟨.refl _, .own ..⟩, fun _ => rfl, (by unfold hdC lstC; simp only [List.length_append, List.length_cons, List.length_nil]; omega), ?_⟩
      have hdo : hdC c ++ [wExtends, c.super] ++ lstC c ++ [wLc] = doC1 c := by unfold doC1; rw [hs]
      refine ⟨Nat × Bool, fun s => [(1, .box 1 0), (3, .own ByteArray 1 strC noS (doC1 c ++ (c.fields.take s.1).flatMap fldF) (cond s.2 53 32)), (35, I c.fields.length), (36, I s.1), (34, .row Fld 4 fldC fld0 c.fields)], fun _ => [(1, clsC c)], fun s => s.1 ≤ c.fields.length, fun s => c.fields.length - s.1,
        ⟨(0, false), Nat.zero_le _, ⟨⟨rfl, rfl⟩, .refl _, .ownEq (by rw [← hdo]; simp [hdC]), .refl _, .refl _, .refl _, ⟨.refl _, .refl _, .refl _, .refl _, .refl _, .refl _, trivial⟩, trivial⟩⟩, fun ((i, b) : Nat × Bool) hi => ?_⟩
      have hi1 : i ≤ c.fields.length := hi
      have hwj : IntKind.i64.wrap ((i : Int) + 1) = ((i + 1 : Nat) : Int) := by rw [wrap_eq _ (by omega) (by omega)]; omega
      have hbi := hfl i
      cases b
      case false =>
        refine ⟨fun h => ?_, fun h => ?_⟩
        · have hlt : i < c.fields.length := by have := of_decide_eq_true h; omega
          have hs := flat_snoc fldF c.fields fld0 i hlt
          have hk := kindW_len (c.fields.getD i fld0).type
          refine ⟨⟨by omega, by omega⟩, ?_⟩
          refine ⟨fun h3 => ?_, fun h3 => ?_⟩
          · have h3 : (c.fields.getD i fld0).static = true := h3
            have hf : fldF (c.fields.getD i fld0) = [wStatic, (c.fields.getD i fld0).name, wColon] ++ (kindW (c.fields.getD i fld0).type ++ [wSemi]) := by unfold fldF; rw [if_pos h3]
            refine ⟨by kernel_rfl, ?_⟩
            refine ⟨ByteArray, strC, noS, [wStatic, (c.fields.getD i fld0).name, wColon], ⟨rfl, fun _ => rfl⟩, ⟨.refl _, .refl _, .refl _, trivial⟩, rfl, ?_⟩
            refine ⟨ByteArray, strC, noS, doC1 c ++ (c.fields.take i).flatMap fldF, [wStatic, (c.fields.getD i fld0).name, wColon], 32, ⟨.refl _, .own ..⟩, fun _ => rfl, (by simp only [List.length_append, List.length_cons, List.length_nil]; omega), ?_⟩
            refine ⟨(c.fields.getD i fld0).type, ⟨.refl _, trivial⟩, rfl, trivial, ?_⟩
            refine ⟨ByteArray, strC, noS, doC1 c ++ (c.fields.take i).flatMap fldF ++ [wStatic, (c.fields.getD i fld0).name, wColon], kindW (c.fields.getD i fld0).type, 47, ⟨.refl _, .own ..⟩, fun _ => rfl, (by simp only [List.length_append, List.length_cons, List.length_nil]; omega), ?_⟩
            refine ⟨ByteArray, strC, noS, [wSemi], ⟨rfl, fun _ => rfl⟩, ⟨.refl _, trivial⟩, rfl, ?_⟩
            refine ⟨ByteArray, strC, noS, doC1 c ++ (c.fields.take i).flatMap fldF ++ [wStatic, (c.fields.getD i fld0).name, wColon] ++ kindW (c.fields.getD i fld0).type, [wSemi], 51, ⟨.refl _, .refl _⟩, fun _ => rfl, (by simp only [List.length_append, List.length_cons, List.length_nil]; omega), ?_⟩
            exact ⟨(i + 1, true), hlt, by show c.fields.length - (i + 1) < c.fields.length - i; omega, ⟨rfl, rfl⟩, .refl _, .ownEq (by rw [hs, hf]; simp), .refl _, .int hwj, .refl _, ⟨.refl _, .refl _, .refl _, .refl _, .refl _, .refl _, trivial⟩, trivial⟩
          · have h3 : (c.fields.getD i fld0).static = false := h3
            have hf : fldF (c.fields.getD i fld0) = [wField, (c.fields.getD i fld0).name, wColon] ++ (kindW (c.fields.getD i fld0).type ++ [wSemi]) := by unfold fldF; rw [if_neg (by rw [h3]; decide)]
            refine ⟨by kernel_rfl, ?_⟩
            refine ⟨ByteArray, strC, noS, [wField, (c.fields.getD i fld0).name, wColon], ⟨rfl, fun _ => rfl⟩, ⟨.refl _, .refl _, .refl _, trivial⟩, rfl, ?_⟩
            refine ⟨ByteArray, strC, noS, doC1 c ++ (c.fields.take i).flatMap fldF, [wField, (c.fields.getD i fld0).name, wColon], 32, ⟨.refl _, .own ..⟩, fun _ => rfl, (by simp only [List.length_append, List.length_cons, List.length_nil]; omega), ?_⟩
            refine ⟨(c.fields.getD i fld0).type, ⟨.refl _, trivial⟩, rfl, trivial, ?_⟩
            refine ⟨ByteArray, strC, noS, doC1 c ++ (c.fields.take i).flatMap fldF ++ [wField, (c.fields.getD i fld0).name, wColon], kindW (c.fields.getD i fld0).type, 47, ⟨.refl _, .own ..⟩, fun _ => rfl, (by simp only [List.length_append, List.length_cons, List.length_nil]; omega), ?_⟩
            refine ⟨ByteArray, strC, noS, [wSemi], ⟨rfl, fun _ => rfl⟩, ⟨.refl _, trivial⟩, rfl, ?_⟩
            refine ⟨ByteArray, strC, noS, doC1 c ++ (c.fields.take i).flatMap fldF ++ [wField, (c.fields.getD i fld0).name, wColon] ++ kindW (c.fields.getD i fld0).type, [wSemi], 51, ⟨.refl _, .refl _⟩, fun _ => rfl, (by simp only [List.length_append, List.length_cons, List.length_nil]; omega), ?_⟩
            exact ⟨(i + 1, true), hlt, by show c.fields.length - (i + 1) < c.fields.length - i; omega, ⟨rfl, rfl⟩, .refl _, .ownEq (by rw [hs, hf]; simp), .refl _, .int hwj, .refl _, ⟨.refl _, .refl _, .refl _, .refl _, .refl _, .refl _, trivial⟩, trivial⟩
        · have hge : i = c.fields.length := by have := of_decide_eq_false h; omega
          have hcb := hfl c.fields.length
          rw [List.take_length] at hcb
          clear hwj hbi h hi hi1
          refine ⟨Nat × Bool, fun s => [(3, .own ByteArray 1 strC noS (doC1 c ++ c.fields.flatMap fldF ++ (c.methods.take s.1).flatMap doesF) (cond s.2 65 32)), (57, I c.methods.length), (56, .row Meth 9 methC meth0 c.methods), (58, I s.1)], fun _ => [], fun s => s.1 ≤ c.methods.length, fun s => c.methods.length - s.1,
            ⟨(0, false), Nat.zero_le _, ⟨⟨rfl, rfl⟩, .ownEq (by rw [hge, List.take_length]; simp), .refl _, .refl _, .refl _, trivial⟩⟩, fun ((i, b) : Nat × Bool) hi => ?_⟩
          have hi1 : i ≤ c.methods.length := hi
          have hwj : IntKind.i64.wrap ((i : Int) + 1) = ((i + 1 : Nat) : Int) := by rw [wrap_eq _ (by omega) (by omega)]; omega
          have hbi := hml i
          cases b
          case false =>
            refine ⟨fun h => ?_, fun h => ?_⟩
            · have hlt : i < c.methods.length := by have := of_decide_eq_true h; omega
              have hs := flat_snoc doesF c.methods meth0 i hlt
              have hmo := hp5.2 _ (getT_mem c.methods meth0 i hlt)
              have hdl := does_len hmo
              refine ⟨⟨by omega, by omega⟩, ?_⟩
              refine ⟨c.methods.getD i meth0, ⟨.refl _, trivial⟩, rfl, hmo, ?_⟩
              refine ⟨ByteArray, strC, noS, doC1 c ++ c.fields.flatMap fldF ++ (c.methods.take i).flatMap doesF, doesF (c.methods.getD i meth0), 32, ⟨.refl _, .own ..⟩, fun _ => rfl, (by simp only [List.length_append]; omega), ?_⟩
              exact ⟨(i + 1, true), hlt, by show c.methods.length - (i + 1) < c.methods.length - i; omega, ⟨rfl, rfl⟩, .ownEq (by rw [hs]; simp), .refl _, .refl _, .int hwj, trivial⟩
            · have hge2 : i = c.methods.length := by have := of_decide_eq_false h; omega
              refine ⟨ByteArray, strC, noS, [wRc], ⟨rfl, fun _ => rfl⟩, ⟨.refl _, trivial⟩, rfl, ?_⟩
              refine ⟨ByteArray, strC, noS, doC1 c ++ c.fields.flatMap fldF ++ (c.methods.take i).flatMap doesF, [wRc], 32, ⟨.refl _, .own ..⟩, fun _ => rfl, (by simp only [List.length_append, List.length_cons, List.length_nil]; omega), ?_⟩
              exact ⟨.ownEq (by rw [wordsC_eq, hge2, List.take_length]), rfl⟩
          case true =>
            refine ⟨fun h => ?_, fun h => ?_⟩
            · have hlt : i < c.methods.length := by have := of_decide_eq_true h; omega
              have hs := flat_snoc doesF c.methods meth0 i hlt
              have hmo := hp5.2 _ (getT_mem c.methods meth0 i hlt)
              have hdl := does_len hmo
              refine ⟨⟨by omega, by omega⟩, ?_⟩
              refine ⟨c.methods.getD i meth0, ⟨.refl _, trivial⟩, rfl, hmo, ?_⟩
              refine ⟨ByteArray, strC, noS, doC1 c ++ c.fields.flatMap fldF ++ (c.methods.take i).flatMap doesF, doesF (c.methods.getD i meth0), 65, ⟨.refl _, .own ..⟩, fun _ => rfl, (by simp only [List.length_append]; omega), ?_⟩
              exact ⟨(i + 1, true), hlt, by show c.methods.length - (i + 1) < c.methods.length - i; omega, ⟨rfl, rfl⟩, .ownEq (by rw [hs]; simp), .refl _, .refl _, .int hwj, trivial⟩
            · have hge2 : i = c.methods.length := by have := of_decide_eq_false h; omega
              refine ⟨ByteArray, strC, noS, [wRc], ⟨rfl, fun _ => rfl⟩, ⟨.refl _, trivial⟩, rfl, ?_⟩
              refine ⟨ByteArray, strC, noS, doC1 c ++ c.fields.flatMap fldF ++ (c.methods.take i).flatMap doesF, [wRc], 65, ⟨.refl _, .own ..⟩, fun _ => rfl, (by simp only [List.length_append, List.length_cons, List.length_nil]; omega), ?_⟩
              exact ⟨.ownEq (by rw [wordsC_eq, hge2, List.take_length]), rfl⟩
      case true =>
        refine ⟨fun h => ?_, fun h => ?_⟩
        · have hlt : i < c.fields.length := by have := of_decide_eq_true h; omega
          have hs := flat_snoc fldF c.fields fld0 i hlt
          have hk := kindW_len (c.fields.getD i fld0).type
          refine ⟨⟨by omega, by omega⟩, ?_⟩
          refine ⟨fun h3 => ?_, fun h3 => ?_⟩
          · have h3 : (c.fields.getD i fld0).static = true := h3
            have hf : fldF (c.fields.getD i fld0) = [wStatic, (c.fields.getD i fld0).name, wColon] ++ (kindW (c.fields.getD i fld0).type ++ [wSemi]) := by unfold fldF; rw [if_pos h3]
            refine ⟨by kernel_rfl, ?_⟩
            refine ⟨ByteArray, strC, noS, [wStatic, (c.fields.getD i fld0).name, wColon], ⟨rfl, fun _ => rfl⟩, ⟨.refl _, .refl _, .refl _, trivial⟩, rfl, ?_⟩
            refine ⟨ByteArray, strC, noS, doC1 c ++ (c.fields.take i).flatMap fldF, [wStatic, (c.fields.getD i fld0).name, wColon], 53, ⟨.refl _, .own ..⟩, fun _ => rfl, (by simp only [List.length_append, List.length_cons, List.length_nil]; omega), ?_⟩
            refine ⟨(c.fields.getD i fld0).type, ⟨.refl _, trivial⟩, rfl, trivial, ?_⟩
            refine ⟨ByteArray, strC, noS, doC1 c ++ (c.fields.take i).flatMap fldF ++ [wStatic, (c.fields.getD i fld0).name, wColon], kindW (c.fields.getD i fld0).type, 47, ⟨.refl _, .own ..⟩, fun _ => rfl, (by simp only [List.length_append, List.length_cons, List.length_nil]; omega), ?_⟩
            refine ⟨ByteArray, strC, noS, [wSemi], ⟨rfl, fun _ => rfl⟩, ⟨.refl _, trivial⟩, rfl, ?_⟩
            refine ⟨ByteArray, strC, noS, doC1 c ++ (c.fields.take i).flatMap fldF ++ [wStatic, (c.fields.getD i fld0).name, wColon] ++ kindW (c.fields.getD i fld0).type, [wSemi], 51, ⟨.refl _, .refl _⟩, fun _ => rfl, (by simp only [List.length_append, List.length_cons, List.length_nil]; omega), ?_⟩
            exact ⟨(i + 1, true), hlt, by show c.fields.length - (i + 1) < c.fields.length - i; omega, ⟨rfl, rfl⟩, .refl _, .ownEq (by rw [hs, hf]; simp), .refl _, .int hwj, .refl _, ⟨.refl _, .refl _, .refl _, .refl _, .refl _, .refl _, trivial⟩, trivial⟩
          · have h3 : (c.fields.getD i fld0).static = false := h3
            have hf : fldF (c.fields.getD i fld0) = [wField, (c.fields.getD i fld0).name, wColon] ++ (kindW (c.fields.getD i fld0).type ++ [wSemi]) := by unfold fldF; rw [if_neg (by rw [h3]; decide)]
            refine ⟨by kernel_rfl, ?_⟩
            refine ⟨ByteArray, strC, noS, [wField, (c.fields.getD i fld0).name, wColon], ⟨rfl, fun _ => rfl⟩, ⟨.refl _, .refl _, .refl _, trivial⟩, rfl, ?_⟩
            refine ⟨ByteArray, strC, noS, doC1 c ++ (c.fields.take i).flatMap fldF, [wField, (c.fields.getD i fld0).name, wColon], 53, ⟨.refl _, .own ..⟩, fun _ => rfl, (by simp only [List.length_append, List.length_cons, List.length_nil]; omega), ?_⟩
            refine ⟨(c.fields.getD i fld0).type, ⟨.refl _, trivial⟩, rfl, trivial, ?_⟩
            refine ⟨ByteArray, strC, noS, doC1 c ++ (c.fields.take i).flatMap fldF ++ [wField, (c.fields.getD i fld0).name, wColon], kindW (c.fields.getD i fld0).type, 47, ⟨.refl _, .own ..⟩, fun _ => rfl, (by simp only [List.length_append, List.length_cons, List.length_nil]; omega), ?_⟩
            refine ⟨ByteArray, strC, noS, [wSemi], ⟨rfl, fun _ => rfl⟩, ⟨.refl _, trivial⟩, rfl, ?_⟩
            refine ⟨ByteArray, strC, noS, doC1 c ++ (c.fields.take i).flatMap fldF ++ [wField, (c.fields.getD i fld0).name, wColon] ++ kindW (c.fields.getD i fld0).type, [wSemi], 51, ⟨.refl _, .refl _⟩, fun _ => rfl, (by simp only [List.length_append, List.length_cons, List.length_nil]; omega), ?_⟩
            exact ⟨(i + 1, true), hlt, by show c.fields.length - (i + 1) < c.fields.length - i; omega, ⟨rfl, rfl⟩, .refl _, .ownEq (by rw [hs, hf]; simp), .refl _, .int hwj, .refl _, ⟨.refl _, .refl _, .refl _, .refl _, .refl _, .refl _, trivial⟩, trivial⟩
        · have hge : i = c.fields.length := by have := of_decide_eq_false h; omega
          have hcb := hfl c.fields.length
          rw [List.take_length] at hcb
          clear hwj hbi h hi hi1
          refine ⟨Nat × Bool, fun s => [(3, .own ByteArray 1 strC noS (doC1 c ++ c.fields.flatMap fldF ++ (c.methods.take s.1).flatMap doesF) (cond s.2 65 53)), (57, I c.methods.length), (56, .row Meth 9 methC meth0 c.methods), (58, I s.1)], fun _ => [], fun s => s.1 ≤ c.methods.length, fun s => c.methods.length - s.1,
            ⟨(0, false), Nat.zero_le _, ⟨⟨rfl, rfl⟩, .ownEq (by rw [hge, List.take_length]; simp), .refl _, .refl _, .refl _, trivial⟩⟩, fun ((i, b) : Nat × Bool) hi => ?_⟩
          have hi1 : i ≤ c.methods.length := hi
          have hwj : IntKind.i64.wrap ((i : Int) + 1) = ((i + 1 : Nat) : Int) := by rw [wrap_eq _ (by omega) (by omega)]; omega
          have hbi := hml i
          cases b
          case false =>
            refine ⟨fun h => ?_, fun h => ?_⟩
            · have hlt : i < c.methods.length := by have := of_decide_eq_true h; omega
              have hs := flat_snoc doesF c.methods meth0 i hlt
              have hmo := hp5.2 _ (getT_mem c.methods meth0 i hlt)
              have hdl := does_len hmo
              refine ⟨⟨by omega, by omega⟩, ?_⟩
              refine ⟨c.methods.getD i meth0, ⟨.refl _, trivial⟩, rfl, hmo, ?_⟩
              refine ⟨ByteArray, strC, noS, doC1 c ++ c.fields.flatMap fldF ++ (c.methods.take i).flatMap doesF, doesF (c.methods.getD i meth0), 53, ⟨.refl _, .own ..⟩, fun _ => rfl, (by simp only [List.length_append]; omega), ?_⟩
              exact ⟨(i + 1, true), hlt, by show c.methods.length - (i + 1) < c.methods.length - i; omega, ⟨rfl, rfl⟩, .ownEq (by rw [hs]; simp), .refl _, .refl _, .int hwj, trivial⟩
            · have hge2 : i = c.methods.length := by have := of_decide_eq_false h; omega
              refine ⟨ByteArray, strC, noS, [wRc], ⟨rfl, fun _ => rfl⟩, ⟨.refl _, trivial⟩, rfl, ?_⟩
              refine ⟨ByteArray, strC, noS, doC1 c ++ c.fields.flatMap fldF ++ (c.methods.take i).flatMap doesF, [wRc], 53, ⟨.refl _, .own ..⟩, fun _ => rfl, (by simp only [List.length_append, List.length_cons, List.length_nil]; omega), ?_⟩
              exact ⟨.ownEq (by rw [wordsC_eq, hge2, List.take_length]), rfl⟩
          case true =>
            refine ⟨fun h => ?_, fun h => ?_⟩
            · have hlt : i < c.methods.length := by have := of_decide_eq_true h; omega
              have hs := flat_snoc doesF c.methods meth0 i hlt
              have hmo := hp5.2 _ (getT_mem c.methods meth0 i hlt)
              have hdl := does_len hmo
              refine ⟨⟨by omega, by omega⟩, ?_⟩
              refine ⟨c.methods.getD i meth0, ⟨.refl _, trivial⟩, rfl, hmo, ?_⟩
              refine ⟨ByteArray, strC, noS, doC1 c ++ c.fields.flatMap fldF ++ (c.methods.take i).flatMap doesF, doesF (c.methods.getD i meth0), 65, ⟨.refl _, .own ..⟩, fun _ => rfl, (by simp only [List.length_append]; omega), ?_⟩
              exact ⟨(i + 1, true), hlt, by show c.methods.length - (i + 1) < c.methods.length - i; omega, ⟨rfl, rfl⟩, .ownEq (by rw [hs]; simp), .refl _, .refl _, .int hwj, trivial⟩
            · have hge2 : i = c.methods.length := by have := of_decide_eq_false h; omega
              refine ⟨ByteArray, strC, noS, [wRc], ⟨rfl, fun _ => rfl⟩, ⟨.refl _, trivial⟩, rfl, ?_⟩
              refine ⟨ByteArray, strC, noS, doC1 c ++ c.fields.flatMap fldF ++ (c.methods.take i).flatMap doesF, [wRc], 65, ⟨.refl _, .own ..⟩, fun _ => rfl, (by simp only [List.length_append, List.length_cons, List.length_nil]; omega), ?_⟩
              exact ⟨.ownEq (by rw [wordsC_eq, hge2, List.take_length]), rfl⟩
    · have hs : supC c = [] := by
        have hs : (!(c.super.toList == (⟨#[]⟩ : ByteArray).toList)) = false := hs
        rw [hns] at hs
        unfold supC; rw [if_pos (by simpa using hs)]
      refine ⟨(if c.iface then wExtends else wImplements, c.ifaces), ⟨.refl _, .refl _, trivial⟩, rfl, (show c.ifaces.length ≤ 100000 by omega), ?_⟩
      rcases Nat.eq_zero_or_pos c.ifaces.length with hz | hz
      · have hnil : lstC c = [] := by unfold lstC; rw [List.length_eq_zero_iff.1 hz]; rfl
        refine .inr ⟨.ownRow hnil, ?_⟩
        refine ⟨ByteArray, strC, noS, [wLc], ⟨rfl, fun _ => rfl⟩, ⟨.refl _, trivial⟩, rfl, ?_⟩
        refine .inl ⟨[wLc], ⟨rfl, Nat.le_refl _, Nat.succ_pos _, .own ..⟩, (show (2 + 1) * 16 ≤ 140737488355328 by omega), ?_⟩
        have hdo : hdC c ++ [wLc] = doC1 c := by unfold doC1; rw [hs, hnil]; simp
        refine ⟨Nat × Bool, fun s => [(1, .box 1 0), (3, .own ByteArray 1 strC noS (doC1 c ++ (c.fields.take s.1).flatMap fldF) (cond s.2 53 32)), (35, I c.fields.length), (36, I s.1), (34, .row Fld 4 fldC fld0 c.fields)], fun _ => [(1, clsC c)], fun s => s.1 ≤ c.fields.length, fun s => c.fields.length - s.1,
          ⟨(0, false), Nat.zero_le _, ⟨⟨rfl, rfl⟩, .refl _, .ownEq (by rw [← hdo]; simp [hdC]), .refl _, .refl _, .refl _, ⟨.refl _, .refl _, .refl _, .refl _, .refl _, .refl _, trivial⟩, trivial⟩⟩, fun ((i, b) : Nat × Bool) hi => ?_⟩
        have hi1 : i ≤ c.fields.length := hi
        have hwj : IntKind.i64.wrap ((i : Int) + 1) = ((i + 1 : Nat) : Int) := by rw [wrap_eq _ (by omega) (by omega)]; omega
        have hbi := hfl i
        cases b
        case false =>
          refine ⟨fun h => ?_, fun h => ?_⟩
          · have hlt : i < c.fields.length := by have := of_decide_eq_true h; omega
            have hs := flat_snoc fldF c.fields fld0 i hlt
            have hk := kindW_len (c.fields.getD i fld0).type
            refine ⟨⟨by omega, by omega⟩, ?_⟩
            refine ⟨fun h3 => ?_, fun h3 => ?_⟩
            · have h3 : (c.fields.getD i fld0).static = true := h3
              have hf : fldF (c.fields.getD i fld0) = [wStatic, (c.fields.getD i fld0).name, wColon] ++ (kindW (c.fields.getD i fld0).type ++ [wSemi]) := by unfold fldF; rw [if_pos h3]
              refine ⟨by kernel_rfl, ?_⟩
              refine ⟨ByteArray, strC, noS, [wStatic, (c.fields.getD i fld0).name, wColon], ⟨rfl, fun _ => rfl⟩, ⟨.refl _, .refl _, .refl _, trivial⟩, rfl, ?_⟩
              refine ⟨ByteArray, strC, noS, doC1 c ++ (c.fields.take i).flatMap fldF, [wStatic, (c.fields.getD i fld0).name, wColon], 32, ⟨.refl _, .own ..⟩, fun _ => rfl, (by simp only [List.length_append, List.length_cons, List.length_nil]; omega), ?_⟩
              refine ⟨(c.fields.getD i fld0).type, ⟨.refl _, trivial⟩, rfl, trivial, ?_⟩
              refine ⟨ByteArray, strC, noS, doC1 c ++ (c.fields.take i).flatMap fldF ++ [wStatic, (c.fields.getD i fld0).name, wColon], kindW (c.fields.getD i fld0).type, 47, ⟨.refl _, .own ..⟩, fun _ => rfl, (by simp only [List.length_append, List.length_cons, List.length_nil]; omega), ?_⟩
              refine ⟨ByteArray, strC, noS, [wSemi], ⟨rfl, fun _ => rfl⟩, ⟨.refl _, trivial⟩, rfl, ?_⟩
              refine ⟨ByteArray, strC, noS, doC1 c ++ (c.fields.take i).flatMap fldF ++ [wStatic, (c.fields.getD i fld0).name, wColon] ++ kindW (c.fields.getD i fld0).type, [wSemi], 51, ⟨.refl _, .refl _⟩, fun _ => rfl, (by simp only [List.length_append, List.length_cons, List.length_nil]; omega), ?_⟩
              exact ⟨(i + 1, true), hlt, by show c.fields.length - (i + 1) < c.fields.length - i; omega, ⟨rfl, rfl⟩, .refl _, .ownEq (by rw [hs, hf]; simp), .refl _, .int hwj, .refl _, ⟨.refl _, .refl _, .refl _, .refl _, .refl _, .refl _, trivial⟩, trivial⟩
            · have h3 : (c.fields.getD i fld0).static = false := h3
              have hf : fldF (c.fields.getD i fld0) = [wField, (c.fields.getD i fld0).name, wColon] ++ (kindW (c.fields.getD i fld0).type ++ [wSemi]) := by unfold fldF; rw [if_neg (by rw [h3]; decide)]
              refine ⟨by kernel_rfl, ?_⟩
              refine ⟨ByteArray, strC, noS, [wField, (c.fields.getD i fld0).name, wColon], ⟨rfl, fun _ => rfl⟩, ⟨.refl _, .refl _, .refl _, trivial⟩, rfl, ?_⟩
              refine ⟨ByteArray, strC, noS, doC1 c ++ (c.fields.take i).flatMap fldF, [wField, (c.fields.getD i fld0).name, wColon], 32, ⟨.refl _, .own ..⟩, fun _ => rfl, (by simp only [List.length_append, List.length_cons, List.length_nil]; omega), ?_⟩
              refine ⟨(c.fields.getD i fld0).type, ⟨.refl _, trivial⟩, rfl, trivial, ?_⟩
              refine ⟨ByteArray, strC, noS, doC1 c ++ (c.fields.take i).flatMap fldF ++ [wField, (c.fields.getD i fld0).name, wColon], kindW (c.fields.getD i fld0).type, 47, ⟨.refl _, .own ..⟩, fun _ => rfl, (by simp only [List.length_append, List.length_cons, List.length_nil]; omega), ?_⟩
              refine ⟨ByteArray, strC, noS, [wSemi], ⟨rfl, fun _ => rfl⟩, ⟨.refl _, trivial⟩, rfl, ?_⟩
              refine ⟨ByteArray, strC, noS, doC1 c ++ (c.fields.take i).flatMap fldF ++ [wField, (c.fields.getD i fld0).name, wColon] ++ kindW (c.fields.getD i fld0).type, [wSemi], 51, ⟨.refl _, .refl _⟩, fun _ => rfl, (by simp only [List.length_append, List.length_cons, List.length_nil]; omega), ?_⟩
              exact ⟨(i + 1, true), hlt, by show c.fields.length - (i + 1) < c.fields.length - i; omega, ⟨rfl, rfl⟩, .refl _, .ownEq (by rw [hs, hf]; simp), .refl _, .int hwj, .refl _, ⟨.refl _, .refl _, .refl _, .refl _, .refl _, .refl _, trivial⟩, trivial⟩
          · have hge : i = c.fields.length := by have := of_decide_eq_false h; omega
            have hcb := hfl c.fields.length
            rw [List.take_length] at hcb
            clear hwj hbi h hi hi1
            refine ⟨Nat × Bool, fun s => [(3, .own ByteArray 1 strC noS (doC1 c ++ c.fields.flatMap fldF ++ (c.methods.take s.1).flatMap doesF) (cond s.2 65 32)), (57, I c.methods.length), (56, .row Meth 9 methC meth0 c.methods), (58, I s.1)], fun _ => [], fun s => s.1 ≤ c.methods.length, fun s => c.methods.length - s.1,
              ⟨(0, false), Nat.zero_le _, ⟨⟨rfl, rfl⟩, .ownEq (by rw [hge, List.take_length]; simp), .refl _, .refl _, .refl _, trivial⟩⟩, fun ((i, b) : Nat × Bool) hi => ?_⟩
            have hi1 : i ≤ c.methods.length := hi
            have hwj : IntKind.i64.wrap ((i : Int) + 1) = ((i + 1 : Nat) : Int) := by rw [wrap_eq _ (by omega) (by omega)]; omega
            have hbi := hml i
            cases b
            case false =>
              refine ⟨fun h => ?_, fun h => ?_⟩
              · have hlt : i < c.methods.length := by have := of_decide_eq_true h; omega
                have hs := flat_snoc doesF c.methods meth0 i hlt
                have hmo := hp5.2 _ (getT_mem c.methods meth0 i hlt)
                have hdl := does_len hmo
                refine ⟨⟨by omega, by omega⟩, ?_⟩
                refine ⟨c.methods.getD i meth0, ⟨.refl _, trivial⟩, rfl, hmo, ?_⟩
                refine ⟨ByteArray, strC, noS, doC1 c ++ c.fields.flatMap fldF ++ (c.methods.take i).flatMap doesF, doesF (c.methods.getD i meth0), 32, ⟨.refl _, .own ..⟩, fun _ => rfl, (by simp only [List.length_append]; omega), ?_⟩
                exact ⟨(i + 1, true), hlt, by show c.methods.length - (i + 1) < c.methods.length - i; omega, ⟨rfl, rfl⟩, .ownEq (by rw [hs]; simp), .refl _, .refl _, .int hwj, trivial⟩
              · have hge2 : i = c.methods.length := by have := of_decide_eq_false h; omega
                refine ⟨ByteArray, strC, noS, [wRc], ⟨rfl, fun _ => rfl⟩, ⟨.refl _, trivial⟩, rfl, ?_⟩
                refine ⟨ByteArray, strC, noS, doC1 c ++ c.fields.flatMap fldF ++ (c.methods.take i).flatMap doesF, [wRc], 32, ⟨.refl _, .own ..⟩, fun _ => rfl, (by simp only [List.length_append, List.length_cons, List.length_nil]; omega), ?_⟩
                exact ⟨.ownEq (by rw [wordsC_eq, hge2, List.take_length]), rfl⟩
            case true =>
              refine ⟨fun h => ?_, fun h => ?_⟩
              · have hlt : i < c.methods.length := by have := of_decide_eq_true h; omega
                have hs := flat_snoc doesF c.methods meth0 i hlt
                have hmo := hp5.2 _ (getT_mem c.methods meth0 i hlt)
                have hdl := does_len hmo
                refine ⟨⟨by omega, by omega⟩, ?_⟩
                refine ⟨c.methods.getD i meth0, ⟨.refl _, trivial⟩, rfl, hmo, ?_⟩
                refine ⟨ByteArray, strC, noS, doC1 c ++ c.fields.flatMap fldF ++ (c.methods.take i).flatMap doesF, doesF (c.methods.getD i meth0), 65, ⟨.refl _, .own ..⟩, fun _ => rfl, (by simp only [List.length_append]; omega), ?_⟩
                exact ⟨(i + 1, true), hlt, by show c.methods.length - (i + 1) < c.methods.length - i; omega, ⟨rfl, rfl⟩, .ownEq (by rw [hs]; simp), .refl _, .refl _, .int hwj, trivial⟩
              · have hge2 : i = c.methods.length := by have := of_decide_eq_false h; omega
                refine ⟨ByteArray, strC, noS, [wRc], ⟨rfl, fun _ => rfl⟩, ⟨.refl _, trivial⟩, rfl, ?_⟩
                refine ⟨ByteArray, strC, noS, doC1 c ++ c.fields.flatMap fldF ++ (c.methods.take i).flatMap doesF, [wRc], 65, ⟨.refl _, .own ..⟩, fun _ => rfl, (by simp only [List.length_append, List.length_cons, List.length_nil]; omega), ?_⟩
                exact ⟨.ownEq (by rw [wordsC_eq, hge2, List.take_length]), rfl⟩
        case true =>
          refine ⟨fun h => ?_, fun h => ?_⟩
          · have hlt : i < c.fields.length := by have := of_decide_eq_true h; omega
            have hs := flat_snoc fldF c.fields fld0 i hlt
            have hk := kindW_len (c.fields.getD i fld0).type
            refine ⟨⟨by omega, by omega⟩, ?_⟩
            refine ⟨fun h3 => ?_, fun h3 => ?_⟩
            · have h3 : (c.fields.getD i fld0).static = true := h3
              have hf : fldF (c.fields.getD i fld0) = [wStatic, (c.fields.getD i fld0).name, wColon] ++ (kindW (c.fields.getD i fld0).type ++ [wSemi]) := by unfold fldF; rw [if_pos h3]
              refine ⟨by kernel_rfl, ?_⟩
              refine ⟨ByteArray, strC, noS, [wStatic, (c.fields.getD i fld0).name, wColon], ⟨rfl, fun _ => rfl⟩, ⟨.refl _, .refl _, .refl _, trivial⟩, rfl, ?_⟩
              refine ⟨ByteArray, strC, noS, doC1 c ++ (c.fields.take i).flatMap fldF, [wStatic, (c.fields.getD i fld0).name, wColon], 53, ⟨.refl _, .own ..⟩, fun _ => rfl, (by simp only [List.length_append, List.length_cons, List.length_nil]; omega), ?_⟩
              refine ⟨(c.fields.getD i fld0).type, ⟨.refl _, trivial⟩, rfl, trivial, ?_⟩
              refine ⟨ByteArray, strC, noS, doC1 c ++ (c.fields.take i).flatMap fldF ++ [wStatic, (c.fields.getD i fld0).name, wColon], kindW (c.fields.getD i fld0).type, 47, ⟨.refl _, .own ..⟩, fun _ => rfl, (by simp only [List.length_append, List.length_cons, List.length_nil]; omega), ?_⟩
              refine ⟨ByteArray, strC, noS, [wSemi], ⟨rfl, fun _ => rfl⟩, ⟨.refl _, trivial⟩, rfl, ?_⟩
              refine ⟨ByteArray, strC, noS, doC1 c ++ (c.fields.take i).flatMap fldF ++ [wStatic, (c.fields.getD i fld0).name, wColon] ++ kindW (c.fields.getD i fld0).type, [wSemi], 51, ⟨.refl _, .refl _⟩, fun _ => rfl, (by simp only [List.length_append, List.length_cons, List.length_nil]; omega), ?_⟩
              exact ⟨(i + 1, true), hlt, by show c.fields.length - (i + 1) < c.fields.length - i; omega, ⟨rfl, rfl⟩, .refl _, .ownEq (by rw [hs, hf]; simp), .refl _, .int hwj, .refl _, ⟨.refl _, .refl _, .refl _, .refl _, .refl _, .refl _, trivial⟩, trivial⟩
            · have h3 : (c.fields.getD i fld0).static = false := h3
              have hf : fldF (c.fields.getD i fld0) = [wField, (c.fields.getD i fld0).name, wColon] ++ (kindW (c.fields.getD i fld0).type ++ [wSemi]) := by unfold fldF; rw [if_neg (by rw [h3]; decide)]
              refine ⟨by kernel_rfl, ?_⟩
              refine ⟨ByteArray, strC, noS, [wField, (c.fields.getD i fld0).name, wColon], ⟨rfl, fun _ => rfl⟩, ⟨.refl _, .refl _, .refl _, trivial⟩, rfl, ?_⟩
              refine ⟨ByteArray, strC, noS, doC1 c ++ (c.fields.take i).flatMap fldF, [wField, (c.fields.getD i fld0).name, wColon], 53, ⟨.refl _, .own ..⟩, fun _ => rfl, (by simp only [List.length_append, List.length_cons, List.length_nil]; omega), ?_⟩
              refine ⟨(c.fields.getD i fld0).type, ⟨.refl _, trivial⟩, rfl, trivial, ?_⟩
              refine ⟨ByteArray, strC, noS, doC1 c ++ (c.fields.take i).flatMap fldF ++ [wField, (c.fields.getD i fld0).name, wColon], kindW (c.fields.getD i fld0).type, 47, ⟨.refl _, .own ..⟩, fun _ => rfl, (by simp only [List.length_append, List.length_cons, List.length_nil]; omega), ?_⟩
              refine ⟨ByteArray, strC, noS, [wSemi], ⟨rfl, fun _ => rfl⟩, ⟨.refl _, trivial⟩, rfl, ?_⟩
              refine ⟨ByteArray, strC, noS, doC1 c ++ (c.fields.take i).flatMap fldF ++ [wField, (c.fields.getD i fld0).name, wColon] ++ kindW (c.fields.getD i fld0).type, [wSemi], 51, ⟨.refl _, .refl _⟩, fun _ => rfl, (by simp only [List.length_append, List.length_cons, List.length_nil]; omega), ?_⟩
              exact ⟨(i + 1, true), hlt, by show c.fields.length - (i + 1) < c.fields.length - i; omega, ⟨rfl, rfl⟩, .refl _, .ownEq (by rw [hs, hf]; simp), .refl _, .int hwj, .refl _, ⟨.refl _, .refl _, .refl _, .refl _, .refl _, .refl _, trivial⟩, trivial⟩
          · have hge : i = c.fields.length := by have := of_decide_eq_false h; omega
            have hcb := hfl c.fields.length
            rw [List.take_length] at hcb
            clear hwj hbi h hi hi1
            refine ⟨Nat × Bool, fun s => [(3, .own ByteArray 1 strC noS (doC1 c ++ c.fields.flatMap fldF ++ (c.methods.take s.1).flatMap doesF) (cond s.2 65 53)), (57, I c.methods.length), (56, .row Meth 9 methC meth0 c.methods), (58, I s.1)], fun _ => [], fun s => s.1 ≤ c.methods.length, fun s => c.methods.length - s.1,
              ⟨(0, false), Nat.zero_le _, ⟨⟨rfl, rfl⟩, .ownEq (by rw [hge, List.take_length]; simp), .refl _, .refl _, .refl _, trivial⟩⟩, fun ((i, b) : Nat × Bool) hi => ?_⟩
            have hi1 : i ≤ c.methods.length := hi
            have hwj : IntKind.i64.wrap ((i : Int) + 1) = ((i + 1 : Nat) : Int) := by rw [wrap_eq _ (by omega) (by omega)]; omega
            have hbi := hml i
            cases b
            case false =>
              refine ⟨fun h => ?_, fun h => ?_⟩
              · have hlt : i < c.methods.length := by have := of_decide_eq_true h; omega
                have hs := flat_snoc doesF c.methods meth0 i hlt
                have hmo := hp5.2 _ (getT_mem c.methods meth0 i hlt)
                have hdl := does_len hmo
                refine ⟨⟨by omega, by omega⟩, ?_⟩
                refine ⟨c.methods.getD i meth0, ⟨.refl _, trivial⟩, rfl, hmo, ?_⟩
                refine ⟨ByteArray, strC, noS, doC1 c ++ c.fields.flatMap fldF ++ (c.methods.take i).flatMap doesF, doesF (c.methods.getD i meth0), 53, ⟨.refl _, .own ..⟩, fun _ => rfl, (by simp only [List.length_append]; omega), ?_⟩
                exact ⟨(i + 1, true), hlt, by show c.methods.length - (i + 1) < c.methods.length - i; omega, ⟨rfl, rfl⟩, .ownEq (by rw [hs]; simp), .refl _, .refl _, .int hwj, trivial⟩
              · have hge2 : i = c.methods.length := by have := of_decide_eq_false h; omega
                refine ⟨ByteArray, strC, noS, [wRc], ⟨rfl, fun _ => rfl⟩, ⟨.refl _, trivial⟩, rfl, ?_⟩
                refine ⟨ByteArray, strC, noS, doC1 c ++ c.fields.flatMap fldF ++ (c.methods.take i).flatMap doesF, [wRc], 53, ⟨.refl _, .own ..⟩, fun _ => rfl, (by simp only [List.length_append, List.length_cons, List.length_nil]; omega), ?_⟩
                exact ⟨.ownEq (by rw [wordsC_eq, hge2, List.take_length]), rfl⟩
            case true =>
              refine ⟨fun h => ?_, fun h => ?_⟩
              · have hlt : i < c.methods.length := by have := of_decide_eq_true h; omega
                have hs := flat_snoc doesF c.methods meth0 i hlt
                have hmo := hp5.2 _ (getT_mem c.methods meth0 i hlt)
                have hdl := does_len hmo
                refine ⟨⟨by omega, by omega⟩, ?_⟩
                refine ⟨c.methods.getD i meth0, ⟨.refl _, trivial⟩, rfl, hmo, ?_⟩
                refine ⟨ByteArray, strC, noS, doC1 c ++ c.fields.flatMap fldF ++ (c.methods.take i).flatMap doesF, doesF (c.methods.getD i meth0), 65, ⟨.refl _, .own ..⟩, fun _ => rfl, (by simp only [List.length_append]; omega), ?_⟩
                exact ⟨(i + 1, true), hlt, by show c.methods.length - (i + 1) < c.methods.length - i; omega, ⟨rfl, rfl⟩, .ownEq (by rw [hs]; simp), .refl _, .refl _, .int hwj, trivial⟩
              · have hge2 : i = c.methods.length := by have := of_decide_eq_false h; omega
                refine ⟨ByteArray, strC, noS, [wRc], ⟨rfl, fun _ => rfl⟩, ⟨.refl _, trivial⟩, rfl, ?_⟩
                refine ⟨ByteArray, strC, noS, doC1 c ++ c.fields.flatMap fldF ++ (c.methods.take i).flatMap doesF, [wRc], 65, ⟨.refl _, .own ..⟩, fun _ => rfl, (by simp only [List.length_append, List.length_cons, List.length_nil]; omega), ?_⟩
                exact ⟨.ownEq (by rw [wordsC_eq, hge2, List.take_length]), rfl⟩
      · have hpos : 0 < (lstC c).length := by unfold lstC; omega
        have hlb : (lstC c).length ≤ 8 := by unfold lstC; omega
        refine .inl ⟨lstC c, ⟨rfl, Nat.le_refl _, hpos, .own ..⟩, (show (2 + (lstC c).length) * 16 ≤ 140737488355328 by omega), ?_⟩
        refine ⟨ByteArray, strC, noS, [wLc], ⟨rfl, fun _ => rfl⟩, ⟨.refl _, trivial⟩, rfl, ?_⟩
        refine ⟨ByteArray, strC, noS, hdC c ++ lstC c, [wLc], 30, ⟨.refl _, .own ..⟩, fun _ => rfl, (by unfold hdC; simp only [List.length_append, List.length_cons, List.length_nil]; omega), ?_⟩
        have hdo : hdC c ++ lstC c ++ [wLc] = doC1 c := by unfold doC1; rw [hs]; simp
        refine ⟨Nat × Bool, fun s => [(1, .box 1 0), (3, .own ByteArray 1 strC noS (doC1 c ++ (c.fields.take s.1).flatMap fldF) (cond s.2 53 32)), (35, I c.fields.length), (36, I s.1), (34, .row Fld 4 fldC fld0 c.fields)], fun _ => [(1, clsC c)], fun s => s.1 ≤ c.fields.length, fun s => c.fields.length - s.1,
          ⟨(0, false), Nat.zero_le _, ⟨⟨rfl, rfl⟩, .refl _, .ownEq (by rw [← hdo]; simp [hdC]), .refl _, .refl _, .refl _, ⟨.refl _, .refl _, .refl _, .refl _, .refl _, .refl _, trivial⟩, trivial⟩⟩, fun ((i, b) : Nat × Bool) hi => ?_⟩
        have hi1 : i ≤ c.fields.length := hi
        have hwj : IntKind.i64.wrap ((i : Int) + 1) = ((i + 1 : Nat) : Int) := by rw [wrap_eq _ (by omega) (by omega)]; omega
        have hbi := hfl i
        cases b
        case false =>
          refine ⟨fun h => ?_, fun h => ?_⟩
          · have hlt : i < c.fields.length := by have := of_decide_eq_true h; omega
            have hs := flat_snoc fldF c.fields fld0 i hlt
            have hk := kindW_len (c.fields.getD i fld0).type
            refine ⟨⟨by omega, by omega⟩, ?_⟩
            refine ⟨fun h3 => ?_, fun h3 => ?_⟩
            · have h3 : (c.fields.getD i fld0).static = true := h3
              have hf : fldF (c.fields.getD i fld0) = [wStatic, (c.fields.getD i fld0).name, wColon] ++ (kindW (c.fields.getD i fld0).type ++ [wSemi]) := by unfold fldF; rw [if_pos h3]
              refine ⟨by kernel_rfl, ?_⟩
              refine ⟨ByteArray, strC, noS, [wStatic, (c.fields.getD i fld0).name, wColon], ⟨rfl, fun _ => rfl⟩, ⟨.refl _, .refl _, .refl _, trivial⟩, rfl, ?_⟩
              refine ⟨ByteArray, strC, noS, doC1 c ++ (c.fields.take i).flatMap fldF, [wStatic, (c.fields.getD i fld0).name, wColon], 32, ⟨.refl _, .own ..⟩, fun _ => rfl, (by simp only [List.length_append, List.length_cons, List.length_nil]; omega), ?_⟩
              refine ⟨(c.fields.getD i fld0).type, ⟨.refl _, trivial⟩, rfl, trivial, ?_⟩
              refine ⟨ByteArray, strC, noS, doC1 c ++ (c.fields.take i).flatMap fldF ++ [wStatic, (c.fields.getD i fld0).name, wColon], kindW (c.fields.getD i fld0).type, 47, ⟨.refl _, .own ..⟩, fun _ => rfl, (by simp only [List.length_append, List.length_cons, List.length_nil]; omega), ?_⟩
              refine ⟨ByteArray, strC, noS, [wSemi], ⟨rfl, fun _ => rfl⟩, ⟨.refl _, trivial⟩, rfl, ?_⟩
              refine ⟨ByteArray, strC, noS, doC1 c ++ (c.fields.take i).flatMap fldF ++ [wStatic, (c.fields.getD i fld0).name, wColon] ++ kindW (c.fields.getD i fld0).type, [wSemi], 51, ⟨.refl _, .refl _⟩, fun _ => rfl, (by simp only [List.length_append, List.length_cons, List.length_nil]; omega), ?_⟩
              exact ⟨(i + 1, true), hlt, by show c.fields.length - (i + 1) < c.fields.length - i; omega, ⟨rfl, rfl⟩, .refl _, .ownEq (by rw [hs, hf]; simp), .refl _, .int hwj, .refl _, ⟨.refl _, .refl _, .refl _, .refl _, .refl _, .refl _, trivial⟩, trivial⟩
            · have h3 : (c.fields.getD i fld0).static = false := h3
              have hf : fldF (c.fields.getD i fld0) = [wField, (c.fields.getD i fld0).name, wColon] ++ (kindW (c.fields.getD i fld0).type ++ [wSemi]) := by unfold fldF; rw [if_neg (by rw [h3]; decide)]
              refine ⟨by kernel_rfl, ?_⟩
              refine ⟨ByteArray, strC, noS, [wField, (c.fields.getD i fld0).name, wColon], ⟨rfl, fun _ => rfl⟩, ⟨.refl _, .refl _, .refl _, trivial⟩, rfl, ?_⟩
              refine ⟨ByteArray, strC, noS, doC1 c ++ (c.fields.take i).flatMap fldF, [wField, (c.fields.getD i fld0).name, wColon], 32, ⟨.refl _, .own ..⟩, fun _ => rfl, (by simp only [List.length_append, List.length_cons, List.length_nil]; omega), ?_⟩
              refine ⟨(c.fields.getD i fld0).type, ⟨.refl _, trivial⟩, rfl, trivial, ?_⟩
              refine ⟨ByteArray, strC, noS, doC1 c ++ (c.fields.take i).flatMap fldF ++ [wField, (c.fields.getD i fld0).name, wColon], kindW (c.fields.getD i fld0).type, 47, ⟨.refl _, .own ..⟩, fun _ => rfl, (by simp only [List.length_append, List.length_cons, List.length_nil]; omega), ?_⟩
              refine ⟨ByteArray, strC, noS, [wSemi], ⟨rfl, fun _ => rfl⟩, ⟨.refl _, trivial⟩, rfl, ?_⟩
              refine ⟨ByteArray, strC, noS, doC1 c ++ (c.fields.take i).flatMap fldF ++ [wField, (c.fields.getD i fld0).name, wColon] ++ kindW (c.fields.getD i fld0).type, [wSemi], 51, ⟨.refl _, .refl _⟩, fun _ => rfl, (by simp only [List.length_append, List.length_cons, List.length_nil]; omega), ?_⟩
              exact ⟨(i + 1, true), hlt, by show c.fields.length - (i + 1) < c.fields.length - i; omega, ⟨rfl, rfl⟩, .refl _, .ownEq (by rw [hs, hf]; simp), .refl _, .int hwj, .refl _, ⟨.refl _, .refl _, .refl _, .refl _, .refl _, .refl _, trivial⟩, trivial⟩
          · have hge : i = c.fields.length := by have := of_decide_eq_false h; omega
            have hcb := hfl c.fields.length
            rw [List.take_length] at hcb
            clear hwj hbi h hi hi1
            refine ⟨Nat × Bool, fun s => [(3, .own ByteArray 1 strC noS (doC1 c ++ c.fields.flatMap fldF ++ (c.methods.take s.1).flatMap doesF) (cond s.2 65 32)), (57, I c.methods.length), (56, .row Meth 9 methC meth0 c.methods), (58, I s.1)], fun _ => [], fun s => s.1 ≤ c.methods.length, fun s => c.methods.length - s.1,
              ⟨(0, false), Nat.zero_le _, ⟨⟨rfl, rfl⟩, .ownEq (by rw [hge, List.take_length]; simp), .refl _, .refl _, .refl _, trivial⟩⟩, fun ((i, b) : Nat × Bool) hi => ?_⟩
            have hi1 : i ≤ c.methods.length := hi
            have hwj : IntKind.i64.wrap ((i : Int) + 1) = ((i + 1 : Nat) : Int) := by rw [wrap_eq _ (by omega) (by omega)]; omega
            have hbi := hml i
            cases b
            case false =>
              refine ⟨fun h => ?_, fun h => ?_⟩
              · have hlt : i < c.methods.length := by have := of_decide_eq_true h; omega
                have hs := flat_snoc doesF c.methods meth0 i hlt
                have hmo := hp5.2 _ (getT_mem c.methods meth0 i hlt)
                have hdl := does_len hmo
                refine ⟨⟨by omega, by omega⟩, ?_⟩
                refine ⟨c.methods.getD i meth0, ⟨.refl _, trivial⟩, rfl, hmo, ?_⟩
                refine ⟨ByteArray, strC, noS, doC1 c ++ c.fields.flatMap fldF ++ (c.methods.take i).flatMap doesF, doesF (c.methods.getD i meth0), 32, ⟨.refl _, .own ..⟩, fun _ => rfl, (by simp only [List.length_append]; omega), ?_⟩
                exact ⟨(i + 1, true), hlt, by show c.methods.length - (i + 1) < c.methods.length - i; omega, ⟨rfl, rfl⟩, .ownEq (by rw [hs]; simp), .refl _, .refl _, .int hwj, trivial⟩
              · have hge2 : i = c.methods.length := by have := of_decide_eq_false h; omega
                refine ⟨ByteArray, strC, noS, [wRc], ⟨rfl, fun _ => rfl⟩, ⟨.refl _, trivial⟩, rfl, ?_⟩
                refine ⟨ByteArray, strC, noS, doC1 c ++ c.fields.flatMap fldF ++ (c.methods.take i).flatMap doesF, [wRc], 32, ⟨.refl _, .own ..⟩, fun _ => rfl, (by simp only [List.length_append, List.length_cons, List.length_nil]; omega), ?_⟩
                exact ⟨.ownEq (by rw [wordsC_eq, hge2, List.take_length]), rfl⟩
            case true =>
              refine ⟨fun h => ?_, fun h => ?_⟩
              · have hlt : i < c.methods.length := by have := of_decide_eq_true h; omega
                have hs := flat_snoc doesF c.methods meth0 i hlt
                have hmo := hp5.2 _ (getT_mem c.methods meth0 i hlt)
                have hdl := does_len hmo
                refine ⟨⟨by omega, by omega⟩, ?_⟩
                refine ⟨c.methods.getD i meth0, ⟨.refl _, trivial⟩, rfl, hmo, ?_⟩
                refine ⟨ByteArray, strC, noS, doC1 c ++ c.fields.flatMap fldF ++ (c.methods.take i).flatMap doesF, doesF (c.methods.getD i meth0), 65, ⟨.refl _, .own ..⟩, fun _ => rfl, (by simp only [List.length_append]; omega), ?_⟩
                exact ⟨(i + 1, true), hlt, by show c.methods.length - (i + 1) < c.methods.length - i; omega, ⟨rfl, rfl⟩, .ownEq (by rw [hs]; simp), .refl _, .refl _, .int hwj, trivial⟩
              · have hge2 : i = c.methods.length := by have := of_decide_eq_false h; omega
                refine ⟨ByteArray, strC, noS, [wRc], ⟨rfl, fun _ => rfl⟩, ⟨.refl _, trivial⟩, rfl, ?_⟩
                refine ⟨ByteArray, strC, noS, doC1 c ++ c.fields.flatMap fldF ++ (c.methods.take i).flatMap doesF, [wRc], 65, ⟨.refl _, .own ..⟩, fun _ => rfl, (by simp only [List.length_append, List.length_cons, List.length_nil]; omega), ?_⟩
                exact ⟨.ownEq (by rw [wordsC_eq, hge2, List.take_length]), rfl⟩
        case true =>
          refine ⟨fun h => ?_, fun h => ?_⟩
          · have hlt : i < c.fields.length := by have := of_decide_eq_true h; omega
            have hs := flat_snoc fldF c.fields fld0 i hlt
            have hk := kindW_len (c.fields.getD i fld0).type
            refine ⟨⟨by omega, by omega⟩, ?_⟩
            refine ⟨fun h3 => ?_, fun h3 => ?_⟩
            · have h3 : (c.fields.getD i fld0).static = true := h3
              have hf : fldF (c.fields.getD i fld0) = [wStatic, (c.fields.getD i fld0).name, wColon] ++ (kindW (c.fields.getD i fld0).type ++ [wSemi]) := by unfold fldF; rw [if_pos h3]
              refine ⟨by kernel_rfl, ?_⟩
              refine ⟨ByteArray, strC, noS, [wStatic, (c.fields.getD i fld0).name, wColon], ⟨rfl, fun _ => rfl⟩, ⟨.refl _, .refl _, .refl _, trivial⟩, rfl, ?_⟩
              refine ⟨ByteArray, strC, noS, doC1 c ++ (c.fields.take i).flatMap fldF, [wStatic, (c.fields.getD i fld0).name, wColon], 53, ⟨.refl _, .own ..⟩, fun _ => rfl, (by simp only [List.length_append, List.length_cons, List.length_nil]; omega), ?_⟩
              refine ⟨(c.fields.getD i fld0).type, ⟨.refl _, trivial⟩, rfl, trivial, ?_⟩
              refine ⟨ByteArray, strC, noS, doC1 c ++ (c.fields.take i).flatMap fldF ++ [wStatic, (c.fields.getD i fld0).name, wColon], kindW (c.fields.getD i fld0).type, 47, ⟨.refl _, .own ..⟩, fun _ => rfl, (by simp only [List.length_append, List.length_cons, List.length_nil]; omega), ?_⟩
              refine ⟨ByteArray, strC, noS, [wSemi], ⟨rfl, fun _ => rfl⟩, ⟨.refl _, trivial⟩, rfl, ?_⟩
              refine ⟨ByteArray, strC, noS, doC1 c ++ (c.fields.take i).flatMap fldF ++ [wStatic, (c.fields.getD i fld0).name, wColon] ++ kindW (c.fields.getD i fld0).type, [wSemi], 51, ⟨.refl _, .refl _⟩, fun _ => rfl, (by simp only [List.length_append, List.length_cons, List.length_nil]; omega), ?_⟩
              exact ⟨(i + 1, true), hlt, by show c.fields.length - (i + 1) < c.fields.length - i; omega, ⟨rfl, rfl⟩, .refl _, .ownEq (by rw [hs, hf]; simp), .refl _, .int hwj, .refl _, ⟨.refl _, .refl _, .refl _, .refl _, .refl _, .refl _, trivial⟩, trivial⟩
            · have h3 : (c.fields.getD i fld0).static = false := h3
              have hf : fldF (c.fields.getD i fld0) = [wField, (c.fields.getD i fld0).name, wColon] ++ (kindW (c.fields.getD i fld0).type ++ [wSemi]) := by unfold fldF; rw [if_neg (by rw [h3]; decide)]
              refine ⟨by kernel_rfl, ?_⟩
              refine ⟨ByteArray, strC, noS, [wField, (c.fields.getD i fld0).name, wColon], ⟨rfl, fun _ => rfl⟩, ⟨.refl _, .refl _, .refl _, trivial⟩, rfl, ?_⟩
              refine ⟨ByteArray, strC, noS, doC1 c ++ (c.fields.take i).flatMap fldF, [wField, (c.fields.getD i fld0).name, wColon], 53, ⟨.refl _, .own ..⟩, fun _ => rfl, (by simp only [List.length_append, List.length_cons, List.length_nil]; omega), ?_⟩
              refine ⟨(c.fields.getD i fld0).type, ⟨.refl _, trivial⟩, rfl, trivial, ?_⟩
              refine ⟨ByteArray, strC, noS, doC1 c ++ (c.fields.take i).flatMap fldF ++ [wField, (c.fields.getD i fld0).name, wColon], kindW (c.fields.getD i fld0).type, 47, ⟨.refl _, .own ..⟩, fun _ => rfl, (by simp only [List.length_append, List.length_cons, List.length_nil]; omega), ?_⟩
              refine ⟨ByteArray, strC, noS, [wSemi], ⟨rfl, fun _ => rfl⟩, ⟨.refl _, trivial⟩, rfl, ?_⟩
              refine ⟨ByteArray, strC, noS, doC1 c ++ (c.fields.take i).flatMap fldF ++ [wField, (c.fields.getD i fld0).name, wColon] ++ kindW (c.fields.getD i fld0).type, [wSemi], 51, ⟨.refl _, .refl _⟩, fun _ => rfl, (by simp only [List.length_append, List.length_cons, List.length_nil]; omega), ?_⟩
              exact ⟨(i + 1, true), hlt, by show c.fields.length - (i + 1) < c.fields.length - i; omega, ⟨rfl, rfl⟩, .refl _, .ownEq (by rw [hs, hf]; simp), .refl _, .int hwj, .refl _, ⟨.refl _, .refl _, .refl _, .refl _, .refl _, .refl _, trivial⟩, trivial⟩
          · have hge : i = c.fields.length := by have := of_decide_eq_false h; omega
            have hcb := hfl c.fields.length
            rw [List.take_length] at hcb
            clear hwj hbi h hi hi1
            refine ⟨Nat × Bool, fun s => [(3, .own ByteArray 1 strC noS (doC1 c ++ c.fields.flatMap fldF ++ (c.methods.take s.1).flatMap doesF) (cond s.2 65 53)), (57, I c.methods.length), (56, .row Meth 9 methC meth0 c.methods), (58, I s.1)], fun _ => [], fun s => s.1 ≤ c.methods.length, fun s => c.methods.length - s.1,
              ⟨(0, false), Nat.zero_le _, ⟨⟨rfl, rfl⟩, .ownEq (by rw [hge, List.take_length]; simp), .refl _, .refl _, .refl _, trivial⟩⟩, fun ((i, b) : Nat × Bool) hi => ?_⟩
            have hi1 : i ≤ c.methods.length := hi
            have hwj : IntKind.i64.wrap ((i : Int) + 1) = ((i + 1 : Nat) : Int) := by rw [wrap_eq _ (by omega) (by omega)]; omega
            have hbi := hml i
            cases b
            case false =>
              refine ⟨fun h => ?_, fun h => ?_⟩
              · have hlt : i < c.methods.length := by have := of_decide_eq_true h; omega
                have hs := flat_snoc doesF c.methods meth0 i hlt
                have hmo := hp5.2 _ (getT_mem c.methods meth0 i hlt)
                have hdl := does_len hmo
                refine ⟨⟨by omega, by omega⟩, ?_⟩
                refine ⟨c.methods.getD i meth0, ⟨.refl _, trivial⟩, rfl, hmo, ?_⟩
                refine ⟨ByteArray, strC, noS, doC1 c ++ c.fields.flatMap fldF ++ (c.methods.take i).flatMap doesF, doesF (c.methods.getD i meth0), 53, ⟨.refl _, .own ..⟩, fun _ => rfl, (by simp only [List.length_append]; omega), ?_⟩
                exact ⟨(i + 1, true), hlt, by show c.methods.length - (i + 1) < c.methods.length - i; omega, ⟨rfl, rfl⟩, .ownEq (by rw [hs]; simp), .refl _, .refl _, .int hwj, trivial⟩
              · have hge2 : i = c.methods.length := by have := of_decide_eq_false h; omega
                refine ⟨ByteArray, strC, noS, [wRc], ⟨rfl, fun _ => rfl⟩, ⟨.refl _, trivial⟩, rfl, ?_⟩
                refine ⟨ByteArray, strC, noS, doC1 c ++ c.fields.flatMap fldF ++ (c.methods.take i).flatMap doesF, [wRc], 53, ⟨.refl _, .own ..⟩, fun _ => rfl, (by simp only [List.length_append, List.length_cons, List.length_nil]; omega), ?_⟩
                exact ⟨.ownEq (by rw [wordsC_eq, hge2, List.take_length]), rfl⟩
            case true =>
              refine ⟨fun h => ?_, fun h => ?_⟩
              · have hlt : i < c.methods.length := by have := of_decide_eq_true h; omega
                have hs := flat_snoc doesF c.methods meth0 i hlt
                have hmo := hp5.2 _ (getT_mem c.methods meth0 i hlt)
                have hdl := does_len hmo
                refine ⟨⟨by omega, by omega⟩, ?_⟩
                refine ⟨c.methods.getD i meth0, ⟨.refl _, trivial⟩, rfl, hmo, ?_⟩
                refine ⟨ByteArray, strC, noS, doC1 c ++ c.fields.flatMap fldF ++ (c.methods.take i).flatMap doesF, doesF (c.methods.getD i meth0), 65, ⟨.refl _, .own ..⟩, fun _ => rfl, (by simp only [List.length_append]; omega), ?_⟩
                exact ⟨(i + 1, true), hlt, by show c.methods.length - (i + 1) < c.methods.length - i; omega, ⟨rfl, rfl⟩, .ownEq (by rw [hs]; simp), .refl _, .refl _, .int hwj, trivial⟩
              · have hge2 : i = c.methods.length := by have := of_decide_eq_false h; omega
                refine ⟨ByteArray, strC, noS, [wRc], ⟨rfl, fun _ => rfl⟩, ⟨.refl _, trivial⟩, rfl, ?_⟩
                refine ⟨ByteArray, strC, noS, doC1 c ++ c.fields.flatMap fldF ++ (c.methods.take i).flatMap doesF, [wRc], 65, ⟨.refl _, .own ..⟩, fun _ => rfl, (by simp only [List.length_append, List.length_cons, List.length_nil]; omega), ?_⟩
                exact ⟨.ownEq (by rw [wordsC_eq, hge2, List.take_length]), rfl⟩
end Go.Proofs.YtadimoijlgmecaaGreatDoor.Ax
/- The builder of a call: its bytes, and what its writers leave alone. -/
set_option linter.unusedVariables false
set_option linter.unusedSimpArgs false
namespace Go.Proofs.YtadimoijlgmecaaGreatDoor.Ax
open Go Go.RowKit
section
variable {P : Program}
/-- block b is a builder that holds the bytes bs in the row v -/
structure Bld (T e : TypeId) (b : Nat) (p v : Value) (bs : List Value) (w : World) : Prop where
  heap : w.heap[b]? = some (.cells #[p, v] T (0, 0))
  own : w.ownsRowF b e 1 v bs.length bs
  ne : v.ownBlock ≠ some b
  ptr : p = .pointer none ∨ p = .pointer (some ⟨b, 0, none⟩)
/-- all blocks but the builder's own two are as they were -/
structure Aside (b : Nat) (v v' : Value) (w w' : World) : Prop where
  below : Below b w w'
  keep : ∀ k, k < w.heap.size → k ≠ b → some k ≠ v.ownBlock → w'.heap[k]? = w.heap[k]?
  own : ∀ g, v'.ownBlock = some g → v.ownBlock = some g ∨ w.heap.size ≤ g
theorem Aside.refl (b : Nat) (v : Value) (w : World) : Aside b v v w w := ⟨.refl _ _, fun _ _ _ _ => rfl, fun _ h => .inl h⟩
theorem Aside.trans {b : Nat} {v v' v'' : Value} {w w' w'' : World} (h : Aside b v v' w w') (k : Aside b v' v'' w' w'') : Aside b v v'' w w'' := by
  refine ⟨h.below.trans k.below, fun i hi hb hv => ?_, fun g hg => ?_⟩
  · rw [k.keep i (Nat.lt_of_lt_of_le hi h.below.size) hb (fun e => ?_), h.keep i hi hb hv]
    rcases h.own i e.symm with q | q
    · exact hv q.symm
    · omega
  · rcases k.own g hg with q | q
    · exact h.own g q
    · exact .inr (Nat.le_trans h.below.size q)
theorem Bld.lt {T e : TypeId} {b : Nat} {p v : Value} {bs : List Value} {w : World} (h : Bld T e b p v bs w) : b < w.heap.size := by
  rcases Nat.lt_or_ge b w.heap.size with h' | h'
  · exact h'
  · have := h.heap; simp [Array.getElem?_eq_none h'] at this
theorem Bld.isF {T e : TypeId} {b : Nat} {p v : Value} {bs : List Value} {w : World} (h : Bld T e b p v bs w) : Lib.IsBuilderF T e b b bs w := by
  rcases h.ptr with e | e
  · exact .inl ⟨Nat.le_refl _, v, e ▸ h.heap, h.own, h.ne⟩
  · exact .inr ⟨Nat.le_refl _, v, e ▸ h.heap, h.own, h.ne⟩
theorem bld_set0 {T e : TypeId} {b : Nat} {p v : Value} {bs : List Value} {w : World} (h : Bld T e b p v bs w) :
    Bld T e b (.pointer (some ⟨b, 0, none⟩)) v bs (w.setCell ⟨b, 0, none⟩ (.pointer (some ⟨b, 0, none⟩))) ∧ Aside b v v w (w.setCell ⟨b, 0, none⟩ (.pointer (some ⟨b, 0, none⟩))) := by
  refine ⟨⟨?_, ?_, h.ne, .inr rfl⟩, ⟨(Below.refl b w).setCell (p := ⟨b, 0, none⟩) (Nat.le_refl b) _, fun k _ hb _ => Below.heap_setCell _ _ _ _ hb, fun _ hg => .inl hg⟩⟩
  · simp [World.setCell, Array.getElem?_modify, h.heap]
  · exact h.own.kept (row := some b) ⟨rfl, rfl, rfl, by simp [World.setCell], fun k _ hk => Below.heap_setCell _ _ _ _ (fun e => hk (by simp [e]))⟩ (.inr h.ne)
theorem bld_put {T e : TypeId} {b : Nat} {p v v' : Value} {bs bs' : List Value} {w w1 : World} (hT : T ≠ e) (h1 : Bld T e b p v bs w) (hg : w.grownBy w1 v.ownBlock) (ho : w1.ownsRowF b e 1 v' bs'.length bs')
    (hv : ∀ g, v'.ownBlock = some g → v.ownBlock = some g ∨ w.heap.size ≤ g) :
    Bld T e b p v' bs' (w1.setCell ⟨b, 1, none⟩ v') ∧ Aside b v v' w (w1.setCell ⟨b, 1, none⟩ v') := by
  have hb2 : w1.heap[b]? = some (.cells #[p, v] T (0, 0)) := by rw [hg.block b h1.lt (fun e => h1.ne e.symm)]; exact h1.heap
  have hne := Lib.ownBlock_neF ho hb2 hT
  have hbl : Below b w w1 := (Below.refl b w).grown hg (Nat.le_of_lt h1.lt) (fun k hk => (h1.own.lt k hk).1)
  refine ⟨⟨?_, ?_, hne, h1.ptr⟩, ⟨hbl.setCell (p := ⟨b, 1, none⟩) (Nat.le_refl b) _, fun k hk hkb hkv => ?_, hv⟩⟩
  · simp [World.setCell, Array.getElem?_modify, hb2]
  · exact ho.kept (row := some b) ⟨rfl, rfl, rfl, by simp [World.setCell], fun k _ hk => Below.heap_setCell _ _ _ _ (fun e => hk (by simp [e]))⟩ (.inr hne)
  · rw [Below.heap_setCell _ _ _ _ hkb]; exact hg.block k hk hkv
/-- copyCheck -/
theorem builder_size : (Tryz.prog.info? 67).map (·.size) = some 2 := by kernel_rfl
theorem builder_lies : liesAt Tryz.prog Tryz.prog.depth 67 (2 / Tryz.prog.cellsOf 67) 0 67 1 = true := by kernel_rfl
theorem builder_ptr : Tryz.prog.underlying 65 = some (.pointer 67) := by kernel_rfl
theorem builder_uns : Tryz.prog.underlying 119 = some .unsafePointer := by kernel_rfl
set_option maxHeartbeats 1000000 in
set_option maxRecDepth 100000 in
theorem bcheck_used (b : Nat) (w : World) (h0 : w.cell? ⟨b, 0, none⟩ = some (.pointer (some ⟨b, 0, none⟩))) :
    Calls Tryz.prog 41 #[.pointer (some ⟨b, 0, none⟩)] w fun e w' => e = .returned (.tuple #[]) ∧ w' = w := by
  obtain ⟨j, hj, _⟩ := Option.map_eq_some_iff.1 builder_size
  go_enter Tryz.func41, Tryz.ntmps41
  go_wp2
  rw [Lib.run_neq_ptr_same w _ builder_ptr hj]
  go_wp2
  go_end0
  exact ⟨rfl, rfl⟩
set_option maxHeartbeats 1000000 in
set_option maxRecDepth 100000 in
theorem bcheck_fresh (b : Nat) (w : World) (h0 : w.cell? ⟨b, 0, none⟩ = some (.pointer none)) (hsh : w.shape? b = some (67, 2)) (hfz : w.frozen? ⟨b, 0, none⟩ = false) :
    Calls Tryz.prog 41 #[.pointer (some ⟨b, 0, none⟩)] w fun e w' => e = .returned (.tuple #[]) ∧ w' = w.setCell ⟨b, 0, none⟩ (.pointer (some ⟨b, 0, none⟩)) := by
  obtain ⟨j, hj, hjs⟩ := Option.map_eq_some_iff.1 builder_size
  go_enter Tryz.func41, Tryz.ntmps41
  go_wp2
  rw [Lib.run_to_unsafe w ⟨b, 0, none⟩ builder_ptr builder_uns hj (by rw [hjs]; decide) hsh (Nat.zero_lt_succ 1)]
  simp only [Result.andThen]
  rw [Oper.upon_value]
  go_wp2
  rw [run_callFunc_extern Tryz.func72 (by kernel_rfl) (by kernel_rfl) (by kernel_rfl) (e := Extern.AbiNoEscape.same) (by kernel_rfl)]
  rw [Lib.run_noEscape]
  simp only [Result.andThen]
  rw [Oper.upon_value]
  go_wp2
  rw [Lib.run_from_unsafe w ⟨b, 0, none⟩ builder_uns builder_ptr hj hsh builder_lies]
  simp only [Result.andThen]
  rw [Oper.upon_value]
  go_wp2
  go_end0
  exact ⟨rfl, rfl⟩
theorem bcheck {b : Nat} {p v : Value} {bs : List Value} {w : World} (h : Bld 67 5 b p v bs w) :
    Calls Tryz.prog 41 #[.pointer (some ⟨b, 0, none⟩)] w fun e w' => e = .returned (.tuple #[]) ∧ (Bld 67 5 b (.pointer (some ⟨b, 0, none⟩)) v bs w' ∧ Aside b v v w w') := by
  have c0 : w.cell? ⟨b, 0, none⟩ = some p := by rw [Lib.cell_of_heap h.heap]; rfl
  rcases h.ptr with e | e
  · refine (bcheck_fresh b w (e ▸ c0) (by simp [World.shape?, h.heap]) (Lib.frozen_of_heap h.heap 0)).mono ?_
    rintro e w' ⟨rfl, rfl⟩
    exact ⟨rfl, bld_set0 h⟩
  · refine (bcheck_used b w (e ▸ c0)).mono ?_
    rintro e' w' ⟨rfl, rfl⟩
    exact ⟨rfl, e ▸ h, Aside.refl _ _ _⟩
/-- where an append's row lies -/
theorem str_block (w : World) (t u ty e : TypeId) (i : TypeInfo) (ht : P.underlying t = some (.slice e)) (hu : P.underlying u = some .string) (hi : P.info? e = some i) (hz : i.zero = some (.int .u8 0)) (hsize : i.size = 1) (hby : i.bytes = 1)
    {base : Nat} {v v' : Value} {n : Nat} {xs : List Value} {w' : World} (hown : w.ownsRowF base e 1 v n xs) (s : ByteArray) (hbytes : n + s.size ≤ 140737488355328)
    (hr : (Builtin.append_ #[t, u] ty #[v, .string s]).run P w = .ok v' w') : ∀ g, v'.ownBlock = some g → v.ownBlock = some g ∨ w.heap.size ≤ g := by
  intro g' hg'
  have h63 : n + s.size ≤ maxLen := by unfold maxLen; omega
  rcases hown.2 with ⟨rfl, rfl⟩ | ⟨g, cap, cur, fz, rfl, hbg, hg, hfz, hnc, hcm, hcs, htake⟩
  · have hx : xs = [] := by have := hown.1; simpa using this
    subst hx
    obtain ⟨v2, w2, h1, h2, -⟩ := Lib.run_append_own_stringF (P := P) w w.heap.size t u ty e i ht hu hi hz hsize hby (.slice none 0 0) 0 [] (World.ownsRowF_nil _ _ _ _) s h63 hbytes (Nat.le_refl _)
    rw [hr] at h1
    injection h1 with q1 q2
    subst q1
    exact .inr (h2.lt g' hg').1
  · by_cases hroom : n + s.size ≤ cap
    · have h1 := Lib.run_append_room_stringF (P := P) w t u ty e i ht hu hi hsize g n cap cur fz hg (by simpa using hfz) s hroom (by rw [hcs]; omega)
      rw [hr] at h1
      injection h1 with q1 q2
      subst q1
      exact .inl hg'
    · have holds : ∀ j u, xs[j]? = some u → w.cell? ((⟨g, 0, none⟩ : Addr).add j) = some u := hown.cells (g := g) rfl
      have h1 := Lib.run_append_grow_string (P := P) w t u ty e i (.int .u8 0) ht hu hi hz ⟨g, 0, none⟩ n cap xs (by rw [hsize]; exact hown.1) holds s (by omega) (by omega) (by rw [hby]; exact growslice_fits (by omega) (by omega))
      rw [hr] at h1
      injection h1 with q1 q2
      subst q1
      simp only [Value.ownBlock, Option.some.injEq] at hg'
      exact .inr (by omega)
theorem byte_block (w : World) (t ty e : TypeId) (i : TypeInfo) (ht : P.underlying t = some (.slice e)) (hi : P.info? e = some i) (hz : i.zero = some (.int .u8 0)) (hsize : i.size = 1) (hby : i.bytes = 1)
    {base : Nat} {v v' : Value} {n : Nat} {xs : List Value} {w' : World} (hown : w.ownsRowF base e 1 v n xs) (a : Addr) (m c : Nat) (news : List Value) (hl : news.length = m) (hnews : ∀ j u, news[j]? = some u → w.cell? (a.add j) = some u) (h1 : ∀ u ∈ news, u.oneCell' = true)
    (hbytes : n + m ≤ 140737488355328) (hr : (Builtin.append_ #[t, t] ty #[v, .slice (some a) m c]).run P w = .ok v' w') : ∀ g, v'.ownBlock = some g → v.ownBlock = some g ∨ w.heap.size ≤ g := by
  intro g' hg'
  have h63 : n + m ≤ maxLen := by unfold maxLen; omega
  have hl1 : news.length = m * 1 := by omega
  rcases hown.2 with ⟨rfl, rfl⟩ | ⟨g, cap, cur, fz, rfl, hbg, hg, hfz, hnc, hcm, hcs, htake⟩
  · have hx : xs = [] := by have := hown.1; simpa using this
    subst hx
    obtain ⟨v2, w2, h1, h2, -⟩ := run_append_ownF (P := P) w w.heap.size t ty e i (.int .u8 0) 1 1 ht hi hz hsize hby rfl (by decide) (.slice none 0 0) 0 [] (World.ownsRowF_nil _ _ _ _) a m c news hl1 hnews h1 h63 (by omega) (Nat.le_refl _)
    rw [hr] at h1
    injection h1 with q1 q2
    subst q1
    exact .inr (h2.lt g' hg').1
  · by_cases hroom : n + m ≤ cap
    · have h2 := run_append_roomF (P := P) w t ty e i ht hi g n cap cur fz hg (by rw [hsize]; exact hfz) a m c news (by rw [hsize]; exact hl1) hnews h1 hroom (by rw [hsize, hcs]; omega)
      rw [hr] at h2
      injection h2 with q1 q2
      subst q1
      exact .inl hg'
    · have holds : ∀ j u, xs[j]? = some u → w.cell? ((⟨g, 0, none⟩ : Addr).add j) = some u := hown.cells (g := g) rfl
      have h2 := run_append_grow (P := P) w t ty e i (.int .u8 0) ht hi hz ⟨g, 0, none⟩ n cap xs (by rw [hsize]; exact hown.1) holds a m c news (by rw [hsize]; exact hl1) hnews (by omega) (by omega) (by rw [hby]; exact growslice_fits (by omega) (by omega))
      rw [hr] at h2
      injection h2 with q1 q2
      subst q1
      simp only [Value.ownBlock, Option.some.injEq] at hg'
      exact .inr (by omega)
theorem wpStr {ops : Array Oper} {rest : List Oper} {o : Oper} {a : Act} {w : World} {Q : Exit → Act → World → Prop} (hgd : o.guard = none) (sl x : Operand) (t u : TypeId)
    (ho : o.op = .call { callee := .builtin .append, args := #[sl, x], argTypes := #[t, u] })
    (base : Nat) (e : TypeId) (i : TypeInfo) (ht : P.underlying t = some (.slice e)) (hu : P.underlying u = some .string) (hi : P.info? e = some i) (hz : i.zero = some (.int .u8 0)) (hsize : i.size = 1) (hby : i.bytes = 1)
    (v : Value) (n : Nat) (xs : List Value) (hs : a.eval sl = v) (hown : w.ownsRowF base e 1 v n xs) (s : ByteArray) (hx : a.eval x = .string s) (hbytes : n + s.size ≤ 140737488355328) (hbase : base ≤ w.heap.size)
    (h : ∀ v' w', w'.ownsRowF base e 1 v' (n + s.size) (xs ++ Lib.strCells s) → w.grownBy w' v.ownBlock → (∀ g, v'.ownBlock = some g → v.ownBlock = some g ∨ w.heap.size ≤ g) → wpList P ops Q rest (a.put o.dst v') w') : wpList P ops Q (o :: rest) a w := by
  refine wpList_plain hgd fun K hK => ?_
  obtain ⟨v', w', hr, h2, h3, -⟩ := Lib.run_append_own_stringF (P := P) w base t u o.type e i ht hu hi hz hsize hby v n xs hown s (by unfold maxLen; omega) hbytes hbase
  have h4 := str_block w t u o.type e i ht hu hi hz hsize hby hown s hbytes hr
  unfold Oper.wp execOp
  simp only [ho, resolve, invoke, builtin, Sem.run_bind, Sem.run_pure, Result.andThen_ok, List.map_toArray, List.map_cons, List.map_nil, hs, hx, hr]
  exact hK _ _ (h v' w' h2 h3 h4)
theorem wpByte {ops : Array Oper} {rest : List Oper} {o : Oper} {a : Act} {w : World} {Q : Exit → Act → World → Prop} (hgd : o.guard = none) (sl x : Operand) (t : TypeId)
    (ho : o.op = .call { callee := .builtin .append, args := #[sl, x], argTypes := #[t, t] })
    (base : Nat) (e : TypeId) (i : TypeInfo) (ht : P.underlying t = some (.slice e)) (hi : P.info? e = some i) (hz : i.zero = some (.int .u8 0)) (hsize : i.size = 1) (hby : i.bytes = 1)
    (v : Value) (n : Nat) (xs : List Value) (hs : a.eval sl = v) (hown : w.ownsRowF base e 1 v n xs) (ad : Addr) (m c : Nat) (news : List Value) (hx : a.eval x = .slice (some ad) m c) (hl : news.length = m) (hnews : ∀ j u, news[j]? = some u → w.cell? (ad.add j) = some u) (h1 : ∀ u ∈ news, u.oneCell' = true)
    (hbytes : n + m ≤ 140737488355328) (hbase : base ≤ w.heap.size)
    (h : ∀ v' w', w'.ownsRowF base e 1 v' (n + m) (xs ++ news) → w.grownBy w' v.ownBlock → (∀ g, v'.ownBlock = some g → v.ownBlock = some g ∨ w.heap.size ≤ g) → wpList P ops Q rest (a.put o.dst v') w') : wpList P ops Q (o :: rest) a w := by
  refine wpList_plain hgd fun K hK => ?_
  obtain ⟨v', w', hr, h2, h3, -⟩ := run_append_ownF (P := P) w base t o.type e i (.int .u8 0) 1 1 ht hi hz hsize hby rfl (by decide) v n xs hown ad m c news (by omega) hnews h1 (by unfold maxLen; omega) (by omega) hbase
  have h4 := byte_block w t o.type e i ht hi hz hsize hby hown ad m c news hl hnews h1 hbytes hr
  unfold Oper.wp execOp
  simp only [ho, resolve, invoke, builtin, Sem.run_bind, Sem.run_pure, Result.andThen_ok, List.map_toArray, List.map_cons, List.map_nil, hs, hx, hr]
  exact hK _ _ (h v' w' h2 h3 h4)
theorem byte_info : (Tryz.prog.info? 5).map (fun i => (i.zero, i.size, i.bytes)) = some (some (.int .u8 0), 1, 1) := by kernel_rfl
theorem bytes_und : Tryz.prog.underlying 29 = some (.slice 5) := by kernel_rfl
theorem str_und : Tryz.prog.underlying 9 = some .string := by kernel_rfl
set_option maxHeartbeats 2000000 in
set_option maxRecDepth 100000 in
theorem bstring {b : Nat} {p v : Value} {bs : List Value} (s : ByteArray) {w : World} (h : Bld 67 5 b p v bs w) (hlen : bs.length + s.size ≤ 140737488355328) :
    Calls Tryz.prog 22 #[.pointer (some ⟨b, 0, none⟩), .string s] w fun e w' => e = .returned (.tuple #[.int .i64 s.size, .nilIface]) ∧ ∃ v', Bld 67 5 b (.pointer (some ⟨b, 0, none⟩)) v' (bs ++ Lib.strCells s) w' ∧ Aside b v v' w w' := by
  obtain ⟨i0, hi, hz0, hz1, hz2⟩ := info_parts byte_info
  go_enter Tryz.func22, Tryz.ntmps22
  go_wp2_with (go_at_call 41; refine (bcheck h).mono ?_)
  rintro e w1 ⟨rfl, h1, ha1⟩
  have hlt1 := h1.lt
  have c0 : w1.cell? ⟨b, 0, none⟩ = some (.pointer (some ⟨b, 0, none⟩)) := by rw [Lib.cell_of_heap h1.heap]; rfl
  have c1 : w1.cell? ⟨b, 1, none⟩ = some v := by rw [Lib.cell_of_heap h1.heap]; rfl
  go_wp2_with (at_builtin; refine wpStr rfl _ _ 29 9 rfl b 5 i0 bytes_und str_und hi hz0 hz1 hz2 _ _ _ rfl h1.own s rfl hlen (Nat.le_of_lt hlt1) ?_)
  intro v' w2 hown' hgrow hv'
  have hb2 : w2.heap[b]? = some (.cells #[.pointer (some ⟨b, 0, none⟩), v] 67 (0, 0)) := by
    rw [hgrow.block b hlt1 (fun e => h1.ne e.symm)]
    exact h1.heap
  have d0 : w2.cell? ⟨b, 0, none⟩ = some (.pointer (some ⟨b, 0, none⟩)) := by rw [Lib.cell_of_heap hb2]; rfl
  have d1 : w2.cell? ⟨b, 1, none⟩ = some v := by rw [Lib.cell_of_heap hb2]; rfl
  have f1 : w2.frozen? ⟨b, 1, none⟩ = false := Lib.frozen_of_heap hb2 1
  have hfin := bld_put (bs' := bs ++ Lib.strCells s) (by decide) h1 hgrow (by rw [List.length_append, Lib.strCells_length]; exact hown') hv'
  have HF := Lib.hid (And.intro hfin ha1)
  clear hfin ha1 hown' hgrow hv' h1 h
  obtain ⟨ao, n', cap, rfl⟩ : ∃ ao n' cap, v' = .slice ao n' cap := by
    rcases HF.out.1.1.own.2 with ⟨hv, _⟩ | ⟨g, cap, cur, fz, hv, _⟩
    · exact ⟨_, _, _, hv⟩
    · exact ⟨_, _, _, hv⟩
  go_wp2
  go_ret2
  exact ⟨rfl, _, HF.out.1.1, HF.out.2.trans HF.out.1.2⟩
set_option maxHeartbeats 2000000 in
set_option maxRecDepth 100000 in
theorem bbyte {b : Nat} {p v : Value} {bs : List Value} (c : Int) {w : World} (h : Bld 67 5 b p v bs w) (hlen : bs.length + 1 ≤ 140737488355328) :
    Calls Tryz.prog 23 #[.pointer (some ⟨b, 0, none⟩), .int .u8 c] w fun e w' => e = .returned .nilIface ∧ ∃ v', Bld 67 5 b (.pointer (some ⟨b, 0, none⟩)) v' (bs ++ [.int .u8 c]) w' ∧ Aside b v v' w w' := by
  obtain ⟨i0, hi, hz0, hz1, hz2⟩ := info_parts byte_info
  go_enter Tryz.func23, Tryz.ntmps23
  go_wp2_with (go_at_call 41; refine (bcheck h).mono ?_)
  rintro e w1 ⟨rfl, h1, ha1⟩
  have hlt1 := h1.lt
  have c0 : w1.cell? ⟨b, 0, none⟩ = some (.pointer (some ⟨b, 0, none⟩)) := by rw [Lib.cell_of_heap h1.heap]; rfl
  have c1 : w1.cell? ⟨b, 1, none⟩ = some v := by rw [Lib.cell_of_heap h1.heap]; rfl
  go_wp2_with (at_builtin; refine wpByte rfl _ _ 29 rfl b 5 i0 bytes_und hi hz0 hz1 hz2 _ _ _ rfl (h1.own.alloc _) ⟨w1.heap.size, 0, none⟩ 1 1 [.int .u8 c] rfl rfl ?c1 ?c2 hlen ?c5 ?_)
  case c1 =>
    intro j u hj
    match j, hj with
    | 0, hj => simp at hj; subst hj; simp [Addr.add]
  case c2 => intro u hu; simp at hu; subst hu; rfl
  case c5 => simp; omega
  intro v' w2 hown' hgrow hv'
  have hg2 : w1.grownBy w2 v.ownBlock := by
    refine ⟨hgrow.os, hgrow.tape, hgrow.output, by have := hgrow.size; simp at this; omega, fun k hk hkv => ?_⟩
    rw [hgrow.block k (by simp; omega) hkv, Lib.alloc_old w1 _ k hk]
  have hv2 : ∀ g, v'.ownBlock = some g → v.ownBlock = some g ∨ w1.heap.size ≤ g := fun g hg => (hv' g hg).imp id (fun q => by first | omega | (simp at q; omega) | exact Nat.le_of_succ_le q)
  have hb2 : w2.heap[b]? = some (.cells #[.pointer (some ⟨b, 0, none⟩), v] 67 (0, 0)) := by
    rw [hg2.block b hlt1 (fun e => h1.ne e.symm)]
    exact h1.heap
  have d0 : w2.cell? ⟨b, 0, none⟩ = some (.pointer (some ⟨b, 0, none⟩)) := by rw [Lib.cell_of_heap hb2]; rfl
  have d1 : w2.cell? ⟨b, 1, none⟩ = some v := by rw [Lib.cell_of_heap hb2]; rfl
  have f1 : w2.frozen? ⟨b, 1, none⟩ = false := Lib.frozen_of_heap hb2 1
  have hfin := bld_put (bs' := bs ++ [.int .u8 c]) (by decide) h1 hg2 (by simpa using hown') hv2
  have HF := Lib.hid (And.intro hfin ha1)
  clear hfin ha1 hown' hgrow hv' h1 h hg2 hv2
  obtain ⟨ao, n', cap, rfl⟩ : ∃ ao n' cap, v' = .slice ao n' cap := by
    rcases HF.out.1.1.own.2 with ⟨hv, _⟩ | ⟨g, cap, cur, fz, hv, _⟩
    · exact ⟨_, _, _, hv⟩
    · exact ⟨_, _, _, hv⟩
  go_wp2
  go_ret
  exact ⟨rfl, _, HF.out.1.1, HF.out.2.trans HF.out.1.2⟩
end
end Go.Proofs.YtadimoijlgmecaaGreatDoor.Ax
/- Layer show: a program's text. -/
set_option linter.unusedVariables false
set_option linter.unusedSimpArgs false
namespace Go.Proofs.YtadimoijlgmecaaGreatDoor.Ax
open Go Go.RowKit
def textK : Ctr := { A := List Cls, enc := fun p => [.agg [prgR p]], dom := prgD, res := fun p _ => .tup [.row UInt8 1 byteC 0 (showF p).1, I (showF p).2], gl := tabS }
theorem shaped_below {w w' : World} (h : Below w.heap.size w w') : Shaped w w' := ⟨h.size, fun k hk => by simp only [World.shape?, h.block k hk]⟩
theorem sealed_below {H : HM} {w w' : World} (hs : Sealed H w) (h : Below w.heap.size w w') : Sealed H w' := fun b o v e => by
  have := hs b o v e
  have hlt := World.block_lt_of_cell? w _ this
  rw [← this]
  simp only [World.cell?, h.block b hlt]
/-- a call in a later world -/
theorem ctr_later {P : Program} {g : Nat} {c : Ctr} (h : CtrSound P g c) (x : c.A) {H : HM} {w w1 : World} {vs : Array Value} (id : Nat) (hd : c.dom x) (hs : Sealed H w) (hgl : ∀ w', Sealed H w' → Shaped w w' → c.gl w') (hb : Below w.heap.size w w1)
    (hn : vs.size = (c.enc x).length) (hg : ∀ j, j < (c.enc x).length → G H noB noT (at' (c.enc x) j .junk) (vs.getD j undef)) :
    Calls P g vs w1 fun e w' => ∃ v H', e = .returned v ∧ Below w1.heap.size w1 w' ∧ HLe H H' ∧ (∀ b o, b < w1.heap.size → H' b o = H b o) ∧ Sealed H' w' ∧ ∃ T', G H' noB T' (c.res x id) v := by
  refine (h.2 x H w1 vs id hd (sealed_below hs hb) (fun w' h1 h2 => hgl w' h1 ((shaped_below hb).trans h2)) hn hg).mono ?_
  rintro e w' ⟨v, H', T', rfl, h1, h2, h3, -, h5, h6, -⟩
  exact ⟨v, H', rfl, h1, h2, h3, fun b o u e => (h5 b o u e).1, T', h6⟩
theorem row_val {H : HM} {β : BM} {T : TM} {X : Type} {sz : Nat} {cs : X → List SV} {d : X} {l : List X} {v : Value} (h : G H β T (.row X sz cs d l) v) : ∃ a n c, v = .slice a n c := by cases h <;> exact ⟨_, _, _, rfl⟩
theorem sep_eq (s : ByteArray) : (s.toList = [123] ∨ s.toList = [125] ∨ s.toList = [59] → sepOf s = 10) ∧ (¬ (s.toList = [123] ∨ s.toList = [125] ∨ s.toList = [59]) → sepOf s = 32) := by
  have k1 : s.toList = [123] ↔ s = wLc := by
    have := ba_eq s wLc
    rw [show wLc.toList = [123] by decide +kernel] at this
    rw [← beq_iff_eq (a := s.toList), this, decide_eq_true_iff]
  have k2 : s.toList = [125] ↔ s = wRc := by
    have := ba_eq s wRc
    rw [show wRc.toList = [125] by decide +kernel] at this
    rw [← beq_iff_eq (a := s.toList), this, decide_eq_true_iff]
  have k3 : s.toList = [59] ↔ s = wSemi := by
    have := ba_eq s wSemi
    rw [show wSemi.toList = [59] by decide +kernel] at this
    rw [← beq_iff_eq (a := s.toList), this, decide_eq_true_iff]
  rw [k1, k2, k3]
  exact ⟨fun h => if_pos h, fun h => if_neg h⟩
theorem tokB_len {w : ByteArray} (h : tokB w = true) : w.data.toList.length ≤ 21 := by
  rcases tok_cases h with ⟨n, e, h1, h2⟩ | h | h
  · rw [e]; exact Lib.itoa_length_le n (by omega) (by omega)
  · obtain ⟨c, r, -, -, -, h4⟩ := name_form.1 h; omega
  · omega
theorem putW_flat (ws : List ByteArray) (h : Toks ws) : (ws.flatMap putW).length ≤ 22 * ws.length :=
  flat_le putW 22 ws fun w hw => by have := tokB_len (h w hw); unfold putW; simp only [List.length_append, List.length_cons, List.length_nil]; omega
theorem cells_put (acc : List UInt8) (ws : List ByteArray) (m : Nat) (hm : m < ws.length) {s : ByteArray} (hs : s = ws.getD m noS) {n : Int} (hn : n = ((sepOf s).toNat : Int)) :
    Lib.byteCells (acc ++ (ws.take m).flatMap putW) ++ Lib.strCells s ++ [.int .u8 n] = Lib.byteCells (acc ++ (ws.take (m + 1)).flatMap putW) := by
  rw [flat_snoc putW ws noS m hm, ← hs, hn]
  unfold putW
  rw [Lib.strCells_eq, ← Lib.byteCells_append, ← List.append_assoc, Lib.byteCells_append, ← List.append_assoc, Lib.byteCells_append, Lib.byteCells_append]
  simp [Lib.byteCells]
def TextPost (p : List Cls) (H : HM) (w : World) (e : Ending) (w' : World) : Prop :=
  ∃ v H', e = .returned v ∧ Below w.heap.size w w' ∧ HLe H H' ∧ (∀ b o, b < w.heap.size → H' b o = H b o) ∧ Sealed H' w' ∧ G H' noB noT (textK.res p 0) v
def TextRow (p : List Cls) (H : HM) (ad : Option Addr) : Prop :=
  ∀ k, k < p.length → ∃ B off, ad = some ⟨B, off, none⟩ ∧ ∃ vs : Nat → Value, (∀ j, j < 6 → H B (off + k * 6 + j) = some (vs j)) ∧ ∀ j, j < 6 → G H noB noT (at' (clsC (p.getD k cls0)) j .junk) (vs j)
def TextRel (p : List Cls) (w : World) (b : Nat) (i : Value) (wr : World) : Prop :=
  ∃ k v q, k ≤ p.length ∧ i = .int .i64 k ∧ Bld 67 5 b q v (Lib.byteCells ((p.take k).flatMap textC)) wr ∧ Below w.heap.size w wr
def TextRel2 (ws : List ByteArray) (acc : List UInt8) (v : Value) (w3 : World) (b : Nat) (j : Value) (wq : World) : Prop :=
  ∃ m v' q', m ≤ ws.length ∧ j = .int .i64 m ∧ Bld 67 5 b q' v' (Lib.byteCells (acc ++ (ws.take m).flatMap putW)) wq ∧ Aside b v v' w3 wq
theorem bld_below {T e : TypeId} {b : Nat} {q v : Value} {bs : List Value} {w w' : World} (h : Bld T e b q v bs w) (hb : Below w.heap.size w w') : Bld T e b q v bs w' :=
  ⟨(hb.block b h.lt).trans h.heap, h.own.kept (row := none) ⟨hb.os, hb.tape, hb.output, hb.size, fun k hk _ => hb.block k hk⟩ (by cases hv : v.ownBlock <;> simp), h.ne, h.ptr⟩
theorem wordsC_ne (c : Cls) : 0 < (wordsC c).length := by rw [wordsC_eq]; simp only [List.length_append, List.length_cons]; omega
theorem wordsC_len {c : Cls} (h : clsOk c = true) : (wordsC c).length ≤ 2500 := by
  obtain ⟨hp1, hp2, hp3, hp4, hp5⟩ := cls_parts h
  have hll := listF_len (if c.iface then wExtends else wImplements) c.ifaces
  have hsl : (supC c).length ≤ 2 := by unfold supC; split <;> simp
  have hl3 := hp3.1
  have hm1 : (doC1 c).length ≤ 20 := by unfold doC1 hdC lstC; simp only [List.length_append, List.length_cons, List.length_nil]; omega
  have h1 := flat_le fldF 7 c.fields fun x _ => fldF_len x
  have h2 := flat_le doesF 400 c.methods fun x hx => does_len (hp5.2 x hx)
  have h3 := hp4.1
  have h4 := hp5.1
  rw [wordsC_eq]; simp only [List.length_append, List.length_cons, List.length_nil]; omega
theorem textC_len {c : Cls} (h : clsOk c = true) : (textC c).length ≤ 55000 := by
  have h1 := putW_flat _ (cls_tok h)
  have h2 := wordsC_len h
  unfold textC; omega
theorem textP_len {p : List Cls} (h : prgOk p = true) (k : Nat) : ((p.take k).flatMap textC).length ≤ 550000 := by
  obtain ⟨h1, h2⟩ := prg_parts h
  have h3 := flat_le textC 55000 (p.take k) fun c hc => textC_len (h2 c (List.mem_of_mem_take hc))
  have h4 : (p.take k).length ≤ 10 := by rw [List.length_take]; omega
  omega
theorem words_cells {H : HM} {T : TM} {l : List ByteArray} {id : Nat} {v : Value} (hl : 0 < l.length) (h : G H noB T (.own ByteArray 1 strC noS l id) v) :
    ∃ b off c, v = .slice (some ⟨b, off, none⟩) l.length c ∧ ∀ m, m < l.length → H b (off + m) = some (.string (l.getD m noS)) := by
  generalize hx : SV.own ByteArray 1 strC noS l id = x at h
  cases h with
  | ownE => cases hx; simp at hl
  | own X sz cs d l' id' b off c vs hc hz hH hG hT =>
    cases hx
    refine ⟨b, off, c, rfl, fun m hm => ?_⟩
    have h1 := hH m 0 hm (by omega)
    have h2 := hG m 0 hm (by omega)
    have h3 : vs m 0 = .string (l.getD m noS) := gval' (show G H noB noT (.val (.string (l.getD m noS))) _ from h2)
    rw [Nat.mul_one, Nat.add_zero] at h1
    rw [h1, h3]
  | _ => cases hx
theorem far_of {T e : TypeId} {b b2 off2 : Nat} {q v : Value} {bs : List Value} {w wr wa : World} {H H3 : HM} {l : List ByteArray} (hB : Bld T e b q v bs wr) (hs : Sealed H w) (hwb : w.heap.size ≤ b) (hold : b2 < wa.heap.size → H3 b2 off2 = H b2 off2)
    (hc : ∀ m, m < l.length → H3 b2 (off2 + m) = some (.string (l.getD m noS))) (hl : 0 < l.length) (hlt : wr.heap.size < wa.heap.size) : b2 ≠ b ∧ some b2 ≠ v.ownBlock := by
  have hbl := hB.lt
  by_cases h : b2 < wa.heap.size
  · have h1 := hc 0 hl
    rw [Nat.add_zero, hold h] at h1
    have h2 := World.block_lt_of_cell? w _ (hs _ _ _ h1)
    have h2 : b2 < w.heap.size := h2
    exact ⟨by omega, fun e => by have := (hB.own.lt b2 e.symm).1; omega⟩
  · exact ⟨by omega, fun e => by have := (hB.own.lt b2 e.symm).2; omega⟩
theorem text_args {H : HM} {c : Cls} {vs : Nat → Value} {a3 a4 a5 : Option Addr} {n3 k3 n4 k4 n5 k5 : Nat} (hG : ∀ j, j < 6 → G H noB noT (at' (clsC c) j .junk) (vs j))
    (he : vs 0 = .string c.name ∧ vs 1 = .bool c.iface ∧ vs 2 = .string c.super ∧ vs 3 = .slice a3 n3 k3 ∧ vs 4 = .slice a4 n4 k4 ∧ vs 5 = .slice a5 n5 k5) :
    ∀ j, j < (wordsK.enc c).length → G H noB noT (at' (wordsK.enc c) j .junk) ((#[Value.agg #[.string c.name, .bool c.iface, .string c.super, .slice a3 n3 k3, .slice a4 n4 k4, .slice a5 n5 k5]] : Array Value).getD j undef) := by
  intro j hj
  obtain rfl : j = 0 := by have : j < 1 := hj; omega
  refine .agg _ _ rfl fun i hi => ?_
  have hi : i < 6 := hi
  obtain ⟨e0, e1, e2, e3, e4, e5⟩ := he
  have := hG i hi
  match i, hi with
  | 0, _ => rw [e0] at this; exact this
  | 1, _ => rw [e1] at this; exact this
  | 2, _ => rw [e2] at this; exact this
  | 3, _ => rw [e3] at this; exact this
  | 4, _ => rw [e4] at this; exact this
  | 5, _ => rw [e5] at this; exact this
theorem u8_und : Tryz.prog.underlying 5 = some (.int .u8) := by kernel_rfl
/-- a text as a new row of bytes -/
theorem bytes_row {P : Program} {H : HM} {w : World} (hs : Sealed H w) (e : TypeId) (l : List UInt8) (k : Nat) :
    ∃ H', Below w.heap.size w (Lib.bytesWorld w e ⟨l.toArray⟩) ∧ HLe H H' ∧ (∀ b o, b < w.heap.size → H' b o = H b o) ∧ Sealed H' (Lib.bytesWorld w e ⟨l.toArray⟩) ∧
      ∀ c, (⟨l.toArray⟩ : ByteArray).size ≤ c → G H' noB noT (.row UInt8 1 byteC 0 l) (.slice (some ⟨w.heap.size, 0, none⟩) (⟨l.toArray⟩ : ByteArray).size c) := by
  have hlt : ∀ b o v, H b o = some v → b < w.heap.size := fun b o v e => World.block_lt_of_cell? w _ (hs b o v e)
  have hsz : (⟨l.toArray⟩ : ByteArray).size = l.length := by rw [← sz_len]
  refine ⟨fun b o => if b = w.heap.size ∧ o < l.length then some (.int .u8 ((l.getD o 0).toNat : Int)) else H b o, ⟨rfl, rfl, rfl, by rw [Lib.bytesWorld_size]; omega, fun k hk => Lib.bytesWorld_at_old w _ _ k hk⟩, ?_, ?_, ?_, ?_⟩
  · intro b o v h
    show (if _ then _ else _) = _
    rw [if_neg (fun c => by have := hlt b o v h; omega)]; exact h
  · intro b o h
    show (if _ then _ else _) = _
    rw [if_neg (fun c => by omega)]
  · intro b o v h
    by_cases c : b = w.heap.size ∧ o < l.length
    · have h : (if b = w.heap.size ∧ o < l.length then some (.int .u8 ((l.getD o 0).toNat : Int)) else H b o) = some v := h
      rw [if_pos c] at h
      rw [c.1, Lib.bytesWorld_cell w e _ o (by rw [hsz]; exact c.2), ← h]
    · have h : (if b = w.heap.size ∧ o < l.length then some (.int .u8 ((l.getD o 0).toNat : Int)) else H b o) = some v := h
      rw [if_neg c] at h
      rw [Lib.bytesWorld_old w e _ _ (hlt b o v h)]; exact hs b o v h
  · intro c hc
    rw [hsz] at hc ⊢
    refine .row UInt8 1 byteC 0 l w.heap.size 0 c (fun i j => .int .u8 ((l.getD i 0).toNat : Int)) hc (fun i _ => rfl) (fun i j hi hj => ?_) (fun i j hi hj => ?_)
    · obtain rfl : j = 0 := by omega
      show (if _ then _ else _) = _
      rw [if_pos ⟨rfl, by omega⟩, show 0 + i * 1 + 0 = i by omega]
    · obtain rfl : j = 0 := by omega
      exact .val _
set_option maxHeartbeats 4000000 in
set_option maxRecDepth 100000 in
theorem text_walk (p : List Cls) (H : HM) (w : World) (ad : Option Addr) (cap : Nat) (hd : prgD p) (hs : Sealed H w) (hgl : ∀ w', Sealed H w' → Shaped w w' → tabS w') (hsl : G H noB noT (prgR p) (.slice ad p.length cap)) (hrow : TextRow p H ad) :
    Calls Tryz.prog 10 #[.agg #[.slice ad p.length cap]] w (TextPost p H w) := by
  have hb1 : Below w.heap.size w (w.alloc (.cells #[.slice ad p.length cap] 24)) := (Below.refl _ _).alloc (Nat.le_refl _) _
  have cck := ctr_later ok_ok p (w1 := w.alloc (.cells #[.slice ad p.length cap] 24)) (vs := #[.agg #[.slice ad p.length cap]]) 0 hd hs hgl hb1 rfl (fun j hj => by
    obtain rfl : j = 0 := by have : j < 1 := hj; omega
    refine .agg _ _ rfl fun q hq => ?_
    obtain rfl : q = 0 := by have : q < 1 := hq; omega
    exact hsl)
  have HR := Lib.hid hrow
  clear hrow
  have hpl : p.length ≤ 100000 := hd.1
  go_enter Tryz.func10, Tryz.ntmps10
  go_wp2_with (go_at_call 14; refine cck.mono ?_)
  rintro e w2 ⟨v, H2, rfl, hb2, -, -, -, T2, hv⟩
  have hv : v = .int .i64 (if prgOk p then 0 else 4) := gval' hv
  subst hv
  have hb02 : Below w.heap.size w w2 := hb1.trans (hb2.mono (by simp))
  clear cck
  have hc2 : w2.cell? ⟨w.heap.size, 0, none⟩ = some (.slice ad p.length cap) := by
    rw [hb2.cell (p := ⟨w.heap.size, 0, none⟩) (by simp)]
    rw [World.cell?_alloc_new]; rfl
  by_cases hok : prgOk p = true
  · rw [if_pos hok]
    have hlt2 : w.heap.size < w2.heap.size := by have := hb2.size; simp at this; omega
    have hc3 : (w2.alloc (.cells #[.pointer none, .slice none 0 0] 67)).cell? ⟨w.heap.size, 0, none⟩ = some (.slice ad p.length cap) := by
      rw [← hc2]; simp only [World.cell?, Below.heap_alloc _ _ _ hlt2]
    go_wp2
    go_loopw [15] (TextRel p w w2.heap.size) (fun i _ => p.length - (intOf i).toNat)
    case atStart =>
      refine ⟨0, _, _, Nat.zero_le _, rfl, ⟨heap_alloc_new w2 _, World.ownsRowF_nil _ _ _ _, by simp [Value.ownBlock], .inl rfl⟩, hb02.alloc hb02.size _⟩
    case round =>
      obtain ⟨k, v, q, hk, rfl, hB, hbw⟩ := hrel
      by_cases hlt : k < p.length
      · obtain ⟨B, off, rfl, vs, hH, hG⟩ := HR.out k hlt
        have hc : ∀ j, j < 6 → wr.cell? ⟨B, off + k * 6 + j, none⟩ = some (vs j) := fun j hj => sealed_below hs hbw _ _ _ (hH j hj)
        obtain ⟨c, hce⟩ : ∃ c, c = p.getD k cls0 := ⟨_, rfl⟩
        rw [← hce] at hG
        have e0 : vs 0 = .string c.name := gval' (hG 0 (by omega))
        have e1 : vs 1 = .bool c.iface := gval' (hG 1 (by omega))
        have e2 : vs 2 = .string c.super := gval' (hG 2 (by omega))
        obtain ⟨a3, n3, k3, e3⟩ : ∃ a n c, vs 3 = .slice a n c := row_val (hG 3 (by omega))
        obtain ⟨a4, n4, k4, e4⟩ : ∃ a n c, vs 4 = .slice a n c := row_val (hG 4 (by omega))
        obtain ⟨a5, n5, k5, e5⟩ : ∃ a n c, vs 5 = .slice a n c := row_val (hG 5 (by omega))
        have c0 : wr.cell? ⟨B, off + k * 6, none⟩ = some (vs 0) := hc 0 (by omega)
        have c1 := hc 1 (by omega)
        have c2 := hc 2 (by omega)
        have c3 := hc 3 (by omega)
        have c4 := hc 4 (by omega)
        have c5 := hc 5 (by omega)
        rw [e0] at c0
        rw [e1] at c1
        rw [e2] at c2
        rw [e3] at c3
        rw [e4] at c4
        rw [e5] at c5
        have HE := Lib.hid (And.intro e0 (And.intro e1 (And.intro e2 (And.intro e3 (And.intro e4 e5)))))
        have HC := Lib.hid hc
        have HH := Lib.hid hH
        have HG := Lib.hid hG
        have HB := Lib.hid hB
        have HW := Lib.hid hbw
        have hcok : clsOk c = true := by rw [hce]; exact (prg_parts hok).2 _ (getT_mem p cls0 k hlt)
        have HCE := Lib.hid hce
        clear e0 e1 e2 e3 e4 e5 hc hH hG hB hbw hce
        have hlw : wr.heap.size < (wr.alloc (.cells #[.string c.name, .bool c.iface, .string c.super, .slice a3 n3 k3, .slice a4 n4 k4, .slice a5 n5 k5] 46)).heap.size := by simp
        have HA : Below wr.heap.size wr (wr.alloc (.cells #[.string c.name, .bool c.iface, .string c.super, .slice a3 n3 k3, .slice a4 n4 k4, .slice a5 n5 k5] 46)) := (Below.refl _ _).alloc (Nat.le_refl _) _
        go_wp2_with fail
        refine (ctr_later words_ok c (w := w) (H := H) 0 hcok hs hgl (HW.out.trans (HA.mono HW.out.size)) rfl (text_args HG.out HE.out)).mono ?_
        rintro e w3 ⟨v3, H3, rfl, hb3, -, hold3, hseal3, T3, hv3⟩
        have hB3 : Bld 67 5 w2.heap.size q v (Lib.byteCells ((p.take k).flatMap textC)) w3 := bld_below HB.out (HA.trans (hb3.mono (Nat.le_of_lt hlw)))
        have hbw3 : Below w.heap.size w w3 := HW.out.trans ((HA.mono HW.out.size).trans (hb3.mono (by have := HW.out.size; omega)))
        obtain ⟨b2, off2, cap2, rfl, hcell⟩ := words_cells (wordsC_ne c) hv3
        have hfar : b2 ≠ w2.heap.size ∧ some b2 ≠ v.ownBlock := far_of HB.out hs hb02.size (hold3 b2 off2) hcell (wordsC_ne c) hlw
        have HK := Lib.hid (show ∀ wq v', Aside w2.heap.size v v' w3 wq → ∀ m, m < (wordsC c).length → wq.cell? ⟨b2, off2 + m, none⟩ = some (.string ((wordsC c).getD m noS)) from fun wq v' ha m hm => by
          have h1 := hseal3 _ _ _ (hcell m hm)
          have h2 := World.block_lt_of_cell? w3 _ h1
          rw [← h1]
          simp only [World.cell?, ha.keep b2 h2 hfar.1 hfar.2])
        have HB3 := Lib.hid hB3
        have HW3 := Lib.hid hbw3
        have hwl : (wordsC c).length ≤ 2500 := wordsC_len hcok
        have HL := Lib.hid (show ∀ m s, s = (wordsC c).getD m noS → ((p.take k).flatMap textC ++ ((wordsC c).take m).flatMap putW).length + s.size ≤ 100000000 from fun m s hs => by
          have h1 := textP_len hok k
          have h2 := putW_flat ((wordsC c).take m) (fun x hx => cls_tok hcok x (List.mem_of_mem_take hx))
          have h3 : ((wordsC c).take m).length ≤ (wordsC c).length := by rw [List.length_take]; omega
          have h4 := wordsC_len hcok
          have h5 : s.size ≤ 21 := by
            rw [hs, ← sz_len]
            by_cases hm : m < (wordsC c).length
            · exact tokB_len (cls_tok hcok _ (getT_mem _ noS m hm))
            · simp [List.getD, List.getElem?_eq_none (by omega : (wordsC c).length ≤ m), noS]
          rw [List.length_append]; omega)
        clear hB3 hbw3 hcell hfar hold3 hseal3 hv3 hb3 hlw
        go_wp2
        go_loopw [22] (TextRel2 (wordsC c) ((p.take k).flatMap textC) v w3 w2.heap.size) (fun j _ => (wordsC c).length - (intOf j).toNat)
        case atStart => exact ⟨0, v, q, Nat.zero_le _, rfl, by simpa using HB3.out, Aside.refl _ _ _⟩
        case round =>
          obtain ⟨m, v', q', hm, rfl, hB4, ha4⟩ := hrel
          by_cases hmt : m < (wordsC c).length
          · have d0 := HK.out _ _ ha4 m hmt
            have HB4 := Lib.hid hB4
            have HA4 := Lib.hid ha4
            clear hB4 ha4
            obtain ⟨s, hse⟩ : ∃ s, s = (wordsC c).getD m noS := ⟨_, rfl⟩
            rw [← hse] at d0
            have HS := Lib.hid hse
            clear hse
            go_wp2_with fail
            refine (bstring s HB4.out (by rw [Lib.byteCells_length]; exact Nat.le_trans (HL.out m s HS.out) (by omega))).mono ?_
            rintro e w5 ⟨rfl, v5, hB5, ha5⟩
            have HB5 := Lib.hid hB5
            have HA5 := Lib.hid ha5
            clear hB5 ha5
            go_wp2_with fail
            all_goals
              refine (bbyte _ HB5.out (by rw [List.length_append, Lib.byteCells_length, Lib.strCells_length]; have := HL.out m s HS.out; omega)).mono ?_
              rintro e w6 ⟨rfl, v6, hB6, ha6⟩
              first
                | have hsp : sepOf s = 10 := (sep_eq s).1 (by first | exact .inl ‹_› | exact .inr (.inl ‹_›) | (have hx := ‹((s.toList == [123]) = true ∨ (s.toList == [125]) = true) ∨ (s.toList == [59]) = true›; simpa [or_assoc] using hx))
                | have hsp : sepOf s = 32 := (sep_eq s).2 (by have hx := ‹((s.toList == [123]) = false ∧ (s.toList == [125]) = false) ∧ (s.toList == [59]) = false›; simpa [and_assoc] using hx)
              rw [cells_put _ _ m hmt HS.out (by rw [hsp]; rfl)] at hB6
              have HB6 := Lib.hid hB6
              have HA6 := Lib.hid ha6
              have HSP := Lib.hid hsp
              clear hB6 ha6 hsp
              go_wp2
              go_roundw
              case rel => exact ⟨m + 1, v6, _, by omega, by go_num, HB6.out, HA4.out.trans (HA5.out.trans HA6.out)⟩
              case measure => simp [intOf]; omega
          · have hme : m = (wordsC c).length := by omega
            have HB4 := Lib.hid hB4
            have HA4 := Lib.hid ha4
            have HME := Lib.hid hme
            clear hB4 ha4 hme
            go_wp2
            go_roundw
            case rel =>
              refine ⟨k + 1, v', q', by omega, by go_num, ?_, ?_⟩
              · have := HB4.out
                rw [HME.out, List.take_length] at this
                rw [flat_snoc textC p cls0 k hlt, ← HCE.out]
                exact this
              · exact HW3.out.trans (HA4.out.below.mono hb02.size)
            case measure => simp [intOf]; omega
      · have hke : k = p.length := by omega
        have htxt : (p.take k).flatMap textC = textP p := by rw [hke, List.take_length]; rfl
        rw [htxt] at hB
        have cLen : Calls Tryz.prog 24 #[.pointer (some ⟨w2.heap.size, 0, none⟩)] wr fun e w' => e = .returned (.int .i64 (textP p).length) ∧ w' = wr := by
          refine (Tryz.Builder_Len_f w2.heap.size w2.heap.size _ _ hB.isF).mono ?_
          rintro e w' ⟨rfl, h⟩
          rw [Lib.byteCells_length]; exact ⟨rfl, h⟩
        have cStr := Tryz.Builder_String_any_k w2.heap.size w2.heap.size (textP p) _ hB.isF (Nat.le_of_lt hB.lt)
        have hbig2 := textP_len hok k
        rw [htxt] at hbig2
        have HB := Lib.hid hB
        have HW := Lib.hid hbw
        have HKE := Lib.hid hke
        clear hB hbw hke htxt
        go_wp2_with fail
        refine cLen.mono ?_
        rintro e w4 ⟨rfl, rfl⟩
        by_cases hbig : 6000 < (textP p).length
        · go_wp2
          go_ret2
          refine ⟨_, H, rfl, HW.out, .refl _, fun _ _ _ => rfl, sealed_below hs HW.out, ?_⟩
          have e : showF p = ([], 2) := by unfold showF; rw [if_pos hok, if_pos hbig]
          show G H noB noT (.tup [.row UInt8 1 byteC 0 (showF p).1, I (showF p).2]) _
          rw [e]
          refine .tup _ _ rfl fun j hj => ?_
          match j, hj with
          | 0, _ => exact .rowE ..
          | 1, _ => exact .val _
        · go_wp2_with fail
          refine cStr.mono ?_
          rintro e w5 ⟨rfl, -, hb5, -⟩
          have hconv := Lib.run_convert_string_bytes (P := Tryz.prog) w5 9 29 5 ⟨(textP p).toArray⟩ str_und bytes_und u8_und
          have hb05 : Below w.heap.size w w5 := HW.out.trans (hb5.mono hb02.size)
          have HW5 := Lib.hid hb05
          clear hb05 hb5
          go_wp2
          go_ret2
          obtain ⟨H', hbn, hle, hold, hseal, hrow'⟩ := bytes_row (P := Tryz.prog) (sealed_below hs HW5.out) 5 (textP p) 0
          refine ⟨_, H', rfl, HW5.out.trans (hbn.mono HW5.out.size), hle, fun b o h => hold b o (by have := HW5.out.size; omega), hseal, ?_⟩
          have e : showF p = (textP p, 0) := by unfold showF; rw [if_pos hok, if_neg hbig]
          show G H' noB noT (.tup [.row UInt8 1 byteC 0 (showF p).1, I (showF p).2]) _
          rw [e]
          refine .tup _ _ rfl fun j hj => ?_
          match j, hj with
          | 0, _ => exact hrow' _ (grownCap_ge _ _ _ _)
          | 1, _ => exact .val _
  · rw [if_neg hok]
    go_wp2
    go_ret2
    refine ⟨_, H, rfl, hb02, .refl _, fun _ _ _ => rfl, sealed_below hs hb02, ?_⟩
    have e : showF p = ([], 4) := by unfold showF; rw [if_neg hok]
    show G H noB noT (.tup [.row UInt8 1 byteC 0 (showF p).1, I (showF p).2]) _
    rw [e]
    refine .tup _ _ rfl fun j hj => ?_
    match j, hj with
    | 0, _ => exact .rowE ..
    | 1, _ => exact .val _
theorem row_cells' {H : HM} {X : Type} {sz : Nat} {cs : X → List SV} {d : X} {l : List X} {v : Value} (h : G H noB noT (.row X sz cs d l) v) :
    ∃ ad cap, v = .slice ad l.length cap ∧ ∀ k, k < l.length → ∃ B off, ad = some ⟨B, off, none⟩ ∧ ∃ vs : Nat → Value, (∀ j, j < sz → H B (off + k * sz + j) = some (vs j)) ∧ ∀ j, j < sz → G H noB noT (at' (cs (l.getD k d)) j .junk) (vs j) := by
  cases h with
  | rowE _ _ _ _ a c => exact ⟨a, c, rfl, fun k hk => by simp at hk⟩
  | row _ _ _ _ _ b off c vs hc hz hH hG => exact ⟨_, c, rfl, fun k hk => ⟨b, off, rfl, vs k, fun j hj => hH k j hk hj, fun j hj => hG k j hk hj⟩⟩
theorem text_ok : CtrSound Tryz.prog 10 textK := by
  refine ⟨⟨_, Tryz.func10, by kernel_rfl, by kernel_rfl⟩, fun p H w vs id hd hs hgl hn hg => ?_⟩
  obtain ⟨v, rfl, h1⟩ := args1 hn hg
  cases h1 with
  | agg _ us hu hgu =>
    obtain ⟨us⟩ := us
    match us, hu with
    | [u], _ =>
      have h2 : G H noB noT (prgR p) u := hgu 0 (Nat.succ_pos _)
      obtain ⟨ad, cap, rfl, h3⟩ := row_cells' h2
      refine (text_walk p H w ad cap hd hs (fun w' a b => hgl w' a b) h2 h3).mono ?_
      rintro e w' ⟨v, H', rfl, q1, q2, q3, q4, q5⟩
      exact ⟨v, H', noT, rfl, q1, q2, q3, fun _ _ _ h => (by cases h), fun b o u hu => ⟨q4 b o u hu, rfl⟩, q5, fun h => by cases h⟩
end Go.Proofs.YtadimoijlgmecaaGreatDoor.Ax
/- Layers parse and show: what is more than is played. PRINTED by wip/sp/sq.py. -/
set_option linter.unusedVariables false
set_option linter.unusedSimpArgs false
namespace Go.Proofs.YtadimoijlgmecaaGreatDoor.Ax
open Go Go.RowKit
end Go.Proofs.YtadimoijlgmecaaGreatDoor.Ax
/- Layer parse: the reader's small steps. -/
set_option linter.unusedVariables false
set_option linter.unusedSimpArgs false
namespace Go.Proofs.YtadimoijlgmecaaGreatDoor.Ax
open Go Go.RowKit
/-- what lies in the package variables that the library reads -/
def tabP (w : World) : Prop := tabs w ∧ Lib.TabIs Tryz.prog w "strings.asciiSpace" .u8 Lib.asciiSpaceTab
def rok (r : Rs) : Prop := r.L.length ≤ 1000000 ∧ r.i ≤ r.L.length
theorem rok_fwd {r r' : Rs} (h : rok r) (f : Fwd r r') : rok r' := ⟨by rw [f.L]; exact h.1, f.ok h.2⟩
/-- a contract of a reader's method that only reads -/
def reC (A : Type) (a : A → List SV) (v : Rs → A → Nat → SV) (d : A → Prop) : Ctr := { A := Rs × A, enc := fun x => .elt Unit 5 (fun _ => rsC x.1) () [()] 0 0 :: a x.2, dom := fun x => rok x.1 ∧ d x.2, res := fun x id => v x.1 x.2 id, gl := tabP }
/-- .. that goes on -/
def rdC (A : Type) (a : A → List SV) (v : Rs → A → Nat → SV) (p : Rs → A → Rs) (d : A → Prop) : CtrB := { A := Rs × A, enc := fun x => .box 1000 0 :: a x.2, pre := fun x => [rsC x.1], dom := fun x => rok x.1 ∧ d x.2, res := fun x id => v x.1 x.2 id, post := fun x _ => [rsC (p x.1 x.2)], gl := tabP }
theorem Sub.tokEq {a b : Tok} (h : a = b) : Sub (tokS a) (tokS b) := by subst h; exact .refl _
def nextC : Ctr := reC Unit (fun _ => []) (fun r _ _ => tokS r.next) fun _ => True
set_option maxRecDepth 100000 in
theorem next_ok : CtrSound Tryz.prog 97 nextC :=
  ctr_of_ax (env_okB tys_ok (eqs := []) trivial (cs := []) trivial (bs := []) trivial (gl := tabP)) mixed _ Tryz.func97 (by kernel_rfl) rfl (fun _ _ => Nat.le_of_ble_eq_true rfl) fun ((r, u) : Rs × Unit) id hd => by
    have hd : r.L.length ≤ 1000000 ∧ r.i ≤ r.L.length := hd.1
    refine ⟨by kernel_rfl, ?_⟩
    refine ⟨fun h => ?_, fun h => ?_⟩
    · have e : r.next = tok0 := Rs.next_none fun c => by
        have h : (r.e != 0) = true := h
        rw [c.1] at h; simp at h
      exact ⟨.tokEq e.symm, rfl⟩
    have h1 : r.e = 0 := by
      have h : (r.e != 0) = false := h
      simpa using h
    refine ⟨fun h => ?_, fun h => ?_⟩
    · have h2 : ¬ r.i < r.L.length := by
        have h : decide ((r.i : Int) ≥ (r.L.length : Int)) = true := h
        have := of_decide_eq_true h; omega
      exact ⟨.tokEq (Rs.next_none fun c => h2 c.2).symm, rfl⟩
    have h2 : r.i < r.L.length := by
      have h : decide ((r.i : Int) ≥ (r.L.length : Int)) = false := h
      have := of_decide_eq_false h; omega
    refine ⟨by kernel_rfl, ?_⟩
    refine ⟨(show 0 ≤ (r.i : Int) ∧ (r.i : Int) < (r.L.length : Int) from ⟨by omega, by omega⟩), ?_⟩
    exact ⟨.tokEq (Rs.next_some ⟨h1, h2⟩).symm, rfl⟩
def isC : Ctr := reC ByteArray (fun w => [S w]) (fun r w _ => B (r.is w)) fun _ => True
theorem noS_eq (w : ByteArray) : (w.toList == noS.toList) = decide (w = noS) := ba_eq w noS
set_option maxRecDepth 100000 in
theorem is_ok : CtrSound Tryz.prog 62 isC :=
  ctr_of_ax (env_okB tys_ok (eqs := []) trivial (cs := [(97, nextC)]) ⟨next_ok, trivial⟩ (bs := []) trivial (gl := tabP)) mixed _ Tryz.func62 (by kernel_rfl) rfl (fun _ _ => Nat.le_of_ble_eq_true rfl) fun ((r, w) : Rs × ByteArray) id hd => by
    refine ⟨(r, ()), ⟨.refl _, trivial⟩, rfl, ⟨hd.1, trivial⟩, ?_⟩
    refine ⟨fun h => ?_, fun h => ?_⟩
    · have h : (r.next.2.1.toList == w.toList) = true := h
      rw [ba_eq] at h
      exact ⟨.bool (by show (!(w.toList == noS.toList)) = r.is w; unfold Rs.is; rw [h, noS_eq]; simp), rfl⟩
    · have h : (r.next.2.1.toList == w.toList) = false := h
      rw [ba_eq] at h
      exact ⟨.bff (by unfold Rs.is; rw [h]; rfl), rfl⟩
def failC : CtrB := rdC Int (fun e => [I e]) (fun _ _ _ => .tup []) (fun r e => r.fail e) fun _ => True
theorem rL {a b : Rs} (h : a = b) : a.L = b.L := congrArg Rs.L h
theorem rI {a b : Rs} (h : a = b) : (a.i : Int) = (b.i : Int) := congrArg (fun s : Rs => (s.i : Int)) h
theorem rN {a b : Rs} (h : a = b) : a.n = b.n := congrArg Rs.n h
theorem rA {a b : Rs} (h : a = b) : a.at' = b.at' := congrArg Rs.at' h
theorem rE {a b : Rs} (h : a = b) : a.e = b.e := congrArg Rs.e h
theorem hwI {r : Rs} (hd : rok r) : IntKind.i64.wrap ((r.i : Int) + 1) = (r.step.i : Int) := by
  have h1 := hd.1; have h2 := hd.2
  show _ = ((r.i + 1 : Nat) : Int)
  rw [wrap_eq _ (by omega) (by omega)]; omega
set_option maxRecDepth 100000 in
theorem fail_ok : CtrBSound Tryz.prog 98 failC :=
  ctrB_of_ax2 mixed _ Tryz.func98 (by kernel_rfl) rfl (fun _ _ => ⟨Nat.le_of_ble_eq_true rfl, Nat.le_of_ble_eq_true rfl⟩) fun ((r, e) : Rs × Int) id hd => by
    refine ⟨_, ⟨env_okB tys_ok (eqs := []) trivial (cs := []) trivial (bs := []) trivial (gl := tabP), fun _ h => h⟩, ?_⟩
    have hd : r.L.length ≤ 1000000 ∧ r.i ≤ r.L.length := hd.1
    refine ⟨fun h => ?_, fun h => ?_⟩
    · have h : (r.e != 0) = true := h
      have hE : r = r.fail e := (if_neg (by simpa using h)).symm
      exact ⟨.refl (.tup []), ⟨rfl, .rowEq (rL hE :), .int (rI hE :), .int (rN hE :), .int (rA hE :), .int (rE hE :), trivial⟩, trivial⟩
    have h1 : r.e = 0 := by
      have h : (r.e != 0) = false := h
      simpa using h
    have e1 : r.fail e = ⟨r.L, r.n, r.i, if r.i < r.L.length then (r.L.getD r.i tok0).2.2.2 else r.n, e⟩ := if_pos h1
    refine ⟨by kernel_rfl, ?_⟩
    refine ⟨fun h => ?_, fun h => ?_⟩
    · have h2 : r.i < r.L.length := dlt h
      refine ⟨by kernel_rfl, ?_⟩
      refine ⟨(show 0 ≤ (r.i : Int) ∧ (r.i : Int) < (r.L.length : Int) from ⟨by omega, by omega⟩), ?_⟩
      have hE : (⟨r.L, r.n, r.i, (r.L.getD r.i tok0).2.2.2, e⟩ : Rs) = r.fail e := by rw [e1, if_pos h2]
      exact ⟨.refl (.tup []), ⟨rfl, .rowEq (rL hE :), .int (rI hE :), .int (rN hE :), .int (rA hE :), .int (rE hE :), trivial⟩, trivial⟩
    · have h2 : ¬ r.i < r.L.length := by
        have h : decide ((r.i : Int) < (r.L.length : Int)) = false := h
        have := dge h; omega
      have hE : (⟨r.L, r.n, r.i, r.n, e⟩ : Rs) = r.fail e := by rw [e1, if_neg h2]
      exact ⟨.refl (.tup []), ⟨rfl, .rowEq (rL hE :), .int (rI hE :), .int (rN hE :), .int (rA hE :), .int (rE hE :), trivial⟩, trivial⟩
end Go.Proofs.YtadimoijlgmecaaGreatDoor.Ax
/- Layer parse: the reader takes words. -/
set_option linter.unusedVariables false
set_option linter.unusedSimpArgs false
namespace Go.Proofs.YtadimoijlgmecaaGreatDoor.Ax
open Go Go.RowKit
def takeC : CtrB := rdC ByteArray (fun w => [S w]) (fun r w _ => B (r.is w)) (fun r w => r.take w) fun _ => True
set_option maxRecDepth 100000 in
theorem take_ok : CtrBSound Tryz.prog 66 takeC :=
  ctrB_of_ax2 mixed _ Tryz.func66 (by kernel_rfl) rfl (fun _ _ => ⟨Nat.le_of_ble_eq_true rfl, Nat.le_of_ble_eq_true rfl⟩) fun ((r, w) : Rs × ByteArray) id hd => by
    refine ⟨_, ⟨env_okB tys_ok (eqs := []) trivial (cs := [(62, isC)]) ⟨is_ok, trivial⟩ (bs := []) trivial (gl := tabP), fun _ h => h⟩, ?_⟩
    refine ⟨(r, w), ⟨.refl _, .refl _, trivial⟩, rfl, ⟨hd.1, trivial⟩, ?_⟩
    refine ⟨fun h => ?_, fun h => ?_⟩
    · have h : (!r.is w) = true := h
      have h1 : r.is w = false := by simpa using h
      have hE : r = r.take w := (if_neg (by rw [h1]; decide)).symm
      exact ⟨.bff h1, ⟨rfl, .rowEq (rL hE :), .int (rI hE :), .int (rN hE :), .int (rA hE :), .int (rE hE :), trivial⟩, trivial⟩
    · have h : (!r.is w) = false := h
      have h1 : r.is w = true := by simpa using h
      have hE : r.step = r.take w := ((if_pos h1)).symm
      exact ⟨.btt h1, ⟨rfl, .rowEq (rL hE :), .int ((hwI hd.1).trans (rI hE :)), .int (rN hE :), .int (rA hE :), .int (rE hE :), trivial⟩, trivial⟩
def wantC : CtrB := rdC ByteArray (fun w => [S w]) (fun _ _ _ => .tup []) (fun r w => r.want w) fun _ => True
set_option maxRecDepth 100000 in
theorem want_ok : CtrBSound Tryz.prog 64 wantC :=
  ctrB_of_ax2 mixed _ Tryz.func64 (by kernel_rfl) rfl (fun _ _ => ⟨Nat.le_of_ble_eq_true rfl, Nat.le_of_ble_eq_true rfl⟩) fun ((r, w) : Rs × ByteArray) id hd => by
    refine ⟨_, ⟨env_okB tys_ok (eqs := []) trivial (cs := []) trivial (bs := [(66, takeC), (98, failC)]) ⟨take_ok, fail_ok, trivial⟩ (gl := tabP), fun _ h => h⟩, ?_⟩
    refine ⟨by kernel_rfl, ?_⟩
    refine ⟨(r, w), ⟨.refl _, .refl _, trivial⟩, ⟨⟨rfl, .refl _, .refl _, .refl _, .refl _, .refl _, trivial⟩, trivial⟩, ⟨hd.1, trivial⟩, ?_⟩
    refine ⟨fun h => ?_, fun h => ?_⟩
    · have h : (!r.is w) = true := h
      have h1 : r.is w = false := by simpa using h
      refine ⟨by kernel_rfl, ?_⟩
      refine ⟨(r.take w, 4), ⟨.refl _, .refl _, trivial⟩, ⟨⟨rfl, .refl _, .refl _, .refl _, .refl _, .refl _, trivial⟩, trivial⟩, ⟨rok_fwd hd.1 (Rs.take_fwd r w), trivial⟩, ?_⟩
      have hE : (r.take w).fail 4 = r.want w := (by unfold Rs.take Rs.want; rw [if_neg (by rw [h1]; decide), if_neg (by rw [h1]; decide)])
      exact ⟨.refl (.tup []), ⟨rfl, .rowEq (rL hE :), .int (rI hE :), .int (rN hE :), .int (rA hE :), .int (rE hE :), trivial⟩, trivial⟩
    · have h : (!r.is w) = false := h
      have h1 : r.is w = true := by simpa using h
      have hE : r.take w = r.want w := (by unfold Rs.take Rs.want; rw [if_pos h1, if_pos h1])
      exact ⟨.refl (.tup []), ⟨rfl, .rowEq (rL hE :), .int (rI hE :), .int (rN hE :), .int (rA hE :), .int (rE hE :), trivial⟩, trivial⟩
def freeC : Ctr := reC Unit (fun _ => []) (fun r _ _ => B r.free) fun _ => True
set_option maxRecDepth 100000 in
theorem free_ok : CtrSound Tryz.prog 99 freeC :=
  ctr_of_ax (env_okB tys_ok (eqs := []) trivial (cs := [(97, nextC), (74, keptC)]) ⟨next_ok, kept_ok, trivial⟩ (bs := []) trivial (gl := tabP)) mixed _ Tryz.func99 (by kernel_rfl) rfl (fun _ _ => Nat.le_of_ble_eq_true rfl) fun ((r, u) : Rs × Unit) id hd => by
    refine ⟨(r, ()), ⟨.refl _, trivial⟩, rfl, ⟨hd.1, trivial⟩, ?_⟩
    refine ⟨fun h => ?_, fun h => ?_⟩
    · have h : (r.next.1 == 1) = true := h
      refine ⟨r.next.2.1.data.toList, ⟨.refl _, trivial⟩, rfl, trivial, ?_⟩
      exact ⟨.bool (by show (!keptW r.next.2.1) = r.free; unfold Rs.free; rw [eqT h]; rfl), rfl⟩
    · have h : (r.next.1 == 1) = false := h
      exact ⟨.bff (by unfold Rs.free; rw [decide_eq_false (eqF h)]; rfl), rfl⟩
def freshRC : CtrB := rdC Unit (fun _ => []) (fun r _ _ => S r.freshV) (fun r _ => r.fresh) fun _ => True
set_option maxRecDepth 100000 in
theorem freshR_ok : CtrBSound Tryz.prog 65 freshRC :=
  ctrB_of_ax2 mixed _ Tryz.func65 (by kernel_rfl) rfl (fun _ _ => ⟨Nat.le_of_ble_eq_true rfl, Nat.le_of_ble_eq_true rfl⟩) fun ((r, u) : Rs × Unit) id hd => by
    refine ⟨_, ⟨env_okB tys_ok (eqs := []) trivial (cs := [(99, freeC)]) ⟨free_ok, trivial⟩ (bs := [(98, failC)]) ⟨fail_ok, trivial⟩ (gl := tabP), fun _ h => h⟩, ?_⟩
    refine ⟨(r, ()), ⟨.refl _, trivial⟩, rfl, ⟨hd.1, trivial⟩, ?_⟩
    refine ⟨fun h => ?_, fun h => ?_⟩
    · have h : (!r.free) = true := h
      have h1 : r.free = false := by simpa using h
      refine ⟨by kernel_rfl, ?_⟩
      refine ⟨(r, 4), ⟨.refl _, .refl _, trivial⟩, ⟨⟨rfl, .refl _, .refl _, .refl _, .refl _, .refl _, trivial⟩, trivial⟩, ⟨hd.1, trivial⟩, ?_⟩
      have hE : r.fail 4 = r.fresh := (if_neg (by rw [h1]; decide)).symm
      exact ⟨.str (if_neg (by rw [h1]; decide)).symm, ⟨rfl, .rowEq (rL hE :), .int (rI hE :), .int (rN hE :), .int (rA hE :), .int (rE hE :), trivial⟩, trivial⟩
    · have h : (!r.free) = false := h
      have h1 : r.free = true := by simpa using h
      have hat := Rs.free_at h1
      have hk : r.L.length ≤ 1000000 := hd.1.1
      have hk2 : r.i ≤ r.L.length := hd.1.2
      have hw : IntKind.i64.wrap ((r.i : Int) + 1) = ((r.i + 1 : Nat) : Int) := by rw [wrap_eq _ (by omega) (by omega)]; omega
      have hw2 : IntKind.i64.wrap (IntKind.i64.wrap ((r.i : Int) + 1) - 1) = (r.i : Int) := by rw [hw, wrap_eq _ (by omega) (by omega)]; omega
      refine ⟨by kernel_rfl, ?_⟩
      refine ⟨(show 0 ≤ IntKind.i64.wrap (IntKind.i64.wrap ((r.i : Int) + 1) - 1) ∧ IntKind.i64.wrap (IntKind.i64.wrap ((r.i : Int) + 1) - 1) < (r.L.length : Int) by rw [hw2]; omega), ?_⟩
      have hE : r.step = r.fresh := ((if_pos h1)).symm
      refine ⟨.str ?_, ⟨rfl, .rowEq (rL hE :), .int ((hwI hd.1).trans (rI hE :)), .int (rN hE :), .int (rA hE :), .int (rE hE :), trivial⟩, trivial⟩
      show (r.L.getD (IntKind.i64.wrap (IntKind.i64.wrap ((r.i : Int) + 1) - 1)).toNat tok0).2.1 = r.freshV
      rw [hw2]
      unfold Rs.freshV
      rw [if_pos h1, Rs.next_some hat]
      rfl
def numRC : CtrB := rdC (Int × Int) (fun x => [I x.1, I x.2]) (fun r x _ => I (r.numV x.1 x.2)) (fun r x => r.num x.1 x.2) fun _ => True
set_option maxRecDepth 100000 in
theorem numR_ok : CtrBSound Tryz.prog 124 numRC :=
  ctrB_of_ax2 mixed _ Tryz.func124 (by kernel_rfl) rfl (fun _ _ => ⟨Nat.le_of_ble_eq_true rfl, Nat.le_of_ble_eq_true rfl⟩) fun ((r, lo, hi) : Rs × Int × Int) id hd => by
    refine ⟨_, ⟨env_okB tys_ok (eqs := []) trivial (cs := [(97, nextC)]) ⟨next_ok, trivial⟩ (bs := [(98, failC)]) ⟨fail_ok, trivial⟩ (gl := tabP), fun _ h => h⟩, ?_⟩
    refine ⟨(r, ()), ⟨.refl _, trivial⟩, rfl, ⟨hd.1, trivial⟩, ?_⟩
    have no : r.numOk lo hi = false → 0 = r.numV lo hi ∧ r.fail 4 = r.num lo hi := fun h => ⟨(if_neg (by rw [h]; decide)).symm, (if_neg (by rw [h]; decide)).symm⟩
    refine ⟨fun h1 => ?_, fun h1 => ?_⟩
    · have hn : r.numOk lo hi = false := decide_eq_false fun c => by
        have h1 : (r.next.1 != 2) = true := h1
        rw [c.1] at h1; simp at h1
      refine ⟨by kernel_rfl, ?_⟩
      refine ⟨(r, 4), ⟨.refl _, .refl _, trivial⟩, ⟨⟨rfl, .refl _, .refl _, .refl _, .refl _, .refl _, trivial⟩, trivial⟩, ⟨hd.1, trivial⟩, ?_⟩
      have hE := (no hn).2
      exact ⟨.int (no hn).1, ⟨rfl, .rowEq (rL hE :), .int (rI hE :), .int (rN hE :), .int (rA hE :), .int (rE hE :), trivial⟩, trivial⟩
    have h1 : (r.next.1 != 2) = false := h1
    have e1 : r.next.1 = 2 := by simpa using h1
    refine ⟨fun h2 => ?_, fun h2 => ?_⟩
    · have h2 : r.next.2.2.1 < lo := of_decide_eq_true h2
      have hn : r.numOk lo hi = false := decide_eq_false fun c => by omega
      refine ⟨by kernel_rfl, ?_⟩
      refine ⟨(r, 4), ⟨.refl _, .refl _, trivial⟩, ⟨⟨rfl, .refl _, .refl _, .refl _, .refl _, .refl _, trivial⟩, trivial⟩, ⟨hd.1, trivial⟩, ?_⟩
      have hE := (no hn).2
      exact ⟨.int (no hn).1, ⟨rfl, .rowEq (rL hE :), .int (rI hE :), .int (rN hE :), .int (rA hE :), .int (rE hE :), trivial⟩, trivial⟩
    have h2 : ¬ r.next.2.2.1 < lo := of_decide_eq_false h2
    refine ⟨fun h3 => ?_, fun h3 => ?_⟩
    · have h3 : r.next.2.2.1 > hi := of_decide_eq_true h3
      have hn : r.numOk lo hi = false := decide_eq_false fun c => by omega
      refine ⟨by kernel_rfl, ?_⟩
      refine ⟨(r, 4), ⟨.refl _, .refl _, trivial⟩, ⟨⟨rfl, .refl _, .refl _, .refl _, .refl _, .refl _, trivial⟩, trivial⟩, ⟨hd.1, trivial⟩, ?_⟩
      have hE := (no hn).2
      exact ⟨.int (no hn).1, ⟨rfl, .rowEq (rL hE :), .int (rI hE :), .int (rN hE :), .int (rA hE :), .int (rE hE :), trivial⟩, trivial⟩
    have h3 : ¬ r.next.2.2.1 > hi := of_decide_eq_false h3
    have hy : r.numOk lo hi = true := decide_eq_true ⟨e1, by omega, by omega⟩
    have hE : r.step = r.num lo hi := ((if_pos hy)).symm
    exact ⟨.int (if_pos hy).symm, ⟨rfl, .rowEq (rL hE :), .int ((hwI hd.1).trans (rI hE :)), .int (rN hE :), .int (rA hE :), .int (rE hE :), trivial⟩, trivial⟩
def roomC : CtrB := rdC (Int × Int) (fun x => [I x.1, I x.2]) (fun _ _ _ => .tup []) (fun r x => r.room x.1 x.2) fun _ => True
set_option maxRecDepth 100000 in
theorem room_ok : CtrBSound Tryz.prog 63 roomC :=
  ctrB_of_ax2 mixed _ Tryz.func63 (by kernel_rfl) rfl (fun _ _ => ⟨Nat.le_of_ble_eq_true rfl, Nat.le_of_ble_eq_true rfl⟩) fun ((r, a, b) : Rs × Int × Int) id hd => by
    refine ⟨_, ⟨env_okB tys_ok (eqs := []) trivial (cs := []) trivial (bs := [(98, failC)]) ⟨fail_ok, trivial⟩ (gl := tabP), fun _ h => h⟩, ?_⟩
    refine ⟨fun h => ?_, fun h => ?_⟩
    · have h : a ≥ b := of_decide_eq_true h
      refine ⟨by kernel_rfl, ?_⟩
      refine ⟨(r, 2), ⟨.refl _, .refl _, trivial⟩, ⟨⟨rfl, .refl _, .refl _, .refl _, .refl _, .refl _, trivial⟩, trivial⟩, ⟨hd.1, trivial⟩, ?_⟩
      have hE : r.fail 2 = r.room a b := (if_pos h).symm
      exact ⟨.refl (.tup []), ⟨rfl, .rowEq (rL hE :), .int (rI hE :), .int (rN hE :), .int (rA hE :), .int (rE hE :), trivial⟩, trivial⟩
    · have h : ¬ a ≥ b := of_decide_eq_false h
      have hE : r = r.room a b := (if_neg h).symm
      exact ⟨.refl (.tup []), ⟨rfl, .rowEq (rL hE :), .int (rI hE :), .int (rN hE :), .int (rA hE :), .int (rE hE :), trivial⟩, trivial⟩
def rowRC : CtrB := rdC Unit (fun _ => []) (fun r _ _ => B (r.is wLb)) (fun r _ => r.rowR) fun _ => True
set_option maxRecDepth 100000 in
theorem rowR_ok : CtrBSound Tryz.prog 123 rowRC :=
  ctrB_of_ax2 mixed _ Tryz.func123 (by kernel_rfl) rfl (fun _ _ => ⟨Nat.le_of_ble_eq_true rfl, Nat.le_of_ble_eq_true rfl⟩) fun ((r, u) : Rs × Unit) id hd => by
    refine ⟨_, ⟨env_okB tys_ok (eqs := []) trivial (cs := []) trivial (bs := [(66, takeC), (64, wantC)]) ⟨take_ok, want_ok, trivial⟩ (gl := tabP), fun _ h => h⟩, ?_⟩
    refine ⟨by kernel_rfl, ?_⟩
    refine ⟨(r, wLb), ⟨.refl _, .str rfl, trivial⟩, ⟨⟨rfl, .refl _, .refl _, .refl _, .refl _, .refl _, trivial⟩, trivial⟩, ⟨hd.1, trivial⟩, ?_⟩
    refine ⟨fun h => ?_, fun h => ?_⟩
    · have h : (!r.is wLb) = true := h
      have h1 : r.is wLb = false := by simpa using h
      have hE : r.take wLb = r.rowR := (by unfold Rs.take Rs.rowR; rw [if_neg (by rw [h1]; decide), if_neg (by rw [h1]; decide)])
      exact ⟨.bff h1, ⟨rfl, .rowEq (rL hE :), .int (rI hE :), .int (rN hE :), .int (rA hE :), .int (rE hE :), trivial⟩, trivial⟩
    · have h : (!r.is wLb) = false := h
      have h1 : r.is wLb = true := by simpa using h
      refine ⟨by kernel_rfl, ?_⟩
      refine ⟨(r.take wLb, wRb), ⟨.refl _, .str rfl, trivial⟩, ⟨⟨rfl, .refl _, .refl _, .refl _, .refl _, .refl _, trivial⟩, trivial⟩, ⟨rok_fwd hd.1 (Rs.take_fwd r wLb), trivial⟩, ?_⟩
      have hE : (r.take wLb).want wRb = r.rowR := (by unfold Rs.take Rs.rowR; rw [if_pos h1, if_pos h1])
      exact ⟨.btt h1, ⟨rfl, .rowEq (rL hE :), .int (rI hE :), .int (rN hE :), .int (rA hE :), .int (rE hE :), trivial⟩, trivial⟩
end Go.Proofs.YtadimoijlgmecaaGreatDoor.Ax
/- Layer parse: names, types, parameters. -/
set_option linter.unusedVariables false
set_option linter.unusedSimpArgs false
namespace Go.Proofs.YtadimoijlgmecaaGreatDoor.Ax
open Go Go.RowKit
theorem notT {b : Bool} (h : (!b) = true) : b = false := by simpa using h
theorem notF {b : Bool} (h : (!b) = false) : b = true := by simpa using h
theorem take_yes {r : Rs} {w : ByteArray} (h : r.is w = true) : r.take w = r.step := if_pos h
theorem take_no {r : Rs} {w : ByteArray} (h : r.is w = false) : r.take w = r := if_neg (by rw [h]; decide)
theorem need_le (r : Rs) : r.need ≤ r.L.length + 2 := by
  unfold Rs.need
  split <;> omega
def nmsC : CtrB := rdC Unit (fun _ => []) (fun r _ id => .own ByteArray 1 strC noS r.names.1 id) (fun r _ => r.names.2) fun _ => True
set_option maxRecDepth 100000 in
theorem nms_ok : CtrBSound Tryz.prog 67 nmsC :=
  ctrB_of_ax2 mixed _ Tryz.func67 (by kernel_rfl) rfl (fun _ _ => ⟨Nat.le_of_ble_eq_true rfl, Nat.le_of_ble_eq_true rfl⟩) fun ((r, u) : Rs × Unit) id hd => by
    refine ⟨_, ⟨env_okB tys_ok (eqs := []) trivial (cs := [(99, freeC)]) ⟨free_ok, trivial⟩ (bs := [(66, takeC), (65, freshRC), (63, roomC)]) ⟨take_ok, freshR_ok, room_ok, trivial⟩ (gl := tabP), fun _ h => h⟩, ?_⟩
    have hL : r.L.length ≤ 1000000 := hd.1.1
    refine ⟨by kernel_rfl, ?_⟩
    refine ⟨(r, ()), ⟨.refl _, trivial⟩, ⟨⟨rfl, .refl _, .refl _, .refl _, .refl _, .refl _, trivial⟩, trivial⟩, ⟨hd.1, trivial⟩, ?_⟩
    refine ⟨ByteArray, strC, noS, [r.freshV], ⟨rfl, fun _ => rfl⟩, ⟨.refl _, trivial⟩, rfl, ?_⟩
    refine ⟨Nat × Rs × List ByteArray × Bool, fun s => [(0, .box 1000 0), (3, .own ByteArray 1 strC noS s.2.2.1 (if s.2.2.2 then 19 else 6))], fun s => [(1000, rsC s.2.1)],
      fun s => Rs.namesL s.1 s.2.1 s.2.2.1 = r.names ∧ s.2.1.need ≤ s.1 ∧ Fwd r s.2.1 ∧ s.2.2.1.length + s.1 = r.L.length + 3, fun s => s.1,
      ⟨(r.L.length + 2, r.fresh, [r.freshV], false), ⟨rfl, (by have := need_le r.fresh; rw [(Rs.fresh_fwd r).L] at this; exact this), Rs.fresh_fwd r, (by show 1 + (r.L.length + 2) = _; omega)⟩, ⟨⟨rfl, rfl⟩, .refl _, .refl _, ⟨.refl _, .refl _, .refl _, .refl _, .refl _, trivial⟩, trivial⟩⟩, fun ((k, q, out, b) : Nat × Rs × List ByteArray × Bool) hx => ?_⟩
    have hx1 : Rs.namesL k q out = r.names := hx.1
    have hx2 : q.need ≤ k := hx.2.1
    have hx3 : Fwd r q := hx.2.2.1
    have hx4 : out.length + k = r.L.length + 3 := hx.2.2.2
    obtain ⟨k, rfl⟩ : ∃ k', k = k' + 1 := ⟨k - 1, by have := Rs.need_pos q; omega⟩
    have hq : rok q := rok_fwd hd.1 hx3
    refine ⟨by kernel_rfl, ?_⟩
    refine ⟨(q, wComma), ⟨.refl _, .str rfl, trivial⟩, ⟨⟨rfl, .refl _, .refl _, .refl _, .refl _, .refl _, trivial⟩, trivial⟩, ⟨hq, trivial⟩, ?_⟩
    refine ⟨fun h => ?_, fun h => ?_⟩
    · have h1 : q.is wComma = true := h
      have hat := Rs.is_at h1
      have hst := take_yes h1
      have hqs : rok (q.take wComma) := rok_fwd hq (Rs.take_fwd q _)
      have hn1 := Rs.name1_fwd hat (out.length : Int)
      have hrn : rok (q.name1 out.length) := rok_fwd hq hn1
      rw [Rs.namesL, if_pos h1] at hx1
      have hinv : Rs.namesL k (q.name1 out.length).fresh (out ++ [(q.name1 out.length).freshV]) = r.names ∧ (q.name1 out.length).fresh.need ≤ k ∧ Fwd r (q.name1 out.length).fresh ∧ (out ++ [(q.name1 out.length).freshV]).length + k = r.L.length + 3 := by
        have hf := hn1.trans (Rs.fresh_fwd _)
        have := Rs.need_lt hat hf (Rs.on_fwd (Rs.name1_on q out.length) (Rs.fresh_fwd _))
        exact ⟨hx1, by omega, hx3.trans hf, by simp; omega⟩
      refine ⟨(q.take wComma, ()), ⟨.refl _, trivial⟩, rfl, ⟨hqs, trivial⟩, ?_⟩
      refine ⟨fun h => ?_, fun h => ?_⟩
      · have h2 : (q.take wComma).free = true := h
        refine ⟨by kernel_rfl, ?_⟩
        refine ⟨(q.take wComma, (out.length : Int), 4), ⟨.refl _, .refl _, .refl _, trivial⟩, ⟨⟨rfl, .refl _, .refl _, .refl _, .refl _, .refl _, trivial⟩, trivial⟩, ⟨hqs, trivial⟩, ?_⟩
        have hE : (q.take wComma).room out.length 4 = q.name1 out.length := by
          rw [hst] at h2 ⊢
          unfold Rs.name1; rw [if_pos h2]
        refine ⟨by kernel_rfl, ?_⟩
        refine ⟨(q.name1 out.length, ()), ⟨.refl _, trivial⟩, ⟨⟨rfl, .rowEq (rL hE :), .int (rI hE :), .int (rN hE :), .int (rA hE :), .int (rE hE :), trivial⟩, trivial⟩, ⟨hrn, trivial⟩, ?_⟩
        refine ⟨ByteArray, strC, noS, [(q.name1 out.length).freshV], ⟨rfl, fun _ => rfl⟩, ⟨.refl _, trivial⟩, rfl, ?_⟩
        cases b
        · refine ⟨ByteArray, strC, noS, out, [(q.name1 out.length).freshV], 6, ⟨.refl _, .own ..⟩, fun _ => rfl, (by show (out.length + 1) * 16 ≤ 140737488355328; omega), ?_⟩
          exact ⟨(k, (q.name1 out.length).fresh, out ++ [(q.name1 out.length).freshV], true), hinv, Nat.lt_succ_self _, ⟨rfl, rfl⟩, .refl _, .refl _, ⟨.refl _, .refl _, .refl _, .refl _, .refl _, trivial⟩, trivial⟩
        · refine ⟨ByteArray, strC, noS, out, [(q.name1 out.length).freshV], 19, ⟨.refl _, .own ..⟩, fun _ => rfl, (by show (out.length + 1) * 16 ≤ 140737488355328; omega), ?_⟩
          exact ⟨(k, (q.name1 out.length).fresh, out ++ [(q.name1 out.length).freshV], true), hinv, Nat.lt_succ_self _, ⟨rfl, rfl⟩, .refl _, .refl _, ⟨.refl _, .refl _, .refl _, .refl _, .refl _, trivial⟩, trivial⟩
      · have h2 : (q.take wComma).free = false := h
        have hE : q.take wComma = q.name1 out.length := by
          rw [hst] at h2 ⊢
          unfold Rs.name1; rw [if_neg (by rw [h2]; decide)]
        refine ⟨by kernel_rfl, ?_⟩
        refine ⟨(q.name1 out.length, ()), ⟨.refl _, trivial⟩, ⟨⟨rfl, .rowEq (rL hE :), .int (rI hE :), .int (rN hE :), .int (rA hE :), .int (rE hE :), trivial⟩, trivial⟩, ⟨hrn, trivial⟩, ?_⟩
        refine ⟨ByteArray, strC, noS, [(q.name1 out.length).freshV], ⟨rfl, fun _ => rfl⟩, ⟨.refl _, trivial⟩, rfl, ?_⟩
        cases b
        · refine ⟨ByteArray, strC, noS, out, [(q.name1 out.length).freshV], 6, ⟨.refl _, .own ..⟩, fun _ => rfl, (by show (out.length + 1) * 16 ≤ 140737488355328; omega), ?_⟩
          exact ⟨(k, (q.name1 out.length).fresh, out ++ [(q.name1 out.length).freshV], true), hinv, Nat.lt_succ_self _, ⟨rfl, rfl⟩, .refl _, .refl _, ⟨.refl _, .refl _, .refl _, .refl _, .refl _, trivial⟩, trivial⟩
        · refine ⟨ByteArray, strC, noS, out, [(q.name1 out.length).freshV], 19, ⟨.refl _, .own ..⟩, fun _ => rfl, (by show (out.length + 1) * 16 ≤ 140737488355328; omega), ?_⟩
          exact ⟨(k, (q.name1 out.length).fresh, out ++ [(q.name1 out.length).freshV], true), hinv, Nat.lt_succ_self _, ⟨rfl, rfl⟩, .refl _, .refl _, ⟨.refl _, .refl _, .refl _, .refl _, .refl _, trivial⟩, trivial⟩
    · have h1 : q.is wComma = false := h
      rw [Rs.namesL, if_neg (by rw [h1]; decide)] at hx1
      have hE : q.take wComma = r.names.2 := by rw [take_no h1, ← hx1]
      cases b
      · exact ⟨.ownEq (by rw [← hx1]), ⟨rfl, .rowEq (rL hE :), .int (rI hE :), .int (rN hE :), .int (rA hE :), .int (rE hE :), trivial⟩, trivial⟩
      · exact ⟨.ownEq (by rw [← hx1]), ⟨rfl, .rowEq (rL hE :), .int (rI hE :), .int (rN hE :), .int (rA hE :), .int (rE hE :), trivial⟩, trivial⟩
def kindRC : CtrB := rdC Unit (fun _ => []) (fun r _ _ => tyS r.kindV) (fun r _ => r.kind) fun _ => True
theorem Sub.tyEq {a b : Ty} (h : a = b) : Sub (tyS a) (tyS b) := by subst h; exact .refl _
set_option maxRecDepth 100000 in
theorem kindR_ok : CtrBSound Tryz.prog 100 kindRC :=
  ctrB_of_ax2 mixed _ Tryz.func100 (by kernel_rfl) rfl (fun _ _ => ⟨Nat.le_of_ble_eq_true rfl, Nat.le_of_ble_eq_true rfl⟩) fun ((r, u) : Rs × Unit) id hd => by
    refine ⟨_, ⟨env_okB tys_ok (eqs := []) trivial (cs := []) trivial (bs := [(66, takeC), (65, freshRC), (123, rowRC)]) ⟨take_ok, freshR_ok, rowR_ok, trivial⟩ (gl := tabP), fun _ h => h⟩, ?_⟩
    refine ⟨by kernel_rfl, ?_⟩
    refine ⟨(r, wVoid), ⟨.refl _, .str rfl, trivial⟩, ⟨⟨rfl, .refl _, .refl _, .refl _, .refl _, .refl _, trivial⟩, trivial⟩, ⟨hd.1, trivial⟩, ?_⟩
    refine ⟨fun h => ?_, fun h => ?_⟩
    · have h1 : r.is wVoid = true := h
      have hE : r.take wVoid = r.kind := by rw [take_yes h1]; unfold Rs.kind; rw [if_pos h1]
      have hV : ((1, noS) : Ty) = r.kindV := by unfold Rs.kindV; rw [if_pos h1]
      exact ⟨.tyEq hV, ⟨rfl, .rowEq (rL hE :), .int (rI hE :), .int (rN hE :), .int (rA hE :), .int (rE hE :), trivial⟩, trivial⟩
    have h1 : r.is wVoid = false := h
    have hE : r.take wVoid = r := take_no h1
    refine ⟨by kernel_rfl, ?_⟩
    refine ⟨(r, wInt), ⟨.refl _, .str rfl, trivial⟩, ⟨⟨rfl, .rowEq (rL hE :), .int (rI hE :), .int (rN hE :), .int (rA hE :), .int (rE hE :), trivial⟩, trivial⟩, ⟨hd.1, trivial⟩, ?_⟩
    clear hE
    refine ⟨fun h => ?_, fun h => ?_⟩
    · have h2 : r.is wInt = true := h
      have hst := take_yes h2
      refine ⟨by kernel_rfl, ?_⟩
      refine ⟨(r.take wInt, ()), ⟨.refl _, trivial⟩, ⟨⟨rfl, .refl _, .refl _, .refl _, .refl _, .refl _, trivial⟩, trivial⟩, ⟨rok_fwd hd.1 (Rs.take_fwd r _), trivial⟩, ?_⟩
      have hE : (r.take wInt).rowR = r.kind := by rw [hst]; unfold Rs.kind; rw [if_neg (by rw [h1]; decide), if_pos h2]
      refine ⟨fun h => ?_, fun h => ?_⟩
      · have h3 : (r.take wInt).is wLb = true := h
        have hV : ((4, noS) : Ty) = r.kindV := by rw [hst] at h3; unfold Rs.kindV; rw [if_neg (by rw [h1]; decide), if_pos h2, if_pos h3]
        exact ⟨.tyEq hV, ⟨rfl, .rowEq (rL hE :), .int (rI hE :), .int (rN hE :), .int (rA hE :), .int (rE hE :), trivial⟩, trivial⟩
      · have h3 : (r.take wInt).is wLb = false := h
        have hV : ((2, noS) : Ty) = r.kindV := by rw [hst] at h3; unfold Rs.kindV; rw [if_neg (by rw [h1]; decide), if_pos h2, if_neg (by rw [h3]; decide)]
        exact ⟨.tyEq hV, ⟨rfl, .rowEq (rL hE :), .int (rI hE :), .int (rN hE :), .int (rA hE :), .int (rE hE :), trivial⟩, trivial⟩
    have h2 : r.is wInt = false := h
    have hE : r.take wInt = r := take_no h2
    refine ⟨by kernel_rfl, ?_⟩
    refine ⟨(r, ()), ⟨.refl _, trivial⟩, ⟨⟨rfl, .rowEq (rL hE :), .int (rI hE :), .int (rN hE :), .int (rA hE :), .int (rE hE :), trivial⟩, trivial⟩, ⟨hd.1, trivial⟩, ?_⟩
    clear hE
    refine ⟨by kernel_rfl, ?_⟩
    refine ⟨(r.fresh, ()), ⟨.refl _, trivial⟩, ⟨⟨rfl, .refl _, .refl _, .refl _, .refl _, .refl _, trivial⟩, trivial⟩, ⟨rok_fwd hd.1 (Rs.fresh_fwd r), trivial⟩, ?_⟩
    have hE : r.fresh.rowR = r.kind := by unfold Rs.kind; rw [if_neg (by rw [h1]; decide), if_neg (by rw [h2]; decide)]
    refine ⟨fun h => ?_, fun h => ?_⟩
    · have h3 : r.fresh.is wLb = true := h
      have hV : ((5, r.freshV) : Ty) = r.kindV := by unfold Rs.kindV; rw [if_neg (by rw [h1]; decide), if_neg (by rw [h2]; decide), if_pos h3]
      exact ⟨.tyEq hV, ⟨rfl, .rowEq (rL hE :), .int (rI hE :), .int (rN hE :), .int (rA hE :), .int (rE hE :), trivial⟩, trivial⟩
    · have h3 : r.fresh.is wLb = false := h
      have hV : ((3, r.freshV) : Ty) = r.kindV := by unfold Rs.kindV; rw [if_neg (by rw [h1]; decide), if_neg (by rw [h2]; decide), if_neg (by rw [h3]; decide)]
      exact ⟨.tyEq hV, ⟨rfl, .rowEq (rL hE :), .int (rI hE :), .int (rN hE :), .int (rA hE :), .int (rE hE :), trivial⟩, trivial⟩
end Go.Proofs.YtadimoijlgmecaaGreatDoor.Ax
/- Layer parse: parameters, instructions. -/
set_option linter.unusedVariables false
set_option linter.unusedSimpArgs false
namespace Go.Proofs.YtadimoijlgmecaaGreatDoor.Ax
open Go Go.RowKit
def paramsRC : CtrB := rdC Unit (fun _ => []) (fun r _ id => .own Ty 2 tyC ty0 r.params.1 id) (fun r _ => r.params.2) fun _ => True
set_option maxRecDepth 100000 in
theorem paramsR_ok : CtrBSound Tryz.prog 101 paramsRC :=
  ctrB_of_ax2 mixed _ Tryz.func101 (by kernel_rfl) rfl (fun _ _ => ⟨Nat.le_of_ble_eq_true rfl, Nat.le_of_ble_eq_true rfl⟩) fun ((r, u) : Rs × Unit) id hd => by
    refine ⟨_, ⟨env_okB tys_ok (eqs := []) trivial (cs := [(99, freeC), (62, isC)]) ⟨free_ok, is_ok, trivial⟩ (bs := [(66, takeC), (64, wantC), (100, kindRC), (63, roomC)]) ⟨take_ok, want_ok, kindR_ok, room_ok, trivial⟩ (gl := tabP), fun _ h => h⟩, ?_⟩
    have hL : r.L.length ≤ 1000000 := hd.1.1
    have hf0 := Rs.want_fwd r wLp
    have hf1 : Fwd r (r.want wLp).kind := hf0.trans (Rs.kind_fwd _)
    refine ⟨by kernel_rfl, ?_⟩
    refine ⟨(r, wLp), ⟨.refl _, .str rfl, trivial⟩, ⟨⟨rfl, .refl _, .refl _, .refl _, .refl _, .refl _, trivial⟩, trivial⟩, ⟨hd.1, trivial⟩, ?_⟩
    refine ⟨by kernel_rfl, ?_⟩
    refine ⟨(r.want wLp, wRp), ⟨.refl _, .str rfl, trivial⟩, ⟨⟨rfl, .refl _, .refl _, .refl _, .refl _, .refl _, trivial⟩, trivial⟩, ⟨rok_fwd hd.1 hf0, trivial⟩, ?_⟩
    refine ⟨fun h => ?_, fun h => ?_⟩
    · have h1 : (r.want wLp).is wRp = true := h
      have e : r.params = ([], (r.want wLp).step) := by unfold Rs.params; rw [if_pos h1]
      have hE : (r.want wLp).take wRp = r.params.2 := by rw [e, take_yes h1]
      exact ⟨(show Sub _ (.own Ty 2 tyC ty0 r.params.1 id) by rw [e]; exact .nilO ..), ⟨rfl, .rowEq (rL hE :), .int (rI hE :), .int (rN hE :), .int (rA hE :), .int (rE hE :), trivial⟩, trivial⟩
    have h1 : (r.want wLp).is wRp = false := h
    have e : r.params = ((Rs.paramsL (r.L.length + 2) (r.want wLp).kind [(r.want wLp).kindV]).1, (Rs.paramsL (r.L.length + 2) (r.want wLp).kind [(r.want wLp).kindV]).2.want wRp) := by unfold Rs.params; rw [if_neg (by rw [h1]; decide)]
    have hE : (r.want wLp).take wRp = r.want wLp := take_no h1
    refine ⟨by kernel_rfl, ?_⟩
    refine ⟨(r.want wLp, ()), ⟨.refl _, trivial⟩, ⟨⟨rfl, .rowEq (rL hE :), .int (rI hE :), .int (rN hE :), .int (rA hE :), .int (rE hE :), trivial⟩, trivial⟩, ⟨rok_fwd hd.1 hf0, trivial⟩, ?_⟩
    clear hE
    refine ⟨Ty, tyC, ty0, [(r.want wLp).kindV], ⟨rfl, fun _ => rfl⟩, ⟨.refl _, .refl _, trivial⟩, rfl, ?_⟩
    refine ⟨Nat × Rs × List Ty × Bool, fun s => [(0, .box 1000 0), (3, .own Ty 2 tyC ty0 s.2.2.1 (if s.2.2.2 then 31 else 10))], fun s => [(1000, rsC s.2.1)],
      fun s => Rs.paramsL s.1 s.2.1 s.2.2.1 = Rs.paramsL (r.L.length + 2) (r.want wLp).kind [(r.want wLp).kindV] ∧ s.2.1.need ≤ s.1 ∧ Fwd r s.2.1 ∧ s.2.2.1.length + s.1 = r.L.length + 3, fun s => s.1,
      ⟨(r.L.length + 2, (r.want wLp).kind, [(r.want wLp).kindV], false), ⟨rfl, (by have := need_le (r.want wLp).kind; rw [hf1.L] at this; exact this), hf1, (by show 1 + (r.L.length + 2) = _; omega)⟩, ⟨⟨rfl, rfl⟩, .refl _, .refl _, ⟨.refl _, .refl _, .refl _, .refl _, .refl _, trivial⟩, trivial⟩⟩, fun ((k, q, out, b) : Nat × Rs × List Ty × Bool) hx => ?_⟩
    have hx1 : Rs.paramsL k q out = Rs.paramsL (r.L.length + 2) (r.want wLp).kind [(r.want wLp).kindV] := hx.1
    have hx2 : q.need ≤ k := hx.2.1
    have hx3 : Fwd r q := hx.2.2.1
    have hx4 : out.length + k = r.L.length + 3 := hx.2.2.2
    obtain ⟨k, rfl⟩ : ∃ k', k = k' + 1 := ⟨k - 1, by have := Rs.need_pos q; omega⟩
    have hq : rok q := rok_fwd hd.1 hx3
    refine ⟨by kernel_rfl, ?_⟩
    refine ⟨(q, wComma), ⟨.refl _, .str rfl, trivial⟩, ⟨⟨rfl, .refl _, .refl _, .refl _, .refl _, .refl _, trivial⟩, trivial⟩, ⟨hq, trivial⟩, ?_⟩
    refine ⟨fun h => ?_, fun h => ?_⟩
    · have h1 : q.is wComma = true := h
      have hat := Rs.is_at h1
      have hst := take_yes h1
      have hqs : rok (q.take wComma) := rok_fwd hq (Rs.take_fwd q _)
      have hn1 := Rs.param1_fwd hat (out.length : Int)
      have hrn : rok (q.param1 out.length) := rok_fwd hq hn1
      rw [Rs.paramsL, if_pos h1] at hx1
      have hinv : Rs.paramsL k (q.param1 out.length).kind (out ++ [(q.param1 out.length).kindV]) = Rs.paramsL (r.L.length + 2) (r.want wLp).kind [(r.want wLp).kindV] ∧ (q.param1 out.length).kind.need ≤ k ∧ Fwd r (q.param1 out.length).kind ∧ (out ++ [(q.param1 out.length).kindV]).length + k = r.L.length + 3 := by
        have hf := hn1.trans (Rs.kind_fwd _)
        have := Rs.need_lt hat hf (Rs.on_fwd (Rs.param1_on q out.length) (Rs.kind_fwd _))
        exact ⟨hx1, by omega, hx3.trans hf, by simp; omega⟩
      have fin : ∀ p : Rs, p = q.param1 out.length → p = q.param1 out.length := fun _ h => h
      have yes : ((q.step.free || q.step.is wInt || q.step.is wVoid) = true) → (q.take wComma).room out.length 4 = q.param1 out.length := fun h => by
        rw [hst]; unfold Rs.param1; rw [if_pos h]
      have nope : ((q.step.free || q.step.is wInt || q.step.is wVoid) = false) → q.take wComma = q.param1 out.length := fun h => by
        rw [hst]; unfold Rs.param1; rw [if_neg (by rw [h]; decide)]
      refine ⟨(q.take wComma, ()), ⟨.refl _, trivial⟩, rfl, ⟨hqs, trivial⟩, ?_⟩
      refine ⟨fun h2 => ?_, fun h2 => ?_⟩
      · have h2 : (q.take wComma).free = true := h2
        refine ⟨by kernel_rfl, ?_⟩
        refine ⟨(q.take wComma, (out.length : Int), 4), ⟨.refl _, .refl _, .refl _, trivial⟩, ⟨⟨rfl, .refl _, .refl _, .refl _, .refl _, .refl _, trivial⟩, trivial⟩, ⟨hqs, trivial⟩, ?_⟩
        have hE := yes (by rw [← hst]; rw [h2]; rfl)
        refine ⟨by kernel_rfl, ?_⟩
        refine ⟨(q.param1 out.length, ()), ⟨.refl _, trivial⟩, ⟨⟨rfl, .rowEq (rL hE :), .int (rI hE :), .int (rN hE :), .int (rA hE :), .int (rE hE :), trivial⟩, trivial⟩, ⟨hrn, trivial⟩, ?_⟩
        refine ⟨Ty, tyC, ty0, [(q.param1 out.length).kindV], ⟨rfl, fun _ => rfl⟩, ⟨.refl _, .refl _, trivial⟩, rfl, ?_⟩
        cases b
        · refine ⟨Ty, tyC, ty0, out, [(q.param1 out.length).kindV], 10, ⟨.refl _, .own ..⟩, fun _ => rfl, (by show (out.length + 1) * 24 ≤ 140737488355328; omega), ?_⟩
          exact ⟨(k, (q.param1 out.length).kind, out ++ [(q.param1 out.length).kindV], true), hinv, Nat.lt_succ_self _, ⟨rfl, rfl⟩, .refl _, .refl _, ⟨.refl _, .refl _, .refl _, .refl _, .refl _, trivial⟩, trivial⟩
        · refine ⟨Ty, tyC, ty0, out, [(q.param1 out.length).kindV], 31, ⟨.refl _, .own ..⟩, fun _ => rfl, (by show (out.length + 1) * 24 ≤ 140737488355328; omega), ?_⟩
          exact ⟨(k, (q.param1 out.length).kind, out ++ [(q.param1 out.length).kindV], true), hinv, Nat.lt_succ_self _, ⟨rfl, rfl⟩, .refl _, .refl _, ⟨.refl _, .refl _, .refl _, .refl _, .refl _, trivial⟩, trivial⟩
      have h2 : (q.take wComma).free = false := h2
      refine ⟨(q.take wComma, wInt), ⟨.refl _, .str rfl, trivial⟩, rfl, ⟨hqs, trivial⟩, ?_⟩
      refine ⟨fun h3 => ?_, fun h3 => ?_⟩
      · have h3 : (q.take wComma).is wInt = true := h3
        refine ⟨by kernel_rfl, ?_⟩
        refine ⟨(q.take wComma, (out.length : Int), 4), ⟨.refl _, .refl _, .refl _, trivial⟩, ⟨⟨rfl, .refl _, .refl _, .refl _, .refl _, .refl _, trivial⟩, trivial⟩, ⟨hqs, trivial⟩, ?_⟩
        have hE := yes (by rw [← hst]; rw [h2, h3]; rfl)
        refine ⟨by kernel_rfl, ?_⟩
        refine ⟨(q.param1 out.length, ()), ⟨.refl _, trivial⟩, ⟨⟨rfl, .rowEq (rL hE :), .int (rI hE :), .int (rN hE :), .int (rA hE :), .int (rE hE :), trivial⟩, trivial⟩, ⟨hrn, trivial⟩, ?_⟩
        refine ⟨Ty, tyC, ty0, [(q.param1 out.length).kindV], ⟨rfl, fun _ => rfl⟩, ⟨.refl _, .refl _, trivial⟩, rfl, ?_⟩
        cases b
        · refine ⟨Ty, tyC, ty0, out, [(q.param1 out.length).kindV], 10, ⟨.refl _, .own ..⟩, fun _ => rfl, (by show (out.length + 1) * 24 ≤ 140737488355328; omega), ?_⟩
          exact ⟨(k, (q.param1 out.length).kind, out ++ [(q.param1 out.length).kindV], true), hinv, Nat.lt_succ_self _, ⟨rfl, rfl⟩, .refl _, .refl _, ⟨.refl _, .refl _, .refl _, .refl _, .refl _, trivial⟩, trivial⟩
        · refine ⟨Ty, tyC, ty0, out, [(q.param1 out.length).kindV], 31, ⟨.refl _, .own ..⟩, fun _ => rfl, (by show (out.length + 1) * 24 ≤ 140737488355328; omega), ?_⟩
          exact ⟨(k, (q.param1 out.length).kind, out ++ [(q.param1 out.length).kindV], true), hinv, Nat.lt_succ_self _, ⟨rfl, rfl⟩, .refl _, .refl _, ⟨.refl _, .refl _, .refl _, .refl _, .refl _, trivial⟩, trivial⟩
      have h3 : (q.take wComma).is wInt = false := h3
      refine ⟨(q.take wComma, wVoid), ⟨.refl _, .str rfl, trivial⟩, rfl, ⟨hqs, trivial⟩, ?_⟩
      refine ⟨fun h4 => ?_, fun h4 => ?_⟩
      · have h4 : (q.take wComma).is wVoid = true := h4
        refine ⟨by kernel_rfl, ?_⟩
        refine ⟨(q.take wComma, (out.length : Int), 4), ⟨.refl _, .refl _, .refl _, trivial⟩, ⟨⟨rfl, .refl _, .refl _, .refl _, .refl _, .refl _, trivial⟩, trivial⟩, ⟨hqs, trivial⟩, ?_⟩
        have hE := yes (by rw [← hst]; rw [h2, h3, h4]; rfl)
        refine ⟨by kernel_rfl, ?_⟩
        refine ⟨(q.param1 out.length, ()), ⟨.refl _, trivial⟩, ⟨⟨rfl, .rowEq (rL hE :), .int (rI hE :), .int (rN hE :), .int (rA hE :), .int (rE hE :), trivial⟩, trivial⟩, ⟨hrn, trivial⟩, ?_⟩
        refine ⟨Ty, tyC, ty0, [(q.param1 out.length).kindV], ⟨rfl, fun _ => rfl⟩, ⟨.refl _, .refl _, trivial⟩, rfl, ?_⟩
        cases b
        · refine ⟨Ty, tyC, ty0, out, [(q.param1 out.length).kindV], 10, ⟨.refl _, .own ..⟩, fun _ => rfl, (by show (out.length + 1) * 24 ≤ 140737488355328; omega), ?_⟩
          exact ⟨(k, (q.param1 out.length).kind, out ++ [(q.param1 out.length).kindV], true), hinv, Nat.lt_succ_self _, ⟨rfl, rfl⟩, .refl _, .refl _, ⟨.refl _, .refl _, .refl _, .refl _, .refl _, trivial⟩, trivial⟩
        · refine ⟨Ty, tyC, ty0, out, [(q.param1 out.length).kindV], 31, ⟨.refl _, .own ..⟩, fun _ => rfl, (by show (out.length + 1) * 24 ≤ 140737488355328; omega), ?_⟩
          exact ⟨(k, (q.param1 out.length).kind, out ++ [(q.param1 out.length).kindV], true), hinv, Nat.lt_succ_self _, ⟨rfl, rfl⟩, .refl _, .refl _, ⟨.refl _, .refl _, .refl _, .refl _, .refl _, trivial⟩, trivial⟩
      · have h4 : (q.take wComma).is wVoid = false := h4
        have hE := nope (by rw [← hst]; rw [h2, h3, h4]; rfl)
        refine ⟨by kernel_rfl, ?_⟩
        refine ⟨(q.param1 out.length, ()), ⟨.refl _, trivial⟩, ⟨⟨rfl, .rowEq (rL hE :), .int (rI hE :), .int (rN hE :), .int (rA hE :), .int (rE hE :), trivial⟩, trivial⟩, ⟨hrn, trivial⟩, ?_⟩
        refine ⟨Ty, tyC, ty0, [(q.param1 out.length).kindV], ⟨rfl, fun _ => rfl⟩, ⟨.refl _, .refl _, trivial⟩, rfl, ?_⟩
        cases b
        · refine ⟨Ty, tyC, ty0, out, [(q.param1 out.length).kindV], 10, ⟨.refl _, .own ..⟩, fun _ => rfl, (by show (out.length + 1) * 24 ≤ 140737488355328; omega), ?_⟩
          exact ⟨(k, (q.param1 out.length).kind, out ++ [(q.param1 out.length).kindV], true), hinv, Nat.lt_succ_self _, ⟨rfl, rfl⟩, .refl _, .refl _, ⟨.refl _, .refl _, .refl _, .refl _, .refl _, trivial⟩, trivial⟩
        · refine ⟨Ty, tyC, ty0, out, [(q.param1 out.length).kindV], 31, ⟨.refl _, .own ..⟩, fun _ => rfl, (by show (out.length + 1) * 24 ≤ 140737488355328; omega), ?_⟩
          exact ⟨(k, (q.param1 out.length).kind, out ++ [(q.param1 out.length).kindV], true), hinv, Nat.lt_succ_self _, ⟨rfl, rfl⟩, .refl _, .refl _, ⟨.refl _, .refl _, .refl _, .refl _, .refl _, trivial⟩, trivial⟩
    · have h1 : q.is wComma = false := h
      rw [Rs.paramsL, if_neg (by rw [h1]; decide)] at hx1
      have hE : q.take wComma = (Rs.paramsL (r.L.length + 2) (r.want wLp).kind [(r.want wLp).kindV]).2 := by rw [take_no h1, ← hx1]
      have hE2 : (Rs.paramsL (r.L.length + 2) (r.want wLp).kind [(r.want wLp).kindV]).2.want wRp = r.params.2 := by rw [e]
      refine ⟨by kernel_rfl, ?_⟩
      refine ⟨((Rs.paramsL (r.L.length + 2) (r.want wLp).kind [(r.want wLp).kindV]).2, wRp), ⟨.refl _, .str rfl, trivial⟩, ⟨⟨rfl, .rowEq (rL hE :), .int (rI hE :), .int (rN hE :), .int (rA hE :), .int (rE hE :), trivial⟩, trivial⟩, ⟨rok_fwd hd.1 (hf1.trans (Rs.paramsL_fwd _ _ _)), trivial⟩, ?_⟩
      clear hE
      have hE := hE2
      cases b
      · exact ⟨.ownEq (by rw [e, ← hx1]), ⟨rfl, .rowEq (rL hE :), .int (rI hE :), .int (rN hE :), .int (rA hE :), .int (rE hE :), trivial⟩, trivial⟩
      · exact ⟨.ownEq (by rw [e, ← hx1]), ⟨rfl, .rowEq (rL hE :), .int (rI hE :), .int (rN hE :), .int (rA hE :), .int (rE hE :), trivial⟩, trivial⟩
def opC : Ctr := { A := ByteArray, enc := fun s => [S s], dom := fun _ => True, res := fun s _ => .tup [I (if opV s < 0 then 0 else opV s), B (decide (0 ≤ opV s))], gl := tabS }
set_option maxRecDepth 100000 in
theorem op_ok : CtrSound Tryz.prog 137 opC :=
  ctr_of_ax (env_okB tys_ok (eqs := []) trivial (cs := [(127, opsC), (129, atC)]) ⟨ops_ok, at_ok, trivial⟩ (bs := []) trivial (gl := tabS)) mixed _ Tryz.func137 (by kernel_rfl) rfl (fun _ _ => Nat.le_of_ble_eq_true rfl) fun (s : ByteArray) id hd => by
    refine ⟨(), trivial, rfl, trivial, ?_⟩
    refine ⟨(opsL, s), ⟨.own .., .refl _, trivial⟩, rfl, (show opsL.length ≤ 4611686018427387904 by decide), ?_⟩
    refine ⟨fun h => ?_, fun h => ?_⟩
    · have h : opV s < 0 := of_decide_eq_true h
      exact ⟨.tup2 (.int (if_pos h).symm) (.bff (decide_eq_false (by omega))), rfl⟩
    · have h : ¬ opV s < 0 := of_decide_eq_false h
      exact ⟨.tup2 (.int (if_neg h).symm) (.btt (decide_eq_true (by omega))), rfl⟩
end Go.Proofs.YtadimoijlgmecaaGreatDoor.Ax
/- Layer parse: instructions. -/
set_option linter.unusedVariables false
set_option linter.unusedSimpArgs false
namespace Go.Proofs.YtadimoijlgmecaaGreatDoor.Ax
open Go Go.RowKit
namespace Rs
def instrV (r : Rs) (many : Int) : Ins := if r.isOp then (r.instr many).1 else ins0
def instrR (r : Rs) (many : Int) : Rs := if r.isOp then (r.instr many).2 else r
end Rs
theorem Sub.insEq {a b : Ins} (h : a = b) : Sub (.agg (insC a)) (.agg (insC b)) := by subst h; exact .refl _
def instrRC : CtrB := rdC Int (fun n => [I n]) (fun r n _ => .tup [.agg (insC (r.instrV n)), B r.isOp]) (fun r n => r.instrR n) fun _ => True
set_option maxRecDepth 100000 in
set_option maxHeartbeats 2000000 in
theorem instrR_ok : CtrBSound Tryz.prog 125 instrRC :=
  ctrB_of_ax2 mixed _ Tryz.func125 (by kernel_rfl) rfl (fun _ _ => ⟨Nat.le_of_ble_eq_true rfl, Nat.le_of_ble_eq_true rfl⟩) fun ((r, many) : Rs × Int) id hd => by
    refine ⟨_, ⟨env_okB tys_ok (eqs := []) trivial (cs := [(97, nextC), (137, opC), (105, numsC), (117, namesC)]) ⟨next_ok, op_ok, nums_ok, names_ok, trivial⟩ (bs := [(64, wantC), (63, roomC), (124, numRC), (65, freshRC)]) ⟨want_ok, room_ok, numR_ok, freshR_ok, trivial⟩ (cut := [11, 13, 15]) (gl := tabP), fun _ h => h⟩, ?_⟩
    have f0 : Fwd r (r.in1 many) := Rs.in1_fwd r many
    have f1 : Fwd r ((r.in1 many).in2 (opV r.next.2.1)) := f0.trans (Rs.in2_fwd _ _)
    have f2 : Fwd r (((r.in1 many).in2 (opV r.next.2.1)).in3 (decide (namesF (opV r.next.2.1) > 0))) := f1.trans (Rs.in3_fwd _ _)
    have f3 : Fwd r ((((r.in1 many).in2 (opV r.next.2.1)).in3 (decide (namesF (opV r.next.2.1) > 0))).in3 (decide (namesF (opV r.next.2.1) > 1))) := f2.trans (Rs.in3_fwd _ _)
    refine ⟨(r, ()), ⟨.refl _, trivial⟩, rfl, ⟨hd.1, trivial⟩, ?_⟩
    refine ⟨r.next.2.1, ⟨.refl _, trivial⟩, rfl, trivial, ?_⟩
    have nope : r.isOp = false → ins0 = r.instrV many ∧ r = r.instrR many := fun h => ⟨(if_neg (by rw [h]; decide)).symm, (if_neg (by rw [h]; decide)).symm⟩
    refine ⟨fun h => ?_, fun h => ?_⟩
    · have h : (r.next.1 != 1) = true := h
      have h0 : r.isOp = false := by
        unfold Rs.isOp
        rw [decide_eq_false (fun c => by rw [c] at h; simp at h)]; rfl
      have hE := (nope h0).2
      exact ⟨.tup2 (.insEq (nope h0).1) (.bff h0), ⟨rfl, .rowEq (rL hE :), .int (rI hE :), .int (rN hE :), .int (rA hE :), .int (rE hE :), trivial⟩, trivial⟩
    have hk : (r.next.1 != 1) = false := h
    have hk : r.next.1 = 1 := by simpa using hk
    refine ⟨fun h => ?_, fun h => ?_⟩
    · have h : (!decide (0 ≤ opV r.next.2.1)) = true := h
      have h0 : r.isOp = false := by
        unfold Rs.isOp
        rw [notT h]; simp
      have hE := (nope h0).2
      exact ⟨.tup2 (.insEq (nope h0).1) (.bff h0), ⟨rfl, .rowEq (rL hE :), .int (rI hE :), .int (rN hE :), .int (rA hE :), .int (rE hE :), trivial⟩, trivial⟩
    have h : (!decide (0 ≤ opV r.next.2.1)) = false := h
    have h := notF h
    have h0 : r.isOp = true := by
      unfold Rs.isOp
      rw [h, hk]; rfl
    have ho : ¬ opV r.next.2.1 < 0 := by have := of_decide_eq_true h; omega
    have ev : (if opV r.next.2.1 < 0 then 0 else opV r.next.2.1) = opV r.next.2.1 := if_neg ho
    refine ⟨by kernel_rfl, ?_⟩
    refine ⟨(r, many, 48), ⟨.refl _, .refl _, .refl _, trivial⟩, ⟨⟨rfl, .refl _, .refl _, .refl _, .refl _, .refl _, trivial⟩, trivial⟩, ⟨hd.1, trivial⟩, ?_⟩
    refine ⟨by kernel_rfl, ?_⟩
    refine ⟨(r.room many 48, r.next.2.1), ⟨.refl _, .refl _, trivial⟩, ⟨⟨rfl, .refl _, .refl _, .refl _, .refl _, .refl _, trivial⟩, trivial⟩, ⟨rok_fwd hd.1 (Rs.room_fwd r many 48), trivial⟩, ?_⟩
    refine ⟨Unit, fun _ => [(0, .box 1000 0), (4, .box 4 0), (7, I (opV r.next.2.1)), (9, .box 9 0)], fun _ => [(1000, rsC ((r.in1 many).in2 (opV r.next.2.1))), (4, [I 0, I 0, S noS, S noS]), (9, [I (opV r.next.2.1), I ((r.in1 many).in2V (opV r.next.2.1)), S (noS), S (noS)])], fun _ => True, ?_, fun _ _ => ?_⟩
    · refine ⟨opV r.next.2.1, ⟨.int ev, trivial⟩, rfl, trivial, ?_⟩
      refine ⟨fun h => ?_, fun h => ?_⟩
      · have h1 : (numsF (opV r.next.2.1)).2.2 = true := h
        refine ⟨by kernel_rfl, ?_⟩
        refine ⟨(r.in1 many, (numsF (opV r.next.2.1)).1, (numsF (opV r.next.2.1)).2.1), ⟨.refl _, .refl _, .refl _, trivial⟩, ⟨⟨rfl, .refl _, .refl _, .refl _, .refl _, .refl _, trivial⟩, trivial⟩, ⟨rok_fwd hd.1 f0, trivial⟩, ?_⟩
        have hE : (r.in1 many).num (numsF (opV r.next.2.1)).1 (numsF (opV r.next.2.1)).2.1 = (r.in1 many).in2 (opV r.next.2.1) := (if_pos h1).symm
        have hN : (r.in1 many).numV (numsF (opV r.next.2.1)).1 (numsF (opV r.next.2.1)).2.1 = (r.in1 many).in2V (opV r.next.2.1) := (if_pos h1).symm
        exact ⟨(), trivial, ⟨rfl, rfl⟩, .refl _, .int ev, .refl _, .refl _, ⟨.int ev, .int hN, .refl _, .refl _, trivial⟩, ⟨.refl _, .refl _, .refl _, .refl _, trivial⟩, ⟨.rowEq (rL hE :), .int (rI hE :), .int (rN hE :), .int (rA hE :), .int (rE hE :), trivial⟩, trivial⟩
      · have h1 : (numsF (opV r.next.2.1)).2.2 = false := h
        have hE : r.in1 many = (r.in1 many).in2 (opV r.next.2.1) := (if_neg (by rw [h1]; decide)).symm
        have hN : 0 = (r.in1 many).in2V (opV r.next.2.1) := (if_neg (by rw [h1]; decide)).symm
        exact ⟨(), trivial, ⟨rfl, rfl⟩, .refl _, .int ev, .refl _, .refl _, ⟨.int ev, .int hN, .refl _, .refl _, trivial⟩, ⟨.refl _, .refl _, .refl _, .refl _, trivial⟩, ⟨.rowEq (rL hE :), .int (rI hE :), .int (rN hE :), .int (rA hE :), .int (rE hE :), trivial⟩, trivial⟩
    refine ⟨Unit, fun _ => [(0, .box 1000 0), (4, .box 4 0), (7, I (opV r.next.2.1)), (9, .box 9 0)], fun _ => [(1000, rsC (((r.in1 many).in2 (opV r.next.2.1)).in3 (decide (namesF (opV r.next.2.1) > 0)))), (4, [I 0, I 0, S noS, S noS]), (9, [I (opV r.next.2.1), I ((r.in1 many).in2V (opV r.next.2.1)), S (((r.in1 many).in2 (opV r.next.2.1)).in3V (decide (namesF (opV r.next.2.1) > 0))), S (noS)])], fun _ => True, ?_, fun _ _ => ?_⟩
    · refine ⟨opV r.next.2.1, ⟨.refl _, trivial⟩, rfl, trivial, ?_⟩
      refine ⟨fun h => ?_, fun h => ?_⟩
      · have h1 : decide (namesF (opV r.next.2.1) > 0) = true := h
        refine ⟨by kernel_rfl, ?_⟩
        refine ⟨((r.in1 many).in2 (opV r.next.2.1), ()), ⟨.refl _, trivial⟩, ⟨⟨rfl, .refl _, .refl _, .refl _, .refl _, .refl _, trivial⟩, trivial⟩, ⟨rok_fwd hd.1 f1, trivial⟩, ?_⟩
        have hE : ((r.in1 many).in2 (opV r.next.2.1)).fresh = ((r.in1 many).in2 (opV r.next.2.1)).in3 (decide (namesF (opV r.next.2.1) > 0)) := (if_pos h1).symm
        have hN : ((r.in1 many).in2 (opV r.next.2.1)).freshV = ((r.in1 many).in2 (opV r.next.2.1)).in3V (decide (namesF (opV r.next.2.1) > 0)) := (if_pos h1).symm
        exact ⟨(), trivial, ⟨rfl, rfl⟩, .refl _, .refl _, .refl _, .refl _, ⟨.refl _, .refl _, .str hN, .refl _, trivial⟩, ⟨.refl _, .refl _, .refl _, .refl _, trivial⟩, ⟨.rowEq (rL hE :), .int (rI hE :), .int (rN hE :), .int (rA hE :), .int (rE hE :), trivial⟩, trivial⟩
      · have h1 : decide (namesF (opV r.next.2.1) > 0) = false := h
        have hE : (r.in1 many).in2 (opV r.next.2.1) = ((r.in1 many).in2 (opV r.next.2.1)).in3 (decide (namesF (opV r.next.2.1) > 0)) := (if_neg (by rw [h1]; decide)).symm
        have hN : noS = ((r.in1 many).in2 (opV r.next.2.1)).in3V (decide (namesF (opV r.next.2.1) > 0)) := (if_neg (by rw [h1]; decide)).symm
        exact ⟨(), trivial, ⟨rfl, rfl⟩, .refl _, .refl _, .refl _, .refl _, ⟨.refl _, .refl _, .str hN, .refl _, trivial⟩, ⟨.refl _, .refl _, .refl _, .refl _, trivial⟩, ⟨.rowEq (rL hE :), .int (rI hE :), .int (rN hE :), .int (rA hE :), .int (rE hE :), trivial⟩, trivial⟩
    refine ⟨Unit, fun _ => [(0, .box 1000 0), (4, .box 4 0), (7, I (opV r.next.2.1)), (9, .box 9 0)], fun _ => [(1000, rsC ((((r.in1 many).in2 (opV r.next.2.1)).in3 (decide (namesF (opV r.next.2.1) > 0))).in3 (decide (namesF (opV r.next.2.1) > 1)))), (4, [I 0, I 0, S noS, S noS]), (9, [I (opV r.next.2.1), I ((r.in1 many).in2V (opV r.next.2.1)), S (((r.in1 many).in2 (opV r.next.2.1)).in3V (decide (namesF (opV r.next.2.1) > 0))), S ((((r.in1 many).in2 (opV r.next.2.1)).in3 (decide (namesF (opV r.next.2.1) > 0))).in3V (decide (namesF (opV r.next.2.1) > 1)))])], fun _ => True, ?_, fun _ _ => ?_⟩
    · refine ⟨opV r.next.2.1, ⟨.refl _, trivial⟩, rfl, trivial, ?_⟩
      refine ⟨fun h => ?_, fun h => ?_⟩
      · have h1 : decide (namesF (opV r.next.2.1) > 1) = true := h
        refine ⟨by kernel_rfl, ?_⟩
        refine ⟨(((r.in1 many).in2 (opV r.next.2.1)).in3 (decide (namesF (opV r.next.2.1) > 0)), ()), ⟨.refl _, trivial⟩, ⟨⟨rfl, .refl _, .refl _, .refl _, .refl _, .refl _, trivial⟩, trivial⟩, ⟨rok_fwd hd.1 f2, trivial⟩, ?_⟩
        have hE : (((r.in1 many).in2 (opV r.next.2.1)).in3 (decide (namesF (opV r.next.2.1) > 0))).fresh = (((r.in1 many).in2 (opV r.next.2.1)).in3 (decide (namesF (opV r.next.2.1) > 0))).in3 (decide (namesF (opV r.next.2.1) > 1)) := (if_pos h1).symm
        have hN : (((r.in1 many).in2 (opV r.next.2.1)).in3 (decide (namesF (opV r.next.2.1) > 0))).freshV = (((r.in1 many).in2 (opV r.next.2.1)).in3 (decide (namesF (opV r.next.2.1) > 0))).in3V (decide (namesF (opV r.next.2.1) > 1)) := (if_pos h1).symm
        exact ⟨(), trivial, ⟨rfl, rfl⟩, .refl _, .refl _, .refl _, .refl _, ⟨.refl _, .refl _, .refl _, .str hN, trivial⟩, ⟨.refl _, .refl _, .refl _, .refl _, trivial⟩, ⟨.rowEq (rL hE :), .int (rI hE :), .int (rN hE :), .int (rA hE :), .int (rE hE :), trivial⟩, trivial⟩
      · have h1 : decide (namesF (opV r.next.2.1) > 1) = false := h
        have hE : ((r.in1 many).in2 (opV r.next.2.1)).in3 (decide (namesF (opV r.next.2.1) > 0)) = (((r.in1 many).in2 (opV r.next.2.1)).in3 (decide (namesF (opV r.next.2.1) > 0))).in3 (decide (namesF (opV r.next.2.1) > 1)) := (if_neg (by rw [h1]; decide)).symm
        have hN : noS = (((r.in1 many).in2 (opV r.next.2.1)).in3 (decide (namesF (opV r.next.2.1) > 0))).in3V (decide (namesF (opV r.next.2.1) > 1)) := (if_neg (by rw [h1]; decide)).symm
        exact ⟨(), trivial, ⟨rfl, rfl⟩, .refl _, .refl _, .refl _, .refl _, ⟨.refl _, .refl _, .refl _, .str hN, trivial⟩, ⟨.refl _, .refl _, .refl _, .refl _, trivial⟩, ⟨.rowEq (rL hE :), .int (rI hE :), .int (rN hE :), .int (rA hE :), .int (rE hE :), trivial⟩, trivial⟩
    refine ⟨by kernel_rfl, ?_⟩
    refine ⟨((((r.in1 many).in2 (opV r.next.2.1)).in3 (decide (namesF (opV r.next.2.1) > 0))).in3 (decide (namesF (opV r.next.2.1) > 1)), wSemi), ⟨.refl _, .str rfl, trivial⟩, ⟨⟨rfl, .refl _, .refl _, .refl _, .refl _, .refl _, trivial⟩, trivial⟩, ⟨rok_fwd hd.1 f3, trivial⟩, ?_⟩
    have hE : ((((r.in1 many).in2 (opV r.next.2.1)).in3 (decide (namesF (opV r.next.2.1) > 0))).in3 (decide (namesF (opV r.next.2.1) > 1))).want wSemi = r.instrR many := (if_pos h0).symm
    have hV : (⟨opV r.next.2.1, (r.in1 many).in2V (opV r.next.2.1), ((r.in1 many).in2 (opV r.next.2.1)).in3V (decide (namesF (opV r.next.2.1) > 0)), (((r.in1 many).in2 (opV r.next.2.1)).in3 (decide (namesF (opV r.next.2.1) > 0))).in3V (decide (namesF (opV r.next.2.1) > 1))⟩ : Ins) = r.instrV many := (if_pos h0).symm
    exact ⟨.tup2 (.insEq hV) (.btt h0), ⟨rfl, .rowEq (rL hE :), .int (rI hE :), .int (rN hE :), .int (rA hE :), .int (rE hE :), trivial⟩, trivial⟩
end Go.Proofs.YtadimoijlgmecaaGreatDoor.Ax
/- Layer parse: what a method does. -/
set_option linter.unusedVariables false
set_option linter.unusedSimpArgs false
namespace Go.Proofs.YtadimoijlgmecaaGreatDoor.Ax
open Go Go.RowKit
def mPre (m : Meth) : List SV := [S m.name, B m.static, B m.abs, .row Ty 2 tyC ty0 m.params, I m.ret.1, S m.ret.2, I 0, .val (.slice none 0 0), .val (.slice none 0 0)]
def bodyRC : CtrB := { A := Rs × Meth, enc := fun x => [.box 1000 0, .box 1001 0], pre := fun x => [rsC x.1, mPre x.2], dom := fun x => rok x.1, res := fun _ _ => .tup [], post := fun x _ => [rsC x.1.body, methC (x.1.bodyV x.2)], gl := tabP }
theorem instr_yes {r : Rs} {n : Int} (h : r.isOp = true) : r.instrR n = (r.instr n).2 ∧ r.instrV n = (r.instr n).1 := ⟨if_pos h, if_pos h⟩
theorem instr_no {r : Rs} {n : Int} (h : r.isOp = false) : r.instrR n = r := if_neg (by rw [h]; decide)
set_option maxRecDepth 100000 in
set_option maxHeartbeats 4000000 in
theorem bodyR_ok : CtrBSound Tryz.prog 102 bodyRC :=
  ctrB_of_ax2 mixed _ Tryz.func102 (by kernel_rfl) rfl (fun _ _ => ⟨Nat.le_of_ble_eq_true rfl, Nat.le_of_ble_eq_true rfl⟩) fun ((r, m) : Rs × Meth) id hd => by
    refine ⟨_, ⟨env_okB tys_ok (eqs := []) trivial (cs := [(62, isC)]) ⟨is_ok, trivial⟩ (bs := [(64, wantC), (124, numRC), (125, instrRC), (63, roomC), (65, freshRC)]) ⟨want_ok, numR_ok, instrR_ok, room_ok, freshR_ok, trivial⟩ (gl := tabP), fun _ h => h⟩, ?_⟩
    have hd : rok r := hd
    have hL : r.L.length ≤ 1000000 := hd.1
    have f1 := Rs.want_fwd r wLocals
    have f2 := f1.trans (Rs.num_fwd _ 0 8)
    have f3 : Fwd r r.bo1 := Rs.bo1_fwd r
    have f4 : Fwd r r.boCode.2 := Rs.boCode_fwd r
    have f5 : Fwd r r.boCat.2 := Rs.boCat_fwd r
    refine ⟨by kernel_rfl, ?_⟩
    refine ⟨(r, wLocals), ⟨.refl _, .str rfl, trivial⟩, ⟨⟨rfl, .refl _, .refl _, .refl _, .refl _, .refl _, trivial⟩, trivial⟩, ⟨hd, trivial⟩, ?_⟩
    refine ⟨by kernel_rfl, ?_⟩
    refine ⟨(r.want wLocals, 0, 8), ⟨.refl _, .refl _, .refl _, trivial⟩, ⟨⟨rfl, .refl _, .refl _, .refl _, .refl _, .refl _, trivial⟩, trivial⟩, ⟨rok_fwd hd f1, trivial⟩, ?_⟩
    refine ⟨by kernel_rfl, ?_⟩
    refine ⟨((r.want wLocals).num 0 8, wLc), ⟨.refl _, .str rfl, trivial⟩, ⟨⟨rfl, .refl _, .refl _, .refl _, .refl _, .refl _, trivial⟩, trivial⟩, ⟨rok_fwd hd f2, trivial⟩, ?_⟩
    refine ⟨Nat × Rs × List Ins, fun _ => [(0, .box 1000 0), (1, .box 1001 0)], fun s => [(1000, rsC s.2.1), (1001, [S m.name, B m.static, B m.abs, .row Ty 2 tyC ty0 m.params, I m.ret.1, S m.ret.2, I ((r.want wLocals).numV 0 8), .own Ins 4 insC ins0 s.2.2 35, .val (.slice none 0 0)])],
      fun s => Rs.codeL s.1 s.2.1 s.2.2 = r.boCode ∧ s.2.1.need ≤ s.1 ∧ Fwd r s.2.1 ∧ s.2.2.length + s.1 = r.L.length + 2, fun s => s.1,
      ⟨(r.L.length + 2, r.bo1, []), ⟨rfl, (by have := need_le r.bo1; rw [f3.L] at this; exact this), f3, (by show 0 + (r.L.length + 2) = _; omega)⟩, ⟨⟨rfl, rfl⟩, .refl _, .refl _, ⟨.refl _, .refl _, .refl _, .refl _, .refl _, .refl _, .refl _, .nilO .., .refl _, trivial⟩, ⟨.refl _, .refl _, .refl _, .refl _, .refl _, trivial⟩, trivial⟩⟩, fun ((k, q, out) : Nat × Rs × List Ins) hx => ?_⟩
    have hx1 : Rs.codeL k q out = r.boCode := hx.1
    have hx2 : q.need ≤ k := hx.2.1
    have hx3 : Fwd r q := hx.2.2.1
    have hx4 : out.length + k = r.L.length + 2 := hx.2.2.2
    obtain ⟨k, rfl⟩ : ∃ k', k = k' + 1 := ⟨k - 1, by have := Rs.need_pos q; omega⟩
    have hq : rok q := rok_fwd hd hx3
    refine ⟨by kernel_rfl, ?_⟩
    refine ⟨(q, (out.length : Int)), ⟨.refl _, .refl _, trivial⟩, ⟨⟨rfl, .refl _, .refl _, .refl _, .refl _, .refl _, trivial⟩, trivial⟩, ⟨hq, trivial⟩, ?_⟩
    refine ⟨fun h => ?_, fun h => ?_⟩
    rotate_left
    · have h1 : q.isOp = true := notF h
      have hat := Rs.isOp_at h1
      have hy := instr_yes (n := (out.length : Int)) h1
      rw [Rs.codeL, if_pos h1] at hx1
      have hinv : Rs.codeL k (q.instrR out.length) (out ++ [q.instrV out.length]) = r.boCode ∧ (q.instrR out.length).need ≤ k ∧ Fwd r (q.instrR out.length) ∧ (out ++ [q.instrV out.length]).length + k = r.L.length + 2 := by
        rw [hy.1, hy.2]
        have hf := Rs.instr_fwd q out.length
        have := Rs.need_lt hat hf (Rs.instr_on q out.length)
        exact ⟨hx1, by omega, hx3.trans hf, by simp; omega⟩
      refine ⟨by kernel_rfl, ?_⟩
      refine ⟨Ins, insC, ins0, [q.instrV out.length], ⟨rfl, fun _ => rfl⟩, ⟨.refl _, .refl _, .refl _, .refl _, trivial⟩, rfl, ?_⟩
      refine ⟨Ins, insC, ins0, out, [q.instrV out.length], 35, ⟨.refl _, .own ..⟩, fun _ => rfl, (by show (out.length + 1) * 48 ≤ 140737488355328; omega), ?_⟩
      exact ⟨(k, q.instrR out.length, out ++ [q.instrV out.length]), hinv, Nat.lt_succ_self _, ⟨rfl, rfl⟩, .refl _, .refl _, ⟨.refl _, .refl _, .refl _, .refl _, .refl _, .refl _, .refl _, .refl _, .refl _, trivial⟩, ⟨.refl _, .refl _, .refl _, .refl _, .refl _, trivial⟩, trivial⟩
    have h1 : q.isOp = false := notT h
    rw [Rs.codeL, if_neg (by rw [h1]; decide)] at hx1
    have e1 : out = r.boCode.1 := by rw [← hx1]
    have e2 : q.instrR out.length = r.boCode.2 := by rw [instr_no h1, ← hx1]
    have hE := e2
    refine ⟨Nat × Rs × List Cat, fun _ => [(0, .box 1000 0), (1, .box 1001 0)], fun s => [(1000, rsC s.2.1), (1001, [S m.name, B m.static, B m.abs, .row Ty 2 tyC ty0 m.params, I m.ret.1, S m.ret.2, I ((r.want wLocals).numV 0 8), .own Ins 4 insC ins0 r.boCode.1 35, .own Cat 4 catC cat0 s.2.2 70])],
      fun s => Rs.catchL s.1 s.2.1 s.2.2 = r.boCat ∧ s.2.1.need ≤ s.1 ∧ Fwd r s.2.1 ∧ s.2.2.length + s.1 = r.L.length + 2, fun s => s.1,
      ⟨(r.L.length + 2, r.boCode.2, []), ⟨rfl, (by have := need_le r.boCode.2; rw [f4.L] at this; exact this), f4, (by show 0 + (r.L.length + 2) = _; omega)⟩, ⟨⟨rfl, rfl⟩, .refl _, .refl _, ⟨.refl _, .refl _, .refl _, .refl _, .refl _, .refl _, .refl _, .ownEq e1, .nilO .., trivial⟩, ⟨.rowEq (rL hE :), .int (rI hE :), .int (rN hE :), .int (rA hE :), .int (rE hE :), trivial⟩, trivial⟩⟩, fun ((k2, p, cs) : Nat × Rs × List Cat) hy => ?_⟩
    clear hE
    have hy1 : Rs.catchL k2 p cs = r.boCat := hy.1
    have hy2 : p.need ≤ k2 := hy.2.1
    have hy3 : Fwd r p := hy.2.2.1
    have hy4 : cs.length + k2 = r.L.length + 2 := hy.2.2.2
    obtain ⟨k2, rfl⟩ : ∃ k', k2 = k' + 1 := ⟨k2 - 1, by have := Rs.need_pos p; omega⟩
    have hp : rok p := rok_fwd hd hy3
    refine ⟨(p, wCatch), ⟨.refl _, .str rfl, trivial⟩, rfl, ⟨hp, trivial⟩, ?_⟩
    refine ⟨fun h => ?_, fun h => ?_⟩
    · have h1 : p.is wCatch = true := h
      have hat := Rs.is_at h1
      rw [Rs.catchL, if_pos h1] at hy1
      have g0 := Rs.room_fwd p (cs.length : Int) 4
      have g1 : Fwd p (p.ca1 cs.length) := Rs.ca1_fwd p cs.length
      have g2 := g1.trans (Rs.fresh_fwd _)
      have g3 := g2.trans (Rs.num_fwd _ 0 48)
      have g4 := g3.trans (Rs.num_fwd _ 0 48)
      have g5 := g4.trans (Rs.num_fwd _ 0 48)
      have hinv : Rs.catchL k2 (p.ca1 cs.length).catR (cs ++ [(p.ca1 cs.length).catV]) = r.boCat ∧ (p.ca1 cs.length).catR.need ≤ k2 ∧ Fwd r (p.ca1 cs.length).catR ∧ (cs ++ [(p.ca1 cs.length).catV]).length + k2 = r.L.length + 2 := by
        have hf := g1.trans (Rs.catR_fwd _)
        have := Rs.need_lt hat hf (Rs.catch_on p cs.length)
        exact ⟨hy1, by omega, hy3.trans hf, by simp; omega⟩
      refine ⟨by kernel_rfl, ?_⟩
      refine ⟨(p, (cs.length : Int), 4), ⟨.refl _, .refl _, .refl _, trivial⟩, ⟨⟨rfl, .refl _, .refl _, .refl _, .refl _, .refl _, trivial⟩, trivial⟩, ⟨hp, trivial⟩, ?_⟩
      refine ⟨by kernel_rfl, ?_⟩
      refine ⟨(p.room cs.length 4, wCatch), ⟨.refl _, .str rfl, trivial⟩, ⟨⟨rfl, .refl _, .refl _, .refl _, .refl _, .refl _, trivial⟩, trivial⟩, ⟨rok_fwd hp g0, trivial⟩, ?_⟩
      refine ⟨by kernel_rfl, ?_⟩
      refine ⟨((p.ca1 cs.length), ()), ⟨.refl _, trivial⟩, ⟨⟨rfl, .refl _, .refl _, .refl _, .refl _, .refl _, trivial⟩, trivial⟩, ⟨rok_fwd hp g1, trivial⟩, ?_⟩
      refine ⟨by kernel_rfl, ?_⟩
      refine ⟨((p.ca1 cs.length).fresh, 0, 48), ⟨.refl _, .refl _, .refl _, trivial⟩, ⟨⟨rfl, .refl _, .refl _, .refl _, .refl _, .refl _, trivial⟩, trivial⟩, ⟨rok_fwd hp g2, trivial⟩, ?_⟩
      refine ⟨by kernel_rfl, ?_⟩
      refine ⟨((p.ca1 cs.length).fresh.num 0 48, 0, 48), ⟨.refl _, .refl _, .refl _, trivial⟩, ⟨⟨rfl, .refl _, .refl _, .refl _, .refl _, .refl _, trivial⟩, trivial⟩, ⟨rok_fwd hp g3, trivial⟩, ?_⟩
      refine ⟨by kernel_rfl, ?_⟩
      refine ⟨(((p.ca1 cs.length).fresh.num 0 48).num 0 48, 0, 48), ⟨.refl _, .refl _, .refl _, trivial⟩, ⟨⟨rfl, .refl _, .refl _, .refl _, .refl _, .refl _, trivial⟩, trivial⟩, ⟨rok_fwd hp g4, trivial⟩, ?_⟩
      refine ⟨by kernel_rfl, ?_⟩
      refine ⟨((((p.ca1 cs.length).fresh.num 0 48).num 0 48).num 0 48, wSemi), ⟨.refl _, .str rfl, trivial⟩, ⟨⟨rfl, .refl _, .refl _, .refl _, .refl _, .refl _, trivial⟩, trivial⟩, ⟨rok_fwd hp g5, trivial⟩, ?_⟩
      refine ⟨by kernel_rfl, ?_⟩
      refine ⟨Cat, catC, cat0, [(p.ca1 cs.length).catV], ⟨rfl, fun _ => rfl⟩, ⟨.refl _, .refl _, .refl _, .refl _, trivial⟩, rfl, ?_⟩
      refine ⟨Cat, catC, cat0, cs, [(p.ca1 cs.length).catV], 70, ⟨.refl _, .own ..⟩, fun _ => rfl, (by show (cs.length + 1) * 40 ≤ 140737488355328; omega), ?_⟩
      exact ⟨(k2, (p.ca1 cs.length).catR, cs ++ [(p.ca1 cs.length).catV]), hinv, Nat.lt_succ_self _, ⟨rfl, rfl⟩, .refl _, .refl _, ⟨.refl _, .refl _, .refl _, .refl _, .refl _, .refl _, .refl _, .refl _, .refl _, trivial⟩, ⟨.refl _, .refl _, .refl _, .refl _, .refl _, trivial⟩, trivial⟩
    have h1 : p.is wCatch = false := h
    rw [Rs.catchL, if_neg (by rw [h1]; decide)] at hy1
    have e3 : cs = r.boCat.1 := by rw [← hy1]
    have hE : p = r.boCat.2 := by rw [← hy1]
    refine ⟨by kernel_rfl, ?_⟩
    refine ⟨(r.boCat.2, wRc), ⟨.refl _, .str rfl, trivial⟩, ⟨⟨rfl, .rowEq (rL hE :), .int (rI hE :), .int (rN hE :), .int (rA hE :), .int (rE hE :), trivial⟩, trivial⟩, ⟨rok_fwd hd f5, trivial⟩, ?_⟩
    exact ⟨.refl (.tup []), ⟨rfl, .refl _, .refl _, .refl _, .refl _, .refl _, trivial⟩, ⟨rfl, .refl _, .refl _, .refl _, .refl _, .refl _, .refl _, .refl _, .own .., .ownRow e3, trivial⟩, trivial⟩
end Go.Proofs.YtadimoijlgmecaaGreatDoor.Ax
/- Layer parse: a class' members. -/
set_option linter.unusedVariables false
set_option linter.unusedSimpArgs false
namespace Go.Proofs.YtadimoijlgmecaaGreatDoor.Ax
open Go Go.RowKit
def cPre (c : Cls) (a b : Nat) : List SV := [S c.name, B c.iface, S c.super, .row ByteArray 1 strC noS c.ifaces, .own Fld 4 fldC fld0 c.fields a, .own Meth 9 methC meth0 c.methods b]
def memberRC : CtrB := { A := Rs × Cls, enc := fun x => [.box 1000 0, .box 1001 0], pre := fun x => [rsC x.1, cPre x.2 6900000 7000000], dom := fun x => rok x.1 ∧ x.2.fields.length ≤ 2000000 ∧ x.2.methods.length ≤ 2000000, res := fun _ _ => .tup [], post := fun x id => [rsC (x.1.member x.2).2, cPre (x.1.member x.2).1 (id + 6900000) (id + 7000000)], gl := tabP }
theorem baT {a b : ByteArray} (h : (a.toList == b.toList) = true) : a = b := by rw [ba_eq] at h; exact of_decide_eq_true h
theorem baF {a b : ByteArray} (h : (a.toList == b.toList) = false) : a ≠ b := by rw [ba_eq] at h; exact of_decide_eq_false h
set_option maxRecDepth 100000 in
set_option maxHeartbeats 8000000 in
theorem memberR_ok : CtrBSound Tryz.prog 68 memberRC :=
  ctrB_of_ax2 mixed _ Tryz.func68 (by kernel_rfl) rfl (fun _ _ => ⟨Nat.le_of_ble_eq_true rfl, Nat.le_of_ble_eq_true rfl⟩) fun ((r, c) : Rs × Cls) id hd => by
    refine ⟨_, ⟨env_okB tys_ok (eqs := []) trivial (cs := [(97, nextC)]) ⟨next_ok, trivial⟩ (bs := [(63, roomC), (64, wantC), (65, freshRC), (100, kindRC), (101, paramsRC), (66, takeC), (102, bodyRC), (98, failC)]) ⟨room_ok, want_ok, freshR_ok, kindR_ok, paramsR_ok, take_ok, bodyR_ok, fail_ok, trivial⟩ (gl := tabP), fun _ h => h⟩, ?_⟩
    refine ⟨(r, ()), ⟨.refl _, trivial⟩, rfl, ⟨hd.1, trivial⟩, ?_⟩
    refine ⟨fun h1 => ?_, fun h1 => ?_⟩
    · have w1 : r.next.2.1 = wField := baT h1
      have hor : r.next.2.1 = wField ∨ r.next.2.1 = wStatic := .inl w1
      refine ⟨fun _ => ?_, fun c => (noTF h1 c).elim⟩
      have hr : rok r := hd.1
      have g1 : Fwd r (r.memF c.fields.length) := Rs.memF_fwd r c.fields.length
      have g2 := g1.trans (Rs.fresh_fwd _)
      have g3 := g2.trans (Rs.want_fwd _ wColon)
      have g4 := g3.trans (Rs.kind_fwd _)
      have e : r.member c = (⟨c.name, c.iface, c.super, c.ifaces, c.fields ++ [(r.memF c.fields.length).mfV (decide (r.next.2.1 = wStatic))], c.methods⟩, (r.memF c.fields.length).mfR) := if_pos hor
      refine ⟨by kernel_rfl, ?_⟩
      refine ⟨(r, (c.fields.length : Int), 6), ⟨.refl _, .refl _, .refl _, trivial⟩, ⟨⟨rfl, .refl _, .refl _, .refl _, .refl _, .refl _, trivial⟩, trivial⟩, ⟨hr, trivial⟩, ?_⟩
      refine ⟨by kernel_rfl, ?_⟩
      refine ⟨(r.room c.fields.length 6, r.next.2.1), ⟨.refl _, .refl _, trivial⟩, ⟨⟨rfl, .refl _, .refl _, .refl _, .refl _, .refl _, trivial⟩, trivial⟩, ⟨rok_fwd hr (Rs.room_fwd r _ _), trivial⟩, ?_⟩
      refine ⟨by kernel_rfl, ?_⟩
      refine ⟨((r.memF c.fields.length), ()), ⟨.refl _, trivial⟩, ⟨⟨rfl, .refl _, .refl _, .refl _, .refl _, .refl _, trivial⟩, trivial⟩, ⟨rok_fwd hr g1, trivial⟩, ?_⟩
      refine ⟨by kernel_rfl, ?_⟩
      refine ⟨((r.memF c.fields.length).fresh, wColon), ⟨.refl _, .str rfl, trivial⟩, ⟨⟨rfl, .refl _, .refl _, .refl _, .refl _, .refl _, trivial⟩, trivial⟩, ⟨rok_fwd hr g2, trivial⟩, ?_⟩
      refine ⟨by kernel_rfl, ?_⟩
      refine ⟨((r.memF c.fields.length).fresh.want wColon, ()), ⟨.refl _, trivial⟩, ⟨⟨rfl, .refl _, .refl _, .refl _, .refl _, .refl _, trivial⟩, trivial⟩, ⟨rok_fwd hr g3, trivial⟩, ?_⟩
      refine ⟨by kernel_rfl, ?_⟩
      refine ⟨(((r.memF c.fields.length).fresh.want wColon).kind, wSemi), ⟨.refl _, .str rfl, trivial⟩, ⟨⟨rfl, .refl _, .refl _, .refl _, .refl _, .refl _, trivial⟩, trivial⟩, ⟨rok_fwd hr g4, trivial⟩, ?_⟩
      refine ⟨by kernel_rfl, ?_⟩
      refine ⟨Fld, fldC, fld0, [(r.memF c.fields.length).mfV (decide (r.next.2.1 = wStatic))], ⟨rfl, fun _ => rfl⟩, ⟨.refl _, .refl _, .refl _, .bool (ba_eq _ _), trivial⟩, rfl, ?_⟩
      refine ⟨Fld, fldC, fld0, c.fields, [(r.memF c.fields.length).mfV (decide (r.next.2.1 = wStatic))], 6900000, ⟨.refl _, .own ..⟩, fun _ => rfl, (by have h5 : c.fields.length ≤ 2000000 := hd.2.1; show (c.fields.length + 1) * 48 ≤ 140737488355328; omega), ?_⟩
      have hE : (((r.memF c.fields.length).fresh.want wColon).kind).want wSemi = (r.member c).2 := by rw [e]; rfl
      exact ⟨.refl (.tup []), ⟨rfl, .rowEq (rL hE :), .int (rI hE :), .int (rN hE :), .int (rA hE :), .int (rE hE :), trivial⟩, ⟨rfl, .str (by rw [e]), .bool (by rw [e]), .str (by rw [e]), .rowEq (by rw [e]), .ownEq (by rw [e]), .ownEq (by rw [e]), trivial⟩, trivial⟩
    have w1 : r.next.2.1 ≠ wField := baF h1
    refine ⟨fun h2 => ?_, fun h2 => ?_⟩
    · have hor : r.next.2.1 = wField ∨ r.next.2.1 = wStatic := .inr (baT h2)
      have hr : rok r := hd.1
      have g1 : Fwd r (r.memF c.fields.length) := Rs.memF_fwd r c.fields.length
      have g2 := g1.trans (Rs.fresh_fwd _)
      have g3 := g2.trans (Rs.want_fwd _ wColon)
      have g4 := g3.trans (Rs.kind_fwd _)
      have e : r.member c = (⟨c.name, c.iface, c.super, c.ifaces, c.fields ++ [(r.memF c.fields.length).mfV (decide (r.next.2.1 = wStatic))], c.methods⟩, (r.memF c.fields.length).mfR) := if_pos hor
      refine ⟨by kernel_rfl, ?_⟩
      refine ⟨(r, (c.fields.length : Int), 6), ⟨.refl _, .refl _, .refl _, trivial⟩, ⟨⟨rfl, .refl _, .refl _, .refl _, .refl _, .refl _, trivial⟩, trivial⟩, ⟨hr, trivial⟩, ?_⟩
      refine ⟨by kernel_rfl, ?_⟩
      refine ⟨(r.room c.fields.length 6, r.next.2.1), ⟨.refl _, .refl _, trivial⟩, ⟨⟨rfl, .refl _, .refl _, .refl _, .refl _, .refl _, trivial⟩, trivial⟩, ⟨rok_fwd hr (Rs.room_fwd r _ _), trivial⟩, ?_⟩
      refine ⟨by kernel_rfl, ?_⟩
      refine ⟨((r.memF c.fields.length), ()), ⟨.refl _, trivial⟩, ⟨⟨rfl, .refl _, .refl _, .refl _, .refl _, .refl _, trivial⟩, trivial⟩, ⟨rok_fwd hr g1, trivial⟩, ?_⟩
      refine ⟨by kernel_rfl, ?_⟩
      refine ⟨((r.memF c.fields.length).fresh, wColon), ⟨.refl _, .str rfl, trivial⟩, ⟨⟨rfl, .refl _, .refl _, .refl _, .refl _, .refl _, trivial⟩, trivial⟩, ⟨rok_fwd hr g2, trivial⟩, ?_⟩
      refine ⟨by kernel_rfl, ?_⟩
      refine ⟨((r.memF c.fields.length).fresh.want wColon, ()), ⟨.refl _, trivial⟩, ⟨⟨rfl, .refl _, .refl _, .refl _, .refl _, .refl _, trivial⟩, trivial⟩, ⟨rok_fwd hr g3, trivial⟩, ?_⟩
      refine ⟨by kernel_rfl, ?_⟩
      refine ⟨(((r.memF c.fields.length).fresh.want wColon).kind, wSemi), ⟨.refl _, .str rfl, trivial⟩, ⟨⟨rfl, .refl _, .refl _, .refl _, .refl _, .refl _, trivial⟩, trivial⟩, ⟨rok_fwd hr g4, trivial⟩, ?_⟩
      refine ⟨by kernel_rfl, ?_⟩
      refine ⟨Fld, fldC, fld0, [(r.memF c.fields.length).mfV (decide (r.next.2.1 = wStatic))], ⟨rfl, fun _ => rfl⟩, ⟨.refl _, .refl _, .refl _, .bool (ba_eq _ _), trivial⟩, rfl, ?_⟩
      refine ⟨Fld, fldC, fld0, c.fields, [(r.memF c.fields.length).mfV (decide (r.next.2.1 = wStatic))], 6900000, ⟨.refl _, .own ..⟩, fun _ => rfl, (by have h5 : c.fields.length ≤ 2000000 := hd.2.1; show (c.fields.length + 1) * 48 ≤ 140737488355328; omega), ?_⟩
      have hE : (((r.memF c.fields.length).fresh.want wColon).kind).want wSemi = (r.member c).2 := by rw [e]; rfl
      exact ⟨.refl (.tup []), ⟨rfl, .rowEq (rL hE :), .int (rI hE :), .int (rN hE :), .int (rA hE :), .int (rE hE :), trivial⟩, ⟨rfl, .str (by rw [e]), .bool (by rw [e]), .str (by rw [e]), .rowEq (by rw [e]), .ownEq (by rw [e]), .ownEq (by rw [e]), trivial⟩, trivial⟩
    have w2 : r.next.2.1 ≠ wStatic := baF h2
    have hno : ¬ (r.next.2.1 = wField ∨ r.next.2.1 = wStatic) := fun c => c.elim w1 w2
    refine ⟨fun h3 => ?_, fun h3 => ?_⟩
    · have hor : r.next.2.1 = wMethod ∨ r.next.2.1 = wFunction := .inl (baT h3)
      refine ⟨fun _ => ?_, fun c => (noTF h3 c).elim⟩
      have hr : rok r := hd.1
      have g1 : Fwd r (r.memF c.methods.length) := Rs.memF_fwd r c.methods.length
      have g2 := g1.trans (Rs.fresh_fwd _)
      have g3 := g2.trans (Rs.params_fwd _)
      have g4 : Fwd r (r.memF c.methods.length).mm1 := g1.trans (Rs.mm1_fwd _)
      refine ⟨by kernel_rfl, ?_⟩
      refine ⟨(r, (c.methods.length : Int), 6), ⟨.refl _, .refl _, .refl _, trivial⟩, ⟨⟨rfl, .refl _, .refl _, .refl _, .refl _, .refl _, trivial⟩, trivial⟩, ⟨hr, trivial⟩, ?_⟩
      refine ⟨by kernel_rfl, ?_⟩
      refine ⟨(r.room c.methods.length 6, r.next.2.1), ⟨.refl _, .refl _, trivial⟩, ⟨⟨rfl, .refl _, .refl _, .refl _, .refl _, .refl _, trivial⟩, trivial⟩, ⟨rok_fwd hr (Rs.room_fwd r _ _), trivial⟩, ?_⟩
      refine ⟨by kernel_rfl, ?_⟩
      refine ⟨((r.memF c.methods.length), ()), ⟨.refl _, trivial⟩, ⟨⟨rfl, .refl _, .refl _, .refl _, .refl _, .refl _, trivial⟩, trivial⟩, ⟨rok_fwd hr g1, trivial⟩, ?_⟩
      refine ⟨by kernel_rfl, ?_⟩
      refine ⟨((r.memF c.methods.length).fresh, ()), ⟨.refl _, trivial⟩, ⟨⟨rfl, .refl _, .refl _, .refl _, .refl _, .refl _, trivial⟩, trivial⟩, ⟨rok_fwd hr g2, trivial⟩, ?_⟩
      refine ⟨by kernel_rfl, ?_⟩
      refine ⟨((r.memF c.methods.length).fresh.params.2, ()), ⟨.refl _, trivial⟩, ⟨⟨rfl, .refl _, .refl _, .refl _, .refl _, .refl _, trivial⟩, trivial⟩, ⟨rok_fwd hr g3, trivial⟩, ?_⟩
      refine ⟨by kernel_rfl, ?_⟩
      refine ⟨((r.memF c.methods.length).mm1, wSemi), ⟨.refl _, .str rfl, trivial⟩, ⟨⟨rfl, .refl _, .refl _, .refl _, .refl _, .refl _, trivial⟩, trivial⟩, ⟨rok_fwd hr g4, trivial⟩, ?_⟩
      refine ⟨fun h => ?_, fun h => ?_⟩
      · have h1 : (r.memF c.methods.length).mm1.is wSemi = false := notT h
        have hv : (r.memF c.methods.length).mmV (decide (r.next.2.1 = wFunction)) = (r.memF c.methods.length).mm1.bodyV ((r.memF c.methods.length).mm1V (decide (r.next.2.1 = wFunction))) := if_neg (by rw [h1]; decide)
        have hR : (r.memF c.methods.length).mm1.body = (r.memF c.methods.length).mmR := (if_neg (by rw [h1]; decide)).symm
        have hE : (r.memF c.methods.length).mm1.take wSemi = (r.memF c.methods.length).mm1 := take_no h1
        refine ⟨by kernel_rfl, ?_⟩
        refine ⟨((r.memF c.methods.length).mm1, ((r.memF c.methods.length).mm1V (decide (r.next.2.1 = wFunction)))), ⟨.refl _, .refl _, trivial⟩, ⟨⟨rfl, .rowEq (rL hE :), .int (rI hE :), .int (rN hE :), .int (rA hE :), .int (rE hE :), trivial⟩, ⟨rfl, .refl _, .bool (ba_eq _ _), .refl _, .refl _, .refl _, .refl _, .refl _, .refl _, .refl _, trivial⟩, trivial⟩, rok_fwd hr g4, ?_⟩
        clear hE
        have e : r.member c = (⟨c.name, c.iface, c.super, c.ifaces, c.fields, c.methods ++ [(r.memF c.methods.length).mm1.bodyV ((r.memF c.methods.length).mm1V (decide (r.next.2.1 = wFunction)))]⟩, (r.memF c.methods.length).mmR) := by
          unfold Rs.member; rw [if_neg hno, if_pos hor, hv]
        refine ⟨by kernel_rfl, ?_⟩
        refine ⟨Meth, methC, meth0, [(r.memF c.methods.length).mm1.bodyV ((r.memF c.methods.length).mm1V (decide (r.next.2.1 = wFunction)))], ⟨rfl, fun _ => rfl⟩, ⟨.refl _, .refl _, .refl _, .refl _, .refl _, .refl _, .refl _, .refl _, .refl _, trivial⟩, rfl, ?_⟩
        refine ⟨Meth, methC, meth0, c.methods, [(r.memF c.methods.length).mm1.bodyV ((r.memF c.methods.length).mm1V (decide (r.next.2.1 = wFunction)))], 7000000, ⟨.refl _, .own ..⟩, fun _ => rfl, (by have h5 : c.methods.length ≤ 2000000 := hd.2.2; show (c.methods.length + 1) * 128 ≤ 140737488355328; omega), ?_⟩
        have hE : (r.memF c.methods.length).mm1.body = (r.member c).2 := by rw [e]; exact hR
        exact ⟨.refl (.tup []), ⟨rfl, .rowEq (rL hE :), .int (rI hE :), .int (rN hE :), .int (rA hE :), .int (rE hE :), trivial⟩, ⟨rfl, .str (by rw [e]), .bool (by rw [e]), .str (by rw [e]), .rowEq (by rw [e]), .ownEq (by rw [e]), .ownEq (by rw [e]), trivial⟩, trivial⟩
      · have h1 : (r.memF c.methods.length).mm1.is wSemi = true := notF h
        have hv : (r.memF c.methods.length).mmV (decide (r.next.2.1 = wFunction)) = ((r.memF c.methods.length).mm1V (decide (r.next.2.1 = wFunction))) := if_pos h1
        have hR : (r.memF c.methods.length).mm1.take wSemi = (r.memF c.methods.length).mmR := by rw [take_yes h1]; exact (if_pos h1).symm
        have e : r.member c = (⟨c.name, c.iface, c.super, c.ifaces, c.fields, c.methods ++ [((r.memF c.methods.length).mm1V (decide (r.next.2.1 = wFunction)))]⟩, (r.memF c.methods.length).mmR) := by
          unfold Rs.member; rw [if_neg hno, if_pos hor, hv]
        refine ⟨by kernel_rfl, ?_⟩
        refine ⟨Meth, methC, meth0, [((r.memF c.methods.length).mm1V (decide (r.next.2.1 = wFunction)))], ⟨rfl, fun _ => rfl⟩, ⟨.refl _, .bool (ba_eq _ _), .refl _, .own .., .refl _, .refl _, .refl _, .nil .., .nil .., trivial⟩, rfl, ?_⟩
        refine ⟨Meth, methC, meth0, c.methods, [((r.memF c.methods.length).mm1V (decide (r.next.2.1 = wFunction)))], 7000000, ⟨.refl _, .own ..⟩, fun _ => rfl, (by have h5 : c.methods.length ≤ 2000000 := hd.2.2; show (c.methods.length + 1) * 128 ≤ 140737488355328; omega), ?_⟩
        have hE : (r.memF c.methods.length).mm1.take wSemi = (r.member c).2 := by rw [e]; exact hR
        exact ⟨.refl (.tup []), ⟨rfl, .rowEq (rL hE :), .int (rI hE :), .int (rN hE :), .int (rA hE :), .int (rE hE :), trivial⟩, ⟨rfl, .str (by rw [e]), .bool (by rw [e]), .str (by rw [e]), .rowEq (by rw [e]), .ownEq (by rw [e]), .ownEq (by rw [e]), trivial⟩, trivial⟩
    have w3 : r.next.2.1 ≠ wMethod := baF h3
    refine ⟨fun h4 => ?_, fun h4 => ?_⟩
    · have hor : r.next.2.1 = wMethod ∨ r.next.2.1 = wFunction := .inr (baT h4)
      have hr : rok r := hd.1
      have g1 : Fwd r (r.memF c.methods.length) := Rs.memF_fwd r c.methods.length
      have g2 := g1.trans (Rs.fresh_fwd _)
      have g3 := g2.trans (Rs.params_fwd _)
      have g4 : Fwd r (r.memF c.methods.length).mm1 := g1.trans (Rs.mm1_fwd _)
      refine ⟨by kernel_rfl, ?_⟩
      refine ⟨(r, (c.methods.length : Int), 6), ⟨.refl _, .refl _, .refl _, trivial⟩, ⟨⟨rfl, .refl _, .refl _, .refl _, .refl _, .refl _, trivial⟩, trivial⟩, ⟨hr, trivial⟩, ?_⟩
      refine ⟨by kernel_rfl, ?_⟩
      refine ⟨(r.room c.methods.length 6, r.next.2.1), ⟨.refl _, .refl _, trivial⟩, ⟨⟨rfl, .refl _, .refl _, .refl _, .refl _, .refl _, trivial⟩, trivial⟩, ⟨rok_fwd hr (Rs.room_fwd r _ _), trivial⟩, ?_⟩
      refine ⟨by kernel_rfl, ?_⟩
      refine ⟨((r.memF c.methods.length), ()), ⟨.refl _, trivial⟩, ⟨⟨rfl, .refl _, .refl _, .refl _, .refl _, .refl _, trivial⟩, trivial⟩, ⟨rok_fwd hr g1, trivial⟩, ?_⟩
      refine ⟨by kernel_rfl, ?_⟩
      refine ⟨((r.memF c.methods.length).fresh, ()), ⟨.refl _, trivial⟩, ⟨⟨rfl, .refl _, .refl _, .refl _, .refl _, .refl _, trivial⟩, trivial⟩, ⟨rok_fwd hr g2, trivial⟩, ?_⟩
      refine ⟨by kernel_rfl, ?_⟩
      refine ⟨((r.memF c.methods.length).fresh.params.2, ()), ⟨.refl _, trivial⟩, ⟨⟨rfl, .refl _, .refl _, .refl _, .refl _, .refl _, trivial⟩, trivial⟩, ⟨rok_fwd hr g3, trivial⟩, ?_⟩
      refine ⟨by kernel_rfl, ?_⟩
      refine ⟨((r.memF c.methods.length).mm1, wSemi), ⟨.refl _, .str rfl, trivial⟩, ⟨⟨rfl, .refl _, .refl _, .refl _, .refl _, .refl _, trivial⟩, trivial⟩, ⟨rok_fwd hr g4, trivial⟩, ?_⟩
      refine ⟨fun h => ?_, fun h => ?_⟩
      · have h1 : (r.memF c.methods.length).mm1.is wSemi = false := notT h
        have hv : (r.memF c.methods.length).mmV (decide (r.next.2.1 = wFunction)) = (r.memF c.methods.length).mm1.bodyV ((r.memF c.methods.length).mm1V (decide (r.next.2.1 = wFunction))) := if_neg (by rw [h1]; decide)
        have hR : (r.memF c.methods.length).mm1.body = (r.memF c.methods.length).mmR := (if_neg (by rw [h1]; decide)).symm
        have hE : (r.memF c.methods.length).mm1.take wSemi = (r.memF c.methods.length).mm1 := take_no h1
        refine ⟨by kernel_rfl, ?_⟩
        refine ⟨((r.memF c.methods.length).mm1, ((r.memF c.methods.length).mm1V (decide (r.next.2.1 = wFunction)))), ⟨.refl _, .refl _, trivial⟩, ⟨⟨rfl, .rowEq (rL hE :), .int (rI hE :), .int (rN hE :), .int (rA hE :), .int (rE hE :), trivial⟩, ⟨rfl, .refl _, .bool (ba_eq _ _), .refl _, .refl _, .refl _, .refl _, .refl _, .refl _, .refl _, trivial⟩, trivial⟩, rok_fwd hr g4, ?_⟩
        clear hE
        have e : r.member c = (⟨c.name, c.iface, c.super, c.ifaces, c.fields, c.methods ++ [(r.memF c.methods.length).mm1.bodyV ((r.memF c.methods.length).mm1V (decide (r.next.2.1 = wFunction)))]⟩, (r.memF c.methods.length).mmR) := by
          unfold Rs.member; rw [if_neg hno, if_pos hor, hv]
        refine ⟨by kernel_rfl, ?_⟩
        refine ⟨Meth, methC, meth0, [(r.memF c.methods.length).mm1.bodyV ((r.memF c.methods.length).mm1V (decide (r.next.2.1 = wFunction)))], ⟨rfl, fun _ => rfl⟩, ⟨.refl _, .refl _, .refl _, .refl _, .refl _, .refl _, .refl _, .refl _, .refl _, trivial⟩, rfl, ?_⟩
        refine ⟨Meth, methC, meth0, c.methods, [(r.memF c.methods.length).mm1.bodyV ((r.memF c.methods.length).mm1V (decide (r.next.2.1 = wFunction)))], 7000000, ⟨.refl _, .own ..⟩, fun _ => rfl, (by have h5 : c.methods.length ≤ 2000000 := hd.2.2; show (c.methods.length + 1) * 128 ≤ 140737488355328; omega), ?_⟩
        have hE : (r.memF c.methods.length).mm1.body = (r.member c).2 := by rw [e]; exact hR
        exact ⟨.refl (.tup []), ⟨rfl, .rowEq (rL hE :), .int (rI hE :), .int (rN hE :), .int (rA hE :), .int (rE hE :), trivial⟩, ⟨rfl, .str (by rw [e]), .bool (by rw [e]), .str (by rw [e]), .rowEq (by rw [e]), .ownEq (by rw [e]), .ownEq (by rw [e]), trivial⟩, trivial⟩
      · have h1 : (r.memF c.methods.length).mm1.is wSemi = true := notF h
        have hv : (r.memF c.methods.length).mmV (decide (r.next.2.1 = wFunction)) = ((r.memF c.methods.length).mm1V (decide (r.next.2.1 = wFunction))) := if_pos h1
        have hR : (r.memF c.methods.length).mm1.take wSemi = (r.memF c.methods.length).mmR := by rw [take_yes h1]; exact (if_pos h1).symm
        have e : r.member c = (⟨c.name, c.iface, c.super, c.ifaces, c.fields, c.methods ++ [((r.memF c.methods.length).mm1V (decide (r.next.2.1 = wFunction)))]⟩, (r.memF c.methods.length).mmR) := by
          unfold Rs.member; rw [if_neg hno, if_pos hor, hv]
        refine ⟨by kernel_rfl, ?_⟩
        refine ⟨Meth, methC, meth0, [((r.memF c.methods.length).mm1V (decide (r.next.2.1 = wFunction)))], ⟨rfl, fun _ => rfl⟩, ⟨.refl _, .bool (ba_eq _ _), .refl _, .own .., .refl _, .refl _, .refl _, .nil .., .nil .., trivial⟩, rfl, ?_⟩
        refine ⟨Meth, methC, meth0, c.methods, [((r.memF c.methods.length).mm1V (decide (r.next.2.1 = wFunction)))], 7000000, ⟨.refl _, .own ..⟩, fun _ => rfl, (by have h5 : c.methods.length ≤ 2000000 := hd.2.2; show (c.methods.length + 1) * 128 ≤ 140737488355328; omega), ?_⟩
        have hE : (r.memF c.methods.length).mm1.take wSemi = (r.member c).2 := by rw [e]; exact hR
        exact ⟨.refl (.tup []), ⟨rfl, .rowEq (rL hE :), .int (rI hE :), .int (rN hE :), .int (rA hE :), .int (rE hE :), trivial⟩, ⟨rfl, .str (by rw [e]), .bool (by rw [e]), .str (by rw [e]), .rowEq (by rw [e]), .ownEq (by rw [e]), .ownEq (by rw [e]), trivial⟩, trivial⟩
    have w4 : r.next.2.1 ≠ wFunction := baF h4
    have e : r.member c = (c, r.fail 4) := by
      unfold Rs.member; rw [if_neg hno, if_neg (fun c => c.elim w3 w4)]
    refine ⟨by kernel_rfl, ?_⟩
    refine ⟨(r, 4), ⟨.refl _, .refl _, trivial⟩, ⟨⟨rfl, .refl _, .refl _, .refl _, .refl _, .refl _, trivial⟩, trivial⟩, ⟨hd.1, trivial⟩, ?_⟩
    have hE : r.fail 4 = (r.member c).2 := by rw [e]
    exact ⟨.refl (.tup []), ⟨rfl, .rowEq (rL hE :), .int (rI hE :), .int (rN hE :), .int (rA hE :), .int (rE hE :), trivial⟩, ⟨rfl, .str (by rw [e]), .bool (by rw [e]), .str (by rw [e]), .rowEq (by rw [e]), .ownEq (by rw [e]), .ownEq (by rw [e]), trivial⟩, trivial⟩
end Go.Proofs.YtadimoijlgmecaaGreatDoor.Ax
