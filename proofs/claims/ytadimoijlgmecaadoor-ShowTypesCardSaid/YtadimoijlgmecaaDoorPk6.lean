/- Walks and laws, part 6: Sl Sn Wa So Sq Gc Gd Ge Gf Gg Gh Gi Gj Sh Gk Gn Gv. -/
import Derived.Test.YtadimoijlgmecaaDoorPk5
import Derived.Shelf.Strings.BuilderK
import Derived.WalkKit
import Derived.BigCall
import Derived.Lib.Hide
/- Layer show: the words of methods and classes. PRINTED by wip/sp/sl.py. -/
set_option linter.unusedVariables false
set_option linter.unusedSimpArgs false
namespace Go.Proofs.YtadimoijlgmecaaDoor.Ax
open Go Go.RowKit
theorem kindW_len (t : Ty) : (kindW t).length ≤ 3 ∧ 0 < (kindW t).length := by
  unfold kindW kindF
  split <;> first | exact ⟨by decide, by decide⟩ | skip
  split <;> first | exact ⟨by decide, by decide⟩ | skip
  split <;> first | exact ⟨by simp, by simp⟩ | skip
  split <;> exact ⟨by simp, by simp⟩
theorem flat_le {α β : Type} (g : α → List β) (k : Nat) : ∀ l : List α, (∀ x ∈ l, (g x).length ≤ k) → (l.flatMap g).length ≤ k * l.length
  | [], _ => by simp
  | a :: r, h => by
    have h1 := h a List.mem_cons_self
    have h2 := flat_le g k r fun x hx => h x (List.mem_cons_of_mem _ hx)
    simp only [List.flatMap_cons, List.length_append, List.length_cons, Nat.mul_succ]
    omega
theorem paramsF_snoc (l : List Ty) (i : Nat) (h : i < l.length) : paramsF (l.take (i + 1)) = paramsF (l.take i) ++ ((if i = 0 then [] else [wComma]) ++ kindW (l.getD i ty0)) := by
  cases l with
  | nil => simp at h
  | cons s r =>
    cases i with
    | zero => simp [paramsF]
    | succ i =>
      simp only [List.length_cons] at h
      simp only [List.take_succ_cons, paramsF, List.getD_cons_succ]
      rw [flat_snoc _ r ty0 i (by omega), if_neg (by omega)]
      simp
theorem paramsF_len (l : List Ty) : (paramsF l).length ≤ 4 * l.length := by
  cases l with
  | nil => simp [paramsF]
  | cons s r =>
    have h1 := (kindW_len s).1
    have h2 := flat_le (fun x => wComma :: kindW x) 4 r fun x _ => by have := (kindW_len x).1; simp only [List.length_cons]; omega
    simp only [paramsF, List.length_append, List.length_cons]
    omega
theorem codeF_len (x : Ins) : (codeF x).length ≤ 5 := by
  rw [codeF_eq]
  have h := someW_len ([x.a, x.b].take 2)
  have h2 : (if (numsF x.op).2.2 then [dig x.n] else []).length ≤ 1 := by split <;> simp
  simp only [List.length_append, List.length_cons, List.length_nil] at h ⊢
  simp only [List.take_succ_cons, List.take_zero, List.length_cons, List.length_nil] at h
  simp only [List.take_succ_cons, List.take_zero]
  omega
theorem catF_len (c : Cat) : (catF c).length = 6 := rfl
theorem takeF_le {α β : Type} (g : α → List β) (k : Nat) (hg : ∀ x, (g x).length ≤ k) (l : List α) (i : Nat) : ((l.take i).flatMap g).length ≤ k * l.length := by
  have h1 := flat_le g k (l.take i) fun x _ => hg x
  have h2 : (l.take i).length ≤ l.length := by rw [List.length_take]; omega
  exact Nat.le_trans h1 (Nat.mul_le_mul_left k h2)
theorem Sub.manyEq {T : Type} {sz : Nat} {cs : T → List SV} {d : T} {a b : List T} (h : a = b) : Sub (.many T sz cs d a) (.many T sz cs d b) := by subst h; exact .refl _
def hdM (m : Meth) : List ByteArray := [if m.static then wFunction else wMethod, m.name, wLp]
def doM1 (m : Meth) : List ByteArray := hdM m ++ paramsF m.params ++ [wRp] ++ kindW m.ret
def doM2 (m : Meth) : List ByteArray := doM1 m ++ [wLocals, dig m.locals, wLc]
theorem doesF_abs {m : Meth} (h : m.abs = true) : doesF m = doM1 m ++ [wSemi] := by
  unfold doesF doM1 hdM; rw [if_pos (show m.abs = true from h)]; simp
theorem doesF_code {m : Meth} (h : m.abs = false) : doesF m = doM2 m ++ m.code.flatMap codeF ++ m.catches.flatMap catF ++ [wRc] := by
  unfold doesF doM2 doM1 hdM; rw [if_neg (show ¬ m.abs = true by rw [h]; decide)]; simp
def doesC : Ctr := { A := Meth, enc := fun m => [.agg (methC m)], dom := fun m => methOk m = true, res := fun m id => .own ByteArray 1 strC noS (doesF m) id, gl := tabS }
set_option maxRecDepth 100000 in
set_option maxHeartbeats 4000000 in
theorem does_ok : CtrSound Tryd.prog 29 doesC :=
  ctr_of_ax (env_okB tys_ok (eqs := []) trivial (cs := [(25, kindC), (42, codeC), (41, itoaS)]) ⟨kind_ok, code_ok, itoaS_ok, trivial⟩ (bs := []) trivial (vec := [12]) (gl := tabS) (cut := [4, 12])) mixed _ Tryd.func29 (by kernel_rfl) rfl (fun _ _ => Nat.le_of_ble_eq_true rfl) fun (m : Meth) id hd => by
    have hd : methOk m = true := hd
    obtain ⟨hp1, hp2, hp3, hp4, hp5, hp6, hp7⟩ := meth_parts hd
    have hpl := paramsF_len m.params
    have hkr := kindW_len m.ret
    have hm1 : (doM1 m).length ≤ 100 := by unfold doM1 hdM; simp only [List.length_append, List.length_cons, List.length_nil]; omega
    have hm2 : (doM2 m).length ≤ 103 := by unfold doM2; simp only [List.length_append, List.length_cons, List.length_nil]; omega
    have hcl : ∀ i, ((m.code.take i).flatMap codeF).length ≤ 240 := fun i => by
      have := takeF_le codeF 5 codeF_len m.code i
      have := hp6.1
      omega
    have hkl : ∀ i, ((m.catches.take i).flatMap catF).length ≤ 24 := fun i => by
      have := takeF_le catF 6 (fun c => Nat.le_of_eq (catF_len c)) m.catches i
      have := hp7.1
      omega
    refine ⟨ByteArray, strC, noS, [wMethod, m.name, wLp], ⟨rfl, fun _ => ⟨rfl, rfl, rfl⟩⟩, ⟨.refl _, .refl _, .refl _, trivial⟩, ?_⟩
    refine ⟨Unit, fun _ => [(1, .box 1 0), (3, .arr 12 1 0 3 (some 3))], fun _ => [(1, methC m), (12, [.many ByteArray 1 strC noS (hdM m)])], fun _ => True, ?_, fun _ _ => ?_⟩
    · refine ⟨fun h => ?_, fun h => ?_⟩
      · have h : m.static = true := h
        refine ⟨⟨by decide, by decide⟩, ?_⟩
        refine ⟨⟨Int.le_refl 0, (show (0 : Int) < 3 by decide)⟩, ?_⟩
        refine ⟨wFunction, ⟨.refl _, trivial⟩, ?_⟩
        exact ⟨(), trivial, ⟨rfl, rfl⟩, .refl _, .refl _, ⟨.refl _, .refl _, .refl _, .refl _, .refl _, .refl _, .refl _, .refl _, .refl _, trivial⟩, ⟨.manyEq (by unfold hdM; rw [if_pos h]; rfl), trivial⟩, trivial⟩
      · have h : m.static = false := h
        exact ⟨(), trivial, ⟨rfl, rfl⟩, .refl _, .refl _, ⟨.refl _, .refl _, .refl _, .refl _, .refl _, .refl _, .refl _, .refl _, .refl _, trivial⟩, ⟨.manyEq (by unfold hdM; rw [if_neg (by rw [h]; decide)]), trivial⟩, trivial⟩
    refine ⟨Nat × Bool, fun s => [(1, .box 1 0), (3, cond s.2 (.own ByteArray 1 strC noS (hdM m ++ paramsF (m.params.take s.1)) 33) (.arr 12 1 0 3 (some 3))), (19, I m.params.length), (20, I s.1), (18, .row Ty 2 tyC ty0 m.params)],
      fun s => cond s.2 [(1, methC m)] [(1, methC m), (12, [.many ByteArray 1 strC noS (hdM m)])], fun s => s.1 ≤ m.params.length ∧ (s.2 = false → s.1 = 0), fun s => m.params.length - s.1,
      ⟨(0, false), ⟨Nat.zero_le _, fun _ => rfl⟩, ⟨⟨rfl, rfl⟩, .refl _, .refl _, .refl _, .refl _, .refl _, ⟨.refl _, .refl _, .refl _, .refl _, .refl _, .refl _, .refl _, .refl _, .refl _, trivial⟩, ⟨.refl _, trivial⟩, trivial⟩⟩, fun ((i, b) : Nat × Bool) hi => ?_⟩
    have hi1 : i ≤ m.params.length := hi.1
    have hwj : IntKind.i64.wrap ((i : Int) + 1) = ((i + 1 : Nat) : Int) := by rw [wrap_eq _ (by omega) (by omega)]; omega
    have hbi := paramsF_len (m.params.take i)
    have hti : (m.params.take i).length ≤ 4 := by rw [List.length_take]; omega
    have hki := kindW_len (m.params.getD i ty0)
    cases b
    case false =>
      have h0 : i = 0 := hi.2 rfl
      refine ⟨fun h => ?_, fun h => ?_⟩
      · have hlt : i < m.params.length := by have := of_decide_eq_true h; omega
        have hs := paramsF_snoc m.params i hlt
        rw [if_pos h0] at hs
        refine ⟨⟨by omega, by omega⟩, ?_⟩
        refine ⟨fun h3 => ?_, fun h3 => ?_⟩
        · have h3 := of_decide_eq_true h3
          exact absurd h3 (by omega)
        · refine ⟨m.params.getD i ty0, ⟨.refl _, trivial⟩, rfl, trivial, ?_⟩
          refine .inl ⟨kindW (m.params.getD i ty0), ⟨rfl, Nat.le_refl _, hki.2, .own ..⟩, (show (3 + (kindW (m.params.getD i ty0)).length) * 16 ≤ 140737488355328 by omega), ?_⟩
          exact ⟨(i + 1, true), ⟨hlt, fun c => by cases c⟩, by show m.params.length - (i + 1) < m.params.length - i; omega, ⟨rfl, rfl⟩, .refl _, .ownEq (by rw [hs, h0]; rfl), .refl _, .int hwj, .refl _, ⟨.refl _, .refl _, .refl _, .refl _, .refl _, .refl _, .refl _, .refl _, .refl _, trivial⟩, trivial⟩
      · have hge : m.params.length = 0 := by have := of_decide_eq_false h; omega
        have hnil : m.params = [] := List.length_eq_zero_iff.1 hge
        refine ⟨Unit, fun _ => [(1, .box 1 0), (3, .own ByteArray 1 strC noS (doM1 m) 41)], fun _ => [(1, methC m)], fun _ => True, ?_, fun _ _ => ?_⟩
        · refine ⟨by kernel_rfl, ?_⟩
          refine ⟨ByteArray, strC, noS, [wRp], ⟨rfl, fun _ => rfl⟩, ⟨.refl _, trivial⟩, rfl, ?_⟩
          refine .inl ⟨[wRp], ⟨rfl, Nat.le_refl _, Nat.succ_pos _, .own ..⟩, (show (3 + 1) * 16 ≤ 140737488355328 by omega), ?_⟩
          refine ⟨m.ret, ⟨.refl _, trivial⟩, rfl, trivial, ?_⟩
          refine ⟨ByteArray, strC, noS, hdM m ++ [wRp], kindW m.ret, 37, ⟨.refl _, .own ..⟩, fun _ => rfl, (by unfold hdM; simp only [List.length_append, List.length_cons, List.length_nil]; omega), ?_⟩
          exact ⟨(), trivial, ⟨rfl, rfl⟩, .refl _, .ownEq (by unfold doM1; rw [hnil]; simp [paramsF]), ⟨.refl _, .refl _, .refl _, .refl _, .refl _, .refl _, .refl _, .refl _, .refl _, trivial⟩, trivial⟩
        clear hwj hbi hti hki h hi hi1
        refine ⟨fun ha => ?_, fun ha => ?_⟩
        · refine ⟨ByteArray, strC, noS, [wSemi], ⟨rfl, fun _ => rfl⟩, ⟨.refl _, trivial⟩, rfl, ?_⟩
          refine ⟨ByteArray, strC, noS, doM1 m, [wSemi], 41, ⟨.refl _, .own ..⟩, fun _ => rfl, (by simp only [List.length_cons, List.length_nil]; omega), ?_⟩
          exact ⟨.ownEq (doesF_abs ha).symm, rfl⟩
        · refine ⟨m.locals, ⟨.refl _, trivial⟩, rfl, ⟨by omega, by omega⟩, ?_⟩
          refine ⟨ByteArray, strC, noS, [wLocals, dig m.locals, wLc], ⟨rfl, fun _ => rfl⟩, ⟨.refl _, .refl _, .refl _, trivial⟩, rfl, ?_⟩
          refine ⟨ByteArray, strC, noS, doM1 m, [wLocals, dig m.locals, wLc], 41, ⟨.refl _, .own ..⟩, fun _ => rfl, (by simp only [List.length_cons, List.length_nil]; omega), ?_⟩
          refine ⟨Nat × Bool, fun s => [(1, .box 1 0), (3, .own ByteArray 1 strC noS (doM2 m ++ (m.code.take s.1).flatMap codeF) (cond s.2 63 52)), (55, I m.code.length), (56, I s.1), (54, .row Ins 4 insC ins0 m.code)], fun _ => [(1, methC m)], fun s => s.1 ≤ m.code.length, fun s => m.code.length - s.1,
            ⟨(0, false), Nat.zero_le _, ⟨⟨rfl, rfl⟩, .refl _, .ownEq (by simp [doM2]), .refl _, .refl _, .refl _, ⟨.refl _, .refl _, .refl _, .refl _, .refl _, .refl _, .refl _, .refl _, .refl _, trivial⟩, trivial⟩⟩, fun ((i, b) : Nat × Bool) hi => ?_⟩
          have hi1 : i ≤ m.code.length := hi
          have hwj : IntKind.i64.wrap ((i : Int) + 1) = ((i + 1 : Nat) : Int) := by rw [wrap_eq _ (by omega) (by omega)]; omega
          have hbi := hcl i
          cases b
          case false =>
            refine ⟨fun h => ?_, fun h => ?_⟩
            · have hlt : i < m.code.length := by have := of_decide_eq_true h; omega
              have hs := flat_snoc codeF m.code ins0 i hlt
              have hx := ins_parts (hp6.2 _ (getT_mem m.code ins0 i hlt))
              have hr := nums_R (m.code.getD i ins0).op
              have hcx := codeF_len (m.code.getD i ins0)
              refine ⟨⟨by omega, by omega⟩, ?_⟩
              refine ⟨m.code.getD i ins0, ⟨.refl _, trivial⟩, rfl, ⟨by omega, by omega⟩, ?_⟩
              refine ⟨ByteArray, strC, noS, doM2 m ++ (m.code.take i).flatMap codeF, codeF (m.code.getD i ins0), 52, ⟨.refl _, .own ..⟩, fun _ => rfl, (by simp only [List.length_append]; omega), ?_⟩
              exact ⟨(i + 1, true), hlt, by show m.code.length - (i + 1) < m.code.length - i; omega, ⟨rfl, rfl⟩, .refl _, .ownEq (by rw [hs, List.append_assoc]), .refl _, .int hwj, .refl _, ⟨.refl _, .refl _, .refl _, .refl _, .refl _, .refl _, .refl _, .refl _, .refl _, trivial⟩, trivial⟩
            · have hge : i = m.code.length := by have := of_decide_eq_false h; omega
              have hcb := hcl m.code.length
              rw [List.take_length] at hcb
              clear hwj hbi h hi hi1
              refine ⟨Nat × Bool, fun s => [(3, .own ByteArray 1 strC noS (doM2 m ++ m.code.flatMap codeF ++ (m.catches.take s.1).flatMap catF) (cond s.2 85 52)), (67, I m.catches.length), (68, I s.1), (66, .row Cat 4 catC cat0 m.catches)], fun _ => [], fun s => s.1 ≤ m.catches.length, fun s => m.catches.length - s.1,
                ⟨(0, false), Nat.zero_le _, ⟨⟨rfl, rfl⟩, .ownEq (by rw [hge, List.take_length]; simp), .refl _, .refl _, .refl _, trivial⟩⟩, fun ((i, b) : Nat × Bool) hi => ?_⟩
              have hi1 : i ≤ m.catches.length := hi
              have hwj : IntKind.i64.wrap ((i : Int) + 1) = ((i + 1 : Nat) : Int) := by rw [wrap_eq _ (by omega) (by omega)]; omega
              have hbi := hkl i
              cases b
              case false =>
                refine ⟨fun h => ?_, fun h => ?_⟩
                · have hlt : i < m.catches.length := by have := of_decide_eq_true h; omega
                  have hs := flat_snoc catF m.catches cat0 i hlt
                  have hx := cat_parts (hp7.2 _ (getT_mem m.catches cat0 i hlt))
                  refine ⟨⟨by omega, by omega⟩, ?_⟩
                  refine ⟨by kernel_rfl, ?_⟩
                  refine ⟨(m.catches.getD i cat0).fr, ⟨.refl _, trivial⟩, rfl, ⟨by omega, by omega⟩, ?_⟩
                  refine ⟨(m.catches.getD i cat0).up, ⟨.refl _, trivial⟩, rfl, ⟨by omega, by omega⟩, ?_⟩
                  refine ⟨(m.catches.getD i cat0).at', ⟨.refl _, trivial⟩, rfl, ⟨by omega, by omega⟩, ?_⟩
                  refine ⟨ByteArray, strC, noS, catF (m.catches.getD i cat0), ⟨rfl, fun _ => rfl⟩, ⟨.refl _, .refl _, .refl _, .refl _, .refl _, .refl _, trivial⟩, rfl, ?_⟩
                  refine ⟨ByteArray, strC, noS, doM2 m ++ m.code.flatMap codeF ++ (m.catches.take i).flatMap catF, catF (m.catches.getD i cat0), 52, ⟨.refl _, .own ..⟩, fun _ => rfl, (by simp only [List.length_append, catF_len]; omega), ?_⟩
                  exact ⟨(i + 1, true), hlt, by show m.catches.length - (i + 1) < m.catches.length - i; omega, ⟨rfl, rfl⟩, .ownEq (by rw [hs]; simp), .refl _, .int hwj, .refl _, trivial⟩
                · have hge2 : i = m.catches.length := by have := of_decide_eq_false h; omega
                  refine ⟨ByteArray, strC, noS, [wRc], ⟨rfl, fun _ => rfl⟩, ⟨.refl _, trivial⟩, rfl, ?_⟩
                  refine ⟨ByteArray, strC, noS, doM2 m ++ m.code.flatMap codeF ++ (m.catches.take i).flatMap catF, [wRc], 52, ⟨.refl _, .own ..⟩, fun _ => rfl, (by simp only [List.length_append, List.length_cons, List.length_nil]; omega), ?_⟩
                  exact ⟨.ownEq (by rw [doesF_code ha, hge2, List.take_length]), rfl⟩
              case true =>
                refine ⟨fun h => ?_, fun h => ?_⟩
                · have hlt : i < m.catches.length := by have := of_decide_eq_true h; omega
                  have hs := flat_snoc catF m.catches cat0 i hlt
                  have hx := cat_parts (hp7.2 _ (getT_mem m.catches cat0 i hlt))
                  refine ⟨⟨by omega, by omega⟩, ?_⟩
                  refine ⟨by kernel_rfl, ?_⟩
                  refine ⟨(m.catches.getD i cat0).fr, ⟨.refl _, trivial⟩, rfl, ⟨by omega, by omega⟩, ?_⟩
                  refine ⟨(m.catches.getD i cat0).up, ⟨.refl _, trivial⟩, rfl, ⟨by omega, by omega⟩, ?_⟩
                  refine ⟨(m.catches.getD i cat0).at', ⟨.refl _, trivial⟩, rfl, ⟨by omega, by omega⟩, ?_⟩
                  refine ⟨ByteArray, strC, noS, catF (m.catches.getD i cat0), ⟨rfl, fun _ => rfl⟩, ⟨.refl _, .refl _, .refl _, .refl _, .refl _, .refl _, trivial⟩, rfl, ?_⟩
                  refine ⟨ByteArray, strC, noS, doM2 m ++ m.code.flatMap codeF ++ (m.catches.take i).flatMap catF, catF (m.catches.getD i cat0), 85, ⟨.refl _, .own ..⟩, fun _ => rfl, (by simp only [List.length_append, catF_len]; omega), ?_⟩
                  exact ⟨(i + 1, true), hlt, by show m.catches.length - (i + 1) < m.catches.length - i; omega, ⟨rfl, rfl⟩, .ownEq (by rw [hs]; simp), .refl _, .int hwj, .refl _, trivial⟩
                · have hge2 : i = m.catches.length := by have := of_decide_eq_false h; omega
                  refine ⟨ByteArray, strC, noS, [wRc], ⟨rfl, fun _ => rfl⟩, ⟨.refl _, trivial⟩, rfl, ?_⟩
                  refine ⟨ByteArray, strC, noS, doM2 m ++ m.code.flatMap codeF ++ (m.catches.take i).flatMap catF, [wRc], 85, ⟨.refl _, .own ..⟩, fun _ => rfl, (by simp only [List.length_append, List.length_cons, List.length_nil]; omega), ?_⟩
                  exact ⟨.ownEq (by rw [doesF_code ha, hge2, List.take_length]), rfl⟩
          case true =>
            refine ⟨fun h => ?_, fun h => ?_⟩
            · have hlt : i < m.code.length := by have := of_decide_eq_true h; omega
              have hs := flat_snoc codeF m.code ins0 i hlt
              have hx := ins_parts (hp6.2 _ (getT_mem m.code ins0 i hlt))
              have hr := nums_R (m.code.getD i ins0).op
              have hcx := codeF_len (m.code.getD i ins0)
              refine ⟨⟨by omega, by omega⟩, ?_⟩
              refine ⟨m.code.getD i ins0, ⟨.refl _, trivial⟩, rfl, ⟨by omega, by omega⟩, ?_⟩
              refine ⟨ByteArray, strC, noS, doM2 m ++ (m.code.take i).flatMap codeF, codeF (m.code.getD i ins0), 63, ⟨.refl _, .own ..⟩, fun _ => rfl, (by simp only [List.length_append]; omega), ?_⟩
              exact ⟨(i + 1, true), hlt, by show m.code.length - (i + 1) < m.code.length - i; omega, ⟨rfl, rfl⟩, .refl _, .ownEq (by rw [hs, List.append_assoc]), .refl _, .int hwj, .refl _, ⟨.refl _, .refl _, .refl _, .refl _, .refl _, .refl _, .refl _, .refl _, .refl _, trivial⟩, trivial⟩
            · have hge : i = m.code.length := by have := of_decide_eq_false h; omega
              have hcb := hcl m.code.length
              rw [List.take_length] at hcb
              clear hwj hbi h hi hi1
              refine ⟨Nat × Bool, fun s => [(3, .own ByteArray 1 strC noS (doM2 m ++ m.code.flatMap codeF ++ (m.catches.take s.1).flatMap catF) (cond s.2 85 63)), (67, I m.catches.length), (68, I s.1), (66, .row Cat 4 catC cat0 m.catches)], fun _ => [], fun s => s.1 ≤ m.catches.length, fun s => m.catches.length - s.1,
                ⟨(0, false), Nat.zero_le _, ⟨⟨rfl, rfl⟩, .ownEq (by rw [hge, List.take_length]; simp), .refl _, .refl _, .refl _, trivial⟩⟩, fun ((i, b) : Nat × Bool) hi => ?_⟩
              have hi1 : i ≤ m.catches.length := hi
              have hwj : IntKind.i64.wrap ((i : Int) + 1) = ((i + 1 : Nat) : Int) := by rw [wrap_eq _ (by omega) (by omega)]; omega
              have hbi := hkl i
              cases b
              case false =>
                refine ⟨fun h => ?_, fun h => ?_⟩
                · have hlt : i < m.catches.length := by have := of_decide_eq_true h; omega
                  have hs := flat_snoc catF m.catches cat0 i hlt
                  have hx := cat_parts (hp7.2 _ (getT_mem m.catches cat0 i hlt))
                  refine ⟨⟨by omega, by omega⟩, ?_⟩
                  refine ⟨by kernel_rfl, ?_⟩
                  refine ⟨(m.catches.getD i cat0).fr, ⟨.refl _, trivial⟩, rfl, ⟨by omega, by omega⟩, ?_⟩
                  refine ⟨(m.catches.getD i cat0).up, ⟨.refl _, trivial⟩, rfl, ⟨by omega, by omega⟩, ?_⟩
                  refine ⟨(m.catches.getD i cat0).at', ⟨.refl _, trivial⟩, rfl, ⟨by omega, by omega⟩, ?_⟩
                  refine ⟨ByteArray, strC, noS, catF (m.catches.getD i cat0), ⟨rfl, fun _ => rfl⟩, ⟨.refl _, .refl _, .refl _, .refl _, .refl _, .refl _, trivial⟩, rfl, ?_⟩
                  refine ⟨ByteArray, strC, noS, doM2 m ++ m.code.flatMap codeF ++ (m.catches.take i).flatMap catF, catF (m.catches.getD i cat0), 63, ⟨.refl _, .own ..⟩, fun _ => rfl, (by simp only [List.length_append, catF_len]; omega), ?_⟩
                  exact ⟨(i + 1, true), hlt, by show m.catches.length - (i + 1) < m.catches.length - i; omega, ⟨rfl, rfl⟩, .ownEq (by rw [hs]; simp), .refl _, .int hwj, .refl _, trivial⟩
                · have hge2 : i = m.catches.length := by have := of_decide_eq_false h; omega
                  refine ⟨ByteArray, strC, noS, [wRc], ⟨rfl, fun _ => rfl⟩, ⟨.refl _, trivial⟩, rfl, ?_⟩
                  refine ⟨ByteArray, strC, noS, doM2 m ++ m.code.flatMap codeF ++ (m.catches.take i).flatMap catF, [wRc], 63, ⟨.refl _, .own ..⟩, fun _ => rfl, (by simp only [List.length_append, List.length_cons, List.length_nil]; omega), ?_⟩
                  exact ⟨.ownEq (by rw [doesF_code ha, hge2, List.take_length]), rfl⟩
              case true =>
                refine ⟨fun h => ?_, fun h => ?_⟩
                · have hlt : i < m.catches.length := by have := of_decide_eq_true h; omega
                  have hs := flat_snoc catF m.catches cat0 i hlt
                  have hx := cat_parts (hp7.2 _ (getT_mem m.catches cat0 i hlt))
                  refine ⟨⟨by omega, by omega⟩, ?_⟩
                  refine ⟨by kernel_rfl, ?_⟩
                  refine ⟨(m.catches.getD i cat0).fr, ⟨.refl _, trivial⟩, rfl, ⟨by omega, by omega⟩, ?_⟩
                  refine ⟨(m.catches.getD i cat0).up, ⟨.refl _, trivial⟩, rfl, ⟨by omega, by omega⟩, ?_⟩
                  refine ⟨(m.catches.getD i cat0).at', ⟨.refl _, trivial⟩, rfl, ⟨by omega, by omega⟩, ?_⟩
                  refine ⟨ByteArray, strC, noS, catF (m.catches.getD i cat0), ⟨rfl, fun _ => rfl⟩, ⟨.refl _, .refl _, .refl _, .refl _, .refl _, .refl _, trivial⟩, rfl, ?_⟩
                  refine ⟨ByteArray, strC, noS, doM2 m ++ m.code.flatMap codeF ++ (m.catches.take i).flatMap catF, catF (m.catches.getD i cat0), 85, ⟨.refl _, .own ..⟩, fun _ => rfl, (by simp only [List.length_append, catF_len]; omega), ?_⟩
                  exact ⟨(i + 1, true), hlt, by show m.catches.length - (i + 1) < m.catches.length - i; omega, ⟨rfl, rfl⟩, .ownEq (by rw [hs]; simp), .refl _, .int hwj, .refl _, trivial⟩
                · have hge2 : i = m.catches.length := by have := of_decide_eq_false h; omega
                  refine ⟨ByteArray, strC, noS, [wRc], ⟨rfl, fun _ => rfl⟩, ⟨.refl _, trivial⟩, rfl, ?_⟩
                  refine ⟨ByteArray, strC, noS, doM2 m ++ m.code.flatMap codeF ++ (m.catches.take i).flatMap catF, [wRc], 85, ⟨.refl _, .own ..⟩, fun _ => rfl, (by simp only [List.length_append, List.length_cons, List.length_nil]; omega), ?_⟩
                  exact ⟨.ownEq (by rw [doesF_code ha, hge2, List.take_length]), rfl⟩
    case true =>
      refine ⟨fun h => ?_, fun h => ?_⟩
      · have hlt : i < m.params.length := by have := of_decide_eq_true h; omega
        have hs := paramsF_snoc m.params i hlt
        refine ⟨⟨by omega, by omega⟩, ?_⟩
        refine ⟨fun h3 => ?_, fun h3 => ?_⟩
        · have h3 := of_decide_eq_true h3
          rw [if_neg (by omega)] at hs
          refine ⟨ByteArray, strC, noS, [wComma], ⟨rfl, fun _ => rfl⟩, ⟨.refl _, trivial⟩, rfl, ?_⟩
          refine ⟨ByteArray, strC, noS, hdM m ++ paramsF (m.params.take i), [wComma], 33, ⟨.refl _, .own ..⟩, fun _ => rfl, (by unfold hdM; simp only [List.length_append, List.length_cons, List.length_nil]; omega), ?_⟩
          refine ⟨m.params.getD i ty0, ⟨.refl _, trivial⟩, rfl, trivial, ?_⟩
          refine ⟨ByteArray, strC, noS, hdM m ++ paramsF (m.params.take i) ++ [wComma], kindW (m.params.getD i ty0), 29, ⟨.refl _, .own ..⟩, fun _ => rfl, (by unfold hdM; simp only [List.length_append, List.length_cons, List.length_nil]; omega), ?_⟩
          exact ⟨(i + 1, true), ⟨hlt, fun c => by cases c⟩, by show m.params.length - (i + 1) < m.params.length - i; omega, ⟨rfl, rfl⟩, .refl _, .ownEq (by rw [hs]; simp), .refl _, .int hwj, .refl _, ⟨.refl _, .refl _, .refl _, .refl _, .refl _, .refl _, .refl _, .refl _, .refl _, trivial⟩, trivial⟩
        · have h3 := of_decide_eq_false h3
          rw [if_pos (by omega)] at hs
          refine ⟨m.params.getD i ty0, ⟨.refl _, trivial⟩, rfl, trivial, ?_⟩
          refine ⟨ByteArray, strC, noS, hdM m ++ paramsF (m.params.take i), kindW (m.params.getD i ty0), 33, ⟨.refl _, .own ..⟩, fun _ => rfl, (by unfold hdM; simp only [List.length_append, List.length_cons, List.length_nil]; omega), ?_⟩
          exact ⟨(i + 1, true), ⟨hlt, fun c => by cases c⟩, by show m.params.length - (i + 1) < m.params.length - i; omega, ⟨rfl, rfl⟩, .refl _, .ownEq (by rw [hs]; simp), .refl _, .int hwj, .refl _, ⟨.refl _, .refl _, .refl _, .refl _, .refl _, .refl _, .refl _, .refl _, .refl _, trivial⟩, trivial⟩
      · have hge : i = m.params.length := by have := of_decide_eq_false h; omega
        refine ⟨Unit, fun _ => [(1, .box 1 0), (3, .own ByteArray 1 strC noS (doM1 m) 41)], fun _ => [(1, methC m)], fun _ => True, ?_, fun _ _ => ?_⟩
        · refine ⟨by kernel_rfl, ?_⟩
          refine ⟨ByteArray, strC, noS, [wRp], ⟨rfl, fun _ => rfl⟩, ⟨.refl _, trivial⟩, rfl, ?_⟩
          refine ⟨ByteArray, strC, noS, hdM m ++ paramsF (m.params.take i), [wRp], 33, ⟨.refl _, .own ..⟩, fun _ => rfl, (by unfold hdM; simp only [List.length_append, List.length_cons, List.length_nil]; omega), ?_⟩
          refine ⟨m.ret, ⟨.refl _, trivial⟩, rfl, trivial, ?_⟩
          refine ⟨ByteArray, strC, noS, hdM m ++ paramsF (m.params.take i) ++ [wRp], kindW m.ret, 37, ⟨.refl _, .own ..⟩, fun _ => rfl, (by unfold hdM; simp only [List.length_append, List.length_cons, List.length_nil]; omega), ?_⟩
          exact ⟨(), trivial, ⟨rfl, rfl⟩, .refl _, .ownEq (by unfold doM1; rw [hge, List.take_length]), ⟨.refl _, .refl _, .refl _, .refl _, .refl _, .refl _, .refl _, .refl _, .refl _, trivial⟩, trivial⟩
        clear hwj hbi hti hki h hi hi1
        refine ⟨fun ha => ?_, fun ha => ?_⟩
        · refine ⟨ByteArray, strC, noS, [wSemi], ⟨rfl, fun _ => rfl⟩, ⟨.refl _, trivial⟩, rfl, ?_⟩
          refine ⟨ByteArray, strC, noS, doM1 m, [wSemi], 41, ⟨.refl _, .own ..⟩, fun _ => rfl, (by simp only [List.length_cons, List.length_nil]; omega), ?_⟩
          exact ⟨.ownEq (doesF_abs ha).symm, rfl⟩
        · refine ⟨m.locals, ⟨.refl _, trivial⟩, rfl, ⟨by omega, by omega⟩, ?_⟩
          refine ⟨ByteArray, strC, noS, [wLocals, dig m.locals, wLc], ⟨rfl, fun _ => rfl⟩, ⟨.refl _, .refl _, .refl _, trivial⟩, rfl, ?_⟩
          refine ⟨ByteArray, strC, noS, doM1 m, [wLocals, dig m.locals, wLc], 41, ⟨.refl _, .own ..⟩, fun _ => rfl, (by simp only [List.length_cons, List.length_nil]; omega), ?_⟩
          refine ⟨Nat × Bool, fun s => [(1, .box 1 0), (3, .own ByteArray 1 strC noS (doM2 m ++ (m.code.take s.1).flatMap codeF) (cond s.2 63 52)), (55, I m.code.length), (56, I s.1), (54, .row Ins 4 insC ins0 m.code)], fun _ => [(1, methC m)], fun s => s.1 ≤ m.code.length, fun s => m.code.length - s.1,
            ⟨(0, false), Nat.zero_le _, ⟨⟨rfl, rfl⟩, .refl _, .ownEq (by simp [doM2]), .refl _, .refl _, .refl _, ⟨.refl _, .refl _, .refl _, .refl _, .refl _, .refl _, .refl _, .refl _, .refl _, trivial⟩, trivial⟩⟩, fun ((i, b) : Nat × Bool) hi => ?_⟩
          have hi1 : i ≤ m.code.length := hi
          have hwj : IntKind.i64.wrap ((i : Int) + 1) = ((i + 1 : Nat) : Int) := by rw [wrap_eq _ (by omega) (by omega)]; omega
          have hbi := hcl i
          cases b
          case false =>
            refine ⟨fun h => ?_, fun h => ?_⟩
            · have hlt : i < m.code.length := by have := of_decide_eq_true h; omega
              have hs := flat_snoc codeF m.code ins0 i hlt
              have hx := ins_parts (hp6.2 _ (getT_mem m.code ins0 i hlt))
              have hr := nums_R (m.code.getD i ins0).op
              have hcx := codeF_len (m.code.getD i ins0)
              refine ⟨⟨by omega, by omega⟩, ?_⟩
              refine ⟨m.code.getD i ins0, ⟨.refl _, trivial⟩, rfl, ⟨by omega, by omega⟩, ?_⟩
              refine ⟨ByteArray, strC, noS, doM2 m ++ (m.code.take i).flatMap codeF, codeF (m.code.getD i ins0), 52, ⟨.refl _, .own ..⟩, fun _ => rfl, (by simp only [List.length_append]; omega), ?_⟩
              exact ⟨(i + 1, true), hlt, by show m.code.length - (i + 1) < m.code.length - i; omega, ⟨rfl, rfl⟩, .refl _, .ownEq (by rw [hs, List.append_assoc]), .refl _, .int hwj, .refl _, ⟨.refl _, .refl _, .refl _, .refl _, .refl _, .refl _, .refl _, .refl _, .refl _, trivial⟩, trivial⟩
            · have hge : i = m.code.length := by have := of_decide_eq_false h; omega
              have hcb := hcl m.code.length
              rw [List.take_length] at hcb
              clear hwj hbi h hi hi1
              refine ⟨Nat × Bool, fun s => [(3, .own ByteArray 1 strC noS (doM2 m ++ m.code.flatMap codeF ++ (m.catches.take s.1).flatMap catF) (cond s.2 85 52)), (67, I m.catches.length), (68, I s.1), (66, .row Cat 4 catC cat0 m.catches)], fun _ => [], fun s => s.1 ≤ m.catches.length, fun s => m.catches.length - s.1,
                ⟨(0, false), Nat.zero_le _, ⟨⟨rfl, rfl⟩, .ownEq (by rw [hge, List.take_length]; simp), .refl _, .refl _, .refl _, trivial⟩⟩, fun ((i, b) : Nat × Bool) hi => ?_⟩
              have hi1 : i ≤ m.catches.length := hi
              have hwj : IntKind.i64.wrap ((i : Int) + 1) = ((i + 1 : Nat) : Int) := by rw [wrap_eq _ (by omega) (by omega)]; omega
              have hbi := hkl i
              cases b
              case false =>
                refine ⟨fun h => ?_, fun h => ?_⟩
                · have hlt : i < m.catches.length := by have := of_decide_eq_true h; omega
                  have hs := flat_snoc catF m.catches cat0 i hlt
                  have hx := cat_parts (hp7.2 _ (getT_mem m.catches cat0 i hlt))
                  refine ⟨⟨by omega, by omega⟩, ?_⟩
                  refine ⟨by kernel_rfl, ?_⟩
                  refine ⟨(m.catches.getD i cat0).fr, ⟨.refl _, trivial⟩, rfl, ⟨by omega, by omega⟩, ?_⟩
                  refine ⟨(m.catches.getD i cat0).up, ⟨.refl _, trivial⟩, rfl, ⟨by omega, by omega⟩, ?_⟩
                  refine ⟨(m.catches.getD i cat0).at', ⟨.refl _, trivial⟩, rfl, ⟨by omega, by omega⟩, ?_⟩
                  refine ⟨ByteArray, strC, noS, catF (m.catches.getD i cat0), ⟨rfl, fun _ => rfl⟩, ⟨.refl _, .refl _, .refl _, .refl _, .refl _, .refl _, trivial⟩, rfl, ?_⟩
                  refine ⟨ByteArray, strC, noS, doM2 m ++ m.code.flatMap codeF ++ (m.catches.take i).flatMap catF, catF (m.catches.getD i cat0), 52, ⟨.refl _, .own ..⟩, fun _ => rfl, (by simp only [List.length_append, catF_len]; omega), ?_⟩
                  exact ⟨(i + 1, true), hlt, by show m.catches.length - (i + 1) < m.catches.length - i; omega, ⟨rfl, rfl⟩, .ownEq (by rw [hs]; simp), .refl _, .int hwj, .refl _, trivial⟩
                · have hge2 : i = m.catches.length := by have := of_decide_eq_false h; omega
                  refine ⟨ByteArray, strC, noS, [wRc], ⟨rfl, fun _ => rfl⟩, ⟨.refl _, trivial⟩, rfl, ?_⟩
                  refine ⟨ByteArray, strC, noS, doM2 m ++ m.code.flatMap codeF ++ (m.catches.take i).flatMap catF, [wRc], 52, ⟨.refl _, .own ..⟩, fun _ => rfl, (by simp only [List.length_append, List.length_cons, List.length_nil]; omega), ?_⟩
                  exact ⟨.ownEq (by rw [doesF_code ha, hge2, List.take_length]), rfl⟩
              case true =>
                refine ⟨fun h => ?_, fun h => ?_⟩
                · have hlt : i < m.catches.length := by have := of_decide_eq_true h; omega
                  have hs := flat_snoc catF m.catches cat0 i hlt
                  have hx := cat_parts (hp7.2 _ (getT_mem m.catches cat0 i hlt))
                  refine ⟨⟨by omega, by omega⟩, ?_⟩
                  refine ⟨by kernel_rfl, ?_⟩
                  refine ⟨(m.catches.getD i cat0).fr, ⟨.refl _, trivial⟩, rfl, ⟨by omega, by omega⟩, ?_⟩
                  refine ⟨(m.catches.getD i cat0).up, ⟨.refl _, trivial⟩, rfl, ⟨by omega, by omega⟩, ?_⟩
                  refine ⟨(m.catches.getD i cat0).at', ⟨.refl _, trivial⟩, rfl, ⟨by omega, by omega⟩, ?_⟩
                  refine ⟨ByteArray, strC, noS, catF (m.catches.getD i cat0), ⟨rfl, fun _ => rfl⟩, ⟨.refl _, .refl _, .refl _, .refl _, .refl _, .refl _, trivial⟩, rfl, ?_⟩
                  refine ⟨ByteArray, strC, noS, doM2 m ++ m.code.flatMap codeF ++ (m.catches.take i).flatMap catF, catF (m.catches.getD i cat0), 85, ⟨.refl _, .own ..⟩, fun _ => rfl, (by simp only [List.length_append, catF_len]; omega), ?_⟩
                  exact ⟨(i + 1, true), hlt, by show m.catches.length - (i + 1) < m.catches.length - i; omega, ⟨rfl, rfl⟩, .ownEq (by rw [hs]; simp), .refl _, .int hwj, .refl _, trivial⟩
                · have hge2 : i = m.catches.length := by have := of_decide_eq_false h; omega
                  refine ⟨ByteArray, strC, noS, [wRc], ⟨rfl, fun _ => rfl⟩, ⟨.refl _, trivial⟩, rfl, ?_⟩
                  refine ⟨ByteArray, strC, noS, doM2 m ++ m.code.flatMap codeF ++ (m.catches.take i).flatMap catF, [wRc], 85, ⟨.refl _, .own ..⟩, fun _ => rfl, (by simp only [List.length_append, List.length_cons, List.length_nil]; omega), ?_⟩
                  exact ⟨.ownEq (by rw [doesF_code ha, hge2, List.take_length]), rfl⟩
          case true =>
            refine ⟨fun h => ?_, fun h => ?_⟩
            · have hlt : i < m.code.length := by have := of_decide_eq_true h; omega
              have hs := flat_snoc codeF m.code ins0 i hlt
              have hx := ins_parts (hp6.2 _ (getT_mem m.code ins0 i hlt))
              have hr := nums_R (m.code.getD i ins0).op
              have hcx := codeF_len (m.code.getD i ins0)
              refine ⟨⟨by omega, by omega⟩, ?_⟩
              refine ⟨m.code.getD i ins0, ⟨.refl _, trivial⟩, rfl, ⟨by omega, by omega⟩, ?_⟩
              refine ⟨ByteArray, strC, noS, doM2 m ++ (m.code.take i).flatMap codeF, codeF (m.code.getD i ins0), 63, ⟨.refl _, .own ..⟩, fun _ => rfl, (by simp only [List.length_append]; omega), ?_⟩
              exact ⟨(i + 1, true), hlt, by show m.code.length - (i + 1) < m.code.length - i; omega, ⟨rfl, rfl⟩, .refl _, .ownEq (by rw [hs, List.append_assoc]), .refl _, .int hwj, .refl _, ⟨.refl _, .refl _, .refl _, .refl _, .refl _, .refl _, .refl _, .refl _, .refl _, trivial⟩, trivial⟩
            · have hge : i = m.code.length := by have := of_decide_eq_false h; omega
              have hcb := hcl m.code.length
              rw [List.take_length] at hcb
              clear hwj hbi h hi hi1
              refine ⟨Nat × Bool, fun s => [(3, .own ByteArray 1 strC noS (doM2 m ++ m.code.flatMap codeF ++ (m.catches.take s.1).flatMap catF) (cond s.2 85 63)), (67, I m.catches.length), (68, I s.1), (66, .row Cat 4 catC cat0 m.catches)], fun _ => [], fun s => s.1 ≤ m.catches.length, fun s => m.catches.length - s.1,
                ⟨(0, false), Nat.zero_le _, ⟨⟨rfl, rfl⟩, .ownEq (by rw [hge, List.take_length]; simp), .refl _, .refl _, .refl _, trivial⟩⟩, fun ((i, b) : Nat × Bool) hi => ?_⟩
              have hi1 : i ≤ m.catches.length := hi
              have hwj : IntKind.i64.wrap ((i : Int) + 1) = ((i + 1 : Nat) : Int) := by rw [wrap_eq _ (by omega) (by omega)]; omega
              have hbi := hkl i
              cases b
              case false =>
                refine ⟨fun h => ?_, fun h => ?_⟩
                · have hlt : i < m.catches.length := by have := of_decide_eq_true h; omega
                  have hs := flat_snoc catF m.catches cat0 i hlt
                  have hx := cat_parts (hp7.2 _ (getT_mem m.catches cat0 i hlt))
                  refine ⟨⟨by omega, by omega⟩, ?_⟩
                  refine ⟨by kernel_rfl, ?_⟩
                  refine ⟨(m.catches.getD i cat0).fr, ⟨.refl _, trivial⟩, rfl, ⟨by omega, by omega⟩, ?_⟩
                  refine ⟨(m.catches.getD i cat0).up, ⟨.refl _, trivial⟩, rfl, ⟨by omega, by omega⟩, ?_⟩
                  refine ⟨(m.catches.getD i cat0).at', ⟨.refl _, trivial⟩, rfl, ⟨by omega, by omega⟩, ?_⟩
                  refine ⟨ByteArray, strC, noS, catF (m.catches.getD i cat0), ⟨rfl, fun _ => rfl⟩, ⟨.refl _, .refl _, .refl _, .refl _, .refl _, .refl _, trivial⟩, rfl, ?_⟩
                  refine ⟨ByteArray, strC, noS, doM2 m ++ m.code.flatMap codeF ++ (m.catches.take i).flatMap catF, catF (m.catches.getD i cat0), 63, ⟨.refl _, .own ..⟩, fun _ => rfl, (by simp only [List.length_append, catF_len]; omega), ?_⟩
                  exact ⟨(i + 1, true), hlt, by show m.catches.length - (i + 1) < m.catches.length - i; omega, ⟨rfl, rfl⟩, .ownEq (by rw [hs]; simp), .refl _, .int hwj, .refl _, trivial⟩
                · have hge2 : i = m.catches.length := by have := of_decide_eq_false h; omega
                  refine ⟨ByteArray, strC, noS, [wRc], ⟨rfl, fun _ => rfl⟩, ⟨.refl _, trivial⟩, rfl, ?_⟩
                  refine ⟨ByteArray, strC, noS, doM2 m ++ m.code.flatMap codeF ++ (m.catches.take i).flatMap catF, [wRc], 63, ⟨.refl _, .own ..⟩, fun _ => rfl, (by simp only [List.length_append, List.length_cons, List.length_nil]; omega), ?_⟩
                  exact ⟨.ownEq (by rw [doesF_code ha, hge2, List.take_length]), rfl⟩
              case true =>
                refine ⟨fun h => ?_, fun h => ?_⟩
                · have hlt : i < m.catches.length := by have := of_decide_eq_true h; omega
                  have hs := flat_snoc catF m.catches cat0 i hlt
                  have hx := cat_parts (hp7.2 _ (getT_mem m.catches cat0 i hlt))
                  refine ⟨⟨by omega, by omega⟩, ?_⟩
                  refine ⟨by kernel_rfl, ?_⟩
                  refine ⟨(m.catches.getD i cat0).fr, ⟨.refl _, trivial⟩, rfl, ⟨by omega, by omega⟩, ?_⟩
                  refine ⟨(m.catches.getD i cat0).up, ⟨.refl _, trivial⟩, rfl, ⟨by omega, by omega⟩, ?_⟩
                  refine ⟨(m.catches.getD i cat0).at', ⟨.refl _, trivial⟩, rfl, ⟨by omega, by omega⟩, ?_⟩
                  refine ⟨ByteArray, strC, noS, catF (m.catches.getD i cat0), ⟨rfl, fun _ => rfl⟩, ⟨.refl _, .refl _, .refl _, .refl _, .refl _, .refl _, trivial⟩, rfl, ?_⟩
                  refine ⟨ByteArray, strC, noS, doM2 m ++ m.code.flatMap codeF ++ (m.catches.take i).flatMap catF, catF (m.catches.getD i cat0), 85, ⟨.refl _, .own ..⟩, fun _ => rfl, (by simp only [List.length_append, catF_len]; omega), ?_⟩
                  exact ⟨(i + 1, true), hlt, by show m.catches.length - (i + 1) < m.catches.length - i; omega, ⟨rfl, rfl⟩, .ownEq (by rw [hs]; simp), .refl _, .int hwj, .refl _, trivial⟩
                · have hge2 : i = m.catches.length := by have := of_decide_eq_false h; omega
                  refine ⟨ByteArray, strC, noS, [wRc], ⟨rfl, fun _ => rfl⟩, ⟨.refl _, trivial⟩, rfl, ?_⟩
                  refine ⟨ByteArray, strC, noS, doM2 m ++ m.code.flatMap codeF ++ (m.catches.take i).flatMap catF, [wRc], 85, ⟨.refl _, .own ..⟩, fun _ => rfl, (by simp only [List.length_append, List.length_cons, List.length_nil]; omega), ?_⟩
                  exact ⟨.ownEq (by rw [doesF_code ha, hge2, List.take_length]), rfl⟩
end Go.Proofs.YtadimoijlgmecaaDoor.Ax
/- Layer show: the words of classes. PRINTED by wip/sp/sn.py. -/
set_option linter.unusedVariables false
set_option linter.unusedSimpArgs false
namespace Go.Proofs.YtadimoijlgmecaaDoor.Ax
open Go Go.RowKit
theorem does_len {m : Meth} (h : methOk m = true) : (doesF m).length ≤ 400 := by
  obtain ⟨hp1, hp2, hp3, hp4, hp5, hp6, hp7⟩ := meth_parts h
  have hpl := paramsF_len m.params
  have hkr := kindW_len m.ret
  have hm1 : (doM1 m).length ≤ 100 := by unfold doM1 hdM; simp only [List.length_append, List.length_cons, List.length_nil]; omega
  have hm2 : (doM2 m).length ≤ 103 := by unfold doM2; simp only [List.length_append, List.length_cons, List.length_nil]; omega
  have h1 := flat_le codeF 5 m.code fun x _ => codeF_len x
  have h2 := flat_le catF 6 m.catches fun c _ => Nat.le_of_eq (catF_len c)
  have h3 := hp6.1
  have h4 := hp7.1
  cases ha : m.abs with
  | true => rw [doesF_abs ha]; simp only [List.length_append, List.length_cons, List.length_nil]; omega
  | false => rw [doesF_code ha]; simp only [List.length_append, List.length_cons, List.length_nil]; omega
theorem fldF_len (f : Fld) : (fldF f).length ≤ 7 := by
  have := kindW_len f.type
  unfold fldF; simp only [List.length_append, List.length_cons, List.length_nil]; omega
theorem takeM_le (l : List Meth) (h : ∀ m ∈ l, methOk m = true) (i : Nat) : ((l.take i).flatMap doesF).length ≤ 400 * l.length := by
  have h1 := flat_le doesF 400 (l.take i) fun x hx => does_len (h x (List.mem_of_mem_take hx))
  have h2 : (l.take i).length ≤ l.length := by rw [List.length_take]; omega
  exact Nat.le_trans h1 (Nat.mul_le_mul_left 400 h2)
def hdC (c : Cls) : List ByteArray := [if c.iface then wInterface else wClass, c.name]
def supC (c : Cls) : List ByteArray := if c.super = noS then [] else [wExtends, c.super]
def lstC (c : Cls) : List ByteArray := listF (if c.iface then wExtends else wImplements) c.ifaces
def doC1 (c : Cls) : List ByteArray := hdC c ++ supC c ++ lstC c ++ [wLc]
theorem wordsC_eq (c : Cls) : wordsC c = doC1 c ++ c.fields.flatMap fldF ++ c.methods.flatMap doesF ++ [wRc] := by
  unfold wordsC doC1 hdC supC lstC; simp
def wordsK : Ctr := { A := Cls, enc := fun c => [.agg (clsC c)], dom := fun c => clsOk c = true, res := fun c id => .own ByteArray 1 strC noS (wordsC c) id, gl := tabS }
set_option maxRecDepth 100000 in
set_option maxHeartbeats 8000000 in
theorem words_ok : CtrSound Tryd.prog 15 wordsK :=
  ctr_of_ax (env_okB tys_ok (eqs := []) trivial (cs := [(25, kindC), (29, doesC), (28, listC)]) ⟨kind_ok, does_ok, list_ok, trivial⟩ (bs := []) trivial (vec := [12]) (gl := tabS) (cut := [4]) (sq := [800052])) mixed _ Tryd.func15 (by kernel_rfl) rfl (fun _ _ => Nat.le_of_ble_eq_true rfl) fun (c : Cls) id hd => by
    have hd : clsOk c = true := hd
    obtain ⟨hp1, hp2, hp3, hp4, hp5⟩ := cls_parts hd
    have hll := listF_len (if c.iface then wExtends else wImplements) c.ifaces
    have hsl : (supC c).length ≤ 2 := by unfold supC; split <;> simp
    have hl3 := hp3.1
    have hm1 : (doC1 c).length ≤ 20 := by unfold doC1 hdC lstC; simp only [List.length_append, List.length_cons, List.length_nil]; omega
    have hfl : ∀ i, ((c.fields.take i).flatMap fldF).length ≤ 42 := fun i => by
      have := takeF_le fldF 7 fldF_len c.fields i
      have := hp4.1
      omega
    have hml : ∀ i, ((c.methods.take i).flatMap doesF).length ≤ 2400 := fun i => by
      have := takeM_le c.methods hp5.2 i
      have := hp5.1
      omega
    have hns : (!(c.super.toList == (⟨#[]⟩ : ByteArray).toList)) = !decide (c.super = noS) := by rw [ba_eq]
    refine ⟨ByteArray, strC, noS, [wClass, c.name], ⟨rfl, fun _ => ⟨rfl, rfl, rfl⟩⟩, ⟨.refl _, .refl _, trivial⟩, ?_⟩
    refine ⟨Unit, fun _ => [(1, .box 1 0), (3, .arr 12 1 0 2 (some 2)), (4, S (if c.iface then wExtends else wImplements))], fun _ => [(1, clsC c), (12, [.many ByteArray 1 strC noS (hdC c)])], fun _ => True, ?_, fun _ _ => ?_⟩
    · refine ⟨fun h => ?_, fun h => ?_⟩
      · have h : c.iface = true := h
        refine ⟨⟨by decide, by decide⟩, ?_⟩
        refine ⟨⟨Int.le_refl 0, (show (0 : Int) < 2 by decide)⟩, ?_⟩
        refine ⟨wInterface, ⟨.refl _, trivial⟩, ?_⟩
        exact ⟨(), trivial, ⟨rfl, rfl⟩, .refl _, .refl _, .str (by rw [if_pos h]; rfl), ⟨.refl _, .refl _, .refl _, .refl _, .refl _, .refl _, trivial⟩, ⟨.manyEq (by unfold hdC; rw [if_pos h]; rfl), trivial⟩, trivial⟩
      · have h : c.iface = false := h
        exact ⟨(), trivial, ⟨rfl, rfl⟩, .refl _, .refl _, .str (by rw [if_neg (by rw [h]; decide)]; rfl), ⟨.refl _, .refl _, .refl _, .refl _, .refl _, .refl _, trivial⟩, ⟨.manyEq (by unfold hdC; rw [if_neg (by rw [h]; decide)]), trivial⟩, trivial⟩
    refine ⟨fun hs => ?_, fun hs => ?_⟩
    · have hs : supC c = [wExtends, c.super] := by
        have hs : (!(c.super.toList == (⟨#[]⟩ : ByteArray).toList)) = true := hs
        rw [hns] at hs
        unfold supC; rw [if_neg (by simpa using hs)]
      refine ⟨ByteArray, strC, noS, [wExtends, c.super], ⟨rfl, fun _ => rfl⟩, ⟨.refl _, .refl _, trivial⟩, rfl, ?_⟩
      refine .inl ⟨[wExtends, c.super], ⟨rfl, Nat.le_refl _, Nat.succ_pos _, .own ..⟩, (show (2 + 2) * 16 ≤ 140737488355328 by omega), ?_⟩
      refine ⟨(if c.iface then wExtends else wImplements, c.ifaces), ⟨.refl _, .refl _, trivial⟩, rfl, (show c.ifaces.length ≤ 100000 by omega), ?_⟩
      refine ⟨ByteArray, strC, noS, hdC c ++ [wExtends, c.super], lstC c, 24, ⟨.refl _, .own ..⟩, fun _ => rfl, (by unfold hdC lstC; simp only [List.length_append, List.length_cons, List.length_nil]; omega), ?_⟩
      refine ⟨ByteArray, strC, noS, [wLc], ⟨rfl, fun _ => rfl⟩, ⟨.refl _, trivial⟩, rfl, ?_⟩
      refine ⟨ByteArray, strC, noS, hdC c ++ [wExtends, c.super] ++ lstC c, [wLc], 30, ⟨.refl _, .own ..⟩, fun _ => rfl, (by unfold hdC lstC; simp only [List.length_append, List.length_cons, List.length_nil]; omega), ?_⟩
      have hdo : hdC c ++ [wExtends, c.super] ++ lstC c ++ [wLc] = doC1 c := by unfold doC1; rw [hs]
      refine ⟨Nat × Bool, fun s => [(1, .box 1 0), (3, .own ByteArray 1 strC noS (doC1 c ++ (c.fields.take s.1).flatMap fldF) (cond s.2 53 32)), (35, I c.fields.length), (36, I s.1), (34, .row Fld 4 fldC fld0 c.fields)], fun _ => [(1, clsC c)], fun s => s.1 ≤ c.fields.length, fun s => c.fields.length - s.1,
        ⟨(0, false), Nat.zero_le _, ⟨⟨rfl, rfl⟩, .refl _, .ownEq (by rw [← hdo]; simp [hdC]), .refl _, .refl _, .refl _, ⟨.refl _, .refl _, .refl _, .refl _, .refl _, .refl _, trivial⟩, trivial⟩⟩, fun ((i, b) : Nat × Bool) hi => ?_⟩
      have hi1 : i ≤ c.fields.length := hi
      have hwj : IntKind.i64.wrap ((i : Int) + 1) = ((i + 1 : Nat) : Int) := by rw [wrap_eq _ (by omega) (by omega)]; omega
      have hbi := hfl i
      cases b
      case false =>
        refine ⟨fun h => ?_, fun h => ?_⟩
        · have hlt : i < c.fields.length := by have := of_decide_eq_true h; omega
          have hs := flat_snoc fldF c.fields fld0 i hlt
          have hk := kindW_len (c.fields.getD i fld0).type
          refine ⟨⟨by omega, by omega⟩, ?_⟩
          refine ⟨fun h3 => ?_, fun h3 => ?_⟩
          · have h3 : (c.fields.getD i fld0).static = true := h3
            have hf : fldF (c.fields.getD i fld0) = [wStatic, (c.fields.getD i fld0).name, wColon] ++ (kindW (c.fields.getD i fld0).type ++ [wSemi]) := by unfold fldF; rw [if_pos h3]
            refine ⟨by kernel_rfl, ?_⟩
            refine ⟨ByteArray, strC, noS, [wStatic, (c.fields.getD i fld0).name, wColon], ⟨rfl, fun _ => rfl⟩, ⟨.refl _, .refl _, .refl _, trivial⟩, rfl, ?_⟩
            refine ⟨ByteArray, strC, noS, doC1 c ++ (c.fields.take i).flatMap fldF, [wStatic, (c.fields.getD i fld0).name, wColon], 32, ⟨.refl _, .own ..⟩, fun _ => rfl, (by simp only [List.length_append, List.length_cons, List.length_nil]; omega), ?_⟩
            refine ⟨(c.fields.getD i fld0).type, ⟨.refl _, trivial⟩, rfl, trivial, ?_⟩
            refine ⟨ByteArray, strC, noS, doC1 c ++ (c.fields.take i).flatMap fldF ++ [wStatic, (c.fields.getD i fld0).name, wColon], kindW (c.fields.getD i fld0).type, 47, ⟨.refl _, .own ..⟩, fun _ => rfl, (by simp only [List.length_append, List.length_cons, List.length_nil]; omega), ?_⟩
            refine ⟨ByteArray, strC, noS, [wSemi], ⟨rfl, fun _ => rfl⟩, ⟨.refl _, trivial⟩, rfl, ?_⟩
            refine ⟨ByteArray, strC, noS, doC1 c ++ (c.fields.take i).flatMap fldF ++ [wStatic, (c.fields.getD i fld0).name, wColon] ++ kindW (c.fields.getD i fld0).type, [wSemi], 51, ⟨.refl _, .refl _⟩, fun _ => rfl, (by simp only [List.length_append, List.length_cons, List.length_nil]; omega), ?_⟩
            exact ⟨(i + 1, true), hlt, by show c.fields.length - (i + 1) < c.fields.length - i; omega, ⟨rfl, rfl⟩, .refl _, .ownEq (by rw [hs, hf]; simp), .refl _, .int hwj, .refl _, ⟨.refl _, .refl _, .refl _, .refl _, .refl _, .refl _, trivial⟩, trivial⟩
          · have h3 : (c.fields.getD i fld0).static = false := h3
            have hf : fldF (c.fields.getD i fld0) = [wField, (c.fields.getD i fld0).name, wColon] ++ (kindW (c.fields.getD i fld0).type ++ [wSemi]) := by unfold fldF; rw [if_neg (by rw [h3]; decide)]
            refine ⟨by kernel_rfl, ?_⟩
            refine ⟨ByteArray, strC, noS, [wField, (c.fields.getD i fld0).name, wColon], ⟨rfl, fun _ => rfl⟩, ⟨.refl _, .refl _, .refl _, trivial⟩, rfl, ?_⟩
            refine ⟨ByteArray, strC, noS, doC1 c ++ (c.fields.take i).flatMap fldF, [wField, (c.fields.getD i fld0).name, wColon], 32, ⟨.refl _, .own ..⟩, fun _ => rfl, (by simp only [List.length_append, List.length_cons, List.length_nil]; omega), ?_⟩
            refine ⟨(c.fields.getD i fld0).type, ⟨.refl _, trivial⟩, rfl, trivial, ?_⟩
            refine ⟨ByteArray, strC, noS, doC1 c ++ (c.fields.take i).flatMap fldF ++ [wField, (c.fields.getD i fld0).name, wColon], kindW (c.fields.getD i fld0).type, 47, ⟨.refl _, .own ..⟩, fun _ => rfl, (by simp only [List.length_append, List.length_cons, List.length_nil]; omega), ?_⟩
            refine ⟨ByteArray, strC, noS, [wSemi], ⟨rfl, fun _ => rfl⟩, ⟨.refl _, trivial⟩, rfl, ?_⟩
            refine ⟨ByteArray, strC, noS, doC1 c ++ (c.fields.take i).flatMap fldF ++ [wField, (c.fields.getD i fld0).name, wColon] ++ kindW (c.fields.getD i fld0).type, [wSemi], 51, ⟨.refl _, .refl _⟩, fun _ => rfl, (by simp only [List.length_append, List.length_cons, List.length_nil]; omega), ?_⟩
            exact ⟨(i + 1, true), hlt, by show c.fields.length - (i + 1) < c.fields.length - i; omega, ⟨rfl, rfl⟩, .refl _, .ownEq (by rw [hs, hf]; simp), .refl _, .int hwj, .refl _, ⟨.refl _, .refl _, .refl _, .refl _, .refl _, .refl _, trivial⟩, trivial⟩
        · have hge : i = c.fields.length := by have := of_decide_eq_false h; omega
          have hcb := hfl c.fields.length
          rw [List.take_length] at hcb
          clear hwj hbi h hi hi1
          refine ⟨Nat × Bool, fun s => [(3, .own ByteArray 1 strC noS (doC1 c ++ c.fields.flatMap fldF ++ (c.methods.take s.1).flatMap doesF) (cond s.2 65 32)), (57, I c.methods.length), (56, .row Meth 9 methC meth0 c.methods), (58, I s.1)], fun _ => [], fun s => s.1 ≤ c.methods.length, fun s => c.methods.length - s.1,
            ⟨(0, false), Nat.zero_le _, ⟨⟨rfl, rfl⟩, .ownEq (by rw [hge, List.take_length]; simp), .refl _, .refl _, .refl _, trivial⟩⟩, fun ((i, b) : Nat × Bool) hi => ?_⟩
          have hi1 : i ≤ c.methods.length := hi
          have hwj : IntKind.i64.wrap ((i : Int) + 1) = ((i + 1 : Nat) : Int) := by rw [wrap_eq _ (by omega) (by omega)]; omega
          have hbi := hml i
          cases b
          case false =>
            refine ⟨fun h => ?_, fun h => ?_⟩
            · have hlt : i < c.methods.length := by have := of_decide_eq_true h; omega
              have hs := flat_snoc doesF c.methods meth0 i hlt
              have hmo := hp5.2 _ (getT_mem c.methods meth0 i hlt)
              have hdl := does_len hmo
              refine ⟨⟨by omega, by omega⟩, ?_⟩
              refine ⟨c.methods.getD i meth0, ⟨.refl _, trivial⟩, rfl, hmo, ?_⟩
              refine ⟨ByteArray, strC, noS, doC1 c ++ c.fields.flatMap fldF ++ (c.methods.take i).flatMap doesF, doesF (c.methods.getD i meth0), 32, ⟨.refl _, .own ..⟩, fun _ => rfl, (by simp only [List.length_append]; omega), ?_⟩
              exact ⟨(i + 1, true), hlt, by show c.methods.length - (i + 1) < c.methods.length - i; omega, ⟨rfl, rfl⟩, .ownEq (by rw [hs]; simp), .refl _, .refl _, .int hwj, trivial⟩
            · have hge2 : i = c.methods.length := by have := of_decide_eq_false h; omega
              refine ⟨ByteArray, strC, noS, [wRc], ⟨rfl, fun _ => rfl⟩, ⟨.refl _, trivial⟩, rfl, ?_⟩
              refine ⟨ByteArray, strC, noS, doC1 c ++ c.fields.flatMap fldF ++ (c.methods.take i).flatMap doesF, [wRc], 32, ⟨.refl _, .own ..⟩, fun _ => rfl, (by simp only [List.length_append, List.length_cons, List.length_nil]; omega), ?_⟩
              exact ⟨.ownEq (by rw [wordsC_eq, hge2, List.take_length]), rfl⟩
          case true =>
            refine ⟨fun h => ?_, fun h => ?_⟩
            · have hlt : i < c.methods.length := by have := of_decide_eq_true h; omega
              have hs := flat_snoc doesF c.methods meth0 i hlt
              have hmo := hp5.2 _ (getT_mem c.methods meth0 i hlt)
              have hdl := does_len hmo
              refine ⟨⟨by omega, by omega⟩, ?_⟩
              refine ⟨c.methods.getD i meth0, ⟨.refl _, trivial⟩, rfl, hmo, ?_⟩
              refine ⟨ByteArray, strC, noS, doC1 c ++ c.fields.flatMap fldF ++ (c.methods.take i).flatMap doesF, doesF (c.methods.getD i meth0), 65, ⟨.refl _, .own ..⟩, fun _ => rfl, (by simp only [List.length_append]; omega), ?_⟩
              exact ⟨(i + 1, true), hlt, by show c.methods.length - (i + 1) < c.methods.length - i; omega, ⟨rfl, rfl⟩, .ownEq (by rw [hs]; simp), .refl _, .refl _, .int hwj, trivial⟩
            · have hge2 : i = c.methods.length := by have := of_decide_eq_false h; omega
              refine ⟨ByteArray, strC, noS, [wRc], ⟨rfl, fun _ => rfl⟩, ⟨.refl _, trivial⟩, rfl, ?_⟩
              refine ⟨ByteArray, strC, noS, doC1 c ++ c.fields.flatMap fldF ++ (c.methods.take i).flatMap doesF, [wRc], 65, ⟨.refl _, .own ..⟩, fun _ => rfl, (by simp only [List.length_append, List.length_cons, List.length_nil]; omega), ?_⟩
              exact ⟨.ownEq (by rw [wordsC_eq, hge2, List.take_length]), rfl⟩
      case true =>
        refine ⟨fun h => ?_, fun h => ?_⟩
        · have hlt : i < c.fields.length := by have := of_decide_eq_true h; omega
          have hs := flat_snoc fldF c.fields fld0 i hlt
          have hk := kindW_len (c.fields.getD i fld0).type
          refine ⟨⟨by omega, by omega⟩, ?_⟩
          refine ⟨fun h3 => ?_, fun h3 => ?_⟩
          · have h3 : (c.fields.getD i fld0).static = true := h3
            have hf : fldF (c.fields.getD i fld0) = [wStatic, (c.fields.getD i fld0).name, wColon] ++ (kindW (c.fields.getD i fld0).type ++ [wSemi]) := by unfold fldF; rw [if_pos h3]
            refine ⟨by kernel_rfl, ?_⟩
            refine ⟨ByteArray, strC, noS, [wStatic, (c.fields.getD i fld0).name, wColon], ⟨rfl, fun _ => rfl⟩, ⟨.refl _, .refl _, .refl _, trivial⟩, rfl, ?_⟩
            refine ⟨ByteArray, strC, noS, doC1 c ++ (c.fields.take i).flatMap fldF, [wStatic, (c.fields.getD i fld0).name, wColon], 53, ⟨.refl _, .own ..⟩, fun _ => rfl, (by simp only [List.length_append, List.length_cons, List.length_nil]; omega), ?_⟩
            refine ⟨(c.fields.getD i fld0).type, ⟨.refl _, trivial⟩, rfl, trivial, ?_⟩
            refine ⟨ByteArray, strC, noS, doC1 c ++ (c.fields.take i).flatMap fldF ++ [wStatic, (c.fields.getD i fld0).name, wColon], kindW (c.fields.getD i fld0).type, 47, ⟨.refl _, .own ..⟩, fun _ => rfl, (by simp only [List.length_append, List.length_cons, List.length_nil]; omega), ?_⟩
            refine ⟨ByteArray, strC, noS, [wSemi], ⟨rfl, fun _ => rfl⟩, ⟨.refl _, trivial⟩, rfl, ?_⟩
            refine ⟨ByteArray, strC, noS, doC1 c ++ (c.fields.take i).flatMap fldF ++ [wStatic, (c.fields.getD i fld0).name, wColon] ++ kindW (c.fields.getD i fld0).type, [wSemi], 51, ⟨.refl _, .refl _⟩, fun _ => rfl, (by simp only [List.length_append, List.length_cons, List.length_nil]; omega), ?_⟩
            exact ⟨(i + 1, true), hlt, by show c.fields.length - (i + 1) < c.fields.length - i; omega, ⟨rfl, rfl⟩, .refl _, .ownEq (by rw [hs, hf]; simp), .refl _, .int hwj, .refl _, ⟨.refl _, .refl _, .refl _, .refl _, .refl _, .refl _, trivial⟩, trivial⟩
          · have h3 : (c.fields.getD i fld0).static = false := h3
            have hf : fldF (c.fields.getD i fld0) = [wField, (c.fields.getD i fld0).name, wColon] ++ (kindW (c.fields.getD i fld0).type ++ [wSemi]) := by unfold fldF; rw [if_neg (by rw [h3]; decide)]
            refine ⟨by kernel_rfl, ?_⟩
            refine ⟨ByteArray, strC, noS, [wField, (c.fields.getD i fld0).name, wColon], ⟨rfl, fun _ => rfl⟩, ⟨.refl _, .refl _, .refl _, trivial⟩, rfl, ?_⟩
            refine ⟨ByteArray, strC, noS, doC1 c ++ (c.fields.take i).flatMap fldF, [wField, (c.fields.getD i fld0).name, wColon], 53, ⟨.refl _, .own ..⟩, fun _ => rfl, (by simp only [List.length_append, List.length_cons, List.length_nil]; omega), ?_⟩
            refine ⟨(c.fields.getD i fld0).type, ⟨.refl _, trivial⟩, rfl, trivial, ?_⟩
            refine ⟨ByteArray, strC, noS, doC1 c ++ (c.fields.take i).flatMap fldF ++ [wField, (c.fields.getD i fld0).name, wColon], kindW (c.fields.getD i fld0).type, 47, ⟨.refl _, .own ..⟩, fun _ => rfl, (by simp only [List.length_append, List.length_cons, List.length_nil]; omega), ?_⟩
            refine ⟨ByteArray, strC, noS, [wSemi], ⟨rfl, fun _ => rfl⟩, ⟨.refl _, trivial⟩, rfl, ?_⟩
            refine ⟨ByteArray, strC, noS, doC1 c ++ (c.fields.take i).flatMap fldF ++ [wField, (c.fields.getD i fld0).name, wColon] ++ kindW (c.fields.getD i fld0).type, [wSemi], 51, ⟨.refl _, .refl _⟩, fun _ => rfl, (by simp only [List.length_append, List.length_cons, List.length_nil]; omega), ?_⟩
            exact ⟨(i + 1, true), hlt, by show c.fields.length - (i + 1) < c.fields.length - i; omega, ⟨rfl, rfl⟩, .refl _, .ownEq (by rw [hs, hf]; simp), .refl _, .int hwj, .refl _, ⟨.refl _, .refl _, .refl _, .refl _, .refl _, .refl _, trivial⟩, trivial⟩
        · have hge : i = c.fields.length := by have := of_decide_eq_false h; omega
          have hcb := hfl c.fields.length
          rw [List.take_length] at hcb
          clear hwj hbi h hi hi1
          refine ⟨Nat × Bool, fun s => [(3, .own ByteArray 1 strC noS (doC1 c ++ c.fields.flatMap fldF ++ (c.methods.take s.1).flatMap doesF) (cond s.2 65 53)), (57, I c.methods.length), (56, .row Meth 9 methC meth0 c.methods), (58, I s.1)], fun _ => [], fun s => s.1 ≤ c.methods.length, fun s => c.methods.length - s.1,
            ⟨(0, false), Nat.zero_le _, ⟨⟨rfl, rfl⟩, .ownEq (by rw [hge, List.take_length]; simp), .refl _, .refl _, .refl _, trivial⟩⟩, fun ((i, b) : Nat × Bool) hi => ?_⟩
          have hi1 : i ≤ c.methods.length := hi
          have hwj : IntKind.i64.wrap ((i : Int) + 1) = ((i + 1 : Nat) : Int) := by rw [wrap_eq _ (by omega) (by omega)]; omega
          have hbi := hml i
          cases b
          case false =>
            refine ⟨fun h => ?_, fun h => ?_⟩
            · have hlt : i < c.methods.length := by have := of_decide_eq_true h; omega
              have hs := flat_snoc doesF c.methods meth0 i hlt
              have hmo := hp5.2 _ (getT_mem c.methods meth0 i hlt)
              have hdl := does_len hmo
              refine ⟨⟨by omega, by omega⟩, ?_⟩
              refine ⟨c.methods.getD i meth0, ⟨.refl _, trivial⟩, rfl, hmo, ?_⟩
              refine ⟨ByteArray, strC, noS, doC1 c ++ c.fields.flatMap fldF ++ (c.methods.take i).flatMap doesF, doesF (c.methods.getD i meth0), 53, ⟨.refl _, .own ..⟩, fun _ => rfl, (by simp only [List.length_append]; omega), ?_⟩
              exact ⟨(i + 1, true), hlt, by show c.methods.length - (i + 1) < c.methods.length - i; omega, ⟨rfl, rfl⟩, .ownEq (by rw [hs]; simp), .refl _, .refl _, .int hwj, trivial⟩
            · have hge2 : i = c.methods.length := by have := of_decide_eq_false h; omega
              refine ⟨ByteArray, strC, noS, [wRc], ⟨rfl, fun _ => rfl⟩, ⟨.refl _, trivial⟩, rfl, ?_⟩
              refine ⟨ByteArray, strC, noS, doC1 c ++ c.fields.flatMap fldF ++ (c.methods.take i).flatMap doesF, [wRc], 53, ⟨.refl _, .own ..⟩, fun _ => rfl, (by simp only [List.length_append, List.length_cons, List.length_nil]; omega), ?_⟩
              exact ⟨.ownEq (by rw [wordsC_eq, hge2, List.take_length]), rfl⟩
          case true =>
            refine ⟨fun h => ?_, fun h => ?_⟩
            · have hlt : i < c.methods.length := by have := of_decide_eq_true h; omega
              have hs := flat_snoc doesF c.methods meth0 i hlt
              have hmo := hp5.2 _ (getT_mem c.methods meth0 i hlt)
              have hdl := does_len hmo
              refine ⟨⟨by omega, by omega⟩, ?_⟩
              refine ⟨c.methods.getD i meth0, ⟨.refl _, trivial⟩, rfl, hmo, ?_⟩
              refine ⟨ByteArray, strC, noS, doC1 c ++ c.fields.flatMap fldF ++ (c.methods.take i).flatMap doesF, doesF (c.methods.getD i meth0), 65, ⟨.refl _, .own ..⟩, fun _ => rfl, (by simp only [List.length_append]; omega), ?_⟩
              exact ⟨(i + 1, true), hlt, by show c.methods.length - (i + 1) < c.methods.length - i; omega, ⟨rfl, rfl⟩, .ownEq (by rw [hs]; simp), .refl _, .refl _, .int hwj, trivial⟩
            · have hge2 : i = c.methods.length := by have := of_decide_eq_false h; omega
              refine ⟨ByteArray, strC, noS, [wRc], ⟨rfl, fun _ => rfl⟩, ⟨.refl _, trivial⟩, rfl, ?_⟩
              refine ⟨ByteArray, strC, noS, doC1 c ++ c.fields.flatMap fldF ++ (c.methods.take i).flatMap doesF, [wRc], 65, ⟨.refl _, .own ..⟩, fun _ => rfl, (by simp only [List.length_append, List.length_cons, List.length_nil]; omega), ?_⟩
              exact ⟨.ownEq (by rw [wordsC_eq, hge2, List.take_length]), rfl⟩
    · have hs : supC c = [] := by
        have hs : (!(c.super.toList == (⟨#[]⟩ : ByteArray).toList)) = false := hs
        rw [hns] at hs
        unfold supC; rw [if_pos (by simpa using hs)]
      refine ⟨(if c.iface then wExtends else wImplements, c.ifaces), ⟨.refl _, .refl _, trivial⟩, rfl, (show c.ifaces.length ≤ 100000 by omega), ?_⟩
      rcases Nat.eq_zero_or_pos c.ifaces.length with hz | hz
      · have hnil : lstC c = [] := by unfold lstC; rw [List.length_eq_zero_iff.1 hz]; rfl
        refine .inr ⟨.ownRow hnil, ?_⟩
        refine ⟨ByteArray, strC, noS, [wLc], ⟨rfl, fun _ => rfl⟩, ⟨.refl _, trivial⟩, rfl, ?_⟩
        refine .inl ⟨[wLc], ⟨rfl, Nat.le_refl _, Nat.succ_pos _, .own ..⟩, (show (2 + 1) * 16 ≤ 140737488355328 by omega), ?_⟩
        have hdo : hdC c ++ [wLc] = doC1 c := by unfold doC1; rw [hs, hnil]; simp
        refine ⟨Nat × Bool, fun s => [(1, .box 1 0), (3, .own ByteArray 1 strC noS (doC1 c ++ (c.fields.take s.1).flatMap fldF) (cond s.2 53 32)), (35, I c.fields.length), (36, I s.1), (34, .row Fld 4 fldC fld0 c.fields)], fun _ => [(1, clsC c)], fun s => s.1 ≤ c.fields.length, fun s => c.fields.length - s.1,
          ⟨(0, false), Nat.zero_le _, ⟨⟨rfl, rfl⟩, .refl _, .ownEq (by rw [← hdo]; simp [hdC]), .refl _, .refl _, .refl _, ⟨.refl _, .refl _, .refl _, .refl _, .refl _, .refl _, trivial⟩, trivial⟩⟩, fun ((i, b) : Nat × Bool) hi => ?_⟩
        have hi1 : i ≤ c.fields.length := hi
        have hwj : IntKind.i64.wrap ((i : Int) + 1) = ((i + 1 : Nat) : Int) := by rw [wrap_eq _ (by omega) (by omega)]; omega
        have hbi := hfl i
        cases b
        case false =>
          refine ⟨fun h => ?_, fun h => ?_⟩
          · have hlt : i < c.fields.length := by have := of_decide_eq_true h; omega
            have hs := flat_snoc fldF c.fields fld0 i hlt
            have hk := kindW_len (c.fields.getD i fld0).type
            refine ⟨⟨by omega, by omega⟩, ?_⟩
            refine ⟨fun h3 => ?_, fun h3 => ?_⟩
            · have h3 : (c.fields.getD i fld0).static = true := h3
              have hf : fldF (c.fields.getD i fld0) = [wStatic, (c.fields.getD i fld0).name, wColon] ++ (kindW (c.fields.getD i fld0).type ++ [wSemi]) := by unfold fldF; rw [if_pos h3]
              refine ⟨by kernel_rfl, ?_⟩
              refine ⟨ByteArray, strC, noS, [wStatic, (c.fields.getD i fld0).name, wColon], ⟨rfl, fun _ => rfl⟩, ⟨.refl _, .refl _, .refl _, trivial⟩, rfl, ?_⟩
              refine ⟨ByteArray, strC, noS, doC1 c ++ (c.fields.take i).flatMap fldF, [wStatic, (c.fields.getD i fld0).name, wColon], 32, ⟨.refl _, .own ..⟩, fun _ => rfl, (by simp only [List.length_append, List.length_cons, List.length_nil]; omega), ?_⟩
              refine ⟨(c.fields.getD i fld0).type, ⟨.refl _, trivial⟩, rfl, trivial, ?_⟩
              refine ⟨ByteArray, strC, noS, doC1 c ++ (c.fields.take i).flatMap fldF ++ [wStatic, (c.fields.getD i fld0).name, wColon], kindW (c.fields.getD i fld0).type, 47, ⟨.refl _, .own ..⟩, fun _ => rfl, (by simp only [List.length_append, List.length_cons, List.length_nil]; omega), ?_⟩
              refine ⟨ByteArray, strC, noS, [wSemi], ⟨rfl, fun _ => rfl⟩, ⟨.refl _, trivial⟩, rfl, ?_⟩
              refine ⟨ByteArray, strC, noS, doC1 c ++ (c.fields.take i).flatMap fldF ++ [wStatic, (c.fields.getD i fld0).name, wColon] ++ kindW (c.fields.getD i fld0).type, [wSemi], 51, ⟨.refl _, .refl _⟩, fun _ => rfl, (by simp only [List.length_append, List.length_cons, List.length_nil]; omega), ?_⟩
              exact ⟨(i + 1, true), hlt, by show c.fields.length - (i + 1) < c.fields.length - i; omega, ⟨rfl, rfl⟩, .refl _, .ownEq (by rw [hs, hf]; simp), .refl _, .int hwj, .refl _, ⟨.refl _, .refl _, .refl _, .refl _, .refl _, .refl _, trivial⟩, trivial⟩
            · have h3 : (c.fields.getD i fld0).static = false := h3
              have hf : fldF (c.fields.getD i fld0) = [wField, (c.fields.getD i fld0).name, wColon] ++ (kindW (c.fields.getD i fld0).type ++ [wSemi]) := by unfold fldF; rw [if_neg (by rw [h3]; decide)]
              refine ⟨by kernel_rfl, ?_⟩
              refine ⟨ByteArray, strC, noS, [wField, (c.fields.getD i fld0).name, wColon], ⟨rfl, fun _ => rfl⟩, ⟨.refl _, .refl _, .refl _, trivial⟩, rfl, ?_⟩
              refine ⟨ByteArray, strC, noS, doC1 c ++ (c.fields.take i).flatMap fldF, [wField, (c.fields.getD i fld0).name, wColon], 32, ⟨.refl _, .own ..⟩, fun _ => rfl, (by simp only [List.length_append, List.length_cons, List.length_nil]; omega), ?_⟩
              refine ⟨(c.fields.getD i fld0).type, ⟨.refl _, trivial⟩, rfl, trivial, ?_⟩
              refine ⟨ByteArray, strC, noS, doC1 c ++ (c.fields.take i).flatMap fldF ++ [wField, (c.fields.getD i fld0).name, wColon], kindW (c.fields.getD i fld0).type, 47, ⟨.refl _, .own ..⟩, fun _ => rfl, (by simp only [List.length_append, List.length_cons, List.length_nil]; omega), ?_⟩
              refine ⟨ByteArray, strC, noS, [wSemi], ⟨rfl, fun _ => rfl⟩, ⟨.refl _, trivial⟩, rfl, ?_⟩
              refine ⟨ByteArray, strC, noS, doC1 c ++ (c.fields.take i).flatMap fldF ++ [wField, (c.fields.getD i fld0).name, wColon] ++ kindW (c.fields.getD i fld0).type, [wSemi], 51, ⟨.refl _, .refl _⟩, fun _ => rfl, (by simp only [List.length_append, List.length_cons, List.length_nil]; omega), ?_⟩
              exact ⟨(i + 1, true), hlt, by show c.fields.length - (i + 1) < c.fields.length - i; omega, ⟨rfl, rfl⟩, .refl _, .ownEq (by rw [hs, hf]; simp), .refl _, .int hwj, .refl _, ⟨.refl _, .refl _, .refl _, .refl _, .refl _, .refl _, trivial⟩, trivial⟩
          · have hge : i = c.fields.length := by have := of_decide_eq_false h; omega
            have hcb := hfl c.fields.length
            rw [List.take_length] at hcb
            clear hwj hbi h hi hi1
            refine ⟨Nat × Bool, fun s => [(3, .own ByteArray 1 strC noS (doC1 c ++ c.fields.flatMap fldF ++ (c.methods.take s.1).flatMap doesF) (cond s.2 65 32)), (57, I c.methods.length), (56, .row Meth 9 methC meth0 c.methods), (58, I s.1)], fun _ => [], fun s => s.1 ≤ c.methods.length, fun s => c.methods.length - s.1,
              ⟨(0, false), Nat.zero_le _, ⟨⟨rfl, rfl⟩, .ownEq (by rw [hge, List.take_length]; simp), .refl _, .refl _, .refl _, trivial⟩⟩, fun ((i, b) : Nat × Bool) hi => ?_⟩
            have hi1 : i ≤ c.methods.length := hi
            have hwj : IntKind.i64.wrap ((i : Int) + 1) = ((i + 1 : Nat) : Int) := by rw [wrap_eq _ (by omega) (by omega)]; omega
            have hbi := hml i
            cases b
            case false =>
              refine ⟨fun h => ?_, fun h => ?_⟩
              · have hlt : i < c.methods.length := by have := of_decide_eq_true h; omega
                have hs := flat_snoc doesF c.methods meth0 i hlt
                have hmo := hp5.2 _ (getT_mem c.methods meth0 i hlt)
                have hdl := does_len hmo
                refine ⟨⟨by omega, by omega⟩, ?_⟩
                refine ⟨c.methods.getD i meth0, ⟨.refl _, trivial⟩, rfl, hmo, ?_⟩
                refine ⟨ByteArray, strC, noS, doC1 c ++ c.fields.flatMap fldF ++ (c.methods.take i).flatMap doesF, doesF (c.methods.getD i meth0), 32, ⟨.refl _, .own ..⟩, fun _ => rfl, (by simp only [List.length_append]; omega), ?_⟩
                exact ⟨(i + 1, true), hlt, by show c.methods.length - (i + 1) < c.methods.length - i; omega, ⟨rfl, rfl⟩, .ownEq (by rw [hs]; simp), .refl _, .refl _, .int hwj, trivial⟩
              · have hge2 : i = c.methods.length := by have := of_decide_eq_false h; omega
                refine ⟨ByteArray, strC, noS, [wRc], ⟨rfl, fun _ => rfl⟩, ⟨.refl _, trivial⟩, rfl, ?_⟩
                refine ⟨ByteArray, strC, noS, doC1 c ++ c.fields.flatMap fldF ++ (c.methods.take i).flatMap doesF, [wRc], 32, ⟨.refl _, .own ..⟩, fun _ => rfl, (by simp only [List.length_append, List.length_cons, List.length_nil]; omega), ?_⟩
                exact ⟨.ownEq (by rw [wordsC_eq, hge2, List.take_length]), rfl⟩
            case true =>
              refine ⟨fun h => ?_, fun h => ?_⟩
              · have hlt : i < c.methods.length := by have := of_decide_eq_true h; omega
                have hs := flat_snoc doesF c.methods meth0 i hlt
                have hmo := hp5.2 _ (getT_mem c.methods meth0 i hlt)
                have hdl := does_len hmo
                refine ⟨⟨by omega, by omega⟩, ?_⟩
                refine ⟨c.methods.getD i meth0, ⟨.refl _, trivial⟩, rfl, hmo, ?_⟩
                refine ⟨ByteArray, strC, noS, doC1 c ++ c.fields.flatMap fldF ++ (c.methods.take i).flatMap doesF, doesF (c.methods.getD i meth0), 65, ⟨.refl _, .own ..⟩, fun _ => rfl, (by simp only [List.length_append]; omega), ?_⟩
                exact ⟨(i + 1, true), hlt, by show c.methods.length - (i + 1) < c.methods.length - i; omega, ⟨rfl, rfl⟩, .ownEq (by rw [hs]; simp), .refl _, .refl _, .int hwj, trivial⟩
              · have hge2 : i = c.methods.length := by have := of_decide_eq_false h; omega
                refine ⟨ByteArray, strC, noS, [wRc], ⟨rfl, fun _ => rfl⟩, ⟨.refl _, trivial⟩, rfl, ?_⟩
                refine ⟨ByteArray, strC, noS, doC1 c ++ c.fields.flatMap fldF ++ (c.methods.take i).flatMap doesF, [wRc], 65, ⟨.refl _, .own ..⟩, fun _ => rfl, (by simp only [List.length_append, List.length_cons, List.length_nil]; omega), ?_⟩
                exact ⟨.ownEq (by rw [wordsC_eq, hge2, List.take_length]), rfl⟩
        case true =>
          refine ⟨fun h => ?_, fun h => ?_⟩
          · have hlt : i < c.fields.length := by have := of_decide_eq_true h; omega
            have hs := flat_snoc fldF c.fields fld0 i hlt
            have hk := kindW_len (c.fields.getD i fld0).type
            refine ⟨⟨by omega, by omega⟩, ?_⟩
            refine ⟨fun h3 => ?_, fun h3 => ?_⟩
            · have h3 : (c.fields.getD i fld0).static = true := h3
              have hf : fldF (c.fields.getD i fld0) = [wStatic, (c.fields.getD i fld0).name, wColon] ++ (kindW (c.fields.getD i fld0).type ++ [wSemi]) := by unfold fldF; rw [if_pos h3]
              refine ⟨by kernel_rfl, ?_⟩
              refine ⟨ByteArray, strC, noS, [wStatic, (c.fields.getD i fld0).name, wColon], ⟨rfl, fun _ => rfl⟩, ⟨.refl _, .refl _, .refl _, trivial⟩, rfl, ?_⟩
              refine ⟨ByteArray, strC, noS, doC1 c ++ (c.fields.take i).flatMap fldF, [wStatic, (c.fields.getD i fld0).name, wColon], 53, ⟨.refl _, .own ..⟩, fun _ => rfl, (by simp only [List.length_append, List.length_cons, List.length_nil]; omega), ?_⟩
              refine ⟨(c.fields.getD i fld0).type, ⟨.refl _, trivial⟩, rfl, trivial, ?_⟩
              refine ⟨ByteArray, strC, noS, doC1 c ++ (c.fields.take i).flatMap fldF ++ [wStatic, (c.fields.getD i fld0).name, wColon], kindW (c.fields.getD i fld0).type, 47, ⟨.refl _, .own ..⟩, fun _ => rfl, (by simp only [List.length_append, List.length_cons, List.length_nil]; omega), ?_⟩
              refine ⟨ByteArray, strC, noS, [wSemi], ⟨rfl, fun _ => rfl⟩, ⟨.refl _, trivial⟩, rfl, ?_⟩
              refine ⟨ByteArray, strC, noS, doC1 c ++ (c.fields.take i).flatMap fldF ++ [wStatic, (c.fields.getD i fld0).name, wColon] ++ kindW (c.fields.getD i fld0).type, [wSemi], 51, ⟨.refl _, .refl _⟩, fun _ => rfl, (by simp only [List.length_append, List.length_cons, List.length_nil]; omega), ?_⟩
              exact ⟨(i + 1, true), hlt, by show c.fields.length - (i + 1) < c.fields.length - i; omega, ⟨rfl, rfl⟩, .refl _, .ownEq (by rw [hs, hf]; simp), .refl _, .int hwj, .refl _, ⟨.refl _, .refl _, .refl _, .refl _, .refl _, .refl _, trivial⟩, trivial⟩
            · have h3 : (c.fields.getD i fld0).static = false := h3
              have hf : fldF (c.fields.getD i fld0) = [wField, (c.fields.getD i fld0).name, wColon] ++ (kindW (c.fields.getD i fld0).type ++ [wSemi]) := by unfold fldF; rw [if_neg (by rw [h3]; decide)]
              refine ⟨by kernel_rfl, ?_⟩
              refine ⟨ByteArray, strC, noS, [wField, (c.fields.getD i fld0).name, wColon], ⟨rfl, fun _ => rfl⟩, ⟨.refl _, .refl _, .refl _, trivial⟩, rfl, ?_⟩
              refine ⟨ByteArray, strC, noS, doC1 c ++ (c.fields.take i).flatMap fldF, [wField, (c.fields.getD i fld0).name, wColon], 53, ⟨.refl _, .own ..⟩, fun _ => rfl, (by simp only [List.length_append, List.length_cons, List.length_nil]; omega), ?_⟩
              refine ⟨(c.fields.getD i fld0).type, ⟨.refl _, trivial⟩, rfl, trivial, ?_⟩
              refine ⟨ByteArray, strC, noS, doC1 c ++ (c.fields.take i).flatMap fldF ++ [wField, (c.fields.getD i fld0).name, wColon], kindW (c.fields.getD i fld0).type, 47, ⟨.refl _, .own ..⟩, fun _ => rfl, (by simp only [List.length_append, List.length_cons, List.length_nil]; omega), ?_⟩
              refine ⟨ByteArray, strC, noS, [wSemi], ⟨rfl, fun _ => rfl⟩, ⟨.refl _, trivial⟩, rfl, ?_⟩
              refine ⟨ByteArray, strC, noS, doC1 c ++ (c.fields.take i).flatMap fldF ++ [wField, (c.fields.getD i fld0).name, wColon] ++ kindW (c.fields.getD i fld0).type, [wSemi], 51, ⟨.refl _, .refl _⟩, fun _ => rfl, (by simp only [List.length_append, List.length_cons, List.length_nil]; omega), ?_⟩
              exact ⟨(i + 1, true), hlt, by show c.fields.length - (i + 1) < c.fields.length - i; omega, ⟨rfl, rfl⟩, .refl _, .ownEq (by rw [hs, hf]; simp), .refl _, .int hwj, .refl _, ⟨.refl _, .refl _, .refl _, .refl _, .refl _, .refl _, trivial⟩, trivial⟩
          · have hge : i = c.fields.length := by have := of_decide_eq_false h; omega
            have hcb := hfl c.fields.length
            rw [List.take_length] at hcb
            clear hwj hbi h hi hi1
            refine ⟨Nat × Bool, fun s => [(3, .own ByteArray 1 strC noS (doC1 c ++ c.fields.flatMap fldF ++ (c.methods.take s.1).flatMap doesF) (cond s.2 65 53)), (57, I c.methods.length), (56, .row Meth 9 methC meth0 c.methods), (58, I s.1)], fun _ => [], fun s => s.1 ≤ c.methods.length, fun s => c.methods.length - s.1,
              ⟨(0, false), Nat.zero_le _, ⟨⟨rfl, rfl⟩, .ownEq (by rw [hge, List.take_length]; simp), .refl _, .refl _, .refl _, trivial⟩⟩, fun ((i, b) : Nat × Bool) hi => ?_⟩
            have hi1 : i ≤ c.methods.length := hi
            have hwj : IntKind.i64.wrap ((i : Int) + 1) = ((i + 1 : Nat) : Int) := by rw [wrap_eq _ (by omega) (by omega)]; omega
            have hbi := hml i
            cases b
            case false =>
              refine ⟨fun h => ?_, fun h => ?_⟩
              · have hlt : i < c.methods.length := by have := of_decide_eq_true h; omega
                have hs := flat_snoc doesF c.methods meth0 i hlt
                have hmo := hp5.2 _ (getT_mem c.methods meth0 i hlt)
                have hdl := does_len hmo
                refine ⟨⟨by omega, by omega⟩, ?_⟩
                refine ⟨c.methods.getD i meth0, ⟨.refl _, trivial⟩, rfl, hmo, ?_⟩
                refine ⟨ByteArray, strC, noS, doC1 c ++ c.fields.flatMap fldF ++ (c.methods.take i).flatMap doesF, doesF (c.methods.getD i meth0), 53, ⟨.refl _, .own ..⟩, fun _ => rfl, (by simp only [List.length_append]; omega), ?_⟩
                exact ⟨(i + 1, true), hlt, by show c.methods.length - (i + 1) < c.methods.length - i; omega, ⟨rfl, rfl⟩, .ownEq (by rw [hs]; simp), .refl _, .refl _, .int hwj, trivial⟩
              · have hge2 : i = c.methods.length := by have := of_decide_eq_false h; omega
                refine ⟨ByteArray, strC, noS, [wRc], ⟨rfl, fun _ => rfl⟩, ⟨.refl _, trivial⟩, rfl, ?_⟩
                refine ⟨ByteArray, strC, noS, doC1 c ++ c.fields.flatMap fldF ++ (c.methods.take i).flatMap doesF, [wRc], 53, ⟨.refl _, .own ..⟩, fun _ => rfl, (by simp only [List.length_append, List.length_cons, List.length_nil]; omega), ?_⟩
                exact ⟨.ownEq (by rw [wordsC_eq, hge2, List.take_length]), rfl⟩
            case true =>
              refine ⟨fun h => ?_, fun h => ?_⟩
              · have hlt : i < c.methods.length := by have := of_decide_eq_true h; omega
                have hs := flat_snoc doesF c.methods meth0 i hlt
                have hmo := hp5.2 _ (getT_mem c.methods meth0 i hlt)
                have hdl := does_len hmo
                refine ⟨⟨by omega, by omega⟩, ?_⟩
                refine ⟨c.methods.getD i meth0, ⟨.refl _, trivial⟩, rfl, hmo, ?_⟩
                refine ⟨ByteArray, strC, noS, doC1 c ++ c.fields.flatMap fldF ++ (c.methods.take i).flatMap doesF, doesF (c.methods.getD i meth0), 65, ⟨.refl _, .own ..⟩, fun _ => rfl, (by simp only [List.length_append]; omega), ?_⟩
                exact ⟨(i + 1, true), hlt, by show c.methods.length - (i + 1) < c.methods.length - i; omega, ⟨rfl, rfl⟩, .ownEq (by rw [hs]; simp), .refl _, .refl _, .int hwj, trivial⟩
              · have hge2 : i = c.methods.length := by have := of_decide_eq_false h; omega
                refine ⟨ByteArray, strC, noS, [wRc], ⟨rfl, fun _ => rfl⟩, ⟨.refl _, trivial⟩, rfl, ?_⟩
                refine ⟨ByteArray, strC, noS, doC1 c ++ c.fields.flatMap fldF ++ (c.methods.take i).flatMap doesF, [wRc], 65, ⟨.refl _, .own ..⟩, fun _ => rfl, (by simp only [List.length_append, List.length_cons, List.length_nil]; omega), ?_⟩
                exact ⟨.ownEq (by rw [wordsC_eq, hge2, List.take_length]), rfl⟩
      · have hpos : 0 < (lstC c).length := by unfold lstC; omega
        have hlb : (lstC c).length ≤ 8 := by unfold lstC; omega
        refine .inl ⟨lstC c, ⟨rfl, Nat.le_refl _, hpos, .own ..⟩, (show (2 + (lstC c).length) * 16 ≤ 140737488355328 by omega), ?_⟩
        refine ⟨ByteArray, strC, noS, [wLc], ⟨rfl, fun _ => rfl⟩, ⟨.refl _, trivial⟩, rfl, ?_⟩
        refine ⟨ByteArray, strC, noS, hdC c ++ lstC c, [wLc], 30, ⟨.refl _, .own ..⟩, fun _ => rfl, (by unfold hdC; simp only [List.length_append, List.length_cons, List.length_nil]; omega), ?_⟩
        have hdo : hdC c ++ lstC c ++ [wLc] = doC1 c := by unfold doC1; rw [hs]; simp
        refine ⟨Nat × Bool, fun s => [(1, .box 1 0), (3, .own ByteArray 1 strC noS (doC1 c ++ (c.fields.take s.1).flatMap fldF) (cond s.2 53 32)), (35, I c.fields.length), (36, I s.1), (34, .row Fld 4 fldC fld0 c.fields)], fun _ => [(1, clsC c)], fun s => s.1 ≤ c.fields.length, fun s => c.fields.length - s.1,
          ⟨(0, false), Nat.zero_le _, ⟨⟨rfl, rfl⟩, .refl _, .ownEq (by rw [← hdo]; simp [hdC]), .refl _, .refl _, .refl _, ⟨.refl _, .refl _, .refl _, .refl _, .refl _, .refl _, trivial⟩, trivial⟩⟩, fun ((i, b) : Nat × Bool) hi => ?_⟩
        have hi1 : i ≤ c.fields.length := hi
        have hwj : IntKind.i64.wrap ((i : Int) + 1) = ((i + 1 : Nat) : Int) := by rw [wrap_eq _ (by omega) (by omega)]; omega
        have hbi := hfl i
        cases b
        case false =>
          refine ⟨fun h => ?_, fun h => ?_⟩
          · have hlt : i < c.fields.length := by have := of_decide_eq_true h; omega
            have hs := flat_snoc fldF c.fields fld0 i hlt
            have hk := kindW_len (c.fields.getD i fld0).type
            refine ⟨⟨by omega, by omega⟩, ?_⟩
            refine ⟨fun h3 => ?_, fun h3 => ?_⟩
            · have h3 : (c.fields.getD i fld0).static = true := h3
              have hf : fldF (c.fields.getD i fld0) = [wStatic, (c.fields.getD i fld0).name, wColon] ++ (kindW (c.fields.getD i fld0).type ++ [wSemi]) := by unfold fldF; rw [if_pos h3]
              refine ⟨by kernel_rfl, ?_⟩
              refine ⟨ByteArray, strC, noS, [wStatic, (c.fields.getD i fld0).name, wColon], ⟨rfl, fun _ => rfl⟩, ⟨.refl _, .refl _, .refl _, trivial⟩, rfl, ?_⟩
              refine ⟨ByteArray, strC, noS, doC1 c ++ (c.fields.take i).flatMap fldF, [wStatic, (c.fields.getD i fld0).name, wColon], 32, ⟨.refl _, .own ..⟩, fun _ => rfl, (by simp only [List.length_append, List.length_cons, List.length_nil]; omega), ?_⟩
              refine ⟨(c.fields.getD i fld0).type, ⟨.refl _, trivial⟩, rfl, trivial, ?_⟩
              refine ⟨ByteArray, strC, noS, doC1 c ++ (c.fields.take i).flatMap fldF ++ [wStatic, (c.fields.getD i fld0).name, wColon], kindW (c.fields.getD i fld0).type, 47, ⟨.refl _, .own ..⟩, fun _ => rfl, (by simp only [List.length_append, List.length_cons, List.length_nil]; omega), ?_⟩
              refine ⟨ByteArray, strC, noS, [wSemi], ⟨rfl, fun _ => rfl⟩, ⟨.refl _, trivial⟩, rfl, ?_⟩
              refine ⟨ByteArray, strC, noS, doC1 c ++ (c.fields.take i).flatMap fldF ++ [wStatic, (c.fields.getD i fld0).name, wColon] ++ kindW (c.fields.getD i fld0).type, [wSemi], 51, ⟨.refl _, .refl _⟩, fun _ => rfl, (by simp only [List.length_append, List.length_cons, List.length_nil]; omega), ?_⟩
              exact ⟨(i + 1, true), hlt, by show c.fields.length - (i + 1) < c.fields.length - i; omega, ⟨rfl, rfl⟩, .refl _, .ownEq (by rw [hs, hf]; simp), .refl _, .int hwj, .refl _, ⟨.refl _, .refl _, .refl _, .refl _, .refl _, .refl _, trivial⟩, trivial⟩
            · have h3 : (c.fields.getD i fld0).static = false := h3
              have hf : fldF (c.fields.getD i fld0) = [wField, (c.fields.getD i fld0).name, wColon] ++ (kindW (c.fields.getD i fld0).type ++ [wSemi]) := by unfold fldF; rw [if_neg (by rw [h3]; decide)]
              refine ⟨by kernel_rfl, ?_⟩
              refine ⟨ByteArray, strC, noS, [wField, (c.fields.getD i fld0).name, wColon], ⟨rfl, fun _ => rfl⟩, ⟨.refl _, .refl _, .refl _, trivial⟩, rfl, ?_⟩
              refine ⟨ByteArray, strC, noS, doC1 c ++ (c.fields.take i).flatMap fldF, [wField, (c.fields.getD i fld0).name, wColon], 32, ⟨.refl _, .own ..⟩, fun _ => rfl, (by simp only [List.length_append, List.length_cons, List.length_nil]; omega), ?_⟩
              refine ⟨(c.fields.getD i fld0).type, ⟨.refl _, trivial⟩, rfl, trivial, ?_⟩
              refine ⟨ByteArray, strC, noS, doC1 c ++ (c.fields.take i).flatMap fldF ++ [wField, (c.fields.getD i fld0).name, wColon], kindW (c.fields.getD i fld0).type, 47, ⟨.refl _, .own ..⟩, fun _ => rfl, (by simp only [List.length_append, List.length_cons, List.length_nil]; omega), ?_⟩
              refine ⟨ByteArray, strC, noS, [wSemi], ⟨rfl, fun _ => rfl⟩, ⟨.refl _, trivial⟩, rfl, ?_⟩
              refine ⟨ByteArray, strC, noS, doC1 c ++ (c.fields.take i).flatMap fldF ++ [wField, (c.fields.getD i fld0).name, wColon] ++ kindW (c.fields.getD i fld0).type, [wSemi], 51, ⟨.refl _, .refl _⟩, fun _ => rfl, (by simp only [List.length_append, List.length_cons, List.length_nil]; omega), ?_⟩
              exact ⟨(i + 1, true), hlt, by show c.fields.length - (i + 1) < c.fields.length - i; omega, ⟨rfl, rfl⟩, .refl _, .ownEq (by rw [hs, hf]; simp), .refl _, .int hwj, .refl _, ⟨.refl _, .refl _, .refl _, .refl _, .refl _, .refl _, trivial⟩, trivial⟩
          · have hge : i = c.fields.length := by have := of_decide_eq_false h; omega
            have hcb := hfl c.fields.length
            rw [List.take_length] at hcb
            clear hwj hbi h hi hi1
            refine ⟨Nat × Bool, fun s => [(3, .own ByteArray 1 strC noS (doC1 c ++ c.fields.flatMap fldF ++ (c.methods.take s.1).flatMap doesF) (cond s.2 65 32)), (57, I c.methods.length), (56, .row Meth 9 methC meth0 c.methods), (58, I s.1)], fun _ => [], fun s => s.1 ≤ c.methods.length, fun s => c.methods.length - s.1,
              ⟨(0, false), Nat.zero_le _, ⟨⟨rfl, rfl⟩, .ownEq (by rw [hge, List.take_length]; simp), .refl _, .refl _, .refl _, trivial⟩⟩, fun ((i, b) : Nat × Bool) hi => ?_⟩
            have hi1 : i ≤ c.methods.length := hi
            have hwj : IntKind.i64.wrap ((i : Int) + 1) = ((i + 1 : Nat) : Int) := by rw [wrap_eq _ (by omega) (by omega)]; omega
            have hbi := hml i
            cases b
            case false =>
              refine ⟨fun h => ?_, fun h => ?_⟩
              · have hlt : i < c.methods.length := by have := of_decide_eq_true h; omega
                have hs := flat_snoc doesF c.methods meth0 i hlt
                have hmo := hp5.2 _ (getT_mem c.methods meth0 i hlt)
                have hdl := does_len hmo
                refine ⟨⟨by omega, by omega⟩, ?_⟩
                refine ⟨c.methods.getD i meth0, ⟨.refl _, trivial⟩, rfl, hmo, ?_⟩
                refine ⟨ByteArray, strC, noS, doC1 c ++ c.fields.flatMap fldF ++ (c.methods.take i).flatMap doesF, doesF (c.methods.getD i meth0), 32, ⟨.refl _, .own ..⟩, fun _ => rfl, (by simp only [List.length_append]; omega), ?_⟩
                exact ⟨(i + 1, true), hlt, by show c.methods.length - (i + 1) < c.methods.length - i; omega, ⟨rfl, rfl⟩, .ownEq (by rw [hs]; simp), .refl _, .refl _, .int hwj, trivial⟩
              · have hge2 : i = c.methods.length := by have := of_decide_eq_false h; omega
                refine ⟨ByteArray, strC, noS, [wRc], ⟨rfl, fun _ => rfl⟩, ⟨.refl _, trivial⟩, rfl, ?_⟩
                refine ⟨ByteArray, strC, noS, doC1 c ++ c.fields.flatMap fldF ++ (c.methods.take i).flatMap doesF, [wRc], 32, ⟨.refl _, .own ..⟩, fun _ => rfl, (by simp only [List.length_append, List.length_cons, List.length_nil]; omega), ?_⟩
                exact ⟨.ownEq (by rw [wordsC_eq, hge2, List.take_length]), rfl⟩
            case true =>
              refine ⟨fun h => ?_, fun h => ?_⟩
              · have hlt : i < c.methods.length := by have := of_decide_eq_true h; omega
                have hs := flat_snoc doesF c.methods meth0 i hlt
                have hmo := hp5.2 _ (getT_mem c.methods meth0 i hlt)
                have hdl := does_len hmo
                refine ⟨⟨by omega, by omega⟩, ?_⟩
                refine ⟨c.methods.getD i meth0, ⟨.refl _, trivial⟩, rfl, hmo, ?_⟩
                refine ⟨ByteArray, strC, noS, doC1 c ++ c.fields.flatMap fldF ++ (c.methods.take i).flatMap doesF, doesF (c.methods.getD i meth0), 65, ⟨.refl _, .own ..⟩, fun _ => rfl, (by simp only [List.length_append]; omega), ?_⟩
                exact ⟨(i + 1, true), hlt, by show c.methods.length - (i + 1) < c.methods.length - i; omega, ⟨rfl, rfl⟩, .ownEq (by rw [hs]; simp), .refl _, .refl _, .int hwj, trivial⟩
              · have hge2 : i = c.methods.length := by have := of_decide_eq_false h; omega
                refine ⟨ByteArray, strC, noS, [wRc], ⟨rfl, fun _ => rfl⟩, ⟨.refl _, trivial⟩, rfl, ?_⟩
                refine ⟨ByteArray, strC, noS, doC1 c ++ c.fields.flatMap fldF ++ (c.methods.take i).flatMap doesF, [wRc], 65, ⟨.refl _, .own ..⟩, fun _ => rfl, (by simp only [List.length_append, List.length_cons, List.length_nil]; omega), ?_⟩
                exact ⟨.ownEq (by rw [wordsC_eq, hge2, List.take_length]), rfl⟩
        case true =>
          refine ⟨fun h => ?_, fun h => ?_⟩
          · have hlt : i < c.fields.length := by have := of_decide_eq_true h; omega
            have hs := flat_snoc fldF c.fields fld0 i hlt
            have hk := kindW_len (c.fields.getD i fld0).type
            refine ⟨⟨by omega, by omega⟩, ?_⟩
            refine ⟨fun h3 => ?_, fun h3 => ?_⟩
            · have h3 : (c.fields.getD i fld0).static = true := h3
              have hf : fldF (c.fields.getD i fld0) = [wStatic, (c.fields.getD i fld0).name, wColon] ++ (kindW (c.fields.getD i fld0).type ++ [wSemi]) := by unfold fldF; rw [if_pos h3]
              refine ⟨by kernel_rfl, ?_⟩
              refine ⟨ByteArray, strC, noS, [wStatic, (c.fields.getD i fld0).name, wColon], ⟨rfl, fun _ => rfl⟩, ⟨.refl _, .refl _, .refl _, trivial⟩, rfl, ?_⟩
              refine ⟨ByteArray, strC, noS, doC1 c ++ (c.fields.take i).flatMap fldF, [wStatic, (c.fields.getD i fld0).name, wColon], 53, ⟨.refl _, .own ..⟩, fun _ => rfl, (by simp only [List.length_append, List.length_cons, List.length_nil]; omega), ?_⟩
              refine ⟨(c.fields.getD i fld0).type, ⟨.refl _, trivial⟩, rfl, trivial, ?_⟩
              refine ⟨ByteArray, strC, noS, doC1 c ++ (c.fields.take i).flatMap fldF ++ [wStatic, (c.fields.getD i fld0).name, wColon], kindW (c.fields.getD i fld0).type, 47, ⟨.refl _, .own ..⟩, fun _ => rfl, (by simp only [List.length_append, List.length_cons, List.length_nil]; omega), ?_⟩
              refine ⟨ByteArray, strC, noS, [wSemi], ⟨rfl, fun _ => rfl⟩, ⟨.refl _, trivial⟩, rfl, ?_⟩
              refine ⟨ByteArray, strC, noS, doC1 c ++ (c.fields.take i).flatMap fldF ++ [wStatic, (c.fields.getD i fld0).name, wColon] ++ kindW (c.fields.getD i fld0).type, [wSemi], 51, ⟨.refl _, .refl _⟩, fun _ => rfl, (by simp only [List.length_append, List.length_cons, List.length_nil]; omega), ?_⟩
              exact ⟨(i + 1, true), hlt, by show c.fields.length - (i + 1) < c.fields.length - i; omega, ⟨rfl, rfl⟩, .refl _, .ownEq (by rw [hs, hf]; simp), .refl _, .int hwj, .refl _, ⟨.refl _, .refl _, .refl _, .refl _, .refl _, .refl _, trivial⟩, trivial⟩
            · have h3 : (c.fields.getD i fld0).static = false := h3
              have hf : fldF (c.fields.getD i fld0) = [wField, (c.fields.getD i fld0).name, wColon] ++ (kindW (c.fields.getD i fld0).type ++ [wSemi]) := by unfold fldF; rw [if_neg (by rw [h3]; decide)]
              refine ⟨by kernel_rfl, ?_⟩
              refine ⟨ByteArray, strC, noS, [wField, (c.fields.getD i fld0).name, wColon], ⟨rfl, fun _ => rfl⟩, ⟨.refl _, .refl _, .refl _, trivial⟩, rfl, ?_⟩
              refine ⟨ByteArray, strC, noS, doC1 c ++ (c.fields.take i).flatMap fldF, [wField, (c.fields.getD i fld0).name, wColon], 53, ⟨.refl _, .own ..⟩, fun _ => rfl, (by simp only [List.length_append, List.length_cons, List.length_nil]; omega), ?_⟩
              refine ⟨(c.fields.getD i fld0).type, ⟨.refl _, trivial⟩, rfl, trivial, ?_⟩
              refine ⟨ByteArray, strC, noS, doC1 c ++ (c.fields.take i).flatMap fldF ++ [wField, (c.fields.getD i fld0).name, wColon], kindW (c.fields.getD i fld0).type, 47, ⟨.refl _, .own ..⟩, fun _ => rfl, (by simp only [List.length_append, List.length_cons, List.length_nil]; omega), ?_⟩
              refine ⟨ByteArray, strC, noS, [wSemi], ⟨rfl, fun _ => rfl⟩, ⟨.refl _, trivial⟩, rfl, ?_⟩
              refine ⟨ByteArray, strC, noS, doC1 c ++ (c.fields.take i).flatMap fldF ++ [wField, (c.fields.getD i fld0).name, wColon] ++ kindW (c.fields.getD i fld0).type, [wSemi], 51, ⟨.refl _, .refl _⟩, fun _ => rfl, (by simp only [List.length_append, List.length_cons, List.length_nil]; omega), ?_⟩
              exact ⟨(i + 1, true), hlt, by show c.fields.length - (i + 1) < c.fields.length - i; omega, ⟨rfl, rfl⟩, .refl _, .ownEq (by rw [hs, hf]; simp), .refl _, .int hwj, .refl _, ⟨.refl _, .refl _, .refl _, .refl _, .refl _, .refl _, trivial⟩, trivial⟩
          · have hge : i = c.fields.length := by have := of_decide_eq_false h; omega
            have hcb := hfl c.fields.length
            rw [List.take_length] at hcb
            clear hwj hbi h hi hi1
            refine ⟨Nat × Bool, fun s => [(3, .own ByteArray 1 strC noS (doC1 c ++ c.fields.flatMap fldF ++ (c.methods.take s.1).flatMap doesF) (cond s.2 65 53)), (57, I c.methods.length), (56, .row Meth 9 methC meth0 c.methods), (58, I s.1)], fun _ => [], fun s => s.1 ≤ c.methods.length, fun s => c.methods.length - s.1,
              ⟨(0, false), Nat.zero_le _, ⟨⟨rfl, rfl⟩, .ownEq (by rw [hge, List.take_length]; simp), .refl _, .refl _, .refl _, trivial⟩⟩, fun ((i, b) : Nat × Bool) hi => ?_⟩
            have hi1 : i ≤ c.methods.length := hi
            have hwj : IntKind.i64.wrap ((i : Int) + 1) = ((i + 1 : Nat) : Int) := by rw [wrap_eq _ (by omega) (by omega)]; omega
            have hbi := hml i
            cases b
            case false =>
              refine ⟨fun h => ?_, fun h => ?_⟩
              · have hlt : i < c.methods.length := by have := of_decide_eq_true h; omega
                have hs := flat_snoc doesF c.methods meth0 i hlt
                have hmo := hp5.2 _ (getT_mem c.methods meth0 i hlt)
                have hdl := does_len hmo
                refine ⟨⟨by omega, by omega⟩, ?_⟩
                refine ⟨c.methods.getD i meth0, ⟨.refl _, trivial⟩, rfl, hmo, ?_⟩
                refine ⟨ByteArray, strC, noS, doC1 c ++ c.fields.flatMap fldF ++ (c.methods.take i).flatMap doesF, doesF (c.methods.getD i meth0), 53, ⟨.refl _, .own ..⟩, fun _ => rfl, (by simp only [List.length_append]; omega), ?_⟩
                exact ⟨(i + 1, true), hlt, by show c.methods.length - (i + 1) < c.methods.length - i; omega, ⟨rfl, rfl⟩, .ownEq (by rw [hs]; simp), .refl _, .refl _, .int hwj, trivial⟩
              · have hge2 : i = c.methods.length := by have := of_decide_eq_false h; omega
                refine ⟨ByteArray, strC, noS, [wRc], ⟨rfl, fun _ => rfl⟩, ⟨.refl _, trivial⟩, rfl, ?_⟩
                refine ⟨ByteArray, strC, noS, doC1 c ++ c.fields.flatMap fldF ++ (c.methods.take i).flatMap doesF, [wRc], 53, ⟨.refl _, .own ..⟩, fun _ => rfl, (by simp only [List.length_append, List.length_cons, List.length_nil]; omega), ?_⟩
                exact ⟨.ownEq (by rw [wordsC_eq, hge2, List.take_length]), rfl⟩
            case true =>
              refine ⟨fun h => ?_, fun h => ?_⟩
              · have hlt : i < c.methods.length := by have := of_decide_eq_true h; omega
                have hs := flat_snoc doesF c.methods meth0 i hlt
                have hmo := hp5.2 _ (getT_mem c.methods meth0 i hlt)
                have hdl := does_len hmo
                refine ⟨⟨by omega, by omega⟩, ?_⟩
                refine ⟨c.methods.getD i meth0, ⟨.refl _, trivial⟩, rfl, hmo, ?_⟩
                refine ⟨ByteArray, strC, noS, doC1 c ++ c.fields.flatMap fldF ++ (c.methods.take i).flatMap doesF, doesF (c.methods.getD i meth0), 65, ⟨.refl _, .own ..⟩, fun _ => rfl, (by simp only [List.length_append]; omega), ?_⟩
                exact ⟨(i + 1, true), hlt, by show c.methods.length - (i + 1) < c.methods.length - i; omega, ⟨rfl, rfl⟩, .ownEq (by rw [hs]; simp), .refl _, .refl _, .int hwj, trivial⟩
              · have hge2 : i = c.methods.length := by have := of_decide_eq_false h; omega
                refine ⟨ByteArray, strC, noS, [wRc], ⟨rfl, fun _ => rfl⟩, ⟨.refl _, trivial⟩, rfl, ?_⟩
                refine ⟨ByteArray, strC, noS, doC1 c ++ c.fields.flatMap fldF ++ (c.methods.take i).flatMap doesF, [wRc], 65, ⟨.refl _, .own ..⟩, fun _ => rfl, (by simp only [List.length_append, List.length_cons, List.length_nil]; omega), ?_⟩
                exact ⟨.ownEq (by rw [wordsC_eq, hge2, List.take_length]), rfl⟩
end Go.Proofs.YtadimoijlgmecaaDoor.Ax
/- The builder of a call: its bytes, and what its writers leave alone. -/
set_option linter.unusedVariables false
set_option linter.unusedSimpArgs false
namespace Go.Proofs.YtadimoijlgmecaaDoor.Ax
open Go Go.RowKit
section
variable {P : Program}
/-- block b is a builder that holds the bytes bs in the row v -/
structure Bld (T e : TypeId) (b : Nat) (p v : Value) (bs : List Value) (w : World) : Prop where
  heap : w.heap[b]? = some (.cells #[p, v] T (0, 0))
  own : w.ownsRowF b e 1 v bs.length bs
  ne : v.ownBlock ≠ some b
  ptr : p = .pointer none ∨ p = .pointer (some ⟨b, 0, none⟩)
/-- all blocks but the builder's own two are as they were -/
structure Aside (b : Nat) (v v' : Value) (w w' : World) : Prop where
  below : Below b w w'
  keep : ∀ k, k < w.heap.size → k ≠ b → some k ≠ v.ownBlock → w'.heap[k]? = w.heap[k]?
  own : ∀ g, v'.ownBlock = some g → v.ownBlock = some g ∨ w.heap.size ≤ g
theorem Aside.refl (b : Nat) (v : Value) (w : World) : Aside b v v w w := ⟨.refl _ _, fun _ _ _ _ => rfl, fun _ h => .inl h⟩
theorem Aside.trans {b : Nat} {v v' v'' : Value} {w w' w'' : World} (h : Aside b v v' w w') (k : Aside b v' v'' w' w'') : Aside b v v'' w w'' := by
  refine ⟨h.below.trans k.below, fun i hi hb hv => ?_, fun g hg => ?_⟩
  · rw [k.keep i (Nat.lt_of_lt_of_le hi h.below.size) hb (fun e => ?_), h.keep i hi hb hv]
    rcases h.own i e.symm with q | q
    · exact hv q.symm
    · omega
  · rcases k.own g hg with q | q
    · exact h.own g q
    · exact .inr (Nat.le_trans h.below.size q)
theorem Bld.lt {T e : TypeId} {b : Nat} {p v : Value} {bs : List Value} {w : World} (h : Bld T e b p v bs w) : b < w.heap.size := by
  rcases Nat.lt_or_ge b w.heap.size with h' | h'
  · exact h'
  · have := h.heap; simp [Array.getElem?_eq_none h'] at this
theorem Bld.isF {T e : TypeId} {b : Nat} {p v : Value} {bs : List Value} {w : World} (h : Bld T e b p v bs w) : Lib.IsBuilderF T e b b bs w := by
  rcases h.ptr with e | e
  · exact .inl ⟨Nat.le_refl _, v, e ▸ h.heap, h.own, h.ne⟩
  · exact .inr ⟨Nat.le_refl _, v, e ▸ h.heap, h.own, h.ne⟩
theorem bld_set0 {T e : TypeId} {b : Nat} {p v : Value} {bs : List Value} {w : World} (h : Bld T e b p v bs w) :
    Bld T e b (.pointer (some ⟨b, 0, none⟩)) v bs (w.setCell ⟨b, 0, none⟩ (.pointer (some ⟨b, 0, none⟩))) ∧ Aside b v v w (w.setCell ⟨b, 0, none⟩ (.pointer (some ⟨b, 0, none⟩))) := by
  refine ⟨⟨?_, ?_, h.ne, .inr rfl⟩, ⟨(Below.refl b w).setCell (p := ⟨b, 0, none⟩) (Nat.le_refl b) _, fun k _ hb _ => Below.heap_setCell _ _ _ _ hb, fun _ hg => .inl hg⟩⟩
  · simp [World.setCell, Array.getElem?_modify, h.heap]
  · exact h.own.kept (row := some b) ⟨rfl, rfl, rfl, by simp [World.setCell], fun k _ hk => Below.heap_setCell _ _ _ _ (fun e => hk (by simp [e]))⟩ (.inr h.ne)
theorem bld_put {T e : TypeId} {b : Nat} {p v v' : Value} {bs bs' : List Value} {w w1 : World} (hT : T ≠ e) (h1 : Bld T e b p v bs w) (hg : w.grownBy w1 v.ownBlock) (ho : w1.ownsRowF b e 1 v' bs'.length bs')
    (hv : ∀ g, v'.ownBlock = some g → v.ownBlock = some g ∨ w.heap.size ≤ g) :
    Bld T e b p v' bs' (w1.setCell ⟨b, 1, none⟩ v') ∧ Aside b v v' w (w1.setCell ⟨b, 1, none⟩ v') := by
  have hb2 : w1.heap[b]? = some (.cells #[p, v] T (0, 0)) := by rw [hg.block b h1.lt (fun e => h1.ne e.symm)]; exact h1.heap
  have hne := Lib.ownBlock_neF ho hb2 hT
  have hbl : Below b w w1 := (Below.refl b w).grown hg (Nat.le_of_lt h1.lt) (fun k hk => (h1.own.lt k hk).1)
  refine ⟨⟨?_, ?_, hne, h1.ptr⟩, ⟨hbl.setCell (p := ⟨b, 1, none⟩) (Nat.le_refl b) _, fun k hk hkb hkv => ?_, hv⟩⟩
  · simp [World.setCell, Array.getElem?_modify, hb2]
  · exact ho.kept (row := some b) ⟨rfl, rfl, rfl, by simp [World.setCell], fun k _ hk => Below.heap_setCell _ _ _ _ (fun e => hk (by simp [e]))⟩ (.inr hne)
  · rw [Below.heap_setCell _ _ _ _ hkb]; exact hg.block k hk hkv
/-- copyCheck -/
theorem builder_size : (Tryd.prog.info? 58).map (·.size) = some 2 := by kernel_rfl
theorem builder_lies : liesAt Tryd.prog Tryd.prog.depth 58 (2 / Tryd.prog.cellsOf 58) 0 58 1 = true := by kernel_rfl
theorem builder_ptr : Tryd.prog.underlying 56 = some (.pointer 58) := by kernel_rfl
theorem builder_uns : Tryd.prog.underlying 87 = some .unsafePointer := by kernel_rfl
set_option maxHeartbeats 1000000 in
set_option maxRecDepth 100000 in
theorem bcheck_used (b : Nat) (w : World) (h0 : w.cell? ⟨b, 0, none⟩ = some (.pointer (some ⟨b, 0, none⟩))) :
    Calls Tryd.prog 30 #[.pointer (some ⟨b, 0, none⟩)] w fun e w' => e = .returned (.tuple #[]) ∧ w' = w := by
  obtain ⟨j, hj, _⟩ := Option.map_eq_some_iff.1 builder_size
  go_enter Tryd.func30, Tryd.ntmps30
  go_wp2
  rw [Lib.run_neq_ptr_same w _ builder_ptr hj]
  go_wp2
  go_end0
  exact ⟨rfl, rfl⟩
set_option maxHeartbeats 1000000 in
set_option maxRecDepth 100000 in
theorem bcheck_fresh (b : Nat) (w : World) (h0 : w.cell? ⟨b, 0, none⟩ = some (.pointer none)) (hsh : w.shape? b = some (58, 2)) (hfz : w.frozen? ⟨b, 0, none⟩ = false) :
    Calls Tryd.prog 30 #[.pointer (some ⟨b, 0, none⟩)] w fun e w' => e = .returned (.tuple #[]) ∧ w' = w.setCell ⟨b, 0, none⟩ (.pointer (some ⟨b, 0, none⟩)) := by
  obtain ⟨j, hj, hjs⟩ := Option.map_eq_some_iff.1 builder_size
  go_enter Tryd.func30, Tryd.ntmps30
  go_wp2
  rw [Lib.run_to_unsafe w ⟨b, 0, none⟩ builder_ptr builder_uns hj (by rw [hjs]; decide) hsh (Nat.zero_lt_succ 1)]
  simp only [Result.andThen]
  rw [Oper.upon_value]
  go_wp2
  rw [run_callFunc_extern Tryd.func43 (by kernel_rfl) (by kernel_rfl) (by kernel_rfl) (e := Extern.AbiNoEscape.same) (by kernel_rfl)]
  rw [Lib.run_noEscape]
  simp only [Result.andThen]
  rw [Oper.upon_value]
  go_wp2
  rw [Lib.run_from_unsafe w ⟨b, 0, none⟩ builder_uns builder_ptr hj hsh builder_lies]
  simp only [Result.andThen]
  rw [Oper.upon_value]
  go_wp2
  go_end0
  exact ⟨rfl, rfl⟩
theorem bcheck {b : Nat} {p v : Value} {bs : List Value} {w : World} (h : Bld 58 5 b p v bs w) :
    Calls Tryd.prog 30 #[.pointer (some ⟨b, 0, none⟩)] w fun e w' => e = .returned (.tuple #[]) ∧ (Bld 58 5 b (.pointer (some ⟨b, 0, none⟩)) v bs w' ∧ Aside b v v w w') := by
  have c0 : w.cell? ⟨b, 0, none⟩ = some p := by rw [Lib.cell_of_heap h.heap]; rfl
  rcases h.ptr with e | e
  · refine (bcheck_fresh b w (e ▸ c0) (by simp [World.shape?, h.heap]) (Lib.frozen_of_heap h.heap 0)).mono ?_
    rintro e w' ⟨rfl, rfl⟩
    exact ⟨rfl, bld_set0 h⟩
  · refine (bcheck_used b w (e ▸ c0)).mono ?_
    rintro e' w' ⟨rfl, rfl⟩
    exact ⟨rfl, e ▸ h, Aside.refl _ _ _⟩
/-- where an append's row lies -/
theorem str_block (w : World) (t u ty e : TypeId) (i : TypeInfo) (ht : P.underlying t = some (.slice e)) (hu : P.underlying u = some .string) (hi : P.info? e = some i) (hz : i.zero = some (.int .u8 0)) (hsize : i.size = 1) (hby : i.bytes = 1)
    {base : Nat} {v v' : Value} {n : Nat} {xs : List Value} {w' : World} (hown : w.ownsRowF base e 1 v n xs) (s : ByteArray) (hbytes : n + s.size ≤ 140737488355328)
    (hr : (Builtin.append_ #[t, u] ty #[v, .string s]).run P w = .ok v' w') : ∀ g, v'.ownBlock = some g → v.ownBlock = some g ∨ w.heap.size ≤ g := by
  intro g' hg'
  have h63 : n + s.size ≤ maxLen := by unfold maxLen; omega
  rcases hown.2 with ⟨rfl, rfl⟩ | ⟨g, cap, cur, fz, rfl, hbg, hg, hfz, hnc, hcm, hcs, htake⟩
  · have hx : xs = [] := by have := hown.1; simpa using this
    subst hx
    obtain ⟨v2, w2, h1, h2, -⟩ := Lib.run_append_own_stringF (P := P) w w.heap.size t u ty e i ht hu hi hz hsize hby (.slice none 0 0) 0 [] (World.ownsRowF_nil _ _ _ _) s h63 hbytes (Nat.le_refl _)
    rw [hr] at h1
    injection h1 with q1 q2
    subst q1
    exact .inr (h2.lt g' hg').1
  · by_cases hroom : n + s.size ≤ cap
    · have h1 := Lib.run_append_room_stringF (P := P) w t u ty e i ht hu hi hsize g n cap cur fz hg (by simpa using hfz) s hroom (by rw [hcs]; omega)
      rw [hr] at h1
      injection h1 with q1 q2
      subst q1
      exact .inl hg'
    · have holds : ∀ j u, xs[j]? = some u → w.cell? ((⟨g, 0, none⟩ : Addr).add j) = some u := hown.cells (g := g) rfl
      have h1 := Lib.run_append_grow_string (P := P) w t u ty e i (.int .u8 0) ht hu hi hz ⟨g, 0, none⟩ n cap xs (by rw [hsize]; exact hown.1) holds s (by omega) (by omega) (by rw [hby]; exact growslice_fits (by omega) (by omega))
      rw [hr] at h1
      injection h1 with q1 q2
      subst q1
      simp only [Value.ownBlock, Option.some.injEq] at hg'
      exact .inr (by omega)
theorem byte_block (w : World) (t ty e : TypeId) (i : TypeInfo) (ht : P.underlying t = some (.slice e)) (hi : P.info? e = some i) (hz : i.zero = some (.int .u8 0)) (hsize : i.size = 1) (hby : i.bytes = 1)
    {base : Nat} {v v' : Value} {n : Nat} {xs : List Value} {w' : World} (hown : w.ownsRowF base e 1 v n xs) (a : Addr) (m c : Nat) (news : List Value) (hl : news.length = m) (hnews : ∀ j u, news[j]? = some u → w.cell? (a.add j) = some u) (h1 : ∀ u ∈ news, u.oneCell' = true)
    (hbytes : n + m ≤ 140737488355328) (hr : (Builtin.append_ #[t, t] ty #[v, .slice (some a) m c]).run P w = .ok v' w') : ∀ g, v'.ownBlock = some g → v.ownBlock = some g ∨ w.heap.size ≤ g := by
  intro g' hg'
  have h63 : n + m ≤ maxLen := by unfold maxLen; omega
  have hl1 : news.length = m * 1 := by omega
  rcases hown.2 with ⟨rfl, rfl⟩ | ⟨g, cap, cur, fz, rfl, hbg, hg, hfz, hnc, hcm, hcs, htake⟩
  · have hx : xs = [] := by have := hown.1; simpa using this
    subst hx
    obtain ⟨v2, w2, h1, h2, -⟩ := run_append_ownF (P := P) w w.heap.size t ty e i (.int .u8 0) 1 1 ht hi hz hsize hby rfl (by decide) (.slice none 0 0) 0 [] (World.ownsRowF_nil _ _ _ _) a m c news hl1 hnews h1 h63 (by omega) (Nat.le_refl _)
    rw [hr] at h1
    injection h1 with q1 q2
    subst q1
    exact .inr (h2.lt g' hg').1
  · by_cases hroom : n + m ≤ cap
    · have h2 := run_append_roomF (P := P) w t ty e i ht hi g n cap cur fz hg (by rw [hsize]; exact hfz) a m c news (by rw [hsize]; exact hl1) hnews h1 hroom (by rw [hsize, hcs]; omega)
      rw [hr] at h2
      injection h2 with q1 q2
      subst q1
      exact .inl hg'
    · have holds : ∀ j u, xs[j]? = some u → w.cell? ((⟨g, 0, none⟩ : Addr).add j) = some u := hown.cells (g := g) rfl
      have h2 := run_append_grow (P := P) w t ty e i (.int .u8 0) ht hi hz ⟨g, 0, none⟩ n cap xs (by rw [hsize]; exact hown.1) holds a m c news (by rw [hsize]; exact hl1) hnews (by omega) (by omega) (by rw [hby]; exact growslice_fits (by omega) (by omega))
      rw [hr] at h2
      injection h2 with q1 q2
      subst q1
      simp only [Value.ownBlock, Option.some.injEq] at hg'
      exact .inr (by omega)
theorem wpStr {ops : Array Oper} {rest : List Oper} {o : Oper} {a : Act} {w : World} {Q : Exit → Act → World → Prop} (hgd : o.guard = none) (sl x : Operand) (t u : TypeId)
    (ho : o.op = .call { callee := .builtin .append, args := #[sl, x], argTypes := #[t, u] })
    (base : Nat) (e : TypeId) (i : TypeInfo) (ht : P.underlying t = some (.slice e)) (hu : P.underlying u = some .string) (hi : P.info? e = some i) (hz : i.zero = some (.int .u8 0)) (hsize : i.size = 1) (hby : i.bytes = 1)
    (v : Value) (n : Nat) (xs : List Value) (hs : a.eval sl = v) (hown : w.ownsRowF base e 1 v n xs) (s : ByteArray) (hx : a.eval x = .string s) (hbytes : n + s.size ≤ 140737488355328) (hbase : base ≤ w.heap.size)
    (h : ∀ v' w', w'.ownsRowF base e 1 v' (n + s.size) (xs ++ Lib.strCells s) → w.grownBy w' v.ownBlock → (∀ g, v'.ownBlock = some g → v.ownBlock = some g ∨ w.heap.size ≤ g) → wpList P ops Q rest (a.put o.dst v') w') : wpList P ops Q (o :: rest) a w := by
  refine wpList_plain hgd fun K hK => ?_
  obtain ⟨v', w', hr, h2, h3, -⟩ := Lib.run_append_own_stringF (P := P) w base t u o.type e i ht hu hi hz hsize hby v n xs hown s (by unfold maxLen; omega) hbytes hbase
  have h4 := str_block w t u o.type e i ht hu hi hz hsize hby hown s hbytes hr
  unfold Oper.wp execOp
  simp only [ho, resolve, invoke, builtin, Sem.run_bind, Sem.run_pure, Result.andThen_ok, List.map_toArray, List.map_cons, List.map_nil, hs, hx, hr]
  exact hK _ _ (h v' w' h2 h3 h4)
theorem wpByte {ops : Array Oper} {rest : List Oper} {o : Oper} {a : Act} {w : World} {Q : Exit → Act → World → Prop} (hgd : o.guard = none) (sl x : Operand) (t : TypeId)
    (ho : o.op = .call { callee := .builtin .append, args := #[sl, x], argTypes := #[t, t] })
    (base : Nat) (e : TypeId) (i : TypeInfo) (ht : P.underlying t = some (.slice e)) (hi : P.info? e = some i) (hz : i.zero = some (.int .u8 0)) (hsize : i.size = 1) (hby : i.bytes = 1)
    (v : Value) (n : Nat) (xs : List Value) (hs : a.eval sl = v) (hown : w.ownsRowF base e 1 v n xs) (ad : Addr) (m c : Nat) (news : List Value) (hx : a.eval x = .slice (some ad) m c) (hl : news.length = m) (hnews : ∀ j u, news[j]? = some u → w.cell? (ad.add j) = some u) (h1 : ∀ u ∈ news, u.oneCell' = true)
    (hbytes : n + m ≤ 140737488355328) (hbase : base ≤ w.heap.size)
    (h : ∀ v' w', w'.ownsRowF base e 1 v' (n + m) (xs ++ news) → w.grownBy w' v.ownBlock → (∀ g, v'.ownBlock = some g → v.ownBlock = some g ∨ w.heap.size ≤ g) → wpList P ops Q rest (a.put o.dst v') w') : wpList P ops Q (o :: rest) a w := by
  refine wpList_plain hgd fun K hK => ?_
  obtain ⟨v', w', hr, h2, h3, -⟩ := run_append_ownF (P := P) w base t o.type e i (.int .u8 0) 1 1 ht hi hz hsize hby rfl (by decide) v n xs hown ad m c news (by omega) hnews h1 (by unfold maxLen; omega) (by omega) hbase
  have h4 := byte_block w t o.type e i ht hi hz hsize hby hown ad m c news hl hnews h1 hbytes hr
  unfold Oper.wp execOp
  simp only [ho, resolve, invoke, builtin, Sem.run_bind, Sem.run_pure, Result.andThen_ok, List.map_toArray, List.map_cons, List.map_nil, hs, hx, hr]
  exact hK _ _ (h v' w' h2 h3 h4)
theorem byte_info : (Tryd.prog.info? 5).map (fun i => (i.zero, i.size, i.bytes)) = some (some (.int .u8 0), 1, 1) := by kernel_rfl
theorem bytes_und : Tryd.prog.underlying 26 = some (.slice 5) := by kernel_rfl
theorem str_und : Tryd.prog.underlying 9 = some .string := by kernel_rfl
set_option maxHeartbeats 2000000 in
set_option maxRecDepth 100000 in
theorem bstring {b : Nat} {p v : Value} {bs : List Value} (s : ByteArray) {w : World} (h : Bld 58 5 b p v bs w) (hlen : bs.length + s.size ≤ 140737488355328) :
    Calls Tryd.prog 16 #[.pointer (some ⟨b, 0, none⟩), .string s] w fun e w' => e = .returned (.tuple #[.int .i64 s.size, .nilIface]) ∧ ∃ v', Bld 58 5 b (.pointer (some ⟨b, 0, none⟩)) v' (bs ++ Lib.strCells s) w' ∧ Aside b v v' w w' := by
  obtain ⟨i0, hi, hz0, hz1, hz2⟩ := info_parts byte_info
  go_enter Tryd.func16, Tryd.ntmps16
  go_wp2_with (go_at_call 30; refine (bcheck h).mono ?_)
  rintro e w1 ⟨rfl, h1, ha1⟩
  have hlt1 := h1.lt
  have c0 : w1.cell? ⟨b, 0, none⟩ = some (.pointer (some ⟨b, 0, none⟩)) := by rw [Lib.cell_of_heap h1.heap]; rfl
  have c1 : w1.cell? ⟨b, 1, none⟩ = some v := by rw [Lib.cell_of_heap h1.heap]; rfl
  go_wp2_with (at_builtin; refine wpStr rfl _ _ 26 9 rfl b 5 i0 bytes_und str_und hi hz0 hz1 hz2 _ _ _ rfl h1.own s rfl hlen (Nat.le_of_lt hlt1) ?_)
  intro v' w2 hown' hgrow hv'
  have hb2 : w2.heap[b]? = some (.cells #[.pointer (some ⟨b, 0, none⟩), v] 58 (0, 0)) := by
    rw [hgrow.block b hlt1 (fun e => h1.ne e.symm)]
    exact h1.heap
  have d0 : w2.cell? ⟨b, 0, none⟩ = some (.pointer (some ⟨b, 0, none⟩)) := by rw [Lib.cell_of_heap hb2]; rfl
  have d1 : w2.cell? ⟨b, 1, none⟩ = some v := by rw [Lib.cell_of_heap hb2]; rfl
  have f1 : w2.frozen? ⟨b, 1, none⟩ = false := Lib.frozen_of_heap hb2 1
  have hfin := bld_put (bs' := bs ++ Lib.strCells s) (by decide) h1 hgrow (by rw [List.length_append, Lib.strCells_length]; exact hown') hv'
  have HF := Lib.hid (And.intro hfin ha1)
  clear hfin ha1 hown' hgrow hv' h1 h
  obtain ⟨ao, n', cap, rfl⟩ : ∃ ao n' cap, v' = .slice ao n' cap := by
    rcases HF.out.1.1.own.2 with ⟨hv, _⟩ | ⟨g, cap, cur, fz, hv, _⟩
    · exact ⟨_, _, _, hv⟩
    · exact ⟨_, _, _, hv⟩
  go_wp2
  go_ret2
  exact ⟨rfl, _, HF.out.1.1, HF.out.2.trans HF.out.1.2⟩
set_option maxHeartbeats 2000000 in
set_option maxRecDepth 100000 in
theorem bbyte {b : Nat} {p v : Value} {bs : List Value} (c : Int) {w : World} (h : Bld 58 5 b p v bs w) (hlen : bs.length + 1 ≤ 140737488355328) :
    Calls Tryd.prog 17 #[.pointer (some ⟨b, 0, none⟩), .int .u8 c] w fun e w' => e = .returned .nilIface ∧ ∃ v', Bld 58 5 b (.pointer (some ⟨b, 0, none⟩)) v' (bs ++ [.int .u8 c]) w' ∧ Aside b v v' w w' := by
  obtain ⟨i0, hi, hz0, hz1, hz2⟩ := info_parts byte_info
  go_enter Tryd.func17, Tryd.ntmps17
  go_wp2_with (go_at_call 30; refine (bcheck h).mono ?_)
  rintro e w1 ⟨rfl, h1, ha1⟩
  have hlt1 := h1.lt
  have c0 : w1.cell? ⟨b, 0, none⟩ = some (.pointer (some ⟨b, 0, none⟩)) := by rw [Lib.cell_of_heap h1.heap]; rfl
  have c1 : w1.cell? ⟨b, 1, none⟩ = some v := by rw [Lib.cell_of_heap h1.heap]; rfl
  go_wp2_with (at_builtin; refine wpByte rfl _ _ 26 rfl b 5 i0 bytes_und hi hz0 hz1 hz2 _ _ _ rfl (h1.own.alloc _) ⟨w1.heap.size, 0, none⟩ 1 1 [.int .u8 c] rfl rfl ?c1 ?c2 hlen ?c5 ?_)
  case c1 =>
    intro j u hj
    match j, hj with
    | 0, hj => simp at hj; subst hj; simp [Addr.add]
  case c2 => intro u hu; simp at hu; subst hu; rfl
  case c5 => simp; omega
  intro v' w2 hown' hgrow hv'
  have hg2 : w1.grownBy w2 v.ownBlock := by
    refine ⟨hgrow.os, hgrow.tape, hgrow.output, by have := hgrow.size; simp at this; omega, fun k hk hkv => ?_⟩
    rw [hgrow.block k (by simp; omega) hkv, Lib.alloc_old w1 _ k hk]
  have hv2 : ∀ g, v'.ownBlock = some g → v.ownBlock = some g ∨ w1.heap.size ≤ g := fun g hg => (hv' g hg).imp id (fun q => by first | omega | (simp at q; omega) | exact Nat.le_of_succ_le q)
  have hb2 : w2.heap[b]? = some (.cells #[.pointer (some ⟨b, 0, none⟩), v] 58 (0, 0)) := by
    rw [hg2.block b hlt1 (fun e => h1.ne e.symm)]
    exact h1.heap
  have d0 : w2.cell? ⟨b, 0, none⟩ = some (.pointer (some ⟨b, 0, none⟩)) := by rw [Lib.cell_of_heap hb2]; rfl
  have d1 : w2.cell? ⟨b, 1, none⟩ = some v := by rw [Lib.cell_of_heap hb2]; rfl
  have f1 : w2.frozen? ⟨b, 1, none⟩ = false := Lib.frozen_of_heap hb2 1
  have hfin := bld_put (bs' := bs ++ [.int .u8 c]) (by decide) h1 hg2 (by simpa using hown') hv2
  have HF := Lib.hid (And.intro hfin ha1)
  clear hfin ha1 hown' hgrow hv' h1 h hg2 hv2
  obtain ⟨ao, n', cap, rfl⟩ : ∃ ao n' cap, v' = .slice ao n' cap := by
    rcases HF.out.1.1.own.2 with ⟨hv, _⟩ | ⟨g, cap, cur, fz, hv, _⟩
    · exact ⟨_, _, _, hv⟩
    · exact ⟨_, _, _, hv⟩
  go_wp2
  go_ret
  exact ⟨rfl, _, HF.out.1.1, HF.out.2.trans HF.out.1.2⟩
end
end Go.Proofs.YtadimoijlgmecaaDoor.Ax
/- Layer show: a program's text. -/
set_option linter.unusedVariables false
set_option linter.unusedSimpArgs false
namespace Go.Proofs.YtadimoijlgmecaaDoor.Ax
open Go Go.RowKit
def textK : Ctr := { A := List Cls, enc := fun p => [.agg [prgR p]], dom := prgD, res := fun p _ => .tup [.row UInt8 1 byteC 0 (showF p).1, I (showF p).2], gl := tabS }
theorem shaped_below {w w' : World} (h : Below w.heap.size w w') : Shaped w w' := ⟨h.size, fun k hk => by simp only [World.shape?, h.block k hk]⟩
theorem sealed_below {H : HM} {w w' : World} (hs : Sealed H w) (h : Below w.heap.size w w') : Sealed H w' := fun b o v e => by
  have := hs b o v e
  have hlt := World.block_lt_of_cell? w _ this
  rw [← this]
  simp only [World.cell?, h.block b hlt]
/-- a call in a later world -/
theorem ctr_later {P : Program} {g : Nat} {c : Ctr} (h : CtrSound P g c) (x : c.A) {H : HM} {w w1 : World} {vs : Array Value} (id : Nat) (hd : c.dom x) (hs : Sealed H w) (hgl : ∀ w', Sealed H w' → Shaped w w' → c.gl w') (hb : Below w.heap.size w w1)
    (hn : vs.size = (c.enc x).length) (hg : ∀ j, j < (c.enc x).length → G H noB noT (at' (c.enc x) j .junk) (vs.getD j undef)) :
    Calls P g vs w1 fun e w' => ∃ v H', e = .returned v ∧ Below w1.heap.size w1 w' ∧ HLe H H' ∧ (∀ b o, b < w1.heap.size → H' b o = H b o) ∧ Sealed H' w' ∧ ∃ T', G H' noB T' (c.res x id) v := by
  refine (h.2 x H w1 vs id hd (sealed_below hs hb) (fun w' h1 h2 => hgl w' h1 ((shaped_below hb).trans h2)) hn hg).mono ?_
  rintro e w' ⟨v, H', T', rfl, h1, h2, h3, -, h5, h6, -⟩
  exact ⟨v, H', rfl, h1, h2, h3, fun b o u e => (h5 b o u e).1, T', h6⟩
theorem row_val {H : HM} {β : BM} {T : TM} {X : Type} {sz : Nat} {cs : X → List SV} {d : X} {l : List X} {v : Value} (h : G H β T (.row X sz cs d l) v) : ∃ a n c, v = .slice a n c := by cases h <;> exact ⟨_, _, _, rfl⟩
theorem sep_eq (s : ByteArray) : (s.toList = [123] ∨ s.toList = [125] ∨ s.toList = [59] → sepOf s = 10) ∧ (¬ (s.toList = [123] ∨ s.toList = [125] ∨ s.toList = [59]) → sepOf s = 32) := by
  have k1 : s.toList = [123] ↔ s = wLc := by
    have := ba_eq s wLc
    rw [show wLc.toList = [123] by decide +kernel] at this
    rw [← beq_iff_eq (a := s.toList), this, decide_eq_true_iff]
  have k2 : s.toList = [125] ↔ s = wRc := by
    have := ba_eq s wRc
    rw [show wRc.toList = [125] by decide +kernel] at this
    rw [← beq_iff_eq (a := s.toList), this, decide_eq_true_iff]
  have k3 : s.toList = [59] ↔ s = wSemi := by
    have := ba_eq s wSemi
    rw [show wSemi.toList = [59] by decide +kernel] at this
    rw [← beq_iff_eq (a := s.toList), this, decide_eq_true_iff]
  rw [k1, k2, k3]
  exact ⟨fun h => if_pos h, fun h => if_neg h⟩
theorem tokB_len {w : ByteArray} (h : tokB w = true) : w.data.toList.length ≤ 21 := by
  rcases tok_cases h with ⟨n, e, h1, h2⟩ | h | h
  · rw [e]; exact Lib.itoa_length_le n (by omega) (by omega)
  · obtain ⟨c, r, -, -, -, h4⟩ := name_form.1 h; omega
  · omega
theorem putW_flat (ws : List ByteArray) (h : Toks ws) : (ws.flatMap putW).length ≤ 22 * ws.length :=
  flat_le putW 22 ws fun w hw => by have := tokB_len (h w hw); unfold putW; simp only [List.length_append, List.length_cons, List.length_nil]; omega
theorem cells_put (acc : List UInt8) (ws : List ByteArray) (m : Nat) (hm : m < ws.length) {s : ByteArray} (hs : s = ws.getD m noS) {n : Int} (hn : n = ((sepOf s).toNat : Int)) :
    Lib.byteCells (acc ++ (ws.take m).flatMap putW) ++ Lib.strCells s ++ [.int .u8 n] = Lib.byteCells (acc ++ (ws.take (m + 1)).flatMap putW) := by
  rw [flat_snoc putW ws noS m hm, ← hs, hn]
  unfold putW
  rw [Lib.strCells_eq, ← Lib.byteCells_append, ← List.append_assoc, Lib.byteCells_append, ← List.append_assoc, Lib.byteCells_append, Lib.byteCells_append]
  simp [Lib.byteCells]
def TextPost (p : List Cls) (H : HM) (w : World) (e : Ending) (w' : World) : Prop :=
  ∃ v H', e = .returned v ∧ Below w.heap.size w w' ∧ HLe H H' ∧ (∀ b o, b < w.heap.size → H' b o = H b o) ∧ Sealed H' w' ∧ G H' noB noT (textK.res p 0) v
def TextRow (p : List Cls) (H : HM) (ad : Option Addr) : Prop :=
  ∀ k, k < p.length → ∃ B off, ad = some ⟨B, off, none⟩ ∧ ∃ vs : Nat → Value, (∀ j, j < 6 → H B (off + k * 6 + j) = some (vs j)) ∧ ∀ j, j < 6 → G H noB noT (at' (clsC (p.getD k cls0)) j .junk) (vs j)
def TextRel (p : List Cls) (w : World) (b : Nat) (i : Value) (wr : World) : Prop :=
  ∃ k v q, k ≤ p.length ∧ i = .int .i64 k ∧ Bld 58 5 b q v (Lib.byteCells ((p.take k).flatMap textC)) wr ∧ Below w.heap.size w wr
def TextRel2 (ws : List ByteArray) (acc : List UInt8) (v : Value) (w3 : World) (b : Nat) (j : Value) (wq : World) : Prop :=
  ∃ m v' q', m ≤ ws.length ∧ j = .int .i64 m ∧ Bld 58 5 b q' v' (Lib.byteCells (acc ++ (ws.take m).flatMap putW)) wq ∧ Aside b v v' w3 wq
theorem bld_below {T e : TypeId} {b : Nat} {q v : Value} {bs : List Value} {w w' : World} (h : Bld T e b q v bs w) (hb : Below w.heap.size w w') : Bld T e b q v bs w' :=
  ⟨(hb.block b h.lt).trans h.heap, h.own.kept (row := none) ⟨hb.os, hb.tape, hb.output, hb.size, fun k hk _ => hb.block k hk⟩ (by cases hv : v.ownBlock <;> simp), h.ne, h.ptr⟩
theorem wordsC_ne (c : Cls) : 0 < (wordsC c).length := by rw [wordsC_eq]; simp only [List.length_append, List.length_cons]; omega
theorem wordsC_len {c : Cls} (h : clsOk c = true) : (wordsC c).length ≤ 2500 := by
  obtain ⟨hp1, hp2, hp3, hp4, hp5⟩ := cls_parts h
  have hll := listF_len (if c.iface then wExtends else wImplements) c.ifaces
  have hsl : (supC c).length ≤ 2 := by unfold supC; split <;> simp
  have hl3 := hp3.1
  have hm1 : (doC1 c).length ≤ 20 := by unfold doC1 hdC lstC; simp only [List.length_append, List.length_cons, List.length_nil]; omega
  have h1 := flat_le fldF 7 c.fields fun x _ => fldF_len x
  have h2 := flat_le doesF 400 c.methods fun x hx => does_len (hp5.2 x hx)
  have h3 := hp4.1
  have h4 := hp5.1
  rw [wordsC_eq]; simp only [List.length_append, List.length_cons, List.length_nil]; omega
theorem textC_len {c : Cls} (h : clsOk c = true) : (textC c).length ≤ 55000 := by
  have h1 := putW_flat _ (cls_tok h)
  have h2 := wordsC_len h
  unfold textC; omega
theorem textP_len {p : List Cls} (h : prgOk p = true) (k : Nat) : ((p.take k).flatMap textC).length ≤ 550000 := by
  obtain ⟨h1, h2⟩ := prg_parts h
  have h3 := flat_le textC 55000 (p.take k) fun c hc => textC_len (h2 c (List.mem_of_mem_take hc))
  have h4 : (p.take k).length ≤ 10 := by rw [List.length_take]; omega
  omega
theorem words_cells {H : HM} {T : TM} {l : List ByteArray} {id : Nat} {v : Value} (hl : 0 < l.length) (h : G H noB T (.own ByteArray 1 strC noS l id) v) :
    ∃ b off c, v = .slice (some ⟨b, off, none⟩) l.length c ∧ ∀ m, m < l.length → H b (off + m) = some (.string (l.getD m noS)) := by
  generalize hx : SV.own ByteArray 1 strC noS l id = x at h
  cases h with
  | ownE => cases hx; simp at hl
  | own X sz cs d l' id' b off c vs hc hz hH hG hT =>
    cases hx
    refine ⟨b, off, c, rfl, fun m hm => ?_⟩
    have h1 := hH m 0 hm (by omega)
    have h2 := hG m 0 hm (by omega)
    have h3 : vs m 0 = .string (l.getD m noS) := gval' (show G H noB noT (.val (.string (l.getD m noS))) _ from h2)
    rw [Nat.mul_one, Nat.add_zero] at h1
    rw [h1, h3]
  | _ => cases hx
theorem far_of {T e : TypeId} {b b2 off2 : Nat} {q v : Value} {bs : List Value} {w wr wa : World} {H H3 : HM} {l : List ByteArray} (hB : Bld T e b q v bs wr) (hs : Sealed H w) (hwb : w.heap.size ≤ b) (hold : b2 < wa.heap.size → H3 b2 off2 = H b2 off2)
    (hc : ∀ m, m < l.length → H3 b2 (off2 + m) = some (.string (l.getD m noS))) (hl : 0 < l.length) (hlt : wr.heap.size < wa.heap.size) : b2 ≠ b ∧ some b2 ≠ v.ownBlock := by
  have hbl := hB.lt
  by_cases h : b2 < wa.heap.size
  · have h1 := hc 0 hl
    rw [Nat.add_zero, hold h] at h1
    have h2 := World.block_lt_of_cell? w _ (hs _ _ _ h1)
    have h2 : b2 < w.heap.size := h2
    exact ⟨by omega, fun e => by have := (hB.own.lt b2 e.symm).1; omega⟩
  · exact ⟨by omega, fun e => by have := (hB.own.lt b2 e.symm).2; omega⟩
theorem text_args {H : HM} {c : Cls} {vs : Nat → Value} {a3 a4 a5 : Option Addr} {n3 k3 n4 k4 n5 k5 : Nat} (hG : ∀ j, j < 6 → G H noB noT (at' (clsC c) j .junk) (vs j))
    (he : vs 0 = .string c.name ∧ vs 1 = .bool c.iface ∧ vs 2 = .string c.super ∧ vs 3 = .slice a3 n3 k3 ∧ vs 4 = .slice a4 n4 k4 ∧ vs 5 = .slice a5 n5 k5) :
    ∀ j, j < (wordsK.enc c).length → G H noB noT (at' (wordsK.enc c) j .junk) ((#[Value.agg #[.string c.name, .bool c.iface, .string c.super, .slice a3 n3 k3, .slice a4 n4 k4, .slice a5 n5 k5]] : Array Value).getD j undef) := by
  intro j hj
  obtain rfl : j = 0 := by have : j < 1 := hj; omega
  refine .agg _ _ rfl fun i hi => ?_
  have hi : i < 6 := hi
  obtain ⟨e0, e1, e2, e3, e4, e5⟩ := he
  have := hG i hi
  match i, hi with
  | 0, _ => rw [e0] at this; exact this
  | 1, _ => rw [e1] at this; exact this
  | 2, _ => rw [e2] at this; exact this
  | 3, _ => rw [e3] at this; exact this
  | 4, _ => rw [e4] at this; exact this
  | 5, _ => rw [e5] at this; exact this
theorem u8_und : Tryd.prog.underlying 5 = some (.int .u8) := by kernel_rfl
/-- a text as a new row of bytes -/
theorem bytes_row {P : Program} {H : HM} {w : World} (hs : Sealed H w) (e : TypeId) (l : List UInt8) (k : Nat) :
    ∃ H', Below w.heap.size w (Lib.bytesWorld w e ⟨l.toArray⟩) ∧ HLe H H' ∧ (∀ b o, b < w.heap.size → H' b o = H b o) ∧ Sealed H' (Lib.bytesWorld w e ⟨l.toArray⟩) ∧
      ∀ c, (⟨l.toArray⟩ : ByteArray).size ≤ c → G H' noB noT (.row UInt8 1 byteC 0 l) (.slice (some ⟨w.heap.size, 0, none⟩) (⟨l.toArray⟩ : ByteArray).size c) := by
  have hlt : ∀ b o v, H b o = some v → b < w.heap.size := fun b o v e => World.block_lt_of_cell? w _ (hs b o v e)
  have hsz : (⟨l.toArray⟩ : ByteArray).size = l.length := by rw [← sz_len]
  refine ⟨fun b o => if b = w.heap.size ∧ o < l.length then some (.int .u8 ((l.getD o 0).toNat : Int)) else H b o, ⟨rfl, rfl, rfl, by rw [Lib.bytesWorld_size]; omega, fun k hk => Lib.bytesWorld_at_old w _ _ k hk⟩, ?_, ?_, ?_, ?_⟩
  · intro b o v h
    show (if _ then _ else _) = _
    rw [if_neg (fun c => by have := hlt b o v h; omega)]; exact h
  · intro b o h
    show (if _ then _ else _) = _
    rw [if_neg (fun c => by omega)]
  · intro b o v h
    by_cases c : b = w.heap.size ∧ o < l.length
    · have h : (if b = w.heap.size ∧ o < l.length then some (.int .u8 ((l.getD o 0).toNat : Int)) else H b o) = some v := h
      rw [if_pos c] at h
      rw [c.1, Lib.bytesWorld_cell w e _ o (by rw [hsz]; exact c.2), ← h]
    · have h : (if b = w.heap.size ∧ o < l.length then some (.int .u8 ((l.getD o 0).toNat : Int)) else H b o) = some v := h
      rw [if_neg c] at h
      rw [Lib.bytesWorld_old w e _ _ (hlt b o v h)]; exact hs b o v h
  · intro c hc
    rw [hsz] at hc ⊢
    refine .row UInt8 1 byteC 0 l w.heap.size 0 c (fun i j => .int .u8 ((l.getD i 0).toNat : Int)) hc (fun i _ => rfl) (fun i j hi hj => ?_) (fun i j hi hj => ?_)
    · obtain rfl : j = 0 := by omega
      show (if _ then _ else _) = _
      rw [if_pos ⟨rfl, by omega⟩, show 0 + i * 1 + 0 = i by omega]
    · obtain rfl : j = 0 := by omega
      exact .val _
set_option maxHeartbeats 4000000 in
set_option maxRecDepth 100000 in
theorem text_walk (p : List Cls) (H : HM) (w : World) (ad : Option Addr) (cap : Nat) (hd : prgD p) (hs : Sealed H w) (hgl : ∀ w', Sealed H w' → Shaped w w' → tabS w') (hsl : G H noB noT (prgR p) (.slice ad p.length cap)) (hrow : TextRow p H ad) :
    Calls Tryd.prog 7 #[.agg #[.slice ad p.length cap]] w (TextPost p H w) := by
  have hb1 : Below w.heap.size w (w.alloc (.cells #[.slice ad p.length cap] 24)) := (Below.refl _ _).alloc (Nat.le_refl _) _
  have cck := ctr_later ok_ok p (w1 := w.alloc (.cells #[.slice ad p.length cap] 24)) (vs := #[.agg #[.slice ad p.length cap]]) 0 hd hs hgl hb1 rfl (fun j hj => by
    obtain rfl : j = 0 := by have : j < 1 := hj; omega
    refine .agg _ _ rfl fun q hq => ?_
    obtain rfl : q = 0 := by have : q < 1 := hq; omega
    exact hsl)
  have HR := Lib.hid hrow
  clear hrow
  have hpl : p.length ≤ 100000 := hd.1
  go_enter Tryd.func7, Tryd.ntmps7
  go_wp2_with (go_at_call 14; refine cck.mono ?_)
  rintro e w2 ⟨v, H2, rfl, hb2, -, -, -, T2, hv⟩
  have hv : v = .int .i64 (if prgOk p then 0 else 4) := gval' hv
  subst hv
  have hb02 : Below w.heap.size w w2 := hb1.trans (hb2.mono (by simp))
  clear cck
  have hc2 : w2.cell? ⟨w.heap.size, 0, none⟩ = some (.slice ad p.length cap) := by
    rw [hb2.cell (p := ⟨w.heap.size, 0, none⟩) (by simp)]
    rw [World.cell?_alloc_new]; rfl
  by_cases hok : prgOk p = true
  · rw [if_pos hok]
    have hlt2 : w.heap.size < w2.heap.size := by have := hb2.size; simp at this; omega
    have hc3 : (w2.alloc (.cells #[.pointer none, .slice none 0 0] 58)).cell? ⟨w.heap.size, 0, none⟩ = some (.slice ad p.length cap) := by
      rw [← hc2]; simp only [World.cell?, Below.heap_alloc _ _ _ hlt2]
    go_wp2
    go_loopw [15] (TextRel p w w2.heap.size) (fun i _ => p.length - (intOf i).toNat)
    case atStart =>
      refine ⟨0, _, _, Nat.zero_le _, rfl, ⟨heap_alloc_new w2 _, World.ownsRowF_nil _ _ _ _, by simp [Value.ownBlock], .inl rfl⟩, hb02.alloc hb02.size _⟩
    case round =>
      obtain ⟨k, v, q, hk, rfl, hB, hbw⟩ := hrel
      by_cases hlt : k < p.length
      · obtain ⟨B, off, rfl, vs, hH, hG⟩ := HR.out k hlt
        have hc : ∀ j, j < 6 → wr.cell? ⟨B, off + k * 6 + j, none⟩ = some (vs j) := fun j hj => sealed_below hs hbw _ _ _ (hH j hj)
        obtain ⟨c, hce⟩ : ∃ c, c = p.getD k cls0 := ⟨_, rfl⟩
        rw [← hce] at hG
        have e0 : vs 0 = .string c.name := gval' (hG 0 (by omega))
        have e1 : vs 1 = .bool c.iface := gval' (hG 1 (by omega))
        have e2 : vs 2 = .string c.super := gval' (hG 2 (by omega))
        obtain ⟨a3, n3, k3, e3⟩ : ∃ a n c, vs 3 = .slice a n c := row_val (hG 3 (by omega))
        obtain ⟨a4, n4, k4, e4⟩ : ∃ a n c, vs 4 = .slice a n c := row_val (hG 4 (by omega))
        obtain ⟨a5, n5, k5, e5⟩ : ∃ a n c, vs 5 = .slice a n c := row_val (hG 5 (by omega))
        have c0 : wr.cell? ⟨B, off + k * 6, none⟩ = some (vs 0) := hc 0 (by omega)
        have c1 := hc 1 (by omega)
        have c2 := hc 2 (by omega)
        have c3 := hc 3 (by omega)
        have c4 := hc 4 (by omega)
        have c5 := hc 5 (by omega)
        rw [e0] at c0
        rw [e1] at c1
        rw [e2] at c2
        rw [e3] at c3
        rw [e4] at c4
        rw [e5] at c5
        have HE := Lib.hid (And.intro e0 (And.intro e1 (And.intro e2 (And.intro e3 (And.intro e4 e5)))))
        have HC := Lib.hid hc
        have HH := Lib.hid hH
        have HG := Lib.hid hG
        have HB := Lib.hid hB
        have HW := Lib.hid hbw
        have hcok : clsOk c = true := by rw [hce]; exact (prg_parts hok).2 _ (getT_mem p cls0 k hlt)
        have HCE := Lib.hid hce
        clear e0 e1 e2 e3 e4 e5 hc hH hG hB hbw hce
        have hlw : wr.heap.size < (wr.alloc (.cells #[.string c.name, .bool c.iface, .string c.super, .slice a3 n3 k3, .slice a4 n4 k4, .slice a5 n5 k5] 43)).heap.size := by simp
        have HA : Below wr.heap.size wr (wr.alloc (.cells #[.string c.name, .bool c.iface, .string c.super, .slice a3 n3 k3, .slice a4 n4 k4, .slice a5 n5 k5] 43)) := (Below.refl _ _).alloc (Nat.le_refl _) _
        go_wp2_with fail
        refine (ctr_later words_ok c (w := w) (H := H) 0 hcok hs hgl (HW.out.trans (HA.mono HW.out.size)) rfl (text_args HG.out HE.out)).mono ?_
        rintro e w3 ⟨v3, H3, rfl, hb3, -, hold3, hseal3, T3, hv3⟩
        have hB3 : Bld 58 5 w2.heap.size q v (Lib.byteCells ((p.take k).flatMap textC)) w3 := bld_below HB.out (HA.trans (hb3.mono (Nat.le_of_lt hlw)))
        have hbw3 : Below w.heap.size w w3 := HW.out.trans ((HA.mono HW.out.size).trans (hb3.mono (by have := HW.out.size; omega)))
        obtain ⟨b2, off2, cap2, rfl, hcell⟩ := words_cells (wordsC_ne c) hv3
        have hfar : b2 ≠ w2.heap.size ∧ some b2 ≠ v.ownBlock := far_of HB.out hs hb02.size (hold3 b2 off2) hcell (wordsC_ne c) hlw
        have HK := Lib.hid (show ∀ wq v', Aside w2.heap.size v v' w3 wq → ∀ m, m < (wordsC c).length → wq.cell? ⟨b2, off2 + m, none⟩ = some (.string ((wordsC c).getD m noS)) from fun wq v' ha m hm => by
          have h1 := hseal3 _ _ _ (hcell m hm)
          have h2 := World.block_lt_of_cell? w3 _ h1
          rw [← h1]
          simp only [World.cell?, ha.keep b2 h2 hfar.1 hfar.2])
        have HB3 := Lib.hid hB3
        have HW3 := Lib.hid hbw3
        have hwl : (wordsC c).length ≤ 2500 := wordsC_len hcok
        have HL := Lib.hid (show ∀ m s, s = (wordsC c).getD m noS → ((p.take k).flatMap textC ++ ((wordsC c).take m).flatMap putW).length + s.size ≤ 100000000 from fun m s hs => by
          have h1 := textP_len hok k
          have h2 := putW_flat ((wordsC c).take m) (fun x hx => cls_tok hcok x (List.mem_of_mem_take hx))
          have h3 : ((wordsC c).take m).length ≤ (wordsC c).length := by rw [List.length_take]; omega
          have h4 := wordsC_len hcok
          have h5 : s.size ≤ 21 := by
            rw [hs, ← sz_len]
            by_cases hm : m < (wordsC c).length
            · exact tokB_len (cls_tok hcok _ (getT_mem _ noS m hm))
            · simp [List.getD, List.getElem?_eq_none (by omega : (wordsC c).length ≤ m), noS]
          rw [List.length_append]; omega)
        clear hB3 hbw3 hcell hfar hold3 hseal3 hv3 hb3 hlw
        go_wp2
        go_loopw [22] (TextRel2 (wordsC c) ((p.take k).flatMap textC) v w3 w2.heap.size) (fun j _ => (wordsC c).length - (intOf j).toNat)
        case atStart => exact ⟨0, v, q, Nat.zero_le _, rfl, by simpa using HB3.out, Aside.refl _ _ _⟩
        case round =>
          obtain ⟨m, v', q', hm, rfl, hB4, ha4⟩ := hrel
          by_cases hmt : m < (wordsC c).length
          · have d0 := HK.out _ _ ha4 m hmt
            have HB4 := Lib.hid hB4
            have HA4 := Lib.hid ha4
            clear hB4 ha4
            obtain ⟨s, hse⟩ : ∃ s, s = (wordsC c).getD m noS := ⟨_, rfl⟩
            rw [← hse] at d0
            have HS := Lib.hid hse
            clear hse
            go_wp2_with fail
            refine (bstring s HB4.out (by rw [Lib.byteCells_length]; exact Nat.le_trans (HL.out m s HS.out) (by omega))).mono ?_
            rintro e w5 ⟨rfl, v5, hB5, ha5⟩
            have HB5 := Lib.hid hB5
            have HA5 := Lib.hid ha5
            clear hB5 ha5
            go_wp2_with fail
            all_goals
              refine (bbyte _ HB5.out (by rw [List.length_append, Lib.byteCells_length, Lib.strCells_length]; have := HL.out m s HS.out; omega)).mono ?_
              rintro e w6 ⟨rfl, v6, hB6, ha6⟩
              first
                | have hsp : sepOf s = 10 := (sep_eq s).1 (by first | exact .inl ‹_› | exact .inr (.inl ‹_›) | (have hx := ‹((s.toList == [123]) = true ∨ (s.toList == [125]) = true) ∨ (s.toList == [59]) = true›; simpa [or_assoc] using hx))
                | have hsp : sepOf s = 32 := (sep_eq s).2 (by have hx := ‹((s.toList == [123]) = false ∧ (s.toList == [125]) = false) ∧ (s.toList == [59]) = false›; simpa [and_assoc] using hx)
              rw [cells_put _ _ m hmt HS.out (by rw [hsp]; rfl)] at hB6
              have HB6 := Lib.hid hB6
              have HA6 := Lib.hid ha6
              have HSP := Lib.hid hsp
              clear hB6 ha6 hsp
              go_wp2
              go_roundw
              case rel => exact ⟨m + 1, v6, _, by omega, by go_num, HB6.out, HA4.out.trans (HA5.out.trans HA6.out)⟩
              case measure => simp [intOf]; omega
          · have hme : m = (wordsC c).length := by omega
            have HB4 := Lib.hid hB4
            have HA4 := Lib.hid ha4
            have HME := Lib.hid hme
            clear hB4 ha4 hme
            go_wp2
            go_roundw
            case rel =>
              refine ⟨k + 1, v', q', by omega, by go_num, ?_, ?_⟩
              · have := HB4.out
                rw [HME.out, List.take_length] at this
                rw [flat_snoc textC p cls0 k hlt, ← HCE.out]
                exact this
              · exact HW3.out.trans (HA4.out.below.mono hb02.size)
            case measure => simp [intOf]; omega
      · have hke : k = p.length := by omega
        have htxt : (p.take k).flatMap textC = textP p := by rw [hke, List.take_length]; rfl
        rw [htxt] at hB
        have cLen : Calls Tryd.prog 18 #[.pointer (some ⟨w2.heap.size, 0, none⟩)] wr fun e w' => e = .returned (.int .i64 (textP p).length) ∧ w' = wr := by
          refine (Tryd.Builder_Len_f w2.heap.size w2.heap.size _ _ hB.isF).mono ?_
          rintro e w' ⟨rfl, h⟩
          rw [Lib.byteCells_length]; exact ⟨rfl, h⟩
        have cStr := Tryd.Builder_String_any_k w2.heap.size w2.heap.size (textP p) _ hB.isF (Nat.le_of_lt hB.lt)
        have hbig2 := textP_len hok k
        rw [htxt] at hbig2
        have HB := Lib.hid hB
        have HW := Lib.hid hbw
        have HKE := Lib.hid hke
        clear hB hbw hke htxt
        go_wp2_with fail
        refine cLen.mono ?_
        rintro e w4 ⟨rfl, rfl⟩
        by_cases hbig : 6000 < (textP p).length
        · go_wp2
          go_ret2
          refine ⟨_, H, rfl, HW.out, .refl _, fun _ _ _ => rfl, sealed_below hs HW.out, ?_⟩
          have e : showF p = ([], 2) := by unfold showF; rw [if_pos hok, if_pos hbig]
          show G H noB noT (.tup [.row UInt8 1 byteC 0 (showF p).1, I (showF p).2]) _
          rw [e]
          refine .tup _ _ rfl fun j hj => ?_
          match j, hj with
          | 0, _ => exact .rowE ..
          | 1, _ => exact .val _
        · go_wp2_with fail
          refine cStr.mono ?_
          rintro e w5 ⟨rfl, -, hb5, -⟩
          have hconv := Lib.run_convert_string_bytes (P := Tryd.prog) w5 9 26 5 ⟨(textP p).toArray⟩ str_und bytes_und u8_und
          have hb05 : Below w.heap.size w w5 := HW.out.trans (hb5.mono hb02.size)
          have HW5 := Lib.hid hb05
          clear hb05 hb5
          go_wp2
          go_ret2
          obtain ⟨H', hbn, hle, hold, hseal, hrow'⟩ := bytes_row (P := Tryd.prog) (sealed_below hs HW5.out) 5 (textP p) 0
          refine ⟨_, H', rfl, HW5.out.trans (hbn.mono HW5.out.size), hle, fun b o h => hold b o (by have := HW5.out.size; omega), hseal, ?_⟩
          have e : showF p = (textP p, 0) := by unfold showF; rw [if_pos hok, if_neg hbig]
          show G H' noB noT (.tup [.row UInt8 1 byteC 0 (showF p).1, I (showF p).2]) _
          rw [e]
          refine .tup _ _ rfl fun j hj => ?_
          match j, hj with
          | 0, _ => exact hrow' _ (grownCap_ge _ _ _ _)
          | 1, _ => exact .val _
  · rw [if_neg hok]
    go_wp2
    go_ret2
    refine ⟨_, H, rfl, hb02, .refl _, fun _ _ _ => rfl, sealed_below hs hb02, ?_⟩
    have e : showF p = ([], 4) := by unfold showF; rw [if_neg hok]
    show G H noB noT (.tup [.row UInt8 1 byteC 0 (showF p).1, I (showF p).2]) _
    rw [e]
    refine .tup _ _ rfl fun j hj => ?_
    match j, hj with
    | 0, _ => exact .rowE ..
    | 1, _ => exact .val _
theorem row_cells' {H : HM} {X : Type} {sz : Nat} {cs : X → List SV} {d : X} {l : List X} {v : Value} (h : G H noB noT (.row X sz cs d l) v) :
    ∃ ad cap, v = .slice ad l.length cap ∧ ∀ k, k < l.length → ∃ B off, ad = some ⟨B, off, none⟩ ∧ ∃ vs : Nat → Value, (∀ j, j < sz → H B (off + k * sz + j) = some (vs j)) ∧ ∀ j, j < sz → G H noB noT (at' (cs (l.getD k d)) j .junk) (vs j) := by
  cases h with
  | rowE _ _ _ _ a c => exact ⟨a, c, rfl, fun k hk => by simp at hk⟩
  | row _ _ _ _ _ b off c vs hc hz hH hG => exact ⟨_, c, rfl, fun k hk => ⟨b, off, rfl, vs k, fun j hj => hH k j hk hj, fun j hj => hG k j hk hj⟩⟩
theorem text_ok : CtrSound Tryd.prog 7 textK := by
  refine ⟨⟨_, Tryd.func7, by kernel_rfl, by kernel_rfl⟩, fun p H w vs id hd hs hgl hn hg => ?_⟩
  obtain ⟨v, rfl, h1⟩ := args1 hn hg
  cases h1 with
  | agg _ us hu hgu =>
    obtain ⟨us⟩ := us
    match us, hu with
    | [u], _ =>
      have h2 : G H noB noT (prgR p) u := hgu 0 (Nat.succ_pos _)
      obtain ⟨ad, cap, rfl, h3⟩ := row_cells' h2
      refine (text_walk p H w ad cap hd hs (fun w' a b => hgl w' a b) h2 h3).mono ?_
      rintro e w' ⟨v, H', rfl, q1, q2, q3, q4, q5⟩
      exact ⟨v, H', noT, rfl, q1, q2, q3, fun _ _ _ h => (by cases h), fun b o u hu => ⟨q4 b o u hu, rfl⟩, q5, fun h => by cases h⟩
end Go.Proofs.YtadimoijlgmecaaDoor.Ax
/- Layers parse and show: what is more than is played. PRINTED by wip/sp/sq.py. -/
set_option linter.unusedVariables false
set_option linter.unusedSimpArgs false
namespace Go.Proofs.YtadimoijlgmecaaDoor.Ax
open Go Go.RowKit
def insH (x : Ins) : Bool := decide (x.a.size ≤ 60) && decide (x.b.size ≤ 60)
def tyH (t : Ty) : Bool := decide (t.2.size ≤ 60)
def catH (c : Cat) : Bool := decide (c.name.size ≤ 60)
def strH (s : ByteArray) : Bool := decide (s.size ≤ 60)
def fldH (f : Fld) : Bool := decide (f.name.size ≤ 60) && decide (f.type.2.size ≤ 60)
def methH0 (m : Meth) : Bool := decide (m.name.size ≤ 60) && (decide (m.params.length ≤ 10) && (decide (m.code.length ≤ 60) && (decide (m.catches.length ≤ 10) && decide (m.ret.2.size ≤ 60))))
def methH (m : Meth) : Bool := methH0 m && (m.code.all insH && (m.params.all tyH && m.catches.all catH))
def clsH0 (c : Cls) : Bool := decide (c.fields.length ≤ 14) && (decide (c.methods.length ≤ 14) && (decide (c.ifaces.length ≤ 10) && (decide (c.name.size ≤ 60) && decide (c.super.size ≤ 60))))
def clsH (c : Cls) : Bool := clsH0 c && (c.fields.all fldH && (c.ifaces.all strH && c.methods.all methH))
def prgH (p : List Cls) : Bool := decide (p.length ≤ 14) && p.all clsH
def heavyC : Ctr := { A := List Cls, enc := fun p => [.agg [prgR p]], dom := fun _ => True, res := fun p _ => B (!prgH p) }
theorem gtT {n : Nat} {k : Int} {m : Nat} (h : decide ((n : Int) > k) = true) (hk : k = m) : decide (n ≤ m) = false := by
  have := of_decide_eq_true h; exact decide_eq_false (by omega)
theorem gtF {n : Nat} {k : Int} {m : Nat} (h : decide ((n : Int) > k) = false) (hk : k = m) : decide (n ≤ m) = true := by
  have := of_decide_eq_false h; exact decide_eq_true (by omega)
theorem all_bad {α : Type} (l : List α) (d : α) (p : α → Bool) (i : Nat) (h : i < l.length) (hb : p (l.getD i d) = false) : l.all p = false := by
  cases hc : l.all p with
  | false => rfl
  | true => have := List.all_eq_true.1 hc _ (getT_mem l d i h); rw [hb] at this; cases this
set_option maxRecDepth 100000 in
set_option maxHeartbeats 8000000 in
theorem heavy_ok : CtrSound Tryd.prog 6 heavyC :=
  ctr_of_ax (env_ok tys_ok (eqs := []) trivial (cs := []) trivial) mixed _ Tryd.func6 (by kernel_rfl) rfl (fun _ _ => Nat.le_of_ble_eq_true rfl) fun (p : List Cls) id hd => by
    have bad0 : p.all clsH = false → (!prgH p) = true := fun h => by unfold prgH; rw [h]; simp
    refine ⟨fun h => ⟨.btt (by unfold prgH; rw [gtT h (m := 14) rfl]; rfl), rfl⟩, fun hp14 => ?_⟩
    have hp14' := of_decide_eq_true (gtF hp14 (m := 14) rfl)
    refine ⟨Nat, fun i => [(1, .box 1 0), (3, I i)], fun _ => [(1, [prgR p])], fun i => i ≤ p.length ∧ (p.take i).all clsH = true, fun i => p.length - i, ⟨0, ⟨Nat.zero_le _, rfl⟩, ⟨⟨rfl, rfl⟩, .refl _, .refl _, ⟨.refl _, trivial⟩, trivial⟩⟩, fun (i : Nat) hi => ?_⟩
    have hi1 : i ≤ p.length := hi.1
    have hi2 : (p.take i).all clsH = true := hi.2
    have hwi : IntKind.i64.wrap ((i : Int) + 1) = ((i + 1 : Nat) : Int) := by rw [wrap_eq _ (by omega) (by omega)]; omega
    refine ⟨fun h => ?_, fun h => ?_⟩
    · have hlt : i < p.length := by have := of_decide_eq_true h; omega
      have bad1 : clsH (p.getD i cls0) = false → (!prgH p) = true := fun h => bad0 (all_bad p cls0 clsH i hlt h)
      refine ⟨⟨by omega, by omega⟩, ?_⟩
      refine ⟨fun h => ⟨.btt (bad1 (by unfold clsH clsH0; rw [gtT (n := (p.getD i cls0).fields.length) h (m := 14) rfl]; rfl)), rfl⟩, fun g1 => ⟨fun h => ⟨.btt (bad1 (by unfold clsH clsH0; rw [gtT (n := (p.getD i cls0).methods.length) h (m := 14) rfl]; simp)), rfl⟩, fun g2 => ⟨fun h => ⟨.btt (bad1 (by unfold clsH clsH0; rw [gtT (n := (p.getD i cls0).ifaces.length) h (m := 10) rfl]; simp)), rfl⟩,
        fun g3 => ⟨fun h => ⟨.btt (bad1 (by unfold clsH clsH0; rw [gtT (n := (p.getD i cls0).name.size) h (m := 60) rfl]; simp)), rfl⟩, fun g4 => ⟨fun h => ⟨.btt (bad1 (by unfold clsH clsH0; rw [gtT (n := (p.getD i cls0).super.size) h (m := 60) rfl]; simp)), rfl⟩, fun g5 => ?_⟩⟩⟩⟩⟩
      have hc0 : clsH0 (p.getD i cls0) = true := by unfold clsH0; rw [gtF (n := (p.getD i cls0).fields.length) g1 (m := 14) rfl, gtF (n := (p.getD i cls0).methods.length) g2 (m := 14) rfl, gtF (n := (p.getD i cls0).ifaces.length) g3 (m := 10) rfl, gtF (n := (p.getD i cls0).name.size) g4 (m := 60) rfl, gtF (n := (p.getD i cls0).super.size) g5 (m := 60) rfl]; rfl
      have l1 := of_decide_eq_true (gtF (n := (p.getD i cls0).fields.length) g1 (m := 14) rfl)
      have l2 := of_decide_eq_true (gtF (n := (p.getD i cls0).methods.length) g2 (m := 14) rfl)
      have l3 := of_decide_eq_true (gtF (n := (p.getD i cls0).ifaces.length) g3 (m := 10) rfl)
      have hbf : (p.getD i cls0).fields.all fldH = false → clsH (p.getD i cls0) = false := fun h => by unfold clsH; rw [h]; simp
      have hbs : (p.getD i cls0).ifaces.all strH = false → clsH (p.getD i cls0) = false := fun h => by unfold clsH; rw [h]; simp
      refine ⟨Nat, fun k => [(1, .box 1 0), (3, I i), (5, I k), (4, .box 4 0)], fun _ => [(1, [prgR p]), (4, clsC (p.getD i cls0))], fun k => k ≤ (p.getD i cls0).fields.length ∧ ((p.getD i cls0).fields.take k).all fldH = true, fun k => (p.getD i cls0).fields.length - k, ⟨0, ⟨Nat.zero_le _, rfl⟩, ⟨⟨rfl, rfl⟩, .refl _, .refl _, .refl _, .refl _, ⟨.refl _, trivial⟩, ⟨.refl _, .refl _, .refl _, .refl _, .refl _, .refl _, trivial⟩, trivial⟩⟩, fun (k : Nat) hk => ?_⟩
      have hk1 : k ≤ (p.getD i cls0).fields.length := hk.1
      have hk2 : ((p.getD i cls0).fields.take k).all fldH = true := hk.2
      have hwk : IntKind.i64.wrap ((k : Int) + 1) = ((k + 1 : Nat) : Int) := by rw [wrap_eq _ (by omega) (by omega)]; omega
      refine ⟨fun h => ?_, fun h => ?_⟩
      · have hltk : k < (p.getD i cls0).fields.length := by have := of_decide_eq_true h; omega
        refine ⟨⟨by omega, by omega⟩, ?_⟩
        refine ⟨fun h => ⟨.btt (bad1 <| hbf (all_bad _ fld0 _ k hltk (by unfold fldH; rw [gtT (n := ((p.getD i cls0).fields.getD k fld0).name.size) h (m := 60) rfl]; rfl))), rfl⟩, fun f1 => ⟨⟨by omega, by omega⟩, fun h => ⟨.btt (bad1 <| hbf (all_bad _ fld0 _ k hltk (by unfold fldH; rw [gtT (n := ((p.getD i cls0).fields.getD k fld0).type.2.size) h (m := 60) rfl]; simp))), rfl⟩, fun f2 => ?_⟩⟩
        exact ⟨k + 1, ⟨hltk, by rw [allT _ fld0 _ _ hltk, hk2]; exact (by unfold fldH; rw [gtF (n := ((p.getD i cls0).fields.getD k fld0).name.size) f1 (m := 60) rfl, gtF (n := ((p.getD i cls0).fields.getD k fld0).type.2.size) f2 (m := 60) rfl]; rfl)⟩, by show (p.getD i cls0).fields.length - (k + 1) < (p.getD i cls0).fields.length - k; omega, ⟨rfl, rfl⟩, .refl _, .refl _, .int hwk, .refl _, ⟨.refl _, trivial⟩, ⟨.refl _, .refl _, .refl _, .refl _, .refl _, .refl _, trivial⟩, trivial⟩
      have hgek : k = (p.getD i cls0).fields.length := by have := of_decide_eq_false h; omega
      rw [hgek, List.take_length] at hk2
      have hfl := hk2
      clear hk hk1 hk2 hwk hgek
      refine ⟨Nat, fun k => [(1, .box 1 0), (3, I i), (4, .box 4 0), (6, I k)], fun _ => [(1, [prgR p]), (4, clsC (p.getD i cls0))], fun k => k ≤ (p.getD i cls0).ifaces.length ∧ ((p.getD i cls0).ifaces.take k).all strH = true, fun k => (p.getD i cls0).ifaces.length - k, ⟨0, ⟨Nat.zero_le _, rfl⟩, ⟨⟨rfl, rfl⟩, .refl _, .refl _, .refl _, .refl _, ⟨.refl _, trivial⟩, ⟨.refl _, .refl _, .refl _, .refl _, .refl _, .refl _, trivial⟩, trivial⟩⟩, fun (k : Nat) hk => ?_⟩
      have hk1 : k ≤ (p.getD i cls0).ifaces.length := hk.1
      have hk2 : ((p.getD i cls0).ifaces.take k).all strH = true := hk.2
      have hwk : IntKind.i64.wrap ((k : Int) + 1) = ((k + 1 : Nat) : Int) := by rw [wrap_eq _ (by omega) (by omega)]; omega
      refine ⟨fun h => ?_, fun h => ?_⟩
      · have hltk : k < (p.getD i cls0).ifaces.length := by have := of_decide_eq_true h; omega
        refine ⟨⟨by omega, by omega⟩, ?_⟩
        refine ⟨fun h => ⟨.btt (bad1 <| hbs (all_bad _ noS _ k hltk (by unfold strH; exact gtT (n := ((p.getD i cls0).ifaces.getD k noS).size) h (m := 60) rfl))), rfl⟩, fun f1 => ?_⟩
        exact ⟨k + 1, ⟨hltk, by rw [allT _ noS _ _ hltk, hk2]; exact (by unfold strH; exact gtF (n := ((p.getD i cls0).ifaces.getD k noS).size) f1 (m := 60) rfl)⟩, by show (p.getD i cls0).ifaces.length - (k + 1) < (p.getD i cls0).ifaces.length - k; omega, ⟨rfl, rfl⟩, .refl _, .refl _, .refl _, .int hwk, ⟨.refl _, trivial⟩, ⟨.refl _, .refl _, .refl _, .refl _, .refl _, .refl _, trivial⟩, trivial⟩
      have hgek : k = (p.getD i cls0).ifaces.length := by have := of_decide_eq_false h; omega
      rw [hgek, List.take_length] at hk2
      have hif := hk2
      clear hk hk1 hk2 hwk hgek
      refine ⟨Nat, fun k => [(1, .box 1 0), (3, I i), (7, I k), (4, .box 4 0)], fun _ => [(1, [prgR p]), (4, clsC (p.getD i cls0))], fun k => k ≤ (p.getD i cls0).methods.length ∧ ((p.getD i cls0).methods.take k).all methH = true, fun k => (p.getD i cls0).methods.length - k, ⟨0, ⟨Nat.zero_le _, rfl⟩, ⟨⟨rfl, rfl⟩, .refl _, .refl _, .refl _, .refl _, ⟨.refl _, trivial⟩, ⟨.refl _, .refl _, .refl _, .refl _, .refl _, .refl _, trivial⟩, trivial⟩⟩, fun (k : Nat) hk => ?_⟩
      have hk1 : k ≤ (p.getD i cls0).methods.length := hk.1
      have hk2 : ((p.getD i cls0).methods.take k).all methH = true := hk.2
      have hwk : IntKind.i64.wrap ((k : Int) + 1) = ((k + 1 : Nat) : Int) := by rw [wrap_eq _ (by omega) (by omega)]; omega
      refine ⟨fun h => ?_, fun h => ?_⟩
      · have hltk : k < (p.getD i cls0).methods.length := by have := of_decide_eq_true h; omega
        refine ⟨⟨by omega, by omega⟩, ?_⟩
        have bad3 : methH ((p.getD i cls0).methods.getD k meth0) = false → (!prgH p) = true := fun h => bad1 (by
          have := all_bad (p.getD i cls0).methods meth0 methH k hltk h
          unfold clsH; rw [this]; simp)
        have hbi : ((p.getD i cls0).methods.getD k meth0).code.all insH = false → methH ((p.getD i cls0).methods.getD k meth0) = false := fun h => by unfold methH; rw [h]; simp
        have hbp : ((p.getD i cls0).methods.getD k meth0).params.all tyH = false → methH ((p.getD i cls0).methods.getD k meth0) = false := fun h => by unfold methH; rw [h]; simp
        have hbc : ((p.getD i cls0).methods.getD k meth0).catches.all catH = false → methH ((p.getD i cls0).methods.getD k meth0) = false := fun h => by unfold methH; rw [h]; simp
        refine ⟨fun h => ⟨.btt (bad3 (by unfold methH methH0; rw [gtT (n := ((p.getD i cls0).methods.getD k meth0).name.size) h (m := 60) rfl]; rfl)), rfl⟩, fun g1 => ⟨fun h => ⟨.btt (bad3 (by unfold methH methH0; rw [gtT (n := ((p.getD i cls0).methods.getD k meth0).params.length) h (m := 10) rfl]; simp)), rfl⟩, fun g2 => ⟨fun h => ⟨.btt (bad3 (by unfold methH methH0; rw [gtT (n := ((p.getD i cls0).methods.getD k meth0).code.length) h (m := 60) rfl]; simp)), rfl⟩,
          fun g3 => ⟨fun h => ⟨.btt (bad3 (by unfold methH methH0; rw [gtT (n := ((p.getD i cls0).methods.getD k meth0).catches.length) h (m := 10) rfl]; simp)), rfl⟩, fun g4 => ⟨fun h => ⟨.btt (bad3 (by unfold methH methH0; rw [gtT (n := ((p.getD i cls0).methods.getD k meth0).ret.2.size) h (m := 60) rfl]; simp)), rfl⟩, fun g5 => ?_⟩⟩⟩⟩⟩
        have hm0 : methH0 ((p.getD i cls0).methods.getD k meth0) = true := by unfold methH0; rw [gtF (n := ((p.getD i cls0).methods.getD k meth0).name.size) g1 (m := 60) rfl, gtF (n := ((p.getD i cls0).methods.getD k meth0).params.length) g2 (m := 10) rfl, gtF (n := ((p.getD i cls0).methods.getD k meth0).code.length) g3 (m := 60) rfl, gtF (n := ((p.getD i cls0).methods.getD k meth0).catches.length) g4 (m := 10) rfl, gtF (n := ((p.getD i cls0).methods.getD k meth0).ret.2.size) g5 (m := 60) rfl]; rfl
        have n2 := of_decide_eq_true (gtF (n := ((p.getD i cls0).methods.getD k meth0).params.length) g2 (m := 10) rfl)
        have n3 := of_decide_eq_true (gtF (n := ((p.getD i cls0).methods.getD k meth0).code.length) g3 (m := 60) rfl)
        have n4 := of_decide_eq_true (gtF (n := ((p.getD i cls0).methods.getD k meth0).catches.length) g4 (m := 10) rfl)
        refine ⟨Nat, fun q => [(1, .box 1 0), (3, I i), (7, I k), (9, I q), (4, .box 4 0), (8, .box 8 0)], fun _ => [(1, [prgR p]), (4, clsC (p.getD i cls0)), (8, methC ((p.getD i cls0).methods.getD k meth0))], fun q => q ≤ ((p.getD i cls0).methods.getD k meth0).code.length ∧ (((p.getD i cls0).methods.getD k meth0).code.take q).all insH = true, fun q => ((p.getD i cls0).methods.getD k meth0).code.length - q, ⟨0, ⟨Nat.zero_le _, rfl⟩, ⟨⟨rfl, rfl⟩, .refl _, .refl _, .refl _, .refl _, .refl _, .refl _, ⟨.refl _, trivial⟩, ⟨.refl _, .refl _, .refl _, .refl _, .refl _, .refl _, trivial⟩, ⟨.refl _, .refl _, .refl _, .refl _, .refl _, .refl _, .refl _, .refl _, .refl _, trivial⟩, trivial⟩⟩, fun (q : Nat) hq => ?_⟩
        have hq1 : q ≤ ((p.getD i cls0).methods.getD k meth0).code.length := hq.1
        have hq2 : (((p.getD i cls0).methods.getD k meth0).code.take q).all insH = true := hq.2
        have hwq : IntKind.i64.wrap ((q : Int) + 1) = ((q + 1 : Nat) : Int) := by rw [wrap_eq _ (by omega) (by omega)]; omega
        refine ⟨fun h => ?_, fun h => ?_⟩
        · have hltq : q < ((p.getD i cls0).methods.getD k meth0).code.length := by have := of_decide_eq_true h; omega
          refine ⟨⟨by omega, by omega⟩, ?_⟩
          refine ⟨fun h => ⟨.btt (bad3 <| hbi (all_bad _ ins0 _ q hltq (by unfold insH; rw [gtT (n := (((p.getD i cls0).methods.getD k meth0).code.getD q ins0).a.size) h (m := 60) rfl]; rfl))), rfl⟩, fun f1 => ⟨⟨by omega, by omega⟩, fun h => ⟨.btt (bad3 <| hbi (all_bad _ ins0 _ q hltq (by unfold insH; rw [gtT (n := (((p.getD i cls0).methods.getD k meth0).code.getD q ins0).b.size) h (m := 60) rfl]; simp))), rfl⟩, fun f2 => ?_⟩⟩
          exact ⟨q + 1, ⟨hltq, by rw [allT _ ins0 _ _ hltq, hq2]; exact (by unfold insH; rw [gtF (n := (((p.getD i cls0).methods.getD k meth0).code.getD q ins0).a.size) f1 (m := 60) rfl, gtF (n := (((p.getD i cls0).methods.getD k meth0).code.getD q ins0).b.size) f2 (m := 60) rfl]; rfl)⟩, by show ((p.getD i cls0).methods.getD k meth0).code.length - (q + 1) < ((p.getD i cls0).methods.getD k meth0).code.length - q; omega, ⟨rfl, rfl⟩, .refl _, .refl _, .refl _, .int hwq, .refl _, .refl _, ⟨.refl _, trivial⟩, ⟨.refl _, .refl _, .refl _, .refl _, .refl _, .refl _, trivial⟩, ⟨.refl _, .refl _, .refl _, .refl _, .refl _, .refl _, .refl _, .refl _, .refl _, trivial⟩, trivial⟩
        have hgeq : q = ((p.getD i cls0).methods.getD k meth0).code.length := by have := of_decide_eq_false h; omega
        rw [hgeq, List.take_length] at hq2
        have hcode := hq2
        clear hq hq1 hq2 hwq hgeq
        refine ⟨Nat, fun q => [(1, .box 1 0), (3, I i), (7, I k), (4, .box 4 0), (8, .box 8 0), (10, I q)], fun _ => [(1, [prgR p]), (4, clsC (p.getD i cls0)), (8, methC ((p.getD i cls0).methods.getD k meth0))], fun q => q ≤ ((p.getD i cls0).methods.getD k meth0).params.length ∧ (((p.getD i cls0).methods.getD k meth0).params.take q).all tyH = true, fun q => ((p.getD i cls0).methods.getD k meth0).params.length - q, ⟨0, ⟨Nat.zero_le _, rfl⟩, ⟨⟨rfl, rfl⟩, .refl _, .refl _, .refl _, .refl _, .refl _, .refl _, ⟨.refl _, trivial⟩, ⟨.refl _, .refl _, .refl _, .refl _, .refl _, .refl _, trivial⟩, ⟨.refl _, .refl _, .refl _, .refl _, .refl _, .refl _, .refl _, .refl _, .refl _, trivial⟩, trivial⟩⟩, fun (q : Nat) hq => ?_⟩
        have hq1 : q ≤ ((p.getD i cls0).methods.getD k meth0).params.length := hq.1
        have hq2 : (((p.getD i cls0).methods.getD k meth0).params.take q).all tyH = true := hq.2
        have hwq : IntKind.i64.wrap ((q : Int) + 1) = ((q + 1 : Nat) : Int) := by rw [wrap_eq _ (by omega) (by omega)]; omega
        refine ⟨fun h => ?_, fun h => ?_⟩
        · have hltq : q < ((p.getD i cls0).methods.getD k meth0).params.length := by have := of_decide_eq_true h; omega
          refine ⟨⟨by omega, by omega⟩, ?_⟩
          refine ⟨fun h => ⟨.btt (bad3 <| hbp (all_bad _ ty0 _ q hltq (by unfold tyH; exact gtT (n := (((p.getD i cls0).methods.getD k meth0).params.getD q ty0).2.size) h (m := 60) rfl))), rfl⟩, fun f1 => ?_⟩
          exact ⟨q + 1, ⟨hltq, by rw [allT _ ty0 _ _ hltq, hq2]; exact (by unfold tyH; exact gtF (n := (((p.getD i cls0).methods.getD k meth0).params.getD q ty0).2.size) f1 (m := 60) rfl)⟩, by show ((p.getD i cls0).methods.getD k meth0).params.length - (q + 1) < ((p.getD i cls0).methods.getD k meth0).params.length - q; omega, ⟨rfl, rfl⟩, .refl _, .refl _, .refl _, .refl _, .refl _, .int hwq, ⟨.refl _, trivial⟩, ⟨.refl _, .refl _, .refl _, .refl _, .refl _, .refl _, trivial⟩, ⟨.refl _, .refl _, .refl _, .refl _, .refl _, .refl _, .refl _, .refl _, .refl _, trivial⟩, trivial⟩
        have hgeq : q = ((p.getD i cls0).methods.getD k meth0).params.length := by have := of_decide_eq_false h; omega
        rw [hgeq, List.take_length] at hq2
        have hpar := hq2
        clear hq hq1 hq2 hwq hgeq
        refine ⟨Nat, fun q => [(1, .box 1 0), (3, I i), (7, I k), (11, I q), (4, .box 4 0), (8, .box 8 0)], fun _ => [(1, [prgR p]), (4, clsC (p.getD i cls0)), (8, methC ((p.getD i cls0).methods.getD k meth0))], fun q => q ≤ ((p.getD i cls0).methods.getD k meth0).catches.length ∧ (((p.getD i cls0).methods.getD k meth0).catches.take q).all catH = true, fun q => ((p.getD i cls0).methods.getD k meth0).catches.length - q, ⟨0, ⟨Nat.zero_le _, rfl⟩, ⟨⟨rfl, rfl⟩, .refl _, .refl _, .refl _, .refl _, .refl _, .refl _, ⟨.refl _, trivial⟩, ⟨.refl _, .refl _, .refl _, .refl _, .refl _, .refl _, trivial⟩, ⟨.refl _, .refl _, .refl _, .refl _, .refl _, .refl _, .refl _, .refl _, .refl _, trivial⟩, trivial⟩⟩, fun (q : Nat) hq => ?_⟩
        have hq1 : q ≤ ((p.getD i cls0).methods.getD k meth0).catches.length := hq.1
        have hq2 : (((p.getD i cls0).methods.getD k meth0).catches.take q).all catH = true := hq.2
        have hwq : IntKind.i64.wrap ((q : Int) + 1) = ((q + 1 : Nat) : Int) := by rw [wrap_eq _ (by omega) (by omega)]; omega
        refine ⟨fun h => ?_, fun h => ?_⟩
        · have hltq : q < ((p.getD i cls0).methods.getD k meth0).catches.length := by have := of_decide_eq_true h; omega
          refine ⟨⟨by omega, by omega⟩, ?_⟩
          refine ⟨fun h => ⟨.btt (bad3 <| hbc (all_bad _ cat0 _ q hltq (by unfold catH; exact gtT (n := (((p.getD i cls0).methods.getD k meth0).catches.getD q cat0).name.size) h (m := 60) rfl))), rfl⟩, fun f1 => ?_⟩
          exact ⟨q + 1, ⟨hltq, by rw [allT _ cat0 _ _ hltq, hq2]; exact (by unfold catH; exact gtF (n := (((p.getD i cls0).methods.getD k meth0).catches.getD q cat0).name.size) f1 (m := 60) rfl)⟩, by show ((p.getD i cls0).methods.getD k meth0).catches.length - (q + 1) < ((p.getD i cls0).methods.getD k meth0).catches.length - q; omega, ⟨rfl, rfl⟩, .refl _, .refl _, .refl _, .int hwq, .refl _, .refl _, ⟨.refl _, trivial⟩, ⟨.refl _, .refl _, .refl _, .refl _, .refl _, .refl _, trivial⟩, ⟨.refl _, .refl _, .refl _, .refl _, .refl _, .refl _, .refl _, .refl _, .refl _, trivial⟩, trivial⟩
        have hgeq : q = ((p.getD i cls0).methods.getD k meth0).catches.length := by have := of_decide_eq_false h; omega
        rw [hgeq, List.take_length] at hq2
        have hmm : methH ((p.getD i cls0).methods.getD k meth0) = true := by unfold methH; rw [hm0, hcode, hpar, hq2]; rfl
        exact ⟨k + 1, ⟨hltk, by rw [allT _ meth0 _ _ hltk, hk2, hmm]; rfl⟩, by show (p.getD i cls0).methods.length - (k + 1) < (p.getD i cls0).methods.length - k; omega, ⟨rfl, rfl⟩, .refl _, .refl _, .int hwk, .refl _, ⟨.refl _, trivial⟩, ⟨.refl _, .refl _, .refl _, .refl _, .refl _, .refl _, trivial⟩, trivial⟩
      have hgek : k = (p.getD i cls0).methods.length := by have := of_decide_eq_false h; omega
      rw [hgek, List.take_length] at hk2
      have hcc : clsH (p.getD i cls0) = true := by unfold clsH; rw [hc0, hfl, hif, hk2]; rfl
      exact ⟨i + 1, ⟨hlt, by rw [allT _ cls0 _ _ hlt, hi2, hcc]; rfl⟩, by show p.length - (i + 1) < p.length - i; omega, ⟨rfl, rfl⟩, .refl _, .int hwi, ⟨.refl _, trivial⟩, trivial⟩
    · have hge : i = p.length := by have := of_decide_eq_false h; omega
      rw [hge, List.take_length] at hi2
      exact ⟨.bff (by unfold prgH; rw [gtF hp14 (m := 14) rfl, hi2]; rfl), rfl⟩
end Go.Proofs.YtadimoijlgmecaaDoor.Ax
/- Layer parse: the reader's small steps. -/
set_option linter.unusedVariables false
set_option linter.unusedSimpArgs false
namespace Go.Proofs.YtadimoijlgmecaaDoor.Ax
open Go Go.RowKit
/-- what lies in the package variables that the library reads -/
def tabP (w : World) : Prop := tabs w ∧ Lib.TabIs Tryd.prog w "strings.asciiSpace" .u8 Lib.asciiSpaceTab
def rok (r : Rs) : Prop := r.L.length ≤ 1000000 ∧ r.i ≤ r.L.length
theorem rok_fwd {r r' : Rs} (h : rok r) (f : Fwd r r') : rok r' := ⟨by rw [f.L]; exact h.1, f.ok h.2⟩
/-- a contract of a reader's method that only reads -/
def reC (A : Type) (a : A → List SV) (v : Rs → A → Nat → SV) (d : A → Prop) : Ctr := { A := Rs × A, enc := fun x => .elt Unit 5 (fun _ => rsC x.1) () [()] 0 0 :: a x.2, dom := fun x => rok x.1 ∧ d x.2, res := fun x id => v x.1 x.2 id, gl := tabP }
/-- .. that goes on -/
def rdC (A : Type) (a : A → List SV) (v : Rs → A → Nat → SV) (p : Rs → A → Rs) (d : A → Prop) : CtrB := { A := Rs × A, enc := fun x => .box 1000 0 :: a x.2, pre := fun x => [rsC x.1], dom := fun x => rok x.1 ∧ d x.2, res := fun x id => v x.1 x.2 id, post := fun x _ => [rsC (p x.1 x.2)], gl := tabP }
theorem Sub.tokEq {a b : Tok} (h : a = b) : Sub (tokS a) (tokS b) := by subst h; exact .refl _
def nextC : Ctr := reC Unit (fun _ => []) (fun r _ _ => tokS r.next) fun _ => True
def isC : Ctr := reC ByteArray (fun w => [S w]) (fun r w _ => B (r.is w)) fun _ => True
theorem noS_eq (w : ByteArray) : (w.toList == noS.toList) = decide (w = noS) := ba_eq w noS
def failC : CtrB := rdC Int (fun e => [I e]) (fun _ _ _ => .tup []) (fun r e => r.fail e) fun _ => True
theorem rL {a b : Rs} (h : a = b) : a.L = b.L := congrArg Rs.L h
theorem rI {a b : Rs} (h : a = b) : (a.i : Int) = (b.i : Int) := congrArg (fun s : Rs => (s.i : Int)) h
theorem rN {a b : Rs} (h : a = b) : a.n = b.n := congrArg Rs.n h
theorem rA {a b : Rs} (h : a = b) : a.at' = b.at' := congrArg Rs.at' h
theorem rE {a b : Rs} (h : a = b) : a.e = b.e := congrArg Rs.e h
theorem hwI {r : Rs} (hd : rok r) : IntKind.i64.wrap ((r.i : Int) + 1) = (r.step.i : Int) := by
  have h1 := hd.1; have h2 := hd.2
  show _ = ((r.i + 1 : Nat) : Int)
  rw [wrap_eq _ (by omega) (by omega)]; omega
end Go.Proofs.YtadimoijlgmecaaDoor.Ax
/- Layer parse: the reader takes words. -/
set_option linter.unusedVariables false
set_option linter.unusedSimpArgs false
namespace Go.Proofs.YtadimoijlgmecaaDoor.Ax
open Go Go.RowKit
def takeC : CtrB := rdC ByteArray (fun w => [S w]) (fun r w _ => B (r.is w)) (fun r w => r.take w) fun _ => True
def wantC : CtrB := rdC ByteArray (fun w => [S w]) (fun _ _ _ => .tup []) (fun r w => r.want w) fun _ => True
def freeC : Ctr := reC Unit (fun _ => []) (fun r _ _ => B r.free) fun _ => True
def freshRC : CtrB := rdC Unit (fun _ => []) (fun r _ _ => S r.freshV) (fun r _ => r.fresh) fun _ => True
def numRC : CtrB := rdC (Int × Int) (fun x => [I x.1, I x.2]) (fun r x _ => I (r.numV x.1 x.2)) (fun r x => r.num x.1 x.2) fun _ => True
def roomC : CtrB := rdC (Int × Int) (fun x => [I x.1, I x.2]) (fun _ _ _ => .tup []) (fun r x => r.room x.1 x.2) fun _ => True
def rowRC : CtrB := rdC Unit (fun _ => []) (fun r _ _ => B (r.is wLb)) (fun r _ => r.rowR) fun _ => True
end Go.Proofs.YtadimoijlgmecaaDoor.Ax
/- Layer parse: names, types, parameters. -/
set_option linter.unusedVariables false
set_option linter.unusedSimpArgs false
namespace Go.Proofs.YtadimoijlgmecaaDoor.Ax
open Go Go.RowKit
theorem notT {b : Bool} (h : (!b) = true) : b = false := by simpa using h
theorem notF {b : Bool} (h : (!b) = false) : b = true := by simpa using h
theorem take_yes {r : Rs} {w : ByteArray} (h : r.is w = true) : r.take w = r.step := if_pos h
theorem take_no {r : Rs} {w : ByteArray} (h : r.is w = false) : r.take w = r := if_neg (by rw [h]; decide)
theorem need_le (r : Rs) : r.need ≤ r.L.length + 2 := by
  unfold Rs.need
  split <;> omega
def nmsC : CtrB := rdC Unit (fun _ => []) (fun r _ id => .own ByteArray 1 strC noS r.names.1 id) (fun r _ => r.names.2) fun _ => True
def kindRC : CtrB := rdC Unit (fun _ => []) (fun r _ _ => tyS r.kindV) (fun r _ => r.kind) fun _ => True
theorem Sub.tyEq {a b : Ty} (h : a = b) : Sub (tyS a) (tyS b) := by subst h; exact .refl _
end Go.Proofs.YtadimoijlgmecaaDoor.Ax
/- Layer parse: parameters, instructions. -/
set_option linter.unusedVariables false
set_option linter.unusedSimpArgs false
namespace Go.Proofs.YtadimoijlgmecaaDoor.Ax
open Go Go.RowKit
def paramsRC : CtrB := rdC Unit (fun _ => []) (fun r _ id => .own Ty 2 tyC ty0 r.params.1 id) (fun r _ => r.params.2) fun _ => True
def opC : Ctr := { A := ByteArray, enc := fun s => [S s], dom := fun _ => True, res := fun s _ => .tup [I (if opV s < 0 then 0 else opV s), B (decide (0 ≤ opV s))], gl := tabS }
end Go.Proofs.YtadimoijlgmecaaDoor.Ax
/- Layer parse: instructions. -/
set_option linter.unusedVariables false
set_option linter.unusedSimpArgs false
namespace Go.Proofs.YtadimoijlgmecaaDoor.Ax
open Go Go.RowKit
namespace Rs
def instrV (r : Rs) (many : Int) : Ins := if r.isOp then (r.instr many).1 else ins0
def instrR (r : Rs) (many : Int) : Rs := if r.isOp then (r.instr many).2 else r
theorem instrR_fwd (r : Rs) (many : Int) : Fwd r (r.instrR many) := by
  unfold instrR
  split
  · exact instr_fwd _ _
  · exact .refl _
end Rs
theorem Sub.insEq {a b : Ins} (h : a = b) : Sub (.agg (insC a)) (.agg (insC b)) := by subst h; exact .refl _
def instrRC : CtrB := rdC Int (fun n => [I n]) (fun r n _ => .tup [.agg (insC (r.instrV n)), B r.isOp]) (fun r n => r.instrR n) fun _ => True
end Go.Proofs.YtadimoijlgmecaaDoor.Ax
/- Layer parse: what a method does. -/
set_option linter.unusedVariables false
set_option linter.unusedSimpArgs false
namespace Go.Proofs.YtadimoijlgmecaaDoor.Ax
open Go Go.RowKit
def mPre (m : Meth) : List SV := [S m.name, B m.static, B m.abs, .row Ty 2 tyC ty0 m.params, I m.ret.1, S m.ret.2, I 0, .val (.slice none 0 0), .val (.slice none 0 0)]
def bodyRC : CtrB := { A := Rs × Meth, enc := fun x => [.box 1000 0, .box 1001 0], pre := fun x => [rsC x.1, mPre x.2], dom := fun x => rok x.1, res := fun _ _ => .tup [], post := fun x _ => [rsC x.1.body, methC (x.1.bodyV x.2)], gl := tabP }
theorem instr_yes {r : Rs} {n : Int} (h : r.isOp = true) : r.instrR n = (r.instr n).2 ∧ r.instrV n = (r.instr n).1 := ⟨if_pos h, if_pos h⟩
theorem instr_no {r : Rs} {n : Int} (h : r.isOp = false) : r.instrR n = r := if_neg (by rw [h]; decide)
end Go.Proofs.YtadimoijlgmecaaDoor.Ax
/- Layer parse: a class' members. -/
set_option linter.unusedVariables false
set_option linter.unusedSimpArgs false
namespace Go.Proofs.YtadimoijlgmecaaDoor.Ax
open Go Go.RowKit
def cPre (c : Cls) (a b : Nat) : List SV := [S c.name, B c.iface, S c.super, .row ByteArray 1 strC noS c.ifaces, .own Fld 4 fldC fld0 c.fields a, .own Meth 9 methC meth0 c.methods b]
def memberRC : CtrB := { A := Rs × Cls, enc := fun x => [.box 1000 0, .box 1001 0], pre := fun x => [rsC x.1, cPre x.2 6900000 7000000], dom := fun x => rok x.1 ∧ x.2.fields.length ≤ 2000000 ∧ x.2.methods.length ≤ 2000000, res := fun _ _ => .tup [], post := fun x id => [rsC (x.1.member x.2).2, cPre (x.1.member x.2).1 (id + 6900000) (id + 7000000)], gl := tabP }
theorem baT {a b : ByteArray} (h : (a.toList == b.toList) = true) : a = b := by rw [ba_eq] at h; exact of_decide_eq_true h
theorem baF {a b : ByteArray} (h : (a.toList == b.toList) = false) : a ≠ b := by rw [ba_eq] at h; exact of_decide_eq_false h
end Go.Proofs.YtadimoijlgmecaaDoor.Ax
/- Layer parse: classes, programs. -/
set_option linter.unusedVariables false
set_option linter.unusedSimpArgs false
namespace Go.Proofs.YtadimoijlgmecaaDoor.Ax
open Go Go.RowKit
theorem Sub.agg6 {a b c d e f a' b' c' d' e' f' : SV} (h1 : Sub a a') (h2 : Sub b b') (h3 : Sub c c') (h4 : Sub d d') (h5 : Sub e e') (h6 : Sub f f') : Sub (.agg [a, b, c, d, e, f]) (.agg [a', b', c', d', e', f']) := .agg _ _ rfl fun j hj => by
  match j, hj with
  | 0, _ => exact h1
  | 1, _ => exact h2
  | 2, _ => exact h3
  | 3, _ => exact h4
  | 4, _ => exact h5
  | 5, _ => exact h6
def classRC : CtrB := rdC Int (fun n => [I n]) (fun r n _ => .agg (clsC (r.class' n).1)) (fun r n => (r.class' n).2) fun _ => True
theorem member_len (r : Rs) (c : Cls) : (r.member c).1.fields.length + (r.member c).1.methods.length ≤ c.fields.length + c.methods.length + 1 := by
  unfold Rs.member
  split
  · simp; omega
  · split
    · simp; omega
    · simp
def parseC : Ctr := { A := List UInt8, enc := fun l => [.row UInt8 1 byteC 0 l], dom := fun l => l.length ≤ 4611686018427387904, res := fun l _ => .tup [.agg [prgR (parseF l).1], I (parseF l).2.1, I (parseF l).2.2], gl := tabP }
theorem scan_count (l : List UInt8) : (scanF l).1.length ≤ 6000 := by
  unfold scanF
  split
  · simp
  · have hh : ∀ (f i : Nat) (l : List UInt8), (scanL f i l).1.length ≤ l.length := by
      intro f
      induction f with
      | zero => intro i l; cases l <;> simp [scanL]
      | succ f ih =>
        intro i l
        cases l with
        | nil => simp [scanL]
        | cons c r =>
          simp only [scanL]
          split
          · have := ih (i + 1) r; simp only [List.length_cons]; omega
          · split
            · rename_i h2
              have h3 := word_pos h2
              have := ih (i + wordF (c :: r)) ((c :: r).drop (wordF (c :: r)))
              simp only [List.length_cons, List.length_drop] at this ⊢
              omega
            · simp
    have h1 := hh l.length 0 l
    split <;> (dsimp only; first | exact Nat.zero_le _ | (show (scanL l.length 0 l).1.length ≤ 6000; omega))
end Go.Proofs.YtadimoijlgmecaaDoor.Ax
/- How the arguments of this seat's laws lie. -/
namespace Go.Proofs.YtadimoijlgmecaaDoor.Ax
open Go Go.RowKit
abbrev sh9 : Shape := .str
theorem reads9 : Reads Tryd.prog 9 sh9 := Reads.str Tryd.underlying9 (by kernel_rfl)
abbrev sh4 : Shape := .bool
theorem reads4 : Reads Tryd.prog 4 sh4 := Reads.bool Tryd.underlying4 (by kernel_rfl)
abbrev sh39 : Shape := sh9.row 16
theorem reads39 : Reads Tryd.prog 39 sh39 := Reads.row Tryd.underlying39 (by kernel_rfl) (by kernel_rfl) reads9 (by decide)
abbrev sh3 : Shape := .int .i64
theorem reads3 : Reads Tryd.prog 3 sh3 := Reads.int Tryd.underlying3 (by kernel_rfl)
abbrev sh37 : Shape := sh3.pair sh9
theorem reads37 : Reads Tryd.prog 37 sh37 := Reads.struct Tryd.underlying37 (by kernel_rfl) (.cons rfl reads3 (.one rfl reads9))
abbrev sh45 : Shape := sh9.pair (sh37.pair sh4)
theorem reads45 : Reads Tryd.prog 45 sh45 := Reads.struct Tryd.underlying45 (by kernel_rfl) (.cons rfl reads9 (.cons rfl reads37 (.one rfl reads4)))
abbrev sh40 : Shape := sh45.row 48
theorem reads40 : Reads Tryd.prog 40 sh40 := Reads.row Tryd.underlying40 (by kernel_rfl) (by kernel_rfl) reads45 (by decide)
abbrev sh46 : Shape := sh37.row 24
theorem reads46 : Reads Tryd.prog 46 sh46 := Reads.row Tryd.underlying46 (by kernel_rfl) (by kernel_rfl) reads37 (by decide)
abbrev sh52 : Shape := sh3.pair (sh3.pair (sh9.pair sh9))
theorem reads52 : Reads Tryd.prog 52 sh52 := Reads.struct Tryd.underlying52 (by kernel_rfl) (.cons rfl reads3 (.cons rfl reads3 (.cons rfl reads9 (.one rfl reads9))))
abbrev sh47 : Shape := sh52.row 48
theorem reads47 : Reads Tryd.prog 47 sh47 := Reads.row Tryd.underlying47 (by kernel_rfl) (by kernel_rfl) reads52 (by decide)
abbrev sh54 : Shape := sh9.pair (sh3.pair (sh3.pair sh3))
theorem reads54 : Reads Tryd.prog 54 sh54 := Reads.struct Tryd.underlying54 (by kernel_rfl) (.cons rfl reads9 (.cons rfl reads3 (.cons rfl reads3 (.one rfl reads3))))
abbrev sh48 : Shape := sh54.row 40
theorem reads48 : Reads Tryd.prog 48 sh48 := Reads.row Tryd.underlying48 (by kernel_rfl) (by kernel_rfl) reads54 (by decide)
abbrev sh50 : Shape := sh9.pair (sh4.pair (sh4.pair (sh46.pair (sh37.pair (sh3.pair (sh47.pair sh48))))))
theorem reads50 : Reads Tryd.prog 50 sh50 := Reads.struct Tryd.underlying50 (by kernel_rfl) (.cons rfl reads9 (.cons rfl reads4 (.cons rfl reads4 (.cons rfl reads46 (.cons rfl reads37 (.cons rfl reads3 (.cons rfl reads47 (.one rfl reads48))))))))
abbrev sh41 : Shape := sh50.row 128
theorem reads41 : Reads Tryd.prog 41 sh41 := Reads.row Tryd.underlying41 (by kernel_rfl) (by kernel_rfl) reads50 (by decide)
abbrev sh43 : Shape := sh9.pair (sh4.pair (sh9.pair (sh39.pair (sh40.pair sh41))))
theorem reads43 : Reads Tryd.prog 43 sh43 := Reads.struct Tryd.underlying43 (by kernel_rfl) (.cons rfl reads9 (.cons rfl reads4 (.cons rfl reads9 (.cons rfl reads39 (.cons rfl reads40 (.one rfl reads41))))))
abbrev sh22 : Shape := sh43.row 112
theorem reads22 : Reads Tryd.prog 22 sh22 := Reads.row Tryd.underlying22 (by kernel_rfl) (by kernel_rfl) reads43 (by decide)
abbrev sh24 : Shape := sh22
theorem reads24 : Reads Tryd.prog 24 sh24 := Reads.struct Tryd.underlying24 (by kernel_rfl) (.one rfl reads22)
theorem laidOut : laidOutB Tryd.prog = true := by kernel_rfl
end Go.Proofs.YtadimoijlgmecaaDoor.Ax
/- Layer parse: what each statement wakes; ParseWords. -/
set_option linter.unusedVariables false
set_option linter.unusedSimpArgs false
namespace Go.Proofs.YtadimoijlgmecaaDoor.Ax
open Go Go.RowKit
abbrev lC : Ctr := { A := Unit, enc := fun _ => [], dom := fun _ => True, res := fun _ _ => .tt, gl := tabP }
theorem wk1 : parseF [99, 108, 97, 115, 115, 32, 65, 32, 123, 32, 102, 105, 101, 108, 100, 32, 120, 32, 58, 32, 105, 110, 116, 32, 59, 32, 125] = ([⟨⟨#[65]⟩, false, noS, [], [⟨⟨#[120]⟩, (2, noS), false⟩], []⟩], 0, 0) := by decide +kernel
theorem wk2 : parseF [99, 108, 97, 115, 115, 32, 65, 32, 123, 32, 102, 105, 101, 108, 100, 32, 105, 110, 116, 32, 58, 32, 105, 110, 116, 32, 59, 32, 125] = ([], 16, 4) := by decide +kernel
theorem wk3 : opV ⟨#[116, 104, 114, 111, 119]⟩ = 43 := by decide +kernel
theorem wk4 : wordF2 8 = ⟨#[97, 100, 100]⟩ := by decide +kernel
theorem wk5 : keptF [99, 108, 97, 115, 115] = true := by decide +kernel
theorem umodC (n : Int) (L : Nat) (h0 : 0 < L) (h1 : L ≤ 1000000000) : ∃ k : Nat, k < L ∧ IntKind.i64.wrap ((IntKind.u64.wrap n).tmod (L : Int)) = (k : Int) := by
  have hr : 0 ≤ IntKind.u64.wrap n := by
    simp only [IntKind.wrap, IntKind.bits, IntKind.signed]
    simp
    omega
  have h3 := Int.tmod_lt_of_pos (IntKind.u64.wrap n) (show (0 : Int) < L by omega)
  have h4 := Int.tmod_nonneg (L : Int) hr
  exact ⟨((IntKind.u64.wrap n).tmod (L : Int)).toNat, by omega, by rw [wrap_eq _ (by omega) (by omega)]; omega⟩
def ParseWords : Ctr := { A := Int × Int, enc := fun x => [I x.1, I x.2], dom := fun _ => True, res := fun _ _ => .tt, gl := tabP }
theorem word_inj {a b : Nat} (ha : a < 44) (hb : b < 44) : wordF2 (a : Int) = wordF2 (b : Int) ↔ a = b := by
  constructor
  · intro h
    have h1 := (word_op (o := (a : Int)) (by omega) (by omega)).2.1
    rw [h, (word_op (o := (b : Int)) (by omega) (by omega)).2.1] at h1
    omega
  · rintro rfl; rfl
theorem ba_len (s : ByteArray) : s.data.toList.length = s.size := by rw [Array.length_toList]; rfl
theorem name_len {s : ByteArray} (h : nameF s.data.toList = true) : s.data.toList.length ≤ 20 := by
  obtain ⟨c, r, e, -, -, h4⟩ := name_form.1 h
  exact h4
end Go.Proofs.YtadimoijlgmecaaDoor.Ax
/- Layer parse: words with blanks between them; ParseTypes. -/
set_option linter.unusedVariables false
set_option linter.unusedSimpArgs false
namespace Go.Proofs.YtadimoijlgmecaaDoor.Ax
open Go Go.RowKit
theorem rep_long (l : List UInt8) (h : 20 < l.length) : nameF l = false := by
  unfold nameF
  rw [decide_eq_false (by omega)]; rfl
theorem dd_nz : ∀ (u : Nat), (Lib.decDigits u).getD 0 0 = 48 → u = 0 := by
  intro u
  induction u using Nat.strongRecOn with
  | ind u ih =>
    intro h
    rw [Lib.decDigits] at h
    split at h
    · rename_i hu
      have h : UInt8.ofNat (48 + u) = 48 := by simpa using h
      have h2 := congrArg UInt8.toNat h
      rw [UInt8.toNat_ofNat'] at h2
      have : (48 : UInt8).toNat = 48 := rfl
      omega
    · rename_i hu
      obtain ⟨b, r, hb, -⟩ := dd_head (u / 10)
      have := ih (u / 10) (by omega) (by rw [hb] at h ⊢; simpa using h)
      omega
theorem dd_z48 : Lib.decDigits 0 = [48] := by rw [Lib.decDigits, dif_pos (by decide)]; rfl
def tlF (l : List UInt8) : List UInt8 := if l.getD 0 0 = 45 then l.drop 1 else l
theorem num_shape {l : List UInt8} {n : Int} (h : Lib.itoa n = l) (hr : inR n) : 1 ≤ (tlF l).length ∧ (tlF l).length ≤ 10 ∧ ((tlF l).getD 0 0 = 48 → l.length ≤ 1) ∧ ∀ b ∈ tlF l, isDig b = true := by
  have hr1 := hr.1
  have hr2 := hr.2
  unfold Lib.itoa at h
  split at h
  · rename_i hn
    subst h
    have e : tlF (45 :: Lib.decDigits n.natAbs) = Lib.decDigits n.natAbs := rfl
    rw [e]
    have h1 := nd_le (u := n.natAbs) (k := 10) (by omega) (by omega)
    obtain ⟨b, r, hb, -⟩ := dd_head n.natAbs
    refine ⟨by rw [hb]; simp, by rw [Lib.decDigits_length]; omega, fun c => ?_, dd_dig _⟩
    have := dd_nz _ c
    omega
  · rename_i hn
    subst h
    obtain ⟨b, r, hb, hd⟩ := dd_head n.toNat
    have e : tlF (Lib.decDigits n.toNat) = Lib.decDigits n.toNat := by
      unfold tlF
      rw [if_neg]
      rw [hb]
      intro c
      have c : b = 45 := c
      rw [c] at hd; exact absurd hd (by decide)
    rw [e]
    have h1 := nd_le (u := n.toNat) (k := 10) (by omega) (by omega)
    refine ⟨by rw [hb]; simp, by rw [Lib.decDigits_length]; omega, fun c => ?_, dd_dig _⟩
    have := dd_nz _ c
    rw [this, dd_z48]; decide
theorem num_bad {l : List UInt8} (h : (tlF l).length < 1 ∨ 10 < (tlF l).length ∨ ((tlF l).getD 0 0 = 48 ∧ 1 < l.length) ∨ ∃ j, j < (tlF l).length ∧ isDig ((tlF l).getD j 0) = false) : numF l = none := by
  rw [numF_none]
  rintro n ⟨h1, h2⟩
  obtain ⟨a, b, c, d⟩ := num_shape h1 h2
  rcases h with h | h | h | ⟨j, hj, h⟩
  · omega
  · omega
  · have := c h.1; omega
  · rw [d _ (by rw [List.getD, List.getElem?_eq_getElem hj]; exact List.getElem_mem hj)] at h; cases h
def sgF (l : List UInt8) (m : Nat) : Int := if (tlF l).length < l.length then -(m : Int) else m
theorem num_val {l : List UInt8} {m : Nat} (h1 : 1 ≤ (tlF l).length) (h2 : (tlF l).getD 0 0 = 48 → l.length ≤ 1) (hm : Lib.decFrom 0 (tlF l) = some m) : Lib.itoa (sgF l m) = l := by
  have hdd : Lib.decDigits m = tlF l := dd_of _ _ hm (by intro c; rw [c] at h1; simp at h1) (by
    by_cases c : (tlF l).getD 0 0 = 48
    · left; have := h2 c
      have : (tlF l).length ≤ l.length := by unfold tlF; split <;> simp
      omega
    · right; exact c)
  by_cases c : l.getD 0 0 = 45
  · cases l with
    | nil => cases c
    | cons b r =>
      have hb : b = 45 := c
      subst hb
      have ht : tlF (45 :: r) = r := rfl
      rw [ht] at hdd h1 h2
      have hs : sgF (45 :: r) m = -(m : Int) := by unfold sgF; rw [ht, if_pos (by simp)]
      have hm0 : 0 < m := by
        rcases Nat.eq_zero_or_pos m with z | z
        · subst z
          have : r.getD 0 0 = 48 := by rw [← hdd, dd_z48]; rfl
          have := h2 this
          simp at this; subst this; simp at h1
        · exact z
      rw [hs]; unfold Lib.itoa
      rw [if_pos (by omega), show (-(m : Int)).natAbs = m by omega, hdd]
  · have ht : tlF l = l := if_neg c
    rw [ht] at hdd
    have hs : sgF l m = (m : Int) := by unfold sgF; rw [ht, if_neg (by omega)]
    rw [hs]; unfold Lib.itoa
    rw [if_neg (by omega), Int.toNat_natCast, hdd]
theorem num_yes {l : List UInt8} {m : Nat} (h1 : 1 ≤ (tlF l).length) (h2 : (tlF l).getD 0 0 = 48 → l.length ≤ 1) (hm : Lib.decFrom 0 (tlF l) = some m) (hr : inR (sgF l m)) : numF l = some (sgF l m) := (numF_iff _ _).2 ⟨num_val h1 h2 hm, hr⟩
theorem num_out {l : List UInt8} {m : Nat} (h1 : 1 ≤ (tlF l).length) (h2 : (tlF l).getD 0 0 = 48 → l.length ≤ 1) (hm : Lib.decFrom 0 (tlF l) = some m) (hr : ¬ inR (sgF l m)) : numF l = none := by
  rw [numF_none]
  rintro n ⟨a, b⟩
  rw [← num_val h1 h2 hm] at a
  rw [itoa_inj a] at b
  exact hr b
theorem dec_step {t : List UInt8} {i m : Nat} (h : Lib.decFrom 0 (t.take i) = some m) (hi : i < t.length) (hd : isDig (t.getD i 0) = true) : Lib.decFrom 0 (t.take (i + 1)) = some (m * 10 + ((t.getD i 0).toNat - 48)) := by
  rw [takeT t 0 i hi, decFrom_append _ _ _ _ h]
  have hd : 48 ≤ (t.getD i 0).toNat ∧ (t.getD i 0).toNat ≤ 57 := by simpa [isDig] using hd
  have e : Lib.digitVal (t.getD i 0) = some ((t.getD i 0).toNat - 48) := by
    have := dig_ofNat (d := (t.getD i 0).toNat - 48) (by omega)
    rw [← this]; congr 1
    apply UInt8.toNat_inj.1
    rw [UInt8.toNat_ofNat']; omega
  simp only [Lib.decFrom, e]
theorem by_at (l : List UInt8) (i : Nat) : byteAt (⟨l.toArray⟩ : ByteArray) i = ((l.getD i 0).toNat : Int) := by simp [byteAt]
theorem name_bad {l : List UInt8} {i : Nat} (h : i < l.length) (h1 : isLet (l.getD i 0) = false) (h2 : isDig (l.getD i 0) = false) : nameF l = false := by
  have : l.all isAl = false := by
    rw [Bool.eq_false_iff]
    intro c
    have := (all_at isAl l).1 c i h
    rw [isAl, h1, h2] at this
    cases this
  simp [nameF, this]
set_option maxRecDepth 100000 in
theorem rname_ok : CtrSound Tryd.prog 11 nameC :=
  ctr_of_ax (env_ok tys_ok (eqs := []) trivial (cs := [(21, byteB isLet), (22, byteB isDig)]) ⟨rletter_ok, rdigit_ok, trivial⟩) mixed _ Tryd.func11 (by kernel_rfl) rfl (fun _ _ => Nat.le_of_ble_eq_true rfl) fun (l : List UInt8) id hd => by
    have hd : l.length ≤ 4611686018427387904 := hd
    have hz := size_txt l
    have ha := at_txt l
    have no1 : l.length < 1 → nameF l = false := fun h => by unfold nameF; rw [decide_eq_false (by omega)]; rfl
    have no3 : isLet (l.getD 0 0) = false → nameF l = false := fun h => by simp only [nameF, h]; simp
    refine ⟨fun h => ?_, fun h => ?_⟩
    · exact ⟨.bff (no1 (by have h : decide (((⟨l.toArray⟩ : ByteArray).size : Int) < 1) = true := h
                           have := of_decide_eq_true h; omega)), rfl⟩
    have hpos : 0 < l.length := by
      have h : decide (((⟨l.toArray⟩ : ByteArray).size : Int) < 1) = false := h
      have := of_decide_eq_false h; omega
    refine ⟨fun h => ?_, fun h => ?_⟩
    · exact ⟨.bff (rep_long l (by have h : decide (((⟨l.toArray⟩ : ByteArray).size : Int) > 20) = true := h
                                  have := of_decide_eq_true h; omega)), rfl⟩
    have hle : l.length ≤ 20 := by
      have h : decide (((⟨l.toArray⟩ : ByteArray).size : Int) > 20) = false := h
      have := of_decide_eq_false h; omega
    refine ⟨⟨by omega, by rw [hz]; omega⟩, ?_⟩
    refine ⟨(txt l).data.getD 0 0, ⟨.refl _, trivial⟩, rfl, trivial, ?_⟩
    refine ⟨fun h => ?_, fun h => ?_⟩
    · rw [ha] at h; exact ⟨.bff (no3 (by simpa using h)), rfl⟩
    have hlet : isLet (l.getD 0 0) = true := by rw [ha] at h; simpa using h
    refine ⟨Nat, fun i => [(0, X l), (3, I i)], fun _ => [], fun i => 1 ≤ i ∧ i ≤ l.length ∧ ∀ j, j < i → isAl (l.getD j 0) = true, fun i => l.length - i, ⟨1, ⟨Nat.le_refl _, hpos, fun j hj => by rw [show j = 0 by omega, isAl, hlet]; rfl⟩, ⟨⟨rfl, rfl⟩, .refl _, .refl _, trivial⟩⟩, fun (i : Nat) hi => ?_⟩
    have hil : i ≤ l.length := hi.2.1
    have hn := hi.2.2
    have hwj : IntKind.i64.wrap ((i : Int) + 1) = ((i + 1 : Nat) : Int) := by rw [wrap_eq _ (by omega) (by omega)]; omega
    refine ⟨fun h => ?_, fun h => ?_⟩
    · have hlt : i < l.length := by
        have h : decide ((i : Int) < ((⟨l.toArray⟩ : ByteArray).size : Int)) = true := h
        have := of_decide_eq_true h; omega
      have nb : ∀ {f : UInt8 → Bool}, (!f ((txt l).data.getD i 0)) = true → f (l.getD i 0) = false := fun h => by rw [ha] at h; simpa using h
      have yb : ∀ {f : UInt8 → Bool}, (!f ((txt l).data.getD i 0)) = false → f (l.getD i 0) = true := fun h => by rw [ha] at h; simpa using h
      have nx : ∀ b, isAl (l.getD i 0) = b → b = true → ∀ j, j < i + 1 → isAl (l.getD j 0) = true := fun b hb hb2 j hj => by
        rcases Nat.lt_succ_iff_lt_or_eq.1 hj with q | rfl
        · exact hn j q
        · rw [hb, hb2]
      refine ⟨⟨by omega, by rw [hz]; omega⟩, ?_⟩
      refine ⟨(txt l).data.getD i 0, ⟨.refl _, trivial⟩, rfl, trivial, ?_⟩
      refine ⟨fun h => ?_, fun h => ?_⟩
      · refine ⟨⟨by omega, by rw [hz]; omega⟩, ?_⟩
        refine ⟨(txt l).data.getD i 0, ⟨.refl _, trivial⟩, rfl, trivial, ?_⟩
        refine ⟨fun h2 => ?_, fun h2 => ?_⟩
        · exact ⟨.bff (name_bad hlt (nb h) (nb h2)), rfl⟩
        · exact ⟨i + 1, ⟨by omega, hlt, nx _ rfl (by simp only [isAl, yb h2, Bool.or_true])⟩, by show l.length - (i + 1) < l.length - i; omega, ⟨rfl, rfl⟩, .refl _, .int hwj, trivial⟩
      · exact ⟨i + 1, ⟨by omega, hlt, nx _ rfl (by simp only [isAl, yb h, Bool.true_or])⟩, by show l.length - (i + 1) < l.length - i; omega, ⟨rfl, rfl⟩, .refl _, .int hwj, trivial⟩
    · have hie : i = l.length := by
        have h : decide ((i : Int) < ((⟨l.toArray⟩ : ByteArray).size : Int)) = false := h
        have := of_decide_eq_false h; omega
      exact ⟨.btt (by subst hie; simp only [nameF, hlet, (all_at isAl l).2 hn]; simp; omega), rfl⟩
/-! ### Words, a blank between them -/
def joinB : List ByteArray → List UInt8
  | [] => []
  | [w] => w.data.toList
  | w :: v :: r => w.data.toList ++ 32 :: joinB (v :: r)
theorem joinB_app : ∀ (a b : List ByteArray), a ≠ [] → b ≠ [] → joinB (a ++ b) = joinB a ++ 32 :: joinB b
  | [], _, h, _ => absurd rfl h
  | [w], [], _, h => absurd rfl h
  | [w], v :: r, _, _ => rfl
  | w :: x :: a, b, _, hb => by
    show w.data.toList ++ 32 :: joinB (x :: a ++ b) = _
    rw [joinB_app (x :: a) b (by simp) hb]
    simp [joinB]
theorem scan_joinB : ∀ (ws : List ByteArray) (i : Nat), (∀ w ∈ ws, tokB w = true) → ∃ l, scanI i (joinB ws) = (l, none) ∧ l.map s3 = tks ws
  | [], i, _ => ⟨[], scanI_nil i, rfl⟩
  | [w], i, h => by
    refine ⟨[setAt (tokenF w.data.toList).1 i], ?_, rfl⟩
    have := scan_word i (w := w.data.toList) (r := []) (h w (by simp)) (.inl rfl)
    rw [List.append_nil, scanI_nil] at this
    exact this
  | w :: v :: r, i, h => by
    obtain ⟨l, h1, h2⟩ := scan_joinB (v :: r) (i + w.data.toList.length + 1) (fun x hx => h x (by simp [hx]))
    refine ⟨setAt (tokenF w.data.toList).1 i :: l, ?_, ?_⟩
    · show scanI i (w.data.toList ++ 32 :: joinB (v :: r)) = _
      rw [scan_word i (w := w.data.toList) (r := 32 :: joinB (v :: r)) (h w (by simp)) (.inr (show isAl 32 = false by decide))]
      have := scan_blanks (i + w.data.toList.length) [32] (joinB (v :: r)) (by decide)
      rw [show (32 : UInt8) :: joinB (v :: r) = [32] ++ joinB (v :: r) from rfl, this]
      simp only [List.length_cons, List.length_nil]
      rw [h1]
    · rw [List.map_cons, h2]; rfl
theorem parse_toks {b : List UInt8} {p : List Cls} {l : List Tok} (h : prgOk p = true) (h1 : scanF b = (l, 0, 0)) (h2 : l.map s3 = tks (p.flatMap wordsC)) : parseF b = (p, 0, 0) := by
  obtain ⟨h3, h4⟩ := prg_parts h
  have hat : At (parse0 b) (tks (p.flatMap wordsC)) := ⟨rfl, by show ((scanF b).1.drop 0).map s3 = _; rw [h1]; exact h2⟩
  have hlen := at_len hat
  have hfl := flat_len wordsC p (fun x _ => by simp [wordsC])
  have hL : (parse0 b).L.length - (parse0 b).i = (scanF b).1.length := by simp [parse0]
  rw [hL] at hlen
  simp only [List.length_map] at hlen
  have := at_prgL p ((scanF b).1.length + 2) (parse0 b) [] h4 (by simpa using h3) (by omega) hat
  unfold parseF
  rw [if_pos (by rw [h1]), if_pos this.2, this.1]
  rfl
theorem parse_joinB {p : List Cls} (h : prgOk p = true) (hl : (joinB (p.flatMap wordsC)).length ≤ 6000) : parseF (joinB (p.flatMap wordsC)) = (p, 0, 0) := by
  obtain ⟨l, h1, h2⟩ := scan_joinB (p.flatMap wordsC) 0 (Toks.flat fun c hc => cls_tok ((prg_parts h).2 c hc))
  refine parse_toks h (l := l) ?_ h2
  unfold scanF
  rw [if_neg (by omega), h1]
/-! ### What the statement looks at -/
def rkeptC : Ctr := { A := ByteArray, enc := fun s => [S s], dom := fun _ => True, res := fun s _ => B (Lib.containsS keptL s) }
set_option maxRecDepth 100000 in
theorem rkept_ok : CtrSound Tryd.prog 12 rkeptC :=
  ctr_of_ax (env_ok tys_ok (eqs := []) trivial (cs := []) trivial) mixed _ Tryd.func12 (by kernel_rfl) rfl (fun _ _ => Nat.le_of_ble_eq_true rfl) fun (s : ByteArray) id _ => by
    have hl : keptL.length = 12 := by decide
    refine ⟨ByteArray, strC, noS, keptL, ⟨rfl, fun _ => rfl⟩, ⟨.refl _, .refl _, .refl _, .refl _, .refl _, .refl _, .refl _, .refl _, .refl _, .refl _, .refl _, .refl _, trivial⟩, rfl, ?_⟩
    refine ⟨Nat, fun i => [(0, S s), (3, .own ByteArray 1 strC noS keptL 5), (4, I i)], fun _ => [], fun i => i ≤ keptL.length ∧ ∀ j, j < i → keptL.getD j noS ≠ s, fun i => keptL.length - i,
      ⟨0, ⟨Nat.zero_le _, fun j hj => by omega⟩, ⟨⟨rfl, rfl⟩, .refl _, .refl _, .refl _, trivial⟩⟩, fun (i : Nat) hi => ?_⟩
    have hil := hi.1
    have hwj : IntKind.i64.wrap ((i : Int) + 1) = ((i + 1 : Nat) : Int) := by rw [wrap_eq _ (by omega) (by omega)]; omega
    refine ⟨fun h => ?_, fun h => ?_⟩
    · have hlt : i < keptL.length := dlt h
      refine ⟨(show 0 ≤ (i : Int) ∧ (i : Int) < ((keptL.length : Nat) : Int) by omega), ?_⟩
      refine ⟨fun h => ?_, fun h => ?_⟩
      · have h : keptL.getD i noS = s := baT h
        exact ⟨.btt ((Lib.containsS_iff _ _).2 (by rw [← h]; exact getT_mem _ _ _ hlt)), rfl⟩
      · have h : keptL.getD i noS ≠ s := baF h
        exact ⟨i + 1, ⟨hlt, fun j hj => by rcases Nat.lt_succ_iff_lt_or_eq.1 hj with q | rfl; exact hi.2 j q; exact h⟩, (show keptL.length - (i + 1) < keptL.length - i by omega), ⟨rfl, rfl⟩, .refl _, .refl _, .int hwj, trivial⟩
    · have hge : i = keptL.length := Nat.le_antisymm hil (dge h)
      have hno : Lib.containsS keptL s = false := by
        rw [Bool.eq_false_iff]
        intro c
        obtain ⟨j, hj, e⟩ := List.mem_iff_getElem.1 ((Lib.containsS_iff _ _).1 c)
        exact hi.2 j (by omega) (by simp [List.getD, hj, e])
      exact ⟨.bff hno, rfl⟩
theorem ty_eq : EqSound Tryd.prog 37 (flatC Ty tyC) :=
  eq_flat [.int .i64, .str] _ tyC Tryd.underlying37 (by kernel_rfl) (by kernel_rfl) (by kernel_rfl) (fun _ => rfl)
theorem ty_dec (a b : Ty) : cellsEq (tyC a) (tyC b) = decide (a = b) := by
  obtain ⟨a1, a2⟩ := a
  obtain ⟨b1, b2⟩ := b
  rw [Bool.eq_iff_iff]
  simp [tyC, cellsEq, cellEq, ba_eq]
set_option maxRecDepth 100000 in
theorem kTypes_ok : CtrSound Tryd.prog 65 (keepR Ty 2 tyC ty0) :=
  ctr_of_ax (env_ok tys_ok (eqs := [(37, flatC Ty tyC)]) ⟨ty_eq, trivial⟩ (cs := []) trivial) mixed _ Tryd.func65 (by kernel_rfl) rfl (fun _ _ => Nat.le_of_ble_eq_true rfl) fun ((k, l) : List Ty × List Ty) id hd => by
    have hd : k.length ≤ 4611686018427387904 := hd
    have no : ¬ (k = l) → Sub .ff (B (decide (k = l))) := fun h => .bff (decide_eq_false h)
    refine ⟨fun h2 => ?_, fun h2 => ?_⟩
    · exact ⟨no fun q => lneT h2 (by rw [q]), rfl⟩
    have hl : k.length = l.length := lneF h2
    refine ⟨Nat, fun i => [(0, .row Ty 2 tyC ty0 k), (1, .row Ty 2 tyC ty0 l), (5, I i)], fun _ => [], fun i => i ≤ k.length ∧ ∀ j, j < i → k.getD j ty0 = l.getD j ty0, fun i => k.length - i,
      ⟨0, ⟨Nat.zero_le _, fun j hj => by omega⟩, ⟨⟨rfl, rfl⟩, .refl _, .refl _, .refl _, trivial⟩⟩, fun (i : Nat) hi => ?_⟩
    have hil := hi.1
    have hwj : IntKind.i64.wrap ((i : Int) + 1) = ((i + 1 : Nat) : Int) := by rw [wrap_eq _ (by omega) (by omega)]; omega
    refine ⟨fun h => ?_, fun h => ?_⟩
    · have hlt : i < k.length := dlt h
      refine ⟨by kernel_rfl, ?_⟩
      refine ⟨⟨by omega, by omega⟩, ⟨by omega, by omega⟩, ?_⟩
      refine ⟨k.getD i ty0, l.getD i ty0, ⟨.refl _, .refl _, trivial⟩, ⟨.refl _, .refl _, trivial⟩, fun h => ?_, fun h => ?_⟩
      · have h : (!cellsEq (tyC (k.getD i ty0)) (tyC (l.getD i ty0))) = true := h
        rw [ty_dec] at h
        exact ⟨no fun q => by rw [q] at h; simp at h, rfl⟩
      · have h : (!cellsEq (tyC (k.getD i ty0)) (tyC (l.getD i ty0))) = false := h
        rw [ty_dec] at h
        have he : k.getD i ty0 = l.getD i ty0 := by simpa using h
        exact ⟨i + 1, ⟨hlt, fun j hj => by rcases Nat.lt_succ_iff_lt_or_eq.1 hj with q | rfl; exact hi.2 j q; exact he⟩, by show k.length - (i + 1) < k.length - i; omega, ⟨rfl, rfl⟩, .refl _, .refl _, .int hwj, trivial⟩
    · have hge : i = k.length := Nat.le_antisymm hil (dge h)
      exact ⟨.btt (decide_eq_true (ext_getD ty0 hl fun j (hj : j < k.length) => hi.2 j (hge ▸ hj))), rfl⟩
/-! ### ParseTypes -/
def tText (s : ByteArray) : ByteArray := (((((((⟨#[105, 110, 116, 101, 114, 102, 97, 99, 101, 32, 65, 32, 123, 32, 115, 116, 97, 116, 105, 99, 32, 102, 32, 58, 32]⟩ ++ s) ++ ⟨#[32, 59, 32, 109, 101, 116, 104, 111, 100, 32, 109, 32, 40, 32]⟩) ++ s) ++ ⟨#[32, 44, 32]⟩) ++ s) ++ ⟨#[32, 41, 32]⟩) ++ s) ++ ⟨#[32, 59, 32, 125]⟩
def tWord (nm : ByteArray) : List ByteArray := [⟨#[118, 111, 105, 100]⟩, ⟨#[105, 110, 116]⟩, nm, ⟨#[105, 110, 116, 32, 91, 32, 93]⟩, nm ++ ⟨#[32, 91, 32, 93]⟩]
def tTy (nm : ByteArray) : List Ty := [(1, noS), (2, noS), (3, nm), (4, noS), (5, nm)]
def tCls (t : Ty) : Cls := ⟨⟨#[65]⟩, true, noS, [], [⟨⟨#[102]⟩, t, true⟩], [⟨⟨#[109]⟩, false, true, [t, t], t, 0, [], []⟩]⟩
theorem tCls_ok {t : Ty} (h : tyOk t = true) : prgOk [tCls t] = true := by
  have a : freshW ⟨#[65]⟩ = true := by decide +kernel
  have b : freshW ⟨#[102]⟩ = true := by decide +kernel
  have c : freshW ⟨#[109]⟩ = true := by decide +kernel
  have d : fldOk ⟨⟨#[102]⟩, t, true⟩ = true := by unfold fldOk; rw [b, h]; rfl
  have e : methOk ⟨⟨#[109]⟩, false, true, [t, t], t, 0, [], []⟩ = true := by
    unfold methOk
    simp only [c, h, List.all_cons, List.all_nil, Bool.and_self]
    rfl
  have f : clsOk (tCls t) = true := by
    unfold clsOk tCls
    simp only [a, d, e, List.all_cons, List.all_nil, Bool.and_self]
    rfl
  unfold prgOk
  simp only [f, List.all_cons, List.all_nil, Bool.and_self]
  rfl
theorem tText_data (s : ByteArray) : (tText s).data.toList = [105, 110, 116, 101, 114, 102, 97, 99, 101, 32, 65, 32, 123, 32, 115, 116, 97, 116, 105, 99, 32, 102, 32, 58, 32] ++ (s.data.toList ++ ([32, 59, 32, 109, 101, 116, 104, 111, 100, 32, 109, 32, 40, 32] ++ (s.data.toList ++ ([32, 44, 32] ++ (s.data.toList ++ ([32, 41, 32] ++ (s.data.toList ++ [32, 59, 32, 125]))))))) := by
  simp [tText, ByteArray.data_append]
theorem tWords (t : Ty) : wordsC (tCls t) = [wInterface, ⟨#[65]⟩, wLc, wStatic, ⟨#[102]⟩, wColon] ++ (kindW t ++ ([wSemi, wMethod, ⟨#[109]⟩, wLp] ++ (kindW t ++ ([wComma] ++ (kindW t ++ ([wRp] ++ (kindW t ++ [wSemi, wRc]))))))) := by
  simp [wordsC, tCls, listF, fldF, doesF, paramsF, noS]
theorem tJoin (t : Ty) (hk : kindW t ≠ []) : joinB (wordsC (tCls t)) = [105, 110, 116, 101, 114, 102, 97, 99, 101, 32, 65, 32, 123, 32, 115, 116, 97, 116, 105, 99, 32, 102, 32, 58, 32] ++ (joinB (kindW t) ++ ([32, 59, 32, 109, 101, 116, 104, 111, 100, 32, 109, 32, 40, 32] ++ (joinB (kindW t) ++ ([32, 44, 32] ++ (joinB (kindW t) ++ ([32, 41, 32] ++ (joinB (kindW t) ++ [32, 59, 32, 125]))))))) := by
  rw [tWords, joinB_app _ _ (by simp) (by simp [hk]), joinB_app _ _ hk (by simp), joinB_app _ _ (by simp) (by simp [hk]), joinB_app _ _ hk (by simp), joinB_app _ _ (by simp) (by simp [hk]), joinB_app _ _ hk (by simp), joinB_app _ _ (by simp) (by simp [hk]), joinB_app _ _ hk (by simp)]
  simp [joinB, wInterface, wLc, wStatic, wColon, wSemi, wMethod, wLp, wComma, wRp, wRc]
theorem tFacts (nm : ByteArray) (hn : nameF nm.data.toList = true) (hk : Lib.containsS keptL nm = false) : ∀ a, a < 5 → tyOk ((tTy nm).getD a ty0) = true ∧ kindW ((tTy nm).getD a ty0) ≠ [] ∧ joinB (kindW ((tTy nm).getD a ty0)) = ((tWord nm).getD a noS).data.toList ∧ ((tWord nm).getD a noS).size ≤ 30 := by
  have hl := name_len hn
  have hz : nm.size ≤ 20 := by rw [← ba_len]; exact hl
  have hf : freshF nm.data.toList = true := by
    unfold freshF keptF
    rw [hn]
    rw [show Lib.containsS keptL ⟨nm.data.toList.toArray⟩ = false from hk]; rfl
  intro a ha
  match a, ha with
  | 0, _ => exact ⟨(show tyOk (1, noS) = true by decide +kernel), (show kindW (1, noS) ≠ [] by decide), rfl, (show (⟨#[118, 111, 105, 100]⟩ : ByteArray).size ≤ 30 by decide)⟩
  | 1, _ => exact ⟨(show tyOk (2, noS) = true by decide +kernel), (show kindW (2, noS) ≠ [] by decide), rfl, (show (⟨#[105, 110, 116]⟩ : ByteArray).size ≤ 30 by decide)⟩
  | 2, _ => exact ⟨by show typedF 3 nm.data.toList = true; unfold typedF; rw [if_neg (by decide), if_pos (by decide)]; exact hf, by show kindF 3 nm ≠ []; simp [kindF], by show joinB (kindF 3 nm) = _; simp [kindF, joinB]; rfl, by show nm.size ≤ 30; omega⟩
  | 3, _ => exact ⟨(show tyOk (4, noS) = true by decide +kernel), (show kindW (4, noS) ≠ [] by decide), (show joinB (kindW (4, noS)) = (⟨#[105, 110, 116, 32, 91, 32, 93]⟩ : ByteArray).data.toList by decide), (show (⟨#[105, 110, 116, 32, 91, 32, 93]⟩ : ByteArray).size ≤ 30 by decide)⟩
  | 4, _ => exact ⟨by show typedF 5 nm.data.toList = true; unfold typedF; rw [if_neg (by decide), if_pos (by decide)]; exact hf, by show kindF 5 nm ≠ []; simp [kindF], by show joinB (kindF 5 nm) = (nm ++ ⟨#[32, 91, 32, 93]⟩).data.toList; simp [kindF, joinB, ByteArray.data_append], by show (nm ++ ⟨#[32, 91, 32, 93]⟩).size ≤ 30; rw [ByteArray.size_append, show (⟨#[32, 91, 32, 93]⟩ : ByteArray).size = 4 from rfl]; omega⟩
theorem tParse (nm : ByteArray) (hn : nameF nm.data.toList = true) (hk : Lib.containsS keptL nm = false) {a : Nat} (ha : a < 5) : parseF (tText ((tWord nm).getD a noS)).data.toList = ([tCls ((tTy nm).getD a ty0)], 0, 0) := by
  obtain ⟨h1, h2, h3, h4⟩ := tFacts nm hn hk a ha
  have e : (tText ((tWord nm).getD a noS)).data.toList = joinB ([tCls ((tTy nm).getD a ty0)].flatMap wordsC) := by
    rw [List.flatMap_cons, List.flatMap_nil, List.append_nil, tJoin _ h2, tText_data, h3]
  rw [e]
  refine parse_joinB (tCls_ok h1) ?_
  rw [← e, tText_data]
  have h5 : ((tWord nm).getD a noS).data.toList.length ≤ 30 := by
    rw [ba_len]; exact h4
  simp only [List.length_append, List.length_cons, List.length_nil]
  omega
def ParseTypes : Ctr := { A := Int × ByteArray, enc := fun x => [I x.1, S x.2], dom := fun x => sh3.ok x.1 ∧ sh9.ok x.2, res := fun _ _ => .tt, gl := tabP }
end Go.Proofs.YtadimoijlgmecaaDoor.Ax
/- Layer parse: programs compared. -/
set_option linter.unusedVariables false
set_option linter.unusedSimpArgs false
namespace Go.Proofs.YtadimoijlgmecaaDoor.Ax
open Go Go.RowKit
theorem eq_step {P : Program} (w : World) (d : Nat) (f : Go.Field) (fs : List Go.Field) (xs ys : Array Value) (a b : Value) (e r : Bool) (hn : f.name ≠ "_") (px : (part f.type xs f.offset).run P w = .ok a w) (py : (part f.type ys f.offset).run P w = .ok b w)
    (he : (Op.equalIn (d + 1) f.type a b).run P w = .ok e w) (ih : (Op.eqFields (d + 1) xs ys fs).run P w = .ok r w) : (Op.eqFields (d + 1) xs ys (f :: fs)).run P w = .ok (e && r) w := by
  simp only [Op.eqFields]
  rw [if_pos hn]
  simp only [Sem.run_bind, px, py, he, Result.andThen_ok, Sem.run_ite]
  cases e with
  | true => simp only [Bool.not_true, Bool.false_eq_true, if_false, Bool.true_and]; exact ih
  | false => simp
theorem part_flat {P : Program} (w : World) (f : Go.Field) {dd : TypeDesc} (hdd : P.underlying f.type = some dd) (hag : isAggD dd = false) (xs : Array Value) (lx : f.offset < xs.size) : (part f.type xs f.offset).run P w = .ok (xs.getD f.offset undef) w := by
  simp only [part, Sem.run_bind, run_isAgg hdd, hag, Result.andThen_ok]
  simp [Array.getD, lx]
theorem part_sub {P : Program} (w : World) (f : Go.Field) {gs : Array Go.Field} {i : TypeInfo} (hu : P.underlying f.type = some (.struct gs)) (hi : P.info? f.type = some i) (xs : Array Value) : (part f.type xs f.offset).run P w = .ok (.agg (xs.extract f.offset (f.offset + i.size))) w := by
  simp only [part, Sem.run_bind, run_isAgg hu, show isAggD (.struct gs) = true from rfl, Result.andThen_ok]
  rw [if_pos True.intro, Sem.run_bind, run_size hi]
  rfl
theorem fld_shape {P : Program} {t : Nat} {f0 f1 f2 : Go.Field} {gs : Array Go.Field} {i : TypeInfo} (hu : P.underlying t = some (.struct #[f0, f1, f2])) (hp : P.stoodInHeld t = false) (hm : P.eqGuardType P.depth t = false)
    (n0 : f0.name ≠ "_" ∧ f0.offset = 0 ∧ P.underlying f0.type = some .string) (n1 : f1.name ≠ "_" ∧ f1.offset = 1 ∧ P.underlying f1.type = some (.struct gs)) (n2 : f2.name ≠ "_" ∧ f2.offset = 3 ∧ P.underlying f2.type = some .bool)
    (hi : P.info? f1.type = some i) (hz : i.size = 2) (hp1 : P.stoodInHeld f1.type = false) (hk : flatB P 0 gs.toList [.int .i64, .str] = true) : EqSound P t (flatC Fld fldC) := by
  intro u v H β T xs ys w x y hx hy gx gy
  have hx : xs.size = 4 := hx
  have hy : ys.size = 4 := hy
  refine ⟨fun op => run_eqGuard_agg w op t x y xs ys hm, ?_⟩
  have hf : P.fieldsOf t = #[f0, f1, f2] := by unfold Program.fieldsOf; rw [hu]
  show (Op.equalIn (9999 + 1) t (.agg xs) (.agg ys)).run P w = _
  rw [run_equalIn_agg w 9999 t xs ys (by rw [hf]; exact hu) hp, hf]
  have gx0 : xs.getD 0 undef = .string u.name := gval (gx 0 (by show 0 < 4; omega))
  have gy0 : ys.getD 0 undef = .string v.name := gval (gy 0 (by show 0 < 4; omega))
  have gx1 : xs.getD 1 undef = .int .i64 u.type.1 := gval (gx 1 (by show 1 < 4; omega))
  have gy1 : ys.getD 1 undef = .int .i64 v.type.1 := gval (gy 1 (by show 1 < 4; omega))
  have gx2 : xs.getD 2 undef = .string u.type.2 := gval (gx 2 (by show 2 < 4; omega))
  have gy2 : ys.getD 2 undef = .string v.type.2 := gval (gy 2 (by show 2 < 4; omega))
  have gx3 : xs.getD 3 undef = .bool u.static := gval (gx 3 (by show 3 < 4; omega))
  have gy3 : ys.getD 3 undef = .bool v.static := gval (gy 3 (by show 3 < 4; omega))
  have e0 := eq_step w 9998 f0 [f1, f2] xs ys _ _ (u.name.toList == v.name.toList) (cellsEq (tyC u.type) (tyC v.type) && ((u.static == v.static) && true)) n0.1 (part_flat w f0 n0.2.2 rfl xs (by rw [n0.2.1]; omega)) (part_flat w f0 n0.2.2 rfl ys (by rw [n0.2.1]; omega))
    (by rw [n0.2.1, gx0, gy0]; exact run_equalIn_string w 9998 f0.type _ _ n0.2.2) ?_
  · show (Op.eqFields 9999 xs ys [f0, f1, f2]).run P w = _
    rw [e0]
    show Result.ok ((u.name.toList == v.name.toList) && (cellsEq (tyC u.type) (tyC v.type) && ((u.static == v.static) && true))) w = Result.ok (cellsEq (fldC u) (fldC v)) w
    simp [cellsEq, cellEq, fldC, tyC, Bool.and_assoc]
  · have sub : (Op.equalIn (9998 + 1) f1.type (.agg (xs.extract f1.offset (f1.offset + i.size))) (.agg (ys.extract f1.offset (f1.offset + i.size)))).run P w = .ok (cellsEq (tyC u.type) (tyC v.type)) w := by
      have hf1 : P.fieldsOf f1.type = gs := by unfold Program.fieldsOf; rw [n1.2.2]
      rw [run_equalIn_agg w 9998 f1.type _ _ (by rw [hf1]; exact n1.2.2) hp1, hf1, n1.2.1, hz]
      have q : ∀ (zs : Array Value) (a b : Value), zs.size = 4 → zs.getD 1 undef = a → zs.getD 2 undef = b → ∀ j, j < 2 → (zs.extract 1 (1 + 2)).getD j undef = if j = 0 then a else b := by
        intro zs a b hs h1 h2 j hj
        match j, hj with
        | 0, _ => rw [if_pos rfl, ← h1]; simp [Array.getD, hs]
        | 1, _ => rw [if_neg (by decide), ← h2]; simp [Array.getD, hs]
      refine run_eqFields (H := H) (β := β) (T := T) w 9997 (xs.extract 1 (1 + 2)) (ys.extract 1 (1 + 2)) gs.toList [.int .i64, .str] (tyC u.type) (tyC v.type) 0 hk rfl rfl ?_ ?_ (by simp [tyC, hx]) (by simp [tyC, hy])
      · intro j hj
        have hj : j < 2 := hj
        rw [Nat.zero_add, q xs _ _ hx gx1 gx2 j hj]
        match j, hj with
        | 0, _ => exact .val _
        | 1, _ => exact .val _
      · intro j hj
        have hj : j < 2 := hj
        rw [Nat.zero_add, q ys _ _ hy gy1 gy2 j hj]
        match j, hj with
        | 0, _ => exact .val _
        | 1, _ => exact .val _
    have e2 := eq_step w 9998 f2 [] xs ys _ _ (u.static == v.static) true n2.1 (part_flat w f2 n2.2.2 rfl xs (by rw [n2.2.1]; omega)) (part_flat w f2 n2.2.2 rfl ys (by rw [n2.2.1]; omega))
      (by rw [n2.2.1, gx3, gy3]; exact run_equalIn_bool w 9998 f2.type _ _ n2.2.2) (by simp [Op.eqFields])
    exact eq_step w 9998 f1 [f2] xs ys _ _ _ _ n1.1 (part_sub w f1 n1.2.2 hi xs) (part_sub w f1 n1.2.2 hi ys) sub e2
theorem fld_eq : EqSound Tryd.prog 45 (flatC Fld fldC) := by
  obtain ⟨i, hi, hz⟩ := Option.map_eq_some_iff.1 (show (Tryd.prog.info? 37).map (·.size) = some 2 by kernel_rfl)
  exact fld_shape Tryd.underlying45 (by kernel_rfl) (by kernel_rfl) ⟨by decide, rfl, Tryd.underlying9⟩ ⟨by decide, rfl, Tryd.underlying37⟩ ⟨by decide, rfl, Tryd.underlying4⟩ hi hz (by kernel_rfl) (by kernel_rfl)
theorem fld_dec (a b : Fld) : cellsEq (fldC a) (fldC b) = decide (a = b) := by
  obtain ⟨a1, ⟨a2, a3⟩, a4⟩ := a
  obtain ⟨b1, ⟨b2, b3⟩, b4⟩ := b
  rw [Bool.eq_iff_iff]
  simp [fldC, cellsEq, cellEq, ba_eq, and_assoc]
abbrev LB : Nat := 4611686018427387904
def mLen (m : Meth) : Prop := m.params.length ≤ LB ∧ m.code.length ≤ LB ∧ m.catches.length ≤ LB
def cLen (c : Cls) : Prop := c.ifaces.length ≤ LB ∧ c.fields.length ≤ LB ∧ c.methods.length ≤ LB ∧ ∀ m ∈ c.methods, mLen m
def pLen (p : List Cls) : Prop := p.length ≤ LB ∧ ∀ c ∈ p, cLen c
def kepC (T : Type) [DecidableEq T] (e : T → SV) (d : T → Prop) : Ctr := { A := T × T, enc := fun x => [e x.1, e x.2], dom := fun x => d x.1 ∧ d x.2, res := fun x _ => B (decide (x.1 = x.2)) }
theorem cat_eq : EqSound Tryd.prog 54 (flatC Cat catC) :=
  eq_flat [.str, .int .i64, .int .i64, .int .i64] _ catC Tryd.underlying54 (by kernel_rfl) (by kernel_rfl) (by kernel_rfl) (fun _ => rfl)
theorem cat_dec (a b : Cat) : cellsEq (catC a) (catC b) = decide (a = b) := by
  obtain ⟨a1, a2, a3, a4⟩ := a
  obtain ⟨b1, b2, b3, b4⟩ := b
  rw [Bool.eq_iff_iff]
  simp [catC, cellsEq, cellEq, ba_eq]
theorem kins_eq : EqSound Tryd.prog 52 (flatC Ins insC) :=
  eq_flat [.int .i64, .int .i64, .str, .str] _ insC Tryd.underlying52 (by kernel_rfl) (by kernel_rfl) (by kernel_rfl) (fun _ => rfl)
theorem kins_dec (a b : Ins) : cellsEq (insC a) (insC b) = decide (a = b) := by
  obtain ⟨a1, a2, a3, a4⟩ := a
  obtain ⟨b1, b2, b3, b4⟩ := b
  rw [Bool.eq_iff_iff]
  simp [insC, cellsEq, cellEq, ba_eq]
set_option maxRecDepth 100000 in
theorem kStrings_ok : CtrSound Tryd.prog 44 (keepR ByteArray 1 strC noS) :=
  ctr_of_ax (env_ok tys_ok (eqs := []) trivial (cs := []) trivial) mixed _ Tryd.func44 (by kernel_rfl) rfl (fun _ _ => Nat.le_of_ble_eq_true rfl) fun ((k, l) : List ByteArray × List ByteArray) id hd => by
    have hd : k.length ≤ 4611686018427387904 := hd
    have no : ¬ (k = l) → Sub .ff (B (decide (k = l))) := fun h => .bff (decide_eq_false h)
    refine ⟨fun h2 => ?_, fun h2 => ?_⟩
    · exact ⟨no fun q => lneT h2 (by rw [q]), rfl⟩
    have hl : k.length = l.length := lneF h2
    refine ⟨Nat, fun i => [(0, .row ByteArray 1 strC noS k), (1, .row ByteArray 1 strC noS l), (5, I i)], fun _ => [], fun i => i ≤ k.length ∧ ∀ j, j < i → k.getD j noS = l.getD j noS, fun i => k.length - i,
      ⟨0, ⟨Nat.zero_le _, fun j hj => by omega⟩, ⟨⟨rfl, rfl⟩, .refl _, .refl _, .refl _, trivial⟩⟩, fun (i : Nat) hi => ?_⟩
    have hil := hi.1
    have hwj : IntKind.i64.wrap ((i : Int) + 1) = ((i + 1 : Nat) : Int) := by rw [wrap_eq _ (by omega) (by omega)]; omega
    refine ⟨fun h => ?_, fun h => ?_⟩
    · have hlt : i < k.length := dlt h
      refine ⟨by kernel_rfl, ?_⟩
      refine ⟨⟨by omega, by omega⟩, ⟨by omega, by omega⟩, ?_⟩
      refine ⟨fun h => ?_, fun h => ?_⟩
      · have h : (!((k.getD i noS).toList == (l.getD i noS).toList)) = true := h
        exact ⟨no fun q => by rw [q] at h; simp at h, rfl⟩
      · have h : (!((k.getD i noS).toList == (l.getD i noS).toList)) = false := h
        have he : k.getD i noS = l.getD i noS := baT (notF h)
        exact ⟨i + 1, ⟨hlt, fun j hj => by rcases Nat.lt_succ_iff_lt_or_eq.1 hj with q | rfl; exact hi.2 j q; exact he⟩, by show k.length - (i + 1) < k.length - i; omega, ⟨rfl, rfl⟩, .refl _, .refl _, .int hwj, trivial⟩
    · have hge : i = k.length := Nat.le_antisymm hil (dge h)
      exact ⟨.btt (decide_eq_true (ext_getD noS hl fun j (hj : j < k.length) => hi.2 j (hge ▸ hj))), rfl⟩
set_option maxRecDepth 100000 in
set_option maxHeartbeats 4000000 in
theorem kMethod_ok : CtrSound Tryd.prog 45 (kepC Meth (fun m => .agg (methC m)) mLen) :=
  ctr_of_ax (env_ok tys_ok (eqs := [(37, flatC Ty tyC), (52, flatC Ins insC), (54, flatC Cat catC)]) ⟨ty_eq, kins_eq, cat_eq, trivial⟩ (cs := [(65, keepR Ty 2 tyC ty0)]) ⟨kTypes_ok, trivial⟩) mixed _ Tryd.func45 (by kernel_rfl) rfl (fun _ _ => Nat.le_of_ble_eq_true rfl) fun ((a, b) : Meth × Meth) id hd => by
    have hd1 : mLen a := hd.1
    obtain ⟨b1, b2, b3⟩ := hd1
    have no : ¬ (a = b) → Sub .ff (B (decide (a = b))) := fun h => .bff (decide_eq_false h)
    refine ⟨fun h => ?_, fun h => ?_⟩
    · have h : (!(a.name.toList == b.name.toList)) = true := h
      exact ⟨no fun q => by rw [q] at h; simp at h, rfl⟩
    have e_name : a.name = b.name := baT (notF h)
    refine ⟨fun h => ?_, fun h => ?_⟩
    · have h : (!(a.static == b.static)) = true := h
      exact ⟨no fun q => by rw [q] at h; simp at h, rfl⟩
    have e_static : a.static = b.static := by
      have h : (!(a.static == b.static)) = false := h
      simpa using h
    refine ⟨fun h => ?_, fun h => ?_⟩
    · have h : (!(a.abs == b.abs)) = true := h
      exact ⟨no fun q => by rw [q] at h; simp at h, rfl⟩
    have e_abs : a.abs = b.abs := by
      have h : (!(a.abs == b.abs)) = false := h
      simpa using h
    refine ⟨(a.params, b.params), ⟨.refl _, .refl _, trivial⟩, rfl, b1, ?_⟩
    refine ⟨fun h => ?_, fun h => ?_⟩
    · have h : (!decide (a.params = b.params)) = true := h
      exact ⟨no fun q => by rw [q] at h; simp at h, rfl⟩
    have e_params : a.params = b.params := by
      have h : (!decide (a.params = b.params)) = false := h
      simpa using h
    refine ⟨a.ret, b.ret, ⟨.refl _, .refl _, trivial⟩, ⟨.refl _, .refl _, trivial⟩, ?_⟩
    refine ⟨fun h => ?_, fun h => ?_⟩
    · have h : (!cellsEq (tyC a.ret) (tyC b.ret)) = true := h
      rw [ty_dec] at h
      exact ⟨no fun q => by rw [q] at h; simp at h, rfl⟩
    have e_ret : a.ret = b.ret := by
      have h : (!cellsEq (tyC a.ret) (tyC b.ret)) = false := h
      rw [ty_dec] at h
      simpa using h
    refine ⟨fun h => ?_, fun h => ?_⟩
    · have h : (a.locals != b.locals) = true := h
      exact ⟨no fun q => by rw [q] at h; simp at h, rfl⟩
    have e_locals : a.locals = b.locals := by
      have h : (a.locals != b.locals) = false := h
      simpa using h
    refine ⟨fun h => ?_, fun h => ?_⟩
    · have h : ((a.code.length : Int) != (b.code.length : Int)) = true := h
      exact ⟨no fun q => by rw [q] at h; simp at h, rfl⟩
    have l_code : a.code.length = b.code.length := lneF h
    refine ⟨fun h => ?_, fun h => ?_⟩
    · have h : ((a.catches.length : Int) != (b.catches.length : Int)) = true := h
      exact ⟨no fun q => by rw [q] at h; simp at h, rfl⟩
    have l_catches : a.catches.length = b.catches.length := lneF h
    have b2 : a.code.length ≤ 4611686018427387904 := b2
    have b3 : a.catches.length ≤ 4611686018427387904 := b3
    refine ⟨Nat, fun i => [(2, .box 2 0), (3, .box 3 0), (5, I i)], fun _ => [(2, methC a), (3, methC b)], fun i => i ≤ a.code.length ∧ ∀ j, j < i → a.code.getD j ins0 = b.code.getD j ins0, fun i => a.code.length - i,
      ⟨0, ⟨Nat.zero_le _, fun j hj => by omega⟩, ⟨⟨rfl, rfl⟩, .refl _, .refl _, .refl _, ⟨.refl _, .refl _, .refl _, .refl _, .refl _, .refl _, .refl _, .refl _, .refl _, trivial⟩, ⟨.refl _, .refl _, .refl _, .refl _, .refl _, .refl _, .refl _, .refl _, .refl _, trivial⟩, trivial⟩⟩, fun (i : Nat) hi => ?_⟩
    have hil : i ≤ a.code.length := hi.1
    have hwj : IntKind.i64.wrap ((i : Int) + 1) = ((i + 1 : Nat) : Int) := by rw [wrap_eq _ (by omega) (by omega)]; omega
    refine ⟨fun h => ?_, fun h => ?_⟩
    · have hlt : i < a.code.length := dlt h
      refine ⟨by kernel_rfl, ?_⟩
      refine ⟨(show 0 ≤ (i : Int) ∧ (i : Int) < (a.code.length : Int) by omega), (show 0 ≤ (i : Int) ∧ (i : Int) < (b.code.length : Int) by omega), ?_⟩
      refine ⟨a.code.getD i ins0, b.code.getD i ins0, ⟨.refl _, .refl _, .refl _, .refl _, trivial⟩, ⟨.refl _, .refl _, .refl _, .refl _, trivial⟩, ?_⟩
      refine ⟨fun h => ?_, fun h => ?_⟩
      · have h : (!cellsEq (insC (a.code.getD i ins0)) (insC (b.code.getD i ins0))) = true := h
        rw [kins_dec] at h
        exact ⟨no fun q => by rw [q] at h; simp at h, rfl⟩
      · have h : (!cellsEq (insC (a.code.getD i ins0)) (insC (b.code.getD i ins0))) = false := h
        rw [kins_dec] at h
        have he : a.code.getD i ins0 = b.code.getD i ins0 := by simpa using h
        exact ⟨i + 1, ⟨hlt, fun j hj => by rcases Nat.lt_succ_iff_lt_or_eq.1 hj with q | rfl; exact hi.2 j q; exact he⟩, (show a.code.length - (i + 1) < a.code.length - i by omega), ⟨rfl, rfl⟩, .refl _, .int hwj, .refl _, ⟨.refl _, .refl _, .refl _, .refl _, .refl _, .refl _, .refl _, .refl _, .refl _, trivial⟩, ⟨.refl _, .refl _, .refl _, .refl _, .refl _, .refl _, .refl _, .refl _, .refl _, trivial⟩, trivial⟩
    have e_code : a.code = b.code := by
      have hge : i = a.code.length := Nat.le_antisymm hil (dge h)
      exact ext_getD ins0 l_code fun j (hj : j < a.code.length) => hi.2 j (hge ▸ hj)
    clear hi hil hwj h
    refine ⟨Nat, fun i => [(2, .box 2 0), (3, .box 3 0), (6, I i)], fun _ => [(2, methC a), (3, methC b)], fun i => i ≤ a.catches.length ∧ ∀ j, j < i → a.catches.getD j cat0 = b.catches.getD j cat0, fun i => a.catches.length - i,
      ⟨0, ⟨Nat.zero_le _, fun j hj => by omega⟩, ⟨⟨rfl, rfl⟩, .refl _, .refl _, .refl _, ⟨.refl _, .refl _, .refl _, .refl _, .refl _, .refl _, .refl _, .refl _, .refl _, trivial⟩, ⟨.refl _, .refl _, .refl _, .refl _, .refl _, .refl _, .refl _, .refl _, .refl _, trivial⟩, trivial⟩⟩, fun (i : Nat) hi => ?_⟩
    have hil : i ≤ a.catches.length := hi.1
    have hwj : IntKind.i64.wrap ((i : Int) + 1) = ((i + 1 : Nat) : Int) := by rw [wrap_eq _ (by omega) (by omega)]; omega
    refine ⟨fun h => ?_, fun h => ?_⟩
    · have hlt : i < a.catches.length := dlt h
      refine ⟨by kernel_rfl, ?_⟩
      refine ⟨(show 0 ≤ (i : Int) ∧ (i : Int) < (a.catches.length : Int) by omega), (show 0 ≤ (i : Int) ∧ (i : Int) < (b.catches.length : Int) by omega), ?_⟩
      refine ⟨a.catches.getD i cat0, b.catches.getD i cat0, ⟨.refl _, .refl _, .refl _, .refl _, trivial⟩, ⟨.refl _, .refl _, .refl _, .refl _, trivial⟩, ?_⟩
      refine ⟨fun h => ?_, fun h => ?_⟩
      · have h : (!cellsEq (catC (a.catches.getD i cat0)) (catC (b.catches.getD i cat0))) = true := h
        rw [cat_dec] at h
        exact ⟨no fun q => by rw [q] at h; simp at h, rfl⟩
      · have h : (!cellsEq (catC (a.catches.getD i cat0)) (catC (b.catches.getD i cat0))) = false := h
        rw [cat_dec] at h
        have he : a.catches.getD i cat0 = b.catches.getD i cat0 := by simpa using h
        exact ⟨i + 1, ⟨hlt, fun j hj => by rcases Nat.lt_succ_iff_lt_or_eq.1 hj with q | rfl; exact hi.2 j q; exact he⟩, (show a.catches.length - (i + 1) < a.catches.length - i by omega), ⟨rfl, rfl⟩, .refl _, .refl _, .int hwj, ⟨.refl _, .refl _, .refl _, .refl _, .refl _, .refl _, .refl _, .refl _, .refl _, trivial⟩, ⟨.refl _, .refl _, .refl _, .refl _, .refl _, .refl _, .refl _, .refl _, .refl _, trivial⟩, trivial⟩
    have e_catches : a.catches = b.catches := by
      have hge : i = a.catches.length := Nat.le_antisymm hil (dge h)
      exact ext_getD cat0 l_catches fun j (hj : j < a.catches.length) => hi.2 j (hge ▸ hj)
    clear hi hil hwj h
    exact ⟨.btt (decide_eq_true (by cases a; cases b; simp_all)), rfl⟩
set_option maxRecDepth 100000 in
set_option maxHeartbeats 4000000 in
theorem kClass_ok : CtrSound Tryd.prog 31 (kepC Cls (fun c => .agg (clsC c)) cLen) :=
  ctr_of_ax (env_ok tys_ok (eqs := [(45, flatC Fld fldC)]) ⟨fld_eq, trivial⟩ (cs := [(44, keepR ByteArray 1 strC noS), (45, kepC Meth (fun m => .agg (methC m)) mLen)]) ⟨kStrings_ok, kMethod_ok, trivial⟩) mixed _ Tryd.func31 (by kernel_rfl) rfl (fun _ _ => Nat.le_of_ble_eq_true rfl) fun ((a, b) : Cls × Cls) id hd => by
    have hd1 : cLen a := hd.1
    have hd2 : cLen b := hd.2
    obtain ⟨b1, b2, b3, b4⟩ := hd1
    have no : ¬ (a = b) → Sub .ff (B (decide (a = b))) := fun h => .bff (decide_eq_false h)
    refine ⟨fun h => ?_, fun h => ?_⟩
    · have h : (!(a.name.toList == b.name.toList)) = true := h
      exact ⟨no fun q => by rw [q] at h; simp at h, rfl⟩
    have e_name : a.name = b.name := baT (notF h)
    refine ⟨fun h => ?_, fun h => ?_⟩
    · have h : (!(a.iface == b.iface)) = true := h
      exact ⟨no fun q => by rw [q] at h; simp at h, rfl⟩
    have e_iface : a.iface = b.iface := by
      have h : (!(a.iface == b.iface)) = false := h
      simpa using h
    refine ⟨fun h => ?_, fun h => ?_⟩
    · have h : (!(a.super.toList == b.super.toList)) = true := h
      exact ⟨no fun q => by rw [q] at h; simp at h, rfl⟩
    have e_super : a.super = b.super := baT (notF h)
    refine ⟨(a.ifaces, b.ifaces), ⟨.refl _, .refl _, trivial⟩, rfl, b1, ?_⟩
    refine ⟨fun h => ?_, fun h => ?_⟩
    · have h : (!decide (a.ifaces = b.ifaces)) = true := h
      exact ⟨no fun q => by rw [q] at h; simp at h, rfl⟩
    have e_ifaces : a.ifaces = b.ifaces := by
      have h : (!decide (a.ifaces = b.ifaces)) = false := h
      simpa using h
    refine ⟨fun h => ?_, fun h => ?_⟩
    · have h : ((a.fields.length : Int) != (b.fields.length : Int)) = true := h
      exact ⟨no fun q => by rw [q] at h; simp at h, rfl⟩
    have l_fields : a.fields.length = b.fields.length := lneF h
    refine ⟨fun h => ?_, fun h => ?_⟩
    · have h : ((a.methods.length : Int) != (b.methods.length : Int)) = true := h
      exact ⟨no fun q => by rw [q] at h; simp at h, rfl⟩
    have l_methods : a.methods.length = b.methods.length := lneF h
    have b2 : a.fields.length ≤ 4611686018427387904 := b2
    have b3 : a.methods.length ≤ 4611686018427387904 := b3
    refine ⟨Nat, fun i => [(2, .box 2 0), (3, .box 3 0), (5, I i)], fun _ => [(2, clsC a), (3, clsC b)], fun i => i ≤ a.fields.length ∧ ∀ j, j < i → a.fields.getD j fld0 = b.fields.getD j fld0, fun i => a.fields.length - i,
      ⟨0, ⟨Nat.zero_le _, fun j hj => by omega⟩, ⟨⟨rfl, rfl⟩, .refl _, .refl _, .refl _, ⟨.refl _, .refl _, .refl _, .refl _, .refl _, .refl _, trivial⟩, ⟨.refl _, .refl _, .refl _, .refl _, .refl _, .refl _, trivial⟩, trivial⟩⟩, fun (i : Nat) hi => ?_⟩
    have hil : i ≤ a.fields.length := hi.1
    have hwj : IntKind.i64.wrap ((i : Int) + 1) = ((i + 1 : Nat) : Int) := by rw [wrap_eq _ (by omega) (by omega)]; omega
    refine ⟨fun h => ?_, fun h => ?_⟩
    · have hlt : i < a.fields.length := dlt h
      refine ⟨by kernel_rfl, ?_⟩
      refine ⟨(show 0 ≤ (i : Int) ∧ (i : Int) < (a.fields.length : Int) by omega), (show 0 ≤ (i : Int) ∧ (i : Int) < (b.fields.length : Int) by omega), ?_⟩
      refine ⟨a.fields.getD i fld0, b.fields.getD i fld0, ⟨.refl _, .refl _, .refl _, .refl _, trivial⟩, ⟨.refl _, .refl _, .refl _, .refl _, trivial⟩, ?_⟩
      refine ⟨fun h => ?_, fun h => ?_⟩
      · have h : (!cellsEq (fldC (a.fields.getD i fld0)) (fldC (b.fields.getD i fld0))) = true := h
        rw [fld_dec] at h
        exact ⟨no fun q => by rw [q] at h; simp at h, rfl⟩
      · have h : (!cellsEq (fldC (a.fields.getD i fld0)) (fldC (b.fields.getD i fld0))) = false := h
        rw [fld_dec] at h
        have he : a.fields.getD i fld0 = b.fields.getD i fld0 := by simpa using h
        exact ⟨i + 1, ⟨hlt, fun j hj => by rcases Nat.lt_succ_iff_lt_or_eq.1 hj with q | rfl; exact hi.2 j q; exact he⟩, (show a.fields.length - (i + 1) < a.fields.length - i by omega), ⟨rfl, rfl⟩, .refl _, .int hwj, .refl _, ⟨.refl _, .refl _, .refl _, .refl _, .refl _, .refl _, trivial⟩, ⟨.refl _, .refl _, .refl _, .refl _, .refl _, .refl _, trivial⟩, trivial⟩
    have e_fields : a.fields = b.fields := by
      have hge : i = a.fields.length := Nat.le_antisymm hil (dge h)
      exact ext_getD fld0 l_fields fun j (hj : j < a.fields.length) => hi.2 j (hge ▸ hj)
    clear hi hil hwj h
    refine ⟨Nat, fun i => [(2, .box 2 0), (3, .box 3 0), (6, I i)], fun _ => [(2, clsC a), (3, clsC b)], fun i => i ≤ a.methods.length ∧ ∀ j, j < i → a.methods.getD j meth0 = b.methods.getD j meth0, fun i => a.methods.length - i,
      ⟨0, ⟨Nat.zero_le _, fun j hj => by omega⟩, ⟨⟨rfl, rfl⟩, .refl _, .refl _, .refl _, ⟨.refl _, .refl _, .refl _, .refl _, .refl _, .refl _, trivial⟩, ⟨.refl _, .refl _, .refl _, .refl _, .refl _, .refl _, trivial⟩, trivial⟩⟩, fun (i : Nat) hi => ?_⟩
    have hil : i ≤ a.methods.length := hi.1
    have hwj : IntKind.i64.wrap ((i : Int) + 1) = ((i + 1 : Nat) : Int) := by rw [wrap_eq _ (by omega) (by omega)]; omega
    refine ⟨fun h => ?_, fun h => ?_⟩
    · have hlt : i < a.methods.length := dlt h
      refine ⟨by kernel_rfl, ?_⟩
      refine ⟨(show 0 ≤ (i : Int) ∧ (i : Int) < (a.methods.length : Int) by omega), (show 0 ≤ (i : Int) ∧ (i : Int) < (b.methods.length : Int) by omega), ?_⟩
      refine ⟨(a.methods.getD i meth0, b.methods.getD i meth0), ⟨.refl _, .refl _, trivial⟩, rfl, ⟨b4 _ (getT_mem _ _ _ hlt), hd2.2.2.2 _ (getT_mem _ _ _ (l_methods ▸ hlt))⟩, ?_⟩
      refine ⟨fun h => ?_, fun h => ?_⟩
      · have h : (!decide ((a.methods.getD i meth0) = (b.methods.getD i meth0))) = true := h
        skip
        exact ⟨no fun q => by rw [q] at h; simp at h, rfl⟩
      · have h : (!decide ((a.methods.getD i meth0) = (b.methods.getD i meth0))) = false := h
        skip
        have he : a.methods.getD i meth0 = b.methods.getD i meth0 := by simpa using h
        exact ⟨i + 1, ⟨hlt, fun j hj => by rcases Nat.lt_succ_iff_lt_or_eq.1 hj with q | rfl; exact hi.2 j q; exact he⟩, (show a.methods.length - (i + 1) < a.methods.length - i by omega), ⟨rfl, rfl⟩, .refl _, .refl _, .int hwj, ⟨.refl _, .refl _, .refl _, .refl _, .refl _, .refl _, trivial⟩, ⟨.refl _, .refl _, .refl _, .refl _, .refl _, .refl _, trivial⟩, trivial⟩
    have e_methods : a.methods = b.methods := by
      have hge : i = a.methods.length := Nat.le_antisymm hil (dge h)
      exact ext_getD meth0 l_methods fun j (hj : j < a.methods.length) => hi.2 j (hge ▸ hj)
    clear hi hil hwj h
    exact ⟨.btt (decide_eq_true (by cases a; cases b; simp_all)), rfl⟩
def kRow : Ctr := { A := List Cls × List Cls, enc := fun x => [prgR x.1, prgR x.2], dom := fun x => pLen x.1 ∧ pLen x.2, res := fun x _ => B (decide (x.1 = x.2)) }
set_option maxRecDepth 100000 in
theorem kClasses_ok : CtrSound Tryd.prog 20 kRow :=
  ctr_of_ax (env_ok tys_ok (eqs := []) trivial (cs := [(31, kepC Cls (fun c => .agg (clsC c)) cLen)]) ⟨kClass_ok, trivial⟩) mixed _ Tryd.func20 (by kernel_rfl) rfl (fun _ _ => Nat.le_of_ble_eq_true rfl) fun ((k, l) : List Cls × List Cls) id hd => by
    have hd0 : pLen k := hd.1
    have hd2 : pLen l := hd.2
    have hd : k.length ≤ 4611686018427387904 := hd0.1
    have no : ¬ (k = l) → Sub .ff (B (decide (k = l))) := fun h => .bff (decide_eq_false h)
    refine ⟨fun h2 => ?_, fun h2 => ?_⟩
    · exact ⟨no fun q => lneT h2 (by rw [q]), rfl⟩
    have hl : k.length = l.length := lneF h2
    refine ⟨Nat, fun i => [(0, prgR k), (1, prgR l), (5, I i)], fun _ => [], fun i => i ≤ k.length ∧ ∀ j, j < i → k.getD j cls0 = l.getD j cls0, fun i => k.length - i,
      ⟨0, ⟨Nat.zero_le _, fun j hj => by omega⟩, ⟨⟨rfl, rfl⟩, .refl _, .refl _, .refl _, trivial⟩⟩, fun (i : Nat) hi => ?_⟩
    have hil := hi.1
    have hwj : IntKind.i64.wrap ((i : Int) + 1) = ((i + 1 : Nat) : Int) := by rw [wrap_eq _ (by omega) (by omega)]; omega
    refine ⟨fun h => ?_, fun h => ?_⟩
    · have hlt : i < k.length := dlt h
      refine ⟨by kernel_rfl, ?_⟩
      refine ⟨⟨by omega, by omega⟩, ⟨by omega, by omega⟩, ?_⟩
      refine ⟨(k.getD i cls0, l.getD i cls0), ⟨.refl _, .refl _, trivial⟩, rfl, ⟨hd0.2 _ (getT_mem _ _ _ hlt), hd2.2 _ (getT_mem _ _ _ (hl ▸ hlt))⟩, ?_⟩
      refine ⟨fun h => ?_, fun h => ?_⟩
      · have h : (!decide (k.getD i cls0 = l.getD i cls0)) = true := h
        exact ⟨no fun q => by rw [q] at h; simp at h, rfl⟩
      · have h : (!decide (k.getD i cls0 = l.getD i cls0)) = false := h
        have he : k.getD i cls0 = l.getD i cls0 := by simpa using h
        exact ⟨i + 1, ⟨hlt, fun j hj => by rcases Nat.lt_succ_iff_lt_or_eq.1 hj with q | rfl; exact hi.2 j q; exact he⟩, by show k.length - (i + 1) < k.length - i; omega, ⟨rfl, rfl⟩, .refl _, .refl _, .int hwj, trivial⟩
    · have hge : i = k.length := Nat.le_antisymm hil (dge h)
      exact ⟨.btt (decide_eq_true (ext_getD cls0 hl fun j (hj : j < k.length) => hi.2 j (hge ▸ hj))), rfl⟩
def kPrg : Ctr := { A := List Cls × List Cls, enc := fun x => [.agg [prgR x.1], .agg [prgR x.2]], dom := fun x => pLen x.1 ∧ pLen x.2, res := fun x _ => B (decide (x.1 = x.2)) }
set_option maxRecDepth 100000 in
theorem kPrg_ok : CtrSound Tryd.prog 10 kPrg :=
  ctr_of_ax (env_ok tys_ok (eqs := []) trivial (cs := [(20, kRow)]) ⟨kClasses_ok, trivial⟩) mixed _ Tryd.func10 (by kernel_rfl) rfl (fun _ _ => Nat.le_of_ble_eq_true rfl) fun ((k, l) : List Cls × List Cls) id hd => by
    refine ⟨(k, l), ⟨.refl _, .refl _, trivial⟩, rfl, hd, ?_⟩
    exact ⟨.refl _, rfl⟩
end Go.Proofs.YtadimoijlgmecaaDoor.Ax
