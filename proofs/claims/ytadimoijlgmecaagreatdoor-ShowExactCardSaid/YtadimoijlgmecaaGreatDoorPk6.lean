/- Walks and laws, part 6: Sn Wa So Sq Gv Sr Ta Tg Ha Hc Hd Tc Td Ti. -/
import Derived.Test.YtadimoijlgmecaaGreatDoorPk5
import Derived.Shelf.Strings.BuilderK
import Derived.WalkKit
import Derived.BigCall
import Derived.Lib.Hide
/- Layer show: the words of classes. PRINTED by wip/sp/sn.py. -/
set_option linter.unusedVariables false
set_option linter.unusedSimpArgs false
namespace Go.Proofs.YtadimoijlgmecaaGreatDoor.Ax
open Go Go.RowKit
theorem does_len {m : Meth} (h : methOk m = true) : (doesF m).length ≤ 400 := by
  obtain ⟨hp1, hp2, hp3, hp4, hp5, hp6, hp7⟩ := meth_parts h
  have hpl := paramsF_len m.params
  have hkr := kindW_len m.ret
  have hm1 : (doM1 m).length ≤ 100 := by unfold doM1 hdM; simp only [List.length_append, List.length_cons, List.length_nil]; omega
  have hm2 : (doM2 m).length ≤ 103 := by unfold doM2; simp only [List.length_append, List.length_cons, List.length_nil]; omega
  have h1 := flat_le codeF 5 m.code fun x _ => codeF_len x
  have h2 := flat_le catF 6 m.catches fun c _ => Nat.le_of_eq (catF_len c)
  have h3 := hp6.1
  have h4 := hp7.1
  cases ha : m.abs with
  | true => rw [doesF_abs ha]; simp only [List.length_append, List.length_cons, List.length_nil]; omega
  | false => rw [doesF_code ha]; simp only [List.length_append, List.length_cons, List.length_nil]; omega
theorem fldF_len (f : Fld) : (fldF f).length ≤ 7 := by
  have := kindW_len f.type
  unfold fldF; simp only [List.length_append, List.length_cons, List.length_nil]; omega
theorem takeM_le (l : List Meth) (h : ∀ m ∈ l, methOk m = true) (i : Nat) : ((l.take i).flatMap doesF).length ≤ 400 * l.length := by
  have h1 := flat_le doesF 400 (l.take i) fun x hx => does_len (h x (List.mem_of_mem_take hx))
  have h2 : (l.take i).length ≤ l.length := by rw [List.length_take]; omega
  exact Nat.le_trans h1 (Nat.mul_le_mul_left 400 h2)
def hdC (c : Cls) : List ByteArray := [if c.iface then wInterface else wClass, c.name]
def supC (c : Cls) : List ByteArray := if c.super = noS then [] else [wExtends, c.super]
def lstC (c : Cls) : List ByteArray := listF (if c.iface then wExtends else wImplements) c.ifaces
def doC1 (c : Cls) : List ByteArray := hdC c ++ supC c ++ lstC c ++ [wLc]
theorem wordsC_eq (c : Cls) : wordsC c = doC1 c ++ c.fields.flatMap fldF ++ c.methods.flatMap doesF ++ [wRc] := by
  unfold wordsC doC1 hdC supC lstC; simp
def wordsK : Ctr := { A := Cls, enc := fun c => [.agg (clsC c)], dom := fun c => clsOk c = true, res := fun c id => .own ByteArray 1 strC noS (wordsC c) id, gl := tabS }
set_option maxRecDepth 100000 in
set_option maxHeartbeats 8000000 in
theorem words_ok : CtrSound Tryz.prog 21 wordsK :=
  ctr_of_ax (env_okB tys_ok (eqs := []) trivial (cs := [(28, kindC), (40, doesC), (39, listC)]) ⟨kind_ok, does_ok, list_ok, trivial⟩ (bs := []) trivial (vec := [12]) (gl := tabS) (cut := [4]) (sq := [800052])) mixed _ Tryz.func21 (by kernel_rfl) rfl (fun _ _ => Nat.le_of_ble_eq_true rfl) fun (c : Cls) id hd => by
    have hd : clsOk c = true := hd
    obtain ⟨hp1, hp2, hp3, hp4, hp5⟩ := cls_parts hd
    have hll := listF_len (if c.iface then wExtends else wImplements) c.ifaces
    have hsl : (supC c).length ≤ 2 := by unfold supC; split <;> simp
    have hl3 := hp3.1
    have hm1 : (doC1 c).length ≤ 20 := by unfold doC1 hdC lstC; simp only [List.length_append, List.length_cons, List.length_nil]; omega
    have hfl : ∀ i, ((c.fields.take i).flatMap fldF).length ≤ 42 := fun i => by
      have := takeF_le fldF 7 fldF_len c.fields i
      have := hp4.1
      omega
    have hml : ∀ i, ((c.methods.take i).flatMap doesF).length ≤ 2400 := fun i => by
      have := takeM_le c.methods hp5.2 i
      have := hp5.1
      omega
    have hns : (!(c.super.toList == (⟨#[]⟩ : ByteArray).toList)) = !decide (c.super = noS) := by rw [ba_eq]
    refine ⟨ByteArray, strC, noS, [wClass, c.name], ⟨rfl, fun _ => ⟨rfl, rfl, rfl⟩⟩, ⟨.refl _, .refl _, trivial⟩, ?_⟩
    refine ⟨Unit, fun _ => [(1, .box 1 0), (3, .arr 12 1 0 2 (some 2)), (4, S (if c.iface then wExtends else wImplements))], fun _ => [(1, clsC c), (12, [.many ByteArray 1 strC noS (hdC c)])], fun _ => True, ?_, fun _ _ => ?_⟩
    · refine ⟨fun h => ?_, fun h => ?_⟩
      · have h : c.iface = true := h
        refine ⟨⟨by decide, by decide⟩, ?_⟩
        refine ⟨⟨Int.le_refl 0, (show (0 : Int) < 2 by decide)⟩, ?_⟩
        refine ⟨wInterface, ⟨.refl _, trivial⟩, ?_⟩
        exact ⟨(), trivial, ⟨rfl, rfl⟩, .refl _, .refl _, .str (by rw [if_pos h]; rfl), ⟨.refl _, .refl _, .refl _, .refl _, .refl _, .refl _, trivial⟩, ⟨.manyEq (by unfold hdC; rw [if_pos h]; rfl), trivial⟩, trivial⟩
      · have h : c.iface = false := h
        exact ⟨(), trivial, ⟨rfl, rfl⟩, .refl _, .refl _, .str (by rw [if_neg (by rw [h]; decide)]; rfl), ⟨.refl _, .refl _, .refl _, .refl _, .refl _, .refl _, trivial⟩, ⟨.manyEq (by unfold hdC; rw [if_neg (by rw [h]; decide)]), trivial⟩, trivial⟩
    refine ⟨fun hs => ?_, fun hs => ?_⟩
    · have hs : supC c = [wExtends, c.super] := by
        have hs : (!(c.super.toList == (⟨#[]⟩ : ByteArray).toList)) = true := hs
        rw [hns] at hs
        unfold supC; rw [if_neg (by simpa using hs)]
      refine ⟨ByteArray, strC, noS, [wExtends, c.super], ⟨rfl, fun _ => rfl⟩, ⟨.refl _, .refl _, trivial⟩, rfl, ?_⟩
      refine .inl ⟨[wExtends, c.super], ⟨rfl, Nat.le_refl _, Nat.succ_pos _, .own ..⟩, (show (2 + 2) * 16 ≤ 140737488355328 by omega), ?_⟩
      refine ⟨(if c.iface then wExtends else wImplements, c.ifaces), ⟨.refl _, .refl _, trivial⟩, rfl, (show c.ifaces.length ≤ 100000 by omega), ?_⟩
      refine ⟨ByteArray, strC, noS, hdC c ++ [wExtends, c.super], lstC c, 24, ⟨.refl _, .own ..⟩, fun _ => rfl, (by unfold hdC lstC; simp only [List.length_append, List.length_cons, List.length_nil]; omega), ?_⟩
      refine ⟨ByteArray, strC, noS, [wLc], ⟨rfl, fun _ => rfl⟩, ⟨.refl _, trivial⟩, rfl, ?_⟩
      refine ⟨ByteArray, strC, noS, hdC c ++ [wExtends, c.super] ++ lstC c, [wLc], 30, ⟨.refl _, .own ..⟩, fun _ => rfl, (by unfold hdC lstC; simp only [List.length_append, List.length_cons, List.length_nil]; omega), ?_⟩
      have hdo : hdC c ++ [wExtends, c.super] ++ lstC c ++ [wLc] = doC1 c := by unfold doC1; rw [hs]
      refine ⟨Nat × Bool, fun s => [(1, .box 1 0), (3, .own ByteArray 1 strC noS (doC1 c ++ (c.fields.take s.1).flatMap fldF) (cond s.2 53 32)), (35, I c.fields.length), (36, I s.1), (34, .row Fld 4 fldC fld0 c.fields)], fun _ => [(1, clsC c)], fun s => s.1 ≤ c.fields.length, fun s => c.fields.length - s.1,
        ⟨(0, false), Nat.zero_le _, ⟨⟨rfl, rfl⟩, .refl _, .ownEq (by rw [← hdo]; simp [hdC]), .refl _, .refl _, .refl _, ⟨.refl _, .refl _, .refl _, .refl _, .refl _, .refl _, trivial⟩, trivial⟩⟩, fun ((i, b) : Nat × Bool) hi => ?_⟩
      have hi1 : i ≤ c.fields.length := hi
      have hwj : IntKind.i64.wrap ((i : Int) + 1) = ((i + 1 : Nat) : Int) := by rw [wrap_eq _ (by omega) (by omega)]; omega
      have hbi := hfl i
      cases b
      case false =>
        refine ⟨fun h => ?_, fun h => ?_⟩
        · have hlt : i < c.fields.length := by have := of_decide_eq_true h; omega
          have hs := flat_snoc fldF c.fields fld0 i hlt
          have hk := kindW_len (c.fields.getD i fld0).type
          refine ⟨⟨by omega, by omega⟩, ?_⟩
          refine ⟨fun h3 => ?_, fun h3 => ?_⟩
          · have h3 : (c.fields.getD i fld0).static = true := h3
            have hf : fldF (c.fields.getD i fld0) = [wStatic, (c.fields.getD i fld0).name, wColon] ++ (kindW (c.fields.getD i fld0).type ++ [wSemi]) := by unfold fldF; rw [if_pos h3]
            refine ⟨by kernel_rfl, ?_⟩
            refine ⟨ByteArray, strC, noS, [wStatic, (c.fields.getD i fld0).name, wColon], ⟨rfl, fun _ => rfl⟩, ⟨.refl _, .refl _, .refl _, trivial⟩, rfl, ?_⟩
            refine ⟨ByteArray, strC, noS, doC1 c ++ (c.fields.take i).flatMap fldF, [wStatic, (c.fields.getD i fld0).name, wColon], 32, ⟨.refl _, .own ..⟩, fun _ => rfl, (by simp only [List.length_append, List.length_cons, List.length_nil]; omega), ?_⟩
            refine ⟨(c.fields.getD i fld0).type, ⟨.refl _, trivial⟩, rfl, trivial, ?_⟩
            refine ⟨ByteArray, strC, noS, doC1 c ++ (c.fields.take i).flatMap fldF ++ [wStatic, (c.fields.getD i fld0).name, wColon], kindW (c.fields.getD i fld0).type, 47, ⟨.refl _, .own ..⟩, fun _ => rfl, (by simp only [List.length_append, List.length_cons, List.length_nil]; omega), ?_⟩
            refine ⟨ByteArray, strC, noS, [wSemi], ⟨rfl, fun _ => rfl⟩, ⟨.refl _, trivial⟩, rfl, ?_⟩
            refine ⟨ByteArray, strC, noS, doC1 c ++ (c.fields.take i).flatMap fldF ++ [wStatic, (c.fields.getD i fld0).name, wColon] ++ kindW (c.fields.getD i fld0).type, [wSemi], 51, ⟨.refl _, .refl _⟩, fun _ => rfl, (by simp only [List.length_append, List.length_cons, List.length_nil]; omega), ?_⟩
            exact ⟨(i + 1, true), hlt, by show c.fields.length - (i + 1) < c.fields.length - i; omega, ⟨rfl, rfl⟩, .refl _, .ownEq (by rw [hs, hf]; simp), .refl _, .int hwj, .refl _, ⟨.refl _, .refl _, .refl _, .refl _, .refl _, .refl _, trivial⟩, trivial⟩
          · have h3 : (c.fields.getD i fld0).static = false := h3
            have hf : fldF (c.fields.getD i fld0) = [wField, (c.fields.getD i fld0).name, wColon] ++ (kindW (c.fields.getD i fld0).type ++ [wSemi]) := by unfold fldF; rw [if_neg (by rw [h3]; decide)]
            refine ⟨by kernel_rfl, ?_⟩
            refine ⟨ByteArray, strC, noS, [wField, (c.fields.getD i fld0).name, wColon], ⟨rfl, fun _ => rfl⟩, ⟨.refl _, .refl _, .refl _, trivial⟩, rfl, ?_⟩
            refine ⟨ByteArray, strC, noS, doC1 c ++ (c.fields.take i).flatMap fldF, [wField, (c.fields.getD i fld0).name, wColon], 32, ⟨.refl _, .own ..⟩, fun _ => rfl, (by simp only [List.length_append, List.length_cons, List.length_nil]; omega), ?_⟩
            refine ⟨(c.fields.getD i fld0).type, ⟨.refl _, trivial⟩, rfl, trivial, ?_⟩
            refine ⟨ByteArray, strC, noS, doC1 c ++ (c.fields.take i).flatMap fldF ++ [wField, (c.fields.getD i fld0).name, wColon], kindW (c.fields.getD i fld0).type, 47, ⟨.refl _, .own ..⟩, fun _ => rfl, (by simp only [List.length_append, List.length_cons, List.length_nil]; omega), ?_⟩
            refine ⟨ByteArray, strC, noS, [wSemi], ⟨rfl, fun _ => rfl⟩, ⟨.refl _, trivial⟩, rfl, ?_⟩
            refine ⟨ByteArray, strC, noS, doC1 c ++ (c.fields.take i).flatMap fldF ++ [wField, (c.fields.getD i fld0).name, wColon] ++ kindW (c.fields.getD i fld0).type, [wSemi], 51, ⟨.refl _, .refl _⟩, fun _ => rfl, (by simp only [List.length_append, List.length_cons, List.length_nil]; omega), ?_⟩
            exact ⟨(i + 1, true), hlt, by show c.fields.length - (i + 1) < c.fields.length - i; omega, ⟨rfl, rfl⟩, .refl _, .ownEq (by rw [hs, hf]; simp), .refl _, .int hwj, .refl _, ⟨.refl _, .refl _, .refl _, .refl _, .refl _, .refl _, trivial⟩, trivial⟩
        · have hge : i = c.fields.length := by have := of_decide_eq_false h; omega
          have hcb := hfl c.fields.length
          rw [List.take_length] at hcb
          clear hwj hbi h hi hi1
          refine ⟨Nat × Bool, fun s => [(3, .own ByteArray 1 strC noS (doC1 c ++ c.fields.flatMap fldF ++ (c.methods.take s.1).flatMap doesF) (cond s.2 65 32)), (57, I c.methods.length), (56, .row Meth 9 methC meth0 c.methods), (58, I s.1)], fun _ => [], fun s => s.1 ≤ c.methods.length, fun s => c.methods.length - s.1,
            ⟨(0, false), Nat.zero_le _, ⟨⟨rfl, rfl⟩, .ownEq (by rw [hge, List.take_length]; simp), .refl _, .refl _, .refl _, trivial⟩⟩, fun ((i, b) : Nat × Bool) hi => ?_⟩
          have hi1 : i ≤ c.methods.length := hi
          have hwj : IntKind.i64.wrap ((i : Int) + 1) = ((i + 1 : Nat) : Int) := by rw [wrap_eq _ (by omega) (by omega)]; omega
          have hbi := hml i
          cases b
          case false =>
            refine ⟨fun h => ?_, fun h => ?_⟩
            · have hlt : i < c.methods.length := by have := of_decide_eq_true h; omega
              have hs := flat_snoc doesF c.methods meth0 i hlt
              have hmo := hp5.2 _ (getT_mem c.methods meth0 i hlt)
              have hdl := does_len hmo
              refine ⟨⟨by omega, by omega⟩, ?_⟩
              refine ⟨c.methods.getD i meth0, ⟨.refl _, trivial⟩, rfl, hmo, ?_⟩
              refine ⟨ByteArray, strC, noS, doC1 c ++ c.fields.flatMap fldF ++ (c.methods.take i).flatMap doesF, doesF (c.methods.getD i meth0), 32, ⟨.refl _, .own ..⟩, fun _ => rfl, (by simp only [List.length_append]; omega), ?_⟩
              exact ⟨(i + 1, true), hlt, by show c.methods.length - (i + 1) < c.methods.length - i; omega, ⟨rfl, rfl⟩, .ownEq (by rw [hs]; simp), .refl _, .refl _, .int hwj, trivial⟩
            · have hge2 : i = c.methods.length := by have := of_decide_eq_false h; omega
              refine ⟨ByteArray, strC, noS, [wRc], ⟨rfl, fun _ => rfl⟩, ⟨.refl _, trivial⟩, rfl, ?_⟩
              refine ⟨ByteArray, strC, noS, doC1 c ++ c.fields.flatMap fldF ++ (c.methods.take i).flatMap doesF, [wRc], 32, ⟨.refl _, .own ..⟩, fun _ => rfl, (by simp only [List.length_append, List.length_cons, List.length_nil]; omega), ?_⟩
              exact ⟨.ownEq (by rw [wordsC_eq, hge2, List.take_length]), rfl⟩
          case true =>
            refine ⟨fun h => ?_, fun h => ?_⟩
            · have hlt : i < c.methods.length := by have := of_decide_eq_true h; omega
              have hs := flat_snoc doesF c.methods meth0 i hlt
              have hmo := hp5.2 _ (getT_mem c.methods meth0 i hlt)
              have hdl := does_len hmo
              refine ⟨⟨by omega, by omega⟩, ?_⟩
              refine ⟨c.methods.getD i meth0, ⟨.refl _, trivial⟩, rfl, hmo, ?_⟩
              refine ⟨ByteArray, strC, noS, doC1 c ++ c.fields.flatMap fldF ++ (c.methods.take i).flatMap doesF, doesF (c.methods.getD i meth0), 65, ⟨.refl _, .own ..⟩, fun _ => rfl, (by simp only [List.length_append]; omega), ?_⟩
              exact ⟨(i + 1, true), hlt, by show c.methods.length - (i + 1) < c.methods.length - i; omega, ⟨rfl, rfl⟩, .ownEq (by rw [hs]; simp), .refl _, .refl _, .int hwj, trivial⟩
            · have hge2 : i = c.methods.length := by have := of_decide_eq_false h; omega
              refine ⟨ByteArray, strC, noS, [wRc], ⟨rfl, fun _ => rfl⟩, ⟨.refl _, trivial⟩, rfl, ?_⟩
              refine ⟨ByteArray, strC, noS, doC1 c ++ c.fields.flatMap fldF ++ (c.methods.take i).flatMap doesF, [wRc], 65, ⟨.refl _, .own ..⟩, fun _ => rfl, (by simp only [List.length_append, List.length_cons, List.length_nil]; omega), ?_⟩
              exact ⟨.ownEq (by rw [wordsC_eq, hge2, List.take_length]), rfl⟩
      case true =>
        refine ⟨fun h => ?_, fun h => ?_⟩
        · have hlt : i < c.fields.length := by have := of_decide_eq_true h; omega
          have hs := flat_snoc fldF c.fields fld0 i hlt
          have hk := kindW_len (c.fields.getD i fld0).type
          refine ⟨⟨by omega, by omega⟩, ?_⟩
          refine ⟨fun h3 => ?_, fun h3 => ?_⟩
          · have h3 : (c.fields.getD i fld0).static = true := h3
            have hf : fldF (c.fields.getD i fld0) = [wStatic, (c.fields.getD i fld0).name, wColon] ++ (kindW (c.fields.getD i fld0).type ++ [wSemi]) := by unfold fldF; rw [if_pos h3]
            refine ⟨by kernel_rfl, ?_⟩
            refine ⟨ByteArray, strC, noS, [wStatic, (c.fields.getD i fld0).name, wColon], ⟨rfl, fun _ => rfl⟩, ⟨.refl _, .refl _, .refl _, trivial⟩, rfl, ?_⟩
            refine ⟨ByteArray, strC, noS, doC1 c ++ (c.fields.take i).flatMap fldF, [wStatic, (c.fields.getD i fld0).name, wColon], 53, ⟨.refl _, .own ..⟩, fun _ => rfl, (by simp only [List.length_append, List.length_cons, List.length_nil]; omega), ?_⟩
            refine ⟨(c.fields.getD i fld0).type, ⟨.refl _, trivial⟩, rfl, trivial, ?_⟩
            refine ⟨ByteArray, strC, noS, doC1 c ++ (c.fields.take i).flatMap fldF ++ [wStatic, (c.fields.getD i fld0).name, wColon], kindW (c.fields.getD i fld0).type, 47, ⟨.refl _, .own ..⟩, fun _ => rfl, (by simp only [List.length_append, List.length_cons, List.length_nil]; omega), ?_⟩
            refine ⟨ByteArray, strC, noS, [wSemi], ⟨rfl, fun _ => rfl⟩, ⟨.refl _, trivial⟩, rfl, ?_⟩
            refine ⟨ByteArray, strC, noS, doC1 c ++ (c.fields.take i).flatMap fldF ++ [wStatic, (c.fields.getD i fld0).name, wColon] ++ kindW (c.fields.getD i fld0).type, [wSemi], 51, ⟨.refl _, .refl _⟩, fun _ => rfl, (by simp only [List.length_append, List.length_cons, List.length_nil]; omega), ?_⟩
            exact ⟨(i + 1, true), hlt, by show c.fields.length - (i + 1) < c.fields.length - i; omega, ⟨rfl, rfl⟩, .refl _, .ownEq (by rw [hs, hf]; simp), .refl _, .int hwj, .refl _, ⟨.refl _, .refl _, .refl _, .refl _, .refl _, .refl _, trivial⟩, trivial⟩
          · have h3 : (c.fields.getD i fld0).static = false := h3
            have hf : fldF (c.fields.getD i fld0) = [wField, (c.fields.getD i fld0).name, wColon] ++ (kindW (c.fields.getD i fld0).type ++ [wSemi]) := by unfold fldF; rw [if_neg (by rw [h3]; decide)]
            refine ⟨by kernel_rfl, ?_⟩
            refine ⟨ByteArray, strC, noS, [wField, (c.fields.getD i fld0).name, wColon], ⟨rfl, fun _ => rfl⟩, ⟨.refl _, .refl _, .refl _, trivial⟩, rfl, ?_⟩
            refine ⟨ByteArray, strC, noS, doC1 c ++ (c.fields.take i).flatMap fldF, [wField, (c.fields.getD i fld0).name, wColon], 53, ⟨.refl _, .own ..⟩, fun _ => rfl, (by simp only [List.length_append, List.length_cons, List.length_nil]; omega), ?_⟩
            refine ⟨(c.fields.getD i fld0).type, ⟨.refl _, trivial⟩, rfl, trivial, ?_⟩
            refine ⟨ByteArray, strC, noS, doC1 c ++ (c.fields.take i).flatMap fldF ++ [wField, (c.fields.getD i fld0).name, wColon], kindW (c.fields.getD i fld0).type, 47, ⟨.refl _, .own ..⟩, fun _ => rfl, (by simp only [List.length_append, List.length_cons, List.length_nil]; omega), ?_⟩
            refine ⟨ByteArray, strC, noS, [wSemi], ⟨rfl, fun _ => rfl⟩, ⟨.refl _, trivial⟩, rfl, ?_⟩
            refine ⟨ByteArray, strC, noS, doC1 c ++ (c.fields.take i).flatMap fldF ++ [wField, (c.fields.getD i fld0).name, wColon] ++ kindW (c.fields.getD i fld0).type, [wSemi], 51, ⟨.refl _, .refl _⟩, fun _ => rfl, (by simp only [List.length_append, List.length_cons, List.length_nil]; omega), ?_⟩
            exact ⟨(i + 1, true), hlt, by show c.fields.length - (i + 1) < c.fields.length - i; omega, ⟨rfl, rfl⟩, .refl _, .ownEq (by rw [hs, hf]; simp), .refl _, .int hwj, .refl _, ⟨.refl _, .refl _, .refl _, .refl _, .refl _, .refl _, trivial⟩, trivial⟩
        · have hge : i = c.fields.length := by have := of_decide_eq_false h; omega
          have hcb := hfl c.fields.length
          rw [List.take_length] at hcb
          clear hwj hbi h hi hi1
          refine ⟨Nat × Bool, fun s => [(3, .own ByteArray 1 strC noS (doC1 c ++ c.fields.flatMap fldF ++ (c.methods.take s.1).flatMap doesF) (cond s.2 65 53)), (57, I c.methods.length), (56, .row Meth 9 methC meth0 c.methods), (58, I s.1)], fun _ => [], fun s => s.1 ≤ c.methods.length, fun s => c.methods.length - s.1,
            ⟨(0, false), Nat.zero_le _, ⟨⟨rfl, rfl⟩, .ownEq (by rw [hge, List.take_length]; simp), .refl _, .refl _, .refl _, trivial⟩⟩, fun ((i, b) : Nat × Bool) hi => ?_⟩
          have hi1 : i ≤ c.methods.length := hi
          have hwj : IntKind.i64.wrap ((i : Int) + 1) = ((i + 1 : Nat) : Int) := by rw [wrap_eq _ (by omega) (by omega)]; omega
          have hbi := hml i
          cases b
          case false =>
            refine ⟨fun h => ?_, fun h => ?_⟩
            · have hlt : i < c.methods.length := by have := of_decide_eq_true h; omega
              have hs := flat_snoc doesF c.methods meth0 i hlt
              have hmo := hp5.2 _ (getT_mem c.methods meth0 i hlt)
              have hdl := does_len hmo
              refine ⟨⟨by omega, by omega⟩, ?_⟩
              refine ⟨c.methods.getD i meth0, ⟨.refl _, trivial⟩, rfl, hmo, ?_⟩
              refine ⟨ByteArray, strC, noS, doC1 c ++ c.fields.flatMap fldF ++ (c.methods.take i).flatMap doesF, doesF (c.methods.getD i meth0), 53, ⟨.refl _, .own ..⟩, fun _ => rfl, (by simp only [List.length_append]; omega), ?_⟩
              exact ⟨(i + 1, true), hlt, by show c.methods.length - (i + 1) < c.methods.length - i; omega, ⟨rfl, rfl⟩, .ownEq (by rw [hs]; simp), .refl _, .refl _, .int hwj, trivial⟩
            · have hge2 : i = c.methods.length := by have := of_decide_eq_false h; omega
              refine ⟨ByteArray, strC, noS, [wRc], ⟨rfl, fun _ => rfl⟩, ⟨.refl _, trivial⟩, rfl, ?_⟩
              refine ⟨ByteArray, strC, noS, doC1 c ++ c.fields.flatMap fldF ++ (c.methods.take i).flatMap doesF, [wRc], 53, ⟨.refl _, .own ..⟩, fun _ => rfl, (by simp only [List.length_append, List.length_cons, List.length_nil]; omega), ?_⟩
              exact ⟨.ownEq (by rw [wordsC_eq, hge2, List.take_length]), rfl⟩
          case true =>
            refine ⟨fun h => ?_, fun h => ?_⟩
            · have hlt : i < c.methods.length := by have := of_decide_eq_true h; omega
              have hs := flat_snoc doesF c.methods meth0 i hlt
              have hmo := hp5.2 _ (getT_mem c.methods meth0 i hlt)
              have hdl := does_len hmo
              refine ⟨⟨by omega, by omega⟩, ?_⟩
              refine ⟨c.methods.getD i meth0, ⟨.refl _, trivial⟩, rfl, hmo, ?_⟩
              refine ⟨ByteArray, strC, noS, doC1 c ++ c.fields.flatMap fldF ++ (c.methods.take i).flatMap doesF, doesF (c.methods.getD i meth0), 65, ⟨.refl _, .own ..⟩, fun _ => rfl, (by simp only [List.length_append]; omega), ?_⟩
              exact ⟨(i + 1, true), hlt, by show c.methods.length - (i + 1) < c.methods.length - i; omega, ⟨rfl, rfl⟩, .ownEq (by rw [hs]; simp), .refl _, .refl _, .int hwj, trivial⟩
            · have hge2 : i = c.methods.length := by have := of_decide_eq_false h; omega
              refine ⟨ByteArray, strC, noS, [wRc], ⟨rfl, fun _ => rfl⟩, ⟨.refl _, trivial⟩, rfl, ?_⟩
              refine ⟨ByteArray, strC, noS, doC1 c ++ c.fields.flatMap fldF ++ (c.methods.take i).flatMap doesF, [wRc], 65, ⟨.refl _, .own ..⟩, fun _ => rfl, (by simp only [List.length_append, List.length_cons, List.length_nil]; omega), ?_⟩
              exact ⟨.ownEq (by rw [wordsC_eq, hge2, List.take_length]), rfl⟩
    · have hs : supC c = [] := by
        have hs : (!(c.super.toList == (⟨#[]⟩ : ByteArray).toList)) = false := hs
        rw [hns] at hs
        unfold supC; rw [if_pos (by simpa using hs)]
      refine ⟨(if c.iface then wExtends else wImplements, c.ifaces), ⟨.refl _, .refl _, trivial⟩, rfl, (show c.ifaces.length ≤ 100000 by omega), ?_⟩
      rcases Nat.eq_zero_or_pos c.ifaces.length with hz | hz
      · have hnil : lstC c = [] := by unfold lstC; rw [List.length_eq_zero_iff.1 hz]; rfl
        refine .inr ⟨.ownRow hnil, ?_⟩
        refine ⟨ByteArray, strC, noS, [wLc], ⟨rfl, fun _ => rfl⟩, ⟨.refl _, trivial⟩, rfl, ?_⟩
        refine .inl ⟨[wLc], ⟨rfl, Nat.le_refl _, Nat.succ_pos _, .own ..⟩, (show (2 + 1) * 16 ≤ 140737488355328 by omega), ?_⟩
        have hdo : hdC c ++ [wLc] = doC1 c := by unfold doC1; rw [hs, hnil]; simp
        refine ⟨Nat × Bool, fun s => [(1, .box 1 0), (3, .own ByteArray 1 strC noS (doC1 c ++ (c.fields.take s.1).flatMap fldF) (cond s.2 53 32)), (35, I c.fields.length), (36, I s.1), (34, .row Fld 4 fldC fld0 c.fields)], fun _ => [(1, clsC c)], fun s => s.1 ≤ c.fields.length, fun s => c.fields.length - s.1,
          ⟨(0, false), Nat.zero_le _, ⟨⟨rfl, rfl⟩, .refl _, .ownEq (by rw [← hdo]; simp [hdC]), .refl _, .refl _, .refl _, ⟨.refl _, .refl _, .refl _, .refl _, .refl _, .refl _, trivial⟩, trivial⟩⟩, fun ((i, b) : Nat × Bool) hi => ?_⟩
        have hi1 : i ≤ c.fields.length := hi
        have hwj : IntKind.i64.wrap ((i : Int) + 1) = ((i + 1 : Nat) : Int) := by rw [wrap_eq _ (by omega) (by omega)]; omega
        have hbi := hfl i
        cases b
        case false =>
          refine ⟨fun h => ?_, fun h => ?_⟩
          · have hlt : i < c.fields.length := by have := of_decide_eq_true h; omega
            have hs := flat_snoc fldF c.fields fld0 i hlt
            have hk := kindW_len (c.fields.getD i fld0).type
            refine ⟨⟨by omega, by omega⟩, ?_⟩
            refine ⟨fun h3 => ?_, fun h3 => ?_⟩
            · have h3 : (c.fields.getD i fld0).static = true := h3
              have hf : fldF (c.fields.getD i fld0) = [wStatic, (c.fields.getD i fld0).name, wColon] ++ (kindW (c.fields.getD i fld0).type ++ [wSemi]) := by unfold fldF; rw [if_pos h3]
              refine ⟨by kernel_rfl, ?_⟩
              refine ⟨ByteArray, strC, noS, [wStatic, (c.fields.getD i fld0).name, wColon], ⟨rfl, fun _ => rfl⟩, ⟨.refl _, .refl _, .refl _, trivial⟩, rfl, ?_⟩
              refine ⟨ByteArray, strC, noS, doC1 c ++ (c.fields.take i).flatMap fldF, [wStatic, (c.fields.getD i fld0).name, wColon], 32, ⟨.refl _, .own ..⟩, fun _ => rfl, (by simp only [List.length_append, List.length_cons, List.length_nil]; omega), ?_⟩
              refine ⟨(c.fields.getD i fld0).type, ⟨.refl _, trivial⟩, rfl, trivial, ?_⟩
              refine ⟨ByteArray, strC, noS, doC1 c ++ (c.fields.take i).flatMap fldF ++ [wStatic, (c.fields.getD i fld0).name, wColon], kindW (c.fields.getD i fld0).type, 47, ⟨.refl _, .own ..⟩, fun _ => rfl, (by simp only [List.length_append, List.length_cons, List.length_nil]; omega), ?_⟩
              refine ⟨ByteArray, strC, noS, [wSemi], ⟨rfl, fun _ => rfl⟩, ⟨.refl _, trivial⟩, rfl, ?_⟩
              refine ⟨ByteArray, strC, noS, doC1 c ++ (c.fields.take i).flatMap fldF ++ [wStatic, (c.fields.getD i fld0).name, wColon] ++ kindW (c.fields.getD i fld0).type, [wSemi], 51, ⟨.refl _, .refl _⟩, fun _ => rfl, (by simp only [List.length_append, List.length_cons, List.length_nil]; omega), ?_⟩
              exact ⟨(i + 1, true), hlt, by show c.fields.length - (i + 1) < c.fields.length - i; omega, ⟨rfl, rfl⟩, .refl _, .ownEq (by rw [hs, hf]; simp), .refl _, .int hwj, .refl _, ⟨.refl _, .refl _, .refl _, .refl _, .refl _, .refl _, trivial⟩, trivial⟩
            · have h3 : (c.fields.getD i fld0).static = false := h3
              have hf : fldF (c.fields.getD i fld0) = [wField, (c.fields.getD i fld0).name, wColon] ++ (kindW (c.fields.getD i fld0).type ++ [wSemi]) := by unfold fldF; rw [if_neg (by rw [h3]; decide)]
              refine ⟨by kernel_rfl, ?_⟩
              refine ⟨ByteArray, strC, noS, [wField, (c.fields.getD i fld0).name, wColon], ⟨rfl, fun _ => rfl⟩, ⟨.refl _, .refl _, .refl _, trivial⟩, rfl, ?_⟩
              refine ⟨ByteArray, strC, noS, doC1 c ++ (c.fields.take i).flatMap fldF, [wField, (c.fields.getD i fld0).name, wColon], 32, ⟨.refl _, .own ..⟩, fun _ => rfl, (by simp only [List.length_append, List.length_cons, List.length_nil]; omega), ?_⟩
              refine ⟨(c.fields.getD i fld0).type, ⟨.refl _, trivial⟩, rfl, trivial, ?_⟩
              refine ⟨ByteArray, strC, noS, doC1 c ++ (c.fields.take i).flatMap fldF ++ [wField, (c.fields.getD i fld0).name, wColon], kindW (c.fields.getD i fld0).type, 47, ⟨.refl _, .own ..⟩, fun _ => rfl, (by simp only [List.length_append, List.length_cons, List.length_nil]; omega), ?_⟩
              refine ⟨ByteArray, strC, noS, [wSemi], ⟨rfl, fun _ => rfl⟩, ⟨.refl _, trivial⟩, rfl, ?_⟩
              refine ⟨ByteArray, strC, noS, doC1 c ++ (c.fields.take i).flatMap fldF ++ [wField, (c.fields.getD i fld0).name, wColon] ++ kindW (c.fields.getD i fld0).type, [wSemi], 51, ⟨.refl _, .refl _⟩, fun _ => rfl, (by simp only [List.length_append, List.length_cons, List.length_nil]; omega), ?_⟩
              exact ⟨(i + 1, true), hlt, by show c.fields.length - (i + 1) < c.fields.length - i; omega, ⟨rfl, rfl⟩, .refl _, .ownEq (by rw [hs, hf]; simp), .refl _, .int hwj, .refl _, ⟨.refl _, .refl _, .refl _, .refl _, .refl _, .refl _, trivial⟩, trivial⟩
          · have hge : i = c.fields.length := by have := of_decide_eq_false h; omega
            have hcb := hfl c.fields.length
            rw [List.take_length] at hcb
            clear hwj hbi h hi hi1
            refine ⟨Nat × Bool, fun s => [(3, .own ByteArray 1 strC noS (doC1 c ++ c.fields.flatMap fldF ++ (c.methods.take s.1).flatMap doesF) (cond s.2 65 32)), (57, I c.methods.length), (56, .row Meth 9 methC meth0 c.methods), (58, I s.1)], fun _ => [], fun s => s.1 ≤ c.methods.length, fun s => c.methods.length - s.1,
              ⟨(0, false), Nat.zero_le _, ⟨⟨rfl, rfl⟩, .ownEq (by rw [hge, List.take_length]; simp), .refl _, .refl _, .refl _, trivial⟩⟩, fun ((i, b) : Nat × Bool) hi => ?_⟩
            have hi1 : i ≤ c.methods.length := hi
            have hwj : IntKind.i64.wrap ((i : Int) + 1) = ((i + 1 : Nat) : Int) := by rw [wrap_eq _ (by omega) (by omega)]; omega
            have hbi := hml i
            cases b
            case false =>
              refine ⟨fun h => ?_, fun h => ?_⟩
              · have hlt : i < c.methods.length := by have := of_decide_eq_true h; omega
                have hs := flat_snoc doesF c.methods meth0 i hlt
                have hmo := hp5.2 _ (getT_mem c.methods meth0 i hlt)
                have hdl := does_len hmo
                refine ⟨⟨by omega, by omega⟩, ?_⟩
                refine ⟨c.methods.getD i meth0, ⟨.refl _, trivial⟩, rfl, hmo, ?_⟩
                refine ⟨ByteArray, strC, noS, doC1 c ++ c.fields.flatMap fldF ++ (c.methods.take i).flatMap doesF, doesF (c.methods.getD i meth0), 32, ⟨.refl _, .own ..⟩, fun _ => rfl, (by simp only [List.length_append]; omega), ?_⟩
                exact ⟨(i + 1, true), hlt, by show c.methods.length - (i + 1) < c.methods.length - i; omega, ⟨rfl, rfl⟩, .ownEq (by rw [hs]; simp), .refl _, .refl _, .int hwj, trivial⟩
              · have hge2 : i = c.methods.length := by have := of_decide_eq_false h; omega
                refine ⟨ByteArray, strC, noS, [wRc], ⟨rfl, fun _ => rfl⟩, ⟨.refl _, trivial⟩, rfl, ?_⟩
                refine ⟨ByteArray, strC, noS, doC1 c ++ c.fields.flatMap fldF ++ (c.methods.take i).flatMap doesF, [wRc], 32, ⟨.refl _, .own ..⟩, fun _ => rfl, (by simp only [List.length_append, List.length_cons, List.length_nil]; omega), ?_⟩
                exact ⟨.ownEq (by rw [wordsC_eq, hge2, List.take_length]), rfl⟩
            case true =>
              refine ⟨fun h => ?_, fun h => ?_⟩
              · have hlt : i < c.methods.length := by have := of_decide_eq_true h; omega
                have hs := flat_snoc doesF c.methods meth0 i hlt
                have hmo := hp5.2 _ (getT_mem c.methods meth0 i hlt)
                have hdl := does_len hmo
                refine ⟨⟨by omega, by omega⟩, ?_⟩
                refine ⟨c.methods.getD i meth0, ⟨.refl _, trivial⟩, rfl, hmo, ?_⟩
                refine ⟨ByteArray, strC, noS, doC1 c ++ c.fields.flatMap fldF ++ (c.methods.take i).flatMap doesF, doesF (c.methods.getD i meth0), 65, ⟨.refl _, .own ..⟩, fun _ => rfl, (by simp only [List.length_append]; omega), ?_⟩
                exact ⟨(i + 1, true), hlt, by show c.methods.length - (i + 1) < c.methods.length - i; omega, ⟨rfl, rfl⟩, .ownEq (by rw [hs]; simp), .refl _, .refl _, .int hwj, trivial⟩
              · have hge2 : i = c.methods.length := by have := of_decide_eq_false h; omega
                refine ⟨ByteArray, strC, noS, [wRc], ⟨rfl, fun _ => rfl⟩, ⟨.refl _, trivial⟩, rfl, ?_⟩
                refine ⟨ByteArray, strC, noS, doC1 c ++ c.fields.flatMap fldF ++ (c.methods.take i).flatMap doesF, [wRc], 65, ⟨.refl _, .own ..⟩, fun _ => rfl, (by simp only [List.length_append, List.length_cons, List.length_nil]; omega), ?_⟩
                exact ⟨.ownEq (by rw [wordsC_eq, hge2, List.take_length]), rfl⟩
        case true =>
          refine ⟨fun h => ?_, fun h => ?_⟩
          · have hlt : i < c.fields.length := by have := of_decide_eq_true h; omega
            have hs := flat_snoc fldF c.fields fld0 i hlt
            have hk := kindW_len (c.fields.getD i fld0).type
            refine ⟨⟨by omega, by omega⟩, ?_⟩
            refine ⟨fun h3 => ?_, fun h3 => ?_⟩
            · have h3 : (c.fields.getD i fld0).static = true := h3
              have hf : fldF (c.fields.getD i fld0) = [wStatic, (c.fields.getD i fld0).name, wColon] ++ (kindW (c.fields.getD i fld0).type ++ [wSemi]) := by unfold fldF; rw [if_pos h3]
              refine ⟨by kernel_rfl, ?_⟩
              refine ⟨ByteArray, strC, noS, [wStatic, (c.fields.getD i fld0).name, wColon], ⟨rfl, fun _ => rfl⟩, ⟨.refl _, .refl _, .refl _, trivial⟩, rfl, ?_⟩
              refine ⟨ByteArray, strC, noS, doC1 c ++ (c.fields.take i).flatMap fldF, [wStatic, (c.fields.getD i fld0).name, wColon], 53, ⟨.refl _, .own ..⟩, fun _ => rfl, (by simp only [List.length_append, List.length_cons, List.length_nil]; omega), ?_⟩
              refine ⟨(c.fields.getD i fld0).type, ⟨.refl _, trivial⟩, rfl, trivial, ?_⟩
              refine ⟨ByteArray, strC, noS, doC1 c ++ (c.fields.take i).flatMap fldF ++ [wStatic, (c.fields.getD i fld0).name, wColon], kindW (c.fields.getD i fld0).type, 47, ⟨.refl _, .own ..⟩, fun _ => rfl, (by simp only [List.length_append, List.length_cons, List.length_nil]; omega), ?_⟩
              refine ⟨ByteArray, strC, noS, [wSemi], ⟨rfl, fun _ => rfl⟩, ⟨.refl _, trivial⟩, rfl, ?_⟩
              refine ⟨ByteArray, strC, noS, doC1 c ++ (c.fields.take i).flatMap fldF ++ [wStatic, (c.fields.getD i fld0).name, wColon] ++ kindW (c.fields.getD i fld0).type, [wSemi], 51, ⟨.refl _, .refl _⟩, fun _ => rfl, (by simp only [List.length_append, List.length_cons, List.length_nil]; omega), ?_⟩
              exact ⟨(i + 1, true), hlt, by show c.fields.length - (i + 1) < c.fields.length - i; omega, ⟨rfl, rfl⟩, .refl _, .ownEq (by rw [hs, hf]; simp), .refl _, .int hwj, .refl _, ⟨.refl _, .refl _, .refl _, .refl _, .refl _, .refl _, trivial⟩, trivial⟩
            · have h3 : (c.fields.getD i fld0).static = false := h3
              have hf : fldF (c.fields.getD i fld0) = [wField, (c.fields.getD i fld0).name, wColon] ++ (kindW (c.fields.getD i fld0).type ++ [wSemi]) := by unfold fldF; rw [if_neg (by rw [h3]; decide)]
              refine ⟨by kernel_rfl, ?_⟩
              refine ⟨ByteArray, strC, noS, [wField, (c.fields.getD i fld0).name, wColon], ⟨rfl, fun _ => rfl⟩, ⟨.refl _, .refl _, .refl _, trivial⟩, rfl, ?_⟩
              refine ⟨ByteArray, strC, noS, doC1 c ++ (c.fields.take i).flatMap fldF, [wField, (c.fields.getD i fld0).name, wColon], 53, ⟨.refl _, .own ..⟩, fun _ => rfl, (by simp only [List.length_append, List.length_cons, List.length_nil]; omega), ?_⟩
              refine ⟨(c.fields.getD i fld0).type, ⟨.refl _, trivial⟩, rfl, trivial, ?_⟩
              refine ⟨ByteArray, strC, noS, doC1 c ++ (c.fields.take i).flatMap fldF ++ [wField, (c.fields.getD i fld0).name, wColon], kindW (c.fields.getD i fld0).type, 47, ⟨.refl _, .own ..⟩, fun _ => rfl, (by simp only [List.length_append, List.length_cons, List.length_nil]; omega), ?_⟩
              refine ⟨ByteArray, strC, noS, [wSemi], ⟨rfl, fun _ => rfl⟩, ⟨.refl _, trivial⟩, rfl, ?_⟩
              refine ⟨ByteArray, strC, noS, doC1 c ++ (c.fields.take i).flatMap fldF ++ [wField, (c.fields.getD i fld0).name, wColon] ++ kindW (c.fields.getD i fld0).type, [wSemi], 51, ⟨.refl _, .refl _⟩, fun _ => rfl, (by simp only [List.length_append, List.length_cons, List.length_nil]; omega), ?_⟩
              exact ⟨(i + 1, true), hlt, by show c.fields.length - (i + 1) < c.fields.length - i; omega, ⟨rfl, rfl⟩, .refl _, .ownEq (by rw [hs, hf]; simp), .refl _, .int hwj, .refl _, ⟨.refl _, .refl _, .refl _, .refl _, .refl _, .refl _, trivial⟩, trivial⟩
          · have hge : i = c.fields.length := by have := of_decide_eq_false h; omega
            have hcb := hfl c.fields.length
            rw [List.take_length] at hcb
            clear hwj hbi h hi hi1
            refine ⟨Nat × Bool, fun s => [(3, .own ByteArray 1 strC noS (doC1 c ++ c.fields.flatMap fldF ++ (c.methods.take s.1).flatMap doesF) (cond s.2 65 53)), (57, I c.methods.length), (56, .row Meth 9 methC meth0 c.methods), (58, I s.1)], fun _ => [], fun s => s.1 ≤ c.methods.length, fun s => c.methods.length - s.1,
              ⟨(0, false), Nat.zero_le _, ⟨⟨rfl, rfl⟩, .ownEq (by rw [hge, List.take_length]; simp), .refl _, .refl _, .refl _, trivial⟩⟩, fun ((i, b) : Nat × Bool) hi => ?_⟩
            have hi1 : i ≤ c.methods.length := hi
            have hwj : IntKind.i64.wrap ((i : Int) + 1) = ((i + 1 : Nat) : Int) := by rw [wrap_eq _ (by omega) (by omega)]; omega
            have hbi := hml i
            cases b
            case false =>
              refine ⟨fun h => ?_, fun h => ?_⟩
              · have hlt : i < c.methods.length := by have := of_decide_eq_true h; omega
                have hs := flat_snoc doesF c.methods meth0 i hlt
                have hmo := hp5.2 _ (getT_mem c.methods meth0 i hlt)
                have hdl := does_len hmo
                refine ⟨⟨by omega, by omega⟩, ?_⟩
                refine ⟨c.methods.getD i meth0, ⟨.refl _, trivial⟩, rfl, hmo, ?_⟩
                refine ⟨ByteArray, strC, noS, doC1 c ++ c.fields.flatMap fldF ++ (c.methods.take i).flatMap doesF, doesF (c.methods.getD i meth0), 53, ⟨.refl _, .own ..⟩, fun _ => rfl, (by simp only [List.length_append]; omega), ?_⟩
                exact ⟨(i + 1, true), hlt, by show c.methods.length - (i + 1) < c.methods.length - i; omega, ⟨rfl, rfl⟩, .ownEq (by rw [hs]; simp), .refl _, .refl _, .int hwj, trivial⟩
              · have hge2 : i = c.methods.length := by have := of_decide_eq_false h; omega
                refine ⟨ByteArray, strC, noS, [wRc], ⟨rfl, fun _ => rfl⟩, ⟨.refl _, trivial⟩, rfl, ?_⟩
                refine ⟨ByteArray, strC, noS, doC1 c ++ c.fields.flatMap fldF ++ (c.methods.take i).flatMap doesF, [wRc], 53, ⟨.refl _, .own ..⟩, fun _ => rfl, (by simp only [List.length_append, List.length_cons, List.length_nil]; omega), ?_⟩
                exact ⟨.ownEq (by rw [wordsC_eq, hge2, List.take_length]), rfl⟩
            case true =>
              refine ⟨fun h => ?_, fun h => ?_⟩
              · have hlt : i < c.methods.length := by have := of_decide_eq_true h; omega
                have hs := flat_snoc doesF c.methods meth0 i hlt
                have hmo := hp5.2 _ (getT_mem c.methods meth0 i hlt)
                have hdl := does_len hmo
                refine ⟨⟨by omega, by omega⟩, ?_⟩
                refine ⟨c.methods.getD i meth0, ⟨.refl _, trivial⟩, rfl, hmo, ?_⟩
                refine ⟨ByteArray, strC, noS, doC1 c ++ c.fields.flatMap fldF ++ (c.methods.take i).flatMap doesF, doesF (c.methods.getD i meth0), 65, ⟨.refl _, .own ..⟩, fun _ => rfl, (by simp only [List.length_append]; omega), ?_⟩
                exact ⟨(i + 1, true), hlt, by show c.methods.length - (i + 1) < c.methods.length - i; omega, ⟨rfl, rfl⟩, .ownEq (by rw [hs]; simp), .refl _, .refl _, .int hwj, trivial⟩
              · have hge2 : i = c.methods.length := by have := of_decide_eq_false h; omega
                refine ⟨ByteArray, strC, noS, [wRc], ⟨rfl, fun _ => rfl⟩, ⟨.refl _, trivial⟩, rfl, ?_⟩
                refine ⟨ByteArray, strC, noS, doC1 c ++ c.fields.flatMap fldF ++ (c.methods.take i).flatMap doesF, [wRc], 65, ⟨.refl _, .own ..⟩, fun _ => rfl, (by simp only [List.length_append, List.length_cons, List.length_nil]; omega), ?_⟩
                exact ⟨.ownEq (by rw [wordsC_eq, hge2, List.take_length]), rfl⟩
      · have hpos : 0 < (lstC c).length := by unfold lstC; omega
        have hlb : (lstC c).length ≤ 8 := by unfold lstC; omega
        refine .inl ⟨lstC c, ⟨rfl, Nat.le_refl _, hpos, .own ..⟩, (show (2 + (lstC c).length) * 16 ≤ 140737488355328 by omega), ?_⟩
        refine ⟨ByteArray, strC, noS, [wLc], ⟨rfl, fun _ => rfl⟩, ⟨.refl _, trivial⟩, rfl, ?_⟩
        refine ⟨ByteArray, strC, noS, hdC c ++ lstC c, [wLc], 30, ⟨.refl _, .own ..⟩, fun _ => rfl, (by unfold hdC; simp only [List.length_append, List.length_cons, List.length_nil]; omega), ?_⟩
        have hdo : hdC c ++ lstC c ++ [wLc] = doC1 c := by unfold doC1; rw [hs]; simp
        refine ⟨Nat × Bool, fun s => [(1, .box 1 0), (3, .own ByteArray 1 strC noS (doC1 c ++ (c.fields.take s.1).flatMap fldF) (cond s.2 53 32)), (35, I c.fields.length), (36, I s.1), (34, .row Fld 4 fldC fld0 c.fields)], fun _ => [(1, clsC c)], fun s => s.1 ≤ c.fields.length, fun s => c.fields.length - s.1,
          ⟨(0, false), Nat.zero_le _, ⟨⟨rfl, rfl⟩, .refl _, .ownEq (by rw [← hdo]; simp [hdC]), .refl _, .refl _, .refl _, ⟨.refl _, .refl _, .refl _, .refl _, .refl _, .refl _, trivial⟩, trivial⟩⟩, fun ((i, b) : Nat × Bool) hi => ?_⟩
        have hi1 : i ≤ c.fields.length := hi
        have hwj : IntKind.i64.wrap ((i : Int) + 1) = ((i + 1 : Nat) : Int) := by rw [wrap_eq _ (by omega) (by omega)]; omega
        have hbi := hfl i
        cases b
        case false =>
          refine ⟨fun h => ?_, fun h => ?_⟩
          · have hlt : i < c.fields.length := by have := of_decide_eq_true h; omega
            have hs := flat_snoc fldF c.fields fld0 i hlt
            have hk := kindW_len (c.fields.getD i fld0).type
            refine ⟨⟨by omega, by omega⟩, ?_⟩
            refine ⟨fun h3 => ?_, fun h3 => ?_⟩
            · have h3 : (c.fields.getD i fld0).static = true := h3
              have hf : fldF (c.fields.getD i fld0) = [wStatic, (c.fields.getD i fld0).name, wColon] ++ (kindW (c.fields.getD i fld0).type ++ [wSemi]) := by unfold fldF; rw [if_pos h3]
              refine ⟨by kernel_rfl, ?_⟩
              refine ⟨ByteArray, strC, noS, [wStatic, (c.fields.getD i fld0).name, wColon], ⟨rfl, fun _ => rfl⟩, ⟨.refl _, .refl _, .refl _, trivial⟩, rfl, ?_⟩
              refine ⟨ByteArray, strC, noS, doC1 c ++ (c.fields.take i).flatMap fldF, [wStatic, (c.fields.getD i fld0).name, wColon], 32, ⟨.refl _, .own ..⟩, fun _ => rfl, (by simp only [List.length_append, List.length_cons, List.length_nil]; omega), ?_⟩
              refine ⟨(c.fields.getD i fld0).type, ⟨.refl _, trivial⟩, rfl, trivial, ?_⟩
              refine ⟨ByteArray, strC, noS, doC1 c ++ (c.fields.take i).flatMap fldF ++ [wStatic, (c.fields.getD i fld0).name, wColon], kindW (c.fields.getD i fld0).type, 47, ⟨.refl _, .own ..⟩, fun _ => rfl, (by simp only [List.length_append, List.length_cons, List.length_nil]; omega), ?_⟩
              refine ⟨ByteArray, strC, noS, [wSemi], ⟨rfl, fun _ => rfl⟩, ⟨.refl _, trivial⟩, rfl, ?_⟩
              refine ⟨ByteArray, strC, noS, doC1 c ++ (c.fields.take i).flatMap fldF ++ [wStatic, (c.fields.getD i fld0).name, wColon] ++ kindW (c.fields.getD i fld0).type, [wSemi], 51, ⟨.refl _, .refl _⟩, fun _ => rfl, (by simp only [List.length_append, List.length_cons, List.length_nil]; omega), ?_⟩
              exact ⟨(i + 1, true), hlt, by show c.fields.length - (i + 1) < c.fields.length - i; omega, ⟨rfl, rfl⟩, .refl _, .ownEq (by rw [hs, hf]; simp), .refl _, .int hwj, .refl _, ⟨.refl _, .refl _, .refl _, .refl _, .refl _, .refl _, trivial⟩, trivial⟩
            · have h3 : (c.fields.getD i fld0).static = false := h3
              have hf : fldF (c.fields.getD i fld0) = [wField, (c.fields.getD i fld0).name, wColon] ++ (kindW (c.fields.getD i fld0).type ++ [wSemi]) := by unfold fldF; rw [if_neg (by rw [h3]; decide)]
              refine ⟨by kernel_rfl, ?_⟩
              refine ⟨ByteArray, strC, noS, [wField, (c.fields.getD i fld0).name, wColon], ⟨rfl, fun _ => rfl⟩, ⟨.refl _, .refl _, .refl _, trivial⟩, rfl, ?_⟩
              refine ⟨ByteArray, strC, noS, doC1 c ++ (c.fields.take i).flatMap fldF, [wField, (c.fields.getD i fld0).name, wColon], 32, ⟨.refl _, .own ..⟩, fun _ => rfl, (by simp only [List.length_append, List.length_cons, List.length_nil]; omega), ?_⟩
              refine ⟨(c.fields.getD i fld0).type, ⟨.refl _, trivial⟩, rfl, trivial, ?_⟩
              refine ⟨ByteArray, strC, noS, doC1 c ++ (c.fields.take i).flatMap fldF ++ [wField, (c.fields.getD i fld0).name, wColon], kindW (c.fields.getD i fld0).type, 47, ⟨.refl _, .own ..⟩, fun _ => rfl, (by simp only [List.length_append, List.length_cons, List.length_nil]; omega), ?_⟩
              refine ⟨ByteArray, strC, noS, [wSemi], ⟨rfl, fun _ => rfl⟩, ⟨.refl _, trivial⟩, rfl, ?_⟩
              refine ⟨ByteArray, strC, noS, doC1 c ++ (c.fields.take i).flatMap fldF ++ [wField, (c.fields.getD i fld0).name, wColon] ++ kindW (c.fields.getD i fld0).type, [wSemi], 51, ⟨.refl _, .refl _⟩, fun _ => rfl, (by simp only [List.length_append, List.length_cons, List.length_nil]; omega), ?_⟩
              exact ⟨(i + 1, true), hlt, by show c.fields.length - (i + 1) < c.fields.length - i; omega, ⟨rfl, rfl⟩, .refl _, .ownEq (by rw [hs, hf]; simp), .refl _, .int hwj, .refl _, ⟨.refl _, .refl _, .refl _, .refl _, .refl _, .refl _, trivial⟩, trivial⟩
          · have hge : i = c.fields.length := by have := of_decide_eq_false h; omega
            have hcb := hfl c.fields.length
            rw [List.take_length] at hcb
            clear hwj hbi h hi hi1
            refine ⟨Nat × Bool, fun s => [(3, .own ByteArray 1 strC noS (doC1 c ++ c.fields.flatMap fldF ++ (c.methods.take s.1).flatMap doesF) (cond s.2 65 32)), (57, I c.methods.length), (56, .row Meth 9 methC meth0 c.methods), (58, I s.1)], fun _ => [], fun s => s.1 ≤ c.methods.length, fun s => c.methods.length - s.1,
              ⟨(0, false), Nat.zero_le _, ⟨⟨rfl, rfl⟩, .ownEq (by rw [hge, List.take_length]; simp), .refl _, .refl _, .refl _, trivial⟩⟩, fun ((i, b) : Nat × Bool) hi => ?_⟩
            have hi1 : i ≤ c.methods.length := hi
            have hwj : IntKind.i64.wrap ((i : Int) + 1) = ((i + 1 : Nat) : Int) := by rw [wrap_eq _ (by omega) (by omega)]; omega
            have hbi := hml i
            cases b
            case false =>
              refine ⟨fun h => ?_, fun h => ?_⟩
              · have hlt : i < c.methods.length := by have := of_decide_eq_true h; omega
                have hs := flat_snoc doesF c.methods meth0 i hlt
                have hmo := hp5.2 _ (getT_mem c.methods meth0 i hlt)
                have hdl := does_len hmo
                refine ⟨⟨by omega, by omega⟩, ?_⟩
                refine ⟨c.methods.getD i meth0, ⟨.refl _, trivial⟩, rfl, hmo, ?_⟩
                refine ⟨ByteArray, strC, noS, doC1 c ++ c.fields.flatMap fldF ++ (c.methods.take i).flatMap doesF, doesF (c.methods.getD i meth0), 32, ⟨.refl _, .own ..⟩, fun _ => rfl, (by simp only [List.length_append]; omega), ?_⟩
                exact ⟨(i + 1, true), hlt, by show c.methods.length - (i + 1) < c.methods.length - i; omega, ⟨rfl, rfl⟩, .ownEq (by rw [hs]; simp), .refl _, .refl _, .int hwj, trivial⟩
              · have hge2 : i = c.methods.length := by have := of_decide_eq_false h; omega
                refine ⟨ByteArray, strC, noS, [wRc], ⟨rfl, fun _ => rfl⟩, ⟨.refl _, trivial⟩, rfl, ?_⟩
                refine ⟨ByteArray, strC, noS, doC1 c ++ c.fields.flatMap fldF ++ (c.methods.take i).flatMap doesF, [wRc], 32, ⟨.refl _, .own ..⟩, fun _ => rfl, (by simp only [List.length_append, List.length_cons, List.length_nil]; omega), ?_⟩
                exact ⟨.ownEq (by rw [wordsC_eq, hge2, List.take_length]), rfl⟩
            case true =>
              refine ⟨fun h => ?_, fun h => ?_⟩
              · have hlt : i < c.methods.length := by have := of_decide_eq_true h; omega
                have hs := flat_snoc doesF c.methods meth0 i hlt
                have hmo := hp5.2 _ (getT_mem c.methods meth0 i hlt)
                have hdl := does_len hmo
                refine ⟨⟨by omega, by omega⟩, ?_⟩
                refine ⟨c.methods.getD i meth0, ⟨.refl _, trivial⟩, rfl, hmo, ?_⟩
                refine ⟨ByteArray, strC, noS, doC1 c ++ c.fields.flatMap fldF ++ (c.methods.take i).flatMap doesF, doesF (c.methods.getD i meth0), 65, ⟨.refl _, .own ..⟩, fun _ => rfl, (by simp only [List.length_append]; omega), ?_⟩
                exact ⟨(i + 1, true), hlt, by show c.methods.length - (i + 1) < c.methods.length - i; omega, ⟨rfl, rfl⟩, .ownEq (by rw [hs]; simp), .refl _, .refl _, .int hwj, trivial⟩
              · have hge2 : i = c.methods.length := by have := of_decide_eq_false h; omega
                refine ⟨ByteArray, strC, noS, [wRc], ⟨rfl, fun _ => rfl⟩, ⟨.refl _, trivial⟩, rfl, ?_⟩
                refine ⟨ByteArray, strC, noS, doC1 c ++ c.fields.flatMap fldF ++ (c.methods.take i).flatMap doesF, [wRc], 65, ⟨.refl _, .own ..⟩, fun _ => rfl, (by simp only [List.length_append, List.length_cons, List.length_nil]; omega), ?_⟩
                exact ⟨.ownEq (by rw [wordsC_eq, hge2, List.take_length]), rfl⟩
        case true =>
          refine ⟨fun h => ?_, fun h => ?_⟩
          · have hlt : i < c.fields.length := by have := of_decide_eq_true h; omega
            have hs := flat_snoc fldF c.fields fld0 i hlt
            have hk := kindW_len (c.fields.getD i fld0).type
            refine ⟨⟨by omega, by omega⟩, ?_⟩
            refine ⟨fun h3 => ?_, fun h3 => ?_⟩
            · have h3 : (c.fields.getD i fld0).static = true := h3
              have hf : fldF (c.fields.getD i fld0) = [wStatic, (c.fields.getD i fld0).name, wColon] ++ (kindW (c.fields.getD i fld0).type ++ [wSemi]) := by unfold fldF; rw [if_pos h3]
              refine ⟨by kernel_rfl, ?_⟩
              refine ⟨ByteArray, strC, noS, [wStatic, (c.fields.getD i fld0).name, wColon], ⟨rfl, fun _ => rfl⟩, ⟨.refl _, .refl _, .refl _, trivial⟩, rfl, ?_⟩
              refine ⟨ByteArray, strC, noS, doC1 c ++ (c.fields.take i).flatMap fldF, [wStatic, (c.fields.getD i fld0).name, wColon], 53, ⟨.refl _, .own ..⟩, fun _ => rfl, (by simp only [List.length_append, List.length_cons, List.length_nil]; omega), ?_⟩
              refine ⟨(c.fields.getD i fld0).type, ⟨.refl _, trivial⟩, rfl, trivial, ?_⟩
              refine ⟨ByteArray, strC, noS, doC1 c ++ (c.fields.take i).flatMap fldF ++ [wStatic, (c.fields.getD i fld0).name, wColon], kindW (c.fields.getD i fld0).type, 47, ⟨.refl _, .own ..⟩, fun _ => rfl, (by simp only [List.length_append, List.length_cons, List.length_nil]; omega), ?_⟩
              refine ⟨ByteArray, strC, noS, [wSemi], ⟨rfl, fun _ => rfl⟩, ⟨.refl _, trivial⟩, rfl, ?_⟩
              refine ⟨ByteArray, strC, noS, doC1 c ++ (c.fields.take i).flatMap fldF ++ [wStatic, (c.fields.getD i fld0).name, wColon] ++ kindW (c.fields.getD i fld0).type, [wSemi], 51, ⟨.refl _, .refl _⟩, fun _ => rfl, (by simp only [List.length_append, List.length_cons, List.length_nil]; omega), ?_⟩
              exact ⟨(i + 1, true), hlt, by show c.fields.length - (i + 1) < c.fields.length - i; omega, ⟨rfl, rfl⟩, .refl _, .ownEq (by rw [hs, hf]; simp), .refl _, .int hwj, .refl _, ⟨.refl _, .refl _, .refl _, .refl _, .refl _, .refl _, trivial⟩, trivial⟩
            · have h3 : (c.fields.getD i fld0).static = false := h3
              have hf : fldF (c.fields.getD i fld0) = [wField, (c.fields.getD i fld0).name, wColon] ++ (kindW (c.fields.getD i fld0).type ++ [wSemi]) := by unfold fldF; rw [if_neg (by rw [h3]; decide)]
              refine ⟨by kernel_rfl, ?_⟩
              refine ⟨ByteArray, strC, noS, [wField, (c.fields.getD i fld0).name, wColon], ⟨rfl, fun _ => rfl⟩, ⟨.refl _, .refl _, .refl _, trivial⟩, rfl, ?_⟩
              refine ⟨ByteArray, strC, noS, doC1 c ++ (c.fields.take i).flatMap fldF, [wField, (c.fields.getD i fld0).name, wColon], 53, ⟨.refl _, .own ..⟩, fun _ => rfl, (by simp only [List.length_append, List.length_cons, List.length_nil]; omega), ?_⟩
              refine ⟨(c.fields.getD i fld0).type, ⟨.refl _, trivial⟩, rfl, trivial, ?_⟩
              refine ⟨ByteArray, strC, noS, doC1 c ++ (c.fields.take i).flatMap fldF ++ [wField, (c.fields.getD i fld0).name, wColon], kindW (c.fields.getD i fld0).type, 47, ⟨.refl _, .own ..⟩, fun _ => rfl, (by simp only [List.length_append, List.length_cons, List.length_nil]; omega), ?_⟩
              refine ⟨ByteArray, strC, noS, [wSemi], ⟨rfl, fun _ => rfl⟩, ⟨.refl _, trivial⟩, rfl, ?_⟩
              refine ⟨ByteArray, strC, noS, doC1 c ++ (c.fields.take i).flatMap fldF ++ [wField, (c.fields.getD i fld0).name, wColon] ++ kindW (c.fields.getD i fld0).type, [wSemi], 51, ⟨.refl _, .refl _⟩, fun _ => rfl, (by simp only [List.length_append, List.length_cons, List.length_nil]; omega), ?_⟩
              exact ⟨(i + 1, true), hlt, by show c.fields.length - (i + 1) < c.fields.length - i; omega, ⟨rfl, rfl⟩, .refl _, .ownEq (by rw [hs, hf]; simp), .refl _, .int hwj, .refl _, ⟨.refl _, .refl _, .refl _, .refl _, .refl _, .refl _, trivial⟩, trivial⟩
          · have hge : i = c.fields.length := by have := of_decide_eq_false h; omega
            have hcb := hfl c.fields.length
            rw [List.take_length] at hcb
            clear hwj hbi h hi hi1
            refine ⟨Nat × Bool, fun s => [(3, .own ByteArray 1 strC noS (doC1 c ++ c.fields.flatMap fldF ++ (c.methods.take s.1).flatMap doesF) (cond s.2 65 53)), (57, I c.methods.length), (56, .row Meth 9 methC meth0 c.methods), (58, I s.1)], fun _ => [], fun s => s.1 ≤ c.methods.length, fun s => c.methods.length - s.1,
              ⟨(0, false), Nat.zero_le _, ⟨⟨rfl, rfl⟩, .ownEq (by rw [hge, List.take_length]; simp), .refl _, .refl _, .refl _, trivial⟩⟩, fun ((i, b) : Nat × Bool) hi => ?_⟩
            have hi1 : i ≤ c.methods.length := hi
            have hwj : IntKind.i64.wrap ((i : Int) + 1) = ((i + 1 : Nat) : Int) := by rw [wrap_eq _ (by omega) (by omega)]; omega
            have hbi := hml i
            cases b
            case false =>
              refine ⟨fun h => ?_, fun h => ?_⟩
              · have hlt : i < c.methods.length := by have := of_decide_eq_true h; omega
                have hs := flat_snoc doesF c.methods meth0 i hlt
                have hmo := hp5.2 _ (getT_mem c.methods meth0 i hlt)
                have hdl := does_len hmo
                refine ⟨⟨by omega, by omega⟩, ?_⟩
                refine ⟨c.methods.getD i meth0, ⟨.refl _, trivial⟩, rfl, hmo, ?_⟩
                refine ⟨ByteArray, strC, noS, doC1 c ++ c.fields.flatMap fldF ++ (c.methods.take i).flatMap doesF, doesF (c.methods.getD i meth0), 53, ⟨.refl _, .own ..⟩, fun _ => rfl, (by simp only [List.length_append]; omega), ?_⟩
                exact ⟨(i + 1, true), hlt, by show c.methods.length - (i + 1) < c.methods.length - i; omega, ⟨rfl, rfl⟩, .ownEq (by rw [hs]; simp), .refl _, .refl _, .int hwj, trivial⟩
              · have hge2 : i = c.methods.length := by have := of_decide_eq_false h; omega
                refine ⟨ByteArray, strC, noS, [wRc], ⟨rfl, fun _ => rfl⟩, ⟨.refl _, trivial⟩, rfl, ?_⟩
                refine ⟨ByteArray, strC, noS, doC1 c ++ c.fields.flatMap fldF ++ (c.methods.take i).flatMap doesF, [wRc], 53, ⟨.refl _, .own ..⟩, fun _ => rfl, (by simp only [List.length_append, List.length_cons, List.length_nil]; omega), ?_⟩
                exact ⟨.ownEq (by rw [wordsC_eq, hge2, List.take_length]), rfl⟩
            case true =>
              refine ⟨fun h => ?_, fun h => ?_⟩
              · have hlt : i < c.methods.length := by have := of_decide_eq_true h; omega
                have hs := flat_snoc doesF c.methods meth0 i hlt
                have hmo := hp5.2 _ (getT_mem c.methods meth0 i hlt)
                have hdl := does_len hmo
                refine ⟨⟨by omega, by omega⟩, ?_⟩
                refine ⟨c.methods.getD i meth0, ⟨.refl _, trivial⟩, rfl, hmo, ?_⟩
                refine ⟨ByteArray, strC, noS, doC1 c ++ c.fields.flatMap fldF ++ (c.methods.take i).flatMap doesF, doesF (c.methods.getD i meth0), 65, ⟨.refl _, .own ..⟩, fun _ => rfl, (by simp only [List.length_append]; omega), ?_⟩
                exact ⟨(i + 1, true), hlt, by show c.methods.length - (i + 1) < c.methods.length - i; omega, ⟨rfl, rfl⟩, .ownEq (by rw [hs]; simp), .refl _, .refl _, .int hwj, trivial⟩
              · have hge2 : i = c.methods.length := by have := of_decide_eq_false h; omega
                refine ⟨ByteArray, strC, noS, [wRc], ⟨rfl, fun _ => rfl⟩, ⟨.refl _, trivial⟩, rfl, ?_⟩
                refine ⟨ByteArray, strC, noS, doC1 c ++ c.fields.flatMap fldF ++ (c.methods.take i).flatMap doesF, [wRc], 65, ⟨.refl _, .own ..⟩, fun _ => rfl, (by simp only [List.length_append, List.length_cons, List.length_nil]; omega), ?_⟩
                exact ⟨.ownEq (by rw [wordsC_eq, hge2, List.take_length]), rfl⟩
end Go.Proofs.YtadimoijlgmecaaGreatDoor.Ax
/- The builder of a call: its bytes, and what its writers leave alone. -/
set_option linter.unusedVariables false
set_option linter.unusedSimpArgs false
namespace Go.Proofs.YtadimoijlgmecaaGreatDoor.Ax
open Go Go.RowKit
section
variable {P : Program}
/-- block b is a builder that holds the bytes bs in the row v -/
structure Bld (T e : TypeId) (b : Nat) (p v : Value) (bs : List Value) (w : World) : Prop where
  heap : w.heap[b]? = some (.cells #[p, v] T (0, 0))
  own : w.ownsRowF b e 1 v bs.length bs
  ne : v.ownBlock ≠ some b
  ptr : p = .pointer none ∨ p = .pointer (some ⟨b, 0, none⟩)
/-- all blocks but the builder's own two are as they were -/
structure Aside (b : Nat) (v v' : Value) (w w' : World) : Prop where
  below : Below b w w'
  keep : ∀ k, k < w.heap.size → k ≠ b → some k ≠ v.ownBlock → w'.heap[k]? = w.heap[k]?
  own : ∀ g, v'.ownBlock = some g → v.ownBlock = some g ∨ w.heap.size ≤ g
theorem Aside.refl (b : Nat) (v : Value) (w : World) : Aside b v v w w := ⟨.refl _ _, fun _ _ _ _ => rfl, fun _ h => .inl h⟩
theorem Aside.trans {b : Nat} {v v' v'' : Value} {w w' w'' : World} (h : Aside b v v' w w') (k : Aside b v' v'' w' w'') : Aside b v v'' w w'' := by
  refine ⟨h.below.trans k.below, fun i hi hb hv => ?_, fun g hg => ?_⟩
  · rw [k.keep i (Nat.lt_of_lt_of_le hi h.below.size) hb (fun e => ?_), h.keep i hi hb hv]
    rcases h.own i e.symm with q | q
    · exact hv q.symm
    · omega
  · rcases k.own g hg with q | q
    · exact h.own g q
    · exact .inr (Nat.le_trans h.below.size q)
theorem Bld.lt {T e : TypeId} {b : Nat} {p v : Value} {bs : List Value} {w : World} (h : Bld T e b p v bs w) : b < w.heap.size := by
  rcases Nat.lt_or_ge b w.heap.size with h' | h'
  · exact h'
  · have := h.heap; simp [Array.getElem?_eq_none h'] at this
theorem Bld.isF {T e : TypeId} {b : Nat} {p v : Value} {bs : List Value} {w : World} (h : Bld T e b p v bs w) : Lib.IsBuilderF T e b b bs w := by
  rcases h.ptr with e | e
  · exact .inl ⟨Nat.le_refl _, v, e ▸ h.heap, h.own, h.ne⟩
  · exact .inr ⟨Nat.le_refl _, v, e ▸ h.heap, h.own, h.ne⟩
theorem bld_set0 {T e : TypeId} {b : Nat} {p v : Value} {bs : List Value} {w : World} (h : Bld T e b p v bs w) :
    Bld T e b (.pointer (some ⟨b, 0, none⟩)) v bs (w.setCell ⟨b, 0, none⟩ (.pointer (some ⟨b, 0, none⟩))) ∧ Aside b v v w (w.setCell ⟨b, 0, none⟩ (.pointer (some ⟨b, 0, none⟩))) := by
  refine ⟨⟨?_, ?_, h.ne, .inr rfl⟩, ⟨(Below.refl b w).setCell (p := ⟨b, 0, none⟩) (Nat.le_refl b) _, fun k _ hb _ => Below.heap_setCell _ _ _ _ hb, fun _ hg => .inl hg⟩⟩
  · simp [World.setCell, Array.getElem?_modify, h.heap]
  · exact h.own.kept (row := some b) ⟨rfl, rfl, rfl, by simp [World.setCell], fun k _ hk => Below.heap_setCell _ _ _ _ (fun e => hk (by simp [e]))⟩ (.inr h.ne)
theorem bld_put {T e : TypeId} {b : Nat} {p v v' : Value} {bs bs' : List Value} {w w1 : World} (hT : T ≠ e) (h1 : Bld T e b p v bs w) (hg : w.grownBy w1 v.ownBlock) (ho : w1.ownsRowF b e 1 v' bs'.length bs')
    (hv : ∀ g, v'.ownBlock = some g → v.ownBlock = some g ∨ w.heap.size ≤ g) :
    Bld T e b p v' bs' (w1.setCell ⟨b, 1, none⟩ v') ∧ Aside b v v' w (w1.setCell ⟨b, 1, none⟩ v') := by
  have hb2 : w1.heap[b]? = some (.cells #[p, v] T (0, 0)) := by rw [hg.block b h1.lt (fun e => h1.ne e.symm)]; exact h1.heap
  have hne := Lib.ownBlock_neF ho hb2 hT
  have hbl : Below b w w1 := (Below.refl b w).grown hg (Nat.le_of_lt h1.lt) (fun k hk => (h1.own.lt k hk).1)
  refine ⟨⟨?_, ?_, hne, h1.ptr⟩, ⟨hbl.setCell (p := ⟨b, 1, none⟩) (Nat.le_refl b) _, fun k hk hkb hkv => ?_, hv⟩⟩
  · simp [World.setCell, Array.getElem?_modify, hb2]
  · exact ho.kept (row := some b) ⟨rfl, rfl, rfl, by simp [World.setCell], fun k _ hk => Below.heap_setCell _ _ _ _ (fun e => hk (by simp [e]))⟩ (.inr hne)
  · rw [Below.heap_setCell _ _ _ _ hkb]; exact hg.block k hk hkv
/-- copyCheck -/
theorem builder_size : (Tryz.prog.info? 67).map (·.size) = some 2 := by kernel_rfl
theorem builder_lies : liesAt Tryz.prog Tryz.prog.depth 67 (2 / Tryz.prog.cellsOf 67) 0 67 1 = true := by kernel_rfl
theorem builder_ptr : Tryz.prog.underlying 65 = some (.pointer 67) := by kernel_rfl
theorem builder_uns : Tryz.prog.underlying 119 = some .unsafePointer := by kernel_rfl
set_option maxHeartbeats 1000000 in
set_option maxRecDepth 100000 in
theorem bcheck_used (b : Nat) (w : World) (h0 : w.cell? ⟨b, 0, none⟩ = some (.pointer (some ⟨b, 0, none⟩))) :
    Calls Tryz.prog 41 #[.pointer (some ⟨b, 0, none⟩)] w fun e w' => e = .returned (.tuple #[]) ∧ w' = w := by
  obtain ⟨j, hj, _⟩ := Option.map_eq_some_iff.1 builder_size
  go_enter Tryz.func41, Tryz.ntmps41
  go_wp2
  rw [Lib.run_neq_ptr_same w _ builder_ptr hj]
  go_wp2
  go_end0
  exact ⟨rfl, rfl⟩
set_option maxHeartbeats 1000000 in
set_option maxRecDepth 100000 in
theorem bcheck_fresh (b : Nat) (w : World) (h0 : w.cell? ⟨b, 0, none⟩ = some (.pointer none)) (hsh : w.shape? b = some (67, 2)) (hfz : w.frozen? ⟨b, 0, none⟩ = false) :
    Calls Tryz.prog 41 #[.pointer (some ⟨b, 0, none⟩)] w fun e w' => e = .returned (.tuple #[]) ∧ w' = w.setCell ⟨b, 0, none⟩ (.pointer (some ⟨b, 0, none⟩)) := by
  obtain ⟨j, hj, hjs⟩ := Option.map_eq_some_iff.1 builder_size
  go_enter Tryz.func41, Tryz.ntmps41
  go_wp2
  rw [Lib.run_to_unsafe w ⟨b, 0, none⟩ builder_ptr builder_uns hj (by rw [hjs]; decide) hsh (Nat.zero_lt_succ 1)]
  simp only [Result.andThen]
  rw [Oper.upon_value]
  go_wp2
  rw [run_callFunc_extern Tryz.func72 (by kernel_rfl) (by kernel_rfl) (by kernel_rfl) (e := Extern.AbiNoEscape.same) (by kernel_rfl)]
  rw [Lib.run_noEscape]
  simp only [Result.andThen]
  rw [Oper.upon_value]
  go_wp2
  rw [Lib.run_from_unsafe w ⟨b, 0, none⟩ builder_uns builder_ptr hj hsh builder_lies]
  simp only [Result.andThen]
  rw [Oper.upon_value]
  go_wp2
  go_end0
  exact ⟨rfl, rfl⟩
theorem bcheck {b : Nat} {p v : Value} {bs : List Value} {w : World} (h : Bld 67 5 b p v bs w) :
    Calls Tryz.prog 41 #[.pointer (some ⟨b, 0, none⟩)] w fun e w' => e = .returned (.tuple #[]) ∧ (Bld 67 5 b (.pointer (some ⟨b, 0, none⟩)) v bs w' ∧ Aside b v v w w') := by
  have c0 : w.cell? ⟨b, 0, none⟩ = some p := by rw [Lib.cell_of_heap h.heap]; rfl
  rcases h.ptr with e | e
  · refine (bcheck_fresh b w (e ▸ c0) (by simp [World.shape?, h.heap]) (Lib.frozen_of_heap h.heap 0)).mono ?_
    rintro e w' ⟨rfl, rfl⟩
    exact ⟨rfl, bld_set0 h⟩
  · refine (bcheck_used b w (e ▸ c0)).mono ?_
    rintro e' w' ⟨rfl, rfl⟩
    exact ⟨rfl, e ▸ h, Aside.refl _ _ _⟩
/-- where an append's row lies -/
theorem str_block (w : World) (t u ty e : TypeId) (i : TypeInfo) (ht : P.underlying t = some (.slice e)) (hu : P.underlying u = some .string) (hi : P.info? e = some i) (hz : i.zero = some (.int .u8 0)) (hsize : i.size = 1) (hby : i.bytes = 1)
    {base : Nat} {v v' : Value} {n : Nat} {xs : List Value} {w' : World} (hown : w.ownsRowF base e 1 v n xs) (s : ByteArray) (hbytes : n + s.size ≤ 140737488355328)
    (hr : (Builtin.append_ #[t, u] ty #[v, .string s]).run P w = .ok v' w') : ∀ g, v'.ownBlock = some g → v.ownBlock = some g ∨ w.heap.size ≤ g := by
  intro g' hg'
  have h63 : n + s.size ≤ maxLen := by unfold maxLen; omega
  rcases hown.2 with ⟨rfl, rfl⟩ | ⟨g, cap, cur, fz, rfl, hbg, hg, hfz, hnc, hcm, hcs, htake⟩
  · have hx : xs = [] := by have := hown.1; simpa using this
    subst hx
    obtain ⟨v2, w2, h1, h2, -⟩ := Lib.run_append_own_stringF (P := P) w w.heap.size t u ty e i ht hu hi hz hsize hby (.slice none 0 0) 0 [] (World.ownsRowF_nil _ _ _ _) s h63 hbytes (Nat.le_refl _)
    rw [hr] at h1
    injection h1 with q1 q2
    subst q1
    exact .inr (h2.lt g' hg').1
  · by_cases hroom : n + s.size ≤ cap
    · have h1 := Lib.run_append_room_stringF (P := P) w t u ty e i ht hu hi hsize g n cap cur fz hg (by simpa using hfz) s hroom (by rw [hcs]; omega)
      rw [hr] at h1
      injection h1 with q1 q2
      subst q1
      exact .inl hg'
    · have holds : ∀ j u, xs[j]? = some u → w.cell? ((⟨g, 0, none⟩ : Addr).add j) = some u := hown.cells (g := g) rfl
      have h1 := Lib.run_append_grow_string (P := P) w t u ty e i (.int .u8 0) ht hu hi hz ⟨g, 0, none⟩ n cap xs (by rw [hsize]; exact hown.1) holds s (by omega) (by omega) (by rw [hby]; exact growslice_fits (by omega) (by omega))
      rw [hr] at h1
      injection h1 with q1 q2
      subst q1
      simp only [Value.ownBlock, Option.some.injEq] at hg'
      exact .inr (by omega)
theorem byte_block (w : World) (t ty e : TypeId) (i : TypeInfo) (ht : P.underlying t = some (.slice e)) (hi : P.info? e = some i) (hz : i.zero = some (.int .u8 0)) (hsize : i.size = 1) (hby : i.bytes = 1)
    {base : Nat} {v v' : Value} {n : Nat} {xs : List Value} {w' : World} (hown : w.ownsRowF base e 1 v n xs) (a : Addr) (m c : Nat) (news : List Value) (hl : news.length = m) (hnews : ∀ j u, news[j]? = some u → w.cell? (a.add j) = some u) (h1 : ∀ u ∈ news, u.oneCell' = true)
    (hbytes : n + m ≤ 140737488355328) (hr : (Builtin.append_ #[t, t] ty #[v, .slice (some a) m c]).run P w = .ok v' w') : ∀ g, v'.ownBlock = some g → v.ownBlock = some g ∨ w.heap.size ≤ g := by
  intro g' hg'
  have h63 : n + m ≤ maxLen := by unfold maxLen; omega
  have hl1 : news.length = m * 1 := by omega
  rcases hown.2 with ⟨rfl, rfl⟩ | ⟨g, cap, cur, fz, rfl, hbg, hg, hfz, hnc, hcm, hcs, htake⟩
  · have hx : xs = [] := by have := hown.1; simpa using this
    subst hx
    obtain ⟨v2, w2, h1, h2, -⟩ := run_append_ownF (P := P) w w.heap.size t ty e i (.int .u8 0) 1 1 ht hi hz hsize hby rfl (by decide) (.slice none 0 0) 0 [] (World.ownsRowF_nil _ _ _ _) a m c news hl1 hnews h1 h63 (by omega) (Nat.le_refl _)
    rw [hr] at h1
    injection h1 with q1 q2
    subst q1
    exact .inr (h2.lt g' hg').1
  · by_cases hroom : n + m ≤ cap
    · have h2 := run_append_roomF (P := P) w t ty e i ht hi g n cap cur fz hg (by rw [hsize]; exact hfz) a m c news (by rw [hsize]; exact hl1) hnews h1 hroom (by rw [hsize, hcs]; omega)
      rw [hr] at h2
      injection h2 with q1 q2
      subst q1
      exact .inl hg'
    · have holds : ∀ j u, xs[j]? = some u → w.cell? ((⟨g, 0, none⟩ : Addr).add j) = some u := hown.cells (g := g) rfl
      have h2 := run_append_grow (P := P) w t ty e i (.int .u8 0) ht hi hz ⟨g, 0, none⟩ n cap xs (by rw [hsize]; exact hown.1) holds a m c news (by rw [hsize]; exact hl1) hnews (by omega) (by omega) (by rw [hby]; exact growslice_fits (by omega) (by omega))
      rw [hr] at h2
      injection h2 with q1 q2
      subst q1
      simp only [Value.ownBlock, Option.some.injEq] at hg'
      exact .inr (by omega)
theorem wpStr {ops : Array Oper} {rest : List Oper} {o : Oper} {a : Act} {w : World} {Q : Exit → Act → World → Prop} (hgd : o.guard = none) (sl x : Operand) (t u : TypeId)
    (ho : o.op = .call { callee := .builtin .append, args := #[sl, x], argTypes := #[t, u] })
    (base : Nat) (e : TypeId) (i : TypeInfo) (ht : P.underlying t = some (.slice e)) (hu : P.underlying u = some .string) (hi : P.info? e = some i) (hz : i.zero = some (.int .u8 0)) (hsize : i.size = 1) (hby : i.bytes = 1)
    (v : Value) (n : Nat) (xs : List Value) (hs : a.eval sl = v) (hown : w.ownsRowF base e 1 v n xs) (s : ByteArray) (hx : a.eval x = .string s) (hbytes : n + s.size ≤ 140737488355328) (hbase : base ≤ w.heap.size)
    (h : ∀ v' w', w'.ownsRowF base e 1 v' (n + s.size) (xs ++ Lib.strCells s) → w.grownBy w' v.ownBlock → (∀ g, v'.ownBlock = some g → v.ownBlock = some g ∨ w.heap.size ≤ g) → wpList P ops Q rest (a.put o.dst v') w') : wpList P ops Q (o :: rest) a w := by
  refine wpList_plain hgd fun K hK => ?_
  obtain ⟨v', w', hr, h2, h3, -⟩ := Lib.run_append_own_stringF (P := P) w base t u o.type e i ht hu hi hz hsize hby v n xs hown s (by unfold maxLen; omega) hbytes hbase
  have h4 := str_block w t u o.type e i ht hu hi hz hsize hby hown s hbytes hr
  unfold Oper.wp execOp
  simp only [ho, resolve, invoke, builtin, Sem.run_bind, Sem.run_pure, Result.andThen_ok, List.map_toArray, List.map_cons, List.map_nil, hs, hx, hr]
  exact hK _ _ (h v' w' h2 h3 h4)
theorem wpByte {ops : Array Oper} {rest : List Oper} {o : Oper} {a : Act} {w : World} {Q : Exit → Act → World → Prop} (hgd : o.guard = none) (sl x : Operand) (t : TypeId)
    (ho : o.op = .call { callee := .builtin .append, args := #[sl, x], argTypes := #[t, t] })
    (base : Nat) (e : TypeId) (i : TypeInfo) (ht : P.underlying t = some (.slice e)) (hi : P.info? e = some i) (hz : i.zero = some (.int .u8 0)) (hsize : i.size = 1) (hby : i.bytes = 1)
    (v : Value) (n : Nat) (xs : List Value) (hs : a.eval sl = v) (hown : w.ownsRowF base e 1 v n xs) (ad : Addr) (m c : Nat) (news : List Value) (hx : a.eval x = .slice (some ad) m c) (hl : news.length = m) (hnews : ∀ j u, news[j]? = some u → w.cell? (ad.add j) = some u) (h1 : ∀ u ∈ news, u.oneCell' = true)
    (hbytes : n + m ≤ 140737488355328) (hbase : base ≤ w.heap.size)
    (h : ∀ v' w', w'.ownsRowF base e 1 v' (n + m) (xs ++ news) → w.grownBy w' v.ownBlock → (∀ g, v'.ownBlock = some g → v.ownBlock = some g ∨ w.heap.size ≤ g) → wpList P ops Q rest (a.put o.dst v') w') : wpList P ops Q (o :: rest) a w := by
  refine wpList_plain hgd fun K hK => ?_
  obtain ⟨v', w', hr, h2, h3, -⟩ := run_append_ownF (P := P) w base t o.type e i (.int .u8 0) 1 1 ht hi hz hsize hby rfl (by decide) v n xs hown ad m c news (by omega) hnews h1 (by unfold maxLen; omega) (by omega) hbase
  have h4 := byte_block w t o.type e i ht hi hz hsize hby hown ad m c news hl hnews h1 hbytes hr
  unfold Oper.wp execOp
  simp only [ho, resolve, invoke, builtin, Sem.run_bind, Sem.run_pure, Result.andThen_ok, List.map_toArray, List.map_cons, List.map_nil, hs, hx, hr]
  exact hK _ _ (h v' w' h2 h3 h4)
theorem byte_info : (Tryz.prog.info? 5).map (fun i => (i.zero, i.size, i.bytes)) = some (some (.int .u8 0), 1, 1) := by kernel_rfl
theorem bytes_und : Tryz.prog.underlying 29 = some (.slice 5) := by kernel_rfl
theorem str_und : Tryz.prog.underlying 9 = some .string := by kernel_rfl
set_option maxHeartbeats 2000000 in
set_option maxRecDepth 100000 in
theorem bstring {b : Nat} {p v : Value} {bs : List Value} (s : ByteArray) {w : World} (h : Bld 67 5 b p v bs w) (hlen : bs.length + s.size ≤ 140737488355328) :
    Calls Tryz.prog 22 #[.pointer (some ⟨b, 0, none⟩), .string s] w fun e w' => e = .returned (.tuple #[.int .i64 s.size, .nilIface]) ∧ ∃ v', Bld 67 5 b (.pointer (some ⟨b, 0, none⟩)) v' (bs ++ Lib.strCells s) w' ∧ Aside b v v' w w' := by
  obtain ⟨i0, hi, hz0, hz1, hz2⟩ := info_parts byte_info
  go_enter Tryz.func22, Tryz.ntmps22
  go_wp2_with (go_at_call 41; refine (bcheck h).mono ?_)
  rintro e w1 ⟨rfl, h1, ha1⟩
  have hlt1 := h1.lt
  have c0 : w1.cell? ⟨b, 0, none⟩ = some (.pointer (some ⟨b, 0, none⟩)) := by rw [Lib.cell_of_heap h1.heap]; rfl
  have c1 : w1.cell? ⟨b, 1, none⟩ = some v := by rw [Lib.cell_of_heap h1.heap]; rfl
  go_wp2_with (at_builtin; refine wpStr rfl _ _ 29 9 rfl b 5 i0 bytes_und str_und hi hz0 hz1 hz2 _ _ _ rfl h1.own s rfl hlen (Nat.le_of_lt hlt1) ?_)
  intro v' w2 hown' hgrow hv'
  have hb2 : w2.heap[b]? = some (.cells #[.pointer (some ⟨b, 0, none⟩), v] 67 (0, 0)) := by
    rw [hgrow.block b hlt1 (fun e => h1.ne e.symm)]
    exact h1.heap
  have d0 : w2.cell? ⟨b, 0, none⟩ = some (.pointer (some ⟨b, 0, none⟩)) := by rw [Lib.cell_of_heap hb2]; rfl
  have d1 : w2.cell? ⟨b, 1, none⟩ = some v := by rw [Lib.cell_of_heap hb2]; rfl
  have f1 : w2.frozen? ⟨b, 1, none⟩ = false := Lib.frozen_of_heap hb2 1
  have hfin := bld_put (bs' := bs ++ Lib.strCells s) (by decide) h1 hgrow (by rw [List.length_append, Lib.strCells_length]; exact hown') hv'
  have HF := Lib.hid (And.intro hfin ha1)
  clear hfin ha1 hown' hgrow hv' h1 h
  obtain ⟨ao, n', cap, rfl⟩ : ∃ ao n' cap, v' = .slice ao n' cap := by
    rcases HF.out.1.1.own.2 with ⟨hv, _⟩ | ⟨g, cap, cur, fz, hv, _⟩
    · exact ⟨_, _, _, hv⟩
    · exact ⟨_, _, _, hv⟩
  go_wp2
  go_ret2
  exact ⟨rfl, _, HF.out.1.1, HF.out.2.trans HF.out.1.2⟩
set_option maxHeartbeats 2000000 in
set_option maxRecDepth 100000 in
theorem bbyte {b : Nat} {p v : Value} {bs : List Value} (c : Int) {w : World} (h : Bld 67 5 b p v bs w) (hlen : bs.length + 1 ≤ 140737488355328) :
    Calls Tryz.prog 23 #[.pointer (some ⟨b, 0, none⟩), .int .u8 c] w fun e w' => e = .returned .nilIface ∧ ∃ v', Bld 67 5 b (.pointer (some ⟨b, 0, none⟩)) v' (bs ++ [.int .u8 c]) w' ∧ Aside b v v' w w' := by
  obtain ⟨i0, hi, hz0, hz1, hz2⟩ := info_parts byte_info
  go_enter Tryz.func23, Tryz.ntmps23
  go_wp2_with (go_at_call 41; refine (bcheck h).mono ?_)
  rintro e w1 ⟨rfl, h1, ha1⟩
  have hlt1 := h1.lt
  have c0 : w1.cell? ⟨b, 0, none⟩ = some (.pointer (some ⟨b, 0, none⟩)) := by rw [Lib.cell_of_heap h1.heap]; rfl
  have c1 : w1.cell? ⟨b, 1, none⟩ = some v := by rw [Lib.cell_of_heap h1.heap]; rfl
  go_wp2_with (at_builtin; refine wpByte rfl _ _ 29 rfl b 5 i0 bytes_und hi hz0 hz1 hz2 _ _ _ rfl (h1.own.alloc _) ⟨w1.heap.size, 0, none⟩ 1 1 [.int .u8 c] rfl rfl ?c1 ?c2 hlen ?c5 ?_)
  case c1 =>
    intro j u hj
    match j, hj with
    | 0, hj => simp at hj; subst hj; simp [Addr.add]
  case c2 => intro u hu; simp at hu; subst hu; rfl
  case c5 => simp; omega
  intro v' w2 hown' hgrow hv'
  have hg2 : w1.grownBy w2 v.ownBlock := by
    refine ⟨hgrow.os, hgrow.tape, hgrow.output, by have := hgrow.size; simp at this; omega, fun k hk hkv => ?_⟩
    rw [hgrow.block k (by simp; omega) hkv, Lib.alloc_old w1 _ k hk]
  have hv2 : ∀ g, v'.ownBlock = some g → v.ownBlock = some g ∨ w1.heap.size ≤ g := fun g hg => (hv' g hg).imp id (fun q => by first | omega | (simp at q; omega) | exact Nat.le_of_succ_le q)
  have hb2 : w2.heap[b]? = some (.cells #[.pointer (some ⟨b, 0, none⟩), v] 67 (0, 0)) := by
    rw [hg2.block b hlt1 (fun e => h1.ne e.symm)]
    exact h1.heap
  have d0 : w2.cell? ⟨b, 0, none⟩ = some (.pointer (some ⟨b, 0, none⟩)) := by rw [Lib.cell_of_heap hb2]; rfl
  have d1 : w2.cell? ⟨b, 1, none⟩ = some v := by rw [Lib.cell_of_heap hb2]; rfl
  have f1 : w2.frozen? ⟨b, 1, none⟩ = false := Lib.frozen_of_heap hb2 1
  have hfin := bld_put (bs' := bs ++ [.int .u8 c]) (by decide) h1 hg2 (by simpa using hown') hv2
  have HF := Lib.hid (And.intro hfin ha1)
  clear hfin ha1 hown' hgrow hv' h1 h hg2 hv2
  obtain ⟨ao, n', cap, rfl⟩ : ∃ ao n' cap, v' = .slice ao n' cap := by
    rcases HF.out.1.1.own.2 with ⟨hv, _⟩ | ⟨g, cap, cur, fz, hv, _⟩
    · exact ⟨_, _, _, hv⟩
    · exact ⟨_, _, _, hv⟩
  go_wp2
  go_ret
  exact ⟨rfl, _, HF.out.1.1, HF.out.2.trans HF.out.1.2⟩
end
end Go.Proofs.YtadimoijlgmecaaGreatDoor.Ax
/- Layer show: a program's text. -/
set_option linter.unusedVariables false
set_option linter.unusedSimpArgs false
namespace Go.Proofs.YtadimoijlgmecaaGreatDoor.Ax
open Go Go.RowKit
def textK : Ctr := { A := List Cls, enc := fun p => [.agg [prgR p]], dom := prgD, res := fun p _ => .tup [.row UInt8 1 byteC 0 (showF p).1, I (showF p).2], gl := tabS }
theorem shaped_below {w w' : World} (h : Below w.heap.size w w') : Shaped w w' := ⟨h.size, fun k hk => by simp only [World.shape?, h.block k hk]⟩
theorem sealed_below {H : HM} {w w' : World} (hs : Sealed H w) (h : Below w.heap.size w w') : Sealed H w' := fun b o v e => by
  have := hs b o v e
  have hlt := World.block_lt_of_cell? w _ this
  rw [← this]
  simp only [World.cell?, h.block b hlt]
/-- a call in a later world -/
theorem ctr_later {P : Program} {g : Nat} {c : Ctr} (h : CtrSound P g c) (x : c.A) {H : HM} {w w1 : World} {vs : Array Value} (id : Nat) (hd : c.dom x) (hs : Sealed H w) (hgl : ∀ w', Sealed H w' → Shaped w w' → c.gl w') (hb : Below w.heap.size w w1)
    (hn : vs.size = (c.enc x).length) (hg : ∀ j, j < (c.enc x).length → G H noB noT (at' (c.enc x) j .junk) (vs.getD j undef)) :
    Calls P g vs w1 fun e w' => ∃ v H', e = .returned v ∧ Below w1.heap.size w1 w' ∧ HLe H H' ∧ (∀ b o, b < w1.heap.size → H' b o = H b o) ∧ Sealed H' w' ∧ ∃ T', G H' noB T' (c.res x id) v := by
  refine (h.2 x H w1 vs id hd (sealed_below hs hb) (fun w' h1 h2 => hgl w' h1 ((shaped_below hb).trans h2)) hn hg).mono ?_
  rintro e w' ⟨v, H', T', rfl, h1, h2, h3, -, h5, h6, -⟩
  exact ⟨v, H', rfl, h1, h2, h3, fun b o u e => (h5 b o u e).1, T', h6⟩
theorem row_val {H : HM} {β : BM} {T : TM} {X : Type} {sz : Nat} {cs : X → List SV} {d : X} {l : List X} {v : Value} (h : G H β T (.row X sz cs d l) v) : ∃ a n c, v = .slice a n c := by cases h <;> exact ⟨_, _, _, rfl⟩
theorem sep_eq (s : ByteArray) : (s.toList = [123] ∨ s.toList = [125] ∨ s.toList = [59] → sepOf s = 10) ∧ (¬ (s.toList = [123] ∨ s.toList = [125] ∨ s.toList = [59]) → sepOf s = 32) := by
  have k1 : s.toList = [123] ↔ s = wLc := by
    have := ba_eq s wLc
    rw [show wLc.toList = [123] by decide +kernel] at this
    rw [← beq_iff_eq (a := s.toList), this, decide_eq_true_iff]
  have k2 : s.toList = [125] ↔ s = wRc := by
    have := ba_eq s wRc
    rw [show wRc.toList = [125] by decide +kernel] at this
    rw [← beq_iff_eq (a := s.toList), this, decide_eq_true_iff]
  have k3 : s.toList = [59] ↔ s = wSemi := by
    have := ba_eq s wSemi
    rw [show wSemi.toList = [59] by decide +kernel] at this
    rw [← beq_iff_eq (a := s.toList), this, decide_eq_true_iff]
  rw [k1, k2, k3]
  exact ⟨fun h => if_pos h, fun h => if_neg h⟩
theorem tokB_len {w : ByteArray} (h : tokB w = true) : w.data.toList.length ≤ 21 := by
  rcases tok_cases h with ⟨n, e, h1, h2⟩ | h | h
  · rw [e]; exact Lib.itoa_length_le n (by omega) (by omega)
  · obtain ⟨c, r, -, -, -, h4⟩ := name_form.1 h; omega
  · omega
theorem putW_flat (ws : List ByteArray) (h : Toks ws) : (ws.flatMap putW).length ≤ 22 * ws.length :=
  flat_le putW 22 ws fun w hw => by have := tokB_len (h w hw); unfold putW; simp only [List.length_append, List.length_cons, List.length_nil]; omega
theorem cells_put (acc : List UInt8) (ws : List ByteArray) (m : Nat) (hm : m < ws.length) {s : ByteArray} (hs : s = ws.getD m noS) {n : Int} (hn : n = ((sepOf s).toNat : Int)) :
    Lib.byteCells (acc ++ (ws.take m).flatMap putW) ++ Lib.strCells s ++ [.int .u8 n] = Lib.byteCells (acc ++ (ws.take (m + 1)).flatMap putW) := by
  rw [flat_snoc putW ws noS m hm, ← hs, hn]
  unfold putW
  rw [Lib.strCells_eq, ← Lib.byteCells_append, ← List.append_assoc, Lib.byteCells_append, ← List.append_assoc, Lib.byteCells_append, Lib.byteCells_append]
  simp [Lib.byteCells]
def TextPost (p : List Cls) (H : HM) (w : World) (e : Ending) (w' : World) : Prop :=
  ∃ v H', e = .returned v ∧ Below w.heap.size w w' ∧ HLe H H' ∧ (∀ b o, b < w.heap.size → H' b o = H b o) ∧ Sealed H' w' ∧ G H' noB noT (textK.res p 0) v
def TextRow (p : List Cls) (H : HM) (ad : Option Addr) : Prop :=
  ∀ k, k < p.length → ∃ B off, ad = some ⟨B, off, none⟩ ∧ ∃ vs : Nat → Value, (∀ j, j < 6 → H B (off + k * 6 + j) = some (vs j)) ∧ ∀ j, j < 6 → G H noB noT (at' (clsC (p.getD k cls0)) j .junk) (vs j)
def TextRel (p : List Cls) (w : World) (b : Nat) (i : Value) (wr : World) : Prop :=
  ∃ k v q, k ≤ p.length ∧ i = .int .i64 k ∧ Bld 67 5 b q v (Lib.byteCells ((p.take k).flatMap textC)) wr ∧ Below w.heap.size w wr
def TextRel2 (ws : List ByteArray) (acc : List UInt8) (v : Value) (w3 : World) (b : Nat) (j : Value) (wq : World) : Prop :=
  ∃ m v' q', m ≤ ws.length ∧ j = .int .i64 m ∧ Bld 67 5 b q' v' (Lib.byteCells (acc ++ (ws.take m).flatMap putW)) wq ∧ Aside b v v' w3 wq
theorem bld_below {T e : TypeId} {b : Nat} {q v : Value} {bs : List Value} {w w' : World} (h : Bld T e b q v bs w) (hb : Below w.heap.size w w') : Bld T e b q v bs w' :=
  ⟨(hb.block b h.lt).trans h.heap, h.own.kept (row := none) ⟨hb.os, hb.tape, hb.output, hb.size, fun k hk _ => hb.block k hk⟩ (by cases hv : v.ownBlock <;> simp), h.ne, h.ptr⟩
theorem wordsC_ne (c : Cls) : 0 < (wordsC c).length := by rw [wordsC_eq]; simp only [List.length_append, List.length_cons]; omega
theorem wordsC_len {c : Cls} (h : clsOk c = true) : (wordsC c).length ≤ 2500 := by
  obtain ⟨hp1, hp2, hp3, hp4, hp5⟩ := cls_parts h
  have hll := listF_len (if c.iface then wExtends else wImplements) c.ifaces
  have hsl : (supC c).length ≤ 2 := by unfold supC; split <;> simp
  have hl3 := hp3.1
  have hm1 : (doC1 c).length ≤ 20 := by unfold doC1 hdC lstC; simp only [List.length_append, List.length_cons, List.length_nil]; omega
  have h1 := flat_le fldF 7 c.fields fun x _ => fldF_len x
  have h2 := flat_le doesF 400 c.methods fun x hx => does_len (hp5.2 x hx)
  have h3 := hp4.1
  have h4 := hp5.1
  rw [wordsC_eq]; simp only [List.length_append, List.length_cons, List.length_nil]; omega
theorem textC_len {c : Cls} (h : clsOk c = true) : (textC c).length ≤ 55000 := by
  have h1 := putW_flat _ (cls_tok h)
  have h2 := wordsC_len h
  unfold textC; omega
theorem textP_len {p : List Cls} (h : prgOk p = true) (k : Nat) : ((p.take k).flatMap textC).length ≤ 550000 := by
  obtain ⟨h1, h2⟩ := prg_parts h
  have h3 := flat_le textC 55000 (p.take k) fun c hc => textC_len (h2 c (List.mem_of_mem_take hc))
  have h4 : (p.take k).length ≤ 10 := by rw [List.length_take]; omega
  omega
theorem words_cells {H : HM} {T : TM} {l : List ByteArray} {id : Nat} {v : Value} (hl : 0 < l.length) (h : G H noB T (.own ByteArray 1 strC noS l id) v) :
    ∃ b off c, v = .slice (some ⟨b, off, none⟩) l.length c ∧ ∀ m, m < l.length → H b (off + m) = some (.string (l.getD m noS)) := by
  generalize hx : SV.own ByteArray 1 strC noS l id = x at h
  cases h with
  | ownE => cases hx; simp at hl
  | own X sz cs d l' id' b off c vs hc hz hH hG hT =>
    cases hx
    refine ⟨b, off, c, rfl, fun m hm => ?_⟩
    have h1 := hH m 0 hm (by omega)
    have h2 := hG m 0 hm (by omega)
    have h3 : vs m 0 = .string (l.getD m noS) := gval' (show G H noB noT (.val (.string (l.getD m noS))) _ from h2)
    rw [Nat.mul_one, Nat.add_zero] at h1
    rw [h1, h3]
  | _ => cases hx
theorem far_of {T e : TypeId} {b b2 off2 : Nat} {q v : Value} {bs : List Value} {w wr wa : World} {H H3 : HM} {l : List ByteArray} (hB : Bld T e b q v bs wr) (hs : Sealed H w) (hwb : w.heap.size ≤ b) (hold : b2 < wa.heap.size → H3 b2 off2 = H b2 off2)
    (hc : ∀ m, m < l.length → H3 b2 (off2 + m) = some (.string (l.getD m noS))) (hl : 0 < l.length) (hlt : wr.heap.size < wa.heap.size) : b2 ≠ b ∧ some b2 ≠ v.ownBlock := by
  have hbl := hB.lt
  by_cases h : b2 < wa.heap.size
  · have h1 := hc 0 hl
    rw [Nat.add_zero, hold h] at h1
    have h2 := World.block_lt_of_cell? w _ (hs _ _ _ h1)
    have h2 : b2 < w.heap.size := h2
    exact ⟨by omega, fun e => by have := (hB.own.lt b2 e.symm).1; omega⟩
  · exact ⟨by omega, fun e => by have := (hB.own.lt b2 e.symm).2; omega⟩
theorem text_args {H : HM} {c : Cls} {vs : Nat → Value} {a3 a4 a5 : Option Addr} {n3 k3 n4 k4 n5 k5 : Nat} (hG : ∀ j, j < 6 → G H noB noT (at' (clsC c) j .junk) (vs j))
    (he : vs 0 = .string c.name ∧ vs 1 = .bool c.iface ∧ vs 2 = .string c.super ∧ vs 3 = .slice a3 n3 k3 ∧ vs 4 = .slice a4 n4 k4 ∧ vs 5 = .slice a5 n5 k5) :
    ∀ j, j < (wordsK.enc c).length → G H noB noT (at' (wordsK.enc c) j .junk) ((#[Value.agg #[.string c.name, .bool c.iface, .string c.super, .slice a3 n3 k3, .slice a4 n4 k4, .slice a5 n5 k5]] : Array Value).getD j undef) := by
  intro j hj
  obtain rfl : j = 0 := by have : j < 1 := hj; omega
  refine .agg _ _ rfl fun i hi => ?_
  have hi : i < 6 := hi
  obtain ⟨e0, e1, e2, e3, e4, e5⟩ := he
  have := hG i hi
  match i, hi with
  | 0, _ => rw [e0] at this; exact this
  | 1, _ => rw [e1] at this; exact this
  | 2, _ => rw [e2] at this; exact this
  | 3, _ => rw [e3] at this; exact this
  | 4, _ => rw [e4] at this; exact this
  | 5, _ => rw [e5] at this; exact this
theorem u8_und : Tryz.prog.underlying 5 = some (.int .u8) := by kernel_rfl
/-- a text as a new row of bytes -/
theorem bytes_row {P : Program} {H : HM} {w : World} (hs : Sealed H w) (e : TypeId) (l : List UInt8) (k : Nat) :
    ∃ H', Below w.heap.size w (Lib.bytesWorld w e ⟨l.toArray⟩) ∧ HLe H H' ∧ (∀ b o, b < w.heap.size → H' b o = H b o) ∧ Sealed H' (Lib.bytesWorld w e ⟨l.toArray⟩) ∧
      ∀ c, (⟨l.toArray⟩ : ByteArray).size ≤ c → G H' noB noT (.row UInt8 1 byteC 0 l) (.slice (some ⟨w.heap.size, 0, none⟩) (⟨l.toArray⟩ : ByteArray).size c) := by
  have hlt : ∀ b o v, H b o = some v → b < w.heap.size := fun b o v e => World.block_lt_of_cell? w _ (hs b o v e)
  have hsz : (⟨l.toArray⟩ : ByteArray).size = l.length := by rw [← sz_len]
  refine ⟨fun b o => if b = w.heap.size ∧ o < l.length then some (.int .u8 ((l.getD o 0).toNat : Int)) else H b o, ⟨rfl, rfl, rfl, by rw [Lib.bytesWorld_size]; omega, fun k hk => Lib.bytesWorld_at_old w _ _ k hk⟩, ?_, ?_, ?_, ?_⟩
  · intro b o v h
    show (if _ then _ else _) = _
    rw [if_neg (fun c => by have := hlt b o v h; omega)]; exact h
  · intro b o h
    show (if _ then _ else _) = _
    rw [if_neg (fun c => by omega)]
  · intro b o v h
    by_cases c : b = w.heap.size ∧ o < l.length
    · have h : (if b = w.heap.size ∧ o < l.length then some (.int .u8 ((l.getD o 0).toNat : Int)) else H b o) = some v := h
      rw [if_pos c] at h
      rw [c.1, Lib.bytesWorld_cell w e _ o (by rw [hsz]; exact c.2), ← h]
    · have h : (if b = w.heap.size ∧ o < l.length then some (.int .u8 ((l.getD o 0).toNat : Int)) else H b o) = some v := h
      rw [if_neg c] at h
      rw [Lib.bytesWorld_old w e _ _ (hlt b o v h)]; exact hs b o v h
  · intro c hc
    rw [hsz] at hc ⊢
    refine .row UInt8 1 byteC 0 l w.heap.size 0 c (fun i j => .int .u8 ((l.getD i 0).toNat : Int)) hc (fun i _ => rfl) (fun i j hi hj => ?_) (fun i j hi hj => ?_)
    · obtain rfl : j = 0 := by omega
      show (if _ then _ else _) = _
      rw [if_pos ⟨rfl, by omega⟩, show 0 + i * 1 + 0 = i by omega]
    · obtain rfl : j = 0 := by omega
      exact .val _
set_option maxHeartbeats 4000000 in
set_option maxRecDepth 100000 in
theorem text_walk (p : List Cls) (H : HM) (w : World) (ad : Option Addr) (cap : Nat) (hd : prgD p) (hs : Sealed H w) (hgl : ∀ w', Sealed H w' → Shaped w w' → tabS w') (hsl : G H noB noT (prgR p) (.slice ad p.length cap)) (hrow : TextRow p H ad) :
    Calls Tryz.prog 10 #[.agg #[.slice ad p.length cap]] w (TextPost p H w) := by
  have hb1 : Below w.heap.size w (w.alloc (.cells #[.slice ad p.length cap] 24)) := (Below.refl _ _).alloc (Nat.le_refl _) _
  have cck := ctr_later ok_ok p (w1 := w.alloc (.cells #[.slice ad p.length cap] 24)) (vs := #[.agg #[.slice ad p.length cap]]) 0 hd hs hgl hb1 rfl (fun j hj => by
    obtain rfl : j = 0 := by have : j < 1 := hj; omega
    refine .agg _ _ rfl fun q hq => ?_
    obtain rfl : q = 0 := by have : q < 1 := hq; omega
    exact hsl)
  have HR := Lib.hid hrow
  clear hrow
  have hpl : p.length ≤ 100000 := hd.1
  go_enter Tryz.func10, Tryz.ntmps10
  go_wp2_with (go_at_call 14; refine cck.mono ?_)
  rintro e w2 ⟨v, H2, rfl, hb2, -, -, -, T2, hv⟩
  have hv : v = .int .i64 (if prgOk p then 0 else 4) := gval' hv
  subst hv
  have hb02 : Below w.heap.size w w2 := hb1.trans (hb2.mono (by simp))
  clear cck
  have hc2 : w2.cell? ⟨w.heap.size, 0, none⟩ = some (.slice ad p.length cap) := by
    rw [hb2.cell (p := ⟨w.heap.size, 0, none⟩) (by simp)]
    rw [World.cell?_alloc_new]; rfl
  by_cases hok : prgOk p = true
  · rw [if_pos hok]
    have hlt2 : w.heap.size < w2.heap.size := by have := hb2.size; simp at this; omega
    have hc3 : (w2.alloc (.cells #[.pointer none, .slice none 0 0] 67)).cell? ⟨w.heap.size, 0, none⟩ = some (.slice ad p.length cap) := by
      rw [← hc2]; simp only [World.cell?, Below.heap_alloc _ _ _ hlt2]
    go_wp2
    go_loopw [15] (TextRel p w w2.heap.size) (fun i _ => p.length - (intOf i).toNat)
    case atStart =>
      refine ⟨0, _, _, Nat.zero_le _, rfl, ⟨heap_alloc_new w2 _, World.ownsRowF_nil _ _ _ _, by simp [Value.ownBlock], .inl rfl⟩, hb02.alloc hb02.size _⟩
    case round =>
      obtain ⟨k, v, q, hk, rfl, hB, hbw⟩ := hrel
      by_cases hlt : k < p.length
      · obtain ⟨B, off, rfl, vs, hH, hG⟩ := HR.out k hlt
        have hc : ∀ j, j < 6 → wr.cell? ⟨B, off + k * 6 + j, none⟩ = some (vs j) := fun j hj => sealed_below hs hbw _ _ _ (hH j hj)
        obtain ⟨c, hce⟩ : ∃ c, c = p.getD k cls0 := ⟨_, rfl⟩
        rw [← hce] at hG
        have e0 : vs 0 = .string c.name := gval' (hG 0 (by omega))
        have e1 : vs 1 = .bool c.iface := gval' (hG 1 (by omega))
        have e2 : vs 2 = .string c.super := gval' (hG 2 (by omega))
        obtain ⟨a3, n3, k3, e3⟩ : ∃ a n c, vs 3 = .slice a n c := row_val (hG 3 (by omega))
        obtain ⟨a4, n4, k4, e4⟩ : ∃ a n c, vs 4 = .slice a n c := row_val (hG 4 (by omega))
        obtain ⟨a5, n5, k5, e5⟩ : ∃ a n c, vs 5 = .slice a n c := row_val (hG 5 (by omega))
        have c0 : wr.cell? ⟨B, off + k * 6, none⟩ = some (vs 0) := hc 0 (by omega)
        have c1 := hc 1 (by omega)
        have c2 := hc 2 (by omega)
        have c3 := hc 3 (by omega)
        have c4 := hc 4 (by omega)
        have c5 := hc 5 (by omega)
        rw [e0] at c0
        rw [e1] at c1
        rw [e2] at c2
        rw [e3] at c3
        rw [e4] at c4
        rw [e5] at c5
        have HE := Lib.hid (And.intro e0 (And.intro e1 (And.intro e2 (And.intro e3 (And.intro e4 e5)))))
        have HC := Lib.hid hc
        have HH := Lib.hid hH
        have HG := Lib.hid hG
        have HB := Lib.hid hB
        have HW := Lib.hid hbw
        have hcok : clsOk c = true := by rw [hce]; exact (prg_parts hok).2 _ (getT_mem p cls0 k hlt)
        have HCE := Lib.hid hce
        clear e0 e1 e2 e3 e4 e5 hc hH hG hB hbw hce
        have hlw : wr.heap.size < (wr.alloc (.cells #[.string c.name, .bool c.iface, .string c.super, .slice a3 n3 k3, .slice a4 n4 k4, .slice a5 n5 k5] 46)).heap.size := by simp
        have HA : Below wr.heap.size wr (wr.alloc (.cells #[.string c.name, .bool c.iface, .string c.super, .slice a3 n3 k3, .slice a4 n4 k4, .slice a5 n5 k5] 46)) := (Below.refl _ _).alloc (Nat.le_refl _) _
        go_wp2_with fail
        refine (ctr_later words_ok c (w := w) (H := H) 0 hcok hs hgl (HW.out.trans (HA.mono HW.out.size)) rfl (text_args HG.out HE.out)).mono ?_
        rintro e w3 ⟨v3, H3, rfl, hb3, -, hold3, hseal3, T3, hv3⟩
        have hB3 : Bld 67 5 w2.heap.size q v (Lib.byteCells ((p.take k).flatMap textC)) w3 := bld_below HB.out (HA.trans (hb3.mono (Nat.le_of_lt hlw)))
        have hbw3 : Below w.heap.size w w3 := HW.out.trans ((HA.mono HW.out.size).trans (hb3.mono (by have := HW.out.size; omega)))
        obtain ⟨b2, off2, cap2, rfl, hcell⟩ := words_cells (wordsC_ne c) hv3
        have hfar : b2 ≠ w2.heap.size ∧ some b2 ≠ v.ownBlock := far_of HB.out hs hb02.size (hold3 b2 off2) hcell (wordsC_ne c) hlw
        have HK := Lib.hid (show ∀ wq v', Aside w2.heap.size v v' w3 wq → ∀ m, m < (wordsC c).length → wq.cell? ⟨b2, off2 + m, none⟩ = some (.string ((wordsC c).getD m noS)) from fun wq v' ha m hm => by
          have h1 := hseal3 _ _ _ (hcell m hm)
          have h2 := World.block_lt_of_cell? w3 _ h1
          rw [← h1]
          simp only [World.cell?, ha.keep b2 h2 hfar.1 hfar.2])
        have HB3 := Lib.hid hB3
        have HW3 := Lib.hid hbw3
        have hwl : (wordsC c).length ≤ 2500 := wordsC_len hcok
        have HL := Lib.hid (show ∀ m s, s = (wordsC c).getD m noS → ((p.take k).flatMap textC ++ ((wordsC c).take m).flatMap putW).length + s.size ≤ 100000000 from fun m s hs => by
          have h1 := textP_len hok k
          have h2 := putW_flat ((wordsC c).take m) (fun x hx => cls_tok hcok x (List.mem_of_mem_take hx))
          have h3 : ((wordsC c).take m).length ≤ (wordsC c).length := by rw [List.length_take]; omega
          have h4 := wordsC_len hcok
          have h5 : s.size ≤ 21 := by
            rw [hs, ← sz_len]
            by_cases hm : m < (wordsC c).length
            · exact tokB_len (cls_tok hcok _ (getT_mem _ noS m hm))
            · simp [List.getD, List.getElem?_eq_none (by omega : (wordsC c).length ≤ m), noS]
          rw [List.length_append]; omega)
        clear hB3 hbw3 hcell hfar hold3 hseal3 hv3 hb3 hlw
        go_wp2
        go_loopw [22] (TextRel2 (wordsC c) ((p.take k).flatMap textC) v w3 w2.heap.size) (fun j _ => (wordsC c).length - (intOf j).toNat)
        case atStart => exact ⟨0, v, q, Nat.zero_le _, rfl, by simpa using HB3.out, Aside.refl _ _ _⟩
        case round =>
          obtain ⟨m, v', q', hm, rfl, hB4, ha4⟩ := hrel
          by_cases hmt : m < (wordsC c).length
          · have d0 := HK.out _ _ ha4 m hmt
            have HB4 := Lib.hid hB4
            have HA4 := Lib.hid ha4
            clear hB4 ha4
            obtain ⟨s, hse⟩ : ∃ s, s = (wordsC c).getD m noS := ⟨_, rfl⟩
            rw [← hse] at d0
            have HS := Lib.hid hse
            clear hse
            go_wp2_with fail
            refine (bstring s HB4.out (by rw [Lib.byteCells_length]; exact Nat.le_trans (HL.out m s HS.out) (by omega))).mono ?_
            rintro e w5 ⟨rfl, v5, hB5, ha5⟩
            have HB5 := Lib.hid hB5
            have HA5 := Lib.hid ha5
            clear hB5 ha5
            go_wp2_with fail
            all_goals
              refine (bbyte _ HB5.out (by rw [List.length_append, Lib.byteCells_length, Lib.strCells_length]; have := HL.out m s HS.out; omega)).mono ?_
              rintro e w6 ⟨rfl, v6, hB6, ha6⟩
              first
                | have hsp : sepOf s = 10 := (sep_eq s).1 (by first | exact .inl ‹_› | exact .inr (.inl ‹_›) | (have hx := ‹((s.toList == [123]) = true ∨ (s.toList == [125]) = true) ∨ (s.toList == [59]) = true›; simpa [or_assoc] using hx))
                | have hsp : sepOf s = 32 := (sep_eq s).2 (by have hx := ‹((s.toList == [123]) = false ∧ (s.toList == [125]) = false) ∧ (s.toList == [59]) = false›; simpa [and_assoc] using hx)
              rw [cells_put _ _ m hmt HS.out (by rw [hsp]; rfl)] at hB6
              have HB6 := Lib.hid hB6
              have HA6 := Lib.hid ha6
              have HSP := Lib.hid hsp
              clear hB6 ha6 hsp
              go_wp2
              go_roundw
              case rel => exact ⟨m + 1, v6, _, by omega, by go_num, HB6.out, HA4.out.trans (HA5.out.trans HA6.out)⟩
              case measure => simp [intOf]; omega
          · have hme : m = (wordsC c).length := by omega
            have HB4 := Lib.hid hB4
            have HA4 := Lib.hid ha4
            have HME := Lib.hid hme
            clear hB4 ha4 hme
            go_wp2
            go_roundw
            case rel =>
              refine ⟨k + 1, v', q', by omega, by go_num, ?_, ?_⟩
              · have := HB4.out
                rw [HME.out, List.take_length] at this
                rw [flat_snoc textC p cls0 k hlt, ← HCE.out]
                exact this
              · exact HW3.out.trans (HA4.out.below.mono hb02.size)
            case measure => simp [intOf]; omega
      · have hke : k = p.length := by omega
        have htxt : (p.take k).flatMap textC = textP p := by rw [hke, List.take_length]; rfl
        rw [htxt] at hB
        have cLen : Calls Tryz.prog 24 #[.pointer (some ⟨w2.heap.size, 0, none⟩)] wr fun e w' => e = .returned (.int .i64 (textP p).length) ∧ w' = wr := by
          refine (Tryz.Builder_Len_f w2.heap.size w2.heap.size _ _ hB.isF).mono ?_
          rintro e w' ⟨rfl, h⟩
          rw [Lib.byteCells_length]; exact ⟨rfl, h⟩
        have cStr := Tryz.Builder_String_any_k w2.heap.size w2.heap.size (textP p) _ hB.isF (Nat.le_of_lt hB.lt)
        have hbig2 := textP_len hok k
        rw [htxt] at hbig2
        have HB := Lib.hid hB
        have HW := Lib.hid hbw
        have HKE := Lib.hid hke
        clear hB hbw hke htxt
        go_wp2_with fail
        refine cLen.mono ?_
        rintro e w4 ⟨rfl, rfl⟩
        by_cases hbig : 6000 < (textP p).length
        · go_wp2
          go_ret2
          refine ⟨_, H, rfl, HW.out, .refl _, fun _ _ _ => rfl, sealed_below hs HW.out, ?_⟩
          have e : showF p = ([], 2) := by unfold showF; rw [if_pos hok, if_pos hbig]
          show G H noB noT (.tup [.row UInt8 1 byteC 0 (showF p).1, I (showF p).2]) _
          rw [e]
          refine .tup _ _ rfl fun j hj => ?_
          match j, hj with
          | 0, _ => exact .rowE ..
          | 1, _ => exact .val _
        · go_wp2_with fail
          refine cStr.mono ?_
          rintro e w5 ⟨rfl, -, hb5, -⟩
          have hconv := Lib.run_convert_string_bytes (P := Tryz.prog) w5 9 29 5 ⟨(textP p).toArray⟩ str_und bytes_und u8_und
          have hb05 : Below w.heap.size w w5 := HW.out.trans (hb5.mono hb02.size)
          have HW5 := Lib.hid hb05
          clear hb05 hb5
          go_wp2
          go_ret2
          obtain ⟨H', hbn, hle, hold, hseal, hrow'⟩ := bytes_row (P := Tryz.prog) (sealed_below hs HW5.out) 5 (textP p) 0
          refine ⟨_, H', rfl, HW5.out.trans (hbn.mono HW5.out.size), hle, fun b o h => hold b o (by have := HW5.out.size; omega), hseal, ?_⟩
          have e : showF p = (textP p, 0) := by unfold showF; rw [if_pos hok, if_neg hbig]
          show G H' noB noT (.tup [.row UInt8 1 byteC 0 (showF p).1, I (showF p).2]) _
          rw [e]
          refine .tup _ _ rfl fun j hj => ?_
          match j, hj with
          | 0, _ => exact hrow' _ (grownCap_ge _ _ _ _)
          | 1, _ => exact .val _
  · rw [if_neg hok]
    go_wp2
    go_ret2
    refine ⟨_, H, rfl, hb02, .refl _, fun _ _ _ => rfl, sealed_below hs hb02, ?_⟩
    have e : showF p = ([], 4) := by unfold showF; rw [if_neg hok]
    show G H noB noT (.tup [.row UInt8 1 byteC 0 (showF p).1, I (showF p).2]) _
    rw [e]
    refine .tup _ _ rfl fun j hj => ?_
    match j, hj with
    | 0, _ => exact .rowE ..
    | 1, _ => exact .val _
theorem row_cells' {H : HM} {X : Type} {sz : Nat} {cs : X → List SV} {d : X} {l : List X} {v : Value} (h : G H noB noT (.row X sz cs d l) v) :
    ∃ ad cap, v = .slice ad l.length cap ∧ ∀ k, k < l.length → ∃ B off, ad = some ⟨B, off, none⟩ ∧ ∃ vs : Nat → Value, (∀ j, j < sz → H B (off + k * sz + j) = some (vs j)) ∧ ∀ j, j < sz → G H noB noT (at' (cs (l.getD k d)) j .junk) (vs j) := by
  cases h with
  | rowE _ _ _ _ a c => exact ⟨a, c, rfl, fun k hk => by simp at hk⟩
  | row _ _ _ _ _ b off c vs hc hz hH hG => exact ⟨_, c, rfl, fun k hk => ⟨b, off, rfl, vs k, fun j hj => hH k j hk hj, fun j hj => hG k j hk hj⟩⟩
theorem text_ok : CtrSound Tryz.prog 10 textK := by
  refine ⟨⟨_, Tryz.func10, by kernel_rfl, by kernel_rfl⟩, fun p H w vs id hd hs hgl hn hg => ?_⟩
  obtain ⟨v, rfl, h1⟩ := args1 hn hg
  cases h1 with
  | agg _ us hu hgu =>
    obtain ⟨us⟩ := us
    match us, hu with
    | [u], _ =>
      have h2 : G H noB noT (prgR p) u := hgu 0 (Nat.succ_pos _)
      obtain ⟨ad, cap, rfl, h3⟩ := row_cells' h2
      refine (text_walk p H w ad cap hd hs (fun w' a b => hgl w' a b) h2 h3).mono ?_
      rintro e w' ⟨v, H', rfl, q1, q2, q3, q4, q5⟩
      exact ⟨v, H', noT, rfl, q1, q2, q3, fun _ _ _ h => (by cases h), fun b o u hu => ⟨q4 b o u hu, rfl⟩, q5, fun h => by cases h⟩
end Go.Proofs.YtadimoijlgmecaaGreatDoor.Ax
/- Layers parse and show: what is more than is played. PRINTED by wip/sp/sq.py. -/
set_option linter.unusedVariables false
set_option linter.unusedSimpArgs false
namespace Go.Proofs.YtadimoijlgmecaaGreatDoor.Ax
open Go Go.RowKit
def insH (x : Ins) : Bool := decide (x.a.size ≤ 60) && decide (x.b.size ≤ 60)
def tyH (t : Ty) : Bool := decide (t.2.size ≤ 60)
def catH (c : Cat) : Bool := decide (c.name.size ≤ 60)
def strH (s : ByteArray) : Bool := decide (s.size ≤ 60)
def fldH (f : Fld) : Bool := decide (f.name.size ≤ 60) && decide (f.type.2.size ≤ 60)
def methH0 (m : Meth) : Bool := decide (m.name.size ≤ 60) && (decide (m.params.length ≤ 10) && (decide (m.code.length ≤ 60) && (decide (m.catches.length ≤ 10) && decide (m.ret.2.size ≤ 60))))
def methH (m : Meth) : Bool := methH0 m && (m.code.all insH && (m.params.all tyH && m.catches.all catH))
def clsH0 (c : Cls) : Bool := decide (c.fields.length ≤ 14) && (decide (c.methods.length ≤ 14) && (decide (c.ifaces.length ≤ 10) && (decide (c.name.size ≤ 60) && decide (c.super.size ≤ 60))))
def clsH (c : Cls) : Bool := clsH0 c && (c.fields.all fldH && (c.ifaces.all strH && c.methods.all methH))
def prgH (p : List Cls) : Bool := decide (p.length ≤ 14) && p.all clsH
def heavyC : Ctr := { A := List Cls, enc := fun p => [.agg [prgR p]], dom := fun _ => True, res := fun p _ => B (!prgH p) }
theorem gtT {n : Nat} {k : Int} {m : Nat} (h : decide ((n : Int) > k) = true) (hk : k = m) : decide (n ≤ m) = false := by
  have := of_decide_eq_true h; exact decide_eq_false (by omega)
theorem gtF {n : Nat} {k : Int} {m : Nat} (h : decide ((n : Int) > k) = false) (hk : k = m) : decide (n ≤ m) = true := by
  have := of_decide_eq_false h; exact decide_eq_true (by omega)
theorem all_bad {α : Type} (l : List α) (d : α) (p : α → Bool) (i : Nat) (h : i < l.length) (hb : p (l.getD i d) = false) : l.all p = false := by
  cases hc : l.all p with
  | false => rfl
  | true => have := List.all_eq_true.1 hc _ (getT_mem l d i h); rw [hb] at this; cases this
set_option maxRecDepth 100000 in
set_option maxHeartbeats 8000000 in
theorem heavy_ok : CtrSound Tryz.prog 8 heavyC :=
  ctr_of_ax (env_ok tys_ok (eqs := []) trivial (cs := []) trivial) mixed _ Tryz.func8 (by kernel_rfl) rfl (fun _ _ => Nat.le_of_ble_eq_true rfl) fun (p : List Cls) id hd => by
    have bad0 : p.all clsH = false → (!prgH p) = true := fun h => by unfold prgH; rw [h]; simp
    refine ⟨fun h => ⟨.btt (by unfold prgH; rw [gtT h (m := 14) rfl]; rfl), rfl⟩, fun hp14 => ?_⟩
    have hp14' := of_decide_eq_true (gtF hp14 (m := 14) rfl)
    refine ⟨Nat, fun i => [(1, .box 1 0), (3, I i)], fun _ => [(1, [prgR p])], fun i => i ≤ p.length ∧ (p.take i).all clsH = true, fun i => p.length - i, ⟨0, ⟨Nat.zero_le _, rfl⟩, ⟨⟨rfl, rfl⟩, .refl _, .refl _, ⟨.refl _, trivial⟩, trivial⟩⟩, fun (i : Nat) hi => ?_⟩
    have hi1 : i ≤ p.length := hi.1
    have hi2 : (p.take i).all clsH = true := hi.2
    have hwi : IntKind.i64.wrap ((i : Int) + 1) = ((i + 1 : Nat) : Int) := by rw [wrap_eq _ (by omega) (by omega)]; omega
    refine ⟨fun h => ?_, fun h => ?_⟩
    · have hlt : i < p.length := by have := of_decide_eq_true h; omega
      have bad1 : clsH (p.getD i cls0) = false → (!prgH p) = true := fun h => bad0 (all_bad p cls0 clsH i hlt h)
      refine ⟨⟨by omega, by omega⟩, ?_⟩
      refine ⟨fun h => ⟨.btt (bad1 (by unfold clsH clsH0; rw [gtT (n := (p.getD i cls0).fields.length) h (m := 14) rfl]; rfl)), rfl⟩, fun g1 => ⟨fun h => ⟨.btt (bad1 (by unfold clsH clsH0; rw [gtT (n := (p.getD i cls0).methods.length) h (m := 14) rfl]; simp)), rfl⟩, fun g2 => ⟨fun h => ⟨.btt (bad1 (by unfold clsH clsH0; rw [gtT (n := (p.getD i cls0).ifaces.length) h (m := 10) rfl]; simp)), rfl⟩,
        fun g3 => ⟨fun h => ⟨.btt (bad1 (by unfold clsH clsH0; rw [gtT (n := (p.getD i cls0).name.size) h (m := 60) rfl]; simp)), rfl⟩, fun g4 => ⟨fun h => ⟨.btt (bad1 (by unfold clsH clsH0; rw [gtT (n := (p.getD i cls0).super.size) h (m := 60) rfl]; simp)), rfl⟩, fun g5 => ?_⟩⟩⟩⟩⟩
      have hc0 : clsH0 (p.getD i cls0) = true := by unfold clsH0; rw [gtF (n := (p.getD i cls0).fields.length) g1 (m := 14) rfl, gtF (n := (p.getD i cls0).methods.length) g2 (m := 14) rfl, gtF (n := (p.getD i cls0).ifaces.length) g3 (m := 10) rfl, gtF (n := (p.getD i cls0).name.size) g4 (m := 60) rfl, gtF (n := (p.getD i cls0).super.size) g5 (m := 60) rfl]; rfl
      have l1 := of_decide_eq_true (gtF (n := (p.getD i cls0).fields.length) g1 (m := 14) rfl)
      have l2 := of_decide_eq_true (gtF (n := (p.getD i cls0).methods.length) g2 (m := 14) rfl)
      have l3 := of_decide_eq_true (gtF (n := (p.getD i cls0).ifaces.length) g3 (m := 10) rfl)
      have hbf : (p.getD i cls0).fields.all fldH = false → clsH (p.getD i cls0) = false := fun h => by unfold clsH; rw [h]; simp
      have hbs : (p.getD i cls0).ifaces.all strH = false → clsH (p.getD i cls0) = false := fun h => by unfold clsH; rw [h]; simp
      refine ⟨Nat, fun k => [(1, .box 1 0), (3, I i), (5, I k), (4, .box 4 0)], fun _ => [(1, [prgR p]), (4, clsC (p.getD i cls0))], fun k => k ≤ (p.getD i cls0).fields.length ∧ ((p.getD i cls0).fields.take k).all fldH = true, fun k => (p.getD i cls0).fields.length - k, ⟨0, ⟨Nat.zero_le _, rfl⟩, ⟨⟨rfl, rfl⟩, .refl _, .refl _, .refl _, .refl _, ⟨.refl _, trivial⟩, ⟨.refl _, .refl _, .refl _, .refl _, .refl _, .refl _, trivial⟩, trivial⟩⟩, fun (k : Nat) hk => ?_⟩
      have hk1 : k ≤ (p.getD i cls0).fields.length := hk.1
      have hk2 : ((p.getD i cls0).fields.take k).all fldH = true := hk.2
      have hwk : IntKind.i64.wrap ((k : Int) + 1) = ((k + 1 : Nat) : Int) := by rw [wrap_eq _ (by omega) (by omega)]; omega
      refine ⟨fun h => ?_, fun h => ?_⟩
      · have hltk : k < (p.getD i cls0).fields.length := by have := of_decide_eq_true h; omega
        refine ⟨⟨by omega, by omega⟩, ?_⟩
        refine ⟨fun h => ⟨.btt (bad1 <| hbf (all_bad _ fld0 _ k hltk (by unfold fldH; rw [gtT (n := ((p.getD i cls0).fields.getD k fld0).name.size) h (m := 60) rfl]; rfl))), rfl⟩, fun f1 => ⟨⟨by omega, by omega⟩, fun h => ⟨.btt (bad1 <| hbf (all_bad _ fld0 _ k hltk (by unfold fldH; rw [gtT (n := ((p.getD i cls0).fields.getD k fld0).type.2.size) h (m := 60) rfl]; simp))), rfl⟩, fun f2 => ?_⟩⟩
        exact ⟨k + 1, ⟨hltk, by rw [allT _ fld0 _ _ hltk, hk2]; exact (by unfold fldH; rw [gtF (n := ((p.getD i cls0).fields.getD k fld0).name.size) f1 (m := 60) rfl, gtF (n := ((p.getD i cls0).fields.getD k fld0).type.2.size) f2 (m := 60) rfl]; rfl)⟩, by show (p.getD i cls0).fields.length - (k + 1) < (p.getD i cls0).fields.length - k; omega, ⟨rfl, rfl⟩, .refl _, .refl _, .int hwk, .refl _, ⟨.refl _, trivial⟩, ⟨.refl _, .refl _, .refl _, .refl _, .refl _, .refl _, trivial⟩, trivial⟩
      have hgek : k = (p.getD i cls0).fields.length := by have := of_decide_eq_false h; omega
      rw [hgek, List.take_length] at hk2
      have hfl := hk2
      clear hk hk1 hk2 hwk hgek
      refine ⟨Nat, fun k => [(1, .box 1 0), (3, I i), (4, .box 4 0), (6, I k)], fun _ => [(1, [prgR p]), (4, clsC (p.getD i cls0))], fun k => k ≤ (p.getD i cls0).ifaces.length ∧ ((p.getD i cls0).ifaces.take k).all strH = true, fun k => (p.getD i cls0).ifaces.length - k, ⟨0, ⟨Nat.zero_le _, rfl⟩, ⟨⟨rfl, rfl⟩, .refl _, .refl _, .refl _, .refl _, ⟨.refl _, trivial⟩, ⟨.refl _, .refl _, .refl _, .refl _, .refl _, .refl _, trivial⟩, trivial⟩⟩, fun (k : Nat) hk => ?_⟩
      have hk1 : k ≤ (p.getD i cls0).ifaces.length := hk.1
      have hk2 : ((p.getD i cls0).ifaces.take k).all strH = true := hk.2
      have hwk : IntKind.i64.wrap ((k : Int) + 1) = ((k + 1 : Nat) : Int) := by rw [wrap_eq _ (by omega) (by omega)]; omega
      refine ⟨fun h => ?_, fun h => ?_⟩
      · have hltk : k < (p.getD i cls0).ifaces.length := by have := of_decide_eq_true h; omega
        refine ⟨⟨by omega, by omega⟩, ?_⟩
        refine ⟨fun h => ⟨.btt (bad1 <| hbs (all_bad _ noS _ k hltk (by unfold strH; exact gtT (n := ((p.getD i cls0).ifaces.getD k noS).size) h (m := 60) rfl))), rfl⟩, fun f1 => ?_⟩
        exact ⟨k + 1, ⟨hltk, by rw [allT _ noS _ _ hltk, hk2]; exact (by unfold strH; exact gtF (n := ((p.getD i cls0).ifaces.getD k noS).size) f1 (m := 60) rfl)⟩, by show (p.getD i cls0).ifaces.length - (k + 1) < (p.getD i cls0).ifaces.length - k; omega, ⟨rfl, rfl⟩, .refl _, .refl _, .refl _, .int hwk, ⟨.refl _, trivial⟩, ⟨.refl _, .refl _, .refl _, .refl _, .refl _, .refl _, trivial⟩, trivial⟩
      have hgek : k = (p.getD i cls0).ifaces.length := by have := of_decide_eq_false h; omega
      rw [hgek, List.take_length] at hk2
      have hif := hk2
      clear hk hk1 hk2 hwk hgek
      refine ⟨Nat, fun k => [(1, .box 1 0), (3, I i), (7, I k), (4, .box 4 0)], fun _ => [(1, [prgR p]), (4, clsC (p.getD i cls0))], fun k => k ≤ (p.getD i cls0).methods.length ∧ ((p.getD i cls0).methods.take k).all methH = true, fun k => (p.getD i cls0).methods.length - k, ⟨0, ⟨Nat.zero_le _, rfl⟩, ⟨⟨rfl, rfl⟩, .refl _, .refl _, .refl _, .refl _, ⟨.refl _, trivial⟩, ⟨.refl _, .refl _, .refl _, .refl _, .refl _, .refl _, trivial⟩, trivial⟩⟩, fun (k : Nat) hk => ?_⟩
      have hk1 : k ≤ (p.getD i cls0).methods.length := hk.1
      have hk2 : ((p.getD i cls0).methods.take k).all methH = true := hk.2
      have hwk : IntKind.i64.wrap ((k : Int) + 1) = ((k + 1 : Nat) : Int) := by rw [wrap_eq _ (by omega) (by omega)]; omega
      refine ⟨fun h => ?_, fun h => ?_⟩
      · have hltk : k < (p.getD i cls0).methods.length := by have := of_decide_eq_true h; omega
        refine ⟨⟨by omega, by omega⟩, ?_⟩
        have bad3 : methH ((p.getD i cls0).methods.getD k meth0) = false → (!prgH p) = true := fun h => bad1 (by
          have := all_bad (p.getD i cls0).methods meth0 methH k hltk h
          unfold clsH; rw [this]; simp)
        have hbi : ((p.getD i cls0).methods.getD k meth0).code.all insH = false → methH ((p.getD i cls0).methods.getD k meth0) = false := fun h => by unfold methH; rw [h]; simp
        have hbp : ((p.getD i cls0).methods.getD k meth0).params.all tyH = false → methH ((p.getD i cls0).methods.getD k meth0) = false := fun h => by unfold methH; rw [h]; simp
        have hbc : ((p.getD i cls0).methods.getD k meth0).catches.all catH = false → methH ((p.getD i cls0).methods.getD k meth0) = false := fun h => by unfold methH; rw [h]; simp
        refine ⟨fun h => ⟨.btt (bad3 (by unfold methH methH0; rw [gtT (n := ((p.getD i cls0).methods.getD k meth0).name.size) h (m := 60) rfl]; rfl)), rfl⟩, fun g1 => ⟨fun h => ⟨.btt (bad3 (by unfold methH methH0; rw [gtT (n := ((p.getD i cls0).methods.getD k meth0).params.length) h (m := 10) rfl]; simp)), rfl⟩, fun g2 => ⟨fun h => ⟨.btt (bad3 (by unfold methH methH0; rw [gtT (n := ((p.getD i cls0).methods.getD k meth0).code.length) h (m := 60) rfl]; simp)), rfl⟩,
          fun g3 => ⟨fun h => ⟨.btt (bad3 (by unfold methH methH0; rw [gtT (n := ((p.getD i cls0).methods.getD k meth0).catches.length) h (m := 10) rfl]; simp)), rfl⟩, fun g4 => ⟨fun h => ⟨.btt (bad3 (by unfold methH methH0; rw [gtT (n := ((p.getD i cls0).methods.getD k meth0).ret.2.size) h (m := 60) rfl]; simp)), rfl⟩, fun g5 => ?_⟩⟩⟩⟩⟩
        have hm0 : methH0 ((p.getD i cls0).methods.getD k meth0) = true := by unfold methH0; rw [gtF (n := ((p.getD i cls0).methods.getD k meth0).name.size) g1 (m := 60) rfl, gtF (n := ((p.getD i cls0).methods.getD k meth0).params.length) g2 (m := 10) rfl, gtF (n := ((p.getD i cls0).methods.getD k meth0).code.length) g3 (m := 60) rfl, gtF (n := ((p.getD i cls0).methods.getD k meth0).catches.length) g4 (m := 10) rfl, gtF (n := ((p.getD i cls0).methods.getD k meth0).ret.2.size) g5 (m := 60) rfl]; rfl
        have n2 := of_decide_eq_true (gtF (n := ((p.getD i cls0).methods.getD k meth0).params.length) g2 (m := 10) rfl)
        have n3 := of_decide_eq_true (gtF (n := ((p.getD i cls0).methods.getD k meth0).code.length) g3 (m := 60) rfl)
        have n4 := of_decide_eq_true (gtF (n := ((p.getD i cls0).methods.getD k meth0).catches.length) g4 (m := 10) rfl)
        refine ⟨Nat, fun q => [(1, .box 1 0), (3, I i), (7, I k), (9, I q), (4, .box 4 0), (8, .box 8 0)], fun _ => [(1, [prgR p]), (4, clsC (p.getD i cls0)), (8, methC ((p.getD i cls0).methods.getD k meth0))], fun q => q ≤ ((p.getD i cls0).methods.getD k meth0).code.length ∧ (((p.getD i cls0).methods.getD k meth0).code.take q).all insH = true, fun q => ((p.getD i cls0).methods.getD k meth0).code.length - q, ⟨0, ⟨Nat.zero_le _, rfl⟩, ⟨⟨rfl, rfl⟩, .refl _, .refl _, .refl _, .refl _, .refl _, .refl _, ⟨.refl _, trivial⟩, ⟨.refl _, .refl _, .refl _, .refl _, .refl _, .refl _, trivial⟩, ⟨.refl _, .refl _, .refl _, .refl _, .refl _, .refl _, .refl _, .refl _, .refl _, trivial⟩, trivial⟩⟩, fun (q : Nat) hq => ?_⟩
        have hq1 : q ≤ ((p.getD i cls0).methods.getD k meth0).code.length := hq.1
        have hq2 : (((p.getD i cls0).methods.getD k meth0).code.take q).all insH = true := hq.2
        have hwq : IntKind.i64.wrap ((q : Int) + 1) = ((q + 1 : Nat) : Int) := by rw [wrap_eq _ (by omega) (by omega)]; omega
        refine ⟨fun h => ?_, fun h => ?_⟩
        · have hltq : q < ((p.getD i cls0).methods.getD k meth0).code.length := by have := of_decide_eq_true h; omega
          refine ⟨⟨by omega, by omega⟩, ?_⟩
          refine ⟨fun h => ⟨.btt (bad3 <| hbi (all_bad _ ins0 _ q hltq (by unfold insH; rw [gtT (n := (((p.getD i cls0).methods.getD k meth0).code.getD q ins0).a.size) h (m := 60) rfl]; rfl))), rfl⟩, fun f1 => ⟨⟨by omega, by omega⟩, fun h => ⟨.btt (bad3 <| hbi (all_bad _ ins0 _ q hltq (by unfold insH; rw [gtT (n := (((p.getD i cls0).methods.getD k meth0).code.getD q ins0).b.size) h (m := 60) rfl]; simp))), rfl⟩, fun f2 => ?_⟩⟩
          exact ⟨q + 1, ⟨hltq, by rw [allT _ ins0 _ _ hltq, hq2]; exact (by unfold insH; rw [gtF (n := (((p.getD i cls0).methods.getD k meth0).code.getD q ins0).a.size) f1 (m := 60) rfl, gtF (n := (((p.getD i cls0).methods.getD k meth0).code.getD q ins0).b.size) f2 (m := 60) rfl]; rfl)⟩, by show ((p.getD i cls0).methods.getD k meth0).code.length - (q + 1) < ((p.getD i cls0).methods.getD k meth0).code.length - q; omega, ⟨rfl, rfl⟩, .refl _, .refl _, .refl _, .int hwq, .refl _, .refl _, ⟨.refl _, trivial⟩, ⟨.refl _, .refl _, .refl _, .refl _, .refl _, .refl _, trivial⟩, ⟨.refl _, .refl _, .refl _, .refl _, .refl _, .refl _, .refl _, .refl _, .refl _, trivial⟩, trivial⟩
        have hgeq : q = ((p.getD i cls0).methods.getD k meth0).code.length := by have := of_decide_eq_false h; omega
        rw [hgeq, List.take_length] at hq2
        have hcode := hq2
        clear hq hq1 hq2 hwq hgeq
        refine ⟨Nat, fun q => [(1, .box 1 0), (3, I i), (7, I k), (4, .box 4 0), (8, .box 8 0), (10, I q)], fun _ => [(1, [prgR p]), (4, clsC (p.getD i cls0)), (8, methC ((p.getD i cls0).methods.getD k meth0))], fun q => q ≤ ((p.getD i cls0).methods.getD k meth0).params.length ∧ (((p.getD i cls0).methods.getD k meth0).params.take q).all tyH = true, fun q => ((p.getD i cls0).methods.getD k meth0).params.length - q, ⟨0, ⟨Nat.zero_le _, rfl⟩, ⟨⟨rfl, rfl⟩, .refl _, .refl _, .refl _, .refl _, .refl _, .refl _, ⟨.refl _, trivial⟩, ⟨.refl _, .refl _, .refl _, .refl _, .refl _, .refl _, trivial⟩, ⟨.refl _, .refl _, .refl _, .refl _, .refl _, .refl _, .refl _, .refl _, .refl _, trivial⟩, trivial⟩⟩, fun (q : Nat) hq => ?_⟩
        have hq1 : q ≤ ((p.getD i cls0).methods.getD k meth0).params.length := hq.1
        have hq2 : (((p.getD i cls0).methods.getD k meth0).params.take q).all tyH = true := hq.2
        have hwq : IntKind.i64.wrap ((q : Int) + 1) = ((q + 1 : Nat) : Int) := by rw [wrap_eq _ (by omega) (by omega)]; omega
        refine ⟨fun h => ?_, fun h => ?_⟩
        · have hltq : q < ((p.getD i cls0).methods.getD k meth0).params.length := by have := of_decide_eq_true h; omega
          refine ⟨⟨by omega, by omega⟩, ?_⟩
          refine ⟨fun h => ⟨.btt (bad3 <| hbp (all_bad _ ty0 _ q hltq (by unfold tyH; exact gtT (n := (((p.getD i cls0).methods.getD k meth0).params.getD q ty0).2.size) h (m := 60) rfl))), rfl⟩, fun f1 => ?_⟩
          exact ⟨q + 1, ⟨hltq, by rw [allT _ ty0 _ _ hltq, hq2]; exact (by unfold tyH; exact gtF (n := (((p.getD i cls0).methods.getD k meth0).params.getD q ty0).2.size) f1 (m := 60) rfl)⟩, by show ((p.getD i cls0).methods.getD k meth0).params.length - (q + 1) < ((p.getD i cls0).methods.getD k meth0).params.length - q; omega, ⟨rfl, rfl⟩, .refl _, .refl _, .refl _, .refl _, .refl _, .int hwq, ⟨.refl _, trivial⟩, ⟨.refl _, .refl _, .refl _, .refl _, .refl _, .refl _, trivial⟩, ⟨.refl _, .refl _, .refl _, .refl _, .refl _, .refl _, .refl _, .refl _, .refl _, trivial⟩, trivial⟩
        have hgeq : q = ((p.getD i cls0).methods.getD k meth0).params.length := by have := of_decide_eq_false h; omega
        rw [hgeq, List.take_length] at hq2
        have hpar := hq2
        clear hq hq1 hq2 hwq hgeq
        refine ⟨Nat, fun q => [(1, .box 1 0), (3, I i), (7, I k), (11, I q), (4, .box 4 0), (8, .box 8 0)], fun _ => [(1, [prgR p]), (4, clsC (p.getD i cls0)), (8, methC ((p.getD i cls0).methods.getD k meth0))], fun q => q ≤ ((p.getD i cls0).methods.getD k meth0).catches.length ∧ (((p.getD i cls0).methods.getD k meth0).catches.take q).all catH = true, fun q => ((p.getD i cls0).methods.getD k meth0).catches.length - q, ⟨0, ⟨Nat.zero_le _, rfl⟩, ⟨⟨rfl, rfl⟩, .refl _, .refl _, .refl _, .refl _, .refl _, .refl _, ⟨.refl _, trivial⟩, ⟨.refl _, .refl _, .refl _, .refl _, .refl _, .refl _, trivial⟩, ⟨.refl _, .refl _, .refl _, .refl _, .refl _, .refl _, .refl _, .refl _, .refl _, trivial⟩, trivial⟩⟩, fun (q : Nat) hq => ?_⟩
        have hq1 : q ≤ ((p.getD i cls0).methods.getD k meth0).catches.length := hq.1
        have hq2 : (((p.getD i cls0).methods.getD k meth0).catches.take q).all catH = true := hq.2
        have hwq : IntKind.i64.wrap ((q : Int) + 1) = ((q + 1 : Nat) : Int) := by rw [wrap_eq _ (by omega) (by omega)]; omega
        refine ⟨fun h => ?_, fun h => ?_⟩
        · have hltq : q < ((p.getD i cls0).methods.getD k meth0).catches.length := by have := of_decide_eq_true h; omega
          refine ⟨⟨by omega, by omega⟩, ?_⟩
          refine ⟨fun h => ⟨.btt (bad3 <| hbc (all_bad _ cat0 _ q hltq (by unfold catH; exact gtT (n := (((p.getD i cls0).methods.getD k meth0).catches.getD q cat0).name.size) h (m := 60) rfl))), rfl⟩, fun f1 => ?_⟩
          exact ⟨q + 1, ⟨hltq, by rw [allT _ cat0 _ _ hltq, hq2]; exact (by unfold catH; exact gtF (n := (((p.getD i cls0).methods.getD k meth0).catches.getD q cat0).name.size) f1 (m := 60) rfl)⟩, by show ((p.getD i cls0).methods.getD k meth0).catches.length - (q + 1) < ((p.getD i cls0).methods.getD k meth0).catches.length - q; omega, ⟨rfl, rfl⟩, .refl _, .refl _, .refl _, .int hwq, .refl _, .refl _, ⟨.refl _, trivial⟩, ⟨.refl _, .refl _, .refl _, .refl _, .refl _, .refl _, trivial⟩, ⟨.refl _, .refl _, .refl _, .refl _, .refl _, .refl _, .refl _, .refl _, .refl _, trivial⟩, trivial⟩
        have hgeq : q = ((p.getD i cls0).methods.getD k meth0).catches.length := by have := of_decide_eq_false h; omega
        rw [hgeq, List.take_length] at hq2
        have hmm : methH ((p.getD i cls0).methods.getD k meth0) = true := by unfold methH; rw [hm0, hcode, hpar, hq2]; rfl
        exact ⟨k + 1, ⟨hltk, by rw [allT _ meth0 _ _ hltk, hk2, hmm]; rfl⟩, by show (p.getD i cls0).methods.length - (k + 1) < (p.getD i cls0).methods.length - k; omega, ⟨rfl, rfl⟩, .refl _, .refl _, .int hwk, .refl _, ⟨.refl _, trivial⟩, ⟨.refl _, .refl _, .refl _, .refl _, .refl _, .refl _, trivial⟩, trivial⟩
      have hgek : k = (p.getD i cls0).methods.length := by have := of_decide_eq_false h; omega
      rw [hgek, List.take_length] at hk2
      have hcc : clsH (p.getD i cls0) = true := by unfold clsH; rw [hc0, hfl, hif, hk2]; rfl
      exact ⟨i + 1, ⟨hlt, by rw [allT _ cls0 _ _ hlt, hi2, hcc]; rfl⟩, by show p.length - (i + 1) < p.length - i; omega, ⟨rfl, rfl⟩, .refl _, .int hwi, ⟨.refl _, trivial⟩, trivial⟩
    · have hge : i = p.length := by have := of_decide_eq_false h; omega
      rw [hge, List.take_length] at hi2
      exact ⟨.bff (by unfold prgH; rw [gtF hp14 (m := 14) rfl, hi2]; rfl), rfl⟩
end Go.Proofs.YtadimoijlgmecaaGreatDoor.Ax
/- Layer parse: programs compared. -/
set_option linter.unusedVariables false
set_option linter.unusedSimpArgs false
namespace Go.Proofs.YtadimoijlgmecaaGreatDoor.Ax
open Go Go.RowKit
theorem eq_step {P : Program} (w : World) (d : Nat) (f : Go.Field) (fs : List Go.Field) (xs ys : Array Value) (a b : Value) (e r : Bool) (hn : f.name ≠ "_") (px : (part f.type xs f.offset).run P w = .ok a w) (py : (part f.type ys f.offset).run P w = .ok b w)
    (he : (Op.equalIn (d + 1) f.type a b).run P w = .ok e w) (ih : (Op.eqFields (d + 1) xs ys fs).run P w = .ok r w) : (Op.eqFields (d + 1) xs ys (f :: fs)).run P w = .ok (e && r) w := by
  simp only [Op.eqFields]
  rw [if_pos hn]
  simp only [Sem.run_bind, px, py, he, Result.andThen_ok, Sem.run_ite]
  cases e with
  | true => simp only [Bool.not_true, Bool.false_eq_true, if_false, Bool.true_and]; exact ih
  | false => simp
theorem part_flat {P : Program} (w : World) (f : Go.Field) {dd : TypeDesc} (hdd : P.underlying f.type = some dd) (hag : isAggD dd = false) (xs : Array Value) (lx : f.offset < xs.size) : (part f.type xs f.offset).run P w = .ok (xs.getD f.offset undef) w := by
  simp only [part, Sem.run_bind, run_isAgg hdd, hag, Result.andThen_ok]
  simp [Array.getD, lx]
theorem part_sub {P : Program} (w : World) (f : Go.Field) {gs : Array Go.Field} {i : TypeInfo} (hu : P.underlying f.type = some (.struct gs)) (hi : P.info? f.type = some i) (xs : Array Value) : (part f.type xs f.offset).run P w = .ok (.agg (xs.extract f.offset (f.offset + i.size))) w := by
  simp only [part, Sem.run_bind, run_isAgg hu, show isAggD (.struct gs) = true from rfl, Result.andThen_ok]
  rw [if_pos True.intro, Sem.run_bind, run_size hi]
  rfl
theorem fld_shape {P : Program} {t : Nat} {f0 f1 f2 : Go.Field} {gs : Array Go.Field} {i : TypeInfo} (hu : P.underlying t = some (.struct #[f0, f1, f2])) (hp : P.stoodInHeld t = false) (hm : P.eqGuardType P.depth t = false)
    (n0 : f0.name ≠ "_" ∧ f0.offset = 0 ∧ P.underlying f0.type = some .string) (n1 : f1.name ≠ "_" ∧ f1.offset = 1 ∧ P.underlying f1.type = some (.struct gs)) (n2 : f2.name ≠ "_" ∧ f2.offset = 3 ∧ P.underlying f2.type = some .bool)
    (hi : P.info? f1.type = some i) (hz : i.size = 2) (hp1 : P.stoodInHeld f1.type = false) (hk : flatB P 0 gs.toList [.int .i64, .str] = true) : EqSound P t (flatC Fld fldC) := by
  intro u v H β T xs ys w x y hx hy gx gy
  have hx : xs.size = 4 := hx
  have hy : ys.size = 4 := hy
  refine ⟨fun op => run_eqGuard_agg w op t x y xs ys hm, ?_⟩
  have hf : P.fieldsOf t = #[f0, f1, f2] := by unfold Program.fieldsOf; rw [hu]
  show (Op.equalIn (9999 + 1) t (.agg xs) (.agg ys)).run P w = _
  rw [run_equalIn_agg w 9999 t xs ys (by rw [hf]; exact hu) hp, hf]
  have gx0 : xs.getD 0 undef = .string u.name := gval (gx 0 (by show 0 < 4; omega))
  have gy0 : ys.getD 0 undef = .string v.name := gval (gy 0 (by show 0 < 4; omega))
  have gx1 : xs.getD 1 undef = .int .i64 u.type.1 := gval (gx 1 (by show 1 < 4; omega))
  have gy1 : ys.getD 1 undef = .int .i64 v.type.1 := gval (gy 1 (by show 1 < 4; omega))
  have gx2 : xs.getD 2 undef = .string u.type.2 := gval (gx 2 (by show 2 < 4; omega))
  have gy2 : ys.getD 2 undef = .string v.type.2 := gval (gy 2 (by show 2 < 4; omega))
  have gx3 : xs.getD 3 undef = .bool u.static := gval (gx 3 (by show 3 < 4; omega))
  have gy3 : ys.getD 3 undef = .bool v.static := gval (gy 3 (by show 3 < 4; omega))
  have e0 := eq_step w 9998 f0 [f1, f2] xs ys _ _ (u.name.toList == v.name.toList) (cellsEq (tyC u.type) (tyC v.type) && ((u.static == v.static) && true)) n0.1 (part_flat w f0 n0.2.2 rfl xs (by rw [n0.2.1]; omega)) (part_flat w f0 n0.2.2 rfl ys (by rw [n0.2.1]; omega))
    (by rw [n0.2.1, gx0, gy0]; exact run_equalIn_string w 9998 f0.type _ _ n0.2.2) ?_
  · show (Op.eqFields 9999 xs ys [f0, f1, f2]).run P w = _
    rw [e0]
    show Result.ok ((u.name.toList == v.name.toList) && (cellsEq (tyC u.type) (tyC v.type) && ((u.static == v.static) && true))) w = Result.ok (cellsEq (fldC u) (fldC v)) w
    simp [cellsEq, cellEq, fldC, tyC, Bool.and_assoc]
  · have sub : (Op.equalIn (9998 + 1) f1.type (.agg (xs.extract f1.offset (f1.offset + i.size))) (.agg (ys.extract f1.offset (f1.offset + i.size)))).run P w = .ok (cellsEq (tyC u.type) (tyC v.type)) w := by
      have hf1 : P.fieldsOf f1.type = gs := by unfold Program.fieldsOf; rw [n1.2.2]
      rw [run_equalIn_agg w 9998 f1.type _ _ (by rw [hf1]; exact n1.2.2) hp1, hf1, n1.2.1, hz]
      have q : ∀ (zs : Array Value) (a b : Value), zs.size = 4 → zs.getD 1 undef = a → zs.getD 2 undef = b → ∀ j, j < 2 → (zs.extract 1 (1 + 2)).getD j undef = if j = 0 then a else b := by
        intro zs a b hs h1 h2 j hj
        match j, hj with
        | 0, _ => rw [if_pos rfl, ← h1]; simp [Array.getD, hs]
        | 1, _ => rw [if_neg (by decide), ← h2]; simp [Array.getD, hs]
      refine run_eqFields (H := H) (β := β) (T := T) w 9997 (xs.extract 1 (1 + 2)) (ys.extract 1 (1 + 2)) gs.toList [.int .i64, .str] (tyC u.type) (tyC v.type) 0 hk rfl rfl ?_ ?_ (by simp [tyC, hx]) (by simp [tyC, hy])
      · intro j hj
        have hj : j < 2 := hj
        rw [Nat.zero_add, q xs _ _ hx gx1 gx2 j hj]
        match j, hj with
        | 0, _ => exact .val _
        | 1, _ => exact .val _
      · intro j hj
        have hj : j < 2 := hj
        rw [Nat.zero_add, q ys _ _ hy gy1 gy2 j hj]
        match j, hj with
        | 0, _ => exact .val _
        | 1, _ => exact .val _
    have e2 := eq_step w 9998 f2 [] xs ys _ _ (u.static == v.static) true n2.1 (part_flat w f2 n2.2.2 rfl xs (by rw [n2.2.1]; omega)) (part_flat w f2 n2.2.2 rfl ys (by rw [n2.2.1]; omega))
      (by rw [n2.2.1, gx3, gy3]; exact run_equalIn_bool w 9998 f2.type _ _ n2.2.2) (by simp [Op.eqFields])
    exact eq_step w 9998 f1 [f2] xs ys _ _ _ _ n1.1 (part_sub w f1 n1.2.2 hi xs) (part_sub w f1 n1.2.2 hi ys) sub e2
theorem fld_eq : EqSound Tryz.prog 49 (flatC Fld fldC) := by
  obtain ⟨i, hi, hz⟩ := Option.map_eq_some_iff.1 (show (Tryz.prog.info? 26).map (·.size) = some 2 by kernel_rfl)
  exact fld_shape Tryz.underlying49 (by kernel_rfl) (by kernel_rfl) ⟨by decide, rfl, Tryz.underlying9⟩ ⟨by decide, rfl, Tryz.underlying26⟩ ⟨by decide, rfl, Tryz.underlying4⟩ hi hz (by kernel_rfl) (by kernel_rfl)
theorem fld_dec (a b : Fld) : cellsEq (fldC a) (fldC b) = decide (a = b) := by
  obtain ⟨a1, ⟨a2, a3⟩, a4⟩ := a
  obtain ⟨b1, ⟨b2, b3⟩, b4⟩ := b
  rw [Bool.eq_iff_iff]
  simp [fldC, cellsEq, cellEq, ba_eq, and_assoc]
abbrev LB : Nat := 4611686018427387904
def mLen (m : Meth) : Prop := m.params.length ≤ LB ∧ m.code.length ≤ LB ∧ m.catches.length ≤ LB
def cLen (c : Cls) : Prop := c.ifaces.length ≤ LB ∧ c.fields.length ≤ LB ∧ c.methods.length ≤ LB ∧ ∀ m ∈ c.methods, mLen m
def pLen (p : List Cls) : Prop := p.length ≤ LB ∧ ∀ c ∈ p, cLen c
def kepC (T : Type) [DecidableEq T] (e : T → SV) (d : T → Prop) : Ctr := { A := T × T, enc := fun x => [e x.1, e x.2], dom := fun x => d x.1 ∧ d x.2, res := fun x _ => B (decide (x.1 = x.2)) }
theorem cat_eq : EqSound Tryz.prog 63 (flatC Cat catC) :=
  eq_flat [.str, .int .i64, .int .i64, .int .i64] _ catC Tryz.underlying63 (by kernel_rfl) (by kernel_rfl) (by kernel_rfl) (fun _ => rfl)
theorem cat_dec (a b : Cat) : cellsEq (catC a) (catC b) = decide (a = b) := by
  obtain ⟨a1, a2, a3, a4⟩ := a
  obtain ⟨b1, b2, b3, b4⟩ := b
  rw [Bool.eq_iff_iff]
  simp [catC, cellsEq, cellEq, ba_eq]
theorem kins_eq : EqSound Tryz.prog 56 (flatC Ins insC) :=
  eq_flat [.int .i64, .int .i64, .str, .str] _ insC Tryz.underlying56 (by kernel_rfl) (by kernel_rfl) (by kernel_rfl) (fun _ => rfl)
theorem kins_dec (a b : Ins) : cellsEq (insC a) (insC b) = decide (a = b) := by
  obtain ⟨a1, a2, a3, a4⟩ := a
  obtain ⟨b1, b2, b3, b4⟩ := b
  rw [Bool.eq_iff_iff]
  simp [insC, cellsEq, cellEq, ba_eq]
set_option maxRecDepth 100000 in
theorem kStrings_ok : CtrSound Tryz.prog 91 (keepR ByteArray 1 strC noS) :=
  ctr_of_ax (env_ok tys_ok (eqs := []) trivial (cs := []) trivial) mixed _ Tryz.func91 (by kernel_rfl) rfl (fun _ _ => Nat.le_of_ble_eq_true rfl) fun ((k, l) : List ByteArray × List ByteArray) id hd => by
    have hd : k.length ≤ 4611686018427387904 := hd
    have no : ¬ (k = l) → Sub .ff (B (decide (k = l))) := fun h => .bff (decide_eq_false h)
    refine ⟨fun h2 => ?_, fun h2 => ?_⟩
    · exact ⟨no fun q => lneT h2 (by rw [q]), rfl⟩
    have hl : k.length = l.length := lneF h2
    refine ⟨Nat, fun i => [(0, .row ByteArray 1 strC noS k), (1, .row ByteArray 1 strC noS l), (5, I i)], fun _ => [], fun i => i ≤ k.length ∧ ∀ j, j < i → k.getD j noS = l.getD j noS, fun i => k.length - i,
      ⟨0, ⟨Nat.zero_le _, fun j hj => by omega⟩, ⟨⟨rfl, rfl⟩, .refl _, .refl _, .refl _, trivial⟩⟩, fun (i : Nat) hi => ?_⟩
    have hil := hi.1
    have hwj : IntKind.i64.wrap ((i : Int) + 1) = ((i + 1 : Nat) : Int) := by rw [wrap_eq _ (by omega) (by omega)]; omega
    refine ⟨fun h => ?_, fun h => ?_⟩
    · have hlt : i < k.length := dlt h
      refine ⟨by kernel_rfl, ?_⟩
      refine ⟨⟨by omega, by omega⟩, ⟨by omega, by omega⟩, ?_⟩
      refine ⟨fun h => ?_, fun h => ?_⟩
      · have h : (!((k.getD i noS).toList == (l.getD i noS).toList)) = true := h
        exact ⟨no fun q => by rw [q] at h; simp at h, rfl⟩
      · have h : (!((k.getD i noS).toList == (l.getD i noS).toList)) = false := h
        have he : k.getD i noS = l.getD i noS := baT (notF h)
        exact ⟨i + 1, ⟨hlt, fun j hj => by rcases Nat.lt_succ_iff_lt_or_eq.1 hj with q | rfl; exact hi.2 j q; exact he⟩, by show k.length - (i + 1) < k.length - i; omega, ⟨rfl, rfl⟩, .refl _, .refl _, .int hwj, trivial⟩
    · have hge : i = k.length := Nat.le_antisymm hil (dge h)
      exact ⟨.btt (decide_eq_true (ext_getD noS hl fun j (hj : j < k.length) => hi.2 j (hge ▸ hj))), rfl⟩
set_option maxRecDepth 100000 in
set_option maxHeartbeats 4000000 in
theorem kMethod_ok : CtrSound Tryz.prog 92 (kepC Meth (fun m => .agg (methC m)) mLen) :=
  ctr_of_ax (env_ok tys_ok (eqs := [(26, flatC Ty tyC), (56, flatC Ins insC), (63, flatC Cat catC)]) ⟨ty_eq, kins_eq, cat_eq, trivial⟩ (cs := [(120, keepR Ty 2 tyC ty0)]) ⟨kTypes_ok, trivial⟩) mixed _ Tryz.func92 (by kernel_rfl) rfl (fun _ _ => Nat.le_of_ble_eq_true rfl) fun ((a, b) : Meth × Meth) id hd => by
    have hd1 : mLen a := hd.1
    obtain ⟨b1, b2, b3⟩ := hd1
    have no : ¬ (a = b) → Sub .ff (B (decide (a = b))) := fun h => .bff (decide_eq_false h)
    refine ⟨fun h => ?_, fun h => ?_⟩
    · have h : (!(a.name.toList == b.name.toList)) = true := h
      exact ⟨no fun q => by rw [q] at h; simp at h, rfl⟩
    have e_name : a.name = b.name := baT (notF h)
    refine ⟨fun h => ?_, fun h => ?_⟩
    · have h : (!(a.static == b.static)) = true := h
      exact ⟨no fun q => by rw [q] at h; simp at h, rfl⟩
    have e_static : a.static = b.static := by
      have h : (!(a.static == b.static)) = false := h
      simpa using h
    refine ⟨fun h => ?_, fun h => ?_⟩
    · have h : (!(a.abs == b.abs)) = true := h
      exact ⟨no fun q => by rw [q] at h; simp at h, rfl⟩
    have e_abs : a.abs = b.abs := by
      have h : (!(a.abs == b.abs)) = false := h
      simpa using h
    refine ⟨(a.params, b.params), ⟨.refl _, .refl _, trivial⟩, rfl, b1, ?_⟩
    refine ⟨fun h => ?_, fun h => ?_⟩
    · have h : (!decide (a.params = b.params)) = true := h
      exact ⟨no fun q => by rw [q] at h; simp at h, rfl⟩
    have e_params : a.params = b.params := by
      have h : (!decide (a.params = b.params)) = false := h
      simpa using h
    refine ⟨a.ret, b.ret, ⟨.refl _, .refl _, trivial⟩, ⟨.refl _, .refl _, trivial⟩, ?_⟩
    refine ⟨fun h => ?_, fun h => ?_⟩
    · have h : (!cellsEq (tyC a.ret) (tyC b.ret)) = true := h
      rw [ty_dec] at h
      exact ⟨no fun q => by rw [q] at h; simp at h, rfl⟩
    have e_ret : a.ret = b.ret := by
      have h : (!cellsEq (tyC a.ret) (tyC b.ret)) = false := h
      rw [ty_dec] at h
      simpa using h
    refine ⟨fun h => ?_, fun h => ?_⟩
    · have h : (a.locals != b.locals) = true := h
      exact ⟨no fun q => by rw [q] at h; simp at h, rfl⟩
    have e_locals : a.locals = b.locals := by
      have h : (a.locals != b.locals) = false := h
      simpa using h
    refine ⟨fun h => ?_, fun h => ?_⟩
    · have h : ((a.code.length : Int) != (b.code.length : Int)) = true := h
      exact ⟨no fun q => by rw [q] at h; simp at h, rfl⟩
    have l_code : a.code.length = b.code.length := lneF h
    refine ⟨fun h => ?_, fun h => ?_⟩
    · have h : ((a.catches.length : Int) != (b.catches.length : Int)) = true := h
      exact ⟨no fun q => by rw [q] at h; simp at h, rfl⟩
    have l_catches : a.catches.length = b.catches.length := lneF h
    have b2 : a.code.length ≤ 4611686018427387904 := b2
    have b3 : a.catches.length ≤ 4611686018427387904 := b3
    refine ⟨Nat, fun i => [(2, .box 2 0), (3, .box 3 0), (5, I i)], fun _ => [(2, methC a), (3, methC b)], fun i => i ≤ a.code.length ∧ ∀ j, j < i → a.code.getD j ins0 = b.code.getD j ins0, fun i => a.code.length - i,
      ⟨0, ⟨Nat.zero_le _, fun j hj => by omega⟩, ⟨⟨rfl, rfl⟩, .refl _, .refl _, .refl _, ⟨.refl _, .refl _, .refl _, .refl _, .refl _, .refl _, .refl _, .refl _, .refl _, trivial⟩, ⟨.refl _, .refl _, .refl _, .refl _, .refl _, .refl _, .refl _, .refl _, .refl _, trivial⟩, trivial⟩⟩, fun (i : Nat) hi => ?_⟩
    have hil : i ≤ a.code.length := hi.1
    have hwj : IntKind.i64.wrap ((i : Int) + 1) = ((i + 1 : Nat) : Int) := by rw [wrap_eq _ (by omega) (by omega)]; omega
    refine ⟨fun h => ?_, fun h => ?_⟩
    · have hlt : i < a.code.length := dlt h
      refine ⟨by kernel_rfl, ?_⟩
      refine ⟨(show 0 ≤ (i : Int) ∧ (i : Int) < (a.code.length : Int) by omega), (show 0 ≤ (i : Int) ∧ (i : Int) < (b.code.length : Int) by omega), ?_⟩
      refine ⟨a.code.getD i ins0, b.code.getD i ins0, ⟨.refl _, .refl _, .refl _, .refl _, trivial⟩, ⟨.refl _, .refl _, .refl _, .refl _, trivial⟩, ?_⟩
      refine ⟨fun h => ?_, fun h => ?_⟩
      · have h : (!cellsEq (insC (a.code.getD i ins0)) (insC (b.code.getD i ins0))) = true := h
        rw [kins_dec] at h
        exact ⟨no fun q => by rw [q] at h; simp at h, rfl⟩
      · have h : (!cellsEq (insC (a.code.getD i ins0)) (insC (b.code.getD i ins0))) = false := h
        rw [kins_dec] at h
        have he : a.code.getD i ins0 = b.code.getD i ins0 := by simpa using h
        exact ⟨i + 1, ⟨hlt, fun j hj => by rcases Nat.lt_succ_iff_lt_or_eq.1 hj with q | rfl; exact hi.2 j q; exact he⟩, (show a.code.length - (i + 1) < a.code.length - i by omega), ⟨rfl, rfl⟩, .refl _, .int hwj, .refl _, ⟨.refl _, .refl _, .refl _, .refl _, .refl _, .refl _, .refl _, .refl _, .refl _, trivial⟩, ⟨.refl _, .refl _, .refl _, .refl _, .refl _, .refl _, .refl _, .refl _, .refl _, trivial⟩, trivial⟩
    have e_code : a.code = b.code := by
      have hge : i = a.code.length := Nat.le_antisymm hil (dge h)
      exact ext_getD ins0 l_code fun j (hj : j < a.code.length) => hi.2 j (hge ▸ hj)
    clear hi hil hwj h
    refine ⟨Nat, fun i => [(2, .box 2 0), (3, .box 3 0), (6, I i)], fun _ => [(2, methC a), (3, methC b)], fun i => i ≤ a.catches.length ∧ ∀ j, j < i → a.catches.getD j cat0 = b.catches.getD j cat0, fun i => a.catches.length - i,
      ⟨0, ⟨Nat.zero_le _, fun j hj => by omega⟩, ⟨⟨rfl, rfl⟩, .refl _, .refl _, .refl _, ⟨.refl _, .refl _, .refl _, .refl _, .refl _, .refl _, .refl _, .refl _, .refl _, trivial⟩, ⟨.refl _, .refl _, .refl _, .refl _, .refl _, .refl _, .refl _, .refl _, .refl _, trivial⟩, trivial⟩⟩, fun (i : Nat) hi => ?_⟩
    have hil : i ≤ a.catches.length := hi.1
    have hwj : IntKind.i64.wrap ((i : Int) + 1) = ((i + 1 : Nat) : Int) := by rw [wrap_eq _ (by omega) (by omega)]; omega
    refine ⟨fun h => ?_, fun h => ?_⟩
    · have hlt : i < a.catches.length := dlt h
      refine ⟨by kernel_rfl, ?_⟩
      refine ⟨(show 0 ≤ (i : Int) ∧ (i : Int) < (a.catches.length : Int) by omega), (show 0 ≤ (i : Int) ∧ (i : Int) < (b.catches.length : Int) by omega), ?_⟩
      refine ⟨a.catches.getD i cat0, b.catches.getD i cat0, ⟨.refl _, .refl _, .refl _, .refl _, trivial⟩, ⟨.refl _, .refl _, .refl _, .refl _, trivial⟩, ?_⟩
      refine ⟨fun h => ?_, fun h => ?_⟩
      · have h : (!cellsEq (catC (a.catches.getD i cat0)) (catC (b.catches.getD i cat0))) = true := h
        rw [cat_dec] at h
        exact ⟨no fun q => by rw [q] at h; simp at h, rfl⟩
      · have h : (!cellsEq (catC (a.catches.getD i cat0)) (catC (b.catches.getD i cat0))) = false := h
        rw [cat_dec] at h
        have he : a.catches.getD i cat0 = b.catches.getD i cat0 := by simpa using h
        exact ⟨i + 1, ⟨hlt, fun j hj => by rcases Nat.lt_succ_iff_lt_or_eq.1 hj with q | rfl; exact hi.2 j q; exact he⟩, (show a.catches.length - (i + 1) < a.catches.length - i by omega), ⟨rfl, rfl⟩, .refl _, .refl _, .int hwj, ⟨.refl _, .refl _, .refl _, .refl _, .refl _, .refl _, .refl _, .refl _, .refl _, trivial⟩, ⟨.refl _, .refl _, .refl _, .refl _, .refl _, .refl _, .refl _, .refl _, .refl _, trivial⟩, trivial⟩
    have e_catches : a.catches = b.catches := by
      have hge : i = a.catches.length := Nat.le_antisymm hil (dge h)
      exact ext_getD cat0 l_catches fun j (hj : j < a.catches.length) => hi.2 j (hge ▸ hj)
    clear hi hil hwj h
    exact ⟨.btt (decide_eq_true (by cases a; cases b; simp_all)), rfl⟩
set_option maxRecDepth 100000 in
set_option maxHeartbeats 4000000 in
theorem kClass_ok : CtrSound Tryz.prog 55 (kepC Cls (fun c => .agg (clsC c)) cLen) :=
  ctr_of_ax (env_ok tys_ok (eqs := [(49, flatC Fld fldC)]) ⟨fld_eq, trivial⟩ (cs := [(91, keepR ByteArray 1 strC noS), (92, kepC Meth (fun m => .agg (methC m)) mLen)]) ⟨kStrings_ok, kMethod_ok, trivial⟩) mixed _ Tryz.func55 (by kernel_rfl) rfl (fun _ _ => Nat.le_of_ble_eq_true rfl) fun ((a, b) : Cls × Cls) id hd => by
    have hd1 : cLen a := hd.1
    have hd2 : cLen b := hd.2
    obtain ⟨b1, b2, b3, b4⟩ := hd1
    have no : ¬ (a = b) → Sub .ff (B (decide (a = b))) := fun h => .bff (decide_eq_false h)
    refine ⟨fun h => ?_, fun h => ?_⟩
    · have h : (!(a.name.toList == b.name.toList)) = true := h
      exact ⟨no fun q => by rw [q] at h; simp at h, rfl⟩
    have e_name : a.name = b.name := baT (notF h)
    refine ⟨fun h => ?_, fun h => ?_⟩
    · have h : (!(a.iface == b.iface)) = true := h
      exact ⟨no fun q => by rw [q] at h; simp at h, rfl⟩
    have e_iface : a.iface = b.iface := by
      have h : (!(a.iface == b.iface)) = false := h
      simpa using h
    refine ⟨fun h => ?_, fun h => ?_⟩
    · have h : (!(a.super.toList == b.super.toList)) = true := h
      exact ⟨no fun q => by rw [q] at h; simp at h, rfl⟩
    have e_super : a.super = b.super := baT (notF h)
    refine ⟨(a.ifaces, b.ifaces), ⟨.refl _, .refl _, trivial⟩, rfl, b1, ?_⟩
    refine ⟨fun h => ?_, fun h => ?_⟩
    · have h : (!decide (a.ifaces = b.ifaces)) = true := h
      exact ⟨no fun q => by rw [q] at h; simp at h, rfl⟩
    have e_ifaces : a.ifaces = b.ifaces := by
      have h : (!decide (a.ifaces = b.ifaces)) = false := h
      simpa using h
    refine ⟨fun h => ?_, fun h => ?_⟩
    · have h : ((a.fields.length : Int) != (b.fields.length : Int)) = true := h
      exact ⟨no fun q => by rw [q] at h; simp at h, rfl⟩
    have l_fields : a.fields.length = b.fields.length := lneF h
    refine ⟨fun h => ?_, fun h => ?_⟩
    · have h : ((a.methods.length : Int) != (b.methods.length : Int)) = true := h
      exact ⟨no fun q => by rw [q] at h; simp at h, rfl⟩
    have l_methods : a.methods.length = b.methods.length := lneF h
    have b2 : a.fields.length ≤ 4611686018427387904 := b2
    have b3 : a.methods.length ≤ 4611686018427387904 := b3
    refine ⟨Nat, fun i => [(2, .box 2 0), (3, .box 3 0), (5, I i)], fun _ => [(2, clsC a), (3, clsC b)], fun i => i ≤ a.fields.length ∧ ∀ j, j < i → a.fields.getD j fld0 = b.fields.getD j fld0, fun i => a.fields.length - i,
      ⟨0, ⟨Nat.zero_le _, fun j hj => by omega⟩, ⟨⟨rfl, rfl⟩, .refl _, .refl _, .refl _, ⟨.refl _, .refl _, .refl _, .refl _, .refl _, .refl _, trivial⟩, ⟨.refl _, .refl _, .refl _, .refl _, .refl _, .refl _, trivial⟩, trivial⟩⟩, fun (i : Nat) hi => ?_⟩
    have hil : i ≤ a.fields.length := hi.1
    have hwj : IntKind.i64.wrap ((i : Int) + 1) = ((i + 1 : Nat) : Int) := by rw [wrap_eq _ (by omega) (by omega)]; omega
    refine ⟨fun h => ?_, fun h => ?_⟩
    · have hlt : i < a.fields.length := dlt h
      refine ⟨by kernel_rfl, ?_⟩
      refine ⟨(show 0 ≤ (i : Int) ∧ (i : Int) < (a.fields.length : Int) by omega), (show 0 ≤ (i : Int) ∧ (i : Int) < (b.fields.length : Int) by omega), ?_⟩
      refine ⟨a.fields.getD i fld0, b.fields.getD i fld0, ⟨.refl _, .refl _, .refl _, .refl _, trivial⟩, ⟨.refl _, .refl _, .refl _, .refl _, trivial⟩, ?_⟩
      refine ⟨fun h => ?_, fun h => ?_⟩
      · have h : (!cellsEq (fldC (a.fields.getD i fld0)) (fldC (b.fields.getD i fld0))) = true := h
        rw [fld_dec] at h
        exact ⟨no fun q => by rw [q] at h; simp at h, rfl⟩
      · have h : (!cellsEq (fldC (a.fields.getD i fld0)) (fldC (b.fields.getD i fld0))) = false := h
        rw [fld_dec] at h
        have he : a.fields.getD i fld0 = b.fields.getD i fld0 := by simpa using h
        exact ⟨i + 1, ⟨hlt, fun j hj => by rcases Nat.lt_succ_iff_lt_or_eq.1 hj with q | rfl; exact hi.2 j q; exact he⟩, (show a.fields.length - (i + 1) < a.fields.length - i by omega), ⟨rfl, rfl⟩, .refl _, .int hwj, .refl _, ⟨.refl _, .refl _, .refl _, .refl _, .refl _, .refl _, trivial⟩, ⟨.refl _, .refl _, .refl _, .refl _, .refl _, .refl _, trivial⟩, trivial⟩
    have e_fields : a.fields = b.fields := by
      have hge : i = a.fields.length := Nat.le_antisymm hil (dge h)
      exact ext_getD fld0 l_fields fun j (hj : j < a.fields.length) => hi.2 j (hge ▸ hj)
    clear hi hil hwj h
    refine ⟨Nat, fun i => [(2, .box 2 0), (3, .box 3 0), (6, I i)], fun _ => [(2, clsC a), (3, clsC b)], fun i => i ≤ a.methods.length ∧ ∀ j, j < i → a.methods.getD j meth0 = b.methods.getD j meth0, fun i => a.methods.length - i,
      ⟨0, ⟨Nat.zero_le _, fun j hj => by omega⟩, ⟨⟨rfl, rfl⟩, .refl _, .refl _, .refl _, ⟨.refl _, .refl _, .refl _, .refl _, .refl _, .refl _, trivial⟩, ⟨.refl _, .refl _, .refl _, .refl _, .refl _, .refl _, trivial⟩, trivial⟩⟩, fun (i : Nat) hi => ?_⟩
    have hil : i ≤ a.methods.length := hi.1
    have hwj : IntKind.i64.wrap ((i : Int) + 1) = ((i + 1 : Nat) : Int) := by rw [wrap_eq _ (by omega) (by omega)]; omega
    refine ⟨fun h => ?_, fun h => ?_⟩
    · have hlt : i < a.methods.length := dlt h
      refine ⟨by kernel_rfl, ?_⟩
      refine ⟨(show 0 ≤ (i : Int) ∧ (i : Int) < (a.methods.length : Int) by omega), (show 0 ≤ (i : Int) ∧ (i : Int) < (b.methods.length : Int) by omega), ?_⟩
      refine ⟨(a.methods.getD i meth0, b.methods.getD i meth0), ⟨.refl _, .refl _, trivial⟩, rfl, ⟨b4 _ (getT_mem _ _ _ hlt), hd2.2.2.2 _ (getT_mem _ _ _ (l_methods ▸ hlt))⟩, ?_⟩
      refine ⟨fun h => ?_, fun h => ?_⟩
      · have h : (!decide ((a.methods.getD i meth0) = (b.methods.getD i meth0))) = true := h
        skip
        exact ⟨no fun q => by rw [q] at h; simp at h, rfl⟩
      · have h : (!decide ((a.methods.getD i meth0) = (b.methods.getD i meth0))) = false := h
        skip
        have he : a.methods.getD i meth0 = b.methods.getD i meth0 := by simpa using h
        exact ⟨i + 1, ⟨hlt, fun j hj => by rcases Nat.lt_succ_iff_lt_or_eq.1 hj with q | rfl; exact hi.2 j q; exact he⟩, (show a.methods.length - (i + 1) < a.methods.length - i by omega), ⟨rfl, rfl⟩, .refl _, .refl _, .int hwj, ⟨.refl _, .refl _, .refl _, .refl _, .refl _, .refl _, trivial⟩, ⟨.refl _, .refl _, .refl _, .refl _, .refl _, .refl _, trivial⟩, trivial⟩
    have e_methods : a.methods = b.methods := by
      have hge : i = a.methods.length := Nat.le_antisymm hil (dge h)
      exact ext_getD meth0 l_methods fun j (hj : j < a.methods.length) => hi.2 j (hge ▸ hj)
    clear hi hil hwj h
    exact ⟨.btt (decide_eq_true (by cases a; cases b; simp_all)), rfl⟩
def kRow : Ctr := { A := List Cls × List Cls, enc := fun x => [prgR x.1, prgR x.2], dom := fun x => pLen x.1 ∧ pLen x.2, res := fun x _ => B (decide (x.1 = x.2)) }
set_option maxRecDepth 100000 in
theorem kClasses_ok : CtrSound Tryz.prog 33 kRow :=
  ctr_of_ax (env_ok tys_ok (eqs := []) trivial (cs := [(55, kepC Cls (fun c => .agg (clsC c)) cLen)]) ⟨kClass_ok, trivial⟩) mixed _ Tryz.func33 (by kernel_rfl) rfl (fun _ _ => Nat.le_of_ble_eq_true rfl) fun ((k, l) : List Cls × List Cls) id hd => by
    have hd0 : pLen k := hd.1
    have hd2 : pLen l := hd.2
    have hd : k.length ≤ 4611686018427387904 := hd0.1
    have no : ¬ (k = l) → Sub .ff (B (decide (k = l))) := fun h => .bff (decide_eq_false h)
    refine ⟨fun h2 => ?_, fun h2 => ?_⟩
    · exact ⟨no fun q => lneT h2 (by rw [q]), rfl⟩
    have hl : k.length = l.length := lneF h2
    refine ⟨Nat, fun i => [(0, prgR k), (1, prgR l), (5, I i)], fun _ => [], fun i => i ≤ k.length ∧ ∀ j, j < i → k.getD j cls0 = l.getD j cls0, fun i => k.length - i,
      ⟨0, ⟨Nat.zero_le _, fun j hj => by omega⟩, ⟨⟨rfl, rfl⟩, .refl _, .refl _, .refl _, trivial⟩⟩, fun (i : Nat) hi => ?_⟩
    have hil := hi.1
    have hwj : IntKind.i64.wrap ((i : Int) + 1) = ((i + 1 : Nat) : Int) := by rw [wrap_eq _ (by omega) (by omega)]; omega
    refine ⟨fun h => ?_, fun h => ?_⟩
    · have hlt : i < k.length := dlt h
      refine ⟨by kernel_rfl, ?_⟩
      refine ⟨⟨by omega, by omega⟩, ⟨by omega, by omega⟩, ?_⟩
      refine ⟨(k.getD i cls0, l.getD i cls0), ⟨.refl _, .refl _, trivial⟩, rfl, ⟨hd0.2 _ (getT_mem _ _ _ hlt), hd2.2 _ (getT_mem _ _ _ (hl ▸ hlt))⟩, ?_⟩
      refine ⟨fun h => ?_, fun h => ?_⟩
      · have h : (!decide (k.getD i cls0 = l.getD i cls0)) = true := h
        exact ⟨no fun q => by rw [q] at h; simp at h, rfl⟩
      · have h : (!decide (k.getD i cls0 = l.getD i cls0)) = false := h
        have he : k.getD i cls0 = l.getD i cls0 := by simpa using h
        exact ⟨i + 1, ⟨hlt, fun j hj => by rcases Nat.lt_succ_iff_lt_or_eq.1 hj with q | rfl; exact hi.2 j q; exact he⟩, by show k.length - (i + 1) < k.length - i; omega, ⟨rfl, rfl⟩, .refl _, .refl _, .int hwj, trivial⟩
    · have hge : i = k.length := Nat.le_antisymm hil (dge h)
      exact ⟨.btt (decide_eq_true (ext_getD cls0 hl fun j (hj : j < k.length) => hi.2 j (hge ▸ hj))), rfl⟩
def kPrg : Ctr := { A := List Cls × List Cls, enc := fun x => [.agg [prgR x.1], .agg [prgR x.2]], dom := fun x => pLen x.1 ∧ pLen x.2, res := fun x _ => B (decide (x.1 = x.2)) }
set_option maxRecDepth 100000 in
theorem kPrg_ok : CtrSound Tryz.prog 15 kPrg :=
  ctr_of_ax (env_ok tys_ok (eqs := []) trivial (cs := [(33, kRow)]) ⟨kClasses_ok, trivial⟩) mixed _ Tryz.func15 (by kernel_rfl) rfl (fun _ _ => Nat.le_of_ble_eq_true rfl) fun ((k, l) : List Cls × List Cls) id hd => by
    refine ⟨(k, l), ⟨.refl _, .refl _, trivial⟩, rfl, hd, ?_⟩
    exact ⟨.refl _, rfl⟩
end Go.Proofs.YtadimoijlgmecaaGreatDoor.Ax
/- Layer show: what each statement wakes; ShowUnlike, ShowParts. -/
set_option linter.unusedVariables false
set_option linter.unusedSimpArgs false
namespace Go.Proofs.YtadimoijlgmecaaGreatDoor.Ax
open Go Go.RowKit
theorem Sub.agg1 {a b : SV} (h : Sub a b) : Sub (.agg [a]) (.agg [b]) := .agg _ _ rfl fun j hj => by
  obtain rfl : j = 0 := by simpa using hj
  exact h
theorem meth_H {m : Meth} (h : methH m = true) : methD m ∧ mLen m := by
  unfold methH methH0 at h
  simp only [Bool.and_eq_true, decide_eq_true_eq, List.all_eq_true] at h
  obtain ⟨⟨h1, h2, h3, h4, h5⟩, h6, h7, h8⟩ := h
  refine ⟨⟨by unfold SM; omega, by unfold SM; omega, ⟨by omega, fun x hx => ?_⟩, ⟨by omega, fun x hx => ?_⟩, by omega, fun x hx => ?_⟩, by unfold LB; omega, by unfold LB; omega, by unfold LB; omega⟩
  · have := h7 x hx; unfold tyH at this; have := of_decide_eq_true this; unfold SM; omega
  · have := h6 x hx; unfold insH at this; simp only [Bool.and_eq_true, decide_eq_true_eq] at this; exact ⟨by unfold SM; omega, by unfold SM; omega⟩
  · have := h8 x hx; unfold catH at this; have := of_decide_eq_true this; show x.name.size ≤ SM; unfold SM; omega
theorem cls_H {c : Cls} (h : clsH c = true) : clsD c ∧ cLen c := by
  unfold clsH clsH0 at h
  simp only [Bool.and_eq_true, decide_eq_true_eq, List.all_eq_true] at h
  obtain ⟨⟨h1, h2, h3, h4, h5⟩, h6, h7, h8⟩ := h
  refine ⟨⟨by unfold SM; omega, by unfold SM; omega, ⟨by omega, fun x hx => ?_⟩, ⟨by omega, fun x hx => ?_⟩, by omega, fun x hx => (meth_H (h8 x hx)).1⟩, by unfold LB; omega, by unfold LB; omega, by unfold LB; omega, fun x hx => (meth_H (h8 x hx)).2⟩
  · have := h7 x hx; unfold strH at this; have := of_decide_eq_true this; unfold SM; omega
  · have := h6 x hx; unfold fldH at this; simp only [Bool.and_eq_true, decide_eq_true_eq] at this; exact ⟨by unfold SM; omega, by unfold SM; omega⟩
theorem prg_H {p : List Cls} (h : prgH p = true) : prgD p ∧ pLen p := by
  unfold prgH at h
  simp only [Bool.and_eq_true, decide_eq_true_eq, List.all_eq_true] at h
  exact ⟨⟨by omega, fun c hc => (cls_H (h.2 c hc)).1⟩, by unfold LB; omega, fun c hc => (cls_H (h.2 c hc)).2⟩
theorem show_len (p : List Cls) : (showF p).1.length ≤ 6000 := by
  unfold showF
  split
  · split
    · simp
    · show (textP p).length ≤ 6000; omega
  · simp
abbrev lS : Ctr := { A := Unit, enc := fun _ => [], dom := fun _ => True, res := fun _ _ => .tt, gl := tabS }
abbrev clsA : Cls := ⟨⟨#[65]⟩, false, noS, [], [], []⟩
theorem wkS1 : showF [clsA] = ([99, 108, 97, 115, 115, 32, 65, 32, 123, 10, 125, 10], 0) := by decide +kernel
theorem wkS2 : typeF 5 [65] = ([65, 91, 93], 0) := by decide +kernel
theorem wkS3 : prgOk [cls0] = false := by decide +kernel
theorem clsD_of (s : ByteArray) (h : s.size ≤ 100) : clsD ⟨s, false, noS, [], [], []⟩ := ⟨by show s.size ≤ SM; unfold SM; omega, (by show noS.size ≤ 4611686018427387904; decide), ⟨Nat.zero_le _, fun x hx => by cases hx⟩, ⟨Nat.zero_le _, fun x hx => by cases hx⟩, Nat.zero_le _, fun x hx => by cases hx⟩
set_option maxRecDepth 100000 in
set_option maxHeartbeats 2000000 in
theorem wakesS_ok : CtrSound Tryz.prog 16 lS :=
  ctr_of_ax (env_okB tys_ok (eqs := []) trivial (cs := [(10, textK), (11, typeC), (14, okC)]) ⟨text_ok, type_ok, ok_ok, trivial⟩ (bs := []) trivial (gl := tabS)) mixed _ Tryz.func16 (by kernel_rfl) rfl (fun _ _ => Nat.le_of_ble_eq_true rfl) fun (_ : Unit) id hd => by
    obtain ⟨p1, e1⟩ : ∃ p : List Cls, p = [clsA] := ⟨_, rfl⟩
    obtain ⟨p2, e2⟩ : ∃ p : List Cls, p = [cls0] := ⟨_, rfl⟩
    obtain ⟨l1, f1⟩ : ∃ l : List UInt8, l = [65] := ⟨_, rfl⟩
    have a1 := wkS1
    rw [← e1] at a1
    have a2 := wkS2
    rw [← f1] at a2
    have a3 := wkS3
    rw [← e2] at a3
    have b1 : (showF p1).2 = 0 := by rw [a1]
    have b2 : ((⟨(showF p1).1.toArray⟩ : ByteArray).toList == (⟨#[99, 108, 97, 115, 115, 32, 65, 32, 123, 10, 125, 10]⟩ : ByteArray).toList) = true := by rw [a1]; simp
    have b3 : (typeF 5 l1).2 = 0 := by rw [a2]
    have b4 : ((txt (typeF 5 l1).1).toList == (⟨#[65, 91, 93]⟩ : ByteArray).toList) = true := by rw [a2]; simp [txt]
    refine ⟨Cls, clsC, cls0, [clsA], ⟨rfl, fun _ => rfl⟩, ⟨.refl _, .refl _, .refl _, .nil .., .nil .., .nil .., trivial⟩, rfl, ?_⟩
    refine ⟨p1, ⟨.agg1 (.ownRow e1.symm), trivial⟩, rfl, (show prgD p1 by rw [e1]; exact ⟨by decide, fun c hc => by rw [List.mem_singleton.1 hc]; exact clsD_of _ (by decide)⟩), ?_⟩
    refine ⟨(5, l1), ⟨.agg2 (.refl _) (.str (by rw [f1])), trivial⟩, rfl, (show l1.length ≤ 1000000 by rw [f1]; decide), ?_⟩
    refine ⟨fun h => ?_, fun h => absurd h (by show ¬ ((showF p1).2 == 0) = false; rw [b1]; decide)⟩
    refine ⟨(showF p1).1, .refl _, ?_⟩
    refine ⟨fun h => ?_, fun h => absurd h (by show ¬ ((⟨(showF p1).1.toArray⟩ : ByteArray).toList == (⟨#[99, 108, 97, 115, 115, 32, 65, 32, 123, 10, 125, 10]⟩ : ByteArray).toList) = false; rw [b2]; decide)⟩
    refine ⟨fun h => ?_, fun h => absurd h (by show ¬ ((typeF 5 l1).2 == 0) = false; rw [b3]; decide)⟩
    refine ⟨fun h => ?_, fun h => absurd h (by show ¬ ((txt (typeF 5 l1).1).toList == (⟨#[65, 91, 93]⟩ : ByteArray).toList) = false; rw [b4]; decide)⟩
    refine ⟨Cls, clsC, cls0, [cls0], ⟨rfl, fun _ => rfl⟩, ⟨.refl _, .refl _, .refl _, .nil .., .nil .., .nil .., trivial⟩, rfl, ?_⟩
    refine ⟨p2, ⟨.agg1 (.ownRow e2.symm), trivial⟩, rfl, (show prgD p2 by rw [e2]; exact ⟨by decide, fun c hc => by rw [List.mem_singleton.1 hc]; exact clsD_of _ (by decide)⟩), ?_⟩
    exact ⟨.toTT (by show ((if prgOk p2 then (0 : Int) else 4) == 4) = true; rw [a3]; rfl), rfl⟩
def ShowUnlike : Ctr := { A := List Cls × List Cls, enc := fun x => [.agg [prgR x.1], .agg [prgR x.2]], dom := fun _ => True, res := fun _ _ => .tt, gl := tabS }
def ShowParts : Ctr := { A := List Cls, enc := fun p => [.agg [prgR p]], dom := fun _ => True, res := fun _ _ => .tt, gl := tabS }
end Go.Proofs.YtadimoijlgmecaaGreatDoor.Ax
/- Layer show: ShowBack. -/
set_option linter.unusedVariables false
set_option linter.unusedSimpArgs false
namespace Go.Proofs.YtadimoijlgmecaaGreatDoor.Ax
open Go Go.RowKit
def ShowBack : Ctr := { A := List Cls, enc := fun p => [.agg [prgR p]], dom := fun _ => True, res := fun _ _ => .tt, gl := tabP }
end Go.Proofs.YtadimoijlgmecaaGreatDoor.Ax
/- Layer show: the lines of a text; ShowLines. -/
set_option linter.unusedVariables false
set_option linter.unusedSimpArgs false
namespace Go.Proofs.YtadimoijlgmecaaGreatDoor.Ax
open Go Go.RowKit
end Go.Proofs.YtadimoijlgmecaaGreatDoor.Ax
/- Layer parse: ParseBlanks. -/
set_option linter.unusedVariables false
set_option linter.unusedSimpArgs false
namespace Go.Proofs.YtadimoijlgmecaaGreatDoor.Ax
open Go Go.RowKit
def ParseBlanks : Ctr := { A := List UInt8, enc := fun b => [.row UInt8 1 byteC 0 b], dom := fun b => True, res := fun _ _ => .tt, gl := tabP }
end Go.Proofs.YtadimoijlgmecaaGreatDoor.Ax
/- Layer parse: ParseCut. -/
set_option linter.unusedVariables false
set_option linter.unusedSimpArgs false
namespace Go.Proofs.YtadimoijlgmecaaGreatDoor.Ax
open Go Go.RowKit
namespace Rs
def rem (r : Rs) : List T3 := (r.L.drop r.i).map s3
/-- both are wrong alike, or what is left of the first is what is left of the second and X behind it -/
def Rel (X : List T3) (r s : Rs) : Prop := r.e = s.e ∧ (r.e = 0 → rem r = rem s ++ X)
def Halt (s : Rs) : Prop := (s.e = 0 ∧ s.L.length ≤ s.i) ∨ (s.e = 4 ∧ s.at' = s.n)
def Out (X : List T3) {α : Type} (a b : α × Rs) : Prop := (a.1 = b.1 ∧ Rel X a.2 b.2) ∨ (X ≠ [] ∧ Halt b.2)
def OutR (X : List T3) (a b : Rs) : Prop := Rel X a b ∨ (X ≠ [] ∧ Halt b)
theorem rem_nil {r : Rs} : rem r = [] ↔ r.L.length ≤ r.i := by simp [rem]
theorem rem_cons {r : Rs} {t : T3} {l : List T3} (h : rem r = t :: l) : r.i < r.L.length ∧ s3 (r.L.getD r.i tok0) = t ∧ rem r.step = l := by
  have hi : r.i < r.L.length := Nat.lt_of_not_le fun c => by rw [rem_nil.2 c] at h; cases h
  unfold rem at h
  rw [List.drop_eq_getElem_cons hi, List.map_cons] at h
  injection h with h1 h2
  refine ⟨hi, ?_, h2⟩
  have hg : r.L.getD r.i tok0 = r.L[r.i] := by simp [List.getD, hi]
  rw [hg]; exact h1
theorem look {X : List T3} {r s : Rs} (h : Rel X r s) : (X ≠ [] ∧ s.e = 0 ∧ s.L.length ≤ s.i) ∨ s3 r.next = s3 s.next := by
  by_cases he : r.e = 0
  · have hs : s.e = 0 := h.1 ▸ he
    have hr := h.2 he
    cases hm : rem s with
    | nil =>
      have hi := rem_nil.1 hm
      by_cases hX : X = []
      · right
        rw [hm, hX] at hr
        have hj := rem_nil.1 hr
        rw [next_none (fun c => by omega), next_none (fun c => by omega)]
      · exact .inl ⟨hX, hs, hi⟩
    | cons t l =>
      rw [hm] at hr
      obtain ⟨h1, h2, h3⟩ := rem_cons hm
      obtain ⟨k1, k2, k3⟩ := rem_cons (show rem r = t :: (l ++ X) from hr)
      right
      rw [next_some ⟨he, k1⟩, next_some ⟨hs, h1⟩, h2, k2]
  · right
    have hs : ¬ s.e = 0 := h.1 ▸ he
    rw [next_none (fun c => he c.1), next_none (fun c => hs c.1)]
theorem nx1 {r s : Rs} (h : s3 r.next = s3 s.next) : r.next.1 = s.next.1 := by have := congrArg Prod.fst h; exact this
theorem nx2 {r s : Rs} (h : s3 r.next = s3 s.next) : r.next.2.1 = s.next.2.1 := by have := congrArg (fun x => x.2.1) h; exact this
theorem is_eq {r s : Rs} (h : s3 r.next = s3 s.next) (w : ByteArray) : r.is w = s.is w := by unfold is; rw [nx2 h]
theorem free_eq {r s : Rs} (h : s3 r.next = s3 s.next) : r.free = s.free := by unfold free; rw [nx1 h, nx2 h]
theorem freshV_eq {r s : Rs} (h : s3 r.next = s3 s.next) : r.freshV = s.freshV := by unfold freshV; rw [free_eq h, nx2 h]
theorem step_rel {X : List T3} {r s : Rs} (h : Rel X r s) (k : s.e = 0 ∧ s.i < s.L.length) : Rel X r.step s.step := by
  refine ⟨h.1, fun he => ?_⟩
  have hr := h.2 he
  cases hm : rem s with
  | nil => have := rem_nil.1 hm; omega
  | cons t l =>
    rw [hm] at hr
    rw [(rem_cons hm).2.2, (rem_cons (show rem r = t :: (l ++ X) from hr)).2.2]
theorem fail_rel {X : List T3} {r s : Rs} (h : Rel X r s) {e : Int} (he : e ≠ 0) : Rel X (r.fail e) (s.fail e) := by
  by_cases h0 : r.e = 0
  · have h1 : s.e = 0 := h.1 ▸ h0
    have e1 : (r.fail e).e = e := by unfold fail; rw [if_pos h0]
    have e2 : (s.fail e).e = e := by unfold fail; rw [if_pos h1]
    exact ⟨by rw [e1, e2], fun c => absurd (e1 ▸ c) he⟩
  · have h1 : ¬ s.e = 0 := h.1 ▸ h0
    have e1 : r.fail e = r := by unfold fail; rw [if_neg h0]
    have e2 : s.fail e = s := by unfold fail; rw [if_neg h1]
    rw [e1, e2]; exact h
theorem room_rel {X : List T3} {r s : Rs} (h : Rel X r s) (a b : Int) : Rel X (r.room a b) (s.room a b) := by
  unfold room; split
  · exact fail_rel h (by decide)
  · exact h
theorem halt_next {s : Rs} (h : Halt s) : s.next = tok0 := next_none fun c => by
  rcases h with h | h
  · omega
  · have := c.1; have := h.1; omega
theorem halt_free {s : Rs} (h : Halt s) : s.free = false := by unfold free; rw [halt_next h]; rfl
theorem halt_fail {s : Rs} (h : Halt s) : Halt (s.fail 4) := by
  unfold fail
  split
  · rename_i h0
    rcases h with h | h
    · right; exact ⟨rfl, by show (if _ then _ else _) = _; rw [if_neg (by have := h.2; show ¬ s.i < s.L.length; omega)]⟩
    · exact absurd h0 (by rw [h.1]; decide)
  · exact h
theorem halt_fresh {s : Rs} (h : Halt s) : Halt s.fresh := by unfold fresh; rw [halt_free h]; exact halt_fail h
theorem fresh_out {X : List T3} {r s : Rs} (h : Rel X r s) : Out X (r.freshV, r.fresh) (s.freshV, s.fresh) := by
  rcases look h with k | k
  · exact .inr ⟨k.1, halt_fresh (.inl k.2)⟩
  · left
    refine ⟨freshV_eq k, ?_⟩
    show Rel X r.fresh s.fresh
    unfold fresh
    rw [free_eq k]
    split
    · exact step_rel h (free_at (by assumption))
    · exact fail_rel h (by decide)
theorem Out.bind {X : List T3} {α β : Type} {a b : α × Rs} {c d : β × Rs} (h : Out X a b) (g : a.1 = b.1 → Rel X a.2 b.2 → Out X c d) (k : Halt b.2 → Halt d.2) : Out X c d := by
  rcases h with h | h
  · exact g h.1 h.2
  · exact .inr ⟨h.1, k h.2⟩
theorem OutR.bind {X : List T3} {a b c d : Rs} (h : OutR X a b) (g : Rel X a b → OutR X c d) (k : Halt b → Halt d) : OutR X c d := by
  rcases h with h | h
  · exact g h
  · exact .inr ⟨h.1, k h.2⟩
theorem OutR.bindV {X : List T3} {β : Type} {a b : Rs} {c d : β × Rs} (h : OutR X a b) (g : Rel X a b → Out X c d) (k : Halt b → Halt d.2) : Out X c d := by
  rcases h with h | h
  · exact g h
  · exact .inr ⟨h.1, k h.2⟩
theorem Out.r {X : List T3} {α : Type} {a b : α × Rs} (h : Out X a b) : OutR X a.2 b.2 := h.elim (fun h => .inl h.2) .inr
/-- loops -/
def loop {γ : Type} (C : Rs → Bool) (G : Rs → γ → γ × Rs) : Nat → Rs → γ → γ × Rs
  | 0, r, c => (c, r)
  | f + 1, r, c => if C r then loop C G f (G r c).2 (G r c).1 else (c, r)
structure LoopOk (X : List T3) {γ : Type} (C : Rs → Bool) (G : Rs → γ → γ × Rs) : Prop where
  eq : ∀ {r s : Rs}, s3 r.next = s3 s.next → C r = C s
  now : ∀ {r : Rs}, C r = true → r.e = 0 ∧ r.i < r.L.length
  out : ∀ {r s : Rs} (c : γ), Rel X r s → C s = true → Out X (G r c) (G s c)
  fwd : ∀ {r : Rs} (c : γ), C r = true → Fwd r (G r c).2 ∧ ((G r c).2.e ≠ 0 ∨ r.i < (G r c).2.i)
def Room (f : Nat) (r : Rs) : Prop := r.e = 0 → (rem r).length < f
/-- names -/
theorem name1_out {X : List T3} {r s : Rs} (h : Rel X r s) (hs : s.e = 0 ∧ s.i < s.L.length) (k : Int) : OutR X (r.name1 k) (s.name1 k) := by
  have hp := step_rel h hs
  unfold name1
  rcases look hp with q | q
  · have hh : Halt s.step := .inl q.2
    rw [halt_free hh]
    exact .inr ⟨q.1, hh⟩
  · rw [free_eq q]
    split
    · exact .inl (room_rel hp _ _)
    · exact .inl hp
theorem names_ok (X : List T3) : LoopOk X (fun r => r.is wComma) (fun (r : Rs) (out : List ByteArray) => (out ++ [(r.name1 out.length).freshV], (r.name1 out.length).fresh)) where
  eq h := is_eq h _
  now h := is_at h
  out {r s} c h hc := (name1_out h (is_at hc) c.length).bindV (fun k => (fresh_out k).elim (fun q => .inl ⟨congrArg (fun x => c ++ [x]) q.1, q.2⟩) .inr) halt_fresh
  fwd {r} c hc := ⟨(name1_fwd (is_at hc) _).trans (fresh_fwd _), on_fwd (name1_on r _) (fresh_fwd _)⟩
theorem Out.of {X : List T3} {α : Type} {a b : α} {r s : Rs} (h : a = b) (k : OutR X r s) : Out X (a, r) (b, s) := k.elim (fun q => .inl ⟨h, q⟩) .inr
end Rs
namespace Rs
end Rs
def ParseCut : Ctr := { A := List UInt8 × Int, enc := fun x => [.row UInt8 1 byteC 0 x.1, I x.2], dom := fun _ => True, res := fun _ _ => .tt, gl := tabP }
end Go.Proofs.YtadimoijlgmecaaGreatDoor.Ax
/- Layer parse: ParseJoin, in plain Lean: two texts, one behind the other. -/
set_option linter.unusedVariables false
set_option linter.unusedSimpArgs false
namespace Go.Proofs.YtadimoijlgmecaaGreatDoor.Ax
open Go Go.RowKit
namespace Rs
end Rs
end Go.Proofs.YtadimoijlgmecaaGreatDoor.Ax
/- Layers parse and show: what is parsed can be shown. -/
set_option linter.unusedVariables false
set_option linter.unusedSimpArgs false
namespace Go.Proofs.YtadimoijlgmecaaGreatDoor.Ax
open Go Go.RowKit
namespace Rs
def Wd (r : Rs) : Prop := ∀ t ∈ r.L, wdOk t = true
theorem Wd.go {r s : Rs} (h : Wd r) (f : Fwd r s) : Wd s := by unfold Wd; rw [f.L]; exact h
end Rs
end Go.Proofs.YtadimoijlgmecaaGreatDoor.Ax
/- Layer show: ShowParsed. -/
set_option linter.unusedVariables false
set_option linter.unusedSimpArgs false
namespace Go.Proofs.YtadimoijlgmecaaGreatDoor.Ax
open Go Go.RowKit
theorem fresh_sz {s : ByteArray} (h : freshW s = true) : s.size ≤ 20 := by
  have h : freshF s.data.toList = true := h
  unfold freshF at h
  rw [Bool.and_eq_true] at h
  have := name_len h.1
  rw [sz_len] at this; exact this
theorem nil_sz {s : ByteArray} (h : s.data.toList = []) : s.size = 0 := by rw [← sz_len, h]; rfl
theorem ty_sz {t : Ty} (h : tyOk t = true) : t.2.size ≤ 20 := by
  have h : typedF t.1 t.2.data.toList = true := h
  unfold typedF at h
  split at h
  · rw [nil_sz (of_decide_eq_true h)]; omega
  · split at h
    · exact fresh_sz h
    · cases h
def ShowParsed : Ctr := { A := List UInt8, enc := fun b => [.row UInt8 1 byteC 0 b], dom := fun _ => True, res := fun _ _ => .tt, gl := tabP }
end Go.Proofs.YtadimoijlgmecaaGreatDoor.Ax
/- The reference's text of a method. PRINTED by wip/sp/ti.py. -/
set_option linter.unusedVariables false
set_option linter.unusedSimpArgs false
namespace Go.Proofs.YtadimoijlgmecaaGreatDoor.Ax
open Go Go.RowKit
theorem size_txt2 (l : List UInt8) : (txt l).size = l.length := size_txt l
theorem txt_of {x : ByteArray} {l : List UInt8} (h : x.data.toList = l) : x = txt l := by rw [← h]
theorem z_6d6574686f6420 : (⟨#[109, 101, 116, 104, 111, 100, 32]⟩ : ByteArray).size = 7 := rfl
theorem z_66756e6374696f6e20 : (⟨#[102, 117, 110, 99, 116, 105, 111, 110, 32]⟩ : ByteArray).size = 9 := rfl
theorem z_2028 : (⟨#[32, 40]⟩ : ByteArray).size = 2 := rfl
theorem z_202c : (⟨#[32, 44]⟩ : ByteArray).size = 2 := rfl
theorem z_20 : (⟨#[32]⟩ : ByteArray).size = 1 := rfl
theorem z_202920 : (⟨#[32, 41, 32]⟩ : ByteArray).size = 3 := rfl
theorem z_203b0a : (⟨#[32, 59, 10]⟩ : ByteArray).size = 3 := rfl
theorem z_206c6f63616c7320 : (⟨#[32, 108, 111, 99, 97, 108, 115, 32]⟩ : ByteArray).size = 8 := rfl
theorem z_207b0a : (⟨#[32, 123, 10]⟩ : ByteArray).size = 3 := rfl
theorem z_636174636820 : (⟨#[99, 97, 116, 99, 104, 32]⟩ : ByteArray).size = 6 := rfl
theorem z_7d0a : (⟨#[125, 10]⟩ : ByteArray).size = 2 := rfl
theorem z_696e74205b205d : (⟨#[105, 110, 116, 32, 91, 32, 93]⟩ : ByteArray).size = 7 := rfl
theorem z_205b205d : (⟨#[32, 91, 32, 93]⟩ : ByteArray).size = 4 := rfl
theorem z_766f6964 : (⟨#[118, 111, 105, 100]⟩ : ByteArray).size = 4 := rfl
theorem z_696e74 : (⟨#[105, 110, 116]⟩ : ByteArray).size = 3 := rfl
theorem z_5b : (⟨#[91]⟩ : ByteArray).size = 1 := rfl
theorem z_5d : (⟨#[93]⟩ : ByteArray).size = 1 := rfl
theorem sp_name {w : ByteArray} (h : nameF w.data.toList = true) : sepOf w = 32 := by
  unfold sepOf
  rw [if_neg]
  rintro (c | c | c) <;> rw [c] at h <;> exact absurd h (by decide +kernel)
theorem sp_fresh {w : ByteArray} (h : freshW w = true) : sepOf w = 32 := by
  have h : freshF w.data.toList = true := h
  unfold freshF at h
  rw [Bool.and_eq_true] at h
  exact sp_name h.1
theorem sp_dig (n : Int) : sepOf (dig n) = 32 := by
  have e : (dig n).data.toList = Lib.itoa n := by simp [dig, itoaB]
  have h10 : (dig n).data.toList.getD 0 0 = 45 ∨ isDig ((dig n).data.toList.getD 0 0) = true := by
    rw [e]
    rcases itoa_form n with ⟨b, r, e1, h1, h2⟩ | ⟨b, r, e1, h1, h2⟩ <;> rw [e1]
    · exact .inr h1
    · exact .inl rfl
  unfold sepOf
  rw [if_neg]
  rintro (c | c | c) <;> rw [c] at h10 <;> exact absurd h10 (by decide)
theorem sp_keys : sepOf wVoid = 32 ∧ sepOf wInt = 32 ∧ sepOf wLb = 32 ∧ sepOf wRb = 32 ∧ sepOf wLp = 32 ∧ sepOf wRp = 32 ∧ sepOf wComma = 32 ∧ sepOf wColon = 32 ∧ sepOf wLocals = 32 ∧ sepOf wCatch = 32 ∧ sepOf wField = 32 ∧ sepOf wStatic = 32 ∧ sepOf wMethod = 32 ∧ sepOf wFunction = 32 ∧ sepOf wClass = 32 ∧ sepOf wInterface = 32 ∧ sepOf wExtends = 32 ∧ sepOf wImplements = 32 ∧ sepOf wSemi = 10 ∧ sepOf wLc = 10 ∧ sepOf wRc = 10 := by decide +kernel
def P (ws : List ByteArray) : List UInt8 := ws.flatMap putW
theorem P_nil : P [] = [] := rfl
theorem P_cons (w : ByteArray) (r : List ByteArray) : P (w :: r) = w.data.toList ++ (sepOf w :: P r) := by unfold P; rw [List.flatMap_cons]; unfold putW; simp
theorem P_app (a b : List ByteArray) : P (a ++ b) = P a ++ P b := by unfold P; rw [List.flatMap_append]
theorem dig_l (n : Int) : (dig n).data.toList = Lib.itoa n := by simp [dig, itoaB]
def twL (t : Ty) : List UInt8 := if t.1 = 4 then [105, 110, 116, 32, 91, 32, 93] else if t.1 = 5 then t.2.data.toList ++ [32, 91, 32, 93] else ttL t
theorem tw_P {t : Ty} (h : tyOk t = true) : P (kindW t) = twL t ++ [32] ∧ (twL t).length ≤ 24 := by
  have h0 := h
  have h : typedF t.1 t.2.data.toList = true := h
  obtain ⟨s1, s2, s3, s4, -⟩ := sp_keys
  have e1 : (⟨#[118, 111, 105, 100]⟩ : ByteArray) = wVoid := rfl
  have e2 : (⟨#[105, 110, 116]⟩ : ByteArray) = wInt := rfl
  have e3 : (⟨#[91]⟩ : ByteArray) = wLb := rfl
  have e4 : (⟨#[93]⟩ : ByteArray) = wRb := rfl
  have d1 : wVoid.data.toList = [118, 111, 105, 100] := rfl
  have d2 : wInt.data.toList = [105, 110, 116] := rfl
  have d3 : wLb.data.toList = [91] := rfl
  have d4 : wRb.data.toList = [93] := rfl
  have tt : ttL t = sjoinF (kindF t.1 (txt t.2.data.toList)) ⟨#[]⟩ := by unfold ttL typeF; rw [if_pos h]
  unfold kindW twL
  by_cases k4 : t.1 = 4
  · rw [if_pos k4, k4]
    show P [wInt, wLb, wRb] = _ ∧ _
    simp only [P_cons, P_nil, s2, s3, s4, d2, d3, d4]
    exact ⟨rfl, by decide⟩
  · rw [if_neg k4]
    have hf : (t.1 = 3 ∨ t.1 = 5) → freshW t.2 = true := fun q => by
      unfold typedF at h
      rw [if_neg (by omega), if_pos q] at h; exact h
    by_cases k5 : t.1 = 5
    · rw [if_pos k5, k5]
      have hs := sp_fresh (hf (.inr k5))
      have hz := fresh_sz (hf (.inr k5))
      have hz : t.2.data.toList.length ≤ 20 := by rw [sz_len]; exact hz
      show P [t.2, wLb, wRb] = _ ∧ _
      simp only [P_cons, P_nil, hs, s3, s4, d3, d4]
      exact ⟨by simp, by simp only [List.length_append, List.length_cons, List.length_nil]; omega⟩
    · rw [if_neg k5, tt]
      by_cases k1 : t.1 = 1
      · rw [k1]
        show P [wVoid] = sjoinF [wVoid] _ ++ _ ∧ _
        simp only [P_cons, P_nil, s1, d1]
        exact ⟨rfl, (show (sjoinF [wVoid] ⟨#[]⟩).length ≤ 24 by decide)⟩
      · by_cases k2 : t.1 = 2
        · rw [k2]
          show P [wInt] = sjoinF [wInt] _ ++ _ ∧ _
          simp only [P_cons, P_nil, s2, d2]
          exact ⟨rfl, (show (sjoinF [wInt] ⟨#[]⟩).length ≤ 24 by decide)⟩
        · have k3 : t.1 = 3 := by
            unfold typedF at h
            rw [if_neg (by omega)] at h
            by_cases q : t.1 = 3 ∨ t.1 = 5
            · omega
            · rw [if_neg q] at h; cases h
          have hs := sp_fresh (hf (.inl k3))
          have hz := fresh_sz (hf (.inl k3))
          have hz : t.2.data.toList.length ≤ 20 := by rw [sz_len]; exact hz
          rw [k3]
          have e : sjoinF [t.2] ⟨#[]⟩ = t.2.data.toList := by unfold sjoinF; simp [Lib.join_cons, Lib.joinTail]
          show P [t.2] = sjoinF [t.2] ⟨#[]⟩ ++ _ ∧ (sjoinF [t.2] ⟨#[]⟩).length ≤ 24
          rw [e]
          simp only [P_cons, P_nil, hs]
          exact ⟨by first | trivial | rfl, by omega⟩
abbrev rtwC : Ctr := { A := Ty, enc := fun t => [tyS t], dom := fun t => t.2.size ≤ 4611686018427380000, res := fun t _ => X (twL t) }
set_option maxRecDepth 100000 in
theorem rtw_ok : CtrSound Tryz.prog 34 rtwC :=
  ctr_of_ax (env_ok tys_ok (eqs := []) trivial (cs := [(12, rttC)]) ⟨rtt_ok, trivial⟩) mixed _ Tryz.func34 (by kernel_rfl) rfl (fun _ _ => Nat.le_of_ble_eq_true rfl) fun ((k, s) : Ty) id hd => by
    have hd : s.size ≤ 4611686018427380000 := hd
    refine ⟨fun h => ?_, fun h => ?_⟩
    · exact ⟨(show Sub _ (X (twL (k, s))) by unfold twL; rw [if_pos (show ((k, s) : Ty).1 = 4 from eqT h)]; exact .str rfl), rfl⟩
    have n4 := eqF h
    refine ⟨fun h => ?_, fun h => ?_⟩
    · refine ⟨(show s.size + (⟨#[32, 91, 32, 93]⟩ : ByteArray).size < 4611686018427387904 by rw [z_205b205d]; omega), ?_⟩
      exact ⟨(show Sub _ (X (twL (k, s))) by unfold twL; rw [if_neg n4, if_pos (eqT h)]; exact .str (txt_of (by simp))), rfl⟩
    have n5 := eqF h
    refine ⟨(k, s), ⟨.refl _, trivial⟩, rfl, (show s.size ≤ 4611686018427387904 by omega), ?_⟩
    exact ⟨(show Sub _ (X (twL (k, s))) by unfold twL; rw [if_neg n4, if_neg n5]; exact .refl _), rfl⟩
abbrev rwordsC : Ctr := { A := Unit, enc := fun _ => [], dom := fun _ => True, res := fun _ _ => .row ByteArray 1 strC noS opsL }
set_option maxRecDepth 100000 in
theorem rwords_ok : CtrSound Tryz.prog 57 rwordsC :=
  ctr_of_ax (env_ok tys_ok (eqs := []) trivial (cs := []) trivial) mixed _ Tryz.func57 (by kernel_rfl) rfl (fun _ _ => Nat.le_of_ble_eq_true rfl) fun (_ : Unit) id hd => by
    refine ⟨ByteArray, strC, noS, opsL, ⟨rfl, fun _ => rfl⟩, ⟨.refl _, .refl _, .refl _, .refl _, .refl _, .refl _, .refl _, .refl _, .refl _, .refl _, .refl _, .refl _, .refl _, .refl _, .refl _, .refl _, .refl _, .refl _, .refl _, .refl _, .refl _, .refl _, .refl _, .refl _, .refl _, .refl _, .refl _, .refl _, .refl _, .refl _, .refl _, .refl _, .refl _, .refl _, .refl _, .refl _, .refl _, .refl _, .refl _, .refl _, .refl _, .refl _, .refl _, .refl _, trivial⟩, rfl, ?_⟩
    exact ⟨.ownRow rfl, rfl⟩
def codeQ (x : Ins) : List ByteArray := [wordF2 x.op] ++ ((if (numsF x.op).2.2 then [dig x.n] else []) ++ ((if x.a = noS then [] else [x.a]) ++ (if x.b = noS then [] else [x.b])))
theorem codeF_Q (x : Ins) : codeF x = codeQ x ++ [wSemi] := by unfold codeF codeQ; simp
theorem code_cases {x : Ins} (h : insOk x = true) : 0 ≤ x.op ∧ x.op ≤ 43 ∧
    (((shapeF x.op = 1 ∨ shapeF x.op = 2 ∨ shapeF x.op = 3) ∧ codeQ x = [wordF2 x.op, dig x.n] ∧ -2147483648 ≤ x.n ∧ x.n ≤ 2147483647) ∨
     (shapeF x.op = 4 ∧ codeQ x = [wordF2 x.op, x.a] ∧ freshW x.a = true) ∨ (shapeF x.op = 5 ∧ codeQ x = [wordF2 x.op, x.a, x.b] ∧ freshW x.a = true ∧ freshW x.b = true) ∨ (shapeF x.op = 0 ∧ codeQ x = [wordF2 x.op])) := by
  have h : instrF x.op x.n x.a.data.toList x.b.data.toList = true := h
  unfold instrF at h
  simp only [Bool.and_eq_true] at h
  obtain ⟨⟨⟨h1, h2⟩, h3⟩, h4⟩ := h
  have ho : 0 ≤ x.op ∧ x.op ≤ 43 := of_decide_eq_true h1
  refine ⟨ho.1, ho.2, ?_⟩
  obtain ⟨k, hk⟩ : ∃ k : Nat, x.op = k := ⟨x.op.toNat, by omega⟩
  have hz := shape_nums k (by omega)
  rw [← hk] at hz
  have em : ∀ {s : ByteArray}, namedF s.data.toList false = true → s = noS := fun h => ba_nil.2 (of_decide_eq_true (by simpa [namedF] using h))
  have fr : ∀ {s : ByteArray}, namedF s.data.toList true = true → freshW s = true := fun h => h
  have lo : (decide ((0 : Int) > 0)) = false ∧ decide ((0 : Int) > 1) = false ∧ decide ((1 : Int) > 0) = true ∧ decide ((1 : Int) > 1) = false ∧ decide ((2 : Int) > 0) = true ∧ decide ((2 : Int) > 1) = true := by decide
  unfold codeQ
  rcases hz with ⟨a, b, c⟩ | ⟨a, b, c⟩ | ⟨a, b, c⟩ | ⟨a, b, c⟩ | ⟨a, b, c⟩ | ⟨a, b, c⟩ <;> rw [c] at h3 h4 <;> rw [b] at h2 ⊢
  · rw [lo.1] at h3; rw [lo.2.1] at h4
    rw [em h3, em h4]
    have h2 := of_decide_eq_true h2
    exact .inl ⟨.inl a, by simp, h2.1, h2.2⟩
  · rw [lo.1] at h3; rw [lo.2.1] at h4
    rw [em h3, em h4]
    have h2 : 0 ≤ x.n ∧ x.n ≤ 7 := of_decide_eq_true h2
    exact .inl ⟨.inr (.inl a), by simp, by omega, by omega⟩
  · rw [lo.1] at h3; rw [lo.2.1] at h4
    rw [em h3, em h4]
    have h2 : 0 ≤ x.n ∧ x.n ≤ 47 := of_decide_eq_true h2
    exact .inl ⟨.inr (.inr a), by simp, by omega, by omega⟩
  · rw [lo.2.2.1] at h3; rw [lo.2.2.2.1] at h4
    rw [em h4]
    exact .inr (.inl ⟨a, by simp [fresh_noS (fr h3)], fr h3⟩)
  · rw [lo.2.2.2.2.1] at h3; rw [lo.2.2.2.2.2] at h4
    exact .inr (.inr (.inl ⟨a, by simp [fresh_noS (fr h3), fresh_noS (fr h4)], fr h3, fr h4⟩))
  · rw [lo.1] at h3; rw [lo.2.1] at h4
    rw [em h3, em h4]
    exact .inr (.inr (.inr ⟨a, by simp⟩))
abbrev rmtC : Ctr := { A := Meth, enc := fun m => [.agg (methC m)], dom := fun m => methOk m = true, res := fun m _ => X (P (doesF m)) }
set_option maxRecDepth 100000 in
set_option maxHeartbeats 4000000 in
theorem rmt_ok : CtrSound Tryz.prog 35 rmtC :=
  ctr_of_ax (env_okB tys_ok (eqs := []) trivial (cs := [(34, rtwC), (56, digitsC), (57, rwordsC), (58, rshapeC)]) ⟨rtw_ok, digits_ok, rwords_ok, rshape_ok, trivial⟩ (bs := []) trivial (cut := [4, 30])) mixed _ Tryz.func35 (by kernel_rfl) rfl (fun _ _ => Nat.le_of_ble_eq_true rfl) fun (m : Meth) id hd => by
    obtain ⟨-, p2, p3, p4, p5, p6, p7⟩ := meth_parts hd
    have nz := fresh_sz p2
    have nl : m.name.data.toList.length ≤ 20 := by rw [sz_len]; exact nz
    obtain ⟨s1, s2, s3, s4, s5, s6, s7, s8, s9, s10, s11, s12, s13, s14, s15, s16, s17, s18, s19, s20, s21⟩ := sp_keys
    have sn := sp_fresh p2
    have b5 : wLp.data.toList = [40] := rfl
    have b6 : wRp.data.toList = [41] := rfl
    have b7 : wComma.data.toList = [44] := rfl
    have b9 : wLocals.data.toList = [108, 111, 99, 97, 108, 115] := rfl
    have b10 : wCatch.data.toList = [99, 97, 116, 99, 104] := rfl
    have b13 : wMethod.data.toList = [109, 101, 116, 104, 111, 100] := rfl
    have b14 : wFunction.data.toList = [102, 117, 110, 99, 116, 105, 111, 110] := rfl
    have b19 : wSemi.data.toList = [59] := rfl
    have b20 : wLc.data.toList = [123] := rfl
    have b21 : wRc.data.toList = [125] := rfl
    have hres : ∀ (x : ByteArray) (l : List UInt8), x = txt l → P (doesF m) = l → Sub (S x) (X (P (doesF m))) := fun x l h1 h2 => by rw [h2]; exact .str h1
    obtain ⟨kl, ekl⟩ : ∃ kl : List UInt8, kl = (if m.static then [102, 117, 110, 99, 116, 105, 111, 110, 32] else [109, 101, 116, 104, 111, 100, 32]) := ⟨_, rfl⟩
    have kll : kl.length ≤ 9 := by rw [ekl]; split <;> decide
    have hkP : P [if m.static then wFunction else wMethod] = kl := by
      rw [ekl, P_cons, P_nil]
      cases m.static
      · simp [s13, b13]
      · simp [s14, b14]
    refine ⟨Unit, fun _ => [(1, .box 1 0), (3, S (txt kl))], fun _ => [(1, methC m)], fun _ => True, ?_, fun _ _ => ?_⟩
    · refine ⟨fun h => ?_, fun h => ?_⟩
      · exact ⟨(), trivial, ⟨rfl, rfl⟩, .refl _, .str (by rw [ekl, if_pos h]), ⟨.refl _, .refl _, .refl _, .refl _, .refl _, .refl _, .refl _, .refl _, .refl _, trivial⟩, trivial⟩
      · exact ⟨(), trivial, ⟨rfl, rfl⟩, .refl _, .str (by rw [ekl, if_neg (by rw [show m.static = false from h]; decide)]), ⟨.refl _, .refl _, .refl _, .refl _, .refl _, .refl _, .refl _, .refl _, .refl _, trivial⟩, trivial⟩
    refine ⟨(show (txt kl).size + (m.name).size < 4611686018427387904 by simp only [ByteArray.size_append, size_txt, size_txt2, List.length_cons, List.length_nil, z_6d6574686f6420, z_66756e6374696f6e20, z_2028, z_202c, z_20, z_202920, z_203b0a, z_206c6f63616c7320, z_207b0a, z_636174636820, z_7d0a, z_696e74205b205d, z_205b205d, z_766f6964, z_696e74, z_5b, z_5d]; omega), ?_⟩
    refine ⟨(show (txt kl ++ m.name).size + (⟨#[32, 40]⟩ : ByteArray).size < 4611686018427387904 by simp only [ByteArray.size_append, size_txt, size_txt2, List.length_cons, List.length_nil, z_6d6574686f6420, z_66756e6374696f6e20, z_2028, z_202c, z_20, z_202920, z_203b0a, z_206c6f63616c7320, z_207b0a, z_636174636820, z_7d0a, z_696e74205b205d, z_205b205d, z_766f6964, z_696e74, z_5b, z_5d]; omega), ?_⟩
    refine ⟨Nat × List UInt8, fun x => [(1, .box 1 0), (3, S (txt x.2)), (4, I x.1)], fun _ => [(1, methC m)], fun x => x.1 ≤ m.params.length ∧ P ([if m.static then wFunction else wMethod, m.name, wLp] ++ paramsF (m.params.take x.1)) = x.2 ++ [32] ∧ x.2.length ≤ 40 + 40 * x.1, fun x => m.params.length - x.1,
      ⟨(0, kl ++ m.name.data.toList ++ [32, 40]), ⟨Nat.zero_le _, (by
        show P ([if m.static then wFunction else wMethod, m.name, wLp] ++ []) = (kl ++ m.name.data.toList ++ [32, 40]) ++ [32]
        rw [List.append_nil, show [if m.static then wFunction else wMethod, m.name, wLp] = [if m.static then wFunction else wMethod] ++ [m.name, wLp] from rfl, P_app, hkP]
        simp [-List.getD_eq_getElem?_getD, P_cons, P_nil, sn, s5, b5]), (by simp only [List.length_append, List.length_cons, List.length_nil]; omega)⟩, ⟨⟨rfl, rfl⟩, .refl _, .str (txt_of (by simp)), .refl _, ⟨.refl _, .refl _, .refl _, .refl _, .refl _, .refl _, .refl _, .refl _, .refl _, trivial⟩, trivial⟩⟩, fun ((i, l) : Nat × List UInt8) hx => ?_⟩
    obtain ⟨hi1, hQ, hll⟩ : i ≤ m.params.length ∧ P ([if m.static then wFunction else wMethod, m.name, wLp] ++ paramsF (m.params.take i)) = l ++ [32] ∧ l.length ≤ 40 + 40 * i := hx
    have hpl := p3.1
    have hwj : IntKind.i64.wrap ((i : Int) + 1) = ((i + 1 : Nat) : Int) := by rw [wrap_eq _ (by omega) (by omega)]; omega
    refine ⟨fun h => ?_, fun h => ?_⟩
    · have hlt : i < m.params.length := dlt h
      have hty := p3.2 _ (getT_mem m.params ty0 i hlt)
      obtain ⟨tP, tl⟩ := tw_P hty
      have tz := ty_sz hty
      have hsn := paramsF_snoc m.params i hlt
      refine ⟨fun h => ?_, fun h => ?_⟩
      · have h0 : i ≠ 0 := by have h : decide ((i : Int) > 0) = true := h; have := of_decide_eq_true h; omega
        refine ⟨(show (txt l).size + ((⟨#[32, 44]⟩ : ByteArray)).size < 4611686018427387904 by simp only [ByteArray.size_append, size_txt, size_txt2, List.length_cons, List.length_nil, z_6d6574686f6420, z_66756e6374696f6e20, z_2028, z_202c, z_20, z_202920, z_203b0a, z_206c6f63616c7320, z_207b0a, z_636174636820, z_7d0a, z_696e74205b205d, z_205b205d, z_766f6964, z_696e74, z_5b, z_5d]; omega), ?_⟩
        refine ⟨(show (txt l ++ (⟨#[32, 44]⟩ : ByteArray)).size + ((⟨#[32]⟩ : ByteArray)).size < 4611686018427387904 by simp only [ByteArray.size_append, size_txt, size_txt2, List.length_cons, List.length_nil, z_6d6574686f6420, z_66756e6374696f6e20, z_2028, z_202c, z_20, z_202920, z_203b0a, z_206c6f63616c7320, z_207b0a, z_636174636820, z_7d0a, z_696e74205b205d, z_205b205d, z_766f6964, z_696e74, z_5b, z_5d]; omega), ?_⟩
        refine ⟨⟨by omega, by omega⟩, ?_⟩
        refine ⟨m.params.getD i ty0, ⟨.refl _, trivial⟩, rfl, (show (m.params.getD i ty0).2.size ≤ 4611686018427380000 by omega), ?_⟩
        refine ⟨(show (txt l ++ (⟨#[32, 44]⟩ : ByteArray) ++ (⟨#[32]⟩ : ByteArray)).size + (txt (twL (m.params.getD i ty0))).size < 4611686018427387904 by simp only [ByteArray.size_append, size_txt, size_txt2, List.length_cons, List.length_nil, z_6d6574686f6420, z_66756e6374696f6e20, z_2028, z_202c, z_20, z_202920, z_203b0a, z_206c6f63616c7320, z_207b0a, z_636174636820, z_7d0a, z_696e74205b205d, z_205b205d, z_766f6964, z_696e74, z_5b, z_5d]; omega), ?_⟩
        exact ⟨(i + 1, l ++ [32, 44] ++ [32] ++ twL (m.params.getD i ty0)), ⟨hlt, (by
          show P ([if m.static then wFunction else wMethod, m.name, wLp] ++ paramsF (m.params.take (i + 1))) = _ ++ [32]
          rw [hsn, if_neg h0, ← List.append_assoc, P_app, hQ, P_app, tP]
          simp [-List.getD_eq_getElem?_getD, P_cons, P_nil, s7, b7]), (by simp only [List.length_append, List.length_cons, List.length_nil]; omega)⟩, (show m.params.length - (i + 1) < m.params.length - i by omega), ⟨rfl, rfl⟩, .refl _, .str (txt_of (by simp)), .int hwj, ⟨.refl _, .refl _, .refl _, .refl _, .refl _, .refl _, .refl _, .refl _, .refl _, trivial⟩, trivial⟩
      · have h0 : i = 0 := by have h : decide ((i : Int) > 0) = false := h; have := of_decide_eq_false h; omega
        refine ⟨(show (txt l).size + ((⟨#[32]⟩ : ByteArray)).size < 4611686018427387904 by simp only [ByteArray.size_append, size_txt, size_txt2, List.length_cons, List.length_nil, z_6d6574686f6420, z_66756e6374696f6e20, z_2028, z_202c, z_20, z_202920, z_203b0a, z_206c6f63616c7320, z_207b0a, z_636174636820, z_7d0a, z_696e74205b205d, z_205b205d, z_766f6964, z_696e74, z_5b, z_5d]; omega), ?_⟩
        refine ⟨⟨by omega, by omega⟩, ?_⟩
        refine ⟨m.params.getD i ty0, ⟨.refl _, trivial⟩, rfl, (show (m.params.getD i ty0).2.size ≤ 4611686018427380000 by omega), ?_⟩
        refine ⟨(show (txt l ++ (⟨#[32]⟩ : ByteArray)).size + (txt (twL (m.params.getD i ty0))).size < 4611686018427387904 by simp only [ByteArray.size_append, size_txt, size_txt2, List.length_cons, List.length_nil, z_6d6574686f6420, z_66756e6374696f6e20, z_2028, z_202c, z_20, z_202920, z_203b0a, z_206c6f63616c7320, z_207b0a, z_636174636820, z_7d0a, z_696e74205b205d, z_205b205d, z_766f6964, z_696e74, z_5b, z_5d]; omega), ?_⟩
        exact ⟨(i + 1, l ++ [32] ++ twL (m.params.getD i ty0)), ⟨hlt, (by
          show P ([if m.static then wFunction else wMethod, m.name, wLp] ++ paramsF (m.params.take (i + 1))) = _ ++ [32]
          rw [hsn, if_pos h0, ← List.append_assoc, P_app, hQ, P_app, tP]
          simp [P_nil]), (by simp only [List.length_append, List.length_cons, List.length_nil]; omega)⟩, (show m.params.length - (i + 1) < m.params.length - i by omega), ⟨rfl, rfl⟩, .refl _, .str (txt_of (by simp)), .int hwj, ⟨.refl _, .refl _, .refl _, .refl _, .refl _, .refl _, .refl _, .refl _, .refl _, trivial⟩, trivial⟩
    have hge : i = m.params.length := Nat.le_antisymm hi1 (dge h)
    rw [hge, List.take_length] at hQ
    obtain ⟨tP, tl⟩ := tw_P p4
    have tz := ty_sz p4
    refine ⟨(show (txt l).size + ((⟨#[32, 41, 32]⟩ : ByteArray)).size < 4611686018427387904 by simp only [ByteArray.size_append, size_txt, size_txt2, List.length_cons, List.length_nil, z_6d6574686f6420, z_66756e6374696f6e20, z_2028, z_202c, z_20, z_202920, z_203b0a, z_206c6f63616c7320, z_207b0a, z_636174636820, z_7d0a, z_696e74205b205d, z_205b205d, z_766f6964, z_696e74, z_5b, z_5d]; omega), ?_⟩
    refine ⟨m.ret, ⟨.refl _, trivial⟩, rfl, (show m.ret.2.size ≤ 4611686018427380000 by omega), ?_⟩
    refine ⟨(show (txt l ++ (⟨#[32, 41, 32]⟩ : ByteArray)).size + (txt (twL m.ret)).size < 4611686018427387904 by simp only [ByteArray.size_append, size_txt, size_txt2, List.length_cons, List.length_nil, z_6d6574686f6420, z_66756e6374696f6e20, z_2028, z_202c, z_20, z_202920, z_203b0a, z_206c6f63616c7320, z_207b0a, z_636174636820, z_7d0a, z_696e74205b205d, z_205b205d, z_766f6964, z_696e74, z_5b, z_5d]; omega), ?_⟩
    obtain ⟨l1, el1⟩ : ∃ l1 : List UInt8, l1 = l ++ [32, 41, 32] ++ twL m.ret := ⟨_, rfl⟩
    have l1l : l1.length ≤ 240 := by rw [el1]; simp only [List.length_append, List.length_cons, List.length_nil]; omega
    have e1 : txt l ++ (⟨#[32, 41, 32]⟩ : ByteArray) ++ txt (twL m.ret) = txt l1 := txt_of (by rw [el1]; simp)
    have hQ1 : P ([if m.static then wFunction else wMethod, m.name, wLp] ++ paramsF m.params ++ ([wRp] ++ kindW m.ret)) = l1 ++ [32] := by
      rw [P_app, hQ, P_app, tP, el1]; simp [-List.getD_eq_getElem?_getD, P_cons, P_nil, s6, b6]
    have hdo : doesF m = ([if m.static then wFunction else wMethod, m.name, wLp] ++ paramsF m.params ++ ([wRp] ++ kindW m.ret)) ++ (if m.abs then [wSemi] else [wLocals, dig m.locals, wLc] ++ (m.code.flatMap codeF ++ (m.catches.flatMap catF ++ [wRc]))) := by
      unfold doesF; simp only [List.append_assoc]
    refine ⟨fun h => ?_, fun h => ?_⟩
    · have ha : m.abs = true := h
      refine ⟨(show (txt l ++ (⟨#[32, 41, 32]⟩ : ByteArray) ++ txt (twL m.ret)).size + ((⟨#[32, 59, 10]⟩ : ByteArray)).size < 4611686018427387904 by simp only [ByteArray.size_append, size_txt, size_txt2, List.length_cons, List.length_nil, z_6d6574686f6420, z_66756e6374696f6e20, z_2028, z_202c, z_20, z_202920, z_203b0a, z_206c6f63616c7320, z_207b0a, z_636174636820, z_7d0a, z_696e74205b205d, z_205b205d, z_766f6964, z_696e74, z_5b, z_5d]; omega), ?_⟩
      exact ⟨hres _ (l1 ++ [32, 59, 10]) (txt_of (by rw [el1]; simp)) (by rw [hdo, P_app, hQ1, ha]; simp [-List.getD_eq_getElem?_getD, P_cons, P_nil, s19, b19]), rfl⟩
    have ha : m.abs = false := h
    refine ⟨(show (txt l ++ (⟨#[32, 41, 32]⟩ : ByteArray) ++ txt (twL m.ret)).size + ((⟨#[32, 108, 111, 99, 97, 108, 115, 32]⟩ : ByteArray)).size < 4611686018427387904 by simp only [ByteArray.size_append, size_txt, size_txt2, List.length_cons, List.length_nil, z_6d6574686f6420, z_66756e6374696f6e20, z_2028, z_202c, z_20, z_202920, z_203b0a, z_206c6f63616c7320, z_207b0a, z_636174636820, z_7d0a, z_696e74205b205d, z_205b205d, z_766f6964, z_696e74, z_5b, z_5d]; omega), ?_⟩
    refine ⟨m.locals, ⟨.refl _, trivial⟩, rfl, (show -4611686018427387904 ≤ m.locals ∧ m.locals ≤ 4611686018427387904 by omega), ?_⟩
    have dl : (Lib.itoa m.locals).length ≤ 21 := dig_lt m.locals (by omega) (by omega)
    refine ⟨(show (txt l ++ (⟨#[32, 41, 32]⟩ : ByteArray) ++ txt (twL m.ret) ++ (⟨#[32, 108, 111, 99, 97, 108, 115, 32]⟩ : ByteArray)).size + (txt (Lib.itoa m.locals)).size < 4611686018427387904 by simp only [ByteArray.size_append, size_txt, size_txt2, List.length_cons, List.length_nil, z_6d6574686f6420, z_66756e6374696f6e20, z_2028, z_202c, z_20, z_202920, z_203b0a, z_206c6f63616c7320, z_207b0a, z_636174636820, z_7d0a, z_696e74205b205d, z_205b205d, z_766f6964, z_696e74, z_5b, z_5d]; omega), ?_⟩
    refine ⟨(show (txt l ++ (⟨#[32, 41, 32]⟩ : ByteArray) ++ txt (twL m.ret) ++ (⟨#[32, 108, 111, 99, 97, 108, 115, 32]⟩ : ByteArray) ++ txt (Lib.itoa m.locals)).size + ((⟨#[32, 123, 10]⟩ : ByteArray)).size < 4611686018427387904 by simp only [ByteArray.size_append, size_txt, size_txt2, List.length_cons, List.length_nil, z_6d6574686f6420, z_66756e6374696f6e20, z_2028, z_202c, z_20, z_202920, z_203b0a, z_206c6f63616c7320, z_207b0a, z_636174636820, z_7d0a, z_696e74205b205d, z_205b205d, z_766f6964, z_696e74, z_5b, z_5d]; omega), ?_⟩
    refine ⟨(), trivial, rfl, trivial, ?_⟩
    obtain ⟨W2, eW2⟩ : ∃ W2 : List ByteArray, W2 = ([if m.static then wFunction else wMethod, m.name, wLp] ++ paramsF m.params ++ ([wRp] ++ kindW m.ret)) ++ [wLocals, dig m.locals, wLc] := ⟨_, rfl⟩
    obtain ⟨l2, el2⟩ : ∃ l2 : List UInt8, l2 = l1 ++ [32, 108, 111, 99, 97, 108, 115, 32] ++ Lib.itoa m.locals ++ [32, 123, 10] := ⟨_, rfl⟩
    have hP2 : P W2 = l2 := by
      rw [eW2, P_app, hQ1, el2]; simp [-List.getD_eq_getElem?_getD, P_cons, P_nil, s9, s20, sp_dig, b9, b20, dig_l]
    have l2l : l2.length ≤ 300 := by rw [el2]; simp only [List.length_append, List.length_cons, List.length_nil]; omega
    have hdo2 : doesF m = W2 ++ (m.code.flatMap codeF ++ (m.catches.flatMap catF ++ [wRc])) := by rw [hdo, ha, eW2]; simp
    have ol : opsL.length = 44 := by decide +kernel
    refine ⟨Nat × List UInt8, fun x => [(1, .box 1 0), (3, S (txt x.2)), (5, .row ByteArray 1 strC noS opsL), (6, I x.1)], fun _ => [(1, methC m)], fun x => x.1 ≤ m.code.length ∧ P (W2 ++ (m.code.take x.1).flatMap codeF) = x.2 ∧ x.2.length ≤ 300 + 100 * x.1, fun x => m.code.length - x.1,
      ⟨(0, l2), ⟨Nat.zero_le _, (by show P (W2 ++ []) = l2; rw [List.append_nil]; exact hP2), (by show l2.length ≤ 300 + 100 * 0; omega)⟩, ⟨⟨rfl, rfl⟩, .refl _, .str (txt_of (by rw [el2, el1]; simp)), .refl _, .refl _, ⟨.refl _, .refl _, .refl _, .refl _, .refl _, .refl _, .refl _, .refl _, .refl _, trivial⟩, trivial⟩⟩, fun ((j, q) : Nat × List UInt8) hx => ?_⟩
    obtain ⟨hj1, hQj, hqj⟩ : j ≤ m.code.length ∧ P (W2 ++ (m.code.take j).flatMap codeF) = q ∧ q.length ≤ 300 + 100 * j := hx
    have hcl := p6.1
    have hwj : IntKind.i64.wrap ((j : Int) + 1) = ((j + 1 : Nat) : Int) := by rw [wrap_eq _ (by omega) (by omega)]; omega
    refine ⟨fun h => ?_, fun h => ?_⟩
    · have hlt : j < m.code.length := dlt h
      obtain ⟨x, ex⟩ : ∃ x, x = m.code.getD j ins0 := ⟨_, rfl⟩
      have hxo : insOk x = true := by rw [ex]; exact p6.2 _ (getT_mem m.code ins0 j hlt)
      obtain ⟨o1, o2, ocase⟩ := code_cases hxo
      have hsn : (m.code.take (j + 1)).flatMap codeF = (m.code.take j).flatMap codeF ++ codeF x := by rw [flat_snoc codeF m.code ins0 j hlt, ex]
      have wn := (word_op o1 o2).1
      have wl : (wordF2 x.op).data.toList.length ≤ 20 := name_len wn
      have we : opsL.getD x.op.toNat noS = wordF2 x.op := by unfold wordF2; rw [if_neg (by omega)]
      have wz : (opsL.getD x.op.toNat noS).size ≤ 20 := by rw [we, ← sz_len]; exact wl
      have ws := sp_name wn
      refine ⟨⟨by omega, by omega⟩, ?_⟩
      have ei : (m.code.getD (j : Int).toNat ins0).op = x.op := by rw [ex]; rfl
      refine ⟨(show 0 ≤ (m.code.getD (j : Int).toNat ins0).op ∧ (m.code.getD (j : Int).toNat ins0).op < ((opsL.length : Nat) : Int) by rw [ei, ol]; omega), ?_⟩
      refine ⟨(show (txt q).size + (opsL.getD (m.code.getD (j : Int).toNat ins0).op.toNat noS).size < 4611686018427387904 by rw [ei, size_txt2]; omega), ?_⟩
      refine ⟨List UInt8, fun l => [(1, .box 1 0), (3, S (txt l)), (5, .row ByteArray 1 strC noS opsL), (6, I j)], fun _ => [(1, methC m)], fun l => P (W2 ++ (m.code.take j).flatMap codeF ++ codeQ x) = l ++ [32] ∧ l.length ≤ 300 + 100 * j + 70, ?_, fun (l : List UInt8) hl => ?_⟩
      · have fin : ∀ (b : ByteArray) (l : List UInt8), b.data.toList = l → P (W2 ++ (m.code.take j).flatMap codeF ++ codeQ x) = l ++ [32] → l.length ≤ 300 + 100 * j + 70 → ∃ y : List UInt8, (P (W2 ++ (m.code.take j).flatMap codeF ++ codeQ x) = y ++ [32] ∧ y.length ≤ 300 + 100 * j + 70) ∧ b = txt y := fun b l h1 h2 h3 => ⟨l, ⟨h2, h3⟩, txt_of h1⟩
        subst ex
        refine ⟨(m.code.getD j ins0).op, ⟨.refl _, trivial⟩, rfl, trivial, ?_⟩
        have vn : -2147483648 ≤ (m.code.getD j ins0).n ∧ (m.code.getD j ins0).n ≤ 2147483647 → (Lib.itoa (m.code.getD j ins0).n).length ≤ 21 := fun h => dig_lt _ (by omega) (by omega)
        refine ⟨fun h1 => ?_, fun h1 => ?_⟩
        · have k1 := eqT h1
          obtain ⟨oc, vn2⟩ : (codeQ (m.code.getD j ins0) = [wordF2 (m.code.getD j ins0).op, dig (m.code.getD j ins0).n] ∧ -2147483648 ≤ (m.code.getD j ins0).n ∧ (m.code.getD j ins0).n ≤ 2147483647) ∧ (Lib.itoa (m.code.getD j ins0).n).length ≤ 21 := by
            rcases ocase with ⟨-, c⟩ | ⟨c, -⟩ | ⟨c, -⟩ | ⟨c, -⟩
            · exact ⟨c, vn c.2⟩
            all_goals omega
          have on := oc.2
          refine ⟨fun _ => ?_, fun c => absurd (h1.symm.trans c) (by decide)⟩
          refine ⟨(show (txt q ++ opsL.getD (m.code.getD j ins0).op.toNat noS).size + ((⟨#[32]⟩ : ByteArray)).size < 4611686018427387904 by simp only [ByteArray.size_append, size_txt, size_txt2, List.length_cons, List.length_nil, z_6d6574686f6420, z_66756e6374696f6e20, z_2028, z_202c, z_20, z_202920, z_203b0a, z_206c6f63616c7320, z_207b0a, z_636174636820, z_7d0a, z_696e74205b205d, z_205b205d, z_766f6964, z_696e74, z_5b, z_5d]; omega), ?_⟩
          refine ⟨(m.code.getD j ins0).n, ⟨.refl _, trivial⟩, rfl, (show -4611686018427387904 ≤ (m.code.getD j ins0).n ∧ (m.code.getD j ins0).n ≤ 4611686018427387904 by omega), ?_⟩
          refine ⟨(show (txt q ++ opsL.getD (m.code.getD j ins0).op.toNat noS ++ (⟨#[32]⟩ : ByteArray)).size + (txt (Lib.itoa (m.code.getD j ins0).n)).size < 4611686018427387904 by simp only [ByteArray.size_append, size_txt, size_txt2, List.length_cons, List.length_nil, z_6d6574686f6420, z_66756e6374696f6e20, z_2028, z_202c, z_20, z_202920, z_203b0a, z_206c6f63616c7320, z_207b0a, z_636174636820, z_7d0a, z_696e74205b205d, z_205b205d, z_766f6964, z_696e74, z_5b, z_5d]; omega), ?_⟩
          exact ⟨q ++ (wordF2 (m.code.getD j ins0).op).data.toList ++ [32] ++ Lib.itoa (m.code.getD j ins0).n, ⟨(by rw [P_app, hQj, oc.1]; simp [-List.getD_eq_getElem?_getD, P_cons, P_nil, ws, sp_dig, dig_l]), (by simp only [List.length_append, List.length_cons, List.length_nil]; omega)⟩, ⟨rfl, rfl⟩, .refl _, .str (txt_of (by rw [← we]; simp)), .refl _, .refl _, ⟨.refl _, .refl _, .refl _, .refl _, .refl _, .refl _, .refl _, .refl _, .refl _, trivial⟩, trivial⟩
        have k1 := eqF h1
        refine ⟨fun h2 => ?_, fun h2 => ?_⟩
        · have k2 := eqT h2
          obtain ⟨oc, vn2⟩ : (codeQ (m.code.getD j ins0) = [wordF2 (m.code.getD j ins0).op, dig (m.code.getD j ins0).n] ∧ -2147483648 ≤ (m.code.getD j ins0).n ∧ (m.code.getD j ins0).n ≤ 2147483647) ∧ (Lib.itoa (m.code.getD j ins0).n).length ≤ 21 := by
            rcases ocase with ⟨-, c⟩ | ⟨c, -⟩ | ⟨c, -⟩ | ⟨c, -⟩
            · exact ⟨c, vn c.2⟩
            all_goals omega
          have on := oc.2
          refine ⟨fun _ => ?_, fun c => absurd (h2.symm.trans c) (by decide)⟩
          refine ⟨(show (txt q ++ opsL.getD (m.code.getD j ins0).op.toNat noS).size + ((⟨#[32]⟩ : ByteArray)).size < 4611686018427387904 by simp only [ByteArray.size_append, size_txt, size_txt2, List.length_cons, List.length_nil, z_6d6574686f6420, z_66756e6374696f6e20, z_2028, z_202c, z_20, z_202920, z_203b0a, z_206c6f63616c7320, z_207b0a, z_636174636820, z_7d0a, z_696e74205b205d, z_205b205d, z_766f6964, z_696e74, z_5b, z_5d]; omega), ?_⟩
          refine ⟨(m.code.getD j ins0).n, ⟨.refl _, trivial⟩, rfl, (show -4611686018427387904 ≤ (m.code.getD j ins0).n ∧ (m.code.getD j ins0).n ≤ 4611686018427387904 by omega), ?_⟩
          refine ⟨(show (txt q ++ opsL.getD (m.code.getD j ins0).op.toNat noS ++ (⟨#[32]⟩ : ByteArray)).size + (txt (Lib.itoa (m.code.getD j ins0).n)).size < 4611686018427387904 by simp only [ByteArray.size_append, size_txt, size_txt2, List.length_cons, List.length_nil, z_6d6574686f6420, z_66756e6374696f6e20, z_2028, z_202c, z_20, z_202920, z_203b0a, z_206c6f63616c7320, z_207b0a, z_636174636820, z_7d0a, z_696e74205b205d, z_205b205d, z_766f6964, z_696e74, z_5b, z_5d]; omega), ?_⟩
          exact ⟨q ++ (wordF2 (m.code.getD j ins0).op).data.toList ++ [32] ++ Lib.itoa (m.code.getD j ins0).n, ⟨(by rw [P_app, hQj, oc.1]; simp [-List.getD_eq_getElem?_getD, P_cons, P_nil, ws, sp_dig, dig_l]), (by simp only [List.length_append, List.length_cons, List.length_nil]; omega)⟩, ⟨rfl, rfl⟩, .refl _, .str (txt_of (by rw [← we]; simp)), .refl _, .refl _, ⟨.refl _, .refl _, .refl _, .refl _, .refl _, .refl _, .refl _, .refl _, .refl _, trivial⟩, trivial⟩
        have k2 := eqF h2
        refine ⟨fun h3 => ?_, fun h3 => ?_⟩
        · have k3 := eqT h3
          obtain ⟨oc, vn2⟩ : (codeQ (m.code.getD j ins0) = [wordF2 (m.code.getD j ins0).op, dig (m.code.getD j ins0).n] ∧ -2147483648 ≤ (m.code.getD j ins0).n ∧ (m.code.getD j ins0).n ≤ 2147483647) ∧ (Lib.itoa (m.code.getD j ins0).n).length ≤ 21 := by
            rcases ocase with ⟨-, c⟩ | ⟨c, -⟩ | ⟨c, -⟩ | ⟨c, -⟩
            · exact ⟨c, vn c.2⟩
            all_goals omega
          have on := oc.2
          refine ⟨(show (txt q ++ opsL.getD (m.code.getD j ins0).op.toNat noS).size + ((⟨#[32]⟩ : ByteArray)).size < 4611686018427387904 by simp only [ByteArray.size_append, size_txt, size_txt2, List.length_cons, List.length_nil, z_6d6574686f6420, z_66756e6374696f6e20, z_2028, z_202c, z_20, z_202920, z_203b0a, z_206c6f63616c7320, z_207b0a, z_636174636820, z_7d0a, z_696e74205b205d, z_205b205d, z_766f6964, z_696e74, z_5b, z_5d]; omega), ?_⟩
          refine ⟨(m.code.getD j ins0).n, ⟨.refl _, trivial⟩, rfl, (show -4611686018427387904 ≤ (m.code.getD j ins0).n ∧ (m.code.getD j ins0).n ≤ 4611686018427387904 by omega), ?_⟩
          refine ⟨(show (txt q ++ opsL.getD (m.code.getD j ins0).op.toNat noS ++ (⟨#[32]⟩ : ByteArray)).size + (txt (Lib.itoa (m.code.getD j ins0).n)).size < 4611686018427387904 by simp only [ByteArray.size_append, size_txt, size_txt2, List.length_cons, List.length_nil, z_6d6574686f6420, z_66756e6374696f6e20, z_2028, z_202c, z_20, z_202920, z_203b0a, z_206c6f63616c7320, z_207b0a, z_636174636820, z_7d0a, z_696e74205b205d, z_205b205d, z_766f6964, z_696e74, z_5b, z_5d]; omega), ?_⟩
          exact ⟨q ++ (wordF2 (m.code.getD j ins0).op).data.toList ++ [32] ++ Lib.itoa (m.code.getD j ins0).n, ⟨(by rw [P_app, hQj, oc.1]; simp [-List.getD_eq_getElem?_getD, P_cons, P_nil, ws, sp_dig, dig_l]), (by simp only [List.length_append, List.length_cons, List.length_nil]; omega)⟩, ⟨rfl, rfl⟩, .refl _, .str (txt_of (by rw [← we]; simp)), .refl _, .refl _, ⟨.refl _, .refl _, .refl _, .refl _, .refl _, .refl _, .refl _, .refl _, .refl _, trivial⟩, trivial⟩
        have k3 := eqF h3
        refine ⟨fun h4 => ?_, fun h4 => ?_⟩
        · have k4 := eqT h4
          obtain ⟨oc1, oc2⟩ : codeQ (m.code.getD j ins0) = [wordF2 (m.code.getD j ins0).op, (m.code.getD j ins0).a] ∧ freshW (m.code.getD j ins0).a = true := by
            rcases ocase with ⟨c, -⟩ | ⟨c, d⟩ | ⟨c, -⟩ | ⟨c, -⟩
            · omega
            · exact d
            all_goals omega
          have az := fresh_sz oc2
          have al : (m.code.getD j ins0).a.data.toList.length ≤ 20 := by rw [sz_len]; exact az
          refine ⟨(show (txt q ++ opsL.getD (m.code.getD j ins0).op.toNat noS).size + ((⟨#[32]⟩ : ByteArray)).size < 4611686018427387904 by simp only [ByteArray.size_append, size_txt, size_txt2, List.length_cons, List.length_nil, z_6d6574686f6420, z_66756e6374696f6e20, z_2028, z_202c, z_20, z_202920, z_203b0a, z_206c6f63616c7320, z_207b0a, z_636174636820, z_7d0a, z_696e74205b205d, z_205b205d, z_766f6964, z_696e74, z_5b, z_5d]; omega), ?_⟩
          refine ⟨(show (txt q ++ opsL.getD (m.code.getD j ins0).op.toNat noS ++ (⟨#[32]⟩ : ByteArray)).size + ((m.code.getD j ins0).a).size < 4611686018427387904 by simp only [ByteArray.size_append, size_txt, size_txt2, List.length_cons, List.length_nil, z_6d6574686f6420, z_66756e6374696f6e20, z_2028, z_202c, z_20, z_202920, z_203b0a, z_206c6f63616c7320, z_207b0a, z_636174636820, z_7d0a, z_696e74205b205d, z_205b205d, z_766f6964, z_696e74, z_5b, z_5d]; omega), ?_⟩
          exact ⟨q ++ (wordF2 (m.code.getD j ins0).op).data.toList ++ [32] ++ (m.code.getD j ins0).a.data.toList, ⟨(by rw [P_app, hQj, oc1]; simp [-List.getD_eq_getElem?_getD, P_cons, P_nil, ws, sp_fresh oc2]), (by simp only [List.length_append, List.length_cons, List.length_nil]; omega)⟩, ⟨rfl, rfl⟩, .refl _, .str (txt_of (by rw [← we]; simp)), .refl _, .refl _, ⟨.refl _, .refl _, .refl _, .refl _, .refl _, .refl _, .refl _, .refl _, .refl _, trivial⟩, trivial⟩
        have k4 := eqF h4
        refine ⟨fun h5 => ?_, fun h5 => ?_⟩
        · have k5 := eqT h5
          obtain ⟨oc1, oc2, oc3⟩ : codeQ (m.code.getD j ins0) = [wordF2 (m.code.getD j ins0).op, (m.code.getD j ins0).a, (m.code.getD j ins0).b] ∧ freshW (m.code.getD j ins0).a = true ∧ freshW (m.code.getD j ins0).b = true := by
            rcases ocase with ⟨c, -⟩ | ⟨c, -⟩ | ⟨c, d⟩ | ⟨c, -⟩
            · omega
            · omega
            · exact d
            · omega
          have az := fresh_sz oc2
          have bz := fresh_sz oc3
          have al : (m.code.getD j ins0).a.data.toList.length ≤ 20 := by rw [sz_len]; exact az
          have bl : (m.code.getD j ins0).b.data.toList.length ≤ 20 := by rw [sz_len]; exact bz
          refine ⟨(show (txt q ++ opsL.getD (m.code.getD j ins0).op.toNat noS).size + ((⟨#[32]⟩ : ByteArray)).size < 4611686018427387904 by simp only [ByteArray.size_append, size_txt, size_txt2, List.length_cons, List.length_nil, z_6d6574686f6420, z_66756e6374696f6e20, z_2028, z_202c, z_20, z_202920, z_203b0a, z_206c6f63616c7320, z_207b0a, z_636174636820, z_7d0a, z_696e74205b205d, z_205b205d, z_766f6964, z_696e74, z_5b, z_5d]; omega), ?_⟩
          refine ⟨(show (txt q ++ opsL.getD (m.code.getD j ins0).op.toNat noS ++ (⟨#[32]⟩ : ByteArray)).size + ((m.code.getD j ins0).a).size < 4611686018427387904 by simp only [ByteArray.size_append, size_txt, size_txt2, List.length_cons, List.length_nil, z_6d6574686f6420, z_66756e6374696f6e20, z_2028, z_202c, z_20, z_202920, z_203b0a, z_206c6f63616c7320, z_207b0a, z_636174636820, z_7d0a, z_696e74205b205d, z_205b205d, z_766f6964, z_696e74, z_5b, z_5d]; omega), ?_⟩
          refine ⟨(show (txt q ++ opsL.getD (m.code.getD j ins0).op.toNat noS ++ (⟨#[32]⟩ : ByteArray) ++ (m.code.getD j ins0).a).size + ((⟨#[32]⟩ : ByteArray)).size < 4611686018427387904 by simp only [ByteArray.size_append, size_txt, size_txt2, List.length_cons, List.length_nil, z_6d6574686f6420, z_66756e6374696f6e20, z_2028, z_202c, z_20, z_202920, z_203b0a, z_206c6f63616c7320, z_207b0a, z_636174636820, z_7d0a, z_696e74205b205d, z_205b205d, z_766f6964, z_696e74, z_5b, z_5d]; omega), ?_⟩
          refine ⟨(show (txt q ++ opsL.getD (m.code.getD j ins0).op.toNat noS ++ (⟨#[32]⟩ : ByteArray) ++ (m.code.getD j ins0).a ++ (⟨#[32]⟩ : ByteArray)).size + ((m.code.getD j ins0).b).size < 4611686018427387904 by simp only [ByteArray.size_append, size_txt, size_txt2, List.length_cons, List.length_nil, z_6d6574686f6420, z_66756e6374696f6e20, z_2028, z_202c, z_20, z_202920, z_203b0a, z_206c6f63616c7320, z_207b0a, z_636174636820, z_7d0a, z_696e74205b205d, z_205b205d, z_766f6964, z_696e74, z_5b, z_5d]; omega), ?_⟩
          exact ⟨q ++ (wordF2 (m.code.getD j ins0).op).data.toList ++ [32] ++ (m.code.getD j ins0).a.data.toList ++ [32] ++ (m.code.getD j ins0).b.data.toList, ⟨(by rw [P_app, hQj, oc1]; simp [-List.getD_eq_getElem?_getD, P_cons, P_nil, ws, sp_fresh oc2, sp_fresh oc3]), (by simp only [List.length_append, List.length_cons, List.length_nil]; omega)⟩, ⟨rfl, rfl⟩, .refl _, .str (txt_of (by rw [← we]; simp)), .refl _, .refl _, ⟨.refl _, .refl _, .refl _, .refl _, .refl _, .refl _, .refl _, .refl _, .refl _, trivial⟩, trivial⟩
        have k5 := eqF h5
        have oc1 : codeQ (m.code.getD j ins0) = [wordF2 (m.code.getD j ins0).op] := by
          rcases ocase with ⟨c, -⟩ | ⟨c, -⟩ | ⟨c, -⟩ | ⟨c, d⟩
          · omega
          · omega
          · omega
          · exact d
        exact ⟨q ++ (wordF2 (m.code.getD j ins0).op).data.toList, ⟨(by rw [P_app, hQj, oc1]; simp [-List.getD_eq_getElem?_getD, P_cons, P_nil, ws]), (by simp only [List.length_append, List.length_cons, List.length_nil]; omega)⟩, ⟨rfl, rfl⟩, .refl _, .str (txt_of (by rw [← we]; simp)), .refl _, .refl _, ⟨.refl _, .refl _, .refl _, .refl _, .refl _, .refl _, .refl _, .refl _, .refl _, trivial⟩, trivial⟩
      · obtain ⟨hl1, hl2⟩ : P (W2 ++ (m.code.take j).flatMap codeF ++ codeQ x) = l ++ [32] ∧ l.length ≤ 300 + 100 * j + 70 := hl
        refine ⟨(show (txt l).size + ((⟨#[32, 59, 10]⟩ : ByteArray)).size < 4611686018427387904 by simp only [ByteArray.size_append, size_txt, size_txt2, List.length_cons, List.length_nil, z_6d6574686f6420, z_66756e6374696f6e20, z_2028, z_202c, z_20, z_202920, z_203b0a, z_206c6f63616c7320, z_207b0a, z_636174636820, z_7d0a, z_696e74205b205d, z_205b205d, z_766f6964, z_696e74, z_5b, z_5d]; omega), ?_⟩
        exact ⟨(j + 1, l ++ [32, 59, 10]), ⟨hlt, (by show P (W2 ++ (m.code.take (j + 1)).flatMap codeF) = _; rw [hsn, codeF_Q, ← List.append_assoc, ← List.append_assoc, P_app, hl1]; simp [-List.getD_eq_getElem?_getD, P_cons, P_nil, s19, b19]), (by simp only [List.length_append, List.length_cons, List.length_nil]; omega)⟩, (show m.code.length - (j + 1) < m.code.length - j by omega), ⟨rfl, rfl⟩, .refl _, .str (txt_of (by simp)), .refl _, .int hwj, ⟨.refl _, .refl _, .refl _, .refl _, .refl _, .refl _, .refl _, .refl _, .refl _, trivial⟩, trivial⟩
    have hgj : j = m.code.length := Nat.le_antisymm hj1 (dge h)
    rw [hgj, List.take_length] at hQj
    refine ⟨Nat × List UInt8, fun x => [(1, .box 1 0), (3, S (txt x.2)), (8, I x.1)], fun _ => [(1, methC m)], fun x => x.1 ≤ m.catches.length ∧ P (W2 ++ m.code.flatMap codeF ++ (m.catches.take x.1).flatMap catF) = x.2 ∧ x.2.length ≤ 6000 + 200 * x.1, fun x => m.catches.length - x.1,
      ⟨(0, q), ⟨Nat.zero_le _, (by show P (W2 ++ m.code.flatMap codeF ++ []) = q; rw [List.append_nil]; exact hQj), (by show q.length ≤ 6000 + 200 * 0; omega)⟩, ⟨⟨rfl, rfl⟩, .refl _, .refl _, .refl _, ⟨.refl _, .refl _, .refl _, .refl _, .refl _, .refl _, .refl _, .refl _, .refl _, trivial⟩, trivial⟩⟩, fun ((k, r) : Nat × List UInt8) hx => ?_⟩
    obtain ⟨hk1, hQk, hrk⟩ : k ≤ m.catches.length ∧ P (W2 ++ m.code.flatMap codeF ++ (m.catches.take k).flatMap catF) = r ∧ r.length ≤ 6000 + 200 * k := hx
    have hkl := p7.1
    have hwk : IntKind.i64.wrap ((k : Int) + 1) = ((k + 1 : Nat) : Int) := by rw [wrap_eq _ (by omega) (by omega)]; omega
    refine ⟨fun h => ?_, fun h => ?_⟩
    · have hlt : k < m.catches.length := dlt h
      have hco := p7.2 _ (getT_mem m.catches cat0 k hlt)
      have hsn := flat_snoc catF m.catches cat0 k hlt
      obtain ⟨f1, f2, f3, f4⟩ : freshW (m.catches.getD k cat0).name = true ∧ (0 ≤ (m.catches.getD k cat0).fr ∧ (m.catches.getD k cat0).fr ≤ 48) ∧ (0 ≤ (m.catches.getD k cat0).up ∧ (m.catches.getD k cat0).up ≤ 48) ∧ (0 ≤ (m.catches.getD k cat0).at' ∧ (m.catches.getD k cat0).at' ≤ 48) := by
        have h : catchF (m.catches.getD k cat0).name.data.toList (m.catches.getD k cat0).fr (m.catches.getD k cat0).up (m.catches.getD k cat0).at' = true := hco
        unfold catchF inF at h
        simp only [Bool.and_eq_true, decide_eq_true_eq] at h
        exact ⟨h.1.1.1, h.1.1.2, h.1.2, h.2⟩
      have fz := fresh_sz f1
      have fl : (m.catches.getD k cat0).name.data.toList.length ≤ 20 := by rw [sz_len]; exact fz
      have g1 : (Lib.itoa (m.catches.getD k cat0).fr).length ≤ 21 := dig_lt _ (by omega) (by omega)
      have g2 : (Lib.itoa (m.catches.getD k cat0).up).length ≤ 21 := dig_lt _ (by omega) (by omega)
      have g3 : (Lib.itoa (m.catches.getD k cat0).at').length ≤ 21 := dig_lt _ (by omega) (by omega)
      refine ⟨⟨by omega, by omega⟩, ?_⟩
      refine ⟨by kernel_rfl, ?_⟩
      refine ⟨(show (txt r).size + ((⟨#[99, 97, 116, 99, 104, 32]⟩ : ByteArray)).size < 4611686018427387904 by simp only [ByteArray.size_append, size_txt, size_txt2, List.length_cons, List.length_nil, z_6d6574686f6420, z_66756e6374696f6e20, z_2028, z_202c, z_20, z_202920, z_203b0a, z_206c6f63616c7320, z_207b0a, z_636174636820, z_7d0a, z_696e74205b205d, z_205b205d, z_766f6964, z_696e74, z_5b, z_5d]; omega), ?_⟩
      refine ⟨(show (txt r ++ (⟨#[99, 97, 116, 99, 104, 32]⟩ : ByteArray)).size + ((m.catches.getD k cat0).name).size < 4611686018427387904 by simp only [ByteArray.size_append, size_txt, size_txt2, List.length_cons, List.length_nil, z_6d6574686f6420, z_66756e6374696f6e20, z_2028, z_202c, z_20, z_202920, z_203b0a, z_206c6f63616c7320, z_207b0a, z_636174636820, z_7d0a, z_696e74205b205d, z_205b205d, z_766f6964, z_696e74, z_5b, z_5d]; omega), ?_⟩
      refine ⟨(show (txt r ++ (⟨#[99, 97, 116, 99, 104, 32]⟩ : ByteArray) ++ (m.catches.getD k cat0).name).size + ((⟨#[32]⟩ : ByteArray)).size < 4611686018427387904 by simp only [ByteArray.size_append, size_txt, size_txt2, List.length_cons, List.length_nil, z_6d6574686f6420, z_66756e6374696f6e20, z_2028, z_202c, z_20, z_202920, z_203b0a, z_206c6f63616c7320, z_207b0a, z_636174636820, z_7d0a, z_696e74205b205d, z_205b205d, z_766f6964, z_696e74, z_5b, z_5d]; omega), ?_⟩
      refine ⟨(m.catches.getD k cat0).fr, ⟨.refl _, trivial⟩, rfl, (show -4611686018427387904 ≤ (m.catches.getD k cat0).fr ∧ (m.catches.getD k cat0).fr ≤ 4611686018427387904 by omega), ?_⟩
      refine ⟨(show (txt r ++ (⟨#[99, 97, 116, 99, 104, 32]⟩ : ByteArray) ++ (m.catches.getD k cat0).name ++ (⟨#[32]⟩ : ByteArray)).size + (txt (Lib.itoa (m.catches.getD k cat0).fr)).size < 4611686018427387904 by simp only [ByteArray.size_append, size_txt, size_txt2, List.length_cons, List.length_nil, z_6d6574686f6420, z_66756e6374696f6e20, z_2028, z_202c, z_20, z_202920, z_203b0a, z_206c6f63616c7320, z_207b0a, z_636174636820, z_7d0a, z_696e74205b205d, z_205b205d, z_766f6964, z_696e74, z_5b, z_5d]; omega), ?_⟩
      refine ⟨(show (txt r ++ (⟨#[99, 97, 116, 99, 104, 32]⟩ : ByteArray) ++ (m.catches.getD k cat0).name ++ (⟨#[32]⟩ : ByteArray) ++ txt (Lib.itoa (m.catches.getD k cat0).fr)).size + ((⟨#[32]⟩ : ByteArray)).size < 4611686018427387904 by simp only [ByteArray.size_append, size_txt, size_txt2, List.length_cons, List.length_nil, z_6d6574686f6420, z_66756e6374696f6e20, z_2028, z_202c, z_20, z_202920, z_203b0a, z_206c6f63616c7320, z_207b0a, z_636174636820, z_7d0a, z_696e74205b205d, z_205b205d, z_766f6964, z_696e74, z_5b, z_5d]; omega), ?_⟩
      refine ⟨(m.catches.getD k cat0).up, ⟨.refl _, trivial⟩, rfl, (show -4611686018427387904 ≤ (m.catches.getD k cat0).up ∧ (m.catches.getD k cat0).up ≤ 4611686018427387904 by omega), ?_⟩
      refine ⟨(show (txt r ++ (⟨#[99, 97, 116, 99, 104, 32]⟩ : ByteArray) ++ (m.catches.getD k cat0).name ++ (⟨#[32]⟩ : ByteArray) ++ txt (Lib.itoa (m.catches.getD k cat0).fr) ++ (⟨#[32]⟩ : ByteArray)).size + (txt (Lib.itoa (m.catches.getD k cat0).up)).size < 4611686018427387904 by simp only [ByteArray.size_append, size_txt, size_txt2, List.length_cons, List.length_nil, z_6d6574686f6420, z_66756e6374696f6e20, z_2028, z_202c, z_20, z_202920, z_203b0a, z_206c6f63616c7320, z_207b0a, z_636174636820, z_7d0a, z_696e74205b205d, z_205b205d, z_766f6964, z_696e74, z_5b, z_5d]; omega), ?_⟩
      refine ⟨(show (txt r ++ (⟨#[99, 97, 116, 99, 104, 32]⟩ : ByteArray) ++ (m.catches.getD k cat0).name ++ (⟨#[32]⟩ : ByteArray) ++ txt (Lib.itoa (m.catches.getD k cat0).fr) ++ (⟨#[32]⟩ : ByteArray) ++ txt (Lib.itoa (m.catches.getD k cat0).up)).size + ((⟨#[32]⟩ : ByteArray)).size < 4611686018427387904 by simp only [ByteArray.size_append, size_txt, size_txt2, List.length_cons, List.length_nil, z_6d6574686f6420, z_66756e6374696f6e20, z_2028, z_202c, z_20, z_202920, z_203b0a, z_206c6f63616c7320, z_207b0a, z_636174636820, z_7d0a, z_696e74205b205d, z_205b205d, z_766f6964, z_696e74, z_5b, z_5d]; omega), ?_⟩
      refine ⟨(m.catches.getD k cat0).at', ⟨.refl _, trivial⟩, rfl, (show -4611686018427387904 ≤ (m.catches.getD k cat0).at' ∧ (m.catches.getD k cat0).at' ≤ 4611686018427387904 by omega), ?_⟩
      refine ⟨(show (txt r ++ (⟨#[99, 97, 116, 99, 104, 32]⟩ : ByteArray) ++ (m.catches.getD k cat0).name ++ (⟨#[32]⟩ : ByteArray) ++ txt (Lib.itoa (m.catches.getD k cat0).fr) ++ (⟨#[32]⟩ : ByteArray) ++ txt (Lib.itoa (m.catches.getD k cat0).up) ++ (⟨#[32]⟩ : ByteArray)).size + (txt (Lib.itoa (m.catches.getD k cat0).at')).size < 4611686018427387904 by simp only [ByteArray.size_append, size_txt, size_txt2, List.length_cons, List.length_nil, z_6d6574686f6420, z_66756e6374696f6e20, z_2028, z_202c, z_20, z_202920, z_203b0a, z_206c6f63616c7320, z_207b0a, z_636174636820, z_7d0a, z_696e74205b205d, z_205b205d, z_766f6964, z_696e74, z_5b, z_5d]; omega), ?_⟩
      refine ⟨(show (txt r ++ (⟨#[99, 97, 116, 99, 104, 32]⟩ : ByteArray) ++ (m.catches.getD k cat0).name ++ (⟨#[32]⟩ : ByteArray) ++ txt (Lib.itoa (m.catches.getD k cat0).fr) ++ (⟨#[32]⟩ : ByteArray) ++ txt (Lib.itoa (m.catches.getD k cat0).up) ++ (⟨#[32]⟩ : ByteArray) ++ txt (Lib.itoa (m.catches.getD k cat0).at')).size + ((⟨#[32, 59, 10]⟩ : ByteArray)).size < 4611686018427387904 by simp only [ByteArray.size_append, size_txt, size_txt2, List.length_cons, List.length_nil, z_6d6574686f6420, z_66756e6374696f6e20, z_2028, z_202c, z_20, z_202920, z_203b0a, z_206c6f63616c7320, z_207b0a, z_636174636820, z_7d0a, z_696e74205b205d, z_205b205d, z_766f6964, z_696e74, z_5b, z_5d]; omega), ?_⟩
      exact ⟨(k + 1, r ++ [99, 97, 116, 99, 104, 32] ++ (m.catches.getD k cat0).name.data.toList ++ [32] ++ Lib.itoa (m.catches.getD k cat0).fr ++ [32] ++ Lib.itoa (m.catches.getD k cat0).up ++ [32] ++ Lib.itoa (m.catches.getD k cat0).at' ++ [32, 59, 10]), ⟨hlt, (by show P (W2 ++ m.code.flatMap codeF ++ (m.catches.take (k + 1)).flatMap catF) = _; rw [hsn, ← List.append_assoc, P_app, hQk]; unfold catF; simp [-List.getD_eq_getElem?_getD, P_cons, P_nil, s10, s19, b10, b19, sp_fresh f1, sp_dig, dig_l]), (by simp only [List.length_append, List.length_cons, List.length_nil]; omega)⟩, (show m.catches.length - (k + 1) < m.catches.length - k by omega), ⟨rfl, rfl⟩, .refl _, .str (txt_of (by simp)), .int hwk, ⟨.refl _, .refl _, .refl _, .refl _, .refl _, .refl _, .refl _, .refl _, .refl _, trivial⟩, trivial⟩
    have hgk : k = m.catches.length := Nat.le_antisymm hk1 (dge h)
    rw [hgk, List.take_length] at hQk
    refine ⟨(show (txt r).size + ((⟨#[125, 10]⟩ : ByteArray)).size < 4611686018427387904 by simp only [ByteArray.size_append, size_txt, size_txt2, List.length_cons, List.length_nil, z_6d6574686f6420, z_66756e6374696f6e20, z_2028, z_202c, z_20, z_202920, z_203b0a, z_206c6f63616c7320, z_207b0a, z_636174636820, z_7d0a, z_696e74205b205d, z_205b205d, z_766f6964, z_696e74, z_5b, z_5d]; omega), ?_⟩
    exact ⟨hres _ (r ++ [125, 10]) (txt_of (by simp)) (by rw [hdo2, ← List.append_assoc, ← List.append_assoc, P_app, hQk]; simp [-List.getD_eq_getElem?_getD, P_cons, P_nil, s21, b21]), rfl⟩
end Go.Proofs.YtadimoijlgmecaaGreatDoor.Ax
