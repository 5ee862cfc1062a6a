/- Walks and laws, part 6: Sn Wa So Sq Gv Sr Ta Tg Th Lw Hw Hs. -/
import Derived.Test.YtadimoijlgmecaaGreatDoorPk5
import Derived.Shelf.Strings.BuilderK
import Derived.WalkKit
import Derived.BigCall
import Derived.Lib.Hide
import Derived.Test.YtadimoijlgmecaaGreatDoorRows
import Derived.Stop.LaidErr
import Derived.LaidSub
import Derived.LaidMore
import Derived.Stop.Joined
import Derived.MakeChecks
import Derived.Lib.LaidTab
/- Layer show: the words of classes. PRINTED by wip/sp/sn.py. -/
set_option linter.unusedVariables false
set_option linter.unusedSimpArgs false
namespace Go.Proofs.YtadimoijlgmecaaGreatDoor.Ax
open Go Go.RowKit
theorem does_len {m : Meth} (h : methOk m = true) : (doesF m).length ≤ 400 := by
  obtain ⟨hp1, hp2, hp3, hp4, hp5, hp6, hp7⟩ := meth_parts h
  have hpl := paramsF_len m.params
  have hkr := kindW_len m.ret
  have hm1 : (doM1 m).length ≤ 100 := by unfold doM1 hdM; simp only [List.length_append, List.length_cons, List.length_nil]; omega
  have hm2 : (doM2 m).length ≤ 103 := by unfold doM2; simp only [List.length_append, List.length_cons, List.length_nil]; omega
  have h1 := flat_le codeF 5 m.code fun x _ => codeF_len x
  have h2 := flat_le catF 6 m.catches fun c _ => Nat.le_of_eq (catF_len c)
  have h3 := hp6.1
  have h4 := hp7.1
  cases ha : m.abs with
  | true => rw [doesF_abs ha]; simp only [List.length_append, List.length_cons, List.length_nil]; omega
  | false => rw [doesF_code ha]; simp only [List.length_append, List.length_cons, List.length_nil]; omega
theorem fldF_len (f : Fld) : (fldF f).length ≤ 7 := by
  have := kindW_len f.type
  unfold fldF; simp only [List.length_append, List.length_cons, List.length_nil]; omega
theorem takeM_le (l : List Meth) (h : ∀ m ∈ l, methOk m = true) (i : Nat) : ((l.take i).flatMap doesF).length ≤ 400 * l.length := by
  have h1 := flat_le doesF 400 (l.take i) fun x hx => does_len (h x (List.mem_of_mem_take hx))
  have h2 : (l.take i).length ≤ l.length := by rw [List.length_take]; omega
  exact Nat.le_trans h1 (Nat.mul_le_mul_left 400 h2)
def hdC (c : Cls) : List ByteArray := [if c.iface then wInterface else wClass, c.name]
def supC (c : Cls) : List ByteArray := if c.super = noS then [] else [wExtends, c.super]
def lstC (c : Cls) : List ByteArray := listF (if c.iface then wExtends else wImplements) c.ifaces
def doC1 (c : Cls) : List ByteArray := hdC c ++ supC c ++ lstC c ++ [wLc]
theorem wordsC_eq (c : Cls) : wordsC c = doC1 c ++ c.fields.flatMap fldF ++ c.methods.flatMap doesF ++ [wRc] := by
  unfold wordsC doC1 hdC supC lstC; simp
def wordsK : Ctr := { A := Cls, enc := fun c => [.agg (clsC c)], dom := fun c => clsOk c = true, res := fun c id => .own ByteArray 1 strC noS (wordsC c) id, gl := tabS }
set_option maxRecDepth 100000 in
set_option maxHeartbeats 8000000 in
theorem words_ok : CtrSound Tryz.prog 21 wordsK :=
  ctr_of_ax (env_okB tys_ok (eqs := []) trivial (cs := [(28, kindC), (40, doesC), (39, listC)]) ⟨kind_ok, does_ok, list_ok, trivial⟩ (bs := []) trivial (vec := [12]) (gl := tabS) (cut := [4]) (sq := [800052])) mixed _ Tryz.func21 (by kernel_rfl) rfl (fun _ _ => Nat.le_of_ble_eq_true rfl) fun (c : Cls) id hd => by
    have hd : clsOk c = true := hd
    obtain ⟨hp1, hp2, hp3, hp4, hp5⟩ := cls_parts hd
    have hll := listF_len (if c.iface then wExtends else wImplements) c.ifaces
    have hsl : (supC c).length ≤ 2 := by unfold supC; split <;> simp
    have hl3 := hp3.1
    have hm1 : (doC1 c).length ≤ 20 := by unfold doC1 hdC lstC; simp only [List.length_append, List.length_cons, List.length_nil]; omega
    have hfl : ∀ i, ((c.fields.take i).flatMap fldF).length ≤ 42 := fun i => by
      have := takeF_le fldF 7 fldF_len c.fields i
      have := hp4.1
      omega
    have hml : ∀ i, ((c.methods.take i).flatMap doesF).length ≤ 2400 := fun i => by
      have := takeM_le c.methods hp5.2 i
      have := hp5.1
      omega
    have hns : (!(c.super.toList == (⟨#[]⟩ : ByteArray).toList)) = !decide (c.super = noS) := by rw [ba_eq]
    refine ⟨ByteArray, strC, noS, [wClass, c.name], ⟨rfl, fun _ => ⟨rfl, rfl, rfl⟩⟩, ⟨.refl _, .refl _, trivial⟩, ?_⟩
    refine ⟨Unit, fun _ => [(1, .box 1 0), (3, .arr 12 1 0 2 (some 2)), (4, S (if c.iface then wExtends else wImplements))], fun _ => [(1, clsC c), (12, [.many ByteArray 1 strC noS (hdC c)])], fun _ => True, ?_, fun _ _ => ?_⟩
    · refine ⟨fun h => ?_, fun h => ?_⟩
      · have h : c.iface = true := h
        refine ⟨⟨by decide, by decide⟩, ?_⟩
        refine ⟨⟨Int.le_refl 0, (show (0 : Int) < 2 by decide)⟩, ?_⟩
        refine ⟨wInterface, ⟨.refl _, trivial⟩, ?_⟩
        exact ⟨(), trivial, ⟨rfl, rfl⟩, .refl _, .refl _, .str (by rw [if_pos h]; rfl), ⟨.refl _, .refl _, .refl _, .refl _, .refl _, .refl _, trivial⟩, ⟨.manyEq (by unfold hdC; rw [if_pos h]; rfl), trivial⟩, trivial⟩
      · have h : c.iface = false := h
        exact ⟨(), trivial, ⟨rfl, rfl⟩, .refl _, .refl _, .str (by rw [if_neg (by rw [h]; decide)]; rfl), ⟨.refl _, .refl _, .refl _, .refl _, .refl _, .refl _, trivial⟩, ⟨.manyEq (by unfold hdC; rw [if_neg (by rw [h]; decide)]), trivial⟩, trivial⟩
    refine ⟨fun hs => ?_, fun hs => ?_⟩
    · have hs : supC c = [wExtends, c.super] := by
        have hs : (!(c.super.toList == (⟨#[]⟩ : ByteArray).toList)) = true := hs
        rw [hns] at hs
        unfold supC; rw [if_neg (by simpa using hs)]
      refine ⟨ByteArray, strC, noS, [wExtends, c.super], ⟨rfl, fun _ => rfl⟩, ⟨.refl _, .refl _, trivial⟩, rfl, ?_⟩
      refine .inl ⟨[wExtends, c.super], ⟨rfl, Nat.le_refl _, Nat.succ_pos _, .own ..⟩, (show (2 + 2) * 16 ≤ 140737488355328 by omega), ?_⟩
      refine ⟨(if c.iface then wExtends else wImplements, c.ifaces), ⟨.refl _, .refl _, trivial⟩, rfl, (show c.ifaces.length ≤ 100000 by omega), ?_⟩
      refine ⟨ByteArray, strC, noS, hdC c ++ [wExtends, c.super], lstC c, 24, ⟨.refl _, .own ..⟩, fun _ => rfl, (by unfold hdC lstC; simp only [List.length_append, List.length_cons, List.length_nil]; omega), ?_⟩
      refine ⟨ByteArray, strC, noS, [wLc], ⟨rfl, fun _ => rfl⟩, ⟨.refl _, trivial⟩, rfl, ?_⟩
      refine ⟨ByteArray, strC, noS, hdC c ++ [wExtends, c.super] ++ lstC c, [wLc], 30, ⟨.refl _, .own ..⟩, fun _ => rfl, (by unfold hdC lstC; simp only [List.length_append, List.length_cons, List.length_nil]; omega), ?_⟩
      have hdo : hdC c ++ [wExtends, c.super] ++ lstC c ++ [wLc] = doC1 c := by unfold doC1; rw [hs]
      refine ⟨Nat × Bool, fun s => [(1, .box 1 0), (3, .own ByteArray 1 strC noS (doC1 c ++ (c.fields.take s.1).flatMap fldF) (cond s.2 53 32)), (35, I c.fields.length), (36, I s.1), (34, .row Fld 4 fldC fld0 c.fields)], fun _ => [(1, clsC c)], fun s => s.1 ≤ c.fields.length, fun s => c.fields.length - s.1,
        ⟨(0, false), Nat.zero_le _, ⟨⟨rfl, rfl⟩, .refl _, .ownEq (by rw [← hdo]; simp [hdC]), .refl _, .refl _, .refl _, ⟨.refl _, .refl _, .refl _, .refl _, .refl _, .refl _, trivial⟩, trivial⟩⟩, fun ((i, b) : Nat × Bool) hi => ?_⟩
      have hi1 : i ≤ c.fields.length := hi
      have hwj : IntKind.i64.wrap ((i : Int) + 1) = ((i + 1 : Nat) : Int) := by rw [wrap_eq _ (by omega) (by omega)]; omega
      have hbi := hfl i
      cases b
      case false =>
        refine ⟨fun h => ?_, fun h => ?_⟩
        · have hlt : i < c.fields.length := by have := of_decide_eq_true h; omega
          have hs := flat_snoc fldF c.fields fld0 i hlt
          have hk := kindW_len (c.fields.getD i fld0).type
          refine ⟨⟨by omega, by omega⟩, ?_⟩
          refine ⟨fun h3 => ?_, fun h3 => ?_⟩
          · have h3 : (c.fields.getD i fld0).static = true := h3
            have hf : fldF (c.fields.getD i fld0) = [wStatic, (c.fields.getD i fld0).name, wColon] ++ (kindW (c.fields.getD i fld0).type ++ [wSemi]) := by unfold fldF; rw [if_pos h3]
            refine ⟨by kernel_rfl, ?_⟩
            refine ⟨ByteArray, strC, noS, [wStatic, (c.fields.getD i fld0).name, wColon], ⟨rfl, fun _ => rfl⟩, ⟨.refl _, .refl _, .refl _, trivial⟩, rfl, ?_⟩
            refine ⟨ByteArray, strC, noS, doC1 c ++ (c.fields.take i).flatMap fldF, [wStatic, (c.fields.getD i fld0).name, wColon], 32, ⟨.refl _, .own ..⟩, fun _ => rfl, (by simp only [List.length_append, List.length_cons, List.length_nil]; omega), ?_⟩
            refine ⟨(c.fields.getD i fld0).type, ⟨.refl _, trivial⟩, rfl, trivial, ?_⟩
            refine ⟨ByteArray, strC, noS, doC1 c ++ (c.fields.take i).flatMap fldF ++ [wStatic, (c.fields.getD i fld0).name, wColon], kindW (c.fields.getD i fld0).type, 47, ⟨.refl _, .own ..⟩, fun _ => rfl, (by simp only [List.length_append, List.length_cons, List.length_nil]; omega), ?_⟩
            refine ⟨ByteArray, strC, noS, [wSemi], ⟨rfl, fun _ => rfl⟩, ⟨.refl _, trivial⟩, rfl, ?_⟩
            refine ⟨ByteArray, strC, noS, doC1 c ++ (c.fields.take i).flatMap fldF ++ [wStatic, (c.fields.getD i fld0).name, wColon] ++ kindW (c.fields.getD i fld0).type, [wSemi], 51, ⟨.refl _, .refl _⟩, fun _ => rfl, (by simp only [List.length_append, List.length_cons, List.length_nil]; omega), ?_⟩
            exact ⟨(i + 1, true), hlt, by show c.fields.length - (i + 1) < c.fields.length - i; omega, ⟨rfl, rfl⟩, .refl _, .ownEq (by rw [hs, hf]; simp), .refl _, .int hwj, .refl _, ⟨.refl _, .refl _, .refl _, .refl _, .refl _, .refl _, trivial⟩, trivial⟩
          · have h3 : (c.fields.getD i fld0).static = false := h3
            have hf : fldF (c.fields.getD i fld0) = [wField, (c.fields.getD i fld0).name, wColon] ++ (kindW (c.fields.getD i fld0).type ++ [wSemi]) := by unfold fldF; rw [if_neg (by rw [h3]; decide)]
            refine ⟨by kernel_rfl, ?_⟩
            refine ⟨ByteArray, strC, noS, [wField, (c.fields.getD i fld0).name, wColon], ⟨rfl, fun _ => rfl⟩, ⟨.refl _, .refl _, .refl _, trivial⟩, rfl, ?_⟩
            refine ⟨ByteArray, strC, noS, doC1 c ++ (c.fields.take i).flatMap fldF, [wField, (c.fields.getD i fld0).name, wColon], 32, ⟨.refl _, .own ..⟩, fun _ => rfl, (by simp only [List.length_append, List.length_cons, List.length_nil]; omega), ?_⟩
            refine ⟨(c.fields.getD i fld0).type, ⟨.refl _, trivial⟩, rfl, trivial, ?_⟩
            refine ⟨ByteArray, strC, noS, doC1 c ++ (c.fields.take i).flatMap fldF ++ [wField, (c.fields.getD i fld0).name, wColon], kindW (c.fields.getD i fld0).type, 47, ⟨.refl _, .own ..⟩, fun _ => rfl, (by simp only [List.length_append, List.length_cons, List.length_nil]; omega), ?_⟩
            refine ⟨ByteArray, strC, noS, [wSemi], ⟨rfl, fun _ => rfl⟩, ⟨.refl _, trivial⟩, rfl, ?_⟩
            refine ⟨ByteArray, strC, noS, doC1 c ++ (c.fields.take i).flatMap fldF ++ [wField, (c.fields.getD i fld0).name, wColon] ++ kindW (c.fields.getD i fld0).type, [wSemi], 51, ⟨.refl _, .refl _⟩, fun _ => rfl, (by simp only [List.length_append, List.length_cons, List.length_nil]; omega), ?_⟩
            exact ⟨(i + 1, true), hlt, by show c.fields.length - (i + 1) < c.fields.length - i; omega, ⟨rfl, rfl⟩, .refl _, .ownEq (by rw [hs, hf]; simp), .refl _, .int hwj, .refl _, ⟨.refl _, .refl _, .refl _, .refl _, .refl _, .refl _, trivial⟩, trivial⟩
        · have hge : i = c.fields.length := by have := of_decide_eq_false h; omega
          have hcb := hfl c.fields.length
          rw [List.take_length] at hcb
          clear hwj hbi h hi hi1
          refine ⟨Nat × Bool, fun s => [(3, .own ByteArray 1 strC noS (doC1 c ++ c.fields.flatMap fldF ++ (c.methods.take s.1).flatMap doesF) (cond s.2 65 32)), (57, I c.methods.length), (56, .row Meth 9 methC meth0 c.methods), (58, I s.1)], fun _ => [], fun s => s.1 ≤ c.methods.length, fun s => c.methods.length - s.1,
            ⟨(0, false), Nat.zero_le _, ⟨⟨rfl, rfl⟩, .ownEq (by rw [hge, List.take_length]; simp), .refl _, .refl _, .refl _, trivial⟩⟩, fun ((i, b) : Nat × Bool) hi => ?_⟩
          have hi1 : i ≤ c.methods.length := hi
          have hwj : IntKind.i64.wrap ((i : Int) + 1) = ((i + 1 : Nat) : Int) := by rw [wrap_eq _ (by omega) (by omega)]; omega
          have hbi := hml i
          cases b
          case false =>
            refine ⟨fun h => ?_, fun h => ?_⟩
            · have hlt : i < c.methods.length := by have := of_decide_eq_true h; omega
              have hs := flat_snoc doesF c.methods meth0 i hlt
              have hmo := hp5.2 _ (getT_mem c.methods meth0 i hlt)
              have hdl := does_len hmo
              refine ⟨⟨by omega, by omega⟩, ?_⟩
              refine ⟨c.methods.getD i meth0, ⟨.refl _, trivial⟩, rfl, hmo, ?_⟩
              refine ⟨ByteArray, strC, noS, doC1 c ++ c.fields.flatMap fldF ++ (c.methods.take i).flatMap doesF, doesF (c.methods.getD i meth0), 32, ⟨.refl _, .own ..⟩, fun _ => rfl, (by simp only [List.length_append]; omega), ?_⟩
              exact ⟨(i + 1, true), hlt, by show c.methods.length - (i + 1) < c.methods.length - i; omega, ⟨rfl, rfl⟩, .ownEq (by rw [hs]; simp), .refl _, .refl _, .int hwj, trivial⟩
            · have hge2 : i = c.methods.length := by have := of_decide_eq_false h; omega
              refine ⟨ByteArray, strC, noS, [wRc], ⟨rfl, fun _ => rfl⟩, ⟨.refl _, trivial⟩, rfl, ?_⟩
              refine ⟨ByteArray, strC, noS, doC1 c ++ c.fields.flatMap fldF ++ (c.methods.take i).flatMap doesF, [wRc], 32, ⟨.refl _, .own ..⟩, fun _ => rfl, (by simp only [List.length_append, List.length_cons, List.length_nil]; omega), ?_⟩
              exact ⟨.ownEq (by rw [wordsC_eq, hge2, List.take_length]), rfl⟩
          case true =>
            refine ⟨fun h => ?_, fun h => ?_⟩
            · have hlt : i < c.methods.length := by have := of_decide_eq_true h; omega
              have hs := flat_snoc doesF c.methods meth0 i hlt
              have hmo := hp5.2 _ (getT_mem c.methods meth0 i hlt)
              have hdl := does_len hmo
              refine ⟨⟨by omega, by omega⟩, ?_⟩
              refine ⟨c.methods.getD i meth0, ⟨.refl _, trivial⟩, rfl, hmo, ?_⟩
              refine ⟨ByteArray, strC, noS, doC1 c ++ c.fields.flatMap fldF ++ (c.methods.take i).flatMap doesF, doesF (c.methods.getD i meth0), 65, ⟨.refl _, .own ..⟩, fun _ => rfl, (by simp only [List.length_append]; omega), ?_⟩
              exact ⟨(i + 1, true), hlt, by show c.methods.length - (i + 1) < c.methods.length - i; omega, ⟨rfl, rfl⟩, .ownEq (by rw [hs]; simp), .refl _, .refl _, .int hwj, trivial⟩
            · have hge2 : i = c.methods.length := by have := of_decide_eq_false h; omega
              refine ⟨ByteArray, strC, noS, [wRc], ⟨rfl, fun _ => rfl⟩, ⟨.refl _, trivial⟩, rfl, ?_⟩
              refine ⟨ByteArray, strC, noS, doC1 c ++ c.fields.flatMap fldF ++ (c.methods.take i).flatMap doesF, [wRc], 65, ⟨.refl _, .own ..⟩, fun _ => rfl, (by simp only [List.length_append, List.length_cons, List.length_nil]; omega), ?_⟩
              exact ⟨.ownEq (by rw [wordsC_eq, hge2, List.take_length]), rfl⟩
      case true =>
        refine ⟨fun h => ?_, fun h => ?_⟩
        · have hlt : i < c.fields.length := by have := of_decide_eq_true h; omega
          have hs := flat_snoc fldF c.fields fld0 i hlt
          have hk := kindW_len (c.fields.getD i fld0).type
          refine ⟨⟨by omega, by omega⟩, ?_⟩
          refine ⟨fun h3 => ?_, fun h3 => ?_⟩
          · have h3 : (c.fields.getD i fld0).static = true := h3
            have hf : fldF (c.fields.getD i fld0) = [wStatic, (c.fields.getD i fld0).name, wColon] ++ (kindW (c.fields.getD i fld0).type ++ [wSemi]) := by unfold fldF; rw [if_pos h3]
            refine ⟨by kernel_rfl, ?_⟩
            refine ⟨ByteArray, strC, noS, [wStatic, (c.fields.getD i fld0).name, wColon], ⟨rfl, fun _ => rfl⟩, ⟨.refl _, .refl _, .refl _, trivial⟩, rfl, ?_⟩
            refine ⟨ByteArray, strC, noS, doC1 c ++ (c.fields.take i).flatMap fldF, [wStatic, (c.fields.getD i fld0).name, wColon], 53, ⟨.refl _, .own ..⟩, fun _ => rfl, (by simp only [List.length_append, List.length_cons, List.length_nil]; omega), ?_⟩
            refine ⟨(c.fields.getD i fld0).type, ⟨.refl _, trivial⟩, rfl, trivial, ?_⟩
            refine ⟨ByteArray, strC, noS, doC1 c ++ (c.fields.take i).flatMap fldF ++ [wStatic, (c.fields.getD i fld0).name, wColon], kindW (c.fields.getD i fld0).type, 47, ⟨.refl _, .own ..⟩, fun _ => rfl, (by simp only [List.length_append, List.length_cons, List.length_nil]; omega), ?_⟩
            refine ⟨ByteArray, strC, noS, [wSemi], ⟨rfl, fun _ => rfl⟩, ⟨.refl _, trivial⟩, rfl, ?_⟩
            refine ⟨ByteArray, strC, noS, doC1 c ++ (c.fields.take i).flatMap fldF ++ [wStatic, (c.fields.getD i fld0).name, wColon] ++ kindW (c.fields.getD i fld0).type, [wSemi], 51, ⟨.refl _, .refl _⟩, fun _ => rfl, (by simp only [List.length_append, List.length_cons, List.length_nil]; omega), ?_⟩
            exact ⟨(i + 1, true), hlt, by show c.fields.length - (i + 1) < c.fields.length - i; omega, ⟨rfl, rfl⟩, .refl _, .ownEq (by rw [hs, hf]; simp), .refl _, .int hwj, .refl _, ⟨.refl _, .refl _, .refl _, .refl _, .refl _, .refl _, trivial⟩, trivial⟩
          · have h3 : (c.fields.getD i fld0).static = false := h3
            have hf : fldF (c.fields.getD i fld0) = [wField, (c.fields.getD i fld0).name, wColon] ++ (kindW (c.fields.getD i fld0).type ++ [wSemi]) := by unfold fldF; rw [if_neg (by rw [h3]; decide)]
            refine ⟨by kernel_rfl, ?_⟩
            refine ⟨ByteArray, strC, noS, [wField, (c.fields.getD i fld0).name, wColon], ⟨rfl, fun _ => rfl⟩, ⟨.refl _, .refl _, .refl _, trivial⟩, rfl, ?_⟩
            refine ⟨ByteArray, strC, noS, doC1 c ++ (c.fields.take i).flatMap fldF, [wField, (c.fields.getD i fld0).name, wColon], 53, ⟨.refl _, .own ..⟩, fun _ => rfl, (by simp only [List.length_append, List.length_cons, List.length_nil]; omega), ?_⟩
            refine ⟨(c.fields.getD i fld0).type, ⟨.refl _, trivial⟩, rfl, trivial, ?_⟩
            refine ⟨ByteArray, strC, noS, doC1 c ++ (c.fields.take i).flatMap fldF ++ [wField, (c.fields.getD i fld0).name, wColon], kindW (c.fields.getD i fld0).type, 47, ⟨.refl _, .own ..⟩, fun _ => rfl, (by simp only [List.length_append, List.length_cons, List.length_nil]; omega), ?_⟩
            refine ⟨ByteArray, strC, noS, [wSemi], ⟨rfl, fun _ => rfl⟩, ⟨.refl _, trivial⟩, rfl, ?_⟩
            refine ⟨ByteArray, strC, noS, doC1 c ++ (c.fields.take i).flatMap fldF ++ [wField, (c.fields.getD i fld0).name, wColon] ++ kindW (c.fields.getD i fld0).type, [wSemi], 51, ⟨.refl _, .refl _⟩, fun _ => rfl, (by simp only [List.length_append, List.length_cons, List.length_nil]; omega), ?_⟩
            exact ⟨(i + 1, true), hlt, by show c.fields.length - (i + 1) < c.fields.length - i; omega, ⟨rfl, rfl⟩, .refl _, .ownEq (by rw [hs, hf]; simp), .refl _, .int hwj, .refl _, ⟨.refl _, .refl _, .refl _, .refl _, .refl _, .refl _, trivial⟩, trivial⟩
        · have hge : i = c.fields.length := by have := of_decide_eq_false h; omega
          have hcb := hfl c.fields.length
          rw [List.take_length] at hcb
          clear hwj hbi h hi hi1
          refine ⟨Nat × Bool, fun s => [(3, .own ByteArray 1 strC noS (doC1 c ++ c.fields.flatMap fldF ++ (c.methods.take s.1).flatMap doesF) (cond s.2 65 53)), (57, I c.methods.length), (56, .row Meth 9 methC meth0 c.methods), (58, I s.1)], fun _ => [], fun s => s.1 ≤ c.methods.length, fun s => c.methods.length - s.1,
            ⟨(0, false), Nat.zero_le _, ⟨⟨rfl, rfl⟩, .ownEq (by rw [hge, List.take_length]; simp), .refl _, .refl _, .refl _, trivial⟩⟩, fun ((i, b) : Nat × Bool) hi => ?_⟩
          have hi1 : i ≤ c.methods.length := hi
          have hwj : IntKind.i64.wrap ((i : Int) + 1) = ((i + 1 : Nat) : Int) := by rw [wrap_eq _ (by omega) (by omega)]; omega
          have hbi := hml i
          cases b
          case false =>
            refine ⟨fun h => ?_, fun h => ?_⟩
            · have hlt : i < c.methods.length := by have := of_decide_eq_true h; omega
              have hs := flat_snoc doesF c.methods meth0 i hlt
              have hmo := hp5.2 _ (getT_mem c.methods meth0 i hlt)
              have hdl := does_len hmo
              refine ⟨⟨by omega, by omega⟩, ?_⟩
              refine ⟨c.methods.getD i meth0, ⟨.refl _, trivial⟩, rfl, hmo, ?_⟩
              refine ⟨ByteArray, strC, noS, doC1 c ++ c.fields.flatMap fldF ++ (c.methods.take i).flatMap doesF, doesF (c.methods.getD i meth0), 53, ⟨.refl _, .own ..⟩, fun _ => rfl, (by simp only [List.length_append]; omega), ?_⟩
              exact ⟨(i + 1, true), hlt, by show c.methods.length - (i + 1) < c.methods.length - i; omega, ⟨rfl, rfl⟩, .ownEq (by rw [hs]; simp), .refl _, .refl _, .int hwj, trivial⟩
            · have hge2 : i = c.methods.length := by have := of_decide_eq_false h; omega
              refine ⟨ByteArray, strC, noS, [wRc], ⟨rfl, fun _ => rfl⟩, ⟨.refl _, trivial⟩, rfl, ?_⟩
              refine ⟨ByteArray, strC, noS, doC1 c ++ c.fields.flatMap fldF ++ (c.methods.take i).flatMap doesF, [wRc], 53, ⟨.refl _, .own ..⟩, fun _ => rfl, (by simp only [List.length_append, List.length_cons, List.length_nil]; omega), ?_⟩
              exact ⟨.ownEq (by rw [wordsC_eq, hge2, List.take_length]), rfl⟩
          case true =>
            refine ⟨fun h => ?_, fun h => ?_⟩
            · have hlt : i < c.methods.length := by have := of_decide_eq_true h; omega
              have hs := flat_snoc doesF c.methods meth0 i hlt
              have hmo := hp5.2 _ (getT_mem c.methods meth0 i hlt)
              have hdl := does_len hmo
              refine ⟨⟨by omega, by omega⟩, ?_⟩
              refine ⟨c.methods.getD i meth0, ⟨.refl _, trivial⟩, rfl, hmo, ?_⟩
              refine ⟨ByteArray, strC, noS, doC1 c ++ c.fields.flatMap fldF ++ (c.methods.take i).flatMap doesF, doesF (c.methods.getD i meth0), 65, ⟨.refl _, .own ..⟩, fun _ => rfl, (by simp only [List.length_append]; omega), ?_⟩
              exact ⟨(i + 1, true), hlt, by show c.methods.length - (i + 1) < c.methods.length - i; omega, ⟨rfl, rfl⟩, .ownEq (by rw [hs]; simp), .refl _, .refl _, .int hwj, trivial⟩
            · have hge2 : i = c.methods.length := by have := of_decide_eq_false h; omega
              refine ⟨ByteArray, strC, noS, [wRc], ⟨rfl, fun _ => rfl⟩, ⟨.refl _, trivial⟩, rfl, ?_⟩
              refine ⟨ByteArray, strC, noS, doC1 c ++ c.fields.flatMap fldF ++ (c.methods.take i).flatMap doesF, [wRc], 65, ⟨.refl _, .own ..⟩, fun _ => rfl, (by simp only [List.length_append, List.length_cons, List.length_nil]; omega), ?_⟩
              exact ⟨.ownEq (by rw [wordsC_eq, hge2, List.take_length]), rfl⟩
    · have hs : supC c = [] := by
        have hs : (!(c.super.toList == (⟨#[]⟩ : ByteArray).toList)) = false := hs
        rw [hns] at hs
        unfold supC; rw [if_pos (by simpa using hs)]
      refine ⟨(if c.iface then wExtends else wImplements, c.ifaces), ⟨.refl _, .refl _, trivial⟩, rfl, (show c.ifaces.length ≤ 100000 by omega), ?_⟩
      rcases Nat.eq_zero_or_pos c.ifaces.length with hz | hz
      · have hnil : lstC c = [] := by unfold lstC; rw [List.length_eq_zero_iff.1 hz]; rfl
        refine .inr ⟨.ownRow hnil, ?_⟩
        refine ⟨ByteArray, strC, noS, [wLc], ⟨rfl, fun _ => rfl⟩, ⟨.refl _, trivial⟩, rfl, ?_⟩
        refine .inl ⟨[wLc], ⟨rfl, Nat.le_refl _, Nat.succ_pos _, .own ..⟩, (show (2 + 1) * 16 ≤ 140737488355328 by omega), ?_⟩
        have hdo : hdC c ++ [wLc] = doC1 c := by unfold doC1; rw [hs, hnil]; simp
        refine ⟨Nat × Bool, fun s => [(1, .box 1 0), (3, .own ByteArray 1 strC noS (doC1 c ++ (c.fields.take s.1).flatMap fldF) (cond s.2 53 32)), (35, I c.fields.length), (36, I s.1), (34, .row Fld 4 fldC fld0 c.fields)], fun _ => [(1, clsC c)], fun s => s.1 ≤ c.fields.length, fun s => c.fields.length - s.1,
          ⟨(0, false), Nat.zero_le _, ⟨⟨rfl, rfl⟩, .refl _, .ownEq (by rw [← hdo]; simp [hdC]), .refl _, .refl _, .refl _, ⟨.refl _, .refl _, .refl _, .refl _, .refl _, .refl _, trivial⟩, trivial⟩⟩, fun ((i, b) : Nat × Bool) hi => ?_⟩
        have hi1 : i ≤ c.fields.length := hi
        have hwj : IntKind.i64.wrap ((i : Int) + 1) = ((i + 1 : Nat) : Int) := by rw [wrap_eq _ (by omega) (by omega)]; omega
        have hbi := hfl i
        cases b
        case false =>
          refine ⟨fun h => ?_, fun h => ?_⟩
          · have hlt : i < c.fields.length := by have := of_decide_eq_true h; omega
            have hs := flat_snoc fldF c.fields fld0 i hlt
            have hk := kindW_len (c.fields.getD i fld0).type
            refine ⟨⟨by omega, by omega⟩, ?_⟩
            refine ⟨fun h3 => ?_, fun h3 => ?_⟩
            · have h3 : (c.fields.getD i fld0).static = true := h3
              have hf : fldF (c.fields.getD i fld0) = [wStatic, (c.fields.getD i fld0).name, wColon] ++ (kindW (c.fields.getD i fld0).type ++ [wSemi]) := by unfold fldF; rw [if_pos h3]
              refine ⟨by kernel_rfl, ?_⟩
              refine ⟨ByteArray, strC, noS, [wStatic, (c.fields.getD i fld0).name, wColon], ⟨rfl, fun _ => rfl⟩, ⟨.refl _, .refl _, .refl _, trivial⟩, rfl, ?_⟩
              refine ⟨ByteArray, strC, noS, doC1 c ++ (c.fields.take i).flatMap fldF, [wStatic, (c.fields.getD i fld0).name, wColon], 32, ⟨.refl _, .own ..⟩, fun _ => rfl, (by simp only [List.length_append, List.length_cons, List.length_nil]; omega), ?_⟩
              refine ⟨(c.fields.getD i fld0).type, ⟨.refl _, trivial⟩, rfl, trivial, ?_⟩
              refine ⟨ByteArray, strC, noS, doC1 c ++ (c.fields.take i).flatMap fldF ++ [wStatic, (c.fields.getD i fld0).name, wColon], kindW (c.fields.getD i fld0).type, 47, ⟨.refl _, .own ..⟩, fun _ => rfl, (by simp only [List.length_append, List.length_cons, List.length_nil]; omega), ?_⟩
              refine ⟨ByteArray, strC, noS, [wSemi], ⟨rfl, fun _ => rfl⟩, ⟨.refl _, trivial⟩, rfl, ?_⟩
              refine ⟨ByteArray, strC, noS, doC1 c ++ (c.fields.take i).flatMap fldF ++ [wStatic, (c.fields.getD i fld0).name, wColon] ++ kindW (c.fields.getD i fld0).type, [wSemi], 51, ⟨.refl _, .refl _⟩, fun _ => rfl, (by simp only [List.length_append, List.length_cons, List.length_nil]; omega), ?_⟩
              exact ⟨(i + 1, true), hlt, by show c.fields.length - (i + 1) < c.fields.length - i; omega, ⟨rfl, rfl⟩, .refl _, .ownEq (by rw [hs, hf]; simp), .refl _, .int hwj, .refl _, ⟨.refl _, .refl _, .refl _, .refl _, .refl _, .refl _, trivial⟩, trivial⟩
            · have h3 : (c.fields.getD i fld0).static = false := h3
              have hf : fldF (c.fields.getD i fld0) = [wField, (c.fields.getD i fld0).name, wColon] ++ (kindW (c.fields.getD i fld0).type ++ [wSemi]) := by unfold fldF; rw [if_neg (by rw [h3]; decide)]
              refine ⟨by kernel_rfl, ?_⟩
              refine ⟨ByteArray, strC, noS, [wField, (c.fields.getD i fld0).name, wColon], ⟨rfl, fun _ => rfl⟩, ⟨.refl _, .refl _, .refl _, trivial⟩, rfl, ?_⟩
              refine ⟨ByteArray, strC, noS, doC1 c ++ (c.fields.take i).flatMap fldF, [wField, (c.fields.getD i fld0).name, wColon], 32, ⟨.refl _, .own ..⟩, fun _ => rfl, (by simp only [List.length_append, List.length_cons, List.length_nil]; omega), ?_⟩
              refine ⟨(c.fields.getD i fld0).type, ⟨.refl _, trivial⟩, rfl, trivial, ?_⟩
              refine ⟨ByteArray, strC, noS, doC1 c ++ (c.fields.take i).flatMap fldF ++ [wField, (c.fields.getD i fld0).name, wColon], kindW (c.fields.getD i fld0).type, 47, ⟨.refl _, .own ..⟩, fun _ => rfl, (by simp only [List.length_append, List.length_cons, List.length_nil]; omega), ?_⟩
              refine ⟨ByteArray, strC, noS, [wSemi], ⟨rfl, fun _ => rfl⟩, ⟨.refl _, trivial⟩, rfl, ?_⟩
              refine ⟨ByteArray, strC, noS, doC1 c ++ (c.fields.take i).flatMap fldF ++ [wField, (c.fields.getD i fld0).name, wColon] ++ kindW (c.fields.getD i fld0).type, [wSemi], 51, ⟨.refl _, .refl _⟩, fun _ => rfl, (by simp only [List.length_append, List.length_cons, List.length_nil]; omega), ?_⟩
              exact ⟨(i + 1, true), hlt, by show c.fields.length - (i + 1) < c.fields.length - i; omega, ⟨rfl, rfl⟩, .refl _, .ownEq (by rw [hs, hf]; simp), .refl _, .int hwj, .refl _, ⟨.refl _, .refl _, .refl _, .refl _, .refl _, .refl _, trivial⟩, trivial⟩
          · have hge : i = c.fields.length := by have := of_decide_eq_false h; omega
            have hcb := hfl c.fields.length
            rw [List.take_length] at hcb
            clear hwj hbi h hi hi1
            refine ⟨Nat × Bool, fun s => [(3, .own ByteArray 1 strC noS (doC1 c ++ c.fields.flatMap fldF ++ (c.methods.take s.1).flatMap doesF) (cond s.2 65 32)), (57, I c.methods.length), (56, .row Meth 9 methC meth0 c.methods), (58, I s.1)], fun _ => [], fun s => s.1 ≤ c.methods.length, fun s => c.methods.length - s.1,
              ⟨(0, false), Nat.zero_le _, ⟨⟨rfl, rfl⟩, .ownEq (by rw [hge, List.take_length]; simp), .refl _, .refl _, .refl _, trivial⟩⟩, fun ((i, b) : Nat × Bool) hi => ?_⟩
            have hi1 : i ≤ c.methods.length := hi
            have hwj : IntKind.i64.wrap ((i : Int) + 1) = ((i + 1 : Nat) : Int) := by rw [wrap_eq _ (by omega) (by omega)]; omega
            have hbi := hml i
            cases b
            case false =>
              refine ⟨fun h => ?_, fun h => ?_⟩
              · have hlt : i < c.methods.length := by have := of_decide_eq_true h; omega
                have hs := flat_snoc doesF c.methods meth0 i hlt
                have hmo := hp5.2 _ (getT_mem c.methods meth0 i hlt)
                have hdl := does_len hmo
                refine ⟨⟨by omega, by omega⟩, ?_⟩
                refine ⟨c.methods.getD i meth0, ⟨.refl _, trivial⟩, rfl, hmo, ?_⟩
                refine ⟨ByteArray, strC, noS, doC1 c ++ c.fields.flatMap fldF ++ (c.methods.take i).flatMap doesF, doesF (c.methods.getD i meth0), 32, ⟨.refl _, .own ..⟩, fun _ => rfl, (by simp only [List.length_append]; omega), ?_⟩
                exact ⟨(i + 1, true), hlt, by show c.methods.length - (i + 1) < c.methods.length - i; omega, ⟨rfl, rfl⟩, .ownEq (by rw [hs]; simp), .refl _, .refl _, .int hwj, trivial⟩
              · have hge2 : i = c.methods.length := by have := of_decide_eq_false h; omega
                refine ⟨ByteArray, strC, noS, [wRc], ⟨rfl, fun _ => rfl⟩, ⟨.refl _, trivial⟩, rfl, ?_⟩
                refine ⟨ByteArray, strC, noS, doC1 c ++ c.fields.flatMap fldF ++ (c.methods.take i).flatMap doesF, [wRc], 32, ⟨.refl _, .own ..⟩, fun _ => rfl, (by simp only [List.length_append, List.length_cons, List.length_nil]; omega), ?_⟩
                exact ⟨.ownEq (by rw [wordsC_eq, hge2, List.take_length]), rfl⟩
            case true =>
              refine ⟨fun h => ?_, fun h => ?_⟩
              · have hlt : i < c.methods.length := by have := of_decide_eq_true h; omega
                have hs := flat_snoc doesF c.methods meth0 i hlt
                have hmo := hp5.2 _ (getT_mem c.methods meth0 i hlt)
                have hdl := does_len hmo
                refine ⟨⟨by omega, by omega⟩, ?_⟩
                refine ⟨c.methods.getD i meth0, ⟨.refl _, trivial⟩, rfl, hmo, ?_⟩
                refine ⟨ByteArray, strC, noS, doC1 c ++ c.fields.flatMap fldF ++ (c.methods.take i).flatMap doesF, doesF (c.methods.getD i meth0), 65, ⟨.refl _, .own ..⟩, fun _ => rfl, (by simp only [List.length_append]; omega), ?_⟩
                exact ⟨(i + 1, true), hlt, by show c.methods.length - (i + 1) < c.methods.length - i; omega, ⟨rfl, rfl⟩, .ownEq (by rw [hs]; simp), .refl _, .refl _, .int hwj, trivial⟩
              · have hge2 : i = c.methods.length := by have := of_decide_eq_false h; omega
                refine ⟨ByteArray, strC, noS, [wRc], ⟨rfl, fun _ => rfl⟩, ⟨.refl _, trivial⟩, rfl, ?_⟩
                refine ⟨ByteArray, strC, noS, doC1 c ++ c.fields.flatMap fldF ++ (c.methods.take i).flatMap doesF, [wRc], 65, ⟨.refl _, .own ..⟩, fun _ => rfl, (by simp only [List.length_append, List.length_cons, List.length_nil]; omega), ?_⟩
                exact ⟨.ownEq (by rw [wordsC_eq, hge2, List.take_length]), rfl⟩
        case true =>
          refine ⟨fun h => ?_, fun h => ?_⟩
          · have hlt : i < c.fields.length := by have := of_decide_eq_true h; omega
            have hs := flat_snoc fldF c.fields fld0 i hlt
            have hk := kindW_len (c.fields.getD i fld0).type
            refine ⟨⟨by omega, by omega⟩, ?_⟩
            refine ⟨fun h3 => ?_, fun h3 => ?_⟩
            · have h3 : (c.fields.getD i fld0).static = true := h3
              have hf : fldF (c.fields.getD i fld0) = [wStatic, (c.fields.getD i fld0).name, wColon] ++ (kindW (c.fields.getD i fld0).type ++ [wSemi]) := by unfold fldF; rw [if_pos h3]
              refine ⟨by kernel_rfl, ?_⟩
              refine ⟨ByteArray, strC, noS, [wStatic, (c.fields.getD i fld0).name, wColon], ⟨rfl, fun _ => rfl⟩, ⟨.refl _, .refl _, .refl _, trivial⟩, rfl, ?_⟩
              refine ⟨ByteArray, strC, noS, doC1 c ++ (c.fields.take i).flatMap fldF, [wStatic, (c.fields.getD i fld0).name, wColon], 53, ⟨.refl _, .own ..⟩, fun _ => rfl, (by simp only [List.length_append, List.length_cons, List.length_nil]; omega), ?_⟩
              refine ⟨(c.fields.getD i fld0).type, ⟨.refl _, trivial⟩, rfl, trivial, ?_⟩
              refine ⟨ByteArray, strC, noS, doC1 c ++ (c.fields.take i).flatMap fldF ++ [wStatic, (c.fields.getD i fld0).name, wColon], kindW (c.fields.getD i fld0).type, 47, ⟨.refl _, .own ..⟩, fun _ => rfl, (by simp only [List.length_append, List.length_cons, List.length_nil]; omega), ?_⟩
              refine ⟨ByteArray, strC, noS, [wSemi], ⟨rfl, fun _ => rfl⟩, ⟨.refl _, trivial⟩, rfl, ?_⟩
              refine ⟨ByteArray, strC, noS, doC1 c ++ (c.fields.take i).flatMap fldF ++ [wStatic, (c.fields.getD i fld0).name, wColon] ++ kindW (c.fields.getD i fld0).type, [wSemi], 51, ⟨.refl _, .refl _⟩, fun _ => rfl, (by simp only [List.length_append, List.length_cons, List.length_nil]; omega), ?_⟩
              exact ⟨(i + 1, true), hlt, by show c.fields.length - (i + 1) < c.fields.length - i; omega, ⟨rfl, rfl⟩, .refl _, .ownEq (by rw [hs, hf]; simp), .refl _, .int hwj, .refl _, ⟨.refl _, .refl _, .refl _, .refl _, .refl _, .refl _, trivial⟩, trivial⟩
            · have h3 : (c.fields.getD i fld0).static = false := h3
              have hf : fldF (c.fields.getD i fld0) = [wField, (c.fields.getD i fld0).name, wColon] ++ (kindW (c.fields.getD i fld0).type ++ [wSemi]) := by unfold fldF; rw [if_neg (by rw [h3]; decide)]
              refine ⟨by kernel_rfl, ?_⟩
              refine ⟨ByteArray, strC, noS, [wField, (c.fields.getD i fld0).name, wColon], ⟨rfl, fun _ => rfl⟩, ⟨.refl _, .refl _, .refl _, trivial⟩, rfl, ?_⟩
              refine ⟨ByteArray, strC, noS, doC1 c ++ (c.fields.take i).flatMap fldF, [wField, (c.fields.getD i fld0).name, wColon], 53, ⟨.refl _, .own ..⟩, fun _ => rfl, (by simp only [List.length_append, List.length_cons, List.length_nil]; omega), ?_⟩
              refine ⟨(c.fields.getD i fld0).type, ⟨.refl _, trivial⟩, rfl, trivial, ?_⟩
              refine ⟨ByteArray, strC, noS, doC1 c ++ (c.fields.take i).flatMap fldF ++ [wField, (c.fields.getD i fld0).name, wColon], kindW (c.fields.getD i fld0).type, 47, ⟨.refl _, .own ..⟩, fun _ => rfl, (by simp only [List.length_append, List.length_cons, List.length_nil]; omega), ?_⟩
              refine ⟨ByteArray, strC, noS, [wSemi], ⟨rfl, fun _ => rfl⟩, ⟨.refl _, trivial⟩, rfl, ?_⟩
              refine ⟨ByteArray, strC, noS, doC1 c ++ (c.fields.take i).flatMap fldF ++ [wField, (c.fields.getD i fld0).name, wColon] ++ kindW (c.fields.getD i fld0).type, [wSemi], 51, ⟨.refl _, .refl _⟩, fun _ => rfl, (by simp only [List.length_append, List.length_cons, List.length_nil]; omega), ?_⟩
              exact ⟨(i + 1, true), hlt, by show c.fields.length - (i + 1) < c.fields.length - i; omega, ⟨rfl, rfl⟩, .refl _, .ownEq (by rw [hs, hf]; simp), .refl _, .int hwj, .refl _, ⟨.refl _, .refl _, .refl _, .refl _, .refl _, .refl _, trivial⟩, trivial⟩
          · have hge : i = c.fields.length := by have := of_decide_eq_false h; omega
            have hcb := hfl c.fields.length
            rw [List.take_length] at hcb
            clear hwj hbi h hi hi1
            refine ⟨Nat × Bool, fun s => [(3, .own ByteArray 1 strC noS (doC1 c ++ c.fields.flatMap fldF ++ (c.methods.take s.1).flatMap doesF) (cond s.2 65 53)), (57, I c.methods.length), (56, .row Meth 9 methC meth0 c.methods), (58, I s.1)], fun _ => [], fun s => s.1 ≤ c.methods.length, fun s => c.methods.length - s.1,
              ⟨(0, false), Nat.zero_le _, ⟨⟨rfl, rfl⟩, .ownEq (by rw [hge, List.take_length]; simp), .refl _, .refl _, .refl _, trivial⟩⟩, fun ((i, b) : Nat × Bool) hi => ?_⟩
            have hi1 : i ≤ c.methods.length := hi
            have hwj : IntKind.i64.wrap ((i : Int) + 1) = ((i + 1 : Nat) : Int) := by rw [wrap_eq _ (by omega) (by omega)]; omega
            have hbi := hml i
            cases b
            case false =>
              refine ⟨fun h => ?_, fun h => ?_⟩
              · have hlt : i < c.methods.length := by have := of_decide_eq_true h; omega
                have hs := flat_snoc doesF c.methods meth0 i hlt
                have hmo := hp5.2 _ (getT_mem c.methods meth0 i hlt)
                have hdl := does_len hmo
                refine ⟨⟨by omega, by omega⟩, ?_⟩
                refine ⟨c.methods.getD i meth0, ⟨.refl _, trivial⟩, rfl, hmo, ?_⟩
                refine ⟨ByteArray, strC, noS, doC1 c ++ c.fields.flatMap fldF ++ (c.methods.take i).flatMap doesF, doesF (c.methods.getD i meth0), 53, ⟨.refl _, .own ..⟩, fun _ => rfl, (by simp only [List.length_append]; omega), ?_⟩
                exact ⟨(i + 1, true), hlt, by show c.methods.length - (i + 1) < c.methods.length - i; omega, ⟨rfl, rfl⟩, .ownEq (by rw [hs]; simp), .refl _, .refl _, .int hwj, trivial⟩
              · have hge2 : i = c.methods.length := by have := of_decide_eq_false h; omega
                refine ⟨ByteArray, strC, noS, [wRc], ⟨rfl, fun _ => rfl⟩, ⟨.refl _, trivial⟩, rfl, ?_⟩
                refine ⟨ByteArray, strC, noS, doC1 c ++ c.fields.flatMap fldF ++ (c.methods.take i).flatMap doesF, [wRc], 53, ⟨.refl _, .own ..⟩, fun _ => rfl, (by simp only [List.length_append, List.length_cons, List.length_nil]; omega), ?_⟩
                exact ⟨.ownEq (by rw [wordsC_eq, hge2, List.take_length]), rfl⟩
            case true =>
              refine ⟨fun h => ?_, fun h => ?_⟩
              · have hlt : i < c.methods.length := by have := of_decide_eq_true h; omega
                have hs := flat_snoc doesF c.methods meth0 i hlt
                have hmo := hp5.2 _ (getT_mem c.methods meth0 i hlt)
                have hdl := does_len hmo
                refine ⟨⟨by omega, by omega⟩, ?_⟩
                refine ⟨c.methods.getD i meth0, ⟨.refl _, trivial⟩, rfl, hmo, ?_⟩
                refine ⟨ByteArray, strC, noS, doC1 c ++ c.fields.flatMap fldF ++ (c.methods.take i).flatMap doesF, doesF (c.methods.getD i meth0), 65, ⟨.refl _, .own ..⟩, fun _ => rfl, (by simp only [List.length_append]; omega), ?_⟩
                exact ⟨(i + 1, true), hlt, by show c.methods.length - (i + 1) < c.methods.length - i; omega, ⟨rfl, rfl⟩, .ownEq (by rw [hs]; simp), .refl _, .refl _, .int hwj, trivial⟩
              · have hge2 : i = c.methods.length := by have := of_decide_eq_false h; omega
                refine ⟨ByteArray, strC, noS, [wRc], ⟨rfl, fun _ => rfl⟩, ⟨.refl _, trivial⟩, rfl, ?_⟩
                refine ⟨ByteArray, strC, noS, doC1 c ++ c.fields.flatMap fldF ++ (c.methods.take i).flatMap doesF, [wRc], 65, ⟨.refl _, .own ..⟩, fun _ => rfl, (by simp only [List.length_append, List.length_cons, List.length_nil]; omega), ?_⟩
                exact ⟨.ownEq (by rw [wordsC_eq, hge2, List.take_length]), rfl⟩
      · have hpos : 0 < (lstC c).length := by unfold lstC; omega
        have hlb : (lstC c).length ≤ 8 := by unfold lstC; omega
        refine .inl ⟨lstC c, ⟨rfl, Nat.le_refl _, hpos, .own ..⟩, (show (2 + (lstC c).length) * 16 ≤ 140737488355328 by omega), ?_⟩
        refine ⟨ByteArray, strC, noS, [wLc], ⟨rfl, fun _ => rfl⟩, ⟨.refl _, trivial⟩, rfl, ?_⟩
        refine ⟨ByteArray, strC, noS, hdC c ++ lstC c, [wLc], 30, ⟨.refl _, .own ..⟩, fun _ => rfl, (by unfold hdC; simp only [List.length_append, List.length_cons, List.length_nil]; omega), ?_⟩
        have hdo : hdC c ++ lstC c ++ [wLc] = doC1 c := by unfold doC1; rw [hs]; simp
        refine ⟨Nat × Bool, fun s => [(1, .box 1 0), (3, .own ByteArray 1 strC noS (doC1 c ++ (c.fields.take s.1).flatMap fldF) (cond s.2 53 32)), (35, I c.fields.length), (36, I s.1), (34, .row Fld 4 fldC fld0 c.fields)], fun _ => [(1, clsC c)], fun s => s.1 ≤ c.fields.length, fun s => c.fields.length - s.1,
          ⟨(0, false), Nat.zero_le _, ⟨⟨rfl, rfl⟩, .refl _, .ownEq (by rw [← hdo]; simp [hdC]), .refl _, .refl _, .refl _, ⟨.refl _, .refl _, .refl _, .refl _, .refl _, .refl _, trivial⟩, trivial⟩⟩, fun ((i, b) : Nat × Bool) hi => ?_⟩
        have hi1 : i ≤ c.fields.length := hi
        have hwj : IntKind.i64.wrap ((i : Int) + 1) = ((i + 1 : Nat) : Int) := by rw [wrap_eq _ (by omega) (by omega)]; omega
        have hbi := hfl i
        cases b
        case false =>
          refine ⟨fun h => ?_, fun h => ?_⟩
          · have hlt : i < c.fields.length := by have := of_decide_eq_true h; omega
            have hs := flat_snoc fldF c.fields fld0 i hlt
            have hk := kindW_len (c.fields.getD i fld0).type
            refine ⟨⟨by omega, by omega⟩, ?_⟩
            refine ⟨fun h3 => ?_, fun h3 => ?_⟩
            · have h3 : (c.fields.getD i fld0).static = true := h3
              have hf : fldF (c.fields.getD i fld0) = [wStatic, (c.fields.getD i fld0).name, wColon] ++ (kindW (c.fields.getD i fld0).type ++ [wSemi]) := by unfold fldF; rw [if_pos h3]
              refine ⟨by kernel_rfl, ?_⟩
              refine ⟨ByteArray, strC, noS, [wStatic, (c.fields.getD i fld0).name, wColon], ⟨rfl, fun _ => rfl⟩, ⟨.refl _, .refl _, .refl _, trivial⟩, rfl, ?_⟩
              refine ⟨ByteArray, strC, noS, doC1 c ++ (c.fields.take i).flatMap fldF, [wStatic, (c.fields.getD i fld0).name, wColon], 32, ⟨.refl _, .own ..⟩, fun _ => rfl, (by simp only [List.length_append, List.length_cons, List.length_nil]; omega), ?_⟩
              refine ⟨(c.fields.getD i fld0).type, ⟨.refl _, trivial⟩, rfl, trivial, ?_⟩
              refine ⟨ByteArray, strC, noS, doC1 c ++ (c.fields.take i).flatMap fldF ++ [wStatic, (c.fields.getD i fld0).name, wColon], kindW (c.fields.getD i fld0).type, 47, ⟨.refl _, .own ..⟩, fun _ => rfl, (by simp only [List.length_append, List.length_cons, List.length_nil]; omega), ?_⟩
              refine ⟨ByteArray, strC, noS, [wSemi], ⟨rfl, fun _ => rfl⟩, ⟨.refl _, trivial⟩, rfl, ?_⟩
              refine ⟨ByteArray, strC, noS, doC1 c ++ (c.fields.take i).flatMap fldF ++ [wStatic, (c.fields.getD i fld0).name, wColon] ++ kindW (c.fields.getD i fld0).type, [wSemi], 51, ⟨.refl _, .refl _⟩, fun _ => rfl, (by simp only [List.length_append, List.length_cons, List.length_nil]; omega), ?_⟩
              exact ⟨(i + 1, true), hlt, by show c.fields.length - (i + 1) < c.fields.length - i; omega, ⟨rfl, rfl⟩, .refl _, .ownEq (by rw [hs, hf]; simp), .refl _, .int hwj, .refl _, ⟨.refl _, .refl _, .refl _, .refl _, .refl _, .refl _, trivial⟩, trivial⟩
            · have h3 : (c.fields.getD i fld0).static = false := h3
              have hf : fldF (c.fields.getD i fld0) = [wField, (c.fields.getD i fld0).name, wColon] ++ (kindW (c.fields.getD i fld0).type ++ [wSemi]) := by unfold fldF; rw [if_neg (by rw [h3]; decide)]
              refine ⟨by kernel_rfl, ?_⟩
              refine ⟨ByteArray, strC, noS, [wField, (c.fields.getD i fld0).name, wColon], ⟨rfl, fun _ => rfl⟩, ⟨.refl _, .refl _, .refl _, trivial⟩, rfl, ?_⟩
              refine ⟨ByteArray, strC, noS, doC1 c ++ (c.fields.take i).flatMap fldF, [wField, (c.fields.getD i fld0).name, wColon], 32, ⟨.refl _, .own ..⟩, fun _ => rfl, (by simp only [List.length_append, List.length_cons, List.length_nil]; omega), ?_⟩
              refine ⟨(c.fields.getD i fld0).type, ⟨.refl _, trivial⟩, rfl, trivial, ?_⟩
              refine ⟨ByteArray, strC, noS, doC1 c ++ (c.fields.take i).flatMap fldF ++ [wField, (c.fields.getD i fld0).name, wColon], kindW (c.fields.getD i fld0).type, 47, ⟨.refl _, .own ..⟩, fun _ => rfl, (by simp only [List.length_append, List.length_cons, List.length_nil]; omega), ?_⟩
              refine ⟨ByteArray, strC, noS, [wSemi], ⟨rfl, fun _ => rfl⟩, ⟨.refl _, trivial⟩, rfl, ?_⟩
              refine ⟨ByteArray, strC, noS, doC1 c ++ (c.fields.take i).flatMap fldF ++ [wField, (c.fields.getD i fld0).name, wColon] ++ kindW (c.fields.getD i fld0).type, [wSemi], 51, ⟨.refl _, .refl _⟩, fun _ => rfl, (by simp only [List.length_append, List.length_cons, List.length_nil]; omega), ?_⟩
              exact ⟨(i + 1, true), hlt, by show c.fields.length - (i + 1) < c.fields.length - i; omega, ⟨rfl, rfl⟩, .refl _, .ownEq (by rw [hs, hf]; simp), .refl _, .int hwj, .refl _, ⟨.refl _, .refl _, .refl _, .refl _, .refl _, .refl _, trivial⟩, trivial⟩
          · have hge : i = c.fields.length := by have := of_decide_eq_false h; omega
            have hcb := hfl c.fields.length
            rw [List.take_length] at hcb
            clear hwj hbi h hi hi1
            refine ⟨Nat × Bool, fun s => [(3, .own ByteArray 1 strC noS (doC1 c ++ c.fields.flatMap fldF ++ (c.methods.take s.1).flatMap doesF) (cond s.2 65 32)), (57, I c.methods.length), (56, .row Meth 9 methC meth0 c.methods), (58, I s.1)], fun _ => [], fun s => s.1 ≤ c.methods.length, fun s => c.methods.length - s.1,
              ⟨(0, false), Nat.zero_le _, ⟨⟨rfl, rfl⟩, .ownEq (by rw [hge, List.take_length]; simp), .refl _, .refl _, .refl _, trivial⟩⟩, fun ((i, b) : Nat × Bool) hi => ?_⟩
            have hi1 : i ≤ c.methods.length := hi
            have hwj : IntKind.i64.wrap ((i : Int) + 1) = ((i + 1 : Nat) : Int) := by rw [wrap_eq _ (by omega) (by omega)]; omega
            have hbi := hml i
            cases b
            case false =>
              refine ⟨fun h => ?_, fun h => ?_⟩
              · have hlt : i < c.methods.length := by have := of_decide_eq_true h; omega
                have hs := flat_snoc doesF c.methods meth0 i hlt
                have hmo := hp5.2 _ (getT_mem c.methods meth0 i hlt)
                have hdl := does_len hmo
                refine ⟨⟨by omega, by omega⟩, ?_⟩
                refine ⟨c.methods.getD i meth0, ⟨.refl _, trivial⟩, rfl, hmo, ?_⟩
                refine ⟨ByteArray, strC, noS, doC1 c ++ c.fields.flatMap fldF ++ (c.methods.take i).flatMap doesF, doesF (c.methods.getD i meth0), 32, ⟨.refl _, .own ..⟩, fun _ => rfl, (by simp only [List.length_append]; omega), ?_⟩
                exact ⟨(i + 1, true), hlt, by show c.methods.length - (i + 1) < c.methods.length - i; omega, ⟨rfl, rfl⟩, .ownEq (by rw [hs]; simp), .refl _, .refl _, .int hwj, trivial⟩
              · have hge2 : i = c.methods.length := by have := of_decide_eq_false h; omega
                refine ⟨ByteArray, strC, noS, [wRc], ⟨rfl, fun _ => rfl⟩, ⟨.refl _, trivial⟩, rfl, ?_⟩
                refine ⟨ByteArray, strC, noS, doC1 c ++ c.fields.flatMap fldF ++ (c.methods.take i).flatMap doesF, [wRc], 32, ⟨.refl _, .own ..⟩, fun _ => rfl, (by simp only [List.length_append, List.length_cons, List.length_nil]; omega), ?_⟩
                exact ⟨.ownEq (by rw [wordsC_eq, hge2, List.take_length]), rfl⟩
            case true =>
              refine ⟨fun h => ?_, fun h => ?_⟩
              · have hlt : i < c.methods.length := by have := of_decide_eq_true h; omega
                have hs := flat_snoc doesF c.methods meth0 i hlt
                have hmo := hp5.2 _ (getT_mem c.methods meth0 i hlt)
                have hdl := does_len hmo
                refine ⟨⟨by omega, by omega⟩, ?_⟩
                refine ⟨c.methods.getD i meth0, ⟨.refl _, trivial⟩, rfl, hmo, ?_⟩
                refine ⟨ByteArray, strC, noS, doC1 c ++ c.fields.flatMap fldF ++ (c.methods.take i).flatMap doesF, doesF (c.methods.getD i meth0), 65, ⟨.refl _, .own ..⟩, fun _ => rfl, (by simp only [List.length_append]; omega), ?_⟩
                exact ⟨(i + 1, true), hlt, by show c.methods.length - (i + 1) < c.methods.length - i; omega, ⟨rfl, rfl⟩, .ownEq (by rw [hs]; simp), .refl _, .refl _, .int hwj, trivial⟩
              · have hge2 : i = c.methods.length := by have := of_decide_eq_false h; omega
                refine ⟨ByteArray, strC, noS, [wRc], ⟨rfl, fun _ => rfl⟩, ⟨.refl _, trivial⟩, rfl, ?_⟩
                refine ⟨ByteArray, strC, noS, doC1 c ++ c.fields.flatMap fldF ++ (c.methods.take i).flatMap doesF, [wRc], 65, ⟨.refl _, .own ..⟩, fun _ => rfl, (by simp only [List.length_append, List.length_cons, List.length_nil]; omega), ?_⟩
                exact ⟨.ownEq (by rw [wordsC_eq, hge2, List.take_length]), rfl⟩
        case true =>
          refine ⟨fun h => ?_, fun h => ?_⟩
          · have hlt : i < c.fields.length := by have := of_decide_eq_true h; omega
            have hs := flat_snoc fldF c.fields fld0 i hlt
            have hk := kindW_len (c.fields.getD i fld0).type
            refine ⟨⟨by omega, by omega⟩, ?_⟩
            refine ⟨fun h3 => ?_, fun h3 => ?_⟩
            · have h3 : (c.fields.getD i fld0).static = true := h3
              have hf : fldF (c.fields.getD i fld0) = [wStatic, (c.fields.getD i fld0).name, wColon] ++ (kindW (c.fields.getD i fld0).type ++ [wSemi]) := by unfold fldF; rw [if_pos h3]
              refine ⟨by kernel_rfl, ?_⟩
              refine ⟨ByteArray, strC, noS, [wStatic, (c.fields.getD i fld0).name, wColon], ⟨rfl, fun _ => rfl⟩, ⟨.refl _, .refl _, .refl _, trivial⟩, rfl, ?_⟩
              refine ⟨ByteArray, strC, noS, doC1 c ++ (c.fields.take i).flatMap fldF, [wStatic, (c.fields.getD i fld0).name, wColon], 53, ⟨.refl _, .own ..⟩, fun _ => rfl, (by simp only [List.length_append, List.length_cons, List.length_nil]; omega), ?_⟩
              refine ⟨(c.fields.getD i fld0).type, ⟨.refl _, trivial⟩, rfl, trivial, ?_⟩
              refine ⟨ByteArray, strC, noS, doC1 c ++ (c.fields.take i).flatMap fldF ++ [wStatic, (c.fields.getD i fld0).name, wColon], kindW (c.fields.getD i fld0).type, 47, ⟨.refl _, .own ..⟩, fun _ => rfl, (by simp only [List.length_append, List.length_cons, List.length_nil]; omega), ?_⟩
              refine ⟨ByteArray, strC, noS, [wSemi], ⟨rfl, fun _ => rfl⟩, ⟨.refl _, trivial⟩, rfl, ?_⟩
              refine ⟨ByteArray, strC, noS, doC1 c ++ (c.fields.take i).flatMap fldF ++ [wStatic, (c.fields.getD i fld0).name, wColon] ++ kindW (c.fields.getD i fld0).type, [wSemi], 51, ⟨.refl _, .refl _⟩, fun _ => rfl, (by simp only [List.length_append, List.length_cons, List.length_nil]; omega), ?_⟩
              exact ⟨(i + 1, true), hlt, by show c.fields.length - (i + 1) < c.fields.length - i; omega, ⟨rfl, rfl⟩, .refl _, .ownEq (by rw [hs, hf]; simp), .refl _, .int hwj, .refl _, ⟨.refl _, .refl _, .refl _, .refl _, .refl _, .refl _, trivial⟩, trivial⟩
            · have h3 : (c.fields.getD i fld0).static = false := h3
              have hf : fldF (c.fields.getD i fld0) = [wField, (c.fields.getD i fld0).name, wColon] ++ (kindW (c.fields.getD i fld0).type ++ [wSemi]) := by unfold fldF; rw [if_neg (by rw [h3]; decide)]
              refine ⟨by kernel_rfl, ?_⟩
              refine ⟨ByteArray, strC, noS, [wField, (c.fields.getD i fld0).name, wColon], ⟨rfl, fun _ => rfl⟩, ⟨.refl _, .refl _, .refl _, trivial⟩, rfl, ?_⟩
              refine ⟨ByteArray, strC, noS, doC1 c ++ (c.fields.take i).flatMap fldF, [wField, (c.fields.getD i fld0).name, wColon], 53, ⟨.refl _, .own ..⟩, fun _ => rfl, (by simp only [List.length_append, List.length_cons, List.length_nil]; omega), ?_⟩
              refine ⟨(c.fields.getD i fld0).type, ⟨.refl _, trivial⟩, rfl, trivial, ?_⟩
              refine ⟨ByteArray, strC, noS, doC1 c ++ (c.fields.take i).flatMap fldF ++ [wField, (c.fields.getD i fld0).name, wColon], kindW (c.fields.getD i fld0).type, 47, ⟨.refl _, .own ..⟩, fun _ => rfl, (by simp only [List.length_append, List.length_cons, List.length_nil]; omega), ?_⟩
              refine ⟨ByteArray, strC, noS, [wSemi], ⟨rfl, fun _ => rfl⟩, ⟨.refl _, trivial⟩, rfl, ?_⟩
              refine ⟨ByteArray, strC, noS, doC1 c ++ (c.fields.take i).flatMap fldF ++ [wField, (c.fields.getD i fld0).name, wColon] ++ kindW (c.fields.getD i fld0).type, [wSemi], 51, ⟨.refl _, .refl _⟩, fun _ => rfl, (by simp only [List.length_append, List.length_cons, List.length_nil]; omega), ?_⟩
              exact ⟨(i + 1, true), hlt, by show c.fields.length - (i + 1) < c.fields.length - i; omega, ⟨rfl, rfl⟩, .refl _, .ownEq (by rw [hs, hf]; simp), .refl _, .int hwj, .refl _, ⟨.refl _, .refl _, .refl _, .refl _, .refl _, .refl _, trivial⟩, trivial⟩
          · have hge : i = c.fields.length := by have := of_decide_eq_false h; omega
            have hcb := hfl c.fields.length
            rw [List.take_length] at hcb
            clear hwj hbi h hi hi1
            refine ⟨Nat × Bool, fun s => [(3, .own ByteArray 1 strC noS (doC1 c ++ c.fields.flatMap fldF ++ (c.methods.take s.1).flatMap doesF) (cond s.2 65 53)), (57, I c.methods.length), (56, .row Meth 9 methC meth0 c.methods), (58, I s.1)], fun _ => [], fun s => s.1 ≤ c.methods.length, fun s => c.methods.length - s.1,
              ⟨(0, false), Nat.zero_le _, ⟨⟨rfl, rfl⟩, .ownEq (by rw [hge, List.take_length]; simp), .refl _, .refl _, .refl _, trivial⟩⟩, fun ((i, b) : Nat × Bool) hi => ?_⟩
            have hi1 : i ≤ c.methods.length := hi
            have hwj : IntKind.i64.wrap ((i : Int) + 1) = ((i + 1 : Nat) : Int) := by rw [wrap_eq _ (by omega) (by omega)]; omega
            have hbi := hml i
            cases b
            case false =>
              refine ⟨fun h => ?_, fun h => ?_⟩
              · have hlt : i < c.methods.length := by have := of_decide_eq_true h; omega
                have hs := flat_snoc doesF c.methods meth0 i hlt
                have hmo := hp5.2 _ (getT_mem c.methods meth0 i hlt)
                have hdl := does_len hmo
                refine ⟨⟨by omega, by omega⟩, ?_⟩
                refine ⟨c.methods.getD i meth0, ⟨.refl _, trivial⟩, rfl, hmo, ?_⟩
                refine ⟨ByteArray, strC, noS, doC1 c ++ c.fields.flatMap fldF ++ (c.methods.take i).flatMap doesF, doesF (c.methods.getD i meth0), 53, ⟨.refl _, .own ..⟩, fun _ => rfl, (by simp only [List.length_append]; omega), ?_⟩
                exact ⟨(i + 1, true), hlt, by show c.methods.length - (i + 1) < c.methods.length - i; omega, ⟨rfl, rfl⟩, .ownEq (by rw [hs]; simp), .refl _, .refl _, .int hwj, trivial⟩
              · have hge2 : i = c.methods.length := by have := of_decide_eq_false h; omega
                refine ⟨ByteArray, strC, noS, [wRc], ⟨rfl, fun _ => rfl⟩, ⟨.refl _, trivial⟩, rfl, ?_⟩
                refine ⟨ByteArray, strC, noS, doC1 c ++ c.fields.flatMap fldF ++ (c.methods.take i).flatMap doesF, [wRc], 53, ⟨.refl _, .own ..⟩, fun _ => rfl, (by simp only [List.length_append, List.length_cons, List.length_nil]; omega), ?_⟩
                exact ⟨.ownEq (by rw [wordsC_eq, hge2, List.take_length]), rfl⟩
            case true =>
              refine ⟨fun h => ?_, fun h => ?_⟩
              · have hlt : i < c.methods.length := by have := of_decide_eq_true h; omega
                have hs := flat_snoc doesF c.methods meth0 i hlt
                have hmo := hp5.2 _ (getT_mem c.methods meth0 i hlt)
                have hdl := does_len hmo
                refine ⟨⟨by omega, by omega⟩, ?_⟩
                refine ⟨c.methods.getD i meth0, ⟨.refl _, trivial⟩, rfl, hmo, ?_⟩
                refine ⟨ByteArray, strC, noS, doC1 c ++ c.fields.flatMap fldF ++ (c.methods.take i).flatMap doesF, doesF (c.methods.getD i meth0), 65, ⟨.refl _, .own ..⟩, fun _ => rfl, (by simp only [List.length_append]; omega), ?_⟩
                exact ⟨(i + 1, true), hlt, by show c.methods.length - (i + 1) < c.methods.length - i; omega, ⟨rfl, rfl⟩, .ownEq (by rw [hs]; simp), .refl _, .refl _, .int hwj, trivial⟩
              · have hge2 : i = c.methods.length := by have := of_decide_eq_false h; omega
                refine ⟨ByteArray, strC, noS, [wRc], ⟨rfl, fun _ => rfl⟩, ⟨.refl _, trivial⟩, rfl, ?_⟩
                refine ⟨ByteArray, strC, noS, doC1 c ++ c.fields.flatMap fldF ++ (c.methods.take i).flatMap doesF, [wRc], 65, ⟨.refl _, .own ..⟩, fun _ => rfl, (by simp only [List.length_append, List.length_cons, List.length_nil]; omega), ?_⟩
                exact ⟨.ownEq (by rw [wordsC_eq, hge2, List.take_length]), rfl⟩
end Go.Proofs.YtadimoijlgmecaaGreatDoor.Ax
/- The builder of a call: its bytes, and what its writers leave alone. -/
set_option linter.unusedVariables false
set_option linter.unusedSimpArgs false
namespace Go.Proofs.YtadimoijlgmecaaGreatDoor.Ax
open Go Go.RowKit
section
variable {P : Program}
/-- block b is a builder that holds the bytes bs in the row v -/
structure Bld (T e : TypeId) (b : Nat) (p v : Value) (bs : List Value) (w : World) : Prop where
  heap : w.heap[b]? = some (.cells #[p, v] T (0, 0))
  own : w.ownsRowF b e 1 v bs.length bs
  ne : v.ownBlock ≠ some b
  ptr : p = .pointer none ∨ p = .pointer (some ⟨b, 0, none⟩)
/-- all blocks but the builder's own two are as they were -/
structure Aside (b : Nat) (v v' : Value) (w w' : World) : Prop where
  below : Below b w w'
  keep : ∀ k, k < w.heap.size → k ≠ b → some k ≠ v.ownBlock → w'.heap[k]? = w.heap[k]?
  own : ∀ g, v'.ownBlock = some g → v.ownBlock = some g ∨ w.heap.size ≤ g
theorem Aside.refl (b : Nat) (v : Value) (w : World) : Aside b v v w w := ⟨.refl _ _, fun _ _ _ _ => rfl, fun _ h => .inl h⟩
theorem Aside.trans {b : Nat} {v v' v'' : Value} {w w' w'' : World} (h : Aside b v v' w w') (k : Aside b v' v'' w' w'') : Aside b v v'' w w'' := by
  refine ⟨h.below.trans k.below, fun i hi hb hv => ?_, fun g hg => ?_⟩
  · rw [k.keep i (Nat.lt_of_lt_of_le hi h.below.size) hb (fun e => ?_), h.keep i hi hb hv]
    rcases h.own i e.symm with q | q
    · exact hv q.symm
    · omega
  · rcases k.own g hg with q | q
    · exact h.own g q
    · exact .inr (Nat.le_trans h.below.size q)
theorem Bld.lt {T e : TypeId} {b : Nat} {p v : Value} {bs : List Value} {w : World} (h : Bld T e b p v bs w) : b < w.heap.size := by
  rcases Nat.lt_or_ge b w.heap.size with h' | h'
  · exact h'
  · have := h.heap; simp [Array.getElem?_eq_none h'] at this
theorem Bld.isF {T e : TypeId} {b : Nat} {p v : Value} {bs : List Value} {w : World} (h : Bld T e b p v bs w) : Lib.IsBuilderF T e b b bs w := by
  rcases h.ptr with e | e
  · exact .inl ⟨Nat.le_refl _, v, e ▸ h.heap, h.own, h.ne⟩
  · exact .inr ⟨Nat.le_refl _, v, e ▸ h.heap, h.own, h.ne⟩
theorem bld_set0 {T e : TypeId} {b : Nat} {p v : Value} {bs : List Value} {w : World} (h : Bld T e b p v bs w) :
    Bld T e b (.pointer (some ⟨b, 0, none⟩)) v bs (w.setCell ⟨b, 0, none⟩ (.pointer (some ⟨b, 0, none⟩))) ∧ Aside b v v w (w.setCell ⟨b, 0, none⟩ (.pointer (some ⟨b, 0, none⟩))) := by
  refine ⟨⟨?_, ?_, h.ne, .inr rfl⟩, ⟨(Below.refl b w).setCell (p := ⟨b, 0, none⟩) (Nat.le_refl b) _, fun k _ hb _ => Below.heap_setCell _ _ _ _ hb, fun _ hg => .inl hg⟩⟩
  · simp [World.setCell, Array.getElem?_modify, h.heap]
  · exact h.own.kept (row := some b) ⟨rfl, rfl, rfl, by simp [World.setCell], fun k _ hk => Below.heap_setCell _ _ _ _ (fun e => hk (by simp [e]))⟩ (.inr h.ne)
theorem bld_put {T e : TypeId} {b : Nat} {p v v' : Value} {bs bs' : List Value} {w w1 : World} (hT : T ≠ e) (h1 : Bld T e b p v bs w) (hg : w.grownBy w1 v.ownBlock) (ho : w1.ownsRowF b e 1 v' bs'.length bs')
    (hv : ∀ g, v'.ownBlock = some g → v.ownBlock = some g ∨ w.heap.size ≤ g) :
    Bld T e b p v' bs' (w1.setCell ⟨b, 1, none⟩ v') ∧ Aside b v v' w (w1.setCell ⟨b, 1, none⟩ v') := by
  have hb2 : w1.heap[b]? = some (.cells #[p, v] T (0, 0)) := by rw [hg.block b h1.lt (fun e => h1.ne e.symm)]; exact h1.heap
  have hne := Lib.ownBlock_neF ho hb2 hT
  have hbl : Below b w w1 := (Below.refl b w).grown hg (Nat.le_of_lt h1.lt) (fun k hk => (h1.own.lt k hk).1)
  refine ⟨⟨?_, ?_, hne, h1.ptr⟩, ⟨hbl.setCell (p := ⟨b, 1, none⟩) (Nat.le_refl b) _, fun k hk hkb hkv => ?_, hv⟩⟩
  · simp [World.setCell, Array.getElem?_modify, hb2]
  · exact ho.kept (row := some b) ⟨rfl, rfl, rfl, by simp [World.setCell], fun k _ hk => Below.heap_setCell _ _ _ _ (fun e => hk (by simp [e]))⟩ (.inr hne)
  · rw [Below.heap_setCell _ _ _ _ hkb]; exact hg.block k hk hkv
/-- copyCheck -/
theorem builder_size : (Tryz.prog.info? 67).map (·.size) = some 2 := by kernel_rfl
theorem builder_lies : liesAt Tryz.prog Tryz.prog.depth 67 (2 / Tryz.prog.cellsOf 67) 0 67 1 = true := by kernel_rfl
theorem builder_ptr : Tryz.prog.underlying 65 = some (.pointer 67) := by kernel_rfl
theorem builder_uns : Tryz.prog.underlying 119 = some .unsafePointer := by kernel_rfl
set_option maxHeartbeats 1000000 in
set_option maxRecDepth 100000 in
theorem bcheck_used (b : Nat) (w : World) (h0 : w.cell? ⟨b, 0, none⟩ = some (.pointer (some ⟨b, 0, none⟩))) :
    Calls Tryz.prog 41 #[.pointer (some ⟨b, 0, none⟩)] w fun e w' => e = .returned (.tuple #[]) ∧ w' = w := by
  obtain ⟨j, hj, _⟩ := Option.map_eq_some_iff.1 builder_size
  go_enter Tryz.func41, Tryz.ntmps41
  go_wp2
  rw [Lib.run_neq_ptr_same w _ builder_ptr hj]
  go_wp2
  go_end0
  exact ⟨rfl, rfl⟩
set_option maxHeartbeats 1000000 in
set_option maxRecDepth 100000 in
theorem bcheck_fresh (b : Nat) (w : World) (h0 : w.cell? ⟨b, 0, none⟩ = some (.pointer none)) (hsh : w.shape? b = some (67, 2)) (hfz : w.frozen? ⟨b, 0, none⟩ = false) :
    Calls Tryz.prog 41 #[.pointer (some ⟨b, 0, none⟩)] w fun e w' => e = .returned (.tuple #[]) ∧ w' = w.setCell ⟨b, 0, none⟩ (.pointer (some ⟨b, 0, none⟩)) := by
  obtain ⟨j, hj, hjs⟩ := Option.map_eq_some_iff.1 builder_size
  go_enter Tryz.func41, Tryz.ntmps41
  go_wp2
  rw [Lib.run_to_unsafe w ⟨b, 0, none⟩ builder_ptr builder_uns hj (by rw [hjs]; decide) hsh (Nat.zero_lt_succ 1)]
  simp only [Result.andThen]
  rw [Oper.upon_value]
  go_wp2
  rw [run_callFunc_extern Tryz.func72 (by kernel_rfl) (by kernel_rfl) (by kernel_rfl) (e := Extern.AbiNoEscape.same) (by kernel_rfl)]
  rw [Lib.run_noEscape]
  simp only [Result.andThen]
  rw [Oper.upon_value]
  go_wp2
  rw [Lib.run_from_unsafe w ⟨b, 0, none⟩ builder_uns builder_ptr hj hsh builder_lies]
  simp only [Result.andThen]
  rw [Oper.upon_value]
  go_wp2
  go_end0
  exact ⟨rfl, rfl⟩
theorem bcheck {b : Nat} {p v : Value} {bs : List Value} {w : World} (h : Bld 67 5 b p v bs w) :
    Calls Tryz.prog 41 #[.pointer (some ⟨b, 0, none⟩)] w fun e w' => e = .returned (.tuple #[]) ∧ (Bld 67 5 b (.pointer (some ⟨b, 0, none⟩)) v bs w' ∧ Aside b v v w w') := by
  have c0 : w.cell? ⟨b, 0, none⟩ = some p := by rw [Lib.cell_of_heap h.heap]; rfl
  rcases h.ptr with e | e
  · refine (bcheck_fresh b w (e ▸ c0) (by simp [World.shape?, h.heap]) (Lib.frozen_of_heap h.heap 0)).mono ?_
    rintro e w' ⟨rfl, rfl⟩
    exact ⟨rfl, bld_set0 h⟩
  · refine (bcheck_used b w (e ▸ c0)).mono ?_
    rintro e' w' ⟨rfl, rfl⟩
    exact ⟨rfl, e ▸ h, Aside.refl _ _ _⟩
/-- where an append's row lies -/
theorem str_block (w : World) (t u ty e : TypeId) (i : TypeInfo) (ht : P.underlying t = some (.slice e)) (hu : P.underlying u = some .string) (hi : P.info? e = some i) (hz : i.zero = some (.int .u8 0)) (hsize : i.size = 1) (hby : i.bytes = 1)
    {base : Nat} {v v' : Value} {n : Nat} {xs : List Value} {w' : World} (hown : w.ownsRowF base e 1 v n xs) (s : ByteArray) (hbytes : n + s.size ≤ 140737488355328)
    (hr : (Builtin.append_ #[t, u] ty #[v, .string s]).run P w = .ok v' w') : ∀ g, v'.ownBlock = some g → v.ownBlock = some g ∨ w.heap.size ≤ g := by
  intro g' hg'
  have h63 : n + s.size ≤ maxLen := by unfold maxLen; omega
  rcases hown.2 with ⟨rfl, rfl⟩ | ⟨g, cap, cur, fz, rfl, hbg, hg, hfz, hnc, hcm, hcs, htake⟩
  · have hx : xs = [] := by have := hown.1; simpa using this
    subst hx
    obtain ⟨v2, w2, h1, h2, -⟩ := Lib.run_append_own_stringF (P := P) w w.heap.size t u ty e i ht hu hi hz hsize hby (.slice none 0 0) 0 [] (World.ownsRowF_nil _ _ _ _) s h63 hbytes (Nat.le_refl _)
    rw [hr] at h1
    injection h1 with q1 q2
    subst q1
    exact .inr (h2.lt g' hg').1
  · by_cases hroom : n + s.size ≤ cap
    · have h1 := Lib.run_append_room_stringF (P := P) w t u ty e i ht hu hi hsize g n cap cur fz hg (by simpa using hfz) s hroom (by rw [hcs]; omega)
      rw [hr] at h1
      injection h1 with q1 q2
      subst q1
      exact .inl hg'
    · have holds : ∀ j u, xs[j]? = some u → w.cell? ((⟨g, 0, none⟩ : Addr).add j) = some u := hown.cells (g := g) rfl
      have h1 := Lib.run_append_grow_string (P := P) w t u ty e i (.int .u8 0) ht hu hi hz ⟨g, 0, none⟩ n cap xs (by rw [hsize]; exact hown.1) holds s (by omega) (by omega) (by rw [hby]; exact growslice_fits (by omega) (by omega))
      rw [hr] at h1
      injection h1 with q1 q2
      subst q1
      simp only [Value.ownBlock, Option.some.injEq] at hg'
      exact .inr (by omega)
theorem byte_block (w : World) (t ty e : TypeId) (i : TypeInfo) (ht : P.underlying t = some (.slice e)) (hi : P.info? e = some i) (hz : i.zero = some (.int .u8 0)) (hsize : i.size = 1) (hby : i.bytes = 1)
    {base : Nat} {v v' : Value} {n : Nat} {xs : List Value} {w' : World} (hown : w.ownsRowF base e 1 v n xs) (a : Addr) (m c : Nat) (news : List Value) (hl : news.length = m) (hnews : ∀ j u, news[j]? = some u → w.cell? (a.add j) = some u) (h1 : ∀ u ∈ news, u.oneCell' = true)
    (hbytes : n + m ≤ 140737488355328) (hr : (Builtin.append_ #[t, t] ty #[v, .slice (some a) m c]).run P w = .ok v' w') : ∀ g, v'.ownBlock = some g → v.ownBlock = some g ∨ w.heap.size ≤ g := by
  intro g' hg'
  have h63 : n + m ≤ maxLen := by unfold maxLen; omega
  have hl1 : news.length = m * 1 := by omega
  rcases hown.2 with ⟨rfl, rfl⟩ | ⟨g, cap, cur, fz, rfl, hbg, hg, hfz, hnc, hcm, hcs, htake⟩
  · have hx : xs = [] := by have := hown.1; simpa using this
    subst hx
    obtain ⟨v2, w2, h1, h2, -⟩ := run_append_ownF (P := P) w w.heap.size t ty e i (.int .u8 0) 1 1 ht hi hz hsize hby rfl (by decide) (.slice none 0 0) 0 [] (World.ownsRowF_nil _ _ _ _) a m c news hl1 hnews h1 h63 (by omega) (Nat.le_refl _)
    rw [hr] at h1
    injection h1 with q1 q2
    subst q1
    exact .inr (h2.lt g' hg').1
  · by_cases hroom : n + m ≤ cap
    · have h2 := run_append_roomF (P := P) w t ty e i ht hi g n cap cur fz hg (by rw [hsize]; exact hfz) a m c news (by rw [hsize]; exact hl1) hnews h1 hroom (by rw [hsize, hcs]; omega)
      rw [hr] at h2
      injection h2 with q1 q2
      subst q1
      exact .inl hg'
    · have holds : ∀ j u, xs[j]? = some u → w.cell? ((⟨g, 0, none⟩ : Addr).add j) = some u := hown.cells (g := g) rfl
      have h2 := run_append_grow (P := P) w t ty e i (.int .u8 0) ht hi hz ⟨g, 0, none⟩ n cap xs (by rw [hsize]; exact hown.1) holds a m c news (by rw [hsize]; exact hl1) hnews (by omega) (by omega) (by rw [hby]; exact growslice_fits (by omega) (by omega))
      rw [hr] at h2
      injection h2 with q1 q2
      subst q1
      simp only [Value.ownBlock, Option.some.injEq] at hg'
      exact .inr (by omega)
theorem wpStr {ops : Array Oper} {rest : List Oper} {o : Oper} {a : Act} {w : World} {Q : Exit → Act → World → Prop} (hgd : o.guard = none) (sl x : Operand) (t u : TypeId)
    (ho : o.op = .call { callee := .builtin .append, args := #[sl, x], argTypes := #[t, u] })
    (base : Nat) (e : TypeId) (i : TypeInfo) (ht : P.underlying t = some (.slice e)) (hu : P.underlying u = some .string) (hi : P.info? e = some i) (hz : i.zero = some (.int .u8 0)) (hsize : i.size = 1) (hby : i.bytes = 1)
    (v : Value) (n : Nat) (xs : List Value) (hs : a.eval sl = v) (hown : w.ownsRowF base e 1 v n xs) (s : ByteArray) (hx : a.eval x = .string s) (hbytes : n + s.size ≤ 140737488355328) (hbase : base ≤ w.heap.size)
    (h : ∀ v' w', w'.ownsRowF base e 1 v' (n + s.size) (xs ++ Lib.strCells s) → w.grownBy w' v.ownBlock → (∀ g, v'.ownBlock = some g → v.ownBlock = some g ∨ w.heap.size ≤ g) → wpList P ops Q rest (a.put o.dst v') w') : wpList P ops Q (o :: rest) a w := by
  refine wpList_plain hgd fun K hK => ?_
  obtain ⟨v', w', hr, h2, h3, -⟩ := Lib.run_append_own_stringF (P := P) w base t u o.type e i ht hu hi hz hsize hby v n xs hown s (by unfold maxLen; omega) hbytes hbase
  have h4 := str_block w t u o.type e i ht hu hi hz hsize hby hown s hbytes hr
  unfold Oper.wp execOp
  simp only [ho, resolve, invoke, builtin, Sem.run_bind, Sem.run_pure, Result.andThen_ok, List.map_toArray, List.map_cons, List.map_nil, hs, hx, hr]
  exact hK _ _ (h v' w' h2 h3 h4)
theorem wpByte {ops : Array Oper} {rest : List Oper} {o : Oper} {a : Act} {w : World} {Q : Exit → Act → World → Prop} (hgd : o.guard = none) (sl x : Operand) (t : TypeId)
    (ho : o.op = .call { callee := .builtin .append, args := #[sl, x], argTypes := #[t, t] })
    (base : Nat) (e : TypeId) (i : TypeInfo) (ht : P.underlying t = some (.slice e)) (hi : P.info? e = some i) (hz : i.zero = some (.int .u8 0)) (hsize : i.size = 1) (hby : i.bytes = 1)
    (v : Value) (n : Nat) (xs : List Value) (hs : a.eval sl = v) (hown : w.ownsRowF base e 1 v n xs) (ad : Addr) (m c : Nat) (news : List Value) (hx : a.eval x = .slice (some ad) m c) (hl : news.length = m) (hnews : ∀ j u, news[j]? = some u → w.cell? (ad.add j) = some u) (h1 : ∀ u ∈ news, u.oneCell' = true)
    (hbytes : n + m ≤ 140737488355328) (hbase : base ≤ w.heap.size)
    (h : ∀ v' w', w'.ownsRowF base e 1 v' (n + m) (xs ++ news) → w.grownBy w' v.ownBlock → (∀ g, v'.ownBlock = some g → v.ownBlock = some g ∨ w.heap.size ≤ g) → wpList P ops Q rest (a.put o.dst v') w') : wpList P ops Q (o :: rest) a w := by
  refine wpList_plain hgd fun K hK => ?_
  obtain ⟨v', w', hr, h2, h3, -⟩ := run_append_ownF (P := P) w base t o.type e i (.int .u8 0) 1 1 ht hi hz hsize hby rfl (by decide) v n xs hown ad m c news (by omega) hnews h1 (by unfold maxLen; omega) (by omega) hbase
  have h4 := byte_block w t o.type e i ht hi hz hsize hby hown ad m c news hl hnews h1 hbytes hr
  unfold Oper.wp execOp
  simp only [ho, resolve, invoke, builtin, Sem.run_bind, Sem.run_pure, Result.andThen_ok, List.map_toArray, List.map_cons, List.map_nil, hs, hx, hr]
  exact hK _ _ (h v' w' h2 h3 h4)
theorem byte_info : (Tryz.prog.info? 5).map (fun i => (i.zero, i.size, i.bytes)) = some (some (.int .u8 0), 1, 1) := by kernel_rfl
theorem bytes_und : Tryz.prog.underlying 29 = some (.slice 5) := by kernel_rfl
theorem str_und : Tryz.prog.underlying 9 = some .string := by kernel_rfl
set_option maxHeartbeats 2000000 in
set_option maxRecDepth 100000 in
theorem bstring {b : Nat} {p v : Value} {bs : List Value} (s : ByteArray) {w : World} (h : Bld 67 5 b p v bs w) (hlen : bs.length + s.size ≤ 140737488355328) :
    Calls Tryz.prog 22 #[.pointer (some ⟨b, 0, none⟩), .string s] w fun e w' => e = .returned (.tuple #[.int .i64 s.size, .nilIface]) ∧ ∃ v', Bld 67 5 b (.pointer (some ⟨b, 0, none⟩)) v' (bs ++ Lib.strCells s) w' ∧ Aside b v v' w w' := by
  obtain ⟨i0, hi, hz0, hz1, hz2⟩ := info_parts byte_info
  go_enter Tryz.func22, Tryz.ntmps22
  go_wp2_with (go_at_call 41; refine (bcheck h).mono ?_)
  rintro e w1 ⟨rfl, h1, ha1⟩
  have hlt1 := h1.lt
  have c0 : w1.cell? ⟨b, 0, none⟩ = some (.pointer (some ⟨b, 0, none⟩)) := by rw [Lib.cell_of_heap h1.heap]; rfl
  have c1 : w1.cell? ⟨b, 1, none⟩ = some v := by rw [Lib.cell_of_heap h1.heap]; rfl
  go_wp2_with (at_builtin; refine wpStr rfl _ _ 29 9 rfl b 5 i0 bytes_und str_und hi hz0 hz1 hz2 _ _ _ rfl h1.own s rfl hlen (Nat.le_of_lt hlt1) ?_)
  intro v' w2 hown' hgrow hv'
  have hb2 : w2.heap[b]? = some (.cells #[.pointer (some ⟨b, 0, none⟩), v] 67 (0, 0)) := by
    rw [hgrow.block b hlt1 (fun e => h1.ne e.symm)]
    exact h1.heap
  have d0 : w2.cell? ⟨b, 0, none⟩ = some (.pointer (some ⟨b, 0, none⟩)) := by rw [Lib.cell_of_heap hb2]; rfl
  have d1 : w2.cell? ⟨b, 1, none⟩ = some v := by rw [Lib.cell_of_heap hb2]; rfl
  have f1 : w2.frozen? ⟨b, 1, none⟩ = false := Lib.frozen_of_heap hb2 1
  have hfin := bld_put (bs' := bs ++ Lib.strCells s) (by decide) h1 hgrow (by rw [List.length_append, Lib.strCells_length]; exact hown') hv'
  have HF := Lib.hid (And.intro hfin ha1)
  clear hfin ha1 hown' hgrow hv' h1 h
  obtain ⟨ao, n', cap, rfl⟩ : ∃ ao n' cap, v' = .slice ao n' cap := by
    rcases HF.out.1.1.own.2 with ⟨hv, _⟩ | ⟨g, cap, cur, fz, hv, _⟩
    · exact ⟨_, _, _, hv⟩
    · exact ⟨_, _, _, hv⟩
  go_wp2
  go_ret2
  exact ⟨rfl, _, HF.out.1.1, HF.out.2.trans HF.out.1.2⟩
set_option maxHeartbeats 2000000 in
set_option maxRecDepth 100000 in
theorem bbyte {b : Nat} {p v : Value} {bs : List Value} (c : Int) {w : World} (h : Bld 67 5 b p v bs w) (hlen : bs.length + 1 ≤ 140737488355328) :
    Calls Tryz.prog 23 #[.pointer (some ⟨b, 0, none⟩), .int .u8 c] w fun e w' => e = .returned .nilIface ∧ ∃ v', Bld 67 5 b (.pointer (some ⟨b, 0, none⟩)) v' (bs ++ [.int .u8 c]) w' ∧ Aside b v v' w w' := by
  obtain ⟨i0, hi, hz0, hz1, hz2⟩ := info_parts byte_info
  go_enter Tryz.func23, Tryz.ntmps23
  go_wp2_with (go_at_call 41; refine (bcheck h).mono ?_)
  rintro e w1 ⟨rfl, h1, ha1⟩
  have hlt1 := h1.lt
  have c0 : w1.cell? ⟨b, 0, none⟩ = some (.pointer (some ⟨b, 0, none⟩)) := by rw [Lib.cell_of_heap h1.heap]; rfl
  have c1 : w1.cell? ⟨b, 1, none⟩ = some v := by rw [Lib.cell_of_heap h1.heap]; rfl
  go_wp2_with (at_builtin; refine wpByte rfl _ _ 29 rfl b 5 i0 bytes_und hi hz0 hz1 hz2 _ _ _ rfl (h1.own.alloc _) ⟨w1.heap.size, 0, none⟩ 1 1 [.int .u8 c] rfl rfl ?c1 ?c2 hlen ?c5 ?_)
  case c1 =>
    intro j u hj
    match j, hj with
    | 0, hj => simp at hj; subst hj; simp [Addr.add]
  case c2 => intro u hu; simp at hu; subst hu; rfl
  case c5 => simp; omega
  intro v' w2 hown' hgrow hv'
  have hg2 : w1.grownBy w2 v.ownBlock := by
    refine ⟨hgrow.os, hgrow.tape, hgrow.output, by have := hgrow.size; simp at this; omega, fun k hk hkv => ?_⟩
    rw [hgrow.block k (by simp; omega) hkv, Lib.alloc_old w1 _ k hk]
  have hv2 : ∀ g, v'.ownBlock = some g → v.ownBlock = some g ∨ w1.heap.size ≤ g := fun g hg => (hv' g hg).imp id (fun q => by first | omega | (simp at q; omega) | exact Nat.le_of_succ_le q)
  have hb2 : w2.heap[b]? = some (.cells #[.pointer (some ⟨b, 0, none⟩), v] 67 (0, 0)) := by
    rw [hg2.block b hlt1 (fun e => h1.ne e.symm)]
    exact h1.heap
  have d0 : w2.cell? ⟨b, 0, none⟩ = some (.pointer (some ⟨b, 0, none⟩)) := by rw [Lib.cell_of_heap hb2]; rfl
  have d1 : w2.cell? ⟨b, 1, none⟩ = some v := by rw [Lib.cell_of_heap hb2]; rfl
  have f1 : w2.frozen? ⟨b, 1, none⟩ = false := Lib.frozen_of_heap hb2 1
  have hfin := bld_put (bs' := bs ++ [.int .u8 c]) (by decide) h1 hg2 (by simpa using hown') hv2
  have HF := Lib.hid (And.intro hfin ha1)
  clear hfin ha1 hown' hgrow hv' h1 h hg2 hv2
  obtain ⟨ao, n', cap, rfl⟩ : ∃ ao n' cap, v' = .slice ao n' cap := by
    rcases HF.out.1.1.own.2 with ⟨hv, _⟩ | ⟨g, cap, cur, fz, hv, _⟩
    · exact ⟨_, _, _, hv⟩
    · exact ⟨_, _, _, hv⟩
  go_wp2
  go_ret
  exact ⟨rfl, _, HF.out.1.1, HF.out.2.trans HF.out.1.2⟩
end
end Go.Proofs.YtadimoijlgmecaaGreatDoor.Ax
/- Layer show: a program's text. -/
set_option linter.unusedVariables false
set_option linter.unusedSimpArgs false
namespace Go.Proofs.YtadimoijlgmecaaGreatDoor.Ax
open Go Go.RowKit
def textK : Ctr := { A := List Cls, enc := fun p => [.agg [prgR p]], dom := prgD, res := fun p _ => .tup [.row UInt8 1 byteC 0 (showF p).1, I (showF p).2], gl := tabS }
theorem shaped_below {w w' : World} (h : Below w.heap.size w w') : Shaped w w' := ⟨h.size, fun k hk => by simp only [World.shape?, h.block k hk]⟩
theorem sealed_below {H : HM} {w w' : World} (hs : Sealed H w) (h : Below w.heap.size w w') : Sealed H w' := fun b o v e => by
  have := hs b o v e
  have hlt := World.block_lt_of_cell? w _ this
  rw [← this]
  simp only [World.cell?, h.block b hlt]
/-- a call in a later world -/
theorem ctr_later {P : Program} {g : Nat} {c : Ctr} (h : CtrSound P g c) (x : c.A) {H : HM} {w w1 : World} {vs : Array Value} (id : Nat) (hd : c.dom x) (hs : Sealed H w) (hgl : ∀ w', Sealed H w' → Shaped w w' → c.gl w') (hb : Below w.heap.size w w1)
    (hn : vs.size = (c.enc x).length) (hg : ∀ j, j < (c.enc x).length → G H noB noT (at' (c.enc x) j .junk) (vs.getD j undef)) :
    Calls P g vs w1 fun e w' => ∃ v H', e = .returned v ∧ Below w1.heap.size w1 w' ∧ HLe H H' ∧ (∀ b o, b < w1.heap.size → H' b o = H b o) ∧ Sealed H' w' ∧ ∃ T', G H' noB T' (c.res x id) v := by
  refine (h.2 x H w1 vs id hd (sealed_below hs hb) (fun w' h1 h2 => hgl w' h1 ((shaped_below hb).trans h2)) hn hg).mono ?_
  rintro e w' ⟨v, H', T', rfl, h1, h2, h3, -, h5, h6, -⟩
  exact ⟨v, H', rfl, h1, h2, h3, fun b o u e => (h5 b o u e).1, T', h6⟩
theorem row_val {H : HM} {β : BM} {T : TM} {X : Type} {sz : Nat} {cs : X → List SV} {d : X} {l : List X} {v : Value} (h : G H β T (.row X sz cs d l) v) : ∃ a n c, v = .slice a n c := by cases h <;> exact ⟨_, _, _, rfl⟩
theorem sep_eq (s : ByteArray) : (s.toList = [123] ∨ s.toList = [125] ∨ s.toList = [59] → sepOf s = 10) ∧ (¬ (s.toList = [123] ∨ s.toList = [125] ∨ s.toList = [59]) → sepOf s = 32) := by
  have k1 : s.toList = [123] ↔ s = wLc := by
    have := ba_eq s wLc
    rw [show wLc.toList = [123] by decide +kernel] at this
    rw [← beq_iff_eq (a := s.toList), this, decide_eq_true_iff]
  have k2 : s.toList = [125] ↔ s = wRc := by
    have := ba_eq s wRc
    rw [show wRc.toList = [125] by decide +kernel] at this
    rw [← beq_iff_eq (a := s.toList), this, decide_eq_true_iff]
  have k3 : s.toList = [59] ↔ s = wSemi := by
    have := ba_eq s wSemi
    rw [show wSemi.toList = [59] by decide +kernel] at this
    rw [← beq_iff_eq (a := s.toList), this, decide_eq_true_iff]
  rw [k1, k2, k3]
  exact ⟨fun h => if_pos h, fun h => if_neg h⟩
theorem tokB_len {w : ByteArray} (h : tokB w = true) : w.data.toList.length ≤ 21 := by
  rcases tok_cases h with ⟨n, e, h1, h2⟩ | h | h
  · rw [e]; exact Lib.itoa_length_le n (by omega) (by omega)
  · obtain ⟨c, r, -, -, -, h4⟩ := name_form.1 h; omega
  · omega
theorem putW_flat (ws : List ByteArray) (h : Toks ws) : (ws.flatMap putW).length ≤ 22 * ws.length :=
  flat_le putW 22 ws fun w hw => by have := tokB_len (h w hw); unfold putW; simp only [List.length_append, List.length_cons, List.length_nil]; omega
theorem cells_put (acc : List UInt8) (ws : List ByteArray) (m : Nat) (hm : m < ws.length) {s : ByteArray} (hs : s = ws.getD m noS) {n : Int} (hn : n = ((sepOf s).toNat : Int)) :
    Lib.byteCells (acc ++ (ws.take m).flatMap putW) ++ Lib.strCells s ++ [.int .u8 n] = Lib.byteCells (acc ++ (ws.take (m + 1)).flatMap putW) := by
  rw [flat_snoc putW ws noS m hm, ← hs, hn]
  unfold putW
  rw [Lib.strCells_eq, ← Lib.byteCells_append, ← List.append_assoc, Lib.byteCells_append, ← List.append_assoc, Lib.byteCells_append, Lib.byteCells_append]
  simp [Lib.byteCells]
def TextPost (p : List Cls) (H : HM) (w : World) (e : Ending) (w' : World) : Prop :=
  ∃ v H', e = .returned v ∧ Below w.heap.size w w' ∧ HLe H H' ∧ (∀ b o, b < w.heap.size → H' b o = H b o) ∧ Sealed H' w' ∧ G H' noB noT (textK.res p 0) v
def TextRow (p : List Cls) (H : HM) (ad : Option Addr) : Prop :=
  ∀ k, k < p.length → ∃ B off, ad = some ⟨B, off, none⟩ ∧ ∃ vs : Nat → Value, (∀ j, j < 6 → H B (off + k * 6 + j) = some (vs j)) ∧ ∀ j, j < 6 → G H noB noT (at' (clsC (p.getD k cls0)) j .junk) (vs j)
def TextRel (p : List Cls) (w : World) (b : Nat) (i : Value) (wr : World) : Prop :=
  ∃ k v q, k ≤ p.length ∧ i = .int .i64 k ∧ Bld 67 5 b q v (Lib.byteCells ((p.take k).flatMap textC)) wr ∧ Below w.heap.size w wr
def TextRel2 (ws : List ByteArray) (acc : List UInt8) (v : Value) (w3 : World) (b : Nat) (j : Value) (wq : World) : Prop :=
  ∃ m v' q', m ≤ ws.length ∧ j = .int .i64 m ∧ Bld 67 5 b q' v' (Lib.byteCells (acc ++ (ws.take m).flatMap putW)) wq ∧ Aside b v v' w3 wq
theorem bld_below {T e : TypeId} {b : Nat} {q v : Value} {bs : List Value} {w w' : World} (h : Bld T e b q v bs w) (hb : Below w.heap.size w w') : Bld T e b q v bs w' :=
  ⟨(hb.block b h.lt).trans h.heap, h.own.kept (row := none) ⟨hb.os, hb.tape, hb.output, hb.size, fun k hk _ => hb.block k hk⟩ (by cases hv : v.ownBlock <;> simp), h.ne, h.ptr⟩
theorem wordsC_ne (c : Cls) : 0 < (wordsC c).length := by rw [wordsC_eq]; simp only [List.length_append, List.length_cons]; omega
theorem wordsC_len {c : Cls} (h : clsOk c = true) : (wordsC c).length ≤ 2500 := by
  obtain ⟨hp1, hp2, hp3, hp4, hp5⟩ := cls_parts h
  have hll := listF_len (if c.iface then wExtends else wImplements) c.ifaces
  have hsl : (supC c).length ≤ 2 := by unfold supC; split <;> simp
  have hl3 := hp3.1
  have hm1 : (doC1 c).length ≤ 20 := by unfold doC1 hdC lstC; simp only [List.length_append, List.length_cons, List.length_nil]; omega
  have h1 := flat_le fldF 7 c.fields fun x _ => fldF_len x
  have h2 := flat_le doesF 400 c.methods fun x hx => does_len (hp5.2 x hx)
  have h3 := hp4.1
  have h4 := hp5.1
  rw [wordsC_eq]; simp only [List.length_append, List.length_cons, List.length_nil]; omega
theorem textC_len {c : Cls} (h : clsOk c = true) : (textC c).length ≤ 55000 := by
  have h1 := putW_flat _ (cls_tok h)
  have h2 := wordsC_len h
  unfold textC; omega
theorem textP_len {p : List Cls} (h : prgOk p = true) (k : Nat) : ((p.take k).flatMap textC).length ≤ 550000 := by
  obtain ⟨h1, h2⟩ := prg_parts h
  have h3 := flat_le textC 55000 (p.take k) fun c hc => textC_len (h2 c (List.mem_of_mem_take hc))
  have h4 : (p.take k).length ≤ 10 := by rw [List.length_take]; omega
  omega
theorem words_cells {H : HM} {T : TM} {l : List ByteArray} {id : Nat} {v : Value} (hl : 0 < l.length) (h : G H noB T (.own ByteArray 1 strC noS l id) v) :
    ∃ b off c, v = .slice (some ⟨b, off, none⟩) l.length c ∧ ∀ m, m < l.length → H b (off + m) = some (.string (l.getD m noS)) := by
  generalize hx : SV.own ByteArray 1 strC noS l id = x at h
  cases h with
  | ownE => cases hx; simp at hl
  | own X sz cs d l' id' b off c vs hc hz hH hG hT =>
    cases hx
    refine ⟨b, off, c, rfl, fun m hm => ?_⟩
    have h1 := hH m 0 hm (by omega)
    have h2 := hG m 0 hm (by omega)
    have h3 : vs m 0 = .string (l.getD m noS) := gval' (show G H noB noT (.val (.string (l.getD m noS))) _ from h2)
    rw [Nat.mul_one, Nat.add_zero] at h1
    rw [h1, h3]
  | _ => cases hx
theorem far_of {T e : TypeId} {b b2 off2 : Nat} {q v : Value} {bs : List Value} {w wr wa : World} {H H3 : HM} {l : List ByteArray} (hB : Bld T e b q v bs wr) (hs : Sealed H w) (hwb : w.heap.size ≤ b) (hold : b2 < wa.heap.size → H3 b2 off2 = H b2 off2)
    (hc : ∀ m, m < l.length → H3 b2 (off2 + m) = some (.string (l.getD m noS))) (hl : 0 < l.length) (hlt : wr.heap.size < wa.heap.size) : b2 ≠ b ∧ some b2 ≠ v.ownBlock := by
  have hbl := hB.lt
  by_cases h : b2 < wa.heap.size
  · have h1 := hc 0 hl
    rw [Nat.add_zero, hold h] at h1
    have h2 := World.block_lt_of_cell? w _ (hs _ _ _ h1)
    have h2 : b2 < w.heap.size := h2
    exact ⟨by omega, fun e => by have := (hB.own.lt b2 e.symm).1; omega⟩
  · exact ⟨by omega, fun e => by have := (hB.own.lt b2 e.symm).2; omega⟩
theorem text_args {H : HM} {c : Cls} {vs : Nat → Value} {a3 a4 a5 : Option Addr} {n3 k3 n4 k4 n5 k5 : Nat} (hG : ∀ j, j < 6 → G H noB noT (at' (clsC c) j .junk) (vs j))
    (he : vs 0 = .string c.name ∧ vs 1 = .bool c.iface ∧ vs 2 = .string c.super ∧ vs 3 = .slice a3 n3 k3 ∧ vs 4 = .slice a4 n4 k4 ∧ vs 5 = .slice a5 n5 k5) :
    ∀ j, j < (wordsK.enc c).length → G H noB noT (at' (wordsK.enc c) j .junk) ((#[Value.agg #[.string c.name, .bool c.iface, .string c.super, .slice a3 n3 k3, .slice a4 n4 k4, .slice a5 n5 k5]] : Array Value).getD j undef) := by
  intro j hj
  obtain rfl : j = 0 := by have : j < 1 := hj; omega
  refine .agg _ _ rfl fun i hi => ?_
  have hi : i < 6 := hi
  obtain ⟨e0, e1, e2, e3, e4, e5⟩ := he
  have := hG i hi
  match i, hi with
  | 0, _ => rw [e0] at this; exact this
  | 1, _ => rw [e1] at this; exact this
  | 2, _ => rw [e2] at this; exact this
  | 3, _ => rw [e3] at this; exact this
  | 4, _ => rw [e4] at this; exact this
  | 5, _ => rw [e5] at this; exact this
theorem u8_und : Tryz.prog.underlying 5 = some (.int .u8) := by kernel_rfl
/-- a text as a new row of bytes -/
theorem bytes_row {P : Program} {H : HM} {w : World} (hs : Sealed H w) (e : TypeId) (l : List UInt8) (k : Nat) :
    ∃ H', Below w.heap.size w (Lib.bytesWorld w e ⟨l.toArray⟩) ∧ HLe H H' ∧ (∀ b o, b < w.heap.size → H' b o = H b o) ∧ Sealed H' (Lib.bytesWorld w e ⟨l.toArray⟩) ∧
      ∀ c, (⟨l.toArray⟩ : ByteArray).size ≤ c → G H' noB noT (.row UInt8 1 byteC 0 l) (.slice (some ⟨w.heap.size, 0, none⟩) (⟨l.toArray⟩ : ByteArray).size c) := by
  have hlt : ∀ b o v, H b o = some v → b < w.heap.size := fun b o v e => World.block_lt_of_cell? w _ (hs b o v e)
  have hsz : (⟨l.toArray⟩ : ByteArray).size = l.length := by rw [← sz_len]
  refine ⟨fun b o => if b = w.heap.size ∧ o < l.length then some (.int .u8 ((l.getD o 0).toNat : Int)) else H b o, ⟨rfl, rfl, rfl, by rw [Lib.bytesWorld_size]; omega, fun k hk => Lib.bytesWorld_at_old w _ _ k hk⟩, ?_, ?_, ?_, ?_⟩
  · intro b o v h
    show (if _ then _ else _) = _
    rw [if_neg (fun c => by have := hlt b o v h; omega)]; exact h
  · intro b o h
    show (if _ then _ else _) = _
    rw [if_neg (fun c => by omega)]
  · intro b o v h
    by_cases c : b = w.heap.size ∧ o < l.length
    · have h : (if b = w.heap.size ∧ o < l.length then some (.int .u8 ((l.getD o 0).toNat : Int)) else H b o) = some v := h
      rw [if_pos c] at h
      rw [c.1, Lib.bytesWorld_cell w e _ o (by rw [hsz]; exact c.2), ← h]
    · have h : (if b = w.heap.size ∧ o < l.length then some (.int .u8 ((l.getD o 0).toNat : Int)) else H b o) = some v := h
      rw [if_neg c] at h
      rw [Lib.bytesWorld_old w e _ _ (hlt b o v h)]; exact hs b o v h
  · intro c hc
    rw [hsz] at hc ⊢
    refine .row UInt8 1 byteC 0 l w.heap.size 0 c (fun i j => .int .u8 ((l.getD i 0).toNat : Int)) hc (fun i _ => rfl) (fun i j hi hj => ?_) (fun i j hi hj => ?_)
    · obtain rfl : j = 0 := by omega
      show (if _ then _ else _) = _
      rw [if_pos ⟨rfl, by omega⟩, show 0 + i * 1 + 0 = i by omega]
    · obtain rfl : j = 0 := by omega
      exact .val _
set_option maxHeartbeats 4000000 in
set_option maxRecDepth 100000 in
theorem text_walk (p : List Cls) (H : HM) (w : World) (ad : Option Addr) (cap : Nat) (hd : prgD p) (hs : Sealed H w) (hgl : ∀ w', Sealed H w' → Shaped w w' → tabS w') (hsl : G H noB noT (prgR p) (.slice ad p.length cap)) (hrow : TextRow p H ad) :
    Calls Tryz.prog 10 #[.agg #[.slice ad p.length cap]] w (TextPost p H w) := by
  have hb1 : Below w.heap.size w (w.alloc (.cells #[.slice ad p.length cap] 24)) := (Below.refl _ _).alloc (Nat.le_refl _) _
  have cck := ctr_later ok_ok p (w1 := w.alloc (.cells #[.slice ad p.length cap] 24)) (vs := #[.agg #[.slice ad p.length cap]]) 0 hd hs hgl hb1 rfl (fun j hj => by
    obtain rfl : j = 0 := by have : j < 1 := hj; omega
    refine .agg _ _ rfl fun q hq => ?_
    obtain rfl : q = 0 := by have : q < 1 := hq; omega
    exact hsl)
  have HR := Lib.hid hrow
  clear hrow
  have hpl : p.length ≤ 100000 := hd.1
  go_enter Tryz.func10, Tryz.ntmps10
  go_wp2_with (go_at_call 14; refine cck.mono ?_)
  rintro e w2 ⟨v, H2, rfl, hb2, -, -, -, T2, hv⟩
  have hv : v = .int .i64 (if prgOk p then 0 else 4) := gval' hv
  subst hv
  have hb02 : Below w.heap.size w w2 := hb1.trans (hb2.mono (by simp))
  clear cck
  have hc2 : w2.cell? ⟨w.heap.size, 0, none⟩ = some (.slice ad p.length cap) := by
    rw [hb2.cell (p := ⟨w.heap.size, 0, none⟩) (by simp)]
    rw [World.cell?_alloc_new]; rfl
  by_cases hok : prgOk p = true
  · rw [if_pos hok]
    have hlt2 : w.heap.size < w2.heap.size := by have := hb2.size; simp at this; omega
    have hc3 : (w2.alloc (.cells #[.pointer none, .slice none 0 0] 67)).cell? ⟨w.heap.size, 0, none⟩ = some (.slice ad p.length cap) := by
      rw [← hc2]; simp only [World.cell?, Below.heap_alloc _ _ _ hlt2]
    go_wp2
    go_loopw [15] (TextRel p w w2.heap.size) (fun i _ => p.length - (intOf i).toNat)
    case atStart =>
      refine ⟨0, _, _, Nat.zero_le _, rfl, ⟨heap_alloc_new w2 _, World.ownsRowF_nil _ _ _ _, by simp [Value.ownBlock], .inl rfl⟩, hb02.alloc hb02.size _⟩
    case round =>
      obtain ⟨k, v, q, hk, rfl, hB, hbw⟩ := hrel
      by_cases hlt : k < p.length
      · obtain ⟨B, off, rfl, vs, hH, hG⟩ := HR.out k hlt
        have hc : ∀ j, j < 6 → wr.cell? ⟨B, off + k * 6 + j, none⟩ = some (vs j) := fun j hj => sealed_below hs hbw _ _ _ (hH j hj)
        obtain ⟨c, hce⟩ : ∃ c, c = p.getD k cls0 := ⟨_, rfl⟩
        rw [← hce] at hG
        have e0 : vs 0 = .string c.name := gval' (hG 0 (by omega))
        have e1 : vs 1 = .bool c.iface := gval' (hG 1 (by omega))
        have e2 : vs 2 = .string c.super := gval' (hG 2 (by omega))
        obtain ⟨a3, n3, k3, e3⟩ : ∃ a n c, vs 3 = .slice a n c := row_val (hG 3 (by omega))
        obtain ⟨a4, n4, k4, e4⟩ : ∃ a n c, vs 4 = .slice a n c := row_val (hG 4 (by omega))
        obtain ⟨a5, n5, k5, e5⟩ : ∃ a n c, vs 5 = .slice a n c := row_val (hG 5 (by omega))
        have c0 : wr.cell? ⟨B, off + k * 6, none⟩ = some (vs 0) := hc 0 (by omega)
        have c1 := hc 1 (by omega)
        have c2 := hc 2 (by omega)
        have c3 := hc 3 (by omega)
        have c4 := hc 4 (by omega)
        have c5 := hc 5 (by omega)
        rw [e0] at c0
        rw [e1] at c1
        rw [e2] at c2
        rw [e3] at c3
        rw [e4] at c4
        rw [e5] at c5
        have HE := Lib.hid (And.intro e0 (And.intro e1 (And.intro e2 (And.intro e3 (And.intro e4 e5)))))
        have HC := Lib.hid hc
        have HH := Lib.hid hH
        have HG := Lib.hid hG
        have HB := Lib.hid hB
        have HW := Lib.hid hbw
        have hcok : clsOk c = true := by rw [hce]; exact (prg_parts hok).2 _ (getT_mem p cls0 k hlt)
        have HCE := Lib.hid hce
        clear e0 e1 e2 e3 e4 e5 hc hH hG hB hbw hce
        have hlw : wr.heap.size < (wr.alloc (.cells #[.string c.name, .bool c.iface, .string c.super, .slice a3 n3 k3, .slice a4 n4 k4, .slice a5 n5 k5] 46)).heap.size := by simp
        have HA : Below wr.heap.size wr (wr.alloc (.cells #[.string c.name, .bool c.iface, .string c.super, .slice a3 n3 k3, .slice a4 n4 k4, .slice a5 n5 k5] 46)) := (Below.refl _ _).alloc (Nat.le_refl _) _
        go_wp2_with fail
        refine (ctr_later words_ok c (w := w) (H := H) 0 hcok hs hgl (HW.out.trans (HA.mono HW.out.size)) rfl (text_args HG.out HE.out)).mono ?_
        rintro e w3 ⟨v3, H3, rfl, hb3, -, hold3, hseal3, T3, hv3⟩
        have hB3 : Bld 67 5 w2.heap.size q v (Lib.byteCells ((p.take k).flatMap textC)) w3 := bld_below HB.out (HA.trans (hb3.mono (Nat.le_of_lt hlw)))
        have hbw3 : Below w.heap.size w w3 := HW.out.trans ((HA.mono HW.out.size).trans (hb3.mono (by have := HW.out.size; omega)))
        obtain ⟨b2, off2, cap2, rfl, hcell⟩ := words_cells (wordsC_ne c) hv3
        have hfar : b2 ≠ w2.heap.size ∧ some b2 ≠ v.ownBlock := far_of HB.out hs hb02.size (hold3 b2 off2) hcell (wordsC_ne c) hlw
        have HK := Lib.hid (show ∀ wq v', Aside w2.heap.size v v' w3 wq → ∀ m, m < (wordsC c).length → wq.cell? ⟨b2, off2 + m, none⟩ = some (.string ((wordsC c).getD m noS)) from fun wq v' ha m hm => by
          have h1 := hseal3 _ _ _ (hcell m hm)
          have h2 := World.block_lt_of_cell? w3 _ h1
          rw [← h1]
          simp only [World.cell?, ha.keep b2 h2 hfar.1 hfar.2])
        have HB3 := Lib.hid hB3
        have HW3 := Lib.hid hbw3
        have hwl : (wordsC c).length ≤ 2500 := wordsC_len hcok
        have HL := Lib.hid (show ∀ m s, s = (wordsC c).getD m noS → ((p.take k).flatMap textC ++ ((wordsC c).take m).flatMap putW).length + s.size ≤ 100000000 from fun m s hs => by
          have h1 := textP_len hok k
          have h2 := putW_flat ((wordsC c).take m) (fun x hx => cls_tok hcok x (List.mem_of_mem_take hx))
          have h3 : ((wordsC c).take m).length ≤ (wordsC c).length := by rw [List.length_take]; omega
          have h4 := wordsC_len hcok
          have h5 : s.size ≤ 21 := by
            rw [hs, ← sz_len]
            by_cases hm : m < (wordsC c).length
            · exact tokB_len (cls_tok hcok _ (getT_mem _ noS m hm))
            · simp [List.getD, List.getElem?_eq_none (by omega : (wordsC c).length ≤ m), noS]
          rw [List.length_append]; omega)
        clear hB3 hbw3 hcell hfar hold3 hseal3 hv3 hb3 hlw
        go_wp2
        go_loopw [22] (TextRel2 (wordsC c) ((p.take k).flatMap textC) v w3 w2.heap.size) (fun j _ => (wordsC c).length - (intOf j).toNat)
        case atStart => exact ⟨0, v, q, Nat.zero_le _, rfl, by simpa using HB3.out, Aside.refl _ _ _⟩
        case round =>
          obtain ⟨m, v', q', hm, rfl, hB4, ha4⟩ := hrel
          by_cases hmt : m < (wordsC c).length
          · have d0 := HK.out _ _ ha4 m hmt
            have HB4 := Lib.hid hB4
            have HA4 := Lib.hid ha4
            clear hB4 ha4
            obtain ⟨s, hse⟩ : ∃ s, s = (wordsC c).getD m noS := ⟨_, rfl⟩
            rw [← hse] at d0
            have HS := Lib.hid hse
            clear hse
            go_wp2_with fail
            refine (bstring s HB4.out (by rw [Lib.byteCells_length]; exact Nat.le_trans (HL.out m s HS.out) (by omega))).mono ?_
            rintro e w5 ⟨rfl, v5, hB5, ha5⟩
            have HB5 := Lib.hid hB5
            have HA5 := Lib.hid ha5
            clear hB5 ha5
            go_wp2_with fail
            all_goals
              refine (bbyte _ HB5.out (by rw [List.length_append, Lib.byteCells_length, Lib.strCells_length]; have := HL.out m s HS.out; omega)).mono ?_
              rintro e w6 ⟨rfl, v6, hB6, ha6⟩
              first
                | have hsp : sepOf s = 10 := (sep_eq s).1 (by first | exact .inl ‹_› | exact .inr (.inl ‹_›) | (have hx := ‹((s.toList == [123]) = true ∨ (s.toList == [125]) = true) ∨ (s.toList == [59]) = true›; simpa [or_assoc] using hx))
                | have hsp : sepOf s = 32 := (sep_eq s).2 (by have hx := ‹((s.toList == [123]) = false ∧ (s.toList == [125]) = false) ∧ (s.toList == [59]) = false›; simpa [and_assoc] using hx)
              rw [cells_put _ _ m hmt HS.out (by rw [hsp]; rfl)] at hB6
              have HB6 := Lib.hid hB6
              have HA6 := Lib.hid ha6
              have HSP := Lib.hid hsp
              clear hB6 ha6 hsp
              go_wp2
              go_roundw
              case rel => exact ⟨m + 1, v6, _, by omega, by go_num, HB6.out, HA4.out.trans (HA5.out.trans HA6.out)⟩
              case measure => simp [intOf]; omega
          · have hme : m = (wordsC c).length := by omega
            have HB4 := Lib.hid hB4
            have HA4 := Lib.hid ha4
            have HME := Lib.hid hme
            clear hB4 ha4 hme
            go_wp2
            go_roundw
            case rel =>
              refine ⟨k + 1, v', q', by omega, by go_num, ?_, ?_⟩
              · have := HB4.out
                rw [HME.out, List.take_length] at this
                rw [flat_snoc textC p cls0 k hlt, ← HCE.out]
                exact this
              · exact HW3.out.trans (HA4.out.below.mono hb02.size)
            case measure => simp [intOf]; omega
      · have hke : k = p.length := by omega
        have htxt : (p.take k).flatMap textC = textP p := by rw [hke, List.take_length]; rfl
        rw [htxt] at hB
        have cLen : Calls Tryz.prog 24 #[.pointer (some ⟨w2.heap.size, 0, none⟩)] wr fun e w' => e = .returned (.int .i64 (textP p).length) ∧ w' = wr := by
          refine (Tryz.Builder_Len_f w2.heap.size w2.heap.size _ _ hB.isF).mono ?_
          rintro e w' ⟨rfl, h⟩
          rw [Lib.byteCells_length]; exact ⟨rfl, h⟩
        have cStr := Tryz.Builder_String_any_k w2.heap.size w2.heap.size (textP p) _ hB.isF (Nat.le_of_lt hB.lt)
        have hbig2 := textP_len hok k
        rw [htxt] at hbig2
        have HB := Lib.hid hB
        have HW := Lib.hid hbw
        have HKE := Lib.hid hke
        clear hB hbw hke htxt
        go_wp2_with fail
        refine cLen.mono ?_
        rintro e w4 ⟨rfl, rfl⟩
        by_cases hbig : 6000 < (textP p).length
        · go_wp2
          go_ret2
          refine ⟨_, H, rfl, HW.out, .refl _, fun _ _ _ => rfl, sealed_below hs HW.out, ?_⟩
          have e : showF p = ([], 2) := by unfold showF; rw [if_pos hok, if_pos hbig]
          show G H noB noT (.tup [.row UInt8 1 byteC 0 (showF p).1, I (showF p).2]) _
          rw [e]
          refine .tup _ _ rfl fun j hj => ?_
          match j, hj with
          | 0, _ => exact .rowE ..
          | 1, _ => exact .val _
        · go_wp2_with fail
          refine cStr.mono ?_
          rintro e w5 ⟨rfl, -, hb5, -⟩
          have hconv := Lib.run_convert_string_bytes (P := Tryz.prog) w5 9 29 5 ⟨(textP p).toArray⟩ str_und bytes_und u8_und
          have hb05 : Below w.heap.size w w5 := HW.out.trans (hb5.mono hb02.size)
          have HW5 := Lib.hid hb05
          clear hb05 hb5
          go_wp2
          go_ret2
          obtain ⟨H', hbn, hle, hold, hseal, hrow'⟩ := bytes_row (P := Tryz.prog) (sealed_below hs HW5.out) 5 (textP p) 0
          refine ⟨_, H', rfl, HW5.out.trans (hbn.mono HW5.out.size), hle, fun b o h => hold b o (by have := HW5.out.size; omega), hseal, ?_⟩
          have e : showF p = (textP p, 0) := by unfold showF; rw [if_pos hok, if_neg hbig]
          show G H' noB noT (.tup [.row UInt8 1 byteC 0 (showF p).1, I (showF p).2]) _
          rw [e]
          refine .tup _ _ rfl fun j hj => ?_
          match j, hj with
          | 0, _ => exact hrow' _ (grownCap_ge _ _ _ _)
          | 1, _ => exact .val _
  · rw [if_neg hok]
    go_wp2
    go_ret2
    refine ⟨_, H, rfl, hb02, .refl _, fun _ _ _ => rfl, sealed_below hs hb02, ?_⟩
    have e : showF p = ([], 4) := by unfold showF; rw [if_neg hok]
    show G H noB noT (.tup [.row UInt8 1 byteC 0 (showF p).1, I (showF p).2]) _
    rw [e]
    refine .tup _ _ rfl fun j hj => ?_
    match j, hj with
    | 0, _ => exact .rowE ..
    | 1, _ => exact .val _
theorem row_cells' {H : HM} {X : Type} {sz : Nat} {cs : X → List SV} {d : X} {l : List X} {v : Value} (h : G H noB noT (.row X sz cs d l) v) :
    ∃ ad cap, v = .slice ad l.length cap ∧ ∀ k, k < l.length → ∃ B off, ad = some ⟨B, off, none⟩ ∧ ∃ vs : Nat → Value, (∀ j, j < sz → H B (off + k * sz + j) = some (vs j)) ∧ ∀ j, j < sz → G H noB noT (at' (cs (l.getD k d)) j .junk) (vs j) := by
  cases h with
  | rowE _ _ _ _ a c => exact ⟨a, c, rfl, fun k hk => by simp at hk⟩
  | row _ _ _ _ _ b off c vs hc hz hH hG => exact ⟨_, c, rfl, fun k hk => ⟨b, off, rfl, vs k, fun j hj => hH k j hk hj, fun j hj => hG k j hk hj⟩⟩
theorem text_ok : CtrSound Tryz.prog 10 textK := by
  refine ⟨⟨_, Tryz.func10, by kernel_rfl, by kernel_rfl⟩, fun p H w vs id hd hs hgl hn hg => ?_⟩
  obtain ⟨v, rfl, h1⟩ := args1 hn hg
  cases h1 with
  | agg _ us hu hgu =>
    obtain ⟨us⟩ := us
    match us, hu with
    | [u], _ =>
      have h2 : G H noB noT (prgR p) u := hgu 0 (Nat.succ_pos _)
      obtain ⟨ad, cap, rfl, h3⟩ := row_cells' h2
      refine (text_walk p H w ad cap hd hs (fun w' a b => hgl w' a b) h2 h3).mono ?_
      rintro e w' ⟨v, H', rfl, q1, q2, q3, q4, q5⟩
      exact ⟨v, H', noT, rfl, q1, q2, q3, fun _ _ _ h => (by cases h), fun b o u hu => ⟨q4 b o u hu, rfl⟩, q5, fun h => by cases h⟩
end Go.Proofs.YtadimoijlgmecaaGreatDoor.Ax
/- Layers parse and show: what is more than is played. PRINTED by wip/sp/sq.py. -/
set_option linter.unusedVariables false
set_option linter.unusedSimpArgs false
namespace Go.Proofs.YtadimoijlgmecaaGreatDoor.Ax
open Go Go.RowKit
def insH (x : Ins) : Bool := decide (x.a.size ≤ 60) && decide (x.b.size ≤ 60)
def tyH (t : Ty) : Bool := decide (t.2.size ≤ 60)
def catH (c : Cat) : Bool := decide (c.name.size ≤ 60)
def strH (s : ByteArray) : Bool := decide (s.size ≤ 60)
def fldH (f : Fld) : Bool := decide (f.name.size ≤ 60) && decide (f.type.2.size ≤ 60)
def methH0 (m : Meth) : Bool := decide (m.name.size ≤ 60) && (decide (m.params.length ≤ 10) && (decide (m.code.length ≤ 60) && (decide (m.catches.length ≤ 10) && decide (m.ret.2.size ≤ 60))))
def methH (m : Meth) : Bool := methH0 m && (m.code.all insH && (m.params.all tyH && m.catches.all catH))
def clsH0 (c : Cls) : Bool := decide (c.fields.length ≤ 14) && (decide (c.methods.length ≤ 14) && (decide (c.ifaces.length ≤ 10) && (decide (c.name.size ≤ 60) && decide (c.super.size ≤ 60))))
def clsH (c : Cls) : Bool := clsH0 c && (c.fields.all fldH && (c.ifaces.all strH && c.methods.all methH))
def prgH (p : List Cls) : Bool := decide (p.length ≤ 14) && p.all clsH
def heavyC : Ctr := { A := List Cls, enc := fun p => [.agg [prgR p]], dom := fun _ => True, res := fun p _ => B (!prgH p) }
theorem gtT {n : Nat} {k : Int} {m : Nat} (h : decide ((n : Int) > k) = true) (hk : k = m) : decide (n ≤ m) = false := by
  have := of_decide_eq_true h; exact decide_eq_false (by omega)
theorem gtF {n : Nat} {k : Int} {m : Nat} (h : decide ((n : Int) > k) = false) (hk : k = m) : decide (n ≤ m) = true := by
  have := of_decide_eq_false h; exact decide_eq_true (by omega)
theorem all_bad {α : Type} (l : List α) (d : α) (p : α → Bool) (i : Nat) (h : i < l.length) (hb : p (l.getD i d) = false) : l.all p = false := by
  cases hc : l.all p with
  | false => rfl
  | true => have := List.all_eq_true.1 hc _ (getT_mem l d i h); rw [hb] at this; cases this
set_option maxRecDepth 100000 in
set_option maxHeartbeats 8000000 in
theorem heavy_ok : CtrSound Tryz.prog 8 heavyC :=
  ctr_of_ax (env_ok tys_ok (eqs := []) trivial (cs := []) trivial) mixed _ Tryz.func8 (by kernel_rfl) rfl (fun _ _ => Nat.le_of_ble_eq_true rfl) fun (p : List Cls) id hd => by
    have bad0 : p.all clsH = false → (!prgH p) = true := fun h => by unfold prgH; rw [h]; simp
    refine ⟨fun h => ⟨.btt (by unfold prgH; rw [gtT h (m := 14) rfl]; rfl), rfl⟩, fun hp14 => ?_⟩
    have hp14' := of_decide_eq_true (gtF hp14 (m := 14) rfl)
    refine ⟨Nat, fun i => [(1, .box 1 0), (3, I i)], fun _ => [(1, [prgR p])], fun i => i ≤ p.length ∧ (p.take i).all clsH = true, fun i => p.length - i, ⟨0, ⟨Nat.zero_le _, rfl⟩, ⟨⟨rfl, rfl⟩, .refl _, .refl _, ⟨.refl _, trivial⟩, trivial⟩⟩, fun (i : Nat) hi => ?_⟩
    have hi1 : i ≤ p.length := hi.1
    have hi2 : (p.take i).all clsH = true := hi.2
    have hwi : IntKind.i64.wrap ((i : Int) + 1) = ((i + 1 : Nat) : Int) := by rw [wrap_eq _ (by omega) (by omega)]; omega
    refine ⟨fun h => ?_, fun h => ?_⟩
    · have hlt : i < p.length := by have := of_decide_eq_true h; omega
      have bad1 : clsH (p.getD i cls0) = false → (!prgH p) = true := fun h => bad0 (all_bad p cls0 clsH i hlt h)
      refine ⟨⟨by omega, by omega⟩, ?_⟩
      refine ⟨fun h => ⟨.btt (bad1 (by unfold clsH clsH0; rw [gtT (n := (p.getD i cls0).fields.length) h (m := 14) rfl]; rfl)), rfl⟩, fun g1 => ⟨fun h => ⟨.btt (bad1 (by unfold clsH clsH0; rw [gtT (n := (p.getD i cls0).methods.length) h (m := 14) rfl]; simp)), rfl⟩, fun g2 => ⟨fun h => ⟨.btt (bad1 (by unfold clsH clsH0; rw [gtT (n := (p.getD i cls0).ifaces.length) h (m := 10) rfl]; simp)), rfl⟩,
        fun g3 => ⟨fun h => ⟨.btt (bad1 (by unfold clsH clsH0; rw [gtT (n := (p.getD i cls0).name.size) h (m := 60) rfl]; simp)), rfl⟩, fun g4 => ⟨fun h => ⟨.btt (bad1 (by unfold clsH clsH0; rw [gtT (n := (p.getD i cls0).super.size) h (m := 60) rfl]; simp)), rfl⟩, fun g5 => ?_⟩⟩⟩⟩⟩
      have hc0 : clsH0 (p.getD i cls0) = true := by unfold clsH0; rw [gtF (n := (p.getD i cls0).fields.length) g1 (m := 14) rfl, gtF (n := (p.getD i cls0).methods.length) g2 (m := 14) rfl, gtF (n := (p.getD i cls0).ifaces.length) g3 (m := 10) rfl, gtF (n := (p.getD i cls0).name.size) g4 (m := 60) rfl, gtF (n := (p.getD i cls0).super.size) g5 (m := 60) rfl]; rfl
      have l1 := of_decide_eq_true (gtF (n := (p.getD i cls0).fields.length) g1 (m := 14) rfl)
      have l2 := of_decide_eq_true (gtF (n := (p.getD i cls0).methods.length) g2 (m := 14) rfl)
      have l3 := of_decide_eq_true (gtF (n := (p.getD i cls0).ifaces.length) g3 (m := 10) rfl)
      have hbf : (p.getD i cls0).fields.all fldH = false → clsH (p.getD i cls0) = false := fun h => by unfold clsH; rw [h]; simp
      have hbs : (p.getD i cls0).ifaces.all strH = false → clsH (p.getD i cls0) = false := fun h => by unfold clsH; rw [h]; simp
      refine ⟨Nat, fun k => [(1, .box 1 0), (3, I i), (5, I k), (4, .box 4 0)], fun _ => [(1, [prgR p]), (4, clsC (p.getD i cls0))], fun k => k ≤ (p.getD i cls0).fields.length ∧ ((p.getD i cls0).fields.take k).all fldH = true, fun k => (p.getD i cls0).fields.length - k, ⟨0, ⟨Nat.zero_le _, rfl⟩, ⟨⟨rfl, rfl⟩, .refl _, .refl _, .refl _, .refl _, ⟨.refl _, trivial⟩, ⟨.refl _, .refl _, .refl _, .refl _, .refl _, .refl _, trivial⟩, trivial⟩⟩, fun (k : Nat) hk => ?_⟩
      have hk1 : k ≤ (p.getD i cls0).fields.length := hk.1
      have hk2 : ((p.getD i cls0).fields.take k).all fldH = true := hk.2
      have hwk : IntKind.i64.wrap ((k : Int) + 1) = ((k + 1 : Nat) : Int) := by rw [wrap_eq _ (by omega) (by omega)]; omega
      refine ⟨fun h => ?_, fun h => ?_⟩
      · have hltk : k < (p.getD i cls0).fields.length := by have := of_decide_eq_true h; omega
        refine ⟨⟨by omega, by omega⟩, ?_⟩
        refine ⟨fun h => ⟨.btt (bad1 <| hbf (all_bad _ fld0 _ k hltk (by unfold fldH; rw [gtT (n := ((p.getD i cls0).fields.getD k fld0).name.size) h (m := 60) rfl]; rfl))), rfl⟩, fun f1 => ⟨⟨by omega, by omega⟩, fun h => ⟨.btt (bad1 <| hbf (all_bad _ fld0 _ k hltk (by unfold fldH; rw [gtT (n := ((p.getD i cls0).fields.getD k fld0).type.2.size) h (m := 60) rfl]; simp))), rfl⟩, fun f2 => ?_⟩⟩
        exact ⟨k + 1, ⟨hltk, by rw [allT _ fld0 _ _ hltk, hk2]; exact (by unfold fldH; rw [gtF (n := ((p.getD i cls0).fields.getD k fld0).name.size) f1 (m := 60) rfl, gtF (n := ((p.getD i cls0).fields.getD k fld0).type.2.size) f2 (m := 60) rfl]; rfl)⟩, by show (p.getD i cls0).fields.length - (k + 1) < (p.getD i cls0).fields.length - k; omega, ⟨rfl, rfl⟩, .refl _, .refl _, .int hwk, .refl _, ⟨.refl _, trivial⟩, ⟨.refl _, .refl _, .refl _, .refl _, .refl _, .refl _, trivial⟩, trivial⟩
      have hgek : k = (p.getD i cls0).fields.length := by have := of_decide_eq_false h; omega
      rw [hgek, List.take_length] at hk2
      have hfl := hk2
      clear hk hk1 hk2 hwk hgek
      refine ⟨Nat, fun k => [(1, .box 1 0), (3, I i), (4, .box 4 0), (6, I k)], fun _ => [(1, [prgR p]), (4, clsC (p.getD i cls0))], fun k => k ≤ (p.getD i cls0).ifaces.length ∧ ((p.getD i cls0).ifaces.take k).all strH = true, fun k => (p.getD i cls0).ifaces.length - k, ⟨0, ⟨Nat.zero_le _, rfl⟩, ⟨⟨rfl, rfl⟩, .refl _, .refl _, .refl _, .refl _, ⟨.refl _, trivial⟩, ⟨.refl _, .refl _, .refl _, .refl _, .refl _, .refl _, trivial⟩, trivial⟩⟩, fun (k : Nat) hk => ?_⟩
      have hk1 : k ≤ (p.getD i cls0).ifaces.length := hk.1
      have hk2 : ((p.getD i cls0).ifaces.take k).all strH = true := hk.2
      have hwk : IntKind.i64.wrap ((k : Int) + 1) = ((k + 1 : Nat) : Int) := by rw [wrap_eq _ (by omega) (by omega)]; omega
      refine ⟨fun h => ?_, fun h => ?_⟩
      · have hltk : k < (p.getD i cls0).ifaces.length := by have := of_decide_eq_true h; omega
        refine ⟨⟨by omega, by omega⟩, ?_⟩
        refine ⟨fun h => ⟨.btt (bad1 <| hbs (all_bad _ noS _ k hltk (by unfold strH; exact gtT (n := ((p.getD i cls0).ifaces.getD k noS).size) h (m := 60) rfl))), rfl⟩, fun f1 => ?_⟩
        exact ⟨k + 1, ⟨hltk, by rw [allT _ noS _ _ hltk, hk2]; exact (by unfold strH; exact gtF (n := ((p.getD i cls0).ifaces.getD k noS).size) f1 (m := 60) rfl)⟩, by show (p.getD i cls0).ifaces.length - (k + 1) < (p.getD i cls0).ifaces.length - k; omega, ⟨rfl, rfl⟩, .refl _, .refl _, .refl _, .int hwk, ⟨.refl _, trivial⟩, ⟨.refl _, .refl _, .refl _, .refl _, .refl _, .refl _, trivial⟩, trivial⟩
      have hgek : k = (p.getD i cls0).ifaces.length := by have := of_decide_eq_false h; omega
      rw [hgek, List.take_length] at hk2
      have hif := hk2
      clear hk hk1 hk2 hwk hgek
      refine ⟨Nat, fun k => [(1, .box 1 0), (3, I i), (7, I k), (4, .box 4 0)], fun _ => [(1, [prgR p]), (4, clsC (p.getD i cls0))], fun k => k ≤ (p.getD i cls0).methods.length ∧ ((p.getD i cls0).methods.take k).all methH = true, fun k => (p.getD i cls0).methods.length - k, ⟨0, ⟨Nat.zero_le _, rfl⟩, ⟨⟨rfl, rfl⟩, .refl _, .refl _, .refl _, .refl _, ⟨.refl _, trivial⟩, ⟨.refl _, .refl _, .refl _, .refl _, .refl _, .refl _, trivial⟩, trivial⟩⟩, fun (k : Nat) hk => ?_⟩
      have hk1 : k ≤ (p.getD i cls0).methods.length := hk.1
      have hk2 : ((p.getD i cls0).methods.take k).all methH = true := hk.2
      have hwk : IntKind.i64.wrap ((k : Int) + 1) = ((k + 1 : Nat) : Int) := by rw [wrap_eq _ (by omega) (by omega)]; omega
      refine ⟨fun h => ?_, fun h => ?_⟩
      · have hltk : k < (p.getD i cls0).methods.length := by have := of_decide_eq_true h; omega
        refine ⟨⟨by omega, by omega⟩, ?_⟩
        have bad3 : methH ((p.getD i cls0).methods.getD k meth0) = false → (!prgH p) = true := fun h => bad1 (by
          have := all_bad (p.getD i cls0).methods meth0 methH k hltk h
          unfold clsH; rw [this]; simp)
        have hbi : ((p.getD i cls0).methods.getD k meth0).code.all insH = false → methH ((p.getD i cls0).methods.getD k meth0) = false := fun h => by unfold methH; rw [h]; simp
        have hbp : ((p.getD i cls0).methods.getD k meth0).params.all tyH = false → methH ((p.getD i cls0).methods.getD k meth0) = false := fun h => by unfold methH; rw [h]; simp
        have hbc : ((p.getD i cls0).methods.getD k meth0).catches.all catH = false → methH ((p.getD i cls0).methods.getD k meth0) = false := fun h => by unfold methH; rw [h]; simp
        refine ⟨fun h => ⟨.btt (bad3 (by unfold methH methH0; rw [gtT (n := ((p.getD i cls0).methods.getD k meth0).name.size) h (m := 60) rfl]; rfl)), rfl⟩, fun g1 => ⟨fun h => ⟨.btt (bad3 (by unfold methH methH0; rw [gtT (n := ((p.getD i cls0).methods.getD k meth0).params.length) h (m := 10) rfl]; simp)), rfl⟩, fun g2 => ⟨fun h => ⟨.btt (bad3 (by unfold methH methH0; rw [gtT (n := ((p.getD i cls0).methods.getD k meth0).code.length) h (m := 60) rfl]; simp)), rfl⟩,
          fun g3 => ⟨fun h => ⟨.btt (bad3 (by unfold methH methH0; rw [gtT (n := ((p.getD i cls0).methods.getD k meth0).catches.length) h (m := 10) rfl]; simp)), rfl⟩, fun g4 => ⟨fun h => ⟨.btt (bad3 (by unfold methH methH0; rw [gtT (n := ((p.getD i cls0).methods.getD k meth0).ret.2.size) h (m := 60) rfl]; simp)), rfl⟩, fun g5 => ?_⟩⟩⟩⟩⟩
        have hm0 : methH0 ((p.getD i cls0).methods.getD k meth0) = true := by unfold methH0; rw [gtF (n := ((p.getD i cls0).methods.getD k meth0).name.size) g1 (m := 60) rfl, gtF (n := ((p.getD i cls0).methods.getD k meth0).params.length) g2 (m := 10) rfl, gtF (n := ((p.getD i cls0).methods.getD k meth0).code.length) g3 (m := 60) rfl, gtF (n := ((p.getD i cls0).methods.getD k meth0).catches.length) g4 (m := 10) rfl, gtF (n := ((p.getD i cls0).methods.getD k meth0).ret.2.size) g5 (m := 60) rfl]; rfl
        have n2 := of_decide_eq_true (gtF (n := ((p.getD i cls0).methods.getD k meth0).params.length) g2 (m := 10) rfl)
        have n3 := of_decide_eq_true (gtF (n := ((p.getD i cls0).methods.getD k meth0).code.length) g3 (m := 60) rfl)
        have n4 := of_decide_eq_true (gtF (n := ((p.getD i cls0).methods.getD k meth0).catches.length) g4 (m := 10) rfl)
        refine ⟨Nat, fun q => [(1, .box 1 0), (3, I i), (7, I k), (9, I q), (4, .box 4 0), (8, .box 8 0)], fun _ => [(1, [prgR p]), (4, clsC (p.getD i cls0)), (8, methC ((p.getD i cls0).methods.getD k meth0))], fun q => q ≤ ((p.getD i cls0).methods.getD k meth0).code.length ∧ (((p.getD i cls0).methods.getD k meth0).code.take q).all insH = true, fun q => ((p.getD i cls0).methods.getD k meth0).code.length - q, ⟨0, ⟨Nat.zero_le _, rfl⟩, ⟨⟨rfl, rfl⟩, .refl _, .refl _, .refl _, .refl _, .refl _, .refl _, ⟨.refl _, trivial⟩, ⟨.refl _, .refl _, .refl _, .refl _, .refl _, .refl _, trivial⟩, ⟨.refl _, .refl _, .refl _, .refl _, .refl _, .refl _, .refl _, .refl _, .refl _, trivial⟩, trivial⟩⟩, fun (q : Nat) hq => ?_⟩
        have hq1 : q ≤ ((p.getD i cls0).methods.getD k meth0).code.length := hq.1
        have hq2 : (((p.getD i cls0).methods.getD k meth0).code.take q).all insH = true := hq.2
        have hwq : IntKind.i64.wrap ((q : Int) + 1) = ((q + 1 : Nat) : Int) := by rw [wrap_eq _ (by omega) (by omega)]; omega
        refine ⟨fun h => ?_, fun h => ?_⟩
        · have hltq : q < ((p.getD i cls0).methods.getD k meth0).code.length := by have := of_decide_eq_true h; omega
          refine ⟨⟨by omega, by omega⟩, ?_⟩
          refine ⟨fun h => ⟨.btt (bad3 <| hbi (all_bad _ ins0 _ q hltq (by unfold insH; rw [gtT (n := (((p.getD i cls0).methods.getD k meth0).code.getD q ins0).a.size) h (m := 60) rfl]; rfl))), rfl⟩, fun f1 => ⟨⟨by omega, by omega⟩, fun h => ⟨.btt (bad3 <| hbi (all_bad _ ins0 _ q hltq (by unfold insH; rw [gtT (n := (((p.getD i cls0).methods.getD k meth0).code.getD q ins0).b.size) h (m := 60) rfl]; simp))), rfl⟩, fun f2 => ?_⟩⟩
          exact ⟨q + 1, ⟨hltq, by rw [allT _ ins0 _ _ hltq, hq2]; exact (by unfold insH; rw [gtF (n := (((p.getD i cls0).methods.getD k meth0).code.getD q ins0).a.size) f1 (m := 60) rfl, gtF (n := (((p.getD i cls0).methods.getD k meth0).code.getD q ins0).b.size) f2 (m := 60) rfl]; rfl)⟩, by show ((p.getD i cls0).methods.getD k meth0).code.length - (q + 1) < ((p.getD i cls0).methods.getD k meth0).code.length - q; omega, ⟨rfl, rfl⟩, .refl _, .refl _, .refl _, .int hwq, .refl _, .refl _, ⟨.refl _, trivial⟩, ⟨.refl _, .refl _, .refl _, .refl _, .refl _, .refl _, trivial⟩, ⟨.refl _, .refl _, .refl _, .refl _, .refl _, .refl _, .refl _, .refl _, .refl _, trivial⟩, trivial⟩
        have hgeq : q = ((p.getD i cls0).methods.getD k meth0).code.length := by have := of_decide_eq_false h; omega
        rw [hgeq, List.take_length] at hq2
        have hcode := hq2
        clear hq hq1 hq2 hwq hgeq
        refine ⟨Nat, fun q => [(1, .box 1 0), (3, I i), (7, I k), (4, .box 4 0), (8, .box 8 0), (10, I q)], fun _ => [(1, [prgR p]), (4, clsC (p.getD i cls0)), (8, methC ((p.getD i cls0).methods.getD k meth0))], fun q => q ≤ ((p.getD i cls0).methods.getD k meth0).params.length ∧ (((p.getD i cls0).methods.getD k meth0).params.take q).all tyH = true, fun q => ((p.getD i cls0).methods.getD k meth0).params.length - q, ⟨0, ⟨Nat.zero_le _, rfl⟩, ⟨⟨rfl, rfl⟩, .refl _, .refl _, .refl _, .refl _, .refl _, .refl _, ⟨.refl _, trivial⟩, ⟨.refl _, .refl _, .refl _, .refl _, .refl _, .refl _, trivial⟩, ⟨.refl _, .refl _, .refl _, .refl _, .refl _, .refl _, .refl _, .refl _, .refl _, trivial⟩, trivial⟩⟩, fun (q : Nat) hq => ?_⟩
        have hq1 : q ≤ ((p.getD i cls0).methods.getD k meth0).params.length := hq.1
        have hq2 : (((p.getD i cls0).methods.getD k meth0).params.take q).all tyH = true := hq.2
        have hwq : IntKind.i64.wrap ((q : Int) + 1) = ((q + 1 : Nat) : Int) := by rw [wrap_eq _ (by omega) (by omega)]; omega
        refine ⟨fun h => ?_, fun h => ?_⟩
        · have hltq : q < ((p.getD i cls0).methods.getD k meth0).params.length := by have := of_decide_eq_true h; omega
          refine ⟨⟨by omega, by omega⟩, ?_⟩
          refine ⟨fun h => ⟨.btt (bad3 <| hbp (all_bad _ ty0 _ q hltq (by unfold tyH; exact gtT (n := (((p.getD i cls0).methods.getD k meth0).params.getD q ty0).2.size) h (m := 60) rfl))), rfl⟩, fun f1 => ?_⟩
          exact ⟨q + 1, ⟨hltq, by rw [allT _ ty0 _ _ hltq, hq2]; exact (by unfold tyH; exact gtF (n := (((p.getD i cls0).methods.getD k meth0).params.getD q ty0).2.size) f1 (m := 60) rfl)⟩, by show ((p.getD i cls0).methods.getD k meth0).params.length - (q + 1) < ((p.getD i cls0).methods.getD k meth0).params.length - q; omega, ⟨rfl, rfl⟩, .refl _, .refl _, .refl _, .refl _, .refl _, .int hwq, ⟨.refl _, trivial⟩, ⟨.refl _, .refl _, .refl _, .refl _, .refl _, .refl _, trivial⟩, ⟨.refl _, .refl _, .refl _, .refl _, .refl _, .refl _, .refl _, .refl _, .refl _, trivial⟩, trivial⟩
        have hgeq : q = ((p.getD i cls0).methods.getD k meth0).params.length := by have := of_decide_eq_false h; omega
        rw [hgeq, List.take_length] at hq2
        have hpar := hq2
        clear hq hq1 hq2 hwq hgeq
        refine ⟨Nat, fun q => [(1, .box 1 0), (3, I i), (7, I k), (11, I q), (4, .box 4 0), (8, .box 8 0)], fun _ => [(1, [prgR p]), (4, clsC (p.getD i cls0)), (8, methC ((p.getD i cls0).methods.getD k meth0))], fun q => q ≤ ((p.getD i cls0).methods.getD k meth0).catches.length ∧ (((p.getD i cls0).methods.getD k meth0).catches.take q).all catH = true, fun q => ((p.getD i cls0).methods.getD k meth0).catches.length - q, ⟨0, ⟨Nat.zero_le _, rfl⟩, ⟨⟨rfl, rfl⟩, .refl _, .refl _, .refl _, .refl _, .refl _, .refl _, ⟨.refl _, trivial⟩, ⟨.refl _, .refl _, .refl _, .refl _, .refl _, .refl _, trivial⟩, ⟨.refl _, .refl _, .refl _, .refl _, .refl _, .refl _, .refl _, .refl _, .refl _, trivial⟩, trivial⟩⟩, fun (q : Nat) hq => ?_⟩
        have hq1 : q ≤ ((p.getD i cls0).methods.getD k meth0).catches.length := hq.1
        have hq2 : (((p.getD i cls0).methods.getD k meth0).catches.take q).all catH = true := hq.2
        have hwq : IntKind.i64.wrap ((q : Int) + 1) = ((q + 1 : Nat) : Int) := by rw [wrap_eq _ (by omega) (by omega)]; omega
        refine ⟨fun h => ?_, fun h => ?_⟩
        · have hltq : q < ((p.getD i cls0).methods.getD k meth0).catches.length := by have := of_decide_eq_true h; omega
          refine ⟨⟨by omega, by omega⟩, ?_⟩
          refine ⟨fun h => ⟨.btt (bad3 <| hbc (all_bad _ cat0 _ q hltq (by unfold catH; exact gtT (n := (((p.getD i cls0).methods.getD k meth0).catches.getD q cat0).name.size) h (m := 60) rfl))), rfl⟩, fun f1 => ?_⟩
          exact ⟨q + 1, ⟨hltq, by rw [allT _ cat0 _ _ hltq, hq2]; exact (by unfold catH; exact gtF (n := (((p.getD i cls0).methods.getD k meth0).catches.getD q cat0).name.size) f1 (m := 60) rfl)⟩, by show ((p.getD i cls0).methods.getD k meth0).catches.length - (q + 1) < ((p.getD i cls0).methods.getD k meth0).catches.length - q; omega, ⟨rfl, rfl⟩, .refl _, .refl _, .refl _, .int hwq, .refl _, .refl _, ⟨.refl _, trivial⟩, ⟨.refl _, .refl _, .refl _, .refl _, .refl _, .refl _, trivial⟩, ⟨.refl _, .refl _, .refl _, .refl _, .refl _, .refl _, .refl _, .refl _, .refl _, trivial⟩, trivial⟩
        have hgeq : q = ((p.getD i cls0).methods.getD k meth0).catches.length := by have := of_decide_eq_false h; omega
        rw [hgeq, List.take_length] at hq2
        have hmm : methH ((p.getD i cls0).methods.getD k meth0) = true := by unfold methH; rw [hm0, hcode, hpar, hq2]; rfl
        exact ⟨k + 1, ⟨hltk, by rw [allT _ meth0 _ _ hltk, hk2, hmm]; rfl⟩, by show (p.getD i cls0).methods.length - (k + 1) < (p.getD i cls0).methods.length - k; omega, ⟨rfl, rfl⟩, .refl _, .refl _, .int hwk, .refl _, ⟨.refl _, trivial⟩, ⟨.refl _, .refl _, .refl _, .refl _, .refl _, .refl _, trivial⟩, trivial⟩
      have hgek : k = (p.getD i cls0).methods.length := by have := of_decide_eq_false h; omega
      rw [hgek, List.take_length] at hk2
      have hcc : clsH (p.getD i cls0) = true := by unfold clsH; rw [hc0, hfl, hif, hk2]; rfl
      exact ⟨i + 1, ⟨hlt, by rw [allT _ cls0 _ _ hlt, hi2, hcc]; rfl⟩, by show p.length - (i + 1) < p.length - i; omega, ⟨rfl, rfl⟩, .refl _, .int hwi, ⟨.refl _, trivial⟩, trivial⟩
    · have hge : i = p.length := by have := of_decide_eq_false h; omega
      rw [hge, List.take_length] at hi2
      exact ⟨.bff (by unfold prgH; rw [gtF hp14 (m := 14) rfl, hi2]; rfl), rfl⟩
end Go.Proofs.YtadimoijlgmecaaGreatDoor.Ax
/- Layer parse: programs compared. -/
set_option linter.unusedVariables false
set_option linter.unusedSimpArgs false
namespace Go.Proofs.YtadimoijlgmecaaGreatDoor.Ax
open Go Go.RowKit
abbrev LB : Nat := 4611686018427387904
def mLen (m : Meth) : Prop := m.params.length ≤ LB ∧ m.code.length ≤ LB ∧ m.catches.length ≤ LB
def cLen (c : Cls) : Prop := c.ifaces.length ≤ LB ∧ c.fields.length ≤ LB ∧ c.methods.length ≤ LB ∧ ∀ m ∈ c.methods, mLen m
def pLen (p : List Cls) : Prop := p.length ≤ LB ∧ ∀ c ∈ p, cLen c
end Go.Proofs.YtadimoijlgmecaaGreatDoor.Ax
/- Layer show: what each statement wakes; ShowUnlike, ShowParts. -/
set_option linter.unusedVariables false
set_option linter.unusedSimpArgs false
namespace Go.Proofs.YtadimoijlgmecaaGreatDoor.Ax
open Go Go.RowKit
theorem Sub.agg1 {a b : SV} (h : Sub a b) : Sub (.agg [a]) (.agg [b]) := .agg _ _ rfl fun j hj => by
  obtain rfl : j = 0 := by simpa using hj
  exact h
theorem meth_H {m : Meth} (h : methH m = true) : methD m ∧ mLen m := by
  unfold methH methH0 at h
  simp only [Bool.and_eq_true, decide_eq_true_eq, List.all_eq_true] at h
  obtain ⟨⟨h1, h2, h3, h4, h5⟩, h6, h7, h8⟩ := h
  refine ⟨⟨by unfold SM; omega, by unfold SM; omega, ⟨by omega, fun x hx => ?_⟩, ⟨by omega, fun x hx => ?_⟩, by omega, fun x hx => ?_⟩, by unfold LB; omega, by unfold LB; omega, by unfold LB; omega⟩
  · have := h7 x hx; unfold tyH at this; have := of_decide_eq_true this; unfold SM; omega
  · have := h6 x hx; unfold insH at this; simp only [Bool.and_eq_true, decide_eq_true_eq] at this; exact ⟨by unfold SM; omega, by unfold SM; omega⟩
  · have := h8 x hx; unfold catH at this; have := of_decide_eq_true this; show x.name.size ≤ SM; unfold SM; omega
theorem cls_H {c : Cls} (h : clsH c = true) : clsD c ∧ cLen c := by
  unfold clsH clsH0 at h
  simp only [Bool.and_eq_true, decide_eq_true_eq, List.all_eq_true] at h
  obtain ⟨⟨h1, h2, h3, h4, h5⟩, h6, h7, h8⟩ := h
  refine ⟨⟨by unfold SM; omega, by unfold SM; omega, ⟨by omega, fun x hx => ?_⟩, ⟨by omega, fun x hx => ?_⟩, by omega, fun x hx => (meth_H (h8 x hx)).1⟩, by unfold LB; omega, by unfold LB; omega, by unfold LB; omega, fun x hx => (meth_H (h8 x hx)).2⟩
  · have := h7 x hx; unfold strH at this; have := of_decide_eq_true this; unfold SM; omega
  · have := h6 x hx; unfold fldH at this; simp only [Bool.and_eq_true, decide_eq_true_eq] at this; exact ⟨by unfold SM; omega, by unfold SM; omega⟩
theorem prg_H {p : List Cls} (h : prgH p = true) : prgD p ∧ pLen p := by
  unfold prgH at h
  simp only [Bool.and_eq_true, decide_eq_true_eq, List.all_eq_true] at h
  exact ⟨⟨by omega, fun c hc => (cls_H (h.2 c hc)).1⟩, by unfold LB; omega, fun c hc => (cls_H (h.2 c hc)).2⟩
theorem show_ok {p : List Cls} (h : (showF p).2 = 0) : prgOk p = true ∧ (textP p).length ≤ 6000 ∧ (showF p).1 = textP p := by
  unfold showF at h ⊢
  by_cases h1 : prgOk p = true
  · rw [if_pos h1] at h ⊢
    by_cases h2 : 6000 < (textP p).length
    · rw [if_pos h2] at h; cases h
    · rw [if_neg h2]; exact ⟨h1, by omega, rfl⟩
  · rw [if_neg h1] at h; cases h
theorem show_len (p : List Cls) : (showF p).1.length ≤ 6000 := by
  unfold showF
  split
  · split
    · simp
    · show (textP p).length ≤ 6000; omega
  · simp
abbrev lS : Ctr := { A := Unit, enc := fun _ => [], dom := fun _ => True, res := fun _ _ => .tt, gl := tabS }
abbrev clsA : Cls := ⟨⟨#[65]⟩, false, noS, [], [], []⟩
theorem wkS1 : showF [clsA] = ([99, 108, 97, 115, 115, 32, 65, 32, 123, 10, 125, 10], 0) := by decide +kernel
theorem wkS2 : typeF 5 [65] = ([65, 91, 93], 0) := by decide +kernel
theorem wkS3 : prgOk [cls0] = false := by decide +kernel
theorem clsD_of (s : ByteArray) (h : s.size ≤ 100) : clsD ⟨s, false, noS, [], [], []⟩ := ⟨by show s.size ≤ SM; unfold SM; omega, (by show noS.size ≤ 4611686018427387904; decide), ⟨Nat.zero_le _, fun x hx => by cases hx⟩, ⟨Nat.zero_le _, fun x hx => by cases hx⟩, Nat.zero_le _, fun x hx => by cases hx⟩
set_option maxRecDepth 100000 in
set_option maxHeartbeats 2000000 in
theorem wakesS_ok : CtrSound Tryz.prog 16 lS :=
  ctr_of_ax (env_okB tys_ok (eqs := []) trivial (cs := [(10, textK), (11, typeC), (14, okC)]) ⟨text_ok, type_ok, ok_ok, trivial⟩ (bs := []) trivial (gl := tabS)) mixed _ Tryz.func16 (by kernel_rfl) rfl (fun _ _ => Nat.le_of_ble_eq_true rfl) fun (_ : Unit) id hd => by
    obtain ⟨p1, e1⟩ : ∃ p : List Cls, p = [clsA] := ⟨_, rfl⟩
    obtain ⟨p2, e2⟩ : ∃ p : List Cls, p = [cls0] := ⟨_, rfl⟩
    obtain ⟨l1, f1⟩ : ∃ l : List UInt8, l = [65] := ⟨_, rfl⟩
    have a1 := wkS1
    rw [← e1] at a1
    have a2 := wkS2
    rw [← f1] at a2
    have a3 := wkS3
    rw [← e2] at a3
    have b1 : (showF p1).2 = 0 := by rw [a1]
    have b2 : ((⟨(showF p1).1.toArray⟩ : ByteArray).toList == (⟨#[99, 108, 97, 115, 115, 32, 65, 32, 123, 10, 125, 10]⟩ : ByteArray).toList) = true := by rw [a1]; simp
    have b3 : (typeF 5 l1).2 = 0 := by rw [a2]
    have b4 : ((txt (typeF 5 l1).1).toList == (⟨#[65, 91, 93]⟩ : ByteArray).toList) = true := by rw [a2]; simp [txt]
    refine ⟨Cls, clsC, cls0, [clsA], ⟨rfl, fun _ => rfl⟩, ⟨.refl _, .refl _, .refl _, .nil .., .nil .., .nil .., trivial⟩, rfl, ?_⟩
    refine ⟨p1, ⟨.agg1 (.ownRow e1.symm), trivial⟩, rfl, (show prgD p1 by rw [e1]; exact ⟨by decide, fun c hc => by rw [List.mem_singleton.1 hc]; exact clsD_of _ (by decide)⟩), ?_⟩
    refine ⟨(5, l1), ⟨.agg2 (.refl _) (.str (by rw [f1])), trivial⟩, rfl, (show l1.length ≤ 1000000 by rw [f1]; decide), ?_⟩
    refine ⟨fun h => ?_, fun h => absurd h (by show ¬ ((showF p1).2 == 0) = false; rw [b1]; decide)⟩
    refine ⟨(showF p1).1, .refl _, ?_⟩
    refine ⟨fun h => ?_, fun h => absurd h (by show ¬ ((⟨(showF p1).1.toArray⟩ : ByteArray).toList == (⟨#[99, 108, 97, 115, 115, 32, 65, 32, 123, 10, 125, 10]⟩ : ByteArray).toList) = false; rw [b2]; decide)⟩
    refine ⟨fun h => ?_, fun h => absurd h (by show ¬ ((typeF 5 l1).2 == 0) = false; rw [b3]; decide)⟩
    refine ⟨fun h => ?_, fun h => absurd h (by show ¬ ((txt (typeF 5 l1).1).toList == (⟨#[65, 91, 93]⟩ : ByteArray).toList) = false; rw [b4]; decide)⟩
    refine ⟨Cls, clsC, cls0, [cls0], ⟨rfl, fun _ => rfl⟩, ⟨.refl _, .refl _, .refl _, .nil .., .nil .., .nil .., trivial⟩, rfl, ?_⟩
    refine ⟨p2, ⟨.agg1 (.ownRow e2.symm), trivial⟩, rfl, (show prgD p2 by rw [e2]; exact ⟨by decide, fun c hc => by rw [List.mem_singleton.1 hc]; exact clsD_of _ (by decide)⟩), ?_⟩
    exact ⟨.toTT (by show ((if prgOk p2 then (0 : Int) else 4) == 4) = true; rw [a3]; rfl), rfl⟩
theorem beqT {a b : Int} (h : (a != b) = false) : a = b := by simpa using h
def ShowUnlike : Ctr := { A := List Cls × List Cls, enc := fun x => [.agg [prgR x.1], .agg [prgR x.2]], dom := fun _ => True, res := fun _ _ => .tt, gl := tabS }
def ShowParts : Ctr := { A := List Cls, enc := fun p => [.agg [prgR p]], dom := fun _ => True, res := fun _ _ => .tt, gl := tabS }
end Go.Proofs.YtadimoijlgmecaaGreatDoor.Ax
/- Layer show: ShowBack. -/
set_option linter.unusedVariables false
set_option linter.unusedSimpArgs false
namespace Go.Proofs.YtadimoijlgmecaaGreatDoor.Ax
open Go Go.RowKit
def ShowBack : Ctr := { A := List Cls, enc := fun p => [.agg [prgR p]], dom := fun _ => True, res := fun _ _ => .tt, gl := tabP }
end Go.Proofs.YtadimoijlgmecaaGreatDoor.Ax
/- Layer show: the lines of a text; ShowLines. -/
set_option linter.unusedVariables false
set_option linter.unusedSimpArgs false
namespace Go.Proofs.YtadimoijlgmecaaGreatDoor.Ax
open Go Go.RowKit
def cW (l : List ByteArray) : Nat := (l.flatMap putW).count 10
theorem cW_nil : cW [] = 0 := rfl
theorem cW_cons (w : ByteArray) (r : List ByteArray) : cW (w :: r) = (putW w).count 10 + cW r := by unfold cW; rw [List.flatMap_cons, List.count_append]
theorem cW_app (a b : List ByteArray) : cW (a ++ b) = cW a + cW b := by unfold cW; rw [List.flatMap_append, List.count_append]
theorem put_plain {w : ByteArray} (h : (10 : UInt8) ∉ w.data.toList) (h1 : w ≠ wLc) (h2 : w ≠ wRc) (h3 : w ≠ wSemi) : (putW w).count 10 = 0 := by
  unfold putW sepOf
  rw [if_neg (fun c => c.elim h1 fun c => c.elim h2 h3), List.count_append, List.count_eq_zero_of_not_mem h]
  rfl
theorem put_name {w : ByteArray} (h : nameF w.data.toList = true) : (putW w).count 10 = 0 := by
  obtain ⟨c, r, e, h1, h2, -⟩ := name_form.1 h
  refine put_plain (fun hm => ?_) ?_ ?_ ?_
  · rw [e] at hm
    rcases List.mem_cons.1 hm with q | q
    · rw [← q] at h1; exact absurd h1 (by decide)
    · exact absurd (List.all_eq_true.1 h2 _ q) (by decide)
  all_goals
    rintro rfl
    exact absurd h (by decide +kernel)
theorem put_fresh {w : ByteArray} (h : freshW w = true) : (putW w).count 10 = 0 := by
  have h : freshF w.data.toList = true := h
  unfold freshF at h
  rw [Bool.and_eq_true] at h
  exact put_name h.1
theorem put_dig (n : Int) : (putW (dig n)).count 10 = 0 := by
  have e : (dig n).data.toList = Lib.itoa n := by simp [dig, itoaB]
  have h10 : (10 : UInt8) ∉ (dig n).data.toList ∧ ((dig n).data.toList.getD 0 0 = 45 ∨ isDig ((dig n).data.toList.getD 0 0) = true) := by
    rw [e]
    rcases itoa_form n with ⟨b, r, e1, h1, h2⟩ | ⟨b, r, e1, h1, h2⟩ <;> rw [e1]
    · refine ⟨fun hm => ?_, .inr h1⟩
      rcases List.mem_cons.1 hm with q | q
      · rw [← q] at h1; exact absurd h1 (by decide)
      · exact absurd (List.all_eq_true.1 h2 _ q) (by decide)
    · refine ⟨fun hm => ?_, .inl rfl⟩
      rcases List.mem_cons.1 hm with q | hm
      · exact absurd q (by decide)
      rcases List.mem_cons.1 hm with q | q
      · rw [← q] at h1; exact absurd h1 (by decide)
      · exact absurd (List.all_eq_true.1 h2 _ q) (by decide)
  refine put_plain h10.1 ?_ ?_ ?_
  all_goals
    intro c
    have := h10.2
    rw [c] at this
    exact absurd this (by decide)
theorem put_sign : (putW wLp).count 10 = 0 ∧ (putW wRp).count 10 = 0 ∧ (putW wComma).count 10 = 0 ∧ (putW wColon).count 10 = 0 ∧ (putW wLb).count 10 = 0 ∧ (putW wRb).count 10 = 0 ∧ (putW wLc).count 10 = 1 ∧ (putW wRc).count 10 = 1 ∧ (putW wSemi).count 10 = 1 := by decide +kernel
theorem put_keys : (putW wVoid).count 10 = 0 ∧ (putW wInt).count 10 = 0 ∧ (putW wLocals).count 10 = 0 ∧ (putW wCatch).count 10 = 0 ∧ (putW wField).count 10 = 0 ∧ (putW wStatic).count 10 = 0 ∧ (putW wMethod).count 10 = 0 ∧ (putW wFunction).count 10 = 0 ∧ (putW wClass).count 10 = 0 ∧ (putW wInterface).count 10 = 0 ∧ (putW wExtends).count 10 = 0 ∧ (putW wImplements).count 10 = 0 := by decide +kernel
theorem cW_flat {α : Type} {f : α → List ByteArray} {k : α → Nat} : ∀ (l : List α), (∀ x ∈ l, cW (f x) = k x) → cW (l.flatMap f) = (l.map k).sum
  | [], _ => rfl
  | x :: r, h => by rw [List.flatMap_cons, cW_app, h x (by simp), cW_flat r (fun y hy => h y (by simp [hy]))]; simp
theorem sum_zero {α : Type} : ∀ (l : List α), (l.map fun _ => 0).sum = 0
  | [] => rfl
  | x :: r => by simp [sum_zero r]
theorem sum_one {α : Type} : ∀ (l : List α), (l.map fun _ => 1).sum = l.length
  | [] => rfl
  | x :: r => by simp [sum_one r]; omega
theorem cW_kind {t : Ty} (h : tyOk t = true) : cW (kindW t) = 0 := by
  have h : typedF t.1 t.2.data.toList = true := h
  unfold kindW kindF
  obtain ⟨s1, s2, s3, s4, s5, s6, s7, s8, s9⟩ := put_sign
  obtain ⟨k1, k2, -⟩ := put_keys
  have e1 : (⟨#[118, 111, 105, 100]⟩ : ByteArray) = wVoid := rfl
  have e2 : (⟨#[105, 110, 116]⟩ : ByteArray) = wInt := rfl
  have e3 : (⟨#[91]⟩ : ByteArray) = wLb := rfl
  have e4 : (⟨#[93]⟩ : ByteArray) = wRb := rfl
  rw [e1, e2, e3, e4]
  unfold typedF at h
  split
  · simp only [cW_cons, cW_nil, k1]
  · split
    · simp only [cW_cons, cW_nil, k2]
    · split
      · simp only [cW_cons, cW_nil, k2, s5, s6]
      · rename_i c1 c2 c3
        rw [if_neg (fun q => q.elim c1 fun q => q.elim c2 c3)] at h
        have hf : freshW t.2 = true := by
          split at h
          · exact h
          · cases h
        split
        · simp only [cW_cons, cW_nil, put_fresh hf, s5, s6]
        · simp only [cW_cons, cW_nil, put_fresh hf]
theorem cW_params : ∀ {l : List Ty}, (∀ t ∈ l, tyOk t = true) → cW (paramsF l) = 0
  | [], _ => rfl
  | t :: r, h => by
    show cW (kindW t ++ r.flatMap fun x => wComma :: kindW x) = 0
    rw [cW_app, cW_kind (h t (by simp)), cW_flat (k := fun _ => 0) r (fun x hx => by rw [cW_cons, put_sign.2.2.1, cW_kind (h x (by simp [hx]))]), sum_zero]
theorem cW_list {w : ByteArray} (hw : (putW w).count 10 = 0) : ∀ {l : List ByteArray}, (∀ t ∈ l, freshW t = true) → cW (listF w l) = 0
  | [], _ => rfl
  | t :: r, h => by
    show cW ([w, t] ++ r.flatMap fun x => [wComma, x]) = 0
    rw [cW_app, cW_cons, cW_cons, hw, put_fresh (h t (by simp)), cW_nil, cW_flat (k := fun _ => 0) r (fun x hx => by rw [cW_cons, cW_cons, put_sign.2.2.1, put_fresh (h x (by simp [hx])), cW_nil]), sum_zero]
theorem cW_opt {s : ByteArray} {b : Bool} (h : namedF s.data.toList b = true) : cW (if s = noS then [] else [s]) = 0 := by
  split
  · rfl
  · rename_i c
    unfold namedF at h
    cases b with
    | true => rw [cW_cons, put_fresh h, cW_nil]
    | false => exact absurd (ba_nil.2 (of_decide_eq_true (by simpa using h))) c
theorem cW_code {x : Ins} (h : insOk x = true) : cW (codeF x) = 1 := by
  have h : instrF x.op x.n x.a.data.toList x.b.data.toList = true := h
  unfold instrF at h
  simp only [Bool.and_eq_true] at h
  obtain ⟨⟨⟨h1, h2⟩, h3⟩, h4⟩ := h
  have ho : 0 ≤ x.op ∧ x.op ≤ 43 := of_decide_eq_true h1
  unfold codeF
  have hd : cW (if (numsF x.op).2.2 = true then [dig x.n] else []) = 0 := by
    split
    · rw [cW_cons, put_dig, cW_nil]
    · rfl
  rw [cW_app, cW_app, cW_app, cW_app, cW_cons, put_name (word_op ho.1 ho.2).1, cW_nil, hd, cW_opt h3, cW_opt h4, cW_cons, put_sign.2.2.2.2.2.2.2.2, cW_nil]
theorem cW_cat {c : Cat} (h : catOk c = true) : cW (catF c) = 1 := by
  have h : catchF c.name.data.toList c.fr c.up c.at' = true := h
  unfold catchF at h
  simp only [Bool.and_eq_true] at h
  unfold catF
  simp only [cW_cons, cW_nil, put_keys.2.2.2.1, put_fresh (w := c.name) h.1.1.1, put_dig, put_sign.2.2.2.2.2.2.2.2]
theorem cW_fld {f : Fld} (h : fldOk f = true) : cW (fldF f) = 1 := by
  have h : (freshW f.name && tyOk f.type) = true := h
  rw [Bool.and_eq_true] at h
  unfold fldF
  have hk : (putW (if f.static = true then wStatic else wField)).count 10 = 0 := by
    split
    · exact put_keys.2.2.2.2.2.1
    · exact put_keys.2.2.2.2.1
  rw [cW_app, cW_app, cW_kind h.2]
  simp only [cW_cons, cW_nil, hk, put_fresh h.1, put_sign.2.2.2.1, put_sign.2.2.2.2.2.2.2.2]
def linM (m : Meth) : Nat := 1 + if m.abs then 0 else 1 + m.code.length + m.catches.length
def linC (c : Cls) : Nat := 2 + c.fields.length + (c.methods.map linM).sum
theorem cW_meth {m : Meth} (h : methOk m = true) : cW (doesF m) = linM m := by
  obtain ⟨p1, p2, p3, p4, p5, p6, p7⟩ := meth_parts h
  have hk : (putW (if m.static = true then wFunction else wMethod)).count 10 = 0 := by
    split
    · exact put_keys.2.2.2.2.2.2.2.1
    · exact put_keys.2.2.2.2.2.2.1
  unfold doesF linM
  rw [cW_app, cW_app, cW_app, cW_app, cW_params p3.2, cW_kind p4]
  simp only [cW_cons, cW_nil, hk, put_fresh p2, put_sign.1, put_sign.2.1]
  cases ha : m.abs with
  | true => simp [cW_cons, cW_nil, put_sign.2.2.2.2.2.2.2.2]
  | false =>
    simp only [Bool.false_eq_true, if_false]
    rw [cW_app, cW_app, cW_app, cW_flat (k := fun _ => 1) m.code (fun x hx => cW_code (p6.2 x hx)), cW_flat (k := fun _ => 1) m.catches (fun x hx => cW_cat (p7.2 x hx)), sum_one, sum_one]
    simp only [cW_cons, cW_nil, put_keys.2.2.1, put_dig, put_sign.2.2.2.2.2.2.1, put_sign.2.2.2.2.2.2.2.1]
    omega
theorem cW_cls {c : Cls} (h : clsOk c = true) : cW (wordsC c) = linC c := by
  obtain ⟨p1, p2, p3, p4, p5⟩ := cls_parts h
  have hk : (putW (if c.iface = true then wInterface else wClass)).count 10 = 0 := by
    split
    · exact put_keys.2.2.2.2.2.2.2.2.2.1
    · exact put_keys.2.2.2.2.2.2.2.2.1
  have hk2 : (putW (if c.iface = true then wExtends else wImplements)).count 10 = 0 := by
    split
    · exact put_keys.2.2.2.2.2.2.2.2.2.2.1
    · exact put_keys.2.2.2.2.2.2.2.2.2.2.2
  have hs : cW (if c.super = noS then [] else [wExtends, c.super]) = 0 := by
    split
    · rfl
    · rename_i q
      have := (p2.resolve_left q).2
      simp only [cW_cons, cW_nil, put_keys.2.2.2.2.2.2.2.2.2.2.1, put_fresh this]
  unfold wordsC linC
  rw [cW_app, cW_app, cW_app, cW_app, cW_app, cW_app, hs, cW_list hk2 p3.2, cW_flat (k := fun _ => 1) c.fields (fun x hx => cW_fld (p4.2 x hx)), cW_flat (k := linM) c.methods (fun x hx => cW_meth (p5.2 x hx)), sum_one]
  simp only [cW_cons, cW_nil, hk, put_fresh p1, put_sign.2.2.2.2.2.2.1, put_sign.2.2.2.2.2.2.2.1]
  omega
theorem text_lines {p : List Cls} (h : prgOk p = true) : (textP p).count 10 = (p.map linC).sum := by
  have hp := (prg_parts h).2
  clear h
  induction p with
  | nil => rfl
  | cons c r ih =>
    show ((c :: r).flatMap textC).count 10 = _
    rw [List.flatMap_cons, List.count_append, List.map_cons, List.sum_cons]
    have h1 : (textC c).count 10 = linC c := cW_cls (hp c (by simp))
    have h2 : (r.flatMap textC).count 10 = (r.map linC).sum := ih fun x hx => hp x (by simp [hx])
    rw [h1, h2]
theorem sum_take {α : Type} (f : α → Nat) (l : List α) (d : α) (i : Nat) (h : i < l.length) : ((l.take (i + 1)).map f).sum = ((l.take i).map f).sum + f (l.getD i d) := by
  rw [takeT l d i h, List.map_append, List.sum_append]; simp
theorem sum_le {α : Type} (f : α → Nat) (k : Nat) : ∀ (l : List α), (∀ x ∈ l, f x ≤ k) → (l.map f).sum ≤ k * l.length
  | [], _ => Nat.zero_le _
  | x :: r, h => by
    rw [List.map_cons, List.sum_cons, List.length_cons]
    have := h x (by simp)
    have := sum_le f k r fun y hy => h y (by simp [hy])
    rw [Nat.mul_succ]; omega
theorem linM_le {m : Meth} (h : methOk m = true) : linM m ≤ 54 := by
  obtain ⟨p1, p2, p3, p4, p5, p6, p7⟩ := meth_parts h
  unfold linM
  split <;> omega
theorem linC_le {c : Cls} (h : clsOk c = true) : linC c ≤ 332 := by
  obtain ⟨p1, p2, p3, p4, p5⟩ := cls_parts h
  have := sum_le linM 54 c.methods fun x hx => linM_le (p5.2 x hx)
  unfold linC
  have : 54 * c.methods.length ≤ 54 * 6 := Nat.mul_le_mul_left _ p5.1
  omega
theorem wrapN (a b : Nat) (h : a + b ≤ 4611686018427387904) : IntKind.i64.wrap ((a : Int) + (b : Int)) = ((a + b : Nat) : Int) := by rw [wrap_eq _ (by omega) (by omega)]; omega
end Go.Proofs.YtadimoijlgmecaaGreatDoor.Ax
/- Layer show: ShowLines. -/
set_option linter.unusedVariables false
set_option linter.unusedSimpArgs false
namespace Go.Proofs.YtadimoijlgmecaaGreatDoor.Ax
open Go Go.RowKit
theorem wrap1 (a : Nat) (h : a + 1 ≤ 4611686018427387904) : IntKind.i64.wrap ((a : Int) + 1) = ((a + 1 : Nat) : Int) := wrapN a 1 h
def ShowLines : Ctr := { A := List Cls, enc := fun p => [.agg [prgR p]], dom := fun _ => True, res := fun _ _ => .tt, gl := tabS }
set_option maxRecDepth 100000 in
set_option maxHeartbeats 4000000 in
theorem ShowLines_ok : CtrSound Tryz.prog 5 ShowLines :=
  ctr_of_ax (env_okB tys_ok (eqs := []) trivial (cs := [(8, heavyC), (13, rshownC), (10, textK), (16, lS)]) ⟨heavy_ok, rshown_ok, text_ok, wakesS_ok, trivial⟩ (bs := []) trivial (gl := tabS)) mixed _ Tryz.func5 (by kernel_rfl) rfl (fun _ _ => Nat.le_of_ble_eq_true rfl) fun (p : List Cls) id hd => by
    refine ⟨p, ⟨.refl _, trivial⟩, rfl, trivial, ?_⟩
    refine ⟨fun h => ⟨.refl _, rfl⟩, fun h => ?_⟩
    have hp : prgH p = true := by have h : (!prgH p) = false := h; simpa using h
    obtain ⟨dp, lp⟩ := prg_H hp
    refine ⟨p, ⟨.refl _, trivial⟩, rfl, dp, ?_⟩
    refine ⟨fun h => ⟨.refl _, rfl⟩, fun h => ?_⟩
    have hok : prgOk p = true := by have h : (!prgOk p) = false := h; simpa using h
    have hl := show_len p
    refine ⟨p, ⟨.refl _, trivial⟩, rfl, dp, ?_⟩
    refine ⟨fun h => ?_, fun h => ?_⟩
    · have ep : (showF p).2 ≠ 0 := by have h : ((showF p).2 != 0) = true := h; simpa using h
      have e2 : (showF p).2 = 2 := by
        unfold showF at ep ⊢
        rw [if_pos hok] at ep ⊢
        split
        · rfl
        · rename_i c; rw [if_neg c] at ep; exact absurd rfl ep
      refine ⟨fun h => ?_, fun h => absurd h (by show ¬ ((showF p).2 == 2) = false; rw [e2]; decide)⟩
      refine ⟨(), trivial, rfl, trivial, ?_⟩
      exact ⟨.refl _, rfl⟩
    have ep : (showF p).2 = 0 := beqT h
    obtain ⟨h1, h2, h3⟩ := show_ok ep
    obtain ⟨g1, g2⟩ := prg_parts hok
    have hcl : ∀ i, i < p.length → clsOk (p.getD i cls0) = true := fun i hi => g2 _ (getT_mem p cls0 i hi)
    have hsum : ∀ i, ((p.take i).map linC).sum ≤ 3320 := fun i => by
      have := sum_le linC 332 (p.take i) fun x hx => linC_le (g2 x (List.mem_of_mem_take hx))
      have h5 : (p.take i).length ≤ 10 := by rw [List.length_take]; omega
      have := Nat.mul_le_mul_left 332 h5
      omega
    refine ⟨Nat, fun i => [(1, .box 1 0), (3, .row UInt8 1 byteC 0 (showF p).1), (5, I ((p.take i).map linC).sum), (6, I 0), (7, I i)], fun _ => [(1, [prgR p])], fun i => i ≤ p.length, fun i => p.length - i,
      ⟨0, Nat.zero_le _, ⟨⟨rfl, rfl⟩, .refl _, .refl _, .refl _, .refl _, .refl _, ⟨.refl _, trivial⟩, trivial⟩⟩, fun (i : Nat) hi => ?_⟩
    have hi1 : i ≤ p.length := hi
    have hwj : IntKind.i64.wrap ((i : Int) + 1) = ((i + 1 : Nat) : Int) := by rw [wrap_eq _ (by omega) (by omega)]; omega
    refine ⟨fun h => ?_, fun h => ?_⟩
    · have hlt : i < p.length := dlt h
      obtain ⟨c, hc⟩ : ∃ c, c = p.getD i cls0 := ⟨_, rfl⟩
      have hco : clsOk c = true := by rw [hc]; exact hcl i hlt
      obtain ⟨p1, p2, p3, p4, p5⟩ := cls_parts hco
      have hs := hsum i
      have hm : ∀ k, ((c.methods.take k).map linM).sum ≤ 324 := fun k => by
        have := sum_le linM 54 (c.methods.take k) fun x hx => linM_le (p5.2 x (List.mem_of_mem_take hx))
        have h5 : (c.methods.take k).length ≤ 6 := by rw [List.length_take]; omega
        have := Nat.mul_le_mul_left 54 h5
        omega
      have hw1 : IntKind.i64.wrap ((((p.take i).map linC).sum : Int) + 2) = (((p.take i).map linC).sum + 2 : Nat) := wrapN _ 2 (by omega)
      have hw2 : IntKind.i64.wrap (IntKind.i64.wrap ((((p.take i).map linC).sum : Int) + 2) + (c.fields.length : Int)) = (((p.take i).map linC).sum + 2 + c.fields.length : Nat) := by rw [hw1]; exact wrapN _ _ (by omega)
      refine ⟨⟨by omega, by omega⟩, ?_⟩
      refine ⟨Nat, fun k => [(1, .box 1 0), (3, .row UInt8 1 byteC 0 (showF p).1), (5, I (((p.take i).map linC).sum + 2 + c.fields.length + ((c.methods.take k).map linM).sum : Nat)), (6, I 0), (7, I i), (8, .box 8 0), (9, I k)], fun _ => [(1, [prgR p]), (8, clsC c)], fun k => k ≤ c.methods.length, fun k => c.methods.length - k,
        ⟨0, Nat.zero_le _, ⟨⟨rfl, rfl⟩, .refl _, .refl _, .refl _, .int (by subst hc; exact hw2), .refl _, .refl _, .refl _, ⟨.refl _, trivial⟩, ⟨.str (by subst hc; rfl), .bool (by subst hc; rfl), .str (by subst hc; rfl), .rowEq (by subst hc; rfl), .rowEq (by subst hc; rfl), .rowEq (by subst hc; rfl), trivial⟩, trivial⟩⟩, fun (k : Nat) hk => ?_⟩
      have hk1 : k ≤ c.methods.length := hk
      have hwk : IntKind.i64.wrap ((k : Int) + 1) = ((k + 1 : Nat) : Int) := by rw [wrap_eq _ (by omega) (by omega)]; omega
      have hmk := hm k
      refine ⟨fun h => ?_, fun h => ?_⟩
      · have hlk : k < c.methods.length := dlt h
        have hst := sum_take linM c.methods meth0 k hlk
        obtain ⟨m1, m2, m3, m4, m5, m6, m7⟩ := meth_parts (p5.2 _ (getT_mem c.methods meth0 k hlk))
        have hv1 : IntKind.i64.wrap (((((p.take i).map linC).sum + 2 + c.fields.length + ((c.methods.take k).map linM).sum : Nat) : Int) + 1) = (((p.take i).map linC).sum + 2 + c.fields.length + ((c.methods.take k).map linM).sum + 1 : Nat) := wrapN _ 1 (by omega)
        refine ⟨⟨by omega, by omega⟩, ?_⟩
        refine ⟨fun h => ?_, fun h => ?_⟩
        · have ha : (c.methods.getD k meth0).abs = false := by
            have h : (!(c.methods.getD k meth0).abs) = true := h
            simpa using h
          refine ⟨by kernel_rfl, ?_⟩
          refine ⟨⟨by omega, by omega⟩, ?_⟩
          refine ⟨⟨by omega, by omega⟩, ?_⟩
          have hv2 : IntKind.i64.wrap (IntKind.i64.wrap (IntKind.i64.wrap (IntKind.i64.wrap (((((p.take i).map linC).sum + 2 + c.fields.length + ((c.methods.take k).map linM).sum : Nat) : Int) + 1) + 1) + ((c.methods.getD k meth0).code.length : Int)) + ((c.methods.getD k meth0).catches.length : Int)) = (((p.take i).map linC).sum + 2 + c.fields.length + ((c.methods.take (k + 1)).map linM).sum : Nat) := by
            rw [hv1, wrap1 _ (by omega), wrapN _ _ (by omega), wrapN _ _ (by omega), hst]
            unfold linM
            rw [ha]
            simp only [Bool.false_eq_true, if_false]
            omega
          exact ⟨k + 1, hlk, by show c.methods.length - (k + 1) < c.methods.length - k; omega, ⟨rfl, rfl⟩, .refl _, .refl _, .refl _, .int hv2, .int hwk, .refl _, .refl _, ⟨.refl _, trivial⟩, ⟨.refl _, .refl _, .refl _, .refl _, .refl _, .refl _, trivial⟩, trivial⟩
        · have ha : (c.methods.getD k meth0).abs = true := by
            have h : (!(c.methods.getD k meth0).abs) = false := h
            simpa using h
          have hv2 : IntKind.i64.wrap (((((p.take i).map linC).sum + 2 + c.fields.length + ((c.methods.take k).map linM).sum : Nat) : Int) + 1) = (((p.take i).map linC).sum + 2 + c.fields.length + ((c.methods.take (k + 1)).map linM).sum : Nat) := by
            rw [hv1, hst]
            unfold linM
            rw [ha]
            simp only [if_true]
            omega
          exact ⟨k + 1, hlk, by show c.methods.length - (k + 1) < c.methods.length - k; omega, ⟨rfl, rfl⟩, .refl _, .refl _, .refl _, .int hv2, .int hwk, .refl _, .refl _, ⟨.refl _, trivial⟩, ⟨.refl _, .refl _, .refl _, .refl _, .refl _, .refl _, trivial⟩, trivial⟩
      · have hge : k = c.methods.length := Nat.le_antisymm hk1 (dge h)
        exact ⟨i + 1, hlt, by show p.length - (i + 1) < p.length - i; omega, ⟨rfl, rfl⟩, .refl _, .refl _, .int hwj, .int (by rw [sum_take linC p cls0 i hlt, ← hc, hge, List.take_length]; unfold linC; omega), .refl _, ⟨.refl _, trivial⟩, trivial⟩
    have hge : i = p.length := Nat.le_antisymm hi1 (dge h)
    have hs := hsum i
    refine ⟨Nat, fun j => [(3, .row UInt8 1 byteC 0 (showF p).1), (5, I ((p.take i).map linC).sum), (6, I (((showF p).1.take j).count 10 : Nat)), (10, I j)], fun _ => [], fun j => j ≤ (showF p).1.length, fun j => (showF p).1.length - j,
      ⟨0, Nat.zero_le _, ⟨⟨rfl, rfl⟩, .refl _, .refl _, .refl _, .refl _, trivial⟩⟩, fun (j : Nat) hj => ?_⟩
    have hj1 : j ≤ (showF p).1.length := hj
    have hwj2 : IntKind.i64.wrap ((j : Int) + 1) = ((j + 1 : Nat) : Int) := by rw [wrap_eq _ (by omega) (by omega)]; omega
    refine ⟨fun h => ?_, fun h => ?_⟩
    · have hlj : j < (showF p).1.length := dlt h
      have hct : ((showF p).1.take j).count 10 ≤ 6000 := Nat.le_trans List.count_le_length (by rw [List.length_take]; omega)
      have htk := takeT (showF p).1 0 j hlj
      refine ⟨⟨by omega, by omega⟩, ?_⟩
      refine ⟨fun h => ?_, fun h => ?_⟩
      · have hb : (showF p).1.getD j 0 = 10 := by
          have h : ((((showF p).1.getD j 0).toNat : Int) == 10) = true := h
          have := eqT h
          exact UInt8.toNat_inj.1 (by show _ = 10; omega)
        exact ⟨j + 1, hlj, by show (showF p).1.length - (j + 1) < (showF p).1.length - j; omega, ⟨rfl, rfl⟩, .refl _, .refl _, .int (by rw [wrap1 _ (by omega), htk, List.count_append, hb]; rfl), .int hwj2, trivial⟩
      · have hb : (showF p).1.getD j 0 ≠ 10 := fun c => by
          have h : ((((showF p).1.getD j 0).toNat : Int) == 10) = false := h
          rw [c] at h; exact absurd h (by decide)
        exact ⟨j + 1, hlj, by show (showF p).1.length - (j + 1) < (showF p).1.length - j; omega, ⟨rfl, rfl⟩, .refl _, .refl _, .int (by rw [htk, List.count_append, List.count_eq_zero_of_not_mem (show (10 : UInt8) ∉ [(showF p).1.getD j 0] from fun c => hb (List.mem_singleton.1 c).symm)]; rfl), .int hwj2, trivial⟩
    have hgj : j = (showF p).1.length := Nat.le_antisymm hj1 (dge h)
    have hfin : ((((showF p).1.take j).count 10 : Nat) : Int) = ((((p.take i).map linC).sum : Nat) : Int) := by
      rw [hgj, hge, List.take_length, List.take_length, h3, text_lines hok]
    refine ⟨fun h => ?_, fun h => absurd h (by show ¬ (((((showF p).1.take j).count 10 : Nat) : Int) == ((((p.take i).map linC).sum : Nat) : Int)) = false; rw [hfin]; simp)⟩
    refine ⟨(), trivial, rfl, trivial, ?_⟩
    exact ⟨.refl _, rfl⟩
end Go.Proofs.YtadimoijlgmecaaGreatDoor.Ax
/- What the rows list of the package's variables, as the walks ask for it. -/
set_option linter.unusedVariables false
namespace Go.Proofs.YtadimoijlgmecaaGreatDoor.Ax
open Go Go.RowKit
theorem var_keep {P : Program} {n : String} {W w' : World} {cs : Array Value} (h : W.var? P n = some cs) (hs : Sealed (cellsH W) w') (hsh : Shaped W w') : w'.var? P n = some cs := by
  unfold World.var? at h ⊢
  cases hg : P.globalNamed n with
  | none => rw [hg] at h; cases h
  | some g =>
    rw [hg] at h
    simp only [Option.bind_some] at h ⊢
    have hlt : g < W.heap.size := by
      rcases Nat.lt_or_ge g W.heap.size with h' | h'
      · exact h'
      · rw [Array.getElem?_eq_none h'] at h; cases h
    have h2 := hsh.2 g hlt
    cases ho : W.heap[g]? with
    | none => rw [ho] at h; cases h
    | some o =>
      rw [ho] at h
      cases o with
      | cells c t f =>
        simp only [Option.some.injEq] at h
        subst h
        simp only [World.shape?, ho] at h2
        cases ho' : w'.heap[g]? with
        | none => rw [ho'] at h2; cases h2
        | some o' =>
          rw [ho'] at h2
          cases o' with
          | cells c' t' f' =>
            simp only [Option.some.injEq, Prod.mk.injEq] at h2
            show some c' = some c
            congr 1
            apply Array.ext h2.2
            intro i hi hi'
            have h3 : cellsH W g i = some c[i] := by
              simp [cellsH, World.cell?, ho]
            have h4 := hs _ _ _ h3
            simp [World.cell?, ho'] at h4
            exact (Array.getElem?_eq_some_iff.1 h4).2
          | _ => cases h2
      | _ => cases h
theorem pow_eq {H : Type} : (Rows.laid_internal_strconv_uint64pow10 : DataW H) = Lib.tabData .u64 Lib.pow10Tab := rfl
end Go.Proofs.YtadimoijlgmecaaGreatDoor.Ax
/- What the rows list of the package's variables, as the walks of the show layer ask for it. -/
set_option linter.unusedVariables false
namespace Go.Proofs.YtadimoijlgmecaaGreatDoor.Ax
open Go Go.RowKit
set_option maxRecDepth 100000 in
theorem spaceS_eq {H : Type} : (Rows.laid_strings_asciiSpace : DataW H) = Lib.tabData .u8 Lib.asciiSpaceTab := rfl
theorem tabsS_of {l : List (String × DataW Unit)} {W : World} (h : laidMet Tryz.prog l W)
    (h1 : (l.filter fun x => x.1 == "internal/strconv.uint64pow10") = [("internal/strconv.uint64pow10", Rows.laid_internal_strconv_uint64pow10)])
    (h3 : (l.filter fun x => x.1 == "strings.asciiSpace") = [("strings.asciiSpace", Rows.laid_strings_asciiSpace)]) : ∀ w', Sealed (cellsH W) w' → Shaped W w' → tabS w' := by
  intro w' hs hsh
  have a1 := h.filter fun x => x.1 == "internal/strconv.uint64pow10"
  rw [h1, pow_eq] at a1
  have t1 := Lib.tabIs_of_head (g := 3) (t := 185) (e := 167) (n := 20) (by kernel_rfl) (by kernel_rfl) Tryz.underlying185 Tryz.underlying167 (by kernel_rfl) (by kernel_rfl) a1
  have a2 := h.filter fun x => x.1 == "strings.asciiSpace"
  rw [h3, spaceS_eq] at a2
  have t2 := Lib.tabIs_of_head (g := 0) (t := 159) (e := 5) (n := 256) (by kernel_rfl) (by kernel_rfl) Tryz.underlying159 Tryz.underlying5 (by kernel_rfl) (by kernel_rfl) a2
  exact ⟨var_keep t1 hs hsh, var_keep t2 hs hsh⟩
end Go.Proofs.YtadimoijlgmecaaGreatDoor.Ax
/- Programs among a law's arguments. -/
set_option linter.unusedVariables false
set_option linter.unusedSimpArgs false
namespace Go.Proofs.YtadimoijlgmecaaGreatDoor.Ax
open Go Go.RowKit
theorem Reads.map {P : Program} {t : Nat} {s s' : Shape} (h : Reads P t s) (f : s.X → s'.X) (hz : s'.sz = s.sz) (hc : ∀ x, s'.cs (f x) = s.cs x) (hk : ∀ x, s.ok x → s'.ok (f x)) : Reads P t s' :=
  ⟨h.1.trans hz.symm, fun H enc w base fuel l r h1 h2 => by
    obtain ⟨x, k1, k2, k3, k4⟩ := h.2 H enc w base fuel l r h1 h2
    exact ⟨f x, hk x k1, k2.trans hz.symm, by rw [hc, k3, hz], fun j hj => by rw [hc]; exact k4 j (by omega)⟩⟩
abbrev shS : Shape := .str
theorem rdS : Reads Tryz.prog 9 shS := Reads.str Tryz.underlying9 (by kernel_rfl)
abbrev shB : Shape := .bool
theorem rdB : Reads Tryz.prog 4 shB := Reads.bool Tryz.underlying4 (by kernel_rfl)
abbrev shI : Shape := .int .i64
theorem rdI : Reads Tryz.prog 3 shI := Reads.int Tryz.underlying3 (by kernel_rfl)
abbrev shTy : Shape := shI.pair shS
theorem rdTy : Reads Tryz.prog 26 shTy := Reads.struct Tryz.underlying26 (by kernel_rfl) (.cons rfl rdI (.one rfl rdS))
abbrev shFld : Shape := ⟨Fld, 4, fldC, fld0, fun x => shS.ok x.name ∧ shTy.ok x.type⟩
theorem rdFld : Reads Tryz.prog 49 shFld :=
  (Reads.struct (s := shS.pair (shTy.pair shB)) Tryz.underlying49 (by kernel_rfl) (.cons rfl rdS (.cons rfl rdTy (.one rfl rdB)))).map (fun x => ⟨x.1, x.2.1, x.2.2⟩) rfl (fun _ => rfl) (fun _ h => ⟨h.1, h.2.1⟩)
abbrev shIns : Shape := ⟨Ins, 4, insC, ins0, fun x => (shI.ok x.op ∧ shI.ok x.n) ∧ shS.ok x.a ∧ shS.ok x.b⟩
theorem rdIns : Reads Tryz.prog 56 shIns :=
  (Reads.struct (s := shI.pair (shI.pair (shS.pair shS))) Tryz.underlying56 (by kernel_rfl) (.cons rfl rdI (.cons rfl rdI (.cons rfl rdS (.one rfl rdS))))).map (fun x => ⟨x.1, x.2.1, x.2.2.1, x.2.2.2⟩) rfl (fun _ => rfl) (fun _ h => ⟨⟨h.1, h.2.1⟩, h.2.2⟩)
abbrev shCat : Shape := ⟨Cat, 4, catC, cat0, fun x => shS.ok x.name ∧ shI.ok x.fr ∧ shI.ok x.up ∧ shI.ok x.at'⟩
theorem rdCat : Reads Tryz.prog 63 shCat :=
  (Reads.struct (s := shS.pair (shI.pair (shI.pair shI))) Tryz.underlying63 (by kernel_rfl) (.cons rfl rdS (.cons rfl rdI (.cons rfl rdI (.one rfl rdI))))).map (fun x => ⟨x.1, x.2.1, x.2.2.1, x.2.2.2⟩) rfl (fun _ => rfl) (fun _ h => h)
theorem rdTys : Reads Tryz.prog 50 (shTy.row 24) := Reads.row Tryz.underlying50 (by kernel_rfl) (by kernel_rfl) rdTy (by decide)
theorem rdInss : Reads Tryz.prog 51 (shIns.row 48) := Reads.row Tryz.underlying51 (by kernel_rfl) (by kernel_rfl) rdIns (by decide)
theorem rdCats : Reads Tryz.prog 52 (shCat.row 40) := Reads.row Tryz.underlying52 (by kernel_rfl) (by kernel_rfl) rdCat (by decide)
theorem rdFlds : Reads Tryz.prog 43 (shFld.row 48) := Reads.row Tryz.underlying43 (by kernel_rfl) (by kernel_rfl) rdFld (by decide)
theorem rdStrs : Reads Tryz.prog 42 (shS.row 16) := Reads.row Tryz.underlying42 (by kernel_rfl) (by kernel_rfl) rdS (by decide)
abbrev shMeth : Shape := ⟨Meth, 9, methC, meth0, fun x => shS.ok x.name ∧ (shTy.row 24).ok x.params ∧ shTy.ok x.ret ∧ shI.ok x.locals ∧ (shIns.row 48).ok x.code ∧ (shCat.row 40).ok x.catches⟩
theorem rdMeth : Reads Tryz.prog 54 shMeth :=
  (Reads.struct (s := shS.pair (shB.pair (shB.pair ((shTy.row 24).pair (shTy.pair (shI.pair ((shIns.row 48).pair (shCat.row 40)))))))) Tryz.underlying54 (by kernel_rfl) (.cons rfl rdS (.cons rfl rdB (.cons rfl rdB (.cons rfl rdTys (.cons rfl rdTy (.cons rfl rdI (.cons rfl rdInss (.one rfl rdCats))))))))).map
    (fun x => ⟨x.1, x.2.1, x.2.2.1, x.2.2.2.1, x.2.2.2.2.1, x.2.2.2.2.2.1, x.2.2.2.2.2.2.1, x.2.2.2.2.2.2.2⟩) rfl (fun _ => rfl) (fun _ h => ⟨h.1, h.2.2.2.1, h.2.2.2.2.1, h.2.2.2.2.2.1, h.2.2.2.2.2.2.1, h.2.2.2.2.2.2.2⟩)
theorem rdMeths : Reads Tryz.prog 44 (shMeth.row 128) := Reads.row Tryz.underlying44 (by kernel_rfl) (by kernel_rfl) rdMeth (by decide)
abbrev shCls : Shape := ⟨Cls, 6, clsC, cls0, fun x => shS.ok x.name ∧ shS.ok x.super ∧ (shS.row 16).ok x.ifaces ∧ (shFld.row 48).ok x.fields ∧ (shMeth.row 128).ok x.methods⟩
theorem rdCls : Reads Tryz.prog 46 shCls :=
  (Reads.struct (s := shS.pair (shB.pair (shS.pair ((shS.row 16).pair ((shFld.row 48).pair (shMeth.row 128)))))) Tryz.underlying46 (by kernel_rfl) (.cons rfl rdS (.cons rfl rdB (.cons rfl rdS (.cons rfl rdStrs (.cons rfl rdFlds (.one rfl rdMeths))))))).map
    (fun x => ⟨x.1, x.2.1, x.2.2.1, x.2.2.2.1, x.2.2.2.2.1, x.2.2.2.2.2⟩) rfl (fun _ => rfl) (fun _ h => ⟨h.1, h.2.2.1, h.2.2.2.1, h.2.2.2.2.1, h.2.2.2.2.2⟩)
abbrev shPrg : Shape := shCls.row 112
theorem rdPrgs : Reads Tryz.prog 22 shPrg := Reads.row Tryz.underlying22 (by kernel_rfl) (by kernel_rfl) rdCls (by decide)
theorem rdPrg : Reads Tryz.prog 24 shPrg := Reads.struct Tryz.underlying24 (by kernel_rfl) (.one rfl rdPrgs)
end Go.Proofs.YtadimoijlgmecaaGreatDoor.Ax
