/- Walks and laws, part 7: Tj Tb Tk Lw Hw Hs. -/
import Derived.Test.YtadimoijlgmecaaGreatDoorPk6
import Derived.Test.YtadimoijlgmecaaGreatDoorRows
import Derived.Stop.LaidErr
import Derived.LaidSub
import Derived.LaidMore
import Derived.Stop.Joined
import Derived.MakeChecks
import Derived.Lib.LaidTab
/- The reference's text of a program. PRINTED by wip/sp/tj.py. -/
set_option linter.unusedVariables false
set_option linter.unusedSimpArgs false
namespace Go.Proofs.YtadimoijlgmecaaGreatDoor.Ax
open Go Go.RowKit
theorem does_P {m : Meth} (h : methOk m = true) : (P (doesF m)).length ≤ 8800 := by
  have h1 := putW_flat _ (does_tok h)
  have h2 := does_len h
  unfold P; omega
abbrev rtextC : Ctr := { A := List Cls, enc := fun p => [.agg [prgR p]], dom := fun p => prgOk p = true, res := fun p _ => X (textP p) }
set_option maxRecDepth 100000 in
set_option maxHeartbeats 4000000 in
theorem rtext_ok : CtrSound Tryz.prog 17 rtextC :=
  ctr_of_ax (env_okB tys_ok (eqs := []) trivial (cs := [(34, rtwC), (35, rmtC)]) ⟨rtw_ok, rmt_ok, trivial⟩ (bs := []) trivial (cut := [9, 11, 19, 27])) mixed _ Tryz.func17 (by kernel_rfl) rfl (fun _ _ => Nat.le_of_ble_eq_true rfl) fun (p : List Cls) id hd => by
    have hok : prgOk p = true := hd
    obtain ⟨g1, g2⟩ := prg_parts hok
    obtain ⟨s1, s2, s3, s4, s5, s6, s7, s8, s9, s10, s11, s12, s13, s14, s15, s16, s17, s18, s19, s20, s21⟩ := sp_keys
    have b7 : wComma.data.toList = [44] := rfl
    have b8 : wColon.data.toList = [58] := rfl
    have b11 : wField.data.toList = [102, 105, 101, 108, 100] := rfl
    have b12 : wStatic.data.toList = [115, 116, 97, 116, 105, 99] := rfl
    have b15 : wClass.data.toList = [99, 108, 97, 115, 115] := rfl
    have b16 : wInterface.data.toList = [105, 110, 116, 101, 114, 102, 97, 99, 101] := rfl
    have b17 : wExtends.data.toList = [101, 120, 116, 101, 110, 100, 115] := rfl
    have b18 : wImplements.data.toList = [105, 109, 112, 108, 101, 109, 101, 110, 116, 115] := rfl
    have b19 : wSemi.data.toList = [59] := rfl
    have b20 : wLc.data.toList = [123] := rfl
    have b21 : wRc.data.toList = [125] := rfl
    refine ⟨Nat, fun i => [(1, .box 1 0), (3, S (txt ((p.take i).flatMap textC))), (4, I i)], fun _ => [(1, [prgR p])], fun i => i ≤ p.length, fun i => p.length - i,
      ⟨0, Nat.zero_le _, ⟨⟨rfl, rfl⟩, .refl _, .str rfl, .refl _, ⟨.refl _, trivial⟩, trivial⟩⟩, fun (i : Nat) hi => ?_⟩
    have hi1 : i ≤ p.length := hi
    have hwj : IntKind.i64.wrap ((i : Int) + 1) = ((i + 1 : Nat) : Int) := by rw [wrap_eq _ (by omega) (by omega)]; omega
    refine ⟨fun h => ?_, fun h => ?_⟩
    case refine_2 =>
      have hge : i = p.length := Nat.le_antisymm hi1 (dge h)
      exact ⟨.str (by rw [hge, List.take_length]; rfl), rfl⟩
    have hlt : i < p.length := dlt h
    obtain ⟨T0, eT0⟩ : ∃ T0 : List UInt8, T0 = (p.take i).flatMap textC := ⟨_, rfl⟩
    have hT0 : T0.length ≤ 550000 := by rw [eT0]; exact textP_len hok i
    have hsnT := flat_snoc textC p cls0 i hlt
    rw [← eT0]
    obtain ⟨c, hc⟩ : ∃ c, c = p.getD i cls0 := ⟨_, rfl⟩
    have hco : clsOk c = true := by rw [hc]; exact g2 _ (getT_mem p cls0 i hlt)
    obtain ⟨p1, p2, p3, p4, p5⟩ := cls_parts hco
    have nz := fresh_sz p1
    have nl : c.name.data.toList.length ≤ 20 := by rw [sz_len]; exact nz
    have sn := sp_fresh p1
    have cells : ∀ {X : List SV → Prop}, True := trivial
    refine ⟨⟨by omega, by omega⟩, ?_⟩
    obtain ⟨kl, ekl⟩ : ∃ kl : List UInt8, kl = (if c.iface then [105, 110, 116, 101, 114, 102, 97, 99, 101, 32] else [99, 108, 97, 115, 115, 32]) := ⟨_, rfl⟩
    have kll : kl.length ≤ 10 := by rw [ekl]; split <;> decide
    have hkP : P [if c.iface then wInterface else wClass] = kl := by
      rw [ekl, P_cons, P_nil]
      cases c.iface
      · simp [s15, b15]
      · simp [s16, b16]
    refine ⟨Unit, fun _ => [(1, .box 1 0), (3, S (txt (T0 ++ kl ++ c.name.data.toList))), (4, I i), (5, .box 5 0)], fun _ => [(1, [prgR p]), (5, clsC c)], fun _ => True, ?_, fun _ _ => ?_⟩
    · subst hc
      refine ⟨fun h => ?_, fun h => ?_⟩
      · refine ⟨(show (txt T0).size + ((⟨#[105, 110, 116, 101, 114, 102, 97, 99, 101, 32]⟩ : ByteArray)).size < 4611686018427387904 by simp only [ByteArray.size_append, size_txt, size_txt2, List.length_cons, List.length_nil, List.length_append]; omega), ?_⟩
        refine ⟨(show (txt T0 ++ (⟨#[105, 110, 116, 101, 114, 102, 97, 99, 101, 32]⟩ : ByteArray)).size + ((p.getD i cls0).name).size < 4611686018427387904 by simp only [ByteArray.size_append, size_txt, size_txt2, List.length_cons, List.length_nil, List.length_append]; omega), ?_⟩
        exact ⟨(), trivial, ⟨rfl, rfl⟩, .refl _, .str (txt_of (by rw [ekl, if_pos (show (p.getD i cls0).iface = true from h)]; simp)), .refl _, .refl _, ⟨.refl _, trivial⟩, ⟨.refl _, .refl _, .refl _, .refl _, .refl _, .refl _, trivial⟩, trivial⟩
      · refine ⟨(show (txt T0).size + ((⟨#[99, 108, 97, 115, 115, 32]⟩ : ByteArray)).size < 4611686018427387904 by simp only [ByteArray.size_append, size_txt, size_txt2, List.length_cons, List.length_nil, List.length_append]; omega), ?_⟩
        refine ⟨(show (txt T0 ++ (⟨#[99, 108, 97, 115, 115, 32]⟩ : ByteArray)).size + ((p.getD i cls0).name).size < 4611686018427387904 by simp only [ByteArray.size_append, size_txt, size_txt2, List.length_cons, List.length_nil, List.length_append]; omega), ?_⟩
        exact ⟨(), trivial, ⟨rfl, rfl⟩, .refl _, .str (txt_of (by rw [ekl, if_neg (show ¬ (p.getD i cls0).iface = true from fun q => by have h : (p.getD i cls0).iface = false := h; rw [h] at q; cases q)]; simp)), .refl _, .refl _, ⟨.refl _, trivial⟩, ⟨.refl _, .refl _, .refl _, .refl _, .refl _, .refl _, trivial⟩, trivial⟩
    obtain ⟨sup, esup⟩ : ∃ sup : List ByteArray, sup = (if c.super = noS then [] else [wExtends, c.super]) := ⟨_, rfl⟩
    obtain ⟨W0, eW0⟩ : ∃ W0 : List ByteArray, W0 = [if c.iface then wInterface else wClass, c.name] := ⟨_, rfl⟩
    have hW0 : T0 ++ P W0 = (T0 ++ kl ++ c.name.data.toList) ++ [32] := by
      rw [eW0, show [if c.iface then wInterface else wClass, c.name] = [if c.iface then wInterface else wClass] ++ [c.name] from rfl, P_app, hkP]
      simp [P_cons, P_nil, sn]
    have hns : (c.super.toList == (⟨#[]⟩ : ByteArray).toList) = decide (c.super = noS) := ba_eq _ _
    refine ⟨List UInt8, fun l => [(1, .box 1 0), (3, S (txt l)), (4, I i), (5, .box 5 0)], fun _ => [(1, [prgR p]), (5, clsC c)], fun l => T0 ++ P (W0 ++ sup) = l ++ [32] ∧ l.length ≤ T0.length + 70, ?_, fun (l : List UInt8) hl => ?_⟩
    · refine ⟨fun h => ?_, fun h => ?_⟩
      · have h : (!(c.super.toList == (⟨#[]⟩ : ByteArray).toList)) = true := h
        rw [hns] at h
        have hs : c.super ≠ noS := by simpa using h
        have sf := (p2.resolve_left hs).2
        have sz := fresh_sz sf
        have sl : c.super.data.toList.length ≤ 20 := by rw [sz_len]; exact sz
        refine ⟨(show (txt (T0 ++ kl ++ c.name.data.toList)).size + ((⟨#[32, 101, 120, 116, 101, 110, 100, 115, 32]⟩ : ByteArray)).size < 4611686018427387904 by simp only [ByteArray.size_append, size_txt, size_txt2, List.length_cons, List.length_nil, List.length_append]; omega), ?_⟩
        refine ⟨(show (txt (T0 ++ kl ++ c.name.data.toList) ++ (⟨#[32, 101, 120, 116, 101, 110, 100, 115, 32]⟩ : ByteArray)).size + (c.super).size < 4611686018427387904 by simp only [ByteArray.size_append, size_txt, size_txt2, List.length_cons, List.length_nil, List.length_append]; omega), ?_⟩
        exact ⟨T0 ++ kl ++ c.name.data.toList ++ [32, 101, 120, 116, 101, 110, 100, 115, 32] ++ c.super.data.toList, ⟨(by rw [P_app, ← List.append_assoc, hW0, esup, if_neg hs]; simp [P_cons, P_nil, s17, b17, sp_fresh sf]), (by simp only [List.length_append, List.length_cons, List.length_nil]; omega)⟩, ⟨rfl, rfl⟩, .refl _, .str (txt_of (by simp)), .refl _, .refl _, ⟨.refl _, trivial⟩, ⟨.refl _, .refl _, .refl _, .refl _, .refl _, .refl _, trivial⟩, trivial⟩
      · have h : (!(c.super.toList == (⟨#[]⟩ : ByteArray).toList)) = false := h
        rw [hns] at h
        have hs : c.super = noS := by simpa using h
        exact ⟨T0 ++ kl ++ c.name.data.toList, ⟨(by rw [esup, if_pos hs, List.append_nil]; exact hW0), (by simp only [List.length_append, List.length_cons, List.length_nil]; omega)⟩, ⟨rfl, rfl⟩, .refl _, .refl _, .refl _, .refl _, ⟨.refl _, trivial⟩, ⟨.refl _, .refl _, .refl _, .refl _, .refl _, .refl _, trivial⟩, trivial⟩
    obtain ⟨hl1, hl2⟩ : T0 ++ P (W0 ++ sup) = l ++ [32] ∧ l.length ≤ T0.length + 70 := hl
    obtain ⟨w, ew⟩ : ∃ w, w = (if c.iface then wExtends else wImplements) := ⟨_, rfl⟩
    have hil := p3.1
    refine ⟨Nat × List UInt8, fun x => [(1, .box 1 0), (3, S (txt x.2)), (4, I i), (5, .box 5 0), (6, I x.1)], fun _ => [(1, [prgR p]), (5, clsC c)], fun x => x.1 ≤ c.ifaces.length ∧ T0 ++ P (W0 ++ sup ++ listF w (c.ifaces.take x.1)) = x.2 ++ [32] ∧ x.2.length ≤ T0.length + 70 + 40 * x.1, fun x => c.ifaces.length - x.1,
      ⟨(0, l), ⟨Nat.zero_le _, (by show T0 ++ P (W0 ++ sup ++ []) = l ++ [32]; rw [List.append_nil]; exact hl1), (by show l.length ≤ T0.length + 70 + 40 * 0; omega)⟩, ⟨⟨rfl, rfl⟩, .refl _, .refl _, .refl _, .refl _, .refl _, ⟨.refl _, trivial⟩, ⟨.refl _, .refl _, .refl _, .refl _, .refl _, .refl _, trivial⟩, trivial⟩⟩, fun ((k, l) : Nat × List UInt8) hx => ?_⟩
    obtain ⟨hk1, hQ, hll⟩ : k ≤ c.ifaces.length ∧ T0 ++ P (W0 ++ sup ++ listF w (c.ifaces.take k)) = l ++ [32] ∧ l.length ≤ T0.length + 70 + 40 * k := hx
    have hwk : IntKind.i64.wrap ((k : Int) + 1) = ((k + 1 : Nat) : Int) := by rw [wrap_eq _ (by omega) (by omega)]; omega
    refine ⟨fun h => ?_, fun h => ?_⟩
    · have hlk : k < c.ifaces.length := dlt h
      have hsn := listF_snoc w c.ifaces k hlk
      have fx := p3.2 _ (getT_mem c.ifaces noS k hlk)
      have fz := fresh_sz fx
      have fl : (c.ifaces.getD k noS).data.toList.length ≤ 20 := by rw [sz_len]; exact fz
      refine ⟨List UInt8, fun q => [(1, .box 1 0), (3, S (txt q)), (4, I i), (5, .box 5 0), (6, I k)], fun _ => [(1, [prgR p]), (5, clsC c)], fun q => T0 ++ P (W0 ++ sup ++ listF w (c.ifaces.take k) ++ [if k = 0 then w else wComma]) = q ∧ q.length ≤ T0.length + 70 + 40 * k + 12, ?_, fun (q : List UInt8) hq => ?_⟩
      · refine ⟨fun h => ?_, fun h => ?_⟩
        · have h0 : k ≠ 0 := by have h : decide ((k : Int) > 0) = true := h; have := of_decide_eq_true h; omega
          refine ⟨(show (txt l).size + ((⟨#[32, 44, 32]⟩ : ByteArray)).size < 4611686018427387904 by simp only [ByteArray.size_append, size_txt, size_txt2, List.length_cons, List.length_nil, List.length_append]; omega), ?_⟩
          exact ⟨l ++ [32, 44, 32], ⟨(by rw [P_app, ← List.append_assoc, hQ, if_neg h0]; simp [P_cons, P_nil, b7, s7]), (by simp only [List.length_append, List.length_cons, List.length_nil]; omega)⟩, ⟨rfl, rfl⟩, .refl _, .str (txt_of (by simp)), .refl _, .refl _, .refl _, ⟨.refl _, trivial⟩, ⟨.refl _, .refl _, .refl _, .refl _, .refl _, .refl _, trivial⟩, trivial⟩
        have h0 : k = 0 := by have h : decide ((k : Int) > 0) = false := h; have := of_decide_eq_false h; omega
        refine ⟨fun h => ?_, fun h => ?_⟩
        · have ei : w = wExtends := by rw [ew, if_pos (show c.iface = true from h)]
          refine ⟨(show (txt l).size + ((⟨#[32, 101, 120, 116, 101, 110, 100, 115, 32]⟩ : ByteArray)).size < 4611686018427387904 by simp only [ByteArray.size_append, size_txt, size_txt2, List.length_cons, List.length_nil, List.length_append]; omega), ?_⟩
          exact ⟨l ++ [32, 101, 120, 116, 101, 110, 100, 115, 32], ⟨(by rw [P_app, ← List.append_assoc, hQ, if_pos h0, ei]; simp [P_cons, P_nil, b17, s17]), (by simp only [List.length_append, List.length_cons, List.length_nil]; omega)⟩, ⟨rfl, rfl⟩, .refl _, .str (txt_of (by simp)), .refl _, .refl _, .refl _, ⟨.refl _, trivial⟩, ⟨.refl _, .refl _, .refl _, .refl _, .refl _, .refl _, trivial⟩, trivial⟩
        · have ei : w = wImplements := by rw [ew, if_neg (by rw [show c.iface = false from h]; decide)]
          refine ⟨(show (txt l).size + ((⟨#[32, 105, 109, 112, 108, 101, 109, 101, 110, 116, 115, 32]⟩ : ByteArray)).size < 4611686018427387904 by simp only [ByteArray.size_append, size_txt, size_txt2, List.length_cons, List.length_nil, List.length_append]; omega), ?_⟩
          exact ⟨l ++ [32, 105, 109, 112, 108, 101, 109, 101, 110, 116, 115, 32], ⟨(by rw [P_app, ← List.append_assoc, hQ, if_pos h0, ei]; simp [P_cons, P_nil, b18, s18]), (by simp only [List.length_append, List.length_cons, List.length_nil]; omega)⟩, ⟨rfl, rfl⟩, .refl _, .str (txt_of (by simp)), .refl _, .refl _, .refl _, ⟨.refl _, trivial⟩, ⟨.refl _, .refl _, .refl _, .refl _, .refl _, .refl _, trivial⟩, trivial⟩
      · obtain ⟨hq1, hq2⟩ : T0 ++ P (W0 ++ sup ++ listF w (c.ifaces.take k) ++ [if k = 0 then w else wComma]) = q ∧ q.length ≤ T0.length + 70 + 40 * k + 12 := hq
        refine ⟨⟨by omega, by omega⟩, ?_⟩
        refine ⟨(show (txt q).size + (c.ifaces.getD k noS).size < 4611686018427387904 by simp only [ByteArray.size_append, size_txt, size_txt2, List.length_cons, List.length_nil, List.length_append]; omega), ?_⟩
        exact ⟨(k + 1, q ++ (c.ifaces.getD k noS).data.toList), ⟨hlk, (by
          show T0 ++ P (W0 ++ sup ++ listF w (c.ifaces.take (k + 1))) = _ ++ [32]
          rw [hsn, show W0 ++ sup ++ (listF w (c.ifaces.take k) ++ [if k = 0 then w else wComma, c.ifaces.getD k noS]) = (W0 ++ sup ++ listF w (c.ifaces.take k) ++ [if k = 0 then w else wComma]) ++ [c.ifaces.getD k noS] by simp only [List.append_assoc, List.cons_append, List.nil_append], P_app, ← List.append_assoc, hq1]
          simp [-List.getD_eq_getElem?_getD, P_cons, P_nil, sp_fresh fx]), (by simp only [List.length_append, List.length_cons, List.length_nil]; omega)⟩, (show c.ifaces.length - (k + 1) < c.ifaces.length - k by omega), ⟨rfl, rfl⟩, .refl _, .str (txt_of (by simp)), .refl _, .refl _, .int hwk, ⟨.refl _, trivial⟩, ⟨.refl _, .refl _, .refl _, .refl _, .refl _, .refl _, trivial⟩, trivial⟩
    have hgk : k = c.ifaces.length := Nat.le_antisymm hk1 (dge h)
    rw [hgk, List.take_length] at hQ
    refine ⟨(show (txt l).size + ((⟨#[32, 123, 10]⟩ : ByteArray)).size < 4611686018427387904 by simp only [ByteArray.size_append, size_txt, size_txt2, List.length_cons, List.length_nil, List.length_append]; omega), ?_⟩
    obtain ⟨W1, eW1⟩ : ∃ W1 : List ByteArray, W1 = W0 ++ sup ++ listF w c.ifaces ++ [wLc] := ⟨_, rfl⟩
    have hW1 : T0 ++ P W1 = l ++ [32, 123, 10] := by rw [eW1, P_app, ← List.append_assoc, hQ]; simp [P_cons, P_nil, s20, b20]
    have hfl := p4.1
    refine ⟨Nat × List UInt8, fun x => [(1, .box 1 0), (3, S (txt x.2)), (4, I i), (5, .box 5 0), (7, I x.1)], fun _ => [(1, [prgR p]), (5, clsC c)], fun x => x.1 ≤ c.fields.length ∧ T0 ++ P (W1 ++ (c.fields.take x.1).flatMap fldF) = x.2 ∧ x.2.length ≤ T0.length + 300 + 80 * x.1, fun x => c.fields.length - x.1,
      ⟨(0, l ++ [32, 123, 10]), ⟨Nat.zero_le _, (by show T0 ++ P (W1 ++ []) = _; rw [List.append_nil]; exact hW1), (by show (l ++ [32, 123, 10]).length ≤ T0.length + 300 + 80 * 0; simp only [List.length_append, List.length_cons, List.length_nil]; omega)⟩, ⟨⟨rfl, rfl⟩, .refl _, .str (txt_of (by simp)), .refl _, .refl _, .refl _, ⟨.refl _, trivial⟩, ⟨.refl _, .refl _, .refl _, .refl _, .refl _, .refl _, trivial⟩, trivial⟩⟩, fun ((k, l) : Nat × List UInt8) hx => ?_⟩
    obtain ⟨hk1, hQ, hll⟩ : k ≤ c.fields.length ∧ T0 ++ P (W1 ++ (c.fields.take k).flatMap fldF) = l ∧ l.length ≤ T0.length + 300 + 80 * k := hx
    have hwk : IntKind.i64.wrap ((k : Int) + 1) = ((k + 1 : Nat) : Int) := by rw [wrap_eq _ (by omega) (by omega)]; omega
    refine ⟨fun h => ?_, fun h => ?_⟩
    · have hlk : k < c.fields.length := dlt h
      have hsn := flat_snoc fldF c.fields fld0 k hlk
      have fo := p4.2 _ (getT_mem c.fields fld0 k hlk)
      obtain ⟨fo1, fo2⟩ : freshW (c.fields.getD k fld0).name = true ∧ tyOk (c.fields.getD k fld0).type = true := by
        have fo : (freshW (c.fields.getD k fld0).name && tyOk (c.fields.getD k fld0).type) = true := fo
        rwa [Bool.and_eq_true] at fo
      have fz := fresh_sz fo1
      have fl : (c.fields.getD k fld0).name.data.toList.length ≤ 20 := by rw [sz_len]; exact fz
      obtain ⟨tP, tl⟩ := tw_P fo2
      have tz := ty_sz fo2
      obtain ⟨vl, evl⟩ : ∃ vl : List UInt8, vl = (if (c.fields.getD k fld0).static then [115, 116, 97, 116, 105, 99, 32] else [102, 105, 101, 108, 100, 32]) := ⟨_, rfl⟩
      have vll : vl.length ≤ 10 := by rw [evl]; split <;> decide
      have hvP : P [if (c.fields.getD k fld0).static then wStatic else wField] = vl := by
        rw [evl, P_cons, P_nil]
        cases (c.fields.getD k fld0).static
        · simp [s11, b11]
        · simp [s12, b12]
      refine ⟨Unit, fun _ => [(1, .box 1 0), (3, S (txt l)), (4, I i), (5, .box 5 0), (7, I k), (8, S (txt vl))], fun _ => [(1, [prgR p]), (5, clsC c)], fun _ => True, ?_, fun _ _ => ?_⟩
      · refine ⟨⟨by omega, by omega⟩, ?_⟩
        refine ⟨fun h => ?_, fun h => ?_⟩
        · exact ⟨(), trivial, ⟨rfl, rfl⟩, .refl _, .refl _, .refl _, .refl _, .refl _, .str (by rw [evl, if_pos (show (c.fields.getD k fld0).static = true from h)]), ⟨.refl _, trivial⟩, ⟨.refl _, .refl _, .refl _, .refl _, .refl _, .refl _, trivial⟩, trivial⟩
        · exact ⟨(), trivial, ⟨rfl, rfl⟩, .refl _, .refl _, .refl _, .refl _, .refl _, .str (by rw [evl, if_neg (show ¬ (c.fields.getD k fld0).static = true from fun q => by have h : (c.fields.getD k fld0).static = false := h; rw [h] at q; cases q)]), ⟨.refl _, trivial⟩, ⟨.refl _, .refl _, .refl _, .refl _, .refl _, .refl _, trivial⟩, trivial⟩
      refine ⟨by kernel_rfl, ?_⟩
      refine ⟨(show (txt l).size + (txt vl).size < 4611686018427387904 by simp only [ByteArray.size_append, size_txt, size_txt2, List.length_cons, List.length_nil, List.length_append]; omega), ?_⟩
      refine ⟨⟨by omega, by omega⟩, ?_⟩
      refine ⟨(show (txt l ++ txt vl).size + ((c.fields.getD k fld0).name).size < 4611686018427387904 by simp only [ByteArray.size_append, size_txt, size_txt2, List.length_cons, List.length_nil, List.length_append]; omega), ?_⟩
      refine ⟨(show (txt l ++ txt vl ++ (c.fields.getD k fld0).name).size + ((⟨#[32, 58, 32]⟩ : ByteArray)).size < 4611686018427387904 by simp only [ByteArray.size_append, size_txt, size_txt2, List.length_cons, List.length_nil, List.length_append]; omega), ?_⟩
      refine ⟨⟨by omega, by omega⟩, ?_⟩
      refine ⟨(c.fields.getD k fld0).type, ⟨.refl _, trivial⟩, rfl, (show (c.fields.getD k fld0).type.2.size ≤ 4611686018427380000 by omega), ?_⟩
      refine ⟨(show (txt l ++ txt vl ++ (c.fields.getD k fld0).name ++ (⟨#[32, 58, 32]⟩ : ByteArray)).size + (txt (twL (c.fields.getD k fld0).type)).size < 4611686018427387904 by simp only [ByteArray.size_append, size_txt, size_txt2, List.length_cons, List.length_nil, List.length_append]; omega), ?_⟩
      refine ⟨(show (txt l ++ txt vl ++ (c.fields.getD k fld0).name ++ (⟨#[32, 58, 32]⟩ : ByteArray) ++ txt (twL (c.fields.getD k fld0).type)).size + ((⟨#[32, 59, 10]⟩ : ByteArray)).size < 4611686018427387904 by simp only [ByteArray.size_append, size_txt, size_txt2, List.length_cons, List.length_nil, List.length_append]; omega), ?_⟩
      exact ⟨(k + 1, l ++ vl ++ (c.fields.getD k fld0).name.data.toList ++ [32, 58, 32] ++ twL (c.fields.getD k fld0).type ++ [32, 59, 10]), ⟨hlk, (by
        show T0 ++ P (W1 ++ (c.fields.take (k + 1)).flatMap fldF) = _
        rw [hsn, ← List.append_assoc, P_app, ← List.append_assoc, hQ]
        unfold fldF
        rw [show [if (c.fields.getD k fld0).static then wStatic else wField, (c.fields.getD k fld0).name, wColon] = [if (c.fields.getD k fld0).static then wStatic else wField] ++ [(c.fields.getD k fld0).name, wColon] from rfl, P_app, P_app, P_app, hvP, tP]
        simp [-List.getD_eq_getElem?_getD, P_cons, P_nil, sp_fresh fo1, s8, b8, s19, b19]), (by simp only [List.length_append, List.length_cons, List.length_nil]; omega)⟩, (show c.fields.length - (k + 1) < c.fields.length - k by omega), ⟨rfl, rfl⟩, .refl _, .str (txt_of (by simp)), .int hwk, .refl _, .refl _, ⟨.refl _, trivial⟩, ⟨.refl _, .refl _, .refl _, .refl _, .refl _, .refl _, trivial⟩, trivial⟩
    have hgk : k = c.fields.length := Nat.le_antisymm hk1 (dge h)
    rw [hgk, List.take_length] at hQ
    have hml := p5.1
    refine ⟨Nat × List UInt8, fun x => [(1, .box 1 0), (3, S (txt x.2)), (4, I i), (5, .box 5 0), (9, I x.1)], fun _ => [(1, [prgR p]), (5, clsC c)], fun x => x.1 ≤ c.methods.length ∧ T0 ++ P (W1 ++ c.fields.flatMap fldF ++ (c.methods.take x.1).flatMap doesF) = x.2 ∧ x.2.length ≤ T0.length + 1000 + 8800 * x.1, fun x => c.methods.length - x.1,
      ⟨(0, l), ⟨Nat.zero_le _, (by show T0 ++ P (W1 ++ c.fields.flatMap fldF ++ []) = _; rw [List.append_nil]; exact hQ), (by show l.length ≤ T0.length + 1000 + 8800 * 0; omega)⟩, ⟨⟨rfl, rfl⟩, .refl _, .refl _, .refl _, .refl _, .refl _, ⟨.refl _, trivial⟩, ⟨.refl _, .refl _, .refl _, .refl _, .refl _, .refl _, trivial⟩, trivial⟩⟩, fun ((k, l) : Nat × List UInt8) hx => ?_⟩
    obtain ⟨hk1, hQ, hll⟩ : k ≤ c.methods.length ∧ T0 ++ P (W1 ++ c.fields.flatMap fldF ++ (c.methods.take k).flatMap doesF) = l ∧ l.length ≤ T0.length + 1000 + 8800 * k := hx
    have hwk : IntKind.i64.wrap ((k : Int) + 1) = ((k + 1 : Nat) : Int) := by rw [wrap_eq _ (by omega) (by omega)]; omega
    refine ⟨fun h => ?_, fun h => ?_⟩
    · have hlk : k < c.methods.length := dlt h
      have hsn := flat_snoc doesF c.methods meth0 k hlk
      have mo := p5.2 _ (getT_mem c.methods meth0 k hlk)
      have mP := does_P mo
      refine ⟨⟨by omega, by omega⟩, ?_⟩
      refine ⟨c.methods.getD k meth0, ⟨.refl _, trivial⟩, rfl, mo, ?_⟩
      refine ⟨(show (txt l).size + (txt (P (doesF (c.methods.getD k meth0)))).size < 4611686018427387904 by simp only [ByteArray.size_append, size_txt, size_txt2, List.length_cons, List.length_nil, List.length_append]; omega), ?_⟩
      exact ⟨(k + 1, l ++ P (doesF (c.methods.getD k meth0))), ⟨hlk, (by
        show T0 ++ P (W1 ++ c.fields.flatMap fldF ++ (c.methods.take (k + 1)).flatMap doesF) = _
        rw [hsn, ← List.append_assoc, P_app, ← List.append_assoc, hQ]), (by simp only [List.length_append, List.length_cons, List.length_nil]; omega)⟩, (show c.methods.length - (k + 1) < c.methods.length - k by omega), ⟨rfl, rfl⟩, .refl _, .str (txt_of (by simp)), .refl _, .int hwk, .refl _, ⟨.refl _, trivial⟩, ⟨.refl _, .refl _, .refl _, .refl _, .refl _, .refl _, trivial⟩, trivial⟩
    have hgk : k = c.methods.length := Nat.le_antisymm hk1 (dge h)
    rw [hgk, List.take_length] at hQ
    refine ⟨(show (txt l).size + ((⟨#[125, 10]⟩ : ByteArray)).size < 4611686018427387904 by simp only [ByteArray.size_append, size_txt, size_txt2, List.length_cons, List.length_nil, List.length_append]; omega), ?_⟩
    have hend : (p.take (i + 1)).flatMap textC = l ++ [125, 10] := by
      rw [hsnT, ← eT0, ← hc]
      show T0 ++ P (wordsC c) = _
      have : wordsC c = W1 ++ c.fields.flatMap fldF ++ c.methods.flatMap doesF ++ [wRc] := by rw [eW1, eW0, esup, ew]; unfold wordsC; simp
      rw [this, P_app, ← List.append_assoc, hQ]; simp [P_cons, P_nil, s21, b21]
    exact ⟨i + 1, hlt, (show p.length - (i + 1) < p.length - i by omega), ⟨rfl, rfl⟩, .refl _, .str (txt_of (by rw [hend]; simp)), .int hwj, ⟨.refl _, trivial⟩, trivial⟩
end Go.Proofs.YtadimoijlgmecaaGreatDoor.Ax
/- Twins of programs: in memory of their own. -/
set_option linter.unusedVariables false
set_option linter.unusedSimpArgs false
namespace Go.Proofs.YtadimoijlgmecaaGreatDoor.Ax
open Go Go.RowKit
theorem Sub.agg1T {a b : SV} (h : Sub a b) : Sub (.agg [a]) (.agg [b]) := .agg _ _ rfl fun j hj => by
  obtain rfl : j = 0 := by simpa using hj
  exact h
def twTyC : Ctr := { A := List Ty, enc := fun l => [.row Ty 2 tyC ty0 l], dom := fun l => l.length ≤ 100000, res := fun l _ => .row Ty 2 tyC ty0 l }
theorem twTy_ok : CtrSound Tryz.prog 69 twTyC :=
  ctr_of_ax (env_ok tys_ok (eqs := []) trivial (cs := []) trivial) mixed _ Tryz.func69 (by kernel_rfl) rfl (fun _ _ => Nat.le_of_ble_eq_true rfl) fun (l : List Ty) id hd => by
    have hd : l.length ≤ 100000 := hd
    refine ⟨Ty, tyC, ty0, [], l, 0, ⟨.nilO .., .refl _⟩, fun _ => rfl, (by simp only [List.length_nil]; omega), ?_⟩
    exact ⟨.ownRow (by simp), rfl⟩
def tmD (m : Meth) : Prop := m.params.length ≤ 100000 ∧ m.code.length ≤ 100000 ∧ m.catches.length ≤ 100000
def tcD (c : Cls) : Prop := c.ifaces.length ≤ 100000 ∧ c.fields.length ≤ 100000 ∧ c.methods.length ≤ 100000 ∧ ∀ m ∈ c.methods, tmD m
def tpD (p : List Cls) : Prop := p.length ≤ 100000 ∧ ∀ c ∈ p, tcD c
def twMC : Ctr := { A := Meth, enc := fun m => [.agg (methC m)], dom := tmD, res := fun m _ => .agg (methC m) }
set_option maxRecDepth 100000 in
theorem twM_ok : CtrSound Tryz.prog 38 twMC :=
  ctr_of_ax (env_ok tys_ok (eqs := []) trivial (cs := [(69, twTyC)]) ⟨twTy_ok, trivial⟩) mixed _ Tryz.func38 (by kernel_rfl) rfl (fun _ _ => Nat.le_of_ble_eq_true rfl) fun (m : Meth) id hd => by
    obtain ⟨h1, h2, h3⟩ : tmD m := hd
    refine ⟨by kernel_rfl, ?_⟩
    refine ⟨m.params, ⟨.refl _, trivial⟩, rfl, h1, ?_⟩
    refine ⟨Ins, insC, ins0, [], m.code, 0, ⟨.nilO .., .refl _⟩, fun _ => rfl, (by simp only [List.length_nil]; omega), ?_⟩
    refine ⟨Cat, catC, cat0, [], m.catches, 0, ⟨.nilO .., .refl _⟩, fun _ => rfl, (by simp only [List.length_nil]; omega), ?_⟩
    exact ⟨.agg _ _ rfl fun j hj => by match j, hj with | 0, _ => exact .refl _ | 1, _ => exact .refl _ | 2, _ => exact .refl _ | 3, _ => exact .refl _ | 4, _ => exact .refl _ | 5, _ => exact .refl _ | 6, _ => exact .refl _ | 7, _ => exact .ownRow (by simp) | 8, _ => exact .ownRow (by simp), rfl⟩
def twCC : Ctr := { A := Cls, enc := fun c => [.agg (clsC c)], dom := tcD, res := fun c _ => .agg (clsC c) }
set_option maxRecDepth 100000 in
theorem twC_ok : CtrSound Tryz.prog 20 twCC :=
  ctr_of_ax (env_ok tys_ok (eqs := []) trivial (cs := [(38, twMC)]) ⟨twM_ok, trivial⟩) mixed _ Tryz.func20 (by kernel_rfl) rfl (fun _ _ => Nat.le_of_ble_eq_true rfl) fun (c : Cls) id hd => by
    obtain ⟨h1, h2, h3, h4⟩ : tcD c := hd
    refine ⟨by kernel_rfl, ?_⟩
    refine ⟨ByteArray, strC, noS, [], c.ifaces, 0, ⟨.nilO .., .refl _⟩, fun _ => rfl, (by simp only [List.length_nil]; omega), ?_⟩
    refine ⟨Fld, fldC, fld0, [], c.fields, 0, ⟨.nilO .., .refl _⟩, fun _ => rfl, (by simp only [List.length_nil]; omega), ?_⟩
    refine ⟨Nat, fun i => [(1, .box 1 0), (2, .box 2 0), (5, .own Meth 9 methC meth0 (c.methods.take i) 32), (6, I i)], fun _ => [(1, [S c.name, B c.iface, S c.super, .row ByteArray 1 strC noS c.ifaces, .row Fld 4 fldC fld0 c.fields, .row Meth 9 methC meth0 c.methods]), (2, clsC cls0)], fun i => i ≤ c.methods.length, fun i => c.methods.length - i,
      ⟨0, Nat.zero_le _, ⟨⟨rfl, rfl⟩, .refl _, .nilO .., .refl _, .refl _, ⟨.refl _, .refl _, .refl _, .ownRow (by simp), .ownRow (by simp), .refl _, trivial⟩, ⟨.refl _, .refl _, .refl _, .nil .., .nil .., .nil .., trivial⟩, trivial⟩⟩, fun (i : Nat) hi => ?_⟩
    have hi : i ≤ c.methods.length := hi
    have hwj : IntKind.i64.wrap ((i : Int) + 1) = ((i + 1 : Nat) : Int) := by rw [wrap_eq _ (by omega) (by omega)]; omega
    refine ⟨fun h => ?_, fun h => ?_⟩
    · have hlt : i < c.methods.length := dlt h
      refine ⟨⟨by omega, by omega⟩, ?_⟩
      refine ⟨c.methods.getD i meth0, ⟨.refl _, trivial⟩, rfl, h4 _ (getT_mem _ _ _ hlt), ?_⟩
      refine ⟨Meth, methC, meth0, [c.methods.getD i meth0], ⟨rfl, fun _ => rfl⟩, ⟨.refl _, .refl _, .refl _, .refl _, .refl _, .refl _, .refl _, .refl _, .refl _, trivial⟩, rfl, ?_⟩
      refine ⟨Meth, methC, meth0, c.methods.take i, [c.methods.getD i meth0], 32, ⟨.refl _, .own ..⟩, fun _ => rfl, (by simp only [List.length_take, List.length_singleton]; omega), ?_⟩
      exact ⟨i + 1, hlt, by show c.methods.length - (i + 1) < c.methods.length - i; omega, ⟨rfl, rfl⟩, .refl _, .ownEq (by rw [takeT _ meth0 _ hlt]), .refl _, .int hwj, ⟨.refl _, .refl _, .refl _, .refl _, .refl _, .refl _, trivial⟩, ⟨.refl _, .refl _, .refl _, .refl _, .refl _, .refl _, trivial⟩, trivial⟩
    · have hge : i = c.methods.length := Nat.le_antisymm hi (dge h)
      exact ⟨.agg _ _ rfl fun j hj => by match j, hj with | 0, _ => exact .refl _ | 1, _ => exact .refl _ | 2, _ => exact .refl _ | 3, _ => exact .refl _ | 4, _ => exact .refl _ | 5, _ => exact .ownRow (by rw [hge, List.take_length]), rfl⟩
def twPC : Ctr := { A := List Cls, enc := fun p => [.agg [prgR p]], dom := tpD, res := fun p id => .agg [.own Cls 6 clsC cls0 p id] }
set_option maxRecDepth 100000 in
theorem twP_ok : CtrSound Tryz.prog 9 twPC :=
  ctr_of_ax (env_ok tys_ok (eqs := []) trivial (cs := [(20, twCC)]) ⟨twC_ok, trivial⟩) mixed _ Tryz.func9 (by kernel_rfl) rfl (fun _ _ => Nat.le_of_ble_eq_true rfl) fun (p : List Cls) id hd => by
    obtain ⟨h1, h2⟩ : tpD p := hd
    refine ⟨Nat, fun i => [(1, .box 1 0), (2, .box 2 0), (3, .box 3 0), (4, I i)], fun i => [(1, [prgR p]), (3, [.own Cls 6 clsC cls0 (p.take i) 21]), (2, [prgR []])], fun i => i ≤ p.length, fun i => p.length - i,
      ⟨0, Nat.zero_le _, ⟨⟨rfl, rfl⟩, .refl _, .refl _, .refl _, .refl _, ⟨.refl _, trivial⟩, ⟨.nilO .., trivial⟩, ⟨.nil .., trivial⟩, trivial⟩⟩, fun (i : Nat) hi => ?_⟩
    have hi : i ≤ p.length := hi
    have hwj : IntKind.i64.wrap ((i : Int) + 1) = ((i + 1 : Nat) : Int) := by rw [wrap_eq _ (by omega) (by omega)]; omega
    refine ⟨fun h => ?_, fun h => ?_⟩
    · have hlt : i < p.length := dlt h
      refine ⟨by kernel_rfl, ?_⟩
      refine ⟨⟨by omega, by omega⟩, ?_⟩
      refine ⟨p.getD i cls0, ⟨.refl _, trivial⟩, rfl, h2 _ (getT_mem _ _ _ hlt), ?_⟩
      refine ⟨Cls, clsC, cls0, [p.getD i cls0], ⟨rfl, fun _ => rfl⟩, ⟨.refl _, .refl _, .refl _, .refl _, .refl _, .refl _, trivial⟩, rfl, ?_⟩
      refine ⟨Cls, clsC, cls0, p.take i, [p.getD i cls0], 21, ⟨.refl _, .own ..⟩, fun _ => rfl, (by simp only [List.length_take, List.length_singleton]; omega), ?_⟩
      exact ⟨i + 1, hlt, by show p.length - (i + 1) < p.length - i; omega, ⟨rfl, rfl⟩, .refl _, .refl _, .refl _, .int hwj, ⟨.refl _, trivial⟩, ⟨.ownEq (by rw [takeT _ cls0 _ hlt]), trivial⟩, ⟨.refl _, trivial⟩, trivial⟩
    · have hge : i = p.length := Nat.le_antisymm hi (dge h)
      exact ⟨.agg1T (.ownEq (by rw [hge, List.take_length])), rfl⟩
end Go.Proofs.YtadimoijlgmecaaGreatDoor.Ax
/- Layer show: ShowExact. -/
set_option linter.unusedVariables false
set_option linter.unusedSimpArgs false
namespace Go.Proofs.YtadimoijlgmecaaGreatDoor.Ax
open Go Go.RowKit
theorem prg_tD {p : List Cls} (h : prgD p) : tpD p :=
  ⟨h.1, fun c hc => by
    obtain ⟨-, -, ⟨h3, -⟩, ⟨h4, -⟩, h5, h6⟩ := h.2 c hc
    exact ⟨h3, h4, h5, fun m hm => by
      obtain ⟨-, -, ⟨h7, -⟩, ⟨h8, -⟩, h9, -⟩ := h6 m hm
      exact ⟨h7, h8, h9⟩⟩⟩
theorem type_two (k : Int) (l : List UInt8) : ((typeF k l).2 = 0 ∧ typedF k l = true) ∨ ((typeF k l).2 = 4 ∧ typedF k l = false) := by
  unfold typeF
  cases h : typedF k l with
  | true => rw [if_pos rfl]; exact .inl ⟨rfl, rfl⟩
  | false => rw [if_neg (by decide)]; exact .inr ⟨rfl, rfl⟩
def ShowExact : Ctr := { A := List Cls × Ty, enc := fun x => [.agg [prgR x.1], tyS x.2], dom := fun _ => True, res := fun _ _ => .tt, gl := tabS }
set_option maxRecDepth 100000 in
set_option maxHeartbeats 4000000 in
theorem ShowExact_ok : CtrSound Tryz.prog 3 ShowExact :=
  ctr_of_ax (env_okB tys_ok (eqs := []) trivial (cs := [(8, heavyC), (9, twPC), (10, textK), (11, typeC), (12, rttC), (13, rshownC), (14, okC), (15, kPrg), (16, lS), (17, rtextC)]) ⟨heavy_ok, twP_ok, text_ok, type_ok, rtt_ok, rshown_ok, ok_ok, kPrg_ok, wakesS_ok, rtext_ok, trivial⟩ (bs := []) trivial (gl := tabS) (cut := [9])) mixed _ Tryz.func3 (by kernel_rfl) rfl (fun _ _ => Nat.le_of_ble_eq_true rfl) fun ((p, (k, s)) : List Cls × Ty) id hd => by
    refine ⟨p, ⟨.refl _, trivial⟩, rfl, trivial, ?_⟩
    refine ⟨fun h => ⟨.refl _, rfl⟩, fun h => ?_⟩
    have hp : prgH p = true := by have h : (!prgH p) = false := h; simpa using h
    obtain ⟨dp, lp⟩ := prg_H hp
    refine ⟨fun h => ⟨.refl _, rfl⟩, fun h => ?_⟩
    have hs : s.size ≤ 60 := by have h : decide ((s.size : Int) > 60) = false := h; have := of_decide_eq_false h; omega
    have hl := show_len p
    refine ⟨p, ⟨.refl _, trivial⟩, rfl, prg_tD dp, ?_⟩
    refine ⟨p, ⟨.agg1 (.ownRow rfl), trivial⟩, rfl, dp, ?_⟩
    refine ⟨(k, s.data.toList), ⟨.refl _, trivial⟩, rfl, (show s.data.toList.length ≤ 1000000 by rw [sz_len]; omega), ?_⟩
    refine ⟨(k, s), ⟨.refl _, trivial⟩, rfl, (show s.size ≤ 4611686018427387904 by omega), ?_⟩
    refine ⟨Unit, fun _ => [(2, .box 2 0), (5, .box 5 0), (6, .row UInt8 1 byteC 0 (showF p).1), (7, I (showF p).2)], fun _ => [(2, [prgR p]), (5, [prgR p])], fun _ => True, ?_, fun _ _ => ?_⟩
    · have ht : ((txt (ttL (k, s))).toList == (⟨#[]⟩ : ByteArray).toList) = !typedF k s.data.toList := ttL_no
      have e2 := type_two k s.data.toList
      refine ⟨fun h => ?_, fun h => ?_⟩
      · have h : (((typeF k s.data.toList).2 == 0) != !((txt (ttL (k, s))).toList == (⟨#[]⟩ : ByteArray).toList)) = true := h
        rw [ht] at h
        rcases e2 with ⟨a, b⟩ | ⟨a, b⟩ <;> rw [a, b] at h <;> exact absurd h (by decide)
      refine ⟨fun h => ?_, fun h => ?_⟩
      · have h : (!((txt (typeF k s.data.toList).1).toList == (txt (ttL (k, s))).toList)) = true := h
        rw [show ttL (k, s) = (typeF k s.data.toList).1 from rfl] at h
        simp at h
      refine ⟨fun h => ?_, fun h => ?_⟩
      · have h : ((typeF k s.data.toList).2 != 0) = true := h
        have e4 : (typeF k s.data.toList).2 = 4 := by
          rcases e2 with ⟨a, b⟩ | ⟨a, b⟩
          · rw [a] at h; cases h
          · exact a
        refine ⟨fun h => absurd h (by show ¬ ((typeF k s.data.toList).2 != 4) = true; rw [e4]; decide), fun h => ?_⟩
        exact ⟨(), trivial, ⟨rfl, rfl⟩, .refl _, .refl _, .refl _, .refl _, ⟨.ownRow rfl, trivial⟩, ⟨.refl _, trivial⟩, trivial⟩
      · exact ⟨(), trivial, ⟨rfl, rfl⟩, .refl _, .refl _, .refl _, .refl _, ⟨.ownRow rfl, trivial⟩, ⟨.refl _, trivial⟩, trivial⟩
    refine ⟨p, ⟨.refl _, trivial⟩, rfl, dp, ?_⟩
    refine ⟨fun h => ?_, fun h => ?_⟩
    · have hno : prgOk p = false := by simpa using h
      have e1 : showF p = ([], 4) := by unfold showF; rw [if_neg (by rw [hno]; decide)]
      refine ⟨p, ⟨.refl _, trivial⟩, rfl, dp, ?_⟩
      refine ⟨fun h => ?_, fun h => absurd h (by show ¬ ((if prgOk p then (0 : Int) else 4) == 4) = false; rw [hno]; decide)⟩
      refine ⟨fun h => ?_, fun h => absurd h (by show ¬ ((showF p).2 == 4) = false; rw [e1]; decide)⟩
      refine ⟨fun h => ?_, fun h => absurd h (by show ¬ decide ((((showF p).1.length : Nat) : Int) = 0) = false; rw [e1]; decide)⟩
      refine ⟨(p, p), ⟨.refl _, .refl _, trivial⟩, rfl, ⟨lp, lp⟩, ?_⟩
      refine ⟨fun h => ?_, fun h => absurd h (by show ¬ decide (p = p) = false; simp)⟩
      refine ⟨(), trivial, rfl, trivial, ?_⟩
      exact ⟨.refl _, rfl⟩
    have hok : prgOk p = true := by simpa using h
    refine ⟨p, ⟨.refl _, trivial⟩, rfl, hok, ?_⟩
    refine ⟨p, ⟨.refl _, trivial⟩, rfl, dp, ?_⟩
    refine ⟨fun h => absurd h (by show ¬ ((if prgOk p then (0 : Int) else 4) != 0) = true; rw [hok]; decide), fun h => ?_⟩
    refine ⟨(p, p), ⟨.refl _, .refl _, trivial⟩, rfl, ⟨lp, lp⟩, ?_⟩
    refine ⟨fun h => absurd h (by show ¬ (!decide (p = p)) = true; simp), fun h => ?_⟩
    have hsz : (txt (textP p)).size = (textP p).length := size_txt2 _
    refine ⟨fun h => ?_, fun h => ?_⟩
    · have h : decide (((txt (textP p)).size : Int) > 6000) = true := h
      have h := of_decide_eq_true h
      have e1 : showF p = ([], 2) := by unfold showF; rw [if_pos hok, if_pos (by omega)]
      refine ⟨fun h => ?_, fun h => absurd h (by show ¬ ((showF p).2 == 2) = false; rw [e1]; decide)⟩
      refine ⟨fun h => ?_, fun h => absurd h (by show ¬ decide ((((showF p).1.length : Nat) : Int) = 0) = false; rw [e1]; decide)⟩
      refine ⟨(), trivial, rfl, trivial, ?_⟩
      exact ⟨.refl _, rfl⟩
    · have h : decide (((txt (textP p)).size : Int) > 6000) = false := h
      have h := of_decide_eq_false h
      have e1 : showF p = (textP p, 0) := by unfold showF; rw [if_pos hok, if_neg (by omega)]
      refine ⟨fun h => ?_, fun h => absurd h (by show ¬ ((showF p).2 == 0) = false; rw [e1]; simp)⟩
      refine ⟨(showF p).1, .refl _, ?_⟩
      refine ⟨fun h => ?_, fun h => absurd h (by show ¬ ((txt (showF p).1).toList == (txt (textP p)).toList) = false; rw [e1]; simp)⟩
      refine ⟨(), trivial, rfl, trivial, ?_⟩
      exact ⟨.refl _, rfl⟩
end Go.Proofs.YtadimoijlgmecaaGreatDoor.Ax
/- What the rows list of the package's variables, as the walks ask for it. -/
set_option linter.unusedVariables false
namespace Go.Proofs.YtadimoijlgmecaaGreatDoor.Ax
open Go Go.RowKit
theorem var_keep {P : Program} {n : String} {W w' : World} {cs : Array Value} (h : W.var? P n = some cs) (hs : Sealed (cellsH W) w') (hsh : Shaped W w') : w'.var? P n = some cs := by
  unfold World.var? at h ⊢
  cases hg : P.globalNamed n with
  | none => rw [hg] at h; cases h
  | some g =>
    rw [hg] at h
    simp only [Option.bind_some] at h ⊢
    have hlt : g < W.heap.size := by
      rcases Nat.lt_or_ge g W.heap.size with h' | h'
      · exact h'
      · rw [Array.getElem?_eq_none h'] at h; cases h
    have h2 := hsh.2 g hlt
    cases ho : W.heap[g]? with
    | none => rw [ho] at h; cases h
    | some o =>
      rw [ho] at h
      cases o with
      | cells c t f =>
        simp only [Option.some.injEq] at h
        subst h
        simp only [World.shape?, ho] at h2
        cases ho' : w'.heap[g]? with
        | none => rw [ho'] at h2; cases h2
        | some o' =>
          rw [ho'] at h2
          cases o' with
          | cells c' t' f' =>
            simp only [Option.some.injEq, Prod.mk.injEq] at h2
            show some c' = some c
            congr 1
            apply Array.ext h2.2
            intro i hi hi'
            have h3 : cellsH W g i = some c[i] := by
              simp [cellsH, World.cell?, ho]
            have h4 := hs _ _ _ h3
            simp [World.cell?, ho'] at h4
            exact (Array.getElem?_eq_some_iff.1 h4).2
          | _ => cases h2
      | _ => cases h
theorem pow_eq {H : Type} : (Rows.laid_internal_strconv_uint64pow10 : DataW H) = Lib.tabData .u64 Lib.pow10Tab := rfl
end Go.Proofs.YtadimoijlgmecaaGreatDoor.Ax
/- What the rows list of the package's variables, as the walks of the show layer ask for it. -/
set_option linter.unusedVariables false
namespace Go.Proofs.YtadimoijlgmecaaGreatDoor.Ax
open Go Go.RowKit
set_option maxRecDepth 100000 in
theorem spaceS_eq {H : Type} : (Rows.laid_strings_asciiSpace : DataW H) = Lib.tabData .u8 Lib.asciiSpaceTab := rfl
theorem tabsS_of {l : List (String × DataW Unit)} {W : World} (h : laidMet Tryz.prog l W)
    (h1 : (l.filter fun x => x.1 == "internal/strconv.uint64pow10") = [("internal/strconv.uint64pow10", Rows.laid_internal_strconv_uint64pow10)])
    (h3 : (l.filter fun x => x.1 == "strings.asciiSpace") = [("strings.asciiSpace", Rows.laid_strings_asciiSpace)]) : ∀ w', Sealed (cellsH W) w' → Shaped W w' → tabS w' := by
  intro w' hs hsh
  have a1 := h.filter fun x => x.1 == "internal/strconv.uint64pow10"
  rw [h1, pow_eq] at a1
  have t1 := Lib.tabIs_of_head (g := 3) (t := 185) (e := 167) (n := 20) (by kernel_rfl) (by kernel_rfl) Tryz.underlying185 Tryz.underlying167 (by kernel_rfl) (by kernel_rfl) a1
  have a2 := h.filter fun x => x.1 == "strings.asciiSpace"
  rw [h3, spaceS_eq] at a2
  have t2 := Lib.tabIs_of_head (g := 0) (t := 159) (e := 5) (n := 256) (by kernel_rfl) (by kernel_rfl) Tryz.underlying159 Tryz.underlying5 (by kernel_rfl) (by kernel_rfl) a2
  exact ⟨var_keep t1 hs hsh, var_keep t2 hs hsh⟩
end Go.Proofs.YtadimoijlgmecaaGreatDoor.Ax
/- Programs among a law's arguments. -/
set_option linter.unusedVariables false
set_option linter.unusedSimpArgs false
namespace Go.Proofs.YtadimoijlgmecaaGreatDoor.Ax
open Go Go.RowKit
theorem Reads.map {P : Program} {t : Nat} {s s' : Shape} (h : Reads P t s) (f : s.X → s'.X) (hz : s'.sz = s.sz) (hc : ∀ x, s'.cs (f x) = s.cs x) (hk : ∀ x, s.ok x → s'.ok (f x)) : Reads P t s' :=
  ⟨h.1.trans hz.symm, fun H enc w base fuel l r h1 h2 => by
    obtain ⟨x, k1, k2, k3, k4⟩ := h.2 H enc w base fuel l r h1 h2
    exact ⟨f x, hk x k1, k2.trans hz.symm, by rw [hc, k3, hz], fun j hj => by rw [hc]; exact k4 j (by omega)⟩⟩
abbrev shS : Shape := .str
theorem rdS : Reads Tryz.prog 9 shS := Reads.str Tryz.underlying9 (by kernel_rfl)
abbrev shB : Shape := .bool
theorem rdB : Reads Tryz.prog 4 shB := Reads.bool Tryz.underlying4 (by kernel_rfl)
abbrev shI : Shape := .int .i64
theorem rdI : Reads Tryz.prog 3 shI := Reads.int Tryz.underlying3 (by kernel_rfl)
abbrev shTy : Shape := shI.pair shS
theorem rdTy : Reads Tryz.prog 26 shTy := Reads.struct Tryz.underlying26 (by kernel_rfl) (.cons rfl rdI (.one rfl rdS))
abbrev shFld : Shape := ⟨Fld, 4, fldC, fld0, fun x => shS.ok x.name ∧ shTy.ok x.type⟩
theorem rdFld : Reads Tryz.prog 49 shFld :=
  (Reads.struct (s := shS.pair (shTy.pair shB)) Tryz.underlying49 (by kernel_rfl) (.cons rfl rdS (.cons rfl rdTy (.one rfl rdB)))).map (fun x => ⟨x.1, x.2.1, x.2.2⟩) rfl (fun _ => rfl) (fun _ h => ⟨h.1, h.2.1⟩)
abbrev shIns : Shape := ⟨Ins, 4, insC, ins0, fun x => (shI.ok x.op ∧ shI.ok x.n) ∧ shS.ok x.a ∧ shS.ok x.b⟩
theorem rdIns : Reads Tryz.prog 56 shIns :=
  (Reads.struct (s := shI.pair (shI.pair (shS.pair shS))) Tryz.underlying56 (by kernel_rfl) (.cons rfl rdI (.cons rfl rdI (.cons rfl rdS (.one rfl rdS))))).map (fun x => ⟨x.1, x.2.1, x.2.2.1, x.2.2.2⟩) rfl (fun _ => rfl) (fun _ h => ⟨⟨h.1, h.2.1⟩, h.2.2⟩)
abbrev shCat : Shape := ⟨Cat, 4, catC, cat0, fun x => shS.ok x.name ∧ shI.ok x.fr ∧ shI.ok x.up ∧ shI.ok x.at'⟩
theorem rdCat : Reads Tryz.prog 63 shCat :=
  (Reads.struct (s := shS.pair (shI.pair (shI.pair shI))) Tryz.underlying63 (by kernel_rfl) (.cons rfl rdS (.cons rfl rdI (.cons rfl rdI (.one rfl rdI))))).map (fun x => ⟨x.1, x.2.1, x.2.2.1, x.2.2.2⟩) rfl (fun _ => rfl) (fun _ h => h)
theorem rdTys : Reads Tryz.prog 50 (shTy.row 24) := Reads.row Tryz.underlying50 (by kernel_rfl) (by kernel_rfl) rdTy (by decide)
theorem rdInss : Reads Tryz.prog 51 (shIns.row 48) := Reads.row Tryz.underlying51 (by kernel_rfl) (by kernel_rfl) rdIns (by decide)
theorem rdCats : Reads Tryz.prog 52 (shCat.row 40) := Reads.row Tryz.underlying52 (by kernel_rfl) (by kernel_rfl) rdCat (by decide)
theorem rdFlds : Reads Tryz.prog 43 (shFld.row 48) := Reads.row Tryz.underlying43 (by kernel_rfl) (by kernel_rfl) rdFld (by decide)
theorem rdStrs : Reads Tryz.prog 42 (shS.row 16) := Reads.row Tryz.underlying42 (by kernel_rfl) (by kernel_rfl) rdS (by decide)
abbrev shMeth : Shape := ⟨Meth, 9, methC, meth0, fun x => shS.ok x.name ∧ (shTy.row 24).ok x.params ∧ shTy.ok x.ret ∧ shI.ok x.locals ∧ (shIns.row 48).ok x.code ∧ (shCat.row 40).ok x.catches⟩
theorem rdMeth : Reads Tryz.prog 54 shMeth :=
  (Reads.struct (s := shS.pair (shB.pair (shB.pair ((shTy.row 24).pair (shTy.pair (shI.pair ((shIns.row 48).pair (shCat.row 40)))))))) Tryz.underlying54 (by kernel_rfl) (.cons rfl rdS (.cons rfl rdB (.cons rfl rdB (.cons rfl rdTys (.cons rfl rdTy (.cons rfl rdI (.cons rfl rdInss (.one rfl rdCats))))))))).map
    (fun x => ⟨x.1, x.2.1, x.2.2.1, x.2.2.2.1, x.2.2.2.2.1, x.2.2.2.2.2.1, x.2.2.2.2.2.2.1, x.2.2.2.2.2.2.2⟩) rfl (fun _ => rfl) (fun _ h => ⟨h.1, h.2.2.2.1, h.2.2.2.2.1, h.2.2.2.2.2.1, h.2.2.2.2.2.2.1, h.2.2.2.2.2.2.2⟩)
theorem rdMeths : Reads Tryz.prog 44 (shMeth.row 128) := Reads.row Tryz.underlying44 (by kernel_rfl) (by kernel_rfl) rdMeth (by decide)
abbrev shCls : Shape := ⟨Cls, 6, clsC, cls0, fun x => shS.ok x.name ∧ shS.ok x.super ∧ (shS.row 16).ok x.ifaces ∧ (shFld.row 48).ok x.fields ∧ (shMeth.row 128).ok x.methods⟩
theorem rdCls : Reads Tryz.prog 46 shCls :=
  (Reads.struct (s := shS.pair (shB.pair (shS.pair ((shS.row 16).pair ((shFld.row 48).pair (shMeth.row 128)))))) Tryz.underlying46 (by kernel_rfl) (.cons rfl rdS (.cons rfl rdB (.cons rfl rdS (.cons rfl rdStrs (.cons rfl rdFlds (.one rfl rdMeths))))))).map
    (fun x => ⟨x.1, x.2.1, x.2.2.1, x.2.2.2.1, x.2.2.2.2.1, x.2.2.2.2.2⟩) rfl (fun _ => rfl) (fun _ h => ⟨h.1, h.2.2.1, h.2.2.2.1, h.2.2.2.2.1, h.2.2.2.2.2⟩)
abbrev shPrg : Shape := shCls.row 112
theorem rdPrgs : Reads Tryz.prog 22 shPrg := Reads.row Tryz.underlying22 (by kernel_rfl) (by kernel_rfl) rdCls (by decide)
theorem rdPrg : Reads Tryz.prog 24 shPrg := Reads.struct Tryz.underlying24 (by kernel_rfl) (.one rfl rdPrgs)
end Go.Proofs.YtadimoijlgmecaaGreatDoor.Ax
