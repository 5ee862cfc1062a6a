/- Layer lex: blanks between words (the statement). -/
import Derived.Test.YtjbpgfcoeaapjaaDoorLv
set_option linter.unusedVariables false
set_option linter.unusedSimpArgs false
namespace Go.Proofs.YtjbpgfcoeaapjaaDoor.Ax
open Go Go.RowKit
def sameT (a b : Int × ByteArray × Int × Int) : Prop := a.1 = b.1 ∧ a.2.1 = b.2.1 ∧ a.2.2.1 = b.2.2.1
def spread (l : List (Int × ByteArray × Int × Int)) (i : Nat) (u : List UInt8) : Prop := ∃ pl, pl.length = i ∧ (∀ j, j < i → sameT (pl.getD j tok0) (l.getD j tok0)) ∧ ∀ r, (r = [] ∨ isAl (r.getD 0 0) = false) → scanI 0 (u ++ r) = (pl ++ (scanI u.length r).1, (scanI u.length r).2)
theorem spread0 (l : List (Int × ByteArray × Int × Int)) : spread l 0 [] := ⟨[], rfl, fun _ h => by omega, fun r _ => by simp⟩
theorem spreadS {l : List (Int × ByteArray × Int × Int)} {i : Nat} {u g : List UInt8} (h : spread l i u) (hw : wdOk (l.getD i tok0) = true) (hg : g.all isBlank = true) (h0 : 0 < g.length) :
    spread l (i + 1) (u ++ g ++ wdS (l.getD i tok0)) := by
  obtain ⟨pl, h1, h2, h3⟩ := h
  have ht := wd_tok hw
  refine ⟨pl ++ [setAt (tokenF (wdS (l.getD i tok0))).1 (u.length + g.length)], by simp [h1], fun j hj => ?_, fun r hr => ?_⟩
  · rcases Nat.lt_succ_iff_lt_or_eq.1 hj with q | rfl
    · have : (pl ++ [setAt (tokenF (wdS (l.getD i tok0))).1 (u.length + g.length)]).getD j tok0 = pl.getD j tok0 := by simp [List.getD, List.getElem?_append_left (h1 ▸ q)]
      rw [this]; exact h2 j q
    · have : (pl ++ [setAt (tokenF (wdS (l.getD j tok0))).1 (u.length + g.length)]).getD j tok0 = setAt (tokenF (wdS (l.getD j tok0))).1 (u.length + g.length) := by simp [List.getD, ← h1]
      rw [this, ht]
      exact ⟨rfl, rfl, rfl⟩
  · have hb : isAl ((g ++ (wdS (l.getD i tok0) ++ r)).getD 0 0) = false := by
      cases g with
      | nil => simp at h0
      | cons c g =>
        simp only [List.all_cons, Bool.and_eq_true] at hg
        exact (blank_not hg.1).1
    have e : u ++ g ++ wdS (l.getD i tok0) ++ r = u ++ (g ++ (wdS (l.getD i tok0) ++ r)) := by simp
    rw [e, h3 _ (.inr hb), scan_blanks _ g _ hg, scan_word _ (by rw [ht]) hr]
    have e2 : (u ++ g ++ wdS (l.getD i tok0)).length = u.length + g.length + (wdS (l.getD i tok0)).length := by simp [Nat.add_assoc]
    rw [e2]; simp
theorem spreadE {l : List (Int × ByteArray × Int × Int)} {u : List UInt8} (h : spread l l.length u) : ∃ pl, scanI 0 (u ++ [10]) = (pl, none) ∧ pl.length = l.length ∧ ∀ j, j < l.length → sameT (pl.getD j tok0) (l.getD j tok0) := by
  obtain ⟨pl, h1, h2, h3⟩ := h
  refine ⟨pl, ?_, h1, h2⟩
  rw [h3 [10] (.inr (by rfl))]
  have := scan_blanks u.length [10] [] (by decide)
  rw [List.append_nil] at this
  rw [this, scanI_nil]; simp
theorem one_cases (t : Int × ByteArray × Int × Int) : (wdOk t = true ∧ joinF [t] = (wdS t, 0)) ∨ (wdOk t = false ∧ joinF [t] = ([], 4)) := by
  rcases join_cases [t] with ⟨h, e⟩ | ⟨h, e⟩
  · refine .inl ⟨by simpa using h, ?_⟩
    rw [e]; simp [Lib.join_cons, Lib.joinTail]
  · exact .inr ⟨by simpa using h, e⟩
theorem cut_one {α : Type} (l : List α) (d : α) (i : Nat) (h : i < l.length) : (l.take (i + 1)).drop i = [l.getD i d] := by
  rw [takeT l d i h]
  have e : (l.take i).length = i := by rw [List.length_take]; omega
  rw [List.drop_append_of_le_length (by omega)]
  rw [List.drop_eq_nil_of_le (by omega)]; rfl
def gapsL : List ByteArray := [⟨#[32]⟩, ⟨#[9]⟩, ⟨#[10]⟩, ⟨#[13]⟩]
def gapB (m : Nat) : UInt8 := [32, 9, 10, 13].getD m 32
theorem gap_at (m : Nat) (h : m < 4) : gapsL.getD m ⟨#[]⟩ = ⟨[gapB m].toArray⟩ ∧ isBlank (gapB m) = true := by
  match m, h with
  | 0, _ | 1, _ | 2, _ | 3, _ => exact ⟨rfl, by decide⟩
theorem gap_ix (n : Nat) (h : n ≤ 1000) : (IntKind.i64.wrap (n : Int)).tmod 4 = ((n % 4 : Nat) : Int) := by
  have e2 : (n : Int).tmod 4 = ((n % 4 : Nat) : Int) := (Int.ofNat_tmod _ _).symm
  rw [wrap_eq (n : Int) (by omega) (by omega), e2]
def LexBlanks : Ctr := { A := List (Int × ByteArray × Int × Int) × List Int, enc := fun x => [.row (Int × ByteArray × Int × Int) 4 tokC tok0 x.1, .row Int 1 (fun n => [I n]) 0 x.2], dom := fun x => sh28.ok x.1 ∧ sh47.ok x.2, res := fun _ _ => .tt, gl := tabs }
set_option maxRecDepth 100000 in
set_option maxHeartbeats 4000000 in
theorem LexBlanks_ok : CtrSound Tryd.prog 9 LexBlanks :=
  ctr_of_ax (env_okB tys_ok (eqs := []) trivial (cs := [(20, ljoinC), (15, scanC), (14, wakesC)]) ⟨ljoin_ok, scan_ok, wakes_ok, trivial⟩ (bs := []) trivial (gl := tabs) (cut := [14])) mixed _ Tryd.func9 (by kernel_rfl) rfl (fun _ _ => Nat.le_of_ble_eq_true rfl) fun ((l, gaps) : List (Int × ByteArray × Int × Int) × List Int) id hd => by
    have hok := toks_ok hd.1
    refine ⟨fun h => ⟨.refl _, rfl⟩, fun h => ?_⟩
    have hle : l.length ≤ 60 := by dsimp only at h; have := of_decide_eq_false h; omega
    refine ⟨fun h => ⟨.refl _, rfl⟩, fun h => ?_⟩
    have hgl : gaps.length ≤ 100 := by dsimp only at h; have := of_decide_eq_false h; omega
    refine ⟨ByteArray, (fun s => [S s]), ⟨#[]⟩, gapsL, ⟨rfl, fun _ => rfl⟩, ⟨.refl _, .refl _, .refl _, .refl _, trivial⟩, rfl, ?_⟩
    refine ⟨Nat × List UInt8, fun s => [(0, .row (Int × ByteArray × Int × Int) 4 tokC tok0 l), (1, .row Int 1 (fun n => [I n]) 0 gaps), (7, I s.1), (5, .row ByteArray 1 (fun s => [S s]) ⟨#[]⟩ gapsL), (6, X s.2)], fun _ => [], fun s => s.1 ≤ l.length ∧ s.2.length ≤ 25 * s.1 ∧ spread l s.1 s.2, fun s => l.length - s.1, ⟨(0, []), ⟨Nat.zero_le _, Nat.zero_le _, spread0 l⟩, ⟨⟨rfl, rfl⟩, .refl _, .refl _, .refl _, .own .., .refl _, trivial⟩⟩, fun ((i, u) : Nat × List UInt8) hi => ?_⟩
    have hil : i ≤ l.length := hi.1
    have hul : u.length ≤ 25 * i := hi.2.1
    have hsp : spread l i u := hi.2.2
    have hwi : IntKind.i64.wrap ((i : Int) + 1) = ((i + 1 : Nat) : Int) := by rw [wrap_eq _ (by omega) (by omega)]; omega
    refine ⟨fun h => ?_, fun h => ?_⟩
    · have hlt : i < l.length := dlt h
      refine ⟨⟨by omega, by rw [hwi]; omega, by rw [hwi]; omega⟩, ?_⟩
      refine ⟨[l.getD i tok0], ⟨(by rw [hwi]; show Sub (.row (Int × ByteArray × Int × Int) 4 tokC tok0 ((l.take (i + 1)).drop i)) _; rw [cut_one l tok0 i hlt]; exact .refl _), trivial⟩, rfl, (show [l.getD i tok0].length ≤ 100000 ∧ ∀ t ∈ [l.getD i tok0], okT t from ⟨by simp, fun t ht => by rw [List.mem_singleton.1 ht]; exact hok _ (getT_mem l tok0 i hlt)⟩), ?_⟩
      refine (one_cases (l.getD i tok0)).elim (fun hq => ?_) (fun hq => ?_)
      · have j1 : (joinF [l.getD i tok0]).2 = 0 := by rw [hq.2]
        have j2 : (joinF [l.getD i tok0]).1 = wdS (l.getD i tok0) := by rw [hq.2]
        have hw := wd_len hq.1
        refine ⟨fun h => absurd h (by rw [j1]; decide), fun _ => ?_⟩
        refine ⟨Nat, fun n => [(0, .row (Int × ByteArray × Int × Int) 4 tokC tok0 l), (1, .row Int 1 (fun n => [I n]) 0 gaps), (7, I i), (5, .row ByteArray 1 (fun s => [S s]) ⟨#[]⟩ gapsL), (8, .row UInt8 1 byteC 0 (wdS (l.getD i tok0))), (6, X u), (10, I n)], fun _ => [], fun n => 1 ≤ n ∧ n ≤ 5, ?_, fun n hn => ?_⟩
        · have hj : Sub (.own UInt8 1 byteC 0 (joinF [l.getD i tok0]).1 37) (.row UInt8 1 byteC 0 (wdS (l.getD i tok0))) := by rw [j2]; exact .own ..
          refine ⟨fun h => ?_, fun h => ?_⟩
          · have hlg : i < gaps.length := dlt h
            refine Exists.elim (umod (gaps.getD i 0) 5 (by decide) (by decide)) fun k hk => ?_
            have hw : IntKind.i64.wrap (1 + IntKind.i64.wrap ((IntKind.u64.wrap (gaps.getD i 0)).tmod (IntKind.u64.wrap ((5 : Nat) : Int)))) = ((k + 1 : Nat) : Int) := by
              have := hk.1
              rw [hk.2, i64_nat k (by omega), wrap_eq _ (by omega) (by omega)]; omega
            have hk1 := hk.1
            refine ⟨by omega, by decide, ?_⟩
            exact ⟨k + 1, (show 1 ≤ k + 1 ∧ k + 1 ≤ 5 by omega), ⟨rfl, rfl⟩, .refl _, .refl _, .refl _, .refl _, hj, .refl _, .int hw, trivial⟩
          · exact ⟨1, (show 1 ≤ 1 ∧ 1 ≤ 5 by omega), ⟨rfl, rfl⟩, .refl _, .refl _, .refl _, .refl _, hj, .refl _, .refl _, trivial⟩
        have hn1 : 1 ≤ n := hn.1
        have hn5 : n ≤ 5 := hn.2
        refine ⟨Nat × List UInt8, fun s => [(0, .row (Int × ByteArray × Int × Int) 4 tokC tok0 l), (1, .row Int 1 (fun n => [I n]) 0 gaps), (7, I i), (11, I s.1), (5, .row ByteArray 1 (fun s => [S s]) ⟨#[]⟩ gapsL), (8, .row UInt8 1 byteC 0 (wdS (l.getD i tok0))), (6, X (u ++ s.2)), (10, I n)], fun _ => [], fun s => s.1 ≤ n ∧ s.2.length = s.1 ∧ s.2.all isBlank = true, fun s => n - s.1, ⟨(0, []), ⟨Nat.zero_le _, rfl, rfl⟩, ⟨⟨rfl, rfl⟩, .refl _, .refl _, .refl _, .refl _, .refl _, .refl _, (by rw [List.append_nil]; exact .refl _), .refl _, trivial⟩⟩, fun ((k, g) : Nat × List UInt8) hk => ?_⟩
        have hkn : k ≤ n := hk.1
        have hgk : g.length = k := hk.2.1
        have hgb : g.all isBlank = true := hk.2.2
        have hwk : IntKind.i64.wrap ((k : Int) + 1) = ((k + 1 : Nat) : Int) := by rw [wrap_eq _ (by omega) (by omega)]; omega
        have hz := size_txt (u ++ g)
        rw [List.length_append] at hz
        refine ⟨fun h => ?_, fun h => ?_⟩
        · have hlk : k < n := dlt h
          have hix : (IntKind.i64.wrap ((i : Int) + (k : Int))).tmod 4 = (((i + k) % 4 : Nat) : Int) := by
            have := gap_ix (i + k) (by omega)
            rw [← this]; rfl
          have hga := gap_at ((i + k) % 4) (Nat.mod_lt _ (by decide))
          refine ⟨by decide, ?_⟩
          have hxn : ((((i + k) % 4 : Nat) : Int).toNat) = (i + k) % 4 := rfl
          refine ⟨⟨by show (0 : Int) ≤ (IntKind.i64.wrap ((i : Int) + (k : Int))).tmod 4; rw [hix]; omega, by show (IntKind.i64.wrap ((i : Int) + (k : Int))).tmod 4 < _; rw [hix]; have := Nat.mod_lt (i + k) (show 0 < 4 by decide); show (((i + k) % 4 : Nat) : Int) < ((4 : Nat) : Int); omega⟩, ?_⟩
          have hel : gapsL.getD (((IntKind.i64.wrap ((i : Int) + (k : Int))).tmod 4).toNat) ⟨#[]⟩ = ⟨[gapB ((i + k) % 4)].toArray⟩ := by rw [hix]; exact hga.1
          refine ⟨by rw [hz, hel]; have h4 : ({ data := [gapB ((i + k) % 4)].toArray } : ByteArray).size = 1 := rfl; omega, ?_⟩
          refine ⟨(k + 1, g ++ [gapB ((i + k) % 4)]), ⟨hlk, by rw [List.length_append, hgk]; rfl, by rw [List.all_append, hgb]; simp [hga.2]⟩, by show n - (k + 1) < n - k; omega, ⟨rfl, rfl⟩, .refl _, .refl _, .refl _, .int hwk, .refl _, .refl _, .str ?_, .refl _, trivial⟩
          rw [hel, ← List.append_assoc]
          exact txt_app (u ++ g) [gapB ((i + k) % 4)]
        · have hkn2 : k = n := by have := dge h; omega
          refine ⟨wdS (l.getD i tok0), .refl _, ?_⟩
          have hz2 := size_txt (wdS (l.getD i tok0))
          refine ⟨by rw [hz, hz2]; omega, ?_⟩
          refine ⟨(i + 1, u ++ g ++ wdS (l.getD i tok0)), ⟨hlt, by rw [List.length_append, List.length_append]; omega, spreadS hsp hq.1 hgb (by omega)⟩, by show l.length - (i + 1) < l.length - i; omega, ⟨rfl, rfl⟩, .refl _, .refl _, .int hwi, .refl _, .str (txt_app _ _), trivial⟩
      · have j1 : (joinF [l.getD i tok0]).2 = 4 := by rw [hq.2]
        exact ⟨fun h => ⟨.refl _, rfl⟩, fun h => absurd h (by rw [j1]; decide)⟩
    · have hie : i = l.length := by have := dge h; omega
      have hz := size_txt u
      refine ⟨by rw [hz]; have h3 : (⟨#[10]⟩ : ByteArray).size = 1 := rfl; omega, ?_⟩
      obtain ⟨pl, p1, p2, p3⟩ := spreadE (hie ▸ hsp)
      have hs := scanF_of (by rw [List.length_append]; simp only [List.length_cons, List.length_nil]; omega) p1
      refine Exists.elim (show ∃ b : List UInt8, b = u ++ [10] from ⟨_, rfl⟩) fun b hb => ?_
      rw [← hb] at hs
      have s1 : (scanF b).2.2 = 0 := by rw [hs]
      have s2 : (scanF b).1 = pl := by rw [hs]
      have s3 : (scanF b).1.length = l.length := by rw [s2, p2]
      rw [← s2] at p3
      refine ⟨b, ⟨(by show Sub (.row UInt8 1 byteC 0 ((⟨u.toArray⟩ : ByteArray) ++ (⟨[10].toArray⟩ : ByteArray)).data.toList) _; rw [hb, txt_app u [10]]; exact .refl _), trivial⟩, rfl, (show b.length ≤ 4611686018427387904 by rw [hb, List.length_append]; simp only [List.length_cons, List.length_nil]; omega), ?_⟩
      refine ⟨fun h => absurd h (by rw [s1]; decide), fun _ => ⟨fun h => absurd h (by rw [s3]; simp), fun _ => ?_⟩⟩
      refine ⟨Nat, fun i => [(0, .row (Int × ByteArray × Int × Int) 4 tokC tok0 l), (15, I i), (12, .row (Int × ByteArray × Int × Int) 4 tokC tok0 (scanF b).1)], fun _ => [], fun i => i ≤ l.length, fun i => l.length - i, ⟨0, Nat.zero_le _, ⟨⟨rfl, rfl⟩, .refl _, .refl _, .own .., trivial⟩⟩, fun (i : Nat) hil => ?_⟩
      have hil : i ≤ l.length := hil
      have hwj : IntKind.i64.wrap ((i : Int) + 1) = ((i + 1 : Nat) : Int) := by rw [wrap_eq _ (by omega) (by omega)]; omega
      refine ⟨fun h => ?_, fun h => ?_⟩
      · have hlt : i < l.length := dlt h
        have q1 := (p3 i hlt).1
        have q2 := (p3 i hlt).2.1
        have q3 := (p3 i hlt).2.2
        refine ⟨by kernel_rfl, ?_⟩
        refine ⟨by rw [s3]; omega, by omega, fun h => absurd h (by show ¬ ((((scanF b).1.getD i tok0).1 != (l.getD i tok0).1) = true); rw [q1]; simp), fun _ => ?_⟩
        refine ⟨by rw [s3]; omega, by omega, fun h => absurd h (by show ¬ ((!(((scanF b).1.getD i tok0).2.1.toList == (l.getD i tok0).2.1.toList)) = true); rw [q2]; simp), fun _ => ?_⟩
        refine ⟨by rw [s3]; omega, by omega, fun h => absurd h (by show ¬ ((((scanF b).1.getD i tok0).2.2.1 != (l.getD i tok0).2.2.1) = true); rw [q3]; simp), fun _ => ?_⟩
        exact ⟨i + 1, hlt, by show l.length - (i + 1) < l.length - i; omega, ⟨rfl, rfl⟩, .refl _, .int hwj, .refl _, trivial⟩
      · refine ⟨(), trivial, rfl, trivial, ?_⟩
        exact ⟨.refl _, rfl⟩
end Go.Proofs.YtjbpgfcoeaapjaaDoor.Ax
