/- Layer lex: the reference's Scan. -/
import Derived.Test.YtjbpgfcoeaapjaaDoorLj
set_option linter.unusedVariables false
set_option linter.unusedSimpArgs false
namespace Go.Proofs.YtjbpgfcoeaapjaaDoor.Ax
open Go Go.RowKit
theorem tok_nosign {s : List UInt8} (h : isSign (s.getD 0 0) = false) : tokenF s = if nameF s then ((1, txt s, 0, 0), true) else match numF s with | some n => ((2, ⟨#[]⟩, n, 0), true) | none => (tok0, false) := by
  by_cases hn : nameF s = true
  · rw [if_pos hn, tok_name hn]
  · rw [if_neg hn]
    unfold tokenF
    cases numF s with
    | some n => rfl
    | none =>
      simp only
      rw [if_neg hn, if_neg (by rintro ⟨-, c⟩; rw [h] at c; cases c)]
inductive V3 | a | b | c
def V3.n : V3 → Nat
  | .a => 40
  | .b => 90
  | .c => 98
theorem drop_at (b : List UInt8) (i j : Nat) : (b.drop i).getD j 0 = b.getD (i + j) 0 := by simp [List.getD, List.getElem?_drop]
theorem take_hd (s : List UInt8) (n : Nat) (h : 0 < n) : (s.take n).getD 0 0 = s.getD 0 0 := by
  cases s with
  | nil => simp
  | cons c r => cases n with
    | zero => omega
    | succ n => simp
theorem len1 (s : List UInt8) (h : 0 < s.length) : s.take 1 = [s.getD 0 0] := by
  cases s with
  | nil => simp at h
  | cons c r => simp
def rscanC : Ctr := { A := List UInt8, enc := fun b => [.row UInt8 1 byteC 0 b], dom := fun b => b.length ≤ 4611686018427387904, res := fun b id => .tup [.own (Int × ByteArray × Int × Int) 4 tokC tok0 (scanF b).1 id, I (scanF b).2.1, I (scanF b).2.2] }
set_option maxRecDepth 100000 in
set_option maxHeartbeats 4000000 in
theorem rscan_ok : CtrSound Tryd.prog 19 rscanC :=
  ctr_of_ax (env_okB tys_ok (eqs := []) trivial (cs := [(23, nameC), (22, rnumC), (31, byteB isSign), (34, byteB isBlank), (35, byteB isLet), (36, byteB isDig)]) ⟨rname_ok, rnum_ok, rsign_ok, rblank_ok, rletter_ok, rdigit_ok, trivial⟩ (bs := []) trivial (cut := [14, 16])) mixed _ Tryd.func19 (by kernel_rfl) rfl (fun _ _ => Nat.le_of_ble_eq_true rfl) fun (b : List UInt8) id hd => by
    refine ⟨fun h => ?_, fun h => ?_⟩
    · have e : scanF b = ([], 0, 2) := if_pos (by have := of_decide_eq_true h; omega)
      exact ⟨(show Sub _ (.tup [.own (Int × ByteArray × Int × Int) 4 tokC tok0 (scanF b).1 id, I (scanF b).2.1, I (scanF b).2.2]) by rw [e]; exact .tup3 (.nilO ..) (.refl _) (.refl _)), rfl⟩
    have hle : b.length ≤ 6000 := by have := of_decide_eq_false h; omega
    have e0 : scanF b = match (scanI 0 b).2 with | none => ((scanI 0 b).1, 0, 0) | some i => ([], (i : Int), 3) := if_neg (by omega)
    refine ⟨Nat × List (Int × ByteArray × Int × Int) × V3, fun s => [(0, .row UInt8 1 byteC 0 b), (5, .own (Int × ByteArray × Int × Int) 4 tokC tok0 s.2.1 s.2.2.n), (6, I s.1)], fun _ => [],
      fun s => s.1 ≤ b.length ∧ s.2.1.length ≤ s.1 ∧ s.2.1 ++ (scanI s.1 (b.drop s.1)).1 = (scanI 0 b).1 ∧ (scanI s.1 (b.drop s.1)).2 = (scanI 0 b).2, fun s => b.length - s.1, ⟨(0, [], .a), ⟨Nat.zero_le _, Nat.le_refl _, rfl, rfl⟩, ⟨⟨rfl, rfl⟩, .refl _, .nilO .., .refl _, trivial⟩⟩, fun ((i, o, v) : Nat × List (Int × ByteArray × Int × Int) × V3) hi => ?_⟩
    have h1 : i ≤ b.length := hi.1
    have h2 : o.length ≤ i := hi.2.1
    have h3 : o ++ (scanI i (b.drop i)).1 = (scanI 0 b).1 := hi.2.2.1
    have h4 : (scanI i (b.drop i)).2 = (scanI 0 b).2 := hi.2.2.2
    have hwj : IntKind.i64.wrap ((i : Int) + 1) = ((i + 1 : Nat) : Int) := by rw [wrap_eq _ (by omega) (by omega)]; omega
    have di : (i : Int).toNat = i := by omega
    have hg : (b.drop i).getD 0 0 = b.getD i 0 := by rw [drop_at]; rfl
    have stop : ∀ {x : Nat} {k : List (Int × ByteArray × Int × Int)}, scanI i (b.drop i) = (k, some x) → scanF b = ([], (x : Int), 3) := fun e => by rw [e] at h4; rw [e0, ← h4]
    clear hi
    cases v
    · refine ⟨fun h => ?_, fun h => ?_⟩
      · have hlt : i < b.length := dlt h
        have hdl : 0 < (b.drop i).length := by rw [List.length_drop]; omega
        refine ⟨by omega, ?_⟩
        refine ⟨b.getD i 0, ⟨.refl _, trivial⟩, rfl, trivial, ?_⟩
        refine ⟨fun h => ?_, fun hb => ?_⟩
        · have h : isBlank (b.getD i 0) = true := h
          have e := scanI_blank i (b.drop i) hdl (by rw [hg]; exact h)
          rw [List.drop_drop] at e
          rw [e] at h3 h4
          exact ⟨(i + 1, o, .a), ⟨hlt, by show o.length ≤ i + 1; omega, h3, h4⟩, by show b.length - (i + 1) < b.length - i; omega, ⟨rfl, rfl⟩, .refl _, .refl _, .int hwj, trivial⟩
        have hb : isBlank (b.getD i 0) = false := hb
        refine ⟨by omega, ?_⟩
        refine ⟨b.getD i 0, ⟨.refl _, trivial⟩, rfl, trivial, ?_⟩
        refine ⟨fun hs => ?_, fun hs => ?_⟩
        · have hs : isSign (b.getD i 0) = true := hs
          have hw : wordF (b.drop i) = 1 := by unfold wordF; rw [if_neg (by omega), if_pos (by rw [hg]; exact hs)]
          have ht : (b.drop i).take 1 = [b.getD i 0] := by rw [len1 _ hdl, hg]
          have htk : tokenF [b.getD i 0] = ((3, txt [b.getD i 0], 0, 0), true) := tok_sign rfl hs
          have e := scanI_tok i (b.drop i) hdl (by rw [hg]; exact hb) (by rw [hw, ht, htk])
          rw [hw, ht, htk, List.drop_drop] at e
          rw [e] at h3 h4
          refine ⟨⟨by omega, by rw [hwj]; omega, by rw [hwj]; omega⟩, ?_⟩
          refine ⟨[b.getD i 0], (show Sub (.row UInt8 1 byteC 0 ((b.take (IntKind.i64.wrap ((i : Int) + 1)).toNat).drop (i : Int).toNat)) _ by rw [hwj, di]; show Sub (.row UInt8 1 byteC 0 ((b.take (i + 1)).drop i)) _; rw [cut_one b 0 i hlt]; exact .refl _), ?_⟩
          refine ⟨Int × ByteArray × Int × Int, tokC, tok0, [(3, txt [b.getD i 0], 0, (i : Int))], ⟨rfl, fun _ => rfl⟩, ⟨.refl _, .refl _, .refl _, .refl _, trivial⟩, rfl, ?_⟩
          refine ⟨Int × ByteArray × Int × Int, tokC, tok0, o, [(3, txt [b.getD i 0], 0, (i : Int))], 40, ⟨.refl _, .own ..⟩, fun _ => rfl, (by simp only [List.length_cons, List.length_nil]; omega), ?_⟩
          exact ⟨(i + 1, o ++ [(3, txt [b.getD i 0], 0, (i : Int))], .a), ⟨hlt, by rw [List.length_append]; simp only [List.length_cons, List.length_nil]; omega, by rw [List.append_assoc]; exact h3, h4⟩, by show b.length - (i + 1) < b.length - i; omega, ⟨rfl, rfl⟩, .refl _, .refl _, .int hwj, trivial⟩
        have hs : isSign (b.getD i 0) = false := hs
        have hw : wordF (b.drop i) = minus (b.drop i) + (((b.drop i).drop (minus (b.drop i))).takeWhile isAl).length := by unfold wordF; rw [if_neg (by omega), if_neg (by rw [hg, hs]; decide)]
        have hwl := wordF_le (b.drop i)
        have hdn : (b.drop i).length = b.length - i := List.length_drop ..
        refine ⟨Unit, fun _ => [(0, .row UInt8 1 byteC 0 b), (7, I ((i + minus (b.drop i) : Nat) : Int)), (5, .own (Int × ByteArray × Int × Int) 4 tokC tok0 o 40), (6, I i)], fun _ => [], fun _ => True, ?_, fun _ _ => ?_⟩
        · refine ⟨by omega, ?_⟩
          refine ⟨fun h => ?_, fun h => ?_⟩
          · have e : minus (b.drop i) = 1 := by
              unfold minus
              rw [if_pos]
              rw [hg]
              apply UInt8.toNat_inj.1
              have h : (((b.getD i 0).toNat : Int) == 45) = true := h
              have := beqT h
              show (b.getD i 0).toNat = 45
              omega
            exact ⟨(), trivial, ⟨rfl, rfl⟩, .refl _, .int (by rw [e]; exact hwj), .refl _, .refl _, trivial⟩
          · have e : minus (b.drop i) = 0 := by
              unfold minus
              rw [if_neg]
              rw [hg]
              intro c
              have h : (((b.getD i 0).toNat : Int) == 45) = false := h
              rw [c] at h
              exact absurd h (by decide)
            exact ⟨(), trivial, ⟨rfl, rfl⟩, .refl _, .int (by rw [e]; rfl), .refl _, .refl _, trivial⟩
        have hm : minus (b.drop i) ≤ 1 := by unfold minus; split <;> omega
        refine ⟨Unit, fun _ => [(0, .row UInt8 1 byteC 0 b), (7, I ((i + wordF (b.drop i) : Nat) : Int)), (5, .own (Int × ByteArray × Int × Int) 4 tokC tok0 o 40), (6, I i)], fun _ => [], fun _ => True, ?_, fun _ _ => ?_⟩
        · refine ⟨Nat, fun n => [(0, .row UInt8 1 byteC 0 b), (7, I ((i + n : Nat) : Int)), (5, .own (Int × ByteArray × Int × Int) 4 tokC tok0 o 40), (6, I i)], fun _ => [], fun n => minus (b.drop i) ≤ n ∧ n ≤ (b.drop i).length ∧ ∀ j, minus (b.drop i) ≤ j → j < n → isAl ((b.drop i).getD j 0) = true, fun n => (b.drop i).length - n, ⟨minus (b.drop i), ⟨Nat.le_refl _, by omega, fun j h1 h2 => by omega⟩, ⟨⟨rfl, rfl⟩, .refl _, .refl _, .refl _, .refl _, trivial⟩⟩, fun (n : Nat) hi => ?_⟩
          have k1 : minus (b.drop i) ≤ n := hi.1
          have k2 : n ≤ (b.drop i).length := hi.2.1
          have k3 : ∀ j, minus (b.drop i) ≤ j → j < n → isAl ((b.drop i).getD j 0) = true := hi.2.2
          clear hi
          have hwn : IntKind.i64.wrap (((i + n : Nat) : Int) + 1) = ((i + (n + 1) : Nat) : Int) := by rw [wrap_eq _ (by omega) (by omega)]; omega
          have fin : (n = (b.drop i).length ∨ isAl ((b.drop i).getD n 0) = false) → wordF (b.drop i) = n := fun h4 => by rw [hw]; exact tw_at isAl (b.drop i) _ n k1 k2 k3 h4
          have nx : isAl ((b.drop i).getD n 0) = true → ∀ j, minus (b.drop i) ≤ j → j < n + 1 → isAl ((b.drop i).getD j 0) = true := fun hb j q1 q2 => by
            rcases Nat.lt_succ_iff_lt_or_eq.1 q2 with q | rfl
            · exact k3 j q1 q
            · exact hb
          have da := drop_at b i n
          rw [da] at nx fin
          refine ⟨fun h => ?_, fun h => ?_⟩
          · have hln : i + n < b.length := by
              have h : decide (((i + n : Nat) : Int) < (b.length : Int)) = true := h
              exact dlt h
            refine ⟨by omega, ?_⟩
            refine ⟨b.getD (i + n) 0, ⟨.refl _, trivial⟩, rfl, trivial, ?_⟩
            refine ⟨fun h4 => ?_, fun h4 => ?_⟩
            · exact ⟨n + 1, ⟨by omega, by omega, nx (by simp only [isAl]; rw [show isLet (b.getD (i + n) 0) = true from h4]; rfl)⟩, by show (b.drop i).length - (n + 1) < (b.drop i).length - n; omega, ⟨rfl, rfl⟩, .refl _, .int hwn, .refl _, .refl _, trivial⟩
            · refine ⟨by omega, ?_⟩
              refine ⟨b.getD (i + n) 0, ⟨.refl _, trivial⟩, rfl, trivial, ?_⟩
              refine ⟨fun h5 => ?_, fun h5 => ?_⟩
              · exact ⟨n + 1, ⟨by omega, by omega, nx (by simp only [isAl]; rw [show isDig (b.getD (i + n) 0) = true from h5]; simp)⟩, by show (b.drop i).length - (n + 1) < (b.drop i).length - n; omega, ⟨rfl, rfl⟩, .refl _, .int hwn, .refl _, .refl _, trivial⟩
              · exact ⟨(), trivial, ⟨rfl, rfl⟩, .refl _, .int (by rw [fin (.inr (by simp only [isAl]; rw [show isLet (b.getD (i + n) 0) = false from h4, show isDig (b.getD (i + n) 0) = false from h5]; rfl))]), .refl _, .refl _, trivial⟩
          · have hln : b.length ≤ i + n := by
              have h : decide (((i + n : Nat) : Int) < (b.length : Int)) = false := h
              exact dge h
            exact ⟨(), trivial, ⟨rfl, rfl⟩, .refl _, .int (by rw [fin (.inl (by omega))]), .refl _, .refl _, trivial⟩
        have htk : (b.take (i + wordF (b.drop i))).drop i = (b.drop i).take (wordF (b.drop i)) := by
          rw [List.drop_take]; congr 1; omega
        refine ⟨⟨by omega, by omega, by omega⟩, ?_⟩
        refine Exists.elim (show ∃ s : List UInt8, s = (b.drop i).take (wordF (b.drop i)) from ⟨_, rfl⟩) fun s hse => ?_
        refine ⟨s, (show Sub (.row UInt8 1 byteC 0 ((b.take (i + wordF (b.drop i))).drop i)) _ by rw [htk, hse]; exact .refl _), ?_⟩
        have hsl : s.length ≤ b.length := by rw [hse, List.length_take]; omega
        have hsn : isSign (s.getD 0 0) = false := by
          rcases Nat.eq_zero_or_pos (wordF (b.drop i)) with z | z
          · rw [hse, z, List.take_zero]; decide
          · rw [hse, take_hd _ _ z, hg]; exact hs
        have htok := tok_nosign hsn
        have good : ∀ k, tokenF s = (k, true) → 0 < wordF (b.drop i) ∧ scanI i (b.drop i) = (setAt k i :: (scanI (i + wordF (b.drop i)) (b.drop (i + wordF (b.drop i)))).1, (scanI (i + wordF (b.drop i)) (b.drop (i + wordF (b.drop i)))).2) := fun k hk => by
          have h5 : (tokenF ((b.drop i).take (wordF (b.drop i)))).2 = true := by rw [← hse, hk]
          have e := scanI_tok i (b.drop i) hdl (by rw [hg]; exact hb) h5
          rw [List.drop_drop, ← hse, hk] at e
          exact ⟨word_pos h5, e⟩
        refine ⟨s, ⟨.refl _, trivial⟩, rfl, (show s.length ≤ 4611686018427387904 by omega), ?_⟩
        refine ⟨s, ⟨.refl _, trivial⟩, rfl, (show s.length ≤ 4611686018427387904 by omega), ?_⟩
        refine ⟨fun hn => ?_, fun hn => ?_⟩
        · have hn : nameF s = true := hn
          rw [if_pos hn] at htok
          have hgd := good _ htok
          have e := hgd.2
          rw [e] at h3 h4
          refine ⟨Int × ByteArray × Int × Int, tokC, tok0, [(1, txt s, 0, (i : Int))], ⟨rfl, fun _ => rfl⟩, ⟨.refl _, .refl _, .refl _, .refl _, trivial⟩, rfl, ?_⟩
          refine ⟨Int × ByteArray × Int × Int, tokC, tok0, o, [(1, txt s, 0, (i : Int))], 40, ⟨.refl _, .own ..⟩, fun _ => rfl, (by simp only [List.length_cons, List.length_nil]; omega), ?_⟩
          have hp := hgd.1
          exact ⟨(i + wordF (b.drop i), o ++ [(1, txt s, 0, (i : Int))], .b), ⟨by omega, by show (o ++ [_]).length ≤ i + wordF (b.drop i); rw [List.length_append]; simp only [List.length_cons, List.length_nil]; omega, by rw [List.append_assoc]; exact h3, h4⟩, by show b.length - (i + wordF (b.drop i)) < b.length - i; omega, ⟨rfl, rfl⟩, .refl _, .refl _, .refl _, trivial⟩
        have hn : nameF s = false := hn
        rw [if_neg (by rw [hn]; decide)] at htok
        refine ⟨fun hq => ?_, fun hq => ?_⟩
        · have hq : (numF s).isSome = true := hq
          refine Exists.elim (Option.isSome_iff_exists.1 hq) fun m hm => ?_
          rw [hm] at htok
          have hgd := good _ htok
          have e := hgd.2
          rw [e] at h3 h4
          have hmv : (numF s).getD 0 = m := by rw [hm]; rfl
          refine ⟨Int × ByteArray × Int × Int, tokC, tok0, [(2, ⟨#[]⟩, m, (i : Int))], ⟨rfl, fun _ => rfl⟩, ⟨.refl _, .refl _, .int hmv, .refl _, trivial⟩, rfl, ?_⟩
          refine ⟨Int × ByteArray × Int × Int, tokC, tok0, o, [(2, ⟨#[]⟩, m, (i : Int))], 40, ⟨.refl _, .own ..⟩, fun _ => rfl, (by simp only [List.length_cons, List.length_nil]; omega), ?_⟩
          have hp := hgd.1
          exact ⟨(i + wordF (b.drop i), o ++ [(2, ⟨#[]⟩, m, (i : Int))], .c), ⟨by omega, by show (o ++ [_]).length ≤ i + wordF (b.drop i); rw [List.length_append]; simp only [List.length_cons, List.length_nil]; omega, by rw [List.append_assoc]; exact h3, h4⟩, by show b.length - (i + wordF (b.drop i)) < b.length - i; omega, ⟨rfl, rfl⟩, .refl _, .refl _, .refl _, trivial⟩
        · have hq : numF s = none := by
            have hq : (numF s).isSome = false := hq
            cases hc : numF s with
            | none => rfl
            | some m => rw [hc] at hq; cases hq
          rw [hq] at htok
          have e := scanI_bad i (b.drop i) hdl (by rw [hg]; exact hb) (by rw [← hse, htok])
          have e2 := stop e
          exact ⟨(show Sub _ (.tup [.own (Int × ByteArray × Int × Int) 4 tokC tok0 (scanF b).1 id, I (scanF b).2.1, I (scanF b).2.2]) by rw [e2]; exact .tup3 (.nilO ..) (.refl _) (.refl _)), rfl⟩
      · have hge : i = b.length := by have := dge h; omega
        rw [List.drop_of_length_le (by omega), scanI_nil] at h3 h4
        have e2 : scanF b = (o, 0, 0) := by rw [e0, ← h4, ← h3]; simp
        exact ⟨(show Sub _ (.tup [.own (Int × ByteArray × Int × Int) 4 tokC tok0 (scanF b).1 id, I (scanF b).2.1, I (scanF b).2.2]) by rw [e2]; exact .tup3 (.refl _) (.refl _) (.refl _)), rfl⟩
    · refine ⟨fun h => ?_, fun h => ?_⟩
      · have hlt : i < b.length := dlt h
        have hdl : 0 < (b.drop i).length := by rw [List.length_drop]; omega
        refine ⟨by omega, ?_⟩
        refine ⟨b.getD i 0, ⟨.refl _, trivial⟩, rfl, trivial, ?_⟩
        refine ⟨fun h => ?_, fun hb => ?_⟩
        · have h : isBlank (b.getD i 0) = true := h
          have e := scanI_blank i (b.drop i) hdl (by rw [hg]; exact h)
          rw [List.drop_drop] at e
          rw [e] at h3 h4
          exact ⟨(i + 1, o, .b), ⟨hlt, by show o.length ≤ i + 1; omega, h3, h4⟩, by show b.length - (i + 1) < b.length - i; omega, ⟨rfl, rfl⟩, .refl _, .refl _, .int hwj, trivial⟩
        have hb : isBlank (b.getD i 0) = false := hb
        refine ⟨by omega, ?_⟩
        refine ⟨b.getD i 0, ⟨.refl _, trivial⟩, rfl, trivial, ?_⟩
        refine ⟨fun hs => ?_, fun hs => ?_⟩
        · have hs : isSign (b.getD i 0) = true := hs
          have hw : wordF (b.drop i) = 1 := by unfold wordF; rw [if_neg (by omega), if_pos (by rw [hg]; exact hs)]
          have ht : (b.drop i).take 1 = [b.getD i 0] := by rw [len1 _ hdl, hg]
          have htk : tokenF [b.getD i 0] = ((3, txt [b.getD i 0], 0, 0), true) := tok_sign rfl hs
          have e := scanI_tok i (b.drop i) hdl (by rw [hg]; exact hb) (by rw [hw, ht, htk])
          rw [hw, ht, htk, List.drop_drop] at e
          rw [e] at h3 h4
          refine ⟨⟨by omega, by rw [hwj]; omega, by rw [hwj]; omega⟩, ?_⟩
          refine ⟨[b.getD i 0], (show Sub (.row UInt8 1 byteC 0 ((b.take (IntKind.i64.wrap ((i : Int) + 1)).toNat).drop (i : Int).toNat)) _ by rw [hwj, di]; show Sub (.row UInt8 1 byteC 0 ((b.take (i + 1)).drop i)) _; rw [cut_one b 0 i hlt]; exact .refl _), ?_⟩
          refine ⟨Int × ByteArray × Int × Int, tokC, tok0, [(3, txt [b.getD i 0], 0, (i : Int))], ⟨rfl, fun _ => rfl⟩, ⟨.refl _, .refl _, .refl _, .refl _, trivial⟩, rfl, ?_⟩
          refine ⟨Int × ByteArray × Int × Int, tokC, tok0, o, [(3, txt [b.getD i 0], 0, (i : Int))], 90, ⟨.refl _, .own ..⟩, fun _ => rfl, (by simp only [List.length_cons, List.length_nil]; omega), ?_⟩
          exact ⟨(i + 1, o ++ [(3, txt [b.getD i 0], 0, (i : Int))], .a), ⟨hlt, by rw [List.length_append]; simp only [List.length_cons, List.length_nil]; omega, by rw [List.append_assoc]; exact h3, h4⟩, by show b.length - (i + 1) < b.length - i; omega, ⟨rfl, rfl⟩, .refl _, .refl _, .int hwj, trivial⟩
        have hs : isSign (b.getD i 0) = false := hs
        have hw : wordF (b.drop i) = minus (b.drop i) + (((b.drop i).drop (minus (b.drop i))).takeWhile isAl).length := by unfold wordF; rw [if_neg (by omega), if_neg (by rw [hg, hs]; decide)]
        have hwl := wordF_le (b.drop i)
        have hdn : (b.drop i).length = b.length - i := List.length_drop ..
        refine ⟨Unit, fun _ => [(0, .row UInt8 1 byteC 0 b), (7, I ((i + minus (b.drop i) : Nat) : Int)), (5, .own (Int × ByteArray × Int × Int) 4 tokC tok0 o 90), (6, I i)], fun _ => [], fun _ => True, ?_, fun _ _ => ?_⟩
        · refine ⟨by omega, ?_⟩
          refine ⟨fun h => ?_, fun h => ?_⟩
          · have e : minus (b.drop i) = 1 := by
              unfold minus
              rw [if_pos]
              rw [hg]
              apply UInt8.toNat_inj.1
              have h : (((b.getD i 0).toNat : Int) == 45) = true := h
              have := beqT h
              show (b.getD i 0).toNat = 45
              omega
            exact ⟨(), trivial, ⟨rfl, rfl⟩, .refl _, .int (by rw [e]; exact hwj), .refl _, .refl _, trivial⟩
          · have e : minus (b.drop i) = 0 := by
              unfold minus
              rw [if_neg]
              rw [hg]
              intro c
              have h : (((b.getD i 0).toNat : Int) == 45) = false := h
              rw [c] at h
              exact absurd h (by decide)
            exact ⟨(), trivial, ⟨rfl, rfl⟩, .refl _, .int (by rw [e]; rfl), .refl _, .refl _, trivial⟩
        have hm : minus (b.drop i) ≤ 1 := by unfold minus; split <;> omega
        refine ⟨Unit, fun _ => [(0, .row UInt8 1 byteC 0 b), (7, I ((i + wordF (b.drop i) : Nat) : Int)), (5, .own (Int × ByteArray × Int × Int) 4 tokC tok0 o 90), (6, I i)], fun _ => [], fun _ => True, ?_, fun _ _ => ?_⟩
        · refine ⟨Nat, fun n => [(0, .row UInt8 1 byteC 0 b), (7, I ((i + n : Nat) : Int)), (5, .own (Int × ByteArray × Int × Int) 4 tokC tok0 o 90), (6, I i)], fun _ => [], fun n => minus (b.drop i) ≤ n ∧ n ≤ (b.drop i).length ∧ ∀ j, minus (b.drop i) ≤ j → j < n → isAl ((b.drop i).getD j 0) = true, fun n => (b.drop i).length - n, ⟨minus (b.drop i), ⟨Nat.le_refl _, by omega, fun j h1 h2 => by omega⟩, ⟨⟨rfl, rfl⟩, .refl _, .refl _, .refl _, .refl _, trivial⟩⟩, fun (n : Nat) hi => ?_⟩
          have k1 : minus (b.drop i) ≤ n := hi.1
          have k2 : n ≤ (b.drop i).length := hi.2.1
          have k3 : ∀ j, minus (b.drop i) ≤ j → j < n → isAl ((b.drop i).getD j 0) = true := hi.2.2
          clear hi
          have hwn : IntKind.i64.wrap (((i + n : Nat) : Int) + 1) = ((i + (n + 1) : Nat) : Int) := by rw [wrap_eq _ (by omega) (by omega)]; omega
          have fin : (n = (b.drop i).length ∨ isAl ((b.drop i).getD n 0) = false) → wordF (b.drop i) = n := fun h4 => by rw [hw]; exact tw_at isAl (b.drop i) _ n k1 k2 k3 h4
          have nx : isAl ((b.drop i).getD n 0) = true → ∀ j, minus (b.drop i) ≤ j → j < n + 1 → isAl ((b.drop i).getD j 0) = true := fun hb j q1 q2 => by
            rcases Nat.lt_succ_iff_lt_or_eq.1 q2 with q | rfl
            · exact k3 j q1 q
            · exact hb
          have da := drop_at b i n
          rw [da] at nx fin
          refine ⟨fun h => ?_, fun h => ?_⟩
          · have hln : i + n < b.length := by
              have h : decide (((i + n : Nat) : Int) < (b.length : Int)) = true := h
              exact dlt h
            refine ⟨by omega, ?_⟩
            refine ⟨b.getD (i + n) 0, ⟨.refl _, trivial⟩, rfl, trivial, ?_⟩
            refine ⟨fun h4 => ?_, fun h4 => ?_⟩
            · exact ⟨n + 1, ⟨by omega, by omega, nx (by simp only [isAl]; rw [show isLet (b.getD (i + n) 0) = true from h4]; rfl)⟩, by show (b.drop i).length - (n + 1) < (b.drop i).length - n; omega, ⟨rfl, rfl⟩, .refl _, .int hwn, .refl _, .refl _, trivial⟩
            · refine ⟨by omega, ?_⟩
              refine ⟨b.getD (i + n) 0, ⟨.refl _, trivial⟩, rfl, trivial, ?_⟩
              refine ⟨fun h5 => ?_, fun h5 => ?_⟩
              · exact ⟨n + 1, ⟨by omega, by omega, nx (by simp only [isAl]; rw [show isDig (b.getD (i + n) 0) = true from h5]; simp)⟩, by show (b.drop i).length - (n + 1) < (b.drop i).length - n; omega, ⟨rfl, rfl⟩, .refl _, .int hwn, .refl _, .refl _, trivial⟩
              · exact ⟨(), trivial, ⟨rfl, rfl⟩, .refl _, .int (by rw [fin (.inr (by simp only [isAl]; rw [show isLet (b.getD (i + n) 0) = false from h4, show isDig (b.getD (i + n) 0) = false from h5]; rfl))]), .refl _, .refl _, trivial⟩
          · have hln : b.length ≤ i + n := by
              have h : decide (((i + n : Nat) : Int) < (b.length : Int)) = false := h
              exact dge h
            exact ⟨(), trivial, ⟨rfl, rfl⟩, .refl _, .int (by rw [fin (.inl (by omega))]), .refl _, .refl _, trivial⟩
        have htk : (b.take (i + wordF (b.drop i))).drop i = (b.drop i).take (wordF (b.drop i)) := by
          rw [List.drop_take]; congr 1; omega
        refine ⟨⟨by omega, by omega, by omega⟩, ?_⟩
        refine Exists.elim (show ∃ s : List UInt8, s = (b.drop i).take (wordF (b.drop i)) from ⟨_, rfl⟩) fun s hse => ?_
        refine ⟨s, (show Sub (.row UInt8 1 byteC 0 ((b.take (i + wordF (b.drop i))).drop i)) _ by rw [htk, hse]; exact .refl _), ?_⟩
        have hsl : s.length ≤ b.length := by rw [hse, List.length_take]; omega
        have hsn : isSign (s.getD 0 0) = false := by
          rcases Nat.eq_zero_or_pos (wordF (b.drop i)) with z | z
          · rw [hse, z, List.take_zero]; decide
          · rw [hse, take_hd _ _ z, hg]; exact hs
        have htok := tok_nosign hsn
        have good : ∀ k, tokenF s = (k, true) → 0 < wordF (b.drop i) ∧ scanI i (b.drop i) = (setAt k i :: (scanI (i + wordF (b.drop i)) (b.drop (i + wordF (b.drop i)))).1, (scanI (i + wordF (b.drop i)) (b.drop (i + wordF (b.drop i)))).2) := fun k hk => by
          have h5 : (tokenF ((b.drop i).take (wordF (b.drop i)))).2 = true := by rw [← hse, hk]
          have e := scanI_tok i (b.drop i) hdl (by rw [hg]; exact hb) h5
          rw [List.drop_drop, ← hse, hk] at e
          exact ⟨word_pos h5, e⟩
        refine ⟨s, ⟨.refl _, trivial⟩, rfl, (show s.length ≤ 4611686018427387904 by omega), ?_⟩
        refine ⟨s, ⟨.refl _, trivial⟩, rfl, (show s.length ≤ 4611686018427387904 by omega), ?_⟩
        refine ⟨fun hn => ?_, fun hn => ?_⟩
        · have hn : nameF s = true := hn
          rw [if_pos hn] at htok
          have hgd := good _ htok
          have e := hgd.2
          rw [e] at h3 h4
          refine ⟨Int × ByteArray × Int × Int, tokC, tok0, [(1, txt s, 0, (i : Int))], ⟨rfl, fun _ => rfl⟩, ⟨.refl _, .refl _, .refl _, .refl _, trivial⟩, rfl, ?_⟩
          refine ⟨Int × ByteArray × Int × Int, tokC, tok0, o, [(1, txt s, 0, (i : Int))], 90, ⟨.refl _, .own ..⟩, fun _ => rfl, (by simp only [List.length_cons, List.length_nil]; omega), ?_⟩
          have hp := hgd.1
          exact ⟨(i + wordF (b.drop i), o ++ [(1, txt s, 0, (i : Int))], .b), ⟨by omega, by show (o ++ [_]).length ≤ i + wordF (b.drop i); rw [List.length_append]; simp only [List.length_cons, List.length_nil]; omega, by rw [List.append_assoc]; exact h3, h4⟩, by show b.length - (i + wordF (b.drop i)) < b.length - i; omega, ⟨rfl, rfl⟩, .refl _, .refl _, .refl _, trivial⟩
        have hn : nameF s = false := hn
        rw [if_neg (by rw [hn]; decide)] at htok
        refine ⟨fun hq => ?_, fun hq => ?_⟩
        · have hq : (numF s).isSome = true := hq
          refine Exists.elim (Option.isSome_iff_exists.1 hq) fun m hm => ?_
          rw [hm] at htok
          have hgd := good _ htok
          have e := hgd.2
          rw [e] at h3 h4
          have hmv : (numF s).getD 0 = m := by rw [hm]; rfl
          refine ⟨Int × ByteArray × Int × Int, tokC, tok0, [(2, ⟨#[]⟩, m, (i : Int))], ⟨rfl, fun _ => rfl⟩, ⟨.refl _, .refl _, .int hmv, .refl _, trivial⟩, rfl, ?_⟩
          refine ⟨Int × ByteArray × Int × Int, tokC, tok0, o, [(2, ⟨#[]⟩, m, (i : Int))], 90, ⟨.refl _, .own ..⟩, fun _ => rfl, (by simp only [List.length_cons, List.length_nil]; omega), ?_⟩
          have hp := hgd.1
          exact ⟨(i + wordF (b.drop i), o ++ [(2, ⟨#[]⟩, m, (i : Int))], .c), ⟨by omega, by show (o ++ [_]).length ≤ i + wordF (b.drop i); rw [List.length_append]; simp only [List.length_cons, List.length_nil]; omega, by rw [List.append_assoc]; exact h3, h4⟩, by show b.length - (i + wordF (b.drop i)) < b.length - i; omega, ⟨rfl, rfl⟩, .refl _, .refl _, .refl _, trivial⟩
        · have hq : numF s = none := by
            have hq : (numF s).isSome = false := hq
            cases hc : numF s with
            | none => rfl
            | some m => rw [hc] at hq; cases hq
          rw [hq] at htok
          have e := scanI_bad i (b.drop i) hdl (by rw [hg]; exact hb) (by rw [← hse, htok])
          have e2 := stop e
          exact ⟨(show Sub _ (.tup [.own (Int × ByteArray × Int × Int) 4 tokC tok0 (scanF b).1 id, I (scanF b).2.1, I (scanF b).2.2]) by rw [e2]; exact .tup3 (.nilO ..) (.refl _) (.refl _)), rfl⟩
      · have hge : i = b.length := by have := dge h; omega
        rw [List.drop_of_length_le (by omega), scanI_nil] at h3 h4
        have e2 : scanF b = (o, 0, 0) := by rw [e0, ← h4, ← h3]; simp
        exact ⟨(show Sub _ (.tup [.own (Int × ByteArray × Int × Int) 4 tokC tok0 (scanF b).1 id, I (scanF b).2.1, I (scanF b).2.2]) by rw [e2]; exact .tup3 (.refl _) (.refl _) (.refl _)), rfl⟩
    · refine ⟨fun h => ?_, fun h => ?_⟩
      · have hlt : i < b.length := dlt h
        have hdl : 0 < (b.drop i).length := by rw [List.length_drop]; omega
        refine ⟨by omega, ?_⟩
        refine ⟨b.getD i 0, ⟨.refl _, trivial⟩, rfl, trivial, ?_⟩
        refine ⟨fun h => ?_, fun hb => ?_⟩
        · have h : isBlank (b.getD i 0) = true := h
          have e := scanI_blank i (b.drop i) hdl (by rw [hg]; exact h)
          rw [List.drop_drop] at e
          rw [e] at h3 h4
          exact ⟨(i + 1, o, .c), ⟨hlt, by show o.length ≤ i + 1; omega, h3, h4⟩, by show b.length - (i + 1) < b.length - i; omega, ⟨rfl, rfl⟩, .refl _, .refl _, .int hwj, trivial⟩
        have hb : isBlank (b.getD i 0) = false := hb
        refine ⟨by omega, ?_⟩
        refine ⟨b.getD i 0, ⟨.refl _, trivial⟩, rfl, trivial, ?_⟩
        refine ⟨fun hs => ?_, fun hs => ?_⟩
        · have hs : isSign (b.getD i 0) = true := hs
          have hw : wordF (b.drop i) = 1 := by unfold wordF; rw [if_neg (by omega), if_pos (by rw [hg]; exact hs)]
          have ht : (b.drop i).take 1 = [b.getD i 0] := by rw [len1 _ hdl, hg]
          have htk : tokenF [b.getD i 0] = ((3, txt [b.getD i 0], 0, 0), true) := tok_sign rfl hs
          have e := scanI_tok i (b.drop i) hdl (by rw [hg]; exact hb) (by rw [hw, ht, htk])
          rw [hw, ht, htk, List.drop_drop] at e
          rw [e] at h3 h4
          refine ⟨⟨by omega, by rw [hwj]; omega, by rw [hwj]; omega⟩, ?_⟩
          refine ⟨[b.getD i 0], (show Sub (.row UInt8 1 byteC 0 ((b.take (IntKind.i64.wrap ((i : Int) + 1)).toNat).drop (i : Int).toNat)) _ by rw [hwj, di]; show Sub (.row UInt8 1 byteC 0 ((b.take (i + 1)).drop i)) _; rw [cut_one b 0 i hlt]; exact .refl _), ?_⟩
          refine ⟨Int × ByteArray × Int × Int, tokC, tok0, [(3, txt [b.getD i 0], 0, (i : Int))], ⟨rfl, fun _ => rfl⟩, ⟨.refl _, .refl _, .refl _, .refl _, trivial⟩, rfl, ?_⟩
          refine ⟨Int × ByteArray × Int × Int, tokC, tok0, o, [(3, txt [b.getD i 0], 0, (i : Int))], 98, ⟨.refl _, .own ..⟩, fun _ => rfl, (by simp only [List.length_cons, List.length_nil]; omega), ?_⟩
          exact ⟨(i + 1, o ++ [(3, txt [b.getD i 0], 0, (i : Int))], .a), ⟨hlt, by rw [List.length_append]; simp only [List.length_cons, List.length_nil]; omega, by rw [List.append_assoc]; exact h3, h4⟩, by show b.length - (i + 1) < b.length - i; omega, ⟨rfl, rfl⟩, .refl _, .refl _, .int hwj, trivial⟩
        have hs : isSign (b.getD i 0) = false := hs
        have hw : wordF (b.drop i) = minus (b.drop i) + (((b.drop i).drop (minus (b.drop i))).takeWhile isAl).length := by unfold wordF; rw [if_neg (by omega), if_neg (by rw [hg, hs]; decide)]
        have hwl := wordF_le (b.drop i)
        have hdn : (b.drop i).length = b.length - i := List.length_drop ..
        refine ⟨Unit, fun _ => [(0, .row UInt8 1 byteC 0 b), (7, I ((i + minus (b.drop i) : Nat) : Int)), (5, .own (Int × ByteArray × Int × Int) 4 tokC tok0 o 98), (6, I i)], fun _ => [], fun _ => True, ?_, fun _ _ => ?_⟩
        · refine ⟨by omega, ?_⟩
          refine ⟨fun h => ?_, fun h => ?_⟩
          · have e : minus (b.drop i) = 1 := by
              unfold minus
              rw [if_pos]
              rw [hg]
              apply UInt8.toNat_inj.1
              have h : (((b.getD i 0).toNat : Int) == 45) = true := h
              have := beqT h
              show (b.getD i 0).toNat = 45
              omega
            exact ⟨(), trivial, ⟨rfl, rfl⟩, .refl _, .int (by rw [e]; exact hwj), .refl _, .refl _, trivial⟩
          · have e : minus (b.drop i) = 0 := by
              unfold minus
              rw [if_neg]
              rw [hg]
              intro c
              have h : (((b.getD i 0).toNat : Int) == 45) = false := h
              rw [c] at h
              exact absurd h (by decide)
            exact ⟨(), trivial, ⟨rfl, rfl⟩, .refl _, .int (by rw [e]; rfl), .refl _, .refl _, trivial⟩
        have hm : minus (b.drop i) ≤ 1 := by unfold minus; split <;> omega
        refine ⟨Unit, fun _ => [(0, .row UInt8 1 byteC 0 b), (7, I ((i + wordF (b.drop i) : Nat) : Int)), (5, .own (Int × ByteArray × Int × Int) 4 tokC tok0 o 98), (6, I i)], fun _ => [], fun _ => True, ?_, fun _ _ => ?_⟩
        · refine ⟨Nat, fun n => [(0, .row UInt8 1 byteC 0 b), (7, I ((i + n : Nat) : Int)), (5, .own (Int × ByteArray × Int × Int) 4 tokC tok0 o 98), (6, I i)], fun _ => [], fun n => minus (b.drop i) ≤ n ∧ n ≤ (b.drop i).length ∧ ∀ j, minus (b.drop i) ≤ j → j < n → isAl ((b.drop i).getD j 0) = true, fun n => (b.drop i).length - n, ⟨minus (b.drop i), ⟨Nat.le_refl _, by omega, fun j h1 h2 => by omega⟩, ⟨⟨rfl, rfl⟩, .refl _, .refl _, .refl _, .refl _, trivial⟩⟩, fun (n : Nat) hi => ?_⟩
          have k1 : minus (b.drop i) ≤ n := hi.1
          have k2 : n ≤ (b.drop i).length := hi.2.1
          have k3 : ∀ j, minus (b.drop i) ≤ j → j < n → isAl ((b.drop i).getD j 0) = true := hi.2.2
          clear hi
          have hwn : IntKind.i64.wrap (((i + n : Nat) : Int) + 1) = ((i + (n + 1) : Nat) : Int) := by rw [wrap_eq _ (by omega) (by omega)]; omega
          have fin : (n = (b.drop i).length ∨ isAl ((b.drop i).getD n 0) = false) → wordF (b.drop i) = n := fun h4 => by rw [hw]; exact tw_at isAl (b.drop i) _ n k1 k2 k3 h4
          have nx : isAl ((b.drop i).getD n 0) = true → ∀ j, minus (b.drop i) ≤ j → j < n + 1 → isAl ((b.drop i).getD j 0) = true := fun hb j q1 q2 => by
            rcases Nat.lt_succ_iff_lt_or_eq.1 q2 with q | rfl
            · exact k3 j q1 q
            · exact hb
          have da := drop_at b i n
          rw [da] at nx fin
          refine ⟨fun h => ?_, fun h => ?_⟩
          · have hln : i + n < b.length := by
              have h : decide (((i + n : Nat) : Int) < (b.length : Int)) = true := h
              exact dlt h
            refine ⟨by omega, ?_⟩
            refine ⟨b.getD (i + n) 0, ⟨.refl _, trivial⟩, rfl, trivial, ?_⟩
            refine ⟨fun h4 => ?_, fun h4 => ?_⟩
            · exact ⟨n + 1, ⟨by omega, by omega, nx (by simp only [isAl]; rw [show isLet (b.getD (i + n) 0) = true from h4]; rfl)⟩, by show (b.drop i).length - (n + 1) < (b.drop i).length - n; omega, ⟨rfl, rfl⟩, .refl _, .int hwn, .refl _, .refl _, trivial⟩
            · refine ⟨by omega, ?_⟩
              refine ⟨b.getD (i + n) 0, ⟨.refl _, trivial⟩, rfl, trivial, ?_⟩
              refine ⟨fun h5 => ?_, fun h5 => ?_⟩
              · exact ⟨n + 1, ⟨by omega, by omega, nx (by simp only [isAl]; rw [show isDig (b.getD (i + n) 0) = true from h5]; simp)⟩, by show (b.drop i).length - (n + 1) < (b.drop i).length - n; omega, ⟨rfl, rfl⟩, .refl _, .int hwn, .refl _, .refl _, trivial⟩
              · exact ⟨(), trivial, ⟨rfl, rfl⟩, .refl _, .int (by rw [fin (.inr (by simp only [isAl]; rw [show isLet (b.getD (i + n) 0) = false from h4, show isDig (b.getD (i + n) 0) = false from h5]; rfl))]), .refl _, .refl _, trivial⟩
          · have hln : b.length ≤ i + n := by
              have h : decide (((i + n : Nat) : Int) < (b.length : Int)) = false := h
              exact dge h
            exact ⟨(), trivial, ⟨rfl, rfl⟩, .refl _, .int (by rw [fin (.inl (by omega))]), .refl _, .refl _, trivial⟩
        have htk : (b.take (i + wordF (b.drop i))).drop i = (b.drop i).take (wordF (b.drop i)) := by
          rw [List.drop_take]; congr 1; omega
        refine ⟨⟨by omega, by omega, by omega⟩, ?_⟩
        refine Exists.elim (show ∃ s : List UInt8, s = (b.drop i).take (wordF (b.drop i)) from ⟨_, rfl⟩) fun s hse => ?_
        refine ⟨s, (show Sub (.row UInt8 1 byteC 0 ((b.take (i + wordF (b.drop i))).drop i)) _ by rw [htk, hse]; exact .refl _), ?_⟩
        have hsl : s.length ≤ b.length := by rw [hse, List.length_take]; omega
        have hsn : isSign (s.getD 0 0) = false := by
          rcases Nat.eq_zero_or_pos (wordF (b.drop i)) with z | z
          · rw [hse, z, List.take_zero]; decide
          · rw [hse, take_hd _ _ z, hg]; exact hs
        have htok := tok_nosign hsn
        have good : ∀ k, tokenF s = (k, true) → 0 < wordF (b.drop i) ∧ scanI i (b.drop i) = (setAt k i :: (scanI (i + wordF (b.drop i)) (b.drop (i + wordF (b.drop i)))).1, (scanI (i + wordF (b.drop i)) (b.drop (i + wordF (b.drop i)))).2) := fun k hk => by
          have h5 : (tokenF ((b.drop i).take (wordF (b.drop i)))).2 = true := by rw [← hse, hk]
          have e := scanI_tok i (b.drop i) hdl (by rw [hg]; exact hb) h5
          rw [List.drop_drop, ← hse, hk] at e
          exact ⟨word_pos h5, e⟩
        refine ⟨s, ⟨.refl _, trivial⟩, rfl, (show s.length ≤ 4611686018427387904 by omega), ?_⟩
        refine ⟨s, ⟨.refl _, trivial⟩, rfl, (show s.length ≤ 4611686018427387904 by omega), ?_⟩
        refine ⟨fun hn => ?_, fun hn => ?_⟩
        · have hn : nameF s = true := hn
          rw [if_pos hn] at htok
          have hgd := good _ htok
          have e := hgd.2
          rw [e] at h3 h4
          refine ⟨Int × ByteArray × Int × Int, tokC, tok0, [(1, txt s, 0, (i : Int))], ⟨rfl, fun _ => rfl⟩, ⟨.refl _, .refl _, .refl _, .refl _, trivial⟩, rfl, ?_⟩
          refine ⟨Int × ByteArray × Int × Int, tokC, tok0, o, [(1, txt s, 0, (i : Int))], 98, ⟨.refl _, .own ..⟩, fun _ => rfl, (by simp only [List.length_cons, List.length_nil]; omega), ?_⟩
          have hp := hgd.1
          exact ⟨(i + wordF (b.drop i), o ++ [(1, txt s, 0, (i : Int))], .b), ⟨by omega, by show (o ++ [_]).length ≤ i + wordF (b.drop i); rw [List.length_append]; simp only [List.length_cons, List.length_nil]; omega, by rw [List.append_assoc]; exact h3, h4⟩, by show b.length - (i + wordF (b.drop i)) < b.length - i; omega, ⟨rfl, rfl⟩, .refl _, .refl _, .refl _, trivial⟩
        have hn : nameF s = false := hn
        rw [if_neg (by rw [hn]; decide)] at htok
        refine ⟨fun hq => ?_, fun hq => ?_⟩
        · have hq : (numF s).isSome = true := hq
          refine Exists.elim (Option.isSome_iff_exists.1 hq) fun m hm => ?_
          rw [hm] at htok
          have hgd := good _ htok
          have e := hgd.2
          rw [e] at h3 h4
          have hmv : (numF s).getD 0 = m := by rw [hm]; rfl
          refine ⟨Int × ByteArray × Int × Int, tokC, tok0, [(2, ⟨#[]⟩, m, (i : Int))], ⟨rfl, fun _ => rfl⟩, ⟨.refl _, .refl _, .int hmv, .refl _, trivial⟩, rfl, ?_⟩
          refine ⟨Int × ByteArray × Int × Int, tokC, tok0, o, [(2, ⟨#[]⟩, m, (i : Int))], 98, ⟨.refl _, .own ..⟩, fun _ => rfl, (by simp only [List.length_cons, List.length_nil]; omega), ?_⟩
          have hp := hgd.1
          exact ⟨(i + wordF (b.drop i), o ++ [(2, ⟨#[]⟩, m, (i : Int))], .c), ⟨by omega, by show (o ++ [_]).length ≤ i + wordF (b.drop i); rw [List.length_append]; simp only [List.length_cons, List.length_nil]; omega, by rw [List.append_assoc]; exact h3, h4⟩, by show b.length - (i + wordF (b.drop i)) < b.length - i; omega, ⟨rfl, rfl⟩, .refl _, .refl _, .refl _, trivial⟩
        · have hq : numF s = none := by
            have hq : (numF s).isSome = false := hq
            cases hc : numF s with
            | none => rfl
            | some m => rw [hc] at hq; cases hq
          rw [hq] at htok
          have e := scanI_bad i (b.drop i) hdl (by rw [hg]; exact hb) (by rw [← hse, htok])
          have e2 := stop e
          exact ⟨(show Sub _ (.tup [.own (Int × ByteArray × Int × Int) 4 tokC tok0 (scanF b).1 id, I (scanF b).2.1, I (scanF b).2.2]) by rw [e2]; exact .tup3 (.nilO ..) (.refl _) (.refl _)), rfl⟩
      · have hge : i = b.length := by have := dge h; omega
        rw [List.drop_of_length_le (by omega), scanI_nil] at h3 h4
        have e2 : scanF b = (o, 0, 0) := by rw [e0, ← h4, ← h3]; simp
        exact ⟨(show Sub _ (.tup [.own (Int × ByteArray × Int × Int) 4 tokC tok0 (scanF b).1 id, I (scanF b).2.1, I (scanF b).2.2]) by rw [e2]; exact .tup3 (.refl _) (.refl _) (.refl _)), rfl⟩
end Go.Proofs.YtjbpgfcoeaapjaaDoor.Ax
