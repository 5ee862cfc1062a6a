/- Layer parse: words with blanks between them; ParseTypes. -/
import Derived.Test.YtimhbimpaiiceaaDoorGk
import Derived.Test.YtimhbimpaiiceaaDoorLp
import Derived.Test.YtimhbimpaiiceaaDoorLh
set_option linter.unusedVariables false
set_option linter.unusedSimpArgs false
namespace Go.Proofs.YtimhbimpaiiceaaDoor.Ax
open Go Go.RowKit
theorem rep_long (l : List UInt8) (h : 20 < l.length) : nameF l = false := by
  unfold nameF
  rw [decide_eq_false (by omega)]; rfl
theorem dd_nz : ∀ (u : Nat), (Lib.decDigits u).getD 0 0 = 48 → u = 0 := by
  intro u
  induction u using Nat.strongRecOn with
  | ind u ih =>
    intro h
    rw [Lib.decDigits] at h
    split at h
    · rename_i hu
      have h : UInt8.ofNat (48 + u) = 48 := by simpa using h
      have h2 := congrArg UInt8.toNat h
      rw [UInt8.toNat_ofNat'] at h2
      have : (48 : UInt8).toNat = 48 := rfl
      omega
    · rename_i hu
      obtain ⟨b, r, hb, -⟩ := dd_head (u / 10)
      have := ih (u / 10) (by omega) (by rw [hb] at h ⊢; simpa using h)
      omega
theorem dd_z48 : Lib.decDigits 0 = [48] := by rw [Lib.decDigits, dif_pos (by decide)]; rfl
def tlF (l : List UInt8) : List UInt8 := if l.getD 0 0 = 45 then l.drop 1 else l
theorem num_shape {l : List UInt8} {n : Int} (h : Lib.itoa n = l) (hr : inR n) : 1 ≤ (tlF l).length ∧ (tlF l).length ≤ 10 ∧ ((tlF l).getD 0 0 = 48 → l.length ≤ 1) ∧ ∀ b ∈ tlF l, isDig b = true := by
  have hr1 := hr.1
  have hr2 := hr.2
  unfold Lib.itoa at h
  split at h
  · rename_i hn
    subst h
    have e : tlF (45 :: Lib.decDigits n.natAbs) = Lib.decDigits n.natAbs := rfl
    rw [e]
    have h1 := nd_le (u := n.natAbs) (k := 10) (by omega) (by omega)
    obtain ⟨b, r, hb, -⟩ := dd_head n.natAbs
    refine ⟨by rw [hb]; simp, by rw [Lib.decDigits_length]; omega, fun c => ?_, dd_dig _⟩
    have := dd_nz _ c
    omega
  · rename_i hn
    subst h
    obtain ⟨b, r, hb, hd⟩ := dd_head n.toNat
    have e : tlF (Lib.decDigits n.toNat) = Lib.decDigits n.toNat := by
      unfold tlF
      rw [if_neg]
      rw [hb]
      intro c
      have c : b = 45 := c
      rw [c] at hd; exact absurd hd (by decide)
    rw [e]
    have h1 := nd_le (u := n.toNat) (k := 10) (by omega) (by omega)
    refine ⟨by rw [hb]; simp, by rw [Lib.decDigits_length]; omega, fun c => ?_, dd_dig _⟩
    have := dd_nz _ c
    rw [this, dd_z48]; decide
theorem num_bad {l : List UInt8} (h : (tlF l).length < 1 ∨ 10 < (tlF l).length ∨ ((tlF l).getD 0 0 = 48 ∧ 1 < l.length) ∨ ∃ j, j < (tlF l).length ∧ isDig ((tlF l).getD j 0) = false) : numF l = none := by
  rw [numF_none]
  rintro n ⟨h1, h2⟩
  obtain ⟨a, b, c, d⟩ := num_shape h1 h2
  rcases h with h | h | h | ⟨j, hj, h⟩
  · omega
  · omega
  · have := c h.1; omega
  · rw [d _ (by rw [List.getD, List.getElem?_eq_getElem hj]; exact List.getElem_mem hj)] at h; cases h
def sgF (l : List UInt8) (m : Nat) : Int := if (tlF l).length < l.length then -(m : Int) else m
theorem num_val {l : List UInt8} {m : Nat} (h1 : 1 ≤ (tlF l).length) (h2 : (tlF l).getD 0 0 = 48 → l.length ≤ 1) (hm : Lib.decFrom 0 (tlF l) = some m) : Lib.itoa (sgF l m) = l := by
  have hdd : Lib.decDigits m = tlF l := dd_of _ _ hm (by intro c; rw [c] at h1; simp at h1) (by
    by_cases c : (tlF l).getD 0 0 = 48
    · left; have := h2 c
      have : (tlF l).length ≤ l.length := by unfold tlF; split <;> simp
      omega
    · right; exact c)
  by_cases c : l.getD 0 0 = 45
  · cases l with
    | nil => cases c
    | cons b r =>
      have hb : b = 45 := c
      subst hb
      have ht : tlF (45 :: r) = r := rfl
      rw [ht] at hdd h1 h2
      have hs : sgF (45 :: r) m = -(m : Int) := by unfold sgF; rw [ht, if_pos (by simp)]
      have hm0 : 0 < m := by
        rcases Nat.eq_zero_or_pos m with z | z
        · subst z
          have : r.getD 0 0 = 48 := by rw [← hdd, dd_z48]; rfl
          have := h2 this
          simp at this; subst this; simp at h1
        · exact z
      rw [hs]; unfold Lib.itoa
      rw [if_pos (by omega), show (-(m : Int)).natAbs = m by omega, hdd]
  · have ht : tlF l = l := if_neg c
    rw [ht] at hdd
    have hs : sgF l m = (m : Int) := by unfold sgF; rw [ht, if_neg (by omega)]
    rw [hs]; unfold Lib.itoa
    rw [if_neg (by omega), Int.toNat_natCast, hdd]
theorem num_yes {l : List UInt8} {m : Nat} (h1 : 1 ≤ (tlF l).length) (h2 : (tlF l).getD 0 0 = 48 → l.length ≤ 1) (hm : Lib.decFrom 0 (tlF l) = some m) (hr : inR (sgF l m)) : numF l = some (sgF l m) := (numF_iff _ _).2 ⟨num_val h1 h2 hm, hr⟩
theorem num_out {l : List UInt8} {m : Nat} (h1 : 1 ≤ (tlF l).length) (h2 : (tlF l).getD 0 0 = 48 → l.length ≤ 1) (hm : Lib.decFrom 0 (tlF l) = some m) (hr : ¬ inR (sgF l m)) : numF l = none := by
  rw [numF_none]
  rintro n ⟨a, b⟩
  rw [← num_val h1 h2 hm] at a
  rw [itoa_inj a] at b
  exact hr b
theorem dec_step {t : List UInt8} {i m : Nat} (h : Lib.decFrom 0 (t.take i) = some m) (hi : i < t.length) (hd : isDig (t.getD i 0) = true) : Lib.decFrom 0 (t.take (i + 1)) = some (m * 10 + ((t.getD i 0).toNat - 48)) := by
  rw [takeT t 0 i hi, decFrom_append _ _ _ _ h]
  have hd : 48 ≤ (t.getD i 0).toNat ∧ (t.getD i 0).toNat ≤ 57 := by simpa [isDig] using hd
  have e : Lib.digitVal (t.getD i 0) = some ((t.getD i 0).toNat - 48) := by
    have := dig_ofNat (d := (t.getD i 0).toNat - 48) (by omega)
    rw [← this]; congr 1
    apply UInt8.toNat_inj.1
    rw [UInt8.toNat_ofNat']; omega
  simp only [Lib.decFrom, e]
theorem by_at (l : List UInt8) (i : Nat) : byteAt (⟨l.toArray⟩ : ByteArray) i = ((l.getD i 0).toNat : Int) := by simp [byteAt]
theorem name_bad {l : List UInt8} {i : Nat} (h : i < l.length) (h1 : isLet (l.getD i 0) = false) (h2 : isDig (l.getD i 0) = false) : nameF l = false := by
  have : l.all isAl = false := by
    rw [Bool.eq_false_iff]
    intro c
    have := (all_at isAl l).1 c i h
    rw [isAl, h1, h2] at this
    cases this
  simp [nameF, this]
set_option maxRecDepth 100000 in
theorem rname_ok : CtrSound Tryd.prog 22 nameC :=
  ctr_of_ax (env_ok tys_ok (eqs := []) trivial (cs := [(37, byteB isLet), (38, byteB isDig)]) ⟨rletter_ok, rdigit_ok, trivial⟩) mixed _ Tryd.func22 (by kernel_rfl) rfl (fun _ _ => Nat.le_of_ble_eq_true rfl) fun (l : List UInt8) id hd => by
    have hd : l.length ≤ 4611686018427387904 := hd
    have hz := size_txt l
    have ha := at_txt l
    have no1 : l.length < 1 → nameF l = false := fun h => by unfold nameF; rw [decide_eq_false (by omega)]; rfl
    have no3 : isLet (l.getD 0 0) = false → nameF l = false := fun h => by simp only [nameF, h]; simp
    refine ⟨fun h => ?_, fun h => ?_⟩
    · exact ⟨.bff (no1 (by have h : decide (((⟨l.toArray⟩ : ByteArray).size : Int) < 1) = true := h
                           have := of_decide_eq_true h; omega)), rfl⟩
    have hpos : 0 < l.length := by
      have h : decide (((⟨l.toArray⟩ : ByteArray).size : Int) < 1) = false := h
      have := of_decide_eq_false h; omega
    refine ⟨fun h => ?_, fun h => ?_⟩
    · exact ⟨.bff (rep_long l (by have h : decide (((⟨l.toArray⟩ : ByteArray).size : Int) > 20) = true := h
                                  have := of_decide_eq_true h; omega)), rfl⟩
    have hle : l.length ≤ 20 := by
      have h : decide (((⟨l.toArray⟩ : ByteArray).size : Int) > 20) = false := h
      have := of_decide_eq_false h; omega
    refine ⟨⟨by omega, by rw [hz]; omega⟩, ?_⟩
    refine ⟨(txt l).data.getD 0 0, ⟨.refl _, trivial⟩, rfl, trivial, ?_⟩
    refine ⟨fun h => ?_, fun h => ?_⟩
    · rw [ha] at h; exact ⟨.bff (no3 (by simpa using h)), rfl⟩
    have hlet : isLet (l.getD 0 0) = true := by rw [ha] at h; simpa using h
    refine ⟨Nat, fun i => [(0, X l), (3, I i)], fun _ => [], fun i => 1 ≤ i ∧ i ≤ l.length ∧ ∀ j, j < i → isAl (l.getD j 0) = true, fun i => l.length - i, ⟨1, ⟨Nat.le_refl _, hpos, fun j hj => by rw [show j = 0 by omega, isAl, hlet]; rfl⟩, ⟨⟨rfl, rfl⟩, .refl _, .refl _, trivial⟩⟩, fun (i : Nat) hi => ?_⟩
    have hil : i ≤ l.length := hi.2.1
    have hn := hi.2.2
    have hwj : IntKind.i64.wrap ((i : Int) + 1) = ((i + 1 : Nat) : Int) := by rw [wrap_eq _ (by omega) (by omega)]; omega
    refine ⟨fun h => ?_, fun h => ?_⟩
    · have hlt : i < l.length := by
        have h : decide ((i : Int) < ((⟨l.toArray⟩ : ByteArray).size : Int)) = true := h
        have := of_decide_eq_true h; omega
      have nb : ∀ {f : UInt8 → Bool}, (!f ((txt l).data.getD i 0)) = true → f (l.getD i 0) = false := fun h => by rw [ha] at h; simpa using h
      have yb : ∀ {f : UInt8 → Bool}, (!f ((txt l).data.getD i 0)) = false → f (l.getD i 0) = true := fun h => by rw [ha] at h; simpa using h
      have nx : ∀ b, isAl (l.getD i 0) = b → b = true → ∀ j, j < i + 1 → isAl (l.getD j 0) = true := fun b hb hb2 j hj => by
        rcases Nat.lt_succ_iff_lt_or_eq.1 hj with q | rfl
        · exact hn j q
        · rw [hb, hb2]
      refine ⟨⟨by omega, by rw [hz]; omega⟩, ?_⟩
      refine ⟨(txt l).data.getD i 0, ⟨.refl _, trivial⟩, rfl, trivial, ?_⟩
      refine ⟨fun h => ?_, fun h => ?_⟩
      · refine ⟨⟨by omega, by rw [hz]; omega⟩, ?_⟩
        refine ⟨(txt l).data.getD i 0, ⟨.refl _, trivial⟩, rfl, trivial, ?_⟩
        refine ⟨fun h2 => ?_, fun h2 => ?_⟩
        · exact ⟨.bff (name_bad hlt (nb h) (nb h2)), rfl⟩
        · exact ⟨i + 1, ⟨by omega, hlt, nx _ rfl (by simp only [isAl, yb h2, Bool.or_true])⟩, by show l.length - (i + 1) < l.length - i; omega, ⟨rfl, rfl⟩, .refl _, .int hwj, trivial⟩
      · exact ⟨i + 1, ⟨by omega, hlt, nx _ rfl (by simp only [isAl, yb h, Bool.true_or])⟩, by show l.length - (i + 1) < l.length - i; omega, ⟨rfl, rfl⟩, .refl _, .int hwj, trivial⟩
    · have hie : i = l.length := by
        have h : decide ((i : Int) < ((⟨l.toArray⟩ : ByteArray).size : Int)) = false := h
        have := of_decide_eq_false h; omega
      exact ⟨.btt (by subst hie; simp only [nameF, hlet, (all_at isAl l).2 hn]; simp; omega), rfl⟩
/-! ### Words, a blank between them -/
def joinB : List ByteArray → List UInt8
  | [] => []
  | [w] => w.data.toList
  | w :: v :: r => w.data.toList ++ 32 :: joinB (v :: r)
theorem joinB_app : ∀ (a b : List ByteArray), a ≠ [] → b ≠ [] → joinB (a ++ b) = joinB a ++ 32 :: joinB b
  | [], _, h, _ => absurd rfl h
  | [w], [], _, h => absurd rfl h
  | [w], v :: r, _, _ => rfl
  | w :: x :: a, b, _, hb => by
    show w.data.toList ++ 32 :: joinB (x :: a ++ b) = _
    rw [joinB_app (x :: a) b (by simp) hb]
    simp [joinB]
theorem scan_joinB : ∀ (ws : List ByteArray) (i : Nat), (∀ w ∈ ws, tokB w = true) → ∃ l, scanI i (joinB ws) = (l, none) ∧ l.map s3 = tks ws
  | [], i, _ => ⟨[], scanI_nil i, rfl⟩
  | [w], i, h => by
    refine ⟨[setAt (tokenF w.data.toList).1 i], ?_, rfl⟩
    have := scan_word i (w := w.data.toList) (r := []) (h w (by simp)) (.inl rfl)
    rw [List.append_nil, scanI_nil] at this
    exact this
  | w :: v :: r, i, h => by
    obtain ⟨l, h1, h2⟩ := scan_joinB (v :: r) (i + w.data.toList.length + 1) (fun x hx => h x (by simp [hx]))
    refine ⟨setAt (tokenF w.data.toList).1 i :: l, ?_, ?_⟩
    · show scanI i (w.data.toList ++ 32 :: joinB (v :: r)) = _
      rw [scan_word i (w := w.data.toList) (r := 32 :: joinB (v :: r)) (h w (by simp)) (.inr (show isAl 32 = false by decide))]
      have := scan_blanks (i + w.data.toList.length) [32] (joinB (v :: r)) (by decide)
      rw [show (32 : UInt8) :: joinB (v :: r) = [32] ++ joinB (v :: r) from rfl, this]
      simp only [List.length_cons, List.length_nil]
      rw [h1]
    · rw [List.map_cons, h2]; rfl
theorem parse_toks {b : List UInt8} {p : List Cls} {l : List Tok} (h : prgOk p = true) (h1 : scanF b = (l, 0, 0)) (h2 : l.map s3 = tks (p.flatMap wordsC)) : parseF b = (p, 0, 0) := by
  obtain ⟨h3, h4⟩ := prg_parts h
  have hat : At (parse0 b) (tks (p.flatMap wordsC)) := ⟨rfl, by show ((scanF b).1.drop 0).map s3 = _; rw [h1]; exact h2⟩
  have hlen := at_len hat
  have hfl := flat_len wordsC p (fun x _ => by simp [wordsC])
  have hL : (parse0 b).L.length - (parse0 b).i = (scanF b).1.length := by simp [parse0]
  rw [hL] at hlen
  simp only [List.length_map] at hlen
  have := at_prgL p ((scanF b).1.length + 2) (parse0 b) [] h4 (by simpa using h3) (by omega) hat
  unfold parseF
  rw [if_pos (by rw [h1]), if_pos this.2, this.1]
  rfl
theorem parse_joinB {p : List Cls} (h : prgOk p = true) (hl : (joinB (p.flatMap wordsC)).length ≤ 6000) : parseF (joinB (p.flatMap wordsC)) = (p, 0, 0) := by
  obtain ⟨l, h1, h2⟩ := scan_joinB (p.flatMap wordsC) 0 (Toks.flat fun c hc => cls_tok ((prg_parts h).2 c hc))
  refine parse_toks h (l := l) ?_ h2
  unfold scanF
  rw [if_neg (by omega), h1]
/-! ### What the statement looks at -/
def rkeptC : Ctr := { A := ByteArray, enc := fun s => [S s], dom := fun _ => True, res := fun s _ => B (Lib.containsS keptL s) }
set_option maxRecDepth 100000 in
theorem rkept_ok : CtrSound Tryd.prog 23 rkeptC :=
  ctr_of_ax (env_ok tys_ok (eqs := []) trivial (cs := []) trivial) mixed _ Tryd.func23 (by kernel_rfl) rfl (fun _ _ => Nat.le_of_ble_eq_true rfl) fun (s : ByteArray) id _ => by
    have hl : keptL.length = 12 := by decide
    refine ⟨ByteArray, strC, noS, keptL, ⟨rfl, fun _ => rfl⟩, ⟨.refl _, .refl _, .refl _, .refl _, .refl _, .refl _, .refl _, .refl _, .refl _, .refl _, .refl _, .refl _, trivial⟩, rfl, ?_⟩
    refine ⟨Nat, fun i => [(0, S s), (3, .own ByteArray 1 strC noS keptL 5), (4, I i)], fun _ => [], fun i => i ≤ keptL.length ∧ ∀ j, j < i → keptL.getD j noS ≠ s, fun i => keptL.length - i,
      ⟨0, ⟨Nat.zero_le _, fun j hj => by omega⟩, ⟨⟨rfl, rfl⟩, .refl _, .refl _, .refl _, trivial⟩⟩, fun (i : Nat) hi => ?_⟩
    have hil := hi.1
    have hwj : IntKind.i64.wrap ((i : Int) + 1) = ((i + 1 : Nat) : Int) := by rw [wrap_eq _ (by omega) (by omega)]; omega
    refine ⟨fun h => ?_, fun h => ?_⟩
    · have hlt : i < keptL.length := dlt h
      refine ⟨(show 0 ≤ (i : Int) ∧ (i : Int) < ((keptL.length : Nat) : Int) by omega), ?_⟩
      refine ⟨fun h => ?_, fun h => ?_⟩
      · have h : keptL.getD i noS = s := baT h
        exact ⟨.btt ((Lib.containsS_iff _ _).2 (by rw [← h]; exact getT_mem _ _ _ hlt)), rfl⟩
      · have h : keptL.getD i noS ≠ s := baF h
        exact ⟨i + 1, ⟨hlt, fun j hj => by rcases Nat.lt_succ_iff_lt_or_eq.1 hj with q | rfl; exact hi.2 j q; exact h⟩, (show keptL.length - (i + 1) < keptL.length - i by omega), ⟨rfl, rfl⟩, .refl _, .refl _, .int hwj, trivial⟩
    · have hge : i = keptL.length := Nat.le_antisymm hil (dge h)
      have hno : Lib.containsS keptL s = false := by
        rw [Bool.eq_false_iff]
        intro c
        obtain ⟨j, hj, e⟩ := List.mem_iff_getElem.1 ((Lib.containsS_iff _ _).1 c)
        exact hi.2 j (by omega) (by simp [List.getD, hj, e])
      exact ⟨.bff hno, rfl⟩
theorem ty_eq : EqSound Tryd.prog 50 (flatC Ty tyC) :=
  eq_flat [.int .i64, .str] _ tyC Tryd.underlying50 (by kernel_rfl) (by kernel_rfl) (by kernel_rfl) (fun _ => rfl)
theorem ty_dec (a b : Ty) : cellsEq (tyC a) (tyC b) = decide (a = b) := by
  obtain ⟨a1, a2⟩ := a
  obtain ⟨b1, b2⟩ := b
  rw [Bool.eq_iff_iff]
  simp [tyC, cellsEq, cellEq, ba_eq]
set_option maxRecDepth 100000 in
theorem kTypes_ok : CtrSound Tryd.prog 24 (keepR Ty 2 tyC ty0) :=
  ctr_of_ax (env_ok tys_ok (eqs := [(50, flatC Ty tyC)]) ⟨ty_eq, trivial⟩ (cs := []) trivial) mixed _ Tryd.func24 (by kernel_rfl) rfl (fun _ _ => Nat.le_of_ble_eq_true rfl) fun ((k, l) : List Ty × List Ty) id hd => by
    have hd : k.length ≤ 4611686018427387904 := hd
    have no : ¬ (k = l) → Sub .ff (B (decide (k = l))) := fun h => .bff (decide_eq_false h)
    refine ⟨fun h2 => ?_, fun h2 => ?_⟩
    · exact ⟨no fun q => lneT h2 (by rw [q]), rfl⟩
    have hl : k.length = l.length := lneF h2
    refine ⟨Nat, fun i => [(0, .row Ty 2 tyC ty0 k), (1, .row Ty 2 tyC ty0 l), (5, I i)], fun _ => [], fun i => i ≤ k.length ∧ ∀ j, j < i → k.getD j ty0 = l.getD j ty0, fun i => k.length - i,
      ⟨0, ⟨Nat.zero_le _, fun j hj => by omega⟩, ⟨⟨rfl, rfl⟩, .refl _, .refl _, .refl _, trivial⟩⟩, fun (i : Nat) hi => ?_⟩
    have hil := hi.1
    have hwj : IntKind.i64.wrap ((i : Int) + 1) = ((i + 1 : Nat) : Int) := by rw [wrap_eq _ (by omega) (by omega)]; omega
    refine ⟨fun h => ?_, fun h => ?_⟩
    · have hlt : i < k.length := dlt h
      refine ⟨by kernel_rfl, ?_⟩
      refine ⟨⟨by omega, by omega⟩, ⟨by omega, by omega⟩, ?_⟩
      refine ⟨k.getD i ty0, l.getD i ty0, ⟨.refl _, .refl _, trivial⟩, ⟨.refl _, .refl _, trivial⟩, fun h => ?_, fun h => ?_⟩
      · have h : (!cellsEq (tyC (k.getD i ty0)) (tyC (l.getD i ty0))) = true := h
        rw [ty_dec] at h
        exact ⟨no fun q => by rw [q] at h; simp at h, rfl⟩
      · have h : (!cellsEq (tyC (k.getD i ty0)) (tyC (l.getD i ty0))) = false := h
        rw [ty_dec] at h
        have he : k.getD i ty0 = l.getD i ty0 := by simpa using h
        exact ⟨i + 1, ⟨hlt, fun j hj => by rcases Nat.lt_succ_iff_lt_or_eq.1 hj with q | rfl; exact hi.2 j q; exact he⟩, by show k.length - (i + 1) < k.length - i; omega, ⟨rfl, rfl⟩, .refl _, .refl _, .int hwj, trivial⟩
    · have hge : i = k.length := Nat.le_antisymm hil (dge h)
      exact ⟨.btt (decide_eq_true (ext_getD ty0 hl fun j (hj : j < k.length) => hi.2 j (hge ▸ hj))), rfl⟩
/-! ### ParseTypes -/
def tText (s : ByteArray) : ByteArray := (((((((⟨#[105, 110, 116, 101, 114, 102, 97, 99, 101, 32, 65, 32, 123, 32, 115, 116, 97, 116, 105, 99, 32, 102, 32, 58, 32]⟩ ++ s) ++ ⟨#[32, 59, 32, 109, 101, 116, 104, 111, 100, 32, 109, 32, 40, 32]⟩) ++ s) ++ ⟨#[32, 44, 32]⟩) ++ s) ++ ⟨#[32, 41, 32]⟩) ++ s) ++ ⟨#[32, 59, 32, 125]⟩
def tWord (nm : ByteArray) : List ByteArray := [⟨#[118, 111, 105, 100]⟩, ⟨#[105, 110, 116]⟩, nm, ⟨#[105, 110, 116, 32, 91, 32, 93]⟩, nm ++ ⟨#[32, 91, 32, 93]⟩]
def tTy (nm : ByteArray) : List Ty := [(1, noS), (2, noS), (3, nm), (4, noS), (5, nm)]
def tCls (t : Ty) : Cls := ⟨⟨#[65]⟩, true, noS, [], [⟨⟨#[102]⟩, t, true⟩], [⟨⟨#[109]⟩, false, true, [t, t], t, 0, [], []⟩]⟩
theorem tCls_ok {t : Ty} (h : tyOk t = true) : prgOk [tCls t] = true := by
  have a : freshW ⟨#[65]⟩ = true := by decide +kernel
  have b : freshW ⟨#[102]⟩ = true := by decide +kernel
  have c : freshW ⟨#[109]⟩ = true := by decide +kernel
  have d : fldOk ⟨⟨#[102]⟩, t, true⟩ = true := by unfold fldOk; rw [b, h]; rfl
  have e : methOk ⟨⟨#[109]⟩, false, true, [t, t], t, 0, [], []⟩ = true := by
    unfold methOk
    simp only [c, h, List.all_cons, List.all_nil, Bool.and_self]
    rfl
  have f : clsOk (tCls t) = true := by
    unfold clsOk tCls
    simp only [a, d, e, List.all_cons, List.all_nil, Bool.and_self]
    rfl
  unfold prgOk
  simp only [f, List.all_cons, List.all_nil, Bool.and_self]
  rfl
theorem tText_data (s : ByteArray) : (tText s).data.toList = [105, 110, 116, 101, 114, 102, 97, 99, 101, 32, 65, 32, 123, 32, 115, 116, 97, 116, 105, 99, 32, 102, 32, 58, 32] ++ (s.data.toList ++ ([32, 59, 32, 109, 101, 116, 104, 111, 100, 32, 109, 32, 40, 32] ++ (s.data.toList ++ ([32, 44, 32] ++ (s.data.toList ++ ([32, 41, 32] ++ (s.data.toList ++ [32, 59, 32, 125]))))))) := by
  simp [tText, ByteArray.data_append]
theorem tWords (t : Ty) : wordsC (tCls t) = [wInterface, ⟨#[65]⟩, wLc, wStatic, ⟨#[102]⟩, wColon] ++ (kindW t ++ ([wSemi, wMethod, ⟨#[109]⟩, wLp] ++ (kindW t ++ ([wComma] ++ (kindW t ++ ([wRp] ++ (kindW t ++ [wSemi, wRc]))))))) := by
  simp [wordsC, tCls, listF, fldF, doesF, paramsF, noS]
theorem tJoin (t : Ty) (hk : kindW t ≠ []) : joinB (wordsC (tCls t)) = [105, 110, 116, 101, 114, 102, 97, 99, 101, 32, 65, 32, 123, 32, 115, 116, 97, 116, 105, 99, 32, 102, 32, 58, 32] ++ (joinB (kindW t) ++ ([32, 59, 32, 109, 101, 116, 104, 111, 100, 32, 109, 32, 40, 32] ++ (joinB (kindW t) ++ ([32, 44, 32] ++ (joinB (kindW t) ++ ([32, 41, 32] ++ (joinB (kindW t) ++ [32, 59, 32, 125]))))))) := by
  rw [tWords, joinB_app _ _ (by simp) (by simp [hk]), joinB_app _ _ hk (by simp), joinB_app _ _ (by simp) (by simp [hk]), joinB_app _ _ hk (by simp), joinB_app _ _ (by simp) (by simp [hk]), joinB_app _ _ hk (by simp), joinB_app _ _ (by simp) (by simp [hk]), joinB_app _ _ hk (by simp)]
  simp [joinB, wInterface, wLc, wStatic, wColon, wSemi, wMethod, wLp, wComma, wRp, wRc]
theorem tFacts (nm : ByteArray) (hn : nameF nm.data.toList = true) (hk : Lib.containsS keptL nm = false) : ∀ a, a < 5 → tyOk ((tTy nm).getD a ty0) = true ∧ kindW ((tTy nm).getD a ty0) ≠ [] ∧ joinB (kindW ((tTy nm).getD a ty0)) = ((tWord nm).getD a noS).data.toList ∧ ((tWord nm).getD a noS).size ≤ 30 := by
  have hl := name_len hn
  have hz : nm.size ≤ 20 := by rw [← ba_len]; exact hl
  have hf : freshF nm.data.toList = true := by
    unfold freshF keptF
    rw [hn]
    rw [show Lib.containsS keptL ⟨nm.data.toList.toArray⟩ = false from hk]; rfl
  intro a ha
  match a, ha with
  | 0, _ => exact ⟨(show tyOk (1, noS) = true by decide +kernel), (show kindW (1, noS) ≠ [] by decide), rfl, (show (⟨#[118, 111, 105, 100]⟩ : ByteArray).size ≤ 30 by decide)⟩
  | 1, _ => exact ⟨(show tyOk (2, noS) = true by decide +kernel), (show kindW (2, noS) ≠ [] by decide), rfl, (show (⟨#[105, 110, 116]⟩ : ByteArray).size ≤ 30 by decide)⟩
  | 2, _ => exact ⟨by show typedF 3 nm.data.toList = true; unfold typedF; rw [if_neg (by decide), if_pos (by decide)]; exact hf, by show kindF 3 nm ≠ []; simp [kindF], by show joinB (kindF 3 nm) = _; simp [kindF, joinB]; rfl, by show nm.size ≤ 30; omega⟩
  | 3, _ => exact ⟨(show tyOk (4, noS) = true by decide +kernel), (show kindW (4, noS) ≠ [] by decide), (show joinB (kindW (4, noS)) = (⟨#[105, 110, 116, 32, 91, 32, 93]⟩ : ByteArray).data.toList by decide), (show (⟨#[105, 110, 116, 32, 91, 32, 93]⟩ : ByteArray).size ≤ 30 by decide)⟩
  | 4, _ => exact ⟨by show typedF 5 nm.data.toList = true; unfold typedF; rw [if_neg (by decide), if_pos (by decide)]; exact hf, by show kindF 5 nm ≠ []; simp [kindF], by show joinB (kindF 5 nm) = (nm ++ ⟨#[32, 91, 32, 93]⟩).data.toList; simp [kindF, joinB, ByteArray.data_append], by show (nm ++ ⟨#[32, 91, 32, 93]⟩).size ≤ 30; rw [ByteArray.size_append, show (⟨#[32, 91, 32, 93]⟩ : ByteArray).size = 4 from rfl]; omega⟩
theorem tParse (nm : ByteArray) (hn : nameF nm.data.toList = true) (hk : Lib.containsS keptL nm = false) {a : Nat} (ha : a < 5) : parseF (tText ((tWord nm).getD a noS)).data.toList = ([tCls ((tTy nm).getD a ty0)], 0, 0) := by
  obtain ⟨h1, h2, h3, h4⟩ := tFacts nm hn hk a ha
  have e : (tText ((tWord nm).getD a noS)).data.toList = joinB ([tCls ((tTy nm).getD a ty0)].flatMap wordsC) := by
    rw [List.flatMap_cons, List.flatMap_nil, List.append_nil, tJoin _ h2, tText_data, h3]
  rw [e]
  refine parse_joinB (tCls_ok h1) ?_
  rw [← e, tText_data]
  have h5 : ((tWord nm).getD a noS).data.toList.length ≤ 30 := by
    rw [ba_len]; exact h4
  simp only [List.length_append, List.length_cons, List.length_nil]
  omega
def ParseTypes : Ctr := { A := Int × ByteArray, enc := fun x => [I x.1, S x.2], dom := fun x => sh3.ok x.1 ∧ sh9.ok x.2, res := fun _ _ => .tt, gl := tabP }
set_option maxRecDepth 100000 in
set_option maxHeartbeats 4000000 in
theorem ParseTypes_ok : CtrSound Tryd.prog 8 ParseTypes :=
  ctr_of_ax (env_okB tys_ok (eqs := [(50, flatC Ty tyC)]) ⟨ty_eq, trivial⟩ (cs := [(16, parseC), (22, nameC), (23, rkeptC), (24, keepR Ty 2 tyC ty0), (15, lC)]) ⟨parse_ok, rname_ok, rkept_ok, kTypes_ok, wakesP_ok, trivial⟩ (bs := []) trivial (gl := tabP)) mixed _ Tryd.func8 (by kernel_rfl) rfl (fun _ _ => Nat.le_of_ble_eq_true rfl) fun ((kk, nm) : Int × ByteArray) id hd => by
    have hsz : nm.size ≤ 140737488351232 := hd.2
    have hln : nm.data.toList.length ≤ 4611686018427387904 := by rw [ba_len]; omega
    refine ⟨nm.data.toList, ⟨.refl _, trivial⟩, rfl, hln, ?_⟩
    refine ⟨fun h => ⟨.refl _, rfl⟩, fun h => ?_⟩
    have hn : nameF nm.data.toList = true := notF h
    refine ⟨nm, ⟨.refl _, trivial⟩, rfl, trivial, ?_⟩
    refine ⟨fun h => ⟨.refl _, rfl⟩, fun h => ?_⟩
    have hk : Lib.containsS keptL nm = false := h
    obtain ⟨a, ha, ea⟩ := umodC kk 5 (by decide) (by decide)
    have ea : IntKind.i64.wrap ((IntKind.u64.wrap kk).tmod 5) = (a : Int) := ea
    have hs0 : ((tWord nm).getD (IntKind.i64.wrap ((IntKind.u64.wrap kk).tmod 5)).toNat noS) = ((tWord nm).getD a noS) := by rw [ea]; rfl
    have ht0 : ((tTy nm).getD (IntKind.i64.wrap ((IntKind.u64.wrap kk).tmod 5)).toNat ty0) = ((tTy nm).getD a ty0) := by rw [ea]; rfl
    have hp := tParse nm hn hk ha
    obtain ⟨f1, f2, f3, f4⟩ := tFacts nm hn hk a ha
    have f4 : ((tWord nm).getD (IntKind.i64.wrap ((IntKind.u64.wrap kk).tmod 5)).toNat noS).size ≤ 30 := by rw [hs0]; exact f4
    have hnl : nm.size ≤ 20 := by rw [← ba_len]; exact name_len hn
    refine ⟨by decide, ?_⟩
    refine ⟨(show nm.size + (⟨#[32, 91, 32, 93]⟩ : ByteArray).size < 4611686018427387904 by rw [show (⟨#[32, 91, 32, 93]⟩ : ByteArray).size = 4 from rfl]; omega), ?_⟩
    refine ⟨ByteArray, strC, noS, tWord nm, ⟨rfl, fun _ => rfl⟩, ⟨.refl _, .refl _, .refl _, .refl _, .refl _, trivial⟩, rfl, ?_⟩
    refine ⟨(show 0 ≤ IntKind.i64.wrap ((IntKind.u64.wrap kk).tmod 5) ∧ IntKind.i64.wrap ((IntKind.u64.wrap kk).tmod 5) < ((5 : Nat) : Int) by rw [ea]; omega), ?_⟩
    refine ⟨Ty, tyC, ty0, tTy nm, ⟨rfl, fun _ => rfl⟩, ⟨.refl _, .refl _, .refl _, .refl _, .refl _, .refl _, .refl _, .refl _, .refl _, .refl _, trivial⟩, rfl, ?_⟩
    refine ⟨(show 0 ≤ IntKind.i64.wrap ((IntKind.u64.wrap kk).tmod 5) ∧ IntKind.i64.wrap ((IntKind.u64.wrap kk).tmod 5) < ((5 : Nat) : Int) by rw [ea]; omega), ?_⟩
    have z0 : (⟨#[105, 110, 116, 101, 114, 102, 97, 99, 101, 32, 65, 32, 123, 32, 115, 116, 97, 116, 105, 99, 32, 102, 32, 58, 32]⟩ : ByteArray).size = 25 := rfl
    have z1 : (⟨#[32, 59, 32, 109, 101, 116, 104, 111, 100, 32, 109, 32, 40, 32]⟩ : ByteArray).size = 14 := rfl
    have z2 : (⟨#[32, 44, 32]⟩ : ByteArray).size = 3 := rfl
    have z3 : (⟨#[32, 41, 32]⟩ : ByteArray).size = 3 := rfl
    have z4 : (⟨#[32, 59, 32, 125]⟩ : ByteArray).size = 4 := rfl
    refine ⟨(show (⟨#[105, 110, 116, 101, 114, 102, 97, 99, 101, 32, 65, 32, 123, 32, 115, 116, 97, 116, 105, 99, 32, 102, 32, 58, 32]⟩ : ByteArray).size + ((tWord nm).getD (IntKind.i64.wrap ((IntKind.u64.wrap kk).tmod 5)).toNat noS).size < 4611686018427387904 by simp only [ByteArray.size_append, z0, z1, z2, z3, z4]; omega), ?_⟩
    refine ⟨(show ((⟨#[105, 110, 116, 101, 114, 102, 97, 99, 101, 32, 65, 32, 123, 32, 115, 116, 97, 116, 105, 99, 32, 102, 32, 58, 32]⟩ : ByteArray) ++ ((tWord nm).getD (IntKind.i64.wrap ((IntKind.u64.wrap kk).tmod 5)).toNat noS)).size + (⟨#[32, 59, 32, 109, 101, 116, 104, 111, 100, 32, 109, 32, 40, 32]⟩ : ByteArray).size < 4611686018427387904 by simp only [ByteArray.size_append, z0, z1, z2, z3, z4]; omega), ?_⟩
    refine ⟨(show (((⟨#[105, 110, 116, 101, 114, 102, 97, 99, 101, 32, 65, 32, 123, 32, 115, 116, 97, 116, 105, 99, 32, 102, 32, 58, 32]⟩ : ByteArray) ++ ((tWord nm).getD (IntKind.i64.wrap ((IntKind.u64.wrap kk).tmod 5)).toNat noS)) ++ ⟨#[32, 59, 32, 109, 101, 116, 104, 111, 100, 32, 109, 32, 40, 32]⟩).size + ((tWord nm).getD (IntKind.i64.wrap ((IntKind.u64.wrap kk).tmod 5)).toNat noS).size < 4611686018427387904 by simp only [ByteArray.size_append, z0, z1, z2, z3, z4]; omega), ?_⟩
    refine ⟨(show ((((⟨#[105, 110, 116, 101, 114, 102, 97, 99, 101, 32, 65, 32, 123, 32, 115, 116, 97, 116, 105, 99, 32, 102, 32, 58, 32]⟩ : ByteArray) ++ ((tWord nm).getD (IntKind.i64.wrap ((IntKind.u64.wrap kk).tmod 5)).toNat noS)) ++ ⟨#[32, 59, 32, 109, 101, 116, 104, 111, 100, 32, 109, 32, 40, 32]⟩) ++ ((tWord nm).getD (IntKind.i64.wrap ((IntKind.u64.wrap kk).tmod 5)).toNat noS)).size + (⟨#[32, 44, 32]⟩ : ByteArray).size < 4611686018427387904 by simp only [ByteArray.size_append, z0, z1, z2, z3, z4]; omega), ?_⟩
    refine ⟨(show (((((⟨#[105, 110, 116, 101, 114, 102, 97, 99, 101, 32, 65, 32, 123, 32, 115, 116, 97, 116, 105, 99, 32, 102, 32, 58, 32]⟩ : ByteArray) ++ ((tWord nm).getD (IntKind.i64.wrap ((IntKind.u64.wrap kk).tmod 5)).toNat noS)) ++ ⟨#[32, 59, 32, 109, 101, 116, 104, 111, 100, 32, 109, 32, 40, 32]⟩) ++ ((tWord nm).getD (IntKind.i64.wrap ((IntKind.u64.wrap kk).tmod 5)).toNat noS)) ++ ⟨#[32, 44, 32]⟩).size + ((tWord nm).getD (IntKind.i64.wrap ((IntKind.u64.wrap kk).tmod 5)).toNat noS).size < 4611686018427387904 by simp only [ByteArray.size_append, z0, z1, z2, z3, z4]; omega), ?_⟩
    refine ⟨(show ((((((⟨#[105, 110, 116, 101, 114, 102, 97, 99, 101, 32, 65, 32, 123, 32, 115, 116, 97, 116, 105, 99, 32, 102, 32, 58, 32]⟩ : ByteArray) ++ ((tWord nm).getD (IntKind.i64.wrap ((IntKind.u64.wrap kk).tmod 5)).toNat noS)) ++ ⟨#[32, 59, 32, 109, 101, 116, 104, 111, 100, 32, 109, 32, 40, 32]⟩) ++ ((tWord nm).getD (IntKind.i64.wrap ((IntKind.u64.wrap kk).tmod 5)).toNat noS)) ++ ⟨#[32, 44, 32]⟩) ++ ((tWord nm).getD (IntKind.i64.wrap ((IntKind.u64.wrap kk).tmod 5)).toNat noS)).size + (⟨#[32, 41, 32]⟩ : ByteArray).size < 4611686018427387904 by simp only [ByteArray.size_append, z0, z1, z2, z3, z4]; omega), ?_⟩
    refine ⟨(show (((((((⟨#[105, 110, 116, 101, 114, 102, 97, 99, 101, 32, 65, 32, 123, 32, 115, 116, 97, 116, 105, 99, 32, 102, 32, 58, 32]⟩ : ByteArray) ++ ((tWord nm).getD (IntKind.i64.wrap ((IntKind.u64.wrap kk).tmod 5)).toNat noS)) ++ ⟨#[32, 59, 32, 109, 101, 116, 104, 111, 100, 32, 109, 32, 40, 32]⟩) ++ ((tWord nm).getD (IntKind.i64.wrap ((IntKind.u64.wrap kk).tmod 5)).toNat noS)) ++ ⟨#[32, 44, 32]⟩) ++ ((tWord nm).getD (IntKind.i64.wrap ((IntKind.u64.wrap kk).tmod 5)).toNat noS)) ++ ⟨#[32, 41, 32]⟩).size + ((tWord nm).getD (IntKind.i64.wrap ((IntKind.u64.wrap kk).tmod 5)).toNat noS).size < 4611686018427387904 by simp only [ByteArray.size_append, z0, z1, z2, z3, z4]; omega), ?_⟩
    refine ⟨(show ((((((((⟨#[105, 110, 116, 101, 114, 102, 97, 99, 101, 32, 65, 32, 123, 32, 115, 116, 97, 116, 105, 99, 32, 102, 32, 58, 32]⟩ : ByteArray) ++ ((tWord nm).getD (IntKind.i64.wrap ((IntKind.u64.wrap kk).tmod 5)).toNat noS)) ++ ⟨#[32, 59, 32, 109, 101, 116, 104, 111, 100, 32, 109, 32, 40, 32]⟩) ++ ((tWord nm).getD (IntKind.i64.wrap ((IntKind.u64.wrap kk).tmod 5)).toNat noS)) ++ ⟨#[32, 44, 32]⟩) ++ ((tWord nm).getD (IntKind.i64.wrap ((IntKind.u64.wrap kk).tmod 5)).toNat noS)) ++ ⟨#[32, 41, 32]⟩) ++ ((tWord nm).getD (IntKind.i64.wrap ((IntKind.u64.wrap kk).tmod 5)).toNat noS)).size + (⟨#[32, 59, 32, 125]⟩ : ByteArray).size < 4611686018427387904 by simp only [ByteArray.size_append, z0, z1, z2, z3, z4]; omega), ?_⟩
    refine ⟨(tText ((tWord nm).getD a noS)).data.toList, ⟨.rowEq (by rw [← hs0]; rfl), trivial⟩, rfl, ?_, ?_⟩
    · show (tText ((tWord nm).getD a noS)).data.toList.length ≤ 4611686018427387904
      rw [← hs0, tText_data]
      have h5 : ((tWord nm).getD (IntKind.i64.wrap ((IntKind.u64.wrap kk).tmod 5)).toNat noS).data.toList.length ≤ 30 := by
        rw [ba_len]; exact f4
      simp only [List.length_append, List.length_cons, List.length_nil]
      omega
    have a1 : (parseF (tText ((tWord nm).getD a noS)).data.toList).2.2 = 0 := by rw [hp]
    have a2 : (parseF (tText ((tWord nm).getD a noS)).data.toList).1.length = 1 := by rw [hp]; rfl
    have a3 : (parseF (tText ((tWord nm).getD a noS)).data.toList).1.getD 0 cls0 = tCls ((tTy nm).getD a ty0) := by rw [hp]; rfl
    have a4 : ((parseF (tText ((tWord nm).getD a noS)).data.toList).1.getD 0 cls0).fields.length = 1 := by rw [a3]; rfl
    have a5 : ((parseF (tText ((tWord nm).getD a noS)).data.toList).1.getD 0 cls0).methods.length = 1 := by rw [a3]; rfl
    have a6 : (((parseF (tText ((tWord nm).getD a noS)).data.toList).1.getD 0 cls0).fields.getD 0 fld0).type = ((tTy nm).getD a ty0) := by rw [a3]; rfl
    have a7 : ((parseF (tText ((tWord nm).getD a noS)).data.toList).1.getD 0 cls0).methods.getD 0 meth0 = ⟨⟨#[109]⟩, false, true, [((tTy nm).getD a ty0), ((tTy nm).getD a ty0)], ((tTy nm).getD a ty0), 0, [], []⟩ := by rw [a3]; rfl
    have a8 : ((parseF (tText ((tWord nm).getD a noS)).data.toList).1.getD 0 cls0).iface = true := by rw [a3]; rfl
    refine ⟨fun h => absurd h (by show ¬ ((parseF (tText ((tWord nm).getD a noS)).data.toList).2.2 != 0) = true; rw [a1]; decide), fun h => ?_⟩
    refine ⟨fun h => absurd h (by show ¬ (((parseF (tText ((tWord nm).getD a noS)).data.toList).1.length : Int) != 1) = true; rw [a2]; decide), fun h => ?_⟩
    refine ⟨(show (0 : Int) ≤ 0 ∧ (0 : Int) < ((parseF (tText ((tWord nm).getD a noS)).data.toList).1.length : Int) by rw [a2]; decide), ?_⟩
    refine ⟨fun h => absurd h (by show ¬ ((((parseF (tText ((tWord nm).getD a noS)).data.toList).1.getD 0 cls0).fields.length : Int) != 1) = true; rw [a4]; decide), fun h => ?_⟩
    refine ⟨(show (0 : Int) ≤ 0 ∧ (0 : Int) < ((parseF (tText ((tWord nm).getD a noS)).data.toList).1.length : Int) by rw [a2]; decide), ?_⟩
    refine ⟨fun h => absurd h (by show ¬ ((((parseF (tText ((tWord nm).getD a noS)).data.toList).1.getD 0 cls0).methods.length : Int) != 1) = true; rw [a5]; decide), fun h => ?_⟩
    refine ⟨(show (0 : Int) ≤ 0 ∧ (0 : Int) < ((parseF (tText ((tWord nm).getD a noS)).data.toList).1.length : Int) by rw [a2]; decide), ?_⟩
    refine ⟨(show (0 : Int) ≤ 0 ∧ (0 : Int) < ((((parseF (tText ((tWord nm).getD a noS)).data.toList).1.getD 0 cls0).methods.length : Nat) : Int) by rw [a5]; decide), ?_⟩
    refine ⟨by kernel_rfl, ?_⟩
    refine ⟨(show (0 : Int) ≤ 0 ∧ (0 : Int) < ((parseF (tText ((tWord nm).getD a noS)).data.toList).1.length : Int) by rw [a2]; decide), ?_⟩
    refine ⟨(show (0 : Int) ≤ 0 ∧ (0 : Int) < ((((parseF (tText ((tWord nm).getD a noS)).data.toList).1.getD 0 cls0).fields.length : Nat) : Int) by rw [a4]; decide), ?_⟩
    refine ⟨(((parseF (tText ((tWord nm).getD a noS)).data.toList).1.getD 0 cls0).fields.getD 0 fld0).type, ((tTy nm).getD a ty0), ⟨.refl _, .refl _, trivial⟩, ⟨.int (by rw [← ht0]), .str (by rw [← ht0]), trivial⟩, ?_⟩
    refine ⟨fun h => ?_, fun h => absurd h (by show ¬ (cellsEq (tyC (((parseF (tText ((tWord nm).getD a noS)).data.toList).1.getD 0 cls0).fields.getD 0 fld0).type) (tyC ((tTy nm).getD a ty0))) = false; rw [a6, ty_dec]; simp)⟩
    refine ⟨(((parseF (tText ((tWord nm).getD a noS)).data.toList).1.getD 0 cls0).methods.getD 0 meth0).ret, ((tTy nm).getD a ty0), ⟨.refl _, .refl _, trivial⟩, ⟨.int (by rw [← ht0]), .str (by rw [← ht0]), trivial⟩, ?_⟩
    refine ⟨fun h => ?_, fun h => absurd h (by show ¬ (cellsEq (tyC (((parseF (tText ((tWord nm).getD a noS)).data.toList).1.getD 0 cls0).methods.getD 0 meth0).ret) (tyC ((tTy nm).getD a ty0))) = false; rw [a7, ty_dec]; simp)⟩
    refine ⟨Ty, tyC, ty0, [((tTy nm).getD a ty0), ((tTy nm).getD a ty0)], ⟨rfl, fun _ => rfl⟩, ⟨.int (by rw [← ht0]), .str (by rw [← ht0]), .int (by rw [← ht0]), .str (by rw [← ht0]), trivial⟩, rfl, ?_⟩
    refine ⟨((((parseF (tText ((tWord nm).getD a noS)).data.toList).1.getD 0 cls0).methods.getD 0 meth0).params, [((tTy nm).getD a ty0), ((tTy nm).getD a ty0)]), ⟨.refl _, .own .., trivial⟩, rfl, (show (((parseF (tText ((tWord nm).getD a noS)).data.toList).1.getD 0 cls0).methods.getD 0 meth0).params.length ≤ 4611686018427387904 by rw [a7]; show 2 ≤ 4611686018427387904; decide), ?_⟩
    refine ⟨fun h => ?_, fun h => absurd h (by show ¬ (decide ((((parseF (tText ((tWord nm).getD a noS)).data.toList).1.getD 0 cls0).methods.getD 0 meth0).params = [((tTy nm).getD a ty0), ((tTy nm).getD a ty0)])) = false; rw [a7]; simp)⟩
    refine ⟨fun h => ?_, fun h => absurd h (by show ¬ ((((parseF (tText ((tWord nm).getD a noS)).data.toList).1.getD 0 cls0).methods.getD 0 meth0).abs) = false; rw [a7]; simp)⟩
    refine ⟨(show (0 : Int) ≤ 0 ∧ (0 : Int) < ((parseF (tText ((tWord nm).getD a noS)).data.toList).1.length : Int) by rw [a2]; decide), ?_⟩
    refine ⟨fun h => ?_, fun h => absurd h (by show ¬ (((parseF (tText ((tWord nm).getD a noS)).data.toList).1.getD 0 cls0).iface) = false; rw [a8]; decide)⟩
    refine ⟨(), trivial, rfl, trivial, ?_⟩
    exact ⟨.refl _, rfl⟩
end Go.Proofs.YtimhbimpaiiceaaDoor.Ax
