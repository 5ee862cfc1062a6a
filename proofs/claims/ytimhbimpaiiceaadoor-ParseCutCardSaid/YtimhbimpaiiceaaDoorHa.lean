/- Layer parse: ParseBlanks. -/
import Derived.Test.YtimhbimpaiiceaaDoorGt
import Derived.Test.YtimhbimpaiiceaaDoorGv
set_option linter.unusedVariables false
set_option linter.unusedSimpArgs false
namespace Go.Proofs.YtimhbimpaiiceaaDoor.Ax
open Go Go.RowKit
/-- a reader of the same words, without their places -/
def un0 (t : Tok) : Tok := (t.1, t.2.1, t.2.2.1, 0)
def strip (r : Rs) : Rs := ⟨r.L.map un0, 0, r.i, 0, r.e⟩
theorem st_len (r : Rs) : (strip r).L.length = r.L.length := by simp [strip]
theorem st_get (l : List Tok) (i : Nat) : (l.map un0).getD i tok0 = un0 (l.getD i tok0) := by
  simp only [List.getD, List.getElem?_map]
  cases l[i]? <;> rfl
theorem st_next (r : Rs) : (strip r).next = un0 r.next := by
  unfold Rs.next
  rw [st_len]
  show (if r.e = 0 ∧ r.i < r.L.length then (r.L.map un0).getD r.i tok0 else tok0) = _
  split
  · rw [st_get]
  · rfl
theorem st_is (r : Rs) (w : ByteArray) : (strip r).is w = r.is w := by unfold Rs.is; rw [st_next]; rfl
theorem st_e (r : Rs) : (strip r).e = r.e := rfl
theorem st_i (r : Rs) : (strip r).i = r.i := rfl
theorem st_step (r : Rs) : (strip r).step = strip r.step := rfl
theorem st_fail (r : Rs) (e : Int) : (strip r).fail e = strip (r.fail e) := by
  unfold Rs.fail
  rw [st_len, st_e, st_i]
  split
  · show Rs.mk _ _ _ (if r.i < r.L.length then ((r.L.map un0).getD r.i tok0).2.2.2 else 0) e = strip _
    rw [st_get]
    have : (if r.i < r.L.length then (un0 (r.L.getD r.i tok0)).2.2.2 else 0) = 0 := by split <;> rfl
    rw [this]; rfl
  · rfl
theorem st_take (r : Rs) (w : ByteArray) : (strip r).take w = strip (r.take w) := by unfold Rs.take; rw [st_is]; split <;> rfl
theorem st_want (r : Rs) (w : ByteArray) : (strip r).want w = strip (r.want w) := by unfold Rs.want; rw [st_is]; split; rfl; exact st_fail r 4
theorem st_free (r : Rs) : (strip r).free = r.free := by unfold Rs.free; rw [st_next]; rfl
theorem st_freshV (r : Rs) : (strip r).freshV = r.freshV := by unfold Rs.freshV; rw [st_free, st_next]; rfl
theorem st_fresh (r : Rs) : (strip r).fresh = strip r.fresh := by unfold Rs.fresh; rw [st_free]; split; rfl; exact st_fail r 4
theorem st_numOk (r : Rs) (a b : Int) : (strip r).numOk a b = r.numOk a b := by unfold Rs.numOk; rw [st_next]; rfl
theorem st_numV (r : Rs) (a b : Int) : (strip r).numV a b = r.numV a b := by unfold Rs.numV; rw [st_numOk, st_next]; rfl
theorem st_num (r : Rs) (a b : Int) : (strip r).num a b = strip (r.num a b) := by unfold Rs.num; rw [st_numOk]; split; rfl; exact st_fail r 4
theorem st_room (r : Rs) (a b : Int) : (strip r).room a b = strip (r.room a b) := by unfold Rs.room; split; exact st_fail r 2; rfl
theorem st_name1 (r : Rs) (k : Int) : (strip r).name1 k = strip (r.name1 k) := by unfold Rs.name1; rw [st_step, st_free]; split; exact st_room _ _ _; rfl
theorem st_namesL : ∀ (f : Nat) (r : Rs) (out : List ByteArray), Rs.namesL f (strip r) out = ((Rs.namesL f r out).1, strip (Rs.namesL f r out).2)
  | 0, _, _ => rfl
  | f + 1, r, out => by
    unfold Rs.namesL
    rw [st_is]
    split
    · rw [st_name1, st_fresh, st_freshV, st_namesL f]
    · rfl
theorem st_names (r : Rs) : (strip r).names = (r.names.1, strip r.names.2) := by unfold Rs.names; rw [st_len, st_fresh, st_freshV, st_namesL]
theorem st_rowR (r : Rs) : (strip r).rowR = strip r.rowR := by unfold Rs.rowR; rw [st_is]; split; exact st_want r.step _; rfl
theorem st_kindV (r : Rs) : (strip r).kindV = r.kindV := by unfold Rs.kindV; rw [st_is, st_is, st_step, st_is, st_fresh, st_is, st_freshV]
theorem st_kind (r : Rs) : (strip r).kind = strip r.kind := by
  unfold Rs.kind
  rw [st_is, st_is, st_step, st_fresh]
  split
  · rfl
  · split
    · exact st_rowR _
    · exact st_rowR _
theorem st_param1 (r : Rs) (k : Int) : (strip r).param1 k = strip (r.param1 k) := by unfold Rs.param1; rw [st_step, st_free, st_is, st_is]; split; exact st_room _ _ _; rfl
theorem st_paramsL : ∀ (f : Nat) (r : Rs) (out : List Ty), Rs.paramsL f (strip r) out = ((Rs.paramsL f r out).1, strip (Rs.paramsL f r out).2)
  | 0, _, _ => rfl
  | f + 1, r, out => by
    unfold Rs.paramsL
    rw [st_is]
    split
    · rw [st_param1, st_kind, st_kindV, st_paramsL f]
    · rfl
theorem st_params (r : Rs) : (strip r).params = (r.params.1, strip r.params.2) := by
  unfold Rs.params
  rw [st_want, st_is, st_len, st_kind, st_kindV, st_paramsL]
  split
  · rfl
  · simp only [st_want]
theorem st_isOp (r : Rs) : (strip r).isOp = r.isOp := by unfold Rs.isOp; rw [st_next]; rfl
theorem st_in1 (r : Rs) (k : Int) : (strip r).in1 k = strip (r.in1 k) := by unfold Rs.in1; rw [st_room, st_next]; exact st_want _ _
theorem st_in2 (r : Rs) (o : Int) : (strip r).in2 o = strip (r.in2 o) := by unfold Rs.in2; split; exact st_num _ _ _; rfl
theorem st_in2V (r : Rs) (o : Int) : (strip r).in2V o = r.in2V o := by unfold Rs.in2V; split; exact st_numV _ _ _; rfl
theorem st_in3 (r : Rs) (b : Bool) : (strip r).in3 b = strip (r.in3 b) := by unfold Rs.in3; split; exact st_fresh _; rfl
theorem st_in3V (r : Rs) (b : Bool) : (strip r).in3V b = r.in3V b := by unfold Rs.in3V; split; exact st_freshV _; rfl
theorem st_instr (r : Rs) (k : Int) : (strip r).instr k = ((r.instr k).1, strip (r.instr k).2) := by
  unfold Rs.instr Rs.inVal Rs.inArgs
  rw [st_in1, st_next]
  simp only [un0, st_in2, st_in2V, st_in3, st_in3V, st_want]
  rfl
theorem st_codeL : ∀ (f : Nat) (r : Rs) (out : List Ins), Rs.codeL f (strip r) out = ((Rs.codeL f r out).1, strip (Rs.codeL f r out).2)
  | 0, _, _ => rfl
  | f + 1, r, out => by
    unfold Rs.codeL
    rw [st_isOp]
    split
    · rw [st_instr, st_codeL f]
    · rfl
theorem st_ca1 (r : Rs) (k : Int) : (strip r).ca1 k = strip (r.ca1 k) := by unfold Rs.ca1; rw [st_room]; exact st_want _ _
theorem st_catV (r : Rs) : (strip r).catV = r.catV := by unfold Rs.catV; simp only [st_freshV, st_fresh, st_num, st_numV]
theorem st_catR (r : Rs) : (strip r).catR = strip r.catR := by unfold Rs.catR; simp only [st_fresh, st_num, st_want]
theorem st_catchL : ∀ (f : Nat) (r : Rs) (out : List Cat), Rs.catchL f (strip r) out = ((Rs.catchL f r out).1, strip (Rs.catchL f r out).2)
  | 0, _, _ => rfl
  | f + 1, r, out => by
    unfold Rs.catchL
    rw [st_is]
    split
    · rw [st_ca1, st_catR, st_catV, st_catchL f]
    · rfl
theorem st_bo1 (r : Rs) : (strip r).bo1 = strip r.bo1 := by unfold Rs.bo1; simp only [st_want, st_num]
theorem st_boCode (r : Rs) : (strip r).boCode = (r.boCode.1, strip r.boCode.2) := by unfold Rs.boCode; rw [st_len, st_bo1, st_codeL]
theorem st_boCat (r : Rs) : (strip r).boCat = (r.boCat.1, strip r.boCat.2) := by unfold Rs.boCat; rw [st_len, st_boCode]; exact st_catchL _ _ _
theorem st_body (r : Rs) : (strip r).body = strip r.body := by unfold Rs.body; rw [st_boCat]; exact st_want _ _
theorem st_bodyV (r : Rs) (m : Meth) : (strip r).bodyV m = r.bodyV m := by unfold Rs.bodyV; rw [st_want, st_numV, st_boCode, st_boCat]
theorem st_mfV (r : Rs) (s : Bool) : (strip r).mfV s = r.mfV s := by unfold Rs.mfV; simp only [st_freshV, st_fresh, st_want, st_kindV]
theorem st_mfR (r : Rs) : (strip r).mfR = strip r.mfR := by unfold Rs.mfR; simp only [st_fresh, st_want, st_kind]
theorem st_mm1 (r : Rs) : (strip r).mm1 = strip r.mm1 := by unfold Rs.mm1; rw [st_fresh, st_params]; exact st_kind _
theorem st_mm1V (r : Rs) (s : Bool) : (strip r).mm1V s = r.mm1V s := by unfold Rs.mm1V; rw [st_freshV, st_mm1, st_is, st_fresh, st_params]; simp only [st_kindV]
theorem st_mmV (r : Rs) (s : Bool) : (strip r).mmV s = r.mmV s := by unfold Rs.mmV; rw [st_mm1, st_is, st_mm1V, st_bodyV]
theorem st_mmR (r : Rs) : (strip r).mmR = strip r.mmR := by unfold Rs.mmR; rw [st_mm1, st_is, st_body]; split <;> rfl
theorem st_memF (r : Rs) (k : Int) : (strip r).memF k = strip (r.memF k) := by unfold Rs.memF; rw [st_room, st_next]; exact st_want _ _
theorem st_member (r : Rs) (c : Cls) : (strip r).member c = ((r.member c).1, strip (r.member c).2) := by
  unfold Rs.member
  rw [st_next]
  simp only [un0, st_memF, st_mfV, st_mfR, st_mmV, st_mmR, st_fail]
  split
  · rfl
  · split <;> rfl
theorem st_clsL : ∀ (f : Nat) (r : Rs) (c : Cls), Rs.clsL f (strip r) c = ((Rs.clsL f r c).1, strip (Rs.clsL f r c).2)
  | 0, _, _ => rfl
  | f + 1, r, c => by
    unfold Rs.clsL
    rw [st_e, st_is, st_member, st_clsL f]
    split
    · split <;> rfl
    · rfl
theorem st_cl1 (r : Rs) (k : Int) : (strip r).cl1 k = strip (r.cl1 k) := by
  unfold Rs.cl1
  rw [st_is, st_is, st_room]
  split <;> exact st_want _ _
theorem st_ex1 (r : Rs) (b : Bool) : (strip r).ex1 b = ((r.ex1 b).1, strip (r.ex1 b).2) := by
  unfold Rs.ex1
  rw [st_is, st_step, st_names, st_fresh, st_freshV]
  split
  · split <;> rfl
  · rfl
theorem st_ex2 (r : Rs) (b : Bool) (l : List ByteArray) : (strip r).ex2 b l = ((r.ex2 b l).1, strip (r.ex2 b l).2) := by
  unfold Rs.ex2
  rw [st_is, st_step, st_names]
  split <;> rfl
theorem st_clV (r : Rs) (k : Int) : (strip r).clV k = r.clV k := by
  unfold Rs.clV
  rw [st_cl1, st_is, st_freshV, st_fresh, st_ex1]
  simp only [st_ex2]
theorem st_clR (r : Rs) (k : Int) : (strip r).clR k = strip (r.clR k) := by
  unfold Rs.clR
  rw [st_cl1, st_is, st_fresh, st_ex1]
  simp only [st_ex2, st_want]
theorem st_class (r : Rs) (k : Int) : (strip r).class' k = ((r.class' k).1, strip (r.class' k).2) := by unfold Rs.class'; rw [st_len, st_clR, st_clV, st_clsL]
theorem st_prgL : ∀ (f : Nat) (r : Rs) (out : List Cls), Rs.prgL f (strip r) out = ((Rs.prgL f r out).1, strip (Rs.prgL f r out).2)
  | 0, _, _ => rfl
  | f + 1, r, out => by
    unfold Rs.prgL
    rw [st_e, st_i, st_len]
    split
    · rw [st_class, st_prgL f]
    · rfl
theorem s3_un0 {l m : List Tok} (h : l.map s3 = m.map s3) : l.map un0 = m.map un0 := by
  have e : ∀ k : List Tok, k.map un0 = (k.map s3).map fun x => (x.1, x.2.1, x.2.2, 0) := fun k => by rw [List.map_map]; rfl
  rw [e, e, h]
/-- the words alone tell the program -/
theorem parse_same {b c : List UInt8} {l m : List Tok} (hb : scanF b = (l, 0, 0)) (hc : scanF c = (m, 0, 0)) (h : l.map s3 = m.map s3) : (parseF b).1 = (parseF c).1 ∧ (parseF b).2.2 = (parseF c).2.2 := by
  have hlen : l.length = m.length := by have := congrArg List.length h; simpa using this
  have hst : strip (parse0 b) = strip (parse0 c) := by
    unfold strip parse0
    rw [hb, hc]
    simp only
    rw [s3_un0 h]
  have e1 := st_prgL (l.length + 2) (parse0 b) []
  have e2 := st_prgL (l.length + 2) (parse0 c) []
  rw [hst, e2] at e1
  obtain ⟨f1, f2⟩ := Prod.mk.inj e1
  have g2 := congrArg Rs.e f2
  have f2 : (Rs.prgL (l.length + 2) (parse0 c) []).2.e = (Rs.prgL (l.length + 2) (parse0 b) []).2.e := g2
  have q1 : parseF b = if (Rs.prgL (l.length + 2) (parse0 b) []).2.e = 0 then ((Rs.prgL (l.length + 2) (parse0 b) []).1, 0, 0) else ([], (Rs.prgL (l.length + 2) (parse0 b) []).2.at', (Rs.prgL (l.length + 2) (parse0 b) []).2.e) := by
    unfold parseF; rw [hb]; exact if_pos rfl
  have q2 : parseF c = if (Rs.prgL (l.length + 2) (parse0 c) []).2.e = 0 then ((Rs.prgL (l.length + 2) (parse0 c) []).1, 0, 0) else ([], (Rs.prgL (l.length + 2) (parse0 c) []).2.at', (Rs.prgL (l.length + 2) (parse0 c) []).2.e) := by
    unfold parseF; rw [hc]; simp only; rw [← hlen]; exact if_pos True.intro
  rw [q1, q2, f1, f2]
  split
  · exact ⟨rfl, rfl⟩
  · exact ⟨rfl, rfl⟩
theorem tok_wd {s : List UInt8} (i : Nat) (h : (tokenF s).2 = true) : wdS (setAt (tokenF s).1 i) = s ∧ wdOk (setAt (tokenF s).1 i) = true := by
  have key : wdS (setAt (tokenF s).1 i) = s := by
    rcases tok_cases h with ⟨m, e, hm⟩ | hn | ⟨h2, h3⟩
    · rw [e, tok_num hm]; rfl
    · rw [tok_name hn]; simp [wdS, setAt, txt]
    · rw [tok_sign h2 h3]; simp [wdS, setAt, txt]
  refine ⟨key, ?_⟩
  unfold wdOk
  rw [key, h]; simp [setAt]
def chain (b : List UInt8) : Nat → List (Int × ByteArray × Int × Int) → Prop
  | _, [] => True
  | e, t :: r => ∃ a : Nat, t.2.2.2 = (a : Int) ∧ e ≤ a ∧ a + (wdS t).length ≤ b.length ∧ (b.drop a).take (wdS t).length = wdS t ∧ wdOk t = true ∧ chain b (a + (wdS t).length) r
theorem chain_le (b : List UInt8) : ∀ (l : List (Int × ByteArray × Int × Int)) (e f : Nat), f ≤ e → chain b e l → chain b f l
  | [], _, _, _, _ => trivial
  | t :: r, e, f, h, ⟨a, h1, h2, h3⟩ => ⟨a, h1, by omega, h3⟩
theorem chain_scan (b : List UInt8) : ∀ (f i : Nat), i ≤ b.length → chain b i (scanL f i (b.drop i)).1 ∧ ∀ x, (scanL f i (b.drop i)).2 = some x → x ≤ b.length := by
  intro f
  induction f with
  | zero =>
    intro i hi
    cases hd : b.drop i with
    | nil => exact ⟨trivial, fun x hx => by cases hx⟩
    | cons c r => exact ⟨trivial, fun x hx => by cases hx; exact hi⟩
  | succ f ih =>
    intro i hi
    cases hd : b.drop i with
    | nil => exact ⟨trivial, fun x hx => by cases hx⟩
    | cons c r =>
      have hlen : (b.drop i).length = b.length - i := List.length_drop ..
      have hlt : i < b.length := by rw [hd] at hlen; simp at hlen; omega
      have hr : b.drop (i + 1) = r := by rw [← List.drop_drop, hd]; rfl
      simp only [scanL]
      split
      · have := ih (i + 1) hlt
        rw [hr] at this
        exact ⟨chain_le b _ _ _ (Nat.le_succ i) this.1, this.2⟩
      · split
        · rename_i ht
          have hwl := wordF_le (c :: r)
          rw [← hd, hlen] at hwl
          have hdw : b.drop (i + wordF (b.drop i)) = (b.drop i).drop (wordF (b.drop i)) := by rw [List.drop_drop]
          have := ih (i + wordF (b.drop i)) (by omega)
          rw [hdw] at this
          rw [hd] at this hwl
          obtain ⟨k1, k2⟩ := tok_wd i ht
          have hl2 : (wdS (setAt (tokenF ((c :: r).take (wordF (c :: r)))).1 i)).length = wordF (c :: r) := by
            rw [k1, List.length_take, ← hd, hlen]; rw [hd]; omega
          refine ⟨⟨i, rfl, Nat.le_refl _, by rw [hl2]; omega, by rw [hl2, hd, k1], k2, by rw [hl2]; exact this.1⟩, this.2⟩
        · exact ⟨trivial, fun x hx => by cases hx; exact hi⟩
theorem chain_F (b : List UInt8) : chain b 0 (scanF b).1 := by
  unfold scanF
  split
  · exact trivial
  · have := (chain_scan b b.length 0 (Nat.zero_le _)).1
    rw [List.drop_zero] at this
    cases hc : (scanI 0 b).2 with
    | none => exact this
    | some x => exact trivial
theorem chain_len (b : List UInt8) : ∀ (l : List (Int × ByteArray × Int × Int)) (e : Nat), chain b e l → l = [] ∨ e + l.length ≤ b.length
  | [], _, _ => .inl rfl
  | t :: r, e, ⟨a, h1, h2, h3, h4, h5, h6⟩ => by
    have hw := wd_len h5
    right
    rcases chain_len b r _ h6 with rfl | h
    · simp; omega
    · simp only [List.length_cons]; omega
theorem scan_res (b : List UInt8) : (scanF b).2 = (0, 0) ∨ ((scanF b).1 = [] ∧ (scanF b).2.2 ≠ 0 ∧ 0 ≤ (scanF b).2.1 ∧ (scanF b).2.1 ≤ (b.length : Int)) := by
  unfold scanF
  split
  · exact .inr ⟨rfl, (by decide), (by show (0 : Int) ≤ 0; omega), (by show (0 : Int) ≤ b.length; omega)⟩
  · have := (chain_scan b b.length 0 (Nat.zero_le _)).2
    rw [List.drop_zero] at this
    cases hc : (scanI 0 b).2 with
    | none => exact .inl rfl
    | some x =>
      have := this x hc
      exact .inr ⟨rfl, (by show (3 : Int) ≠ 0; decide), (by show (0 : Int) ≤ (x : Int); omega), (by show (x : Int) ≤ b.length; omega)⟩
theorem ok_wdP {t : Int × ByteArray × Int × Int} (h : wdOk t = true) : okT t := by
  have e := wd_tok h
  have hc := tok_cases (w := wdS t) (by rw [e])
  unfold okT
  rcases hc with ⟨m, e1, hm⟩ | hn | ⟨h2, h3⟩
  · rw [e1, tok_num hm] at e
    have e2 : (2, (⟨#[]⟩ : ByteArray), m, (0 : Int)) = (t.1, t.2.1, t.2.2.1, 0) := congrArg Prod.fst e
    have h4 : m = t.2.2.1 := congrArg (fun x => x.2.2.1) e2
    have h5 : (⟨#[]⟩ : ByteArray) = t.2.1 := congrArg (fun x => x.2.1) e2
    have := hm.1
    have := hm.2
    rw [← h4, ← h5]
    exact ⟨by omega, by omega, by decide⟩
  · rw [tok_name hn] at e
    have e2 : (1, txt (wdS t), (0 : Int), (0 : Int)) = (t.1, t.2.1, t.2.2.1, 0) := congrArg Prod.fst e
    have h4 : 0 = t.2.2.1 := congrArg (fun x => x.2.2.1) e2
    have h5 : txt (wdS t) = t.2.1 := congrArg (fun x => x.2.1) e2
    have h6 : (txt (wdS t)).size = (wdS t).length := size_txt _
    have h7 := (wd_len h).1
    rw [← h4, ← h5, h6]
    exact ⟨by omega, by omega, by omega⟩
  · rw [tok_sign h2 h3] at e
    have e2 : (3, txt (wdS t), (0 : Int), (0 : Int)) = (t.1, t.2.1, t.2.2.1, 0) := congrArg Prod.fst e
    have h4 : 0 = t.2.2.1 := congrArg (fun x => x.2.2.1) e2
    have h5 : txt (wdS t) = t.2.1 := congrArg (fun x => x.2.1) e2
    have h6 : (txt (wdS t)).size = (wdS t).length := size_txt _
    have h7 := (wd_len h).1
    rw [← h4, ← h5, h6]
    exact ⟨by omega, by omega, by omega⟩
theorem chain_wd (b : List UInt8) : ∀ (l : List (Int × ByteArray × Int × Int)) (e : Nat), chain b e l → ∀ t ∈ l, wdOk t = true
  | [], _, _, t, h => by cases h
  | t :: r, e, ⟨a, h1, h2, h3, h4, h5, h6⟩, u, hu => by
    rcases List.mem_cons.1 hu with rfl | q
    · exact h5
    · exact chain_wd b r _ h6 u q
theorem scan_wd (b : List UInt8) : (scanF b).1.all wdOk = true := List.all_eq_true.2 (chain_wd b _ 0 (chain_F b))
theorem scan_okT (b : List UInt8) : ∀ t ∈ (scanF b).1, okT t := fun t ht => ok_wdP (chain_wd b _ 0 (chain_F b) t ht)
theorem placeF_s3 : ∀ (i : Nat) (l : List Tok), (placeF i l).map s3 = l.map s3
  | _, [] => rfl
  | i, t :: r => by simp only [placeF, List.map_cons]; rw [placeF_s3 _ r]; rfl
/-- the words of a text, joined, parse as the text -/
theorem parse_words {b : List UInt8} (h : (scanF b).2.2 = 0) (hl : (Lib.join ((scanF b).1.map wdS) [32]).length ≤ 6000) :
    (parseF b).1 = (parseF (Lib.join ((scanF b).1.map wdS) [32])).1 ∧ (parseF b).2.2 = (parseF (Lib.join ((scanF b).1.map wdS) [32])).2.2 := by
  have h1 : scanF b = ((scanF b).1, 0, 0) := by
    rcases scan_res b with q | q
    · exact Prod.ext rfl q
    · exact absurd h q.2.1
  have h2 : scanF (Lib.join ((scanF b).1.map wdS) [32]) = (placeF 0 (scanF b).1, 0, 0) := by
    have := scan_all _ (scan_wd b)
    generalize Lib.join ((scanF b).1.map wdS) [32] = c at this hl ⊢
    generalize placeF 0 (scanF b).1 = m at this ⊢
    unfold scanF
    rw [if_neg (by omega), this]
  exact parse_same h1 h2 (placeF_s3 _ _).symm
theorem namesL_len : ∀ (f : Nat) (r : Rs) (out : List ByteArray), (Rs.namesL f r out).1.length ≤ out.length + f
  | 0, _, _ => Nat.le_refl _
  | f + 1, r, out => by
    unfold Rs.namesL
    split
    · have := namesL_len f (r.name1 out.length).fresh (out ++ [(r.name1 out.length).freshV])
      rw [List.length_append, List.length_singleton] at this
      omega
    · show out.length ≤ _; omega
theorem paramsL_len : ∀ (f : Nat) (r : Rs) (out : List Ty), (Rs.paramsL f r out).1.length ≤ out.length + f
  | 0, _, _ => Nat.le_refl _
  | f + 1, r, out => by
    unfold Rs.paramsL
    split
    · have := paramsL_len f (r.param1 out.length).kind (out ++ [(r.param1 out.length).kindV])
      rw [List.length_append, List.length_singleton] at this
      omega
    · show out.length ≤ _; omega
theorem codeL_len : ∀ (f : Nat) (r : Rs) (out : List Ins), (Rs.codeL f r out).1.length ≤ out.length + f
  | 0, _, _ => Nat.le_refl _
  | f + 1, r, out => by
    unfold Rs.codeL
    split
    · have := codeL_len f (r.instr out.length).2 (out ++ [(r.instr out.length).1])
      rw [List.length_append, List.length_singleton] at this
      omega
    · show out.length ≤ _; omega
theorem catchL_len : ∀ (f : Nat) (r : Rs) (out : List Cat), (Rs.catchL f r out).1.length ≤ out.length + f
  | 0, _, _ => Nat.le_refl _
  | f + 1, r, out => by
    unfold Rs.catchL
    split
    · have := catchL_len f (r.ca1 out.length).catR (out ++ [(r.ca1 out.length).catV])
      rw [List.length_append, List.length_singleton] at this
      omega
    · show out.length ≤ _; omega
theorem names_len (r : Rs) : r.names.1.length ≤ r.L.length + 3 := by
  unfold Rs.names
  have := namesL_len (r.L.length + 2) r.fresh [r.freshV]
  rw [List.length_singleton] at this
  omega
theorem params_len (r : Rs) : r.params.1.length ≤ r.L.length + 3 := by
  unfold Rs.params
  split
  · show 0 ≤ _; omega
  · have := paramsL_len (r.L.length + 2) (r.want wLp).kind [(r.want wLp).kindV]
    rw [List.length_singleton] at this
    show (Rs.paramsL (r.L.length + 2) (r.want wLp).kind [(r.want wLp).kindV]).1.length ≤ _
    omega
theorem mmV_len (r : Rs) (s : Bool) (h : r.L.length + 10 ≤ LB) : mLen (r.mmV s) := by
  have h0 := params_len r.fresh
  rw [(Rs.fresh_fwd r).L] at h0
  have h1 := codeL_len (r.mm1.L.length + 2) r.mm1.bo1 []
  have h2 := catchL_len (r.mm1.L.length + 2) r.mm1.boCode.2 []
  rw [(Rs.mm1_fwd r).L, List.length_nil] at h1 h2
  unfold Rs.mmV
  split
  · exact ⟨by show r.fresh.params.1.length ≤ _; omega, by show 0 ≤ _; omega, by show 0 ≤ _; omega⟩
  · refine ⟨by show r.fresh.params.1.length ≤ _; omega, ?_, ?_⟩
    · show (Rs.codeL (r.mm1.L.length + 2) r.mm1.bo1 []).1.length ≤ _
      rw [(Rs.mm1_fwd r).L]; omega
    · show (Rs.catchL (r.mm1.L.length + 2) r.mm1.boCode.2 []).1.length ≤ _
      rw [(Rs.mm1_fwd r).L]; omega
theorem clsL_len : ∀ (f : Nat) (r : Rs) (c : Cls), r.L.length + 10 ≤ LB → c.ifaces.length ≤ LB → c.fields.length + f ≤ LB → c.methods.length + f ≤ LB → (∀ m ∈ c.methods, mLen m) → cLen (Rs.clsL f r c).1
  | 0, _, _, _, h1, h2, h3, h4 => ⟨h1, Nat.le_trans (Nat.le_add_right _ 0) h2, Nat.le_trans (Nat.le_add_right _ 0) h3, h4⟩
  | f + 1, r, c, h, h1, h2, h3, h4 => by
    unfold Rs.clsL
    split
    · split
      · exact ⟨h1, by show c.fields.length ≤ _; omega, by show c.methods.length ≤ _; omega, h4⟩
      · have hL := (Rs.member_fwd r c).L
        refine clsL_len f _ _ (by rw [hL]; exact h) ?_ ?_ ?_ ?_
        all_goals unfold Rs.member
        · split
          · exact h1
          · split <;> exact h1
        · split
          · show (c.fields ++ [_]).length + f ≤ _
            rw [List.length_append, List.length_singleton]; omega
          · split
            · show c.fields.length + f ≤ _; omega
            · show c.fields.length + f ≤ _; omega
        · split
          · show c.methods.length + f ≤ _; omega
          · split
            · show (c.methods ++ [_]).length + f ≤ _
              rw [List.length_append, List.length_singleton]; omega
            · show c.methods.length + f ≤ _; omega
        · split
          · exact h4
          · split
            · intro m hm
              rcases List.mem_append.1 hm with q | q
              · exact h4 m q
              · rw [List.mem_singleton.1 q]
                exact mmV_len _ _ (by rw [(Rs.memF_fwd r _).L]; exact h)
            · exact h4
    · exact ⟨h1, by show c.fields.length ≤ _; omega, by show c.methods.length ≤ _; omega, h4⟩
theorem class_len (r : Rs) (k : Int) (h : r.L.length + 10 ≤ LB) : cLen (r.class' k).1 := by
  have e1 : (r.cl1 k).fresh.L = r.L := (Rs.fresh_fwd _).L.trans (Rs.cl1_fwd r k).L
  have e2 : ((r.cl1 k).fresh.ex1 (r.is wInterface)).2.L = r.L := (Rs.ex1_fwd _ _).L.trans e1
  have e3 : (r.clR k).L = r.L := (Rs.want_fwd _ _).L.trans ((Rs.ex2_fwd _ _ _).L.trans e2)
  have hx : ∀ b, ((r.cl1 k).fresh.ex1 b).1.2.length ≤ LB := by
    intro b
    unfold Rs.ex1
    split
    · split
      · have := names_len (r.cl1 k).fresh.step
        have e4 : (r.cl1 k).fresh.step.L = r.L := e1
        rw [e4] at this
        show (r.cl1 k).fresh.step.names.1.length ≤ _; omega
      · show 0 ≤ _; omega
    · show 0 ≤ _; omega
  unfold Rs.class'
  refine clsL_len _ _ _ (by rw [e3]; exact h) ?_ (by show 0 + _ ≤ _; omega) (by show 0 + _ ≤ _; omega) (fun m hm => by cases hm)
  show ((((r.cl1 k).fresh.ex1 (r.is wInterface)).2.ex2 (r.is wInterface) ((r.cl1 k).fresh.ex1 (r.is wInterface)).1.2).1).length ≤ LB
  unfold Rs.ex2
  split
  · have := names_len ((r.cl1 k).fresh.ex1 (r.is wInterface)).2.step
    have e4 : ((r.cl1 k).fresh.ex1 (r.is wInterface)).2.step.L = r.L := e2
    rw [e4] at this
    omega
  · exact hx _
theorem prgL_len : ∀ (f : Nat) (r : Rs) (out : List Cls), r.L.length + 10 ≤ LB → out.length + f ≤ LB → (∀ c ∈ out, cLen c) → pLen (Rs.prgL f r out).1
  | 0, _, _, _, h2, h3 => ⟨Nat.le_trans (Nat.le_add_right _ 0) h2, h3⟩
  | f + 1, r, out, h, h2, h3 => by
    unfold Rs.prgL
    split
    · refine prgL_len f _ _ (by rw [(Rs.class_fwd r _).L]; exact h) (by rw [List.length_append, List.length_singleton]; omega) (fun c hc => ?_)
      rcases List.mem_append.1 hc with q | q
      · exact h3 c q
      · rw [List.mem_singleton.1 q]; exact class_len r _ h
    · exact ⟨by show out.length ≤ _; omega, h3⟩
theorem parse_len (b : List UInt8) : pLen (parseF b).1 := by
  have hk := scan_count b
  unfold parseF
  split
  · split
    · exact prgL_len _ _ _ (by show (scanF b).1.length + 10 ≤ 4611686018427387904; omega) (by show 0 + _ ≤ 4611686018427387904; omega) (fun c hc => by cases hc)
    · exact ⟨Nat.zero_le _, fun c hc => by cases hc⟩
  · exact ⟨Nat.zero_le _, fun c hc => by cases hc⟩
theorem lens_max (k : Nat) (l : List (Int × ByteArray × Int × Int)) (h : l.all wdOk = true) : (Lib.join (l.map wdS) [32]).length ≤ 21 * l.length := by
  have hb := lens_le 20 (l.map wdS) (fun x hx => by
    obtain ⟨t, ht, rfl⟩ := List.mem_map.1 hx
    exact (wd_len (List.all_eq_true.1 h t ht)).1)
  simp only [List.length_map] at hb
  have tl : ∀ r : List (List UInt8), (Lib.joinTail [32] r).length = Lib.lens r + r.length := by
    intro r
    induction r with
    | nil => rfl
    | cons y r ih =>
      simp only [Lib.joinTail, List.map_cons, List.flatten_cons, List.length_append, Lib.lens, List.sum_cons, List.length_cons] at *
      simp only [List.length_nil]
      omega
  have key : ∀ m : List (List UInt8), (Lib.join m [32]).length ≤ Lib.lens m + m.length := by
    intro m
    cases m with
    | nil => simp [Lib.join_nil]
    | cons x r =>
      rw [Lib.join_cons]
      simp only [List.length_append, tl, Lib.lens, List.map_cons, List.sum_cons, List.length_cons]
      omega
  have := key (l.map wdS)
  simp only [List.length_map] at this
  omega
def ParseBlanks : Ctr := { A := List UInt8, enc := fun b => [.row UInt8 1 byteC 0 b], dom := fun b => True, res := fun _ _ => .tt, gl := tabP }
set_option maxRecDepth 100000 in
set_option maxHeartbeats 4000000 in
theorem ParseBlanks_ok : CtrSound Tryd.prog 9 ParseBlanks :=
  ctr_of_ax (env_okB tys_ok (eqs := []) trivial (cs := [(25, scanC), (26, ljoinC), (16, parseC), (27, kPrg), (15, lC)]) ⟨scan_ok, ljoin_ok, parse_ok, kPrg_ok, wakesP_ok, trivial⟩ (bs := []) trivial (gl := tabP)) mixed _ Tryd.func9 (by kernel_rfl) rfl (fun _ _ => Nat.le_of_ble_eq_true rfl) fun (b : List UInt8) id hd => by
    refine ⟨fun h => ⟨.refl _, rfl⟩, fun h => ?_⟩
    have hlb : b.length ≤ 7000 := by have := of_decide_eq_false h; omega
    refine ⟨b, ⟨.refl _, trivial⟩, rfl, (show b.length ≤ 4611686018427387904 by omega), ?_⟩
    have hw := scan_wd b
    have hc := scan_count b
    have hlen := lens_max 0 _ hw
    have hj : joinF (scanF b).1 = (Lib.join ((scanF b).1.map wdS) [32], 0) := by unfold joinF; exact if_pos hw
    have j1 : (joinF (scanF b).1).2 = 0 := by rw [hj]
    have j2 : (joinF (scanF b).1).1 = Lib.join ((scanF b).1.map wdS) [32] := by rw [hj]
    have hpw := @parse_words b
    rw [← j2] at hlen hpw
    refine ⟨fun h => ?_, fun h => ?_⟩
    · refine ⟨(), trivial, rfl, trivial, ?_⟩
      exact ⟨.refl _, rfl⟩
    have he : (scanF b).2.2 = 0 := by simpa using h
    refine ⟨(scanF b).1, ⟨.own .., trivial⟩, rfl, (show (scanF b).1.length ≤ 100000 ∧ ∀ t ∈ (scanF b).1, okT t from ⟨by omega, scan_okT b⟩), ?_⟩
    refine ⟨fun h => absurd h (by rw [j1]; decide), fun _ => ?_⟩
    refine ⟨fun h => ?_, fun h => ?_⟩
    · refine ⟨(), trivial, rfl, trivial, ?_⟩
      exact ⟨.refl _, rfl⟩
    have hl : (joinF (scanF b).1).1.length ≤ 6000 := by have := of_decide_eq_false h; omega
    obtain ⟨g1, g2⟩ := hpw he hl
    refine ⟨b, ⟨.refl _, trivial⟩, rfl, (show b.length ≤ 4611686018427387904 by omega), ?_⟩
    refine ⟨(joinF (scanF b).1).1, ⟨.own .., trivial⟩, rfl, (show (joinF (scanF b).1).1.length ≤ 4611686018427387904 by omega), ?_⟩
    have q1 : (parseF b).2.2 == (parseF (joinF (scanF b).1).1).2.2 := by rw [g2]; simp
    refine ⟨fun h => ?_, fun h => absurd (show ((parseF b).2.2 == (parseF (joinF (scanF b).1).1).2.2) = false from h) (by rw [q1]; decide)⟩
    refine ⟨((parseF b).1, (parseF (joinF (scanF b).1).1).1), ⟨.refl _, .refl _, trivial⟩, rfl, ⟨parse_len _, parse_len _⟩, ?_⟩
    refine ⟨fun h => ?_, fun h => absurd (show decide ((parseF b).1 = (parseF (joinF (scanF b).1).1).1) = false from h) (by rw [decide_eq_true g1]; decide)⟩
    refine ⟨(), trivial, rfl, trivial, ?_⟩
    exact ⟨.refl _, rfl⟩
end Go.Proofs.YtimhbimpaiiceaaDoor.Ax
