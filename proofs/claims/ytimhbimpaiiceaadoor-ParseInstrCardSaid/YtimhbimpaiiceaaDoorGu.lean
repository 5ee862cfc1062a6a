/- Layer parse: ParseInstr. -/
import Derived.Test.YtimhbimpaiiceaaDoorGn
set_option linter.unusedVariables false
set_option linter.unusedSimpArgs false
namespace Go.Proofs.YtimhbimpaiiceaaDoor.Ax
open Go Go.RowKit
def codeH (x : Ins) : List ByteArray := [wordF2 x.op] ++ ((if (numsF x.op).2.2 then [dig x.n] else []) ++ ((if x.a = noS then [] else [x.a]) ++ (if x.b = noS then [] else [x.b])))
theorem code_H (x : Ins) : codeF x = codeH x ++ [wSemi] := by simp [codeF, codeH]
def iCls (x : Ins) : Cls := ⟨⟨#[65]⟩, false, noS, [], [], [⟨⟨#[109]⟩, false, false, [], (1, noS), 1, [x], []⟩]⟩
def iHead : List ByteArray := [wClass, ⟨#[65]⟩, wLc, wMethod, ⟨#[109]⟩, wLp, wRp, wVoid, wLocals, dig 1, wLc]
theorem iWords (x : Ins) : wordsC (iCls x) = iHead ++ (codeH x ++ [wSemi, wRc, wRc]) := by
  simp [wordsC, iCls, iHead, listF, doesF, paramsF, code_H, kindW, kindF, noS, wVoid]
theorem iCls_ok {x : Ins} (h : insOk x = true) : prgOk [iCls x] = true := by
  have a : freshW ⟨#[65]⟩ = true := by decide +kernel
  have c : freshW ⟨#[109]⟩ = true := by decide +kernel
  have d : tyOk (1, noS) = true := by decide +kernel
  have e : methOk ⟨⟨#[109]⟩, false, false, [], (1, noS), 1, [x], []⟩ = true := by
    unfold methOk
    simp only [c, d, h, List.all_cons, List.all_nil, Bool.and_self]
    rfl
  have f : clsOk (iCls x) = true := by
    unfold clsOk iCls
    simp only [a, e, List.all_cons, List.all_nil, Bool.and_self]
    rfl
  unfold prgOk
  simp only [f, List.all_cons, List.all_nil, Bool.and_self]
  rfl
/-- a word that is not wanted -/
theorem want_bad {r : Rs} {ts : List T3} {w : ByteArray} (h : At r ts) (hn : noW ts w) : (r.want w).e = 4 := by
  unfold Rs.want Rs.fail
  rw [if_neg (by rw [at_noW h hn]; decide), if_pos h.e]
theorem instr_bad {x : Ins} {r : Rs} {ts : List T3} (hx : insOk x = true) (h : At r (tks (codeH x) ++ ts)) (hn : noW ts wSemi) : r.isOp = true ∧ (r.instr 0).2.e = 4 := by
  obtain ⟨h1, h2, h3, h4, h5, h6⟩ := ins_parts hx
  have h : At r (tokT (wordF2 x.op) :: (tks (if (numsF x.op).2.2 then [dig x.n] else []) ++ (tks (if x.a = noS then [] else [x.a]) ++ (tks (if x.b = noS then [] else [x.b]) ++ ts)))) := by
    have := h
    unfold codeH at this
    simpa [tks] using this
  obtain ⟨g1, g2, g3, g4⟩ := at_op h1 h2 h
  obtain ⟨i1, i2⟩ := at_in2 h3 h4 g4
  obtain ⟨j1, j2⟩ := at_in3 h5 i2
  obtain ⟨k1, k2⟩ := at_in3 h6 j2
  refine ⟨g1, ?_⟩
  unfold Rs.instr Rs.in1 Rs.inArgs
  rw [g2, g3, room_lt _ (by decide)]
  exact want_bad k2 hn
theorem stuck {r r' : Rs} (h : r.e = 4) (f : Fwd r r') : r'.e = 4 := by
  have := f.err (by rw [h]; decide)
  rw [this]; exact h
theorem codeL_bad {x : Ins} {r : Rs} {ts : List T3} {f : Nat} (hx : insOk x = true) (h : At r (tks (codeH x) ++ ts)) (hn : noW ts wSemi) : (Rs.codeL (f + 1) r []).2.e = 4 := by
  obtain ⟨g1, g2⟩ := instr_bad hx h hn
  rw [Rs.codeL, if_pos g1]
  exact stuck g2 (Rs.codeL_fwd _ _ _)
theorem T_one : tokT (dig 1) = (2, noS, 1) ∧ tokB (dig 1) = true := num_T ⟨by decide, by decide⟩
theorem T_A : tokT (⟨#[65]⟩ : ByteArray) = (1, ⟨#[65]⟩, 0) ∧ tokB (⟨#[65]⟩ : ByteArray) = true := name_T (by decide +kernel)
theorem T_m : tokT (⟨#[109]⟩ : ByteArray) = (1, ⟨#[109]⟩, 0) ∧ tokB (⟨#[109]⟩ : ByteArray) = true := name_T (by decide +kernel)
theorem prg_bad {x : Ins} {r : Rs} {ts : List T3} {f : Nat} (hx : insOk x = true) (h : At r (tks iHead ++ (tks (codeH x) ++ ts))) (hn : noW ts wSemi) : (Rs.prgL (f + 1) r []).2.e = 4 := by
  have h : At r ((1, wClass, 0) :: (1, ⟨#[65]⟩, 0) :: (3, wLc, 0) :: (1, wMethod, 0) :: (1, ⟨#[109]⟩, 0) :: (3, wLp, 0) :: (3, wRp, 0) :: (1, wVoid, 0) :: (1, wLocals, 0) :: (2, noS, 1) :: (3, wLc, 0) :: (tks (codeH x) ++ ts)) := by
    rw [← T_class.1, ← T_A.1, ← T_lc.1, ← T_method.1, ← T_m.1, ← T_lp.1, ← T_rp.1, ← T_void.1, ← T_locals.1, ← T_one.1]
    exact h
  have hlt := (at_cons h).1
  have hcl : r.is wClass = true := at_yes h (by decide)
  have hif : r.is wInterface = false := at_no h (by decide)
  have e1 : r.cl1 0 = r.want wClass := by
    unfold Rs.cl1
    rw [if_pos (by rw [hcl]; rfl), room_lt _ (by decide), hif]; rfl
  have g1 := at_want h (by decide)
  obtain ⟨-, f2, g2⟩ := at_fresh g1 (by decide +kernel)
  have n1 : (r.want wClass).fresh.is wExtends = false := at_no g2 (by decide)
  have n2 : (r.want wClass).fresh.is wImplements = false := at_no g2 (by decide)
  have x1 : (r.want wClass).fresh.ex1 false = ((noS, []), (r.want wClass).fresh) := by unfold Rs.ex1; rw [if_neg (by rw [n1]; decide)]
  have x2 : (r.want wClass).fresh.ex2 false [] = ([], (r.want wClass).fresh) := by unfold Rs.ex2; rw [if_neg (by rw [n2]; decide)]
  have g3 : At (r.clR 0) ((1, wMethod, 0) :: (1, ⟨#[109]⟩, 0) :: (3, wLp, 0) :: (3, wRp, 0) :: (1, wVoid, 0) :: (1, wLocals, 0) :: (2, noS, 1) :: (3, wLc, 0) :: (tks (codeH x) ++ ts)) := by
    unfold Rs.clR
    rw [e1, hif, x1]
    show At (((r.want wClass).fresh.ex2 false []).2.want wLc) _
    rw [x2]
    exact at_want g2 (by decide)
  -- the member
  have m0 : (r.clR 0).is wRc = false := at_no g3 (by decide)
  have hw := (at_next g3).2.1
  have g4 := at_want g3 (by decide)
  obtain ⟨-, -, g5⟩ := at_fresh g4 (by decide +kernel)
  have g6 := at_want g5 (by decide)
  have hp : (((r.clR 0).want wMethod).fresh).params = ([], (((r.clR 0).want wMethod).fresh.want wLp).step) := by
    unfold Rs.params
    rw [if_pos (at_yes g6 (by decide))]
  have g7 := (at_cons g6).2.2
  have g8 : At ((((r.clR 0).want wMethod).fresh.want wLp).step.kind) ((1, wLocals, 0) :: (2, noS, 1) :: (3, wLc, 0) :: (tks (codeH x) ++ ts)) := by
    unfold Rs.kind
    rw [if_pos (at_yes g7 (by decide))]
    exact (at_cons g7).2.2
  have g9 := at_want g8 (by decide)
  obtain ⟨-, g10⟩ := at_num (lo := 0) (hi := 8) g9 (by decide) (by decide)
  have g11 := at_want g10 (by decide)
  have hs : ((r.clR 0).want wMethod).mm1.is wSemi = false := by
    unfold Rs.mm1
    rw [hp]
    exact at_no g8 (by decide)
  have hb : ((r.clR 0).want wMethod).mmR.e = 4 := by
    unfold Rs.mmR
    rw [if_neg (by rw [hs]; decide)]
    have hm : ((r.clR 0).want wMethod).mm1 = ((((r.clR 0).want wMethod).fresh.want wLp).step.kind) := by
      unfold Rs.mm1; rw [hp]
    rw [hm]
    refine stuck (r := (((((r.clR 0).want wMethod).fresh.want wLp).step.kind)).boCode.2) ?_ ((Rs.catchL_fwd _ _ _).trans (Rs.want_fwd _ _))
    exact codeL_bad hx g11 hn
  have hmem : ∀ c : Cls, c.methods.length = 0 → ((r.clR 0).member c).2.e = 4 := by
    intro c hc
    unfold Rs.member Rs.memF
    rw [if_neg (by rw [hw]; decide), if_pos (.inl hw), hw, hc, room_lt _ (by decide)]
    exact hb
  have hcls : (r.class' 0).2.e = 4 := by
    unfold Rs.class'
    rw [Rs.clsL, if_pos g3.e, if_neg (by rw [m0]; decide)]
    exact stuck (hmem _ rfl) (Rs.clsL_fwd _ _ _)
  rw [Rs.prgL, if_pos ⟨h.e, hlt⟩]
  exact stuck hcls (Rs.prgL_fwd _ _ _)
theorem parse_bad {x : Ins} {ws : List ByteArray} (hx : insOk x = true) (hl : (joinB (iHead ++ (codeH x ++ ws))).length ≤ 6000) (hw : ∀ w ∈ ws, tokB w = true) (hn : noW (tks ws) wSemi) : (parseF (joinB (iHead ++ (codeH x ++ ws)))).2.2 = 4 := by
  have hk : ∀ w ∈ iHead ++ (codeH x ++ ws), tokB w = true := by
    have h1 : Toks (codeH x) := by
      have := code_tok hx
      rw [code_H] at this
      exact fun w h => this w (List.mem_append.2 (.inl h))
    have h2 : Toks iHead := by
      unfold iHead
      exact .cons T_class.2 (.cons T_A.2 (.cons T_lc.2 (.cons T_method.2 (.cons T_m.2 (.cons T_lp.2 (.cons T_rp.2 (.cons T_void.2 (.cons T_locals.2 (.cons T_one.2 (.cons T_lc.2 .nil))))))))))
    exact h2.app (h1.app hw)
  obtain ⟨l, h1, h2⟩ := scan_joinB _ 0 hk
  have hs : scanF (joinB (iHead ++ (codeH x ++ ws))) = (l, 0, 0) := by
    unfold scanF
    rw [if_neg (by omega), h1]
  have hat : At (parse0 (joinB (iHead ++ (codeH x ++ ws)))) (tks iHead ++ (tks (codeH x) ++ tks ws)) := ⟨rfl, by
    show ((scanF (joinB (iHead ++ (codeH x ++ ws)))).1.drop 0).map s3 = _
    rw [hs]
    show l.map s3 = _
    rw [h2]
    simp [tks]⟩
  have := prg_bad (f := (scanF (joinB (iHead ++ (codeH x ++ ws)))).1.length + 1) hx hat hn
  unfold parseF
  rw [if_pos (by rw [hs]), if_neg (by rw [this]; decide)]
  exact this
def shapeF (o : Int) : Int := if o = 1 then 1 else if o = 3 ∨ o = 4 then 2 else if 14 ≤ o ∧ o ≤ 26 then 3 else if o = 27 ∨ o = 33 ∨ o = 37 ∨ o = 38 then 4 else if (28 ≤ o ∧ o ≤ 31) ∨ o = 39 ∨ o = 40 then 5 else 0
theorem shape_is {o k : Int} (h : (k = 1 ∧ o = 1) ∨ (k = 2 ∧ (o = 3 ∨ o = 4)) ∨ (k = 3 ∧ 14 ≤ o ∧ o ≤ 26) ∨ (k = 4 ∧ (o = 27 ∨ o = 33 ∨ o = 37 ∨ o = 38)) ∨ (k = 5 ∧ ((28 ≤ o ∧ o ≤ 31) ∧ o ≠ 27 ∨ o = 39 ∨ o = 40)) ∨
    (k = 0 ∧ o ≠ 1 ∧ o ≠ 3 ∧ o ≠ 4 ∧ ¬ (14 ≤ o ∧ o ≤ 26) ∧ o ≠ 27 ∧ o ≠ 33 ∧ o ≠ 37 ∧ o ≠ 38 ∧ ¬ (28 ≤ o ∧ o ≤ 31) ∧ o ≠ 39 ∧ o ≠ 40)) : k = shapeF o := by
  unfold shapeF
  split
  · omega
  · split
    · omega
    · split
      · omega
      · split
        · omega
        · split <;> omega
def rshapeC : Ctr := { A := Int, enc := fun n => [I n], dom := fun _ => True, res := fun n _ => I (shapeF n) }
set_option maxRecDepth 100000 in
theorem rshape_ok : CtrSound Tryd.prog 20 rshapeC :=
  ctr_of_ax (env_ok tys_ok (eqs := []) trivial (cs := []) trivial) mixed _ Tryd.func20 (by kernel_rfl) rfl (fun _ _ => Nat.le_of_ble_eq_true rfl) fun (o : Int) id _ => by
    refine ⟨fun h => ?_, fun h => ?_⟩
    · have q1 : o = 1 := eqT h
      exact ⟨.int (shape_is (by omega)), rfl⟩
    have q1 : ¬ o = 1 := eqF h
    refine ⟨fun h => ?_, fun h => ?_⟩
    · have q2 : o = 3 := eqT h
      exact ⟨.int (shape_is (by omega)), rfl⟩
    have q2 : ¬ o = 3 := eqF h
    refine ⟨fun h => ?_, fun h => ?_⟩
    · have q3 : o = 4 := eqT h
      exact ⟨.int (shape_is (by omega)), rfl⟩
    have q3 : ¬ o = 4 := eqF h
    refine ⟨fun h => ?_, fun h => ?_⟩
    · have q4 : o ≥ 14 := of_decide_eq_true h
      refine ⟨fun h => ?_, fun h => ?_⟩
      · have q5 : o ≤ 26 := of_decide_eq_true h
        exact ⟨.int (shape_is (by omega)), rfl⟩
      have q5 : ¬ o ≤ 26 := of_decide_eq_false h
      refine ⟨fun h => ?_, fun h => ?_⟩
      · have q6 : o = 27 := eqT h
        exact ⟨.int (shape_is (by omega)), rfl⟩
      have q6 : ¬ o = 27 := eqF h
      refine ⟨fun h => ?_, fun h => ?_⟩
      · have q7 : o = 33 := eqT h
        exact ⟨.int (shape_is (by omega)), rfl⟩
      have q7 : ¬ o = 33 := eqF h
      refine ⟨fun h => ?_, fun h => ?_⟩
      · have q8 : o = 37 := eqT h
        exact ⟨.int (shape_is (by omega)), rfl⟩
      have q8 : ¬ o = 37 := eqF h
      refine ⟨fun h => ?_, fun h => ?_⟩
      · have q9 : o = 38 := eqT h
        exact ⟨.int (shape_is (by omega)), rfl⟩
      have q9 : ¬ o = 38 := eqF h
      refine ⟨fun h => ?_, fun h => ?_⟩
      · have q10 : o ≥ 28 := of_decide_eq_true h
        refine ⟨fun h => ?_, fun h => ?_⟩
        · have q11 : o ≤ 31 := of_decide_eq_true h
          exact ⟨.int (shape_is (by omega)), rfl⟩
        have q11 : ¬ o ≤ 31 := of_decide_eq_false h
        refine ⟨fun h => ?_, fun h => ?_⟩
        · have q12 : o = 39 := eqT h
          exact ⟨.int (shape_is (by omega)), rfl⟩
        have q12 : ¬ o = 39 := eqF h
        refine ⟨fun h => ?_, fun h => ?_⟩
        · have q13 : o = 40 := eqT h
          exact ⟨.int (shape_is (by omega)), rfl⟩
        have q13 : ¬ o = 40 := eqF h
        exact ⟨.int (shape_is (by omega)), rfl⟩
      have q10 : ¬ o ≥ 28 := of_decide_eq_false h
      refine ⟨fun h => ?_, fun h => ?_⟩
      · have q14 : o = 39 := eqT h
        exact ⟨.int (shape_is (by omega)), rfl⟩
      have q14 : ¬ o = 39 := eqF h
      refine ⟨fun h => ?_, fun h => ?_⟩
      · have q15 : o = 40 := eqT h
        exact ⟨.int (shape_is (by omega)), rfl⟩
      have q15 : ¬ o = 40 := eqF h
      exact ⟨.int (shape_is (by omega)), rfl⟩
    have q4 : ¬ o ≥ 14 := of_decide_eq_false h
    refine ⟨fun h => ?_, fun h => ?_⟩
    · have q16 : o = 27 := eqT h
      exact ⟨.int (shape_is (by omega)), rfl⟩
    have q16 : ¬ o = 27 := eqF h
    refine ⟨fun h => ?_, fun h => ?_⟩
    · have q17 : o = 33 := eqT h
      exact ⟨.int (shape_is (by omega)), rfl⟩
    have q17 : ¬ o = 33 := eqF h
    refine ⟨fun h => ?_, fun h => ?_⟩
    · have q18 : o = 37 := eqT h
      exact ⟨.int (shape_is (by omega)), rfl⟩
    have q18 : ¬ o = 37 := eqF h
    refine ⟨fun h => ?_, fun h => ?_⟩
    · have q19 : o = 38 := eqT h
      exact ⟨.int (shape_is (by omega)), rfl⟩
    have q19 : ¬ o = 38 := eqF h
    refine ⟨fun h => ?_, fun h => ?_⟩
    · have q20 : o ≥ 28 := of_decide_eq_true h
      refine ⟨fun h => ?_, fun h => ?_⟩
      · have q21 : o ≤ 31 := of_decide_eq_true h
        exact ⟨.int (shape_is (by omega)), rfl⟩
      have q21 : ¬ o ≤ 31 := of_decide_eq_false h
      refine ⟨fun h => ?_, fun h => ?_⟩
      · have q22 : o = 39 := eqT h
        exact ⟨.int (shape_is (by omega)), rfl⟩
      have q22 : ¬ o = 39 := eqF h
      refine ⟨fun h => ?_, fun h => ?_⟩
      · have q23 : o = 40 := eqT h
        exact ⟨.int (shape_is (by omega)), rfl⟩
      have q23 : ¬ o = 40 := eqF h
      exact ⟨.int (shape_is (by omega)), rfl⟩
    have q20 : ¬ o ≥ 28 := of_decide_eq_false h
    refine ⟨fun h => ?_, fun h => ?_⟩
    · have q24 : o = 39 := eqT h
      exact ⟨.int (shape_is (by omega)), rfl⟩
    have q24 : ¬ o = 39 := eqF h
    refine ⟨fun h => ?_, fun h => ?_⟩
    · have q25 : o = 40 := eqT h
      exact ⟨.int (shape_is (by omega)), rfl⟩
    have q25 : ¬ o = 40 := eqF h
    exact ⟨.int (shape_is (by omega)), rfl⟩
theorem ins_eq : EqSound Tryd.prog 41 (flatC Ins insC) :=
  eq_flat [.int .i64, .int .i64, .str, .str] _ insC Tryd.underlying41 (by kernel_rfl) (by kernel_rfl) (by kernel_rfl) (fun _ => rfl)
theorem ins_dec (a b : Ins) : cellsEq (insC a) (insC b) = decide (a = b) := by
  obtain ⟨a1, a2, a3, a4⟩ := a
  obtain ⟨b1, b2, b3, b4⟩ := b
  rw [Bool.eq_iff_iff]
  simp [insC, cellsEq, cellEq, ba_eq]
def wAbc : ByteArray := ⟨#[65, 98, 99]⟩
def wX1 : ByteArray := ⟨#[120, 95, 49]⟩
def iN (o : Nat) (n : Int) : Int := if shapeF o = 1 then n.tmod 2147483647 else if shapeF o = 2 then IntKind.i64.wrap ((IntKind.u64.wrap n).tmod 8) else if shapeF o = 3 then IntKind.i64.wrap ((IntKind.u64.wrap n).tmod 48) else 0
def iIns (o : Nat) (n : Int) : Ins := ⟨o, iN o n, if shapeF o = 4 ∨ shapeF o = 5 then wAbc else noS, if shapeF o = 5 then wX1 else noS⟩
def iS (o : Nat) (n : Int) : ByteArray := if shapeF o = 1 ∨ shapeF o = 2 ∨ shapeF o = 3 then (wordF2 o ++ ⟨#[32]⟩) ++ dig (iN o n) else if shapeF o = 4 then wordF2 o ++ ⟨#[32, 65, 98, 99]⟩ else if shapeF o = 5 then wordF2 o ++ ⟨#[32, 65, 98, 99, 32, 120, 95, 49]⟩ else wordF2 o
theorem i_numsB : ((List.range 44).all fun o : Nat => (decide (shapeF o = 1) && (decide (numsF o = (-2147483648, 2147483647, true)) && decide (namesF o = 0))) || (decide (shapeF o = 2) && (decide (numsF o = (0, 7, true)) && decide (namesF o = 0))) || (decide (shapeF o = 3) && (decide (numsF o = (0, 47, true)) && decide (namesF o = 0))) || (decide (shapeF o = 4) && (decide (numsF o = (0, 0, false)) && decide (namesF o = 1))) || (decide (shapeF o = 5) && (decide (numsF o = (0, 0, false)) && decide (namesF o = 2))) || (decide (shapeF o = 0) && (decide (numsF o = (0, 0, false)) && decide (namesF o = 0)))) = true := by decide +kernel
theorem i_nums (o : Nat) (ho : o < 44) : (shapeF o = 1 ∧ numsF o = (-2147483648, 2147483647, true) ∧ namesF o = 0) ∨ (shapeF o = 2 ∧ numsF o = (0, 7, true) ∧ namesF o = 0) ∨ (shapeF o = 3 ∧ numsF o = (0, 47, true) ∧ namesF o = 0) ∨ (shapeF o = 4 ∧ numsF o = (0, 0, false) ∧ namesF o = 1) ∨ (shapeF o = 5 ∧ numsF o = (0, 0, false) ∧ namesF o = 2) ∨ (shapeF o = 0 ∧ numsF o = (0, 0, false) ∧ namesF o = 0) := by
  have := List.all_eq_true.1 i_numsB o (List.mem_range.2 ho)
  simp only [Bool.or_eq_true, Bool.and_eq_true, decide_eq_true_eq] at this
  rcases this with ((((h | h) | h) | h) | h) | h
  · exact .inl h
  · exact .inr (.inl h)
  · exact .inr (.inr (.inl h))
  · exact .inr (.inr (.inr (.inl h)))
  · exact .inr (.inr (.inr (.inr (.inl h))))
  · exact .inr (.inr (.inr (.inr (.inr h))))
theorem i_ops : ∀ o : Nat, o < 44 → inF (o : Int) 0 43 = true := by decide +kernel
theorem abc_ok : namedF wAbc.data.toList true = true ∧ namedF wX1.data.toList true = true ∧ namedF noS.data.toList false = true := by decide +kernel
theorem iIns_ok {o : Nat} (ho : o < 44) (n : Int) : insOk (iIns o n) = true ∧ -2147483648 ≤ iN o n ∧ iN o n ≤ 2147483647 := by
  have h0 := i_ops o ho
  obtain ⟨a1, a2, a3⟩ := abc_ok
  have m1 : -2147483648 ≤ n.tmod 2147483647 ∧ n.tmod 2147483647 ≤ 2147483647 := by
    have := Int.tmod_lt_of_pos n (show (0 : Int) < 2147483647 by decide)
    have := Int.lt_tmod_of_pos n (show (0 : Int) < 2147483647 by decide)
    omega
  obtain ⟨k8, b8, e8⟩ := umodC n 8 (by decide) (by decide)
  obtain ⟨k48, b48, e48⟩ := umodC n 48 (by decide) (by decide)
  have e8 : IntKind.i64.wrap ((IntKind.u64.wrap n).tmod 8) = (k8 : Int) := e8
  have e48 : IntKind.i64.wrap ((IntKind.u64.wrap n).tmod 48) = (k48 : Int) := e48
  rcases i_nums o ho with ⟨s, q, c⟩ | ⟨s, q, c⟩ | ⟨s, q, c⟩ | ⟨s, q, c⟩ | ⟨s, q, c⟩ | ⟨s, q, c⟩
  · have hN : iN o n = n.tmod 2147483647 := by unfold iN; rw [s]; rfl
    have hA : (iIns o n).a = noS := by unfold iIns; rw [s]; rfl
    have hB : (iIns o n).b = noS := by unfold iIns; rw [s]; rfl
    refine ⟨?_, by rw [hN]; omega, by rw [hN]; omega⟩
    unfold insOk instrF
    rw [hA, hB, show (iIns o n).op = (o : Int) from rfl, show (iIns o n).n = iN o n from rfl, hN, q, c, h0]
    rw [show inF (n.tmod 2147483647) (-2147483648) 2147483647 = true from decide_eq_true (by omega)]
    simp only [a3, a3, Bool.and_self, show decide ((0 : Int) > 0) = false from rfl, show decide ((0 : Int) > 1) = false from rfl]
  · have hN : iN o n = (k8 : Int) := by unfold iN; rw [s]; exact e8
    have hA : (iIns o n).a = noS := by unfold iIns; rw [s]; rfl
    have hB : (iIns o n).b = noS := by unfold iIns; rw [s]; rfl
    refine ⟨?_, by rw [hN]; omega, by rw [hN]; omega⟩
    unfold insOk instrF
    rw [hA, hB, show (iIns o n).op = (o : Int) from rfl, show (iIns o n).n = iN o n from rfl, hN, q, c, h0]
    rw [show inF ((k8 : Int)) 0 7 = true from decide_eq_true (by omega)]
    simp only [a3, a3, Bool.and_self, show decide ((0 : Int) > 0) = false from rfl, show decide ((0 : Int) > 1) = false from rfl]
  · have hN : iN o n = (k48 : Int) := by unfold iN; rw [s]; exact e48
    have hA : (iIns o n).a = noS := by unfold iIns; rw [s]; rfl
    have hB : (iIns o n).b = noS := by unfold iIns; rw [s]; rfl
    refine ⟨?_, by rw [hN]; omega, by rw [hN]; omega⟩
    unfold insOk instrF
    rw [hA, hB, show (iIns o n).op = (o : Int) from rfl, show (iIns o n).n = iN o n from rfl, hN, q, c, h0]
    rw [show inF ((k48 : Int)) 0 47 = true from decide_eq_true (by omega)]
    simp only [a3, a3, Bool.and_self, show decide ((0 : Int) > 0) = false from rfl, show decide ((0 : Int) > 1) = false from rfl]
  · have hN : iN o n = 0 := by unfold iN; rw [s]; rfl
    have hA : (iIns o n).a = wAbc := by unfold iIns; rw [s]; rfl
    have hB : (iIns o n).b = noS := by unfold iIns; rw [s]; rfl
    refine ⟨?_, by rw [hN]; omega, by rw [hN]; omega⟩
    unfold insOk instrF
    rw [hA, hB, show (iIns o n).op = (o : Int) from rfl, show (iIns o n).n = iN o n from rfl, hN, q, c, h0]
    rw [show inF (0) 0 0 = true from decide_eq_true (by omega)]
    simp only [a1, a3, Bool.and_self, show decide ((1 : Int) > 0) = true from rfl, show decide ((1 : Int) > 1) = false from rfl]
  · have hN : iN o n = 0 := by unfold iN; rw [s]; rfl
    have hA : (iIns o n).a = wAbc := by unfold iIns; rw [s]; rfl
    have hB : (iIns o n).b = wX1 := by unfold iIns; rw [s]; rfl
    refine ⟨?_, by rw [hN]; omega, by rw [hN]; omega⟩
    unfold insOk instrF
    rw [hA, hB, show (iIns o n).op = (o : Int) from rfl, show (iIns o n).n = iN o n from rfl, hN, q, c, h0]
    rw [show inF (0) 0 0 = true from decide_eq_true (by omega)]
    simp only [a1, a2, Bool.and_self, show decide ((2 : Int) > 0) = true from rfl, show decide ((2 : Int) > 1) = true from rfl]
  · have hN : iN o n = 0 := by unfold iN; rw [s]; rfl
    have hA : (iIns o n).a = noS := by unfold iIns; rw [s]; rfl
    have hB : (iIns o n).b = noS := by unfold iIns; rw [s]; rfl
    refine ⟨?_, by rw [hN]; omega, by rw [hN]; omega⟩
    unfold insOk instrF
    rw [hA, hB, show (iIns o n).op = (o : Int) from rfl, show (iIns o n).n = iN o n from rfl, hN, q, c, h0]
    rw [show inF (0) 0 0 = true from decide_eq_true (by omega)]
    simp only [a3, a3, Bool.and_self, show decide ((0 : Int) > 0) = false from rfl, show decide ((0 : Int) > 1) = false from rfl]
theorem iS_words {o : Nat} (ho : o < 44) (n : Int) : joinB (codeH (iIns o n)) = (iS o n).data.toList ∧ codeH (iIns o n) ≠ [] := by
  refine ⟨?_, by simp [codeH]⟩
  rcases i_nums o ho with ⟨s, q, c⟩ | ⟨s, q, c⟩ | ⟨s, q, c⟩ | ⟨s, q, c⟩ | ⟨s, q, c⟩ | ⟨s, q, c⟩
  · have hA : (iIns o n).a = noS := by unfold iIns; rw [s]; rfl
    have hB : (iIns o n).b = noS := by unfold iIns; rw [s]; rfl
    unfold codeH
    rw [hA, hB, show (iIns o n).op = (o : Int) from rfl, show (iIns o n).n = iN o n from rfl, q]
    unfold iS
    rw [s]
    simp [joinB, wAbc, wX1, noS, ByteArray.data_append]
  · have hA : (iIns o n).a = noS := by unfold iIns; rw [s]; rfl
    have hB : (iIns o n).b = noS := by unfold iIns; rw [s]; rfl
    unfold codeH
    rw [hA, hB, show (iIns o n).op = (o : Int) from rfl, show (iIns o n).n = iN o n from rfl, q]
    unfold iS
    rw [s]
    simp [joinB, wAbc, wX1, noS, ByteArray.data_append]
  · have hA : (iIns o n).a = noS := by unfold iIns; rw [s]; rfl
    have hB : (iIns o n).b = noS := by unfold iIns; rw [s]; rfl
    unfold codeH
    rw [hA, hB, show (iIns o n).op = (o : Int) from rfl, show (iIns o n).n = iN o n from rfl, q]
    unfold iS
    rw [s]
    simp [joinB, wAbc, wX1, noS, ByteArray.data_append]
  · have hA : (iIns o n).a = wAbc := by unfold iIns; rw [s]; rfl
    have hB : (iIns o n).b = noS := by unfold iIns; rw [s]; rfl
    unfold codeH
    rw [hA, hB, show (iIns o n).op = (o : Int) from rfl, show (iIns o n).n = iN o n from rfl, q]
    unfold iS
    rw [s]
    simp [joinB, wAbc, wX1, noS, ByteArray.data_append]
  · have hA : (iIns o n).a = wAbc := by unfold iIns; rw [s]; rfl
    have hB : (iIns o n).b = wX1 := by unfold iIns; rw [s]; rfl
    unfold codeH
    rw [hA, hB, show (iIns o n).op = (o : Int) from rfl, show (iIns o n).n = iN o n from rfl, q]
    unfold iS
    rw [s]
    simp [joinB, wAbc, wX1, noS, ByteArray.data_append]
  · have hA : (iIns o n).a = noS := by unfold iIns; rw [s]; rfl
    have hB : (iIns o n).b = noS := by unfold iIns; rw [s]; rfl
    unfold codeH
    rw [hA, hB, show (iIns o n).op = (o : Int) from rfl, show (iIns o n).n = iN o n from rfl, q]
    unfold iS
    rw [s]
    simp [joinB, wAbc, wX1, noS, ByteArray.data_append]
theorem iS_size {o : Nat} (ho : o < 44) (n : Int) : (iS o n).size ≤ 60 := by
  have hw : (wordF2 o).size ≤ 20 := by rw [← ba_len]; exact name_len (word_op (o := (o : Int)) (by omega) (by omega)).1
  have hd : (dig (iN o n)).size ≤ 21 := by
    have := iIns_ok ho n
    rw [← ba_len, show (dig (iN o n)).data.toList = Lib.itoa (iN o n) by simp [dig, itoaB]]
    exact dig_lt _ (by omega) (by omega)
  unfold iS
  split
  · rw [ByteArray.size_append, ByteArray.size_append, show (⟨#[32]⟩ : ByteArray).size = 1 from rfl]; omega
  · split
    · rw [ByteArray.size_append, show (⟨#[32, 65, 98, 99]⟩ : ByteArray).size = 4 from rfl]; omega
    · split
      · rw [ByteArray.size_append, show (⟨#[32, 65, 98, 99, 32, 120, 95, 49]⟩ : ByteArray).size = 8 from rfl]; omega
      · omega
theorem iHead_join : joinB iHead ++ [32] = [99, 108, 97, 115, 115, 32, 65, 32, 123, 32, 109, 101, 116, 104, 111, 100, 32, 109, 32, 40, 32, 41, 32, 118, 111, 105, 100, 32, 108, 111, 99, 97, 108, 115, 32, 49, 32, 123, 32] := by decide +kernel
def iT (o : Nat) (n : Int) (suf : ByteArray) : ByteArray := (⟨#[99, 108, 97, 115, 115, 32, 65, 32, 123, 32, 109, 101, 116, 104, 111, 100, 32, 109, 32, 40, 32, 41, 32, 118, 111, 105, 100, 32, 108, 111, 99, 97, 108, 115, 32, 49, 32, 123, 32]⟩ ++ iS o n) ++ suf
theorem iT_join {o : Nat} (ho : o < 44) (n : Int) (suf : ByteArray) (ws : List ByteArray) (hw : ws ≠ []) (hs : suf.data.toList = 32 :: joinB ws) : (iT o n suf).data.toList = joinB (iHead ++ (codeH (iIns o n) ++ ws)) := by
  obtain ⟨h1, h2⟩ := iS_words ho n
  rw [joinB_app _ _ (by simp [iHead]) (by simp [h2]), joinB_app _ _ h2 hw, h1, ← hs]
  have := iHead_join
  unfold iT
  rw [show joinB iHead ++ 32 :: ((iS o n).data.toList ++ suf.data.toList) = (joinB iHead ++ [32]) ++ ((iS o n).data.toList ++ suf.data.toList) by simp, this]
  simp [ByteArray.data_append]
theorem iT_len {o : Nat} (ho : o < 44) (n : Int) (suf : ByteArray) (hs : suf.size ≤ 100) : (iT o n suf).data.toList.length ≤ 6000 := by
  have := iS_size ho n
  rw [ba_len]
  unfold iT
  rw [ByteArray.size_append, ByteArray.size_append, show (⟨#[99, 108, 97, 115, 115, 32, 65, 32, 123, 32, 109, 101, 116, 104, 111, 100, 32, 109, 32, 40, 32, 41, 32, 118, 111, 105, 100, 32, 108, 111, 99, 97, 108, 115, 32, 49, 32, 123, 32]⟩ : ByteArray).size = 39 from rfl]; omega
theorem iP1 {o : Nat} (ho : o < 44) (n : Int) : parseF (iT o n ⟨#[32, 59, 32, 125, 32, 125]⟩).data.toList = ([iCls (iIns o n)], 0, 0) := by
  have e := iT_join ho n ⟨#[32, 59, 32, 125, 32, 125]⟩ [wSemi, wRc, wRc] (by simp) (by decide)
  have hl := iT_len ho n ⟨#[32, 59, 32, 125, 32, 125]⟩ (by decide)
  rw [e] at hl ⊢
  have hw := iWords (iIns o n)
  have e2 : iHead ++ (codeH (iIns o n) ++ [wSemi, wRc, wRc]) = [iCls (iIns o n)].flatMap wordsC := by
    rw [List.flatMap_cons, List.flatMap_nil, List.append_nil, hw]
  rw [e2] at hl ⊢
  exact parse_joinB (iCls_ok (iIns_ok ho n).1) hl
theorem iP2 {o : Nat} (ho : o < 44) (n : Int) : (parseF (iT o n ⟨#[32, 125, 32, 125]⟩).data.toList).2.2 = 4 := by
  have e := iT_join ho n ⟨#[32, 125, 32, 125]⟩ [wRc, wRc] (by simp) (by decide)
  have hl := iT_len ho n ⟨#[32, 125, 32, 125]⟩ (by decide)
  rw [e] at hl ⊢
  exact parse_bad (iIns_ok ho n).1 hl (Toks.cons T_rc.2 (Toks.cons T_rc.2 Toks.nil)) (by show noW (tokT wRc :: _) wSemi; rw [T_rc.1]; exact noW_cons (by decide))
theorem T_seven : tokT (dig 7) = (2, noS, 7) ∧ tokB (dig 7) = true := num_T ⟨by decide, by decide⟩
theorem T_x : tokT (⟨#[120]⟩ : ByteArray) = (1, ⟨#[120]⟩, 0) ∧ tokB (⟨#[120]⟩ : ByteArray) = true := name_T (by decide +kernel)
theorem iP3 {o : Nat} (ho : o < 44) (n : Int) : (parseF (iT o n ⟨#[32, 55, 32, 120, 32, 59, 32, 125, 32, 125]⟩).data.toList).2.2 = 4 := by
  have e := iT_join ho n ⟨#[32, 55, 32, 120, 32, 59, 32, 125, 32, 125]⟩ [dig 7, ⟨#[120]⟩, wSemi, wRc, wRc] (by simp) (by decide +kernel)
  have hl := iT_len ho n ⟨#[32, 55, 32, 120, 32, 59, 32, 125, 32, 125]⟩ (by decide)
  rw [e] at hl ⊢
  exact parse_bad (iIns_ok ho n).1 hl (Toks.cons T_seven.2 (Toks.cons T_x.2 (Toks.cons T_semi.2 (Toks.cons T_rc.2 (Toks.cons T_rc.2 Toks.nil))))) (by show noW (tokT (dig 7) :: _) wSemi; rw [T_seven.1]; exact noW_cons (by decide))
def ParseInstr : Ctr := { A := Int × Int, enc := fun x => [I x.1, I x.2], dom := fun _ => True, res := fun _ _ => .tt, gl := tabP }
set_option maxRecDepth 100000 in
set_option maxHeartbeats 4000000 in
theorem ParseInstr_ok : CtrSound Tryd.prog 5 ParseInstr :=
  ctr_of_ax (env_okB tys_ok (eqs := [(41, flatC Ins insC)]) ⟨ins_eq, trivial⟩ (cs := [(16, parseC), (11, pwordC), (20, rshapeC), (21, digitsC), (15, lC)]) ⟨parse_ok, pword_ok, rshape_ok, digits_ok, wakesP_ok, trivial⟩ (bs := []) trivial (cut := [18]) (gl := tabP)) mixed _ Tryd.func5 (by kernel_rfl) rfl (fun _ _ => Nat.le_of_ble_eq_true rfl) fun ((op, n) : Int × Int) id hd => by
    obtain ⟨a, ha, ea⟩ := umodC op 44 (by decide) (by decide)
    have ea : IntKind.i64.wrap ((IntKind.u64.wrap op).tmod 44) = (a : Int) := ea
    obtain ⟨w1, w2, w3⟩ := word_op (o := (a : Int)) (by omega) (by omega)
    have hw : (wordF2 a).size ≤ 20 := by rw [← ba_len]; exact name_len w1
    obtain ⟨hok, hn0, hn1⟩ := iIns_ok ha n
    have z1 : (⟨#[32]⟩ : ByteArray).size = 1 := rfl
    have z4 : (⟨#[32, 65, 98, 99]⟩ : ByteArray).size = 4 := rfl
    have z8 : (⟨#[32, 65, 98, 99, 32, 120, 95, 49]⟩ : ByteArray).size = 8 := rfl
    have zp : (⟨#[99, 108, 97, 115, 115, 32, 65, 32, 123, 32, 109, 101, 116, 104, 111, 100, 32, 109, 32, 40, 32, 41, 32, 118, 111, 105, 100, 32, 108, 111, 99, 97, 108, 115, 32, 49, 32, 123, 32]⟩ : ByteArray).size = 39 := rfl
    have hss := iS_size ha n
    have hdg : (dig (iN a n)).size ≤ 21 := by
      rw [← ba_len, show (dig (iN a n)).data.toList = Lib.itoa (iN a n) by simp [dig, itoaB]]
      exact dig_lt _ (by omega) (by omega)
    refine ⟨by decide, ?_⟩
    refine ⟨(a : Int), ⟨.int ea, trivial⟩, rfl, trivial, ?_⟩
    refine ⟨Unit, fun _ => [(5, .box 5 0), (6, S (iS a n))], fun _ => [(5, insC (iIns a n))], fun _ => True, ?_, fun _ _ => ?_⟩
    · refine ⟨(a : Int), ⟨.int ea, trivial⟩, rfl, trivial, ?_⟩
      refine ⟨fun h => ?_, fun h1 => ?_⟩
      · have hs : shapeF a = 1 := eqT h
        have e0 : IntKind.i64.wrap (n.tmod 2147483647 + 0) = iN a n := by
          have hN : iN a n = n.tmod 2147483647 := by unfold iN; rw [if_pos hs]
          rw [← hN, wrap_eq _ (by omega) (by omega)]; omega
        refine ⟨by decide, ?_⟩
        refine ⟨(show (wordF2 a).size + (⟨#[32]⟩ : ByteArray).size < 4611686018427387904 by rw [z1]; omega), ?_⟩
        refine ⟨iN a n, ⟨.int e0, trivial⟩, rfl, (show -4611686018427387904 ≤ iN a n ∧ iN a n ≤ 4611686018427387904 by omega), ?_⟩
        refine ⟨(show (wordF2 a ++ ⟨#[32]⟩).size + (dig (iN a n)).size < 4611686018427387904 by rw [ByteArray.size_append, z1]; omega), ?_⟩
        have es : (wordF2 a ++ ⟨#[32]⟩) ++ dig (iN a n) = iS a n := by unfold iS; rw [if_pos (by omega)]
        have e3 : noS = (iIns a n).a := by unfold iIns; rw [hs]; rfl
        have e4 : noS = (iIns a n).b := by unfold iIns; rw [hs]; rfl
        exact ⟨(), trivial, ⟨rfl, rfl⟩, .refl _, .str es, ⟨.int ea, .int e0, .str e3, .str e4, trivial⟩, trivial⟩
      have g1 : shapeF a ≠ 1 := eqF h1
      refine ⟨fun h => ?_, fun h2 => ?_⟩
      · have hs : shapeF a = 2 := eqT h
        have e0 : IntKind.i64.wrap ((IntKind.u64.wrap n).tmod 8) = iN a n := by unfold iN; rw [hs]; rfl
        refine ⟨by decide, ?_⟩
        refine ⟨(show (wordF2 a).size + (⟨#[32]⟩ : ByteArray).size < 4611686018427387904 by rw [z1]; omega), ?_⟩
        refine ⟨iN a n, ⟨.int e0, trivial⟩, rfl, (show -4611686018427387904 ≤ iN a n ∧ iN a n ≤ 4611686018427387904 by omega), ?_⟩
        refine ⟨(show (wordF2 a ++ ⟨#[32]⟩).size + (dig (iN a n)).size < 4611686018427387904 by rw [ByteArray.size_append, z1]; omega), ?_⟩
        have es : (wordF2 a ++ ⟨#[32]⟩) ++ dig (iN a n) = iS a n := by unfold iS; rw [if_pos (by omega)]
        have e3 : noS = (iIns a n).a := by unfold iIns; rw [hs]; rfl
        have e4 : noS = (iIns a n).b := by unfold iIns; rw [hs]; rfl
        exact ⟨(), trivial, ⟨rfl, rfl⟩, .refl _, .str es, ⟨.int ea, .int e0, .str e3, .str e4, trivial⟩, trivial⟩
      have g2 : shapeF a ≠ 2 := eqF h2
      refine ⟨fun h => ?_, fun h3 => ?_⟩
      · have hs : shapeF a = 3 := eqT h
        have e0 : IntKind.i64.wrap ((IntKind.u64.wrap n).tmod 48) = iN a n := by unfold iN; rw [hs]; rfl
        refine ⟨by decide, ?_⟩
        refine ⟨(show (wordF2 a).size + (⟨#[32]⟩ : ByteArray).size < 4611686018427387904 by rw [z1]; omega), ?_⟩
        refine ⟨iN a n, ⟨.int e0, trivial⟩, rfl, (show -4611686018427387904 ≤ iN a n ∧ iN a n ≤ 4611686018427387904 by omega), ?_⟩
        refine ⟨(show (wordF2 a ++ ⟨#[32]⟩).size + (dig (iN a n)).size < 4611686018427387904 by rw [ByteArray.size_append, z1]; omega), ?_⟩
        have es : (wordF2 a ++ ⟨#[32]⟩) ++ dig (iN a n) = iS a n := by unfold iS; rw [if_pos (by omega)]
        have e3 : noS = (iIns a n).a := by unfold iIns; rw [hs]; rfl
        have e4 : noS = (iIns a n).b := by unfold iIns; rw [hs]; rfl
        exact ⟨(), trivial, ⟨rfl, rfl⟩, .refl _, .str es, ⟨.int ea, .int e0, .str e3, .str e4, trivial⟩, trivial⟩
      have g3 : shapeF a ≠ 3 := eqF h3
      refine ⟨fun h => ?_, fun h4 => ?_⟩
      · have hs : shapeF a = 4 := eqT h
        refine ⟨(show (wordF2 a).size + (⟨#[32, 65, 98, 99]⟩ : ByteArray).size < 4611686018427387904 by rw [z4]; omega), ?_⟩
        have e0 : 0 = iN a n := by unfold iN; rw [hs]; rfl
        have es : wordF2 a ++ ⟨#[32, 65, 98, 99]⟩ = iS a n := by unfold iS; rw [hs]; rfl
        have e3 : wAbc = (iIns a n).a := by unfold iIns; rw [hs]; rfl
        have e4 : noS = (iIns a n).b := by unfold iIns; rw [hs]; rfl
        exact ⟨(), trivial, ⟨rfl, rfl⟩, .refl _, .str es, ⟨.int ea, .int e0, .str e3, .str e4, trivial⟩, trivial⟩
      have g4 : shapeF a ≠ 4 := eqF h4
      refine ⟨fun h => ?_, fun h5 => ?_⟩
      · have hs : shapeF a = 5 := eqT h
        refine ⟨(show (wordF2 a).size + (⟨#[32, 65, 98, 99, 32, 120, 95, 49]⟩ : ByteArray).size < 4611686018427387904 by rw [z8]; omega), ?_⟩
        have e0 : 0 = iN a n := by unfold iN; rw [hs]; rfl
        have es : wordF2 a ++ ⟨#[32, 65, 98, 99, 32, 120, 95, 49]⟩ = iS a n := by unfold iS; rw [hs]; rfl
        have e3 : wAbc = (iIns a n).a := by unfold iIns; rw [hs]; rfl
        have e4 : wX1 = (iIns a n).b := by unfold iIns; rw [hs]; rfl
        exact ⟨(), trivial, ⟨rfl, rfl⟩, .refl _, .str es, ⟨.int ea, .int e0, .str e3, .str e4, trivial⟩, trivial⟩
      have g5 : shapeF a ≠ 5 := eqF h5
      have hs : shapeF a = 0 := by rcases i_nums a ha with ⟨s, -, -⟩ | ⟨s, -, -⟩ | ⟨s, -, -⟩ | ⟨s, -, -⟩ | ⟨s, -, -⟩ | ⟨s, -, -⟩ <;> omega
      have e0 : 0 = iN a n := by unfold iN; rw [hs]; rfl
      have es : wordF2 a = iS a n := by unfold iS; rw [hs]; rfl
      have e3 : noS = (iIns a n).a := by unfold iIns; rw [hs]; rfl
      have e4 : noS = (iIns a n).b := by unfold iIns; rw [hs]; rfl
      exact ⟨(), trivial, ⟨rfl, rfl⟩, .refl _, .str es, ⟨.int ea, .int e0, .str e3, .str e4, trivial⟩, trivial⟩
    refine ⟨(show (⟨#[99, 108, 97, 115, 115, 32, 65, 32, 123, 32, 109, 101, 116, 104, 111, 100, 32, 109, 32, 40, 32, 41, 32, 118, 111, 105, 100, 32, 108, 111, 99, 97, 108, 115, 32, 49, 32, 123, 32]⟩ : ByteArray).size + (iS a n).size < 4611686018427387904 by rw [zp]; omega), ?_⟩
    refine ⟨(show ((⟨#[99, 108, 97, 115, 115, 32, 65, 32, 123, 32, 109, 101, 116, 104, 111, 100, 32, 109, 32, 40, 32, 41, 32, 118, 111, 105, 100, 32, 108, 111, 99, 97, 108, 115, 32, 49, 32, 123, 32]⟩ : ByteArray) ++ iS a n).size + (⟨#[32, 59, 32, 125, 32, 125]⟩ : ByteArray).size < 4611686018427387904 by rw [ByteArray.size_append, zp, show (⟨#[32, 59, 32, 125, 32, 125]⟩ : ByteArray).size = 6 from rfl]; omega), ?_⟩
    refine ⟨(iT a n ⟨#[32, 59, 32, 125, 32, 125]⟩).data.toList, ⟨.refl _, trivial⟩, rfl, (show (iT a n ⟨#[32, 59, 32, 125, 32, 125]⟩).data.toList.length ≤ 4611686018427387904 by have := iT_len ha n ⟨#[32, 59, 32, 125, 32, 125]⟩ (by decide); omega), ?_⟩
    refine ⟨(show (⟨#[99, 108, 97, 115, 115, 32, 65, 32, 123, 32, 109, 101, 116, 104, 111, 100, 32, 109, 32, 40, 32, 41, 32, 118, 111, 105, 100, 32, 108, 111, 99, 97, 108, 115, 32, 49, 32, 123, 32]⟩ : ByteArray).size + (iS a n).size < 4611686018427387904 by rw [zp]; omega), ?_⟩
    refine ⟨(show ((⟨#[99, 108, 97, 115, 115, 32, 65, 32, 123, 32, 109, 101, 116, 104, 111, 100, 32, 109, 32, 40, 32, 41, 32, 118, 111, 105, 100, 32, 108, 111, 99, 97, 108, 115, 32, 49, 32, 123, 32]⟩ : ByteArray) ++ iS a n).size + (⟨#[32, 125, 32, 125]⟩ : ByteArray).size < 4611686018427387904 by rw [ByteArray.size_append, zp, show (⟨#[32, 125, 32, 125]⟩ : ByteArray).size = 4 from rfl]; omega), ?_⟩
    refine ⟨(iT a n ⟨#[32, 125, 32, 125]⟩).data.toList, ⟨.refl _, trivial⟩, rfl, (show (iT a n ⟨#[32, 125, 32, 125]⟩).data.toList.length ≤ 4611686018427387904 by have := iT_len ha n ⟨#[32, 125, 32, 125]⟩ (by decide); omega), ?_⟩
    refine ⟨(show (⟨#[99, 108, 97, 115, 115, 32, 65, 32, 123, 32, 109, 101, 116, 104, 111, 100, 32, 109, 32, 40, 32, 41, 32, 118, 111, 105, 100, 32, 108, 111, 99, 97, 108, 115, 32, 49, 32, 123, 32]⟩ : ByteArray).size + (iS a n).size < 4611686018427387904 by rw [zp]; omega), ?_⟩
    refine ⟨(show ((⟨#[99, 108, 97, 115, 115, 32, 65, 32, 123, 32, 109, 101, 116, 104, 111, 100, 32, 109, 32, 40, 32, 41, 32, 118, 111, 105, 100, 32, 108, 111, 99, 97, 108, 115, 32, 49, 32, 123, 32]⟩ : ByteArray) ++ iS a n).size + (⟨#[32, 55, 32, 120, 32, 59, 32, 125, 32, 125]⟩ : ByteArray).size < 4611686018427387904 by rw [ByteArray.size_append, zp, show (⟨#[32, 55, 32, 120, 32, 59, 32, 125, 32, 125]⟩ : ByteArray).size = 10 from rfl]; omega), ?_⟩
    refine ⟨(iT a n ⟨#[32, 55, 32, 120, 32, 59, 32, 125, 32, 125]⟩).data.toList, ⟨.refl _, trivial⟩, rfl, (show (iT a n ⟨#[32, 55, 32, 120, 32, 59, 32, 125, 32, 125]⟩).data.toList.length ≤ 4611686018427387904 by have := iT_len ha n ⟨#[32, 55, 32, 120, 32, 59, 32, 125, 32, 125]⟩ (by decide); omega), ?_⟩
    have p1 := iP1 ha n
    have p2 := iP2 ha n
    have p3 := iP3 ha n
    have a1 : (parseF (iT a n ⟨#[32, 59, 32, 125, 32, 125]⟩).data.toList).2.2 = 0 := by rw [p1]
    have a2 : (parseF (iT a n ⟨#[32, 59, 32, 125, 32, 125]⟩).data.toList).1.length = 1 := by rw [p1]; rfl
    have a3 : (parseF (iT a n ⟨#[32, 59, 32, 125, 32, 125]⟩).data.toList).1.getD 0 cls0 = iCls (iIns a n) := by rw [p1]; rfl
    have a4 : ((parseF (iT a n ⟨#[32, 59, 32, 125, 32, 125]⟩).data.toList).1.getD 0 cls0).methods.length = 1 := by rw [a3]; rfl
    have a5 : (((parseF (iT a n ⟨#[32, 59, 32, 125, 32, 125]⟩).data.toList).1.getD 0 cls0).methods.getD 0 meth0).code.length = 1 := by rw [a3]; rfl
    have a6 : (((parseF (iT a n ⟨#[32, 59, 32, 125, 32, 125]⟩).data.toList).1.getD 0 cls0).methods.getD 0 meth0).code.getD 0 ins0 = iIns a n := by rw [a3]; rfl
    refine ⟨by kernel_rfl, ?_⟩
    refine ⟨fun h => ?_, fun h => absurd h (by show ¬ ((parseF (iT a n ⟨#[32, 59, 32, 125, 32, 125]⟩).data.toList).2.2 == 0) = false; rw [a1]; decide)⟩
    refine ⟨fun h => ?_, fun h => absurd h (by show ¬ (((parseF (iT a n ⟨#[32, 59, 32, 125, 32, 125]⟩).data.toList).1.length : Int) == 1) = false; rw [a2]; decide)⟩
    refine ⟨(show (0 : Int) ≤ 0 ∧ (0 : Int) < ((parseF (iT a n ⟨#[32, 59, 32, 125, 32, 125]⟩).data.toList).1.length : Int) by rw [a2]; decide), ?_⟩
    refine ⟨fun h => ?_, fun h => absurd h (by show ¬ ((((parseF (iT a n ⟨#[32, 59, 32, 125, 32, 125]⟩).data.toList).1.getD 0 cls0).methods.length : Int) == 1) = false; rw [a4]; decide)⟩
    refine ⟨(show (0 : Int) ≤ 0 ∧ (0 : Int) < ((parseF (iT a n ⟨#[32, 59, 32, 125, 32, 125]⟩).data.toList).1.length : Int) by rw [a2]; decide), ?_⟩
    refine ⟨(show (0 : Int) ≤ 0 ∧ (0 : Int) < (((parseF (iT a n ⟨#[32, 59, 32, 125, 32, 125]⟩).data.toList).1.getD 0 cls0).methods.length : Int) by rw [a4]; decide), ?_⟩
    refine ⟨fun h => ?_, fun h => absurd h (by show ¬ (((((parseF (iT a n ⟨#[32, 59, 32, 125, 32, 125]⟩).data.toList).1.getD 0 cls0).methods.getD 0 meth0).code.length : Int) == 1) = false; rw [a5]; decide)⟩
    refine ⟨(show (0 : Int) ≤ 0 ∧ (0 : Int) < ((parseF (iT a n ⟨#[32, 59, 32, 125, 32, 125]⟩).data.toList).1.length : Int) by rw [a2]; decide), ?_⟩
    refine ⟨(show (0 : Int) ≤ 0 ∧ (0 : Int) < (((parseF (iT a n ⟨#[32, 59, 32, 125, 32, 125]⟩).data.toList).1.getD 0 cls0).methods.length : Int) by rw [a4]; decide), ?_⟩
    refine ⟨(show (0 : Int) ≤ 0 ∧ (0 : Int) < ((((parseF (iT a n ⟨#[32, 59, 32, 125, 32, 125]⟩).data.toList).1.getD 0 cls0).methods.getD 0 meth0).code.length : Int) by rw [a5]; decide), ?_⟩
    refine ⟨((((parseF (iT a n ⟨#[32, 59, 32, 125, 32, 125]⟩).data.toList).1.getD 0 cls0).methods.getD 0 meth0).code.getD 0 ins0), iIns a n, ⟨.refl _, .refl _, .refl _, .refl _, trivial⟩, ⟨.refl _, .refl _, .refl _, .refl _, trivial⟩, ?_⟩
    refine ⟨fun h => ?_, fun h => absurd h (by show ¬ (cellsEq (insC ((((parseF (iT a n ⟨#[32, 59, 32, 125, 32, 125]⟩).data.toList).1.getD 0 cls0).methods.getD 0 meth0).code.getD 0 ins0)) (insC (iIns a n))) = false; rw [a6, ins_dec]; simp)⟩
    refine ⟨fun h => ?_, fun h => absurd h (by show ¬ ((parseF (iT a n ⟨#[32, 125, 32, 125]⟩).data.toList).2.2 == 4) = false; rw [p2]; decide)⟩
    refine ⟨fun h => ?_, fun h => absurd h (by show ¬ ((parseF (iT a n ⟨#[32, 55, 32, 120, 32, 59, 32, 125, 32, 125]⟩).data.toList).2.2 == 4) = false; rw [p3]; decide)⟩
    refine ⟨(), trivial, rfl, trivial, ?_⟩
    exact ⟨.refl _, rfl⟩
end Go.Proofs.YtimhbimpaiiceaaDoor.Ax
