/- Layers parse and show: what is shown is read again: members, classes, programs. -/
import Derived.Test.YtimhbimpaiiceaaDoorGs
set_option linter.unusedVariables false
set_option linter.unusedSimpArgs false
namespace Go.Proofs.YtimhbimpaiiceaaDoor.Ax
open Go Go.RowKit
theorem noOp_cons {k n : Int} {w : ByteArray} {ts : List T3} (h : opV w < 0) : noOp ((k, w, n) :: ts) := fun t e => by
  cases e; exact h
def bodyW (m : Meth) : List ByteArray := [wLocals, dig m.locals, wLc] ++ (m.code.flatMap codeF ++ (m.catches.flatMap catF ++ [wRc]))
theorem at_body {m m0 : Meth} {r : Rs} {ts : List T3} (hl : 0 ≤ m.locals ∧ m.locals ≤ 8) (h1 : ∀ x ∈ m.code, insOk x = true) (h2 : m.code.length ≤ 48) (h3 : ∀ x ∈ m.catches, catOk x = true) (h4 : m.catches.length ≤ 4)
    (h : At r (tks (bodyW m) ++ ts)) : r.bodyV m0 = ⟨m0.name, m0.static, m0.abs, m0.params, m0.ret, m.locals, m.code, m.catches⟩ ∧ At r.body ts := by
  have h : At r ((1, wLocals, 0) :: (2, noS, m.locals) :: (3, wLc, 0) :: (tks (m.code.flatMap codeF) ++ (tks (m.catches.flatMap catF) ++ (3, wRc, 0) :: ts))) := by
    rw [← T_locals.1, ← (num_T (n := m.locals) ⟨by omega, by omega⟩).1, ← T_lc.1, ← T_rc.1]
    have := h
    unfold bodyW at this
    simpa [tks] using this
  have g1 := at_want h (by decide)
  obtain ⟨a1, a2⟩ := at_num g1 hl.1 hl.2
  have g2 : At r.bo1 _ := at_want a2 (by decide)
  have hL : r.bo1.L = r.L := (Rs.bo1_fwd r).L
  have hlen := at_len g2
  rw [hL] at hlen
  have hf1 := flat_len codeF m.code (fun x _ => by simp [codeF])
  have hf2 := flat_len catF m.catches (fun x _ => by simp [catF])
  simp only [List.length_cons, List.length_append, List.length_map] at hlen
  have hno : noOp (tks (m.catches.flatMap catF) ++ (3, wRc, 0) :: ts) := by
    cases m.catches with
    | nil => exact noOp_cons (by decide +kernel)
    | cons c l =>
      show noOp (tokT wCatch :: _)
      rw [T_catch.1]
      exact noOp_cons (by decide +kernel)
  obtain ⟨b1, b2⟩ := at_codeL m.code (r.L.length + 2) r.bo1 [] _ h1 (by simp; omega) (by omega) g2 hno
  obtain ⟨c1, c2⟩ := at_catchL m.catches (r.L.length + 2) r.boCode.2 [] _ h3 (by simp; omega) (by omega) b2 (noW_cons (by decide))
  refine ⟨?_, at_want c2 (by decide)⟩
  unfold Rs.bodyV
  rw [a1, show r.boCode.1 = m.code from b1, show r.boCat.1 = m.catches from c1]
theorem meth_parts {m : Meth} (h : methOk m = true) : (m.abs = true → m.locals = 0 ∧ m.code = [] ∧ m.catches = []) ∧ freshW m.name = true ∧ (m.params.length ≤ 4 ∧ ∀ t ∈ m.params, tyOk t = true) ∧ tyOk m.ret = true ∧ (0 ≤ m.locals ∧ m.locals ≤ 8) ∧
    (m.code.length ≤ 48 ∧ ∀ x ∈ m.code, insOk x = true) ∧ m.catches.length ≤ 4 ∧ ∀ x ∈ m.catches, catOk x = true := by
  unfold methOk inF at h
  simp only [Bool.and_eq_true, decide_eq_true_eq, List.all_eq_true, Bool.not_eq_true', Bool.and_eq_false_iff, Bool.or_eq_false_iff, decide_eq_false_iff_not] at h
  obtain ⟨h1, h2, h3, h4, h5, h6, h7⟩ := h
  refine ⟨fun ha => ?_, h2, h3, h4, h5, h6, h7⟩
  rcases h1 with h1 | h1
  · rw [ha] at h1; cases h1
  · refine ⟨Classical.byContradiction h1.1, ?_, ?_⟩
    · exact List.eq_nil_of_length_eq_zero (by omega)
    · exact List.eq_nil_of_length_eq_zero (by omega)
def methT (m : Meth) : List ByteArray := if m.abs then [wSemi] else bodyW m
theorem at_meth {m : Meth} {r : Rs} {ts : List T3} (hm : methOk m = true) (h : At r (tokT m.name :: tokT wLp :: (tks (paramsF m.params) ++ tokT wRp :: (tks (kindW m.ret) ++ (tks (methT m) ++ ts))))) : r.mmV m.static = m ∧ At r.mmR ts := by
  obtain ⟨p1, p2, p3, p4, p5, p6, p7⟩ := meth_parts hm
  rw [(fresh_T p2).1] at h
  obtain ⟨-, f2, f3⟩ := at_fresh h (fresh_T p2).2.2
  obtain ⟨g1, g2⟩ := at_params p3.2 p3.1 f3
  cases hab : m.abs with
  | true =>
    have hT : methT m = [wSemi] := if_pos hab
    rw [hT] at g2
    have g2 : At r.fresh.params.2 (tks (kindW m.ret) ++ (3, wSemi, 0) :: ts) := by rw [← T_semi.1]; exact g2
    obtain ⟨k1, k2⟩ := at_kind p4 g2 (noW_cons (by decide))
    have hs : r.mm1.is wSemi = true := at_yes k2 (by decide)
    obtain ⟨q1, q2, q3⟩ := p1 hab
    unfold Rs.mmV Rs.mmR
    rw [if_pos hs, if_pos hs]
    refine ⟨?_, (at_cons k2).2.2⟩
    unfold Rs.mm1V
    rw [hs, f2, g1, k1]
    cases m; simp_all
  | false =>
    have hT : methT m = bodyW m := if_neg (by rw [hab]; decide)
    rw [hT] at g2
    have hb : noW (tks (bodyW m) ++ ts) wLb := by
      show noW (tokT wLocals :: _) wLb
      rw [T_locals.1]
      exact noW_cons (by decide)
    obtain ⟨k1, k2⟩ := at_kind p4 g2 hb
    have hs : r.mm1.is wSemi = false := by
      refine at_noW k2 ?_
      show noW (tokT wLocals :: _) wSemi
      rw [T_locals.1]
      exact noW_cons (by decide)
    obtain ⟨b1, b2⟩ := at_body (m0 := r.mm1V m.static) p5 p6.2 p6.1 p7.2 p7.1 k2
    unfold Rs.mmV Rs.mmR
    rw [if_neg (by rw [hs]; decide), if_neg (by rw [hs]; decide)]
    refine ⟨?_, b2⟩
    rw [show r.mm1.bodyV (r.mm1V m.static) = _ from b1]
    unfold Rs.mm1V
    simp only
    rw [hs, f2, g1, k1]
    cases m; simp_all
theorem at_member_f {x : Fld} {r : Rs} {c : Cls} {ts : List T3} (hf : fldOk x = true) (hc : c.fields.length < 6) (h : At r (tks (fldF x) ++ ts)) :
    r.is wRc = false ∧ (r.member c).1 = ⟨c.name, c.iface, c.super, c.ifaces, c.fields ++ [x], c.methods⟩ ∧ At (r.member c).2 ts := by
  unfold fldOk at hf
  rw [Bool.and_eq_true] at hf
  have h : At r ((1, if x.static then wStatic else wField, 0) :: (1, x.name, 0) :: (3, wColon, 0) :: (tks (kindW x.type) ++ (3, wSemi, 0) :: ts)) := by
    rw [← (fresh_T hf.1).1, ← T_colon.1, ← T_semi.1]
    have e : (1, if x.static then wStatic else wField, 0) = tokT (if x.static then wStatic else wField) := by
      cases x.static
      · exact T_field.1.symm
      · exact T_static.1.symm
    rw [e]
    have := h
    unfold fldF at this
    simpa [tks] using this
  have hw : (if x.static then wStatic else wField) ≠ noS := by cases x.static <;> decide
  have hn := (at_next h).2.1
  have g1 := at_want h hw
  obtain ⟨-, f2, f3⟩ := at_fresh g1 (fresh_T hf.1).2.2
  have g2 := at_want f3 (by decide)
  obtain ⟨k1, k2⟩ := at_kind hf.2 g2 (noW_cons (by decide))
  have hor : r.next.2.1 = wField ∨ r.next.2.1 = wStatic := by
    rw [hn]; cases x.static
    · exact .inl rfl
    · exact .inr rfl
  have hst : decide (r.next.2.1 = wStatic) = x.static := by
    rw [hn]; cases x.static <;> decide
  refine ⟨at_no h (by cases x.static <;> decide), ?_, ?_⟩
  · unfold Rs.member Rs.memF
    rw [if_pos hor, room_lt _ (by omega), hn]
    simp only
    unfold Rs.mfV
    rw [f2, k1, ← hn, hst]
  · unfold Rs.member Rs.memF
    rw [if_pos hor, room_lt _ (by omega), hn]
    exact at_want k2 (by decide)
theorem at_member_m {x : Meth} {r : Rs} {c : Cls} {ts : List T3} (hf : methOk x = true) (hc : c.methods.length < 6) (h : At r (tks (doesF x) ++ ts)) :
    r.is wRc = false ∧ (r.member c).1 = ⟨c.name, c.iface, c.super, c.ifaces, c.fields, c.methods ++ [x]⟩ ∧ At (r.member c).2 ts := by
  have h : At r ((1, if x.static then wFunction else wMethod, 0) :: tokT x.name :: tokT wLp :: (tks (paramsF x.params) ++ tokT wRp :: (tks (kindW x.ret) ++ (tks (methT x) ++ ts)))) := by
    have e : (1, if x.static then wFunction else wMethod, 0) = tokT (if x.static then wFunction else wMethod) := by
      cases x.static
      · exact T_method.1.symm
      · exact T_function.1.symm
    rw [e]
    have := h
    unfold doesF at this
    unfold methT bodyW
    simpa [tks] using this
  have hw : (if x.static then wFunction else wMethod) ≠ noS := by cases x.static <;> decide
  have hn := (at_next h).2.1
  have g1 := at_want h hw
  obtain ⟨m1, m2⟩ := at_meth hf g1
  have hno : ¬ (r.next.2.1 = wField ∨ r.next.2.1 = wStatic) := by
    rw [hn]; cases x.static <;> decide
  have hor : r.next.2.1 = wMethod ∨ r.next.2.1 = wFunction := by
    rw [hn]; cases x.static
    · exact .inl rfl
    · exact .inr rfl
  have hst : decide (r.next.2.1 = wFunction) = x.static := by
    rw [hn]; cases x.static <;> decide
  refine ⟨at_no h (by cases x.static <;> decide), ?_, ?_⟩
  · unfold Rs.member Rs.memF
    rw [if_neg hno, if_pos hor, room_lt _ (by omega), hst, hn]
    simp only
    rw [m1]
  · unfold Rs.member Rs.memF
    rw [if_neg hno, if_pos hor, room_lt _ (by omega), hn]
    exact m2
theorem at_fields : ∀ (l : List Fld) (f : Nat) (r : Rs) (c : Cls) (ts : List T3), (∀ x ∈ l, fldOk x = true) → c.fields.length + l.length ≤ 6 → l.length ≤ f → At r (tks (l.flatMap fldF) ++ ts) →
    ∃ r', At r' ts ∧ r'.L = r.L ∧ Rs.clsL f r c = Rs.clsL (f - l.length) r' ⟨c.name, c.iface, c.super, c.ifaces, c.fields ++ l, c.methods⟩
  | [], f, r, c, ts, _, _, _, h => ⟨r, h, rfl, by rw [List.append_nil]; rfl⟩
  | x :: l, 0, _, _, _, _, _, hf, _ => by simp at hf
  | x :: l, f + 1, r, c, ts, hs, hl, hf, h => by
    have h : At r (tks (fldF x) ++ (tks (l.flatMap fldF) ++ ts)) := by
      simpa [tks, List.flatMap_cons] using h
    simp only [List.length_cons] at hl hf
    obtain ⟨g1, g2, g3⟩ := at_member_f (c := c) (hs x (by simp)) (by omega) h
    obtain ⟨r', i1, i2, i3⟩ := at_fields l f (r.member c).2 (r.member c).1 ts (fun y hy => hs y (by simp [hy])) (by rw [g2]; simp; omega) (by omega) g3
    refine ⟨r', i1, i2.trans (Rs.member_fwd r c).L, ?_⟩
    rw [Rs.clsL, if_pos h.e, if_neg (by rw [g1]; decide), i3, g2]
    simp only [List.append_assoc, List.singleton_append, List.length_cons]
    rw [show f + 1 - (l.length + 1) = f - l.length by omega]
theorem at_methods : ∀ (l : List Meth) (f : Nat) (r : Rs) (c : Cls) (ts : List T3), (∀ x ∈ l, methOk x = true) → c.methods.length + l.length ≤ 6 → l.length ≤ f → At r (tks (l.flatMap doesF) ++ ts) →
    ∃ r', At r' ts ∧ r'.L = r.L ∧ Rs.clsL f r c = Rs.clsL (f - l.length) r' ⟨c.name, c.iface, c.super, c.ifaces, c.fields, c.methods ++ l⟩
  | [], f, r, c, ts, _, _, _, h => ⟨r, h, rfl, by rw [List.append_nil]; rfl⟩
  | x :: l, 0, _, _, _, _, _, hf, _ => by simp at hf
  | x :: l, f + 1, r, c, ts, hs, hl, hf, h => by
    have h : At r (tks (doesF x) ++ (tks (l.flatMap doesF) ++ ts)) := by
      simpa [tks, List.flatMap_cons] using h
    simp only [List.length_cons] at hl hf
    obtain ⟨g1, g2, g3⟩ := at_member_m (c := c) (hs x (by simp)) (by omega) h
    obtain ⟨r', i1, i2, i3⟩ := at_methods l f (r.member c).2 (r.member c).1 ts (fun y hy => hs y (by simp [hy])) (by rw [g2]; simp; omega) (by omega) g3
    refine ⟨r', i1, i2.trans (Rs.member_fwd r c).L, ?_⟩
    rw [Rs.clsL, if_pos h.e, if_neg (by rw [g1]; decide), i3, g2]
    simp only [List.append_assoc, List.singleton_append, List.length_cons]
    rw [show f + 1 - (l.length + 1) = f - l.length by omega]
theorem cls_parts {c : Cls} (h : clsOk c = true) : freshW c.name = true ∧ (c.super = noS ∨ (c.iface = false ∧ freshW c.super = true)) ∧ (c.ifaces.length ≤ 4 ∧ ∀ x ∈ c.ifaces, freshW x = true) ∧ (c.fields.length ≤ 6 ∧ ∀ x ∈ c.fields, fldOk x = true) ∧ c.methods.length ≤ 6 ∧ ∀ x ∈ c.methods, methOk x = true := by
  unfold clsOk at h
  simp only [Bool.and_eq_true, Bool.or_eq_true, decide_eq_true_eq, List.all_eq_true, Bool.not_eq_true'] at h
  exact h
theorem at_ex {c : Cls} {r : Rs} {ts : List T3} (h2 : c.super = noS ∨ (c.iface = false ∧ freshW c.super = true)) (h3 : c.ifaces.length ≤ 4 ∧ ∀ x ∈ c.ifaces, freshW x = true)
    (h : At r (tks (if c.super = noS then [] else [wExtends, c.super]) ++ (tks (listF (if c.iface then wExtends else wImplements) c.ifaces) ++ (3, wLc, 0) :: ts))) :
    (r.ex1 c.iface).1.1 = c.super ∧ ((r.ex1 c.iface).2.ex2 c.iface (r.ex1 c.iface).1.2).1 = c.ifaces ∧ At ((r.ex1 c.iface).2.ex2 c.iface (r.ex1 c.iface).1.2).2 ((3, wLc, 0) :: ts) := by
  cases hi : c.iface with
  | true =>
    have hs : c.super = noS := h2.resolve_right fun q => by rw [hi] at q; cases q.1
    rw [hs, if_pos rfl, hi, if_pos rfl] at h
    cases hl : c.ifaces with
    | nil =>
      rw [hl] at h
      have h : At r ((3, wLc, 0) :: ts) := h
      have hn : r.is wExtends = false := at_no h (by decide)
      have e : r.ex1 true = ((noS, []), r) := by unfold Rs.ex1; rw [if_neg (by rw [hn]; decide)]
      rw [e]
      exact ⟨hs.symm, rfl, h⟩
    | cons s l =>
      rw [hl] at h h3
      have h : At r ((1, wExtends, 0) :: tokT s :: (tks (l.flatMap fun x => [wComma, x]) ++ (3, wLc, 0) :: ts)) := by
        rw [← T_extends.1]; exact h
      have hy : r.is wExtends = true := at_yes h (by decide)
      obtain ⟨n1, n2⟩ := at_names h3.2 h3.1 (at_cons h).2.2 (noW_cons (by decide))
      have e : r.ex1 true = ((noS, r.step.names.1), r.step.names.2) := by unfold Rs.ex1; rw [if_pos hy, if_pos rfl]
      rw [e]
      exact ⟨hs.symm, n1, n2⟩
  | false =>
    rw [hi] at h
    have hE : ∃ r', r.ex1 false = ((c.super, []), r') ∧ At r' (tks (listF wImplements c.ifaces) ++ (3, wLc, 0) :: ts) := by
      by_cases hs : c.super = noS
      · rw [if_pos hs] at h
        have h : At r (tks (listF wImplements c.ifaces) ++ (3, wLc, 0) :: ts) := h
        have hn : r.is wExtends = false := by
          refine at_noW h ?_
          cases c.ifaces with
          | nil => exact noW_cons (by decide)
          | cons s l =>
            show noW (tokT wImplements :: _) wExtends
            rw [T_implements.1]
            exact noW_cons (by decide)
        exact ⟨r, by unfold Rs.ex1; rw [if_neg (by rw [hn]; decide), hs], h⟩
      · rw [if_neg hs] at h
        have hf : freshW c.super = true := (h2.resolve_left hs).2
        have h : At r ((1, wExtends, 0) :: (1, c.super, 0) :: (tks (listF wImplements c.ifaces) ++ (3, wLc, 0) :: ts)) := by
          rw [← T_extends.1, ← (fresh_T hf).1]; exact h
        have hy : r.is wExtends = true := at_yes h (by decide)
        obtain ⟨-, f2, f3⟩ := at_fresh (at_cons h).2.2 (fresh_T hf).2.2
        exact ⟨r.step.fresh, by unfold Rs.ex1; rw [if_pos hy, if_neg (by decide), f2], f3⟩
    obtain ⟨r', e1, e2⟩ := hE
    rw [e1]
    cases hl : c.ifaces with
    | nil =>
      rw [hl] at e2
      have e2 : At r' ((3, wLc, 0) :: ts) := e2
      have hn : r'.is wImplements = false := at_no e2 (by decide)
      have e : r'.ex2 false [] = ([], r') := by unfold Rs.ex2; rw [if_neg (by rw [hn]; decide)]
      rw [e]
      exact ⟨rfl, rfl, e2⟩
    | cons s l =>
      rw [hl] at e2 h3
      have e2 : At r' ((1, wImplements, 0) :: tokT s :: (tks (l.flatMap fun x => [wComma, x]) ++ (3, wLc, 0) :: ts)) := by
        rw [← T_implements.1]; exact e2
      have hy : r'.is wImplements = true := at_yes e2 (by decide)
      obtain ⟨n1, n2⟩ := at_names h3.2 h3.1 (at_cons e2).2.2 (noW_cons (by decide))
      have e : r'.ex2 false [] = r'.step.names := by unfold Rs.ex2; rw [if_pos (by rw [hy]; rfl)]
      rw [e]
      exact ⟨rfl, n1, n2⟩
theorem at_class {c : Cls} {r : Rs} {ts : List T3} {many : Int} (hc : clsOk c = true) (hm : many < 10) (h : At r (tks (wordsC c) ++ ts)) : (r.class' many).1 = c ∧ At (r.class' many).2 ts := by
  obtain ⟨h1, h2, h3, h4, h5⟩ := cls_parts hc
  have h : At r ((1, if c.iface then wInterface else wClass, 0) :: (1, c.name, 0) :: (tks (if c.super = noS then [] else [wExtends, c.super]) ++ (tks (listF (if c.iface then wExtends else wImplements) c.ifaces) ++ (3, wLc, 0) :: (tks (c.fields.flatMap fldF) ++ (tks (c.methods.flatMap doesF) ++ (3, wRc, 0) :: ts))))) := by
    have e : (1, if c.iface then wInterface else wClass, 0) = tokT (if c.iface then wInterface else wClass) := by
      cases c.iface
      · exact T_class.1.symm
      · exact T_interface.1.symm
    rw [e, ← (fresh_T h1).1, ← T_lc.1, ← T_rc.1]
    have := h
    unfold wordsC at this
    simpa [tks] using this
  have hw : (if c.iface then wInterface else wClass) ≠ noS := by cases c.iface <;> decide
  have hi : r.is wInterface = c.iface := by
    rw [at_is h]; cases c.iface <;> decide
  have hor : (r.is wClass || r.is wInterface) = true := by
    rw [at_is h, at_is h]; cases c.iface <;> decide
  have e1 : r.cl1 many = r.want (if c.iface then wInterface else wClass) := by
    unfold Rs.cl1
    rw [if_pos hor, room_lt _ hm, hi]
  have g1 := at_want h hw
  obtain ⟨-, f2, f3⟩ := at_fresh g1 (fresh_T h1).2.2
  obtain ⟨x1, x2, x3⟩ := at_ex h2 h3 f3
  have g4 : At (r.clR many) (tks (c.fields.flatMap fldF) ++ (tks (c.methods.flatMap doesF) ++ (3, wRc, 0) :: ts)) := by
    unfold Rs.clR
    rw [e1, hi]
    exact at_want x3 (by decide)
  have hV : r.clV many = ⟨c.name, c.iface, c.super, c.ifaces, [], []⟩ := by
    unfold Rs.clV
    rw [e1, hi, f2, x1, x2]
  have hL : (r.clR many).L = r.L := (Rs.clR_fwd r many).L
  have hlen := at_len g4
  rw [hL] at hlen
  have hf1 := flat_len fldF c.fields (fun x _ => by simp [fldF])
  have hf2 := flat_len doesF c.methods (fun x _ => by simp [doesF])
  simp only [List.length_cons, List.length_append, List.length_map] at hlen
  unfold Rs.class'
  rw [hV]
  obtain ⟨r1, i1, i2, i3⟩ := at_fields c.fields (r.L.length + 2) (r.clR many) ⟨c.name, c.iface, c.super, c.ifaces, [], []⟩ _ h4.2 (by simp; omega) (by omega) g4
  rw [i3]
  obtain ⟨r2, j1, j2, j3⟩ := at_methods c.methods (r.L.length + 2 - c.fields.length) r1 ⟨c.name, c.iface, c.super, c.ifaces, [] ++ c.fields, []⟩ _ h5.2 (by simp; omega) (by omega) i1
  rw [j3]
  obtain ⟨f, hf⟩ : ∃ f, r.L.length + 2 - c.fields.length - c.methods.length = f + 1 := ⟨r.L.length + 2 - c.fields.length - c.methods.length - 1, by omega⟩
  rw [hf, Rs.clsL, if_pos j1.e, if_pos (at_yes j1 (by decide))]
  refine ⟨?_, (at_cons j1).2.2⟩
  cases c; rfl
theorem at_prgL : ∀ (l : List Cls) (f : Nat) (r : Rs) (out : List Cls), (∀ x ∈ l, clsOk x = true) → out.length + l.length ≤ 10 → l.length < f → At r (tks (l.flatMap wordsC)) → (Rs.prgL f r out).1 = out ++ l ∧ (Rs.prgL f r out).2.e = 0
  | _, 0, _, _, _, _, hf, _ => by omega
  | [], f + 1, r, out, _, _, _, h => by
    have hn : ¬ (r.e = 0 ∧ r.i < r.L.length) := fun c => by
      have := at_len h
      simp at this; omega
    rw [Rs.prgL, if_neg hn]
    exact ⟨by simp, h.e⟩
  | x :: l, f + 1, r, out, hs, hl, hf, h => by
    have h : At r (tks (wordsC x) ++ tks (l.flatMap wordsC)) := by
      simpa [tks, List.flatMap_cons] using h
    simp only [List.length_cons] at hl hf
    obtain ⟨g1, g2⟩ := at_class (many := out.length) (hs x (by simp)) (by omega) h
    have hy : r.e = 0 ∧ r.i < r.L.length := ⟨h.e, by
      have := at_len h
      have h2 : 0 < (wordsC x).length := by simp [wordsC]
      simp only [List.length_append, List.length_map] at this
      omega⟩
    rw [Rs.prgL, if_pos hy, g1]
    have := at_prgL l f _ (out ++ [x]) (fun y hy => hs y (by simp [hy])) (by simp; omega) (by omega) g2
    exact ⟨by rw [this.1]; simp, this.2⟩

/-! ### The text's words -/
theorem sep_blank (w : ByteArray) : isBlank (sepOf w) = true ∧ isAl (sepOf w) = false := by
  unfold sepOf
  split
  · exact ⟨by decide, by decide⟩
  · exact ⟨by decide, by decide⟩
theorem scan_words : ∀ (ws : List ByteArray) (i : Nat), (∀ w ∈ ws, tokB w = true) → ∃ l, scanI i (ws.flatMap putW) = (l, none) ∧ l.map s3 = tks ws
  | [], i, _ => ⟨[], scanI_nil i, rfl⟩
  | w :: ws, i, h => by
    obtain ⟨l, h1, h2⟩ := scan_words ws (i + w.data.toList.length + 1) (fun x hx => h x (by simp [hx]))
    have hb := sep_blank w
    refine ⟨setAt (tokenF w.data.toList).1 i :: l, ?_, ?_⟩
    · rw [List.flatMap_cons]
      have e : putW w ++ ws.flatMap putW = w.data.toList ++ (sepOf w :: ws.flatMap putW) := by simp [putW]
      rw [e, scan_word i (w := w.data.toList) (r := sepOf w :: ws.flatMap putW) (h w (by simp)) (.inr hb.2)]
      have := scan_blanks (i + w.data.toList.length) [sepOf w] (ws.flatMap putW) (by simp [hb.1])
      rw [show sepOf w :: ws.flatMap putW = [sepOf w] ++ ws.flatMap putW from rfl, this]
      simp only [List.length_cons, List.length_nil]
      rw [h1]
    · rw [List.map_cons, h2]; rfl
theorem kind_tok {t : Ty} (ht : tyOk t = true) : ∀ w ∈ kindW t, tokB w = true := by
  obtain ⟨k, s⟩ := t
  unfold tyOk typedF at ht
  unfold kindW kindF
  simp only at ht ⊢
  have a1 : tokB (⟨#[118, 111, 105, 100]⟩ : ByteArray) = true := T_void.2
  have a2 : tokB (⟨#[105, 110, 116]⟩ : ByteArray) = true := T_int.2
  have a3 : tokB (⟨#[91]⟩ : ByteArray) = true := T_lb.2
  have a4 : tokB (⟨#[93]⟩ : ByteArray) = true := T_rb.2
  by_cases h1 : k = 1
  · rw [if_pos h1]; intro w hw; simp at hw; rw [hw]; exact a1
  · rw [if_neg h1]
    by_cases h2 : k = 2
    · rw [if_pos h2]; intro w hw; simp at hw; rw [hw]; exact a2
    · rw [if_neg h2]
      by_cases h4 : k = 4
      · rw [if_pos h4]; intro w hw; simp at hw; rcases hw with rfl | rfl | rfl <;> assumption
      · rw [if_neg h4]
        rw [if_neg (by omega)] at ht
        have h35 : k = 3 ∨ k = 5 := by
          by_cases c : k = 3 ∨ k = 5
          · exact c
          · rw [if_neg c] at ht; cases ht
        rw [if_pos h35] at ht
        have hf : freshW s = true := ht
        have a5 := (fresh_T hf).2.1
        by_cases h5 : k = 5
        · rw [if_pos h5]; intro w hw; simp at hw; rcases hw with rfl | rfl | rfl <;> assumption
        · rw [if_neg h5]; intro w hw; simp at hw; rw [hw]; exact a5
def Toks (ws : List ByteArray) : Prop := ∀ w ∈ ws, tokB w = true
theorem Toks.app {a b : List ByteArray} (h : Toks a) (k : Toks b) : Toks (a ++ b) := fun w hw => (List.mem_append.1 hw).elim (h w) (k w)
theorem Toks.nil : Toks [] := fun _ h => by cases h
theorem Toks.cons {w : ByteArray} {ws : List ByteArray} (h : tokB w = true) (k : Toks ws) : Toks (w :: ws) := fun x hx => (List.mem_cons.1 hx).elim (fun e => e ▸ h) (k x)
theorem Toks.flat {α : Type} {g : α → List ByteArray} {l : List α} (h : ∀ x ∈ l, Toks (g x)) : Toks (l.flatMap g) := fun w hw => by
  obtain ⟨x, h1, h2⟩ := List.mem_flatMap.1 hw
  exact h x h1 w h2
theorem code_tok {x : Ins} (hx : insOk x = true) : Toks (codeF x) := by
  obtain ⟨h1, h2, h3, h4, h5, h6⟩ := ins_parts hx
  have hR := nums_R x.op
  unfold codeF
  refine .app (.cons (name_T (word_op h1 h2).1).2 .nil) (.app ?_ (.app ?_ (.app ?_ (.cons T_semi.2 .nil))))
  · split
    · exact .cons (num_T ⟨by omega, by omega⟩).2 .nil
    · exact .nil
  · split
    · exact .nil
    · rename_i hne
      cases hb : decide (namesF x.op > 0) with
      | true => rw [hb] at h5; exact .cons (fresh_T ((named_T h5).1 rfl)).2.1 .nil
      | false => rw [hb] at h5; exact absurd ((named_T h5).2 rfl) hne
  · split
    · exact .nil
    · rename_i hne
      cases hb : decide (namesF x.op > 1) with
      | true => rw [hb] at h6; exact .cons (fresh_T ((named_T h6).1 rfl)).2.1 .nil
      | false => rw [hb] at h6; exact absurd ((named_T h6).2 rfl) hne
theorem cat_tok {c : Cat} (hc : catOk c = true) : Toks (catF c) := by
  obtain ⟨h1, h2, h3, h4⟩ := cat_parts hc
  exact .cons T_catch.2 (.cons (fresh_T h1).2.1 (.cons (num_T ⟨by omega, by omega⟩).2 (.cons (num_T ⟨by omega, by omega⟩).2 (.cons (num_T ⟨by omega, by omega⟩).2 (.cons T_semi.2 .nil)))))
theorem params_tok {ps : List Ty} (h : ∀ t ∈ ps, tyOk t = true) : Toks (paramsF ps) := by
  cases ps with
  | nil => exact .nil
  | cons t l =>
    unfold paramsF
    exact .app (kind_tok (h t (by simp))) (.flat fun x hx => .cons T_comma.2 (kind_tok (h x (by simp [hx]))))
theorem does_tok {m : Meth} (hm : methOk m = true) : Toks (doesF m) := by
  obtain ⟨p1, p2, p3, p4, p5, p6, p7⟩ := meth_parts hm
  unfold doesF
  refine .app (.cons ?_ (.cons (fresh_T p2).2.1 (.cons T_lp.2 .nil))) (.app (params_tok p3.2) (.app (.cons T_rp.2 .nil) (.app (kind_tok p4) ?_)))
  · split
    · exact T_function.2
    · exact T_method.2
  · split
    · exact .cons T_semi.2 .nil
    · exact .app (.cons T_locals.2 (.cons (num_T ⟨by omega, by omega⟩).2 (.cons T_lc.2 .nil))) (.app (.flat fun x hx => code_tok (p6.2 x hx)) (.app (.flat fun x hx => cat_tok (p7.2 x hx)) (.cons T_rc.2 .nil)))
theorem fld_tok {f : Fld} (hf : fldOk f = true) : Toks (fldF f) := by
  unfold fldOk at hf
  rw [Bool.and_eq_true] at hf
  unfold fldF
  refine .app (.cons ?_ (.cons (fresh_T hf.1).2.1 (.cons T_colon.2 .nil))) (.app (kind_tok hf.2) (.cons T_semi.2 .nil))
  split
  · exact T_static.2
  · exact T_field.2
theorem cls_tok {c : Cls} (hc : clsOk c = true) : Toks (wordsC c) := by
  obtain ⟨h1, h2, h3, h4, h5⟩ := cls_parts hc
  unfold wordsC
  refine .app (.cons ?_ (.cons (fresh_T h1).2.1 .nil)) (.app ?_ (.app ?_ (.app (.cons T_lc.2 .nil) (.app (.flat fun x hx => fld_tok (h4.2 x hx)) (.app (.flat fun x hx => does_tok (h5.2 x hx)) (.cons T_rc.2 .nil))))))
  · split
    · exact T_interface.2
    · exact T_class.2
  · split
    · exact .nil
    · rename_i hne
      exact .cons T_extends.2 (.cons (fresh_T (h2.resolve_left hne).2).2.1 .nil)
  · cases hl : c.ifaces with
    | nil => exact .nil
    | cons s l =>
      rw [hl] at h3
      refine .app (.cons ?_ (.cons (fresh_T (h3.2 s (by simp))).2.1 .nil)) (.flat fun x hx => .cons T_comma.2 (.cons (fresh_T (h3.2 x (by simp [hx]))).2.1 .nil))
      split
      · exact T_extends.2
      · exact T_implements.2
theorem prg_parts {p : List Cls} (h : prgOk p = true) : p.length ≤ 10 ∧ ∀ c ∈ p, clsOk c = true := by
  unfold prgOk at h
  simpa using h
theorem text_words (p : List Cls) : textP p = (p.flatMap wordsC).flatMap putW := by
  unfold textP
  rw [List.flatMap_assoc]; rfl
theorem scan_text {p : List Cls} (h : prgOk p = true) (hl : (textP p).length ≤ 6000) : ∃ l, scanF (textP p) = (l, 0, 0) ∧ l.map s3 = tks (p.flatMap wordsC) := by
  obtain ⟨l, h1, h2⟩ := scan_words (p.flatMap wordsC) 0 (Toks.flat fun c hc => cls_tok ((prg_parts h).2 c hc))
  refine ⟨l, ?_, h2⟩
  rw [← text_words] at h1
  unfold scanF
  rw [if_neg (by omega), h1]
theorem parse_text {p : List Cls} (h : prgOk p = true) (hl : (textP p).length ≤ 6000) : parseF (textP p) = (p, 0, 0) := by
  obtain ⟨l, h1, h2⟩ := scan_text h hl
  obtain ⟨h3, h4⟩ := prg_parts h
  have hat : At (parse0 (textP p)) (tks (p.flatMap wordsC)) := ⟨rfl, by show ((scanF (textP p)).1.drop 0).map s3 = _; rw [h1]; exact h2⟩
  have hlen := at_len hat
  have hfl := flat_len wordsC p (fun x _ => by simp [wordsC])
  have hL : (parse0 (textP p)).L.length - (parse0 (textP p)).i = (scanF (textP p)).1.length := by simp [parse0]
  rw [hL] at hlen
  simp only [List.length_map] at hlen
  have := at_prgL p ((scanF (textP p)).1.length + 2) (parse0 (textP p)) [] h4 (by simpa using h3) (by omega) hat
  unfold parseF
  rw [if_pos (by rw [h1]), if_pos this.2, this.1]
  rfl
end Go.Proofs.YtimhbimpaiiceaaDoor.Ax
