/- A region whose order is open: any order that its edges allow comes to the same. -/
import Derived.Test.YtimhbimpaiiceaaDoorA6
set_option linter.unusedVariables false
set_option linter.unusedSimpArgs false
namespace Go.Proofs.YtimhbimpaiiceaaDoor.Ax
open Go Go.RowKit

/-! ### 1. What an operation hangs on -/
theorem mem_tmpsIn {op : Op} {t : Nat} (h : (Operand.tmp t) ∈ op.operands) : t ∈ tmpsIn op := by
  unfold tmpsIn
  rw [List.mem_filterMap]
  exact ⟨.tmp t, by simpa using h, rfl⟩
theorem fillK_congr {ρ ρ' : Operand → SV} : ∀ (l : List (Nat × Operand)) (place : Nat → (Nat → Nat → Prop) → Prop) (cs : List SV) (k : List SV → Prop), (∀ p ∈ l, ρ p.2 = ρ' p.2) → fillK ρ place l cs k = fillK ρ' place l cs k
  | [], _, _, _, _ => rfl
  | (i, x) :: r, place, cs, k, h => by
    have e : ∀ cs, fillK ρ place r cs k = fillK ρ' place r cs k := fun cs => fillK_congr r place cs k fun p hp => h p (List.mem_cons_of_mem _ hp)
    simp only [fillK, e, h (i, x) List.mem_cons_self]
theorem stepB_congr {E : Env} {d : Nat} {op : Op} {ρ ρ' : Operand → SV} {bx : Tr (Option (List SV))} {k : SV → Tr (Option (List SV)) → Prop}
    (h : ∀ x ∈ op.operands, ρ x = ρ' x) : stepB E d op ρ bx k = stepB E d op ρ' bx k := by
  cases op with
  | move x => simp only [stepB, h x (by simp [Op.operands])]
  | assign x => simp only [stepB, h x (by simp [Op.operands])]
  | pick c x y => simp only [stepB, h c (by simp [Op.operands]), h x (by simp [Op.operands]), h y (by simp [Op.operands])]
  | alloc t => rfl
  | box t x => simp only [stepB, h x (by simp [Op.operands])]
  | load t x => simp only [stepB, h x (by simp [Op.operands])]
  | store t x y => simp only [stepB, h x (by simp [Op.operands]), h y (by simp [Op.operands])]
  | fieldAddr t x f => simp only [stepB, h x (by simp [Op.operands])]
  | field t x f => simp only [stepB, h x (by simp [Op.operands])]
  | indexAddr t x i => simp only [stepB, h x (by simp [Op.operands]), h i (by simp [Op.operands])]
  | binOp op t x y u => simp only [stepB, h x (by simp [Op.operands]), h y (by simp [Op.operands])]
  | unOp op t x => simp only [stepB, h x (by simp [Op.operands])]
  | extract x i => simp only [stepB, h x (by simp [Op.operands])]
  | call c =>
    have : c.args.toList.map ρ = c.args.toList.map ρ' := by
      apply List.map_congr_left
      intro x hx
      refine h x ?_
      simp only [Op.operands, Call.operands, Array.mem_append]
      exact .inr (by simpa using hx)
    simp only [stepB, this]
    cases hb : bcall E.bs c.callee with
    | some g => rfl
    | none =>
    cases hc : c.callee with
    | value f =>
      simp only [callK]
      rw [h f (by simp [Op.operands, Call.operands, hc])]
    | builtin b => cases b <;> rfl
    | invoke _ _ => rfl
  | build t parts =>
    have key : ∀ (l : List (Nat × Operand)) (place : Nat → (Nat → Nat → Prop) → Prop) (cs : List SV) (k : List SV → Prop), (∀ p ∈ l, ρ p.2 = ρ' p.2) → fillK ρ place l cs k = fillK ρ' place l cs k := fillK_congr
    simp only [stepB, buildK]
    congr 1
    funext ti
    cases ti.flds with
    | nil => rfl
    | cons _ _ => simp only [fun place cs k => key parts.toList place cs k fun p hp => h p.2 (by simp only [Op.operands]; exact List.mem_toArray.2 (List.mem_map.2 ⟨p, hp, rfl⟩))]
  | buildSlice t len parts =>
    simp only [stepB, buildSliceK, buildVecK, fun place cs k => fillK_congr (ρ := ρ) (ρ' := ρ') parts.toList place cs k fun p hp => h p.2 (by simp only [Op.operands]; exact List.mem_toArray.2 (List.mem_map.2 ⟨p, hp, rfl⟩))]
  | slice t x lo hi mx =>
    cases mx with
    | some m =>
      have hlo : lo.map ρ = lo.map ρ' := by cases lo with
        | none => rfl
        | some y => simp only [Option.map_some]; rw [h y (by simp [Op.operands])]
      cases hi with
      | none => simp only [stepB, sliceK, hlo, h x (by simp [Op.operands]), h m (by simp [Op.operands])]
      | some hh => simp only [stepB, sliceK, hlo, h x (by simp [Op.operands]), h m (by simp [Op.operands]), h hh (by simp [Op.operands])]
    | none =>
      have hlo : lo.map ρ = lo.map ρ' := by cases lo with
        | none => rfl
        | some y => simp only [Option.map_some]; rw [h y (by simp [Op.operands])]
      have hhi : hi.map ρ = hi.map ρ' := by cases hi with
        | none => rfl
        | some y => simp only [Option.map_some]; rw [h y (by simp [Op.operands])]
      simp only [stepB, sliceK, hlo, hhi, h x (by simp [Op.operands])]
  | makeFunc f fs cs =>
    have : cs.toList.map ρ = cs.toList.map ρ' := List.map_congr_left fun x hx => h x (by simp only [Op.operands, Array.mem_append]; exact .inr (by simpa using hx))
    simp only [stepB, makeFuncK, this]
  | makeSlice t x y => simp only [stepB, h x (by simp [Op.operands]), h y (by simp [Op.operands])]
  | nilCheck x => simp only [stepB, h x (by simp [Op.operands])]
  | convert s t x => simp only [stepB, h x (by simp [Op.operands])]
  | index t x i => simp only [stepB, h x (by simp [Op.operands]), h i (by simp [Op.operands])]
  | _ => rfl
/-- what neither reads nor writes boxes leaves them, and hangs on none -/
theorem stepB_free {E : Env} {d : Nat} {op : Op} {ρ : Operand → SV} {bx b : Tr (Option (List SV))} {v : SV} (h1 : memR op = false) (h2 : memW E.bs op = false)
    (h : ∀ k' : SV → Tr (Option (List SV)) → Prop, k' v b → stepB E d op ρ bx k') : b = bx ∧ ∀ (bx' : Tr (Option (List SV))) (k' : SV → Tr (Option (List SV)) → Prop), k' v bx' → stepB E d op ρ bx' k' := by
  have key : ∀ (F : (SV → Prop) → Prop), (∀ k : SV → Tr (Option (List SV)) → Prop, ∀ bx, stepB E d op ρ bx k = F fun v => k v bx) → (∀ {k : SV → Prop}, F k → ∃ y, (∀ k' : SV → Prop, k' y → F k') ∧ k y) →
      b = bx ∧ ∀ (bx' : Tr (Option (List SV))) (k' : SV → Tr (Option (List SV)) → Prop), k' v bx' → stepB E d op ρ bx' k' := by
    intro F hF hrel
    have h3 := h (fun v' b' => v' = v ∧ b' = b) ⟨rfl, rfl⟩
    rw [hF] at h3
    obtain ⟨y, h4, rfl, h5⟩ := hrel h3
    refine ⟨h5.symm, fun bx' k' hk' => ?_⟩
    rw [hF]
    exact h4 _ hk'
  have dead : (stepB E d op ρ bx (fun _ _ => True) → False) → b = bx ∧ ∀ (bx' : Tr (Option (List SV))) (k' : SV → Tr (Option (List SV)) → Prop), k' v bx' → stepB E d op ρ bx' k' :=
    fun hd => (hd (h _ trivial)).elim
  cases op with
  | move x => exact key (fun k => force (ρ x) k) (fun k bx => rfl) (fun h => by rw [force_eq] at h; exact ⟨_, fun k' hk' => by rw [force_eq]; exact hk', h⟩)
  | assign x => exact key (fun k => force (ρ x) k) (fun k bx => rfl) (fun h => by rw [force_eq] at h; exact ⟨_, fun k' hk' => by rw [force_eq]; exact hk', h⟩)
  | binOp op t x y u => exact key (fun k => binK E t op (ρ x) (ρ y) (isConst x || isConst y) k) (fun k bx => rfl) (fun h => binK_rel h)
  | unOp op t x => exact key (fun k => unK op (ρ x) k) (fun k bx => rfl) (fun h => unK_rel h)
  | call c =>
    cases hc : c.callee with
    | value f => simp [memR, hc] at h1
    | builtin b =>
      have hcl : isClear c.callee = false := by
        cases hcl : isClear c.callee with
        | false => rfl
        | true => simp [memW, hcl] at h2
      refine key (fun k => callK E d .nil c.callee ρ (c.argTypes.toList) (c.args.toList.map ρ) k) (fun k bx => ?_) (fun h => callK_rel h)
      simp only [stepB]
      rw [hcl, hc]
      rfl
    | invoke a b => exact dead (fun h => by simp only [stepB, hc] at h; exact h.elim)
  | build t parts => exact key (fun k => buildK E ρ t parts.toList k) (fun k bx => rfl) (fun h => buildK_rel h)
  | buildSlice t len parts =>
    have hv : vecD E.bs d = false := by
      cases hv : vecD E.bs d with
      | false => rfl
      | true => rw [show memW E.bs (.buildSlice t len parts) = hasVec E.bs from rfl, memN_hasVec hv] at h2; cases h2
    exact key (fun k => buildSliceK E d ρ t len parts.toList k) (fun k bx => by simp only [stepB]; rw [hv]) (fun h => buildSliceK_rel h)
  | makeSlice t x y => simp [memW] at h2
  | slice t x lo hi mx => exact key (fun k => sliceK E ρ t x lo hi mx k) (fun k bx => rfl) (fun h => sliceK_rel h)
  | makeFunc f fs cs => exact key (fun k => makeFuncK ρ f fs.toList cs.toList k) (fun k bx => rfl) (fun h => makeFuncK_rel h)
  | convert s t x => exact key (fun k => convK E s t (ρ x) k) (fun k bx => rfl) (fun h => convK_rel h)
  | index t x i => exact key (fun k => indexK E t (ρ x) (ρ i) k) (fun k bx => rfl) (fun h => indexK_rel h)
  | alloc t => simp [memW] at h2
  | box t x => simp [memW] at h2
  | load t x => simp [memR] at h1
  | nilCheck x =>
    have h3 := h (fun v' b' => v' = v ∧ b' = b) ⟨rfl, rfl⟩
    simp only [stepB] at h3 ⊢
    cases hc : ρ x <;> rw [hc] at h3 <;> first | exact h3.elim | (obtain ⟨rfl, e⟩ := h3; exact ⟨e.symm, fun bx' k' hk' => hk'⟩)
  | store t x y => simp [memW] at h2
  | pick c x y =>
    have h3 := h (fun v' b' => v' = v ∧ b' = b) ⟨rfl, rfl⟩
    simp only [stepB, force_eq] at h3 ⊢
    cases hc : ρ c <;> rw [hc] at h3 <;> first | exact h3.elim | exact ⟨h3.2.symm, fun bx' k' hk' => by rw [show _ = v from h3.1]; exact hk'⟩
  | fieldAddr t x f =>
    cases hx : ρ x with
    | box b0 o => exact key (fun k => tiK E.ty t fun t => fldK t.flds f fun q _ => k (.box b0 (o + q))) (fun k bx => by simp only [stepB, hx]) (fun h => by
        obtain ⟨ti, h1, h2⟩ := tiK_rel h
        obtain ⟨q, u, h3, h4⟩ := fldK_rel h2
        exact ⟨_, fun k' hk' => h1 _ (h3 _ hk'), h4⟩)
    | elt X z cs dd l i o => exact key (fun k => tiK E.ty t fun t => fldK t.flds f fun q _ => k (.elt X z cs dd l i (o + q))) (fun k bx => by simp only [stepB, hx]) (fun h => by
        obtain ⟨ti, h1, h2⟩ := tiK_rel h
        obtain ⟨q, u, h3, h4⟩ := fldK_rel h2
        exact ⟨_, fun k' hk' => h1 _ (h3 _ hk'), h4⟩)
    | plc b0 z i o => exact key (fun k => tiK E.ty t fun t => fldK t.flds f fun q _ => k (.plc b0 z i (o + q))) (fun k bx => by simp only [stepB, hx]) (fun h => by
        obtain ⟨ti, h1, h2⟩ := tiK_rel h
        obtain ⟨q, u, h3, h4⟩ := fldK_rel h2
        exact ⟨_, fun k' hk' => h1 _ (h3 _ hk'), h4⟩)
    | _ => exact dead (fun h => by simp only [stepB, hx] at h)
  | field t x f =>
    cases hx : ρ x with
    | agg l =>
      refine key (fun k => tiK E.ty t fun t => fldK t.flds f fun q u => tiK E.ty u fun u => match Nat.ble (q + u.size) l.length with
        | true => wholeK u.agg (takeN u.size (dropN q l)) fun v => k v
        | false => False) ?_ ?_
      · intro k bx
        simp only [stepB, hx]
        rfl
      · intro k h
        obtain ⟨ti, h1, h2⟩ := tiK_rel h
        obtain ⟨q, u, h3, h4⟩ := fldK_rel h2
        obtain ⟨ui, h5, h6⟩ := tiK_rel h4
        cases hl : Nat.ble (q + ui.size) l.length with
        | false => rw [hl] at h6; exact h6.elim
        | true =>
          rw [hl] at h6
          simp only [wholeK_eq] at h6 h1 h3 h5 ⊢
          refine ⟨_, fun k' hk' => h1 _ (h3 _ (h5 _ ?_)), h6⟩
          rw [hl]; exact hk'
    | _ => exact dead (fun h => by simp only [stepB, hx] at h)
  | indexAddr t x i =>
    cases hi : ρ i with
    | val u =>
      cases u with
      | int kk n =>
        cases hx : ρ x with
        | row X z cs dd l =>
          refine key (fun k => tiK E.ty t fun t => tiK E.ty t.elem fun u => match Nat.beq z u.size with
            | true => match t.slice with
              | true => (0 ≤ n ∧ n < (l.length : Int)) ∧ k (.elt X z cs dd l n 0)
              | false => False
            | false => False) ?_ ?_
          · intro k bx
            simp only [stepB, hi, hx]
            rfl
          · intro k h
            obtain ⟨ti, h1, h2⟩ := tiK_rel h
            obtain ⟨ui, h3, h4⟩ := tiK_rel h2
            cases hz : Nat.beq z ui.size with
            | false => rw [hz] at h4; exact h4.elim
            | true =>
              rw [hz] at h4
              simp only at h4
              cases hs : ti.slice with
              | false => rw [hs] at h4; exact h4.elim
              | true =>
                rw [hs] at h4
                refine ⟨_, fun k' hk' => h1 _ (h3 _ ?_), h4.2⟩
                rw [hz, hs]; exact ⟨h4.1, hk'⟩
        | own X z cs dd l id =>
          refine key (fun k => tiK E.ty t fun t => tiK E.ty t.elem fun u => match Nat.beq z u.size with
            | true => match t.slice with
              | true => (0 ≤ n ∧ n < (l.length : Int)) ∧ k (.elt X z cs dd l n 0)
              | false => False
            | false => False) ?_ ?_
          · intro k bx
            simp only [stepB, hi, hx]
            rfl
          · intro k h
            obtain ⟨ti, h1, h2⟩ := tiK_rel h
            obtain ⟨ui, h3, h4⟩ := tiK_rel h2
            cases hz : Nat.beq z ui.size with
            | false => rw [hz] at h4; exact h4.elim
            | true =>
              rw [hz] at h4
              simp only at h4
              cases hs : ti.slice with
              | false => rw [hs] at h4; exact h4.elim
              | true =>
                rw [hs] at h4
                refine ⟨_, fun k' hk' => h1 _ (h3 _ ?_), h4.2⟩
                rw [hz, hs]; exact ⟨h4.1, hk'⟩
        | arr b z q m cap =>
          refine key (fun k => tiK E.ty t fun t => tiK E.ty t.elem fun u => match Nat.beq z u.size with
            | true => match t.slice with
              | true => (0 ≤ n ∧ n < (m : Int)) ∧ k (.plc b z ((q : Int) + n) 0)
              | false => False
            | false => False) ?_ ?_
          · intro k bx
            simp only [stepB, hi, hx]
            rfl
          · intro k h
            obtain ⟨ti, h1, h2⟩ := tiK_rel h
            obtain ⟨ui, h3, h4⟩ := tiK_rel h2
            cases hz : Nat.beq z ui.size with
            | false => rw [hz] at h4; exact h4.elim
            | true =>
              rw [hz] at h4
              simp only at h4
              cases hs : ti.slice with
              | false => rw [hs] at h4; exact h4.elim
              | true =>
                rw [hs] at h4
                refine ⟨_, fun k' hk' => h1 _ (h3 _ ?_), h4.2⟩
                rw [hz, hs]; exact ⟨h4.1, hk'⟩
        | _ => exact dead (fun h => by simp only [stepB, hi, hx] at h)
      | _ => exact dead (fun h => by simp only [stepB, hi] at h)
    | _ => exact dead (fun h => by simp only [stepB, hi] at h)
  | extract x i =>
    cases hx : ρ x with
    | tup l =>
      refine key (fun k => match Nat.blt i l.length with
        | true => force (at' l i .junk) fun v => k v
        | false => False) ?_ ?_
      · intro k bx
        simp only [stepB, hx]
        rfl
      · intro k h
        cases hb : Nat.blt i l.length with
        | false => rw [hb] at h; exact h.elim
        | true => rw [hb] at h; simp only [force_eq] at h ⊢; exact ⟨_, fun _ h => h, h⟩
    | _ => exact dead (fun h => by simp only [stepB, hx] at h)
  | _ => exact dead (fun h => h)
/-- what does not write boxes leaves them -/
theorem stepB_keeps {E : Env} {d : Nat} {op : Op} {ρ : Operand → SV} {bx b : Tr (Option (List SV))} {v : SV} (h2 : memW E.bs op = false)
    (h : ∀ k' : SV → Tr (Option (List SV)) → Prop, k' v b → stepB E d op ρ bx k') : b = bx := by
  cases h1 : memR op with
  | false => exact (stepB_free h1 h2 h).1
  | true =>
    cases op with
    | load t x =>
      have h3 := h (fun v' b' => v' = v ∧ b' = b) ⟨rfl, rfl⟩
      simp only [stepB] at h3
      cases hq : qLoad E.bs x with
      | false =>
        rw [hq] at h3
        simp only at h3
        cases hq2 : sLoad E.bs x with
        | false =>
          rw [hq2] at h3
          obtain ⟨ti, -, h4⟩ := tiK_rel h3
          obtain ⟨y, -, h5⟩ := loadK_rel h4
          exact h5.2.symm
        | true =>
          rw [hq2] at h3
          simp only at h3
          cases hb : isSB E.bs (ρ x) with
          | false => rw [hb] at h3; exact h3.elim
          | true =>
            rw [hb] at h3
            obtain ⟨ti, -, h4⟩ := tiK_rel h3
            obtain ⟨y, -, h5⟩ := loadK_rel h4
            exact h5.2.symm
      | true =>
        rw [hq] at h3
        simp only at h3
        cases hb : isQB E.bs (ρ x) with
        | false => rw [hb] at h3; exact h3.elim
        | true =>
          rw [hb] at h3
          obtain ⟨ti, -, h4⟩ := tiK_rel h3
          obtain ⟨y, -, h5⟩ := loadK_rel h4
          exact h5.2.symm
    | call c =>
      cases hcl : isClear c.callee with
      | true => simp [memW, hcl] at h2
      | false =>
      cases hb : bcall E.bs c.callee with
      | some g => simp [memW, hcl, hb] at h2
      | none =>
        have h3 := h (fun v' b' => v' = v ∧ b' = b) ⟨rfl, rfl⟩
        simp only [stepB, hcl, hb] at h3
        obtain ⟨y, -, h5⟩ := callK_rel h3
        exact h5.2.symm
    | _ => simp [memR] at h1
/-- what makes a variable keeps all others -/
theorem stepB_grows {E : Env} {d : Nat} {op : Op} {ρ : Operand → SV} {bx b : Tr (Option (List SV))} {v : SV} (ha : memA op = true) (h : ∀ k' : SV → Tr (Option (List SV)) → Prop, k' v b → stepB E d op ρ bx k') :
    ∀ id cs, bx.get id none = some cs → b.get id none = some cs := by
  have h3 := h (fun v' b' => v' = v ∧ b' = b) ⟨rfl, rfl⟩
  have key : ∀ cs', bx.get d (some []) = none → b = bx.put d (some cs') → ∀ id cs, bx.get id none = some cs → b.get id none = some cs := by
    intro cs' hn hb id cs e
    obtain ⟨-, hn'⟩ := at'_none hn
    rw [hb, Tr.get_put]
    by_cases c : d = id
    · rw [← c, hn'] at e; cases e
    · rw [if_neg (fun q => c q.1)]; exact e
  cases op with
  | alloc t =>
    simp only [stepB] at h3
    cases hdm : Nat.blt d 1000 with
    | false => rw [hdm] at h3; exact h3.elim
    | true =>
    rw [hdm] at h3
    simp only at h3
    cases hb : bx.get d (some []) with
    | some _ => rw [hb] at h3; exact h3.elim
    | none =>
      rw [hb] at h3
      obtain ⟨ti, -, h4⟩ := tiK_rel h3
      cases hz : ti.zero with
      | nil => rw [hz] at h4; exact h4.elim
      | cons z zs =>
        rw [hz] at h4
        simp only [forceL_eq, Tr.putK_eq] at h4
        exact key _ hb h4.2.symm
  | box t x =>
    simp only [stepB] at h3
    cases hdm : Nat.blt d 1000 with
    | false => rw [hdm] at h3; exact h3.elim
    | true =>
    rw [hdm] at h3
    simp only at h3
    cases hb : bx.get d (some []) with
    | some _ => rw [hb] at h3; exact h3.elim
    | none =>
      rw [hb] at h3
      obtain ⟨cs', -, h4⟩ := cellsK_rel h3
      cases hpl : plain cs' with
      | false => rw [hpl] at h4; exact h4.elim
      | true =>
      rw [hpl] at h4
      simp only [Tr.putK_eq] at h4
      exact key _ hb h4.2.symm
  | makeSlice t x y =>
    obtain ⟨ti, h1, h2⟩ := tiK_rel (show makeVecK E d t (ρ x) (ρ y) bx _ from h3)
    cases hs : ti.slice with
    | false => rw [hs] at h2; exact h2.elim
    | true =>
      rw [hs] at h2
      obtain ⟨ui, h3, h4⟩ := tiK_rel h2
      cases hb : Nat.beq ui.zero.length ui.size with
      | false => rw [hb] at h4; exact h4.elim
      | true =>
        rw [hb] at h4
        simp only at h4
        cases hp : Nat.ble 1 ui.size with
        | false => rw [hp] at h4; exact h4.elim
        | true =>
          rw [hp] at h4
          simp only at h4
          generalize ρ x = px at h4
          generalize ρ y = py at h4
          cases px with
          | val v =>
            cases v with
            | int k1 n =>
              cases py with
              | val v =>
                cases v with
                | int k2 c =>
                  obtain ⟨-, hd0, T, cs, e, l, -, -, -, h6⟩ := newVecK_elim h4.2
                  exact key _ hd0 h6.2.symm
                | _ => exact h4.elim
              | _ => exact h4.elim
            | _ => exact h4.elim
          | _ => exact h4.elim
  | _ => simp [memA] at ha
theorem loadK_mono {t : TI} {p : SV} {bx bx' : Tr (Option (List SV))} {k : SV → Prop} (hle : ∀ id cs, bx.get id none = some cs → bx'.get id none = some cs) (h : loadK t p bx k) : loadK t p bx' k := by
  unfold loadK at h ⊢
  cases p with
  | box b o =>
    simp only at h ⊢
    cases hb : bx.get b none with
    | none => rw [hb] at h; exact h.elim
    | some cs => rw [hb] at h; rw [hle _ _ hb]; exact h
  | plc b z i o =>
    simp only at h ⊢
    cases hb : bx.get b none with
    | none => rw [hb] at h; exact h.elim
    | some cs => rw [hb] at h; rw [hle _ _ hb]; exact h
  | elt X z cs d l i o => exact h
  | _ => exact h.elim
/-- what reads variables reads them where there are more -/
theorem stepB_mono {E : Env} {d : Nat} {op : Op} {ρ : Operand → SV} {bx bx' : Tr (Option (List SV))} {v : SV} (hr : memR op = true) (hw : memW E.bs op = false) (hle : ∀ id cs, bx.get id none = some cs → bx'.get id none = some cs)
    (h : ∀ k' : SV → Tr (Option (List SV)) → Prop, k' v bx → stepB E d op ρ bx k') : ∀ k' : SV → Tr (Option (List SV)) → Prop, k' v bx' → stepB E d op ρ bx' k' := by
  intro k' hk'
  cases op with
  | load t x =>
    have h3 := h (fun v' b' => v' = v) rfl
    simp only [stepB] at h3 ⊢
    cases hq : qLoad E.bs x with
    | false =>
      rw [hq] at h3
      simp only at h3 ⊢
      cases hq2 : sLoad E.bs x with
      | false =>
        rw [hq2] at h3
        obtain ⟨ti, h4, h5⟩ := tiK_rel h3
        refine h4 _ (loadK_mono hle ?_)
        obtain ⟨y, h6, h7⟩ := loadK_rel h5
        exact h6 _ (by rw [show y = v from h7]; exact hk')
      | true =>
        rw [hq2] at h3
        simp only at h3 ⊢
        cases hb : isSB E.bs (ρ x) with
        | false => rw [hb] at h3; exact h3.elim
        | true =>
          rw [hb] at h3
          obtain ⟨ti, h4, h5⟩ := tiK_rel h3
          refine h4 _ (loadK_mono hle ?_)
          obtain ⟨y, h6, h7⟩ := loadK_rel h5
          exact h6 _ (by rw [show y = v from h7]; exact hk')
    | true =>
      rw [hq] at h3
      simp only at h3 ⊢
      cases hb : isQB E.bs (ρ x) with
      | false => rw [hb] at h3; exact h3.elim
      | true =>
        rw [hb] at h3
        obtain ⟨ti, h4, h5⟩ := tiK_rel h3
        refine h4 _ (loadK_mono hle ?_)
        obtain ⟨y, h6, h7⟩ := loadK_rel h5
        exact h6 _ (by rw [show y = v from h7]; exact hk')
  | call c =>
    have h3 := h (fun v' b' => v' = v) rfl
    simp only [stepB] at h3 ⊢
    cases hcl : isClear c.callee with
    | true => simp [memW, hcl] at hw
    | false =>
    rw [hcl] at h3
    simp only at h3 ⊢
    cases hb : bcall E.bs c.callee with
    | some g => simp [memW, hcl, hb] at hw
    | none =>
    rw [hb] at h3
    simp only at h3 ⊢
    cases hc : c.callee with
    | value f =>
      rw [hc] at h3
      simp only [callK] at h3 ⊢
      cases hf : ρ f with
      | fn g caps =>
        rw [hf] at h3
        simp only at h3 ⊢
        cases hg : E.ctr g with
        | none => rw [hg] at h3; exact h3.elim
        | some ct =>
          rw [hg] at h3
          simp only [forceL_eq] at h3 ⊢
          obtain ⟨y, h6, h7, -⟩ := enterK_mono hle h3
          exact h6 _ (by rw [show y = v from h7]; exact hk')
      | _ => rw [hf] at h3; exact h3.elim
    | builtin b => simp [memR, hc] at hr
    | invoke _ _ => rw [hc] at h3; exact h3.elim
  | _ => simp [memR] at hr
/-- a load of a variable that calls leave comes to the same where these are the same -/
theorem load_quiet {E : Env} {d : Nat} {op : Op} {ρ : Operand → SV} {bx bx' : Tr (Option (List SV))} {v : SV} (hq : isQL E.bs op = true) (hle : ∀ q, memN E.bs (Nat.add 700000 q) = true → bx'.get q none = bx.get q none)
    (h : ∀ k' : SV → Tr (Option (List SV)) → Prop, k' v bx → stepB E d op ρ bx k') : ∀ k' : SV → Tr (Option (List SV)) → Prop, k' v bx' → stepB E d op ρ bx' k' := by
  intro k' hk'
  cases op with
  | load t x =>
    have h3 := h (fun v' b' => v' = v) rfl
    simp only [stepB] at h3 ⊢
    have hq : qLoad E.bs x = true := hq
    rw [hq] at h3 ⊢
    simp only at h3 ⊢
    cases hb : isQB E.bs (ρ x) with
    | false => rw [hb] at h3; exact h3.elim
    | true =>
      rw [hb] at h3
      obtain ⟨ti, h4, h5⟩ := tiK_rel h3
      refine h4 _ ?_
      obtain ⟨y, h6, h7⟩ := loadK_rel h5
      have h8 : loadK ti (ρ x) bx (fun v => k' v bx') := h6 _ (by rw [show y = v from h7]; exact hk')
      cases hx : ρ x with
      | box b o =>
        rw [hx] at h8 hb
        unfold loadK at h8 ⊢
        simp only at h8 ⊢
        rw [hle b hb]
        exact h8
      | _ => rw [hx] at hb; cases hb
  | _ => cases hq
theorem noneQ_spec {bs : List Nat} {d : Nat} : ∀ {σ : List (Nat × List SV)}, noneQ bs σ d = true → ∀ q, memN bs (Nat.add 700000 q) = true → q ∉ σ.map (·.1) ∧ q ≠ d
  | [], h, q, hq => by
    unfold noneQ at h
    refine ⟨by simp, fun c => ?_⟩
    rw [c] at hq
    rw [hq] at h; cases h
  | (b, cs) :: r, h, q, hq => by
    unfold noneQ at h
    cases e : memN bs (Nat.add 700000 b) with
    | true => rw [e] at h; cases h
    | false =>
      rw [e] at h
      obtain ⟨h1, h2⟩ := noneQ_spec h q hq
      refine ⟨?_, h2⟩
      simp only [List.map_cons, List.mem_cons, not_or]
      refine ⟨fun c => ?_, h1⟩
      rw [c] at hq
      rw [hq] at e; cases e
/-- a call that changes variables leaves those -/
theorem call_quiet {E : Env} {d : Nat} {op : Op} {ρ : Operand → SV} {bx b : Tr (Option (List SV))} {v : SV} (hc : isBC E.bs op = true)
    (h : ∀ k' : SV → Tr (Option (List SV)) → Prop, k' v b → stepB E d op ρ bx k') : ∀ q, memN E.bs (Nat.add 700000 q) = true → b.get q none = bx.get q none := by
  intro q hq
  cases op with
  | call c =>
    have h3 := h (fun v' b' => v' = v ∧ b' = b) ⟨rfl, rfl⟩
    simp only [stepB] at h3
    cases hcl : isClear c.callee with
    | true => simp [isBC, hcl] at hc
    | false =>
      rw [hcl] at h3
      simp only at h3
      cases hb : bcall E.bs c.callee with
      | none => simp [isBC, hcl, hb] at hc
      | some g =>
        rw [hb] at h3
        simp only at h3
        cases hg : E.ctrB g with
        | none => rw [hg] at h3; exact h3.elim
        | some cb =>
          rw [hg] at h3
          simp only [forceL_eq] at h3
          obtain ⟨σ, x, bx', ⟨⟨hs, -⟩, hnq⟩, -, -, -, hback, ⟨-, rfl⟩, -⟩ := enterB_rel h3
          obtain ⟨h4, h5⟩ := noneQ_spec hnq q hq
          obtain ⟨b2, rfl, -, -, -, hrest⟩ := backK_spec σ _ bx _ hs.1 (fun p hp => has_of_get (hs.2 p hp)) hback
          rcases hrest with ⟨-, e⟩ | ⟨-, -, -, -, e⟩
          · exact e q h4
          · exact e q h4 h5
  | _ => cases hc
/-- the same for stores -/
theorem load_still {E : Env} {d : Nat} {op : Op} {ρ : Operand → SV} {bx bx' : Tr (Option (List SV))} {v : SV} (hq : isSL E.bs op = true) (hle : ∀ q, memN E.bs (Nat.add 710000 q) = true → bx'.get q none = bx.get q none)
    (h : ∀ k' : SV → Tr (Option (List SV)) → Prop, k' v bx → stepB E d op ρ bx k') : ∀ k' : SV → Tr (Option (List SV)) → Prop, k' v bx' → stepB E d op ρ bx' k' := by
  intro k' hk'
  cases op with
  | load t x =>
    have h3 := h (fun v' b' => v' = v) rfl
    simp only [stepB] at h3 ⊢
    simp only [isSL] at hq
    cases h0 : qLoad E.bs x with
    | true => rw [h0] at hq; cases hq
    | false =>
    rw [h0] at hq h3
    simp only at hq h3 ⊢
    rw [hq] at h3 ⊢
    simp only at h3 ⊢
    cases hb : isSB E.bs (ρ x) with
    | false => rw [hb] at h3; exact h3.elim
    | true =>
      rw [hb] at h3
      obtain ⟨ti, h4, h5⟩ := tiK_rel h3
      refine h4 _ ?_
      obtain ⟨y, h6, h7⟩ := loadK_rel h5
      have h8 : loadK ti (ρ x) bx (fun v => k' v bx') := h6 _ (by rw [show y = v from h7]; exact hk')
      cases hx : ρ x with
      | box b o =>
        rw [hx] at h8 hb
        unfold loadK at h8 ⊢
        simp only at h8 ⊢
        rw [hle b hb]
        exact h8
      | _ => rw [hx] at hb; cases hb
  | _ => cases hq
theorem storeK_still {t : TI} {b o : Nat} {v : SV} {bx : Tr (Option (List SV))} {k : Tr (Option (List SV)) → Prop} (h : storeK t (.box b o) v bx k) : ∃ cs, k (bx.put b (some cs)) := by
  unfold storeK at h
  simp only at h
  cases hb : bx.get b none with
  | none => rw [hb] at h; exact h.elim
  | some cs =>
    rw [hb] at h
    simp only at h
    cases hpl : plain cs with
    | false => rw [hpl] at h; exact h.elim
    | true =>
    rw [hpl] at h
    simp only at h
    obtain ⟨l, h1, h2⟩ := cellsK_rel h
    cases ho : allOk l with
    | false => rw [ho] at h2; exact h2.elim
    | true =>
      rw [ho] at h2
      simp only at h2
      cases he : Nat.beq l.length t.size with
      | false => rw [he] at h2; exact h2.elim
      | true =>
        rw [he] at h2
        simp only at h2
        cases hl : Nat.ble (o + l.length) cs.length with
        | false => rw [hl] at h2; exact h2.elim
        | true =>
          rw [hl] at h2
          simp only [forceL_eq, Tr.putK_eq] at h2
          exact ⟨_, h2⟩
theorem store_still {E : Env} {d : Nat} {op : Op} {ρ : Operand → SV} {bx b : Tr (Option (List SV))} {v : SV} (hc : isSS E.bs op = true)
    (h : ∀ k' : SV → Tr (Option (List SV)) → Prop, k' v b → stepB E d op ρ bx k') : ∀ q, memN E.bs (Nat.add 710000 q) = true → b.get q none = bx.get q none := by
  intro q hq
  cases op with
  | store t x y =>
    have h3 := h (fun v' b' => v' = v ∧ b' = b) ⟨rfl, rfl⟩
    simp only [stepB] at h3
    have hc : sStore E.bs x = true := hc
    rw [hc] at h3
    simp only at h3
    cases hb : offSB E.bs (ρ x) with
    | false => rw [hb] at h3; exact h3.elim
    | true =>
      rw [hb] at h3
      obtain ⟨ti, -, h5⟩ := tiK_rel h3
      cases hx : ρ x with
      | box b0 o =>
        rw [hx] at h5 hb
        obtain ⟨cs, -, h6⟩ := storeK_still h5
        rw [← h6, Tr.get_put]
        by_cases e : b0 = q
        · subst e
          simp only [offSB] at hb
          rw [hq] at hb; cases hb
        · rw [if_neg (fun c => e c.1)]
      | _ => rw [hx] at hb; cases hb
  | _ => cases hc
/-- what changes variables, and a load that it does not reach -/
theorem pair_quiet {E : Env} {d d2 : Nat} {x op : Op} {ρ ρ2 : Operand → SV} {bx b1 b2 b3 : Tr (Option (List SV))} {v v2 : SV} (hp : qp E.bs x op = true)
    (hx : ∀ k' : SV → Tr (Option (List SV)) → Prop, k' v2 b2 → stepB E d2 x ρ2 b1 k')
    (he : (∀ q, b3.get q none = b1.get q none ∧ bx.get q none = b2.get q none) ∨ (∀ q, b3.get q none = b2.get q none ∧ bx.get q none = b1.get q none))
    (h : ∀ k' : SV → Tr (Option (List SV)) → Prop, k' v bx → stepB E d op ρ bx k') : ∀ k' : SV → Tr (Option (List SV)) → Prop, k' v b3 → stepB E d op ρ b3 k' := by
  unfold qp at hp
  rw [Bool.or_eq_true, Bool.and_eq_true, Bool.and_eq_true] at hp
  rcases hp with ⟨c1, c2⟩ | ⟨c1, c2⟩
  · refine load_quiet c2 (fun q hq => ?_) h
    have := call_quiet c1 hx q hq
    rcases he with he | he
    · rw [(he q).1, (he q).2, this]
    · rw [(he q).1, (he q).2, this]
  · refine load_still c2 (fun q hq => ?_) h
    have := store_still c1 hx q hq
    rcases he with he | he
    · rw [(he q).1, (he q).2, this]
    · rw [(he q).1, (he q).2, this]
end Go.Proofs.YtimhbimpaiiceaaDoor.Ax
