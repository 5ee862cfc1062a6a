/- One operation of the logic is right. -/
import Derived.Test.YtimhbimpaiiceaaDoorA3
set_option linter.unusedVariables false
set_option linter.unusedSimpArgs false
namespace Go.Proofs.YtimhbimpaiiceaaDoor.Ax
open Go Go.RowKit

def whole (agg : Bool) (l : List SV) : SV := match agg with
  | true => .agg l
  | false => at' l 0 .junk
theorem wholeK_eq (agg : Bool) (l : List SV) (k : SV → Prop) : wholeK agg l k = k (whole agg l) := by
  cases agg
  · simp [wholeK, whole, force_eq]
  · simp [wholeK, whole, forceL_eq]
theorem noB_le (β : BM) : BLe noB β := fun _ _ h => by cases h
theorem noT_le (T : TM) : TLe noT T := fun _ _ _ h => by cases h

theorem cellsK_elim {H : HM} {β : BM} {T : TM} {x : SV} {k : List SV → Prop} (h : cellsK x k) :
    ∃ l, k l ∧ ∀ v, G H β T x v → v.cells.size = l.length ∧ ∀ j, j < l.length → G H β T (at' l j .junk) (v.cells.getD j undef) := by
  have one : ∀ y : SV, (∀ v, G H β T y v → v.cells = #[v]) → ∀ v, G H β T y v → v.cells.size = [y].length ∧ ∀ j, j < [y].length → G H β T (at' [y] j .junk) (v.cells.getD j undef) := by
    intro y hy v hv
    rw [hy v hv]
    refine ⟨rfl, fun j hj => ?_⟩
    obtain rfl : j = 0 := by simpa using hj
    exact hv
  cases x with
  | agg l => exact ⟨l, h, fun v hv => by cases hv with | agg _ vs hn hg => exact ⟨hn, hg⟩⟩
  | tup l => exact h.elim
  | junk => exact h.elim
  | many T sz cs d l => exact h.elim
  | val u =>
    cases u with
    | agg _ => exact h.elim
    | tuple _ => exact h.elim
    | _ => exact ⟨_, h, one _ (fun v hv => by cases hv; rfl)⟩
  | _ => exact ⟨_, h, one _ (fun v hv => by cases hv <;> rfl)⟩
theorem cellOk_one {H : HM} {β : BM} {T : TM} {x : SV} (h : cellOk x = true) {v : Value} (hv : G H β T x v) : v.oneCell' = true := by
  cases hv with
  | val v => cases v <;> first | rfl | (simp [cellOk] at h; done)
  | junk => simp [cellOk] at h
  | agg => simp [cellOk] at h
  | tup => simp [cellOk] at h
  | _ => rfl
theorem allOk_at {l : List SV} (h : allOk l = true) : ∀ j, j < l.length → cellOk (at' l j .junk) = true := by
  induction l with
  | nil => intro j hj; simp at hj
  | cons x xs ih =>
    intro j hj
    unfold allOk at h
    cases hx : cellOk x with
    | false => rw [hx] at h; simp at h
    | true =>
      rw [hx] at h
      cases j with
      | zero => exact hx
      | succ j => exact ih h j (by simpa using hj)
theorem SubL_at : ∀ {a b : List SV}, SubL a b → a.length = b.length ∧ ∀ j, j < b.length → Sub (at' a j .junk) (at' b j .junk)
  | [], [], _ => ⟨rfl, fun j hj => by simp at hj⟩
  | x :: xs, y :: ys, h => by
    obtain ⟨h1, h2⟩ := h
    obtain ⟨hl, hs⟩ := SubL_at h2
    refine ⟨by simp [hl], fun j hj => ?_⟩
    cases j with
    | zero => exact h1
    | succ j => exact hs j (by simpa using hj)
  | [], _ :: _, h => h.elim
  | _ :: _, [], h => h.elim
theorem add_none (b o j : Nat) : (⟨b, o, none⟩ : Addr).add j = ⟨b, o + j, none⟩ := by
  unfold Addr.add; split <;> simp_all

section
variable {P : Program} {w : World}
theorem run_und {t : TypeId} {d : TypeDesc} (h : P.underlying t = some d) : (underlying t).run P w = .ok d w := run_underlying h w
theorem run_isAgg {t : TypeId} {d : TypeDesc} (h : P.underlying t = some d) : (isAgg t).run P w = .ok (isAggD d) w := by
  unfold isAgg
  rw [Sem.run_bind, run_und h]
  cases d <;> rfl
theorem run_size {t : TypeId} {i : TypeInfo} (h : P.info? t = some i) : (sizeOf t).run P w = .ok i.size w := by
  simp [sizeOf, typeInfo, h]
theorem run_loadVar {t : Nat} {ti : TI} (hT : TOk P t ti) (b o : Nat) (f : Nat → Value) (h : ∀ j, j < ti.size → w.cell? ⟨b, o + j, none⟩ = some (f j)) (h1 : ti.agg = false → 0 < ti.size) :
    (loadVar t ⟨b, o, none⟩).run P w = .ok (if ti.agg then .agg ((List.range ti.size).map f).toArray else f 0) w := by
  obtain ⟨d, hd, hag, -⟩ := hT.und
  obtain ⟨i, hi, hsz, -⟩ := hT.inf
  unfold loadVar
  rw [Sem.run_bind, run_isAgg hd, Result.andThen_ok, hag]
  cases ha : ti.agg with
  | true =>
    simp only [if_true, Sem.run_bind, run_size hi, Result.andThen_ok, hsz]
    rw [run_loadCells w _ ti.size f (fun j hj => by rw [add_none]; exact h j hj)]
    rfl
  | false =>
    have := h 0 (h1 ha)
    simp only [Nat.add_zero] at this
    simp only [Bool.false_eq_true, if_false, run_load, this]
end
theorem xat_many {X : Type} {sz : Nat} {c : X → List SV} {d : X} {l : List X} (i r : Nat) (h : r < sz) : xat [.many X sz c d l] (i * sz + r) = at' (c (l.getD i d)) r .junk := by
  show at' (c (l.getD ((i * sz + r) / sz) d)) ((i * sz + r) % sz) .junk = _
  have h1 : (i * sz + r) / sz = i := by rw [Nat.mul_comm, Nat.mul_add_div (by omega), Nat.div_eq_of_lt h, Nat.add_zero]
  have h2 : (i * sz + r) % sz = r := by rw [Nat.mul_comm, Nat.mul_add_mod, Nat.mod_eq_of_lt h]
  rw [h1, h2]
theorem many_lt {sz i n r : Nat} (hi : i < n) (h : r < sz) : i * sz + r < n * sz := by
  have := Nat.mul_le_mul_right sz (show i + 1 ≤ n from hi)
  rw [Nat.add_mul, Nat.one_mul] at this
  omega
theorem whole_G {H : HM} {β : BM} {T : TM} {l : List SV} {n : Nat} (hl : l.length = n) {f : Nat → Value} (h : ∀ j, j < n → G H β T (at' l j .junk) (f j)) (agg : Bool) (h1 : agg = false → 0 < n) :
    G H β T (whole agg l) (if agg then .agg ((List.range n).map f).toArray else f 0) := by
  cases agg with
  | true =>
    refine .agg l _ (by simp [hl]) (fun j hj => ?_)
    have hjn : j < n := by omega
    have e : ((List.range n).map f).toArray.getD j undef = f j := by simp [Array.getD, hjn]
    rw [e]
    exact h j hjn
  | false => exact h 0 (h1 rfl)

/-! ### The operations -/
section
variable {P : Program} {E : Env} {M : BM} {w0 : World} {H0 : HM} {s : ASt} {a : Act} {w : World} {H : HM} {β : BM} {T : TM}

/-- where a step goes on -/
def OnTo (M : BM) (w0 : World) (H0 : HM) (a : Act) (dst : Option Tmp) (k : SV → ASt → Prop) (next : Act → World → Prop) : Prop :=
  ∀ v s' val H' β' T' w', k v s' → FR H' β' T' s'.fr a → W M w0 H0 H' β' T' s'.bx w' → G H' β' T' v val → next (a.put dst val) w'

variable {k : SV → ASt → Prop} {next : Act → World → Prop} {Q : Exit → Act → World → Prop} {o : Oper}

theorem done_val (hf : FR H β T s.fr a) (hw : W M w0 H0 H β T s.bx w) {v : SV} {val : Value} (hk : k v s) (hg : G H β T v val) (hn : OnTo M w0 H0 a o.dst k next)
    (hr : (execOp a.eval o).run P w = .ok (.value val) w) : o.wp P a w next Q := by
  unfold Oper.wp
  rw [hr]
  exact hn _ _ _ _ _ _ _ hk hf hw hg

theorem load_sound (hE : EnvOk P E) (hf : FR H β T s.fr a) (hw : W M w0 H0 H β T s.bx w) (hn : OnTo M w0 H0 a o.dst k next) (t : TypeId) (x : Operand) (ho : o.op = .load t x)
    (hk : tiK E.ty t fun t => loadK t (ev s x) s.bx fun v => k v ⟨s.fr, s.bx⟩) : o.wp P a w next Q := by
  obtain ⟨ti, hti, hk⟩ := tiK_elim hk
  have hT := hE.ty _ _ hti
  have hx := ev_G hf x
  have h1 : ti.agg = false → 0 < ti.size := hT.one
  have run : ∀ (b q : Nat) (f : Nat → Value), a.eval x = .pointer (some ⟨b, q, none⟩) → (∀ j, j < ti.size → w.cell? ⟨b, q + j, none⟩ = some (f j)) →
      (execOp a.eval o).run P w = .ok (.value (if ti.agg then .agg ((List.range ti.size).map f).toArray else f 0)) w := by
    intro b q f hp hc
    unfold execOp
    simp only [ho, Instr.loadAt, hp, Instr.sureAddr, Sem.run_bind, Sem.run_pure, Result.andThen_ok, run_loadVar hT b q f hc h1]
  unfold loadK at hk
  generalize hev : ev s x = p at hk hx
  cases p with
  | box b q =>
    simp only at hk
    cases hb : s.bx.get b none with
    | none => rw [hb] at hk; exact hk.elim
    | some cs =>
      rw [hb] at hk
      simp only at hk
      cases hpl : plain cs with
      | false => rw [hpl] at hk; exact hk.elim
      | true =>
      rw [hpl] at hk
      simp only at hk
      obtain ⟨hx1, hx0⟩ := xlen_plain hpl
      cases hle : Nat.ble (q + ti.size) cs.length with
      | false => rw [hle] at hk; exact hk.elim
      | true =>
        rw [hle] at hk
        simp only [wholeK_eq] at hk
        have hle' := Nat.le_of_ble_eq_true hle
        generalize hav : a.eval x = val at hx
        cases hx with
        | box _ _ kk hβ =>
          obtain ⟨k2, hk2, -, hj⟩ := hw.box b cs hb (by omega)
          obtain rfl : kk = k2 := Option.some.inj (hβ.symm.trans hk2)
          have hc : ∀ j, ∃ v, j < ti.size → w.cell? ⟨kk, q + j, none⟩ = some v ∧ G H β T (at' cs (q + j) .junk) v := fun j => by
            by_cases hlt : j < ti.size
            · obtain ⟨-, -, -, v, h4, h5⟩ := hj (q + j) (by omega)
              rw [xat_plain hpl] at h5
              exact ⟨v, fun _ => ⟨h4, h5⟩⟩
            · exact ⟨undef, fun c => absurd c hlt⟩
          refine done_val hf hw hk (whole_G (takeDrop_length cs ti.size q hle') (f := fun j => Classical.choose (hc j)) (fun j hlt => ?_) ti.agg h1) hn (run kk q _ hav fun j hlt => (Classical.choose_spec (hc j) hlt).1)
          rw [at'_takeDrop _ _ _ _ _ hlt]
          exact (Classical.choose_spec (hc j) hlt).2
  | plc b z i q =>
    simp only at hk
    cases hb : s.bx.get b none with
    | none => rw [hb] at hk; exact hk.elim
    | some cs =>
      rw [hb] at hk
      simp only at hk
      obtain ⟨X, sz, c, d, l, e, hkm⟩ := manyK_elim hk
      subst e
      replace hk := hkm
      clear hkm
      cases hbe : Nat.beq z sz with
      | false => rw [hbe] at hk; exact hk.elim
      | true =>
      rw [hbe] at hk
      simp only at hk
      obtain rfl := Nat.eq_of_beq_eq_true hbe
      cases hle : Nat.ble (q + ti.size) z with
      | false => rw [hle] at hk; exact hk.elim
      | true =>
      rw [hle] at hk
      simp only at hk
      cases hfree : ownFree.ownFrees (takeN ti.size (dropN q (c (l.getD i.toNat d)))) with
      | false => rw [hfree] at hk; exact hk.elim
      | true =>
      rw [hfree] at hk
      simp only [wholeK_eq] at hk
      obtain ⟨⟨hi0, hil⟩, hk⟩ := hk
      have hle' := Nat.le_of_ble_eq_true hle
      obtain ⟨hz0, hzz⟩ := hw.many _ _ _ _ _ _ hb
      generalize hav : a.eval x = val at hx
      cases hx with
      | plc _ _ _ _ kk _ hβ =>
        obtain ⟨k2, hk2, -, hj⟩ := hw.box b _ hb (show 0 < l.length * z from Nat.mul_pos (by omega) hz0)
        obtain rfl : kk = k2 := Option.some.inj (hβ.symm.trans hk2)
        have hc : ∀ j, ∃ v, j < ti.size → w.cell? ⟨kk, i.toNat * z + q + j, none⟩ = some v ∧ G H β T (at' (c (l.getD i.toNat d)) (q + j) .junk) v := fun j => by
          by_cases hlt : j < ti.size
          · obtain ⟨-, -, -, v, h4, h5⟩ := hj (i.toNat * z + (q + j)) (many_lt (by omega) (by omega))
            rw [xat_many _ _ (by omega)] at h5
            exact ⟨v, fun _ => ⟨by rw [Nat.add_assoc]; exact h4, h5⟩⟩
          · exact ⟨undef, fun c => absurd c hlt⟩
        refine done_val hf hw hk (whole_G (takeDrop_length _ ti.size q (by rw [(hzz _).1]; exact hle')) (f := fun j => Classical.choose (hc j)) (fun j hlt => ?_) ti.agg h1) hn (run kk (i.toNat * z + q) _ hav fun j hlt => (Classical.choose_spec (hc j) hlt).1)
        rw [at'_takeDrop _ _ _ _ _ hlt]
        exact (Classical.choose_spec (hc j) hlt).2
  | elt X z cs d l i q =>
    simp only at hk
    cases hle : Nat.ble (q + ti.size) z with
    | false => rw [hle] at hk; exact hk.elim
    | true =>
      rw [hle] at hk
      simp only at hk
      cases hfree : ownFree.ownFrees (takeN ti.size (dropN q (cs (l.getD i.toNat d)))) with
      | false => rw [hfree] at hk; exact hk.elim
      | true =>
      rw [hfree] at hk
      simp only [wholeK_eq] at hk
      have hle' := Nat.le_of_ble_eq_true hle
      generalize hav : a.eval x = val at hx
      cases hx with
      | elt _ _ _ _ _ _ _ b p vs hz hH hG =>
        refine done_val hf hw hk (whole_G (takeDrop_length _ ti.size q (by omega)) (f := fun j => vs (q + j)) (fun j hlt => ?_) ti.agg h1) hn (run b (p + q) _ hav fun j hlt => ?_)
        · rw [at'_takeDrop _ _ _ _ _ hlt]
          exact (hG (q + j) (by omega)).mono (.refl _) (noB_le _) (noT_le _)
        · rw [Nat.add_assoc]
          exact (hw.lies _ _ _ (hH (q + j) (by omega))).1
  | _ => exact hk.elim

theorem getD_get (l : List Value) (j : Nat) (h : j < l.length) : l.getD j undef = l[j] := by simp [List.getD, h]
theorem getD_toList (cs : Array Value) (j : Nat) : cs.toList.getD j undef = cs.getD j undef := by
  simp [List.getD, Array.getD_eq_getD_getElem?]

theorem store_sound (hE : EnvOk P E) (hf : FR H β T s.fr a) (hw : W M w0 H0 H β T s.bx w) (hn : OnTo M w0 H0 a o.dst k next) (t : TypeId) (x y : Operand) (ho : o.op = .store t x y)
    (hk : tiK E.ty t fun t => storeK t (ev s x) (ev s y) s.bx fun bx => k (.val undef) ⟨s.fr, bx⟩) : o.wp P a w next Q := by
  obtain ⟨ti, hti, hk⟩ := tiK_elim hk
  have hT := hE.ty _ _ hti
  have hx := ev_G hf x
  have hy := ev_G hf y
  unfold storeK at hk
  generalize hev : ev s x = p at hk hx
  cases p with
  | box b q =>
    simp only at hk
    cases hb : s.bx.get b none with
    | none => rw [hb] at hk; exact hk.elim
    | some cs =>
      rw [hb] at hk
      simp only at hk
      cases hpl : plain cs with
      | false => rw [hpl] at hk; exact hk.elim
      | true =>
      rw [hpl] at hk
      simp only at hk
      obtain ⟨hx1, hx0⟩ := xlen_plain hpl
      obtain ⟨l, hk, hl⟩ := cellsK_elim (H := H) (β := β) (T := T) hk
      obtain ⟨hsz, hg⟩ := hl _ hy
      cases hok : allOk l with
      | false => rw [hok] at hk; exact hk.elim
      | true =>
        rw [hok] at hk
        simp only at hk
        cases hbe : Nat.beq l.length ti.size with
        | false => rw [hbe] at hk; exact hk.elim
        | true =>
          rw [hbe] at hk
          simp only at hk
          have hbe' := Nat.eq_of_beq_eq_true hbe
          cases hle : Nat.ble (q + l.length) cs.length with
          | false => rw [hle] at hk; exact hk.elim
          | true =>
            rw [hle] at hk
            simp only [forceL_eq, Tr.putK_eq] at hk
            have hle' := Nat.le_of_ble_eq_true hle
            generalize hav : a.eval x = val at hx
            cases hx with
            | box _ _ kk hβ =>
              obtain ⟨k2, hk2, -, hj⟩ := hw.box b cs hb (by omega)
              obtain rfl : kk = k2 := Option.some.inj (hβ.symm.trans hk2)
              obtain ⟨i, hi, hisz, -⟩ := hT.inf
              have hlen : (a.eval y).cells.toList.length = l.length := by simpa using hsz
              have hw' := hw.setBox hb hpl hβ (o := q) (xs := l) (vs := (a.eval y).cells.toList) hlen hle' (fun j hj => by rw [getD_toList]; exact hg j hj)
              have hst : (storeCells ⟨kk, q, none⟩ (a.eval y).cells.toList 0).run P w = .ok () (w.setCells kk (q + 0) (a.eval y).cells.toList) :=
                run_storeCells_cells kk q _ 0 w (fun j hjl => by
                    obtain ⟨-, -, -, v, h4, -⟩ := hj (q + j) (by omega)
                    rw [Nat.add_zero, h4]; rfl)
                  (fun j hjl => by rw [Nat.add_zero]; exact (hj (q + j) (by omega)).2.2.1)
                  (fun v hv => by
                    obtain ⟨j, hj1, rfl⟩ := List.getElem_of_mem hv
                    have h2 := hg j (by omega)
                    have h3 := cellOk_one (allOk_at hok j (by omega)) h2
                    rw [← getD_toList, getD_get _ _ hj1] at h3
                    exact h3)
              have hrun : (execOp a.eval o).run P w = .ok .skip (w.setCells kk q (a.eval y).cells.toList) := by
                unfold execOp
                simp only [ho, Instr.storeAt, hav, Instr.sureAddr, Sem.run_bind, Sem.run_pure, Result.andThen_ok, storeVar, run_size hi]
                rw [if_neg (by omega)]
                rw [show (storeCells ⟨kk, q, none⟩ (a.eval y).cells.toList).run P w = _ from hst]
                rfl
              unfold Oper.wp
              rw [hrun]
              exact hn _ _ _ H β T _ hk hf hw' .undef
  | plc b z i q =>
    simp only at hk
    cases hb : s.bx.get b none with
    | none => rw [hb] at hk; exact hk.elim
    | some cs =>
      rw [hb] at hk
      simp only at hk
      obtain ⟨X, sz, c, d, r, e, hkm⟩ := manyK_elim hk
      subst e
      replace hk := hkm
      clear hkm
      cases hbz : Nat.beq z sz with
      | false => rw [hbz] at hk; exact hk.elim
      | true =>
      rw [hbz] at hk
      simp only at hk
      obtain rfl := Nat.eq_of_beq_eq_true hbz
      obtain ⟨l, hk, hl⟩ := cellsK_elim (H := H) (β := β) (T := T) hk
      obtain ⟨hsz, hg⟩ := hl _ hy
      cases hok : allOk l with
      | false => rw [hok] at hk; exact hk.elim
      | true =>
        rw [hok] at hk
        simp only at hk
        cases hbe : Nat.beq l.length ti.size with
        | false => rw [hbe] at hk; exact hk.elim
        | true =>
          rw [hbe] at hk
          simp only at hk
          have hbe' := Nat.eq_of_beq_eq_true hbe
          cases hle : Nat.ble (q + l.length) z with
          | false => rw [hle] at hk; exact hk.elim
          | true =>
            rw [hle] at hk
            simp only [Tr.putK_eq] at hk
            obtain ⟨⟨hi0, hil⟩, nx, hsub, hk⟩ := hk
            have hle' := Nat.le_of_ble_eq_true hle
            obtain ⟨hz0, hzz⟩ := hw.many _ _ _ _ _ _ hb
            obtain ⟨hs1, hs2⟩ := SubL_at hsub
            generalize hav : a.eval x = val at hx
            cases hx with
            | plc _ _ _ _ kk _ hβ =>
              have hxl : xlen [SV.many X z c d r] = r.length * z := rfl
              obtain ⟨k2, hk2, -, hj⟩ := hw.box b _ hb (show 0 < r.length * z from Nat.mul_pos (by omega) hz0)
              obtain rfl : kk = k2 := Option.some.inj (hβ.symm.trans hk2)
              obtain ⟨i', hi, hisz, -⟩ := hT.inf
              have hlen : (a.eval y).cells.toList.length = l.length := by simpa using hsz
              have hil' : i.toNat < r.length := by omega
              have hcl := (hzz (r.getD i.toNat d)).1
              have hin : ∀ j, j < l.length → i.toNat * z + q + j < r.length * z := fun j hj => by
                rw [Nat.add_assoc]; exact many_lt hil' (by omega)
              have hget : ∀ n, (r.set i.toNat nx).getD n d = if n = i.toNat then nx else r.getD n d := by
                intro n
                rw [List.getD_eq_getElem?_getD, List.getD_eq_getElem?_getD, List.getElem?_set]
                by_cases hn : i.toNat = n
                · rw [if_pos hn, if_pos hn.symm, if_pos hil']; rfl
                · rw [if_neg hn, if_neg (fun e => hn e.symm)]
              have hw' := hw.write hb hβ (p := i.toNat * z + q) (vs := (a.eval y).cells.toList) (cs' := [.many X z c d (r.set i.toNat nx)]) (by
                  rw [hlen, hxl]
                  have := Nat.mul_le_mul_right z (show i.toNat + 1 ≤ r.length from hil')
                  rw [Nat.add_mul, Nat.one_mul] at this
                  omega) (by show (r.set i.toNat nx).length * z = r.length * z; rw [List.length_set]) (fun j hj => by
                    rw [Nat.add_assoc, xat_many _ _ (by omega), hget, if_pos rfl, getD_toList]
                    refine G.sub (hs2 _ (by rw [(hzz _).1]; omega)) ?_
                    rw [at'_over _ _ _ _ _ (by rw [hcl]; exact hle'), if_pos (by omega), show q + j - q = j by omega]
                    exact hg j (by omega)) (fun j hj hr v hv => by
                    have hjr : j = j / z * z + j % z := by rw [Nat.mul_comm]; exact (Nat.div_add_mod j z).symm
                    have hjm := Nat.mod_lt j hz0
                    rw [hjr, xat_many _ _ hjm] at hv ⊢
                    rw [hget]
                    by_cases hn : j / z = i.toNat
                    · rw [if_pos hn]
                      rw [hn] at hv hjr
                      refine G.sub (hs2 _ (by rw [(hzz _).1]; exact hjm)) ?_
                      rw [at'_over _ _ _ _ _ (by rw [hcl]; exact hle'), if_neg (by omega)]
                      exact hv
                    · rw [if_neg hn]; exact hv) (fun X' sz' c' d' l' e => by cases e; exact hw.many _ _ _ _ _ _ hb)
              have hst : (storeCells ⟨kk, i.toNat * z + q, none⟩ (a.eval y).cells.toList 0).run P w = .ok () (w.setCells kk (i.toNat * z + q + 0) (a.eval y).cells.toList) :=
                run_storeCells_cells kk _ _ 0 w (fun j hjl => by
                    obtain ⟨-, -, -, v, h4, -⟩ := hj (i.toNat * z + q + j) (hin j (by omega))
                    rw [Nat.add_zero, h4]; rfl)
                  (fun j hjl => by rw [Nat.add_zero]; exact (hj (i.toNat * z + q + j) (hin j (by omega))).2.2.1)
                  (fun v hv => by
                    obtain ⟨j, hj1, rfl⟩ := List.getElem_of_mem hv
                    have h2 := hg j (by omega)
                    have h3 := cellOk_one (allOk_at hok j (by omega)) h2
                    rw [← getD_toList, getD_get _ _ hj1] at h3
                    exact h3)
              have hrun : (execOp a.eval o).run P w = .ok .skip (w.setCells kk (i.toNat * z + q) (a.eval y).cells.toList) := by
                unfold execOp
                simp only [ho, Instr.storeAt, hav, Instr.sureAddr, Sem.run_bind, Sem.run_pure, Result.andThen_ok, storeVar, run_size hi]
                rw [if_neg (by omega)]
                rw [show (storeCells ⟨kk, i.toNat * z + q, none⟩ (a.eval y).cells.toList).run P w = _ from hst]
                rfl
              unfold Oper.wp
              rw [hrun]
              exact hn _ _ _ H β T _ hk hf hw' .undef
  | _ => exact hk.elim

theorem alloc_sound (hE : EnvOk P E) (hf : FR H β T s.fr a) (hw : W M w0 H0 H β T s.bx w) (hn : OnTo M w0 H0 a o.dst k next) (t : TypeId) (ho : o.op = .alloc t)
    (hk : stepK E (dOf o.dst) (.alloc t) s k) : o.wp P a w next Q := by
  simp only [stepK, stepB] at hk
  cases hdm : Nat.blt (dOf o.dst) 1000 with
  | false => rw [hdm] at hk; exact hk.elim
  | true =>
  rw [hdm] at hk
  simp only at hk
  cases hd : s.bx.get (dOf o.dst) (some []) with
  | some _ => rw [hd] at hk; exact hk.elim
  | none =>
    rw [hd] at hk
    obtain ⟨ti, hti, hk⟩ := tiK_elim hk
    have hT := hE.ty _ _ hti
    obtain ⟨i, hi, hsz, -, hz⟩ := hT.inf
    cases hzero : ti.zero with
    | nil => rw [hzero] at hk; exact hk.elim
    | cons z zs =>
      rw [hzero] at hk
      simp only [forceL_eq, Tr.putK_eq] at hk
      obtain ⟨zv, hzv, hcells⟩ := hz (by rw [hzero]; simp)
      rw [hzero] at hcells
      obtain ⟨hle, hw'⟩ := hw.newPlain hdm hd (cs := (z :: zs).map SV.val) rfl (vs := zv.cells) (t := t) (by rw [← Array.length_toList, hcells]; simp) (fun j hj => by
        have hjl : j < (z :: zs).length := by simpa using hj
        have e : at' ((z :: zs).map SV.val) j .junk = .val ((z :: zs)[j]) := by rw [at'_get _ _ _ hj, List.getElem_map]
        have e2 : zv.cells.getD j undef = (z :: zs)[j] := by rw [← getD_toList, hcells, getD_get _ _ hjl]
        rw [e, e2]; exact .val _)
      have hrun : (execOp a.eval o).run P w = .ok (.value (.pointer (some ⟨w.heap.size, 0, none⟩))) (w.alloc (.cells zv.cells t)) := by
        unfold execOp
        simp [ho, Instr.alloc, zeroValue, typeInfo, hi, hzv, newVar, newRow]
      unfold Oper.wp
      rw [hrun]
      exact hn _ _ _ H _ T _ hk (hf.mono (.refl _) hle (.refl _)) hw' (.box _ _ _ (by simp [bset]))

theorem box_sound (hf : FR H β T s.fr a) (hw : W M w0 H0 H β T s.bx w) (hn : OnTo M w0 H0 a o.dst k next) (t : TypeId) (x : Operand) (ho : o.op = .box t x)
    (hk : stepK E (dOf o.dst) (.box t x) s k) : o.wp P a w next Q := by
  simp only [stepK, stepB] at hk
  cases hdm : Nat.blt (dOf o.dst) 1000 with
  | false => rw [hdm] at hk; exact hk.elim
  | true =>
  rw [hdm] at hk
  simp only at hk
  cases hd : s.bx.get (dOf o.dst) (some []) with
  | some _ => rw [hd] at hk; exact hk.elim
  | none =>
    rw [hd] at hk
    obtain ⟨l, hk, hl⟩ := cellsK_elim (H := H) (β := β) (T := T) hk
    cases hpl : plain l with
    | false => rw [hpl] at hk; exact hk.elim
    | true =>
    rw [hpl] at hk
    simp only [Tr.putK_eq] at hk
    obtain ⟨hsz, hg⟩ := hl _ (ev_G hf x)
    obtain ⟨hle, hw'⟩ := hw.newPlain hdm hd (cs := l) hpl (vs := (a.eval x).cells) (t := t) hsz hg
    have hrun : (execOp a.eval o).run P w = .ok (.value (.pointer (some ⟨w.heap.size, 0, none⟩))) (w.alloc (.cells (a.eval x).cells t)) := by
      unfold execOp
      simp [ho, Instr.box, newVar, newRow]
    unfold Oper.wp
    rw [hrun]
    exact hn _ _ _ H _ T _ hk (hf.mono (.refl _) hle (.refl _)) hw' (.box _ _ _ (by simp [bset]))

theorem fieldAddr_sound (hE : EnvOk P E) (hf : FR H β T s.fr a) (hw : W M w0 H0 H β T s.bx w) (hn : OnTo M w0 H0 a o.dst k next) (t : TypeId) (x : Operand) (f : Nat) (ho : o.op = .fieldAddr t x f)
    (hk : stepK E (dOf o.dst) (.fieldAddr t x f) s k) : o.wp P a w next Q := by
  have hx := ev_G hf x
  have run : ∀ (ti : TI) (q u b p : Nat), TOk P t ti → ti.flds[f]? = some (q, u) → a.eval x = .pointer (some ⟨b, p, none⟩) →
      (execOp a.eval o).run P w = .ok (.value (.pointer (some ⟨b, p + q, none⟩))) w := by
    intro ti q u b p hT hq hp
    obtain ⟨d, hd, -, -, -, -, hfl⟩ := hT.und
    obtain ⟨fs, fd, rfl, hfd, rfl, rfl, i, hi, hne⟩ := hfl f q u hq
    unfold execOp
    simp [ho, Instr.fieldAt, run_und hd, hfd, hp, Instr.sureAddr, fieldPlace, run_size hi, hne, add_none]
  simp only [stepK, stepB] at hk
  generalize hev : ev s x = p at hk hx
  cases p with
  | box b q =>
    obtain ⟨ti, hti, hk⟩ := tiK_elim hk
    obtain ⟨q', u, hq, hk⟩ := fldK_elim hk
    generalize hav : a.eval x = val at hx
    cases hx with
    | box _ _ kk hβ => exact done_val hf hw hk (.box _ _ _ hβ) hn (run ti q' u kk q (hE.ty _ _ hti) hq hav)
  | plc b z i q =>
    obtain ⟨ti, hti, hk⟩ := tiK_elim hk
    obtain ⟨q', u, hq, hk⟩ := fldK_elim hk
    generalize hav : a.eval x = val at hx
    cases hx with
    | plc _ _ _ _ kk hi hβ =>
      refine done_val hf hw hk (.plc _ _ _ _ _ hi hβ) hn ?_
      rw [← Nat.add_assoc]
      exact run ti q' u kk (i.toNat * z + q) (hE.ty _ _ hti) hq hav
  | elt X z cs d l i q =>
    obtain ⟨ti, hti, hk⟩ := tiK_elim hk
    obtain ⟨q', u, hq, hk⟩ := fldK_elim hk
    generalize hav : a.eval x = val at hx
    cases hx with
    | elt _ _ _ _ _ _ _ b p vs hz hH hG =>
      refine done_val hf hw hk ?_ hn (run ti q' u b (p + q) (hE.ty _ _ hti) hq hav)
      rw [Nat.add_assoc]
      exact .elt X z cs d l i (q + q') b p vs hz hH hG
  | _ => exact hk.elim

theorem field_sound (hE : EnvOk P E) (hf : FR H β T s.fr a) (hw : W M w0 H0 H β T s.bx w) (hn : OnTo M w0 H0 a o.dst k next) (t : TypeId) (x : Operand) (f : Nat) (ho : o.op = .field t x f)
    (hk : stepK E (dOf o.dst) (.field t x f) s k) : o.wp P a w next Q := by
  have hx := ev_G hf x
  simp only [stepK, stepB] at hk
  generalize hev : ev s x = p at hk hx
  cases p with
  | agg l =>
    obtain ⟨ti, hti, hk⟩ := tiK_elim hk
    obtain ⟨q, u, hq, hk1⟩ := fldK_elim hk
    clear hk
    obtain ⟨ui, hui, hk⟩ := tiK_elim hk1
    clear hk1
    cases hle : Nat.ble (q + ui.size) l.length with
    | false => rw [hle] at hk; exact hk.elim
    | true =>
      rw [hle] at hk
      simp only [wholeK_eq] at hk
      have hle' := Nat.le_of_ble_eq_true hle
      have hT := hE.ty _ _ hti
      have hU := hE.ty _ _ hui
      obtain ⟨d, hd, -, -, -, -, hfl⟩ := hT.und
      obtain ⟨fs, fd, rfl, hfd, rfl, rfl, -⟩ := hfl f q u hq
      obtain ⟨d', hd', hag, -⟩ := hU.und
      obtain ⟨i', hi', hsz', -⟩ := hU.inf
      generalize hav : a.eval x = val at hx
      cases hx with
      | agg _ vs hvn hg =>
        have h1 := hU.one
        refine done_val hf hw hk (whole_G (takeDrop_length l ui.size fd.offset hle') (f := fun j => vs.getD (fd.offset + j) undef) (fun j hj => ?_) ui.agg h1) hn ?_
        · rw [at'_takeDrop _ _ _ _ _ hj]; exact hg _ (by omega)
        · unfold execOp
          simp only [ho, Instr.field, run_und hd, hfd, hav, asAgg, Sem.run_bind, Sem.run_pure, Result.andThen_ok, part, run_isAgg hd', hag]
          cases hagg : ui.agg with
          | true =>
            simp only [if_true, Sem.run_bind, run_size hi', hsz', Sem.run_pure, Result.andThen_ok]
            congr 3
            apply Array.ext'
            apply List.ext_getElem?
            intro j
            by_cases hj : j < ui.size
            · have : fd.offset + j < vs.size := by omega
              simp [hj, this]
              try omega
            · simp [hj]
              try omega
          | false =>
            have hlt : fd.offset < vs.size := by have := h1 hagg; omega
            simp [hlt]
  | _ => exact hk.elim

theorem indexAddr_sound (hE : EnvOk P E) (hf : FR H β T s.fr a) (hw : W M w0 H0 H β T s.bx w) (hn : OnTo M w0 H0 a o.dst k next) (t : TypeId) (x i : Operand) (ho : o.op = .indexAddr t x i)
    (hk : stepK E (dOf o.dst) (.indexAddr t x i) s k) : o.wp P a w next Q := by
  have hx := ev_G hf x
  have hi := ev_G hf i
  have run : ∀ (ti ui : TI) (kk : IntKind) (n : Int) (b p c len : Nat), TOk P t ti → TOk P ti.elem ui → ti.slice = true → 0 ≤ n → n < (len : Int) → a.eval i = .int kk n → a.eval x = .slice (some ⟨b, p, none⟩) len c →
      (execOp a.eval o).run P w = .ok (.value (.pointer (some ⟨b, p + n.toNat * ui.size + 0, none⟩))) w := by
    intro ti ui kk n b p c len hT hU hs h0 h1 hai hax
    obtain ⟨d, hd, -, hsl, -⟩ := hT.und
    obtain rfl := hsl hs
    obtain ⟨i', hi', hsz', -⟩ := hU.inf
    unfold execOp
    simp [ho, Instr.indexAt, hai, hax, asIntOf, run_und hd, h0, h1, run_size hi', hsz', add_none]
  simp only [stepK, stepB] at hk
  generalize hevi : ev s i = pi at hk hi
  cases pi with
  | val v =>
    cases v with
    | int kk n =>
      simp only at hk
      generalize hev : ev s x = p at hk hx
      generalize hai : a.eval i = vi at hi
      cases hi
      generalize hax : a.eval x = vx at hx
      cases p with
      | row X z cs d l =>
        obtain ⟨ti, hti, hk⟩ := tiK_elim hk
        obtain ⟨ui, hui, hk⟩ := tiK_elim hk
        cases hz : Nat.beq z ui.size with
        | false => rw [hz] at hk; exact hk.elim
        | true =>
          rw [hz] at hk
          obtain rfl := Nat.eq_of_beq_eq_true hz
          cases hs : ti.slice with
          | false => simp [hs] at hk
          | true =>
            simp only [hs] at hk
            obtain ⟨⟨h0, h1⟩, hk⟩ := hk
            cases hx with
            | rowE => simp at h1; omega
            | row _ _ _ _ _ b off c vs hc hzz hH hG =>
              refine done_val hf hw hk ?_ hn (run ti ui kk n b off c l.length (hE.ty _ _ hti) (hE.ty _ _ hui) hs h0 h1 hai hax)
              exact .elt X _ cs d l n 0 b (off + n.toNat * ui.size) (fun j => vs n.toNat j) (hzz _ (by omega)) (fun j hj => hH _ _ (by omega) hj) (fun j hj => hG _ _ (by omega) hj)
      | own X z cs d l id =>
        obtain ⟨ti, hti, hk⟩ := tiK_elim hk
        obtain ⟨ui, hui, hk⟩ := tiK_elim hk
        cases hz : Nat.beq z ui.size with
        | false => rw [hz] at hk; exact hk.elim
        | true =>
          rw [hz] at hk
          obtain rfl := Nat.eq_of_beq_eq_true hz
          cases hs : ti.slice with
          | false => simp [hs] at hk
          | true =>
            simp only [hs] at hk
            obtain ⟨⟨h0, h1⟩, hk⟩ := hk
            cases hx with
            | ownE => simp at h1; omega
            | own _ _ _ _ _ _ b off c vs hc hzz hH hG hT =>
              refine done_val hf hw hk ?_ hn (run ti ui kk n b off c l.length (hE.ty _ _ hti) (hE.ty _ _ hui) hs h0 h1 hai hax)
              exact .elt X _ cs d l n 0 b (off + n.toNat * ui.size) (fun j => vs n.toNat j) (hzz _ (by omega)) (fun j hj => hH _ _ (by omega) hj) (fun j hj => hG _ _ (by omega) hj)
      | arr b z q m cap =>
        obtain ⟨ti, hti, hk⟩ := tiK_elim hk
        obtain ⟨ui, hui, hk⟩ := tiK_elim hk
        cases hz : Nat.beq z ui.size with
        | false => rw [hz] at hk; exact hk.elim
        | true =>
          rw [hz] at hk
          obtain rfl := Nat.eq_of_beq_eq_true hz
          cases hs : ti.slice with
          | false => simp [hs] at hk
          | true =>
            simp only [hs] at hk
            obtain ⟨⟨h0, h1⟩, hk⟩ := hk
            cases hx with
            | arrE => simp at h1; omega
            | arr _ _ _ _ _ kb c hβ hc he =>
              refine done_val hf hw hk (.plc b ui.size ((q : Int) + n) 0 kb (by omega) hβ) hn ?_
              have := run ti ui kk n kb (q * ui.size) c m (hE.ty _ _ hti) (hE.ty _ _ hui) hs h0 h1 hai hax
              rw [this, show ((q : Int) + n).toNat = q + n.toNat by omega, Nat.add_mul]
      | _ => exact hk.elim
    | _ => exact hk.elim
  | _ => exact hk.elim

theorem pick_sound (hf : FR H β T s.fr a) (hw : W M w0 H0 H β T s.bx w) (hn : OnTo M w0 H0 a o.dst k next) (c x y : Operand) (ho : o.op = .pick c x y)
    (hk : stepK E (dOf o.dst) (.pick c x y) s k) : o.wp P a w next Q := by
  have hc := ev_G hf c
  simp only [stepK, stepB] at hk
  generalize hev : ev s c = p at hk hc
  cases p with
  | tt =>
    simp only [force_eq] at hk
    generalize hav : a.eval c = val at hc
    cases hc
    exact done_val hf hw hk (ev_G hf x) hn (by unfold execOp; simp [ho, hav, asBool])
  | ff =>
    simp only [force_eq] at hk
    generalize hav : a.eval c = val at hc
    cases hc
    exact done_val hf hw hk (ev_G hf y) hn (by unfold execOp; simp [ho, hav, asBool])
  | _ => exact hk.elim

theorem extract_sound (hf : FR H β T s.fr a) (hw : W M w0 H0 H β T s.bx w) (hn : OnTo M w0 H0 a o.dst k next) (x : Operand) (i : Nat) (ho : o.op = .extract x i)
    (hk : stepK E (dOf o.dst) (.extract x i) s k) : o.wp P a w next Q := by
  have hx := ev_G hf x
  simp only [stepK, stepB] at hk
  generalize hev : ev s x = p at hk hx
  cases p with
  | tup l =>
    simp only [force_eq] at hk
    cases hb : Nat.blt i l.length with
    | false => rw [hb] at hk; exact hk.elim
    | true =>
      rw [hb] at hk
      have hlt : i < l.length := by simpa [Nat.blt_eq] using hb
      generalize hav : a.eval x = val at hx
      cases hx with
      | tup _ vs hvn hg =>
        refine done_val hf hw hk (hg i hlt) hn ?_
        unfold execOp
        have : i < vs.size := by omega
        simp [ho, hav, Instr.extract, this]
  | _ => exact hk.elim
end
end Go.Proofs.YtimhbimpaiiceaaDoor.Ax
