/- Walks and laws, part 5: Oh Tm Oa Ob Od Oc Oi Oj Ok Ol Om Oe Of On Oq Or Os Ot Ov Ox Oy Oz. -/
import Derived.Test.YteccinlmblijfaaPk4
import Derived.WalkKit
import Derived.BigCall
import Derived.Lib.Hide
import Derived.Maps.OwnSet
import Derived.Deep.RegionWith
/- Operations on rows of one's own. -/
set_option linter.unusedVariables false
set_option linter.unusedSimpArgs false
namespace Go.Proofs.Yteccinlmblijfaa.Ax
open Go Go.RowKit
section
variable {P : Program}
theorem Chg.refl {X : Side} {w : World} (h : X.holds w) : Chg X X w w := ⟨rfl, rfl, rfl, Nat.le_refl _, fun _ _ _ => rfl, fun _ _ => rfl, h, fun _ h => .inl h⟩
/-- an operation that turns nothing and tells a value -/
theorem op_value {o : Oper} {ρ : Operand → SV} {v : Value} (h : ∀ (H : HM) (β : BM) (T : TM) (a : Act) (w : World), (∀ z ∈ o.op.operands, G H β T (ρ z) (a.eval z)) → (execOp a.eval o).run P w = .ok (.value v) w) :
    OpOk P o ρ .emp Unit (fun _ => .emp) (fun _ => .val v) := by
  intro H β T a w Q next hg hx hs hd hk
  unfold Oper.wp
  rw [h H β T a w hg]
  exact hk () v w (.refl trivial) (.val _)
theorem op_field {o : Oper} {t : TypeId} {x : Operand} {f : Nat} (ho : o.op = .fieldAddr t x f) {ti : TI} (hT : TOk P t ti) {q u : Nat} (hq : ti.flds[f]? = some (q, u)) {ρ : Operand → SV} {b p : Nat} (hx : ρ x = .val (.pointer (some ⟨b, p, none⟩))) :
    OpOk P o ρ .emp Unit (fun _ => .emp) (fun _ => .val (.pointer (some ⟨b, p + q, none⟩))) := by
  refine op_value fun H β T a w hg => ?_
  have h1 := hg x (by rw [ho]; simp [Op.operands])
  rw [hx] at h1
  have hp := gval h1
  obtain ⟨d, hd, -, -, -, -, hfl⟩ := hT.und
  obtain ⟨fs, fd, rfl, hfd, rfl, rfl, i, hi, hne⟩ := hfl f q u hq
  unfold execOp
  simp [ho, Instr.fieldAt, run_und hd, hfd, hp, Instr.sureAddr, fieldPlace, run_size hi, hne, add_none]
theorem op_index {o : Oper} {t : TypeId} {x i : Operand} (ho : o.op = .indexAddr t x i) {ti ui : TI} (hT : TOk P t ti) (hU : TOk P ti.elem ui) (hs : ti.slice = true) {ρ : Operand → SV} {b n c : Nat} {kk : IntKind} {j : Int}
    (hx : ρ x = .val (.slice (some ⟨b, 0, none⟩) n c)) (hi : ρ i = .val (.int kk j)) (h0 : 0 ≤ j) (h1 : j < (n : Int)) :
    OpOk P o ρ .emp Unit (fun _ => .emp) (fun _ => .val (.pointer (some ⟨b, j.toNat * ui.size, none⟩))) := by
  refine op_value fun H β T a w hg => ?_
  have g1 := hg x (by rw [ho]; simp [Op.operands])
  rw [hx] at g1
  have hax := gval g1
  have g2 := hg i (by rw [ho]; simp [Op.operands])
  rw [hi] at g2
  have hai := gval g2
  obtain ⟨d, hd, -, hsl, -⟩ := hT.und
  obtain rfl := hsl hs
  obtain ⟨i', hi', hsz', -⟩ := hU.inf
  unfold execOp
  simp [ho, Instr.indexAt, hai, hax, asIntOf, run_und hd, h0, h1, run_size hi', hsz', add_none]
theorem op_len {o : Oper} {x : Operand} {t : TypeId} (ho : o.op = .call { callee := .builtin .len, args := #[x], argTypes := #[t] }) {ti : TI} (hT : TOk P t ti) (hs : ti.slice = true) {ρ : Operand → SV} {a0 : Option Addr} {n c : Nat}
    (hx : ρ x = .val (.slice a0 n c)) : OpOk P o ρ .emp Unit (fun _ => .emp) (fun _ => .val (.int .i64 n)) := by
  refine op_value fun H β T a w hg => ?_
  have g1 := hg x (by rw [ho]; simp [Op.operands, Call.operands])
  rw [hx] at g1
  have hax := gval g1
  obtain ⟨d, hd, -, hsl, -⟩ := hT.und
  obtain rfl := hsl hs
  unfold execOp
  simp [ho, resolve, invoke, builtin, hax, Builtin.len_, run_und hd, goInt]
/-- a load of one cell out of what is one's own -/
theorem op_load {o : Oper} {t : TypeId} {x : Operand} (ho : o.op = .load t x) {ti : TI} (hT : TOk P t ti) (hs : ti.size = 1) (ha : ti.agg = false) {ρ : Operand → SV} {b p : Nat} (hx : ρ x = .val (.pointer (some ⟨b, p, none⟩))) {X : Side} {v : Value}
    (hc : ∀ w, X.holds w → w.cell? ⟨b, p, none⟩ = some v) : OpOk P o ρ X Unit (fun _ => X) (fun _ => .val v) := by
  intro H β T a w Q next hg hX hs' hd hk
  have g1 := hg x (by rw [ho]; simp [Op.operands])
  rw [hx] at g1
  have hp := gval g1
  have hr : (execOp a.eval o).run P w = .ok (.value v) w := by
    have h1 := run_loadVar (P := P) (w := w) hT b p (fun _ => v) (fun j hj => (by
      have : j = 0 := by omega
      subst this
      exact hc w hX)) (fun _ => by omega)
    unfold execOp
    simp only [ho, Instr.loadAt, hp, Instr.sureAddr, Sem.run_bind, Sem.run_pure, Result.andThen_ok, h1, ha]
    rfl
  unfold Oper.wp
  rw [hr]
  exact hk () v w (.refl hX) (.val _)
theorem cell_of_blk {w : World} {b j : Nat} {cur : Array Value} {e : TypeId} {fz : Nat × Nat} (h : w.heap[b]? = some (.cells cur e fz)) : w.cell? ⟨b, j, none⟩ = cur[j]? := by
  simp [World.cell?, h]
theorem take_set {α : Type} : ∀ (l : List α) (p : Nat) (v : α), p < l.length → (l.set p v).take (p + 1) = l.take p ++ [v]
  | [], _, _, h => by simp at h
  | x :: l, 0, v, _ => by simp
  | x :: l, p + 1, v, h => by simpa using take_set l p v (by simpa using h)
/-- a row of one's own, by its block -/
theorem row_block {w : World} {e : TypeId} {size b n c : Nat} {xs : List Value} (h : w.ownsRow 0 e size (.slice (some ⟨b, 0, none⟩) n c) n xs) :
    ∃ cur, w.heap[b]? = some (.cells cur e (0, 0)) ∧ n ≤ c ∧ cur.size = c * size ∧ cur.toList.take (n * size) = xs := by
  rcases h.2 with ⟨h1, -⟩ | ⟨g, cap, cur, h1, -, h2, h3, -, h4, h5⟩
  · cases h1
  · cases h1; exact ⟨cur, h2, h3, h4, h5⟩
theorem row_cell {w : World} {e : TypeId} {size b n c : Nat} {xs : List Value} (h : w.ownsRow 0 e size (.slice (some ⟨b, 0, none⟩) n c) n xs) {j : Nat} (hj : j < xs.length) : w.cell? ⟨b, j, none⟩ = some (xs.getD j undef) := by
  obtain ⟨cur, h1, h2, h3, h4⟩ := row_block h
  have hl := h.1
  have hle : n * size ≤ c * size := Nat.mul_le_mul_right _ h2
  rw [cell_of_blk h1]
  have : (cur.toList.take (n * size))[j]? = xs[j]? := by rw [h4]
  rw [List.getElem?_take, if_pos (by omega)] at this
  rw [← Array.getElem?_toList, this, getD_get _ _ hj, List.getElem?_eq_getElem hj]
theorem setCells_toList (k : Nat) : ∀ (vs : List Value) (p : Nat) (w : World) (cur : Array Value) (e : TypeId) (fz : Nat × Nat), w.heap[k]? = some (.cells cur e fz) → p + vs.length ≤ cur.size →
    ∃ cur', (w.setCells k p vs).heap[k]? = some (.cells cur' e fz) ∧ cur'.size = cur.size ∧ cur'.toList = cur.toList.take p ++ vs ++ cur.toList.drop (p + vs.length)
  | [], p, w, cur, e, fz, h, hp => ⟨cur, h, rfl, by simp⟩
  | v :: r, p, w, cur, e, fz, h, hp => by
    simp only [List.length_cons] at hp
    have h1 : (w.setCell ⟨k, p, none⟩ v).heap[k]? = some (.cells (cur.setIfInBounds p v) e fz) := by
      simp [World.setCell, Array.getElem?_modify, h]
    obtain ⟨cur', h2, h3, h4⟩ := setCells_toList k r (p + 1) _ _ e fz h1 (by simp; omega)
    refine ⟨cur', h2, by simpa using h3, ?_⟩
    rw [h4]
    have hlt : p < cur.toList.length := by simp; omega
    have e1 : (cur.setIfInBounds p v).toList = cur.toList.set p v := by simp
    rw [e1]
    have e2 : (cur.toList.set p v).take (p + 1) = cur.toList.take p ++ [v] := take_set _ _ _ hlt
    have e3 : (cur.toList.set p v).drop (p + 1 + r.length) = cur.toList.drop (p + 1 + r.length) := by
      rw [List.drop_set_of_lt (by omega)]
    rw [e2, e3, List.length_cons, show p + (r.length + 1) = p + 1 + r.length by omega]
    simp
theorem setCells_side (k : Nat) : ∀ (vs : List Value) (p : Nat) (w : World), (w.setCells k p vs).os = w.os ∧ (w.setCells k p vs).tape = w.tape ∧ (w.setCells k p vs).output = w.output ∧ ∀ q, (w.setCells k p vs).shape? q = w.shape? q
  | [], _, _ => ⟨rfl, rfl, rfl, fun _ => rfl⟩
  | v :: r, p, w => by
    obtain ⟨h1, h2, h3, h4⟩ := setCells_side k r (p + 1) (w.setCell ⟨k, p, none⟩ v)
    exact ⟨h1, h2, h3, fun q => (h4 q).trans (shape_setCell w _ v q)⟩
theorem take_over {α : Type} (L vs : List α) (p m : Nat) (h : p + vs.length ≤ m) (hm : m ≤ L.length) : (L.take p ++ vs ++ L.drop (p + vs.length)).take m = (L.take m).take p ++ vs ++ (L.take m).drop (p + vs.length) := by
  rw [List.take_take, Nat.min_eq_left (by omega), List.drop_take]
  rw [List.take_append, List.take_of_length_le (by simp; omega)]
  congr 2
  simp; omega
theorem op_store {o : Oper} {t : TypeId} {x y : Operand} (ho : o.op = .store t x y) {ti : TI} (hT : TOk P t ti) {ρ : Operand → SV} {b p n c size : Nat} {e : TypeId} {xs vs : List Value}
    (hx : ρ x = .val (.pointer (some ⟨b, p, none⟩))) (hy : ρ y = .agg (vs.map SV.val)) (hl : vs.length = ti.size) (h1 : ∀ u ∈ vs, u.oneCell' = true) (hp : p + vs.length ≤ xs.length) :
    OpOk P o ρ (rowSide e size (.slice (some ⟨b, 0, none⟩) n c) n xs) Unit (fun _ => rowSide e size (.slice (some ⟨b, 0, none⟩) n c) n (xs.take p ++ vs ++ xs.drop (p + vs.length))) (fun _ => .val undef) := by
  intro H β T a w Q next hg hX hs' hd hk
  have hX : w.ownsRow 0 e size (.slice (some ⟨b, 0, none⟩) n c) n xs := hX
  have g1 := hg x (by rw [ho]; simp [Op.operands])
  rw [hx] at g1
  have hax := gval g1
  have g2 := hg y (by rw [ho]; simp [Op.operands])
  rw [hy] at g2
  have hcells : (a.eval y).cells.toList = vs := by
    generalize a.eval y = v at g2
    cases g2 with
    | agg _ us hn hh =>
      show us.toList = vs
      refine List.ext_getElem (by simpa using hn) fun j h2 h3 => ?_
      have h4 := hh j (by simpa using h3)
      rw [at'_get _ _ _ (by simpa using h3), List.getElem_map] at h4
      have h5 := gval h4
      rw [← getD_toList, getD_get _ _ h2] at h5
      exact h5
  obtain ⟨i, hi, hisz, -⟩ := hT.inf
  obtain ⟨cur, hb, hnc, hcs, htake⟩ := row_block hX
  have hle : n * size ≤ c * size := Nat.mul_le_mul_right _ hnc
  have hxl := hX.1
  have hst : (storeCells ⟨b, p, none⟩ (a.eval y).cells.toList 0).run P w = .ok () (w.setCells b (p + 0) (a.eval y).cells.toList) := by
    rw [hcells]
    refine run_storeCells_cells b p _ 0 w (fun j hjl => ?_) (fun j hjl => ?_) h1
    · rw [Nat.add_zero, cell_of_blk hb]
      have : p + j < cur.size := by omega
      simp [this]
    · simp [World.frozen?, hb]
  have hrun : (execOp a.eval o).run P w = .ok .skip (w.setCells b p vs) := by
    unfold execOp
    have hsz : (a.eval y).cells.size = vs.length := by rw [← hcells]; simp
    simp only [ho, Instr.storeAt, hax, Instr.sureAddr, Sem.run_bind, Sem.run_pure, Result.andThen_ok, storeVar, run_size hi]
    rw [if_neg (by omega)]
    rw [show (storeCells ⟨b, p, none⟩ (a.eval y).cells.toList).run P w = _ from hst, hcells]
    rfl
  unfold Oper.wp
  rw [hrun]
  obtain ⟨s1, s2, s3, s4⟩ := setCells_side b vs p w
  obtain ⟨cur', e1, e2, e3⟩ := setCells_toList b vs p w cur e (0, 0) hb (by omega)
  have := hk () undef (w.setCells b p vs) ⟨s1, s2, s3, by rw [setCells_size]; exact Nat.le_refl _, fun k _ hkb => setCells_heap b vs p w k (fun c => hkb (by rw [c]; rfl)), fun k _ => s4 k, ?_, fun k h => .inl h⟩ .undef
  · exact this
  · refine ⟨by simp; omega, .inr ⟨b, c, cur', rfl, Nat.zero_le _, e1, hnc, ?_, by omega, ?_⟩⟩
    · rcases hX.2 with ⟨q, -⟩ | ⟨g, cap, cur2, q, -, -, -, q2, -⟩
      · cases q
      · cases q; exact q2
    · rw [e3, take_over _ _ _ _ (by omega) (by simp; omega), htake]
theorem grow_shape {w w' : World} {g : Option Nat} (hg : w.grownBy w' g) (h : ∀ b, g = some b → b < w.heap.size → w'.shape? b = w.shape? b) : ∀ k, k < w.heap.size → w'.shape? k = w.shape? k := fun k hk => by
  by_cases e : some k = g
  · exact h k e.symm hk
  · exact shape_eq (hg.block k hk e)
theorem op_append {o : Oper} {sl x : Operand} {t : TypeId} (ho : o.op = .call { callee := .builtin .append, args := #[sl, x], argTypes := #[t, t] }) {e : TypeId} {i : TypeInfo} {z : Value} {size bytes : Nat}
    (ht : P.underlying t = some (.slice e)) (hi : P.info? e = some i) (hz : i.zero = some z) (hsize : i.size = size) (hby : i.bytes = bytes) (hzs : z.cells.size = size) (hsz : 0 < size)
    {ρ : Operand → SV} {v : Value} {n : Nat} {xs : List Value} (hs : ρ sl = .val v) {X : Type} {cs : X → List SV} {d : X} {y : X} {id : Nat} (hx : ρ x = .own X size cs d [y] id) (news : List Value) (hc : cs y = news.map SV.val) (hl : news.length = size)
    (h1 : ∀ u ∈ news, u.oneCell' = true) (hb : (n + 1) * bytes ≤ 140737488355328) (hn1 : n + 1 ≤ 140737488355328) :
    OpOk P o ρ (rowSide e size v n xs) (Nat × Nat) (fun u => rowSide e size (.slice (some ⟨u.1, 0, none⟩) (n + 1) u.2) (n + 1) (xs ++ news)) (fun u => .val (.slice (some ⟨u.1, 0, none⟩) (n + 1) u.2)) := by
  intro H β T a w Q next hg hX hseal hd hk
  have hX : w.ownsRow 0 e size v n xs := hX
  have g1 := hg sl (by rw [ho]; simp [Op.operands, Call.operands])
  rw [hs] at g1
  have hav := gval g1
  have g2 := hg x (by rw [ho]; simp [Op.operands, Call.operands])
  rw [hx] at g2
  generalize hax : a.eval x = vx at g2
  cases g2 with
  | own _ _ _ _ _ _ b off c us hc1 hz1 hH hG hT =>
  have hnews : ∀ j u, news[j]? = some u → w.cell? ((⟨b, off, none⟩ : Addr).add j) = some u := by
    intro j u e1
    have hj := (List.getElem?_eq_some_iff.1 e1).1
    have h2 := hseal _ _ _ (hH 0 j (by simp) (by omega))
    have h3 := hG 0 j (by simp) (by omega)
    rw [show ([y] : List X).getD 0 d = y from rfl, hc, at'_get _ _ _ (by simpa using hj), List.getElem_map] at h3
    have h4 := gval h3
    rw [add_none, show off + j = off + 0 * size + j by omega, h2, h4]
    exact (List.getElem?_eq_some_iff.1 e1).2 ▸ rfl
  obtain ⟨v', w', hr, h2, h3, -⟩ := run_append_own (P := P) w 0 t o.type e i z size bytes ht hi hz hsize hby hzs hsz v n xs hX ⟨b, off, none⟩ 1 c news (by omega) hnews h1 (by unfold maxLen; omega) hb (Nat.zero_le _)
  have hmore : (∀ g, v'.ownBlock = some g → v.ownBlock = some g ∨ w.heap.size ≤ g) ∧ ∀ g, v.ownBlock = some g → g < w.heap.size → w'.shape? g = w.shape? g := by
    rcases hX.2 with ⟨rfl, rfl⟩ | ⟨g, cap, cur, rfl, hbg, hgc, hnc, hcm, hcs, htake⟩
    · refine ⟨fun g hg' => ?_, fun g hg' => (by cases hg')⟩
      have hx0 : xs = [] := by have := hX.1; simpa using this
      subst hx0
      obtain ⟨v2, w2, r1, r2, -⟩ := run_append_own (P := P) w w.heap.size t o.type e i z size bytes ht hi hz hsize hby hzs hsz (.slice none 0 0) 0 [] ⟨by simp, .inl ⟨rfl, rfl⟩⟩ ⟨b, off, none⟩ 1 c news (by omega) hnews h1 (by unfold maxLen; omega) hb (Nat.le_refl _)
      rw [hr] at r1
      injection r1 with q1 q2
      subst q1
      rcases r2.2 with ⟨q, -⟩ | ⟨g2, _, _, q, hle, -⟩
      · rw [q] at hg'; cases hg'
      · rw [q] at hg'; cases hg'; exact .inr hle
    · by_cases hroom : n + 1 ≤ cap
      · have hle : (n + 1) * size ≤ cap * size := Nat.mul_le_mul_right _ hroom
        rw [Nat.add_mul, Nat.one_mul] at hle
        have r1 := run_append_room (P := P) w t o.type e i ht hi g n cap cur hgc ⟨b, off, none⟩ 1 c news (by rw [hsize]; omega) hnews h1 hroom (by rw [hsize, hcs, hl]; omega)
        rw [hr] at r1
        injection r1 with q1 q2
        subst q1
        refine ⟨fun g' hg' => .inl hg', fun g' hg' _ => ?_⟩
        have : g = g' := Option.some.inj hg'
        subst this
        rcases h2.2 with ⟨q, -⟩ | ⟨g2, cap2, cur2, q, -, e1, -, -, e2, -⟩
        · cases q
        · cases q
          simp only [World.shape?, e1, hgc, e2, hcs]
      · have holds : ∀ j u, xs[j]? = some u → w.cell? ((⟨g, 0, none⟩ : Addr).add j) = some u := by
          intro j u e1
          have hj := (List.getElem?_eq_some_iff.1 e1).1
          rw [add_none, Nat.zero_add, row_cell hX hj, List.getD, e1]; rfl
        have r1 := run_append_grow (P := P) w t o.type e i z ht hi hz ⟨g, 0, none⟩ n cap xs (by rw [hsize]; exact hX.1) holds ⟨b, off, none⟩ 1 c news (by rw [hsize]; omega) hnews (by omega) (by omega) (by rw [hby]; exact growslice_fits (by omega) (by omega))
        rw [hr] at r1
        injection r1 with q1 q2
        subst q1 q2
        refine ⟨fun g' hg' => .inr ?_, fun g' _ hlt => shape_eq (Below.heap_alloc w.drew _ _ hlt)⟩
        simp only [Value.ownBlock, Option.some.injEq] at hg'
        omega
  unfold Oper.wp execOp
  simp only [ho, resolve, invoke, builtin, Sem.run_bind, Sem.run_pure, Result.andThen_ok, List.map_toArray, List.map_cons, List.map_nil, hav, hax, List.length_cons, List.length_nil, Nat.zero_add, hr]
  obtain ⟨g0, cap0, rfl⟩ : ∃ g cap, v' = .slice (some ⟨g, 0, none⟩) (n + 1) cap := by
    rcases h2.2 with ⟨-, q⟩ | ⟨g, cap, _, q, -⟩
    · omega
    · exact ⟨g, cap, q⟩
  exact hk (g0, cap0) _ w' ⟨h3.os, h3.tape, h3.output, h3.size, fun k hk hb => h3.block k hk (fun c => hb c.symm), grow_shape h3 hmore.2, h2, fun k hk => hmore.1 k hk⟩ (.val _)
end
end Go.Proofs.Yteccinlmblijfaa.Ax
/- Layer term by the logic. -/
set_option linter.unusedVariables false
set_option linter.unusedSimpArgs false
namespace Go.Proofs.Yteccinlmblijfaa.Ax
open Go Go.RowKit

def monoC (m : Int × Int) : List SV := [I m.1, I m.2]
def monos (l : List (Int × Int)) : SV := .row (Int × Int) 2 monoC (0, 0) l
def termC (t : Int × List (Int × Int)) : List SV := [I t.1, monos t.2]
def termS (t : Int × List (Int × Int)) : SV := .agg (termC t)
def good (l : List (Int × Int)) (j : Nat) : Prop := 0 ≤ (l.getD j (0, 0)).1 ∧ (l.getD j (0, 0)).1 < 40 ∧ (0 < j → (l.getD (j - 1) (0, 0)).1 < (l.getD j (0, 0)).1) ∧ (l.getD j (0, 0)).2 ≠ 0 ∧ -1048576 ≤ (l.getD j (0, 0)).2 ∧ (l.getD j (0, 0)).2 ≤ 1048576
instance (l : List (Int × Int)) (j : Nat) : Decidable (good l j) := by unfold good; infer_instance
def right (t : Int × List (Int × Int)) : Prop := -1099511627776 ≤ t.1 ∧ t.1 ≤ 1099511627776 ∧ t.2.length ≤ 40 ∧ ∀ j, j < t.2.length → good t.2 j
instance (t : Int × List (Int × Int)) : Decidable (right t) := by unfold right; infer_instance
theorem drop_at {α : Type} (d : α) (l : List α) (i : Nat) (h : i < l.length) : l.drop i = l.getD i d :: l.drop (i + 1) := by
  rw [List.drop_eq_getElem_cons h]; simp [List.getD, h]
end Go.Proofs.Yteccinlmblijfaa.Ax
/- Layer open: what is known of an input, as values in memory. -/
set_option linter.unusedVariables false
set_option linter.unusedSimpArgs false
namespace Go.Proofs.Yteccinlmblijfaa.Ax
open Go Go.RowKit
theorem Sub.agg4 {a b c d e f g h : SV} (h1 : Sub a b) (h2 : Sub c d) (h3 : Sub e f) (h4 : Sub g h) : Sub (.agg [a, c, e, g]) (.agg [b, d, f, h]) := .agg _ _ rfl fun j hj => by
  match j, hj with
  | 0, _ => exact h1
  | 1, _ => exact h2
  | 2, _ => exact h3
  | 3, _ => exact h4
theorem dec_lt {i n : Nat} (h : decide ((i : Int) < (n : Int)) = true) : i < n := by have := of_decide_eq_true h; omega
theorem dec_ge {i n : Nat} (h : decide ((i : Int) < (n : Int)) = false) : ¬ i < n := by have := of_decide_eq_false h; omega
abbrev SymT := Int × (Int × List (Int × Int)) × Int
abbrev sym0 : SymT := (0, (0, []), 0)
def symC (y : SymT) : List SV := [I y.1, I y.2.1.1, monos y.2.1.2, I y.2.2]
abbrev symS (y : SymT) : SV := .agg (symC y)
abbrev syms (l : List SymT) : SV := .row SymT 4 symC sym0 l
abbrev ObjT := (Int × ByteArray) × List SymT × Int
abbrev sobj0 : ObjT := ((0, ⟨#[]⟩), [], 0)
def sobjC (o : ObjT) : List SV := [I o.1.1, S o.1.2, syms o.2.1, I o.2.2]
abbrev sobjS (o : ObjT) : SV := .agg (sobjC o)
abbrev sobjs (l : List ObjT) : SV := .row ObjT 4 sobjC sobj0 l
abbrev InT := List SymT × List ObjT
def sinC (s : InT) : List SV := [syms s.1, sobjs s.2]
abbrev sinS (s : InT) : SV := .agg (sinC s)
/-- the variable of a symbolic int -/
def varOf (y : SymT) : Int := (y.2.1.2.getD 0 (0, 0)).1
def oneV (y : SymT) : Bool := decide (y.2.2 = 0 ∧ y.2.1.1 = 0 ∧ y.2.1.2.length = 1 ∧ (y.2.1.2.getD 0 (0, 0)).2 = 1)
def plainT (y : SymT) : Bool := decide (y.2.1.1 = 0 ∧ y.2.1.2.length = 0)
/-- a symbolic value behind variables that were met -/
def symB (vars nh : Int) (L : List Int) (y : SymT) : Bool × List Int :=
  if y.1 = 1 then (if oneV y then (decide (0 ≤ varOf y ∧ varOf y < vars) && !L.contains (varOf y), varOf y :: L) else (false, L))
  else if y.1 = 2 ∨ y.1 = 4 then (plainT y && decide (y.2.2 = 0), L)
  else if y.1 = 3 then (plainT y && decide (0 ≤ y.2.2 ∧ y.2.2 < nh), L)
  else (false, L)
def symsB (vars nh : Int) : List Int → List SymT → Bool × List Int
  | L, [] => (true, L)
  | L, y :: r => if (symB vars nh L y).1 then symsB vars nh (symB vars nh L y).2 r else (false, (symB vars nh L y).2)
def isRowB (k : Int) : Bool := k == 4 || k == 5
def mostI (k : Int) : Int := if isRowB k then 3 else 64
def slotsB (vars nh k : Int) : List Int → List SymT → Bool × List Int
  | L, [] => (true, L)
  | L, y :: r => if (symB vars nh L y).1 && !(isRowB k && ((y.1 == 1) != (k == 4))) then slotsB vars nh k (symB vars nh L y).2 r else (false, (symB vars nh L y).2)
def objB (vars nh : Int) (L : List Int) (i : Int) (o : ObjT) : Bool × List Int :=
  if (o.1.1 ≠ 3 ∧ isRowB o.1.1 = false) ∨ o.2.2 ≠ i ∨ mostI o.1.1 < (o.2.1.length : Int) then (false, L) else slotsB vars nh o.1.1 L o.2.1
def objsB (vars nh : Int) : List Int → Int → List ObjT → Bool
  | _, _, [] => true
  | L, i, o :: r => (objB vars nh L i o).1 && objsB vars nh (objB vars nh L i o).2 (i + 1) r
def chkB (s : InT) (vars : Int) : Bool :=
  decide (0 ≤ vars ∧ vars ≤ 40 ∧ s.1.length ≤ 4 ∧ s.2.length ≤ 3) && (symsB vars s.2.length [] s.1).1 && objsB vars s.2.length (symsB vars s.2.length [] s.1).2 0 s.2
def chkF (s : InT) (vars : Int) : Int := if chkB s vars then 0 else 1
/-- whole numbers of 64 bits -/
def inR (n : Int) : Prop := -9223372036854775808 ≤ n ∧ n ≤ 9223372036854775807
def symD (y : SymT) : Prop := ∀ m ∈ y.2.1.2, inR m.1
def sinD (s : InT) : Prop := (∀ y ∈ s.1, symD y) ∧ (s.2.length ≤ 4611686018427387904 ∧ ∀ o ∈ s.2, ∀ y ∈ o.2.1, symD y)
def isRowC : Ctr := { A := Int × ByteArray, enc := fun t => [.agg [I t.1, S t.2]], dom := fun _ => True, res := fun t _ => B (isRowB t.1) }
def mostC : Ctr := { A := Int × ByteArray, enc := fun t => [.agg [I t.1, S t.2]], dom := fun _ => True, res := fun t _ => I (mostI t.1) }
theorem isRow_ok : CtrSound Try.prog 23 isRowC :=
  ctr_of_ax (env_ok tys_ok (eqs := []) trivial (cs := []) trivial) mixed _ Try.func23 (by kernel_rfl) rfl (fun _ _ => Nat.le_of_ble_eq_true rfl) fun ((k, s) : Int × ByteArray) id hd => by
    refine ⟨fun h => ?_, fun h => ?_⟩
    · have h : (k == 4) = true := h
      exact ⟨.btt (by unfold isRowB; rw [h]; rfl), rfl⟩
    · have h : (k == 4) = false := h
      exact ⟨.bool (by show (k == 5) = isRowB k; unfold isRowB; rw [h]; rfl), rfl⟩
theorem most_ok : CtrSound Try.prog 25 mostC :=
  ctr_of_ax (env_ok tys_ok (eqs := []) trivial (cs := [(23, isRowC)]) ⟨isRow_ok, trivial⟩) mixed _ Try.func25 (by kernel_rfl) rfl (fun _ _ => Nat.le_of_ble_eq_true rfl) fun ((k, s) : Int × ByteArray) id hd => by
    refine ⟨(k, s), ⟨.agg2 (.refl _) (.refl _), trivial⟩, rfl, trivial, ?_⟩
    refine ⟨fun h => ?_, fun h => ?_⟩
    · exact ⟨.int (by simp [mostI, h]), rfl⟩
    · exact ⟨.int (by simp [mostI, h]), rfl⟩
end Go.Proofs.Yteccinlmblijfaa.Ax
/- Layer open: the look at a symbolic value, and the variables that it has met. -/
set_option linter.unusedVariables false
set_option linter.unusedSimpArgs false
namespace Go.Proofs.Yteccinlmblijfaa.Ax
open Go Go.RowKit
/-- the map in block mb holds these keys, each true -/
def Met (w : World) (mb : Nat) (L : List Int) : Prop :=
  ∃ D : DataW Unit, w.ownsMap Try.prog 3 (plainElem Try.prog 4) mb L.length D ∧ ∀ v, inR v → D.atKey (.int .i64 v) (.lit (.bool false)) = .lit (.bool (L.contains v))
theorem mapT : Try.prog.underlying 68 = some (.map 3 4) := by kernel_rfl
theorem boolT : Try.prog.underlying 4 = some .bool := by kernel_rfl
theorem intT : Try.prog.underlying 3 = some (.int .i64) := by kernel_rfl
theorem intK : Maps.Keyed Try.prog 3 := Maps.int_keyed intT
theorem wf64 {v : Int} (h : inR v) : (Lit.int .i64 v).wf = true := by obtain ⟨a, b⟩ := h; simp only [Lit.wf, Bool.and_eq_true, decide_eq_true_eq]; exact ⟨a, b⟩
theorem zeroB (w : World) : (zeroValue 4).run Try.prog w = .ok (.bool false) w := by kernel_rfl
theorem met_made (w : World) : Met (w.alloc (.map #[] 0)) w.heap.size [] :=
  ⟨.map [], World.ownsMap_made w _ _ _, fun v _ => rfl⟩
theorem met_kept {w w' : World} {mb : Nat} {L : List Int} {row : Option Nat} (h : Met w mb L) (hg : w.grownBy w' row) (hne : some mb ≠ row) : Met w' mb L := by
  obtain ⟨D, h1, h2⟩ := h; exact ⟨D, h1.kept hg hne, h2⟩
theorem met_lt {w : World} {mb : Nat} {L : List Int} (h : Met w mb L) : mb < w.heap.size := by obtain ⟨D, h1, h2⟩ := h; exact h1.lt
theorem met_look {w : World} {mb : Nat} {L : List Int} (h : Met w mb L) {v : Int} (hv : inR v) : (Instr.lookup 68 (.map (some mb)) (.int .i64 v) false).run Try.prog w = .ok (.bool (L.contains v)) w := by
  obtain ⟨D, h1, h2⟩ := h
  obtain ⟨u, ps, hr, hu⟩ := h1.lookup intK mapT (zeroB w) (plainElem_bool boolT false) (Maps.keyOf_int_mk intT (wf64 hv))
  rw [h2 v hv] at hu
  rw [hr]
  unfold plainElem at hu
  rw [boolT] at hu
  cases u <;> simp at hu
  rw [hu.1]; simp
theorem met_put {w : World} {mb : Nat} {L : List Int} (h : Met w mb L) (hl : L.length < maxLen) {v : Int} (hv : inR v) :
    ∃ w', (Instr.mapUpdate 68 (.map (some mb)) (.int .i64 v) (.bool true)).run Try.prog w = .ok () w' ∧ Met w' mb (v :: L) ∧ w.grownBy w' (some mb) := by
  obtain ⟨D, h1, h2⟩ := h
  obtain ⟨w', hr, h3, h4⟩ := h1.update intK mapT hl (Maps.keyOf_int_mk intT (wf64 hv)) (plainElem_bool boolT true)
  refine ⟨w', hr, ⟨_, h3, fun u hu => ?_⟩, h4⟩
  by_cases e : u = v
  · subst e
    rw [Maps.atKey_put_same (k := .int .i64 u) h1.isMap trivial]; simp
  · rw [Maps.atKey_put_other (fun c => e (by injection c)), h2 u hu]
    simp [e]
theorem wpMet {ops : Array Oper} {rest : List Oper} {o : Oper} {a : Act} {w : World} {Q : Exit → Act → World → Prop} (hg : o.guard = none) (m x v : Operand) (hop : o.op = Op.mapUpdate 68 m x v)
    {mb : Nat} {L : List Int} {n : Int} (hm : a.eval m = .map (some mb)) (hmet : Met w mb L) (hl : L.length < maxLen) (hx : a.eval x = .int .i64 n) (hv : a.eval v = .bool true) (hn : inR n)
    (hK : ∀ w', Met w' mb (n :: L) → w.grownBy w' (some mb) → wpList Try.prog ops Q rest (a.put o.dst undef) w') : wpList Try.prog ops Q (o :: rest) a w := by
  refine wpList_plain hg fun K' hK' => ?_
  obtain ⟨w', hrun, r1, r2⟩ := met_put hmet hl hn
  unfold Oper.wp
  simp [execOp, hop, hm, hx, hv, hrun, Result.andThen]
  exact hK' _ _ (hK w' r1 r2)
end Go.Proofs.Yteccinlmblijfaa.Ax
/- Layer open: the look at what is no int. -/
set_option linter.unusedVariables false
set_option linter.unusedSimpArgs false
namespace Go.Proofs.Yteccinlmblijfaa.Ax
open Go Go.RowKit
/-- a slice of which the length alone is known -/
abbrev lenS (n : Nat) : SV := .row Unit 0 (fun _ => []) () (List.replicate n ())
/-- what the look tells of what is no int -/
def symN (k c n : Int) (m nh : Nat) : Bool :=
  if k = 2 ∨ k = 4 then (decide (c = 0) && decide (m = 0)) && decide (n = 0) else if k = 3 then (decide (c = 0) && decide (m = 0)) && (decide (0 ≤ n) && decide (n < (nh : Int))) else false
theorem beq_dec (n : Int) : (n == 0) = decide (n = 0) := by by_cases h : n = 0 <;> simp [h]
def symNC : Ctr := { A := (Int × Int × Int × Nat) × (Nat × Nat × Int × Nat), enc := fun x => [.elt Unit 4 (fun _ => [lenS x.2.1, lenS x.2.2.1, I x.2.2.2.1, .val (.map (some x.2.2.2.2))]) () [()] 0 0, .agg [I x.1.1, I x.1.2.1, lenS x.1.2.2.2, I x.1.2.2.1]], dom := fun x => x.1.1 ≠ 1, res := fun x _ => B (symN x.1.1 x.1.2.1 x.1.2.2.1 x.1.2.2.2 x.2.2.1) }
set_option maxRecDepth 100000 in
set_option maxHeartbeats 4000000 in
theorem symN_ok : CtrSound Try.prog 27 symNC :=
  ctr_of_ax (env_ok tys_ok (eqs := []) trivial (cs := []) trivial) mixed _ Try.func27 (by kernel_rfl) rfl (fun _ _ => Nat.le_of_ble_eq_true rfl) fun (((k, c, n, m), (na, nh, vars, mb)) : (Int × Int × Int × Nat) × (Nat × Nat × Int × Nat)) id hd => by
    have hd : k ≠ 1 := hd
    have hl : ∀ q, (List.replicate q ()).length = q := fun q => List.length_replicate
    refine ⟨?_, ?_⟩
    · skip
      intro h -- (((k, c, n, m), na, nh, vars, mb).fst.snd.fst == 0) = true
      dsimp only at h
      refine ⟨?_, ?_⟩
      · skip
        intro h -- (((k, c, n, m), na, nh, vars, mb).fst.fst == 1) = true
        dsimp only at h
        (exact absurd (eq_of_beq h) hd)
      · skip
        intro h -- (((k, c, n, m), na, nh, vars, mb).fst.fst == 1) = false
        dsimp only at h
        refine ⟨?_, ?_⟩
        · skip
          intro h -- (((k, c, n, m), na, nh, vars, mb).fst.fst == 2) = true
          dsimp only at h
          refine ⟨?_, ?_⟩
          · skip
            intro h -- (((k, c, n, m), na, nh, vars, mb).fst.fst == 2) = true
            dsimp only at h
            refine ⟨?_, ?_⟩
            · skip
              intro h -- (↑(List.replicate ((k, c, n, m), na, nh, vars, mb).fst.snd.snd.snd ()).length == 0) = true
              dsimp only at h
              exact ⟨.bool (by simp_all [symN, beq_dec]), rfl⟩
            · skip
              intro h -- (↑(List.replicate ((k, c, n, m), na, nh, vars, mb).fst.snd.snd.snd ()).length == 0) = false
              dsimp only at h
              exact ⟨.bff (by simp_all [symN]), rfl⟩
          · skip
            intro h -- (((k, c, n, m), na, nh, vars, mb).fst.fst == 2) = false
            dsimp only at h
            refine ⟨?_, ?_⟩
            · skip
              intro h -- (((k, c, n, m), na, nh, vars, mb).fst.fst == 3) = true
              dsimp only at h
              refine ⟨?_, ?_⟩
              · kernel_rfl
              · skip
                refine ⟨?_, ?_⟩
                · skip
                  intro h -- (↑(List.replicate ((k, c, n, m), na, nh, vars, mb).fst.snd.snd.snd ()).length == 0) = true
                  dsimp only at h
                  refine ⟨?_, ?_⟩
                  · skip
                    intro h -- decide (((k, c, n, m), na, nh, vars, mb).fst.snd.snd.fst ≥ 0) = true
                    dsimp only at h
                    exact ⟨.bool (by simp_all [symN, beq_dec]), rfl⟩
                  · skip
                    intro h -- decide (((k, c, n, m), na, nh, vars, mb).fst.snd.snd.fst ≥ 0) = false
                    dsimp only at h
                    exact ⟨.bff (by simp_all [symN]), rfl⟩
                · skip
                  intro h -- (↑(List.replicate ((k, c, n, m), na, nh, vars, mb).fst.snd.snd.snd ()).length == 0) = false
                  dsimp only at h
                  exact ⟨.bff (by simp_all [symN]), rfl⟩
            · skip
              intro h -- (((k, c, n, m), na, nh, vars, mb).fst.fst == 3) = false
              dsimp only at h
              exact ⟨.bff (by simp_all [symN]), rfl⟩
        · skip
          intro h -- (((k, c, n, m), na, nh, vars, mb).fst.fst == 2) = false
          dsimp only at h
          refine ⟨?_, ?_⟩
          · skip
            intro h -- (((k, c, n, m), na, nh, vars, mb).fst.fst == 4) = true
            dsimp only at h
            refine ⟨?_, ?_⟩
            · skip
              intro h -- (↑(List.replicate ((k, c, n, m), na, nh, vars, mb).fst.snd.snd.snd ()).length == 0) = true
              dsimp only at h
              exact ⟨.bool (by simp_all [symN, beq_dec]), rfl⟩
            · skip
              intro h -- (↑(List.replicate ((k, c, n, m), na, nh, vars, mb).fst.snd.snd.snd ()).length == 0) = false
              dsimp only at h
              exact ⟨.bff (by simp_all [symN]), rfl⟩
          · skip
            intro h -- (((k, c, n, m), na, nh, vars, mb).fst.fst == 4) = false
            dsimp only at h
            refine ⟨?_, ?_⟩
            · skip
              intro h -- (((k, c, n, m), na, nh, vars, mb).fst.fst == 3) = true
              dsimp only at h
              refine ⟨?_, ?_⟩
              · kernel_rfl
              · skip
                refine ⟨?_, ?_⟩
                · skip
                  intro h -- (↑(List.replicate ((k, c, n, m), na, nh, vars, mb).fst.snd.snd.snd ()).length == 0) = true
                  dsimp only at h
                  refine ⟨?_, ?_⟩
                  · skip
                    intro h -- decide (((k, c, n, m), na, nh, vars, mb).fst.snd.snd.fst ≥ 0) = true
                    dsimp only at h
                    exact ⟨.bool (by simp_all [symN, beq_dec]), rfl⟩
                  · skip
                    intro h -- decide (((k, c, n, m), na, nh, vars, mb).fst.snd.snd.fst ≥ 0) = false
                    dsimp only at h
                    exact ⟨.bff (by simp_all [symN]; intros; omega), rfl⟩
                · skip
                  intro h -- (↑(List.replicate ((k, c, n, m), na, nh, vars, mb).fst.snd.snd.snd ()).length == 0) = false
                  dsimp only at h
                  exact ⟨.bff (by simp_all [symN]), rfl⟩
            · skip
              intro h -- (((k, c, n, m), na, nh, vars, mb).fst.fst == 3) = false
              dsimp only at h
              exact ⟨.bff (by simp_all [symN]), rfl⟩
    · skip
      intro h -- (((k, c, n, m), na, nh, vars, mb).fst.snd.fst == 0) = false
      dsimp only at h
      refine ⟨?_, ?_⟩
      · skip
        intro h -- (((k, c, n, m), na, nh, vars, mb).fst.fst == 1) = true
        dsimp only at h
        (exact absurd (eq_of_beq h) hd)
      · skip
        intro h -- (((k, c, n, m), na, nh, vars, mb).fst.fst == 1) = false
        dsimp only at h
        refine ⟨?_, ?_⟩
        · skip
          intro h -- (((k, c, n, m), na, nh, vars, mb).fst.fst == 2) = true
          dsimp only at h
          refine ⟨?_, ?_⟩
          · skip
            intro h -- (((k, c, n, m), na, nh, vars, mb).fst.fst == 2) = true
            dsimp only at h
            exact ⟨.bff (by simp_all [symN]), rfl⟩
          · skip
            intro h -- (((k, c, n, m), na, nh, vars, mb).fst.fst == 2) = false
            dsimp only at h
            refine ⟨?_, ?_⟩
            · skip
              intro h -- (((k, c, n, m), na, nh, vars, mb).fst.fst == 3) = true
              dsimp only at h
              refine ⟨?_, ?_⟩
              · kernel_rfl
              · skip
                exact ⟨.bff (by simp_all [symN]), rfl⟩
            · skip
              intro h -- (((k, c, n, m), na, nh, vars, mb).fst.fst == 3) = false
              dsimp only at h
              exact ⟨.bff (by simp_all [symN]), rfl⟩
        · skip
          intro h -- (((k, c, n, m), na, nh, vars, mb).fst.fst == 2) = false
          dsimp only at h
          refine ⟨?_, ?_⟩
          · skip
            intro h -- (((k, c, n, m), na, nh, vars, mb).fst.fst == 4) = true
            dsimp only at h
            exact ⟨.bff (by simp_all [symN]), rfl⟩
          · skip
            intro h -- (((k, c, n, m), na, nh, vars, mb).fst.fst == 4) = false
            dsimp only at h
            refine ⟨?_, ?_⟩
            · skip
              intro h -- (((k, c, n, m), na, nh, vars, mb).fst.fst == 3) = true
              dsimp only at h
              refine ⟨?_, ?_⟩
              · kernel_rfl
              · skip
                exact ⟨.bff (by simp_all [symN]), rfl⟩
            · skip
              intro h -- (((k, c, n, m), na, nh, vars, mb).fst.fst == 3) = false
              dsimp only at h
              exact ⟨.bff (by simp_all [symN]), rfl⟩
end Go.Proofs.Yteccinlmblijfaa.Ax
/- Layer open: the look at a symbolic value, walked. -/
set_option linter.unusedVariables false
set_option linter.unusedSimpArgs false
namespace Go.Proofs.Yteccinlmblijfaa.Ax
open Go Go.RowKit
theorem ca_old {w : World} {o : Obj} {b q : Nat} {v : Value} (h : w.cell? ⟨b, q, none⟩ = some v) : (w.alloc o).cell? ⟨b, q, none⟩ = some v := by
  have hlt := World.block_lt_of_cell? w _ h
  rw [← h]; simp only [World.cell?, Below.heap_alloc _ _ _ hlt]
theorem grown_alloc {w w' : World} {o : Obj} {row : Option Nat} (h : (w.alloc o).grownBy w' row) : w.grownBy w' row :=
  ⟨h.os, h.tape, h.output, by have := h.size; simp at this; omega, fun k hk hr => by rw [h.block k (by simp; omega) hr]; exact Below.heap_alloc _ _ _ hk⟩
/-- a slice that leads into cells, or has none -/
def okSl (a : Option Addr) (n c : Nat) : Prop := n = 0 ∨ (n ≤ c ∧ ∃ b o, a = some ⟨b, o, none⟩)
theorem lenS_G {H : HM} {β : BM} {T : TM} {a : Option Addr} {n c : Nat} (h : okSl a n c) : G H β T (lenS n) (.slice a n c) := by
  rcases h with rfl | ⟨hc, b, o, rfl⟩
  · exact .rowE ..
  · have := G.row (H := H) (β := β) (T := T) Unit 0 (fun _ => []) () (List.replicate n ()) b o c (fun _ _ => undef) (by rw [List.length_replicate]; exact hc) (fun _ _ => rfl) (fun _ _ _ h => absurd h (Nat.not_lt_zero _)) (fun _ _ _ h => absurd h (Nat.not_lt_zero _))
    rwa [List.length_replicate] at this
set_option maxHeartbeats 4000000 in
set_option maxRecDepth 100000 in
theorem sym_int {w : World} {kb p mb : Nat} {aa ah : Option Addr} {na ca nh ch : Nat} {vars : Int} {L : List Int} (c n : Int) (m : Nat) (v0 k0 : Int) (ad : Option Addr) (ct : Nat)
    (hm : Met w mb L) (hl : L.length < maxLen)
    (c0 : w.cell? ⟨kb, p, none⟩ = some (.slice aa na ca)) (c1 : w.cell? ⟨kb, p + 1, none⟩ = some (.slice ah nh ch)) (c2 : w.cell? ⟨kb, p + 2, none⟩ = some (.int .i64 vars)) (c3 : w.cell? ⟨kb, p + 3, none⟩ = some (.map (some mb)))
    (hv : m = 1 → inR v0 ∧ ∃ b o, ad = some ⟨b, o, none⟩ ∧ w.cell? ⟨b, o, none⟩ = some (.int .i64 v0) ∧ w.cell? ⟨b, o + 1, none⟩ = some (.int .i64 k0))
    (r : Bool) (L' : List Int)
    (hr1 : n = 0 → c = 0 → m = 1 → k0 = 1 → r = (decide (0 ≤ v0 ∧ v0 < vars) && !L.contains v0) ∧ L' = v0 :: L)
    (hr2 : ¬ (n = 0 ∧ c = 0 ∧ m = 1 ∧ k0 = 1) → r = false ∧ L' = L) :
    Calls Try.prog 27 #[.pointer (some ⟨kb, p, none⟩), .agg #[.int .i64 1, .int .i64 c, .slice ad m ct, .int .i64 n]] w
      fun e w' => e = .returned (.bool r) ∧ Met w' mb L' ∧ w.grownBy w' (some mb) := by
  have d0 := ca_old (o := .cells #[.int .i64 1, .int .i64 c, .slice ad m ct, .int .i64 n] 45) c0
  have d1 := ca_old (o := .cells #[.int .i64 1, .int .i64 c, .slice ad m ct, .int .i64 n] 45) c1
  have d2 := ca_old (o := .cells #[.int .i64 1, .int .i64 c, .slice ad m ct, .int .i64 n] 45) c2
  have d3 := ca_old (o := .cells #[.int .i64 1, .int .i64 c, .slice ad m ct, .int .i64 n] 45) c3
  have hma : Met (w.alloc (.cells #[.int .i64 1, .int .i64 c, .slice ad m ct, .int .i64 n] 45)) mb L := met_kept hm (World.grownBy_alloc w _ none) (by simp)
  have hga : w.grownBy (w.alloc (.cells #[.int .i64 1, .int .i64 c, .slice ad m ct, .int .i64 n] 45)) (some mb) := World.grownBy_alloc w _ _
  by_cases hg : n = 0 ∧ c = 0 ∧ m = 1 ∧ k0 = 1
  · obtain ⟨rfl, rfl, rfl, rfl⟩ := hg
    obtain ⟨hv0, b, o, rfl, e0, e1⟩ := hv rfl
    have d4 := ca_old (o := .cells #[.int .i64 1, .int .i64 0, .slice (some ⟨b, o, none⟩) 1 ct, .int .i64 0] 45) e0
    have d5 := ca_old (o := .cells #[.int .i64 1, .int .i64 0, .slice (some ⟨b, o, none⟩) 1 ct, .int .i64 0] 45) e1
    have hlook := met_look hma hv0
    obtain ⟨q1, q2⟩ := hr1 rfl rfl rfl rfl
    clear hr1 hr2 hv
    have Q := Lib.hid (And.intro q1 (And.intro q2 hga))
    clear q1 q2 hga
    go_enter Try.func27, Try.ntmps27
    go_wp2_with (at_mapUpdate; refine wpMet rfl _ _ _ rfl rfl hma hl rfl rfl hv0 ?_)
    all_goals
      intro w1 hm1 hg1
      go_wp2
      go_ret
      obtain ⟨q1, q2, hga⟩ := Q.out
      refine ⟨?_, q2 ▸ hm1, grown_alloc hg1⟩
      first | (simp_all; done) | (simp_all; intros; omega)
  · obtain ⟨q1, q2⟩ := hr2 hg
    clear hr1 hr2
    subst q1 q2
    have Q := Lib.hid (And.intro hma hga)
    clear hma hga
    by_cases g1 : n = 0
    · by_cases g2 : c = 0
      · by_cases g3 : m = 1
        · subst g1 g2 g3
          obtain ⟨hv0, b, o, rfl, e0, e1⟩ := hv rfl
          have g4 : ¬ k0 = 1 := fun h => hg ⟨rfl, rfl, rfl, h⟩
          have d4 := ca_old (o := .cells #[.int .i64 1, .int .i64 0, .slice (some ⟨b, o, none⟩) 1 ct, .int .i64 0] 45) e0
          have d5 := ca_old (o := .cells #[.int .i64 1, .int .i64 0, .slice (some ⟨b, o, none⟩) 1 ct, .int .i64 0] 45) e1
          clear hg hv
          go_enter Try.func27, Try.ntmps27
          go_wp2
          all_goals
            go_ret
            exact ⟨rfl, met_kept hm (World.grownBy_alloc w _ none) (by simp), World.grownBy_alloc w _ _⟩
        · clear hg hv
          have g3 : ¬ (m : Int) = 1 := by omega
          go_enter Try.func27, Try.ntmps27
          go_wp2
          all_goals
            go_ret
            exact ⟨rfl, met_kept hm (World.grownBy_alloc w _ none) (by simp), World.grownBy_alloc w _ _⟩
      · clear hg hv
        go_enter Try.func27, Try.ntmps27
        go_wp2
        all_goals
          go_ret
          exact ⟨rfl, met_kept hm (World.grownBy_alloc w _ none) (by simp), World.grownBy_alloc w _ _⟩
    · clear hg hv
      go_enter Try.func27, Try.ntmps27
      go_wp2
      all_goals
        go_ret
        exact ⟨rfl, met_kept hm (World.grownBy_alloc w _ none) (by simp), World.grownBy_alloc w _ _⟩
/-- the value that a symbolic value is in a frame -/
def symV (y : SymT) (ad : Option Addr) (ct : Nat) : Value := .agg #[.int .i64 y.1, .int .i64 y.2.1.1, .slice ad y.2.1.2.length ct, .int .i64 y.2.2]
/-- what a look has: its input's lengths, its variables' number, its map -/
structure Look (w : World) (kb p mb : Nat) (nh : Nat) (vars : Int) : Prop where
  ex : ∃ aa ah na ca ch, okSl aa na ca ∧ okSl ah nh ch ∧ w.cell? ⟨kb, p, none⟩ = some (.slice aa na ca) ∧ w.cell? ⟨kb, p + 1, none⟩ = some (.slice ah nh ch) ∧ w.cell? ⟨kb, p + 2, none⟩ = some (.int .i64 vars) ∧ w.cell? ⟨kb, p + 3, none⟩ = some (.map (some mb))
theorem symB_N {vars : Int} {nh : Nat} {L : List Int} {y : SymT} (h : y.1 ≠ 1) : symB vars nh L y = (symN y.1 y.2.1.1 y.2.2 y.2.1.2.length nh, L) := by
  obtain ⟨k, ⟨c, t⟩, n⟩ := y
  have h : k ≠ 1 := h
  unfold symB symN plainT
  simp only [if_neg h]
  split
  · simp
  · split <;> simp
theorem sym_walk {w : World} {kb p mb nh : Nat} {vars : Int} {L : List Int} (y : SymT) (ad : Option Addr) (ct : Nat) (hm : Met w mb L) (hl : L.length < maxLen) (hk : Look w kb p mb nh vars) (hs : okSl ad y.2.1.2.length ct)
    (hv : y.2.1.2.length = 1 → inR (varOf y) ∧ ∃ b o, ad = some ⟨b, o, none⟩ ∧ w.cell? ⟨b, o, none⟩ = some (.int .i64 (varOf y)) ∧ w.cell? ⟨b, o + 1, none⟩ = some (.int .i64 (y.2.1.2.getD 0 (0, 0)).2)) :
    Calls Try.prog 27 #[.pointer (some ⟨kb, p, none⟩), symV y ad ct] w
      fun e w' => e = .returned (.bool (symB vars nh L y).1) ∧ Met w' mb (symB vars nh L y).2 ∧ w.grownBy w' (some mb) := by
  obtain ⟨aa, ah, na, ca, ch, s0, s1, c0, c1, c2, c3⟩ := hk.ex
  by_cases h1 : y.1 = 1
  · have e : symB vars nh L y = if oneV y then (decide (0 ≤ varOf y ∧ varOf y < vars) && !L.contains (varOf y), varOf y :: L) else (false, L) := by unfold symB; rw [if_pos h1]
    have h := sym_int (vars := vars) y.2.1.1 y.2.2 y.2.1.2.length (varOf y) (y.2.1.2.getD 0 (0, 0)).2 ad ct hm hl c0 c1 c2 c3 hv (symB vars nh L y).1 (symB vars nh L y).2
      (fun a b c d => by rw [e, if_pos (by unfold oneV; exact decide_eq_true ⟨a, b, c, d⟩)]; exact ⟨rfl, rfl⟩)
      (fun a => by rw [e, if_neg (by unfold oneV; simpa using a)]; exact ⟨rfl, rfl⟩)
    rw [← h1] at h
    exact h
  · rw [symB_N h1]
    refine (symN_ok.2 ((y.1, y.2.1.1, y.2.2, y.2.1.2.length), (na, nh, vars, mb)) (fun b o => if b = kb ∧ p ≤ o ∧ o < p + 4 then w.cell? ⟨b, o, none⟩ else none) w #[.pointer (some ⟨kb, p, none⟩), symV y ad ct] 0 h1 (fun b o v h => ?_) (fun _ _ _ => trivial) rfl (fun j hj => ?_)).mono ?_
    · by_cases c : b = kb ∧ p ≤ o ∧ o < p + 4
      · rw [if_pos c] at h; exact h
      · rw [if_neg c] at h; cases h
    · have hj : j < 2 := hj
      match j, hj with
      | 0, _ =>
        refine .elt Unit 4 _ () [()] 0 0 kb p (fun j => match j with | 0 => .slice aa na ca | 1 => .slice ah nh ch | 2 => .int .i64 vars | _ => .map (some mb)) rfl (fun j hj => ?_) (fun j hj => ?_)
        · rw [if_pos ⟨rfl, by omega, by omega⟩]
          match j, hj with
          | 0, _ => exact c0
          | 1, _ => exact c1
          | 2, _ => exact c2
          | 3, _ => exact c3
        · match j, hj with
          | 0, _ => exact lenS_G s0
          | 1, _ => exact lenS_G s1
          | 2, _ => exact .val _
          | 3, _ => exact .val _
      | 1, _ =>
        refine .agg _ _ rfl fun j hj => ?_
        have hj : j < 4 := hj
        match j, hj with
        | 0, _ => exact .val _
        | 1, _ => exact .val _
        | 2, _ => exact lenS_G hs
        | 3, _ => exact .val _
    · rintro e w' ⟨v, H', T', rfl, hb, -, -, -, -, hg, -⟩
      have hg : v = .bool _ := gval' hg
      subst hg
      exact ⟨rfl, met_kept hm (row := none) ⟨hb.os, hb.tape, hb.output, hb.size, fun k hk _ => hb.block k hk⟩ (by simp), ⟨hb.os, hb.tape, hb.output, hb.size, fun k hk _ => hb.block k hk⟩⟩
theorem getD_in {α : Type} (l : List α) (d : α) (i : Nat) (h : i < l.length) : l.getD i d ∈ l := by
  rw [List.getD, List.getElem?_eq_getElem h]; exact List.getElem_mem h
def metSide (mb : Nat) (L : List Int) : Side := ⟨fun w => Met w mb L, fun k => k = mb, fun w w' h hw => by
    obtain ⟨D, ⟨es, cl, h1, h2⟩, h3⟩ := hw
    exact ⟨D, ⟨es, cl, (h mb rfl).trans h1, h2⟩, h3⟩, fun w hw k hk => hk ▸ met_lt hw⟩
theorem met_map {w : World} {mb : Nat} {L : List Int} (h : Met w mb L) : ∃ es cl, w.heap[mb]? = some (.map es cl) := by
  obtain ⟨D, ⟨es, cl, h1, -⟩, -⟩ := h; exact ⟨es, cl, h1⟩
theorem met_chg {w w' : World} {mb : Nat} {L L' : List Int} (h : Met w mb L) (hm : Met w' mb L') (hg : w.grownBy w' (some mb)) : Chg (metSide mb L) (metSide mb L') w w' := by
  refine ⟨hg.os, hg.tape, hg.output, hg.size, fun k hk hb => hg.block k hk fun e => hb (Option.some.inj e), fun k hk => ?_, hm, fun k hk => .inl hk⟩
  by_cases e : k = mb
  · subst e
    obtain ⟨es, cl, e1⟩ := met_map h
    obtain ⟨es', cl', e2⟩ := met_map hm
    simp only [World.shape?, e1, e2]
  · simp only [World.shape?, hg.block k hk fun c => e (Option.some.inj c)]
/-- what a look is handed: rows r0, r1 of an input -/
structure SymX (Z : Type) where
  b : Z
  vars : Int
  mb : Nat
  L : List Int
  y : SymT
abbrev lookS (r0 r1 : SV) (vars : Int) (mb : Nat) : SV := .elt Unit 4 (fun _ => [r0, r1, I vars, .val (.map (some mb))]) () [()] 0 0
def symX {Z : Type} (r0 r1 : Z → SV) (nh : Z → Nat) : CtrX := { A := SymX Z, O := Unit, enc := fun x => [lookS (r0 x.b) (r1 x.b) x.vars x.mb, symS x.y], pre := fun x => metSide x.mb x.L, dom := fun x => symD x.y ∧ x.L.length < 4611686018427387904, res := fun x _ => B (symB x.vars (nh x.b) x.L x.y).1, post := fun x _ => metSide x.mb (symB x.vars (nh x.b) x.L x.y).2 }
/-- a slice of n entries -/
def isSl (r : SV) (n : Nat) : Prop := ∀ H v, G H noB noT r v → ∃ a c, v = .slice a n c ∧ okSl a n c
theorem row_gen {H : HM} {β : BM} {T : TM} {X : Type} {sz : Nat} {cs : X → List SV} {d : X} {l : List X} {v : Value} (h : G H β T (.row X sz cs d l) v) :
    ∃ a c, v = .slice a l.length c ∧ okSl a l.length c ∧ ∃ vs : Nat → Nat → Value, ∀ k, k < l.length → ∃ B off, a = some ⟨B, off, none⟩ ∧ (∀ j, j < sz → H B (off + k * sz + j) = some (vs k j)) ∧ ∀ j, j < sz → G H noB noT (at' (cs (l.getD k d)) j .junk) (vs k j) := by
  cases h with
  | rowE _ _ _ _ a c => exact ⟨a, c, rfl, .inl rfl, fun _ _ => undef, fun k hk => by simp at hk⟩
  | row _ _ _ _ _ b off c vs hc hz hH hG => exact ⟨_, c, rfl, .inr ⟨hc, b, off, rfl⟩, vs, fun k hk => ⟨b, off, rfl, fun j hj => hH k j hk hj, fun j hj => hG k j hk hj⟩⟩
theorem mono_sl {H : HM} {l : List (Int × Int)} {v : Value} (h : G H noB noT (monos l) v) : ∃ a c, v = .slice a l.length c ∧ okSl a l.length c ∧ (l.length = 1 → ∃ b o, a = some ⟨b, o, none⟩ ∧ H b o = some (.int .i64 (l.getD 0 (0, 0)).1) ∧ H b (o + 1) = some (.int .i64 (l.getD 0 (0, 0)).2)) := by
  obtain ⟨a, c, h1, h2, vs, h3⟩ := row_gen h
  refine ⟨a, c, h1, h2, fun hl => ?_⟩
  obtain ⟨B, off, h4, h5, h6⟩ := h3 0 (by omega)
  refine ⟨B, off, h4, ?_, ?_⟩
  · have h7 := h5 0 (by omega)
    have h8 : vs 0 0 = .int .i64 (l.getD 0 (0, 0)).1 := gval' (h6 0 (by omega))
    rw [h8] at h7; simpa using h7
  · have h7 := h5 1 (by omega)
    have h8 : vs 0 1 = .int .i64 (l.getD 0 (0, 0)).2 := gval' (h6 1 (by omega))
    rw [h8] at h7; simpa using h7
theorem row_isSl {X : Type} {sz : Nat} {cs : X → List SV} {d : X} {l : List X} : isSl (.row X sz cs d l) l.length := fun H v h => by
  obtain ⟨a, c, h1, h2, -⟩ := row_gen h
  exact ⟨a, c, h1, h2⟩
theorem symX_ok {Z : Type} {r0 r1 : Z → SV} {nh : Z → Nat} (h0 : ∀ b, ∃ n, isSl (r0 b) n) (h1 : ∀ b, isSl (r1 b) (nh b)) : CtrXSound Try.prog 27 (symX r0 r1 nh) := by
  refine ⟨symN_ok.1, fun x H w vs hd hs hgl hn hg hm hdis => ?_⟩
  obtain ⟨bb, vars, mb, L, y⟩ := x
  obtain ⟨na, h0⟩ := h0 bb
  obtain ⟨u0, u1, rfl, g0, g1⟩ := args2 hn hg
  have hm : Met w mb L := hm
  cases g0 with
  | elt _ _ _ _ _ _ _ b p vs hz hH hG =>
  obtain ⟨aa, ca, e0, s0⟩ := h0 _ _ (hG 0 (by omega))
  obtain ⟨ah, ch, e1, s1⟩ := h1 bb _ _ (hG 1 (by omega))
  have e2 : vs 2 = .int .i64 vars := gval' (hG 2 (by omega))
  have e3 : vs 3 = .map (some mb) := gval' (hG 3 (by omega))
  have hk : Look w b p mb (nh bb) vars := ⟨aa, ah, na, ca, ch, s0, s1, by rw [← e0]; exact hs _ _ _ (hH 0 (by omega)), by rw [← e1]; exact hs _ _ _ (hH 1 (by omega)), by rw [← e2]; exact hs _ _ _ (hH 2 (by omega)), by rw [← e3]; exact hs _ _ _ (hH 3 (by omega))⟩
  cases g1 with
  | agg _ us hu hgu =>
  obtain ⟨us⟩ := us
  match us, hu, hgu with
  | [y0, y1, y2, y3], _, hgu =>
    have f0 : y0 = .int .i64 y.1 := gval' (hgu 0 (by show 0 < 4; omega))
    have f1 : y1 = .int .i64 y.2.1.1 := gval' (hgu 1 (by show 1 < 4; omega))
    have f2 := mono_sl (hgu 2 (by show 2 < 4; omega))
    have f3 : y3 = .int .i64 y.2.2 := gval' (hgu 3 (by show 3 < 4; omega))
    obtain ⟨ad, ct, f2, s2, h2⟩ := f2
    have f2 : y2 = _ := f2
    subst f0 f1 f2 f3
    refine (sym_walk (vars := vars) y ad ct hm (Nat.lt_of_lt_of_le hd.2 (by unfold maxLen; omega)) hk s2 (fun h => ?_)).mono ?_
    · obtain ⟨b', o', r1, r2, r3⟩ := h2 h
      refine ⟨hd.1 _ ?_, b', o', r1, hs _ _ _ r2, hs _ _ _ r3⟩
      show y.2.1.2.getD 0 (0, 0) ∈ y.2.1.2
      exact getD_in _ _ 0 (show 0 < y.2.1.2.length by have h : y.2.1.2.length = 1 := h; omega)
    · rintro e w' ⟨rfl, h1, h3⟩
      exact ⟨_, (), rfl, met_chg hm h1 h3, .val _⟩
end Go.Proofs.Yteccinlmblijfaa.Ax
/- Layer open: a term's twin, as cells of one's own. -/
set_option linter.unusedVariables false
set_option linter.unusedSimpArgs false
namespace Go.Proofs.Yteccinlmblijfaa.Ax
open Go Go.RowKit
def monoM (l : List (Int × Int)) : SV := .many (Int × Int) 2 monoC (0, 0) l
def p_Clone : CtrB := { A := List (Int × Int), enc := fun l => [monos l], pre := fun _ => [], dom := fun l => l.length ≤ 1000000, res := fun l _ => .arr 1000 2 0 l.length none, post := fun l _ => [[monoM l]] }
theorem p_Clone_ok : CtrBSound Try.prog 42 p_Clone :=
  ctrB_of_ax2 mixed _ Try.func42 (by kernel_rfl) rfl (fun _ _ => ⟨Nat.le_of_ble_eq_true rfl, Nat.le_of_ble_eq_true rfl⟩) fun (l : List (Int × Int)) id hd => by
    have hd : l.length ≤ 1000000 := hd
    refine ⟨_, ⟨env_okB tys_ok (eqs := []) trivial (cs := []) trivial (bs := []) trivial (vec := [7]) (cut := [99998]), fun _ h => h⟩, ?_⟩
    refine ⟨fun h => ?_, fun h => ?_⟩
    · have e : l = [] := by
        have h : isE l = true := by first | exact h | exact h.1 rfl | exact h rfl | simpa using h
        cases l with
        | nil => rfl
        | cons a r => cases h
      subst e
      refine ⟨Unit, fun _ => [(2, .arr 7 2 0 0 none)], fun _ => [(7, [monoM []])], fun _ => True, ?_, fun _ _ => ?_⟩
      · exact ⟨(), trivial, ⟨rfl, rfl⟩, .nilA .., ⟨rfl, ⟨Nat.le_of_ble_eq_true rfl, Nat.le_of_ble_eq_true rfl⟩, fun _ => ⟨rfl, rfl, rfl⟩⟩, trivial⟩
      · exact ⟨.refl _, rfl, .refl _, trivial⟩
    · refine ⟨Unit, fun _ => [(2, .arr 7 2 0 l.length none)], fun _ => [(7, [monoM l])], fun _ => True, ?_, fun _ _ => ?_⟩
      · refine ⟨Int × Int, monoC, (0, 0), l, ⟨.refl _, .refl _⟩, fun _ => ⟨rfl, rfl, rfl⟩, (show l.length * 16 ≤ 140737488355328 by omega), ?_⟩
        exact ⟨(), trivial, ⟨rfl, rfl⟩, .refl _, ⟨.refl _, trivial⟩, trivial⟩
      · exact ⟨.refl _, rfl, .refl _, trivial⟩
def p_Twin : CtrB := { A := Int × List (Int × Int), enc := fun t => [termS t], pre := fun _ => [], dom := fun t => t.2.length ≤ 1000000, res := fun t _ => .agg [I t.1, .arr 1000 2 0 t.2.length none], post := fun t _ => [[monoM t.2]] }
theorem p_Twin_ok : CtrBSound Try.prog 40 p_Twin :=
  ctrB_of_ax2 mixed _ Try.func40 (by kernel_rfl) rfl (fun _ _ => ⟨Nat.le_of_ble_eq_true rfl, Nat.le_of_ble_eq_true rfl⟩) fun ((c, l) : Int × List (Int × Int)) id hd => by
    refine ⟨_, ⟨env_okB tys_ok (eqs := []) trivial (cs := []) trivial (bs := [(42, p_Clone)]) ⟨p_Clone_ok, trivial⟩ (qu := [1, 3, 5]), fun _ h => h⟩, ?_⟩
    refine ⟨?_, ?_⟩
    · kernel_rfl
    · skip
      refine ⟨?_, ?_⟩
      · kernel_rfl
      · skip
        refine ⟨l, ⟨.refl _, trivial⟩, trivial, hd, ?_⟩
        exact ⟨.refl _, rfl, .refl _, trivial⟩
theorem W_start {H : HM} {w : World} (hs : Sealed H w) : W (mB noB noB) w H H noB noT .nil w := by
  have hM : ∀ i k, mB noB noB i = some k → False := fun i k e => by unfold mB at e; split at e <;> cases e
  exact ⟨fun b o v e => ⟨hs b o v e, rfl⟩, fun id cs e => (by cases e), fun _ _ e => (by cases e), fun _ _ _ e => (by cases e), fun _ _ _ e => (by cases e), fun _ _ _ e => (by cases e), fun i k e => (hM i k e).elim, fun id X sz cs d l e => (by cases e), fun _ _ e => (by cases e), fun _ _ _ => rfl, ⟨rfl, rfl, rfl, Nat.le_refl _, fun _ _ _ => rfl, fun _ _ => rfl⟩, .refl _, fun _ _ _ => .inr rfl,
    fun k e => (by obtain ⟨i, e | ⟨_, e, _⟩⟩ := e; cases e; exact (hM _ _ e).elim), fun X e => (by cases e)⟩
/-- a row that a function makes, in cells of its own -/
theorem made_row {P : Program} {g : Nat} {c : CtrB} (h : CtrBSound P g c) (x : c.A) (hd : c.dom x) (hpre : c.pre x = []) {X : Type} {sz : Nat} {cs : X → List SV} {d : X} {l : List X} (hpost : c.post x 0 = [[.many X sz cs d l]]) (hgl : ∀ w, c.gl w) (hsc : ∀ x, scal.scals (cs x) = true)
    {H : HM} {w : World} {vs : Array Value} (hs : Sealed H w) (hn : vs.size = (c.enc x).length) (hg : ∀ j, j < (c.enc x).length → G H noB noT (at' (c.enc x) j .junk) (vs.getD j undef)) :
    Calls P g vs w fun e w' => ∃ v H' β' T' N, e = .returned v ∧ Below w.heap.size w w' ∧ G H' β' T' (c.res x 0) v ∧ (∀ b o y, N b o = some y → w.heap.size ≤ b ∧ w'.cell? ⟨b, o, none⟩ = some y) ∧
      (∀ z v, G H' β' T' (.arr 1000 sz 0 l.length z) v → G N noB noT (.row X sz cs d l) v) := by
  refine (h.2 x H noB noT noB w vs 0 hd (fun _ _ _ e => by cases e) (by rw [hpre]; exact W_start hs) (fun w' _ _ => hgl w') hn (fun j hj => hg j hj)).mono ?_
  rintro e w' ⟨v, H', β', T', rfl, hW, -, hnew, -, hv⟩
  rw [hpost] at hW
  have hM : ∀ i k, mB (newM noB β' (1000 + (c.pre x).length)) noB i = some k → w.heap.size ≤ k := fun i k e => by
    rcases mB_some e with ⟨-, e⟩ | ⟨-, e⟩
    · unfold newM at e
      split at e
      · cases e
      · exact hnew i k rfl e
    · cases e
  have hbx : (treeOf 1000 [[SV.many X sz cs d l]] .nil).get 1000 none = some [.many X sz cs d l] := by
    rw [treeOf_get _ _ _ _ (by simp), if_pos (by simp)]; rfl
  have hmany := hW.many _ _ _ _ _ _ hbx
  refine ⟨v, H', β', T', fun b o => if β' 1000 = some b ∧ o < l.length * sz then w'.cell? ⟨b, o, none⟩ else none, rfl, ⟨hW.keep.os, hW.keep.tape, hW.keep.output, hW.keep.size, fun k hk => hW.keep.block k hk fun ⟨i, e⟩ => by have := hM i k e; omega⟩, hv, fun b o y e => ?_, fun z v' hv' => ?_⟩
  · have e : (if β' 1000 = some b ∧ o < l.length * sz then w'.cell? ⟨b, o, none⟩ else none) = some y := e
    split at e
    · rename_i hc
      exact ⟨hnew _ _ rfl hc.1, e⟩
    · cases e
  · cases l with
    | nil => cases hv' <;> exact .rowE ..
    | cons a r =>
      cases hv' with
      | arr _ _ _ _ _ k cc hk hcc _ =>
        obtain ⟨k2, hk2, -, hj⟩ := hW.box _ _ hbx (by show 0 < (a :: r).length * sz; exact Nat.mul_pos (by simp) hmany.1)
        obtain rfl : k = k2 := Option.some.inj (hk.symm.trans hk2)
        have hN : ∀ q, q < (a :: r).length * sz → (if β' 1000 = some k ∧ q < (a :: r).length * sz then w'.cell? ⟨k, q, none⟩ else none) = w'.cell? ⟨k, q, none⟩ := fun q hq => if_pos ⟨hk, hq⟩
        have hcell : ∀ i j, ∃ v, i < (a :: r).length → j < sz → w'.cell? ⟨k, i * sz + j, none⟩ = some v ∧ ∀ N : HM, G N noB noT (at' (cs ((a :: r).getD i d)) j .junk) v := by
          intro i j
          by_cases hij : i < (a :: r).length ∧ j < sz
          · obtain ⟨-, -, -, v, h1, h2⟩ := hj (i * sz + j) (many_lt hij.1 hij.2)
            rw [xat_many _ _ hij.2] at h2
            exact ⟨v, fun _ _ => ⟨h1, fun N => h2.scal (scals_at (hsc _) j (by rw [(hmany.2 _).1]; exact hij.2)) _ _ _⟩⟩
          · exact ⟨undef, fun h1 h2 => absurd ⟨h1, h2⟩ hij⟩
        refine .row X sz cs d (a :: r) k (0 * sz) cc (fun i j => Classical.choose (hcell i j)) hcc (fun i _ => (hmany.2 _).1) (fun i j hi hjs => ?_) (fun i j hi hjs => ((Classical.choose_spec (hcell i j)) hi hjs).2 _)
        show (if β' 1000 = some k ∧ 0 * sz + i * sz + j < (a :: r).length * sz then w'.cell? ⟨k, 0 * sz + i * sz + j, none⟩ else none) = _
        rw [Nat.zero_mul, Nat.zero_add, hN _ (many_lt hi hjs)]
        exact ((Classical.choose_spec (hcell i j)) hi hjs).1
theorem monoC_scal (x : Int × Int) : scal.scals (monoC x) = true := rfl
/-- a term's twin: its variables lie in cells of its own (u.1), by the slice u.2 -/
def twX : CtrX := { A := Int × List (Int × Int), O := HM × Option Addr × Nat, enc := fun t => [termS t], pre := fun _ => .emp, dom := fun t => t.2.length ≤ 1000000, res := fun t u => .agg [I t.1, .val (.slice u.2.1 t.2.length u.2.2)], post := fun t u => sealSide u.1 (G u.1 noB noT (monos t.2) (.slice u.2.1 t.2.length u.2.2)) }
theorem twX_ok : CtrXSound Try.prog 40 twX := by
  refine ⟨p_Twin_ok.1, fun t H w vs hd hs hgl hn hg _ _ => ?_⟩
  refine (made_row p_Twin_ok t hd rfl (X := Int × Int) (sz := 2) (cs := monoC) (d := (0, 0)) (l := t.2) rfl (fun _ => trivial) monoC_scal hs hn hg).mono ?_
  rintro e w' ⟨v, H', β', T', N, rfl, hb, hv, hN, hrow⟩
  cases hv with
  | agg _ us hu hgu =>
  obtain ⟨us⟩ := us
  match us, hu, hgu with
  | [u0, u1], _, hgu =>
    have f0 : u0 = .int .i64 t.1 := gval' (hgu 0 (by show 0 < 2; omega))
    have f1 : G N noB noT (monos t.2) u1 := hrow none u1 (hgu 1 (by show 1 < 2; omega))
    obtain ⟨a, c, f2, -⟩ := row_gen (show G N noB noT (.row (Int × Int) 2 monoC (0, 0) t.2) u1 from f1)
    subst f0 f2
    refine ⟨_, (N, a, c), rfl, ⟨hb.os, hb.tape, hb.output, hb.size, fun k hk _ => hb.block k hk, fun k hk => shape_eq (hb.block k hk), ⟨f1, fun b o y e => (hN b o y e).2⟩, fun k hk => ?_⟩, ?_⟩
    · obtain ⟨o, y, e⟩ := hk
      exact .inr (hN _ _ _ e).1
    · refine .agg _ _ rfl fun j hj => ?_
      have hj : j < 2 := hj
      match j, hj with
      | 0, _ => exact .val _
      | 1, _ => exact .val _
end Go.Proofs.Yteccinlmblijfaa.Ax
/- Layer open: symbolic values in memory of one's own. -/
set_option linter.unusedVariables false
set_option linter.unusedSimpArgs false
namespace Go.Proofs.Yteccinlmblijfaa.Ax
open Go Go.RowKit
theorem ty_at {t : Nat} {ti : TI} (h : find tys t = some ti) : TOk Try.prog t ti := tysB_ok tys_ok _ _ (find_mem h)
theorem op_append' {P : Program} {o : Oper} {sl x : Operand} {t : TypeId} (ho : o.op = .call { callee := .builtin .append, args := #[sl, x], argTypes := #[t, t] }) {ti ui : TI} (hT : TOk P t ti) (hU : TOk P ti.elem ui) (hsl : ti.slice = true)
    (hz : ui.zero.length = ui.size) (hsz : 0 < ui.size) {ρ : Operand → SV} {v : Value} {n : Nat} {xs : List Value} (hs : ρ sl = .val v) {X : Type} {cs : X → List SV} {d : X} {y : X} {id : Nat} (hx : ρ x = .own X ui.size cs d [y] id) (news : List Value) (hc : cs y = news.map SV.val) (hl : news.length = ui.size)
    (h1 : ∀ u ∈ news, u.oneCell' = true) (hb : (n + 1) * ui.bytes ≤ 140737488355328) (hn1 : n + 1 ≤ 140737488355328) :
    OpOk P o ρ (rowSide ti.elem ui.size v n xs) (Nat × Nat) (fun u => rowSide ti.elem ui.size (.slice (some ⟨u.1, 0, none⟩) (n + 1) u.2) (n + 1) (xs ++ news)) (fun u => .val (.slice (some ⟨u.1, 0, none⟩) (n + 1) u.2)) := by
  obtain ⟨dd, hd, -, hs', -⟩ := hT.und
  obtain rfl := hs' hsl
  obtain ⟨i, hi, h2, h3, h4⟩ := hU.inf
  obtain ⟨z, hz1, hz2⟩ := h4 (fun c => by rw [c] at hz; simp at hz; omega)
  refine op_append ho hd hi hz1 h2 h3 ?_ hsz hs hx news hc hl h1 hb hn1
  rw [← hz, ← hz2]; simp
/-- what is known is told in other words -/
def Side.to (X Y : Side) : Prop := ∀ w, X.holds w → Y.holds w ∧ ∀ k, Y.blk k → X.blk k
theorem Side.to_refl (X : Side) : X.to X := fun _ h => ⟨h, fun _ h => h⟩
theorem Side.to.chg {X Y : Side} (h : X.to Y) {w : World} (hx : X.holds w) : Chg X Y w w := ⟨rfl, rfl, rfl, Nat.le_refl _, fun _ _ _ => rfl, fun _ _ => rfl, (h w hx).1, fun k hk => .inl ((h w hx).2 k hk)⟩
theorem op_move {P : Program} {o : Oper} {x : Operand} (ho : o.op = .move x ∨ o.op = .assign x) {ρ : Operand → SV} {v : Value} (hx : ρ x = .val v) {X Y : Side} (h : X.to Y) : OpOk P o ρ X Unit (fun _ => Y) (fun _ => .val v) := by
  intro H β T a w Q next hg hX hs hd hk
  have g1 := hg x (by rcases ho with ho | ho <;> (rw [ho]; simp [Op.operands]))
  rw [hx] at g1
  have hax := gval g1
  have hr : (execOp a.eval o).run P w = .ok (.value v) w := by
    unfold execOp
    rcases ho with ho | ho <;> simp [ho, hax]
  unfold Oper.wp
  rw [hr]
  exact hk () v w (h.chg hX) (.val _)
/-- a symbolic value's cells, its variables by the slice t -/
def symW (y : SymT) (t : Option Addr × Nat) : List Value := [.int .i64 y.1, .int .i64 y.2.1.1, .slice t.1 y.2.1.2.length t.2, .int .i64 y.2.2]
def flatW : List SymT → List (Option Addr × Nat) → List Value
  | y :: l, t :: ts => symW y t ++ flatW l ts
  | _, _ => []
theorem flatW_snoc : ∀ (l : List SymT) (ts : List (Option Addr × Nat)) (y : SymT) (t : Option Addr × Nat), ts.length = l.length → flatW (l ++ [y]) (ts ++ [t]) = flatW l ts ++ symW y t
  | [], [], y, t, _ => by simp [flatW]
  | [], _ :: _, _, _, h => by simp at h
  | _ :: _, [], _, _, h => by simp at h
  | a :: l, b :: ts, y, t, h => by
    simp only [List.cons_append, flatW, flatW_snoc l ts y t (by simpa using h), List.append_assoc]
def termsQ (N : HM) (l : List SymT) (ts : List (Option Addr × Nat)) : Prop := ts.length = l.length ∧ ∀ i, i < l.length → G N noB noT (monos (l.getD i sym0).2.1.2) (.slice (ts.getD i (none, 0)).1 (l.getD i sym0).2.1.2.length (ts.getD i (none, 0)).2)
structure SyO where
  a : Option Addr
  c : Nat
  ts : List (Option Addr × Nat)
  N : HM
def symsSide (l : List SymT) (n : Nat) (u : SyO) : Side := (sealSide u.N (termsQ u.N l u.ts)).star (rowSide 45 4 (.slice u.a n u.c) n (flatW l u.ts))
def syX : CtrX := { A := List SymT, O := SyO, enc := fun l => [syms l], pre := fun _ => .emp, dom := fun l => l.length ≤ 1000000 ∧ ∀ y ∈ l, y.2.1.2.length ≤ 1000000, res := fun l u => .val (.slice u.a l.length u.c), post := fun l u => symsSide l l.length u }
def joinH (A B : HM) : HM := fun b o => match A b o with
  | some v => some v
  | none => B b o
theorem joinH_l (A B : HM) : HLe A (joinH A B) := fun b o v e => by unfold joinH; rw [e]
theorem sym_begin : Side.emp.to (symsSide [] 0 ⟨none, 0, [], fun _ _ => none⟩) := fun w _ => by
  refine ⟨⟨⟨⟨rfl, fun i hi => by simp at hi⟩, fun _ _ _ e => (by cases e)⟩, ⟨rfl, .inl ⟨rfl, rfl⟩⟩, fun k hk => ?_⟩, fun k hk => ?_⟩
  · obtain ⟨o, y, e⟩ := hk; cases e
  · rcases hk with ⟨o, y, e⟩ | e
    · cases e
    · cases e
/-- one more twin is put to the others -/
theorem sym_join {N N' : HM} {l : List SymT} {ts : List (Option Addr × Nat)} {y : SymT} {a : Option Addr} {c : Nat} {F : Side} :
    ((sealSide N (termsQ N l ts)).star F |>.star (sealSide N' (G N' noB noT (monos y.2.1.2) (.slice a y.2.1.2.length c)))).to ((sealSide (joinH N N') (termsQ (joinH N N') (l ++ [y]) (ts ++ [(a, c)]))).star F) := fun w hw => by
  obtain ⟨⟨⟨hq, hN⟩, hF, hd⟩, ⟨hg, hN'⟩, hd2⟩ := hw
  have hcell : ∀ b o v, joinH N N' b o = some v → w.cell? ⟨b, o, none⟩ = some v := fun b o v e => by
    unfold joinH at e
    cases h : N b o with
    | some z => rw [h] at e; cases e; exact hN _ _ _ h
    | none => rw [h] at e; exact hN' _ _ _ e
  have hr : HLe N' (joinH N N') := fun b o v e => by
    unfold joinH
    cases h : N b o with
    | some z => have h1 := hN _ _ _ h; rw [hN' _ _ _ e] at h1; cases h1; rfl
    | none => exact e
  have hblk : ∀ k, (∃ o v, joinH N N' k o = some v) → (∃ o v, N k o = some v) ∨ ∃ o v, N' k o = some v := by
    rintro k ⟨o, v, e⟩
    unfold joinH at e
    cases h : N k o with
    | some z => exact .inl ⟨o, z, h⟩
    | none => rw [h] at e; exact .inr ⟨o, v, e⟩
  refine ⟨⟨⟨⟨by simp [hq.1], fun i hi => ?_⟩, hcell⟩, hF, fun k hk hf => ?_⟩, fun k hk => ?_⟩
  · by_cases hlt : i < l.length
    · have e1 : (l ++ [y]).getD i sym0 = l.getD i sym0 := by simp [List.getD, List.getElem?_append_left hlt]
      have e2 : (ts ++ [(a, c)]).getD i (none, 0) = ts.getD i (none, 0) := by simp [List.getD, List.getElem?_append_left (show i < ts.length by have := hq.1; omega)]
      rw [e1, e2]
      exact (hq.2 i hlt).mono (joinH_l _ _) (.refl _) (.refl _)
    · have hi2 : i = l.length := by simp at hi; omega
      subst hi2
      have e1 : (l ++ [y]).getD l.length sym0 = y := by simp [List.getD]
      have e2 : (ts ++ [(a, c)]).getD l.length (none, 0) = (a, c) := by rw [← hq.1]; simp [List.getD]
      rw [e1, e2]
      exact hg.mono hr (.refl _) (.refl _)
  · rcases hblk k hk with h | h
    · exact hd k h hf
    · exact hd2 k (.inr hf) h
  · rcases hk with h | h
    · rcases hblk k h with h | h
      · exact .inl (.inl h)
      · exact .inr h
    · exact .inl (.inr h)
set_option maxRecDepth 100000 in
set_option maxHeartbeats 4000000 in
theorem syX_ok : CtrXSound Try.prog 37 syX :=
  ctrX_of_ax mixed syX Try.func37 (by kernel_rfl) rfl (fun _ _ => Nat.le_of_ble_eq_true rfl) fun (l : List SymT) hd => by
    have hd : l.length ≤ 1000000 ∧ ∀ y ∈ l, y.2.1.2.length ≤ 1000000 := hd
    refine ⟨_, ⟨env_okX tys_ok (eqs := []) trivial (cs := []) trivial (bs := []) trivial (xs := [(40, twX.frameE)]) ⟨twX_ok.frameE (fun _ => rfl), trivial⟩ (sd := [3, 14, 16, 19]), fun _ h => h⟩, ?_⟩
    have hT : TOk Try.prog 26 _ := ty_at rfl
    have hU : TOk Try.prog 45 _ := ty_at rfl
    refine ⟨.emp, Unit, fun _ => symsSide [] 0 ⟨none, 0, [], fun _ _ => none⟩, fun _ => .val (.slice none 0 0), rfl, op_move (.inr rfl) rfl sym_begin, fun _ => ?_⟩
    refine ⟨Nat × SyO, fun s => [(3, .val (.slice s.2.a s.1 s.2.c)), (6, syms l), (7, I l.length), (8, I s.1)], fun s => [(9999, sideB (symsSide (l.take s.1) s.1 s.2))], fun s => s.1 ≤ l.length ∧ s.2.ts.length = s.1, fun s => l.length - s.1,
      ⟨(0, ⟨none, 0, [], fun _ _ => none⟩), ⟨Nat.zero_le _, rfl⟩, ⟨⟨rfl, rfl⟩, .refl _, .refl _, .refl _, .refl _, ⟨.refl _, trivial⟩, trivial⟩⟩, fun ((i, u) : Nat × SyO) hi => ?_⟩
    obtain ⟨hi, hts⟩ := hi
    have hi : i ≤ l.length := hi
    have hts : u.ts.length = i := hts
    have hwj : IntKind.i64.wrap ((i : Int) + 1) = ((i + 1 : Nat) : Int) := by rw [wrap_eq _ (by omega) (by omega)]; omega
    refine ⟨fun h => ?_, fun h => ?_⟩
    · have hlt : i < l.length := dec_lt h
      refine ⟨⟨by omega, by dsimp only; omega⟩, ?_⟩
      refine ⟨((l.getD i sym0).2.1, symsSide (l.take i) i u), ⟨.agg2 (.refl _) (.refl _), trivial⟩, rfl, hd.2 _ (getD_in l sym0 i hlt), rfl, fun ((N', a, c) : HM × Option Addr × Nat) => ?_⟩
      refine ⟨_, Unit, fun _ => (sealSide (joinH u.N N') (termsQ (joinH u.N N') (l.take i ++ [l.getD i sym0]) (u.ts ++ [(a, c)]))).star (rowSide 45 4 (.slice u.a i u.c) i (flatW (l.take i) u.ts)), fun _ => .val (.slice u.a i u.c), rfl, op_move (.inl rfl) rfl sym_join, fun _ => ?_⟩
      refine ⟨SymT × Option Addr × Nat, fun x => (symW x.1 x.2).map SV.val, (sym0, none, 0), [(l.getD i sym0, a, c)], ⟨rfl, fun _ => rfl⟩, ⟨.refl _, .refl _, .refl _, .refl _, trivial⟩, rfl, ?_⟩
      refine ⟨(sealSide (joinH u.N N') (termsQ (joinH u.N N') (l.take i ++ [l.getD i sym0]) (u.ts ++ [(a, c)]))).star (rowSide 45 4 (.slice u.a i u.c) i (flatW (l.take i) u.ts)), Nat × Nat,
        fun v' => (sealSide (joinH u.N N') (termsQ (joinH u.N N') (l.take i ++ [l.getD i sym0]) (u.ts ++ [(a, c)]))).star (rowSide 45 4 (.slice (some ⟨v'.1, 0, none⟩) (i + 1) v'.2) (i + 1) (flatW (l.take i) u.ts ++ symW (l.getD i sym0) (a, c))), fun v' => .val (.slice (some ⟨v'.1, 0, none⟩) (i + 1) v'.2), rfl, ?_, fun v' => ?_⟩
      · refine OpOk.frame (op_append' (ti := _) (ui := _) rfl hT hU rfl rfl (by decide) (v := .slice u.a i u.c) (n := i) (xs := flatW (l.take i) u.ts) rfl (X := SymT × Option Addr × Nat) (cs := fun x => (symW x.1 x.2).map SV.val) (d := (sym0, none, 0)) (y := (l.getD i sym0, a, c)) (id := 18) rfl (symW (l.getD i sym0) (a, c)) rfl rfl ?_ ?_ ?_) _
        · intro u hu; simp [symW] at hu; rcases hu with rfl | rfl | rfl | rfl <;> rfl
        · show (i + 1) * 48 ≤ _; omega
        · omega
      have ht : l.take (i + 1) = l.take i ++ [l.getD i sym0] := by rw [List.take_add_one, List.getElem?_eq_getElem hlt, List.getD, List.getElem?_eq_getElem hlt]; rfl
      have he : (sealSide (joinH u.N N') (termsQ (joinH u.N N') (l.take i ++ [l.getD i sym0]) (u.ts ++ [(a, c)]))).star (rowSide 45 4 (.slice (some ⟨v'.1, 0, none⟩) (i + 1) v'.2) (i + 1) (flatW (l.take i) u.ts ++ symW (l.getD i sym0) (a, c))) = symsSide (l.take (i + 1)) (i + 1) ⟨some ⟨v'.1, 0, none⟩, v'.2, u.ts ++ [(a, c)], joinH u.N N'⟩ := by
        unfold symsSide; dsimp only; rw [ht, flatW_snoc _ _ _ _ (by rw [List.length_take, hts]; omega)]
      refine ⟨_, Unit, fun _ => symsSide (l.take (i + 1)) (i + 1) ⟨some ⟨v'.1, 0, none⟩, v'.2, u.ts ++ [(a, c)], joinH u.N N'⟩, fun _ => .val (.slice (some ⟨v'.1, 0, none⟩) (i + 1) v'.2), rfl, op_move (.inr rfl) rfl (he ▸ Side.to_refl _), fun _ => ?_⟩
      exact ⟨(i + 1, ⟨some ⟨v'.1, 0, none⟩, v'.2, u.ts ++ [(a, c)], joinH u.N N'⟩), ⟨hlt, by simp [hts]⟩, (by show l.length - (i + 1) < l.length - i; omega), ⟨rfl, rfl⟩, .refl _, .refl _, .int hwj, .refl _, ⟨.refl _, trivial⟩, trivial⟩
    · have hge : ¬ i < l.length := dec_ge h
      have hie : i = l.length := by omega
      subst hie
      exact ⟨u, .refl _, rfl, by rw [List.take_length]; rfl⟩
end Go.Proofs.Yteccinlmblijfaa.Ax
/- Layer open: a symbolic heap in memory of one's own. -/
set_option linter.unusedVariables false
set_option linter.unusedSimpArgs false
namespace Go.Proofs.Yteccinlmblijfaa.Ax
open Go Go.RowKit
/-- n of them, each beside the others -/
def bigStar (n : Nat) (f : Nat → Side) : Side := ⟨fun w => (∀ i, i < n → (f i).holds w) ∧ ∀ i j, i < n → j < n → i ≠ j → ∀ k, (f i).blk k → ¬ (f j).blk k, fun k => ∃ i, i < n ∧ (f i).blk k,
  fun w w' h hw => ⟨fun i hi => (f i).loc w w' (fun k hk => h k ⟨i, hi, hk⟩) (hw.1 i hi), hw.2⟩, fun w hw k hk => by obtain ⟨i, hi, hk⟩ := hk; exact (f i).inw w (hw.1 i hi) k hk⟩
theorem big_join {n : Nat} {f f' : Nat → Side} {F X : Side} (hf : ∀ i, i < n → f' i = f i) (hn : f' n = X) : ((bigStar n f).star F |>.star X).to ((bigStar (n + 1) f').star F) := fun w hw => by
  obtain ⟨⟨⟨h1, h2⟩, hF, hd⟩, hX, hd2⟩ := hw
  have at1 : ∀ i, i < n + 1 → (i < n ∧ f' i = f i) ∨ (i = n ∧ f' i = X) := fun i hi => by
    by_cases c : i < n
    · exact .inl ⟨c, hf i c⟩
    · have : i = n := by omega
      exact .inr ⟨this, this ▸ hn⟩
  refine ⟨⟨⟨fun i hi => ?_, fun i j hi hj hne k hk hk2 => ?_⟩, hF, fun k hk hk2 => ?_⟩, fun k hk => ?_⟩
  · rcases at1 i hi with ⟨c, e⟩ | ⟨-, e⟩ <;> rw [e]
    · exact h1 i c
    · exact hX
  · rcases at1 i hi with ⟨c, e⟩ | ⟨c, e⟩ <;> rcases at1 j hj with ⟨c2, e2⟩ | ⟨c2, e2⟩ <;> rw [e] at hk <;> rw [e2] at hk2
    · exact h2 i j c c2 hne k hk hk2
    · exact hd2 k (.inl ⟨i, c, hk⟩) hk2
    · exact hd2 k (.inl ⟨j, c2, hk2⟩) hk
    · omega
  · obtain ⟨i, hi, hk⟩ := hk
    rcases at1 i hi with ⟨c, e⟩ | ⟨c, e⟩ <;> rw [e] at hk
    · exact hd k ⟨i, c, hk⟩ hk2
    · exact hd2 k (.inr hk2) hk
  · rcases hk with ⟨i, hi, hk⟩ | hk
    · rcases at1 i hi with ⟨c, e⟩ | ⟨c, e⟩ <;> rw [e] at hk
      · exact .inl (.inl ⟨i, c, hk⟩)
      · exact .inr hk
    · exact .inl (.inr hk)
abbrev sy0 : SyO := ⟨none, 0, [], fun _ _ => none⟩
def objW (o : ObjT) (u : SyO) : List Value := [.int .i64 o.1.1, .string o.1.2, .slice u.a o.2.1.length u.c, .int .i64 o.2.2]
def flatO : List ObjT → List SyO → List Value
  | o :: l, u :: us => objW o u ++ flatO l us
  | _, _ => []
theorem flatO_snoc : ∀ (l : List ObjT) (us : List SyO) (o : ObjT) (u : SyO), us.length = l.length → flatO (l ++ [o]) (us ++ [u]) = flatO l us ++ objW o u
  | [], [], y, t, _ => by simp [flatO]
  | [], _ :: _, _, _, h => by simp at h
  | _ :: _, [], _, _, h => by simp at h
  | a :: l, b :: ts, y, t, h => by
    simp only [List.cons_append, flatO, flatO_snoc l ts y t (by simpa using h), List.append_assoc]
def slotsF (l : List ObjT) (us : List SyO) (i : Nat) : Side := symsSide (l.getD i sobj0).2.1 (l.getD i sobj0).2.1.length (us.getD i sy0)
structure HpO where
  a : Option Addr
  c : Nat
  us : List SyO
def heapSide (l : List ObjT) (n : Nat) (u : HpO) : Side := (bigStar n (slotsF l u.us)).star (rowSide 56 4 (.slice u.a n u.c) n (flatO l u.us))
def hpD (l : List ObjT) : Prop := l.length ≤ 1000000 ∧ ∀ o ∈ l, o.2.1.length ≤ 1000000 ∧ ∀ y ∈ o.2.1, y.2.1.2.length ≤ 1000000
def hpX : CtrX := { A := List ObjT, O := HpO, enc := fun l => [sobjs l], pre := fun _ => .emp, dom := hpD, res := fun l u => .val (.slice u.a l.length u.c), post := fun l u => heapSide l l.length u }
theorem heap_begin : Side.emp.to (heapSide [] 0 ⟨none, 0, []⟩) := fun w _ => by
  refine ⟨⟨⟨fun i hi => (by omega), fun i j hi => (by omega)⟩, ⟨rfl, .inl ⟨rfl, rfl⟩⟩, fun k hk => ?_⟩, fun k hk => ?_⟩
  · obtain ⟨i, hi, -⟩ := hk; omega
  · rcases hk with ⟨i, hi, -⟩ | e
    · omega
    · cases e
theorem getD_snoc {α : Type} (l : List α) (x d : α) (i : Nat) : (l ++ [x]).getD i d = if i < l.length then l.getD i d else if i = l.length then x else d := by
  by_cases h : i < l.length
  · rw [if_pos h]; simp [List.getD, List.getElem?_append_left h]
  · rw [if_neg h]
    by_cases h2 : i = l.length
    · subst h2; rw [if_pos rfl]; simp [List.getD]
    · rw [if_neg h2]; simp [List.getD, List.getElem?_append_right (show l.length ≤ i by omega), show ¬ i - l.length = 0 by omega]
set_option maxRecDepth 100000 in
set_option maxHeartbeats 4000000 in
theorem hpX_ok : CtrXSound Try.prog 38 hpX :=
  ctrX_of_ax mixed hpX Try.func38 (by kernel_rfl) rfl (fun _ _ => Nat.le_of_ble_eq_true rfl) fun (l : List ObjT) hd => by
    have hd : l.length ≤ 1000000 ∧ ∀ o ∈ l, o.2.1.length ≤ 1000000 ∧ ∀ y ∈ o.2.1, y.2.1.2.length ≤ 1000000 := hd
    refine ⟨_, ⟨env_okX tys_ok (eqs := []) trivial (cs := []) trivial (bs := []) trivial (xs := [(37, syX.frameE)]) ⟨syX_ok.frameE (fun _ => rfl), trivial⟩ (sd := [3, 14, 16, 19]), fun _ h => h⟩, ?_⟩
    have hT : TOk Try.prog 27 _ := ty_at rfl
    have hU : TOk Try.prog 56 _ := ty_at rfl
    refine ⟨.emp, Unit, fun _ => heapSide [] 0 ⟨none, 0, []⟩, fun _ => .val (.slice none 0 0), rfl, op_move (.inr rfl) rfl heap_begin, fun _ => ?_⟩
    refine ⟨Nat × HpO, fun s => [(3, .val (.slice s.2.a s.1 s.2.c)), (6, sobjs l), (7, I l.length), (8, I s.1)], fun s => [(9999, sideB (heapSide (l.take s.1) s.1 s.2))], fun s => s.1 ≤ l.length ∧ s.2.us.length = s.1, fun s => l.length - s.1,
      ⟨(0, ⟨none, 0, []⟩), ⟨Nat.zero_le _, rfl⟩, ⟨⟨rfl, rfl⟩, .refl _, .refl _, .refl _, .refl _, ⟨.refl _, trivial⟩, trivial⟩⟩, fun ((i, u) : Nat × HpO) hi => ?_⟩
    obtain ⟨hi, hts⟩ := hi
    have hi : i ≤ l.length := hi
    have hts : u.us.length = i := hts
    have hwj : IntKind.i64.wrap ((i : Int) + 1) = ((i + 1 : Nat) : Int) := by rw [wrap_eq _ (by omega) (by omega)]; omega
    refine ⟨fun h => ?_, fun h => ?_⟩
    · have hlt : i < l.length := dec_lt h
      refine ⟨⟨by omega, by dsimp only; omega⟩, ?_⟩
      refine ⟨((l.getD i sobj0).2.1, heapSide (l.take i) i u), ⟨.refl _, trivial⟩, rfl, hd.2 _ (getD_in l sobj0 i hlt), rfl, fun (q : SyO) => ?_⟩
      have ht : l.take (i + 1) = l.take i ++ [l.getD i sobj0] := by rw [List.take_add_one, List.getElem?_eq_getElem hlt, List.getD, List.getElem?_eq_getElem hlt]; rfl
      have hli : (l.take i).length = i := by rw [List.length_take]; omega
      have hj : ((heapSide (l.take i) i u).star (symsSide (l.getD i sobj0).2.1 (l.getD i sobj0).2.1.length q)).to ((bigStar (i + 1) (slotsF (l.take (i + 1)) (u.us ++ [q]))).star (rowSide 56 4 (.slice u.a i u.c) i (flatO (l.take i) u.us))) := by
        refine big_join (fun j hj => ?_) ?_
        · unfold slotsF; rw [ht, getD_snoc, getD_snoc, if_pos (by omega), if_pos (by omega)]
        · unfold slotsF; rw [ht, getD_snoc, getD_snoc, if_neg (by omega), if_pos hli.symm, if_neg (by omega), if_pos hts.symm]
      refine ⟨_, Unit, fun _ => (bigStar (i + 1) (slotsF (l.take (i + 1)) (u.us ++ [q]))).star (rowSide 56 4 (.slice u.a i u.c) i (flatO (l.take i) u.us)), fun _ => .val (.slice u.a i u.c), rfl, op_move (.inl rfl) rfl hj, fun _ => ?_⟩
      refine ⟨ObjT × SyO, fun x => (objW x.1 x.2).map SV.val, (sobj0, sy0), [(l.getD i sobj0, q)], ⟨rfl, fun _ => rfl⟩, ⟨.refl _, .refl _, .refl _, .refl _, trivial⟩, rfl, ?_⟩
      refine ⟨(bigStar (i + 1) (slotsF (l.take (i + 1)) (u.us ++ [q]))).star (rowSide 56 4 (.slice u.a i u.c) i (flatO (l.take i) u.us)), Nat × Nat,
        fun v' => (bigStar (i + 1) (slotsF (l.take (i + 1)) (u.us ++ [q]))).star (rowSide 56 4 (.slice (some ⟨v'.1, 0, none⟩) (i + 1) v'.2) (i + 1) (flatO (l.take i) u.us ++ objW (l.getD i sobj0) q)), fun v' => .val (.slice (some ⟨v'.1, 0, none⟩) (i + 1) v'.2), rfl, ?_, fun v' => ?_⟩
      · refine OpOk.frame (op_append' (ti := _) (ui := _) rfl hT hU rfl rfl (by decide) (v := .slice u.a i u.c) (n := i) (xs := flatO (l.take i) u.us) rfl (X := ObjT × SyO) (cs := fun x => (objW x.1 x.2).map SV.val) (d := (sobj0, sy0)) (y := (l.getD i sobj0, q)) (id := 18) rfl (objW (l.getD i sobj0) q) rfl rfl ?_ ?_ ?_) _
        · intro u hu; simp [objW] at hu; rcases hu with rfl | rfl | rfl | rfl <;> rfl
        · show (i + 1) * 56 ≤ _; omega
        · omega
      have he : (bigStar (i + 1) (slotsF (l.take (i + 1)) (u.us ++ [q]))).star (rowSide 56 4 (.slice (some ⟨v'.1, 0, none⟩) (i + 1) v'.2) (i + 1) (flatO (l.take i) u.us ++ objW (l.getD i sobj0) q)) = heapSide (l.take (i + 1)) (i + 1) ⟨some ⟨v'.1, 0, none⟩, v'.2, u.us ++ [q]⟩ := by
        unfold heapSide; dsimp only; rw [ht, flatO_snoc _ _ _ _ (by rw [hli, hts])]
      refine ⟨_, Unit, fun _ => heapSide (l.take (i + 1)) (i + 1) ⟨some ⟨v'.1, 0, none⟩, v'.2, u.us ++ [q]⟩, fun _ => .val (.slice (some ⟨v'.1, 0, none⟩) (i + 1) v'.2), rfl, op_move (.inr rfl) rfl (he ▸ Side.to_refl _), fun _ => ?_⟩
      exact ⟨(i + 1, ⟨some ⟨v'.1, 0, none⟩, v'.2, u.us ++ [q]⟩), ⟨hlt, by simp [hts]⟩, (by show l.length - (i + 1) < l.length - i; omega), ⟨rfl, rfl⟩, .refl _, .refl _, .int hwj, .refl _, ⟨.refl _, trivial⟩, trivial⟩
    · have hge : ¬ i < l.length := dec_ge h
      have hie : i = l.length := by omega
      subst hie
      exact ⟨u, .refl _, rfl, by rw [List.take_length]; rfl⟩
end Go.Proofs.Yteccinlmblijfaa.Ax
/- Layer open: what is known of an input in memory of one's own. -/
set_option linter.unusedVariables false
set_option linter.unusedSimpArgs false
namespace Go.Proofs.Yteccinlmblijfaa.Ax
open Go Go.RowKit
theorem Chg.cell {X Y : Side} {w w' : World} (h : Chg X Y w w') {b o : Nat} {v : Value} (hb : ¬ X.blk b) (e : w.cell? ⟨b, o, none⟩ = some v) : w'.cell? ⟨b, o, none⟩ = some v := by
  rw [World.cell?_of_block (w := w) (h.block b (World.block_lt_of_cell? w _ e) hb)]; exact e
theorem Chg.fro {X Y : Side} {w w' : World} (h : Chg X Y w w') {b o : Nat} (hl : b < w.heap.size) (hb : ¬ X.blk b) : w'.frozen? ⟨b, o, none⟩ = w.frozen? ⟨b, o, none⟩ := World.frozen?_of_block (w := w) (h.block b hl hb)
theorem Chg.sealed {Y : Side} {w w' : World} (h : Chg .emp Y w w') {H : HM} (hs : Sealed H w) : Sealed H w' := fun b o v e => h.cell (fun c => c) (hs b o v e)
structure InO where
  a : SyO
  h : HpO
def inSide (s : InT) (u : InO) : Side := (symsSide s.1 s.1.length u.a).star (heapSide s.2 s.2.length u.h)
def twD (s : InT) : Prop := (s.1.length ≤ 1000000 ∧ ∀ y ∈ s.1, y.2.1.2.length ≤ 1000000) ∧ hpD s.2
def inX : CtrX := { A := InT, O := InO, enc := fun s => [sinS s], pre := fun _ => .emp, dom := twD, res := fun s u => .agg [.val (.slice u.a.a s.1.length u.a.c), .val (.slice u.h.a s.2.length u.h.c)], post := fun s u => inSide s u }
theorem mapM_one {P : Program} {α : Type} (g : α → Sem Value) (r : α) {v : Value} {w : World} (h : (g r).run P w = .ok v w) : (#[r].mapM g).run P w = .ok #[v] w := by
  have e : #[r].mapM g = (do let v ← g r; pure #[v]) := by simp
  rw [e, Sem.run_bind, h]; rfl
theorem results_cell {P : Program} {fn : Func} {p : Tmp} {t : TypeId} (h : fn.results = #[.cell p t]) {ti : TI} (hT : TOk P t ti) (ha : ti.agg = true) {tmps : Array Value} {w : World} {b : Nat} (hp : tmps.getD p undef = .pointer (some ⟨b, 0, none⟩)) (f : Nat → Value)
    (hc : ∀ j, j < ti.size → w.cell? ⟨b, 0 + j, none⟩ = some (f j)) : (results fn tmps).run P w = .ok (.agg ((List.range ti.size).map f).toArray) w := by
  have h1 := run_loadVar (P := P) (w := w) hT b 0 f hc (fun c => by rw [ha] at c; cases c)
  rw [ha, if_pos rfl] at h1
  unfold results
  rw [h, Sem.run_bind, mapM_one _ _ (v := .agg ((List.range ti.size).map f).toArray) ?_]
  · rfl
  · show (do loadVar t (← asAddr (tmps.getD p undef)) : Sem Value).run P w = _
    rw [Sem.run_bind, hp]; exact h1
theorem in_fin {w w1 w2 w3 : World} {s : InT} {q : SyO} {q3 : HpO} {b : Nat} {x y : Value} (h01 : Below w.heap.size w w1) (hb : w.heap.size ≤ b) (hb2 : b < w1.heap.size) (h12 : Chg .emp (symsSide s.1 s.1.length q) w1 w2) (h23 : Chg .emp (heapSide s.2 s.2.length q3) w2 w3) :
    Chg .emp (inSide s ⟨q, q3⟩) w ((w3.setCell ⟨b, 0, none⟩ x).setCell ⟨b, 1, none⟩ y) := by
  have s1 : ∀ k, (symsSide s.1 s.1.length q).blk k → w1.heap.size ≤ k := fun k hk => (h12.blk k hk).elim (fun c => c.elim) id
  have s3 : ∀ k, (heapSide s.2 s.2.length q3).blk k → w2.heap.size ≤ k := fun k hk => (h23.blk k hk).elim (fun c => c.elim) id
  have l1 := fun k hk => (symsSide s.1 s.1.length q).inw w2 h12.holds k hk
  have h4 : ∀ k, k ≠ b → ((w3.setCell ⟨b, 0, none⟩ x).setCell ⟨b, 1, none⟩ y).heap[k]? = w3.heap[k]? := fun k hk => by
    rw [Below.heap_setCell _ _ _ _ hk, Below.heap_setCell _ _ _ _ hk]
  have hz1 := h12.size
  have hz2 := h23.size
  have hz0 := h01.size
  have old : ∀ k, k < w.heap.size → ((w3.setCell ⟨b, 0, none⟩ x).setCell ⟨b, 1, none⟩ y).heap[k]? = w.heap[k]? := fun k hk => by
    rw [h4 k (by omega), h23.block k (by omega) (fun c => c), h12.block k (by omega) (fun c => c), h01.block k hk]
  refine ⟨h23.os.trans (h12.os.trans h01.os), h23.tape.trans (h12.tape.trans h01.tape), h23.output.trans (h12.output.trans h01.output), ?_, fun k hk _ => old k hk, fun k hk => shape_eq (old k hk), ⟨?_, ?_, fun k hk hk3 => ?_⟩, fun k hk => .inr ?_⟩
  · simp [World.setCell]; omega
  · refine (symsSide s.1 s.1.length q).loc w2 _ (fun k hk => ?_) h12.holds
    have := s1 k hk
    have := l1 k hk
    rw [h4 k (by omega), h23.block k (by omega) (fun c => c)]
  · refine (heapSide s.2 s.2.length q3).loc w3 _ (fun k hk => ?_) h23.holds
    have := s3 k hk
    exact h4 k (by omega)
  · have := l1 k hk
    have := s3 k hk3
    omega
  · rcases hk with hk | hk
    · have := s1 k hk; omega
    · have := s3 k hk; omega
set_option maxHeartbeats 4000000 in
set_option maxRecDepth 100000 in
theorem inX_ok : CtrXSound Try.prog 26 inX := by
  refine ⟨⟨_, Try.func26, by kernel_rfl, by kernel_rfl⟩, fun s H w vs hd hs hgl hn hg _ _ => ?_⟩
  obtain ⟨v, rfl, g0⟩ := args1 hn hg
  cases g0 with
  | agg _ us hu hgu =>
  obtain ⟨us⟩ := us
  match us, hu, hgu with
  | [u0, u1], _, hgu =>
  have r0 := hgu 0 (by show 0 < 2; omega)
  have r1 := hgu 1 (by show 1 < 2; omega)
  have r0 : G H noB noT (syms s.1) u0 := r0
  have r1 : G H noB noT (sobjs s.2) u1 := r1
  obtain ⟨a0, c0, rfl, -⟩ := row_gen r0
  obtain ⟨a1, c1, rfl, -⟩ := row_gen r1
  have hs1 : Sealed H ((w.alloc (.cells #[.slice a0 s.1.length c0, .slice a1 s.2.length c1] 29)).alloc (.cells #[.slice none 0 0, .slice none 0 0] 29)).drew := fun b o v e => ca_old (ca_old (hs b o v e))
  have cS := syX_ok.2 s.1 H _ #[.slice a0 s.1.length c0] hd.1 hs1 (fun _ _ _ => trivial) rfl (fun j hj => by
    obtain rfl : j = 0 := by have : j < 1 := hj; omega
    exact r0) trivial (fun k hk => hk.elim)
  have hz : (w.alloc (.cells #[.slice a0 s.1.length c0, .slice a1 s.2.length c1] 29)).heap.size = w.heap.size + 1 := by simp
  have k1 : (((w.alloc (.cells #[.slice a0 s.1.length c0, .slice a1 s.2.length c1] 29)).alloc (.cells #[.slice none 0 0, .slice none 0 0] 29)).drew).cell? ⟨w.heap.size, 1, none⟩ = some (.slice a1 s.2.length c1) := ca_old (by rw [World.cell?_alloc_new]; rfl)
  have k2 : (((w.alloc (.cells #[.slice a0 s.1.length c0, .slice a1 s.2.length c1] 29)).alloc (.cells #[.slice none 0 0, .slice none 0 0] 29)).drew).cell? ⟨w.heap.size + 1, 0, none⟩ = some (.slice none 0 0) := by
    show ((w.alloc _).alloc _).cell? _ = _
    rw [← hz, World.cell?_alloc_new]; rfl
  have k3 : (((w.alloc (.cells #[.slice a0 s.1.length c0, .slice a1 s.2.length c1] 29)).alloc (.cells #[.slice none 0 0, .slice none 0 0] 29)).drew).cell? ⟨w.heap.size + 1, 1, none⟩ = some (.slice none 0 0) := by
    show ((w.alloc _).alloc _).cell? _ = _
    rw [← hz, World.cell?_alloc_new]; rfl
  have k4 : ∀ o, (((w.alloc (.cells #[.slice a0 s.1.length c0, .slice a1 s.2.length c1] 29)).alloc (.cells #[.slice none 0 0, .slice none 0 0] 29)).drew).frozen? ⟨w.heap.size + 1, o, none⟩ = false := by
    intro o
    show ((w.alloc _).alloc _).frozen? _ = _
    rw [← hz]; exact World.frozen?_alloc_new ..
  have k5 : w.heap.size + 1 < (((w.alloc (.cells #[.slice a0 s.1.length c0, .slice a1 s.2.length c1] 29)).alloc (.cells #[.slice none 0 0, .slice none 0 0] 29)).drew).heap.size := by
    show w.heap.size + 1 < ((w.alloc _).alloc _).heap.size
    simp
  have KK := Lib.hid (And.intro k1 (And.intro k2 (And.intro k3 (And.intro k4 k5))))
  clear k1 k2 k3 k4 k5
  go_enter Try.func26, Try.ntmps26
  go_wp2
  go_region_with (first
    | (go_at_call 37
       refine cS.mono ?_
       rintro e w2 ⟨v2, q, rfl, hc, hv⟩
       obtain rfl := gval' hv
       have f1 : w2.cell? ⟨w.heap.size, 1, none⟩ = some (.slice a1 s.2.length c1) := hc.cell (fun c => c) KK.out.1
       have cH := hpX_ok.2 s.2 H w2 #[.slice a1 s.2.length c1] hd.2 (hc.sealed hs1) (fun _ _ _ => trivial) rfl (fun j hj => by
         obtain rfl : j = 0 := by have : j < 1 := hj; omega
         exact r1) trivial (fun k hk => hk.elim)
       have hlt : w.heap.size + 1 < w2.heap.size := Nat.lt_of_lt_of_le KK.out.2.2.2.2 hc.size
       have fr0 : w2.frozen? ⟨w.heap.size + 1, 0, none⟩ = false := (hc.fro KK.out.2.2.2.2 (fun c => c)).trans (KK.out.2.2.2.1 0)
       have fr1 : w2.frozen? ⟨w.heap.size + 1, 1, none⟩ = false := (hc.fro KK.out.2.2.2.2 (fun c => c)).trans (KK.out.2.2.2.1 1)
       have e0 : w2.cell? ⟨w.heap.size + 1, 0, none⟩ = some (.slice none 0 0) := hc.cell (fun c => c) KK.out.2.1
       have e1 : w2.cell? ⟨w.heap.size + 1, 1, none⟩ = some (.slice none 0 0) := hc.cell (fun c => c) KK.out.2.2.1
       have HC := Lib.hid hc
       clear hc hv)
    | (go_at_call 38
       refine cH.mono ?_
       rintro e w3 ⟨v3, q3, rfl, hc3, hv3⟩
       obtain rfl := gval' hv3
       have g0 : w3.frozen? ⟨w.heap.size + 1, 0, none⟩ = false := (hc3.fro (by show w.heap.size + 1 < w2.heap.size; exact hlt) (fun c => c)).trans fr0
       have g1 : w3.frozen? ⟨w.heap.size + 1, 1, none⟩ = false := (hc3.fro (by show w.heap.size + 1 < w2.heap.size; exact hlt) (fun c => c)).trans fr1
       have e2 : w3.cell? ⟨w.heap.size + 1, 0, none⟩ = some (.slice none 0 0) := hc3.cell (fun c => c) e0
       have e3 : w3.cell? ⟨w.heap.size + 1, 1, none⟩ = some (.slice none 0 0) := hc3.cell (fun c => c) e1
       have HC3 := Lib.hid hc3
       clear hc3 hv3))
  all_goals
    have z0 : ((w3.setCell ⟨w.heap.size + 1, 0, none⟩ (.slice q.a s.1.length q.c)).setCell ⟨w.heap.size + 1, 1, none⟩ (.slice q3.a s.2.length q3.c)).cell? ⟨w.heap.size + 1, 0, none⟩ = some (.slice q.a s.1.length q.c) := by
      rw [World.cell?_setCell_other _ _ _ _ (by simp)]; exact World.cell?_setCell_same _ _ _ e2
    have z1 : ((w3.setCell ⟨w.heap.size + 1, 0, none⟩ (.slice q.a s.1.length q.c)).setCell ⟨w.heap.size + 1, 1, none⟩ (.slice q3.a s.2.length q3.c)).cell? ⟨w.heap.size + 1, 1, none⟩ = some (.slice q3.a s.2.length q3.c) := by
      refine World.cell?_setCell_same (u := .slice none 0 0) _ _ _ ?_
      rw [World.cell?_setCell_other _ _ _ _ (by simp), e3]
    go_wp2
    refine bodyPost_ret (results_cell rfl (ty_at (t := 29) rfl) rfl rfl (fun j => match j with | 0 => .slice q.a s.1.length q.c | _ => .slice q3.a s.2.length q3.c) ?_) rfl ?_
    · intro j hj
      have hj : j < 2 := hj
      match j, hj with
      | 0, _ => exact z0
      | 1, _ => exact z1
    · refine ⟨_, ⟨q, q3⟩, rfl, in_fin (w1 := ((w.alloc (.cells #[.slice a0 s.1.length c0, .slice a1 s.2.length c1] 29)).alloc (.cells #[.slice none 0 0, .slice none 0 0] 29)).drew) ⟨rfl, rfl, rfl, by show w.heap.size ≤ ((w.alloc _).alloc _).heap.size; simp; omega, fun k hk => by show ((w.alloc _).alloc _).heap[k]? = _; rw [Below.heap_alloc _ _ _ (by simp; omega), Below.heap_alloc _ _ _ hk]⟩ (by omega) KK.out.2.2.2.2 HC.out HC3.out, ?_⟩
      refine .agg _ _ rfl fun j hj => ?_
      have hj : j < 2 := hj
      match j, hj with
      | 0, _ => exact .val _
      | 1, _ => exact .val _
end Go.Proofs.Yteccinlmblijfaa.Ax
/- Layer open: places in memory of one's own that are told. -/
set_option linter.unusedVariables false
set_option linter.unusedSimpArgs false
namespace Go.Proofs.Yteccinlmblijfaa.Ax
open Go Go.RowKit
theorem Side.to.trans {X Y Z : Side} (h : X.to Y) (g : Y.to Z) : X.to Z := fun w hx => ⟨(g w (h w hx).1).1, fun k hk => (h w hx).2 k ((g w (h w hx).1).2 k hk)⟩
theorem Side.comm (A B : Side) : (A.star B).to (B.star A) := fun w hw => ⟨⟨hw.2.1, hw.1, fun k hk hk2 => hw.2.2 k hk2 hk⟩, fun k hk => Or.symm hk⟩
theorem Side.mono {A B A' B' : Side} (h : A.to A') (g : B.to B') : (A.star B).to (A'.star B') := fun w hw =>
  ⟨⟨(h w hw.1).1, (g w hw.2.1).1, fun k hk hk2 => hw.2.2 k ((h w hw.1).2 k hk) ((g w hw.2.1).2 k hk2)⟩, fun k hk => hk.imp ((h w hw.1).2 k) ((g w hw.2.1).2 k)⟩
theorem Side.assoc (A B C : Side) : ((A.star B).star C).to (A.star (B.star C)) := fun w hw => by
  obtain ⟨⟨ha, hb, d⟩, hc, d2⟩ := hw
  exact ⟨⟨ha, ⟨hb, hc, fun k hk => d2 k (.inr hk)⟩, fun k hk hk2 => hk2.elim (d k hk) (d2 k (.inl hk))⟩, fun k hk => hk.elim (fun h => .inl (.inl h)) fun h => h.elim (fun h => .inl (.inr h)) .inr⟩
theorem Side.assoc' (A B C : Side) : (A.star (B.star C)).to ((A.star B).star C) := fun w hw => by
  obtain ⟨ha, ⟨hb, hc, d⟩, d2⟩ := hw
  exact ⟨⟨⟨ha, hb, fun k hk hk2 => d2 k hk (.inl hk2)⟩, hc, fun k hk hk2 => hk.elim (fun h => d2 k h (.inr hk2)) fun h => d k h hk2⟩, fun k hk => hk.elim (fun h => h.elim .inl fun h => .inr (.inl h)) fun h => .inr (.inr h)⟩
theorem OpOk.conseq {P : Program} {o : Oper} {ρ : Operand → SV} {X X1 : Side} {O : Type} {Y Y1 : O → Side} {r : O → SV} (h : OpOk P o ρ X1 O Y1 r) (hx : X.to X1) (hy : ∀ u, (Y1 u).to (Y u)) : OpOk P o ρ X O Y r := by
  intro H β T a w Q next hg hX hs hd hk
  refine h H β T a w Q next hg (hx w hX).1 hs (fun k hb q => hd k ((hx w hX).2 k hb) q) fun u v w' hc hv => hk u v w' ?_ hv
  exact ⟨hc.os, hc.tape, hc.output, hc.size, fun k hk hb => hc.block k hk fun c => hb ((hx w hX).2 k c), hc.shape, (hy u w' hc.holds).1, fun k hk => (hc.blk k ((hy u w' hc.holds).2 k hk)).imp ((hx w hX).2 k) id⟩
/-- all but the ith -/
def offF (f : Nat → Side) (i : Nat) : Nat → Side := fun j => if j = i then .emp else f j
theorem offF_blk {f : Nat → Side} {i j k : Nat} (h : (offF f i j).blk k) : j ≠ i ∧ (f j).blk k := by
  unfold offF at h
  by_cases e : j = i
  · rw [if_pos e] at h; exact h.elim
  · rw [if_neg e] at h; exact ⟨e, h⟩
theorem big_out {n : Nat} {f : Nat → Side} {i : Nat} (hi : i < n) : (bigStar n f).to ((bigStar n (offF f i)).star (f i)) := fun w hw => by
  obtain ⟨h1, h2⟩ := hw
  refine ⟨⟨⟨fun j hj => ?_, fun j m hj hm hne k hk hk2 => h2 j m hj hm hne k (offF_blk hk).2 (offF_blk hk2).2⟩, h1 i hi, fun k hk hk2 => ?_⟩, fun k hk => ?_⟩
  · unfold offF
    by_cases e : j = i
    · rw [if_pos e]; trivial
    · rw [if_neg e]; exact h1 j hj
  · obtain ⟨j, hj, hk⟩ := hk
    exact h2 j i hj hi (offF_blk hk).1 k (offF_blk hk).2 hk2
  · rcases hk with ⟨j, hj, hk⟩ | hk
    · exact ⟨j, hj, (offF_blk hk).2⟩
    · exact ⟨i, hi, hk⟩
theorem big_in {n : Nat} {f f' : Nat → Side} {i : Nat} {X : Side} (hi : i < n) (hf : ∀ j, j < n → j ≠ i → f' j = f j) (hx : f' i = X) : ((bigStar n (offF f i)).star X).to (bigStar n f') := fun w hw => by
  obtain ⟨⟨h1, h2⟩, hX, hd⟩ := hw
  have at1 : ∀ j, j < n → (j ≠ i ∧ f' j = offF f i j) ∨ (j = i ∧ f' j = X) := fun j hj => by
    by_cases e : j = i
    · exact .inr ⟨e, e ▸ hx⟩
    · exact .inl ⟨e, by rw [hf j hj e]; unfold offF; rw [if_neg e]⟩
  refine ⟨⟨fun j hj => ?_, fun j m hj hm hne k hk hk2 => ?_⟩, fun k hk => ?_⟩
  · rcases at1 j hj with ⟨c, e⟩ | ⟨-, e⟩ <;> rw [e]
    · exact h1 j hj
    · exact hX
  · rcases at1 j hj with ⟨c, e⟩ | ⟨c, e⟩ <;> rcases at1 m hm with ⟨c2, e2⟩ | ⟨c2, e2⟩ <;> rw [e] at hk <;> rw [e2] at hk2
    · exact h2 j m hj hm hne k hk hk2
    · exact hd k ⟨j, hj, hk⟩ hk2
    · exact hd k ⟨m, hm, hk2⟩ hk
    · omega
  · obtain ⟨j, hj, hk⟩ := hk
    rcases at1 j hj with ⟨c, e⟩ | ⟨-, e⟩ <;> rw [e] at hk
    · exact .inl ⟨j, hj, hk⟩
    · exact .inr hk
def blkOf (a : Option Addr) : Nat := (a.getD ⟨0, 0, none⟩).block
theorem row_addr {w : World} {e : TypeId} {size : Nat} {a : Option Addr} {n c : Nat} {xs : List Value} (h : (rowSide e size (.slice a n c) n xs).holds w) (hn : 0 < n) : ∃ b, a = some ⟨b, 0, none⟩ := by
  have h : w.ownsRow 0 e size (.slice a n c) n xs := h
  rcases h.2 with ⟨h1, h2⟩ | ⟨g, cap, cur, h1, -⟩
  · omega
  · cases h1; exact ⟨g, rfl⟩
theorem row_ok {w : World} {e : TypeId} {size : Nat} {a : Option Addr} {n c : Nat} {xs : List Value} (h : (rowSide e size (.slice a n c) n xs).holds w) : okSl a n c := by
  have h : w.ownsRow 0 e size (.slice a n c) n xs := h
  rcases h.2 with ⟨h1, h2⟩ | ⟨g, cap, cur, h1, -, -, h3, -⟩
  · exact .inl h2
  · cases h1; exact .inr ⟨h3, g, 0, rfl⟩
theorem row_at {w : World} {e : TypeId} {size : Nat} {a : Option Addr} {n c : Nat} {xs : List Value} (h : (rowSide e size (.slice a n c) n xs).holds w) {j : Nat} (hj : j < xs.length) (hn : 0 < n) : w.cell? ⟨blkOf a, j, none⟩ = some (xs.getD j undef) := by
  obtain ⟨b, rfl⟩ := row_addr h hn
  exact row_cell h hj
theorem op_indexX {P : Program} {o : Oper} {t : TypeId} {x i : Operand} (ho : o.op = .indexAddr t x i) {ti ui : TI} (hT : TOk P t ti) (hU : TOk P ti.elem ui) (hs : ti.slice = true) {ρ : Operand → SV} {a0 : Option Addr} {n c : Nat} {kk : IntKind} {j : Int}
    (hx : ρ x = .val (.slice a0 n c)) (hi : ρ i = .val (.int kk j)) (h0 : 0 ≤ j) (h1 : j < (n : Int)) {X : Side} (hX : ∀ w, X.holds w → ∃ b, a0 = some ⟨b, 0, none⟩) :
    OpOk P o ρ X Unit (fun _ => X) (fun _ => .val (.pointer (some ⟨blkOf a0, j.toNat * ui.size, none⟩))) := by
  intro H β T a w Q next hg hx2 hs2 hd hk
  obtain ⟨b, rfl⟩ := hX w hx2
  exact OpOk.still (op_index ho hT hU hs hx hi h0 h1) X H β T a w Q next hg hx2 hs2 hd hk
theorem op_storeX {P : Program} {o : Oper} {t : TypeId} {x y : Operand} (ho : o.op = .store t x y) {ti : TI} (hT : TOk P t ti) {ρ : Operand → SV} {a0 : Option Addr} {p n c size : Nat} {e : TypeId} {xs vs : List Value}
    (hx : ρ x = .val (.pointer (some ⟨blkOf a0, p, none⟩))) (hy : ρ y = .agg (vs.map SV.val)) (hl : vs.length = ti.size) (h1 : ∀ u ∈ vs, u.oneCell' = true) (hp : p + vs.length ≤ n * size) (hn : 0 < n) :
    OpOk P o ρ (rowSide e size (.slice a0 n c) n xs) Unit (fun _ => rowSide e size (.slice a0 n c) n (xs.take p ++ vs ++ xs.drop (p + vs.length))) (fun _ => .val undef) := by
  intro H β T a w Q next hg hX hs hd hk
  obtain ⟨b, rfl⟩ := row_addr hX hn
  have hl2 : xs.length = n * size := hX.1
  exact op_store ho hT hx hy hl h1 (by omega) H β T a w Q next hg hX hs hd hk
theorem flatW_len : ∀ (l : List SymT) (ts : List (Option Addr × Nat)), ts.length = l.length → (flatW l ts).length = l.length * 4
  | [], [], _ => rfl
  | [], _ :: _, h => by simp at h
  | _ :: _, [], h => by simp at h
  | y :: l, t :: ts, h => by
    have := flatW_len l ts (by simpa using h)
    simp [flatW, symW, this]; omega
theorem flatW_set : ∀ (l : List SymT) (ts : List (Option Addr × Nat)) (j : Nat) (y : SymT) (t : Option Addr × Nat), ts.length = l.length → j < l.length →
    flatW (l.set j y) (ts.set j t) = (flatW l ts).take (j * 4) ++ symW y t ++ (flatW l ts).drop (j * 4 + 4)
  | [], _, _, _, _, _, h => by simp at h
  | _ :: _, [], _, _, _, h, _ => by simp at h
  | y0 :: l, t0 :: ts, 0, y, t, h, _ => by simp [flatW, symW]
  | y0 :: l, t0 :: ts, j + 1, y, t, h, hj => by
    have := flatW_set l ts j y t (by simpa using h) (by simpa using hj)
    simp only [List.set_cons_succ, flatW, this]
    rw [show (j + 1) * 4 = j * 4 + 1 + 1 + 1 + 1 by omega, show j * 4 + 1 + 1 + 1 + 1 + 4 = j * 4 + 4 + 1 + 1 + 1 + 1 by omega]
    simp only [symW, List.cons_append, List.nil_append, List.take_succ_cons, List.drop_succ_cons]
theorem flatW_at : ∀ (l : List SymT) (ts : List (Option Addr × Nat)) (j r : Nat), ts.length = l.length → j < l.length → r < 4 → (flatW l ts).getD (j * 4 + r) undef = (symW (l.getD j sym0) (ts.getD j (none, 0))).getD r undef
  | [], _, _, _, _, h, _ => by simp at h
  | _ :: _, [], _, _, h, _, _ => by simp at h
  | y0 :: l, t0 :: ts, 0, r, h, _, hr => by
    simp only [flatW, Nat.zero_mul, Nat.zero_add, List.getD, List.getElem?_cons_zero, Option.getD_some]
    rw [List.getElem?_append_left (by simpa [symW] using hr)]
  | y0 :: l, t0 :: ts, j + 1, r, h, hj, hr => by
    have := flatW_at l ts j r (by simpa using h) (by simpa using hj) hr
    rw [show (j + 1) * 4 + r = 4 + (j * 4 + r) by omega]
    simp only [flatW, List.getD, List.getElem?_cons_succ] at this ⊢
    rw [List.getElem?_append_right (by simp [symW]), ← this]
    congr 2
    simp [symW]
theorem flatO_at : ∀ (l : List ObjT) (us : List SyO) (j r : Nat), j < l.length → j < us.length → r < 4 → (flatO l us).getD (j * 4 + r) undef = (objW (l.getD j sobj0) (us.getD j sy0)).getD r undef
  | [], _, _, _, h, _, _ => by simp at h
  | _ :: _, [], _, _, _, h, _ => by simp at h
  | y0 :: l, t0 :: ts, 0, r, h, _, hr => by
    simp only [flatO, Nat.zero_mul, Nat.zero_add, List.getD, List.getElem?_cons_zero, Option.getD_some]
    rw [List.getElem?_append_left (by simpa [objW] using hr)]
  | y0 :: l, t0 :: ts, j + 1, r, h, hj, hr => by
    have := flatO_at l ts j r (by simpa using h) (by simpa using hj) hr
    rw [show (j + 1) * 4 + r = 4 + (j * 4 + r) by omega]
    simp only [flatO, List.getD, List.getElem?_cons_succ] at this ⊢
    rw [List.getElem?_append_right (by simp [objW]), ← this]
    congr 2
    simp [objW]
theorem flatO_le : ∀ (l : List ObjT) (us : List SyO), (flatO l us).length ≤ us.length * 4
  | [], us => by simp [flatO]
  | _ :: _, [] => by simp [flatO]
  | o :: l, u :: us => by have := flatO_le l us; simp [flatO, objW]; omega
theorem flatO_set : ∀ (l : List ObjT) (us : List SyO) (i : Nat) (o : ObjT) (q : SyO), objW o q = objW (l.getD i sobj0) (us.getD i sy0) → flatO (l.set i o) (us.set i q) = flatO l us
  | [], us, i, o, q, h => by simp [flatO]
  | y0 :: l, [], i, o, q, h => by cases i <;> simp [flatO]
  | y0 :: l, t0 :: us, 0, o, q, h => by
    have h : objW o q = objW y0 t0 := h
    simp [flatO, h]
  | y0 :: l, t0 :: us, i + 1, o, q, h => by
    have := flatO_set l us i o q (by simpa [List.getD] using h)
    simp [flatO, this]
/-- a place of a row is told anew -/
theorem sym_put {l : List SymT} {ts : List (Option Addr × Nat)} {N : HM} {a : Option Addr} {c n j : Nat} {y : SymT} (hj : j < l.length) (hy : y.2.1.2 = []) :
    ((sealSide N (termsQ N l ts)).star (rowSide 45 4 (.slice a n c) n ((flatW l ts).take (j * 4) ++ symW y (none, 0) ++ (flatW l ts).drop (j * 4 + (symW y (none, 0)).length)))).to (symsSide (l.set j y) n ⟨a, c, ts.set j (none, 0), N⟩) := fun w hw => by
  obtain ⟨⟨hq, hN⟩, hr, hd⟩ := hw
  refine ⟨⟨⟨⟨by simp [hq.1], fun i hi => ?_⟩, hN⟩, ?_, hd⟩, fun k hk => hk⟩
  · by_cases e : i = j
    · subst e
      have e1 : (l.set i y).getD i sym0 = y := by simp [List.getD, List.getElem?_set_self hj]
      have e2 : (ts.set i (none, 0)).getD i (none, 0) = (none, 0) := by
        simp [List.getD, List.getElem?_set_self (show i < ts.length by have := hq.1; omega)]
      rw [e1, e2, hy]; exact .rowE ..
    · have e1 : (l.set j y).getD i sym0 = l.getD i sym0 := by simp [List.getD, List.getElem?_set_ne (Ne.symm e)]
      have e2 : (ts.set j (none, 0)).getD i (none, 0) = ts.getD i (none, 0) := by simp [List.getD, List.getElem?_set_ne (Ne.symm e)]
      rw [e1, e2]; exact hq.2 i (by simpa using hi)
  · show (rowSide _ _ _ _ (flatW (l.set j y) (ts.set j (none, 0)))).holds w
    rw [flatW_set l ts j y (none, 0) hq.1 hj]; exact hr
/-- an int's or a reference's place -/
def isObj (s : InT) (obj : Int) : Bool := decide (0 ≤ obj ∧ obj < (s.2.length : Int))
def slotsOf (s : InT) (obj : Int) : List SymT := if isObj s obj then (s.2.getD obj.toNat sobj0).2.1 else s.1
def slotsAt (s : InT) (u : InO) (obj : Int) : SyO := if isObj s obj then u.h.us.getD obj.toNat sy0 else u.a
def putO (o : ObjT) (j : Nat) (y : SymT) : ObjT := (o.1, o.2.1.set j y, o.2.2)
def putQ (q : SyO) (j : Nat) : SyO := ⟨q.a, q.c, q.ts.set j (none, 0), q.N⟩
def putIn (s : InT) (obj : Int) (j : Nat) (y : SymT) : InT := if isObj s obj then (s.1, s.2.set obj.toNat (putO (s.2.getD obj.toNat sobj0) j y)) else (s.1.set j y, s.2)
def putAt (s : InT) (u : InO) (obj : Int) (j : Nat) : InO := if isObj s obj then ⟨u.a, ⟨u.h.a, u.h.c, u.h.us.set obj.toNat (putQ (u.h.us.getD obj.toNat sy0) j)⟩⟩ else ⟨putQ u.a j, u.h⟩
/-- all but the row of a place -/
def restSide (s : InT) (u : InO) (obj : Int) : Side := if isObj s obj then (symsSide s.1 s.1.length u.a).star ((bigStar s.2.length (offF (slotsF s.2 u.h.us) obj.toNat)).star (rowSide 56 4 (.slice u.h.a s.2.length u.h.c) s.2.length (flatO s.2 u.h.us))) else heapSide s.2 s.2.length u.h
theorem in_open (s : InT) (u : InO) (obj : Int) : (inSide s u).to ((restSide s u obj).star (symsSide (slotsOf s obj) (slotsOf s obj).length (slotsAt s u obj))) := by
  unfold restSide slotsOf slotsAt inSide
  cases h : isObj s obj with
  | false => exact Side.comm _ _
  | true =>
    simp only [if_true]
    have hi := of_decide_eq_true h
    refine Side.to.trans (Side.mono (Side.to_refl _) (Side.mono (big_out (i := obj.toNat) (by omega)) (Side.to_refl _))) ?_
    -- a * ((b * x) * r) -> (a * (b * r)) * x
    refine Side.to.trans (Side.mono (Side.to_refl _) ?_) (Side.assoc' _ _ _)
    refine Side.to.trans (Side.assoc _ _ _) ?_
    refine Side.to.trans (Side.mono (Side.to_refl _) (Side.comm _ _)) ?_
    exact Side.assoc' _ _ _
theorem in_put (s : InT) (u : InO) (obj : Int) (j : Nat) (y : SymT) (hj : j < (slotsOf s obj).length) :
    ((restSide s u obj).star (symsSide ((slotsOf s obj).set j y) (slotsOf s obj).length (putQ (slotsAt s u obj) j))).to (inSide (putIn s obj j y) (putAt s u obj j)) := by
  unfold restSide putIn putAt inSide
  unfold slotsOf at hj ⊢
  unfold slotsAt
  cases h : isObj s obj with
  | false =>
    rw [h] at hj
    refine Side.to.trans (Side.comm _ _) ?_
    show ((symsSide (s.1.set j y) s.1.length (putQ u.a j)).star _).to ((symsSide (s.1.set j y) (s.1.set j y).length _).star _)
    rw [List.length_set]
    exact Side.to_refl _
  | true =>
    rw [h] at hj
    simp only [if_true] at hj ⊢
    have hi := of_decide_eq_true h
    have hi : obj.toNat < s.2.length := by omega
    refine Side.to.trans (Side.assoc _ _ _) (Side.mono (Side.to_refl _) ?_)
    refine Side.to.trans (Side.assoc _ _ _) ?_
    refine Side.to.trans (Side.mono (Side.to_refl _) (Side.comm _ _)) ?_
    refine Side.to.trans (Side.assoc' _ _ _) ?_
    unfold heapSide
    rw [List.length_set]
    refine fun w hw => ?_
    have hrow : (rowSide 56 4 (.slice u.h.a s.2.length u.h.c) s.2.length (flatO s.2 u.h.us)).holds w := hw.2.1
    have hlen : obj.toNat < u.h.us.length := by
      have h1 := hrow.1
      have h2 := flatO_le s.2 u.h.us
      omega
    refine (Side.mono (big_in hi (f' := slotsF (s.2.set obj.toNat (putO (s.2.getD obj.toNat sobj0) j y)) (u.h.us.set obj.toNat (putQ (u.h.us.getD obj.toNat sy0) j))) (fun i hi2 hne => ?_) ?_) ?_) w hw
    · unfold slotsF
      simp only [List.getD, List.getElem?_set_ne (Ne.symm hne)]
    · unfold slotsF
      simp only [List.getD, List.getElem?_set_self hi, List.getElem?_set_self hlen, Option.getD_some]
      show symsSide ((s.2[obj.toNat]?.getD sobj0).2.1.set j y) ((s.2[obj.toNat]?.getD sobj0).2.1.set j y).length _ = _
      rw [List.length_set]
    · rw [flatO_set s.2 u.h.us obj.toNat _ _ (by unfold objW putO putQ; rw [List.length_set])]
      exact Side.to_refl _
end Go.Proofs.Yteccinlmblijfaa.Ax
/- Layer open: the look at an object. -/
set_option linter.unusedVariables false
set_option linter.unusedSimpArgs false
namespace Go.Proofs.Yteccinlmblijfaa.Ax
open Go Go.RowKit
structure ObjX where
  s : InT
  vars : Int
  mb : Nat
  L : List Int
  i : Int
  o : ObjT
theorem symI_ok : CtrXSound Try.prog 27 (symX (fun s : InT => syms s.1) (fun s => sobjs s.2) (fun s => s.2.length)) := symX_ok (fun _ => ⟨_, row_isSl⟩) (fun _ => row_isSl)
def objX : CtrX := { A := ObjX, O := Unit, enc := fun x => [lookS (syms x.s.1) (sobjs x.s.2) x.vars x.mb, I x.i, sobjS x.o], pre := fun x => metSide x.mb x.L, dom := fun x => (∀ y ∈ x.o.2.1, symD y) ∧ x.L.length < 2305843009213693952, res := fun x _ => B (objB x.vars x.s.2.length x.L x.i x.o).1, post := fun x _ => metSide x.mb (objB x.vars x.s.2.length x.L x.i x.o).2 }
theorem symB_len (vars nh : Int) (L : List Int) (y : SymT) : (symB vars nh L y).2.length ≤ L.length + 1 := by
  unfold symB; split
  · split <;> simp
  · split
    · simp
    · split <;> simp
theorem slots_step {vars nh k : Int} {L : List Int} {l : List SymT} {j : Nat} (h : j < l.length) : slotsB vars nh k L (l.drop j) = if (symB vars nh L (l.getD j sym0)).1 && !(isRowB k && (((l.getD j sym0).1 == 1) != (k == 4))) then slotsB vars nh k (symB vars nh L (l.getD j sym0)).2 (l.drop (j + 1)) else (false, (symB vars nh L (l.getD j sym0)).2) := by
  rw [drop_at sym0 l j h]; rfl
set_option maxRecDepth 100000 in
set_option maxHeartbeats 4000000 in
theorem objX_ok : CtrXSound Try.prog 28 objX :=
  ctrX_of_ax mixed objX Try.func28 (by kernel_rfl) rfl (fun _ _ => Nat.le_of_ble_eq_true rfl) fun x hd => by
    obtain ⟨s, vars, mb, L, i, ⟨⟨k, nm⟩, l, inn⟩⟩ := x
    have hd1 : ∀ y ∈ l, symD y := hd.1
    have hd2 : L.length < 2305843009213693952 := hd.2
    refine ⟨_, ⟨env_okX tys_ok (eqs := []) trivial (cs := [(23, isRowC), (25, mostC)]) ⟨isRow_ok, most_ok, trivial⟩ (bs := []) trivial (xs := [(27, symX (fun s : InT => syms s.1) (fun s => sobjs s.2) (fun s => s.2.length))]) ⟨symI_ok, trivial⟩ (sd := [47]) (cut := [3]), fun _ h => h⟩, ?_⟩
    have bad : ((k ≠ 3 ∧ isRowB k = false) ∨ inn ≠ i ∨ mostI k < (l.length : Int)) → objB vars s.2.length L i ((k, nm), l, inn) = (false, L) := fun h => if_pos h
    have good : ¬ ((k ≠ 3 ∧ isRowB k = false) ∨ inn ≠ i ∨ mostI k < (l.length : Int)) → objB vars s.2.length L i ((k, nm), l, inn) = slotsB vars s.2.length k L l := fun h => if_neg h
    refine ⟨Unit, fun _ => [(0, lookS (syms s.1) (sobjs s.2) vars mb), (5, .box 5 0)], fun _ => [(5, sobjC ((k, nm), l, inn)), (9999, sideB (metSide mb L))], fun _ => ¬ ((k ≠ 3 ∧ isRowB k = false) ∨ inn ≠ i ∨ mostI k < (l.length : Int)), ?_, fun _ hg => ?_⟩
    · have ret : (k ≠ 3 ∧ isRowB k = false) ∨ inn ≠ i ∨ mostI k < (l.length : Int) → ∃ u : Unit, Sub SV.ff (objX.res ⟨s, vars, mb, L, i, (k, nm), l, inn⟩ u) ∧ scal (objX.res ⟨s, vars, mb, L, i, (k, nm), l, inn⟩ u) = true ∧ some (sideB (metSide mb L)) = some (sideB (objX.post ⟨s, vars, mb, L, i, (k, nm), l, inn⟩ u)) := fun h =>
        ⟨(), .bff (by show (objB vars s.2.length L i ((k, nm), l, inn)).1 = false; rw [bad h]), rfl, by show _ = some (sideB (metSide mb (objB vars s.2.length L i ((k, nm), l, inn)).2)); rw [bad h]⟩
      refine ⟨by kernel_rfl, ?_⟩
      refine ⟨?_, ?_⟩
      · skip
        intro h -- ({ s := s, vars := vars, mb := mb, L := L, i := i, o := ((k, nm), l, inn) }.o.fst.fst != 3) = true
        dsimp only at h
        refine ⟨(k, nm), ⟨.agg2 (.refl _) (.refl _), trivial⟩, rfl, trivial, ?_⟩
        refine ⟨?_, ?_⟩
        · skip
          intro h -- (!isRowB (k, nm).fst) = true
          dsimp only at h
          exact ret (by simp_all)
        · skip
          intro h -- (!isRowB (k, nm).fst) = false
          dsimp only at h
          refine ⟨?_, ?_⟩
          · skip
            intro h -- ({ s := s, vars := vars, mb := mb, L := L, i := i, o := ((k, nm), l, inn) }.o.snd.snd != { s := s, vars := vars, mb := mb, L := L, i := i, o := ((k, nm), l, inn
            dsimp only at h
            exact ret (by simp_all)
          · skip
            intro h -- ({ s := s, vars := vars, mb := mb, L := L, i := i, o := ((k, nm), l, inn) }.o.snd.snd != { s := s, vars := vars, mb := mb, L := L, i := i, o := ((k, nm), l, inn
            dsimp only at h
            refine ⟨(k, nm), ⟨.agg2 (.refl _) (.refl _), trivial⟩, rfl, trivial, ?_⟩
            refine ⟨?_, ?_⟩
            · skip
              intro h -- decide (↑{ s := s, vars := vars, mb := mb, L := L, i := i, o := ((k, nm), l, inn) }.o.snd.fst.length > mostI (k, nm).fst) = true
              dsimp only at h
              exact ret (by simp_all)
            · skip
              intro h -- decide (↑{ s := s, vars := vars, mb := mb, L := L, i := i, o := ((k, nm), l, inn) }.o.snd.fst.length > mostI (k, nm).fst) = false
              dsimp only at h
              exact ⟨(), (by simp_all), ⟨rfl, rfl⟩, .refl _, .refl _, ⟨.refl _, trivial⟩, ⟨.refl _, .refl _, .refl _, .refl _, trivial⟩, trivial⟩
      · skip
        intro h -- ({ s := s, vars := vars, mb := mb, L := L, i := i, o := ((k, nm), l, inn) }.o.fst.fst != 3) = false
        dsimp only at h
        refine ⟨?_, ?_⟩
        · skip
          intro h -- ({ s := s, vars := vars, mb := mb, L := L, i := i, o := ((k, nm), l, inn) }.o.snd.snd != { s := s, vars := vars, mb := mb, L := L, i := i, o := ((k, nm), l, inn
          dsimp only at h
          exact ret (by simp_all)
        · skip
          intro h -- ({ s := s, vars := vars, mb := mb, L := L, i := i, o := ((k, nm), l, inn) }.o.snd.snd != { s := s, vars := vars, mb := mb, L := L, i := i, o := ((k, nm), l, inn
          dsimp only at h
          refine ⟨(k, nm), ⟨.agg2 (.refl _) (.refl _), trivial⟩, rfl, trivial, ?_⟩
          refine ⟨?_, ?_⟩
          · skip
            intro h -- decide (↑{ s := s, vars := vars, mb := mb, L := L, i := i, o := ((k, nm), l, inn) }.o.snd.fst.length > mostI (k, nm).fst) = true
            dsimp only at h
            exact ret (by simp_all)
          · skip
            intro h -- decide (↑{ s := s, vars := vars, mb := mb, L := L, i := i, o := ((k, nm), l, inn) }.o.snd.fst.length > mostI (k, nm).fst) = false
            dsimp only at h
            exact ⟨(), (by simp_all), ⟨rfl, rfl⟩, .refl _, .refl _, ⟨.refl _, trivial⟩, ⟨.refl _, .refl _, .refl _, .refl _, trivial⟩, trivial⟩
    have hgood := good hg
    have hll : l.length ≤ 64 := by
      have h2 : ¬ mostI k < (l.length : Int) := fun h => hg (.inr (.inr h))
      unfold mostI at h2; split at h2 <;> omega
    have hro : isRowB k = true ∨ k = 3 := by
      by_cases h3 : k = 3
      · exact .inr h3
      · cases hr : isRowB k with
        | true => exact .inl rfl
        | false => exact (hg (.inl ⟨h3, hr⟩)).elim
    refine ⟨Nat × List Int, fun t => [(0, lookS (syms s.1) (sobjs s.2) vars mb), (5, .box 5 0), (36, syms l), (37, I l.length), (38, I t.1)], fun t => [(5, sobjC ((k, nm), l, inn)), (9999, sideB (metSide mb t.2))],
      fun t => t.1 ≤ l.length ∧ slotsB vars s.2.length k t.2 (l.drop t.1) = slotsB vars s.2.length k L l ∧ t.2.length ≤ L.length + t.1, fun t => l.length - t.1,
      ⟨(0, L), ⟨Nat.zero_le _, rfl, Nat.le_refl _⟩, ⟨⟨rfl, rfl⟩, .refl _, .refl _, .refl _, .refl _, .refl _, ⟨.refl _, trivial⟩, ⟨.refl _, .refl _, .refl _, .refl _, trivial⟩, trivial⟩⟩, fun ((j, Lj) : Nat × List Int) hi => ?_⟩
    obtain ⟨hj, hR, hL⟩ := hi
    have hj : j ≤ l.length := hj
    have hL : Lj.length ≤ L.length + j := hL
    have hwj : IntKind.i64.wrap ((j : Int) + 1) = ((j + 1 : Nat) : Int) := by rw [wrap_eq _ (by omega) (by omega)]; omega
    have hR : slotsB vars s.2.length k Lj (l.drop j) = objB vars s.2.length L i ((k, nm), l, inn) := hR.trans hgood.symm
    have fin : ∀ (b : Bool) (M : List Int) (x : SV), objB vars s.2.length L i ((k, nm), l, inn) = (b, M) → Sub x (.val (.bool b)) → ∃ u : Unit, Sub x (objX.res ⟨s, vars, mb, L, i, (k, nm), l, inn⟩ u) ∧ scal (objX.res ⟨s, vars, mb, L, i, (k, nm), l, inn⟩ u) = true ∧ some (sideB (metSide mb M)) = some (sideB (objX.post ⟨s, vars, mb, L, i, (k, nm), l, inn⟩ u)) := fun b M x h hx =>
      ⟨(), (by show Sub x (.val (.bool (objB vars s.2.length L i ((k, nm), l, inn)).1)); rw [h]; exact hx), rfl, by show _ = some (sideB (metSide mb (objB vars s.2.length L i ((k, nm), l, inn)).2)); rw [h]⟩
    refine ⟨fun h => ?_, fun h => ?_⟩
    · have hlt : j < l.length := dec_lt h
      rw [slots_step hlt] at hR
      have hin := getD_in l sym0 j hlt
      have hb := symB_len vars s.2.length Lj (l.getD j sym0)
      refine ⟨⟨by omega, by dsimp only; omega⟩, ?_⟩
      refine ⟨⟨s, vars, mb, Lj, l.getD j sym0⟩, ⟨.refl _, .agg4 (.refl _) (.refl _) (.refl _) (.refl _), trivial⟩, rfl, ⟨hd1 _ hin, by show Lj.length < _; omega⟩, rfl, fun _ => ?_⟩
      refine ⟨?_, ?_⟩
      · skip
        intro h -- (!(symB { b := s, vars := vars, mb := mb, L := Lj, y := l.getD j sym0 }.vars ↑((fun s => s.snd.length) { b := s, vars := vars, mb := mb, L := Lj, y := l.getD j 
        dsimp only at h
        exact fin false _ _ (by rw [← hR, if_neg (by simp_all)]) .ff
      · skip
        intro h -- (!(symB { b := s, vars := vars, mb := mb, L := Lj, y := l.getD j sym0 }.vars ↑((fun s => s.snd.length) { b := s, vars := vars, mb := mb, L := Lj, y := l.getD j 
        dsimp only at h
        refine ⟨(k, nm), ⟨.agg2 (.refl _) (.refl _), trivial⟩, rfl, trivial, ?_⟩
        refine ⟨?_, ?_⟩
        · skip
          intro h -- isRowB (k, nm).fst = true
          dsimp only at h
          refine ⟨?_, ?_⟩
          · skip
            intro h -- (!((l.getD (↑(j, Lj).fst).toNat sym0).fst == 1) == (((k, nm), l, inn).fst.fst == 4)) = true
            dsimp only at h
            exact fin false _ _ (by rw [← hR, if_neg (by simp_all)]) .ff
          · skip
            intro h -- (!((l.getD (↑(j, Lj).fst).toNat sym0).fst == 1) == (((k, nm), l, inn).fst.fst == 4)) = false
            dsimp only at h
            exact ⟨(j + 1, (symB vars s.2.length Lj (l.getD j sym0)).2), ⟨hlt, (by rw [← hgood, ← hR, if_pos (by simp_all)]), (by show (symB vars s.2.length Lj (l.getD j sym0)).2.length ≤ L.length + (j + 1); omega)⟩, (by show l.length - (j + 1) < l.length - j; omega), ⟨rfl, rfl⟩, .refl _, .refl _, .refl _, .refl _, .int hwj, ⟨.refl _, trivial⟩, ⟨.refl _, .refl _, .refl _, .refl _, trivial⟩, trivial⟩
        · skip
          intro h -- isRowB (k, nm).fst = false
          dsimp only at h
          exact ⟨(j + 1, (symB vars s.2.length Lj (l.getD j sym0)).2), ⟨hlt, (by rw [← hgood, ← hR, if_pos (by simp_all)]), (by show (symB vars s.2.length Lj (l.getD j sym0)).2.length ≤ L.length + (j + 1); omega)⟩, (by show l.length - (j + 1) < l.length - j; omega), ⟨rfl, rfl⟩, .refl _, .refl _, .refl _, .refl _, .int hwj, ⟨.refl _, trivial⟩, ⟨.refl _, .refl _, .refl _, .refl _, trivial⟩, trivial⟩
    · have hge : ¬ j < l.length := dec_ge h
      rw [List.drop_eq_nil_of_le (by omega)] at hR
      exact fin true Lj _ hR.symm (.tt)
end Go.Proofs.Yteccinlmblijfaa.Ax
/- Layer open: Check. -/
set_option linter.unusedVariables false
set_option linter.unusedSimpArgs false
namespace Go.Proofs.Yteccinlmblijfaa.Ax
open Go Go.RowKit
theorem op_makeMap {o : Oper} (ho : o.op = .makeMap 68 none) (ρ : Operand → SV) : OpOk Try.prog o ρ .emp Nat (fun mb => metSide mb []) (fun mb => .val (.map (some mb))) := by
  intro H β T a w Q next hg hx hs hd hk
  unfold Oper.wp execOp
  simp only [ho, run_makeMap, Result.andThen]
  refine hk w.heap.size _ _ ⟨rfl, rfl, rfl, by simp, fun k hk _ => Below.heap_alloc _ _ _ hk, fun k hk => shape_eq (Below.heap_alloc _ _ _ hk), met_made w, fun k hk => .inr (Nat.le_of_eq hk.symm)⟩ (.val _)
def chkX : CtrX := { A := InT × Int, O := Option (Nat × List Int), enc := fun x => [sinS x.1, I x.2], pre := fun _ => .emp, dom := fun x => sinD x.1, res := fun x _ => I (chkF x.1 x.2), post := fun _ u => match u with | none => .emp | some p => metSide p.1 p.2 }
def chkC : Ctr := { A := InT × Int, enc := fun x => [sinS x.1, I x.2], dom := fun x => sinD x.1, res := fun x _ => I (chkF x.1 x.2) }
theorem slotsB_len (vars nh k : Int) : ∀ (l : List SymT) (L : List Int), (slotsB vars nh k L l).2.length ≤ L.length + l.length
  | [], L => by simp [slotsB]
  | y :: r, L => by
    have h1 := symB_len vars nh L y
    have h2 := slotsB_len vars nh k r (symB vars nh L y).2
    unfold slotsB
    simp only [List.length_cons]
    split
    · omega
    · show (symB vars nh L y).2.length ≤ _; omega
theorem objB_len (vars nh : Int) (L : List Int) (i : Int) (o : ObjT) : (objB vars nh L i o).2.length ≤ L.length + 64 := by
  unfold objB
  split
  · simp
  · rename_i h
    have h1 := slotsB_len vars nh o.1.1 o.2.1 L
    have h2 : ¬ mostI o.1.1 < (o.2.1.length : Int) := fun c => h (.inr (.inr c))
    unfold mostI at h2
    split at h2 <;> omega
set_option maxRecDepth 100000 in
set_option maxHeartbeats 4000000 in
theorem chkX_ok : CtrXSound Try.prog 11 chkX :=
  ctrX_of_ax mixed chkX Try.func11 (by kernel_rfl) rfl (fun _ _ => Nat.le_of_ble_eq_true rfl) fun ((s, vars) : InT × Int) hd => by
    have hd : sinD s := hd
    refine ⟨_, ⟨env_okX tys_ok (eqs := []) trivial (cs := []) trivial (bs := []) trivial (xs := [(27, symX (fun s : InT => syms s.1) (fun s => sobjs s.2) (fun s => s.2.length)), (28, objX)]) ⟨symI_ok, objX_ok, trivial⟩ (sd := [30, 42, 56]), fun _ h => h⟩, ?_⟩
    have bad : chkB s vars = false → chkF s vars = 1 := fun h => by unfold chkF; rw [h]; rfl
    have good : chkB s vars = true → chkF s vars = 0 := fun h => by unfold chkF; rw [h]; rfl
    have out : ¬ (0 ≤ vars ∧ vars ≤ 40 ∧ s.1.length ≤ 4 ∧ s.2.length ≤ 3) → ∃ u, Sub (I 1) (chkX.res (s, vars) u) ∧ scal (chkX.res (s, vars) u) = true ∧ some (sideB .emp) = some (sideB (chkX.post (s, vars) u)) := fun h =>
      ⟨none, .int (by rw [bad (by unfold chkB; rw [decide_eq_false h]; rfl)]), rfl, rfl⟩
    refine ⟨fun h1 => out (by have := of_decide_eq_true h1; omega), fun h1 => ⟨fun h2 => out (by have := of_decide_eq_true h2; omega), fun h2 => ⟨fun h3 => out (by have := of_decide_eq_true h3; dsimp only at this; omega), fun h3 => ⟨fun h4 => out (by have := of_decide_eq_true h4; dsimp only at this; omega), fun h4 => ?_⟩⟩⟩⟩
    refine ⟨.emp, Nat, fun mb => metSide mb [], fun mb => .val (.map (some mb)), rfl, op_makeMap rfl _, fun mb => ?_⟩
    -- the arguments
    have hv : 0 ≤ vars ∧ vars ≤ 40 ∧ s.1.length ≤ 4 ∧ s.2.length ≤ 3 := by
      have := of_decide_eq_false h1
      have := of_decide_eq_false h2
      have := of_decide_eq_false h3
      have := of_decide_eq_false h4
      dsimp only at *
      omega
    have chk : chkB s vars = ((symsB vars s.2.length [] s.1).1 && objsB vars s.2.length (symsB vars s.2.length [] s.1).2 0 s.2) := by unfold chkB; rw [decide_eq_true hv]; rfl
    have fin : ∀ (n : Int) (L : List Int), chkF s vars = n → ∃ u, Sub (I n) (chkX.res (s, vars) u) ∧ scal (chkX.res (s, vars) u) = true ∧ some (sideB (metSide mb L)) = some (sideB (chkX.post (s, vars) u)) := fun n L h => ⟨some (mb, L), .int h.symm, rfl, rfl⟩
    refine ⟨Nat × List Int, fun t => [(2, .box 2 0), (5, .box 32 0), (34, syms s.1), (35, I s.1.length), (36, I t.1)], fun t => [(2, sinC s), (32, [syms s.1, sobjs s.2, I vars, .val (.map (some mb))]), (9999, sideB (metSide mb t.2))],
      fun t => t.1 ≤ s.1.length ∧ symsB vars s.2.length t.2 (s.1.drop t.1) = symsB vars s.2.length [] s.1 ∧ t.2.length ≤ t.1, fun t => s.1.length - t.1,
      ⟨(0, []), ⟨Nat.zero_le _, rfl, Nat.le_refl _⟩, ⟨⟨rfl, rfl⟩, .refl _, .refl _, .refl _, .refl _, .refl _, ⟨.refl _, trivial⟩, ⟨.refl _, .refl _, trivial⟩, ⟨.refl _, .refl _, .refl _, .refl _, trivial⟩, trivial⟩⟩, fun ((j, L) : Nat × List Int) hi => ?_⟩
    obtain ⟨hj, hR, hL⟩ := hi
    have hj : j ≤ s.1.length := hj
    have hL : L.length ≤ j := hL
    have hR : symsB vars s.2.length L (s.1.drop j) = symsB vars s.2.length [] s.1 := hR
    have hwj : IntKind.i64.wrap ((j : Int) + 1) = ((j + 1 : Nat) : Int) := by rw [wrap_eq _ (by omega) (by omega)]; omega
    refine ⟨fun h => ?_, fun h => ?_⟩
    · have hlt : j < s.1.length := dec_lt h
      rw [drop_at sym0 s.1 j hlt, symsB] at hR
      have hin := getD_in s.1 sym0 j hlt
      have hb := symB_len vars s.2.length L (s.1.getD j sym0)
      refine ⟨⟨by omega, by dsimp only; omega⟩, ?_⟩
      refine ⟨⟨s, vars, mb, L, s.1.getD j sym0⟩, ⟨.refl _, .agg4 (.refl _) (.refl _) (.refl _) (.refl _), trivial⟩, rfl, ⟨hd.1 _ hin, by show L.length < _; omega⟩, rfl, fun _ => ?_⟩
      refine ⟨?_, ?_⟩
      · skip
        intro h -- (!(symB { b := s, vars := vars, mb := mb, L := L, y := s.fst.getD j sym0 }.vars ↑((fun s => s.snd.length) { b := s, vars := vars, mb := mb, L := L, y := s.fst.g
        dsimp only at h
        exact fin 1 _ (bad (by rw [chk, ← hR, if_neg (by simp_all)]; rfl))
      · skip
        intro h -- (!(symB { b := s, vars := vars, mb := mb, L := L, y := s.fst.getD j sym0 }.vars ↑((fun s => s.snd.length) { b := s, vars := vars, mb := mb, L := L, y := s.fst.g
        dsimp only at h
        exact ⟨(j + 1, (symB vars s.2.length L (s.1.getD j sym0)).2), ⟨hlt, (by rw [← hR, if_pos (by simp_all)]), (by show (symB vars s.2.length L (s.1.getD j sym0)).2.length ≤ j + 1; omega)⟩, (by show s.1.length - (j + 1) < s.1.length - j; omega), ⟨rfl, rfl⟩, .refl _, .refl _, .refl _, .int hwj, .refl _, ⟨.refl _, trivial⟩, ⟨.refl _, .refl _, trivial⟩, ⟨.refl _, .refl _, .refl _, .refl _, trivial⟩, trivial⟩
    -- the objects
    have hge : ¬ j < s.1.length := dec_ge h
    rw [List.drop_eq_nil_of_le (by omega), symsB] at hR
    have chk : chkB s vars = objsB vars s.2.length L 0 s.2 := by rw [chk, ← hR]; rfl
    refine ⟨Nat × List Int, fun t => [(5, .box 32 0), (46, sobjs s.2), (47, I s.2.length), (48, I t.1)], fun t => [(32, [syms s.1, sobjs s.2, I vars, .val (.map (some mb))]), (9999, sideB (metSide mb t.2))],
      fun t => t.1 ≤ s.2.length ∧ objsB vars s.2.length t.2 t.1 (s.2.drop t.1) = objsB vars s.2.length L 0 s.2 ∧ t.2.length ≤ 4 + 64 * t.1, fun t => s.2.length - t.1,
      ⟨(0, L), ⟨Nat.zero_le _, rfl, by show L.length ≤ 4 + 64 * 0; omega⟩, ⟨⟨rfl, rfl⟩, .refl _, .refl _, .refl _, .refl _, ⟨.refl _, trivial⟩, ⟨.refl _, .refl _, .refl _, .refl _, trivial⟩, trivial⟩⟩, fun ((i, L') : Nat × List Int) hi => ?_⟩
    obtain ⟨hi, hR', hL'⟩ := hi
    have hi : i ≤ s.2.length := hi
    have hL' : L'.length ≤ 4 + 64 * i := hL'
    have hR' : objsB vars s.2.length L' i (s.2.drop i) = objsB vars s.2.length L 0 s.2 := hR'
    have hwi : IntKind.i64.wrap ((i : Int) + 1) = ((i + 1 : Nat) : Int) := by rw [wrap_eq _ (by omega) (by omega)]; omega
    refine ⟨fun h => ?_, fun h => ?_⟩
    · have hlt : i < s.2.length := dec_lt h
      rw [drop_at sobj0 s.2 i hlt, objsB] at hR'
      have hin := getD_in s.2 sobj0 i hlt
      have hb := objB_len vars s.2.length L' i (s.2.getD i sobj0)
      refine ⟨⟨by omega, by dsimp only; omega⟩, ?_⟩
      refine ⟨⟨s, vars, mb, L', (i : Int), s.2.getD i sobj0⟩, ⟨.refl _, .refl _, .agg4 (.refl _) (.refl _) (.refl _) (.refl _), trivial⟩, rfl, ⟨hd.2.2 _ hin, by show L'.length < _; omega⟩, rfl, fun _ => ?_⟩
      refine ⟨?_, ?_⟩
      · skip
        intro h -- (!(objB { s := s, vars := vars, mb := mb, L := L', i := ↑i, o := s.snd.getD i sobj0 }.vars ↑{ s := s, vars := vars, mb := mb, L := L', i := ↑i, o := s.snd.getD 
        dsimp only at h
        exact fin 1 _ (bad (by rw [chk, ← hR', Bool.and_eq_false_iff]; exact .inl (by simp_all)))
      · skip
        intro h -- (!(objB { s := s, vars := vars, mb := mb, L := L', i := ↑i, o := s.snd.getD i sobj0 }.vars ↑{ s := s, vars := vars, mb := mb, L := L', i := ↑i, o := s.snd.getD 
        dsimp only at h
        exact ⟨(i + 1, (objB vars s.2.length L' i (s.2.getD i sobj0)).2), ⟨hlt, (by rw [← hR']; simp_all), (by show (objB vars s.2.length L' i (s.2.getD i sobj0)).2.length ≤ 4 + 64 * (i + 1); omega)⟩, (by show s.2.length - (i + 1) < s.2.length - i; omega), ⟨rfl, rfl⟩, .refl _, .refl _, .int hwi, .refl _, ⟨.refl _, trivial⟩, ⟨.refl _, .refl _, .refl _, .refl _, trivial⟩, trivial⟩
    · have hge' : ¬ i < s.2.length := dec_ge h
      rw [List.drop_eq_nil_of_le (by omega), objsB] at hR'
      exact fin 0 _ (good (by rw [chk, ← hR']))
theorem chk_ok : CtrSound Try.prog 11 chkC :=
  ctr_of_ctrX chkX chkX_ok chkC (fun x => x) (fun _ _ => rfl) (fun _ h => h) (fun _ h => h) (fun _ => rfl) fun x u v w id hd hv _ => ⟨fun _ _ => none, fun _ _ _ e => (by cases e), hv⟩
end Go.Proofs.Yteccinlmblijfaa.Ax
/- Layer open: Set. -/
set_option linter.unusedVariables false
set_option linter.unusedSimpArgs false
namespace Go.Proofs.Yteccinlmblijfaa.Ax
open Go Go.RowKit
structure SymK where
  F : Side
  aa : Option Addr
  na : Nat
  ca : Nat
  ah : Option Addr
  nh : Nat
  ch : Nat
  vars : Int
  mb : Nat
  y : SymT
def symK : CtrX := { A := SymK, O := Unit, enc := fun x => [.elt Unit 4 (fun _ => [.val (.slice x.aa x.na x.ca), .val (.slice x.ah x.nh x.ch), I x.vars, .val (.map (some x.mb))]) () [()] 0 0, symS x.y], pre := fun x => x.F, dom := fun x => x.y.1 ≠ 1 ∧ ∀ w, x.F.holds w → okSl x.aa x.na x.ca ∧ okSl x.ah x.nh x.ch, res := fun x _ => B (symN x.y.1 x.y.2.1.1 x.y.2.2 x.y.2.1.2.length x.nh), post := fun x _ => x.F }
theorem symK_ok : CtrXSound Try.prog 27 symK := by
  refine ⟨symN_ok.1, fun x H w vs hd hs hgl hn hg hm hdis => ?_⟩
  obtain ⟨F, aa, na, ca, ah, nh, ch, vars, mb, y⟩ := x
  have hm : F.holds w := hm
  have hd1 : y.1 ≠ 1 := hd.1
  obtain ⟨s0, s1⟩ := hd.2 w hm
  have s0 : okSl aa na ca := s0
  have s1 : okSl ah nh ch := s1
  have g0 := hg 0 (by show 0 < 2; omega)
  have g1 := hg 1 (by show 1 < 2; omega)
  have hn : vs.size = 2 := hn
  refine (symN_ok.2 ((y.1, y.2.1.1, y.2.2, y.2.1.2.length), (na, nh, vars, mb)) H w vs 0 hd1 hs (fun _ _ _ => trivial) hn (fun j hj => ?_)).mono ?_
  · have hj : j < 2 := hj
    match j, hj with
    | 0, _ =>
      have g0 : G H noB noT (.elt Unit 4 (fun _ => [.val (.slice aa na ca), .val (.slice ah nh ch), I vars, .val (.map (some mb))]) () [()] 0 0) (vs.getD 0 undef) := g0
      generalize vs.getD 0 undef = v at g0 ⊢
      cases g0 with
      | elt _ _ _ _ _ _ _ b off us hz hH hG =>
        refine .elt Unit 4 _ () [()] 0 0 b off us hz hH (fun j hj => ?_)
        have q := hG j hj
        match j, hj with
        | 0, _ => have q : us 0 = .slice aa na ca := gval' q; rw [q]; exact lenS_G s0
        | 1, _ => have q : us 1 = .slice ah nh ch := gval' q; rw [q]; exact lenS_G s1
        | 2, _ => exact q
        | 3, _ => exact q
    | 1, _ =>
      have g1 : G H noB noT (symS y) (vs.getD 1 undef) := g1
      generalize vs.getD 1 undef = v at g1 ⊢
      cases g1 with
      | agg _ us hn hh =>
      refine .agg _ us hn fun j hj => ?_
      have hj : j < 4 := hj
      have q := hh j hj
      match j, hj with
      | 0, _ => exact q
      | 1, _ => exact q
      | 2, _ =>
        have q : G H noB noT (monos y.2.1.2) (us.getD 2 undef) := q
        obtain ⟨a, c, q1, q2, -⟩ := mono_sl q
        rw [q1]; exact lenS_G q2
      | 3, _ => exact q
  · rintro e w' ⟨v, H', T', rfl, hb, -, -, -, -, hg, -⟩
    have hg : v = .bool _ := gval' hg
    subst hg
    exact ⟨_, (), rfl, ⟨hb.os, hb.tape, hb.output, hb.size, fun k hk _ => hb.block k hk, fun k hk => shape_eq (hb.block k hk), F.loc w w' (fun k hk => hb.block k (F.inw w hm k hk)) hm, fun k hk => .inl hk⟩, .val _⟩
theorem op_makeMapX {o : Oper} (ho : o.op = .makeMap 68 none) (ρ : Operand → SV) (X : Side) : OpOk Try.prog o ρ X Nat (fun _ => X) (fun mb => .val (.map (some mb))) := by
  intro H β T a w Q next hg hx hs hd hk
  unfold Oper.wp execOp
  simp only [ho, run_makeMap, Result.andThen]
  exact hk w.heap.size _ _ ⟨rfl, rfl, rfl, by simp, fun k hk _ => Below.heap_alloc _ _ _ hk, fun k hk => shape_eq (Below.heap_alloc _ _ _ hk), X.loc w _ (fun k hk => Below.heap_alloc _ _ _ (X.inw w hx k hk)) hx, fun k hk => .inl hk⟩ (.val _)
/-- a symbolic value that may be told -/
def zSym (y : SymT) : SymT := (y.1, (0, []), y.2.2)
def setE (s : InT) (vars obj slot : Int) (y : SymT) : Int :=
  if chkF s vars ≠ 0 then chkF s vars
  else if obj < -1 ∨ (s.2.length : Int) ≤ obj ∨ slot < 0 ∨ ((slotsOf s obj).length : Int) ≤ slot ∨ ((slotsOf s obj).getD slot.toNat sym0).1 ≠ 4 then 11
  else if (y.1 ≠ 2 ∧ y.1 ≠ 3) ∨ symN y.1 y.2.1.1 y.2.2 y.2.1.2.length s.2.length = false then 1 else 0
structure SetT where
  s : InT
  vars : Int
  obj : Int
  slot : Int
  y : SymT
def setX : CtrX := { A := SetT, O := Side × InO, enc := fun x => [sinS x.s, I x.vars, I x.obj, I x.slot, symS x.y], pre := fun _ => .emp, dom := fun x => sinD x.s, res := fun x u => .tup [if setE x.s x.vars x.obj x.slot x.y = 0 then .agg [.val (.slice u.2.a.a x.s.1.length u.2.a.c), .val (.slice u.2.h.a x.s.2.length u.2.h.c)] else .agg [.val (.slice none 0 0), .val (.slice none 0 0)], I (setE x.s x.vars x.obj x.slot x.y)], post := fun x u => if setE x.s x.vars x.obj x.slot x.y = 0 then inSide (putIn x.s x.obj x.slot.toNat (zSym x.y)) (putAt x.s u.2 x.obj x.slot.toNat) else u.1 }
theorem symB_short {vars nh : Int} {L : List Int} {y : SymT} (h : (symB vars nh L y).1 = true) : y.2.1.2.length ≤ 1 := by
  unfold symB at h
  split at h
  · split at h
    · rename_i h1
      have h1 := of_decide_eq_true h1
      omega
    · cases h
  · split at h
    · rw [Bool.and_eq_true] at h
      have h1 := of_decide_eq_true h.1
      omega
    · split at h
      · rw [Bool.and_eq_true] at h
        have h1 := of_decide_eq_true h.1
        omega
      · cases h
theorem symsB_short {vars nh : Int} : ∀ {l : List SymT} {L : List Int}, (symsB vars nh L l).1 = true → ∀ y ∈ l, y.2.1.2.length ≤ 1
  | [], _, _, y, hy => by cases hy
  | x :: l, L, h, y, hy => by
    unfold symsB at h
    split at h
    · rename_i h1
      rcases List.mem_cons.1 hy with rfl | hy
      · exact symB_short h1
      · exact symsB_short h y hy
    · cases h
theorem slotsB_short {vars nh k : Int} : ∀ {l : List SymT} {L : List Int}, (slotsB vars nh k L l).1 = true → ∀ y ∈ l, y.2.1.2.length ≤ 1
  | [], _, _, y, hy => by cases hy
  | x :: l, L, h, y, hy => by
    unfold slotsB at h
    split at h
    · rename_i h1
      rw [Bool.and_eq_true] at h1
      rcases List.mem_cons.1 hy with rfl | hy
      · exact symB_short h1.1
      · exact slotsB_short h y hy
    · cases h
theorem objB_short {vars nh i : Int} {L : List Int} {o : ObjT} (h : (objB vars nh L i o).1 = true) : o.2.1.length ≤ 64 ∧ ∀ y ∈ o.2.1, y.2.1.2.length ≤ 1 := by
  unfold objB at h
  split at h
  · cases h
  · rename_i h1
    refine ⟨?_, slotsB_short h⟩
    have h2 : ¬ mostI o.1.1 < (o.2.1.length : Int) := fun c => h1 (.inr (.inr c))
    unfold mostI at h2
    split at h2 <;> omega
theorem objsB_short {vars nh : Int} : ∀ {l : List ObjT} {L : List Int} {i : Int}, objsB vars nh L i l = true → ∀ o ∈ l, o.2.1.length ≤ 64 ∧ ∀ y ∈ o.2.1, y.2.1.2.length ≤ 1
  | [], _, _, _, y, hy => by cases hy
  | x :: l, L, i, h, y, hy => by
    unfold objsB at h
    rw [Bool.and_eq_true] at h
    rcases List.mem_cons.1 hy with rfl | hy
    · exact objB_short h.1
    · exact objsB_short h.2 y hy
theorem chk_good {s : InT} {vars : Int} (h : chkF s vars = 0) : chkB s vars = true := by
  unfold chkF at h
  cases e : chkB s vars with
  | true => rfl
  | false => rw [e] at h; simp at h
theorem chk_small {s : InT} {vars : Int} (h : chkF s vars = 0) : 0 ≤ vars ∧ vars ≤ 40 ∧ s.1.length ≤ 4 ∧ s.2.length ≤ 3 := by
  have h := chk_good h
  unfold chkB at h
  rw [Bool.and_eq_true, Bool.and_eq_true] at h
  exact of_decide_eq_true h.1.1
theorem chk_tw {s : InT} {vars : Int} (h : chkF s vars = 0) : twD s := by
  have h0 := chk_small h
  have h := chk_good h
  unfold chkB at h
  rw [Bool.and_eq_true, Bool.and_eq_true] at h
  refine ⟨⟨by omega, fun y hy => ?_⟩, by omega, fun o ho => ?_⟩
  · have := symsB_short h.1.2 y hy; omega
  · have := objsB_short h.2 o ho
    exact ⟨by omega, fun y hy => by have := this.2 y hy; omega⟩
set_option maxRecDepth 100000 in
set_option maxHeartbeats 4000000 in
theorem setX_ok : CtrXSound Try.prog 14 setX :=
  ctrX_of_ax mixed setX Try.func14 (by kernel_rfl) rfl (fun _ _ => Nat.le_of_ble_eq_true rfl) fun (⟨s, vars, obj, slot, y⟩ : SetT) hd => by
    have hd : sinD s := hd
    refine ⟨_, ⟨env_okX tys_ok (eqs := []) trivial (cs := [(11, chkC)]) ⟨chk_ok, trivial⟩ (bs := []) trivial (xs := [(26, inX), (27, symK)]) ⟨inX_ok, symK_ok, trivial⟩ (sd := [23, 43, 32, 53, 63, 38, 69, 98, 39, 70, 40, 71, 87, 1300098]) (cut := [8]), fun _ h => h⟩, ?_⟩
    refine ⟨(s, vars), ⟨.agg2 (.refl _) (.refl _), .refl _, trivial⟩, rfl, hd, ?_⟩
    have e1 : chkF s vars ≠ 0 → setE s vars obj slot y = chkF s vars := fun h => if_pos h
    have fail : ∀ (X : Side) (e : Int), setE s vars obj slot y = e → e ≠ 0 → ∃ u : Side × InO, Sub (.tup [.agg [.val (.slice none 0 0), .val (.slice none 0 0)], I e]) (setX.res ⟨s, vars, obj, slot, y⟩ u) ∧ scal (setX.res ⟨s, vars, obj, slot, y⟩ u) = true ∧ some (sideB X) = some (sideB (setX.post ⟨s, vars, obj, slot, y⟩ u)) := fun X e h he => by
      refine ⟨(X, ⟨sy0, ⟨none, 0, []⟩⟩), ?_, ?_, ?_⟩
      · show Sub _ (.tup [if setE s vars obj slot y = 0 then _ else _, I (setE s vars obj slot y)])
        rw [if_neg (by rw [h]; exact he), h]; exact .refl _
      · show scal (.tup [if setE s vars obj slot y = 0 then _ else _, I (setE s vars obj slot y)]) = true
        rw [if_neg (by rw [h]; exact he)]; rfl
      · show _ = some (sideB (if setE s vars obj slot y = 0 then _ else X))
        rw [if_neg (by rw [h]; exact he)]
    refine ⟨fun h => ?_, fun h => ?_⟩
    · exact fail _ _ (e1 (by simpa using h)) (by simpa using h)
    have hc : chkF s vars = 0 := by simpa using h
    have hsm := chk_small hc
    refine ⟨s, ⟨.agg2 (.refl _) (.refl _), trivial⟩, rfl, chk_tw hc, rfl, fun (u : InO) => ?_⟩
    have hin : ∀ w, (inSide s u).holds w → (rowSide 56 4 (.slice u.h.a s.2.length u.h.c) s.2.length (flatO s.2 u.h.us)).holds w := fun w h => h.2.1.2.1
    refine ⟨Unit, fun _ => [(1, I vars), (2, I obj), (3, I slot), (5, .box 5 0), (9, .box 9 0), (10, .box 10 0), (13, .val (.slice (slotsAt s u obj).a (slotsOf s obj).length (slotsAt s u obj).c))],
      fun _ => [(5, [.val (.slice u.a.a s.1.length u.a.c), .val (.slice u.h.a s.2.length u.h.c)]), (9, symC y), (10, [.val (.slice none 0 0), .val (.slice none 0 0)]), (9999, sideB (inSide s u))], fun _ => True, ?_, fun _ _ => ?_⟩
    · have args : isObj s obj = false → slotsOf s obj = s.1 ∧ slotsAt s u obj = u.a := fun h => by unfold slotsOf slotsAt; rw [h]; exact ⟨rfl, rfl⟩
      refine ⟨fun ho => ?_, fun ho => ?_⟩
      · refine ⟨inSide s u, Unit, fun _ => inSide s u, fun _ => I s.2.length, rfl, (op_len (a0 := u.h.a) (n := s.2.length) (c := u.h.c) rfl (ty_at rfl) rfl rfl).still _, fun _ => ?_⟩
        refine ⟨fun h1 => ?_, fun h1 => ?_⟩
        · have ht : isObj s obj = true := decide_eq_true ⟨of_decide_eq_true ho, of_decide_eq_true h1⟩
          have hlt := of_decide_eq_true ht
          have hat : ∀ w, (inSide s u).holds w → ∃ b, u.h.a = some ⟨b, 0, none⟩ := fun w hw => row_addr (hin w hw) (by omega)
          refine ⟨inSide s u, Unit, fun _ => inSide s u, fun _ => .val (.pointer (some ⟨blkOf u.h.a, obj.toNat * 4, none⟩)), rfl, op_indexX (ui := _) rfl (ty_at (t := 27) rfl) (ty_at (t := 56) rfl) rfl rfl rfl (of_decide_eq_true ho) (by exact hlt.2) hat, fun _ => ?_⟩
          refine ⟨inSide s u, Unit, fun _ => inSide s u, fun _ => .val (.pointer (some ⟨blkOf u.h.a, obj.toNat * 4 + 2, none⟩)), rfl, (op_field rfl (ty_at rfl) rfl rfl).still _, fun _ => ?_⟩
          refine ⟨inSide s u, Unit, fun _ => inSide s u, fun _ => .val (.slice (u.h.us.getD obj.toNat sy0).a (s.2.getD obj.toNat sobj0).2.1.length (u.h.us.getD obj.toNat sy0).c), rfl, op_load rfl (ty_at rfl) rfl rfl rfl (fun w hw => ?_), fun _ => ?_⟩
          · have h3 := hin w hw
            have h4 : obj.toNat < s.2.length := by omega
            have h5 : (flatO s.2 u.h.us).length = s.2.length * 4 := h3.1
            have h6 := flatO_le s.2 u.h.us
            rw [row_at h3 (by omega) (by omega), flatO_at s.2 u.h.us obj.toNat 2 h4 (by omega) (by omega)]; rfl
          have es : slotsOf s obj = (s.2.getD obj.toNat sobj0).2.1 ∧ slotsAt s u obj = u.h.us.getD obj.toNat sy0 := by unfold slotsOf slotsAt; rw [ht]; exact ⟨rfl, rfl⟩
          exact ⟨(), trivial, ⟨rfl, rfl⟩, .refl _, .refl _, .refl _, .refl _, (by rw [es.1, es.2]; exact .refl _), .refl _, .refl _, ⟨.refl _, trivial⟩, ⟨.refl _, .refl _, trivial⟩, ⟨.refl _, .refl _, .refl _, .refl _, trivial⟩, ⟨.refl _, .refl _, trivial⟩, trivial⟩
        · have ht := args (decide_eq_false fun c => of_decide_eq_false h1 c.2)
          exact ⟨(), trivial, ⟨rfl, rfl⟩, .refl _, .refl _, .refl _, .refl _, (by rw [ht.1, ht.2]; exact .refl _), .refl _, .refl _, ⟨.refl _, trivial⟩, ⟨.refl _, .refl _, trivial⟩, ⟨.refl _, .refl _, .refl _, .refl _, trivial⟩, ⟨.refl _, .refl _, trivial⟩, trivial⟩
      · have ht := args (decide_eq_false fun c => of_decide_eq_false ho c.1)
        exact ⟨(), trivial, ⟨rfl, rfl⟩, .refl _, .refl _, .refl _, .refl _, (by rw [ht.1, ht.2]; exact .refl _), .refl _, .refl _, ⟨.refl _, trivial⟩, ⟨.refl _, .refl _, trivial⟩, ⟨.refl _, .refl _, .refl _, .refl _, trivial⟩, ⟨.refl _, .refl _, trivial⟩, trivial⟩
    · refine ⟨inSide s u, Nat, fun _ => inSide s u, fun mb => .val (.map (some mb)), rfl, op_makeMapX rfl _ _, fun mb => ?_⟩
      have hrow : ∀ w, (inSide s u).holds w → (symsSide (slotsOf s obj) (slotsOf s obj).length (slotsAt s u obj)).holds w := fun w hw => (in_open s u obj w hw).1.2.1
      have e2 : (obj < -1 ∨ (s.2.length : Int) ≤ obj ∨ slot < 0 ∨ ((slotsOf s obj).length : Int) ≤ slot ∨ ((slotsOf s obj).getD slot.toNat sym0).1 ≠ 4) → setE s vars obj slot y = 11 := fun h => by unfold setE; rw [if_neg (fun c => c hc), if_pos h]
      have e3 : ¬ (obj < -1 ∨ (s.2.length : Int) ≤ obj ∨ slot < 0 ∨ ((slotsOf s obj).length : Int) ≤ slot ∨ ((slotsOf s obj).getD slot.toNat sym0).1 ≠ 4) → setE s vars obj slot y = if (y.1 ≠ 2 ∧ y.1 ≠ 3) ∨ symN y.1 y.2.1.1 y.2.2 y.2.1.2.length s.2.length = false then 1 else 0 := fun h => by unfold setE; rw [if_neg (fun c => c hc), if_neg h]
      refine ⟨fun h1 => fail _ 11 (e2 (.inl (of_decide_eq_true h1))) (by decide), fun h1 => ?_⟩
      refine ⟨inSide s u, Unit, fun _ => inSide s u, fun _ => I s.2.length, rfl, (op_len (a0 := u.h.a) (n := s.2.length) (c := u.h.c) rfl (ty_at rfl) rfl rfl).still _, fun _ => ?_⟩
      refine ⟨fun h2 => fail _ 11 (e2 (.inr (.inl (of_decide_eq_true h2)))) (by decide), fun h2 => ?_⟩
      refine ⟨fun h3 => fail _ 11 (e2 (.inr (.inr (.inl (of_decide_eq_true h3))))) (by decide), fun h3 => ?_⟩
      refine ⟨inSide s u, Unit, fun _ => inSide s u, fun _ => I (slotsOf s obj).length, rfl, (op_len (a0 := (slotsAt s u obj).a) (n := (slotsOf s obj).length) (c := (slotsAt s u obj).c) rfl (ty_at rfl) rfl rfl).still _, fun _ => ?_⟩
      refine ⟨fun h4 => fail _ 11 (e2 (.inr (.inr (.inr (.inl (of_decide_eq_true h4)))))) (by decide), fun h4 => ?_⟩
      have h1 : ¬ obj < -1 := of_decide_eq_false h1
      have h2 : ¬ (s.2.length : Int) ≤ obj := of_decide_eq_false h2
      have h3 : ¬ slot < 0 := of_decide_eq_false h3
      have h4 : ¬ ((slotsOf s obj).length : Int) ≤ slot := of_decide_eq_false h4
      have hj : slot.toNat < (slotsOf s obj).length := by omega
      have hat : ∀ w, (inSide s u).holds w → ∃ b, (slotsAt s u obj).a = some ⟨b, 0, none⟩ := fun w hw => row_addr (hrow w hw).2.1 (by omega)
      refine ⟨inSide s u, Unit, fun _ => inSide s u, fun _ => .val (.pointer (some ⟨blkOf (slotsAt s u obj).a, slot.toNat * 4, none⟩)), rfl, op_indexX (ui := _) rfl (ty_at (t := 26) rfl) (ty_at (t := 45) rfl) rfl rfl rfl (by omega) (by omega) hat, fun _ => ?_⟩
      refine ⟨inSide s u, Unit, fun _ => inSide s u, fun _ => .val (.pointer (some ⟨blkOf (slotsAt s u obj).a, slot.toNat * 4 + 0, none⟩)), rfl, (op_field rfl (ty_at rfl) rfl rfl).still _, fun _ => ?_⟩
      refine ⟨inSide s u, Unit, fun _ => inSide s u, fun _ => I ((slotsOf s obj).getD slot.toNat sym0).1, rfl, op_load rfl (ty_at rfl) rfl rfl rfl (fun w hw => ?_), fun _ => ?_⟩
      · have q := hrow w hw
        have q1 : (slotsAt s u obj).ts.length = (slotsOf s obj).length := q.1.1.1
        rw [row_at q.2.1 (by rw [flatW_len _ _ q1]; omega) (by omega), flatW_at _ _ slot.toNat 0 q1 hj (by omega)]; rfl
      refine ⟨fun h5 => fail _ 11 (e2 (.inr (.inr (.inr (.inr (by simpa using h5)))))) (by decide), fun h5 => ?_⟩
      have h5 : ((slotsOf s obj).getD slot.toNat sym0).1 = 4 := by simpa using h5
      have e3 := e3 (by rw [h5]; omega)
      have okh : ∀ w, (inSide s u).holds w → okSl u.a.a s.1.length u.a.c ∧ okSl u.h.a s.2.length u.h.c := fun w hw => ⟨row_ok hw.1.2.1, row_ok (hin w hw)⟩
      have bad : (y.1 ≠ 2 ∧ y.1 ≠ 3) ∨ symN y.1 y.2.1.1 y.2.2 y.2.1.2.length s.2.length = false → setE s vars obj slot y = 1 := fun h => by rw [e3, if_pos h]
      have good : ¬ ((y.1 ≠ 2 ∧ y.1 ≠ 3) ∨ symN y.1 y.2.1.1 y.2.2 y.2.1.2.length s.2.length = false) → setE s vars obj slot y = 0 := fun h => by rw [e3, if_neg h]
      refine ⟨fun h6 => ⟨fun h7 => fail _ 1 (bad (.inl ⟨by simpa using h6, by simpa using h7⟩)) (by decide), fun h7 => ?_⟩, fun h6 => ?_⟩
      all_goals
        have hk : y.1 = 2 ∨ y.1 = 3 := by first | (left; simpa using h6; done) | (right; simpa using h7; done)
        refine ⟨⟨inSide s u, u.a.a, s.1.length, u.a.c, u.h.a, s.2.length, u.h.c, vars, mb, y⟩, ⟨.refl _, .agg4 (.refl _) (.refl _) (.refl _) (.refl _), trivial⟩, rfl, ⟨by show y.1 ≠ 1; omega, okh⟩, rfl, fun _ => ?_⟩
        refine ⟨fun h8 => fail _ 1 (bad (.inr (by simpa using h8))) (by decide), fun h8 => ?_⟩
        have hg := good (fun c => c.elim (fun c => by omega) fun c => by simp [c] at h8)
        refine ⟨inSide s u, Unit, fun _ => inSide s u, fun _ => .val (.pointer (some ⟨blkOf (slotsAt s u obj).a, slot.toNat * 4, none⟩)), rfl, op_indexX (ui := _) rfl (ty_at (t := 26) rfl) (ty_at (t := 45) rfl) rfl rfl rfl (by omega) (by omega) hat, fun _ => ?_⟩
        refine ⟨inSide s u, Unit, fun _ => inSide (putIn s obj slot.toNat (zSym y)) (putAt s u obj slot.toNat), fun _ => .val undef, rfl, OpOk.conseq (OpOk.frame (op_storeX (e := 45) (size := 4) (n := (slotsOf s obj).length) (c := (slotsAt s u obj).c) (xs := flatW (slotsOf s obj) (slotsAt s u obj).ts) (vs := symW (zSym y) (none, 0)) rfl (ty_at (t := 45) rfl) rfl rfl rfl ?_ ?_ (by omega)) ((restSide s u obj).star (sealSide (slotsAt s u obj).N (termsQ (slotsAt s u obj).N (slotsOf s obj) (slotsAt s u obj).ts)))) (Side.to.trans (in_open s u obj) (Side.assoc' _ _ _)) (fun _ => Side.to.trans (Side.assoc _ _ _) (Side.to.trans (Side.mono (Side.to_refl _) (sym_put hj rfl)) (in_put s u obj slot.toNat (zSym y) hj))), fun _ => ?_⟩
        · intro v hv; simp [symW] at hv; rcases hv with rfl | rfl | rfl | rfl <;> rfl
        · show slot.toNat * 4 + 4 ≤ _; omega
        refine ⟨(.emp, u), ?_, ?_, ?_⟩
        · show Sub _ (.tup [if setE s vars obj slot y = 0 then _ else _, I (setE s vars obj slot y)])
          rw [if_pos hg, hg]; exact .refl _
        · show scal (.tup [if setE s vars obj slot y = 0 then _ else _, I (setE s vars obj slot y)]) = true
          rw [if_pos hg]; rfl
        · show some (sideB (inSide (putIn s obj slot.toNat (zSym y)) (putAt s u obj slot.toNat))) = some (sideB (if setE s vars obj slot y = 0 then _ else _))
          rw [if_pos hg]
end Go.Proofs.Yteccinlmblijfaa.Ax
/- Layer open: Twin and Set as contracts whose answers are rows. -/
set_option linter.unusedVariables false
set_option linter.unusedSimpArgs false
namespace Go.Proofs.Yteccinlmblijfaa.Ax
open Go Go.RowKit
theorem ctr_of_ctrXo {P : Program} {g : Nat} (c : CtrX) (h : CtrXSound P g c) (d : Ctr) (f : d.A → c.A) (he : ∀ x, d.dom x → c.enc (f x) = d.enc x) (hd : ∀ x, d.dom x → c.dom (f x)) (hgl : ∀ w, d.gl w → c.gl w) (hp : ∀ x, c.pre (f x) = .emp)
    (hs : ∀ x u v w (id : Nat), d.dom x → G (fun _ _ => none) noB noT (c.res (f x) u) v → (c.post (f x) u).holds w → ∃ (N : HM) (T : TM), (∀ b q y, N b q = some y → (c.post (f x) u).blk b ∧ w.cell? ⟨b, q, none⟩ = some y ∧ T b q = none) ∧
      (∀ b q i, T b q = some i → (c.post (f x) u).blk b ∧ (w.cell? ⟨b, q, none⟩).isSome = true ∧ w.frozen? ⟨b, q, none⟩ = false) ∧ G N noB T (d.res x id) v) : CtrSound P g d := by
  refine ⟨h.1, fun x H w vs id hx hseal hg hn hG => ?_⟩
  refine (h.2 (f x) H w vs (hd x hx) hseal (fun w' a b => hgl w' (hg w' a b)) (by rw [he x hx]; exact hn) (fun j hj => by rw [he x hx] at hj ⊢; exact hG j hj) (by rw [hp]; trivial) (fun k hk => by rw [hp] at hk; exact hk.elim)).mono ?_
  rintro e w' ⟨v, u, rfl, hc, hv⟩
  obtain ⟨N, T, hN, hT, hr⟩ := hs x u v w' id hx hv hc.holds
  have hnb : ∀ b, (c.post (f x) u).blk b → w.heap.size ≤ b := fun b hb => by
    rcases hc.blk b hb with h1 | h1
    · rw [hp] at h1; exact h1.elim
    · exact h1
  have hnew : ∀ b q y, N b q = some y → w.heap.size ≤ b := fun b q y e => hnb b (hN b q y e).1
  have hb : Below w.heap.size w w' := ⟨hc.os, hc.tape, hc.output, hc.size, fun k hk => hc.block k hk fun hb => by rw [hp] at hb; exact hb⟩
  have hle : HLe N (newH w fun b o => if w.heap.size ≤ b then N b o else H b o) := fun b o y e => by
    unfold newH
    have := hnew b o y e
    rw [if_neg (by omega)]
    show (if w.heap.size ≤ b then N b o else H b o) = some y
    rw [if_pos this]; exact e
  refine ⟨v, fun b o => if w.heap.size ≤ b then N b o else H b o, T, rfl, hb, fun b o y e => ?_, fun b o hlt => if_neg (by omega), fun b o i e => ⟨hnb b (hT b o i e).1, (hT b o i e).2⟩, fun b o y e => ?_, ?_, fun _ => hr.mono hle (.refl _) (.refl _)⟩
  · have hlt := cell_lt (hseal b o y e)
    show (if _ then _ else _) = _
    rw [if_neg (by omega)]; exact e
  · by_cases hlt : w.heap.size ≤ b
    · have e : (if w.heap.size ≤ b then N b o else H b o) = some y := e
      rw [if_pos hlt] at e; exact (hN b o y e).2
    · have e : (if w.heap.size ≤ b then N b o else H b o) = some y := e
      rw [if_neg hlt] at e
      refine ⟨?_, ?_⟩
      · rw [hb.cell (p := ⟨b, o, none⟩) (by simpa using (by omega : b < w.heap.size))]; exact hseal b o y e
      · cases ht : T b o with
        | none => rfl
        | some i => exact (hlt (hnb b (hT b o i ht).1)).elim
  · refine hr.mono (fun b o y e => ?_) (.refl _) (.refl _)
    show (if _ then _ else _) = _
    rw [if_pos (hnew b o y e)]; exact e
theorem getD_symW (y : SymT) (t : Option Addr × Nat) (N : HM) (h : G N noB noT (monos y.2.1.2) (.slice t.1 y.2.1.2.length t.2)) : ∀ j, j < 4 → G N noB noT (at' (symC y) j .junk) ((symW y t).getD j undef) := fun j hj => by
  match j, hj with
  | 0, _ => exact .val _
  | 1, _ => exact .val _
  | 2, _ => exact h
  | 3, _ => exact .val _
theorem syms_G {l : List SymT} {u : SyO} {w : World} {N : HM} {T : TM} (h : (symsSide l l.length u).holds w) (hN : ∀ b o y, (symsSide l l.length u).blk b → w.cell? ⟨b, o, none⟩ = some y → N b o = some y) : G N noB T (syms l) (.slice u.a l.length u.c) := by
  obtain ⟨⟨hq, hS⟩, hr, hd⟩ := h
  by_cases hl : l.length = 0
  · obtain rfl : l = [] := List.eq_nil_of_length_eq_zero hl
    exact .rowE ..
  obtain ⟨b, hb⟩ := row_addr hr (by omega)
  obtain ⟨hq1, hq2⟩ := hq
  rcases row_ok hr with c | ⟨hc, -⟩
  · omega
  rw [hb]
  refine .row SymT 4 symC sym0 l b 0 u.c (fun k j => (symW (l.getD k sym0) (u.ts.getD k (none, 0))).getD j undef) hc (fun _ _ => rfl) (fun i j hi hj => ?_) (fun i j hi hj => ?_)
  · refine hN b _ _ (.inr (by rw [hb]; rfl)) ?_
    have e := row_at hr (j := i * 4 + j) (by rw [flatW_len _ _ hq1]; omega) (by omega)
    rw [flatW_at _ _ _ _ hq1 hi hj, hb] at e
    rw [Nat.zero_add]; exact e
  · exact getD_symW _ _ _ ((hq2 i hi).mono (fun b o y e => hN b o y (.inl ⟨o, y, e⟩) (hS b o y e)) (.refl _) (.refl _)) j hj
theorem obj_G {o : ObjT} {q : SyO} {w : World} {N : HM} (h : (symsSide o.2.1 o.2.1.length q).holds w) (hN : ∀ b p y, (symsSide o.2.1 o.2.1.length q).blk b → w.cell? ⟨b, p, none⟩ = some y → N b p = some y) :
    ∀ j, j < 4 → G N noB noT (at' (sobjC o) j .junk) ((objW o q).getD j undef) := fun j hj => by
  match j, hj with
  | 0, _ => exact .val _
  | 1, _ => exact .val _
  | 2, _ => exact syms_G h hN
  | 3, _ => exact .val _
theorem heap_len {l : List ObjT} {u : HpO} {w : World} (h : (heapSide l l.length u).holds w) : l.length ≤ u.us.length := by
  have h1 : (flatO l u.us).length = l.length * 4 := h.2.1.1
  have h2 := flatO_le l u.us
  omega
theorem heap_cell {l : List ObjT} {u : HpO} {w : World} (h : (heapSide l l.length u).holds w) {b : Nat} (hb : u.a = some ⟨b, 0, none⟩) {i j : Nat} (hi : i < l.length) (hj : j < 4) : w.cell? ⟨b, 0 + i * 4 + j, none⟩ = some ((objW (l.getD i sobj0) (u.us.getD i sy0)).getD j undef) := by
  have hr : (rowSide 56 4 (.slice u.a l.length u.c) l.length (flatO l u.us)).holds w := h.2.1
  have h2 := heap_len h
  have e := row_at hr (j := i * 4 + j) (by have : (flatO l u.us).length = l.length * 4 := hr.1; omega) (by omega)
  rw [flatO_at _ _ _ _ hi (by omega) hj, hb] at e
  rw [Nat.zero_add]; exact e
theorem sobjs_G {l : List ObjT} {u : HpO} {w : World} {N : HM} {T : TM} (h : (heapSide l l.length u).holds w) (hN : ∀ b o y, (heapSide l l.length u).blk b → w.cell? ⟨b, o, none⟩ = some y → N b o = some y) : G N noB T (sobjs l) (.slice u.a l.length u.c) := by
  by_cases hl : l.length = 0
  · obtain rfl : l = [] := List.eq_nil_of_length_eq_zero hl
    exact .rowE ..
  have hr : (rowSide 56 4 (.slice u.a l.length u.c) l.length (flatO l u.us)).holds w := h.2.1
  obtain ⟨b, hb⟩ := row_addr hr (by omega)
  rcases row_ok hr with c | ⟨hc, -⟩
  · omega
  have hcell := fun i j hi hj => heap_cell h hb (i := i) (j := j) hi hj
  rw [hb]
  refine .row ObjT 4 sobjC sobj0 l b 0 u.c (fun k j => (objW (l.getD k sobj0) (u.us.getD k sy0)).getD j undef) hc (fun _ _ => rfl) (fun i j hi hj => hN b _ _ (.inr (by rw [hb]; rfl)) (hcell i j hi hj)) (fun i j hi hj => ?_)
  exact obj_G (h.1.1 i hi) (fun b p y hk e => hN b p y (.inl ⟨i, hi, hk⟩) e) j hj
theorem sin_G {s : InT} {u : InO} {w : World} {N : HM} {T : TM} (h : (inSide s u).holds w) (hN : ∀ b o y, (inSide s u).blk b → w.cell? ⟨b, o, none⟩ = some y → N b o = some y) : G N noB T (sinS s) (.agg #[.slice u.a.a s.1.length u.a.c, .slice u.h.a s.2.length u.h.c]) := by
  refine .agg _ _ rfl fun j hj => ?_
  have hj : j < 2 := hj
  match j, hj with
  | 0, _ => exact syms_G h.1 (fun b o y hk e => hN b o y (.inl hk) e)
  | 1, _ => exact sobjs_G h.2.1 (fun b o y hk e => hN b o y (.inr hk) e)
/-- an input's twin: its heap may be grown -/
def twC : Ctr := { A := InT, enc := fun s => [sinS s], dom := twD, res := fun s id => .agg [syms s.1, .own ObjT 4 sobjC sobj0 s.2 id] }
open Classical in
theorem twC_ok : CtrSound Try.prog 26 twC :=
  ctr_of_ctrXo inX inX_ok twC (fun s => s) (fun _ _ => rfl) (fun _ h => h) (fun _ h => h) (fun _ => rfl) fun (s : InT) (u : InO) v w id hd hv hw => by
    have hw : (inSide s u).holds w := hw
    obtain ⟨⟨v⟩, rfl⟩ : ∃ vs : Array Value, v = .agg vs := by cases hv with | agg _ vs _ _ => exact ⟨vs, rfl⟩
    have hv' : v = [.slice u.a.a s.1.length u.a.c, .slice u.h.a s.2.length u.h.c] := by
      cases hv with
      | agg _ _ hn hh =>
        match v, hn, hh with
        | [x, y], _, hh =>
          have h0 : x = _ := gval' (hh 0 (by show 0 < 2; omega))
          have h1 : y = _ := gval' (hh 1 (by show 1 < 2; omega))
          rw [h0, h1]
    subst hv'
    let T : TM := fun b o => if u.h.a = some ⟨b, 0, none⟩ ∧ s.2.length * 4 ≤ o ∧ o < u.h.c * 4 then some id else none
    have hT : ∀ b o i, T b o = some i → u.h.a = some ⟨b, 0, none⟩ ∧ s.2.length * 4 ≤ o ∧ o < u.h.c * 4 := fun b o i e => by
      by_cases c : u.h.a = some ⟨b, 0, none⟩ ∧ s.2.length * 4 ≤ o ∧ o < u.h.c * 4
      · exact c
      · have e : (if _ then _ else _) = some i := e
        rw [if_neg c] at e; cases e
    have hT0 : ∀ b o, ¬ (u.h.a = some ⟨b, 0, none⟩ ∧ s.2.length * 4 ≤ o) → T b o = none := fun b o c => if_neg fun d => c ⟨d.1, d.2.1⟩
    let N : HM := fun b o => if (inSide s u).blk b ∧ T b o = none then w.cell? ⟨b, o, none⟩ else none
    have hN : ∀ b o y, (inSide s u).blk b → w.cell? ⟨b, o, none⟩ = some y → T b o = none → N b o = some y := fun b o y h1 h2 h3 => by
      show (if _ then _ else _) = _
      rw [if_pos ⟨h1, h3⟩]; exact h2
    refine ⟨N, T, fun b q y e => ?_, fun b q i e => ?_, ?_⟩
    · by_cases c : (inSide s u).blk b ∧ T b q = none
      · have e : (if _ then _ else _) = some y := e
        rw [if_pos c] at e; exact ⟨c.1, e, c.2⟩
      · have e : (if _ then _ else _) = some y := e
        rw [if_neg c] at e; cases e
    · obtain ⟨h1, h2, h3⟩ := hT b q i e
      have hr : w.ownsRow 0 56 4 (.slice u.h.a s.2.length u.h.c) s.2.length (flatO s.2 u.h.us) := hw.2.1.2.1
      rw [h1] at hr
      obtain ⟨cur, q1, q2, q3, q4⟩ := row_block hr
      refine ⟨.inr (.inr (by show Value.ownBlock _ = _; rw [h1]; rfl)), ?_, ?_⟩
      · rw [cell_of_blk q1]; simp; omega
      · simp [World.frozen?, q1]
    · have hoff : ∀ b, (symsSide s.1 s.1.length u.a).blk b → ∀ o, T b o = none := fun b hk o => hT0 b o fun c => hw.2.2 b hk (.inr (by show Value.ownBlock _ = _; rw [c.1]; rfl))
      have hoff2 : ∀ i, i < s.2.length → ∀ b, (slotsF s.2 u.h.us i).blk b → ∀ o, T b o = none := fun i hi b hk o => hT0 b o fun c => hw.2.1.2.2 b ⟨i, hi, hk⟩ (by show Value.ownBlock _ = _; rw [c.1]; rfl)
      refine .agg _ _ rfl fun j hj => ?_
      have hj : j < 2 := hj
      match j, hj with
      | 0, _ => exact syms_G hw.1 (fun b o y hk e => hN b o y (.inl hk) e (hoff b hk o))
      | 1, _ =>
        show G N noB T (.own ObjT 4 sobjC sobj0 s.2 id) (.slice u.h.a s.2.length u.h.c)
        have hr : w.ownsRow 0 56 4 (.slice u.h.a s.2.length u.h.c) s.2.length (flatO s.2 u.h.us) := hw.2.1.2.1
        rcases hr.2 with ⟨h1, h2⟩ | ⟨g, cap, cur, h1, -, h2, h3, -⟩
        · have hnil : s.2 = [] := List.eq_nil_of_length_eq_zero h2
          rw [h1, hnil]; exact .ownE ..
        · have ha : u.h.a = some ⟨g, 0, none⟩ := by injection h1
          have hcap : u.h.c = cap := by injection h1
          rw [ha]
          refine .own ObjT 4 sobjC sobj0 s.2 id g 0 u.h.c (fun k j => (objW (s.2.getD k sobj0) (u.h.us.getD k sy0)).getD j undef) (by omega) (fun _ _ => rfl) (fun i j hi hj => ?_) (fun i j hi hj => ?_) (fun o h5 h6 => if_pos ⟨ha, by omega, by omega⟩)
          · refine hN g _ _ (.inr (.inr (by show Value.ownBlock _ = _; rw [ha]; rfl))) (heap_cell hw.2.1 ha hi hj) (hT0 _ _ fun c => by omega)
          · exact obj_G (hw.2.1.1.1 i hi) (fun b p y hk e => hN b p y (.inr (.inl ⟨i, hi, hk⟩)) e (hoff2 i hi b hk p)) j hj
def setS (x : SetT) : InT := if setE x.s x.vars x.obj x.slot x.y = 0 then putIn x.s x.obj x.slot.toNat (zSym x.y) else ([], [])
def setC : Ctr := { A := SetT, enc := fun x => [sinS x.s, I x.vars, I x.obj, I x.slot, symS x.y], dom := fun x => sinD x.s, res := fun x _ => .tup [sinS (setS x), I (setE x.s x.vars x.obj x.slot x.y)] }
theorem put_len (s : InT) (u : InO) (obj : Int) (j : Nat) (y : SymT) : (putIn s obj j y).1.length = s.1.length ∧ (putIn s obj j y).2.length = s.2.length ∧ (putAt s u obj j).a.a = u.a.a ∧ (putAt s u obj j).a.c = u.a.c ∧ (putAt s u obj j).h.a = u.h.a ∧ (putAt s u obj j).h.c = u.h.c := by
  unfold putIn putAt
  cases isObj s obj <;> simp [putQ]
open Classical in
theorem setC_ok : CtrSound Try.prog 14 setC :=
  ctr_of_ctrX setX setX_ok setC (fun x => x) (fun _ _ => rfl) (fun _ h => h) (fun _ h => h) (fun _ => rfl) fun (x : SetT) (u : Side × InO) v w id hd hv hw => by
    have hw : (if setE x.s x.vars x.obj x.slot x.y = 0 then inSide (putIn x.s x.obj x.slot.toNat (zSym x.y)) (putAt x.s u.2 x.obj x.slot.toNat) else u.1).holds w := hw
    have hv : G (fun _ _ => none) noB noT (.tup [if setE x.s x.vars x.obj x.slot x.y = 0 then .agg [.val (.slice u.2.a.a x.s.1.length u.2.a.c), .val (.slice u.2.h.a x.s.2.length u.2.h.c)] else .agg [.val (.slice none 0 0), .val (.slice none 0 0)], I (setE x.s x.vars x.obj x.slot x.y)]) v := hv
    show ∃ N : HM, (∀ b q y, N b q = some y → (if setE x.s x.vars x.obj x.slot x.y = 0 then inSide (putIn x.s x.obj x.slot.toNat (zSym x.y)) (putAt x.s u.2 x.obj x.slot.toNat) else u.1).blk b ∧ w.cell? ⟨b, q, none⟩ = some y) ∧ G N noB noT (.tup [sinS (if setE x.s x.vars x.obj x.slot x.y = 0 then putIn x.s x.obj x.slot.toNat (zSym x.y) else ([], [])), I (setE x.s x.vars x.obj x.slot x.y)]) v
    by_cases h0 : setE x.s x.vars x.obj x.slot x.y = 0
    · rw [if_pos h0] at hw hv
      rw [if_pos h0, if_pos h0]
      have hlen := put_len x.s u.2 x.obj x.slot.toNat (zSym x.y)
      generalize putIn x.s x.obj x.slot.toNat (zSym x.y) = s' at hw hlen ⊢
      generalize putAt x.s u.2 x.obj x.slot.toNat = u' at hw hlen ⊢
      obtain ⟨l1, l2, l3, l4, l5, l6⟩ := hlen
      refine ⟨fun b q => if (inSide s' u').blk b then w.cell? ⟨b, q, none⟩ else none, fun b q y e => ?_, ?_⟩
      · have e : (if (inSide s' u').blk b then w.cell? ⟨b, q, none⟩ else none) = some y := e
        by_cases c : (inSide s' u').blk b
        · rw [if_pos c] at e; exact ⟨c, e⟩
        · rw [if_neg c] at e; cases e
      · cases hv with
        | tup _ vs hn hh =>
          refine .tup _ vs hn fun j hj => ?_
          have hj : j < 2 := hj
          match j, hj with
          | 0, _ =>
            have g := hh 0 (by show 0 < 2; omega)
            have g : G (fun _ _ => none) noB noT (.agg [.val (.slice u.2.a.a x.s.1.length u.2.a.c), .val (.slice u.2.h.a x.s.2.length u.2.h.c)]) (vs.getD 0 undef) := g
            show G _ noB noT (sinS s') (vs.getD 0 undef)
            generalize vs.getD 0 undef = v0 at g
            cases g with
            | agg _ ws hn2 hh2 =>
              obtain ⟨ws⟩ := ws
              match ws, hn2, hh2 with
              | [a, b], _, hh2 =>
                have e0 : a = _ := gval' (hh2 0 (by show 0 < 2; omega))
                have e1 : b = _ := gval' (hh2 1 (by show 1 < 2; omega))
                rw [e0, e1, ← l1, ← l2, ← l3, ← l4, ← l5, ← l6]
                exact sin_G hw (fun b o y hk e => by rw [if_pos hk]; exact e)
          | 1, _ => 
            have g : G (fun _ _ => none) noB noT (I (setE x.s x.vars x.obj x.slot x.y)) (vs.getD 1 undef) := hh 1 (by show 1 < 2; omega)
            exact g.mono (fun _ _ _ e => (by cases e)) (.refl _) (.refl _)
    · rw [if_neg h0] at hw hv
      rw [if_neg h0, if_neg h0]
      refine ⟨fun _ _ => none, fun _ _ _ e => (by cases e), ?_⟩
      cases hv with
      | tup _ vs hn hh =>
        refine .tup _ vs hn fun j hj => ?_
        have hj : j < 2 := hj
        match j, hj with
        | 0, _ =>
          have g : G (fun _ _ => none) noB noT (.agg [.val (.slice none 0 0), .val (.slice none 0 0)]) (vs.getD 0 undef) := hh 0 (by show 0 < 2; omega)
          show G _ noB noT (sinS ([], [])) (vs.getD 0 undef)
          generalize vs.getD 0 undef = v0 at g
          cases g with
          | agg _ ws hn2 hh2 =>
            refine .agg _ ws hn2 fun j hj => ?_
            have hj : j < 2 := hj
            match j, hj with
            | 0, _ =>
              have e0 : ws.getD 0 undef = _ := gval' (hh2 0 (by show 0 < 2; omega))
              rw [e0]; exact .rowE ..
            | 1, _ =>
              have e0 : ws.getD 1 undef = _ := gval' (hh2 1 (by show 1 < 2; omega))
              rw [e0]; exact .rowE ..
        | 1, _ => exact hh 1 (by show 1 < 2; omega)
end Go.Proofs.Yteccinlmblijfaa.Ax
/- Layer open: First; kinds that may not be. -/
set_option linter.unusedVariables false
set_option linter.unusedSimpArgs false
namespace Go.Proofs.Yteccinlmblijfaa.Ax
open Go Go.RowKit
def ixF {α : Type} (p : α → Bool) : List α → Nat → Int
  | [], _ => -1
  | x :: r, i => if p x then i else ixF p r (i + 1)
theorem ixF_any {α : Type} (p : α → Bool) : ∀ (l : List α) (i : Nat), decide (ixF p l i ≥ 0) = l.any p
  | [], _ => rfl
  | x :: r, i => by
    unfold ixF
    cases h : p x with
    | true => simp [h]
    | false => simpa [h] using ixF_any p r (i + 1)
abbrev TyT := Int × ByteArray
abbrev ty0 : TyT := (0, ⟨#[]⟩)
def tyC (t : TyT) : List SV := [I t.1, S t.2]
abbrev tys' (l : List TyT) : SV := .row TyT 2 tyC ty0 l
def wrong_row (l : List (Int × ByteArray)) : SV := .row (Int × ByteArray) 2 tyC ty0 l
def wrong_pred (v : Int × ByteArray) (x : Int × ByteArray) : Bool := (isRowB v.1 && ((x.1 == 2) != (v.1 == 4)))
def wrong_lit : Ctr := { A := (Int × ByteArray) × (Int × ByteArray), enc := fun x => (fun (x : Int × ByteArray) => .agg (tyC x)) x.1 :: (fun (v : Int × ByteArray) => [.elt Unit 2 (fun _ => tyC v) () [()] 0 0]) x.2, dom := fun _ => True, res := fun x _ => B (wrong_pred x.2 x.1) }
def wrong_ix : Ctr := { A := List (Int × ByteArray) × (Int × ByteArray), enc := fun x => [wrong_row x.1, .fn 22 ((fun (v : Int × ByteArray) => [.elt Unit 2 (fun _ => tyC v) () [()] 0 0]) x.2)], dom := fun x => x.1.length ≤ 4611686018427387904, res := fun x _ => I (ixF (wrong_pred x.2) x.1 0) }
theorem wrong_ix_ok (hl : CtrSound Try.prog 22 wrong_lit) : CtrSound Try.prog 36 wrong_ix :=
  ctr_of_ax (env_ok tys_ok (eqs := []) trivial (cs := [(22, wrong_lit)]) ⟨hl, trivial⟩) mixed _ Try.func36 (by kernel_rfl) rfl (fun _ _ => Nat.le_of_ble_eq_true rfl) fun ((l, v) : List (Int × ByteArray) × (Int × ByteArray)) id hd => by
    have hd : l.length ≤ 4611686018427387904 := hd
    refine ⟨Nat, fun i => [(0, wrong_row l), (1, .fn 22 ((fun (v : Int × ByteArray) => [.elt Unit 2 (fun _ => tyC v) () [()] 0 0]) v)), (7, I l.length), (8, I i)], fun _ => [], fun i => i ≤ l.length ∧ ixF (wrong_pred v) (l.drop i) i = ixF (wrong_pred v) l 0, fun i => l.length - i,
      ⟨0, ⟨Nat.zero_le _, rfl⟩, ⟨⟨rfl, rfl⟩, .refl _, .refl _, .refl _, .refl _, trivial⟩⟩, fun (i : Nat) hi => ?_⟩
    have hil := hi.1
    have hk := hi.2
    have hwj : IntKind.i64.wrap ((i : Int) + 1) = ((i + 1 : Nat) : Int) := by rw [wrap_eq _ (by omega) (by omega)]; omega
    refine ⟨fun h => ?_, fun h => ?_⟩
    · have hlt : i < l.length := by have := of_decide_eq_true h; omega
      rw [drop_at ty0 l i hlt] at hk
      refine ⟨⟨by omega, by omega⟩, ?_⟩
      refine ⟨(l.getD i ty0, v), ⟨.refl _, .refl _, trivial⟩, rfl, trivial, ?_⟩
      refine ⟨fun h => ?_, fun h => ?_⟩
      · exact ⟨.int (by rw [← hk, ixF, if_pos h]), rfl⟩
      · rw [ixF, if_neg (by simpa using h)] at hk
        exact ⟨i + 1, ⟨hlt, hk⟩, by show l.length - (i + 1) < l.length - i; omega, ⟨rfl, rfl⟩, .refl _, .refl _, .refl _, .int hwj, trivial⟩
    · have hge : i = l.length := by have := of_decide_eq_false h; omega
      subst hge
      rw [List.drop_length] at hk
      exact ⟨.int (by rw [← hk] <;> rfl), rfl⟩
def wrong_has : Ctr := { A := List (Int × ByteArray) × (Int × ByteArray), enc := fun x => [wrong_row x.1, .fn 22 ((fun (v : Int × ByteArray) => [.elt Unit 2 (fun _ => tyC v) () [()] 0 0]) x.2)], dom := fun x => x.1.length ≤ 4611686018427387904, res := fun x _ => B (x.1.any (wrong_pred x.2)) }
theorem wrong_has_ok (hl : CtrSound Try.prog 22 wrong_lit) : CtrSound Try.prog 24 wrong_has :=
  ctr_of_ax (env_ok tys_ok (eqs := []) trivial (cs := [(36, wrong_ix)]) ⟨wrong_ix_ok hl, trivial⟩) mixed _ Try.func24 (by kernel_rfl) rfl (fun _ _ => Nat.le_of_ble_eq_true rfl) fun ((l, v) : List (Int × ByteArray) × (Int × ByteArray)) id hd => by
    refine ⟨(l, v), ⟨.refl _, .refl _, trivial⟩, rfl, hd, ?_⟩
    exact ⟨.bool (by rw [← ixF_any] <;> rfl), rfl⟩

def isopen_row (l : List (SymT)) : SV := .row (SymT) 4 symC sym0 l
def isopen_pred (v : Unit) (x : SymT) : Bool := (x.1 == 4)
def isopen_lit : Ctr := { A := (SymT) × (Unit), enc := fun x => (fun (x : SymT) => .agg (symC x)) x.1 :: (fun (v : Unit) => []) x.2, dom := fun _ => True, res := fun x _ => B (isopen_pred x.2 x.1) }
def isopen_ix : Ctr := { A := List (SymT) × (Unit), enc := fun x => [isopen_row x.1, .fn 30 ((fun (v : Unit) => []) x.2)], dom := fun x => x.1.length ≤ 4611686018427387904, res := fun x _ => I (ixF (isopen_pred x.2) x.1 0) }
theorem isopen_ix_ok (hl : CtrSound Try.prog 30 isopen_lit) : CtrSound Try.prog 29 isopen_ix :=
  ctr_of_ax (env_ok tys_ok (eqs := []) trivial (cs := [(30, isopen_lit)]) ⟨hl, trivial⟩) mixed _ Try.func29 (by kernel_rfl) rfl (fun _ _ => Nat.le_of_ble_eq_true rfl) fun ((l, v) : List (SymT) × (Unit)) id hd => by
    have hd : l.length ≤ 4611686018427387904 := hd
    refine ⟨Nat, fun i => [(0, isopen_row l), (1, .fn 30 ((fun (v : Unit) => []) v)), (7, I l.length), (8, I i)], fun _ => [], fun i => i ≤ l.length ∧ ixF (isopen_pred v) (l.drop i) i = ixF (isopen_pred v) l 0, fun i => l.length - i,
      ⟨0, ⟨Nat.zero_le _, rfl⟩, ⟨⟨rfl, rfl⟩, .refl _, .refl _, .refl _, .refl _, trivial⟩⟩, fun (i : Nat) hi => ?_⟩
    have hil := hi.1
    have hk := hi.2
    have hwj : IntKind.i64.wrap ((i : Int) + 1) = ((i + 1 : Nat) : Int) := by rw [wrap_eq _ (by omega) (by omega)]; omega
    refine ⟨fun h => ?_, fun h => ?_⟩
    · have hlt : i < l.length := by have := of_decide_eq_true h; omega
      rw [drop_at sym0 l i hlt] at hk
      refine ⟨⟨by omega, by omega⟩, ?_⟩
      refine ⟨(l.getD i sym0, v), ⟨.refl _, trivial⟩, rfl, trivial, ?_⟩
      refine ⟨fun h => ?_, fun h => ?_⟩
      · exact ⟨.int (by rw [← hk, ixF, if_pos h]), rfl⟩
      · rw [ixF, if_neg (by simpa using h)] at hk
        exact ⟨i + 1, ⟨hlt, hk⟩, by show l.length - (i + 1) < l.length - i; omega, ⟨rfl, rfl⟩, .refl _, .refl _, .refl _, .int hwj, trivial⟩
    · have hge : i = l.length := by have := of_decide_eq_false h; omega
      subst hge
      rw [List.drop_length] at hk
      exact ⟨.int (by rw [← hk] <;> rfl), rfl⟩

theorem wrong_lit_ok : CtrSound Try.prog 22 wrong_lit :=
  ctr_of_ax (env_ok tys_ok (eqs := []) trivial (cs := [(23, isRowC)]) ⟨isRow_ok, trivial⟩) mixed _ Try.func22 (by kernel_rfl) rfl (fun _ _ => Nat.le_of_ble_eq_true rfl) fun ((x, v) : TyT × TyT) id hd => by
    refine ⟨(v.1, v.2), ⟨.agg2 (.refl _) (.refl _), trivial⟩, rfl, trivial, ?_⟩
    refine ⟨fun h => ?_, fun h => ?_⟩
    · have h : isRowB v.1 = true := h
      exact ⟨.bool (by show ((x.1 == 2) != (v.1 == 4)) = (isRowB v.1 && _); rw [h]; rfl), rfl⟩
    · have h : isRowB v.1 = false := h
      exact ⟨.bff (by show (isRowB v.1 && _) = false; rw [h]; rfl), rfl⟩
theorem isopen_lit_ok : CtrSound Try.prog 30 isopen_lit :=
  ctr_of_ax (env_ok tys_ok (eqs := []) trivial (cs := []) trivial) mixed _ Try.func30 (by kernel_rfl) rfl (fun _ _ => Nat.le_of_ble_eq_true rfl) fun ((m, v) : SymT × Unit) id hd => by
    exact ⟨.refl _, rfl⟩
def firstF (s : InT) : Int := ixF (fun y : SymT => y.1 == 4) s.1 0
def firstC : Ctr := { A := InT, enc := fun s => [sinS s], dom := fun s => s.1.length ≤ 4611686018427387904, res := fun s _ => I (firstF s) }
theorem first_ok : CtrSound Try.prog 15 firstC :=
  ctr_of_ax (env_ok tys_ok (eqs := []) trivial (cs := [(29, isopen_ix)]) ⟨isopen_ix_ok isopen_lit_ok, trivial⟩) mixed _ Try.func15 (by kernel_rfl) rfl (fun _ _ => Nat.le_of_ble_eq_true rfl) fun (s : InT) id hd => by
    refine ⟨(s.1, ()), ⟨.refl _, .refl _, trivial⟩, rfl, hd, ?_⟩
    exact ⟨.refl _, rfl⟩
def symI (n : Int) : SymT := (1, (0, [(n, 1)]), 0)
abbrev symO : SymT := (4, (0, []), 0)
/-- fresh symbolic values behind others; none: a type that may not be -/
def freshL : List TyT → Int → List SymT → Option (List SymT × Int)
  | [], n, out => some (out, n)
  | t :: r, n, out => if t.1 = 2 then freshL r (n + 1) (out ++ [symI n]) else if t.1 = 3 ∨ t.1 = 4 ∨ t.1 = 5 then freshL r n (out ++ [symO]) else none
def freshF (l : List TyT) (n : Int) : List SymT × Int × Bool := match freshL l n [] with
  | some p => (p.1, p.2, true)
  | none => ([], 0, false)
def freshC : Ctr := { A := List TyT × Int, enc := fun x => [tys' x.1, I x.2], dom := fun x => x.1.length ≤ 1000000 ∧ -1000000 ≤ x.2 ∧ x.2 ≤ 1000000, res := fun x _ => .tup [syms (freshF x.1 x.2).1, I (freshF x.1 x.2).2.1, B (freshF x.1 x.2).2.2] }
theorem fresh_step {l : List TyT} {i : Nat} {n : Int} {out : List SymT} (h : i < l.length) : freshL (l.drop i) n out = if (l.getD i ty0).1 = 2 then freshL (l.drop (i + 1)) (n + 1) (out ++ [symI n]) else if (l.getD i ty0).1 = 3 ∨ (l.getD i ty0).1 = 4 ∨ (l.getD i ty0).1 = 5 then freshL (l.drop (i + 1)) n (out ++ [symO]) else none := by
  rw [drop_at ty0 l i h]; rfl
inductive FrT | a | b | c
def FrT.n : FrT → Nat
  | .a => 0
  | .b => 27
  | .c => 37
structure FrS where
  i : Nat
  n : Int
  out : List SymT
  id : FrT
set_option maxRecDepth 100000 in
set_option maxHeartbeats 4000000 in
theorem fresh_ok : CtrSound Try.prog 21 freshC :=
  ctr_of_ax (env_ok tys_ok (eqs := []) trivial (cs := []) trivial) mixed _ Try.func21 (by kernel_rfl) rfl (fun _ _ => Nat.le_of_ble_eq_true rfl) fun ((l, n0) : List TyT × Int) id hd => by
    have hd : l.length ≤ 1000000 ∧ -1000000 ≤ n0 ∧ n0 ≤ 1000000 := hd
    refine ⟨FrS, fun s => [(1, I s.n), (7, .own SymT 4 symC sym0 s.out s.id.n), (10, tys' l), (11, I l.length), (12, I s.i)], fun _ => [], fun s => s.i ≤ l.length ∧ s.out.length = s.i ∧ n0 ≤ s.n ∧ s.n ≤ n0 + s.i ∧ freshL (l.drop s.i) s.n s.out = freshL l n0 [], fun s => l.length - s.i,
      ⟨⟨0, n0, [], .a⟩, ⟨Nat.zero_le _, rfl, Int.le_refl _, by dsimp only; omega, rfl⟩, ⟨⟨rfl, rfl⟩, .refl _, .nilO .., .refl _, .refl _, .refl _, trivial⟩⟩, fun (⟨i, n, out, tg⟩ : FrS) hi => ?_⟩
    cases tg
    all_goals
      obtain ⟨hi, ho, hn1, hn2, hR⟩ := hi
      have hi : i ≤ l.length := hi
      have ho : out.length = i := ho
      have hn1 : n0 ≤ n := hn1
      have hn2 : n ≤ n0 + i := hn2
      have hR : freshL (l.drop i) n out = freshL l n0 [] := hR
      have hwj : IntKind.i64.wrap ((i : Int) + 1) = ((i + 1 : Nat) : Int) := by rw [wrap_eq _ (by omega) (by omega)]; omega
      have hwn : IntKind.i64.wrap (n + 1) = n + 1 := wrap_eq _ (by omega) (by omega)
      refine ⟨fun h => ?_, fun h => ?_⟩
      · have hlt : i < l.length := dec_lt h
        refine ⟨⟨by omega, by dsimp only; omega⟩, ?_⟩
        rw [fresh_step hlt] at hR
        refine ⟨fun h2 => ?_, fun h2 => ?_⟩
        · have k2 : (l.getD i ty0).1 = 2 := by simpa using h2
          rw [if_pos k2] at hR
          refine ⟨Int × Int, monoC, (0, 0), [(n, 1)], ⟨rfl, fun _ => rfl⟩, ⟨.refl _, .refl _, trivial⟩, rfl, ?_⟩
          refine ⟨SymT, symC, sym0, [symI n], ⟨rfl, fun _ => rfl⟩, ⟨.refl _, .refl _, .own .., .refl _, trivial⟩, rfl, ?_⟩
          refine ⟨SymT, symC, sym0, out, [symI n], _, ⟨.refl _, .own ..⟩, fun _ => rfl, (by show (out.length + 1) * 48 ≤ 140737488355328; omega), ?_⟩
          exact ⟨⟨i + 1, n + 1, out ++ [symI n], .b⟩, ⟨hlt, by simp [ho], by dsimp only; omega, by dsimp only; omega, hR⟩, (by show l.length - (i + 1) < l.length - i; omega), ⟨rfl, rfl⟩, .int hwn, .refl _, .refl _, .int hwj, .refl _, trivial⟩
        · have k2 : ¬ (l.getD i ty0).1 = 2 := by simpa using h2
          rw [if_neg k2] at hR
          refine ⟨fun h3 => ⟨fun h6 => ?_, fun h6 => absurd (h3.symm.trans h6) (by decide)⟩, fun h3 => ⟨fun h4 => ⟨fun h6 => ?_, fun h6 => absurd (h4.symm.trans h6) (by decide)⟩, fun h4 => ⟨fun h5 => ?_, fun h5 => ?_⟩⟩⟩
          rotate_left 3
          · have k3 : ¬ ((l.getD i ty0).1 = 3 ∨ (l.getD i ty0).1 = 4 ∨ (l.getD i ty0).1 = 5) := by simp_all
            rw [if_neg k3] at hR
            have hF : freshF l n0 = ([], 0, false) := by unfold freshF; rw [← hR]
            exact ⟨.tup3 (by rw [hF]; exact .nil ..) (.int (by rw [hF])) (.bff (by rw [hF])), rfl⟩
          all_goals
            have k3 : (l.getD i ty0).1 = 3 ∨ (l.getD i ty0).1 = 4 ∨ (l.getD i ty0).1 = 5 := by simp_all
            rw [if_pos k3] at hR
            refine ⟨SymT, symC, sym0, [symO], ⟨rfl, fun _ => rfl⟩, ⟨.refl _, .refl _, .nil .., .refl _, trivial⟩, rfl, ?_⟩
            refine ⟨SymT, symC, sym0, out, [symO], _, ⟨.refl _, .own ..⟩, fun _ => rfl, (by show (out.length + 1) * 48 ≤ 140737488355328; omega), ?_⟩
            exact ⟨⟨i + 1, n, out ++ [symO], .c⟩, ⟨hlt, by simp [ho], by dsimp only; omega, by dsimp only; omega, hR⟩, (by show l.length - (i + 1) < l.length - i; omega), ⟨rfl, rfl⟩, .refl _, .refl _, .refl _, .int hwj, .refl _, trivial⟩
      · have hge : ¬ i < l.length := dec_ge h
        rw [List.drop_eq_nil_of_le (by omega), freshL] at hR
        have hF : freshF l n0 = (out, n, true) := by unfold freshF; rw [← hR]
        exact ⟨.tup3 (by rw [hF]; exact .own ..) (.int (by rw [hF])) (.btt (by rw [hF])), rfl⟩
end Go.Proofs.Yteccinlmblijfaa.Ax
/- Layer open: Begin, Add. -/
set_option linter.unusedVariables false
set_option linter.unusedSimpArgs false
namespace Go.Proofs.Yteccinlmblijfaa.Ax
open Go Go.RowKit
def beginF (l : List TyT) : InT × Int × Int := if 4 < l.length then (([], []), 0, 2) else if (freshF l 0).2.2 = false then (([], []), 0, 8) else (((freshF l 0).1, []), (freshF l 0).2.1, 0)
def beginC : Ctr := { A := List TyT, enc := fun l => [tys' l], dom := fun _ => True, res := fun l _ => .tup [sinS (beginF l).1, I (beginF l).2.1, I (beginF l).2.2] }
theorem begin_ok : CtrSound Try.prog 8 beginC :=
  ctr_of_ax (env_ok tys_ok (eqs := []) trivial (cs := [(21, freshC)]) ⟨fresh_ok, trivial⟩) mixed _ Try.func8 (by kernel_rfl) rfl (fun _ _ => Nat.le_of_ble_eq_true rfl) fun (l : List TyT) id _ => by
    refine ⟨fun h => ?_, fun h => ?_⟩
    · have h : 4 < l.length := by have := of_decide_eq_true h; omega
      have e : beginF l = (([], []), 0, 2) := if_pos h
      exact ⟨.tup3 (by rw [e]; exact .agg2 (.nil ..) (.nil ..)) (.int (by rw [e])) (.int (by rw [e])), rfl⟩
    · have h : ¬ 4 < l.length := by have := of_decide_eq_false h; omega
      refine ⟨(l, 0), ⟨.refl _, .refl _, trivial⟩, rfl, ⟨by show l.length ≤ 1000000; omega, by show (-1000000 : Int) ≤ 0; decide, by show (0 : Int) ≤ 1000000; decide⟩, ?_⟩
      refine ⟨fun h2 => ?_, fun h2 => ?_⟩
      · have h2 : (freshF l 0).2.2 = false := by simpa using h2
        have e : beginF l = (([], []), 0, 8) := by unfold beginF; rw [if_neg h, if_pos h2]
        exact ⟨.tup3 (by rw [e]; exact .agg2 (.nil ..) (.nil ..)) (.int (by rw [e])) (.int (by rw [e])), rfl⟩
      · have h2 : ¬ (freshF l 0).2.2 = false := by simpa using h2
        have e : beginF l = (((freshF l 0).1, []), (freshF l 0).2.1, 0) := by unfold beginF; rw [if_neg h, if_neg h2]
        exact ⟨.tup3 (by rw [e]; exact .agg2 (.refl _) (.nil ..)) (.int (by rw [e])) (.int (by rw [e])), rfl⟩
structure AddT where
  s : InT
  vars : Int
  t : TyT
  slots : List TyT
def addE (x : AddT) : Int :=
  if chkF x.s x.vars ≠ 0 then chkF x.s x.vars
  else if (x.t.1 ≠ 3 ∧ isRowB x.t.1 = false) ∨ (freshF x.slots x.vars).2.2 = false ∨ x.slots.any (wrong_pred x.t) = true then 8
  else if 3 ≤ x.s.2.length ∨ mostI x.t.1 < (x.slots.length : Int) then 2
  else if 40 < (freshF x.slots x.vars).2.1 then 12 else 0
def addF (x : AddT) : InT × Int := if addE x = 0 then ((x.s.1, x.s.2 ++ [(x.t, (freshF x.slots x.vars).1, (x.s.2.length : Int))]), (freshF x.slots x.vars).2.1) else (([], []), 0)
def addC : Ctr := { A := AddT, enc := fun x => [sinS x.s, I x.vars, .agg (tyC x.t), tys' x.slots], dom := fun x => sinD x.s ∧ x.slots.length ≤ 1000000, res := fun x _ => .tup [sinS (addF x).1, I (addF x).2, I (addE x)] }
set_option maxRecDepth 100000 in
set_option maxHeartbeats 4000000 in
theorem add_ok : CtrSound Try.prog 10 addC :=
  ctr_of_ax (env_ok tys_ok (eqs := []) trivial (cs := [(11, chkC), (21, freshC), (23, isRowC), (25, mostC), (24, wrong_has), (26, twC)]) ⟨chk_ok, fresh_ok, isRow_ok, most_ok, wrong_has_ok wrong_lit_ok, twC_ok, trivial⟩) mixed _ Try.func10 (by kernel_rfl) rfl (fun _ _ => Nat.le_of_ble_eq_true rfl) fun (⟨s, vars, t, slots⟩ : AddT) id hd => by
    obtain ⟨hd1, hd2⟩ := hd
    have hd1 : sinD s := hd1
    have hd2 : slots.length ≤ 1000000 := hd2
    have fail : ∀ (e : Int), addE ⟨s, vars, t, slots⟩ = e → e ≠ 0 → Sub (.tup [.agg [.val (.slice none 0 0), .val (.slice none 0 0)], I 0, I e]) (.tup [sinS (addF ⟨s, vars, t, slots⟩).1, I (addF ⟨s, vars, t, slots⟩).2, I (addE ⟨s, vars, t, slots⟩)]) := fun e h he => by
      have h2 : addF ⟨s, vars, t, slots⟩ = (([], []), 0) := if_neg (by rw [h]; exact he)
      rw [h2, h]; exact .tup3 (.agg2 (.nil ..) (.nil ..)) (.refl _) (.refl _)
    refine ⟨(s, vars), ⟨.agg2 (.refl _) (.refl _), .refl _, trivial⟩, rfl, hd1, ?_⟩
    refine ⟨fun h => ?_, fun h => ?_⟩
    · exact ⟨fail _ (if_pos (by simpa using h)) (by simpa using h), rfl⟩
    have hc : chkF s vars = 0 := by simpa using h
    have hsm := chk_small hc
    refine ⟨(slots, vars), ⟨.refl _, .refl _, trivial⟩, rfl, ⟨hd2, by dsimp only; omega, by dsimp only; omega⟩, ?_⟩
    have e1 : ((t.1 ≠ 3 ∧ isRowB t.1 = false) ∨ (freshF slots vars).2.2 = false ∨ slots.any (wrong_pred t) = true) → addE ⟨s, vars, t, slots⟩ = 8 := fun h => by unfold addE; rw [if_neg (fun c => c hc), if_pos h]
    have e2 : ¬ ((t.1 ≠ 3 ∧ isRowB t.1 = false) ∨ (freshF slots vars).2.2 = false ∨ slots.any (wrong_pred t) = true) → addE ⟨s, vars, t, slots⟩ = if 3 ≤ s.2.length ∨ mostI t.1 < (slots.length : Int) then 2 else if 40 < (freshF slots vars).2.1 then 12 else 0 := fun h => by unfold addE; rw [if_neg (fun c => c hc), if_neg h]
    have rest3 : (freshF slots vars).2.2 = true ∨ (freshF slots vars).2.2 = false := by cases (freshF slots vars).2.2 <;> simp
    refine ⟨fun h1 => ?_, fun h1 => ?_⟩
    · refine ⟨t, ⟨.agg2 (.refl _) (.refl _), trivial⟩, rfl, trivial, ?_⟩
      have k1 : t.1 ≠ 3 := by simpa using h1
      refine ⟨fun h2 => ⟨fail 8 (e1 (.inl ⟨k1, by simpa using h2⟩)) (by decide), rfl⟩, fun h2 => ?_⟩
      have k2 : ¬ (t.1 ≠ 3 ∧ isRowB t.1 = false) := fun c => by simp [c.2] at h2
      refine ⟨fun h3 => ⟨fail 8 (e1 (.inr (.inl (by simpa using h3)))) (by decide), rfl⟩, fun h3 => ?_⟩
      refine ⟨(slots, t), ⟨.refl _, .refl _, trivial⟩, rfl, (by show slots.length ≤ 4611686018427387904; omega), ?_⟩
      refine ⟨fun h4 => ⟨fail 8 (e1 (.inr (.inr h4))) (by decide), rfl⟩, fun h4 => ?_⟩
      have h3 : ¬ (freshF slots vars).2.2 = false := by simpa using h3
      have h4 : slots.any (wrong_pred t) = false := h4
      have e2 := e2 (fun c => c.elim k2 fun c => c.elim h3 fun c => by rw [h4] at c; cases c)
      refine ⟨fun h5 => ⟨fail 2 (by rw [e2, if_pos (.inl (by have := of_decide_eq_true h5; dsimp only at this; omega))]) (by decide), rfl⟩, fun h5 => ?_⟩
      refine ⟨t, ⟨.agg2 (.refl _) (.refl _), trivial⟩, rfl, trivial, ?_⟩
      refine ⟨fun h6 => ⟨fail 2 (by rw [e2, if_pos (.inr (of_decide_eq_true h6))]) (by decide), rfl⟩, fun h6 => ?_⟩
      have k5 : ¬ (3 ≤ s.2.length ∨ mostI t.1 < (slots.length : Int)) := fun c => c.elim (fun c => by have := of_decide_eq_false h5; dsimp only at this; omega) (of_decide_eq_false h6)
      refine ⟨fun h7 => ⟨fail 12 (by rw [e2, if_neg k5, if_pos (of_decide_eq_true h7)]) (by decide), rfl⟩, fun h7 => ?_⟩
      have hE : addE ⟨s, vars, t, slots⟩ = 0 := by rw [e2, if_neg k5, if_neg (of_decide_eq_false h7)]
      have hF : addF ⟨s, vars, t, slots⟩ = ((s.1, s.2 ++ [(t, (freshF slots vars).1, (s.2.length : Int))]), (freshF slots vars).2.1) := if_pos hE
      refine ⟨s, ⟨.agg2 (.refl _) (.refl _), trivial⟩, rfl, chk_tw hc, ?_⟩
      refine ⟨ObjT, sobjC, sobj0, [(t, (freshF slots vars).1, (s.2.length : Int))], ⟨rfl, fun _ => rfl⟩, ⟨.refl _, .refl _, .refl _, .refl _, trivial⟩, rfl, ?_⟩
      refine ⟨ObjT, sobjC, sobj0, s.2, [(t, (freshF slots vars).1, (s.2.length : Int))], _, ⟨.refl _, .own ..⟩, fun _ => rfl, (by show (s.2.length + 1) * 56 ≤ 140737488355328; omega), ?_⟩
      exact ⟨.tup3 (by rw [hF]; exact .agg2 (.refl _) (.own ..)) (.int (by rw [hF])) (.int (by rw [hE])), rfl⟩
    · have k2 : ¬ (t.1 ≠ 3 ∧ isRowB t.1 = false) := fun c => c.1 (by simpa using h1)
      refine ⟨fun h3 => ⟨fail 8 (e1 (.inr (.inl (by simpa using h3)))) (by decide), rfl⟩, fun h3 => ?_⟩
      refine ⟨(slots, t), ⟨.refl _, .refl _, trivial⟩, rfl, (by show slots.length ≤ 4611686018427387904; omega), ?_⟩
      refine ⟨fun h4 => ⟨fail 8 (e1 (.inr (.inr h4))) (by decide), rfl⟩, fun h4 => ?_⟩
      have h3 : ¬ (freshF slots vars).2.2 = false := by simpa using h3
      have h4 : slots.any (wrong_pred t) = false := h4
      have e2 := e2 (fun c => c.elim k2 fun c => c.elim h3 fun c => by rw [h4] at c; cases c)
      refine ⟨fun h5 => ⟨fail 2 (by rw [e2, if_pos (.inl (by have := of_decide_eq_true h5; dsimp only at this; omega))]) (by decide), rfl⟩, fun h5 => ?_⟩
      refine ⟨t, ⟨.agg2 (.refl _) (.refl _), trivial⟩, rfl, trivial, ?_⟩
      refine ⟨fun h6 => ⟨fail 2 (by rw [e2, if_pos (.inr (of_decide_eq_true h6))]) (by decide), rfl⟩, fun h6 => ?_⟩
      have k5 : ¬ (3 ≤ s.2.length ∨ mostI t.1 < (slots.length : Int)) := fun c => c.elim (fun c => by have := of_decide_eq_false h5; dsimp only at this; omega) (of_decide_eq_false h6)
      refine ⟨fun h7 => ⟨fail 12 (by rw [e2, if_neg k5, if_pos (of_decide_eq_true h7)]) (by decide), rfl⟩, fun h7 => ?_⟩
      have hE : addE ⟨s, vars, t, slots⟩ = 0 := by rw [e2, if_neg k5, if_neg (of_decide_eq_false h7)]
      have hF : addF ⟨s, vars, t, slots⟩ = ((s.1, s.2 ++ [(t, (freshF slots vars).1, (s.2.length : Int))]), (freshF slots vars).2.1) := if_pos hE
      refine ⟨s, ⟨.agg2 (.refl _) (.refl _), trivial⟩, rfl, chk_tw hc, ?_⟩
      refine ⟨ObjT, sobjC, sobj0, [(t, (freshF slots vars).1, (s.2.length : Int))], ⟨rfl, fun _ => rfl⟩, ⟨.refl _, .refl _, .refl _, .refl _, trivial⟩, rfl, ?_⟩
      refine ⟨ObjT, sobjC, sobj0, s.2, [(t, (freshF slots vars).1, (s.2.length : Int))], _, ⟨.refl _, .own ..⟩, fun _ => rfl, (by show (s.2.length + 1) * 56 ≤ 140737488355328; omega), ?_⟩
      exact ⟨.tup3 (by rw [hF]; exact .agg2 (.refl _) (.own ..)) (.int (by rw [hF])) (.int (by rw [hE])), rfl⟩
end Go.Proofs.Yteccinlmblijfaa.Ax
/- Layer open: what each statement wakes. -/
set_option linter.unusedVariables false
set_option linter.unusedSimpArgs false
namespace Go.Proofs.Yteccinlmblijfaa.Ax
open Go Go.RowKit
def wk1 : List TyT := [(2, ⟨#[]⟩), (3, ⟨#[65]⟩)]
def wk2 : AddT := ⟨(beginF wk1).1, (beginF wk1).2.1, (3, ⟨#[65]⟩), [(2, ⟨#[]⟩)]⟩
def wk3 : SetT := ⟨(addF wk2).1, (addF wk2).2, -1, 1, (3, (0, []), 0)⟩
theorem wk1_s : (beginF wk1).1 = ([symI 0, symO], []) := by rfl
theorem wk2_s : (addF wk2).1 = ([symI 0, symO], [((3, ⟨#[65]⟩), [symI 1], 0)]) := by rfl
theorem wk3_s : setS wk3 = ([symI 0, (3, (0, []), 0)], [((3, ⟨#[65]⟩), [symI 1], 0)]) := by rfl
theorem symD_I (n : Int) (h : inR n) : symD (symI n) := fun m hm => by
  have hm : m ∈ [(n, (1 : Int))] := hm
  simp at hm; subst hm; exact h
theorem symD_N (k n : Int) : symD (k, (0, []), n) := fun m hm => by
  have hm : m ∈ ([] : List (Int × Int)) := hm
  cases hm
theorem wk1_d : sinD (beginF wk1).1 := by
  rw [wk1_s]
  refine ⟨fun y hy => ?_, by decide, fun o ho => by cases ho⟩
  simp at hy
  rcases hy with rfl | rfl
  · exact symD_I 0 (by unfold inR; omega)
  · exact symD_N 4 0
theorem wk2_d : sinD (addF wk2).1 := by
  rw [wk2_s]
  refine ⟨fun y hy => ?_, by decide, fun o ho y hy => ?_⟩
  · simp at hy
    rcases hy with rfl | rfl
    · exact symD_I 0 (by unfold inR; omega)
    · exact symD_N 4 0
  · simp at ho; subst ho; simp at hy; subst hy; exact symD_I 1 (by unfold inR; omega)
theorem wk3_d : sinD (setS wk3) := by
  rw [wk3_s]
  refine ⟨fun y hy => ?_, by decide, fun o ho y hy => ?_⟩
  · simp at hy
    rcases hy with rfl | rfl
    · exact symD_I 0 (by unfold inR; omega)
    · exact symD_N 4 0
  · simp at ho; subst ho; simp at hy; subst hy; exact symD_I 1 (by unfold inR; omega)
def wakes17 : Ctr := { A := Unit, enc := fun _ => [], dom := fun _ => True, res := fun _ _ => .tt }
set_option maxRecDepth 100000 in
set_option maxHeartbeats 4000000 in
theorem wakes17_ok : CtrSound Try.prog 9 wakes17 :=
  ctr_of_ax (env_ok tys_ok (eqs := []) trivial (cs := [(11, chkC), (8, beginC), (10, addC), (14, setC), (15, firstC)]) ⟨chk_ok, begin_ok, add_ok, setC_ok, first_ok, trivial⟩) mixed _ Try.func9 (by kernel_rfl) rfl (fun _ _ => Nat.le_of_ble_eq_true rfl) fun x id hd => by
    skip
    refine ⟨TyT, tyC, ty0, wk1, ⟨rfl, fun _ => rfl⟩, ⟨.refl _, .refl _, .refl _, .refl _, trivial⟩, rfl, ?_⟩
    refine ⟨wk1, ⟨.own .., trivial⟩, rfl, trivial, ?_⟩
    refine ⟨TyT, tyC, ty0, [(2, ⟨#[]⟩)], ⟨rfl, fun _ => rfl⟩, ⟨.refl _, .refl _, trivial⟩, rfl, ?_⟩
    refine ⟨wk2, ⟨.agg2 (.refl _) (.refl _), .refl _, .agg2 (.refl _) (.refl _), .own .., trivial⟩, rfl, ⟨wk1_d, by decide⟩, ?_⟩
    refine ⟨wk3, ⟨.agg2 (.refl _) (.refl _), .refl _, .refl _, .refl _, .agg4 (.refl _) (.refl _) (.nil ..) (.refl _), trivial⟩, rfl, wk2_d, ?_⟩
    refine ⟨fun h => ?_, fun h => absurd h (by decide +kernel)⟩
    refine ⟨fun h => ?_, fun h => absurd h (by decide +kernel)⟩
    refine ⟨fun h => ?_, fun h => absurd h (by decide +kernel)⟩
    refine ⟨fun h => ?_, fun h => absurd h (by decide +kernel)⟩
    refine ⟨fun h => ?_, fun h => absurd h (by decide +kernel)⟩
    refine ⟨(beginF wk1).1, ⟨.agg2 (.refl _) (.refl _), trivial⟩, rfl, (by rw [wk1_s]; show 2 ≤ 4611686018427387904; omega), ?_⟩
    refine ⟨fun h => ?_, fun h => absurd h (by decide +kernel)⟩
    refine ⟨setS wk3, ⟨.agg2 (.refl _) (.refl _), trivial⟩, rfl, (by rw [wk3_s]; show 2 ≤ 4611686018427387904; omega), ?_⟩
    refine ⟨fun h => ?_, fun h => absurd h (by decide +kernel)⟩
    refine ⟨(setS wk3, 2), ⟨.agg2 (.refl _) (.refl _), .refl _, trivial⟩, rfl, wk3_d, ?_⟩
    refine ⟨fun h => ?_, fun h => absurd h (by decide +kernel)⟩
    refine ⟨(setS wk3, 1), ⟨.agg2 (.refl _) (.refl _), .refl _, trivial⟩, rfl, wk3_d, ?_⟩
    exact ⟨.toTT (by decide +kernel), rfl⟩
end Go.Proofs.Yteccinlmblijfaa.Ax
/- Layer open: OpenBegins. -/
set_option linter.unusedVariables false
set_option linter.unusedSimpArgs false
namespace Go.Proofs.Yteccinlmblijfaa.Ax
open Go Go.RowKit
theorem freshL_spec : ∀ (l : List TyT) (v : Int) (out args : List SymT) (n : Int), freshL l v out = some (args, n) →
    ∃ rest, args = out ++ rest ∧ rest.length = l.length ∧ v ≤ n ∧ n ≤ v + l.length ∧
      (0 ≤ v → ∀ (N nh : Int) (L : List Int), n ≤ N → (∀ x ∈ L, x < v) → (symsB N nh L rest).1 = true ∧ ∀ x ∈ (symsB N nh L rest).2, x < n)
  | [], v, out, args, n, h => by
    simp only [freshL, Option.some.injEq, Prod.mk.injEq] at h
    obtain ⟨rfl, rfl⟩ := h
    exact ⟨[], by simp, rfl, Int.le_refl _, by simp, fun _ N nh L _ hL => ⟨rfl, hL⟩⟩
  | t :: r, v, out, args, n, h => by
    unfold freshL at h
    by_cases h2 : t.1 = 2
    · rw [if_pos h2] at h
      obtain ⟨rest, h3, h4, h5, h6, h7⟩ := freshL_spec r _ _ _ _ h
      refine ⟨symI v :: rest, by rw [h3]; simp, by simp [h4], by omega, by simp; omega, fun hv N nh L hN hL => ?_⟩
      have h8 : symB N nh L (symI v) = (true, v :: L) := by
        have hc : L.contains v = false := by
          cases hc : L.contains v with
          | false => rfl
          | true => have := hL v (by simpa using hc); omega
        have ho : oneV (symI v) = true := by simp [oneV, symI]
        unfold symB
        rw [if_pos (show (symI v).1 = 1 from rfl), if_pos ho]
        show (decide (0 ≤ v ∧ v < N) && !L.contains v, v :: L) = _
        rw [hc, decide_eq_true ⟨hv, by omega⟩]; rfl
      unfold symsB
      rw [h8]
      exact h7 (by omega) N nh _ hN (fun x hx => by
        rcases List.mem_cons.1 hx with rfl | hx
        · omega
        · have := hL x hx; omega)
    · rw [if_neg h2] at h
      by_cases h3 : t.1 = 3 ∨ t.1 = 4 ∨ t.1 = 5
      · rw [if_pos h3] at h
        obtain ⟨rest, h3, h4, h5, h6, h7⟩ := freshL_spec r _ _ _ _ h
        refine ⟨symO :: rest, by rw [h3]; simp, by simp [h4], by omega, by simp; omega, fun hv N nh L hN hL => ?_⟩
        have h8 : symB N nh L symO = (true, L) := by rfl
        unfold symsB
        rw [h8]
        exact h7 hv N nh _ hN hL
      · rw [if_neg h3] at h; cases h
theorem symsB_good {vars nh : Int} : ∀ {l : List SymT} {L : List Int}, (symsB vars nh L l).1 = true → vars ≤ 1000000 → ∀ y ∈ l, symD y
  | [], _, _, _, y, hy => by cases hy
  | x :: l, L, h, hv, y, hy => by
    unfold symsB at h
    split at h
    · rename_i h1
      rcases List.mem_cons.1 hy with rfl | hy
      · intro m hm
        have hs := symB_short h1
        match hy2 : y.2.1.2, hs, hm with
        | [a], _, hm =>
          simp at hm; subst hm
          unfold symB at h1
          split at h1
          · split at h1
            · rw [Bool.and_eq_true] at h1
              have := of_decide_eq_true h1.1
              have hva : varOf y = m.1 := by unfold varOf; rw [hy2]; rfl
              rw [hva] at this
              unfold inR; omega
            · cases h1
          · exfalso
            have hp : plainT y = false := by simp [plainT, hy2]
            split at h1
            · rw [hp] at h1; simp at h1
            · split at h1
              · rw [hp] at h1; simp at h1
              · cases h1
        | [], _, hm => cases hm
      · exact symsB_good h hv y hy
    · cases h
inductive T2 | a | b
def T2.n : T2 → Nat
  | .a => 0
  | .b => 32
abbrev intsS (l : List Int) : SV := .row Int 1 (fun n => [I n]) 0 l
def OpenBegins : Ctr := { A := List Int, enc := fun l => [intsS l], dom := fun _ => True, res := fun _ _ => .tt }
end Go.Proofs.Yteccinlmblijfaa.Ax
/- Layer open: what is right stays right. -/
set_option linter.unusedVariables false
set_option linter.unusedSimpArgs false
namespace Go.Proofs.Yteccinlmblijfaa.Ax
open Go Go.RowKit
theorem symB_mono {vars nh vars' nh' : Int} {L : List Int} {y : SymT} (hv : vars ≤ vars') (hn : nh ≤ nh') (h : (symB vars nh L y).1 = true) : symB vars' nh' L y = symB vars nh L y := by
  unfold symB at h ⊢
  by_cases h1 : y.1 = 1
  · rw [if_pos h1] at h; rw [if_pos h1, if_pos h1]
    by_cases h2 : oneV y = true
    · rw [if_pos h2] at h; rw [if_pos h2, if_pos h2]
      rw [Bool.and_eq_true] at h
      have := of_decide_eq_true h.1
      rw [decide_eq_true this, decide_eq_true (show 0 ≤ varOf y ∧ varOf y < vars' by omega)]
    · rw [if_neg h2] at h; cases h
  · rw [if_neg h1] at h; rw [if_neg h1, if_neg h1]
    by_cases h2 : y.1 = 2 ∨ y.1 = 4
    · rw [if_pos h2, if_pos h2]
    · rw [if_neg h2] at h; rw [if_neg h2, if_neg h2]
      by_cases h3 : y.1 = 3
      · rw [if_pos h3] at h; rw [if_pos h3, if_pos h3]
        rw [Bool.and_eq_true] at h
        have := of_decide_eq_true h.2
        rw [decide_eq_true this, decide_eq_true (show 0 ≤ y.2.2 ∧ y.2.2 < nh' by omega)]
      · rw [if_neg h3] at h; cases h
theorem symB_met {vars nh : Int} {L : List Int} {y : SymT} (h : (symB vars nh L y).1 = true) (hL : ∀ x ∈ L, x < vars) : ∀ x ∈ (symB vars nh L y).2, x < vars := by
  unfold symB at h ⊢
  by_cases h1 : y.1 = 1
  · rw [if_pos h1] at h; rw [if_pos h1]
    by_cases h2 : oneV y = true
    · rw [if_pos h2] at h; rw [if_pos h2]
      rw [Bool.and_eq_true] at h
      have := of_decide_eq_true h.1
      intro x hx
      rcases List.mem_cons.1 hx with rfl | hx
      · omega
      · exact hL x hx
    · rw [if_neg h2] at h; cases h
  · rw [if_neg h1]
    by_cases h2 : y.1 = 2 ∨ y.1 = 4
    · rw [if_pos h2]; exact hL
    · rw [if_neg h2]
      by_cases h3 : y.1 = 3
      · rw [if_pos h3]; exact hL
      · rw [if_neg h3]; exact hL
theorem symsB_mono {vars nh vars' nh' : Int} (hv : vars ≤ vars') (hn : nh ≤ nh') : ∀ {l : List SymT} {L : List Int}, (symsB vars nh L l).1 = true → symsB vars' nh' L l = symsB vars nh L l
  | [], _, _ => rfl
  | y :: l, L, h => by
    unfold symsB at h ⊢
    by_cases h1 : (symB vars nh L y).1 = true
    · rw [if_pos h1] at h
      rw [symB_mono hv hn h1, if_pos h1, if_pos h1, symsB_mono hv hn h]
    · rw [if_neg h1] at h; cases h
theorem symsB_met {vars nh : Int} : ∀ {l : List SymT} {L : List Int}, (symsB vars nh L l).1 = true → (∀ x ∈ L, x < vars) → ∀ x ∈ (symsB vars nh L l).2, x < vars
  | [], _, _, hL => hL
  | y :: l, L, h, hL => by
    unfold symsB at h ⊢
    by_cases h1 : (symB vars nh L y).1 = true
    · rw [if_pos h1] at h ⊢
      exact symsB_met h (symB_met h1 hL)
    · rw [if_neg h1] at h; cases h
theorem slotsB_mono {vars nh vars' nh' k : Int} (hv : vars ≤ vars') (hn : nh ≤ nh') : ∀ {l : List SymT} {L : List Int}, (slotsB vars nh k L l).1 = true → slotsB vars' nh' k L l = slotsB vars nh k L l
  | [], _, _ => rfl
  | y :: l, L, h => by
    unfold slotsB at h ⊢
    by_cases h1 : ((symB vars nh L y).1 && !(isRowB k && ((y.1 == 1) != (k == 4)))) = true
    · rw [if_pos h1] at h
      have h2 := h1
      rw [Bool.and_eq_true] at h2
      rw [symB_mono hv hn h2.1, if_pos h1, if_pos h1, slotsB_mono hv hn h]
    · rw [if_neg h1] at h; cases h
theorem slotsB_met {vars nh k : Int} : ∀ {l : List SymT} {L : List Int}, (slotsB vars nh k L l).1 = true → (∀ x ∈ L, x < vars) → ∀ x ∈ (slotsB vars nh k L l).2, x < vars
  | [], _, _, hL => hL
  | y :: l, L, h, hL => by
    unfold slotsB at h ⊢
    by_cases h1 : ((symB vars nh L y).1 && !(isRowB k && ((y.1 == 1) != (k == 4)))) = true
    · rw [if_pos h1] at h ⊢
      have h2 := h1
      rw [Bool.and_eq_true] at h2
      exact slotsB_met h (symB_met h2.1 hL)
    · rw [if_neg h1] at h; cases h
theorem objB_mono {vars nh vars' nh' i : Int} {L : List Int} {o : ObjT} (hv : vars ≤ vars') (hn : nh ≤ nh') (h : (objB vars nh L i o).1 = true) : objB vars' nh' L i o = objB vars nh L i o := by
  unfold objB at h ⊢
  by_cases h1 : (o.1.1 ≠ 3 ∧ isRowB o.1.1 = false) ∨ o.2.2 ≠ i ∨ mostI o.1.1 < (o.2.1.length : Int)
  · rw [if_pos h1] at h; cases h
  · rw [if_neg h1] at h; rw [if_neg h1, if_neg h1]; exact slotsB_mono hv hn h
theorem objB_met {vars nh i : Int} {L : List Int} {o : ObjT} (h : (objB vars nh L i o).1 = true) (hL : ∀ x ∈ L, x < vars) : ∀ x ∈ (objB vars nh L i o).2, x < vars := by
  unfold objB at h ⊢
  by_cases h1 : (o.1.1 ≠ 3 ∧ isRowB o.1.1 = false) ∨ o.2.2 ≠ i ∨ mostI o.1.1 < (o.2.1.length : Int)
  · rw [if_pos h1] at h; cases h
  · rw [if_neg h1] at h ⊢; exact slotsB_met h hL
def metO (vars nh : Int) : List Int → Int → List ObjT → List Int
  | L, _, [] => L
  | L, i, o :: r => metO vars nh (objB vars nh L i o).2 (i + 1) r
theorem objsB_mono {vars nh vars' nh' : Int} (hv : vars ≤ vars') (hn : nh ≤ nh') : ∀ {l : List ObjT} {L : List Int} {i : Int}, objsB vars nh L i l = true → objsB vars' nh' L i l = true ∧ metO vars' nh' L i l = metO vars nh L i l
  | [], _, _, _ => ⟨rfl, rfl⟩
  | o :: l, L, i, h => by
    unfold objsB at h
    rw [Bool.and_eq_true] at h
    have e := objB_mono hv hn h.1
    have := objsB_mono hv hn h.2
    unfold objsB metO
    rw [e, h.1]
    exact ⟨by rw [this.1]; rfl, this.2⟩
theorem metO_met {vars nh : Int} : ∀ {l : List ObjT} {L : List Int} {i : Int}, objsB vars nh L i l = true → (∀ x ∈ L, x < vars) → ∀ x ∈ metO vars nh L i l, x < vars
  | [], _, _, _, hL => hL
  | o :: l, L, i, h, hL => by
    unfold objsB at h
    rw [Bool.and_eq_true] at h
    show ∀ x ∈ metO vars nh (objB vars nh L i o).2 (i + 1) l, x < vars
    exact metO_met h.2 (objB_met h.1 hL)
theorem objsB_snoc {vars nh : Int} : ∀ (l : List ObjT) (L : List Int) (i : Int) (o : ObjT), objsB vars nh L i (l ++ [o]) = (objsB vars nh L i l && (objB vars nh (metO vars nh L i l) (i + l.length) o).1)
  | [], L, i, o => by simp [objsB, metO]
  | x :: l, L, i, o => by
    simp only [List.cons_append, objsB, metO]
    rw [objsB_snoc l _ _ o, Bool.and_assoc, List.length_cons]
    rw [show i + 1 + (l.length : Int) = i + ((l.length + 1 : Nat) : Int) by omega]
theorem fresh_slots (t : TyT) : ∀ (l : List TyT) (v : Int) (out args : List SymT) (n : Int), freshL l v out = some (args, n) → 0 ≤ v → l.any (wrong_pred t) = false →
    ∃ rest, args = out ++ rest ∧ rest.length = l.length ∧ v ≤ n ∧ ∀ (N nh : Int) (L : List Int), n ≤ N → (∀ x ∈ L, x < v) → (slotsB N nh t.1 L rest).1 = true
  | [], v, out, args, n, h, _, _ => by
    simp only [freshL, Option.some.injEq, Prod.mk.injEq] at h
    obtain ⟨rfl, rfl⟩ := h
    exact ⟨[], by simp, rfl, Int.le_refl _, fun N nh L _ hL => rfl⟩
  | x :: r, v, out, args, n, h, hv, hw => by
    rw [List.any_cons, Bool.or_eq_false_iff] at hw
    have hw1 : (isRowB t.1 && ((x.1 == 2) != (t.1 == 4))) = false := hw.1
    unfold freshL at h
    by_cases h2 : x.1 = 2
    · rw [if_pos h2] at h
      obtain ⟨rest, h3, h4, h5, h7⟩ := fresh_slots t r _ _ _ _ h (by omega) hw.2
      refine ⟨symI v :: rest, by rw [h3]; simp, by simp [h4], by omega, fun N nh L hN hL => ?_⟩
      have h8 : symB N nh L (symI v) = (true, v :: L) := by
        have hc : L.contains v = false := by
          cases hc : L.contains v with
          | false => rfl
          | true => have := hL v (by simpa using hc); omega
        have ho : oneV (symI v) = true := by simp [oneV, symI]
        unfold symB
        rw [if_pos (show (symI v).1 = 1 from rfl), if_pos ho]
        show (decide (0 ≤ v ∧ v < N) && !L.contains v, v :: L) = _
        rw [hc, decide_eq_true ⟨hv, by omega⟩]; rfl
      have h9 : (isRowB t.1 && (((symI v).1 == 1) != (t.1 == 4))) = false := by
        rw [← hw1, show (x.1 == 2) = true by rw [h2]; rfl]; rfl
      unfold slotsB
      rw [h8, h9]
      exact h7 N nh _ hN (fun x hx => by
        rcases List.mem_cons.1 hx with rfl | hx
        · omega
        · have := hL x hx; omega)
    · rw [if_neg h2] at h
      by_cases h3 : x.1 = 3 ∨ x.1 = 4 ∨ x.1 = 5
      · rw [if_pos h3] at h
        obtain ⟨rest, h3, h4, h5, h7⟩ := fresh_slots t r _ _ _ _ h hv hw.2
        refine ⟨symO :: rest, by rw [h3]; simp, by simp [h4], by omega, fun N nh L hN hL => ?_⟩
        have h8 : symB N nh L symO = (true, L) := by rfl
        have h9 : (isRowB t.1 && ((symO.1 == 1) != (t.1 == 4))) = false := by
          rw [← hw1, show (x.1 == 2) = false by simpa using h2]; rfl
        unfold slotsB
        rw [h8, h9]
        exact h7 N nh _ hN hL
      · rw [if_neg h3] at h; cases h
theorem freshF_some {l : List TyT} {v : Int} (h : ¬ (freshF l v).2.2 = false) : ∃ args n, freshL l v [] = some (args, n) ∧ freshF l v = (args, n, true) := by
  unfold freshF at h ⊢
  cases e : freshL l v [] with
  | none => rw [e] at h; exact (h rfl).elim
  | some p => exact ⟨p.1, p.2, rfl, rfl⟩
theorem chk_parts {s : InT} {vars : Int} : chkF s vars = 0 ↔ (0 ≤ vars ∧ vars ≤ 40 ∧ s.1.length ≤ 4 ∧ s.2.length ≤ 3) ∧ (symsB vars s.2.length [] s.1).1 = true ∧ objsB vars s.2.length (symsB vars s.2.length [] s.1).2 0 s.2 = true := by
  constructor
  · intro h
    have h := chk_good h
    unfold chkB at h
    rw [Bool.and_eq_true, Bool.and_eq_true] at h
    exact ⟨of_decide_eq_true h.1.1, h.1.2, h.2⟩
  · rintro ⟨h1, h2, h3⟩
    unfold chkF
    have : chkB s vars = true := by unfold chkB; rw [decide_eq_true h1, h2, h3]; rfl
    rw [this]; rfl
/-- what is right stays right with an object more -/
theorem add_right {x : AddT} (h : addE x = 0) : chkF (addF x).1 (addF x).2 = 0 ∧ x.vars ≤ (addF x).2 ∧ chkF x.s x.vars = 0 := by
  obtain ⟨s, vars, t, slots⟩ := x
  have hF : addF ⟨s, vars, t, slots⟩ = ((s.1, s.2 ++ [(t, (freshF slots vars).1, (s.2.length : Int))]), (freshF slots vars).2.1) := if_pos h
  rw [hF]
  unfold addE at h
  by_cases h1 : chkF s vars ≠ 0
  · rw [if_pos h1] at h; exact (h1 h).elim
  rw [if_neg h1] at h
  have hc : chkF s vars = 0 := Classical.byContradiction h1
  by_cases h2 : (t.1 ≠ 3 ∧ isRowB t.1 = false) ∨ (freshF slots vars).2.2 = false ∨ slots.any (wrong_pred t) = true
  · rw [if_pos h2] at h; cases h
  rw [if_neg h2] at h
  by_cases h3 : 3 ≤ s.2.length ∨ mostI t.1 < (slots.length : Int)
  · rw [if_pos h3] at h; cases h
  rw [if_neg h3] at h
  by_cases h4 : 40 < (freshF slots vars).2.1
  · rw [if_pos h4] at h; cases h
  obtain ⟨args, n, e1, e2⟩ := freshF_some (fun c => h2 (.inr (.inl c)))
  have hw : slots.any (wrong_pred t) = false := by
    cases e : slots.any (wrong_pred t) with
    | false => rfl
    | true => exact (h2 (.inr (.inr e))).elim
  obtain ⟨p1, p2, p3⟩ := chk_parts.1 hc
  obtain ⟨rest, q1, q2, q3, q4⟩ := fresh_slots t _ _ _ _ _ e1 p1.1 hw
  have q1 : args = rest := by simpa using q1
  subst q1
  rw [e2] at h4 ⊢
  have h4 : ¬ 40 < n := h4
  refine ⟨chk_parts.2 ⟨⟨?_, ?_, ?_, ?_⟩, ?_, ?_⟩, q3, hc⟩
  · show 0 ≤ n; omega
  · show n ≤ 40; omega
  · exact p1.2.2.1
  · show (s.2 ++ [_]).length ≤ 3; simp; omega
  · show (symsB n ((s.2 ++ [_]).length : Nat) [] s.1).1 = true
    rw [symsB_mono q3 (by simp; omega) p2]; exact p2
  · show objsB n ((s.2 ++ [_]).length : Nat) (symsB n ((s.2 ++ [_]).length : Nat) [] s.1).2 0 (s.2 ++ [_]) = true
    rw [symsB_mono (nh := (s.2.length : Int)) q3 (by simp; omega) p2, objsB_snoc]
    have hm := objsB_mono (nh := (s.2.length : Int)) (nh' := ((s.2 ++ [(t, args, (s.2.length : Int))]).length : Nat)) q3 (by simp; omega) p3
    rw [hm.1, hm.2, Bool.true_and]
    have hmet := metO_met p3 (symsB_met p2 (fun x hx => by cases hx))
    unfold objB
    rw [if_neg]
    · exact q4 n _ _ (Int.le_refl _) hmet
    · rintro (c | c | c)
      · exact h2 (.inl c)
      · exact c (by simp)
      · exact h3 (.inr (by rw [q2] at c; exact c))
end Go.Proofs.Yteccinlmblijfaa.Ax
/- Layer open: OpenEdges. -/
set_option linter.unusedVariables false
set_option linter.unusedSimpArgs false
namespace Go.Proofs.Yteccinlmblijfaa.Ax
open Go Go.RowKit
theorem symB_good {vars nh : Int} {L : List Int} {y : SymT} (h1 : (symB vars nh L y).1 = true) (hv : vars ≤ 1000000) : symD y := by
  have h : (symsB vars nh L [y]).1 = true := by unfold symsB; rw [if_pos h1]; rfl
  exact symsB_good h hv y (by simp)
theorem slotsB_good {vars nh k : Int} : ∀ {l : List SymT} {L : List Int}, (slotsB vars nh k L l).1 = true → vars ≤ 1000000 → ∀ y ∈ l, symD y
  | [], _, _, _, y, hy => by cases hy
  | x :: l, L, h, hv, y, hy => by
    unfold slotsB at h
    split at h
    · rename_i h1
      rw [Bool.and_eq_true] at h1
      rcases List.mem_cons.1 hy with rfl | hy
      · exact symB_good h1.1 hv
      · exact slotsB_good h hv y hy
    · cases h
theorem objsB_good {vars nh : Int} : ∀ {l : List ObjT} {L : List Int} {i : Int}, objsB vars nh L i l = true → vars ≤ 1000000 → ∀ o ∈ l, ∀ y ∈ o.2.1, symD y
  | [], _, _, _, _, o, ho => by cases ho
  | x :: l, L, i, h, hv, o, ho => by
    unfold objsB at h
    rw [Bool.and_eq_true] at h
    rcases List.mem_cons.1 ho with rfl | ho
    · have h1 := h.1
      unfold objB at h1
      split at h1
      · cases h1
      · exact slotsB_good h1 hv
    · exact objsB_good h.2 hv o ho
theorem chk_sin {s : InT} {vars : Int} (h : chkF s vars = 0) : sinD s := by
  obtain ⟨p1, p2, p3⟩ := chk_parts.1 h
  exact ⟨symsB_good p2 (by omega), by omega, objsB_good p3 (by omega)⟩
def tR : TyT := (3, ⟨#[65]⟩)
inductive T3 | a | b | c
def T3.n : T3 → Nat
  | .a => 0
  | .b => 31
  | .c => 40
def OpenEdges : Ctr := { A := Int × Int, enc := fun x => [I x.1, I x.2], dom := fun _ => True, res := fun _ _ => .tt }
end Go.Proofs.Yteccinlmblijfaa.Ax
/- Layer open: values alike. -/
set_option linter.unusedVariables false
set_option linter.unusedSimpArgs false
namespace Go.Proofs.Yteccinlmblijfaa.Ax
open Go Go.RowKit
theorem ba_eq (a b : ByteArray) : (a.toList == b.toList) = decide (a = b) := by
  have h : ∀ b : ByteArray, b.toList = b.data.toList := fun b => ByteArray.toList_eq b
  rw [Bool.eq_iff_iff]
  simp only [h, beq_iff_eq, decide_eq_true_eq]
  constructor
  · intro h; exact ByteArray.ext (Array.toList_inj.1 h)
  · rintro rfl; rfl
theorem of_decide_lt {i n : Nat} (h : decide ((i : Int) < (n : Int)) = true) : i < n := by have := of_decide_eq_true h; omega
theorem of_decide_ge {i n : Nat} (h : decide ((i : Int) < (n : Int)) = false) (h2 : i ≤ n) : i = n := by have := of_decide_eq_false h; omega
theorem lneT {a b : Nat} (h : ((a : Int) != (b : Int)) = true) : a ≠ b := by simp at h; omega
theorem lneF {a b : Nat} (h : ((a : Int) != (b : Int)) = false) : a = b := by simp at h; omega
theorem mono_eq : EqSound Try.prog 50 (flatC (Int × Int) monoC) :=
  eq_flat [.int .i64, .int .i64] (Int × Int) monoC Try.underlying50 (by kernel_rfl) (by kernel_rfl) (by kernel_rfl) (fun _ => rfl)
theorem mono_eq_dec (u v : Int × Int) : cellsEq (monoC u) (monoC v) = decide (u = v) := by
  obtain ⟨a, b⟩ := u
  obtain ⟨c, d⟩ := v
  simp only [monoC, cellsEq, cellEq, Bool.and_true, Prod.mk.injEq]
  by_cases h1 : a = c <;> by_cases h2 : b = d <;> simp [h1, h2]
theorem list_ext_getD {α : Type} (d : α) {l k : List α} (hl : l.length = k.length) (h : ∀ j, j < l.length → l.getD j d = k.getD j d) : l = k := by
  apply List.ext_getElem hl
  intro i h1 h2
  have := h i h1
  simpa [List.getD, h1, h2] using this
def keep_Term : Ctr := { A := (Int × List (Int × Int)) × (Int × List (Int × Int)), enc := fun x => [termS x.1, termS x.2], dom := fun x => x.1.2.length ≤ 4611686018427387904, res := fun x _ => B (decide (x.1 = x.2)) }
set_option maxRecDepth 100000 in
set_option maxHeartbeats 4000000 in
theorem keep_Term_ok : CtrSound Try.prog 33 keep_Term :=
  ctr_of_ax (env_ok tys_ok (eqs := [(50, flatC (Int × Int) monoC)]) ⟨mono_eq, trivial⟩ (cs := []) trivial) mixed _ Try.func33 (by kernel_rfl) rfl (fun _ _ => Nat.le_of_ble_eq_true rfl) fun (((c, k), (d, l)) : (Int × List (Int × Int)) × (Int × List (Int × Int))) id hd => by
    have hd : k.length ≤ 4611686018427387904 := hd
    have no : ¬ ((c, k) = (d, l)) → Sub .ff (B (decide ((c, k) = (d, l)))) := fun h => .bff (decide_eq_false h)
    refine ⟨fun h => ?_, fun h => ⟨fun h2 => ?_, fun h2 => ?_⟩⟩
    · exact ⟨no fun q => by have q1 : c = d := congrArg Prod.fst q; have h : (c != d) = true := h; rw [q1] at h; simp at h, rfl⟩
    · exact ⟨no fun q => by have q1 : k = l := congrArg Prod.snd q; have h2 : ((k.length : Int) != (l.length : Int)) = true := h2; rw [q1] at h2; simp at h2, rfl⟩
    have hc : c = d := by have h : (c != d) = false := h; simpa using h
    have hl : k.length = l.length := by have h2 : ((k.length : Int) != (l.length : Int)) = false := h2; simp at h2; omega
    refine ⟨Nat, fun i => [(2, .box 2 0), (3, .box 3 0), (5, I i)], fun _ => [(2, [I c, monos k]), (3, [I d, monos l])], fun i => i ≤ k.length ∧ ∀ j, j < i → k.getD j (0, 0) = l.getD j (0, 0), fun i => k.length - i,
      ⟨0, ⟨Nat.zero_le _, fun j hj => by omega⟩, ⟨⟨rfl, rfl⟩, .refl _, .refl _, .refl _, ⟨.refl _, .refl _, trivial⟩, ⟨.refl _, .refl _, trivial⟩, trivial⟩⟩, fun (i : Nat) hi => ?_⟩
    have hil := hi.1
    have hwj : IntKind.i64.wrap ((i : Int) + 1) = ((i + 1 : Nat) : Int) := by rw [wrap_eq _ (by omega) (by omega)]; omega
    refine ⟨fun h => ?_, fun h => ?_⟩
    · have hlt : i < k.length := of_decide_lt h
      refine ⟨by kernel_rfl, ?_⟩
      refine ⟨⟨by omega, by omega⟩, ⟨by omega, by omega⟩, ?_⟩
      refine ⟨k.getD i (0, 0), l.getD i (0, 0), ⟨.refl _, .refl _, trivial⟩, ⟨.refl _, .refl _, trivial⟩, fun h => ?_, fun h => ?_⟩
      · have h : (!cellsEq (monoC (k.getD i (0, 0))) (monoC (l.getD i (0, 0)))) = true := h
        rw [mono_eq_dec] at h
        exact ⟨no fun q => by have q1 : k = l := congrArg Prod.snd q; rw [q1] at h; simp at h, rfl⟩
      · have h : (!cellsEq (monoC (k.getD i (0, 0))) (monoC (l.getD i (0, 0)))) = false := h
        rw [mono_eq_dec] at h
        have he : k.getD i (0, 0) = l.getD i (0, 0) := by simpa using h
        exact ⟨i + 1, ⟨hlt, fun j hj => by rcases Nat.lt_succ_iff_lt_or_eq.1 hj with q | rfl; exact hi.2 j q; exact he⟩, by show k.length - (i + 1) < k.length - i; omega, ⟨rfl, rfl⟩, .refl _, .int hwj, .refl _, ⟨.refl _, .refl _, trivial⟩, ⟨.refl _, .refl _, trivial⟩, trivial⟩
    · have hge : i = k.length := of_decide_ge h hil
      exact ⟨.btt (decide_eq_true (by rw [hc, list_ext_getD (0, 0) hl fun j hj => hi.2 j (by omega)])), rfl⟩
instance decSym : DecidableEq SymT := @instDecidableEqProd Int _ inferInstance (@instDecidableEqProd (Int × List (Int × Int)) Int inferInstance inferInstance)
instance decObj : DecidableEq ObjT := @instDecidableEqProd (Int × ByteArray) (List SymT × Int) inferInstance (@instDecidableEqProd (List SymT) Int (@instDecidableEqList SymT decSym) inferInstance)
def smallY (y : SymT) : Prop := y.2.1.2.length ≤ 4611686018427387904
def keep_Sym : Ctr := { A := SymT × SymT, enc := fun x => [symS x.1, symS x.2], dom := fun x => smallY x.1, res := fun x _ => B (decide (x.1 = x.2)) }
theorem keep_Sym_ok : CtrSound Try.prog 19 keep_Sym :=
  ctr_of_ax (env_ok tys_ok (eqs := []) trivial (cs := [(33, keep_Term)]) ⟨keep_Term_ok, trivial⟩) mixed _ Try.func19 (by kernel_rfl) rfl (fun _ _ => Nat.le_of_ble_eq_true rfl) fun ((x, y) : SymT × SymT) id hd => by
    have no : ¬ (x = y) → Sub .ff (B (decide (x = y))) := fun h => .bff (decide_eq_false h)
    refine ⟨fun h => ⟨fun h2 => ?_, fun h2 => ?_⟩, fun h => ?_⟩
    · have h : x.1 = y.1 := by have h : (x.1 == y.1) = true := h; simpa using h
      have h2 : x.2.2 = y.2.2 := by have h2 : (x.2.2 == y.2.2) = true := h2; simpa using h2
      refine ⟨(x.2.1, y.2.1), ⟨.agg2 (.refl _) (.refl _), .agg2 (.refl _) (.refl _), trivial⟩, rfl, hd, ?_⟩
      exact ⟨.bool (by show decide (x.2.1 = y.2.1) = decide (x = y); rw [decide_eq_decide]; exact ⟨fun e => Prod.ext h (Prod.ext e h2), fun e => by rw [e]⟩), rfl⟩
    · exact ⟨no fun q => by have h2 : (x.2.2 == y.2.2) = false := h2; rw [q] at h2; simp at h2, rfl⟩
    · exact ⟨no fun q => by have h : (x.1 == y.1) = false := h; rw [q] at h; simp at h, rfl⟩
def keep_Syms : Ctr := { A := List SymT × List SymT, enc := fun x => [syms x.1, syms x.2], dom := fun x => x.1.length ≤ 4611686018427387904 ∧ ∀ y ∈ x.1, smallY y, res := fun x _ => B (decide (x.1 = x.2)) }
set_option maxRecDepth 100000 in
set_option maxHeartbeats 4000000 in
theorem keep_Syms_ok : CtrSound Try.prog 13 keep_Syms :=
  ctr_of_ax (env_ok tys_ok (eqs := []) trivial (cs := [(19, keep_Sym)]) ⟨keep_Sym_ok, trivial⟩) mixed _ Try.func13 (by kernel_rfl) rfl (fun _ _ => Nat.le_of_ble_eq_true rfl) fun ((k, l) : List SymT × List SymT) id hd => by
    have hm : ∀ y ∈ k, smallY y := hd.2
    have hd : k.length ≤ 4611686018427387904 := hd.1
    have no : ¬ (k = l) → Sub .ff (B (decide (k = l))) := fun h => .bff (decide_eq_false h)
    refine ⟨fun h => ?_, fun h => ?_⟩
    · exact ⟨no fun q => lneT h (by rw [q]), rfl⟩
    have hl : k.length = l.length := lneF h
    refine ⟨Nat, fun i => [(0, syms k), (1, syms l), (5, I i)], fun _ => [], fun i => i ≤ k.length ∧ ∀ j, j < i → k.getD j sym0 = l.getD j sym0, fun i => k.length - i,
      ⟨0, ⟨Nat.zero_le _, fun j hj => by omega⟩, ⟨⟨rfl, rfl⟩, .refl _, .refl _, .refl _, trivial⟩⟩, fun (i : Nat) hi => ?_⟩
    have hil := hi.1
    have hwj : IntKind.i64.wrap ((i : Int) + 1) = ((i + 1 : Nat) : Int) := by rw [wrap_eq _ (by omega) (by omega)]; omega
    refine ⟨fun h => ?_, fun h => ?_⟩
    · have hlt : i < k.length := of_decide_lt h
      refine ⟨by kernel_rfl, ?_⟩
      refine ⟨⟨by omega, by omega⟩, ⟨by omega, by omega⟩, ?_⟩
      refine ⟨(k.getD i sym0, l.getD i sym0), ⟨.agg4 (.refl _) (.refl _) (.refl _) (.refl _), .agg4 (.refl _) (.refl _) (.refl _) (.refl _), trivial⟩, rfl, hm _ (getD_in k sym0 i hlt), fun h3 => ?_, fun h3 => ?_⟩
      · have h3 : (!decide (k.getD i sym0 = l.getD i sym0)) = true := h3
        exact ⟨no fun q => by rw [q] at h3; simp at h3, rfl⟩
      · have h3 : (!decide (k.getD i sym0 = l.getD i sym0)) = false := h3
        have he : k.getD i sym0 = l.getD i sym0 := by simpa using h3
        exact ⟨i + 1, ⟨hlt, fun j hj => by rcases Nat.lt_succ_iff_lt_or_eq.1 hj with q | rfl; exact hi.2 j q; exact he⟩, by show k.length - (i + 1) < k.length - i; omega, ⟨rfl, rfl⟩, .refl _, .refl _, .int hwj, trivial⟩
    · have hge : i = k.length := of_decide_ge h hil
      exact ⟨.btt (decide_eq_true (list_ext_getD sym0 hl fun j hj => hi.2 j (by dsimp only at hj; omega))), rfl⟩
theorem ty_eq : EqSound Try.prog 35 (flatC TyT tyC) :=
  eq_flat [.int .i64, .str] _ tyC Try.underlying35 (by kernel_rfl) (by kernel_rfl) (by kernel_rfl) (fun _ => rfl)
theorem ty_eq_dec (a b : TyT) : cellsEq (tyC a) (tyC b) = decide (a = b) := by
  obtain ⟨a1, a2⟩ := a
  obtain ⟨b1, b2⟩ := b
  rw [Bool.eq_iff_iff]
  simp [tyC, cellsEq, cellEq, ba_eq]
def keep_Heap : Ctr := { A := List ObjT × List ObjT, enc := fun x => [sobjs x.1, sobjs x.2], dom := fun x => x.1.length ≤ 4611686018427387904 ∧ ∀ o ∈ x.1, o.2.1.length ≤ 4611686018427387904 ∧ ∀ y ∈ o.2.1, smallY y, res := fun x _ => B (decide (x.1 = x.2)) }
set_option maxRecDepth 100000 in
set_option maxHeartbeats 4000000 in
theorem keep_Heap_ok : CtrSound Try.prog 12 keep_Heap :=
  ctr_of_ax (env_ok tys_ok (eqs := [(35, flatC TyT tyC)]) ⟨ty_eq, trivial⟩ (cs := [(13, keep_Syms)]) ⟨keep_Syms_ok, trivial⟩) mixed _ Try.func12 (by kernel_rfl) rfl (fun _ _ => Nat.le_of_ble_eq_true rfl) fun ((k, l) : List ObjT × List ObjT) id hd => by
    have hm := hd.2
    have hd : k.length ≤ 4611686018427387904 := hd.1
    have no : ¬ (k = l) → Sub .ff (B (decide (k = l))) := fun h => .bff (decide_eq_false h)
    refine ⟨fun h => ?_, fun h => ?_⟩
    · exact ⟨no fun q => lneT h (by rw [q]), rfl⟩
    have hl : k.length = l.length := lneF h
    refine ⟨Nat, fun i => [(0, sobjs k), (1, sobjs l), (5, I i)], fun _ => [], fun i => i ≤ k.length ∧ ∀ j, j < i → k.getD j sobj0 = l.getD j sobj0, fun i => k.length - i,
      ⟨0, ⟨Nat.zero_le _, fun j hj => by omega⟩, ⟨⟨rfl, rfl⟩, .refl _, .refl _, .refl _, trivial⟩⟩, fun (i : Nat) hi => ?_⟩
    have hil := hi.1
    have hwj : IntKind.i64.wrap ((i : Int) + 1) = ((i + 1 : Nat) : Int) := by rw [wrap_eq _ (by omega) (by omega)]; omega
    refine ⟨fun h => ?_, fun h => ?_⟩
    · have hlt : i < k.length := of_decide_lt h
      refine ⟨by kernel_rfl, ?_⟩
      refine ⟨⟨by omega, by omega⟩, ⟨by omega, by omega⟩, ?_⟩
      have no2 : k.getD i sobj0 ≠ l.getD i sobj0 → Sub .ff (B (decide (k = l))) := fun h => no fun q => h (by rw [q])
      refine ⟨(k.getD i sobj0).1, (l.getD i sobj0).1, ⟨.refl _, .refl _, trivial⟩, ⟨.refl _, .refl _, trivial⟩, fun h2 => ?_, fun h2 => ?_⟩
      · have h2 : (!cellsEq (tyC (k.getD i sobj0).1) (tyC (l.getD i sobj0).1)) = true := h2
        rw [ty_eq_dec] at h2
        exact ⟨no2 fun q => by rw [q] at h2; simp at h2, rfl⟩
      have h2 : (!cellsEq (tyC (k.getD i sobj0).1) (tyC (l.getD i sobj0).1)) = false := h2
      rw [ty_eq_dec] at h2
      have h2 : (k.getD i sobj0).1 = (l.getD i sobj0).1 := by simpa using h2
      refine ⟨⟨by omega, by omega⟩, ⟨by omega, by omega⟩, fun h3 => ?_, fun h3 => ?_⟩
      · have h3 : ((k.getD i sobj0).2.2 != (l.getD i sobj0).2.2) = true := h3
        exact ⟨no2 fun q => by rw [q] at h3; simp at h3, rfl⟩
      have h3 : ((k.getD i sobj0).2.2 != (l.getD i sobj0).2.2) = false := h3
      have h3 : (k.getD i sobj0).2.2 = (l.getD i sobj0).2.2 := by simpa using h3
      refine ⟨⟨by omega, by omega⟩, ⟨by omega, by omega⟩, ?_⟩
      refine ⟨((k.getD i sobj0).2.1, (l.getD i sobj0).2.1), ⟨.refl _, .refl _, trivial⟩, rfl, hm _ (getD_in k sobj0 i hlt), fun h4 => ?_, fun h4 => ?_⟩
      · have h4 : (!decide ((k.getD i sobj0).2.1 = (l.getD i sobj0).2.1)) = true := h4
        exact ⟨no2 fun q => by rw [q] at h4; simp at h4, rfl⟩
      · have h4 : (!decide ((k.getD i sobj0).2.1 = (l.getD i sobj0).2.1)) = false := h4
        have h4 : (k.getD i sobj0).2.1 = (l.getD i sobj0).2.1 := by simpa using h4
        have he : k.getD i sobj0 = l.getD i sobj0 := Prod.ext h2 (Prod.ext h4 h3)
        exact ⟨i + 1, ⟨hlt, fun j hj => by rcases Nat.lt_succ_iff_lt_or_eq.1 hj with q | rfl; exact hi.2 j q; exact he⟩, by show k.length - (i + 1) < k.length - i; omega, ⟨rfl, rfl⟩, .refl _, .refl _, .int hwj, trivial⟩
    · have hge : i = k.length := of_decide_ge h hil
      exact ⟨.btt (decide_eq_true (list_ext_getD sobj0 hl fun j hj => hi.2 j (by dsimp only at hj; omega))), rfl⟩
end Go.Proofs.Yteccinlmblijfaa.Ax
