/- Walks and laws, part 3: A11 A6 A7. -/
import Derived.Test.YteccinlmblijfaaPk2
import Derived.Deep.LoopGhost
/- A row that grows. -/
set_option linter.unusedVariables false
set_option linter.unusedSimpArgs false
set_option linter.unusedSectionVars false
namespace Go.Proofs.Yteccinlmblijfaa.Ax
open Go Go.RowKit

mutual
theorem dgrK_eq (i j : Nat) : ∀ (x : SV) (k : SV → Prop), dgrK i j x k = k (dgr i j x)
  | .own T sz cs d l id, k => by
    simp only [dgrK, dgr]
    cases Nat.beq id i <;> simp only
    cases Nat.beq id j <;> rfl
  | .agg l, k => by simp only [dgrK, dgr, dgrsK_eq i j l]
  | .tup l, k => by simp only [dgrK, dgr, dgrsK_eq i j l]
  | .fn g l, k => by simp only [dgrK, dgr, dgrsK_eq i j l]
  | .val v, k => rfl
  | .tt, k => rfl
  | .ff, k => rfl
  | .row T sz cs d l, k => rfl
  | .elt T sz cs d l n o, k => rfl
  | .box b o, k => rfl
  | .arr b z o n c, k => rfl
  | .plc b z i o, k => rfl
  | .many .., k => rfl
  | .ifc, k => rfl
  | .e0, k => rfl
  | .nb _, k => rfl
  | .junk, k => rfl
theorem dgrsK_eq (i j : Nat) : ∀ (l : List SV) (k : List SV → Prop), dgrK.dgrsK i j l k = k (dgr.dgrs i j l)
  | [], _ => rfl
  | x :: xs, k => by simp only [dgrK.dgrsK, dgr.dgrs, dgrK_eq i j x, dgrsK_eq i j xs]
end
theorem dgrs_length (i j : Nat) : ∀ l : List SV, (dgr.dgrs i j l).length = l.length
  | [] => rfl
  | x :: xs => by simp [dgr.dgrs, dgrs_length i j xs]
theorem at'_dgrs (i j : Nat) : ∀ (l : List SV) (q : Nat), at' (dgr.dgrs i j l) q .junk = dgr i j (at' l q .junk)
  | [], _ => rfl
  | x :: xs, 0 => rfl
  | x :: xs, q + 1 => at'_dgrs i j xs q
theorem dgrT_get (i j : Nat) : ∀ (t : Tr SV) (q : Nat), (dgrT i j t).get q .junk = dgr i j (t.get q .junk)
  | .nil, _ => rfl
  | .node v l r, 0 => rfl
  | .node v l r, q + 1 => by
    simp only [dgrT, Tr.get]
    rcases Tr.half q with ⟨e, -⟩ | ⟨e, -⟩ <;> rw [e]
    · exact dgrT_get i j l _
    · exact dgrT_get i j r _
theorem dgrT_like (i j : Nat) : ∀ {a b : Tr SV}, a.like b → (dgrT i j a).like b
  | .nil, .nil, _ => trivial
  | .node .., .node .., h => ⟨dgrT_like i j h.1, dgrT_like i j h.2⟩
  | .nil, .node .., h => h.elim
  | .node .., .nil, h => h.elim
theorem dgrT_has (i j : Nat) : ∀ (t : Tr SV) (q : Nat), (dgrT i j t).has q = t.has q
  | .nil, _ => rfl
  | .node v l r, 0 => rfl
  | .node v l r, q + 1 => by
    simp only [dgrT, Tr.has]
    rcases Tr.half q with ⟨e, -⟩ | ⟨e, -⟩ <;> rw [e]
    · exact dgrT_has i j l _
    · exact dgrT_has i j r _
theorem dgrB_get (i j : Nat) : ∀ (t : Tr (Option (List SV))) (q : Nat), (dgrB i j t).get q none = (t.get q none).map (dgr.dgrs i j)
  | .nil, _ => rfl
  | .node v l r, 0 => rfl
  | .node v l r, q + 1 => by
    simp only [dgrB, Tr.get]
    rcases Tr.half q with ⟨e, -⟩ | ⟨e, -⟩ <;> rw [e]
    · exact dgrB_get i j l _
    · exact dgrB_get i j r _

/-- the places behind rows i and j are nobody's -/
def drop2 (i j : Nat) (T : TM) : TM := fun b q => match T b q with
  | some n => if n = i ∨ n = j then none else some n
  | none => none
theorem drop2_some {i j : Nat} {T : TM} {b q n : Nat} (h : drop2 i j T b q = some n) : T b q = some n ∧ n ≠ i ∧ n ≠ j := by
  unfold drop2 at h
  cases e : T b q with
  | none => rw [e] at h; cases h
  | some m =>
    rw [e] at h
    simp only at h
    by_cases hc : m = i ∨ m = j
    · rw [if_pos hc] at h; cases h
    · rw [if_neg hc] at h
      cases h
      exact ⟨rfl, fun c => hc (.inl c), fun c => hc (.inr c)⟩
theorem drop2_keeps {i j : Nat} {T : TM} {b q n : Nat} (h : T b q = some n) (hi : n ≠ i) (hj : n ≠ j) : drop2 i j T b q = some n := by
  unfold drop2
  rw [h]
  simp [hi, hj]
theorem drop2_gone {i j : Nat} {T : TM} {b q : Nat} (h : T b q = some i) : drop2 i j T b q = none := by
  unfold drop2; rw [h]; simp
theorem drop2_none {i j : Nat} {T : TM} {b q : Nat} (h : T b q = none) : drop2 i j T b q = none := by
  unfold drop2; rw [h]
theorem G.dgr {H : HM} (i j : Nat) {β : BM} {T : TM} {s : SV} {v : Value} (h : G H β T s v) : G H β (drop2 i j T) (Ax.dgr i j s) v := by
  induction h with
  | own X sz cs d l id b off c vs hc hz hh hg hT ih =>
    simp only [Ax.dgr]
    cases h1 : Nat.beq id i with
    | true => exact .row X sz cs d l b off c vs hc hz hh hg
    | false =>
      simp only
      cases h2 : Nat.beq id j with
      | true => exact .row X sz cs d l b off c vs hc hz hh hg
      | false =>
        refine .own X sz cs d l id b off c vs hc hz hh hg fun o a e => drop2_keeps (hT o a e) (fun c => ?_) (fun c => ?_)
        · rw [c] at h1; simp at h1
        · rw [c] at h2; simp at h2
  | ownE X sz cs d id =>
    simp only [Ax.dgr]
    cases Nat.beq id i with
    | true => exact .rowE ..
    | false =>
      simp only
      cases Nat.beq id j with
      | true => exact .rowE ..
      | false => exact .ownE ..
  | agg l vs hn h ih => exact .agg _ vs (by rw [dgrs_length]; exact hn) fun q e => by rw [at'_dgrs]; exact ih q (by rwa [dgrs_length] at e)
  | tup l vs hn h ih => exact .tup _ vs (by rw [dgrs_length]; exact hn) fun q e => by rw [at'_dgrs]; exact ih q (by rwa [dgrs_length] at e)
  | fn g l vs hn h ih => exact .fn g _ vs (by rw [dgrs_length]; exact hn) fun q e => by rw [at'_dgrs]; exact ih q (by rwa [dgrs_length] at e)
  | val v => exact .val v
  | tt => exact .tt
  | ff => exact .ff
  | junk v => exact .junk v
  | nb Q b h => exact .nb Q b h
  | rowE => exact .rowE ..
  | row X sz cs d l b off c vs hc hz hh hg ih => exact .row X sz cs d l b off c vs hc hz hh hg
  | elt X sz cs d l i o b p vs hz hh hg ih => exact .elt X sz cs d l i o b p vs hz hh hg
  | box b o k h => exact .box b o k h
  | arr b z o n cap k c h hc he => exact .arr b z o n cap k c h hc he
  | arrE b z o a c => exact .arrE ..
  | plc b z i o k hi h => exact .plc b z i o k hi h
  | ifc t v => exact .ifc t v
  | e0 a => exact .e0 a
theorem dgr_mapOk (i j : Nat) : MapOk (dgr i j) (dgr.dgrs i j) := by
  refine ⟨rfl, fun _ _ => rfl, fun x => ?_⟩
  cases x with
  | many X sz c d l => exact .inl ⟨rfl, rfl⟩
  | own X sz cs d l id =>
    refine .inr ⟨rfl, ?_⟩
    simp only [dgr]
    cases Nat.beq id i <;> simp only
    · cases Nat.beq id j <;> rfl
    · rfl
  | _ => exact .inr ⟨rfl, rfl⟩

section
variable {P : Program} {E : Env} {M : BM} {w0 w : World} {H0 H : HM} {β : BM} {T : TM} {a : Act} {s : ASt}
theorem FR.dgr (i j : Nat) {fr : Tr SV} (h : FR H β T fr a) : FR H β (drop2 i j T) (dgrT i j fr) a :=
  ⟨fun q e => h.size q (by rwa [dgrT_has] at e), h.defers, fun q => by rw [dgrT_get]; exact (h.val q).dgr i j⟩
theorem dgrB_side {i j : Nat} {bx : Tr (Option (List SV))} {X : Side} (e : (dgrB i j bx).get 9999 none = some (sideB X)) : bx.get 9999 none = some (sideB X) := by
  rw [dgrB_get] at e
  cases hb : bx.get 9999 none with
  | none => rw [hb] at e; cases e
  | some ds => rw [hb] at e; rw [show ds = sideB X from (dgr_mapOk i j).unmany (Option.some.inj e)]
theorem W.dgr (i j : Nat) {bx : Tr (Option (List SV))} (h : W M w0 H0 H β T bx w) : W M w0 H0 H β (drop2 i j T) (dgrB i j bx) w := by
  refine ⟨fun b q v e => ⟨(h.lies b q v e).1, drop2_none (h.lies b q v e).2⟩, ?_, ?_, h.inj, fun b q n e => h.tail b q n (drop2_some e).1, fun b q n e => h.sep b q n (drop2_some e).1, h.hand, ?_, h.mine, h.out, h.keep, h.ext, h.fresh, h.edge, fun X e => (h.side X (dgrB_side e)).of (fun _ _ _ => rfl) (fun k _ hq => ⟨((h.side X (dgrB_side e)).2 k hq).1, fun o => ⟨(((h.side X (dgrB_side e)).2 k hq).2.1 o).1, drop2_none (((h.side X (dgrB_side e)).2 k hq).2.1 o).2⟩⟩)⟩
  · intro id cs e hl
    rw [dgrB_get] at e
    cases hb : bx.get id none with
    | none => rw [hb] at e; cases e
    | some ds =>
      rw [hb] at e
      obtain rfl := Option.some.inj e
      rw [(dgr_mapOk i j).xlen] at hl
      obtain ⟨k, hk, hm, hj⟩ := h.box id ds hb hl
      refine ⟨k, hk, hm, fun q hq => ?_⟩
      rw [(dgr_mapOk i j).xlen] at hq
      obtain ⟨a1, a2, a3, v, a4, a5⟩ := hj q hq
      exact ⟨a1, drop2_none a2, a3, v, a4, (dgr_mapOk i j).xat (.refl _) (fun x v g => g.dgr i j) (fun X sz c d l ee => h.many _ _ _ _ _ _ (by rw [hb, ee])) hq a5⟩
  · intro id k e
    obtain ⟨a1, cs, a2⟩ := h.bβ id k e
    exact ⟨a1, _, by rw [dgrB_get, a2]; rfl⟩
  · intro id X sz c d l e
    rw [dgrB_get] at e
    cases hb : bx.get id none with
    | none => rw [hb] at e; cases e
    | some ds =>
      rw [hb] at e
      exact h.many _ _ _ _ _ _ (by rw [hb, (dgr_mapOk i j).unmany (Option.some.inj e)])
def hput (H : HM) (b p : Nat) (vs : List Value) : HM := fun b' q => if b' = b ∧ p ≤ q ∧ q < p + vs.length then some (vs.getD (q - p) undef) else H b' q
def tput (T : TM) (b p c d : Nat) : TM := fun b' q => if b' = b ∧ p ≤ q ∧ q < c then some d else T b' q
/-- cells that are nobody's -/
structure Free (M : BM) (w0 : World) (H : HM) (β : BM) (T : TM) (bx : Tr (Option (List SV))) (w : World) (b p c : Nat) : Prop where
  mine : Room M w0 b
  nobox : ∀ i, β i ≠ some b
  cell : ∀ q, p ≤ q → q < c → (w.cell? ⟨b, q, none⟩).isSome = true ∧ w.frozen? ⟨b, q, none⟩ = false ∧ H b q = none ∧ T b q = none
  noside : ∀ X, bx.get 9999 none = some (sideB X) → ¬ X.blk b
/-- cells that are nobody's are written -/
theorem W.poke {bx : Tr (Option (List SV))} (h : W M w0 H0 H β T bx w) {b p c : Nat} (hf : Free M w0 H β T bx w b p c) (vs : List Value) (hp : p + vs.length ≤ c) :
    W M w0 H0 H β T bx (w.setCells b p vs) ∧ Free M w0 H β T bx (w.setCells b p vs) b p c ∧ ∀ j, j < vs.length → (w.setCells b p vs).cell? ⟨b, p + j, none⟩ = some (vs.getD j undef) := by
  have hout : ∀ (k q : Nat), (k = b → q < p ∨ p + vs.length ≤ q) → (w.setCells b p vs).cell? ⟨k, q, none⟩ = w.cell? ⟨k, q, none⟩ :=
    fun k q hq => World.cell?_setCells_out b vs p w ⟨k, q, none⟩ (fun e _ => hq e)
  have hin : ∀ j (hj : j < vs.length), (w.setCells b p vs).cell? ⟨b, p + j, none⟩ = some vs[j] :=
    fun j hjl => World.cell?_setCells_in b vs p w (fun i hi => (hf.cell (p + i) (by omega) (by omega)).1) j hjl
  have hin' : ∀ j, j < vs.length → (w.setCells b p vs).cell? ⟨b, p + j, none⟩ = some (vs.getD j undef) := fun j hj => by rw [hin j hj, getD_get _ _ hj]
  have hsz : (w.setCells b p vs).heap.size = w.heap.size := by
    have aux : ∀ (vs : List Value) (o : Nat) (w : World), (w.setCells b o vs).heap.size = w.heap.size := by
      intro vs
      induction vs with
      | nil => intro o w; rfl
      | cons v r ih => intro o w; simp [World.setCells, ih]
    exact aux _ _ _
  refine ⟨⟨?_, ?_, fun id k e => by rw [hsz]; exact h.bβ id k e, h.inj, ?_, h.sep, h.hand, h.many, h.mine, h.out, Keeps.setCells h.keep b hf.mine.mine vs p h.keep, h.ext, h.fresh, fun k e => (h.edge k e).setCells' _ _ _, fun X e => (h.side X e).world fun q _ hq => setCells_heap b vs p w q (fun c => hf.noside X e (c ▸ hq))⟩, ⟨hf.mine, hf.nobox, ?_, hf.noside⟩, hin'⟩
  · intro k q v e
    refine ⟨?_, (h.lies k q v e).2⟩
    rw [hout k q ?_]
    · exact (h.lies k q v e).1
    · intro hk
      subst hk
      by_cases hr : p ≤ q ∧ q < p + vs.length
      · rw [(hf.cell q hr.1 (by omega)).2.2.1] at e; cases e
      · omega
  · intro id cs e hl
    obtain ⟨k, hk, hm, hj⟩ := h.box id cs e hl
    refine ⟨k, hk, hm, fun j hlt => ?_⟩
    obtain ⟨a1, a2, a3, v, a4, a5⟩ := hj j hlt
    exact ⟨a1, a2, by rw [World.frozen?_setCells]; exact a3, v, by rw [hout k j (fun c => absurd (c ▸ hk) (hf.nobox id))]; exact a4, a5⟩
  · intro k q n e
    obtain ⟨a1, a2, a3⟩ := h.tail k q n e
    refine ⟨a1, ?_, by rw [World.frozen?_setCells]; exact a3⟩
    rw [hout k q ?_]
    · exact a2
    · intro hk
      subst hk
      by_cases hr : p ≤ q ∧ q < p + vs.length
      · rw [(hf.cell q hr.1 (by omega)).2.2.2] at e; cases e
      · omega
  · intro q h1 h2
    obtain ⟨a1, a2, a3⟩ := hf.cell q h1 h2
    refine ⟨?_, by rw [World.frozen?_setCells]; exact a2, a3⟩
    by_cases hr : q < p + vs.length
    · have := hin' (q - p) (by omega)
      rw [show p + (q - p) = q by omega] at this
      rw [this]; rfl
    · rw [hout b q (fun _ => by omega)]; exact a1
/-- cells that are nobody's become a row's: the first stay as they are, the others are its room -/
theorem W.claim {bx : Tr (Option (List SV))} (h : W M w0 H0 H β T bx w) {b p c d : Nat} (hf : Free M w0 H β T bx w b p c) (vs : List Value) (hp : p + vs.length ≤ c)
    (hv : ∀ j, j < vs.length → w.cell? ⟨b, p + j, none⟩ = some (vs.getD j undef)) :
    HLe H (hput H b p vs) ∧ TLe T (tput T b (p + vs.length) c d) ∧ W M w0 H0 (hput H b p vs) β (tput T b (p + vs.length) c d) bx w := by
  have hle : HLe H (hput H b p vs) := fun k q v e => by
    unfold hput
    by_cases hc : k = b ∧ p ≤ q ∧ q < p + vs.length
    · obtain ⟨rfl, h1, h2⟩ := hc
      rw [(hf.cell q h1 (by omega)).2.2.1] at e; cases e
    · rw [if_neg hc]; exact e
  have htl : TLe T (tput T b (p + vs.length) c d) := fun k q v e => by
    unfold tput
    by_cases hc : k = b ∧ p + vs.length ≤ q ∧ q < c
    · obtain ⟨rfl, h1, h2⟩ := hc
      rw [(hf.cell q (by omega) h2).2.2.2] at e; cases e
    · rw [if_neg hc]; exact e
  refine ⟨hle, htl, ?_, ?_, h.bβ, h.inj, ?_, ?_, h.hand, h.many, h.mine, h.out, h.keep, h.ext.trans hle, ?_, h.edge, fun X e => (h.side X e).of (fun _ _ _ => rfl) (fun k _ hq => ⟨((h.side X e).2 k hq).1, fun o => ⟨by unfold hput; rw [if_neg (by rintro ⟨rfl, -⟩; exact hf.noside X e hq)]; exact (((h.side X e).2 k hq).2.1 o).1, by unfold tput; rw [if_neg (by rintro ⟨rfl, -⟩; exact hf.noside X e hq)]; exact (((h.side X e).2 k hq).2.1 o).2⟩⟩)⟩
  · intro k q v e
    unfold hput at e
    unfold tput
    by_cases hc : k = b ∧ p ≤ q ∧ q < p + vs.length
    · rw [if_pos hc] at e
      obtain ⟨rfl, h1, h2⟩ := hc
      rw [if_neg (by omega)]
      have := hv (q - p) (by omega)
      rw [show p + (q - p) = q by omega, e] at this
      exact ⟨this, (hf.cell q h1 (by omega)).2.2.2⟩
    · rw [if_neg hc] at e
      refine ⟨(h.lies k q v e).1, ?_⟩
      by_cases hd : k = b ∧ p + vs.length ≤ q ∧ q < c
      · obtain ⟨rfl, h1, h2⟩ := hd
        rw [(hf.cell q (by omega) h2).2.2.1] at e; cases e
      · rw [if_neg hd]; exact (h.lies k q v e).2
  · intro id cs e hl
    obtain ⟨k, hk, hm, hj⟩ := h.box id cs e hl
    refine ⟨k, hk, hm, fun j hlt => ?_⟩
    obtain ⟨a1, a2, a3, v, a4, a5⟩ := hj j hlt
    have hb : k ≠ b := fun c => absurd (c ▸ hk) (hf.nobox id)
    refine ⟨?_, ?_, a3, v, a4, a5.mono hle (.refl _) htl⟩
    · unfold hput; rw [if_neg (fun c => hb c.1)]; exact a1
    · unfold tput; rw [if_neg (fun c => hb c.1)]; exact a2
  · intro k q n e
    unfold tput at e
    by_cases hd : k = b ∧ p + vs.length ≤ q ∧ q < c
    · obtain ⟨rfl, h1, h2⟩ := hd
      obtain ⟨a1, a2, -⟩ := hf.cell q (by omega) h2
      exact ⟨hf.mine, a1, a2⟩
    · rw [if_neg hd] at e; exact h.tail k q n e
  · intro k q n e i hc
    unfold tput at e
    by_cases hd : k = b ∧ p + vs.length ≤ q ∧ q < c
    · exact hf.nobox i (hd.1 ▸ hc)
    · rw [if_neg hd] at e; exact h.sep _ _ _ e _ hc
  · intro k q hm
    by_cases hkb : k = b
    · subst hkb
      rcases hf.mine with e | e
      · exact .inl e
      · omega
    · refine (h.fresh k q hm).imp (fun e => e) fun e => ?_
      unfold hput
      rw [if_neg (fun c => hkb c.1)]
      exact e
theorem run_append_zero {w : World} (t ty e : TypeId) (i : TypeInfo) (ht : P.underlying t = some (.slice e)) (hi : P.info? e = some i) (base a : Option Addr) (n c c2 : Nat) (hn : n ≤ c) :
    (Builtin.append_ #[t, t] ty #[.slice base n c, .slice a 0 c2]).run P w = .ok (.slice base n c) w := by
  have hf : (Builtin.firstCells i.size 0 (.slice a 0 c2)).run P w = .ok #[] w := by
    cases a with
    | none => exact run_firstCells_none w _ _ _ _
    | some a => exact run_firstCells_some w i.size 0 a 0 c2 [] (by simp) (by simp)
  cases base with
  | none => simp [Builtin.append_, run_underlying ht, sizeOf, typeInfo, hi, Builtin.lenOf, hn, hf]
  | some b => simp [Builtin.append_, run_underlying ht, sizeOf, typeInfo, hi, Builtin.lenOf, hn, hf]; rfl
/-- a row's cells, one behind the other -/
theorem row_cells {X : Type} {sz : Nat} {cs : X → List SV} {e : X} {l : List X} {ad : Option Addr} {n c : Nat} (hs : 0 < sz) (h : G H β T (.row X sz cs e l) (.slice ad n c)) :
    n = l.length ∧ (∀ i, i < l.length → (cs (l.getD i e)).length = sz) ∧ ∃ vs : List Value, vs.length = l.length * sz ∧ (∀ i j, i < l.length → j < sz → G H noB noT (at' (cs (l.getD i e)) j .junk) (vs.getD (i * sz + j) undef)) ∧
      (l = [] ∨ ∃ b off, ad = some ⟨b, off, none⟩ ∧ ∀ q, q < vs.length → H b (off + q) = some (vs.getD q undef)) := by
  cases h with
  | rowE => exact ⟨rfl, fun i hi => by simp at hi, [], by simp, fun i j hi => by simp at hi, .inl rfl⟩
  | row _ _ _ _ _ b off _ vs hc hz hH hG =>
    have hget : ∀ q, q < l.length * sz → ((List.range (l.length * sz)).map fun q => vs (q / sz) (q % sz)).getD q undef = vs (q / sz) (q % sz) := fun q hq => by
      rw [getD_get _ _ (by simpa using hq)]; simp
    have hdiv : ∀ q, q < l.length * sz → q / sz < l.length := fun q hq => Nat.div_lt_of_lt_mul (by rw [Nat.mul_comm]; exact hq)
    refine ⟨rfl, hz, (List.range (l.length * sz)).map fun q => vs (q / sz) (q % sz), by simp, ?_, .inr ⟨b, off, rfl, ?_⟩⟩
    · intro i j hi hj
      have hb : i * sz + j < l.length * sz := by
        have := Nat.mul_le_mul_right sz (show i + 1 ≤ l.length by omega)
        rw [Nat.add_mul] at this; omega
      rw [hget _ hb, show (i * sz + j) / sz = i by rw [Nat.mul_comm, Nat.mul_add_div hs, Nat.div_eq_of_lt hj]; rfl, show (i * sz + j) % sz = j by rw [Nat.mul_comm, Nat.mul_add_mod, Nat.mod_eq_of_lt hj]]
      exact hG i j hi hj
    · intro q hq
      have hq' : q < l.length * sz := by simpa using hq
      rw [hget _ hq']
      have := hH (q / sz) (q % sz) (hdiv q hq') (Nat.mod_lt _ hs)
      rwa [Nat.add_assoc, Nat.mul_comm, Nat.div_add_mod] at this
theorem G_own {H' : HM} {T' : TM} {X : Type} {sz : Nat} {cs : X → List SV} {e : X} {l ys : List X} {b off c d : Nat} {us vs : List Value} (hle : HLe H H') (hs : 0 < sz) (hc : l.length + ys.length ≤ c)
    (hu : us.length = l.length * sz) (hv : vs.length = ys.length * sz)
    (zu : ∀ i, i < l.length → (cs (l.getD i e)).length = sz) (zv : ∀ i, i < ys.length → (cs (ys.getD i e)).length = sz)
    (gu : ∀ i j, i < l.length → j < sz → G H noB noT (at' (cs (l.getD i e)) j .junk) (us.getD (i * sz + j) undef))
    (gv : ∀ i j, i < ys.length → j < sz → G H noB noT (at' (cs (ys.getD i e)) j .junk) (vs.getD (i * sz + j) undef))
    (hH : ∀ q, q < (l.length + ys.length) * sz → H' b (off + q) = some ((us ++ vs).getD q undef))
    (hT : ∀ q, off + (l.length + ys.length) * sz ≤ q → q < off + c * sz → T' b q = some d) :
    G H' β T' (.own X sz cs e (l ++ ys) d) (.slice (some ⟨b, off, none⟩) (l.length + ys.length) c) := by
  have hlen : (l ++ ys).length = l.length + ys.length := List.length_append
  have hl : ∀ i, i < l.length → (l ++ ys).getD i e = l.getD i e := fun i hi => by simp [List.getD, List.getElem?_append_left hi]
  have hr : ∀ i, l.length ≤ i → (l ++ ys).getD i e = ys.getD (i - l.length) e := fun i hi => by simp [List.getD, List.getElem?_append_right hi]
  have hb : ∀ i j n, i < n → j < sz → i * sz + j < n * sz := fun i j n hi hj => by
    have := Nat.mul_le_mul_right sz (show i + 1 ≤ n by omega)
    rw [Nat.add_mul] at this; omega
  rw [← hlen]
  refine .own X sz cs e (l ++ ys) d b off c (fun i j => (us ++ vs).getD (i * sz + j) undef) (by omega) ?_ ?_ ?_ (by rw [hlen]; exact hT)
  · intro i hi
    by_cases h : i < l.length
    · rw [hl i h]; exact zu i h
    · rw [hr i (by omega)]; exact zv _ (by omega)
  · intro i j hi hj
    rw [Nat.add_assoc]
    exact hH _ (hb i j _ (by omega) hj)
  · intro i j hi hj
    by_cases h : i < l.length
    · rw [hl i h]
      have := hb i j _ h hj
      have e2 : (us ++ vs).getD (i * sz + j) undef = us.getD (i * sz + j) undef := by simp [List.getD, List.getElem?_append_left (show i * sz + j < us.length by omega)]
      rw [e2]
      exact (gu i j h hj).mono hle (.refl _) (.refl _)
    · rw [hr i (by omega)]
      have h5 : i * sz + j - us.length = (i - l.length) * sz + j := by
        rw [hu, Nat.sub_mul]
        have := Nat.mul_le_mul_right sz (show l.length ≤ i by omega)
        omega
      have h6 : us.length ≤ i * sz + j := by
        have := Nat.mul_le_mul_right sz (show l.length ≤ i by omega)
        omega
      have e2 : (us ++ vs).getD (i * sz + j) undef = vs.getD ((i - l.length) * sz + j) undef := by
        simp only [List.getD, List.getElem?_append_right h6, h5]
      rw [e2]
      exact (gv (i - l.length) j (by omega) hj).mono hle (.refl _) (.refl _)
theorem isApp_eq {op : Op} {x y : Operand} {t : Nat × Nat} (h : isApp op = some (x, y, t)) : op = .call { callee := .builtin .append, args := #[x, y], argTypes := #[t.1, t.2] } := by
  cases op with
  | call c =>
    obtain ⟨callee, ⟨args⟩, ⟨ts⟩⟩ := c
    simp only [isApp] at h
    cases callee with
    | builtin b =>
      cases b with
      | append =>
        simp only at h
        match args, h with
        | [x', y'], h =>
          simp only at h
          match ts, h with
          | [t', u'], h =>
            simp only [Option.some.injEq, Prod.mk.injEq] at h
            obtain ⟨rfl, rfl, rfl⟩ := h
            rfl
      | _ => cases h
    | _ => cases h
  | _ => cases h
def strCells (s : ByteArray) : List Value := s.data.toList.map fun b => Value.int .u8 b.toNat
theorem strCells_length (s : ByteArray) : (strCells s).length = s.size := by
  rw [strCells, List.length_map, Array.length_toList]
  rfl
theorem run_firstCells_string (w : World) (size : Nat) (s : ByteArray) : (Builtin.firstCells size s.size (.string s)).run P w = .ok (strCells s).toArray w := by
  simp [Builtin.firstCells, strCells]
  apply Array.ext'
  simp
/-- what an append is handed: so many entries, these cells -/
inductive Src (P : Program) (w : World) (t u : Nat) (sz : Nat) : Value → Nat → List Value → Prop
  | row (h : t = u) (a : Option Addr) (n c : Nat) (vs : List Value) (hl : vs.length = n * sz) (hc : n = 0 ∨ ∃ b, a = some b ∧ ∀ j v, vs[j]? = some v → w.cell? (b.add j) = some v) : Src P w t u sz (.slice a n c) n vs
  | str (hu : P.underlying u = some .string) (h1 : sz = 1) (s : ByteArray) : Src P w t u sz (.string s) s.size (strCells s)
theorem Src.zero {t u ty e : Nat} {i : TypeInfo} {v : Value} {vs : List Value} (h : Src P w t u i.size v 0 vs) (ht : P.underlying t = some (.slice e)) (hi : P.info? e = some i) (base : Option Addr) (n c : Nat) (hn : n ≤ c) :
    (Builtin.append_ #[t, u] ty #[.slice base n c, v]).run P w = .ok (.slice base n c) w := by
  generalize hm : 0 = m at h
  cases h with
  | row h a _ c2 vs hl hc => subst hm; subst h; exact run_append_zero t ty e i ht hi base a n c c2 hn
  | str hu h1 s =>
    have hf := run_firstCells_string (P := P) w i.size s
    have h0 : strCells s = [] := List.eq_nil_of_length_eq_zero (by rw [strCells_length]; exact hm.symm)
    rw [← hm, h0] at hf
    cases base with
    | none => simp [Builtin.append_, run_underlying ht, run_underlying hu, sizeOf, typeInfo, hi, Builtin.lenOf, ← hm, hn, hf]
    | some b => simp [Builtin.append_, run_underlying ht, run_underlying hu, sizeOf, typeInfo, hi, Builtin.lenOf, ← hm, hn, hf]; rfl
theorem Src.onNil {t u ty e m : Nat} {i : TypeInfo} {z v : Value} {vs : List Value} (h : Src P w t u i.size v m vs) (ht : P.underlying t = some (.slice e)) (hi : P.info? e = some i) (hz : i.zero = some z)
    (h0 : 0 < m) (h63 : (m : Int) ≤ 9223372036854775807) (h48 : m * i.bytes ≤ 281474976710656) :
    (Builtin.append_ #[t, u] ty #[.slice none 0 0, v]).run P w =
      .ok (.slice (some ⟨w.heap.size, 0, none⟩) m (grownCap w m 0 e)) (w.drew.alloc (.cells (vs.toArray ++ Builtin.zeroCells z.cells (grownCap w m 0 e - m)) e)) := by
  cases h with
  | row h a _ c2 vs hl hc =>
    subst h
    rcases hc with hc | ⟨b, rfl, hc⟩
    · omega
    · exact run_append_nil (P := P) w t ty e i z ht hi hz b m c2 vs hl hc h0 h63 h48
  | str hu h1 s =>
    have hn : s.size ≠ 0 := by omega
    have h63' : ¬ (9223372036854775807 < (s.size : Int)) := by omega
    have h48' : ¬ (281474976710656 < Builtin.nextslicecap s.size 0 * i.bytes) := by rw [nextslicecap_zero h0]; omega
    have hf := run_firstCells_string (P := P) w.drew i.size s
    simp [Builtin.append_, run_underlying ht, run_underlying hu, sizeOf, typeInfo, zeroValue, hi, hz, Builtin.lenOf, hn, h63', h48', Question.forced, run_firstCells_none, hf, newRow, grownCap]
theorem Src.grow {t u ty e m : Nat} {i : TypeInfo} {z v : Value} {vs : List Value} (h : Src P w t u i.size v m vs) (ht : P.underlying t = some (.slice e)) (hi : P.info? e = some i) (hz : i.zero = some z)
    (b : Addr) (sLen sCap : Nat) (olds : List Value) (hlo : olds.length = sLen * i.size) (holds : ∀ j v, olds[j]? = some v → w.cell? (b.add j) = some v)
    (hg : sCap < sLen + m) (h63 : ((sLen + m : Nat) : Int) ≤ 9223372036854775807) (hfit : Builtin.nextslicecap (sLen + m) sCap * i.bytes ≤ 281474976710656) :
    (Builtin.append_ #[t, u] ty #[.slice (some b) sLen sCap, v]).run P w =
      .ok (.slice (some ⟨w.heap.size, 0, none⟩) (sLen + m) (grownCap w (sLen + m) sCap e))
        (w.drew.alloc (.cells (olds.toArray ++ vs.toArray ++ Builtin.zeroCells z.cells (grownCap w (sLen + m) sCap e - (sLen + m))) e)) := by
  cases h with
  | row h a _ c2 vs hl hc =>
    subst h
    rcases hc with rfl | ⟨a, rfl, hc⟩
    · obtain rfl : vs = [] := List.eq_nil_of_length_eq_zero (by simpa using hl)
      have hn : ¬ (sLen ≤ sCap) := by omega
      have h63' : ¬ (9223372036854775807 < (sLen : Int)) := by omega
      have h48' : ¬ (281474976710656 < Builtin.nextslicecap sLen sCap * i.bytes) := by simpa using hfit
      have hfo := run_firstCells_some (P := P) w.drew i.size sLen b sLen sCap olds hlo (by simpa using holds)
      have hf : (Builtin.firstCells i.size 0 (.slice a 0 c2)).run P w.drew = .ok #[] w.drew := by
        cases a with
        | none => exact run_firstCells_none _ _ _ _ _
        | some a => exact run_firstCells_some _ i.size 0 a 0 c2 [] (by simp) (by simp)
      simp [Builtin.append_, run_underlying ht, sizeOf, typeInfo, zeroValue, hi, hz, Builtin.lenOf, hn, h63', h48', Question.forced, hf, hfo, newRow, grownCap]
    · exact run_append_grow (P := P) w t ty e i z ht hi hz b sLen sCap olds hlo holds a m c2 vs hl hc hg h63 hfit
  | str hu h1 s =>
    have hn : ¬ (sLen + s.size ≤ sCap) := by omega
    have h63' : ¬ (9223372036854775807 < ((sLen : Int) + (s.size : Int))) := by omega
    have h48' : ¬ (281474976710656 < Builtin.nextslicecap (sLen + s.size) sCap * i.bytes) := by omega
    have hf := run_firstCells_string (P := P) w.drew i.size s
    have hfo := run_firstCells_some (P := P) w.drew i.size sLen b sLen sCap olds hlo (by simpa using holds)
    simp [Builtin.append_, run_underlying ht, run_underlying hu, sizeOf, typeInfo, zeroValue, hi, hz, Builtin.lenOf, hn, h63', h48', Question.forced, hf, hfo, newRow, grownCap]
    congr 2
    apply Array.ext'
    simp [List.append_assoc]
theorem Src.room {t u ty e m : Nat} {i : TypeInfo} {v : Value} {vs : List Value} (h : Src P w t u i.size v m vs) (ht : P.underlying t = some (.slice e)) (hi : P.info? e = some i)
    (b off sLen sCap : Nat) (h1 : ∀ u ∈ vs, u.oneCell' = true) (hroom : sLen + m ≤ sCap) (hc : ∀ j, j < vs.length → (w.cell? ⟨b, off + sLen * i.size + j, none⟩).isSome = true) (hf : ∀ j, j < vs.length → w.frozen? ⟨b, off + sLen * i.size + j, none⟩ = false) :
    (Builtin.append_ #[t, u] ty #[.slice (some ⟨b, off, none⟩) sLen sCap, v]).run P w = .ok (.slice (some ⟨b, off, none⟩) (sLen + m) sCap) (w.setCells b (off + sLen * i.size) vs) := by
  have hst := run_storeCells_cells (P := P) b (off + sLen * i.size) vs 0 w (by simpa using hc) (by simpa using hf) h1
  simp only [Nat.add_zero] at hst
  cases h with
  | row h a _ c2 vs hl hcc =>
    subst h
    rcases hcc with rfl | ⟨a, rfl, hcc⟩
    · obtain rfl : vs = [] := List.eq_nil_of_length_eq_zero (by simpa using hl)
      rw [run_append_zero t ty e i ht hi _ a sLen sCap c2 (by simpa using hroom)]
      rfl
    · exact run_append_room_cells (P := P) w t ty e i ht hi b off sLen sCap a m c2 vs hl hcc h1 hroom hc hf
  | str hu h1' s =>
    have hfc := run_firstCells_string (P := P) w i.size s
    simp [Builtin.append_, run_underlying ht, run_underlying hu, sizeOf, typeInfo, hi, Builtin.lenOf, hroom, hfc, Addr.add_lit, hst]
/-- what the second argument says of itself -/
theorem src_of (hE : EnvOk P E) (hw : W M w0 H0 H β T s.bx w) {t : Nat × Nat} {X : Type} {sz : Nat} {cs : X → List SV} {e : X} {ys : List X} (hsz : 0 < sz) {y : SV} {vy : Value} (hy : G H β T y vy) (hs : Sub (rowD E t y) (.row X sz cs e ys)) :
    ∃ vs, vs.length = ys.length * sz ∧ (∀ i, i < ys.length → (cs (ys.getD i e)).length = sz) ∧ (∀ i j, i < ys.length → j < sz → G H noB noT (at' (cs (ys.getD i e)) j .junk) (vs.getD (i * sz + j) undef)) ∧ Src P w t.1 t.2 sz vy ys.length vs := by
  unfold rowD at hs
  cases hb : Nat.beq t.1 t.2 with
  | true =>
    rw [hb] at hs
    have hgy := hy.sub hs
    obtain ⟨ay, ny, cy, rfl⟩ : ∃ ad n c, vy = .slice ad n c := by cases hgy <;> exact ⟨_, _, _, rfl⟩
    obtain ⟨rfl, zy, vs, hvs, gy, hya⟩ := row_cells hsz hgy
    refine ⟨vs, hvs, zy, gy, .row (Nat.eq_of_beq_eq_true hb) _ _ _ vs hvs ?_⟩
    rcases hya with rfl | ⟨b, off, rfl, hH⟩
    · exact .inl rfl
    · refine .inr ⟨_, rfl, fun j u e => ?_⟩
      have hj := (List.getElem?_eq_some_iff.1 e).1
      rw [add_none, (hw.lies _ _ _ (hH j hj)).1, List.getD, e]; rfl
  | false =>
    rw [hb] at hs
    simp only at hs
    have nojunk : ∀ {p}, Sub .junk (.row X sz cs e ys) → p := by intro p h; cases h
    cases hst : strT E.ty t.2 with
    | false => rw [hst] at hs; exact nojunk hs
    | true =>
      rw [hst] at hs
      simp only at hs
      cases y with
      | val v =>
        cases v with
        | string b =>
          have hv : vy = .string b := by cases hy; rfl
          subst hv
          have hu : P.underlying t.2 = some .string := by
            have : ∀ (l : List (Nat × TI)), (∀ t ti, (t, ti) ∈ l → TOk P t ti) → strT l t.2 = true → P.underlying t.2 = some .string := by
              intro l
              induction l with
              | nil => intro _ h; cases h
              | cons p r ih =>
                obtain ⟨k, v⟩ := p
                intro h1 h2
                unfold strT at h2
                cases hk : Nat.beq k t.2 with
                | true =>
                  rw [hk] at h2
                  obtain ⟨d, hd, -, -, hs, -⟩ := (h1 _ _ List.mem_cons_self).und
                  rw [← Nat.eq_of_beq_eq_true hk, hd, hs h2]
                | false =>
                  rw [hk] at h2
                  exact ih (fun t ti h => h1 t ti (List.mem_cons_of_mem _ h)) h2
            exact this E.ty hE.ty hst
          simp only at hs
          cases hs with
          | refl =>
            refine ⟨strCells b, by rw [strCells_length, Nat.mul_one]; rfl, fun i hi => rfl, fun i j hi hj => ?_, ?_⟩
            · obtain rfl : j = 0 := by omega
              have e1 : (strCells b).getD (i * 1 + 0) undef = .int .u8 ((b.data.toList.getD i 0).toNat : Int) := by
                simp only [strCells, Nat.mul_one, Nat.add_zero, List.getD, List.getElem?_map]
                rw [List.getElem?_eq_getElem hi]; rfl
              rw [e1]
              exact .val _
            · have := Src.str (P := P) (w := w) (t := t.1) (u := t.2) (sz := 1) hu rfl b
              exact this
        | _ => exact nojunk hs
      | _ => exact nojunk hs
theorem app_sound (hE : EnvOk P E) {o : Oper} {Q : Exit → Act → World → Prop} {next : Act → World → Prop} {K : ASt → Prop} (hr : Rel M w0 H0 s a w) {x y : Operand} {t : Nat × Nat} {d : Nat} (ho : isApp o.op = some (x, y, t)) (hd : o.dst = some d)
    (hk : appK E d t (ev s x) (ev s y) s K) (hn : ∀ s' a' w', K s' → Rel M w0 H0 s' a' w' → next a' w') : o.wp P a w next Q := by
  obtain ⟨H, β, T, hf, hw⟩ := hr
  unfold appK at hk
  simp only [force_eq] at hk
  obtain ⟨ti, hti, hk⟩ := tiK_elim hk
  cases hsl : ti.slice with
  | false => rw [hsl] at hk; exact hk.elim
  | true =>
  rw [hsl] at hk
  obtain ⟨ui, hui, hk⟩ := tiK_elim hk
  cases h1 : Nat.beq ui.zero.length ui.size with
  | false => rw [h1] at hk; exact hk.elim
  | true =>
  rw [h1] at hk
  simp only at hk
  cases h2 : Nat.ble 1 ui.size with
  | false => rw [h2] at hk; exact hk.elim
  | true =>
  rw [h2] at hk
  simp only at hk
  cases h3 : Nat.ble 1 ui.bytes with
  | false => rw [h3] at hk; exact hk.elim
  | true =>
  rw [h3] at hk
  simp only at hk
  have g1 := Nat.eq_of_beq_eq_true h1
  have hsz : 0 < ui.size := Nat.le_of_ble_eq_true h2
  have hby : 0 < ui.bytes := Nat.le_of_ble_eq_true h3
  obtain ⟨X, cs, e, l, ys, id, ⟨hsx, hsy⟩, hok, hbytes, hk⟩ := hk
  simp only [Tr.putK_eq] at hk
  obtain ⟨dd, hdd, -, hds, -⟩ := (hE.ty _ _ hti).und
  obtain rfl := hds hsl
  obtain ⟨i, hi, hisz, hiby, hzero⟩ := (hE.ty _ _ hui).inf
  obtain ⟨z, hz1, hz2⟩ := hzero (by intro c; rw [c] at g1; simp at g1; omega)
  have hzs : z.cells.size = ui.size := by rw [← Array.length_toList, hz2, g1]
  have hgx := (ev_G hf x).sub hsx
  obtain ⟨vs, hvs, zy, gy, hsrc⟩ := src_of hE hw hsz (ev_G hf y) hsy
  have hgr := hgx.sub (.own ..)
  generalize hax : a.eval x = vx at hgx hgr
  generalize hay : a.eval y = vy at hsrc
  obtain ⟨ax, nx, cx, rfl⟩ : ∃ ad n c, vx = .slice ad n c := by cases hgx <;> exact ⟨_, _, _, rfl⟩
  obtain ⟨rfl, zx, us, hus, gx, hxa⟩ := row_cells hsz hgr
  have hmul : l.length + ys.length ≤ 140737488355328 := Nat.le_trans (Nat.le_mul_of_pos_right _ hby) hbytes
  have hf0 := hf.dgr id d
  have hw0 := hw.dgr id d
  have fin : ∀ (H' : HM) (T' : TM) (w' : World) (val : Value), HLe H H' → TLe (drop2 id d T) T' → W M w0 H0 H' β T' (dgrB id d s.bx) w' → G H' β T' (.own X ui.size cs e (l ++ ys) d) val →
      (Builtin.append_ #[t.1, t.2] o.type #[.slice ax l.length cx, vy]).run P w = .ok val w' → o.wp P a w next Q := by
    intro H' T' w' val g2 g3 g4 g5 g6
    unfold Oper.wp execOp
    simp only [isApp_eq ho, resolve, invoke, builtin, Sem.run_bind, Sem.run_pure, Result.andThen_ok, List.map_toArray, List.map_cons, List.map_nil, hax, hay, g6]
    show next (a.put o.dst val) w'
    rw [hd]
    exact hn _ _ _ hk ⟨H', β, T', (hf0.mono g2 (.refl _) g3).put' g5 (some d), g4⟩
  -- a new block
  have fresh : ∀ (arr : Array Value) (c : Nat), arr.size = c * ui.size → l.length + ys.length ≤ c → (∀ q, q < (l.length + ys.length) * ui.size → arr.getD q undef = (us ++ vs).getD q undef) →
      (Builtin.append_ #[t.1, t.2] o.type #[.slice ax l.length cx, vy]).run P w = .ok (.slice (some ⟨w.heap.size, 0, none⟩) (l.length + ys.length) c) (w.drew.alloc (.cells arr ti.elem)) → o.wp P a w next Q := by
    intro arr c hsize hc hcells hrun
    have hwd := hw0.drew
    have hNs : w.drew.heap.size = w.heap.size := rfl
    have hwa := hwd.heap_eq (w' := w.drew.alloc (.cells arr ti.elem)) (hwd.keep.alloc _) (fun b o v e => cell_alloc e) (fun b hb => Below.heap_alloc _ _ _ hb) (by simp)
    have hlen : (us ++ vs).length = (l.length + ys.length) * ui.size := by rw [List.length_append, hus, hvs, Nat.add_mul]
    have hcs : (l.length + ys.length) * ui.size ≤ c * ui.size := Nat.mul_le_mul_right _ hc
    have hcell : ∀ q, q < c * ui.size → (w.drew.alloc (.cells arr ti.elem)).cell? ⟨w.heap.size, q, none⟩ = some (arr.getD q undef) := fun q hq => by
      rw [← hNs, World.cell?_alloc_new]
      simp [show q < arr.size by omega]
    have hfree : Free M w0 H β (drop2 id d T) (dgrB id d s.bx) (w.drew.alloc (.cells arr ti.elem)) w.heap.size 0 (c * ui.size) :=
      ⟨.inr hw.keep.size, fun i c => (by have := (hw0.bβ _ _ c).1; omega), fun q _ hq => ⟨by rw [hcell q hq]; rfl, World.frozen?_alloc_new (w := w.drew) arr ti.elem q, (no_new hwd q).1, (no_new hwd q).2⟩, fun X e c => absurd (X.inw _ (hwd.side X e).1 _ c) (Nat.lt_irrefl _)⟩
    obtain ⟨b1, b2, b3⟩ := hwa.claim (d := d) hfree (us ++ vs) (by rw [hlen]; omega) (fun j hj => by rw [Nat.zero_add, hcell j (by omega), hcells j (by omega)])
    refine fin _ _ _ _ b1 b2 b3 (G_own b1 hsz hc hus hvs zx zy gx gy (fun q hq => ?_) (fun q h4 h5 => ?_)) hrun
    · unfold hput
      rw [if_pos ⟨rfl, by omega, by omega⟩]; simp
    · unfold tput
      rw [if_pos ⟨rfl, by omega, by omega⟩]
  have olds_at : ∀ (b off : Nat), (∀ q, q < us.length → H b (off + q) = some (us.getD q undef)) → ∀ j u, us[j]? = some u → w.cell? ((⟨b, off, none⟩ : Addr).add j) = some u := by
    intro b off h j u e
    have hj := (List.getElem?_eq_some_iff.1 e).1
    rw [add_none, (hw.lies _ _ _ (h j hj)).1, List.getD, e]; rfl
  rw [← hisz] at hsrc
  cases hgx with
  | ownE =>
    by_cases hm : ys.length = 0
    · obtain rfl : ys = [] := List.eq_nil_of_length_eq_zero hm
      exact fin H _ w (.slice ax 0 0) (.refl _) (.refl _) hw0 (by simpa using G.ownE ..) (Src.zero hsrc hdd hi ax 0 0 (Nat.le_refl _))
    · have husn : us = [] := List.eq_nil_of_length_eq_zero (by rw [hus]; simp)
      subst husn
      cases ax with
      | some bb =>
        have hge := grownCap_ge w (0 + ys.length) 0 ti.elem
        have hr := Src.grow (ty := o.type) hsrc hdd hi hz1 bb 0 0 [] (by simp) (by simp)
          (by omega) (by omega) (growslice_fits (by omega) (by rw [hiby]; simp at hbytes ⊢; omega))
        refine fresh _ _ ?_ (by simpa using hge) ?_ (by simpa using hr)
        · rw [Array.size_append, size_zeroCells, hzs, List.size_toArray, hvs, ← Nat.add_mul]; congr 1; simp at hge; omega
        · intro q hq
          simp only [List.length_nil, Nat.zero_add] at hq
          rw [Array.getD_eq_getD_getElem?, Array.getElem?_append_left (by simp; omega)]
          simp [List.getD]
      | none =>
        have hge := grownCap_ge w ys.length 0 ti.elem
        have hr := Src.onNil (ty := o.type) hsrc hdd hi hz1 (by omega) (by omega) (by rw [hiby]; simp at hbytes; omega)
        refine fresh (vs.toArray ++ Builtin.zeroCells z.cells (grownCap w ys.length 0 ti.elem - ys.length)) (grownCap w ys.length 0 ti.elem) ?_ (by simpa using hge) ?_ (by simpa using hr)
        · rw [Array.size_append, size_zeroCells, hzs, List.size_toArray, hvs, ← Nat.add_mul]; congr 1; omega
        · intro q hq
          simp only [List.length_nil, Nat.zero_add] at hq
          rw [Array.getD_eq_getD_getElem?, Array.getElem?_append_left (by rw [List.size_toArray]; omega)]
          simp [List.getD]
  | own _ _ _ _ _ _ b off _ us' hc' hz' hH' hG' hT =>
    have hxa' : ∀ q, q < us.length → H b (off + q) = some (us.getD q undef) := by
      rcases hxa with rfl | ⟨b2, off2, e2, hH⟩
      · intro q hq; rw [hus] at hq; simp at hq
      · cases e2; exact hH
    have tailfree : Free M w0 H β (drop2 id d T) (dgrB id d s.bx) w b (off + l.length * ui.size) (off + cx * ui.size) ∨ cx * ui.size ≤ l.length * ui.size := by
      by_cases hroom : cx * ui.size ≤ l.length * ui.size
      · exact .inr hroom
      · refine .inl ⟨(hw.tail _ _ _ (hT (off + l.length * ui.size) (Nat.le_refl _) (by omega))).1, hw.sep _ _ _ (hT (off + l.length * ui.size) (Nat.le_refl _) (by omega)), fun q h4 h5 => ?_, fun X e c => by
          have := (((hw.side X (dgrB_side e)).2 b c).2.1 (off + l.length * ui.size)).2
          rw [hT (off + l.length * ui.size) (Nat.le_refl _) (by omega)] at this; cases this⟩
        have ht := hT q h4 h5
        obtain ⟨-, a2, a3⟩ := hw.tail _ _ _ ht
        refine ⟨a2, a3, ?_, drop2_gone ht⟩
        cases eh : H b q with
        | none => rfl
        | some v => have := (hw.lies _ _ _ eh).2; rw [ht] at this; cases this

    by_cases hroom : l.length + ys.length ≤ cx
    · have hcm : (l.length + ys.length) * ui.size ≤ cx * ui.size := Nat.mul_le_mul_right _ hroom
      rw [Nat.add_mul] at hcm
      have hadd : (l.length + ys.length) * ui.size = l.length * ui.size + ys.length * ui.size := Nat.add_mul ..
      have done : ∀ (w' : World), W M w0 H0 H β (drop2 id d T) (dgrB id d s.bx) w' → Free M w0 H β (drop2 id d T) (dgrB id d s.bx) w' b (off + l.length * ui.size) (off + cx * ui.size) →
          (∀ j, j < vs.length → w'.cell? ⟨b, off + l.length * ui.size + j, none⟩ = some (vs.getD j undef)) →
          (Builtin.append_ #[t.1, t.2] o.type #[.slice (some ⟨b, off, none⟩) l.length cx, vy]).run P w = .ok (.slice (some ⟨b, off, none⟩) (l.length + ys.length) cx) w' → o.wp P a w next Q := by
        intro w' hw' hfr hcell hrun
        obtain ⟨b1, b2, b3⟩ := hw'.claim (d := d) hfr vs (by omega) hcell
        refine fin _ _ _ _ b1 b2 b3 (G_own b1 hsz hroom hus hvs zx zy gx gy (fun q hq => ?_) (fun q h4 h5 => ?_)) hrun
        · by_cases hq2 : q < us.length
          · rw [b1 _ _ _ (hxa' q hq2)]
            simp [List.getD, List.getElem?_append_left hq2]
          · unfold hput
            rw [if_pos ⟨rfl, by omega, by omega⟩]
            simp only [List.getD, List.getElem?_append_right (show us.length ≤ q by omega)]
            rw [show off + q - (off + l.length * ui.size) = q - us.length by omega]
        · unfold tput
          rw [if_pos ⟨rfl, by omega, by omega⟩]
      rcases tailfree with hfr | hno
      · obtain ⟨p1, p2, p3⟩ := hw0.poke hfr vs (by omega)
        refine done _ p1 p2 p3 ?_
        have := Src.room (ty := o.type) hsrc hdd hi b off l.length cx ?_ hroom
          (fun j hj => by rw [hisz]; exact (hfr.cell _ (by omega) (by omega)).1) (fun j hj => by rw [hisz]; exact (hfr.cell _ (by omega) (by omega)).2.1)
        · rwa [hisz] at this
        · intro u hu
          obtain ⟨q, hq, rfl⟩ := List.getElem_of_mem hu
          have hq' : q < ys.length * ui.size := by omega
          have hdv : q / ui.size < ys.length := Nat.div_lt_of_lt_mul (by rw [Nat.mul_comm]; exact hq')
          have hmd := Nat.mod_lt q hsz
          have := gy (q / ui.size) (q % ui.size) hdv hmd
          rw [Nat.mul_comm, Nat.div_add_mod, getD_get _ _ hq] at this
          exact cellOk_one (allOk_at (hok _) _ (by rw [zy _ hdv]; exact hmd)) this
      · have hcl : cx ≤ l.length := Nat.le_of_mul_le_mul_right hno hsz
        have hy0 : ys.length = 0 := by omega
        obtain rfl : ys = [] := List.eq_nil_of_length_eq_zero hy0
        refine fin H _ w _ (.refl _) (.refl _) hw0 ?_ (Src.zero hsrc hdd hi (some ⟨b, off, none⟩) l.length cx hc')
        rw [List.append_nil]
        exact .own X ui.size cs e l d b off cx us' hc' hz' hH' hG' (fun q h4 h5 => by omega)
    · have hge := grownCap_ge w (l.length + ys.length) cx ti.elem
      have hr := Src.grow (ty := o.type) hsrc hdd hi hz1 ⟨b, off, none⟩ l.length cx us (by rw [hisz]; exact hus) (olds_at b off hxa')
          (by omega) (by omega) (growslice_fits (by omega) (by rw [hiby]; exact hbytes))
      refine fresh _ _ ?_ hge ?_ hr
      · rw [Array.size_append, Array.size_append, size_zeroCells, hzs, List.size_toArray, List.size_toArray, hus, hvs, ← Nat.add_mul, ← Nat.add_mul]; congr 1; omega
      · intro q hq
        have hq2 : q < us.length + vs.length := by rw [hus, hvs, ← Nat.add_mul]; exact hq
        rw [Array.getD_eq_getD_getElem?, Array.getElem?_append_left (by simp; omega)]
        simp [List.getD]

/-! ### Rows that may be written -/
theorem appV_sound (hE : EnvOk P E) {o : Oper} {Q : Exit → Act → World → Prop} {next : Act → World → Prop} {K : ASt → Prop} (hr : Rel M w0 H0 s a w) {x y : Operand} {t : Nat × Nat} {d : Nat} (ho : isApp o.op = some (x, y, t)) (hd : o.dst = some d)
    (hk : appV E d t (ev s x) (ev s y) s K) (hn : ∀ s' a' w', K s' → Rel M w0 H0 s' a' w' → next a' w') : o.wp P a w next Q := by
  obtain ⟨H, β, T, hf, hw⟩ := hr
  unfold appV at hk
  cases htu : Nat.beq t.1 t.2 with
  | false => rw [htu] at hk; exact hk.elim
  | true =>
  rw [htu] at hk
  simp only at hk
  have htu2 := Nat.eq_of_beq_eq_true htu
  obtain ⟨t, t2⟩ := t
  simp only at htu2
  subst htu2
  obtain ⟨ti, hti, hk⟩ := tiK_elim hk
  cases hsl : ti.slice with
  | false => rw [hsl] at hk; exact hk.elim
  | true =>
  rw [hsl] at hk
  obtain ⟨ui, hui, hk⟩ := tiK_elim hk
  cases h1 : Nat.beq ui.zero.length ui.size with
  | false => rw [h1] at hk; exact hk.elim
  | true =>
  rw [h1] at hk
  simp only at hk
  cases h2 : Nat.ble 1 ui.size with
  | false => rw [h2] at hk; exact hk.elim
  | true =>
  rw [h2] at hk
  simp only at hk
  cases h3 : Nat.ble 1 ui.bytes with
  | false => rw [h3] at hk; exact hk.elim
  | true =>
  rw [h3] at hk
  simp only at hk
  cases hdm : Nat.blt d 1000 with
  | false => rw [hdm] at hk; exact hk.elim
  | true =>
  rw [hdm] at hk
  simp only at hk
  cases hd0 : s.bx.get d (some []) with
  | some _ => rw [hd0] at hk; exact hk.elim
  | none =>
  rw [hd0] at hk
  simp only at hk
  have g1 := Nat.eq_of_beq_eq_true h1
  have hsz : 0 < ui.size := Nat.le_of_ble_eq_true h2
  have hby : 0 < ui.bytes := Nat.le_of_ble_eq_true h3
  obtain ⟨X, cs, e, ys, ⟨hsx, hsy⟩, hcs, hbytes, hk⟩ := hk
  simp only [Tr.putK_eq] at hk
  obtain ⟨dd, hdd, -, hds, -⟩ := (hE.ty _ _ hti).und
  obtain rfl := hds hsl
  obtain ⟨i, hi, hisz, hiby, hzero⟩ := (hE.ty _ _ hui).inf
  obtain ⟨z, hz1, hz2⟩ := hzero (by intro c; rw [c] at g1; simp at g1; omega)
  have hzs : z.cells.size = ui.size := by rw [← Array.length_toList, hz2, g1]
  have hgx := (ev_G hf x).sub hsx
  have hgy := (ev_G hf y).sub hsy
  generalize hax : a.eval x = vx at hgx
  generalize hay : a.eval y = vy at hgy
  obtain ⟨ay, ny, cy, rfl⟩ : ∃ ad n c, vy = .slice ad n c := by cases hgy <;> exact ⟨_, _, _, rfl⟩
  cases hgx with
  | e0 ax =>
  obtain ⟨rfl, zy, vs, hvs, gy, hya⟩ := row_cells hsz hgy
  have hmul : ys.length ≤ 140737488355328 := Nat.le_trans (Nat.le_mul_of_pos_right _ hby) hbytes
  have fin : ∀ (β' : BM) (w' : World) (val : Value), BLe β β' → W M w0 H0 H β' T (s.bx.put d (some [.many X ui.size cs e ys])) w' → G H β' T (.arr d ui.size 0 ys.length none) val →
      (Builtin.append_ #[t, t] o.type #[.slice ax 0 0, .slice ay ys.length cy]).run P w = .ok val w' → o.wp P a w next Q := by
    intro β' w' val g2 g4 g5 g6
    unfold Oper.wp execOp
    simp only [isApp_eq ho, resolve, invoke, builtin, Sem.run_bind, Sem.run_pure, Result.andThen_ok, List.map_toArray, List.map_cons, List.map_nil, hax, hay, g6]
    show next (a.put o.dst val) w'
    rw [hd]
    exact hn _ _ _ hk ⟨H, β', T, (hf.mono (.refl _) g2 (.refl _)).put' g5 (some d), g4⟩
  rcases hya with rfl | ⟨b, off, rfl, hH⟩
  · exact fin β w (.slice ax 0 0) (.refl _) (hw.newEmpty hd0 (.inl (by have := Nat.le_of_ble_eq_true hdm; omega)) e ⟨hsz, hcs⟩) (.arrE ..) (run_append_zero t o.type ti.elem i hdd hi ax ay 0 0 cy (Nat.le_refl _))
  · have news_at : ∀ j u, vs[j]? = some u → w.cell? ((⟨b, off, none⟩ : Addr).add j) = some u := by
      intro j u e
      have hj := (List.getElem?_eq_some_iff.1 e).1
      rw [add_none, (hw.lies _ _ _ (hH j hj)).1, List.getD, e]; rfl
    by_cases hm : ys.length = 0
    · obtain rfl : ys = [] := List.eq_nil_of_length_eq_zero hm
      exact fin β w (.slice ax 0 0) (.refl _) (hw.newEmpty hd0 (.inl (by have := Nat.le_of_ble_eq_true hdm; omega)) e ⟨hsz, hcs⟩) (.arrE ..) (run_append_zero t o.type ti.elem i hdd hi ax _ 0 0 cy (Nat.le_refl _))
    · have fresh : ∀ (arr : Array Value) (c : Nat), ys.length ≤ c → vs.length ≤ arr.size → (∀ q, q < vs.length → arr.getD q undef = vs.getD q undef) →
          (Builtin.append_ #[t, t] o.type #[.slice ax 0 0, .slice (some ⟨b, off, none⟩) ys.length cy]).run P w = .ok (.slice (some ⟨w.heap.size, 0, none⟩) ys.length c) (w.drew.alloc (.cells arr ti.elem)) → o.wp P a w next Q := by
        intro arr c hc hsize hcells hrun
        have hcs' : ∀ x, (cs x).length = ui.size := fun x => (hcs x).1
        obtain ⟨hle, hw'⟩ := hw.drew.newBox hdm hd0 (cs := [.many X ui.size cs e ys]) (vs := arr) (t := ti.elem) (by show ys.length * ui.size ≤ _; omega) (fun j hj => by
          replace hj : j < ys.length * ui.size := hj
          have h1 : j / ui.size < ys.length := by rw [Nat.div_lt_iff_lt_mul hsz]; exact hj
          have h2 : j % ui.size < ui.size := Nat.mod_lt _ hsz
          have h3 : j / ui.size * ui.size + j % ui.size = j := by rw [Nat.mul_comm]; exact Nat.div_add_mod j ui.size
          show G H β T (at' (cs (ys.getD (j / ui.size) e)) (j % ui.size) .junk) _
          rw [hcells j (by omega)]
          have := gy (j / ui.size) (j % ui.size) h1 h2
          rw [h3] at this
          exact this.mono (.refl _) (noB_le _) (noT_le _)) (fun X' sz' c' d' l' ee => by cases ee; exact ⟨hsz, hcs⟩)
        refine fin _ _ _ hle hw' ?_ hrun
        have := G.arr (H := H) (β := bset β d w.drew.heap.size) (T := T) d ui.size 0 ys.length none w.heap.size c (by simp [bset]) hc (fun c' e => by cases e)
        rw [Nat.zero_mul] at this
        exact this
      cases ax with
      | none =>
        have hge := grownCap_ge w ys.length 0 ti.elem
        have hr := run_append_nil (P := P) w t o.type ti.elem i z hdd hi hz1 ⟨b, off, none⟩ ys.length cy vs (by rw [hisz]; exact hvs) news_at (by omega) (by omega) (by rw [hiby]; omega)
        refine fresh _ _ (by simpa using hge) ?_ ?_ hr
        · rw [Array.size_append, List.size_toArray]; omega
        · intro q hq
          rw [Array.getD_eq_getD_getElem?, Array.getElem?_append_left (by rw [List.size_toArray]; omega)]
          simp [List.getD]
      | some bb =>
        have hge := grownCap_ge w (0 + ys.length) 0 ti.elem
        have hr := run_append_grow (P := P) w t o.type ti.elem i z hdd hi hz1 bb 0 0 [] (by simp) (by simp) ⟨b, off, none⟩ ys.length cy vs (by rw [hisz]; exact hvs) news_at
          (by omega) (by omega) (growslice_fits (by omega) (by rw [hiby]; simp; omega))
        refine fresh _ _ (by simpa using hge) ?_ ?_ (by simpa using hr)
        · rw [Array.size_append, List.size_toArray]; omega
        · intro q hq
          rw [Array.getD_eq_getD_getElem?, Array.getElem?_append_left (by simp; omega)]
          simp [List.getD]

theorem appX_sound (hE : EnvOk P E) {o : Oper} {Q : Exit → Act → World → Prop} {next : Act → World → Prop} {K : ASt → Prop} (hr : Rel M w0 H0 s a w) {x y : Operand} {t : Nat × Nat} {d : Nat} (ho : isApp o.op = some (x, y, t)) (hd : o.dst = some d)
    {b z q n : Nat} {cap : Option Nat} (hex : ev s x = .arr b z q n cap) (hk : appX E d t b z q n cap (ev s y) s K) (hn : ∀ s' a' w', K s' → Rel M w0 H0 s' a' w' → next a' w') : o.wp P a w next Q := by
  obtain ⟨H, β, T, hf, hw⟩ := hr
  unfold appX at hk
  cases htu : Nat.beq t.1 t.2 with
  | false => rw [htu] at hk; exact hk.elim
  | true =>
  rw [htu] at hk
  simp only at hk
  have htu2 := Nat.eq_of_beq_eq_true htu
  obtain ⟨t, t2⟩ := t
  simp only at htu2
  subst htu2
  obtain ⟨ti, hti, hk⟩ := tiK_elim hk
  cases hsl : ti.slice with
  | false => rw [hsl] at hk; exact hk.elim
  | true =>
  rw [hsl] at hk
  obtain ⟨ui, hui, hk⟩ := tiK_elim hk
  cases h1 : Nat.beq ui.zero.length ui.size with
  | false => rw [h1] at hk; exact hk.elim
  | true =>
  rw [h1] at hk
  simp only at hk
  cases h2 : Nat.ble 1 ui.size with
  | false => rw [h2] at hk; exact hk.elim
  | true =>
  rw [h2] at hk
  simp only at hk
  cases h3 : Nat.ble 1 ui.bytes with
  | false => rw [h3] at hk; exact hk.elim
  | true =>
  rw [h3] at hk
  simp only at hk
  cases hz : Nat.beq z ui.size with
  | false => rw [hz] at hk; exact hk.elim
  | true =>
  rw [hz] at hk
  simp only at hk
  obtain rfl := Nat.eq_of_beq_eq_true hz
  cases hb : s.bx.get b none with
  | none => rw [hb] at hk; exact hk.elim
  | some cs0 =>
  rw [hb] at hk
  simp only at hk
  obtain ⟨X, sz, cs, e, l, ee, hkm⟩ := manyK_elim hk
  subst ee
  replace hk := hkm
  clear hkm
  cases hbz : Nat.beq ui.size sz with
  | false => rw [hbz] at hk; exact hk.elim
  | true =>
  rw [hbz] at hk
  simp only at hk
  obtain rfl := Nat.eq_of_beq_eq_true hbz
  have g1 := Nat.eq_of_beq_eq_true h1
  have hsz : 0 < ui.size := Nat.le_of_ble_eq_true h2
  have hby : 0 < ui.bytes := Nat.le_of_ble_eq_true h3
  rcases hk with ⟨ys, ⟨hcap, hqn, hpos, hsy⟩, hbytes, hk⟩ | ⟨hsy, hk⟩
  case inr =>
    simp only [Tr.putK_eq] at hk
    obtain ⟨dd, hdd, -, hds, -⟩ := (hE.ty _ _ hti).und
    obtain rfl := hds hsl
    obtain ⟨i, hi, -⟩ := (hE.ty _ _ hui).inf
    have hgx := ev_G hf x
    have hgy := (ev_G hf y).sub hsy
    rw [hex] at hgx
    generalize hax : a.eval x = vx at hgx
    generalize hay : a.eval y = vy at hgy
    obtain ⟨ay, cy, rfl⟩ : ∃ ad c, vy = .slice ad 0 c := by cases hgy <;> exact ⟨_, _, rfl⟩
    obtain ⟨ax, cx, rfl, hle⟩ : ∃ ad c, vx = .slice ad n c ∧ n ≤ c := by
      cases hgx with
      | arr _ _ _ _ _ k c h hc he => exact ⟨_, _, rfl, hc⟩
      | arrE => exact ⟨_, _, rfl, Nat.zero_le _⟩
    have hgz : ∀ T', G H β T' (.arr b ui.size q n cap) (.slice ax n cx) := fun T' => by
      cases hgx with
      | arr _ _ _ _ _ k c h hc he => exact .arr _ _ _ _ _ k _ h hc he
      | arrE => exact .arrE ..
    have hr := run_append_zero (w := w) t o.type ti.elem i hdd hi ax ay n cx cy hle
    have hf0 := hf.dgr d d
    have hw0 := hw.dgr d d
    unfold Oper.wp execOp
    simp only [isApp_eq ho, resolve, invoke, builtin, Sem.run_bind, Sem.run_pure, Result.andThen_ok, List.map_toArray, List.map_cons, List.map_nil, hax, hay, hr]
    show next (a.put o.dst _) _
    rw [hd]
    exact hn _ _ _ hk ⟨_, β, _, hf0.put' (hgz _) (some d), hw0⟩
  simp only [Tr.putK_eq] at hk
  obtain ⟨dd, hdd, -, hds, -⟩ := (hE.ty _ _ hti).und
  obtain rfl := hds hsl
  obtain ⟨i, hi, hisz, hiby, hzero⟩ := (hE.ty _ _ hui).inf
  obtain ⟨zv, hz1, hz2⟩ := hzero (by intro c; rw [c] at g1; simp at g1; omega)
  have hzs : zv.cells.size = ui.size := by rw [← Array.length_toList, hz2, g1]
  have hgx := ev_G hf x
  have hgy := (ev_G hf y).sub hsy
  rw [hex] at hgx
  generalize hax : a.eval x = vx at hgx
  generalize hay : a.eval y = vy at hgy
  obtain ⟨ay, ny, cy, rfl⟩ : ∃ ad n c, vy = .slice ad n c := by cases hgy <;> exact ⟨_, _, _, rfl⟩
  obtain ⟨rfl, zy, vs, hvs, gy, hya⟩ := row_cells hsz hgy
  obtain ⟨hz0, hzz⟩ := hw.many _ _ _ _ _ _ hb
  have hmul : n + ys.length ≤ 140737488355328 := Nat.le_trans (Nat.le_mul_of_pos_right _ hby) hbytes
  have hlx : ((l.drop q).take n).length = n := by simp; omega
  have hf0 := hf.dgr d d
  have hw0 := hw.dgr d d
  -- the row's own cells
  have hcellx : ∀ k, β b = some k → ∀ j, j < n * ui.size → ∃ u, w.cell? ⟨k, q * ui.size + j, none⟩ = some u ∧ G H noB noT (at' (cs (((l.drop q).take n).getD (j / ui.size) e)) (j % ui.size) .junk) u := by
    intro k hk j hj
    have h1 : j / ui.size < n := by rw [Nat.div_lt_iff_lt_mul hsz]; exact hj
    have h2 : j % ui.size < ui.size := Nat.mod_lt _ hsz
    have h3 : q * ui.size + j = (q + j / ui.size) * ui.size + j % ui.size := by
      have h0 : j = j / ui.size * ui.size + j % ui.size := by rw [Nat.mul_comm]; exact (Nat.div_add_mod j ui.size).symm
      rw [Nat.add_mul]; omega
    have h4 : q * ui.size + j < l.length * ui.size := by
      rw [h3]; exact many_lt (Nat.lt_of_lt_of_le (Nat.add_lt_add_left h1 q) hqn) h2
    obtain ⟨k2, hk2, -, hj2⟩ := hw.box b _ hb (by show 0 < l.length * ui.size; omega)
    obtain rfl : k = k2 := Option.some.inj (hk.symm.trans hk2)
    obtain ⟨-, -, -, u, hu, hg⟩ := hj2 _ h4
    refine ⟨u, hu, ?_⟩
    rw [h3, xat_many _ _ h2] at hg
    have h5 : ((l.drop q).take n).getD (j / ui.size) e = l.getD (q + j / ui.size) e := by simp [List.getElem?_take, h1, List.getElem?_drop]
    rw [h5]
    exact hg.imm (imms_at (hzz _).2.1 _ (by rw [(hzz _).1]; exact h2)) noB noT
  obtain ⟨ax, c, hvx, hcn, us, hus, holds, gx⟩ : ∃ ax c, vx = .slice (some ax) n c ∧ c = n ∧ ∃ us : List Value, us.length = n * ui.size ∧ (∀ j u, us[j]? = some u → w.cell? (ax.add j) = some u) ∧
      (∀ i j, i < n → j < ui.size → G H noB noT (at' (cs (((l.drop q).take n).getD i e)) j .junk) (us.getD (i * ui.size + j) undef)) := by
    cases hgx with
    | arrE => cases hcap
    | arr _ _ _ _ _ k c hβ hc he =>
      have hch := fun j hj => hcellx k hβ j hj
      refine ⟨⟨k, q * ui.size, none⟩, c, rfl, he n hcap, (List.range (n * ui.size)).map (fun j => (w.cell? ⟨k, q * ui.size + j, none⟩).getD undef), by simp, ?_, ?_⟩
      · intro j u e
        have hj : j < n * ui.size := by have := (List.getElem?_eq_some_iff.1 e).1; simpa using this
        obtain ⟨u', hu', -⟩ := hch j hj
        rw [add_none]
        simp [hj, hu'] at e
        rw [hu', e]
      · intro i j hi hj
        have hij : i * ui.size + j < n * ui.size := many_lt hi hj
        obtain ⟨u', hu', hg⟩ := hch _ hij
        have h1 : (i * ui.size + j) / ui.size = i := by rw [Nat.mul_comm, Nat.mul_add_div hsz, Nat.div_eq_of_lt hj, Nat.add_zero]
        have h2 : (i * ui.size + j) % ui.size = j := by rw [Nat.mul_comm, Nat.mul_add_mod, Nat.mod_eq_of_lt hj]
        rw [h1, h2] at hg
        have e2 : ((List.range (n * ui.size)).map (fun j => (w.cell? ⟨k, q * ui.size + j, none⟩).getD undef)).getD (i * ui.size + j) undef = u' := by
          rw [getD_get _ _ (by simpa using hij)]; simp [hu']
        rw [e2]; exact hg
  subst hvx hcn
  rcases hya with rfl | ⟨b2, off2, rfl, hH⟩
  · simp at hpos
  have news_at : ∀ j u, vs[j]? = some u → w.cell? ((⟨b2, off2, none⟩ : Addr).add j) = some u := by
    intro j u e
    have hj := (List.getElem?_eq_some_iff.1 e).1
    rw [add_none, (hw.lies _ _ _ (hH j hj)).1, List.getD, e]; rfl
  have hge := grownCap_ge w (c + ys.length) c ti.elem
  have hr := run_append_grow (P := P) w t o.type ti.elem i zv hdd hi hz1 ax c c us (by rw [hisz]; exact hus) holds ⟨b2, off2, none⟩ ys.length cy vs (by rw [hisz]; exact hvs) news_at
    (by omega) (by omega) (growslice_fits (by omega) (by rw [hiby]; exact hbytes))
  generalize harr : us.toArray ++ vs.toArray ++ Builtin.zeroCells zv.cells (grownCap w (c + ys.length) c ti.elem - (c + ys.length)) = arr at hr
  generalize hC : grownCap w (c + ys.length) c ti.elem = C at hr hge harr
  have hsize : arr.size = C * ui.size := by
    rw [← harr, Array.size_append, Array.size_append, size_zeroCells, hzs, List.size_toArray, List.size_toArray, hus, hvs, ← Nat.add_mul, ← Nat.add_mul]; congr 1; omega
  have hlen : (us ++ vs).length = (c + ys.length) * ui.size := by rw [List.length_append, hus, hvs, Nat.add_mul]
  have hcells : ∀ p, p < (c + ys.length) * ui.size → arr.getD p undef = (us ++ vs).getD p undef := by
    intro p hp
    have hq2 : p < us.length + vs.length := by rw [hus, hvs, ← Nat.add_mul]; exact hp
    rw [← harr, Array.getD_eq_getD_getElem?, Array.getElem?_append_left (by simp; omega)]
    simp [List.getD]
  have hwd := hw0.drew
  have hNs : w.drew.heap.size = w.heap.size := rfl
  have hwa := hwd.heap_eq (w' := w.drew.alloc (.cells arr ti.elem)) (hwd.keep.alloc _) (fun b o v e => cell_alloc e) (fun b hb => Below.heap_alloc _ _ _ hb) (by simp)
  have hcs : (c + ys.length) * ui.size ≤ C * ui.size := Nat.mul_le_mul_right _ hge
  have hcell : ∀ p, p < C * ui.size → (w.drew.alloc (.cells arr ti.elem)).cell? ⟨w.heap.size, p, none⟩ = some (arr.getD p undef) := fun p hp => by
    rw [← hNs, World.cell?_alloc_new]
    simp [show p < arr.size by omega]
  have hfree : Free M w0 H β (drop2 d d T) (dgrB d d s.bx) (w.drew.alloc (.cells arr ti.elem)) w.heap.size 0 (C * ui.size) :=
    ⟨.inr hw.keep.size, fun i c => (by have := (hw0.bβ _ _ c).1; omega), fun p _ hp => ⟨by rw [hcell p hp]; rfl, World.frozen?_alloc_new (w := w.drew) arr ti.elem p, (no_new hwd p).1, (no_new hwd p).2⟩, fun X e c => absurd (X.inw _ (hwd.side X e).1 _ c) (Nat.lt_irrefl _)⟩
  obtain ⟨b1, b3, b4⟩ := hwa.claim (d := d) hfree (us ++ vs) (by rw [hlen]; omega) (fun j hj => by rw [Nat.zero_add, hcell j (by omega), hcells j (by omega)])
  have hown := G_own (l := (l.drop q).take c) (d := d) b1 hsz (show ((l.drop q).take c).length + ys.length ≤ C by rw [hlx]; exact hge) (by rw [hlx]; exact hus) hvs (fun i _ => (hzz _).1) zy (by rw [hlx]; exact gx) gy (b := w.heap.size) (off := 0) (T' := tput (drop2 d d T) w.heap.size (0 + (us ++ vs).length) (C * ui.size) d) (β := β) (fun p hp => by
      rw [hlx] at hp
      unfold hput
      rw [if_pos ⟨rfl, by omega, by omega⟩]; simp) (fun p h4 h5 => by
      unfold tput
      rw [if_pos ⟨rfl, by rw [hlx] at h4; omega, by omega⟩])
  rw [hlx] at hown
  unfold Oper.wp execOp
  simp only [isApp_eq ho, resolve, invoke, builtin, Sem.run_bind, Sem.run_pure, Result.andThen_ok, List.map_toArray, List.map_cons, List.map_nil, hax, hay, hr]
  show next (a.put o.dst _) _
  rw [hd]
  exact hn _ _ _ hk ⟨_, β, _, (hf0.mono b1 (.refl _) b3).put' hown (some d), b4⟩

theorem memN_keys {tb : List (Nat × List SV)} {b : Nat} : memN (keysT tb) b = true ↔ ∃ cs, lookT tb b = some cs := by
  induction tb with
  | nil => simp [keysT, memN, lookT]
  | cons p r ih =>
    obtain ⟨x, cs⟩ := p
    simp only [keysT, memN, lookT]
    cases e : Nat.beq x b with
    | true => exact ⟨fun _ => ⟨cs, rfl⟩, fun _ => rfl⟩
    | false => exact ih
theorem kills_length (tb : List Nat) : ∀ l : List SV, (kill.kills tb l).length = l.length
  | [] => rfl
  | x :: xs => by simp [kill.kills, kills_length tb xs]
theorem kills_at (tb : List Nat) : ∀ (l : List SV) (j : Nat), at' (kill.kills tb l) j .junk = kill tb (at' l j .junk)
  | [], _ => rfl
  | x :: xs, 0 => rfl
  | x :: xs, j + 1 => kills_at tb xs j
theorem kill_mapOk (tb : List Nat) : MapOk (kill tb) (kill.kills tb) := by
  refine ⟨rfl, fun _ _ => rfl, fun x => ?_⟩
  cases x with
  | many X sz c d l => exact .inl ⟨rfl, rfl⟩
  | box b o => refine .inr ⟨rfl, ?_⟩; simp only [kill]; cases memN tb b <;> rfl
  | arr b z o n c => refine .inr ⟨rfl, ?_⟩; simp only [kill]; cases memN tb b <;> rfl
  | plc b z i o => refine .inr ⟨rfl, ?_⟩; simp only [kill]; cases memN tb b <;> rfl
  | _ => exact .inr ⟨rfl, rfl⟩
theorem G.kill {tb : List Nat} {H H' : HM} (hH : HLe H H') {β β' : BM} {T T' : TM} (hT : TLe T T') {x : SV} {v : Value} (h : G H β T x v) : (∀ b k, memN tb b = false → β b = some k → β' b = some k) → G H' β' T' (kill tb x) v := by
  induction h with
  | agg l vs hn h ih => intro hb; exact .agg _ vs (by rw [kills_length]; exact hn) fun j e => by rw [kills_at]; exact ih j (by rw [kills_length] at e; exact e) hT hb
  | tup l vs hn h ih => intro hb; exact .tup _ vs (by rw [kills_length]; exact hn) fun j e => by rw [kills_at]; exact ih j (by rw [kills_length] at e; exact e) hT hb
  | fn g l vs hn h ih => intro hb; exact .fn _ _ vs (by rw [kills_length]; exact hn) fun j e => by rw [kills_at]; exact ih j (by rw [kills_length] at e; exact e) hT hb
  | box b o k h =>
    intro hb
    simp only [Ax.kill]
    cases hm : memN tb b with
    | true => exact .junk _
    | false => exact .box b o k (hb b k hm h)
  | arr b z o n cap k c h hc he =>
    intro hb
    simp only [Ax.kill]
    cases hm : memN tb b with
    | true => exact .junk _
    | false => exact .arr b z o n cap k c (hb b k hm h) hc he
  | arrE b z o a c =>
    intro hb
    simp only [Ax.kill]
    cases hm : memN tb b with
    | true => exact .junk _
    | false => exact .arrE ..
  | plc b z i o k hi h =>
    intro hb
    simp only [Ax.kill]
    cases hm : memN tb b with
    | true => exact .junk _
    | false => exact .plc b z i o k hi (hb b k hm h)
  | val v => intros; exact .val v
  | tt => intros; exact .tt
  | ff => intros; exact .ff
  | junk v => intros; exact .junk v
  | nb Q b h => intros; exact .nb Q b h
  | ifc t v => intros; exact .ifc t v
  | e0 a => intros; exact .e0 a
  | rowE => intros; exact .rowE ..
  | row X sz cs d l b off c vs hc hz hh hg ih => intros; exact .row X sz cs d l b off c vs hc hz (fun i j a e => hH _ _ _ (hh i j a e)) (fun i j a e => (hg i j a e).mono hH (.refl _) (.refl _))
  | ownE => intros; exact .ownE ..
  | own X sz cs d l id b off c vs hc hz hh hg hT' ih => intros; exact .own X sz cs d l id b off c vs hc hz (fun i j a e => hH _ _ _ (hh i j a e)) (fun i j a e => (hg i j a e).mono hH (.refl _) (.refl _)) (fun o a e => hT _ _ _ (hT' o a e))
  | elt X sz cs d l i o b p vs hz hh hg ih => intros; exact .elt X sz cs d l i o b p vs hz (fun j e => hH _ _ _ (hh j e)) (fun j e => (hg j e).mono hH (.refl _) (.refl _))
theorem killT_get (tb : List Nat) : ∀ (t : Tr SV) (q : Nat), (killT tb t).get q .junk = kill tb (t.get q .junk)
  | .nil, _ => rfl
  | .node v l r, 0 => rfl
  | .node v l r, q + 1 => by
    simp only [killT, Tr.get]
    rcases Tr.half q with ⟨e, -⟩ | ⟨e, -⟩ <;> rw [e]
    · exact killT_get tb l _
    · exact killT_get tb r _
theorem killTK_eq (tb : List Nat) : ∀ (t : Tr SV) (k : Tr SV → Prop), killTK tb t k = k (killT tb t)
  | .nil, _ => rfl
  | .node v l r, k => by simp only [killTK, killT, force_eq, killTK_eq tb l, killTK_eq tb r]
theorem killBK_eq (tb : List Nat) : ∀ (t : Tr (Option (List SV))) (k : Tr (Option (List SV)) → Prop), killBK tb t k = k (killB tb t)
  | .nil, _ => rfl
  | .node none l r, k => by simp only [killBK, killB, killBK_eq tb l, killBK_eq tb r, Option.map_none]
  | .node (some cs) l r, k => by simp only [killBK, killB, forceL_eq, killBK_eq tb l, killBK_eq tb r, Option.map_some]
theorem killT_has (tb : List Nat) : ∀ (t : Tr SV) (q : Nat), (killT tb t).has q = t.has q
  | .nil, _ => rfl
  | .node v l r, 0 => rfl
  | .node v l r, q + 1 => by
    simp only [killT, Tr.has]
    rcases Tr.half q with ⟨e, -⟩ | ⟨e, -⟩ <;> rw [e]
    · exact killT_has tb l _
    · exact killT_has tb r _
theorem killB_get (tb : List Nat) : ∀ (t : Tr (Option (List SV))) (q : Nat), (killB tb t).get q none = (t.get q none).map (kill.kills tb)
  | .nil, _ => rfl
  | .node v l r, 0 => rfl
  | .node v l r, q + 1 => by
    simp only [killB, Tr.get]
    rcases Tr.half q with ⟨e, -⟩ | ⟨e, -⟩ <;> rw [e]
    · exact killB_get tb l _
    · exact killB_get tb r _
theorem dropB_get : ∀ (tb : List Nat) (t : Tr (Option (List SV))) (q : Nat), (dropB tb t).get q none = if memN tb q = true then none else t.get q none
  | [], t, q => by simp [dropB, memN]
  | b :: r, t, q => by
    simp only [dropB]
    rw [dropB_get r]
    have hp : (t.put b none).get q none = if b = q then none else t.get q none := by
      rw [Tr.get_put]
      by_cases hb : b = q
      · subst hb
        rw [if_pos rfl]
        cases hl : t.has b with
        | true => rw [if_pos ⟨rfl, rfl⟩]
        | false => rw [if_neg (by simp), Tr.get_out _ _ _ hl]
      · rw [if_neg (fun c => hb c.1), if_neg hb]
    rw [hp]
    have hm : memN (b :: r) q = if b = q then true else memN r q := by
      by_cases hb : b = q
      · rw [if_pos hb]
        show (match Nat.beq b q with | true => true | false => memN r q) = _
        rw [hb, Nat.beq_refl]
      · rw [if_neg hb]
        show (match Nat.beq b q with | true => true | false => memN r q) = _
        have : Nat.beq b q = false := by
          cases e : Nat.beq b q with
          | false => rfl
          | true => exact absurd (Nat.eq_of_beq_eq_true e) hb
        rw [this]
    rw [hm]
    by_cases hb : b = q
    · rw [if_pos hb, if_pos hb]; simp
    · rw [if_neg hb, if_neg hb]
theorem allLt_spec : ∀ {l : List Nat} {b : Nat}, allLt l = true → memN l b = true → b < 1000
  | x :: r, b, h, hm => by
    unfold allLt at h
    unfold memN at hm
    cases hx : Nat.blt x 1000 with
    | false => rw [hx] at h; cases h
    | true =>
      rw [hx] at h
      cases e : Nat.beq x b with
      | true => rw [← Nat.eq_of_beq_eq_true e]; simpa [Nat.blt_eq] using hx
      | false => rw [e] at hm; exact allLt_spec h hm
theorem isFrz_eq {bs : List Nat} {o : Oper} {c : Call} (h : isFrz bs o = some c) : o.op = .call c := by
  unfold isFrz at h
  split at h
  · split at h
    · split at h
      · split at h
        · cases h; assumption
        · cases h
      · cases h
    · cases h
  · cases h
theorem frz_sound [GlOk E H0 w0] (hE : EnvOk P E) {o : Oper} {Q : Exit → Act → World → Prop} {next : Act → World → Prop} {K : ASt → Prop} (hr : Rel M w0 H0 s a w) {c : Call} {d : Nat} (ho : o.op = .call c) (hd : o.dst = some d)
    (hk : frzK E d c s K) (hn : ∀ s' a' w', K s' → Rel M w0 H0 s' a' w' → next a' w') : o.wp P a w next Q := by
  obtain ⟨H, β, T, hf, hw⟩ := hr
  unfold frzK at hk
  cases hc : c.callee with
  | value f =>
    rw [hc] at hk
    simp only at hk
    cases hcf : ev s f with
    | fn g caps =>
      rw [hcf] at hk
      simp only at hk
      cases hct : E.ctr g with
      | none =>
        rw [hct] at hk
        simp only at hk
        cases caps with
        | cons _ _ => exact hk.elim
        | nil =>
          simp only at hk
          cases hcb : E.ctrB g with
          | none => rw [hcb] at hk; exact hk.elim
          | some cb =>
            rw [hcb] at hk
            simp only [forceL_eq] at hk
            exact own_sound hE hf hw f g c ho hc hcf hcb d hd hk hn
      | some ct =>
        rw [hct] at hk
        simp only [forceL_eq] at hk
        simp only [condsK_arrLs, condsK_arrLT, condsK] at hk
        obtain ⟨tb, harr, ht, -⟩ := gatherK_rel (fun _ _ h => h) 6 _ [] _ (fun _ _ e => by cases e) hk
        obtain ⟨ha1, harr2⟩ := arrCs_elim _ harr
        obtain ⟨ha2, x, hs, hi, hdom, hk⟩ := arrT_elim tb harr2
        rw [force_eq] at hk
        cases hlt0 : allLt (keysT tb) with
        | false => rw [hlt0] at hk; exact hk.elim
        | true =>
        rw [hlt0] at hk
        simp only [killTK_eq, killBK_eq, Tr.putK_eq] at hk
        obtain ⟨⟨fn, hfn, hname, hbody⟩, hsound⟩ := hE.ctr g ct hct
        obtain ⟨hlen, hsub⟩ := SubL_at hs
        obtain ⟨vs, hvn, hvg, hrun⟩ := call_enters (w := w) (P := P) hf f g caps c ho hc hcf hfn hname hbody
        rw [lendsW_length] at hlen
        let S : Nat → Prop := fun id => memN (keysT tb) id = true
        have hS : ∀ id cs, lookT tb id = some cs → S id := fun id cs e => memN_keys.2 ⟨cs, e⟩
        have hargs : ∀ j, j < (ct.enc x).length → G (lent S H β s.bx w) noB noT (at' (ct.enc x) j .junk) (vs.getD j undef) := by
          intro j hj
          have h1 := lend_G hw (S := S) hS ht ha2 3 (allAs_at ha1 j) (hvg j (by omega))
          rw [← lendsW_at] at h1
          exact h1.sub (hsub j hj)
        have hcalls := hsound x (lent S H β s.bx w) w vs d hdom (lent_lies S hw) (GlOk.ctr hE (hw.ext.trans (lent_ext S hw)) hw.keep hct) (by omega) hargs
        unfold Oper.wp
        rw [hrun]
        simp only [Oper.upon]
        refine hcalls.mono ?_
        rintro e w' ⟨v, H', T', rfl, hb, hH, hold, hT', hseal, hg, -⟩
        have hcell : ∀ b q v, w.cell? ⟨b, q, none⟩ = some v → w'.cell? ⟨b, q, none⟩ = some v := fun b q v e => by
          rw [hb.cell (p := ⟨b, q, none⟩) (cell_lt e)]; exact e
        have hfro : ∀ b q, b < w.heap.size → w'.frozen? ⟨b, q, none⟩ = w.frozen? ⟨b, q, none⟩ := fun b q e => hb.frozen (p := ⟨b, q, none⟩) e
        let T2 : TM := fun b q => if b < w.heap.size then T b q else T' b q
        have hTl : TLe T T2 := fun b q i e => by
          obtain ⟨_, h2, _⟩ := hw.tail _ _ _ e
          obtain ⟨u, hu⟩ := Option.isSome_iff_exists.1 h2
          show (if b < w.heap.size then T b q else T' b q) = some i
          rw [if_pos (cell_lt hu)]; exact e
        have hTr : TLe T' T2 := fun b q i e => by
          show (if b < w.heap.size then T b q else T' b q) = some i
          rw [if_neg (by have := (hT' _ _ _ e).1; omega)]; exact e
        let β2 : BM := fun b => if memN (keysT tb) b = true then none else β b
        have hβ2 : ∀ b k, β2 b = some k → memN (keysT tb) b = false ∧ β b = some k := by
          intro b k e
          simp only [β2] at e
          cases hm : memN (keysT tb) b with
          | true => rw [hm, if_pos rfl] at e; cases e
          | false => rw [hm, if_neg (by simp)] at e; exact ⟨rfl, e⟩
        have hβ3 : ∀ b k, memN (keysT tb) b = false → β b = some k → β2 b = some k := by
          intro b k hm e
          simp only [β2]
          rw [hm, if_neg (by simp)]; exact e
        have hHH : HLe H H' := (lent_ext S hw).trans hH
        have hnl : ∀ b kk j, memN (keysT tb) b = false → β b = some kk → lent S H β s.bx w kk j = H kk j := by
          intro b kk j hm e
          unfold lent
          rw [if_neg]
          rintro ⟨id, cs, h1, -, h2, -⟩
          obtain rfl := hw.inj _ _ _ e h2
          rw [show memN (keysT tb) b = true from h1] at hm; cases hm
        have hget : ∀ id cs, (killB (keysT tb) (dropB (keysT tb) s.bx)).get id none = some cs → memN (keysT tb) id = false ∧ ∃ ds, s.bx.get id none = some ds ∧ cs = kill.kills (keysT tb) ds := by
          intro id cs e
          rw [killB_get, dropB_get] at e
          cases hm : memN (keysT tb) id with
          | true => rw [hm, if_pos rfl] at e; cases e
          | false =>
            rw [hm, if_neg (by simp)] at e
            cases hd : s.bx.get id none with
            | none => rw [hd] at e; cases e
            | some ds => rw [hd] at e; cases e; exact ⟨rfl, ds, rfl, rfl⟩
        refine hn _ _ _ hk ⟨H', β2, T2, ?_, ?_⟩
        · rw [hd]
          have hf2 : FR H' β2 T2 (killT (keysT tb) s.fr) a := ⟨fun q e => hf.size q (by rwa [killT_has] at e), hf.defers, fun q => by rw [killT_get]; exact (hf.val q).kill hHH hTl hβ3⟩
          exact hf2.put' (hg.mono (.refl _) (noB_le _) hTr) (some d)
        refine ⟨?_, ?_, ?_, ?_, ?_, ?_, ?_, ?_, ?_, ?_, hw.keep.below hb, hw.ext.trans hHH, ?_, fun k e => (hw.edge k (by obtain ⟨i, e | e⟩ := e; exact ⟨i, .inl (hβ2 _ _ e).2⟩; exact ⟨i, .inr e⟩)).heap hb.block hb.size, fun X e => ?_⟩
        · intro b q u e
          refine ⟨(hseal b q u e).1, ?_⟩
          show (if b < w.heap.size then T b q else T' b q) = none
          by_cases hlt : b < w.heap.size
          · rw [if_pos hlt]; rw [hold b q hlt] at e; exact lent_T S hw _ _ _ e
          · rw [if_neg hlt]; exact (hseal b q u e).2
        · intro id cs e hl
          obtain ⟨hm, ds, h1, rfl⟩ := hget id cs e
          rw [(kill_mapOk _).xlen] at hl
          obtain ⟨kk, hkk, hmm, hj⟩ := hw.box id ds h1 hl
          refine ⟨kk, hβ3 _ _ hm hkk, hmm, fun j hlt => ?_⟩
          rw [(kill_mapOk _).xlen] at hlt
          obtain ⟨a1, a2, a3, u, a4, a5⟩ := hj j hlt
          have hkl := cell_lt a4
          refine ⟨by rw [hold _ _ hkl, hnl id kk j hm hkk]; exact a1, ?_, by rw [hfro _ _ hkl]; exact a3, u, hcell _ _ _ a4, ?_⟩
          · show (if kk < w.heap.size then T kk j else T' kk j) = none
            rw [if_pos hkl]; exact a2
          · exact (kill_mapOk _).xat hHH (fun x v g => g.kill hHH hTl hβ3) (fun X sz c d l ee => hw.many _ _ _ _ _ _ (by rw [h1, ee])) hlt a5
        · intro id kk e
          obtain ⟨hm, e2⟩ := hβ2 id kk e
          obtain ⟨a1, cs, a2⟩ := hw.bβ id kk e2
          refine ⟨Nat.lt_of_lt_of_le a1 hb.size, ?_⟩
          rw [killB_get, dropB_get, hm, if_neg (by simp), a2]
          exact ⟨_, rfl⟩
        · intro i j kk e1 e2
          exact hw.inj _ _ _ (hβ2 _ _ e1).2 (hβ2 _ _ e2).2
        · intro b q i e
          replace e : (if b < w.heap.size then T b q else T' b q) = some i := e
          by_cases hlt : b < w.heap.size
          · rw [if_pos hlt] at e
            obtain ⟨a1, a2, a3⟩ := hw.tail b q i e
            obtain ⟨u, hu⟩ := Option.isSome_iff_exists.1 a2
            exact ⟨a1, by rw [hcell _ _ _ hu]; rfl, by rw [hfro _ _ hlt]; exact a3⟩
          · rw [if_neg hlt] at e
            obtain ⟨a1, a2, a3⟩ := hT' b q i e
            exact ⟨.inr (Nat.le_trans hw.keep.size a1), a2, a3⟩
        · intro b q i e j c
          replace e : (if b < w.heap.size then T b q else T' b q) = some i := e
          have c2 := (hβ2 _ _ c).2
          rw [if_pos (hw.bβ _ _ c2).1] at e
          exact hw.sep _ _ _ e _ c2
        · intro i k e
          exact ⟨(hw.hand i k e).1, fun k' c => (hw.hand i k e).2 k' (hβ2 _ _ c).2⟩
        · intro id X sz cc dd l e
          obtain ⟨hm, ds, h1, h2⟩ := hget id _ e
          exact hw.many _ _ _ _ _ _ (by rw [h1, (kill_mapOk _).unmany h2.symm])
        · intro id k e
          exact hw.mine _ _ (hβ2 _ _ e).2
        · intro i h1 h2
          cases e : β2 i with
          | none => rfl
          | some k => have := (hβ2 _ _ e).2; rw [hw.out i h1 h2] at this; cases this
        · intro b q hm
          have hlt : b < w.heap.size := by have := hw.keep.size; omega
          refine (hw.fresh b q hm).imp (fun e => e) fun e => ?_
          rw [hold b q hlt]
          unfold lent
          rw [if_neg]
          · exact e
          · rintro ⟨id, cs, h1, -, h2, -⟩
            have := (hw.mine _ _ h2).2 (allLt_spec hlt0 h1)
            omega
        · have e2 : s.bx.get 9999 none = some (sideB X) := by
            obtain ⟨-, ds, h1, h2⟩ := hget 9999 _ e
            rw [h1, show ds = sideB X from (kill_mapOk _).unmany h2.symm]
          have hs2 := (hw.side X e2).2
          refine (hw.side X e2).of (fun k hk _ => hb.block k hk) (fun k hk hq => ⟨fun i c => (hs2 k hq).1 i (hβ2 _ _ c).2, fun o => ⟨?_, ?_⟩⟩)
          · rw [hold k o hk]
            unfold lent
            rw [if_neg]
            · exact ((hs2 k hq).2.1 o).1
            · rintro ⟨id, cs, h1, -, h2, -⟩
              exact (hs2 k hq).1 id h2
          · show (if k < w.heap.size then T k o else T' k o) = none
            rw [if_pos hk]; exact ((hs2 k hq).2.1 o).2
    | _ => rw [hcf] at hk; exact hk.elim
  | _ => rw [hc] at hk; exact hk.elim
end
end Go.Proofs.Yteccinlmblijfaa.Ax
/- Code: sequences, tests, loops; a region in the text's order. -/
set_option linter.unusedVariables false
set_option linter.unusedSimpArgs false
set_option linter.unusedSectionVars false
namespace Go.Proofs.Yteccinlmblijfaa.Ax
open Go Go.RowKit

/-! ### 1. What an operation comes to, as one value -/
theorem tiK_rel {α : Type _} : ∀ {l : List (Nat × α)} {n : Nat} {k : α → Prop}, tiK l n k → ∃ v, (∀ k' : α → Prop, k' v → tiK l n k') ∧ k v
  | [], _, _, h => h.elim
  | (i, v) :: r, n, k, h => by
    unfold tiK at h
    cases e : Nat.beq i n with
    | true => rw [e] at h; exact ⟨v, fun k' hk' => by unfold tiK; rw [e]; exact hk', h⟩
    | false =>
      rw [e] at h
      obtain ⟨u, h1, h2⟩ := tiK_rel (l := r) h
      exact ⟨u, fun k' hk' => by unfold tiK; rw [e]; exact h1 k' hk', h2⟩
theorem fldK_rel : ∀ {l : List (Nat × Nat)} {f : Nat} {k : Nat → Nat → Prop}, fldK l f k → ∃ q u, (∀ k' : Nat → Nat → Prop, k' q u → fldK l f k') ∧ k q u
  | [], _, _, h => h.elim
  | (o, t) :: _, 0, _, h => ⟨o, t, fun _ h => h, h⟩
  | _ :: r, f + 1, _, h => fldK_rel (l := r) h
theorem cellsK_rel {x : SV} {k : List SV → Prop} (h : cellsK x k) : ∃ l, (∀ k' : List SV → Prop, k' l → cellsK x k') ∧ k l := by
  cases x with
  | val u => cases u <;> first | exact h.elim | exact ⟨_, fun _ h => h, h⟩
  | _ => first | exact h.elim | exact ⟨_, fun _ h => h, h⟩
theorem asB_rel {x : SV} {k : Bool → Prop} (h : asB x k) : ∃ b, (∀ k' : Bool → Prop, k' b → asB x k') ∧ k b := by
  cases x with
  | val u => cases u <;> first | exact h.elim | exact ⟨_, fun _ h => h, h⟩
  | _ => first | exact h.elim | exact ⟨_, fun _ h => h, h⟩
theorem manyK_rel {cs : List SV} {k : (T : Type) → Nat → (T → List SV) → T → List T → Prop} (h : manyK cs k) : ∃ T sz c d l, (∀ k' : (T : Type) → Nat → (T → List SV) → T → List T → Prop, k' T sz c d l → manyK cs k') ∧ k T sz c d l := by
  obtain ⟨T, sz, c, d, l, rfl, h⟩ := manyK_elim h
  exact ⟨T, sz, c, d, l, fun _ h => h, h⟩
theorem loadK_rel {t : TI} {p : SV} {bx : Tr (Option (List SV))} {k : SV → Prop} (h : loadK t p bx k) : ∃ v, (∀ k' : SV → Prop, k' v → loadK t p bx k') ∧ k v := by
  unfold loadK at h ⊢
  cases p with
  | box b o =>
    simp only at h ⊢
    cases hb : bx.get b none with
    | none => rw [hb] at h; exact h.elim
    | some cs =>
      rw [hb] at h
      simp only at h ⊢
      cases hpl : plain cs with
      | false => rw [hpl] at h; exact h.elim
      | true =>
      rw [hpl] at h
      simp only at h ⊢
      cases hl : Nat.ble (o + t.size) cs.length with
      | false => rw [hl] at h; exact h.elim
      | true => rw [hl] at h; simp only [wholeK_eq] at h ⊢; exact ⟨_, fun _ h => h, h⟩
  | plc b z i o =>
    simp only at h ⊢
    cases hb : bx.get b none with
    | none => rw [hb] at h; exact h.elim
    | some cs =>
      rw [hb] at h
      simp only at h ⊢
      obtain ⟨T, sz, c, d, l, h1, h2⟩ := manyK_rel h
      cases hz : Nat.beq z sz with
      | false => rw [hz] at h2; exact h2.elim
      | true =>
      rw [hz] at h2
      simp only at h2
      cases hl : Nat.ble (o + t.size) sz with
      | false => rw [hl] at h2; exact h2.elim
      | true =>
        rw [hl] at h2
        simp only at h2
        cases hf : ownFree.ownFrees (takeN t.size (dropN o (c (l.getD i.toNat d)))) with
        | false => rw [hf] at h2; exact h2.elim
        | true =>
        rw [hf] at h2
        simp only [wholeK_eq] at h2
        refine ⟨_, fun k' hk' => h1 _ ?_, h2.2⟩
        simp only [hz, hl, hf, wholeK_eq]
        exact ⟨h2.1, hk'⟩
  | elt X z cs d l i o =>
    simp only at h ⊢
    cases hl : Nat.ble (o + t.size) z with
    | false => rw [hl] at h; exact h.elim
    | true =>
      rw [hl] at h
      simp only at h ⊢
      cases hf : ownFree.ownFrees (takeN t.size (dropN o (cs (l.getD i.toNat d)))) with
      | false => rw [hf] at h; exact h.elim
      | true => rw [hf] at h; simp only [wholeK_eq] at h ⊢; exact ⟨_, fun _ h => h, h⟩
  | _ => exact h.elim
theorem storeK_rel {t : TI} {p v : SV} {bx : Tr (Option (List SV))} {k : Tr (Option (List SV)) → Prop} (h : storeK t p v bx k) :
    ∃ y, (∀ k' : Tr (Option (List SV)) → Prop, k' y → storeK t p v bx k') ∧ k y := by
  unfold storeK at h ⊢
  cases p with
  | box b o =>
    simp only at h ⊢
    cases hb : bx.get b none with
    | none => rw [hb] at h; exact h.elim
    | some cs =>
      rw [hb] at h
      simp only at h ⊢
      cases hpl : plain cs with
      | false => rw [hpl] at h; exact h.elim
      | true =>
      rw [hpl] at h
      simp only at h ⊢
      obtain ⟨l, h1, h2⟩ := cellsK_rel h
      cases ho : allOk l with
      | false => rw [ho] at h2; exact h2.elim
      | true =>
        rw [ho] at h2
        simp only at h2
        cases he : Nat.beq l.length t.size with
        | false => rw [he] at h2; exact h2.elim
        | true =>
          rw [he] at h2
          simp only at h2
          cases hl : Nat.ble (o + l.length) cs.length with
          | false => rw [hl] at h2; exact h2.elim
          | true =>
            rw [hl] at h2
            simp only [forceL_eq, Tr.putK_eq] at h2 h1 ⊢
            refine ⟨_, fun k' hk' => h1 _ ?_, h2⟩
            simp only [ho, he, hl]
            exact hk'
  | plc b z i o =>
    simp only at h ⊢
    cases hb : bx.get b none with
    | none => rw [hb] at h; exact h.elim
    | some cs =>
      rw [hb] at h
      simp only at h ⊢
      obtain ⟨T, sz, c, d, r, g1, g2⟩ := manyK_rel h
      cases hz : Nat.beq z sz with
      | false => rw [hz] at g2; exact g2.elim
      | true =>
      rw [hz] at g2
      simp only at g2
      obtain ⟨l, h1, h2⟩ := cellsK_rel g2
      cases ho : allOk l with
      | false => rw [ho] at h2; exact h2.elim
      | true =>
        rw [ho] at h2
        simp only at h2
        cases he : Nat.beq l.length t.size with
        | false => rw [he] at h2; exact h2.elim
        | true =>
          rw [he] at h2
          simp only at h2
          cases hl : Nat.ble (o + l.length) sz with
          | false => rw [hl] at h2; exact h2.elim
          | true =>
            rw [hl] at h2
            simp only [Tr.putK_eq] at h2
            obtain ⟨h3, nx, h4, h5⟩ := h2
            refine ⟨_, fun k' hk' => g1 _ ?_, h5⟩
            simp only [hz]
            refine h1 _ ?_
            simp only [ho, he, hl, Tr.putK_eq]
            exact ⟨h3, nx, h4, hk'⟩
  | _ => exact h.elim
theorem intBin_rel {op : BinOp} {kk : IntKind} {a b : Int} {k : SV → Prop} (h : intBin op kk a b k) : ∃ v, (∀ k' : SV → Prop, k' v → intBin op kk a b k') ∧ k v := by
  cases op <;> first
    | exact h.elim
    | exact ⟨_, fun _ hk => ⟨h.1, hk⟩, h.2⟩
    | exact ⟨_, fun _ hk => hk, h⟩
theorem strBin_rel {op : BinOp} {a b : ByteArray} {k : SV → Prop} (h : strBin op a b k) : ∃ v, (∀ k' : SV → Prop, k' v → strBin op a b k') ∧ k v := by
  cases op <;> first
    | exact h.elim
    | exact ⟨_, fun _ hk => ⟨h.1, hk⟩, h.2⟩
    | exact ⟨_, fun _ hk => hk, h⟩
theorem bool2_rel {E : Env} {t : Nat} {op : BinOp} {a : Bool} {y : SV} {k : SV → Prop} (h : bool2 E t op a y k) : ∃ v, (∀ k' : SV → Prop, k' v → bool2 E t op a y k') ∧ k v := by
  obtain ⟨ti, h1, h2⟩ := tiK_rel h
  cases hb : ti.bool with
  | false => rw [hb] at h2; exact h2.elim
  | true =>
    rw [hb] at h2
    obtain ⟨b, h3, h4⟩ := asB_rel h2
    cases op <;> first
      | exact h4.elim
      | exact ⟨_, fun k' hk' => h1 _ (by rw [hb]; exact h3 _ hk'), h4⟩
theorem nilBin_rel {E : Env} {t : Nat} {op : BinOp} {e : Bool} {y : SV} {k : SV → Prop} (h : nilBin E t op e y k) : ∃ v, (∀ k' : SV → Prop, k' v → nilBin E t op e y k') ∧ k v := by
  obtain ⟨ti, h1, h2⟩ := tiK_rel h
  cases hs : ti.slice with
  | false => rw [hs] at h2; exact h2.elim
  | true =>
    rw [hs] at h2
    cases y with
    | val v =>
      cases v with
      | slice a n c =>
        cases a with
        | some _ => exact h2.elim
        | none =>
          cases n with
          | succ _ => exact h2.elim
          | zero =>
            cases c with
            | succ _ => exact h2.elim
            | zero =>
              cases op with
              | eql => exact ⟨_, fun k' hk' => h1 _ (by rw [hs]; exact hk'), h2⟩
              | neq => exact ⟨_, fun k' hk' => h1 _ (by rw [hs]; exact hk'), h2⟩
              | _ => exact h2.elim
      | _ => exact h2.elim
    | _ => exact h2.elim
theorem convK_rel {E : Env} {s t : Nat} {x : SV} {k : SV → Prop} (h : convK E s t x k) : ∃ v, (∀ k' : SV → Prop, k' v → convK E s t x k') ∧ k v := by
  obtain ⟨si, g1, h⟩ := tiK_rel h
  obtain ⟨ti, h1, h2⟩ := tiK_rel h
  cases hs : ti.int with
  | some kk =>
    rw [hs] at h2
    cases x with
    | val v =>
      cases v with
      | int k0 n => exact ⟨_, fun k' hk' => g1 _ (h1 _ (by rw [hs]; exact hk')), h2⟩
      | _ => exact h2.elim
    | _ => exact h2.elim
  | none =>
    rw [hs] at h2
    simp only at h2
    cases hst : ti.str with
    | true =>
      rw [hst] at h2
      simp only at h2
      cases hsl : si.slice with
      | true =>
        rw [hsl] at h2
        obtain ⟨ui, h3, h4⟩ := tiK_rel h2
        cases hu : isU8 ui.int with
        | false => rw [hu] at h4; exact h4.elim
        | true =>
          rw [hu] at h4
          obtain ⟨l, h5, h6⟩ := h4
          refine ⟨_, fun k' hk' => g1 _ (h1 _ ?_), h6⟩
          simp only [hs, hst, hsl]
          refine h3 _ ?_
          simp only [hu]
          exact ⟨l, h5, hk'⟩
      | false =>
        rw [hsl] at h2
        simp only at h2
        cases hss : si.str with
        | false => rw [hss] at h2; exact h2.elim
        | true =>
          rw [hss] at h2
          cases x with
          | val v =>
            cases v with
            | string b => exact ⟨_, fun k' hk' => g1 _ (h1 _ (by simp only [hs, hst, hsl, hss]; exact hk')), h2⟩
            | _ => exact h2.elim
          | _ => exact h2.elim
    | false =>
      rw [hst] at h2
      simp only at h2
      cases hsl : ti.slice with
      | false => rw [hsl] at h2; exact h2.elim
      | true =>
        rw [hsl] at h2
        obtain ⟨ui, h3, h4⟩ := tiK_rel h2
        cases hu : isU8 ui.int with
        | false => rw [hu] at h4; exact h4.elim
        | true =>
          rw [hu] at h4
          cases x with
          | val v =>
            cases v with
            | string b =>
              refine ⟨_, fun k' hk' => g1 _ (h1 _ ?_), h4⟩
              simp only [hs, hst, hsl]
              refine h3 _ ?_
              simp only [hu]
              exact hk'
            | _ => exact h4.elim
          | arr b z o n c =>
            simp only at h4
            cases hb : Nat.beq s t with
            | false => rw [hb] at h4; exact h4.elim
            | true =>
              rw [hb] at h4
              simp only at h4
              cases hn : Nat.ble 1 n with
              | false => rw [hn] at h4; exact h4.elim
              | true =>
                rw [hn] at h4
                refine ⟨_, fun k' hk' => g1 _ (h1 _ ?_), h4⟩
                simp only [hs, hst, hsl]
                refine h3 _ ?_
                simp only [hu, hb, hn]
                exact hk'
          | _ => exact h4.elim
theorem indexK_rel {E : Env} {t : Nat} {x i : SV} {k : SV → Prop} (h : indexK E t x i k) : ∃ v, (∀ k' : SV → Prop, k' v → indexK E t x i k') ∧ k v := by
  obtain ⟨ti, h1, h2⟩ := tiK_rel h
  cases hs : ti.str with
  | false => rw [hs] at h2; exact h2.elim
  | true =>
    rw [hs] at h2
    cases x with
    | val v =>
      cases v with
      | string z =>
        cases i with
        | val u =>
          cases u with
          | int k0 n => exact ⟨_, fun k' hk' => h1 _ (by rw [hs]; exact ⟨h2.1, hk'⟩), h2.2⟩
          | _ => exact h2.elim
        | _ => exact h2.elim
      | _ => exact h2.elim
    | _ => exact h2.elim
theorem ifcBin_rel {E : Env} {t : Nat} {op : BinOp} {b : Bool} {y : SV} {k : SV → Prop} (h : ifcBin E t op b y k) : ∃ v, (∀ k' : SV → Prop, k' v → ifcBin E t op b y k') ∧ k v := by
  obtain ⟨ti, h1, h2⟩ := tiK_rel h
  cases hs : ti.iface with
  | false => rw [hs] at h2; exact h2.elim
  | true =>
    rw [hs] at h2
    cases y with
    | val v =>
      cases v with
      | nilIface =>
        cases op with
        | eql => exact ⟨_, fun k' hk' => h1 _ (by rw [hs]; exact hk'), h2⟩
        | neq => exact ⟨_, fun k' hk' => h1 _ (by rw [hs]; exact hk'), h2⟩
        | _ => exact h2.elim
      | _ => exact h2.elim
    | _ => exact h2.elim
theorem binK_rel {E : Env} {t : Nat} {op : BinOp} {x y : SV} {c : Bool} {k : SV → Prop} (h : binK E t op x y c k) : ∃ v, (∀ k' : SV → Prop, k' v → binK E t op x y c k') ∧ k v := by
  unfold binK at h ⊢
  cases x with
  | ifc => exact ifcBin_rel h
  | row X sz cs dd l => exact nilBin_rel h
  | own X sz cs dd l id => exact nilBin_rel h
  | tt => exact bool2_rel h
  | ff => exact bool2_rel h
  | agg l =>
    cases y with
    | agg r =>
      simp only at h ⊢
      cases hc : E.eqs t with
      | none => rw [hc] at h; exact h.elim
      | some c =>
        rw [hc] at h
        obtain ⟨u, v, h1, h2, h3⟩ := h
        cases op <;> first
          | exact h3.elim
          | exact ⟨_, fun k' hk' => ⟨u, v, h1, h2, hk'⟩, h3⟩
    | _ => exact h.elim
  | val v =>
    cases v with
    | bool b => exact bool2_rel h
    | nilIface =>
      cases c with
      | true => exact ifcBin_rel h
      | false => exact h.elim
    | int kk n =>
      cases y with
      | val u =>
        cases u with
        | int kk' m =>
          simp only at h ⊢
          cases hi : ikEq kk kk' with
          | false => rw [hi] at h; exact h.elim
          | true => rw [hi] at h; exact intBin_rel h
        | _ => exact h.elim
      | _ => exact h.elim
    | string n =>
      cases y with
      | val u =>
        cases u with
        | string m => exact strBin_rel h
        | _ => exact h.elim
      | _ => exact h.elim
    | _ => exact h.elim
  | _ => exact h.elim
theorem unK_rel {op : UnOp} {x : SV} {k : SV → Prop} (h : unK op x k) : ∃ v, (∀ k' : SV → Prop, k' v → unK op x k') ∧ k v := by
  cases op with
  | not =>
    cases x with
    | val u => cases u <;> first | exact h.elim | exact ⟨_, fun _ h => h, h⟩
    | _ => first | exact h.elim | exact ⟨_, fun _ h => h, h⟩
  | neg =>
    cases x with
    | val u => cases u <;> first | exact h.elim | exact ⟨_, fun _ h => h, h⟩
    | _ => first | exact h.elim | exact ⟨_, fun _ h => h, h⟩
  | _ => exact h.elim
theorem lenK_rel {x : SV} {k : SV → Prop} (h : lenK x k) : ∃ v, (∀ k' : SV → Prop, k' v → lenK x k') ∧ k v := by
  cases x with
  | val u =>
    cases u with
    | slice ad n c =>
      cases ad with
      | some _ => exact h.elim
      | none => cases n with
        | zero => exact ⟨_, fun _ h => h, h⟩
        | succ n => exact h.elim
    | _ => exact h.elim
  | _ => first | exact h.elim | exact ⟨_, fun _ h => h, h⟩
theorem callK_rel {E : Env} {d : Nat} {bx : Tr (Option (List SV))} {c : Callee} {ρ : Operand → SV} {ts : List Nat} {args : List SV} {k : SV → Prop} (h : callK E d bx c ρ ts args k) : ∃ v, (∀ k' : SV → Prop, k' v → callK E d bx c ρ ts args k') ∧ k v := by
  cases c with
  | value f =>
    simp only [callK] at h ⊢
    cases hf : ρ f with
    | fn g caps =>
      rw [hf] at h
      simp only at h ⊢
      cases hc : E.ctr g with
      | none => rw [hc] at h; exact h.elim
      | some ct =>
        rw [hc] at h
        simp only [forceL_eq] at h ⊢
        exact enterK_rel h
    | _ => rw [hf] at h; exact h.elim
  | builtin b =>
    cases b with
    | len =>
      cases args with
      | nil => exact h.elim
      | cons x r =>
        cases r with
        | cons _ _ => exact h.elim
        | nil =>
          simp only [callK] at h ⊢
          cases ts with
          | nil => exact h.elim
          | cons t r =>
            cases r with
            | cons _ _ => exact h.elim
            | nil =>
              obtain ⟨ti, h1, h2⟩ := tiK_rel h
              cases hs : ti.slice with
              | true =>
                rw [hs] at h2
                obtain ⟨v, h3, h4⟩ := lenK_rel h2
                exact ⟨v, fun k' hk' => h1 _ (by rw [hs]; exact h3 _ hk'), h4⟩
              | false =>
                rw [hs] at h2
                simp only at h2
                cases ht : ti.str with
                | false => rw [ht] at h2; exact h2.elim
                | true =>
                  rw [ht] at h2
                  cases x with
                  | val u =>
                    cases u with
                    | string m => exact ⟨_, fun k' hk' => h1 _ (by rw [hs, ht]; exact hk'), h2⟩
                    | _ => exact h2.elim
                  | _ => exact h2.elim
    | max =>
      cases args with
      | nil => exact h.elim
      | cons x r =>
        cases r with
        | nil => exact h.elim
        | cons y r =>
          cases r with
          | cons _ _ => exact h.elim
          | nil =>
            simp only [callK] at h ⊢
            cases x with
            | val u =>
              cases u with
              | int kk n =>
                cases y with
                | val v =>
                  cases v with
                  | int kk' m =>
                    simp only at h ⊢
                    cases hi : ikEq kk kk' with
                    | false => rw [hi] at h; exact h.elim
                    | true => rw [hi] at h; exact ⟨_, fun k' hk' => hk', h⟩
                  | _ => exact h.elim
                | _ => exact h.elim
              | _ => exact h.elim
            | _ => exact h.elim
    | min =>
      cases args with
      | nil => exact h.elim
      | cons x r =>
        cases r with
        | nil => exact h.elim
        | cons y r =>
          cases r with
          | cons _ _ => exact h.elim
          | nil =>
            simp only [callK] at h ⊢
            cases x with
            | val u =>
              cases u with
              | int kk n =>
                cases y with
                | val v =>
                  cases v with
                  | int kk' m =>
                    simp only at h ⊢
                    cases hi : ikEq kk kk' with
                    | false => rw [hi] at h; exact h.elim
                    | true => rw [hi] at h; exact ⟨_, fun k' hk' => hk', h⟩
                  | _ => exact h.elim
                | _ => exact h.elim
              | _ => exact h.elim
            | _ => exact h.elim
    | _ => exact h.elim
  | invoke _ _ => exact h.elim

theorem fillK_rel {ρ : Operand → SV} {place : Nat → (Nat → Nat → Prop) → Prop} (hp : ∀ (i : Nat) (k : Nat → Nat → Prop), place i k → ∃ o n, (∀ k' : Nat → Nat → Prop, k' o n → place i k') ∧ k o n) :
    ∀ {parts : List (Nat × Operand)} {cs : List SV} {k : List SV → Prop}, fillK ρ place parts cs k → ∃ y, (∀ k' : List SV → Prop, k' y → fillK ρ place parts cs k') ∧ k y
  | [], cs, k, h => ⟨cs, fun _ h => h, h⟩
  | (i, x) :: r, cs, k, h => by
    obtain ⟨q, n, h1, h2⟩ := hp _ _ h
    obtain ⟨vs, h3, h4⟩ := cellsK_rel h2
    cases hb : Nat.beq vs.length n with
    | false => rw [hb] at h4; exact h4.elim
    | true =>
      rw [hb] at h4
      simp only at h4
      cases hl : Nat.ble (q + n) cs.length with
      | false => rw [hl] at h4; exact h4.elim
      | true =>
        rw [hl] at h4
        simp only [forceL_eq] at h4
        obtain ⟨y, h5, h6⟩ := fillK_rel hp h4
        refine ⟨y, fun k' hk' => h1 _ (h3 _ ?_), h6⟩
        rw [hb]
        simp only [hl, forceL_eq]
        exact h5 _ hk'
theorem buildK_rel {E : Env} {ρ : Operand → SV} {t : Nat} {parts : List (Nat × Operand)} {k : SV → Prop} (h : buildK E ρ t parts k) : ∃ v, (∀ k' : SV → Prop, k' v → buildK E ρ t parts k') ∧ k v := by
  obtain ⟨ti, h1, h2⟩ := tiK_rel h
  cases hfl : ti.flds with
  | nil => rw [hfl] at h2; exact h2.elim
  | cons f r =>
    rw [hfl] at h2
    simp only at h2
    cases hz : Nat.ble 1 ti.zero.length with
    | false => rw [hz] at h2; exact h2.elim
    | true =>
      rw [hz] at h2
      simp only at h2
      obtain ⟨y, h3, h4⟩ := fillK_rel (fun i k h => by
        obtain ⟨q, u, g1, g2⟩ := fldK_rel h
        obtain ⟨ui, g3, g4⟩ := tiK_rel g2
        exact ⟨q, ui.size, fun k' hk' => g1 _ (g3 _ hk'), g4⟩) h2
      refine ⟨_, fun k' hk' => h1 _ ?_, h4⟩
      rw [hfl]
      simp only [hz]
      exact h3 _ hk'
theorem ownOr_rel {bs : List Nat} {d : Nat} {T : Type} {sz : Nat} {cs : T → List SV} {e : T} {l : List T} {k : SV → Prop} (h : ownOr bs d T sz cs e l k) : ∃ v, (∀ k' : SV → Prop, k' v → ownOr bs d T sz cs e l k') ∧ k v := by
  unfold ownOr at h ⊢
  revert h
  cases memN bs (Nat.add 800000 d) with
  | true => exact fun h => ⟨_, fun _ h => h, h⟩
  | false => exact fun h => ⟨_, fun _ h => h, h⟩
theorem buildSliceK_rel {E : Env} {d : Nat} {ρ : Operand → SV} {t len : Nat} {parts : List (Nat × Operand)} {k : SV → Prop} (h : buildSliceK E d ρ t len parts k) : ∃ v, (∀ k' : SV → Prop, k' v → buildSliceK E d ρ t len parts k') ∧ k v := by
  obtain ⟨ti, h1, h2⟩ := tiK_rel h
  cases hs : ti.slice with
  | false => rw [hs] at h2; exact h2.elim
  | true =>
    rw [hs] at h2
    simp only at h2
    cases hl0 : Nat.beq len 0 with
    | true =>
      rw [hl0] at h2
      obtain ⟨ui, h3, h4⟩ := tiK_rel h2
      cases hn : isNil parts with
      | false => rw [hn] at h4; exact h4.elim
      | true =>
        rw [hn] at h4
        refine ⟨_, fun k' hk' => h1 _ ?_, h4⟩
        simp only [hs, hl0]
        exact h3 _ (by rw [hn]; exact hk')
    | false =>
    rw [hl0] at h2
    obtain ⟨ui, h3, h4⟩ := tiK_rel h2
    cases hb : Nat.beq ui.zero.length ui.size with
    | false => rw [hb] at h4; exact h4.elim
    | true =>
      rw [hb] at h4
      simp only at h4
      cases hp : Nat.ble 1 (len * ui.size) with
      | false => rw [hp] at h4; exact h4.elim
      | true =>
        rw [hp] at h4
        simp only at h4
        cases hm : Nat.ble (len * ui.size) 16777216 with
        | false => rw [hm] at h4; exact h4.elim
        | true =>
          rw [hm] at h4
          simp only at h4
          obtain ⟨y, h5, X, cs, e, l, h6, h7, h8, h9⟩ := fillK_rel (fun i k h => ⟨_, _, fun _ h => h, h⟩) h4
          obtain ⟨v, h10, h11⟩ := ownOr_rel h9
          refine ⟨v, fun k' hk' => h1 _ ?_, h11⟩
          simp only [hs, hl0]
          refine h3 _ ?_
          simp only [hb, hp, hm]
          exact h5 _ ⟨X, cs, e, l, h6, h7, h8, h10 _ hk'⟩
theorem newVecK_rel {d : Nat} {bx : Tr (Option (List SV))} {sz n : Nat} {ok : (T : Type) → (T → List SV) → List T → Prop} {k : SV → Tr (Option (List SV)) → Prop} (h : newVecK d bx sz n ok k) :
    ∃ v b, (∀ k' : SV → Tr (Option (List SV)) → Prop, k' v b → newVecK d bx sz n ok k') ∧ k v b := by
  obtain ⟨h1, h2, T, cs, e, l, h3, h4, h5, h6⟩ := newVecK_elim h
  refine ⟨_, _, fun k' hk' => ?_, h6⟩
  unfold newVecK
  rw [h1]
  simp only
  rw [h2]
  exact ⟨T, cs, e, l, ⟨h3, h4⟩, h5, by rw [Tr.putK_eq]; exact hk'⟩
theorem buildVecK_rel {E : Env} {d : Nat} {ρ : Operand → SV} {t len : Nat} {parts : List (Nat × Operand)} {bx : Tr (Option (List SV))} {k : SV → Tr (Option (List SV)) → Prop} (h : buildVecK E d ρ t len parts bx k) :
    ∃ v b, (∀ k' : SV → Tr (Option (List SV)) → Prop, k' v b → buildVecK E d ρ t len parts bx k') ∧ k v b := by
  obtain ⟨ti, h1, h2⟩ := tiK_rel h
  cases hs : ti.slice with
  | false => rw [hs] at h2; exact h2.elim
  | true =>
    rw [hs] at h2
    obtain ⟨ui, h3, h4⟩ := tiK_rel h2
    cases hb : Nat.beq ui.zero.length ui.size with
    | false => rw [hb] at h4; exact h4.elim
    | true =>
      rw [hb] at h4
      simp only at h4
      cases hp : Nat.ble 1 (len * ui.size) with
      | false => rw [hp] at h4; exact h4.elim
      | true =>
        rw [hp] at h4
        simp only at h4
        cases hm : Nat.ble (len * ui.size) 16777216 with
        | false => rw [hm] at h4; exact h4.elim
        | true =>
          rw [hm] at h4
          simp only at h4
          obtain ⟨y, h5, h6⟩ := fillK_rel (fun i k h => ⟨_, _, fun _ h => h, h⟩) h4
          obtain ⟨v, b, h7, h8⟩ := newVecK_rel h6
          refine ⟨v, b, fun k' hk' => h1 _ ?_, h8⟩
          rw [hs]
          refine h3 _ ?_
          simp only [hb, hp, hm]
          exact h5 _ (h7 _ hk')
theorem makeVecK_rel {E : Env} {d t : Nat} {x y : SV} {bx : Tr (Option (List SV))} {k : SV → Tr (Option (List SV)) → Prop} (h : makeVecK E d t x y bx k) :
    ∃ v b, (∀ k' : SV → Tr (Option (List SV)) → Prop, k' v b → makeVecK E d t x y bx k') ∧ k v b := by
  obtain ⟨ti, h1, h2⟩ := tiK_rel h
  cases hs : ti.slice with
  | false => rw [hs] at h2; exact h2.elim
  | true =>
    rw [hs] at h2
    obtain ⟨ui, h3, h4⟩ := tiK_rel h2
    cases hb : Nat.beq ui.zero.length ui.size with
    | false => rw [hb] at h4; exact h4.elim
    | true =>
      rw [hb] at h4
      simp only at h4
      cases hp : Nat.ble 1 ui.size with
      | false => rw [hp] at h4; exact h4.elim
      | true =>
        rw [hp] at h4
        simp only at h4
        cases x with
        | val v =>
          cases v with
          | int k1 n =>
            cases y with
            | val v =>
              cases v with
              | int k2 c =>
                obtain ⟨g1, g2⟩ := h4
                obtain ⟨v, b, h7, h8⟩ := newVecK_rel g2
                refine ⟨v, b, fun k' hk' => h1 _ ?_, h8⟩
                rw [hs]
                refine h3 _ ?_
                simp only [hb, hp]
                exact ⟨g1, h7 _ hk'⟩
              | _ => exact h4.elim
            | _ => exact h4.elim
          | _ => exact h4.elim
        | _ => exact h4.elim
theorem clearK_rel {E : Env} {ts : List Nat} {x : SV} {bx : Tr (Option (List SV))} {k : Tr (Option (List SV)) → Prop} (h : clearK E ts x bx k) :
    ∃ b, (∀ k' : Tr (Option (List SV)) → Prop, k' b → clearK E ts x bx k') ∧ k b := by
  unfold clearK at h ⊢
  match ts, h with
  | [t], h =>
    simp only at h ⊢
    obtain ⟨ti, h1, h2⟩ := tiK_rel h
    cases hs : ti.slice with
    | false => rw [hs] at h2; exact h2.elim
    | true =>
      rw [hs] at h2
      obtain ⟨ui, h3, h4⟩ := tiK_rel h2
      cases hb : Nat.beq ui.zero.length ui.size with
      | false => rw [hb] at h4; exact h4.elim
      | true =>
        rw [hb] at h4
        simp only at h4
        cases x with
        | arr b z o n cap =>
          simp only at h4
          cases hz : Nat.beq z ui.size with
          | false => rw [hz] at h4; exact h4.elim
          | true =>
            rw [hz] at h4
            simp only at h4
            cases hg : bx.get b none with
            | none => rw [hg] at h4; exact h4.elim
            | some cs =>
              rw [hg] at h4
              simp only at h4
              obtain ⟨T, sz, c, d, l, g1, g2⟩ := manyK_rel h4
              cases hz2 : Nat.beq z sz with
              | false => rw [hz2] at g2; exact g2.elim
              | true =>
                rw [hz2] at g2
                simp only [Tr.putK_eq] at g2
                obtain ⟨g3, nx, g4, g5⟩ := g2
                refine ⟨_, fun k' hk' => h1 _ ?_, g5⟩
                rw [hs]
                refine h3 _ ?_
                simp only [hb, hz, hg]
                refine g1 _ ?_
                simp only [hz2, Tr.putK_eq]
                exact ⟨g3, nx, g4, hk'⟩
        | _ => exact h4.elim
theorem lowK_rel {x : Option SV} {k : Int → Prop} (h : lowK x k) : ∃ v, (∀ k' : Int → Prop, k' v → lowK x k') ∧ k v := by
  cases x with
  | none => exact ⟨_, fun _ h => h, h⟩
  | some x =>
    cases x with
    | val v => cases v <;> first | exact h.elim | exact ⟨_, fun _ h => h, h⟩
    | _ => exact h.elim
theorem cutRow_rel {X : Type} {l : List X} {x : Option SV} {lo : Int} {k : List X → Prop} (h : cutRow l x lo k) : ∃ v, (∀ k' : List X → Prop, k' v → cutRow l x lo k') ∧ k v := by
  cases x with
  | none => exact ⟨_, fun _ hk => ⟨h.1, hk⟩, h.2⟩
  | some x =>
    cases x with
    | val v => cases v <;> first | exact h.elim | exact ⟨_, fun _ hk => ⟨h.1, hk⟩, h.2⟩
    | _ => exact h.elim
theorem cutStr_rel {b : ByteArray} {x : Option SV} {lo : Int} {k : ByteArray → Prop} (h : cutStr b x lo k) : ∃ v, (∀ k' : ByteArray → Prop, k' v → cutStr b x lo k') ∧ k v := by
  cases x with
  | none => exact ⟨_, fun _ hk => ⟨h.1, hk⟩, h.2⟩
  | some x =>
    cases x with
    | val v => cases v <;> first | exact h.elim | exact ⟨_, fun _ hk => ⟨h.1, hk⟩, h.2⟩
    | _ => exact h.elim
theorem cutA_rel {n : Nat} {x : Option SV} {lo : Int} {k : Nat → Nat → Prop} (h : cutA n x lo k) : ∃ u v, (∀ k' : Nat → Nat → Prop, k' u v → cutA n x lo k') ∧ k u v := by
  cases x with
  | none => exact ⟨_, _, fun _ hk => ⟨h.1, hk⟩, h.2⟩
  | some x =>
    cases x with
    | val v => cases v <;> first | exact h.elim | exact ⟨_, _, fun _ hk => ⟨h.1, hk⟩, h.2⟩
    | _ => exact h.elim
theorem cutK_rel {E : Env} {t : TI} {x : SV} {lo hi : Option SV} {k : SV → Prop} (h : cutK E t x lo hi k) : ∃ v, (∀ k' : SV → Prop, k' v → cutK E t x lo hi k') ∧ k v := by
  unfold cutK at h ⊢
  cases hs : t.slice with
  | true =>
    rw [hs] at h
    obtain ⟨ui, h1, h2⟩ := tiK_rel h
    cases x with
    | row X z cs dd l =>
      simp only at h2
      cases hz : Nat.beq z ui.size with
      | false => rw [hz] at h2; exact h2.elim
      | true =>
        rw [hz] at h2
        obtain ⟨a, h3, h4⟩ := lowK_rel h2
        obtain ⟨b, h5, h6⟩ := cutRow_rel h4
        refine ⟨_, fun k' hk' => h1 _ ?_, h6⟩
        simp only [hz]
        exact h3 _ (h5 _ hk')
    | own X z cs dd l id =>
      simp only at h2
      cases hz : Nat.beq z ui.size with
      | false => rw [hz] at h2; exact h2.elim
      | true =>
        rw [hz] at h2
        obtain ⟨a, h3, h4⟩ := lowK_rel h2
        obtain ⟨b, h5, h6⟩ := cutRow_rel h4
        refine ⟨_, fun k' hk' => h1 _ ?_, h6⟩
        simp only [hz]
        exact h3 _ (h5 _ hk')
    | arr b z o n cap =>
      simp only at h2
      cases hz : Nat.beq z ui.size with
      | false => rw [hz] at h2; exact h2.elim
      | true =>
        rw [hz] at h2
        obtain ⟨a, h3, h4⟩ := lowK_rel h2
        obtain ⟨u, v, h5, h6⟩ := cutA_rel h4
        refine ⟨_, fun k' hk' => h1 _ ?_, h6⟩
        simp only [hz]
        exact h3 _ (h5 _ hk')
    | _ => exact h2.elim
  | false =>
    rw [hs] at h
    simp only at h ⊢
    cases ht : t.str with
    | false => rw [ht] at h; exact h.elim
    | true =>
      rw [ht] at h
      cases x with
      | val v =>
        cases v with
        | string b =>
          simp only at h ⊢
          obtain ⟨a, h3, h4⟩ := lowK_rel h
          obtain ⟨b, h5, h6⟩ := cutStr_rel h4
          exact ⟨_, fun k' hk' => h3 _ (h5 _ hk'), h6⟩
        | _ => exact h.elim
      | _ => exact h.elim
theorem sliceK_rel {E : Env} {ρ : Operand → SV} {t : Nat} {x : Operand} {lo hi mx : Option Operand} {k : SV → Prop} (h : sliceK E ρ t x lo hi mx k) : ∃ v, (∀ k' : SV → Prop, k' v → sliceK E ρ t x lo hi mx k') ∧ k v := by
  cases mx with
  | some m =>
    obtain ⟨ti, h1, h2⟩ := tiK_rel h
    cases hs : ti.slice with
    | false => rw [hs] at h2; exact h2.elim
    | true =>
    rw [hs] at h2
    obtain ⟨ui, h3, h4⟩ := tiK_rel h2
    cases hz1 : isZ (some (ρ m)) with
    | false => rw [hz1] at h4; exact h4.elim
    | true =>
    rw [hz1] at h4
    simp only at h4
    cases hi with
    | none => exact h4.elim
    | some hh =>
    simp only at h4
    cases hz2 : isZ (some (ρ hh)) with
    | false => rw [hz2] at h4; exact h4.elim
    | true =>
    rw [hz2] at h4
    simp only at h4
    cases hz3 : isZ (lo.map ρ) with
    | false => rw [hz3] at h4; exact h4.elim
    | true =>
    rw [hz3] at h4
    simp only at h4
    cases hz4 : anyRow (ρ x) with
    | false => rw [hz4] at h4; exact h4.elim
    | true =>
    rw [hz4] at h4
    refine ⟨_, fun k' hk' => h1 _ ?_, h4⟩
    rw [hs]
    refine h3 _ ?_
    simp only [hz1, hz2, hz3, hz4]
    exact hk'
  | none =>
    obtain ⟨ti, h1, h2⟩ := tiK_rel h
    obtain ⟨v, h3, h4⟩ := cutK_rel h2
    exact ⟨v, fun k' hk' => h1 _ (h3 _ hk'), h4⟩
theorem makeFuncK_rel {ρ : Operand → SV} {f : Fn} {fs cs : List Operand} {k : SV → Prop} (h : makeFuncK ρ f fs cs k) : ∃ v, (∀ k' : SV → Prop, k' v → makeFuncK ρ f fs cs k') ∧ k v := by
  cases f with
  | func g =>
    cases fs with
    | nil => simp only [makeFuncK, forceL_eq] at h ⊢; exact ⟨_, fun _ h => h, h⟩
    | cons _ _ => exact h.elim
  | _ => exact h.elim

theorem stepB_rel {E : Env} {d : Nat} {op : Op} {ρ : Operand → SV} {bx : Tr (Option (List SV))} {k : SV → Tr (Option (List SV)) → Prop} (h : stepB E d op ρ bx k) :
    ∃ v b, (∀ k' : SV → Tr (Option (List SV)) → Prop, k' v b → stepB E d op ρ bx k') ∧ k v b := by
  cases op with
  | move x => simp only [stepB, force_eq] at h ⊢; exact ⟨_, _, fun _ h => h, h⟩
  | assign x => simp only [stepB, force_eq] at h ⊢; exact ⟨_, _, fun _ h => h, h⟩
  | pick c x y =>
    simp only [stepB, force_eq] at h ⊢
    cases hc : ρ c <;> rw [hc] at h <;> first | exact h.elim | exact ⟨_, _, fun _ h => h, h⟩
  | alloc t =>
    simp only [stepB] at h ⊢
    cases hdm : Nat.blt d 1000 with
    | false => rw [hdm] at h; exact h.elim
    | true =>
    rw [hdm] at h
    simp only at h ⊢
    cases hb : bx.get d (some []) with
    | some _ => rw [hb] at h; exact h.elim
    | none =>
      rw [hb] at h
      obtain ⟨ti, h1, h2⟩ := tiK_rel h
      cases hz : ti.zero with
      | nil => rw [hz] at h2; exact h2.elim
      | cons z zs =>
        rw [hz] at h2
        simp only [forceL_eq, Tr.putK_eq] at h2 h1 ⊢
        refine ⟨_, _, fun k' hk' => h1 _ ?_, h2⟩
        rw [hz]; exact hk'
  | box t x =>
    simp only [stepB] at h ⊢
    cases hdm : Nat.blt d 1000 with
    | false => rw [hdm] at h; exact h.elim
    | true =>
    rw [hdm] at h
    simp only at h ⊢
    cases hb : bx.get d (some []) with
    | some _ => rw [hb] at h; exact h.elim
    | none =>
      rw [hb] at h
      obtain ⟨l, h1, h2⟩ := cellsK_rel h
      cases hpl : plain l with
      | false => rw [hpl] at h2; exact h2.elim
      | true =>
      rw [hpl] at h2
      simp only [Tr.putK_eq] at h2 h1 ⊢
      exact ⟨_, _, fun k' hk' => h1 _ (by rw [hpl]; exact hk'), h2⟩
  | load t x =>
    simp only [stepB] at h ⊢
    cases hq : qLoad E.bs x with
    | false =>
      rw [hq] at h
      cases hq2 : sLoad E.bs x with
      | false =>
        rw [hq2] at h
        obtain ⟨ti, h1, h2⟩ := tiK_rel h
        obtain ⟨v, h3, h4⟩ := loadK_rel h2
        exact ⟨v, bx, fun k' hk' => h1 _ (h3 _ hk'), h4⟩
      | true =>
        rw [hq2] at h
        simp only at h ⊢
        cases hb : isSB E.bs (ρ x) with
        | false => rw [hb] at h; exact h.elim
        | true =>
          rw [hb] at h
          obtain ⟨ti, h1, h2⟩ := tiK_rel h
          obtain ⟨v, h3, h4⟩ := loadK_rel h2
          exact ⟨v, bx, fun k' hk' => h1 _ (h3 _ hk'), h4⟩
    | true =>
      rw [hq] at h
      simp only at h ⊢
      cases hb : isQB E.bs (ρ x) with
      | false => rw [hb] at h; exact h.elim
      | true =>
        rw [hb] at h
        obtain ⟨ti, h1, h2⟩ := tiK_rel h
        obtain ⟨v, h3, h4⟩ := loadK_rel h2
        exact ⟨v, bx, fun k' hk' => h1 _ (h3 _ hk'), h4⟩
  | nilCheck x =>
    simp only [stepB] at h ⊢
    cases hx : ρ x <;> rw [hx] at h <;> first | exact h.elim | exact ⟨_, _, fun _ h => h, h⟩
  | store t x y =>
    simp only [stepB] at h ⊢
    cases hq : sStore E.bs x with
    | false =>
      rw [hq] at h
      obtain ⟨ti, h1, h2⟩ := tiK_rel h
      obtain ⟨v, h3, h4⟩ := storeK_rel h2
      exact ⟨_, v, fun k' hk' => h1 _ (h3 _ hk'), h4⟩
    | true =>
      rw [hq] at h
      simp only at h ⊢
      cases hb : offSB E.bs (ρ x) with
      | false => rw [hb] at h; exact h.elim
      | true =>
        rw [hb] at h
        obtain ⟨ti, h1, h2⟩ := tiK_rel h
        obtain ⟨v, h3, h4⟩ := storeK_rel h2
        exact ⟨_, v, fun k' hk' => h1 _ (h3 _ hk'), h4⟩
  | fieldAddr t x f =>
    simp only [stepB] at h ⊢
    cases hx : ρ x with
    | box b o =>
      rw [hx] at h
      obtain ⟨ti, h1, h2⟩ := tiK_rel h
      obtain ⟨q, u, h3, h4⟩ := fldK_rel h2
      exact ⟨_, _, fun k' hk' => h1 _ (h3 _ hk'), h4⟩
    | elt X z cs dd l i o =>
      rw [hx] at h
      obtain ⟨ti, h1, h2⟩ := tiK_rel h
      obtain ⟨q, u, h3, h4⟩ := fldK_rel h2
      exact ⟨_, _, fun k' hk' => h1 _ (h3 _ hk'), h4⟩
    | plc b z i o =>
      rw [hx] at h
      obtain ⟨ti, h1, h2⟩ := tiK_rel h
      obtain ⟨q, u, h3, h4⟩ := fldK_rel h2
      exact ⟨_, _, fun k' hk' => h1 _ (h3 _ hk'), h4⟩
    | _ => rw [hx] at h; exact h.elim
  | field t x f =>
    simp only [stepB] at h ⊢
    cases hx : ρ x with
    | agg l =>
      rw [hx] at h
      obtain ⟨ti, h1, h2⟩ := tiK_rel h
      obtain ⟨q, u, h3, h4⟩ := fldK_rel h2
      obtain ⟨ui, h5, h6⟩ := tiK_rel h4
      cases hl : Nat.ble (q + ui.size) l.length with
      | false => rw [hl] at h6; exact h6.elim
      | true =>
        rw [hl] at h6
        simp only [wholeK_eq] at h6 h1 h3 h5 ⊢
        refine ⟨_, _, fun k' hk' => h1 _ (h3 _ (h5 _ ?_)), h6⟩
        rw [hl]; exact hk'
    | _ => rw [hx] at h; exact h.elim
  | indexAddr t x i =>
    simp only [stepB] at h ⊢
    cases hi : ρ i with
    | val v =>
      rw [hi] at h
      cases v with
      | int kk n =>
        simp only at h ⊢
        cases hx : ρ x with
        | row X z cs dd l =>
          rw [hx] at h
          obtain ⟨ti, h1, h2⟩ := tiK_rel h
          obtain ⟨ui, h3, h4⟩ := tiK_rel h2
          cases hz : Nat.beq z ui.size with
          | false => rw [hz] at h4; exact h4.elim
          | true =>
            rw [hz] at h4
            simp only at h4
            cases hs : ti.slice with
            | false => rw [hs] at h4; exact h4.elim
            | true =>
              rw [hs] at h4
              refine ⟨_, _, fun k' hk' => h1 _ (h3 _ ?_), h4.2⟩
              rw [hz, hs]; exact ⟨h4.1, hk'⟩
        | own X z cs dd l id =>
          rw [hx] at h
          obtain ⟨ti, h1, h2⟩ := tiK_rel h
          obtain ⟨ui, h3, h4⟩ := tiK_rel h2
          cases hz : Nat.beq z ui.size with
          | false => rw [hz] at h4; exact h4.elim
          | true =>
            rw [hz] at h4
            simp only at h4
            cases hs : ti.slice with
            | false => rw [hs] at h4; exact h4.elim
            | true =>
              rw [hs] at h4
              refine ⟨_, _, fun k' hk' => h1 _ (h3 _ ?_), h4.2⟩
              rw [hz, hs]; exact ⟨h4.1, hk'⟩
        | arr b z o n cap =>
          rw [hx] at h
          obtain ⟨ti, h1, h2⟩ := tiK_rel h
          obtain ⟨ui, h3, h4⟩ := tiK_rel h2
          cases hz : Nat.beq z ui.size with
          | false => rw [hz] at h4; exact h4.elim
          | true =>
            rw [hz] at h4
            simp only at h4
            cases hs : ti.slice with
            | false => rw [hs] at h4; exact h4.elim
            | true =>
              rw [hs] at h4
              refine ⟨_, _, fun k' hk' => h1 _ (h3 _ ?_), h4.2⟩
              rw [hz, hs]; exact ⟨h4.1, hk'⟩
        | _ => rw [hx] at h; exact h.elim
      | _ => exact h.elim
    | _ => rw [hi] at h; exact h.elim
  | binOp op t x y u =>
    obtain ⟨v, h1, h2⟩ := binK_rel h
    exact ⟨v, bx, fun k' hk' => h1 _ hk', h2⟩
  | unOp op t x =>
    obtain ⟨v, h1, h2⟩ := unK_rel (op := op) (x := ρ x) (k := fun v => k v bx) h
    exact ⟨v, bx, fun k' hk' => (show unK op (ρ x) fun v => k' v bx from h1 _ hk'), h2⟩
  | extract x i =>
    simp only [stepB] at h ⊢
    cases hx : ρ x with
    | tup l =>
      rw [hx] at h
      simp only at h ⊢
      cases hb : Nat.blt i l.length with
      | false => rw [hb] at h; exact h.elim
      | true => rw [hb] at h; simp only [force_eq] at h ⊢; exact ⟨_, _, fun _ h => h, h⟩
    | _ => rw [hx] at h; exact h.elim
  | makeSlice t x y =>
    obtain ⟨v, b, h1, h2⟩ := makeVecK_rel (show makeVecK E d t (ρ x) (ρ y) bx k from h)
    exact ⟨v, b, fun k' hk' => (show makeVecK E d t (ρ x) (ρ y) bx k' from h1 _ hk'), h2⟩
  | call c =>
    simp only [stepB] at h ⊢
    cases hcl : isClear c.callee with
    | true =>
      rw [hcl] at h
      simp only at h ⊢
      generalize c.args.toList.map ρ = l at h ⊢
      match l, h with
      | [x], h =>
        simp only [force_eq] at h ⊢
        obtain ⟨b, h1, h2⟩ := clearK_rel h
        exact ⟨_, b, fun k' hk' => h1 _ hk', h2⟩
    | false =>
    rw [hcl] at h
    simp only at h ⊢
    cases hb : bcall E.bs c.callee with
    | none =>
      rw [hb] at h
      obtain ⟨v, h1, h2⟩ := callK_rel h
      exact ⟨v, bx, fun k' hk' => h1 _ hk', h2⟩
    | some g =>
      rw [hb] at h
      simp only at h ⊢
      cases hg : E.ctrB g with
      | none => rw [hg] at h; exact h.elim
      | some cb =>
        rw [hg] at h
        simp only [forceL_eq] at h ⊢
        obtain ⟨_, _, _, -, -, -, -, -, h1, h2⟩ := enterB_rel h
        exact ⟨_, _, h2, h1⟩
  | build t parts =>
    obtain ⟨v, h1, h2⟩ := buildK_rel (show buildK E ρ t parts.toList (fun v => k v bx) from h)
    exact ⟨v, bx, fun k' hk' => (show buildK E ρ t parts.toList (fun v => k' v bx) from h1 _ hk'), h2⟩
  | buildSlice t len parts =>
    simp only [stepB] at h ⊢
    cases hv : vecD E.bs d with
    | true =>
      rw [hv] at h
      exact buildVecK_rel h
    | false =>
    rw [hv] at h
    obtain ⟨v, h1, h2⟩ := buildSliceK_rel (show buildSliceK E d ρ t len parts.toList (fun v => k v bx) from h)
    exact ⟨v, bx, fun k' hk' => (show buildSliceK E d ρ t len parts.toList (fun v => k' v bx) from h1 _ hk'), h2⟩
  | slice t x lo hi mx =>
    obtain ⟨v, h1, h2⟩ := sliceK_rel (show sliceK E ρ t x lo hi mx (fun v => k v bx) from h)
    exact ⟨v, bx, fun k' hk' => (show sliceK E ρ t x lo hi mx (fun v => k' v bx) from h1 _ hk'), h2⟩
  | makeFunc f fs cs =>
    obtain ⟨v, h1, h2⟩ := makeFuncK_rel (show makeFuncK ρ f fs.toList cs.toList (fun v => k v bx) from h)
    exact ⟨v, bx, fun k' hk' => (show makeFuncK ρ f fs.toList cs.toList (fun v => k' v bx) from h1 _ hk'), h2⟩
  | convert s t x =>
    obtain ⟨v, h1, h2⟩ := convK_rel (show convK E s t (ρ x) (fun v => k v bx) from h)
    exact ⟨v, bx, fun k' hk' => (show convK E s t (ρ x) (fun v => k' v bx) from h1 _ hk'), h2⟩
  | index t x i =>
    obtain ⟨v, h1, h2⟩ := indexK_rel (show indexK E t (ρ x) (ρ i) (fun v => k v bx) from h)
    exact ⟨v, bx, fun k' hk' => (show indexK E t (ρ x) (ρ i) (fun v => k' v bx) from h1 _ hk'), h2⟩
  | _ => exact h.elim

/-! ### 2. The operations of a region as a row of steps -/
def lit : Bool → SV
  | true => .tt
  | false => .ff
/-- at a guard's temporary: it is known to be b -/
def Ref (s : ASt) (g : Nat) (b : Bool) (s0 : ASt) : Prop :=
  (s.fr.get g .junk = lit b ∨ s.fr.get g .junk = .val (.bool b)) ∧ s0 = ⟨s.fr.put g (lit b), s.bx⟩
def StepR (E : Env) (o : Oper) (s : ASt) (s' : ASt) : Prop :=
  (isApp o.op = none ∧ isFrz E.bs o = none ∧ ∃ v b, (∀ k' : SV → Tr (Option (List SV)) → Prop, k' v b → stepB E (dOf o.dst) o.op (ev s) s.bx k') ∧ s' = ⟨setD o.dst v s.fr, b⟩) ∨
  (∃ x y t d, isApp o.op = some (x, y, t) ∧ o.dst = some d ∧ ∀ K : ASt → Prop, K s' → appK E d t (ev s x) (ev s y) s K) ∨
  (hasVec E.bs = true ∧ (isApp o.op ≠ none ∨ isFrz E.bs o ≠ none) ∧ ∀ K : ASt → Prop, K s' → opK E o s K)
theorem memN_hasVec : ∀ {bs : List Nat} {d : Nat}, memN bs (Nat.add 1000000 d) = true → hasVec bs = true
  | x :: r, d, h => by
    unfold memN at h
    unfold hasVec
    cases e : Nat.beq x (Nat.add 1000000 d) with
    | true =>
      have := Nat.eq_of_beq_eq_true e
      have h2 : Nat.ble 1000000 x = true := by
        rw [this, Nat.ble_eq]; exact Nat.le_add_right _ _
      rw [h2]
    | false =>
      rw [e] at h
      cases Nat.ble 1000000 x with
      | true => rfl
      | false => exact memN_hasVec h
theorem isFrz_hasVec {bs : List Nat} {o : Oper} {c : Call} (h : isFrz bs o = some c) : hasVec bs = true := by
  unfold isFrz at h
  cases hd : o.dst with
  | none => rw [hd] at h; cases h
  | some d =>
    rw [hd] at h
    simp only at h
    cases hv : vecD bs d with
    | false => rw [hv] at h; cases h
    | true => exact memN_hasVec hv
theorem frzK_rel {E : Env} {d : Nat} {c : Call} {s : ASt} {K : ASt → Prop} (h : frzK E d c s K) : ∃ s', (∀ K' : ASt → Prop, K' s' → frzK E d c s K') ∧ K s' := by
  unfold frzK at h ⊢
  cases hc : c.callee with
  | value f =>
    rw [hc] at h
    simp only at h ⊢
    cases hcf : ev s f with
    | fn g caps =>
      rw [hcf] at h
      simp only at h ⊢
      cases hct : E.ctr g with
      | none =>
        rw [hct] at h
        simp only at h ⊢
        cases caps with
        | cons _ _ => exact h.elim
        | nil =>
          simp only at h ⊢
          cases hcb : E.ctrB g with
          | none => rw [hcb] at h; exact h.elim
          | some cb =>
            rw [hcb] at h
            simp only [forceL_eq] at h ⊢
            obtain ⟨σ, x, bx', -, -, -, -, -, h1, h2⟩ := ownK_rel h
            exact ⟨_, h2, h1⟩
      | some ct =>
        rw [hct] at h
        simp only [forceL_eq] at h ⊢
        simp only [condsK_arrLs, condsK_arrLT, condsK] at h ⊢
        obtain ⟨tb, harr, ht, hback⟩ := gatherK_rel (fun _ _ h => h) 6 _ [] _ (fun _ _ e => by cases e) h
        obtain ⟨ha1, harr2⟩ := arrCs_elim _ harr
        obtain ⟨ha2, x, hs, hi, hdom, hk⟩ := arrT_elim tb harr2
        rw [force_eq] at hk
        cases hlt : allLt (keysT tb) with
        | false => rw [hlt] at hk; exact hk.elim
        | true =>
          rw [hlt] at hk
          simp only [killTK_eq, killBK_eq, Tr.putK_eq] at hk
          refine ⟨_, fun K' hK' => hback _ (arrCs_mono _ harr fun h => arrT_mono tb h fun _ => ⟨x, hs, hi, hdom, ?_⟩), hk⟩
          rw [force_eq, hlt]
          simp only [killTK_eq, killBK_eq, Tr.putK_eq]
          exact hK'
    | _ => rw [hcf] at h; exact h.elim
  | _ => rw [hc] at h; exact h.elim
theorem appV_rel {E : Env} {d : Nat} {t : Nat × Nat} {x y : SV} {s : ASt} {K : ASt → Prop} (h : appV E d t x y s K) : ∃ s', (∀ K' : ASt → Prop, K' s' → appV E d t x y s K') ∧ K s' := by
  unfold appV at h ⊢
  cases htu : Nat.beq t.1 t.2 with
  | false => rw [htu] at h; exact h.elim
  | true =>
  simp only [htu] at h ⊢
  obtain ⟨ti, h1, h2⟩ := tiK_rel h
  cases hs : ti.slice with
  | false => rw [hs] at h2; exact h2.elim
  | true =>
    rw [hs] at h2
    obtain ⟨ui, h3, h4⟩ := tiK_rel h2
    cases hb : Nat.beq ui.zero.length ui.size with
    | false => rw [hb] at h4; exact h4.elim
    | true =>
      rw [hb] at h4
      simp only at h4
      cases hp : Nat.ble 1 ui.size with
      | false => rw [hp] at h4; exact h4.elim
      | true =>
        rw [hp] at h4
        simp only at h4
        cases hm : Nat.ble 1 ui.bytes with
        | false => rw [hm] at h4; exact h4.elim
        | true =>
          rw [hm] at h4
          simp only at h4
          cases hd : Nat.blt d 1000 with
          | false => rw [hd] at h4; exact h4.elim
          | true =>
          rw [hd] at h4
          simp only at h4
          cases hg : s.bx.get d (some []) with
          | some _ => rw [hg] at h4; exact h4.elim
          | none =>
          rw [hg] at h4
          simp only [Tr.putK_eq] at h4
          obtain ⟨X, cs, e, ys, g1, g2, g3, g4⟩ := h4
          refine ⟨_, fun k' hk' => h1 _ ?_, g4⟩
          rw [hs]
          refine h3 _ ?_
          simp only [hb, hp, hm, hd, hg, Tr.putK_eq]
          exact ⟨X, cs, e, ys, g1, g2, g3, hk'⟩
theorem appX_rel {E : Env} {d : Nat} {t : Nat × Nat} {b z o n : Nat} {c : Option Nat} {y : SV} {s : ASt} {K : ASt → Prop} (h : appX E d t b z o n c y s K) : ∃ s', (∀ K' : ASt → Prop, K' s' → appX E d t b z o n c y s K') ∧ K s' := by
  unfold appX at h ⊢
  cases htu : Nat.beq t.1 t.2 with
  | false => rw [htu] at h; exact h.elim
  | true =>
  simp only [htu] at h ⊢
  obtain ⟨ti, h1, h2⟩ := tiK_rel h
  cases hs : ti.slice with
  | false => rw [hs] at h2; exact h2.elim
  | true =>
    rw [hs] at h2
    obtain ⟨ui, h3, h4⟩ := tiK_rel h2
    cases hb : Nat.beq ui.zero.length ui.size with
    | false => rw [hb] at h4; exact h4.elim
    | true =>
      rw [hb] at h4
      simp only at h4
      cases hp : Nat.ble 1 ui.size with
      | false => rw [hp] at h4; exact h4.elim
      | true =>
        rw [hp] at h4
        simp only at h4
        cases hm : Nat.ble 1 ui.bytes with
        | false => rw [hm] at h4; exact h4.elim
        | true =>
          rw [hm] at h4
          simp only at h4
          cases hz : Nat.beq z ui.size with
          | false => rw [hz] at h4; exact h4.elim
          | true =>
          rw [hz] at h4
          simp only at h4
          cases hg : s.bx.get b none with
          | none => rw [hg] at h4; exact h4.elim
          | some cs =>
          rw [hg] at h4
          simp only at h4
          obtain ⟨T, sz, cc, e, l, m1, m2⟩ := manyK_rel h4
          cases hz2 : Nat.beq z sz with
          | false => rw [hz2] at m2; exact m2.elim
          | true =>
          rw [hz2] at m2
          simp only [Tr.putK_eq] at m2
          rcases m2 with ⟨ys, g1, g3, g4⟩ | ⟨g1, g4⟩
          · refine ⟨_, fun k' hk' => h1 _ ?_, g4⟩
            rw [hs]
            refine h3 _ ?_
            simp only [hb, hp, hm, hz, hg]
            refine m1 _ ?_
            simp only [hz2, Tr.putK_eq]
            exact .inl ⟨ys, g1, g3, hk'⟩
          · refine ⟨_, fun k' hk' => h1 _ ?_, g4⟩
            rw [hs]
            refine h3 _ ?_
            simp only [hb, hp, hm, hz, hg]
            refine m1 _ ?_
            simp only [hz2, Tr.putK_eq]
            exact .inr ⟨g1, hk'⟩
/-- what an append comes to, in any state -/
theorem appK_inv {E : Env} {d : Nat} {t : Nat × Nat} {x y : SV} {s : ASt} {K : ASt → Prop} (h : appK E d t x y s K) :
    ∃ (id : Nat) (o : SV), K ⟨(dgrT id d s.fr).put d o, dgrB id d s.bx⟩ ∧ ∀ (s' : ASt) (K' : ASt → Prop), K' ⟨(dgrT id d s'.fr).put d o, dgrB id d s'.bx⟩ → appK E d t x y s' K' := by
  unfold appK at h ⊢
  simp only [force_eq] at h ⊢
  obtain ⟨ti, h1, h2⟩ := tiK_rel h
  cases hs : ti.slice with
  | false => rw [hs] at h2; exact h2.elim
  | true =>
    rw [hs] at h2
    obtain ⟨ui, h3, h4⟩ := tiK_rel h2
    cases hb : Nat.beq ui.zero.length ui.size with
    | false => rw [hb] at h4; exact h4.elim
    | true =>
      rw [hb] at h4
      simp only at h4
      cases hp : Nat.ble 1 ui.size with
      | false => rw [hp] at h4; exact h4.elim
      | true =>
        rw [hp] at h4
        simp only at h4
        cases hm : Nat.ble 1 ui.bytes with
        | false => rw [hm] at h4; exact h4.elim
        | true =>
          rw [hm] at h4
          simp only [Tr.putK_eq] at h4
          obtain ⟨X, cs, e, l, ys, id, g1, g2, g3, g4⟩ := h4
          refine ⟨id, _, g4, fun s' k' hk' => h1 _ ?_⟩
          rw [hs]
          refine h3 _ ?_
          simp only [hb, hp, hm, Tr.putK_eq]
          exact ⟨X, cs, e, l, ys, id, g1, g2, g3, hk'⟩
theorem appK_rel {E : Env} {d : Nat} {t : Nat × Nat} {x y : SV} {s : ASt} {K : ASt → Prop} (h : appK E d t x y s K) : ∃ s', (∀ K' : ASt → Prop, K' s' → appK E d t x y s K') ∧ K s' := by
  unfold appK at h ⊢
  simp only [force_eq] at h ⊢
  obtain ⟨ti, h1, h2⟩ := tiK_rel h
  cases hs : ti.slice with
  | false => rw [hs] at h2; exact h2.elim
  | true =>
    rw [hs] at h2
    obtain ⟨ui, h3, h4⟩ := tiK_rel h2
    cases hb : Nat.beq ui.zero.length ui.size with
    | false => rw [hb] at h4; exact h4.elim
    | true =>
      rw [hb] at h4
      simp only at h4
      cases hp : Nat.ble 1 ui.size with
      | false => rw [hp] at h4; exact h4.elim
      | true =>
        rw [hp] at h4
        simp only at h4
        cases hm : Nat.ble 1 ui.bytes with
        | false => rw [hm] at h4; exact h4.elim
        | true =>
          rw [hm] at h4
          simp only [Tr.putK_eq] at h4
          obtain ⟨X, cs, e, l, ys, id, g1, g2, g3, g4⟩ := h4
          refine ⟨_, fun k' hk' => h1 _ ?_, g4⟩
          rw [hs]
          refine h3 _ ?_
          simp only [hb, hp, hm, Tr.putK_eq]
          exact ⟨X, cs, e, l, ys, id, g1, g2, g3, hk'⟩
inductive Step1 (E : Env) (all : List Oper) (o : Oper) (s : ASt) : ASt → Prop
  | plain (s') (hg : o.guard = none) (h : StepR E o s s') : Step1 E all o s s'
  | run (s' s0 j b g) (hg : o.guard = some (j, b)) (hj : gOf all j = some g) (hr : Ref s g b s0) (h : StepR E o s0 s') : Step1 E all o s s'
  | skip (s0 j b g) (hg : o.guard = some (j, b)) (hj : gOf all j = some g) (hr : Ref s g (!b) s0) : Step1 E all o s ⟨setD o.dst (.val undef) s0.fr, s0.bx⟩
  | void (j b g x) (hg : o.guard = some (j, b)) (hj : gOf all j = some g) (hr : s.fr.get g .junk = .val (.tuple x)) : Step1 E all o s ⟨setD o.dst (.val undef) s.fr, s.bx⟩
inductive Run (E : Env) (all : List Oper) : List Oper → ASt → ASt → Prop
  | nil (s) : Run E all [] s s
  | cons (o os s s' t) (h : Step1 E all o s s') (r : Run E all os s' t) : Run E all (o :: os) s t

theorem put_known {l : Tr SV} {g : Nat} {x : SV} (h : l.get g .junk = x) : l.put g x = l := by
  refine Tr.ext SV.junk (Tr.like_put _ _ _) fun j hj => ?_
  rw [Tr.get_put]
  by_cases e : g = j
  · subst e
    by_cases hh : l.has g = true
    · rw [if_pos ⟨rfl, hh⟩]; exact h.symm
    · rw [if_neg (fun c => hh c.2)]
  · rw [if_neg (fun c => e c.1)]

theorem axOps_rel {E : Env} {all : List Oper} : ∀ {os : List Oper} {s : ASt} {K : ASt → Prop}, axOps E all os s K → ∃ t, Run E all os s t ∧ K t
  | [], s, K, h => ⟨s, .nil s, by unfold axOps at h; rwa [norm_eq] at h⟩
  | o :: os, s, K, h => by
    unfold axOps at h
    rw [norm_eq] at h
    have go : ∀ (s0 : ASt), (opK E o s0 fun s => axOps E all os s K) →
        ∃ s', StepR E o s0 s' ∧ axOps E all os s' K := by
      intro s0 h
      have h0 := h
      unfold opK at h
      cases ha : isApp o.op with
      | none =>
        rw [ha] at h
        simp only at h
        cases hfz : isFrz E.bs o with
        | some c =>
          rw [hfz] at h
          simp only at h
          cases hd : o.dst with
          | none => rw [hd] at h; exact h.elim
          | some d =>
            rw [hd] at h
            obtain ⟨s', h1, h2⟩ := frzK_rel h
            refine ⟨s', .inr (.inr ⟨isFrz_hasVec hfz, .inr (by rw [hfz]; simp), fun K hK => ?_⟩), h2⟩
            unfold opK
            rw [ha, hfz, hd]
            exact h1 _ hK
        | none =>
        rw [hfz] at h
        obtain ⟨v, b, h1, h2⟩ := stepB_rel h
        rw [setK_eq] at h2
        exact ⟨⟨setD o.dst v s0.fr, b⟩, .inl ⟨ha, hfz, v, b, h1, rfl⟩, h2⟩
      | some xyt =>
        obtain ⟨x, y, t⟩ := xyt
        rw [ha] at h
        simp only at h
        cases hd : o.dst with
        | none => rw [hd] at h; exact h.elim
        | some d =>
          rw [hd] at h
          simp only [force_eq] at h
          cases hv : vecD E.bs d with
          | true =>
            rw [hv] at h
            obtain ⟨s', h1, h2⟩ := appV_rel h
            refine ⟨s', .inr (.inr ⟨memN_hasVec hv, .inl (by rw [ha]; simp), fun K hK => ?_⟩), h2⟩
            unfold opK
            rw [ha, hd]
            simp only [force_eq]
            rw [hv]
            exact h1 _ hK
          | false =>
          rw [hv] at h
          simp only at h
          have reg : (∀ b z q n c, ev s0 x ≠ .arr b z q n c) → appK E d t (ev s0 x) (ev s0 y) s0 (fun s => axOps E all os s K) → ∃ s', StepR E o s0 s' ∧ axOps E all os s' K := by
            intro _ h
            obtain ⟨s', h1, h2⟩ := appK_rel h
            exact ⟨s', .inr (.inl ⟨x, y, t, d, ha, hd, h1⟩), h2⟩
          cases hx : ev s0 x with
          | arr b z q n c =>
            rw [hx] at h
            simp only at h
            cases hvv : hasVec E.bs with
            | false => rw [hvv] at h; exact h.elim
            | true =>
              rw [hvv] at h
              obtain ⟨s', h1, h2⟩ := appX_rel h
              refine ⟨s', .inr (.inr ⟨hvv, .inl (by rw [ha]; simp), fun K hK => ?_⟩), h2⟩
              unfold opK
              rw [ha, hd]
              simp only [force_eq]
              rw [hv, hx]
              simp only
              rw [hvv]
              exact h1 _ hK
          | _ => rw [hx] at h; exact reg (by rw [hx]; intros; simp) (by rw [hx]; exact h)
    cases hg : o.guard with
    | none =>
      rw [hg] at h
      obtain ⟨s', h1, h2⟩ := go s h
      obtain ⟨t, h3, h4⟩ := axOps_rel h2
      exact ⟨t, .cons _ _ _ s' _ (.plain _ hg h1) h3, h4⟩
    | some jb =>
      obtain ⟨j, b⟩ := jb
      rw [hg] at h
      simp only at h
      cases hj : gOf all j with
      | none => rw [hj] at h; exact h.elim
      | some g =>
        rw [hj] at h
        simp only at h
        generalize hx : s.fr.get g .junk = x at h
        have known : ∀ c : Bool, x = lit c → (match c == b with
            | true => opK E o s fun s => axOps E all os s K
            | false => setK o.dst (.val undef) s.fr fun fr => axOps E all os ⟨fr, s.bx⟩ K) → ∃ t, Run E all (o :: os) s t ∧ K t := by
          intro c hc h7
          have e : (⟨s.fr.put g (lit c), s.bx⟩ : ASt) = s := by rw [put_known (hx.trans hc)]
          cases hcb : c == b with
          | true =>
            rw [hcb] at h7
            have : c = b := by simpa using hcb
            subst this
            obtain ⟨s', h1, h2⟩ := go s h7
            obtain ⟨t, h3, h4⟩ := axOps_rel h2
            exact ⟨t, .cons _ _ _ s' _ (.run _ s j c g hg hj ⟨.inl (hx.trans hc), e.symm⟩ h1) h3, h4⟩
          | false =>
            rw [hcb] at h7
            have : c = !b := by cases c <;> cases b <;> simp_all
            rw [setK_eq] at h7
            obtain ⟨t, h3, h4⟩ := axOps_rel h7
            refine ⟨t, .cons _ _ _ _ _ (.skip s j b g hg hj ⟨.inl (by rw [← this]; exact hx.trans hc), ?_⟩) h3, h4⟩
            rw [← this]; exact e.symm
        have open' : ∀ c : Bool, x = .val (.bool c) → (match c == b with
            | true => opK E o ⟨s.fr.put g (lit c), s.bx⟩ fun s => axOps E all os s K
            | false => setK o.dst (.val undef) (s.fr.put g (lit c)) fun fr => axOps E all os ⟨fr, s.bx⟩ K) → ∃ t, Run E all (o :: os) s t ∧ K t := by
          intro c hc h7
          cases hcb : c == b with
          | true =>
            rw [hcb] at h7
            have : c = b := by simpa using hcb
            subst this
            obtain ⟨s', h1, h2⟩ := go _ h7
            obtain ⟨t, h3, h4⟩ := axOps_rel h2
            exact ⟨t, .cons _ _ _ s' _ (.run _ _ j c g hg hj ⟨.inr (hx.trans hc), rfl⟩ h1) h3, h4⟩
          | false =>
            rw [hcb] at h7
            have : c = !b := by cases c <;> cases b <;> simp_all
            rw [setK_eq] at h7
            obtain ⟨t, h3, h4⟩ := axOps_rel h7
            exact ⟨t, .cons _ _ _ _ _ (.skip ⟨s.fr.put g (lit c), s.bx⟩ j b g hg hj ⟨.inr (by rw [← this]; exact hx.trans hc), by rw [← this]⟩) h3, h4⟩
        cases x with
        | tt => exact known true rfl (by cases b <;> exact h)
        | ff => exact known false rfl (by cases b <;> exact h)
        | val v =>
          cases v with
          | bool c =>
            obtain ⟨ht, hf⟩ := h
            cases c with
            | true =>
              have h := ht rfl
              rw [Tr.putK_eq] at h
              exact open' true rfl (by cases b <;> exact h)
            | false =>
              have h := hf rfl
              rw [Tr.putK_eq] at h
              exact open' false rfl (by cases b <;> exact h)
          | tuple y =>
            simp only at h
            rw [setK_eq] at h
            obtain ⟨t, h3, h4⟩ := axOps_rel h
            exact ⟨t, .cons _ _ _ _ _ (.void j b g y hg hj hx) h3, h4⟩
          | _ => exact h.elim
        | _ => exact h.elim

/-! ### 3. A step in memory -/
section
variable {P : Program} {E : Env} {M : BM} {w0 : World} {H0 : HM} {a : Act} {w : World} {s s' : ASt} {ops : Array Oper} {Q : Exit → Act → World → Prop} [GlOk E H0 w0]

theorem StepR_sound (hE : EnvOk P E) {o : Oper} (h : StepR E o s s') (hr : Rel M w0 H0 s a w) {next : Act → World → Prop} (hn : ∀ a' w', Rel M w0 H0 s' a' w' → next a' w') : o.wp P a w next Q := by
  rcases h with ⟨-, -, v, b, h1, rfl⟩ | ⟨x, y, t, d, ha, hd, h1⟩ | ⟨-, -, h1⟩
  · obtain ⟨H, β, T, hf, hw⟩ := hr
    refine step_sound hE hf hw (k := fun v' s1 => v' = v ∧ s1 = ⟨s.fr, b⟩) ?_ (h1 _ ⟨rfl, rfl⟩)
    rintro v' s1 val H' β' T' w' ⟨rfl, rfl⟩ hf' hw' hg
    exact hn _ _ ⟨H', β', T', hf'.put' hg _, hw'⟩
  · exact app_sound hE hr ha hd (h1 (fun z => z = s') rfl) fun z a' w' e hr' => hn a' w' (e ▸ hr')
  · have hk := h1 (fun z => z = s') rfl
    have hn' : ∀ z a' w', z = s' → Rel M w0 H0 z a' w' → next a' w' := fun z a' w' e hr' => hn a' w' (e ▸ hr')
    unfold opK at hk
    cases ha : isApp o.op with
    | none =>
      rw [ha] at hk
      simp only at hk
      cases hfz : isFrz E.bs o with
      | some c =>
        rw [hfz] at hk
        simp only at hk
        cases hd : o.dst with
        | none => rw [hd] at hk; exact hk.elim
        | some d =>
          rw [hd] at hk
          exact frz_sound hE hr (isFrz_eq hfz) hd hk hn'
      | none =>
        rw [hfz] at hk
        obtain ⟨v, b, h2, h3⟩ := stepB_rel hk
        rw [setK_eq] at h3
        obtain ⟨H, β, T, hf, hw⟩ := hr
        refine step_sound hE hf hw (k := fun v' s1 => v' = v ∧ s1 = ⟨s.fr, b⟩) ?_ (h2 _ ⟨rfl, rfl⟩)
        rintro v' s1 val H' β' T' w' ⟨rfl, rfl⟩ hf' hw' hg
        exact hn' _ _ _ h3 ⟨H', β', T', hf'.put' hg _, hw'⟩
    | some xyt =>
      obtain ⟨x, y, t⟩ := xyt
      rw [ha] at hk
      simp only at hk
      cases hd : o.dst with
      | none => rw [hd] at hk; exact hk.elim
      | some d =>
        rw [hd] at hk
        simp only [force_eq] at hk
        cases hv : vecD E.bs d with
        | true => rw [hv] at hk; exact appV_sound hE hr ha hd hk hn'
        | false =>
          rw [hv] at hk
          simp only at hk
          cases hx : ev s x with
          | arr b z q n c =>
            rw [hx] at hk
            simp only at hk
            cases hvv : hasVec E.bs with
            | false => rw [hvv] at hk; exact hk.elim
            | true =>
              rw [hvv] at hk
              exact appX_sound hE hr ha hd hx hk hn'
          | _ => rw [hx] at hk; exact app_sound hE hr ha hd (by rw [hx]; exact hk) hn'
theorem lit_G {H : HM} {β : BM} {T : TM} {b : Bool} {v : Value} (h : G H β T (.val (.bool b)) v ∨ G H β T (lit b) v) : v = .bool b := by
  rcases h with h | h
  · exact gval h
  · cases b <;> (simp only [lit] at h; cases h; rfl)
theorem Ref_rel {g : Nat} {b : Bool} {s0 : ASt} (h : Ref s g b s0) (hr : Rel M w0 H0 s a w) : Rel M w0 H0 s0 a w ∧ g < a.tmps.size ∧ a.tmps.getD g undef = .bool b := by
  obtain ⟨H, β, T, hf, hw⟩ := hr
  obtain ⟨h1, rfl⟩ := h
  have hg : s.fr.has g = true := by
    cases hl : s.fr.has g with
    | true => rfl
    | false =>
      rw [Tr.get_out _ _ _ hl] at h1
      cases b <;> simp [lit] at h1
  have hv : a.tmps.getD g undef = .bool b := by
    have := hf.val g
    rcases h1 with h1 | h1 <;> rw [h1] at this
    · exact lit_G (.inr this)
    · exact lit_G (.inl this)
  refine ⟨⟨H, β, T, ⟨fun j hj => hf.size j (by rw [Tr.has_put] at hj; exact hj), hf.defers, fun j => ?_⟩, hw⟩, hf.size g hg, hv⟩
  show G H β T ((s.fr.put g (lit b)).get j .junk) _
  rw [Tr.get_put]
  by_cases e : g = j
  · subst e
    rw [if_pos ⟨rfl, hg⟩, hv]
    cases b
    · exact .ff
    · exact .tt
  · rw [if_neg (fun c => e c.1)]
    exact hf.val j
theorem at'_map_some (l : List Oper) (j : Nat) : at' (l.map some) j none = l[j]? := by
  by_cases h : j < l.length
  · rw [at'_get _ _ _ (by simpa using h)]; simp [h]
  · rw [at'_ge _ _ _ (by simp; omega)]; simp; omega
theorem gOf_eq {j g : Nat} (h : gOf ops.toList j = some g) : (ops[j]?).bind (·.dst) = some g := by
  unfold gOf at h
  rw [at'_map_some] at h
  rw [← Array.getElem?_toList]
  cases e : ops.toList[j]? with
  | none => rw [e] at h; cases h
  | some o => rw [e] at h; simpa using h
theorem yielded_eq {j g : Nat} (h : gOf ops.toList j = some g) (hg : g < a.tmps.size) : yielded ops a.tmps j = match a.tmps.getD g undef with | .bool b => some b | _ => none := by
  unfold yielded
  rw [gOf_eq h]
  have : a.tmps[g]? = some (a.tmps.getD g undef) := by simp [hg]
  simp only [Option.bind_some, this]
  cases a.tmps.getD g undef <;> rfl
theorem Step1_sound (hE : EnvOk P E) {i : Nat} {o : Oper} (hi : ops[i]? = some o) (h : Step1 E ops.toList o s s') (hr : Rel M w0 H0 s a w) {next : Act → World → Prop}
    (hn : ∀ a' w', Rel M w0 H0 s' a' w' → next a' w') : wpOp P ops Q i next a w := by
  unfold wpOp
  simp only [hi]
  cases h with
  | plain _ hg h =>
    rw [if_pos (by simp [Region.wanted, hg])]
    exact .inl (StepR_sound hE h hr hn)
  | run _ s0 j b g hg hj href h =>
    obtain ⟨hr0, h1, h2⟩ := Ref_rel href hr
    rw [if_pos (by simp only [Region.wanted, hg, yielded_eq hj h1, h2]; simp)]
    exact .inl (StepR_sound hE h hr0 hn)
  | skip s0 j b g hg hj href =>
    obtain ⟨hr0, h1, h2⟩ := Ref_rel href hr
    rw [if_neg (by simp only [Region.wanted, hg, yielded_eq hj h1, h2]; cases b <;> simp)]
    obtain ⟨H, β, T, hf, hw⟩ := hr0
    exact hn _ _ ⟨H, β, T, hf.put' .undef _, hw⟩
  | void j b g x hg hj href =>
    obtain ⟨H, β, T, hf, hw⟩ := hr
    have hgl : s.fr.has g = true := by
      cases hl : s.fr.has g with
      | true => rfl
      | false => rw [Tr.get_out _ _ _ hl] at href; cases href
    have hv := hf.val g
    rw [href] at hv
    have hv := gval hv
    rw [if_neg (by simp only [Region.wanted, hg, yielded_eq hj (hf.size g hgl), hv]; simp)]
    exact hn _ _ ⟨H, β, T, hf.put' .undef _, hw⟩

theorem Run_sound (hE : EnvOk P E) {t : ASt} (hq : ∀ a' w', Rel M w0 H0 t a' w' → Q .normal a' w') : ∀ (os : List Oper) (i : Nat) (s : ASt) (a : Act) (w : World),
    ops.toList.drop i = os → Run E ops.toList os s t → Rel M w0 H0 s a w → wpOps P ops Q (List.range' i os.length) a w
  | [], i, s, a, w, _, h, hr => by
    cases h
    exact hq _ _ hr
  | o :: os, i, s, a, w, hd, h, hr => by
    cases h with
    | cons _ _ _ s' _ h1 h2 =>
      have hi : ops[i]? = some o := by
        have : ops.toList[i]? = some o := by
          have := congrArg (fun l => l[0]?) hd
          simpa using this
        rwa [Array.getElem?_toList] at this
      have hd' : ops.toList.drop (i + 1) = os := by
        have := congrArg List.tail hd
        simpa using this
      rw [List.length_cons, List.range'_succ, wpOps_cons]
      exact Step1_sound hE hi h1 hr fun a' w' hr' => Run_sound hE hq os (i + 1) s' a' w' hd' h2 hr'

theorem region_sound (hE : EnvOk P E) (id : Nat) {K : ASt → Prop} (h : axOps E ops.toList ops.toList s K) (hr : Rel M w0 H0 s a w) (hq : ∀ s' a' w', K s' → Rel M w0 H0 s' a' w' → Q .normal a' w') :
    (Code.region id ops false).wp P Q a w := by
  obtain ⟨t, h1, h2⟩ := axOps_rel h
  refine wp_region ?_
  have := Run_sound (Q := Q) hE (fun a' w' hr' => hq t a' w' h2 hr') ops.toList 0 s a w (by simp) h1 hr
  rwa [Array.length_toList, ← List.range_eq_range'] at this
end
end Go.Proofs.Yteccinlmblijfaa.Ax
/- A region whose order is open: any order that its edges allow comes to the same. -/
set_option linter.unusedVariables false
set_option linter.unusedSimpArgs false
namespace Go.Proofs.Yteccinlmblijfaa.Ax
open Go Go.RowKit

/-! ### 1. What an operation hangs on -/
theorem mem_tmpsIn {op : Op} {t : Nat} (h : (Operand.tmp t) ∈ op.operands) : t ∈ tmpsIn op := by
  unfold tmpsIn
  rw [List.mem_filterMap]
  exact ⟨.tmp t, by simpa using h, rfl⟩
theorem fillK_congr {ρ ρ' : Operand → SV} : ∀ (l : List (Nat × Operand)) (place : Nat → (Nat → Nat → Prop) → Prop) (cs : List SV) (k : List SV → Prop), (∀ p ∈ l, ρ p.2 = ρ' p.2) → fillK ρ place l cs k = fillK ρ' place l cs k
  | [], _, _, _, _ => rfl
  | (i, x) :: r, place, cs, k, h => by
    have e : ∀ cs, fillK ρ place r cs k = fillK ρ' place r cs k := fun cs => fillK_congr r place cs k fun p hp => h p (List.mem_cons_of_mem _ hp)
    simp only [fillK, e, h (i, x) List.mem_cons_self]
theorem stepB_congr {E : Env} {d : Nat} {op : Op} {ρ ρ' : Operand → SV} {bx : Tr (Option (List SV))} {k : SV → Tr (Option (List SV)) → Prop}
    (h : ∀ x ∈ op.operands, ρ x = ρ' x) : stepB E d op ρ bx k = stepB E d op ρ' bx k := by
  cases op with
  | move x => simp only [stepB, h x (by simp [Op.operands])]
  | assign x => simp only [stepB, h x (by simp [Op.operands])]
  | pick c x y => simp only [stepB, h c (by simp [Op.operands]), h x (by simp [Op.operands]), h y (by simp [Op.operands])]
  | alloc t => rfl
  | box t x => simp only [stepB, h x (by simp [Op.operands])]
  | load t x => simp only [stepB, h x (by simp [Op.operands])]
  | store t x y => simp only [stepB, h x (by simp [Op.operands]), h y (by simp [Op.operands])]
  | fieldAddr t x f => simp only [stepB, h x (by simp [Op.operands])]
  | field t x f => simp only [stepB, h x (by simp [Op.operands])]
  | indexAddr t x i => simp only [stepB, h x (by simp [Op.operands]), h i (by simp [Op.operands])]
  | binOp op t x y u => simp only [stepB, h x (by simp [Op.operands]), h y (by simp [Op.operands])]
  | unOp op t x => simp only [stepB, h x (by simp [Op.operands])]
  | extract x i => simp only [stepB, h x (by simp [Op.operands])]
  | call c =>
    have : c.args.toList.map ρ = c.args.toList.map ρ' := by
      apply List.map_congr_left
      intro x hx
      refine h x ?_
      simp only [Op.operands, Call.operands, Array.mem_append]
      exact .inr (by simpa using hx)
    simp only [stepB, this]
    cases hb : bcall E.bs c.callee with
    | some g => rfl
    | none =>
    cases hc : c.callee with
    | value f =>
      simp only [callK]
      rw [h f (by simp [Op.operands, Call.operands, hc])]
    | builtin b => cases b <;> rfl
    | invoke _ _ => rfl
  | build t parts =>
    have key : ∀ (l : List (Nat × Operand)) (place : Nat → (Nat → Nat → Prop) → Prop) (cs : List SV) (k : List SV → Prop), (∀ p ∈ l, ρ p.2 = ρ' p.2) → fillK ρ place l cs k = fillK ρ' place l cs k := fillK_congr
    simp only [stepB, buildK]
    congr 1
    funext ti
    cases ti.flds with
    | nil => rfl
    | cons _ _ => simp only [fun place cs k => key parts.toList place cs k fun p hp => h p.2 (by simp only [Op.operands]; exact List.mem_toArray.2 (List.mem_map.2 ⟨p, hp, rfl⟩))]
  | buildSlice t len parts =>
    simp only [stepB, buildSliceK, buildVecK, fun place cs k => fillK_congr (ρ := ρ) (ρ' := ρ') parts.toList place cs k fun p hp => h p.2 (by simp only [Op.operands]; exact List.mem_toArray.2 (List.mem_map.2 ⟨p, hp, rfl⟩))]
  | slice t x lo hi mx =>
    cases mx with
    | some m =>
      have hlo : lo.map ρ = lo.map ρ' := by cases lo with
        | none => rfl
        | some y => simp only [Option.map_some]; rw [h y (by simp [Op.operands])]
      cases hi with
      | none => simp only [stepB, sliceK, hlo, h x (by simp [Op.operands]), h m (by simp [Op.operands])]
      | some hh => simp only [stepB, sliceK, hlo, h x (by simp [Op.operands]), h m (by simp [Op.operands]), h hh (by simp [Op.operands])]
    | none =>
      have hlo : lo.map ρ = lo.map ρ' := by cases lo with
        | none => rfl
        | some y => simp only [Option.map_some]; rw [h y (by simp [Op.operands])]
      have hhi : hi.map ρ = hi.map ρ' := by cases hi with
        | none => rfl
        | some y => simp only [Option.map_some]; rw [h y (by simp [Op.operands])]
      simp only [stepB, sliceK, hlo, hhi, h x (by simp [Op.operands])]
  | makeFunc f fs cs =>
    have : cs.toList.map ρ = cs.toList.map ρ' := List.map_congr_left fun x hx => h x (by simp only [Op.operands, Array.mem_append]; exact .inr (by simpa using hx))
    simp only [stepB, makeFuncK, this]
  | makeSlice t x y => simp only [stepB, h x (by simp [Op.operands]), h y (by simp [Op.operands])]
  | nilCheck x => simp only [stepB, h x (by simp [Op.operands])]
  | convert s t x => simp only [stepB, h x (by simp [Op.operands])]
  | index t x i => simp only [stepB, h x (by simp [Op.operands]), h i (by simp [Op.operands])]
  | _ => rfl
/-- what neither reads nor writes boxes leaves them, and hangs on none -/
theorem stepB_free {E : Env} {d : Nat} {op : Op} {ρ : Operand → SV} {bx b : Tr (Option (List SV))} {v : SV} (h1 : memR op = false) (h2 : memW E.bs d op = false)
    (h : ∀ k' : SV → Tr (Option (List SV)) → Prop, k' v b → stepB E d op ρ bx k') : b = bx ∧ ∀ (bx' : Tr (Option (List SV))) (k' : SV → Tr (Option (List SV)) → Prop), k' v bx' → stepB E d op ρ bx' k' := by
  have key : ∀ (F : (SV → Prop) → Prop), (∀ k : SV → Tr (Option (List SV)) → Prop, ∀ bx, stepB E d op ρ bx k = F fun v => k v bx) → (∀ {k : SV → Prop}, F k → ∃ y, (∀ k' : SV → Prop, k' y → F k') ∧ k y) →
      b = bx ∧ ∀ (bx' : Tr (Option (List SV))) (k' : SV → Tr (Option (List SV)) → Prop), k' v bx' → stepB E d op ρ bx' k' := by
    intro F hF hrel
    have h3 := h (fun v' b' => v' = v ∧ b' = b) ⟨rfl, rfl⟩
    rw [hF] at h3
    obtain ⟨y, h4, rfl, h5⟩ := hrel h3
    refine ⟨h5.symm, fun bx' k' hk' => ?_⟩
    rw [hF]
    exact h4 _ hk'
  have dead : (stepB E d op ρ bx (fun _ _ => True) → False) → b = bx ∧ ∀ (bx' : Tr (Option (List SV))) (k' : SV → Tr (Option (List SV)) → Prop), k' v bx' → stepB E d op ρ bx' k' :=
    fun hd => (hd (h _ trivial)).elim
  cases op with
  | move x => exact key (fun k => force (ρ x) k) (fun k bx => rfl) (fun h => by rw [force_eq] at h; exact ⟨_, fun k' hk' => by rw [force_eq]; exact hk', h⟩)
  | assign x => exact key (fun k => force (ρ x) k) (fun k bx => rfl) (fun h => by rw [force_eq] at h; exact ⟨_, fun k' hk' => by rw [force_eq]; exact hk', h⟩)
  | binOp op t x y u => exact key (fun k => binK E t op (ρ x) (ρ y) (isConst x || isConst y) k) (fun k bx => rfl) (fun h => binK_rel h)
  | unOp op t x => exact key (fun k => unK op (ρ x) k) (fun k bx => rfl) (fun h => unK_rel h)
  | call c =>
    cases hc : c.callee with
    | value f => simp [memR, hc] at h1
    | builtin b =>
      have hcl : isClear c.callee = false := by
        cases hcl : isClear c.callee with
        | false => rfl
        | true => simp [memW, hcl] at h2
      refine key (fun k => callK E d .nil c.callee ρ (c.argTypes.toList) (c.args.toList.map ρ) k) (fun k bx => ?_) (fun h => callK_rel h)
      simp only [stepB]
      rw [hcl, hc]
      rfl
    | invoke a b => exact dead (fun h => by simp only [stepB, hc] at h; exact h.elim)
  | build t parts => exact key (fun k => buildK E ρ t parts.toList k) (fun k bx => rfl) (fun h => buildK_rel h)
  | buildSlice t len parts =>
    have hv : vecD E.bs d = false := by
      cases hv : vecD E.bs d with
      | false => rfl
      | true => rw [show memW E.bs d (.buildSlice t len parts) = vecD E.bs d from rfl, hv] at h2; cases h2
    exact key (fun k => buildSliceK E d ρ t len parts.toList k) (fun k bx => by simp only [stepB]; rw [hv]) (fun h => buildSliceK_rel h)
  | makeSlice t x y => simp [memW] at h2
  | slice t x lo hi mx => exact key (fun k => sliceK E ρ t x lo hi mx k) (fun k bx => rfl) (fun h => sliceK_rel h)
  | makeFunc f fs cs => exact key (fun k => makeFuncK ρ f fs.toList cs.toList k) (fun k bx => rfl) (fun h => makeFuncK_rel h)
  | convert s t x => exact key (fun k => convK E s t (ρ x) k) (fun k bx => rfl) (fun h => convK_rel h)
  | index t x i => exact key (fun k => indexK E t (ρ x) (ρ i) k) (fun k bx => rfl) (fun h => indexK_rel h)
  | alloc t => simp [memW] at h2
  | box t x => simp [memW] at h2
  | load t x => simp [memR] at h1
  | nilCheck x =>
    have h3 := h (fun v' b' => v' = v ∧ b' = b) ⟨rfl, rfl⟩
    simp only [stepB] at h3 ⊢
    cases hc : ρ x <;> rw [hc] at h3 <;> first | exact h3.elim | (obtain ⟨rfl, e⟩ := h3; exact ⟨e.symm, fun bx' k' hk' => hk'⟩)
  | store t x y => simp [memW] at h2
  | pick c x y =>
    have h3 := h (fun v' b' => v' = v ∧ b' = b) ⟨rfl, rfl⟩
    simp only [stepB, force_eq] at h3 ⊢
    cases hc : ρ c <;> rw [hc] at h3 <;> first | exact h3.elim | exact ⟨h3.2.symm, fun bx' k' hk' => by rw [show _ = v from h3.1]; exact hk'⟩
  | fieldAddr t x f =>
    cases hx : ρ x with
    | box b0 o => exact key (fun k => tiK E.ty t fun t => fldK t.flds f fun q _ => k (.box b0 (o + q))) (fun k bx => by simp only [stepB, hx]) (fun h => by
        obtain ⟨ti, h1, h2⟩ := tiK_rel h
        obtain ⟨q, u, h3, h4⟩ := fldK_rel h2
        exact ⟨_, fun k' hk' => h1 _ (h3 _ hk'), h4⟩)
    | elt X z cs dd l i o => exact key (fun k => tiK E.ty t fun t => fldK t.flds f fun q _ => k (.elt X z cs dd l i (o + q))) (fun k bx => by simp only [stepB, hx]) (fun h => by
        obtain ⟨ti, h1, h2⟩ := tiK_rel h
        obtain ⟨q, u, h3, h4⟩ := fldK_rel h2
        exact ⟨_, fun k' hk' => h1 _ (h3 _ hk'), h4⟩)
    | plc b0 z i o => exact key (fun k => tiK E.ty t fun t => fldK t.flds f fun q _ => k (.plc b0 z i (o + q))) (fun k bx => by simp only [stepB, hx]) (fun h => by
        obtain ⟨ti, h1, h2⟩ := tiK_rel h
        obtain ⟨q, u, h3, h4⟩ := fldK_rel h2
        exact ⟨_, fun k' hk' => h1 _ (h3 _ hk'), h4⟩)
    | _ => exact dead (fun h => by simp only [stepB, hx] at h)
  | field t x f =>
    cases hx : ρ x with
    | agg l =>
      refine key (fun k => tiK E.ty t fun t => fldK t.flds f fun q u => tiK E.ty u fun u => match Nat.ble (q + u.size) l.length with
        | true => wholeK u.agg (takeN u.size (dropN q l)) fun v => k v
        | false => False) ?_ ?_
      · intro k bx
        simp only [stepB, hx]
        rfl
      · intro k h
        obtain ⟨ti, h1, h2⟩ := tiK_rel h
        obtain ⟨q, u, h3, h4⟩ := fldK_rel h2
        obtain ⟨ui, h5, h6⟩ := tiK_rel h4
        cases hl : Nat.ble (q + ui.size) l.length with
        | false => rw [hl] at h6; exact h6.elim
        | true =>
          rw [hl] at h6
          simp only [wholeK_eq] at h6 h1 h3 h5 ⊢
          refine ⟨_, fun k' hk' => h1 _ (h3 _ (h5 _ ?_)), h6⟩
          rw [hl]; exact hk'
    | _ => exact dead (fun h => by simp only [stepB, hx] at h)
  | indexAddr t x i =>
    cases hi : ρ i with
    | val u =>
      cases u with
      | int kk n =>
        cases hx : ρ x with
        | row X z cs dd l =>
          refine key (fun k => tiK E.ty t fun t => tiK E.ty t.elem fun u => match Nat.beq z u.size with
            | true => match t.slice with
              | true => (0 ≤ n ∧ n < (l.length : Int)) ∧ k (.elt X z cs dd l n 0)
              | false => False
            | false => False) ?_ ?_
          · intro k bx
            simp only [stepB, hi, hx]
            rfl
          · intro k h
            obtain ⟨ti, h1, h2⟩ := tiK_rel h
            obtain ⟨ui, h3, h4⟩ := tiK_rel h2
            cases hz : Nat.beq z ui.size with
            | false => rw [hz] at h4; exact h4.elim
            | true =>
              rw [hz] at h4
              simp only at h4
              cases hs : ti.slice with
              | false => rw [hs] at h4; exact h4.elim
              | true =>
                rw [hs] at h4
                refine ⟨_, fun k' hk' => h1 _ (h3 _ ?_), h4.2⟩
                rw [hz, hs]; exact ⟨h4.1, hk'⟩
        | own X z cs dd l id =>
          refine key (fun k => tiK E.ty t fun t => tiK E.ty t.elem fun u => match Nat.beq z u.size with
            | true => match t.slice with
              | true => (0 ≤ n ∧ n < (l.length : Int)) ∧ k (.elt X z cs dd l n 0)
              | false => False
            | false => False) ?_ ?_
          · intro k bx
            simp only [stepB, hi, hx]
            rfl
          · intro k h
            obtain ⟨ti, h1, h2⟩ := tiK_rel h
            obtain ⟨ui, h3, h4⟩ := tiK_rel h2
            cases hz : Nat.beq z ui.size with
            | false => rw [hz] at h4; exact h4.elim
            | true =>
              rw [hz] at h4
              simp only at h4
              cases hs : ti.slice with
              | false => rw [hs] at h4; exact h4.elim
              | true =>
                rw [hs] at h4
                refine ⟨_, fun k' hk' => h1 _ (h3 _ ?_), h4.2⟩
                rw [hz, hs]; exact ⟨h4.1, hk'⟩
        | arr b z q m cap =>
          refine key (fun k => tiK E.ty t fun t => tiK E.ty t.elem fun u => match Nat.beq z u.size with
            | true => match t.slice with
              | true => (0 ≤ n ∧ n < (m : Int)) ∧ k (.plc b z ((q : Int) + n) 0)
              | false => False
            | false => False) ?_ ?_
          · intro k bx
            simp only [stepB, hi, hx]
            rfl
          · intro k h
            obtain ⟨ti, h1, h2⟩ := tiK_rel h
            obtain ⟨ui, h3, h4⟩ := tiK_rel h2
            cases hz : Nat.beq z ui.size with
            | false => rw [hz] at h4; exact h4.elim
            | true =>
              rw [hz] at h4
              simp only at h4
              cases hs : ti.slice with
              | false => rw [hs] at h4; exact h4.elim
              | true =>
                rw [hs] at h4
                refine ⟨_, fun k' hk' => h1 _ (h3 _ ?_), h4.2⟩
                rw [hz, hs]; exact ⟨h4.1, hk'⟩
        | _ => exact dead (fun h => by simp only [stepB, hi, hx] at h)
      | _ => exact dead (fun h => by simp only [stepB, hi] at h)
    | _ => exact dead (fun h => by simp only [stepB, hi] at h)
  | extract x i =>
    cases hx : ρ x with
    | tup l =>
      refine key (fun k => match Nat.blt i l.length with
        | true => force (at' l i .junk) fun v => k v
        | false => False) ?_ ?_
      · intro k bx
        simp only [stepB, hx]
        rfl
      · intro k h
        cases hb : Nat.blt i l.length with
        | false => rw [hb] at h; exact h.elim
        | true => rw [hb] at h; simp only [force_eq] at h ⊢; exact ⟨_, fun _ h => h, h⟩
    | _ => exact dead (fun h => by simp only [stepB, hx] at h)
  | _ => exact dead (fun h => h)
/-- what does not write boxes leaves them -/
theorem stepB_keeps {E : Env} {d : Nat} {op : Op} {ρ : Operand → SV} {bx b : Tr (Option (List SV))} {v : SV} (h2 : memW E.bs d op = false)
    (h : ∀ k' : SV → Tr (Option (List SV)) → Prop, k' v b → stepB E d op ρ bx k') : b = bx := by
  cases h1 : memR op with
  | false => exact (stepB_free h1 h2 h).1
  | true =>
    cases op with
    | load t x =>
      have h3 := h (fun v' b' => v' = v ∧ b' = b) ⟨rfl, rfl⟩
      simp only [stepB] at h3
      cases hq : qLoad E.bs x with
      | false =>
        rw [hq] at h3
        simp only at h3
        cases hq2 : sLoad E.bs x with
        | false =>
          rw [hq2] at h3
          obtain ⟨ti, -, h4⟩ := tiK_rel h3
          obtain ⟨y, -, h5⟩ := loadK_rel h4
          exact h5.2.symm
        | true =>
          rw [hq2] at h3
          simp only at h3
          cases hb : isSB E.bs (ρ x) with
          | false => rw [hb] at h3; exact h3.elim
          | true =>
            rw [hb] at h3
            obtain ⟨ti, -, h4⟩ := tiK_rel h3
            obtain ⟨y, -, h5⟩ := loadK_rel h4
            exact h5.2.symm
      | true =>
        rw [hq] at h3
        simp only at h3
        cases hb : isQB E.bs (ρ x) with
        | false => rw [hb] at h3; exact h3.elim
        | true =>
          rw [hb] at h3
          obtain ⟨ti, -, h4⟩ := tiK_rel h3
          obtain ⟨y, -, h5⟩ := loadK_rel h4
          exact h5.2.symm
    | call c =>
      cases hcl : isClear c.callee with
      | true => simp [memW, hcl] at h2
      | false =>
      cases hb : bcall E.bs c.callee with
      | some g => simp [memW, hcl, hb] at h2
      | none =>
        have h3 := h (fun v' b' => v' = v ∧ b' = b) ⟨rfl, rfl⟩
        simp only [stepB, hcl, hb] at h3
        obtain ⟨y, -, h5⟩ := callK_rel h3
        exact h5.2.symm
    | _ => simp [memR] at h1
/-- what makes a variable keeps all others -/
theorem stepB_grows {E : Env} {d : Nat} {op : Op} {ρ : Operand → SV} {bx b : Tr (Option (List SV))} {v : SV} (ha : memA op = true) (h : ∀ k' : SV → Tr (Option (List SV)) → Prop, k' v b → stepB E d op ρ bx k') :
    ∀ id cs, bx.get id none = some cs → b.get id none = some cs := by
  have h3 := h (fun v' b' => v' = v ∧ b' = b) ⟨rfl, rfl⟩
  have key : ∀ cs', bx.get d (some []) = none → b = bx.put d (some cs') → ∀ id cs, bx.get id none = some cs → b.get id none = some cs := by
    intro cs' hn hb id cs e
    obtain ⟨-, hn'⟩ := at'_none hn
    rw [hb, Tr.get_put]
    by_cases c : d = id
    · rw [← c, hn'] at e; cases e
    · rw [if_neg (fun q => c q.1)]; exact e
  cases op with
  | alloc t =>
    simp only [stepB] at h3
    cases hdm : Nat.blt d 1000 with
    | false => rw [hdm] at h3; exact h3.elim
    | true =>
    rw [hdm] at h3
    simp only at h3
    cases hb : bx.get d (some []) with
    | some _ => rw [hb] at h3; exact h3.elim
    | none =>
      rw [hb] at h3
      obtain ⟨ti, -, h4⟩ := tiK_rel h3
      cases hz : ti.zero with
      | nil => rw [hz] at h4; exact h4.elim
      | cons z zs =>
        rw [hz] at h4
        simp only [forceL_eq, Tr.putK_eq] at h4
        exact key _ hb h4.2.symm
  | box t x =>
    simp only [stepB] at h3
    cases hdm : Nat.blt d 1000 with
    | false => rw [hdm] at h3; exact h3.elim
    | true =>
    rw [hdm] at h3
    simp only at h3
    cases hb : bx.get d (some []) with
    | some _ => rw [hb] at h3; exact h3.elim
    | none =>
      rw [hb] at h3
      obtain ⟨cs', -, h4⟩ := cellsK_rel h3
      cases hpl : plain cs' with
      | false => rw [hpl] at h4; exact h4.elim
      | true =>
      rw [hpl] at h4
      simp only [Tr.putK_eq] at h4
      exact key _ hb h4.2.symm
  | makeSlice t x y =>
    obtain ⟨ti, h1, h2⟩ := tiK_rel (show makeVecK E d t (ρ x) (ρ y) bx _ from h3)
    cases hs : ti.slice with
    | false => rw [hs] at h2; exact h2.elim
    | true =>
      rw [hs] at h2
      obtain ⟨ui, h3, h4⟩ := tiK_rel h2
      cases hb : Nat.beq ui.zero.length ui.size with
      | false => rw [hb] at h4; exact h4.elim
      | true =>
        rw [hb] at h4
        simp only at h4
        cases hp : Nat.ble 1 ui.size with
        | false => rw [hp] at h4; exact h4.elim
        | true =>
          rw [hp] at h4
          simp only at h4
          generalize ρ x = px at h4
          generalize ρ y = py at h4
          cases px with
          | val v =>
            cases v with
            | int k1 n =>
              cases py with
              | val v =>
                cases v with
                | int k2 c =>
                  obtain ⟨-, hd0, T, cs, e, l, -, -, -, h6⟩ := newVecK_elim h4.2
                  exact key _ hd0 h6.2.symm
                | _ => exact h4.elim
              | _ => exact h4.elim
            | _ => exact h4.elim
          | _ => exact h4.elim
  | _ => simp [memA] at ha
theorem loadK_mono {t : TI} {p : SV} {bx bx' : Tr (Option (List SV))} {k : SV → Prop} (hle : ∀ id cs, bx.get id none = some cs → bx'.get id none = some cs) (h : loadK t p bx k) : loadK t p bx' k := by
  unfold loadK at h ⊢
  cases p with
  | box b o =>
    simp only at h ⊢
    cases hb : bx.get b none with
    | none => rw [hb] at h; exact h.elim
    | some cs => rw [hb] at h; rw [hle _ _ hb]; exact h
  | plc b z i o =>
    simp only at h ⊢
    cases hb : bx.get b none with
    | none => rw [hb] at h; exact h.elim
    | some cs => rw [hb] at h; rw [hle _ _ hb]; exact h
  | elt X z cs d l i o => exact h
  | _ => exact h.elim
/-- what reads variables reads them where there are more -/
theorem stepB_mono {E : Env} {d : Nat} {op : Op} {ρ : Operand → SV} {bx bx' : Tr (Option (List SV))} {v : SV} (hr : memR op = true) (hw : memW E.bs d op = false) (hle : ∀ id cs, bx.get id none = some cs → bx'.get id none = some cs)
    (h : ∀ k' : SV → Tr (Option (List SV)) → Prop, k' v bx → stepB E d op ρ bx k') : ∀ k' : SV → Tr (Option (List SV)) → Prop, k' v bx' → stepB E d op ρ bx' k' := by
  intro k' hk'
  cases op with
  | load t x =>
    have h3 := h (fun v' b' => v' = v) rfl
    simp only [stepB] at h3 ⊢
    cases hq : qLoad E.bs x with
    | false =>
      rw [hq] at h3
      simp only at h3 ⊢
      cases hq2 : sLoad E.bs x with
      | false =>
        rw [hq2] at h3
        obtain ⟨ti, h4, h5⟩ := tiK_rel h3
        refine h4 _ (loadK_mono hle ?_)
        obtain ⟨y, h6, h7⟩ := loadK_rel h5
        exact h6 _ (by rw [show y = v from h7]; exact hk')
      | true =>
        rw [hq2] at h3
        simp only at h3 ⊢
        cases hb : isSB E.bs (ρ x) with
        | false => rw [hb] at h3; exact h3.elim
        | true =>
          rw [hb] at h3
          obtain ⟨ti, h4, h5⟩ := tiK_rel h3
          refine h4 _ (loadK_mono hle ?_)
          obtain ⟨y, h6, h7⟩ := loadK_rel h5
          exact h6 _ (by rw [show y = v from h7]; exact hk')
    | true =>
      rw [hq] at h3
      simp only at h3 ⊢
      cases hb : isQB E.bs (ρ x) with
      | false => rw [hb] at h3; exact h3.elim
      | true =>
        rw [hb] at h3
        obtain ⟨ti, h4, h5⟩ := tiK_rel h3
        refine h4 _ (loadK_mono hle ?_)
        obtain ⟨y, h6, h7⟩ := loadK_rel h5
        exact h6 _ (by rw [show y = v from h7]; exact hk')
  | call c =>
    have h3 := h (fun v' b' => v' = v) rfl
    simp only [stepB] at h3 ⊢
    cases hcl : isClear c.callee with
    | true => simp [memW, hcl] at hw
    | false =>
    rw [hcl] at h3
    simp only at h3 ⊢
    cases hb : bcall E.bs c.callee with
    | some g => simp [memW, hcl, hb] at hw
    | none =>
    rw [hb] at h3
    simp only at h3 ⊢
    cases hc : c.callee with
    | value f =>
      rw [hc] at h3
      simp only [callK] at h3 ⊢
      cases hf : ρ f with
      | fn g caps =>
        rw [hf] at h3
        simp only at h3 ⊢
        cases hg : E.ctr g with
        | none => rw [hg] at h3; exact h3.elim
        | some ct =>
          rw [hg] at h3
          simp only [forceL_eq] at h3 ⊢
          obtain ⟨y, h6, h7, -⟩ := enterK_mono hle h3
          exact h6 _ (by rw [show y = v from h7]; exact hk')
      | _ => rw [hf] at h3; exact h3.elim
    | builtin b => simp [memR, hc] at hr
    | invoke _ _ => rw [hc] at h3; exact h3.elim
  | _ => simp [memR] at hr
/-- a load of a variable that calls leave comes to the same where these are the same -/
theorem load_quiet {E : Env} {d : Nat} {op : Op} {ρ : Operand → SV} {bx bx' : Tr (Option (List SV))} {v : SV} (hq : isQL E.bs op = true) (hle : ∀ q, memN E.bs (Nat.add 700000 q) = true → bx'.get q none = bx.get q none)
    (h : ∀ k' : SV → Tr (Option (List SV)) → Prop, k' v bx → stepB E d op ρ bx k') : ∀ k' : SV → Tr (Option (List SV)) → Prop, k' v bx' → stepB E d op ρ bx' k' := by
  intro k' hk'
  cases op with
  | load t x =>
    have h3 := h (fun v' b' => v' = v) rfl
    simp only [stepB] at h3 ⊢
    have hq : qLoad E.bs x = true := hq
    rw [hq] at h3 ⊢
    simp only at h3 ⊢
    cases hb : isQB E.bs (ρ x) with
    | false => rw [hb] at h3; exact h3.elim
    | true =>
      rw [hb] at h3
      obtain ⟨ti, h4, h5⟩ := tiK_rel h3
      refine h4 _ ?_
      obtain ⟨y, h6, h7⟩ := loadK_rel h5
      have h8 : loadK ti (ρ x) bx (fun v => k' v bx') := h6 _ (by rw [show y = v from h7]; exact hk')
      cases hx : ρ x with
      | box b o =>
        rw [hx] at h8 hb
        unfold loadK at h8 ⊢
        simp only at h8 ⊢
        rw [hle b hb]
        exact h8
      | _ => rw [hx] at hb; cases hb
  | _ => cases hq
theorem noneQ_spec {bs : List Nat} {d : Nat} : ∀ {σ : List (Nat × List SV)}, noneQ bs σ d = true → ∀ q, memN bs (Nat.add 700000 q) = true → q ∉ σ.map (·.1) ∧ q ≠ d
  | [], h, q, hq => by
    unfold noneQ at h
    refine ⟨by simp, fun c => ?_⟩
    rw [c] at hq
    rw [hq] at h; cases h
  | (b, cs) :: r, h, q, hq => by
    unfold noneQ at h
    cases e : memN bs (Nat.add 700000 b) with
    | true => rw [e] at h; cases h
    | false =>
      rw [e] at h
      obtain ⟨h1, h2⟩ := noneQ_spec h q hq
      refine ⟨?_, h2⟩
      simp only [List.map_cons, List.mem_cons, not_or]
      refine ⟨fun c => ?_, h1⟩
      rw [c] at hq
      rw [hq] at e; cases e
/-- a call that changes variables leaves those -/
theorem call_quiet {E : Env} {d : Nat} {op : Op} {ρ : Operand → SV} {bx b : Tr (Option (List SV))} {v : SV} (hc : isBC E.bs op = true)
    (h : ∀ k' : SV → Tr (Option (List SV)) → Prop, k' v b → stepB E d op ρ bx k') : ∀ q, memN E.bs (Nat.add 700000 q) = true → b.get q none = bx.get q none := by
  intro q hq
  cases op with
  | call c =>
    have h3 := h (fun v' b' => v' = v ∧ b' = b) ⟨rfl, rfl⟩
    simp only [stepB] at h3
    cases hcl : isClear c.callee with
    | true => simp [isBC, hcl] at hc
    | false =>
      rw [hcl] at h3
      simp only at h3
      cases hb : bcall E.bs c.callee with
      | none => simp [isBC, hcl, hb] at hc
      | some g =>
        rw [hb] at h3
        simp only at h3
        cases hg : E.ctrB g with
        | none => rw [hg] at h3; exact h3.elim
        | some cb =>
          rw [hg] at h3
          simp only [forceL_eq] at h3
          obtain ⟨σ, x, bx', ⟨⟨hs, -⟩, hnq⟩, -, -, -, hback, ⟨-, rfl⟩, -⟩ := enterB_rel h3
          obtain ⟨h4, h5⟩ := noneQ_spec hnq q hq
          obtain ⟨b2, rfl, -, -, -, hrest⟩ := backK_spec σ _ bx _ hs.1 (fun p hp => has_of_get (hs.2 p hp)) hback
          rcases hrest with ⟨-, e⟩ | ⟨-, -, -, -, e⟩
          · exact e q h4
          · exact e q h4 h5
  | _ => cases hc
/-- the same for stores -/
theorem load_still {E : Env} {d : Nat} {op : Op} {ρ : Operand → SV} {bx bx' : Tr (Option (List SV))} {v : SV} (hq : isSL E.bs op = true) (hle : ∀ q, memN E.bs (Nat.add 710000 q) = true → bx'.get q none = bx.get q none)
    (h : ∀ k' : SV → Tr (Option (List SV)) → Prop, k' v bx → stepB E d op ρ bx k') : ∀ k' : SV → Tr (Option (List SV)) → Prop, k' v bx' → stepB E d op ρ bx' k' := by
  intro k' hk'
  cases op with
  | load t x =>
    have h3 := h (fun v' b' => v' = v) rfl
    simp only [stepB] at h3 ⊢
    simp only [isSL] at hq
    cases h0 : qLoad E.bs x with
    | true => rw [h0] at hq; cases hq
    | false =>
    rw [h0] at hq h3
    simp only at hq h3 ⊢
    rw [hq] at h3 ⊢
    simp only at h3 ⊢
    cases hb : isSB E.bs (ρ x) with
    | false => rw [hb] at h3; exact h3.elim
    | true =>
      rw [hb] at h3
      obtain ⟨ti, h4, h5⟩ := tiK_rel h3
      refine h4 _ ?_
      obtain ⟨y, h6, h7⟩ := loadK_rel h5
      have h8 : loadK ti (ρ x) bx (fun v => k' v bx') := h6 _ (by rw [show y = v from h7]; exact hk')
      cases hx : ρ x with
      | box b o =>
        rw [hx] at h8 hb
        unfold loadK at h8 ⊢
        simp only at h8 ⊢
        rw [hle b hb]
        exact h8
      | elt =>
        rw [hx] at h8
        unfold loadK at h8 ⊢
        exact h8
      | _ => rw [hx] at hb; cases hb
  | _ => cases hq
theorem storeK_still {t : TI} {b o : Nat} {v : SV} {bx : Tr (Option (List SV))} {k : Tr (Option (List SV)) → Prop} (h : storeK t (.box b o) v bx k) : ∃ cs, k (bx.put b (some cs)) := by
  unfold storeK at h
  simp only at h
  cases hb : bx.get b none with
  | none => rw [hb] at h; exact h.elim
  | some cs =>
    rw [hb] at h
    simp only at h
    cases hpl : plain cs with
    | false => rw [hpl] at h; exact h.elim
    | true =>
    rw [hpl] at h
    simp only at h
    obtain ⟨l, h1, h2⟩ := cellsK_rel h
    cases ho : allOk l with
    | false => rw [ho] at h2; exact h2.elim
    | true =>
      rw [ho] at h2
      simp only at h2
      cases he : Nat.beq l.length t.size with
      | false => rw [he] at h2; exact h2.elim
      | true =>
        rw [he] at h2
        simp only at h2
        cases hl : Nat.ble (o + l.length) cs.length with
        | false => rw [hl] at h2; exact h2.elim
        | true =>
          rw [hl] at h2
          simp only [forceL_eq, Tr.putK_eq] at h2
          exact ⟨_, h2⟩
theorem store_still {E : Env} {d : Nat} {op : Op} {ρ : Operand → SV} {bx b : Tr (Option (List SV))} {v : SV} (hc : isSS E.bs op = true)
    (h : ∀ k' : SV → Tr (Option (List SV)) → Prop, k' v b → stepB E d op ρ bx k') : ∀ q, memN E.bs (Nat.add 710000 q) = true → b.get q none = bx.get q none := by
  intro q hq
  cases op with
  | store t x y =>
    have h3 := h (fun v' b' => v' = v ∧ b' = b) ⟨rfl, rfl⟩
    simp only [stepB] at h3
    have hc : sStore E.bs x = true := hc
    rw [hc] at h3
    simp only at h3
    cases hb : offSB E.bs (ρ x) with
    | false => rw [hb] at h3; exact h3.elim
    | true =>
      rw [hb] at h3
      obtain ⟨ti, -, h5⟩ := tiK_rel h3
      cases hx : ρ x with
      | box b0 o =>
        rw [hx] at h5 hb
        obtain ⟨cs, -, h6⟩ := storeK_still h5
        rw [← h6, Tr.get_put]
        by_cases e : b0 = q
        · subst e
          simp only [offSB] at hb
          rw [hq] at hb; cases hb
        · rw [if_neg (fun c => e c.1)]
      | _ => rw [hx] at hb; cases hb
  | _ => cases hc
/-- what changes variables, and a load that it does not reach -/
theorem pair_quiet {E : Env} {d d2 : Nat} {x op : Op} {ρ ρ2 : Operand → SV} {bx b1 b2 b3 : Tr (Option (List SV))} {v v2 : SV} (hp : qp E.bs x op = true)
    (hx : ∀ k' : SV → Tr (Option (List SV)) → Prop, k' v2 b2 → stepB E d2 x ρ2 b1 k')
    (he : (∀ q, b3.get q none = b1.get q none ∧ bx.get q none = b2.get q none) ∨ (∀ q, b3.get q none = b2.get q none ∧ bx.get q none = b1.get q none))
    (h : ∀ k' : SV → Tr (Option (List SV)) → Prop, k' v bx → stepB E d op ρ bx k') : ∀ k' : SV → Tr (Option (List SV)) → Prop, k' v b3 → stepB E d op ρ b3 k' := by
  unfold qp at hp
  rw [Bool.or_eq_true, Bool.and_eq_true, Bool.and_eq_true] at hp
  rcases hp with ⟨c1, c2⟩ | ⟨c1, c2⟩
  · refine load_quiet c2 (fun q hq => ?_) h
    have := call_quiet c1 hx q hq
    rcases he with he | he
    · rw [(he q).1, (he q).2, this]
    · rw [(he q).1, (he q).2, this]
  · refine load_still c2 (fun q hq => ?_) h
    have := store_still c1 hx q hq
    rcases he with he | he
    · rw [(he q).1, (he q).2, this]
    · rw [(he q).1, (he q).2, this]
end Go.Proofs.Yteccinlmblijfaa.Ax
