/- A row that grows. -/
import Derived.Test.YtimhbimpaiiceaaDoorA5
set_option linter.unusedVariables false
set_option linter.unusedSimpArgs false
set_option linter.unusedSectionVars false
namespace Go.Proofs.YtimhbimpaiiceaaDoor.Ax
open Go Go.RowKit

mutual
theorem dgrK_eq (i j : Nat) : ∀ (x : SV) (k : SV → Prop), dgrK i j x k = k (dgr i j x)
  | .own T sz cs d l id, k => by
    simp only [dgrK, dgr]
    cases Nat.beq id i <;> simp only
    cases Nat.beq id j <;> rfl
  | .agg l, k => by simp only [dgrK, dgr, dgrsK_eq i j l]
  | .tup l, k => by simp only [dgrK, dgr, dgrsK_eq i j l]
  | .fn g l, k => by simp only [dgrK, dgr, dgrsK_eq i j l]
  | .val v, k => rfl
  | .tt, k => rfl
  | .ff, k => rfl
  | .row T sz cs d l, k => rfl
  | .elt T sz cs d l n o, k => rfl
  | .box b o, k => rfl
  | .arr b z o n c, k => rfl
  | .plc b z i o, k => rfl
  | .many .., k => rfl
  | .ifc, k => rfl
  | .e0, k => rfl
  | .nb _, k => rfl
  | .junk, k => rfl
theorem dgrsK_eq (i j : Nat) : ∀ (l : List SV) (k : List SV → Prop), dgrK.dgrsK i j l k = k (dgr.dgrs i j l)
  | [], _ => rfl
  | x :: xs, k => by simp only [dgrK.dgrsK, dgr.dgrs, dgrK_eq i j x, dgrsK_eq i j xs]
end
theorem dgrTK_eq (i j : Nat) : ∀ (t : Tr SV) (k : Tr SV → Prop), dgrTK i j t k = k (dgrT i j t)
  | .nil, _ => rfl
  | .node v l r, k => by simp only [dgrTK, dgrT, dgrK_eq, dgrTK_eq i j l, dgrTK_eq i j r]
theorem dgrBK_eq (i j : Nat) : ∀ (t : Tr (Option (List SV))) (k : Tr (Option (List SV)) → Prop), dgrBK i j t k = k (dgrB i j t)
  | .nil, _ => rfl
  | .node none l r, k => by simp only [dgrBK, dgrB, dgrBK_eq i j l, dgrBK_eq i j r, Option.map_none]
  | .node (some cs) l r, k => by simp only [dgrBK, dgrB, dgrsK_eq, dgrBK_eq i j l, dgrBK_eq i j r, Option.map_some]
theorem dgrs_length (i j : Nat) : ∀ l : List SV, (dgr.dgrs i j l).length = l.length
  | [] => rfl
  | x :: xs => by simp [dgr.dgrs, dgrs_length i j xs]
theorem at'_dgrs (i j : Nat) : ∀ (l : List SV) (q : Nat), at' (dgr.dgrs i j l) q .junk = dgr i j (at' l q .junk)
  | [], _ => rfl
  | x :: xs, 0 => rfl
  | x :: xs, q + 1 => at'_dgrs i j xs q
theorem dgrT_get (i j : Nat) : ∀ (t : Tr SV) (q : Nat), (dgrT i j t).get q .junk = dgr i j (t.get q .junk)
  | .nil, _ => rfl
  | .node v l r, 0 => rfl
  | .node v l r, q + 1 => by
    simp only [dgrT, Tr.get]
    rcases Tr.half q with ⟨e, -⟩ | ⟨e, -⟩ <;> rw [e]
    · exact dgrT_get i j l _
    · exact dgrT_get i j r _
theorem dgrT_like (i j : Nat) : ∀ {a b : Tr SV}, a.like b → (dgrT i j a).like b
  | .nil, .nil, _ => trivial
  | .node .., .node .., h => ⟨dgrT_like i j h.1, dgrT_like i j h.2⟩
  | .nil, .node .., h => h.elim
  | .node .., .nil, h => h.elim
theorem dgrT_has (i j : Nat) : ∀ (t : Tr SV) (q : Nat), (dgrT i j t).has q = t.has q
  | .nil, _ => rfl
  | .node v l r, 0 => rfl
  | .node v l r, q + 1 => by
    simp only [dgrT, Tr.has]
    rcases Tr.half q with ⟨e, -⟩ | ⟨e, -⟩ <;> rw [e]
    · exact dgrT_has i j l _
    · exact dgrT_has i j r _
theorem dgrB_get (i j : Nat) : ∀ (t : Tr (Option (List SV))) (q : Nat), (dgrB i j t).get q none = (t.get q none).map (dgr.dgrs i j)
  | .nil, _ => rfl
  | .node v l r, 0 => rfl
  | .node v l r, q + 1 => by
    simp only [dgrB, Tr.get]
    rcases Tr.half q with ⟨e, -⟩ | ⟨e, -⟩ <;> rw [e]
    · exact dgrB_get i j l _
    · exact dgrB_get i j r _

/-- the places behind rows i and j are nobody's -/
def drop2 (i j : Nat) (T : TM) : TM := fun b q => match T b q with
  | some n => if n = i ∨ n = j then none else some n
  | none => none
theorem drop2_some {i j : Nat} {T : TM} {b q n : Nat} (h : drop2 i j T b q = some n) : T b q = some n ∧ n ≠ i ∧ n ≠ j := by
  unfold drop2 at h
  cases e : T b q with
  | none => rw [e] at h; cases h
  | some m =>
    rw [e] at h
    simp only at h
    by_cases hc : m = i ∨ m = j
    · rw [if_pos hc] at h; cases h
    · rw [if_neg hc] at h
      cases h
      exact ⟨rfl, fun c => hc (.inl c), fun c => hc (.inr c)⟩
theorem drop2_keeps {i j : Nat} {T : TM} {b q n : Nat} (h : T b q = some n) (hi : n ≠ i) (hj : n ≠ j) : drop2 i j T b q = some n := by
  unfold drop2
  rw [h]
  simp [hi, hj]
theorem drop2_gone {i j : Nat} {T : TM} {b q : Nat} (h : T b q = some i) : drop2 i j T b q = none := by
  unfold drop2; rw [h]; simp
theorem drop2_none {i j : Nat} {T : TM} {b q : Nat} (h : T b q = none) : drop2 i j T b q = none := by
  unfold drop2; rw [h]
theorem G.dgr {H : HM} (i j : Nat) {β : BM} {T : TM} {s : SV} {v : Value} (h : G H β T s v) : G H β (drop2 i j T) (Ax.dgr i j s) v := by
  induction h with
  | own X sz cs d l id b off c vs hc hz hh hg hT ih =>
    simp only [Ax.dgr]
    cases h1 : Nat.beq id i with
    | true => exact .row X sz cs d l b off c vs hc hz hh hg
    | false =>
      simp only
      cases h2 : Nat.beq id j with
      | true => exact .row X sz cs d l b off c vs hc hz hh hg
      | false =>
        refine .own X sz cs d l id b off c vs hc hz hh hg fun o a e => drop2_keeps (hT o a e) (fun c => ?_) (fun c => ?_)
        · rw [c] at h1; simp at h1
        · rw [c] at h2; simp at h2
  | ownE X sz cs d id =>
    simp only [Ax.dgr]
    cases Nat.beq id i with
    | true => exact .rowE ..
    | false =>
      simp only
      cases Nat.beq id j with
      | true => exact .rowE ..
      | false => exact .ownE ..
  | agg l vs hn h ih => exact .agg _ vs (by rw [dgrs_length]; exact hn) fun q e => by rw [at'_dgrs]; exact ih q (by rwa [dgrs_length] at e)
  | tup l vs hn h ih => exact .tup _ vs (by rw [dgrs_length]; exact hn) fun q e => by rw [at'_dgrs]; exact ih q (by rwa [dgrs_length] at e)
  | fn g l vs hn h ih => exact .fn g _ vs (by rw [dgrs_length]; exact hn) fun q e => by rw [at'_dgrs]; exact ih q (by rwa [dgrs_length] at e)
  | val v => exact .val v
  | tt => exact .tt
  | ff => exact .ff
  | junk v => exact .junk v
  | nb Q b h => exact .nb Q b h
  | rowE => exact .rowE ..
  | row X sz cs d l b off c vs hc hz hh hg ih => exact .row X sz cs d l b off c vs hc hz hh hg
  | elt X sz cs d l i o b p vs hz hh hg ih => exact .elt X sz cs d l i o b p vs hz hh hg
  | box b o k h => exact .box b o k h
  | arr b z o n cap k c h hc he => exact .arr b z o n cap k c h hc he
  | arrE b z o a c => exact .arrE ..
  | plc b z i o k hi h => exact .plc b z i o k hi h
  | ifc t v => exact .ifc t v
  | e0 a => exact .e0 a
theorem dgr_mapOk (i j : Nat) : MapOk (dgr i j) (dgr.dgrs i j) := by
  refine ⟨rfl, fun _ _ => rfl, fun x => ?_⟩
  cases x with
  | many X sz c d l => exact .inl ⟨rfl, rfl⟩
  | own X sz cs d l id =>
    refine .inr ⟨rfl, ?_⟩
    simp only [dgr]
    cases Nat.beq id i <;> simp only
    · cases Nat.beq id j <;> rfl
    · rfl
  | _ => exact .inr ⟨rfl, rfl⟩

section
variable {P : Program} {E : Env} {M : BM} {w0 w : World} {H0 H : HM} {β : BM} {T : TM} {a : Act} {s : ASt}
theorem FR.dgr (i j : Nat) {fr : Tr SV} (h : FR H β T fr a) : FR H β (drop2 i j T) (dgrT i j fr) a :=
  ⟨fun q e => h.size q (by rwa [dgrT_has] at e), h.defers, fun q => by rw [dgrT_get]; exact (h.val q).dgr i j⟩
theorem W.dgr (i j : Nat) {bx : Tr (Option (List SV))} (h : W M w0 H0 H β T bx w) : W M w0 H0 H β (drop2 i j T) (dgrB i j bx) w := by
  refine ⟨fun b q v e => ⟨(h.lies b q v e).1, drop2_none (h.lies b q v e).2⟩, ?_, ?_, h.inj, fun b q n e => h.tail b q n (drop2_some e).1, fun b q n e => h.sep b q n (drop2_some e).1, h.hand, ?_, h.mine, h.out, h.keep, h.ext, h.fresh, h.edge⟩
  · intro id cs e hl
    rw [dgrB_get] at e
    cases hb : bx.get id none with
    | none => rw [hb] at e; cases e
    | some ds =>
      rw [hb] at e
      obtain rfl := Option.some.inj e
      rw [(dgr_mapOk i j).xlen] at hl
      obtain ⟨k, hk, hm, hj⟩ := h.box id ds hb hl
      refine ⟨k, hk, hm, fun q hq => ?_⟩
      rw [(dgr_mapOk i j).xlen] at hq
      obtain ⟨a1, a2, a3, v, a4, a5⟩ := hj q hq
      exact ⟨a1, drop2_none a2, a3, v, a4, (dgr_mapOk i j).xat (.refl _) (fun x v g => g.dgr i j) (fun X sz c d l ee => h.many _ _ _ _ _ _ (by rw [hb, ee])) hq a5⟩
  · intro id k e
    obtain ⟨a1, cs, a2⟩ := h.bβ id k e
    exact ⟨a1, _, by rw [dgrB_get, a2]; rfl⟩
  · intro id X sz c d l e
    rw [dgrB_get] at e
    cases hb : bx.get id none with
    | none => rw [hb] at e; cases e
    | some ds =>
      rw [hb] at e
      exact h.many _ _ _ _ _ _ (by rw [hb, (dgr_mapOk i j).unmany (Option.some.inj e)])
def hput (H : HM) (b p : Nat) (vs : List Value) : HM := fun b' q => if b' = b ∧ p ≤ q ∧ q < p + vs.length then some (vs.getD (q - p) undef) else H b' q
def tput (T : TM) (b p c d : Nat) : TM := fun b' q => if b' = b ∧ p ≤ q ∧ q < c then some d else T b' q
/-- cells that are nobody's -/
structure Free (M : BM) (w0 : World) (H : HM) (β : BM) (T : TM) (bx : Tr (Option (List SV))) (w : World) (b p c : Nat) : Prop where
  mine : Room M w0 b
  nobox : ∀ i, β i ≠ some b
  cell : ∀ q, p ≤ q → q < c → (w.cell? ⟨b, q, none⟩).isSome = true ∧ w.frozen? ⟨b, q, none⟩ = false ∧ H b q = none ∧ T b q = none
/-- cells that are nobody's are written -/
theorem W.poke {bx : Tr (Option (List SV))} (h : W M w0 H0 H β T bx w) {b p c : Nat} (hf : Free M w0 H β T bx w b p c) (vs : List Value) (hp : p + vs.length ≤ c) :
    W M w0 H0 H β T bx (w.setCells b p vs) ∧ Free M w0 H β T bx (w.setCells b p vs) b p c ∧ ∀ j, j < vs.length → (w.setCells b p vs).cell? ⟨b, p + j, none⟩ = some (vs.getD j undef) := by
  have hout : ∀ (k q : Nat), (k = b → q < p ∨ p + vs.length ≤ q) → (w.setCells b p vs).cell? ⟨k, q, none⟩ = w.cell? ⟨k, q, none⟩ :=
    fun k q hq => World.cell?_setCells_out b vs p w ⟨k, q, none⟩ (fun e _ => hq e)
  have hin : ∀ j (hj : j < vs.length), (w.setCells b p vs).cell? ⟨b, p + j, none⟩ = some vs[j] :=
    fun j hjl => World.cell?_setCells_in b vs p w (fun i hi => (hf.cell (p + i) (by omega) (by omega)).1) j hjl
  have hin' : ∀ j, j < vs.length → (w.setCells b p vs).cell? ⟨b, p + j, none⟩ = some (vs.getD j undef) := fun j hj => by rw [hin j hj, getD_get _ _ hj]
  have hsz : (w.setCells b p vs).heap.size = w.heap.size := by
    have aux : ∀ (vs : List Value) (o : Nat) (w : World), (w.setCells b o vs).heap.size = w.heap.size := by
      intro vs
      induction vs with
      | nil => intro o w; rfl
      | cons v r ih => intro o w; simp [World.setCells, ih]
    exact aux _ _ _
  refine ⟨⟨?_, ?_, fun id k e => by rw [hsz]; exact h.bβ id k e, h.inj, ?_, h.sep, h.hand, h.many, h.mine, h.out, Keeps.setCells h.keep b hf.mine.mine vs p h.keep, h.ext, h.fresh, fun k e => (h.edge k e).setCells' _ _ _⟩, ⟨hf.mine, hf.nobox, ?_⟩, hin'⟩
  · intro k q v e
    refine ⟨?_, (h.lies k q v e).2⟩
    rw [hout k q ?_]
    · exact (h.lies k q v e).1
    · intro hk
      subst hk
      by_cases hr : p ≤ q ∧ q < p + vs.length
      · rw [(hf.cell q hr.1 (by omega)).2.2.1] at e; cases e
      · omega
  · intro id cs e hl
    obtain ⟨k, hk, hm, hj⟩ := h.box id cs e hl
    refine ⟨k, hk, hm, fun j hlt => ?_⟩
    obtain ⟨a1, a2, a3, v, a4, a5⟩ := hj j hlt
    exact ⟨a1, a2, by rw [World.frozen?_setCells]; exact a3, v, by rw [hout k j (fun c => absurd (c ▸ hk) (hf.nobox id))]; exact a4, a5⟩
  · intro k q n e
    obtain ⟨a1, a2, a3⟩ := h.tail k q n e
    refine ⟨a1, ?_, by rw [World.frozen?_setCells]; exact a3⟩
    rw [hout k q ?_]
    · exact a2
    · intro hk
      subst hk
      by_cases hr : p ≤ q ∧ q < p + vs.length
      · rw [(hf.cell q hr.1 (by omega)).2.2.2] at e; cases e
      · omega
  · intro q h1 h2
    obtain ⟨a1, a2, a3⟩ := hf.cell q h1 h2
    refine ⟨?_, by rw [World.frozen?_setCells]; exact a2, a3⟩
    by_cases hr : q < p + vs.length
    · have := hin' (q - p) (by omega)
      rw [show p + (q - p) = q by omega] at this
      rw [this]; rfl
    · rw [hout b q (fun _ => by omega)]; exact a1
/-- cells that are nobody's become a row's: the first stay as they are, the others are its room -/
theorem W.claim {bx : Tr (Option (List SV))} (h : W M w0 H0 H β T bx w) {b p c d : Nat} (hf : Free M w0 H β T bx w b p c) (vs : List Value) (hp : p + vs.length ≤ c)
    (hv : ∀ j, j < vs.length → w.cell? ⟨b, p + j, none⟩ = some (vs.getD j undef)) :
    HLe H (hput H b p vs) ∧ TLe T (tput T b (p + vs.length) c d) ∧ W M w0 H0 (hput H b p vs) β (tput T b (p + vs.length) c d) bx w := by
  have hle : HLe H (hput H b p vs) := fun k q v e => by
    unfold hput
    by_cases hc : k = b ∧ p ≤ q ∧ q < p + vs.length
    · obtain ⟨rfl, h1, h2⟩ := hc
      rw [(hf.cell q h1 (by omega)).2.2.1] at e; cases e
    · rw [if_neg hc]; exact e
  have htl : TLe T (tput T b (p + vs.length) c d) := fun k q v e => by
    unfold tput
    by_cases hc : k = b ∧ p + vs.length ≤ q ∧ q < c
    · obtain ⟨rfl, h1, h2⟩ := hc
      rw [(hf.cell q (by omega) h2).2.2.2] at e; cases e
    · rw [if_neg hc]; exact e
  refine ⟨hle, htl, ?_, ?_, h.bβ, h.inj, ?_, ?_, h.hand, h.many, h.mine, h.out, h.keep, h.ext.trans hle, ?_, h.edge⟩
  · intro k q v e
    unfold hput at e
    unfold tput
    by_cases hc : k = b ∧ p ≤ q ∧ q < p + vs.length
    · rw [if_pos hc] at e
      obtain ⟨rfl, h1, h2⟩ := hc
      rw [if_neg (by omega)]
      have := hv (q - p) (by omega)
      rw [show p + (q - p) = q by omega, e] at this
      exact ⟨this, (hf.cell q h1 (by omega)).2.2.2⟩
    · rw [if_neg hc] at e
      refine ⟨(h.lies k q v e).1, ?_⟩
      by_cases hd : k = b ∧ p + vs.length ≤ q ∧ q < c
      · obtain ⟨rfl, h1, h2⟩ := hd
        rw [(hf.cell q (by omega) h2).2.2.1] at e; cases e
      · rw [if_neg hd]; exact (h.lies k q v e).2
  · intro id cs e hl
    obtain ⟨k, hk, hm, hj⟩ := h.box id cs e hl
    refine ⟨k, hk, hm, fun j hlt => ?_⟩
    obtain ⟨a1, a2, a3, v, a4, a5⟩ := hj j hlt
    have hb : k ≠ b := fun c => absurd (c ▸ hk) (hf.nobox id)
    refine ⟨?_, ?_, a3, v, a4, a5.mono hle (.refl _) htl⟩
    · unfold hput; rw [if_neg (fun c => hb c.1)]; exact a1
    · unfold tput; rw [if_neg (fun c => hb c.1)]; exact a2
  · intro k q n e
    unfold tput at e
    by_cases hd : k = b ∧ p + vs.length ≤ q ∧ q < c
    · obtain ⟨rfl, h1, h2⟩ := hd
      obtain ⟨a1, a2, -⟩ := hf.cell q (by omega) h2
      exact ⟨hf.mine, a1, a2⟩
    · rw [if_neg hd] at e; exact h.tail k q n e
  · intro k q n e i hc
    unfold tput at e
    by_cases hd : k = b ∧ p + vs.length ≤ q ∧ q < c
    · exact hf.nobox i (hd.1 ▸ hc)
    · rw [if_neg hd] at e; exact h.sep _ _ _ e _ hc
  · intro k q hm
    by_cases hkb : k = b
    · subst hkb
      rcases hf.mine with e | e
      · exact .inl e
      · omega
    · refine (h.fresh k q hm).imp (fun e => e) fun e => ?_
      unfold hput
      rw [if_neg (fun c => hkb c.1)]
      exact e
theorem run_append_zero {w : World} (t ty e : TypeId) (i : TypeInfo) (ht : P.underlying t = some (.slice e)) (hi : P.info? e = some i) (base a : Option Addr) (n c c2 : Nat) (hn : n ≤ c) :
    (Builtin.append_ #[t, t] ty #[.slice base n c, .slice a 0 c2]).run P w = .ok (.slice base n c) w := by
  have hf : (Builtin.firstCells i.size 0 (.slice a 0 c2)).run P w = .ok #[] w := by
    cases a with
    | none => exact run_firstCells_none w _ _ _ _
    | some a => exact run_firstCells_some w i.size 0 a 0 c2 [] (by simp) (by simp)
  cases base with
  | none => simp [Builtin.append_, run_underlying ht, sizeOf, typeInfo, hi, Builtin.lenOf, hn, hf]
  | some b => simp [Builtin.append_, run_underlying ht, sizeOf, typeInfo, hi, Builtin.lenOf, hn, hf]; rfl
/-- a row's cells, one behind the other -/
theorem row_cells {X : Type} {sz : Nat} {cs : X → List SV} {e : X} {l : List X} {ad : Option Addr} {n c : Nat} (hs : 0 < sz) (h : G H β T (.row X sz cs e l) (.slice ad n c)) :
    n = l.length ∧ (∀ i, i < l.length → (cs (l.getD i e)).length = sz) ∧ ∃ vs : List Value, vs.length = l.length * sz ∧ (∀ i j, i < l.length → j < sz → G H noB noT (at' (cs (l.getD i e)) j .junk) (vs.getD (i * sz + j) undef)) ∧
      (l = [] ∨ ∃ b off, ad = some ⟨b, off, none⟩ ∧ ∀ q, q < vs.length → H b (off + q) = some (vs.getD q undef)) := by
  cases h with
  | rowE => exact ⟨rfl, fun i hi => by simp at hi, [], by simp, fun i j hi => by simp at hi, .inl rfl⟩
  | row _ _ _ _ _ b off _ vs hc hz hH hG =>
    have hget : ∀ q, q < l.length * sz → ((List.range (l.length * sz)).map fun q => vs (q / sz) (q % sz)).getD q undef = vs (q / sz) (q % sz) := fun q hq => by
      rw [getD_get _ _ (by simpa using hq)]; simp
    have hdiv : ∀ q, q < l.length * sz → q / sz < l.length := fun q hq => Nat.div_lt_of_lt_mul (by rw [Nat.mul_comm]; exact hq)
    refine ⟨rfl, hz, (List.range (l.length * sz)).map fun q => vs (q / sz) (q % sz), by simp, ?_, .inr ⟨b, off, rfl, ?_⟩⟩
    · intro i j hi hj
      have hb : i * sz + j < l.length * sz := by
        have := Nat.mul_le_mul_right sz (show i + 1 ≤ l.length by omega)
        rw [Nat.add_mul] at this; omega
      rw [hget _ hb, show (i * sz + j) / sz = i by rw [Nat.mul_comm, Nat.mul_add_div hs, Nat.div_eq_of_lt hj]; rfl, show (i * sz + j) % sz = j by rw [Nat.mul_comm, Nat.mul_add_mod, Nat.mod_eq_of_lt hj]]
      exact hG i j hi hj
    · intro q hq
      have hq' : q < l.length * sz := by simpa using hq
      rw [hget _ hq']
      have := hH (q / sz) (q % sz) (hdiv q hq') (Nat.mod_lt _ hs)
      rwa [Nat.add_assoc, Nat.mul_comm, Nat.div_add_mod] at this
theorem G_own {H' : HM} {T' : TM} {X : Type} {sz : Nat} {cs : X → List SV} {e : X} {l ys : List X} {b off c d : Nat} {us vs : List Value} (hle : HLe H H') (hs : 0 < sz) (hc : l.length + ys.length ≤ c)
    (hu : us.length = l.length * sz) (hv : vs.length = ys.length * sz)
    (zu : ∀ i, i < l.length → (cs (l.getD i e)).length = sz) (zv : ∀ i, i < ys.length → (cs (ys.getD i e)).length = sz)
    (gu : ∀ i j, i < l.length → j < sz → G H noB noT (at' (cs (l.getD i e)) j .junk) (us.getD (i * sz + j) undef))
    (gv : ∀ i j, i < ys.length → j < sz → G H noB noT (at' (cs (ys.getD i e)) j .junk) (vs.getD (i * sz + j) undef))
    (hH : ∀ q, q < (l.length + ys.length) * sz → H' b (off + q) = some ((us ++ vs).getD q undef))
    (hT : ∀ q, off + (l.length + ys.length) * sz ≤ q → q < off + c * sz → T' b q = some d) :
    G H' β T' (.own X sz cs e (l ++ ys) d) (.slice (some ⟨b, off, none⟩) (l.length + ys.length) c) := by
  have hlen : (l ++ ys).length = l.length + ys.length := List.length_append
  have hl : ∀ i, i < l.length → (l ++ ys).getD i e = l.getD i e := fun i hi => by simp [List.getD, List.getElem?_append_left hi]
  have hr : ∀ i, l.length ≤ i → (l ++ ys).getD i e = ys.getD (i - l.length) e := fun i hi => by simp [List.getD, List.getElem?_append_right hi]
  have hb : ∀ i j n, i < n → j < sz → i * sz + j < n * sz := fun i j n hi hj => by
    have := Nat.mul_le_mul_right sz (show i + 1 ≤ n by omega)
    rw [Nat.add_mul] at this; omega
  rw [← hlen]
  refine .own X sz cs e (l ++ ys) d b off c (fun i j => (us ++ vs).getD (i * sz + j) undef) (by omega) ?_ ?_ ?_ (by rw [hlen]; exact hT)
  · intro i hi
    by_cases h : i < l.length
    · rw [hl i h]; exact zu i h
    · rw [hr i (by omega)]; exact zv _ (by omega)
  · intro i j hi hj
    rw [Nat.add_assoc]
    exact hH _ (hb i j _ (by omega) hj)
  · intro i j hi hj
    by_cases h : i < l.length
    · rw [hl i h]
      have := hb i j _ h hj
      have e2 : (us ++ vs).getD (i * sz + j) undef = us.getD (i * sz + j) undef := by simp [List.getD, List.getElem?_append_left (show i * sz + j < us.length by omega)]
      rw [e2]
      exact (gu i j h hj).mono hle (.refl _) (.refl _)
    · rw [hr i (by omega)]
      have h5 : i * sz + j - us.length = (i - l.length) * sz + j := by
        rw [hu, Nat.sub_mul]
        have := Nat.mul_le_mul_right sz (show l.length ≤ i by omega)
        omega
      have h6 : us.length ≤ i * sz + j := by
        have := Nat.mul_le_mul_right sz (show l.length ≤ i by omega)
        omega
      have e2 : (us ++ vs).getD (i * sz + j) undef = vs.getD ((i - l.length) * sz + j) undef := by
        simp only [List.getD, List.getElem?_append_right h6, h5]
      rw [e2]
      exact (gv (i - l.length) j (by omega) hj).mono hle (.refl _) (.refl _)
theorem isApp_eq {op : Op} {x y : Operand} {t : Nat × Nat} (h : isApp op = some (x, y, t)) : op = .call { callee := .builtin .append, args := #[x, y], argTypes := #[t.1, t.2] } := by
  cases op with
  | call c =>
    obtain ⟨callee, ⟨args⟩, ⟨ts⟩⟩ := c
    simp only [isApp] at h
    cases callee with
    | builtin b =>
      cases b with
      | append =>
        simp only at h
        match args, h with
        | [x', y'], h =>
          simp only at h
          match ts, h with
          | [t', u'], h =>
            simp only [Option.some.injEq, Prod.mk.injEq] at h
            obtain ⟨rfl, rfl, rfl⟩ := h
            rfl
      | _ => cases h
    | _ => cases h
  | _ => cases h
def strCells (s : ByteArray) : List Value := s.data.toList.map fun b => Value.int .u8 b.toNat
theorem strCells_length (s : ByteArray) : (strCells s).length = s.size := by
  rw [strCells, List.length_map, Array.length_toList]
  rfl
theorem run_firstCells_string (w : World) (size : Nat) (s : ByteArray) : (Builtin.firstCells size s.size (.string s)).run P w = .ok (strCells s).toArray w := by
  simp [Builtin.firstCells, strCells]
  apply Array.ext'
  simp
/-- what an append is handed: so many entries, these cells -/
inductive Src (P : Program) (w : World) (t u : Nat) (sz : Nat) : Value → Nat → List Value → Prop
  | row (h : t = u) (a : Option Addr) (n c : Nat) (vs : List Value) (hl : vs.length = n * sz) (hc : n = 0 ∨ ∃ b, a = some b ∧ ∀ j v, vs[j]? = some v → w.cell? (b.add j) = some v) : Src P w t u sz (.slice a n c) n vs
  | str (hu : P.underlying u = some .string) (h1 : sz = 1) (s : ByteArray) : Src P w t u sz (.string s) s.size (strCells s)
theorem Src.zero {t u ty e : Nat} {i : TypeInfo} {v : Value} {vs : List Value} (h : Src P w t u i.size v 0 vs) (ht : P.underlying t = some (.slice e)) (hi : P.info? e = some i) (base : Option Addr) (n c : Nat) (hn : n ≤ c) :
    (Builtin.append_ #[t, u] ty #[.slice base n c, v]).run P w = .ok (.slice base n c) w := by
  generalize hm : 0 = m at h
  cases h with
  | row h a _ c2 vs hl hc => subst hm; subst h; exact run_append_zero t ty e i ht hi base a n c c2 hn
  | str hu h1 s =>
    have hf := run_firstCells_string (P := P) w i.size s
    have h0 : strCells s = [] := List.eq_nil_of_length_eq_zero (by rw [strCells_length]; exact hm.symm)
    rw [← hm, h0] at hf
    cases base with
    | none => simp [Builtin.append_, run_underlying ht, run_underlying hu, sizeOf, typeInfo, hi, Builtin.lenOf, ← hm, hn, hf]
    | some b => simp [Builtin.append_, run_underlying ht, run_underlying hu, sizeOf, typeInfo, hi, Builtin.lenOf, ← hm, hn, hf]; rfl
theorem Src.onNil {t u ty e m : Nat} {i : TypeInfo} {z v : Value} {vs : List Value} (h : Src P w t u i.size v m vs) (ht : P.underlying t = some (.slice e)) (hi : P.info? e = some i) (hz : i.zero = some z)
    (h0 : 0 < m) (h63 : (m : Int) ≤ 9223372036854775807) (h48 : m * i.bytes ≤ 281474976710656) :
    (Builtin.append_ #[t, u] ty #[.slice none 0 0, v]).run P w =
      .ok (.slice (some ⟨w.heap.size, 0, none⟩) m (grownCap w m 0 e)) (w.drew.alloc (.cells (vs.toArray ++ Builtin.zeroCells z.cells (grownCap w m 0 e - m)) e)) := by
  cases h with
  | row h a _ c2 vs hl hc =>
    subst h
    rcases hc with hc | ⟨b, rfl, hc⟩
    · omega
    · exact run_append_nil (P := P) w t ty e i z ht hi hz b m c2 vs hl hc h0 h63 h48
  | str hu h1 s =>
    have hn : s.size ≠ 0 := by omega
    have h63' : ¬ (9223372036854775807 < (s.size : Int)) := by omega
    have h48' : ¬ (281474976710656 < Builtin.nextslicecap s.size 0 * i.bytes) := by rw [nextslicecap_zero h0]; omega
    have hf := run_firstCells_string (P := P) w.drew i.size s
    simp [Builtin.append_, run_underlying ht, run_underlying hu, sizeOf, typeInfo, zeroValue, hi, hz, Builtin.lenOf, hn, h63', h48', Question.forced, run_firstCells_none, hf, newRow, grownCap]
theorem Src.grow {t u ty e m : Nat} {i : TypeInfo} {z v : Value} {vs : List Value} (h : Src P w t u i.size v m vs) (ht : P.underlying t = some (.slice e)) (hi : P.info? e = some i) (hz : i.zero = some z)
    (b : Addr) (sLen sCap : Nat) (olds : List Value) (hlo : olds.length = sLen * i.size) (holds : ∀ j v, olds[j]? = some v → w.cell? (b.add j) = some v)
    (hg : sCap < sLen + m) (h63 : ((sLen + m : Nat) : Int) ≤ 9223372036854775807) (hfit : Builtin.nextslicecap (sLen + m) sCap * i.bytes ≤ 281474976710656) :
    (Builtin.append_ #[t, u] ty #[.slice (some b) sLen sCap, v]).run P w =
      .ok (.slice (some ⟨w.heap.size, 0, none⟩) (sLen + m) (grownCap w (sLen + m) sCap e))
        (w.drew.alloc (.cells (olds.toArray ++ vs.toArray ++ Builtin.zeroCells z.cells (grownCap w (sLen + m) sCap e - (sLen + m))) e)) := by
  cases h with
  | row h a _ c2 vs hl hc =>
    subst h
    rcases hc with rfl | ⟨a, rfl, hc⟩
    · obtain rfl : vs = [] := List.eq_nil_of_length_eq_zero (by simpa using hl)
      have hn : ¬ (sLen ≤ sCap) := by omega
      have h63' : ¬ (9223372036854775807 < (sLen : Int)) := by omega
      have h48' : ¬ (281474976710656 < Builtin.nextslicecap sLen sCap * i.bytes) := by simpa using hfit
      have hfo := run_firstCells_some (P := P) w.drew i.size sLen b sLen sCap olds hlo (by simpa using holds)
      have hf : (Builtin.firstCells i.size 0 (.slice a 0 c2)).run P w.drew = .ok #[] w.drew := by
        cases a with
        | none => exact run_firstCells_none _ _ _ _ _
        | some a => exact run_firstCells_some _ i.size 0 a 0 c2 [] (by simp) (by simp)
      simp [Builtin.append_, run_underlying ht, sizeOf, typeInfo, zeroValue, hi, hz, Builtin.lenOf, hn, h63', h48', Question.forced, hf, hfo, newRow, grownCap]
    · exact run_append_grow (P := P) w t ty e i z ht hi hz b sLen sCap olds hlo holds a m c2 vs hl hc hg h63 hfit
  | str hu h1 s =>
    have hn : ¬ (sLen + s.size ≤ sCap) := by omega
    have h63' : ¬ (9223372036854775807 < ((sLen : Int) + (s.size : Int))) := by omega
    have h48' : ¬ (281474976710656 < Builtin.nextslicecap (sLen + s.size) sCap * i.bytes) := by omega
    have hf := run_firstCells_string (P := P) w.drew i.size s
    have hfo := run_firstCells_some (P := P) w.drew i.size sLen b sLen sCap olds hlo (by simpa using holds)
    simp [Builtin.append_, run_underlying ht, run_underlying hu, sizeOf, typeInfo, zeroValue, hi, hz, Builtin.lenOf, hn, h63', h48', Question.forced, hf, hfo, newRow, grownCap]
    congr 2
    apply Array.ext'
    simp [List.append_assoc]
theorem Src.room {t u ty e m : Nat} {i : TypeInfo} {v : Value} {vs : List Value} (h : Src P w t u i.size v m vs) (ht : P.underlying t = some (.slice e)) (hi : P.info? e = some i)
    (b off sLen sCap : Nat) (h1 : ∀ u ∈ vs, u.oneCell' = true) (hroom : sLen + m ≤ sCap) (hc : ∀ j, j < vs.length → (w.cell? ⟨b, off + sLen * i.size + j, none⟩).isSome = true) (hf : ∀ j, j < vs.length → w.frozen? ⟨b, off + sLen * i.size + j, none⟩ = false) :
    (Builtin.append_ #[t, u] ty #[.slice (some ⟨b, off, none⟩) sLen sCap, v]).run P w = .ok (.slice (some ⟨b, off, none⟩) (sLen + m) sCap) (w.setCells b (off + sLen * i.size) vs) := by
  have hst := run_storeCells_cells (P := P) b (off + sLen * i.size) vs 0 w (by simpa using hc) (by simpa using hf) h1
  simp only [Nat.add_zero] at hst
  cases h with
  | row h a _ c2 vs hl hcc =>
    subst h
    rcases hcc with rfl | ⟨a, rfl, hcc⟩
    · obtain rfl : vs = [] := List.eq_nil_of_length_eq_zero (by simpa using hl)
      rw [run_append_zero t ty e i ht hi _ a sLen sCap c2 (by simpa using hroom)]
      rfl
    · exact run_append_room_cells (P := P) w t ty e i ht hi b off sLen sCap a m c2 vs hl hcc h1 hroom hc hf
  | str hu h1' s =>
    have hfc := run_firstCells_string (P := P) w i.size s
    simp [Builtin.append_, run_underlying ht, run_underlying hu, sizeOf, typeInfo, hi, Builtin.lenOf, hroom, hfc, Addr.add_lit, hst]
/-- what the second argument says of itself -/
theorem src_of (hE : EnvOk P E) (hw : W M w0 H0 H β T s.bx w) {t : Nat × Nat} {X : Type} {sz : Nat} {cs : X → List SV} {e : X} {ys : List X} (hsz : 0 < sz) {y : SV} {vy : Value} (hy : G H β T y vy) (hs : Sub (rowD E t y) (.row X sz cs e ys)) :
    ∃ vs, vs.length = ys.length * sz ∧ (∀ i, i < ys.length → (cs (ys.getD i e)).length = sz) ∧ (∀ i j, i < ys.length → j < sz → G H noB noT (at' (cs (ys.getD i e)) j .junk) (vs.getD (i * sz + j) undef)) ∧ Src P w t.1 t.2 sz vy ys.length vs := by
  unfold rowD at hs
  cases hb : Nat.beq t.1 t.2 with
  | true =>
    rw [hb] at hs
    have hgy := hy.sub hs
    obtain ⟨ay, ny, cy, rfl⟩ : ∃ ad n c, vy = .slice ad n c := by cases hgy <;> exact ⟨_, _, _, rfl⟩
    obtain ⟨rfl, zy, vs, hvs, gy, hya⟩ := row_cells hsz hgy
    refine ⟨vs, hvs, zy, gy, .row (Nat.eq_of_beq_eq_true hb) _ _ _ vs hvs ?_⟩
    rcases hya with rfl | ⟨b, off, rfl, hH⟩
    · exact .inl rfl
    · refine .inr ⟨_, rfl, fun j u e => ?_⟩
      have hj := (List.getElem?_eq_some_iff.1 e).1
      rw [add_none, (hw.lies _ _ _ (hH j hj)).1, List.getD, e]; rfl
  | false =>
    rw [hb] at hs
    simp only at hs
    have nojunk : ∀ {p}, Sub .junk (.row X sz cs e ys) → p := by intro p h; cases h
    cases hst : strT E.ty t.2 with
    | false => rw [hst] at hs; exact nojunk hs
    | true =>
      rw [hst] at hs
      simp only at hs
      cases y with
      | val v =>
        cases v with
        | string b =>
          have hv : vy = .string b := by cases hy; rfl
          subst hv
          have hu : P.underlying t.2 = some .string := by
            have : ∀ (l : List (Nat × TI)), (∀ t ti, (t, ti) ∈ l → TOk P t ti) → strT l t.2 = true → P.underlying t.2 = some .string := by
              intro l
              induction l with
              | nil => intro _ h; cases h
              | cons p r ih =>
                obtain ⟨k, v⟩ := p
                intro h1 h2
                unfold strT at h2
                cases hk : Nat.beq k t.2 with
                | true =>
                  rw [hk] at h2
                  obtain ⟨d, hd, -, -, hs, -⟩ := (h1 _ _ List.mem_cons_self).und
                  rw [← Nat.eq_of_beq_eq_true hk, hd, hs h2]
                | false =>
                  rw [hk] at h2
                  exact ih (fun t ti h => h1 t ti (List.mem_cons_of_mem _ h)) h2
            exact this E.ty hE.ty hst
          simp only at hs
          cases hs with
          | refl =>
            refine ⟨strCells b, by rw [strCells_length, Nat.mul_one]; rfl, fun i hi => rfl, fun i j hi hj => ?_, ?_⟩
            · obtain rfl : j = 0 := by omega
              have e1 : (strCells b).getD (i * 1 + 0) undef = .int .u8 ((b.data.toList.getD i 0).toNat : Int) := by
                simp only [strCells, Nat.mul_one, Nat.add_zero, List.getD, List.getElem?_map]
                rw [List.getElem?_eq_getElem hi]; rfl
              rw [e1]
              exact .val _
            · have := Src.str (P := P) (w := w) (t := t.1) (u := t.2) (sz := 1) hu rfl b
              exact this
        | _ => exact nojunk hs
      | _ => exact nojunk hs
theorem app_sound (hE : EnvOk P E) {o : Oper} {Q : Exit → Act → World → Prop} {next : Act → World → Prop} {K : ASt → Prop} (hr : Rel M w0 H0 s a w) {x y : Operand} {t : Nat × Nat} {d : Nat} (ho : isApp o.op = some (x, y, t)) (hd : o.dst = some d)
    (hk : appK E d t (ev s x) (ev s y) s K) (hn : ∀ s' a' w', K s' → Rel M w0 H0 s' a' w' → next a' w') : o.wp P a w next Q := by
  obtain ⟨H, β, T, hf, hw⟩ := hr
  unfold appK at hk
  simp only [force_eq] at hk
  obtain ⟨ti, hti, hk⟩ := tiK_elim hk
  cases hsl : ti.slice with
  | false => rw [hsl] at hk; exact hk.elim
  | true =>
  rw [hsl] at hk
  obtain ⟨ui, hui, hk⟩ := tiK_elim hk
  cases h1 : Nat.beq ui.zero.length ui.size with
  | false => rw [h1] at hk; exact hk.elim
  | true =>
  rw [h1] at hk
  simp only at hk
  cases h2 : Nat.ble 1 ui.size with
  | false => rw [h2] at hk; exact hk.elim
  | true =>
  rw [h2] at hk
  simp only at hk
  cases h3 : Nat.ble 1 ui.bytes with
  | false => rw [h3] at hk; exact hk.elim
  | true =>
  rw [h3] at hk
  simp only at hk
  have g1 := Nat.eq_of_beq_eq_true h1
  have hsz : 0 < ui.size := Nat.le_of_ble_eq_true h2
  have hby : 0 < ui.bytes := Nat.le_of_ble_eq_true h3
  obtain ⟨X, cs, e, l, ys, id, ⟨hsx, hsy⟩, hok, hbytes, hk⟩ := hk
  simp only [Tr.putK_eq] at hk
  obtain ⟨dd, hdd, -, hds, -⟩ := (hE.ty _ _ hti).und
  obtain rfl := hds hsl
  obtain ⟨i, hi, hisz, hiby, hzero⟩ := (hE.ty _ _ hui).inf
  obtain ⟨z, hz1, hz2⟩ := hzero (by intro c; rw [c] at g1; simp at g1; omega)
  have hzs : z.cells.size = ui.size := by rw [← Array.length_toList, hz2, g1]
  have hgx := (ev_G hf x).sub hsx
  obtain ⟨vs, hvs, zy, gy, hsrc⟩ := src_of hE hw hsz (ev_G hf y) hsy
  have hgr := hgx.sub (.own ..)
  generalize hax : a.eval x = vx at hgx hgr
  generalize hay : a.eval y = vy at hsrc
  obtain ⟨ax, nx, cx, rfl⟩ : ∃ ad n c, vx = .slice ad n c := by cases hgx <;> exact ⟨_, _, _, rfl⟩
  obtain ⟨rfl, zx, us, hus, gx, hxa⟩ := row_cells hsz hgr
  have hmul : l.length + ys.length ≤ 140737488355328 := Nat.le_trans (Nat.le_mul_of_pos_right _ hby) hbytes
  have hf0 := hf.dgr id d
  have hw0 := hw.dgr id d
  have fin : ∀ (H' : HM) (T' : TM) (w' : World) (val : Value), HLe H H' → TLe (drop2 id d T) T' → W M w0 H0 H' β T' (dgrB id d s.bx) w' → G H' β T' (.own X ui.size cs e (l ++ ys) d) val →
      (Builtin.append_ #[t.1, t.2] o.type #[.slice ax l.length cx, vy]).run P w = .ok val w' → o.wp P a w next Q := by
    intro H' T' w' val g2 g3 g4 g5 g6
    unfold Oper.wp execOp
    simp only [isApp_eq ho, resolve, invoke, builtin, Sem.run_bind, Sem.run_pure, Result.andThen_ok, List.map_toArray, List.map_cons, List.map_nil, hax, hay, g6]
    show next (a.put o.dst val) w'
    rw [hd]
    exact hn _ _ _ hk ⟨H', β, T', (hf0.mono g2 (.refl _) g3).put' g5 (some d), g4⟩
  -- a new block
  have fresh : ∀ (arr : Array Value) (c : Nat), arr.size = c * ui.size → l.length + ys.length ≤ c → (∀ q, q < (l.length + ys.length) * ui.size → arr.getD q undef = (us ++ vs).getD q undef) →
      (Builtin.append_ #[t.1, t.2] o.type #[.slice ax l.length cx, vy]).run P w = .ok (.slice (some ⟨w.heap.size, 0, none⟩) (l.length + ys.length) c) (w.drew.alloc (.cells arr ti.elem)) → o.wp P a w next Q := by
    intro arr c hsize hc hcells hrun
    have hwd := hw0.drew
    have hNs : w.drew.heap.size = w.heap.size := rfl
    have hwa := hwd.heap_eq (w' := w.drew.alloc (.cells arr ti.elem)) (hwd.keep.alloc _) (fun b o v e => cell_alloc e) (fun b hb => Below.heap_alloc _ _ _ hb) (by simp)
    have hlen : (us ++ vs).length = (l.length + ys.length) * ui.size := by rw [List.length_append, hus, hvs, Nat.add_mul]
    have hcs : (l.length + ys.length) * ui.size ≤ c * ui.size := Nat.mul_le_mul_right _ hc
    have hcell : ∀ q, q < c * ui.size → (w.drew.alloc (.cells arr ti.elem)).cell? ⟨w.heap.size, q, none⟩ = some (arr.getD q undef) := fun q hq => by
      rw [← hNs, World.cell?_alloc_new]
      simp [show q < arr.size by omega]
    have hfree : Free M w0 H β (drop2 id d T) (dgrB id d s.bx) (w.drew.alloc (.cells arr ti.elem)) w.heap.size 0 (c * ui.size) :=
      ⟨.inr hw.keep.size, fun i c => (by have := (hw0.bβ _ _ c).1; omega), fun q _ hq => ⟨by rw [hcell q hq]; rfl, World.frozen?_alloc_new (w := w.drew) arr ti.elem q, (no_new hwd q).1, (no_new hwd q).2⟩⟩
    obtain ⟨b1, b2, b3⟩ := hwa.claim (d := d) hfree (us ++ vs) (by rw [hlen]; omega) (fun j hj => by rw [Nat.zero_add, hcell j (by omega), hcells j (by omega)])
    refine fin _ _ _ _ b1 b2 b3 (G_own b1 hsz hc hus hvs zx zy gx gy (fun q hq => ?_) (fun q h4 h5 => ?_)) hrun
    · unfold hput
      rw [if_pos ⟨rfl, by omega, by omega⟩]; simp
    · unfold tput
      rw [if_pos ⟨rfl, by omega, by omega⟩]
  have olds_at : ∀ (b off : Nat), (∀ q, q < us.length → H b (off + q) = some (us.getD q undef)) → ∀ j u, us[j]? = some u → w.cell? ((⟨b, off, none⟩ : Addr).add j) = some u := by
    intro b off h j u e
    have hj := (List.getElem?_eq_some_iff.1 e).1
    rw [add_none, (hw.lies _ _ _ (h j hj)).1, List.getD, e]; rfl
  rw [← hisz] at hsrc
  cases hgx with
  | ownE =>
    by_cases hm : ys.length = 0
    · obtain rfl : ys = [] := List.eq_nil_of_length_eq_zero hm
      exact fin H _ w (.slice ax 0 0) (.refl _) (.refl _) hw0 (by simpa using G.ownE ..) (Src.zero hsrc hdd hi ax 0 0 (Nat.le_refl _))
    · have husn : us = [] := List.eq_nil_of_length_eq_zero (by rw [hus]; simp)
      subst husn
      cases ax with
      | some bb =>
        have hge := grownCap_ge w (0 + ys.length) 0 ti.elem
        have hr := Src.grow (ty := o.type) hsrc hdd hi hz1 bb 0 0 [] (by simp) (by simp)
          (by omega) (by omega) (growslice_fits (by omega) (by rw [hiby]; simp at hbytes ⊢; omega))
        refine fresh _ _ ?_ (by simpa using hge) ?_ (by simpa using hr)
        · rw [Array.size_append, size_zeroCells, hzs, List.size_toArray, hvs, ← Nat.add_mul]; congr 1; simp at hge; omega
        · intro q hq
          simp only [List.length_nil, Nat.zero_add] at hq
          rw [Array.getD_eq_getD_getElem?, Array.getElem?_append_left (by simp; omega)]
          simp [List.getD]
      | none =>
        have hge := grownCap_ge w ys.length 0 ti.elem
        have hr := Src.onNil (ty := o.type) hsrc hdd hi hz1 (by omega) (by omega) (by rw [hiby]; simp at hbytes; omega)
        refine fresh (vs.toArray ++ Builtin.zeroCells z.cells (grownCap w ys.length 0 ti.elem - ys.length)) (grownCap w ys.length 0 ti.elem) ?_ (by simpa using hge) ?_ (by simpa using hr)
        · rw [Array.size_append, size_zeroCells, hzs, List.size_toArray, hvs, ← Nat.add_mul]; congr 1; omega
        · intro q hq
          simp only [List.length_nil, Nat.zero_add] at hq
          rw [Array.getD_eq_getD_getElem?, Array.getElem?_append_left (by rw [List.size_toArray]; omega)]
          simp [List.getD]
  | own _ _ _ _ _ _ b off _ us' hc' hz' hH' hG' hT =>
    have hxa' : ∀ q, q < us.length → H b (off + q) = some (us.getD q undef) := by
      rcases hxa with rfl | ⟨b2, off2, e2, hH⟩
      · intro q hq; rw [hus] at hq; simp at hq
      · cases e2; exact hH
    have tailfree : Free M w0 H β (drop2 id d T) (dgrB id d s.bx) w b (off + l.length * ui.size) (off + cx * ui.size) ∨ cx * ui.size ≤ l.length * ui.size := by
      by_cases hroom : cx * ui.size ≤ l.length * ui.size
      · exact .inr hroom
      · refine .inl ⟨(hw.tail _ _ _ (hT (off + l.length * ui.size) (Nat.le_refl _) (by omega))).1, hw.sep _ _ _ (hT (off + l.length * ui.size) (Nat.le_refl _) (by omega)), fun q h4 h5 => ?_⟩
        have ht := hT q h4 h5
        obtain ⟨-, a2, a3⟩ := hw.tail _ _ _ ht
        refine ⟨a2, a3, ?_, drop2_gone ht⟩
        cases eh : H b q with
        | none => rfl
        | some v => have := (hw.lies _ _ _ eh).2; rw [ht] at this; cases this

    by_cases hroom : l.length + ys.length ≤ cx
    · have hcm : (l.length + ys.length) * ui.size ≤ cx * ui.size := Nat.mul_le_mul_right _ hroom
      rw [Nat.add_mul] at hcm
      have hadd : (l.length + ys.length) * ui.size = l.length * ui.size + ys.length * ui.size := Nat.add_mul ..
      have done : ∀ (w' : World), W M w0 H0 H β (drop2 id d T) (dgrB id d s.bx) w' → Free M w0 H β (drop2 id d T) (dgrB id d s.bx) w' b (off + l.length * ui.size) (off + cx * ui.size) →
          (∀ j, j < vs.length → w'.cell? ⟨b, off + l.length * ui.size + j, none⟩ = some (vs.getD j undef)) →
          (Builtin.append_ #[t.1, t.2] o.type #[.slice (some ⟨b, off, none⟩) l.length cx, vy]).run P w = .ok (.slice (some ⟨b, off, none⟩) (l.length + ys.length) cx) w' → o.wp P a w next Q := by
        intro w' hw' hfr hcell hrun
        obtain ⟨b1, b2, b3⟩ := hw'.claim (d := d) hfr vs (by omega) hcell
        refine fin _ _ _ _ b1 b2 b3 (G_own b1 hsz hroom hus hvs zx zy gx gy (fun q hq => ?_) (fun q h4 h5 => ?_)) hrun
        · by_cases hq2 : q < us.length
          · rw [b1 _ _ _ (hxa' q hq2)]
            simp [List.getD, List.getElem?_append_left hq2]
          · unfold hput
            rw [if_pos ⟨rfl, by omega, by omega⟩]
            simp only [List.getD, List.getElem?_append_right (show us.length ≤ q by omega)]
            rw [show off + q - (off + l.length * ui.size) = q - us.length by omega]
        · unfold tput
          rw [if_pos ⟨rfl, by omega, by omega⟩]
      rcases tailfree with hfr | hno
      · obtain ⟨p1, p2, p3⟩ := hw0.poke hfr vs (by omega)
        refine done _ p1 p2 p3 ?_
        have := Src.room (ty := o.type) hsrc hdd hi b off l.length cx ?_ hroom
          (fun j hj => by rw [hisz]; exact (hfr.cell _ (by omega) (by omega)).1) (fun j hj => by rw [hisz]; exact (hfr.cell _ (by omega) (by omega)).2.1)
        · rwa [hisz] at this
        · intro u hu
          obtain ⟨q, hq, rfl⟩ := List.getElem_of_mem hu
          have hq' : q < ys.length * ui.size := by omega
          have hdv : q / ui.size < ys.length := Nat.div_lt_of_lt_mul (by rw [Nat.mul_comm]; exact hq')
          have hmd := Nat.mod_lt q hsz
          have := gy (q / ui.size) (q % ui.size) hdv hmd
          rw [Nat.mul_comm, Nat.div_add_mod, getD_get _ _ hq] at this
          exact cellOk_one (allOk_at (hok _) _ (by rw [zy _ hdv]; exact hmd)) this
      · have hcl : cx ≤ l.length := Nat.le_of_mul_le_mul_right hno hsz
        have hy0 : ys.length = 0 := by omega
        obtain rfl : ys = [] := List.eq_nil_of_length_eq_zero hy0
        refine fin H _ w _ (.refl _) (.refl _) hw0 ?_ (Src.zero hsrc hdd hi (some ⟨b, off, none⟩) l.length cx hc')
        rw [List.append_nil]
        exact .own X ui.size cs e l d b off cx us' hc' hz' hH' hG' (fun q h4 h5 => by omega)
    · have hge := grownCap_ge w (l.length + ys.length) cx ti.elem
      have hr := Src.grow (ty := o.type) hsrc hdd hi hz1 ⟨b, off, none⟩ l.length cx us (by rw [hisz]; exact hus) (olds_at b off hxa')
          (by omega) (by omega) (growslice_fits (by omega) (by rw [hiby]; exact hbytes))
      refine fresh _ _ ?_ hge ?_ hr
      · rw [Array.size_append, Array.size_append, size_zeroCells, hzs, List.size_toArray, List.size_toArray, hus, hvs, ← Nat.add_mul, ← Nat.add_mul]; congr 1; omega
      · intro q hq
        have hq2 : q < us.length + vs.length := by rw [hus, hvs, ← Nat.add_mul]; exact hq
        rw [Array.getD_eq_getD_getElem?, Array.getElem?_append_left (by simp; omega)]
        simp [List.getD]

/-! ### Rows that may be written -/
theorem appV_sound (hE : EnvOk P E) {o : Oper} {Q : Exit → Act → World → Prop} {next : Act → World → Prop} {K : ASt → Prop} (hr : Rel M w0 H0 s a w) {x y : Operand} {t : Nat × Nat} {d : Nat} (ho : isApp o.op = some (x, y, t)) (hd : o.dst = some d)
    (hk : appV E d t (ev s x) (ev s y) s K) (hn : ∀ s' a' w', K s' → Rel M w0 H0 s' a' w' → next a' w') : o.wp P a w next Q := by
  obtain ⟨H, β, T, hf, hw⟩ := hr
  unfold appV at hk
  cases htu : Nat.beq t.1 t.2 with
  | false => rw [htu] at hk; exact hk.elim
  | true =>
  rw [htu] at hk
  simp only at hk
  have htu2 := Nat.eq_of_beq_eq_true htu
  obtain ⟨t, t2⟩ := t
  simp only at htu2
  subst htu2
  obtain ⟨ti, hti, hk⟩ := tiK_elim hk
  cases hsl : ti.slice with
  | false => rw [hsl] at hk; exact hk.elim
  | true =>
  rw [hsl] at hk
  obtain ⟨ui, hui, hk⟩ := tiK_elim hk
  cases h1 : Nat.beq ui.zero.length ui.size with
  | false => rw [h1] at hk; exact hk.elim
  | true =>
  rw [h1] at hk
  simp only at hk
  cases h2 : Nat.ble 1 ui.size with
  | false => rw [h2] at hk; exact hk.elim
  | true =>
  rw [h2] at hk
  simp only at hk
  cases h3 : Nat.ble 1 ui.bytes with
  | false => rw [h3] at hk; exact hk.elim
  | true =>
  rw [h3] at hk
  simp only at hk
  cases hdm : Nat.blt d 1000 with
  | false => rw [hdm] at hk; exact hk.elim
  | true =>
  rw [hdm] at hk
  simp only at hk
  cases hd0 : s.bx.get d (some []) with
  | some _ => rw [hd0] at hk; exact hk.elim
  | none =>
  rw [hd0] at hk
  simp only at hk
  have g1 := Nat.eq_of_beq_eq_true h1
  have hsz : 0 < ui.size := Nat.le_of_ble_eq_true h2
  have hby : 0 < ui.bytes := Nat.le_of_ble_eq_true h3
  obtain ⟨X, cs, e, ys, ⟨hsx, hsy⟩, hcs, hbytes, hk⟩ := hk
  simp only [Tr.putK_eq] at hk
  obtain ⟨dd, hdd, -, hds, -⟩ := (hE.ty _ _ hti).und
  obtain rfl := hds hsl
  obtain ⟨i, hi, hisz, hiby, hzero⟩ := (hE.ty _ _ hui).inf
  obtain ⟨z, hz1, hz2⟩ := hzero (by intro c; rw [c] at g1; simp at g1; omega)
  have hzs : z.cells.size = ui.size := by rw [← Array.length_toList, hz2, g1]
  have hgx := (ev_G hf x).sub hsx
  have hgy := (ev_G hf y).sub hsy
  generalize hax : a.eval x = vx at hgx
  generalize hay : a.eval y = vy at hgy
  obtain ⟨ay, ny, cy, rfl⟩ : ∃ ad n c, vy = .slice ad n c := by cases hgy <;> exact ⟨_, _, _, rfl⟩
  cases hgx with
  | e0 ax =>
  obtain ⟨rfl, zy, vs, hvs, gy, hya⟩ := row_cells hsz hgy
  have hmul : ys.length ≤ 140737488355328 := Nat.le_trans (Nat.le_mul_of_pos_right _ hby) hbytes
  have fin : ∀ (β' : BM) (w' : World) (val : Value), BLe β β' → W M w0 H0 H β' T (s.bx.put d (some [.many X ui.size cs e ys])) w' → G H β' T (.arr d ui.size 0 ys.length none) val →
      (Builtin.append_ #[t, t] o.type #[.slice ax 0 0, .slice ay ys.length cy]).run P w = .ok val w' → o.wp P a w next Q := by
    intro β' w' val g2 g4 g5 g6
    unfold Oper.wp execOp
    simp only [isApp_eq ho, resolve, invoke, builtin, Sem.run_bind, Sem.run_pure, Result.andThen_ok, List.map_toArray, List.map_cons, List.map_nil, hax, hay, g6]
    show next (a.put o.dst val) w'
    rw [hd]
    exact hn _ _ _ hk ⟨H, β', T, (hf.mono (.refl _) g2 (.refl _)).put' g5 (some d), g4⟩
  rcases hya with rfl | ⟨b, off, rfl, hH⟩
  · exact fin β w (.slice ax 0 0) (.refl _) (hw.newEmpty hd0 e ⟨hsz, hcs⟩) (.arrE ..) (run_append_zero t o.type ti.elem i hdd hi ax ay 0 0 cy (Nat.le_refl _))
  · have news_at : ∀ j u, vs[j]? = some u → w.cell? ((⟨b, off, none⟩ : Addr).add j) = some u := by
      intro j u e
      have hj := (List.getElem?_eq_some_iff.1 e).1
      rw [add_none, (hw.lies _ _ _ (hH j hj)).1, List.getD, e]; rfl
    by_cases hm : ys.length = 0
    · obtain rfl : ys = [] := List.eq_nil_of_length_eq_zero hm
      exact fin β w (.slice ax 0 0) (.refl _) (hw.newEmpty hd0 e ⟨hsz, hcs⟩) (.arrE ..) (run_append_zero t o.type ti.elem i hdd hi ax _ 0 0 cy (Nat.le_refl _))
    · have fresh : ∀ (arr : Array Value) (c : Nat), ys.length ≤ c → vs.length ≤ arr.size → (∀ q, q < vs.length → arr.getD q undef = vs.getD q undef) →
          (Builtin.append_ #[t, t] o.type #[.slice ax 0 0, .slice (some ⟨b, off, none⟩) ys.length cy]).run P w = .ok (.slice (some ⟨w.heap.size, 0, none⟩) ys.length c) (w.drew.alloc (.cells arr ti.elem)) → o.wp P a w next Q := by
        intro arr c hc hsize hcells hrun
        have hcs' : ∀ x, (cs x).length = ui.size := fun x => (hcs x).1
        obtain ⟨hle, hw'⟩ := hw.drew.newBox hdm hd0 (cs := [.many X ui.size cs e ys]) (vs := arr) (t := ti.elem) (by show ys.length * ui.size ≤ _; omega) (fun j hj => by
          replace hj : j < ys.length * ui.size := hj
          have h1 : j / ui.size < ys.length := by rw [Nat.div_lt_iff_lt_mul hsz]; exact hj
          have h2 : j % ui.size < ui.size := Nat.mod_lt _ hsz
          have h3 : j / ui.size * ui.size + j % ui.size = j := by rw [Nat.mul_comm]; exact Nat.div_add_mod j ui.size
          show G H β T (at' (cs (ys.getD (j / ui.size) e)) (j % ui.size) .junk) _
          rw [hcells j (by omega)]
          have := gy (j / ui.size) (j % ui.size) h1 h2
          rw [h3] at this
          exact this.mono (.refl _) (noB_le _) (noT_le _)) (fun X' sz' c' d' l' ee => by cases ee; exact ⟨hsz, hcs⟩)
        refine fin _ _ _ hle hw' ?_ hrun
        have := G.arr (H := H) (β := bset β d w.drew.heap.size) (T := T) d ui.size 0 ys.length none w.heap.size c (by simp [bset]) hc (fun c' e => by cases e)
        rw [Nat.zero_mul] at this
        exact this
      cases ax with
      | none =>
        have hge := grownCap_ge w ys.length 0 ti.elem
        have hr := run_append_nil (P := P) w t o.type ti.elem i z hdd hi hz1 ⟨b, off, none⟩ ys.length cy vs (by rw [hisz]; exact hvs) news_at (by omega) (by omega) (by rw [hiby]; omega)
        refine fresh _ _ (by simpa using hge) ?_ ?_ hr
        · rw [Array.size_append, List.size_toArray]; omega
        · intro q hq
          rw [Array.getD_eq_getD_getElem?, Array.getElem?_append_left (by rw [List.size_toArray]; omega)]
          simp [List.getD]
      | some bb =>
        have hge := grownCap_ge w (0 + ys.length) 0 ti.elem
        have hr := run_append_grow (P := P) w t o.type ti.elem i z hdd hi hz1 bb 0 0 [] (by simp) (by simp) ⟨b, off, none⟩ ys.length cy vs (by rw [hisz]; exact hvs) news_at
          (by omega) (by omega) (growslice_fits (by omega) (by rw [hiby]; simp; omega))
        refine fresh _ _ (by simpa using hge) ?_ ?_ (by simpa using hr)
        · rw [Array.size_append, List.size_toArray]; omega
        · intro q hq
          rw [Array.getD_eq_getD_getElem?, Array.getElem?_append_left (by simp; omega)]
          simp [List.getD]

theorem appX_sound (hE : EnvOk P E) {o : Oper} {Q : Exit → Act → World → Prop} {next : Act → World → Prop} {K : ASt → Prop} (hr : Rel M w0 H0 s a w) {x y : Operand} {t : Nat × Nat} {d : Nat} (ho : isApp o.op = some (x, y, t)) (hd : o.dst = some d)
    {b z q n : Nat} {cap : Option Nat} (hex : ev s x = .arr b z q n cap) (hk : appX E d t b z q n cap (ev s y) s K) (hn : ∀ s' a' w', K s' → Rel M w0 H0 s' a' w' → next a' w') : o.wp P a w next Q := by
  obtain ⟨H, β, T, hf, hw⟩ := hr
  unfold appX at hk
  cases htu : Nat.beq t.1 t.2 with
  | false => rw [htu] at hk; exact hk.elim
  | true =>
  rw [htu] at hk
  simp only at hk
  have htu2 := Nat.eq_of_beq_eq_true htu
  obtain ⟨t, t2⟩ := t
  simp only at htu2
  subst htu2
  obtain ⟨ti, hti, hk⟩ := tiK_elim hk
  cases hsl : ti.slice with
  | false => rw [hsl] at hk; exact hk.elim
  | true =>
  rw [hsl] at hk
  obtain ⟨ui, hui, hk⟩ := tiK_elim hk
  cases h1 : Nat.beq ui.zero.length ui.size with
  | false => rw [h1] at hk; exact hk.elim
  | true =>
  rw [h1] at hk
  simp only at hk
  cases h2 : Nat.ble 1 ui.size with
  | false => rw [h2] at hk; exact hk.elim
  | true =>
  rw [h2] at hk
  simp only at hk
  cases h3 : Nat.ble 1 ui.bytes with
  | false => rw [h3] at hk; exact hk.elim
  | true =>
  rw [h3] at hk
  simp only at hk
  cases hz : Nat.beq z ui.size with
  | false => rw [hz] at hk; exact hk.elim
  | true =>
  rw [hz] at hk
  simp only at hk
  obtain rfl := Nat.eq_of_beq_eq_true hz
  cases hb : s.bx.get b none with
  | none => rw [hb] at hk; exact hk.elim
  | some cs0 =>
  rw [hb] at hk
  simp only at hk
  obtain ⟨X, sz, cs, e, l, ee, hkm⟩ := manyK_elim hk
  subst ee
  replace hk := hkm
  clear hkm
  cases hbz : Nat.beq ui.size sz with
  | false => rw [hbz] at hk; exact hk.elim
  | true =>
  rw [hbz] at hk
  simp only at hk
  obtain rfl := Nat.eq_of_beq_eq_true hbz
  have g1 := Nat.eq_of_beq_eq_true h1
  have hsz : 0 < ui.size := Nat.le_of_ble_eq_true h2
  have hby : 0 < ui.bytes := Nat.le_of_ble_eq_true h3
  obtain ⟨ys, ⟨hcap, hqn, hpos, hsy⟩, hbytes, hk⟩ := hk
  simp only [Tr.putK_eq] at hk
  obtain ⟨dd, hdd, -, hds, -⟩ := (hE.ty _ _ hti).und
  obtain rfl := hds hsl
  obtain ⟨i, hi, hisz, hiby, hzero⟩ := (hE.ty _ _ hui).inf
  obtain ⟨zv, hz1, hz2⟩ := hzero (by intro c; rw [c] at g1; simp at g1; omega)
  have hzs : zv.cells.size = ui.size := by rw [← Array.length_toList, hz2, g1]
  have hgx := ev_G hf x
  have hgy := (ev_G hf y).sub hsy
  rw [hex] at hgx
  generalize hax : a.eval x = vx at hgx
  generalize hay : a.eval y = vy at hgy
  obtain ⟨ay, ny, cy, rfl⟩ : ∃ ad n c, vy = .slice ad n c := by cases hgy <;> exact ⟨_, _, _, rfl⟩
  obtain ⟨rfl, zy, vs, hvs, gy, hya⟩ := row_cells hsz hgy
  obtain ⟨hz0, hzz⟩ := hw.many _ _ _ _ _ _ hb
  have hmul : n + ys.length ≤ 140737488355328 := Nat.le_trans (Nat.le_mul_of_pos_right _ hby) hbytes
  have hlx : ((l.drop q).take n).length = n := by simp; omega
  have hf0 := hf.dgr d d
  have hw0 := hw.dgr d d
  -- the row's own cells
  have hcellx : ∀ k, β b = some k → ∀ j, j < n * ui.size → ∃ u, w.cell? ⟨k, q * ui.size + j, none⟩ = some u ∧ G H noB noT (at' (cs (((l.drop q).take n).getD (j / ui.size) e)) (j % ui.size) .junk) u := by
    intro k hk j hj
    have h1 : j / ui.size < n := by rw [Nat.div_lt_iff_lt_mul hsz]; exact hj
    have h2 : j % ui.size < ui.size := Nat.mod_lt _ hsz
    have h3 : q * ui.size + j = (q + j / ui.size) * ui.size + j % ui.size := by
      have h0 : j = j / ui.size * ui.size + j % ui.size := by rw [Nat.mul_comm]; exact (Nat.div_add_mod j ui.size).symm
      rw [Nat.add_mul]; omega
    have h4 : q * ui.size + j < l.length * ui.size := by
      rw [h3]; exact many_lt (Nat.lt_of_lt_of_le (Nat.add_lt_add_left h1 q) hqn) h2
    obtain ⟨k2, hk2, -, hj2⟩ := hw.box b _ hb (by show 0 < l.length * ui.size; omega)
    obtain rfl : k = k2 := Option.some.inj (hk.symm.trans hk2)
    obtain ⟨-, -, -, u, hu, hg⟩ := hj2 _ h4
    refine ⟨u, hu, ?_⟩
    rw [h3, xat_many _ _ h2] at hg
    have h5 : ((l.drop q).take n).getD (j / ui.size) e = l.getD (q + j / ui.size) e := by simp [List.getElem?_take, h1, List.getElem?_drop]
    rw [h5]
    exact hg.imm (imms_at (hzz _).2.1 _ (by rw [(hzz _).1]; exact h2)) noB noT
  obtain ⟨ax, c, hvx, hcn, us, hus, holds, gx⟩ : ∃ ax c, vx = .slice (some ax) n c ∧ c = n ∧ ∃ us : List Value, us.length = n * ui.size ∧ (∀ j u, us[j]? = some u → w.cell? (ax.add j) = some u) ∧
      (∀ i j, i < n → j < ui.size → G H noB noT (at' (cs (((l.drop q).take n).getD i e)) j .junk) (us.getD (i * ui.size + j) undef)) := by
    cases hgx with
    | arrE => cases hcap
    | arr _ _ _ _ _ k c hβ hc he =>
      have hch := fun j hj => hcellx k hβ j hj
      refine ⟨⟨k, q * ui.size, none⟩, c, rfl, he n hcap, (List.range (n * ui.size)).map (fun j => (w.cell? ⟨k, q * ui.size + j, none⟩).getD undef), by simp, ?_, ?_⟩
      · intro j u e
        have hj : j < n * ui.size := by have := (List.getElem?_eq_some_iff.1 e).1; simpa using this
        obtain ⟨u', hu', -⟩ := hch j hj
        rw [add_none]
        simp [hj, hu'] at e
        rw [hu', e]
      · intro i j hi hj
        have hij : i * ui.size + j < n * ui.size := many_lt hi hj
        obtain ⟨u', hu', hg⟩ := hch _ hij
        have h1 : (i * ui.size + j) / ui.size = i := by rw [Nat.mul_comm, Nat.mul_add_div hsz, Nat.div_eq_of_lt hj, Nat.add_zero]
        have h2 : (i * ui.size + j) % ui.size = j := by rw [Nat.mul_comm, Nat.mul_add_mod, Nat.mod_eq_of_lt hj]
        rw [h1, h2] at hg
        have e2 : ((List.range (n * ui.size)).map (fun j => (w.cell? ⟨k, q * ui.size + j, none⟩).getD undef)).getD (i * ui.size + j) undef = u' := by
          rw [getD_get _ _ (by simpa using hij)]; simp [hu']
        rw [e2]; exact hg
  subst hvx hcn
  rcases hya with rfl | ⟨b2, off2, rfl, hH⟩
  · simp at hpos
  have news_at : ∀ j u, vs[j]? = some u → w.cell? ((⟨b2, off2, none⟩ : Addr).add j) = some u := by
    intro j u e
    have hj := (List.getElem?_eq_some_iff.1 e).1
    rw [add_none, (hw.lies _ _ _ (hH j hj)).1, List.getD, e]; rfl
  have hge := grownCap_ge w (c + ys.length) c ti.elem
  have hr := run_append_grow (P := P) w t o.type ti.elem i zv hdd hi hz1 ax c c us (by rw [hisz]; exact hus) holds ⟨b2, off2, none⟩ ys.length cy vs (by rw [hisz]; exact hvs) news_at
    (by omega) (by omega) (growslice_fits (by omega) (by rw [hiby]; exact hbytes))
  generalize harr : us.toArray ++ vs.toArray ++ Builtin.zeroCells zv.cells (grownCap w (c + ys.length) c ti.elem - (c + ys.length)) = arr at hr
  generalize hC : grownCap w (c + ys.length) c ti.elem = C at hr hge harr
  have hsize : arr.size = C * ui.size := by
    rw [← harr, Array.size_append, Array.size_append, size_zeroCells, hzs, List.size_toArray, List.size_toArray, hus, hvs, ← Nat.add_mul, ← Nat.add_mul]; congr 1; omega
  have hlen : (us ++ vs).length = (c + ys.length) * ui.size := by rw [List.length_append, hus, hvs, Nat.add_mul]
  have hcells : ∀ p, p < (c + ys.length) * ui.size → arr.getD p undef = (us ++ vs).getD p undef := by
    intro p hp
    have hq2 : p < us.length + vs.length := by rw [hus, hvs, ← Nat.add_mul]; exact hp
    rw [← harr, Array.getD_eq_getD_getElem?, Array.getElem?_append_left (by simp; omega)]
    simp [List.getD]
  have hwd := hw0.drew
  have hNs : w.drew.heap.size = w.heap.size := rfl
  have hwa := hwd.heap_eq (w' := w.drew.alloc (.cells arr ti.elem)) (hwd.keep.alloc _) (fun b o v e => cell_alloc e) (fun b hb => Below.heap_alloc _ _ _ hb) (by simp)
  have hcs : (c + ys.length) * ui.size ≤ C * ui.size := Nat.mul_le_mul_right _ hge
  have hcell : ∀ p, p < C * ui.size → (w.drew.alloc (.cells arr ti.elem)).cell? ⟨w.heap.size, p, none⟩ = some (arr.getD p undef) := fun p hp => by
    rw [← hNs, World.cell?_alloc_new]
    simp [show p < arr.size by omega]
  have hfree : Free M w0 H β (drop2 d d T) (dgrB d d s.bx) (w.drew.alloc (.cells arr ti.elem)) w.heap.size 0 (C * ui.size) :=
    ⟨.inr hw.keep.size, fun i c => (by have := (hw0.bβ _ _ c).1; omega), fun p _ hp => ⟨by rw [hcell p hp]; rfl, World.frozen?_alloc_new (w := w.drew) arr ti.elem p, (no_new hwd p).1, (no_new hwd p).2⟩⟩
  obtain ⟨b1, b3, b4⟩ := hwa.claim (d := d) hfree (us ++ vs) (by rw [hlen]; omega) (fun j hj => by rw [Nat.zero_add, hcell j (by omega), hcells j (by omega)])
  have hown := G_own (l := (l.drop q).take c) (d := d) b1 hsz (show ((l.drop q).take c).length + ys.length ≤ C by rw [hlx]; exact hge) (by rw [hlx]; exact hus) hvs (fun i _ => (hzz _).1) zy (by rw [hlx]; exact gx) gy (b := w.heap.size) (off := 0) (T' := tput (drop2 d d T) w.heap.size (0 + (us ++ vs).length) (C * ui.size) d) (β := β) (fun p hp => by
      rw [hlx] at hp
      unfold hput
      rw [if_pos ⟨rfl, by omega, by omega⟩]; simp) (fun p h4 h5 => by
      unfold tput
      rw [if_pos ⟨rfl, by rw [hlx] at h4; omega, by omega⟩])
  rw [hlx] at hown
  unfold Oper.wp execOp
  simp only [isApp_eq ho, resolve, invoke, builtin, Sem.run_bind, Sem.run_pure, Result.andThen_ok, List.map_toArray, List.map_cons, List.map_nil, hax, hay, hr]
  show next (a.put o.dst _) _
  rw [hd]
  exact hn _ _ _ hk ⟨_, β, _, (hf0.mono b1 (.refl _) b3).put' hown (some d), b4⟩

theorem memN_keys {tb : List (Nat × List SV)} {b : Nat} : memN (keysT tb) b = true ↔ ∃ cs, lookT tb b = some cs := by
  induction tb with
  | nil => simp [keysT, memN, lookT]
  | cons p r ih =>
    obtain ⟨x, cs⟩ := p
    simp only [keysT, memN, lookT]
    cases e : Nat.beq x b with
    | true => exact ⟨fun _ => ⟨cs, rfl⟩, fun _ => rfl⟩
    | false => exact ih
theorem kills_length (tb : List Nat) : ∀ l : List SV, (kill.kills tb l).length = l.length
  | [] => rfl
  | x :: xs => by simp [kill.kills, kills_length tb xs]
theorem kills_at (tb : List Nat) : ∀ (l : List SV) (j : Nat), at' (kill.kills tb l) j .junk = kill tb (at' l j .junk)
  | [], _ => rfl
  | x :: xs, 0 => rfl
  | x :: xs, j + 1 => kills_at tb xs j
theorem kill_mapOk (tb : List Nat) : MapOk (kill tb) (kill.kills tb) := by
  refine ⟨rfl, fun _ _ => rfl, fun x => ?_⟩
  cases x with
  | many X sz c d l => exact .inl ⟨rfl, rfl⟩
  | box b o => refine .inr ⟨rfl, ?_⟩; simp only [kill]; cases memN tb b <;> rfl
  | arr b z o n c => refine .inr ⟨rfl, ?_⟩; simp only [kill]; cases memN tb b <;> rfl
  | plc b z i o => refine .inr ⟨rfl, ?_⟩; simp only [kill]; cases memN tb b <;> rfl
  | _ => exact .inr ⟨rfl, rfl⟩
theorem G.kill {tb : List Nat} {H H' : HM} (hH : HLe H H') {β β' : BM} {T T' : TM} (hT : TLe T T') {x : SV} {v : Value} (h : G H β T x v) : (∀ b k, memN tb b = false → β b = some k → β' b = some k) → G H' β' T' (kill tb x) v := by
  induction h with
  | agg l vs hn h ih => intro hb; exact .agg _ vs (by rw [kills_length]; exact hn) fun j e => by rw [kills_at]; exact ih j (by rw [kills_length] at e; exact e) hT hb
  | tup l vs hn h ih => intro hb; exact .tup _ vs (by rw [kills_length]; exact hn) fun j e => by rw [kills_at]; exact ih j (by rw [kills_length] at e; exact e) hT hb
  | fn g l vs hn h ih => intro hb; exact .fn _ _ vs (by rw [kills_length]; exact hn) fun j e => by rw [kills_at]; exact ih j (by rw [kills_length] at e; exact e) hT hb
  | box b o k h =>
    intro hb
    simp only [Ax.kill]
    cases hm : memN tb b with
    | true => exact .junk _
    | false => exact .box b o k (hb b k hm h)
  | arr b z o n cap k c h hc he =>
    intro hb
    simp only [Ax.kill]
    cases hm : memN tb b with
    | true => exact .junk _
    | false => exact .arr b z o n cap k c (hb b k hm h) hc he
  | arrE b z o a c =>
    intro hb
    simp only [Ax.kill]
    cases hm : memN tb b with
    | true => exact .junk _
    | false => exact .arrE ..
  | plc b z i o k hi h =>
    intro hb
    simp only [Ax.kill]
    cases hm : memN tb b with
    | true => exact .junk _
    | false => exact .plc b z i o k hi (hb b k hm h)
  | val v => intros; exact .val v
  | tt => intros; exact .tt
  | ff => intros; exact .ff
  | junk v => intros; exact .junk v
  | nb Q b h => intros; exact .nb Q b h
  | ifc t v => intros; exact .ifc t v
  | e0 a => intros; exact .e0 a
  | rowE => intros; exact .rowE ..
  | row X sz cs d l b off c vs hc hz hh hg ih => intros; exact .row X sz cs d l b off c vs hc hz (fun i j a e => hH _ _ _ (hh i j a e)) (fun i j a e => (hg i j a e).mono hH (.refl _) (.refl _))
  | ownE => intros; exact .ownE ..
  | own X sz cs d l id b off c vs hc hz hh hg hT' ih => intros; exact .own X sz cs d l id b off c vs hc hz (fun i j a e => hH _ _ _ (hh i j a e)) (fun i j a e => (hg i j a e).mono hH (.refl _) (.refl _)) (fun o a e => hT _ _ _ (hT' o a e))
  | elt X sz cs d l i o b p vs hz hh hg ih => intros; exact .elt X sz cs d l i o b p vs hz (fun j e => hH _ _ _ (hh j e)) (fun j e => (hg j e).mono hH (.refl _) (.refl _))
theorem killT_get (tb : List Nat) : ∀ (t : Tr SV) (q : Nat), (killT tb t).get q .junk = kill tb (t.get q .junk)
  | .nil, _ => rfl
  | .node v l r, 0 => rfl
  | .node v l r, q + 1 => by
    simp only [killT, Tr.get]
    rcases Tr.half q with ⟨e, -⟩ | ⟨e, -⟩ <;> rw [e]
    · exact killT_get tb l _
    · exact killT_get tb r _
theorem killTK_eq (tb : List Nat) : ∀ (t : Tr SV) (k : Tr SV → Prop), killTK tb t k = k (killT tb t)
  | .nil, _ => rfl
  | .node v l r, k => by simp only [killTK, killT, force_eq, killTK_eq tb l, killTK_eq tb r]
theorem killBK_eq (tb : List Nat) : ∀ (t : Tr (Option (List SV))) (k : Tr (Option (List SV)) → Prop), killBK tb t k = k (killB tb t)
  | .nil, _ => rfl
  | .node none l r, k => by simp only [killBK, killB, killBK_eq tb l, killBK_eq tb r, Option.map_none]
  | .node (some cs) l r, k => by simp only [killBK, killB, forceL_eq, killBK_eq tb l, killBK_eq tb r, Option.map_some]
theorem killT_has (tb : List Nat) : ∀ (t : Tr SV) (q : Nat), (killT tb t).has q = t.has q
  | .nil, _ => rfl
  | .node v l r, 0 => rfl
  | .node v l r, q + 1 => by
    simp only [killT, Tr.has]
    rcases Tr.half q with ⟨e, -⟩ | ⟨e, -⟩ <;> rw [e]
    · exact killT_has tb l _
    · exact killT_has tb r _
theorem killB_get (tb : List Nat) : ∀ (t : Tr (Option (List SV))) (q : Nat), (killB tb t).get q none = (t.get q none).map (kill.kills tb)
  | .nil, _ => rfl
  | .node v l r, 0 => rfl
  | .node v l r, q + 1 => by
    simp only [killB, Tr.get]
    rcases Tr.half q with ⟨e, -⟩ | ⟨e, -⟩ <;> rw [e]
    · exact killB_get tb l _
    · exact killB_get tb r _
theorem dropB_get : ∀ (tb : List Nat) (t : Tr (Option (List SV))) (q : Nat), (dropB tb t).get q none = if memN tb q = true then none else t.get q none
  | [], t, q => by simp [dropB, memN]
  | b :: r, t, q => by
    simp only [dropB]
    rw [dropB_get r]
    have hp : (t.put b none).get q none = if b = q then none else t.get q none := by
      rw [Tr.get_put]
      by_cases hb : b = q
      · subst hb
        rw [if_pos rfl]
        cases hl : t.has b with
        | true => rw [if_pos ⟨rfl, rfl⟩]
        | false => rw [if_neg (by simp), Tr.get_out _ _ _ hl]
      · rw [if_neg (fun c => hb c.1), if_neg hb]
    rw [hp]
    have hm : memN (b :: r) q = if b = q then true else memN r q := by
      by_cases hb : b = q
      · rw [if_pos hb]
        show (match Nat.beq b q with | true => true | false => memN r q) = _
        rw [hb, Nat.beq_refl]
      · rw [if_neg hb]
        show (match Nat.beq b q with | true => true | false => memN r q) = _
        have : Nat.beq b q = false := by
          cases e : Nat.beq b q with
          | false => rfl
          | true => exact absurd (Nat.eq_of_beq_eq_true e) hb
        rw [this]
    rw [hm]
    by_cases hb : b = q
    · rw [if_pos hb, if_pos hb]; simp
    · rw [if_neg hb, if_neg hb]
theorem allLt_spec : ∀ {l : List Nat} {b : Nat}, allLt l = true → memN l b = true → b < 1000
  | x :: r, b, h, hm => by
    unfold allLt at h
    unfold memN at hm
    cases hx : Nat.blt x 1000 with
    | false => rw [hx] at h; cases h
    | true =>
      rw [hx] at h
      cases e : Nat.beq x b with
      | true => rw [← Nat.eq_of_beq_eq_true e]; simpa [Nat.blt_eq] using hx
      | false => rw [e] at hm; exact allLt_spec h hm
theorem isFrz_eq {bs : List Nat} {o : Oper} {c : Call} (h : isFrz bs o = some c) : o.op = .call c := by
  unfold isFrz at h
  split at h
  · split at h
    · split at h
      · split at h
        · cases h; assumption
        · cases h
      · cases h
    · cases h
  · cases h
theorem frz_sound [GlOk E H0 w0] (hE : EnvOk P E) {o : Oper} {Q : Exit → Act → World → Prop} {next : Act → World → Prop} {K : ASt → Prop} (hr : Rel M w0 H0 s a w) {c : Call} {d : Nat} (ho : o.op = .call c) (hd : o.dst = some d)
    (hk : frzK E d c s K) (hn : ∀ s' a' w', K s' → Rel M w0 H0 s' a' w' → next a' w') : o.wp P a w next Q := by
  obtain ⟨H, β, T, hf, hw⟩ := hr
  unfold frzK at hk
  cases hc : c.callee with
  | value f =>
    rw [hc] at hk
    simp only at hk
    cases hcf : ev s f with
    | fn g caps =>
      rw [hcf] at hk
      simp only at hk
      cases hct : E.ctr g with
      | none =>
        rw [hct] at hk
        simp only at hk
        cases caps with
        | cons _ _ => exact hk.elim
        | nil =>
          simp only at hk
          cases hcb : E.ctrB g with
          | none => rw [hcb] at hk; exact hk.elim
          | some cb =>
            rw [hcb] at hk
            simp only [forceL_eq] at hk
            exact own_sound hE hf hw f g c ho hc hcf hcb d hd hk hn
      | some ct =>
        rw [hct] at hk
        simp only [forceL_eq] at hk
        simp only [condsK_arrLs, condsK_arrLT, condsK] at hk
        obtain ⟨tb, harr, ht, -⟩ := gatherK_rel (fun _ _ h => h) 6 _ [] _ (fun _ _ e => by cases e) hk
        obtain ⟨ha1, harr2⟩ := arrCs_elim _ harr
        obtain ⟨ha2, x, hs, hi, hdom, hk⟩ := arrT_elim tb harr2
        rw [force_eq] at hk
        cases hlt0 : allLt (keysT tb) with
        | false => rw [hlt0] at hk; exact hk.elim
        | true =>
        rw [hlt0] at hk
        simp only [killTK_eq, killBK_eq, Tr.putK_eq] at hk
        obtain ⟨⟨fn, hfn, hname, hbody⟩, hsound⟩ := hE.ctr g ct hct
        obtain ⟨hlen, hsub⟩ := SubL_at hs
        obtain ⟨vs, hvn, hvg, hrun⟩ := call_enters (w := w) (P := P) hf f g caps c ho hc hcf hfn hname hbody
        rw [lendsW_length] at hlen
        let S : Nat → Prop := fun id => memN (keysT tb) id = true
        have hS : ∀ id cs, lookT tb id = some cs → S id := fun id cs e => memN_keys.2 ⟨cs, e⟩
        have hargs : ∀ j, j < (ct.enc x).length → G (lent S H β s.bx w) noB noT (at' (ct.enc x) j .junk) (vs.getD j undef) := by
          intro j hj
          have h1 := lend_G hw (S := S) hS ht ha2 3 (allAs_at ha1 j) (hvg j (by omega))
          rw [← lendsW_at] at h1
          exact h1.sub (hsub j hj)
        have hcalls := hsound x (lent S H β s.bx w) w vs d hdom (lent_lies S hw) (GlOk.ctr hE (hw.ext.trans (lent_ext S hw)) hw.keep hct) (by omega) hargs
        unfold Oper.wp
        rw [hrun]
        simp only [Oper.upon]
        refine hcalls.mono ?_
        rintro e w' ⟨v, H', T', rfl, hb, hH, hold, hT', hseal, hg, -⟩
        have hcell : ∀ b q v, w.cell? ⟨b, q, none⟩ = some v → w'.cell? ⟨b, q, none⟩ = some v := fun b q v e => by
          rw [hb.cell (p := ⟨b, q, none⟩) (cell_lt e)]; exact e
        have hfro : ∀ b q, b < w.heap.size → w'.frozen? ⟨b, q, none⟩ = w.frozen? ⟨b, q, none⟩ := fun b q e => hb.frozen (p := ⟨b, q, none⟩) e
        let T2 : TM := fun b q => if b < w.heap.size then T b q else T' b q
        have hTl : TLe T T2 := fun b q i e => by
          obtain ⟨_, h2, _⟩ := hw.tail _ _ _ e
          obtain ⟨u, hu⟩ := Option.isSome_iff_exists.1 h2
          show (if b < w.heap.size then T b q else T' b q) = some i
          rw [if_pos (cell_lt hu)]; exact e
        have hTr : TLe T' T2 := fun b q i e => by
          show (if b < w.heap.size then T b q else T' b q) = some i
          rw [if_neg (by have := (hT' _ _ _ e).1; omega)]; exact e
        let β2 : BM := fun b => if memN (keysT tb) b = true then none else β b
        have hβ2 : ∀ b k, β2 b = some k → memN (keysT tb) b = false ∧ β b = some k := by
          intro b k e
          simp only [β2] at e
          cases hm : memN (keysT tb) b with
          | true => rw [hm, if_pos rfl] at e; cases e
          | false => rw [hm, if_neg (by simp)] at e; exact ⟨rfl, e⟩
        have hβ3 : ∀ b k, memN (keysT tb) b = false → β b = some k → β2 b = some k := by
          intro b k hm e
          simp only [β2]
          rw [hm, if_neg (by simp)]; exact e
        have hHH : HLe H H' := (lent_ext S hw).trans hH
        have hnl : ∀ b kk j, memN (keysT tb) b = false → β b = some kk → lent S H β s.bx w kk j = H kk j := by
          intro b kk j hm e
          unfold lent
          rw [if_neg]
          rintro ⟨id, cs, h1, -, h2, -⟩
          obtain rfl := hw.inj _ _ _ e h2
          rw [show memN (keysT tb) b = true from h1] at hm; cases hm
        have hget : ∀ id cs, (killB (keysT tb) (dropB (keysT tb) s.bx)).get id none = some cs → memN (keysT tb) id = false ∧ ∃ ds, s.bx.get id none = some ds ∧ cs = kill.kills (keysT tb) ds := by
          intro id cs e
          rw [killB_get, dropB_get] at e
          cases hm : memN (keysT tb) id with
          | true => rw [hm, if_pos rfl] at e; cases e
          | false =>
            rw [hm, if_neg (by simp)] at e
            cases hd : s.bx.get id none with
            | none => rw [hd] at e; cases e
            | some ds => rw [hd] at e; cases e; exact ⟨rfl, ds, rfl, rfl⟩
        refine hn _ _ _ hk ⟨H', β2, T2, ?_, ?_⟩
        · rw [hd]
          have hf2 : FR H' β2 T2 (killT (keysT tb) s.fr) a := ⟨fun q e => hf.size q (by rwa [killT_has] at e), hf.defers, fun q => by rw [killT_get]; exact (hf.val q).kill hHH hTl hβ3⟩
          exact hf2.put' (hg.mono (.refl _) (noB_le _) hTr) (some d)
        refine ⟨?_, ?_, ?_, ?_, ?_, ?_, ?_, ?_, ?_, ?_, hw.keep.below hb, hw.ext.trans hHH, ?_, fun k e => (hw.edge k (by obtain ⟨i, e | e⟩ := e; exact ⟨i, .inl (hβ2 _ _ e).2⟩; exact ⟨i, .inr e⟩)).heap hb.block hb.size⟩
        · intro b q u e
          refine ⟨(hseal b q u e).1, ?_⟩
          show (if b < w.heap.size then T b q else T' b q) = none
          by_cases hlt : b < w.heap.size
          · rw [if_pos hlt]; rw [hold b q hlt] at e; exact lent_T S hw _ _ _ e
          · rw [if_neg hlt]; exact (hseal b q u e).2
        · intro id cs e hl
          obtain ⟨hm, ds, h1, rfl⟩ := hget id cs e
          rw [(kill_mapOk _).xlen] at hl
          obtain ⟨kk, hkk, hmm, hj⟩ := hw.box id ds h1 hl
          refine ⟨kk, hβ3 _ _ hm hkk, hmm, fun j hlt => ?_⟩
          rw [(kill_mapOk _).xlen] at hlt
          obtain ⟨a1, a2, a3, u, a4, a5⟩ := hj j hlt
          have hkl := cell_lt a4
          refine ⟨by rw [hold _ _ hkl, hnl id kk j hm hkk]; exact a1, ?_, by rw [hfro _ _ hkl]; exact a3, u, hcell _ _ _ a4, ?_⟩
          · show (if kk < w.heap.size then T kk j else T' kk j) = none
            rw [if_pos hkl]; exact a2
          · exact (kill_mapOk _).xat hHH (fun x v g => g.kill hHH hTl hβ3) (fun X sz c d l ee => hw.many _ _ _ _ _ _ (by rw [h1, ee])) hlt a5
        · intro id kk e
          obtain ⟨hm, e2⟩ := hβ2 id kk e
          obtain ⟨a1, cs, a2⟩ := hw.bβ id kk e2
          refine ⟨Nat.lt_of_lt_of_le a1 hb.size, ?_⟩
          rw [killB_get, dropB_get, hm, if_neg (by simp), a2]
          exact ⟨_, rfl⟩
        · intro i j kk e1 e2
          exact hw.inj _ _ _ (hβ2 _ _ e1).2 (hβ2 _ _ e2).2
        · intro b q i e
          replace e : (if b < w.heap.size then T b q else T' b q) = some i := e
          by_cases hlt : b < w.heap.size
          · rw [if_pos hlt] at e
            obtain ⟨a1, a2, a3⟩ := hw.tail b q i e
            obtain ⟨u, hu⟩ := Option.isSome_iff_exists.1 a2
            exact ⟨a1, by rw [hcell _ _ _ hu]; rfl, by rw [hfro _ _ hlt]; exact a3⟩
          · rw [if_neg hlt] at e
            obtain ⟨a1, a2, a3⟩ := hT' b q i e
            exact ⟨.inr (Nat.le_trans hw.keep.size a1), a2, a3⟩
        · intro b q i e j c
          replace e : (if b < w.heap.size then T b q else T' b q) = some i := e
          have c2 := (hβ2 _ _ c).2
          rw [if_pos (hw.bβ _ _ c2).1] at e
          exact hw.sep _ _ _ e _ c2
        · intro i k e
          exact ⟨(hw.hand i k e).1, fun k' c => (hw.hand i k e).2 k' (hβ2 _ _ c).2⟩
        · intro id X sz cc dd l e
          obtain ⟨hm, ds, h1, h2⟩ := hget id _ e
          exact hw.many _ _ _ _ _ _ (by rw [h1, (kill_mapOk _).unmany h2.symm])
        · intro id k e
          exact hw.mine _ _ (hβ2 _ _ e).2
        · intro i h1 h2
          cases e : β2 i with
          | none => rfl
          | some k => have := (hβ2 _ _ e).2; rw [hw.out i h1 h2] at this; cases this
        · intro b q hm
          have hlt : b < w.heap.size := by have := hw.keep.size; omega
          refine (hw.fresh b q hm).imp (fun e => e) fun e => ?_
          rw [hold b q hlt]
          unfold lent
          rw [if_neg]
          · exact e
          · rintro ⟨id, cs, h1, -, h2, -⟩
            have := (hw.mine _ _ h2).2 (allLt_spec hlt0 h1)
            omega
    | _ => rw [hcf] at hk; exact hk.elim
  | _ => rw [hc] at hk; exact hk.elim
end
end Go.Proofs.YtimhbimpaiiceaaDoor.Ax
