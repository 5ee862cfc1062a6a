/- Tables: types held against the program, contracts by number; a law out of its contract. -/
import Derived.Test.YtimhbimpaiiceaaDoorA9
set_option linter.unusedVariables false
set_option linter.unusedSimpArgs false
namespace Go.Proofs.YtimhbimpaiiceaaDoor.Ax
open Go Go.RowKit

/-! ### 1. Types -/
def valEqB : Value → Value → Bool
  | .int k a, .int k' b => ikEq k k' && a == b
  | .bool a, .bool b => a == b
  | .string a, .string b => a.data == b.data
  | .slice none a b, .slice none a' b' => a == a' && b == b'
  | .pointer none, .pointer none => true
  | .map none, .map none => true
  | .nilFunc, .nilFunc => true
  | .nilIface, .nilIface => true
  | _, _ => false
theorem valEqB_eq : ∀ {a b : Value}, valEqB a b = true → a = b
  | .int k a, .int k' b, h => by
    simp only [valEqB, Bool.and_eq_true, beq_iff_eq] at h
    rw [ikEq_eq h.1, h.2]
  | .bool a, .bool b, h => by simp only [valEqB, beq_iff_eq] at h; rw [h]
  | .string a, .string b, h => by
    simp only [valEqB, beq_iff_eq] at h
    congr 1
    exact ByteArray.ext h
  | .slice none a b, .slice none a' b', h => by
    simp only [valEqB, Bool.and_eq_true, beq_iff_eq] at h
    rw [h.1, h.2]
  | .pointer none, .pointer none, _ => rfl
  | .map none, .map none, _ => rfl
  | .nilFunc, .nilFunc, _ => rfl
  | .nilIface, .nilIface, _ => rfl
def valsEqB : List Value → List Value → Bool
  | [], [] => true
  | x :: xs, y :: ys => valEqB x y && valsEqB xs ys
  | _, _ => false
theorem valsEqB_eq : ∀ {a b : List Value}, valsEqB a b = true → a = b
  | [], [], _ => rfl
  | x :: xs, y :: ys, h => by
    simp only [valsEqB, Bool.and_eq_true] at h
    rw [valEqB_eq h.1, valsEqB_eq h.2]
def fldsB (P : Program) : List Go.Field → List (Nat × Nat) → Bool
  | [], [] => true
  | f :: fs, (q, u) :: r => f.offset == q && f.type == u && (match P.info? u with | some i => i.size != 0 | none => false) && fldsB P fs r
  | _, _ => false
theorem fldsB_length {P : Program} : ∀ {fs : List Go.Field} {l : List (Nat × Nat)}, fldsB P fs l = true → fs.length = l.length
  | [], [], _ => rfl
  | f :: fs, (q, u) :: r, h => by
    simp only [fldsB, Bool.and_eq_true] at h
    simp [fldsB_length h.2]
theorem fldsB_at {P : Program} : ∀ {fs : List Go.Field} {l : List (Nat × Nat)}, fldsB P fs l = true → ∀ (f q u : Nat), l[f]? = some (q, u) →
    ∃ fd : Go.Field, fs[f]? = some fd ∧ fd.offset = q ∧ fd.type = u ∧ ∃ i, P.info? u = some i ∧ i.size ≠ 0
  | [], [], _, f, q, u, e => by simp at e
  | f :: fs, (q, u) :: r, h, j, q', u', e => by
    simp only [fldsB, Bool.and_eq_true, beq_iff_eq] at h
    obtain ⟨⟨⟨h1, h2⟩, h3⟩, h4⟩ := h
    cases j with
    | zero =>
      simp at e
      obtain ⟨rfl, rfl⟩ := e
      refine ⟨f, rfl, h1, h2, ?_⟩
      cases hi : P.info? u with
      | none => rw [hi] at h3; simp at h3
      | some i => rw [hi] at h3; exact ⟨i, rfl, by simpa using h3⟩
    | succ j => simpa using fldsB_at h4 j q' u' (by simpa using e)
def tyB (P : Program) (t : Nat) (ti : TI) : Bool := match P.underlying t, P.info? t with
  | some d, some i =>
    isAggD d == ti.agg && (!ti.slice || (match d with | .slice e => e == ti.elem | _ => false)) && (!ti.str || (match d with | .string => true | _ => false)) &&
    (!ti.bool || (match d with | .bool => true | _ => false)) && (ti.flds.isEmpty || (match d with | .struct fs => fldsB P fs.toList ti.flds | _ => false)) &&
    (!ti.iface || (match d with | .interface _ => true | _ => false)) && (match ti.int with | some k => (match d with | .int k' => ikEq k k' | _ => false) | none => true) && (ti.agg || Nat.blt 0 ti.size) && i.size == ti.size && i.bytes == ti.bytes && (ti.zero.isEmpty || (match i.zero with | some z => valsEqB z.cells.toList ti.zero | none => false))
  | _, _ => false
theorem tyB_ok {P : Program} {t : Nat} {ti : TI} (h : tyB P t ti = true) : TOk P t ti := by
  unfold tyB at h
  cases hd : P.underlying t with
  | none => rw [hd] at h; simp at h
  | some d =>
    cases hi : P.info? t with
    | none => rw [hd, hi] at h; simp at h
    | some i =>
      rw [hd, hi] at h
      simp only [Bool.and_eq_true] at h
      obtain ⟨⟨⟨⟨⟨⟨⟨⟨⟨⟨h1, h2⟩, h3⟩, h4⟩, h5⟩, h11⟩, h10⟩, h6⟩, h7⟩, h8⟩, h9⟩ := h
      refine ⟨⟨d, hd, by simpa using h1, ?_, ?_, ?_, ?_⟩, ?_, ?_, ⟨i, hi, by simpa using h7, by simpa using h8, ?_⟩, ?_, ?_⟩
      · intro hs
        rw [hs] at h2
        cases d <;> simp at h2
        rw [h2]
      · intro hs
        rw [hs] at h3
        cases d <;> simp at h3
        rfl
      · intro hs
        rw [hs] at h4
        cases d <;> simp at h4
        rfl
      · intro f q u e
        cases hfl : ti.flds with
        | nil => rw [hfl] at e; simp at e
        | cons a r =>
          rw [hfl] at h5
          cases d <;> simp at h5
          rename_i fs
          rw [← hfl] at h5
          obtain ⟨fd, h10, h11, h12, h13⟩ := fldsB_at h5 f q u e
          exact ⟨fs, fd, rfl, by rw [← Array.getElem?_toList]; exact h10, h11, h12, h13⟩
      · intro ha
        rw [ha] at h6
        simpa [Nat.blt_eq] using h6
      · intro hfl
        rw [show ti.flds.isEmpty = false from by simpa using hfl] at h5
        cases d <;> simp at h5
        rename_i fs
        exact ⟨fs, hd, by simpa using fldsB_length h5⟩
      · intro hz
        cases hzz : i.zero with
        | none =>
          rw [hzz] at h9
          cases hzl : ti.zero with
          | nil => exact absurd hzl hz
          | cons a r => rw [hzl] at h9; simp at h9
        | some z =>
          rw [hzz] at h9
          refine ⟨z, rfl, ?_⟩
          cases hzl : ti.zero with
          | nil => exact absurd hzl hz
          | cons a r => rw [hzl] at h9; exact valsEqB_eq (by simpa using h9)
      · intro k hk
        rw [hk] at h10
        cases d <;> simp at h10
        rw [hd, ikEq_eq h10]
      · intro hs
        rw [hs] at h11
        cases d <;> simp at h11
        exact ⟨_, hd⟩
def tysB (P : Program) : List (Nat × TI) → Bool
  | [] => true
  | (t, ti) :: r => tyB P t ti && tysB P r
theorem tysB_ok {P : Program} : ∀ {l : List (Nat × TI)}, tysB P l = true → ∀ t ti, (t, ti) ∈ l → TOk P t ti
  | (t, ti) :: r, h, t', ti', hm => by
    simp only [tysB, Bool.and_eq_true] at h
    rcases List.mem_cons.1 hm with e | e
    · cases e; exact tyB_ok h.1
    · exact tysB_ok h.2 t' ti' e

/-! ### 2. Environments -/
def find {α : Type _} : List (Nat × α) → Nat → Option α
  | [], _ => none
  | (k, v) :: r, n => match Nat.beq k n with | true => some v | false => find r n
theorem find_mem {α : Type _} : ∀ {l : List (Nat × α)} {n : Nat} {v : α}, find l n = some v → (n, v) ∈ l
  | (k, u) :: r, n, v, h => by
    unfold find at h
    cases e : Nat.beq k n with
    | true => rw [e] at h; simp only [Option.some.injEq] at h; rw [← h, Nat.eq_of_beq_eq_true e]; exact List.mem_cons_self
    | false => rw [e] at h; exact List.mem_cons_of_mem _ (find_mem h)
def env (ty : List (Nat × TI)) (eqs : List (Nat × EqC)) (cs : List (Nat × Ctr)) : Env := { ty := ty, ctr := find cs, eqs := find eqs }
def AllC (P : Program) : List (Nat × Ctr) → Prop
  | [] => True
  | (g, c) :: r => CtrSound P g c ∧ AllC P r
def AllE (P : Program) : List (Nat × EqC) → Prop
  | [] => True
  | (g, c) :: r => EqSound P g c ∧ AllE P r
theorem AllC_at {P : Program} : ∀ {l : List (Nat × Ctr)}, AllC P l → ∀ g c, (g, c) ∈ l → CtrSound P g c
  | (g, c) :: r, h, g', c', hm => by
    rcases List.mem_cons.1 hm with e | e
    · cases e; exact h.1
    · exact AllC_at h.2 g' c' e
theorem AllE_at {P : Program} : ∀ {l : List (Nat × EqC)}, AllE P l → ∀ g c, (g, c) ∈ l → EqSound P g c
  | (g, c) :: r, h, g', c', hm => by
    rcases List.mem_cons.1 hm with e | e
    · cases e; exact h.1
    · exact AllE_at h.2 g' c' e
/-- what the callees ask of the package's variables is known -/
def AllG (gl : World → Prop) : List (Nat × Ctr) → Prop
  | [] => True
  | (_, c) :: r => (∀ w, gl w → c.gl w) ∧ AllG gl r
def AllGB (gl : World → Prop) : List (Nat × CtrB) → Prop
  | [] => True
  | (_, c) :: r => (∀ w, gl w → c.gl w) ∧ AllGB gl r
theorem AllG_at {gl : World → Prop} : ∀ {l : List (Nat × Ctr)}, AllG gl l → ∀ g c, (g, c) ∈ l → ∀ w, gl w → c.gl w
  | (g, c) :: r, h, g', c', hm => by
    rcases List.mem_cons.1 hm with e | e
    · cases e; exact h.1
    · exact AllG_at h.2 g' c' e
theorem AllGB_at {gl : World → Prop} : ∀ {l : List (Nat × CtrB)}, AllGB gl l → ∀ g c, (g, c) ∈ l → ∀ w, gl w → c.gl w
  | (g, c) :: r, h, g', c', hm => by
    rcases List.mem_cons.1 hm with e | e
    · cases e; exact h.1
    · exact AllGB_at h.2 g' c' e
theorem env_ok {P : Program} {ty : List (Nat × TI)} {eqs : List (Nat × EqC)} {cs : List (Nat × Ctr)} (ht : tysB P ty = true) (he : AllE P eqs) (hc : AllC P cs) (hg : AllG (fun _ => True) cs := by repeat (first | exact True.intro | refine ⟨fun _ _ => True.intro, ?_⟩)) : EnvOk P (env ty eqs cs) :=
  ⟨fun t c h => AllE_at he t c (find_mem h), tysB_ok ht, fun g c h => AllC_at hc g c (find_mem h), fun _ _ h => (by cases h), fun g c h => AllG_at hg g c (find_mem h), fun _ _ h => (by cases h)⟩
def fsts {α : Type _} : List (Nat × α) → List Nat
  | [] => []
  | (k, _) :: r => k :: fsts r
def vecs : List Nat → List Nat → List Nat
  | [], l => l
  | d :: r, l => Nat.add 1000000 d :: vecs r l
/-- variables that no call changes: loads through the temporaries that got their addresses may change places with calls -/
def quiets : List Nat → List Nat → List Nat
  | [], l => l
  | d :: r, l => Nat.add 500000 d :: Nat.add 700000 d :: quiets r l
/-- regions ahead of which a state of one's own choice stands -/
def cuts : List Nat → List Nat → List Nat
  | [], l => l
  | d :: r, l => Nat.add 900000 d :: cuts r l
/-- with functions that change variables; vec: the temporaries that get rows that may be written, or calls that freeze; qu: quiet variables -/
def envB (ty : List (Nat × TI)) (eqs : List (Nat × EqC)) (cs : List (Nat × Ctr)) (bs : List (Nat × CtrB)) (vec : List Nat := []) (gl : World → Prop := fun _ => True) (qu : List Nat := []) (cut : List Nat := []) (sq : List Nat := []) : Env := { ty := ty, ctr := find cs, eqs := find eqs, ctrB := find bs, bs := cuts cut (quiets qu (vecs vec (sq ++ fsts bs))), gl := gl }
def AllB (P : Program) : List (Nat × CtrB) → Prop
  | [] => True
  | (g, c) :: r => CtrBSound P g c ∧ AllB P r
theorem AllB_at {P : Program} : ∀ {l : List (Nat × CtrB)}, AllB P l → ∀ g c, (g, c) ∈ l → CtrBSound P g c
  | (g, c) :: r, h, g', c', hm => by
    rcases List.mem_cons.1 hm with e | e
    · cases e; exact h.1
    · exact AllB_at h.2 g' c' e
theorem env_okB {P : Program} {ty : List (Nat × TI)} {eqs : List (Nat × EqC)} {cs : List (Nat × Ctr)} {bs : List (Nat × CtrB)} (ht : tysB P ty = true) (he : AllE P eqs) (hc : AllC P cs) (hb : AllB P bs) (vec : List Nat := []) (gl : World → Prop := fun _ => True) (qu : List Nat := []) (cut : List Nat := []) (sq : List Nat := [])
    (hg : AllG gl cs := by repeat (first | exact True.intro | refine ⟨fun _ h => (by first | exact True.intro | exact h | exact h.1 | exact h.2 | exact ⟨h.1.1, h.2⟩), ?_⟩)) (hgb : AllGB gl bs := by repeat (first | exact True.intro | refine ⟨fun _ h => (by first | exact True.intro | exact h | exact h.1 | exact h.2 | exact ⟨h.1.1, h.2⟩), ?_⟩)) : EnvOk P (envB ty eqs cs bs vec gl qu cut sq) :=
  ⟨fun t c h => AllE_at he t c (find_mem h), tysB_ok ht, fun g c h => AllC_at hc g c (find_mem h), fun g c h => AllB_at hb g c (find_mem h), fun g c h => AllG_at hg g c (find_mem h), fun g c h => AllGB_at hgb g c (find_mem h)⟩

/-! ### 3. A law -/
def cellsH (w : World) : HM := fun b o => w.cell? ⟨b, o, none⟩
theorem law_of_ctr {P : Program} {g : Nat} {c : Ctr} (h : CtrSound P g c) (x : c.A) (hd : c.dom x) (ht : c.res x 0 = .tt) {vs : Array Value} {w : World}
    (hn : vs.size = (c.enc x).length) (hg : ∀ j, j < (c.enc x).length → G (cellsH w) noB noT (at' (c.enc x) j .junk) (vs.getD j undef)) (hgl : ∀ w', Sealed (cellsH w) w' → Shaped w w' → c.gl w' := by intro _ _ _; exact True.intro) :
    Calls P g vs w fun e w' => e = .returned (.bool true) ∧ Below w.heap.size w w' := by
  refine (h.2 x (cellsH w) w vs 0 hd (fun b o v e => e) hgl hn hg).mono ?_
  rintro e w' ⟨v, H', T', rfl, hb, -, -, -, -, hv, -⟩
  rw [ht] at hv
  cases hv
  exact ⟨rfl, hb⟩
abbrev I (n : Int) : SV := .val (.int .i64 n)
abbrev S (s : ByteArray) : SV := .val (.string s)
abbrev B (b : Bool) : SV := .val (.bool b)
end Go.Proofs.YtimhbimpaiiceaaDoor.Ax
