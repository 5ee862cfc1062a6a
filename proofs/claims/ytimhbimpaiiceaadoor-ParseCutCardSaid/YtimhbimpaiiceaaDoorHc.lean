/- Layer parse: ParseCut. -/
import Derived.Test.YtimhbimpaiiceaaDoorHa
set_option linter.unusedVariables false
set_option linter.unusedSimpArgs false
namespace Go.Proofs.YtimhbimpaiiceaaDoor.Ax
open Go Go.RowKit
namespace Rs
def rem (r : Rs) : List T3 := (r.L.drop r.i).map s3
/-- both are wrong alike, or what is left of the first is what is left of the second and X behind it -/
def Rel (X : List T3) (r s : Rs) : Prop := r.e = s.e ∧ (r.e = 0 → rem r = rem s ++ X)
def Halt (s : Rs) : Prop := (s.e = 0 ∧ s.L.length ≤ s.i) ∨ (s.e = 4 ∧ s.at' = s.n)
def Out (X : List T3) {α : Type} (a b : α × Rs) : Prop := (a.1 = b.1 ∧ Rel X a.2 b.2) ∨ (X ≠ [] ∧ Halt b.2)
def OutR (X : List T3) (a b : Rs) : Prop := Rel X a b ∨ (X ≠ [] ∧ Halt b)
theorem rem_nil {r : Rs} : rem r = [] ↔ r.L.length ≤ r.i := by simp [rem]
theorem rem_cons {r : Rs} {t : T3} {l : List T3} (h : rem r = t :: l) : r.i < r.L.length ∧ s3 (r.L.getD r.i tok0) = t ∧ rem r.step = l := by
  have hi : r.i < r.L.length := Nat.lt_of_not_le fun c => by rw [rem_nil.2 c] at h; cases h
  unfold rem at h
  rw [List.drop_eq_getElem_cons hi, List.map_cons] at h
  injection h with h1 h2
  refine ⟨hi, ?_, h2⟩
  have hg : r.L.getD r.i tok0 = r.L[r.i] := by simp [List.getD, hi]
  rw [hg]; exact h1
theorem look {X : List T3} {r s : Rs} (h : Rel X r s) : (X ≠ [] ∧ s.e = 0 ∧ s.L.length ≤ s.i) ∨ s3 r.next = s3 s.next := by
  by_cases he : r.e = 0
  · have hs : s.e = 0 := h.1 ▸ he
    have hr := h.2 he
    cases hm : rem s with
    | nil =>
      have hi := rem_nil.1 hm
      by_cases hX : X = []
      · right
        rw [hm, hX] at hr
        have hj := rem_nil.1 hr
        rw [next_none (fun c => by omega), next_none (fun c => by omega)]
      · exact .inl ⟨hX, hs, hi⟩
    | cons t l =>
      rw [hm] at hr
      obtain ⟨h1, h2, h3⟩ := rem_cons hm
      obtain ⟨k1, k2, k3⟩ := rem_cons (show rem r = t :: (l ++ X) from hr)
      right
      rw [next_some ⟨he, k1⟩, next_some ⟨hs, h1⟩, h2, k2]
  · right
    have hs : ¬ s.e = 0 := h.1 ▸ he
    rw [next_none (fun c => he c.1), next_none (fun c => hs c.1)]
theorem nx1 {r s : Rs} (h : s3 r.next = s3 s.next) : r.next.1 = s.next.1 := by have := congrArg Prod.fst h; exact this
theorem nx2 {r s : Rs} (h : s3 r.next = s3 s.next) : r.next.2.1 = s.next.2.1 := by have := congrArg (fun x => x.2.1) h; exact this
theorem nx3 {r s : Rs} (h : s3 r.next = s3 s.next) : r.next.2.2.1 = s.next.2.2.1 := by have := congrArg (fun x => x.2.2) h; exact this
theorem is_eq {r s : Rs} (h : s3 r.next = s3 s.next) (w : ByteArray) : r.is w = s.is w := by unfold is; rw [nx2 h]
theorem free_eq {r s : Rs} (h : s3 r.next = s3 s.next) : r.free = s.free := by unfold free; rw [nx1 h, nx2 h]
theorem freshV_eq {r s : Rs} (h : s3 r.next = s3 s.next) : r.freshV = s.freshV := by unfold freshV; rw [free_eq h, nx2 h]
theorem numOk_eq {r s : Rs} (h : s3 r.next = s3 s.next) (a b : Int) : r.numOk a b = s.numOk a b := by unfold numOk; rw [nx1 h, nx3 h]
theorem numV_eq {r s : Rs} (h : s3 r.next = s3 s.next) (a b : Int) : r.numV a b = s.numV a b := by unfold numV; rw [numOk_eq h, nx3 h]
theorem isOp_eq {r s : Rs} (h : s3 r.next = s3 s.next) : r.isOp = s.isOp := by unfold isOp; rw [nx1 h, nx2 h]
theorem step_rel {X : List T3} {r s : Rs} (h : Rel X r s) (k : s.e = 0 ∧ s.i < s.L.length) : Rel X r.step s.step := by
  refine ⟨h.1, fun he => ?_⟩
  have hr := h.2 he
  cases hm : rem s with
  | nil => have := rem_nil.1 hm; omega
  | cons t l =>
    rw [hm] at hr
    rw [(rem_cons hm).2.2, (rem_cons (show rem r = t :: (l ++ X) from hr)).2.2]
theorem fail_rel {X : List T3} {r s : Rs} (h : Rel X r s) {e : Int} (he : e ≠ 0) : Rel X (r.fail e) (s.fail e) := by
  by_cases h0 : r.e = 0
  · have h1 : s.e = 0 := h.1 ▸ h0
    have e1 : (r.fail e).e = e := by unfold fail; rw [if_pos h0]
    have e2 : (s.fail e).e = e := by unfold fail; rw [if_pos h1]
    exact ⟨by rw [e1, e2], fun c => absurd (e1 ▸ c) he⟩
  · have h1 : ¬ s.e = 0 := h.1 ▸ h0
    have e1 : r.fail e = r := by unfold fail; rw [if_neg h0]
    have e2 : s.fail e = s := by unfold fail; rw [if_neg h1]
    rw [e1, e2]; exact h
theorem room_rel {X : List T3} {r s : Rs} (h : Rel X r s) (a b : Int) : Rel X (r.room a b) (s.room a b) := by
  unfold room; split
  · exact fail_rel h (by decide)
  · exact h
theorem halt_next {s : Rs} (h : Halt s) : s.next = tok0 := next_none fun c => by
  rcases h with h | h
  · omega
  · have := c.1; have := h.1; omega
theorem halt_is {s : Rs} (h : Halt s) (w : ByteArray) : s.is w = false := by
  cases hc : s.is w with
  | false => rfl
  | true =>
    have := is_at hc
    rcases h with h | h
    · omega
    · have := h.1; omega
theorem halt_free {s : Rs} (h : Halt s) : s.free = false := by unfold free; rw [halt_next h]; rfl
theorem halt_num {s : Rs} (h : Halt s) (a b : Int) : s.numOk a b = false := by
  unfold numOk; rw [halt_next h]; exact decide_eq_false fun c => by have := c.1; revert this; decide
theorem halt_op {s : Rs} (h : Halt s) : s.isOp = false := by unfold isOp; rw [halt_next h]; rfl
theorem halt_fail {s : Rs} (h : Halt s) : Halt (s.fail 4) := by
  unfold fail
  split
  · rename_i h0
    rcases h with h | h
    · right; exact ⟨rfl, by show (if _ then _ else _) = _; rw [if_neg (by have := h.2; show ¬ s.i < s.L.length; omega)]⟩
    · exact absurd h0 (by rw [h.1]; decide)
  · exact h
theorem halt_want {s : Rs} (h : Halt s) (w : ByteArray) : Halt (s.want w) := by unfold want; rw [halt_is h]; exact halt_fail h
theorem halt_fresh {s : Rs} (h : Halt s) : Halt s.fresh := by unfold fresh; rw [halt_free h]; exact halt_fail h
theorem halt_numR {s : Rs} (h : Halt s) (a b : Int) : Halt (s.num a b) := by unfold num; rw [halt_num h]; exact halt_fail h
theorem want_out {X : List T3} {r s : Rs} (h : Rel X r s) (w : ByteArray) : OutR X (r.want w) (s.want w) := by
  rcases look h with k | k
  · exact .inr ⟨k.1, halt_want (.inl k.2) w⟩
  · left
    unfold want
    rw [is_eq k]
    split
    · exact step_rel h (is_at (by assumption))
    · exact fail_rel h (by decide)
theorem fresh_out {X : List T3} {r s : Rs} (h : Rel X r s) : Out X (r.freshV, r.fresh) (s.freshV, s.fresh) := by
  rcases look h with k | k
  · exact .inr ⟨k.1, halt_fresh (.inl k.2)⟩
  · left
    refine ⟨freshV_eq k, ?_⟩
    show Rel X r.fresh s.fresh
    unfold fresh
    rw [free_eq k]
    split
    · exact step_rel h (free_at (by assumption))
    · exact fail_rel h (by decide)
theorem num_out {X : List T3} {r s : Rs} (h : Rel X r s) (a b : Int) : Out X (r.numV a b, r.num a b) (s.numV a b, s.num a b) := by
  rcases look h with k | k
  · exact .inr ⟨k.1, halt_numR (.inl k.2) a b⟩
  · left
    refine ⟨numV_eq k a b, ?_⟩
    show Rel X (r.num a b) (s.num a b)
    unfold num
    rw [numOk_eq k]
    split
    · exact step_rel h (num_at (by assumption))
    · exact fail_rel h (by decide)
theorem Out.bind {X : List T3} {α β : Type} {a b : α × Rs} {c d : β × Rs} (h : Out X a b) (g : a.1 = b.1 → Rel X a.2 b.2 → Out X c d) (k : Halt b.2 → Halt d.2) : Out X c d := by
  rcases h with h | h
  · exact g h.1 h.2
  · exact .inr ⟨h.1, k h.2⟩
theorem OutR.bind {X : List T3} {a b c d : Rs} (h : OutR X a b) (g : Rel X a b → OutR X c d) (k : Halt b → Halt d) : OutR X c d := by
  rcases h with h | h
  · exact g h
  · exact .inr ⟨h.1, k h.2⟩
theorem OutR.bindV {X : List T3} {β : Type} {a b : Rs} {c d : β × Rs} (h : OutR X a b) (g : Rel X a b → Out X c d) (k : Halt b → Halt d.2) : Out X c d := by
  rcases h with h | h
  · exact g h
  · exact .inr ⟨h.1, k h.2⟩
theorem Out.r {X : List T3} {α : Type} {a b : α × Rs} (h : Out X a b) : OutR X a.2 b.2 := h.elim (fun h => .inl h.2) .inr
/-- loops -/
def loop {γ : Type} (C : Rs → Bool) (G : Rs → γ → γ × Rs) : Nat → Rs → γ → γ × Rs
  | 0, r, c => (c, r)
  | f + 1, r, c => if C r then loop C G f (G r c).2 (G r c).1 else (c, r)
structure LoopOk (X : List T3) {γ : Type} (C : Rs → Bool) (G : Rs → γ → γ × Rs) : Prop where
  eq : ∀ {r s : Rs}, s3 r.next = s3 s.next → C r = C s
  now : ∀ {r : Rs}, C r = true → r.e = 0 ∧ r.i < r.L.length
  out : ∀ {r s : Rs} (c : γ), Rel X r s → C s = true → Out X (G r c) (G s c)
  fwd : ∀ {r : Rs} (c : γ), C r = true → Fwd r (G r c).2 ∧ ((G r c).2.e ≠ 0 ∨ r.i < (G r c).2.i)
def Room (f : Nat) (r : Rs) : Prop := r.e = 0 → (rem r).length < f
theorem rem_length (r : Rs) : (rem r).length = r.L.length - r.i := by simp [rem]
theorem room_step {f : Nat} {r s : Rs} (h : Room (f + 1) r) (he : r.e = 0 ∧ r.i < r.L.length) (hf : Fwd r s ∧ (s.e ≠ 0 ∨ r.i < s.i)) : Room f s := fun e => by
  have h1 := h he.1
  rw [rem_length] at h1 ⊢
  have h2 : s.L = r.L := hf.1.L
  have h3 : r.i < s.i := hf.2.resolve_left (fun q => q e)
  have := he.2
  rw [h2]; omega
theorem halt_off {X : List T3} {γ : Type} {C : Rs → Bool} {G : Rs → γ → γ × Rs} (o : LoopOk X C G) {s : Rs} (h : Halt s) : C s = false := by
  cases hc : C s with
  | false => rfl
  | true =>
    have := o.now hc
    rcases h with h | h
    · omega
    · have := h.1; omega
theorem halt_loop {X : List T3} {γ : Type} {C : Rs → Bool} {G : Rs → γ → γ × Rs} (o : LoopOk X C G) (f : Nat) {s : Rs} (h : Halt s) (c : γ) : Halt (loop C G f s c).2 := by
  cases f with
  | zero => exact h
  | succ f => unfold loop; rw [halt_off o h]; exact h
theorem loop_out {X : List T3} {γ : Type} {C : Rs → Bool} {G : Rs → γ → γ × Rs} (o : LoopOk X C G) : ∀ (f g : Nat) (r s : Rs) (c : γ), Rel X r s → Room f r → Room g s → Out X (loop C G f r c) (loop C G g s c)
  | 0, g, r, s, c, h, hf, hg => by
    have he : ¬ r.e = 0 := fun c => by have := hf c; omega
    have hs : ¬ s.e = 0 := h.1 ▸ he
    have e : loop C G g s c = (c, s) := by
      cases g with
      | zero => rfl
      | succ g =>
        unfold loop
        cases hc : C s with
        | false => rfl
        | true => exact absurd (o.now hc).1 hs
    rw [e]; exact .inl ⟨rfl, h⟩
  | f + 1, g, r, s, c, h, hf, hg => by
    rcases look h with q | q
    · exact .inr ⟨q.1, halt_loop o g (.inl q.2) c⟩
    · cases hc : C s with
      | false =>
        have e : loop C G g s c = (c, s) := by
          cases g with
          | zero => rfl
          | succ g => unfold loop; rw [hc]; rfl
        have e2 : loop C G (f + 1) r c = (c, r) := by unfold loop; rw [o.eq q, hc]; rfl
        rw [e, e2]; exact .inl ⟨rfl, h⟩
      | true =>
        have hn := o.now hc
        have hn2 := o.now ((o.eq q).trans hc)
        cases g with
        | zero => have := hg hn.1; omega
        | succ g =>
          have e : loop C G (g + 1) s c = loop C G g (G s c).2 (G s c).1 := by rw [loop, hc]; rfl
          have e2 : loop C G (f + 1) r c = loop C G f (G r c).2 (G r c).1 := by rw [loop, o.eq q, hc]; rfl
          rw [e, e2]
          refine (o.out c h hc).bind (fun h1 h2 => ?_) (fun h => halt_loop o g h _)
          rw [h1]
          exact loop_out o f g _ _ _ h2 (room_step hf hn2 (o.fwd c ((o.eq q).trans hc))) (room_step hg hn (o.fwd c hc))
theorem room_of {a b : Rs} (h : Fwd a b) : Room (a.L.length + 2) b := fun _ => by rw [rem_length, h.L]; omega
/-- names -/
theorem name1_out {X : List T3} {r s : Rs} (h : Rel X r s) (hs : s.e = 0 ∧ s.i < s.L.length) (k : Int) : OutR X (r.name1 k) (s.name1 k) := by
  have hp := step_rel h hs
  unfold name1
  rcases look hp with q | q
  · have hh : Halt s.step := .inl q.2
    rw [halt_free hh]
    exact .inr ⟨q.1, hh⟩
  · rw [free_eq q]
    split
    · exact .inl (room_rel hp _ _)
    · exact .inl hp
theorem namesL_loop : ∀ (f : Nat) (r : Rs) (out : List ByteArray), namesL f r out = loop (fun r => r.is wComma) (fun r out => (out ++ [(r.name1 out.length).freshV], (r.name1 out.length).fresh)) f r out
  | 0, _, _ => rfl
  | f + 1, r, out => by unfold namesL loop; split; exact namesL_loop f _ _; rfl
theorem names_ok (X : List T3) : LoopOk X (fun r => r.is wComma) (fun (r : Rs) (out : List ByteArray) => (out ++ [(r.name1 out.length).freshV], (r.name1 out.length).fresh)) where
  eq h := is_eq h _
  now h := is_at h
  out {r s} c h hc := (name1_out h (is_at hc) c.length).bindV (fun k => (fresh_out k).elim (fun q => .inl ⟨congrArg (fun x => c ++ [x]) q.1, q.2⟩) .inr) halt_fresh
  fwd {r} c hc := ⟨(name1_fwd (is_at hc) _).trans (fresh_fwd _), on_fwd (name1_on r _) (fresh_fwd _)⟩
theorem names_out {X : List T3} {r s : Rs} (h : Rel X r s) : Out X r.names s.names := by
  unfold names
  refine (fresh_out h).bind (fun h1 h2 => ?_) (fun h => ?_)
  · have h1 : r.freshV = s.freshV := h1
    rw [namesL_loop, namesL_loop, h1]
    exact loop_out (names_ok X) _ _ _ _ _ h2 (room_of (fresh_fwd r)) (room_of (fresh_fwd s))
  · rw [namesL_loop]; exact halt_loop (names_ok X) _ h _
theorem halt_rowR {s : Rs} (h : Halt s) : Halt s.rowR := by unfold rowR; rw [halt_is h]; exact h
theorem rowR_out {X : List T3} {r s : Rs} (h : Rel X r s) : OutR X r.rowR s.rowR := by
  rcases look h with q | q
  · exact .inr ⟨q.1, halt_rowR (.inl q.2)⟩
  · unfold rowR
    rw [is_eq q]
    split
    · exact want_out (step_rel h (is_at (by assumption))) _
    · exact .inl h
theorem halt_kind {s : Rs} (h : Halt s) : Halt s.kind := by
  unfold kind; rw [halt_is h, halt_is h]; exact halt_rowR (halt_fresh h)
theorem Out.of {X : List T3} {α : Type} {a b : α} {r s : Rs} (h : a = b) (k : OutR X r s) : Out X (a, r) (b, s) := k.elim (fun q => .inl ⟨h, q⟩) .inr
theorem kind_out {X : List T3} {r s : Rs} (h : Rel X r s) : Out X (r.kindV, r.kind) (s.kindV, s.kind) := by
  rcases look h with q | q
  · exact .inr ⟨q.1, halt_kind (.inl q.2)⟩
  · unfold kindV kind
    rw [is_eq q, is_eq q]
    split
    · exact .inl ⟨rfl, step_rel h (is_at (by assumption))⟩
    · split
      · have hp := step_rel h (is_at (by assumption))
        rcases look hp with k | k
        · exact .inr ⟨k.1, halt_rowR (.inl k.2)⟩
        · rw [is_eq k]; exact .of rfl (rowR_out hp)
      · refine (fresh_out h).bind (fun h1 h2 => ?_) (fun k => halt_rowR k)
        have h1 : r.freshV = s.freshV := h1
        have h2 : Rel X r.fresh s.fresh := h2
        rcases look h2 with k | k
        · exact .inr ⟨k.1, halt_rowR (.inl k.2)⟩
        · rw [is_eq k, h1]; exact .of rfl (rowR_out h2)
theorem param1_out {X : List T3} {r s : Rs} (h : Rel X r s) (hs : s.e = 0 ∧ s.i < s.L.length) (k : Int) : OutR X (r.param1 k) (s.param1 k) := by
  have hp := step_rel h hs
  unfold param1
  rcases look hp with q | q
  · have hh : Halt s.step := .inl q.2
    rw [halt_free hh, halt_is hh, halt_is hh]
    exact .inr ⟨q.1, hh⟩
  · rw [free_eq q, is_eq q, is_eq q]
    split
    · exact .inl (room_rel hp _ _)
    · exact .inl hp
abbrev paG (r : Rs) (out : List Ty) : List Ty × Rs := (out ++ [(r.param1 out.length).kindV], (r.param1 out.length).kind)
theorem paramsL_loop : ∀ (f : Nat) (r : Rs) (out : List Ty), paramsL f r out = loop (fun r => r.is wComma) paG f r out
  | 0, _, _ => rfl
  | f + 1, r, out => by unfold paramsL loop; split; exact paramsL_loop f _ _; rfl
theorem pa_ok (X : List T3) : LoopOk X (fun r => r.is wComma) paG where
  eq h := is_eq h _
  now h := is_at h
  out {r s} c h hc := (param1_out h (is_at hc) c.length).bindV (fun k => (kind_out k).elim (fun q => .inl ⟨congrArg (fun x => c ++ [x]) q.1, q.2⟩) .inr) halt_kind
  fwd {r} c hc := ⟨(param1_fwd (is_at hc) _).trans (kind_fwd _), on_fwd (param1_on r _) (kind_fwd _)⟩
theorem halt_params {s : Rs} (h : Halt s) : Halt s.params.2 := by
  unfold params
  rw [halt_is (halt_want h _)]
  show Halt ((paramsL _ _ _).2.want wRp)
  rw [paramsL_loop]
  exact halt_want (halt_loop (pa_ok []) _ (halt_kind (halt_want h _)) _) _
theorem params_out {X : List T3} {r s : Rs} (h : Rel X r s) : Out X r.params s.params := by
  refine (want_out h wLp).bindV (fun k => ?_) (fun k => ?_)
  · rcases look k with q | q
    · right
      refine ⟨q.1, ?_⟩
      have hh : Halt (s.want wLp) := .inl q.2
      unfold params
      rw [halt_is hh]
      show Halt ((paramsL _ _ _).2.want wRp)
      rw [paramsL_loop]
      exact halt_want (halt_loop (pa_ok []) _ (halt_kind hh) _) _
    · unfold params
      rw [is_eq q]
      split
      · exact .inl ⟨rfl, step_rel k (is_at (by assumption))⟩
      · refine (kind_out k).bind (fun h1 h2 => ?_) (fun k => ?_)
        · have h1 : (r.want wLp).kindV = (s.want wLp).kindV := h1
          rw [paramsL_loop, paramsL_loop, h1]
          refine (loop_out (pa_ok X) _ _ _ _ _ h2 (room_of ((want_fwd r _).trans (kind_fwd _))) (room_of ((want_fwd s _).trans (kind_fwd _)))).bind (fun h3 h4 => ?_) (fun k => halt_want k _)
          exact .of h3 (want_out h4 _)
        · show Halt ((paramsL _ _ _).2.want wRp)
          rw [paramsL_loop]
          exact halt_want (halt_loop (pa_ok []) _ k _) _
  · unfold params
    rw [halt_is k]
    show Halt ((paramsL _ _ _).2.want wRp)
    rw [paramsL_loop]
    exact halt_want (halt_loop (pa_ok []) _ (halt_kind k) _) _
theorem in2_out {X : List T3} {r s : Rs} (h : Rel X r s) (o : Int) : Out X (r.in2V o, r.in2 o) (s.in2V o, s.in2 o) := by
  unfold in2 in2V
  split
  · exact num_out h _ _
  · exact .inl ⟨rfl, h⟩
theorem in3_out {X : List T3} {r s : Rs} (h : Rel X r s) (b : Bool) : Out X (r.in3V b, r.in3 b) (s.in3V b, s.in3 b) := by
  unfold in3 in3V
  split
  · exact fresh_out h
  · exact .inl ⟨rfl, h⟩
theorem halt_in2 {s : Rs} (h : Halt s) (o : Int) : Halt (s.in2 o) := by
  unfold in2; split
  · exact halt_numR h _ _
  · exact h
theorem halt_in3 {s : Rs} (h : Halt s) (b : Bool) : Halt (s.in3 b) := by
  unfold in3; split
  · exact halt_fresh h
  · exact h
theorem halt_instr {s : Rs} (o : Int) (h : Halt s) : Halt ((s.inArgs o).want wSemi) := halt_want (halt_in3 (halt_in3 (halt_in2 h o) _) _) _
theorem inArgs_out {X : List T3} {r s : Rs} (h : Rel X r s) (o : Int) : Out X (r.inVal o, r.inArgs o) (s.inVal o, s.inArgs o) := by
  refine (in2_out h o).bind (fun h1 h2 => ?_) (fun k => halt_in3 (halt_in3 k _) _)
  refine (in3_out h2 (decide (namesF o > 0))).bind (fun h3 h4 => ?_) (fun k => halt_in3 k _)
  refine (in3_out h4 (decide (namesF o > 1))).bind (fun h5 h6 => ?_) (fun k => k)
  refine .inl ⟨?_, h6⟩
  have h1 : r.in2V o = s.in2V o := h1
  have h3 : (r.in2 o).in3V (decide (namesF o > 0)) = (s.in2 o).in3V (decide (namesF o > 0)) := h3
  have h5 : ((r.in2 o).in3 (decide (namesF o > 0))).in3V (decide (namesF o > 1)) = ((s.in2 o).in3 (decide (namesF o > 0))).in3V (decide (namesF o > 1)) := h5
  show r.inVal o = s.inVal o
  unfold inVal
  rw [h1, h3, h5]
theorem instr_out {X : List T3} {r s : Rs} (h : Rel X r s) (hs : s.isOp = true) (k : Int) : Out X (r.instr k) (s.instr k) := by
  rcases look h with q | q
  · exact absurd hs (by rw [halt_op (.inl q.2)]; decide)
  · unfold instr in1
    rw [nx2 q]
    refine (want_out (room_rel h _ _) _).bindV (fun k => ?_) (fun k => halt_instr _ k)
    refine (inArgs_out k _).bind (fun h1 h2 => ?_) (fun k => halt_want k _)
    exact .of h1 (want_out h2 _)
abbrev coG (r : Rs) (out : List Ins) : List Ins × Rs := (out ++ [(r.instr out.length).1], (r.instr out.length).2)
theorem codeL_loop : ∀ (f : Nat) (r : Rs) (out : List Ins), codeL f r out = loop isOp coG f r out
  | 0, _, _ => rfl
  | f + 1, r, out => by unfold codeL loop; split; exact codeL_loop f _ _; rfl
theorem co_ok (X : List T3) : LoopOk X isOp coG where
  eq h := isOp_eq h
  now h := isOp_at h
  out {r s} c h hc := (instr_out h hc c.length).elim (fun q => .inl ⟨congrArg (fun x => c ++ [x]) q.1, q.2⟩) .inr
  fwd {r} c hc := ⟨instr_fwd r _, instr_on r _⟩
abbrev caG (r : Rs) (out : List Cat) : List Cat × Rs := (out ++ [(r.ca1 out.length).catV], (r.ca1 out.length).catR)
theorem catchL_loop : ∀ (f : Nat) (r : Rs) (out : List Cat), catchL f r out = loop (fun r => r.is wCatch) caG f r out
  | 0, _, _ => rfl
  | f + 1, r, out => by unfold catchL loop; split; exact catchL_loop f _ _; rfl
theorem halt_cat {s : Rs} (h : Halt s) : Halt s.catR := halt_want (halt_numR (halt_numR (halt_numR (halt_fresh h) _ _) _ _) _ _) _
theorem cat_out {X : List T3} {r s : Rs} (h : Rel X r s) : Out X (r.catV, r.catR) (s.catV, s.catR) := by
  refine (fresh_out h).bind (fun h1 h2 => ?_) (fun k => halt_want (halt_numR (halt_numR (halt_numR k _ _) _ _) _ _) _)
  refine (num_out h2 0 48).bind (fun h3 h4 => ?_) (fun k => halt_want (halt_numR (halt_numR k _ _) _ _) _)
  refine (num_out h4 0 48).bind (fun h5 h6 => ?_) (fun k => halt_want (halt_numR k _ _) _)
  refine (num_out h6 0 48).bind (fun h7 h8 => ?_) (fun k => halt_want k _)
  refine .of ?_ (want_out h8 _)
  have h1 : r.freshV = s.freshV := h1
  have h3 : r.fresh.numV 0 48 = s.fresh.numV 0 48 := h3
  have h5 : (r.fresh.num 0 48).numV 0 48 = (s.fresh.num 0 48).numV 0 48 := h5
  have h7 : ((r.fresh.num 0 48).num 0 48).numV 0 48 = ((s.fresh.num 0 48).num 0 48).numV 0 48 := h7
  unfold catV
  rw [h1, h3, h5, h7]
theorem ca_ok (X : List T3) : LoopOk X (fun r => r.is wCatch) caG where
  eq h := is_eq h _
  now h := is_at h
  out {r s} c h hc := ((want_out (room_rel h _ _) wCatch).bindV (fun k => cat_out k) (fun k => halt_cat k)).elim (fun q => .inl ⟨congrArg (fun x => c ++ [x]) q.1, q.2⟩) .inr
  fwd {r} c hc := ⟨(ca1_fwd r _).trans (catR_fwd _), catch_on r _⟩
theorem halt_code {s : Rs} (h : Halt s) (f : Nat) (out : List Ins) : Halt (codeL f s out).2 := by rw [codeL_loop]; exact halt_loop (co_ok []) f h out
theorem halt_catch {s : Rs} (h : Halt s) (f : Nat) (out : List Cat) : Halt (catchL f s out).2 := by rw [catchL_loop]; exact halt_loop (ca_ok []) f h out
theorem halt_bo1 {s : Rs} (h : Halt (s.want wLocals)) : Halt s.body := by
  have h1 : Halt s.bo1 := halt_want (halt_numR h _ _) _
  exact halt_want (halt_catch (halt_code h1 _ _) _ _) _
theorem body_out {X : List T3} {r s : Rs} (h : Rel X r s) {m n : Meth} (hm : m = n) : Out X (r.bodyV m, r.body) (s.bodyV n, s.body) := by
  subst hm
  refine (want_out h wLocals).bindV (fun k => ?_) (fun k => halt_bo1 k)
  refine (num_out k 0 8).bind (fun h1 h2 => ?_) (fun k => halt_want (halt_catch (halt_code (halt_want k _) _ _) _ _) _)
  refine (want_out h2 wLc).bindV (fun h3 => ?_) (fun k => halt_want (halt_catch (halt_code k _ _) _ _) _)
  have c1 : Out X r.boCode s.boCode := by
    unfold boCode
    rw [codeL_loop, codeL_loop]
    exact loop_out (co_ok X) _ _ _ _ _ h3 (room_of (bo1_fwd r)) (room_of (bo1_fwd s))
  refine c1.bind (fun h4 h5 => ?_) (fun k => halt_want (halt_catch k _ _) _)
  have c2 : Out X r.boCat s.boCat := by
    unfold boCat
    rw [catchL_loop, catchL_loop]
    exact loop_out (ca_ok X) _ _ _ _ _ h5 (room_of (boCode_fwd r)) (room_of (boCode_fwd s))
  refine c2.bind (fun h6 h7 => ?_) (fun k => halt_want k _)
  refine .of ?_ (want_out h7 _)
  have h1 : (r.want wLocals).numV 0 8 = (s.want wLocals).numV 0 8 := h1
  unfold bodyV
  rw [h1, h4, h6]
theorem halt_mf {s : Rs} (h : Halt s) : Halt s.mfR := halt_want (halt_kind (halt_want (halt_fresh h) _)) _
theorem mf_out {X : List T3} {r s : Rs} (h : Rel X r s) (b : Bool) : Out X (r.mfV b, r.mfR) (s.mfV b, s.mfR) := by
  refine (fresh_out h).bind (fun h1 h2 => ?_) (fun k => halt_want (halt_kind (halt_want k _)) _)
  refine (want_out h2 wColon).bindV (fun h3 => ?_) (fun k => halt_want (halt_kind k) _)
  refine (kind_out h3).bind (fun h4 h5 => ?_) (fun k => halt_want k _)
  refine .of ?_ (want_out h5 _)
  have h1 : r.freshV = s.freshV := h1
  have h4 : (r.fresh.want wColon).kindV = (s.fresh.want wColon).kindV := h4
  unfold mfV
  rw [h1, h4]
theorem halt_mm1 {s : Rs} (k : Halt s.mm1) : Halt s.mmR := by
  unfold mmR
  rw [halt_is k]
  exact halt_bo1 (halt_want k _)
theorem mm_out {X : List T3} {r s : Rs} (h : Rel X r s) (b : Bool) : Out X (r.mmV b, r.mmR) (s.mmV b, s.mmR) := by
  refine (fresh_out h).bind (fun h1 h2 => ?_) (fun k => halt_mm1 (halt_kind (halt_params k)))
  refine (params_out h2).bind (fun h3 h4 => ?_) (fun k => halt_mm1 (halt_kind k))
  refine (kind_out h4).bind (fun h5 h6 => ?_) (fun k => halt_mm1 k)
  have h1 : r.freshV = s.freshV := h1
  have h5 : r.fresh.params.2.kindV = s.fresh.params.2.kindV := h5
  have h6 : Rel X r.mm1 s.mm1 := h6
  rcases look h6 with q | q
  · exact .inr ⟨q.1, halt_mm1 (.inl q.2)⟩
  · have hv : r.mm1V b = s.mm1V b := by unfold mm1V; rw [h1, h3, h5, is_eq q]
    unfold mmV mmR
    rw [is_eq q]
    split
    · exact .inl ⟨hv, step_rel h6 (is_at (by assumption))⟩
    · exact body_out h6 hv
theorem halt_member {s : Rs} (h : Halt s) (c : Cls) : (s.member c).2.e = 4 ∧ (s.member c).2.at' = (s.member c).2.n := by
  have e : (s.member c).2 = s.fail 4 := by unfold member; rw [halt_next h]; rfl
  rw [e]
  have := halt_fail h
  rcases this with q | q
  · exfalso
    have h1 := q.1
    unfold fail at h1
    split at h1
    · exact absurd h1 (show ¬ (4 : Int) = 0 by decide)
    · exact absurd h1 (by assumption)
  · exact q
theorem memF_out {X : List T3} {r s : Rs} (h : Rel X r s) (q : s3 r.next = s3 s.next) (k : Int) : OutR X (r.memF k) (s.memF k) := by
  unfold memF
  rw [nx2 q]
  exact want_out (room_rel h _ _) _
theorem member_out {X : List T3} {r s : Rs} (h : Rel X r s) (c : Cls) : Out X (r.member c) (s.member c) := by
  rcases look h with q | q
  · exact .inr ⟨q.1, .inr (halt_member (.inl q.2) c)⟩
  · unfold member
    rw [nx2 q]
    split
    · refine (memF_out h q _).bindV (fun k => ?_) (fun k => halt_mf k)
      exact (mf_out k (decide (s.next.2.1 = wStatic))).elim (fun p => .inl ⟨congrArg (fun x => (⟨c.name, c.iface, c.super, c.ifaces, c.fields ++ [x], c.methods⟩ : Cls)) p.1, p.2⟩) .inr
    · split
      · refine (memF_out h q _).bindV (fun k => ?_) (fun k => halt_mm1 (halt_kind (halt_params (halt_fresh k))))
        exact (mm_out k (decide (s.next.2.1 = wFunction))).elim (fun p => .inl ⟨congrArg (fun x => (⟨c.name, c.iface, c.super, c.ifaces, c.fields, c.methods ++ [x]⟩ : Cls)) p.1, p.2⟩) .inr
      · exact .inl ⟨rfl, fail_rel h (by decide)⟩
/-- as Out, but never at the end without an error -/
def OutB (X : List T3) {α : Type} (a b : α × Rs) : Prop := (a.1 = b.1 ∧ Rel X a.2 b.2) ∨ (X ≠ [] ∧ b.2.e = 4 ∧ b.2.at' = b.2.n)
theorem clsL_stop (g : Nat) {s : Rs} (h : s.e ≠ 0) (c : Cls) : clsL g s c = (c, s) := by
  cases g with
  | zero => rfl
  | succ g => unfold clsL; rw [if_neg h]
theorem clsL_halt (g : Nat) {s : Rs} (h : Halt s) (hg : Room g s) (c : Cls) : (clsL g s c).2.e = 4 ∧ (clsL g s c).2.at' = (clsL g s c).2.n := by
  rcases h with h | h
  · cases g with
    | zero => have := hg h.1; omega
    | succ g =>
      have hm := halt_member (.inl h) c
      have e : clsL (g + 1) s c = clsL g (s.member c).2 (s.member c).1 := by rw [clsL, if_pos h.1, halt_is (.inl h)]; rfl
      rw [e, clsL_stop _ (by rw [hm.1]; decide)]
      exact hm
  · rw [clsL_stop _ (by rw [h.1]; decide)]; exact h
theorem clsL_out {X : List T3} : ∀ (f g : Nat) (r s : Rs) (c : Cls), Rel X r s → Room f r → Room g s → OutB X (clsL f r c) (clsL g s c)
  | 0, g, r, s, c, h, hf, hg => by
    have he : r.e ≠ 0 := fun c => by have := hf c; omega
    have hs : s.e ≠ 0 := h.1 ▸ he
    rw [clsL_stop g hs, clsL_stop 0 he]
    exact .inl ⟨rfl, h⟩
  | f + 1, g, r, s, c, h, hf, hg => by
    rcases look h with q | q
    · exact .inr ⟨q.1, clsL_halt g (.inl q.2) hg c⟩
    · by_cases he : s.e = 0
      · have hr : r.e = 0 := h.1.trans he
        cases g with
        | zero => have := hg he; omega
        | succ g =>
          unfold clsL
          rw [if_pos hr, if_pos he, is_eq q]
          by_cases hc : s.is wRc = true
          · rw [if_pos hc, if_pos hc]; exact .inl ⟨rfl, step_rel h (is_at hc)⟩
          · rw [if_neg hc, if_neg hc]
            have rf : ∀ (f : Nat) (r : Rs), r.e = 0 → Room (f + 1) r → Room f (r.member c).2 := fun f r h0 hf => by
              by_cases hi : r.i < r.L.length
              · exact room_step hf ⟨h0, hi⟩ ⟨member_fwd r c, member_on r c⟩
              · intro e
                have := halt_member (s := r) (.inl ⟨h0, by omega⟩) c
                rw [this.1] at e; exact absurd e (by decide)
            rcases member_out h c with p | p
            · rw [p.1]
              exact clsL_out f g _ _ _ p.2 (rf f r hr hf) (rf g s he hg)
            · exact .inr ⟨p.1, clsL_halt g p.2 (rf g s he hg) _⟩
      · have hr : r.e ≠ 0 := fun c => he (h.1 ▸ c)
        rw [clsL_stop _ he, clsL_stop _ hr]; exact .inl ⟨rfl, h⟩
theorem halt_ex1 {s : Rs} (h : Halt s) (b : Bool) : Halt (s.ex1 b).2 := by unfold ex1; rw [halt_is h]; exact h
theorem halt_ex2 {s : Rs} (h : Halt s) (b : Bool) (l : List ByteArray) : Halt (s.ex2 b l).2 := by unfold ex2; rw [halt_is h, Bool.and_false]; exact h
theorem ex1_out {X : List T3} {r s : Rs} (h : Rel X r s) (b : Bool) : Out X (r.ex1 b) (s.ex1 b) := by
  rcases look h with q | q
  · exact .inr ⟨q.1, halt_ex1 (.inl q.2) b⟩
  · unfold ex1
    rw [is_eq q]
    split
    · have hp := step_rel h (is_at (by assumption))
      split
      · exact (names_out hp).elim (fun p => .inl ⟨congrArg (fun x => (noS, x)) p.1, p.2⟩) .inr
      · exact (fresh_out hp).elim (fun p => .inl ⟨congrArg (fun x => (x, [])) p.1, p.2⟩) .inr
    · exact .inl ⟨rfl, h⟩
theorem ex2_out {X : List T3} {r s : Rs} (h : Rel X r s) (b : Bool) (l : List ByteArray) : Out X (r.ex2 b l) (s.ex2 b l) := by
  rcases look h with q | q
  · exact .inr ⟨q.1, halt_ex2 (.inl q.2) b l⟩
  · unfold ex2
    rw [is_eq q]
    split
    · rename_i hc
      exact names_out (step_rel h (is_at (Bool.and_eq_true _ _ ▸ hc).2))
    · exact .inl ⟨rfl, h⟩
theorem OutR.bindB {X : List T3} {β : Type} {a b : Rs} {c d : β × Rs} (h : OutR X a b) (g : Rel X a b → OutB X c d) (k : Halt b → d.2.e = 4 ∧ d.2.at' = d.2.n) : OutB X c d := by
  rcases h with h | h
  · exact g h
  · exact .inr ⟨h.1, k h.2⟩
theorem Out.bindB {X : List T3} {α β : Type} {a b : α × Rs} {c d : β × Rs} (h : Out X a b) (g : a.1 = b.1 → Rel X a.2 b.2 → OutB X c d) (k : Halt b.2 → d.2.e = 4 ∧ d.2.at' = d.2.n) : OutB X c d := by
  rcases h with h | h
  · exact g h.1 h.2
  · exact .inr ⟨h.1, k h.2⟩
theorem cl1_out {X : List T3} {r s : Rs} (h : Rel X r s) (q : s3 r.next = s3 s.next) (k : Int) : OutR X (r.cl1 k) (s.cl1 k) := by
  unfold cl1
  rw [is_eq q, is_eq q]
  refine want_out ?_ _
  split
  · exact room_rel h _ _
  · exact h
theorem halt_class {s : Rs} (k : Int) (h : Halt (s.clR k)) : (s.class' k).2.e = 4 ∧ (s.class' k).2.at' = (s.class' k).2.n := by
  unfold class'
  exact clsL_halt _ h (room_of (clR_fwd s k)) _
theorem class_out {X : List T3} {r s : Rs} (h : Rel X r s) (k : Int) : OutB X (r.class' k) (s.class' k) := by
  rcases look h with q | q
  · refine .inr ⟨q.1, halt_class k ?_⟩
    have hh : Halt s := .inl q.2
    have h1 : Halt (s.cl1 k) := by unfold cl1; rw [halt_is hh, halt_is hh]; exact halt_want hh _
    exact halt_want (halt_ex2 (halt_ex1 (halt_fresh h1) _) _ _) _
  · have w := is_eq q wInterface
    refine (cl1_out h q k).bindB (fun h1 => ?_) (fun p => halt_class k (halt_want (halt_ex2 (halt_ex1 (halt_fresh p) _) _ _) _))
    refine (fresh_out h1).bindB (fun h2 h3 => ?_) (fun p => halt_class k (halt_want (halt_ex2 (halt_ex1 p _) _ _) _))
    refine (ex1_out h3 (s.is wInterface)).bindB (fun h4 h5 => ?_) (fun p => halt_class k (halt_want (halt_ex2 p _ _) _))
    have h4 : ((r.cl1 k).fresh.ex1 (s.is wInterface)).1 = ((s.cl1 k).fresh.ex1 (s.is wInterface)).1 := h4
    have h5 : Rel X ((r.cl1 k).fresh.ex1 (s.is wInterface)).2 ((s.cl1 k).fresh.ex1 (s.is wInterface)).2 := h5
    have hl : ((r.cl1 k).fresh.ex1 (s.is wInterface)).1.2 = ((s.cl1 k).fresh.ex1 (s.is wInterface)).1.2 := by rw [h4]
    have h6 : Out X (((r.cl1 k).fresh.ex1 (s.is wInterface)).2.ex2 (s.is wInterface) ((r.cl1 k).fresh.ex1 (s.is wInterface)).1.2) (((s.cl1 k).fresh.ex1 (s.is wInterface)).2.ex2 (s.is wInterface) ((s.cl1 k).fresh.ex1 (s.is wInterface)).1.2) := by
      rw [hl]; exact ex2_out h5 _ _
    refine h6.bindB (fun h7 h8 => ?_) (fun p => halt_class k (halt_want p _))
    refine (want_out h8 wLc).bindB (fun h9 => ?_) (fun p => halt_class k p)
    have h2 : (r.cl1 k).freshV = (s.cl1 k).freshV := h2
    have e1 : r.clV k = s.clV k := by
      unfold clV
      rw [w, h2, h7, h4]
    have e2 : Rel X (r.clR k) (s.clR k) := by
      unfold clR
      rw [w]
      exact h9
    unfold class'
    rw [e1]
    exact clsL_out _ _ _ _ _ e2 (room_of (clR_fwd r k)) (room_of (clR_fwd s k))
theorem prgL_stop (g : Nat) {s : Rs} (h : ¬ (s.e = 0 ∧ s.i < s.L.length)) (c : List Cls) : prgL g s c = (c, s) := by
  cases g with
  | zero => rfl
  | succ g => unfold prgL; rw [if_neg h]
/-- a program read from a row with X behind it -/
theorem prgL_out {X : List T3} : ∀ (f g : Nat) (r s : Rs) (out : List Cls), Rel X r s → Room f r → Room g s →
    (X ≠ [] ∧ (prgL g s out).2.e = 4 ∧ (prgL g s out).2.at' = (prgL g s out).2.n)
    ∨ ((prgL g s out).2.e = 0 ∧ ∃ f1 r1, prgL f r out = prgL f1 r1 (prgL g s out).1 ∧ Rel X r1 (prgL g s out).2 ∧ rem (prgL g s out).2 = [] ∧ Room f1 r1)
    ∨ ((prgL g s out).2.e ≠ 0 ∧ (prgL f r out).2.e = (prgL g s out).2.e)
  | 0, g, r, s, out, h, hf, hg => by
    have he : r.e ≠ 0 := fun c => by have := hf c; omega
    have hs : s.e ≠ 0 := h.1 ▸ he
    rw [prgL_stop g (fun c => hs c.1), prgL_stop 0 (fun c => he c.1)]
    exact .inr (.inr ⟨hs, h.1⟩)
  | f + 1, g, r, s, out, h, hf, hg => by
    by_cases he : s.e = 0
    · by_cases hi : s.i < s.L.length
      · have hr : r.e = 0 := h.1.trans he
        have hri : r.i < r.L.length := by
          have h1 := h.2 hr
          have h2 : rem s ≠ [] := fun c => by have := rem_nil.1 c; omega
          refine Nat.lt_of_not_le fun c => h2 ?_
          have := rem_nil.2 c
          rw [this] at h1
          exact (List.append_eq_nil_iff.1 h1.symm).1
        cases g with
        | zero => have := hg he; omega
        | succ g =>
          have e1 : prgL (g + 1) s out = prgL g (s.class' out.length).2 (out ++ [(s.class' out.length).1]) := by rw [prgL, if_pos ⟨he, hi⟩]
          have e2 : prgL (f + 1) r out = prgL f (r.class' out.length).2 (out ++ [(r.class' out.length).1]) := by rw [prgL, if_pos ⟨hr, hri⟩]
          rw [e1, e2]
          rcases class_out h out.length with p | p
          · rw [p.1]
            exact prgL_out f g _ _ _ p.2 (room_step hf ⟨hr, hri⟩ ⟨class_fwd r _, class_on r _⟩) (room_step hg ⟨he, hi⟩ ⟨class_fwd s _, class_on s _⟩)
          · left
            rw [prgL_stop g (fun c => absurd c.1 (by rw [p.2.1]; decide))]
            exact p
      · rw [prgL_stop g (fun c => hi c.2)]
        exact .inr (.inl ⟨he, f + 1, r, rfl, h, rem_nil.2 (by show s.L.length ≤ s.i; omega), hf⟩)
    · have hr : r.e ≠ 0 := fun c => he (h.1 ▸ c)
      rw [prgL_stop g (fun c => he c.1), prgL_stop _ (fun c => hr c.1)]
      exact .inr (.inr ⟨he, h.1⟩)
end Rs
namespace Rs
theorem prgL_more : ∀ (f : Nat) (r : Rs) (out : List Cls), ∃ more, (prgL f r out).1 = out ++ more
  | 0, _, out => ⟨[], (List.append_nil out).symm⟩
  | f + 1, r, out => by
    unfold prgL
    split
    · obtain ⟨m, hm⟩ := prgL_more f (r.class' out.length).2 (out ++ [(r.class' out.length).1])
      exact ⟨(r.class' out.length).1 :: m, by rw [hm]; simp⟩
    · exact ⟨[], (List.append_nil out).symm⟩
theorem prgL_n (f : Nat) (r : Rs) (out : List Cls) : (prgL f r out).2.n = r.n := (prgL_fwd f r out).n
end Rs
theorem parse_of {b : List UInt8} {l : List Tok} (h : scanF b = (l, 0, 0)) : parseF b = if (Rs.prgL (l.length + 2) (parse0 b) []).2.e = 0 then ((Rs.prgL (l.length + 2) (parse0 b) []).1, 0, 0) else ([], (Rs.prgL (l.length + 2) (parse0 b) []).2.at', (Rs.prgL (l.length + 2) (parse0 b) []).2.e) := by
  unfold parseF; rw [h]; exact if_pos rfl
/-- a text whose words are the first words of another's -/
theorem parse_cut {b c : List UInt8} {l k : List Tok} {X : List T3} (hb : scanF b = (l, 0, 0)) (hc : scanF c = (k, 0, 0)) (hX : l.map s3 = k.map s3 ++ X) (h0 : X ≠ []) (hp : (parseF b).2.2 = 0) :
    ((parseF c).2.2 = 0 ∧ ∃ more, (parseF b).1 = (parseF c).1 ++ more ∧ more ≠ []) ∨ ((parseF c).2.2 = 4 ∧ (parseF c).2.1 = (c.length : Int) ∧ (parseF c).1 = []) := by
  have e0 : (parse0 b).L = l := by show (scanF b).1 = l; rw [hb]
  have e1 : (parse0 c).L = k := by show (scanF c).1 = k; rw [hc]
  have hrel : Rs.Rel X (parse0 b) (parse0 c) := by
    refine ⟨rfl, fun _ => ?_⟩
    show ((parse0 b).L.drop 0).map s3 = ((parse0 c).L.drop 0).map s3 ++ X
    rw [e0, e1]; exact hX
  have r0 : Rs.Room (l.length + 2) (parse0 b) := fun _ => by rw [Rs.rem_length, e0]; omega
  have r1 : Rs.Room (k.length + 2) (parse0 c) := fun _ => by rw [Rs.rem_length, e1]; omega
  have q1 := parse_of hb
  have q2 := parse_of hc
  have hbe : (Rs.prgL (l.length + 2) (parse0 b) []).2.e = 0 := by
    rw [q1] at hp
    split at hp
    · assumption
    · exact hp
  rw [if_pos hbe] at q1
  rcases Rs.prgL_out _ _ _ _ [] hrel r0 r1 with h | h | h
  · right
    rw [if_neg (by rw [h.2.1]; decide)] at q2
    rw [q2]
    refine ⟨h.2.1, ?_, rfl⟩
    show (Rs.prgL (k.length + 2) (parse0 c) []).2.at' = _
    rw [h.2.2, Rs.prgL_n]; rfl
  · left
    rw [if_pos h.1] at q2
    obtain ⟨f1, p1, g1, g2, g3, g4⟩ := h.2
    rw [q1, q2, g1]
    refine ⟨rfl, ?_⟩
    have he : p1.e = 0 := g2.1.trans h.1
    have hr : p1.rem = X := by have := g2.2 he; rw [g3] at this; simpa using this
    have hi : p1.i < p1.L.length := Nat.lt_of_not_le fun c => h0 (hr ▸ Rs.rem_nil.2 c)
    cases f1 with
    | zero => have := g4 he; omega
    | succ f1 =>
      generalize (Rs.prgL (k.length + 2) (parse0 c) []).1 = out
      have e3 : Rs.prgL (f1 + 1) p1 out = Rs.prgL f1 (p1.class' out.length).2 (out ++ [(p1.class' out.length).1]) := by rw [Rs.prgL, if_pos ⟨he, hi⟩]
      obtain ⟨m, hm⟩ := Rs.prgL_more f1 (p1.class' out.length).2 (out ++ [(p1.class' out.length).1])
      exact ⟨(p1.class' out.length).1 :: m, by show (Rs.prgL (f1 + 1) p1 out).1 = _; rw [e3, hm]; simp, by simp⟩
  · exact absurd (h.2.symm.trans hbe) h.1
theorem chain_lens (b : List UInt8) : ∀ (l : List (Int × ByteArray × Int × Int)) (e : Nat), e ≤ b.length → chain b e l → e + Lib.lens (l.map wdS) ≤ b.length ∧ l.length ≤ Lib.lens (l.map wdS)
  | [], e, h, _ => ⟨h, Nat.zero_le _⟩
  | t :: r, e, h, ⟨a, h1, h2, h3, h4, h5, h6⟩ => by
    have hw := wd_len h5
    obtain ⟨k1, k2⟩ := chain_lens b r _ h3 h6
    simp only [List.map_cons, Lib.lens, List.sum_cons, List.length_cons] at *
    omega
theorem lens_take (l : List (Int × ByteArray × Int × Int)) (m : Nat) : Lib.lens ((l.take m).map wdS) ≤ Lib.lens (l.map wdS) := by
  induction l generalizing m with
  | nil => simp
  | cons t r ih =>
    cases m with
    | zero => simp [Lib.lens]
    | succ m =>
      have := ih m
      simp only [List.take_succ_cons, List.map_cons, Lib.lens, List.sum_cons] at *
      omega
theorem join_le (m : List (List UInt8)) : (Lib.join m [32]).length ≤ Lib.lens m + m.length := by
  have tl : ∀ r : List (List UInt8), (Lib.joinTail [32] r).length = Lib.lens r + r.length := by
    intro r
    induction r with
    | nil => rfl
    | cons y r ih =>
      simp only [Lib.joinTail, List.map_cons, List.flatten_cons, List.length_append, Lib.lens, List.sum_cons, List.length_cons] at *
      simp only [List.length_nil]
      omega
  cases m with
  | nil => simp [Lib.join_nil]
  | cons x r =>
    rw [Lib.join_cons]
    simp only [List.length_append, tl, Lib.lens, List.map_cons, List.sum_cons, List.length_cons]
    omega
theorem all_take {α : Type} {l : List α} {p : α → Bool} (h : l.all p = true) (m : Nat) : (l.take m).all p = true := List.all_eq_true.2 fun x hx => List.all_eq_true.1 h x (List.mem_of_mem_take hx)
/-- what ParseCut hands to the parser -/
theorem cut_facts {b : List UInt8} (hb : b.length ≤ 3000) (hs : (scanF b).2.2 = 0) (hp : (parseF b).2.2 = 0) {m : Nat} (hm : m < (scanF b).1.length) :
    joinF ((scanF b).1.take m) = (Lib.join (((scanF b).1.take m).map wdS) [32], 0) ∧ (Lib.join (((scanF b).1.take m).map wdS) [32]).length ≤ 6000 ∧
    (((parseF (Lib.join (((scanF b).1.take m).map wdS) [32])).2.2 = 0 ∧ ∃ more, (parseF b).1 = (parseF (Lib.join (((scanF b).1.take m).map wdS) [32])).1 ++ more ∧ more ≠ []) ∨
     ((parseF (Lib.join (((scanF b).1.take m).map wdS) [32])).2.2 = 4 ∧ (parseF (Lib.join (((scanF b).1.take m).map wdS) [32])).2.1 = ((Lib.join (((scanF b).1.take m).map wdS) [32]).length : Int) ∧ (parseF (Lib.join (((scanF b).1.take m).map wdS) [32])).1 = [])) := by
  have hw := all_take (scan_wd b) m
  have h1 : scanF b = ((scanF b).1, 0, 0) := by
    rcases scan_res b with q | q
    · exact Prod.ext rfl q
    · exact absurd hs q.2.1
  have hl : (Lib.join (((scanF b).1.take m).map wdS) [32]).length ≤ 6000 := by
    have h2 := join_le (((scanF b).1.take m).map wdS)
    have h3 := lens_take (scanF b).1 m
    have h4 := chain_lens b _ 0 (Nat.zero_le _) (chain_F b)
    rw [List.length_map, List.length_take] at h2
    omega
  refine ⟨by unfold joinF; exact if_pos hw, hl, ?_⟩
  have h2 : scanF (Lib.join (((scanF b).1.take m).map wdS) [32]) = (placeF 0 ((scanF b).1.take m), 0, 0) := by
    have := scan_all _ hw
    generalize Lib.join (((scanF b).1.take m).map wdS) [32] = c at this hl ⊢
    generalize placeF 0 ((scanF b).1.take m) = q at this ⊢
    unfold scanF
    rw [if_neg (by omega), this]
  refine parse_cut (X := ((scanF b).1.drop m).map s3) h1 h2 ?_ ?_ hp
  · rw [placeF_s3, ← List.map_append, List.take_append_drop]
  · intro c
    have := congrArg List.length c
    simp at this
    omega
def ParseCut : Ctr := { A := List UInt8 × Int, enc := fun x => [.row UInt8 1 byteC 0 x.1, I x.2], dom := fun _ => True, res := fun _ _ => .tt, gl := tabP }
set_option maxRecDepth 100000 in
set_option maxHeartbeats 4000000 in
theorem ParseCut_ok : CtrSound Tryd.prog 10 ParseCut :=
  ctr_of_ax (env_okB tys_ok (eqs := []) trivial (cs := [(25, scanC), (26, ljoinC), (16, parseC), (18, kRow), (15, lC)]) ⟨scan_ok, ljoin_ok, parse_ok, kClasses_ok, wakesP_ok, trivial⟩ (bs := []) trivial (gl := tabP)) mixed _ Tryd.func10 (by kernel_rfl) rfl (fun _ _ => Nat.le_of_ble_eq_true rfl) fun ((b, cut) : List UInt8 × Int) id hd => by
    refine ⟨fun h => ⟨.refl _, rfl⟩, fun h => ?_⟩
    have hlb : b.length ≤ 3000 := by dsimp only at h; have := of_decide_eq_false h; omega
    refine ⟨b, ⟨.refl _, trivial⟩, rfl, (show b.length ≤ 4611686018427387904 by omega), ?_⟩
    refine ⟨b, ⟨.refl _, trivial⟩, rfl, (show b.length ≤ 4611686018427387904 by omega), ?_⟩
    refine ⟨fun h => ?_, fun h1 => ?_⟩
    · refine ⟨(), trivial, rfl, trivial, ?_⟩
      exact ⟨.refl _, rfl⟩
    have hp : (parseF b).2.2 = 0 := by simpa using h1
    refine ⟨fun h => ?_, fun h2 => ?_⟩
    · refine ⟨(), trivial, rfl, trivial, ?_⟩
      exact ⟨.refl _, rfl⟩
    have hs : (scanF b).2.2 = 0 := by simpa using h2
    refine ⟨fun h => ?_, fun h3 => ?_⟩
    · refine ⟨(), trivial, rfl, trivial, ?_⟩
      exact ⟨.refl _, rfl⟩
    have h3 : ¬ ((scanF b).1.length : Int) = 0 := by simpa using h3
    have hl0 : 0 < (scanF b).1.length := by omega
    have hcn := scan_count b
    obtain ⟨m, hm, em⟩ := umodC cut (scanF b).1.length hl0 (by omega)
    obtain ⟨f1, f2, f3⟩ := cut_facts hlb hs hp hm
    have eu : IntKind.u64.wrap ((scanF b).1.length : Int) = ((scanF b).1.length : Int) := by
      have := IntKind.u64.wrap
      simp only [IntKind.wrap, IntKind.bits, IntKind.signed]
      simp
      omega
    have em2 : IntKind.i64.wrap ((IntKind.u64.wrap cut).tmod (IntKind.u64.wrap ((scanF b).1.length : Int))) = (m : Int) := by rw [eu]; exact em
    refine ⟨(show IntKind.u64.wrap ((scanF b).1.length : Int) ≠ 0 by rw [eu]; omega), ?_⟩
    refine ⟨⟨Int.le_refl 0, (show 0 ≤ IntKind.i64.wrap ((IntKind.u64.wrap cut).tmod (IntKind.u64.wrap ((scanF b).1.length : Int))) by rw [em2]; omega), (show IntKind.i64.wrap ((IntKind.u64.wrap cut).tmod (IntKind.u64.wrap ((scanF b).1.length : Int))) ≤ ((scanF b).1.length : Int) by rw [em2]; omega)⟩, ?_⟩
    have et : ((scanF b).1.take (IntKind.i64.wrap ((IntKind.u64.wrap cut).tmod (IntKind.u64.wrap ((scanF b).1.length : Int)))).toNat).drop 0 = (scanF b).1.take m := by rw [em2]; rfl
    refine ⟨(scanF b).1.take m, ⟨.rowEq et, trivial⟩, rfl, (show ((scanF b).1.take m).length ≤ 100000 ∧ ∀ t ∈ (scanF b).1.take m, okT t from ⟨by rw [List.length_take]; omega, fun t ht => scan_okT b t (List.mem_of_mem_take ht)⟩), ?_⟩
    have j1 : (joinF ((scanF b).1.take m)).2 = 0 := by rw [f1]
    have j2 : (joinF ((scanF b).1.take m)).1 = Lib.join (((scanF b).1.take m).map wdS) [32] := by rw [f1]
    rw [← j2] at f2 f3
    refine ⟨fun h => absurd h (by rw [j1]; decide), fun _ => ?_⟩
    refine ⟨(joinF ((scanF b).1.take m)).1, ⟨.own .., trivial⟩, rfl, (show (joinF ((scanF b).1.take m)).1.length ≤ 4611686018427387904 by omega), ?_⟩
    refine ⟨fun h => ?_, fun h => ?_⟩
    · have h4 : (parseF (joinF ((scanF b).1.take m)).1).2.2 = 0 := by simpa using h
      obtain ⟨more, g1, g2⟩ : ∃ more, (parseF b).1 = (parseF (joinF ((scanF b).1.take m)).1).1 ++ more ∧ more ≠ [] := f3.elim (fun q => q.2) (fun q => absurd (q.1.symm.trans h4) (by decide))
      have g3 : (parseF (joinF ((scanF b).1.take m)).1).1.length < (parseF b).1.length := by
        rw [g1, List.length_append]
        have := List.length_pos_iff.2 g2
        omega
      have g4 : ((parseF b).1.take (parseF (joinF ((scanF b).1.take m)).1).1.length).drop 0 = (parseF (joinF ((scanF b).1.take m)).1).1 := by rw [g1]; simp
      refine ⟨by kernel_rfl, ?_⟩
      refine ⟨fun h => ?_, fun h => absurd g3 (by have := of_decide_eq_false h; omega)⟩
      refine ⟨⟨Int.le_refl 0, Int.natCast_nonneg _, (show (((parseF (joinF ((scanF b).1.take m)).1).1.length : Nat) : Int) ≤ ((parseF b).1.length : Int) by omega)⟩, ?_⟩
      refine ⟨((parseF (joinF ((scanF b).1.take m)).1).1, (parseF (joinF ((scanF b).1.take m)).1).1), ⟨.refl _, .rowEq g4, trivial⟩, rfl, ⟨parse_len _, parse_len _⟩, ?_⟩
      refine ⟨fun h => ?_, fun h => absurd (show decide ((parseF (joinF ((scanF b).1.take m)).1).1 = (parseF (joinF ((scanF b).1.take m)).1).1) = false from h) (by simp)⟩
      refine ⟨(), trivial, rfl, trivial, ?_⟩
      exact ⟨.refl _, rfl⟩
    have h4 : ¬ (parseF (joinF ((scanF b).1.take m)).1).2.2 = 0 := by simpa using h
    have g1 := f3.resolve_left (fun q => h4 q.1)
    refine ⟨fun h => ?_, fun h => absurd (show ((parseF (joinF ((scanF b).1.take m)).1).2.2 == 4) = false from h) (by rw [g1.1]; decide)⟩
    refine ⟨fun h => ?_, fun h => absurd (show ((parseF (joinF ((scanF b).1.take m)).1).2.1 == ((joinF ((scanF b).1.take m)).1.length : Int)) = false from h) (by rw [g1.2.1]; simp)⟩
    refine ⟨fun h => ?_, fun h => absurd (show ((((parseF (joinF ((scanF b).1.take m)).1).1.length : Nat) : Int) == 0) = false from h) (by rw [g1.2.2]; decide)⟩
    refine ⟨(), trivial, rfl, trivial, ?_⟩
    exact ⟨.refl _, rfl⟩

end Go.Proofs.YtimhbimpaiiceaaDoor.Ax
