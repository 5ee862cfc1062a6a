/- Equality of structs whose fields are numbers, bools, texts. -/
import Derived.Test.YtimhbimpaiiceaaDoorA12
import Derived.Laws.StructEq
set_option linter.unusedVariables false
set_option linter.unusedSimpArgs false
namespace Go.Proofs.YtimhbimpaiiceaaDoor.Ax
open Go Go.RowKit

inductive SK where
  | int (k : IntKind)
  | bool
  | str
def SK.fits : SK → SV → Bool
  | .int k, .val (.int k' _) => ikEq k k'
  | .bool, .val (.bool _) => true
  | .str, .val (.string _) => true
  | _, _ => false
def kindsOk : List SK → List SV → Bool
  | [], [] => true
  | k :: ks, x :: xs => match k.fits x with | true => kindsOk ks xs | false => false
  | _, _ => false
def cellEq : SV → SV → Bool
  | .val (.int _ a), .val (.int _ b) => a == b
  | .val (.bool a), .val (.bool b) => a == b
  | .val (.string a), .val (.string b) => a.toList == b.toList
  | _, _ => false
def cellsEq : List SV → List SV → Bool
  | [], [] => true
  | x :: xs, y :: ys => cellEq x y && cellsEq xs ys
  | _, _ => false
def SK.desc : SK → TypeDesc → Bool
  | .int k, .int k' => ikEq k k'
  | .bool, .bool => true
  | .str, .string => true
  | _, _ => false
def flatB (P : Program) : Nat → List Go.Field → List SK → Bool
  | _, [], [] => true
  | o, f :: fs, k :: ks => f.name != "_" && f.offset == o && (match P.underlying f.type with | some d => k.desc d | none => false) && flatB P (o + 1) fs ks
  | _, _, _ => false
def flatC (X : Type) (cs : X → List SV) : EqC := { A := X, cs := cs, eq := fun u v => cellsEq (cs u) (cs v) }

theorem kindsOk_cons {k : SK} {ks : List SK} {x : SV} {xs : List SV} (h : kindsOk (k :: ks) (x :: xs) = true) : k.fits x = true ∧ kindsOk ks xs = true := by
  simp only [kindsOk] at h
  cases hk : k.fits x with
  | true => rw [hk] at h; exact ⟨rfl, h⟩
  | false => rw [hk] at h; cases h
theorem run_eqFields {P : Program} (w : World) (d : Nat) {H : HM} {β : BM} {T : TM} (xs ys : Array Value) : ∀ (fs : List Go.Field) (ks : List SK) (us vs : List SV) (o : Nat), flatB P o fs ks = true → kindsOk ks us = true → kindsOk ks vs = true →
    (∀ j, j < us.length → G H β T (at' us j .junk) (xs.getD (o + j) undef)) → (∀ j, j < vs.length → G H β T (at' vs j .junk) (ys.getD (o + j) undef)) → o + us.length ≤ xs.size → o + vs.length ≤ ys.size →
    (Op.eqFields (d + 1) xs ys fs).run P w = .ok (cellsEq us vs) w
  | [], [], us, vs, o, _, hu, hv, _, _, _, _ => by
    cases us with
    | cons _ _ => simp [kindsOk] at hu
    | nil => cases vs with
      | cons _ _ => simp [kindsOk] at hv
      | nil => rfl
  | [], k :: ks, us, vs, o, h, _, _, _, _, _, _ => by simp [flatB] at h
  | f :: fs, [], us, vs, o, h, _, _, _, _, _, _ => by simp [flatB] at h
  | f :: fs, k :: ks, us, vs, o, h, hu, hv, gu, gv, sx, sy => by
    cases us with
    | nil => simp [kindsOk] at hu
    | cons u us =>
    cases vs with
    | nil => simp [kindsOk] at hv
    | cons v vs =>
    obtain ⟨hu1, hu2⟩ := kindsOk_cons hu
    obtain ⟨hv1, hv2⟩ := kindsOk_cons hv
    simp only [flatB, Bool.and_eq_true, bne_iff_ne, ne_eq, beq_iff_eq] at h
    obtain ⟨⟨⟨hn, ho⟩, hd⟩, hr⟩ := h
    have ih := run_eqFields w d xs ys fs ks us vs (o + 1) hr hu2 hv2
      (fun j hj => by have := gu (j + 1) (by simpa using hj); rwa [show o + (j + 1) = o + 1 + j by omega] at this)
      (fun j hj => by have := gv (j + 1) (by simpa using hj); rwa [show o + (j + 1) = o + 1 + j by omega] at this)
      (by simp at sx; omega) (by simp at sy; omega)
    have g0 := gu 0 (by simp)
    have g1 := gv 0 (by simp)
    rw [Nat.add_zero] at g0 g1
    replace g0 : G H β T u (xs.getD o undef) := g0
    replace g1 : G H β T v (ys.getD o undef) := g1
    have lx : o < xs.size := by simp at sx; omega
    have ly : o < ys.size := by simp at sy; omega
    simp only [Op.eqFields]
    rw [if_pos hn]
    cases hdd : P.underlying f.type with
    | none => rw [hdd] at hd; cases hd
    | some dd =>
      rw [hdd] at hd
      have hag : isAggD dd = false := by cases k <;> cases dd <;> first | rfl | (simp [SK.desc] at hd; done)
      have px : (part f.type xs f.offset).run P w = .ok (xs.getD o undef) w := by
        simp only [part, Sem.run_bind, run_isAgg hdd, hag, Result.andThen_ok, ho]
        simp [Array.getD, lx]
      have py : (part f.type ys f.offset).run P w = .ok (ys.getD o undef) w := by
        simp only [part, Sem.run_bind, run_isAgg hdd, hag, Result.andThen_ok, ho]
        simp [Array.getD, ly]
      have he : (Op.equalIn (d + 1) f.type (xs.getD o undef) (ys.getD o undef)).run P w = .ok (cellEq u v) w := by
        generalize xs.getD o undef = a at g0
        generalize ys.getD o undef = b at g1
        cases k with
        | int kk =>
          cases u with
          | val u => cases u with
            | int k1 n =>
              cases v with
              | val v => cases v with
                | int k2 m =>
                  obtain rfl := gval g0
                  obtain rfl := gval g1
                  obtain rfl := ikEq_eq hu1
                  obtain rfl := ikEq_eq hv1
                  cases dd <;> simp [SK.desc] at hd
                  exact run_equalIn_int w d f.type _ _ n m hdd
                | _ => simp [SK.fits] at hv1
              | _ => simp [SK.fits] at hv1
            | _ => simp [SK.fits] at hu1
          | _ => simp [SK.fits] at hu1
        | bool =>
          cases u with
          | val u => cases u with
            | bool n =>
              cases v with
              | val v => cases v with
                | bool m =>
                  obtain rfl := gval g0
                  obtain rfl := gval g1
                  cases dd <;> simp [SK.desc] at hd
                  exact run_equalIn_bool w d f.type n m hdd
                | _ => simp [SK.fits] at hv1
              | _ => simp [SK.fits] at hv1
            | _ => simp [SK.fits] at hu1
          | _ => simp [SK.fits] at hu1
        | str =>
          cases u with
          | val u => cases u with
            | string n =>
              cases v with
              | val v => cases v with
                | string m =>
                  obtain rfl := gval g0
                  obtain rfl := gval g1
                  cases dd <;> simp [SK.desc] at hd
                  exact run_equalIn_string w d f.type n m hdd
                | _ => simp [SK.fits] at hv1
              | _ => simp [SK.fits] at hv1
            | _ => simp [SK.fits] at hu1
          | _ => simp [SK.fits] at hu1
      simp only [Sem.run_bind, px, py, he, Result.andThen_ok, Sem.run_ite]
      cases hc : cellEq u v with
      | true => simp only [Bool.not_true, Bool.false_eq_true, if_false, cellsEq, hc, Bool.true_and]; exact ih
      | false => simp [cellsEq, hc]
theorem kindsOk_len : ∀ {ks : List SK} {us : List SV}, kindsOk ks us = true → us.length = ks.length
  | [], [], _ => rfl
  | [], _ :: _, h => by simp [kindsOk] at h
  | _ :: _, [], h => by simp [kindsOk] at h
  | k :: ks, u :: us, h => by simp [kindsOk_len (kindsOk_cons h).2]
theorem eq_flat {P : Program} {t : Nat} {fs : Array Go.Field} (ks : List SK) (X : Type) (cs : X → List SV) (hu : P.underlying t = some (.struct fs)) (hp : P.stoodInHeld t = false) (hm : P.eqGuardType P.depth t = false)
    (hk : flatB P 0 fs.toList ks = true) (hc : ∀ x, kindsOk ks (cs x) = true) : EqSound P t (flatC X cs) := by
  intro u v H β T xs ys w x y hx hy gx gy
  have hx : xs.size = (cs u).length := hx
  have hy : ys.size = (cs v).length := hy
  refine ⟨fun op => run_eqGuard_agg w op t x y xs ys hm, ?_⟩
  have hf : P.fieldsOf t = fs := by unfold Program.fieldsOf; rw [hu]
  show (Op.equalIn (9999 + 1) t (.agg xs) (.agg ys)).run P w = _
  rw [run_equalIn_agg w 9999 t xs ys (by rw [hf]; exact hu) hp, hf]
  exact run_eqFields w 9998 xs ys fs.toList ks (cs u) (cs v) 0 hk (hc u) (hc v) (fun j hj => by rw [Nat.zero_add]; exact gx j hj) (fun j hj => by rw [Nat.zero_add]; exact gy j hj) (by omega) (by omega)
end Go.Proofs.YtimhbimpaiiceaaDoor.Ax
