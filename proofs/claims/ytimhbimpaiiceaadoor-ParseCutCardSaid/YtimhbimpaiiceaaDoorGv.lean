/- Layer parse: programs compared. -/
import Derived.Test.YtimhbimpaiiceaaDoorGn
set_option linter.unusedVariables false
set_option linter.unusedSimpArgs false
namespace Go.Proofs.YtimhbimpaiiceaaDoor.Ax
open Go Go.RowKit
theorem eq_step {P : Program} (w : World) (d : Nat) (f : Go.Field) (fs : List Go.Field) (xs ys : Array Value) (a b : Value) (e r : Bool) (hn : f.name ≠ "_") (px : (part f.type xs f.offset).run P w = .ok a w) (py : (part f.type ys f.offset).run P w = .ok b w)
    (he : (Op.equalIn (d + 1) f.type a b).run P w = .ok e w) (ih : (Op.eqFields (d + 1) xs ys fs).run P w = .ok r w) : (Op.eqFields (d + 1) xs ys (f :: fs)).run P w = .ok (e && r) w := by
  simp only [Op.eqFields]
  rw [if_pos hn]
  simp only [Sem.run_bind, px, py, he, Result.andThen_ok, Sem.run_ite]
  cases e with
  | true => simp only [Bool.not_true, Bool.false_eq_true, if_false, Bool.true_and]; exact ih
  | false => simp
theorem part_flat {P : Program} (w : World) (f : Go.Field) {dd : TypeDesc} (hdd : P.underlying f.type = some dd) (hag : isAggD dd = false) (xs : Array Value) (lx : f.offset < xs.size) : (part f.type xs f.offset).run P w = .ok (xs.getD f.offset undef) w := by
  simp only [part, Sem.run_bind, run_isAgg hdd, hag, Result.andThen_ok]
  simp [Array.getD, lx]
theorem part_sub {P : Program} (w : World) (f : Go.Field) {gs : Array Go.Field} {i : TypeInfo} (hu : P.underlying f.type = some (.struct gs)) (hi : P.info? f.type = some i) (xs : Array Value) : (part f.type xs f.offset).run P w = .ok (.agg (xs.extract f.offset (f.offset + i.size))) w := by
  simp only [part, Sem.run_bind, run_isAgg hu, show isAggD (.struct gs) = true from rfl, Result.andThen_ok]
  rw [if_pos True.intro, Sem.run_bind, run_size hi]
  rfl
theorem fld_shape {P : Program} {t : Nat} {f0 f1 f2 : Go.Field} {gs : Array Go.Field} {i : TypeInfo} (hu : P.underlying t = some (.struct #[f0, f1, f2])) (hp : P.stoodInHeld t = false) (hm : P.eqGuardType P.depth t = false)
    (n0 : f0.name ≠ "_" ∧ f0.offset = 0 ∧ P.underlying f0.type = some .string) (n1 : f1.name ≠ "_" ∧ f1.offset = 1 ∧ P.underlying f1.type = some (.struct gs)) (n2 : f2.name ≠ "_" ∧ f2.offset = 3 ∧ P.underlying f2.type = some .bool)
    (hi : P.info? f1.type = some i) (hz : i.size = 2) (hp1 : P.stoodInHeld f1.type = false) (hk : flatB P 0 gs.toList [.int .i64, .str] = true) : EqSound P t (flatC Fld fldC) := by
  intro u v H β T xs ys w x y hx hy gx gy
  have hx : xs.size = 4 := hx
  have hy : ys.size = 4 := hy
  refine ⟨fun op => run_eqGuard_agg w op t x y xs ys hm, ?_⟩
  have hf : P.fieldsOf t = #[f0, f1, f2] := by unfold Program.fieldsOf; rw [hu]
  show (Op.equalIn (9999 + 1) t (.agg xs) (.agg ys)).run P w = _
  rw [run_equalIn_agg w 9999 t xs ys (by rw [hf]; exact hu) hp, hf]
  have gx0 : xs.getD 0 undef = .string u.name := gval (gx 0 (by show 0 < 4; omega))
  have gy0 : ys.getD 0 undef = .string v.name := gval (gy 0 (by show 0 < 4; omega))
  have gx1 : xs.getD 1 undef = .int .i64 u.type.1 := gval (gx 1 (by show 1 < 4; omega))
  have gy1 : ys.getD 1 undef = .int .i64 v.type.1 := gval (gy 1 (by show 1 < 4; omega))
  have gx2 : xs.getD 2 undef = .string u.type.2 := gval (gx 2 (by show 2 < 4; omega))
  have gy2 : ys.getD 2 undef = .string v.type.2 := gval (gy 2 (by show 2 < 4; omega))
  have gx3 : xs.getD 3 undef = .bool u.static := gval (gx 3 (by show 3 < 4; omega))
  have gy3 : ys.getD 3 undef = .bool v.static := gval (gy 3 (by show 3 < 4; omega))
  have e0 := eq_step w 9998 f0 [f1, f2] xs ys _ _ (u.name.toList == v.name.toList) (cellsEq (tyC u.type) (tyC v.type) && ((u.static == v.static) && true)) n0.1 (part_flat w f0 n0.2.2 rfl xs (by rw [n0.2.1]; omega)) (part_flat w f0 n0.2.2 rfl ys (by rw [n0.2.1]; omega))
    (by rw [n0.2.1, gx0, gy0]; exact run_equalIn_string w 9998 f0.type _ _ n0.2.2) ?_
  · show (Op.eqFields 9999 xs ys [f0, f1, f2]).run P w = _
    rw [e0]
    show Result.ok ((u.name.toList == v.name.toList) && (cellsEq (tyC u.type) (tyC v.type) && ((u.static == v.static) && true))) w = Result.ok (cellsEq (fldC u) (fldC v)) w
    simp [cellsEq, cellEq, fldC, tyC, Bool.and_assoc]
  · have sub : (Op.equalIn (9998 + 1) f1.type (.agg (xs.extract f1.offset (f1.offset + i.size))) (.agg (ys.extract f1.offset (f1.offset + i.size)))).run P w = .ok (cellsEq (tyC u.type) (tyC v.type)) w := by
      have hf1 : P.fieldsOf f1.type = gs := by unfold Program.fieldsOf; rw [n1.2.2]
      rw [run_equalIn_agg w 9998 f1.type _ _ (by rw [hf1]; exact n1.2.2) hp1, hf1, n1.2.1, hz]
      have q : ∀ (zs : Array Value) (a b : Value), zs.size = 4 → zs.getD 1 undef = a → zs.getD 2 undef = b → ∀ j, j < 2 → (zs.extract 1 (1 + 2)).getD j undef = if j = 0 then a else b := by
        intro zs a b hs h1 h2 j hj
        match j, hj with
        | 0, _ => rw [if_pos rfl, ← h1]; simp [Array.getD, hs]
        | 1, _ => rw [if_neg (by decide), ← h2]; simp [Array.getD, hs]
      refine run_eqFields (H := H) (β := β) (T := T) w 9997 (xs.extract 1 (1 + 2)) (ys.extract 1 (1 + 2)) gs.toList [.int .i64, .str] (tyC u.type) (tyC v.type) 0 hk rfl rfl ?_ ?_ (by simp [tyC, hx]) (by simp [tyC, hy])
      · intro j hj
        have hj : j < 2 := hj
        rw [Nat.zero_add, q xs _ _ hx gx1 gx2 j hj]
        match j, hj with
        | 0, _ => exact .val _
        | 1, _ => exact .val _
      · intro j hj
        have hj : j < 2 := hj
        rw [Nat.zero_add, q ys _ _ hy gy1 gy2 j hj]
        match j, hj with
        | 0, _ => exact .val _
        | 1, _ => exact .val _
    have e2 := eq_step w 9998 f2 [] xs ys _ _ (u.static == v.static) true n2.1 (part_flat w f2 n2.2.2 rfl xs (by rw [n2.2.1]; omega)) (part_flat w f2 n2.2.2 rfl ys (by rw [n2.2.1]; omega))
      (by rw [n2.2.1, gx3, gy3]; exact run_equalIn_bool w 9998 f2.type _ _ n2.2.2) (by simp [Op.eqFields])
    exact eq_step w 9998 f1 [f2] xs ys _ _ _ _ n1.1 (part_sub w f1 n1.2.2 hi xs) (part_sub w f1 n1.2.2 hi ys) sub e2
theorem fld_eq : EqSound Tryd.prog 57 (flatC Fld fldC) := by
  obtain ⟨i, hi, hz⟩ := Option.map_eq_some_iff.1 (show (Tryd.prog.info? 50).map (·.size) = some 2 by kernel_rfl)
  exact fld_shape Tryd.underlying57 (by kernel_rfl) (by kernel_rfl) ⟨by decide, rfl, Tryd.underlying9⟩ ⟨by decide, rfl, Tryd.underlying50⟩ ⟨by decide, rfl, Tryd.underlying4⟩ hi hz (by kernel_rfl) (by kernel_rfl)
theorem fld_dec (a b : Fld) : cellsEq (fldC a) (fldC b) = decide (a = b) := by
  obtain ⟨a1, ⟨a2, a3⟩, a4⟩ := a
  obtain ⟨b1, ⟨b2, b3⟩, b4⟩ := b
  rw [Bool.eq_iff_iff]
  simp [fldC, cellsEq, cellEq, ba_eq, and_assoc]
abbrev LB : Nat := 4611686018427387904
def mLen (m : Meth) : Prop := m.params.length ≤ LB ∧ m.code.length ≤ LB ∧ m.catches.length ≤ LB
def cLen (c : Cls) : Prop := c.ifaces.length ≤ LB ∧ c.fields.length ≤ LB ∧ c.methods.length ≤ LB ∧ ∀ m ∈ c.methods, mLen m
def pLen (p : List Cls) : Prop := p.length ≤ LB ∧ ∀ c ∈ p, cLen c
def kepC (T : Type) [DecidableEq T] (e : T → SV) (d : T → Prop) : Ctr := { A := T × T, enc := fun x => [e x.1, e x.2], dom := fun x => d x.1 ∧ d x.2, res := fun x _ => B (decide (x.1 = x.2)) }
theorem cat_eq : EqSound Tryd.prog 114 (flatC Cat catC) :=
  eq_flat [.str, .int .i64, .int .i64, .int .i64] _ catC Tryd.underlying114 (by kernel_rfl) (by kernel_rfl) (by kernel_rfl) (fun _ => rfl)
theorem cat_dec (a b : Cat) : cellsEq (catC a) (catC b) = decide (a = b) := by
  obtain ⟨a1, a2, a3, a4⟩ := a
  obtain ⟨b1, b2, b3, b4⟩ := b
  rw [Bool.eq_iff_iff]
  simp [catC, cellsEq, cellEq, ba_eq]
theorem kins_eq : EqSound Tryd.prog 41 (flatC Ins insC) :=
  eq_flat [.int .i64, .int .i64, .str, .str] _ insC Tryd.underlying41 (by kernel_rfl) (by kernel_rfl) (by kernel_rfl) (fun _ => rfl)
theorem kins_dec (a b : Ins) : cellsEq (insC a) (insC b) = decide (a = b) := by
  obtain ⟨a1, a2, a3, a4⟩ := a
  obtain ⟨b1, b2, b3, b4⟩ := b
  rw [Bool.eq_iff_iff]
  simp [insC, cellsEq, cellEq, ba_eq]
set_option maxRecDepth 100000 in
theorem kStrings_ok : CtrSound Tryd.prog 53 (keepR ByteArray 1 strC noS) :=
  ctr_of_ax (env_ok tys_ok (eqs := []) trivial (cs := []) trivial) mixed _ Tryd.func53 (by kernel_rfl) rfl (fun _ _ => Nat.le_of_ble_eq_true rfl) fun ((k, l) : List ByteArray × List ByteArray) id hd => by
    have hd : k.length ≤ 4611686018427387904 := hd
    have no : ¬ (k = l) → Sub .ff (B (decide (k = l))) := fun h => .bff (decide_eq_false h)
    refine ⟨fun h2 => ?_, fun h2 => ?_⟩
    · exact ⟨no fun q => lneT h2 (by rw [q]), rfl⟩
    have hl : k.length = l.length := lneF h2
    refine ⟨Nat, fun i => [(0, .row ByteArray 1 strC noS k), (1, .row ByteArray 1 strC noS l), (5, I i)], fun _ => [], fun i => i ≤ k.length ∧ ∀ j, j < i → k.getD j noS = l.getD j noS, fun i => k.length - i,
      ⟨0, ⟨Nat.zero_le _, fun j hj => by omega⟩, ⟨⟨rfl, rfl⟩, .refl _, .refl _, .refl _, trivial⟩⟩, fun (i : Nat) hi => ?_⟩
    have hil := hi.1
    have hwj : IntKind.i64.wrap ((i : Int) + 1) = ((i + 1 : Nat) : Int) := by rw [wrap_eq _ (by omega) (by omega)]; omega
    refine ⟨fun h => ?_, fun h => ?_⟩
    · have hlt : i < k.length := dlt h
      refine ⟨by kernel_rfl, ?_⟩
      refine ⟨⟨by omega, by omega⟩, ⟨by omega, by omega⟩, ?_⟩
      refine ⟨fun h => ?_, fun h => ?_⟩
      · have h : (!((k.getD i noS).toList == (l.getD i noS).toList)) = true := h
        exact ⟨no fun q => by rw [q] at h; simp at h, rfl⟩
      · have h : (!((k.getD i noS).toList == (l.getD i noS).toList)) = false := h
        have he : k.getD i noS = l.getD i noS := baT (notF h)
        exact ⟨i + 1, ⟨hlt, fun j hj => by rcases Nat.lt_succ_iff_lt_or_eq.1 hj with q | rfl; exact hi.2 j q; exact he⟩, by show k.length - (i + 1) < k.length - i; omega, ⟨rfl, rfl⟩, .refl _, .refl _, .int hwj, trivial⟩
    · have hge : i = k.length := Nat.le_antisymm hil (dge h)
      exact ⟨.btt (decide_eq_true (ext_getD noS hl fun j (hj : j < k.length) => hi.2 j (hge ▸ hj))), rfl⟩
set_option maxRecDepth 100000 in
set_option maxHeartbeats 4000000 in
theorem kMethod_ok : CtrSound Tryd.prog 54 (kepC Meth (fun m => .agg (methC m)) mLen) :=
  ctr_of_ax (env_ok tys_ok (eqs := [(50, flatC Ty tyC), (41, flatC Ins insC), (114, flatC Cat catC)]) ⟨ty_eq, kins_eq, cat_eq, trivial⟩ (cs := [(24, keepR Ty 2 tyC ty0)]) ⟨kTypes_ok, trivial⟩) mixed _ Tryd.func54 (by kernel_rfl) rfl (fun _ _ => Nat.le_of_ble_eq_true rfl) fun ((a, b) : Meth × Meth) id hd => by
    have hd1 : mLen a := hd.1
    obtain ⟨b1, b2, b3⟩ := hd1
    have no : ¬ (a = b) → Sub .ff (B (decide (a = b))) := fun h => .bff (decide_eq_false h)
    refine ⟨fun h => ?_, fun h => ?_⟩
    · have h : (!(a.name.toList == b.name.toList)) = true := h
      exact ⟨no fun q => by rw [q] at h; simp at h, rfl⟩
    have e_name : a.name = b.name := baT (notF h)
    refine ⟨fun h => ?_, fun h => ?_⟩
    · have h : (!(a.static == b.static)) = true := h
      exact ⟨no fun q => by rw [q] at h; simp at h, rfl⟩
    have e_static : a.static = b.static := by
      have h : (!(a.static == b.static)) = false := h
      simpa using h
    refine ⟨fun h => ?_, fun h => ?_⟩
    · have h : (!(a.abs == b.abs)) = true := h
      exact ⟨no fun q => by rw [q] at h; simp at h, rfl⟩
    have e_abs : a.abs = b.abs := by
      have h : (!(a.abs == b.abs)) = false := h
      simpa using h
    refine ⟨(a.params, b.params), ⟨.refl _, .refl _, trivial⟩, rfl, b1, ?_⟩
    refine ⟨fun h => ?_, fun h => ?_⟩
    · have h : (!decide (a.params = b.params)) = true := h
      exact ⟨no fun q => by rw [q] at h; simp at h, rfl⟩
    have e_params : a.params = b.params := by
      have h : (!decide (a.params = b.params)) = false := h
      simpa using h
    refine ⟨a.ret, b.ret, ⟨.refl _, .refl _, trivial⟩, ⟨.refl _, .refl _, trivial⟩, ?_⟩
    refine ⟨fun h => ?_, fun h => ?_⟩
    · have h : (!cellsEq (tyC a.ret) (tyC b.ret)) = true := h
      rw [ty_dec] at h
      exact ⟨no fun q => by rw [q] at h; simp at h, rfl⟩
    have e_ret : a.ret = b.ret := by
      have h : (!cellsEq (tyC a.ret) (tyC b.ret)) = false := h
      rw [ty_dec] at h
      simpa using h
    refine ⟨fun h => ?_, fun h => ?_⟩
    · have h : (a.locals != b.locals) = true := h
      exact ⟨no fun q => by rw [q] at h; simp at h, rfl⟩
    have e_locals : a.locals = b.locals := by
      have h : (a.locals != b.locals) = false := h
      simpa using h
    refine ⟨fun h => ?_, fun h => ?_⟩
    · have h : ((a.code.length : Int) != (b.code.length : Int)) = true := h
      exact ⟨no fun q => by rw [q] at h; simp at h, rfl⟩
    have l_code : a.code.length = b.code.length := lneF h
    refine ⟨fun h => ?_, fun h => ?_⟩
    · have h : ((a.catches.length : Int) != (b.catches.length : Int)) = true := h
      exact ⟨no fun q => by rw [q] at h; simp at h, rfl⟩
    have l_catches : a.catches.length = b.catches.length := lneF h
    have b2 : a.code.length ≤ 4611686018427387904 := b2
    have b3 : a.catches.length ≤ 4611686018427387904 := b3
    refine ⟨Nat, fun i => [(2, .box 2 0), (3, .box 3 0), (5, I i)], fun _ => [(2, methC a), (3, methC b)], fun i => i ≤ a.code.length ∧ ∀ j, j < i → a.code.getD j ins0 = b.code.getD j ins0, fun i => a.code.length - i,
      ⟨0, ⟨Nat.zero_le _, fun j hj => by omega⟩, ⟨⟨rfl, rfl⟩, .refl _, .refl _, .refl _, ⟨.refl _, .refl _, .refl _, .refl _, .refl _, .refl _, .refl _, .refl _, .refl _, trivial⟩, ⟨.refl _, .refl _, .refl _, .refl _, .refl _, .refl _, .refl _, .refl _, .refl _, trivial⟩, trivial⟩⟩, fun (i : Nat) hi => ?_⟩
    have hil : i ≤ a.code.length := hi.1
    have hwj : IntKind.i64.wrap ((i : Int) + 1) = ((i + 1 : Nat) : Int) := by rw [wrap_eq _ (by omega) (by omega)]; omega
    refine ⟨fun h => ?_, fun h => ?_⟩
    · have hlt : i < a.code.length := dlt h
      refine ⟨by kernel_rfl, ?_⟩
      refine ⟨(show 0 ≤ (i : Int) ∧ (i : Int) < (a.code.length : Int) by omega), (show 0 ≤ (i : Int) ∧ (i : Int) < (b.code.length : Int) by omega), ?_⟩
      refine ⟨a.code.getD i ins0, b.code.getD i ins0, ⟨.refl _, .refl _, .refl _, .refl _, trivial⟩, ⟨.refl _, .refl _, .refl _, .refl _, trivial⟩, ?_⟩
      refine ⟨fun h => ?_, fun h => ?_⟩
      · have h : (!cellsEq (insC (a.code.getD i ins0)) (insC (b.code.getD i ins0))) = true := h
        rw [kins_dec] at h
        exact ⟨no fun q => by rw [q] at h; simp at h, rfl⟩
      · have h : (!cellsEq (insC (a.code.getD i ins0)) (insC (b.code.getD i ins0))) = false := h
        rw [kins_dec] at h
        have he : a.code.getD i ins0 = b.code.getD i ins0 := by simpa using h
        exact ⟨i + 1, ⟨hlt, fun j hj => by rcases Nat.lt_succ_iff_lt_or_eq.1 hj with q | rfl; exact hi.2 j q; exact he⟩, (show a.code.length - (i + 1) < a.code.length - i by omega), ⟨rfl, rfl⟩, .refl _, .int hwj, .refl _, ⟨.refl _, .refl _, .refl _, .refl _, .refl _, .refl _, .refl _, .refl _, .refl _, trivial⟩, ⟨.refl _, .refl _, .refl _, .refl _, .refl _, .refl _, .refl _, .refl _, .refl _, trivial⟩, trivial⟩
    have e_code : a.code = b.code := by
      have hge : i = a.code.length := Nat.le_antisymm hil (dge h)
      exact ext_getD ins0 l_code fun j (hj : j < a.code.length) => hi.2 j (hge ▸ hj)
    clear hi hil hwj h
    refine ⟨Nat, fun i => [(2, .box 2 0), (3, .box 3 0), (6, I i)], fun _ => [(2, methC a), (3, methC b)], fun i => i ≤ a.catches.length ∧ ∀ j, j < i → a.catches.getD j cat0 = b.catches.getD j cat0, fun i => a.catches.length - i,
      ⟨0, ⟨Nat.zero_le _, fun j hj => by omega⟩, ⟨⟨rfl, rfl⟩, .refl _, .refl _, .refl _, ⟨.refl _, .refl _, .refl _, .refl _, .refl _, .refl _, .refl _, .refl _, .refl _, trivial⟩, ⟨.refl _, .refl _, .refl _, .refl _, .refl _, .refl _, .refl _, .refl _, .refl _, trivial⟩, trivial⟩⟩, fun (i : Nat) hi => ?_⟩
    have hil : i ≤ a.catches.length := hi.1
    have hwj : IntKind.i64.wrap ((i : Int) + 1) = ((i + 1 : Nat) : Int) := by rw [wrap_eq _ (by omega) (by omega)]; omega
    refine ⟨fun h => ?_, fun h => ?_⟩
    · have hlt : i < a.catches.length := dlt h
      refine ⟨by kernel_rfl, ?_⟩
      refine ⟨(show 0 ≤ (i : Int) ∧ (i : Int) < (a.catches.length : Int) by omega), (show 0 ≤ (i : Int) ∧ (i : Int) < (b.catches.length : Int) by omega), ?_⟩
      refine ⟨a.catches.getD i cat0, b.catches.getD i cat0, ⟨.refl _, .refl _, .refl _, .refl _, trivial⟩, ⟨.refl _, .refl _, .refl _, .refl _, trivial⟩, ?_⟩
      refine ⟨fun h => ?_, fun h => ?_⟩
      · have h : (!cellsEq (catC (a.catches.getD i cat0)) (catC (b.catches.getD i cat0))) = true := h
        rw [cat_dec] at h
        exact ⟨no fun q => by rw [q] at h; simp at h, rfl⟩
      · have h : (!cellsEq (catC (a.catches.getD i cat0)) (catC (b.catches.getD i cat0))) = false := h
        rw [cat_dec] at h
        have he : a.catches.getD i cat0 = b.catches.getD i cat0 := by simpa using h
        exact ⟨i + 1, ⟨hlt, fun j hj => by rcases Nat.lt_succ_iff_lt_or_eq.1 hj with q | rfl; exact hi.2 j q; exact he⟩, (show a.catches.length - (i + 1) < a.catches.length - i by omega), ⟨rfl, rfl⟩, .refl _, .refl _, .int hwj, ⟨.refl _, .refl _, .refl _, .refl _, .refl _, .refl _, .refl _, .refl _, .refl _, trivial⟩, ⟨.refl _, .refl _, .refl _, .refl _, .refl _, .refl _, .refl _, .refl _, .refl _, trivial⟩, trivial⟩
    have e_catches : a.catches = b.catches := by
      have hge : i = a.catches.length := Nat.le_antisymm hil (dge h)
      exact ext_getD cat0 l_catches fun j (hj : j < a.catches.length) => hi.2 j (hge ▸ hj)
    clear hi hil hwj h
    exact ⟨.btt (decide_eq_true (by cases a; cases b; simp_all)), rfl⟩
set_option maxRecDepth 100000 in
set_option maxHeartbeats 4000000 in
theorem kClass_ok : CtrSound Tryd.prog 35 (kepC Cls (fun c => .agg (clsC c)) cLen) :=
  ctr_of_ax (env_ok tys_ok (eqs := [(57, flatC Fld fldC)]) ⟨fld_eq, trivial⟩ (cs := [(53, keepR ByteArray 1 strC noS), (54, kepC Meth (fun m => .agg (methC m)) mLen)]) ⟨kStrings_ok, kMethod_ok, trivial⟩) mixed _ Tryd.func35 (by kernel_rfl) rfl (fun _ _ => Nat.le_of_ble_eq_true rfl) fun ((a, b) : Cls × Cls) id hd => by
    have hd1 : cLen a := hd.1
    have hd2 : cLen b := hd.2
    obtain ⟨b1, b2, b3, b4⟩ := hd1
    have no : ¬ (a = b) → Sub .ff (B (decide (a = b))) := fun h => .bff (decide_eq_false h)
    refine ⟨fun h => ?_, fun h => ?_⟩
    · have h : (!(a.name.toList == b.name.toList)) = true := h
      exact ⟨no fun q => by rw [q] at h; simp at h, rfl⟩
    have e_name : a.name = b.name := baT (notF h)
    refine ⟨fun h => ?_, fun h => ?_⟩
    · have h : (!(a.iface == b.iface)) = true := h
      exact ⟨no fun q => by rw [q] at h; simp at h, rfl⟩
    have e_iface : a.iface = b.iface := by
      have h : (!(a.iface == b.iface)) = false := h
      simpa using h
    refine ⟨fun h => ?_, fun h => ?_⟩
    · have h : (!(a.super.toList == b.super.toList)) = true := h
      exact ⟨no fun q => by rw [q] at h; simp at h, rfl⟩
    have e_super : a.super = b.super := baT (notF h)
    refine ⟨(a.ifaces, b.ifaces), ⟨.refl _, .refl _, trivial⟩, rfl, b1, ?_⟩
    refine ⟨fun h => ?_, fun h => ?_⟩
    · have h : (!decide (a.ifaces = b.ifaces)) = true := h
      exact ⟨no fun q => by rw [q] at h; simp at h, rfl⟩
    have e_ifaces : a.ifaces = b.ifaces := by
      have h : (!decide (a.ifaces = b.ifaces)) = false := h
      simpa using h
    refine ⟨fun h => ?_, fun h => ?_⟩
    · have h : ((a.fields.length : Int) != (b.fields.length : Int)) = true := h
      exact ⟨no fun q => by rw [q] at h; simp at h, rfl⟩
    have l_fields : a.fields.length = b.fields.length := lneF h
    refine ⟨fun h => ?_, fun h => ?_⟩
    · have h : ((a.methods.length : Int) != (b.methods.length : Int)) = true := h
      exact ⟨no fun q => by rw [q] at h; simp at h, rfl⟩
    have l_methods : a.methods.length = b.methods.length := lneF h
    have b2 : a.fields.length ≤ 4611686018427387904 := b2
    have b3 : a.methods.length ≤ 4611686018427387904 := b3
    refine ⟨Nat, fun i => [(2, .box 2 0), (3, .box 3 0), (5, I i)], fun _ => [(2, clsC a), (3, clsC b)], fun i => i ≤ a.fields.length ∧ ∀ j, j < i → a.fields.getD j fld0 = b.fields.getD j fld0, fun i => a.fields.length - i,
      ⟨0, ⟨Nat.zero_le _, fun j hj => by omega⟩, ⟨⟨rfl, rfl⟩, .refl _, .refl _, .refl _, ⟨.refl _, .refl _, .refl _, .refl _, .refl _, .refl _, trivial⟩, ⟨.refl _, .refl _, .refl _, .refl _, .refl _, .refl _, trivial⟩, trivial⟩⟩, fun (i : Nat) hi => ?_⟩
    have hil : i ≤ a.fields.length := hi.1
    have hwj : IntKind.i64.wrap ((i : Int) + 1) = ((i + 1 : Nat) : Int) := by rw [wrap_eq _ (by omega) (by omega)]; omega
    refine ⟨fun h => ?_, fun h => ?_⟩
    · have hlt : i < a.fields.length := dlt h
      refine ⟨by kernel_rfl, ?_⟩
      refine ⟨(show 0 ≤ (i : Int) ∧ (i : Int) < (a.fields.length : Int) by omega), (show 0 ≤ (i : Int) ∧ (i : Int) < (b.fields.length : Int) by omega), ?_⟩
      refine ⟨a.fields.getD i fld0, b.fields.getD i fld0, ⟨.refl _, .refl _, .refl _, .refl _, trivial⟩, ⟨.refl _, .refl _, .refl _, .refl _, trivial⟩, ?_⟩
      refine ⟨fun h => ?_, fun h => ?_⟩
      · have h : (!cellsEq (fldC (a.fields.getD i fld0)) (fldC (b.fields.getD i fld0))) = true := h
        rw [fld_dec] at h
        exact ⟨no fun q => by rw [q] at h; simp at h, rfl⟩
      · have h : (!cellsEq (fldC (a.fields.getD i fld0)) (fldC (b.fields.getD i fld0))) = false := h
        rw [fld_dec] at h
        have he : a.fields.getD i fld0 = b.fields.getD i fld0 := by simpa using h
        exact ⟨i + 1, ⟨hlt, fun j hj => by rcases Nat.lt_succ_iff_lt_or_eq.1 hj with q | rfl; exact hi.2 j q; exact he⟩, (show a.fields.length - (i + 1) < a.fields.length - i by omega), ⟨rfl, rfl⟩, .refl _, .int hwj, .refl _, ⟨.refl _, .refl _, .refl _, .refl _, .refl _, .refl _, trivial⟩, ⟨.refl _, .refl _, .refl _, .refl _, .refl _, .refl _, trivial⟩, trivial⟩
    have e_fields : a.fields = b.fields := by
      have hge : i = a.fields.length := Nat.le_antisymm hil (dge h)
      exact ext_getD fld0 l_fields fun j (hj : j < a.fields.length) => hi.2 j (hge ▸ hj)
    clear hi hil hwj h
    refine ⟨Nat, fun i => [(2, .box 2 0), (3, .box 3 0), (6, I i)], fun _ => [(2, clsC a), (3, clsC b)], fun i => i ≤ a.methods.length ∧ ∀ j, j < i → a.methods.getD j meth0 = b.methods.getD j meth0, fun i => a.methods.length - i,
      ⟨0, ⟨Nat.zero_le _, fun j hj => by omega⟩, ⟨⟨rfl, rfl⟩, .refl _, .refl _, .refl _, ⟨.refl _, .refl _, .refl _, .refl _, .refl _, .refl _, trivial⟩, ⟨.refl _, .refl _, .refl _, .refl _, .refl _, .refl _, trivial⟩, trivial⟩⟩, fun (i : Nat) hi => ?_⟩
    have hil : i ≤ a.methods.length := hi.1
    have hwj : IntKind.i64.wrap ((i : Int) + 1) = ((i + 1 : Nat) : Int) := by rw [wrap_eq _ (by omega) (by omega)]; omega
    refine ⟨fun h => ?_, fun h => ?_⟩
    · have hlt : i < a.methods.length := dlt h
      refine ⟨by kernel_rfl, ?_⟩
      refine ⟨(show 0 ≤ (i : Int) ∧ (i : Int) < (a.methods.length : Int) by omega), (show 0 ≤ (i : Int) ∧ (i : Int) < (b.methods.length : Int) by omega), ?_⟩
      refine ⟨(a.methods.getD i meth0, b.methods.getD i meth0), ⟨.refl _, .refl _, trivial⟩, rfl, ⟨b4 _ (getT_mem _ _ _ hlt), hd2.2.2.2 _ (getT_mem _ _ _ (l_methods ▸ hlt))⟩, ?_⟩
      refine ⟨fun h => ?_, fun h => ?_⟩
      · have h : (!decide ((a.methods.getD i meth0) = (b.methods.getD i meth0))) = true := h
        skip
        exact ⟨no fun q => by rw [q] at h; simp at h, rfl⟩
      · have h : (!decide ((a.methods.getD i meth0) = (b.methods.getD i meth0))) = false := h
        skip
        have he : a.methods.getD i meth0 = b.methods.getD i meth0 := by simpa using h
        exact ⟨i + 1, ⟨hlt, fun j hj => by rcases Nat.lt_succ_iff_lt_or_eq.1 hj with q | rfl; exact hi.2 j q; exact he⟩, (show a.methods.length - (i + 1) < a.methods.length - i by omega), ⟨rfl, rfl⟩, .refl _, .refl _, .int hwj, ⟨.refl _, .refl _, .refl _, .refl _, .refl _, .refl _, trivial⟩, ⟨.refl _, .refl _, .refl _, .refl _, .refl _, .refl _, trivial⟩, trivial⟩
    have e_methods : a.methods = b.methods := by
      have hge : i = a.methods.length := Nat.le_antisymm hil (dge h)
      exact ext_getD meth0 l_methods fun j (hj : j < a.methods.length) => hi.2 j (hge ▸ hj)
    clear hi hil hwj h
    exact ⟨.btt (decide_eq_true (by cases a; cases b; simp_all)), rfl⟩
def kRow : Ctr := { A := List Cls × List Cls, enc := fun x => [prgR x.1, prgR x.2], dom := fun x => pLen x.1 ∧ pLen x.2, res := fun x _ => B (decide (x.1 = x.2)) }
set_option maxRecDepth 100000 in
theorem kClasses_ok : CtrSound Tryd.prog 18 kRow :=
  ctr_of_ax (env_ok tys_ok (eqs := []) trivial (cs := [(35, kepC Cls (fun c => .agg (clsC c)) cLen)]) ⟨kClass_ok, trivial⟩) mixed _ Tryd.func18 (by kernel_rfl) rfl (fun _ _ => Nat.le_of_ble_eq_true rfl) fun ((k, l) : List Cls × List Cls) id hd => by
    have hd0 : pLen k := hd.1
    have hd2 : pLen l := hd.2
    have hd : k.length ≤ 4611686018427387904 := hd0.1
    have no : ¬ (k = l) → Sub .ff (B (decide (k = l))) := fun h => .bff (decide_eq_false h)
    refine ⟨fun h2 => ?_, fun h2 => ?_⟩
    · exact ⟨no fun q => lneT h2 (by rw [q]), rfl⟩
    have hl : k.length = l.length := lneF h2
    refine ⟨Nat, fun i => [(0, prgR k), (1, prgR l), (5, I i)], fun _ => [], fun i => i ≤ k.length ∧ ∀ j, j < i → k.getD j cls0 = l.getD j cls0, fun i => k.length - i,
      ⟨0, ⟨Nat.zero_le _, fun j hj => by omega⟩, ⟨⟨rfl, rfl⟩, .refl _, .refl _, .refl _, trivial⟩⟩, fun (i : Nat) hi => ?_⟩
    have hil := hi.1
    have hwj : IntKind.i64.wrap ((i : Int) + 1) = ((i + 1 : Nat) : Int) := by rw [wrap_eq _ (by omega) (by omega)]; omega
    refine ⟨fun h => ?_, fun h => ?_⟩
    · have hlt : i < k.length := dlt h
      refine ⟨by kernel_rfl, ?_⟩
      refine ⟨⟨by omega, by omega⟩, ⟨by omega, by omega⟩, ?_⟩
      refine ⟨(k.getD i cls0, l.getD i cls0), ⟨.refl _, .refl _, trivial⟩, rfl, ⟨hd0.2 _ (getT_mem _ _ _ hlt), hd2.2 _ (getT_mem _ _ _ (hl ▸ hlt))⟩, ?_⟩
      refine ⟨fun h => ?_, fun h => ?_⟩
      · have h : (!decide (k.getD i cls0 = l.getD i cls0)) = true := h
        exact ⟨no fun q => by rw [q] at h; simp at h, rfl⟩
      · have h : (!decide (k.getD i cls0 = l.getD i cls0)) = false := h
        have he : k.getD i cls0 = l.getD i cls0 := by simpa using h
        exact ⟨i + 1, ⟨hlt, fun j hj => by rcases Nat.lt_succ_iff_lt_or_eq.1 hj with q | rfl; exact hi.2 j q; exact he⟩, by show k.length - (i + 1) < k.length - i; omega, ⟨rfl, rfl⟩, .refl _, .refl _, .int hwj, trivial⟩
    · have hge : i = k.length := Nat.le_antisymm hil (dge h)
      exact ⟨.btt (decide_eq_true (ext_getD cls0 hl fun j (hj : j < k.length) => hi.2 j (hge ▸ hj))), rfl⟩
def kPrg : Ctr := { A := List Cls × List Cls, enc := fun x => [.agg [prgR x.1], .agg [prgR x.2]], dom := fun x => pLen x.1 ∧ pLen x.2, res := fun x _ => B (decide (x.1 = x.2)) }
set_option maxRecDepth 100000 in
theorem kPrg_ok : CtrSound Tryd.prog 27 kPrg :=
  ctr_of_ax (env_ok tys_ok (eqs := []) trivial (cs := [(18, kRow)]) ⟨kClasses_ok, trivial⟩) mixed _ Tryd.func27 (by kernel_rfl) rfl (fun _ _ => Nat.le_of_ble_eq_true rfl) fun ((k, l) : List Cls × List Cls) id hd => by
    refine ⟨(k, l), ⟨.refl _, .refl _, trivial⟩, rfl, hd, ?_⟩
    exact ⟨.refl _, rfl⟩
end Go.Proofs.YtimhbimpaiiceaaDoor.Ax
