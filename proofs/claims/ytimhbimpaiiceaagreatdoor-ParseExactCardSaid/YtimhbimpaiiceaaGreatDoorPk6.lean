/- Walks and laws, part 6: Gv Ha Hc Hd Ua Ub Tc Uc Gu Ud Ue Uf. -/
import Derived.Test.YtimhbimpaiiceaaGreatDoorPk5
/- Layer parse: programs compared. -/
set_option linter.unusedVariables false
set_option linter.unusedSimpArgs false
namespace Go.Proofs.YtimhbimpaiiceaaGreatDoor.Ax
open Go Go.RowKit
theorem eq_step {P : Program} (w : World) (d : Nat) (f : Go.Field) (fs : List Go.Field) (xs ys : Array Value) (a b : Value) (e r : Bool) (hn : f.name ≠ "_") (px : (part f.type xs f.offset).run P w = .ok a w) (py : (part f.type ys f.offset).run P w = .ok b w)
    (he : (Op.equalIn (d + 1) f.type a b).run P w = .ok e w) (ih : (Op.eqFields (d + 1) xs ys fs).run P w = .ok r w) : (Op.eqFields (d + 1) xs ys (f :: fs)).run P w = .ok (e && r) w := by
  simp only [Op.eqFields]
  rw [if_pos hn]
  simp only [Sem.run_bind, px, py, he, Result.andThen_ok, Sem.run_ite]
  cases e with
  | true => simp only [Bool.not_true, Bool.false_eq_true, if_false, Bool.true_and]; exact ih
  | false => simp
theorem part_flat {P : Program} (w : World) (f : Go.Field) {dd : TypeDesc} (hdd : P.underlying f.type = some dd) (hag : isAggD dd = false) (xs : Array Value) (lx : f.offset < xs.size) : (part f.type xs f.offset).run P w = .ok (xs.getD f.offset undef) w := by
  simp only [part, Sem.run_bind, run_isAgg hdd, hag, Result.andThen_ok]
  simp [Array.getD, lx]
theorem part_sub {P : Program} (w : World) (f : Go.Field) {gs : Array Go.Field} {i : TypeInfo} (hu : P.underlying f.type = some (.struct gs)) (hi : P.info? f.type = some i) (xs : Array Value) : (part f.type xs f.offset).run P w = .ok (.agg (xs.extract f.offset (f.offset + i.size))) w := by
  simp only [part, Sem.run_bind, run_isAgg hu, show isAggD (.struct gs) = true from rfl, Result.andThen_ok]
  rw [if_pos True.intro, Sem.run_bind, run_size hi]
  rfl
theorem fld_shape {P : Program} {t : Nat} {f0 f1 f2 : Go.Field} {gs : Array Go.Field} {i : TypeInfo} (hu : P.underlying t = some (.struct #[f0, f1, f2])) (hp : P.stoodInHeld t = false) (hm : P.eqGuardType P.depth t = false)
    (n0 : f0.name ≠ "_" ∧ f0.offset = 0 ∧ P.underlying f0.type = some .string) (n1 : f1.name ≠ "_" ∧ f1.offset = 1 ∧ P.underlying f1.type = some (.struct gs)) (n2 : f2.name ≠ "_" ∧ f2.offset = 3 ∧ P.underlying f2.type = some .bool)
    (hi : P.info? f1.type = some i) (hz : i.size = 2) (hp1 : P.stoodInHeld f1.type = false) (hk : flatB P 0 gs.toList [.int .i64, .str] = true) : EqSound P t (flatC Fld fldC) := by
  intro u v H β T xs ys w x y hx hy gx gy
  have hx : xs.size = 4 := hx
  have hy : ys.size = 4 := hy
  refine ⟨fun op => run_eqGuard_agg w op t x y xs ys hm, ?_⟩
  have hf : P.fieldsOf t = #[f0, f1, f2] := by unfold Program.fieldsOf; rw [hu]
  show (Op.equalIn (9999 + 1) t (.agg xs) (.agg ys)).run P w = _
  rw [run_equalIn_agg w 9999 t xs ys (by rw [hf]; exact hu) hp, hf]
  have gx0 : xs.getD 0 undef = .string u.name := gval (gx 0 (by show 0 < 4; omega))
  have gy0 : ys.getD 0 undef = .string v.name := gval (gy 0 (by show 0 < 4; omega))
  have gx1 : xs.getD 1 undef = .int .i64 u.type.1 := gval (gx 1 (by show 1 < 4; omega))
  have gy1 : ys.getD 1 undef = .int .i64 v.type.1 := gval (gy 1 (by show 1 < 4; omega))
  have gx2 : xs.getD 2 undef = .string u.type.2 := gval (gx 2 (by show 2 < 4; omega))
  have gy2 : ys.getD 2 undef = .string v.type.2 := gval (gy 2 (by show 2 < 4; omega))
  have gx3 : xs.getD 3 undef = .bool u.static := gval (gx 3 (by show 3 < 4; omega))
  have gy3 : ys.getD 3 undef = .bool v.static := gval (gy 3 (by show 3 < 4; omega))
  have e0 := eq_step w 9998 f0 [f1, f2] xs ys _ _ (u.name.toList == v.name.toList) (cellsEq (tyC u.type) (tyC v.type) && ((u.static == v.static) && true)) n0.1 (part_flat w f0 n0.2.2 rfl xs (by rw [n0.2.1]; omega)) (part_flat w f0 n0.2.2 rfl ys (by rw [n0.2.1]; omega))
    (by rw [n0.2.1, gx0, gy0]; exact run_equalIn_string w 9998 f0.type _ _ n0.2.2) ?_
  · show (Op.eqFields 9999 xs ys [f0, f1, f2]).run P w = _
    rw [e0]
    show Result.ok ((u.name.toList == v.name.toList) && (cellsEq (tyC u.type) (tyC v.type) && ((u.static == v.static) && true))) w = Result.ok (cellsEq (fldC u) (fldC v)) w
    simp [cellsEq, cellEq, fldC, tyC, Bool.and_assoc]
  · have sub : (Op.equalIn (9998 + 1) f1.type (.agg (xs.extract f1.offset (f1.offset + i.size))) (.agg (ys.extract f1.offset (f1.offset + i.size)))).run P w = .ok (cellsEq (tyC u.type) (tyC v.type)) w := by
      have hf1 : P.fieldsOf f1.type = gs := by unfold Program.fieldsOf; rw [n1.2.2]
      rw [run_equalIn_agg w 9998 f1.type _ _ (by rw [hf1]; exact n1.2.2) hp1, hf1, n1.2.1, hz]
      have q : ∀ (zs : Array Value) (a b : Value), zs.size = 4 → zs.getD 1 undef = a → zs.getD 2 undef = b → ∀ j, j < 2 → (zs.extract 1 (1 + 2)).getD j undef = if j = 0 then a else b := by
        intro zs a b hs h1 h2 j hj
        match j, hj with
        | 0, _ => rw [if_pos rfl, ← h1]; simp [Array.getD, hs]
        | 1, _ => rw [if_neg (by decide), ← h2]; simp [Array.getD, hs]
      refine run_eqFields (H := H) (β := β) (T := T) w 9997 (xs.extract 1 (1 + 2)) (ys.extract 1 (1 + 2)) gs.toList [.int .i64, .str] (tyC u.type) (tyC v.type) 0 hk rfl rfl ?_ ?_ (by simp [tyC, hx]) (by simp [tyC, hy])
      · intro j hj
        have hj : j < 2 := hj
        rw [Nat.zero_add, q xs _ _ hx gx1 gx2 j hj]
        match j, hj with
        | 0, _ => exact .val _
        | 1, _ => exact .val _
      · intro j hj
        have hj : j < 2 := hj
        rw [Nat.zero_add, q ys _ _ hy gy1 gy2 j hj]
        match j, hj with
        | 0, _ => exact .val _
        | 1, _ => exact .val _
    have e2 := eq_step w 9998 f2 [] xs ys _ _ (u.static == v.static) true n2.1 (part_flat w f2 n2.2.2 rfl xs (by rw [n2.2.1]; omega)) (part_flat w f2 n2.2.2 rfl ys (by rw [n2.2.1]; omega))
      (by rw [n2.2.1, gx3, gy3]; exact run_equalIn_bool w 9998 f2.type _ _ n2.2.2) (by simp [Op.eqFields])
    exact eq_step w 9998 f1 [f2] xs ys _ _ _ _ n1.1 (part_sub w f1 n1.2.2 hi xs) (part_sub w f1 n1.2.2 hi ys) sub e2
theorem fld_eq : EqSound Tryz.prog 66 (flatC Fld fldC) := by
  obtain ⟨i, hi, hz⟩ := Option.map_eq_some_iff.1 (show (Tryz.prog.info? 64).map (·.size) = some 2 by kernel_rfl)
  exact fld_shape Tryz.underlying66 (by kernel_rfl) (by kernel_rfl) ⟨by decide, rfl, Tryz.underlying9⟩ ⟨by decide, rfl, Tryz.underlying64⟩ ⟨by decide, rfl, Tryz.underlying4⟩ hi hz (by kernel_rfl) (by kernel_rfl)
theorem fld_dec (a b : Fld) : cellsEq (fldC a) (fldC b) = decide (a = b) := by
  obtain ⟨a1, ⟨a2, a3⟩, a4⟩ := a
  obtain ⟨b1, ⟨b2, b3⟩, b4⟩ := b
  rw [Bool.eq_iff_iff]
  simp [fldC, cellsEq, cellEq, ba_eq, and_assoc]
abbrev LB : Nat := 4611686018427387904
def mLen (m : Meth) : Prop := m.params.length ≤ LB ∧ m.code.length ≤ LB ∧ m.catches.length ≤ LB
def cLen (c : Cls) : Prop := c.ifaces.length ≤ LB ∧ c.fields.length ≤ LB ∧ c.methods.length ≤ LB ∧ ∀ m ∈ c.methods, mLen m
def pLen (p : List Cls) : Prop := p.length ≤ LB ∧ ∀ c ∈ p, cLen c
def kepC (T : Type) [DecidableEq T] (e : T → SV) (d : T → Prop) : Ctr := { A := T × T, enc := fun x => [e x.1, e x.2], dom := fun x => d x.1 ∧ d x.2, res := fun x _ => B (decide (x.1 = x.2)) }
theorem cat_eq : EqSound Tryz.prog 94 (flatC Cat catC) :=
  eq_flat [.str, .int .i64, .int .i64, .int .i64] _ catC Tryz.underlying94 (by kernel_rfl) (by kernel_rfl) (by kernel_rfl) (fun _ => rfl)
theorem cat_dec (a b : Cat) : cellsEq (catC a) (catC b) = decide (a = b) := by
  obtain ⟨a1, a2, a3, a4⟩ := a
  obtain ⟨b1, b2, b3, b4⟩ := b
  rw [Bool.eq_iff_iff]
  simp [catC, cellsEq, cellEq, ba_eq]
theorem kins_eq : EqSound Tryz.prog 108 (flatC Ins insC) :=
  eq_flat [.int .i64, .int .i64, .str, .str] _ insC Tryz.underlying108 (by kernel_rfl) (by kernel_rfl) (by kernel_rfl) (fun _ => rfl)
theorem kins_dec (a b : Ins) : cellsEq (insC a) (insC b) = decide (a = b) := by
  obtain ⟨a1, a2, a3, a4⟩ := a
  obtain ⟨b1, b2, b3, b4⟩ := b
  rw [Bool.eq_iff_iff]
  simp [insC, cellsEq, cellEq, ba_eq]
set_option maxRecDepth 100000 in
theorem kStrings_ok : CtrSound Tryz.prog 66 (keepR ByteArray 1 strC noS) :=
  ctr_of_ax (env_ok tys_ok (eqs := []) trivial (cs := []) trivial) mixed _ Tryz.func66 (by kernel_rfl) rfl (fun _ _ => Nat.le_of_ble_eq_true rfl) fun ((k, l) : List ByteArray × List ByteArray) id hd => by
    have hd : k.length ≤ 4611686018427387904 := hd
    have no : ¬ (k = l) → Sub .ff (B (decide (k = l))) := fun h => .bff (decide_eq_false h)
    refine ⟨fun h2 => ?_, fun h2 => ?_⟩
    · exact ⟨no fun q => lneT h2 (by rw [q]), rfl⟩
    have hl : k.length = l.length := lneF h2
    refine ⟨Nat, fun i => [(0, .row ByteArray 1 strC noS k), (1, .row ByteArray 1 strC noS l), (5, I i)], fun _ => [], fun i => i ≤ k.length ∧ ∀ j, j < i → k.getD j noS = l.getD j noS, fun i => k.length - i,
      ⟨0, ⟨Nat.zero_le _, fun j hj => by omega⟩, ⟨⟨rfl, rfl⟩, .refl _, .refl _, .refl _, trivial⟩⟩, fun (i : Nat) hi => ?_⟩
    have hil := hi.1
    have hwj : IntKind.i64.wrap ((i : Int) + 1) = ((i + 1 : Nat) : Int) := by rw [wrap_eq _ (by omega) (by omega)]; omega
    refine ⟨fun h => ?_, fun h => ?_⟩
    · have hlt : i < k.length := dlt h
      refine ⟨by kernel_rfl, ?_⟩
      refine ⟨⟨by omega, by omega⟩, ⟨by omega, by omega⟩, ?_⟩
      refine ⟨fun h => ?_, fun h => ?_⟩
      · have h : (!((k.getD i noS).toList == (l.getD i noS).toList)) = true := h
        exact ⟨no fun q => by rw [q] at h; simp at h, rfl⟩
      · have h : (!((k.getD i noS).toList == (l.getD i noS).toList)) = false := h
        have he : k.getD i noS = l.getD i noS := baT (notF h)
        exact ⟨i + 1, ⟨hlt, fun j hj => by rcases Nat.lt_succ_iff_lt_or_eq.1 hj with q | rfl; exact hi.2 j q; exact he⟩, by show k.length - (i + 1) < k.length - i; omega, ⟨rfl, rfl⟩, .refl _, .refl _, .int hwj, trivial⟩
    · have hge : i = k.length := Nat.le_antisymm hil (dge h)
      exact ⟨.btt (decide_eq_true (ext_getD noS hl fun j (hj : j < k.length) => hi.2 j (hge ▸ hj))), rfl⟩
set_option maxRecDepth 100000 in
set_option maxHeartbeats 4000000 in
theorem kMethod_ok : CtrSound Tryz.prog 67 (kepC Meth (fun m => .agg (methC m)) mLen) :=
  ctr_of_ax (env_ok tys_ok (eqs := [(64, flatC Ty tyC), (108, flatC Ins insC), (94, flatC Cat catC)]) ⟨ty_eq, kins_eq, cat_eq, trivial⟩ (cs := [(76, keepR Ty 2 tyC ty0)]) ⟨kTypes_ok, trivial⟩) mixed _ Tryz.func67 (by kernel_rfl) rfl (fun _ _ => Nat.le_of_ble_eq_true rfl) fun ((a, b) : Meth × Meth) id hd => by
    have hd1 : mLen a := hd.1
    obtain ⟨b1, b2, b3⟩ := hd1
    have no : ¬ (a = b) → Sub .ff (B (decide (a = b))) := fun h => .bff (decide_eq_false h)
    refine ⟨fun h => ?_, fun h => ?_⟩
    · have h : (!(a.name.toList == b.name.toList)) = true := h
      exact ⟨no fun q => by rw [q] at h; simp at h, rfl⟩
    have e_name : a.name = b.name := baT (notF h)
    refine ⟨fun h => ?_, fun h => ?_⟩
    · have h : (!(a.static == b.static)) = true := h
      exact ⟨no fun q => by rw [q] at h; simp at h, rfl⟩
    have e_static : a.static = b.static := by
      have h : (!(a.static == b.static)) = false := h
      simpa using h
    refine ⟨fun h => ?_, fun h => ?_⟩
    · have h : (!(a.abs == b.abs)) = true := h
      exact ⟨no fun q => by rw [q] at h; simp at h, rfl⟩
    have e_abs : a.abs = b.abs := by
      have h : (!(a.abs == b.abs)) = false := h
      simpa using h
    refine ⟨(a.params, b.params), ⟨.refl _, .refl _, trivial⟩, rfl, b1, ?_⟩
    refine ⟨fun h => ?_, fun h => ?_⟩
    · have h : (!decide (a.params = b.params)) = true := h
      exact ⟨no fun q => by rw [q] at h; simp at h, rfl⟩
    have e_params : a.params = b.params := by
      have h : (!decide (a.params = b.params)) = false := h
      simpa using h
    refine ⟨a.ret, b.ret, ⟨.refl _, .refl _, trivial⟩, ⟨.refl _, .refl _, trivial⟩, ?_⟩
    refine ⟨fun h => ?_, fun h => ?_⟩
    · have h : (!cellsEq (tyC a.ret) (tyC b.ret)) = true := h
      rw [ty_dec] at h
      exact ⟨no fun q => by rw [q] at h; simp at h, rfl⟩
    have e_ret : a.ret = b.ret := by
      have h : (!cellsEq (tyC a.ret) (tyC b.ret)) = false := h
      rw [ty_dec] at h
      simpa using h
    refine ⟨fun h => ?_, fun h => ?_⟩
    · have h : (a.locals != b.locals) = true := h
      exact ⟨no fun q => by rw [q] at h; simp at h, rfl⟩
    have e_locals : a.locals = b.locals := by
      have h : (a.locals != b.locals) = false := h
      simpa using h
    refine ⟨fun h => ?_, fun h => ?_⟩
    · have h : ((a.code.length : Int) != (b.code.length : Int)) = true := h
      exact ⟨no fun q => by rw [q] at h; simp at h, rfl⟩
    have l_code : a.code.length = b.code.length := lneF h
    refine ⟨fun h => ?_, fun h => ?_⟩
    · have h : ((a.catches.length : Int) != (b.catches.length : Int)) = true := h
      exact ⟨no fun q => by rw [q] at h; simp at h, rfl⟩
    have l_catches : a.catches.length = b.catches.length := lneF h
    have b2 : a.code.length ≤ 4611686018427387904 := b2
    have b3 : a.catches.length ≤ 4611686018427387904 := b3
    refine ⟨Nat, fun i => [(2, .box 2 0), (3, .box 3 0), (5, I i)], fun _ => [(2, methC a), (3, methC b)], fun i => i ≤ a.code.length ∧ ∀ j, j < i → a.code.getD j ins0 = b.code.getD j ins0, fun i => a.code.length - i,
      ⟨0, ⟨Nat.zero_le _, fun j hj => by omega⟩, ⟨⟨rfl, rfl⟩, .refl _, .refl _, .refl _, ⟨.refl _, .refl _, .refl _, .refl _, .refl _, .refl _, .refl _, .refl _, .refl _, trivial⟩, ⟨.refl _, .refl _, .refl _, .refl _, .refl _, .refl _, .refl _, .refl _, .refl _, trivial⟩, trivial⟩⟩, fun (i : Nat) hi => ?_⟩
    have hil : i ≤ a.code.length := hi.1
    have hwj : IntKind.i64.wrap ((i : Int) + 1) = ((i + 1 : Nat) : Int) := by rw [wrap_eq _ (by omega) (by omega)]; omega
    refine ⟨fun h => ?_, fun h => ?_⟩
    · have hlt : i < a.code.length := dlt h
      refine ⟨by kernel_rfl, ?_⟩
      refine ⟨(show 0 ≤ (i : Int) ∧ (i : Int) < (a.code.length : Int) by omega), (show 0 ≤ (i : Int) ∧ (i : Int) < (b.code.length : Int) by omega), ?_⟩
      refine ⟨a.code.getD i ins0, b.code.getD i ins0, ⟨.refl _, .refl _, .refl _, .refl _, trivial⟩, ⟨.refl _, .refl _, .refl _, .refl _, trivial⟩, ?_⟩
      refine ⟨fun h => ?_, fun h => ?_⟩
      · have h : (!cellsEq (insC (a.code.getD i ins0)) (insC (b.code.getD i ins0))) = true := h
        rw [kins_dec] at h
        exact ⟨no fun q => by rw [q] at h; simp at h, rfl⟩
      · have h : (!cellsEq (insC (a.code.getD i ins0)) (insC (b.code.getD i ins0))) = false := h
        rw [kins_dec] at h
        have he : a.code.getD i ins0 = b.code.getD i ins0 := by simpa using h
        exact ⟨i + 1, ⟨hlt, fun j hj => by rcases Nat.lt_succ_iff_lt_or_eq.1 hj with q | rfl; exact hi.2 j q; exact he⟩, (show a.code.length - (i + 1) < a.code.length - i by omega), ⟨rfl, rfl⟩, .refl _, .int hwj, .refl _, ⟨.refl _, .refl _, .refl _, .refl _, .refl _, .refl _, .refl _, .refl _, .refl _, trivial⟩, ⟨.refl _, .refl _, .refl _, .refl _, .refl _, .refl _, .refl _, .refl _, .refl _, trivial⟩, trivial⟩
    have e_code : a.code = b.code := by
      have hge : i = a.code.length := Nat.le_antisymm hil (dge h)
      exact ext_getD ins0 l_code fun j (hj : j < a.code.length) => hi.2 j (hge ▸ hj)
    clear hi hil hwj h
    refine ⟨Nat, fun i => [(2, .box 2 0), (3, .box 3 0), (6, I i)], fun _ => [(2, methC a), (3, methC b)], fun i => i ≤ a.catches.length ∧ ∀ j, j < i → a.catches.getD j cat0 = b.catches.getD j cat0, fun i => a.catches.length - i,
      ⟨0, ⟨Nat.zero_le _, fun j hj => by omega⟩, ⟨⟨rfl, rfl⟩, .refl _, .refl _, .refl _, ⟨.refl _, .refl _, .refl _, .refl _, .refl _, .refl _, .refl _, .refl _, .refl _, trivial⟩, ⟨.refl _, .refl _, .refl _, .refl _, .refl _, .refl _, .refl _, .refl _, .refl _, trivial⟩, trivial⟩⟩, fun (i : Nat) hi => ?_⟩
    have hil : i ≤ a.catches.length := hi.1
    have hwj : IntKind.i64.wrap ((i : Int) + 1) = ((i + 1 : Nat) : Int) := by rw [wrap_eq _ (by omega) (by omega)]; omega
    refine ⟨fun h => ?_, fun h => ?_⟩
    · have hlt : i < a.catches.length := dlt h
      refine ⟨by kernel_rfl, ?_⟩
      refine ⟨(show 0 ≤ (i : Int) ∧ (i : Int) < (a.catches.length : Int) by omega), (show 0 ≤ (i : Int) ∧ (i : Int) < (b.catches.length : Int) by omega), ?_⟩
      refine ⟨a.catches.getD i cat0, b.catches.getD i cat0, ⟨.refl _, .refl _, .refl _, .refl _, trivial⟩, ⟨.refl _, .refl _, .refl _, .refl _, trivial⟩, ?_⟩
      refine ⟨fun h => ?_, fun h => ?_⟩
      · have h : (!cellsEq (catC (a.catches.getD i cat0)) (catC (b.catches.getD i cat0))) = true := h
        rw [cat_dec] at h
        exact ⟨no fun q => by rw [q] at h; simp at h, rfl⟩
      · have h : (!cellsEq (catC (a.catches.getD i cat0)) (catC (b.catches.getD i cat0))) = false := h
        rw [cat_dec] at h
        have he : a.catches.getD i cat0 = b.catches.getD i cat0 := by simpa using h
        exact ⟨i + 1, ⟨hlt, fun j hj => by rcases Nat.lt_succ_iff_lt_or_eq.1 hj with q | rfl; exact hi.2 j q; exact he⟩, (show a.catches.length - (i + 1) < a.catches.length - i by omega), ⟨rfl, rfl⟩, .refl _, .refl _, .int hwj, ⟨.refl _, .refl _, .refl _, .refl _, .refl _, .refl _, .refl _, .refl _, .refl _, trivial⟩, ⟨.refl _, .refl _, .refl _, .refl _, .refl _, .refl _, .refl _, .refl _, .refl _, trivial⟩, trivial⟩
    have e_catches : a.catches = b.catches := by
      have hge : i = a.catches.length := Nat.le_antisymm hil (dge h)
      exact ext_getD cat0 l_catches fun j (hj : j < a.catches.length) => hi.2 j (hge ▸ hj)
    clear hi hil hwj h
    exact ⟨.btt (decide_eq_true (by cases a; cases b; simp_all)), rfl⟩
set_option maxRecDepth 100000 in
set_option maxHeartbeats 4000000 in
theorem kClass_ok : CtrSound Tryz.prog 49 (kepC Cls (fun c => .agg (clsC c)) cLen) :=
  ctr_of_ax (env_ok tys_ok (eqs := [(66, flatC Fld fldC)]) ⟨fld_eq, trivial⟩ (cs := [(66, keepR ByteArray 1 strC noS), (67, kepC Meth (fun m => .agg (methC m)) mLen)]) ⟨kStrings_ok, kMethod_ok, trivial⟩) mixed _ Tryz.func49 (by kernel_rfl) rfl (fun _ _ => Nat.le_of_ble_eq_true rfl) fun ((a, b) : Cls × Cls) id hd => by
    have hd1 : cLen a := hd.1
    have hd2 : cLen b := hd.2
    obtain ⟨b1, b2, b3, b4⟩ := hd1
    have no : ¬ (a = b) → Sub .ff (B (decide (a = b))) := fun h => .bff (decide_eq_false h)
    refine ⟨fun h => ?_, fun h => ?_⟩
    · have h : (!(a.name.toList == b.name.toList)) = true := h
      exact ⟨no fun q => by rw [q] at h; simp at h, rfl⟩
    have e_name : a.name = b.name := baT (notF h)
    refine ⟨fun h => ?_, fun h => ?_⟩
    · have h : (!(a.iface == b.iface)) = true := h
      exact ⟨no fun q => by rw [q] at h; simp at h, rfl⟩
    have e_iface : a.iface = b.iface := by
      have h : (!(a.iface == b.iface)) = false := h
      simpa using h
    refine ⟨fun h => ?_, fun h => ?_⟩
    · have h : (!(a.super.toList == b.super.toList)) = true := h
      exact ⟨no fun q => by rw [q] at h; simp at h, rfl⟩
    have e_super : a.super = b.super := baT (notF h)
    refine ⟨(a.ifaces, b.ifaces), ⟨.refl _, .refl _, trivial⟩, rfl, b1, ?_⟩
    refine ⟨fun h => ?_, fun h => ?_⟩
    · have h : (!decide (a.ifaces = b.ifaces)) = true := h
      exact ⟨no fun q => by rw [q] at h; simp at h, rfl⟩
    have e_ifaces : a.ifaces = b.ifaces := by
      have h : (!decide (a.ifaces = b.ifaces)) = false := h
      simpa using h
    refine ⟨fun h => ?_, fun h => ?_⟩
    · have h : ((a.fields.length : Int) != (b.fields.length : Int)) = true := h
      exact ⟨no fun q => by rw [q] at h; simp at h, rfl⟩
    have l_fields : a.fields.length = b.fields.length := lneF h
    refine ⟨fun h => ?_, fun h => ?_⟩
    · have h : ((a.methods.length : Int) != (b.methods.length : Int)) = true := h
      exact ⟨no fun q => by rw [q] at h; simp at h, rfl⟩
    have l_methods : a.methods.length = b.methods.length := lneF h
    have b2 : a.fields.length ≤ 4611686018427387904 := b2
    have b3 : a.methods.length ≤ 4611686018427387904 := b3
    refine ⟨Nat, fun i => [(2, .box 2 0), (3, .box 3 0), (5, I i)], fun _ => [(2, clsC a), (3, clsC b)], fun i => i ≤ a.fields.length ∧ ∀ j, j < i → a.fields.getD j fld0 = b.fields.getD j fld0, fun i => a.fields.length - i,
      ⟨0, ⟨Nat.zero_le _, fun j hj => by omega⟩, ⟨⟨rfl, rfl⟩, .refl _, .refl _, .refl _, ⟨.refl _, .refl _, .refl _, .refl _, .refl _, .refl _, trivial⟩, ⟨.refl _, .refl _, .refl _, .refl _, .refl _, .refl _, trivial⟩, trivial⟩⟩, fun (i : Nat) hi => ?_⟩
    have hil : i ≤ a.fields.length := hi.1
    have hwj : IntKind.i64.wrap ((i : Int) + 1) = ((i + 1 : Nat) : Int) := by rw [wrap_eq _ (by omega) (by omega)]; omega
    refine ⟨fun h => ?_, fun h => ?_⟩
    · have hlt : i < a.fields.length := dlt h
      refine ⟨by kernel_rfl, ?_⟩
      refine ⟨(show 0 ≤ (i : Int) ∧ (i : Int) < (a.fields.length : Int) by omega), (show 0 ≤ (i : Int) ∧ (i : Int) < (b.fields.length : Int) by omega), ?_⟩
      refine ⟨a.fields.getD i fld0, b.fields.getD i fld0, ⟨.refl _, .refl _, .refl _, .refl _, trivial⟩, ⟨.refl _, .refl _, .refl _, .refl _, trivial⟩, ?_⟩
      refine ⟨fun h => ?_, fun h => ?_⟩
      · have h : (!cellsEq (fldC (a.fields.getD i fld0)) (fldC (b.fields.getD i fld0))) = true := h
        rw [fld_dec] at h
        exact ⟨no fun q => by rw [q] at h; simp at h, rfl⟩
      · have h : (!cellsEq (fldC (a.fields.getD i fld0)) (fldC (b.fields.getD i fld0))) = false := h
        rw [fld_dec] at h
        have he : a.fields.getD i fld0 = b.fields.getD i fld0 := by simpa using h
        exact ⟨i + 1, ⟨hlt, fun j hj => by rcases Nat.lt_succ_iff_lt_or_eq.1 hj with q | rfl; exact hi.2 j q; exact he⟩, (show a.fields.length - (i + 1) < a.fields.length - i by omega), ⟨rfl, rfl⟩, .refl _, .int hwj, .refl _, ⟨.refl _, .refl _, .refl _, .refl _, .refl _, .refl _, trivial⟩, ⟨.refl _, .refl _, .refl _, .refl _, .refl _, .refl _, trivial⟩, trivial⟩
    have e_fields : a.fields = b.fields := by
      have hge : i = a.fields.length := Nat.le_antisymm hil (dge h)
      exact ext_getD fld0 l_fields fun j (hj : j < a.fields.length) => hi.2 j (hge ▸ hj)
    clear hi hil hwj h
    refine ⟨Nat, fun i => [(2, .box 2 0), (3, .box 3 0), (6, I i)], fun _ => [(2, clsC a), (3, clsC b)], fun i => i ≤ a.methods.length ∧ ∀ j, j < i → a.methods.getD j meth0 = b.methods.getD j meth0, fun i => a.methods.length - i,
      ⟨0, ⟨Nat.zero_le _, fun j hj => by omega⟩, ⟨⟨rfl, rfl⟩, .refl _, .refl _, .refl _, ⟨.refl _, .refl _, .refl _, .refl _, .refl _, .refl _, trivial⟩, ⟨.refl _, .refl _, .refl _, .refl _, .refl _, .refl _, trivial⟩, trivial⟩⟩, fun (i : Nat) hi => ?_⟩
    have hil : i ≤ a.methods.length := hi.1
    have hwj : IntKind.i64.wrap ((i : Int) + 1) = ((i + 1 : Nat) : Int) := by rw [wrap_eq _ (by omega) (by omega)]; omega
    refine ⟨fun h => ?_, fun h => ?_⟩
    · have hlt : i < a.methods.length := dlt h
      refine ⟨by kernel_rfl, ?_⟩
      refine ⟨(show 0 ≤ (i : Int) ∧ (i : Int) < (a.methods.length : Int) by omega), (show 0 ≤ (i : Int) ∧ (i : Int) < (b.methods.length : Int) by omega), ?_⟩
      refine ⟨(a.methods.getD i meth0, b.methods.getD i meth0), ⟨.refl _, .refl _, trivial⟩, rfl, ⟨b4 _ (getT_mem _ _ _ hlt), hd2.2.2.2 _ (getT_mem _ _ _ (l_methods ▸ hlt))⟩, ?_⟩
      refine ⟨fun h => ?_, fun h => ?_⟩
      · have h : (!decide ((a.methods.getD i meth0) = (b.methods.getD i meth0))) = true := h
        skip
        exact ⟨no fun q => by rw [q] at h; simp at h, rfl⟩
      · have h : (!decide ((a.methods.getD i meth0) = (b.methods.getD i meth0))) = false := h
        skip
        have he : a.methods.getD i meth0 = b.methods.getD i meth0 := by simpa using h
        exact ⟨i + 1, ⟨hlt, fun j hj => by rcases Nat.lt_succ_iff_lt_or_eq.1 hj with q | rfl; exact hi.2 j q; exact he⟩, (show a.methods.length - (i + 1) < a.methods.length - i by omega), ⟨rfl, rfl⟩, .refl _, .refl _, .int hwj, ⟨.refl _, .refl _, .refl _, .refl _, .refl _, .refl _, trivial⟩, ⟨.refl _, .refl _, .refl _, .refl _, .refl _, .refl _, trivial⟩, trivial⟩
    have e_methods : a.methods = b.methods := by
      have hge : i = a.methods.length := Nat.le_antisymm hil (dge h)
      exact ext_getD meth0 l_methods fun j (hj : j < a.methods.length) => hi.2 j (hge ▸ hj)
    clear hi hil hwj h
    exact ⟨.btt (decide_eq_true (by cases a; cases b; simp_all)), rfl⟩
def kRow : Ctr := { A := List Cls × List Cls, enc := fun x => [prgR x.1, prgR x.2], dom := fun x => pLen x.1 ∧ pLen x.2, res := fun x _ => B (decide (x.1 = x.2)) }
set_option maxRecDepth 100000 in
theorem kClasses_ok : CtrSound Tryz.prog 24 kRow :=
  ctr_of_ax (env_ok tys_ok (eqs := []) trivial (cs := [(49, kepC Cls (fun c => .agg (clsC c)) cLen)]) ⟨kClass_ok, trivial⟩) mixed _ Tryz.func24 (by kernel_rfl) rfl (fun _ _ => Nat.le_of_ble_eq_true rfl) fun ((k, l) : List Cls × List Cls) id hd => by
    have hd0 : pLen k := hd.1
    have hd2 : pLen l := hd.2
    have hd : k.length ≤ 4611686018427387904 := hd0.1
    have no : ¬ (k = l) → Sub .ff (B (decide (k = l))) := fun h => .bff (decide_eq_false h)
    refine ⟨fun h2 => ?_, fun h2 => ?_⟩
    · exact ⟨no fun q => lneT h2 (by rw [q]), rfl⟩
    have hl : k.length = l.length := lneF h2
    refine ⟨Nat, fun i => [(0, prgR k), (1, prgR l), (5, I i)], fun _ => [], fun i => i ≤ k.length ∧ ∀ j, j < i → k.getD j cls0 = l.getD j cls0, fun i => k.length - i,
      ⟨0, ⟨Nat.zero_le _, fun j hj => by omega⟩, ⟨⟨rfl, rfl⟩, .refl _, .refl _, .refl _, trivial⟩⟩, fun (i : Nat) hi => ?_⟩
    have hil := hi.1
    have hwj : IntKind.i64.wrap ((i : Int) + 1) = ((i + 1 : Nat) : Int) := by rw [wrap_eq _ (by omega) (by omega)]; omega
    refine ⟨fun h => ?_, fun h => ?_⟩
    · have hlt : i < k.length := dlt h
      refine ⟨by kernel_rfl, ?_⟩
      refine ⟨⟨by omega, by omega⟩, ⟨by omega, by omega⟩, ?_⟩
      refine ⟨(k.getD i cls0, l.getD i cls0), ⟨.refl _, .refl _, trivial⟩, rfl, ⟨hd0.2 _ (getT_mem _ _ _ hlt), hd2.2 _ (getT_mem _ _ _ (hl ▸ hlt))⟩, ?_⟩
      refine ⟨fun h => ?_, fun h => ?_⟩
      · have h : (!decide (k.getD i cls0 = l.getD i cls0)) = true := h
        exact ⟨no fun q => by rw [q] at h; simp at h, rfl⟩
      · have h : (!decide (k.getD i cls0 = l.getD i cls0)) = false := h
        have he : k.getD i cls0 = l.getD i cls0 := by simpa using h
        exact ⟨i + 1, ⟨hlt, fun j hj => by rcases Nat.lt_succ_iff_lt_or_eq.1 hj with q | rfl; exact hi.2 j q; exact he⟩, by show k.length - (i + 1) < k.length - i; omega, ⟨rfl, rfl⟩, .refl _, .refl _, .int hwj, trivial⟩
    · have hge : i = k.length := Nat.le_antisymm hil (dge h)
      exact ⟨.btt (decide_eq_true (ext_getD cls0 hl fun j (hj : j < k.length) => hi.2 j (hge ▸ hj))), rfl⟩
def kPrg : Ctr := { A := List Cls × List Cls, enc := fun x => [.agg [prgR x.1], .agg [prgR x.2]], dom := fun x => pLen x.1 ∧ pLen x.2, res := fun x _ => B (decide (x.1 = x.2)) }
set_option maxRecDepth 100000 in
theorem kPrg_ok : CtrSound Tryz.prog 10 kPrg :=
  ctr_of_ax (env_ok tys_ok (eqs := []) trivial (cs := [(24, kRow)]) ⟨kClasses_ok, trivial⟩) mixed _ Tryz.func10 (by kernel_rfl) rfl (fun _ _ => Nat.le_of_ble_eq_true rfl) fun ((k, l) : List Cls × List Cls) id hd => by
    refine ⟨(k, l), ⟨.refl _, .refl _, trivial⟩, rfl, hd, ?_⟩
    exact ⟨.refl _, rfl⟩
end Go.Proofs.YtimhbimpaiiceaaGreatDoor.Ax
/- Layer parse: ParseBlanks. -/
set_option linter.unusedVariables false
set_option linter.unusedSimpArgs false
namespace Go.Proofs.YtimhbimpaiiceaaGreatDoor.Ax
open Go Go.RowKit
theorem tok_wd {s : List UInt8} (i : Nat) (h : (tokenF s).2 = true) : wdS (setAt (tokenF s).1 i) = s ∧ wdOk (setAt (tokenF s).1 i) = true := by
  have key : wdS (setAt (tokenF s).1 i) = s := by
    rcases tok_cases h with ⟨m, e, hm⟩ | hn | ⟨h2, h3⟩
    · rw [e, tok_num hm]; rfl
    · rw [tok_name hn]; simp [wdS, setAt, txt]
    · rw [tok_sign h2 h3]; simp [wdS, setAt, txt]
  refine ⟨key, ?_⟩
  unfold wdOk
  rw [key, h]; simp [setAt]
def chain (b : List UInt8) : Nat → List (Int × ByteArray × Int × Int) → Prop
  | _, [] => True
  | e, t :: r => ∃ a : Nat, t.2.2.2 = (a : Int) ∧ e ≤ a ∧ a + (wdS t).length ≤ b.length ∧ (b.drop a).take (wdS t).length = wdS t ∧ wdOk t = true ∧ chain b (a + (wdS t).length) r
theorem chain_le (b : List UInt8) : ∀ (l : List (Int × ByteArray × Int × Int)) (e f : Nat), f ≤ e → chain b e l → chain b f l
  | [], _, _, _, _ => trivial
  | t :: r, e, f, h, ⟨a, h1, h2, h3⟩ => ⟨a, h1, by omega, h3⟩
theorem chain_scan (b : List UInt8) : ∀ (f i : Nat), i ≤ b.length → chain b i (scanL f i (b.drop i)).1 ∧ ∀ x, (scanL f i (b.drop i)).2 = some x → x ≤ b.length := by
  intro f
  induction f with
  | zero =>
    intro i hi
    cases hd : b.drop i with
    | nil => exact ⟨trivial, fun x hx => by cases hx⟩
    | cons c r => exact ⟨trivial, fun x hx => by cases hx; exact hi⟩
  | succ f ih =>
    intro i hi
    cases hd : b.drop i with
    | nil => exact ⟨trivial, fun x hx => by cases hx⟩
    | cons c r =>
      have hlen : (b.drop i).length = b.length - i := List.length_drop ..
      have hlt : i < b.length := by rw [hd] at hlen; simp at hlen; omega
      have hr : b.drop (i + 1) = r := by rw [← List.drop_drop, hd]; rfl
      simp only [scanL]
      split
      · have := ih (i + 1) hlt
        rw [hr] at this
        exact ⟨chain_le b _ _ _ (Nat.le_succ i) this.1, this.2⟩
      · split
        · rename_i ht
          have hwl := wordF_le (c :: r)
          rw [← hd, hlen] at hwl
          have hdw : b.drop (i + wordF (b.drop i)) = (b.drop i).drop (wordF (b.drop i)) := by rw [List.drop_drop]
          have := ih (i + wordF (b.drop i)) (by omega)
          rw [hdw] at this
          rw [hd] at this hwl
          obtain ⟨k1, k2⟩ := tok_wd i ht
          have hl2 : (wdS (setAt (tokenF ((c :: r).take (wordF (c :: r)))).1 i)).length = wordF (c :: r) := by
            rw [k1, List.length_take, ← hd, hlen]; rw [hd]; omega
          refine ⟨⟨i, rfl, Nat.le_refl _, by rw [hl2]; omega, by rw [hl2, hd, k1], k2, by rw [hl2]; exact this.1⟩, this.2⟩
        · exact ⟨trivial, fun x hx => by cases hx; exact hi⟩
theorem chain_F (b : List UInt8) : chain b 0 (scanF b).1 := by
  unfold scanF
  split
  · exact trivial
  · have := (chain_scan b b.length 0 (Nat.zero_le _)).1
    rw [List.drop_zero] at this
    cases hc : (scanI 0 b).2 with
    | none => exact this
    | some x => exact trivial
theorem chain_wd (b : List UInt8) : ∀ (l : List (Int × ByteArray × Int × Int)) (e : Nat), chain b e l → ∀ t ∈ l, wdOk t = true
  | [], _, _, t, h => by cases h
  | t :: r, e, ⟨a, h1, h2, h3, h4, h5, h6⟩, u, hu => by
    rcases List.mem_cons.1 hu with rfl | q
    · exact h5
    · exact chain_wd b r _ h6 u q
theorem scan_wd (b : List UInt8) : (scanF b).1.all wdOk = true := List.all_eq_true.2 (chain_wd b _ 0 (chain_F b))
theorem namesL_len : ∀ (f : Nat) (r : Rs) (out : List ByteArray), (Rs.namesL f r out).1.length ≤ out.length + f
  | 0, _, _ => Nat.le_refl _
  | f + 1, r, out => by
    unfold Rs.namesL
    split
    · have := namesL_len f (r.name1 out.length).fresh (out ++ [(r.name1 out.length).freshV])
      rw [List.length_append, List.length_singleton] at this
      omega
    · show out.length ≤ _; omega
theorem paramsL_len : ∀ (f : Nat) (r : Rs) (out : List Ty), (Rs.paramsL f r out).1.length ≤ out.length + f
  | 0, _, _ => Nat.le_refl _
  | f + 1, r, out => by
    unfold Rs.paramsL
    split
    · have := paramsL_len f (r.param1 out.length).kind (out ++ [(r.param1 out.length).kindV])
      rw [List.length_append, List.length_singleton] at this
      omega
    · show out.length ≤ _; omega
theorem codeL_len : ∀ (f : Nat) (r : Rs) (out : List Ins), (Rs.codeL f r out).1.length ≤ out.length + f
  | 0, _, _ => Nat.le_refl _
  | f + 1, r, out => by
    unfold Rs.codeL
    split
    · have := codeL_len f (r.instr out.length).2 (out ++ [(r.instr out.length).1])
      rw [List.length_append, List.length_singleton] at this
      omega
    · show out.length ≤ _; omega
theorem catchL_len : ∀ (f : Nat) (r : Rs) (out : List Cat), (Rs.catchL f r out).1.length ≤ out.length + f
  | 0, _, _ => Nat.le_refl _
  | f + 1, r, out => by
    unfold Rs.catchL
    split
    · have := catchL_len f (r.ca1 out.length).catR (out ++ [(r.ca1 out.length).catV])
      rw [List.length_append, List.length_singleton] at this
      omega
    · show out.length ≤ _; omega
theorem names_len (r : Rs) : r.names.1.length ≤ r.L.length + 3 := by
  unfold Rs.names
  have := namesL_len (r.L.length + 2) r.fresh [r.freshV]
  rw [List.length_singleton] at this
  omega
theorem params_len (r : Rs) : r.params.1.length ≤ r.L.length + 3 := by
  unfold Rs.params
  split
  · show 0 ≤ _; omega
  · have := paramsL_len (r.L.length + 2) (r.want wLp).kind [(r.want wLp).kindV]
    rw [List.length_singleton] at this
    show (Rs.paramsL (r.L.length + 2) (r.want wLp).kind [(r.want wLp).kindV]).1.length ≤ _
    omega
theorem mmV_len (r : Rs) (s : Bool) (h : r.L.length + 10 ≤ LB) : mLen (r.mmV s) := by
  have h0 := params_len r.fresh
  rw [(Rs.fresh_fwd r).L] at h0
  have h1 := codeL_len (r.mm1.L.length + 2) r.mm1.bo1 []
  have h2 := catchL_len (r.mm1.L.length + 2) r.mm1.boCode.2 []
  rw [(Rs.mm1_fwd r).L, List.length_nil] at h1 h2
  unfold Rs.mmV
  split
  · exact ⟨by show r.fresh.params.1.length ≤ _; omega, by show 0 ≤ _; omega, by show 0 ≤ _; omega⟩
  · refine ⟨by show r.fresh.params.1.length ≤ _; omega, ?_, ?_⟩
    · show (Rs.codeL (r.mm1.L.length + 2) r.mm1.bo1 []).1.length ≤ _
      rw [(Rs.mm1_fwd r).L]; omega
    · show (Rs.catchL (r.mm1.L.length + 2) r.mm1.boCode.2 []).1.length ≤ _
      rw [(Rs.mm1_fwd r).L]; omega
theorem clsL_len : ∀ (f : Nat) (r : Rs) (c : Cls), r.L.length + 10 ≤ LB → c.ifaces.length ≤ LB → c.fields.length + f ≤ LB → c.methods.length + f ≤ LB → (∀ m ∈ c.methods, mLen m) → cLen (Rs.clsL f r c).1
  | 0, _, _, _, h1, h2, h3, h4 => ⟨h1, Nat.le_trans (Nat.le_add_right _ 0) h2, Nat.le_trans (Nat.le_add_right _ 0) h3, h4⟩
  | f + 1, r, c, h, h1, h2, h3, h4 => by
    unfold Rs.clsL
    split
    · split
      · exact ⟨h1, by show c.fields.length ≤ _; omega, by show c.methods.length ≤ _; omega, h4⟩
      · have hL := (Rs.member_fwd r c).L
        refine clsL_len f _ _ (by rw [hL]; exact h) ?_ ?_ ?_ ?_
        all_goals unfold Rs.member
        · split
          · exact h1
          · split <;> exact h1
        · split
          · show (c.fields ++ [_]).length + f ≤ _
            rw [List.length_append, List.length_singleton]; omega
          · split
            · show c.fields.length + f ≤ _; omega
            · show c.fields.length + f ≤ _; omega
        · split
          · show c.methods.length + f ≤ _; omega
          · split
            · show (c.methods ++ [_]).length + f ≤ _
              rw [List.length_append, List.length_singleton]; omega
            · show c.methods.length + f ≤ _; omega
        · split
          · exact h4
          · split
            · intro m hm
              rcases List.mem_append.1 hm with q | q
              · exact h4 m q
              · rw [List.mem_singleton.1 q]
                exact mmV_len _ _ (by rw [(Rs.memF_fwd r _).L]; exact h)
            · exact h4
    · exact ⟨h1, by show c.fields.length ≤ _; omega, by show c.methods.length ≤ _; omega, h4⟩
theorem class_len (r : Rs) (k : Int) (h : r.L.length + 10 ≤ LB) : cLen (r.class' k).1 := by
  have e1 : (r.cl1 k).fresh.L = r.L := (Rs.fresh_fwd _).L.trans (Rs.cl1_fwd r k).L
  have e2 : ((r.cl1 k).fresh.ex1 (r.is wInterface)).2.L = r.L := (Rs.ex1_fwd _ _).L.trans e1
  have e3 : (r.clR k).L = r.L := (Rs.want_fwd _ _).L.trans ((Rs.ex2_fwd _ _ _).L.trans e2)
  have hx : ∀ b, ((r.cl1 k).fresh.ex1 b).1.2.length ≤ LB := by
    intro b
    unfold Rs.ex1
    split
    · split
      · have := names_len (r.cl1 k).fresh.step
        have e4 : (r.cl1 k).fresh.step.L = r.L := e1
        rw [e4] at this
        show (r.cl1 k).fresh.step.names.1.length ≤ _; omega
      · show 0 ≤ _; omega
    · show 0 ≤ _; omega
  unfold Rs.class'
  refine clsL_len _ _ _ (by rw [e3]; exact h) ?_ (by show 0 + _ ≤ _; omega) (by show 0 + _ ≤ _; omega) (fun m hm => by cases hm)
  show ((((r.cl1 k).fresh.ex1 (r.is wInterface)).2.ex2 (r.is wInterface) ((r.cl1 k).fresh.ex1 (r.is wInterface)).1.2).1).length ≤ LB
  unfold Rs.ex2
  split
  · have := names_len ((r.cl1 k).fresh.ex1 (r.is wInterface)).2.step
    have e4 : ((r.cl1 k).fresh.ex1 (r.is wInterface)).2.step.L = r.L := e2
    rw [e4] at this
    omega
  · exact hx _
theorem prgL_len : ∀ (f : Nat) (r : Rs) (out : List Cls), r.L.length + 10 ≤ LB → out.length + f ≤ LB → (∀ c ∈ out, cLen c) → pLen (Rs.prgL f r out).1
  | 0, _, _, _, h2, h3 => ⟨Nat.le_trans (Nat.le_add_right _ 0) h2, h3⟩
  | f + 1, r, out, h, h2, h3 => by
    unfold Rs.prgL
    split
    · refine prgL_len f _ _ (by rw [(Rs.class_fwd r _).L]; exact h) (by rw [List.length_append, List.length_singleton]; omega) (fun c hc => ?_)
      rcases List.mem_append.1 hc with q | q
      · exact h3 c q
      · rw [List.mem_singleton.1 q]; exact class_len r _ h
    · exact ⟨by show out.length ≤ _; omega, h3⟩
theorem parse_len (b : List UInt8) : pLen (parseF b).1 := by
  have hk := scan_count b
  unfold parseF
  split
  · split
    · exact prgL_len _ _ _ (by show (scanF b).1.length + 10 ≤ 4611686018427387904; omega) (by show 0 + _ ≤ 4611686018427387904; omega) (fun c hc => by cases hc)
    · exact ⟨Nat.zero_le _, fun c hc => by cases hc⟩
  · exact ⟨Nat.zero_le _, fun c hc => by cases hc⟩
def ParseBlanks : Ctr := { A := List UInt8, enc := fun b => [.row UInt8 1 byteC 0 b], dom := fun b => True, res := fun _ _ => .tt, gl := tabP }
end Go.Proofs.YtimhbimpaiiceaaGreatDoor.Ax
/- Layer parse: ParseCut. -/
set_option linter.unusedVariables false
set_option linter.unusedSimpArgs false
namespace Go.Proofs.YtimhbimpaiiceaaGreatDoor.Ax
open Go Go.RowKit
namespace Rs
def rem (r : Rs) : List T3 := (r.L.drop r.i).map s3
/-- both are wrong alike, or what is left of the first is what is left of the second and X behind it -/
def Rel (X : List T3) (r s : Rs) : Prop := r.e = s.e ∧ (r.e = 0 → rem r = rem s ++ X)
def Halt (s : Rs) : Prop := (s.e = 0 ∧ s.L.length ≤ s.i) ∨ (s.e = 4 ∧ s.at' = s.n)
def Out (X : List T3) {α : Type} (a b : α × Rs) : Prop := (a.1 = b.1 ∧ Rel X a.2 b.2) ∨ (X ≠ [] ∧ Halt b.2)
def OutR (X : List T3) (a b : Rs) : Prop := Rel X a b ∨ (X ≠ [] ∧ Halt b)
theorem rem_nil {r : Rs} : rem r = [] ↔ r.L.length ≤ r.i := by simp [rem]
theorem rem_cons {r : Rs} {t : T3} {l : List T3} (h : rem r = t :: l) : r.i < r.L.length ∧ s3 (r.L.getD r.i tok0) = t ∧ rem r.step = l := by
  have hi : r.i < r.L.length := Nat.lt_of_not_le fun c => by rw [rem_nil.2 c] at h; cases h
  unfold rem at h
  rw [List.drop_eq_getElem_cons hi, List.map_cons] at h
  injection h with h1 h2
  refine ⟨hi, ?_, h2⟩
  have hg : r.L.getD r.i tok0 = r.L[r.i] := by simp [List.getD, hi]
  rw [hg]; exact h1
theorem look {X : List T3} {r s : Rs} (h : Rel X r s) : (X ≠ [] ∧ s.e = 0 ∧ s.L.length ≤ s.i) ∨ s3 r.next = s3 s.next := by
  by_cases he : r.e = 0
  · have hs : s.e = 0 := h.1 ▸ he
    have hr := h.2 he
    cases hm : rem s with
    | nil =>
      have hi := rem_nil.1 hm
      by_cases hX : X = []
      · right
        rw [hm, hX] at hr
        have hj := rem_nil.1 hr
        rw [next_none (fun c => by omega), next_none (fun c => by omega)]
      · exact .inl ⟨hX, hs, hi⟩
    | cons t l =>
      rw [hm] at hr
      obtain ⟨h1, h2, h3⟩ := rem_cons hm
      obtain ⟨k1, k2, k3⟩ := rem_cons (show rem r = t :: (l ++ X) from hr)
      right
      rw [next_some ⟨he, k1⟩, next_some ⟨hs, h1⟩, h2, k2]
  · right
    have hs : ¬ s.e = 0 := h.1 ▸ he
    rw [next_none (fun c => he c.1), next_none (fun c => hs c.1)]
theorem nx1 {r s : Rs} (h : s3 r.next = s3 s.next) : r.next.1 = s.next.1 := by have := congrArg Prod.fst h; exact this
theorem nx2 {r s : Rs} (h : s3 r.next = s3 s.next) : r.next.2.1 = s.next.2.1 := by have := congrArg (fun x => x.2.1) h; exact this
theorem nx3 {r s : Rs} (h : s3 r.next = s3 s.next) : r.next.2.2.1 = s.next.2.2.1 := by have := congrArg (fun x => x.2.2) h; exact this
theorem is_eq {r s : Rs} (h : s3 r.next = s3 s.next) (w : ByteArray) : r.is w = s.is w := by unfold is; rw [nx2 h]
theorem free_eq {r s : Rs} (h : s3 r.next = s3 s.next) : r.free = s.free := by unfold free; rw [nx1 h, nx2 h]
theorem freshV_eq {r s : Rs} (h : s3 r.next = s3 s.next) : r.freshV = s.freshV := by unfold freshV; rw [free_eq h, nx2 h]
theorem numOk_eq {r s : Rs} (h : s3 r.next = s3 s.next) (a b : Int) : r.numOk a b = s.numOk a b := by unfold numOk; rw [nx1 h, nx3 h]
theorem numV_eq {r s : Rs} (h : s3 r.next = s3 s.next) (a b : Int) : r.numV a b = s.numV a b := by unfold numV; rw [numOk_eq h, nx3 h]
theorem step_rel {X : List T3} {r s : Rs} (h : Rel X r s) (k : s.e = 0 ∧ s.i < s.L.length) : Rel X r.step s.step := by
  refine ⟨h.1, fun he => ?_⟩
  have hr := h.2 he
  cases hm : rem s with
  | nil => have := rem_nil.1 hm; omega
  | cons t l =>
    rw [hm] at hr
    rw [(rem_cons hm).2.2, (rem_cons (show rem r = t :: (l ++ X) from hr)).2.2]
theorem fail_rel {X : List T3} {r s : Rs} (h : Rel X r s) {e : Int} (he : e ≠ 0) : Rel X (r.fail e) (s.fail e) := by
  by_cases h0 : r.e = 0
  · have h1 : s.e = 0 := h.1 ▸ h0
    have e1 : (r.fail e).e = e := by unfold fail; rw [if_pos h0]
    have e2 : (s.fail e).e = e := by unfold fail; rw [if_pos h1]
    exact ⟨by rw [e1, e2], fun c => absurd (e1 ▸ c) he⟩
  · have h1 : ¬ s.e = 0 := h.1 ▸ h0
    have e1 : r.fail e = r := by unfold fail; rw [if_neg h0]
    have e2 : s.fail e = s := by unfold fail; rw [if_neg h1]
    rw [e1, e2]; exact h
theorem room_rel {X : List T3} {r s : Rs} (h : Rel X r s) (a b : Int) : Rel X (r.room a b) (s.room a b) := by
  unfold room; split
  · exact fail_rel h (by decide)
  · exact h
theorem halt_next {s : Rs} (h : Halt s) : s.next = tok0 := next_none fun c => by
  rcases h with h | h
  · omega
  · have := c.1; have := h.1; omega
theorem halt_free {s : Rs} (h : Halt s) : s.free = false := by unfold free; rw [halt_next h]; rfl
theorem halt_num {s : Rs} (h : Halt s) (a b : Int) : s.numOk a b = false := by
  unfold numOk; rw [halt_next h]; exact decide_eq_false fun c => by have := c.1; revert this; decide
theorem halt_fail {s : Rs} (h : Halt s) : Halt (s.fail 4) := by
  unfold fail
  split
  · rename_i h0
    rcases h with h | h
    · right; exact ⟨rfl, by show (if _ then _ else _) = _; rw [if_neg (by have := h.2; show ¬ s.i < s.L.length; omega)]⟩
    · exact absurd h0 (by rw [h.1]; decide)
  · exact h
theorem halt_fresh {s : Rs} (h : Halt s) : Halt s.fresh := by unfold fresh; rw [halt_free h]; exact halt_fail h
theorem halt_numR {s : Rs} (h : Halt s) (a b : Int) : Halt (s.num a b) := by unfold num; rw [halt_num h]; exact halt_fail h
theorem fresh_out {X : List T3} {r s : Rs} (h : Rel X r s) : Out X (r.freshV, r.fresh) (s.freshV, s.fresh) := by
  rcases look h with k | k
  · exact .inr ⟨k.1, halt_fresh (.inl k.2)⟩
  · left
    refine ⟨freshV_eq k, ?_⟩
    show Rel X r.fresh s.fresh
    unfold fresh
    rw [free_eq k]
    split
    · exact step_rel h (free_at (by assumption))
    · exact fail_rel h (by decide)
theorem num_out {X : List T3} {r s : Rs} (h : Rel X r s) (a b : Int) : Out X (r.numV a b, r.num a b) (s.numV a b, s.num a b) := by
  rcases look h with k | k
  · exact .inr ⟨k.1, halt_numR (.inl k.2) a b⟩
  · left
    refine ⟨numV_eq k a b, ?_⟩
    show Rel X (r.num a b) (s.num a b)
    unfold num
    rw [numOk_eq k]
    split
    · exact step_rel h (num_at (by assumption))
    · exact fail_rel h (by decide)
theorem Out.bind {X : List T3} {α β : Type} {a b : α × Rs} {c d : β × Rs} (h : Out X a b) (g : a.1 = b.1 → Rel X a.2 b.2 → Out X c d) (k : Halt b.2 → Halt d.2) : Out X c d := by
  rcases h with h | h
  · exact g h.1 h.2
  · exact .inr ⟨h.1, k h.2⟩
theorem OutR.bind {X : List T3} {a b c d : Rs} (h : OutR X a b) (g : Rel X a b → OutR X c d) (k : Halt b → Halt d) : OutR X c d := by
  rcases h with h | h
  · exact g h
  · exact .inr ⟨h.1, k h.2⟩
theorem OutR.bindV {X : List T3} {β : Type} {a b : Rs} {c d : β × Rs} (h : OutR X a b) (g : Rel X a b → Out X c d) (k : Halt b → Halt d.2) : Out X c d := by
  rcases h with h | h
  · exact g h
  · exact .inr ⟨h.1, k h.2⟩
theorem Out.r {X : List T3} {α : Type} {a b : α × Rs} (h : Out X a b) : OutR X a.2 b.2 := h.elim (fun h => .inl h.2) .inr
/-- loops -/
def loop {γ : Type} (C : Rs → Bool) (G : Rs → γ → γ × Rs) : Nat → Rs → γ → γ × Rs
  | 0, r, c => (c, r)
  | f + 1, r, c => if C r then loop C G f (G r c).2 (G r c).1 else (c, r)
structure LoopOk (X : List T3) {γ : Type} (C : Rs → Bool) (G : Rs → γ → γ × Rs) : Prop where
  eq : ∀ {r s : Rs}, s3 r.next = s3 s.next → C r = C s
  now : ∀ {r : Rs}, C r = true → r.e = 0 ∧ r.i < r.L.length
  out : ∀ {r s : Rs} (c : γ), Rel X r s → C s = true → Out X (G r c) (G s c)
  fwd : ∀ {r : Rs} (c : γ), C r = true → Fwd r (G r c).2 ∧ ((G r c).2.e ≠ 0 ∨ r.i < (G r c).2.i)
def Room (f : Nat) (r : Rs) : Prop := r.e = 0 → (rem r).length < f
/-- names -/
theorem name1_out {X : List T3} {r s : Rs} (h : Rel X r s) (hs : s.e = 0 ∧ s.i < s.L.length) (k : Int) : OutR X (r.name1 k) (s.name1 k) := by
  have hp := step_rel h hs
  unfold name1
  rcases look hp with q | q
  · have hh : Halt s.step := .inl q.2
    rw [halt_free hh]
    exact .inr ⟨q.1, hh⟩
  · rw [free_eq q]
    split
    · exact .inl (room_rel hp _ _)
    · exact .inl hp
theorem names_ok (X : List T3) : LoopOk X (fun r => r.is wComma) (fun (r : Rs) (out : List ByteArray) => (out ++ [(r.name1 out.length).freshV], (r.name1 out.length).fresh)) where
  eq h := is_eq h _
  now h := is_at h
  out {r s} c h hc := (name1_out h (is_at hc) c.length).bindV (fun k => (fresh_out k).elim (fun q => .inl ⟨congrArg (fun x => c ++ [x]) q.1, q.2⟩) .inr) halt_fresh
  fwd {r} c hc := ⟨(name1_fwd (is_at hc) _).trans (fresh_fwd _), on_fwd (name1_on r _) (fresh_fwd _)⟩
theorem Out.of {X : List T3} {α : Type} {a b : α} {r s : Rs} (h : a = b) (k : OutR X r s) : Out X (a, r) (b, s) := k.elim (fun q => .inl ⟨h, q⟩) .inr
end Rs
namespace Rs
end Rs
def ParseCut : Ctr := { A := List UInt8 × Int, enc := fun x => [.row UInt8 1 byteC 0 x.1, I x.2], dom := fun _ => True, res := fun _ _ => .tt, gl := tabP }
end Go.Proofs.YtimhbimpaiiceaaGreatDoor.Ax
/- Layer parse: ParseJoin, in plain Lean: two texts, one behind the other. -/
set_option linter.unusedVariables false
set_option linter.unusedSimpArgs false
namespace Go.Proofs.YtimhbimpaiiceaaGreatDoor.Ax
open Go Go.RowKit
namespace Rs
end Rs
end Go.Proofs.YtimhbimpaiiceaaGreatDoor.Ax
/- The reference's parser, in plain Lean; it parses as parse.Program does. -/
set_option linter.unusedVariables false
set_option linter.unusedSimpArgs false
namespace Go.Proofs.YtimhbimpaiiceaaGreatDoor.Ax
open Go Go.RowKit
/-- where something is wrong is the place of the word that stands next -/
def Pl (r : Rs) : Prop := r.e ≠ 0 → r.at' = if r.i < r.L.length then (r.L.getD r.i tok0).2.2.2 else r.n
def Pls (r s : Rs) : Prop := Pl r → Pl s
theorem Pls.refl (r : Rs) : Pls r r := fun h => h
theorem Pls.trans {a b c : Rs} (h : Pls a b) (k : Pls b c) : Pls a c := fun q => k (h q)
namespace Rs
theorem fail_pl (r : Rs) (e : Int) : Pls r (r.fail e) := by
  unfold fail
  split
  · exact fun _ _ => rfl
  · exact .refl _
theorem step_pl {r : Rs} (h : r.e = 0 ∧ r.i < r.L.length) : Pls r r.step := fun _ c => absurd h.1 c
theorem want_pl (r : Rs) (w : ByteArray) : Pls r (r.want w) := by
  unfold want
  split
  · exact step_pl (is_at (by assumption))
  · exact fail_pl _ _
theorem fresh_pl (r : Rs) : Pls r r.fresh := by
  unfold fresh
  split
  · exact step_pl (free_at (by assumption))
  · exact fail_pl _ _
theorem num_pl (r : Rs) (lo hi : Int) : Pls r (r.num lo hi) := by
  unfold num
  split
  · exact step_pl (num_at (by assumption))
  · exact fail_pl _ _
theorem room_pl (r : Rs) (a b : Int) : Pls r (r.room a b) := by
  unfold room
  split
  · exact fail_pl _ _
  · exact .refl _
theorem name1_pl {r : Rs} (h : r.e = 0 ∧ r.i < r.L.length) (k : Int) : Pls r (r.name1 k) := by
  unfold name1
  split
  · exact (step_pl h).trans (room_pl _ _ _)
  · exact step_pl h
theorem namesL_pl : ∀ (f : Nat) (r : Rs) (out : List ByteArray), Pls r (namesL f r out).2
  | 0, r, out => .refl _
  | f + 1, r, out => by
    unfold namesL
    split
    · exact ((name1_pl (is_at (by assumption)) _).trans (fresh_pl _)).trans (namesL_pl f _ _)
    · exact .refl _
theorem names_pl (r : Rs) : Pls r r.names.2 := (fresh_pl r).trans (namesL_pl _ _ _)
theorem rowR_pl (r : Rs) : Pls r r.rowR := by
  unfold rowR
  split
  · exact (step_pl (is_at (by assumption))).trans (want_pl _ _)
  · exact .refl _
theorem kind_pl (r : Rs) : Pls r r.kind := by
  unfold kind
  split
  · exact step_pl (is_at (by assumption))
  · split
    · exact (step_pl (is_at (by assumption))).trans (rowR_pl _)
    · exact (fresh_pl r).trans (rowR_pl _)
theorem param1_pl {r : Rs} (h : r.e = 0 ∧ r.i < r.L.length) (k : Int) : Pls r (r.param1 k) := by
  unfold param1
  split
  · exact (step_pl h).trans (room_pl _ _ _)
  · exact step_pl h
theorem paramsL_pl : ∀ (f : Nat) (r : Rs) (out : List Ty), Pls r (paramsL f r out).2
  | 0, r, out => .refl _
  | f + 1, r, out => by
    unfold paramsL
    split
    · exact ((param1_pl (is_at (by assumption)) _).trans (kind_pl _)).trans (paramsL_pl f _ _)
    · exact .refl _
theorem params_pl (r : Rs) : Pls r r.params.2 := by
  unfold params
  split
  · exact (want_pl r _).trans (step_pl (is_at (by assumption)))
  · exact (((want_pl r _).trans (kind_pl _)).trans (paramsL_pl _ _ _)).trans (want_pl _ _)
theorem in1_pl (r : Rs) (k : Int) : Pls r (r.in1 k) := (room_pl r k _).trans (want_pl _ _)
theorem in2_pl (r : Rs) (o : Int) : Pls r (r.in2 o) := by
  unfold in2
  split
  · exact num_pl _ _ _
  · exact .refl _
theorem in3_pl (r : Rs) (b : Bool) : Pls r (r.in3 b) := by
  unfold in3
  split
  · exact fresh_pl _
  · exact .refl _
theorem inArgs_pl (r : Rs) (o : Int) : Pls r (r.inArgs o) := ((in2_pl r o).trans (in3_pl _ _)).trans (in3_pl _ _)
theorem instr_pl (r : Rs) (k : Int) : Pls r (r.instr k).2 := ((in1_pl r k).trans (inArgs_pl _ _)).trans (want_pl _ _)
theorem codeL_pl : ∀ (f : Nat) (r : Rs) (out : List Ins), Pls r (codeL f r out).2
  | 0, r, out => .refl _
  | f + 1, r, out => by
    unfold codeL
    split
    · exact (instr_pl _ _).trans (codeL_pl f _ _)
    · exact .refl _
theorem ca1_pl (r : Rs) (k : Int) : Pls r (r.ca1 k) := (room_pl r k _).trans (want_pl _ _)
theorem catR_pl (r : Rs) : Pls r r.catR := ((((fresh_pl r).trans (num_pl _ _ _)).trans (num_pl _ _ _)).trans (num_pl _ _ _)).trans (want_pl _ _)
theorem catchL_pl : ∀ (f : Nat) (r : Rs) (out : List Cat), Pls r (catchL f r out).2
  | 0, r, out => .refl _
  | f + 1, r, out => by
    unfold catchL
    split
    · exact ((ca1_pl _ _).trans (catR_pl _)).trans (catchL_pl f _ _)
    · exact .refl _
theorem bo1_pl (r : Rs) : Pls r r.bo1 := ((want_pl r _).trans (num_pl _ _ _)).trans (want_pl _ _)
theorem boCode_pl (r : Rs) : Pls r r.boCode.2 := (bo1_pl r).trans (codeL_pl _ _ _)
theorem boCat_pl (r : Rs) : Pls r r.boCat.2 := (boCode_pl r).trans (catchL_pl _ _ _)
theorem body_pl (r : Rs) : Pls r r.body := (boCat_pl r).trans (want_pl _ _)
theorem mfR_pl (r : Rs) : Pls r r.mfR := (((fresh_pl r).trans (want_pl _ _)).trans (kind_pl _)).trans (want_pl _ _)
theorem mm1_pl (r : Rs) : Pls r r.mm1 := ((fresh_pl r).trans (params_pl _)).trans (kind_pl _)
theorem mmR_pl (r : Rs) : Pls r r.mmR := by
  unfold mmR
  split
  · exact (mm1_pl r).trans (step_pl (is_at (by assumption)))
  · exact (mm1_pl r).trans (body_pl _)
theorem memF_pl (r : Rs) (k : Int) : Pls r (r.memF k) := (room_pl r k _).trans (want_pl _ _)
theorem member_pl (r : Rs) (c : Cls) : Pls r (r.member c).2 := by
  unfold member
  split
  · exact (memF_pl r _).trans (mfR_pl _)
  · split
    · exact (memF_pl r _).trans (mmR_pl _)
    · exact fail_pl _ _
theorem clsL_pl : ∀ (f : Nat) (r : Rs) (c : Cls), Pls r (clsL f r c).2
  | 0, r, c => .refl _
  | f + 1, r, c => by
    unfold clsL
    split
    · split
      · exact step_pl (is_at (by assumption))
      · exact (member_pl _ _).trans (clsL_pl f _ _)
    · exact .refl _
theorem cl1_pl (r : Rs) (k : Int) : Pls r (r.cl1 k) := by
  unfold cl1
  split
  · exact (room_pl _ _ _).trans (want_pl _ _)
  · exact want_pl _ _
theorem ex1_pl (r : Rs) (b : Bool) : Pls r (r.ex1 b).2 := by
  unfold ex1
  split
  · split
    · exact (step_pl (is_at (by assumption))).trans (names_pl _)
    · exact (step_pl (is_at (by assumption))).trans (fresh_pl _)
  · exact .refl _
theorem ex2_pl (r : Rs) (b : Bool) (l : List ByteArray) : Pls r (r.ex2 b l).2 := by
  unfold ex2
  split
  · rename_i h
    rw [Bool.and_eq_true] at h
    exact (step_pl (is_at h.2)).trans (names_pl _)
  · exact .refl _
theorem clR_pl (r : Rs) (k : Int) : Pls r (r.clR k) := ((((cl1_pl r k).trans (fresh_pl _)).trans (ex1_pl _ _)).trans (ex2_pl _ _ _)).trans (want_pl _ _)
theorem class_pl (r : Rs) (k : Int) : Pls r (r.class' k).2 := (clR_pl r k).trans (clsL_pl _ _ _)
theorem prgL_pl : ∀ (f : Nat) (r : Rs) (out : List Cls), Pls r (prgL f r out).2
  | 0, r, out => .refl _
  | f + 1, r, out => by
    unfold prgL
    split
    · exact (class_pl _ _).trans (prgL_pl f _ _)
    · exact .refl _


theorem stuck {r s : Rs} (h : Fwd r s) (he : r.e ≠ 0) : s = r := h.err he
theorem fail_ne (r : Rs) {e : Int} (h : e ≠ 0) : (r.fail e).e ≠ 0 := fail_e r h
theorem is_word {r : Rs} {w : ByteArray} (h : r.next.2.1 = w) (hw : w ≠ noS) : r.is w = true := by unfold is; rw [h]; simp [hw]
theorem want_yes {r : Rs} {w : ByteArray} (h : r.is w = true) : r.want w = r.step := if_pos h
theorem want_no {r : Rs} {w : ByteArray} (h : r.is w = false) : r.want w = r.fail 4 := if_neg (by rw [h]; decide)
theorem room_no {r : Rs} {a b : Int} (h : a < b) : r.room a b = r := if_neg (by omega)
theorem room_yes {r : Rs} {a b : Int} (h : b ≤ a) : r.room a b = r.fail 2 := if_pos (by omega)
theorem is_off {r : Rs} {w : ByteArray} (h : r.e ≠ 0) : r.is w = false := by
  cases c : r.is w with
  | false => rfl
  | true => exact absurd (is_at c).1 h
theorem op_off {r : Rs} (h : r.e ≠ 0) : r.isOp = false := by
  cases c : r.isOp with
  | false => rfl
  | true => exact absurd (isOp_at c).1 h
theorem op_word {r : Rs} (h : r.isOp = true) : r.next.2.1 ≠ noS := by
  intro c
  unfold isOp at h
  rw [c, Bool.and_eq_true, decide_eq_true_eq, decide_eq_true_eq] at h
  exact absurd h.2 (by decide +kernel)
theorem op_not {r : Rs} {w : ByteArray} (hw : opV w < 0) (h : r.is w = true) : r.isOp = false := by
  unfold is at h
  rw [Bool.and_eq_true, decide_eq_true_eq] at h
  unfold isOp
  rw [h.1, decide_eq_false (show ¬ (0 ≤ opV w) by omega), Bool.and_false]
theorem opV_rc : opV wRc < 0 := by decide +kernel
theorem opV_catch : opV wCatch < 0 := by decide +kernel
/-! ### an instruction, a body -/
def rIns (r : Rs) (c : List Ins) : List Ins × Rs := if r.isOp then (if c.length = 48 then (c, r.fail 2) else (c ++ [r.step.inVal (opV r.next.2.1)], (r.step.inArgs (opV r.next.2.1)).want wSemi)) else (c, r.fail 4)
def rCodeL : Nat → Rs → List Ins → List Ins × Rs
  | 0, r, c => (c, r)
  | f + 1, r, c => if r.e = 0 ∧ r.is wRc = false ∧ r.is wCatch = false then rCodeL f (r.rIns c).2 (r.rIns c).1 else (c, r)
def rCatL : Nat → Rs → List Cat → List Cat × Rs
  | 0, r, c => (c, r)
  | f + 1, r, c => if r.is wCatch then (if c.length = 4 then (c, r.fail 2) else rCatL f r.step.catR (c ++ [r.step.catV])) else (c, r)
def rBoCode (r : Rs) : List Ins × Rs := rCodeL (r.L.length + 2) r.bo1 []
def rBoCat (r : Rs) : List Cat × Rs := rCatL (r.L.length + 2) r.rBoCode.2 []
def rBody (r : Rs) : Rs := r.rBoCat.2.want wRc
theorem rCodeL_stop {r : Rs} (h : r.e ≠ 0) (f : Nat) (c : List Ins) : rCodeL f r c = (c, r) := by
  cases f with
  | zero => rfl
  | succ f => rw [rCodeL, if_neg (fun q => h q.1)]
theorem codeL_stop {r : Rs} (h : r.isOp = false) (f : Nat) (c : List Ins) : codeL f r c = (c, r) := by
  cases f with
  | zero => rfl
  | succ f => rw [codeL, if_neg (by rw [h]; decide)]
theorem in1_ok {r : Rs} {k : Int} (h : r.isOp = true) (hk : k < 48) : r.in1 k = r.step := by
  unfold in1
  rw [room_no hk, want_yes (is_word rfl (op_word h))]
theorem instr_full {r : Rs} (he : r.e = 0) (k : Int) (h : 48 ≤ k) : (r.instr k).2 = r.fail 2 := by
  have h1 : r.in1 k = r.fail 2 := by
    unfold in1
    rw [room_yes h]
    exact stuck (want_fwd _ _) (fail_ne r (by decide))
  show ((r.in1 k).inArgs _).want wSemi = _
  rw [h1]
  exact stuck ((inArgs_fwd _ _).trans (want_fwd _ _)) (fail_ne r (by decide))
theorem code_eq : ∀ (f : Nat) (r : Rs) (c : List Ins), r.need ≤ f → c.length ≤ 48 →
    ((codeL f r c).2.e ≠ 0 ∧ (rCodeL f r c).2 = (codeL f r c).2) ∨
    ((codeL f r c).2.e = 0 ∧ (rCodeL f r c).1 = (codeL f r c).1 ∧ ((((codeL f r c).2.is wRc = true ∨ (codeL f r c).2.is wCatch = true) ∧ (rCodeL f r c).2 = (codeL f r c).2) ∨
      ((codeL f r c).2.is wRc = false ∧ (codeL f r c).2.is wCatch = false ∧ (rCodeL f r c).2 = (codeL f r c).2.fail 4)))
  | 0, r, c, hf, hc => by have := need_pos r; omega
  | f + 1, r, c, hf, hc => by
    by_cases he : r.e = 0
    case neg =>
      rw [rCodeL_stop he, codeL_stop (op_off he)]
      exact .inl ⟨he, rfl⟩
    by_cases hs : r.is wRc = true ∨ r.is wCatch = true
    · have ho : r.isOp = false := hs.elim (op_not opV_rc) (op_not opV_catch)
      rw [codeL_stop ho, rCodeL, if_neg (fun q => by
        rcases hs with s | s
        · rw [q.2.1] at s; cases s
        · rw [q.2.2] at s; cases s)]
      exact .inr ⟨he, rfl, .inl ⟨hs, rfl⟩⟩
    have h1 : r.is wRc = false := by simpa using fun q => hs (.inl q)
    have h2 : r.is wCatch = false := by simpa using fun q => hs (.inr q)
    rw [rCodeL, if_pos ⟨he, h1, h2⟩]
    by_cases ho : r.isOp = true
    · by_cases hl : c.length = 48
      · have e1 : r.rIns c = (c, r.fail 2) := by unfold rIns; rw [if_pos ho, if_pos hl]
        have hn := fail_ne r (e := 2) (by decide)
        rw [e1, rCodeL_stop hn, codeL, if_pos ho, instr_full he _ (by omega), codeL_stop (op_off hn)]
        exact .inl ⟨hn, rfl⟩
      · have e1 : r.rIns c = (c ++ [(r.instr c.length).1], (r.instr c.length).2) := by
          unfold rIns instr
          rw [if_pos ho, if_neg hl, in1_ok ho (by omega)]
        rw [codeL, if_pos ho]
        rw [e1]
        have hlt := need_lt (isOp_at ho) (instr_fwd r c.length) (instr_on r c.length)
        exact code_eq f _ _ (by omega) (by simp only [List.length_append, List.length_singleton]; omega)
    · have ho : r.isOp = false := by simpa using ho
      have e1 : r.rIns c = (c, r.fail 4) := by unfold rIns; rw [if_neg (by rw [ho]; decide)]
      have hn := fail_ne r (e := 4) (by decide)
      rw [e1, rCodeL_stop hn, codeL_stop ho]
      exact .inr ⟨he, rfl, .inr ⟨h1, h2, rfl⟩⟩
theorem catchL_stop {r : Rs} (h : r.is wCatch = false) (f : Nat) (c : List Cat) : catchL f r c = (c, r) := by
  cases f with
  | zero => rfl
  | succ f => rw [catchL, if_neg (by rw [h]; decide)]
theorem rCatL_stop {r : Rs} (h : r.is wCatch = false) (f : Nat) (c : List Cat) : rCatL f r c = (c, r) := by
  cases f with
  | zero => rfl
  | succ f => rw [rCatL, if_neg (by rw [h]; decide)]
theorem cat_eq : ∀ (f : Nat) (r : Rs) (c : List Cat), r.need ≤ f → c.length ≤ 4 → (rCatL f r c).2 = (catchL f r c).2 ∧ ((catchL f r c).2.e = 0 → (rCatL f r c).1 = (catchL f r c).1)
  | 0, r, c, hf, hc => by have := need_pos r; omega
  | f + 1, r, c, hf, hc => by
    by_cases hs : r.is wCatch = true
    case neg =>
      have hs : r.is wCatch = false := by simpa using hs
      rw [rCatL_stop hs, catchL_stop hs]
      exact ⟨rfl, fun _ => rfl⟩
    rw [rCatL, if_pos hs, catchL, if_pos hs]
    by_cases hl : c.length = 4
    · have hn := fail_ne r (e := 2) (by decide)
      have e1 : r.ca1 c.length = r.fail 2 := by
        unfold ca1
        rw [room_yes (by omega)]
        exact stuck (want_fwd _ _) hn
      rw [if_pos hl, e1, stuck (catR_fwd _) hn, catchL_stop (is_off hn)]
      exact ⟨rfl, fun q => absurd q hn⟩
    · have e1 : r.ca1 c.length = r.step := by
        unfold ca1
        rw [room_no (by omega), want_yes hs]
      have hlt := need_lt (is_at hs) ((ca1_fwd r c.length).trans (catR_fwd _)) (catch_on r c.length)
      rw [if_neg hl, e1]
      rw [e1] at hlt
      exact cat_eq f _ _ (by omega) (by simp only [List.length_append, List.length_singleton]; omega)
theorem need_len {r s : Rs} (h : Fwd r s) : s.need ≤ r.L.length + 2 := by
  unfold need
  rw [h.L]
  split <;> omega
theorem body_eq (r : Rs) : r.rBody = r.body ∧ (r.body.e = 0 → r.rBoCode.1 = r.boCode.1 ∧ r.rBoCat.1 = r.boCat.1) := by
  have hb := code_eq (r.L.length + 2) r.bo1 [] (need_len (bo1_fwd r)) (by simp)
  have hc := cat_eq (r.L.length + 2) r.boCode.2 [] (need_len (boCode_fwd r)) (by simp)
  have e1 : codeL (r.L.length + 2) r.bo1 [] = r.boCode := rfl
  have e2 : rCodeL (r.L.length + 2) r.bo1 [] = r.rBoCode := rfl
  rw [e1, e2] at hb
  have e3 : catchL (r.L.length + 2) r.boCode.2 [] = r.boCat := rfl
  rw [e3] at hc
  rcases hb with ⟨h1, h2⟩ | ⟨h1, h2, ⟨h3, h4⟩ | ⟨h3, h4, h5⟩⟩
  · have e4 : rCatL (r.L.length + 2) r.boCode.2 [] = r.rBoCat := by rw [← h2]; rfl
    rw [e4] at hc
    have hs : r.body = r.boCode.2 := stuck ((catchL_fwd _ _ _).trans (want_fwd _ _)) h1
    exact ⟨by unfold rBody body; rw [hc.1], fun q => absurd (by rw [← hs]; exact q) h1⟩
  · have e4 : rCatL (r.L.length + 2) r.boCode.2 [] = r.rBoCat := by rw [← h4]; rfl
    rw [e4] at hc
    exact ⟨by unfold rBody body; rw [hc.1], fun q => ⟨h2, hc.2 ((want_fwd _ _).good q)⟩⟩
  · have hn := fail_ne r.boCode.2 (e := 4) (by decide)
    have e4 : r.rBoCat = ([], r.boCode.2.fail 4) := by
      show rCatL _ r.rBoCode.2 [] = _
      rw [h5]; exact rCatL_stop (is_off hn) _ _
    have e5 : r.boCat = ([], r.boCode.2) := catchL_stop h4 _ _
    have b1 : r.body = r.boCode.2.fail 4 := by unfold body; rw [e5]; exact want_no h3
    have b2 : r.rBody = r.boCode.2.fail 4 := by unfold rBody; rw [e4]; exact stuck (want_fwd _ _) hn
    exact ⟨b2.trans b1.symm, fun q => absurd (by rw [← b1]; exact q) hn⟩
def rmmV (r : Rs) (s : Bool) : Meth := if r.mm1.is wSemi then r.mm1V s else ⟨r.freshV, s, r.mm1.is wSemi, r.fresh.params.1, r.fresh.params.2.kindV, (r.mm1.want wLocals).numV 0 8, r.mm1.rBoCode.1, r.mm1.rBoCat.1⟩
def rmmR (r : Rs) : Rs := if r.mm1.is wSemi then r.mm1.step else r.mm1.rBody
theorem meth_eq (r : Rs) (s : Bool) : r.rmmR = r.mmR ∧ (r.mmR.e = 0 → r.rmmV s = r.mmV s) := by
  unfold rmmR mmR rmmV mmV
  by_cases c : r.mm1.is wSemi = true
  · rw [if_pos c, if_pos c, if_pos c, if_pos c]; exact ⟨rfl, fun _ => rfl⟩
  · rw [if_neg c, if_neg c, if_neg c, if_neg c]
    obtain ⟨h1, h2⟩ := body_eq r.mm1
    refine ⟨h1, fun q => ?_⟩
    obtain ⟨h3, h4⟩ := h2 q
    rw [h3, h4]; rfl
/-! ### a class -/
def rMem (r : Rs) (c : Cls) : Cls × Rs :=
  if r.is wField ∨ r.is wStatic then (if c.fields.length = 6 then (c, r.fail 2) else (⟨c.name, c.iface, c.super, c.ifaces, c.fields ++ [r.step.mfV (r.is wStatic)], c.methods⟩, r.step.mfR))
  else if r.is wMethod ∨ r.is wFunction then (if c.methods.length = 6 then (c, r.fail 2) else (⟨c.name, c.iface, c.super, c.ifaces, c.fields, c.methods ++ [r.step.rmmV (r.is wFunction)]⟩, r.step.rmmR))
  else (c, r.fail 4)
def rClsL : Nat → Rs → Cls → Cls × Rs
  | 0, r, c => (c, r)
  | f + 1, r, c => if r.e = 0 ∧ r.is wRc = false then rClsL f (r.rMem c).2 (r.rMem c).1 else (c, r)
theorem is_iff {r : Rs} {w : ByteArray} (hw : w ≠ noS) : r.is w = decide (r.next.2.1 = w) := by unfold is; rw [decide_eq_true hw, Bool.and_true]
theorem memF_ok {r : Rs} {k : Int} (hw : r.next.2.1 ≠ noS) (hk : k < 6) : r.memF k = r.step := by
  unfold memF
  rw [room_no hk, want_yes (is_word rfl hw)]
theorem memF_full {r : Rs} {k : Int} (hk : 6 ≤ k) : r.memF k = r.fail 2 := by
  unfold memF
  rw [room_yes hk]
  exact stuck (want_fwd _ _) (fail_ne r (by decide))
theorem key_ne : wField ≠ noS ∧ wStatic ≠ noS ∧ wMethod ≠ noS ∧ wFunction ≠ noS ∧ wClass ≠ noS ∧ wInterface ≠ noS := by decide +kernel
theorem mem_eq {r : Rs} {c : Cls} (h1 : c.fields.length ≤ 6) (h2 : c.methods.length ≤ 6) : (r.rMem c).2 = (r.member c).2 ∧
    ((r.member c).2.e = 0 → (r.rMem c).1 = (r.member c).1 ∧ (r.member c).1.fields.length ≤ 6 ∧ (r.member c).1.methods.length ≤ 6) := by
  obtain ⟨n1, n2, n3, n4, -, -⟩ := key_ne
  unfold rMem member
  rw [is_iff n1, is_iff n2, is_iff n3, is_iff n4]
  simp only [decide_eq_true_eq]
  have hn2 := fail_ne r (e := 2) (by decide)
  have hn4 := fail_ne r (e := 4) (by decide)
  by_cases c1 : r.next.2.1 = wField ∨ r.next.2.1 = wStatic
  · have hw : r.next.2.1 ≠ noS := by rcases c1 with q | q <;> rw [q] <;> assumption
    rw [if_pos c1, if_pos c1]
    by_cases hl : c.fields.length = 6
    · rw [if_pos hl, memF_full (by omega)]
      have := stuck (mfR_fwd (r.fail 2)) hn2
      exact ⟨this.symm, fun q => absurd (by rw [← this]; exact q) hn2⟩
    · rw [if_neg hl, memF_ok hw (by omega)]
      exact ⟨rfl, fun _ => ⟨rfl, by simp only [List.length_append, List.length_singleton]; omega, h2⟩⟩
  · rw [if_neg c1, if_neg c1]
    by_cases c2 : r.next.2.1 = wMethod ∨ r.next.2.1 = wFunction
    · have hw : r.next.2.1 ≠ noS := by rcases c2 with q | q <;> rw [q] <;> assumption
      rw [if_pos c2, if_pos c2]
      by_cases hl : c.methods.length = 6
      · rw [if_pos hl, memF_full (by omega)]
        have := stuck (mmR_fwd (r.fail 2)) hn2
        exact ⟨this.symm, fun q => absurd (by rw [← this]; exact q) hn2⟩
      · rw [if_neg hl, memF_ok hw (by omega)]
        obtain ⟨m1, m2⟩ := meth_eq r.step (decide (r.next.2.1 = wFunction))
        exact ⟨m1, fun q => ⟨by rw [m2 q], h1, by simp only [List.length_append, List.length_singleton]; omega⟩⟩
    · rw [if_neg c2, if_neg c2]
      exact ⟨rfl, fun q => absurd q hn4⟩
theorem rClsL_stop {r : Rs} (h : r.e ≠ 0) (f : Nat) (c : Cls) : rClsL f r c = (c, r) := by
  cases f with
  | zero => rfl
  | succ f => rw [rClsL, if_neg (fun q => h q.1)]
theorem clsL_haltU {r : Rs} (h : r.e ≠ 0) (f : Nat) (c : Cls) : clsL f r c = (c, r) := by
  cases f with
  | zero => rfl
  | succ f => rw [clsL, if_neg h]
theorem cls_eq : ∀ (f : Nat) (r : Rs) (c : Cls), r.need ≤ f → (r.e = 0 → c.fields.length ≤ 6 ∧ c.methods.length ≤ 6) → (rClsL f r c).2.want wRc = (clsL f r c).2 ∧ ((clsL f r c).2.e = 0 → (rClsL f r c).1 = (clsL f r c).1)
  | 0, r, c, hf, hc => by have := need_pos r; omega
  | f + 1, r, c, hf, hc => by
    by_cases he : r.e = 0
    case neg =>
      rw [rClsL_stop he, clsL_haltU he]
      exact ⟨stuck (want_fwd _ _) he, fun _ => rfl⟩
    by_cases hs : r.is wRc = true
    · rw [rClsL, if_neg (fun q => by rw [hs] at q; cases q.2), clsL, if_pos he, if_pos hs]
      exact ⟨want_yes hs, fun _ => rfl⟩
    · rw [rClsL, if_pos ⟨he, by simpa using hs⟩, clsL, if_pos he, if_neg hs]
      obtain ⟨m1, m2⟩ := mem_eq (r := r) (c := c) (hc he).1 (hc he).2
      by_cases h0 : (r.member c).2.e = 0
      · obtain ⟨m3, m4, m5⟩ := m2 h0
        rw [m1, m3]
        by_cases hi : r.i < r.L.length
        · have := need_lt ⟨he, hi⟩ (member_fwd r c) (member_on r c)
          exact cls_eq f _ _ (by omega) fun _ => ⟨m4, m5⟩
        · exfalso
          have hn : r.next = tok0 := next_none fun q => hi q.2
          have hm : (r.member c).2 = r.fail 4 := by
            unfold member
            rw [hn, if_neg (by decide +kernel), if_neg (by decide +kernel)]
          rw [hm] at h0
          exact fail_ne r (by decide) h0
      · rw [m1, rClsL_stop h0, clsL_haltU h0]
        exact ⟨stuck (want_fwd _ _) h0, fun q => absurd q h0⟩
def rClass (r : Rs) : Cls × Rs := ((rClsL (r.L.length + 2) (r.clR 0) (r.clV 0)).1, (rClsL (r.L.length + 2) (r.clR 0) (r.clV 0)).2.want wRc)
theorem cl1_lt {r : Rs} {k : Int} (hk : k < 10) : r.cl1 k = r.cl1 0 := by
  unfold cl1
  rw [room_no hk, room_no (by decide)]
theorem class_eq {r : Rs} {k : Int} (hk : k < 10) : r.rClass.2 = (r.class' k).2 ∧ ((r.class' k).2.e = 0 → r.rClass.1 = (r.class' k).1) := by
  have e1 : r.clR k = r.clR 0 := by unfold clR; rw [cl1_lt hk]
  have e2 : r.clV k = r.clV 0 := by unfold clV; rw [cl1_lt hk]
  have := cls_eq (r.L.length + 2) (r.clR 0) (r.clV 0) (need_len (clR_fwd r 0)) (fun _ => ⟨Nat.zero_le _, Nat.zero_le _⟩)
  unfold rClass class'
  rw [e1, e2]
  exact this
def rPrgL : Nat → Rs → List Cls → List Cls × Rs
  | 0, r, out => (out, r)
  | f + 1, r, out => if r.e = 0 ∧ r.i < r.L.length then (if out.length = 10 ∧ (r.is wClass ∨ r.is wInterface) then (out, r.fail 2) else rPrgL f r.rClass.2 (out ++ [r.rClass.1])) else (out, r)
theorem rPrgL_stop {r : Rs} (h : r.e ≠ 0) (f : Nat) (c : List Cls) : rPrgL f r c = (c, r) := by
  cases f with
  | zero => rfl
  | succ f => rw [rPrgL, if_neg (fun q => h q.1)]
theorem prgL_halt {r : Rs} (h : r.e ≠ 0) (f : Nat) (c : List Cls) : prgL f r c = (c, r) := by
  cases f with
  | zero => rfl
  | succ f => rw [prgL, if_neg (fun q => h q.1)]
theorem class_full {r s : Rs} {k : Int} (h : r.cl1 k = s) (hs : s.e ≠ 0) : (r.class' k).2 = s := by
  have e1 : r.clR k = s := by
    unfold clR
    rw [h]
    exact stuck ((((fresh_fwd _).trans (ex1_fwd _ _)).trans (ex2_fwd _ _ _)).trans (want_fwd _ _)) hs
  show (clsL _ (r.clR k) _).2 = s
  rw [e1, clsL_haltU hs]
theorem rclass_full {r s : Rs} (h : r.cl1 0 = s) (hs : s.e ≠ 0) : r.rClass.2 = s := by
  have e1 : r.clR 0 = s := by
    unfold clR
    rw [h]
    exact stuck ((((fresh_fwd _).trans (ex1_fwd _ _)).trans (ex2_fwd _ _ _)).trans (want_fwd _ _)) hs
  show (rClsL _ (r.clR 0) _).2.want wRc = s
  rw [e1, rClsL_stop hs]
  exact stuck (want_fwd _ _) hs
theorem prg_eq : ∀ (f : Nat) (r : Rs) (out : List Cls), r.need ≤ f → (r.e = 0 → out.length ≤ 10) → (rPrgL f r out).2 = (prgL f r out).2 ∧ ((prgL f r out).2.e = 0 → (rPrgL f r out).1 = (prgL f r out).1)
  | 0, r, c, hf, hc => by have := need_pos r; omega
  | f + 1, r, out, hf, hc => by
    by_cases hr : r.e = 0 ∧ r.i < r.L.length
    case neg =>
      rw [rPrgL, if_neg hr, prgL, if_neg hr]
      exact ⟨rfl, fun _ => rfl⟩
    rw [rPrgL, if_pos hr, prgL, if_pos hr]
    have ho := hc hr.1
    have hn2 := fail_ne r (e := 2) (by decide)
    have hn4 := fail_ne r (e := 4) (by decide)
    by_cases hl : out.length = 10
    · by_cases hk : r.is wClass = true ∨ r.is wInterface = true
      · rw [if_pos ⟨hl, hk⟩]
        have e1 : r.cl1 out.length = r.fail 2 := by
          unfold cl1
          rw [if_pos (by rw [Bool.or_eq_true]; exact hk), room_yes (by omega)]
          exact stuck (want_fwd _ _) hn2
        rw [class_full e1 hn2, prgL_halt hn2]
        exact ⟨rfl, fun q => absurd q hn2⟩
      · rw [if_neg (fun q => hk q.2)]
        have k1 : r.is wClass = false := by simpa using fun q => hk (.inl q)
        have k2 : r.is wInterface = false := by simpa using fun q => hk (.inr q)
        have e1 : ∀ k : Int, r.cl1 k = r.fail 4 := fun k => by
          unfold cl1
          rw [k1, k2]
          exact want_no k1
        rw [class_full (e1 _) hn4, rclass_full (e1 _) hn4, prgL_halt hn4, rPrgL_stop hn4]
        exact ⟨rfl, fun q => absurd q hn4⟩
    · rw [if_neg (fun q => hl q.1)]
      obtain ⟨c1, c2⟩ := class_eq (r := r) (k := (out.length : Int)) (by omega)
      by_cases h0 : (r.class' out.length).2.e = 0
      · rw [c1, c2 h0]
        have := need_lt hr (class_fwd r out.length) (class_on r out.length)
        exact prg_eq f _ _ (by omega) fun _ => by simp only [List.length_append, List.length_singleton]; omega
      · rw [c1, rPrgL_stop h0, prgL_halt h0]
        exact ⟨rfl, fun q => absurd q h0⟩
end Rs
/-- what the reference's parser answers -/
def rParse (l : List UInt8) : List Cls × Int × Int :=
  if (scanF l).2.2 = 0 then (if (Rs.rPrgL ((scanF l).1.length + 2) (parse0 l) []).2.e = 0 then ((Rs.rPrgL ((scanF l).1.length + 2) (parse0 l) []).1, 0, 0)
    else ([], if (Rs.rPrgL ((scanF l).1.length + 2) (parse0 l) []).2.i < (scanF l).1.length then ((scanF l).1.getD (Rs.rPrgL ((scanF l).1.length + 2) (parse0 l) []).2.i tok0).2.2.2 else l.length, (Rs.rPrgL ((scanF l).1.length + 2) (parse0 l) []).2.e)) else ([], (scanF l).2.1, (scanF l).2.2)
theorem rParse_eq (l : List UInt8) : rParse l = parseF l := by
  unfold rParse parseF
  by_cases h : (scanF l).2.2 = 0
  case neg => rw [if_neg h, if_neg h]
  rw [if_pos h, if_pos h]
  obtain ⟨h1, h2⟩ := Rs.prg_eq ((scanF l).1.length + 2) (parse0 l) [] (Rs.need_len (.refl _)) (fun _ => Nat.zero_le _)
  rw [h1]
  by_cases h0 : (Rs.prgL ((scanF l).1.length + 2) (parse0 l) []).2.e = 0
  · rw [if_pos h0, if_pos h0, h2 h0]
  · rw [if_neg h0, if_neg h0]
    have hp := Rs.prgL_pl ((scanF l).1.length + 2) (parse0 l) [] (fun q => absurd rfl q) h0
    have hL := (Rs.prgL_fwd ((scanF l).1.length + 2) (parse0 l) []).L
    have hN := (Rs.prgL_fwd ((scanF l).1.length + 2) (parse0 l) []).n
    rw [hp, hL, hN]
    rfl
end Go.Proofs.YtimhbimpaiiceaaGreatDoor.Ax
/- The reference's parser: its reader's small steps. -/
set_option linter.unusedVariables false
set_option linter.unusedSimpArgs false
namespace Go.Proofs.YtimhbimpaiiceaaGreatDoor.Ax
open Go Go.RowKit
def rsR (r : Rs) : List SV := [.row Tok 4 tokC tok0 r.L, I r.i, I r.e]
def rokU (r : Rs) : Prop := rok r ∧ ∀ t ∈ r.L, t.1 = 2 → t.2.1 = noS
theorem rokU_fwd {r r' : Rs} (h : rokU r) (f : Fwd r r') : rokU r' := ⟨rok_fwd h.1 f, by rw [f.L]; exact h.2⟩
def ruC (A : Type) (a : A → List SV) (v : Rs → A → Nat → SV) (d : A → Prop) : Ctr := { A := Rs × A, enc := fun x => .elt Unit 3 (fun _ => rsR x.1) () [()] 0 0 :: a x.2, dom := fun x => rokU x.1 ∧ d x.2, res := fun x id => v x.1 x.2 id }
def rvC (A : Type) (a : A → List SV) (v : Rs → A → Nat → SV) (p : Rs → A → Rs) (d : A → Prop) : CtrB := { A := Rs × A, enc := fun x => .box 1000 0 :: a x.2, pre := fun x => [rsR x.1], dom := fun x => rokU x.1 ∧ d x.2, res := fun x id => v x.1 x.2 id, post := fun x _ => [rsR (p x.1 x.2)] }
theorem next_mem {r : Rs} (h : r.e = 0 ∧ r.i < r.L.length) : r.next ∈ r.L := by
  rw [Rs.next_some h, show r.L.getD r.i tok0 = r.L[r.i]'h.2 by simp [List.getD, h.2]]
  exact List.getElem_mem _
theorem is_off2 {r : Rs} {w : ByteArray} (h : ¬ (r.e = 0 ∧ r.i < r.L.length)) : r.is w = false := by
  cases c : r.is w with
  | false => rfl
  | true => exact absurd (Rs.is_at c) h
theorem free_off2 {r : Rs} (h : ¬ (r.e = 0 ∧ r.i < r.L.length)) : r.free = false := by
  cases c : r.free with
  | false => rfl
  | true => exact absurd (Rs.free_at c) h
theorem num_off2 {r : Rs} {a b : Int} (h : ¬ (r.e = 0 ∧ r.i < r.L.length)) : r.numOk a b = false := by
  cases c : r.numOk a b with
  | false => rfl
  | true => exact absurd (Rs.num_at c) h
def uisC : Ctr := ruC ByteArray (fun w => [S w]) (fun r w _ => B (r.is w)) fun w => w ≠ noS
set_option maxRecDepth 100000 in
theorem uis_ok : CtrSound Tryz.prog 19 uisC :=
  ctr_of_ax (env_ok tys_ok (eqs := []) trivial (cs := []) trivial) mixed _ Tryz.func19 (by kernel_rfl) rfl (fun _ _ => Nat.le_of_ble_eq_true rfl) fun ((r, w) : Rs × ByteArray) id hd => by
    obtain ⟨⟨⟨hL, hI⟩, hW⟩, hw⟩ : ((r.L.length ≤ 1000000 ∧ r.i ≤ r.L.length) ∧ ∀ t ∈ r.L, t.1 = 2 → t.2.1 = noS) ∧ w ≠ noS := hd
    refine ⟨by kernel_rfl, ?_⟩
    refine ⟨fun h => ?_, fun h => ⟨.bff (is_off2 fun c => eqF h c.1), rfl⟩⟩
    have h1 : r.e = 0 := eqT h
    refine ⟨fun h => ?_, fun h => ⟨.bff (is_off2 fun c => by have := dge h; omega), rfl⟩⟩
    have h2 : r.i < r.L.length := dlt h
    have en := Rs.next_some ⟨h1, h2⟩
    have em := next_mem ⟨h1, h2⟩
    refine ⟨(show 0 ≤ (r.i : Int) ∧ (r.i : Int) < (r.L.length : Int) from ⟨by omega, by omega⟩), ?_⟩
    refine ⟨fun h => ?_, fun h => ?_⟩
    · refine ⟨(show 0 ≤ (r.i : Int) ∧ (r.i : Int) < (r.L.length : Int) from ⟨by omega, by omega⟩), ?_⟩
      exact ⟨.bool (by
        show ((r.L.getD r.i tok0).2.1.toList == w.toList) = r.is w
        rw [ba_eq, Rs.is_iff hw, en]), rfl⟩
    · have h : ((r.L.getD r.i tok0).1 != 2) = false := h
      have h3 : r.next.1 = 2 := by rw [en]; simpa using h
      exact ⟨.bff (by rw [Rs.is_iff hw, hW _ em h3]; exact decide_eq_false (Ne.symm hw)), rfl⟩
def ubadC : CtrB := rvC Int (fun e => [I e]) (fun _ _ _ => .tup []) (fun r e => r.fail e) fun _ => True
set_option maxRecDepth 100000 in
theorem ubad_ok : CtrBSound Tryz.prog 20 ubadC :=
  ctrB_of_ax2 mixed _ Tryz.func20 (by kernel_rfl) rfl (fun _ _ => ⟨Nat.le_of_ble_eq_true rfl, Nat.le_of_ble_eq_true rfl⟩) fun ((r, e) : Rs × Int) id hd => by
    refine ⟨_, ⟨env_okB tys_ok (eqs := []) trivial (cs := []) trivial (bs := []) trivial, fun _ h => h⟩, ?_⟩
    refine ⟨fun h => ?_, fun h => ?_⟩
    · have hE : (⟨r.L, r.n, r.i, if r.i < r.L.length then (r.L.getD r.i tok0).2.2.2 else r.n, e⟩ : Rs) = r.fail e := (if_pos (eqT h)).symm
      exact ⟨.refl (.tup []), ⟨rfl, .rowEq (rL hE :), .int (rI hE :), .int (rE hE :), trivial⟩, trivial⟩
    · have hE : r = r.fail e := (if_neg (eqF h)).symm
      exact ⟨.refl (.tup []), ⟨rfl, .rowEq (rL hE :), .int (rI hE :), .int (rE hE :), trivial⟩, trivial⟩
def umayC : CtrB := rvC ByteArray (fun w => [S w]) (fun r w _ => B (r.is w)) (fun r w => r.take w) fun w => w ≠ noS
set_option maxRecDepth 100000 in
theorem umay_ok : CtrBSound Tryz.prog 43 umayC :=
  ctrB_of_ax2 mixed _ Tryz.func43 (by kernel_rfl) rfl (fun _ _ => ⟨Nat.le_of_ble_eq_true rfl, Nat.le_of_ble_eq_true rfl⟩) fun ((r, w) : Rs × ByteArray) id hd => by
    refine ⟨_, ⟨env_okB tys_ok (eqs := []) trivial (cs := [(19, uisC)]) ⟨uis_ok, trivial⟩ (bs := []) trivial, fun _ h => h⟩, ?_⟩
    refine ⟨(r, w), ⟨.refl _, .refl _, trivial⟩, rfl, hd, ?_⟩
    refine ⟨fun h => ?_, fun h => ?_⟩
    · have h1 : r.is w = false := notT h
      have hE : r = r.take w := (take_no h1).symm
      exact ⟨.bff h1, ⟨rfl, .rowEq (rL hE :), .int (rI hE :), .int (rE hE :), trivial⟩, trivial⟩
    · have h1 : r.is w = true := notF h
      have hE : r.step = r.take w := (take_yes h1).symm
      exact ⟨.btt h1, ⟨rfl, .rowEq (rL hE :), .int ((hwI hd.1.1).trans (rI hE :)), .int (rE hE :), trivial⟩, trivial⟩
def uwantC : CtrB := rvC ByteArray (fun w => [S w]) (fun _ _ _ => .tup []) (fun r w => r.want w) fun w => w ≠ noS
set_option maxRecDepth 100000 in
theorem uwant_ok : CtrBSound Tryz.prog 46 uwantC :=
  ctrB_of_ax2 mixed _ Tryz.func46 (by kernel_rfl) rfl (fun _ _ => ⟨Nat.le_of_ble_eq_true rfl, Nat.le_of_ble_eq_true rfl⟩) fun ((r, w) : Rs × ByteArray) id hd => by
    refine ⟨_, ⟨env_okB tys_ok (eqs := []) trivial (cs := [(19, uisC)]) ⟨uis_ok, trivial⟩ (bs := [(20, ubadC)]) ⟨ubad_ok, trivial⟩, fun _ h => h⟩, ?_⟩
    refine ⟨(r, w), ⟨.refl _, .refl _, trivial⟩, rfl, hd, ?_⟩
    refine ⟨fun h => ?_, fun h => ?_⟩
    · have h1 : r.is w = false := notT h
      refine ⟨by kernel_rfl, ?_⟩
      refine ⟨(r, 4), ⟨.refl _, .refl _, trivial⟩, ⟨⟨rfl, .refl _, .refl _, .refl _, trivial⟩, trivial⟩, ⟨hd.1, trivial⟩, ?_⟩
      have hE : r.fail 4 = r.want w := (Rs.want_no h1).symm
      exact ⟨.refl (.tup []), ⟨rfl, .rowEq (rL hE :), .int (rI hE :), .int (rE hE :), trivial⟩, trivial⟩
    · have h1 : r.is w = true := notF h
      have hE : r.step = r.want w := (Rs.want_yes h1).symm
      exact ⟨.refl (.tup []), ⟨rfl, .rowEq (rL hE :), .int ((hwI hd.1.1).trans (rI hE :)), .int (rE hE :), trivial⟩, trivial⟩
def ufreeC : Ctr := ruC Unit (fun _ => []) (fun r _ _ => B r.free) fun _ => True
set_option maxRecDepth 100000 in
theorem ufree_ok : CtrSound Tryz.prog 63 ufreeC :=
  ctr_of_ax (env_ok tys_ok (eqs := []) trivial (cs := [(13, rkeptC)]) ⟨rkept_ok, trivial⟩) mixed _ Tryz.func63 (by kernel_rfl) rfl (fun _ _ => Nat.le_of_ble_eq_true rfl) fun ((r, u) : Rs × Unit) id hd => by
    obtain ⟨⟨⟨hL, hI⟩, hW⟩, -⟩ : ((r.L.length ≤ 1000000 ∧ r.i ≤ r.L.length) ∧ ∀ t ∈ r.L, t.1 = 2 → t.2.1 = noS) ∧ True := hd
    refine ⟨by kernel_rfl, ?_⟩
    refine ⟨fun h => ?_, fun h => ⟨.bff (free_off2 fun c => eqF h c.1), rfl⟩⟩
    have h1 : r.e = 0 := eqT h
    refine ⟨fun h => ?_, fun h => ⟨.bff (free_off2 fun c => by have := dge h; omega), rfl⟩⟩
    have h2 : r.i < r.L.length := dlt h
    have en := Rs.next_some ⟨h1, h2⟩
    refine ⟨(show 0 ≤ (r.i : Int) ∧ (r.i : Int) < (r.L.length : Int) from ⟨by omega, by omega⟩), ?_⟩
    refine ⟨fun h => ?_, fun h => ?_⟩
    · have h3 : r.next.1 = 1 := by rw [en]; exact eqT h
      refine ⟨(show 0 ≤ (r.i : Int) ∧ (r.i : Int) < (r.L.length : Int) from ⟨by omega, by omega⟩), ?_⟩
      refine ⟨(r.L.getD r.i tok0).2.1, ⟨.refl _, trivial⟩, rfl, trivial, ?_⟩
      exact ⟨.bool (by
        show (!Lib.containsS keptL (r.L.getD r.i tok0).2.1) = r.free
        unfold Rs.free
        rw [h3, en]; rfl), rfl⟩
    · have h3 : ¬ r.next.1 = 1 := by rw [en]; exact eqF h
      exact ⟨.bff (by unfold Rs.free; rw [decide_eq_false h3]; rfl), rfl⟩
def ufreshC : CtrB := rvC Unit (fun _ => []) (fun r _ _ => S r.freshV) (fun r _ => r.fresh) fun _ => True
theorem hw_back {r : Rs} (hd : rok r) : IntKind.i64.wrap (IntKind.i64.wrap ((r.i : Int) + 1) - 1) = (r.i : Int) := by
  have h1 := hd.1; have h2 := hd.2
  rw [hwI hd]
  show IntKind.i64.wrap (((r.i + 1 : Nat) : Int) - 1) = _
  rw [wrap_eq _ (by omega) (by omega)]; omega
set_option maxRecDepth 100000 in
theorem ufresh_ok : CtrBSound Tryz.prog 44 ufreshC :=
  ctrB_of_ax2 mixed _ Tryz.func44 (by kernel_rfl) rfl (fun _ _ => ⟨Nat.le_of_ble_eq_true rfl, Nat.le_of_ble_eq_true rfl⟩) fun ((r, u) : Rs × Unit) id hd => by
    refine ⟨_, ⟨env_okB tys_ok (eqs := []) trivial (cs := [(63, ufreeC)]) ⟨ufree_ok, trivial⟩ (bs := [(20, ubadC)]) ⟨ubad_ok, trivial⟩, fun _ h => h⟩, ?_⟩
    refine ⟨(r, ()), ⟨.refl _, trivial⟩, rfl, hd, ?_⟩
    refine ⟨fun h => ?_, fun h => ?_⟩
    · have h1 : r.free = false := notT h
      refine ⟨by kernel_rfl, ?_⟩
      refine ⟨(r, 4), ⟨.refl _, .refl _, trivial⟩, ⟨⟨rfl, .refl _, .refl _, .refl _, trivial⟩, trivial⟩, ⟨hd.1, trivial⟩, ?_⟩
      have hE : r.fail 4 = r.fresh := (if_neg (by rw [h1]; decide)).symm
      exact ⟨.str (if_neg (by rw [h1]; decide)).symm, ⟨rfl, .rowEq (rL hE :), .int (rI hE :), .int (rE hE :), trivial⟩, trivial⟩
    · have h1 : r.free = true := notF h
      have hat := Rs.free_at h1
      have hw2 : IntKind.i64.wrap (IntKind.i64.wrap ((r.i : Int) + 1) - 1) = (r.i : Int) := hw_back hd.1.1
      refine ⟨by kernel_rfl, ?_⟩
      refine ⟨(show 0 ≤ IntKind.i64.wrap (IntKind.i64.wrap ((r.i : Int) + 1) - 1) ∧ IntKind.i64.wrap (IntKind.i64.wrap ((r.i : Int) + 1) - 1) < (r.L.length : Int) by rw [hw2]; omega), ?_⟩
      have hE : r.step = r.fresh := ((if_pos h1)).symm
      refine ⟨.str ?_, ⟨rfl, .rowEq (rL hE :), .int ((hwI hd.1.1).trans (rI hE :)), .int (rE hE :), trivial⟩, trivial⟩
      show (r.L.getD (IntKind.i64.wrap (IntKind.i64.wrap ((r.i : Int) + 1) - 1)).toNat tok0).2.1 = r.freshV
      rw [hw2]
      unfold Rs.freshV
      rw [if_pos h1, Rs.next_some hat]
      rfl
def unumC : CtrB := rvC (Int × Int) (fun x => [I x.1, I x.2]) (fun r x _ => I (r.numV x.1 x.2)) (fun r x => r.num x.1 x.2) fun _ => True
set_option maxRecDepth 100000 in
theorem unum_ok : CtrBSound Tryz.prog 64 unumC :=
  ctrB_of_ax2 mixed _ Tryz.func64 (by kernel_rfl) rfl (fun _ _ => ⟨Nat.le_of_ble_eq_true rfl, Nat.le_of_ble_eq_true rfl⟩) fun ((r, lo, hi) : Rs × Int × Int) id hd => by
    refine ⟨_, ⟨env_okB tys_ok (eqs := []) trivial (cs := []) trivial (bs := [(20, ubadC)]) ⟨ubad_ok, trivial⟩, fun _ h => h⟩, ?_⟩
    have no : r.numOk lo hi = false → 0 = r.numV lo hi ∧ r.fail 4 = r.num lo hi := fun h => ⟨(if_neg (by rw [h]; decide)).symm, (if_neg (by rw [h]; decide)).symm⟩
    refine ⟨by kernel_rfl, ?_⟩
    refine ⟨fun h => ?_, fun h => ?_⟩
    · have hn : r.numOk lo hi = false := num_off2 fun c => by
        have h : (r.e != 0) = true := h
        rw [c.1] at h; cases h
      refine ⟨by kernel_rfl, ?_⟩
      refine ⟨(r, 4), ⟨.refl _, .refl _, trivial⟩, ⟨⟨rfl, .refl _, .refl _, .refl _, trivial⟩, trivial⟩, ⟨hd.1, trivial⟩, ?_⟩
      have hE := (no hn).2
      exact ⟨.int (no hn).1, ⟨rfl, .rowEq (rL hE :), .int (rI hE :), .int (rE hE :), trivial⟩, trivial⟩
    have h1 : r.e = 0 := by have h : (r.e != 0) = false := h; simpa using h
    refine ⟨fun h => ?_, fun h => ?_⟩
    · have hn : r.numOk lo hi = false := num_off2 fun c => by
        have h : decide ((r.i : Int) ≥ (r.L.length : Int)) = true := h
        have := of_decide_eq_true h; omega
      refine ⟨by kernel_rfl, ?_⟩
      refine ⟨(r, 4), ⟨.refl _, .refl _, trivial⟩, ⟨⟨rfl, .refl _, .refl _, .refl _, trivial⟩, trivial⟩, ⟨hd.1, trivial⟩, ?_⟩
      have hE := (no hn).2
      exact ⟨.int (no hn).1, ⟨rfl, .rowEq (rL hE :), .int (rI hE :), .int (rE hE :), trivial⟩, trivial⟩
    have h2 : r.i < r.L.length := by
      have h : decide ((r.i : Int) ≥ (r.L.length : Int)) = false := h
      have := of_decide_eq_false h; omega
    have en := Rs.next_some ⟨h1, h2⟩
    have rg : 0 ≤ (r.i : Int) ∧ (r.i : Int) < (r.L.length : Int) := ⟨by omega, by omega⟩
    refine ⟨rg, ?_⟩
    refine ⟨fun h => ?_, fun h => ?_⟩
    · have hn : r.numOk lo hi = false := decide_eq_false fun c => by
        have h : ((r.L.getD r.i tok0).1 != 2) = true := h
        rw [← en, c.1] at h; cases h
      refine ⟨by kernel_rfl, ?_⟩
      refine ⟨(r, 4), ⟨.refl _, .refl _, trivial⟩, ⟨⟨rfl, .refl _, .refl _, .refl _, trivial⟩, trivial⟩, ⟨hd.1, trivial⟩, ?_⟩
      have hE := (no hn).2
      exact ⟨.int (no hn).1, ⟨rfl, .rowEq (rL hE :), .int (rI hE :), .int (rE hE :), trivial⟩, trivial⟩
    have h3 : r.next.1 = 2 := by
      have h : ((r.L.getD r.i tok0).1 != 2) = false := h
      rw [en]; simpa using h
    refine ⟨rg, ?_⟩
    refine ⟨fun h => ?_, fun h => ?_⟩
    · have hn : r.numOk lo hi = false := decide_eq_false fun c => by
        have h : decide ((r.L.getD r.i tok0).2.2.1 < lo) = true := h
        have := of_decide_eq_true h
        rw [← en] at this; omega
      refine ⟨by kernel_rfl, ?_⟩
      refine ⟨(r, 4), ⟨.refl _, .refl _, trivial⟩, ⟨⟨rfl, .refl _, .refl _, .refl _, trivial⟩, trivial⟩, ⟨hd.1, trivial⟩, ?_⟩
      have hE := (no hn).2
      exact ⟨.int (no hn).1, ⟨rfl, .rowEq (rL hE :), .int (rI hE :), .int (rE hE :), trivial⟩, trivial⟩
    have h4 : ¬ r.next.2.2.1 < lo := by rw [en]; exact of_decide_eq_false h
    refine ⟨rg, ?_⟩
    refine ⟨fun h => ?_, fun h => ?_⟩
    · have hn : r.numOk lo hi = false := decide_eq_false fun c => by
        have h : decide ((r.L.getD r.i tok0).2.2.1 > hi) = true := h
        have := of_decide_eq_true h
        rw [← en] at this; omega
      refine ⟨by kernel_rfl, ?_⟩
      refine ⟨(r, 4), ⟨.refl _, .refl _, trivial⟩, ⟨⟨rfl, .refl _, .refl _, .refl _, trivial⟩, trivial⟩, ⟨hd.1, trivial⟩, ?_⟩
      have hE := (no hn).2
      exact ⟨.int (no hn).1, ⟨rfl, .rowEq (rL hE :), .int (rI hE :), .int (rE hE :), trivial⟩, trivial⟩
    have h5 : ¬ r.next.2.2.1 > hi := by rw [en]; exact of_decide_eq_false h
    have hy : r.numOk lo hi = true := decide_eq_true ⟨h3, by omega, by omega⟩
    have hE : r.step = r.num lo hi := ((if_pos hy)).symm
    have hw2 : IntKind.i64.wrap (IntKind.i64.wrap ((r.i : Int) + 1) - 1) = (r.i : Int) := hw_back hd.1.1
    refine ⟨by kernel_rfl, ?_⟩
    refine ⟨(show 0 ≤ IntKind.i64.wrap (IntKind.i64.wrap ((r.i : Int) + 1) - 1) ∧ IntKind.i64.wrap (IntKind.i64.wrap ((r.i : Int) + 1) - 1) < (r.L.length : Int) by rw [hw2]; omega), ?_⟩
    refine ⟨.int ?_, ⟨rfl, .rowEq (rL hE :), .int ((hwI hd.1.1).trans (rI hE :)), .int (rE hE :), trivial⟩, trivial⟩
    show (r.L.getD (IntKind.i64.wrap (IntKind.i64.wrap ((r.i : Int) + 1) - 1)).toNat tok0).2.2.1 = r.numV lo hi
    rw [hw2]
    unfold Rs.numV
    rw [if_pos hy, en]
    rfl
end Go.Proofs.YtimhbimpaiiceaaGreatDoor.Ax
/- Layers parse and show: what is parsed can be shown. -/
set_option linter.unusedVariables false
set_option linter.unusedSimpArgs false
namespace Go.Proofs.YtimhbimpaiiceaaGreatDoor.Ax
open Go Go.RowKit
namespace Rs
def Wd (r : Rs) : Prop := ∀ t ∈ r.L, wdOk t = true
theorem Wd.go {r s : Rs} (h : Wd r) (f : Fwd r s) : Wd s := by unfold Wd; rw [f.L]; exact h
theorem fresh_free {r : Rs} (h : r.fresh.e = 0) : r.free = true := by
  cases c : r.free with
  | true => rfl
  | false => exact absurd h (by unfold fresh; rw [c]; exact fail_e _ (by decide))
theorem room_good {r : Rs} {a b : Int} (h : (r.room a b).e = 0) : a < b := by
  unfold room at h
  split at h
  · exact absurd h (fail_e _ (by decide))
  · omega
theorem name1_good {r : Rs} {k : Int} (h : (r.name1 k).fresh.e = 0) : k < 4 := by
  have hf := fresh_free h
  have he := (fresh_fwd _).good h
  unfold name1 at hf he
  cases c : r.step.free with
  | true => rw [c] at he; exact room_good he
  | false => rw [c] at hf; rw [show r.step.free = true from hf] at c; cases c
theorem param1_good {r : Rs} {k : Int} (h : (r.param1 k).kind.e = 0) : k < 4 := by
  have he := (kind_fwd _).good h
  unfold param1 at he h
  by_cases c : (r.step.free || r.step.is wInt || r.step.is wVoid) = true
  · rw [if_pos c] at he; exact room_good he
  · rw [if_neg c] at h
    simp only [Bool.or_eq_true, not_or, Bool.not_eq_true] at c
    unfold kind at h
    rw [c.2, c.1.2] at h
    have := fresh_free ((rowR_fwd _).good h)
    rw [c.1.1] at this; cases this
theorem idx_lt (x : ByteArray) : ∀ (zs : List ByteArray) (i : Nat), Lib.idxFromS zs x i < ((i + zs.length : Nat) : Int) ∨ Lib.idxFromS zs x i = -1
  | [], i => .inr rfl
  | z :: zs, i => by
    unfold Lib.idxFromS
    by_cases c : z = x
    · rw [if_pos c]; left; simp only [List.length_cons]; omega
    · rw [if_neg c]
      rcases idx_lt x zs (i + 1) with h | h
      · left; simp only [List.length_cons]; omega
      · exact .inr h
theorem op_le {s : ByteArray} (h : 0 ≤ opV s) : opV s ≤ 43 := by
  have hl : opsL.length = 44 := by decide +kernel
  unfold opV at h ⊢
  have := idx_lt s opsL 0
  unfold Lib.idxOfS at h ⊢
  rw [hl] at this
  omega
end Rs
end Go.Proofs.YtimhbimpaiiceaaGreatDoor.Ax
/- The reference's parser: names, types, the number of an instruction's word. -/
set_option linter.unusedVariables false
set_option linter.unusedSimpArgs false
namespace Go.Proofs.YtimhbimpaiiceaaGreatDoor.Ax
open Go Go.RowKit
theorem w_ne : wComma ≠ noS ∧ wVoid ≠ noS ∧ wInt ≠ noS ∧ wLb ≠ noS ∧ wRb ≠ noS ∧ wLp ≠ noS ∧ wRp ≠ noS ∧ wSemi ≠ noS ∧ wLc ≠ noS ∧ wRc ≠ noS ∧ wColon ≠ noS ∧ wLocals ≠ noS ∧ wCatch ≠ noS ∧ wExtends ≠ noS ∧ wImplements ≠ noS := by decide +kernel
theorem name1_4 {q : Rs} {out : List ByteArray} (h : q.e = 0 → out.length ≤ 4) (hc : q.is wComma = true) : q.name1 out.length = if out.length = 4 ∧ q.step.free = true then q.step.fail 2 else q.step := by
  have h4 := h (Rs.is_at hc).1
  unfold Rs.name1
  by_cases c : q.step.free = true
  · rw [if_pos c]
    by_cases d : out.length = 4
    · rw [if_pos ⟨d, c⟩, Rs.room_yes (by omega)]
    · rw [if_neg (fun x => d x.1), Rs.room_no (by omega)]
  · rw [if_neg c, if_neg (fun x => c x.2)]
def unamesC : CtrB := rvC Unit (fun _ => []) (fun r _ id => .own ByteArray 1 strC noS r.names.1 id) (fun r _ => r.names.2) fun _ => True
set_option maxRecDepth 100000 in
theorem unames_ok : CtrBSound Tryz.prog 45 unamesC :=
  ctrB_of_ax2 mixed _ Tryz.func45 (by kernel_rfl) rfl (fun _ _ => ⟨Nat.le_of_ble_eq_true rfl, Nat.le_of_ble_eq_true rfl⟩) fun ((r, u) : Rs × Unit) id hd => by
    refine ⟨_, ⟨env_okB tys_ok (eqs := []) trivial (cs := [(63, ufreeC)]) ⟨ufree_ok, trivial⟩ (bs := [(43, umayC), (44, ufreshC), (20, ubadC)]) ⟨umay_ok, ufresh_ok, ubad_ok, trivial⟩, fun _ h => h⟩, ?_⟩
    have hd : rokU r := hd.1
    have hL : r.L.length ≤ 1000000 := hd.1.1
    refine ⟨by kernel_rfl, ?_⟩
    refine ⟨(r, ()), ⟨.refl _, trivial⟩, ⟨⟨rfl, .refl _, .refl _, .refl _, trivial⟩, trivial⟩, ⟨hd, trivial⟩, ?_⟩
    refine ⟨ByteArray, strC, noS, [r.freshV], ⟨rfl, fun _ => rfl⟩, ⟨.refl _, trivial⟩, rfl, ?_⟩
    refine ⟨Nat × Rs × List ByteArray × Bool, fun s => [(0, .box 1000 0), (3, .own ByteArray 1 strC noS s.2.2.1 (if s.2.2.2 then 22 else 6))], fun s => [(1000, rsR s.2.1)],
      fun s => Rs.namesL s.1 s.2.1 s.2.2.1 = r.names ∧ s.2.1.need ≤ s.1 ∧ Fwd r s.2.1 ∧ s.2.2.1.length + s.1 = r.L.length + 3 ∧ (s.2.1.e = 0 → s.2.2.1.length ≤ 4), fun s => s.1,
      ⟨(r.L.length + 2, r.fresh, [r.freshV], false), ⟨rfl, (by have := need_le r.fresh; rw [(Rs.fresh_fwd r).L] at this; exact this), Rs.fresh_fwd r, (by show 1 + (r.L.length + 2) = _; omega), (fun _ => by show 1 ≤ 4; omega)⟩, ⟨⟨rfl, rfl⟩, .refl _, .refl _, ⟨.refl _, .refl _, .refl _, trivial⟩, trivial⟩⟩, fun ((k, q, out, b) : Nat × Rs × List ByteArray × Bool) hx => ?_⟩
    have hx1 : Rs.namesL k q out = r.names := hx.1
    have hx2 : q.need ≤ k := hx.2.1
    have hx3 : Fwd r q := hx.2.2.1
    have hx4 : out.length + k = r.L.length + 3 := hx.2.2.2.1
    have hx5 : q.e = 0 → out.length ≤ 4 := hx.2.2.2.2
    obtain ⟨k, rfl⟩ : ∃ k', k = k' + 1 := ⟨k - 1, by have := Rs.need_pos q; omega⟩
    have hq : rokU q := rokU_fwd hd hx3
    refine ⟨by kernel_rfl, ?_⟩
    refine ⟨(q, wComma), ⟨.refl _, .str rfl, trivial⟩, ⟨⟨rfl, .refl _, .refl _, .refl _, trivial⟩, trivial⟩, ⟨hq, w_ne.1⟩, ?_⟩
    refine ⟨fun h => ?_, fun h => ?_⟩
    · have h1 : q.is wComma = true := h
      have hat := Rs.is_at h1
      have hst := take_yes h1
      have hqs : rokU (q.take wComma) := rokU_fwd hq (Rs.take_fwd q _)
      have hn1 := Rs.name1_fwd hat (out.length : Int)
      have hrn : rokU (q.name1 out.length) := rokU_fwd hq hn1
      have hn4 := name1_4 hx5 h1
      rw [Rs.namesL, if_pos h1] at hx1
      have hinv : Rs.namesL k (q.name1 out.length).fresh (out ++ [(q.name1 out.length).freshV]) = r.names ∧ (q.name1 out.length).fresh.need ≤ k ∧ Fwd r (q.name1 out.length).fresh ∧ (out ++ [(q.name1 out.length).freshV]).length + k = r.L.length + 3 ∧ ((q.name1 out.length).fresh.e = 0 → (out ++ [(q.name1 out.length).freshV]).length ≤ 4) := by
        have hf := hn1.trans (Rs.fresh_fwd _)
        have := Rs.need_lt hat hf (Rs.on_fwd (Rs.name1_on q out.length) (Rs.fresh_fwd _))
        exact ⟨hx1, by omega, hx3.trans hf, by simp; omega, fun he => by have := Rs.name1_good he; simp; omega⟩
      have fin : ∀ (X : Rs), X = q.name1 out.length → X = q.name1 out.length := fun _ h => h
      refine ⟨fun h => ?_, fun h => ?_⟩
      · have h2 : out.length = 4 := by have := of_decide_eq_true (show decide ((out.length : Int) = 4) = true from h); omega
        refine ⟨(q.take wComma, ()), ⟨.refl _, trivial⟩, rfl, ⟨hqs, trivial⟩, ?_⟩
        refine ⟨fun h => ?_, fun h => ?_⟩
        · have h3 : (q.take wComma).free = true := h
          refine ⟨by kernel_rfl, ?_⟩
          refine ⟨(q.take wComma, 2), ⟨.refl _, .refl _, trivial⟩, ⟨⟨rfl, .refl _, .refl _, .refl _, trivial⟩, trivial⟩, ⟨hqs, trivial⟩, ?_⟩
          have hE : (q.take wComma).fail 2 = q.name1 out.length := by rw [hst] at h3 ⊢; rw [hn4, if_pos ⟨h2, h3⟩]
          refine ⟨by kernel_rfl, ?_⟩
          refine ⟨(q.name1 out.length, ()), ⟨.refl _, trivial⟩, ⟨⟨rfl, .rowEq (rL hE :), .int (rI hE :), .int (rE hE :), trivial⟩, trivial⟩, ⟨hrn, trivial⟩, ?_⟩
          refine ⟨ByteArray, strC, noS, [(q.name1 out.length).freshV], ⟨rfl, fun _ => rfl⟩, ⟨.refl _, trivial⟩, rfl, ?_⟩
          cases b
          · refine ⟨ByteArray, strC, noS, out, [(q.name1 out.length).freshV], 6, ⟨.refl _, .own ..⟩, fun _ => rfl, (by show (out.length + 1) * 16 ≤ 140737488355328; omega), ?_⟩
            exact ⟨(k, (q.name1 out.length).fresh, out ++ [(q.name1 out.length).freshV], true), hinv, Nat.lt_succ_self _, ⟨rfl, rfl⟩, .refl _, .refl _, ⟨.refl _, .refl _, .refl _, trivial⟩, trivial⟩
          · refine ⟨ByteArray, strC, noS, out, [(q.name1 out.length).freshV], 22, ⟨.refl _, .own ..⟩, fun _ => rfl, (by show (out.length + 1) * 16 ≤ 140737488355328; omega), ?_⟩
            exact ⟨(k, (q.name1 out.length).fresh, out ++ [(q.name1 out.length).freshV], true), hinv, Nat.lt_succ_self _, ⟨rfl, rfl⟩, .refl _, .refl _, ⟨.refl _, .refl _, .refl _, trivial⟩, trivial⟩
        · have h3 : (q.take wComma).free = false := h
          have hE : q.take wComma = q.name1 out.length := by rw [hst] at h3 ⊢; rw [hn4, if_neg (fun c => by rw [h3] at c; cases c.2)]
          refine ⟨by kernel_rfl, ?_⟩
          refine ⟨(q.name1 out.length, ()), ⟨.refl _, trivial⟩, ⟨⟨rfl, .rowEq (rL hE :), .int (rI hE :), .int (rE hE :), trivial⟩, trivial⟩, ⟨hrn, trivial⟩, ?_⟩
          refine ⟨ByteArray, strC, noS, [(q.name1 out.length).freshV], ⟨rfl, fun _ => rfl⟩, ⟨.refl _, trivial⟩, rfl, ?_⟩
          cases b
          · refine ⟨ByteArray, strC, noS, out, [(q.name1 out.length).freshV], 6, ⟨.refl _, .own ..⟩, fun _ => rfl, (by show (out.length + 1) * 16 ≤ 140737488355328; omega), ?_⟩
            exact ⟨(k, (q.name1 out.length).fresh, out ++ [(q.name1 out.length).freshV], true), hinv, Nat.lt_succ_self _, ⟨rfl, rfl⟩, .refl _, .refl _, ⟨.refl _, .refl _, .refl _, trivial⟩, trivial⟩
          · refine ⟨ByteArray, strC, noS, out, [(q.name1 out.length).freshV], 22, ⟨.refl _, .own ..⟩, fun _ => rfl, (by show (out.length + 1) * 16 ≤ 140737488355328; omega), ?_⟩
            exact ⟨(k, (q.name1 out.length).fresh, out ++ [(q.name1 out.length).freshV], true), hinv, Nat.lt_succ_self _, ⟨rfl, rfl⟩, .refl _, .refl _, ⟨.refl _, .refl _, .refl _, trivial⟩, trivial⟩
      · have h2 : ¬ out.length = 4 := by have := of_decide_eq_false (show decide ((out.length : Int) = 4) = false from h); omega
        have hE : q.take wComma = q.name1 out.length := by rw [hst, hn4, if_neg (fun c => h2 c.1)]
        refine ⟨by kernel_rfl, ?_⟩
        refine ⟨(q.name1 out.length, ()), ⟨.refl _, trivial⟩, ⟨⟨rfl, .rowEq (rL hE :), .int (rI hE :), .int (rE hE :), trivial⟩, trivial⟩, ⟨hrn, trivial⟩, ?_⟩
        refine ⟨ByteArray, strC, noS, [(q.name1 out.length).freshV], ⟨rfl, fun _ => rfl⟩, ⟨.refl _, trivial⟩, rfl, ?_⟩
        cases b
        · refine ⟨ByteArray, strC, noS, out, [(q.name1 out.length).freshV], 6, ⟨.refl _, .own ..⟩, fun _ => rfl, (by show (out.length + 1) * 16 ≤ 140737488355328; omega), ?_⟩
          exact ⟨(k, (q.name1 out.length).fresh, out ++ [(q.name1 out.length).freshV], true), hinv, Nat.lt_succ_self _, ⟨rfl, rfl⟩, .refl _, .refl _, ⟨.refl _, .refl _, .refl _, trivial⟩, trivial⟩
        · refine ⟨ByteArray, strC, noS, out, [(q.name1 out.length).freshV], 22, ⟨.refl _, .own ..⟩, fun _ => rfl, (by show (out.length + 1) * 16 ≤ 140737488355328; omega), ?_⟩
          exact ⟨(k, (q.name1 out.length).fresh, out ++ [(q.name1 out.length).freshV], true), hinv, Nat.lt_succ_self _, ⟨rfl, rfl⟩, .refl _, .refl _, ⟨.refl _, .refl _, .refl _, trivial⟩, trivial⟩
    · have h1 : q.is wComma = false := h
      rw [Rs.namesL, if_neg (by rw [h1]; decide)] at hx1
      have hE : q.take wComma = r.names.2 := by rw [take_no h1, ← hx1]
      cases b
      · exact ⟨.ownEq (by rw [← hx1]), ⟨rfl, .rowEq (rL hE :), .int (rI hE :), .int (rE hE :), trivial⟩, trivial⟩
      · exact ⟨.ownEq (by rw [← hx1]), ⟨rfl, .rowEq (rL hE :), .int (rI hE :), .int (rE hE :), trivial⟩, trivial⟩
def utypC : CtrB := rvC Unit (fun _ => []) (fun r _ _ => tyS r.kindV) (fun r _ => r.kind) fun _ => True
set_option maxRecDepth 100000 in
theorem utyp_ok : CtrBSound Tryz.prog 47 utypC :=
  ctrB_of_ax2 mixed _ Tryz.func47 (by kernel_rfl) rfl (fun _ _ => ⟨Nat.le_of_ble_eq_true rfl, Nat.le_of_ble_eq_true rfl⟩) fun ((r, u) : Rs × Unit) id hd => by
    refine ⟨_, ⟨env_okB tys_ok (eqs := []) trivial (cs := []) trivial (bs := [(43, umayC), (44, ufreshC), (46, uwantC)]) ⟨umay_ok, ufresh_ok, uwant_ok, trivial⟩ (qu := [2, 3]), fun _ h => h⟩, ?_⟩
    have hd : rokU r := hd.1
    refine ⟨by kernel_rfl, ?_⟩
    refine ⟨(r, wVoid), ⟨.refl _, .str rfl, trivial⟩, ⟨⟨rfl, .refl _, .refl _, .refl _, trivial⟩, trivial⟩, ⟨hd, w_ne.2.1⟩, ?_⟩
    refine ⟨fun h => ?_, fun h => ?_⟩
    · have h1 : r.is wVoid = true := h
      have hE : r.take wVoid = r.kind := by rw [take_yes h1]; unfold Rs.kind; rw [if_pos h1]
      have hV : ((1, noS) : Ty) = r.kindV := by unfold Rs.kindV; rw [if_pos h1]
      exact ⟨.tyEq hV, ⟨rfl, .rowEq (rL hE :), .int (rI hE :), .int (rE hE :), trivial⟩, trivial⟩
    have h1 : r.is wVoid = false := h
    have hE : r.take wVoid = r := take_no h1
    refine ⟨by kernel_rfl, ?_⟩
    refine ⟨(r, wInt), ⟨.refl _, .str rfl, trivial⟩, ⟨⟨rfl, .rowEq (rL hE :), .int (rI hE :), .int (rE hE :), trivial⟩, trivial⟩, ⟨hd, w_ne.2.2.1⟩, ?_⟩
    clear hE
    refine ⟨fun h => ?_, fun h => ?_⟩
    · have h2 : r.is wInt = true := h
      have hst := take_yes h2
      have hdt : rokU (r.take wInt) := rokU_fwd hd (Rs.take_fwd r _)
      refine ⟨by kernel_rfl, ?_⟩
      refine ⟨(r.take wInt, wLb), ⟨.refl _, .str rfl, trivial⟩, ⟨⟨rfl, .refl _, .refl _, .refl _, trivial⟩, trivial⟩, ⟨hdt, w_ne.2.2.2.1⟩, ?_⟩
      refine ⟨fun h => ?_, fun h => ?_⟩
      · have h3 : (r.take wInt).is wLb = true := h
        have ht2 := take_yes h3
        refine ⟨by kernel_rfl, ?_⟩
        refine ⟨((r.take wInt).take wLb, wRb), ⟨.refl _, .str rfl, trivial⟩, ⟨⟨rfl, .refl _, .refl _, .refl _, trivial⟩, trivial⟩, ⟨rokU_fwd hdt (Rs.take_fwd _ _), w_ne.2.2.2.2.1⟩, ?_⟩
        have hE : ((r.take wInt).take wLb).want wRb = r.kind := by rw [ht2, hst]; rw [hst] at h3; unfold Rs.kind Rs.rowR; rw [if_neg (by rw [h1]; decide), if_pos h2, if_pos h3]
        have hV : ((4, noS) : Ty) = r.kindV := by rw [hst] at h3; unfold Rs.kindV; rw [if_neg (by rw [h1]; decide), if_pos h2, if_pos h3]
        exact ⟨.tyEq hV, ⟨rfl, .rowEq (rL hE :), .int (rI hE :), .int (rE hE :), trivial⟩, trivial⟩
      · have h3 : (r.take wInt).is wLb = false := h
        have ht2 := take_no h3
        have hE : (r.take wInt).take wLb = r.kind := by rw [ht2, hst]; rw [hst] at h3; unfold Rs.kind Rs.rowR; rw [if_neg (by rw [h1]; decide), if_pos h2, if_neg (by rw [h3]; decide)]
        have hV : ((2, noS) : Ty) = r.kindV := by rw [hst] at h3; unfold Rs.kindV; rw [if_neg (by rw [h1]; decide), if_pos h2, if_neg (by rw [h3]; decide)]
        exact ⟨.tyEq hV, ⟨rfl, .rowEq (rL hE :), .int (rI hE :), .int (rE hE :), trivial⟩, trivial⟩
    have h2 : r.is wInt = false := h
    have hE : r.take wInt = r := take_no h2
    refine ⟨by kernel_rfl, ?_⟩
    refine ⟨(r, ()), ⟨.refl _, trivial⟩, ⟨⟨rfl, .rowEq (rL hE :), .int (rI hE :), .int (rE hE :), trivial⟩, trivial⟩, ⟨hd, trivial⟩, ?_⟩
    clear hE
    have hdf : rokU r.fresh := rokU_fwd hd (Rs.fresh_fwd r)
    refine ⟨by kernel_rfl, ?_⟩
    refine ⟨(r.fresh, wLb), ⟨.refl _, .str rfl, trivial⟩, ⟨⟨rfl, .refl _, .refl _, .refl _, trivial⟩, trivial⟩, ⟨hdf, w_ne.2.2.2.1⟩, ?_⟩
    refine ⟨fun h => ?_, fun h => ?_⟩
    · have h3 : r.fresh.is wLb = true := h
      have ht2 := take_yes h3
      refine ⟨by kernel_rfl, ?_⟩
      refine ⟨(r.fresh.take wLb, wRb), ⟨.refl _, .str rfl, trivial⟩, ⟨⟨rfl, .refl _, .refl _, .refl _, trivial⟩, trivial⟩, ⟨rokU_fwd hdf (Rs.take_fwd _ _), w_ne.2.2.2.2.1⟩, ?_⟩
      have hE : (r.fresh.take wLb).want wRb = r.kind := by rw [ht2]; unfold Rs.kind Rs.rowR; rw [if_neg (by rw [h1]; decide), if_neg (by rw [h2]; decide), if_pos h3]
      have hV : ((5, r.freshV) : Ty) = r.kindV := by unfold Rs.kindV; rw [if_neg (by rw [h1]; decide), if_neg (by rw [h2]; decide), if_pos h3]
      exact ⟨.tyEq hV, ⟨rfl, .rowEq (rL hE :), .int (rI hE :), .int (rE hE :), trivial⟩, trivial⟩
    · have h3 : r.fresh.is wLb = false := h
      have hE : r.fresh.take wLb = r.kind := by rw [take_no h3]; unfold Rs.kind Rs.rowR; rw [if_neg (by rw [h1]; decide), if_neg (by rw [h2]; decide), if_neg (by rw [h3]; decide)]
      have hV : ((3, r.freshV) : Ty) = r.kindV := by unfold Rs.kindV; rw [if_neg (by rw [h1]; decide), if_neg (by rw [h2]; decide), if_neg (by rw [h3]; decide)]
      exact ⟨.tyEq hV, ⟨rfl, .rowEq (rL hE :), .int (rI hE :), .int (rE hE :), trivial⟩, trivial⟩
end Go.Proofs.YtimhbimpaiiceaaGreatDoor.Ax
/- Layer parse: ParseInstr. -/
set_option linter.unusedVariables false
set_option linter.unusedSimpArgs false
namespace Go.Proofs.YtimhbimpaiiceaaGreatDoor.Ax
open Go Go.RowKit
theorem stuck {r r' : Rs} (h : r.e = 4) (f : Fwd r r') : r'.e = 4 := by
  have := f.err (by rw [h]; decide)
  rw [this]; exact h
def shapeF (o : Int) : Int := if o = 1 then 1 else if o = 3 ∨ o = 4 then 2 else if 14 ≤ o ∧ o ≤ 26 then 3 else if o = 27 ∨ o = 33 ∨ o = 37 ∨ o = 38 then 4 else if (28 ≤ o ∧ o ≤ 31) ∨ o = 39 ∨ o = 40 then 5 else 0
theorem shape_is {o k : Int} (h : (k = 1 ∧ o = 1) ∨ (k = 2 ∧ (o = 3 ∨ o = 4)) ∨ (k = 3 ∧ 14 ≤ o ∧ o ≤ 26) ∨ (k = 4 ∧ (o = 27 ∨ o = 33 ∨ o = 37 ∨ o = 38)) ∨ (k = 5 ∧ ((28 ≤ o ∧ o ≤ 31) ∧ o ≠ 27 ∨ o = 39 ∨ o = 40)) ∨
    (k = 0 ∧ o ≠ 1 ∧ o ≠ 3 ∧ o ≠ 4 ∧ ¬ (14 ≤ o ∧ o ≤ 26) ∧ o ≠ 27 ∧ o ≠ 33 ∧ o ≠ 37 ∧ o ≠ 38 ∧ ¬ (28 ≤ o ∧ o ≤ 31) ∧ o ≠ 39 ∧ o ≠ 40)) : k = shapeF o := by
  unfold shapeF
  split
  · omega
  · split
    · omega
    · split
      · omega
      · split
        · omega
        · split <;> omega
def rshapeC : Ctr := { A := Int, enc := fun n => [I n], dom := fun _ => True, res := fun n _ => I (shapeF n) }
set_option maxRecDepth 100000 in
theorem rshape_ok : CtrSound Tryz.prog 75 rshapeC :=
  ctr_of_ax (env_ok tys_ok (eqs := []) trivial (cs := []) trivial) mixed _ Tryz.func75 (by kernel_rfl) rfl (fun _ _ => Nat.le_of_ble_eq_true rfl) fun (o : Int) id _ => by
    refine ⟨fun h => ?_, fun h => ?_⟩
    · have q1 : o = 1 := eqT h
      exact ⟨.int (shape_is (by omega)), rfl⟩
    have q1 : ¬ o = 1 := eqF h
    refine ⟨fun h => ?_, fun h => ?_⟩
    · have q2 : o = 3 := eqT h
      exact ⟨.int (shape_is (by omega)), rfl⟩
    have q2 : ¬ o = 3 := eqF h
    refine ⟨fun h => ?_, fun h => ?_⟩
    · have q3 : o = 4 := eqT h
      exact ⟨.int (shape_is (by omega)), rfl⟩
    have q3 : ¬ o = 4 := eqF h
    refine ⟨fun h => ?_, fun h => ?_⟩
    · have q4 : o ≥ 14 := of_decide_eq_true h
      refine ⟨fun h => ?_, fun h => ?_⟩
      · have q5 : o ≤ 26 := of_decide_eq_true h
        exact ⟨.int (shape_is (by omega)), rfl⟩
      have q5 : ¬ o ≤ 26 := of_decide_eq_false h
      refine ⟨fun h => ?_, fun h => ?_⟩
      · have q6 : o = 27 := eqT h
        exact ⟨.int (shape_is (by omega)), rfl⟩
      have q6 : ¬ o = 27 := eqF h
      refine ⟨fun h => ?_, fun h => ?_⟩
      · have q7 : o = 33 := eqT h
        exact ⟨.int (shape_is (by omega)), rfl⟩
      have q7 : ¬ o = 33 := eqF h
      refine ⟨fun h => ?_, fun h => ?_⟩
      · have q8 : o = 37 := eqT h
        exact ⟨.int (shape_is (by omega)), rfl⟩
      have q8 : ¬ o = 37 := eqF h
      refine ⟨fun h => ?_, fun h => ?_⟩
      · have q9 : o = 38 := eqT h
        exact ⟨.int (shape_is (by omega)), rfl⟩
      have q9 : ¬ o = 38 := eqF h
      refine ⟨fun h => ?_, fun h => ?_⟩
      · have q10 : o ≥ 28 := of_decide_eq_true h
        refine ⟨fun h => ?_, fun h => ?_⟩
        · have q11 : o ≤ 31 := of_decide_eq_true h
          exact ⟨.int (shape_is (by omega)), rfl⟩
        have q11 : ¬ o ≤ 31 := of_decide_eq_false h
        refine ⟨fun h => ?_, fun h => ?_⟩
        · have q12 : o = 39 := eqT h
          exact ⟨.int (shape_is (by omega)), rfl⟩
        have q12 : ¬ o = 39 := eqF h
        refine ⟨fun h => ?_, fun h => ?_⟩
        · have q13 : o = 40 := eqT h
          exact ⟨.int (shape_is (by omega)), rfl⟩
        have q13 : ¬ o = 40 := eqF h
        exact ⟨.int (shape_is (by omega)), rfl⟩
      have q10 : ¬ o ≥ 28 := of_decide_eq_false h
      refine ⟨fun h => ?_, fun h => ?_⟩
      · have q14 : o = 39 := eqT h
        exact ⟨.int (shape_is (by omega)), rfl⟩
      have q14 : ¬ o = 39 := eqF h
      refine ⟨fun h => ?_, fun h => ?_⟩
      · have q15 : o = 40 := eqT h
        exact ⟨.int (shape_is (by omega)), rfl⟩
      have q15 : ¬ o = 40 := eqF h
      exact ⟨.int (shape_is (by omega)), rfl⟩
    have q4 : ¬ o ≥ 14 := of_decide_eq_false h
    refine ⟨fun h => ?_, fun h => ?_⟩
    · have q16 : o = 27 := eqT h
      exact ⟨.int (shape_is (by omega)), rfl⟩
    have q16 : ¬ o = 27 := eqF h
    refine ⟨fun h => ?_, fun h => ?_⟩
    · have q17 : o = 33 := eqT h
      exact ⟨.int (shape_is (by omega)), rfl⟩
    have q17 : ¬ o = 33 := eqF h
    refine ⟨fun h => ?_, fun h => ?_⟩
    · have q18 : o = 37 := eqT h
      exact ⟨.int (shape_is (by omega)), rfl⟩
    have q18 : ¬ o = 37 := eqF h
    refine ⟨fun h => ?_, fun h => ?_⟩
    · have q19 : o = 38 := eqT h
      exact ⟨.int (shape_is (by omega)), rfl⟩
    have q19 : ¬ o = 38 := eqF h
    refine ⟨fun h => ?_, fun h => ?_⟩
    · have q20 : o ≥ 28 := of_decide_eq_true h
      refine ⟨fun h => ?_, fun h => ?_⟩
      · have q21 : o ≤ 31 := of_decide_eq_true h
        exact ⟨.int (shape_is (by omega)), rfl⟩
      have q21 : ¬ o ≤ 31 := of_decide_eq_false h
      refine ⟨fun h => ?_, fun h => ?_⟩
      · have q22 : o = 39 := eqT h
        exact ⟨.int (shape_is (by omega)), rfl⟩
      have q22 : ¬ o = 39 := eqF h
      refine ⟨fun h => ?_, fun h => ?_⟩
      · have q23 : o = 40 := eqT h
        exact ⟨.int (shape_is (by omega)), rfl⟩
      have q23 : ¬ o = 40 := eqF h
      exact ⟨.int (shape_is (by omega)), rfl⟩
    have q20 : ¬ o ≥ 28 := of_decide_eq_false h
    refine ⟨fun h => ?_, fun h => ?_⟩
    · have q24 : o = 39 := eqT h
      exact ⟨.int (shape_is (by omega)), rfl⟩
    have q24 : ¬ o = 39 := eqF h
    refine ⟨fun h => ?_, fun h => ?_⟩
    · have q25 : o = 40 := eqT h
      exact ⟨.int (shape_is (by omega)), rfl⟩
    have q25 : ¬ o = 40 := eqF h
    exact ⟨.int (shape_is (by omega)), rfl⟩
def ParseInstr : Ctr := { A := Int × Int, enc := fun x => [I x.1, I x.2], dom := fun _ => True, res := fun _ _ => .tt, gl := tabP }
end Go.Proofs.YtimhbimpaiiceaaGreatDoor.Ax
/- The reference's parser: instructions. -/
set_option linter.unusedVariables false
set_option linter.unusedSimpArgs false
namespace Go.Proofs.YtimhbimpaiiceaaGreatDoor.Ax
open Go Go.RowKit
abbrev uwordsC : Ctr := { A := Unit, enc := fun _ => [], dom := fun _ => True, res := fun _ _ => .row ByteArray 1 strC noS opsL }
set_option maxRecDepth 100000 in
theorem uwords_ok : CtrSound Tryz.prog 9 uwordsC :=
  ctr_of_ax (env_ok tys_ok (eqs := []) trivial (cs := []) trivial) mixed _ Tryz.func9 (by kernel_rfl) rfl (fun _ _ => Nat.le_of_ble_eq_true rfl) fun (_ : Unit) id hd => by
    refine ⟨ByteArray, strC, noS, opsL, ⟨rfl, fun _ => rfl⟩, ⟨.refl _, .refl _, .refl _, .refl _, .refl _, .refl _, .refl _, .refl _, .refl _, .refl _, .refl _, .refl _, .refl _, .refl _, .refl _, .refl _, .refl _, .refl _, .refl _, .refl _, .refl _, .refl _, .refl _, .refl _, .refl _, .refl _, .refl _, .refl _, .refl _, .refl _, .refl _, .refl _, .refl _, .refl _, .refl _, .refl _, .refl _, .refl _, .refl _, .refl _, .refl _, .refl _, .refl _, .refl _, trivial⟩, rfl, ?_⟩
    exact ⟨.ownRow rfl, rfl⟩
abbrev uopC : Ctr := { A := ByteArray, enc := fun s => [S s], dom := fun _ => True, res := fun s _ => I (opV s) }
set_option maxRecDepth 100000 in
theorem uop_ok : CtrSound Tryz.prog 8 uopC :=
  ctr_of_ax (env_ok tys_ok (eqs := []) trivial (cs := [(9, uwordsC)]) ⟨uwords_ok, trivial⟩) mixed _ Tryz.func8 (by kernel_rfl) rfl (fun _ _ => Nat.le_of_ble_eq_true rfl) fun (s : ByteArray) id _ => by
    have hl : opsL.length = 44 := by decide +kernel
    refine ⟨(), trivial, rfl, trivial, ?_⟩
    refine ⟨Nat, fun i => [(0, S s), (3, .row ByteArray 1 strC noS opsL), (4, I i)], fun _ => [], fun i => i ≤ opsL.length ∧ ∀ j, j < i → opsL.getD j noS ≠ s, fun i => opsL.length - i,
      ⟨0, ⟨Nat.zero_le _, fun j hj => by omega⟩, ⟨⟨rfl, rfl⟩, .refl _, .refl _, .refl _, trivial⟩⟩, fun (i : Nat) hi => ?_⟩
    have hil := hi.1
    have hwj : IntKind.i64.wrap ((i : Int) + 1) = ((i + 1 : Nat) : Int) := by rw [wrap_eq _ (by omega) (by omega)]; omega
    refine ⟨fun h => ?_, fun h => ?_⟩
    · have hlt : i < opsL.length := dlt h
      refine ⟨(show 0 ≤ (i : Int) ∧ (i : Int) < ((opsL.length : Nat) : Int) by omega), ?_⟩
      refine ⟨fun h => ?_, fun h => ?_⟩
      · have h : opsL.getD i noS = s := baT h
        exact ⟨.int (by
          have := Lib.idxFromS_hit s opsL i 0 hlt h (fun j hj => hi.2 j hj)
          show (i : Int) = Lib.idxFromS opsL s 0
          rw [this]; simp), rfl⟩
      · have h : opsL.getD i noS ≠ s := baF h
        exact ⟨i + 1, ⟨hlt, fun j hj => by rcases Nat.lt_succ_iff_lt_or_eq.1 hj with q | rfl; exact hi.2 j q; exact h⟩, (show opsL.length - (i + 1) < opsL.length - i by omega), ⟨rfl, rfl⟩, .refl _, .refl _, .int hwj, trivial⟩
    · have hge : i = opsL.length := Nat.le_antisymm hil (dge h)
      exact ⟨.int (by
        show (-1 : Int) = Lib.idxFromS opsL s 0
        rw [Lib.idxFromS_miss s opsL 0 (fun j hj => hi.2 j (by omega))]), rfl⟩
def shapeQU (k : Int) : Nat := if shapeF k = 1 ∧ numsF k = (-2147483648, 2147483647, true) ∧ namesF k = 0 then 1 else if shapeF k = 2 ∧ numsF k = (0, 7, true) ∧ namesF k = 0 then 2 else if shapeF k = 3 ∧ numsF k = (0, 47, true) ∧ namesF k = 0 then 3 else if shapeF k = 4 ∧ numsF k = (0, 0, false) ∧ namesF k = 1 then 4 else if shapeF k = 5 ∧ numsF k = (0, 0, false) ∧ namesF k = 2 then 5 else if shapeF k = 0 ∧ numsF k = (0, 0, false) ∧ namesF k = 0 then 6 else 0
theorem shape_QU : ∀ k : Nat, k < 44 → shapeQU k ≠ 0 := by decide +kernel
theorem shape_U (o : Int) (h0 : 0 ≤ o) (h1 : o ≤ 43) : (shapeF o = 1 ∧ numsF o = (-2147483648, 2147483647, true) ∧ namesF o = 0) ∨ (shapeF o = 2 ∧ numsF o = (0, 7, true) ∧ namesF o = 0) ∨ (shapeF o = 3 ∧ numsF o = (0, 47, true) ∧ namesF o = 0) ∨
    (shapeF o = 4 ∧ numsF o = (0, 0, false) ∧ namesF o = 1) ∨ (shapeF o = 5 ∧ numsF o = (0, 0, false) ∧ namesF o = 2) ∨ (shapeF o = 0 ∧ numsF o = (0, 0, false) ∧ namesF o = 0) := by
  obtain ⟨k, rfl⟩ : ∃ k : Nat, o = k := ⟨o.toNat, by omega⟩
  have := shape_QU k (by omega)
  unfold shapeQU at this
  split at this
  · exact .inl ‹_›
  · split at this
    · exact .inr (.inl ‹_›)
    · split at this
      · exact .inr (.inr (.inl ‹_›))
      · split at this
        · exact .inr (.inr (.inr (.inl ‹_›)))
        · split at this
          · exact .inr (.inr (.inr (.inr (.inl ‹_›))))
          · split at this
            · exact .inr (.inr (.inr (.inr (.inr ‹_›))))
            · exact absurd rfl this
/-- a method's cells but for its code -/
def methK (m : Meth) (c a : SV) : List SV := [S m.name, B m.static, B m.abs, .row Ty 2 tyC ty0 m.params, I m.ret.1, S m.ret.2, I m.locals, c, a]
def uinsC : CtrB := { A := Rs × Meth, enc := fun _ => [.box 1000 0, .box 1001 0], pre := fun x => [rsR x.1, methK x.2 (.own Ins 4 insC ins0 x.2.code 7200000) (.own Cat 4 catC cat0 x.2.catches 7300000)], dom := fun x => rokU x.1 ∧ x.1.e = 0 ∧ x.2.code.length ≤ 48, res := fun _ _ => .tup [], post := fun x id => [rsR (x.1.rIns x.2.code).2, methK x.2 (.own Ins 4 insC ins0 (x.1.rIns x.2.code).1 (id + 7200000)) (.own Cat 4 catC cat0 x.2.catches (id + 7300000))] }
theorem vO {a b : Ins} (h : a = b) : a.op = b.op := congrArg Ins.op h
theorem vN {a b : Ins} (h : a = b) : a.n = b.n := congrArg Ins.n h
theorem vA {a b : Ins} (h : a = b) : a.a = b.a := congrArg Ins.a h
theorem vB {a b : Ins} (h : a = b) : a.b = b.b := congrArg Ins.b h
theorem op_U {r : Rs} (h : r.isOp = true) : r.e = 0 ∧ r.i < r.L.length ∧ r.next.1 = 1 ∧ 0 ≤ opV r.next.2.1 ∧ opV r.next.2.1 ≤ 43 := by
  have ha := Rs.isOp_at h
  unfold Rs.isOp at h
  rw [Bool.and_eq_true, decide_eq_true_eq, decide_eq_true_eq] at h
  exact ⟨ha.1, ha.2, h.1, h.2, Rs.op_le h.2⟩
set_option maxRecDepth 100000 in
set_option maxHeartbeats 2000000 in
theorem uins_ok : CtrBSound Tryz.prog 65 uinsC :=
  ctrB_of_ax2 mixed _ Tryz.func65 (by kernel_rfl) rfl (fun _ _ => ⟨Nat.le_of_ble_eq_true rfl, Nat.le_of_ble_eq_true rfl⟩) fun ((r, m) : Rs × Meth) id hd => by
    refine ⟨_, ⟨env_okB tys_ok (eqs := []) trivial (cs := [(8, uopC), (75, rshapeC)]) ⟨uop_ok, rshape_ok, trivial⟩ (bs := [(20, ubadC), (64, unumC), (44, ufreshC), (46, uwantC)]) ⟨ubad_ok, unum_ok, ufresh_ok, uwant_ok, trivial⟩ (cut := [18]), fun _ h => h⟩, ?_⟩
    obtain ⟨hr, he, hm⟩ : rokU r ∧ r.e = 0 ∧ m.code.length ≤ 48 := hd
    have hr' := hr
    obtain ⟨⟨hL, hI⟩, -⟩ := hr'
    have hrk : rok r := ⟨hL, hI⟩
    have bad : r.isOp = false → r.rIns m.code = (m.code, r.fail 4) := fun h => by unfold Rs.rIns; rw [if_neg (by rw [h]; decide)]
    refine ⟨by kernel_rfl, ?_⟩
    refine ⟨fun h => ?_, fun h => ?_⟩
    · have hn : r.isOp = false := by
        have h : decide ((r.i : Int) ≥ (r.L.length : Int)) = true := h
        have := of_decide_eq_true h
        cases c : r.isOp with
        | false => rfl
        | true => have := (op_U c).2.1; omega
      refine ⟨by kernel_rfl, ?_⟩
      refine ⟨(r, 4), ⟨.refl _, .refl _, trivial⟩, ⟨⟨rfl, .refl _, .refl _, .refl _, trivial⟩, trivial⟩, ⟨hr, trivial⟩, ?_⟩
      have e := bad hn
      have hE : r.fail 4 = (r.rIns m.code).2 := by rw [e]
      exact ⟨.refl (.tup []), ⟨rfl, .rowEq (rL hE :), .int (rI hE :), .int (rE hE :), trivial⟩, ⟨rfl, .refl _, .refl _, .refl _, .refl _, .refl _, .refl _, .refl _, .ownEq (by rw [e]), .ownEq rfl, trivial⟩, trivial⟩
    have h2 : r.i < r.L.length := by
      have h : decide ((r.i : Int) ≥ (r.L.length : Int)) = false := h
      have := of_decide_eq_false h; omega
    have en := Rs.next_some ⟨he, h2⟩
    have rg : 0 ≤ (r.i : Int) ∧ (r.i : Int) < (r.L.length : Int) := ⟨by omega, by omega⟩
    refine ⟨rg, ?_⟩
    refine ⟨fun h => ?_, fun h => ?_⟩
    · have hn : r.isOp = false := by
        have h : ((r.L.getD r.i tok0).1 != 1) = true := h
        cases c : r.isOp with
        | false => rfl
        | true =>
          rw [← en, (op_U c).2.2.1] at h; cases h
      refine ⟨by kernel_rfl, ?_⟩
      refine ⟨(r, 4), ⟨.refl _, .refl _, trivial⟩, ⟨⟨rfl, .refl _, .refl _, .refl _, trivial⟩, trivial⟩, ⟨hr, trivial⟩, ?_⟩
      have e := bad hn
      have hE : r.fail 4 = (r.rIns m.code).2 := by rw [e]
      exact ⟨.refl (.tup []), ⟨rfl, .rowEq (rL hE :), .int (rI hE :), .int (rE hE :), trivial⟩, ⟨rfl, .refl _, .refl _, .refl _, .refl _, .refl _, .refl _, .refl _, .ownEq (by rw [e]), .ownEq rfl, trivial⟩, trivial⟩
    have h3 : r.next.1 = 1 := by
      have h : ((r.L.getD r.i tok0).1 != 1) = false := h
      rw [en]; simpa using h
    refine ⟨rg, ?_⟩
    refine ⟨r.next.2.1, ⟨.str (by rw [en]; rfl), trivial⟩, rfl, trivial, ?_⟩
    refine ⟨fun h => ?_, fun h => ?_⟩
    · have hn : r.isOp = false := by
        have h := of_decide_eq_true (show decide (opV r.next.2.1 < 0) = true from h)
        cases c : r.isOp with
        | false => rfl
        | true => have := (op_U c).2.2.2.1; omega
      refine ⟨by kernel_rfl, ?_⟩
      refine ⟨(r, 4), ⟨.refl _, .refl _, trivial⟩, ⟨⟨rfl, .refl _, .refl _, .refl _, trivial⟩, trivial⟩, ⟨hr, trivial⟩, ?_⟩
      have e := bad hn
      have hE : r.fail 4 = (r.rIns m.code).2 := by rw [e]
      exact ⟨.refl (.tup []), ⟨rfl, .rowEq (rL hE :), .int (rI hE :), .int (rE hE :), trivial⟩, ⟨rfl, .refl _, .refl _, .refl _, .refl _, .refl _, .refl _, .refl _, .ownEq (by rw [e]), .ownEq rfl, trivial⟩, trivial⟩
    have h4 : 0 ≤ opV r.next.2.1 := by have h := of_decide_eq_false (show decide (opV r.next.2.1 < 0) = false from h); omega
    have hop : r.isOp = true := by unfold Rs.isOp; rw [h3, decide_eq_true h4]; rfl
    obtain ⟨o, eo⟩ : ∃ o, o = opV r.next.2.1 := ⟨_, rfl⟩
    have ho1 : o ≤ 43 := by rw [eo]; exact Rs.op_le h4
    have hsh := shape_U o (by rw [eo]; exact h4) ho1
    refine ⟨fun h => ?_, fun h => ?_⟩
    · have hl : m.code.length = 48 := by have := of_decide_eq_true (show decide ((m.code.length : Int) = 48) = true from h); omega
      refine ⟨by kernel_rfl, ?_⟩
      refine ⟨(r, 2), ⟨.refl _, .refl _, trivial⟩, ⟨⟨rfl, .refl _, .refl _, .refl _, trivial⟩, trivial⟩, ⟨hr, trivial⟩, ?_⟩
      have e : r.rIns m.code = (m.code, r.fail 2) := by unfold Rs.rIns; rw [if_pos hop, if_pos hl]
      have hE : r.fail 2 = (r.rIns m.code).2 := by rw [e]
      exact ⟨.refl (.tup []), ⟨rfl, .rowEq (rL hE :), .int (rI hE :), .int (rE hE :), trivial⟩, ⟨rfl, .refl _, .refl _, .refl _, .refl _, .refl _, .refl _, .refl _, .ownEq (by rw [e]), .ownEq rfl, trivial⟩, trivial⟩
    have hl : ¬ m.code.length = 48 := by have := of_decide_eq_false (show decide ((m.code.length : Int) = 48) = false from h); omega
    have e : r.rIns m.code = (m.code ++ [r.step.inVal o], (r.step.inArgs o).want wSemi) := by unfold Rs.rIns; rw [if_pos hop, if_neg hl, eo]
    refine ⟨by kernel_rfl, ?_⟩
    refine ⟨rg, ?_⟩
    refine ⟨r.next.2.1, ⟨.str (by rw [en]; rfl), trivial⟩, rfl, trivial, ?_⟩
    have hst : rokU r.step := rokU_fwd hr (Rs.step_fwd ⟨he, h2⟩)
    have hst2 : rokU (r.step.in2 o) := rokU_fwd hst (Rs.in2_fwd _ _)
    have hst3 : rokU ((r.step.in2 o).in3 (decide (namesF o > 0))) := rokU_fwd hst2 (Rs.in3_fwd _ _)
    refine ⟨Unit, fun _ => [(0, .box 1000 0), (1, .box 1001 0), (4, .box 4 0)], fun _ => [(1000, rsR (r.step.inArgs o)), (1001, methK m (.own Ins 4 insC ins0 m.code 7200000) (.own Cat 4 catC cat0 m.catches 7300000)), (4, insC (r.step.inVal o))], fun _ => True, ?_, fun _ _ => ?_⟩
    · refine ⟨o, ⟨.int eo.symm, trivial⟩, rfl, trivial, ?_⟩
      refine ⟨fun h => ?_, fun h1 => ?_⟩
      · have hk := eqT h
        have sh2 : numsF o = (-2147483648, 2147483647, true) ∧ namesF o = 0 := by
          rcases hsh with ⟨a, b⟩ | ⟨a, b⟩ | ⟨a, b⟩ | ⟨a, b⟩ | ⟨a, b⟩ | ⟨a, b⟩
          · exact b
          · omega
          · omega
          · omega
          · omega
          · omega
        refine ⟨by kernel_rfl, ?_⟩
        refine ⟨(r.step, (-2147483648), 2147483647), ⟨.refl _, .refl _, .refl _, trivial⟩, ⟨⟨rfl, .refl _, .int (hwI hrk), .refl _, trivial⟩, trivial⟩, ⟨hst, trivial⟩, ?_⟩
        have hE : r.step.num (-2147483648) 2147483647 = r.step.inArgs o := by unfold Rs.inArgs Rs.in3 Rs.in2; rw [sh2.1, sh2.2]; rfl
        have hV : (⟨o, r.step.numV (-2147483648) 2147483647, noS, noS⟩ : Ins) = r.step.inVal o := by unfold Rs.inVal Rs.in3V Rs.in2V; rw [sh2.1, sh2.2]; rfl
        exact ⟨(), trivial, ⟨rfl, rfl⟩, .refl _, .refl _, .refl _, ⟨.refl _, .refl _, .refl _, .refl _, .refl _, .refl _, .refl _, .refl _, .refl _, trivial⟩, ⟨.int (eo.symm.trans (vO hV :)), .int (vN hV :), .str (vA hV :), .str (vB hV :), trivial⟩, ⟨.rowEq (rL hE :), .int (rI hE :), .int (rE hE :), trivial⟩, trivial⟩
      refine ⟨fun h => ?_, fun h2 => ?_⟩
      · have hk := eqT h
        have sh2 : numsF o = (0, 7, true) ∧ namesF o = 0 := by
          rcases hsh with ⟨a, b⟩ | ⟨a, b⟩ | ⟨a, b⟩ | ⟨a, b⟩ | ⟨a, b⟩ | ⟨a, b⟩
          · omega
          · exact b
          · omega
          · omega
          · omega
          · omega
        refine ⟨by kernel_rfl, ?_⟩
        refine ⟨(r.step, 0, 7), ⟨.refl _, .refl _, .refl _, trivial⟩, ⟨⟨rfl, .refl _, .int (hwI hrk), .refl _, trivial⟩, trivial⟩, ⟨hst, trivial⟩, ?_⟩
        have hE : r.step.num 0 7 = r.step.inArgs o := by unfold Rs.inArgs Rs.in3 Rs.in2; rw [sh2.1, sh2.2]; rfl
        have hV : (⟨o, r.step.numV 0 7, noS, noS⟩ : Ins) = r.step.inVal o := by unfold Rs.inVal Rs.in3V Rs.in2V; rw [sh2.1, sh2.2]; rfl
        exact ⟨(), trivial, ⟨rfl, rfl⟩, .refl _, .refl _, .refl _, ⟨.refl _, .refl _, .refl _, .refl _, .refl _, .refl _, .refl _, .refl _, .refl _, trivial⟩, ⟨.int (eo.symm.trans (vO hV :)), .int (vN hV :), .str (vA hV :), .str (vB hV :), trivial⟩, ⟨.rowEq (rL hE :), .int (rI hE :), .int (rE hE :), trivial⟩, trivial⟩
      refine ⟨fun h => ?_, fun h3 => ?_⟩
      · have hk := eqT h
        have sh2 : numsF o = (0, 47, true) ∧ namesF o = 0 := by
          rcases hsh with ⟨a, b⟩ | ⟨a, b⟩ | ⟨a, b⟩ | ⟨a, b⟩ | ⟨a, b⟩ | ⟨a, b⟩
          · omega
          · omega
          · exact b
          · omega
          · omega
          · omega
        refine ⟨by kernel_rfl, ?_⟩
        refine ⟨(r.step, 0, 47), ⟨.refl _, .refl _, .refl _, trivial⟩, ⟨⟨rfl, .refl _, .int (hwI hrk), .refl _, trivial⟩, trivial⟩, ⟨hst, trivial⟩, ?_⟩
        have hE : r.step.num 0 47 = r.step.inArgs o := by unfold Rs.inArgs Rs.in3 Rs.in2; rw [sh2.1, sh2.2]; rfl
        have hV : (⟨o, r.step.numV 0 47, noS, noS⟩ : Ins) = r.step.inVal o := by unfold Rs.inVal Rs.in3V Rs.in2V; rw [sh2.1, sh2.2]; rfl
        exact ⟨(), trivial, ⟨rfl, rfl⟩, .refl _, .refl _, .refl _, ⟨.refl _, .refl _, .refl _, .refl _, .refl _, .refl _, .refl _, .refl _, .refl _, trivial⟩, ⟨.int (eo.symm.trans (vO hV :)), .int (vN hV :), .str (vA hV :), .str (vB hV :), trivial⟩, ⟨.rowEq (rL hE :), .int (rI hE :), .int (rE hE :), trivial⟩, trivial⟩
      refine ⟨fun h => ?_, fun h4 => ?_⟩
      · have hk := eqT h
        have sh2 : numsF o = (0, 0, false) ∧ namesF o = 1 := by
          rcases hsh with ⟨a, b⟩ | ⟨a, b⟩ | ⟨a, b⟩ | ⟨a, b⟩ | ⟨a, b⟩ | ⟨a, b⟩
          · omega
          · omega
          · omega
          · exact b
          · omega
          · omega
        refine ⟨by kernel_rfl, ?_⟩
        refine ⟨(r.step, ()), ⟨.refl _, trivial⟩, ⟨⟨rfl, .refl _, .int (hwI hrk), .refl _, trivial⟩, trivial⟩, ⟨hst, trivial⟩, ?_⟩
        have hE : r.step.fresh = r.step.inArgs o := by unfold Rs.inArgs Rs.in3 Rs.in2; rw [sh2.1, sh2.2]; rfl
        have hV : (⟨o, 0, r.step.freshV, noS⟩ : Ins) = r.step.inVal o := by unfold Rs.inVal Rs.in3V Rs.in2V Rs.in2; rw [sh2.1, sh2.2]; rfl
        exact ⟨(), trivial, ⟨rfl, rfl⟩, .refl _, .refl _, .refl _, ⟨.refl _, .refl _, .refl _, .refl _, .refl _, .refl _, .refl _, .refl _, .refl _, trivial⟩, ⟨.int (eo.symm.trans (vO hV :)), .int (vN hV :), .str (vA hV :), .str (vB hV :), trivial⟩, ⟨.rowEq (rL hE :), .int (rI hE :), .int (rE hE :), trivial⟩, trivial⟩
      refine ⟨fun h => ?_, fun h5 => ?_⟩
      · have hk := eqT h
        have sh2 : numsF o = (0, 0, false) ∧ namesF o = 2 := by
          rcases hsh with ⟨a, b⟩ | ⟨a, b⟩ | ⟨a, b⟩ | ⟨a, b⟩ | ⟨a, b⟩ | ⟨a, b⟩
          · omega
          · omega
          · omega
          · omega
          · exact b
          · omega
        refine ⟨by kernel_rfl, ?_⟩
        refine ⟨(r.step, ()), ⟨.refl _, trivial⟩, ⟨⟨rfl, .refl _, .int (hwI hrk), .refl _, trivial⟩, trivial⟩, ⟨hst, trivial⟩, ?_⟩
        refine ⟨by kernel_rfl, ?_⟩
        refine ⟨(r.step.fresh, ()), ⟨.refl _, trivial⟩, ⟨⟨rfl, .refl _, .refl _, .refl _, trivial⟩, trivial⟩, ⟨rokU_fwd hst (Rs.fresh_fwd _), trivial⟩, ?_⟩
        have hE : r.step.fresh.fresh = r.step.inArgs o := by unfold Rs.inArgs Rs.in3 Rs.in2; rw [sh2.1, sh2.2]; rfl
        have hV : (⟨o, 0, r.step.freshV, r.step.fresh.freshV⟩ : Ins) = r.step.inVal o := by unfold Rs.inVal Rs.in3V Rs.in3 Rs.in2V Rs.in2; rw [sh2.1, sh2.2]; rfl
        exact ⟨(), trivial, ⟨rfl, rfl⟩, .refl _, .refl _, .refl _, ⟨.refl _, .refl _, .refl _, .refl _, .refl _, .refl _, .refl _, .refl _, .refl _, trivial⟩, ⟨.int (eo.symm.trans (vO hV :)), .int (vN hV :), .str (vA hV :), .str (vB hV :), trivial⟩, ⟨.rowEq (rL hE :), .int (rI hE :), .int (rE hE :), trivial⟩, trivial⟩
      have sh2 : numsF o = (0, 0, false) ∧ namesF o = 0 := by
        have h1 := eqF h1
        have h2 := eqF h2
        have h3 := eqF h3
        have h4 := eqF h4
        have h5 := eqF h5
        rcases hsh with ⟨a, b⟩ | ⟨a, b⟩ | ⟨a, b⟩ | ⟨a, b⟩ | ⟨a, b⟩ | ⟨a, b⟩
        · exact absurd a h1
        · exact absurd a h2
        · exact absurd a h3
        · exact absurd a h4
        · exact absurd a h5
        · exact b
      have hE : r.step = r.step.inArgs o := by unfold Rs.inArgs Rs.in3 Rs.in2; rw [sh2.1, sh2.2]; rfl
      have hV : (⟨o, 0, noS, noS⟩ : Ins) = r.step.inVal o := by unfold Rs.inVal Rs.in3V Rs.in2V Rs.in2; rw [sh2.1, sh2.2]; rfl
      exact ⟨(), trivial, ⟨rfl, rfl⟩, .refl _, .refl _, .refl _, ⟨.refl _, .refl _, .refl _, .refl _, .refl _, .refl _, .refl _, .refl _, .refl _, trivial⟩, ⟨.int (eo.symm.trans (vO hV :)), .int (vN hV :), .str (vA hV :), .str (vB hV :), trivial⟩, ⟨.rowEq (rL hE :), .int ((hwI hrk).trans (rI hE :)), .int (rE hE :), trivial⟩, trivial⟩
    refine ⟨by kernel_rfl, ?_⟩
    refine ⟨(r.step.inArgs o, wSemi), ⟨.refl _, .str rfl, trivial⟩, ⟨⟨rfl, .refl _, .refl _, .refl _, trivial⟩, trivial⟩, ⟨rokU_fwd hst (Rs.inArgs_fwd _ _), w_ne.2.2.2.2.2.2.2.1⟩, ?_⟩
    refine ⟨by kernel_rfl, ?_⟩
    refine ⟨Ins, insC, ins0, [r.step.inVal o], ⟨rfl, fun _ => rfl⟩, ⟨.refl _, .refl _, .refl _, .refl _, trivial⟩, rfl, ?_⟩
    refine ⟨Ins, insC, ins0, m.code, [r.step.inVal o], 7200000, ⟨.refl _, .own ..⟩, fun _ => rfl, (by show (m.code.length + 1) * 48 ≤ 140737488355328; omega), ?_⟩
    have hE : (r.step.inArgs o).want wSemi = (r.rIns m.code).2 := by rw [e]
    exact ⟨.refl (.tup []), ⟨rfl, .rowEq (rL hE :), .int (rI hE :), .int (rE hE :), trivial⟩, ⟨rfl, .refl _, .refl _, .refl _, .refl _, .refl _, .refl _, .refl _, .ownEq (by rw [e]), .ownEq rfl, trivial⟩, trivial⟩
end Go.Proofs.YtimhbimpaiiceaaGreatDoor.Ax
/- The reference's parser: methods. -/
set_option linter.unusedVariables false
set_option linter.unusedSimpArgs false
namespace Go.Proofs.YtimhbimpaiiceaaGreatDoor.Ax
open Go Go.RowKit
namespace Rs
theorem need_lt2 {r r' : Rs} (h : r.e = 0) (hf : Fwd r r') (hp : r'.e ≠ 0 ∨ r.i < r'.i) : r'.need < r.need := by
  unfold need
  rw [if_pos h]
  have h2 := hf.le
  have h3 := hf.bd
  split
  · rw [hf.L]
    rcases hp with hp | hp
    · rename_i c; exact absurd c hp
    · omega
  · omega
theorem rIns_fwd (r : Rs) (c : List Ins) : Fwd r (r.rIns c).2 := by
  unfold rIns
  split
  · rename_i h
    split
    · exact fail_fwd _ _
    · exact ((step_fwd (isOp_at h)).trans (inArgs_fwd _ _)).trans (want_fwd _ _)
  · exact fail_fwd _ _
theorem rIns_on (r : Rs) (c : List Ins) : (r.rIns c).2.e ≠ 0 ∨ r.i < (r.rIns c).2.i := by
  unfold rIns
  split
  · split
    · exact .inl (fail_e _ (by decide))
    · exact on_fwd (b := r.step) (.inr (Nat.lt_succ_self _)) ((inArgs_fwd _ _).trans (want_fwd _ _))
  · exact .inl (fail_e _ (by decide))
theorem rIns_len (r : Rs) (c : List Ins) (h : c.length ≤ 48) : (r.rIns c).1.length ≤ 48 := by
  unfold rIns
  split
  · split
    · exact h
    · simp only [List.length_append, List.length_singleton]; omega
  · exact h
theorem rCodeL_fwd : ∀ (f : Nat) (r : Rs) (c : List Ins), Fwd r (rCodeL f r c).2
  | 0, r, c => .refl _
  | f + 1, r, c => by
    rw [rCodeL]
    split
    · exact (rIns_fwd r c).trans (rCodeL_fwd f _ _)
    · exact .refl _
theorem rBoCode_fwd (r : Rs) : Fwd r r.rBoCode.2 := (bo1_fwd r).trans (rCodeL_fwd _ _ _)
theorem rCatL_fwd : ∀ (f : Nat) (r : Rs) (c : List Cat), Fwd r (rCatL f r c).2
  | 0, r, c => .refl _
  | f + 1, r, c => by
    rw [rCatL]
    split
    · rename_i h
      split
      · exact fail_fwd _ _
      · exact ((step_fwd (is_at h)).trans (catR_fwd _)).trans (rCatL_fwd f _ _)
    · exact .refl _
theorem rBoCat_fwd (r : Rs) : Fwd r r.rBoCat.2 := (rBoCode_fwd r).trans (rCatL_fwd _ _ _)
theorem rBody_fwd (r : Rs) : Fwd r r.rBody := (rBoCat_fwd r).trans (want_fwd _ _)
theorem rmmR_fwd (r : Rs) : Fwd r r.rmmR := by
  unfold rmmR
  split
  · exact (mm1_fwd r).trans (step_fwd (is_at (by assumption)))
  · exact (mm1_fwd r).trans (rBody_fwd _)
theorem param1_4 {q : Rs} {n : Nat} (h : q.e = 0 → n ≤ 4) (hc : q.is wComma = true) : q.param1 n = if n = 4 ∧ (q.step.is wInt || q.step.is wVoid || q.step.free) = true then q.step.fail 2 else q.step := by
  have h4 := h (is_at hc).1
  unfold param1
  have e : (q.step.free || q.step.is wInt || q.step.is wVoid) = (q.step.is wInt || q.step.is wVoid || q.step.free) := by
    cases q.step.free <;> cases q.step.is wInt <;> cases q.step.is wVoid <;> rfl
  rw [e]
  by_cases c : (q.step.is wInt || q.step.is wVoid || q.step.free) = true
  · rw [if_pos c]
    by_cases d : n = 4
    · rw [if_pos ⟨d, c⟩, room_yes (by omega)]
    · rw [if_neg (fun x => d x.1), room_no (by omega)]
  · rw [if_neg c, if_neg (fun x => c x.2)]
end Rs
def mZ : List SV := methC meth0
def mS (n : ByteArray) (s : Bool) (ps : SV) (k : Ty) (l : Int) (c a : SV) : List SV := [S n, B s, B false, ps, I k.1, S k.2, I l, c, a]
def nilV : SV := .val (.slice none 0 0)
def umethC : CtrB := rvC Bool (fun s => [B s]) (fun r s _ => .agg (methC (r.rmmV s))) (fun r s => r.rmmR) fun _ => True
set_option maxRecDepth 100000 in
set_option maxHeartbeats 4000000 in
theorem umeth_ok : CtrBSound Tryz.prog 48 umethC :=
  ctrB_of_ax2 mixed _ Tryz.func48 (by kernel_rfl) rfl (fun _ _ => ⟨Nat.le_of_ble_eq_true rfl, Nat.le_of_ble_eq_true rfl⟩) fun ((r, s) : Rs × Bool) id hd => by
    refine ⟨_, ⟨env_okB tys_ok (eqs := []) trivial (cs := [(19, uisC), (63, ufreeC)]) ⟨uis_ok, ufree_ok, trivial⟩ (bs := [(20, ubadC), (43, umayC), (44, ufreshC), (46, uwantC), (47, utypC), (64, unumC), (65, uinsC)]) ⟨ubad_ok, umay_ok, ufresh_ok, uwant_ok, utyp_ok, unum_ok, uins_ok, trivial⟩ (vec := [82]) (qu := [5, 16, 43]) (cut := [8, 9, 19, 27]), fun _ h => h⟩, ?_⟩
    have hr : rokU r := hd.1
    have hL : r.L.length ≤ 1000000 := hr.1.1
    obtain ⟨nCm, nVo, nIn, nLb, nRb, nLp, nRp, nSe, nLc, nRc, nCo, nLo, nCa, nEx, nIm⟩ := w_ne
    have g1 := Rs.fresh_fwd r
    have g2 := g1.trans (Rs.want_fwd _ wLp)
    have g3 : Fwd r r.fresh.params.2 := g1.trans (Rs.params_fwd _)
    have g4 : Fwd r r.mm1 := Rs.mm1_fwd r
    refine ⟨by kernel_rfl, ?_⟩
    refine ⟨(r, ()), ⟨.refl _, trivial⟩, ⟨⟨rfl, .refl _, .refl _, .refl _, trivial⟩, trivial⟩, ⟨hr, trivial⟩, ?_⟩
    refine ⟨by kernel_rfl, ?_⟩
    refine ⟨(r.fresh, wLp), ⟨.refl _, .str rfl, trivial⟩, ⟨⟨rfl, .refl _, .refl _, .refl _, trivial⟩, trivial⟩, ⟨rokU_fwd hr g1, nLp⟩, ?_⟩
    refine ⟨Rs × List Ty, fun _ => [(0, .box 1000 0), (4, .box 4 0), (5, .box 5 0)], fun x => [(1000, rsR x.1), (4, mZ), (5, mS r.freshV s (.row Ty 2 tyC ty0 x.2) ty0 0 nilV nilV)], fun x => x.1.want wRp = r.fresh.params.2 ∧ x.2 = r.fresh.params.1 ∧ Fwd r x.1, ?_, fun ((q, ps) : Rs × List Ty) hq => ?_⟩
    · refine ⟨(r.fresh.want wLp, wRp), ⟨.refl _, .str rfl, trivial⟩, rfl, ⟨rokU_fwd hr g2, nRp⟩, ?_⟩
      refine ⟨fun h => ?_, fun h => ?_⟩
      case refine_2 =>
        have h1 : (r.fresh.want wLp).is wRp = true := notF h
        have e : r.fresh.params = ([], (r.fresh.want wLp).step) := by unfold Rs.params; rw [if_pos h1]
        exact ⟨(r.fresh.want wLp, []), ⟨by rw [e, Rs.want_yes h1], by rw [e], g2⟩, ⟨rfl, rfl⟩, .refl _, .refl _, .refl _, ⟨.refl _, .refl _, .refl _, .nil .., .refl _, .refl _, .refl _, .refl _, .refl _, trivial⟩, ⟨.refl _, .refl _, .refl _, .nil .., .refl _, .refl _, .refl _, .nil .., .nil .., trivial⟩, ⟨.refl _, .refl _, .refl _, trivial⟩, trivial⟩
      have h1 : (r.fresh.want wLp).is wRp = false := notT h
      have e : r.fresh.params = ((Rs.paramsL (r.fresh.L.length + 2) (r.fresh.want wLp).kind [(r.fresh.want wLp).kindV]).1, (Rs.paramsL (r.fresh.L.length + 2) (r.fresh.want wLp).kind [(r.fresh.want wLp).kindV]).2.want wRp) := by unfold Rs.params; rw [if_neg (by rw [h1]; decide)]
      obtain ⟨q0, eq0⟩ : ∃ q0, q0 = r.fresh.want wLp := ⟨_, rfl⟩
      have hfl : r.fresh.L.length = r.L.length := by rw [g1.L]
      refine ⟨by kernel_rfl, ?_⟩
      refine ⟨by kernel_rfl, ?_⟩
      refine ⟨(r.fresh.want wLp, ()), ⟨.refl _, trivial⟩, ⟨⟨rfl, .refl _, .refl _, .refl _, trivial⟩, trivial⟩, ⟨rokU_fwd hr g2, trivial⟩, ?_⟩
      have gk : Fwd r (r.fresh.want wLp).kind := g2.trans (Rs.kind_fwd _)
      refine ⟨Ty, tyC, ty0, [(r.fresh.want wLp).kindV], ⟨rfl, fun _ => rfl⟩, ⟨.refl _, .refl _, trivial⟩, rfl, ?_⟩
      refine ⟨Ty, tyC, ty0, [], [(r.fresh.want wLp).kindV], 0, ⟨.nilO .., .own ..⟩, fun _ => rfl, (by show (0 + 1) * 24 ≤ 140737488355328; omega), ?_⟩
      refine ⟨Nat × Rs × List Ty × Bool, fun _ => [(0, .box 1000 0), (4, .box 4 0), (5, .box 5 0)], fun x => [(1000, rsR x.2.1), (4, mZ), (5, mS r.freshV s (.own Ty 2 tyC ty0 x.2.2.1 (if x.2.2.2 then 48 else 21)) ty0 0 nilV nilV)],
        fun x => Rs.paramsL x.1 x.2.1 x.2.2.1 = Rs.paramsL (r.fresh.L.length + 2) (r.fresh.want wLp).kind [(r.fresh.want wLp).kindV] ∧ x.2.1.need ≤ x.1 ∧ Fwd r x.2.1 ∧ x.2.2.1.length + x.1 = r.fresh.L.length + 3 ∧ (x.2.1.e = 0 → x.2.2.1.length ≤ 4), fun x => x.1,
        ⟨(r.fresh.L.length + 2, (r.fresh.want wLp).kind, [(r.fresh.want wLp).kindV], false), ⟨rfl, (by have := Rs.need_len ((Rs.want_fwd r.fresh wLp).trans (Rs.kind_fwd _)); exact this), gk, (by show 1 + (r.fresh.L.length + 2) = _; omega), (fun _ => by show 1 ≤ 4; omega)⟩, ⟨⟨rfl, rfl⟩, .refl _, .refl _, .refl _, ⟨.refl _, .refl _, .refl _, .refl _, .refl _, .refl _, .refl _, .refl _, .refl _, trivial⟩, ⟨.refl _, .refl _, .refl _, .nil .., .refl _, .refl _, .refl _, .nil .., .nil .., trivial⟩, ⟨.refl _, .refl _, .refl _, trivial⟩, trivial⟩⟩, fun ((k, q, out, b) : Nat × Rs × List Ty × Bool) hx => ?_⟩
      obtain ⟨hx1, hx2, hx3, hx4, hx5⟩ : Rs.paramsL k q out = Rs.paramsL (r.fresh.L.length + 2) (r.fresh.want wLp).kind [(r.fresh.want wLp).kindV] ∧ q.need ≤ k ∧ Fwd r q ∧ out.length + k = r.fresh.L.length + 3 ∧ (q.e = 0 → out.length ≤ 4) := hx
      obtain ⟨k, rfl⟩ : ∃ k', k = k' + 1 := ⟨k - 1, by have := Rs.need_pos q; omega⟩
      have hq : rokU q := rokU_fwd hr hx3
      refine ⟨by kernel_rfl, ?_⟩
      refine ⟨(q, wComma), ⟨.refl _, .str rfl, trivial⟩, ⟨⟨rfl, .refl _, .refl _, .refl _, trivial⟩, trivial⟩, ⟨hq, nCm⟩, ?_⟩
      refine ⟨fun h => ?_, fun h => ?_⟩
      case refine_2 =>
        have h2 : q.is wComma = false := h
        rw [Rs.paramsL, if_neg (by rw [h2]; decide)] at hx1
        have hE : q.take wComma = q := take_no h2
        have hw : q.want wRp = r.fresh.params.2 := by rw [e, ← hx1]
        have hp : out = r.fresh.params.1 := by rw [e, ← hx1]
        cases b <;> exact ⟨(q, out), ⟨hw, hp, hx3⟩, ⟨rfl, rfl⟩, .refl _, .refl _, .refl _, ⟨.refl _, .refl _, .refl _, .ownRow rfl, .refl _, .refl _, .refl _, .refl _, .refl _, trivial⟩, ⟨.refl _, .refl _, .refl _, .refl _, .refl _, .refl _, .refl _, .refl _, .refl _, trivial⟩, ⟨.rowEq (rL hE :), .int (rI hE :), .int (rE hE :), trivial⟩, trivial⟩
      have h2 : q.is wComma = true := h
      have hat := Rs.is_at h2
      have hst := take_yes h2
      have hqs : rokU (q.take wComma) := rokU_fwd hq (Rs.take_fwd q _)
      have hn1 := Rs.param1_fwd hat (out.length : Int)
      have hrn : rokU (q.param1 out.length) := rokU_fwd hq hn1
      have hn4 := Rs.param1_4 hx5 h2
      rw [Rs.paramsL, if_pos h2] at hx1
      have hinv : Rs.paramsL k (q.param1 out.length).kind (out ++ [(q.param1 out.length).kindV]) = Rs.paramsL (r.fresh.L.length + 2) (r.fresh.want wLp).kind [(r.fresh.want wLp).kindV] ∧ (q.param1 out.length).kind.need ≤ k ∧ Fwd r (q.param1 out.length).kind ∧ (out ++ [(q.param1 out.length).kindV]).length + k = r.fresh.L.length + 3 ∧ ((q.param1 out.length).kind.e = 0 → (out ++ [(q.param1 out.length).kindV]).length ≤ 4) := by
        have hf := hn1.trans (Rs.kind_fwd _)
        have := Rs.need_lt hat hf (Rs.on_fwd (Rs.param1_on q out.length) (Rs.kind_fwd _))
        exact ⟨hx1, by omega, hx3.trans hf, by simp; omega, fun he => by have := Rs.param1_good he; simp; omega⟩
      refine ⟨Unit, fun _ => [(0, .box 1000 0), (4, .box 4 0), (5, .box 5 0)], fun _ => [(1000, rsR (q.param1 out.length)), (4, mZ), (5, mS r.freshV s (.own Ty 2 tyC ty0 out (if b then 48 else 21)) ty0 0 nilV nilV)], fun _ => True, ?_, fun _ _ => ?_⟩
      · have no : ∀ (X : Rs), X = q.param1 out.length → True := fun _ _ => trivial
        refine ⟨fun h => ?_, fun h => ?_⟩
        · have h3 : out.length = 4 := by have := of_decide_eq_true (show decide ((out.length : Int) = 4) = true from h); omega
          have bad : (q.step.is wInt || q.step.is wVoid || q.step.free) = true → (q.take wComma).fail 2 = q.param1 out.length := fun c => by rw [hst, hn4, if_pos ⟨h3, c⟩]
          refine ⟨(q.take wComma, wInt), ⟨.refl _, .str rfl, trivial⟩, rfl, ⟨hqs, nIn⟩, ?_⟩
          refine ⟨fun h => ?_, fun h => ?_⟩
          · have c1 : (q.take wComma).is wInt = true := h
            have hB := bad (by rw [hst] at c1; rw [c1]; simp)
            refine ⟨by kernel_rfl, ?_⟩
            refine ⟨(q.take wComma, 2), ⟨.refl _, .refl _, trivial⟩, ⟨⟨rfl, .refl _, .refl _, .refl _, trivial⟩, trivial⟩, ⟨hqs, trivial⟩, ?_⟩
            have hE := hB
            exact ⟨(), trivial, ⟨rfl, rfl⟩, .refl _, .refl _, .refl _, ⟨.refl _, .refl _, .refl _, .refl _, .refl _, .refl _, .refl _, .refl _, .refl _, trivial⟩, ⟨.refl _, .refl _, .refl _, .refl _, .refl _, .refl _, .refl _, .refl _, .refl _, trivial⟩, ⟨.rowEq (rL hE :), .int (rI hE :), .int (rE hE :), trivial⟩, trivial⟩
          have c1 : (q.take wComma).is wInt = false := h
          refine ⟨(q.take wComma, wVoid), ⟨.refl _, .str rfl, trivial⟩, rfl, ⟨hqs, nVo⟩, ?_⟩
          refine ⟨fun h => ?_, fun h => ?_⟩
          · have c2 : (q.take wComma).is wVoid = true := h
            have hB := bad (by rw [hst] at c2; rw [c2]; simp)
            refine ⟨by kernel_rfl, ?_⟩
            refine ⟨(q.take wComma, 2), ⟨.refl _, .refl _, trivial⟩, ⟨⟨rfl, .refl _, .refl _, .refl _, trivial⟩, trivial⟩, ⟨hqs, trivial⟩, ?_⟩
            have hE := hB
            exact ⟨(), trivial, ⟨rfl, rfl⟩, .refl _, .refl _, .refl _, ⟨.refl _, .refl _, .refl _, .refl _, .refl _, .refl _, .refl _, .refl _, .refl _, trivial⟩, ⟨.refl _, .refl _, .refl _, .refl _, .refl _, .refl _, .refl _, .refl _, .refl _, trivial⟩, ⟨.rowEq (rL hE :), .int (rI hE :), .int (rE hE :), trivial⟩, trivial⟩
          have c2 : (q.take wComma).is wVoid = false := h
          refine ⟨(q.take wComma, ()), ⟨.refl _, trivial⟩, rfl, ⟨hqs, trivial⟩, ?_⟩
          refine ⟨fun h => ?_, fun h => ?_⟩
          · have c3 : (q.take wComma).free = true := h
            have hB := bad (by rw [hst] at c3; rw [c3]; simp)
            refine ⟨by kernel_rfl, ?_⟩
            refine ⟨(q.take wComma, 2), ⟨.refl _, .refl _, trivial⟩, ⟨⟨rfl, .refl _, .refl _, .refl _, trivial⟩, trivial⟩, ⟨hqs, trivial⟩, ?_⟩
            have hE := hB
            exact ⟨(), trivial, ⟨rfl, rfl⟩, .refl _, .refl _, .refl _, ⟨.refl _, .refl _, .refl _, .refl _, .refl _, .refl _, .refl _, .refl _, .refl _, trivial⟩, ⟨.refl _, .refl _, .refl _, .refl _, .refl _, .refl _, .refl _, .refl _, .refl _, trivial⟩, ⟨.rowEq (rL hE :), .int (rI hE :), .int (rE hE :), trivial⟩, trivial⟩
          · have c3 : (q.take wComma).free = false := h
            have hE : q.take wComma = q.param1 out.length := by
              rw [hst] at c1 c2 c3
              rw [hst, hn4, if_neg (fun c => by rw [c1, c2, c3] at c; cases c.2)]
            exact ⟨(), trivial, ⟨rfl, rfl⟩, .refl _, .refl _, .refl _, ⟨.refl _, .refl _, .refl _, .refl _, .refl _, .refl _, .refl _, .refl _, .refl _, trivial⟩, ⟨.refl _, .refl _, .refl _, .refl _, .refl _, .refl _, .refl _, .refl _, .refl _, trivial⟩, ⟨.rowEq (rL hE :), .int (rI hE :), .int (rE hE :), trivial⟩, trivial⟩
        · have h3 : ¬ out.length = 4 := by have := of_decide_eq_false (show decide ((out.length : Int) = 4) = false from h); omega
          have hE : q.take wComma = q.param1 out.length := by rw [hst, hn4, if_neg (fun c => h3 c.1)]
          exact ⟨(), trivial, ⟨rfl, rfl⟩, .refl _, .refl _, .refl _, ⟨.refl _, .refl _, .refl _, .refl _, .refl _, .refl _, .refl _, .refl _, .refl _, trivial⟩, ⟨.refl _, .refl _, .refl _, .refl _, .refl _, .refl _, .refl _, .refl _, .refl _, trivial⟩, ⟨.rowEq (rL hE :), .int (rI hE :), .int (rE hE :), trivial⟩, trivial⟩
      refine ⟨by kernel_rfl, ?_⟩
      refine ⟨by kernel_rfl, ?_⟩
      refine ⟨(q.param1 out.length, ()), ⟨.refl _, trivial⟩, ⟨⟨rfl, .refl _, .refl _, .refl _, trivial⟩, trivial⟩, ⟨hrn, trivial⟩, ?_⟩
      refine ⟨Ty, tyC, ty0, [(q.param1 out.length).kindV], ⟨rfl, fun _ => rfl⟩, ⟨.refl _, .refl _, trivial⟩, rfl, ?_⟩
      cases b
      · refine ⟨Ty, tyC, ty0, out, [(q.param1 out.length).kindV], 21, ⟨.refl _, .own ..⟩, fun _ => rfl, (by show (out.length + 1) * 24 ≤ 140737488355328; omega), ?_⟩
        exact ⟨(k, (q.param1 out.length).kind, out ++ [(q.param1 out.length).kindV], true), hinv, Nat.lt_succ_self _, ⟨rfl, rfl⟩, .refl _, .refl _, .refl _, ⟨.refl _, .refl _, .refl _, .refl _, .refl _, .refl _, .refl _, .refl _, .refl _, trivial⟩, ⟨.refl _, .refl _, .refl _, .refl _, .refl _, .refl _, .refl _, .refl _, .refl _, trivial⟩, ⟨.refl _, .refl _, .refl _, trivial⟩, trivial⟩
      · refine ⟨Ty, tyC, ty0, out, [(q.param1 out.length).kindV], 48, ⟨.refl _, .own ..⟩, fun _ => rfl, (by show (out.length + 1) * 24 ≤ 140737488355328; omega), ?_⟩
        exact ⟨(k, (q.param1 out.length).kind, out ++ [(q.param1 out.length).kindV], true), hinv, Nat.lt_succ_self _, ⟨rfl, rfl⟩, .refl _, .refl _, .refl _, ⟨.refl _, .refl _, .refl _, .refl _, .refl _, .refl _, .refl _, .refl _, .refl _, trivial⟩, ⟨.refl _, .refl _, .refl _, .refl _, .refl _, .refl _, .refl _, .refl _, .refl _, trivial⟩, ⟨.refl _, .refl _, .refl _, trivial⟩, trivial⟩
    obtain ⟨hq1, rfl, hq3⟩ : q.want wRp = r.fresh.params.2 ∧ ps = r.fresh.params.1 ∧ Fwd r q := hq
    refine ⟨by kernel_rfl, ?_⟩
    refine ⟨(q, wRp), ⟨.refl _, .str rfl, trivial⟩, ⟨⟨rfl, .refl _, .refl _, .refl _, trivial⟩, trivial⟩, ⟨rokU_fwd hr hq3, nRp⟩, ?_⟩
    have hE := hq1
    refine ⟨by kernel_rfl, ?_⟩
    refine ⟨(r.fresh.params.2, ()), ⟨.refl _, trivial⟩, ⟨⟨rfl, .rowEq (rL hE :), .int (rI hE :), .int (rE hE :), trivial⟩, trivial⟩, ⟨rokU_fwd hr g3, trivial⟩, ?_⟩
    clear hE
    refine ⟨by kernel_rfl, ?_⟩
    refine ⟨(r.mm1, wSemi), ⟨.refl _, .str rfl, trivial⟩, ⟨⟨rfl, .refl _, .refl _, .refl _, trivial⟩, trivial⟩, ⟨rokU_fwd hr g4, nSe⟩, ?_⟩
    refine ⟨fun h => ?_, fun h => ?_⟩
    · have h1 : r.mm1.is wSemi = true := h
      have hE : r.mm1.take wSemi = r.rmmR := by rw [take_yes h1]; unfold Rs.rmmR; rw [if_pos h1]
      have hV : r.rmmV s = ⟨r.freshV, s, true, r.fresh.params.1, r.fresh.params.2.kindV, 0, [], []⟩ := by unfold Rs.rmmV; rw [if_pos h1]; unfold Rs.mm1V; rw [h1]
      exact ⟨(show Sub _ (.agg (methC (r.rmmV s))) by rw [hV]; exact .agg _ _ rfl fun j hj => by match j, hj with | 0, _ => exact .refl _ | 1, _ => exact .refl _ | 2, _ => exact .btt rfl | 3, _ => exact .refl _ | 4, _ => exact .refl _ | 5, _ => exact .refl _ | 6, _ => exact .refl _ | 7, _ => exact .nil .. | 8, _ => exact .nil ..), ⟨rfl, .rowEq (rL hE :), .int (rI hE :), .int (rE hE :), trivial⟩, trivial⟩
    have h1 : r.mm1.is wSemi = false := h
    have hE : r.mm1.take wSemi = r.mm1 := take_no h1
    have g5 := g4.trans (Rs.want_fwd _ wLocals)
    have g6 := g5.trans (Rs.num_fwd _ 0 8)
    have g7 : Fwd r r.mm1.bo1 := g4.trans (Rs.bo1_fwd _)
    refine ⟨by kernel_rfl, ?_⟩
    refine ⟨(r.mm1, wLocals), ⟨.refl _, .str rfl, trivial⟩, ⟨⟨rfl, .rowEq (rL hE :), .int (rI hE :), .int (rE hE :), trivial⟩, trivial⟩, ⟨rokU_fwd hr g4, nLo⟩, ?_⟩
    clear hE
    refine ⟨by kernel_rfl, ?_⟩
    refine ⟨(r.mm1.want wLocals, 0, 8), ⟨.refl _, .refl _, .refl _, trivial⟩, ⟨⟨rfl, .refl _, .refl _, .refl _, trivial⟩, trivial⟩, ⟨rokU_fwd hr g5, trivial⟩, ?_⟩
    refine ⟨by kernel_rfl, ?_⟩
    refine ⟨((r.mm1.want wLocals).num 0 8, wLc), ⟨.refl _, .str rfl, trivial⟩, ⟨⟨rfl, .refl _, .refl _, .refl _, trivial⟩, trivial⟩, ⟨rokU_fwd hr g6, nLc⟩, ?_⟩
    have g8 : Fwd r r.mm1.rBoCode.2 := g4.trans (Rs.rBoCode_fwd _)
    have g9 : Fwd r r.mm1.rBoCat.2 := g4.trans (Rs.rBoCat_fwd _)
    have hlen : r.mm1.L.length = r.L.length := by rw [g4.L]
    refine ⟨Unit, fun _ => [(0, .box 1000 0), (4, .box 4 0), (5, .box 5 0)], fun _ => [(1000, rsR r.mm1.rBoCode.2), (4, mZ), (5, mS r.freshV s (.row Ty 2 tyC ty0 r.fresh.params.1) r.fresh.params.2.kindV ((r.mm1.want wLocals).numV 0 8) (.row Ins 4 insC ins0 r.mm1.rBoCode.1) (.own Cat 4 catC cat0 [] 7300082))], fun _ => True, ?_, fun _ _ => ?_⟩
    · refine ⟨Nat × Rs × List Ins, fun _ => [(0, .box 1000 0), (4, .box 4 0), (5, .box 5 0)], fun x => [(1000, rsR x.2.1), (4, mZ), (5, mS r.freshV s (.row Ty 2 tyC ty0 r.fresh.params.1) r.fresh.params.2.kindV ((r.mm1.want wLocals).numV 0 8) (.own Ins 4 insC ins0 x.2.2 7200082) (.own Cat 4 catC cat0 [] 7300082))],
        fun x => Rs.rCodeL x.1 x.2.1 x.2.2 = r.mm1.rBoCode ∧ x.2.1.need ≤ x.1 ∧ Fwd r x.2.1 ∧ x.2.2.length ≤ 48, fun x => x.1,
        ⟨(r.mm1.L.length + 2, r.mm1.bo1, []), ⟨rfl, Rs.need_len (Rs.bo1_fwd r.mm1), g7, Nat.zero_le _⟩, ⟨⟨rfl, rfl⟩, .refl _, .refl _, .refl _, ⟨.refl _, .refl _, .refl _, .refl _, .refl _, .refl _, .refl _, .nilO .., .nilO .., trivial⟩, ⟨.refl _, .refl _, .refl _, .refl _, .refl _, .refl _, .refl _, .refl _, .refl _, trivial⟩, ⟨.refl _, .refl _, .refl _, trivial⟩, trivial⟩⟩, fun ((k, q, out) : Nat × Rs × List Ins) hx => ?_⟩
      obtain ⟨hx1, hx2, hx3, hx4⟩ : Rs.rCodeL k q out = r.mm1.rBoCode ∧ q.need ≤ k ∧ Fwd r q ∧ out.length ≤ 48 := hx
      obtain ⟨k, rfl⟩ : ∃ k', k = k' + 1 := ⟨k - 1, by have := Rs.need_pos q; omega⟩
      have hq : rokU q := rokU_fwd hr hx3
      rw [Rs.rCodeL] at hx1
      have stop : ¬ (q.e = 0 ∧ q.is wRc = false ∧ q.is wCatch = false) → (out, q) = r.mm1.rBoCode := fun h => by rw [if_neg h] at hx1; exact hx1
      refine ⟨fun h => ?_, fun h => ?_⟩
      · have h1 : q.e = 0 := eqT h
        refine ⟨(q, wRc), ⟨.refl _, .str rfl, trivial⟩, rfl, ⟨hq, nRc⟩, ?_⟩
        refine ⟨fun h => ?_, fun h => ?_⟩
        · have h2 : q.is wRc = false := notT h
          refine ⟨(q, wCatch), ⟨.refl _, .str rfl, trivial⟩, rfl, ⟨hq, nCa⟩, ?_⟩
          refine ⟨fun h => ?_, fun h => ?_⟩
          · have h3 : q.is wCatch = false := notT h
            rw [if_pos ⟨h1, h2, h3⟩] at hx1
            refine ⟨(q, ⟨r.freshV, s, false, r.fresh.params.1, r.fresh.params.2.kindV, (r.mm1.want wLocals).numV 0 8, out, []⟩), ⟨.refl _, .refl _, trivial⟩, ⟨⟨rfl, .refl _, .refl _, .refl _, trivial⟩, ⟨rfl, .refl _, .refl _, .refl _, .refl _, .refl _, .refl _, .refl _, .refl _, .refl _, trivial⟩, trivial⟩, ⟨hq, h1, hx4⟩, ?_⟩
            have hf := Rs.rIns_fwd q out
            have := Rs.need_lt2 h1 hf (Rs.rIns_on q out)
            exact ⟨(k, (q.rIns out).2, (q.rIns out).1), ⟨hx1, by show (q.rIns out).2.need ≤ k; omega, hx3.trans hf, Rs.rIns_len q out hx4⟩, Nat.lt_succ_self _, ⟨rfl, rfl⟩, .refl _, .refl _, .refl _, ⟨.refl _, .refl _, .refl _, .refl _, .refl _, .refl _, .refl _, .refl _, .refl _, trivial⟩, ⟨.refl _, .refl _, .refl _, .refl _, .refl _, .refl _, .refl _, .refl _, .refl _, trivial⟩, ⟨.refl _, .refl _, .refl _, trivial⟩, trivial⟩
          · have h3 : q.is wCatch = true := notF h
            have e := stop (fun c => by rw [h3] at c; cases c.2.2)
            have hE : q = r.mm1.rBoCode.2 := by rw [← e]
            exact ⟨(), trivial, ⟨rfl, rfl⟩, .refl _, .refl _, .refl _, ⟨.refl _, .refl _, .refl _, .refl _, .refl _, .refl _, .refl _, .ownRow (by rw [← e]), .refl _, trivial⟩, ⟨.refl _, .refl _, .refl _, .refl _, .refl _, .refl _, .refl _, .refl _, .refl _, trivial⟩, ⟨.rowEq (rL hE :), .int (rI hE :), .int (rE hE :), trivial⟩, trivial⟩
        · have h2 : q.is wRc = true := notF h
          have e := stop (fun c => by rw [h2] at c; cases c.2.1)
          have hE : q = r.mm1.rBoCode.2 := by rw [← e]
          exact ⟨(), trivial, ⟨rfl, rfl⟩, .refl _, .refl _, .refl _, ⟨.refl _, .refl _, .refl _, .refl _, .refl _, .refl _, .refl _, .ownRow (by rw [← e]), .refl _, trivial⟩, ⟨.refl _, .refl _, .refl _, .refl _, .refl _, .refl _, .refl _, .refl _, .refl _, trivial⟩, ⟨.rowEq (rL hE :), .int (rI hE :), .int (rE hE :), trivial⟩, trivial⟩
      · have h1 : ¬ q.e = 0 := eqF h
        have e := stop (fun c => h1 c.1)
        have hE : q = r.mm1.rBoCode.2 := by rw [← e]
        exact ⟨(), trivial, ⟨rfl, rfl⟩, .refl _, .refl _, .refl _, ⟨.refl _, .refl _, .refl _, .refl _, .refl _, .refl _, .refl _, .ownRow (by rw [← e]), .refl _, trivial⟩, ⟨.refl _, .refl _, .refl _, .refl _, .refl _, .refl _, .refl _, .refl _, .refl _, trivial⟩, ⟨.rowEq (rL hE :), .int (rI hE :), .int (rE hE :), trivial⟩, trivial⟩
    refine ⟨Unit, fun _ => [(0, .box 1000 0), (4, .box 4 0), (5, .box 5 0)], fun _ => [(1000, rsR r.mm1.rBoCat.2), (4, mZ), (5, mS r.freshV s (.row Ty 2 tyC ty0 r.fresh.params.1) r.fresh.params.2.kindV ((r.mm1.want wLocals).numV 0 8) (.row Ins 4 insC ins0 r.mm1.rBoCode.1) (.row Cat 4 catC cat0 r.mm1.rBoCat.1))], fun _ => True, ?_, fun _ _ => ?_⟩
    · refine ⟨Nat × Rs × List Cat × Bool, fun _ => [(0, .box 1000 0), (4, .box 4 0), (5, .box 5 0)], fun x => [(1000, rsR x.2.1), (4, mZ), (5, mS r.freshV s (.row Ty 2 tyC ty0 r.fresh.params.1) r.fresh.params.2.kindV ((r.mm1.want wLocals).numV 0 8) (.row Ins 4 insC ins0 r.mm1.rBoCode.1) (.own Cat 4 catC cat0 x.2.2.1 (if x.2.2.2 then 116 else 7300082)))],
        fun x => Rs.rCatL x.1 x.2.1 x.2.2.1 = r.mm1.rBoCat ∧ x.2.1.need ≤ x.1 ∧ Fwd r x.2.1 ∧ x.2.2.1.length ≤ 4, fun x => x.1,
        ⟨(r.mm1.L.length + 2, r.mm1.rBoCode.2, [], false), ⟨rfl, Rs.need_len (Rs.rBoCode_fwd r.mm1), g8, Nat.zero_le _⟩, ⟨⟨rfl, rfl⟩, .refl _, .refl _, .refl _, ⟨.refl _, .refl _, .refl _, .refl _, .refl _, .refl _, .refl _, .refl _, .refl _, trivial⟩, ⟨.refl _, .refl _, .refl _, .refl _, .refl _, .refl _, .refl _, .refl _, .refl _, trivial⟩, ⟨.refl _, .refl _, .refl _, trivial⟩, trivial⟩⟩, fun ((k, q, out, b) : Nat × Rs × List Cat × Bool) hx => ?_⟩
      obtain ⟨hx1, hx2, hx3, hx4⟩ : Rs.rCatL k q out = r.mm1.rBoCat ∧ q.need ≤ k ∧ Fwd r q ∧ out.length ≤ 4 := hx
      obtain ⟨k, rfl⟩ : ∃ k', k = k' + 1 := ⟨k - 1, by have := Rs.need_pos q; omega⟩
      have hq : rokU q := rokU_fwd hr hx3
      rw [Rs.rCatL] at hx1
      refine ⟨(q, wCatch), ⟨.refl _, .str rfl, trivial⟩, rfl, ⟨hq, nCa⟩, ?_⟩
      refine ⟨fun h => ?_, fun h => ?_⟩
      · have h1 : q.is wCatch = true := h
        rw [if_pos h1] at hx1
        have hat := Rs.is_at h1
        refine ⟨fun h => ?_, fun h => ?_⟩
        · have h2 : out.length = 4 := by have := of_decide_eq_true (show decide ((out.length : Int) = 4) = true from h); omega
          rw [if_pos h2] at hx1
          refine ⟨by kernel_rfl, ?_⟩
          refine ⟨(q, 2), ⟨.refl _, .refl _, trivial⟩, ⟨⟨rfl, .refl _, .refl _, .refl _, trivial⟩, trivial⟩, ⟨hq, trivial⟩, ?_⟩
          have hE : q.fail 2 = r.mm1.rBoCat.2 := by rw [← hx1]
          cases b <;> exact ⟨(), trivial, ⟨rfl, rfl⟩, .refl _, .refl _, .refl _, ⟨.refl _, .refl _, .refl _, .refl _, .refl _, .refl _, .refl _, .refl _, .ownRow (by rw [← hx1]), trivial⟩, ⟨.refl _, .refl _, .refl _, .refl _, .refl _, .refl _, .refl _, .refl _, .refl _, trivial⟩, ⟨.rowEq (rL hE :), .int (rI hE :), .int (rE hE :), trivial⟩, trivial⟩
        · have h2 : ¬ out.length = 4 := by have := of_decide_eq_false (show decide ((out.length : Int) = 4) = false from h); omega
          rw [if_neg h2] at hx1
          have hs : rokU q.step := rokU_fwd hq (Rs.step_fwd hat)
          have f1 := Rs.fresh_fwd q.step
          have f2 := f1.trans (Rs.num_fwd _ 0 48)
          have f3 := f2.trans (Rs.num_fwd _ 0 48)
          have f4 := f3.trans (Rs.num_fwd _ 0 48)
          have hf : Fwd q q.step.catR := (Rs.step_fwd hat).trans (Rs.catR_fwd _)
          have := Rs.need_lt hat hf (Rs.on_fwd (b := q.step) (.inr (Nat.lt_succ_self _)) (Rs.catR_fwd _))
          refine ⟨by kernel_rfl, ?_⟩
          refine ⟨(q.step, ()), ⟨.refl _, trivial⟩, ⟨⟨rfl, .refl _, .int (hwI hq.1), .refl _, trivial⟩, trivial⟩, ⟨hs, trivial⟩, ?_⟩
          refine ⟨by kernel_rfl, ?_⟩
          refine ⟨(q.step.fresh, 0, 48), ⟨.refl _, .refl _, .refl _, trivial⟩, ⟨⟨rfl, .refl _, .refl _, .refl _, trivial⟩, trivial⟩, ⟨rokU_fwd hs f1, trivial⟩, ?_⟩
          refine ⟨by kernel_rfl, ?_⟩
          refine ⟨(q.step.fresh.num 0 48, 0, 48), ⟨.refl _, .refl _, .refl _, trivial⟩, ⟨⟨rfl, .refl _, .refl _, .refl _, trivial⟩, trivial⟩, ⟨rokU_fwd hs f2, trivial⟩, ?_⟩
          refine ⟨by kernel_rfl, ?_⟩
          refine ⟨((q.step.fresh.num 0 48).num 0 48, 0, 48), ⟨.refl _, .refl _, .refl _, trivial⟩, ⟨⟨rfl, .refl _, .refl _, .refl _, trivial⟩, trivial⟩, ⟨rokU_fwd hs f3, trivial⟩, ?_⟩
          refine ⟨by kernel_rfl, ?_⟩
          refine ⟨(((q.step.fresh.num 0 48).num 0 48).num 0 48, wSemi), ⟨.refl _, .str rfl, trivial⟩, ⟨⟨rfl, .refl _, .refl _, .refl _, trivial⟩, trivial⟩, ⟨rokU_fwd hs f4, nSe⟩, ?_⟩
          refine ⟨Cat, catC, cat0, [q.step.catV], ⟨rfl, fun _ => rfl⟩, ⟨.refl _, .refl _, .refl _, .refl _, trivial⟩, rfl, ?_⟩
          cases b
          · refine ⟨Cat, catC, cat0, out, [q.step.catV], 7300082, ⟨.refl _, .own ..⟩, fun _ => rfl, (by show (out.length + 1) * 40 ≤ 140737488355328; omega), ?_⟩
            exact ⟨(k, q.step.catR, out ++ [q.step.catV], true), ⟨hx1, by show q.step.catR.need ≤ k; omega, hx3.trans hf, by simp only [List.length_append, List.length_singleton]; omega⟩, Nat.lt_succ_self _, ⟨rfl, rfl⟩, .refl _, .refl _, .refl _, ⟨.refl _, .refl _, .refl _, .refl _, .refl _, .refl _, .refl _, .refl _, .refl _, trivial⟩, ⟨.refl _, .refl _, .refl _, .refl _, .refl _, .refl _, .refl _, .refl _, .refl _, trivial⟩, ⟨.refl _, .refl _, .refl _, trivial⟩, trivial⟩
          · refine ⟨Cat, catC, cat0, out, [q.step.catV], 116, ⟨.refl _, .own ..⟩, fun _ => rfl, (by show (out.length + 1) * 40 ≤ 140737488355328; omega), ?_⟩
            exact ⟨(k, q.step.catR, out ++ [q.step.catV], true), ⟨hx1, by show q.step.catR.need ≤ k; omega, hx3.trans hf, by simp only [List.length_append, List.length_singleton]; omega⟩, Nat.lt_succ_self _, ⟨rfl, rfl⟩, .refl _, .refl _, .refl _, ⟨.refl _, .refl _, .refl _, .refl _, .refl _, .refl _, .refl _, .refl _, .refl _, trivial⟩, ⟨.refl _, .refl _, .refl _, .refl _, .refl _, .refl _, .refl _, .refl _, .refl _, trivial⟩, ⟨.refl _, .refl _, .refl _, trivial⟩, trivial⟩
      · have h1 : q.is wCatch = false := h
        rw [if_neg (by rw [h1]; decide)] at hx1
        have hE : q = r.mm1.rBoCat.2 := by rw [← hx1]
        cases b <;> exact ⟨(), trivial, ⟨rfl, rfl⟩, .refl _, .refl _, .refl _, ⟨.refl _, .refl _, .refl _, .refl _, .refl _, .refl _, .refl _, .refl _, .ownRow (by rw [← hx1]), trivial⟩, ⟨.refl _, .refl _, .refl _, .refl _, .refl _, .refl _, .refl _, .refl _, .refl _, trivial⟩, ⟨.rowEq (rL hE :), .int (rI hE :), .int (rE hE :), trivial⟩, trivial⟩
    refine ⟨by kernel_rfl, ?_⟩
    refine ⟨(r.mm1.rBoCat.2, wRc), ⟨.refl _, .str rfl, trivial⟩, ⟨⟨rfl, .refl _, .refl _, .refl _, trivial⟩, trivial⟩, ⟨rokU_fwd hr g9, nRc⟩, ?_⟩
    have hE : r.mm1.rBoCat.2.want wRc = r.rmmR := by unfold Rs.rmmR; rw [if_neg (by rw [h1]; decide)]; rfl
    have hV : r.rmmV s = ⟨r.freshV, s, false, r.fresh.params.1, r.fresh.params.2.kindV, (r.mm1.want wLocals).numV 0 8, r.mm1.rBoCode.1, r.mm1.rBoCat.1⟩ := by unfold Rs.rmmV; rw [if_neg (by rw [h1]; decide), h1]
    exact ⟨(show Sub _ (.agg (methC (r.rmmV s))) by rw [hV]; exact .refl _), ⟨rfl, .rowEq (rL hE :), .int (rI hE :), .int (rE hE :), trivial⟩, trivial⟩
end Go.Proofs.YtimhbimpaiiceaaGreatDoor.Ax
/- The reference's parser: classes. -/
set_option linter.unusedVariables false
set_option linter.unusedSimpArgs false
namespace Go.Proofs.YtimhbimpaiiceaaGreatDoor.Ax
open Go Go.RowKit
namespace Rs
theorem rMem_fwd (r : Rs) (c : Cls) : Fwd r (r.rMem c).2 := by
  unfold rMem
  split
  · rename_i h
    have ha : r.e = 0 ∧ r.i < r.L.length := h.elim is_at is_at
    split
    · exact fail_fwd _ _
    · exact (step_fwd ha).trans (mfR_fwd _)
  · split
    · rename_i h
      have ha : r.e = 0 ∧ r.i < r.L.length := h.elim is_at is_at
      split
      · exact fail_fwd _ _
      · exact (step_fwd ha).trans (rmmR_fwd _)
    · exact fail_fwd _ _
theorem rMem_on (r : Rs) (c : Cls) : (r.rMem c).2.e ≠ 0 ∨ r.i < (r.rMem c).2.i := by
  unfold rMem
  split
  · split
    · exact .inl (fail_e _ (by decide))
    · exact on_fwd (b := r.step) (.inr (Nat.lt_succ_self _)) (mfR_fwd _)
  · split
    · split
      · exact .inl (fail_e _ (by decide))
      · exact on_fwd (b := r.step) (.inr (Nat.lt_succ_self _)) (rmmR_fwd _)
    · exact .inl (fail_e _ (by decide))
theorem rClsL_fwd : ∀ (f : Nat) (r : Rs) (c : Cls), Fwd r (rClsL f r c).2
  | 0, r, c => .refl _
  | f + 1, r, c => by
    rw [rClsL]
    split
    · exact (rMem_fwd r c).trans (rClsL_fwd f _ _)
    · exact .refl _
theorem rClass_fwd (r : Rs) : Fwd r r.rClass.2 := ((clR_fwd r 0).trans (rClsL_fwd _ _ _)).trans (want_fwd _ _)
theorem cl1_0 (r : Rs) : r.cl1 0 = r.want (if r.is wInterface then wInterface else wClass) := by
  unfold cl1
  rw [room_no (show (0 : Int) < 10 by decide)]
  split <;> rfl
end Rs
def kS (v : Cls) (f m : SV) : List SV := [S v.name, B v.iface, S v.super, .row ByteArray 1 strC noS v.ifaces, f, m]
def uclassC : CtrB := rvC Unit (fun _ => []) (fun r _ _ => .agg (clsC r.rClass.1)) (fun r _ => r.rClass.2) fun _ => True
set_option maxRecDepth 100000 in
set_option maxHeartbeats 4000000 in
theorem uclass_ok : CtrBSound Tryz.prog 21 uclassC :=
  ctrB_of_ax2 mixed _ Tryz.func21 (by kernel_rfl) rfl (fun _ _ => ⟨Nat.le_of_ble_eq_true rfl, Nat.le_of_ble_eq_true rfl⟩) fun ((r, u) : Rs × Unit) id hd => by
    refine ⟨_, ⟨env_okB tys_ok (eqs := []) trivial (cs := [(19, uisC)]) ⟨uis_ok, trivial⟩ (bs := [(20, ubadC), (43, umayC), (44, ufreshC), (46, uwantC), (47, utypC), (45, unamesC), (48, umethC)]) ⟨ubad_ok, umay_ok, ufresh_ok, uwant_ok, utyp_ok, unames_ok, umeth_ok, trivial⟩ (qu := [3, 109]) (cut := [13]), fun _ h => h⟩, ?_⟩
    have hr : rokU r := hd.1
    have hL : r.L.length ≤ 1000000 := hr.1.1
    obtain ⟨nCm, nVo, nIn, nLb, nRb, nLp, nRp, nSe, nLc, nRc, nCo, nLo, nCa, nEx, nIm⟩ := w_ne
    obtain ⟨nFi, nSt, nMe, nFu, nCl, nIf⟩ := Rs.key_ne
    obtain ⟨v, ev⟩ : ∃ v, v = r.clV 0 := ⟨_, rfl⟩
    have gR : Fwd r (r.clR 0) := Rs.clR_fwd r 0
    refine ⟨Rs, fun _ => [(0, .box 1000 0), (2, .box 2 0), (3, .box 3 0)], fun q => [(1000, rsR q), (2, clsC cls0), (3, kS v nilV nilV)], fun q => q.want wLc = r.clR 0 ∧ Fwd r q, ?_, fun (q : Rs) hq => ?_⟩
    · refine ⟨by kernel_rfl, ?_⟩
      refine ⟨(r, wInterface), ⟨.refl _, .str rfl, trivial⟩, ⟨⟨rfl, .refl _, .refl _, .refl _, trivial⟩, trivial⟩, ⟨hr, nIf⟩, ?_⟩
      refine ⟨fun h => ?_, fun h => ?_⟩
      · have h1 : r.is wInterface = true := h
        have e0 : r.cl1 0 = r.take wInterface := by rw [Rs.cl1_0, h1, take_yes h1]; exact Rs.want_yes h1
        have f0 : Fwd r (r.take wInterface) := Rs.take_fwd r _
        have f1 := f0.trans (Rs.fresh_fwd _)
        refine ⟨by kernel_rfl, ?_⟩
        refine ⟨(r.take wInterface, ()), ⟨.refl _, trivial⟩, ⟨⟨rfl, .refl _, .refl _, .refl _, trivial⟩, trivial⟩, ⟨rokU_fwd hr f0, trivial⟩, ?_⟩
        refine ⟨by kernel_rfl, ?_⟩
        refine ⟨((r.take wInterface).fresh, wExtends), ⟨.refl _, .str rfl, trivial⟩, ⟨⟨rfl, .refl _, .refl _, .refl _, trivial⟩, trivial⟩, ⟨rokU_fwd hr f1, nEx⟩, ?_⟩
        have ek : ∀ (y : (ByteArray × List ByteArray) × Rs), (r.take wInterface).fresh.ex1 true = y → v = ⟨(r.take wInterface).freshV, true, y.1.1, y.1.2, [], []⟩ ∧ y.2.want wLc = r.clR 0 := fun y hy => by
          have e2 : y.2.ex2 true y.1.2 = (y.1.2, y.2) := rfl
          constructor
          · rw [ev]; unfold Rs.clV; rw [e0, h1, hy, e2]
          · unfold Rs.clR; rw [e0, h1, hy, e2]
        refine ⟨fun h => ?_, fun h => ?_⟩
        · have h2 : (r.take wInterface).fresh.is wExtends = true := h
          have hst := take_yes h2
          have f2 := f1.trans (Rs.take_fwd _ wExtends)
          obtain ⟨k1, k2⟩ := ek ((noS, ((r.take wInterface).fresh.take wExtends).names.1), ((r.take wInterface).fresh.take wExtends).names.2) (by unfold Rs.ex1; rw [if_pos h2, hst]; rfl)
          refine ⟨by kernel_rfl, ?_⟩
          refine ⟨((r.take wInterface).fresh.take wExtends, ()), ⟨.refl _, trivial⟩, ⟨⟨rfl, .refl _, .refl _, .refl _, trivial⟩, trivial⟩, ⟨rokU_fwd hr f2, trivial⟩, ?_⟩
          exact ⟨_, ⟨k2, f2.trans (Rs.names_fwd _)⟩, ⟨rfl, rfl⟩, .refl _, .refl _, .refl _, ⟨.str (by rw [k1]), .btt (by rw [k1]), .str (by rw [k1]), .ownRow (by rw [k1]), .refl _, .refl _, trivial⟩, ⟨.refl _, .refl _, .refl _, .nil .., .nil .., .nil .., trivial⟩, ⟨.refl _, .refl _, .refl _, trivial⟩, trivial⟩
        · have h2 : (r.take wInterface).fresh.is wExtends = false := h
          have hE := take_no h2
          obtain ⟨k1, k2⟩ := ek ((noS, []), (r.take wInterface).fresh) (by unfold Rs.ex1; rw [if_neg (by rw [h2]; decide)])
          exact ⟨_, ⟨k2, f1⟩, ⟨rfl, rfl⟩, .refl _, .refl _, .refl _, ⟨.str (by rw [k1]), .btt (by rw [k1]), .str (by rw [k1]), (by rw [k1]; exact .nil ..), .refl _, .refl _, trivial⟩, ⟨.refl _, .refl _, .refl _, .nil .., .nil .., .nil .., trivial⟩, ⟨.rowEq (rL hE :), .int (rI hE :), .int (rE hE :), trivial⟩, trivial⟩
      have h1 : r.is wInterface = false := h
      have e0 : r.cl1 0 = r.want wClass := by rw [Rs.cl1_0, h1]; rfl
      have hE : r.take wInterface = r := take_no h1
      have f0 : Fwd r (r.want wClass) := Rs.want_fwd r _
      have f1 := f0.trans (Rs.fresh_fwd _)
      refine ⟨by kernel_rfl, ?_⟩
      refine ⟨(r, wClass), ⟨.refl _, .str rfl, trivial⟩, ⟨⟨rfl, .rowEq (rL hE :), .int (rI hE :), .int (rE hE :), trivial⟩, trivial⟩, ⟨hr, nCl⟩, ?_⟩
      clear hE
      refine ⟨by kernel_rfl, ?_⟩
      refine ⟨(r.want wClass, ()), ⟨.refl _, trivial⟩, ⟨⟨rfl, .refl _, .refl _, .refl _, trivial⟩, trivial⟩, ⟨rokU_fwd hr f0, trivial⟩, ?_⟩
      refine ⟨by kernel_rfl, ?_⟩
      refine ⟨((r.want wClass).fresh, wExtends), ⟨.refl _, .str rfl, trivial⟩, ⟨⟨rfl, .refl _, .refl _, .refl _, trivial⟩, trivial⟩, ⟨rokU_fwd hr f1, nEx⟩, ?_⟩
      have ek : ∀ (y : (ByteArray × List ByteArray) × Rs) (z : List ByteArray × Rs), (r.want wClass).fresh.ex1 false = y → y.2.ex2 false y.1.2 = z → v = ⟨(r.want wClass).freshV, false, y.1.1, z.1, [], []⟩ ∧ z.2.want wLc = r.clR 0 := fun y z hy hz => by
        constructor
        · rw [ev]; unfold Rs.clV; rw [e0, h1, hy, hz]
        · unfold Rs.clR; rw [e0, h1, hy, hz]
      refine ⟨fun h => ?_, fun h => ?_⟩
      · have h2 : (r.want wClass).fresh.is wExtends = true := h
        have hst := take_yes h2
        have f2 := f1.trans (Rs.take_fwd _ wExtends)
        have f3 := f2.trans (Rs.fresh_fwd _)
        have y1 : (r.want wClass).fresh.ex1 false = ((((r.want wClass).fresh.take wExtends).freshV, []), ((r.want wClass).fresh.take wExtends).fresh) := by unfold Rs.ex1; rw [if_pos h2, hst]; rfl
        refine ⟨by kernel_rfl, ?_⟩
        refine ⟨((r.want wClass).fresh.take wExtends, ()), ⟨.refl _, trivial⟩, ⟨⟨rfl, .refl _, .refl _, .refl _, trivial⟩, trivial⟩, ⟨rokU_fwd hr f2, trivial⟩, ?_⟩
        refine ⟨by kernel_rfl, ?_⟩
        refine ⟨(((r.want wClass).fresh.take wExtends).fresh, wImplements), ⟨.refl _, .str rfl, trivial⟩, ⟨⟨rfl, .refl _, .refl _, .refl _, trivial⟩, trivial⟩, ⟨rokU_fwd hr f3, nIm⟩, ?_⟩
        refine ⟨fun h => ?_, fun h => ?_⟩
        · have h3 : ((r.want wClass).fresh.take wExtends).fresh.is wImplements = true := h
          have f4 := f3.trans (Rs.take_fwd _ wImplements)
          obtain ⟨k1, k2⟩ := ek _ ((((r.want wClass).fresh.take wExtends).fresh.take wImplements).names.1, (((r.want wClass).fresh.take wExtends).fresh.take wImplements).names.2) y1 (by unfold Rs.ex2; rw [h3, take_yes h3]; rfl)
          refine ⟨by kernel_rfl, ?_⟩
          refine ⟨(((r.want wClass).fresh.take wExtends).fresh.take wImplements, ()), ⟨.refl _, trivial⟩, ⟨⟨rfl, .refl _, .refl _, .refl _, trivial⟩, trivial⟩, ⟨rokU_fwd hr f4, trivial⟩, ?_⟩
          exact ⟨_, ⟨k2, f4.trans (Rs.names_fwd _)⟩, ⟨rfl, rfl⟩, .refl _, .refl _, .refl _, ⟨.str (by rw [k1]), .bool (by rw [k1]), .str (by rw [k1]), .ownRow (by rw [k1]), .refl _, .refl _, trivial⟩, ⟨.refl _, .refl _, .refl _, .nil .., .nil .., .nil .., trivial⟩, ⟨.refl _, .refl _, .refl _, trivial⟩, trivial⟩
        · have h3 : ((r.want wClass).fresh.take wExtends).fresh.is wImplements = false := h
          have hE := take_no h3
          obtain ⟨k1, k2⟩ := ek _ ([], ((r.want wClass).fresh.take wExtends).fresh) y1 (by unfold Rs.ex2; rw [h3]; rfl)
          exact ⟨_, ⟨k2, f3⟩, ⟨rfl, rfl⟩, .refl _, .refl _, .refl _, ⟨.str (by rw [k1]), .bool (by rw [k1]), .str (by rw [k1]), (by rw [k1]; exact .nil ..), .refl _, .refl _, trivial⟩, ⟨.refl _, .refl _, .refl _, .nil .., .nil .., .nil .., trivial⟩, ⟨.rowEq (rL hE :), .int (rI hE :), .int (rE hE :), trivial⟩, trivial⟩
      · have h2 : (r.want wClass).fresh.is wExtends = false := h
        have hE := take_no h2
        have y1 : (r.want wClass).fresh.ex1 false = ((noS, []), (r.want wClass).fresh) := by unfold Rs.ex1; rw [if_neg (by rw [h2]; decide)]
        refine ⟨by kernel_rfl, ?_⟩
        refine ⟨((r.want wClass).fresh, wImplements), ⟨.refl _, .str rfl, trivial⟩, ⟨⟨rfl, .rowEq (rL hE :), .int (rI hE :), .int (rE hE :), trivial⟩, trivial⟩, ⟨rokU_fwd hr f1, nIm⟩, ?_⟩
        clear hE
        refine ⟨fun h => ?_, fun h => ?_⟩
        · have h3 : (r.want wClass).fresh.is wImplements = true := h
          have f4 := f1.trans (Rs.take_fwd _ wImplements)
          obtain ⟨k1, k2⟩ := ek _ (((r.want wClass).fresh.take wImplements).names.1, ((r.want wClass).fresh.take wImplements).names.2) y1 (by unfold Rs.ex2; rw [h3, take_yes h3]; rfl)
          refine ⟨by kernel_rfl, ?_⟩
          refine ⟨((r.want wClass).fresh.take wImplements, ()), ⟨.refl _, trivial⟩, ⟨⟨rfl, .refl _, .refl _, .refl _, trivial⟩, trivial⟩, ⟨rokU_fwd hr f4, trivial⟩, ?_⟩
          exact ⟨_, ⟨k2, f4.trans (Rs.names_fwd _)⟩, ⟨rfl, rfl⟩, .refl _, .refl _, .refl _, ⟨.str (by rw [k1]), .bool (by rw [k1]), .str (by rw [k1]), .ownRow (by rw [k1]), .refl _, .refl _, trivial⟩, ⟨.refl _, .refl _, .refl _, .nil .., .nil .., .nil .., trivial⟩, ⟨.refl _, .refl _, .refl _, trivial⟩, trivial⟩
        · have h3 : (r.want wClass).fresh.is wImplements = false := h
          have hE := take_no h3
          obtain ⟨k1, k2⟩ := ek _ ([], (r.want wClass).fresh) y1 (by unfold Rs.ex2; rw [h3]; rfl)
          exact ⟨_, ⟨k2, f1⟩, ⟨rfl, rfl⟩, .refl _, .refl _, .refl _, ⟨.str (by rw [k1]), .bool (by rw [k1]), .str (by rw [k1]), (by rw [k1]; exact .nil ..), .refl _, .refl _, trivial⟩, ⟨.refl _, .refl _, .refl _, .nil .., .nil .., .nil .., trivial⟩, ⟨.rowEq (rL hE :), .int (rI hE :), .int (rE hE :), trivial⟩, trivial⟩
    obtain ⟨hq1, hq2⟩ : q.want wLc = r.clR 0 ∧ Fwd r q := hq
    refine ⟨by kernel_rfl, ?_⟩
    refine ⟨(q, wLc), ⟨.refl _, .str rfl, trivial⟩, ⟨⟨rfl, .refl _, .refl _, .refl _, trivial⟩, trivial⟩, ⟨rokU_fwd hr hq2, nLc⟩, ?_⟩
    have hE := hq1
    refine ⟨Nat × Rs × Cls, fun _ => [(0, .box 1000 0), (2, .box 2 0), (3, .box 3 0)], fun x => [(1000, rsR x.2.1), (2, clsC cls0), (3, kS v (.own Fld 4 fldC fld0 x.2.2.fields 84) (.own Meth 9 methC meth0 x.2.2.methods 115))],
      fun x => Rs.rClsL x.1 x.2.1 x.2.2 = Rs.rClsL (r.L.length + 2) (r.clR 0) (r.clV 0) ∧ x.2.1.need ≤ x.1 ∧ Fwd r x.2.1 ∧ (x.2.2.name = v.name ∧ x.2.2.iface = v.iface ∧ x.2.2.super = v.super ∧ x.2.2.ifaces = v.ifaces) ∧ x.2.2.fields.length ≤ 6 ∧ x.2.2.methods.length ≤ 6, fun x => x.1,
      ⟨(r.L.length + 2, r.clR 0, r.clV 0), ⟨rfl, Rs.need_len gR, gR, (by rw [ev]; exact ⟨rfl, rfl, rfl, rfl⟩), Nat.zero_le _, Nat.zero_le _⟩, ⟨⟨rfl, rfl⟩, .refl _, .refl _, .refl _, ⟨.refl _, .refl _, .refl _, .refl _, .nilO .., .nilO .., trivial⟩, ⟨.refl _, .refl _, .refl _, .refl _, .refl _, .refl _, trivial⟩, ⟨.rowEq (rL hE :), .int (rI hE :), .int (rE hE :), trivial⟩, trivial⟩⟩, fun ((k, q, c) : Nat × Rs × Cls) hx => ?_⟩
    clear hE
    obtain ⟨hx1, hx2, hx3, ⟨e1, e2, e3, e4⟩, hx5, hx6⟩ : Rs.rClsL k q c = Rs.rClsL (r.L.length + 2) (r.clR 0) (r.clV 0) ∧ q.need ≤ k ∧ Fwd r q ∧ (c.name = v.name ∧ c.iface = v.iface ∧ c.super = v.super ∧ c.ifaces = v.ifaces) ∧ c.fields.length ≤ 6 ∧ c.methods.length ≤ 6 := hx
    obtain ⟨k, rfl⟩ : ∃ k', k = k' + 1 := ⟨k - 1, by have := Rs.need_pos q; omega⟩
    have hq : rokU q := rokU_fwd hr hx3
    rw [Rs.rClsL] at hx1
    have hC : ∀ (c' : Cls) (q' : Rs), (c', q') = Rs.rClsL (r.L.length + 2) (r.clR 0) (r.clV 0) → r.rClass = (c', q'.want wRc) := fun c' q' h => by unfold Rs.rClass; rw [← h]
    have stop : ¬ (q.e = 0 ∧ q.is wRc = false) → r.rClass = (c, q.want wRc) := fun h => by rw [if_neg h] at hx1; exact hC _ _ hx1
    have agg : ∀ c' : Cls, (c'.name = v.name ∧ c'.iface = v.iface ∧ c'.super = v.super ∧ c'.ifaces = v.ifaces) → r.rClass.1 = c' → ∀ (n m : Nat), Sub (.agg (kS v (.own Fld 4 fldC fld0 c'.fields n) (.own Meth 9 methC meth0 c'.methods m))) (.agg (clsC r.rClass.1)) := fun c' ⟨a1, a2, a3, a4⟩ h n m => by
      rw [h]
      unfold kS clsC
      rw [← a1, ← a2, ← a3, ← a4]
      exact .agg _ _ rfl fun j hj => by match j, hj with | 0, _ => exact .refl _ | 1, _ => exact .refl _ | 2, _ => exact .refl _ | 3, _ => exact .refl _ | 4, _ => exact .own .. | 5, _ => exact .own ..
    refine ⟨fun h => ?_, fun h => ?_⟩
    case refine_2 =>
      have h1 : ¬ q.e = 0 := eqF h
      have he := stop (fun c => h1 c.1)
      refine ⟨by kernel_rfl, ?_⟩
      refine ⟨(q, wRc), ⟨.refl _, .str rfl, trivial⟩, ⟨⟨rfl, .refl _, .refl _, .refl _, trivial⟩, trivial⟩, ⟨hq, nRc⟩, ?_⟩
      have hE : q.want wRc = r.rClass.2 := by rw [he]
      exact ⟨agg c ⟨e1, e2, e3, e4⟩ (by rw [he]) _ _, ⟨rfl, .rowEq (rL hE :), .int (rI hE :), .int (rE hE :), trivial⟩, trivial⟩
    have h1 : q.e = 0 := eqT h
    refine ⟨(q, wRc), ⟨.refl _, .str rfl, trivial⟩, rfl, ⟨hq, nRc⟩, ?_⟩
    refine ⟨fun h => ?_, fun h => ?_⟩
    case refine_2 =>
      have h2 : q.is wRc = true := notF h
      have he := stop (fun c => by rw [h2] at c; cases c.2)
      refine ⟨by kernel_rfl, ?_⟩
      refine ⟨(q, wRc), ⟨.refl _, .str rfl, trivial⟩, ⟨⟨rfl, .refl _, .refl _, .refl _, trivial⟩, trivial⟩, ⟨hq, nRc⟩, ?_⟩
      have hE : q.want wRc = r.rClass.2 := by rw [he]
      exact ⟨agg c ⟨e1, e2, e3, e4⟩ (by rw [he]) _ _, ⟨rfl, .rowEq (rL hE :), .int (rI hE :), .int (rE hE :), trivial⟩, trivial⟩
    have h2 : q.is wRc = false := notT h
    rw [if_pos ⟨h1, h2⟩] at hx1
    have hf := Rs.rMem_fwd q c
    have hn := Rs.need_lt2 h1 hf (Rs.rMem_on q c)
    refine ⟨(q, wField), ⟨.refl _, .str rfl, trivial⟩, rfl, ⟨hq, nFi⟩, ?_⟩
    refine ⟨fun h => ?_, fun h => ?_⟩
    · have hor : q.is wField = true ∨ q.is wStatic = true := .inl h
      have hat : q.e = 0 ∧ q.i < q.L.length := hor.elim Rs.is_at Rs.is_at
      have e0 : q.rMem c = (if c.fields.length = 6 then (c, q.fail 2) else (⟨c.name, c.iface, c.super, c.ifaces, c.fields ++ [q.step.mfV (q.is wStatic)], c.methods⟩, q.step.mfR)) := if_pos hor
      refine ⟨fun h => ?_, fun h => ?_⟩
      · have hl : c.fields.length = 6 := by have := of_decide_eq_true (show decide ((c.fields.length : Int) = 6) = true from h); omega
        rw [e0, if_pos hl] at hx1
        rw [Rs.rClsL_stop (Rs.fail_ne q (by decide))] at hx1
        refine ⟨by kernel_rfl, ?_⟩
        refine ⟨(q, 2), ⟨.refl _, .refl _, trivial⟩, ⟨⟨rfl, .refl _, .refl _, .refl _, trivial⟩, trivial⟩, ⟨hq, trivial⟩, ?_⟩
        have he : r.rClass = (c, q.fail 2) := by rw [hC _ _ hx1, Rs.stuck (Rs.want_fwd _ _) (Rs.fail_ne q (by decide))]
        have hE : q.fail 2 = r.rClass.2 := by rw [he]
        exact ⟨agg c ⟨e1, e2, e3, e4⟩ (by rw [he]) _ _, ⟨rfl, .rowEq (rL hE :), .int (rI hE :), .int (rE hE :), trivial⟩, trivial⟩
      have hl : ¬ c.fields.length = 6 := by have := of_decide_eq_false (show decide ((c.fields.length : Int) = 6) = false from h); omega
      rw [if_neg hl] at e0
      rw [e0] at hx1 hf hn
      have hs : rokU q.step := rokU_fwd hq (Rs.step_fwd hat)
      have f1 := Rs.fresh_fwd q.step
      have f2 := f1.trans (Rs.want_fwd _ wColon)
      have f3 := f2.trans (Rs.kind_fwd _)
      refine ⟨(q, wStatic), ⟨.refl _, .str rfl, trivial⟩, rfl, ⟨hq, nSt⟩, ?_⟩
      refine ⟨by kernel_rfl, ?_⟩
      refine ⟨(q.step, ()), ⟨.refl _, trivial⟩, ⟨⟨rfl, .refl _, .int (hwI hq.1), .refl _, trivial⟩, trivial⟩, ⟨hs, trivial⟩, ?_⟩
      refine ⟨by kernel_rfl, ?_⟩
      refine ⟨(q.step.fresh, wColon), ⟨.refl _, .str rfl, trivial⟩, ⟨⟨rfl, .refl _, .refl _, .refl _, trivial⟩, trivial⟩, ⟨rokU_fwd hs f1, nCo⟩, ?_⟩
      refine ⟨by kernel_rfl, ?_⟩
      refine ⟨(q.step.fresh.want wColon, ()), ⟨.refl _, trivial⟩, ⟨⟨rfl, .refl _, .refl _, .refl _, trivial⟩, trivial⟩, ⟨rokU_fwd hs f2, trivial⟩, ?_⟩
      refine ⟨by kernel_rfl, ?_⟩
      refine ⟨((q.step.fresh.want wColon).kind, wSemi), ⟨.refl _, .str rfl, trivial⟩, ⟨⟨rfl, .refl _, .refl _, .refl _, trivial⟩, trivial⟩, ⟨rokU_fwd hs f3, nSe⟩, ?_⟩
      refine ⟨Fld, fldC, fld0, [q.step.mfV (q.is wStatic)], ⟨rfl, fun _ => rfl⟩, ⟨.refl _, .refl _, .refl _, .refl _, trivial⟩, rfl, ?_⟩
      refine ⟨Fld, fldC, fld0, c.fields, [q.step.mfV (q.is wStatic)], 84, ⟨.refl _, .own ..⟩, fun _ => rfl, (by show (c.fields.length + 1) * 48 ≤ 140737488355328; omega), ?_⟩
      exact ⟨(k, q.step.mfR, ⟨c.name, c.iface, c.super, c.ifaces, c.fields ++ [q.step.mfV (q.is wStatic)], c.methods⟩), ⟨hx1, (show q.step.mfR.need ≤ k by have hn : q.step.mfR.need < q.need := hn; omega), hx3.trans hf, ⟨e1, e2, e3, e4⟩, (by simp only [List.length_append, List.length_singleton]; omega), hx6⟩, Nat.lt_succ_self _, ⟨rfl, rfl⟩, .refl _, .refl _, .refl _, ⟨.refl _, .refl _, .refl _, .refl _, .refl _, .refl _, trivial⟩, ⟨.refl _, .refl _, .refl _, .refl _, .refl _, .refl _, trivial⟩, ⟨.refl _, .refl _, .refl _, trivial⟩, trivial⟩
    have k1 : q.is wField = false := h
    refine ⟨(q, wStatic), ⟨.refl _, .str rfl, trivial⟩, rfl, ⟨hq, nSt⟩, ?_⟩
    refine ⟨fun h => ?_, fun h => ?_⟩
    · have hor : q.is wField = true ∨ q.is wStatic = true := .inr h
      have hat : q.e = 0 ∧ q.i < q.L.length := hor.elim Rs.is_at Rs.is_at
      have e0 : q.rMem c = (if c.fields.length = 6 then (c, q.fail 2) else (⟨c.name, c.iface, c.super, c.ifaces, c.fields ++ [q.step.mfV (q.is wStatic)], c.methods⟩, q.step.mfR)) := if_pos hor
      refine ⟨fun h => ?_, fun h => ?_⟩
      · have hl : c.fields.length = 6 := by have := of_decide_eq_true (show decide ((c.fields.length : Int) = 6) = true from h); omega
        rw [e0, if_pos hl] at hx1
        rw [Rs.rClsL_stop (Rs.fail_ne q (by decide))] at hx1
        refine ⟨by kernel_rfl, ?_⟩
        refine ⟨(q, 2), ⟨.refl _, .refl _, trivial⟩, ⟨⟨rfl, .refl _, .refl _, .refl _, trivial⟩, trivial⟩, ⟨hq, trivial⟩, ?_⟩
        have he : r.rClass = (c, q.fail 2) := by rw [hC _ _ hx1, Rs.stuck (Rs.want_fwd _ _) (Rs.fail_ne q (by decide))]
        have hE : q.fail 2 = r.rClass.2 := by rw [he]
        exact ⟨agg c ⟨e1, e2, e3, e4⟩ (by rw [he]) _ _, ⟨rfl, .rowEq (rL hE :), .int (rI hE :), .int (rE hE :), trivial⟩, trivial⟩
      have hl : ¬ c.fields.length = 6 := by have := of_decide_eq_false (show decide ((c.fields.length : Int) = 6) = false from h); omega
      rw [if_neg hl] at e0
      rw [e0] at hx1 hf hn
      have hs : rokU q.step := rokU_fwd hq (Rs.step_fwd hat)
      have f1 := Rs.fresh_fwd q.step
      have f2 := f1.trans (Rs.want_fwd _ wColon)
      have f3 := f2.trans (Rs.kind_fwd _)
      refine ⟨(q, wStatic), ⟨.refl _, .str rfl, trivial⟩, rfl, ⟨hq, nSt⟩, ?_⟩
      refine ⟨by kernel_rfl, ?_⟩
      refine ⟨(q.step, ()), ⟨.refl _, trivial⟩, ⟨⟨rfl, .refl _, .int (hwI hq.1), .refl _, trivial⟩, trivial⟩, ⟨hs, trivial⟩, ?_⟩
      refine ⟨by kernel_rfl, ?_⟩
      refine ⟨(q.step.fresh, wColon), ⟨.refl _, .str rfl, trivial⟩, ⟨⟨rfl, .refl _, .refl _, .refl _, trivial⟩, trivial⟩, ⟨rokU_fwd hs f1, nCo⟩, ?_⟩
      refine ⟨by kernel_rfl, ?_⟩
      refine ⟨(q.step.fresh.want wColon, ()), ⟨.refl _, trivial⟩, ⟨⟨rfl, .refl _, .refl _, .refl _, trivial⟩, trivial⟩, ⟨rokU_fwd hs f2, trivial⟩, ?_⟩
      refine ⟨by kernel_rfl, ?_⟩
      refine ⟨((q.step.fresh.want wColon).kind, wSemi), ⟨.refl _, .str rfl, trivial⟩, ⟨⟨rfl, .refl _, .refl _, .refl _, trivial⟩, trivial⟩, ⟨rokU_fwd hs f3, nSe⟩, ?_⟩
      refine ⟨Fld, fldC, fld0, [q.step.mfV (q.is wStatic)], ⟨rfl, fun _ => rfl⟩, ⟨.refl _, .refl _, .refl _, .refl _, trivial⟩, rfl, ?_⟩
      refine ⟨Fld, fldC, fld0, c.fields, [q.step.mfV (q.is wStatic)], 84, ⟨.refl _, .own ..⟩, fun _ => rfl, (by show (c.fields.length + 1) * 48 ≤ 140737488355328; omega), ?_⟩
      exact ⟨(k, q.step.mfR, ⟨c.name, c.iface, c.super, c.ifaces, c.fields ++ [q.step.mfV (q.is wStatic)], c.methods⟩), ⟨hx1, (show q.step.mfR.need ≤ k by have hn : q.step.mfR.need < q.need := hn; omega), hx3.trans hf, ⟨e1, e2, e3, e4⟩, (by simp only [List.length_append, List.length_singleton]; omega), hx6⟩, Nat.lt_succ_self _, ⟨rfl, rfl⟩, .refl _, .refl _, .refl _, ⟨.refl _, .refl _, .refl _, .refl _, .refl _, .refl _, trivial⟩, ⟨.refl _, .refl _, .refl _, .refl _, .refl _, .refl _, trivial⟩, ⟨.refl _, .refl _, .refl _, trivial⟩, trivial⟩
    have k2 : q.is wStatic = false := h
    have nof : ¬ (q.is wField = true ∨ q.is wStatic = true) := fun c => c.elim (fun c => by rw [k1] at c; cases c) (fun c => by rw [k2] at c; cases c)
    refine ⟨(q, wMethod), ⟨.refl _, .str rfl, trivial⟩, rfl, ⟨hq, nMe⟩, ?_⟩
    refine ⟨fun h => ?_, fun h => ?_⟩
    · have hor : q.is wMethod = true ∨ q.is wFunction = true := .inl h
      have hat : q.e = 0 ∧ q.i < q.L.length := hor.elim Rs.is_at Rs.is_at
      have e0 : q.rMem c = (if c.methods.length = 6 then (c, q.fail 2) else (⟨c.name, c.iface, c.super, c.ifaces, c.fields, c.methods ++ [q.step.rmmV (q.is wFunction)]⟩, q.step.rmmR)) := (if_neg nof).trans (if_pos hor)
      refine ⟨fun h => ?_, fun h => ?_⟩
      · have hl : c.methods.length = 6 := by have := of_decide_eq_true (show decide ((c.methods.length : Int) = 6) = true from h); omega
        rw [e0, if_pos hl] at hx1
        rw [Rs.rClsL_stop (Rs.fail_ne q (by decide))] at hx1
        refine ⟨by kernel_rfl, ?_⟩
        refine ⟨(q, 2), ⟨.refl _, .refl _, trivial⟩, ⟨⟨rfl, .refl _, .refl _, .refl _, trivial⟩, trivial⟩, ⟨hq, trivial⟩, ?_⟩
        have he : r.rClass = (c, q.fail 2) := by rw [hC _ _ hx1, Rs.stuck (Rs.want_fwd _ _) (Rs.fail_ne q (by decide))]
        have hE : q.fail 2 = r.rClass.2 := by rw [he]
        exact ⟨agg c ⟨e1, e2, e3, e4⟩ (by rw [he]) _ _, ⟨rfl, .rowEq (rL hE :), .int (rI hE :), .int (rE hE :), trivial⟩, trivial⟩
      have hl : ¬ c.methods.length = 6 := by have := of_decide_eq_false (show decide ((c.methods.length : Int) = 6) = false from h); omega
      rw [if_neg hl] at e0
      rw [e0] at hx1 hf hn
      have hs : rokU q.step := rokU_fwd hq (Rs.step_fwd hat)
      refine ⟨(q, wFunction), ⟨.refl _, .str rfl, trivial⟩, rfl, ⟨hq, nFu⟩, ?_⟩
      refine ⟨by kernel_rfl, ?_⟩
      refine ⟨by kernel_rfl, ?_⟩
      refine ⟨(q.step, q.is wFunction), ⟨.refl _, .refl _, trivial⟩, ⟨⟨rfl, .refl _, .int (hwI hq.1), .refl _, trivial⟩, trivial⟩, ⟨hs, trivial⟩, ?_⟩
      refine ⟨Meth, methC, meth0, [q.step.rmmV (q.is wFunction)], ⟨rfl, fun _ => rfl⟩, ⟨.refl _, .refl _, .refl _, .refl _, .refl _, .refl _, .refl _, .refl _, .refl _, trivial⟩, rfl, ?_⟩
      refine ⟨Meth, methC, meth0, c.methods, [q.step.rmmV (q.is wFunction)], 115, ⟨.refl _, .own ..⟩, fun _ => rfl, (by show (c.methods.length + 1) * 128 ≤ 140737488355328; omega), ?_⟩
      exact ⟨(k, q.step.rmmR, ⟨c.name, c.iface, c.super, c.ifaces, c.fields, c.methods ++ [q.step.rmmV (q.is wFunction)]⟩), ⟨hx1, (show q.step.rmmR.need ≤ k by have hn : q.step.rmmR.need < q.need := hn; omega), hx3.trans hf, ⟨e1, e2, e3, e4⟩, hx5, (by simp only [List.length_append, List.length_singleton]; omega)⟩, Nat.lt_succ_self _, ⟨rfl, rfl⟩, .refl _, .refl _, .refl _, ⟨.refl _, .refl _, .refl _, .refl _, .refl _, .refl _, trivial⟩, ⟨.refl _, .refl _, .refl _, .refl _, .refl _, .refl _, trivial⟩, ⟨.refl _, .refl _, .refl _, trivial⟩, trivial⟩
    have k3 : q.is wMethod = false := h
    refine ⟨(q, wFunction), ⟨.refl _, .str rfl, trivial⟩, rfl, ⟨hq, nFu⟩, ?_⟩
    refine ⟨fun h => ?_, fun h => ?_⟩
    · have hor : q.is wMethod = true ∨ q.is wFunction = true := .inr h
      have hat : q.e = 0 ∧ q.i < q.L.length := hor.elim Rs.is_at Rs.is_at
      have e0 : q.rMem c = (if c.methods.length = 6 then (c, q.fail 2) else (⟨c.name, c.iface, c.super, c.ifaces, c.fields, c.methods ++ [q.step.rmmV (q.is wFunction)]⟩, q.step.rmmR)) := (if_neg nof).trans (if_pos hor)
      refine ⟨fun h => ?_, fun h => ?_⟩
      · have hl : c.methods.length = 6 := by have := of_decide_eq_true (show decide ((c.methods.length : Int) = 6) = true from h); omega
        rw [e0, if_pos hl] at hx1
        rw [Rs.rClsL_stop (Rs.fail_ne q (by decide))] at hx1
        refine ⟨by kernel_rfl, ?_⟩
        refine ⟨(q, 2), ⟨.refl _, .refl _, trivial⟩, ⟨⟨rfl, .refl _, .refl _, .refl _, trivial⟩, trivial⟩, ⟨hq, trivial⟩, ?_⟩
        have he : r.rClass = (c, q.fail 2) := by rw [hC _ _ hx1, Rs.stuck (Rs.want_fwd _ _) (Rs.fail_ne q (by decide))]
        have hE : q.fail 2 = r.rClass.2 := by rw [he]
        exact ⟨agg c ⟨e1, e2, e3, e4⟩ (by rw [he]) _ _, ⟨rfl, .rowEq (rL hE :), .int (rI hE :), .int (rE hE :), trivial⟩, trivial⟩
      have hl : ¬ c.methods.length = 6 := by have := of_decide_eq_false (show decide ((c.methods.length : Int) = 6) = false from h); omega
      rw [if_neg hl] at e0
      rw [e0] at hx1 hf hn
      have hs : rokU q.step := rokU_fwd hq (Rs.step_fwd hat)
      refine ⟨(q, wFunction), ⟨.refl _, .str rfl, trivial⟩, rfl, ⟨hq, nFu⟩, ?_⟩
      refine ⟨by kernel_rfl, ?_⟩
      refine ⟨by kernel_rfl, ?_⟩
      refine ⟨(q.step, q.is wFunction), ⟨.refl _, .refl _, trivial⟩, ⟨⟨rfl, .refl _, .int (hwI hq.1), .refl _, trivial⟩, trivial⟩, ⟨hs, trivial⟩, ?_⟩
      refine ⟨Meth, methC, meth0, [q.step.rmmV (q.is wFunction)], ⟨rfl, fun _ => rfl⟩, ⟨.refl _, .refl _, .refl _, .refl _, .refl _, .refl _, .refl _, .refl _, .refl _, trivial⟩, rfl, ?_⟩
      refine ⟨Meth, methC, meth0, c.methods, [q.step.rmmV (q.is wFunction)], 115, ⟨.refl _, .own ..⟩, fun _ => rfl, (by show (c.methods.length + 1) * 128 ≤ 140737488355328; omega), ?_⟩
      exact ⟨(k, q.step.rmmR, ⟨c.name, c.iface, c.super, c.ifaces, c.fields, c.methods ++ [q.step.rmmV (q.is wFunction)]⟩), ⟨hx1, (show q.step.rmmR.need ≤ k by have hn : q.step.rmmR.need < q.need := hn; omega), hx3.trans hf, ⟨e1, e2, e3, e4⟩, hx5, (by simp only [List.length_append, List.length_singleton]; omega)⟩, Nat.lt_succ_self _, ⟨rfl, rfl⟩, .refl _, .refl _, .refl _, ⟨.refl _, .refl _, .refl _, .refl _, .refl _, .refl _, trivial⟩, ⟨.refl _, .refl _, .refl _, .refl _, .refl _, .refl _, trivial⟩, ⟨.refl _, .refl _, .refl _, trivial⟩, trivial⟩
    have k4 : q.is wFunction = false := h
    have nom : ¬ (q.is wMethod = true ∨ q.is wFunction = true) := fun c => c.elim (fun c => by rw [k3] at c; cases c) (fun c => by rw [k4] at c; cases c)
    have e0 : q.rMem c = (c, q.fail 4) := (if_neg nof).trans (if_neg nom)
    rw [e0] at hx1 hf hn
    refine ⟨by kernel_rfl, ?_⟩
    refine ⟨(q, 4), ⟨.refl _, .refl _, trivial⟩, ⟨⟨rfl, .refl _, .refl _, .refl _, trivial⟩, trivial⟩, ⟨hq, trivial⟩, ?_⟩
    exact ⟨(k, q.fail 4, c), ⟨hx1, (show (q.fail 4).need ≤ k by have hn : (q.fail 4).need < q.need := hn; omega), hx3.trans hf, ⟨e1, e2, e3, e4⟩, hx5, hx6⟩, Nat.lt_succ_self _, ⟨rfl, rfl⟩, .refl _, .refl _, .refl _, ⟨.refl _, .refl _, .refl _, .refl _, .refl _, .refl _, trivial⟩, ⟨.refl _, .refl _, .refl _, .refl _, .refl _, .refl _, trivial⟩, ⟨.refl _, .refl _, .refl _, trivial⟩, trivial⟩
end Go.Proofs.YtimhbimpaiiceaaGreatDoor.Ax
