/- Arguments: from what a statement reads to the logic's values. -/
import Derived.Test.YtimhbimpaiiceaaDoorA10
import Derived.Deep.Slices
import Derived.ChangeOld
import Derived.SizedLaws
import Derived.Carry
set_option linter.unusedVariables false
set_option linter.unusedSimpArgs false
namespace Go.Proofs.YtimhbimpaiiceaaDoor.Ax
open Go Go.RowKit Go.WideShapes

/-- How a type's values lie: as what they are told, in how many cells, and what is known of them. -/
structure Shape : Type 1 where
  X : Type
  sz : Nat
  cs : X → List SV
  d : X
  ok : X → Prop
def Shape.int (k : IntKind) : Shape := ⟨Int, 1, fun n => [.val (.int k n)], 0, fun n => (Lit.int k n).wf = true⟩
def Shape.byte : Shape := ⟨UInt8, 1, byteC, 0, fun _ => True⟩
def Shape.bool : Shape := ⟨Bool, 1, fun b => [.val (.bool b)], false, fun _ => True⟩
def Shape.str : Shape := ⟨ByteArray, 1, fun s => [.val (.string s)], ⟨#[]⟩, fun s => s.size ≤ 140737488351232⟩
def Shape.row (s : Shape) (by' : Nat) : Shape := ⟨List s.X, 1, fun l => [.row s.X s.sz s.cs s.d l], [], fun l => l.length * by' ≤ 140737488351232 ∧ ∀ x ∈ l, s.ok x⟩
def Shape.pair (a b : Shape) : Shape := ⟨a.X × b.X, a.sz + b.sz, fun x => a.cs x.1 ++ b.cs x.2, (a.d, b.d), fun x => a.ok x.1 ∧ b.ok x.2⟩

def Reads (P : Program) (t : Nat) (s : Shape) : Prop :=
  P.cellsOf t = s.sz ∧ ∀ (H : Type) (enc : TypeId × Value → H) (w : World) (base fuel : Nat) (l : List Value) (r : DataW H × List MemPlace),
    DataW.trod enc P w base (fun _ => true) true fuel t l = some r → (∀ n ∈ r.1.weights P t, n ≤ reachBytes) →
    ∃ x : s.X, s.ok x ∧ l.length = s.sz ∧ (s.cs x).length = s.sz ∧ ∀ j, j < s.sz → G (cellsH w) noB noT (at' (s.cs x) j .junk) (l.getD j undef)
def ReadsF (P : Program) (fs : List Go.Field) (o : Nat) (s : Shape) : Prop :=
  ∀ (H : Type) (enc : TypeId × Value → H) (w : World) (base n : Nat) (l : List Value) (xs : List (DataW H × List MemPlace)), xs.length = fs.length →
    (∀ (i : Nat) (f : Go.Field), fs[i]? = some f → DataW.trod enc P w base (fun _ => true) true n f.type ((l.drop f.offset).take (P.cellsOf f.type)) = xs[i]?) →
    (∀ m ∈ DataW.weightsEach P (fs.map (·.type)) (xs.map (·.1)), m ≤ reachBytes) →
    ∃ x : s.X, s.ok x ∧ (s.cs x).length = s.sz ∧ ∀ j, j < s.sz → G (cellsH w) noB noT (at' (s.cs x) j .junk) (l.getD (o + j) undef)

section
variable {P : Program} {t : Nat}
theorem Reads.int {k : IntKind} (ht : P.underlying t = some (.int k)) (hc : P.cellsOf t = 1) : Reads P t (.int k) :=
  ⟨hc, fun H enc w base fuel l r h hw => by
    obtain ⟨n, rfl, -, hn⟩ := DataW.trod_int ht h
    refine ⟨n, hn, rfl, rfl, fun j hj => ?_⟩
    obtain rfl : j = 0 := by have : j < 1 := hj; omega
    exact .val _⟩
theorem Reads.byte (ht : P.underlying t = some (.int .u8)) (hc : P.cellsOf t = 1) : Reads P t .byte :=
  ⟨hc, fun H enc w base fuel l r h hw => by
    obtain ⟨n, rfl, -, hn⟩ := DataW.trod_int ht h
    have hr : 0 ≤ n ∧ n < 256 := by
      simp only [Lit.wf, Bool.and_eq_true, decide_eq_true_eq] at hn
      obtain ⟨h1, h2⟩ := hn
      have h3 : IntKind.min .u8 = 0 := by decide
      have h4 : IntKind.max .u8 = 255 := by decide
      omega
    refine ⟨UInt8.ofNat n.toNat, trivial, rfl, rfl, fun j hj => ?_⟩
    obtain rfl : j = 0 := by have : j < 1 := hj; omega
    have e : ((UInt8.ofNat n.toNat).toNat : Int) = n := by
      rw [UInt8.toNat_ofNat']
      omega
    show G _ _ _ (.val (.int .u8 ((UInt8.ofNat n.toNat).toNat : Int))) _
    rw [e]
    exact .val _⟩
theorem Reads.bool (ht : P.underlying t = some .bool) (hc : P.cellsOf t = 1) : Reads P t .bool :=
  ⟨hc, fun H enc w base fuel l r h hw => by
    obtain ⟨n, rfl, -⟩ := DataW.trod_bool ht h
    refine ⟨n, trivial, rfl, rfl, fun j hj => ?_⟩
    obtain rfl : j = 0 := by have : j < 1 := hj; omega
    exact .val _⟩
theorem Reads.str (ht : P.underlying t = some .string) (hc : P.cellsOf t = 1) : Reads P t .str :=
  ⟨hc, fun H enc w base fuel l r h hw => by
    obtain ⟨s, rfl, rfl, -⟩ := DataW.trod_string ht h
    have hs := hw s.data.toList.length (by simp [DataW.weights])
    refine ⟨s, ?_, rfl, rfl, fun j hj => ?_⟩
    · have : s.data.toList.length = s.size := by simp
      rw [this] at hs; exact hs
    obtain rfl : j = 0 := by have : j < 1 := hj; omega
    exact .val _⟩
theorem weightsAll_mem {H : Type} {e : Nat} {n : Nat} {d : DataW H} (hn : n ∈ d.weights P e) : ∀ {l : List (DataW H)}, d ∈ l → n ∈ DataW.weightsAll P e l
  | x :: r, h => by
    simp only [DataW.weightsAll, List.mem_append]
    rcases List.mem_cons.1 h with rfl | h
    · exact .inl hn
    · exact .inr (weightsAll_mem hn h)
theorem Reads.row {e by' : Nat} {s : Shape} (ht : P.underlying t = some (.slice e)) (hc : P.cellsOf t = 1) (hb : P.bytesOf e = by') (hs : Reads P e s) (hz : 0 < s.sz) : Reads P t (s.row by') :=
  ⟨hc, fun H enc w base fuel l r h hw => by
    rcases Deep.open_slice ht h with ⟨rfl, rfl⟩ | ⟨a, len, cap, m, n, D, Pl, rfl, hba, hl, hm, hmm, rfl, hx⟩
    · refine ⟨[], ⟨by simp, fun x hx => by cases hx⟩, rfl, rfl, fun j hj => ?_⟩
      obtain rfl : j = 0 := by have : j < 1 := hj; omega
      exact .rowE ..
    have hmc : m = cap := by simpa using hmm
    subst hmc
    simp only [DataW.weights, ht] at hw
    have hlen : len * by' ≤ 140737488351232 := by
      have := hw _ List.mem_cons_self
      simp only [List.length_map, List.length_range, hb] at this
      refine Nat.le_trans (Nat.mul_le_mul_right _ (by omega)) this
    letI : Inhabited s.X := ⟨s.d⟩
    obtain ⟨f, hf⟩ := Deep.choose_lt (α := s.X) (n := len) (p := fun i x => s.ok x ∧ (s.cs x).length = s.sz ∧ ∃ cs', w.cells? base (a.add (i * P.cellsOf e)) (P.cellsOf e) = some cs' ∧ ∀ j, j < s.sz → G (cellsH w) noB noT (at' (s.cs x) j .junk) (cs'.getD j undef)) (fun i hi => by
      obtain ⟨cs', h1, h2⟩ := hx i (by omega)
      obtain ⟨x, k1, k2, k3, k4⟩ := hs.2 H enc w base n cs' _ h2 (fun q hq => hw q (List.mem_cons_of_mem _ (List.mem_append_left _ (weightsAll_mem hq (List.mem_map.2 ⟨i, by simpa using hi, rfl⟩)))))
      exact ⟨x, k1, k3, cs', h1, k4⟩)
    have hll : ((List.range len).map f).length = len := by simp
    have hget : ∀ i, i < len → ((List.range len).map f).getD i s.d = f i := fun i hi => by simp [List.getD, hi]
    refine ⟨(List.range len).map f, ⟨by rw [hll]; exact hlen, fun x hx => by
      obtain ⟨i, hi, rfl⟩ := List.mem_map.1 hx
      exact (hf i (by simpa using hi)).1⟩, rfl, rfl, fun j hj => ?_⟩
    obtain rfl : j = 0 := by have : j < 1 := hj; omega
    show G (cellsH w) noB noT (.row s.X s.sz s.cs s.d ((List.range len).map f)) (.slice (some a) len m)
    cases hL : len with
    | zero => exact .rowE ..
    | succ q =>
      rw [← hL]
      have hspot : a.spot = none := by
        obtain ⟨-, -, cs', h1, -⟩ := hf 0 (by omega)
        obtain ⟨-, h2, h3⟩ := World.cells?_some h1
        have h4 := h3 0 (by rw [hs.1]; exact hz)
        have h5 : ∃ v, cs'[0]? = some v := ⟨cs'[0]'(by rw [h2, hs.1]; exact hz), by simp⟩
        obtain ⟨v, h5⟩ := h5
        rw [h5] at h4
        have := World.cell?_spot h4
        simpa [Addr.add] using this
      obtain ⟨b, off, spot⟩ := a
      obtain rfl : spot = none := hspot
      have key : ∀ i j, i < len → j < s.sz → ∃ v, w.cell? ⟨b, off + i * s.sz + j, none⟩ = some v ∧ G (cellsH w) noB noT (at' (s.cs (f i)) j .junk) v := by
        intro i j hi hj
        obtain ⟨-, -, cs', h1, h2⟩ := hf i hi
        obtain ⟨-, h3, h4⟩ := World.cells?_some h1
        rw [hs.1] at h3 h4
        have h5 := h4 j hj
        rw [add_none, add_none] at h5
        have h6 : cs'[j]? = some (cs'.getD j undef) := by simp [List.getD, show j < cs'.length by omega]
        rw [h6] at h5
        exact ⟨_, h5, h2 j hj⟩
      have hG := G.row (H := cellsH w) (β := noB) (T := noT) s.X s.sz s.cs s.d ((List.range len).map f) b off m (fun i j => (w.cell? ⟨b, off + i * s.sz + j, none⟩).getD undef) (by rw [hll]; exact hl)
        (fun i hi => by rw [hll] at hi; rw [hget i hi]; exact (hf i hi).2.1)
        (fun i j hi hj => by
          rw [hll] at hi
          obtain ⟨v, h1, -⟩ := key i j hi hj
          show w.cell? _ = _
          rw [h1]; rfl)
        (fun i j hi hj => by
          rw [hll] at hi
          obtain ⟨v, h1, h2⟩ := key i j hi hj
          rw [hget i hi, h1]; exact h2)
      rw [hll] at hG
      exact hG⟩
theorem at'_append' (a b : List SV) (j : Nat) : at' (a ++ b) j .junk = if j < a.length then at' a j .junk else at' b (j - a.length) .junk := at'_append _ a b j
theorem ReadsF.one {f : Go.Field} {o : Nat} {s : Shape} (ho : f.offset = o) (h : Reads P f.type s) : ReadsF P [f] o s := by
  intro H enc w base n l xs hl hx hw
  have h1 := hx 0 f rfl
  match xs, hl with
  | [x], _ =>
    obtain ⟨y, k1, k2, k3, k4⟩ := h.2 H enc w base n _ x h1 (fun m hm => hw m (by simp [DataW.weightsEach, hm]))
    refine ⟨y, k1, k3, fun j hj => ?_⟩
    have := k4 j hj
    rw [h.1, ho] at this
    have hlen : j < (l.drop o).length := by
      have : ((l.drop o).take s.sz).length = s.sz := by rw [← ho, ← h.1]; exact k2.trans h.1.symm
      simp at this ⊢; omega
    simpa [List.getD, List.getElem?_take, List.getElem?_drop, hj] using this
theorem ReadsF.cons {f : Go.Field} {fs : List Go.Field} {o : Nat} {a b : Shape} (ho : f.offset = o) (h : Reads P f.type a) (hr : ReadsF P fs (o + a.sz) b) : ReadsF P (f :: fs) o (a.pair b) := by
  intro H enc w base n l xs hl hx hw
  match xs, hl with
  | x :: xs, hl =>
    obtain ⟨y, k1, k3, k4⟩ := ReadsF.one ho h H enc w base n l [x] rfl (fun i g e => by
      match i, e with
      | 0, e => simpa using hx 0 g (by simpa using e)) (fun m hm => hw m (by
        simp only [List.map_cons, List.map_nil, DataW.weightsEach, List.append_nil] at hm
        simp only [List.map_cons, DataW.weightsEach, List.mem_append]
        exact .inl hm))
    obtain ⟨z, m1, m3, m4⟩ := hr H enc w base n l xs (by simpa using hl) (fun i g e => by simpa using hx (i + 1) g (by simpa using e)) (fun m hm => hw m (by
        simp only [List.map_cons, DataW.weightsEach, List.mem_append]
        exact .inr hm))
    refine ⟨(y, z), ⟨k1, m1⟩, by simp [Shape.pair, k3, m3], fun j hj => ?_⟩
    have hj : j < a.sz + b.sz := hj
    show G _ _ _ (at' (a.cs y ++ b.cs z) j .junk) _
    rw [at'_append', k3]
    by_cases hlt : j < a.sz
    · rw [if_pos hlt]; exact k4 j hlt
    · rw [if_neg hlt]
      have := m4 (j - a.sz) (by omega)
      rwa [show o + a.sz + (j - a.sz) = o + j by omega] at this
theorem Reads.struct {fs : Array Go.Field} {s : Shape} (ht : P.underlying t = some (.struct fs)) (hc : P.cellsOf t = s.sz) (h : ReadsF P fs.toList 0 s) : Reads P t s :=
  ⟨hc, fun H enc w base fuel l r hr hw => by
    obtain ⟨xs, n, rfl, rfl, hl, hxl, hx⟩ := DataW.trod_struct ht hr
    obtain ⟨x, k1, k2, k3⟩ := h H enc w base n l xs (by simpa using hxl) (fun i f e => hx i f (by simpa using e)) (fun m hm => hw m (by simp only [DataW.weights, ht]; exact hm))
    exact ⟨x, k1, by omega, k2, fun j hj => by have := k3 j hj; rwa [Nat.zero_add] at this⟩⟩

variable {H : Type} {enc : TypeId × Value → H} {w : World} {v : Value} {d : DataW H} {ps : List MemPlace}
/-- an argument of one cell -/
theorem Reads.one {s : Shape} (h : Reads P t s) (hv : v.cells = #[v]) (hd : DataW.Trod enc P w 0 (fun _ => true) true t v d ps) (hw : ∀ n ∈ d.weights P t, n ≤ reachBytes) :
    ∃ x : s.X, s.ok x ∧ (s.cs x).length = 1 ∧ G (cellsH w) noB noT (at' (s.cs x) 0 .junk) v := by
  obtain ⟨fuel, hd⟩ := hd
  rw [hv] at hd
  obtain ⟨x, k1, k2, k3, k4⟩ := h.2 H enc w 0 fuel _ _ hd hw
  have k2 : 1 = s.sz := k2
  exact ⟨x, k1, by omega, k4 0 (by omega)⟩
/-- an argument that is a struct -/
theorem Reads.all {s : Shape} {fs : Array Go.Field} {r : Reach} {base : Nat} (h : Reads P t s) (ht : P.underlying t = some (.struct fs)) (hok : Value.okWide P w r base t v)
    (hd : DataW.Trod enc P w 0 (fun _ => true) true t v d ps) (hw : ∀ n ∈ d.weights P t, n ≤ reachBytes) :
    ∃ x : s.X, s.ok x ∧ G (cellsH w) noB noT (.agg (s.cs x)) v := by
  obtain ⟨cs, rfl, -⟩ := okWide_struct ht hok
  obtain ⟨fuel, hd⟩ := hd
  obtain ⟨x, k1, k2, k3, k4⟩ := h.2 H enc w 0 fuel _ _ hd hw
  have k2 : cs.toList.length = s.sz := k2
  refine ⟨x, k1, .agg _ cs (by simpa using k2.trans k3.symm) fun j hj => ?_⟩
  have := k4 j (by omega)
  simpa [List.getD, Array.getD_eq_getD_getElem?, Value.cells] using this
end
end Go.Proofs.YtimhbimpaiiceaaDoor.Ax
