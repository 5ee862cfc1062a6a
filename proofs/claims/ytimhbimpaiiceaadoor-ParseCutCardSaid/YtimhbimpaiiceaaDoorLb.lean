/- What Go's library answers, as the logic's contracts: bytes looked for, numbers as texts, texts as numbers, rows joined. -/
import Derived.Test.YtimhbimpaiiceaaDoorUi
import Derived.Test.YtimhbimpaiiceaaDoorShelf
import Derived.Test.YtimhbimpaiiceaaDoorL0
import Derived.Lib.SlFresh
import Derived.Lib.Join
set_option linter.unusedVariables false
set_option linter.unusedSimpArgs false
namespace Go.Proofs.YtimhbimpaiiceaaDoor.Ax
open Go Go.RowKit
/-- the package variables that the library reads -/
def tabs (w : World) : Prop := Lib.TabIs Tryd.prog w "internal/strconv.uint64pow10" .u64 Lib.pow10Tab ∧ ∃ tp p, w.var? Tryd.prog "strconv.ErrSyntax" = some #[.iface tp p]

def idxC : Ctr := { A := ByteArray × UInt8, enc := fun x => [S x.1, .val (.int .u8 (x.2.toNat : Int))], dom := fun _ => True, res := fun x _ => I (Lib.indexByte x.1.data.toList x.2) }
theorem idx_ok : CtrSound Tryd.prog 39 idxC := by
  refine ctr_pure ⟨_, Tryd.func39, by kernel_rfl, by kernel_rfl⟩ fun x H w vs id _ _ hs hn hg => ?_
  obtain ⟨u, v, rfl, h1, h2⟩ := args2 hn hg
  rw [gval' h1, gval' h2]
  refine (Tryd.strings_IndexByte x.1 (x.2.toNat : Int) w).mono ?_
  rintro e w' ⟨rfl, rfl⟩
  refine ⟨_, rfl, .refl _ _, ?_⟩
  have : ((x.2.toNat : Int)).toNat.toUInt8 = x.2 := by simp
  rw [this]
  exact .val _

def atoiR : Option Int → SV
  | some n => .tup [I n, .val .nilIface]
  | none => .tup [I 0, .ifc]
def atoiC : Ctr := /- 69 -/ { A := ByteArray × Option Int, enc := fun x => [S x.1], dom := fun x => x.1.size ≤ 18 ∧ Lib.atoi x.1.data.toList = x.2, res := fun x _ => atoiR x.2, gl := tabs }
theorem atoi_ok : CtrSound Tryd.prog 69 atoiC := by
  refine ctr_pure ⟨_, Tryd.func69, by kernel_rfl, by kernel_rfl⟩ fun x H w vs id hd hgl hs hn hg => ?_
  obtain ⟨u, rfl, h1⟩ := args1 hn hg
  rw [gval' h1]
  obtain ⟨s, r⟩ := x
  obtain ⟨hd1, hd2⟩ := hd
  simp only at hd1 hd2
  cases r with
  | some n =>
    refine (Tryd.strconv_Atoi s n hd1 hd2 w).mono ?_
    rintro e w' ⟨rfl, t, rfl⟩
    refine ⟨_, rfl, ⟨rfl, rfl, rfl, by rw [Lib.bytesWorld_size]; omega, fun k hk => Lib.bytesWorld_at_old w _ _ k hk⟩, .tup _ _ rfl fun j hj => ?_⟩
    match j, hj with
    | 0, _ => exact .val _
    | 1, _ => exact .val _
  | none =>
    obtain ⟨-, tp, p, hv⟩ := hgl
    refine (Tryd.strconv_Atoi_err_var s hd1 hd2 tp p w hv).mono ?_
    rintro e w' ⟨N, rfl, -, -, hb⟩
    refine ⟨_, rfl, hb, .tup _ _ rfl fun j hj => ?_⟩
    match j, hj with
    | 0, _ => exact .val _
    | 1, _ => exact .ifc _ _

def itoaB (n : Int) : ByteArray := ⟨(Lib.itoa n).toArray⟩
def itoaC : Ctr := { A := Int, enc := fun x => [I x], dom := fun x => -9223372036854775808 ≤ x ∧ x ≤ 9223372036854775807, res := fun x _ => S (itoaB x), gl := tabs }
theorem itoa_ok : CtrSound Tryd.prog 58 itoaC := by
  refine ctr_pure ⟨_, Tryd.func58, by kernel_rfl, by kernel_rfl⟩ fun x H w vs id hd hgl hs hn hg => ?_
  obtain ⟨u, rfl, h1⟩ := args1 hn hg
  rw [gval' h1]
  refine (Tryd.strconv_Itoa x hd.1 hd.2 w hgl.1).mono ?_
  rintro e w' ⟨rfl, k, os, rfl⟩
  refine ⟨_, rfl, ?_, .val _⟩
  refine ⟨rfl, rfl, rfl, by simp [Sort.grow, World.drewN], fun i hi => ?_⟩
  show (w.heap ++ os)[i]? = w.heap[i]?
  exact Array.getElem?_append_left hi

/-- a row of rows of bytes -/
def rowsC (l : List UInt8) : List SV := [.row UInt8 1 byteC 0 l]
theorem byte_cells {H : HM} {w : World} (hs : Sealed H w) {l : List UInt8} {v : Value} (h : G H noB noT (.row UInt8 1 byteC 0 l) v) :
    ∃ p cap, v = .slice p l.length cap ∧ (p = none → l = []) ∧ l.length ≤ max cap l.length ∧ (l ≠ [] → ∃ b o, p = some ⟨b, o, none⟩ ∧ l.length ≤ cap ∧ ∀ (i : Nat) x, l[i]? = some x → w.cell? ⟨b, o + i, none⟩ = some (.int .u8 (x.toNat : Int))) := by
  cases h with
  | rowE _ _ _ _ a c => exact ⟨a, c, rfl, fun _ => rfl, by simp, fun h => absurd rfl h⟩
  | row _ _ _ _ _ b off c vs hc hz hH hG =>
    refine ⟨_, c, rfl, fun h => (by cases h), by omega, fun _ => ⟨b, off, rfl, hc, fun i x hx => ?_⟩⟩
    have hi := (List.getElem?_eq_some_iff.1 hx).1
    have h1 := hs _ _ _ (hH i 0 hi (by omega))
    have h2 := hG i 0 hi (by omega)
    have h3 : vs i 0 = .int .u8 ((l.getD i 0).toNat : Int) := gval' (show G H noB noT (.val (.int .u8 ((l.getD i 0).toNat : Int))) _ from h2)
    rw [Nat.mul_one, Nat.add_zero] at h1
    rw [h1, h3, List.getD, hx]; rfl
theorem byte_holds /- 43 -/ {H : HM} {w : World} (hs : Sealed H w) {l : List UInt8} {v : Value} (h : G H noB noT (.row UInt8 1 byteC 0 l) v) : Lib.HoldsBytes w v l := by
  obtain ⟨p, cap, rfl, h0, -, h1⟩ := byte_cells hs h
  refine ⟨p, cap, rfl, h0, fun a ha i x hx => ?_⟩
  obtain ⟨b, o, hp, -, hc⟩ := h1 (by rintro rfl; simp at hx)
  rw [hp] at ha
  cases ha
  rw [add_none]
  exact hc i x hx
theorem fresh_own /- 43 -/ {w w' : World} {H : HM} {v : Value} {l : List UInt8} {id : Nat} (hs : Sealed H w) (hb : Below w.heap.size w w') (hf : Lib.FreshBytes w.heap.size w' v l) :
    ∃ H' T', HLe H H' ∧ (∀ b o, b < w.heap.size → H' b o = H b o) ∧
      (∀ b o i, T' b o = some i → w.heap.size ≤ b ∧ (w'.cell? ⟨b, o, none⟩).isSome = true ∧ w'.frozen? ⟨b, o, none⟩ = false) ∧
      (∀ b o v, H' b o = some v → w'.cell? ⟨b, o, none⟩ = some v ∧ T' b o = none) ∧ G H' noB T' (.own UInt8 1 byteC 0 l id) v := by
  obtain ⟨g, cap, zs, rfl, hg, hc, -, hz, hzr, hzl, hcell, hfr⟩ := hf
  have hno : ∀ q, H g q = none := fun q => by
    cases e : H g q with
    | none => rfl
    | some u =>
      have := hs _ _ _ e
      simp [World.cell?, Array.getElem?_eq_none hg] at this
  have hlz : ∀ i, i < l.length → zs.getD i 0 = ((l.getD i 0).toNat : Int) := fun i hi => by
    have h1 : i < zs.length := by omega
    have h2 : l[i]? = ((Lib.bytesOf (zs.take l.length)))[i]? := by rw [hzl]
    have h3 : (zs.take l.length)[i]? = some zs[i] := by simp [List.getElem?_take, hi, h1]
    simp only [Lib.bytesOf, List.getElem?_map, h3, Option.map_some] at h2
    have h4 := hzr zs[i] (List.getElem_mem h1)
    simp only [List.getD, h2, List.getElem?_eq_getElem h1, Option.getD_some]
    simp [UInt8.toNat_ofNat']
    omega
  refine ⟨fun b o => if b = g ∧ o < l.length then some (.int .u8 ((l.getD o 0).toNat : Int)) else H b o, fun b o => if b = g ∧ l.length ≤ o ∧ o < cap then some id else none, ?_, ?_, ?_, ?_, ?_⟩
  · intro b o u e
    show (if _ then _ else _) = _
    by_cases c : b = g ∧ o < l.length
    · obtain ⟨rfl, -⟩ := c
      rw [hno] at e; cases e
    · rw [if_neg c]; exact e
  · intro b o hlt
    show (if _ then _ else _) = _
    rw [if_neg (fun c => by omega)]
  · intro b o i e
    by_cases c : b = g ∧ l.length ≤ o ∧ o < cap
    · obtain ⟨rfl, h1, h2⟩ := c
      exact ⟨hg, by rw [hcell o h2]; rfl, hfr o h2⟩
    · simp only [if_neg c] at e; cases e
  · intro b o u e
    by_cases c : b = g ∧ o < l.length
    · simp only [if_pos c] at e
      obtain ⟨rfl, h1⟩ := c
      obtain rfl := Option.some.inj e
      refine ⟨by rw [hcell o (by omega), hlz o h1], ?_⟩
      show (if _ then _ else _) = _
      rw [if_neg (fun c => by omega)]
    · simp only [if_neg c] at e
      refine ⟨?_, ?_⟩
      · have hw := hs _ _ _ e
        have hlt : b < w.heap.size := by
          rcases Nat.lt_or_ge b w.heap.size with h | h
          · exact h
          · simp [World.cell?, Array.getElem?_eq_none h] at hw
        rw [← hw]
        simp only [World.cell?, hb.block b hlt]
      · show (if _ then _ else _) = _
        rw [if_neg]
        rintro ⟨rfl, -⟩
        rw [hno] at e; cases e
  · refine .own UInt8 1 byteC 0 l id g 0 cap (fun i j => .int .u8 ((l.getD i 0).toNat : Int)) hc (fun i _ => rfl) (fun i j hi hj => ?_) (fun i j hi hj => ?_) (fun o h1 h2 => ?_)
    · obtain rfl : j = 0 := by omega
      show (if _ then _ else _) = _
      rw [if_pos ⟨rfl, by omega⟩, show 0 + i * 1 + 0 = i by omega]
    · obtain rfl : j = 0 := by omega
      exact .val _
    · show (if _ then _ else _) = _
      rw [if_pos ⟨rfl, by omega, by omega⟩]

def joinC : Ctr := { A := List (List UInt8) × List UInt8, enc := fun x => [.row (List UInt8) 1 rowsC [] x.1, .row UInt8 1 byteC 0 x.2], dom := fun x => x.1.length ≤ 1000000 ∧ Lib.lens x.1 + x.2.length * (x.1.length - 1) ≤ 140737488355328, res := fun x id => .own UInt8 1 byteC 0 (Lib.join x.1 x.2) id }
theorem join_ok : CtrSound Tryd.prog 43 joinC := by
  refine ⟨⟨_, Tryd.func43, by kernel_rfl, by kernel_rfl⟩, fun x H w vs id hd hs hgl hn hg => ?_⟩
  replace hs : Sealed H w := hs
  obtain ⟨u, v, rfl, h1, h2⟩ := args2 hn hg
  obtain ⟨ls, sep⟩ := x
  obtain ⟨hd1, hd2⟩ := hd
  simp only at hd1 hd2 h1 h2
  have hS := byte_holds hs h2
  have fin : ∀ (l : List UInt8) (w' : World) (v : Value), Lib.join ls sep = l → Lib.FreshBytes w.heap.size w' v l → Below w.heap.size w w' → ∃ v' H' T', Ending.returned v = .returned v' ∧ Below w.heap.size w w' ∧ HLe H H' ∧ (∀ b o, b < w.heap.size → H' b o = H b o) ∧
      (∀ b o i, T' b o = some i → w.heap.size ≤ b ∧ (w'.cell? ⟨b, o, none⟩).isSome = true ∧ w'.frozen? ⟨b, o, none⟩ = false) ∧
      (∀ b o v, H' b o = some v → w'.cell? ⟨b, o, none⟩ = some v ∧ T' b o = none) ∧ G H' noB T' (joinC.res (ls, sep) id) v' ∧ (joinC.fresh = true → G (newH w H') noB T' (joinC.res (ls, sep) id) v') := by
    intro l w' v hl hf hb
    obtain ⟨H', T', a1, a2, a3, a4, a5⟩ := fresh_own (id := id) hs hb hf
    exact ⟨v, H', T', rfl, hb, a1, a2, a3, a4, by show G H' noB T' (.own UInt8 1 byteC 0 (Lib.join ls sep) id) v; rw [hl]; exact a5, fun h => by cases h⟩
  have fin0 : ∀ (w' : World) (a : Option Addr), Lib.join ls sep = [] → Below w.heap.size w w' → ∃ v' H' T', Ending.returned (Value.slice a 0 0) = .returned v' ∧ Below w.heap.size w w' ∧ HLe H H' ∧ (∀ b o, b < w.heap.size → H' b o = H b o) ∧
      (∀ b o i, T' b o = some i → w.heap.size ≤ b ∧ (w'.cell? ⟨b, o, none⟩).isSome = true ∧ w'.frozen? ⟨b, o, none⟩ = false) ∧
      (∀ b o v, H' b o = some v → w'.cell? ⟨b, o, none⟩ = some v ∧ T' b o = none) ∧ G H' noB T' (joinC.res (ls, sep) id) v' ∧ (joinC.fresh = true → G (newH w H') noB T' (joinC.res (ls, sep) id) v') := by
    intro w' a hl hb
    refine ⟨_, H, noT, rfl, hb, .refl _, fun _ _ _ => rfl, fun _ _ _ h => (by cases h), fun b o u hu => ⟨?_, rfl⟩, by show G H noB noT (.own UInt8 1 byteC 0 (Lib.join ls sep) id) _; rw [hl]; exact .ownE .., fun h => by cases h⟩
    have hw := hs _ _ _ hu
    have hlt : b < w.heap.size := by
      rcases Nat.lt_or_ge b w.heap.size with h | h
      · exact h
      · simp [World.cell?, Array.getElem?_eq_none h] at hw
    rw [← hw]
    simp only [World.cell?, hb.block b hlt]
  cases h1 with
  | rowE _ _ _ _ a c =>
    refine (Tryd.bytes_Join_none a c v w).mono ?_
    rintro e w' ⟨rfl, rfl⟩
    exact fin0 _ _ rfl ⟨rfl, rfl, rfl, by simp, fun k hk => Below.heap_alloc _ _ _ hk⟩
  | row _ _ _ _ _ b off c vs hc hz hH hG =>
    have hcell : ∀ i, i < ls.length → w.cell? ⟨b, off + i, none⟩ = some (vs i 0) := fun i hi => by
      have := hs _ _ _ (hH i 0 hi (by omega))
      rwa [Nat.mul_one, Nat.add_zero] at this
    have hval : ∀ i, i < ls.length → G H noB noT (.row UInt8 1 byteC 0 (ls.getD i [])) (vs i 0) := fun i hi => hG i 0 hi (by omega)
    match ls, hd1, hd2, fin, fin0, hc, hcell, hval with
    | [], _, _, fin, fin0, _, _, _ =>
      refine (Tryd.bytes_Join_none _ c v w).mono ?_
      rintro e w' ⟨rfl, rfl⟩
      exact fin0 _ _ rfl ⟨rfl, rfl, rfl, by simp, fun k hk => Below.heap_alloc _ _ _ hk⟩
    | [l0], _, hd2, fin, fin0, hc, hcell, hval =>
      have hc0 := hcell 0 (by simp)
      have hv0 : G H noB noT (.row UInt8 1 byteC 0 l0) (vs 0 0) := hval 0 (by simp)
      obtain ⟨p, cap, hp, hpn, -, hpc⟩ := byte_cells hs hv0
      rw [hp, Nat.add_zero] at hc0
      by_cases he : l0 = []
      · subst he
        refine (Tryd.bytes_Join_one_empty b off c p cap v w hc0).mono ?_
        rintro e w' ⟨rfl, rfl⟩
        exact fin0 _ _ (by simp [Lib.join_one]) (.refl _ _)
      · obtain ⟨b1, o1, rfl, -, hcc⟩ := hpc he
        refine (Tryd.bytes_Join_one b off c ⟨b1, o1, none⟩ cap l0 v w hc0 (fun i x hx => by rw [add_none]; exact hcc i x hx) (by cases l0 with | nil => exact absurd rfl he | cons _ _ => simp) (by simp [Lib.lens] at hd2; omega)).mono ?_
        rintro e w' ⟨v', rfl, hf, hb⟩
        exact fin _ _ _ (Lib.join_one _ _) hf hb
    | l0 :: l1 :: r, hd1, hd2, fin, fin0, hc, hcell, hval =>
      refine (Tryd.bytes_Join_many b off (l0 :: l1 :: r).length c ((List.range (l0 :: l1 :: r).length).map fun i => vs i 0) (l0 :: l1 :: r) v sep w rfl (by simp) ⟨by simp, ?_, ?_⟩ hc hS (by omega) (by simpa using hd2)).mono ?_
      · intro i u hu
        have hi : i < (l0 :: l1 :: r).length := by
          have := (List.getElem?_eq_some_iff.1 hu).1
          simpa using this
        rw [add_none, hcell i hi, ← hu]
        simp only [List.getElem?_map, List.getElem?_range hi, Option.map_some]
      · intro i u l hu hl
        have hi := (List.getElem?_eq_some_iff.1 hl).1
        simp only [List.getElem?_map, List.getElem?_range hi, Option.map_some, Option.some.injEq] at hu
        have := hval i hi
        rw [List.getD, hl, hu] at this
        exact byte_holds hs this
      · rintro e w' ⟨v', rfl, hf, hb⟩
        exact fin _ _ _ rfl hf hb
end Go.Proofs.YtimhbimpaiiceaaDoor.Ax
