/-
  Flat2: a slice that came in, of a type whose leaves are all whole numbers, opened to its rows; boxes and steps among them.
-/
import Derived.Test.YtndghakagogmcaaFlat
import Derived.Test.YtndghakagogmcaaAnyA
namespace Go.Proofs.Ytndghakagogmcaa
open Go.ChangeShapes Go.WideShapes Go.ChangeAt Go.RowKit
set_option linter.unusedVariables false
namespace Flat
variable {H : Type} {enc : TypeId × Value → H} {P : Program} {w : World} {base : Nat} {spare : Nat → Bool} {held : Bool}
theorem flat_slice {n : Nat} {t e : TypeId} {ks : List IntKind} {fuel : Nat} {cs : List Value} {x : DataW H × List MemPlace} (ht : P.underlying t = some (.slice e)) (he : flat P n e = some ks) (hm : P.cellsOf e = ks.length) (h0 : 0 < ks.length) (h : DataW.trod enc P w base spare held fuel t cs = some x) :
    ∃ (a : Option Addr) (rows : List (List Value)) (cap : Nat), cs = [.slice a rows.length cap] ∧ rows.length ≤ maxLen ∧ (∀ r ∈ rows, Ints ks r) ∧ ∀ i r, rows[i]? = some r → ∃ b off, a = some ⟨b, off, none⟩ ∧ b < w.heap.size ∧ ∀ j u, r[j]? = some u → w.cell? ⟨b, off + i * ks.length + j, none⟩ = some u := by
  rcases DataW.trod_slice ht h with ⟨rfl, _⟩ | ⟨a, len, cap, elems, rest, m, _, rfl, rfl, hb, hl, hmx, hlen, hel, hsp, hns⟩
  · exact ⟨none, [], 0, rfl, Nat.zero_le _, by simp, by simp⟩
  have each : ∀ i, i < len → ∃ r, w.cells? base (a.add (i * ks.length)) ks.length = some r ∧ Ints ks r := fun i hi => by
    have h1 := hel i hi
    rw [List.getElem?_eq_getElem (by omega), Option.bind_eq_some_iff] at h1
    obtain ⟨r, hr, hx⟩ := h1
    rw [hm] at hr
    exact ⟨r, hr, flat_open n e ks m r _ he hx⟩
  refine ⟨some a, (List.range len).map fun i => (w.cells? base (a.add (i * ks.length)) ks.length).getD [], cap, by simp, by simp; omega, ?_, ?_⟩
  · intro r hr
    obtain ⟨i, hi, rfl⟩ := List.mem_map.1 hr
    obtain ⟨r, hr, hI⟩ := each i (List.mem_range.1 hi)
    rw [hr]; exact hI
  · intro i r hr
    have hi : i < len := by
      have := (List.getElem?_eq_some_iff.1 hr).1
      simpa using this
    obtain ⟨r', hr', hI⟩ := each i hi
    simp only [List.getElem?_map, List.getElem?_range hi, Option.map_some, hr', Option.getD_some, Option.some.injEq] at hr
    subst hr
    obtain ⟨hb', hl', hc⟩ := World.cells?_some hr'
    have hc0 := hc 0 h0
    have hlt : 0 < r'.length := by omega
    rw [List.getElem?_eq_getElem hlt] at hc0
    obtain ⟨b, off, spot⟩ := a
    have hspot : spot = none := by
      obtain ⟨r0, hr0, _⟩ := each 0 (by omega)
      obtain ⟨_, hl0, hz⟩ := World.cells?_some hr0
      have hz0 := hz 0 h0
      rw [List.getElem?_eq_getElem (by omega)] at hz0
      have := World.cell?_spot hz0
      simpa [Addr.add] using this
    subst hspot
    refine ⟨b, off, rfl, ?_, fun j u hj => ?_⟩
    · rw [add_plain, add_plain] at hc0
      unfold World.cell? at hc0
      split at hc0
      · rename_i hh; exact (Array.getElem?_eq_some_iff.1 hh).1
      · cases hc0
    · have hjl : j < ks.length := by have := (List.getElem?_eq_some_iff.1 hj).1; omega
      have := hc j hjl
      rw [add_plain, add_plain] at this
      rw [this, hj]
end Flat
namespace Tree
open Mem
def toBx : List Value → Nat × Bx
  | [.int _ n, .int _ a, .int _ b, .int _ c, .int _ d] => (n.toNat, ⟨a, b, c, d⟩)
  | _ => (0, ⟨0, 0, 0, 0⟩)
theorem i32_wf {a : Int} (h : (Lit.int .i32 a).wf = true) : -2147483648 ≤ a ∧ a ≤ 2147483647 := by
  have h1 : IntKind.i32.min = -2147483648 := rfl
  have h2 : IntKind.i32.max = 2147483647 := rfl
  simp [Lit.wf] at h
  omega
theorem u32_wf {a : Int} (h : (Lit.int .u32 a).wf = true) : 0 ≤ a ∧ a ≤ 4294967295 := by
  have h1 : IntKind.u32.min = 0 := rfl
  have h2 : IntKind.u32.max = 4294967295 := rfl
  simp [Lit.wf] at h
  omega
theorem i64_wf {a : Int} (h : (Lit.int .i64 a).wf = true) : -9223372036854775808 ≤ a ∧ a ≤ 9223372036854775807 := by
  have h1 : IntKind.i64.min = -9223372036854775808 := rfl
  have h2 : IntKind.i64.max = 9223372036854775807 := rfl
  simp [Lit.wf] at h
  omega
theorem toBx_cells {r : List Value} (h : Flat.Ints [.u32, .i32, .i32, .i32, .i32] r) : pairCells (toBx r) = r ∧ El32 (toBx r) := by
  obtain ⟨n, c1, rfl, w0, a, c2, rfl, w1, b, c3, rfl, w2, c, c4, rfl, w3, d, c5, rfl, w4, rfl⟩ := h
  have := u32_wf w0
  have := i32_wf w1
  have := i32_wf w2
  have := i32_wf w3
  have := i32_wf w4
  have hn : (n.toNat : Int) = n := Int.toNat_of_nonneg (by omega)
  refine ⟨by simp [toBx, pairCells, hn], ?_⟩
  simp only [toBx, El32]
  omega
theorem rows5_of {w : World} {a : Option Addr} {cap : Nat} {rows : List (List Value)} (hI : ∀ r ∈ rows, Flat.Ints [.u32, .i32, .i32, .i32, .i32] r)
    (h : ∀ i r, rows[i]? = some r → ∃ b off, a = some ⟨b, off, none⟩ ∧ b < w.heap.size ∧ ∀ j u, r[j]? = some u → w.cell? ⟨b, off + i * 5 + j, none⟩ = some u) : Rows5 w (.slice a rows.length cap) (rows.map toBx) := by
  refine ⟨a, cap, by simp, ?_, ?_⟩
  · intro p hp
    obtain ⟨r, hr, rfl⟩ := List.mem_map.1 hp
    exact (toBx_cells (hI r hr)).2
  · intro i p hp
    rw [List.getElem?_map, Option.map_eq_some_iff] at hp
    obtain ⟨r, hr, rfl⟩ := hp
    obtain ⟨b, off, ha, hb, hc⟩ := h i r hr
    refine ⟨b, off, ha, hb, fun j u hj => hc j u ?_⟩
    rw [(toBx_cells (hI r (List.mem_of_getElem? hr))).1] at hj
    exact hj
def toI : List Value → Int
  | [.int _ n] => n
  | _ => 0
theorem ints64_of {w : World} {a : Option Addr} {cap : Nat} {rows : List (List Value)} (hI : ∀ r ∈ rows, Flat.Ints [.i64] r)
    (h : ∀ i r, rows[i]? = some r → ∃ b off, a = some ⟨b, off, none⟩ ∧ b < w.heap.size ∧ ∀ j u, r[j]? = some u → w.cell? ⟨b, off + i * 1 + j, none⟩ = some u) : Ints64 w (.slice a rows.length cap) (rows.map toI) := by
  refine ⟨a, cap, by simp, ?_, ?_⟩
  · intro z hz
    obtain ⟨r, hr, rfl⟩ := List.mem_map.1 hz
    obtain ⟨n, c1, rfl, w0, rfl⟩ := hI r hr
    exact i64_wf w0
  · intro i z hz
    rw [List.getElem?_map, Option.map_eq_some_iff] at hz
    obtain ⟨r, hr, rfl⟩ := hz
    obtain ⟨b, off, ha, hb, hc⟩ := h i r hr
    obtain ⟨n, c1, rfl, w0, rfl⟩ := hI r (List.mem_of_getElem? hr)
    refine ⟨b, off, ha, hb, ?_⟩
    have := hc 0 (.int .i64 n) rfl
    simpa [toI] using this
end Tree
end Go.Proofs.Ytndghakagogmcaa
