/-
  FlW: a slice of whole numbers that comes in, opened.
-/
import Derived.Test.YtdhelpbhbhihaaaGreatDoorFlU
import Derived.ChangeSlices
import Derived.SizedLaws
import Derived.ProofKit
namespace Go.Proofs.YtdhelpbhbhihaaaGreatDoor
open Go.RowKit Go.ChangeShapes Go.WideShapes
set_option linter.unusedVariables false
namespace Fl
open Mem
theorem okWide_slice_ {P : Program} {w : World} {r : Reach} {base : Nat} {t e : TypeId} {v : Value} (ht : P.underlying t = some (.slice e)) (h : Value.okWide P w r base t v) : ∃ a n c, v = .slice a n c := okWide_slice ht h
/-- a slice of whole numbers: its cells, its length -/
theorem open_row_int {H : Type} {enc : TypeId × Value → H} {P : Program} {w : World} {t e : TypeId} {k : IntKind} {r : Reach} {b0 : Nat} {v : Value} {d : DataW H} {p : List MemPlace} (ht : P.underlying t = some (.slice e)) (he : P.underlying e = some (.int k)) (hc : P.cellsOf e = 1)
    (hval : Value.okWide P w r b0 t v) (h : DataW.Trod enc P w 0 (fun _ => true) true t v d p) :
    ∃ a n cap, ∃ zs : List Int, v = .slice a n cap ∧ n = zs.length ∧ (∀ (i : Nat) (z : Int), zs[i]? = some z → ∃ g o, a = some ⟨g, o, none⟩ ∧ w.cell? ⟨g, o + i, none⟩ = some (.int k z)) ∧ (∀ z ∈ zs, (Lit.int k z).wf = true) ∧
      (n = 0 ∨ ∃ es sp, d = .slice es sp ∧ es.length = n) := by
  obtain ⟨a0, n, cap, rfl⟩ := okWide_slice ht hval
  obtain ⟨fuel, hf⟩ := h
  rcases open_ints ht he hc hf with ⟨hcs, hx⟩ | ⟨a, len', cap', zs, hcs, _, hl, hm, hz, hx, hcell, hw⟩
  · simp [Value.cells] at hcs
    obtain ⟨rfl, rfl, rfl⟩ := hcs
    exact ⟨none, 0, 0, [], rfl, rfl, fun i z hi => by simp at hi, fun z hz => by simp at hz, .inl rfl⟩
  · simp [Value.cells] at hcs
    obtain ⟨rfl, rfl, rfl⟩ := hcs
    simp only [Prod.mk.injEq] at hx
    simp only [if_true] at hz
    refine ⟨some a, n, cap, zs.take n, rfl, by rw [List.length_take]; omega, ?_, fun z hz => hw z (List.mem_of_mem_take hz), .inr ⟨_, _, hx.1, by simp [lits]; omega⟩⟩
    intro i z hi
    have hin : i < n := by
      have := (List.getElem?_eq_some_iff.1 hi).1
      rw [List.length_take] at this
      omega
    obtain ⟨g, o, spot⟩ := a
    have hspot : spot = none := by simpa [Addr.add] using World.cell?_spot (hcell 0 (by omega))
    subst hspot
    refine ⟨g, o, rfl, ?_⟩
    have h1 := hcell i (by omega)
    rw [add_plain] at h1
    rw [h1]
    rw [List.getElem?_take, if_pos hin] at hi
    rw [List.getD, hi]
    rfl
/-- the same of words -/
theorem open_row_u64 {H : Type} {enc : TypeId × Value → H} {P : Program} {w : World} {t e : TypeId} {r : Reach} {b0 : Nat} {v : Value} {d : DataW H} {p : List MemPlace} (ht : P.underlying t = some (.slice e)) (he : P.underlying e = some (.int .u64)) (hc : P.cellsOf e = 1)
    (hval : Value.okWide P w r b0 t v) (h : DataW.Trod enc P w 0 (fun _ => true) true t v d p) :
    ∃ a n cap, ∃ xs : List Nat, v = .slice a n cap ∧ n = xs.length ∧ RowU w a xs ∧ (∀ (i x : Nat), xs[i]? = some x → x < 18446744073709551616) ∧ (n = 0 ∨ ∃ es sp, d = .slice es sp ∧ es.length = n) := by
  obtain ⟨a, n, cap, zs, rfl, hn, hcell, hw, hd⟩ := open_row_int ht he hc hval h
  have hb : ∀ z ∈ zs, 0 ≤ z ∧ z < 18446744073709551616 := fun z hz => by
    have := hw z hz
    simp [Lit.wf, IntKind.min, IntKind.max, IntKind.signed, IntKind.bits] at this
    omega
  refine ⟨a, n, cap, zs.map Int.toNat, rfl, by rw [List.length_map]; exact hn, ?_, ?_, hd⟩
  · intro i x hi
    rw [List.getElem?_map, Option.map_eq_some_iff] at hi
    obtain ⟨z, hz, rfl⟩ := hi
    obtain ⟨g, o, rfl, h1⟩ := hcell i z hz
    have := hb z (List.mem_of_getElem? hz)
    have e : ((z.toNat : Nat) : Int) = z := by omega
    exact ⟨g, o, rfl, by rw [h1, e]⟩
  · intro i x hi
    rw [List.getElem?_map, Option.map_eq_some_iff] at hi
    obtain ⟨z, hz, rfl⟩ := hi
    have := hb z (List.mem_of_getElem? hz)
    omega
end Fl
end Go.Proofs.YtdhelpbhbhihaaaGreatDoor
