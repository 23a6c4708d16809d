/-
  Told0: what is kept of lists that were told; a row of small laws.
-/
import Derived.Test.YtndghakagogmcaaAnyA
namespace Go.Proofs.Ytndghakagogmcaa
open Go.RowKit Go.Shelf
set_option linter.unusedVariables false
set_option linter.unusedSimpArgs false
namespace Tree
open Mem BT
def Said (w : World) (e : Ending) (w' : World) : Prop := e = .returned (.bool true) ∧ Below w.heap.size w w'
theorem U32s.kd {w w' : World} {v : Value} {xs : List Nat} (h : U32s w v xs) (hk : Keeps (fun _ => False) w w') : U32s w' v xs := by
  obtain ⟨a, c, rfl, h⟩ := h
  refine ⟨a, c, rfl, fun i x hx => ?_⟩
  obtain ⟨b, off, rfl, hc⟩ := h i x hx
  exact ⟨b, off, rfl, hk.cell (p := ⟨b, off + i, none⟩) hc (fun h => h)⟩
def Kept (w : World) (l : List (Value × List Nat)) : Prop := ∀ p ∈ l, U32s w p.1 p.2
theorem Kept.nil (w : World) : Kept w [] := fun p hp => by simp at hp
theorem Kept.kd {w w' : World} {l : List (Value × List Nat)} (h : Kept w l) (hk : Keeps (fun _ => False) w w') : Kept w' l := fun p hp => (h p hp).kd hk
theorem Kept.add {w : World} {l : List (Value × List Nat)} (h : Kept w l) {v : Value} {xs : List Nat} (hv : U32s w v xs) : Kept w ((v, xs) :: l) := fun p hp => by
  rcases List.mem_cons.1 hp with rfl | hp
  · exact hv
  · exact h p hp
theorem range_len (L : List (Nat × Bx)) (c : Bx) : (rangeL L c).length ≤ L.length := by
  unfold rangeL
  rw [List.length_map]
  exact List.length_filter_le _ _
end Tree
end Go.Proofs.Ytndghakagogmcaa
