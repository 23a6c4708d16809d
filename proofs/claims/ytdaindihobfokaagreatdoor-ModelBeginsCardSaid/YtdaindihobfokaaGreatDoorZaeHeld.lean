/-
Held: some cells of a block, known: they stay known behind a draw, and behind a store elsewhere. Frames of some sizes.
-/
import Derived.Test.YtdaindihobfokaaGreatDoorZaaMbPMem
import Derived.Deep.RegionHeld3
import Derived.Deep.RegionLaw
namespace Go.Proofs.YtdaindihobfokaaGreatDoor
open Go.RowKit
set_option linter.unusedVariables false
namespace Mem
theorem cells_set {b : Nat} {cs : List Value} (I : Nat → Prop) {W : World} {c j : Nat} {v : Value} (h : ∀ i, I i → W.cell? ⟨b, i, none⟩ = cs[i]?) (hj : b ≠ c ∨ ¬ I j) : ∀ i, I i → (W.setCell ⟨c, j, none⟩ v).cell? ⟨b, i, none⟩ = cs[i]? := fun i hi =>
  (World.cell?_setCell_other _ _ _ _ (by intro e; simp only [Addr.mk.injEq] at e; rcases hj with hj | hj; exact hj e.1.symm; exact hj (e.2.1 ▸ hi))).trans (h i hi)
theorem cells_drew {b : Nat} {cs : List Value} (I : Nat → Prop) {W : World} (h : ∀ i, I i → W.cell? ⟨b, i, none⟩ = cs[i]?) : ∀ i, I i → W.drew.cell? ⟨b, i, none⟩ = cs[i]? := h
theorem cells_blk {b : Nat} {t : TypeId} {cs : List Value} (I : Nat → Prop) {W : World} (h : Blk W b t cs) : ∀ i, I i → W.cell? ⟨b, i, none⟩ = cs[i]? := fun i _ => h.cell i
theorem all_drew {b : Nat} {cs : List Value} {W : World} (h : ∀ i : Nat, W.cell? ⟨b, i, none⟩ = cs[i]?) : ∀ i : Nat, W.drew.cell? ⟨b, i, none⟩ = cs[i]? := h
theorem all_far {b : Nat} {cs : List Value} {W : World} {c j : Nat} {v : Value} (h : ∀ i : Nat, W.cell? ⟨b, i, none⟩ = cs[i]?) (hb : b ≠ c) : ∀ i : Nat, (W.setCell ⟨c, j, none⟩ v).cell? ⟨b, i, none⟩ = cs[i]? := fun i =>
  (World.cell?_setCell_other _ _ _ _ (by intro e; simp only [Addr.mk.injEq] at e; exact hb e.1.symm)).trans (h i)
end Mem
end Go.Proofs.YtdaindihobfokaaGreatDoor
