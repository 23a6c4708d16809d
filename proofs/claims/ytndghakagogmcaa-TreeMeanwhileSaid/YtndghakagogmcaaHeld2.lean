/-
  Held2: one cell, known.
-/
import Derived.Test.YtndghakagogmcaaHeld
namespace Go.Proofs.Ytndghakagogmcaa
open Go.RowKit
namespace Mem
theorem pt_drew {W : World} {p : Addr} {u : Value} (h : W.cell? p = some u) : W.drew.cell? p = some u := h
theorem pt_far {W : World} {b i c j : Nat} {u v : Value} (h : W.cell? ⟨b, i, none⟩ = some u) (hj : b ≠ c ∨ i ≠ j) : (W.setCell ⟨c, j, none⟩ v).cell? ⟨b, i, none⟩ = some u :=
  (World.cell?_setCell_other _ _ _ _ (by intro e; simp only [Addr.mk.injEq] at e; rcases hj with hj | hj; exact hj e.1.symm; exact hj e.2.1.symm)).trans h
end Mem
end Go.Proofs.Ytndghakagogmcaa
