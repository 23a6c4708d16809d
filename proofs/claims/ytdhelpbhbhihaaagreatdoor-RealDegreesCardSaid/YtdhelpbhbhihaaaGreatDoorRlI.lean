/-
  RlI: one byte more on a row of bytes.
-/
import Derived.Test.YtdhelpbhbhihaaaGreatDoorRlH
import Derived.Test.YtdhelpbhbhihaaaGreatDoorApp
namespace Go.Proofs.YtdhelpbhbhihaaaGreatDoor
open Go.RowKit Go.Shelf
set_option linter.unusedVariables false
set_option linter.unusedSimpArgs false
attribute [local go_sem] Oper.semAt_some
namespace Rl
open Mem
def bf : UInt8 → List Value := fun b => [encB b]
theorem bInfo : (Tryz.prog.info? 5).map (fun i => (i.zero, i.size, i.bytes)) = some (some (.int .u8 0), 1, 1) := by kernel_rfl
theorem elB : ElT Tryz.prog 74 5 bf 1 := by
  obtain ⟨i, hi, he⟩ := Option.map_eq_some_iff.1 bInfo
  simp only [Prod.mk.injEq] at he
  obtain ⟨h1, h2, h3⟩ := he
  exact ⟨Tryz.underlying74, ⟨i, _, hi, h1, h2, by omega, rfl⟩, by decide, fun _ => rfl, fun x u hu => by simp [bf] at hu; subst hu; rfl⟩
end Rl
end Go.Proofs.YtdhelpbhbhihaaaGreatDoor
