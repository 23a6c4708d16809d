/-
  RlH: lives, but for the printing.
-/
import Derived.Test.YtdhelpbhbhihaaaGreatDoorRlG
namespace Go.Proofs.YtdhelpbhbhihaaaGreatDoor
open Go.RowKit Go.Shelf
set_option linter.unusedVariables false
set_option linter.unusedSimpArgs false
attribute [local go_sem] Oper.semAt_some
namespace Rl
open Mem
/-- what 'lives' wants of the printer -/
def Prints : Prop := ∀ w : World, Tabs w → Vars w → Calls Tryz.prog 34 #[.float .f64 13832806255468478464] w fun e w' => e = .returned (.string ⟨#[45, 49, 46, 53]⟩) ∧ Below w.heap.size w w'
theorem cmp12 : cmp 4607182418800017408 4611686018427387904 = -1 := by kernel_rfl
set_option maxHeartbeats 1000000 in
set_option maxRecDepth 20000 in
theorem lives_of (hP : Prints) (w : World) (h : VarsIn w) (ht : Tabs w) : Calls Tryz.prog 7 #[] w fun e w' => e = .returned (.bool true) ∧ Below w.heap.size w w' := by
  have c1 := near_25 w
  have c2 := parse_at w h
  have c3 := fun W (hB : Below w.heap.size w W) => hP W (ht.below hB) (h.below hB).toVars
  have c4 := fun W => cmp_t 4607182418800017408 4611686018427387904 W
  rw [cmp12] at c4
  have o1 : FloatKind.f64.format.order 13832806255468478464 13832806255468478464 = some .eq := by kernel_rfl
  clear h ht hP
  generalize hr1 : (4607182418800017408 : Nat) = r1 at c4
  generalize hr2 : (4611686018427387904 : Nat) = r2 at c4
  generalize hr3 : (13832806255468478464 : Nat) = r3 at c2 c3 o1
  go_enter Tryz.func7, Tryz.ntmps7
  rw [hr1, hr2, hr3]
  go_wp2_with (first
    | (go_at_call 10; with_reducible refine c1.mono ?_; rintro e w' ⟨rfl, rfl⟩)
    | (go_at_call 33; with_reducible refine c2.mono ?_; rintro e w' ⟨rfl, hB⟩)
    | (go_at_call 34; with_reducible refine (c3 _ hB).mono ?_; rintro e w' ⟨rfl, hB2⟩)
    | (go_at_call 35; with_reducible refine (c4 _).mono ?_; rintro e w' ⟨rfl, rfl⟩))
  go_ret
  exact ⟨rfl, hB.trans (hB2.mono hB.size)⟩
/-- what the printer wants of the library's inner function -/
def Formats : Prop := ∀ w : World, Tabs w → Vars w → Calls Tryz.prog 83 #[.float .f64 13832806255468478464, .int .u8 103, .int .i64 (-1), .int .i64 64] w fun e w' => e = .returned (.string ⟨#[45, 49, 46, 53]⟩) ∧ Below w.heap.size w w'
theorem sformat_of (hF : Formats) (w : World) (ht : Tabs w) (hv : Vars w) : Calls Tryz.prog 59 #[.float .f64 13832806255468478464, .int .u8 103, .int .i64 (-1), .int .i64 64] w fun e w' => e = .returned (.string ⟨#[45, 49, 46, 53]⟩) ∧ Below w.heap.size w w' := by
  have c1 := hF w ht hv
  clear hF ht hv
  generalize 13832806255468478464 = r at *
  go_enter Tryz.func59, Tryz.ntmps59
  go_wp2_with (go_at_call 83; with_reducible refine c1.mono ?_; rintro e w' ⟨rfl, hB⟩)
  go_ret
  exact ⟨rfl, hB⟩
set_option maxRecDepth 20000 in
theorem prints_of (hF : Formats) : Prints := by
  intro w ht hv
  have c1 := sformat_of hF w ht hv
  have c2 := inf_up w
  have c3 := inf_down w
  have o1 : FloatKind.f64.format.order 13832806255468478464 13832806255468478464 = some .eq := by kernel_rfl
  clear hF ht hv
  generalize 13832806255468478464 = r at *
  go_enter Tryz.func34, Tryz.ntmps34
  go_wp2_with (first
    | (go_at_call 58; with_reducible refine c2.mono ?_; rintro e w' ⟨rfl, rfl⟩)
    | (go_at_call 58; with_reducible refine c3.mono ?_; rintro e w' ⟨rfl, rfl⟩)
    | (go_at_call 59; with_reducible refine c1.mono ?_; rintro e w' ⟨rfl, hB⟩))
  go_ret
  exact ⟨rfl, hB⟩
end Rl
end Go.Proofs.YtdhelpbhbhihaaaGreatDoor
