/-
  RlA: the order of two floats: the package's comparison and the document's.
-/
import Derived.Test.YtdhelpbhbhihaaaGreatDoorRlP
import Derived.Laws.Externs
namespace Go.Proofs.YtdhelpbhbhihaaaGreatDoor
open Go.RowKit
set_option linter.unusedVariables false
set_option linter.unusedSimpArgs false
attribute [local go_sem] Oper.semAt_some
namespace Rl
open Mem
theorem cmp_t (x y : Nat) (w : World) : Calls Tryz.prog 35 #[.float .f64 x, .float .f64 y] w fun e w' => e = .returned (.int .i64 (cmp x y)) ∧ w = w' := by
  have h := way x y
  generalize cmp x y = r at h ⊢
  cases h with
  | lt h1 h2 h3 =>
    go_enter Tryz.func35, Tryz.ntmps35
    go_wp2
    go_ret
    exact ⟨rfl, rfl⟩
  | gt h1 h2 h3 =>
    go_enter Tryz.func35, Tryz.ntmps35
    go_wp2
    go_ret
    exact ⟨rfl, rfl⟩
  | eq h1 h2 h3 =>
    go_enter Tryz.func35, Tryz.ntmps35
    go_wp2
    go_ret
    exact ⟨rfl, rfl⟩
  | nx h1 h2 h3 =>
    go_enter Tryz.func35, Tryz.ntmps35
    go_wp2
    go_ret
    exact ⟨rfl, rfl⟩
  | ny h1 h2 h3 =>
    go_enter Tryz.func35, Tryz.ntmps35
    go_wp2
    go_ret
    exact ⟨rfl, rfl⟩
  | nn h1 h2 h3 =>
    go_enter Tryz.func35, Tryz.ntmps35
    go_wp2
    go_ret
    exact ⟨rfl, rfl⟩
theorem ext_of (n : Int) (W : World) : (callFunc 36 #[.int .u64 n]).run Tryz.prog W = .ok (.value (.float .f64 n.toNat)) W := by
  rw [run_callFunc_extern Tryz.func36 (by kernel_rfl) (by kernel_rfl) (by kernel_rfl) (e := Extern.MathFloatBits.float64frombits) (by kernel_rfl)]
  rfl
theorem ext_bits (b : Nat) (W : World) : (callFunc 26 #[.float .f64 b]).run Tryz.prog W = .ok (.value (.int .u64 b)) W := by
  rw [run_callFunc_extern Tryz.func26 (by kernel_rfl) (by kernel_rfl) (by kernel_rfl) (e := Extern.MathFloatBits.float64bits) (by kernel_rfl)]
  rfl
theorem ext_even (W : World) : (callFunc 37 #[.float .f64 4612811918334230528]).run Tryz.prog W = .ok (.value (.float .f64 4611686018427387904)) W := by
  rw [run_callFunc_extern Tryz.func37 (by kernel_rfl) (by kernel_rfl) (by kernel_rfl) (e := Extern.MathFloor.toIntegral "math.RoundToEven" .even) (by kernel_rfl)]
  kernel_rfl
/-- the float that the law makes of a word: the word itself -/
theorem of_t (x : Nat) (w : World) : Calls Tryz.prog 9 #[.int .u64 x] w fun e w' => e = .returned (.float .f64 x) ∧ w = w' := by
  have hd := ext_of
  have hx : (x : Int).toNat = x := by omega
  go_enter Tryz.func9, Tryz.ntmps9
  go_wp2
  go_ret
  exact ⟨rfl, rfl⟩
theorem near_25 (w : World) : Calls Tryz.prog 10 #[.float .f64 4612811918334230528] w fun e w' => e = .returned (.tuple #[.int .i32 2, .int .i64 0]) ∧ w = w' := by
  have hd := ext_even
  have o1 : FloatKind.f64.format.order 4612811918334230528 4612811918334230528 = some .eq := by kernel_rfl
  have o2 : FloatKind.f64.format.order 4611686018427387904 13965662444467519488 = some .gt := by kernel_rfl
  have o3 : FloatKind.f64.format.order 4611686018427387904 4742290407612743680 = some .lt := by kernel_rfl
  have hc : ∀ W, (convert 25 21 (.float .f64 4611686018427387904)).run Tryz.prog W = .ok (.int .i32 2) W := by intro W; kernel_rfl
  generalize 4611686018427387904 = r1 at *
  generalize 4612811918334230528 = r0 at *
  go_enter Tryz.func10, Tryz.ntmps10
  go_wp2
  exact bodyPost_ret (results_tmp2 rfl _ _ _) rfl ⟨rfl, rfl⟩
end Rl
end Go.Proofs.YtdhelpbhbhihaaaGreatDoor
