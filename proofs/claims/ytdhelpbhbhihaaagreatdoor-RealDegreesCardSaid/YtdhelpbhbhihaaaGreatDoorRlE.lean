/-
  RlE: numbers that the printer of floats comes to at -1.5.
-/
import Derived.Test.YtdhelpbhbhihaaaGreatDoorRlD
namespace Go.Proofs.YtdhelpbhbhihaaaGreatDoor
open Go.RowKit Go.Shelf
set_option linter.unusedVariables false
set_option linter.unusedSimpArgs false
attribute [local go_sem] Oper.semAt_some
namespace Rl
open Mem
set_option maxRecDepth 20000 in
theorem len_a (w : World) : Calls Tryz.prog 121 #[.int .u64 6755399441055744] w fun e w' => e = .returned (.int .i64 53) ∧ w = w' := by
  go_enter Tryz.func121, Tryz.ntmps121
  go_wp2
  go_ret
  exact ⟨by kernel_rfl, rfl⟩
set_option maxRecDepth 20000 in
theorem len_b (w : World) : Calls Tryz.prog 121 #[.int .u64 1500000000000000] w fun e w' => e = .returned (.int .i64 51) ∧ w = w' := by
  go_enter Tryz.func121, Tryz.ntmps121
  go_wp2
  go_ret
  exact ⟨by kernel_rfl, rfl⟩
theorem l10_a (w : World) : Calls Tryz.prog 120 #[.int .i64 (-52)] w fun e w' => e = .returned (.int .i64 (-16)) ∧ w = w' := by
  go_enter Tryz.func120, Tryz.ntmps120
  go_wp2
  go_ret
  exact ⟨rfl, rfl⟩
theorem l10_b (w : World) : Calls Tryz.prog 120 #[.int .i64 51] w fun e w' => e = .returned (.int .i64 15) ∧ w = w' := by
  go_enter Tryz.func120, Tryz.ntmps120
  go_wp2
  go_ret
  exact ⟨rfl, rfl⟩
theorem l2_a (w : World) : Calls Tryz.prog 166 #[.int .i64 16] w fun e w' => e = .returned (.int .i64 53) ∧ w = w' := by
  go_enter Tryz.func166, Tryz.ntmps166
  go_wp2
  go_ret
  exact ⟨rfl, rfl⟩
set_option maxRecDepth 20000 in
theorem mul_a (w : World) : Calls Tryz.prog 96 #[.int .u64 13835058055282162688, .int .u64 10240000000000000000] w fun e w' => e = .returned (.tuple #[.int .u64 7679999999999999431, .int .u64 10437377940734869504]) ∧ w = w' := by
  go_enter Tryz.func96, Tryz.ntmps96
  go_wp2
  exact bodyPost_ret (results_tmp2 rfl _ _ _) rfl ⟨by kernel_rfl, rfl⟩
set_option maxRecDepth 20000 in
theorem mul_b (w : World) : Calls Tryz.prog 96 #[.int .u64 13835058055282164736, .int .u64 10240000000000000000] w fun e w' => e = .returned (.tuple #[.int .u64 7680000000000000568, .int .u64 8009366132974682112]) ∧ w = w' := by
  go_enter Tryz.func96, Tryz.ntmps96
  go_wp2
  exact bodyPost_ret (results_tmp2 rfl _ _ _) rfl ⟨by kernel_rfl, rfl⟩
set_option maxRecDepth 20000 in
theorem us_a (b : Nat) (w : World) (h0 : w.cell? ⟨b, 0, none⟩ = some (.int .u64 10240000000000000000)) (h2 : w.cell? ⟨b, 2, none⟩ = some (.int .i64 7)) : Calls Tryz.prog 167 #[.int .u64 13835058055282162688, .pointer (some ⟨b, 0, none⟩)] w fun e w' => e = .returned (.int .u64 59999999999999995) ∧ w = w' := by
  have q1 : bits BinOp.and IntKind.i64 7 63 = 7 := by decide
  have q2 : bits BinOp.or IntKind.u64 59999999999999995 1 = 59999999999999995 := by decide
  go_enter Tryz.func167, Tryz.ntmps167
  go_wp2_with (go_at_call 96; with_reducible refine (mul_a _).mono ?_; rintro e w' ⟨rfl, rfl⟩)
  go_ret
  exact ⟨rfl, rfl⟩
set_option maxRecDepth 20000 in
theorem us_b (b : Nat) (w : World) (h0 : w.cell? ⟨b, 0, none⟩ = some (.int .u64 10240000000000000000)) (h2 : w.cell? ⟨b, 2, none⟩ = some (.int .i64 7)) : Calls Tryz.prog 167 #[.int .u64 13835058055282164736, .pointer (some ⟨b, 0, none⟩)] w fun e w' => e = .returned (.int .u64 60000000000000005) ∧ w = w' := by
  have q1 : bits BinOp.and IntKind.i64 7 63 = 7 := by decide
  have q2 : bits BinOp.or IntKind.u64 60000000000000004 1 = 60000000000000005 := by decide
  go_enter Tryz.func167, Tryz.ntmps167
  go_wp2_with (go_at_call 96; with_reducible refine (mul_b _).mono ?_; rintro e w' ⟨rfl, rfl⟩)
  go_ret
  exact ⟨rfl, rfl⟩
theorem nudge_a (w : World) : Calls Tryz.prog 168 #[.int .u64 59999999999999995, .int .i64 0] w fun e w' => e = .returned (.int .u64 59999999999999995) ∧ w = w' := by
  go_enter Tryz.func168, Tryz.ntmps168
  go_wp2
  go_ret
  exact ⟨rfl, rfl⟩
theorem nudge_b (w : World) : Calls Tryz.prog 168 #[.int .u64 60000000000000005, .int .i64 0] w fun e w' => e = .returned (.int .u64 60000000000000005) ∧ w = w' := by
  go_enter Tryz.func168, Tryz.ntmps168
  go_wp2
  go_ret
  exact ⟨rfl, rfl⟩
theorem ceil_a (w : World) : Calls Tryz.prog 169 #[.int .u64 59999999999999995] w fun e w' => e = .returned (.int .u64 14999999999999999) ∧ w = w' := by
  go_enter Tryz.func169, Tryz.ntmps169
  go_wp2
  go_ret
  exact ⟨rfl, rfl⟩
theorem floor_b (w : World) : Calls Tryz.prog 170 #[.int .u64 60000000000000005] w fun e w' => e = .returned (.int .u64 15000000000000001) ∧ w = w' := by
  go_enter Tryz.func170, Tryz.ntmps170
  go_wp2
  go_ret
  exact ⟨rfl, rfl⟩
theorem bool2i (w : World) : Calls Tryz.prog 122 #[.bool true] w fun e w' => e = .returned (.int .i64 1) ∧ w = w' := by
  go_enter Tryz.func122, Tryz.ntmps122
  go_wp2
  go_ret
  exact ⟨rfl, rfl⟩
end Rl
end Go.Proofs.YtdhelpbhbhihaaaGreatDoor
