/-
  RlC: what the reader of numbers does at the text -1.5.
-/
import Derived.Test.YtdhelpbhbhihaaaGreatDoorRlB
import Derived.Handy
import Derived.Scope
namespace Go.Proofs.YtdhelpbhbhihaaaGreatDoor
open Go.RowKit Go.Shelf
set_option linter.unusedVariables false
set_option linter.unusedSimpArgs false
attribute [local go_sem] Oper.semAt_some
namespace Rl
open Mem
theorem results_tmp7 {fn : Func} {t1 t2 t3 t4 t5 t6 t7 : Tmp} (h : fn.results = #[.tmp t1, .tmp t2, .tmp t3, .tmp t4, .tmp t5, .tmp t6, .tmp t7]) (tmps : Array Value) (P : Program) (w : World) :
    (results fn tmps).run P w = .ok (.tuple #[tmps.getD t1 undef, tmps.getD t2 undef, tmps.getD t3 undef, tmps.getD t4 undef, tmps.getD t5 undef, tmps.getD t6 undef, tmps.getD t7 undef]) w := by
  simp [results, h]
set_option maxRecDepth 20000 in
theorem prefix_at (w : World) : Calls Tryz.prog 180 #[.string ⟨#[49, 46, 53]⟩, .string ⟨#[105, 110, 102, 105, 110, 105, 116, 121]⟩] w fun e w' => e = .returned (.int .i64 0) ∧ w = w' := by
  go_enter Tryz.func180, Tryz.ntmps180
  go_wp2
  go_rounds 2
  all_goals
    go_ret
    exact ⟨rfl, rfl⟩
set_option maxRecDepth 20000 in
theorem special_at (w : World) : Calls Tryz.prog 149 #[.string ⟨#[45, 49, 46, 53]⟩] w fun e w' => e = .returned (.tuple #[.float .f64 0, .int .i64 0, .bool false]) ∧ w = w' := by
  go_enter Tryz.func149, Tryz.ntmps149
  go_wp2_with (go_at_call 180; refine (prefix_at _).mono ?_; rintro e w' ⟨rfl, rfl⟩)
  go_ret3
  exact ⟨rfl, rfl⟩
set_option maxHeartbeats 4000000 in
set_option maxRecDepth 20000 in
theorem read_at (w : World) : Calls Tryz.prog 150 #[.string ⟨#[45, 49, 46, 53]⟩] w fun e w' => e = .returned (.tuple #[.int .u64 15, .int .i64 (-1), .bool true, .bool false, .bool false, .int .i64 4, .bool true]) ∧ w = w' := by
  go_enter Tryz.func150, Tryz.ntmps150
  go_wp2
  refine wp_scope_straight ?_
  go_wp2
  refine wp_label ?_
  go_wp2
  go_rounds 5
  all_goals
    try simp only [Exit.noGoto]
    exact bodyPost_ret (results_tmp7 rfl _ _ _) rfl ⟨rfl, rfl⟩
end Rl
end Go.Proofs.YtdhelpbhbhihaaaGreatDoor
