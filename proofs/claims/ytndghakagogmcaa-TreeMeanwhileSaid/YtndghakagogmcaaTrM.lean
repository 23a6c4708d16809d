/-
  TrM: Meet.
-/
import Derived.Test.YtndghakagogmcaaTreeC
namespace Go.Proofs.Ytndghakagogmcaa
open Go.RowKit
set_option linter.unusedVariables false
set_option linter.unusedSimpArgs false
namespace Tree
open Mem
theorem right_ex (a : Bx) (w : World) :
    Calls Try.prog 42 #[.agg #[.int .i32 a.x0, .int .i32 a.y0, .int .i32 a.x1, .int .i32 a.y1]] w fun e w' => e = .returned (.bool a.right) ∧ w.alloc (.cells #[.int .i32 a.x0, .int .i32 a.y0, .int .i32 a.x1, .int .i32 a.y1] 47) = w' := by
  obtain ⟨x0, y0, x1, y1⟩ := a
  dsimp only
  by_cases h1 : x0 ≤ x1
  · go_enter Try.func42, Try.ntmps42
    go_wp2
    go_ret
    exact ⟨by simp [Bx.right, h1], rfl⟩
  · go_enter Try.func42, Try.ntmps42
    go_wp2
    go_ret
    exact ⟨by simp [Bx.right]; omega, rfl⟩
set_option maxHeartbeats 4000000 in
set_option maxRecDepth 100000 in
theorem meet_any (a b : Bx) (w : World) :
    Calls Try.prog 70 #[.agg #[.int .i32 a.x0, .int .i32 a.y0, .int .i32 a.x1, .int .i32 a.y1], .agg #[.int .i32 b.x0, .int .i32 b.y0, .int .i32 b.x1, .int .i32 b.y1]] w (Gave (.bool (a.meet b)) w) := by
  have HR := Lib.hid right_ex
  unfold Bx.meet
  generalize hra : a.right = ra at *
  generalize hrb : b.right = rb at *
  have ha := fun w => hra ▸ HR.out a w
  have hb := fun w => hrb ▸ HR.out b w
  have HA := Lib.hid ha
  have HB := Lib.hid hb
  obtain ⟨ax0, ay0, ax1, ay1⟩ := a
  obtain ⟨bx0, by0, bx1, by1⟩ := b
  dsimp only at HA HB ⊢
  clear hra hrb ha hb HR
  cases ra with
  | false =>
    go_enter Try.func70, Try.ntmps70
    go_wp2_with (first | (go_at_call 42; (with_reducible refine (HA.out _).mono ?_); rintro e w1 ⟨rfl, rfl⟩) | (go_at_call 42; (with_reducible refine (HB.out _).mono ?_); rintro e w1 ⟨rfl, rfl⟩))
    go_ret
    exact ⟨by simp, by repeat (first | exact Keeps.refl _ _ | apply Keeps.alloc)⟩
  | true =>
    cases rb with
    | false =>
      go_enter Try.func70, Try.ntmps70
      go_wp2_with (first | (go_at_call 42; (with_reducible refine (HA.out _).mono ?_); rintro e w1 ⟨rfl, rfl⟩) | (go_at_call 42; (with_reducible refine (HB.out _).mono ?_); rintro e w1 ⟨rfl, rfl⟩))
      go_ret
      exact ⟨by simp, by repeat (first | exact Keeps.refl _ _ | apply Keeps.alloc)⟩
    | true =>
      by_cases h1 : ax0 ≤ bx1
      · by_cases h2 : bx0 ≤ ax1
        · by_cases h3 : ay0 ≤ by1
          · go_enter Try.func70, Try.ntmps70
            go_wp2_with (first | (go_at_call 42; (with_reducible refine (HA.out _).mono ?_); rintro e w1 ⟨rfl, rfl⟩) | (go_at_call 42; (with_reducible refine (HB.out _).mono ?_); rintro e w1 ⟨rfl, rfl⟩))
            go_ret
            exact ⟨by simp [h1, h2, h3], by repeat (first | exact Keeps.refl _ _ | apply Keeps.alloc)⟩
          · go_enter Try.func70, Try.ntmps70
            go_wp2_with (first | (go_at_call 42; (with_reducible refine (HA.out _).mono ?_); rintro e w1 ⟨rfl, rfl⟩) | (go_at_call 42; (with_reducible refine (HB.out _).mono ?_); rintro e w1 ⟨rfl, rfl⟩))
            go_ret
            exact ⟨by simp [h1, h2, h3]; omega, by repeat (first | exact Keeps.refl _ _ | apply Keeps.alloc)⟩
        · go_enter Try.func70, Try.ntmps70
          go_wp2_with (first | (go_at_call 42; (with_reducible refine (HA.out _).mono ?_); rintro e w1 ⟨rfl, rfl⟩) | (go_at_call 42; (with_reducible refine (HB.out _).mono ?_); rintro e w1 ⟨rfl, rfl⟩))
          go_ret
          exact ⟨by simp [h1, h2]; omega, by repeat (first | exact Keeps.refl _ _ | apply Keeps.alloc)⟩
      · go_enter Try.func70, Try.ntmps70
        go_wp2_with (first | (go_at_call 42; (with_reducible refine (HA.out _).mono ?_); rintro e w1 ⟨rfl, rfl⟩) | (go_at_call 42; (with_reducible refine (HB.out _).mono ?_); rintro e w1 ⟨rfl, rfl⟩))
        go_ret
        exact ⟨by simp [h1]; omega, by repeat (first | exact Keeps.refl _ _ | apply Keeps.alloc)⟩
end Tree
end Go.Proofs.Ytndghakagogmcaa
