/-
  Bounds of two points; Meet.
-/
import Derived.Test.YtndghakagogmcaaTreeC
namespace Go.Proofs.Ytndghakagogmcaa
open Go.RowKit
set_option linter.unusedVariables false
namespace Tree
open Mem
set_option maxRecDepth 100000 in
theorem bounds2 (g : Nat) (px py qx qy : Int) (w : World) (hG : Blk w g 35 [.int .i32 px, .int .i32 py, .int .i32 qx, .int .i32 qy]) :
    Calls Try.prog 53 #[.slice (some ⟨g, 0, none⟩) 2 2] w
      (Gave (.tuple #[.agg #[.int .i32 (min px qx), .int .i32 (min py qy), .int .i32 (max px qx), .int .i32 (max py qy)], .bool true]) w) := by
  have cG := hG.cell
  have hlt := hG.lt
  go_enter Try.func53, Try.ntmps53
  go_wp2
  go_region
  go_wp2
  refine wp_loop_rounds 2 ?_
  rw [rounds_succ]
  go_wp2_with fail
  have hR : Blk (((w.alloc (.cells #[.int .i32 0, .int .i32 0, .int .i32 0, .int .i32 0] 47)).alloc (.cells #[.int .i32 px, .int .i32 py, .int .i32 px, .int .i32 py] 47)).alloc (.cells #[.int .i32 qx, .int .i32 qy] 35)) w.heap.size 47 [.int .i32 0, .int .i32 0, .int .i32 0, .int .i32 0] := ((Blk.new w 47 [.int .i32 0, .int .i32 0, .int .i32 0, .int .i32 0]).alloc _).alloc _
  have hB : Blk (((w.alloc (.cells #[.int .i32 0, .int .i32 0, .int .i32 0, .int .i32 0] 47)).alloc (.cells #[.int .i32 px, .int .i32 py, .int .i32 px, .int .i32 py] 47)).alloc (.cells #[.int .i32 qx, .int .i32 qy] 35)) (w.heap.size + 1) 47 [.int .i32 px, .int .i32 py, .int .i32 px, .int .i32 py] := by
    have := (Blk.new (w.alloc (.cells #[.int .i32 0, .int .i32 0, .int .i32 0, .int .i32 0] 47)) 47 [.int .i32 px, .int .i32 py, .int .i32 px, .int .i32 py]).alloc (.cells #[.int .i32 qx, .int .i32 qy] 35)
    simpa using this
  have hG1 : Blk (((w.alloc (.cells #[.int .i32 0, .int .i32 0, .int .i32 0, .int .i32 0] 47)).alloc (.cells #[.int .i32 px, .int .i32 py, .int .i32 px, .int .i32 py] 47)).alloc (.cells #[.int .i32 qx, .int .i32 qy] 35)) g 35 [.int .i32 px, .int .i32 py, .int .i32 qx, .int .i32 qy] := ((hG.alloc _).alloc _).alloc _
  have hK : Keeps (fun _ => False) w (((w.alloc (.cells #[.int .i32 0, .int .i32 0, .int .i32 0, .int .i32 0] 47)).alloc (.cells #[.int .i32 px, .int .i32 py, .int .i32 px, .int .i32 py] 47)).alloc (.cells #[.int .i32 qx, .int .i32 qy] 35)) := (((Keeps.refl _ w).alloc _).alloc _).alloc _
  generalize (((w.alloc (.cells #[.int .i32 0, .int .i32 0, .int .i32 0, .int .i32 0] 47)).alloc (.cells #[.int .i32 px, .int .i32 py, .int .i32 px, .int .i32 py] 47)).alloc (.cells #[.int .i32 qx, .int .i32 qy] 35)) = w1 at *
  clear cG
  refine (show Calls _ _ _ _ (Gave (.agg #[.int .i32 (min px qx), .int .i32 (min py qy), .int .i32 (max px qx), .int .i32 (max py qy)]) _) from join_any ⟨px, py, px, py⟩ ⟨qx, qy, qx, qy⟩ _ (by simp) (by simp) (by simp) (by simp)).mono ?_
  rintro e w2 ⟨rfl, hk⟩
  have hR := hR.kd hk
  have hB := hB.kd hk
  have hK := hK.td hk
  have cB := hB.cell
  have fB := hB.frozen
  have cR := hR.cell
  have fR := hR.frozen
  go_wp2
  rw [rounds_succ]
  go_wp2
  have hRf := ((((((((hR.far (p := ⟨w.heap.size + 1, 0, none⟩) (by simp) (.int .i32 (min px qx))).far (p := ⟨w.heap.size + 1, 1, none⟩) (by simp) (.int .i32 (min py qy))).far (p := ⟨w.heap.size + 1, 2, none⟩) (by simp) (.int .i32 (max px qx))).far (p := ⟨w.heap.size + 1, 3, none⟩) (by simp) (.int .i32 (max py qy))).set_ 0 (.int .i32 (min px qx))).set_ 1 (.int .i32 (min py qy))).set_ 2 (.int .i32 (max px qx))).set_ 3 (.int .i32 (max py qy)))
  exact bodyPost_ret (results_row_tmp rfl _ _ w.heap.size _ _ _ _ rfl hRf Try.underlying47 rfl (by kernel_rfl)) rfl ⟨rfl, ((((((((hK.setCell (p := ⟨w.heap.size + 1, 0, none⟩) (by simp) (.int .i32 (min px qx))).setCell (p := ⟨w.heap.size + 1, 1, none⟩) (by simp) (.int .i32 (min py qy))).setCell (p := ⟨w.heap.size + 1, 2, none⟩) (by simp) (.int .i32 (max px qx))).setCell (p := ⟨w.heap.size + 1, 3, none⟩) (by simp) (.int .i32 (max py qy))).setCell (p := ⟨w.heap.size, 0, none⟩) (by simp) (.int .i32 (min px qx))).setCell (p := ⟨w.heap.size, 1, none⟩) (by simp) (.int .i32 (min py qy))).setCell (p := ⟨w.heap.size, 2, none⟩) (by simp) (.int .i32 (max px qx))).setCell (p := ⟨w.heap.size, 3, none⟩) (by simp) (.int .i32 (max py qy)))⟩
end Tree
end Go.Proofs.Ytndghakagogmcaa
