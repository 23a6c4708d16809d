/-
  TreeNil: the walk of the law.
-/
import Derived.Test.YtndghakagogmcaaTreeG
namespace Go.Proofs.Ytndghakagogmcaa
open Go.RowKit
set_option linter.unusedVariables false
attribute [local go_sem] Oper.semAt_some
namespace Tree
open Mem
set_option maxRecDepth 100000 in
theorem nil_any (kind idn px py qx qy nn x0 y0 x1 y1 : Int) (w : World) :
    Calls Try.prog 11 #[.agg #[.int .i64 kind, .int .u32 idn, .int .i32 x0, .int .i32 y0, .int .i32 x1, .int .i32 y1, .int .i32 px, .int .i32 py, .int .i32 qx, .int .i32 qy, .int .i64 nn]] w
      fun e w' => e = .returned (.bool true) ∧ Below w.heap.size w w' := by
  have hSB : Blk (w.alloc (.cells #[.int .i64 kind, .int .u32 idn, .int .i32 x0, .int .i32 y0, .int .i32 x1, .int .i32 y1, .int .i32 px, .int .i32 py, .int .i32 qx, .int .i32 qy, .int .i64 nn] 75)) w.heap.size 75 [.int .i64 kind, .int .u32 idn, .int .i32 x0, .int .i32 y0, .int .i32 x1, .int .i32 y1, .int .i32 px, .int .i32 py, .int .i32 qx, .int .i32 qy, .int .i64 nn] :=
    Blk.new w 75 [.int .i64 kind, .int .u32 idn, .int .i32 x0, .int .i32 y0, .int .i32 x1, .int .i32 y1, .int .i32 px, .int .i32 py, .int .i32 qx, .int .i32 qy, .int .i64 nn]
  have hk0 : Keeps (fun _ => False) w (w.alloc (.cells #[.int .i64 kind, .int .u32 idn, .int .i32 x0, .int .i32 y0, .int .i32 x1, .int .i32 y1, .int .i32 px, .int .i32 py, .int .i32 qx, .int .i32 qy, .int .i64 nn] 75)) := (Keeps.refl _ w).alloc _
  go_enter Try.func11, Try.ntmps11
  go_wp2_with fail
  refine (nothing_any none kind idn px py qx qy nn ⟨x0, y0, x1, y1⟩ _ (.inl rfl)).mono ?_
  rintro e w1 ⟨rfl, hk1⟩
  have hS1 := hSB.kd hk1
  have hS2 : Blk (w1.alloc (.cells #[.pointer none, .map none] 80)) w.heap.size 75 [.int .i64 kind, .int .u32 idn, .int .i32 x0, .int .i32 y0, .int .i32 x1, .int .i32 y1, .int .i32 px, .int .i32 py, .int .i32 qx, .int .i32 qy, .int .i64 nn] := hS1.alloc _
  have f2 := hS2.frozen
  have c2 := hS2.cell
  have hT : Blk (w1.alloc (.cells #[.pointer none, .map none] 80)) w1.heap.size 80 [.pointer none, .map none] := Blk.new w1 80 [.pointer none, .map none]
  go_wp2_with fail
  refine (nothing_any (some ⟨w1.heap.size, 0, none⟩) kind idn px py qx qy nn ⟨x0, y0, x1, y1⟩ _ (.inr ⟨_, rfl, ?_⟩)).mono ?_
  · exact hT
  rintro e w2 ⟨rfl, hk2⟩
  go_wp2
  go_ret
  exact ⟨rfl, (((hk0.trans hk1).alloc _).trans hk2).below (Nat.le_refl _) (fun _ _ h => h)⟩
end Tree
end Go.Proofs.Ytndghakagogmcaa
