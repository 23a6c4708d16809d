/-
  Range, At, Crossing; what a tree that is none answers.
-/
import Derived.Test.YtndghakagogmcaaTreeE
namespace Go.Proofs.Ytndghakagogmcaa
open Go.RowKit
set_option linter.unusedVariables false
attribute [local go_sem] Oper.semAt_some
namespace Tree
open Mem
/-- the value of Range, At, Crossing -/
def SeqOf (w : World) (p : Option Addr) (b : Bx) (e : Ending) (w' : World) : Prop :=
  ∃ B1 B2, e = .returned (.func (.func 47) #[] #[.pointer (some ⟨B1, 0, none⟩), .pointer (some ⟨B2, 0, none⟩)]) ∧ Blk w' B1 48 [.pointer p] ∧
    Blk w' B2 47 [.int .i32 b.x0, .int .i32 b.y0, .int .i32 b.x1, .int .i32 b.y1] ∧ Keeps (fun _ => False) w w' ∧ w.heap.size ≤ B1 ∧ w.heap.size ≤ B2
theorem range_any (p : Option Addr) (x0 y0 x1 y1 : Int) (w : World) :
    Calls Try.prog 23 #[.pointer p, .agg #[.int .i32 x0, .int .i32 y0, .int .i32 x1, .int .i32 y1]] w (SeqOf w p ⟨x0, y0, x1, y1⟩) := by
  go_enter Try.func23, Try.ntmps23
  go_wp2
  go_ret
  refine ⟨w.heap.size, w.heap.size + 1, rfl, (Blk.new w 48 [.pointer p]).alloc _, ?_, ((Keeps.refl _ w).alloc _).alloc _, Nat.le_refl _, by omega⟩
  have := Blk.new (w.alloc (.cells #[.pointer p] 48)) 47 [.int .i32 x0, .int .i32 y0, .int .i32 x1, .int .i32 y1]
  simpa using this
theorem at_any (p : Option Addr) (x y : Int) (w : World) :
    Calls Try.prog 32 #[.pointer p, .agg #[.int .i32 x, .int .i32 y]] w (SeqOf w p ⟨x, y, x, y⟩) := by
  go_enter Try.func32, Try.ntmps32
  go_wp2_with (go_at_call 23; refine (range_any p x y x y _).mono ?_; rintro e w1 ⟨B1, B2, rfl, h1, h2, hk, hb1, hb2⟩)
  go_ret
  exact ⟨B1, B2, rfl, h1, h2, ((Keeps.refl _ w).alloc _).trans hk, by simp at hb1; omega, by simp at hb2; omega⟩
theorem crossing_any (p : Option Addr) (px py qx qy : Int) (w : World) :
    Calls Try.prog 33 #[.pointer p, .agg #[.int .i32 px, .int .i32 py], .agg #[.int .i32 qx, .int .i32 qy]] w (SeqOf w p ⟨min px qx, min py qy, max px qx, max py qy⟩) := by
  go_enter Try.func33, Try.ntmps33
  go_wp2_with fail
  refine (bounds2 (w.heap.size + 1 + 1) px py qx qy _ ?_).mono ?_
  · have := Blk.new ((w.alloc (.cells #[.int .i32 px, .int .i32 py] 35)).alloc (.cells #[.int .i32 qx, .int .i32 qy] 35)) 35 [.int .i32 px, .int .i32 py, .int .i32 qx, .int .i32 qy]
    simpa using this
  rintro e w1 ⟨rfl, hk⟩
  have hz := hk.size
  go_wp2_with (go_at_call 23; refine (range_any p (min px qx) (min py qy) (max px qx) (max py qy) _).mono ?_; rintro e w2 ⟨B1, B2, rfl, h1, h2, hk2, hb1, hb2⟩)
  go_ret
  simp only [World.size_alloc] at hz hb1 hb2
  exact ⟨B1, B2, rfl, h1, h2, (((((Keeps.refl _ w).alloc _).alloc _).alloc _).trans hk).alloc _ |>.trans hk2, by omega, by omega⟩
/-- no tree, or a zero one -/
def NoTree (w : World) (p : Option Addr) : Prop := p = none ∨ ∃ b, p = some ⟨b, 0, none⟩ ∧ Blk w b 80 [.pointer none, .map none]
theorem NoTree.keeps {w w' : World} {p : Option Addr} (h : NoTree w p) (k : Keeps (fun _ => False) w w') : NoTree w' p := by
  rcases h with h | ⟨b, h, hb⟩
  · exact .inl h
  · exact .inr ⟨b, h, hb.keeps k id⟩
theorem neq_map_nil (W : World) : (binOp .neq 78 (.map none) (.map none)).run Try.prog W = .ok (.bool false) W := by kernel_rfl
theorem there_no (p : Option Addr) (w : World) (h : NoTree w p) : Calls Try.prog 41 #[.pointer p] w fun e w' => e = .returned (.bool false) ∧ w = w' := by
  have hm := neq_map_nil
  rcases h with rfl | ⟨b, rfl, hb⟩
  · go_enter Try.func41, Try.ntmps41
    go_wp2
    go_ret
    exact ⟨rfl, rfl⟩
  · have cb := hb.cell
    go_enter Try.func41, Try.ntmps41
    go_wp2
    go_ret
    exact ⟨rfl, rfl⟩
theorem found_no (p : Option Addr) (x0 y0 x1 y1 : Int) (w : World) (h : NoTree w p) :
    Calls Try.prog 49 #[.pointer p, .agg #[.int .i32 x0, .int .i32 y0, .int .i32 x1, .int .i32 y1]] w (Fresh w []) := by
  go_enter Try.func49, Try.ntmps49
  go_wp2_with (go_at_call 41; refine (there_no p _ (h.keeps (by repeat (first | exact Keeps.refl _ _ | apply Keeps.alloc)))).mono ?_; rintro e w1 ⟨rfl, rfl⟩)
  go_ret
  exact ⟨_, rfl, World.ownsRow_nil _ _ _ _, ((Keeps.refl _ w).alloc _).alloc _⟩
theorem put_no (p : Option Addr) (id x0 y0 x1 y1 : Int) (w : World) (h : NoTree w p) :
    Calls Try.prog 20 #[.pointer p, .int .u32 id, .agg #[.int .i32 x0, .int .i32 y0, .int .i32 x1, .int .i32 y1]] w (Gave (.int .i64 1) w) := by
  go_enter Try.func20, Try.ntmps20
  go_wp2_with (go_at_call 41; refine (there_no p _ (h.keeps (by repeat (first | exact Keeps.refl _ _ | apply Keeps.alloc)))).mono ?_; rintro e w1 ⟨rfl, rfl⟩)
  go_ret
  exact ⟨rfl, (Keeps.refl _ w).alloc _⟩
theorem del_no (p : Option Addr) (id : Int) (w : World) (h : NoTree w p) : Calls Try.prog 24 #[.pointer p, .int .u32 id] w fun e w' => e = .returned (.int .i64 1) ∧ w = w' := by
  go_enter Try.func24, Try.ntmps24
  go_wp2_with (go_at_call 41; refine (there_no p _ h).mono ?_; rintro e w1 ⟨rfl, rfl⟩)
  go_ret
  exact ⟨rfl, rfl⟩
theorem len_no (p : Option Addr) (w : World) (h : NoTree w p) : Calls Try.prog 29 #[.pointer p] w fun e w' => e = .returned (.int .i64 0) ∧ w = w' := by
  go_enter Try.func29, Try.ntmps29
  go_wp2_with (go_at_call 41; refine (there_no p _ h).mono ?_; rintro e w1 ⟨rfl, rfl⟩)
  go_ret
  exact ⟨rfl, rfl⟩
theorem depth_no (p : Option Addr) (w : World) (h : NoTree w p) : Calls Try.prog 30 #[.pointer p] w fun e w' => e = .returned (.int .i64 0) ∧ w = w' := by
  go_enter Try.func30, Try.ntmps30
  go_wp2_with (go_at_call 41; refine (there_no p _ h).mono ?_; rintro e w1 ⟨rfl, rfl⟩)
  go_ret
  exact ⟨rfl, rfl⟩
theorem box_no (p : Option Addr) (id : Int) (w : World) (h : NoTree w p) :
    Calls Try.prog 31 #[.pointer p, .int .u32 id] w (Gave (.tuple #[.agg #[.int .i32 0, .int .i32 0, .int .i32 0, .int .i32 0], .bool false]) w) := by
  go_enter Try.func31, Try.ntmps31
  go_wp2_with (go_at_call 41; refine (there_no p _ (h.keeps (by repeat (first | exact Keeps.refl _ _ | apply Keeps.alloc)))).mono ?_; rintro e w1 ⟨rfl, rfl⟩)
  exact bodyPost_ret (results_row_tmp rfl _ _ w.heap.size _ _ _ _ rfl (Blk.new w 47 [.int .i32 0, .int .i32 0, .int .i32 0, .int .i32 0]) Try.underlying47 rfl (by kernel_rfl)) rfl ⟨rfl, (Keeps.refl _ w).alloc _⟩
theorem all_any (p : Option Addr) (w : World) :
    Calls Try.prog 51 #[.pointer p] w fun e w' => e = .returned (.func (.func 62) #[] #[.pointer (some ⟨w.heap.size, 0, none⟩)]) ∧ w.alloc (.cells #[.pointer p] 48) = w' := by
  go_enter Try.func51, Try.ntmps51
  go_wp2
  go_ret
  exact ⟨rfl, rfl⟩
end Tree
end Go.Proofs.Ytndghakagogmcaa
