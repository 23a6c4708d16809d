/-
  points and boxes: Right, Meet, around, Join, Bounds of two points.
-/
import Derived.Test.YtndghakagogmcaaMem
import Derived.Deep.RegionLaw
import Derived.Deep.RegionHeld3
namespace Go.Proofs.Ytndghakagogmcaa
open Go.RowKit
set_option linter.unusedVariables false
namespace Tree
open Mem
structure Bx where
  x0 : Int
  y0 : Int
  x1 : Int
  y1 : Int
deriving DecidableEq
def Bx.val (b : Bx) : Value := .agg #[.int .i32 b.x0, .int .i32 b.y0, .int .i32 b.x1, .int .i32 b.y1]
def Bx.right (b : Bx) : Bool := decide (b.x0 ≤ b.x1) && decide (b.y0 ≤ b.y1)
def Bx.meet (a b : Bx) : Bool := a.right && b.right && decide (a.x0 ≤ b.x1) && decide (b.x0 ≤ a.x1) && decide (a.y0 ≤ b.y1) && decide (b.y0 ≤ a.y1)
def Bx.join (a b : Bx) : Bx := ⟨min a.x0 b.x0, min a.y0 b.y0, max a.x1 b.x1, max a.y1 b.y1⟩
def Gave (v : Value) (w : World) (e : Ending) (w' : World) : Prop := e = .returned v ∧ Keeps (fun _ => False) w w'
theorem right_any (x0 y0 x1 y1 : Int) (w : World) :
    Calls Try.prog 42 #[.agg #[.int .i32 x0, .int .i32 y0, .int .i32 x1, .int .i32 y1]] w (Gave (.bool (Bx.right ⟨x0, y0, x1, y1⟩)) w) := by
  by_cases h1 : x0 ≤ x1
  · go_enter Try.func42, Try.ntmps42
    go_wp2
    go_ret
    exact ⟨by simp [Bx.right, h1], (Keeps.refl _ w).alloc _⟩
  · go_enter Try.func42, Try.ntmps42
    go_wp2
    go_ret
    exact ⟨by simp [Bx.right]; omega, (Keeps.refl _ w).alloc _⟩
theorem right_yes (x0 y0 x1 y1 : Int) (w : World) (h1 : x0 ≤ x1) (h2 : y0 ≤ y1) :
    Calls Try.prog 42 #[.agg #[.int .i32 x0, .int .i32 y0, .int .i32 x1, .int .i32 y1]] w fun e w' => e = .returned (.bool true) ∧ w.alloc (.cells #[.int .i32 x0, .int .i32 y0, .int .i32 x1, .int .i32 y1] 47) = w' := by
  go_enter Try.func42, Try.ntmps42
  go_wp2
  go_ret
  exact ⟨rfl, rfl⟩
theorem around_any (ax ay bx by_ : Int) (w : World) :
    Calls Try.prog 69 #[.agg #[.int .i32 ax, .int .i32 ay], .agg #[.int .i32 bx, .int .i32 by_]] w
      (Gave (.agg #[.int .i32 (min ax bx), .int .i32 (min ay by_), .int .i32 (max ax bx), .int .i32 (max ay by_)]) w) := by
  go_enter Try.func69, Try.ntmps69
  go_wp2
  all_goals
    refine bodyPost_ret (v := .agg #[.int .i32 (min ax bx), .int .i32 (min ay by_), .int .i32 (max ax bx), .int .i32 (max ay by_)]) ?_ rfl ⟨rfl, (((Keeps.refl _ w).alloc _).alloc _).alloc _⟩
    simp [results, Try.results69, go_sem]
    try omega
theorem field_min (a b c d : Value) (W : World) : (Instr.field 47 (.agg #[a, b, c, d]) 0).run Try.prog W = .ok (.agg #[a, b]) W := by kernel_rfl
theorem field_max (a b c d : Value) (W : World) : (Instr.field 47 (.agg #[a, b, c, d]) 1).run Try.prog W = .ok (.agg #[c, d]) W := by kernel_rfl
set_option maxHeartbeats 2000000 in
set_option maxRecDepth 100000 in
theorem join_any (a b : Bx) (w : World) (ha1 : a.x0 ≤ a.x1) (ha2 : a.y0 ≤ a.y1) (hb1 : b.x0 ≤ b.x1) (hb2 : b.y0 ≤ b.y1) :
    Calls Try.prog 63 #[.agg #[.int .i32 a.x0, .int .i32 a.y0, .int .i32 a.x1, .int .i32 a.y1], .agg #[.int .i32 b.x0, .int .i32 b.y0, .int .i32 b.x1, .int .i32 b.y1]] w (Gave (Bx.join a b).val w) := by
  obtain ⟨ax0, ay0, ax1, ay1⟩ := a
  obtain ⟨bx0, by0, bx1, by1⟩ := b
  simp only at ha1 ha2 hb1 hb2 ⊢
  go_enter Try.func63, Try.ntmps63
  go_wp2_with (go_at_call 42; refine (right_yes _ _ _ _ _ (by assumption) (by assumption)).mono ?_; rintro e w1 ⟨rfl, rfl⟩)
  obtain ⟨w1, hw1⟩ : ∃ w1, w1 = ((((((w.alloc (.cells #[.int .i32 ax0, .int .i32 ay0, .int .i32 ax1, .int .i32 ay1] 47)).alloc (.cells #[.int .i32 bx0, .int .i32 by0, .int .i32 bx1, .int .i32 by1] 47)).alloc (.cells #[.int .i32 0, .int .i32 0, .int .i32 0, .int .i32 0] 47)).alloc (.cells #[.int .i32 ax0, .int .i32 ay0, .int .i32 ax1, .int .i32 ay1] 47)).alloc (.cells #[.int .i32 ax0, .int .i32 ay0, .int .i32 ax1, .int .i32 ay1] 47)).alloc (.cells #[.int .i32 bx0, .int .i32 by0, .int .i32 bx1, .int .i32 by1] 47)) := ⟨_, rfl⟩
  have hA : Blk w1 w.heap.size 47 [.int .i32 ax0, .int .i32 ay0, .int .i32 ax1, .int .i32 ay1] := by rw [hw1]; exact ((((((Blk.new w 47 [.int .i32 ax0, .int .i32 ay0, .int .i32 ax1, .int .i32 ay1])).alloc _).alloc _).alloc _).alloc _).alloc _
  have hB : Blk w1 (w.heap.size + 1) 47 [.int .i32 bx0, .int .i32 by0, .int .i32 bx1, .int .i32 by1] := by
    rw [hw1]; have := ((((Blk.new (w.alloc (.cells #[.int .i32 ax0, .int .i32 ay0, .int .i32 ax1, .int .i32 ay1] 47)) 47 [.int .i32 bx0, .int .i32 by0, .int .i32 bx1, .int .i32 by1]).alloc (.cells #[.int .i32 0, .int .i32 0, .int .i32 0, .int .i32 0] 47)).alloc (.cells #[.int .i32 ax0, .int .i32 ay0, .int .i32 ax1, .int .i32 ay1] 47)).alloc (.cells #[.int .i32 ax0, .int .i32 ay0, .int .i32 ax1, .int .i32 ay1] 47)).alloc (.cells #[.int .i32 bx0, .int .i32 by0, .int .i32 bx1, .int .i32 by1] 47)
    simpa using this
  have hR : Blk w1 (w.heap.size + 1 + 1) 47 [.int .i32 0, .int .i32 0, .int .i32 0, .int .i32 0] := by
    rw [hw1]; have := (((Blk.new ((w.alloc (.cells #[.int .i32 ax0, .int .i32 ay0, .int .i32 ax1, .int .i32 ay1] 47)).alloc (.cells #[.int .i32 bx0, .int .i32 by0, .int .i32 bx1, .int .i32 by1] 47)) 47 [.int .i32 0, .int .i32 0, .int .i32 0, .int .i32 0]).alloc (.cells #[.int .i32 ax0, .int .i32 ay0, .int .i32 ax1, .int .i32 ay1] 47)).alloc (.cells #[.int .i32 ax0, .int .i32 ay0, .int .i32 ax1, .int .i32 ay1] 47)).alloc (.cells #[.int .i32 bx0, .int .i32 by0, .int .i32 bx1, .int .i32 by1] 47)
    simpa using this
  have hK : Keeps (fun _ => False) w w1 := by rw [hw1]; exact ((((((Keeps.refl _ w).alloc _).alloc _).alloc _).alloc _).alloc _).alloc _
  rw [← hw1]
  clear hw1
  have cA := hA.cell
  have cB := hB.cell
  have cR := hR.cell
  have fR := hR.frozen
  have fmin := field_min
  have fmax := field_max
  go_region_held3 (fun W => (∀ i, W.cell? ⟨w.heap.size, i, none⟩ = ([.int .i32 ax0, .int .i32 ay0, .int .i32 ax1, .int .i32 ay1] : List Value)[i]?) ∧ (∀ i, W.cell? ⟨w.heap.size + 1, i, none⟩ = ([.int .i32 bx0, .int .i32 by0, .int .i32 bx1, .int .i32 by1] : List Value)[i]?)) (first | exact ⟨cA, cB⟩ | exact ⟨((((hA.far (by simp; omega) _).far (by simp; omega) _).far (by simp; omega) _).far (by simp; omega) _).cell, ((((hB.far (by simp) _).far (by simp) _).far (by simp) _).far (by simp) _).cell⟩) (first | (go_at_call 69; refine (around_any _ _ _ _ _).mono ?_; rintro e w2 ⟨rfl, hk⟩; have hA := hA.kd hk; have hB := hB.kd hk; have hR := hR.kd hk; have hK := hK.td hk; have cA := hA.cell; have cB := hB.cell; have cR := hR.cell; have fR := hR.frozen))
  go_wp2
  have hRf := (((hR.set_ 0 (.int .i32 (min ax0 bx0))).set_ 1 (.int .i32 (min ay0 by0))).set_ 2 (.int .i32 (max ax1 bx1))).set_ 3 (.int .i32 (max ay1 by1))
  refine bodyPost_ret (v := .agg #[.int .i32 (min ax0 bx0), .int .i32 (min ay0 by0), .int .i32 (max ax1 bx1), .int .i32 (max ay1 by1)]) ?_ rfl ⟨rfl, ?_⟩
  · exact results_cell_row rfl _ _ (w.heap.size + 1 + 1) _ _ _ _ rfl hRf Try.underlying47 rfl (by kernel_rfl)
  · exact (((hK.setCell (p := ⟨w.heap.size + 1 + 1, 0, none⟩) (by simp; omega) _).setCell (p := ⟨w.heap.size + 1 + 1, 1, none⟩) (by simp; omega) _).setCell (p := ⟨w.heap.size + 1 + 1, 2, none⟩) (by simp; omega) _).setCell (p := ⟨w.heap.size + 1 + 1, 3, none⟩) (by simp; omega) _
end Tree
end Go.Proofs.Ytndghakagogmcaa
