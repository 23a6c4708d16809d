/-
points and boxes: Right, Meet, around, Join, Bounds of two points.
Bounds of two points; Meet.
TrM: Meet.
what told and found hand back.
walks of a tree: Range, At, Crossing as values; what they hand out, given what found tells.
Range, At, Crossing; what a tree that is none answers.
-/
import Derived.Test.YtdbpfbokfmpgcaaGreatZaaMemIterTreeAHeldGrowIter
import Derived.Deep.RegionLaw
import Derived.Deep.RegionHeld3
import Derived.Maps.AppendAt
import Derived.Maps.OwnIn
set_option linter.unusedVariables false
set_option linter.unusedSimpArgs false
set_option maxHeartbeats 16000000
set_option maxRecDepth 100000
attribute [local go_sem] Go.Oper.semAt_some
namespace Go.Proofs.YtdbpfbokfmpgcaaGreat
theorem ZBD {α : Type} (x : α) : ∃ y, y = x := ⟨_, rfl⟩
theorem ZBJ {p : Prop} (h : p := by kernel_rfl) : p := h
theorem ZBS {p : Prop} (h : p := by simp; omega) : p := h
theorem ZAd {p : Prop} (h : p := by repeat (first | exact Keeps.refl _ _ | apply Keeps.alloc)) : p := h
theorem Zt {p : Prop} (h : p := by
 go_enter Tryz.func171, Tryz.ntmps171
 go_wp2_with (first | (go_at_call 143; (with_reducible refine (HA.out _).mono ?_); rintro e w1 ⟨rfl, rfl⟩) | (go_at_call 143; (with_reducible refine (HB.out _).mono ?_); rintro e w1 ⟨rfl, rfl⟩))
 go_ret
 exact ⟨ZA7, ZAd⟩) : p := h
open Go.RowKit
namespace Tree
open Mem
structure Bx where
 x0 : Int
 y0 : Int
 x1 : Int
 y1 : Int
deriving DecidableEq
def Bx.val (b : Bx) : Value := .agg #[.int .i32 b.x0, .int .i32 b.y0, .int .i32 b.x1, .int .i32 b.y1]
def Bx.right (b : Bx) : Bool := decide (b.x0 ≤ b.x1) && decide (b.y0 ≤ b.y1)
def Bx.meet (a b : Bx) : Bool := a.right && b.right && decide (a.x0 ≤ b.x1) && decide (b.x0 ≤ a.x1) && decide (a.y0 ≤ b.y1) && decide (b.y0 ≤ a.y1)
def Bx.join (a b : Bx) : Bx := ⟨min a.x0 b.x0, min a.y0 b.y0, max a.x1 b.x1, max a.y1 b.y1⟩
def Gave (v : Value) (w : World) (e : Ending) (w' : World) : Prop := e = .returned v ∧ Keeps (fun _ => False) w w'
theorem right_any (x0 y0 x1 y1 : Int) (w : World) :
 Calls Tryz.prog 143 #[.agg #[.int .i32 x0, .int .i32 y0, .int .i32 x1, .int .i32 y1]] w (Gave (.bool (Bx.right ⟨x0, y0, x1, y1⟩)) w) := by
 by_cases h1 : x0 ≤ x1
 ·go_enter Tryz.func143, Tryz.ntmps143
  go_wp2
  go_ret
  exact ⟨by simp [Bx.right, h1], (Keeps.refl _ w).alloc _⟩
 ·go_enter Tryz.func143, Tryz.ntmps143
  go_wp2
  go_ret
  exact ⟨by simp [Bx.right]; omega, (Keeps.refl _ w).alloc _⟩
theorem right_yes (x0 y0 x1 y1 : Int) (w : World) (h1 : x0 ≤ x1) (h2 : y0 ≤ y1) :
 Calls Tryz.prog 143 #[.agg #[.int .i32 x0, .int .i32 y0, .int .i32 x1, .int .i32 y1]] w fun e w' => e = .returned (.bool true) ∧ w.alloc (.cells #[.int .i32 x0, .int .i32 y0, .int .i32 x1, .int .i32 y1] 39) = w' := by
 go_enter Tryz.func143, Tryz.ntmps143
 go_wp2
 go_ret
 exact ⟨rfl, rfl⟩
theorem around_any (ax ay bx by_ : Int) (w : World) :
 Calls Tryz.prog 144 #[.agg #[.int .i32 ax, .int .i32 ay], .agg #[.int .i32 bx, .int .i32 by_]] w
  (Gave (.agg #[.int .i32 (min ax bx), .int .i32 (min ay by_), .int .i32 (max ax bx), .int .i32 (max ay by_)]) w) := by
 go_enter Tryz.func144, Tryz.ntmps144
 go_wp2
 all_goals
  refine bodyPost_ret (v := .agg #[.int .i32 (min ax bx), .int .i32 (min ay by_), .int .i32 (max ax bx), .int .i32 (max ay by_)]) ?_ rfl ⟨rfl, (((Keeps.refl _ w).alloc _).alloc _).alloc _⟩
  simp [results, Tryz.results144, go_sem]
  try omega
theorem field_min (a b c d : Value) (W : World) : (Instr.field 39 (.agg #[a, b, c, d]) 0).run Tryz.prog W = .ok (.agg #[a, b]) W := by kernel_rfl
theorem field_max (a b c d : Value) (W : World) : (Instr.field 39 (.agg #[a, b, c, d]) 1).run Tryz.prog W = .ok (.agg #[c, d]) W := by kernel_rfl
theorem join_any (a b : Bx) (w : World) (ha1 : a.x0 ≤ a.x1) (ha2 : a.y0 ≤ a.y1) (hb1 : b.x0 ≤ b.x1) (hb2 : b.y0 ≤ b.y1) :
 Calls Tryz.prog 136 #[.agg #[.int .i32 a.x0, .int .i32 a.y0, .int .i32 a.x1, .int .i32 a.y1], .agg #[.int .i32 b.x0, .int .i32 b.y0, .int .i32 b.x1, .int .i32 b.y1]] w (Gave (Bx.join a b).val w) := by
 obtain ⟨ax0, ay0, ax1, ay1⟩ := a
 obtain ⟨bx0, by0, bx1, by1⟩ := b
 simp only at ha1 ha2 hb1 hb2 ⊢
 go_enter Tryz.func136, Tryz.ntmps136
 go_wp2_with (go_at_call 143; refine (right_yes _ _ _ _ _ (by assumption) (by assumption)).mono ?_; rintro e w1 ⟨rfl, rfl⟩)
 obtain ⟨w1, hw1⟩ := ZBD (((((((w.alloc (.cells #[.int .i32 ax0, .int .i32 ay0, .int .i32 ax1, .int .i32 ay1] 39)).alloc (.cells #[.int .i32 bx0, .int .i32 by0, .int .i32 bx1, .int .i32 by1] 39)).alloc (.cells #[.int .i32 0, .int .i32 0, .int .i32 0, .int .i32 0] 39)).alloc (.cells #[.int .i32 ax0, .int .i32 ay0, .int .i32 ax1, .int .i32 ay1] 39)).alloc (.cells #[.int .i32 ax0, .int .i32 ay0, .int .i32 ax1, .int .i32 ay1] 39)).alloc (.cells #[.int .i32 bx0, .int .i32 by0, .int .i32 bx1, .int .i32 by1] 39)))
 have hA : Blk w1 w.heap.size 39 [.int .i32 ax0, .int .i32 ay0, .int .i32 ax1, .int .i32 ay1] := by rw [hw1]; exact ((((((Blk.new w 39 [.int .i32 ax0, .int .i32 ay0, .int .i32 ax1, .int .i32 ay1])).alloc _).alloc _).alloc _).alloc _).alloc _
 have hB : Blk w1 (w.heap.size + 1) 39 [.int .i32 bx0, .int .i32 by0, .int .i32 bx1, .int .i32 by1] := by
  rw [hw1]; have := ((((Blk.new (w.alloc (.cells #[.int .i32 ax0, .int .i32 ay0, .int .i32 ax1, .int .i32 ay1] 39)) 39 [.int .i32 bx0, .int .i32 by0, .int .i32 bx1, .int .i32 by1]).alloc (.cells #[.int .i32 0, .int .i32 0, .int .i32 0, .int .i32 0] 39)).alloc (.cells #[.int .i32 ax0, .int .i32 ay0, .int .i32 ax1, .int .i32 ay1] 39)).alloc (.cells #[.int .i32 ax0, .int .i32 ay0, .int .i32 ax1, .int .i32 ay1] 39)).alloc (.cells #[.int .i32 bx0, .int .i32 by0, .int .i32 bx1, .int .i32 by1] 39)
  simpa using this
 have hR : Blk w1 (w.heap.size + 1 + 1) 39 [.int .i32 0, .int .i32 0, .int .i32 0, .int .i32 0] := by
  rw [hw1]; have := (((Blk.new ((w.alloc (.cells #[.int .i32 ax0, .int .i32 ay0, .int .i32 ax1, .int .i32 ay1] 39)).alloc (.cells #[.int .i32 bx0, .int .i32 by0, .int .i32 bx1, .int .i32 by1] 39)) 39 [.int .i32 0, .int .i32 0, .int .i32 0, .int .i32 0]).alloc (.cells #[.int .i32 ax0, .int .i32 ay0, .int .i32 ax1, .int .i32 ay1] 39)).alloc (.cells #[.int .i32 ax0, .int .i32 ay0, .int .i32 ax1, .int .i32 ay1] 39)).alloc (.cells #[.int .i32 bx0, .int .i32 by0, .int .i32 bx1, .int .i32 by1] 39)
  simpa using this
 have hK : Keeps (fun _ => False) w w1 := by rw [hw1]; exact ((((((Keeps.refl _ w).alloc _).alloc _).alloc _).alloc _).alloc _).alloc _
 rw [← hw1]
 clear hw1
 have cA := hA.cell
 have cB := hB.cell
 have cR := hR.cell
 have fR := hR.frozen
 have fmin := field_min
 have fmax := field_max
 go_region_held3 (fun W => (∀ i, W.cell? ⟨w.heap.size, i, none⟩ = ([.int .i32 ax0, .int .i32 ay0, .int .i32 ax1, .int .i32 ay1] : List Value)[i]?) ∧ (∀ i, W.cell? ⟨w.heap.size + 1, i, none⟩ = ([.int .i32 bx0, .int .i32 by0, .int .i32 bx1, .int .i32 by1] : List Value)[i]?)) (first | exact ⟨cA, cB⟩ | exact ⟨((((hA.far ZBS _).far ZBS _).far ZBS _).far ZBS _).cell, ((((hB.far ZA7 _).far ZA7 _).far ZA7 _).far ZA7 _).cell⟩) (first | (go_at_call 144; refine (around_any _ _ _ _ _).mono ?_; rintro e w2 ⟨rfl, hk⟩; have hA := hA.kd hk; have hB := hB.kd hk; have hR := hR.kd hk; have hK := hK.td hk; have cA := hA.cell; have cB := hB.cell; have cR := hR.cell; have fR := hR.frozen))
 go_wp2
 have hRf := (((hR.set_ 0 (.int .i32 (min ax0 bx0))).set_ 1 (.int .i32 (min ay0 by0))).set_ 2 (.int .i32 (max ax1 bx1))).set_ 3 (.int .i32 (max ay1 by1))
 refine bodyPost_ret (v := .agg #[.int .i32 (min ax0 bx0), .int .i32 (min ay0 by0), .int .i32 (max ax1 bx1), .int .i32 (max ay1 by1)]) ?_ rfl ⟨rfl, ?_⟩
 ·exact results_cell_row rfl _ _ (w.heap.size + 1 + 1) _ _ _ _ rfl hRf Tryz.underlying39 rfl ZBJ
 ·exact (((hK.setCell (p := ⟨w.heap.size + 1 + 1, 0, none⟩) ZBS _).setCell (p := ⟨w.heap.size + 1 + 1, 1, none⟩) ZBS _).setCell (p := ⟨w.heap.size + 1 + 1, 2, none⟩) ZBS _).setCell (p := ⟨w.heap.size + 1 + 1, 3, none⟩) ZBS _
end Tree
open Go.RowKit
namespace Tree
open Mem
theorem bounds2 (g : Nat) (px py qx qy : Int) (w : World) (hG : Blk w g 37 [.int .i32 px, .int .i32 py, .int .i32 qx, .int .i32 qy]) :
 Calls Tryz.prog 125 #[.slice (some ⟨g, 0, none⟩) 2 2] w
  (Gave (.tuple #[.agg #[.int .i32 (min px qx), .int .i32 (min py qy), .int .i32 (max px qx), .int .i32 (max py qy)], .bool true]) w) := by
 have cG := hG.cell
 have hlt := hG.lt
 go_enter Tryz.func125, Tryz.ntmps125
 go_wp2
 go_region
 go_wp2
 refine wp_loop_rounds 2 ?_
 rw [rounds_succ]
 go_wp2_with fail
 have hR : Blk (((w.alloc (.cells #[.int .i32 0, .int .i32 0, .int .i32 0, .int .i32 0] 39)).alloc (.cells #[.int .i32 px, .int .i32 py, .int .i32 px, .int .i32 py] 39)).alloc (.cells #[.int .i32 qx, .int .i32 qy] 37)) w.heap.size 39 [.int .i32 0, .int .i32 0, .int .i32 0, .int .i32 0] := ((Blk.new w 39 [.int .i32 0, .int .i32 0, .int .i32 0, .int .i32 0]).alloc _).alloc _
 have hB : Blk (((w.alloc (.cells #[.int .i32 0, .int .i32 0, .int .i32 0, .int .i32 0] 39)).alloc (.cells #[.int .i32 px, .int .i32 py, .int .i32 px, .int .i32 py] 39)).alloc (.cells #[.int .i32 qx, .int .i32 qy] 37)) (w.heap.size + 1) 39 [.int .i32 px, .int .i32 py, .int .i32 px, .int .i32 py] := by
  have := (Blk.new (w.alloc (.cells #[.int .i32 0, .int .i32 0, .int .i32 0, .int .i32 0] 39)) 39 [.int .i32 px, .int .i32 py, .int .i32 px, .int .i32 py]).alloc (.cells #[.int .i32 qx, .int .i32 qy] 37)
  simpa using this
 have hG1 : Blk (((w.alloc (.cells #[.int .i32 0, .int .i32 0, .int .i32 0, .int .i32 0] 39)).alloc (.cells #[.int .i32 px, .int .i32 py, .int .i32 px, .int .i32 py] 39)).alloc (.cells #[.int .i32 qx, .int .i32 qy] 37)) g 37 [.int .i32 px, .int .i32 py, .int .i32 qx, .int .i32 qy] := ((hG.alloc _).alloc _).alloc _
 have hK : Keeps (fun _ => False) w (((w.alloc (.cells #[.int .i32 0, .int .i32 0, .int .i32 0, .int .i32 0] 39)).alloc (.cells #[.int .i32 px, .int .i32 py, .int .i32 px, .int .i32 py] 39)).alloc (.cells #[.int .i32 qx, .int .i32 qy] 37)) := (((Keeps.refl _ w).alloc _).alloc _).alloc _
 generalize (((w.alloc (.cells #[.int .i32 0, .int .i32 0, .int .i32 0, .int .i32 0] 39)).alloc (.cells #[.int .i32 px, .int .i32 py, .int .i32 px, .int .i32 py] 39)).alloc (.cells #[.int .i32 qx, .int .i32 qy] 37)) = w1 at *
 clear cG
 refine (show Calls _ _ _ _ (Gave (.agg #[.int .i32 (min px qx), .int .i32 (min py qy), .int .i32 (max px qx), .int .i32 (max py qy)]) _) from join_any ⟨px, py, px, py⟩ ⟨qx, qy, qx, qy⟩ _ ZA7 ZA7 ZA7 ZA7).mono ?_
 rintro e w2 ⟨rfl, hk⟩
 have hR := hR.kd hk
 have hB := hB.kd hk
 have hK := hK.td hk
 have cB := hB.cell
 have fB := hB.frozen
 have cR := hR.cell
 have fR := hR.frozen
 go_wp2
 rw [rounds_succ]
 go_wp2
 have hRf := ((((((((hR.far (p := ⟨w.heap.size + 1, 0, none⟩) ZA7 (.int .i32 (min px qx))).far (p := ⟨w.heap.size + 1, 1, none⟩) ZA7 (.int .i32 (min py qy))).far (p := ⟨w.heap.size + 1, 2, none⟩) ZA7 (.int .i32 (max px qx))).far (p := ⟨w.heap.size + 1, 3, none⟩) ZA7 (.int .i32 (max py qy))).set_ 0 (.int .i32 (min px qx))).set_ 1 (.int .i32 (min py qy))).set_ 2 (.int .i32 (max px qx))).set_ 3 (.int .i32 (max py qy)))
 exact bodyPost_ret (results_row_tmp rfl _ _ w.heap.size _ _ _ _ rfl hRf Tryz.underlying39 rfl ZBJ) rfl ⟨rfl, ((((((((hK.setCell (p := ⟨w.heap.size + 1, 0, none⟩) ZA7 (.int .i32 (min px qx))).setCell (p := ⟨w.heap.size + 1, 1, none⟩) ZA7 (.int .i32 (min py qy))).setCell (p := ⟨w.heap.size + 1, 2, none⟩) ZA7 (.int .i32 (max px qx))).setCell (p := ⟨w.heap.size + 1, 3, none⟩) ZA7 (.int .i32 (max py qy))).setCell (p := ⟨w.heap.size, 0, none⟩) ZA7 (.int .i32 (min px qx))).setCell (p := ⟨w.heap.size, 1, none⟩) ZA7 (.int .i32 (min py qy))).setCell (p := ⟨w.heap.size, 2, none⟩) ZA7 (.int .i32 (max px qx))).setCell (p := ⟨w.heap.size, 3, none⟩) ZA7 (.int .i32 (max py qy)))⟩
end Tree
open Go.RowKit
namespace Tree
open Mem
theorem right_ex (a : Bx) (w : World) :
 Calls Tryz.prog 143 #[.agg #[.int .i32 a.x0, .int .i32 a.y0, .int .i32 a.x1, .int .i32 a.y1]] w fun e w' => e = .returned (.bool a.right) ∧ w.alloc (.cells #[.int .i32 a.x0, .int .i32 a.y0, .int .i32 a.x1, .int .i32 a.y1] 39) = w' := by
 obtain ⟨x0, y0, x1, y1⟩ := a
 dsimp only
 by_cases h1 : x0 ≤ x1
 ·go_enter Tryz.func143, Tryz.ntmps143
  go_wp2
  go_ret
  exact ⟨by simp [Bx.right, h1], rfl⟩
 ·go_enter Tryz.func143, Tryz.ntmps143
  go_wp2
  go_ret
  exact ⟨by simp [Bx.right]; omega, rfl⟩
theorem meet_any (a b : Bx) (w : World) :
 Calls Tryz.prog 171 #[.agg #[.int .i32 a.x0, .int .i32 a.y0, .int .i32 a.x1, .int .i32 a.y1], .agg #[.int .i32 b.x0, .int .i32 b.y0, .int .i32 b.x1, .int .i32 b.y1]] w (Gave (.bool (a.meet b)) w) := by
 have HR := Lib.hid right_ex
 unfold Bx.meet
 generalize hra : a.right = ra at *
 generalize hrb : b.right = rb at *
 have ha := fun w => hra ▸ HR.out a w
 have hb := fun w => hrb ▸ HR.out b w
 have HA := Lib.hid ha
 have HB := Lib.hid hb
 obtain ⟨ax0, ay0, ax1, ay1⟩ := a
 obtain ⟨bx0, by0, bx1, by1⟩ := b
 dsimp only at HA HB ⊢
 clear hra hrb ha hb HR
 cases ra with
 | false =>
  exact Zt
 | true =>
  cases rb with
  | false =>
   exact Zt
  | true =>
   by_cases h1 : ax0 ≤ bx1
   ·by_cases h2 : bx0 ≤ ax1
    ·by_cases h3 : ay0 ≤ by1
     ·go_enter Tryz.func171, Tryz.ntmps171
      go_wp2_with (first | (go_at_call 143; (with_reducible refine (HA.out _).mono ?_); rintro e w1 ⟨rfl, rfl⟩) | (go_at_call 143; (with_reducible refine (HB.out _).mono ?_); rintro e w1 ⟨rfl, rfl⟩))
      go_ret
      exact ⟨by simp [h1, h2, h3], ZAd⟩
     ·go_enter Tryz.func171, Tryz.ntmps171
      go_wp2_with (first | (go_at_call 143; (with_reducible refine (HA.out _).mono ?_); rintro e w1 ⟨rfl, rfl⟩) | (go_at_call 143; (with_reducible refine (HB.out _).mono ?_); rintro e w1 ⟨rfl, rfl⟩))
      go_ret
      exact ⟨by simp [h1, h2, h3]; omega, ZAd⟩
    ·go_enter Tryz.func171, Tryz.ntmps171
     go_wp2_with (first | (go_at_call 143; (with_reducible refine (HA.out _).mono ?_); rintro e w1 ⟨rfl, rfl⟩) | (go_at_call 143; (with_reducible refine (HB.out _).mono ?_); rintro e w1 ⟨rfl, rfl⟩))
     go_ret
     exact ⟨by simp [h1, h2]; omega, ZAd⟩
   ·go_enter Tryz.func171, Tryz.ntmps171
    go_wp2_with (first | (go_at_call 143; (with_reducible refine (HA.out _).mono ?_); rintro e w1 ⟨rfl, rfl⟩) | (go_at_call 143; (with_reducible refine (HB.out _).mono ?_); rintro e w1 ⟨rfl, rfl⟩))
    go_ret
    exact ⟨by simp [h1]; omega, ZAd⟩
end Tree
open Go.RowKit
namespace Tree
open Mem
def cut (most : Int) (xs : List Nat) : List Nat := if 1 ≤ most then xs.take most.toNat else xs
def u32s (xs : List Nat) : List Value := xs.map fun x => .int .u32 ((x : Nat) : Int)
theorem u32Info : (Tryz.prog.info? 35).map (fun i => (i.zero, i.size, i.bytes)) = some (some (.int .u32 0), 1, 4) := by kernel_rfl
def Fresh (w : World) (xs : List Nat) (e : Ending) (w' : World) : Prop :=
 ∃ v, e = .returned v ∧ w'.ownsRow w.heap.size 35 1 v xs.length (u32s xs) ∧ Keeps (fun _ => False) w w'
theorem U32s.of_own {w : World} {base : Nat} {v : Value} {xs : List Nat} (h : w.ownsRow base 35 1 v xs.length (u32s xs)) : U32s w v xs := by
 obtain ⟨a, c, rfl⟩ := own_slice h
 refine ⟨a, c, rfl, fun i x hx => ?_⟩
 have hu : (u32s xs)[i]? = some (.int .u32 ((x : Nat) : Int)) := by simp [u32s, hx]
 have hi : i < xs.length := (List.getElem?_eq_some_iff.1 hx).1
 rcases h.2 with ⟨_, h0⟩ | ⟨g, cap, cur, hv, _, _, _⟩
 ·omega
 ·have hc := h.cells (g := g) (by rw [hv]; rfl) i _ hu
  simp only [Value.slice.injEq] at hv
  rw [Addr.add_mid] at hc
  exact ⟨g, 0, hv.1, hc⟩
theorem rowOf_base {w : World} {base n : Nat} {v : Value} {xs : List Value} (h : w.ownsRow base 35 1 v n xs) (k : Nat) (hk : rowOf v k) : base ≤ k := by
 obtain ⟨a, n', c, rfl, rfl⟩ := hk
 exact (h.lt a.block rfl).1
def WithAct {α : Type} (I : List α → (Nat → Prop) → World → Prop) (f : α → Act) (s : List α × α × Act) (S : Nat → Prop) (W : World) : Prop := I s.1 S W ∧ s.2.2 = f s.2.1
theorem WithAct.stab {α : Type} {I : List α → (Nat → Prop) → World → Prop} {b : Nat} (f : α → Act) (h : Stab b I) : Stab b (WithAct I f) :=
 fun s S T W W' hj hi hk hd ht => ⟨h s.1 S T W W' hj.1 hi hk hd ht, hj.2⟩
end Tree
open Go.RowKit
namespace Tree
open Mem
theorem YieldAt_any {P : Program} {m m' l : Nat} {args : Array Value} {W : World} {R : Ending → World → Prop} (h : YieldAt Fence.wide m P l args W R) : YieldAt Fence.wide m' P l args W R := by
 obtain ⟨fn, tmps, assign, body, hy, hF, hR⟩ := h
 exact ⟨fn, tmps, assign, body, hy, hF, fun c cs _ => hR c cs (room_wide _)⟩
theorem Gives.any {α : Type} {P : Program} {n n' gf : Nat} {lb : Array Value} {encs : α → Array Value} {xs : List α} {W : World} {A : (Nat → Prop) → Prop} (h : Gives P n gf lb encs xs W A) : Gives P n' gf lb encs xs W A := by
 intro l J Jx S hA hJ hJx hin hY h0
 exact callsIn_wide.2 (callsIn_wide.1 (h l J Jx S hA hJ hJx hin (fun pre x rest S1 W1 e hj hi => YieldAt_any (hY pre x rest S1 W1 e hj hi)) h0))
theorem values_any (a : Option Addr) (k c : Nat) (w : World) :
 Calls Tryz.prog 81 #[.slice a k c] w fun e w' => e = .returned (.func (.func 92) #[] #[.pointer (some ⟨w.heap.size, 0, none⟩)]) ∧ w.alloc (.cells #[.slice a k c] 45) = w' := by
 go_enter Tryz.func81, Tryz.ntmps81
 go_wp2
 go_ret
 exact ⟨rfl, rfl⟩
theorem range1_gives (n B1 B2 : Nat) (p : Option Addr) (bx : Bx) (xs : List Nat) (W : World) (hl : xs.length ≤ 1000000)
 (h1 : Blk W B1 70 [.pointer p]) (h2 : Blk W B2 39 [.int .i32 bx.x0, .int .i32 bx.y0, .int .i32 bx.x1, .int .i32 bx.y1])
 (hf : Calls Tryz.prog 161 #[.pointer p, .agg #[.int .i32 bx.x0, .int .i32 bx.y0, .int .i32 bx.x1, .int .i32 bx.y1]] W (Fresh W xs)) :
 Gives Tryz.prog n 160 #[.pointer (some ⟨B1, 0, none⟩), .pointer (some ⟨B2, 0, none⟩)] (fun x : Nat => #[.int .u32 (x : Int)]) xs W (fun _ => True) := by
 refine Gives.any (n := 8) ?_
 intro l J Jx S hA hJ hJx hin hY h0
 have c1 := h1.cell
 have c2 := h2.cell
 refine callsIn_of_wp Tryz.func160 rfl trivial ?_ rfl
 simp only [Tryz.ntmps160, List.size_toArray, List.length_cons, List.length_nil, Nat.reduceAdd, Nat.reduceSub, Array.replicate_succ, Array.replicate_zero, List.push_toArray, List.append_toArray, List.nil_append, List.cons_append]
 have HY := Lib.hid hY; clear hY
 have Hf := Lib.hid hf; clear hf
 have HJ := Lib.hid hJ; clear hJ
 have HX := Lib.hid hJx; clear hJx
 have H0 := Lib.hid h0; clear h0
 gi_wp2_with (first
  | (refine ⟨trivial, ?_⟩; gi_at_call 161; refine (callsIn_wide.2 Hf.out).mono ?_; rintro e w1 ⟨v, rfl, hO, hk⟩; obtain ⟨a, c, rfl⟩ := own_slice hO)
  | (refine ⟨trivial, ?_⟩; gi_at_call 81; refine (callsIn_wide.2 (values_any _ _ _ _)).mono ?_; rintro e w2 ⟨rfl, rfl⟩))
 refine ⟨trivial, ?_⟩
 have hz := hk.size
 have hkk : Keeps (fun _ => False) W (w1.alloc (.cells #[.slice a xs.length c] 45)) := hk.alloc _
 have hv := U32s.of_own (hO.alloc (.cells #[.slice a xs.length c] 45))
 have hBn := (Blk.new w1 45 [.slice a xs.length c]).cell 0
 refine (Gives.any (n := 8) (n' := 8 - 1) (values1_gives 8 w1.heap.size _ xs _ Z8 hBn hv) l J Jx S ?_ (HJ.out.mono (by have := hkk.size; omega)) (HX.out.mono (by have := hkk.size; omega)) (hin.mono hkk.size) (fun pre x rest S1 W1 e hj hi => YieldAt_any (HY.out pre x rest S1 W1 e hj hi)) (HJ.out [] S (fun _ => False) W _ H0.out hin hkk (fun _ _ h => h) (fun _ h => h.elim))).mono ?_
 ·intro k hk1 hk2
  have := hin k hk1
  have := rowOf_base hO k hk2
  omega
 ·rintro e W' ⟨⟨v, rfl⟩, S', hf, hin', hj⟩
  gi_wp2
  go_end0
  exact ⟨⟨_, rfl⟩, S', (Foot.same (hkk.mono (fun _ _ h => h.elim))).trans hf, hin', hj⟩
end Tree
open Go.RowKit
namespace Tree
open Mem
def SeqOf (w : World) (p : Option Addr) (b : Bx) (e : Ending) (w' : World) : Prop :=
 ∃ B1 B2, e = .returned (.func (.func 160) #[] #[.pointer (some ⟨B1, 0, none⟩), .pointer (some ⟨B2, 0, none⟩)]) ∧ Blk w' B1 70 [.pointer p] ∧
  Blk w' B2 39 [.int .i32 b.x0, .int .i32 b.y0, .int .i32 b.x1, .int .i32 b.y1] ∧ Keeps (fun _ => False) w w' ∧ w.heap.size ≤ B1 ∧ w.heap.size ≤ B2
theorem range_any (p : Option Addr) (x0 y0 x1 y1 : Int) (w : World) :
 Calls Tryz.prog 156 #[.pointer p, .agg #[.int .i32 x0, .int .i32 y0, .int .i32 x1, .int .i32 y1]] w (SeqOf w p ⟨x0, y0, x1, y1⟩) := by
 go_enter Tryz.func156, Tryz.ntmps156
 go_wp2
 go_ret
 refine ⟨w.heap.size, w.heap.size + 1, rfl, (Blk.new w 70 [.pointer p]).alloc _, ?_, ((Keeps.refl _ w).alloc _).alloc _, Nat.le_refl _, Z8⟩
 have := Blk.new (w.alloc (.cells #[.pointer p] 70)) 39 [.int .i32 x0, .int .i32 y0, .int .i32 x1, .int .i32 y1]
 simpa using this
theorem at_any (p : Option Addr) (x y : Int) (w : World) :
 Calls Tryz.prog 150 #[.pointer p, .agg #[.int .i32 x, .int .i32 y]] w (SeqOf w p ⟨x, y, x, y⟩) := by
 go_enter Tryz.func150, Tryz.ntmps150
 go_wp2_with (go_at_call 156; refine (range_any p x y x y _).mono ?_; rintro e w1 ⟨B1, B2, rfl, h1, h2, hk, hb1, hb2⟩)
 go_ret
 exact ⟨B1, B2, rfl, h1, h2, ((Keeps.refl _ w).alloc _).trans hk, by simp at hb1; omega, by simp at hb2; omega⟩
theorem crossing_any (p : Option Addr) (px py qx qy : Int) (w : World) :
 Calls Tryz.prog 151 #[.pointer p, .agg #[.int .i32 px, .int .i32 py], .agg #[.int .i32 qx, .int .i32 qy]] w (SeqOf w p ⟨min px qx, min py qy, max px qx, max py qy⟩) := by
 go_enter Tryz.func151, Tryz.ntmps151
 go_wp2_with fail
 refine (bounds2 (w.heap.size + 1 + 1) px py qx qy _ ?_).mono ?_
 ·have := Blk.new ((w.alloc (.cells #[.int .i32 px, .int .i32 py] 37)).alloc (.cells #[.int .i32 qx, .int .i32 qy] 37)) 37 [.int .i32 px, .int .i32 py, .int .i32 qx, .int .i32 qy]
  simpa using this
 rintro e w1 ⟨rfl, hk⟩
 have hz := hk.size
 go_wp2_with (go_at_call 156; refine (range_any p (min px qx) (min py qy) (max px qx) (max py qy) _).mono ?_; rintro e w2 ⟨B1, B2, rfl, h1, h2, hk2, hb1, hb2⟩)
 go_ret
 simp only [World.size_alloc] at hz hb1 hb2
 exact ⟨B1, B2, rfl, h1, h2, (((((Keeps.refl _ w).alloc _).alloc _).alloc _).trans hk).alloc _ |>.trans hk2, Z8, Z8⟩
end Tree
end Go.Proofs.YtdbpfbokfmpgcaaGreat
