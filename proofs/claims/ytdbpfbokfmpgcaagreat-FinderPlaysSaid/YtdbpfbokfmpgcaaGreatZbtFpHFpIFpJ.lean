/-
FpH: fractions in memory: cross, turn, along.
FpI: is a place on a segment, as the document reckons it: On.
FpJ: a fraction as it is told: number, frac.
-/
import Derived.Test.YtdbpfbokfmpgcaaGreatZblFpFFpG
import Derived.Test.YtdbpfbokfmpgcaaGreatZbsFiV
set_option linter.unusedVariables false
set_option linter.unusedSimpArgs false
set_option linter.ambiguousOpen false
set_option maxHeartbeats 16000000
attribute [local go_sem] Go.Oper.semAt_some
namespace Go.Proofs.YtdbpfbokfmpgcaaGreat
theorem Z5 {p : Prop} (h : p := by (repeat (first | with_reducible exact Keeps.refl _ _ | refine Keeps.drew ?_ | refine Keeps.alloc ?_ _ | with_reducible refine Keeps.trans ?_ HK1.out | with_reducible refine Keeps.trans ?_ HK2.out | with_reducible refine Keeps.trans ?_ HK3.out | with_reducible refine Keeps.trans ?_ HK4.out | with_reducible refine Keeps.trans ?_ HK5.out | with_reducible refine Keeps.trans ?_ HK6.out | with_reducible refine Keeps.trans ?_ HK7.out))) : p := h
theorem Z7 {p : Prop} (h : p := by (repeat (first | with_reducible exact Keeps.refl _ _ | refine Keeps.drew ?_ | with_reducible refine Keeps.trans ?_ HK1.out | with_reducible refine Keeps.trans ?_ HK2.out | with_reducible refine Keeps.trans ?_ HK3.out | with_reducible refine Keeps.trans ?_ HK4.out | with_reducible refine Keeps.trans ?_ HK5.out | refine Keeps.alloc ?_ _))) : p := h
theorem ZAO {p : Prop} (h : p := by (repeat (first | with_reducible exact Keeps.refl _ _ | refine Keeps.drew ?_ | refine Keeps.alloc ?_ _ | with_reducible refine Keeps.trans ?_ HK1.out | with_reducible refine Keeps.trans ?_ HK2.out | with_reducible refine Keeps.trans ?_ HK3.out | with_reducible refine Keeps.trans ?_ HK4.out | with_reducible refine Keeps.trans ?_ HK5.out | with_reducible refine Keeps.trans ?_ HK6.out | with_reducible refine Keeps.trans ?_ HK7.out | refine Keeps.setCell ?_ (by simp) _))) : p := h
theorem ZAY {p : Prop} (h : p := by rw [← Bool.decide_and]; exact decide_eq_false hne) : p := h
theorem ZN {p : Prop} (h : p := by
 go_wp2
 exact bodyPost_ret (results_f rfl _ _ (w.heap.size + 3) [.bool false, .slice none 0 0, .bool false, .slice none 0 0] r6 s6 rfl rfl (HR.out _ Z5)) rfl (gave_store4 (HR.out _ Z5) Z8 (by exact Keeps.trans (((((Keeps.refl _ w).alloc _).alloc _).alloc _).alloc _) Z5) HZ6.out HY6.out)) : p := h
open Go.RowKit
namespace Bg
open Mem Gs Fi
def I63 (z : Int) : Prop := -9223372036854775808 ≤ z ∧ z < 9223372036854775808
theorem cross_t (ax ay bx by_ : Int) (h1 : I63 ax) (h2 : I63 ay) (h3 : I63 bx) (h4 : I63 by_) (w : World) :
 Calls Tryz.prog 32 #[.int .i64 ax, .int .i64 ay, .int .i64 bx, .int .i64 by_] w (GaveF (ax * by_ - ay * bx) 1 17 w) := by
 have H1 := Lib.hid (fun W => whole_t ax h1 W)
 have H2 := Lib.hid (fun W => whole_t by_ h4 W)
 have H3 := Lib.hid (fun W => whole_t ay h2 W)
 have H4 := Lib.hid (fun W => whole_t bx h3 W)
 have HM := Lib.hid (fun p q r s x y W (a : Wq W p x 2) (b : Wq W q 1 2) (c : Wq W r y 2) (d : Wq W s 1 2) => mul_t p q r s x 1 y 1 2 2 W a b c d ZAH)
 have HS := Lib.hid (fun p q r s x y W (a : Wq W p x 4) (b : Wq W q (1 * 1) 4) (c : Wq W r y 4) (d : Wq W s (1 * 1) 4) => sub_t p q r s x (1 * 1) y (1 * 1) 4 4 W a b c d ZAH)
 have hB := Blk.new w 103 [.bool false, .slice none 0 0, .bool false, .slice none 0 0]
 have HB := Lib.hid hB
 have hE : ax * by_ - ay * bx = ax * by_ * (1 * 1) + -(ay * bx) * (1 * 1) := by omega
 rw [hE]
 clear hB h1 h2 h3 h4 hE
 go_enter Tryz.func32, Tryz.ntmps32
 go_wp2_with (first
  | (go_at_call 40; (with_reducible refine (HS.out r3 s3 r6 s6 _ _ _ (HZ3.out.kd Z5) (HY3.out.kd Z5) (HZ6.out) (HY6.out)).mono ?_); rintro e w7 ⟨r7, s7, rfl, k7, z7, y7⟩; have HK7 := Lib.hid k7; have HZ7 := Lib.hid z7; have HY7 := Lib.hid y7; clear k7 z7 y7; have hg := HB.out.keeps (S := fun _ => False) (w' := w7) Z5 (fun h => h); have cg := hg.cell; have fg := hg.frozen; have HG := Lib.hid hg; clear hg)
  | (go_at_call 41; (with_reducible refine (HM.out r4 s4 r5 s5 _ _ _ (HZ4.out.kd Z5) (HY4.out.kd Z5) (HZ5.out) (HY5.out)).mono ?_); rintro e w6 ⟨r6, s6, rfl, k6, z6, y6⟩; have HK6 := Lib.hid k6; have HZ6 := Lib.hid z6; have HY6 := Lib.hid y6; clear k6 z6 y6)
  | (go_at_call 41; (with_reducible refine (HM.out r1 s1 r2 s2 _ _ _ (HZ1.out.kd Z5) (HY1.out.kd Z5) (HZ2.out) (HY2.out)).mono ?_); rintro e w3 ⟨r3, s3, rfl, k3, z3, y3⟩; have HK3 := Lib.hid k3; have HZ3 := Lib.hid z3; have HY3 := Lib.hid y3; clear k3 z3 y3)
  | (go_at_call 35; (with_reducible refine (H4.out _).mono ?_); rintro e w5 ⟨r5, s5, rfl, k5, z5, y5⟩; have HK5 := Lib.hid k5; have HZ5 := Lib.hid z5; have HY5 := Lib.hid y5; clear k5 z5 y5)
  | (go_at_call 35; (with_reducible refine (H3.out _).mono ?_); rintro e w4 ⟨r4, s4, rfl, k4, z4, y4⟩; have HK4 := Lib.hid k4; have HZ4 := Lib.hid z4; have HY4 := Lib.hid y4; clear k4 z4 y4)
  | (go_at_call 35; (with_reducible refine (H2.out _).mono ?_); rintro e w2 ⟨r2, s2, rfl, k2, z2, y2⟩; have HK2 := Lib.hid k2; have HZ2 := Lib.hid z2; have HY2 := Lib.hid y2; clear k2 z2 y2)
  | (go_at_call 35; (with_reducible refine (H1.out _).mono ?_); rintro e w1 ⟨r1, s1, rfl, k1, z1, y1⟩; have HK1 := Lib.hid k1; have HZ1 := Lib.hid z1; have HY1 := Lib.hid y1; clear k1 z1 y1))
 exact bodyPost_ret (results_f rfl _ _ w.heap.size [.bool false, .slice none 0 0, .bool false, .slice none 0 0] r7 s7 rfl rfl HG.out) rfl (gave_store4 HG.out (Nat.le_refl _) (by exact Keeps.trans ((Keeps.refl _ w).alloc _) Z5) HZ7.out HY7.out)
theorem on_wrap {x y : Int} (h : On x y) : IntKind.i64.wrap x = x ∧ IntKind.i64.wrap y = y := by
 obtain ⟨h1, h2, h3, h4⟩ := h
 unfold B0 at *
 exact ⟨IntWalk.i64_in _ Z8, IntWalk.i64_in _ Z8⟩
theorem on_dif {x y u v : Int} (h : On x y) (g : On u v) : IntKind.i64.wrap (u - x) = u - x ∧ IntKind.i64.wrap (v - y) = v - y ∧ I63 (u - x) ∧ I63 (v - y) := by
 obtain ⟨h1, h2, h3, h4⟩ := h
 obtain ⟨g1, g2, g3, g4⟩ := g
 unfold B0 at *
 exact ⟨IntWalk.i64_in _ Z8, IntWalk.i64_in _ Z8, ⟨Z8, Z8⟩, by constructor <;> omega⟩
theorem turn_t (ax ay bx by_ cx cy : Int) (h1 : On ax ay) (h2 : On bx by_) (h3 : On cx cy) (w : World) :
 Calls Tryz.prog 30 #[.agg #[.int .i32 ax, .int .i32 ay], .agg #[.int .i32 bx, .int .i32 by_], .agg #[.int .i32 cx, .int .i32 cy]] w (fun e w' => e = .returned (.int .i64 (sg (turnN ax ay bx by_ cx cy))) ∧ Keeps (fun _ => False) w w') := by
 obtain ⟨d1, d2, i1, i2⟩ := on_dif h1 h2
 obtain ⟨d3, d4, i3, i4⟩ := on_dif h1 h3
 obtain ⟨a1, a2⟩ := on_wrap h1
 obtain ⟨a3, a4⟩ := on_wrap h2
 obtain ⟨a5, a6⟩ := on_wrap h3
 have HC := Lib.hid (fun W => cross_t (bx - ax) (by_ - ay) (cx - ax) (cy - ay) i1 i2 i3 i4 W)
 have HS := Lib.hid (fun p q z W (a : Wq W p z 17) => Sign_t p q z 1 17 W a ZAH)
 have hW : Keeps (fun _ => False) w (((w.alloc (.cells #[.int .i32 ax, .int .i32 ay] 37)).alloc (.cells #[.int .i32 bx, .int .i32 by_] 37)).alloc (.cells #[.int .i32 cx, .int .i32 cy] 37)) := by (repeat (first | with_reducible exact Keeps.refl _ _ | refine Keeps.drew ?_ | refine Keeps.alloc ?_ _ | with_reducible refine Keeps.trans ?_ HK1.out | with_reducible refine Keeps.trans ?_ HK2.out | with_reducible refine Keeps.trans ?_ HK3.out | with_reducible refine Keeps.trans ?_ HK4.out | with_reducible refine Keeps.trans ?_ HK5.out | with_reducible refine Keeps.trans ?_ HK6.out | with_reducible refine Keeps.trans ?_ HK7.out))
 have HW := Lib.hid hW
 unfold turnN
 clear h1 h2 h3 hW i1 i2 i3 i4
 go_enter Tryz.func30, Tryz.ntmps30
 go_wp2_with (first
  | (go_at_call 32; (with_reducible refine (HC.out _).mono ?_); rintro e w4 ⟨r4, s4, rfl, k4, z4, y4⟩; have HK4 := Lib.hid k4; have HZ4 := Lib.hid z4; have HY4 := Lib.hid y4; clear k4 z4 y4)
  | (go_at_call 33; (with_reducible refine (HS.out r4 s4 _ _ (HZ4.out.kd Z5)).mono ?_); rintro e w5 ⟨rfl, k5⟩; have HK5 := Lib.hid k5; clear k5))
 go_ret
 exact ⟨rfl, Keeps.trans HW.out Z5⟩
theorem boxP_kd {w : World} {ax ay bx by_ cx cy : Int} {W : World} (hk : Keeps (fun _ => False) (((w.alloc (.cells #[.int .i32 ax, .int .i32 ay] 37)).alloc (.cells #[.int .i32 bx, .int .i32 by_] 37)).alloc (.cells #[.int .i32 cx, .int .i32 cy] 37)) W) : (∀ i : Nat, W.cell? ⟨w.heap.size, i, none⟩ = ([.int .i32 ax, .int .i32 ay] : List Value)[i]?) ∧ (∀ i : Nat, W.cell? ⟨w.heap.size + 1, i, none⟩ = ([.int .i32 bx, .int .i32 by_] : List Value)[i]?) ∧ (∀ i : Nat, W.cell? ⟨w.heap.size + 1 + 1, i, none⟩ = ([.int .i32 cx, .int .i32 cy] : List Value)[i]?) := by
 have h1 := (((Blk.new w 37 [.int .i32 ax, .int .i32 ay]).alloc (.cells #[.int .i32 bx, .int .i32 by_] 37)).alloc (.cells #[.int .i32 cx, .int .i32 cy] 37)).keeps hk (fun h => h)
 have h2 := ((Blk.new (w.alloc (.cells #[.int .i32 ax, .int .i32 ay] 37)) 37 [.int .i32 bx, .int .i32 by_]).alloc (.cells #[.int .i32 cx, .int .i32 cy] 37)).keeps hk (fun h => h)
 have h3 := (Blk.new ((w.alloc (.cells #[.int .i32 ax, .int .i32 ay] 37)).alloc (.cells #[.int .i32 bx, .int .i32 by_] 37)) 37 [.int .i32 cx, .int .i32 cy]).keeps hk (fun h => h)
 simp only [World.size_alloc] at h2 h3
 exact ⟨h1.cell, h2.cell, h3.cell⟩
theorem boxR_kd {w : World} {ax ay bx by_ cx cy : Int} {W : World} (hk : Keeps (fun _ => False) ((((w.alloc (.cells #[.int .i32 ax, .int .i32 ay] 37)).alloc (.cells #[.int .i32 bx, .int .i32 by_] 37)).alloc (.cells #[.int .i32 cx, .int .i32 cy] 37)).alloc (.cells #[.bool false, .slice none 0 0, .bool false, .slice none 0 0] 103)) W) : Blk W (w.heap.size + 3) 103 [.bool false, .slice none 0 0, .bool false, .slice none 0 0] := by
 have h2 := (Blk.new (((w.alloc (.cells #[.int .i32 ax, .int .i32 ay] 37)).alloc (.cells #[.int .i32 bx, .int .i32 by_] 37)).alloc (.cells #[.int .i32 cx, .int .i32 cy] 37)) 103 [.bool false, .slice none 0 0, .bool false, .slice none 0 0]).keeps hk (fun h => h)
 simpa only [World.size_alloc] using h2
theorem along_x (ax ay bx by_ cx cy : Int) (h1 : On ax ay) (h2 : On bx by_) (h3 : On cx cy) (hx : ¬ ax = bx) (w : World) :
 Calls Tryz.prog 39 #[.agg #[.int .i32 ax, .int .i32 ay], .agg #[.int .i32 bx, .int .i32 by_], .agg #[.int .i32 cx, .int .i32 cy]] w (GaveF (q2 (cx - ax) (bx - ax)).1 (q2 (cx - ax) (bx - ax)).2 4 w) := by
 obtain ⟨d1, d2, i1, i2⟩ := on_dif h1 h2
 obtain ⟨d3, d4, i3, i4⟩ := on_dif h1 h3
 obtain ⟨a1, a2⟩ := on_wrap h1
 obtain ⟨a3, a4⟩ := on_wrap h2
 obtain ⟨a5, a6⟩ := on_wrap h3
 have H1 := Lib.hid (fun W => whole_t (cx - ax) i3 W)
 have H2 := Lib.hid (fun W => whole_t (bx - ax) i1 W)
 have HU := Lib.hid (fun p q r s x y W (a : Wq W p x 2) (b : Wq W q 1 2) (c : Wq W r y 2) (d : Wq W s 1 2) => quo_t p q r s x 1 y 1 2 2 W a b c d ZAH)
 simp only [Int.mul_one, Int.one_mul] at HU
 have HQ := Lib.hid (fun W (hk : Keeps (fun _ => False) (((w.alloc (.cells #[.int .i32 ax, .int .i32 ay] 37)).alloc (.cells #[.int .i32 bx, .int .i32 by_] 37)).alloc (.cells #[.int .i32 cx, .int .i32 cy] 37)) W) => boxP_kd (w := w) (ax := ax) (ay := ay) (bx := bx) (by_ := by_) (cx := cx) (cy := cy) hk)
 have HR := Lib.hid (fun W (hk : Keeps (fun _ => False) ((((w.alloc (.cells #[.int .i32 ax, .int .i32 ay] 37)).alloc (.cells #[.int .i32 bx, .int .i32 by_] 37)).alloc (.cells #[.int .i32 cx, .int .i32 cy] 37)).alloc (.cells #[.bool false, .slice none 0 0, .bool false, .slice none 0 0] 103)) W) => boxR_kd (w := w) (ax := ax) (ay := ay) (bx := bx) (by_ := by_) (cx := cx) (cy := cy) hk)
 clear h1 h2 h3 i1 i2 i3 i4
 go_enter Tryz.func39, Tryz.ntmps39
 go_wp2
 go_region_held3 (fun W => (∀ i : Nat, W.cell? ⟨w.heap.size, i, none⟩ = ([.int .i32 ax, .int .i32 ay] : List Value)[i]?) ∧ (∀ i : Nat, W.cell? ⟨w.heap.size + 1, i, none⟩ = ([.int .i32 bx, .int .i32 by_] : List Value)[i]?) ∧ (∀ i : Nat, W.cell? ⟨w.heap.size + 1 + 1, i, none⟩ = ([.int .i32 cx, .int .i32 cy] : List Value)[i]?)) (first | with_reducible assumption | exact HQ.out _ ZAO) (first
  | (go_at_call 35; (with_reducible refine (H1.out _).mono ?_); rintro e w4 ⟨r4, s4, rfl, k4, z4, y4⟩; have HK4 := Lib.hid k4; have HZ4 := Lib.hid z4; have HY4 := Lib.hid y4; clear k4 z4 y4)
  | (go_at_call 35; (with_reducible refine (H2.out _).mono ?_); rintro e w5 ⟨r5, s5, rfl, k5, z5, y5⟩; have HK5 := Lib.hid k5; have HZ5 := Lib.hid z5; have HY5 := Lib.hid y5; clear k5 z5 y5)
  | (go_at_call 34; (with_reducible refine (HU.out r4 s4 r5 s5 _ _ _ (HZ4.out.kd Z5) (HY4.out.kd Z5) (HZ5.out.kd Z5) (HY5.out.kd Z5)).mono ?_); rintro e w6 ⟨r6, s6, rfl, k6, z6, y6⟩; have HK6 := Lib.hid k6; have HZ6 := Lib.hid z6; have HY6 := Lib.hid y6; clear k6 z6 y6; have cg := (HR.out w6 Z5).cell; have fg := (HR.out w6 Z5).frozen))
 all_goals
  exact ZN
theorem along_y (ax ay by_ cx cy : Int) (h1 : On ax ay) (h2 : On ax by_) (h3 : On cx cy) (w : World) :
 Calls Tryz.prog 39 #[.agg #[.int .i32 ax, .int .i32 ay], .agg #[.int .i32 ax, .int .i32 by_], .agg #[.int .i32 cx, .int .i32 cy]] w (GaveF (q2 (cy - ay) (by_ - ay)).1 (q2 (cy - ay) (by_ - ay)).2 4 w) := by
 obtain ⟨d1, d2, i1, i2⟩ := on_dif h1 h2
 obtain ⟨d3, d4, i3, i4⟩ := on_dif h1 h3
 obtain ⟨a1, a2⟩ := on_wrap h1
 obtain ⟨a3, a4⟩ := on_wrap h2
 obtain ⟨a5, a6⟩ := on_wrap h3
 have H1 := Lib.hid (fun W => whole_t (cy - ay) i4 W)
 have H2 := Lib.hid (fun W => whole_t (by_ - ay) i2 W)
 have HU := Lib.hid (fun p q r s x y W (a : Wq W p x 2) (b : Wq W q 1 2) (c : Wq W r y 2) (d : Wq W s 1 2) => quo_t p q r s x 1 y 1 2 2 W a b c d ZAH)
 simp only [Int.mul_one, Int.one_mul] at HU
 have HQ := Lib.hid (fun W (hk : Keeps (fun _ => False) (((w.alloc (.cells #[.int .i32 ax, .int .i32 ay] 37)).alloc (.cells #[.int .i32 ax, .int .i32 by_] 37)).alloc (.cells #[.int .i32 cx, .int .i32 cy] 37)) W) => boxP_kd (w := w) (ax := ax) (ay := ay) (bx := ax) (by_ := by_) (cx := cx) (cy := cy) hk)
 have HR := Lib.hid (fun W (hk : Keeps (fun _ => False) ((((w.alloc (.cells #[.int .i32 ax, .int .i32 ay] 37)).alloc (.cells #[.int .i32 ax, .int .i32 by_] 37)).alloc (.cells #[.int .i32 cx, .int .i32 cy] 37)).alloc (.cells #[.bool false, .slice none 0 0, .bool false, .slice none 0 0] 103)) W) => boxR_kd (w := w) (ax := ax) (ay := ay) (bx := ax) (by_ := by_) (cx := cx) (cy := cy) hk)
 clear h1 h2 h3 i1 i2 i3 i4
 go_enter Tryz.func39, Tryz.ntmps39
 go_wp2
 go_region_held3 (fun W => (∀ i : Nat, W.cell? ⟨w.heap.size, i, none⟩ = ([.int .i32 ax, .int .i32 ay] : List Value)[i]?) ∧ (∀ i : Nat, W.cell? ⟨w.heap.size + 1, i, none⟩ = ([.int .i32 ax, .int .i32 by_] : List Value)[i]?) ∧ (∀ i : Nat, W.cell? ⟨w.heap.size + 1 + 1, i, none⟩ = ([.int .i32 cx, .int .i32 cy] : List Value)[i]?)) (first | with_reducible assumption | exact HQ.out _ ZAO) (first
  | (go_at_call 35; (with_reducible refine (H1.out _).mono ?_); rintro e w4 ⟨r4, s4, rfl, k4, z4, y4⟩; have HK4 := Lib.hid k4; have HZ4 := Lib.hid z4; have HY4 := Lib.hid y4; clear k4 z4 y4)
  | (go_at_call 35; (with_reducible refine (H2.out _).mono ?_); rintro e w5 ⟨r5, s5, rfl, k5, z5, y5⟩; have HK5 := Lib.hid k5; have HZ5 := Lib.hid z5; have HY5 := Lib.hid y5; clear k5 z5 y5)
  | (go_at_call 34; (with_reducible refine (HU.out r4 s4 r5 s5 _ _ _ (HZ4.out.kd Z5) (HY4.out.kd Z5) (HZ5.out.kd Z5) (HY5.out.kd Z5)).mono ?_); rintro e w6 ⟨r6, s6, rfl, k6, z6, y6⟩; have HK6 := Lib.hid k6; have HZ6 := Lib.hid z6; have HY6 := Lib.hid y6; clear k6 z6 y6; have cg := (HR.out w6 Z5).cell; have fg := (HR.out w6 Z5).frozen))
 all_goals
  exact ZN
theorem along_t (ax ay bx by_ cx cy : Int) (h1 : On ax ay) (h2 : On bx by_) (h3 : On cx cy) (w : World) :
 Calls Tryz.prog 39 #[.agg #[.int .i32 ax, .int .i32 ay], .agg #[.int .i32 bx, .int .i32 by_], .agg #[.int .i32 cx, .int .i32 cy]] w (GaveF (alongN ax ay bx by_ cx cy).1 (alongN ax ay bx by_ cx cy).2 4 w) := by
 unfold alongN
 by_cases h : ax = bx
 ·subst h
  rw [if_neg ZA7]; exact along_y ax ay by_ cx cy h1 h2 h3 w
 ·rw [if_pos h]; exact along_x ax ay bx by_ cx cy h1 h2 h3 h w
end Bg
open Go.RowKit
namespace Bg
open Mem Gs Fi
theorem sg_zero {z : Int} : sg z = 0 ↔ z = 0 := by unfold sg; split <;> (try split) <;> omega
theorem sg_nn {z : Int} : sg z ≥ 0 ↔ 0 ≤ z := by unfold sg; split <;> (try split) <;> omega
theorem sg_np {z : Int} : sg z ≤ 0 ↔ z ≤ 0 := by unfold sg; split <;> (try split) <;> omega
theorem sg_pos {z : Int} : sg z > 0 ↔ 0 < z := by unfold sg; split <;> (try split) <;> omega
theorem sg_neg {z : Int} : sg z < 0 ↔ z < 0 := by unfold sg; split <;> (try split) <;> omega
theorem eq_pts (ax ay bx by_ : Int) (q : Bool) (hq : (decide (ax = bx) && decide (ay = by_)) = q) (W : World) : (binOp .eql 37 (.agg #[.int .i32 ax, .int .i32 ay]) (.agg #[.int .i32 bx, .int .i32 by_])).run Tryz.prog W = .ok (.bool q) W := by
 rw [← hq]
 go_simp
 split <;> (try split) <;> simp_all
theorem on_one (ax ay cx cy : Int) (w : World) :
 Calls Tryz.prog 29 #[.agg #[.int .i32 cx, .int .i32 cy], .agg #[.int .i32 ax, .int .i32 ay], .agg #[.int .i32 ax, .int .i32 ay]] w (fun e w' => e = .returned (.bool (decide (cx = ax ∧ cy = ay))) ∧ Keeps (fun _ => False) w w') := by
 obtain ⟨q, hq⟩ : ∃ q, (decide (cx = ax) && decide (cy = ay)) = q := ⟨_, rfl⟩
 have e1 := eq_pts ax ay ax ay true ZA7
 have e2 := eq_pts cx cy ax ay q hq
 rw [Bool.decide_and, hq]
 clear hq
 have hW : Keeps (fun _ => False) w (((w.alloc (.cells #[.int .i32 cx, .int .i32 cy] 37)).alloc (.cells #[.int .i32 ax, .int .i32 ay] 37)).alloc (.cells #[.int .i32 ax, .int .i32 ay] 37)) := by (repeat (first | with_reducible exact Keeps.refl _ _ | refine Keeps.drew ?_ | refine Keeps.alloc ?_ _ | with_reducible refine Keeps.trans ?_ HK1.out | with_reducible refine Keeps.trans ?_ HK2.out | with_reducible refine Keeps.trans ?_ HK3.out | with_reducible refine Keeps.trans ?_ HK4.out | with_reducible refine Keeps.trans ?_ HK5.out | with_reducible refine Keeps.trans ?_ HK6.out | with_reducible refine Keeps.trans ?_ HK7.out))
 have HW := Lib.hid hW
 clear hW
 go_enter Tryz.func29, Tryz.ntmps29
 go_wp2
 go_ret
 exact ⟨rfl, HW.out⟩
theorem on_off (ax ay bx by_ cx cy : Int) (h1 : On ax ay) (h2 : On bx by_) (h3 : On cx cy) (hne : ¬ (ax = bx ∧ ay = by_)) (ht : ¬ turnN ax ay bx by_ cx cy = 0) (w : World) :
 Calls Tryz.prog 29 #[.agg #[.int .i32 cx, .int .i32 cy], .agg #[.int .i32 ax, .int .i32 ay], .agg #[.int .i32 bx, .int .i32 by_]] w (fun e w' => e = .returned (.bool false) ∧ Keeps (fun _ => False) w w') := by
 have HT := Lib.hid (fun W => turn_t ax ay bx by_ cx cy h1 h2 h3 W)
 have e1 := eq_pts ax ay bx by_ false ZAY
 clear hne
 have HQ := Lib.hid (fun W (hk : Keeps (fun _ => False) (((w.alloc (.cells #[.int .i32 cx, .int .i32 cy] 37)).alloc (.cells #[.int .i32 ax, .int .i32 ay] 37)).alloc (.cells #[.int .i32 bx, .int .i32 by_] 37)) W) => boxP_kd (w := w) (ax := cx) (ay := cy) (bx := ax) (by_ := ay) (cx := bx) (cy := by_) hk)
 have hs : ¬ sg (turnN ax ay bx by_ cx cy) = 0 := fun h => ht (sg_zero.1 h)
 clear h1 h2 h3 ht
 go_enter Tryz.func29, Tryz.ntmps29
 go_wp2_with (go_at_call 30; (with_reducible refine (HT.out _).mono ?_); rintro e w1 ⟨rfl, k1⟩; have HK1 := Lib.hid k1; have cX := (HQ.out w1 k1).1; have cY := (HQ.out w1 k1).2.1; have cZ := (HQ.out w1 k1).2.2; clear k1)
 go_ret
 exact ⟨rfl, by exact Keeps.trans ((((Keeps.refl _ w).alloc _).alloc _).alloc _) HK1.out⟩
theorem on_yes (ax ay bx by_ cx cy : Int) (h1 : On ax ay) (h2 : On bx by_) (h3 : On cx cy) (hne : ¬ (ax = bx ∧ ay = by_)) (ht : turnN ax ay bx by_ cx cy = 0) (hp : 0 ≤ (alongN ax ay bx by_ cx cy).1) (w : World) :
 Calls Tryz.prog 29 #[.agg #[.int .i32 cx, .int .i32 cy], .agg #[.int .i32 ax, .int .i32 ay], .agg #[.int .i32 bx, .int .i32 by_]] w (fun e w' => e = .returned (.bool (decide ((alongN ax ay bx by_ cx cy).1 ≤ (alongN ax ay bx by_ cx cy).2))) ∧ Keeps (fun _ => False) w w') := by
 have HT := Lib.hid (fun W => turn_t ax ay bx by_ cx cy h1 h2 h3 W)
 have e1 := eq_pts ax ay bx by_ false ZAY
 clear hne
 have HA := Lib.hid (fun W => along_t ax ay bx by_ cx cy h1 h2 h3 W)
 have HQ := Lib.hid (fun W (hk : Keeps (fun _ => False) (((w.alloc (.cells #[.int .i32 cx, .int .i32 cy] 37)).alloc (.cells #[.int .i32 ax, .int .i32 ay] 37)).alloc (.cells #[.int .i32 bx, .int .i32 by_] 37)) W) => boxP_kd (w := w) (ax := cx) (ay := cy) (bx := ax) (by_ := ay) (cx := bx) (cy := by_) hk)
 have hs : sg (turnN ax ay bx by_ cx cy) = 0 := sg_zero.2 ht
 obtain ⟨tn, htn⟩ := ZE ((alongN ax ay bx by_ cx cy).1)
 obtain ⟨td, htd⟩ := ZE ((alongN ax ay bx by_ cx cy).2)
 rw [← htn, ← htd] at HA ⊢
 rw [← htn] at hp
 have hsp : sg tn ≥ 0 := sg_nn.2 hp
 have H1 := Lib.hid (fun W => whole_t 1 ZAH W)
 have HC := Lib.hid (fun p q r s W (a : Wq W p tn 4) (b : Wq W q td 4) (c : Wq W r 1 2) (d : Wq W s 1 2) => cmp_t p q r s tn td 1 1 4 2 W a b c d ZAH)
 have HS := Lib.hid (fun p q W (a : Wq W p tn 4) => Sign_t p q tn 1 4 W a ZAH)
 have hfin : decide (sg (tn * 1 - 1 * td) ≤ 0) = decide (tn ≤ td) := by rw [decide_eq_decide, sg_np]; omega
 rw [← hfin]
 clear h1 h2 h3 ht hp htn htd hfin
 go_enter Tryz.func29, Tryz.ntmps29
 go_wp2_with (first | (go_at_call 30; (with_reducible refine (HT.out _).mono ?_); rintro e w1 ⟨rfl, k1⟩; have HK1 := Lib.hid k1; have cX := (HQ.out w1 k1).1; have cY := (HQ.out w1 k1).2.1; have cZ := (HQ.out w1 k1).2.2; clear k1) | (go_at_call 39; (with_reducible refine (HA.out _).mono ?_); rintro e w2 ⟨r2, s2, rfl, k2, z2, y2⟩; have HK2 := Lib.hid k2; have HZ2 := Lib.hid z2; have HY2 := Lib.hid y2; clear k2 z2 y2))
 have HX := Lib.hid (fun W (hk : Keeps (fun _ => False) (w2.alloc (.cells #[.bool r2.m, .slice r2.a r2.n r2.c, .bool s2.m, .slice s2.a s2.n s2.c] 103)) W) => ((Blk.new w2 103 [.bool r2.m, .slice r2.a r2.n r2.c, .bool s2.m, .slice s2.a s2.n s2.c]).keeps hk (fun h => h)).cell)
 go_region_held3 (fun W => ∀ i : Nat, W.cell? ⟨w2.heap.size, i, none⟩ = ([.bool r2.m, .slice r2.a r2.n r2.c, .bool s2.m, .slice s2.a s2.n s2.c] : List Value)[i]?) (first | with_reducible assumption | exact HX.out _ Z7) (first
  | (go_at_call 33; (with_reducible refine (HS.out r2 s2 _ (HZ2.out.kd Z7)).mono ?_); rintro e w3 ⟨rfl, k3⟩; have HK3 := Lib.hid k3; clear k3)
  | (go_at_call 35; (with_reducible refine (H1.out _).mono ?_); rintro e w4 ⟨r4, s4, rfl, k4, z4, y4⟩; have HK4 := Lib.hid k4; have HZ4 := Lib.hid z4; have HY4 := Lib.hid y4; clear k4 z4 y4)
  | (go_at_call 36; (with_reducible refine (HC.out r2 s2 r4 s4 _ (HZ2.out.kd Z7) (HY2.out.kd Z7) (HZ4.out.kd Z7) (HY4.out.kd Z7)).mono ?_); rintro e w5 ⟨rfl, k5⟩; have HK5 := Lib.hid k5; clear k5))
 all_goals
  go_wp2
  go_ret
  exact ⟨ZA7, by exact Keeps.trans ((((Keeps.refl _ w).alloc _).alloc _).alloc _) Z7⟩
theorem on_no (ax ay bx by_ cx cy : Int) (h1 : On ax ay) (h2 : On bx by_) (h3 : On cx cy) (hne : ¬ (ax = bx ∧ ay = by_)) (ht : turnN ax ay bx by_ cx cy = 0) (hp : ¬ 0 ≤ (alongN ax ay bx by_ cx cy).1) (w : World) :
 Calls Tryz.prog 29 #[.agg #[.int .i32 cx, .int .i32 cy], .agg #[.int .i32 ax, .int .i32 ay], .agg #[.int .i32 bx, .int .i32 by_]] w (fun e w' => e = .returned (.bool false) ∧ Keeps (fun _ => False) w w') := by
 have HT := Lib.hid (fun W => turn_t ax ay bx by_ cx cy h1 h2 h3 W)
 have e1 := eq_pts ax ay bx by_ false ZAY
 clear hne
 have HA := Lib.hid (fun W => along_t ax ay bx by_ cx cy h1 h2 h3 W)
 have HQ := Lib.hid (fun W (hk : Keeps (fun _ => False) (((w.alloc (.cells #[.int .i32 cx, .int .i32 cy] 37)).alloc (.cells #[.int .i32 ax, .int .i32 ay] 37)).alloc (.cells #[.int .i32 bx, .int .i32 by_] 37)) W) => boxP_kd (w := w) (ax := cx) (ay := cy) (bx := ax) (by_ := ay) (cx := bx) (cy := by_) hk)
 have hs : sg (turnN ax ay bx by_ cx cy) = 0 := sg_zero.2 ht
 obtain ⟨tn, htn⟩ := ZE ((alongN ax ay bx by_ cx cy).1)
 obtain ⟨td, htd⟩ := ZE ((alongN ax ay bx by_ cx cy).2)
 rw [← htn, ← htd] at HA
 rw [← htn] at hp
 have hsp : decide (sg tn ≥ 0) = false := decide_eq_false (fun h => hp (sg_nn.1 h))
 have hsq : decide (0 ≤ sg tn) = false := hsp
 have HS := Lib.hid (fun p q W (a : Wq W p tn 4) => Sign_t p q tn 1 4 W a ZAH)
 clear h1 h2 h3 ht hp htn htd
 go_enter Tryz.func29, Tryz.ntmps29
 go_wp2_with (first | (go_at_call 30; (with_reducible refine (HT.out _).mono ?_); rintro e w1 ⟨rfl, k1⟩; have HK1 := Lib.hid k1; have cX := (HQ.out w1 k1).1; have cY := (HQ.out w1 k1).2.1; have cZ := (HQ.out w1 k1).2.2; clear k1) | (go_at_call 39; (with_reducible refine (HA.out _).mono ?_); rintro e w2 ⟨r2, s2, rfl, k2, z2, y2⟩; have HK2 := Lib.hid k2; have HZ2 := Lib.hid z2; have HY2 := Lib.hid y2; clear k2 z2 y2))
 have HX := Lib.hid (fun W (hk : Keeps (fun _ => False) (w2.alloc (.cells #[.bool r2.m, .slice r2.a r2.n r2.c, .bool s2.m, .slice s2.a s2.n s2.c] 103)) W) => ((Blk.new w2 103 [.bool r2.m, .slice r2.a r2.n r2.c, .bool s2.m, .slice s2.a s2.n s2.c]).keeps hk (fun h => h)).cell)
 rename_i Kx hKx
 refine wp_mono (Q := Exit.then Kx (fun _ _ _ => False)) ?_ (fun e a w h => ZAN)
 refine wp_region_held_drew (S := fun W => ∀ i : Nat, W.cell? ⟨w2.heap.size, i, none⟩ = ([.bool r2.m, .slice r2.a r2.n r2.c, .bool s2.m, .slice s2.a s2.n s2.c] : List Value)[i]?) ZAB (HX.out _ Z7) (fun hS0 => ?_)
 (refine tk 0 (v := ?_) rfl ZAB ZAB (HX.out _ Z7) ?_ ?_; rotate_left; (focus (rintro w hSw; (try dsimp only at hSw); go_simp; (try with_reducible rfl))); simp only [y0, y1, y2, y3, y4, y5, y6])
 refine anyH_one 1 ZAB rfl ZAP (fun K hK => ?_)
 go_simp
 go_at_call 33
 (with_reducible refine (HS.out r2 s2 _ (HZ2.out.kd Z7)).mono ?_)
 rintro e w3 ⟨rfl, k3⟩
 have HK3 := Lib.hid k3
 clear k3
 refine hK _ _ (HX.out _ Z7) ?_
 clear hK
 try simp only [y0, y1, y2, y3, y4, y5, y6]
 (refine tk 2 (v := ?_) rfl ZAB ZAB (HX.out _ Z7) ?_ ?_; rotate_left; (focus (rintro w hSw; (try dsimp only at hSw); go_simp; (try with_reducible rfl))); simp only [y0, y1, y2, y3, y4, y5, y6])
 (refine tk 3 (v := ?_) rfl ZAB ZAB (HX.out _ Z7) ?_ ?_; rotate_left; (focus (rintro w hSw; (try dsimp only at hSw); go_simp; (try with_reducible rfl))); simp only [y0, y1, y2, y3, y4, y5, y6])
 (refine sk 4 rfl ZAB ZAB (HX.out _ Z7) ?_; simp only [y0, y1, y2, y3, y4, y5, y6])
 (refine sk 5 rfl ZAB ZAB (HX.out _ Z7) ?_; simp only [y0, y1, y2, y3, y4, y5, y6])
 (refine sk 6 rfl ZAB ZAB (HX.out _ Z7) ?_; simp only [y0, y1, y2, y3, y4, y5, y6])
 (refine sk 7 rfl ZAB ZAB (HX.out _ Z7) ?_; simp only [y0, y1, y2, y3, y4, y5, y6])
 (refine tk 8 (v := ?_) rfl ZAB ZAB (HX.out _ Z7) ?_ ?_; rotate_left; (focus (rintro w hSw; (try dsimp only at hSw); go_simp; (try with_reducible rfl))); simp only [y0, y1, y2, y3, y4, y5, y6])
 (refine tk 9 (v := ?_) rfl ZAB ZAB (HX.out _ Z7) ?_ ?_; rotate_left; (focus (rintro w hSw; (try dsimp only at hSw); go_simp; (try with_reducible rfl))); simp only [y0, y1, y2, y3, y4, y5, y6])
 refine wpAnyH_done ZAB ?_ _
 refine hKx _ _ ?_
 clear hKx
 go_wp2
 go_ret
 exact ⟨ZA7, by exact Keeps.trans ((((Keeps.refl _ w).alloc _).alloc _).alloc _) Z7⟩
theorem on_t (ax ay bx by_ cx cy : Int) (h1 : On ax ay) (h2 : On bx by_) (h3 : On cx cy) (w : World) :
 Calls Tryz.prog 29 #[.agg #[.int .i32 cx, .int .i32 cy], .agg #[.int .i32 ax, .int .i32 ay], .agg #[.int .i32 bx, .int .i32 by_]] w (fun e w' => ∃ q : Bool, e = .returned (.bool q) ∧ (q = true ↔ onK cx cy ax ay bx by_) ∧ Keeps (fun _ => False) w w') := by
 unfold onK
 by_cases hne : ax = bx ∧ ay = by_
 ·rw [if_pos hne]
  obtain ⟨rfl, rfl⟩ := hne
  refine (on_one ax ay cx cy w).mono ?_
  rintro e w' ⟨rfl, k⟩
  exact ⟨_, rfl, ZA7, k⟩
 ·rw [if_neg hne]
  by_cases ht : turnN ax ay bx by_ cx cy = 0
  ·by_cases hp : 0 ≤ (alongN ax ay bx by_ cx cy).1
   ·refine (on_yes ax ay bx by_ cx cy h1 h2 h3 hne ht hp w).mono ?_
    rintro e w' ⟨rfl, k⟩
    exact ⟨_, rfl, by simp [ht, hp], k⟩
   ·refine (on_no ax ay bx by_ cx cy h1 h2 h3 hne ht hp w).mono ?_
    rintro e w' ⟨rfl, k⟩
    exact ⟨_, rfl, by simp [hp], k⟩
  ·refine (on_off ax ay bx by_ cx cy h1 h2 h3 hne ht w).mono ?_
   rintro e w' ⟨rfl, k⟩
   exact ⟨_, rfl, by simp [ht], k⟩
end Bg
open Go.RowKit
namespace Bg
open Mem Gs Fi
theorem wv_drop (l : List Nat) (i : Nat) : wv (l.drop i) ≤ wv l := by
 have h := wv_app (l.drop i) (l.take i)
 rw [List.take_append_drop] at h
 rw [h]
 have := Nat.le_mul_of_pos_left (wv (l.drop i)) (show 0 < 4294967296 ^ (l.take i).length from Nat.pow_pos ZAH)
 omega
theorem wv_at {l : List Nat} {i x : Nat} (h : l[i]? = some x) : wv (l.drop i) = x + 4294967296 * wv (l.drop (i + 1)) := by
 have hi : i < l.length := (List.getElem?_eq_some_iff.1 h).1
 have he := (List.getElem?_eq_some_iff.1 h).2
 rw [List.drop_eq_getElem_cons hi, he, wv]
theorem number_t (p : QV) (z : Int) (k : Nat) (w : World) (h : Wq w p z k) (hk : k ≤ 1000) (hz : z.natAbs < 18446744073709551616) :
 Calls Tryz.prog 47 #[.agg #[.bool p.m, .slice p.a p.n p.c]] w (fun e w' => e = .returned (.int .u64 ((z.natAbs : Nat) : Int)) ∧ Keeps (fun _ => False) w w') := by
 obtain ⟨⟨l, hn, hr, hw⟩, hl⟩ := h
 have b1 := Blk.new w 101 [.bool p.m, .slice p.a p.n p.c]
 obtain ⟨pm, pa, pn, pc⟩ := p
 simp only at hn hr hw hl b1 ⊢
 have HB := Lib.hid (And.intro b1 ((Keeps.refl (fun _ => False) w).alloc (.cells #[.bool pm, .slice pa pn pc] 101)))
 have HH := Lib.hid (And.intro hr (And.intro hn (And.intro hw.wd (And.intro hw.abs hz))))
 have HW0 := Lib.hid (show wrap64 ((pn : Int) - 1) = (pn : Int) - 1 by unfold wrap64; omega)
 have HNI := Lib.hid (show (pn : Int) ≤ 1000 by omega)
 have cq := b1.cell
 clear hr hw hn hl b1 hz hk
 go_enter Tryz.func47, Tryz.ntmps47
 go_wp2
 clear cq
 go_loopw [3, 4] (fun v i wr => ∃ (m u : Nat), m ≤ pn ∧ i = .int .i64 ((m : Int) - 1) ∧ v = .int .u64 (u : Int) ∧ u = wv (l.drop m) ∧ Keeps (fun _ => False) (w.alloc (.cells #[.bool pm, .slice pa pn pc] 101)) wr) (fun _ i _ => (intOf i + 1).toNat)
 case atStart => exact ⟨pn, 0, Nat.le_refl _, by rw [HW0.out], rfl, by rw [List.drop_of_length_le (by have := HH.out.2.1; omega)]; rfl, Keeps.refl _ _⟩
 case round =>
  obtain ⟨m, u, hm, rfl, rfl, hu, hk⟩ := hrel
  have cq := (HB.out.1.keeps hk (fun h => h)).cell
  by_cases h0 : m = 0
  ·subst h0
   have hg : ¬ (((0 : Nat) : Int) - 1 ≥ 0) := by omega
   have HE := Lib.hid (show (u : Int) = ((z.natAbs : Nat) : Int) ∧ Keeps (fun _ => False) w wr from ⟨by rw [hu, List.drop_zero, HH.out.2.2.2.1], HB.out.2.trans hk⟩)
   clear hu hk cq
   go_wp2
   go_ret
   exact ⟨by rw [HE.out.1]; rfl, HE.out.2⟩
  ·obtain ⟨i, rfl⟩ : ∃ i, m = i + 1 := ⟨m - 1, Z8⟩
   have hi : (((i + 1 : Nat) : Int) - 1) = (i : Int) := by omega
   rw [hi]
   obtain ⟨x, hx⟩ : ∃ x, l[i]? = some x := ⟨_, List.getElem?_eq_getElem (by have := HH.out.2.1; omega)⟩
   obtain ⟨b1, rfl, cx⟩ := (HH.out.1.kd (HB.out.2.trans hk)).at_ hx
   have hnew := wv_at hx
   have hle := wv_drop l i
   have hzz := HH.out.2.2.2
   rw [← hu] at hnew
   obtain ⟨v, hv⟩ := ZE (x + 4294967296 * u)
   rw [← hv] at hnew
   have hvb : v < 18446744073709551616 := by omega
   have q1 : IntKind.u64.wrap ((u : Int) * 4294967296) = (u : Int) * 4294967296 := IntWalk.u64_in _ Z8
   have q2 : IntKind.u64.wrap (x : Int) = (x : Int) := wrap_at Z8
   have q3 : IntKind.u64.wrap ((u : Int) * 4294967296 + (x : Int)) = (v : Int) := by rw [IntWalk.u64_in _ Z8]; omega
   have hin : (i : Int) < (pn : Int) := by omega
   have hi0 : (i : Int) ≥ 0 := by omega
   have HW := Lib.hid (show wrap64 ((i : Int) - 1) = (i : Int) - 1 by clear q1 q2 q3; unfold wrap64; have := HNI.out; omega)
   have HV := Lib.hid (And.intro hnew.symm (And.intro hk (show i ≤ pn by omega)))
   clear hu hk hnew hle hzz hv hvb hm h0 hi hx
   have hw := HW.out
   go_wp2
   go_roundw
   case rel => exact ⟨i, v, HV.out.2.2, by rw [hw], rfl, HV.out.1, HV.out.2.1⟩
   case measure => rw [hw]; simp only [intOf]; clear q1 q2 q3 hw; omega
theorem boxS_kd {w : World} {p q : QV} {W : World} (hk : Keeps (fun _ => False) ((w.alloc (.cells #[.bool p.m, .slice p.a p.n p.c, .bool q.m, .slice q.a q.n q.c] 103)).alloc (.cells #[.int .i64 0, .int .i64 0] 91)) W) : (∀ i : Nat, W.cell? ⟨w.heap.size, i, none⟩ = ([.bool p.m, .slice p.a p.n p.c, .bool q.m, .slice q.a q.n q.c] : List Value)[i]?) ∧ Blk W (w.heap.size + 1) 91 [.int .i64 0, .int .i64 0] := by
 have h1 := ((Blk.new w 103 [.bool p.m, .slice p.a p.n p.c, .bool q.m, .slice q.a q.n q.c]).alloc (.cells #[.int .i64 0, .int .i64 0] 91)).keeps hk (fun h => h)
 have h2 := (Blk.new (w.alloc (.cells #[.bool p.m, .slice p.a p.n p.c, .bool q.m, .slice q.a q.n q.c] 103)) 91 [.int .i64 0, .int .i64 0]).keeps hk (fun h => h)
 simp only [World.size_alloc] at h2
 exact ⟨h1.cell, h2⟩
theorem results_2 {fn : Func} {t : Tmp} (hf : fn.results = #[.cell t 91]) (tmps : Array Value) (w : World) (g : Nat) (a b x y : Value) (hp : tmps.getD t undef = .pointer (some ⟨g, 0, none⟩)) (hg : Blk w g 91 [x, y]) :
 (results fn tmps).run Tryz.prog ((w.setCell ⟨g, 0, none⟩ a).setCell ⟨g, 1, none⟩ b) = .ok (.agg #[a, b]) ((w.setCell ⟨g, 0, none⟩ a).setCell ⟨g, 1, none⟩ b) :=
 results_cell_row hf _ _ g 91 #[a, b] (0, 0) _ hp (by have := (hg.set_ 0 a).set_ 1 b; simpa [Blk] using this) Tryz.underlying91 rfl ZAB
theorem keeps_2 {w W : World} {g : Nat} (hk : Keeps (fun _ => False) w W) (hl : w.heap.size ≤ g) (a b : Value) : Keeps (fun _ => False) w ((W.setCell ⟨g, 0, none⟩ a).setCell ⟨g, 1, none⟩ b) :=
 (hk.setCell (p := ⟨g, 0, none⟩) (fun h => ZAT) _).setCell (p := ⟨g, 1, none⟩) (fun h => ZAT) _
theorem frames39 {P : Act → Prop} (hP : ∀ u0 u1 u2 u3 u4 u5 u6 u7 u8 u9 u10 u11 u12 u13 u14 u15 u16 u17 u18 u19 u20 u21 u22 u23 u24 u25 u26 u27 u28 u29 u30 u31 u32 u33 u34 u35 u36 u37 u38 : Value, P ⟨#[u0, u1, u2, u3, u4, u5, u6, u7, u8, u9, u10, u11, u12, u13, u14, u15, u16, u17, u18, u19, u20, u21, u22, u23, u24, u25, u26, u27, u28, u29, u30, u31, u32, u33, u34, u35, u36, u37, u38], []⟩) : ∀ a : Act, a.tmps.size = 39 → a.defers = [] → P a := by
 rintro ⟨⟨t⟩, d⟩ h1 h2
 simp only [List.size_toArray] at h1 h2
 subst h2
 have h := unroll t 39 h1
 have e : (List.range 39).map (fun i => t.getD i undef) = [t.getD 0 undef, t.getD 1 undef, t.getD 2 undef, t.getD 3 undef, t.getD 4 undef, t.getD 5 undef, t.getD 6 undef, t.getD 7 undef, t.getD 8 undef, t.getD 9 undef, t.getD 10 undef, t.getD 11 undef, t.getD 12 undef, t.getD 13 undef, t.getD 14 undef, t.getD 15 undef, t.getD 16 undef, t.getD 17 undef, t.getD 18 undef, t.getD 19 undef, t.getD 20 undef, t.getD 21 undef, t.getD 22 undef, t.getD 23 undef, t.getD 24 undef, t.getD 25 undef, t.getD 26 undef, t.getD 27 undef, t.getD 28 undef, t.getD 29 undef, t.getD 30 undef, t.getD 31 undef, t.getD 32 undef, t.getD 33 undef, t.getD 34 undef, t.getD 35 undef, t.getD 36 undef, t.getD 37 undef, t.getD 38 undef] := rfl
 exact Eq.mpr (congrArg (fun l : List Value => P ⟨⟨l⟩, []⟩) (h.trans e)) (hP (t.getD 0 undef) (t.getD 1 undef) (t.getD 2 undef) (t.getD 3 undef) (t.getD 4 undef) (t.getD 5 undef) (t.getD 6 undef) (t.getD 7 undef) (t.getD 8 undef) (t.getD 9 undef) (t.getD 10 undef) (t.getD 11 undef) (t.getD 12 undef) (t.getD 13 undef) (t.getD 14 undef) (t.getD 15 undef) (t.getD 16 undef) (t.getD 17 undef) (t.getD 18 undef) (t.getD 19 undef) (t.getD 20 undef) (t.getD 21 undef) (t.getD 22 undef) (t.getD 23 undef) (t.getD 24 undef) (t.getD 25 undef) (t.getD 26 undef) (t.getD 27 undef) (t.getD 28 undef) (t.getD 29 undef) (t.getD 30 undef) (t.getD 31 undef) (t.getD 32 undef) (t.getD 33 undef) (t.getD 34 undef) (t.getD 35 undef) (t.getD 36 undef) (t.getD 37 undef) (t.getD 38 undef))
theorem frac_t (p q : QV) (z d : Int) (k : Nat) (w : World) (h1 : Wq w p z k) (h2 : Wq w q d k) (hk : k ≤ 1000) (hz : z.natAbs < 9223372036854775808) (hd : 0 < d ∧ d < 9223372036854775808) :
 Calls Tryz.prog 37 #[.agg #[.bool p.m, .slice p.a p.n p.c, .bool q.m, .slice q.a q.n q.c]] w (fun e w' => ∃ a b : Int, e = .returned (.agg #[.int .i64 a, .int .i64 b]) ∧ Keeps (fun _ => False) w w') := by
 have H1 := Lib.hid (fun W (hk' : Keeps (fun _ => False) w W) => number_t p z k W (h1.kd hk') hk Z8)
 have H2 := Lib.hid (fun W (hk' : Keeps (fun _ => False) w W) => number_t q d k W (h2.kd hk') hk Z8)
 have HQ := Lib.hid (fun W (hk : Keeps (fun _ => False) ((w.alloc (.cells #[.bool p.m, .slice p.a p.n p.c, .bool q.m, .slice q.a q.n q.c] 103)).alloc (.cells #[.int .i64 0, .int .i64 0] 91)) W) => boxS_kd (w := w) (p := p) (q := q) hk)
 obtain ⟨Z, hZ⟩ := ZE z.natAbs
 obtain ⟨D, hD⟩ := ZE d.natAbs
 rw [← hZ] at H1
 rw [← hD] at H2
 have HB := Lib.hid (show Z < 9223372036854775808 ∧ 0 < D ∧ D < 9223372036854775808 by omega)
 have HW := Lib.hid (((Keeps.refl (fun _ => False) w).alloc (.cells #[.bool p.m, .slice p.a p.n p.c, .bool q.m, .slice q.a q.n q.c] 103)).alloc (.cells #[.int .i64 0, .int .i64 0] 91))
 clear h1 h2 hk hz hd hZ hD
 go_enter Tryz.func37, Tryz.ntmps37
 go_wp2_with (first
  | ((with_reducible refine (H2.out _ (by exact Keeps.trans HW.out Z7)).mono ?_); rintro e w2 ⟨rfl, k2⟩; have HK2 := Lib.hid k2; clear k2 cX)
  | ((with_reducible refine (H1.out _ (by exact Keeps.trans HW.out Z7)).mono ?_); rintro e w1 ⟨rfl, k1⟩; have cX := (HQ.out w1 k1).1; have HK1 := Lib.hid k1; clear k1))
 have HJ := Lib.hid (show Keeps (fun _ => False) ((w.alloc (.cells #[.bool p.m, .slice p.a p.n p.c, .bool q.m, .slice q.a q.n q.c] 103)).alloc (.cells #[.int .i64 0, .int .i64 0] 91)) w2 by (repeat (first | with_reducible exact Keeps.refl _ _ | refine Keeps.drew ?_ | with_reducible refine Keeps.trans ?_ HK1.out | with_reducible refine Keeps.trans ?_ HK2.out | with_reducible refine Keeps.trans ?_ HK3.out | with_reducible refine Keeps.trans ?_ HK4.out | with_reducible refine Keeps.trans ?_ HK5.out | refine Keeps.alloc ?_ _)))
 go_loopw [5, 6] (fun x y wr => ∃ X Y : Nat, x = .int .u64 (X : Int) ∧ y = .int .u64 (Y : Int) ∧ X < 18446744073709551616 ∧ Y < 18446744073709551616 ∧ (0 < X ∨ 0 < Y) ∧ Keeps (fun _ => False) ((w.alloc (.cells #[.bool p.m, .slice p.a p.n p.c, .bool q.m, .slice q.a q.n q.c] 103)).alloc (.cells #[.int .i64 0, .int .i64 0] 91)) wr) (fun _ y _ => (intOf y).toNat)
 case atStart => exact ⟨Z, D, rfl, rfl, by have := HB.out; omega, by have := HB.out; omega, .inr HB.out.2.1, HJ.out⟩
 case round =>
  obtain ⟨X, Y, rfl, rfl, hX, hYb, hXY, hk⟩ := hrel
  by_cases hY : Y = 0
  ·subst hY
   have hX0 : ¬ X = 0 := by omega
   have HK3 := Lib.hid hk
   have cX := (HQ.out wr hk).1
   clear hX hXY hYb hk
   go_wp2
   rename_i Kx hKx
   have htail : ∀ (a1 : Act) (W2 : World), Fr a1 39 [(1, .pointer (some ⟨w.heap.size, 0, none⟩)), (2, .pointer (some ⟨(w.heap.size + 1), 0, none⟩)), (7, .pointer (some ⟨wr.heap.size, 0, none⟩))] → Keeps (fun _ => False) ((w.alloc (.cells #[.bool p.m, .slice p.a p.n p.c, .bool q.m, .slice q.a q.n q.c] 103)).alloc (.cells #[.int .i64 0, .int .i64 0] 91)) W2 → (∃ a b : Int, Blk W2 wr.heap.size 91 [.int .i64 a, .int .i64 b]) → Kx a1 W2 := by
    intro a1 W2 hF hK2 ⟨a, b, hB⟩
    have HK5 := Lib.hid hK2
    have c1 := (HQ.out _ hK2).1
    have c2 := (HQ.out _ hK2).2.cell
    have f2 := (HQ.out _ hK2).2.frozen
    have c3 := hB.cell
    have f3 := hB.frozen
    have hne : w.heap.size + 1 ≠ wr.heap.size := by have := HK3.out.size; simp at this; omega
    clear hK2
    revert hF
    refine fun hF => frames39 (P := fun a1 => Fr a1 39 [(1, .pointer (some ⟨w.heap.size, 0, none⟩)), (2, .pointer (some ⟨(w.heap.size + 1), 0, none⟩)), (7, .pointer (some ⟨wr.heap.size, 0, none⟩))] → Kx a1 W2) ?_ a1 hF.1 hF.2.1 hF
    intro u0 u1 u2 u3 u4 u5 u6 u7 u8 u9 u10 u11 u12 u13 u14 u15 u16 u17 u18 u19 u20 u21 u22 u23 u24 u25 u26 u27 u28 u29 u30 u31 u32 u33 u34 u35 u36 u37 u38 hF
    obtain rfl : u1 = .pointer (some ⟨w.heap.size, 0, none⟩) := hF.at_ 1 _ ZA7
    obtain rfl : u2 = .pointer (some ⟨(w.heap.size + 1), 0, none⟩) := hF.at_ 2 _ ZA7
    obtain rfl : u7 = .pointer (some ⟨wr.heap.size, 0, none⟩) := hF.at_ 7 _ ZA7
    clear hF
    refine hKx _ _ ?_
    rcases p with ⟨_ | _, pa, pn, pc⟩
    all_goals
     go_wp2
     first
      | exact bodyPost_ret (results_2 rfl _ _ (w.heap.size + 1) _ _ _ _ rfl (HQ.out W2 HK5.out).2) rfl ⟨⟨_, _, rfl⟩, keeps_2 (HW.out.trans HK5.out) Z8 _ _⟩
      | exact bodyPost_ret (results_2 rfl _ _ (w.heap.size + 1) _ _ _ _ rfl (((HQ.out W2 HK5.out).2.far (p := ⟨wr.heap.size, 0, none⟩) hne _))) rfl ⟨⟨_, _, rfl⟩, keeps_2 (Keeps.setCell (HW.out.trans HK5.out) (p := ⟨wr.heap.size, 0, none⟩) (fun h => by have := HK3.out.size; simp at this h; omega) _) Z8 _ _⟩
   refine wp_mono (Q := Exit.then Kx (fun _ _ _ => False)) ?_ (fun e a W h => ZAN)
   clear hKx
   go_region_held3 (fun W => True) (trivial) (first | fail)
   all_goals
    refine htail _ _ ⟨rfl, rfl, ZA7⟩ (by (repeat (first | with_reducible exact Keeps.refl _ _ | with_reducible exact HK3.out | refine Keeps.drew ?_ | refine Keeps.alloc ?_ _ | refine Keeps.setCell ?_ (by have := HK3.out.size; simp at this ⊢; omega) _))) ?_
    first
     | exact ⟨_, _, (Blk.new wr 91 [_, _]).drew⟩
     | exact ⟨_, _, Blk.new wr.drew 91 [_, _]⟩
     | exact ⟨_, _, Blk.new wr 91 [_, _]⟩
  ·have hY0 : ¬ (Y : Int) = 0 := by omega
   have hY1 : ((Y : Int) == 0) = false := by simp; omega
   obtain ⟨r, hr⟩ := ZE (X % Y)
   have hm : (X : Int).tmod (Y : Int) = (r : Int) := by rw [Int.tmod_eq_emod_of_nonneg Z8, hr]; exact (Int.natCast_emod X Y).symm
   have hm2 : (X : Int) % (Y : Int) = (r : Int) := by rw [hr]; exact (Int.natCast_emod X Y).symm
   have hrY : r < Y := by rw [hr]; exact Nat.mod_lt _ Z8
   have HK3 := Lib.hid (And.intro hk (And.intro hrY hYb))
   clear hX hXY hYb hk hr hrY
   go_wp2
   go_region
   all_goals
    go_wp2
    go_roundw
    case rel => exact ⟨Y, r, rfl, rfl, HK3.out.2.2, Nat.lt_trans HK3.out.2.1 HK3.out.2.2, by have := HK3.out.2.1; omega, by exact HK3.out.1.drew⟩
    case measure => simp only [intOf]; have := HK3.out.2.1; omega
end Bg
end Go.Proofs.YtdbpfbokfmpgcaaGreat
