/-
HxG: the document's column.
-/
import Derived.Test.YtdbpfbokfmpgcaaZbfHxAHxBHxCHxP
namespace Go.Proofs.Ytdbpfbokfmpgcaa
open Go.RowKit Go.Shelf
set_option linter.unusedVariables false
set_option linter.unusedSimpArgs false
set_option linter.ambiguousOpen false
attribute [local go_sem] Oper.semAt_some
namespace Gx
open Mem Gr Gs
theorem mm1 {a b : Int} (h : a < b) : min a b = a ∧ max a b = b := by omega
theorem mm2 {a b : Int} (h : ¬ a < b) : min a b = b ∧ max a b = a := by omega
theorem column_0 (x y X Y s c : Int) (hp : On x y) (hq : On X Y) (hs : Size s) (hx : x = X) (w : World) :
    Calls Try.prog 76 #[.agg #[.int .i32 x, .int .i32 y], .agg #[.int .i32 X, .int .i32 Y], .int .i64 s, .int .i64 c] w (fun e w' => e = .returned (.tuple #[.int .i64 (lowR x y (X - x) (Y - y) s c), .int .i64 (highR x y (X - x) (Y - y) s c)]) ∧ Keeps (fun _ => False) w w') := by
  subst hx
  unfold lowR highR
  rw [if_pos (by omega), if_pos (by omega), show y + (Y - y) = Y by omega]
  have z0 := fun w => down_t y s w (by unfold On B0 at hp; omega) (by unfold On B0 at hp; omega) hs.1 (by have := hs.2; omega)
  have z2 := fun w => down_t Y s w (by unfold On B0 at hq; omega) (by unfold On B0 at hq; omega) hs.1 (by have := hs.2; omega)
  obtain ⟨r0, h0⟩ : ∃ r, r = y / s := ⟨_, rfl⟩
  obtain ⟨r2, h2⟩ : ∃ r, r = Y / s := ⟨_, rfl⟩
  obtain ⟨dy, hdy⟩ : ∃ r, r = Y - y := ⟨_, rfl⟩
  rw [← h0] at z0 ⊢
  rw [← h2] at z2 ⊢
  have e1 : x - x = 0 := by omega
  have e2 : Y - y = dy := hdy.symm
  have u1 : IntKind.i64.wrap x = x := IntWalk.i64_in _ (by unfold On B0 at hp; omega)
  have u2 : IntKind.i64.wrap y = y := IntWalk.i64_in _ (by unfold On B0 at hp; omega)
  have u3 : IntKind.i64.wrap Y = Y := IntWalk.i64_in _ (by unfold On B0 at hq; omega)
  have u4 : IntKind.i64.wrap dy = dy := IntWalk.i64_in _ (by unfold On B0 at hp hq; omega)
  have HZ := Lib.hid (And.intro z0 z2)
  clear z0 z2 h0 h2 hdy hp hq hs
  go_enter Try.func76, Try.ntmps76
  go_wp2_with (go_at_call 75; (first | (with_reducible refine (HZ.out.1 _).mono ?_) | (with_reducible refine (HZ.out.2 _).mono ?_)); rintro e w2 ⟨rfl, rfl⟩)
  all_goals go_ret2
  all_goals rename_i h
  · obtain ⟨m1, m2⟩ := mm1 (by simpa using h)
    rw [m1, m2]
    exact ⟨rfl, by (repeat (first | exact Keeps.refl _ _ | refine Keeps.alloc ?_ _ | refine Keeps.drew ?_))⟩
  · obtain ⟨m1, m2⟩ := mm2 (by simpa using h)
    rw [m1, m2]
    exact ⟨rfl, by (repeat (first | exact Keeps.refl _ _ | refine Keeps.alloc ?_ _ | refine Keeps.drew ?_))⟩
/-- the numbers of a column -/
theorem col_bounds {x y X Y s c : Int} (hp : On x y) (hq : On X Y) (hs : Size s) (hlt : x < X) (hc1 : x / s ≤ c) (hc2 : c ≤ X / s) : c * s ≤ X ∧ x < c * s + s ∧ x - s < c * s ∧ c * s + s ≤ X + s := by
  have g1 : c * s ≤ X := (Int.le_ediv_iff_mul_le (by have := hs.1; omega)).1 hc2
  have g2 : x < (c + 1) * s := by
    have := Int.lt_ediv_add_one_mul_self x (show 0 < s by have := hs.1; omega)
    have := Int.mul_le_mul_of_nonneg_right (show x / s + 1 ≤ c + 1 by omega) (show 0 ≤ s by have := hs.1; omega)
    omega
  rw [Int.add_mul, Int.one_mul] at g2
  omega
theorem prod_bd {a b A B : Int} (h1 : -A ≤ a) (h2 : a ≤ A) (h3 : 0 ≤ b) (h4 : b ≤ B) (hA : 0 ≤ A) : -(A * B) ≤ a * b ∧ a * b ≤ A * B := by
  have e1 : a * b ≤ A * b := Int.mul_le_mul_of_nonneg_right h2 h3
  have e2 : -A * b ≤ a * b := Int.mul_le_mul_of_nonneg_right h1 h3
  have e3 : A * b ≤ A * B := Int.mul_le_mul_of_nonneg_left h4 hA
  rw [Int.neg_mul] at e2
  omega
theorem mid_bd {y dy dx t : Int} (h1 : -1073741823 ≤ y) (h2 : y ≤ 1073741823) (h3 : -1073741823 ≤ y + dy) (h4 : y + dy ≤ 1073741823) (h5 : 0 ≤ t) (h6 : t ≤ dx) (h7 : dx ≤ 2147483646) :
    -4611686018427387904 ≤ y * dx + dy * t ∧ y * dx + dy * t ≤ 4611686018427387904 := by
  have a1 := prod_bd (a := y) (b := dx) (A := 1073741823) (B := 2147483646) (by omega) h2 (by omega) h7 (by omega)
  have e : y * dx + dy * t = y * (dx - t) + (y + dy) * t := by rw [Int.mul_sub, Int.add_mul]; omega
  have a2 := prod_bd (a := y) (b := dx - t) (A := 1073741823) (B := 2147483646) (by omega) h2 (by omega) (by omega) (by omega)
  have a3 := prod_bd (a := y + dy) (b := t) (A := 1073741823) (B := 2147483646) (by omega) h4 (by omega) (by omega) (by omega)
  omega

set_option maxHeartbeats 8000000 in
set_option maxRecDepth 100000 in
theorem column_1 (x y X Y s c : Int) (hp : On x y) (hq : On X Y) (hs : Size s) (hlt : x < X) (hc1 : x / s ≤ c) (hc2 : c ≤ X / s) (w : World) :
    Calls Try.prog 76 #[.agg #[.int .i32 x, .int .i32 y], .agg #[.int .i32 X, .int .i32 Y], .int .i64 s, .int .i64 c] w (fun e w' => e = .returned (.tuple #[.int .i64 (lowR x y (X - x) (Y - y) s c), .int .i64 (highR x y (X - x) (Y - y) s c)]) ∧ Keeps (fun _ => False) w w') := by
  obtain ⟨g1, g2, g3, g4⟩ := col_bounds hp hq hs hlt hc1 hc2
  obtain ⟨q1, q2⟩ := col_eq (x := x) (y := y) (dx := X - x) (dy := Y - y) (s := s) (c := c) hs.1 (by omega)
  rw [q1, q2]
  clear q1 q2
  unfold colLast firstR Gs.rowAt upD
  rw [show x + (X - x) = X by omega, show y + (Y - y) = Y by omega]
  obtain ⟨hs1, hs2⟩ := hs
  unfold On B0 at hp hq
  obtain ⟨p1, p2, p3, p4⟩ := hp
  obtain ⟨q1, q2, q3, q4⟩ := hq
  have z0 := fun w => down_t y s w (by omega) (by omega) hs1 (by omega)
  have z2 := fun w => down_t Y s w (by omega) (by omega) hs1 (by omega)
  (obtain ⟨dx, hdx⟩ : ∃ r, r = X - x := ⟨_, rfl⟩; obtain ⟨dy, hdy⟩ : ∃ r, r = Y - y := ⟨_, rfl⟩; obtain ⟨le, hle⟩ : ∃ r, r = c * s := ⟨_, rfl⟩; obtain ⟨ri, hri⟩ : ∃ r, r = le + s := ⟨_, rfl⟩; obtain ⟨ba, hba⟩ : ∃ r, r = y * dx := ⟨_, rfl⟩; obtain ⟨ds, hds⟩ : ∃ r, r = dx * s := ⟨_, rfl⟩; obtain ⟨t1, ht1⟩ : ∃ r, r = le - x := ⟨_, rfl⟩; obtain ⟨m1, hm1⟩ : ∃ r, r = dy * t1 := ⟨_, rfl⟩; obtain ⟨n1, hn1⟩ : ∃ r, r = ba + m1 := ⟨_, rfl⟩; obtain ⟨t2, ht2⟩ : ∃ r, r = ri - x := ⟨_, rfl⟩; obtain ⟨m2, hm2⟩ : ∃ r, r = dy * t2 := ⟨_, rfl⟩; obtain ⟨n2, hn2⟩ : ∃ r, r = ba + m2 := ⟨_, rfl⟩)
  rw [← hdx, ← hdy, ← hle, ← hri, ← hba, ← ht1, ← ht2, ← hm1, ← hm2, ← hn1, ← hn2, ← hds]
  rw [← hle] at g1 g2 g3 g4
  have b1 := prod_bd (a := dx) (b := s) (A := 2147483646) (B := 2147483648) (by omega) (by omega) (by omega) hs2 (by omega)
  rw [← hds] at b1
  have b2 : 1 ≤ ds := by rw [hds]; exact Int.mul_pos (show 0 < dx by omega) (show 0 < s by omega)
  have b3 := prod_bd (a := y) (b := dx) (A := 1073741823) (B := 2147483646) (by omega) p4 (by omega) (by omega) (by omega)
  rw [← hba] at b3
  have z3 := fun (h : x < le) w => down_t n1 ds w (by have := mid_bd (y := y) (dy := dy) (dx := dx) (t := t1) p3 p4 (by omega) (by omega) (by omega) (by omega) (by omega); omega) (by have := mid_bd (y := y) (dy := dy) (dx := dx) (t := t1) p3 p4 (by omega) (by omega) (by omega) (by omega) (by omega); omega) b2 (by omega)
  have y1 := fun (h : ri ≤ X) => mid_bd (y := y) (dy := dy) (dx := dx) (t := t2) p3 p4 (by omega) (by omega) (by omega) (by omega) (by omega)
  rw [← hba, ← hm2, ← hn2] at y1
  have z4 := fun (h : ri ≤ X) w => down_t n2 ds w (by have := y1 h; omega) (by have := y1 h; omega) b2 (by omega)
  have z5 := fun (h : ri ≤ X) w => up_t n2 ds w (by have := y1 h; omega) (by have := y1 h; omega) b2 (by omega)
  have u1 : IntKind.i64.wrap x = x := IntWalk.i64_in _ (by omega)
  have u2 : IntKind.i64.wrap y = y := IntWalk.i64_in _ (by omega)
  have u3 : IntKind.i64.wrap X = X := IntWalk.i64_in _ (by omega)
  have u4 : IntKind.i64.wrap Y = Y := IntWalk.i64_in _ (by omega)
  have u5 : IntKind.i64.wrap dx = dx := IntWalk.i64_in _ (by omega)
  have u6 : IntKind.i64.wrap dy = dy := IntWalk.i64_in _ (by omega)
  have u7 : IntKind.i64.wrap le = le := IntWalk.i64_in _ (by omega)
  have u8 : IntKind.i64.wrap ri = ri := IntWalk.i64_in _ (by omega)
  have u9 : IntKind.i64.wrap ba = ba := IntWalk.i64_in _ (by omega)
  have u10 : IntKind.i64.wrap ds = ds := IntWalk.i64_in _ (by omega)
  have u11 : IntKind.i64.wrap t1 = t1 := IntWalk.i64_in _ (by omega)
  have u12 : IntKind.i64.wrap t2 = t2 := IntWalk.i64_in _ (by omega)
  have v1 := fun (h : x < le) => prod_bd (a := dy) (b := t1) (A := 2147483646) (B := 2147483646) (by omega) (by omega) (by omega) (by omega) (by omega)
  have v2 := fun (h : ri ≤ X) => prod_bd (a := dy) (b := t2) (A := 2147483646) (B := 2147483646) (by omega) (by omega) (by omega) (by omega) (by omega)
  rw [← hm1] at v1
  rw [← hm2] at v2
  have hdx0 : ¬ dx = 0 := by omega
  have r5b := fun (h : ri ≤ X) => ediv_in (n := -n2) b2
  obtain ⟨r0, h0⟩ : ∃ r, r = y / s := ⟨_, rfl⟩
  obtain ⟨r1, h1⟩ : ∃ r, r = n1 / ds := ⟨_, rfl⟩
  obtain ⟨r2, h2⟩ : ∃ r, r = Y / s := ⟨_, rfl⟩
  obtain ⟨r3, h3⟩ : ∃ r, r = n2 / ds := ⟨_, rfl⟩
  obtain ⟨r4, h4⟩ : ∃ r, r = -((-n2) / ds) := ⟨_, rfl⟩
  rw [← h0] at z0 ⊢
  rw [← h1] at z3 ⊢
  rw [← h2] at z2 ⊢
  rw [← h3] at z4 ⊢
  rw [← h4] at z5 ⊢
  have u13 := fun (h : ri ≤ X) => (show IntKind.i64.wrap (r4 - 1) = r4 - 1 from IntWalk.i64_in _ (by have := r5b h; have := y1 h; rcases Int.le_total 0 (-n2) with h | h <;> omega))
  have e1 := hdx.symm
  have e2 := hdy.symm
  have e3 := hle.symm
  have e4 := hri.symm
  have e5 := hba.symm
  have e6 := hds.symm
  have e7 := ht1.symm
  have e8 := hm1.symm
  have e9 := hn1.symm
  have e10 := ht2.symm
  have e11 := hm2.symm
  have e12 := hn2.symm
  have HZ := Lib.hid (And.intro z0 (And.intro z2 (And.intro z3 (And.intro z4 z5))))
  have W1 := fun (h : x < le) => (And.intro (show IntKind.i64.wrap m1 = m1 from IntWalk.i64_in _ (by have := v1 h; omega)) (show IntKind.i64.wrap n1 = n1 from IntWalk.i64_in _ (by have := v1 h; omega)))
  have W2 := fun (h : ri ≤ X) => (And.intro (show IntKind.i64.wrap m2 = m2 from IntWalk.i64_in _ (by have := v2 h; omega)) (show IntKind.i64.wrap n2 = n2 from IntWalk.i64_in _ (by have := v2 h; omega)))
  have HW := Lib.hid (And.intro W1 (And.intro W2 u13))
  clear hdx hdy hle hri hba hds ht1 hm1 hn1 ht2 hm2 hn2 h0 h1 h2 h3 h4 z0 z2 z3 z4 z5 W1 W2 u13 v1 v2 y1 r5b b1 b2 b3 g1 g2 g3 g4 hc1 hc2 p1 p2 p3 p4 q1 q2 q3 q4 hs1 hs2
  by_cases k1 : le > x
  · obtain ⟨o1, o2⟩ := HW.out.1 k1
    by_cases k2 : ri ≤ X
    · obtain ⟨o3, o4⟩ := HW.out.2.1 k2
      have o5 := HW.out.2.2 k2
      have HK := Lib.hid (And.intro (HZ.out.2.2.1 k1) (And.intro (HZ.out.2.2.2.1 k2) (HZ.out.2.2.2.2 k2)))
      by_cases k3 : dy = 0
      · rw [if_pos k1, if_pos k2, if_pos k3]
        (have d1 : decide (x < le) = true := decide_eq_true k1; have d1' : decide (le > x) = true := decide_eq_true k1; clear k1)
        (have d2 : decide (ri ≤ X) = true := decide_eq_true k2; clear k2)
        (have d3 : decide (dy = 0) = true := decide_eq_true k3; have d3' : (dy == 0) = true := (by simpa using k3); have d4 : decide (dy > 0) = false := decide_eq_false (by omega); have d4' : decide (0 < dy) = false := decide_eq_false (by omega); clear k3)
        (clear HW; go_enter Try.func76, Try.ntmps76; go_wp2_with (first | (go_at_call 75; (first | (with_reducible refine (HZ.out.1 _).mono ?_) | (with_reducible refine (HZ.out.2.1 _).mono ?_) | (with_reducible refine (HK.out.1 _).mono ?_) | (with_reducible refine (HK.out.2.1 _).mono ?_)); rintro e w2 ⟨rfl, rfl⟩) | (go_at_call 83; (with_reducible refine (HK.out.2.2 _).mono ?_); rintro e w2 ⟨rfl, rfl⟩)); all_goals go_ret2; all_goals first | (rw [Int.min_self, Int.max_self]; exact ⟨rfl, by (repeat (first | exact Keeps.refl _ _ | refine Keeps.alloc ?_ _ | refine Keeps.drew ?_))⟩) | (rename_i hh; obtain ⟨f1, f2⟩ := mm1 (a := r1) (b := r1) (by simpa using hh); rw [f1, f2]; exact ⟨rfl, by (repeat (first | exact Keeps.refl _ _ | refine Keeps.alloc ?_ _ | refine Keeps.drew ?_))⟩) | (rename_i hh; obtain ⟨f1, f2⟩ := mm2 (a := r1) (b := r1) (by simpa using hh); rw [f1, f2]; exact ⟨rfl, by (repeat (first | exact Keeps.refl _ _ | refine Keeps.alloc ?_ _ | refine Keeps.drew ?_))⟩))
      · by_cases k4 : dy > 0
        · rw [if_pos k1, if_pos k2, if_neg k3, if_pos k4]
          (have d1 : decide (x < le) = true := decide_eq_true k1; have d1' : decide (le > x) = true := decide_eq_true k1; clear k1)
          (have d2 : decide (ri ≤ X) = true := decide_eq_true k2; clear k2)
          (have d3 : decide (dy = 0) = false := decide_eq_false k3; have d3' : (dy == 0) = false := (by simpa using k3); clear k3)
          (have d4 : decide (dy > 0) = true := decide_eq_true k4; have d4' : decide (0 < dy) = true := decide_eq_true k4; clear k4)
          (clear HW; go_enter Try.func76, Try.ntmps76; go_wp2_with (first | (go_at_call 75; (first | (with_reducible refine (HZ.out.1 _).mono ?_) | (with_reducible refine (HZ.out.2.1 _).mono ?_) | (with_reducible refine (HK.out.1 _).mono ?_) | (with_reducible refine (HK.out.2.1 _).mono ?_)); rintro e w2 ⟨rfl, rfl⟩) | (go_at_call 83; (with_reducible refine (HK.out.2.2 _).mono ?_); rintro e w2 ⟨rfl, rfl⟩)); all_goals go_ret2; all_goals first | (rw [Int.min_self, Int.max_self]; exact ⟨rfl, by (repeat (first | exact Keeps.refl _ _ | refine Keeps.alloc ?_ _ | refine Keeps.drew ?_))⟩) | (rename_i hh; obtain ⟨f1, f2⟩ := mm1 (a := r1) (b := r4 - 1) (by simpa using hh); rw [f1, f2]; exact ⟨rfl, by (repeat (first | exact Keeps.refl _ _ | refine Keeps.alloc ?_ _ | refine Keeps.drew ?_))⟩) | (rename_i hh; obtain ⟨f1, f2⟩ := mm2 (a := r1) (b := r4 - 1) (by simpa using hh); rw [f1, f2]; exact ⟨rfl, by (repeat (first | exact Keeps.refl _ _ | refine Keeps.alloc ?_ _ | refine Keeps.drew ?_))⟩))
        · rw [if_pos k1, if_pos k2, if_neg k3, if_neg k4]
          (have d1 : decide (x < le) = true := decide_eq_true k1; have d1' : decide (le > x) = true := decide_eq_true k1; clear k1)
          (have d2 : decide (ri ≤ X) = true := decide_eq_true k2; clear k2)
          (have d3 : decide (dy = 0) = false := decide_eq_false k3; have d3' : (dy == 0) = false := (by simpa using k3); clear k3)
          (have d4 : decide (dy > 0) = false := decide_eq_false k4; have d4' : decide (0 < dy) = false := decide_eq_false k4; clear k4)
          (clear HW; go_enter Try.func76, Try.ntmps76; go_wp2_with (first | (go_at_call 75; (first | (with_reducible refine (HZ.out.1 _).mono ?_) | (with_reducible refine (HZ.out.2.1 _).mono ?_) | (with_reducible refine (HK.out.1 _).mono ?_) | (with_reducible refine (HK.out.2.1 _).mono ?_)); rintro e w2 ⟨rfl, rfl⟩) | (go_at_call 83; (with_reducible refine (HK.out.2.2 _).mono ?_); rintro e w2 ⟨rfl, rfl⟩)); all_goals go_ret2; all_goals first | (rw [Int.min_self, Int.max_self]; exact ⟨rfl, by (repeat (first | exact Keeps.refl _ _ | refine Keeps.alloc ?_ _ | refine Keeps.drew ?_))⟩) | (rename_i hh; obtain ⟨f1, f2⟩ := mm1 (a := r1) (b := r3) (by simpa using hh); rw [f1, f2]; exact ⟨rfl, by (repeat (first | exact Keeps.refl _ _ | refine Keeps.alloc ?_ _ | refine Keeps.drew ?_))⟩) | (rename_i hh; obtain ⟨f1, f2⟩ := mm2 (a := r1) (b := r3) (by simpa using hh); rw [f1, f2]; exact ⟨rfl, by (repeat (first | exact Keeps.refl _ _ | refine Keeps.alloc ?_ _ | refine Keeps.drew ?_))⟩))
    · have HK := Lib.hid (And.intro (HZ.out.2.2.1 k1) (And.intro (HZ.out.2.2.1 k1) (HZ.out.2.2.1 k1)))
      rw [if_pos k1, if_neg k2]
      (have d1 : decide (x < le) = true := decide_eq_true k1; have d1' : decide (le > x) = true := decide_eq_true k1; clear k1)
      (have d2 : decide (ri ≤ X) = false := decide_eq_false k2; clear k2)
      (clear HW; go_enter Try.func76, Try.ntmps76; go_wp2_with (first | (go_at_call 75; (first | (with_reducible refine (HZ.out.1 _).mono ?_) | (with_reducible refine (HZ.out.2.1 _).mono ?_) | (with_reducible refine (HK.out.1 _).mono ?_) | (with_reducible refine (HK.out.2.1 _).mono ?_)); rintro e w2 ⟨rfl, rfl⟩) | (go_at_call 83; (with_reducible refine (HK.out.2.2 _).mono ?_); rintro e w2 ⟨rfl, rfl⟩)); all_goals go_ret2; all_goals first | (rw [Int.min_self, Int.max_self]; exact ⟨rfl, by (repeat (first | exact Keeps.refl _ _ | refine Keeps.alloc ?_ _ | refine Keeps.drew ?_))⟩) | (rename_i hh; obtain ⟨f1, f2⟩ := mm1 (a := r1) (b := r2) (by simpa using hh); rw [f1, f2]; exact ⟨rfl, by (repeat (first | exact Keeps.refl _ _ | refine Keeps.alloc ?_ _ | refine Keeps.drew ?_))⟩) | (rename_i hh; obtain ⟨f1, f2⟩ := mm2 (a := r1) (b := r2) (by simpa using hh); rw [f1, f2]; exact ⟨rfl, by (repeat (first | exact Keeps.refl _ _ | refine Keeps.alloc ?_ _ | refine Keeps.drew ?_))⟩))
  · by_cases k2 : ri ≤ X
    · obtain ⟨o3, o4⟩ := HW.out.2.1 k2
      have o5 := HW.out.2.2 k2
      have HK := Lib.hid (And.intro (HZ.out.2.2.2.1 k2) (And.intro (HZ.out.2.2.2.1 k2) (HZ.out.2.2.2.2 k2)))
      by_cases k3 : dy = 0
      · rw [if_neg k1, if_pos k2, if_pos k3]
        (have d1 : decide (x < le) = false := decide_eq_false k1; have d1' : decide (le > x) = false := decide_eq_false k1; clear k1)
        (have d2 : decide (ri ≤ X) = true := decide_eq_true k2; clear k2)
        (have d3 : decide (dy = 0) = true := decide_eq_true k3; have d3' : (dy == 0) = true := (by simpa using k3); have d4 : decide (dy > 0) = false := decide_eq_false (by omega); have d4' : decide (0 < dy) = false := decide_eq_false (by omega); clear k3)
        (clear HW; go_enter Try.func76, Try.ntmps76; go_wp2_with (first | (go_at_call 75; (first | (with_reducible refine (HZ.out.1 _).mono ?_) | (with_reducible refine (HZ.out.2.1 _).mono ?_) | (with_reducible refine (HK.out.1 _).mono ?_) | (with_reducible refine (HK.out.2.1 _).mono ?_)); rintro e w2 ⟨rfl, rfl⟩) | (go_at_call 83; (with_reducible refine (HK.out.2.2 _).mono ?_); rintro e w2 ⟨rfl, rfl⟩)); all_goals go_ret2; all_goals first | (rw [Int.min_self, Int.max_self]; exact ⟨rfl, by (repeat (first | exact Keeps.refl _ _ | refine Keeps.alloc ?_ _ | refine Keeps.drew ?_))⟩) | (rename_i hh; obtain ⟨f1, f2⟩ := mm1 (a := r0) (b := r0) (by simpa using hh); rw [f1, f2]; exact ⟨rfl, by (repeat (first | exact Keeps.refl _ _ | refine Keeps.alloc ?_ _ | refine Keeps.drew ?_))⟩) | (rename_i hh; obtain ⟨f1, f2⟩ := mm2 (a := r0) (b := r0) (by simpa using hh); rw [f1, f2]; exact ⟨rfl, by (repeat (first | exact Keeps.refl _ _ | refine Keeps.alloc ?_ _ | refine Keeps.drew ?_))⟩))
      · by_cases k4 : dy > 0
        · rw [if_neg k1, if_pos k2, if_neg k3, if_pos k4]
          (have d1 : decide (x < le) = false := decide_eq_false k1; have d1' : decide (le > x) = false := decide_eq_false k1; clear k1)
          (have d2 : decide (ri ≤ X) = true := decide_eq_true k2; clear k2)
          (have d3 : decide (dy = 0) = false := decide_eq_false k3; have d3' : (dy == 0) = false := (by simpa using k3); clear k3)
          (have d4 : decide (dy > 0) = true := decide_eq_true k4; have d4' : decide (0 < dy) = true := decide_eq_true k4; clear k4)
          (clear HW; go_enter Try.func76, Try.ntmps76; go_wp2_with (first | (go_at_call 75; (first | (with_reducible refine (HZ.out.1 _).mono ?_) | (with_reducible refine (HZ.out.2.1 _).mono ?_) | (with_reducible refine (HK.out.1 _).mono ?_) | (with_reducible refine (HK.out.2.1 _).mono ?_)); rintro e w2 ⟨rfl, rfl⟩) | (go_at_call 83; (with_reducible refine (HK.out.2.2 _).mono ?_); rintro e w2 ⟨rfl, rfl⟩)); all_goals go_ret2; all_goals first | (rw [Int.min_self, Int.max_self]; exact ⟨rfl, by (repeat (first | exact Keeps.refl _ _ | refine Keeps.alloc ?_ _ | refine Keeps.drew ?_))⟩) | (rename_i hh; obtain ⟨f1, f2⟩ := mm1 (a := r0) (b := r4 - 1) (by simpa using hh); rw [f1, f2]; exact ⟨rfl, by (repeat (first | exact Keeps.refl _ _ | refine Keeps.alloc ?_ _ | refine Keeps.drew ?_))⟩) | (rename_i hh; obtain ⟨f1, f2⟩ := mm2 (a := r0) (b := r4 - 1) (by simpa using hh); rw [f1, f2]; exact ⟨rfl, by (repeat (first | exact Keeps.refl _ _ | refine Keeps.alloc ?_ _ | refine Keeps.drew ?_))⟩))
        · rw [if_neg k1, if_pos k2, if_neg k3, if_neg k4]
          (have d1 : decide (x < le) = false := decide_eq_false k1; have d1' : decide (le > x) = false := decide_eq_false k1; clear k1)
          (have d2 : decide (ri ≤ X) = true := decide_eq_true k2; clear k2)
          (have d3 : decide (dy = 0) = false := decide_eq_false k3; have d3' : (dy == 0) = false := (by simpa using k3); clear k3)
          (have d4 : decide (dy > 0) = false := decide_eq_false k4; have d4' : decide (0 < dy) = false := decide_eq_false k4; clear k4)
          (clear HW; go_enter Try.func76, Try.ntmps76; go_wp2_with (first | (go_at_call 75; (first | (with_reducible refine (HZ.out.1 _).mono ?_) | (with_reducible refine (HZ.out.2.1 _).mono ?_) | (with_reducible refine (HK.out.1 _).mono ?_) | (with_reducible refine (HK.out.2.1 _).mono ?_)); rintro e w2 ⟨rfl, rfl⟩) | (go_at_call 83; (with_reducible refine (HK.out.2.2 _).mono ?_); rintro e w2 ⟨rfl, rfl⟩)); all_goals go_ret2; all_goals first | (rw [Int.min_self, Int.max_self]; exact ⟨rfl, by (repeat (first | exact Keeps.refl _ _ | refine Keeps.alloc ?_ _ | refine Keeps.drew ?_))⟩) | (rename_i hh; obtain ⟨f1, f2⟩ := mm1 (a := r0) (b := r3) (by simpa using hh); rw [f1, f2]; exact ⟨rfl, by (repeat (first | exact Keeps.refl _ _ | refine Keeps.alloc ?_ _ | refine Keeps.drew ?_))⟩) | (rename_i hh; obtain ⟨f1, f2⟩ := mm2 (a := r0) (b := r3) (by simpa using hh); rw [f1, f2]; exact ⟨rfl, by (repeat (first | exact Keeps.refl _ _ | refine Keeps.alloc ?_ _ | refine Keeps.drew ?_))⟩))
    · have HK := Lib.hid (And.intro HZ.out.1 (And.intro HZ.out.1 HZ.out.1))
      rw [if_neg k1, if_neg k2]
      (have d1 : decide (x < le) = false := decide_eq_false k1; have d1' : decide (le > x) = false := decide_eq_false k1; clear k1)
      (have d2 : decide (ri ≤ X) = false := decide_eq_false k2; clear k2)
      (clear HW; go_enter Try.func76, Try.ntmps76; go_wp2_with (first | (go_at_call 75; (first | (with_reducible refine (HZ.out.1 _).mono ?_) | (with_reducible refine (HZ.out.2.1 _).mono ?_) | (with_reducible refine (HK.out.1 _).mono ?_) | (with_reducible refine (HK.out.2.1 _).mono ?_)); rintro e w2 ⟨rfl, rfl⟩) | (go_at_call 83; (with_reducible refine (HK.out.2.2 _).mono ?_); rintro e w2 ⟨rfl, rfl⟩)); all_goals go_ret2; all_goals first | (rw [Int.min_self, Int.max_self]; exact ⟨rfl, by (repeat (first | exact Keeps.refl _ _ | refine Keeps.alloc ?_ _ | refine Keeps.drew ?_))⟩) | (rename_i hh; obtain ⟨f1, f2⟩ := mm1 (a := r0) (b := r2) (by simpa using hh); rw [f1, f2]; exact ⟨rfl, by (repeat (first | exact Keeps.refl _ _ | refine Keeps.alloc ?_ _ | refine Keeps.drew ?_))⟩) | (rename_i hh; obtain ⟨f1, f2⟩ := mm2 (a := r0) (b := r2) (by simpa using hh); rw [f1, f2]; exact ⟨rfl, by (repeat (first | exact Keeps.refl _ _ | refine Keeps.alloc ?_ _ | refine Keeps.drew ?_))⟩))
theorem column_t (x y X Y s c : Int) (hp : On x y) (hq : On X Y) (hs : Size s) (hle : x ≤ X) (hc1 : x / s ≤ c) (hc2 : c ≤ X / s) (w : World) :
    Calls Try.prog 76 #[.agg #[.int .i32 x, .int .i32 y], .agg #[.int .i32 X, .int .i32 Y], .int .i64 s, .int .i64 c] w (fun e w' => e = .returned (.tuple #[.int .i64 (lowR x y (X - x) (Y - y) s c), .int .i64 (highR x y (X - x) (Y - y) s c)]) ∧ Keeps (fun _ => False) w w') := by
  by_cases h : x = X
  · exact column_0 x y X Y s c hp hq hs h w
  · exact column_1 x y X Y s c hp hq hs (by omega) hc1 hc2 w
end Gx
end Go.Proofs.Ytdbpfbokfmpgcaa
