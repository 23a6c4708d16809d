/-
GsA: cells: the small functions at any place.
-/
import Derived.Test.YtdbpfbokfmpgcaaGreatZabGrAGsPFiQGrBGrCGrDGrE
set_option linter.unusedVariables false
set_option linter.unusedSimpArgs false
set_option maxHeartbeats 16000000
attribute [local go_sem] Go.Oper.semAt_some
namespace Go.Proofs.YtdbpfbokfmpgcaaGreat
theorem ZBC {α : Type} (x : α) : ∃ y, y = x := ⟨_, rfl⟩
theorem Z4 {p : Prop} (h : p := by (repeat (first | exact Keeps.refl _ _ | refine Keeps.alloc ?_ _ | refine Keeps.drew ?_))) : p := h
theorem ZBI {p : Prop} (h : p := by kernel_rfl) : p := h
theorem ZAo {p : Prop} (h : p := by (repeat (first | exact HK.out | refine Keeps.alloc ?_ _ | refine Keeps.drew ?_ | (refine Keeps.setCell ?_ (fun h => ?_) _; rotate_left; (exfalso; have hz := HK.out.size; simp at h hz; omega))))) : p := h
theorem Zk {p : Prop} (h : p := by
 go_ret
 first
  | exact ⟨rfl, Z4⟩
  | exact ⟨by simp [h4], Z4⟩) : p := h
open Go.RowKit Go.Shelf
namespace Gs
open Mem Gr
theorem size_t (s : Int) (w : World) : Calls Tryz.prog 132 #[.int .i64 s] w fun e w' => e = .returned (.bool (decide (Size s))) ∧ w = w' := by
 unfold Size
 by_cases h1 : 1 ≤ s <;> by_cases h2 : s ≤ 2147483648
 all_goals
  simp only [h1, h2, and_true, and_false, decide_true, decide_false]
  go_enter Tryz.func132, Tryz.ntmps132
  go_wp2
  go_ret
  exact ⟨rfl, rfl⟩
theorem in_t (x y : Int) (w : World) : Calls Tryz.prog 133 #[.agg #[.int .i32 x, .int .i32 y]] w fun e w' => e = .returned (.bool (decide (On x y))) ∧ w.alloc (.cells #[.int .i32 x, .int .i32 y] 37) = w' := by
 unfold On B0
 by_cases h1 : -1073741823 ≤ x <;> by_cases h2 : x ≤ 1073741823 <;> by_cases h3 : -1073741823 ≤ y <;> by_cases h4 : y ≤ 1073741823
 all_goals try (exfalso; omega)
 all_goals
  simp only [h1, h2, h3, h4, and_true, and_false, decide_true, decide_false]
  go_enter Tryz.func133, Tryz.ntmps133
  go_wp2
  go_ret
  exact ⟨rfl, rfl⟩
theorem pin_t (x y : Int) (w : World) : Calls Tryz.prog 85 #[.agg #[.int .i32 x, .int .i32 y]] w fun e w' => e = .returned (.bool (decide (On x y))) ∧ w.alloc (.cells #[.int .i32 x, .int .i32 y] 37) = w' := by
 unfold On B0
 by_cases h1 : -1073741823 ≤ x <;> by_cases h2 : x ≤ 1073741823 <;> by_cases h3 : -1073741823 ≤ y <;> by_cases h4 : y ≤ 1073741823
 all_goals try (exfalso; omega)
 all_goals
  simp only [h1, h2, h3, h4, and_true, and_false, decide_true, decide_false]
  go_enter Tryz.func85, Tryz.ntmps85
  go_wp2
  go_ret
  exact ⟨rfl, rfl⟩
theorem floor_eq {n d : Int} (hd : 1 ≤ d) : n / d = if Int.tmod n d < 0 then Int.tdiv n d - 1 else Int.tdiv n d := by
 have h1 : 0 ≤ n % d := Int.emod_nonneg _ Z8
 have h2 : n % d < d := Int.emod_lt_of_pos _ Z8
 rw [Int.tmod_eq_emod, Int.tdiv_eq_ediv, Int.sign_eq_one_of_pos (show 0 < d by omega)]
 by_cases h : 0 ≤ n ∨ d ∣ n
 ·simp only [h, if_true]; rw [if_neg Z8]; omega
 ·simp only [h, if_false]; rw [if_pos Z8]; omega
theorem ediv_in {n d : Int} (hd : 1 ≤ d) : (0 ≤ n → 0 ≤ n / d ∧ n / d ≤ n) ∧ (n ≤ 0 → n ≤ n / d ∧ n / d ≤ 0) := by
 refine ⟨fun h => ⟨Int.ediv_nonneg h Z8, Int.ediv_le_self _ h⟩, fun h => ⟨?_, ?_⟩⟩
 ·rw [Int.le_ediv_iff_mul_le Z8]
  have := Int.mul_le_mul_of_nonpos_left h hd
  omega
 ·by_cases h1 : 0 < n / d
  ·have := (Int.le_ediv_iff_mul_le (show 0 < d by omega)).1 (show 1 ≤ n / d by omega)
   omega
  ·omega
theorem floor_t (n d : Int) (w : World) (hn : -4611686018427387904 ≤ n) (hn2 : n ≤ 4611686018427387904) (hd : 1 ≤ d) (hd2 : d ≤ 4611686018427387904) : Calls Tryz.prog 141 #[.int .i64 n, .int .i64 d] w fun e w' => e = .returned (.int .i64 (n / d)) ∧ w = w' := by
 have h0 : ¬ d = 0 := by omega
 go_enter Tryz.func141, Tryz.ntmps141
 have e := floor_eq (n := n) hd
 have hb := ediv_in (n := n) hd
 have hb2 : -4611686018427387904 ≤ n / d ∧ n / d ≤ 4611686018427387904 := by
  rcases Int.le_total 0 n with h | h
  ·have := hb.1 h; omega
  ·have := hb.2 h; omega
 clear hb
 have HE := Lib.hid (And.intro e hb2)
 clear e hb2
 go_wp2
 ·go_ret
  rename_i h
  obtain ⟨e, hb⟩ := HE.out
  rw [if_pos h] at e
  rw [e] at hb ⊢
  have hw2 : wrap64 (n.tdiv d - 1) = n.tdiv d - 1 := by unfold wrap64; omega
  simp [hw2]
 ·go_ret
  rename_i h
  obtain ⟨e, hb⟩ := HE.out
  rw [if_neg Z8] at e
  rw [e]
  exact ⟨rfl, rfl⟩
def Bx.val (b : Bx) : Value := .agg #[.int .i32 b.x0, .int .i32 b.y0, .int .i32 b.x1, .int .i32 b.y1]
theorem box_t (b : Bx) (w : World) : Calls Tryz.prog 137 #[.agg #[.int .i32 b.x0, .int .i32 b.y0, .int .i32 b.x1, .int .i32 b.y1]] w (Gave (.bool (decide (Right b))) w) := by
 unfold Right
 by_cases h1 : On b.x0 b.y0 <;> by_cases h2 : On b.x1 b.y1 <;> by_cases h3 : b.x0 ≤ b.x1 <;> by_cases h4 : b.y0 ≤ b.y1
 all_goals
  have i1 := in_t b.x0 b.y0
  have i2 := in_t b.x1 b.y1
  simp only [h1, h2, h3, h4, true_and, false_and, and_true, and_false, decide_true, decide_false] at i1 i2 ⊢
  go_enter Tryz.func137, Tryz.ntmps137
  go_wp2_with (go_at_call 133; (first | (with_reducible refine (i1 _).mono ?_) | (with_reducible refine (i2 _).mono ?_)); rintro e w1 ⟨rfl, rfl⟩)
  exact Zk
theorem right_t (b : Bx) (w : World) : Calls Tryz.prog 130 #[.agg #[.int .i32 b.x0, .int .i32 b.y0, .int .i32 b.x1, .int .i32 b.y1]] w (Gave (.bool (decide (Right b))) w) := by
 unfold Right
 by_cases h1 : On b.x0 b.y0 <;> by_cases h2 : On b.x1 b.y1 <;> by_cases h3 : b.x0 ≤ b.x1 <;> by_cases h4 : b.y0 ≤ b.y1
 all_goals
  have i1 := pin_t b.x0 b.y0
  have i2 := pin_t b.x1 b.y1
  simp only [h1, h2, h3, h4, true_and, false_and, and_true, and_false, decide_true, decide_false] at i1 i2 ⊢
  go_enter Tryz.func130, Tryz.ntmps130
  go_wp2_with (go_at_call 85; (first | (with_reducible refine (i1 _).mono ?_) | (with_reducible refine (i2 _).mono ?_)); rintro e w1 ⟨rfl, rfl⟩)
  exact Zk
theorem quot_in {x s : Int} (hs : 1 ≤ s) (h1 : -B0 ≤ x) (h2 : x ≤ B0) : -1073741823 ≤ x / s ∧ x / s ≤ 1073741823 := by
 have := ediv_in (n := x) hs
 unfold B0 at h1 h2
 rcases Int.le_total 0 x with h | h
 ·have := this.1 h; omega
 ·have := this.2 h; omega
theorem of_t (x y s : Int) (hs : Size s) (ho : On x y) (w : World) : Calls Tryz.prog 134 #[.agg #[.int .i32 x, .int .i32 y], .int .i64 s] w (fun e w' => e = .returned (.agg #[.int .i32 (x / s), .int .i32 (y / s)]) ∧ ((w.alloc (.cells #[.int .i32 x, .int .i32 y] 37)).alloc (.cells #[.int .i32 (x / s), .int .i32 (y / s)] 181)).drew = w') := by
 have q1 := quot_in hs.1 ho.1 ho.2.1
 have q2 := quot_in hs.1 ho.2.2.1 ho.2.2.2
 have hx : -1073741823 ≤ x ∧ x ≤ 1073741823 := ⟨ho.1, ho.2.1⟩
 have hy : -1073741823 ≤ y ∧ y ≤ 1073741823 := ⟨ho.2.2.1, ho.2.2.2⟩
 have hs' := hs
 unfold Size at hs'
 have f1 := fun W => floor_t x s W Z8 Z8 Z8 Z8
 have f2 := fun W => floor_t y s W Z8 Z8 Z8 Z8
 obtain ⟨qx, hqx⟩ := ZBC (x / s)
 obtain ⟨qy, hqy⟩ := ZBC (y / s)
 rw [← hqx] at q1 f1 ⊢
 rw [← hqy] at q2 f2 ⊢
 have h1 : IntKind.i32.wrap qx = qx := IntWalk.i32_in _ Z8
 have h2 : IntKind.i32.wrap qy = qy := IntWalk.i32_in _ Z8
 have cX := (Blk.new w 37 [.int .i32 x, .int .i32 y])
 have c1 := fun o => (cX.alloc o).drew.cell
 have h3 : IntKind.i64.wrap x = x := IntWalk.i64_in _ Z8
 have h4 : IntKind.i64.wrap y = y := IntWalk.i64_in _ Z8
 clear cX hqx hqy q1 q2 hs hs' ho hx hy
 go_enter Tryz.func134, Tryz.ntmps134
 go_wp2
 go_region_held3 (fun W => ∀ i : Nat, W.cell? ⟨w.heap.size, i, none⟩ = ([.int .i32 x, .int .i32 y] : List Value)[i]?) (first | with_reducible assumption | exact c1 _) (first
  | (go_at_call 141; (first | (with_reducible refine (f1 _).mono ?_) | (with_reducible refine (f2 _).mono ?_)); rintro e w1 ⟨rfl, rfl⟩))
 all_goals
  go_wp2
  exact bodyPost_ret (results_cell_row rfl _ _ (w.heap.size + 1) 181 #[.int .i32 qx, .int .i32 qy] _ _ rfl (by have := (Blk.new (w.alloc (.cells #[.int .i32 x, .int .i32 y] 37)) 181 [.int .i32 qx, .int .i32 qy]).drew; simpa [Blk] using this) Tryz.underlying181 rfl ZBI) rfl ⟨rfl, rfl⟩
theorem prod_in {a b c d : Int} (h1 : -2147483648 ≤ a - b) (h2 : a - b ≤ 2147483648) (h3 : -2147483648 ≤ c - d) (h4 : c - d ≤ 2147483648) : -9223372036854775808 ≤ (a - b + 1) * (c - d + 1) ∧ (a - b + 1) * (c - d + 1) ≤ 9223372036854775807 := by
 have h : ((a - b + 1) * (c - d + 1)).natAbs ≤ 2147483649 * 2147483649 := by
  rw [Int.natAbs_mul]; exact Nat.mul_le_mul Z8 Z8
 omega
theorem count_t (s : Int) (hs : Size s) (b : Bx) (hb : Right b) (w : World) : Calls Tryz.prog 126 #[.agg #[.int .i32 b.x0, .int .i32 b.y0, .int .i32 b.x1, .int .i32 b.y1], .int .i64 s] w (Gave (.int .i64 (cnt s b)) w) := by
 have o1 := of_t b.x0 b.y0 s hs hb.1
 have o2 := of_t b.x1 b.y1 s hs hb.2.1
 have z1 := size_t s
 have z2 := box_t b
 simp only [hs, hb, decide_true] at z1 z2
 have q1 := quot_in hs.1 hb.1.1 hb.1.2.1
 have q2 := quot_in hs.1 hb.1.2.2.1 hb.1.2.2.2
 have q3 := quot_in hs.1 hb.2.1.1 hb.2.1.2.1
 have q4 := quot_in hs.1 hb.2.1.2.2.1 hb.2.1.2.2.2
 unfold cnt
 obtain ⟨a, ha⟩ := ZBC (b.x0 / s)
 obtain ⟨c, hc⟩ := ZBC (b.y0 / s)
 obtain ⟨d, hd⟩ := ZBC (b.x1 / s)
 obtain ⟨f, hf⟩ := ZBC (b.y1 / s)
 rw [← ha] at o1 q1 ⊢
 rw [← hc] at o1 q2 ⊢
 rw [← hd] at o2 q3 ⊢
 rw [← hf] at o2 q4 ⊢
 have w1 : IntKind.i64.wrap (d - a) = d - a := IntWalk.i64_in _ Z8
 have w2 : IntKind.i64.wrap (f - c) = f - c := IntWalk.i64_in _ Z8
 have w3 : IntKind.i64.wrap (d - a + 1) = d - a + 1 := IntWalk.i64_in _ Z8
 have w4 : IntKind.i64.wrap (f - c + 1) = f - c + 1 := IntWalk.i64_in _ Z8
 have w5 : IntKind.i64.wrap ((d - a + 1) * (f - c + 1)) = (d - a + 1) * (f - c + 1) := IntWalk.i64_in _ (prod_in Z8 Z8 Z8 Z8)
 have w6 : IntKind.i64.wrap a = a := IntWalk.i64_in _ Z8
 have w7 : IntKind.i64.wrap c = c := IntWalk.i64_in _ Z8
 have w8 : IntKind.i64.wrap d = d := IntWalk.i64_in _ Z8
 have w9 : IntKind.i64.wrap f = f := IntWalk.i64_in _ Z8
 have HB := Lib.hid (Blk.new w 39 [.int .i32 b.x0, .int .i32 b.y0, .int .i32 b.x1, .int .i32 b.y1])
 have HK1 := Lib.hid (Keeps.refl (fun _ => False) (w.alloc (.cells #[.int .i32 b.x0, .int .i32 b.y0, .int .i32 b.x1, .int .i32 b.y1] 39)))
 have HQ := Lib.hid (And.intro q1 (And.intro q2 (And.intro q3 q4)))
 clear ha hc hd hf q1 q2 q3 q4 hs hb
 go_enter Tryz.func126, Tryz.ntmps126
 go_wp2_with (first
  | (go_at_call 132; refine (z1 _).mono ?_; rintro e w1 ⟨rfl, rfl⟩)
  | (go_at_call 137; refine (z2 _).mono ?_; rintro e W1 ⟨rfl, hk1⟩; have HK := Lib.hid (HK1.out.trans hk1); clear hk1))
 go_region_held3 (fun W => ∀ i : Nat, W.cell? ⟨w.heap.size, i, none⟩ = ([.int .i32 b.x0, .int .i32 b.y0, .int .i32 b.x1, .int .i32 b.y1] : List Value)[i]?) (first | with_reducible assumption | exact (HB.out.keeps (S := fun _ => False) ZAo (fun h => h)).cell) (first
  | (go_at_call 134; (first | (with_reducible refine (o1 _).mono ?_) | (with_reducible refine (o2 _).mono ?_)); rintro e w2 ⟨rfl, rfl⟩))
 all_goals
  go_wp2
  go_ret
  exact ⟨rfl, Keeps.trans ((Keeps.refl _ w).alloc _) ZAo⟩
end Gs
end Go.Proofs.YtdbpfbokfmpgcaaGreat
