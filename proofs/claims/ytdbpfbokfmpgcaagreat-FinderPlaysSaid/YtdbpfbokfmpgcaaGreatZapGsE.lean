/-
GsE: the rows of a line in a column.
-/
import Derived.Test.YtdbpfbokfmpgcaaGreatZajGsA
set_option linter.unusedVariables false
set_option linter.unusedSimpArgs false
set_option maxHeartbeats 16000000
attribute [local go_sem] Go.Oper.semAt_some
namespace Go.Proofs.YtdbpfbokfmpgcaaGreat
theorem ZQ {p : Prop} (h : p := by
 (go_enter Tryz.func135, Tryz.ntmps135; go_wp2_with (first | (go_at_call 141; (first | (with_reducible refine (f1 _).mono ?_) | (with_reducible refine (f2 _).mono ?_)); rintro e w2 ⟨rfl, rfl⟩) | (go_at_call 142; (first | (with_reducible refine (rb _).mono ?_) | (with_reducible refine (re _).mono ?_)); rintro e w2 ⟨rfl, rfl⟩)); all_goals (go_ret2; refine ⟨?_, Z4⟩; first | rfl | (simp; omega)))) : p := h
open Go.RowKit Go.Shelf
namespace Gs
open Mem Gr
theorem mul_bd {a b : Int} {A B : Nat} (ha : a.natAbs ≤ A) (hb : b.natAbs ≤ B) : (a * b).natAbs ≤ A * B := by rw [Int.natAbs_mul]; exact Nat.mul_le_mul ha hb
structure Ln (x y dx dy s : Int) : Prop where
 p : On x y
 q : On (x + dx) (y + dy)
 d : 0 ≤ dx
 s : Size s
theorem num_bd {y dx dy t : Int} (h1 : y.natAbs ≤ 1073741823) (h2 : (y + dy).natAbs ≤ 1073741823) (h3 : 0 ≤ t) (h4 : t ≤ dx) : (y * dx + dy * t).natAbs ≤ 1073741823 * dx.natAbs := by
 have e : y * dx + dy * t = y * (dx - t) + (y + dy) * t := by rw [Int.mul_sub, Int.add_mul]; omega
 rw [e]
 have b1 := mul_bd h1 (Nat.le_refl (dx - t).natAbs)
 have b2 := mul_bd h2 (Nat.le_refl t.natAbs)
 have b3 : (dx - t).natAbs + t.natAbs = dx.natAbs := by omega
 have b4 := Int.natAbs_add_le (y * (dx - t)) ((y + dy) * t)
 have b5 : 1073741823 * (dx - t).natAbs + 1073741823 * t.natAbs = 1073741823 * dx.natAbs := by omega
 omega
theorem rowAt_in {y dx dy s t : Int} (h1 : y.natAbs ≤ 1073741823) (h2 : (y + dy).natAbs ≤ 1073741823) (hd : 0 < dx) (hs : 1 ≤ s) (h3 : 0 ≤ t) (h4 : t ≤ dx) : -1073741824 ≤ rowAt y dx dy s t ∧ rowAt y dx dy s t ≤ 1073741824 := by
 have b := num_bd h1 h2 h3 h4
 have hp : 0 < dx * s := Int.mul_pos hd Z8
 have h5 : dx ≤ dx * s := by
  have := Int.mul_le_mul_of_nonneg_left hs (show 0 ≤ dx by omega)
  omega
 unfold rowAt
 generalize y * dx + dy * t = n at b ⊢
 generalize dx * s = D at hp h5 ⊢
 constructor
 ·rw [Int.le_ediv_iff_mul_le hp]; omega
 ·have : n / D < 1073741824 := by rw [Int.ediv_lt_iff_lt_mul hp]; omega
  omega
theorem row_t (x y dx dy s X : Int) (h : Ln x y dx dy s) (hd : 0 < dx) (h1 : x ≤ X) (h2 : X ≤ x + dx) (w : World) :
 Calls Tryz.prog 142 #[.agg #[.int .i64 x, .int .i64 y, .int .i64 dx, .int .i64 dy, .int .i64 s], .int .i64 X] w fun e w' => e = .returned (.tuple #[.int .i64 (rowAt y dx dy s (X - x)), .bool (decide (rowAt y dx dy s (X - x) * (dx * s) = y * dx + dy * (X - x)))]) ∧ (w.alloc (.cells #[.int .i64 x, .int .i64 y, .int .i64 dx, .int .i64 dy, .int .i64 s] 185)).drew = w' := by
 obtain ⟨⟨p1, p2, p3, p4⟩, ⟨q1, q2, q3, q4⟩, _, hs1, hs2⟩ := h
 unfold B0 at p1 p2 p3 p4 q1 q2 q3 q4
 have m1 := mul_bd (a := y) (b := dx) (A := 1073741823) (B := 2147483646) Z8 Z8
 have m2 := mul_bd (a := dy) (b := X - x) (A := 2147483646) (B := 2147483646) Z8 Z8
 have m3 := mul_bd (a := dx) (b := s) (A := 2147483646) (B := 2147483648) Z8 Z8
 have m4 := num_bd (y := y) (dx := dx) (dy := dy) (t := X - x) Z8 Z8 Z8 Z8
 have m5 : 0 < dx * s := Int.mul_pos hd Z8
 unfold rowAt
 obtain ⟨den, hden⟩ := ZBC (dx * s)
 obtain ⟨ta, hta⟩ := ZBC (y * dx)
 obtain ⟨tb, htb⟩ := ZBC (dy * (X - x))
 rw [← hden] at m3 m5 ⊢
 rw [← hta] at m1 m4 ⊢
 rw [← htb] at m2 m4 ⊢
 have e1 : (ta + tb) / den * den ≤ ta + tb := Int.ediv_mul_le _ Z8
 have e2 : ta + tb < ((ta + tb) / den + 1) * den := Int.lt_ediv_add_one_mul_self _ m5
 rw [Int.add_mul] at e2
 obtain ⟨q, hq⟩ := ZBC ((ta + tb) / den)
 have f := fun W => floor_t (ta + tb) den W Z8 Z8 Z8 Z8
 rw [← hq] at e1 e2 f ⊢
 obtain ⟨qd, hqd⟩ := ZBC (q * den)
 rw [← hqd] at e1 e2 ⊢
 have w1 : IntKind.i64.wrap (y * dx) = ta := by rw [← hta]; exact IntWalk.i64_in _ Z8
 have w2 : IntKind.i64.wrap (X - x) = X - x := IntWalk.i64_in _ Z8
 have w3 : IntKind.i64.wrap (dy * (X - x)) = tb := by rw [← htb]; exact IntWalk.i64_in _ Z8
 have w4 : IntKind.i64.wrap (ta + tb) = ta + tb := IntWalk.i64_in _ Z8
 have w5 : IntKind.i64.wrap (dx * s) = den := by rw [← hden]; exact IntWalk.i64_in _ Z8
 have w6 : IntKind.i64.wrap (q * den) = qd := by rw [← hqd]; exact IntWalk.i64_in _ Z8
 have HB := Lib.hid (Blk.new w 185 [.int .i64 x, .int .i64 y, .int .i64 dx, .int .i64 dy, .int .i64 s])
 have HQ := Lib.hid (And.intro hqd (And.intro hta (And.intro htb (And.intro hden hq))))
 clear hqd hta htb hden hq m1 m2 m3 m4 m5 e1 e2
 go_enter Tryz.func142, Tryz.ntmps142
 go_wp2
 go_region_held3 (fun W => ∀ i : Nat, W.cell? ⟨w.heap.size, i, none⟩ = ([.int .i64 x, .int .i64 y, .int .i64 dx, .int .i64 dy, .int .i64 s] : List Value)[i]?) (first | with_reducible assumption | exact HB.out.drew.cell) (first | fail)
 all_goals
  go_wp2_with (go_at_call 141; (with_reducible refine (f _).mono ?_); rintro e w2 ⟨rfl, rfl⟩)
  go_ret2
  exact ⟨by first | rfl | simp [beq_eq_decide], rfl⟩
theorem rows_zero (x y dy s c : Int) (h : Ln x y 0 dy s) (w : World) :
 Calls Tryz.prog 135 #[.agg #[.int .i64 x, .int .i64 y, .int .i64 0, .int .i64 dy, .int .i64 s], .int .i64 c] w (Gave (.tuple #[.int .i64 (lowR x y 0 dy s c), .int .i64 (highR x y 0 dy s c)]) w) := by
 obtain ⟨⟨p1, p2, p3, p4⟩, ⟨q1, q2, q3, q4⟩, _, hs1, hs2⟩ := h
 unfold B0 at p1 p2 p3 p4 q1 q2 q3 q4
 have f1 := fun W => floor_t y s W Z8 Z8 Z8 Z8
 have f2 := fun W => floor_t (y + dy) s W Z8 Z8 Z8 Z8
 unfold lowR highR
 simp only [if_true]
 obtain ⟨u, hu⟩ := ZBC (y / s)
 obtain ⟨v, hv⟩ := ZBC ((y + dy) / s)
 rw [← hu] at f1 ⊢
 rw [← hv] at f2 ⊢
 have w1 : IntKind.i64.wrap (y + dy) = y + dy := IntWalk.i64_in _ Z8
 have HB := Lib.hid (Blk.new w 185 [.int .i64 x, .int .i64 y, .int .i64 0, .int .i64 dy, .int .i64 s])
 clear hu hv p1 p2 p3 p4 q1 q2 q3 q4 hs1 hs2
 go_enter Tryz.func135, Tryz.ntmps135
 go_wp2
 go_region_held3 (fun W => ∀ i : Nat, W.cell? ⟨w.heap.size, i, none⟩ = ([.int .i64 x, .int .i64 y, .int .i64 0, .int .i64 dy, .int .i64 s] : List Value)[i]?) (first | with_reducible assumption | exact HB.out.drew.cell) (first
  | (go_at_call 141; (first | (with_reducible refine (f1 _).mono ?_) | (with_reducible refine (f2 _).mono ?_)); rintro e w2 ⟨rfl, rfl⟩))
 all_goals
  go_wp2
  all_goals
   go_ret2
   refine ⟨?_, Z4⟩
   first
    | rfl
    | (simp; omega)
theorem rows_up (x y dx dy s c : Int) (h : Ln x y dx dy s) (hd : 0 < dx) (hc1 : x / s ≤ c) (hc2 : c ≤ (x + dx) / s) (w : World) :
 Calls Tryz.prog 135 #[.agg #[.int .i64 x, .int .i64 y, .int .i64 dx, .int .i64 dy, .int .i64 s], .int .i64 c] w (Gave (.tuple #[.int .i64 (lowR x y dx dy s c), .int .i64 (highR x y dx dy s c)]) w) := by
 have r1 := fun X => row_t x y dx dy s X h hd
 obtain ⟨⟨p1, p2, p3, p4⟩, ⟨q1, q2, q3, q4⟩, _, hs1, hs2⟩ := h
 unfold B0 at p1 p2 p3 p4 q1 q2 q3 q4
 have f1 := fun W => floor_t y s W Z8 Z8 Z8 Z8
 have f2 := fun W => floor_t (y + dy) s W Z8 Z8 Z8 Z8
 have g1 : c * s ≤ x + dx := (Int.le_ediv_iff_mul_le Z8).1 hc2
 have g2 : x < (c + 1) * s := by
  have := Int.lt_ediv_add_one_mul_self x (show 0 < s by omega)
  have := Int.mul_le_mul_of_nonneg_right (show x / s + 1 ≤ c + 1 by omega) (show 0 ≤ s by omega)
  omega
 have g3 : (c + 1) * s = c * s + s := by rw [Int.add_mul, Int.one_mul]
 have g4 : -1073741823 ≤ x / s ∧ (x + dx) / s ≤ 1073741823 := ⟨(quot_in hs1 (by unfold B0; omega) (by unfold B0; omega)).1, (quot_in hs1 (by unfold B0; omega) (by unfold B0; omega)).2⟩
 unfold lowR highR firstR lastR last0 ontoR
 rw [if_neg (show ¬ dx = 0 by omega), if_neg (show ¬ dx = 0 by omega)]
 obtain ⟨bg, hbg⟩ := ZBC (c * s)
 obtain ⟨en, hen⟩ := ZBC ((c + 1) * s)
 obtain ⟨u, hu⟩ := ZBC (y / s)
 obtain ⟨v, hv⟩ := ZBC ((y + dy) / s)
 rw [← hbg] at g1 g3 ⊢
 rw [← hen] at g2 g3 ⊢
 rw [← hu] at f1 ⊢
 rw [← hv] at f2 ⊢
 have w0 : ¬ dx = 0 := by omega
 have w1 : IntKind.i64.wrap (y + dy) = y + dy := IntWalk.i64_in _ Z8
 have w2 : IntKind.i64.wrap (c * s) = bg := by rw [← hbg]; exact IntWalk.i64_in _ Z8
 have w3 : IntKind.i64.wrap (c + 1) = c + 1 := IntWalk.i64_in _ Z8
 have w4 : IntKind.i64.wrap ((c + 1) * s) = en := by rw [← hen]; exact IntWalk.i64_in _ Z8
 have w5 : IntKind.i64.wrap (x + dx) = x + dx := IntWalk.i64_in _ Z8
 have qb : bg > x → -1073741824 ≤ rowAt y dx dy s (bg - x) ∧ rowAt y dx dy s (bg - x) ≤ 1073741824 := fun hx => rowAt_in Z8 Z8 hd hs1 Z8 Z8
 have qe : en ≤ x + dx → -1073741824 ≤ rowAt y dx dy s (en - x) ∧ rowAt y dx dy s (en - x) ≤ 1073741824 := fun hx => rowAt_in Z8 Z8 hd hs1 Z8 Z8
 have re := fun hx W => r1 en Z8 hx W
 have rb := fun hx W => r1 bg hx Z8 W
 obtain ⟨ra, hra⟩ := ZBC (rowAt y dx dy s (bg - x))
 obtain ⟨rz, hrz⟩ := ZBC (rowAt y dx dy s (en - x))
 obtain ⟨oa, hoa⟩ := ZBC (decide (rowAt y dx dy s (bg - x) * (dx * s) = y * dx + dy * (bg - x)))
 obtain ⟨oz, hoz⟩ := ZBC (decide (rowAt y dx dy s (en - x) * (dx * s) = y * dx + dy * (en - x)))
 rw [← hoz] at re ⊢
 rw [← hoa] at rb
 rw [← hra] at rb qb ⊢
 rw [← hrz] at re qe ⊢
 have HB := Lib.hid (Blk.new w 185 [.int .i64 x, .int .i64 y, .int .i64 dx, .int .i64 dy, .int .i64 s])
 have c1 := HB.out.cell
 clear r1 hbg hen hu hv hra hrz hoa hoz p1 p2 p3 p4 q1 q2 q3 q4 hs1 hs2 hc1 hc2 g1 g2 g3 g4
 have w6 : en ≤ x + dx → IntKind.i64.wrap (rz - 1) = rz - 1 := fun hx => IntWalk.i64_in _ (by have := qe hx; omega)
 clear qb qe
 by_cases k1 : bg > x
 all_goals by_cases k2 : en ≤ x + dx
 all_goals
  (try have rb := rb (Int.le_of_lt k1))
  (try have re := re k2)
  (try have w6 := w6 k2)
 have c2 := fun o => (HB.out.alloc o).cell
 have c3 := fun o1 o2 => ((HB.out.alloc o1).alloc o2).cell
 ·cases oz <;> by_cases k3 : dy > 0
  all_goals
   simp only [k1, k2, k3, decide_true, Bool.true_and, Bool.and_true, Bool.false_and, Bool.and_false, if_true, if_false, and_true, and_false, true_and, false_and, Bool.false_eq_true, reduceCtorEq]
   exact ZQ
 ·have c2 := fun o => (HB.out.alloc o).cell
  simp only [k1, k2, decide_true, decide_false, Bool.true_and, Bool.and_true, Bool.false_and, Bool.and_false, if_true, if_false, and_true, and_false, true_and, false_and, Bool.false_eq_true, reduceCtorEq]
  exact ZQ
 ·have c2 := fun o => (HB.out.alloc o).cell
  cases oz <;> by_cases k3 : dy > 0
  all_goals
   simp only [k1, k2, k3, decide_true, decide_false, Bool.true_and, Bool.and_true, Bool.false_and, Bool.and_false, if_true, if_false, and_true, and_false, true_and, false_and, Bool.false_eq_true, reduceCtorEq]
   exact ZQ
 ·simp only [k1, k2, decide_true, decide_false, Bool.true_and, Bool.and_true, Bool.false_and, Bool.and_false, if_true, if_false, and_true, and_false, true_and, false_and, Bool.false_eq_true, reduceCtorEq]
  exact ZQ
theorem rows_t (x y dx dy s c : Int) (h : Ln x y dx dy s) (hc1 : x / s ≤ c) (hc2 : c ≤ (x + dx) / s) (w : World) :
 Calls Tryz.prog 135 #[.agg #[.int .i64 x, .int .i64 y, .int .i64 dx, .int .i64 dy, .int .i64 s], .int .i64 c] w (Gave (.tuple #[.int .i64 (lowR x y dx dy s c), .int .i64 (highR x y dx dy s c)]) w) := by
 by_cases hd : dx = 0
 ·subst hd; exact rows_zero x y dy s c h w
 ·exact rows_up x y dx dy s c h (by have := h.d; omega) hc1 hc2 w
theorem low_high {x y dx dy s c : Int} (h : Ln x y dx dy s) (hc1 : x / s ≤ c) (hc2 : c ≤ (x + dx) / s) : -1073741826 ≤ lowR x y dx dy s c ∧ lowR x y dx dy s c ≤ highR x y dx dy s c ∧ highR x y dx dy s c ≤ 1073741826 := by
 obtain ⟨hp, hq, hd0, hs⟩ := h
 have p := hp; have q := hq
 obtain ⟨p1, p2, p3, p4⟩ := p
 obtain ⟨q1, q2, q3, q4⟩ := q
 have u := quot_in hs.1 p3 p4
 have v := quot_in hs.1 q3 q4
 unfold B0 at p1 p2 p3 p4 q1 q2 q3 q4
 have g1 : c * s ≤ x + dx := (Int.le_ediv_iff_mul_le (by have := hs.1; omega)).1 hc2
 have g2 : x < (c + 1) * s := by
  have := Int.lt_ediv_add_one_mul_self x (show 0 < s by have := hs.1; omega)
  have := Int.mul_le_mul_of_nonneg_right (show x / s + 1 ≤ c + 1 by omega) (show 0 ≤ s by have := hs.1; omega)
  omega
 unfold lowR highR
 split
 ·omega
 ·rename_i hd
  have f : -1073741824 ≤ firstR x y dx dy s c ∧ firstR x y dx dy s c ≤ 1073741824 := by
   unfold firstR
   split
   ·exact rowAt_in Z8 Z8 Z8 hs.1 Z8 Z8
   ·omega
  have l : -1073741825 ≤ lastR x y dx dy s c ∧ lastR x y dx dy s c ≤ 1073741824 := by
   have l0 : -1073741824 ≤ last0 x y dx dy s c ∧ last0 x y dx dy s c ≤ 1073741824 := by
    unfold last0
    split
    ·exact rowAt_in Z8 Z8 Z8 hs.1 Z8 Z8
    ·omega
   unfold lastR
   split <;> omega
  omega
end Gs
end Go.Proofs.YtdbpfbokfmpgcaaGreat
