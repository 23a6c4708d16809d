/-
FiA: products of 128 bits, their order; to which side a place lies.
FiB: the finder: to which side a place lies; what covers a place and what meets a way, as closures.
FiC: the finder: what covers a place and what meets a way, as closures.
-/
import Derived.Test.YtdbpfbokfmpgcaaGreatZabGrAGsPFiQGrBGrCGrDGrE
import Derived.Lib.Mul64
import Derived.Laws.Bits64b
set_option linter.unusedVariables false
set_option linter.unusedSimpArgs false
set_option linter.ambiguousOpen false
set_option maxHeartbeats 16000000
attribute [local go_sem] Go.Oper.semAt_some
namespace Go.Proofs.YtdbpfbokfmpgcaaGreat
theorem ZBE {α : Type} (x : α) : ∃ y, y = x := ⟨_, rfl⟩
theorem ZBG {p : Prop} (h : p := by (repeat (first | exact Keeps.refl _ _ | refine Keeps.alloc ?_ _ | refine Keeps.drew ?_))) : p := h
theorem ZBK {p : Prop} (h : p := by kernel_rfl) : p := h
theorem ZP {p : Prop} (h : p := by
 (clear hq2 hmb hpq hx hy hH hlm; (try clear hp1); (try clear hp2); go_enter Tryz.func106, Tryz.ntmps106; go_wp2_with (go_at_call 114; (with_reducible refine (HZ.out _).mono ?_); rintro e w2 ⟨rfl, rfl⟩); refine bodyPost_ret (results_cell_row rfl _ _ w.heap.size 160 #[.int .i64 H, .int .u64 l] _ _ rfl (by exact Blk.new w 160 [.int .i64 H, .int .u64 l]) Tryz.underlying160 rfl ZBK) rfl ⟨rfl, ZBG⟩)) : p := h
theorem Zd {p : Prop} (h : p := by
 (go_enter Tryz.func107, Tryz.ntmps107; go_wp2; go_ret; exact ⟨rfl, ZBG⟩)) : p := h
theorem Zf {p : Prop} (h : p := by
 go_enter Tryz.func84, Tryz.ntmps84
 go_wp2
 go_ret
 exact ⟨rfl, ZBG⟩) : p := h
open Go.RowKit Go.Shelf
namespace Fi
open Mem Gr
theorem maskN (a : Nat) (ha : a < 18446744073709551616) : bits .and .u64 (a : Int) 4294967295 = ((a % 4294967296 : Nat) : Int) := by
 have h := bits_and_u64_nat a 4294967295 ha Z8
 have e : a &&& 4294967295 = a % 4294967296 := Nat.and_two_pow_sub_one_eq_mod a 32
 rw [e] at h
 exact h
theorem divN (a : Nat) : (a : Int) / 4294967296 = ((a / 4294967296 : Nat) : Int) := by omega
theorem mulN (a b : Nat) : (a : Int) * (b : Int) = ((a * b : Nat) : Int) := (Int.natCast_mul a b).symm
theorem addN (a b : Nat) : (a : Int) + (b : Int) = ((a + b : Nat) : Int) := (Int.natCast_add a b).symm
theorem wrapN (a : Nat) (ha : a < 18446744073709551616) : IntKind.u64.wrap (a : Int) = (a : Int) := by rw [IntKind.wrap_u64]; omega
theorem wrapM (a : Nat) : IntKind.u64.wrap (a : Int) = ((a % 18446744073709551616 : Nat) : Int) := by rw [IntKind.wrap_u64]; omega
theorem mul64_t (x y : Nat) (hx : x < 18446744073709551616) (hy : y < 18446744073709551616) (w : World) :
 Calls Tryz.prog 114 #[.int .u64 x, .int .u64 y] w fun e w' => e = .returned (.tuple #[.int .u64 ((x * y / 18446744073709551616 : Nat) : Int), .int .u64 ((x * y % 18446744073709551616 : Nat) : Int)]) ∧ w = w' := by
 obtain ⟨bd, bt, bw, hhi⟩ := Lib.mul64_hi x y hx hy
 have ba := Lib.half_mul_le (a := x / 4294967296) (b := y / 4294967296) Z8 Z8
 have bb := Lib.half_mul_le (a := x / 4294967296) (b := y % 4294967296) Z8 Z8
 have bc := Lib.half_mul_le (a := x % 4294967296) (b := y / 4294967296) Z8 Z8
 have ba' : x / 4294967296 * (y / 4294967296) < 18446744073709551616 := by omega
 have bb' : x / 4294967296 * (y % 4294967296) < 18446744073709551616 := by omega
 have bc' : x % 4294967296 * (y / 4294967296) < 18446744073709551616 := by omega
 have bh1 : x / 4294967296 * (y / 4294967296) + (x / 4294967296 * (y % 4294967296) + x % 4294967296 * (y % 4294967296) / 4294967296) / 4294967296 < 18446744073709551616 := by omega
 have bh : x / 4294967296 * (y / 4294967296) + (x / 4294967296 * (y % 4294967296) + x % 4294967296 * (y % 4294967296) / 4294967296) / 4294967296 + ((x / 4294967296 * (y % 4294967296) + x % 4294967296 * (y % 4294967296) / 4294967296) % 4294967296 + x % 4294967296 * (y / 4294967296)) / 4294967296 < 18446744073709551616 := by omega
 go_enter Tryz.func114, Tryz.ntmps114
 go_wp2
 simp only [maskN x hx, maskN y hy, divN, mulN, addN, wrapN _ bd, wrapN _ bb', wrapN _ bt, maskN _ bt, wrapN _ bc', wrapN _ bw, wrapN _ ba', wrapN _ bh1, wrapN _ bh, wrapM (x * y)]
 rw [hhi]
 go_ret2
 exact ⟨rfl, rfl⟩
def hi128 (z : Int) : Int := z / 18446744073709551616
def lo128 (z : Int) : Int := z % 18446744073709551616
theorem mul_t (a b : Int) (ha : -4294967296 ≤ a) (ha2 : a ≤ 4294967296) (hb : -4294967296 ≤ b) (hb2 : b ≤ 4294967296) (w : World) :
 Calls Tryz.prog 106 #[.int .i64 a, .int .i64 b] w fun e w' => e = .returned (.agg #[.int .i64 (hi128 (a * b)), .int .u64 (lo128 (a * b))]) ∧ Keeps (fun _ => False) w w' := by
 obtain ⟨m, hm⟩ := ZBE (a * b)
 have hmb : -18446744073709551616 ≤ m ∧ m ≤ 18446744073709551616 := by
  rw [hm]
  rcases Int.le_total 0 a with h1 | h1 <;> rcases Int.le_total 0 b with h2 | h2
  ·have := Int.mul_nonneg h1 h2
   have := Int.mul_le_mul ha2 hb2 h2 (show (0 : Int) ≤ 4294967296 by omega)
   omega
  ·have := Int.mul_nonpos_of_nonneg_of_nonpos h1 h2
   have := Int.mul_le_mul ha2 (show -b ≤ 4294967296 by omega) Z8 (show (0 : Int) ≤ 4294967296 by omega)
   rw [Int.mul_neg] at this
   omega
  ·have := Int.mul_nonpos_of_nonpos_of_nonneg h1 h2
   have := Int.mul_le_mul (show -a ≤ 4294967296 by omega) hb2 Z8 (show (0 : Int) ≤ 4294967296 by omega)
   rw [Int.neg_mul] at this
   omega
  ·have := Int.mul_nonneg_of_nonpos_of_nonpos h1 h2
   have := Int.mul_le_mul (show -a ≤ 4294967296 by omega) (show -b ≤ 4294967296 by omega) Z8 (show (0 : Int) ≤ 4294967296 by omega)
   rw [Int.neg_mul_neg] at this
   omega
 rw [← hm]
 obtain ⟨x, hx⟩ : ∃ x : Nat, (x : Int) = a % 18446744073709551616 := ⟨(a % 18446744073709551616).toNat, Z8⟩
 obtain ⟨y, hy⟩ : ∃ y : Nat, (y : Int) = b % 18446744073709551616 := ⟨(b % 18446744073709551616).toNat, Z8⟩
 have z := mul64_t x y Z8 Z8
 have hxy : ((x * y : Nat) : Int) = (x : Int) * (y : Int) := Int.natCast_mul x y
 obtain ⟨q, hq⟩ := ZBE (x * y)
 rw [← hq] at z hxy
 have hq2 : (q : Int) = m + (if b < 0 then 18446744073709551616 * a else 0) + (if a < 0 then 18446744073709551616 * b else 0) + (if a < 0 ∧ b < 0 then 340282366920938463463374607431768211456 else 0) := by
  rw [hxy, hm]
  by_cases h1 : a < 0 <;> by_cases h2 : b < 0
  ·rw [show (x : Int) = a + 18446744073709551616 by omega, show (y : Int) = b + 18446744073709551616 by omega, if_pos h1, if_pos h2, if_pos ⟨h1, h2⟩, Int.add_mul, Int.mul_add, Int.mul_add, Int.mul_comm a 18446744073709551616]; omega
  ·rw [show (x : Int) = a + 18446744073709551616 by omega, show (y : Int) = b by omega, if_pos h1, if_neg h2, if_neg (fun h => h2 h.2), Int.add_mul]; omega
  ·rw [show (x : Int) = a by omega, show (y : Int) = b + 18446744073709551616 by omega, if_neg h1, if_pos h2, if_neg (fun h => h1 h.1), Int.mul_add, Int.mul_comm a 18446744073709551616]; omega
  ·rw [show (x : Int) = a by omega, show (y : Int) = b by omega, if_neg h1, if_neg h2, if_neg (fun h => h1 h.1)]; omega
 obtain ⟨p, hp⟩ := ZBE (((q / 18446744073709551616 : Nat) : Int))
 obtain ⟨l, hl⟩ := ZBE (((q % 18446744073709551616 : Nat) : Int))
 rw [← hp, ← hl] at z
 have hpq : p = (q : Int) / 18446744073709551616 ∧ l = (q : Int) % 18446744073709551616 := by omega
 have ux : IntKind.u64.wrap a = (x : Int) := by rw [IntKind.wrap_u64]; omega
 have uy : IntKind.u64.wrap b = (y : Int) := by rw [IntKind.wrap_u64]; omega
 unfold hi128 lo128
 have HZ := Lib.hid z
 have HB := Lib.hid (And.intro hmb (And.intro hq2 (And.intro hpq (And.intro hx hy))))
 clear hm hmb hx hy z hxy hq hq2 hp hl hpq
 obtain ⟨hmb, hq2, hpq, hx, hy⟩ := HB.out
 obtain ⟨H, hH⟩ := ZBE (m / 18446744073709551616)
 have hlm : l = m % 18446744073709551616 := by
  by_cases h1 : a < 0 <;> by_cases h2 : b < 0 <;> simp only [h1, h2, if_true, if_false, and_self, and_true, and_false, true_and, false_and] at hq2 <;> omega
 rw [← hH, ← hlm]
 have HL := Lib.hid (And.intro hH hlm)
 by_cases h1 : a < 0
 ·by_cases h2 : b < 0
  ·simp only [h1, h2, if_true, and_self] at hq2
   obtain ⟨p1, hp1⟩ := ZBE ((p - (y : Int)) % 18446744073709551616)
   obtain ⟨p2, hp2⟩ := ZBE ((p1 - (x : Int)) % 18446744073709551616)
   have v1 : IntKind.u64.wrap (p - (y : Int)) = p1 := by rw [IntKind.wrap_u64]; omega
   have v2 : IntKind.u64.wrap (p1 - (x : Int)) = p2 := by rw [IntKind.wrap_u64]; omega
   have v3 : IntKind.i64.wrap p2 = H := by rw [IntKind.wrap_i64]; omega
   exact ZP
  ·simp only [h1, h2, if_true, if_false, and_false] at hq2
   obtain ⟨p1, hp1⟩ := ZBE ((p - (y : Int)) % 18446744073709551616)
   have v1 : IntKind.u64.wrap (p - (y : Int)) = p1 := by rw [IntKind.wrap_u64]; omega
   have v3 : IntKind.i64.wrap p1 = H := by rw [IntKind.wrap_i64]; omega
   exact ZP
 ·by_cases h2 : b < 0
  ·simp only [h1, h2, if_true, if_false, false_and] at hq2
   obtain ⟨p1, hp1⟩ := ZBE ((p - (x : Int)) % 18446744073709551616)
   have v1 : IntKind.u64.wrap (p - (x : Int)) = p1 := by rw [IntKind.wrap_u64]; omega
   have v3 : IntKind.i64.wrap p1 = H := by rw [IntKind.wrap_i64]; omega
   exact ZP
  ·simp only [h1, h2, if_false, false_and] at hq2
   have v3 : IntKind.i64.wrap p = H := by rw [IntKind.wrap_i64]; omega
   exact ZP
def sg (z : Int) : Int := if z < 0 then -1 else if z = 0 then 0 else 1
theorem cmp_t (A B : Int) (w : World) :
 Calls Tryz.prog 107 #[.agg #[.int .i64 (hi128 A), .int .u64 (lo128 A)], .agg #[.int .i64 (hi128 B), .int .u64 (lo128 B)]] w fun e w' => e = .returned (.int .i64 (sg (A - B))) ∧ Keeps (fun _ => False) w w' := by
 unfold hi128 lo128 sg
 obtain ⟨h1, e1⟩ := ZBE (A / 18446744073709551616)
 obtain ⟨l1, e2⟩ := ZBE (A % 18446744073709551616)
 obtain ⟨h2, e3⟩ := ZBE (B / 18446744073709551616)
 obtain ⟨l2, e4⟩ := ZBE (B % 18446744073709551616)
 rw [← e1, ← e2, ← e3, ← e4]
 by_cases c1 : h1 = h2
 ·by_cases c2 : l1 = l2
  ·rw [if_neg Z8, if_pos Z8]
   subst c1
   subst c2
   clear e1 e2 e3 e4
   exact Zd
  ·by_cases c3 : l1 < l2
   ·rw [if_pos Z8]
    subst c1
    clear e1 e2 e3 e4
    have d1 : (l1 == l2) = false := by simpa using c2
    exact Zd
   ·rw [if_neg Z8, if_neg Z8]
    subst c1
    clear e1 e2 e3 e4
    have d1 : (l1 == l2) = false := by simpa using c2
    have d2 : decide (l1 < l2) = false := decide_eq_false c3
    exact Zd
 ·have d0 : (h1 == h2) = false := by simpa using c1
  by_cases c3 : h1 < h2
  ·rw [if_pos Z8]
   clear e1 e2 e3 e4
   exact Zd
  ·rw [if_neg Z8, if_neg Z8]
   clear e1 e2 e3 e4
   have d2 : decide (h1 < h2) = false := decide_eq_false c3
   exact Zd
theorem cmpmul_t (a b c d : Int) (ha : -4294967296 ≤ a ∧ a ≤ 4294967296) (hb : -4294967296 ≤ b ∧ b ≤ 4294967296) (hc : -4294967296 ≤ c ∧ c ≤ 4294967296) (hd : -4294967296 ≤ d ∧ d ≤ 4294967296) (w : World) :
 Calls Tryz.prog 94 #[.int .i64 a, .int .i64 b, .int .i64 c, .int .i64 d] w fun e w' => e = .returned (.int .i64 (sg (a * b - c * d))) ∧ Keeps (fun _ => False) w w' := by
 have z1 := mul_t a b ha.1 ha.2 hb.1 hb.2
 have z2 := mul_t c d hc.1 hc.2 hd.1 hd.2
 have z3 := cmp_t (a * b) (c * d)
 obtain ⟨m1, e1⟩ := ZBE (hi128 (a * b))
 obtain ⟨m2, e2⟩ := ZBE (lo128 (a * b))
 obtain ⟨m3, e3⟩ := ZBE (hi128 (c * d))
 obtain ⟨m4, e4⟩ := ZBE (lo128 (c * d))
 obtain ⟨r, er⟩ := ZBE (sg (a * b - c * d))
 rw [← e1, ← e2] at z1
 rw [← e3, ← e4] at z2
 rw [← e1, ← e2, ← e3, ← e4, ← er] at z3
 rw [← er]
 have HZ := Lib.hid (And.intro z1 (And.intro z2 z3))
 clear z1 z2 z3 e1 e2 e3 e4 er ha hb hc hd
 go_enter Tryz.func94, Tryz.ntmps94
 go_wp2_with (first
  | (go_at_call 106; (with_reducible refine (HZ.out.1 _).mono ?_); rintro e w1 ⟨rfl, hk1⟩; have HK1 := Lib.hid hk1; clear hk1)
  | (go_at_call 106; (with_reducible refine (HZ.out.2.1 _).mono ?_); rintro e w2 ⟨rfl, hk2⟩; have HK2 := Lib.hid (HK1.out.trans hk2); clear hk2)
  | (go_at_call 107; (with_reducible refine (HZ.out.2.2 _).mono ?_); rintro e w3 ⟨rfl, hk3⟩; have HK3 := Lib.hid (HK2.out.trans hk3); clear hk3))
 go_ret
 exact ⟨rfl, HK3.out⟩
end Fi
open Go.RowKit Go.Shelf
namespace Fi
open Mem Gr Gs
theorem from_t (px py qx qy : Int) (hp : On px py) (hq : On qx qy) (w : World) :
 Calls Tryz.prog 93 #[.agg #[.int .i32 px, .int .i32 py], .agg #[.int .i32 qx, .int .i32 qy]] w fun e w' => e = .returned (.tuple #[.int .i64 (qx - px), .int .i64 (qy - py)]) ∧ Keeps (fun _ => False) w w' := by
 unfold On B0 at hp hq
 have u1 : IntKind.i64.wrap px = px := IntWalk.i64_in _ Z8
 have u2 : IntKind.i64.wrap py = py := IntWalk.i64_in _ Z8
 have u3 : IntKind.i64.wrap qx = qx := IntWalk.i64_in _ Z8
 have u4 : IntKind.i64.wrap qy = qy := IntWalk.i64_in _ Z8
 have u5 : IntKind.i64.wrap (qx - px) = qx - px := IntWalk.i64_in _ Z8
 have u6 : IntKind.i64.wrap (qy - py) = qy - py := IntWalk.i64_in _ Z8
 have bP := (Blk.new w 37 [.int .i32 px, .int .i32 py]).alloc (.cells #[.int .i32 qx, .int .i32 qy] 37)
 have bQ := Blk.new (w.alloc (.cells #[.int .i32 px, .int .i32 py] 37)) 37 [.int .i32 qx, .int .i32 qy]
 simp only [World.size_alloc] at bQ
 have HSN := Lib.hid (show (∀ i : Nat, ((w.alloc (.cells #[.int .i32 px, .int .i32 py] 37)).alloc (.cells #[.int .i32 qx, .int .i32 qy] 37)).drew.cell? ⟨w.heap.size, i, none⟩ = ([.int .i32 px, .int .i32 py] : List Value)[i]?) ∧ (∀ i : Nat, ((w.alloc (.cells #[.int .i32 px, .int .i32 py] 37)).alloc (.cells #[.int .i32 qx, .int .i32 qy] 37)).drew.cell? ⟨w.heap.size + 1, i, none⟩ = ([.int .i32 qx, .int .i32 qy] : List Value)[i]?) from ⟨bP.cell, bQ.cell⟩)
 clear hp hq bP bQ
 go_enter Tryz.func93, Tryz.ntmps93
 go_wp2
 go_region_held3 (fun W => (∀ i : Nat, W.cell? ⟨w.heap.size, i, none⟩ = ([.int .i32 px, .int .i32 py] : List Value)[i]?) ∧ (∀ i : Nat, W.cell? ⟨w.heap.size + 1, i, none⟩ = ([.int .i32 qx, .int .i32 qy] : List Value)[i]?)) (first | with_reducible assumption | exact HSN.out) (fail)
 all_goals
  go_wp2
  go_ret2
  exact ⟨rfl, ZBG⟩
theorem turn_t (px py qx qy cx cy : Int) (hp : On px py) (hq : On qx qy) (hc : On cx cy) (w : World) :
 Calls Tryz.prog 88 #[.agg #[.int .i32 px, .int .i32 py], .agg #[.int .i32 qx, .int .i32 qy], .agg #[.int .i32 cx, .int .i32 cy]] w fun e w' => e = .returned (.int .i64 (sg (turnN px py qx qy cx cy))) ∧ Keeps (fun _ => False) w w' := by
 have z1 := from_t px py qx qy hp hq
 have z2 := from_t px py cx cy hp hc
 unfold On B0 at hp hq hc
 have z3 := cmpmul_t (qx - px) (cy - py) (qy - py) (cx - px) Z8 Z8 Z8 Z8
 unfold turnN
 obtain ⟨r, er⟩ := ZBE (sg ((qx - px) * (cy - py) - (qy - py) * (cx - px)))
 rw [← er] at z3 ⊢
 obtain ⟨d1, e1⟩ := ZBE (qx - px)
 obtain ⟨d2, e2⟩ := ZBE (qy - py)
 obtain ⟨d3, e3⟩ := ZBE (cx - px)
 obtain ⟨d4, e4⟩ := ZBE (cy - py)
 rw [← e1, ← e2] at z1
 rw [← e3, ← e4] at z2
 rw [← e1, ← e2, ← e3, ← e4] at z3
 have HZ := Lib.hid (And.intro z1 (And.intro z2 z3))
 have b3 := fun (o1 o2 : Obj) => ((Blk.new w 37 [.int .i32 px, .int .i32 py]).alloc o1).alloc o2
 have HP3 := Lib.hid (((Blk.new w 37 [.int .i32 px, .int .i32 py]).alloc (.cells #[.int .i32 qx, .int .i32 qy] 37)).alloc (.cells #[.int .i32 cx, .int .i32 cy] 37))
 have bC := Blk.new ((w.alloc (.cells #[.int .i32 px, .int .i32 py] 37)).alloc (.cells #[.int .i32 qx, .int .i32 qy] 37)) 37 [.int .i32 cx, .int .i32 cy]
 simp only [World.size_alloc] at bC
 have HC3 := Lib.hid bC
 clear z1 z2 z3 er e1 e2 e3 e4 hp hq hc b3 bC
 go_enter Tryz.func88, Tryz.ntmps88
 go_wp2_with (first
  | (go_at_call 93; (with_reducible refine (HZ.out.1 _).mono ?_); rintro e w1 ⟨rfl, hk1⟩; have HK1 := Lib.hid hk1; have cP := (HP3.out.keeps hk1 (fun h => h)).cell; have cC := (HC3.out.keeps hk1 (fun h => h)).cell; clear hk1)
  | (go_at_call 93; (with_reducible refine (HZ.out.2.1 _).mono ?_); rintro e w2 ⟨rfl, hk2⟩; have HK2 := Lib.hid (HK1.out.trans hk2); clear hk2)
  | (go_at_call 94; (with_reducible refine (HZ.out.2.2 _).mono ?_); rintro e w3 ⟨rfl, hk3⟩; have HK3 := Lib.hid (HK2.out.trans hk3); clear hk3))
 go_ret
 exact ⟨rfl, Keeps.trans ZBG HK3.out⟩
end Fi
open Go.RowKit Go.Shelf
namespace Fi
open Mem Gr Gs
theorem covers1_t (px py : Int) (b : Bx) (PB : Nat) (w : World) (hP : Blk w PB 37 [.int .i32 px, .int .i32 py]) :
 Calls Tryz.prog 84 #[.agg #[.int .i32 b.x0, .int .i32 b.y0, .int .i32 b.x1, .int .i32 b.y1], .pointer (some ⟨PB, 0, none⟩)] w fun e w' => e = .returned (.bool (decide (coversP px py b))) ∧ Keeps (fun _ => False) w w' := by
 have cP := (hP.alloc (.cells #[.int .i32 b.x0, .int .i32 b.y0, .int .i32 b.x1, .int .i32 b.y1] 39)).cell
 clear hP
 unfold coversP
 by_cases h1 : b.x0 ≤ px
 ·by_cases h2 : px ≤ b.x1
  ·by_cases h3 : b.y0 ≤ py
   ·by_cases h4 : py ≤ b.y1
    ·simp only [h1, h2, h3, h4, and_true, decide_true]
     exact Zf
    ·simp only [h1, h2, h3, h4, and_true, and_false, decide_false]
     exact Zf
   ·simp only [h1, h2, h3, and_true, true_and, false_and, decide_false]
    exact Zf
  ·simp only [h1, h2, and_true, true_and, false_and, decide_false]
   exact Zf
 ·simp only [h1, false_and, decide_false]
  exact Zf
theorem meets1_t (b : Bx) (w : World) : Calls Tryz.prog 86 #[.agg #[.int .i32 b.x0, .int .i32 b.y0, .int .i32 b.x1, .int .i32 b.y1]] w fun e w' => e = .returned (.bool false) ∧ Keeps (fun _ => False) w w' := by
 go_enter Tryz.func86, Tryz.ntmps86
 go_wp2
 go_ret
 exact ⟨rfl, ZBG⟩
/-! the corners -/
def corners (b : Bx) : List (Int × Int) := [(b.x0, b.y0), (b.x1, b.y1), (b.x0, b.y1), (b.x1, b.y0)]
def lefts (px py qx qy : Int) (l : List (Int × Int)) : Nat := (l.filter fun c => decide (0 < turnN px py qx qy c.1 c.2)).length
def rights (px py qx qy : Int) (l : List (Int × Int)) : Nat := (l.filter fun c => decide (turnN px py qx qy c.1 c.2 < 0)).length
theorem lefts_4 (px py qx qy : Int) (b : Bx) : lefts px py qx qy (corners b) < 4 ↔ ¬ (0 < turnN px py qx qy b.x0 b.y0 ∧ 0 < turnN px py qx qy b.x1 b.y1 ∧ 0 < turnN px py qx qy b.x0 b.y1 ∧ 0 < turnN px py qx qy b.x1 b.y0) := by
 unfold lefts corners
 by_cases h1 : 0 < turnN px py qx qy b.x0 b.y0 <;> by_cases h2 : 0 < turnN px py qx qy b.x1 b.y1 <;> by_cases h3 : 0 < turnN px py qx qy b.x0 b.y1 <;> by_cases h4 : 0 < turnN px py qx qy b.x1 b.y0 <;> simp [List.filter_cons, h1, h2, h3, h4]
theorem rights_4 (px py qx qy : Int) (b : Bx) : rights px py qx qy (corners b) < 4 ↔ ¬ (turnN px py qx qy b.x0 b.y0 < 0 ∧ turnN px py qx qy b.x1 b.y1 < 0 ∧ turnN px py qx qy b.x0 b.y1 < 0 ∧ turnN px py qx qy b.x1 b.y0 < 0) := by
 unfold rights corners
 by_cases h1 : turnN px py qx qy b.x0 b.y0 < 0 <;> by_cases h2 : turnN px py qx qy b.x1 b.y1 < 0 <;> by_cases h3 : turnN px py qx qy b.x0 b.y1 < 0 <;> by_cases h4 : turnN px py qx qy b.x1 b.y0 < 0 <;> simp [List.filter_cons, h1, h2, h3, h4]
theorem lefts_at {px py qx qy : Int} {l : List (Int × Int)} {j : Nat} {c : Int × Int} (h : l[j]? = some c) : lefts px py qx qy (l.take (j + 1)) = lefts px py qx qy (l.take j) + (if 0 < turnN px py qx qy c.1 c.2 then 1 else 0) := by
 unfold lefts
 rw [List.take_add_one, h, List.filter_append, List.length_append]
 by_cases hc : 0 < turnN px py qx qy c.1 c.2 <;> simp [List.filter_cons, hc]
theorem rights_at {px py qx qy : Int} {l : List (Int × Int)} {j : Nat} {c : Int × Int} (h : l[j]? = some c) : rights px py qx qy (l.take (j + 1)) = rights px py qx qy (l.take j) + (if turnN px py qx qy c.1 c.2 < 0 then 1 else 0) := by
 unfold rights
 rw [List.take_add_one, h, List.filter_append, List.length_append]
 by_cases hc : turnN px py qx qy c.1 c.2 < 0 <;> simp [List.filter_cons, hc]
theorem cnt_le {px py qx qy : Int} {l : List (Int × Int)} (j : Nat) : lefts px py qx qy (l.take j) ≤ j ∧ rights px py qx qy (l.take j) ≤ j := by
 unfold lefts rights
 have h1 := List.length_filter_le (fun c : Int × Int => decide (0 < turnN px py qx qy c.1 c.2)) (l.take j)
 have h2 := List.length_filter_le (fun c : Int × Int => decide (turnN px py qx qy c.1 c.2 < 0)) (l.take j)
 have h3 : (l.take j).length ≤ j := List.length_take_le _ _
 omega
end Fi
end Go.Proofs.YtdbpfbokfmpgcaaGreat
