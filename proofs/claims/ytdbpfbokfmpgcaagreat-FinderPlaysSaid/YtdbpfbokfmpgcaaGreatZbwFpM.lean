/-
FpM: have two segments a point in common, as the document reckons it.
-/
import Derived.Test.YtdbpfbokfmpgcaaGreatZbuFpKFpLFpN
set_option linter.unusedVariables false
set_option linter.unusedSimpArgs false
set_option linter.ambiguousOpen false
set_option maxHeartbeats 16000000
set_option maxRecDepth 100000
attribute [local go_sem] Go.Oper.semAt_some
namespace Go.Proofs.YtdbpfbokfmpgcaaGreat
theorem ZAA {p : Prop} (h : p := by (repeat (first | with_reducible exact Keeps.refl _ _ | with_reducible refine Keeps.trans ?_ HK5.out | with_reducible refine Keeps.trans ?_ HK6.out | with_reducible refine Keeps.alloc ?_ _ | with_reducible refine Keeps.drew ?_))) : p := h
theorem ZAK {p : Prop} (h : p := by (first | (with_unfolding_none refine st4_kd ?_ ?_; all_goals (first | ((repeat (first | with_reducible exact Keeps.refl _ _ | with_reducible refine Keeps.trans ?_ HK5.out | with_reducible refine Keeps.trans ?_ HK6.out | with_reducible refine Keeps.alloc ?_ _ | with_reducible refine Keeps.drew ?_)); done) | (first | (simp; done) | (have q5 := HK5.out.size; first | (simp at q5 ⊢; omega) | (have q6 := HK6.out.size; simp at q5 q6 ⊢; omega))))) | (repeat (first | with_reducible exact Keeps.refl _ _ | with_reducible refine Keeps.trans ?_ HK5.out | with_reducible refine Keeps.trans ?_ HK6.out | with_reducible refine Keeps.alloc ?_ _ | with_reducible refine Keeps.drew ?_)))) : p := h
theorem ZAQ {p : Prop} (h : p := by (first | (simp; done) | (have q5 := HK5.out.size; first | (simp at q5 ⊢; omega) | (have q6 := HK6.out.size; simp at q5 q6 ⊢; omega)))) : p := h
theorem ZG {p : Prop} (h : p := by
 (as_aux_lemma => (go_wp2_with (first | (go_at_call 33; (with_reducible refine (HS1.out _ HKL.out).mono ?_); rintro e wa ⟨rfl, kn⟩; have HKL := Lib.hid (HKL.out.trans kn); clear cA cB cC kn; have cA := (HG.out _ HKL.out).1; have cB := (HG.out _ HKL.out).2.1; have cC := (HG.out _ HKL.out).2.2) | (go_at_call 36; (with_reducible refine (HC1.out _ HKL.out).mono ?_); rintro e wb ⟨rfl, kn⟩; have HKL := Lib.hid (HKL.out.trans kn); clear cA cB cC kn; have cA := (HG.out _ HKL.out).1; have cB := (HG.out _ HKL.out).2.1; have cC := (HG.out _ HKL.out).2.2) | (go_at_call 33; (with_reducible refine (HS2.out _ HKL.out).mono ?_); rintro e wd2 ⟨rfl, kn⟩; have HKL := Lib.hid (HKL.out.trans kn); clear cA cB cC kn; have cA := (HG.out _ HKL.out).1; have cB := (HG.out _ HKL.out).2.1; have cC := (HG.out _ HKL.out).2.2) | (go_at_call 36; (with_reducible refine (HC2.out _ HKL.out).mono ?_); rintro e we ⟨rfl, kn⟩; have HKL := Lib.hid (HKL.out.trans kn); clear cA cB cC kn; have cA := (HG.out _ HKL.out).1; have cB := (HG.out _ HKL.out).2.1; have cC := (HG.out _ HKL.out).2.2)); go_meet; exact ⟨_, rfl, HKL.out⟩))) : p := h
theorem ZH {p : Prop} (h : p := by
 (as_aux_lemma => (go_wp2_with (first | (go_at_call 33; (with_reducible refine (HS1.out _ HKL.out).mono ?_); rintro e wa ⟨rfl, kn⟩; have HKL := Lib.hid (HKL.out.trans kn); clear cA cB cC kn; have cA := (HG.out _ HKL.out).1; have cB := (HG.out _ HKL.out).2.1; have cC := (HG.out _ HKL.out).2.2) | (go_at_call 36; (with_reducible refine (HC1.out _ HKL.out).mono ?_); rintro e wb ⟨rfl, kn⟩; have HKL := Lib.hid (HKL.out.trans kn); clear cA cB cC kn; have cA := (HG.out _ HKL.out).1; have cB := (HG.out _ HKL.out).2.1; have cC := (HG.out _ HKL.out).2.2) | (go_at_call 33; (with_reducible refine (HS2.out _ HKL.out).mono ?_); rintro e wd2 ⟨rfl, kn⟩; have HKL := Lib.hid (HKL.out.trans kn); clear cA cB cC kn; have cA := (HG.out _ HKL.out).1; have cB := (HG.out _ HKL.out).2.1; have cC := (HG.out _ HKL.out).2.2) | (go_at_call 36; (with_reducible refine (HC2.out _ HKL.out).mono ?_); rintro e we ⟨rfl, kn⟩; have HKL := Lib.hid (HKL.out.trans kn); clear cA cB cC kn; have cA := (HG.out _ HKL.out).1; have cB := (HG.out _ HKL.out).2.1; have cC := (HG.out _ HKL.out).2.2)); go_meet; exact ⟨by first | (rw [decide_eq_true HCC.out]; done) | (rw [decide_eq_true HCC.out]; simp [f1, f2, f3, f4]) | (rw [decide_eq_true HCC.out, decide_eq_false f1, decide_eq_false f2, decide_eq_false f3, decide_eq_false f4]; rfl), HKL.out⟩))) : p := h
open Go.RowKit
namespace Bg
open Mem Gs Fi
def FB (W : World) (g : Nat) (x y : Int) (k : Nat) : Prop := ∃ p q : QV, Blk W g 103 [.bool p.m, .slice p.a p.n p.c, .bool q.m, .slice q.a q.n q.c] ∧ Wq W p x k ∧ Wq W q y k
theorem FB.kd {W W' : World} {g : Nat} {x y : Int} {k : Nat} (h : FB W g x y k) (hk : Keeps (fun _ => False) W W') : FB W' g x y k := by
 obtain ⟨p, q, h1, h2, h3⟩ := h
 exact ⟨p, q, h1.keeps hk (fun h => h), h2.kd hk, h3.kd hk⟩
theorem blkr_of1 {w W : World} (k : Keeps (fun _ => False) (w.alloc (.cells #[.bool false, .slice none 0 0, .bool false, .slice none 0 0] 103)).drew W) : Blk W w.heap.size 103 [.bool false, .slice none 0 0, .bool false, .slice none 0 0] := (Blk.new w 103 [.bool false, .slice none 0 0, .bool false, .slice none 0 0]).drew.keeps k (fun h => h)
theorem blkr_of {w W : World} (k : Keeps (fun _ => False) (w.alloc (.cells #[.bool false, .slice none 0 0, .bool false, .slice none 0 0] 103)) W) : Blk W w.heap.size 103 [.bool false, .slice none 0 0, .bool false, .slice none 0 0] := (Blk.new w 103 [.bool false, .slice none 0 0, .bool false, .slice none 0 0]).keeps k (fun h => h)
theorem st4_kd {w W : World} {g : Nat} (hk : Keeps (fun _ => False) w W) (hl : w.heap.size ≤ g) {p q : QV} : Keeps (fun _ => False) w ((((W.setCell ⟨g, 0, none⟩ (.bool p.m)).setCell ⟨g, 1, none⟩ (.slice p.a p.n p.c)).setCell ⟨g, 2, none⟩ (.bool q.m)).setCell ⟨g, 3, none⟩ (.slice q.a q.n q.c)) := keeps_st4 hk hl p q
theorem dif_small {x y u v : Int} (h : On x y) (g : On u v) : (-2147483646 ≤ u - x ∧ u - x ≤ 2147483646) ∧ -2147483646 ≤ v - y ∧ v - y ≤ 2147483646 := by
 obtain ⟨h1, h2, h3, h4⟩ := h
 obtain ⟨g1, g2, g3, g4⟩ := g
 unfold B0 at *
 omega
theorem prod_small {a b : Int} (ha : -2147483646 ≤ a ∧ a ≤ 2147483646) (hb : -2147483646 ≤ b ∧ b ≤ 2147483646) : -4611686009837453316 ≤ a * b ∧ a * b ≤ 4611686009837453316 := by
 have h : (a * b).natAbs ≤ 2147483646 * 2147483646 := by
  rw [Int.natAbs_mul]
  exact Nat.mul_le_mul Z8 Z8
 omega
theorem frac_b {tz den t1 t2 : Int} (h1 : t1 = (q2 tz den).1) (h2 : t2 = (q2 tz den).2) (h0 : den ≠ 0) (hn : den.natAbs < 9223372036854775808 ∧ tz.natAbs < 9223372036854775808) : t1.natAbs < 9223372036854775808 ∧ 0 < t2 ∧ t2 < 9223372036854775808 := by
 unfold q2 at h1 h2
 by_cases hd : den < 0
 ·simp only [if_pos hd] at h1 h2; omega
 ·simp only [if_neg hd] at h1 h2; omega
theorem meet_far (ax ay bx by_ cx cy dx dy : Int) (h1 : On ax ay) (h2 : On bx by_) (h3 : On cx cy) (h4 : On dx dy) (hne : ¬ (ax = bx ∧ ay = by_)) (hcd : ¬ (cx = dx ∧ cy = dy)) (ht : ¬ (turnN ax ay bx by_ cx cy = 0 ∧ turnN ax ay bx by_ dx dy = 0)) (w : World)
 (den tz sz : Int) (hden : den = (bx - ax) * (dy - cy) - (by_ - ay) * (dx - cx)) (htz : tz = (cx - ax) * (dy - cy) - (cy - ay) * (dx - cx)) (hsz : sz = (cx - ax) * (by_ - ay) - (cy - ay) * (bx - ax)) :
 Calls Tryz.prog 26 #[.agg #[.int .i32 ax, .int .i32 ay], .agg #[.int .i32 bx, .int .i32 by_], .agg #[.int .i32 cx, .int .i32 cy], .agg #[.int .i32 dx, .int .i32 dy]] w (MetP (den ≠ 0 ∧ (0 ≤ (q2 tz den).1 ∧ (q2 tz den).1 ≤ (q2 tz den).2) ∧ 0 ≤ (q2 sz den).1 ∧ (q2 sz den).1 ≤ (q2 sz den).2) w) := by
 have HI1 := Lib.hid (fun W => in_on h1 W); have HI2 := Lib.hid (fun W => in_on h2 W); have HI3 := Lib.hid (fun W => in_on h3 W); have HI4 := Lib.hid (fun W => in_on h4 W); have HQ := Lib.hid (fun W (hk : Keeps (fun _ => False) (((((w.alloc (.cells #[.int .i32 ax, .int .i32 ay] 37)).alloc (.cells #[.int .i32 bx, .int .i32 by_] 37)).alloc (.cells #[.int .i32 cx, .int .i32 cy] 37)).alloc (.cells #[.int .i32 dx, .int .i32 dy] 37)).alloc (.cells #[.int .u8 0, .bool false, .int .i64 0, .int .i64 0, .int .i64 0, .int .i64 0] 93)) W) => boxO_kd (w := w) (ax := ax) (ay := ay) (bx := bx) (by_ := by_) (cx := cx) (cy := cy) (dx := dx) (dy := dy) hk); have HW := Lib.hid ((((((Keeps.refl (fun _ => False) w).alloc (.cells #[.int .i32 ax, .int .i32 ay] 37)).alloc (.cells #[.int .i32 bx, .int .i32 by_] 37)).alloc (.cells #[.int .i32 cx, .int .i32 cy] 37)).alloc (.cells #[.int .i32 dx, .int .i32 dy] 37)).alloc (.cells #[.int .u8 0, .bool false, .int .i64 0, .int .i64 0, .int .i64 0, .int .i64 0] 93))
 have e1 := eq_pts ax ay bx by_ false ZAY
 have e2 := eq_pts cx cy dx dy false (by rw [← Bool.decide_and]; exact decide_eq_false hcd)
 have HT1 := Lib.hid (fun W => turn_t ax ay bx by_ cx cy h1 h2 h3 W)
 have HT2 := Lib.hid (fun W => turn_t ax ay bx by_ dx dy h1 h2 h4 W)
 obtain ⟨d1, d2, i1, i2⟩ := on_dif h1 h2
 obtain ⟨d3, d4, i3, i4⟩ := on_dif h3 h4
 obtain ⟨d5, d6, i5, i6⟩ := on_dif h1 h3
 obtain ⟨a1, a2⟩ := on_wrap h1
 obtain ⟨a3, a4⟩ := on_wrap h2
 obtain ⟨a5, a6⟩ := on_wrap h3
 obtain ⟨a7, a8⟩ := on_wrap h4
 have HX1 := Lib.hid (fun W => cross_t (bx - ax) (by_ - ay) (dx - cx) (dy - cy) i1 i2 i3 i4 W)
 have HX2 := Lib.hid (fun W => cross_t (cx - ax) (cy - ay) (dx - cx) (dy - cy) i5 i6 i3 i4 W)
 have HX3 := Lib.hid (fun W => cross_t (cx - ax) (cy - ay) (bx - ax) (by_ - ay) i5 i6 i1 i2 W)
 rw [← hden] at HX1
 rw [← htz] at HX2
 rw [← hsz] at HX3
 have m1 := dif_small h1 h2
 have m2 := dif_small h3 h4
 have m3 := dif_small h1 h3
 have HN := Lib.hid (show (den.natAbs < 9223372036854775808 ∧ tz.natAbs < 9223372036854775808) from by
  have p1 := prod_small m1.1 m2.2
  have p2 := prod_small m1.2 m2.1
  have p3 := prod_small m3.1 m2.2
  have p4 := prod_small m3.2 m2.1
  omega)
 have HTT := Lib.hid ht
 have HSG := Lib.hid (fun p q x k W (a : Wq W p x k) (h : k ≤ 100000) => Sign_t p q x 1 k W a h)
 have HQU := Lib.hid (fun p q r s x u y v W (a : Wq W p x 17) (b : Wq W q y 17) (c : Wq W r u 17) (d : Wq W s v 17) => quo_t p q r s x y u v 17 17 W a b c d ZAH)
 clear h1 h2 h3 h4 hne hcd ht hden htz hsz i1 i2 i3 i4 i5 i6 m1 m2 m3
 go_enter Tryz.func26, Tryz.ntmps26
 go_upto_region 7 with (go_at_call 25; (with_reducible first | refine (HI1.out _).mono ?_ | refine (HI2.out _).mono ?_ | refine (HI3.out _).mono ?_ | refine (HI4.out _).mono ?_); rintro e wi ⟨rfl, rfl⟩)
 go_cut [60] from 19 (fun s60 wd => s60 = .bool false ∧ Keeps (fun _ => False) (((((w.alloc (.cells #[.int .i32 ax, .int .i32 ay] 37)).alloc (.cells #[.int .i32 bx, .int .i32 by_] 37)).alloc (.cells #[.int .i32 cx, .int .i32 cy] 37)).alloc (.cells #[.int .i32 dx, .int .i32 dy] 37)).alloc (.cells #[.int .u8 0, .bool false, .int .i64 0, .int .i64 0, .int .i64 0, .int .i64 0] 93)) wd)
 case' first =>
  by_cases t1 : turnN ax ay bx by_ cx cy = 0
  ·have s1 : sg (turnN ax ay bx by_ cx cy) = 0 := sg_zero.2 t1
   have s2 : ¬ sg (turnN ax ay bx by_ dx dy) = 0 := fun h => HTT.out ⟨t1, sg_zero.1 h⟩
   clear t1
   have s3 : (sg (turnN ax ay bx by_ dx dy) == 0) = false := by simpa using s2
   go_wp2_with (first | (go_at_call 30; (with_reducible refine (HT1.out _).mono ?_); rintro e w1 ⟨rfl, k1⟩; have HK1 := Lib.hid (show Keeps (fun _ => False) (((((w.alloc (.cells #[.int .i32 ax, .int .i32 ay] 37)).alloc (.cells #[.int .i32 bx, .int .i32 by_] 37)).alloc (.cells #[.int .i32 cx, .int .i32 cy] 37)).alloc (.cells #[.int .i32 dx, .int .i32 dy] 37)).alloc (.cells #[.int .u8 0, .bool false, .int .i64 0, .int .i64 0, .int .i64 0, .int .i64 0] 93)) w1 from Keeps.trans Z5 k1); have cX := (HQ.out w1 HK1.out).1; have cY := (HQ.out w1 HK1.out).2.1; have cZ := (HQ.out w1 HK1.out).2.2.1; have cU := (HQ.out w1 HK1.out).2.2.2.1; have cM := (HQ.out w1 HK1.out).2.2.2.2.cell; have fM := (HQ.out w1 HK1.out).2.2.2.2.frozen; clear k1) | (go_at_call 30; (with_reducible refine (HT2.out _).mono ?_); rintro e w2 ⟨rfl, k2⟩; have HK2 := Lib.hid (show Keeps (fun _ => False) (((((w.alloc (.cells #[.int .i32 ax, .int .i32 ay] 37)).alloc (.cells #[.int .i32 bx, .int .i32 by_] 37)).alloc (.cells #[.int .i32 cx, .int .i32 cy] 37)).alloc (.cells #[.int .i32 dx, .int .i32 dy] 37)).alloc (.cells #[.int .u8 0, .bool false, .int .i64 0, .int .i64 0, .int .i64 0, .int .i64 0] 93)) w2 from HK1.out.trans k2); clear cX cY cZ cU cM fM; have cX := (HQ.out w2 HK2.out).1; have cY := (HQ.out w2 HK2.out).2.1; have cZ := (HQ.out w2 HK2.out).2.2.1; have cU := (HQ.out w2 HK2.out).2.2.2.1; have cM := (HQ.out w2 HK2.out).2.2.2.2.cell; have fM := (HQ.out w2 HK2.out).2.2.2.2.frozen; clear k2))
   go_meet
   exact ⟨by first | rfl | rw [s3], HK2.out⟩
  ·have s1 : ¬ sg (turnN ax ay bx by_ cx cy) = 0 := fun h => t1 (sg_zero.1 h)
   clear t1
   go_wp2_with (first | (go_at_call 30; (with_reducible refine (HT1.out _).mono ?_); rintro e w1 ⟨rfl, k1⟩; have HK1 := Lib.hid (show Keeps (fun _ => False) (((((w.alloc (.cells #[.int .i32 ax, .int .i32 ay] 37)).alloc (.cells #[.int .i32 bx, .int .i32 by_] 37)).alloc (.cells #[.int .i32 cx, .int .i32 cy] 37)).alloc (.cells #[.int .i32 dx, .int .i32 dy] 37)).alloc (.cells #[.int .u8 0, .bool false, .int .i64 0, .int .i64 0, .int .i64 0, .int .i64 0] 93)) w1 from Keeps.trans Z5 k1); have cX := (HQ.out w1 HK1.out).1; have cY := (HQ.out w1 HK1.out).2.1; have cZ := (HQ.out w1 HK1.out).2.2.1; have cU := (HQ.out w1 HK1.out).2.2.2.1; have cM := (HQ.out w1 HK1.out).2.2.2.2.cell; have fM := (HQ.out w1 HK1.out).2.2.2.2.frozen; clear k1) | (go_at_call 30; (with_reducible refine (HT2.out _).mono ?_); rintro e w2 ⟨rfl, k2⟩; have HK2 := Lib.hid (show Keeps (fun _ => False) (((((w.alloc (.cells #[.int .i32 ax, .int .i32 ay] 37)).alloc (.cells #[.int .i32 bx, .int .i32 by_] 37)).alloc (.cells #[.int .i32 cx, .int .i32 cy] 37)).alloc (.cells #[.int .i32 dx, .int .i32 dy] 37)).alloc (.cells #[.int .u8 0, .bool false, .int .i64 0, .int .i64 0, .int .i64 0, .int .i64 0] 93)) w2 from HK1.out.trans k2); clear cX cY cZ cU cM fM; have cX := (HQ.out w2 HK2.out).1; have cY := (HQ.out w2 HK2.out).2.1; have cZ := (HQ.out w2 HK2.out).2.2.1; have cU := (HQ.out w2 HK2.out).2.2.2.1; have cM := (HQ.out w2 HK2.out).2.2.2.2.cell; have fM := (HQ.out w2 HK2.out).2.2.2.2.frozen; clear k2))
   go_meet
   exact ⟨rfl, HK1.out⟩
 case' rest =>
  obtain ⟨rfl, hk⟩ := hcut
  have HK1 := Lib.hid hk
  have cX := (HQ.out wc hk).1; have cY := (HQ.out wc hk).2.1; have cZ := (HQ.out wc hk).2.2.1; have cU := (HQ.out wc hk).2.2.2.1; have cM := (HQ.out wc hk).2.2.2.2.cell; have fM := (HQ.out wc hk).2.2.2.2.frozen
  clear hk
  go_upto_if 105 with (first
   | (go_at_call 32; (with_reducible refine (HX1.out _).mono ?_); rintro e w3 ⟨r3, s3, rfl, k3, z3, y3⟩; have HK3 := Lib.hid k3; have HZ3 := Lib.hid z3; have HY3 := Lib.hid y3; clear k3 z3 y3)
   | (go_at_call 33; (with_reducible refine (HSG.out r3 s3 den 17 _ (HZ3.out.kd Z5) ZAH).mono ?_); rintro e w4 ⟨rfl, k4⟩; have HK4 := Lib.hid (show Keeps (fun _ => False) (((((w.alloc (.cells #[.int .i32 ax, .int .i32 ay] 37)).alloc (.cells #[.int .i32 bx, .int .i32 by_] 37)).alloc (.cells #[.int .i32 cx, .int .i32 cy] 37)).alloc (.cells #[.int .i32 dx, .int .i32 dy] 37)).alloc (.cells #[.int .u8 0, .bool false, .int .i64 0, .int .i64 0, .int .i64 0, .int .i64 0] 93)) w4 from HK1.out.trans (Keeps.trans Z5 k4)); have HB13 := Lib.hid ((Blk.new w3 103 [.bool r3.m, .slice r3.a r3.n r3.c, .bool s3.m, .slice s3.a s3.n s3.c]).keeps k4 (fun h => h)); have HZ13 := Lib.hid (show Wq w4 r3 den 17 ∧ Wq w4 s3 1 17 from ⟨(HZ3.out.kd Z5).kd k4, (HY3.out.kd Z5).kd k4⟩); clear k4 cX cY cZ cU cM fM))
  by_cases hd0 : den = 0
  ·have s0 : sg den = 0 := sg_zero.2 hd0
   have HD0 := Lib.hid hd0
   have HBM := Lib.hid (HQ.out w4 HK4.out).2.2.2.2
   have cM := HBM.out.cell
   have fM := HBM.out.frozen
   clear hd0
   go_wp2
   exact bodyPost_ret (results_m rfl _ _ (w.heap.size + 1 + 1 + 1 + 1) [.int .u8 0, .bool false, .int .i64 0, .int .i64 0, .int .i64 0, .int .i64 0] _ _ _ _ _ _ rfl rfl HBM.out) rfl ⟨_, _, _, _, _, _, rfl, by simp only [ne_eq, not_true_eq_false, false_iff]; exact fun h => h.1 HD0.out, keeps_6 (HW.out.trans HK4.out) Z8 _ _ _ _ _ _⟩
  ·have s0 : ¬ sg den = 0 := fun h => hd0 (sg_zero.1 h)
   have HD0 := Lib.hid hd0
   clear hd0
   go_upto_region 18 with fail
   clear s0
   have HS4 := Lib.hid (fun W (hk : Keeps (fun _ => False) w4 W) => And.intro (HQ.out W (HK4.out.trans hk)).1 (And.intro (HQ.out W (HK4.out.trans hk)).2.1 (And.intro (HQ.out W (HK4.out.trans hk)).2.2.1 (HB13.out.keeps hk (fun h => h)).cell)))
   have HQ2 := HQU.out
   have HQT := Lib.hid (fun p q W (a : Wq W p tz 17) (b : Wq W q 1 17) (c : Wq W r3 den 17) (d : Wq W s3 1 17) => HQ2 p q r3 s3 tz den 1 1 W a b c d)
   have HQS := Lib.hid (fun p q W (a : Wq W p sz 17) (b : Wq W q 1 17) (c : Wq W r3 den 17) (d : Wq W s3 1 17) => HQ2 p q r3 s3 sz den 1 1 W a b c d)
   clear HQ2 HK3 HZ3 HY3 HK1
   simp only [Int.mul_one, Int.one_mul] at HQT HQS
   go_cut [14] from 19 (fun s14 wd => ∃ g14 : Nat, s14 = .pointer (some ⟨g14, 0, none⟩) ∧ Keeps (fun _ => False) w4 wd ∧ FB wd g14 (q2 tz den).1 (q2 tz den).2 34)
   case' first =>
    as_aux_lemma =>
     go_region_held3 (fun W => (∀ i : Nat, W.cell? ⟨w.heap.size, i, none⟩ = ([.int .i32 ax, .int .i32 ay] : List Value)[i]?) ∧ (∀ i : Nat, W.cell? ⟨w.heap.size + 1, i, none⟩ = ([.int .i32 bx, .int .i32 by_] : List Value)[i]?) ∧ (∀ i : Nat, W.cell? ⟨w.heap.size + 1 + 1, i, none⟩ = ([.int .i32 cx, .int .i32 cy] : List Value)[i]?) ∧ (∀ i : Nat, W.cell? ⟨w3.heap.size, i, none⟩ = ([.bool r3.m, .slice r3.a r3.n r3.c, .bool s3.m, .slice s3.a s3.n s3.c] : List Value)[i]?)) (first | with_reducible assumption | exact HS4.out _ ZAK) (first
      | (go_at_call 32; (with_reducible refine (HX2.out _).mono ?_); rintro e w5 ⟨r5, s5, rfl, k5, z5, y5⟩; have HK5 := Lib.hid k5; have HZ5 := Lib.hid z5; have HY5 := Lib.hid y5; clear k5 z5 y5; first | (with_reducible (have hb := blkr_of1 HK5.out); have HBN := Lib.hid hb; have cn := hb.cell; have fn := hb.frozen; clear hb) | (with_reducible (have hb := blkr_of HK5.out); have HBN := Lib.hid hb; have cn := hb.cell; have fn := hb.frozen; clear hb) | skip)
      | (go_at_call 34; (with_reducible refine (HQT.out r5 s5 _ (HZ5.out.kd ZAA) (HY5.out.kd ZAA) (HZ13.out.1.kd ZAA) (HZ13.out.2.kd ZAA)).mono ?_); rintro e w6 ⟨r6, s6, rfl, k6, z6, y6⟩; have HK6 := Lib.hid k6; have HZ6 := Lib.hid z6; have HY6 := Lib.hid y6; clear k6 z6 y6; first | (with_reducible (have hb := blkr_of HK6.out); have HBN := Lib.hid hb; have cn := hb.cell; have fn := hb.frozen; clear hb) | (have hb := HBN.out.kd HK6.out; have cn := hb.cell; have fn := hb.frozen; clear hb) | skip))
     all_goals
      go_wp2
      go_meet
     ·exact ⟨_, rfl, Keeps.alloc ZAA _, r6, s6, Blk.new w6 103 [_, _, _, _], HZ6.out.kd ZAA, HY6.out.kd ZAA⟩
     ·exact ⟨_, rfl, keeps_st4 ZAA ZAQ _ _, r6, s6, blk4 HBN.out rfl r6 s6, wz_st4 HBN.out _ _ _ HZ6.out, wz_st4 HBN.out _ _ _ HY6.out⟩
     ·exact ⟨_, rfl, keeps_st4 ZAA ZAQ _ _, r6, s6, blk4 (HBN.out.kd HK6.out) rfl r6 s6, wz_st4 (HBN.out.kd HK6.out) _ _ _ HZ6.out, wz_st4 (HBN.out.kd HK6.out) _ _ _ HY6.out⟩
   case' rest =>
    obtain ⟨g14, rfl, hk, hF⟩ := hcut
    have HK7 := Lib.hid (HK4.out.trans hk)
    have HF14 := Lib.hid hF
    have HS5 := Lib.hid (fun W (hk' : Keeps (fun _ => False) wc W) => HS4.out W (hk.trans hk'))
    have HZ14 := Lib.hid (And.intro (HZ13.out.1.kd hk) (HZ13.out.2.kd hk))
    clear hk hF HS4 HZ13 HB13 HQT HX2
    go_upto_region 19 with fail
    go_cut [15] from 19 (fun s15 wd => ∃ g15 : Nat, s15 = .pointer (some ⟨g15, 0, none⟩) ∧ Keeps (fun _ => False) wc wd ∧ FB wd g15 (q2 sz den).1 (q2 sz den).2 34)
    case' first =>
     as_aux_lemma =>
      go_region_held3 (fun W => (∀ i : Nat, W.cell? ⟨w.heap.size, i, none⟩ = ([.int .i32 ax, .int .i32 ay] : List Value)[i]?) ∧ (∀ i : Nat, W.cell? ⟨w.heap.size + 1, i, none⟩ = ([.int .i32 bx, .int .i32 by_] : List Value)[i]?) ∧ (∀ i : Nat, W.cell? ⟨w.heap.size + 1 + 1, i, none⟩ = ([.int .i32 cx, .int .i32 cy] : List Value)[i]?) ∧ (∀ i : Nat, W.cell? ⟨w3.heap.size, i, none⟩ = ([.bool r3.m, .slice r3.a r3.n r3.c, .bool s3.m, .slice s3.a s3.n s3.c] : List Value)[i]?)) (first | with_reducible assumption | exact HS5.out _ ZAK) (first
       | (go_at_call 32; (with_reducible refine (HX3.out _).mono ?_); rintro e w5 ⟨r5, s5, rfl, k5, z5, y5⟩; have HK5 := Lib.hid k5; have HZ5 := Lib.hid z5; have HY5 := Lib.hid y5; clear k5 z5 y5; first | (with_reducible (have hb := blkr_of1 HK5.out); have HBN := Lib.hid hb; have cn := hb.cell; have fn := hb.frozen; clear hb) | (with_reducible (have hb := blkr_of HK5.out); have HBN := Lib.hid hb; have cn := hb.cell; have fn := hb.frozen; clear hb) | skip)
       | (go_at_call 34; (with_reducible refine (HQS.out r5 s5 _ (HZ5.out.kd ZAA) (HY5.out.kd ZAA) (HZ14.out.1.kd ZAA) (HZ14.out.2.kd ZAA)).mono ?_); rintro e w6 ⟨r6, s6, rfl, k6, z6, y6⟩; have HK6 := Lib.hid k6; have HZ6 := Lib.hid z6; have HY6 := Lib.hid y6; clear k6 z6 y6; first | (with_reducible (have hb := blkr_of HK6.out); have HBN := Lib.hid hb; have cn := hb.cell; have fn := hb.frozen; clear hb) | (have hb := HBN.out.kd HK6.out; have cn := hb.cell; have fn := hb.frozen; clear hb) | skip))
      all_goals
       go_wp2
       go_meet
      ·exact ⟨_, rfl, Keeps.alloc ZAA _, r6, s6, Blk.new w6 103 [_, _, _, _], HZ6.out.kd ZAA, HY6.out.kd ZAA⟩
      ·exact ⟨_, rfl, keeps_st4 ZAA ZAQ _ _, r6, s6, blk4 HBN.out rfl r6 s6, wz_st4 HBN.out _ _ _ HZ6.out, wz_st4 HBN.out _ _ _ HY6.out⟩
      ·exact ⟨_, rfl, keeps_st4 ZAA ZAQ _ _, r6, s6, blk4 (HBN.out.kd HK6.out) rfl r6 s6, wz_st4 (HBN.out.kd HK6.out) _ _ _ HZ6.out, wz_st4 (HBN.out.kd HK6.out) _ _ _ HY6.out⟩
    case' rest =>
     obtain ⟨g15, rfl, hk, hF⟩ := hcut
     have HK9 := Lib.hid (HK7.out.trans hk)
     have HF15 := Lib.hid hF
     have HF14 := Lib.hid (HF14.out.kd hk)
     clear hk hF HS5 HZ14 HQS HX3
     obtain ⟨t1, ht1⟩ := ZE ((q2 tz den).1)
     obtain ⟨t2, ht2⟩ := ZE ((q2 tz den).2)
     obtain ⟨u1, hu1⟩ := ZE ((q2 sz den).1)
     obtain ⟨u2, hu2⟩ := ZE ((q2 sz den).2)
     rw [← ht1, ← ht2] at HF14
     rw [← hu1, ← hu2] at HF15
     as_aux_lemma =>
      obtain ⟨p4, q4, b4, zp4, zq4⟩ := HF14.out
      obtain ⟨p5, q5, b5, zp5, zq5⟩ := HF15.out
      have H1 := Lib.hid (fun W => whole_t 1 ZAH W)
      have HB := Lib.hid (fun W (hk : Keeps (fun _ => False) wc W) => And.intro (b4.keeps hk (fun h => h)).cell (b5.keeps hk (fun h => h)).cell)
      have HZ4 := Lib.hid (And.intro zp4 zq4)
      have HZ5 := Lib.hid (And.intro zp5 zq5)
      have HU := Lib.hid (And.intro ht1 (And.intro ht2 (And.intro hu1 hu2)))
      clear b4 b5 zp4 zq4 zp5 zq5 ht1 ht2 hu1 hu2
      go_upto_region 21 with (go_at_call 35; (with_reducible refine (H1.out _).mono ?_); rintro e w8 ⟨r8, s8, rfl, k8, z8, y8⟩; have HK8 := Lib.hid k8; have HZ8 := Lib.hid z8; have HY8 := Lib.hid y8; clear k8 z8 y8)
      have HJ8 := Lib.hid (show Keeps (fun _ => False) wc (w8.alloc (.cells #[.bool r8.m, .slice r8.a r8.n r8.c, .bool s8.m, .slice s8.a s8.n s8.c] 103)) from HK8.out.alloc _)
      have HG := Lib.hid (fun W (hk : Keeps (fun _ => False) (w8.alloc (.cells #[.bool r8.m, .slice r8.a r8.n r8.c, .bool s8.m, .slice s8.a s8.n s8.c] 103)) W) => And.intro (HB.out W (HJ8.out.trans hk)).1 (And.intro (HB.out W (HJ8.out.trans hk)).2 ((Blk.new w8 103 [.bool r8.m, .slice r8.a r8.n r8.c, .bool s8.m, .slice s8.a s8.n s8.c]).keeps hk (fun h => h)).cell))
      have HCM := fun (p q : QV) (x y : Int) W (a : Wq W p x 34) (b : Wq W q y 34) (c : Wq W r8 1 34) (d : Wq W s8 1 34) => cmp_t p q r8 s8 x y 1 1 34 34 W a b c d ZAH
      simp only [Int.mul_one, Int.one_mul] at HCM
      have HS1 := Lib.hid (fun W (hk : Keeps (fun _ => False) (w8.alloc (.cells #[.bool r8.m, .slice r8.a r8.n r8.c, .bool s8.m, .slice s8.a s8.n s8.c] 103)) W) => HSG.out p4 q4 t1 34 W (HZ4.out.1.kd (HJ8.out.trans hk)) ZAH)
      have HS2 := Lib.hid (fun W (hk : Keeps (fun _ => False) (w8.alloc (.cells #[.bool r8.m, .slice r8.a r8.n r8.c, .bool s8.m, .slice s8.a s8.n s8.c] 103)) W) => HSG.out p5 q5 u1 34 W (HZ5.out.1.kd (HJ8.out.trans hk)) ZAH)
      have HC1 := Lib.hid (fun W (hk : Keeps (fun _ => False) (w8.alloc (.cells #[.bool r8.m, .slice r8.a r8.n r8.c, .bool s8.m, .slice s8.a s8.n s8.c] 103)) W) => HCM p4 q4 t1 t2 W (HZ4.out.1.kd (HJ8.out.trans hk)) (HZ4.out.2.kd (HJ8.out.trans hk)) ((HZ8.out.more ZAH).kd (((Keeps.refl _ w8).alloc _).trans hk)) ((HY8.out.more ZAH).kd (((Keeps.refl _ w8).alloc _).trans hk)))
      have HC2 := Lib.hid (fun W (hk : Keeps (fun _ => False) (w8.alloc (.cells #[.bool r8.m, .slice r8.a r8.n r8.c, .bool s8.m, .slice s8.a s8.n s8.c] 103)) W) => HCM p5 q5 u1 u2 W (HZ5.out.1.kd (HJ8.out.trans hk)) (HZ5.out.2.kd (HJ8.out.trans hk)) ((HZ8.out.more ZAH).kd (((Keeps.refl _ w8).alloc _).trans hk)) ((HY8.out.more ZAH).kd (((Keeps.refl _ w8).alloc _).trans hk)))
      have HKL := Lib.hid (Keeps.refl (fun _ => False) (w8.alloc (.cells #[.bool r8.m, .slice r8.a r8.n r8.c, .bool s8.m, .slice s8.a s8.n s8.c] 103)))
      have HK10 := Lib.hid (HK9.out.trans HJ8.out)
      have cA := (HG.out _ HKL.out).1
      have cB := (HG.out _ HKL.out).2.1
      have cC := (HG.out _ HKL.out).2.2
      clear HCM HB HK8 HF14 HF15
      go_cut [165] from 19 (fun s165 wd => s165 = .bool (decide (¬ ((0 ≤ t1 ∧ t1 ≤ t2) ∧ 0 ≤ u1 ∧ u1 ≤ u2))) ∧ Keeps (fun _ => False) (w8.alloc (.cells #[.bool r8.m, .slice r8.a r8.n r8.c, .bool s8.m, .slice s8.a s8.n s8.c] 103)) wd)
      case' first =>
       by_cases c1 : t1 < 0
       ·have HCC := Lib.hid (show ¬ ((0 ≤ t1 ∧ t1 ≤ t2) ∧ 0 ≤ u1 ∧ u1 ≤ u2) by omega)
        have f1 : sg t1 < 0 := sg_neg.2 c1
        clear c1
        exact ZH
       ·have f1 : ¬ sg t1 < 0 := fun h => c1 (sg_neg.1 h)
        by_cases c2 : t2 < t1
        ·have HCC := Lib.hid (show ¬ ((0 ≤ t1 ∧ t1 ≤ t2) ∧ 0 ≤ u1 ∧ u1 ≤ u2) by omega)
         have f2 : 0 < sg (t1 - t2) := sg_pos.2 Z8
         clear c1 c2
         exact ZH
        ·have f2 : ¬ 0 < sg (t1 - t2) := fun h => by have := sg_pos.1 h; omega
         by_cases c3 : u1 < 0
         ·have HCC := Lib.hid (show ¬ ((0 ≤ t1 ∧ t1 ≤ t2) ∧ 0 ≤ u1 ∧ u1 ≤ u2) by omega)
          have f3 : sg u1 < 0 := sg_neg.2 c3
          clear c1 c2 c3
          exact ZH
         ·have f3 : ¬ sg u1 < 0 := fun h => c3 (sg_neg.1 h)
          by_cases c4 : u2 < u1
          ·have HCC := Lib.hid (show ¬ ((0 ≤ t1 ∧ t1 ≤ t2) ∧ 0 ≤ u1 ∧ u1 ≤ u2) by omega)
           have f4 : 0 < sg (u1 - u2) := sg_pos.2 Z8
           clear c1 c2 c3 c4
           exact ZH
          ·have HCC := Lib.hid (show ¬ ¬ ((0 ≤ t1 ∧ t1 ≤ t2) ∧ 0 ≤ u1 ∧ u1 ≤ u2) by omega)
           have f4 : ¬ 0 < sg (u1 - u2) := fun h => by have := sg_pos.1 h; omega
           clear c1 c2 c3 c4
           (as_aux_lemma => (go_wp2_with (first | (go_at_call 33; (with_reducible refine (HS1.out _ HKL.out).mono ?_); rintro e wa ⟨rfl, kn⟩; have HKL := Lib.hid (HKL.out.trans kn); clear cA cB cC kn; have cA := (HG.out _ HKL.out).1; have cB := (HG.out _ HKL.out).2.1; have cC := (HG.out _ HKL.out).2.2) | (go_at_call 36; (with_reducible refine (HC1.out _ HKL.out).mono ?_); rintro e wb ⟨rfl, kn⟩; have HKL := Lib.hid (HKL.out.trans kn); clear cA cB cC kn; have cA := (HG.out _ HKL.out).1; have cB := (HG.out _ HKL.out).2.1; have cC := (HG.out _ HKL.out).2.2) | (go_at_call 33; (with_reducible refine (HS2.out _ HKL.out).mono ?_); rintro e wd2 ⟨rfl, kn⟩; have HKL := Lib.hid (HKL.out.trans kn); clear cA cB cC kn; have cA := (HG.out _ HKL.out).1; have cB := (HG.out _ HKL.out).2.1; have cC := (HG.out _ HKL.out).2.2) | (go_at_call 36; (with_reducible refine (HC2.out _ HKL.out).mono ?_); rintro e we ⟨rfl, kn⟩; have HKL := Lib.hid (HKL.out.trans kn); clear cA cB cC kn; have cA := (HG.out _ HKL.out).1; have cB := (HG.out _ HKL.out).2.1; have cC := (HG.out _ HKL.out).2.2)); go_meet; exact ⟨by first | (rw [decide_eq_false HCC.out]; done) | (rw [decide_eq_false HCC.out]; simp [f1, f2, f3, f4]) | (rw [decide_eq_false HCC.out, decide_eq_false f1, decide_eq_false f2, decide_eq_false f3, decide_eq_false f4]; rfl), HKL.out⟩))
      case' rest =>
       obtain ⟨rfl, hk⟩ := hcut
       have HKL := Lib.hid hk
       clear cA cB cC hk
       by_cases hc : ((0 ≤ t1 ∧ t1 ≤ t2) ∧ 0 ≤ u1 ∧ u1 ≤ u2)
       ·have hd : decide (¬ ((0 ≤ t1 ∧ t1 ≤ t2) ∧ 0 ≤ u1 ∧ u1 ≤ u2)) = false := decide_eq_false (fun h => h hc)
        have HCC := Lib.hid hc
        clear hc
        rw [hd]
        clear hd
        go_upto_region 23 with fail
        have cA := (HG.out _ HKL.out).1
        have cB := (HG.out _ HKL.out).2.1
        have cC := (HG.out _ HKL.out).2.2
        go_cut [17] from 19 (fun s17 wd => ∃ b : Bool, s17 = .bool b ∧ Keeps (fun _ => False) (w8.alloc (.cells #[.bool r8.m, .slice r8.a r8.n r8.c, .bool s8.m, .slice s8.a s8.n s8.c] 103)) wd)
        case' first =>
         by_cases c1 : 0 < t1
         ·have f1 : 0 < sg t1 := sg_pos.2 Z8
          clear c1
          by_cases c2 : t1 < t2
          ·have f2 : sg (t1 - t2) < 0 := sg_neg.2 Z8
           clear c2
           by_cases c3 : 0 < u1
           ·have f3 : 0 < sg u1 := sg_pos.2 Z8
            clear c3
            by_cases c4 : u1 < u2
            ·have f4 : sg (u1 - u2) < 0 := sg_neg.2 Z8
             clear c4
             exact ZG
            ·have f4 : ¬ sg (u1 - u2) < 0 := fun h => c4 (by have := sg_neg.1 h; omega)
             clear c4
             exact ZG
           ·have f3 : ¬ 0 < sg u1 := fun h => c3 (by have := sg_pos.1 h; omega)
            clear c3
            exact ZG
          ·have f2 : ¬ sg (t1 - t2) < 0 := fun h => c2 (by have := sg_neg.1 h; omega)
           clear c2
           exact ZG
         ·have f1 : ¬ 0 < sg t1 := fun h => c1 (by have := sg_pos.1 h; omega)
          clear c1
          exact ZG
        case' rest =>
         obtain ⟨b, rfl, hk⟩ := hcut
         have HKL := Lib.hid hk
         clear cA cB cC hk HS1 HS2 HC1 HC2
         have HFR := Lib.hid (fun W (hk : Keeps (fun _ => False) (w8.alloc (.cells #[.bool r8.m, .slice r8.a r8.n r8.c, .bool s8.m, .slice s8.a s8.n s8.c] 103)) W) => frac_t p4 q4 t1 t2 34 W (HZ4.out.1.kd (HJ8.out.trans hk)) (HZ4.out.2.kd (HJ8.out.trans hk)) ZAH (frac_b HU.out.1 HU.out.2.1 HD0.out HN.out).1 (frac_b HU.out.1 HU.out.2.1 HD0.out HN.out).2)
         have cA := (HG.out _ HKL.out).1
         go_wp2_with (go_at_call 37; (with_reducible refine (HFR.out _ HKL.out).mono ?_); rintro e wf ⟨x1, x2, rfl, kf⟩; have HKF := Lib.hid (HK10.out.trans (HKL.out.trans kf)); have HBM := Lib.hid (HQ.out wf HKF.out).2.2.2.2; clear cA kf; have cM := (HBM.out.alloc (.cells #[.int .i64 x1, .int .i64 x2] 91)).cell; have fM := (HBM.out.alloc (.cells #[.int .i64 x1, .int .i64 x2] 91)).frozen)
         exact bodyPost_ret (results_m rfl _ _ (w.heap.size + 1 + 1 + 1 + 1) [.int .u8 0, .bool false, .int .i64 0, .int .i64 0, .int .i64 0, .int .i64 0] _ _ _ _ _ _ rfl rfl (HBM.out.alloc _)) rfl ⟨_, _, _, _, _, _, rfl, by simp only [ne_eq, Int.one_ne_zero, not_false_eq_true, true_iff]; exact ⟨HD0.out, by rw [← HU.out.1, ← HU.out.2.1, ← HU.out.2.2.1, ← HU.out.2.2.2]; exact HCC.out⟩, keeps_6 ((HW.out.trans HKF.out).alloc _) Z8 _ _ _ _ _ _⟩
       ·have hd : decide (¬ ((0 ≤ t1 ∧ t1 ≤ t2) ∧ 0 ≤ u1 ∧ u1 ≤ u2)) = true := decide_eq_true hc
        have HCC := Lib.hid hc
        clear hc
        rw [hd]
        clear hd
        have HBM := Lib.hid (HQ.out _ (HK10.out.trans HKL.out)).2.2.2.2
        have cM := HBM.out.cell
        have fM := HBM.out.frozen
        go_wp2
        exact bodyPost_ret (results_m rfl _ _ (w.heap.size + 1 + 1 + 1 + 1) [.int .u8 0, .bool false, .int .i64 0, .int .i64 0, .int .i64 0, .int .i64 0] _ _ _ _ _ _ rfl rfl HBM.out) rfl ⟨_, _, _, _, _, _, rfl, by simp only [ne_eq, not_true_eq_false, false_iff]; exact fun h => HCC.out (by rw [HU.out.1, HU.out.2.1, HU.out.2.2.1, HU.out.2.2.2]; exact h.2), keeps_6 (HW.out.trans (HK10.out.trans HKL.out)) Z8 _ _ _ _ _ _⟩
theorem meet_t (ax ay bx by_ cx cy dx dy : Int) (h1 : On ax ay) (h2 : On bx by_) (h3 : On cx cy) (h4 : On dx dy) (w : World) :
 Calls Tryz.prog 26 #[.agg #[.int .i32 ax, .int .i32 ay], .agg #[.int .i32 bx, .int .i32 by_], .agg #[.int .i32 cx, .int .i32 cy], .agg #[.int .i32 dx, .int .i32 dy]] w (MetP (meetK ax ay bx by_ cx cy dx dy) w) := by
 unfold meetK
 by_cases hne : ax = bx ∧ ay = by_
 ·rw [if_pos hne]
  obtain ⟨rfl, rfl⟩ := hne
  exact meet_same ax ay cx cy dx dy h1 h3 h4 w
 ·rw [if_neg hne]
  by_cases ht : turnN ax ay bx by_ cx cy = 0 ∧ turnN ax ay bx by_ dx dy = 0
  ·rw [if_pos ht]
   exact meet_one ax ay bx by_ cx cy dx dy h1 h2 h3 h4 hne ht.1 ht.2 w
  ·rw [if_neg ht]
   by_cases hcd : cx = dx ∧ cy = dy
   ·rw [if_pos hcd]
    obtain ⟨rfl, rfl⟩ := hcd
    exact meet_pt ax ay bx by_ cx cy h1 h2 h3 hne (fun h => ht ⟨h, h⟩) w
   ·rw [if_neg hcd]
    exact meet_far ax ay bx by_ cx cy dx dy h1 h2 h3 h4 hne hcd ht w _ _ _ rfl rfl rfl
end Bg
end Go.Proofs.YtdbpfbokfmpgcaaGreat
