/-
FpK: two segments of one line, as the document reckons: oneLine.
FpL: have two segments a point in common, as the document reckons it: the short ways.
FpN: the document's Has and Meets.
-/
import Derived.Test.YtdbpfbokfmpgcaaGreatZbtFpHFpIFpJ
import Derived.Deep.Cut
set_option linter.unusedVariables false
set_option linter.unusedSimpArgs false
set_option linter.ambiguousOpen false
set_option maxHeartbeats 16000000
set_option maxRecDepth 100000
attribute [local go_sem] Go.Oper.semAt_some
namespace Go.Proofs.YtdbpfbokfmpgcaaGreat
theorem ZAC {p : Prop} (h : p := by (repeat (first | with_reducible exact Keeps.refl _ _ | with_reducible refine Keeps.trans ?_ HK1.out | with_reducible refine Keeps.trans ?_ HK2.out | with_reducible refine Keeps.trans ?_ HK3.out | refine Keeps.drew ?_ | refine Keeps.alloc ?_ _))) : p := h
theorem ZAD {p : Prop} (h : p := by (first | (with_unfolding_none refine st6_kd ?_ ?_; all_goals (first | ((repeat (first | with_reducible exact Keeps.refl _ _ | with_reducible refine Keeps.trans ?_ HK5.out | with_reducible refine Keeps.trans ?_ HK6.out | with_reducible refine Keeps.trans ?_ HK7.out | with_reducible refine Keeps.alloc ?_ _ | with_reducible refine Keeps.drew ?_)); done) | (have q5 := HK5.out.size; first | (simp at q5 ⊢; omega) | (have q6 := HK6.out.size; simp at q5 q6 ⊢; omega)))) | (repeat (first | with_reducible exact Keeps.refl _ _ | with_reducible refine Keeps.trans ?_ HK5.out | with_reducible refine Keeps.trans ?_ HK6.out | with_reducible refine Keeps.trans ?_ HK7.out | with_reducible refine Keeps.alloc ?_ _ | with_reducible refine Keeps.drew ?_)))) : p := h
theorem ZAM {p : Prop} (h : p := by (repeat (first | with_reducible exact Keeps.refl _ _ | with_reducible refine Keeps.trans ?_ HK5.out | with_reducible refine Keeps.trans ?_ HK6.out | with_reducible refine Keeps.trans ?_ HK7.out | with_reducible refine Keeps.alloc ?_ _ | with_reducible refine Keeps.drew ?_))) : p := h
theorem ZAW {p : Prop} (h : p := by (repeat (first | with_reducible exact Keeps.refl _ _ | refine Keeps.drew ?_ | refine Keeps.alloc ?_ _))) : p := h
open Go.RowKit
namespace Bg
open Mem Gs Fi
structure StO (B : World) (g9 g10 : Nat) (fn fd tn td : Int) (W : World) : Prop where
 keeps : Keeps (fun _ => False) B W
 ex : ∃ p q r s : QV, Blk W g9 103 [.bool p.m, .slice p.a p.n p.c, .bool q.m, .slice q.a q.n q.c] ∧ Blk W g10 103 [.bool r.m, .slice r.a r.n r.c, .bool s.m, .slice s.a s.n s.c] ∧ (Wq W p fn 4 ∧ Wq W q fd 4) ∧ Wq W r tn 4 ∧ Wq W s td 4
section
variable {B W W' : World} {g9 g10 : Nat} {fn fd tn td : Int}
theorem StO.kd (h : StO B g9 g10 fn fd tn td W) (hk : Keeps (fun _ => False) W W') : StO B g9 g10 fn fd tn td W' := by
 obtain ⟨h0, p, q, r, s, h1, h2, ⟨h3, h4⟩, h5, h6⟩ := h
 exact ⟨h0.trans hk, p, q, r, s, h1.keeps hk (fun h => h), h2.keeps hk (fun h => h), ⟨h3.kd hk, h4.kd hk⟩, h5.kd hk, h6.kd hk⟩
theorem StO.setF (h : StO B g9 g10 fn fd tn td W) (hg : B.heap.size ≤ g9) (hne : g9 ≠ g10) {p' q' : QV} {fn' fd' : Int} (h1 : Wq W p' fn' 4) (h2 : Wq W q' fd' 4) : StO B g9 g10 fn' fd' tn td ((((W.setCell ⟨g9, 0, none⟩ (.bool p'.m)).setCell ⟨g9, 1, none⟩ (.slice p'.a p'.n p'.c)).setCell ⟨g9, 2, none⟩ (.bool q'.m)).setCell ⟨g9, 3, none⟩ (.slice q'.a q'.n q'.c)) := by
 obtain ⟨h0, p, q, r, s, b1, b2, ⟨h3, h4⟩, h5, h6⟩ := h
 refine ⟨keeps_st4 h0 hg _ _, p', q', r, s, blk4 b1 rfl p' q', ?_, ⟨wz_st4 b1 _ _ _ h1, wz_st4 b1 _ _ _ h2⟩, wz_st4 b1 _ _ _ h5, wz_st4 b1 _ _ _ h6⟩
 exact (((b2.far (p := ⟨g9, 0, none⟩) (Ne.symm hne) _).far (p := ⟨g9, 1, none⟩) (Ne.symm hne) _).far (p := ⟨g9, 2, none⟩) (Ne.symm hne) _).far (p := ⟨g9, 3, none⟩) (Ne.symm hne) _
theorem StO.setT (h : StO B g9 g10 fn fd tn td W) (hg : B.heap.size ≤ g10) (hne : g9 ≠ g10) {r' s' : QV} {tn' td' : Int} (h1 : Wq W r' tn' 4) (h2 : Wq W s' td' 4) : StO B g9 g10 fn fd tn' td' ((((W.setCell ⟨g10, 0, none⟩ (.bool r'.m)).setCell ⟨g10, 1, none⟩ (.slice r'.a r'.n r'.c)).setCell ⟨g10, 2, none⟩ (.bool s'.m)).setCell ⟨g10, 3, none⟩ (.slice s'.a s'.n s'.c)) := by
 obtain ⟨h0, p, q, r, s, b1, b2, ⟨h3, h4⟩, h5, h6⟩ := h
 refine ⟨keeps_st4 h0 hg _ _, p, q, r', s', ?_, blk4 b2 rfl r' s', ⟨wz_st4 b2 _ _ _ h3, wz_st4 b2 _ _ _ h4⟩, wz_st4 b2 _ _ _ h1, wz_st4 b2 _ _ _ h2⟩
 exact (((b1.far (p := ⟨g10, 0, none⟩) hne _).far (p := ⟨g10, 1, none⟩) hne _).far (p := ⟨g10, 2, none⟩) hne _).far (p := ⟨g10, 3, none⟩) hne _
end
theorem boxO_kd {w : World} {ax ay bx by_ cx cy dx dy : Int} {W : World} (hk : Keeps (fun _ => False) (((((w.alloc (.cells #[.int .i32 ax, .int .i32 ay] 37)).alloc (.cells #[.int .i32 bx, .int .i32 by_] 37)).alloc (.cells #[.int .i32 cx, .int .i32 cy] 37)).alloc (.cells #[.int .i32 dx, .int .i32 dy] 37)).alloc (.cells #[.int .u8 0, .bool false, .int .i64 0, .int .i64 0, .int .i64 0, .int .i64 0] 93)) W) : (∀ i : Nat, W.cell? ⟨w.heap.size, i, none⟩ = ([.int .i32 ax, .int .i32 ay] : List Value)[i]?) ∧ (∀ i : Nat, W.cell? ⟨w.heap.size + 1, i, none⟩ = ([.int .i32 bx, .int .i32 by_] : List Value)[i]?) ∧ (∀ i : Nat, W.cell? ⟨w.heap.size + 1 + 1, i, none⟩ = ([.int .i32 cx, .int .i32 cy] : List Value)[i]?) ∧ (∀ i : Nat, W.cell? ⟨w.heap.size + 1 + 1 + 1, i, none⟩ = ([.int .i32 dx, .int .i32 dy] : List Value)[i]?) ∧ Blk W (w.heap.size + 1 + 1 + 1 + 1) 93 [.int .u8 0, .bool false, .int .i64 0, .int .i64 0, .int .i64 0, .int .i64 0] := by
 have h1 := ((((Blk.new w 37 [.int .i32 ax, .int .i32 ay]).alloc (.cells #[.int .i32 bx, .int .i32 by_] 37)).alloc (.cells #[.int .i32 cx, .int .i32 cy] 37)).alloc (.cells #[.int .i32 dx, .int .i32 dy] 37)).alloc (.cells #[.int .u8 0, .bool false, .int .i64 0, .int .i64 0, .int .i64 0, .int .i64 0] 93) |>.keeps hk (fun h => h)
 have h2 := (((Blk.new (w.alloc (.cells #[.int .i32 ax, .int .i32 ay] 37)) 37 [.int .i32 bx, .int .i32 by_]).alloc (.cells #[.int .i32 cx, .int .i32 cy] 37)).alloc (.cells #[.int .i32 dx, .int .i32 dy] 37)).alloc (.cells #[.int .u8 0, .bool false, .int .i64 0, .int .i64 0, .int .i64 0, .int .i64 0] 93) |>.keeps hk (fun h => h)
 have h3 := ((Blk.new ((w.alloc (.cells #[.int .i32 ax, .int .i32 ay] 37)).alloc (.cells #[.int .i32 bx, .int .i32 by_] 37)) 37 [.int .i32 cx, .int .i32 cy]).alloc (.cells #[.int .i32 dx, .int .i32 dy] 37)).alloc (.cells #[.int .u8 0, .bool false, .int .i64 0, .int .i64 0, .int .i64 0, .int .i64 0] 93) |>.keeps hk (fun h => h)
 have h4 := (Blk.new (((w.alloc (.cells #[.int .i32 ax, .int .i32 ay] 37)).alloc (.cells #[.int .i32 bx, .int .i32 by_] 37)).alloc (.cells #[.int .i32 cx, .int .i32 cy] 37)) 37 [.int .i32 dx, .int .i32 dy]).alloc (.cells #[.int .u8 0, .bool false, .int .i64 0, .int .i64 0, .int .i64 0, .int .i64 0] 93) |>.keeps hk (fun h => h)
 have h5 := (Blk.new ((((w.alloc (.cells #[.int .i32 ax, .int .i32 ay] 37)).alloc (.cells #[.int .i32 bx, .int .i32 by_] 37)).alloc (.cells #[.int .i32 cx, .int .i32 cy] 37)).alloc (.cells #[.int .i32 dx, .int .i32 dy] 37)) 93 [.int .u8 0, .bool false, .int .i64 0, .int .i64 0, .int .i64 0, .int .i64 0]).keeps hk (fun h => h)
 simp only [World.size_alloc] at h2 h3 h4 h5
 exact ⟨h1.cell, h2.cell, h3.cell, h4.cell, h5⟩
theorem along_facts {ax ay bx by_ cx cy dx dy : Int} (h1 : On ax ay) (h2 : On bx by_) (h3 : On cx cy) (h4 : On dx dy) (hne : ¬ (ax = bx ∧ ay = by_)) :
 (alongN ax ay bx by_ dx dy).2 = (alongN ax ay bx by_ cx cy).2 ∧ 0 < (alongN ax ay bx by_ cx cy).2 ∧ (alongN ax ay bx by_ cx cy).2 < 4294967296 ∧ (-4294967296 < (alongN ax ay bx by_ cx cy).1 ∧ (alongN ax ay bx by_ cx cy).1 < 4294967296) ∧ -4294967296 < (alongN ax ay bx by_ dx dy).1 ∧ (alongN ax ay bx by_ dx dy).1 < 4294967296 := by
 obtain ⟨a1, a2, a3, a4⟩ := h1
 obtain ⟨b1, b2, b3, b4⟩ := h2
 obtain ⟨c1, c2, c3, c4⟩ := h3
 obtain ⟨d1, d2, d3, d4⟩ := h4
 unfold B0 at *
 by_cases hx : ax = bx
 ·rw [Fi.along_y ZAt, Fi.along_y ZAt]
  unfold q2
  by_cases hd : by_ - ay < 0
  ·simp only [if_pos hd, true_and]; omega
  ·simp only [if_neg hd, true_and]; omega
 ·rw [Fi.along_x hx, Fi.along_x hx]
  unfold q2
  by_cases hd : bx - ax < 0
  ·simp only [if_pos hd, true_and]; omega
  ·simp only [if_neg hd, true_and]; omega
theorem blk_of1 {w W : World} (k : Keeps (fun _ => False) (w.alloc (.cells #[.int .u8 0, .bool false, .int .i64 0, .int .i64 0, .int .i64 0, .int .i64 0] 93)).drew W) : Blk W w.heap.size 93 [.int .u8 0, .bool false, .int .i64 0, .int .i64 0, .int .i64 0, .int .i64 0] := (Blk.new w 93 [.int .u8 0, .bool false, .int .i64 0, .int .i64 0, .int .i64 0, .int .i64 0]).drew.keeps k (fun h => h)
theorem blk_of {w W : World} (k : Keeps (fun _ => False) (w.alloc (.cells #[.int .u8 0, .bool false, .int .i64 0, .int .i64 0, .int .i64 0, .int .i64 0] 93)) W) : Blk W w.heap.size 93 [.int .u8 0, .bool false, .int .i64 0, .int .i64 0, .int .i64 0, .int .i64 0] := (Blk.new w 93 [.int .u8 0, .bool false, .int .i64 0, .int .i64 0, .int .i64 0, .int .i64 0]).keeps k (fun h => h)
theorem results_m {fn : Func} {t : Tmp} (hf : fn.results = #[.cell t 93]) (tmps : Array Value) (w : World) (g : Nat) (ds : List Value) (a b c d e f : Value) (hl : ds.length = 6) (hp : tmps.getD t undef = .pointer (some ⟨g, 0, none⟩)) (hg : Blk w g 93 ds) :
 (results fn tmps).run Tryz.prog ((((((w.setCell ⟨g, 0, none⟩ a).setCell ⟨g, 1, none⟩ b).setCell ⟨g, 2, none⟩ c).setCell ⟨g, 3, none⟩ d).setCell ⟨g, 4, none⟩ e).setCell ⟨g, 5, none⟩ f) = .ok (.agg #[a, b, c, d, e, f]) ((((((w.setCell ⟨g, 0, none⟩ a).setCell ⟨g, 1, none⟩ b).setCell ⟨g, 2, none⟩ c).setCell ⟨g, 3, none⟩ d).setCell ⟨g, 4, none⟩ e).setCell ⟨g, 5, none⟩ f) := by
 refine results_cell_row hf _ _ g 93 #[a, b, c, d, e, f] (0, 0) _ hp ?_ Tryz.underlying93 rfl ZAB
 obtain ⟨x1, x2, x3, x4, x5, x6, rfl⟩ : ∃ x1 x2 x3 x4 x5 x6, ds = [x1, x2, x3, x4, x5, x6] := by
  rcases ds with _ | ⟨x1, _ | ⟨x2, _ | ⟨x3, _ | ⟨x4, _ | ⟨x5, _ | ⟨x6, _ | _⟩⟩⟩⟩⟩⟩ <;> simp at hl
  exact ⟨x1, x2, x3, x4, x5, x6, rfl⟩
 have := (((((hg.set_ 0 a).set_ 1 b).set_ 2 c).set_ 3 d).set_ 4 e).set_ 5 f
 simpa [Blk] using this
theorem keeps_6 {w W : World} {g : Nat} (hk : Keeps (fun _ => False) w W) (hl : w.heap.size ≤ g) (a b c d e f : Value) : Keeps (fun _ => False) w ((((((W.setCell ⟨g, 0, none⟩ a).setCell ⟨g, 1, none⟩ b).setCell ⟨g, 2, none⟩ c).setCell ⟨g, 3, none⟩ d).setCell ⟨g, 4, none⟩ e).setCell ⟨g, 5, none⟩ f) :=
 (((((hk.setCell (p := ⟨g, 0, none⟩) (fun h => ZAT) _).setCell (p := ⟨g, 1, none⟩) (fun h => ZAT) _).setCell (p := ⟨g, 2, none⟩) (fun h => ZAT) _).setCell (p := ⟨g, 3, none⟩) (fun h => ZAT) _).setCell (p := ⟨g, 4, none⟩) (fun h => ZAT) _).setCell (p := ⟨g, 5, none⟩) (fun h => ZAT) _
theorem st6_kd {w W : World} {g : Nat} (hk : Keeps (fun _ => False) w W) (hl : w.heap.size ≤ g) {a b c d e f : Value} : Keeps (fun _ => False) w ((((((W.setCell ⟨g, 0, none⟩ a).setCell ⟨g, 1, none⟩ b).setCell ⟨g, 2, none⟩ c).setCell ⟨g, 3, none⟩ d).setCell ⟨g, 4, none⟩ e).setCell ⟨g, 5, none⟩ f) := keeps_6 hk hl a b c d e f
theorem one_k {n1 n2 D fn tn f fd t td : Int} (hD : 0 < D) (h1 : fn = min n1 n2 ∧ tn = max n1 n2) (h2 : (fn < 0 ∧ f = 0 ∧ fd = 1) ∨ (¬ fn < 0 ∧ f = fn ∧ fd = D)) (h3 : (D < tn ∧ t = 1 ∧ td = 1) ∨ (¬ D < tn ∧ t = tn ∧ td = D)) :
 ¬ 0 < sg (f * td - t * fd) ↔ 0 ≤ max n1 n2 ∧ min n1 n2 ≤ D := by
 rw [show 0 < sg (f * td - t * fd) ↔ 0 < f * td - t * fd from sg_pos]
 rcases h2 with ⟨a1, rfl, rfl⟩ | ⟨a1, rfl, rfl⟩ <;> rcases h3 with ⟨b1, rfl, rfl⟩ | ⟨b1, rfl, rfl⟩
 ·omega
 ·omega
 ·omega
 ·have := Int.mul_le_mul_of_nonneg_right (show f ≤ t by omega) (Int.le_of_lt hD)
  omega
theorem one_b {n1 n2 D fn tn f fd t td : Int} (hF : 0 < D ∧ D < 4294967296 ∧ (-4294967296 < n1 ∧ n1 < 4294967296) ∧ -4294967296 < n2 ∧ n2 < 4294967296) (h1 : fn = min n1 n2 ∧ tn = max n1 n2) (h2 : (fn < 0 ∧ f = 0 ∧ fd = 1) ∨ (¬ fn < 0 ∧ f = fn ∧ fd = D)) (h3 : (D < tn ∧ t = 1 ∧ td = 1) ∨ (¬ D < tn ∧ t = tn ∧ td = D)) :
 f.natAbs < 9223372036854775808 ∧ (0 < fd ∧ fd < 9223372036854775808) ∧ t.natAbs < 9223372036854775808 ∧ 0 < td ∧ td < 9223372036854775808 := by
 omega
theorem one_t (ax ay bx by_ cx cy dx dy : Int) (h1 : On ax ay) (h2 : On bx by_) (h3 : On cx cy) (h4 : On dx dy) (hne : ¬ (ax = bx ∧ ay = by_)) (w : World) :
 Calls Tryz.prog 31 #[.agg #[.int .i32 ax, .int .i32 ay], .agg #[.int .i32 bx, .int .i32 by_], .agg #[.int .i32 cx, .int .i32 cy], .agg #[.int .i32 dx, .int .i32 dy]] w (fun e w' => ∃ (kd : Int) (i : Bool) (m1 m2 m3 m4 : Int), e = .returned (.agg #[.int .u8 kd, .bool i, .int .i64 m1, .int .i64 m2, .int .i64 m3, .int .i64 m4]) ∧ (kd ≠ 0 ↔ oneK ax ay bx by_ cx cy dx dy) ∧ Keeps (fun _ => False) w w') := by
 have hF := along_facts h1 h2 h3 h4 hne
 have HA := Lib.hid (fun W => along_t ax ay bx by_ cx cy h1 h2 h3 W)
 have HB := Lib.hid (fun W => along_t ax ay bx by_ dx dy h1 h2 h4 W)
 unfold oneK
 obtain ⟨n1, hn1⟩ := ZE ((alongN ax ay bx by_ cx cy).1)
 obtain ⟨n2, hn2⟩ := ZE ((alongN ax ay bx by_ dx dy).1)
 obtain ⟨D, hD⟩ := ZE ((alongN ax ay bx by_ cx cy).2)
 rw [hF.1] at HB
 rw [← hn1, ← hn2, ← hD] at hF
 rw [← hn1, ← hD] at HA
 rw [← hn2, ← hD] at HB
 rw [← hn1, ← hn2, ← hD]
 have HF := Lib.hid hF.2
 have HQ := Lib.hid (fun W (hk : Keeps (fun _ => False) (((((w.alloc (.cells #[.int .i32 ax, .int .i32 ay] 37)).alloc (.cells #[.int .i32 bx, .int .i32 by_] 37)).alloc (.cells #[.int .i32 cx, .int .i32 cy] 37)).alloc (.cells #[.int .i32 dx, .int .i32 dy] 37)).alloc (.cells #[.int .u8 0, .bool false, .int .i64 0, .int .i64 0, .int .i64 0, .int .i64 0] 93)) W) => boxO_kd (w := w) (ax := ax) (ay := ay) (bx := bx) (by_ := by_) (cx := cx) (cy := cy) (dx := dx) (dy := dy) hk)
 have H1 := Lib.hid (fun W => whole_t 1 ZAH W)
 have H0 := Lib.hid (fun W => whole_t 0 ZAH W)
 have HC := Lib.hid (fun p q r s x y u v W (a : Wq W p x 4) (b : Wq W q y 4) (c : Wq W r u 4) (d : Wq W s v 4) => cmp_t p q r s x y u v 4 4 W a b c d ZAH)
 have HS := Lib.hid (fun p q x W (a : Wq W p x 4) => Sign_t p q x 1 4 W a ZAH)
 have HW := Lib.hid ((((((Keeps.refl (fun _ => False) w).alloc (.cells #[.int .i32 ax, .int .i32 ay] 37)).alloc (.cells #[.int .i32 bx, .int .i32 by_] 37)).alloc (.cells #[.int .i32 cx, .int .i32 cy] 37)).alloc (.cells #[.int .i32 dx, .int .i32 dy] 37)).alloc (.cells #[.int .u8 0, .bool false, .int .i64 0, .int .i64 0, .int .i64 0, .int .i64 0] 93))
 clear h1 h2 h3 h4 hne hn1 hn2 hD hF
 go_enter Tryz.func31, Tryz.ntmps31
 go_upto_if 24 with (first
  | (go_at_call 39; (with_reducible refine (HA.out _).mono ?_); rintro e w1 ⟨r1, s1, rfl, k1, z1, y1⟩; have HK1 := Lib.hid k1; have HZ1 := Lib.hid z1; have HY1 := Lib.hid y1; clear k1 z1 y1; have HJ1 := Lib.hid ((Keeps.refl (fun _ => False) w1).alloc (.cells #[.bool r1.m, .slice r1.a r1.n r1.c, .bool s1.m, .slice s1.a s1.n s1.c] 103)); have cX := (HQ.out (w1.alloc (.cells #[.bool r1.m, .slice r1.a r1.n r1.c, .bool s1.m, .slice s1.a s1.n s1.c] 103)) (HK1.out.trans HJ1.out)).1; have cY := (HQ.out (w1.alloc (.cells #[.bool r1.m, .slice r1.a r1.n r1.c, .bool s1.m, .slice s1.a s1.n s1.c] 103)) (HK1.out.trans HJ1.out)).2.1; have cZ := (HQ.out (w1.alloc (.cells #[.bool r1.m, .slice r1.a r1.n r1.c, .bool s1.m, .slice s1.a s1.n s1.c] 103)) (HK1.out.trans HJ1.out)).2.2.1; have cU := (HQ.out (w1.alloc (.cells #[.bool r1.m, .slice r1.a r1.n r1.c, .bool s1.m, .slice s1.a s1.n s1.c] 103)) (HK1.out.trans HJ1.out)).2.2.2.1)
  | (go_at_call 39; (with_reducible refine (HB.out _).mono ?_); rintro e w2 ⟨r2, s2, rfl, k2, z2, y2⟩; have HK2 := Lib.hid k2; have HZ2 := Lib.hid z2; have HY2 := Lib.hid y2; clear k2 z2 y2; have HJ2 := Lib.hid ((Keeps.refl (fun _ => False) w2).alloc (.cells #[.bool r2.m, .slice r2.a r2.n r2.c, .bool s2.m, .slice s2.a s2.n s2.c] 103)); clear cX cY cZ cU; have HO := Lib.hid (show StO (((((w.alloc (.cells #[.int .i32 ax, .int .i32 ay] 37)).alloc (.cells #[.int .i32 bx, .int .i32 by_] 37)).alloc (.cells #[.int .i32 cx, .int .i32 cy] 37)).alloc (.cells #[.int .i32 dx, .int .i32 dy] 37)).alloc (.cells #[.int .u8 0, .bool false, .int .i64 0, .int .i64 0, .int .i64 0, .int .i64 0] 93)) w1.heap.size w2.heap.size n1 D n2 D (w2.alloc (.cells #[.bool r2.m, .slice r2.a r2.n r2.c, .bool s2.m, .slice s2.a s2.n s2.c] 103)) from ⟨ZAC, r1, s1, r2, s2, ((Blk.new w1 103 [.bool r1.m, .slice r1.a r1.n r1.c, .bool s1.m, .slice s1.a s1.n s1.c]).keeps HK2.out (fun h => h)).alloc _, Blk.new w2 103 [.bool r2.m, .slice r2.a r2.n r2.c, .bool s2.m, .slice s2.a s2.n s2.c], ⟨HZ1.out.kd ZAC, HY1.out.kd ZAC⟩, HZ2.out.kd ZAC, HY2.out.kd ZAC⟩); have c9 := (((Blk.new w1 103 [.bool r1.m, .slice r1.a r1.n r1.c, .bool s1.m, .slice s1.a s1.n s1.c]).keeps HK2.out (fun h => h)).alloc (.cells #[.bool r2.m, .slice r2.a r2.n r2.c, .bool s2.m, .slice s2.a s2.n s2.c] 103)).cell)
  | (go_at_call 36; (with_reducible refine (HC.out r1 s1 r2 s2 _ _ _ _ _ (HZ1.out.kd ZAC) (HY1.out.kd ZAC) (HZ2.out.kd ZAC) (HY2.out.kd ZAC)).mono ?_); rintro e w3 ⟨rfl, k3⟩; have HK3 := Lib.hid k3; clear k3 c9))
 have hsg : (0 < sg (n1 * D - n2 * D)) ↔ n2 < n1 := by
  have h := HF.out.1
  rw [show (0 < sg (n1 * D - n2 * D)) ↔ 0 < n1 * D - n2 * D from sg_pos, ← Int.sub_mul]
  constructor
  ·intro h1
   refine Classical.byContradiction fun hn => ?_
   have := Int.mul_nonpos_of_nonpos_of_nonneg (show n1 - n2 ≤ 0 by omega) (Int.le_of_lt h)
   omega
  ·intro h1; exact Int.mul_pos Z8 h
 go_cut [] from 13 (fun wc => ∃ fn tn, (fn = min n1 n2 ∧ tn = max n1 n2) ∧ StO (((((w.alloc (.cells #[.int .i32 ax, .int .i32 ay] 37)).alloc (.cells #[.int .i32 bx, .int .i32 by_] 37)).alloc (.cells #[.int .i32 cx, .int .i32 cy] 37)).alloc (.cells #[.int .i32 dx, .int .i32 dy] 37)).alloc (.cells #[.int .u8 0, .bool false, .int .i64 0, .int .i64 0, .int .i64 0, .int .i64 0] 93)) w1.heap.size w2.heap.size fn D tn D wc)
 case' first =>
  have b9 := ((((Blk.new w1 103 [.bool r1.m, .slice r1.a r1.n r1.c, .bool s1.m, .slice s1.a s1.n s1.c]).keeps HK2.out (fun h => h)).alloc (.cells #[.bool r2.m, .slice r2.a r2.n r2.c, .bool s2.m, .slice s2.a s2.n s2.c] 103)).keeps HK3.out (fun h => h))
  have b10 := ((Blk.new w2 103 [.bool r2.m, .slice r2.a r2.n r2.c, .bool s2.m, .slice s2.a s2.n s2.c]).keeps HK3.out (fun h => h))
  have c9 := b9.cell
  have f9 := b9.frozen
  have c10 := b10.cell
  have f10 := b10.frozen
  have hne : w1.heap.size ≠ w2.heap.size := by have := HK2.out.size; simp at this; omega
  by_cases hsw : n2 < n1
  ·have hd : decide (0 < sg (n1 * D - n2 * D)) = true := decide_eq_true (hsg.2 hsw)
   go_wp2
   go_meet
   exact ⟨n2, n1, Z8, ((HO.out.kd HK3.out).setF HK1.out.size hne (HZ2.out.kd ZAC) (HY2.out.kd ZAC)).setT (Nat.le_trans HK1.out.size (by have := HK2.out.size; simp at this; omega)) hne (wz_st4 b9 _ _ _ (HZ1.out.kd ZAC)) (wz_st4 b9 _ _ _ (HY1.out.kd ZAC))⟩
  ·have hd : decide (0 < sg (n1 * D - n2 * D)) = false := decide_eq_false (fun h => hsw (hsg.1 h))
   go_wp2
   go_meet
   exact ⟨n1, n2, Z8, HO.out.kd HK3.out⟩
 case' rest =>
  obtain ⟨fn, tn, hft, hSt⟩ := hcut
  have HFT := Lib.hid hft
  have HG := Lib.hid (show (((((w.alloc (.cells #[.int .i32 ax, .int .i32 ay] 37)).alloc (.cells #[.int .i32 bx, .int .i32 by_] 37)).alloc (.cells #[.int .i32 cx, .int .i32 cy] 37)).alloc (.cells #[.int .i32 dx, .int .i32 dy] 37)).alloc (.cells #[.int .u8 0, .bool false, .int .i64 0, .int .i64 0, .int .i64 0, .int .i64 0] 93)).heap.size ≤ w1.heap.size ∧ (((((w.alloc (.cells #[.int .i32 ax, .int .i32 ay] 37)).alloc (.cells #[.int .i32 bx, .int .i32 by_] 37)).alloc (.cells #[.int .i32 cx, .int .i32 cy] 37)).alloc (.cells #[.int .i32 dx, .int .i32 dy] 37)).alloc (.cells #[.int .u8 0, .bool false, .int .i64 0, .int .i64 0, .int .i64 0, .int .i64 0] 93)).heap.size ≤ w2.heap.size ∧ w1.heap.size ≠ w2.heap.size from ⟨HK1.out.size, Nat.le_trans HK1.out.size (by have := HK2.out.size; simp at this; omega), by have := HK2.out.size; simp at this; omega⟩)
  clear hft hsg HO HZ1 HZ2 HY1 HY2 HK1 HK2 HK3
  obtain ⟨kc, p, q, r, s, b9, b10, ⟨zp, zq⟩, zr, zs⟩ := id hSt
  have HZc := Lib.hid zp
  have HSt := Lib.hid hSt
  have c9 := b9.cell
  clear b9 b10 zp zq zr zs kc hSt
  go_upto_if 29 with ((with_reducible refine (HS.out p q _ _ HZc.out).mono ?_); rintro e w4 ⟨rfl, k4⟩; have HK4 := Lib.hid k4; clear k4 c9)
  go_cut [] from 13 (fun wd => ∃ f fd, ((fn < 0 ∧ f = 0 ∧ fd = 1) ∨ (¬ fn < 0 ∧ f = fn ∧ fd = D)) ∧ StO (((((w.alloc (.cells #[.int .i32 ax, .int .i32 ay] 37)).alloc (.cells #[.int .i32 bx, .int .i32 by_] 37)).alloc (.cells #[.int .i32 cx, .int .i32 cy] 37)).alloc (.cells #[.int .i32 dx, .int .i32 dy] 37)).alloc (.cells #[.int .u8 0, .bool false, .int .i64 0, .int .i64 0, .int .i64 0, .int .i64 0] 93)) w1.heap.size w2.heap.size f fd tn D wd)
  case' first =>
   by_cases hf : fn < 0
   ·have hd : sg fn < 0 := sg_neg.2 hf
    have Hf := Lib.hid hf
    clear hf
    go_wp2_with (go_at_call 35; go_loud (with_reducible refine (H0.out _).mono ?_); rintro e w5 ⟨r5, s5, rfl, k5, z5, y5⟩; have HK5 := Lib.hid (HK4.out.trans k5); have HZ5 := Lib.hid z5; have HY5 := Lib.hid y5; obtain ⟨_, p5, q5, r6, s6, b9, b10, -⟩ := HSt.out.kd HK5.out; have c9 := b9.cell; have f9 := b9.frozen; clear k5 z5 y5 b9 b10)
    go_meet
    exact ⟨0, 1, .inl ⟨Hf.out, rfl, rfl⟩, (HSt.out.kd HK5.out).setF HG.out.1 HG.out.2.2 (HZ5.out.more ZAH) (HY5.out.more ZAH)⟩
   ·have hd : ¬ sg fn < 0 := fun h => hf (sg_neg.1 h)
    have Hf := Lib.hid hf
    clear hf
    go_wp2
    go_meet
    exact ⟨fn, D, .inr ⟨Hf.out, rfl, rfl⟩, HSt.out.kd HK4.out⟩
  case' rest =>
   obtain ⟨f, fd, hfd, hSd⟩ := hcut
   have HFD := Lib.hid hfd
   clear hfd HK4 HSt HZc
   obtain ⟨kd, p2, q2, r3, s3, b9, b10, -, zr, zs⟩ := id hSd
   have HR3 := Lib.hid zr
   have HS3 := Lib.hid zs
   have HSd := Lib.hid hSd
   have HB10 := Lib.hid b10
   clear b9 b10 zr zs kd hSd
   go_upto_region 7 with fail
   have hfin : decide (0 < sg (tn - D)) = decide (D < tn) := by rw [decide_eq_decide, show (0 < sg (tn - D)) ↔ 0 < tn - D from sg_pos]; omega
   go_cut [34] from 13 (fun s34 we => s34 = .bool (decide (D < tn)) ∧ StO (((((w.alloc (.cells #[.int .i32 ax, .int .i32 ay] 37)).alloc (.cells #[.int .i32 bx, .int .i32 by_] 37)).alloc (.cells #[.int .i32 cx, .int .i32 cy] 37)).alloc (.cells #[.int .i32 dx, .int .i32 dy] 37)).alloc (.cells #[.int .u8 0, .bool false, .int .i64 0, .int .i64 0, .int .i64 0, .int .i64 0] 93)) w1.heap.size w2.heap.size f fd tn D we)
   case' first =>
    go_region_held3 (fun W => ∀ i : Nat, W.cell? ⟨w2.heap.size, i, none⟩ = ([.bool r3.m, .slice r3.a r3.n r3.c, .bool s3.m, .slice s3.a s3.n s3.c] : List Value)[i]?) (first | with_reducible assumption | exact (HB10.out.keeps (S := fun _ => False) Z7 (fun h => h)).cell) (first
     | (go_at_call 35; (with_reducible refine (H1.out _).mono ?_); rintro e w4 ⟨r4, s4, rfl, k4, z4, y4⟩; have HK4 := Lib.hid k4; have HZ4 := Lib.hid z4; have HY4 := Lib.hid y4; clear k4 z4 y4)
     | (go_at_call 36; (with_reducible refine (HC.out r3 s3 r4 s4 _ _ _ _ _ (HR3.out.kd Z7) (HS3.out.kd Z7) ((HZ4.out.more ZAH).kd Z7) ((HY4.out.more ZAH).kd Z7)).mono ?_); rintro e w5 ⟨rfl, k5⟩; have HK5 := Lib.hid k5; clear k5))
    all_goals
     go_wp2
     go_meet
     exact ⟨by rw [← hfin], HSd.out.kd Z7⟩
   case' rest =>
    obtain ⟨rfl, hSe⟩ := hcut
    have HSe := Lib.hid hSe
    clear hSe HSd HB10 HR3 HS3 hfin
    go_upto_if 34 with fail
    go_cut [] from 13 (fun wf => ∃ t td, ((D < tn ∧ t = 1 ∧ td = 1) ∨ (¬ D < tn ∧ t = tn ∧ td = D)) ∧ StO (((((w.alloc (.cells #[.int .i32 ax, .int .i32 ay] 37)).alloc (.cells #[.int .i32 bx, .int .i32 by_] 37)).alloc (.cells #[.int .i32 cx, .int .i32 cy] 37)).alloc (.cells #[.int .i32 dx, .int .i32 dy] 37)).alloc (.cells #[.int .u8 0, .bool false, .int .i64 0, .int .i64 0, .int .i64 0, .int .i64 0] 93)) w1.heap.size w2.heap.size f fd t td wf)
    case' first =>
     by_cases hf : D < tn
     ·have Hf := Lib.hid hf
      go_wp2_with (go_at_call 35; (with_reducible refine (H1.out _).mono ?_); rintro e w5 ⟨r5, s5, rfl, k5, z5, y5⟩; have HK5 := Lib.hid k5; have HZ5 := Lib.hid z5; have HY5 := Lib.hid y5; obtain ⟨_, p5, q5, r6, s6, b9, b10, -⟩ := HSe.out.kd k5; have c10 := b10.cell; have f10 := b10.frozen; clear k5 z5 y5 b9 b10)
      go_meet
      exact ⟨1, 1, .inl ⟨Hf.out, rfl, rfl⟩, (HSe.out.kd HK5.out).setT HG.out.2.1 HG.out.2.2 (HZ5.out.more ZAH) (HY5.out.more ZAH)⟩
     ·have Hf := Lib.hid hf
      go_wp2
      go_meet
      exact ⟨tn, D, .inr ⟨Hf.out, rfl, rfl⟩, HSe.out⟩
    case' rest =>
     obtain ⟨t, td, htd, hSf⟩ := hcut
     have HTD := Lib.hid htd
     clear htd HSe
     have hK := one_k HF.out.1 HFT.out HFD.out HTD.out
     have hB := one_b HF.out HFT.out HFD.out HTD.out
     obtain ⟨kd, p2, q2, r3, s3, b9, b10, ⟨zp, zq⟩, zr, zs⟩ := id hSf
     have HFR := Lib.hid (fun W (hk : Keeps (fun _ => False) wc W) => frac_t p2 q2 f fd 4 W (zp.kd hk) (zq.kd hk) ZAH hB.1 hB.2.1)
     have HTR := Lib.hid (fun W (hk : Keeps (fun _ => False) wc W) => frac_t r3 s3 t td 4 W (zr.kd hk) (zs.kd hk) ZAH hB.2.2.1 hB.2.2.2)
     have HCC := Lib.hid (HC.out p2 q2 r3 s3 _ _ _ _ wc zp zq zr zs)
     have HS9 := Lib.hid (fun W (hk : Keeps (fun _ => False) wc W) => And.intro (b9.keeps hk (fun h => h)).cell (b10.keeps hk (fun h => h)).cell)
     have c9 := b9.cell
     have c10 := b10.cell
     have HKF := Lib.hid kd
     obtain ⟨kk, hkk⟩ := ZE (f * td - t * fd)
     rw [← hkk] at HCC hK
     clear hB b9 b10 zp zq zr zs kd hSf hkk
     by_cases hk0 : 0 < sg kk
     ·have HE := Lib.hid (show ¬ (0 ≤ max n1 n2 ∧ min n1 n2 ≤ D) from fun h => hK.2 h hk0)
      clear hK
      go_wp2_with ((with_reducible refine HCC.out.mono ?_); rintro e w5 ⟨rfl, k5⟩; have HK5 := Lib.hid (HKF.out.trans k5); have bM := (HQ.out w5 HK5.out).2.2.2.2; have cM := bM.cell; have fM := bM.frozen; clear k5 bM c9 c10)
      exact bodyPost_ret (results_m rfl _ _ (w.heap.size + 1 + 1 + 1 + 1) [.int .u8 0, .bool false, .int .i64 0, .int .i64 0, .int .i64 0, .int .i64 0] _ _ _ _ _ _ rfl rfl (HQ.out w5 HK5.out).2.2.2.2) rfl ⟨_, _, _, _, _, _, rfl, by simp only [ne_eq, not_true_eq_false, false_iff]; exact HE.out, keeps_6 (HW.out.trans HK5.out) Z8 _ _ _ _ _ _⟩
     ·have HE := Lib.hid (hK.1 hk0)
      clear hK
      go_wp2_with ((with_reducible refine HCC.out.mono ?_); rintro e w5 ⟨rfl, k5⟩; have HK5 := Lib.hid k5; clear k5 c9 c10)
      have hbase : w.heap.size + 1 + 1 + 1 + 1 < wc.heap.size := by have := HKF.out.size; simp at this; omega
      have HBS := Lib.hid hbase
      clear hbase
      go_cut [12] from 13 (fun s12 wz => ∃ (g12 : Nat) (a b c d : Int), s12 = .pointer (some ⟨g12, 0, none⟩) ∧ Blk wz g12 93 [.int .u8 2, .bool false, .int .i64 a, .int .i64 b, .int .i64 c, .int .i64 d] ∧ Keeps (fun _ => False) (((((w.alloc (.cells #[.int .i32 ax, .int .i32 ay] 37)).alloc (.cells #[.int .i32 bx, .int .i32 by_] 37)).alloc (.cells #[.int .i32 cx, .int .i32 cy] 37)).alloc (.cells #[.int .i32 dx, .int .i32 dy] 37)).alloc (.cells #[.int .u8 0, .bool false, .int .i64 0, .int .i64 0, .int .i64 0, .int .i64 0] 93)) wz ∧ w.heap.size + 1 + 1 + 1 + 1 < g12)
      case' first =>
       go_region_held3 (fun W => (∀ i : Nat, W.cell? ⟨w1.heap.size, i, none⟩ = ([.bool p2.m, .slice p2.a p2.n p2.c, .bool q2.m, .slice q2.a q2.n q2.c] : List Value)[i]?) ∧ (∀ i : Nat, W.cell? ⟨w2.heap.size, i, none⟩ = ([.bool r3.m, .slice r3.a r3.n r3.c, .bool s3.m, .slice s3.a s3.n s3.c] : List Value)[i]?)) (first | with_reducible assumption | exact HS9.out _ ZAD) (first
        | (go_at_call 37; (with_reducible refine (HFR.out _ ZAD).mono ?_); rintro e w6 ⟨x1, x2, rfl, k6⟩; have HK6 := Lib.hid k6; first | (with_reducible (have hb := blk_of1 k6); have HBN := Lib.hid hb; have cn := hb.cell; have fn := hb.frozen; clear hb k6) | (with_reducible (have hb := blk_of k6);  have HBN := Lib.hid hb; have cn := hb.cell; have fn := hb.frozen; clear hb k6) | clear k6)
        | (go_at_call 37; (with_reducible refine (HTR.out _ ZAD).mono ?_); rintro e w7 ⟨y1, y2, rfl, k7⟩; have HK7 := Lib.hid k7; first | (with_reducible (have hb := blk_of k7);  have HBN := Lib.hid hb; have cn := hb.cell; have fn := hb.frozen; clear hb k7) | (have hb := HBN.out.kd k7; have cn := hb.cell; have fn := hb.frozen; clear hb k7) | clear k7))
       all_goals
        go_wp2
        go_meet
       all_goals
        refine ⟨_, x1, x2, y1, y2, rfl, ?_, ?_, ?_⟩
       ·exact Blk.new w7 93 [_, _, _, _, _, _]
       ·exact ((HKF.out.trans HK5.out).trans ZAM).alloc _
       ·have q1 := HBS.out; have q5 := HK5.out.size; have q6 := HK6.out.size; have q7 := HK7.out.size; simp at q5 q6 q7; omega
       ·exact (((((HBN.out.set_ 0 _).set_ 1 _).set_ 2 _).set_ 3 _).set_ 4 _).set_ 5 _
       ·exact keeps_6 ((HKF.out.trans HK5.out).trans ZAM) (by have q1 := HKF.out.size; have q5 := HK5.out.size; have q6 := HK6.out.size; simp at q1 q5 q6 ⊢; omega) _ _ _ _ _ _
       ·have q1 := HBS.out; have q5 := HK5.out.size; have q6 := HK6.out.size; simp at q5 q6; omega
       ·exact ((((((HBN.out.kd HK7.out).set_ 0 _).set_ 1 _).set_ 2 _).set_ 3 _).set_ 4 _).set_ 5 _
       ·exact keeps_6 ((HKF.out.trans HK5.out).trans ZAM) (by have q1 := HKF.out.size; have q5 := HK5.out.size; simp at q1 q5 ⊢; omega) _ _ _ _ _ _
       ·have q1 := HBS.out; have q5 := HK5.out.size; omega
      case' rest =>
       obtain ⟨g12, a, b, c, d, rfl, hb, hk, hg⟩ := hcut
       have HKZ := Lib.hid hk
       have cB := hb.cell
       have fB := hb.frozen
       have bM := (HQ.out wc hk).2.2.2.2
       have HBM := Lib.hid bM
       have cM := bM.cell
       have fM := bM.frozen
       have hne : w.heap.size + 1 + 1 + 1 + 1 ≠ g12 := by omega
       have HNE := Lib.hid (And.intro hne (show w.heap.size ≤ g12 by omega))
       clear hb hk hg bM
       by_cases hz : sg kk = 0
       ·go_wp2
        exact bodyPost_ret (results_m rfl _ _ (w.heap.size + 1 + 1 + 1 + 1) [.int .u8 0, .bool false, .int .i64 0, .int .i64 0, .int .i64 0, .int .i64 0] _ _ _ _ _ _ rfl rfl (HBM.out.far (p := ⟨g12, 0, none⟩) HNE.out.1 _)) rfl ⟨_, _, _, _, _, _, rfl, by simp only [ne_eq, Int.one_ne_zero, not_false_eq_true, true_iff]; exact HE.out, keeps_6 ((HW.out.trans HKZ.out).setCell (p := ⟨g12, 0, none⟩) (fun h => by have := HNE.out.2; simp only at h; omega) _) Z8 _ _ _ _ _ _⟩
       ·go_wp2
        exact bodyPost_ret (results_m rfl _ _ (w.heap.size + 1 + 1 + 1 + 1) [.int .u8 0, .bool false, .int .i64 0, .int .i64 0, .int .i64 0, .int .i64 0] _ _ _ _ _ _ rfl rfl HBM.out) rfl ⟨_, _, _, _, _, _, rfl, by simp only [ne_eq, show ¬ ((2 : Int) = 0) by decide, not_false_eq_true, true_iff]; exact HE.out, keeps_6 (HW.out.trans HKZ.out) Z8 _ _ _ _ _ _⟩
end Bg
open Go.RowKit
namespace Bg
open Mem Gs Fi
theorem in_t (x y : Int) (w : World) : Calls Tryz.prog 25 #[.agg #[.int .i32 x, .int .i32 y]] w fun e w' => e = .returned (.bool (decide (On x y))) ∧ w.alloc (.cells #[.int .i32 x, .int .i32 y] 37) = w' := by
 unfold On B0
 by_cases h1 : -1073741823 ≤ x <;> by_cases h2 : x ≤ 1073741823 <;> by_cases h3 : -1073741823 ≤ y <;> by_cases h4 : y ≤ 1073741823
 all_goals try (exfalso; omega)
 all_goals
  simp only [h1, h2, h3, h4, and_true, and_false, decide_true, decide_false]
  go_enter Tryz.func25, Tryz.ntmps25
  go_wp2
  go_ret
  exact ⟨rfl, rfl⟩
theorem in_on {x y : Int} (h : On x y) (w : World) : Calls Tryz.prog 25 #[.agg #[.int .i32 x, .int .i32 y]] w fun e w' => e = .returned (.bool true) ∧ w.alloc (.cells #[.int .i32 x, .int .i32 y] 37) = w' := by
 refine (in_t x y w).mono ?_
 rintro e w' ⟨he, hw⟩
 exact ⟨by rw [he, decide_eq_true h], hw⟩
def MetP (yes : Prop) (w : World) (e : Ending) (w' : World) : Prop := ∃ (kd : Int) (i : Bool) (m1 m2 m3 m4 : Int), e = .returned (.agg #[.int .u8 kd, .bool i, .int .i64 m1, .int .i64 m2, .int .i64 m3, .int .i64 m4]) ∧ (kd ≠ 0 ↔ yes) ∧ Keeps (fun _ => False) w w'
theorem meet_same (ax ay cx cy dx dy : Int) (h1 : On ax ay) (h3 : On cx cy) (h4 : On dx dy) (w : World) :
 Calls Tryz.prog 26 #[.agg #[.int .i32 ax, .int .i32 ay], .agg #[.int .i32 ax, .int .i32 ay], .agg #[.int .i32 cx, .int .i32 cy], .agg #[.int .i32 dx, .int .i32 dy]] w (MetP (onK ax ay cx cy dx dy) w) := by
 have h2 := h1
 have HQ := Lib.hid (fun W (hk : Keeps (fun _ => False) (((((w.alloc (.cells #[.int .i32 ax, .int .i32 ay] 37)).alloc (.cells #[.int .i32 ax, .int .i32 ay] 37)).alloc (.cells #[.int .i32 cx, .int .i32 cy] 37)).alloc (.cells #[.int .i32 dx, .int .i32 dy] 37)).alloc (.cells #[.int .u8 0, .bool false, .int .i64 0, .int .i64 0, .int .i64 0, .int .i64 0] 93)) W) => boxO_kd (w := w) (ax := ax) (ay := ay) (bx := ax) (by_ := ay) (cx := cx) (cy := cy) (dx := dx) (dy := dy) hk)
 have HI1 := Lib.hid (fun W => in_on h1 W)
 have HI3 := Lib.hid (fun W => in_on h3 W)
 have HI4 := Lib.hid (fun W => in_on h4 W)
 have e1 := eq_pts ax ay ax ay true ZA7
 have HO := Lib.hid (fun W => on_t cx cy dx dy ax ay h3 h4 h1 W)
 have HW := Lib.hid ((((((Keeps.refl (fun _ => False) w).alloc (.cells #[.int .i32 ax, .int .i32 ay] 37)).alloc (.cells #[.int .i32 ax, .int .i32 ay] 37)).alloc (.cells #[.int .i32 cx, .int .i32 cy] 37)).alloc (.cells #[.int .i32 dx, .int .i32 dy] 37)).alloc (.cells #[.int .u8 0, .bool false, .int .i64 0, .int .i64 0, .int .i64 0, .int .i64 0] 93))
 clear h1 h2 h3 h4
 go_enter Tryz.func26, Tryz.ntmps26
 go_upto_if 44 with (first
  | (go_at_call 25; (with_reducible first | refine (HI1.out _).mono ?_ | refine (HI3.out _).mono ?_ | refine (HI4.out _).mono ?_); rintro e wi ⟨rfl, rfl⟩)
  | (go_at_call 29; (with_reducible refine (HO.out _).mono ?_); rintro e w1 ⟨q, rfl, hq, k1⟩; have HY := Lib.hid hq; have HK1 := Lib.hid (show Keeps (fun _ => False) (((((w.alloc (.cells #[.int .i32 ax, .int .i32 ay] 37)).alloc (.cells #[.int .i32 ax, .int .i32 ay] 37)).alloc (.cells #[.int .i32 cx, .int .i32 cy] 37)).alloc (.cells #[.int .i32 dx, .int .i32 dy] 37)).alloc (.cells #[.int .u8 0, .bool false, .int .i64 0, .int .i64 0, .int .i64 0, .int .i64 0] 93)) w1 from Keeps.trans Z5 k1); have bM := (HQ.out w1 HK1.out).2.2.2.2; have HBM := Lib.hid bM; have cM := bM.cell; have fM := bM.frozen; clear hq k1 bM))
 cases q
 ·go_wp2
  exact bodyPost_ret (results_m rfl _ _ (w.heap.size + 1 + 1 + 1 + 1) [.int .u8 0, .bool false, .int .i64 0, .int .i64 0, .int .i64 0, .int .i64 0] _ _ _ _ _ _ rfl rfl HBM.out) rfl ⟨_, _, _, _, _, _, rfl, by simp only [ne_eq, not_true_eq_false, false_iff]; simpa using HY.out, keeps_6 (HW.out.trans HK1.out) Z8 _ _ _ _ _ _⟩
 ·go_wp2
  exact bodyPost_ret (results_m rfl _ _ (w.heap.size + 1 + 1 + 1 + 1) [.int .u8 0, .bool false, .int .i64 0, .int .i64 0, .int .i64 0, .int .i64 0] _ _ _ _ _ _ rfl rfl HBM.out) rfl ⟨_, _, _, _, _, _, rfl, by simp only [ne_eq, Int.one_ne_zero, not_false_eq_true, true_iff]; simpa using HY.out, keeps_6 (HW.out.trans HK1.out) Z8 _ _ _ _ _ _⟩
theorem meet_one (ax ay bx by_ cx cy dx dy : Int) (h1 : On ax ay) (h2 : On bx by_) (h3 : On cx cy) (h4 : On dx dy) (hne : ¬ (ax = bx ∧ ay = by_)) (t1 : turnN ax ay bx by_ cx cy = 0) (t2 : turnN ax ay bx by_ dx dy = 0) (w : World) :
 Calls Tryz.prog 26 #[.agg #[.int .i32 ax, .int .i32 ay], .agg #[.int .i32 bx, .int .i32 by_], .agg #[.int .i32 cx, .int .i32 cy], .agg #[.int .i32 dx, .int .i32 dy]] w (MetP (oneK ax ay bx by_ cx cy dx dy) w) := by
 have HI1 := Lib.hid (fun W => in_on h1 W); have HI2 := Lib.hid (fun W => in_on h2 W); have HI3 := Lib.hid (fun W => in_on h3 W); have HI4 := Lib.hid (fun W => in_on h4 W); have HQ := Lib.hid (fun W (hk : Keeps (fun _ => False) (((((w.alloc (.cells #[.int .i32 ax, .int .i32 ay] 37)).alloc (.cells #[.int .i32 bx, .int .i32 by_] 37)).alloc (.cells #[.int .i32 cx, .int .i32 cy] 37)).alloc (.cells #[.int .i32 dx, .int .i32 dy] 37)).alloc (.cells #[.int .u8 0, .bool false, .int .i64 0, .int .i64 0, .int .i64 0, .int .i64 0] 93)) W) => boxO_kd (w := w) (ax := ax) (ay := ay) (bx := bx) (by_ := by_) (cx := cx) (cy := cy) (dx := dx) (dy := dy) hk); have HW := Lib.hid ((((((Keeps.refl (fun _ => False) w).alloc (.cells #[.int .i32 ax, .int .i32 ay] 37)).alloc (.cells #[.int .i32 bx, .int .i32 by_] 37)).alloc (.cells #[.int .i32 cx, .int .i32 cy] 37)).alloc (.cells #[.int .i32 dx, .int .i32 dy] 37)).alloc (.cells #[.int .u8 0, .bool false, .int .i64 0, .int .i64 0, .int .i64 0, .int .i64 0] 93))
 have e1 := eq_pts ax ay bx by_ false ZAY
 have HT1 := Lib.hid (fun W => turn_t ax ay bx by_ cx cy h1 h2 h3 W)
 have HT2 := Lib.hid (fun W => turn_t ax ay bx by_ dx dy h1 h2 h4 W)
 have HO := Lib.hid (fun W => one_t ax ay bx by_ cx cy dx dy h1 h2 h3 h4 hne W)
 have s1 : sg (turnN ax ay bx by_ cx cy) = 0 := sg_zero.2 t1
 have s2 : sg (turnN ax ay bx by_ dx dy) = 0 := sg_zero.2 t2
 clear h1 h2 h3 h4 t1 t2 hne
 go_enter Tryz.func26, Tryz.ntmps26
 go_wp2_with (first
  | (go_at_call 25; (with_reducible first | refine (HI1.out _).mono ?_ | refine (HI2.out _).mono ?_ | refine (HI3.out _).mono ?_ | refine (HI4.out _).mono ?_); rintro e wi ⟨rfl, rfl⟩)
  | (go_at_call 30; (with_reducible refine (HT1.out _).mono ?_); rintro e w1 ⟨rfl, k1⟩; have HK1 := Lib.hid (show Keeps (fun _ => False) (((((w.alloc (.cells #[.int .i32 ax, .int .i32 ay] 37)).alloc (.cells #[.int .i32 bx, .int .i32 by_] 37)).alloc (.cells #[.int .i32 cx, .int .i32 cy] 37)).alloc (.cells #[.int .i32 dx, .int .i32 dy] 37)).alloc (.cells #[.int .u8 0, .bool false, .int .i64 0, .int .i64 0, .int .i64 0, .int .i64 0] 93)) w1 from Keeps.trans Z5 k1); have cX := (HQ.out w1 HK1.out).1; have cY := (HQ.out w1 HK1.out).2.1; have cZ := (HQ.out w1 HK1.out).2.2.1; have cU := (HQ.out w1 HK1.out).2.2.2.1; have cM := (HQ.out w1 HK1.out).2.2.2.2.cell; have fM := (HQ.out w1 HK1.out).2.2.2.2.frozen; clear k1)
  | (go_at_call 30; (with_reducible refine (HT2.out _).mono ?_); rintro e w2 ⟨rfl, k2⟩; have HK2 := Lib.hid (show Keeps (fun _ => False) (((((w.alloc (.cells #[.int .i32 ax, .int .i32 ay] 37)).alloc (.cells #[.int .i32 bx, .int .i32 by_] 37)).alloc (.cells #[.int .i32 cx, .int .i32 cy] 37)).alloc (.cells #[.int .i32 dx, .int .i32 dy] 37)).alloc (.cells #[.int .u8 0, .bool false, .int .i64 0, .int .i64 0, .int .i64 0, .int .i64 0] 93)) w2 from HK1.out.trans k2); clear cX cY cZ cU cM fM; have cX := (HQ.out w2 HK2.out).1; have cY := (HQ.out w2 HK2.out).2.1; have cZ := (HQ.out w2 HK2.out).2.2.1; have cU := (HQ.out w2 HK2.out).2.2.2.1; have cM := (HQ.out w2 HK2.out).2.2.2.2.cell; have fM := (HQ.out w2 HK2.out).2.2.2.2.frozen; clear k2)
  | (go_at_call 31; (with_reducible refine (HO.out _).mono ?_); rintro e w3 ⟨kd, i, m1, m2, m3, m4, rfl, hy, k3⟩; have HY := Lib.hid hy; have HK3 := Lib.hid (HK2.out.trans k3); clear cX cY cZ cU cM fM; have bM := (HQ.out w3 HK3.out).2.2.2.2; have HBM := Lib.hid bM; have cM := bM.cell; have fM := bM.frozen; clear hy k3 bM))
 exact bodyPost_ret (results_m rfl _ _ (w.heap.size + 1 + 1 + 1 + 1) [.int .u8 0, .bool false, .int .i64 0, .int .i64 0, .int .i64 0, .int .i64 0] _ _ _ _ _ _ rfl rfl HBM.out) rfl ⟨_, _, _, _, _, _, rfl, HY.out, keeps_6 (HW.out.trans HK3.out) Z8 _ _ _ _ _ _⟩
theorem meet_pt (ax ay bx by_ cx cy : Int) (h1 : On ax ay) (h2 : On bx by_) (h3 : On cx cy) (hne : ¬ (ax = bx ∧ ay = by_)) (t1 : ¬ turnN ax ay bx by_ cx cy = 0) (w : World) :
 Calls Tryz.prog 26 #[.agg #[.int .i32 ax, .int .i32 ay], .agg #[.int .i32 bx, .int .i32 by_], .agg #[.int .i32 cx, .int .i32 cy], .agg #[.int .i32 cx, .int .i32 cy]] w (MetP False w) := by
 have HI1 := Lib.hid (fun W => in_on h1 W)
 have HI2 := Lib.hid (fun W => in_on h2 W)
 have HI3 := Lib.hid (fun W => in_on h3 W)
 have HQ := Lib.hid (fun W (hk : Keeps (fun _ => False) (((((w.alloc (.cells #[.int .i32 ax, .int .i32 ay] 37)).alloc (.cells #[.int .i32 bx, .int .i32 by_] 37)).alloc (.cells #[.int .i32 cx, .int .i32 cy] 37)).alloc (.cells #[.int .i32 cx, .int .i32 cy] 37)).alloc (.cells #[.int .u8 0, .bool false, .int .i64 0, .int .i64 0, .int .i64 0, .int .i64 0] 93)) W) => boxO_kd (w := w) (ax := ax) (ay := ay) (bx := bx) (by_ := by_) (cx := cx) (cy := cy) (dx := cx) (dy := cy) hk)
 have HW := Lib.hid ((((((Keeps.refl (fun _ => False) w).alloc (.cells #[.int .i32 ax, .int .i32 ay] 37)).alloc (.cells #[.int .i32 bx, .int .i32 by_] 37)).alloc (.cells #[.int .i32 cx, .int .i32 cy] 37)).alloc (.cells #[.int .i32 cx, .int .i32 cy] 37)).alloc (.cells #[.int .u8 0, .bool false, .int .i64 0, .int .i64 0, .int .i64 0, .int .i64 0] 93))
 have e1 := eq_pts ax ay bx by_ false ZAY
 have e2 := eq_pts cx cy cx cy true ZA7
 have HT1 := Lib.hid (fun W => turn_t ax ay bx by_ cx cy h1 h2 h3 W)
 have s1 : ¬ sg (turnN ax ay bx by_ cx cy) = 0 := fun h => t1 (sg_zero.1 h)
 clear h1 h2 h3 t1 hne
 go_enter Tryz.func26, Tryz.ntmps26
 go_wp2_with (first
  | (go_at_call 25; (with_reducible first | refine (HI1.out _).mono ?_ | refine (HI2.out _).mono ?_ | refine (HI3.out _).mono ?_); rintro e wi ⟨rfl, rfl⟩)
  | (go_at_call 30; (with_reducible refine (HT1.out _).mono ?_); rintro e w1 ⟨rfl, k1⟩; have HK1 := Lib.hid (show Keeps (fun _ => False) (((((w.alloc (.cells #[.int .i32 ax, .int .i32 ay] 37)).alloc (.cells #[.int .i32 bx, .int .i32 by_] 37)).alloc (.cells #[.int .i32 cx, .int .i32 cy] 37)).alloc (.cells #[.int .i32 cx, .int .i32 cy] 37)).alloc (.cells #[.int .u8 0, .bool false, .int .i64 0, .int .i64 0, .int .i64 0, .int .i64 0] 93)) w1 from Keeps.trans Z5 k1); have cX := (HQ.out w1 HK1.out).1; have cY := (HQ.out w1 HK1.out).2.1; have cZ := (HQ.out w1 HK1.out).2.2.1; have cU := (HQ.out w1 HK1.out).2.2.2.1; have cM := (HQ.out w1 HK1.out).2.2.2.2.cell; have fM := (HQ.out w1 HK1.out).2.2.2.2.frozen; have HBM := Lib.hid (HQ.out w1 HK1.out).2.2.2.2; clear k1))
 exact bodyPost_ret (results_m rfl _ _ (w.heap.size + 1 + 1 + 1 + 1) [.int .u8 0, .bool false, .int .i64 0, .int .i64 0, .int .i64 0, .int .i64 0] _ _ _ _ _ _ rfl rfl HBM.out) rfl ⟨_, _, _, _, _, _, rfl, ZA7, keeps_6 (HW.out.trans HK1.out) Z8 _ _ _ _ _ _⟩
end Bg
open Go.RowKit
namespace Bg
open Mem Gs Fi
theorem has_t (b : Bx) (px py : Int) (w : World) : Calls Tryz.prog 20 #[.agg #[.int .i32 b.x0, .int .i32 b.y0, .int .i32 b.x1, .int .i32 b.y1], .agg #[.int .i32 px, .int .i32 py]] w fun e w' => e = .returned (.bool (decide (coversP px py b))) ∧ (w.alloc (.cells #[.int .i32 b.x0, .int .i32 b.y0, .int .i32 b.x1, .int .i32 b.y1] 39)).alloc (.cells #[.int .i32 px, .int .i32 py] 37) = w' := by
 unfold coversP
 obtain ⟨x0, y0, x1, y1⟩ := b
 simp only
 by_cases h1 : x0 ≤ px <;> by_cases h2 : px ≤ x1 <;> by_cases h3 : y0 ≤ py <;> by_cases h4 : py ≤ y1
 all_goals
  have g1 := h1
  simp only [h1, h2, h3, h4, and_true, and_false, decide_true, decide_false]
  go_enter Tryz.func20, Tryz.ntmps20
  go_wp2
  go_ret
  exact ⟨rfl, rfl⟩
theorem meets_off1 (b : Bx) (px py qx qy : Int) (hp : ¬ On px py) (w : World) : Calls Tryz.prog 21 #[.agg #[.int .i32 b.x0, .int .i32 b.y0, .int .i32 b.x1, .int .i32 b.y1], .agg #[.int .i32 px, .int .i32 py], .agg #[.int .i32 qx, .int .i32 qy]] w fun e w' => e = .returned (.bool false) ∧ Keeps (fun _ => False) w w' := by
 have z := in_t px py
 simp only [hp, decide_false] at z
 have HI1 := Lib.hid z
 clear hp z
 go_enter Tryz.func21, Tryz.ntmps21
 go_wp2_with (go_at_call 25; (with_reducible refine (HI1.out _).mono ?_); rintro e wi ⟨rfl, rfl⟩)
 go_ret
 exact ⟨rfl, ZAW⟩
theorem meets_off2 (b : Bx) (px py qx qy : Int) (hp : On px py) (hq : ¬ On qx qy) (w : World) : Calls Tryz.prog 21 #[.agg #[.int .i32 b.x0, .int .i32 b.y0, .int .i32 b.x1, .int .i32 b.y1], .agg #[.int .i32 px, .int .i32 py], .agg #[.int .i32 qx, .int .i32 qy]] w fun e w' => e = .returned (.bool false) ∧ Keeps (fun _ => False) w w' := by
 have z := in_t qx qy
 simp only [hq, decide_false] at z
 have HI1 := Lib.hid z
 have HI2 := Lib.hid (fun W => in_on hp W)
 clear hp hq z
 go_enter Tryz.func21, Tryz.ntmps21
 go_wp2_with (first | (go_at_call 25; (with_reducible refine (HI2.out _).mono ?_); rintro e wi ⟨rfl, rfl⟩) | (go_at_call 25; (with_reducible refine (HI1.out _).mono ?_); rintro e wi ⟨rfl, rfl⟩))
 go_ret
 exact ⟨rfl, ZAW⟩
theorem meets_has1 (b : Bx) (px py qx qy : Int) (hp : On px py) (hq : On qx qy) (hc : coversP px py b) (w : World) : Calls Tryz.prog 21 #[.agg #[.int .i32 b.x0, .int .i32 b.y0, .int .i32 b.x1, .int .i32 b.y1], .agg #[.int .i32 px, .int .i32 py], .agg #[.int .i32 qx, .int .i32 qy]] w fun e w' => e = .returned (.bool true) ∧ Keeps (fun _ => False) w w' := by
 have z := has_t b px py
 simp only [hc, decide_true] at z
 have HH1 := Lib.hid z
 have HI1 := Lib.hid (fun W => in_on hp W)
 have HI2 := Lib.hid (fun W => in_on hq W)
 clear hp hq hc z
 go_enter Tryz.func21, Tryz.ntmps21
 go_wp2_with (first | (go_at_call 25; (with_reducible first | refine (HI1.out _).mono ?_ | refine (HI2.out _).mono ?_); rintro e wi ⟨rfl, rfl⟩) | (go_at_call 20; (with_reducible refine (HH1.out _).mono ?_); rintro e wi ⟨rfl, rfl⟩))
 go_ret
 exact ⟨rfl, ZAW⟩
theorem meets_has2 (b : Bx) (px py qx qy : Int) (hp : On px py) (hq : On qx qy) (hc : ¬ coversP px py b) (hd : coversP qx qy b) (w : World) : Calls Tryz.prog 21 #[.agg #[.int .i32 b.x0, .int .i32 b.y0, .int .i32 b.x1, .int .i32 b.y1], .agg #[.int .i32 px, .int .i32 py], .agg #[.int .i32 qx, .int .i32 qy]] w fun e w' => e = .returned (.bool true) ∧ Keeps (fun _ => False) w w' := by
 have z := has_t b px py
 simp only [hc, decide_false] at z
 have z2 := has_t b qx qy
 simp only [hd, decide_true] at z2
 have HH1 := Lib.hid z
 have HH2 := Lib.hid z2
 have HI1 := Lib.hid (fun W => in_on hp W)
 have HI2 := Lib.hid (fun W => in_on hq W)
 clear hp hq hc hd z z2
 go_enter Tryz.func21, Tryz.ntmps21
 go_wp2_with (first | (go_at_call 25; (with_reducible first | refine (HI1.out _).mono ?_ | refine (HI2.out _).mono ?_); rintro e wi ⟨rfl, rfl⟩) | (go_at_call 20; (with_reducible first | refine (HH1.out _).mono ?_ | refine (HH2.out _).mono ?_); rintro e wi ⟨rfl, rfl⟩))
 go_ret
 exact ⟨rfl, ZAW⟩
end Bg
end Go.Proofs.YtdbpfbokfmpgcaaGreat
