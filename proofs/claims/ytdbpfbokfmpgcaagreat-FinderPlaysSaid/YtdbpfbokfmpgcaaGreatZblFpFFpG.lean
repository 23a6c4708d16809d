/-
FpF: fractions in memory: mul, add, sub.
FpG: fractions in memory: quo, cross.
-/
import Derived.Test.YtdbpfbokfmpgcaaGreatZbkFpDFpE
import Derived.Test.YtdbpfbokfmpgcaaGreatZawGsYGsZGtAGtBFpP
set_option linter.unusedVariables false
set_option linter.unusedSimpArgs false
set_option linter.ambiguousOpen false
set_option maxHeartbeats 16000000
attribute [local go_sem] Go.Oper.semAt_some
namespace Go.Proofs.YtdbpfbokfmpgcaaGreat
theorem Z3 {p : Prop} (h : p := by (repeat (first | with_reducible exact Keeps.refl _ _ | with_reducible refine Keeps.trans ?_ (stw _ _).2 | refine Keeps.drew ?_ | refine Keeps.alloc ?_ _ | with_reducible refine Keeps.trans ?_ HK5.out | with_reducible refine Keeps.trans ?_ HK4.out | with_reducible refine Keeps.trans ?_ HK6.out | with_reducible refine Keeps.trans ?_ HK7.out | with_reducible refine Keeps.trans ?_ HK8.out | with_reducible refine Keeps.trans ?_ HK9.out | refine Keeps.setCell ?_ (by simp) _))) : p := h
theorem ZBA {p : Prop} (h : p := by exact Keeps.trans ((((Keeps.refl (fun _ => False) w).alloc _).alloc _).alloc _) Z3) : p := h
open Go.RowKit
namespace Bg
open Mem
theorem mul_t (p1 q1 p2 q2 : QV) (x1 y1 x2 y2 : Int) (k1 k2 : Nat) (w : World) (h1 : Wq w p1 x1 k1) (h2 : Wq w q1 y1 k1) (h3 : Wq w p2 x2 k2) (h4 : Wq w q2 y2 k2) (hk : k1 + k2 ≤ 1000) :
 Calls Tryz.prog 41 #[.agg #[.bool p1.m, .slice p1.a p1.n p1.c, .bool q1.m, .slice q1.a q1.n q1.c], .agg #[.bool p2.m, .slice p2.a p2.n p2.c, .bool q2.m, .slice q2.a q2.n q2.c]] w (GaveF (x1 * x2) (y1 * y2) (k1 + k2) w) := by
 have HT1 := Lib.hid (fun W (hk' : Keeps (fun _ => False) w W) => tm_t p1 p2 x1 x2 k1 k2 W (h1.kd hk') (h3.kd hk') Z8)
 have HT2 := Lib.hid (fun W (hk' : Keeps (fun _ => False) w W) => tm_t q1 q2 y1 y2 k1 k2 W (h2.kd hk') (h4.kd hk') Z8)
 have HQ := Lib.hid (fun W (hk : Keeps (fun _ => False) ((w.alloc (.cells #[.bool p1.m, .slice p1.a p1.n p1.c, .bool q1.m, .slice q1.a q1.n q1.c] 103)).alloc (.cells #[.bool p2.m, .slice p2.a p2.n p2.c, .bool q2.m, .slice q2.a q2.n q2.c] 103)) W) => boxF_kd (w := w) (p1 := p1) (q1 := q1) (p2 := p2) (q2 := q2) hk); have HR := Lib.hid (fun W (hk : Keeps (fun _ => False) (((w.alloc (.cells #[.bool p1.m, .slice p1.a p1.n p1.c, .bool q1.m, .slice q1.a q1.n q1.c] 103)).alloc (.cells #[.bool p2.m, .slice p2.a p2.n p2.c, .bool q2.m, .slice q2.a q2.n q2.c] 103)).alloc (.cells #[.bool false, .slice none 0 0, .bool false, .slice none 0 0] 103)) W) => boxG_kd (w := w) (p1 := p1) (q1 := q1) (p2 := p2) (q2 := q2) hk)
 clear h1 h2 h3 h4 hk
 go_enter Tryz.func41, Tryz.ntmps41
 go_wp2
 go_region_held3 (fun W => (∀ i : Nat, W.cell? ⟨w.heap.size, i, none⟩ = ([.bool p1.m, .slice p1.a p1.n p1.c, .bool q1.m, .slice q1.a q1.n q1.c] : List Value)[i]?) ∧ (∀ i : Nat, W.cell? ⟨w.heap.size + 1, i, none⟩ = ([.bool p2.m, .slice p2.a p2.n p2.c, .bool q2.m, .slice q2.a q2.n q2.c] : List Value)[i]?)) (first | with_reducible assumption | exact HQ.out _ Z2) (first
  | (go_at_call 43; (with_reducible refine (HT1.out _ ZA8).mono ?_); intro e w5 h5; obtain ⟨r5, rfl, k5, z5⟩ := h5.q; have HK5 := Lib.hid k5; have HZ5 := Lib.hid z5; clear k5 z5 h5; have cg := (HR.out w5 Z2).cell; have fg := (HR.out w5 Z2).frozen)
  | (go_at_call 43; (with_reducible refine (HT2.out _ ZA8).mono ?_); intro e w6 h6; obtain ⟨r6, rfl, k6, z6⟩ := h6.q; have HK6 := Lib.hid k6; have HZ6 := Lib.hid z6; clear k6 z6 h6; have cg := (HR.out w6 Z2).cell; have fg := (HR.out w6 Z2).frozen))
 all_goals
  go_wp2
  exact bodyPost_ret (results_f rfl _ _ (w.heap.size + 2) [.bool false, .slice none 0 0, .bool false, .slice none 0 0] r5 r6 rfl rfl (HR.out _ Z2)) rfl (gave_store4 (HR.out _ Z2) Z8 (Keeps.trans ((((Keeps.refl (fun _ => False) w).alloc _).alloc _).alloc _) Z2) ((HZ5.out.kd Z2).more Z8) ((HZ6.out.kd Z2).more Z8))
theorem add_t (p1 q1 p2 q2 : QV) (x1 y1 x2 y2 : Int) (k1 k2 : Nat) (w : World) (h1 : Wq w p1 x1 k1) (h2 : Wq w q1 y1 k1) (h3 : Wq w p2 x2 k2) (h4 : Wq w q2 y2 k2) (hk : k1 + k2 ≤ 1000) :
 Calls Tryz.prog 48 #[.agg #[.bool p1.m, .slice p1.a p1.n p1.c, .bool q1.m, .slice q1.a q1.n q1.c], .agg #[.bool p2.m, .slice p2.a p2.n p2.c, .bool q2.m, .slice q2.a q2.n q2.c]] w (GaveF (x1 * y2 + x2 * y1) (y1 * y2) (k1 + k2 + (k2 + k1) + 1) w) := by
 have HT1 := Lib.hid (fun W (hk' : Keeps (fun _ => False) w W) => tm_t p1 q2 x1 y2 k1 k2 W (h1.kd hk') (h4.kd hk') Z8)
 have HT2 := Lib.hid (fun W (hk' : Keeps (fun _ => False) w W) => tm_t p2 q1 x2 y1 k2 k1 W (h3.kd hk') (h2.kd hk') Z8)
 have HT3 := Lib.hid (fun W (hk' : Keeps (fun _ => False) w W) => tm_t q1 q2 y1 y2 k1 k2 W (h2.kd hk') (h4.kd hk') Z8)
 have HP := Lib.hid (fun r s W (hr : Wq W r (x1 * y2) (k1 + k2)) (hs : Wq W s (x2 * y1) (k2 + k1)) => pl_t r s _ _ _ _ W hr hs Z8)
 have HQ := Lib.hid (fun W (hk : Keeps (fun _ => False) ((w.alloc (.cells #[.bool p1.m, .slice p1.a p1.n p1.c, .bool q1.m, .slice q1.a q1.n q1.c] 103)).alloc (.cells #[.bool p2.m, .slice p2.a p2.n p2.c, .bool q2.m, .slice q2.a q2.n q2.c] 103)) W) => boxF_kd (w := w) (p1 := p1) (q1 := q1) (p2 := p2) (q2 := q2) hk); have HR := Lib.hid (fun W (hk : Keeps (fun _ => False) (((w.alloc (.cells #[.bool p1.m, .slice p1.a p1.n p1.c, .bool q1.m, .slice q1.a q1.n q1.c] 103)).alloc (.cells #[.bool p2.m, .slice p2.a p2.n p2.c, .bool q2.m, .slice q2.a q2.n q2.c] 103)).alloc (.cells #[.bool false, .slice none 0 0, .bool false, .slice none 0 0] 103)) W) => boxG_kd (w := w) (p1 := p1) (q1 := q1) (p2 := p2) (q2 := q2) hk)
 clear h1 h2 h3 h4 hk
 go_enter Tryz.func48, Tryz.ntmps48
 go_wp2
 go_region_held3 (fun W => (∀ i : Nat, W.cell? ⟨w.heap.size, i, none⟩ = ([.bool p1.m, .slice p1.a p1.n p1.c, .bool q1.m, .slice q1.a q1.n q1.c] : List Value)[i]?) ∧ (∀ i : Nat, W.cell? ⟨w.heap.size + 1, i, none⟩ = ([.bool p2.m, .slice p2.a p2.n p2.c, .bool q2.m, .slice q2.a q2.n q2.c] : List Value)[i]?)) (first | with_reducible assumption | exact HQ.out _ Z2) (first
  | (go_at_call 43; (with_reducible refine (HT1.out _ ZA8).mono ?_); intro e w5 h5; obtain ⟨r5, rfl, k5, z5⟩ := h5.q; have HK5 := Lib.hid k5; have HZ5 := Lib.hid z5; clear k5 z5 h5; have cg := (HR.out w5 Z2).cell; have fg := (HR.out w5 Z2).frozen)
  | (go_at_call 43; (with_reducible refine (HT2.out _ ZA8).mono ?_); intro e w6 h6; obtain ⟨r6, rfl, k6, z6⟩ := h6.q; have HK6 := Lib.hid k6; have HZ6 := Lib.hid z6; clear k6 z6 h6; have cg := (HR.out w6 Z2).cell; have fg := (HR.out w6 Z2).frozen)
  | (go_at_call 43; (with_reducible refine (HT3.out _ ZA8).mono ?_); intro e w7 h7; obtain ⟨r7, rfl, k7, z7⟩ := h7.q; have HK7 := Lib.hid k7; have HZ7 := Lib.hid z7; clear k7 z7 h7; have cg := (HR.out w7 Z2).cell; have fg := (HR.out w7 Z2).frozen)
  | (go_at_call 46; (with_reducible refine (HP.out r5 r6 _ (HZ5.out.kd Z2) (HZ6.out.kd Z2)).mono ?_); intro e w8 h8; obtain ⟨r8, rfl, k8, z8⟩ := h8.q; have HK8 := Lib.hid k8; have HZ8 := Lib.hid z8; clear k8 z8 h8; have cg := (HR.out w8 Z2).cell; have fg := (HR.out w8 Z2).frozen))
 all_goals
  go_wp2
  exact bodyPost_ret (results_f rfl _ _ (w.heap.size + 2) [.bool false, .slice none 0 0, .bool false, .slice none 0 0] r8 r7 rfl rfl (HR.out _ Z2)) rfl (gave_store4 (HR.out _ Z2) Z8 (Keeps.trans ((((Keeps.refl (fun _ => False) w).alloc _).alloc _).alloc _) Z2) ((HZ8.out.kd Z2).more Z8) ((HZ7.out.kd Z2).more Z8))
theorem sub_t (p1 q1 p2 q2 : QV) (x1 y1 x2 y2 : Int) (k1 k2 : Nat) (w : World) (h1 : Wq w p1 x1 k1) (h2 : Wq w q1 y1 k1) (h3 : Wq w p2 x2 k2) (h4 : Wq w q2 y2 k2) (hk : k1 + k2 ≤ 1000) :
 Calls Tryz.prog 40 #[.agg #[.bool p1.m, .slice p1.a p1.n p1.c, .bool q1.m, .slice q1.a q1.n q1.c], .agg #[.bool p2.m, .slice p2.a p2.n p2.c, .bool q2.m, .slice q2.a q2.n q2.c]] w (GaveF (x1 * y2 + -x2 * y1) (y1 * y2) (k1 + k2 + (k2 + k1) + 1) w) := by
 have HO := Lib.hid (fun W (hk' : Keeps (fun _ => False) w W) => ot_t p2 x2 k2 W (h3.kd hk') Z8)
 have HA := Lib.hid (fun r W (hk' : Keeps (fun _ => False) w W) (hr : Wq W r (-x2) k2) => add_t p1 q1 r q2 x1 y1 (-x2) y2 k1 k2 W (h1.kd hk') (h2.kd hk') hr (h4.kd hk') Z8)
 have HQ := Lib.hid (fun W (hk : Keeps (fun _ => False) ((w.alloc (.cells #[.bool p1.m, .slice p1.a p1.n p1.c, .bool q1.m, .slice q1.a q1.n q1.c] 103)).alloc (.cells #[.bool p2.m, .slice p2.a p2.n p2.c, .bool q2.m, .slice q2.a q2.n q2.c] 103)) W) => boxF_kd (w := w) (p1 := p1) (q1 := q1) (p2 := p2) (q2 := q2) hk); have HR := Lib.hid (fun W (hk : Keeps (fun _ => False) (((w.alloc (.cells #[.bool p1.m, .slice p1.a p1.n p1.c, .bool q1.m, .slice q1.a q1.n q1.c] 103)).alloc (.cells #[.bool p2.m, .slice p2.a p2.n p2.c, .bool q2.m, .slice q2.a q2.n q2.c] 103)).alloc (.cells #[.bool false, .slice none 0 0, .bool false, .slice none 0 0] 103)) W) => boxG_kd (w := w) (p1 := p1) (q1 := q1) (p2 := p2) (q2 := q2) hk)
 clear h1 h2 h3 h4 hk
 go_enter Tryz.func40, Tryz.ntmps40
 go_wp2
 go_region_held3 (fun W => (∀ i : Nat, W.cell? ⟨w.heap.size, i, none⟩ = ([.bool p1.m, .slice p1.a p1.n p1.c, .bool q1.m, .slice q1.a q1.n q1.c] : List Value)[i]?) ∧ (∀ i : Nat, W.cell? ⟨w.heap.size + 1, i, none⟩ = ([.bool p2.m, .slice p2.a p2.n p2.c, .bool q2.m, .slice q2.a q2.n q2.c] : List Value)[i]?)) (first | with_reducible assumption | exact HQ.out _ Z2) (first
  | (go_at_call 44; (with_reducible refine (HO.out _ ZA8).mono ?_); intro e w5 h5; obtain ⟨r5, rfl, k5, z5⟩ := h5.q; have HK5 := Lib.hid k5; have HZ5 := Lib.hid z5; clear k5 z5 h5; have cg := (HR.out w5 Z2).cell; have fg := (HR.out w5 Z2).frozen)
  | (go_at_call 48; (with_reducible refine (HA.out r5 _ ZA8 (HZ5.out.kd Z2)).mono ?_); rintro e w6 ⟨r6, r7, rfl, k6, z6, z7⟩; have HK6 := Lib.hid k6; have HZ6 := Lib.hid z6; have HZ7 := Lib.hid z7; clear k6 z6 z7; have cg := (HR.out w6 Z2).cell; have fg := (HR.out w6 Z2).frozen))
 all_goals
  go_wp2
  exact bodyPost_ret (results_f rfl _ _ (w.heap.size + 2) [.bool false, .slice none 0 0, .bool false, .slice none 0 0] r6 r7 rfl rfl (HR.out _ Z2)) rfl (gave_store4 (HR.out _ Z2) Z8 (Keeps.trans ((((Keeps.refl (fun _ => False) w).alloc _).alloc _).alloc _) Z2) ((HZ6.out.kd Z2).more Z8) ((HZ7.out.kd Z2).more Z8))
end Bg
open Go.RowKit
namespace Bg
open Mem
theorem stw (W : World) (r : QV) : Blk (W.alloc (.cells #[.bool r.m, .slice r.a r.n r.c] 101)) W.heap.size 101 [.bool r.m, .slice r.a r.n r.c] ∧ Keeps (fun _ => False) W (W.alloc (.cells #[.bool r.m, .slice r.a r.n r.c] 101)) :=
 ⟨Blk.new W 101 [.bool r.m, .slice r.a r.n r.c], (Keeps.refl _ W).alloc _⟩
theorem quo_pos (p1 q1 p2 q2 : QV) (x1 y1 x2 y2 : Int) (k1 k2 : Nat) (w : World) (h1 : Wq w p1 x1 k1) (h2 : Wq w q1 y1 k1) (h3 : Wq w p2 x2 k2) (h4 : Wq w q2 y2 k2) (hk : k1 + k2 ≤ 1000) (hd : ¬ y1 * x2 < 0) :
 Calls Tryz.prog 34 #[.agg #[.bool p1.m, .slice p1.a p1.n p1.c, .bool q1.m, .slice q1.a q1.n q1.c], .agg #[.bool p2.m, .slice p2.a p2.n p2.c, .bool q2.m, .slice q2.a q2.n q2.c]] w (GaveF (x1 * y2) (y1 * x2) (k1 + k2) w) := by
 have HT1 := Lib.hid (fun W (hk' : Keeps (fun _ => False) w W) => tm_t p1 q2 x1 y2 k1 k2 W (h1.kd hk') (h4.kd hk') Z8)
 have HT2 := Lib.hid (fun W (hk' : Keeps (fun _ => False) w W) => tm_t q1 p2 y1 x2 k1 k2 W (h2.kd hk') (h3.kd hk') Z8)
 have HD := Lib.hid hd
 have HQ := Lib.hid (fun W (hk : Keeps (fun _ => False) ((w.alloc (.cells #[.bool p1.m, .slice p1.a p1.n p1.c, .bool q1.m, .slice q1.a q1.n q1.c] 103)).alloc (.cells #[.bool p2.m, .slice p2.a p2.n p2.c, .bool q2.m, .slice q2.a q2.n q2.c] 103)) W) => boxF_kd (w := w) (p1 := p1) (q1 := q1) (p2 := p2) (q2 := q2) hk); have HR := Lib.hid (fun W (hk : Keeps (fun _ => False) (((w.alloc (.cells #[.bool p1.m, .slice p1.a p1.n p1.c, .bool q1.m, .slice q1.a q1.n q1.c] 103)).alloc (.cells #[.bool p2.m, .slice p2.a p2.n p2.c, .bool q2.m, .slice q2.a q2.n q2.c] 103)).alloc (.cells #[.bool false, .slice none 0 0, .bool false, .slice none 0 0] 103)) W) => boxG_kd (w := w) (p1 := p1) (q1 := q1) (p2 := p2) (q2 := q2) hk)
 have cq := (HQ.out (((w.alloc (.cells #[.bool p1.m, .slice p1.a p1.n p1.c, .bool q1.m, .slice q1.a q1.n q1.c] 103)).alloc (.cells #[.bool p2.m, .slice p2.a p2.n p2.c, .bool q2.m, .slice q2.a q2.n q2.c] 103)).alloc (.cells #[.bool false, .slice none 0 0, .bool false, .slice none 0 0] 103)) Z3).1
 have cp := (HQ.out (((w.alloc (.cells #[.bool p1.m, .slice p1.a p1.n p1.c, .bool q1.m, .slice q1.a q1.n q1.c] 103)).alloc (.cells #[.bool p2.m, .slice p2.a p2.n p2.c, .bool q2.m, .slice q2.a q2.n q2.c] 103)).alloc (.cells #[.bool false, .slice none 0 0, .bool false, .slice none 0 0] 103)) Z3).2
 clear h1 h2 h3 h4 hk hd
 go_enter Tryz.func34, Tryz.ntmps34
 go_wp2_with (first
  | (go_at_call 43; (with_reducible refine (HT1.out _ ZBA).mono ?_); intro e w4 h4; obtain ⟨r4, rfl, k4, z4⟩ := h4.q; have HK4 := Lib.hid k4; have HZ4 := Lib.hid z4; have HJ4 := Lib.hid (show Keeps (fun _ => False) (((w.alloc (.cells #[.bool p1.m, .slice p1.a p1.n p1.c, .bool q1.m, .slice q1.a q1.n q1.c] 103)).alloc (.cells #[.bool p2.m, .slice p2.a p2.n p2.c, .bool q2.m, .slice q2.a q2.n q2.c] 103)).alloc (.cells #[.bool false, .slice none 0 0, .bool false, .slice none 0 0] 103)) w4 from Keeps.trans Z3 k4); have cq := (HQ.out (w4.alloc (.cells #[.bool r4.m, .slice r4.a r4.n r4.c] 101)) Z3).1; have cp := (HQ.out (w4.alloc (.cells #[.bool r4.m, .slice r4.a r4.n r4.c] 101)) Z3).2; clear k4 z4 h4)
  | (go_at_call 43; (with_reducible refine (HT2.out _ ZBA).mono ?_); intro e w6 h6; obtain ⟨m6, a6, n6, c6, rfl, k6, z6⟩ := h6; have hm : m6 = false := (by rw [z6.neg_]; simp [HD.out]); subst hm; have HK6 := Lib.hid k6; have HZ6 := Lib.hid (show Wq w6 ⟨false, a6, n6, c6⟩ _ _ from z6); have d4 := ((stw w4 r4).1.keeps (S := fun _ => False) (w' := (w6.alloc (.cells #[.bool false, .slice a6 n6 c6] 101))) Z3 (fun h => h)).cell; have d6 := (Blk.new w6 101 [.bool false, .slice a6 n6 c6]).cell; have cg := (HR.out (w6.alloc (.cells #[.bool false, .slice a6 n6 c6] 101)) Z3).cell; have fg := (HR.out (w6.alloc (.cells #[.bool false, .slice a6 n6 c6] 101)) Z3).frozen; clear cq cp k6 z6))
 exact bodyPost_ret (results_f rfl _ _ (w.heap.size + 2) [.bool false, .slice none 0 0, .bool false, .slice none 0 0] r4 ⟨false, a6, n6, c6⟩ rfl rfl (HR.out _ Z3)) rfl (gave_store4 (q := ⟨false, a6, n6, c6⟩) (HR.out _ Z3) Z8 (ZBA) (HZ4.out.kd Z3) ((HZ6.out.kd Z3).more Z8))
theorem sq_kd {w4 w6 : World} {r4 : QV} {a6 : Option Addr} {n6 c6 : Nat} (k6 : Keeps (fun _ => False) (w4.alloc (.cells #[.bool r4.m, .slice r4.a r4.n r4.c] 101)) w6) {g : Nat} (hg : g < w4.heap.size) {W : World} (hk : Keeps (fun k => k = g) (w6.alloc (.cells #[.bool true, .slice a6 n6 c6] 101)) W) : (∀ i : Nat, W.cell? ⟨w4.heap.size, i, none⟩ = ([.bool r4.m, .slice r4.a r4.n r4.c] : List Value)[i]?) ∧ (∀ i : Nat, W.cell? ⟨w6.heap.size, i, none⟩ = ([.bool true, .slice a6 n6 c6] : List Value)[i]?) := by
 have hz := k6.size
 simp only [World.size_alloc] at hz
 exact ⟨(((stw w4 r4).1.keeps k6 (fun h => h)).keeps (((Keeps.refl _ w6).alloc _).trans hk) Z8).cell, ((Blk.new w6 101 [.bool true, .slice a6 n6 c6]).keeps hk Z8).cell⟩
theorem k0 {S : Nat → Prop} {w w' : World} (h : Keeps (fun _ => False) w w') : Keeps S w w' := h.mono (fun _ _ h => h.elim)
theorem quo_neg (p1 q1 p2 q2 : QV) (x1 y1 x2 y2 : Int) (k1 k2 : Nat) (w : World) (h1 : Wq w p1 x1 k1) (h2 : Wq w q1 y1 k1) (h3 : Wq w p2 x2 k2) (h4 : Wq w q2 y2 k2) (hk : k1 + k2 ≤ 1000) (hd : y1 * x2 < 0) :
 Calls Tryz.prog 34 #[.agg #[.bool p1.m, .slice p1.a p1.n p1.c, .bool q1.m, .slice q1.a q1.n q1.c], .agg #[.bool p2.m, .slice p2.a p2.n p2.c, .bool q2.m, .slice q2.a q2.n q2.c]] w (GaveF (-(x1 * y2)) (-(y1 * x2)) (k1 + k2) w) := by
 have HT1 := Lib.hid (fun W (hk' : Keeps (fun _ => False) w W) => tm_t p1 q2 x1 y2 k1 k2 W (h1.kd hk') (h4.kd hk') Z8)
 have HT2 := Lib.hid (fun W (hk' : Keeps (fun _ => False) w W) => tm_t q1 p2 y1 x2 k1 k2 W (h2.kd hk') (h3.kd hk') Z8)
 have HD := Lib.hid hd
 have HO := Lib.hid (fun r z W (hz : Wq W r z (k1 + k2)) => ot_t r z (k1 + k2) W hz Z8)
 have HQ := Lib.hid (fun W (hk : Keeps (fun _ => False) ((w.alloc (.cells #[.bool p1.m, .slice p1.a p1.n p1.c, .bool q1.m, .slice q1.a q1.n q1.c] 103)).alloc (.cells #[.bool p2.m, .slice p2.a p2.n p2.c, .bool q2.m, .slice q2.a q2.n q2.c] 103)) W) => boxF_kd (w := w) (p1 := p1) (q1 := q1) (p2 := p2) (q2 := q2) hk); have HR := Lib.hid (fun W (hk : Keeps (fun _ => False) (((w.alloc (.cells #[.bool p1.m, .slice p1.a p1.n p1.c, .bool q1.m, .slice q1.a q1.n q1.c] 103)).alloc (.cells #[.bool p2.m, .slice p2.a p2.n p2.c, .bool q2.m, .slice q2.a q2.n q2.c] 103)).alloc (.cells #[.bool false, .slice none 0 0, .bool false, .slice none 0 0] 103)) W) => boxG_kd (w := w) (p1 := p1) (q1 := q1) (p2 := p2) (q2 := q2) hk)
 have cq := (HQ.out (((w.alloc (.cells #[.bool p1.m, .slice p1.a p1.n p1.c, .bool q1.m, .slice q1.a q1.n q1.c] 103)).alloc (.cells #[.bool p2.m, .slice p2.a p2.n p2.c, .bool q2.m, .slice q2.a q2.n q2.c] 103)).alloc (.cells #[.bool false, .slice none 0 0, .bool false, .slice none 0 0] 103)) Z3).1
 have cp := (HQ.out (((w.alloc (.cells #[.bool p1.m, .slice p1.a p1.n p1.c, .bool q1.m, .slice q1.a q1.n q1.c] 103)).alloc (.cells #[.bool p2.m, .slice p2.a p2.n p2.c, .bool q2.m, .slice q2.a q2.n q2.c] 103)).alloc (.cells #[.bool false, .slice none 0 0, .bool false, .slice none 0 0] 103)) Z3).2
 clear h1 h2 h3 h4 hk hd
 go_enter Tryz.func34, Tryz.ntmps34
 go_wp2_with (first
  | (go_at_call 43; (with_reducible refine (HT1.out _ ZBA).mono ?_); intro e w4 h4; obtain ⟨r4, rfl, k4, z4⟩ := h4.q; have HK4 := Lib.hid k4; have HZ4 := Lib.hid z4; have HJ4 := Lib.hid (show Keeps (fun _ => False) (((w.alloc (.cells #[.bool p1.m, .slice p1.a p1.n p1.c, .bool q1.m, .slice q1.a q1.n q1.c] 103)).alloc (.cells #[.bool p2.m, .slice p2.a p2.n p2.c, .bool q2.m, .slice q2.a q2.n q2.c] 103)).alloc (.cells #[.bool false, .slice none 0 0, .bool false, .slice none 0 0] 103)) w4 from Keeps.trans Z3 k4); have cq := (HQ.out (w4.alloc (.cells #[.bool r4.m, .slice r4.a r4.n r4.c] 101)) Z3).1; have cp := (HQ.out (w4.alloc (.cells #[.bool r4.m, .slice r4.a r4.n r4.c] 101)) Z3).2; clear k4 z4 h4)
  | (go_at_call 43; (with_reducible refine (HT2.out _ ZBA).mono ?_); intro e w6 h6; obtain ⟨m6, a6, n6, c6, rfl, k6, z6⟩ := h6; have hm : m6 = true := (by rw [z6.neg_]; simp [HD.out]); subst hm; have HK6 := Lib.hid k6; have HZ6 := Lib.hid (show Wq w6 ⟨true, a6, n6, c6⟩ _ _ from z6); have d4 := ((stw w4 r4).1.keeps (S := fun _ => False) (w' := (w6.alloc (.cells #[.bool true, .slice a6 n6 c6] 101))) Z3 (fun h => h)).cell; have d6 := (Blk.new w6 101 [.bool true, .slice a6 n6 c6]).cell; have cg := (HR.out (w6.alloc (.cells #[.bool true, .slice a6 n6 c6] 101)) Z3).cell; have fg := (HR.out (w6.alloc (.cells #[.bool true, .slice a6 n6 c6] 101)) Z3).frozen; clear cq cp k6 z6))
 have HS := Lib.hid (fun W (hk : Keeps (fun k => k = w.heap.size + 2) (w6.alloc (.cells #[.bool true, .slice a6 n6 c6] 101)) W) => sq_kd (r4 := r4) HK6.out (by have := HJ4.out.size; simp only [World.size_alloc] at this; omega) hk)
 clear d4 d6 cg fg
 go_region_held3 (fun W => (∀ i : Nat, W.cell? ⟨w4.heap.size, i, none⟩ = ([.bool r4.m, .slice r4.a r4.n r4.c] : List Value)[i]?) ∧ (∀ i : Nat, W.cell? ⟨w6.heap.size, i, none⟩ = ([.bool true, .slice a6 n6 c6] : List Value)[i]?)) (first | with_reducible assumption | exact HS.out _ (by (repeat (first | with_reducible exact Keeps.refl _ _ | refine Keeps.drew ?_ | refine Keeps.alloc ?_ _ | with_reducible refine Keeps.trans ?_ (k0 HK7.out) | with_reducible refine Keeps.trans ?_ (k0 HK8.out) | refine Keeps.setCell ?_ (by exact fun _ => rfl) _)))) (first
  | (go_at_call 44; (with_reducible refine (HO.out r4 _ _ (HZ4.out.kd Z3)).mono ?_); intro e w7 h7; obtain ⟨r7, rfl, k7, z7⟩ := h7.q; have HK7 := Lib.hid k7; have HZ7 := Lib.hid z7; clear k7 z7 h7; have cg := (HR.out w7 Z3).cell; have fg := (HR.out w7 Z3).frozen)
  | (go_at_call 44; (with_reducible refine (HO.out ⟨true, a6, n6, c6⟩ _ _ (HZ6.out.kd Z3)).mono ?_); intro e w8 h8; obtain ⟨r8, rfl, k8, z8⟩ := h8.q; have HK8 := Lib.hid k8; have HZ8 := Lib.hid z8; clear k8 z8 h8; have cg := (HR.out w8 Z3).cell; have fg := (HR.out w8 Z3).frozen))
 all_goals
  go_wp2
  exact bodyPost_ret (results_f rfl _ _ (w.heap.size + 2) [.bool false, .slice none 0 0, .bool false, .slice none 0 0] r7 r8 rfl rfl (HR.out _ Z3)) rfl (gave_store4 (HR.out _ Z3) Z8 (ZBA) ((HZ7.out.kd Z3).more Z8) ((HZ8.out.kd Z3).more Z8))
theorem quo_t (p1 q1 p2 q2 : QV) (x1 y1 x2 y2 : Int) (k1 k2 : Nat) (w : World) (h1 : Wq w p1 x1 k1) (h2 : Wq w q1 y1 k1) (h3 : Wq w p2 x2 k2) (h4 : Wq w q2 y2 k2) (hk : k1 + k2 ≤ 1000) :
 Calls Tryz.prog 34 #[.agg #[.bool p1.m, .slice p1.a p1.n p1.c, .bool q1.m, .slice q1.a q1.n q1.c], .agg #[.bool p2.m, .slice p2.a p2.n p2.c, .bool q2.m, .slice q2.a q2.n q2.c]] w (GaveF (Fi.q2 (x1 * y2) (y1 * x2)).1 (Fi.q2 (x1 * y2) (y1 * x2)).2 (k1 + k2) w) := by
 unfold Fi.q2
 by_cases hd : y1 * x2 < 0
 ·rw [if_pos hd]; exact quo_neg p1 q1 p2 q2 x1 y1 x2 y2 k1 k2 w h1 h2 h3 h4 hk hd
 ·rw [if_neg hd]; exact quo_pos p1 q1 p2 q2 x1 y1 x2 y2 k1 k2 w h1 h2 h3 h4 hk hd
end Bg
end Go.Proofs.YtdbpfbokfmpgcaaGreat
