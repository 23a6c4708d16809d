/-
GtD: GridMisses where there is no grid, or a place off the lattice.
-/
import Derived.Test.YtppiohmnbffndaaZbeGsZGtAGtBGtC
import Derived.Test.YtppiohmnbffndaaZbcGrKGsX
namespace Go.Proofs.Ytppiohmnbffndaa
open Go.RowKit Go.Shelf
set_option linter.unusedVariables false
set_option linter.unusedSimpArgs false
set_option linter.ambiguousOpen false
attribute [local go_sem] Oper.semAt_some
namespace Gs
open Mem Gr
set_option maxHeartbeats 4000000 in
set_option maxRecDepth 100000 in
theorem misses_nosize (w : World) (s : Int) (a : Option Addr) (rows : List Bx) (cap : Nat) (px py qx qy : Int) (wh : Nat) (hs : ¬ Size s) :
    Calls Try.prog 3 #[.agg #[.int .i64 s, .slice a rows.length cap, .int .i32 px, .int .i32 py, .int .i32 qx, .int .i32 qy, .int .u8 (wh : Int)]] w (fun e w' => e = .returned (.bool true) ∧ Keeps (fun k => w.heap.size ≤ k) w w') := by
  (have b1 := Blk.new w 26 [.int .i64 s, .slice a rows.length cap, .int .i32 px, .int .i32 py, .int .i32 qx, .int .i32 qy, .int .u8 (wh : Int)]; have k1 : Keeps (fun _ => False) w (w.alloc (.cells #[.int .i64 s, .slice a rows.length cap, .int .i32 px, .int .i32 py, .int .i32 qx, .int .i32 qy, .int .u8 (wh : Int)] 26)) := (Keeps.refl _ w).alloc _; have HB := Lib.hid (And.intro b1 k1); have cA := b1.cell; clear b1 k1; go_enter Try.func3, Try.ntmps3)
  go_wp2_with (first
    | (go_at_call 6; (first | (have := HK1; (with_reducible refine (new_no _ s hs).mono ?_); rintro e w2 ⟨rfl, hk2⟩; have HK2 := Lib.hid (HK1.out.trans hk2); clear hk2) | ((with_reducible refine (new_no _ s hs).mono ?_); rintro e w1 ⟨rfl, hk1⟩; have HK1 := Lib.hid (HB.out.2.trans hk1); have cA1 := (HB.out.1.keeps hk1 (fun h => h)).cell; clear hk1 cA)))
    | (go_at_call 8; (with_reducible refine (works_yes _).mono ?_); rintro e w3 ⟨rfl, hk3⟩; have HK3 := Lib.hid (HK2.out.trans hk3); clear hk3))
  go_ret
  exact ⟨rfl, HK3.out.mono (fun _ _ h => h.elim)⟩
set_option maxHeartbeats 4000000 in
set_option maxRecDepth 100000 in
theorem misses_offp (w : World) (s : Int) (a : Option Addr) (rows : List Bx) (cap : Nat) (px py qx qy : Int) (wh : Nat) (hs : Size s) (hp : ¬ On px py) :
    Calls Try.prog 3 #[.agg #[.int .i64 s, .slice a rows.length cap, .int .i32 px, .int .i32 py, .int .i32 qx, .int .i32 qy, .int .u8 (wh : Int)]] w (fun e w' => e = .returned (.bool true) ∧ Keeps (fun k => w.heap.size ≤ k) w w') := by
  have z1 := inside_t px py
  simp only [hp, decide_false] at z1
  (have b1 := Blk.new w 26 [.int .i64 s, .slice a rows.length cap, .int .i32 px, .int .i32 py, .int .i32 qx, .int .i32 qy, .int .u8 (wh : Int)]; have k1 : Keeps (fun _ => False) w (w.alloc (.cells #[.int .i64 s, .slice a rows.length cap, .int .i32 px, .int .i32 py, .int .i32 qx, .int .i32 qy, .int .u8 (wh : Int)] 26)) := (Keeps.refl _ w).alloc _; have HB := Lib.hid (And.intro b1 k1); have cA := b1.cell; clear b1 k1; go_enter Try.func3, Try.ntmps3)
  go_wp2_with (first
    | (go_at_call 6; (first | (have := HK1; (with_reducible refine (gd_new _ s hs).mono ?_); rintro e w2 ⟨Gh, FH, rfl, hg2, hk2, hf2⟩; have HG2 := Lib.hid (And.intro hg2 (And.intro hk2 hf2)); have HK2 := Lib.hid (HK1.out.trans hk2); have cA2 := (HB.out.1.keeps ((HK1B.out).trans hk2) (fun h => h)).cell; clear hg2 hk2 hf2 cA1) | ((with_reducible refine (gd_new _ s hs).mono ?_); rintro e w1 ⟨Gg, FG, rfl, hg1, hk1, hf1⟩; have HG1 := Lib.hid (And.intro hg1 (And.intro hk1 hf1)); have HK1B := Lib.hid hk1; have HK1 := Lib.hid (HB.out.2.trans hk1); have cA1 := (HB.out.1.keeps hk1 (fun h => h)).cell; clear hg1 hk1 hf1 cA)))
    | (go_at_call 7; (with_reducible refine (z1 _).mono ?_); rintro e w3 ⟨rfl, hw⟩; have HK3 := Lib.hid (show Keeps (fun _ => False) w w3 from by rw [← hw]; exact HK2.out.alloc _); clear hw)
    | (go_at_call 8; (with_reducible refine (works_yes _).mono ?_); rintro e w4 ⟨rfl, hk4⟩; have HK4 := Lib.hid (HK3.out.trans hk4); clear hk4))
  go_ret
  exact ⟨rfl, HK4.out.mono (fun _ _ h => h.elim)⟩
set_option maxHeartbeats 4000000 in
set_option maxRecDepth 100000 in
theorem misses_offq (w : World) (s : Int) (a : Option Addr) (rows : List Bx) (cap : Nat) (px py qx qy : Int) (wh : Nat) (hs : Size s) (hp : On px py) (hq : ¬ On qx qy) :
    Calls Try.prog 3 #[.agg #[.int .i64 s, .slice a rows.length cap, .int .i32 px, .int .i32 py, .int .i32 qx, .int .i32 qy, .int .u8 (wh : Int)]] w (fun e w' => e = .returned (.bool true) ∧ Keeps (fun k => w.heap.size ≤ k) w w') := by
  have z1 := inside_t px py
  simp only [hp, decide_true] at z1
  have z2 := inside_t qx qy
  simp only [hq, decide_false] at z2
  (have b1 := Blk.new w 26 [.int .i64 s, .slice a rows.length cap, .int .i32 px, .int .i32 py, .int .i32 qx, .int .i32 qy, .int .u8 (wh : Int)]; have k1 : Keeps (fun _ => False) w (w.alloc (.cells #[.int .i64 s, .slice a rows.length cap, .int .i32 px, .int .i32 py, .int .i32 qx, .int .i32 qy, .int .u8 (wh : Int)] 26)) := (Keeps.refl _ w).alloc _; have HB := Lib.hid (And.intro b1 k1); have cA := b1.cell; clear b1 k1; go_enter Try.func3, Try.ntmps3)
  go_wp2_with (first
    | (go_at_call 6; (first | (have := HK1; (with_reducible refine (gd_new _ s hs).mono ?_); rintro e w2 ⟨Gh, FH, rfl, hg2, hk2, hf2⟩; have HG2 := Lib.hid (And.intro hg2 (And.intro hk2 hf2)); have HK2 := Lib.hid (HK1.out.trans hk2); have cA2 := (HB.out.1.keeps ((HK1B.out).trans hk2) (fun h => h)).cell; clear hg2 hk2 hf2 cA1) | ((with_reducible refine (gd_new _ s hs).mono ?_); rintro e w1 ⟨Gg, FG, rfl, hg1, hk1, hf1⟩; have HG1 := Lib.hid (And.intro hg1 (And.intro hk1 hf1)); have HK1B := Lib.hid hk1; have HK1 := Lib.hid (HB.out.2.trans hk1); have cA1 := (HB.out.1.keeps hk1 (fun h => h)).cell; clear hg1 hk1 hf1 cA)))
    | (go_at_call 7; (with_reducible refine (z1 _).mono ?_); rintro e w3 ⟨rfl, hw⟩; have HK3 := Lib.hid (show Keeps (fun _ => False) w2 w3 from by rw [← hw]; (repeat (first | exact Keeps.refl _ _ | refine Keeps.alloc ?_ _ | refine Keeps.drew ?_))); have cA3 := (HB.out.1.keeps (HK1B.out.trans (HG2.out.2.1.trans HK3.out)) (fun h => h)).cell; clear hw cA2)
    | (go_at_call 7; (with_reducible refine (z2 _).mono ?_); rintro e w4 ⟨rfl, hw⟩; have HK4 := Lib.hid (show Keeps (fun _ => False) w w4 from by rw [← hw]; exact (HK2.out.trans HK3.out).alloc _); clear hw)
    | (go_at_call 8; (with_reducible refine (works_yes _).mono ?_); rintro e w5 ⟨rfl, hk5⟩; have HK5 := Lib.hid (HK4.out.trans hk5); clear hk5))
  go_ret
  exact ⟨rfl, HK5.out.mono (fun _ _ h => h.elim)⟩
end Gs
end Go.Proofs.Ytppiohmnbffndaa
