/-
FpO: the document's Meets: a side of the box.
FqC2: the document's list of boxes: Crossing.
-/
import Derived.Test.YtdbpfbokfmpgcaaGreatZbwFpM
import Derived.Test.YtdbpfbokfmpgcaaGreatZbuFpKFpLFpN
import Derived.Deep.CutRange
import Derived.Test.YtdbpfbokfmpgcaaGreatZbvFqCFqP
set_option linter.unusedVariables false
set_option linter.unusedSimpArgs false
set_option linter.ambiguousOpen false
set_option maxHeartbeats 16000000
set_option maxRecDepth 100000
attribute [local go_sem] Go.Oper.semAt_some
namespace Go.Proofs.YtdbpfbokfmpgcaaGreat
theorem ZAf {p : Prop} (h : p := by (repeat (first | with_reducible exact Keeps.refl _ _ | with_reducible refine Keeps.trans ?_ HK5.out | with_reducible refine Keeps.trans ?_ HKR.out | with_reducible refine Keeps.alloc ?_ _ | with_reducible refine Keeps.drew ?_))) : p := h
theorem ZD {p : Prop} (h : p := by
 go_region_held3 (fun W => (∀ i : Nat, W.cell? ⟨w.heap.size + 1, i, none⟩ = ([.int .i32 px, .int .i32 py] : List Value)[i]?) ∧ (∀ i : Nat, W.cell? ⟨w.heap.size + 1 + 1, i, none⟩ = ([.int .i32 qx, .int .i32 qy] : List Value)[i]?) ∧ (∀ i : Nat, W.cell? ⟨w.heap.size + 1 + 1 + 1 + 1 + 1 + 1 + 1 + 1 + 1, i, none⟩ = ([.int .i32 b.x0, .int .i32 b.y0, .int .i32 b.x1, .int .i32 b.y0, .int .i32 b.x1, .int .i32 b.y1, .int .i32 b.x0, .int .i32 b.y1] : List Value)[i]?)) (first | with_reducible assumption | exact HQ.out _ (by (first | (with_unfolding_none refine st6_kd ?_ ?_; all_goals (first | ((repeat (first | with_reducible exact Keeps.refl _ _ | with_reducible refine Keeps.trans ?_ HK5.out | with_reducible refine Keeps.trans ?_ HKR.out | with_reducible refine Keeps.alloc ?_ _ | with_reducible refine Keeps.drew ?_)); done) | (have q5 := HKR.out.size; simp at q5 ⊢; omega))) | (repeat (first | with_reducible exact Keeps.refl _ _ | with_reducible refine Keeps.trans ?_ HK5.out | with_reducible refine Keeps.trans ?_ HKR.out | with_reducible refine Keeps.alloc ?_ _ | with_reducible refine Keeps.drew ?_))))) (first | (go_at_call 26; (with_reducible refine (HMk.out _).mono ?_); rintro e w5 ⟨kd, i2, m1, m2, m3, m4, rfl, hy, k5⟩; have HK5 := Lib.hid k5; have HY := Lib.hid hy; clear hy k5; first | (with_reducible (have hb := blkm_of1 HK5.out); have HBN := Lib.hid hb; have cn := hb.cell; have fn := hb.frozen; clear hb) | (with_reducible (have hb := blkm_of HK5.out); have HBN := Lib.hid hb; have cn := hb.cell; have fn := hb.frozen; clear hb) | skip))
 all_goals
  go_wp2
  go_meet
 all_goals
  refine ⟨_, kd, i2, m1, m2, m3, m4, rfl, ?_, HY.out, ?_⟩
 ·exact Blk.new w5 93 [_, _, _, _, _, _]
 ·exact Keeps.alloc ZAf _
 ·exact (((((HBN.out.set_ 0 _).set_ 1 _).set_ 2 _).set_ 3 _).set_ 4 _).set_ 5 _
 ·exact keeps_6 ZAf (by have q5 := HKR.out.size; simp at q5 ⊢; omega) _ _ _ _ _ _) : p := h
open Go.RowKit
namespace Bg
open Mem Gs Fi
def corner (b : Bx) : Nat → Int × Int
 | 0 => (b.x0, b.y0)
 | 1 => (b.x1, b.y0)
 | 2 => (b.x1, b.y1)
 | 3 => (b.x0, b.y1)
 | _ => (b.x0, b.y0)
def sideK (px py qx qy : Int) (b : Bx) (i : Nat) : Prop := meetK px py qx qy (corner b i).1 (corner b i).2 (corner b ((i + 1) % 4)).1 (corner b ((i + 1) % 4)).2
theorem mba_kd {w : World} {b : Bx} {px py qx qy : Int} {W : World} (hk : Keeps (fun _ => False) ((((((((((w.alloc (.cells #[.int .i32 b.x0, .int .i32 b.y0, .int .i32 b.x1, .int .i32 b.y1] 39)).alloc (.cells #[.int .i32 px, .int .i32 py] 37)).alloc (.cells #[.int .i32 qx, .int .i32 qy] 37)).alloc (.cells #[.int .i32 px, .int .i32 py] 37)).alloc (.cells #[.int .i32 qx, .int .i32 qy] 37)).alloc (.cells #[.int .i32 b.x0, .int .i32 b.y0, .int .i32 b.x1, .int .i32 b.y1] 39)).alloc (.cells #[.int .i32 px, .int .i32 py] 37)).alloc (.cells #[.int .i32 b.x0, .int .i32 b.y0, .int .i32 b.x1, .int .i32 b.y1] 39)).alloc (.cells #[.int .i32 qx, .int .i32 qy] 37)).alloc (.cells #[.int .i32 b.x0, .int .i32 b.y0, .int .i32 b.x1, .int .i32 b.y0, .int .i32 b.x1, .int .i32 b.y1, .int .i32 b.x0, .int .i32 b.y1] 88)) W) : (∀ i : Nat, W.cell? ⟨w.heap.size + 1, i, none⟩ = ([.int .i32 px, .int .i32 py] : List Value)[i]?) ∧ (∀ i : Nat, W.cell? ⟨w.heap.size + 1 + 1, i, none⟩ = ([.int .i32 qx, .int .i32 qy] : List Value)[i]?) ∧ (∀ i : Nat, W.cell? ⟨w.heap.size + 1 + 1 + 1 + 1 + 1 + 1 + 1 + 1 + 1, i, none⟩ = ([.int .i32 b.x0, .int .i32 b.y0, .int .i32 b.x1, .int .i32 b.y0, .int .i32 b.x1, .int .i32 b.y1, .int .i32 b.x0, .int .i32 b.y1] : List Value)[i]?) := by
 have h1 := (((((((((Blk.new (w.alloc (.cells #[.int .i32 b.x0, .int .i32 b.y0, .int .i32 b.x1, .int .i32 b.y1] 39)) 37 [.int .i32 px, .int .i32 py]).alloc (.cells #[.int .i32 qx, .int .i32 qy] 37)).alloc (.cells #[.int .i32 px, .int .i32 py] 37)).alloc (.cells #[.int .i32 qx, .int .i32 qy] 37)).alloc (.cells #[.int .i32 b.x0, .int .i32 b.y0, .int .i32 b.x1, .int .i32 b.y1] 39)).alloc (.cells #[.int .i32 px, .int .i32 py] 37)).alloc (.cells #[.int .i32 b.x0, .int .i32 b.y0, .int .i32 b.x1, .int .i32 b.y1] 39)).alloc (.cells #[.int .i32 qx, .int .i32 qy] 37)).alloc (.cells #[.int .i32 b.x0, .int .i32 b.y0, .int .i32 b.x1, .int .i32 b.y0, .int .i32 b.x1, .int .i32 b.y1, .int .i32 b.x0, .int .i32 b.y1] 88)) |>.keeps hk (fun h => h)
 have h2 := ((((((((Blk.new ((w.alloc (.cells #[.int .i32 b.x0, .int .i32 b.y0, .int .i32 b.x1, .int .i32 b.y1] 39)).alloc (.cells #[.int .i32 px, .int .i32 py] 37)) 37 [.int .i32 qx, .int .i32 qy]).alloc (.cells #[.int .i32 px, .int .i32 py] 37)).alloc (.cells #[.int .i32 qx, .int .i32 qy] 37)).alloc (.cells #[.int .i32 b.x0, .int .i32 b.y0, .int .i32 b.x1, .int .i32 b.y1] 39)).alloc (.cells #[.int .i32 px, .int .i32 py] 37)).alloc (.cells #[.int .i32 b.x0, .int .i32 b.y0, .int .i32 b.x1, .int .i32 b.y1] 39)).alloc (.cells #[.int .i32 qx, .int .i32 qy] 37)).alloc (.cells #[.int .i32 b.x0, .int .i32 b.y0, .int .i32 b.x1, .int .i32 b.y0, .int .i32 b.x1, .int .i32 b.y1, .int .i32 b.x0, .int .i32 b.y1] 88)) |>.keeps hk (fun h => h)
 have h3 := (Blk.new (((((((((w.alloc (.cells #[.int .i32 b.x0, .int .i32 b.y0, .int .i32 b.x1, .int .i32 b.y1] 39)).alloc (.cells #[.int .i32 px, .int .i32 py] 37)).alloc (.cells #[.int .i32 qx, .int .i32 qy] 37)).alloc (.cells #[.int .i32 px, .int .i32 py] 37)).alloc (.cells #[.int .i32 qx, .int .i32 qy] 37)).alloc (.cells #[.int .i32 b.x0, .int .i32 b.y0, .int .i32 b.x1, .int .i32 b.y1] 39)).alloc (.cells #[.int .i32 px, .int .i32 py] 37)).alloc (.cells #[.int .i32 b.x0, .int .i32 b.y0, .int .i32 b.x1, .int .i32 b.y1] 39)).alloc (.cells #[.int .i32 qx, .int .i32 qy] 37)) 88 [.int .i32 b.x0, .int .i32 b.y0, .int .i32 b.x1, .int .i32 b.y0, .int .i32 b.x1, .int .i32 b.y1, .int .i32 b.x0, .int .i32 b.y1]).keeps hk (fun h => h)
 simp only [World.size_alloc] at h1 h2 h3
 exact ⟨h1.cell, h2.cell, h3.cell⟩
theorem corner_on {b : Bx} (hb : Right b) (i : Nat) : On (corner b i).1 (corner b i).2 := by
 obtain ⟨⟨h1, h2, h3, h4⟩, ⟨h5, h6, h7, h8⟩, h9, h10⟩ := hb
 rcases i with _ | _ | _ | _ | i <;> simp only [corner] <;> exact ⟨Z8, Z8, Z8, Z8⟩
theorem blkm_of1 {w W : World} (k : Keeps (fun _ => False) (w.alloc (.cells #[.int .u8 0, .bool false, .int .i64 0, .int .i64 0, .int .i64 0, .int .i64 0] 93)).drew W) : Blk W w.heap.size 93 [.int .u8 0, .bool false, .int .i64 0, .int .i64 0, .int .i64 0, .int .i64 0] := (Blk.new w 93 [.int .u8 0, .bool false, .int .i64 0, .int .i64 0, .int .i64 0, .int .i64 0]).drew.keeps k (fun h => h)
theorem meets_loop (b : Bx) (hb : Right b) (px py qx qy : Int) (hp : On px py) (hq : On qx qy) (hc : ¬ coversP px py b) (hd : ¬ coversP qx qy b) (w : World) : Calls Tryz.prog 21 #[.agg #[.int .i32 b.x0, .int .i32 b.y0, .int .i32 b.x1, .int .i32 b.y1], .agg #[.int .i32 px, .int .i32 py], .agg #[.int .i32 qx, .int .i32 qy]] w fun e w' => ∃ q : Bool, e = .returned (.bool q) ∧ (q = true ↔ ∃ i, i < 4 ∧ sideK px py qx qy b i) ∧ Keeps (fun _ => False) w w' := by
 have z := has_t b px py
 simp only [hc, decide_false] at z
 have z2 := has_t b qx qy
 simp only [hd, decide_false] at z2
 have HH1 := Lib.hid z
 have HH2 := Lib.hid z2
 have HI1 := Lib.hid (fun W => in_on hp W)
 have HI2 := Lib.hid (fun W => in_on hq W)
 have HM := Lib.hid (fun (i : Nat) W => meet_t px py qx qy (corner b i).1 (corner b i).2 (corner b ((i + 1) % 4)).1 (corner b ((i + 1) % 4)).2 hp hq (corner_on hb i) (corner_on hb _) W)
 have HQ := Lib.hid (fun W (hk : Keeps (fun _ => False) ((((((((((w.alloc (.cells #[.int .i32 b.x0, .int .i32 b.y0, .int .i32 b.x1, .int .i32 b.y1] 39)).alloc (.cells #[.int .i32 px, .int .i32 py] 37)).alloc (.cells #[.int .i32 qx, .int .i32 qy] 37)).alloc (.cells #[.int .i32 px, .int .i32 py] 37)).alloc (.cells #[.int .i32 qx, .int .i32 qy] 37)).alloc (.cells #[.int .i32 b.x0, .int .i32 b.y0, .int .i32 b.x1, .int .i32 b.y1] 39)).alloc (.cells #[.int .i32 px, .int .i32 py] 37)).alloc (.cells #[.int .i32 b.x0, .int .i32 b.y0, .int .i32 b.x1, .int .i32 b.y1] 39)).alloc (.cells #[.int .i32 qx, .int .i32 qy] 37)).alloc (.cells #[.int .i32 b.x0, .int .i32 b.y0, .int .i32 b.x1, .int .i32 b.y0, .int .i32 b.x1, .int .i32 b.y1, .int .i32 b.x0, .int .i32 b.y1] 88)) W) => mba_kd (w := w) (b := b) (px := px) (py := py) (qx := qx) (qy := qy) hk)
 have HA := Lib.hid (show Keeps (fun _ => False) w ((((((((((w.alloc (.cells #[.int .i32 b.x0, .int .i32 b.y0, .int .i32 b.x1, .int .i32 b.y1] 39)).alloc (.cells #[.int .i32 px, .int .i32 py] 37)).alloc (.cells #[.int .i32 qx, .int .i32 qy] 37)).alloc (.cells #[.int .i32 px, .int .i32 py] 37)).alloc (.cells #[.int .i32 qx, .int .i32 qy] 37)).alloc (.cells #[.int .i32 b.x0, .int .i32 b.y0, .int .i32 b.x1, .int .i32 b.y1] 39)).alloc (.cells #[.int .i32 px, .int .i32 py] 37)).alloc (.cells #[.int .i32 b.x0, .int .i32 b.y0, .int .i32 b.x1, .int .i32 b.y1] 39)).alloc (.cells #[.int .i32 qx, .int .i32 qy] 37)).alloc (.cells #[.int .i32 b.x0, .int .i32 b.y0, .int .i32 b.x1, .int .i32 b.y0, .int .i32 b.x1, .int .i32 b.y1, .int .i32 b.x0, .int .i32 b.y1] 88)) by (repeat (first | with_reducible exact Keeps.refl _ _ | refine Keeps.drew ?_ | refine Keeps.alloc ?_ _)))
 clear hp hq hc hd z z2 hb
 go_enter Tryz.func21, Tryz.ntmps21
 go_wp2_with (first | (go_at_call 25; (with_reducible first | refine (HI1.out _).mono ?_ | refine (HI2.out _).mono ?_); rintro e wi ⟨rfl, rfl⟩) | (go_at_call 20; (with_reducible first | refine (HH1.out _).mono ?_ | refine (HH2.out _).mono ?_); rintro e wi ⟨rfl, rfl⟩))
 go_loopw [8, 9] (fun q _ wr => ∃ i : Nat, q = .int .i64 (i : Int) ∧ i ≤ 4 ∧ (∀ j, j < i → ¬ sideK px py qx qy b j) ∧ Keeps (fun _ => False) ((((((((((w.alloc (.cells #[.int .i32 b.x0, .int .i32 b.y0, .int .i32 b.x1, .int .i32 b.y1] 39)).alloc (.cells #[.int .i32 px, .int .i32 py] 37)).alloc (.cells #[.int .i32 qx, .int .i32 qy] 37)).alloc (.cells #[.int .i32 px, .int .i32 py] 37)).alloc (.cells #[.int .i32 qx, .int .i32 qy] 37)).alloc (.cells #[.int .i32 b.x0, .int .i32 b.y0, .int .i32 b.x1, .int .i32 b.y1] 39)).alloc (.cells #[.int .i32 px, .int .i32 py] 37)).alloc (.cells #[.int .i32 b.x0, .int .i32 b.y0, .int .i32 b.x1, .int .i32 b.y1] 39)).alloc (.cells #[.int .i32 qx, .int .i32 qy] 37)).alloc (.cells #[.int .i32 b.x0, .int .i32 b.y0, .int .i32 b.x1, .int .i32 b.y0, .int .i32 b.x1, .int .i32 b.y1, .int .i32 b.x0, .int .i32 b.y1] 88)) wr) (fun q _ _ => 4 - (intOf q).toNat)
 case atStart => exact ⟨0, rfl, Z8, fun j hj => Z8, Keeps.refl _ _⟩
 case round =>
  obtain ⟨i, rfl, hi, hno, hk⟩ := hrel
  by_cases hlt : i < 4
  ·have HNO := Lib.hid hno
   have HKR := Lib.hid hk
   have hi4 : i = 0 ∨ i = 1 ∨ i = 2 ∨ i = 3 := by omega
   clear hno hk hi hlt
   rcases hi4 with rfl | rfl | rfl | rfl
   ·have HMk := Lib.hid (show ∀ W, Calls Tryz.prog 26 #[.agg #[.int .i32 px, .int .i32 py], .agg #[.int .i32 qx, .int .i32 qy], .agg #[.int .i32 b.x0, .int .i32 b.y0], .agg #[.int .i32 b.x1, .int .i32 b.y0]] W (MetP (sideK px py qx qy b 0) W) from fun W => HM.out 0 W)
    have w1 : wrap64 1 = 1 := by unfold wrap64; omega
    have w2 : IntKind.i64.wrap 1 = 1 := IntWalk.i64_in _ ZAH
    have w3 : (1 : Int).tmod 4 = 1 := by decide
    go_upto_region 9 with fail
    go_cut [9] from 45 to 62 (fun s9 wd => ∃ (g9 : Nat) (kd : Int) (i2 : Bool) (m1 m2 m3 m4 : Int), s9 = .pointer (some ⟨g9, 0, none⟩) ∧ Blk wd g9 93 [.int .u8 kd, .bool i2, .int .i64 m1, .int .i64 m2, .int .i64 m3, .int .i64 m4] ∧ (kd ≠ 0 ↔ sideK px py qx qy b 0) ∧ Keeps (fun _ => False) ((((((((((w.alloc (.cells #[.int .i32 b.x0, .int .i32 b.y0, .int .i32 b.x1, .int .i32 b.y1] 39)).alloc (.cells #[.int .i32 px, .int .i32 py] 37)).alloc (.cells #[.int .i32 qx, .int .i32 qy] 37)).alloc (.cells #[.int .i32 px, .int .i32 py] 37)).alloc (.cells #[.int .i32 qx, .int .i32 qy] 37)).alloc (.cells #[.int .i32 b.x0, .int .i32 b.y0, .int .i32 b.x1, .int .i32 b.y1] 39)).alloc (.cells #[.int .i32 px, .int .i32 py] 37)).alloc (.cells #[.int .i32 b.x0, .int .i32 b.y0, .int .i32 b.x1, .int .i32 b.y1] 39)).alloc (.cells #[.int .i32 qx, .int .i32 qy] 37)).alloc (.cells #[.int .i32 b.x0, .int .i32 b.y0, .int .i32 b.x1, .int .i32 b.y0, .int .i32 b.x1, .int .i32 b.y1, .int .i32 b.x0, .int .i32 b.y1] 88)) wd)
    case' first =>
     exact ZD
    case' rest =>
     obtain ⟨g9, kd, i2, m1, m2, m3, m4, rfl, hb, hy, hk2⟩ := hcut
     have HK2 := Lib.hid hk2
     have HY := Lib.hid hy
     have cK := hb.cell
     clear hb hy hk2
     by_cases hz : kd = 0
     ·have HZ := Lib.hid hz
      subst hz
      go_wp2
      go_roundw
      case rel => exact ⟨1, rfl, ZAH, fun j hj => by
       rcases Nat.lt_or_ge j 0 with h | h
       ·exact HNO.out j h
       ·obtain rfl : j = 0 := by omega
        exact fun h => (HY.out.2 h) rfl, HK2.out⟩
      case measure => decide
     ·go_wp2
      go_ret
      exact ⟨_, rfl, by simp only [true_iff]; exact ⟨0, ZAH, HY.out.1 hz⟩, HA.out.trans HK2.out⟩
   ·have HMk := Lib.hid (show ∀ W, Calls Tryz.prog 26 #[.agg #[.int .i32 px, .int .i32 py], .agg #[.int .i32 qx, .int .i32 qy], .agg #[.int .i32 b.x1, .int .i32 b.y0], .agg #[.int .i32 b.x1, .int .i32 b.y1]] W (MetP (sideK px py qx qy b 1) W) from fun W => HM.out 1 W)
    have w1 : wrap64 2 = 2 := by unfold wrap64; omega
    have w2 : IntKind.i64.wrap 2 = 2 := IntWalk.i64_in _ ZAH
    have w3 : (2 : Int).tmod 4 = 2 := by decide
    go_upto_region 9 with fail
    go_cut [9] from 45 to 62 (fun s9 wd => ∃ (g9 : Nat) (kd : Int) (i2 : Bool) (m1 m2 m3 m4 : Int), s9 = .pointer (some ⟨g9, 0, none⟩) ∧ Blk wd g9 93 [.int .u8 kd, .bool i2, .int .i64 m1, .int .i64 m2, .int .i64 m3, .int .i64 m4] ∧ (kd ≠ 0 ↔ sideK px py qx qy b 1) ∧ Keeps (fun _ => False) ((((((((((w.alloc (.cells #[.int .i32 b.x0, .int .i32 b.y0, .int .i32 b.x1, .int .i32 b.y1] 39)).alloc (.cells #[.int .i32 px, .int .i32 py] 37)).alloc (.cells #[.int .i32 qx, .int .i32 qy] 37)).alloc (.cells #[.int .i32 px, .int .i32 py] 37)).alloc (.cells #[.int .i32 qx, .int .i32 qy] 37)).alloc (.cells #[.int .i32 b.x0, .int .i32 b.y0, .int .i32 b.x1, .int .i32 b.y1] 39)).alloc (.cells #[.int .i32 px, .int .i32 py] 37)).alloc (.cells #[.int .i32 b.x0, .int .i32 b.y0, .int .i32 b.x1, .int .i32 b.y1] 39)).alloc (.cells #[.int .i32 qx, .int .i32 qy] 37)).alloc (.cells #[.int .i32 b.x0, .int .i32 b.y0, .int .i32 b.x1, .int .i32 b.y0, .int .i32 b.x1, .int .i32 b.y1, .int .i32 b.x0, .int .i32 b.y1] 88)) wd)
    case' first =>
     exact ZD
    case' rest =>
     obtain ⟨g9, kd, i2, m1, m2, m3, m4, rfl, hb, hy, hk2⟩ := hcut
     have HK2 := Lib.hid hk2
     have HY := Lib.hid hy
     have cK := hb.cell
     clear hb hy hk2
     by_cases hz : kd = 0
     ·have HZ := Lib.hid hz
      subst hz
      go_wp2
      go_roundw
      case rel => exact ⟨2, rfl, ZAH, fun j hj => by
       rcases Nat.lt_or_ge j 1 with h | h
       ·exact HNO.out j h
       ·obtain rfl : j = 1 := by omega
        exact fun h => (HY.out.2 h) rfl, HK2.out⟩
      case measure => decide
     ·go_wp2
      go_ret
      exact ⟨_, rfl, by simp only [true_iff]; exact ⟨1, ZAH, HY.out.1 hz⟩, HA.out.trans HK2.out⟩
   ·have HMk := Lib.hid (show ∀ W, Calls Tryz.prog 26 #[.agg #[.int .i32 px, .int .i32 py], .agg #[.int .i32 qx, .int .i32 qy], .agg #[.int .i32 b.x1, .int .i32 b.y1], .agg #[.int .i32 b.x0, .int .i32 b.y1]] W (MetP (sideK px py qx qy b 2) W) from fun W => HM.out 2 W)
    have w1 : wrap64 3 = 3 := by unfold wrap64; omega
    have w2 : IntKind.i64.wrap 3 = 3 := IntWalk.i64_in _ ZAH
    have w3 : (3 : Int).tmod 4 = 3 := by decide
    go_upto_region 9 with fail
    go_cut [9] from 45 to 62 (fun s9 wd => ∃ (g9 : Nat) (kd : Int) (i2 : Bool) (m1 m2 m3 m4 : Int), s9 = .pointer (some ⟨g9, 0, none⟩) ∧ Blk wd g9 93 [.int .u8 kd, .bool i2, .int .i64 m1, .int .i64 m2, .int .i64 m3, .int .i64 m4] ∧ (kd ≠ 0 ↔ sideK px py qx qy b 2) ∧ Keeps (fun _ => False) ((((((((((w.alloc (.cells #[.int .i32 b.x0, .int .i32 b.y0, .int .i32 b.x1, .int .i32 b.y1] 39)).alloc (.cells #[.int .i32 px, .int .i32 py] 37)).alloc (.cells #[.int .i32 qx, .int .i32 qy] 37)).alloc (.cells #[.int .i32 px, .int .i32 py] 37)).alloc (.cells #[.int .i32 qx, .int .i32 qy] 37)).alloc (.cells #[.int .i32 b.x0, .int .i32 b.y0, .int .i32 b.x1, .int .i32 b.y1] 39)).alloc (.cells #[.int .i32 px, .int .i32 py] 37)).alloc (.cells #[.int .i32 b.x0, .int .i32 b.y0, .int .i32 b.x1, .int .i32 b.y1] 39)).alloc (.cells #[.int .i32 qx, .int .i32 qy] 37)).alloc (.cells #[.int .i32 b.x0, .int .i32 b.y0, .int .i32 b.x1, .int .i32 b.y0, .int .i32 b.x1, .int .i32 b.y1, .int .i32 b.x0, .int .i32 b.y1] 88)) wd)
    case' first =>
     exact ZD
    case' rest =>
     obtain ⟨g9, kd, i2, m1, m2, m3, m4, rfl, hb, hy, hk2⟩ := hcut
     have HK2 := Lib.hid hk2
     have HY := Lib.hid hy
     have cK := hb.cell
     clear hb hy hk2
     by_cases hz : kd = 0
     ·have HZ := Lib.hid hz
      subst hz
      go_wp2
      go_roundw
      case rel => exact ⟨3, rfl, ZAH, fun j hj => by
       rcases Nat.lt_or_ge j 2 with h | h
       ·exact HNO.out j h
       ·obtain rfl : j = 2 := by omega
        exact fun h => (HY.out.2 h) rfl, HK2.out⟩
      case measure => decide
     ·go_wp2
      go_ret
      exact ⟨_, rfl, by simp only [true_iff]; exact ⟨2, ZAH, HY.out.1 hz⟩, HA.out.trans HK2.out⟩
   ·have HMk := Lib.hid (show ∀ W, Calls Tryz.prog 26 #[.agg #[.int .i32 px, .int .i32 py], .agg #[.int .i32 qx, .int .i32 qy], .agg #[.int .i32 b.x0, .int .i32 b.y1], .agg #[.int .i32 b.x0, .int .i32 b.y0]] W (MetP (sideK px py qx qy b 3) W) from fun W => HM.out 3 W)
    have w1 : wrap64 4 = 4 := by unfold wrap64; omega
    have w2 : IntKind.i64.wrap 4 = 4 := IntWalk.i64_in _ ZAH
    have w3 : (4 : Int).tmod 4 = 0 := by decide
    go_upto_region 9 with fail
    go_cut [9] from 45 to 62 (fun s9 wd => ∃ (g9 : Nat) (kd : Int) (i2 : Bool) (m1 m2 m3 m4 : Int), s9 = .pointer (some ⟨g9, 0, none⟩) ∧ Blk wd g9 93 [.int .u8 kd, .bool i2, .int .i64 m1, .int .i64 m2, .int .i64 m3, .int .i64 m4] ∧ (kd ≠ 0 ↔ sideK px py qx qy b 3) ∧ Keeps (fun _ => False) ((((((((((w.alloc (.cells #[.int .i32 b.x0, .int .i32 b.y0, .int .i32 b.x1, .int .i32 b.y1] 39)).alloc (.cells #[.int .i32 px, .int .i32 py] 37)).alloc (.cells #[.int .i32 qx, .int .i32 qy] 37)).alloc (.cells #[.int .i32 px, .int .i32 py] 37)).alloc (.cells #[.int .i32 qx, .int .i32 qy] 37)).alloc (.cells #[.int .i32 b.x0, .int .i32 b.y0, .int .i32 b.x1, .int .i32 b.y1] 39)).alloc (.cells #[.int .i32 px, .int .i32 py] 37)).alloc (.cells #[.int .i32 b.x0, .int .i32 b.y0, .int .i32 b.x1, .int .i32 b.y1] 39)).alloc (.cells #[.int .i32 qx, .int .i32 qy] 37)).alloc (.cells #[.int .i32 b.x0, .int .i32 b.y0, .int .i32 b.x1, .int .i32 b.y0, .int .i32 b.x1, .int .i32 b.y1, .int .i32 b.x0, .int .i32 b.y1] 88)) wd)
    case' first =>
     exact ZD
    case' rest =>
     obtain ⟨g9, kd, i2, m1, m2, m3, m4, rfl, hb, hy, hk2⟩ := hcut
     have HK2 := Lib.hid hk2
     have HY := Lib.hid hy
     have cK := hb.cell
     clear hb hy hk2
     by_cases hz : kd = 0
     ·have HZ := Lib.hid hz
      subst hz
      go_wp2
      go_roundw
      case rel => exact ⟨4, rfl, ZAH, fun j hj => by
       rcases Nat.lt_or_ge j 3 with h | h
       ·exact HNO.out j h
       ·obtain rfl : j = 3 := by omega
        exact fun h => (HY.out.2 h) rfl, HK2.out⟩
      case measure => decide
     ·go_wp2
      go_ret
      exact ⟨_, rfl, by simp only [true_iff]; exact ⟨3, ZAH, HY.out.1 hz⟩, HA.out.trans HK2.out⟩
  ·obtain rfl : i = 4 := by omega
   have HE := Lib.hid (And.intro hno (HA.out.trans hk))
   clear hno hk hi hlt
   go_wp2
   go_ret
   exact ⟨_, rfl, by simp only [Bool.false_eq_true, false_iff]; rintro ⟨j, h1, h2⟩; exact HE.out.1 j h1 h2, HE.out.2⟩
theorem meetsD_t (b : Bx) (hb : Right b) (px py qx qy : Int) (w : World) : Calls Tryz.prog 21 #[.agg #[.int .i32 b.x0, .int .i32 b.y0, .int .i32 b.x1, .int .i32 b.y1], .agg #[.int .i32 px, .int .i32 py], .agg #[.int .i32 qx, .int .i32 qy]] w fun e w' => ∃ q : Bool, e = .returned (.bool q) ∧ (q = true ↔ On px py ∧ On qx qy ∧ meetsP px py qx qy b) ∧ Keeps (fun _ => False) w w' := by
 by_cases hp : On px py
 ·by_cases hq : On qx qy
  ·by_cases hc : coversP px py b
   ·refine (meets_has1 b px py qx qy hp hq hc w).mono ?_
    rintro e w' ⟨rfl, k⟩
    exact ⟨_, rfl, by simp only [true_iff]; exact ⟨hp, hq, covers_meets hc⟩, k⟩
   ·by_cases hd : coversP qx qy b
    ·refine (meets_has2 b px py qx qy hp hq hc hd w).mono ?_
     rintro e w' ⟨rfl, k⟩
     exact ⟨_, rfl, by simp only [true_iff]; exact ⟨hp, hq, covers_meets' hd⟩, k⟩
    ·refine (meets_loop b hb px py qx qy hp hq hc hd w).mono ?_
     rintro e w' ⟨q, rfl, h, k⟩
     refine ⟨_, rfl, h.trans ?_, k⟩
     rw [box_meets ⟨hb.2.2.1, hb.2.2.2⟩]
     constructor
     ·rintro ⟨i, hi, hs⟩
      refine ⟨hp, hq, .inr (.inr ?_)⟩
      rcases i with _ | _ | _ | _ | i
      ·exact .inl hs
      ·exact .inr (.inl hs)
      ·exact .inr (.inr (.inl hs))
      ·exact .inr (.inr (.inr hs))
      ·omega
     ·rintro ⟨_, _, h | h | h | h | h | h⟩
      ·exact absurd h hc
      ·exact absurd h hd
      ·exact ⟨0, ZAH, h⟩
      ·exact ⟨1, ZAH, h⟩
      ·exact ⟨2, ZAH, h⟩
      ·exact ⟨3, ZAH, h⟩
  ·refine (meets_off2 b px py qx qy hp hq w).mono ?_
   rintro e w' ⟨rfl, k⟩
   exact ⟨_, rfl, by simp [hq], k⟩
 ·refine (meets_off1 b px py qx qy hp w).mono ?_
  rintro e w' ⟨rfl, k⟩
  exact ⟨_, rfl, by simp [hp], k⟩
end Bg
open Go.RowKit Go.Shelf
namespace Fq
open Mem Gr Gs Fi
open Gx (insB Rise)
theorem cross_D (w : World) (R : Nat) (a : Option Addr) (cp : Nat) (L : List (Nat × Bx)) (h : RF w R a cp L) (hl : L.length ≤ 100000) (hR : ∀ p ∈ L, Right p.2) (px py qx qy : Int) (f : Nat × Bx → Bool) (hf : ∀ p ∈ L, (f p = true ↔ tkC px py qx qy p.2)) :
 Calls Tryz.prog 9 #[.pointer (some ⟨R, 0, none⟩), .agg #[.int .i32 px, .int .i32 py], .agg #[.int .i32 qx, .int .i32 qy]] w fun e w' => WantL w w' (wl f L) e := by
 obtain ⟨n, hn⟩ := ZE L.length
 rw [← hn] at hl
 have hnI : (n : Int) ≤ 100000 := by omega
 have HN := Lib.hid hn
 have H := Lib.hid h
 have HF := Lib.hid (And.intro hR hf)
 clear hn h hl hf hR
 go_enter Tryz.func9, Tryz.ntmps9
 go_wp2
 obtain ⟨W2, hW2⟩ := ZE ((w.alloc (.cells #[.int .i32 px, .int .i32 py] 37)).alloc (.cells #[.int .i32 qx, .int .i32 qy] 37))
 obtain ⟨B3, hB3⟩ := ZE w.heap.size
 obtain ⟨B4, hB4⟩ := ZE (w.heap.size + 1)
 have HKW := Lib.hid (show Keeps (fun _ => False) w W2 from by rw [hW2]; exact Z4)
 have HB3 := Lib.hid (show Blk W2 B3 37 [.int .i32 px, .int .i32 py] from by rw [hW2, hB3]; exact (Blk.new w 37 [.int .i32 px, .int .i32 py]).alloc _)
 have HB4 := Lib.hid (show Blk W2 B4 37 [.int .i32 qx, .int .i32 qy] from by rw [hW2, hB4]; have := Blk.new (w.alloc (.cells #[.int .i32 px, .int .i32 py] 37)) 37 [.int .i32 qx, .int .i32 qy]; rw [World.size_alloc] at this; exact this)
 rw [← hW2, ← hB4, ← hB3]
 clear hW2 hB3 hB4
 go_loopw [7, 8] (fun v q wr => ∃ (i : Nat) (la : Option Addr) (lc : Nat), q = .int .i64 (i : Int) ∧ i ≤ n ∧ v = .slice la (wl f (L.take i)).length lc ∧ wr.ownsRow W2.heap.size 35 1 (.slice la (wl f (L.take i)).length lc) (wl f (L.take i)).length ((wl f (L.take i)).flatMap uf) ∧ Keeps (fun _ => False) W2 wr) (fun _ q _ => n - (intOf q).toNat)
 case atStart => exact ⟨0, none, 0, rfl, Nat.zero_le _, rfl, World.ownsRow_nil _ _ _ _, Keeps.refl _ _⟩
 case round =>
  obtain ⟨i, la, lc, rfl, hi, rfl, hO, hK⟩ := hrel
  have hli : (wl f (L.take i)).length ≤ 100000 := by
   have := wl_take f L i
   omega
  obtain ⟨l, hle⟩ := ZE (wl f (L.take i))
  rw [← hle] at hO hli ⊢
  obtain ⟨m, hm⟩ := ZE l.length
  rw [← hm] at hO hli ⊢
  have bR := (H.out.kd (HKW.out.trans hK)).blk
  rw [← HN.out] at bR
  have cR := bR.cell
  have HOw := Lib.hid hO
  have HKR := Lib.hid hK
  have HL := Lib.hid (And.intro hle (And.intro hm hli))
  clear hO hle hm hli
  by_cases hlt : i < n
  ·obtain ⟨p, hp⟩ : ∃ p, L[i]? = some p := ⟨_, List.getElem?_eq_getElem ZAs⟩
   have hRF := H.out.kd (HKW.out.trans hK)
   obtain ⟨g, rfl, -⟩ := hRF.row hp
   have hltI : (i : Int) < (n : Int) := by omega
   obtain ⟨cv, hcv⟩ := ZE (f p)
   have hpL := List.mem_of_getElem? hp
   have zh := fun W => (Bg.meetsD_t p.2 (HF.out.1 p hpL) px py qx qy W).mono (R' := fun e w' => e = .returned (.bool cv) ∧ Keeps (fun _ => False) W w') (by
    rintro e w' ⟨q, rfl, hq, hk⟩
    have h2 := HF.out.2 p hpL
    unfold tkC at h2
    have e : q = cv := by rw [hcv]; exact Bool.eq_iff_iff.2 (hq.trans h2.symm)
    exact ⟨by rw [e], hk⟩)
   have HZ := Lib.hid zh
   have hb3 := HB3.out.keeps hK (fun h => h)
   have hb4 := HB4.out.keeps hK (fun h => h)
   have HSR := Lib.hid (show ∀ W', Keeps (fun _ => False) wr W' → (∀ k : Nat, W'.cell? ⟨B3, k, none⟩ = ([.int .i32 px, .int .i32 py] : List Value)[k]?) ∧ (∀ k : Nat, W'.cell? ⟨B4, k, none⟩ = ([.int .i32 qx, .int .i32 qy] : List Value)[k]?) ∧ (∀ k : Nat, W'.cell? ⟨R, k, none⟩ = ([.slice (some ⟨g, 0, none⟩) n cp] : List Value)[k]?) ∧ (W'.cell? ⟨g, i * 5, none⟩ = some (.int .u32 (p.1 : Int)) ∧ W'.cell? ⟨g, i * 5 + 1, none⟩ = some (.int .i32 p.2.x0) ∧ W'.cell? ⟨g, i * 5 + 2, none⟩ = some (.int .i32 p.2.y0) ∧ W'.cell? ⟨g, i * 5 + 3, none⟩ = some (.int .i32 p.2.x1) ∧ W'.cell? ⟨g, i * 5 + 4, none⟩ = some (.int .i32 p.2.y1)) from fun W' hk => ⟨(hb3.keeps hk (fun h => h)).cell, (hb4.keeps hk (fun h => h)).cell, (bR.keeps hk (fun h => h)).cell, ((hRF.kd hk).five hp)⟩)
   have HP := Lib.hid hp
   have HA := Lib.hid (show wl f (L.take (i + 1)) = if cv = true then l ++ [p.1] else l from by rw [wl_at hp, ← HL.out.1, hcv])
   clear hp hK zh hcv hb3 hb4 bR hRF hpL
   go_wp2
   rename_i Kx hKx
   go_region_held3 (fun W => (∀ k : Nat, W.cell? ⟨B3, k, none⟩ = ([.int .i32 px, .int .i32 py] : List Value)[k]?) ∧ (∀ k : Nat, W.cell? ⟨B4, k, none⟩ = ([.int .i32 qx, .int .i32 qy] : List Value)[k]?) ∧ (∀ k : Nat, W.cell? ⟨R, k, none⟩ = ([.slice (some ⟨g, 0, none⟩) n cp] : List Value)[k]?) ∧ (W.cell? ⟨g, i * 5, none⟩ = some (.int .u32 (p.1 : Int)) ∧ W.cell? ⟨g, i * 5 + 1, none⟩ = some (.int .i32 p.2.x0) ∧ W.cell? ⟨g, i * 5 + 2, none⟩ = some (.int .i32 p.2.y0) ∧ W.cell? ⟨g, i * 5 + 3, none⟩ = some (.int .i32 p.2.x1) ∧ W.cell? ⟨g, i * 5 + 4, none⟩ = some (.int .i32 p.2.y1))) (first | with_reducible assumption | exact HSR.out _ ZAb) (first | (go_at_call 21; (with_reducible refine (HZ.out _).mono ?_); rintro e w2 ⟨rfl, hk2⟩; have HK2 := Lib.hid (Keeps.trans (show Keeps (fun _ => False) wr _ from Z4) hk2); clear hk2))
   (refine hKx _ _ ?_; clear hKx; have bR3 := (H.out.kd (HKW.out.trans (HKR.out.trans HK2.out))).blk; rw [← HN.out] at bR3; clear cR; have cR := bR3.cell; obtain ⟨c0, c1, c2, c3, c4⟩ := (H.out.kd (HKW.out.trans (HKR.out.trans HK2.out))).five HP.out; have hO3 := owns_keeps HOw.out HK2.out (fun _ _ h => h); have HO3 := Lib.hid hO3; clear hO3 bR3)
   cases cv with
   | true =>
    go_wp2_with (at_builtin; refine app_f elU rfl (.tmp 29) (.tmp 38) rfl W2.heap.size l _ la lc rfl (HO3.out.alloc _) p.1 w2.heap.size rfl (by exact Mem.news_new w2 _ [_]) (Nat.le_trans HL.out.2.2 ZAH) (((HKR.out.trans HK2.out).alloc _).size) ?_; intro g' cap' w5 hown hgrow; have HG := Lib.hid (And.intro hown hgrow); clear hown hgrow)
    exact Zq
   | false =>
    exact Z0
  ·obtain rfl : i = n := by omega
   exact Zy
end Fq
end Go.Proofs.YtdbpfbokfmpgcaaGreat
