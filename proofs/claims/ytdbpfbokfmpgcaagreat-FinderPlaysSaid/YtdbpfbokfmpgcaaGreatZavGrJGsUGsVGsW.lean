/-
GrJ: At at one cell; Len.
GsU: At, Len, Cells.
GsV: Crossing, where the cells of its box are few.
GsW: Crossing, where the cells of its box are many: all that there is.
-/
import Derived.Test.YtdbpfbokfmpgcaaGreatZarGrFGrGGrHGrI
import Derived.Test.YtdbpfbokfmpgcaaGreatZatGsR
import Derived.Test.YtdbpfbokfmpgcaaGreatZauTreeCTreeDTrMTreeBaTreeE
set_option linter.unusedVariables false
set_option linter.unusedSimpArgs false
set_option linter.ambiguousOpen false
set_option maxHeartbeats 16000000
set_option maxRecDepth 100000
attribute [local go_sem] Go.Oper.semAt_some
namespace Go.Proofs.YtdbpfbokfmpgcaaGreat
theorem ZAI {p : Prop} (h : p := by rw [← hw]; (repeat (first | exact Keeps.refl _ _ | refine Keeps.alloc ?_ _ | refine Keeps.drew ?_))) : p := h
theorem ZA5 {p : Prop} (h : p := by first | exact HK6.out | (repeat (first | exact Keeps.refl _ _ | refine Keeps.alloc ?_ _ | refine Keeps.drew ?_))) : p := h
theorem ZA9 {p : Prop} (h : p := by have k5 := HK5.out.trans (((Keeps.refl (fun _ => False) w5).alloc (.cells #[.int .i32 (min px qx), .int .i32 (min py qy), .int .i32 (max px qx), .int .i32 (max py qy)] 39)).trans hk); have kw : Keeps (fun _ => False) w ((w.alloc (.cells #[.int .i32 px, .int .i32 py] 37)).alloc (.cells #[.int .i32 qx, .int .i32 qy] 37)) := Z4; exact ⟨(HPQ.out.1.keeps k5 (fun h => h)).cell, (HPQ.out.2.keeps k5 (fun h => h)).cell, ((Blk.new w5 39 [.int .i32 (min px qx), .int .i32 (min py qy), .int .i32 (max px qx), .int .i32 (max py qy)]).keeps hk (fun h => h)).cell, (HF.out.1.blk.keeps (kw.trans k5) (fun h => h)).cell⟩) : p := h
open Go.RowKit Go.Shelf
namespace Gr
open Mem
theorem Vals.mono {b b' : Nat} {w : World} {VB : Nat} {V : List Nat} (h : Vals b w VB V) (hb : b' ≤ b) : Vals b' w VB V := by
 obtain ⟨h1, a, cp, h2, h3⟩ := h
 exact ⟨Nat.le_trans hb h1, a, cp, h2, own_mono h3 hb⟩
end Gr
open Go.RowKit Go.Shelf
namespace Gs
open Mem Gr
theorem at_t (w : World) (G r1 r2 r3 : Nat) (s : Int) (hs : Size s) (L : List (Nat × Bx)) (A : List Nat) (M : List CE) (h : GridM w G r1 r2 r3 s L A M) (px py : Int) (hp : On px py) (hN : (A ++ (lineL px py px py s).flatMap (idsAt (viewE M))).length ≤ 1000000000) :
 Calls Tryz.prog 117 #[.pointer (some ⟨G, 0, none⟩), .agg #[.int .i32 px, .int .i32 py]] w (fun e w' => ∃ VB V, e = .returned (.func (.func 92) #[] #[.pointer (some ⟨VB, 0, none⟩)]) ∧ Keeps (fun _ => False) w w' ∧ Vals w.heap.size w' VB V ∧ V.Pairwise (· < ·) ∧ ∀ id, id ∈ V ↔ id ∈ A ∨ ∃ c ∈ lineL px py px py s, id ∈ idsAt (viewE M) c) := by
 have z := pin_t px py
 simp only [hp, decide_true] at z
 have HF := Lib.hid (And.intro h (And.intro hN (And.intro hs hp)))
 have HP := Lib.hid (Blk.new w 37 [.int .i32 px, .int .i32 py])
 clear h hN hs hp
 go_enter Tryz.func117, Tryz.ntmps117
 go_wp2_with (first
  | (go_at_call 122; refine (there_t _ (HF.out.1.blk.alloc _)).mono ?_; rintro e w1 ⟨rfl, rfl⟩)
  | (go_at_call 85; refine (z _).mono ?_; rintro e w4 ⟨rfl, hw⟩; have HK4 := Lib.hid (show Keeps (fun _ => False) (w.alloc (.cells #[.int .i32 px, .int .i32 py] 37)) w4 from ZAI); clear hw))
 have HSN := Lib.hid (show ∀ W', Keeps (fun _ => False) w4 W' → (∀ i : Nat, W'.cell? ⟨w.heap.size, i, none⟩ = ([.int .i32 px, .int .i32 py] : List Value)[i]?) ∧ (∀ i : Nat, W'.cell? ⟨G, i, none⟩ = ([.int .i64 s, .map (some r1), .map (some r2), .map (some r3)] : List Value)[i]?) from fun W' hk => ⟨(HP.out.keeps (HK4.out.trans hk) (fun h => h)).cell, (HF.out.1.blk.keeps ((((Keeps.refl _ w).alloc _).trans HK4.out).trans hk) (fun h => h)).cell⟩)
 go_region_held3 (fun W => (∀ i : Nat, W.cell? ⟨w.heap.size, i, none⟩ = ([.int .i32 px, .int .i32 py] : List Value)[i]?) ∧ (∀ i : Nat, W.cell? ⟨G, i, none⟩ = ([.int .i64 s, .map (some r1), .map (some r2), .map (some r3)] : List Value)[i]?)) (first | with_reducible assumption | exact HSN.out _ (by first | exact HK6.out | exact HK7.out | exact Z4)) (first
  | (go_at_call 124; (with_reducible refine (line_t _ _ _ _ _ _).mono ?_); rintro e w6 ⟨rfl, hw6⟩; have HK6 := Lib.hid (show Keeps (fun _ => False) w4 w6 from by rw [← hw6]; exact Z4); have HB6 := Lib.hid (show Blk w6 (w4.heap.size + 1 + 1) 2 [.int .i64 s] ∧ Blk w6 w4.heap.size 37 [.int .i32 px, .int .i32 py] ∧ Blk w6 (w4.heap.size + 1) 37 [.int .i32 px, .int .i32 py] from by rw [← hw6]; exact ⟨ZAE, ZAE, ZAE⟩); clear hw6)
  | (go_at_call 123; have hkw := (((Keeps.refl (fun _ => False) w).alloc (.cells #[.int .i32 px, .int .i32 py] 37)).trans HK4.out).trans HK6.out; have hz4 := (((Keeps.refl (fun _ => False) w).alloc (.cells #[.int .i32 px, .int .i32 py] 37)).trans HK4.out).size; have hgr := HF.out.1.kd hkw; (with_reducible refine (told_t w6 G r1 r2 r3 s L A M hgr _ (lineL px py px py s) (fun k => k = w4.heap.size ∨ k = w4.heap.size + 1) (fun k hk => by have h1 := HB6.out.2.1.lt; have h2 := HB6.out.2.2.lt; rcases hk with rfl | rfl; exact h1; exact h2) (fun hk => by have := HF.out.1.blk.lt; rcases hk with e | e <;> omega) (fun k hk he => by have := HF.out.1.fp_lt hk; rcases he with e | e <;> omega) (fun W1 hk => line_gives 8 _ _ _ px py px py s HF.out.2.2.1 HF.out.2.2.2 HF.out.2.2.2 W1 (HB6.out.1.keeps hk (fun h => h)) (HB6.out.2.1.keeps hk (fun h => h)) (HB6.out.2.2.keeps hk (fun h => h)) Z8) HF.out.2.1).mono ?_); rintro e w7 ⟨VB, V, rfl, hk7, hv7, hv8⟩; have hk7' : Keeps (fun _ => False) w4 w7 := (HK6.out.then (T := fun k => k = w4.heap.size ∨ k = w4.heap.size + 1) hk7 (fun i hi e => Z8)); have HK7 := Lib.hid hk7'; have HW := Lib.hid (And.intro (hkw.then (T := fun k => k = w4.heap.size ∨ k = w4.heap.size + 1) hk7 (fun i hi e => Z8)) (And.intro hkw.size (And.intro hv7 hv8))); clear hk7 hv7 hv8 hkw hk7' hgr))
 all_goals
  go_wp2
  go_ret
  exact ⟨VB, V, rfl, HW.out.1, Vals.mono HW.out.2.2.1 HW.out.2.1, HW.out.2.2.2⟩
theorem len_t (w : World) (G r1 r2 r3 : Nat) (s : Int) (L : List (Nat × Bx)) (A : List Nat) (M : List CE) (h : GridM w G r1 r2 r3 s L A M) : Calls Tryz.prog 120 #[.pointer (some ⟨G, 0, none⟩)] w fun e w' => e = .returned (.int .i64 (L.length : Int)) ∧ w = w' := by
 have hl := h.m1.len (P := Tryz.prog) Tryz.underlying60
 simp only [kvB, List.length_map] at hl
 have HT := Lib.hid h.blk
 have cG := h.blk.cell
 clear h
 go_enter Tryz.func120, Tryz.ntmps120
 go_wp2_with (go_at_call 122; refine (there_t _ HT.out).mono ?_; rintro e w1 ⟨rfl, rfl⟩)
 go_ret
 exact ⟨rfl, rfl⟩
end Gs
open Go.RowKit Go.Shelf
namespace Gs
open Mem Gr
def bnd (px py qx qy : Int) : Bx := ⟨min px qx, min py qy, max px qx, max py qy⟩
theorem bnd_right {px py qx qy : Int} (hp : On px py) (hq : On qx qy) : Right (bnd px py qx qy) := by
 obtain ⟨a, b, c, d⟩ := hp
 obtain ⟨e, f, g, i⟩ := hq
 unfold bnd Right On
 simp only
 omega
theorem cross_near (w : World) (G r1 r2 r3 : Nat) (s : Int) (hs : Size s) (L : List (Nat × Bx)) (A : List Nat) (M : List CE) (h : GridM w G r1 r2 r3 s L A M) (px py qx qy : Int) (hp : On px py) (hq : On qx qy) (hc : cnt s (bnd px py qx qy) ≤ 1024) (hN : (A ++ (lineL px py qx qy s).flatMap (idsAt (viewE M))).length ≤ 1000000000) :
 Calls Tryz.prog 118 #[.pointer (some ⟨G, 0, none⟩), .agg #[.int .i32 px, .int .i32 py], .agg #[.int .i32 qx, .int .i32 qy]] w (fun e w' => ∃ VB V, e = .returned (.func (.func 92) #[] #[.pointer (some ⟨VB, 0, none⟩)]) ∧ Keeps (fun _ => False) w w' ∧ Vals w.heap.size w' VB V ∧ V.Pairwise (· < ·) ∧ ∀ id, id ∈ V ↔ id ∈ A ∨ ∃ c ∈ lineL px py qx qy s, id ∈ idsAt (viewE M) c) := by
 (have z0 := fun W (hk : Keeps (fun _ => False) w W) => there_t W (h.blk.keeps hk (fun h => h)); have z1 := pin_t px py; have z2 := pin_t qx qy; simp only [hp, hq, decide_true] at z1 z2; have HF := Lib.hid (And.intro h (And.intro hN (And.intro hs (And.intro hp hq)))); have bP := (Blk.new w 37 [.int .i32 px, .int .i32 py]).alloc (.cells #[.int .i32 qx, .int .i32 qy] 37); have bQ := Blk.new (w.alloc (.cells #[.int .i32 px, .int .i32 py] 37)) 37 [.int .i32 qx, .int .i32 qy]; simp only [World.size_alloc] at bQ; have HPQ := Lib.hid (And.intro bP bQ); have hbR := bnd_right hp hq; have zc := count_t s hs (bnd px py qx qy) hbR; simp only [bnd] at zc; clear h hN hs hp hq bP bQ hbR)
 obtain ⟨cn, hcn⟩ := ZE (cnt s (bnd px py qx qy))
 have zc' : ∀ w, Calls Tryz.prog 126 #[.agg #[.int .i32 (min px qx), .int .i32 (min py qy), .int .i32 (max px qx), .int .i32 (max py qy)], .int .i64 s] w (Gave (.int .i64 cn) w) := by rw [hcn]; exact zc
 rw [← hcn] at hc
 clear zc hcn
 (go_enter Tryz.func118, Tryz.ntmps118; go_wp2_with (first | (go_at_call 122; refine (z0 _ Z4).mono ?_; rintro e w1 ⟨rfl, rfl⟩) | (go_at_call 85; (with_reducible refine (z1 _).mono ?_); rintro e w1 ⟨rfl, rfl⟩) | (go_at_call 85; (with_reducible refine (z2 _).mono ?_); rintro e w4 ⟨rfl, hw⟩; have HK4 := Lib.hid (show Keeps (fun _ => False) ((w.alloc (.cells #[.int .i32 px, .int .i32 py] 37)).alloc (.cells #[.int .i32 qx, .int .i32 qy] 37)) w4 from ZAI); have cP4 := (HPQ.out.1.keeps HK4.out (fun h => h)).cell; have cQ4 := (HPQ.out.2.keeps HK4.out (fun h => h)).cell; clear hw)); clear cP4 cQ4; refine (Tree.bounds2 w4.heap.size px py qx qy _ (Blk.new w4 37 [.int .i32 px, .int .i32 py, .int .i32 qx, .int .i32 qy])).mono ?_; rintro e w5 ⟨rfl, hk5⟩; have HK5 := Lib.hid (HK4.out.trans (((Keeps.refl (fun _ => False) w4).alloc (.cells #[.int .i32 px, .int .i32 py, .int .i32 qx, .int .i32 qy] 37)).trans hk5)); clear hk5)
 go_wp2
 (have HSN := Lib.hid (show ∀ W', Keeps (fun _ => False) (w5.alloc (.cells #[.int .i32 (min px qx), .int .i32 (min py qy), .int .i32 (max px qx), .int .i32 (max py qy)] 39)) W' → (∀ i : Nat, W'.cell? ⟨w.heap.size, i, none⟩ = ([.int .i32 px, .int .i32 py] : List Value)[i]?) ∧ (∀ i : Nat, W'.cell? ⟨w.heap.size + 1, i, none⟩ = ([.int .i32 qx, .int .i32 qy] : List Value)[i]?) ∧ (∀ i : Nat, W'.cell? ⟨w5.heap.size, i, none⟩ = ([.int .i32 (min px qx), .int .i32 (min py qy), .int .i32 (max px qx), .int .i32 (max py qy)] : List Value)[i]?) ∧ (∀ i : Nat, W'.cell? ⟨G, i, none⟩ = ([.int .i64 s, .map (some r1), .map (some r2), .map (some r3)] : List Value)[i]?) from fun W' hk => ZA9))
 go_region_held3 (fun W => (∀ i : Nat, W.cell? ⟨w.heap.size, i, none⟩ = ([.int .i32 px, .int .i32 py] : List Value)[i]?) ∧ (∀ i : Nat, W.cell? ⟨w.heap.size + 1, i, none⟩ = ([.int .i32 qx, .int .i32 qy] : List Value)[i]?) ∧ (∀ i : Nat, W.cell? ⟨w5.heap.size, i, none⟩ = ([.int .i32 (min px qx), .int .i32 (min py qy), .int .i32 (max px qx), .int .i32 (max py qy)] : List Value)[i]?) ∧ (∀ i : Nat, W.cell? ⟨G, i, none⟩ = ([.int .i64 s, .map (some r1), .map (some r2), .map (some r3)] : List Value)[i]?)) (first | with_reducible assumption | exact HSN.out _ ZA5) (first
  | (go_at_call 126; (with_reducible refine (zc' _).mono ?_); rintro e w6 ⟨rfl, hk6⟩; have HK6 := Lib.hid (show Keeps (fun _ => False) (w5.alloc (.cells #[.int .i32 (min px qx), .int .i32 (min py qy), .int .i32 (max px qx), .int .i32 (max py qy)] 39)) w6 from ((Keeps.refl _ _).drew).trans hk6); clear hk6))
 go_wp2
 have HKw := Lib.hid (show Keeps (fun _ => False) w w6 from (((Keeps.refl (fun _ => False) w).alloc (.cells #[.int .i32 px, .int .i32 py] 37)).alloc (.cells #[.int .i32 qx, .int .i32 qy] 37)).trans (HK5.out.trans (((Keeps.refl (fun _ => False) w5).alloc (.cells #[.int .i32 (min px qx), .int .i32 (min py qy), .int .i32 (max px qx), .int .i32 (max py qy)] 39)).trans HK6.out)))
 go_region_held3 (fun W => (∀ i : Nat, W.cell? ⟨w.heap.size, i, none⟩ = ([.int .i32 px, .int .i32 py] : List Value)[i]?) ∧ (∀ i : Nat, W.cell? ⟨w.heap.size + 1, i, none⟩ = ([.int .i32 qx, .int .i32 qy] : List Value)[i]?) ∧ (∀ i : Nat, W.cell? ⟨w5.heap.size, i, none⟩ = ([.int .i32 (min px qx), .int .i32 (min py qy), .int .i32 (max px qx), .int .i32 (max py qy)] : List Value)[i]?) ∧ (∀ i : Nat, W.cell? ⟨G, i, none⟩ = ([.int .i64 s, .map (some r1), .map (some r2), .map (some r3)] : List Value)[i]?)) (first | with_reducible assumption | exact HSN.out _ (by first | exact HK6.out.drew | exact HK7.out | exact HK8.out)) (first
  | (go_at_call 124; (with_reducible refine (line_t _ _ _ _ _ _).mono ?_); rintro e w7 ⟨rfl, hw7⟩; have HK7 := Lib.hid (show Keeps (fun _ => False) (w5.alloc (.cells #[.int .i32 (min px qx), .int .i32 (min py qy), .int .i32 (max px qx), .int .i32 (max py qy)] 39)) w7 from by rw [← hw7]; exact ((HK6.out.drew.alloc _).alloc _).alloc _); have HB7 := Lib.hid (show Blk w7 (w6.heap.size + 1 + 1) 2 [.int .i64 s] ∧ Blk w7 w6.heap.size 37 [.int .i32 px, .int .i32 py] ∧ Blk w7 (w6.heap.size + 1) 37 [.int .i32 qx, .int .i32 qy] from by rw [← hw7]; exact ⟨ZAE, ZAE, ZAE⟩); have HY7 := Lib.hid (show Keeps (fun _ => False) w6 w7 from by rw [← hw7]; exact Z4); clear hw7)
  | (go_at_call 123; have hkw := HKw.out.trans HY7.out; have hz4 := HKw.out.size; have hgr := HF.out.1.kd hkw; (with_reducible refine (told_t w7 G r1 r2 r3 s L A M hgr _ (lineL px py qx qy s) (fun k => k = w6.heap.size ∨ k = w6.heap.size + 1) (fun k hk => by have h1 := HB7.out.2.1.lt; have h2 := HB7.out.2.2.lt; rcases hk with rfl | rfl; exact h1; exact h2) (fun hk => by have := HF.out.1.blk.lt; rcases hk with e | e <;> omega) (fun k hk he => by have := HF.out.1.fp_lt hk; rcases he with e | e <;> omega) (fun W1 hk => line_gives 8 _ _ _ px py qx qy s HF.out.2.2.1 HF.out.2.2.2.1 HF.out.2.2.2.2 W1 (HB7.out.1.keeps hk (fun h => h)) (HB7.out.2.1.keeps hk (fun h => h)) (HB7.out.2.2.keeps hk (fun h => h)) Z8) HF.out.2.1).mono ?_); rintro e w8 ⟨VB, V, rfl, hk8, hv8, hv9⟩; have hz6 := HK6.out.size; have hk8' : Keeps (fun _ => False) (w5.alloc (.cells #[.int .i32 (min px qx), .int .i32 (min py qy), .int .i32 (max px qx), .int .i32 (max py qy)] 39)) w8 := (HK7.out.then (T := fun k => k = w6.heap.size ∨ k = w6.heap.size + 1) hk8 (fun i hi e => Z8)); have HK8 := Lib.hid hk8'; have HW := Lib.hid (And.intro (hkw.then (T := fun k => k = w6.heap.size ∨ k = w6.heap.size + 1) hk8 (fun i hi e => Z8)) (And.intro hkw.size (And.intro hv8 hv9))); clear hk8 hv8 hv9 hkw hk8' hgr))
 all_goals
  go_wp2
  go_ret
  exact ⟨VB, V, rfl, HW.out.1, Vals.mono HW.out.2.2.1 HW.out.2.1, HW.out.2.2.2⟩
end Gs
open Go.RowKit Go.Shelf
open Go.Sort (grow putRow Holds)
namespace Gs
open Mem Gr
open So (vals)
theorem sort_perm {w : World} {base g cap : Nat} {V : List Nat} (h : w.ownsRow base 35 1 (.slice (some ⟨g, 0, none⟩) V.length cap) V.length (vals V)) (hl : V.length ≤ 1000000000) (hn : V.Nodup) :
 Calls Tryz.prog 80 #[.slice (some ⟨g, 0, none⟩) V.length cap] w fun e w' => e = .returned (.tuple #[]) ∧ ∃ D, D.length = V.length ∧ D.Pairwise (· < ·) ∧ (∀ x, x ∈ D ↔ x ∈ V) ∧ w'.ownsRow base 35 1 (.slice (some ⟨g, 0, none⟩) V.length cap) V.length (vals D) ∧ Keeps (fun k => k = g) w w' := by
 have hlt := (So.own_parts h).2.1
 have hs := So.slices_Sort_u g 0 cap (So.ints V) w (So.own_holds h) hlt (by simp [So.ints]; omega)
 rw [show (So.ints V).length = V.length by simp [So.ints]] at hs
 refine Calls.mono hs ?_
 rintro e w' ⟨rfl, n, os, rfl⟩
 refine ⟨rfl, V.mergeSort fun x y => decide (x ≤ y), ZA7, ?_, fun x => ZA7, ?_⟩
 ·have h1 := List.pairwise_mergeSort (le := fun x y : Nat => decide (x ≤ y)) (fun a b c => ZAV) (fun a b => ZAV) V
  have h2 : (V.mergeSort fun x y => decide (x ≤ y)).Nodup := (List.mergeSort_perm V _).nodup_iff.2 hn
  have h3 := List.Pairwise.and h1 h2
  refine h3.imp ?_
  rintro a b ⟨h4, h5⟩
  simp only [decide_eq_true_eq] at h4
  omega
 ·have e1 : (So.ints V).mergeSort (fun x y => decide (x ≤ y)) = So.ints (V.mergeSort fun x y => decide (x ≤ y)) := by
   unfold So.ints
   exact (List.map_mergeSort (fun a _ b _ => ZA7)).symm
  rw [e1]
  have := So.own_put h (V.mergeSort fun x y => decide (x ≤ y)) ZA7 V.length (Nat.le_refl _) n os
  rwa [List.take_of_length_le ZA7] at this
theorem kvB_keys {E : List (Nat × Value × Nat)} {L : List (Nat × Bx)} (h : kvs E = kvB L) : E.map (·.1) = L.map (·.1) := by
 have : (kvs E).map (·.1) = (kvB L).map (·.1) := by rw [h]
 rw [kvs_keys] at this
 rw [this]; simp [kvB, Function.comp_def]
theorem hasB_keys (L : List (Nat × Bx)) (id : Nat) : hasB L id = true ↔ id ∈ L.map (·.1) := by
 unfold hasB
 rw [List.any_eq_true, List.mem_map]
 constructor
 ·rintro ⟨p, hp, e⟩; exact ⟨p, hp, by simpa using e⟩
 ·rintro ⟨p, hp, e⟩; exact ⟨p, hp, by simpa using e⟩
theorem iter_keys {w : World} {ri r clock : Nat} {E D : List (Nat × Value × Nat)} (h : IterE w ri r E clock D) (hM : MapE kid w r E clock) : (D.map (·.1)).Nodup := by
 have hk := hM.keys
 have inj : ∀ (l : List (Nat × Value × Nat)), (l.map (·.1)).Nodup → ∀ x ∈ l, ∀ y ∈ l, x.1 = y.1 → x = y := by
  intro l
  induction l with
  | nil => intro _ x h; cases h
  | cons z l ih =>
   intro hn x h1 y h2 e
   rw [List.map_cons, List.nodup_cons] at hn
   rcases List.mem_cons.1 h1 with g1 | g1 <;> rcases List.mem_cons.1 h2 with g2 | g2
   ·rw [g1, g2]
   ·exact absurd (List.mem_map.2 ⟨y, g2, by rw [← g1]; exact e.symm⟩) hn.1
   ·exact absurd (List.mem_map.2 ⟨x, g1, by rw [← g2]; exact e⟩) hn.1
   ·exact ih hn.2 x g1 y g2 e
 have hnd := h.nodup
 have hsub := h.sub
 clear h
 induction D with
 | nil => simp
 | cons d D ih =>
  rw [List.map_cons, List.nodup_cons] at hnd ⊢
  refine ⟨fun hm => ?_, ih hnd.2 (fun e he => hsub e ZAz)⟩
  obtain ⟨x, hx, e⟩ := List.mem_map.1 hm
  have := inj E hk x (hsub x ZAt) d (hsub d ZA7) e
  exact hnd.1 (by rw [← this]; exact List.mem_map.2 ⟨x, hx, rfl⟩)
theorem cross_far (w : World) (G r1 r2 r3 : Nat) (s : Int) (hs : Size s) (L : List (Nat × Bx)) (A : List Nat) (M : List CE) (h : GridM w G r1 r2 r3 s L A M) (px py qx qy : Int) (hp : On px py) (hq : On qx qy) (hc : ¬ cnt s (bnd px py qx qy) ≤ 1024) (hN : L.length ≤ 1000000000) :
 Calls Tryz.prog 118 #[.pointer (some ⟨G, 0, none⟩), .agg #[.int .i32 px, .int .i32 py], .agg #[.int .i32 qx, .int .i32 qy]] w (fun e w' => ∃ VB V, e = .returned (.func (.func 92) #[] #[.pointer (some ⟨VB, 0, none⟩)]) ∧ Keeps (fun _ => False) w w' ∧ Vals w.heap.size w' VB V ∧ V.Pairwise (· < ·) ∧ ∀ id, id ∈ V ↔ hasB L id = true) := by
 obtain ⟨E, clock, hE, hkv⟩ := h.m1
 have hEL := kvB_keys hkv
 have HE := Lib.hid (And.intro hE hEL)
 clear hkv hE hEL
 (have z0 := fun W (hk : Keeps (fun _ => False) w W) => there_t W (h.blk.keeps hk (fun h => h)); have z1 := pin_t px py; have z2 := pin_t qx qy; simp only [hp, hq, decide_true] at z1 z2; have HF := Lib.hid (And.intro h (And.intro hN (And.intro hs (And.intro hp hq)))); have bP := (Blk.new w 37 [.int .i32 px, .int .i32 py]).alloc (.cells #[.int .i32 qx, .int .i32 qy] 37); have bQ := Blk.new (w.alloc (.cells #[.int .i32 px, .int .i32 py] 37)) 37 [.int .i32 qx, .int .i32 qy]; simp only [World.size_alloc] at bQ; have HPQ := Lib.hid (And.intro bP bQ); have hbR := bnd_right hp hq; have zc := count_t s hs (bnd px py qx qy) hbR; simp only [bnd] at zc; clear h hN hs hp hq bP bQ hbR)
 obtain ⟨cn, hcn⟩ := ZE (cnt s (bnd px py qx qy))
 have zc' : ∀ w, Calls Tryz.prog 126 #[.agg #[.int .i32 (min px qx), .int .i32 (min py qy), .int .i32 (max px qx), .int .i32 (max py qy)], .int .i64 s] w (Gave (.int .i64 cn) w) := by rw [hcn]; exact zc
 rw [← hcn] at hc
 clear zc hcn
 (go_enter Tryz.func118, Tryz.ntmps118; go_wp2_with (first | (go_at_call 122; refine (z0 _ Z4).mono ?_; rintro e w1 ⟨rfl, rfl⟩) | (go_at_call 85; (with_reducible refine (z1 _).mono ?_); rintro e w1 ⟨rfl, rfl⟩) | (go_at_call 85; (with_reducible refine (z2 _).mono ?_); rintro e w4 ⟨rfl, hw⟩; have HK4 := Lib.hid (show Keeps (fun _ => False) ((w.alloc (.cells #[.int .i32 px, .int .i32 py] 37)).alloc (.cells #[.int .i32 qx, .int .i32 qy] 37)) w4 from ZAI); have cP4 := (HPQ.out.1.keeps HK4.out (fun h => h)).cell; have cQ4 := (HPQ.out.2.keeps HK4.out (fun h => h)).cell; clear hw)); clear cP4 cQ4; refine (Tree.bounds2 w4.heap.size px py qx qy _ (Blk.new w4 37 [.int .i32 px, .int .i32 py, .int .i32 qx, .int .i32 qy])).mono ?_; rintro e w5 ⟨rfl, hk5⟩; have HK5 := Lib.hid (HK4.out.trans (((Keeps.refl (fun _ => False) w4).alloc (.cells #[.int .i32 px, .int .i32 py, .int .i32 qx, .int .i32 qy] 37)).trans hk5)); clear hk5)
 go_wp2
 (have HSN := Lib.hid (show ∀ W', Keeps (fun _ => False) (w5.alloc (.cells #[.int .i32 (min px qx), .int .i32 (min py qy), .int .i32 (max px qx), .int .i32 (max py qy)] 39)) W' → (∀ i : Nat, W'.cell? ⟨w.heap.size, i, none⟩ = ([.int .i32 px, .int .i32 py] : List Value)[i]?) ∧ (∀ i : Nat, W'.cell? ⟨w.heap.size + 1, i, none⟩ = ([.int .i32 qx, .int .i32 qy] : List Value)[i]?) ∧ (∀ i : Nat, W'.cell? ⟨w5.heap.size, i, none⟩ = ([.int .i32 (min px qx), .int .i32 (min py qy), .int .i32 (max px qx), .int .i32 (max py qy)] : List Value)[i]?) ∧ (∀ i : Nat, W'.cell? ⟨G, i, none⟩ = ([.int .i64 s, .map (some r1), .map (some r2), .map (some r3)] : List Value)[i]?) from fun W' hk => ZA9))
 go_region_held3 (fun W => (∀ i : Nat, W.cell? ⟨w.heap.size, i, none⟩ = ([.int .i32 px, .int .i32 py] : List Value)[i]?) ∧ (∀ i : Nat, W.cell? ⟨w.heap.size + 1, i, none⟩ = ([.int .i32 qx, .int .i32 qy] : List Value)[i]?) ∧ (∀ i : Nat, W.cell? ⟨w5.heap.size, i, none⟩ = ([.int .i32 (min px qx), .int .i32 (min py qy), .int .i32 (max px qx), .int .i32 (max py qy)] : List Value)[i]?) ∧ (∀ i : Nat, W.cell? ⟨G, i, none⟩ = ([.int .i64 s, .map (some r1), .map (some r2), .map (some r3)] : List Value)[i]?)) (first | with_reducible assumption | exact HSN.out _ ZA5) (first
  | (go_at_call 126; (with_reducible refine (zc' _).mono ?_); rintro e w6 ⟨rfl, hk6⟩; have HK6 := Lib.hid (show Keeps (fun _ => False) (w5.alloc (.cells #[.int .i32 (min px qx), .int .i32 (min py qy), .int .i32 (max px qx), .int .i32 (max py qy)] 39)) w6 from ((Keeps.refl _ _).drew).trans hk6); clear hk6))
 have HKw := Lib.hid (show Keeps (fun _ => False) w w6 from (((Keeps.refl (fun _ => False) w).alloc (.cells #[.int .i32 px, .int .i32 py] 37)).alloc (.cells #[.int .i32 qx, .int .i32 qy] 37)).trans (HK5.out.trans (((Keeps.refl (fun _ => False) w5).alloc (.cells #[.int .i32 (min px qx), .int .i32 (min py qy), .int .i32 (max px qx), .int .i32 (max py qy)] 39)).trans HK6.out)))
 have hE6 := HE.out.1.keeps HKw.out (fun h => h)
 have hrg := run_range_map (P := Tryz.prog) w6 60 _ _ r1 _ clock Tryz.underlying60 hE6.heap
 have cG : ∀ i : Nat, w6.cell? ⟨G, i, none⟩ = ([.int .i64 s, .map (some r1), .map (some r2), .map (some r3)] : List Value)[i]? := (HF.out.1.blk.keeps HKw.out (fun h => h)).cell
 have hIt0 : IterE (w6.alloc (.mapIter (some r1) clock #[] clock)) w6.heap.size r1 E clock [] := ⟨heap_alloc_new w6 _, ZA7, ZA7⟩
 have HI0 := Lib.hid hIt0
 have hEl : E.length = L.length := by have := HE.out.2; rw [← List.length_map (f := (·.1)), this, List.length_map]
 have hLl := HF.out.2.1
 have HLL := Lib.hid (show E.length ≤ 1000000000 from Z8)
 clear hE6 hIt0 hEl hLl
 go_wp2
 obtain ⟨i0, hi0, hz0, hz1, hz2⟩ := info_parts u32Info
 go_loopw [9, 10] (fun v9 _ wr => ∃ (D : List (Nat × Value × Nat)) (sa : Option Addr) (cp : Nat), v9 = .slice sa D.length cp ∧ IterE wr w6.heap.size r1 E clock D ∧ Keeps (fun _ => False) w6 wr ∧ wr.ownsRow w6.heap.size 35 1 (.slice sa D.length cp) D.length (vals (D.map (·.1)))) (fun _ _ wr => leftN E w6.heap.size wr)
 case atStart => exact ⟨[], none, 0, rfl, HI0.out, Z4, World.ownsRow_nil _ _ _ _⟩
 case round =>
  obtain ⟨D, sa, cp, rfl, hIt, hkr, hown⟩ := hrel
  have hEr := HE.out.1.keeps (HKw.out.trans hkr) (fun h => h)
  have hkeys := iter_keys hIt hEr
  rcases hIt.next (P := Tryz.prog) hEr with ⟨hnx, hall⟩ | ⟨e, he, w7, hnx, hen, hk7, hIt7, hlt⟩
  ·obtain ⟨V, hV⟩ := ZE (D.map (·.1))
   have hl0 : V.length = D.length := by rw [hV]; simp
   rw [← hV] at hown hkeys
   have hmem : ∀ id, id ∈ V ↔ hasB L id = true := fun id => by
    rw [hV, hasB_keys, ← HE.out.2]
    constructor
    ·intro hm; obtain ⟨e, he, rfl⟩ := List.mem_map.1 hm; exact List.mem_map.2 ⟨e, hIt.sub e he, rfl⟩
    ·intro hm; obtain ⟨e, he, rfl⟩ := List.mem_map.1 hm; exact List.mem_map.2 ⟨e, hall e he, rfl⟩
   have hVl : V.length ≤ 1000000000 := by have := hIt.len; have := HLL.out; omega
   have hparts := hown.2
   rw [← hl0] at hown hparts ⊢
   have HX := Lib.hid (And.intro hmem (And.intro hVl (And.intro (HKw.out.trans hkr) (And.intro hown (And.intro HKw.out.size (And.intro hkr.size hkeys))))))
   clear hIt hkr hall hEr hrg cG hV hmem hl0
   obtain ⟨n, hn⟩ := ZE V.length
   have HN := Lib.hid hn
   rw [← hn] at hparts hown hVl ⊢
   clear hown hVl hkeys
   rcases hparts with ⟨hnil, h0⟩ | ⟨g, cap, cur, hsl, _⟩
   ·have hn1 : n ≤ 1 := by omega
    have H0 := Lib.hid h0
    clear h0 hn hnil
    go_wp2_with (first
     | (go_at_call 80; refine (sort1 _ _ _ hn1 _).mono ?_; rintro e w1 ⟨⟨v, rfl⟩, rfl⟩)
     | (go_at_call 81; refine (values_any _ _ _ _).mono ?_; rintro e w1 ⟨rfl, rfl⟩))
    refine bodyPost_ret (results_tmp rfl _ _ _) rfl ?_
    obtain ⟨hmem, hVl, hk, hown, hz1, hz2, hkeys⟩ := HX.out
    have hVe : V = [] := List.length_eq_zero_iff.1 (by have := H0.out; have := HN.out; omega)
    rw [← HN.out] at hown
    refine ⟨wr.heap.size, V, rfl, hk.alloc _, ⟨Z8, sa, cp, by have := Blk.new wr 45 [.slice sa n cp]; rwa [← HN.out], ?_⟩, by rw [hVe]; simp, hmem⟩
    have h7 : (wr.alloc (.cells #[.slice sa n cp] 45)).ownsRow w.heap.size 35 1 (.slice sa n cp) n (vals V) := (own_mono hown hz1).alloc _
    rw [← HN.out]
    exact h7
   ·simp only [Value.slice.injEq] at hsl
    obtain ⟨rfl, _, rfl⟩ := hsl
    have hso := sort_perm HX.out.2.2.2.1 HX.out.2.1 HX.out.2.2.2.2.2.2
    rw [← hn] at hso
    have HSo := Lib.hid hso
    clear hso hn
    go_wp2_with (first
     | (go_at_call 80; refine HSo.out.mono ?_; rintro e w8 ⟨rfl, C, hC⟩; have HC := Lib.hid hC; clear hC)
     | (go_at_call 81; refine (values_any _ _ _ _).mono ?_; rintro e w9 ⟨rfl, rfl⟩))
    refine bodyPost_ret (results_tmp rfl _ _ _) rfl ?_
    obtain ⟨hmem, hVl, hk, hown, hz1, hz2, hkeys⟩ := HX.out
    obtain ⟨c1, c2, c3, c4, c5⟩ := HC.out
    rw [← HN.out] at hown
    have hgl := (hown.lt g rfl).1
    refine ⟨w8.heap.size, C, rfl, (hk.then c5 (fun i hi e => Z8)).alloc _, ⟨by have := c5.size; omega, some ⟨g, 0, none⟩, cp, ?_, ?_⟩, c2, fun id => (c3 id).trans (hmem id)⟩
    ·rw [c1]; exact Blk.new w8 45 [.slice (some ⟨g, 0, none⟩) n cp]
    ·have h7 : (w8.alloc (.cells #[.slice (some ⟨g, 0, none⟩) n cp] 45)).ownsRow w.heap.size 35 1 (.slice (some ⟨g, 0, none⟩) n cp) n (vals C) := (own_mono c4 hz1).alloc _
     rw [c1]; exact h7
  ·obtain ⟨id, v, st⟩ := e
   simp only at hnx hen
   simp only [kid] at hnx hen
   have ho7 := owns_keeps hown hk7 (fun b hb e => hIt.own_ne hown (by rw [hb, e]))
   have hril := hIt.lt
   have HX := Lib.hid (And.intro hIt7 (And.intro (hkr.then hk7 (fun i hi e => Z8)) (And.intro ho7 hlt)))
   have hDl : (D.length : Int) ≤ 1000000000 := by have := hIt.len; have := HLL.out; omega
   have hz67 : w6.heap.size ≤ w7.heap.size := by have := hkr.size; have := hk7.size; omega
   clear hIt hkr hown hEr hrg cG ho7 hIt7 hk7 hlt he hkeys hril
   go_wp2_with (at_builtin; refine wpList_append_own_at _ rfl (.tmp 57) (.tmp 59) 45 rfl w6.heap.size 35 i0 _ 1 4 Tryz.underlying45 hi0 hz0 hz1 hz2 rfl ZAH (.slice sa D.length cp) D.length (vals (D.map (·.1))) rfl (HX.out.2.2.1.alloc _) ⟨w7.heap.size, 0, none⟩ 1 1 [.int .u32 (id : Int)] rfl rfl (by exact Mem.news_new w7 _ [_]) ZA6 ZAx Z8 (by simp only [World.size_alloc]; omega) ?_; intro v' w1 hown hgrow _ hat; obtain ⟨g', cap', rfl⟩ := ownsRow_succ hown; have HR := Lib.hid (And.intro hown (And.intro hgrow hat)); clear hown hgrow hat)
   obtain ⟨hIt7, hkr7, ho7, hlt⟩ := HX.out
   obtain ⟨hown, hgrow, hat⟩ := HR.out
   have hkA : Keeps (fun k => some k = (Value.slice sa D.length cp).ownBlock) w7 w1 := (((Keeps.refl (fun _ => False) w7).alloc (.cells #[.int .u32 (id : Int)] 35)).mono (fun _ _ h => h.elim)).trans (Keeps.of_grown hgrow)
   have hnri : ¬ (some w6.heap.size = (Value.slice sa D.length cp).ownBlock) := fun e => hIt7.own_ne ho7 e.symm
   go_roundw
   case rel =>
    refine ⟨D ++ [(id, v, st)], some ⟨g', 0, none⟩, cap', ZA7, hIt7.keeps hkA hnri, hkr7.then hkA (fun i hi h => ?_), ?_⟩
    ·have := (ho7.lt i h.symm).1; omega
    ·have e1 : vals (D.map (·.1)) ++ [.int .u32 (id : Int)] = vals ((D ++ [(id, v, st)]).map (·.1)) := by simp [vals]
     rw [e1] at hown
     simpa using hown
   case measure =>
    have e1 : leftN E w6.heap.size w1 = leftN E w6.heap.size w7 := by
     unfold leftN
     rw [hkA.block _ hIt7.lt hnri]
    rw [e1]; exact hlt
end Gs
end Go.Proofs.YtdbpfbokfmpgcaaGreat
