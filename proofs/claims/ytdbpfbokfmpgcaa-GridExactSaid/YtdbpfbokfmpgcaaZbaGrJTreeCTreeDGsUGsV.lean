/-
GrJ: At at one cell; Len.
points and boxes: Right, Meet, around, Join, Bounds of two points.
Bounds of two points; Meet.
GsU: At, Len, Cells.
GsV: Crossing, where the cells of its box are few.
-/
import Derived.Test.YtdbpfbokfmpgcaaZaxGrFGrGGrHGrI
import Derived.Test.YtdbpfbokfmpgcaaZaaMemIterTreeAHeldGrA
import Derived.Deep.RegionLaw
import Derived.Deep.RegionHeld3
import Derived.Test.YtdbpfbokfmpgcaaZazGsR
namespace Go.Proofs.Ytdbpfbokfmpgcaa
open Go.RowKit Go.Shelf
set_option linter.unusedVariables false
set_option linter.unusedSimpArgs false
attribute [local go_sem] Oper.semAt_some
namespace Gr
open Mem
theorem PutG.kd {w w' : World} {G r1 r2 r3 : Nat} (h : PutG w G r1 r2 r3) (hk : Keeps (fun _ => False) w w') : PutG w' G r1 r2 r3 := by
  obtain ⟨h1, h2, ⟨g, cap, h3, h4⟩, h5, h6⟩ := h
  exact ⟨h1.keeps hk (fun h => h), h2.keeps hk (fun h => h), ⟨g, cap, h3.keeps hk (fun h => h), owns_keeps h4 hk (fun _ _ h => h)⟩, h5.keeps hk (fun h => h), h6⟩
theorem Vals.mono {b b' : Nat} {w : World} {VB : Nat} {V : List Nat} (h : Vals b w VB V) (hb : b' ≤ b) : Vals b' w VB V := by
  obtain ⟨h1, a, cp, h2, h3⟩ := h
  exact ⟨Nat.le_trans hb h1, a, cp, h2, own_mono h3 hb⟩
theorem Vals.keeps {b : Nat} {w w' : World} {S : Nat → Prop} {VB : Nat} {V : List Nat} (h : Vals b w VB V) (hk : Keeps S w w') (hS : ∀ k, S k → k < b) : Vals b w' VB V := by
  obtain ⟨h1, a, cp, h2, h3⟩ := h
  exact ⟨h1, a, cp, h2.keeps hk (fun h => by have := hS _ h; omega), owns_keeps h3 hk (fun k hk' h => by have := hS _ h; have := (h3.lt k hk').1; omega)⟩
set_option maxHeartbeats 4000000 in
set_option maxRecDepth 100000 in
theorem at_of (w : World) (G r1 r2 r3 g cap : Nat) (x c : Int) (vv : Value) (V : List Nat) (hx : 0 ≤ x) (hx2 : x ≤ 100) (hV : V.length ≤ 1) (hG : Blk w G 52 [.int .i64 10, .map (some r1), .map (some r2), .map (some r3)]) (hM3 : Mp w r3 #[] 0) (hM0 : Mp w r2 #[⟨.agg #[.int .i32 0, .int .i32 0], .slice (some ⟨g, 0, none⟩) 1 cap, 0⟩] 1) (hO0 : w.ownsRow 0 31 1 (.slice (some ⟨g, 0, none⟩) 1 cap) 1 [.int .u32 4])
    (hlk : ∀ W : World, Mp W r2 #[⟨.agg #[.int .i32 0, .int .i32 0], .slice (some ⟨g, 0, none⟩) 1 cap, 0⟩] 1 → (Instr.lookup 49 (.map (some r2)) (.agg #[.int .i32 c, .int .i32 0]) false).run Try.prog W = .ok vv W)
    (hvv : (vv = .slice (some ⟨g, 0, none⟩) 1 cap ∧ V = [4]) ∨ (vv = .slice none 0 0 ∧ V = []))
    (hline : ∀ (n SB PB QB : Nat) (W : World), Blk W SB 2 [.int .i64 10] → Blk W PB 33 [.int .i32 x, .int .i32 3] → Blk W QB 33 [.int .i32 x, .int .i32 3] → Gives Try.prog n 38 #[.pointer (some ⟨SB, 0, none⟩), .pointer (some ⟨PB, 0, none⟩), .pointer (some ⟨QB, 0, none⟩)] (fun c : Int × Int => #[.agg #[.int .i32 c.1, .int .i32 c.2]]) [(c, 0)] W (fun _ => True)) :
    Calls Try.prog 7 #[.pointer (some ⟨G, 0, none⟩), .agg #[.int .i32 x, .int .i32 3]] w fun e w' => ∃ VB, e = .returned (.func (.func 35) #[] #[.pointer (some ⟨VB, 0, none⟩)]) ∧ Keeps (fun _ => False) w w' ∧ Vals w.heap.size w' VB V := by
  have HL := Lib.hid hlk
  have HV := Lib.hid hvv
  have HLn := Lib.hid hline
  have HF := Lib.hid (And.intro hG (And.intro hM3 (And.intro hM0 hO0)))
  have HP := Lib.hid (Blk.new w 33 [.int .i32 x, .int .i32 3])
  clear hlk hvv hline hG hM3 hM0 hO0
  go_enter Try.func7, Try.ntmps7
  go_wp2_with (first
    | (go_at_call 14; refine (there_yes _ G r1 r2 r3 (HF.out.1.alloc _)).mono ?_; rintro e w1 ⟨rfl, rfl⟩)
    | (go_at_call 15; refine (pin_yes x 3 _ hx (by decide) hx2 (by decide)).mono ?_; rintro e w4 ⟨rfl, hw⟩; have HK4 := Lib.hid (show Keeps (fun _ => False) (w.alloc (.cells #[.int .i32 x, .int .i32 3] 33)) w4 from by rw [← hw]; (repeat (first | exact Keeps.refl _ _ | refine Keeps.alloc ?_ _ | refine Keeps.drew ?_))); clear hw))
  have HSN := Lib.hid (show ∀ W', Keeps (fun _ => False) w4 W' → (∀ i : Nat, W'.cell? ⟨w.heap.size, i, none⟩ = ([.int .i32 x, .int .i32 3] : List Value)[i]?) ∧ (∀ i : Nat, W'.cell? ⟨G, i, none⟩ = ([.int .i64 10, .map (some r1), .map (some r2), .map (some r3)] : List Value)[i]?) from fun W' hk => ⟨(HP.out.keeps (HK4.out.trans hk) (fun h => h)).cell, (HF.out.1.keeps ((((Keeps.refl _ w).alloc _).trans HK4.out).trans hk) (fun h => h)).cell⟩)
  go_region_held3 (fun W => (∀ i : Nat, W.cell? ⟨w.heap.size, i, none⟩ = ([.int .i32 x, .int .i32 3] : List Value)[i]?) ∧ (∀ i : Nat, W.cell? ⟨G, i, none⟩ = ([.int .i64 10, .map (some r1), .map (some r2), .map (some r3)] : List Value)[i]?)) (first | with_reducible assumption | exact HSN.out _ (by first | exact HK6.out | exact HK7.out | (repeat (first | exact Keeps.refl _ _ | refine Keeps.alloc ?_ _ | refine Keeps.drew ?_)))) (first
    | (go_at_call 18; (with_reducible refine (line_any _ _ _).mono ?_); rintro e w6 ⟨rfl, hw6⟩; have HK6 := Lib.hid (show Keeps (fun _ => False) w4 w6 from by rw [← hw6]; (repeat (first | exact Keeps.refl _ _ | refine Keeps.alloc ?_ _ | refine Keeps.drew ?_))); have HB6 := Lib.hid (show Blk w6 (w4.heap.size + 1 + 1) 2 [.int .i64 10] ∧ Blk w6 w4.heap.size 33 [.int .i32 x, .int .i32 3] ∧ Blk w6 (w4.heap.size + 1) 33 [.int .i32 x, .int .i32 3] from by rw [← hw6]; exact ⟨by have := Blk.new ((w4.drew.alloc (.cells #[.int .i32 x, .int .i32 3] 33)).alloc (.cells #[.int .i32 x, .int .i32 3] 33)) 2 [.int .i64 10]; simpa [Blk] using this, ((Blk.new w4.drew 33 [.int .i32 x, .int .i32 3]).alloc _).alloc _, by have := (Blk.new (w4.drew.alloc (.cells #[.int .i32 x, .int .i32 3] 33)) 33 [.int .i32 x, .int .i32 3]).alloc (.cells #[.int .i64 10] 2); simpa [Blk] using this⟩); clear hw6)
    | (go_at_call 17; have hkw := (((Keeps.refl (fun _ => False) w).alloc (.cells #[.int .i32 x, .int .i32 3] 33)).trans HK4.out).trans HK6.out; (with_reducible refine (told_at w6 G r1 r2 r3 g cap _ _ _ c vv V hV (HF.out.1.keeps hkw (fun h => h)) (HF.out.2.1.keeps hkw (fun h => h)) (HF.out.2.2.1.keeps hkw (fun h => h)) (owns_keeps HF.out.2.2.2 hkw (fun _ _ h => h)) HL.out HV.out (fun W1 hk => HLn.out 8 _ _ _ W1 (HB6.out.1.keeps hk (fun h => h)) (HB6.out.2.1.keeps hk (fun h => h)) (HB6.out.2.2.keeps hk (fun h => h)))).mono ?_); rintro e w7 ⟨VB, rfl, hk7, hv7⟩; have HK7 := Lib.hid (HK6.out.trans hk7); have HW := Lib.hid (And.intro (hkw.trans hk7) (And.intro hkw.size hv7)); clear hk7 hv7 hkw))
  all_goals
    go_wp2
    go_ret
    exact ⟨VB, rfl, HW.out.1, Vals.mono HW.out.2.2 HW.out.2.1⟩
theorem at3 (w : World) (G r1 r2 r3 : Nat) (h : PutG w G r1 r2 r3) : Calls Try.prog 7 #[.pointer (some ⟨G, 0, none⟩), .agg #[.int .i32 3, .int .i32 3]] w fun e w' => ∃ VB, e = .returned (.func (.func 35) #[] #[.pointer (some ⟨VB, 0, none⟩)]) ∧ Keeps (fun _ => False) w w' ∧ Vals w.heap.size w' VB [4] := by
  obtain ⟨h1, h2, ⟨g, cap, h3, h4⟩, h5, h6⟩ := h
  exact at_of w G r1 r2 r3 g cap 3 0 (.slice (some ⟨g, 0, none⟩) 1 cap) [4] (by decide) (by decide) (by decide) h1 h5 h3 h4 (fun W hM => lk62y hM) (.inl ⟨rfl, rfl⟩) line33_gives
theorem at50 (w : World) (G r1 r2 r3 : Nat) (h : PutG w G r1 r2 r3) : Calls Try.prog 7 #[.pointer (some ⟨G, 0, none⟩), .agg #[.int .i32 50, .int .i32 3]] w fun e w' => ∃ VB, e = .returned (.func (.func 35) #[] #[.pointer (some ⟨VB, 0, none⟩)]) ∧ Keeps (fun _ => False) w w' ∧ Vals w.heap.size w' VB [] := by
  obtain ⟨h1, h2, ⟨g, cap, h3, h4⟩, h5, h6⟩ := h
  exact at_of w G r1 r2 r3 g cap 50 5 (.slice none 0 0) [] (by decide) (by decide) (by decide) h1 h5 h3 h4 (fun W hM => lk62n hM) (.inr ⟨rfl, rfl⟩) line503_gives
theorem len61 {W : World} {r k : Nat} {es : Array MapEntry} (h : Mp W r es k) (ty : TypeId) : (Builtin.len_ #[48] ty #[.map (some r)]).run Try.prog W = .ok (.int .i64 (es.size : Int)) W := by
  simp [Builtin.len_, Builtin.lenOf, run_underlying Try.underlying48, MapKept.run_getObj_map h, Result.andThen, goInt]
theorem len_one (w : World) (G r1 r2 r3 : Nat) (h : PutG w G r1 r2 r3) : Calls Try.prog 13 #[.pointer (some ⟨G, 0, none⟩)] w fun e w' => e = .returned (.int .i64 1) ∧ w = w' := by
  have hl := len61 h.2.1
  simp only [List.size_toArray, List.length_cons, List.length_nil] at hl
  have HT := Lib.hid h.1
  have cG := h.1.cell
  clear h
  go_enter Try.func13, Try.ntmps13
  go_wp2_with (go_at_call 14; refine (there_yes _ G r1 r2 r3 HT.out).mono ?_; rintro e w1 ⟨rfl, rfl⟩)
  go_ret
  exact ⟨rfl, rfl⟩
end Gr
end Go.Proofs.Ytdbpfbokfmpgcaa
namespace Go.Proofs.Ytdbpfbokfmpgcaa
open Go.RowKit
set_option linter.unusedVariables false
namespace Tree
open Mem
structure Bx where
  x0 : Int
  y0 : Int
  x1 : Int
  y1 : Int
deriving DecidableEq
def Bx.val (b : Bx) : Value := .agg #[.int .i32 b.x0, .int .i32 b.y0, .int .i32 b.x1, .int .i32 b.y1]
def Bx.right (b : Bx) : Bool := decide (b.x0 ≤ b.x1) && decide (b.y0 ≤ b.y1)
def Bx.meet (a b : Bx) : Bool := a.right && b.right && decide (a.x0 ≤ b.x1) && decide (b.x0 ≤ a.x1) && decide (a.y0 ≤ b.y1) && decide (b.y0 ≤ a.y1)
def Bx.join (a b : Bx) : Bx := ⟨min a.x0 b.x0, min a.y0 b.y0, max a.x1 b.x1, max a.y1 b.y1⟩
def Gave (v : Value) (w : World) (e : Ending) (w' : World) : Prop := e = .returned v ∧ Keeps (fun _ => False) w w'
theorem right_any (x0 y0 x1 y1 : Int) (w : World) :
    Calls Try.prog 71 #[.agg #[.int .i32 x0, .int .i32 y0, .int .i32 x1, .int .i32 y1]] w (Gave (.bool (Bx.right ⟨x0, y0, x1, y1⟩)) w) := by
  by_cases h1 : x0 ≤ x1
  · go_enter Try.func71, Try.ntmps71
    go_wp2
    go_ret
    exact ⟨by simp [Bx.right, h1], (Keeps.refl _ w).alloc _⟩
  · go_enter Try.func71, Try.ntmps71
    go_wp2
    go_ret
    exact ⟨by simp [Bx.right]; omega, (Keeps.refl _ w).alloc _⟩
theorem right_yes (x0 y0 x1 y1 : Int) (w : World) (h1 : x0 ≤ x1) (h2 : y0 ≤ y1) :
    Calls Try.prog 71 #[.agg #[.int .i32 x0, .int .i32 y0, .int .i32 x1, .int .i32 y1]] w fun e w' => e = .returned (.bool true) ∧ w.alloc (.cells #[.int .i32 x0, .int .i32 y0, .int .i32 x1, .int .i32 y1] 35) = w' := by
  go_enter Try.func71, Try.ntmps71
  go_wp2
  go_ret
  exact ⟨rfl, rfl⟩
theorem around_any (ax ay bx by_ : Int) (w : World) :
    Calls Try.prog 72 #[.agg #[.int .i32 ax, .int .i32 ay], .agg #[.int .i32 bx, .int .i32 by_]] w
      (Gave (.agg #[.int .i32 (min ax bx), .int .i32 (min ay by_), .int .i32 (max ax bx), .int .i32 (max ay by_)]) w) := by
  go_enter Try.func72, Try.ntmps72
  go_wp2
  all_goals
    refine bodyPost_ret (v := .agg #[.int .i32 (min ax bx), .int .i32 (min ay by_), .int .i32 (max ax bx), .int .i32 (max ay by_)]) ?_ rfl ⟨rfl, (((Keeps.refl _ w).alloc _).alloc _).alloc _⟩
    simp [results, Try.results72, go_sem]
    try omega
theorem field_min (a b c d : Value) (W : World) : (Instr.field 35 (.agg #[a, b, c, d]) 0).run Try.prog W = .ok (.agg #[a, b]) W := by kernel_rfl
theorem field_max (a b c d : Value) (W : World) : (Instr.field 35 (.agg #[a, b, c, d]) 1).run Try.prog W = .ok (.agg #[c, d]) W := by kernel_rfl
set_option maxHeartbeats 2000000 in
set_option maxRecDepth 100000 in
theorem join_any (a b : Bx) (w : World) (ha1 : a.x0 ≤ a.x1) (ha2 : a.y0 ≤ a.y1) (hb1 : b.x0 ≤ b.x1) (hb2 : b.y0 ≤ b.y1) :
    Calls Try.prog 57 #[.agg #[.int .i32 a.x0, .int .i32 a.y0, .int .i32 a.x1, .int .i32 a.y1], .agg #[.int .i32 b.x0, .int .i32 b.y0, .int .i32 b.x1, .int .i32 b.y1]] w (Gave (Bx.join a b).val w) := by
  obtain ⟨ax0, ay0, ax1, ay1⟩ := a
  obtain ⟨bx0, by0, bx1, by1⟩ := b
  simp only at ha1 ha2 hb1 hb2 ⊢
  go_enter Try.func57, Try.ntmps57
  go_wp2_with (go_at_call 71; refine (right_yes _ _ _ _ _ (by assumption) (by assumption)).mono ?_; rintro e w1 ⟨rfl, rfl⟩)
  obtain ⟨w1, hw1⟩ : ∃ w1, w1 = ((((((w.alloc (.cells #[.int .i32 ax0, .int .i32 ay0, .int .i32 ax1, .int .i32 ay1] 35)).alloc (.cells #[.int .i32 bx0, .int .i32 by0, .int .i32 bx1, .int .i32 by1] 35)).alloc (.cells #[.int .i32 0, .int .i32 0, .int .i32 0, .int .i32 0] 35)).alloc (.cells #[.int .i32 ax0, .int .i32 ay0, .int .i32 ax1, .int .i32 ay1] 35)).alloc (.cells #[.int .i32 ax0, .int .i32 ay0, .int .i32 ax1, .int .i32 ay1] 35)).alloc (.cells #[.int .i32 bx0, .int .i32 by0, .int .i32 bx1, .int .i32 by1] 35)) := ⟨_, rfl⟩
  have hA : Blk w1 w.heap.size 35 [.int .i32 ax0, .int .i32 ay0, .int .i32 ax1, .int .i32 ay1] := by rw [hw1]; exact ((((((Blk.new w 35 [.int .i32 ax0, .int .i32 ay0, .int .i32 ax1, .int .i32 ay1])).alloc _).alloc _).alloc _).alloc _).alloc _
  have hB : Blk w1 (w.heap.size + 1) 35 [.int .i32 bx0, .int .i32 by0, .int .i32 bx1, .int .i32 by1] := by
    rw [hw1]; have := ((((Blk.new (w.alloc (.cells #[.int .i32 ax0, .int .i32 ay0, .int .i32 ax1, .int .i32 ay1] 35)) 35 [.int .i32 bx0, .int .i32 by0, .int .i32 bx1, .int .i32 by1]).alloc (.cells #[.int .i32 0, .int .i32 0, .int .i32 0, .int .i32 0] 35)).alloc (.cells #[.int .i32 ax0, .int .i32 ay0, .int .i32 ax1, .int .i32 ay1] 35)).alloc (.cells #[.int .i32 ax0, .int .i32 ay0, .int .i32 ax1, .int .i32 ay1] 35)).alloc (.cells #[.int .i32 bx0, .int .i32 by0, .int .i32 bx1, .int .i32 by1] 35)
    simpa using this
  have hR : Blk w1 (w.heap.size + 1 + 1) 35 [.int .i32 0, .int .i32 0, .int .i32 0, .int .i32 0] := by
    rw [hw1]; have := (((Blk.new ((w.alloc (.cells #[.int .i32 ax0, .int .i32 ay0, .int .i32 ax1, .int .i32 ay1] 35)).alloc (.cells #[.int .i32 bx0, .int .i32 by0, .int .i32 bx1, .int .i32 by1] 35)) 35 [.int .i32 0, .int .i32 0, .int .i32 0, .int .i32 0]).alloc (.cells #[.int .i32 ax0, .int .i32 ay0, .int .i32 ax1, .int .i32 ay1] 35)).alloc (.cells #[.int .i32 ax0, .int .i32 ay0, .int .i32 ax1, .int .i32 ay1] 35)).alloc (.cells #[.int .i32 bx0, .int .i32 by0, .int .i32 bx1, .int .i32 by1] 35)
    simpa using this
  have hK : Keeps (fun _ => False) w w1 := by rw [hw1]; exact ((((((Keeps.refl _ w).alloc _).alloc _).alloc _).alloc _).alloc _).alloc _
  rw [← hw1]
  clear hw1
  have cA := hA.cell
  have cB := hB.cell
  have cR := hR.cell
  have fR := hR.frozen
  have fmin := field_min
  have fmax := field_max
  go_region_held3 (fun W => (∀ i, W.cell? ⟨w.heap.size, i, none⟩ = ([.int .i32 ax0, .int .i32 ay0, .int .i32 ax1, .int .i32 ay1] : List Value)[i]?) ∧ (∀ i, W.cell? ⟨w.heap.size + 1, i, none⟩ = ([.int .i32 bx0, .int .i32 by0, .int .i32 bx1, .int .i32 by1] : List Value)[i]?)) (first | exact ⟨cA, cB⟩ | exact ⟨((((hA.far (by simp; omega) _).far (by simp; omega) _).far (by simp; omega) _).far (by simp; omega) _).cell, ((((hB.far (by simp) _).far (by simp) _).far (by simp) _).far (by simp) _).cell⟩) (first | (go_at_call 72; refine (around_any _ _ _ _ _).mono ?_; rintro e w2 ⟨rfl, hk⟩; have hA := hA.kd hk; have hB := hB.kd hk; have hR := hR.kd hk; have hK := hK.td hk; have cA := hA.cell; have cB := hB.cell; have cR := hR.cell; have fR := hR.frozen))
  go_wp2
  have hRf := (((hR.set_ 0 (.int .i32 (min ax0 bx0))).set_ 1 (.int .i32 (min ay0 by0))).set_ 2 (.int .i32 (max ax1 bx1))).set_ 3 (.int .i32 (max ay1 by1))
  refine bodyPost_ret (v := .agg #[.int .i32 (min ax0 bx0), .int .i32 (min ay0 by0), .int .i32 (max ax1 bx1), .int .i32 (max ay1 by1)]) ?_ rfl ⟨rfl, ?_⟩
  · exact results_cell_row rfl _ _ (w.heap.size + 1 + 1) _ _ _ _ rfl hRf Try.underlying35 rfl (by kernel_rfl)
  · exact (((hK.setCell (p := ⟨w.heap.size + 1 + 1, 0, none⟩) (by simp; omega) _).setCell (p := ⟨w.heap.size + 1 + 1, 1, none⟩) (by simp; omega) _).setCell (p := ⟨w.heap.size + 1 + 1, 2, none⟩) (by simp; omega) _).setCell (p := ⟨w.heap.size + 1 + 1, 3, none⟩) (by simp; omega) _
end Tree
end Go.Proofs.Ytdbpfbokfmpgcaa
namespace Go.Proofs.Ytdbpfbokfmpgcaa
open Go.RowKit
set_option linter.unusedVariables false
namespace Tree
open Mem
set_option maxRecDepth 100000 in
theorem bounds2 (g : Nat) (px py qx qy : Int) (w : World) (hG : Blk w g 33 [.int .i32 px, .int .i32 py, .int .i32 qx, .int .i32 qy]) :
    Calls Try.prog 47 #[.slice (some ⟨g, 0, none⟩) 2 2] w
      (Gave (.tuple #[.agg #[.int .i32 (min px qx), .int .i32 (min py qy), .int .i32 (max px qx), .int .i32 (max py qy)], .bool true]) w) := by
  have cG := hG.cell
  have hlt := hG.lt
  go_enter Try.func47, Try.ntmps47
  go_wp2
  go_region
  go_wp2
  refine wp_loop_rounds 2 ?_
  rw [rounds_succ]
  go_wp2_with fail
  have hR : Blk (((w.alloc (.cells #[.int .i32 0, .int .i32 0, .int .i32 0, .int .i32 0] 35)).alloc (.cells #[.int .i32 px, .int .i32 py, .int .i32 px, .int .i32 py] 35)).alloc (.cells #[.int .i32 qx, .int .i32 qy] 33)) w.heap.size 35 [.int .i32 0, .int .i32 0, .int .i32 0, .int .i32 0] := ((Blk.new w 35 [.int .i32 0, .int .i32 0, .int .i32 0, .int .i32 0]).alloc _).alloc _
  have hB : Blk (((w.alloc (.cells #[.int .i32 0, .int .i32 0, .int .i32 0, .int .i32 0] 35)).alloc (.cells #[.int .i32 px, .int .i32 py, .int .i32 px, .int .i32 py] 35)).alloc (.cells #[.int .i32 qx, .int .i32 qy] 33)) (w.heap.size + 1) 35 [.int .i32 px, .int .i32 py, .int .i32 px, .int .i32 py] := by
    have := (Blk.new (w.alloc (.cells #[.int .i32 0, .int .i32 0, .int .i32 0, .int .i32 0] 35)) 35 [.int .i32 px, .int .i32 py, .int .i32 px, .int .i32 py]).alloc (.cells #[.int .i32 qx, .int .i32 qy] 33)
    simpa using this
  have hG1 : Blk (((w.alloc (.cells #[.int .i32 0, .int .i32 0, .int .i32 0, .int .i32 0] 35)).alloc (.cells #[.int .i32 px, .int .i32 py, .int .i32 px, .int .i32 py] 35)).alloc (.cells #[.int .i32 qx, .int .i32 qy] 33)) g 33 [.int .i32 px, .int .i32 py, .int .i32 qx, .int .i32 qy] := ((hG.alloc _).alloc _).alloc _
  have hK : Keeps (fun _ => False) w (((w.alloc (.cells #[.int .i32 0, .int .i32 0, .int .i32 0, .int .i32 0] 35)).alloc (.cells #[.int .i32 px, .int .i32 py, .int .i32 px, .int .i32 py] 35)).alloc (.cells #[.int .i32 qx, .int .i32 qy] 33)) := (((Keeps.refl _ w).alloc _).alloc _).alloc _
  generalize (((w.alloc (.cells #[.int .i32 0, .int .i32 0, .int .i32 0, .int .i32 0] 35)).alloc (.cells #[.int .i32 px, .int .i32 py, .int .i32 px, .int .i32 py] 35)).alloc (.cells #[.int .i32 qx, .int .i32 qy] 33)) = w1 at *
  clear cG
  refine (show Calls _ _ _ _ (Gave (.agg #[.int .i32 (min px qx), .int .i32 (min py qy), .int .i32 (max px qx), .int .i32 (max py qy)]) _) from join_any ⟨px, py, px, py⟩ ⟨qx, qy, qx, qy⟩ _ (by simp) (by simp) (by simp) (by simp)).mono ?_
  rintro e w2 ⟨rfl, hk⟩
  have hR := hR.kd hk
  have hB := hB.kd hk
  have hK := hK.td hk
  have cB := hB.cell
  have fB := hB.frozen
  have cR := hR.cell
  have fR := hR.frozen
  go_wp2
  rw [rounds_succ]
  go_wp2
  have hRf := ((((((((hR.far (p := ⟨w.heap.size + 1, 0, none⟩) (by simp) (.int .i32 (min px qx))).far (p := ⟨w.heap.size + 1, 1, none⟩) (by simp) (.int .i32 (min py qy))).far (p := ⟨w.heap.size + 1, 2, none⟩) (by simp) (.int .i32 (max px qx))).far (p := ⟨w.heap.size + 1, 3, none⟩) (by simp) (.int .i32 (max py qy))).set_ 0 (.int .i32 (min px qx))).set_ 1 (.int .i32 (min py qy))).set_ 2 (.int .i32 (max px qx))).set_ 3 (.int .i32 (max py qy)))
  exact bodyPost_ret (results_row_tmp rfl _ _ w.heap.size _ _ _ _ rfl hRf Try.underlying35 rfl (by kernel_rfl)) rfl ⟨rfl, ((((((((hK.setCell (p := ⟨w.heap.size + 1, 0, none⟩) (by simp) (.int .i32 (min px qx))).setCell (p := ⟨w.heap.size + 1, 1, none⟩) (by simp) (.int .i32 (min py qy))).setCell (p := ⟨w.heap.size + 1, 2, none⟩) (by simp) (.int .i32 (max px qx))).setCell (p := ⟨w.heap.size + 1, 3, none⟩) (by simp) (.int .i32 (max py qy))).setCell (p := ⟨w.heap.size, 0, none⟩) (by simp) (.int .i32 (min px qx))).setCell (p := ⟨w.heap.size, 1, none⟩) (by simp) (.int .i32 (min py qy))).setCell (p := ⟨w.heap.size, 2, none⟩) (by simp) (.int .i32 (max px qx))).setCell (p := ⟨w.heap.size, 3, none⟩) (by simp) (.int .i32 (max py qy)))⟩
end Tree
end Go.Proofs.Ytdbpfbokfmpgcaa
namespace Go.Proofs.Ytdbpfbokfmpgcaa
open Go.RowKit Go.Shelf
set_option linter.unusedVariables false
set_option linter.unusedSimpArgs false
set_option linter.ambiguousOpen false
attribute [local go_sem] Oper.semAt_some
namespace Gs
open Mem Gr
set_option maxHeartbeats 4000000 in
set_option maxRecDepth 100000 in
theorem at_t (w : World) (G r1 r2 r3 : Nat) (s : Int) (hs : Size s) (L : List (Nat × Bx)) (A : List Nat) (M : List CE) (h : GridM w G r1 r2 r3 s L A M) (px py : Int) (hp : On px py) (hN : (A ++ (lineL px py px py s).flatMap (idsAt (viewE M))).length ≤ 1000000000) :
    Calls Try.prog 7 #[.pointer (some ⟨G, 0, none⟩), .agg #[.int .i32 px, .int .i32 py]] w (fun e w' => ∃ VB V, e = .returned (.func (.func 35) #[] #[.pointer (some ⟨VB, 0, none⟩)]) ∧ Keeps (fun _ => False) w w' ∧ Vals w.heap.size w' VB V ∧ V.Pairwise (· < ·) ∧ ∀ id, id ∈ V ↔ id ∈ A ∨ ∃ c ∈ lineL px py px py s, id ∈ idsAt (viewE M) c) := by
  have z := pin_t px py
  simp only [hp, decide_true] at z
  have HF := Lib.hid (And.intro h (And.intro hN (And.intro hs hp)))
  have HP := Lib.hid (Blk.new w 33 [.int .i32 px, .int .i32 py])
  clear h hN hs hp
  go_enter Try.func7, Try.ntmps7
  go_wp2_with (first
    | (go_at_call 14; refine (there_t _ (HF.out.1.blk.alloc _)).mono ?_; rintro e w1 ⟨rfl, rfl⟩)
    | (go_at_call 15; refine (z _).mono ?_; rintro e w4 ⟨rfl, hw⟩; have HK4 := Lib.hid (show Keeps (fun _ => False) (w.alloc (.cells #[.int .i32 px, .int .i32 py] 33)) w4 from by rw [← hw]; (repeat (first | exact Keeps.refl _ _ | refine Keeps.alloc ?_ _ | refine Keeps.drew ?_))); clear hw))
  have HSN := Lib.hid (show ∀ W', Keeps (fun _ => False) w4 W' → (∀ i : Nat, W'.cell? ⟨w.heap.size, i, none⟩ = ([.int .i32 px, .int .i32 py] : List Value)[i]?) ∧ (∀ i : Nat, W'.cell? ⟨G, i, none⟩ = ([.int .i64 s, .map (some r1), .map (some r2), .map (some r3)] : List Value)[i]?) from fun W' hk => ⟨(HP.out.keeps (HK4.out.trans hk) (fun h => h)).cell, (HF.out.1.blk.keeps ((((Keeps.refl _ w).alloc _).trans HK4.out).trans hk) (fun h => h)).cell⟩)
  go_region_held3 (fun W => (∀ i : Nat, W.cell? ⟨w.heap.size, i, none⟩ = ([.int .i32 px, .int .i32 py] : List Value)[i]?) ∧ (∀ i : Nat, W.cell? ⟨G, i, none⟩ = ([.int .i64 s, .map (some r1), .map (some r2), .map (some r3)] : List Value)[i]?)) (first | with_reducible assumption | exact HSN.out _ (by first | exact HK6.out | exact HK7.out | (repeat (first | exact Keeps.refl _ _ | refine Keeps.alloc ?_ _ | refine Keeps.drew ?_)))) (first
    | (go_at_call 18; (with_reducible refine (line_t _ _ _ _ _ _).mono ?_); rintro e w6 ⟨rfl, hw6⟩; have HK6 := Lib.hid (show Keeps (fun _ => False) w4 w6 from by rw [← hw6]; (repeat (first | exact Keeps.refl _ _ | refine Keeps.alloc ?_ _ | refine Keeps.drew ?_))); have HB6 := Lib.hid (show Blk w6 (w4.heap.size + 1 + 1) 2 [.int .i64 s] ∧ Blk w6 w4.heap.size 33 [.int .i32 px, .int .i32 py] ∧ Blk w6 (w4.heap.size + 1) 33 [.int .i32 px, .int .i32 py] from by rw [← hw6]; exact ⟨by (repeat (first | (refine blk_top ?_; simp only [World.size_alloc, World.size_drew]; done) | refine Blk.drew ?_ | refine Blk.alloc ?_ _)), by (repeat (first | (refine blk_top ?_; simp only [World.size_alloc, World.size_drew]; done) | refine Blk.drew ?_ | refine Blk.alloc ?_ _)), by (repeat (first | (refine blk_top ?_; simp only [World.size_alloc, World.size_drew]; done) | refine Blk.drew ?_ | refine Blk.alloc ?_ _))⟩); clear hw6)
    | (go_at_call 17; have hkw := (((Keeps.refl (fun _ => False) w).alloc (.cells #[.int .i32 px, .int .i32 py] 33)).trans HK4.out).trans HK6.out; have hz4 := (((Keeps.refl (fun _ => False) w).alloc (.cells #[.int .i32 px, .int .i32 py] 33)).trans HK4.out).size; have hgr := HF.out.1.kd hkw; (with_reducible refine (told_t w6 G r1 r2 r3 s L A M hgr _ (lineL px py px py s) (fun k => k = w4.heap.size ∨ k = w4.heap.size + 1) (fun k hk => by have h1 := HB6.out.2.1.lt; have h2 := HB6.out.2.2.lt; rcases hk with rfl | rfl; exact h1; exact h2) (fun hk => by have := HF.out.1.blk.lt; rcases hk with e | e <;> omega) (fun k hk he => by have := HF.out.1.fp_lt hk; rcases he with e | e <;> omega) (fun W1 hk => line_gives 8 _ _ _ px py px py s HF.out.2.2.1 HF.out.2.2.2 HF.out.2.2.2 W1 (HB6.out.1.keeps hk (fun h => h)) (HB6.out.2.1.keeps hk (fun h => h)) (HB6.out.2.2.keeps hk (fun h => h)) (by omega)) HF.out.2.1).mono ?_); rintro e w7 ⟨VB, V, rfl, hk7, hv7, hv8⟩; have hk7' : Keeps (fun _ => False) w4 w7 := (HK6.out.then (T := fun k => k = w4.heap.size ∨ k = w4.heap.size + 1) hk7 (fun i hi e => by omega)); have HK7 := Lib.hid hk7'; have HW := Lib.hid (And.intro (hkw.then (T := fun k => k = w4.heap.size ∨ k = w4.heap.size + 1) hk7 (fun i hi e => by omega)) (And.intro hkw.size (And.intro hv7 hv8))); clear hk7 hv7 hv8 hkw hk7' hgr))
  all_goals
    go_wp2
    go_ret
    exact ⟨VB, V, rfl, HW.out.1, Vals.mono HW.out.2.2.1 HW.out.2.1, HW.out.2.2.2⟩
theorem len_t (w : World) (G r1 r2 r3 : Nat) (s : Int) (L : List (Nat × Bx)) (A : List Nat) (M : List CE) (h : GridM w G r1 r2 r3 s L A M) : Calls Try.prog 13 #[.pointer (some ⟨G, 0, none⟩)] w fun e w' => e = .returned (.int .i64 (L.length : Int)) ∧ w = w' := by
  have hl := h.m1.len (P := Try.prog) Try.underlying48
  simp only [kvB, List.length_map] at hl
  have HT := Lib.hid h.blk
  have cG := h.blk.cell
  clear h
  go_enter Try.func13, Try.ntmps13
  go_wp2_with (go_at_call 14; refine (there_t _ HT.out).mono ?_; rintro e w1 ⟨rfl, rfl⟩)
  go_ret
  exact ⟨rfl, rfl⟩
theorem cells_t (w : World) (G r1 r2 r3 : Nat) (s : Int) (L : List (Nat × Bx)) (A : List Nat) (M : List CE) (h : GridM w G r1 r2 r3 s L A M) : Calls Try.prog 30 #[.pointer (some ⟨G, 0, none⟩)] w fun e w' => e = .returned (.int .i64 ((viewE M).length : Int)) ∧ w = w' := by
  have hl := h.m2.map.len (P := Try.prog) Try.underlying49
  simp only [kvE, List.length_map] at hl
  have HT := Lib.hid h.blk
  have cG := h.blk.cell
  simp only [viewE, List.length_map]
  clear h
  go_enter Try.func30, Try.ntmps30
  go_wp2_with (go_at_call 14; refine (there_t _ HT.out).mono ?_; rintro e w1 ⟨rfl, rfl⟩)
  go_ret
  exact ⟨rfl, rfl⟩
end Gs
end Go.Proofs.Ytdbpfbokfmpgcaa
namespace Go.Proofs.Ytdbpfbokfmpgcaa
open Go.RowKit Go.Shelf
set_option linter.unusedVariables false
set_option linter.unusedSimpArgs false
set_option linter.ambiguousOpen false
attribute [local go_sem] Oper.semAt_some
namespace Gs
open Mem Gr
def bnd (px py qx qy : Int) : Bx := ⟨min px qx, min py qy, max px qx, max py qy⟩
theorem bnd_right {px py qx qy : Int} (hp : On px py) (hq : On qx qy) : Right (bnd px py qx qy) := by
  obtain ⟨a, b, c, d⟩ := hp
  obtain ⟨e, f, g, i⟩ := hq
  unfold bnd Right On
  simp only
  omega
set_option maxHeartbeats 8000000 in
set_option maxRecDepth 100000 in
theorem cross_near (w : World) (G r1 r2 r3 : Nat) (s : Int) (hs : Size s) (L : List (Nat × Bx)) (A : List Nat) (M : List CE) (h : GridM w G r1 r2 r3 s L A M) (px py qx qy : Int) (hp : On px py) (hq : On qx qy) (hc : cnt s (bnd px py qx qy) ≤ 1024) (hN : (A ++ (lineL px py qx qy s).flatMap (idsAt (viewE M))).length ≤ 1000000000) :
    Calls Try.prog 26 #[.pointer (some ⟨G, 0, none⟩), .agg #[.int .i32 px, .int .i32 py], .agg #[.int .i32 qx, .int .i32 qy]] w (fun e w' => ∃ VB V, e = .returned (.func (.func 35) #[] #[.pointer (some ⟨VB, 0, none⟩)]) ∧ Keeps (fun _ => False) w w' ∧ Vals w.heap.size w' VB V ∧ V.Pairwise (· < ·) ∧ ∀ id, id ∈ V ↔ id ∈ A ∨ ∃ c ∈ lineL px py qx qy s, id ∈ idsAt (viewE M) c) := by
  (have z0 := fun W (hk : Keeps (fun _ => False) w W) => there_t W (h.blk.keeps hk (fun h => h)); have z1 := pin_t px py; have z2 := pin_t qx qy; simp only [hp, hq, decide_true] at z1 z2; have HF := Lib.hid (And.intro h (And.intro hN (And.intro hs (And.intro hp hq)))); have bP := (Blk.new w 33 [.int .i32 px, .int .i32 py]).alloc (.cells #[.int .i32 qx, .int .i32 qy] 33); have bQ := Blk.new (w.alloc (.cells #[.int .i32 px, .int .i32 py] 33)) 33 [.int .i32 qx, .int .i32 qy]; simp only [World.size_alloc] at bQ; have HPQ := Lib.hid (And.intro bP bQ); have hbR := bnd_right hp hq; have zc := count_t s hs (bnd px py qx qy) hbR; simp only [bnd] at zc; clear h hN hs hp hq bP bQ hbR)
  obtain ⟨cn, hcn⟩ : ∃ cn, cn = cnt s (bnd px py qx qy) := ⟨_, rfl⟩
  have zc' : ∀ w, Calls Try.prog 33 #[.agg #[.int .i32 (min px qx), .int .i32 (min py qy), .int .i32 (max px qx), .int .i32 (max py qy)], .int .i64 s] w (Gave (.int .i64 cn) w) := by rw [hcn]; exact zc
  rw [← hcn] at hc
  clear zc hcn
  (go_enter Try.func26, Try.ntmps26; go_wp2_with (first | (go_at_call 14; refine (z0 _ (by (repeat (first | exact Keeps.refl _ _ | refine Keeps.alloc ?_ _ | refine Keeps.drew ?_)))).mono ?_; rintro e w1 ⟨rfl, rfl⟩) | (go_at_call 15; (with_reducible refine (z1 _).mono ?_); rintro e w1 ⟨rfl, rfl⟩) | (go_at_call 15; (with_reducible refine (z2 _).mono ?_); rintro e w4 ⟨rfl, hw⟩; have HK4 := Lib.hid (show Keeps (fun _ => False) ((w.alloc (.cells #[.int .i32 px, .int .i32 py] 33)).alloc (.cells #[.int .i32 qx, .int .i32 qy] 33)) w4 from by rw [← hw]; (repeat (first | exact Keeps.refl _ _ | refine Keeps.alloc ?_ _ | refine Keeps.drew ?_))); have cP4 := (HPQ.out.1.keeps HK4.out (fun h => h)).cell; have cQ4 := (HPQ.out.2.keeps HK4.out (fun h => h)).cell; clear hw)); clear cP4 cQ4; refine (Tree.bounds2 w4.heap.size px py qx qy _ (Blk.new w4 33 [.int .i32 px, .int .i32 py, .int .i32 qx, .int .i32 qy])).mono ?_; rintro e w5 ⟨rfl, hk5⟩; have HK5 := Lib.hid (HK4.out.trans (((Keeps.refl (fun _ => False) w4).alloc (.cells #[.int .i32 px, .int .i32 py, .int .i32 qx, .int .i32 qy] 33)).trans hk5)); clear hk5)
  go_wp2
  (have HSN := Lib.hid (show ∀ W', Keeps (fun _ => False) (w5.alloc (.cells #[.int .i32 (min px qx), .int .i32 (min py qy), .int .i32 (max px qx), .int .i32 (max py qy)] 35)) W' → (∀ i : Nat, W'.cell? ⟨w.heap.size, i, none⟩ = ([.int .i32 px, .int .i32 py] : List Value)[i]?) ∧ (∀ i : Nat, W'.cell? ⟨w.heap.size + 1, i, none⟩ = ([.int .i32 qx, .int .i32 qy] : List Value)[i]?) ∧ (∀ i : Nat, W'.cell? ⟨w5.heap.size, i, none⟩ = ([.int .i32 (min px qx), .int .i32 (min py qy), .int .i32 (max px qx), .int .i32 (max py qy)] : List Value)[i]?) ∧ (∀ i : Nat, W'.cell? ⟨G, i, none⟩ = ([.int .i64 s, .map (some r1), .map (some r2), .map (some r3)] : List Value)[i]?) from fun W' hk => by have k5 := HK5.out.trans (((Keeps.refl (fun _ => False) w5).alloc (.cells #[.int .i32 (min px qx), .int .i32 (min py qy), .int .i32 (max px qx), .int .i32 (max py qy)] 35)).trans hk); have kw : Keeps (fun _ => False) w ((w.alloc (.cells #[.int .i32 px, .int .i32 py] 33)).alloc (.cells #[.int .i32 qx, .int .i32 qy] 33)) := (by (repeat (first | exact Keeps.refl _ _ | refine Keeps.alloc ?_ _ | refine Keeps.drew ?_))); exact ⟨(HPQ.out.1.keeps k5 (fun h => h)).cell, (HPQ.out.2.keeps k5 (fun h => h)).cell, ((Blk.new w5 35 [.int .i32 (min px qx), .int .i32 (min py qy), .int .i32 (max px qx), .int .i32 (max py qy)]).keeps hk (fun h => h)).cell, (HF.out.1.blk.keeps (kw.trans k5) (fun h => h)).cell⟩))
  go_region_held3 (fun W => (∀ i : Nat, W.cell? ⟨w.heap.size, i, none⟩ = ([.int .i32 px, .int .i32 py] : List Value)[i]?) ∧ (∀ i : Nat, W.cell? ⟨w.heap.size + 1, i, none⟩ = ([.int .i32 qx, .int .i32 qy] : List Value)[i]?) ∧ (∀ i : Nat, W.cell? ⟨w5.heap.size, i, none⟩ = ([.int .i32 (min px qx), .int .i32 (min py qy), .int .i32 (max px qx), .int .i32 (max py qy)] : List Value)[i]?) ∧ (∀ i : Nat, W.cell? ⟨G, i, none⟩ = ([.int .i64 s, .map (some r1), .map (some r2), .map (some r3)] : List Value)[i]?)) (first | with_reducible assumption | exact HSN.out _ (by first | exact HK6.out | (repeat (first | exact Keeps.refl _ _ | refine Keeps.alloc ?_ _ | refine Keeps.drew ?_)))) (first
    | (go_at_call 33; (with_reducible refine (zc' _).mono ?_); rintro e w6 ⟨rfl, hk6⟩; have HK6 := Lib.hid (show Keeps (fun _ => False) (w5.alloc (.cells #[.int .i32 (min px qx), .int .i32 (min py qy), .int .i32 (max px qx), .int .i32 (max py qy)] 35)) w6 from ((Keeps.refl _ _).drew).trans hk6); clear hk6))
  go_wp2
  have HKw := Lib.hid (show Keeps (fun _ => False) w w6 from (((Keeps.refl (fun _ => False) w).alloc (.cells #[.int .i32 px, .int .i32 py] 33)).alloc (.cells #[.int .i32 qx, .int .i32 qy] 33)).trans (HK5.out.trans (((Keeps.refl (fun _ => False) w5).alloc (.cells #[.int .i32 (min px qx), .int .i32 (min py qy), .int .i32 (max px qx), .int .i32 (max py qy)] 35)).trans HK6.out)))
  go_region_held3 (fun W => (∀ i : Nat, W.cell? ⟨w.heap.size, i, none⟩ = ([.int .i32 px, .int .i32 py] : List Value)[i]?) ∧ (∀ i : Nat, W.cell? ⟨w.heap.size + 1, i, none⟩ = ([.int .i32 qx, .int .i32 qy] : List Value)[i]?) ∧ (∀ i : Nat, W.cell? ⟨w5.heap.size, i, none⟩ = ([.int .i32 (min px qx), .int .i32 (min py qy), .int .i32 (max px qx), .int .i32 (max py qy)] : List Value)[i]?) ∧ (∀ i : Nat, W.cell? ⟨G, i, none⟩ = ([.int .i64 s, .map (some r1), .map (some r2), .map (some r3)] : List Value)[i]?)) (first | with_reducible assumption | exact HSN.out _ (by first | exact HK6.out.drew | exact HK7.out | exact HK8.out)) (first
    | (go_at_call 18; (with_reducible refine (line_t _ _ _ _ _ _).mono ?_); rintro e w7 ⟨rfl, hw7⟩; have HK7 := Lib.hid (show Keeps (fun _ => False) (w5.alloc (.cells #[.int .i32 (min px qx), .int .i32 (min py qy), .int .i32 (max px qx), .int .i32 (max py qy)] 35)) w7 from by rw [← hw7]; exact ((HK6.out.drew.alloc _).alloc _).alloc _); have HB7 := Lib.hid (show Blk w7 (w6.heap.size + 1 + 1) 2 [.int .i64 s] ∧ Blk w7 w6.heap.size 33 [.int .i32 px, .int .i32 py] ∧ Blk w7 (w6.heap.size + 1) 33 [.int .i32 qx, .int .i32 qy] from by rw [← hw7]; exact ⟨by (repeat (first | (refine blk_top ?_; simp only [World.size_alloc, World.size_drew]; done) | refine Blk.drew ?_ | refine Blk.alloc ?_ _)), by (repeat (first | (refine blk_top ?_; simp only [World.size_alloc, World.size_drew]; done) | refine Blk.drew ?_ | refine Blk.alloc ?_ _)), by (repeat (first | (refine blk_top ?_; simp only [World.size_alloc, World.size_drew]; done) | refine Blk.drew ?_ | refine Blk.alloc ?_ _))⟩); have HY7 := Lib.hid (show Keeps (fun _ => False) w6 w7 from by rw [← hw7]; (repeat (first | exact Keeps.refl _ _ | refine Keeps.alloc ?_ _ | refine Keeps.drew ?_))); clear hw7)
    | (go_at_call 17; have hkw := HKw.out.trans HY7.out; have hz4 := HKw.out.size; have hgr := HF.out.1.kd hkw; (with_reducible refine (told_t w7 G r1 r2 r3 s L A M hgr _ (lineL px py qx qy s) (fun k => k = w6.heap.size ∨ k = w6.heap.size + 1) (fun k hk => by have h1 := HB7.out.2.1.lt; have h2 := HB7.out.2.2.lt; rcases hk with rfl | rfl; exact h1; exact h2) (fun hk => by have := HF.out.1.blk.lt; rcases hk with e | e <;> omega) (fun k hk he => by have := HF.out.1.fp_lt hk; rcases he with e | e <;> omega) (fun W1 hk => line_gives 8 _ _ _ px py qx qy s HF.out.2.2.1 HF.out.2.2.2.1 HF.out.2.2.2.2 W1 (HB7.out.1.keeps hk (fun h => h)) (HB7.out.2.1.keeps hk (fun h => h)) (HB7.out.2.2.keeps hk (fun h => h)) (by omega)) HF.out.2.1).mono ?_); rintro e w8 ⟨VB, V, rfl, hk8, hv8, hv9⟩; have hz6 := HK6.out.size; have hk8' : Keeps (fun _ => False) (w5.alloc (.cells #[.int .i32 (min px qx), .int .i32 (min py qy), .int .i32 (max px qx), .int .i32 (max py qy)] 35)) w8 := (HK7.out.then (T := fun k => k = w6.heap.size ∨ k = w6.heap.size + 1) hk8 (fun i hi e => by omega)); have HK8 := Lib.hid hk8'; have HW := Lib.hid (And.intro (hkw.then (T := fun k => k = w6.heap.size ∨ k = w6.heap.size + 1) hk8 (fun i hi e => by omega)) (And.intro hkw.size (And.intro hv8 hv9))); clear hk8 hv8 hv9 hkw hk8' hgr))
  all_goals
    go_wp2
    go_ret
    exact ⟨VB, V, rfl, HW.out.1, Vals.mono HW.out.2.2.1 HW.out.2.1, HW.out.2.2.2⟩
end Gs
end Go.Proofs.Ytdbpfbokfmpgcaa
