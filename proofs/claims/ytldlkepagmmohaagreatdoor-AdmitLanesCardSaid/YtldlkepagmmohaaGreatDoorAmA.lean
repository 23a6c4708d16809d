/-
  AmA: a book at its beginning.
-/
import Derived.Test.YtldlkepagmmohaaGreatDoorAdC
import Derived.Test.YtldlkepagmmohaaGreatDoorWiO
import Derived.Maps.OwnOps
import Derived.Maps.RangeRun
namespace Go.Proofs.YtldlkepagmmohaaGreatDoor
open Go.RowKit
set_option linter.unusedVariables false
set_option linter.unusedSimpArgs false
attribute [local go_sem] Oper.semAt_some
namespace Am
open Mem
/-- block r is the map es -/
def Mp (w : World) (r : Nat) (es : Array MapEntry) (k : Nat) : Prop := w.heap[r]? = some (.map es k)
section
variable {w w' : World} {S : Nat → Prop} {r k : Nat} {es : Array MapEntry}
theorem Mp.lt (h : Mp w r es k) : r < w.heap.size := by
  rcases Nat.lt_or_ge r w.heap.size with hlt | hge
  · exact hlt
  · unfold Mp at h; rw [Array.getElem?_eq_none hge] at h; cases h
theorem Mp.new (w : World) (es : Array MapEntry) (k : Nat) : Mp (w.alloc (.map es k)) w.heap.size es k := heap_alloc_new w _
theorem Mp.alloc (h : Mp w r es k) (o : Obj) : Mp (w.alloc o) r es k := (Below.heap_alloc w o r h.lt).trans h
theorem Mp.drew (h : Mp w r es k) : Mp w.drew r es k := h
theorem Mp.keeps (h : Mp w r es k) (hk : Keeps S w w') (hn : ¬ S r) : Mp w' r es k := (hk.block r h.lt hn).trans h
theorem Mp.ne {b : Nat} {t : TypeId} {cs : List Value} (h : Mp w r es k) (hb : Blk w b t cs) : b ≠ r := by
  rintro rfl; unfold Mp at h; unfold Blk at hb; rw [h] at hb; cases hb
end
theorem small_yes (w : World) : Calls Tryz.prog 10 #[] w fun e w' => e = .returned (.agg #[.int .i64 2, .int .i64 2, .int .i64 1, .int .i64 2, .int .i64 2, .int .i64 2, .int .i64 1, .int .i64 1, .int .i64 1, .int .i64 1, .int .i64 0]) ∧ Keeps (fun _ => False) w w' := by
  go_enter Tryz.func10, Tryz.ntmps10
  go_wp2
  refine bodyPost_ret (results_cell_row rfl _ _ _ _ _ _ _ rfl (Blk.new w 23 [.int .i64 2, .int .i64 2, .int .i64 1, .int .i64 2, .int .i64 2, .int .i64 2, .int .i64 1, .int .i64 1, .int .i64 1, .int .i64 1, .int .i64 0]) Tryz.underlying23 rfl (by kernel_rfl)) rfl ?_
  exact ⟨rfl, by (repeat (first | exact Keeps.refl _ _ | assumption | refine Keeps.alloc ?_ _ | refine Keeps.drew ?_))⟩
theorem hpush (w : World) (o : Obj) : (w.alloc o).heap = w.heap.push o := rfl
theorem hdrew (w : World) : w.drew.heap = w.heap := rfl
theorem _root_.Go.Proofs.YtldlkepagmmohaaGreatDoor.Mem.Blk.at_ {w : World} {b b' : Nat} {t : TypeId} {cs : List Value} (h : Mem.Blk w b t cs) (e : b = b') : Mem.Blk w b' t cs := e ▸ h
theorem small_fit : Ad.Fit 2 2 1 2 2 2 1 1 1 1 0 := by decide
/-- a book's cells -/
abbrev bookL (m1 m2 tb lb : Nat) (ep : Int) : List Value := [.int .i64 2, .int .i64 2, .int .i64 1, .int .i64 2, .int .i64 2, .int .i64 2, .int .i64 1, .int .i64 1, .int .i64 1, .int .i64 1, .int .i64 0, .map (some m1), .map (some m2), .slice (some ⟨tb, 0, none⟩) 2 2, .int .u32 ep, .slice (some ⟨lb, 0, none⟩) 3 3]
theorem mk2 (W : World) : (Instr.makeSlice 62 (.int .i64 2) (.int .i64 2)).run Tryz.prog W = .ok (.slice (some ⟨W.heap.size, 0, none⟩) 2 2) (W.alloc (.cells #[.int .u32 0, .int .u32 0] 25)) := by kernel_rfl
theorem mk3 (W : World) : (Instr.makeSlice 63 (.int .i64 3) (.int .i64 3)).run Tryz.prog W = .ok (.slice (some ⟨W.heap.size, 0, none⟩) 3 3) (W.alloc (.cells #[.slice none 0 0, .slice none 0 0, .slice none 0 0] 102)) := by kernel_rfl
set_option maxHeartbeats 4000000 in
set_option maxRecDepth 20000 in
theorem new_yes (w : World) : Calls Tryz.prog 9 #[.agg #[.int .i64 2, .int .i64 2, .int .i64 1, .int .i64 2, .int .i64 2, .int .i64 2, .int .i64 1, .int .i64 1, .int .i64 1, .int .i64 1, .int .i64 0]] w fun e w' => ∃ B m1 m2 tb lb, e = .returned (.tuple #[.pointer (some ⟨B, 0, none⟩), .int .i64 0]) ∧ Keeps (fun _ => False) w w' ∧ Blk w' B 65 (bookL m1 m2 tb lb 0) ∧ Mp w' m1 #[] 0 ∧ Mp w' m2 #[] 0 ∧ m1 ≠ m2 ∧ Blk w' tb 25 [.int .u32 0, .int .u32 0] ∧ Blk w' lb 102 [.slice none 0 0, .slice none 0 0, .slice none 0 0] ∧ w.heap.size ≤ B ∧ w.heap.size ≤ m1 ∧ w.heap.size ≤ m2 ∧ w.heap.size ≤ tb ∧ w.heap.size ≤ lb := by
  have HC := Lib.hid (fun W => Ad.config_t 2 2 1 2 2 2 1 1 1 1 0 W)
  rw [if_pos small_fit] at HC
  have hb0 := Blk.new w 23 [.int .i64 2, .int .i64 2, .int .i64 1, .int .i64 2, .int .i64 2, .int .i64 2, .int .i64 1, .int .i64 1, .int .i64 1, .int .i64 1, .int .i64 0]
  have HB := Lib.hid hb0
  have K0 := Lib.hid (show Keeps (fun _ => False) w (w.alloc (.cells #[.int .i64 2, .int .i64 2, .int .i64 1, .int .i64 2, .int .i64 2, .int .i64 2, .int .i64 1, .int .i64 1, .int .i64 1, .int .i64 1, .int .i64 0] 23)) from by (repeat (first | exact Keeps.refl _ _ | assumption | refine Keeps.alloc ?_ _ | refine Keeps.drew ?_)))
  have hmm := @run_makeMap Tryz.prog
  have hm2 := mk2
  have hm3 := mk3
  have hw3 : IntKind.i64.wrap 3 = 3 := by kernel_rfl
  clear hb0
  go_enter Tryz.func9, Tryz.ntmps9
  go_wp2_with (go_at_call 7; (with_reducible refine (HC.out _).mono ?_); rintro e w1 ⟨rfl, hk⟩; have K1 := Lib.hid hk; have hS := (HB.out.keeps hk (fun h => h)).cell; have B1 := Lib.hid (HB.out.keeps hk (fun h => h)); clear hk)
  go_region_held3 (fun W => ∀ i : Nat, W.cell? ⟨w.heap.size, i, none⟩ = ([.int .i64 2, .int .i64 2, .int .i64 1, .int .i64 2, .int .i64 2, .int .i64 2, .int .i64 1, .int .i64 1, .int .i64 1, .int .i64 1, .int .i64 0] : List Value)[i]?) (first | with_reducible assumption | exact (B1.out.keeps (by (repeat (first | exact Keeps.refl _ _ | assumption | refine Keeps.alloc ?_ _ | refine Keeps.drew ?_)) : Keeps (fun _ => False) w1 _) (fun h => h)).cell) (first | fail)
  all_goals
    go_wp2
    go_ret2
    (iterate 5 apply Exists.intro)
    refine ⟨rfl, (K0.out.trans K1.out).trans (by (repeat (first | exact Keeps.refl _ _ | assumption | refine Keeps.alloc ?_ _ | refine Keeps.drew ?_))), ?_, ?_, ?_, ?_, ?_, ?_, ?_⟩
    · first | exact (Blk.new _ _ _).at_ (by simp) | exact (Blk.new _ _ _).drew.at_ (by simp) | exact (Blk.new _ _ _).drew.drew.at_ (by simp) | exact (Blk.new _ _ _).drew.drew.drew.at_ (by simp) | exact (Blk.new _ _ _).drew.drew.drew.drew.at_ (by simp)
    · (simp only [Mp, hpush, hdrew, Array.getElem?_push, Array.size_push]; repeat (first | rw [if_pos trivial] | rw [if_pos (by omega)] | rw [if_neg (by omega)]))
    · (simp only [Mp, hpush, hdrew, Array.getElem?_push, Array.size_push]; repeat (first | rw [if_pos trivial] | rw [if_pos (by omega)] | rw [if_neg (by omega)]))
    · omega
    · (simp only [Blk, hpush, hdrew, Array.getElem?_push, Array.size_push]; repeat (first | rw [if_pos trivial] | rw [if_pos (by omega)] | rw [if_neg (by omega)]))
    · (simp only [Blk, hpush, hdrew, Array.getElem?_push, Array.size_push]; repeat (first | rw [if_pos trivial] | rw [if_pos (by omega)] | rw [if_neg (by omega)]))
    · have := (K0.out.trans K1.out).size; refine ⟨?_, ?_, ?_, ?_, ?_⟩ <;> omega
end Am
end Go.Proofs.YtldlkepagmmohaaGreatDoor
