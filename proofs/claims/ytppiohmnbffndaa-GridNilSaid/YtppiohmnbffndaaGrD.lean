/-
  GrD: New, and Put at the one box of 'works'.
-/
import Derived.Test.YtppiohmnbffndaaGrC
namespace Go.Proofs.Ytppiohmnbffndaa
open Go.RowKit Go.Shelf
set_option linter.unusedVariables false
set_option linter.unusedSimpArgs false
attribute [local go_sem] Oper.semAt_some
namespace Gr
open Mem
/-- block r is the map es -/
def Mp (w : World) (r : Nat) (es : Array MapEntry) (k : Nat) : Prop := w.heap[r]? = some (.map es k)
section
variable {w w' : World} {S : Nat → Prop} {r k : Nat} {es : Array MapEntry}
theorem Mp.lt (h : Mp w r es k) : r < w.heap.size := by
  rcases Nat.lt_or_ge r w.heap.size with hlt | hge
  · exact hlt
  · unfold Mp at h; rw [Array.getElem?_eq_none hge] at h; cases h
theorem Mp.new (w : World) (es : Array MapEntry) (k : Nat) : Mp (w.alloc (.map es k)) w.heap.size es k := heap_alloc_new w _
theorem Mp.alloc (h : Mp w r es k) (o : Obj) : Mp (w.alloc o) r es k := (Below.heap_alloc w o r h.lt).trans h
theorem Mp.drew (h : Mp w r es k) : Mp w.drew r es k := h
theorem Mp.keeps (h : Mp w r es k) (hk : Keeps S w w') (hn : ¬ S r) : Mp w' r es k := (hk.block r h.lt hn).trans h
theorem Mp.ne {b : Nat} {t : TypeId} {cs : List Value} (h : Mp w r es k) (hb : Blk w b t cs) : b ≠ r := by
  rintro rfl; unfold Mp at h; unfold Blk at hb; rw [h] at hb; cases hb
end
/-- a new grid -/
def NewG (w : World) (G r1 r2 r3 : Nat) : Prop := Blk w G 65 [.int .i64 10, .map (some r1), .map (some r2), .map (some r3)] ∧ Mp w r1 #[] 0 ∧ Mp w r2 #[] 0 ∧ Mp w r3 #[] 0 ∧ r1 ≠ r2 ∧ r1 ≠ r3 ∧ r2 ≠ r3
set_option maxHeartbeats 4000000 in
theorem new_yes (w : World) : Calls Try.prog 6 #[.int .i64 10] w fun e w' => ∃ G r1 r2 r3, e = .returned (.tuple #[.pointer (some ⟨G, 0, none⟩), .int .i64 0]) ∧ NewG w' G r1 r2 r3 ∧ Keeps (fun _ => False) w w' ∧ w.heap.size ≤ G ∧ w.heap.size ≤ r1 ∧ w.heap.size ≤ r2 ∧ w.heap.size ≤ r3 := by
  have hmm := @run_makeMap Try.prog
  go_enter Try.func6, Try.ntmps6
  go_wp2
  go_ret2
  refine ⟨w.heap.size + 1 + 1 + 1, w.heap.size, w.heap.size + 1, w.heap.size + 1 + 1, rfl, ⟨?_, ?_, ?_, ?_, by omega, by omega, by omega⟩, by (repeat (first | exact Keeps.refl _ _ | refine Keeps.alloc ?_ _ | refine Keeps.drew ?_)), by omega, Nat.le_refl _, by omega, by omega⟩
  · have := Blk.new (((w.alloc (.map #[] 0)).alloc (.map #[] 0)).alloc (.map #[] 0)) 65 [.int .i64 10, .map (some w.heap.size), .map (some (w.heap.size+1)), .map (some (w.heap.size+1+1))]
    simpa [Blk] using this
  · exact (((Mp.new w #[] 0).alloc _).alloc _).alloc _
  · have := ((Mp.new (w.alloc (.map #[] 0)) #[] 0).alloc (.map #[] 0)).alloc (.cells #[.int .i64 10, .map (some w.heap.size), .map (some (w.heap.size + 1)), .map (some (w.heap.size + 1 + 1))] 65)
    simpa [Mp] using this
  · have := (Mp.new ((w.alloc (.map #[] 0)).alloc (.map #[] 0)) #[] 0).alloc (.cells #[.int .i64 10, .map (some w.heap.size), .map (some (w.heap.size + 1)), .map (some (w.heap.size + 1 + 1))] 65)
    simpa [Mp] using this
theorem neq_map (r : Nat) (W : World) : (binOp .neq 61 (.map (some r)) (.map none)).run Try.prog W = .ok (.bool true) W := by kernel_rfl
set_option maxRecDepth 100000 in
theorem there_yes (w : World) (G r1 r2 r3 : Nat) (h : Blk w G 65 [.int .i64 10, .map (some r1), .map (some r2), .map (some r3)]) : Calls Try.prog 23 #[.pointer (some ⟨G, 0, none⟩)] w fun e w' => e = .returned (.bool true) ∧ w = w' := by
  have hm := neq_map r1
  have c := h.cell
  clear h
  go_enter Try.func23, Try.ntmps23
  go_wp2
  go_ret
  exact ⟨rfl, rfl⟩
end Gr
end Go.Proofs.Ytppiohmnbffndaa
