/-
GsY: New at any size; ways.
-/
import Derived.Test.YtdbpfbokfmpgcaaZbbGsW
import Derived.Test.YtdbpfbokfmpgcaaZbcGrKGrL
namespace Go.Proofs.Ytdbpfbokfmpgcaa
open Go.RowKit Go.Shelf
set_option linter.unusedVariables false
set_option linter.unusedSimpArgs false
set_option linter.ambiguousOpen false
attribute [local go_sem] Oper.semAt_some
namespace Gs
open Mem Gr
/-- a new grid, or the error -/
def NewPost (w : World) (s : Int) (e : Ending) (w' : World) : Prop := (Size s ∧ ∃ G r1 r2 r3, e = .returned (.tuple #[.pointer (some ⟨G, 0, none⟩), .int .i64 0]) ∧ GridM w' G r1 r2 r3 s [] [] [] ∧ Keeps (fun _ => False) w w' ∧ w.heap.size ≤ G ∧ w.heap.size ≤ r1 ∧ w.heap.size ≤ r2 ∧ w.heap.size ≤ r3) ∨ (¬ Size s ∧ e = .returned (.tuple #[.pointer none, .int .i64 2]) ∧ Keeps (fun _ => False) w w')
theorem new_t (w : World) (s : Int) : Calls Try.prog 4 #[.int .i64 s] w (NewPost w s) := by
  have hmm := @run_makeMap Try.prog
  rcases Classical.em (1 ≤ s) with h1 | h1
  · rcases Classical.em (s ≤ 2147483648) with h2 | h2
    · go_enter Try.func4, Try.ntmps4
      go_wp2
      go_ret2
      refine Or.inl ⟨⟨h1, h2⟩, w.heap.size + 1 + 1 + 1, w.heap.size, w.heap.size + 1, w.heap.size + 1 + 1, rfl, ⟨?_, ?_, ?_, ?_, by omega, by omega, by omega⟩, by (repeat (first | exact Keeps.refl _ _ | refine Keeps.alloc ?_ _ | refine Keeps.drew ?_)), by omega, Nat.le_refl _, by omega, by omega⟩
      · have := Blk.new (((w.alloc (.map #[] 0)).alloc (.map #[] 0)).alloc (.map #[] 0)) 52 [.int .i64 s, .map (some w.heap.size), .map (some (w.heap.size + 1)), .map (some (w.heap.size + 1 + 1))]
        simpa [Blk] using this
      · exact (((MapL.new kid w).alloc _).alloc _).alloc _
      · have := (((CellsM.new (w.alloc (.map #[] 0))).kd ((Keeps.refl (fun _ => False) _).alloc (.map #[] 0))).kd ((Keeps.refl (fun _ => False) _).alloc (.cells #[.int .i64 s, .map (some w.heap.size), .map (some (w.heap.size + 1)), .map (some (w.heap.size + 1 + 1))] 52)))
        simpa using this
      · have := (MapL.new kid ((w.alloc (.map #[] 0)).alloc (.map #[] 0))).alloc (.cells #[.int .i64 s, .map (some w.heap.size), .map (some (w.heap.size + 1)), .map (some (w.heap.size + 1 + 1))] 52)
        simpa [kvA] using this
    · go_enter Try.func4, Try.ntmps4
      go_wp2
      go_ret2
      exact Or.inr ⟨by rintro ⟨a, b⟩; omega, rfl, Keeps.refl _ _⟩
  · go_enter Try.func4, Try.ntmps4
    go_wp2
    go_ret2
    exact Or.inr ⟨by rintro ⟨a, b⟩; omega, rfl, Keeps.refl _ _⟩
theorem mulbd {a k B : Int} (h0 : -B ≤ a) (h1 : a ≤ B) (hk : 0 ≤ k) (hk7 : k ≤ 7) (hB : 0 ≤ B) : -(7 * B) ≤ a * k ∧ a * k ≤ 7 * B := by
  have e1 : a * k ≤ B * k := Int.mul_le_mul_of_nonneg_right h1 hk
  have e2 : -B * k ≤ a * k := Int.mul_le_mul_of_nonneg_right h0 hk
  have e3 : B * k ≤ B * 7 := Int.mul_le_mul_of_nonneg_left hk7 hB
  rw [Int.neg_mul] at e2
  omega
theorem way_mid {n k d u : Int} (hn : 1 ≤ n) (h0 : 0 ≤ k) (h1 : k ≤ n) (h : n * u = d * k) : (0 ≤ d → 0 ≤ u ∧ u ≤ d) ∧ (d ≤ 0 → d ≤ u ∧ u ≤ 0) := by
  have key : ∀ a b : Int, n * a ≤ n * b → a ≤ b := fun a b hh => Int.le_of_mul_le_mul_left hh (by omega)
  refine ⟨fun hd => ⟨key _ _ ?_, key _ _ ?_⟩, fun hd => ⟨key _ _ ?_, key _ _ ?_⟩⟩
  · rw [h, Int.mul_zero]; exact Int.mul_nonneg hd h0
  · rw [h, Int.mul_comm n d]; exact Int.mul_le_mul_of_nonneg_left h1 hd
  · rw [h, Int.mul_comm n d]; exact Int.mul_le_mul_of_nonpos_left hd h1
  · rw [h, Int.mul_zero]; exact Int.mul_nonpos_of_nonpos_of_nonneg hd h0
/-- m lies on the way from p to q, at k of n -/
def Way (px py qx qy mx my : Int) : Prop := ∃ n k : Int, 1 ≤ n ∧ 0 ≤ k ∧ k ≤ n ∧ n * (mx - px) = k * (qx - px) ∧ n * (my - py) = k * (qy - py)
end Gs
end Go.Proofs.Ytdbpfbokfmpgcaa
