/-
GsY: inside, along, New at any size.
-/
import Derived.Test.YtppiohmnbffndaaZbcGrKGsX
namespace Go.Proofs.Ytppiohmnbffndaa
open Go.RowKit Go.Shelf
set_option linter.unusedVariables false
set_option linter.unusedSimpArgs false
set_option linter.ambiguousOpen false
attribute [local go_sem] Oper.semAt_some
namespace Gs
open Mem Gr
theorem inside_t (x y : Int) (w : World) : Calls Try.prog 7 #[.agg #[.int .i32 x, .int .i32 y]] w fun e w' => e = .returned (.bool (decide (On x y))) ∧ w.alloc (.cells #[.int .i32 x, .int .i32 y] 24) = w' := by
  unfold On B0
  by_cases h1 : -1073741823 ≤ x <;> by_cases h2 : x ≤ 1073741823 <;> by_cases h3 : -1073741823 ≤ y <;> by_cases h4 : y ≤ 1073741823
  all_goals try (exfalso; omega)
  all_goals
    simp only [h1, h2, h3, h4, and_true, and_false, decide_true, decide_false]
    go_enter Try.func7, Try.ntmps7
    go_wp2
    go_ret
    exact ⟨rfl, rfl⟩
/-- a new grid, or the error -/
def NewPost (w : World) (s : Int) (e : Ending) (w' : World) : Prop := (Size s ∧ ∃ G r1 r2 r3, e = .returned (.tuple #[.pointer (some ⟨G, 0, none⟩), .int .i64 0]) ∧ GridM w' G r1 r2 r3 s [] [] [] ∧ Keeps (fun _ => False) w w' ∧ w.heap.size ≤ G ∧ w.heap.size ≤ r1 ∧ w.heap.size ≤ r2 ∧ w.heap.size ≤ r3) ∨ (¬ Size s ∧ e = .returned (.tuple #[.pointer none, .int .i64 2]) ∧ Keeps (fun _ => False) w w')
theorem new_t (w : World) (s : Int) : Calls Try.prog 6 #[.int .i64 s] w (NewPost w s) := by
  have hmm := @run_makeMap Try.prog
  rcases Classical.em (1 ≤ s) with h1 | h1
  · rcases Classical.em (s ≤ 2147483648) with h2 | h2
    · go_enter Try.func6, Try.ntmps6
      go_wp2
      go_ret2
      refine Or.inl ⟨⟨h1, h2⟩, w.heap.size + 1 + 1 + 1, w.heap.size, w.heap.size + 1, w.heap.size + 1 + 1, rfl, ⟨?_, ?_, ?_, ?_, by omega, by omega, by omega⟩, by (repeat (first | exact Keeps.refl _ _ | refine Keeps.alloc ?_ _ | refine Keeps.drew ?_)), by omega, Nat.le_refl _, by omega, by omega⟩
      · have := Blk.new (((w.alloc (.map #[] 0)).alloc (.map #[] 0)).alloc (.map #[] 0)) 65 [.int .i64 s, .map (some w.heap.size), .map (some (w.heap.size + 1)), .map (some (w.heap.size + 1 + 1))]
        simpa [Blk] using this
      · exact (((MapL.new kid w).alloc _).alloc _).alloc _
      · have := (((CellsM.new (w.alloc (.map #[] 0))).kd ((Keeps.refl (fun _ => False) _).alloc (.map #[] 0))).kd ((Keeps.refl (fun _ => False) _).alloc (.cells #[.int .i64 s, .map (some w.heap.size), .map (some (w.heap.size + 1)), .map (some (w.heap.size + 1 + 1))] 65)))
        simpa using this
      · have := (MapL.new kid ((w.alloc (.map #[] 0)).alloc (.map #[] 0))).alloc (.cells #[.int .i64 s, .map (some w.heap.size), .map (some (w.heap.size + 1)), .map (some (w.heap.size + 1 + 1))] 65)
        simpa [kvA] using this
    · go_enter Try.func6, Try.ntmps6
      go_wp2
      go_ret2
      exact Or.inr ⟨by rintro ⟨a, b⟩; omega, rfl, Keeps.refl _ _⟩
  · go_enter Try.func6, Try.ntmps6
    go_wp2
    go_ret2
    exact Or.inr ⟨by rintro ⟨a, b⟩; omega, rfl, Keeps.refl _ _⟩
theorem mulbd {a k B : Int} (h0 : -B ≤ a) (h1 : a ≤ B) (hk : 0 ≤ k) (hk7 : k ≤ 7) (hB : 0 ≤ B) : -(7 * B) ≤ a * k ∧ a * k ≤ 7 * B := by
  have e1 : a * k ≤ B * k := Int.mul_le_mul_of_nonneg_right h1 hk
  have e2 : -B * k ≤ a * k := Int.mul_le_mul_of_nonneg_right h0 hk
  have e3 : B * k ≤ B * 7 := Int.mul_le_mul_of_nonneg_left hk7 hB
  rw [Int.neg_mul] at e2
  omega
theorem way_mid {n k d u : Int} (hn : 1 ≤ n) (h0 : 0 ≤ k) (h1 : k ≤ n) (h : n * u = d * k) : (0 ≤ d → 0 ≤ u ∧ u ≤ d) ∧ (d ≤ 0 → d ≤ u ∧ u ≤ 0) := by
  have key : ∀ a b : Int, n * a ≤ n * b → a ≤ b := fun a b hh => Int.le_of_mul_le_mul_left hh (by omega)
  refine ⟨fun hd => ⟨key _ _ ?_, key _ _ ?_⟩, fun hd => ⟨key _ _ ?_, key _ _ ?_⟩⟩
  · rw [h, Int.mul_zero]; exact Int.mul_nonneg hd h0
  · rw [h, Int.mul_comm n d]; exact Int.mul_le_mul_of_nonneg_left h1 hd
  · rw [h, Int.mul_comm n d]; exact Int.mul_le_mul_of_nonpos_left hd h1
  · rw [h, Int.mul_zero]; exact Int.mul_nonpos_of_nonpos_of_nonneg hd h0
/-- m lies on the way from p to q, at k of n -/
def Way (px py qx qy mx my : Int) : Prop := ∃ n k : Int, 1 ≤ n ∧ 0 ≤ k ∧ k ≤ n ∧ n * (mx - px) = k * (qx - px) ∧ n * (my - py) = k * (qy - py)
set_option maxHeartbeats 4000000 in
theorem along_t (px py qx qy : Int) (t : Nat) (ht : t < 256) (hp : On px py) (hq : On qx qy) (w : World) :
    Calls Try.prog 9 #[.agg #[.int .i32 px, .int .i32 py], .agg #[.int .i32 qx, .int .i32 qy], .int .u8 (t : Int)] w fun e w' => (∃ mx my, e = .returned (.agg #[.int .i32 mx, .int .i32 my]) ∧ Way px py qx qy mx my ∧ On mx my) ∧ Keeps (fun _ => False) w w' := by
  obtain ⟨n, hn⟩ : ∃ n : Int, n = (t : Int) % 7 + 1 := ⟨_, rfl⟩
  obtain ⟨k, hk⟩ : ∃ k : Int, k = ((t : Int) / 7) % (n + 1) := ⟨_, rfl⟩
  have hn1 : 1 ≤ n := by omega
  have hn7 : n ≤ 7 := by omega
  have hk0 : 0 ≤ k := by rw [hk]; exact Int.emod_nonneg _ (by omega)
  have hkn : k ≤ n := by have := Int.emod_lt_of_pos ((t : Int) / 7) (show 0 < n + 1 by omega); omega
  have z1 := mulbd (a := qx - px) (k := k) (B := 2147483646) (by unfold On B0 at hp hq; omega) (by unfold On B0 at hp hq; omega) hk0 (by omega) (by omega)
  have z2 := mulbd (a := qy - py) (k := k) (B := 2147483646) (by unfold On B0 at hp hq; omega) (by unfold On B0 at hp hq; omega) hk0 (by omega) (by omega)
  have e7 : Int.tmod (t : Int) 7 = (t : Int) % 7 := Int.tmod_eq_emod_of_nonneg (by omega)
  have e8 : Int.tdiv (t : Int) 7 = (t : Int) / 7 := Int.tdiv_eq_ediv_of_nonneg (by omega)
  have e9 : Int.tmod ((t : Int) / 7) (n + 1) = k := by rw [hk]; exact Int.tmod_eq_emod_of_nonneg (by omega)
  have hn' : (t : Int) % 7 + 1 = n := hn.symm
  clear hn hk
  unfold On B0 at hp hq
  obtain ⟨hp1, hp2, hp3, hp4⟩ := hp
  obtain ⟨hq1, hq2, hq3, hq4⟩ := hq
  go_enter Try.func9, Try.ntmps9
  go_wp2
  · refine bodyPost_ret (results_cell_row rfl _ _ (w.heap.size + 1 + 1) 24 #[.int .i32 qx, .int .i32 qy] _ _ rfl (by have := Blk.new ((w.alloc (.cells #[.int .i32 px, .int .i32 py] 24)).alloc (.cells #[.int .i32 qx, .int .i32 qy] 24)) 24 [.int .i32 (qx), .int .i32 (qy)]; simpa [Blk] using this) Try.underlying24 rfl (by kernel_rfl)) rfl ⟨⟨qx, qy, rfl, ⟨1, 1, by omega, by omega, by omega, by omega, by omega⟩, ⟨hq1, hq2, hq3, hq4⟩⟩, by (repeat (first | exact Keeps.refl _ _ | refine Keeps.alloc ?_ _ | refine Keeps.drew ?_))⟩
  · rename_i hx hy Kx hKx
    have hy' : ((qy - py) * k).tmod n = 0 := by simpa using hy
    obtain ⟨u, hu⟩ : ∃ u, ((qx - px) * k).tdiv n = u := ⟨_, rfl⟩
    obtain ⟨v, hv⟩ : ∃ v, ((qy - py) * k).tdiv n = v := ⟨_, rfl⟩
    have eu : n * u = (qx - px) * k := by have := Int.mul_tdiv_add_tmod ((qx - px) * k) n; rw [hx, hu] at this; omega
    have ev : n * v = (qy - py) * k := by have := Int.mul_tdiv_add_tmod ((qy - py) * k) n; rw [hy', hv] at this; omega
    have wu := way_mid hn1 hk0 hkn eu
    have wv := way_mid hn1 hk0 hkn ev
    have u1 : -1073741823 ≤ px + u := by rcases Int.le_total 0 (qx - px) with h | h; · have := wu.1 h; omega
                                         · have := wu.2 h; omega
    have u2 : px + u ≤ 1073741823 := by rcases Int.le_total 0 (qx - px) with h | h; · have := wu.1 h; omega
                                        · have := wu.2 h; omega
    have v1 : -1073741823 ≤ py + v := by rcases Int.le_total 0 (qy - py) with h | h; · have := wv.1 h; omega
                                         · have := wv.2 h; omega
    have v2 : py + v ≤ 1073741823 := by rcases Int.le_total 0 (qy - py) with h | h; · have := wv.1 h; omega
                                        · have := wv.2 h; omega
    have HE := Lib.hid (And.intro eu ev)
    clear eu ev wu wv hx hy hy'
    have hn0 : ¬ n = 0 := by omega
    have w1 : IntKind.i64.wrap px = px := IntWalk.i64_in _ (by omega)
    have w2 : IntKind.i64.wrap py = py := IntWalk.i64_in _ (by omega)
    have w3 : IntKind.i64.wrap ((qx - px) * k) = (qx - px) * k := IntWalk.i64_in _ (by omega)
    have w4 : IntKind.i64.wrap ((qy - py) * k) = (qy - py) * k := IntWalk.i64_in _ (by omega)
    have w5 : IntKind.i64.wrap u = u := IntWalk.i64_in _ (by omega)
    have w6 : IntKind.i64.wrap v = v := IntWalk.i64_in _ (by omega)
    have w7 : IntKind.i64.wrap (px + u) = px + u := IntWalk.i64_in _ (by omega)
    have w8 : IntKind.i64.wrap (py + v) = py + v := IntWalk.i64_in _ (by omega)
    have w9 : IntKind.i32.wrap (px + u) = px + u := IntWalk.i32_in _ (by omega)
    have w10 : IntKind.i32.wrap (py + v) = py + v := IntWalk.i32_in _ (by omega)
    have b3 := ((Blk.new w 24 [.int .i32 px, .int .i32 py]).alloc (.cells #[.int .i32 qx, .int .i32 qy] 24)).alloc (.cells #[.int .i32 0, .int .i32 0] 24)
    have b4 := fun o => ((Blk.new w 24 [.int .i32 px, .int .i32 py]).alloc (.cells #[.int .i32 qx, .int .i32 qy] 24)).alloc o
    have B3 := Lib.hid b3
    have B4 := Lib.hid b4
    clear b3 b4
    go_region_held3 (fun W => ∀ i : Nat, W.cell? ⟨w.heap.size, i, none⟩ = ([.int .i32 px, .int .i32 py] : List Value)[i]?) (first | with_reducible assumption | exact B3.out.cell | exact (B4.out _).cell) (first | fail)
    refine hKx _ _ ?_
    clear hKx
    go_wp2
    refine bodyPost_ret (results_cell_row rfl _ _ (w.heap.size + 1 + 1) 24 #[.int .i32 (px + u), .int .i32 (py + v)] _ _ rfl (Blk.drew (blkAt _ _ _ [_, _] (by simp))) Try.underlying24 rfl (by kernel_rfl)) rfl ⟨⟨px + u, py + v, rfl, ⟨n, k, hn1, hk0, hkn, ?_, ?_⟩, ⟨u1, u2, v1, v2⟩⟩, by (repeat (first | exact Keeps.refl _ _ | refine Keeps.alloc ?_ _ | refine Keeps.drew ?_))⟩
    · rw [show px + u - px = u by omega, HE.out.1, Int.mul_comm]
    · rw [show py + v - py = v by omega, HE.out.2, Int.mul_comm]
  · refine bodyPost_ret (results_cell_row rfl _ _ (w.heap.size + 1 + 1) 24 #[.int .i32 qx, .int .i32 qy] _ _ rfl (by have := Blk.new ((w.alloc (.cells #[.int .i32 px, .int .i32 py] 24)).alloc (.cells #[.int .i32 qx, .int .i32 qy] 24)) 24 [.int .i32 (qx), .int .i32 (qy)]; simpa [Blk] using this) Try.underlying24 rfl (by kernel_rfl)) rfl ⟨⟨qx, qy, rfl, ⟨1, 1, by omega, by omega, by omega, by omega, by omega⟩, ⟨hq1, hq2, hq3, hq4⟩⟩, by (repeat (first | exact Keeps.refl _ _ | refine Keeps.alloc ?_ _ | refine Keeps.drew ?_))⟩
end Gs
end Go.Proofs.Ytppiohmnbffndaa
