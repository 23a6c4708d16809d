/-
  take.New with nothing kept; lives.
-/
import Derived.Test.YtndghakagogmcaaTakeD
namespace Go.Proofs.Ytndghakagogmcaa
open Go.RowKit
set_option linter.unusedVariables false
namespace Take
open Mem
theorem plInfo2 : (Try.prog.info? 90).map (fun i => (i.zero, i.size, i.bytes)) = some (some (.agg (plc none).toArray), 12, 72) := by kernel_rfl
theorem made_flat {α : Type} {f : α → List Value} {k : Nat} (hk : ∀ x, (f x).length = k) (hk0 : 0 < k) (x : α) (n : Nat) : (madeCells (f x).toArray (n * k)).toList = (List.replicate n x).flatMap f := by
  apply List.ext_getElem?
  intro j
  by_cases hj : j < n * k
  · have hd : j / k < n := (Nat.div_lt_iff_lt_mul hk0).2 hj
    have hm : j % k < k := Nat.mod_lt _ hk0
    have := flat_cell hk (List.replicate n x) (j / k) (j % k) hm x (by simp [hd])
    rw [Nat.mul_comm, Nat.div_add_mod] at this
    rw [this]
    simp [madeCells, hj, hk]
    rw [List.getElem?_eq_getElem (by rw [hk]; exact hm)]; rfl
  · rw [List.getElem?_eq_none (by rw [Array.length_toList, size_madeCells]; omega), List.getElem?_eq_none (by rw [flat_length hk]; simp; omega)]
def empty (n : Nat) : Ring := List.replicate n none
theorem made_ring (n : Nat) : (madeCells (Value.agg (plc none).toArray).cells (n * 12)).toList = ring (empty n) := made_flat plc_length (by omega) none n
def Fresh (w w' : World) (tb rb nx : Nat) (rs : Ring) : Prop :=
  Blk w' tb 93 [.int .u64 (nx : Int), .slice (some ⟨rb, 0, none⟩) rs.length rs.length] ∧ Blk w' rb 90 (ring rs) ∧ Keeps (fun _ => False) w w' ∧ w.heap.size ≤ tb ∧ w.heap.size ≤ rb
def NewPost (w : World) (n : Nat) (e : Ending) (w' : World) : Prop := ∃ tb rb, e = .returned (.tuple #[.pointer (some ⟨tb, 0, none⟩), .int .i64 0]) ∧ Fresh w w' tb rb 1 (empty n)
set_option maxRecDepth 100000 in
theorem from_yes (n : Nat) (w : World) (h1 : 1 ≤ n) (h2 : n ≤ 32) :
    Calls Try.prog 37 #[.int .i64 (n : Int), .int .u64 1, .slice none 0 0] w (NewPost w n) := by
  obtain ⟨i0, hi0, hz0, hz1, hz2⟩ := info_parts plInfo2
  have hmk := fun W => run_make_rowN (P := Try.prog) 91 90 i0 _ 12 72 Try.underlying91 hi0 hz0 hz1 hz2 .i64 .i64 n n (Nat.le_refl _) (by omega) (by omega) W
  have hm := Lib.hid (made_ring n)
  clear hi0 hz0 hz1 hz2
  have g1 : ¬ ((n : Int) < 1) := by omega
  have g2 : ¬ ((32 : Int) < n) := by omega
  go_enter Try.func37, Try.ntmps37
  go_wp2
  refine wp_loop_rounds 1 ?_; rw [rounds_succ]
  go_wp2
  go_ret2
  refine ⟨w.heap.size + 1, w.heap.size, rfl, ?_, ?_, ?_, by omega, Nat.le_refl _⟩
  · have := Blk.new (w.alloc (.cells (madeCells (plc none).toArray (n * 12)) 90)) 93 [.int .u64 1, .slice (some ⟨w.heap.size, 0, none⟩) n n]
    simpa [empty] using this
  · have := (Blk.new w 90 (madeCells (plc none).toArray (n * 12)).toList).alloc (.cells #[.int .u64 1, .slice (some ⟨w.heap.size, 0, none⟩) n n] 93)
    have hm' := hm.out
    simp only [Value.cells] at hm'
    rw [hm'] at this
    rw [← hm', Array.toArray_toList] at this
    unfold Blk at this ⊢
    rw [← hm']
    simpa using this
  · exact ((Keeps.refl _ w).alloc _).alloc _
set_option maxRecDepth 100000 in
theorem from_no (n : Int) (w : World) (h : n < 1 ∨ 32 < n) :
    Calls Try.prog 37 #[.int .i64 n, .int .u64 1, .slice none 0 0] w fun e w' => e = .returned (.tuple #[.pointer none, .int .i64 2]) ∧ w = w' := by
  rcases h with h | h
  · go_enter Try.func37, Try.ntmps37
    go_wp2
    go_ret2
    exact ⟨rfl, rfl⟩
  · have h' : ¬ n < 1 := by omega
    go_enter Try.func37, Try.ntmps37
    go_wp2
    go_ret2
    exact ⟨rfl, rfl⟩
theorem new_yes (n : Nat) (w : World) (h1 : 1 ≤ n) (h2 : n ≤ 32) : Calls Try.prog 13 #[.int .i64 (n : Int)] w (NewPost w n) := by
  go_enter Try.func13, Try.ntmps13
  go_wp2_with (go_at_call 37; refine (from_yes n _ h1 h2).mono ?_; rintro e w1 ⟨tb, rb, rfl, hF⟩)
  go_ret2
  exact ⟨tb, rb, rfl, hF⟩
theorem new_no (n : Int) (w : World) (h : n < 1 ∨ 32 < n) : Calls Try.prog 13 #[.int .i64 n] w fun e w' => e = .returned (.tuple #[.pointer none, .int .i64 2]) ∧ w = w' := by
  go_enter Try.func13, Try.ntmps13
  go_wp2_with (go_at_call 37; refine (from_no n _ h).mono ?_; rintro e w1 ⟨rfl, rfl⟩)
  go_ret2
  exact ⟨rfl, rfl⟩
def ArrPost2 (w : World) (tb rb nx : Nat) (rs : Ring) (p : Pk) (e : Ending) (w' : World) : Prop :=
  ∃ a c, e = .returned (.tuple #[.slice a (arr nx rs p).1.length c, .int .u64 (((arr nx rs p).2.1 : Int) - 1)]) ∧ St w w' tb rb (.slice a (arr nx rs p).1.length c) (arr nx rs p).1 (arr nx rs p).2.1 (arr nx rs p).2.2
theorem arrive_sl (tb rb nx : Nat) (rs : Ring) (p : Pk) (w : World) (hn1 : 1 ≤ nx) (hn2 : nx ≤ 2305843009213693952) (hl : 0 < rs.length) (hl2 : rs.length ≤ 64)
    (hT : Blk w tb 93 [.int .u64 (nx : Int), .slice (some ⟨rb, 0, none⟩) rs.length rs.length]) (hR : Blk w rb 90 (ring rs)) (hpx : p.number ≤ 9223372036854775807) :
    Calls Try.prog 16 #[.pointer (some ⟨tb, 0, none⟩), .agg p.cells.toArray] w (ArrPost2 w tb rb nx rs p) := by
  refine (arrive_any tb rb nx rs p w hn1 hn2 hl hl2 hT hR hpx).mono ?_
  rintro e w' ⟨v, rfl, hS⟩
  obtain ⟨a, c, rfl⟩ := own_slice hS.2.2.1
  exact ⟨a, c, rfl, hS⟩
def pn (k : Nat) : Pk := { zpk with number := k }
theorem l1 : arr 1 (empty 3) (pn 2) = ([], 1, [none, none, some (pn 2)]) := by rfl
theorem l2 : arr 1 [none, none, some (pn 2)] (pn 1) = ([pn 1, pn 2], 3, [none, none, none]) := by rfl
def L1 (w : World) (tb rb : Nat) (e : Ending) (w' : World) : Prop :=
  ∃ a c, e = .returned (.tuple #[.slice a 0 c, .int .u64 0]) ∧ Blk w' tb 93 [.int .u64 1, .slice (some ⟨rb, 0, none⟩) 3 3] ∧ Blk w' rb 90 (ring [none, none, some (pn 2)]) ∧ Keeps (fun k => k = tb ∨ k = rb) w w'
def L2 (w : World) (tb rb : Nat) (e : Ending) (w' : World) : Prop :=
  ∃ g c, e = .returned (.tuple #[.slice (some ⟨g, 0, none⟩) 2 c, .int .u64 2]) ∧ Blk w' tb 93 [.int .u64 3, .slice (some ⟨rb, 0, none⟩) 3 3] ∧ w'.cell? ⟨g, 13, none⟩ = some (.int .u64 2) ∧ Keeps (fun k => k = tb ∨ k = rb) w w'
theorem lives1 (tb rb : Nat) (w : World) (hT : Blk w tb 93 [.int .u64 1, .slice (some ⟨rb, 0, none⟩) 3 3]) (hR : Blk w rb 90 (ring (empty 3))) :
    Calls Try.prog 16 #[.pointer (some ⟨tb, 0, none⟩), .agg (pn 2).cells.toArray] w (L1 w tb rb) := by
  refine (arrive_sl tb rb 1 (empty 3) (pn 2) w (by omega) (by omega) (by decide) (by decide) hT hR (by decide)).mono ?_
  rintro e w' ⟨a, c, h, hS⟩
  rw [l1] at h hS
  exact ⟨a, c, h, hS.1, hS.2.1, hS.2.2.2⟩
theorem lives2 (tb rb : Nat) (w : World) (hT : Blk w tb 93 [.int .u64 1, .slice (some ⟨rb, 0, none⟩) 3 3]) (hR : Blk w rb 90 (ring [none, none, some (pn 2)])) :
    Calls Try.prog 16 #[.pointer (some ⟨tb, 0, none⟩), .agg (pn 1).cells.toArray] w (L2 w tb rb) := by
  refine (arrive_sl tb rb 1 [none, none, some (pn 2)] (pn 1) w (by omega) (by omega) (by decide) (by decide) hT hR (by decide)).mono ?_
  rintro e w' ⟨a, c, h, hS⟩
  rw [l2] at h hS
  rcases hS.2.2.1.2 with ⟨_, h0⟩ | ⟨g, cap, cur, hv, hg, hh, _⟩
  · simp at h0
  · have hc := hS.2.2.1.cells (g := g) (by rw [hv]; rfl) 13 (.int .u64 2) rfl
    simp only [Value.slice.injEq] at hv
    obtain ⟨rfl, _, rfl⟩ := hv
    rw [Addr.add_mid] at hc
    exact ⟨g, c, h, hS.1, hc, hS.2.2.2⟩
set_option maxRecDepth 100000 in
theorem lives_any (w : World) : Calls Try.prog 14 #[] w fun e w' => e = .returned (.bool true) ∧ Keeps (fun _ => False) w w' := by
  go_enter Try.func14, Try.ntmps14
  go_wp2_with (go_at_call 13; refine (new_yes 3 _ (by omega) (by omega)).mono ?_; rintro e w1 ⟨tb, rb, rfl, hT, hR, hK1, hb1, hb2⟩)
  refine (lives1 tb rb _ hT hR).mono ?_
  rintro e w2 ⟨a, c, rfl, hT2, hR2, hK2⟩
  go_wp2_with fail
  refine (lives2 tb rb _ hT2 hR2).mono ?_
  rintro e w3 ⟨g, c', rfl, hT3, hc, hK3⟩
  have h0 := hT3.cell 0
  have h1 := hT3.cell 1
  simp only [List.getElem?_cons_zero, List.getElem?_cons_succ] at h0 h1
  go_wp2_with (go_at_call 18; refine (next_any tb rb 3 3 _ (by exact h0) (by exact h1) (by omega)).mono ?_; rintro e w4 ⟨rfl, rfl⟩)
  go_ret
  refine ⟨rfl, (hK1.then hK2 ?_).then hK3 ?_⟩
  · intro i hi h; omega
  · intro i hi h; omega
end Take
end Go.Proofs.Ytndghakagogmcaa
