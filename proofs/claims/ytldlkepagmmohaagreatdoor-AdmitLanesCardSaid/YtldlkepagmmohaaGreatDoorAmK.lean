/-
  AmK: the keys of a map of one entry, collected and sorted.
-/
import Derived.Test.YtldlkepagmmohaaGreatDoorAmJ
import Derived.Test.YtldlkepagmmohaaGreatDoorIterQ
import Derived.Maps.AppendAt
import Derived.Maps.OwnIn
namespace Go.Proofs.YtldlkepagmmohaaGreatDoor
open Go.RowKit
open Go.ChangeMaps (setBlock)
set_option linter.unusedVariables false
set_option linter.unusedSimpArgs false
attribute [local go_sem] Oper.semAt_some
namespace Am
open Mem
theorem it_next {w : World} {ib r : Nat} {v : Value} (hi : w.heap[ib]? = some (.mapIter (some r) 1 #[] 1)) (hm : Mp w r #[⟨.int .u32 5, v, 0⟩] 1) :
    ∃ w', (∀ ty, (Instr.next (.pointer (some ⟨ib, 0, none⟩)) false ty).run Tryz.prog w = .ok (.tuple #[.bool true, .int .u32 5, v]) w') ∧ (Instr.entry (.pointer (some ⟨ib, 0, none⟩))).run Tryz.prog w' = .ok (.tuple #[.int .u32 5, v]) w' ∧ Keeps (fun k => k = ib) w w' ∧ w'.heap[ib]? = some (.mapIter (some r) 1 #[0] 1) := by
  have alt := fun ty => run_next_at (P := Tryz.prog) w ty ib r 1 1 #[] #[⟨.int .u32 5, v, 0⟩] 1 hi hm (by simp) (Nat.le_refl _)
  rcases alt 0 with h1 | ⟨x, hx, w1, hw1, hrun⟩
  · have := h1.1
    simp [leftOf] at this
  · obtain rfl : x = ⟨.int .u32 5, v, 0⟩ := by simpa [leftOf] using hx
    have hw1' : w1.heap = w.heap := by rcases hw1 with rfl | rfl <;> rfl
    have hri : ib < w.heap.size := (Array.getElem?_eq_some_iff.1 hi).1
    have hrne : ib ≠ r := by rintro rfl; unfold Mp at hm; rw [hi] at hm; cases hm
    obtain ⟨w', hw'⟩ : ∃ w', w' = setBlock w1 ib (.mapIter (some r) 1 ((#[] : Array Nat).push 0) 1) := ⟨_, rfl⟩
    have hI : w'.heap[ib]? = some (.mapIter (some r) 1 ((#[] : Array Nat).push 0) 1) := by
      rw [hw']; simp [setBlock, hw1', Array.getElem?_setIfInBounds_self_of_lt hri]
    have hk : Keeps (fun k => k = ib) w w' := by
      refine ⟨?_, ?_, ?_, by rw [hw']; simp [setBlock, hw1'], fun k hk hn => ?_⟩
      · rw [hw']; rcases hw1 with rfl | rfl <;> rfl
      · rw [hw']; rcases hw1 with rfl | rfl <;> rfl
      · rw [hw']; rcases hw1 with rfl | rfl <;> rfl
      · rw [hw']; simp [setBlock, hw1', Array.getElem?_setIfInBounds_ne (Ne.symm hn)]
    exact ⟨w', fun ty => by rw [hw']; exact hrun, run_entry_at w' ib r 1 #[] #[⟨.int .u32 5, v, 0⟩] 1 ⟨.int .u32 5, v, 0⟩ hI ((hk.block r hm.lt (fun e => hrne e.symm)).trans hm) (by simp) (by simp), hk, hI⟩
theorem it_done {w : World} {ib r : Nat} {v : Value} (hi : w.heap[ib]? = some (.mapIter (some r) 1 #[0] 1)) (hm : Mp w r #[⟨.int .u32 5, v, 0⟩] 1) (ty : TypeId) : (Instr.next (.pointer (some ⟨ib, 0, none⟩)) false ty).run Tryz.prog w = .ok (.tuple #[.bool false]) w := by
  rcases run_next_at (P := Tryz.prog) w ty ib r 1 1 #[0] #[⟨.int .u32 5, v, 0⟩] 1 hi hm (by simp) (Nat.le_refl _) with h | ⟨e, he, _⟩
  · exact h.2
  · simp [leftOf] at he
set_option maxHeartbeats 4000000 in
set_option maxRecDepth 100000 in
theorem keys_gives (n PB r : Nat) (v : Value) (W : World) (hP : Blk W PB 61 [.map (some r)]) (hM : Mp W r #[⟨.int .u32 5, v, 0⟩] 1) :
    Gives Tryz.prog n 44 #[.pointer (some ⟨PB, 0, none⟩)] (fun x : Nat => #[.int .u32 (x : Int)]) [5] W (fun S => ¬ S r) := by
  intro l J Jx S hA hJ hJx hin hY h0
  refine callsIn_of_wp Tryz.func44 rfl trivial ?_ rfl
  simp only [Tryz.ntmps44, List.size_toArray, List.length_cons, List.length_nil, Nat.reduceAdd, Nat.reduceSub, Array.replicate_succ, Array.replicate_zero, List.push_toArray, List.append_toArray, List.nil_append, List.cons_append]
  have HY := Lib.hid hY; clear hY
  have c1 := hP.cell 0
  simp only [List.getElem?_cons_zero] at c1
  have hrg := run_range_map (P := Tryz.prog) W 61 _ _ r #[⟨.int .u32 5, v, 0⟩] 1 Tryz.underlying61 hM
  have hk0 : Keeps (fun _ => False) W (W.alloc (.mapIter (some r) 1 #[] 1)) := by (repeat (first | exact Keeps.refl _ _ | assumption | refine Keeps.alloc ?_ _ | refine Keeps.drew ?_))
  have hi0 : (W.alloc (.mapIter (some r) 1 #[] 1)).heap[W.heap.size]? = some (.mapIter (some r) 1 #[] 1) := heap_alloc_new W _
  obtain ⟨w5, hnx, hen, hk5, hi5⟩ := it_next hi0 (hM.alloc _)
  have hns : ¬ S W.heap.size := fun h => by have := hin _ h; omega
  have hlt : W.heap.size < w5.heap.size := (Array.getElem?_eq_some_iff.1 hi5).1
  have hM5 := (hM.alloc (.mapIter (some r) 1 #[] 1)).keeps hk5 (by have := hM.lt; omega)
  have hj0 : J [] S (W.alloc (.mapIter (some r) 1 #[] 1)) := hJ _ S _ _ _ h0 hin hk0 (fun _ _ h => h) (fun _ h => h.elim)
  have hj5 : J [] S w5 := hJ _ S _ _ _ hj0 (hin.mono hk0.size) hk5 (fun k hk e => hns (e ▸ hk)) (fun k e => by omega)
  have hin5 : Inb S w5 := (hin.mono hk0.size).mono hk5.size
  have hf5 : Foot S S W w5 := ⟨(hk0.mono (fun _ _ h => h.elim)).then hk5 (fun i hi e => by omega), fun _ h => .inl h⟩
  obtain ⟨fn, tmps, assign, body, hy, hR⟩ := HY.out [] 5 [] S w5 rfl hj5 hin5
  have hy2 : (Instr.yield l #[.int .u32 5]).run Tryz.prog w5 = _ := hy
  clear hy
  have HX := Lib.hid (And.intro hi5 (And.intro hM5 (And.intro hns (And.intro hlt (And.intro hA hf5)))))
  clear hP hM hk0 hi0 hk5 hi5 hns hlt hM5 hj0 hj5 hin5 hf5 hA hJ hJx hin h0
  gi_wp2
  refine wpIn_loop_rounds 2 ?_
  rw [roundsIn_succ]
  gi_wp2
  refine ⟨fun h => by simp [Fence.wide] at h, hR.mono ?_⟩
  rintro e W3 ⟨S3, hf3, hin3, (⟨rfl, hj3⟩ | ⟨rfl, hj3⟩)⟩
  · obtain ⟨hi5, hM5, hns, hlt, hA, hf5⟩ := HX.out
    have hi3 := (hf3.1.block _ hlt hns).trans hi5
    have hM3 := hM5.keeps hf3.1 hA
    have hnx3 := it_done hi3 hM3
    have HZ := Lib.hid (And.intro hj3 (And.intro hin3 (hf5.trans hf3)))
    clear hi5 hM5 hns hlt hA hf5 hi3 hM3 hj3 hin3 hf3
    gi_wp2
    rw [roundsIn_succ]
    gi_wp2
    go_end0
    exact ⟨⟨_, rfl⟩, S3, HZ.out.2.2, HZ.out.2.1, .inl HZ.out.1⟩
  · gi_wp2
    refine bodyPost_ret (results_none rfl _ _ _) rfl ?_
    exact ⟨⟨_, rfl⟩, S3, HX.out.2.2.2.2.2.trans hf3, hin3, .inr ⟨_, List.prefix_refl _, hj3⟩⟩
end Am
end Go.Proofs.YtldlkepagmmohaaGreatDoor
