/-
MwG: the keys of a map of one entry, and of one of none.
MwH: what an iterator hands out, collected and sorted: one number at most.
MwI: the numbers of the objects and of the fences, in order.
-/
import Derived.Test.YtdaindihobfokaaGreatDoorZbkMwC
import Derived.Test.YtdaindihobfokaaGreatDoorZblIterQ
import Derived.Maps.AppendAt
import Derived.Maps.OwnIn
import Derived.Shelf.Abstract
namespace Go.Proofs.YtdaindihobfokaaGreatDoor
open Go.RowKit
open Go.ChangeMaps (setBlock)
set_option linter.unusedVariables false
set_option linter.unusedSimpArgs false
attribute [local go_sem] Oper.semAt_some
namespace Mw
open Mem
theorem it_next {w : World} {ib r : Nat} {v : Value} (hi : w.heap[ib]? = some (.mapIter (some r) 1 #[] 1)) (hm : Mp w r #[⟨.int .u32 3, v, 0⟩] 1) :
    ∃ w', (∀ ty, (Instr.next (.pointer (some ⟨ib, 0, none⟩)) false ty).run Tryz.prog w = .ok (.tuple #[.bool true, .int .u32 3, v]) w') ∧ (Instr.entry (.pointer (some ⟨ib, 0, none⟩))).run Tryz.prog w' = .ok (.tuple #[.int .u32 3, v]) w' ∧ Keeps (fun k => k = ib) w w' ∧ w'.heap[ib]? = some (.mapIter (some r) 1 #[0] 1) := by
  have alt := fun ty => run_next_at (P := Tryz.prog) w ty ib r 1 1 #[] #[⟨.int .u32 3, v, 0⟩] 1 hi hm (by simp) (Nat.le_refl _)
  rcases alt 0 with h1 | ⟨x, hx, w1, hw1, hrun⟩
  · have := h1.1
    simp [leftOf] at this
  · obtain rfl : x = ⟨.int .u32 3, v, 0⟩ := by simpa [leftOf] using hx
    have hw1' : w1.heap = w.heap := by rcases hw1 with rfl | rfl <;> rfl
    have hri : ib < w.heap.size := (Array.getElem?_eq_some_iff.1 hi).1
    have hrne : ib ≠ r := by rintro rfl; unfold Mp at hm; rw [hi] at hm; cases hm
    obtain ⟨w', hw'⟩ : ∃ w', w' = setBlock w1 ib (.mapIter (some r) 1 ((#[] : Array Nat).push 0) 1) := ⟨_, rfl⟩
    have hI : w'.heap[ib]? = some (.mapIter (some r) 1 ((#[] : Array Nat).push 0) 1) := by
      rw [hw']; simp [setBlock, hw1', Array.getElem?_setIfInBounds_self_of_lt hri]
    have hk : Keeps (fun k => k = ib) w w' := by
      refine ⟨?_, ?_, ?_, by rw [hw']; simp [setBlock, hw1'], fun k hk hn => ?_⟩
      · rw [hw']; rcases hw1 with rfl | rfl <;> rfl
      · rw [hw']; rcases hw1 with rfl | rfl <;> rfl
      · rw [hw']; rcases hw1 with rfl | rfl <;> rfl
      · rw [hw']; simp [setBlock, hw1', Array.getElem?_setIfInBounds_ne (Ne.symm hn)]
    exact ⟨w', fun ty => by rw [hw']; exact hrun, run_entry_at w' ib r 1 #[] #[⟨.int .u32 3, v, 0⟩] 1 ⟨.int .u32 3, v, 0⟩ hI ((hk.block r hm.lt (fun e => hrne e.symm)).trans hm) (by simp) (by simp), hk, hI⟩
theorem it_done {w : World} {ib r : Nat} {v : Value} (hi : w.heap[ib]? = some (.mapIter (some r) 1 #[0] 1)) (hm : Mp w r #[⟨.int .u32 3, v, 0⟩] 1) (ty : TypeId) : (Instr.next (.pointer (some ⟨ib, 0, none⟩)) false ty).run Tryz.prog w = .ok (.tuple #[.bool false]) w := by
  rcases run_next_at (P := Tryz.prog) w ty ib r 1 1 #[0] #[⟨.int .u32 3, v, 0⟩] 1 hi hm (by simp) (Nat.le_refl _) with h | ⟨e, he, _⟩
  · exact h.2
  · simp [leftOf] at he
set_option maxHeartbeats 4000000 in
set_option maxRecDepth 100000 in
theorem keys_gives (n PB r : Nat) (v : Value) (W : World) (hP : Blk W PB 85 [.map (some r)]) (hM : Mp W r #[⟨.int .u32 3, v, 0⟩] 1) :
    Gives Tryz.prog n 103 #[.pointer (some ⟨PB, 0, none⟩)] (fun x : Nat => #[.int .u32 (x : Int)]) [3] W (fun S => ¬ S r) := by
  intro l J Jx S hA hJ hJx hin hY h0
  refine callsIn_of_wp Tryz.func103 rfl trivial ?_ rfl
  simp only [Tryz.ntmps103, List.size_toArray, List.length_cons, List.length_nil, Nat.reduceAdd, Nat.reduceSub, Array.replicate_succ, Array.replicate_zero, List.push_toArray, List.append_toArray, List.nil_append, List.cons_append]
  have HY := Lib.hid hY; clear hY
  have c1 := hP.cell 0
  simp only [List.getElem?_cons_zero] at c1
  have hrg := run_range_map (P := Tryz.prog) W 85 _ _ r #[⟨.int .u32 3, v, 0⟩] 1 Tryz.underlying85 hM
  have hk0 : Keeps (fun _ => False) W (W.alloc (.mapIter (some r) 1 #[] 1)) := by (repeat (first | exact Keeps.refl _ _ | assumption | refine Keeps.alloc ?_ _ | refine Keeps.drew ?_))
  have hi0 : (W.alloc (.mapIter (some r) 1 #[] 1)).heap[W.heap.size]? = some (.mapIter (some r) 1 #[] 1) := heap_alloc_new W _
  obtain ⟨w5, hnx, hen, hk5, hi5⟩ := it_next hi0 (hM.alloc _)
  have hns : ¬ S W.heap.size := fun h => by have := hin _ h; omega
  have hlt : W.heap.size < w5.heap.size := (Array.getElem?_eq_some_iff.1 hi5).1
  have hM5 := (hM.alloc (.mapIter (some r) 1 #[] 1)).keeps hk5 (by have := hM.lt; omega)
  have hj0 : J [] S (W.alloc (.mapIter (some r) 1 #[] 1)) := hJ _ S _ _ _ h0 hin hk0 (fun _ _ h => h) (fun _ h => h.elim)
  have hj5 : J [] S w5 := hJ _ S _ _ _ hj0 (hin.mono hk0.size) hk5 (fun k hk e => hns (e ▸ hk)) (fun k e => by omega)
  have hin5 : Inb S w5 := (hin.mono hk0.size).mono hk5.size
  have hf5 : Foot S S W w5 := ⟨(hk0.mono (fun _ _ h => h.elim)).then hk5 (fun i hi e => by omega), fun _ h => .inl h⟩
  obtain ⟨fn, tmps, assign, body, hy, hR⟩ := HY.out [] 3 [] S w5 rfl hj5 hin5
  have hy2 : (Instr.yield l #[.int .u32 3]).run Tryz.prog w5 = _ := hy
  clear hy
  have HX := Lib.hid (And.intro hi5 (And.intro hM5 (And.intro hns (And.intro hlt (And.intro hA hf5)))))
  clear hP hM hk0 hi0 hk5 hi5 hns hlt hM5 hj0 hj5 hin5 hf5 hA hJ hJx hin h0
  gi_wp2
  refine wpIn_loop_rounds 2 ?_
  rw [roundsIn_succ]
  gi_wp2
  refine ⟨fun h => by simp [Fence.wide] at h, hR.mono ?_⟩
  rintro e W3 ⟨S3, hf3, hin3, (⟨rfl, hj3⟩ | ⟨rfl, hj3⟩)⟩
  · obtain ⟨hi5, hM5, hns, hlt, hA, hf5⟩ := HX.out
    have hi3 := (hf3.1.block _ hlt hns).trans hi5
    have hM3 := hM5.keeps hf3.1 hA
    have hnx3 := it_done hi3 hM3
    have HZ := Lib.hid (And.intro hj3 (And.intro hin3 (hf5.trans hf3)))
    clear hi5 hM5 hns hlt hA hf5 hi3 hM3 hj3 hin3 hf3
    gi_wp2
    rw [roundsIn_succ]
    gi_wp2
    go_end0
    exact ⟨⟨_, rfl⟩, S3, HZ.out.2.2, HZ.out.2.1, .inl HZ.out.1⟩
  · gi_wp2
    refine bodyPost_ret (results_none rfl _ _ _) rfl ?_
    exact ⟨⟨_, rfl⟩, S3, HX.out.2.2.2.2.2.trans hf3, hin3, .inr ⟨_, List.prefix_refl _, hj3⟩⟩
theorem it_none {w : World} {ib r : Nat} (hi : w.heap[ib]? = some (.mapIter (some r) 0 #[] 0)) (hm : Mp w r #[] 0) (ty : TypeId) : (Instr.next (.pointer (some ⟨ib, 0, none⟩)) false ty).run Tryz.prog w = .ok (.tuple #[.bool false]) w := by
  rcases run_next_at (P := Tryz.prog) w ty ib r 0 0 #[] #[] 0 hi hm (by simp) (Nat.le_refl _) with h | ⟨e, he, _⟩
  · exact h.2
  · simp [leftOf] at he
set_option maxHeartbeats 4000000 in
set_option maxRecDepth 100000 in
theorem keysf_gives (n PB r : Nat) (W : World) (hP : Blk W PB 86 [.map (some r)]) (hM : Mp W r #[] 0) :
    Gives Tryz.prog n 104 #[.pointer (some ⟨PB, 0, none⟩)] (fun x : Nat => #[.int .u32 (x : Int)]) [] W (fun S => ¬ S r) := by
  intro l J Jx S hA hJ hJx hin hY h0
  refine callsIn_of_wp Tryz.func104 rfl trivial ?_ rfl
  simp only [Tryz.ntmps104, List.size_toArray, List.length_cons, List.length_nil, Nat.reduceAdd, Nat.reduceSub, Array.replicate_succ, Array.replicate_zero, List.push_toArray, List.append_toArray, List.nil_append, List.cons_append]
  clear hY
  have c1 := hP.cell 0
  simp only [List.getElem?_cons_zero] at c1
  have hrg := run_range_map (P := Tryz.prog) W 86 _ _ r #[] 0 Tryz.underlying86 hM
  have hk0 : Keeps (fun _ => False) W (W.alloc (.mapIter (some r) 0 #[] 0)) := by (repeat (first | exact Keeps.refl _ _ | assumption | refine Keeps.alloc ?_ _ | refine Keeps.drew ?_))
  have hi0 : (W.alloc (.mapIter (some r) 0 #[] 0)).heap[W.heap.size]? = some (.mapIter (some r) 0 #[] 0) := heap_alloc_new W _
  have hnx := it_none hi0 (hM.alloc _)
  have hj0 : J [] S (W.alloc (.mapIter (some r) 0 #[] 0)) := hJ _ S _ _ _ h0 hin hk0 (fun _ _ h => h) (fun _ h => h.elim)
  have hf0 : Foot S S W (W.alloc (.mapIter (some r) 0 #[] 0)) := ⟨hk0.mono (fun _ _ h => h.elim), fun _ h => .inl h⟩
  have HX := Lib.hid (And.intro hj0 (And.intro hf0 (hin.mono hk0.size)))
  clear hP hM hk0 hi0 hj0 hf0 hA hJ hJx hin h0
  gi_wp2
  refine wpIn_loop_rounds 1 ?_
  rw [roundsIn_succ]
  gi_wp2
  go_end0
  exact ⟨⟨_, rfl⟩, S, HX.out.2.1, HX.out.2.2, .inl HX.out.1⟩
end Mw
end Go.Proofs.YtdaindihobfokaaGreatDoor
namespace Go.Proofs.YtdaindihobfokaaGreatDoor
open Go.RowKit
set_option linter.unusedVariables false
set_option linter.unusedSimpArgs false
attribute [local go_sem] Oper.semAt_some
namespace Mw
open Mem
theorem insertion1 (a : Option Addr) (n c : Nat) (hn : n ≤ 1) (w : World) : Calls Tryz.prog 182 #[.slice a n c, .int .i64 0, .int .i64 (n : Int)] w fun e w' => (∃ v, e = .returned v) ∧ w = w' := by
  have h1 : ¬ (1 : Int) < (n : Int) := by omega
  refine (callsIn_wide (n := 9)).1 ?_
  refine callsIn_of_wp Tryz.func182 rfl trivial ?_ rfl
  simp only [Tryz.ntmps182, List.size_toArray, List.length_cons, List.length_nil, Nat.reduceAdd, Nat.reduceSub, Array.replicate_succ, Array.replicate_zero, List.push_toArray, List.append_toArray, List.nil_append, List.cons_append]
  gi_wp2
  refine wpIn_loop_rounds 1 ?_
  rw [roundsIn_succ]
  gi_wp2
  go_end0
  exact ⟨⟨_, rfl⟩, rfl⟩
theorem pdq1 (a : Option Addr) (n c : Nat) (hn : n ≤ 1) (l : Value) (w : World) : Calls Tryz.prog 145 #[.slice a n c, .int .i64 0, .int .i64 (n : Int), l] w fun e w' => (∃ v, e = .returned v) ∧ w = w' := by
  have h1 : (n : Int) ≤ 12 := by omega
  have h2 : IntKind.i64.wrap (n : Int) = (n : Int) := IntWalk.i64_in _ (by omega)
  refine (callsIn_wide (n := 9)).1 ?_
  refine callsIn_of_wp Tryz.func145 rfl trivial ?_ rfl
  simp only [Tryz.ntmps145, List.size_toArray, List.length_cons, List.length_nil, Nat.reduceAdd, Nat.reduceSub, Array.replicate_succ, Array.replicate_zero, List.push_toArray, List.append_toArray, List.nil_append, List.cons_append]
  gi_wp2
  refine wpIn_loop_rounds 1 ?_
  rw [roundsIn_succ]
  gi_wp2_with (refine ⟨trivial, ?_⟩; gi_at_call 182; refine (callsIn_wide.2 (insertion1 _ _ _ hn _)).mono ?_; rintro e w1 ⟨⟨v, rfl⟩, rfl⟩)
  refine bodyPost_ret (results_none rfl _ _ _) rfl ?_
  exact ⟨⟨_, rfl⟩, rfl⟩
set_option maxRecDepth 1000000 in
set_option maxHeartbeats 4000000 in
theorem len64_yes (n : Int) (h0 : 0 ≤ n) (h : n ≤ 1) (w : World) : Calls Tryz.prog 192 #[.int .u64 n] w fun e w' => (∃ k, e = .returned (.int .i64 k)) ∧ w = w' := by
  rcases (by omega : n = 0 ∨ n = 1) with rfl | rfl
  all_goals
    go_enter Tryz.func192, Tryz.ntmps192
    go_wp2
    go_ret
    exact ⟨⟨_, rfl⟩, rfl⟩
theorem len_yes (n : Int) (h0 : 0 ≤ n) (h : n ≤ 1) (w : World) : Calls Tryz.prog 146 #[.int .u64 n] w fun e w' => (∃ k, e = .returned (.int .i64 k)) ∧ w = w' := by
  have hw : IntKind.u64.wrap n = n := IntWalk.u64_in _ (by omega)
  go_enter Tryz.func146, Tryz.ntmps146
  go_wp2_with (go_at_call 192; refine (len64_yes _ h0 h _).mono ?_; rintro e w1 ⟨⟨k, rfl⟩, rfl⟩)
  go_ret
  exact ⟨⟨_, rfl⟩, rfl⟩
theorem sort1 (a : Option Addr) (n c : Nat) (hn : n ≤ 1) (w : World) : Calls Tryz.prog 102 #[.slice a n c] w fun e w' => (∃ v, e = .returned v) ∧ w = w' := by
  have hw : IntKind.u64.wrap (n : Int) = (n : Int) := IntWalk.u64_in _ (by omega)
  have h2 : IntKind.i64.wrap (n : Int) = (n : Int) := IntWalk.i64_in _ (by omega)
  go_enter Tryz.func102, Tryz.ntmps102
  go_wp2_with (first
    | (go_at_call 146; refine (len_yes _ (by omega) (by omega) _).mono ?_; rintro e w1 ⟨⟨k, rfl⟩, rfl⟩)
    | (go_at_call 145; refine (pdq1 _ _ _ hn _ _).mono ?_; rintro e w1 ⟨⟨v, rfl⟩, rfl⟩))
  first
    | (go_end0; exact ⟨⟨_, rfl⟩, rfl⟩)
    | trace_state
theorem u32Info : (Tryz.prog.info? 26).map (fun i => (i.zero, i.size, i.bytes)) = some (some (.int .u32 0), 1, 4) := by kernel_rfl
def u32s (xs : List Nat) : List Value := xs.map fun x => .int .u32 ((x : Nat) : Int)
def WithAct {α : Type} (I : List α → (Nat → Prop) → World → Prop) (f : α → Act) (s : List α × α × Act) (S : Nat → Prop) (W : World) : Prop := I s.1 S W ∧ s.2.2 = f s.2.1
theorem WithAct.stab {α : Type} {I : List α → (Nat → Prop) → World → Prop} {b : Nat} (f : α → Act) (h : Stab b I) : Stab b (WithAct I f) :=
  fun s S T W W' hj hi hk hd ht => ⟨h s.1 S T W W' hj.1 hi hk hd ht, hj.2⟩
/-- the state of the collection between two rounds -/
def ColI (w : World) (B5 : Nat) (pre : List Nat) (S : Nat → Prop) (W : World) : Prop :=
  ∃ a c, Blk W B5 60 [.slice a pre.length c] ∧ W.ownsRow w.heap.size 26 1 (.slice a pre.length c) pre.length (u32s pre) ∧ Below w.heap.size w W ∧
    (∀ k, S k ↔ k = B5 ∨ (Value.slice a pre.length c).ownBlock = some k)
theorem col_stab (w : World) (B5 : Nat) (b : Nat) (hb : w.heap.size ≤ b) : Stab b (ColI w B5) := by
  intro pre S T W W' ⟨a, c, h1, h3', h4, h5⟩ hin hk hd ht
  refine ⟨a, c, h1.keeps hk (hd _ ((h5 _).2 (.inl rfl))), owns_keeps h3' hk (fun k hk' => hd _ ((h5 _).2 (.inr hk'))), h4.trans ⟨hk.os, hk.tape, hk.output, hk.size, fun k hk' => ?_⟩, h5⟩
  exact hk.block k (by have := h4.size; omega) (fun h => by have := ht _ h; omega)
theorem col_grow (w W w1 : World) (B5 : Nat) (pre : List Nat) (x : Nat) (S : Nat → Prop) (a : Option Addr) (c g cap : Nat) (o : Obj)
    (hS : ∀ k, S k ↔ k = B5 ∨ (Value.slice a pre.length c).ownBlock = some k) (hin : Inb S W) (hO : W.ownsRow w.heap.size 26 1 (.slice a pre.length c) pre.length (u32s pre))
    (h5 : Blk w1 B5 60 [.slice a pre.length c])
    (hown : w1.ownsRow w.heap.size 26 1 (.slice (some ⟨g, 0, none⟩) (pre.length + 1) cap) (pre.length + 1) (u32s pre ++ [.int .u32 (x : Int)]))
    (hgrow : (W.alloc o).grownBy w1 (Value.slice a pre.length c).ownBlock)
    (hat : (Value.slice (some ⟨g, 0, none⟩) (pre.length + 1) cap).ownBlock = (Value.slice a pre.length c).ownBlock ∨ (Value.slice (some ⟨g, 0, none⟩) (pre.length + 1) cap).ownBlock = some (W.alloc o).heap.size)
    (hB : Below w.heap.size w W) (hb5 : w.heap.size ≤ B5) :
    Foot S (fun k => k = B5 ∨ k = g) W (w1.setCell ⟨B5, 0, none⟩ (.slice (some ⟨g, 0, none⟩) (pre.length + 1) cap)) ∧
    Inb (fun k => k = B5 ∨ k = g) (w1.setCell ⟨B5, 0, none⟩ (.slice (some ⟨g, 0, none⟩) (pre.length + 1) cap)) ∧
    Blk (w1.setCell ⟨B5, 0, none⟩ (.slice (some ⟨g, 0, none⟩) (pre.length + 1) cap)) B5 60 [.slice (some ⟨g, 0, none⟩) (pre ++ [x]).length cap] ∧
    (w1.setCell ⟨B5, 0, none⟩ (.slice (some ⟨g, 0, none⟩) (pre.length + 1) cap)).ownsRow w.heap.size 26 1 (.slice (some ⟨g, 0, none⟩) (pre ++ [x]).length cap) (pre ++ [x]).length (u32s (pre ++ [x])) ∧
    Below w.heap.size w (w1.setCell ⟨B5, 0, none⟩ (.slice (some ⟨g, 0, none⟩) (pre.length + 1) cap)) ∧
    (∀ k, (k = B5 ∨ k = g) ↔ k = B5 ∨ (Value.slice (some ⟨g, 0, none⟩) (pre ++ [x]).length cap).ownBlock = some k) := by
  have hn5 : some B5 ≠ (Value.slice (some ⟨g, 0, none⟩) (pre.length + 1) cap).ownBlock := own_ne hown h5 (by decide)
  have hk : Keeps S W w1 := ((Keeps.refl S W).alloc o).grown hgrow (fun k hk e => (hS k).2 (.inr e))
  have hgl : g < w1.heap.size := (hown.lt g rfl).2
  have e1 : (pre ++ [x]).length = pre.length + 1 := by simp
  have e2 : u32s (pre ++ [x]) = u32s pre ++ [.int .u32 (x : Int)] := by simp [u32s]
  refine ⟨⟨hk.setCell (p := ⟨B5, 0, none⟩) (fun _ => (hS B5).2 (.inl rfl)) _, fun k h => ?_⟩, ?_, ?_, ?_, ?_, ?_⟩
  · rcases h with rfl | rfl
    · exact .inl ((hS _).2 (.inl rfl))
    · rcases hat with h | h
      · exact .inl ((hS _).2 (.inr h.symm))
      · simp [Value.ownBlock] at h
        exact .inr (by omega)
  · intro k h
    have := h5.lt
    rcases h with rfl | rfl <;> simpa [World.setCell]
  · rw [e1]; simpa using h5.set_ 0 (.slice (some ⟨g, 0, none⟩) (pre.length + 1) cap)
  · rw [e1, e2]; exact owns_setCell hown (p := ⟨B5, 0, none⟩) hn5.symm _
  · refine Below.setCell ?_ (p := ⟨B5, 0, none⟩) hb5 _
    exact (hB.alloc hB.size o).grown hgrow (by have := hB.size; simp; omega) (fun k hk => (hO.lt k hk).1)
  · intro k
    simp [Value.ownBlock, eq_comm]
/-- a fresh slice of numbers -/
def Fresh (w : World) (xs : List Nat) (e : Ending) (w' : World) : Prop :=
  ∃ a c, e = .returned (.slice a xs.length c) ∧ w'.ownsRow w.heap.size 26 1 (.slice a xs.length c) xs.length (u32s xs) ∧ Keeps (fun _ => False) w w'
set_option maxHeartbeats 4000000 in
set_option maxRecDepth 100000 in
theorem appseq_t (gf : Nat) (lb : Array Value) (xs : List Nat) (w : World) (A : (Nat → Prop) → Prop) (hl : xs.length ≤ 1000000)
    (eg : ∀ args w, (callFunc gf args).run Tryz.prog w = .ok (.enter gf args) w)
    (hg : ∀ W1, Keeps (fun _ => False) w W1 → Gives Tryz.prog 8 gf lb (fun x : Nat => #[.int .u32 (x : Int)]) xs W1 A) (hA : ∀ S, (∀ k, S k → w.heap.size ≤ k) → A S) :
    Calls Tryz.prog 144 #[.slice none 0 0, .func (.func gf) #[] lb] w (Fresh w xs) := by
  refine (callsIn_wide (n := 9)).1 ?_
  refine callsIn_of_wp_marks Tryz.func144 rfl trivial ?_ rfl
  simp only [Tryz.ntmps144, List.size_toArray, List.length_cons, List.length_nil, Nat.reduceAdd, Nat.reduceSub, Array.replicate_succ, Array.replicate_zero, List.push_toArray, List.append_toArray, List.nil_append, List.cons_append]
  have HG := Lib.hid hg; clear hg
  have HA := Lib.hid hA; clear hA
  gi_wp2
  have hz1 : (w.alloc (.cells #[.slice none 0 0] 60)).heap.size = w.heap.size + 1 := by simp
  refine wpIn_range (gf := gf) (lb := lb) (encs := fun x : Nat => #[.int .u32 (x : Int)]) (xs := xs) (A := A) rfl eg
    (fun W1 hk => HG.out W1 (((Keeps.refl _ w).alloc _).trans hk)) (fun _ => rfl)
    (ColI w w.heap.size) (fun _ _ _ _ => False) (col_stab w _ _ (by omega)) (fun _ _ _ _ _ _ h => h.elim)
    (fun k => k = w.heap.size) (fun k hk => by rw [hz1]; omega) ⟨none, 0, Blk.new w _ _, World.ownsRow_nil _ _ _ _, (Below.refl _ w).alloc (Nat.le_refl _) _, ?i3⟩
    (fun S hS => HA.out S (fun k hk => by rcases hS k hk with h | h <;> omega))
    (WithAct (ColI w w.heap.size) (fun x => ⟨#[.slice none 0 0, .func (.func gf) #[] lb, .pointer (some ⟨w.heap.size, 0, none⟩), undef, .slice none 0 0, .int .u32 (x : Int), .func (.func gf) #[] lb, .int .u32 (x : Int), undef, undef, undef, undef, undef], []⟩))
    (WithAct.stab _ (col_stab w _ _ (by omega))) ?assign ?body ?done ?stop
  case i3 => intro k; simp [Value.ownBlock]
  case assign =>
    intro l pre x rest S W hxs hI hin hlt
    gi_wp2
    exact ⟨S, Foot.refl _ _, hin, hI, rfl⟩
  case body =>
    rintro l pre x rest a1 S W hxs ⟨⟨a, c, h5, hO, hB, hS⟩, ha⟩ hin hlt
    simp only at ha h5 hO hS
    subst ha
    have c5 := h5.cell 0
    have f5 := h5.frozen 0
    simp only [List.getElem?_cons_zero] at c5
    obtain ⟨i0, hi0, he0⟩ := Option.map_eq_some_iff.1 u32Info
    simp only [Prod.mk.injEq] at he0
    obtain ⟨hz0, hz1', hz2⟩ := he0
    have hpl : pre.length + 1 ≤ 1000000 := by rw [hxs] at hl; simp at hl; omega
    gi_wp2_with (gi_at_builtin; refine wpListIn_append_own_at _ rfl (.tmp 8) (.tmp 10) 60 rfl w.heap.size 26 i0 _ 1 4 Tryz.underlying60 hi0 hz0 hz1' hz2 rfl (by decide) (.slice a pre.length c) pre.length (u32s pre) rfl (hO.alloc _) ⟨W.heap.size, 0, none⟩ 1 1 [.int .u32 (x : Int)] rfl rfl (by exact Mem.news_new W _ [_]) (by simp [Value.oneCell']) (by unfold maxLen; omega) (by omega) (by have := hB.size; simp; omega) ?_; intro v' w1 hown' hgrow _ hat; obtain ⟨g', cap', rfl⟩ := ownsRow_succ hown'; have h51 := (h5.alloc (.cells #[.int .u32 (x : Int)] 26)).grown hgrow (own_ne hO h5 (by decide)); have c51 := h51.cell 0; have f51 := h51.frozen 0; simp only [List.getElem?_cons_zero] at c51; clear c5 f5)
    obtain ⟨t1, t2, t3, t5, t6, t7⟩ := col_grow w W w1 w.heap.size pre x S a c g' cap' (.cells #[.int .u32 (x : Int)] 26) hS hin hO h51 hown' hgrow hat hB (by omega)
    exact ⟨_, t1, t2, some ⟨g', 0, none⟩, cap', t3, t5, t6, t7⟩
  case done =>
    rintro D S' W' hD hnD hf hin ⟨a, c, h5, hO, hB, hS⟩ hDD
    have c5 := h5.cell 0
    simp only [List.getElem?_cons_zero] at c5
    gi_wp2
    refine ⟨by simp, .inl ⟨_, _, rfl, run_takeDeferred hDD, ?_⟩⟩
    refine ⟨_, results_tmp rfl _ _ _, a, c, rfl, ?_, ?_⟩
    · exact owns_keeps hO (keeps_putObj W' D _) (fun k hk e => hnD (e ▸ (hS k).2 (.inr hk)))
    · exact (Keeps.of_below0 hB).then (keeps_putObj W' D _) (fun i hi e => by omega)
  case stop =>
    rintro D c0 pre S' W' hD hnD hf hin hpre h
    exact h.elim
end Mw
end Go.Proofs.YtdaindihobfokaaGreatDoor
namespace Go.Proofs.YtdaindihobfokaaGreatDoor
open Go.RowKit Go.Shelf
set_option linter.unusedVariables false
set_option linter.unusedSimpArgs false
attribute [local go_sem] Oper.semAt_some
namespace Mw
open Mem
theorem collect_g (gf : Nat) (lb : Array Value) (xs : List Nat) (w : World) (H : Calls Tryz.prog 144 #[.slice none 0 0, .func (.func gf) #[] lb] w (Fresh w xs)) : Calls Tryz.prog 101 #[.func (.func gf) #[] lb] w fun e w' => Fresh w xs e w' := by
  have H := Lib.hid H
  go_enter Tryz.func101, Tryz.ntmps101
  go_wp2_with (go_at_call 144; (with_reducible refine H.out.mono ?_); rintro e w1 ⟨a, c, rfl, h⟩; have HX := Lib.hid h; clear h)
  go_ret
  exact ⟨a, c, rfl, HX.out⟩
theorem sorted_g (gf : Nat) (lb : Array Value) (xs : List Nat) (n : Nat) (hn : n = xs.length) (hn1 : n ≤ 1) (w : World) (H : Calls Tryz.prog 144 #[.slice none 0 0, .func (.func gf) #[] lb] w (Fresh w xs)) : Calls Tryz.prog 67 #[.func (.func gf) #[] lb] w fun e w' => Fresh w xs e w' := by
  have H := Lib.hid (collect_g gf lb xs w H)
  have HN := Lib.hid hn
  unfold Fresh at H ⊢
  rw [← HN.out] at H
  rw [← HN.out]
  clear hn
  go_enter Tryz.func67, Tryz.ntmps67
  go_wp2_with (first
    | (go_at_call 101; (with_reducible refine H.out.mono ?_); rintro e w1 ⟨a, c, rfl, h⟩; have HX := Lib.hid h; clear h)
    | (go_at_call 102; refine (sort1 a n c hn1 _).mono ?_; rintro e w2 ⟨⟨u, rfl⟩, rfl⟩))
  go_ret
  exact ⟨a, c, rfl, HX.out⟩
theorem keyso_t (r : Nat) (w : World) : Calls Tryz.prog 68 #[.map (some r)] w fun e w' => e = .returned (.func (.func 103) #[] #[.pointer (some ⟨w.heap.size, 0, none⟩)]) ∧ w.alloc (.cells #[.map (some r)] 85) = w' := by
  go_enter Tryz.func68, Tryz.ntmps68
  go_wp2
  go_ret
  exact ⟨rfl, rfl⟩
theorem keysf_t (r : Nat) (w : World) : Calls Tryz.prog 69 #[.map (some r)] w fun e w' => e = .returned (.func (.func 104) #[] #[.pointer (some ⟨w.heap.size, 0, none⟩)]) ∧ w.alloc (.cells #[.map (some r)] 86) = w' := by
  go_enter Tryz.func69, Tryz.ntmps69
  go_wp2
  go_ret
  exact ⟨rfl, rfl⟩
/-- the one object's number -/
theorem riseo_t (r : Nat) (v : Value) (w : World) (h : Mp w r #[⟨.int .u32 3, v, 0⟩] 1) : Calls Tryz.prog 44 #[.map (some r)] w fun e w' => ∃ g c, e = .returned (.slice (some ⟨g, 0, none⟩) 1 c) ∧ w'.cell? ⟨g, 0, none⟩ = some (.int .u32 3) ∧ w.heap.size ≤ g ∧ Keeps (fun _ => False) w w' := by
  obtain ⟨w1, hw1⟩ : ∃ w1, w1 = w.alloc (.cells #[.map (some r)] 85) := ⟨_, rfl⟩
  have hp : Blk w1 w.heap.size 85 [.map (some r)] := by rw [hw1]; exact Blk.new w _ _
  have hm : Mp w1 r #[⟨.int .u32 3, v, 0⟩] 1 := by rw [hw1]; exact h.alloc _
  have hk : Keeps (fun _ => False) w w1 := by rw [hw1]; (repeat (first | exact Keeps.refl _ _ | assumption | refine Keeps.alloc ?_ _ | refine Keeps.drew ?_))
  have hlt := hm.lt
  have HS := Lib.hid (sorted_g 103 #[.pointer (some ⟨w.heap.size, 0, none⟩)] [3] 1 rfl (by decide) w1 (appseq_t 103 #[.pointer (some ⟨w.heap.size, 0, none⟩)] [3] w1 (fun S => ¬ S r) (by decide) (enters_of Tryz.func103 (by kernel_rfl) rfl) (fun W1 hk => keys_gives 8 _ r v W1 (hp.keeps hk (fun h => h)) (hm.keeps hk (fun h => h))) (fun S hS h => by have := hS r h; omega)))
  have HK := Lib.hid (show ∀ W, w.alloc (.cells #[.map (some r)] 85) = W → W = w1 from fun W e => e.symm.trans hw1.symm)
  have K0 := Lib.hid hk
  clear hp hm hk hlt h hw1
  go_enter Tryz.func44, Tryz.ntmps44
  go_wp2_with (first
    | (go_at_call 68; (with_reducible refine (keyso_t r _).mono ?_); rintro e w2 ⟨rfl, e2⟩; obtain rfl := HK.out _ e2; clear e2)
    | (go_at_call 67; (with_reducible refine HS.out.mono ?_); rintro e w2 ⟨a, c, rfl, ho, hk⟩; have HX := Lib.hid (And.intro ho hk); clear ho hk))
  go_ret
  obtain ⟨ho, hk⟩ := HX.out
  rcases ho.2 with ⟨he, hn⟩ | ⟨g, cap, cur, he, hb, hg, h1, h2⟩
  · injection he with e1 e2; simp at e2
  · obtain ⟨e1, e3⟩ : a = some ⟨g, 0, none⟩ ∧ True := by injection he with e1 e2 e3; exact ⟨e1, trivial⟩
    subst e1
    have := World.ownsRow.cells ho (g := g) rfl 0 (.int .u32 3) rfl
    rw [Addr.add_mid, Nat.zero_add] at this
    exact ⟨g, c, rfl, this, Nat.le_trans K0.out.size hb, K0.out.trans hk⟩
/-- no fence's number -/
theorem risef_t (r : Nat) (w : World) (h : Mp w r #[] 0) : Calls Tryz.prog 45 #[.map (some r)] w fun e w' => ∃ a c, e = .returned (.slice a 0 c) ∧ Keeps (fun _ => False) w w' := by
  obtain ⟨w1, hw1⟩ : ∃ w1, w1 = w.alloc (.cells #[.map (some r)] 86) := ⟨_, rfl⟩
  have hp : Blk w1 w.heap.size 86 [.map (some r)] := by rw [hw1]; exact Blk.new w _ _
  have hm : Mp w1 r #[] 0 := by rw [hw1]; exact h.alloc _
  have hk : Keeps (fun _ => False) w w1 := by rw [hw1]; (repeat (first | exact Keeps.refl _ _ | assumption | refine Keeps.alloc ?_ _ | refine Keeps.drew ?_))
  have hlt := hm.lt
  have HS := Lib.hid (sorted_g 104 #[.pointer (some ⟨w.heap.size, 0, none⟩)] [] 0 rfl (by decide) w1 (appseq_t 104 #[.pointer (some ⟨w.heap.size, 0, none⟩)] [] w1 (fun S => ¬ S r) (by decide) (enters_of Tryz.func104 (by kernel_rfl) rfl) (fun W1 hk => keysf_gives 8 _ r W1 (hp.keeps hk (fun h => h)) (hm.keeps hk (fun h => h))) (fun S hS h => by have := hS r h; omega)))
  have HK := Lib.hid (show ∀ W, w.alloc (.cells #[.map (some r)] 86) = W → W = w1 from fun W e => e.symm.trans hw1.symm)
  have K0 := Lib.hid hk
  clear hp hm hk hlt h hw1
  go_enter Tryz.func45, Tryz.ntmps45
  go_wp2_with (first
    | (go_at_call 69; (with_reducible refine (keysf_t r _).mono ?_); rintro e w2 ⟨rfl, e2⟩; obtain rfl := HK.out _ e2; clear e2)
    | (go_at_call 67; (with_reducible refine HS.out.mono ?_); rintro e w2 ⟨a, c, rfl, ho, hk⟩; have HX := Lib.hid (And.intro ho hk); clear ho hk))
  go_ret
  exact ⟨a, c, rfl, K0.out.trans HX.out.2⟩
end Mw
end Go.Proofs.YtdaindihobfokaaGreatDoor
