/-
  AmC: an update is admitted: room, the lane, what is kept.
-/
import Derived.Test.YtldlkepagmmohaaGreatDoorAmB
namespace Go.Proofs.YtldlkepagmmohaaGreatDoor
open Go.RowKit
set_option linter.unusedVariables false
set_option linter.unusedSimpArgs false
attribute [local go_sem] Oper.semAt_some
namespace Am
open Mem
set_option maxHeartbeats 1000000 in
set_option maxRecDepth 20000 in
theorem room_t (m1 : Nat) (w : World) (h : Mp w m1 #[] 0) : Calls Tryz.prog 33 #[.map (some m1), .int .u32 5, .int .i64 1] w fun e w' => e = .returned (.bool true) ∧ Keeps (fun _ => False) w w' := by
  have hrg := run_range_map (P := Tryz.prog) w 61 _ _ m1 #[] 0 Tryz.underlying61 h
  have hm := h.alloc (.mapIter (some m1) 0 #[] 0)
  have hnx : ∀ ty, (Instr.next (.pointer (some ⟨w.heap.size, 0, none⟩)) false ty).run Tryz.prog (w.alloc (.mapIter (some m1) 0 #[] 0)) = .ok (.tuple #[.bool false]) (w.alloc (.mapIter (some m1) 0 #[] 0)) := fun ty => by
    have hr : ((w.alloc (.mapIter (some m1) 0 #[] 0))).heap[w.heap.size]? = some (.mapIter (some m1) 0 #[] 0) := heap_alloc_new w (.mapIter (some m1) 0 #[] 0)
    rcases run_next_at (P := Tryz.prog) (w.alloc (.mapIter (some m1) 0 #[] 0)) ty w.heap.size m1 0 0 #[] #[] 0 hr hm (by simp) (Nat.le_refl _) with h | ⟨e, he, _⟩
    · exact h.2
    · simp [leftOf] at he
  have hlk := lk0 hm
  have HK := Lib.hid (show Keeps (fun _ => False) w (w.alloc (.mapIter (some m1) 0 #[] 0)) from by (repeat (first | exact Keeps.refl _ _ | assumption | refine Keeps.alloc ?_ _ | refine Keeps.drew ?_)))
  clear h hm
  go_enter Tryz.func33, Tryz.ntmps33
  go_wp2
  refine wp_loop_rounds 1 ?_
  rw [rounds_succ]
  go_wp2_with (go_at_call 61; (with_reducible refine (kept_no _).mono ?_); rintro e w2 ⟨rfl, hk2⟩; have HK2 := Lib.hid (HK.out.trans hk2); clear hk2)
  go_ret
  exact ⟨rfl, HK2.out⟩
set_option maxHeartbeats 1000000 in
set_option maxRecDepth 20000 in
theorem set_t (m1 : Nat) (n : Int) (w : World) (h : Mp w m1 #[] 0) : Calls Tryz.prog 35 #[.map (some m1), .int .u32 5, .agg #[.bool true, .int .u32 n, .bool false, .int .i64 1]] w fun e w' => e = .returned (.tuple #[]) ∧ Keeps (fun k => k = m1) w w' ∧ Mp w' m1 #[⟨.int .u32 5, .agg #[.bool true, .int .u32 n, .bool false, .int .i64 1], 0⟩] 1 := by
  have hm := h.alloc (.cells #[.bool true, .int .u32 n, .bool false, .int .i64 1] 81)
  have hup := up0 hm (.agg #[.bool true, .int .u32 n, .bool false, .int .i64 1])
  have hlt := h.lt
  have hb := (Blk.new w 81 [.bool true, .int .u32 n, .bool false, .int .i64 1])
  have k2 := setM_keeps (w.alloc (.cells #[.bool true, .int .u32 n, .bool false, .int .i64 1] 81)) m1 #[⟨.int .u32 5, .agg #[.bool true, .int .u32 n, .bool false, .int .i64 1], 0⟩] 1
  have m2 := setM_mp hm #[⟨.int .u32 5, .agg #[.bool true, .int .u32 n, .bool false, .int .i64 1], 0⟩] 1
  have c0 := (hb.keeps k2 (by omega)).cell
  have HX := Lib.hid (And.intro (((Keeps.refl (fun k => k = m1) w).alloc (.cells #[.bool true, .int .u32 n, .bool false, .int .i64 1] 81)).trans k2) m2)
  clear h hm hlt hb k2 m2
  go_enter Tryz.func35, Tryz.ntmps35
  go_wp2
  go_end0
  exact ⟨rfl, HX.out⟩
end Am
end Go.Proofs.YtldlkepagmmohaaGreatDoor
