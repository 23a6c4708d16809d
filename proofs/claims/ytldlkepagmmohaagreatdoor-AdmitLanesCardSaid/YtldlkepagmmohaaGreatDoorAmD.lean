/-
  AmD: an update is admitted: its lane, the copies.
-/
import Derived.Test.YtldlkepagmmohaaGreatDoorAmC
import Derived.Deep.RegionHeldLaw
import Derived.Test.YtldlkepagmmohaaGreatDoorAppW
namespace Go.Proofs.YtldlkepagmmohaaGreatDoor
open Go.RowKit
set_option linter.unusedVariables false
set_option linter.unusedSimpArgs false
attribute [local go_sem] Oper.semAt_some
namespace Am
open Mem
/-- an order's cells -/
abbrev ordL (B : Nat) : List Value := [.pointer (some ⟨B, 0, none⟩), .int .u8 1, .int .u32 5, .int .u32 3, .int .u32 0, .int .i32 0, .int .i32 0, .int .u32 0, .int .u8 0, .slice none 0 0, .slice none 0 0, .int .i32 0, .string ⟨#[]⟩, .int .i64 (-1), .int .u8 0, .int .u32 0, .int .u32 0, .int .u32 0, .int .i32 0, .int .i32 0, .int .u32 0, .int .u8 0, .slice none 0 0, .slice none 0 0, .int .i32 0, .string ⟨#[]⟩, .int .u32 0, .bool false, .int .i64 (-1), .int .u32 0]
theorem laneV_1 : Ad.laneV 2 2 1 2 2 2 1 1 1 1 0 1 5 = 1 := by
  unfold Ad.laneV
  rw [if_pos small_fit, if_pos (by omega)]
  kernel_rfl
theorem lane_1 (W : World) : Calls Tryz.prog 4 #[.agg #[.int .i64 2, .int .i64 2, .int .i64 1, .int .i64 2, .int .i64 2, .int .i64 2, .int .i64 1, .int .i64 1, .int .i64 1, .int .i64 1, .int .i64 0], .agg #[.int .u8 1, .int .u32 5, .int .u32 3, .int .u32 0, .int .i32 0, .int .i32 0, .int .u32 0, .int .u8 0, .slice none 0 0, .slice none 0 0, .int .i32 0, .string ⟨#[]⟩]] W fun e w' => e = .returned (.int .i64 1) ∧ Keeps (fun _ => False) W w' := by
  have := Ad.lane_t 2 2 1 2 2 2 1 1 1 1 0 1 5 3 0 0 0 0 0 0 none none 0 0 0 0 ⟨#[]⟩ W
  rw [laneV_1] at this
  exact this
/-- an order at a book in which nothing waits -/
structure At0 (w : World) (ob B m1 m2 tb lb : Nat) (ep : Int) : Prop where
  ord : Blk w ob 73 (ordL B)
  book : Blk w B 65 (bookL m1 m2 tb lb ep)
  lanes : Blk w lb 102 [.slice none 0 0, .slice none 0 0, .slice none 0 0]
theorem At0.keeps {w w' : World} {ob B m1 m2 tb lb : Nat} {ep : Int} (h : At0 w ob B m1 m2 tb lb ep) (k : Keeps (fun _ => False) w w') : At0 w' ob B m1 m2 tb lb ep := ⟨h.ord.keeps k (fun h => h), h.book.keeps k (fun h => h), h.lanes.keeps k (fun h => h)⟩
theorem At0.s3 {w : World} {ob B m1 m2 tb lb : Nat} {ep : Int} (h : At0 w ob B m1 m2 tb lb ep) : (∀ i : Nat, w.cell? ⟨ob, i, none⟩ = (ordL B : List Value)[i]?) ∧ (∀ i : Nat, w.cell? ⟨B, i, none⟩ = (bookL m1 m2 tb lb ep : List Value)[i]?) ∧ (∀ i : Nat, w.cell? ⟨lb, i, none⟩ = ([.slice none 0 0, .slice none 0 0, .slice none 0 0] : List Value)[i]?) := ⟨h.ord.cell, h.book.cell, h.lanes.cell⟩
set_option maxHeartbeats 1000000 in
set_option maxRecDepth 20000 in
theorem full_t (ob B m1 m2 tb lb : Nat) (ep : Int) (w : World) (h : At0 w ob B m1 m2 tb lb ep) : Calls Tryz.prog 34 #[.pointer (some ⟨ob, 0, none⟩)] w fun e w' => e = .returned (.bool false) ∧ Keeps (fun _ => False) w w' := by
  have hS := h.s3
  have HS := Lib.hid (fun W' (hk : Keeps (fun _ => False) w W') => (h.keeps hk).s3)
  clear h
  go_enter Tryz.func34, Tryz.ntmps34
  go_wp2
  go_region_held3 (fun W => (∀ i : Nat, W.cell? ⟨ob, i, none⟩ = (ordL B : List Value)[i]?) ∧ (∀ i : Nat, W.cell? ⟨B, i, none⟩ = (bookL m1 m2 tb lb ep : List Value)[i]?) ∧ (∀ i : Nat, W.cell? ⟨lb, i, none⟩ = ([.slice none 0 0, .slice none 0 0, .slice none 0 0] : List Value)[i]?)) (first | with_reducible assumption | exact HS.out _ (by (repeat (first | exact Keeps.refl _ _ | with_reducible assumption | refine Keeps.drew ?_ | refine Keeps.alloc ?_ _ | with_reducible refine Keeps.trans ?_ K9.out | with_reducible refine Keeps.trans ?_ K8.out | with_reducible refine Keeps.trans ?_ K7.out | with_reducible refine Keeps.trans ?_ K6.out | with_reducible refine Keeps.trans ?_ K5.out | with_reducible refine Keeps.trans ?_ K4.out | with_reducible refine Keeps.trans ?_ K3.out | with_reducible refine Keeps.trans ?_ K2.out | with_reducible refine Keeps.trans ?_ K1.out)))) (first
    | (go_at_call 4; (with_reducible refine (lane_1 _).mono ?_); rintro e w1 ⟨rfl, hk⟩; have K1 := Lib.hid hk; clear hk))
  go_wp2
  go_ret
  exact ⟨rfl, by (repeat (first | exact Keeps.refl _ _ | with_reducible assumption | refine Keeps.drew ?_ | refine Keeps.alloc ?_ _ | with_reducible refine Keeps.trans ?_ K9.out | with_reducible refine Keeps.trans ?_ K8.out | with_reducible refine Keeps.trans ?_ K7.out | with_reducible refine Keeps.trans ?_ K6.out | with_reducible refine Keeps.trans ?_ K5.out | with_reducible refine Keeps.trans ?_ K4.out | with_reducible refine Keeps.trans ?_ K3.out | with_reducible refine Keeps.trans ?_ K2.out | with_reducible refine Keeps.trans ?_ K1.out))⟩
theorem nil_p (W : World) : (binOp .eql 27 (.slice none 0 0) (.slice none 0 0)).run Tryz.prog W = .ok (.bool true) W := by kernel_rfl
theorem clonep_t (w : World) : Calls Tryz.prog 92 #[.slice none 0 0] w fun e w' => e = .returned (.slice none 0 0) ∧ w = w' := by
  have he := nil_p
  go_enter Tryz.func92, Tryz.ntmps92
  go_wp2
  go_ret
  exact ⟨rfl, rfl⟩
theorem cmd_info0 : (Tryz.prog.info? 32).map (·.size) = some ([.int .u8 1, .int .u32 5, .int .u32 3, .int .u32 0, .int .i32 0, .int .i32 0, .int .u32 0, .int .u8 0, .slice none 0 0, .slice none 0 0, .int .i32 0, .string ⟨#[]⟩] : List Value).toArray.size := by kernel_rfl
set_option maxHeartbeats 1000000 in
set_option maxRecDepth 20000 in
theorem copied_t (w : World) : Calls Tryz.prog 62 #[.agg #[.int .u8 1, .int .u32 5, .int .u32 3, .int .u32 0, .int .i32 0, .int .i32 0, .int .u32 0, .int .u8 0, .slice none 0 0, .slice none 0 0, .int .i32 0, .string ⟨#[]⟩]] w fun e w' => e = .returned (.agg #[.int .u8 1, .int .u32 5, .int .u32 3, .int .u32 0, .int .i32 0, .int .i32 0, .int .u32 0, .int .u8 0, .slice none 0 0, .slice none 0 0, .int .i32 0, .string ⟨#[]⟩]) ∧ Keeps (fun _ => False) w w' := by
  go_enter Tryz.func62, Tryz.ntmps62
  go_wp2_with (go_at_call 92; (with_reducible refine (clonep_t _).mono ?_); rintro e w1 ⟨rfl, rfl⟩)
  go_rounds 1
  refine bodyPost_ret (results_cell_row rfl _ _ _ _ _ _ _ rfl (show Blk _ (w.heap.size + 1) _ [.int .u8 1, .int .u32 5, .int .u32 3, .int .u32 0, .int .i32 0, .int .i32 0, .int .u32 0, .int .u8 0, .slice none 0 0, .slice none 0 0, .int .i32 0, .string ⟨#[]⟩] from by
    have h := Blk.new (w.alloc (.cells #[.int .u8 1, .int .u32 5, .int .u32 3, .int .u32 0, .int .i32 0, .int .i32 0, .int .u32 0, .int .u8 0, .slice none 0 0, .slice none 0 0, .int .i32 0, .string ⟨#[]⟩] 32)) 32 [.int .u8 1, .int .u32 5, .int .u32 3, .int .u32 0, .int .i32 0, .int .i32 0, .int .u32 0, .int .u8 0, .slice none 0 0, .slice none 0 0, .int .i32 0, .string ⟨#[]⟩]
    simp only [World.size_alloc] at h
    exact h) Tryz.underlying32 rfl cmd_info0) rfl ?_
  exact ⟨rfl, by (repeat (first | exact Keeps.refl _ _ | assumption | refine Keeps.alloc ?_ _ | refine Keeps.drew ?_))⟩
def waf : Unit → List Value := fun _ => [.int .u8 1, .int .u32 5, .int .u32 3, .int .u32 0, .int .i32 0, .int .i32 0, .int .u32 0, .int .u8 0, .slice none 0 0, .slice none 0 0, .int .i32 0, .string ⟨#[]⟩, .int .u32 0, .bool false]
theorem wInfo : (Tryz.prog.info? 51).map (fun i => (i.zero.map (·.cells.size), i.size, decide (i.bytes ≤ 1000))) = some (some 14, 14, true) := by kernel_rfl
theorem elW : ElW Tryz.prog 102 51 waf 14 := by
  obtain ⟨i, hi, he⟩ := Option.map_eq_some_iff.1 wInfo
  simp only [Prod.mk.injEq] at he
  obtain ⟨h1, h2, h3⟩ := he
  obtain ⟨z, hz, hz2⟩ := Option.map_eq_some_iff.1 h1
  exact ⟨Tryz.underlying102, ⟨i, z, hi, hz, h2, of_decide_eq_true h3, hz2⟩, by decide, fun _ => rfl, fun x u hu => by
    simp only [waf, List.mem_cons, List.not_mem_nil, or_false] at hu
    rcases hu with rfl | rfl | rfl | rfl | rfl | rfl | rfl | rfl | rfl | rfl | rfl | rfl | rfl | rfl <;> rfl⟩
/-- an order that waits -/
abbrev ordW (B : Nat) : List Value := [.pointer (some ⟨B, 0, none⟩), .int .u8 1, .int .u32 5, .int .u32 3, .int .u32 0, .int .i32 0, .int .i32 0, .int .u32 0, .int .u8 0, .slice none 0 0, .slice none 0 0, .int .i32 0, .string ⟨#[]⟩, .int .i64 1, .int .u8 1, .int .u32 5, .int .u32 3, .int .u32 0, .int .i32 0, .int .i32 0, .int .u32 0, .int .u8 0, .slice none 0 0, .slice none 0 0, .int .i32 0, .string ⟨#[]⟩, .int .u32 0, .bool false, .int .i64 (-1), .int .u32 0]
end Am
end Go.Proofs.YtldlkepagmmohaaGreatDoor
