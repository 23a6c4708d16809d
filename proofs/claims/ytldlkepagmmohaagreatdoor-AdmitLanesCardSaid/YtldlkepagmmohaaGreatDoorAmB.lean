/-
  AmB: an update is admitted: the small steps.
-/
import Derived.Test.YtldlkepagmmohaaGreatDoorAmA
namespace Go.Proofs.YtldlkepagmmohaaGreatDoor
open Go.RowKit
set_option linter.unusedVariables false
set_option linter.unusedSimpArgs false
attribute [local go_sem] Oper.semAt_some
namespace Am
open Mem
/-- the ticket of what does not wait -/
abbrev nowL : List Value := [.int .i64 (-1), .int .u8 0, .int .u32 0, .int .u32 0, .int .u32 0, .int .i32 0, .int .i32 0, .int .u32 0, .int .u8 0, .slice none 0 0, .slice none 0 0, .int .i32 0, .string ⟨#[]⟩, .int .u32 0, .bool false, .int .i64 (-1), .int .u32 0]
theorem now_info : (Tryz.prog.info? 53).map (·.size) = some nowL.toArray.size := by kernel_rfl
theorem nowhere_t (w : World) : Calls Tryz.prog 17 #[] w fun e w' => e = .returned (.agg nowL.toArray) ∧ Keeps (fun _ => False) w w' := by
  go_enter Tryz.func17, Tryz.ntmps17
  go_wp2
  refine bodyPost_ret (results_cell_row rfl _ _ _ _ _ _ _ rfl (Blk.new w 53 nowL) Tryz.underlying53 rfl now_info) rfl ?_
  exact ⟨rfl, by (repeat (first | exact Keeps.refl _ _ | assumption | refine Keeps.alloc ?_ _ | refine Keeps.drew ?_))⟩
/-- a reply's cells -/
abbrev repL (c r : Int) : List Value := [.int .u8 c, .int .i64 r, .int .u32 0, .int .i64 0, .int .i64 0, .int .i64 0, .int .i64 0, .int .i64 0]
theorem rep_info (c r : Int) : (Tryz.prog.info? 49).map (·.size) = some (repL c r).toArray.size := by kernel_rfl
theorem refused_t (c : Int) (w : World) : Calls Tryz.prog 32 #[.int .u8 c] w fun e w' => e = .returned (.agg (repL c 0).toArray) ∧ Keeps (fun _ => False) w w' := by
  go_enter Tryz.func32, Tryz.ntmps32
  go_wp2
  refine bodyPost_ret (results_cell_row rfl _ _ _ _ _ _ _ rfl (Blk.new w 49 (repL c 0)) Tryz.underlying49 rfl (rep_info c 0)) rfl ?_
  exact ⟨rfl, by (repeat (first | exact Keeps.refl _ _ | assumption | refine Keeps.alloc ?_ _ | refine Keeps.drew ?_))⟩
theorem in_zero (w : World) : Calls Tryz.prog 31 #[.int .i32 0] w fun e w' => e = .returned (.bool true) ∧ w = w' := by
  go_enter Tryz.func31, Tryz.ntmps31
  go_wp2
  go_ret
  exact ⟨rfl, rfl⟩
theorem kept_no (w : World) : Calls Tryz.prog 61 #[.agg #[.bool false, .int .u32 0, .bool false, .int .i64 0]] w fun e w' => e = .returned (.bool false) ∧ Keeps (fun _ => False) w w' := by
  go_enter Tryz.func61, Tryz.ntmps61
  go_wp2
  go_ret
  exact ⟨rfl, by (repeat (first | exact Keeps.refl _ _ | assumption | refine Keeps.alloc ?_ _ | refine Keeps.drew ?_))⟩
theorem kept_yes (n : Int) (w : World) : Calls Tryz.prog 61 #[.agg #[.bool true, .int .u32 n, .bool false, .int .i64 1]] w fun e w' => e = .returned (.bool true) ∧ Keeps (fun _ => False) w w' := by
  go_enter Tryz.func61, Tryz.ntmps61
  go_wp2
  go_ret
  exact ⟨rfl, by (repeat (first | exact Keeps.refl _ _ | assumption | refine Keeps.alloc ?_ _ | refine Keeps.drew ?_))⟩
def setM (w : World) (r : Nat) (es : Array MapEntry) (k : Nat) : World := { w with heap := w.heap.setIfInBounds r (.map es k) }
theorem setM_keeps (w : World) (r : Nat) (es : Array MapEntry) (k : Nat) : Keeps (fun x => x = r) w (setM w r es k) :=
  ⟨rfl, rfl, rfl, by simp [setM], fun x _ hn => by simp [setM, Array.getElem?_setIfInBounds_ne (Ne.symm hn)]⟩
theorem setM_mp {w : World} {r k0 : Nat} {es0 : Array MapEntry} (h : Mp w r es0 k0) (es : Array MapEntry) (k : Nat) : Mp (setM w r es k) r es k := by
  have := h.lt
  simp [Mp, setM, Array.getElem?_setIfInBounds_self_of_lt this]
theorem ckL (e : Bool) (W : World) : (Instr.checkKey e 10000 25 (.int .u32 5)).run Tryz.prog W = .ok () W := by kernel_rfl
theorem fk0 (W : World) : (Instr.findKey 25 (.int .u32 5) []).run Tryz.prog W = .ok none W := by kernel_rfl
theorem fk1 (v : Value) (W : World) : (Instr.findKey 25 (.int .u32 5) [⟨.int .u32 5, v, 0⟩]).run Tryz.prog W = .ok (some (0, v)) W := by kernel_rfl
theorem zvE (W : World) : (zeroValue 81).run Tryz.prog W = .ok (.agg #[.bool false, .int .u32 0, .bool false, .int .i64 0]) W := by kernel_rfl
theorem lk0 {W : World} {r : Nat} (h : Mp W r #[] 0) : (Instr.lookup 61 (.map (some r)) (.int .u32 5) false).run Tryz.prog W = .ok (.agg #[.bool false, .int .u32 0, .bool false, .int .i64 0]) W := by
  simp [Instr.lookup, run_underlying Tryz.underlying61, MapKept.run_getObj_map h, ckL, fk0, zvE, Result.andThen]
theorem lk1 {W : World} {r : Nat} {v : Value} (h : Mp W r #[⟨.int .u32 5, v, 0⟩] 1) : (Instr.lookup 61 (.map (some r)) (.int .u32 5) false).run Tryz.prog W = .ok v W := by
  simp [Instr.lookup, run_underlying Tryz.underlying61, MapKept.run_getObj_map h, ckL, fk1, Result.andThen]
theorem up0 {W : World} {r : Nat} (h : Mp W r #[] 0) (v : Value) : (Instr.mapUpdate 61 (.map (some r)) (.int .u32 5) v).run Tryz.prog W = .ok () (setM W r #[⟨.int .u32 5, v, 0⟩] 1) := by
  simp [Instr.mapUpdate, run_underlying Tryz.underlying61, MapKept.run_getObj_map h, MapKept.run_setObj_map _ h, ckL, fk0, Result.andThen, setM]
end Am
end Go.Proofs.YtldlkepagmmohaaGreatDoor
