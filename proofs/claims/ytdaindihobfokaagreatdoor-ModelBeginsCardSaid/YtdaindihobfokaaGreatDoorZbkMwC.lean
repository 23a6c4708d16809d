/-
MwC: the model between two steps; what is known, what is kept, is there room.
-/
import Derived.Test.YtdaindihobfokaaGreatDoorZbjMwB
import Derived.Test.YtdaindihobfokaaGreatDoorZaqDrDs
import Derived.Deep.RegionHeldLaw
namespace Go.Proofs.YtdaindihobfokaaGreatDoor
open Go.RowKit
set_option linter.unusedVariables false
set_option linter.unusedSimpArgs false
set_option linter.ambiguousOpen false
attribute [local go_sem] Oper.semAt_some
namespace Mw
open Mem Dr
/-- a model's cells -/
abbrev modL (kb fb tb lb ob xb sb : Nat) (reps logs plcs : Value) : List Value := [.int .i64 1, .int .i64 2, .int .i64 2, .int .i64 2, .int .i64 1, .int .i64 2, .int .i64 1, .int .i64 2, .int .i64 2, .int .i64 10, .int .i64 0, .int .u32 0, .map (some kb), .map (some fb), .map (some tb), .int .u32 0, .slice (some ⟨lb, 0, none⟩) 2 2, .map (some ob), .map (some xb), .map (some sb), .slice none 0 0, reps, logs, .slice none 0 0, plcs]
structure MS (w : World) (mb kb fb tb lb ob xb sb : Nat) (reps logs plcs l0 : Value) (ks os : Array MapEntry) (kn on : Nat) : Prop where
  m : Blk w mb 90 (modL kb fb tb lb ob xb sb reps logs plcs)
  l : Blk w lb 111 [l0, .slice none 0 0]
  k : Mp w kb ks kn
  o : Mp w ob os on
  x : Mp w xb #[] 0
  ko : kb ≠ ob
  kx : kb ≠ xb
  ox : ob ≠ xb
section
variable {w w' : World} {mb kb fb tb lb ob xb sb kn on : Nat} {reps logs plcs l0 : Value} {ks os : Array MapEntry}
theorem MS.kd (h : MS w mb kb fb tb lb ob xb sb reps logs plcs l0 ks os kn on) (k : Keeps (fun _ => False) w w') : MS w' mb kb fb tb lb ob xb sb reps logs plcs l0 ks os kn on :=
  ⟨h.m.keeps k (fun h => h), h.l.keeps k (fun h => h), h.k.keeps k (fun h => h), h.o.keeps k (fun h => h), h.x.keeps k (fun h => h), h.ko, h.kx, h.ox⟩
theorem MS.ml (h : MS w mb kb fb tb lb ob xb sb reps logs plcs l0 ks os kn on) : mb ≠ lb := h.m.ne_ h.l (by decide)
theorem MS.mkb (h : MS w mb kb fb tb lb ob xb sb reps logs plcs l0 ks os kn on) : mb ≠ kb := h.k.ne h.m
theorem MS.mo (h : MS w mb kb fb tb lb ob xb sb reps logs plcs l0 ks os kn on) : mb ≠ ob := h.o.ne h.m
theorem MS.mx (h : MS w mb kb fb tb lb ob xb sb reps logs plcs l0 ks os kn on) : mb ≠ xb := h.x.ne h.m
theorem MS.lk (h : MS w mb kb fb tb lb ob xb sb reps logs plcs l0 ks os kn on) : lb ≠ kb := h.k.ne h.l
theorem MS.lo (h : MS w mb kb fb tb lb ob xb sb reps logs plcs l0 ks os kn on) : lb ≠ ob := h.o.ne h.l
theorem MS.lx (h : MS w mb kb fb tb lb ob xb sb reps logs plcs l0 ks os kn on) : lb ≠ xb := h.x.ne h.l
end
def setM (w : World) (r : Nat) (es : Array MapEntry) (k : Nat) : World := { w with heap := w.heap.setIfInBounds r (.map es k) }
theorem setM_keeps (w : World) (r : Nat) (es : Array MapEntry) (k : Nat) : Keeps (fun x => x = r) w (setM w r es k) :=
  ⟨rfl, rfl, rfl, by simp [setM], fun x _ hn => by simp [setM, Array.getElem?_setIfInBounds_ne (Ne.symm hn)]⟩
theorem setM_mp {w : World} {r k0 : Nat} {es0 : Array MapEntry} (h : Mp w r es0 k0) (es : Array MapEntry) (k : Nat) : Mp (setM w r es k) r es k := by
  have := h.lt
  simp [Mp, setM, Array.getElem?_setIfInBounds_self_of_lt this]
theorem ck3 (e : Bool) (W : World) : (Instr.checkKey e 10000 26 (.int .u32 3)).run Tryz.prog W = .ok () W := by kernel_rfl
theorem fk0 (W : World) : (Instr.findKey 26 (.int .u32 3) []).run Tryz.prog W = .ok none W := by kernel_rfl
theorem fk1 (v : Value) (W : World) : (Instr.findKey 26 (.int .u32 3) [⟨.int .u32 3, v, 0⟩]).run Tryz.prog W = .ok (some (0, v)) W := by kernel_rfl
theorem lk_n_z (W : World) : (zeroValue 26).run Tryz.prog W = .ok (.int .u32 0) W := by kernel_rfl
theorem lk_n {W : World} {r : Nat} (h : Mp W r #[] 0) : (Instr.lookup 82 (.map (some r)) (.int .u32 3) true).run Tryz.prog W = .ok (.tuple #[.int .u32 0, .bool false]) W := by
  simp [Instr.lookup, run_underlying Tryz.underlying82, MapKept.run_getObj_map h, ck3, fk0, lk_n_z, Result.andThen]
theorem lk_s_z (W : World) : (zeroValue 109).run Tryz.prog W = .ok (.agg #[]) W := by kernel_rfl
theorem lk_s {W : World} {r : Nat} (h : Mp W r #[] 0) : (Instr.lookup 83 (.map (some r)) (.int .u32 3) true).run Tryz.prog W = .ok (.tuple #[.agg #[], .bool false]) W := by
  simp [Instr.lookup, run_underlying Tryz.underlying83, MapKept.run_getObj_map h, ck3, fk0, lk_s_z, Result.andThen]
theorem lk_o_z (W : World) : (zeroValue 126).run Tryz.prog W = .ok (.pointer none) W := by kernel_rfl
theorem lk_o {W : World} {r : Nat} (h : Mp W r #[] 0) : (Instr.lookup 85 (.map (some r)) (.int .u32 3) true).run Tryz.prog W = .ok (.tuple #[.pointer none, .bool false]) W := by
  simp [Instr.lookup, run_underlying Tryz.underlying85, MapKept.run_getObj_map h, ck3, fk0, lk_o_z, Result.andThen]
theorem up_n {W : World} {r : Nat} (h : Mp W r #[] 0) (v : Value) : (Instr.mapUpdate 82 (.map (some r)) (.int .u32 3) v).run Tryz.prog W = .ok () (setM W r #[⟨.int .u32 3, v, 0⟩] 1) := by
  simp [Instr.mapUpdate, run_underlying Tryz.underlying82, MapKept.run_getObj_map h, MapKept.run_setObj_map _ h, ck3, fk0, Result.andThen, setM]
theorem up_o {W : World} {r : Nat} (h : Mp W r #[] 0) (v : Value) : (Instr.mapUpdate 85 (.map (some r)) (.int .u32 3) v).run Tryz.prog W = .ok () (setM W r #[⟨.int .u32 3, v, 0⟩] 1) := by
  simp [Instr.mapUpdate, run_underlying Tryz.underlying85, MapKept.run_getObj_map h, MapKept.run_setObj_map _ h, ck3, fk0, Result.andThen, setM]
theorem lk1_o {W : World} {r : Nat} {v : Value} (h : Mp W r #[⟨.int .u32 3, v, 0⟩] 1) : (Instr.lookup 85 (.map (some r)) (.int .u32 3) false).run Tryz.prog W = .ok v W := by
  simp [Instr.lookup, run_underlying Tryz.underlying85, MapKept.run_getObj_map h, ck3, fk1, Result.andThen]
theorem len_s {W : World} {r : Nat} (h : Mp W r #[] 0) (ty : TypeId) : (Builtin.len_ #[83] ty #[.map (some r)]).run Tryz.prog W = .ok (.int .i64 0) W := by
  simp [Builtin.len_, Builtin.lenOf, run_underlying Tryz.underlying83, MapKept.run_getObj_map h, Result.andThen, goInt]
theorem has_t (r : Nat) (w : World) (h : Mp w r #[] 0) : Calls Tryz.prog 36 #[.map (some r), .int .u32 3] w fun e w' => e = .returned (.bool false) ∧ Keeps (fun _ => False) w w' := by
  have hlk := lk_s h
  clear h
  go_enter Tryz.func36, Tryz.ntmps36
  go_wp2
  go_ret
  exact ⟨rfl, by (repeat (first | exact Keeps.refl _ _ | assumption | refine Keeps.alloc ?_ _ | refine Keeps.drew ?_))⟩
theorem room_t (r : Nat) (w : World) (h : Mp w r #[] 0) : Calls Tryz.prog 56 #[.map (some r), .int .u32 3, .int .i64 2] w fun e w' => e = .returned (.bool true) ∧ Keeps (fun _ => False) w w' := by
  have H := Lib.hid (has_t r w h)
  have HM := Lib.hid h
  clear h
  go_enter Tryz.func56, Tryz.ntmps56
  go_wp2_with (go_at_call 36; (with_reducible refine H.out.mono ?_); rintro e w1 ⟨rfl, hk⟩; have K1 := Lib.hid hk; have hln := len_s (HM.out.keeps hk (fun h => h)); clear hk)
  go_ret
  exact ⟨rfl, K1.out⟩
end Mw
end Go.Proofs.YtdaindihobfokaaGreatDoor
