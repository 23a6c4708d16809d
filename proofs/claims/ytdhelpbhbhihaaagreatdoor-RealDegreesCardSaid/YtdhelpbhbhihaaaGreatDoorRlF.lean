/-
  RlF: the shortest digits of 1.5.
-/
import Derived.Test.YtdhelpbhbhihaaaGreatDoorRlE
namespace Go.Proofs.YtdhelpbhbhihaaaGreatDoor
open Go.RowKit Go.Shelf
set_option linter.unusedVariables false
set_option linter.unusedSimpArgs false
attribute [local go_sem] Oper.semAt_some
namespace Rl
open Mem
theorem far_cell {w : World} {p q : Addr} {v u : Value} (h : w.cell? p = some v) (hn : p.block ≠ q.block) : (w.setCell q u).cell? p = some v :=
  (World.cell?_of_block (w := w) (Below.heap_setCell w q u p.block hn)).trans h
def preW (w : World) (b : Nat) : World := ((w.setCell ⟨b, 0, none⟩ (.int .u64 10240000000000000000)).setCell ⟨b, 1, none⟩ (.int .u64 0)).setCell ⟨b, 2, none⟩ (.int .i64 7)
set_option maxRecDepth 20000 in
theorem pre_at (b : Nat) (w : World) (hb : Blk w b 193 [.int .u64 0, .int .u64 0, .int .i64 0]) (t0 : w.cell? ⟨15, 728, none⟩ = some (.int .u64 10240000000000000000)) (t1 : w.cell? ⟨15, 729, none⟩ = some (.int .u64 0)) (hn : b ≠ 15) : Calls Tryz.prog 165 #[.pointer (some ⟨b, 0, none⟩), .int .i64 (-63), .int .i64 16, .int .i64 53] w fun e w' => e = .returned (.tuple #[]) ∧ preW w b = w' := by
  have c0 := hb.cell 0
  have f0 := hb.frozen 0
  have hb1 := hb.set_ 0 (.int .u64 10240000000000000000)
  have c1 := hb1.cell 1
  have f1 := hb1.frozen 1
  have hb2 := hb1.set_ 1 (.int .u64 0)
  have c2 := hb2.cell 2
  have f2 := hb2.frozen 2
  have t2 := far_cell (q := ⟨b, 0, none⟩) (u := .int .u64 10240000000000000000) t1 (fun h => hn h.symm)
  simp only [List.set_cons_zero, List.set_cons_succ] at c1 c2
  go_enter Tryz.func165, Tryz.ntmps165
  go_wp2
  exact bodyPost_end (results_none rfl _ _ _) rfl ⟨rfl, rfl⟩
theorem pre_blk {w : World} {b : Nat} (hb : Blk w b 193 [.int .u64 0, .int .u64 0, .int .i64 0]) : Blk (preW w b) b 193 [.int .u64 10240000000000000000, .int .u64 0, .int .i64 7] :=
  ((hb.set_ 0 (.int .u64 10240000000000000000)).set_ 1 (.int .u64 0)).set_ 2 (.int .i64 7)
/-- the rows of the tables that the printer comes to -/
structure Tabs (w : World) : Prop where
  hi : w.cell? ⟨15, 728, none⟩ = some (.int .u64 10240000000000000000)
  lo : w.cell? ⟨15, 729, none⟩ = some (.int .u64 0)
  size : 15 < w.heap.size
  ten : w.cell? ⟨4, 15, none⟩ = some (.int .u64 1000000000000000)
  sizet : 4 < w.heap.size
theorem Tabs.below {w w' : World} (h : Tabs w) (k : Below w.heap.size w w') : Tabs w' :=
  ⟨(k.cell (p := ⟨15, 728, none⟩) h.size).trans h.hi, (k.cell (p := ⟨15, 729, none⟩) h.size).trans h.lo, Nat.lt_of_lt_of_le h.size k.size,
    (k.cell (p := ⟨4, 15, none⟩) h.sizet).trans h.ten, Nat.lt_of_lt_of_le h.sizet k.size⟩
abbrev scl : Obj := .cells #[.int .u64 0, .int .u64 0, .int .i64 0] 193
theorem short_below (w : World) : Below w.heap.size w (preW (w.alloc scl) w.heap.size) :=
  ((((Below.refl _ _).alloc (Nat.le_refl _) scl).setCell (Nat.le_refl _) _).setCell (Nat.le_refl _) _).setCell (Nat.le_refl _) _
set_option maxHeartbeats 600000 in
set_option maxRecDepth 20000 in
theorem short_at (w : World) (h : Tabs w) : Calls Tryz.prog 139 #[.int .u64 13835058055282163712, .int .i64 (-63)] w fun e w' => e = .returned (.tuple #[.int .u64 1500000000000000, .int .i64 (-15)]) ∧ preW (w.alloc scl) w.heap.size = w' := by
  have hb : Blk (w.alloc scl) w.heap.size 193 [.int .u64 0, .int .u64 0, .int .i64 0] := Blk.new w 193 [.int .u64 0, .int .u64 0, .int .i64 0]
  have h1 := h.below ((Below.refl _ _).alloc (Nat.le_refl _) scl)
  have hn : w.heap.size ≠ 15 := by have := h.size; omega
  have k1 := pre_at w.heap.size (w.alloc scl) hb h1.hi h1.lo hn
  have hp := pre_blk hb
  have k2 := us_a w.heap.size (preW (w.alloc scl) w.heap.size) (hp.cell 0) (hp.cell 2)
  have k3 := us_b w.heap.size (preW (w.alloc scl) w.heap.size) (hp.cell 0) (hp.cell 2)
  have q0 : bits BinOp.and IntKind.i64 6755399441055744 1 = 0 := by decide
  clear hb h1 hp
  go_enter Tryz.func139, Tryz.ntmps139
  go_wp2_with (first
    | (go_at_call 120; with_reducible refine (l10_a _).mono ?_; rintro e w' ⟨rfl, rfl⟩)
    | (go_at_call 166; with_reducible refine (l2_a _).mono ?_; rintro e w' ⟨rfl, rfl⟩)
    | (go_at_call 165; with_reducible refine k1.mono ?_; rintro e w' ⟨rfl, rfl⟩)
    | (go_at_call 167; with_reducible refine k2.mono ?_; rintro e w' ⟨rfl, rfl⟩)
    | (go_at_call 167; with_reducible refine k3.mono ?_; rintro e w' ⟨rfl, rfl⟩)
    | (go_at_call 168; with_reducible refine (nudge_a _).mono ?_; rintro e w' ⟨rfl, rfl⟩)
    | (go_at_call 168; with_reducible refine (nudge_b _).mono ?_; rintro e w' ⟨rfl, rfl⟩)
    | (go_at_call 169; with_reducible refine (ceil_a _).mono ?_; rintro e w' ⟨rfl, rfl⟩)
    | (go_at_call 170; with_reducible refine (floor_b _).mono ?_; rintro e w' ⟨rfl, rfl⟩))
  exact bodyPost_ret (results_tmp2 rfl _ _ _) rfl ⟨rfl, rfl⟩
set_option maxRecDepth 20000 in
theorem digits16 (w : World) (h : Tabs w) : Calls Tryz.prog 100 #[.int .u64 1500000000000000] w fun e w' => e = .returned (.int .i64 16) ∧ w = w' := by
  have h1 := h.ten
  clear h
  go_enter Tryz.func100, Tryz.ntmps100
  go_wp2_with (first
    | (go_at_call 121; with_reducible refine (len_b _).mono ?_; rintro e w' ⟨rfl, rfl⟩)
    | (go_at_call 120; with_reducible refine (l10_b _).mono ?_; rintro e w' ⟨rfl, rfl⟩)
    | (go_at_call 122; with_reducible refine (bool2i _).mono ?_; rintro e w' ⟨rfl, rfl⟩))
  go_ret
  exact ⟨rfl, rfl⟩
theorem ng_m (W : World) : (Op.unary .neg (.float .f64 13832806255468478464)).run Tryz.prog W = .ok (.float .f64 4609434218613702656) W := by kernel_rfl
set_option maxRecDepth 20000 in
theorem inf_up (w : World) : Calls Tryz.prog 58 #[.float .f64 13832806255468478464, .int .i64 1] w fun e w' => e = .returned (.bool false) ∧ w = w' := by
  have o1 : FloatKind.f64.format.order 13832806255468478464 9218868437227405311 = some .lt := by kernel_rfl
  generalize 13832806255468478464 = r at *
  go_enter Tryz.func58, Tryz.ntmps58
  go_wp2
  go_ret
  exact ⟨rfl, rfl⟩
set_option maxRecDepth 20000 in
theorem inf_down (w : World) : Calls Tryz.prog 58 #[.float .f64 13832806255468478464, .int .i64 (-1)] w fun e w' => e = .returned (.bool false) ∧ w = w' := by
  have o1 : FloatKind.f64.format.order 4609434218613702656 9218868437227405311 = some .lt := by kernel_rfl
  have c1 := ng_m
  generalize 13832806255468478464 = r at *
  generalize 4609434218613702656 = r2 at *
  go_enter Tryz.func58, Tryz.ntmps58
  go_wp2
  go_ret
  exact ⟨rfl, rfl⟩
end Rl
end Go.Proofs.YtdhelpbhbhihaaaGreatDoor
