/-
MbB: are two packets alike, walked.
-/
import Derived.Test.YtdaindihobfokaaGreatDoorZabMbA
namespace Go.Proofs.YtdaindihobfokaaGreatDoor
open Go.RowKit
set_option linter.unusedVariables false
set_option linter.unusedSimpArgs false
attribute [local go_sem] Oper.semAt_some
namespace Mb
open Mem
theorem run_store_float {P : Program} {w : World} {a : Addr} {m : Mode} (k : FloatKind) (x : Nat) : (store a (.float k x) m).run P w = stored P w a (.float k x) m := run_store P w a _ m rfl
attribute [local go_sem] run_store_float
set_option maxHeartbeats 4000000 in
set_option maxRecDepth 100000 in
theorem like_t (p q : Pk) (w : World) : Calls Tryz.prog 11 #[(.agg #[.int .i64 p.slot, .int .u32 (p.ep : Int), .int .u64 p.num, .int .u8 p.kd, .int .u32 p.ob, .int .u32 p.fe, .int .u32 p.nu, .int .i32 p.x, .int .i32 p.y, .int .u32 p.ck, .float .f64 p.sp]), (.agg #[.int .i64 q.slot, .int .u32 (q.ep : Int), .int .u64 q.num, .int .u8 q.kd, .int .u32 q.ob, .int .u32 q.fe, .int .u32 q.nu, .int .i32 q.x, .int .i32 q.y, .int .u32 q.ck, .float .f64 q.sp])] w fun e w' => e = .returned (.bool (likeB p q)) ∧ Keeps (fun _ => False) w w' := by
  have heq := eq_pk p q
  have hx := ext_bits
  go_enter Tryz.func11, Tryz.ntmps11
  go_wp2
  go_region
  obtain ⟨W2, hW2⟩ : ∃ W2, W2 = ((w.alloc (.cells #[.int .i64 p.slot, .int .u32 (p.ep : Int), .int .u64 p.num, .int .u8 p.kd, .int .u32 p.ob, .int .u32 p.fe, .int .u32 p.nu, .int .i32 p.x, .int .i32 p.y, .int .u32 p.ck, .float .f64 p.sp] 35)).alloc (.cells #[.int .i64 q.slot, .int .u32 (q.ep : Int), .int .u64 q.num, .int .u8 q.kd, .int .u32 q.ob, .int .u32 q.fe, .int .u32 q.nu, .int .i32 q.x, .int .i32 q.y, .int .u32 q.ck, .float .f64 q.sp] 35)).drew := ⟨_, rfl⟩
  obtain ⟨B1, hB1⟩ : ∃ B1, B1 = w.heap.size := ⟨_, rfl⟩
  obtain ⟨B2, hB2⟩ : ∃ B2, B2 = w.heap.size + 1 := ⟨_, rfl⟩
  have HK := Lib.hid (show Keeps (fun _ => False) w W2 from by rw [hW2]; (repeat (first | exact Keeps.refl _ _ | refine Keeps.alloc ?_ _ | refine Keeps.drew ?_)))
  have h1 : Blk W2 B1 35 [.int .i64 p.slot, .int .u32 (p.ep : Int), .int .u64 p.num, .int .u8 p.kd, .int .u32 p.ob, .int .u32 p.fe, .int .u32 p.nu, .int .i32 p.x, .int .i32 p.y, .int .u32 p.ck, .float .f64 p.sp] := by rw [hW2, hB1]; exact ((Blk.new w 35 (pkc p)).alloc _).drew
  have h2 : Blk W2 B2 35 [.int .i64 q.slot, .int .u32 (q.ep : Int), .int .u64 q.num, .int .u8 q.kd, .int .u32 q.ob, .int .u32 q.fe, .int .u32 q.nu, .int .i32 q.x, .int .i32 q.y, .int .u32 q.ck, .float .f64 q.sp] := by rw [hW2, hB2]; exact Blk.drew (by have := Blk.new (w.alloc (.cells #[.int .i64 p.slot, .int .u32 (p.ep : Int), .int .u64 p.num, .int .u8 p.kd, .int .u32 p.ob, .int .u32 p.fe, .int .u32 p.nu, .int .i32 p.x, .int .i32 p.y, .int .u32 p.ck, .float .f64 p.sp] 35)) 35 (pkc q); rwa [World.size_alloc] at this)
  have hne : B1 ≠ B2 := by omega
  have HB := Lib.hid (And.intro (show w.heap.size ≤ B1 by omega) (show w.heap.size ≤ B2 by omega))
  rw [← hB2, ← hB1, ← hW2]
  clear hW2 hB1 hB2
  have c1 := h1.cell
  have f1 := h1.frozen
  have c2 := h2.cell
  have f2 := h2.frozen
  have hne2 := hne.symm
  go_wp2
  all_goals
    clear c1 f1 c2 f2
    rename_i hcase
    go_ret
    refine ⟨?_, (HK.out.setCell (p := ⟨B1, 10, none⟩) (fun h => absurd HB.out.1 (Nat.not_le_of_lt h)) _).setCell (p := ⟨B2, 10, none⟩) (fun h => absurd HB.out.2 (Nat.not_le_of_lt h)) _⟩
    simp_all [likeB, ord, bne]
    try (rw [Bool.eq_iff_iff, beq_iff_eq, decide_eq_true_iff]; omega)
end Mb
end Go.Proofs.YtdaindihobfokaaGreatDoor
