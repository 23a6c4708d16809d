/-
MwO: the model works: the closed run of the law's head.
-/
import Derived.Test.YtdaindihobfokaaGreatDoorZbvMwN
namespace Go.Proofs.YtdaindihobfokaaGreatDoor
open Go.RowKit
set_option linter.unusedVariables false
set_option linter.unusedSimpArgs false
set_option linter.ambiguousOpen false
attribute [local go_sem] Oper.semAt_some Mb.run_store_float
namespace Mw
open Mem Dr
theorem eq5 (W : World) : (binOp .eql 30 (.agg #[.int .i32 5, .int .i32 0]) (.agg #[.int .i32 5, .int .i32 0])).run Tryz.prog W = .ok (.bool true) W := by kernel_rfl
set_option maxHeartbeats 4000000 in
set_option maxRecDepth 100000 in
theorem works_t (w : World) : Calls Tryz.prog 8 #[] w fun e w' => e = .returned (.bool true) ∧ Keeps (fun _ => False) w w' := by
  have heq := eq5
  go_enter Tryz.func8, Tryz.ntmps8
  go_wp2_with (first
    | (go_at_call 15; (with_reducible refine (little_t _).mono ?_); rintro e w1 ⟨sb, ab, g, c, rfl, hk, hs, ha, hb, hc⟩; have H1 := Lib.hid (And.intro hk (And.intro hs (And.intro ha (And.intro hb hc)))); clear hk hs ha hb hc)
    | (go_at_call 16; (with_reducible refine (make_yes sb ab g c _ (H1.out.2.1.alloc _) (H1.out.2.2.1.alloc _) (H1.out.2.2.2.1.keeps (by (repeat (first | exact Keeps.refl _ _ | refine Keeps.drew ?_ | refine Keeps.alloc ?_ _)) : Keeps (fun _ => False) w1 _) (Wi.far_none _)) H1.out.2.2.2.2).mono ?_); rintro e w2 ⟨rb, rc, lg, pb, pc, rfl, hk, hp⟩; have K2 := Lib.hid (Keeps.trans (show Keeps (fun _ => False) w1 _ from by (repeat (first | exact Keeps.refl _ _ | refine Keeps.drew ?_ | refine Keeps.alloc ?_ _))) hk); have HP2 := Lib.hid hp; have hcs := fun o => (((Blk.new w1 45 (scL sb)).keeps hk (fun h => h)).alloc o).cell; have H2 := Lib.hid (And.intro ((H1.out.2.1.alloc (.cells (scL sb).toArray 45)).keeps hk (fun h => h)) (H1.out.2.2.2.1.keeps (Keeps.trans (show Keeps (fun _ => False) w1 _ from by (repeat (first | exact Keeps.refl _ _ | refine Keeps.drew ?_ | refine Keeps.alloc ?_ _))) hk) (Wi.far_none _))); have HB3 := Lib.hid (Blk.new w2 54 [.slice (some ⟨rb, 0, none⟩) 1 rc, .slice (some ⟨lg, 0, none⟩) 1 1, (.slice none 0 0), .slice (some ⟨pb, 0, none⟩) 1 pc]); have hsz : (w2.alloc (.cells #[.slice (some ⟨rb, 0, none⟩) 1 rc, .slice (some ⟨lg, 0, none⟩) 1 1, (.slice none 0 0), .slice (some ⟨pb, 0, none⟩) 1 pc] 54)).heap.size = w2.heap.size + 1 := World.size_alloc _ _; have HA2 := Lib.hid (show Blk ((w2.alloc (.cells #[.slice (some ⟨rb, 0, none⟩) 1 rc, .slice (some ⟨lg, 0, none⟩) 1 1, (.slice none 0 0), .slice (some ⟨pb, 0, none⟩) 1 pc] 54)).alloc (.cells #[.int .i64 1, .int .i64 1] 59)) (w2.heap.size + 1) 59 [.int .i64 1, .int .i64 1] from by (have := Blk.new (w2.alloc (.cells #[.slice (some ⟨rb, 0, none⟩) 1 rc, .slice (some ⟨lg, 0, none⟩) 1 1, (.slice none 0 0), .slice (some ⟨pb, 0, none⟩) 1 pc] 54)) 59 [.int .i64 1, .int .i64 1]; rwa [hsz] at this)); clear hk hp hsz)
    | (go_at_call 16; (with_reducible refine (make_no sb (w2.heap.size + 1) g c _ ((H2.out.1.alloc _).alloc _) HA2.out (H2.out.2.keeps (by (repeat (first | exact Keeps.refl _ _ | refine Keeps.drew ?_ | refine Keeps.alloc ?_ _)) : Keeps (fun _ => False) w2 _) (Wi.far_none _)) H1.out.2.2.2.2).mono ?_); rintro e w4 ⟨rfl, hk⟩; have K4 := Lib.hid (Keeps.trans (show Keeps (fun _ => False) w2 _ from by (repeat (first | exact Keeps.refl _ _ | refine Keeps.drew ?_ | refine Keeps.alloc ?_ _))) hk); have hb3 := fun o => (((HB3.out.alloc (.cells #[.int .i64 1, .int .i64 1] 59)).keeps hk (fun h => h)).alloc o).cell; have hpl := fun o => (show ((w4.alloc o).cell? ⟨pb, 1, none⟩ = some (.int .i32 5)) ∧ ((w4.alloc o).cell? ⟨pb, 1 + 1, none⟩ = some (.int .i32 0)) from ⟨((K4.out.alloc o)).cell (HP2.out 1 _ rfl) (fun h => h), ((K4.out.alloc o)).cell (HP2.out 2 _ rfl) (fun h => h)⟩); have hp1 := fun o => (hpl o).1; have hp2 := fun o => (hpl o).2; clear hpl hk hcs))
  go_ret
  exact ⟨rfl, H1.out.1.trans (K2.out.trans (K4.out.alloc _))⟩
end Mw
end Go.Proofs.YtdaindihobfokaaGreatDoor
