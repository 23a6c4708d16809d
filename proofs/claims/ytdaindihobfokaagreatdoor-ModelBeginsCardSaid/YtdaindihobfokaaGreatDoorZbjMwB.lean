/-
MwB: may the configuration be, may the steps be.
-/
import Derived.Test.YtdaindihobfokaaGreatDoorZbiMwA
namespace Go.Proofs.YtdaindihobfokaaGreatDoor
open Go.RowKit
set_option linter.unusedVariables false
set_option linter.unusedSimpArgs false
set_option linter.ambiguousOpen false
attribute [local go_sem] Oper.semAt_some
namespace Mw
open Mem Dr
theorem in_yes (v lo hi : Int) (h1 : lo ≤ v) (h2 : v ≤ hi) (w : World) : Calls Tryz.prog 29 #[.int .i64 v, .int .i64 lo, .int .i64 hi] w fun e w' => e = .returned (.bool true) ∧ w = w' := by
  have h3 : ¬ v < lo := by omega
  have h4 : ¬ hi < v := by omega
  go_enter Tryz.func29, Tryz.ntmps29
  go_wp2
  go_ret
  exact ⟨rfl, rfl⟩
set_option maxHeartbeats 2000000 in
set_option maxRecDepth 20000 in
theorem fits_t (w : World) : Calls Tryz.prog 20 #[.agg cfgL.toArray] w fun e w' => e = .returned (.bool true) ∧ Keeps (fun _ => False) w w' := by
  go_enter Tryz.func20, Tryz.ntmps20
  go_wp2_with (go_at_call 29; refine (in_yes _ _ _ (by decide) (by decide) _).mono ?_; rintro e w1 ⟨rfl, rfl⟩)
  go_ret
  exact ⟨rfl, by (repeat (first | exact Keeps.refl _ _ | assumption | refine Keeps.alloc ?_ _ | refine Keeps.drew ?_))⟩
theorem may_1 (g c : Nat) (w : World) : Calls Tryz.prog 23 #[.agg #[.int .u8 1, .int .i64 0, .int .i64 0, .int .i64 0, .slice (some ⟨g, 0, none⟩) 30 c]] w fun e w' => e = .returned (.bool true) ∧ Keeps (fun _ => False) w w' := by
  go_enter Tryz.func23, Tryz.ntmps23
  go_wp2
  go_ret
  exact ⟨rfl, by (repeat (first | exact Keeps.refl _ _ | assumption | refine Keeps.alloc ?_ _ | refine Keeps.drew ?_))⟩
theorem may_2 (w : World) : Calls Tryz.prog 23 #[.agg #[.int .u8 2, .int .i64 0, .int .i64 0, .int .i64 0, .slice none 0 0]] w fun e w' => e = .returned (.bool true) ∧ Keeps (fun _ => False) w w' := by
  go_enter Tryz.func23, Tryz.ntmps23
  go_wp2
  go_ret
  exact ⟨rfl, by (repeat (first | exact Keeps.refl _ _ | assumption | refine Keeps.alloc ?_ _ | refine Keeps.drew ?_))⟩
theorem not_1 (g c : Nat) (w : World) : Calls Tryz.prog 22 #[.agg #[.int .u8 1, .int .i64 0, .int .i64 0, .int .i64 0, .slice (some ⟨g, 0, none⟩) 30 c]] w fun e w' => e = .returned (.bool false) ∧ Keeps (fun _ => False) w w' := by
  have HM := Lib.hid (may_1 g c)
  go_enter Tryz.func22, Tryz.ntmps22
  go_wp2_with (go_at_call 23; (with_reducible refine (HM.out _).mono ?_); rintro e w1 ⟨rfl, hk⟩; have K1 := Lib.hid (Keeps.trans (show Keeps (fun _ => False) w _ from by (repeat (first | exact Keeps.refl _ _ | assumption | refine Keeps.alloc ?_ _ | refine Keeps.drew ?_))) hk); clear hk)
  go_ret
  exact ⟨rfl, K1.out⟩
theorem not_2 (w : World) : Calls Tryz.prog 22 #[.agg #[.int .u8 2, .int .i64 0, .int .i64 0, .int .i64 0, .slice none 0 0]] w fun e w' => e = .returned (.bool false) ∧ Keeps (fun _ => False) w w' := by
  have HM := Lib.hid (may_2)
  go_enter Tryz.func22, Tryz.ntmps22
  go_wp2_with (go_at_call 23; (with_reducible refine (HM.out _).mono ?_); rintro e w1 ⟨rfl, hk⟩; have K1 := Lib.hid (Keeps.trans (show Keeps (fun _ => False) w _ from by (repeat (first | exact Keeps.refl _ _ | assumption | refine Keeps.alloc ?_ _ | refine Keeps.drew ?_))) hk); clear hk)
  go_ret
  exact ⟨rfl, K1.out⟩
set_option maxHeartbeats 2000000 in
set_option maxRecDepth 20000 in
theorem index_t (sb g c : Nat) (w : World) (h : Blk w sb 77 (stepsL g c)) : Calls Tryz.prog 30 #[.slice (some ⟨sb, 0, none⟩) 2 2, .func (.func 22) #[] #[]] w fun e w' => e = .returned (.int .i64 (-1)) ∧ Keeps (fun _ => False) w w' := by
  have H1 := Lib.hid (not_1 g c)
  have H2 := Lib.hid not_2
  have HB := Lib.hid h
  have c0 := h.cell
  clear h
  go_enter Tryz.func30, Tryz.ntmps30
  go_wp2
  refine wp_loop_rounds 3 ?_
  rw [rounds_succ]
  go_wp2_with (go_at_call 22; (with_reducible refine (H1.out _).mono ?_); rintro e w1 ⟨rfl, hk⟩; have K1 := Lib.hid hk; have c1 := (HB.out.keeps hk (fun h => h)).cell; clear hk c0)
  rw [rounds_succ]
  go_wp2_with (go_at_call 22; (with_reducible refine (H2.out _).mono ?_); rintro e w2 ⟨rfl, hk⟩; have K2 := Lib.hid (K1.out.trans hk); clear hk)
  rw [rounds_succ]
  go_wp2
  go_ret
  exact ⟨rfl, K2.out⟩
theorem contains_t (sb g c : Nat) (w : World) (h : Blk w sb 77 (stepsL g c)) : Calls Tryz.prog 21 #[.slice (some ⟨sb, 0, none⟩) 2 2, .func (.func 22) #[] #[]] w fun e w' => e = .returned (.bool false) ∧ Keeps (fun _ => False) w w' := by
  have H1 := Lib.hid (index_t sb g c w h)
  clear h
  go_enter Tryz.func21, Tryz.ntmps21
  go_wp2_with (go_at_call 30; (with_reducible refine (H1.out).mono ?_); rintro e w1 ⟨rfl, hk⟩; have K1 := Lib.hid hk; clear hk)
  go_ret
  exact ⟨rfl, K1.out⟩
end Mw
end Go.Proofs.YtdaindihobfokaaGreatDoor
