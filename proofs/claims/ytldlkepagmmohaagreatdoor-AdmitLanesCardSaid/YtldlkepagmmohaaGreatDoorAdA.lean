/-
  AdA: may a size be? What the program and the document say; the lane of a command.
-/
import Derived.Test.YtldlkepagmmohaaGreatDoorMem
import Derived.Handy
import Derived.Deep.Cut
namespace Go.Proofs.YtldlkepagmmohaaGreatDoor
open Go.RowKit
set_option linter.unusedVariables false
set_option linter.unusedSimpArgs false
attribute [local go_sem] Oper.semAt_some
namespace Ad
open Mem
/-- may a size be? -/
def Fit (s q o f u b v l t c i : Int) : Prop := (1 ≤ s ∧ s ≤ 8) ∧ (1 ≤ q ∧ q ≤ 64) ∧ (1 ≤ o ∧ o ≤ 64) ∧ (1 ≤ f ∧ f ≤ 64) ∧ (1 ≤ u ∧ u ≤ 16) ∧ ((o ≤ b ∧ f ≤ b) ∧ b ≤ 256) ∧ (1 ≤ v ∧ v ≤ 32) ∧ (1 ≤ l ∧ l ≤ 64) ∧ (1 ≤ t ∧ t ≤ 1000) ∧ (1 ≤ c ∧ c ≤ 2147483648) ∧ (0 ≤ i ∧ i ≤ 2)
instance (s q o f u b v l t c i : Int) : Decidable (Fit s q o f u b v l t c i) := by unfold Fit; exact inferInstance
set_option maxHeartbeats 4000000 in
set_option maxRecDepth 100000 in
theorem config_t (s q o f u b v l t c i : Int) (w : World) : Calls Tryz.prog 7 #[.agg #[.int .i64 s, .int .i64 q, .int .i64 o, .int .i64 f, .int .i64 u, .int .i64 b, .int .i64 v, .int .i64 l, .int .i64 t, .int .i64 c, .int .i64 i]] w fun e w' => e = .returned (.int .i64 (if Fit s q o f u b v l t c i then 0 else 2)) ∧ Keeps (fun _ => False) w w' := by
  have i0 : ∀ (m : Int) (w : World), (Instr.index 59 (.agg #[.int .i64 s, .int .i64 1, .int .i64 8, .int .i64 q, .int .i64 1, .int .i64 64, .int .i64 o, .int .i64 1, .int .i64 64, .int .i64 f, .int .i64 1, .int .i64 64, .int .i64 u, .int .i64 1, .int .i64 16, .int .i64 b, .int .i64 m, .int .i64 256, .int .i64 v, .int .i64 1, .int .i64 32, .int .i64 l, .int .i64 1, .int .i64 64, .int .i64 t, .int .i64 1, .int .i64 1000, .int .i64 c, .int .i64 1, .int .i64 2147483648, .int .i64 i, .int .i64 0, .int .i64 2]) (.int .i64 0)).run Tryz.prog w = .ok (.agg #[.int .i64 s, .int .i64 1, .int .i64 8]) w := fun _ _ => by kernel_rfl
  have i1 : ∀ (m : Int) (w : World), (Instr.index 59 (.agg #[.int .i64 s, .int .i64 1, .int .i64 8, .int .i64 q, .int .i64 1, .int .i64 64, .int .i64 o, .int .i64 1, .int .i64 64, .int .i64 f, .int .i64 1, .int .i64 64, .int .i64 u, .int .i64 1, .int .i64 16, .int .i64 b, .int .i64 m, .int .i64 256, .int .i64 v, .int .i64 1, .int .i64 32, .int .i64 l, .int .i64 1, .int .i64 64, .int .i64 t, .int .i64 1, .int .i64 1000, .int .i64 c, .int .i64 1, .int .i64 2147483648, .int .i64 i, .int .i64 0, .int .i64 2]) (.int .i64 1)).run Tryz.prog w = .ok (.agg #[.int .i64 q, .int .i64 1, .int .i64 64]) w := fun _ _ => by kernel_rfl
  have i2 : ∀ (m : Int) (w : World), (Instr.index 59 (.agg #[.int .i64 s, .int .i64 1, .int .i64 8, .int .i64 q, .int .i64 1, .int .i64 64, .int .i64 o, .int .i64 1, .int .i64 64, .int .i64 f, .int .i64 1, .int .i64 64, .int .i64 u, .int .i64 1, .int .i64 16, .int .i64 b, .int .i64 m, .int .i64 256, .int .i64 v, .int .i64 1, .int .i64 32, .int .i64 l, .int .i64 1, .int .i64 64, .int .i64 t, .int .i64 1, .int .i64 1000, .int .i64 c, .int .i64 1, .int .i64 2147483648, .int .i64 i, .int .i64 0, .int .i64 2]) (.int .i64 2)).run Tryz.prog w = .ok (.agg #[.int .i64 o, .int .i64 1, .int .i64 64]) w := fun _ _ => by kernel_rfl
  have i3 : ∀ (m : Int) (w : World), (Instr.index 59 (.agg #[.int .i64 s, .int .i64 1, .int .i64 8, .int .i64 q, .int .i64 1, .int .i64 64, .int .i64 o, .int .i64 1, .int .i64 64, .int .i64 f, .int .i64 1, .int .i64 64, .int .i64 u, .int .i64 1, .int .i64 16, .int .i64 b, .int .i64 m, .int .i64 256, .int .i64 v, .int .i64 1, .int .i64 32, .int .i64 l, .int .i64 1, .int .i64 64, .int .i64 t, .int .i64 1, .int .i64 1000, .int .i64 c, .int .i64 1, .int .i64 2147483648, .int .i64 i, .int .i64 0, .int .i64 2]) (.int .i64 3)).run Tryz.prog w = .ok (.agg #[.int .i64 f, .int .i64 1, .int .i64 64]) w := fun _ _ => by kernel_rfl
  have i4 : ∀ (m : Int) (w : World), (Instr.index 59 (.agg #[.int .i64 s, .int .i64 1, .int .i64 8, .int .i64 q, .int .i64 1, .int .i64 64, .int .i64 o, .int .i64 1, .int .i64 64, .int .i64 f, .int .i64 1, .int .i64 64, .int .i64 u, .int .i64 1, .int .i64 16, .int .i64 b, .int .i64 m, .int .i64 256, .int .i64 v, .int .i64 1, .int .i64 32, .int .i64 l, .int .i64 1, .int .i64 64, .int .i64 t, .int .i64 1, .int .i64 1000, .int .i64 c, .int .i64 1, .int .i64 2147483648, .int .i64 i, .int .i64 0, .int .i64 2]) (.int .i64 4)).run Tryz.prog w = .ok (.agg #[.int .i64 u, .int .i64 1, .int .i64 16]) w := fun _ _ => by kernel_rfl
  have i5 : ∀ (m : Int) (w : World), (Instr.index 59 (.agg #[.int .i64 s, .int .i64 1, .int .i64 8, .int .i64 q, .int .i64 1, .int .i64 64, .int .i64 o, .int .i64 1, .int .i64 64, .int .i64 f, .int .i64 1, .int .i64 64, .int .i64 u, .int .i64 1, .int .i64 16, .int .i64 b, .int .i64 m, .int .i64 256, .int .i64 v, .int .i64 1, .int .i64 32, .int .i64 l, .int .i64 1, .int .i64 64, .int .i64 t, .int .i64 1, .int .i64 1000, .int .i64 c, .int .i64 1, .int .i64 2147483648, .int .i64 i, .int .i64 0, .int .i64 2]) (.int .i64 5)).run Tryz.prog w = .ok (.agg #[.int .i64 b, .int .i64 m, .int .i64 256]) w := fun _ _ => by kernel_rfl
  have i6 : ∀ (m : Int) (w : World), (Instr.index 59 (.agg #[.int .i64 s, .int .i64 1, .int .i64 8, .int .i64 q, .int .i64 1, .int .i64 64, .int .i64 o, .int .i64 1, .int .i64 64, .int .i64 f, .int .i64 1, .int .i64 64, .int .i64 u, .int .i64 1, .int .i64 16, .int .i64 b, .int .i64 m, .int .i64 256, .int .i64 v, .int .i64 1, .int .i64 32, .int .i64 l, .int .i64 1, .int .i64 64, .int .i64 t, .int .i64 1, .int .i64 1000, .int .i64 c, .int .i64 1, .int .i64 2147483648, .int .i64 i, .int .i64 0, .int .i64 2]) (.int .i64 6)).run Tryz.prog w = .ok (.agg #[.int .i64 v, .int .i64 1, .int .i64 32]) w := fun _ _ => by kernel_rfl
  have i7 : ∀ (m : Int) (w : World), (Instr.index 59 (.agg #[.int .i64 s, .int .i64 1, .int .i64 8, .int .i64 q, .int .i64 1, .int .i64 64, .int .i64 o, .int .i64 1, .int .i64 64, .int .i64 f, .int .i64 1, .int .i64 64, .int .i64 u, .int .i64 1, .int .i64 16, .int .i64 b, .int .i64 m, .int .i64 256, .int .i64 v, .int .i64 1, .int .i64 32, .int .i64 l, .int .i64 1, .int .i64 64, .int .i64 t, .int .i64 1, .int .i64 1000, .int .i64 c, .int .i64 1, .int .i64 2147483648, .int .i64 i, .int .i64 0, .int .i64 2]) (.int .i64 7)).run Tryz.prog w = .ok (.agg #[.int .i64 l, .int .i64 1, .int .i64 64]) w := fun _ _ => by kernel_rfl
  have i8 : ∀ (m : Int) (w : World), (Instr.index 59 (.agg #[.int .i64 s, .int .i64 1, .int .i64 8, .int .i64 q, .int .i64 1, .int .i64 64, .int .i64 o, .int .i64 1, .int .i64 64, .int .i64 f, .int .i64 1, .int .i64 64, .int .i64 u, .int .i64 1, .int .i64 16, .int .i64 b, .int .i64 m, .int .i64 256, .int .i64 v, .int .i64 1, .int .i64 32, .int .i64 l, .int .i64 1, .int .i64 64, .int .i64 t, .int .i64 1, .int .i64 1000, .int .i64 c, .int .i64 1, .int .i64 2147483648, .int .i64 i, .int .i64 0, .int .i64 2]) (.int .i64 8)).run Tryz.prog w = .ok (.agg #[.int .i64 t, .int .i64 1, .int .i64 1000]) w := fun _ _ => by kernel_rfl
  have i9 : ∀ (m : Int) (w : World), (Instr.index 59 (.agg #[.int .i64 s, .int .i64 1, .int .i64 8, .int .i64 q, .int .i64 1, .int .i64 64, .int .i64 o, .int .i64 1, .int .i64 64, .int .i64 f, .int .i64 1, .int .i64 64, .int .i64 u, .int .i64 1, .int .i64 16, .int .i64 b, .int .i64 m, .int .i64 256, .int .i64 v, .int .i64 1, .int .i64 32, .int .i64 l, .int .i64 1, .int .i64 64, .int .i64 t, .int .i64 1, .int .i64 1000, .int .i64 c, .int .i64 1, .int .i64 2147483648, .int .i64 i, .int .i64 0, .int .i64 2]) (.int .i64 9)).run Tryz.prog w = .ok (.agg #[.int .i64 c, .int .i64 1, .int .i64 2147483648]) w := fun _ _ => by kernel_rfl
  have i10 : ∀ (m : Int) (w : World), (Instr.index 59 (.agg #[.int .i64 s, .int .i64 1, .int .i64 8, .int .i64 q, .int .i64 1, .int .i64 64, .int .i64 o, .int .i64 1, .int .i64 64, .int .i64 f, .int .i64 1, .int .i64 64, .int .i64 u, .int .i64 1, .int .i64 16, .int .i64 b, .int .i64 m, .int .i64 256, .int .i64 v, .int .i64 1, .int .i64 32, .int .i64 l, .int .i64 1, .int .i64 64, .int .i64 t, .int .i64 1, .int .i64 1000, .int .i64 c, .int .i64 1, .int .i64 2147483648, .int .i64 i, .int .i64 0, .int .i64 2]) (.int .i64 10)).run Tryz.prog w = .ok (.agg #[.int .i64 i, .int .i64 0, .int .i64 2]) w := fun _ _ => by kernel_rfl
  generalize hR : (if Fit s q o f u b v l t c i then (0 : Int) else 2) = R
  have HR := Lib.hid hR
  clear hR
  go_enter Tryz.func7, Tryz.ntmps7
  go_upto_region 1 with (fail)
  go_cut [43, 44] from 5 (fun s43 s44 wc => (∃ m : Int, s43 = .agg #[.int .i64 s, .int .i64 1, .int .i64 8, .int .i64 q, .int .i64 1, .int .i64 64, .int .i64 o, .int .i64 1, .int .i64 64, .int .i64 f, .int .i64 1, .int .i64 64, .int .i64 u, .int .i64 1, .int .i64 16, .int .i64 b, .int .i64 m, .int .i64 256, .int .i64 v, .int .i64 1, .int .i64 32, .int .i64 l, .int .i64 1, .int .i64 64, .int .i64 t, .int .i64 1, .int .i64 1000, .int .i64 c, .int .i64 1, .int .i64 2147483648, .int .i64 i, .int .i64 0, .int .i64 2] ∧ m = max o f) ∧ s44 = .int .i64 0 ∧ wc = w.alloc (.cells #[.int .i64 s, .int .i64 q, .int .i64 o, .int .i64 f, .int .i64 u, .int .i64 b, .int .i64 v, .int .i64 l, .int .i64 t, .int .i64 c, .int .i64 i] 23))
  case' first =>
    go_wp2
    all_goals
      go_meet
      exact ⟨⟨_, rfl, by omega⟩, rfl, rfl⟩
  obtain ⟨⟨m, rfl, hm⟩, rfl, rfl⟩ := hcut
  have HM := Lib.hid hm
  clear hm
  go_wp2
  go_rounds 12
  all_goals first
    | (go_ret
       refine ⟨?_, by (repeat (first | exact Keeps.refl _ _ | refine Keeps.alloc ?_ _ | refine Keeps.drew ?_ | refine Keeps.setCell ?_ (fun h => absurd h (by simp)) _))⟩
       have hR := HR.out
       have hm := HM.out
       rw [← hR]
       first
         | (rw [if_pos (by unfold Fit; omega)]; rfl)
         | (rw [if_neg (by unfold Fit; omega)]; rfl))
    | trace_state
end Ad
end Go.Proofs.YtldlkepagmmohaaGreatDoor
