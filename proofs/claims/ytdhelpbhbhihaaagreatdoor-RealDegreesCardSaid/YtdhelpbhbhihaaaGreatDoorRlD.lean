/-
  RlD: what the reader of numbers does at the text -1.5, on: the exact way, Parse.
-/
import Derived.Test.YtdhelpbhbhihaaaGreatDoorRlC
namespace Go.Proofs.YtdhelpbhbhihaaaGreatDoor
open Go.RowKit Go.Shelf
set_option linter.unusedVariables false
set_option linter.unusedSimpArgs false
attribute [local go_sem] Oper.semAt_some
namespace Rl
open Mem
/-- the package's own variables that the way comes to -/
structure Vars (w : World) : Prop where
  opt : w.cell? ⟨5, 0, none⟩ = some (.bool true)
  info : w.cell? ⟨9, 0, none⟩ = some (.int .u64 52)
  pow : ∃ b off cap, w.cell? ⟨14, 0, none⟩ = some (.slice (some ⟨b, off, none⟩) 23 cap) ∧ w.cell? ⟨b, off + 1, none⟩ = some (.float .f64 4621819117588971520)
theorem cv15 (W : World) : (convert 28 25 (.int .u64 15)).run Tryz.prog W = .ok (.float .f64 4624633867356078080) W := by kernel_rfl
theorem ng15 (W : World) : (Op.unary .neg (.float .f64 4624633867356078080)).run Tryz.prog W = .ok (.float .f64 13848005904210853888) W := by kernel_rfl
theorem dv15 (W : World) : (binOp .quo 25 (.float .f64 13848005904210853888) (.float .f64 4621819117588971520)).run Tryz.prog W = .ok (.float .f64 13832806255468478464) W := by kernel_rfl
set_option maxRecDepth 20000 in
theorem exact_at (w : World) (h : Vars w) : Calls Tryz.prog 160 #[.int .u64 15, .int .i64 (-1), .bool true] w fun e w' => e = .returned (.tuple #[.float .f64 13832806255468478464, .bool true]) ∧ w = w' := by
  have h1 := h.info
  obtain ⟨b, off, cap, h2, h3⟩ := h.pow
  have c1 := cv15
  have c2 := ng15
  have c3 := dv15
  generalize 4624633867356078080 = r1 at *
  generalize 13848005904210853888 = r2 at *
  generalize 4621819117588971520 = r3 at *
  generalize 13832806255468478464 = r4 at *
  clear h
  go_enter Tryz.func160, Tryz.ntmps160
  go_wp2
  exact bodyPost_ret (results_tmp2 rfl _ _ _) rfl ⟨rfl, rfl⟩
theorem bool2_at (w : World) : Calls Tryz.prog 158 #[.bool true] w fun e w' => e = .returned (.int .u64 1) ∧ w = w' := by
  go_enter Tryz.func158, Tryz.ntmps158
  go_wp2
  go_ret
  exact ⟨rfl, rfl⟩
set_option maxHeartbeats 4000000 in
set_option maxRecDepth 20000 in
theorem atof_at (w : World) (h : Vars w) : Calls Tryz.prog 127 #[.string ⟨#[45, 49, 46, 53]⟩] w fun e w' => e = .returned (.tuple #[.float .f64 13832806255468478464, .int .i64 4, .nilIface]) ∧ w = w' := by
  have h1 := h.opt
  have c1 := special_at
  have c2 := read_at
  have c3 := fun w h => exact_at w h
  generalize 13832806255468478464 = r4 at *
  go_enter Tryz.func127, Tryz.ntmps127
  go_wp2_with (first
    | (go_at_call 149; with_reducible refine (c1 _).mono ?_; rintro e w' ⟨rfl, rfl⟩)
    | (go_at_call 158; with_reducible refine (bool2_at _).mono ?_; rintro e w' ⟨rfl, rfl⟩)
    | (go_at_call 150; with_reducible refine (c2 _).mono ?_; rintro e w' ⟨rfl, rfl⟩)
    | (go_at_call 160; with_reducible refine (c3 _ h).mono ?_; rintro e w' ⟨rfl, rfl⟩))
  go_ret3
  exact ⟨rfl, rfl⟩
set_option maxHeartbeats 4000000 in
set_option maxRecDepth 20000 in
theorem pfp_at (w : World) (h : Vars w) : Calls Tryz.prog 105 #[.string ⟨#[45, 49, 46, 53]⟩, .int .i64 64] w fun e w' => e = .returned (.tuple #[.float .f64 13832806255468478464, .int .i64 4, .nilIface]) ∧ w = w' := by
  have c1 := atof_at w h
  generalize 13832806255468478464 = r4 at *
  go_enter Tryz.func105, Tryz.ntmps105
  go_wp2_with (first
    | (go_at_call 127; with_reducible refine (c1).mono ?_; rintro e w' ⟨rfl, rfl⟩))
  go_ret3
  exact ⟨rfl, rfl⟩
set_option maxHeartbeats 4000000 in
set_option maxRecDepth 20000 in
theorem ipf_at (w : World) (h : Vars w) : Calls Tryz.prog 82 #[.string ⟨#[45, 49, 46, 53]⟩, .int .i64 64] w fun e w' => e = .returned (.tuple #[.float .f64 13832806255468478464, .nilIface]) ∧ w = w' := by
  have c1 := pfp_at w h
  generalize 13832806255468478464 = r4 at *
  go_enter Tryz.func82, Tryz.ntmps82
  go_wp2_with (first
    | (go_at_call 105; with_reducible refine (c1).mono ?_; rintro e w' ⟨rfl, rfl⟩))
  go_ret2
  exact ⟨rfl, rfl⟩
set_option maxHeartbeats 4000000 in
set_option maxRecDepth 20000 in
theorem pf_at (w : World) (h : Vars w) : Calls Tryz.prog 57 #[.string ⟨#[45, 49, 46, 53]⟩, .int .i64 64] w fun e w' => e = .returned (.tuple #[.float .f64 13832806255468478464, .nilIface]) ∧ w = w' := by
  have c1 := ipf_at w h
  generalize 13832806255468478464 = r4 at *
  go_enter Tryz.func57, Tryz.ntmps57
  go_wp2_with (first
    | (go_at_call 82; with_reducible refine (c1).mono ?_; rintro e w' ⟨rfl, rfl⟩))
  go_ret2
  exact ⟨rfl, rfl⟩
/-- the package's variables lie in blocks that were there when the call began -/
structure VarsIn (w : World) : Prop extends Vars w where
  size : 5 < w.heap.size ∧ 9 < w.heap.size ∧ 14 < w.heap.size
  sizeb : ∀ b off cap, w.cell? ⟨14, 0, none⟩ = some (.slice (some ⟨b, off, none⟩) 23 cap) → b < w.heap.size
theorem VarsIn.below {w w' : World} (h : VarsIn w) (k : Below w.heap.size w w') : VarsIn w' := by
  obtain ⟨s1, s2, s3⟩ := h.size
  have e3 := k.cell (p := ⟨14, 0, none⟩) s3
  refine ⟨⟨(k.cell (p := ⟨5, 0, none⟩) s1).trans h.opt, (k.cell (p := ⟨9, 0, none⟩) s2).trans h.info, ?_⟩, ?_, ?_⟩
  · obtain ⟨b, off, cap, h2, h3⟩ := h.pow
    exact ⟨b, off, cap, e3.trans h2, (k.cell (p := ⟨b, off + 1, none⟩) (h.sizeb b off cap h2)).trans h3⟩
  · have := k.size
    omega
  · intro b off cap hb
    rw [e3] at hb
    have := h.sizeb b off cap hb
    have := k.size
    omega
set_option maxHeartbeats 4000000 in
set_option maxRecDepth 20000 in
theorem parse_at (w : World) (h : VarsIn w) : Calls Tryz.prog 33 #[.string ⟨#[45, 49, 46, 53]⟩] w fun e w' => e = .returned (.tuple #[.float .f64 13832806255468478464, .int .i64 0]) ∧ Below w.heap.size w w' := by
  have c1 := number_at w
  have c2 := fun w h => pf_at w h
  generalize 13832806255468478464 = r4 at *
  go_enter Tryz.func33, Tryz.ntmps33
  go_wp2_with (first
    | (go_at_call 56; with_reducible refine c1.mono ?_; rintro e w' ⟨rfl, hB⟩)
    | (go_at_call 57; with_reducible refine (c2 _ (h.below hB).toVars).mono ?_; rintro e w' ⟨rfl, rfl⟩))
  go_ret2
  exact ⟨rfl, hB⟩
end Rl
end Go.Proofs.YtdhelpbhbhihaaaGreatDoor
