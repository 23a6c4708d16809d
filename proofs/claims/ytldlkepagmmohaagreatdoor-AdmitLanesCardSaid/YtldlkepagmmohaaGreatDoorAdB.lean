/-
  AdB: may a size be, as the document says; the lane of a command, both ways.
-/
import Derived.Test.YtldlkepagmmohaaGreatDoorAdA
import Derived.Deep.Cut
namespace Go.Proofs.YtldlkepagmmohaaGreatDoor
open Go.RowKit
set_option linter.unusedVariables false
set_option linter.unusedSimpArgs false
attribute [local go_sem] Oper.semAt_some
namespace Ad
open Mem
set_option maxHeartbeats 4000000 in
set_option maxRecDepth 100000 in
theorem fits_t (s q o f u b v l t c i : Int) (w : World) : Calls Tryz.prog 8 #[.agg #[.int .i64 s, .int .i64 q, .int .i64 o, .int .i64 f, .int .i64 u, .int .i64 b, .int .i64 v, .int .i64 l, .int .i64 t, .int .i64 c, .int .i64 i]] w fun e w' => e = .returned (.bool (decide (Fit s q o f u b v l t c i))) ∧ (w.alloc (.cells #[.int .i64 s, .int .i64 q, .int .i64 o, .int .i64 f, .int .i64 u, .int .i64 b, .int .i64 v, .int .i64 l, .int .i64 t, .int .i64 c, .int .i64 i] 23)) = w' := by
  generalize hR : decide (Fit s q o f u b v l t c i) = R
  have HR := Lib.hid hR
  clear hR
  go_enter Tryz.func8, Tryz.ntmps8
  go_upto_if 11 with (fail)
  go_cut [3] from 6 (fun s3 wc => (∃ m : Int, s3 = .int .i64 m ∧ m = max o f) ∧ wc = (w.alloc (.cells #[.int .i64 s, .int .i64 q, .int .i64 o, .int .i64 f, .int .i64 u, .int .i64 b, .int .i64 v, .int .i64 l, .int .i64 t, .int .i64 c, .int .i64 i] 23)))
  case' first =>
    go_wp2
    all_goals
      go_meet
      exact ⟨⟨_, rfl, by omega⟩, rfl⟩
  case' rest =>
    obtain ⟨⟨m, rfl, hm⟩, rfl⟩ := hcut
    have HM := Lib.hid hm
    clear hm
    go_upto_region 4 with (fail)
    go_cut [4] from 14 (fun s4 wc => (∃ b4 : Bool, s4 = .bool b4 ∧ b4 = decide ((1 ≤ s ∧ s ≤ 8) ∧ (1 ≤ q ∧ q ≤ 64) ∧ (1 ≤ o ∧ o ≤ 64) ∧ (1 ≤ f ∧ f ≤ 64))) ∧ wc = (w.alloc (.cells #[.int .i64 s, .int .i64 q, .int .i64 o, .int .i64 f, .int .i64 u, .int .i64 b, .int .i64 v, .int .i64 l, .int .i64 t, .int .i64 c, .int .i64 i] 23)))
    case' first =>
      go_wp2
      all_goals
        go_meet
        refine ⟨⟨_, rfl, ?_⟩, rfl⟩
        rw [Bool.eq_iff_iff]
        simp only [decide_eq_true_eq, Bool.false_eq_true, Bool.true_eq_false, true_iff, false_iff]
        omega
    case' rest =>
      obtain ⟨⟨b4, rfl, hb4⟩, rfl⟩ := hcut
      have HB4 := Lib.hid hb4
      clear hb4
      go_upto_region 5 with (fail)
      go_cut [5] from 52 (fun s5 wc => (∃ b5 : Bool, s5 = .bool b5 ∧ b5 = decide ((1 ≤ u ∧ u ≤ 16) ∧ (m ≤ b ∧ b ≤ 256) ∧ (1 ≤ v ∧ v ≤ 32) ∧ (1 ≤ l ∧ l ≤ 64))) ∧ wc = (w.alloc (.cells #[.int .i64 s, .int .i64 q, .int .i64 o, .int .i64 f, .int .i64 u, .int .i64 b, .int .i64 v, .int .i64 l, .int .i64 t, .int .i64 c, .int .i64 i] 23)))
      case' first =>
        go_wp2
        all_goals
          go_meet
          refine ⟨⟨_, rfl, ?_⟩, rfl⟩
          rw [Bool.eq_iff_iff]
          simp only [decide_eq_true_eq, Bool.false_eq_true, Bool.true_eq_false, true_iff, false_iff]
          omega
      case' rest =>
        obtain ⟨⟨b5, rfl, hb5⟩, rfl⟩ := hcut
        have HB5 := Lib.hid hb5
        clear hb5
        rcases b4 with _ | _ <;> rcases b5 with _ | _
        all_goals go_wp2
        all_goals
          go_ret
          refine ⟨?_, rfl⟩
          have hR := HR.out
          have hm := HM.out
          have h4 := HB4.out
          have h5 := HB5.out
          rw [← hR]
          simp only [Bool.true_eq, Bool.false_eq, decide_eq_true_eq, decide_eq_false_iff_not] at h4 h5
          refine congrArg (fun x => Ending.returned (Value.bool x)) ?_
          rw [Bool.eq_iff_iff]
          simp only [decide_eq_true_eq, Bool.false_eq_true, Bool.true_eq_false, true_iff, false_iff]
          unfold Fit
          omega
end Ad
end Go.Proofs.YtldlkepagmmohaaGreatDoor
