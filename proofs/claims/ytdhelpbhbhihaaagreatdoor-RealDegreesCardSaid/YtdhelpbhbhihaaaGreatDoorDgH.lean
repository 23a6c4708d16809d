/-
  DgH: RealDegrees.
-/
import Derived.Test.YtdhelpbhbhihaaaGreatDoorDgG
import Derived.Test.YtdhelpbhbhihaaaGreatDoorDgB
namespace Go.Proofs.YtdhelpbhbhihaaaGreatDoor
open Go.RowKit Go.Shelf Go.Lib
set_option linter.unusedVariables false
set_option linter.unusedSimpArgs false
attribute [local go_sem] Oper.semAt_some
namespace Dg
open Mem
set_option maxHeartbeats 8000000 in
set_option maxRecDepth 20000 in
theorem degrees_at (l : List UInt8) (m : Int) (h1 : -2147483648 ≤ m) (h2 : m ≤ 2147483647) (w : World) (ht : Tens w)
    (hL : ∀ W, Below w.heap.size w W → Calls Tryz.prog 7 #[] W fun e w' => e = .returned (.bool true) ∧ Below w.heap.size w w') :
    Calls Tryz.prog 6 #[tx l, .int .i32 m] w fun e w' => e = .returned (.bool true) ∧ Below w.heap.size w w' := by
  have z1 := fun W => micro_t l W
  have z2 := fun W => rmicro_t l W
  have z3 := fun W hW => deg_t m h1 h2 W hW
  have z4 := fun W => rdeg_t m h1 h2 W
  have z5 := fun W => micro_t (deg m) W
  have hin := mic_in l
  obtain ⟨a, ha⟩ : ∃ a, a = (mic l).1 := ⟨_, rfl⟩
  obtain ⟨c, hc⟩ : ∃ c, c = (mic l).2 := ⟨_, rfl⟩
  rw [← ha] at hin z1 z2
  rw [← hc] at z1 z2
  have z6 := fun W hW => deg_t a (by omega) (by omega) W hW
  have z7 := fun W => micro_t (deg a) W
  rw [mic_deg hin.1 hin.2] at z7
  have hmd := fun x y => mic_deg (m := m) x y
  obtain ⟨b, hb⟩ : ∃ b, b = (mic (deg m)).1 := ⟨_, rfl⟩
  obtain ⟨g, hg⟩ : ∃ g, g = (mic (deg m)).2 := ⟨_, rfl⟩
  rw [← hb, ← hg] at z5
  have hbg : -180000000 ≤ m → m ≤ 180000000 → b = m ∧ g = 0 := fun x y => by
    have := hmd x y
    rw [hb, hg, this]
    exact ⟨rfl, rfl⟩
  obtain ⟨S, hS⟩ : ∃ S, S = deg m := ⟨_, rfl⟩
  rw [← hS] at z3 z4 z5
  obtain ⟨T, hT⟩ : ∃ T, T = deg a := ⟨_, rfl⟩
  rw [← hT] at z6 z7
  have HL := Lib.hid hL
  have HT := Lib.hid ht
  have HI := Lib.hid hin
  clear hL ht hmd hin ha hc hb hg hS hT
  by_cases hlo : -180000000 ≤ m
  · by_cases hhi : m ≤ 180000000
    · obtain ⟨rfl, rfl⟩ := hbg hlo hhi
      clear hbg
      by_cases hc0 : c = 0
      · subst hc0
        go_enter Tryz.func6, Tryz.ntmps6
        go_wp2_with (first | (go_at_call 29; with_reducible refine (z1 _).mono ?_; rintro e w1 ⟨rfl, k1⟩; have H1 := Lib.hid k1; clear k1) | (go_at_call 30; with_reducible refine (z2 _).mono ?_; rintro e w2 ⟨rfl, rfl⟩) | (go_at_call 31; with_reducible refine (z3 _ (tens_below HT.out H1.out)).mono ?_; rintro e w3 ⟨rfl, k3⟩; have H3 := Lib.hid (H1.out.trans (k3.mono H1.out.size)); clear k3) | (go_at_call 32; with_reducible refine (z4 _).mono ?_; rintro e w4 ⟨rfl, k4⟩; have H4 := Lib.hid (k4.below H3.out.size (fun _ _ h => h)); clear k4; have H4b := Lib.hid (H3.out.trans H4.out)) | (go_at_call 29; with_reducible refine (z5 _).mono ?_; rintro e w5 ⟨rfl, k5⟩; have H5 := Lib.hid (H4b.out.trans (k5.mono H4b.out.size)); clear k5) | (go_at_call 31; with_reducible refine (z6 _ (tens_below HT.out H5.out)).mono ?_; rintro e w6 ⟨rfl, k6⟩; have H6 := Lib.hid (H5.out.trans (k6.mono H5.out.size)); clear k6) | (go_at_call 29; with_reducible refine (z7 _).mono ?_; rintro e w7 ⟨rfl, k7⟩; have H7 := Lib.hid (H6.out.trans (k7.mono H6.out.size)); clear k7) | (go_at_call 7; with_reducible refine (HL.out _ H7.out).mono ?_; rintro e w9 ⟨rfl, k9⟩; have H9 := Lib.hid k9; clear k9))
        go_ret
        exact ⟨rfl, H9.out⟩
      · clear z6 z7
        go_enter Tryz.func6, Tryz.ntmps6
        go_wp2_with (first | (go_at_call 29; with_reducible refine (z1 _).mono ?_; rintro e w1 ⟨rfl, k1⟩; have H1 := Lib.hid k1; clear k1) | (go_at_call 30; with_reducible refine (z2 _).mono ?_; rintro e w2 ⟨rfl, rfl⟩) | (go_at_call 31; with_reducible refine (z3 _ (tens_below HT.out H1.out)).mono ?_; rintro e w3 ⟨rfl, k3⟩; have H3 := Lib.hid (H1.out.trans (k3.mono H1.out.size)); clear k3) | (go_at_call 32; with_reducible refine (z4 _).mono ?_; rintro e w4 ⟨rfl, k4⟩; have H4 := Lib.hid (k4.below H3.out.size (fun _ _ h => h)); clear k4; have H4b := Lib.hid (H3.out.trans H4.out)) | (go_at_call 29; with_reducible refine (z5 _).mono ?_; rintro e w5 ⟨rfl, k5⟩; have H5 := Lib.hid (H4b.out.trans (k5.mono H4b.out.size)); clear k5) | (go_at_call 7; with_reducible refine (HL.out _ H5.out).mono ?_; rintro e w9 ⟨rfl, k9⟩; have H9 := Lib.hid k9; clear k9))
        go_ret
        exact ⟨rfl, H9.out⟩
    · clear hbg
      by_cases hc0 : c = 0
      · subst hc0
        go_enter Tryz.func6, Tryz.ntmps6
        go_wp2_with (first | (go_at_call 29; with_reducible refine (z1 _).mono ?_; rintro e w1 ⟨rfl, k1⟩; have H1 := Lib.hid k1; clear k1) | (go_at_call 30; with_reducible refine (z2 _).mono ?_; rintro e w2 ⟨rfl, rfl⟩) | (go_at_call 31; with_reducible refine (z3 _ (tens_below HT.out H1.out)).mono ?_; rintro e w3 ⟨rfl, k3⟩; have H3 := Lib.hid (H1.out.trans (k3.mono H1.out.size)); clear k3) | (go_at_call 32; with_reducible refine (z4 _).mono ?_; rintro e w4 ⟨rfl, k4⟩; have H4 := Lib.hid (k4.below H3.out.size (fun _ _ h => h)); clear k4; have H4b := Lib.hid (H3.out.trans H4.out)) | (go_at_call 29; with_reducible refine (z5 _).mono ?_; rintro e w5 ⟨rfl, k5⟩; have H5 := Lib.hid (H4b.out.trans (k5.mono H4b.out.size)); clear k5) | (go_at_call 31; with_reducible refine (z6 _ (tens_below HT.out H5.out)).mono ?_; rintro e w6 ⟨rfl, k6⟩; have H6 := Lib.hid (H5.out.trans (k6.mono H5.out.size)); clear k6) | (go_at_call 29; with_reducible refine (z7 _).mono ?_; rintro e w7 ⟨rfl, k7⟩; have H7 := Lib.hid (H6.out.trans (k7.mono H6.out.size)); clear k7) | (go_at_call 7; with_reducible refine (HL.out _ H7.out).mono ?_; rintro e w9 ⟨rfl, k9⟩; have H9 := Lib.hid k9; clear k9))
        go_ret
        exact ⟨rfl, H9.out⟩
      · clear z6 z7
        go_enter Tryz.func6, Tryz.ntmps6
        go_wp2_with (first | (go_at_call 29; with_reducible refine (z1 _).mono ?_; rintro e w1 ⟨rfl, k1⟩; have H1 := Lib.hid k1; clear k1) | (go_at_call 30; with_reducible refine (z2 _).mono ?_; rintro e w2 ⟨rfl, rfl⟩) | (go_at_call 31; with_reducible refine (z3 _ (tens_below HT.out H1.out)).mono ?_; rintro e w3 ⟨rfl, k3⟩; have H3 := Lib.hid (H1.out.trans (k3.mono H1.out.size)); clear k3) | (go_at_call 32; with_reducible refine (z4 _).mono ?_; rintro e w4 ⟨rfl, k4⟩; have H4 := Lib.hid (k4.below H3.out.size (fun _ _ h => h)); clear k4; have H4b := Lib.hid (H3.out.trans H4.out)) | (go_at_call 29; with_reducible refine (z5 _).mono ?_; rintro e w5 ⟨rfl, k5⟩; have H5 := Lib.hid (H4b.out.trans (k5.mono H4b.out.size)); clear k5) | (go_at_call 7; with_reducible refine (HL.out _ H5.out).mono ?_; rintro e w9 ⟨rfl, k9⟩; have H9 := Lib.hid k9; clear k9))
        go_ret
        exact ⟨rfl, H9.out⟩
  · clear hbg
    by_cases hc0 : c = 0
    · subst hc0
      go_enter Tryz.func6, Tryz.ntmps6
      go_wp2_with (first | (go_at_call 29; with_reducible refine (z1 _).mono ?_; rintro e w1 ⟨rfl, k1⟩; have H1 := Lib.hid k1; clear k1) | (go_at_call 30; with_reducible refine (z2 _).mono ?_; rintro e w2 ⟨rfl, rfl⟩) | (go_at_call 31; with_reducible refine (z3 _ (tens_below HT.out H1.out)).mono ?_; rintro e w3 ⟨rfl, k3⟩; have H3 := Lib.hid (H1.out.trans (k3.mono H1.out.size)); clear k3) | (go_at_call 32; with_reducible refine (z4 _).mono ?_; rintro e w4 ⟨rfl, k4⟩; have H4 := Lib.hid (k4.below H3.out.size (fun _ _ h => h)); clear k4; have H4b := Lib.hid (H3.out.trans H4.out)) | (go_at_call 29; with_reducible refine (z5 _).mono ?_; rintro e w5 ⟨rfl, k5⟩; have H5 := Lib.hid (H4b.out.trans (k5.mono H4b.out.size)); clear k5) | (go_at_call 31; with_reducible refine (z6 _ (tens_below HT.out H5.out)).mono ?_; rintro e w6 ⟨rfl, k6⟩; have H6 := Lib.hid (H5.out.trans (k6.mono H5.out.size)); clear k6) | (go_at_call 29; with_reducible refine (z7 _).mono ?_; rintro e w7 ⟨rfl, k7⟩; have H7 := Lib.hid (H6.out.trans (k7.mono H6.out.size)); clear k7) | (go_at_call 7; with_reducible refine (HL.out _ H7.out).mono ?_; rintro e w9 ⟨rfl, k9⟩; have H9 := Lib.hid k9; clear k9))
      go_ret
      exact ⟨rfl, H9.out⟩
    · clear z6 z7
      go_enter Tryz.func6, Tryz.ntmps6
      go_wp2_with (first | (go_at_call 29; with_reducible refine (z1 _).mono ?_; rintro e w1 ⟨rfl, k1⟩; have H1 := Lib.hid k1; clear k1) | (go_at_call 30; with_reducible refine (z2 _).mono ?_; rintro e w2 ⟨rfl, rfl⟩) | (go_at_call 31; with_reducible refine (z3 _ (tens_below HT.out H1.out)).mono ?_; rintro e w3 ⟨rfl, k3⟩; have H3 := Lib.hid (H1.out.trans (k3.mono H1.out.size)); clear k3) | (go_at_call 32; with_reducible refine (z4 _).mono ?_; rintro e w4 ⟨rfl, k4⟩; have H4 := Lib.hid (k4.below H3.out.size (fun _ _ h => h)); clear k4; have H4b := Lib.hid (H3.out.trans H4.out)) | (go_at_call 29; with_reducible refine (z5 _).mono ?_; rintro e w5 ⟨rfl, k5⟩; have H5 := Lib.hid (H4b.out.trans (k5.mono H4b.out.size)); clear k5) | (go_at_call 7; with_reducible refine (HL.out _ H5.out).mono ?_; rintro e w9 ⟨rfl, k9⟩; have H9 := Lib.hid k9; clear k9))
      go_ret
      exact ⟨rfl, H9.out⟩
end Dg
end Go.Proofs.YtdhelpbhbhihaaaGreatDoor
