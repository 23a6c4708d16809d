/-
  TrP: Put, Del, Box, Len, Depth, New of a tree that is there.
-/
import Derived.Test.YtndghakagogmcaaTrZ
namespace Go.Proofs.Ytndghakagogmcaa
open Go.RowKit
set_option linter.unusedVariables false
set_option linter.unusedSimpArgs false
attribute [local go_sem] Oper.semAt_some
namespace Tree
open Mem BT
set_option maxHeartbeats 4000000 in
set_option maxRecDepth 100000 in
theorem put_t (T : Nat) (S : Nat → Prop) (L : List (Nat × Bx)) (id : Nat) (b : Bx) (w : World) (h : TrS w T S L) (hid : El32 (id, b)) :
    Calls Try.prog 20 #[.pointer (some ⟨T, 0, none⟩), .int .u32 (id : Int), .agg #[.int .i32 b.x0, .int .i32 b.y0, .int .i32 b.x1, .int .i32 b.y1]] w (Did T S (putR L id b) w) := by
  by_cases h123 : b.right = true ∧ hasL L id = false ∧ L.length < 65536
  · obtain ⟨h1, h2, h3⟩ := h123
    have e : putR L id b = (0, putL id b L) := by
      unfold putR
      rw [if_neg (by simp [h1]), if_neg (by simp [h2]), if_neg (by omega)]
    rw [e]
    exact put_ok T S L id b w h hid h1 h2 h3
  have h0 := h
  obtain ⟨r, t, hH, hM, he, hR, hI, hl, hS⟩ := h0
  have k1 := (Keeps.refl (fun _ => False) w).alloc (.cells #[.int .i32 b.x0, .int .i32 b.y0, .int .i32 b.x1, .int .i32 b.y1] 47)
  have k2 := k1.alloc (.cells #[.int .i32 (lookL L id).x0, .int .i32 (lookL L id).y0, .int .i32 (lookL L id).x1, .int .i32 (lookL L id).y1] 47)
  have hM1 := hM.keeps k1 (fun h => h)
  have hT1 := hH.blk.keeps k1 (fun h => h)
  have HTh := Lib.hid (there_yes hT1)
  have hlk := hM1.look hid.1
  simp only [Bx.val] at hlk
  have cT := hT1.cell
  obtain ⟨nn, hnn⟩ : ∃ nn : Int, nn = (L.length : Int) := ⟨_, rfl⟩
  have HN := Lib.hid hnn
  have H := Lib.hid h
  have HM := Lib.hid hM
  have HH := Lib.hid hH.blk
  have K2 := Lib.hid k2
  by_cases h1 : b.right = true
  · have HRt := Lib.hid (fun W => (show Calls _ _ _ W (Gave (.bool true) W) from h1 ▸ right_any b.x0 b.y0 b.x1 b.y1 W))
    cases h2 : hasL L id with
    | true =>
      have e : putR L id b = (140, L) := by
        unfold putR
        rw [if_neg (by simp [h1]), if_pos h2]
      rw [e]
      rw [h2] at hlk
      clear h k1 hM1 hT1 hM hH hR hI hl hS hnn h123 k2 he
      go_enter Try.func20, Try.ntmps20
      go_wp2_with (first | (go_at_call 41; (with_reducible refine HTh.out.mono ?_); rintro e w1 ⟨rfl, rfl⟩) | (go_at_call 42; (with_reducible refine (HRt.out _).mono ?_); rintro e w2 ⟨rfl, hk2⟩; have K3 := Lib.hid (K2.out.trans hk2); have hlen := (HM.out.keeps K3.out (fun h => h)).len; rw [← HN.out] at hlen; have cT2 := (HH.out.keeps K3.out (fun h => h)).cell; clear hk2 cT))
      go_ret
      exact Did.same H.out K3.out _
    | false =>
      have h3 : 65536 ≤ L.length := Nat.le_of_not_lt fun h3 => h123 ⟨h1, h2, h3⟩
      have e : putR L id b = (5, L) := by
        unfold putR
        rw [if_neg (by simp [h1]), if_neg (by simp [h2]), if_pos h3]
      rw [e]
      rw [h2] at hlk
      have h4 : ¬ nn < 65536 := by omega
      clear h k1 hM1 hT1 hM hH hR hI hl hS hnn h123 h3 k2 he
      go_enter Try.func20, Try.ntmps20
      go_wp2_with (first | (go_at_call 41; (with_reducible refine HTh.out.mono ?_); rintro e w1 ⟨rfl, rfl⟩) | (go_at_call 42; (with_reducible refine (HRt.out _).mono ?_); rintro e w2 ⟨rfl, hk2⟩; have K3 := Lib.hid (K2.out.trans hk2); have hlen := (HM.out.keeps K3.out (fun h => h)).len; rw [← HN.out] at hlen; have cT2 := (HH.out.keeps K3.out (fun h => h)).cell; clear hk2 cT))
      go_ret
      exact Did.same H.out K3.out _
  · have e : putR L id b = (142, L) := by
      unfold putR
      rw [if_pos (by simpa using h1)]
    rw [e]
    have HRt := Lib.hid (fun W => (show Calls _ _ _ W (Gave (.bool false) W) from (Bool.not_eq_true _ ▸ h1 : b.right = false) ▸ right_any b.x0 b.y0 b.x1 b.y1 W))
    generalize hasL L id = hb at *
    clear h k1 hM1 hT1 hM hH hR hI hl hS hnn h123 k2 he
    go_enter Try.func20, Try.ntmps20
    go_wp2_with (first | (go_at_call 41; (with_reducible refine HTh.out.mono ?_); rintro e w1 ⟨rfl, rfl⟩) | (go_at_call 42; (with_reducible refine (HRt.out _).mono ?_); rintro e w2 ⟨rfl, hk2⟩; have K3 := Lib.hid (K2.out.trans hk2); have hlen := (HM.out.keeps K3.out (fun h => h)).len; rw [← HN.out] at hlen; have cT2 := (HH.out.keeps K3.out (fun h => h)).cell; clear hk2 cT))
    go_ret
    exact Did.same H.out K3.out _
end Tree
end Go.Proofs.Ytndghakagogmcaa
