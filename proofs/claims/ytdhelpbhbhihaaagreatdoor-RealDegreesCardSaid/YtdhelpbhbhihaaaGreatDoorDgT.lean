import Derived.Test.YtdhelpbhbhihaaaGreatDoorDgE
import Derived.Lib.AtoiErrMem
namespace Go.Proofs.YtdhelpbhbhihaaaGreatDoor
open Go.RowKit Go.Shelf Go.Lib
set_option linter.unusedVariables false
set_option linter.unusedSimpArgs false
attribute [local go_sem] Oper.semAt_some
namespace Dg
open Mem
theorem bw_below {w W w' : World} (h : Below w.heap.size w W) {t : TypeId} (k : w' = W ∨ ∃ x, w' = bytesWorld W t x) : Below w.heap.size w w' := by
  rcases k with rfl | ⟨x, rfl⟩
  · exact h
  · exact h.trans ((bytesWorld_below W t x).mono h.size)
set_option maxHeartbeats 16000000 in
set_option maxRecDepth 20000 in
theorem tail_pt (l b A B A' rp : List UInt8) (ng : Bool) (w : World) (X : Nat)
    (hlong : ¬ 64 < l.length) (hA0 : ¬ A = []) (hA2 : 0 < A.length) (hB3 : 0 < B.length) (hB4 : ¬ B = []) (hB6 : B.length ≤ 6) (hB6I : (B.length : Int) ≤ 6) (hA3 : A'.length ≤ 3) (hrl : rp.length ≤ 6)
    (hA3I : (A'.length : Int) ≤ 3) (hrlI : (rp.length : Int) ≤ 6)
    (z1 : ∀ W, Calls Tryz.prog 45 #[tx l, .string ⟨#[45]⟩] W fun e w' => e = .returned (.tuple #[tx b, .bool ng]) ∧ w' = W)
    (z2 : ∀ W, Calls Tryz.prog 46 #[tx b, .string ⟨#[46]⟩] W fun e w' => e = .returned (.tuple #[tx A, tx B, .bool true]) ∧ Below W.heap.size W w')
    (z3 : ∀ W, Calls Tryz.prog 47 #[tx A] W fun e w' => e = .returned (.tuple #[tx [], .bool true]) ∧ Below W.heap.size W w')
    (z4 : ∀ W, Calls Tryz.prog 47 #[tx B] W fun e w' => e = .returned (.tuple #[tx [], .bool true]) ∧ Below W.heap.size W w')
    (z5 : ∀ W, Calls Tryz.prog 48 #[tx A, .string ⟨#[48]⟩] W fun e w' => e = .returned (tx A') ∧ Below W.heap.size W w')
    (z6 : ∀ W, Calls Tryz.prog 50 #[.string ⟨#[48]⟩, .int .i64 (6 - (B.length : Int))] W fun e w' => e = .returned (tx rp) ∧ Below W.heap.size W w')
    (z7 : ∀ W, Calls Tryz.prog 49 #[.string ((({ data := #[48] } : ByteArray) ++ { data := A'.toArray }) ++ { data := (B).toArray } ++ { data := rp.toArray })] W fun e w' => e = .returned (.tuple #[.int .i64 (X : Int), .nilIface]) ∧ (w' = W ∨ ∃ t, w' = bytesWorld W 5 t)) :
    Calls Tryz.prog 29 #[tx l] w fun e w' => e = .returned (.tuple #[.int .i32 (if (X : Int) > 180000000 then 0 else if ng then -(X : Int) else X), .int .i64 (if (X : Int) > 180000000 then 21 else 0)]) ∧ Below w.heap.size w w' := by
  by_cases hX1 : (X : Int) > 180000000
  · rw [if_pos hX1, if_pos hX1]
    go_enter Tryz.func29, Tryz.ntmps29
    go_wp2_with (first | (go_at_call 45; with_reducible refine (z1 _).mono ?_; rintro e w5 ⟨rfl, rfl⟩) | (go_at_call 46; with_reducible refine (z2 _).mono ?_; rintro e w6 ⟨rfl, h6⟩; have H6 := Lib.hid h6; clear h6) | (go_at_call 47; with_reducible refine (z3 _).mono ?_; rintro e w7 ⟨rfl, h7⟩; have H7 := Lib.hid (H6.out.trans (h7.mono H6.out.size)); clear h7) | (go_at_call 47; with_reducible refine (z4 _).mono ?_; rintro e w8 ⟨rfl, h8⟩; have H8 := Lib.hid (H7.out.trans (h8.mono H7.out.size)); clear h8) | (go_at_call 48; with_reducible refine (z5 _).mono ?_; rintro e w9 ⟨rfl, h9⟩; have H9 := Lib.hid (H8.out.trans (h9.mono H8.out.size)); clear h9) | (go_at_call 50; with_reducible refine (z6 _).mono ?_; rintro e w10 ⟨rfl, h10⟩; have H10 := Lib.hid (H9.out.trans (h10.mono H9.out.size)); clear h10) | (go_at_call 49; with_reducible refine (z7 _).mono ?_; rintro e w11 ⟨rfl, h11⟩; have H11 := Lib.hid (bw_below H10.out h11); clear h11))
    exact bodyPost_ret (results_tmp2 rfl _ _ _) rfl ⟨rfl, H11.out⟩
  · rw [if_neg hX1, if_neg hX1]
    cases ng
    · go_enter Tryz.func29, Tryz.ntmps29
      go_wp2_with (first | (go_at_call 45; with_reducible refine (z1 _).mono ?_; rintro e w5 ⟨rfl, rfl⟩) | (go_at_call 46; with_reducible refine (z2 _).mono ?_; rintro e w6 ⟨rfl, h6⟩; have H6 := Lib.hid h6; clear h6) | (go_at_call 47; with_reducible refine (z3 _).mono ?_; rintro e w7 ⟨rfl, h7⟩; have H7 := Lib.hid (H6.out.trans (h7.mono H6.out.size)); clear h7) | (go_at_call 47; with_reducible refine (z4 _).mono ?_; rintro e w8 ⟨rfl, h8⟩; have H8 := Lib.hid (H7.out.trans (h8.mono H7.out.size)); clear h8) | (go_at_call 48; with_reducible refine (z5 _).mono ?_; rintro e w9 ⟨rfl, h9⟩; have H9 := Lib.hid (H8.out.trans (h9.mono H8.out.size)); clear h9) | (go_at_call 50; with_reducible refine (z6 _).mono ?_; rintro e w10 ⟨rfl, h10⟩; have H10 := Lib.hid (H9.out.trans (h10.mono H9.out.size)); clear h10) | (go_at_call 49; with_reducible refine (z7 _).mono ?_; rintro e w11 ⟨rfl, h11⟩; have H11 := Lib.hid (bw_below H10.out h11); clear h11))
      exact bodyPost_ret (results_tmp2 rfl _ _ _) rfl ⟨rfl, H11.out⟩
    · go_enter Tryz.func29, Tryz.ntmps29
      go_wp2_with (first | (go_at_call 45; with_reducible refine (z1 _).mono ?_; rintro e w5 ⟨rfl, rfl⟩) | (go_at_call 46; with_reducible refine (z2 _).mono ?_; rintro e w6 ⟨rfl, h6⟩; have H6 := Lib.hid h6; clear h6) | (go_at_call 47; with_reducible refine (z3 _).mono ?_; rintro e w7 ⟨rfl, h7⟩; have H7 := Lib.hid (H6.out.trans (h7.mono H6.out.size)); clear h7) | (go_at_call 47; with_reducible refine (z4 _).mono ?_; rintro e w8 ⟨rfl, h8⟩; have H8 := Lib.hid (H7.out.trans (h8.mono H7.out.size)); clear h8) | (go_at_call 48; with_reducible refine (z5 _).mono ?_; rintro e w9 ⟨rfl, h9⟩; have H9 := Lib.hid (H8.out.trans (h9.mono H8.out.size)); clear h9) | (go_at_call 50; with_reducible refine (z6 _).mono ?_; rintro e w10 ⟨rfl, h10⟩; have H10 := Lib.hid (H9.out.trans (h10.mono H9.out.size)); clear h10) | (go_at_call 49; with_reducible refine (z7 _).mono ?_; rintro e w11 ⟨rfl, h11⟩; have H11 := Lib.hid (bw_below H10.out h11); clear h11))
      exact bodyPost_ret (results_tmp2 rfl _ _ _) rfl ⟨rfl, H11.out⟩
set_option maxHeartbeats 16000000 in
set_option maxRecDepth 20000 in
theorem tail_no (l b A A' rp : List UInt8) (ng : Bool) (w : World) (X : Nat)
    (hlong : ¬ 64 < l.length) (hA0 : ¬ A = []) (hA2 : 0 < A.length)  (hA3 : A'.length ≤ 3) (hrl : rp.length ≤ 6)
    (hA3I : (A'.length : Int) ≤ 3) (hrlI : (rp.length : Int) ≤ 6)
    (z1 : ∀ W, Calls Tryz.prog 45 #[tx l, .string ⟨#[45]⟩] W fun e w' => e = .returned (.tuple #[tx b, .bool ng]) ∧ w' = W)
    (z2 : ∀ W, Calls Tryz.prog 46 #[tx b, .string ⟨#[46]⟩] W fun e w' => e = .returned (.tuple #[tx A, tx ([] : List UInt8), .bool false]) ∧ Below W.heap.size W w')
    (z3 : ∀ W, Calls Tryz.prog 47 #[tx A] W fun e w' => e = .returned (.tuple #[tx [], .bool true]) ∧ Below W.heap.size W w')
    (z4 : ∀ W, Calls Tryz.prog 47 #[tx ([] : List UInt8)] W fun e w' => e = .returned (.tuple #[tx [], .bool false]) ∧ Below W.heap.size W w')
    (z5 : ∀ W, Calls Tryz.prog 48 #[tx A, .string ⟨#[48]⟩] W fun e w' => e = .returned (tx A') ∧ Below W.heap.size W w')
    (z6 : ∀ W, Calls Tryz.prog 50 #[.string ⟨#[48]⟩, .int .i64 6] W fun e w' => e = .returned (tx rp) ∧ Below W.heap.size W w')
    (z7 : ∀ W, Calls Tryz.prog 49 #[.string ((({ data := #[48] } : ByteArray) ++ { data := A'.toArray }) ++ { data := (([] : List UInt8)).toArray } ++ { data := rp.toArray })] W fun e w' => e = .returned (.tuple #[.int .i64 (X : Int), .nilIface]) ∧ (w' = W ∨ ∃ t, w' = bytesWorld W 5 t)) :
    Calls Tryz.prog 29 #[tx l] w fun e w' => e = .returned (.tuple #[.int .i32 (if (X : Int) > 180000000 then 0 else if ng then -(X : Int) else X), .int .i64 (if (X : Int) > 180000000 then 21 else 0)]) ∧ Below w.heap.size w w' := by
  by_cases hX1 : (X : Int) > 180000000
  · rw [if_pos hX1, if_pos hX1]
    go_enter Tryz.func29, Tryz.ntmps29
    go_wp2_with (first | (go_at_call 45; with_reducible refine (z1 _).mono ?_; rintro e w5 ⟨rfl, rfl⟩) | (go_at_call 46; with_reducible refine (z2 _).mono ?_; rintro e w6 ⟨rfl, h6⟩; have H6 := Lib.hid h6; clear h6) | (go_at_call 47; with_reducible refine (z3 _).mono ?_; rintro e w7 ⟨rfl, h7⟩; have H7 := Lib.hid (H6.out.trans (h7.mono H6.out.size)); clear h7) | (go_at_call 47; with_reducible refine (z4 _).mono ?_; rintro e w8 ⟨rfl, h8⟩; have H8 := Lib.hid (H7.out.trans (h8.mono H7.out.size)); clear h8) | (go_at_call 48; with_reducible refine (z5 _).mono ?_; rintro e w9 ⟨rfl, h9⟩; have H9 := Lib.hid (H8.out.trans (h9.mono H8.out.size)); clear h9) | (go_at_call 50; with_reducible refine (z6 _).mono ?_; rintro e w10 ⟨rfl, h10⟩; have H10 := Lib.hid (H9.out.trans (h10.mono H9.out.size)); clear h10) | (go_at_call 49; with_reducible refine (z7 _).mono ?_; rintro e w11 ⟨rfl, h11⟩; have H11 := Lib.hid (bw_below H10.out h11); clear h11))
    exact bodyPost_ret (results_tmp2 rfl _ _ _) rfl ⟨rfl, H11.out⟩
  · rw [if_neg hX1, if_neg hX1]
    cases ng
    · go_enter Tryz.func29, Tryz.ntmps29
      go_wp2_with (first | (go_at_call 45; with_reducible refine (z1 _).mono ?_; rintro e w5 ⟨rfl, rfl⟩) | (go_at_call 46; with_reducible refine (z2 _).mono ?_; rintro e w6 ⟨rfl, h6⟩; have H6 := Lib.hid h6; clear h6) | (go_at_call 47; with_reducible refine (z3 _).mono ?_; rintro e w7 ⟨rfl, h7⟩; have H7 := Lib.hid (H6.out.trans (h7.mono H6.out.size)); clear h7) | (go_at_call 47; with_reducible refine (z4 _).mono ?_; rintro e w8 ⟨rfl, h8⟩; have H8 := Lib.hid (H7.out.trans (h8.mono H7.out.size)); clear h8) | (go_at_call 48; with_reducible refine (z5 _).mono ?_; rintro e w9 ⟨rfl, h9⟩; have H9 := Lib.hid (H8.out.trans (h9.mono H8.out.size)); clear h9) | (go_at_call 50; with_reducible refine (z6 _).mono ?_; rintro e w10 ⟨rfl, h10⟩; have H10 := Lib.hid (H9.out.trans (h10.mono H9.out.size)); clear h10) | (go_at_call 49; with_reducible refine (z7 _).mono ?_; rintro e w11 ⟨rfl, h11⟩; have H11 := Lib.hid (bw_below H10.out h11); clear h11))
      exact bodyPost_ret (results_tmp2 rfl _ _ _) rfl ⟨rfl, H11.out⟩
    · go_enter Tryz.func29, Tryz.ntmps29
      go_wp2_with (first | (go_at_call 45; with_reducible refine (z1 _).mono ?_; rintro e w5 ⟨rfl, rfl⟩) | (go_at_call 46; with_reducible refine (z2 _).mono ?_; rintro e w6 ⟨rfl, h6⟩; have H6 := Lib.hid h6; clear h6) | (go_at_call 47; with_reducible refine (z3 _).mono ?_; rintro e w7 ⟨rfl, h7⟩; have H7 := Lib.hid (H6.out.trans (h7.mono H6.out.size)); clear h7) | (go_at_call 47; with_reducible refine (z4 _).mono ?_; rintro e w8 ⟨rfl, h8⟩; have H8 := Lib.hid (H7.out.trans (h8.mono H7.out.size)); clear h8) | (go_at_call 48; with_reducible refine (z5 _).mono ?_; rintro e w9 ⟨rfl, h9⟩; have H9 := Lib.hid (H8.out.trans (h9.mono H8.out.size)); clear h9) | (go_at_call 50; with_reducible refine (z6 _).mono ?_; rintro e w10 ⟨rfl, h10⟩; have H10 := Lib.hid (H9.out.trans (h10.mono H9.out.size)); clear h10) | (go_at_call 49; with_reducible refine (z7 _).mono ?_; rintro e w11 ⟨rfl, h11⟩; have H11 := Lib.hid (bw_below H10.out h11); clear h11))
      exact bodyPost_ret (results_tmp2 rfl _ _ _) rfl ⟨rfl, H11.out⟩
end Dg
end Go.Proofs.YtdhelpbhbhihaaaGreatDoor
