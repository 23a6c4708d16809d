/-
  DgF: the package's reading of millionths.
-/
import Derived.Test.YtdhelpbhbhihaaaGreatDoorDgT
namespace Go.Proofs.YtdhelpbhbhihaaaGreatDoor
open Go.RowKit Go.Shelf Go.Lib
set_option linter.unusedVariables false
set_option linter.unusedSimpArgs false
attribute [local go_sem] Oper.semAt_some
namespace Dg
open Mem
theorem cut_t (l : List UInt8) (hl : l.length ≤ 64) (w : World) : Calls Tryz.prog 46 #[tx l, .string ⟨#[46]⟩] w fun e w' => e = .returned (.tuple #[tx (cutA l), tx ((cutR l).drop 1), .bool (decide (cutR l ≠ []))]) ∧ Below w.heap.size w w' := by
  have c1 := lcut_t l hl w
  generalize (cutR l).drop 1 = x at c1 ⊢
  generalize decide (cutR l ≠ []) = p at c1 ⊢
  go_enter Tryz.func46, Tryz.ntmps46
  go_wp2_with (go_at_call 64; with_reducible refine c1.mono ?_; rintro e w5 ⟨rfl, hk⟩)
  exact bodyPost_ret (results_tmp3 rfl _ _ _) rfl ⟨rfl, hk.below (Nat.le_refl _) (fun _ _ h => h)⟩
theorem body_len (l : List UInt8) : (body l).length ≤ l.length := by
  unfold body
  split
  · simp
  · omega
theorem drop_all {A : List UInt8} (h : A.all isD = true) : A.dropWhile isD = [] := by
  induction A with
  | nil => rfl
  | cons a A ih =>
    rw [List.all_cons, Bool.and_eq_true] at h
    rw [List.dropWhile_cons, if_pos h.1, ih h.2]
theorem drop_some {A : List UInt8} (h : A.all isD = false) : A.dropWhile isD ≠ [] := by
  induction A with
  | nil => simp at h
  | cons a A ih =>
    rw [List.all_cons] at h
    rw [List.dropWhile_cons]
    by_cases ha : isD a = true
    · rw [if_pos ha]; rw [ha, Bool.true_and] at h; exact ih h
    · rw [if_neg ha]; simp
theorem num_all_ge {B : List UInt8} (h : B.all isD = true) (v : Nat) : v * 10 ^ B.length ≤ num v B := by
  induction B generalizing v with
  | nil => simp [num_nil]
  | cons b B ih =>
    rw [List.all_cons, Bool.and_eq_true] at h
    rw [num_cons, if_pos h.1, List.length_cons, Nat.pow_succ]
    refine Nat.le_trans ?_ (ih h.2 _)
    have : v * (10 ^ B.length * 10) = v * 10 * 10 ^ B.length := by rw [Nat.mul_assoc, Nat.mul_comm 10]
    rw [this]
    exact Nat.mul_le_mul_right _ (Nat.le_add_right _ _)
theorem mic_over {A B : List UInt8} (h : B.all isD = true) (h6 : B.length ≤ 6) (hA : 1000 ≤ num 0 A) : 180000000 < micV A B := by
  unfold micV
  have h1 := Nat.mul_le_mul_right (10 ^ (6 - B.length)) (num_all_ge h (num 0 A))
  rw [Nat.mul_assoc, ← Nat.pow_add, Nat.add_sub_of_le h6] at h1
  omega

set_option maxHeartbeats 16000000 in
set_option maxRecDepth 20000 in
theorem micro_t (l : List UInt8) (w : World) : Calls Tryz.prog 29 #[tx l] w fun e w' => e = .returned (.tuple #[.int .i32 (mic l).1, .int .i64 (mic l).2]) ∧ Below w.heap.size w w' := by
  by_cases hlong : 64 < l.length
  · have e : mic l = (0, 4) := by unfold mic; rw [if_pos hlong]
    rw [e]
    go_enter Tryz.func29, Tryz.ntmps29
    go_wp2
    exact bodyPost_ret (results_tmp2 rfl _ _ _) rfl ⟨rfl, Below.refl _ _⟩
  · have hl64 : l.length ≤ 64 := by omega
    have hbl := body_len l
    have z1 := fun W => pre_t l W
    have z2 := fun W => cut_t (body l) (by omega) W
    have z3 := fun W => dig_t (cutA (body l)) W
    have z4 := fun W => dig_t ((cutR (body l)).drop 1) W
    have hmb := fun h => mic_bad (t := l) hl64 h
    have hmn := fun h0 h hr => mic_none (t := l) hl64 h0 h hr
    have hms := fun B h0 h hr => mic_some (t := l) (B := B) hl64 h0 h hr
    have hca := congrArg List.length (cut_app (body l))
    rw [List.length_append] at hca
    have hch := cutR_head (body l)
    obtain ⟨ng, hng⟩ : ∃ ng, ng = negOf l := ⟨_, rfl⟩
    rw [← hng] at z1 hmn hms
    generalize body l = b at z1 z2 z3 z4 hmb hmn hms hca hch hbl
    generalize cutA b = A at z2 z3 hmb hmn hms hca
    generalize cutR b = R at z2 z4 hmn hms hca hch
    obtain ⟨Bq, hBq⟩ : ∃ Bq, Bq = R.drop 1 := ⟨_, rfl⟩
    obtain ⟨pt, hpt⟩ : ∃ pt, pt = decide (R ≠ []) := ⟨_, rfl⟩
    rw [← hBq] at z2 z4
    rw [← hpt] at z2
    obtain ⟨r, hr⟩ : ∃ r, r = mic l := ⟨_, rfl⟩
    rw [← hr]
    rw [← hr] at hmb hmn hms
    clear hng hr
    by_cases hA0 : A = []
    · rw [hmb (.inl hA0)]
      subst hA0
      clear hmb hmn hms hca hch
      go_enter Tryz.func29, Tryz.ntmps29
      go_wp2_with (first | (go_at_call 45; with_reducible refine (z1 _).mono ?_; rintro e w5 ⟨rfl, rfl⟩) | (go_at_call 46; with_reducible refine (z2 _).mono ?_; rintro e w6 ⟨rfl, h6⟩; have H6 := Lib.hid h6; clear h6) | (go_at_call 47; with_reducible refine (z3 _).mono ?_; rintro e w7 ⟨rfl, h7⟩; have H7 := Lib.hid (H6.out.trans (h7.mono H6.out.size)); clear h7))
      exact bodyPost_ret (results_tmp2 rfl _ _ _) rfl ⟨rfl, H7.out⟩
    cases hA1 : A.all isD with
    | false =>
      rw [hmb (.inr hA1)]
      have hd := drop_some hA1
      generalize A.dropWhile isD = dA at z3 hd
      have hd2 : ¬ [] = dA := fun e => hd e.symm
      have hd3 : dA.isEmpty = false := by simpa using hd
      clear hmb hmn hms hca hch hA1
      by_cases hk : dA.length < A.length
      all_goals
        go_enter Tryz.func29, Tryz.ntmps29
        go_wp2_with (first | (go_at_call 45; with_reducible refine (z1 _).mono ?_; rintro e w5 ⟨rfl, rfl⟩) | (go_at_call 46; with_reducible refine (z2 _).mono ?_; rintro e w6 ⟨rfl, h6⟩; have H6 := Lib.hid h6; clear h6) | (go_at_call 47; with_reducible refine (z3 _).mono ?_; rintro e w7 ⟨rfl, h7⟩; have H7 := Lib.hid (H6.out.trans (h7.mono H6.out.size)); clear h7))
        exact bodyPost_ret (results_tmp2 rfl _ _ _) rfl ⟨rfl, H7.out⟩
    | true =>
      rw [drop_all hA1] at z3
      have hA2 : 0 < A.length := List.length_pos_iff.2 hA0
      rcases hch with rfl | ⟨B, rfl⟩
      · have hfin := hmn hA0 hA1 rfl
        have hB1 : ([] : List UInt8).all isD = true := rfl
        have hB6 : ([] : List UInt8).length ≤ 6 := by simp
        have e1 : Bq = [] := hBq
        have e2 : pt = false := by rw [hpt]; simp
        subst e1
        subst e2
        clear hBq hpt
        have z4 : ∀ W, Calls Tryz.prog 47 #[tx []] W fun e w' => e = .returned (.tuple #[tx [], .bool false]) ∧ Below W.heap.size W w' := z4
        have hall3 := num_zeros A
        have hdz := dropZ_all hA1
        have hdh := dropZ_head A
        have z5 : ∀ W, Calls Tryz.prog 48 #[tx A, .string ⟨#[48]⟩] W fun e w' => e = .returned (tx (A.dropWhile fun b => ([48] : List UInt8).contains b)) ∧ Below W.heap.size W w' := fun W => tl0_t ⟨A.toArray⟩ W
        have hsub := (List.dropWhile_sublist (l := A) (fun b => ([48] : List UInt8).contains b)).length_le
        generalize (A.dropWhile fun b => ([48] : List UInt8).contains b) = A' at hall3 hdz hdh z5 hsub
        have hmv : micV A' ([] : List UInt8) = micV A ([] : List UInt8) := by unfold micV; rw [hall3]
        by_cases h3 : 3 < A'.length
        · have hbig := num_big hdz hdh h3
          have hr2 : r = (0, 21) := by
            rw [hfin]
            refine fin_big (mic_over hB1 hB6 (by rw [← hall3]; exact hbig))
          rw [hr2]
          clear hall3 hdz hdh hmv hbig hr2 hfin hA1 hms hmn hmb hca
          go_enter Tryz.func29, Tryz.ntmps29
          go_wp2_with (first | (go_at_call 45; with_reducible refine (z1 _).mono ?_; rintro e w5 ⟨rfl, rfl⟩) | (go_at_call 46; with_reducible refine (z2 _).mono ?_; rintro e w6 ⟨rfl, h6⟩; have H6 := Lib.hid h6; clear h6) | (go_at_call 47; with_reducible refine (z3 _).mono ?_; rintro e w7 ⟨rfl, h7⟩; have H7 := Lib.hid (H6.out.trans (h7.mono H6.out.size)); clear h7) | (go_at_call 47; with_reducible refine (z4 _).mono ?_; rintro e w8 ⟨rfl, h8⟩; have H8 := Lib.hid (H7.out.trans (h8.mono H7.out.size)); clear h8) | (go_at_call 48; with_reducible refine (z5 _).mono ?_; rintro e w9 ⟨rfl, h9⟩; have H9 := Lib.hid (H8.out.trans (h9.mono H8.out.size)); clear h9))
          exact bodyPost_ret (results_tmp2 rfl _ _ _) rfl ⟨rfl, H9.out⟩
        · have hat := atoi_mic (A := A') (B := ([] : List UInt8)) hdz hB1 (by omega) hB6
          rw [hmv] at hat
          have z6 := fun W => rep_t (6 - ([] : List UInt8).length) (by omega) W
          have hcat : ((({ data := #[48] } : ByteArray) ++ { data := A'.toArray }) ++ { data := (([] : List UInt8) : List UInt8).toArray } ++ { data := (repeatL [48] (6 - ([] : List UInt8).length)).toArray }).data.toList = 48 :: (A' ++ ([] : List UInt8) ++ repeatL [48] (6 - ([] : List UInt8).length)) := by simp
          have hrl := repeatL_length [48] (6 - ([] : List UInt8).length)
          have hA3 : A'.length ≤ 3 := by omega
          have e6 : ((6 - ([] : List UInt8).length : Nat) : Int) = 6 := rfl
          rw [List.length_singleton, Nat.mul_one] at hrl
          rw [e6] at z6
          clear e6
          have hsz : ((({ data := #[48] } : ByteArray) ++ { data := A'.toArray }) ++ { data := (([] : List UInt8) : List UInt8).toArray } ++ { data := (repeatL [48] (6 - ([] : List UInt8).length)).toArray }).size ≤ 1000 := by
            have h := congrArg List.length hcat
            rw [List.length_cons, List.length_append, List.length_append, hrl] at h
            have h2 : ∀ s : ByteArray, s.data.toList.length = s.size := fun s => rfl
            rw [h2] at h
            omega
          have z7 := fun W => atoi_t _ hsz ((micV A ([] : List UInt8) : Nat) : Int) (by rw [hcat]; exact hat.1) W
          have z3b := z3
          rw [show decide (([] : List UInt8).length < A.length) = true from decide_eq_true hA2] at z3b
          have z4b := z4
          skip
          have hT := tail_no l b A A' (repeatL [48] (6 - ([] : List UInt8).length)) ng w (micV A ([] : List UInt8)) hlong hA0 hA2  hA3 (by omega) (by omega) (by omega) z1 z2 z3b z4b z5 z6 z7
          rw [hfin]
          by_cases hX1 : ((micV A ([] : List UInt8) : Nat) : Int) > 180000000
          · rw [if_pos hX1, if_pos hX1] at hT
            rw [fin_big (by omega)]
            exact hT
          · rw [if_neg hX1, if_neg hX1] at hT
            rw [fin_ok (by omega)]
            exact hT
      · have hms2 := hms B hA0 hA1 rfl
        have e1 : Bq = B := hBq
        have e2 : pt = true := by rw [hpt]; simp
        subst e2
        rw [e1] at z2 z4
        clear e1 hBq hpt
        by_cases hB0 : B = []
        · rw [hms2, if_neg (fun h => h.1 hB0)]
          subst hB0
          clear hmb hmn hms hca hA1 hms2
          go_enter Tryz.func29, Tryz.ntmps29
          go_wp2_with (first | (go_at_call 45; with_reducible refine (z1 _).mono ?_; rintro e w5 ⟨rfl, rfl⟩) | (go_at_call 46; with_reducible refine (z2 _).mono ?_; rintro e w6 ⟨rfl, h6⟩; have H6 := Lib.hid h6; clear h6) | (go_at_call 47; with_reducible refine (z3 _).mono ?_; rintro e w7 ⟨rfl, h7⟩; have H7 := Lib.hid (H6.out.trans (h7.mono H6.out.size)); clear h7) | (go_at_call 47; with_reducible refine (z4 _).mono ?_; rintro e w8 ⟨rfl, h8⟩; have H8 := Lib.hid (H7.out.trans (h8.mono H7.out.size)); clear h8))
          exact bodyPost_ret (results_tmp2 rfl _ _ _) rfl ⟨rfl, H8.out⟩
        cases hB1 : B.all isD with
        | false =>
          rw [hms2, if_neg (fun h => by rw [hB1] at h; cases h.2.1)]
          have hd := drop_some hB1
          generalize B.dropWhile isD = dB at z4 hd
          have hd2 : ¬ [] = dB := fun e => hd e.symm
          have hd3 : dB.isEmpty = false := by simpa using hd
          clear hmb hmn hms hca hA1 hB1 hms2
          by_cases hk : dB.length < B.length
          all_goals
            go_enter Tryz.func29, Tryz.ntmps29
            go_wp2_with (first | (go_at_call 45; with_reducible refine (z1 _).mono ?_; rintro e w5 ⟨rfl, rfl⟩) | (go_at_call 46; with_reducible refine (z2 _).mono ?_; rintro e w6 ⟨rfl, h6⟩; have H6 := Lib.hid h6; clear h6) | (go_at_call 47; with_reducible refine (z3 _).mono ?_; rintro e w7 ⟨rfl, h7⟩; have H7 := Lib.hid (H6.out.trans (h7.mono H6.out.size)); clear h7) | (go_at_call 47; with_reducible refine (z4 _).mono ?_; rintro e w8 ⟨rfl, h8⟩; have H8 := Lib.hid (H7.out.trans (h8.mono H7.out.size)); clear h8))
            exact bodyPost_ret (results_tmp2 rfl _ _ _) rfl ⟨rfl, H8.out⟩
        | true =>
          rw [drop_all hB1] at z4
          have hB2 : 0 < B.length := List.length_pos_iff.2 hB0
          by_cases hB6 : B.length ≤ 6
          · have hfin := hms2
            rw [if_pos ⟨hB0, hB1, hB6⟩] at hfin
            have hall3 := num_zeros A
            have hdz := dropZ_all hA1
            have hdh := dropZ_head A
            have z5 : ∀ W, Calls Tryz.prog 48 #[tx A, .string ⟨#[48]⟩] W fun e w' => e = .returned (tx (A.dropWhile fun b => ([48] : List UInt8).contains b)) ∧ Below W.heap.size W w' := fun W => tl0_t ⟨A.toArray⟩ W
            have hsub := (List.dropWhile_sublist (l := A) (fun b => ([48] : List UInt8).contains b)).length_le
            generalize (A.dropWhile fun b => ([48] : List UInt8).contains b) = A' at hall3 hdz hdh z5 hsub
            have hmv : micV A' B = micV A B := by unfold micV; rw [hall3]
            by_cases h3 : 3 < A'.length
            · have hbig := num_big hdz hdh h3
              have hr2 : r = (0, 21) := by
                rw [hfin]
                refine fin_big (mic_over hB1 hB6 (by rw [← hall3]; exact hbig))
              rw [hr2]
              clear hall3 hdz hdh hmv hbig hr2 hfin hA1 hms hmn hmb hca
              go_enter Tryz.func29, Tryz.ntmps29
              go_wp2_with (first | (go_at_call 45; with_reducible refine (z1 _).mono ?_; rintro e w5 ⟨rfl, rfl⟩) | (go_at_call 46; with_reducible refine (z2 _).mono ?_; rintro e w6 ⟨rfl, h6⟩; have H6 := Lib.hid h6; clear h6) | (go_at_call 47; with_reducible refine (z3 _).mono ?_; rintro e w7 ⟨rfl, h7⟩; have H7 := Lib.hid (H6.out.trans (h7.mono H6.out.size)); clear h7) | (go_at_call 47; with_reducible refine (z4 _).mono ?_; rintro e w8 ⟨rfl, h8⟩; have H8 := Lib.hid (H7.out.trans (h8.mono H7.out.size)); clear h8) | (go_at_call 48; with_reducible refine (z5 _).mono ?_; rintro e w9 ⟨rfl, h9⟩; have H9 := Lib.hid (H8.out.trans (h9.mono H8.out.size)); clear h9))
              exact bodyPost_ret (results_tmp2 rfl _ _ _) rfl ⟨rfl, H9.out⟩
            · have hat := atoi_mic (A := A') (B := B) hdz hB1 (by omega) hB6
              rw [hmv] at hat
              have z6 := fun W => rep_t (6 - B.length) (by omega) W
              have hcat : ((({ data := #[48] } : ByteArray) ++ { data := A'.toArray }) ++ { data := (B : List UInt8).toArray } ++ { data := (repeatL [48] (6 - B.length)).toArray }).data.toList = 48 :: (A' ++ B ++ repeatL [48] (6 - B.length)) := by simp
              have hrl := repeatL_length [48] (6 - B.length)
              have hA3 : A'.length ≤ 3 := by omega
              have e6 : ((6 - B.length : Nat) : Int) = 6 - (B.length : Int) := by omega
              rw [List.length_singleton, Nat.mul_one] at hrl
              rw [e6] at z6
              clear e6
              have hsz : ((({ data := #[48] } : ByteArray) ++ { data := A'.toArray }) ++ { data := (B : List UInt8).toArray } ++ { data := (repeatL [48] (6 - B.length)).toArray }).size ≤ 1000 := by
                have h := congrArg List.length hcat
                rw [List.length_cons, List.length_append, List.length_append, hrl] at h
                have h2 : ∀ s : ByteArray, s.data.toList.length = s.size := fun s => rfl
                rw [h2] at h
                omega
              have z7 := fun W => atoi_t _ hsz ((micV A B : Nat) : Int) (by rw [hcat]; exact hat.1) W
              have z3b := z3
              rw [show decide (([] : List UInt8).length < A.length) = true from decide_eq_true hA2] at z3b
              have z4b := z4
              rw [show decide (([] : List UInt8).length < B.length) = true from decide_eq_true hB2] at z4b
              have hT := tail_pt l b A B A' (repeatL [48] (6 - B.length)) ng w (micV A B) hlong hA0 hA2 hB2 hB0 hB6 (by omega) hA3 (by omega) (by omega) (by omega) z1 z2 z3b z4b z5 z6 z7
              rw [hfin]
              by_cases hX1 : ((micV A B : Nat) : Int) > 180000000
              · rw [if_pos hX1, if_pos hX1] at hT
                rw [fin_big (by omega)]
                exact hT
              · rw [if_neg hX1, if_neg hX1] at hT
                rw [fin_ok (by omega)]
                exact hT
          · rw [hms2, if_neg (fun h => hB6 h.2.2)]
            clear hmb hmn hms hca hA1 hB1 hms2
            go_enter Tryz.func29, Tryz.ntmps29
            go_wp2_with (first | (go_at_call 45; with_reducible refine (z1 _).mono ?_; rintro e w5 ⟨rfl, rfl⟩) | (go_at_call 46; with_reducible refine (z2 _).mono ?_; rintro e w6 ⟨rfl, h6⟩; have H6 := Lib.hid h6; clear h6) | (go_at_call 47; with_reducible refine (z3 _).mono ?_; rintro e w7 ⟨rfl, h7⟩; have H7 := Lib.hid (H6.out.trans (h7.mono H6.out.size)); clear h7) | (go_at_call 47; with_reducible refine (z4 _).mono ?_; rintro e w8 ⟨rfl, h8⟩; have H8 := Lib.hid (H7.out.trans (h8.mono H7.out.size)); clear h8))
            exact bodyPost_ret (results_tmp2 rfl _ _ _) rfl ⟨rfl, H8.out⟩
end Dg
end Go.Proofs.YtdhelpbhbhihaaaGreatDoor
