/-
  DgB: the document's reading of millionths.
-/
import Derived.Test.YtdhelpbhbhihaaaGreatDoorDgA
namespace Go.Proofs.YtdhelpbhbhihaaaGreatDoor
open Go.RowKit
set_option linter.unusedVariables false
set_option linter.unusedSimpArgs false
attribute [local go_sem] Oper.semAt_some
namespace Dg
open Mem
theorem num_take {l : List UInt8} {i q : Nat} {b : UInt8} (hq : i ≤ q) (h : l[q]? = some b) : num 0 ((l.drop i).take (q + 1 - i)) = if isD b then num 0 ((l.drop i).take (q - i)) * 10 + (b.toNat - 48) else num 0 ((l.drop i).take (q - i)) := by
  have h1 : (l.drop i)[q - i]? = some b := by rw [List.getElem?_drop, show i + (q - i) = q by omega]; exact h
  rw [show q + 1 - i = (q - i) + 1 by omega, List.take_add_one, h1, num_app]
  rfl
theorem num_part (l : List UInt8) (i q : Nat) : num 0 ((l.drop i).take q) ≤ num 0 (l.drop i) := by
  have h : num 0 ((l.drop i).take q ++ (l.drop i).drop q) = num 0 (l.drop i) := by rw [List.take_append_drop]
  rw [num_app] at h
  have := num_ge (num 0 ((l.drop i).take q)) ((l.drop i).drop q)
  omega
theorem head_of (l : List UInt8) : (negOf l = true ∧ l[0]? = some 45) ∨ (negOf l = false ∧ (l.length = 0 ∨ ∃ a, l[0]? = some a ∧ a.toNat ≠ 45)) := by
  cases l with
  | nil => exact .inr ⟨rfl, .inl rfl⟩
  | cons a t =>
    by_cases h : a = 45
    · subst h; exact .inl ⟨rfl, rfl⟩
    · refine .inr ⟨by simp [negOf, h], .inr ⟨a, rfl, fun e => h ?_⟩⟩
      exact UInt8.toNat_inj.1 (by rw [e]; rfl)

set_option maxHeartbeats 16000000 in
set_option maxRecDepth 20000 in
theorem rmicro_t (l : List UInt8) (w : World) : Calls Tryz.prog 30 #[tx l] w fun e w' => e = .returned (.tuple #[.int .i32 (mic l).1, .int .i64 (mic l).2]) ∧ w = w' := by
  by_cases hlong : 64 < l.length
  · have e : mic l = (0, 4) := by unfold mic; rw [if_pos hlong]
    rw [e]
    go_enter Tryz.func30, Tryz.ntmps30
    go_wp2
    exact bodyPost_ret (results_tmp2 rfl _ _ _) rfl ⟨rfl, rfl⟩
  · have hlong : l.length ≤ 64 := by omega
    by_cases hnil : l = []
    · subst hnil
      have e : mic [] = (0, 22) := by decide
      rw [e]
      have z0 : ∀ w, Calls Tryz.prog 51 #[tx [], .int .i64 0] w fun e w' => e = .returned (.int .i64 0) ∧ w = w' := fun w => run_t [] 0 (by simp) (by simp) w
      go_enter Tryz.func30, Tryz.ntmps30
      go_wp2_with (go_at_call 51; with_reducible refine (z0 _).mono ?_; rintro e w5 ⟨rfl, rfl⟩)
      exact bodyPost_ret (results_tmp2 rfl _ _ _) rfl ⟨rfl, rfl⟩
    have hw := mic_way l hlong
    generalize mic l = r at hw ⊢
    rcases head_of l with ⟨hng, ha⟩ | ⟨hng, ha⟩
    · have h45 := byte_at ha
      have hpos : 0 < l.length := (List.getElem?_eq_some_iff.1 ha).1
      have hsg : sg l = 1 := by unfold sg; rw [hng]; rfl
      have hi : 1 ≤ l.length := by omega
      have z1 : ∀ w, Calls Tryz.prog 51 #[tx l, .int .i64 1] w fun e w' => e = .returned (.int .i64 ((1 + rn l 1 : Nat) : Int)) ∧ w = w' := fun w => run_t l 1 hi hlong w
      cases hw with
      | none h0 =>
        rw [hsg] at h0
        rw [h0] at z1
        go_enter Tryz.func30, Tryz.ntmps30
        go_wp2_with (go_at_call 51; with_reducible refine (z1 _).mono ?_; rintro e w5 ⟨rfl, rfl⟩)
        exact bodyPost_ret (results_tmp2 rfl _ _ _) rfl ⟨rfl, rfl⟩
      | plain h0 h1 =>
        rw [hsg] at h0 h1
        rw [hng, hsg]
        generalize hr : fin true (num 0 (l.drop 1) * 10 ^ 6) = r
        have HG := Lib.hid (show r = fin true (num 0 (l.drop 1) * 10 ^ (6 - 0)) from hr.symm)
        rw [h1] at z1
        have hni : 1 < l.length := by omega
        have b1 : ((l.length : Int) == 1) = false := by rw [beq_eq_false_iff_ne]; omega
        have b4 : decide ((64 : Int) < (l.length : Int)) = false := decide_eq_false (by omega)
        clear h0 h1 hr
        go_enter Tryz.func30, Tryz.ntmps30
        go_wp2_with (go_at_call 51; with_reducible refine (z1 _).mono ?_; rintro e w5 ⟨rfl, rfl⟩)
        go_loopw [8, 9] (fun v p wr => ∃ q V : Nat, p = .int .i64 (q : Int) ∧ 1 ≤ q ∧ q ≤ l.length ∧ v = .int .i64 (V : Int) ∧ V = num 0 ((l.drop 1).take (q - 1)) ∧ V ≤ 180000000 ∧ w = wr) (fun _ p _ => l.length - (intOf p).toNat)
        case atStart => exact ⟨1, 0, rfl, by omega, by omega, rfl, by simp [num], by omega, rfl⟩
        case round =>
          obtain ⟨q, V, rfl, hq1, hq2, rfl, hV, hV2, rfl⟩ := hrel
          by_cases hqn : q < l.length
          · obtain ⟨b, hb⟩ : ∃ b, l[q]? = some b := ⟨_, List.getElem?_eq_getElem (by omega)⟩
            have hbj := byte_at hb
            have hd := digit_t b
            have hnt := num_take hq1 hb
            have hpt := num_part l 1 (q + 1 - 1)
            rw [hnt, ← hV] at hpt
            rw [← hV] at hnt
            have HNT := Lib.hid hnt
            have HPT := Lib.hid hpt
            have hqI : (q : Int) < (l.length : Int) := by omega
            cases hD : isD b with
            | true =>
              have hb2 := (isD_iff b).1 hD
              have HD := Lib.hid hD
              rw [hD] at hd
              have i1 : (48 : Int) ≤ (b.toNat : Int) := by omega
              have i2 : (b.toNat : Int) ≤ 57 := by omega
              clear hb hD hnt hpt hV hb2
              by_cases hbig : (V : Int) * 10 + ((b.toNat : Int) - 48) > 180000000
              · go_wp2_with (go_at_call 52; with_reducible refine (hd _).mono ?_; rintro e w5 ⟨rfl, rfl⟩)
                have e := HPT.out
                rw [HD.out, if_pos rfl] at e
                have hp10 := pow_pos10 (6 - 0)
                have e2 : num 0 (l.drop 1) ≤ num 0 (l.drop 1) * 10 ^ (6 - 0) := Nat.le_mul_of_pos_right _ hp10
                have e3 := HG.out
                rw [fin_big (by omega)] at e3
                exact bodyPost_ret (results_tmp2 rfl _ _ _) rfl ⟨by rw [e3]; rfl, rfl⟩
              · go_wp2_with (go_at_call 52; with_reducible refine (hd _).mono ?_; rintro e w5 ⟨rfl, rfl⟩)
                go_roundw
                case rel =>
                  refine ⟨q + 1, V * 10 + (b.toNat - 48), by rw [Int.natCast_add]; rfl, by omega, by omega, by congr 1; omega, ?_, by omega, by first | rfl | trivial⟩
                  rw [HNT.out, HD.out, if_pos rfl]
                case measure => simp only [intOf]; omega
            | false =>
              have HD := Lib.hid hD
              rw [hD] at hd
              clear hb hD hnt hpt hV
              go_wp2_with (go_at_call 52; with_reducible refine (hd _).mono ?_; rintro e w5 ⟨rfl, rfl⟩)
              go_roundw
              case rel =>
                refine ⟨q + 1, V, by rw [Int.natCast_add]; rfl, by omega, by omega, rfl, ?_, by omega, by first | rfl | trivial⟩
                rw [HNT.out, HD.out]
                rfl
              case measure => simp only [intOf]; omega
          · have hqe : q = l.length := by omega
            subst hqe
            have hVf : V = num 0 (l.drop 1) := by rw [hV, List.take_of_length_le (by rw [List.length_drop]; omega)]
            rw [← hVf] at HG
            clear hV hq1 hq2 hqn hVf
            go_wp2
            go_loopw [8, 11] (fun v p wr => ∃ s X : Nat, p = .int .i64 (s : Int) ∧ 0 ≤ s ∧ s ≤ 6 ∧ v = .int .i64 (X : Int) ∧ X = V * 10 ^ (s - 0) ∧ X ≤ 180000000 ∧ w = wr) (fun _ p _ => 6 - (intOf p).toNat)
            case atStart => exact ⟨0, V, by first | rfl | (congr 1; omega), by omega, by omega, rfl, by rw [Nat.sub_self, Nat.pow_zero, Nat.mul_one], hV2, rfl⟩
            case round =>
              obtain ⟨s, X, rfl, hs1, hs2, rfl, hX, hX2, rfl⟩ := hrel
              have HX := Lib.hid hX
              clear hX
              by_cases hs : s < 6
              · have hsI : (s : Int) < 6 := by omega
                by_cases hbig : (X : Int) * 10 > 180000000
                · go_wp2
                  have e0 := HX.out
                  have e1 : V * 10 ^ (s - 0) * 10 ≤ V * 10 ^ (6 - 0) := by
                    rw [Nat.mul_assoc, ← Nat.pow_succ]
                    exact Nat.mul_le_mul_left _ (Nat.pow_le_pow_right (by omega) (by omega))
                  have e3 := HG.out
                  rw [fin_big (by omega)] at e3
                  exact bodyPost_ret (results_tmp2 rfl _ _ _) rfl ⟨by rw [e3]; rfl, rfl⟩
                · go_wp2
                  go_roundw
                  case rel =>
                    refine ⟨s + 1, X * 10, by rw [Int.natCast_add]; rfl, by omega, by omega, by congr 1, ?_, by omega, by first | rfl | trivial⟩
                    rw [HX.out, Nat.mul_assoc, ← Nat.pow_succ]
                    congr 2
                    all_goals omega
                  case measure => simp only [intOf]; omega
              · have hsI : ¬ (s : Int) < 6 := by omega
                have hs6 : s = 6 := by omega
                subst hs6
                have e3 := HG.out
                rw [← HX.out, fin_ok hX2] at e3
                have HE := Lib.hid e3
                clear e3
                go_wp2
                exact bodyPost_ret (results_tmp2 rfl _ _ _) rfl ⟨by rw [HE.out]; simp, rfl⟩
      | other c h0 hc h46 =>
        rw [hsg] at h0 hc
        have hcj := byte_at hc
        obtain ⟨k, hk⟩ : ∃ k, k = 1 + rn l 1 := ⟨_, rfl⟩
        rw [← hk] at z1 hc hcj
        have hkn : k < l.length := by have := (List.getElem?_eq_some_iff.1 hc).1; omega
        have hki : 1 < k := by omega
        have hc2 : c.toNat ≠ 46 := fun e => h46 (UInt8.toNat_inj.1 (by rw [e]; rfl))
        have hc3 : ¬ (c.toNat : Int) = 46 := by omega
        clear h0 hc h46 hk hc2
        go_enter Tryz.func30, Tryz.ntmps30
        go_wp2_with (go_at_call 51; with_reducible refine (z1 _).mono ?_; rintro e w5 ⟨rfl, rfl⟩)
        exact bodyPost_ret (results_tmp2 rfl _ _ _) rfl ⟨rfl, rfl⟩
      | bare h0 hc h1 =>
        rw [hsg] at h0 hc h1
        have hcj := byte_at hc
        obtain ⟨k, hk⟩ : ∃ k, k = 1 + rn l 1 := ⟨_, rfl⟩
        rw [← hk] at z1 hc hcj h1
        have hkn : k < l.length := by have := (List.getElem?_eq_some_iff.1 hc).1; omega
        have hki : 1 < k := by omega
        have z2 : ∀ w, Calls Tryz.prog 51 #[tx l, .int .i64 ((k : Int) + 1)] w fun e w' => e = .returned (.int .i64 ((k + 1 + rn l (k + 1) : Nat) : Int)) ∧ w = w' := fun w => run_t l (k + 1) (by omega) hlong w
        obtain ⟨m, hm⟩ : ∃ m, m = rn l (k + 1) := ⟨_, rfl⟩
        rw [← hm] at z2 h1
        subst h1
        have hmI : True := trivial
        clear h0 hc hk hm
        go_enter Tryz.func30, Tryz.ntmps30
        go_wp2_with (first | (go_at_call 51; with_reducible refine (z1 _).mono ?_; rintro e w5 ⟨rfl, rfl⟩) | (go_at_call 51; with_reducible refine (z2 _).mono ?_; rintro e w5 ⟨rfl, rfl⟩))
        all_goals exact bodyPost_ret (results_tmp2 rfl _ _ _) rfl ⟨rfl, rfl⟩
      | long h0 hc h1 =>
        rw [hsg] at h0 hc h1
        have hcj := byte_at hc
        obtain ⟨k, hk⟩ : ∃ k, k = 1 + rn l 1 := ⟨_, rfl⟩
        rw [← hk] at z1 hc hcj h1
        have hkn : k < l.length := by have := (List.getElem?_eq_some_iff.1 hc).1; omega
        have hki : 1 < k := by omega
        have z2 : ∀ w, Calls Tryz.prog 51 #[tx l, .int .i64 ((k : Int) + 1)] w fun e w' => e = .returned (.int .i64 ((k + 1 + rn l (k + 1) : Nat) : Int)) ∧ w = w' := fun w => run_t l (k + 1) (by omega) hlong w
        obtain ⟨m, hm⟩ : ∃ m, m = rn l (k + 1) := ⟨_, rfl⟩
        rw [← hm] at z2 h1
        skip
        have hmI : (6 : Int) < (m : Int) := by omega
        clear h0 hc hk hm
        go_enter Tryz.func30, Tryz.ntmps30
        go_wp2_with (first | (go_at_call 51; with_reducible refine (z1 _).mono ?_; rintro e w5 ⟨rfl, rfl⟩) | (go_at_call 51; with_reducible refine (z2 _).mono ?_; rintro e w5 ⟨rfl, rfl⟩))
        all_goals exact bodyPost_ret (results_tmp2 rfl _ _ _) rfl ⟨rfl, rfl⟩
      | more h0 hc h1 h2 h3 =>
        rw [hsg] at h0 hc h1 h2 h3
        have hcj := byte_at hc
        obtain ⟨k, hk⟩ : ∃ k, k = 1 + rn l 1 := ⟨_, rfl⟩
        rw [← hk] at z1 hc hcj h1 h2 h3
        have hkn : k < l.length := by have := (List.getElem?_eq_some_iff.1 hc).1; omega
        have hki : 1 < k := by omega
        have z2 : ∀ w, Calls Tryz.prog 51 #[tx l, .int .i64 ((k : Int) + 1)] w fun e w' => e = .returned (.int .i64 ((k + 1 + rn l (k + 1) : Nat) : Int)) ∧ w = w' := fun w => run_t l (k + 1) (by omega) hlong w
        obtain ⟨m, hm⟩ : ∃ m, m = rn l (k + 1) := ⟨_, rfl⟩
        rw [← hm] at z2 h1 h2 h3
        skip
        have hmI : (m : Int) ≤ 6 ∧ 0 < (m : Int) ∧ (k : Int) + 1 + m < l.length := by omega
        clear h0 hc hk hm
        go_enter Tryz.func30, Tryz.ntmps30
        go_wp2_with (first | (go_at_call 51; with_reducible refine (z1 _).mono ?_; rintro e w5 ⟨rfl, rfl⟩) | (go_at_call 51; with_reducible refine (z2 _).mono ?_; rintro e w5 ⟨rfl, rfl⟩))
        all_goals exact bodyPost_ret (results_tmp2 rfl _ _ _) rfl ⟨rfl, rfl⟩
      | point h0 hc h1 h2 h3 =>
        rw [hsg] at h0 hc h1 h2 h3
        rw [hng, hsg]
        have hcj := byte_at hc
        obtain ⟨k, hk⟩ : ∃ k, k = 1 + rn l 1 := ⟨_, rfl⟩
        rw [← hk] at z1 hc hcj h1 h2 h3
        rw [← hk]
        have hkn : k < l.length := by have := (List.getElem?_eq_some_iff.1 hc).1; omega
        have hki : 1 < k := by omega
        have z2 : ∀ w, Calls Tryz.prog 51 #[tx l, .int .i64 ((k : Int) + 1)] w fun e w' => e = .returned (.int .i64 ((k + 1 + rn l (k + 1) : Nat) : Int)) ∧ w = w' := fun w => run_t l (k + 1) (by omega) hlong w
        obtain ⟨m, hm⟩ : ∃ m, m = rn l (k + 1) := ⟨_, rfl⟩
        rw [← hm] at h1 h2 h3
        rw [← hm, h3] at z2
        rw [← hm]
        generalize hr : fin true (num 0 (l.drop 1) * 10 ^ (6 - m)) = r
        have HG := Lib.hid (show r = fin true (num 0 (l.drop 1) * 10 ^ (6 - m)) from hr.symm)
        have hkm : k + 1 + m = l.length := by omega
        have b1 : ((k : Int) == 1) = false := by rw [beq_eq_false_iff_ne]; omega
        have b2 : ((l.length : Int) == (k : Int) + 1) = false := by rw [beq_eq_false_iff_ne]; omega
        have b3 : decide ((k : Int) + 7 < (l.length : Int)) = false := decide_eq_false (by omega)
        have b4 : decide ((64 : Int) < (l.length : Int)) = false := decide_eq_false (by omega)
        have b5 : decide ((k : Int) < (l.length : Int)) = true := decide_eq_true (by omega)
        clear h0 hc hk hm hr h3
        go_enter Tryz.func30, Tryz.ntmps30
        go_wp2_with (first | (go_at_call 51; with_reducible refine (z1 _).mono ?_; rintro e w5 ⟨rfl, rfl⟩) | (go_at_call 51; with_reducible refine (z2 _).mono ?_; rintro e w5 ⟨rfl, rfl⟩))
        go_loopw [8, 9] (fun v p wr => ∃ q V : Nat, p = .int .i64 (q : Int) ∧ 1 ≤ q ∧ q ≤ l.length ∧ v = .int .i64 (V : Int) ∧ V = num 0 ((l.drop 1).take (q - 1)) ∧ V ≤ 180000000 ∧ w = wr) (fun _ p _ => l.length - (intOf p).toNat)
        case atStart => exact ⟨1, 0, rfl, by omega, by omega, rfl, by simp [num], by omega, rfl⟩
        case round =>
          obtain ⟨q, V, rfl, hq1, hq2, rfl, hV, hV2, rfl⟩ := hrel
          by_cases hqn : q < l.length
          · obtain ⟨b, hb⟩ : ∃ b, l[q]? = some b := ⟨_, List.getElem?_eq_getElem (by omega)⟩
            have hbj := byte_at hb
            have hd := digit_t b
            have hnt := num_take hq1 hb
            have hpt := num_part l 1 (q + 1 - 1)
            rw [hnt, ← hV] at hpt
            rw [← hV] at hnt
            have HNT := Lib.hid hnt
            have HPT := Lib.hid hpt
            have hqI : (q : Int) < (l.length : Int) := by omega
            cases hD : isD b with
            | true =>
              have hb2 := (isD_iff b).1 hD
              have HD := Lib.hid hD
              rw [hD] at hd
              have i1 : (48 : Int) ≤ (b.toNat : Int) := by omega
              have i2 : (b.toNat : Int) ≤ 57 := by omega
              clear hb hD hnt hpt hV hb2
              by_cases hbig : (V : Int) * 10 + ((b.toNat : Int) - 48) > 180000000
              · go_wp2_with (go_at_call 52; with_reducible refine (hd _).mono ?_; rintro e w5 ⟨rfl, rfl⟩)
                have e := HPT.out
                rw [HD.out, if_pos rfl] at e
                have hp10 := pow_pos10 (6 - m)
                have e2 : num 0 (l.drop 1) ≤ num 0 (l.drop 1) * 10 ^ (6 - m) := Nat.le_mul_of_pos_right _ hp10
                have e3 := HG.out
                rw [fin_big (by omega)] at e3
                exact bodyPost_ret (results_tmp2 rfl _ _ _) rfl ⟨by rw [e3]; rfl, rfl⟩
              · go_wp2_with (go_at_call 52; with_reducible refine (hd _).mono ?_; rintro e w5 ⟨rfl, rfl⟩)
                go_roundw
                case rel =>
                  refine ⟨q + 1, V * 10 + (b.toNat - 48), by rw [Int.natCast_add]; rfl, by omega, by omega, by congr 1; omega, ?_, by omega, by first | rfl | trivial⟩
                  rw [HNT.out, HD.out, if_pos rfl]
                case measure => simp only [intOf]; omega
            | false =>
              have HD := Lib.hid hD
              rw [hD] at hd
              clear hb hD hnt hpt hV
              go_wp2_with (go_at_call 52; with_reducible refine (hd _).mono ?_; rintro e w5 ⟨rfl, rfl⟩)
              go_roundw
              case rel =>
                refine ⟨q + 1, V, by rw [Int.natCast_add]; rfl, by omega, by omega, rfl, ?_, by omega, by first | rfl | trivial⟩
                rw [HNT.out, HD.out]
                rfl
              case measure => simp only [intOf]; omega
          · have hqe : q = l.length := by omega
            subst hqe
            have hVf : V = num 0 (l.drop 1) := by rw [hV, List.take_of_length_le (by rw [List.length_drop]; omega)]
            rw [← hVf] at HG
            clear hV hq1 hq2 hqn hVf
            go_wp2
            go_loopw [8, 11] (fun v p wr => ∃ s X : Nat, p = .int .i64 (s : Int) ∧ m ≤ s ∧ s ≤ 6 ∧ v = .int .i64 (X : Int) ∧ X = V * 10 ^ (s - m) ∧ X ≤ 180000000 ∧ w = wr) (fun _ p _ => 6 - (intOf p).toNat)
            case atStart => exact ⟨m, V, by first | rfl | (congr 1; omega), by omega, by omega, rfl, by rw [Nat.sub_self, Nat.pow_zero, Nat.mul_one], hV2, rfl⟩
            case round =>
              obtain ⟨s, X, rfl, hs1, hs2, rfl, hX, hX2, rfl⟩ := hrel
              have HX := Lib.hid hX
              clear hX
              by_cases hs : s < 6
              · have hsI : (s : Int) < 6 := by omega
                by_cases hbig : (X : Int) * 10 > 180000000
                · go_wp2
                  have e0 := HX.out
                  have e1 : V * 10 ^ (s - m) * 10 ≤ V * 10 ^ (6 - m) := by
                    rw [Nat.mul_assoc, ← Nat.pow_succ]
                    exact Nat.mul_le_mul_left _ (Nat.pow_le_pow_right (by omega) (by omega))
                  have e3 := HG.out
                  rw [fin_big (by omega)] at e3
                  exact bodyPost_ret (results_tmp2 rfl _ _ _) rfl ⟨by rw [e3]; rfl, rfl⟩
                · go_wp2
                  go_roundw
                  case rel =>
                    refine ⟨s + 1, X * 10, by rw [Int.natCast_add]; rfl, by omega, by omega, by congr 1, ?_, by omega, by first | rfl | trivial⟩
                    rw [HX.out, Nat.mul_assoc, ← Nat.pow_succ]
                    congr 2
                    all_goals omega
                  case measure => simp only [intOf]; omega
              · have hsI : ¬ (s : Int) < 6 := by omega
                have hs6 : s = 6 := by omega
                subst hs6
                have e3 := HG.out
                rw [← HX.out, fin_ok hX2] at e3
                have HE := Lib.hid e3
                clear e3
                go_wp2
                exact bodyPost_ret (results_tmp2 rfl _ _ _) rfl ⟨by rw [HE.out]; simp, rfl⟩
    · rcases ha with ha | ⟨a, ha, ha45⟩
      · exact absurd (List.length_eq_zero_iff.1 ha) hnil
      · have h45 := byte_at ha
        have hpos : 0 < l.length := (List.getElem?_eq_some_iff.1 ha).1
        have ha46 : ¬ (a.toNat : Int) = 45 := by omega
        have hsg : sg l = 0 := by unfold sg; rw [hng]; rfl
        have hi : 0 ≤ l.length := by omega
        have z1 : ∀ w, Calls Tryz.prog 51 #[tx l, .int .i64 0] w fun e w' => e = .returned (.int .i64 ((0 + rn l 0 : Nat) : Int)) ∧ w = w' := fun w => run_t l 0 hi hlong w
        cases hw with
        | none h0 =>
          rw [hsg] at h0
          rw [h0] at z1
          go_enter Tryz.func30, Tryz.ntmps30
          go_wp2_with (go_at_call 51; with_reducible refine (z1 _).mono ?_; rintro e w5 ⟨rfl, rfl⟩)
          exact bodyPost_ret (results_tmp2 rfl _ _ _) rfl ⟨rfl, rfl⟩
        | plain h0 h1 =>
          rw [hsg] at h0 h1
          rw [hng, hsg]
          generalize hr : fin false (num 0 (l.drop 0) * 10 ^ 6) = r
          have HG := Lib.hid (show r = fin false (num 0 (l.drop 0) * 10 ^ (6 - 0)) from hr.symm)
          rw [h1] at z1
          have hni : 0 < l.length := by omega
          have b1 : ((l.length : Int) == 0) = false := by rw [beq_eq_false_iff_ne]; omega
          have b4 : decide ((64 : Int) < (l.length : Int)) = false := decide_eq_false (by omega)
          clear h0 h1 hr
          go_enter Tryz.func30, Tryz.ntmps30
          go_wp2_with (go_at_call 51; with_reducible refine (z1 _).mono ?_; rintro e w5 ⟨rfl, rfl⟩)
          go_loopw [8, 9] (fun v p wr => ∃ q V : Nat, p = .int .i64 (q : Int) ∧ 0 ≤ q ∧ q ≤ l.length ∧ v = .int .i64 (V : Int) ∧ V = num 0 ((l.drop 0).take (q - 0)) ∧ V ≤ 180000000 ∧ w = wr) (fun _ p _ => l.length - (intOf p).toNat)
          case atStart => exact ⟨0, 0, rfl, by omega, by omega, rfl, by simp [num], by omega, rfl⟩
          case round =>
            obtain ⟨q, V, rfl, hq1, hq2, rfl, hV, hV2, rfl⟩ := hrel
            by_cases hqn : q < l.length
            · obtain ⟨b, hb⟩ : ∃ b, l[q]? = some b := ⟨_, List.getElem?_eq_getElem (by omega)⟩
              have hbj := byte_at hb
              have hd := digit_t b
              have hnt := num_take hq1 hb
              have hpt := num_part l 0 (q + 1 - 0)
              rw [hnt, ← hV] at hpt
              rw [← hV] at hnt
              have HNT := Lib.hid hnt
              have HPT := Lib.hid hpt
              have hqI : (q : Int) < (l.length : Int) := by omega
              cases hD : isD b with
              | true =>
                have hb2 := (isD_iff b).1 hD
                have HD := Lib.hid hD
                rw [hD] at hd
                have i1 : (48 : Int) ≤ (b.toNat : Int) := by omega
                have i2 : (b.toNat : Int) ≤ 57 := by omega
                clear hb hD hnt hpt hV hb2
                by_cases hbig : (V : Int) * 10 + ((b.toNat : Int) - 48) > 180000000
                · go_wp2_with (go_at_call 52; with_reducible refine (hd _).mono ?_; rintro e w5 ⟨rfl, rfl⟩)
                  have e := HPT.out
                  rw [HD.out, if_pos rfl] at e
                  have hp10 := pow_pos10 (6 - 0)
                  have e2 : num 0 (l.drop 0) ≤ num 0 (l.drop 0) * 10 ^ (6 - 0) := Nat.le_mul_of_pos_right _ hp10
                  have e3 := HG.out
                  rw [fin_big (by omega)] at e3
                  exact bodyPost_ret (results_tmp2 rfl _ _ _) rfl ⟨by rw [e3]; rfl, rfl⟩
                · go_wp2_with (go_at_call 52; with_reducible refine (hd _).mono ?_; rintro e w5 ⟨rfl, rfl⟩)
                  go_roundw
                  case rel =>
                    refine ⟨q + 1, V * 10 + (b.toNat - 48), by rw [Int.natCast_add]; rfl, by omega, by omega, by congr 1; omega, ?_, by omega, by first | rfl | trivial⟩
                    rw [HNT.out, HD.out, if_pos rfl]
                  case measure => simp only [intOf]; omega
              | false =>
                have HD := Lib.hid hD
                rw [hD] at hd
                clear hb hD hnt hpt hV
                go_wp2_with (go_at_call 52; with_reducible refine (hd _).mono ?_; rintro e w5 ⟨rfl, rfl⟩)
                go_roundw
                case rel =>
                  refine ⟨q + 1, V, by rw [Int.natCast_add]; rfl, by omega, by omega, rfl, ?_, by omega, by first | rfl | trivial⟩
                  rw [HNT.out, HD.out]
                  rfl
                case measure => simp only [intOf]; omega
            · have hqe : q = l.length := by omega
              subst hqe
              have hVf : V = num 0 (l.drop 0) := by rw [hV, List.take_of_length_le (by rw [List.length_drop]; omega)]
              rw [← hVf] at HG
              clear hV hq1 hq2 hqn hVf
              go_wp2
              go_loopw [8, 11] (fun v p wr => ∃ s X : Nat, p = .int .i64 (s : Int) ∧ 0 ≤ s ∧ s ≤ 6 ∧ v = .int .i64 (X : Int) ∧ X = V * 10 ^ (s - 0) ∧ X ≤ 180000000 ∧ w = wr) (fun _ p _ => 6 - (intOf p).toNat)
              case atStart => exact ⟨0, V, by first | rfl | (congr 1; omega), by omega, by omega, rfl, by rw [Nat.sub_self, Nat.pow_zero, Nat.mul_one], hV2, rfl⟩
              case round =>
                obtain ⟨s, X, rfl, hs1, hs2, rfl, hX, hX2, rfl⟩ := hrel
                have HX := Lib.hid hX
                clear hX
                by_cases hs : s < 6
                · have hsI : (s : Int) < 6 := by omega
                  by_cases hbig : (X : Int) * 10 > 180000000
                  · go_wp2
                    have e0 := HX.out
                    have e1 : V * 10 ^ (s - 0) * 10 ≤ V * 10 ^ (6 - 0) := by
                      rw [Nat.mul_assoc, ← Nat.pow_succ]
                      exact Nat.mul_le_mul_left _ (Nat.pow_le_pow_right (by omega) (by omega))
                    have e3 := HG.out
                    rw [fin_big (by omega)] at e3
                    exact bodyPost_ret (results_tmp2 rfl _ _ _) rfl ⟨by rw [e3]; rfl, rfl⟩
                  · go_wp2
                    go_roundw
                    case rel =>
                      refine ⟨s + 1, X * 10, by rw [Int.natCast_add]; rfl, by omega, by omega, by congr 1, ?_, by omega, by first | rfl | trivial⟩
                      rw [HX.out, Nat.mul_assoc, ← Nat.pow_succ]
                      congr 2
                      all_goals omega
                    case measure => simp only [intOf]; omega
                · have hsI : ¬ (s : Int) < 6 := by omega
                  have hs6 : s = 6 := by omega
                  subst hs6
                  have e3 := HG.out
                  rw [← HX.out, fin_ok hX2] at e3
                  have HE := Lib.hid e3
                  clear e3
                  go_wp2
                  exact bodyPost_ret (results_tmp2 rfl _ _ _) rfl ⟨by rw [HE.out]; simp, rfl⟩
        | other c h0 hc h46 =>
          rw [hsg] at h0 hc
          have hcj := byte_at hc
          obtain ⟨k, hk⟩ : ∃ k, k = 0 + rn l 0 := ⟨_, rfl⟩
          rw [← hk] at z1 hc hcj
          have hkn : k < l.length := by have := (List.getElem?_eq_some_iff.1 hc).1; omega
          have hki : 0 < k := by omega
          have hc2 : c.toNat ≠ 46 := fun e => h46 (UInt8.toNat_inj.1 (by rw [e]; rfl))
          have hc3 : ¬ (c.toNat : Int) = 46 := by omega
          clear h0 hc h46 hk hc2
          go_enter Tryz.func30, Tryz.ntmps30
          go_wp2_with (go_at_call 51; with_reducible refine (z1 _).mono ?_; rintro e w5 ⟨rfl, rfl⟩)
          exact bodyPost_ret (results_tmp2 rfl _ _ _) rfl ⟨rfl, rfl⟩
        | bare h0 hc h1 =>
          rw [hsg] at h0 hc h1
          have hcj := byte_at hc
          obtain ⟨k, hk⟩ : ∃ k, k = 0 + rn l 0 := ⟨_, rfl⟩
          rw [← hk] at z1 hc hcj h1
          have hkn : k < l.length := by have := (List.getElem?_eq_some_iff.1 hc).1; omega
          have hki : 0 < k := by omega
          have z2 : ∀ w, Calls Tryz.prog 51 #[tx l, .int .i64 ((k : Int) + 1)] w fun e w' => e = .returned (.int .i64 ((k + 1 + rn l (k + 1) : Nat) : Int)) ∧ w = w' := fun w => run_t l (k + 1) (by omega) hlong w
          obtain ⟨m, hm⟩ : ∃ m, m = rn l (k + 1) := ⟨_, rfl⟩
          rw [← hm] at z2 h1
          subst h1
          have hmI : True := trivial
          clear h0 hc hk hm
          go_enter Tryz.func30, Tryz.ntmps30
          go_wp2_with (first | (go_at_call 51; with_reducible refine (z1 _).mono ?_; rintro e w5 ⟨rfl, rfl⟩) | (go_at_call 51; with_reducible refine (z2 _).mono ?_; rintro e w5 ⟨rfl, rfl⟩))
          all_goals exact bodyPost_ret (results_tmp2 rfl _ _ _) rfl ⟨rfl, rfl⟩
        | long h0 hc h1 =>
          rw [hsg] at h0 hc h1
          have hcj := byte_at hc
          obtain ⟨k, hk⟩ : ∃ k, k = 0 + rn l 0 := ⟨_, rfl⟩
          rw [← hk] at z1 hc hcj h1
          have hkn : k < l.length := by have := (List.getElem?_eq_some_iff.1 hc).1; omega
          have hki : 0 < k := by omega
          have z2 : ∀ w, Calls Tryz.prog 51 #[tx l, .int .i64 ((k : Int) + 1)] w fun e w' => e = .returned (.int .i64 ((k + 1 + rn l (k + 1) : Nat) : Int)) ∧ w = w' := fun w => run_t l (k + 1) (by omega) hlong w
          obtain ⟨m, hm⟩ : ∃ m, m = rn l (k + 1) := ⟨_, rfl⟩
          rw [← hm] at z2 h1
          skip
          have hmI : (6 : Int) < (m : Int) := by omega
          clear h0 hc hk hm
          go_enter Tryz.func30, Tryz.ntmps30
          go_wp2_with (first | (go_at_call 51; with_reducible refine (z1 _).mono ?_; rintro e w5 ⟨rfl, rfl⟩) | (go_at_call 51; with_reducible refine (z2 _).mono ?_; rintro e w5 ⟨rfl, rfl⟩))
          all_goals exact bodyPost_ret (results_tmp2 rfl _ _ _) rfl ⟨rfl, rfl⟩
        | more h0 hc h1 h2 h3 =>
          rw [hsg] at h0 hc h1 h2 h3
          have hcj := byte_at hc
          obtain ⟨k, hk⟩ : ∃ k, k = 0 + rn l 0 := ⟨_, rfl⟩
          rw [← hk] at z1 hc hcj h1 h2 h3
          have hkn : k < l.length := by have := (List.getElem?_eq_some_iff.1 hc).1; omega
          have hki : 0 < k := by omega
          have z2 : ∀ w, Calls Tryz.prog 51 #[tx l, .int .i64 ((k : Int) + 1)] w fun e w' => e = .returned (.int .i64 ((k + 1 + rn l (k + 1) : Nat) : Int)) ∧ w = w' := fun w => run_t l (k + 1) (by omega) hlong w
          obtain ⟨m, hm⟩ : ∃ m, m = rn l (k + 1) := ⟨_, rfl⟩
          rw [← hm] at z2 h1 h2 h3
          skip
          have hmI : (m : Int) ≤ 6 ∧ 0 < (m : Int) ∧ (k : Int) + 1 + m < l.length := by omega
          clear h0 hc hk hm
          go_enter Tryz.func30, Tryz.ntmps30
          go_wp2_with (first | (go_at_call 51; with_reducible refine (z1 _).mono ?_; rintro e w5 ⟨rfl, rfl⟩) | (go_at_call 51; with_reducible refine (z2 _).mono ?_; rintro e w5 ⟨rfl, rfl⟩))
          all_goals exact bodyPost_ret (results_tmp2 rfl _ _ _) rfl ⟨rfl, rfl⟩
        | point h0 hc h1 h2 h3 =>
          rw [hsg] at h0 hc h1 h2 h3
          rw [hng, hsg]
          have hcj := byte_at hc
          obtain ⟨k, hk⟩ : ∃ k, k = 0 + rn l 0 := ⟨_, rfl⟩
          rw [← hk] at z1 hc hcj h1 h2 h3
          rw [← hk]
          have hkn : k < l.length := by have := (List.getElem?_eq_some_iff.1 hc).1; omega
          have hki : 0 < k := by omega
          have z2 : ∀ w, Calls Tryz.prog 51 #[tx l, .int .i64 ((k : Int) + 1)] w fun e w' => e = .returned (.int .i64 ((k + 1 + rn l (k + 1) : Nat) : Int)) ∧ w = w' := fun w => run_t l (k + 1) (by omega) hlong w
          obtain ⟨m, hm⟩ : ∃ m, m = rn l (k + 1) := ⟨_, rfl⟩
          rw [← hm] at h1 h2 h3
          rw [← hm, h3] at z2
          rw [← hm]
          generalize hr : fin false (num 0 (l.drop 0) * 10 ^ (6 - m)) = r
          have HG := Lib.hid (show r = fin false (num 0 (l.drop 0) * 10 ^ (6 - m)) from hr.symm)
          have hkm : k + 1 + m = l.length := by omega
          have b1 : ((k : Int) == 0) = false := by rw [beq_eq_false_iff_ne]; omega
          have b2 : ((l.length : Int) == (k : Int) + 1) = false := by rw [beq_eq_false_iff_ne]; omega
          have b3 : decide ((k : Int) + 7 < (l.length : Int)) = false := decide_eq_false (by omega)
          have b4 : decide ((64 : Int) < (l.length : Int)) = false := decide_eq_false (by omega)
          have b5 : decide ((k : Int) < (l.length : Int)) = true := decide_eq_true (by omega)
          clear h0 hc hk hm hr h3
          go_enter Tryz.func30, Tryz.ntmps30
          go_wp2_with (first | (go_at_call 51; with_reducible refine (z1 _).mono ?_; rintro e w5 ⟨rfl, rfl⟩) | (go_at_call 51; with_reducible refine (z2 _).mono ?_; rintro e w5 ⟨rfl, rfl⟩))
          go_loopw [8, 9] (fun v p wr => ∃ q V : Nat, p = .int .i64 (q : Int) ∧ 0 ≤ q ∧ q ≤ l.length ∧ v = .int .i64 (V : Int) ∧ V = num 0 ((l.drop 0).take (q - 0)) ∧ V ≤ 180000000 ∧ w = wr) (fun _ p _ => l.length - (intOf p).toNat)
          case atStart => exact ⟨0, 0, rfl, by omega, by omega, rfl, by simp [num], by omega, rfl⟩
          case round =>
            obtain ⟨q, V, rfl, hq1, hq2, rfl, hV, hV2, rfl⟩ := hrel
            by_cases hqn : q < l.length
            · obtain ⟨b, hb⟩ : ∃ b, l[q]? = some b := ⟨_, List.getElem?_eq_getElem (by omega)⟩
              have hbj := byte_at hb
              have hd := digit_t b
              have hnt := num_take hq1 hb
              have hpt := num_part l 0 (q + 1 - 0)
              rw [hnt, ← hV] at hpt
              rw [← hV] at hnt
              have HNT := Lib.hid hnt
              have HPT := Lib.hid hpt
              have hqI : (q : Int) < (l.length : Int) := by omega
              cases hD : isD b with
              | true =>
                have hb2 := (isD_iff b).1 hD
                have HD := Lib.hid hD
                rw [hD] at hd
                have i1 : (48 : Int) ≤ (b.toNat : Int) := by omega
                have i2 : (b.toNat : Int) ≤ 57 := by omega
                clear hb hD hnt hpt hV hb2
                by_cases hbig : (V : Int) * 10 + ((b.toNat : Int) - 48) > 180000000
                · go_wp2_with (go_at_call 52; with_reducible refine (hd _).mono ?_; rintro e w5 ⟨rfl, rfl⟩)
                  have e := HPT.out
                  rw [HD.out, if_pos rfl] at e
                  have hp10 := pow_pos10 (6 - m)
                  have e2 : num 0 (l.drop 0) ≤ num 0 (l.drop 0) * 10 ^ (6 - m) := Nat.le_mul_of_pos_right _ hp10
                  have e3 := HG.out
                  rw [fin_big (by omega)] at e3
                  exact bodyPost_ret (results_tmp2 rfl _ _ _) rfl ⟨by rw [e3]; rfl, rfl⟩
                · go_wp2_with (go_at_call 52; with_reducible refine (hd _).mono ?_; rintro e w5 ⟨rfl, rfl⟩)
                  go_roundw
                  case rel =>
                    refine ⟨q + 1, V * 10 + (b.toNat - 48), by rw [Int.natCast_add]; rfl, by omega, by omega, by congr 1; omega, ?_, by omega, by first | rfl | trivial⟩
                    rw [HNT.out, HD.out, if_pos rfl]
                  case measure => simp only [intOf]; omega
              | false =>
                have HD := Lib.hid hD
                rw [hD] at hd
                clear hb hD hnt hpt hV
                go_wp2_with (go_at_call 52; with_reducible refine (hd _).mono ?_; rintro e w5 ⟨rfl, rfl⟩)
                go_roundw
                case rel =>
                  refine ⟨q + 1, V, by rw [Int.natCast_add]; rfl, by omega, by omega, rfl, ?_, by omega, by first | rfl | trivial⟩
                  rw [HNT.out, HD.out]
                  rfl
                case measure => simp only [intOf]; omega
            · have hqe : q = l.length := by omega
              subst hqe
              have hVf : V = num 0 (l.drop 0) := by rw [hV, List.take_of_length_le (by rw [List.length_drop]; omega)]
              rw [← hVf] at HG
              clear hV hq1 hq2 hqn hVf
              go_wp2
              go_loopw [8, 11] (fun v p wr => ∃ s X : Nat, p = .int .i64 (s : Int) ∧ m ≤ s ∧ s ≤ 6 ∧ v = .int .i64 (X : Int) ∧ X = V * 10 ^ (s - m) ∧ X ≤ 180000000 ∧ w = wr) (fun _ p _ => 6 - (intOf p).toNat)
              case atStart => exact ⟨m, V, by first | rfl | (congr 1; omega), by omega, by omega, rfl, by rw [Nat.sub_self, Nat.pow_zero, Nat.mul_one], hV2, rfl⟩
              case round =>
                obtain ⟨s, X, rfl, hs1, hs2, rfl, hX, hX2, rfl⟩ := hrel
                have HX := Lib.hid hX
                clear hX
                by_cases hs : s < 6
                · have hsI : (s : Int) < 6 := by omega
                  by_cases hbig : (X : Int) * 10 > 180000000
                  · go_wp2
                    have e0 := HX.out
                    have e1 : V * 10 ^ (s - m) * 10 ≤ V * 10 ^ (6 - m) := by
                      rw [Nat.mul_assoc, ← Nat.pow_succ]
                      exact Nat.mul_le_mul_left _ (Nat.pow_le_pow_right (by omega) (by omega))
                    have e3 := HG.out
                    rw [fin_big (by omega)] at e3
                    exact bodyPost_ret (results_tmp2 rfl _ _ _) rfl ⟨by rw [e3]; rfl, rfl⟩
                  · go_wp2
                    go_roundw
                    case rel =>
                      refine ⟨s + 1, X * 10, by rw [Int.natCast_add]; rfl, by omega, by omega, by congr 1, ?_, by omega, by first | rfl | trivial⟩
                      rw [HX.out, Nat.mul_assoc, ← Nat.pow_succ]
                      congr 2
                      all_goals omega
                    case measure => simp only [intOf]; omega
                · have hsI : ¬ (s : Int) < 6 := by omega
                  have hs6 : s = 6 := by omega
                  subst hs6
                  have e3 := HG.out
                  rw [← HX.out, fin_ok hX2] at e3
                  have HE := Lib.hid e3
                  clear e3
                  go_wp2
                  exact bodyPost_ret (results_tmp2 rfl _ _ _) rfl ⟨by rw [HE.out]; simp, rfl⟩
end Dg
end Go.Proofs.YtdhelpbhbhihaaaGreatDoor
