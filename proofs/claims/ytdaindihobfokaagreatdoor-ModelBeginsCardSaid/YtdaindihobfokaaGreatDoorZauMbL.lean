/-
MbL: the law of beginnings, given that the model works.
-/
import Derived.Test.YtdaindihobfokaaGreatDoorZarMbJ
import Derived.Test.YtdaindihobfokaaGreatDoorZatMbK
namespace Go.Proofs.YtdaindihobfokaaGreatDoor
open Go.RowKit
set_option linter.unusedVariables false
set_option linter.unusedSimpArgs false
set_option linter.ambiguousOpen false
attribute [local go_sem] Oper.semAt_some Mb.run_store_float
namespace Mb
open Mem
theorem allB_self (B : List Pk) : allB B B = true := by
  unfold allB
  rw [Bool.and_eq_true, decide_eq_true_iff]
  refine ⟨rfl, (pref_iff likeB).2 ⟨Nat.le_refl _, fun i a b ha hb => ?_⟩⟩
  rw [ha] at hb
  cases hb
  simp [likeB, sameI]
theorem agree {A B : List Pk} : (rises (·.ep) A = true ∧ go (·.ep) likeB A (flt (·.ep) B) = true) ↔ ∀ k, k < A.length → okAt A B k := by
  rw [okAt_all, ← both]
set_option maxHeartbeats 8000000 in
set_option maxRecDepth 100000 in
theorem law_t (w : World) (a b : Option Addr) (n m c d : Nat) (A B : List Pk) (h1 : Pl w (.slice a n c) A) (h2 : Pl w (.slice b m d) B) (hn : n = A.length) (hm : m = B.length) (hl : (n + n / 4 + 512) * 64 ≤ 281474976710656) (hl2 : (m + m / 4 + 512) * 64 ≤ 281474976710656)
    (hA : ∀ p ∈ A, p.sp < 18446744073709551616 ∧ p.ep < 4294967296) (hB : ∀ p ∈ B, p.sp < 18446744073709551616 ∧ p.ep < 4294967296)
    (hW : ∀ W, Calls Tryz.prog 8 #[] W fun e w' => e = .returned (.bool true) ∧ Keeps (fun _ => False) W w') :
    Calls Tryz.prog 3 #[.slice a n c, .slice b m d] w fun e w' => e = .returned (.bool true) ∧ Keeps (fun _ => False) w w' := by
  have hn2 : n ≤ 4611686018427387904 := by omega
  have hm2 : m ≤ 4611686018427387904 := by omega
  have H1 := Lib.hid (fun W (k : Keeps (fun _ => False) w W) => begins_t W a b n m c d A B (h1.kd k) (h2.kd k) hn hm hn2 hl2 (fun p hp => (hA p hp).2))
  have H2 := Lib.hid (fun W (k : Keeps (fun _ => False) w W) => rbegins_t W a b n m c d A B (h1.kd k) (h2.kd k) hn hm hl hl2 hA (fun p hp => (hB p hp).1))
  have H3 := Lib.hid (fun W (k : Keeps (fun _ => False) w W) => all_t W a b n m c d A B (h1.kd k) (h2.kd k) hn hm hn2)
  have H4 := Lib.hid (fun W (k : Keeps (fun _ => False) w W) => rall_t W a b n m c d A B (h1.kd k) (h2.kd k) hn hm hn2 (fun p hp => (hA p hp).1) (fun p hp => (hB p hp).1))
  have H5 := Lib.hid (fun W (k : Keeps (fun _ => False) w W) => begins_t W none b 0 m 0 d [] B (Pl.nil W) (h2.kd k) rfl hm (Nat.zero_le _) hl2 (fun p hp => by cases hp))
  have H6 := Lib.hid (fun W (k : Keeps (fun _ => False) w W) => all_t W b b m m d d B B (h2.kd k) (h2.kd k) hm hm hm2)
  rw [allB_self] at H6
  have HW := Lib.hid hW
  obtain ⟨v, hv⟩ : ∃ v, v = allB A B := ⟨_, rfl⟩
  rw [← hv] at H3 H4
  clear h1 h2 hn hm hl hl2 hA hB hW hn2 hm2 hv
  go_enter Tryz.func3, Tryz.ntmps3
  go_wp2_with (first
    | (go_at_call 4; (with_reducible refine (H1.out _ (by first | exact K6.out | exact K5.out | exact K4.out | exact K3.out | exact K2.out | exact K1.out | exact Keeps.refl _ _)).mono ?_); rintro e w1 ⟨⟨r1, rfl, hr⟩, hk⟩; have K1 := Lib.hid hk; have HR := Lib.hid hr; clear hk hr)
    | (go_at_call 5; (with_reducible refine (H2.out _ (by first | exact K6.out | exact K5.out | exact K4.out | exact K3.out | exact K2.out | exact K1.out | exact Keeps.refl _ _)).mono ?_); rintro e w2 ⟨r2, rfl, hr2, hk⟩; have K2 := Lib.hid (K1.out.trans hk); have e12 : r1 = r2 := (by rw [Bool.eq_iff_iff, HR.out, hr2]; exact agree); subst e12; clear hk hr2)
    | (go_at_call 6; (with_reducible refine (H3.out _ (by first | exact K6.out | exact K5.out | exact K4.out | exact K3.out | exact K2.out | exact K1.out | exact Keeps.refl _ _)).mono ?_); rintro e w3 ⟨rfl, hk⟩; have K3 := Lib.hid (K2.out.trans hk); clear hk)
    | (go_at_call 7; (with_reducible refine (H4.out _ (by first | exact K6.out | exact K5.out | exact K4.out | exact K3.out | exact K2.out | exact K1.out | exact Keeps.refl _ _)).mono ?_); rintro e w4 ⟨rfl, hk⟩; have K4 := Lib.hid (K3.out.trans hk); clear hk)
    | (go_at_call 4; (with_reducible refine (H5.out _ (by first | exact K6.out | exact K5.out | exact K4.out | exact K3.out | exact K2.out | exact K1.out | exact Keeps.refl _ _)).mono ?_); rintro e w5 ⟨⟨r5, rfl, hr5⟩, hk⟩; have K5 := Lib.hid (K4.out.trans hk); obtain rfl : r5 = true := hr5.2 ⟨rfl, rfl⟩; clear hk hr5)
    | (go_at_call 6; (with_reducible refine (H6.out _ (by first | exact K6.out | exact K5.out | exact K4.out | exact K3.out | exact K2.out | exact K1.out | exact Keeps.refl _ _)).mono ?_); rintro e w6 ⟨rfl, hk⟩; have K6 := Lib.hid (K5.out.trans hk); clear hk)
    | (go_at_call 8; (with_reducible refine (HW.out _).mono ?_); rintro e w7 ⟨rfl, hk⟩; have K7 := Lib.hid (K6.out.trans hk); clear hk))
  go_ret
  exact ⟨rfl, K7.out⟩
end Mb
end Go.Proofs.YtdaindihobfokaaGreatDoor
