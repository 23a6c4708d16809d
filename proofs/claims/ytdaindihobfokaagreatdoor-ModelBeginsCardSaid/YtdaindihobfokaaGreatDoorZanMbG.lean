/-
MbG: the document's bytes of a float, those of no number all alike; two events alike; walked.
-/
import Derived.Test.YtdaindihobfokaaGreatDoorZaiMbF
import Derived.Test.YtdaindihobfokaaGreatDoorZalWiC
import Derived.Test.YtdaindihobfokaaGreatDoorZamRlP
import Derived.Laws.BytesArg
namespace Go.Proofs.YtdaindihobfokaaGreatDoor
open Go.RowKit
set_option linter.unusedVariables false
set_option linter.unusedSimpArgs false
attribute [local go_sem] Oper.semAt_some Mb.run_store_float
namespace Mb
open Mem Wi
/-- bits of no number -/
def nanB (x : Nat) : Bool := decide (9218868437227405312 < x % 9223372036854775808)
def canon (x : Nat) : Nat := if nanB x = true then 9221120237041090561 else x
theorem K3 (x : Nat) : (Rl.K x).1 = 3 ↔ nanB x = true := by
  have e1 : FloatKind.f64.format.signWeight = 9223372036854775808 := by decide
  have e2 : FloatKind.f64.format.binade = 4503599627370496 := by decide
  have e3 : FloatKind.f64.format.infRung = 9218868437227405312 := by decide
  unfold Rl.K nanB Ieee.Format.read
  rw [decide_eq_true_iff]
  simp only [e1, e2, e3]
  by_cases h1 : x % 9223372036854775808 < 4503599627370496
  · rw [if_pos h1]; simp only [Rl.key]; omega
  · rw [if_neg h1]
    by_cases h2 : x % 9223372036854775808 < 9218868437227405312
    · rw [if_pos h2]; simp only [Rl.key]; omega
    · rw [if_neg h2]
      by_cases h3 : x % 9223372036854775808 = 9218868437227405312
      · rw [if_pos h3]
        cases (x / 9223372036854775808 % 2 == 1) <;> simp only [Rl.key] <;> omega
      · rw [if_neg h3]; exact ⟨fun _ => by omega, fun _ => rfl⟩
theorem ord_nan (x : Nat) : ord x ≠ some .eq ↔ nanB x = true := by
  rw [← K3]
  unfold ord
  rcases Rl.self x with ⟨h1, h2⟩ | ⟨h1, h2⟩
  · rw [h1]; simp [h2]
  · rw [h1]; simp [h2]
theorem like_canon (x y : Nat) : ((decide (ord x ≠ some .eq) && decide (ord y ≠ some .eq)) || decide (x = y)) = decide (canon x = canon y) := by
  have hN : nanB 9221120237041090561 = true := by decide
  have h1 : decide (ord x ≠ some .eq) = nanB x := by rw [Bool.eq_iff_iff, decide_eq_true_iff, ord_nan]
  have h2 : decide (ord y ≠ some .eq) = nanB y := by rw [Bool.eq_iff_iff, decide_eq_true_iff, ord_nan]
  rw [h1, h2]
  unfold canon
  cases hx : nanB x <;> cases hy : nanB y
  · simp
  · have : x ≠ y := fun e => by rw [e, hy] at hx; cases hx
    have h3 : x ≠ 9221120237041090561 := fun e => by rw [e, hN] at hx; cases hx
    simp [this, h3]
  · have : x ≠ y := fun e => by rw [e, hy] at hx; cases hx
    have h3 : 9221120237041090561 ≠ y := fun e => by rw [← e, hN] at hy; cases hy
    simp [this, h3]
  · simp
theorem canon_lt {x : Nat} (h : x < 18446744073709551616) : canon x < 18446744073709551616 := by unfold canon; split <;> omega
theorem le_inj : ∀ (n x y : Nat), x < 256 ^ n → y < 256 ^ n → le n x = le n y → x = y
  | 0, x, y, hx, hy, _ => by simp at hx hy; omega
  | n + 1, x, y, hx, hy, h => by
    simp only [le, List.cons.injEq] at h
    have := le_inj n (x / 256) (y / 256) (by rw [Nat.pow_succ] at hx; omega) (by rw [Nat.pow_succ] at hy; omega) h.2
    omega
theorem and64 (a b : Nat) (ha : a < 18446744073709551616) (hb : b < 18446744073709551616) : bits .and .u64 (a : Int) (b : Int) = ((a &&& b : Nat) : Int) := (bits_nat .u64 64 (by decide) wr64 a b (by omega) (by omega)).1
theorem wrap64 (n : Int) : IntKind.u64.wrap n = n % 18446744073709551616 := by simp [IntKind.wrap, IntKind.bits, IntKind.signed]
set_option maxRecDepth 20000 in
set_option maxHeartbeats 1000000 in
theorem none_t (x : Nat) (hx : x < 18446744073709551616) (w : World) : Calls Tryz.prog 47 #[.int .u64 (x : Int)] w fun e w' => e = .returned (.bool (nanB x)) ∧ w = w' := by
  go_enter Tryz.func47, Tryz.ntmps47
  go_wp2
  all_goals
    rename_i hc
    go_ret
    have h2 : IntKind.u64.wrap ((x : Int) * 4096) = ((x * 4096 % 18446744073709551616 : Nat) : Int) := by
      rw [wrap64]; omega
    have h1 : bits .and .u64 ((x : Int) / 4503599627370496) 2047 = ((x / 4503599627370496 % 2048 : Nat) : Int) := by
      have := and64 (x / 4503599627370496) 2047 (by omega) (by omega)
      rw [Nat.and_two_pow_sub_one_eq_mod _ 11] at this
      rw [show ((2047 : Nat) : Int) = 2047 from rfl, show (((x / 4503599627370496 : Nat)) : Int) = (x : Int) / 4503599627370496 from Int.natCast_ediv _ _] at this
      exact this
    rw [h1] at hc
    simp only [h2]
    refine ⟨congrArg Ending.returned (congrArg Value.bool ?_), trivial⟩
    unfold nanB
    first
      | (rw [Bool.eq_iff_iff, decide_eq_true_iff, bne_iff_ne]; omega)
      | (symm; rw [decide_eq_false_iff_not]; omega)
/-- the document's bytes of a float -/
theorem float_t (x : Nat) (hx : x < 18446744073709551616) (w : World) : Calls Tryz.prog 27 #[.int .u64 (x : Int)] w fun e w' => ∃ a c, e = .returned (.slice a (8 : Nat) c) ∧ Keeps (fun _ => False) w w' ∧ Wi.Own w' w.heap.size a c (le 8 (canon x)) := by
  have HN := Lib.hid (none_t x hx w)
  have HF := Lib.hid (show ∀ v : Nat, v < 18446744073709551616 → Calls Tryz.prog 48 #[.int .u64 (v : Int), .int .i64 8] w fun e w' => ∃ a c, e = .returned (.slice a (8 : Nat) c) ∧ Keeps (fun _ => False) w w' ∧ Wi.Own w' w.heap.size a c (le 8 v) from fun v hv => fixed_t v 8 hv (by decide) w)
  have HC := Lib.hid (canon_lt hx)
  have HE := Lib.hid (show canon x = if nanB x = true then 9221120237041090561 else x from rfl)
  clear hx
  obtain ⟨nb, hn⟩ : ∃ nb, nb = nanB x := ⟨_, rfl⟩
  rw [← hn] at HN HE
  clear hn
  go_enter Tryz.func27, Tryz.ntmps27
  cases nb with
  | true =>
    have HF2 := Lib.hid (show Calls Tryz.prog 48 #[.int .u64 9221120237041090561, .int .i64 8] w _ from HF.out 9221120237041090561 (by omega))
    go_wp2_with (first
      | (go_at_call 47; (with_reducible refine HN.out.mono ?_); rintro e w1 ⟨rfl, rfl⟩)
      | (go_at_call 48; (with_reducible refine HF2.out.mono ?_); rintro e w1 ⟨a, c, rfl, hk, ho⟩; have HO := Lib.hid (And.intro hk ho); clear hk ho))
    go_ret
    rw [HE.out, if_pos trivial]
    exact ⟨a, c, rfl, HO.out⟩
  | false =>
    have e0 : canon x = x := by rw [HE.out, if_neg (by decide)]
    have HF2 := Lib.hid (HF.out x (by rw [← e0]; exact HC.out))
    rw [e0]
    clear e0
    go_wp2_with (first
      | (go_at_call 47; (with_reducible refine HN.out.mono ?_); rintro e w1 ⟨rfl, rfl⟩)
      | (go_at_call 48; (with_reducible refine HF2.out.mono ?_); rintro e w1 ⟨a, c, rfl, hk, ho⟩; have HO := Lib.hid (And.intro hk ho); clear hk ho))
    go_ret
    exact ⟨a, c, rfl, HO.out⟩
end Mb
end Go.Proofs.YtdaindihobfokaaGreatDoor
