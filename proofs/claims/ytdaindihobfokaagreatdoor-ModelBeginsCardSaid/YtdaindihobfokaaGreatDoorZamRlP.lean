/-
RlP: plain: the order of the floats (-1, 0, 1; what is no number last): it turns round and carries over. No program in sight.
-/
import Derived.Test.YtdaindihobfokaaGreatDoorZaaMbPMem
import Derived.Laws.FloatBits
namespace Go.Proofs.YtdaindihobfokaaGreatDoor

set_option linter.unusedVariables false
namespace Rl
open Ieee
/-- where a datum stands in the order: its class (3: no number; 2, 0: the infinities) and its worth in units of 2 ^ b -/
def key (b : Int) : Datum → Int × Int
  | .nan .. => (3, 0)
  | .infinity false => (2, 0)
  | .infinity true => (0, 0)
  | .number s m i => (1, signed s m (i - b).toNat)
theorem signed_up (s : Bool) (m a k : Nat) : signed s m (a + k) = signed s m a * (2 ^ k : Nat) := by
  unfold signed
  simp only [Nat.shiftLeft_eq, Nat.pow_add]
  cases s <;> simp [Int.mul_assoc, Int.neg_mul]
theorem pow2_pos (k : Nat) : (0 : Int) < ((2 ^ k : Nat) : Int) := by
  have := Nat.two_pow_pos k
  omega
theorem compare_up (x y : Int) (k : Nat) : compare (x * (2 ^ k : Nat)) (y * (2 ^ k : Nat)) = compare x y := by
  have hk := pow2_pos k
  rw [Int.compare_eq_ite_lt, Int.compare_eq_ite_lt]
  have h1 : x * ((2 ^ k : Nat) : Int) < y * ((2 ^ k : Nat) : Int) ↔ x < y := Int.mul_lt_mul_right hk
  have h2 : y * ((2 ^ k : Nat) : Int) < x * ((2 ^ k : Nat) : Int) ↔ y < x := Int.mul_lt_mul_right hk
  simp only [h1, h2]
/-- no digit of it lies below the place b -/
def Over (b : Int) : Datum → Prop
  | .number _ _ i => b ≤ i
  | _ => True
theorem order_key (b : Int) (d e : Datum) (hd : Over b d) (he : Over b e) :
    d.order e = if (key b d).1 = 3 ∨ (key b e).1 = 3 then none
      else some (if (key b d).1 < (key b e).1 ∨ ((key b d).1 = (key b e).1 ∧ (key b d).2 < (key b e).2) then .lt
        else if (key b d).1 = (key b e).1 ∧ (key b d).2 = (key b e).2 then .eq else .gt) := by
  cases d with
  | nan s t => simp [Datum.order, key]
  | infinity s =>
    cases e with
    | nan t u => cases s <;> simp [Datum.order, key]
    | infinity t => cases s <;> cases t <;> simp [Datum.order, key] <;> rfl
    | number t n j => cases s <;> simp [Datum.order, key]
  | number s m i =>
    cases e with
    | nan t u => simp [Datum.order, key]
    | infinity t => cases t <;> simp [Datum.order, key]
    | number t n j =>
      have hb : ∀ k : Int, min i j ≤ k → (k - b).toNat = (k - min i j).toNat + (min i j - b).toNat := by
        intro k hk
        simp only [Over] at hd he
        omega
      have hi := hb i (by omega)
      have hj := hb j (by omega)
      simp only [Datum.order, key]
      rw [← compare_up _ _ (min i j - b).toNat, ← signed_up, ← signed_up, ← hi, ← hj, Int.compare_eq_ite_lt]
      generalize signed s m (i - b).toNat = x
      generalize signed t n (j - b).toNat = y
      by_cases h1 : x < y
      · simp [h1]
      · by_cases h2 : x = y
        · simp [h2]
        · have h3 : y < x := by omega
          simp [h1, h2, h3]
/-- the order of the floats: -1, 0, 1 -/
def cmp (x y : Nat) : Int :=
  match FloatKind.f64.format.order x y with
  | some .lt => -1
  | some .gt => 1
  | some .eq => 0
  | none => if FloatKind.f64.format.order x x = some .eq then -1 else if FloatKind.f64.format.order y y = some .eq then 1 else 0
def K (x : Nat) : Int × Int := key FloatKind.f64.format.leastPlace (FloatKind.f64.format.read x)
theorem over_read (x : Nat) : Over FloatKind.f64.format.leastPlace (FloatKind.f64.format.read x) := by
  unfold Format.read
  simp only []
  split
  · simp [Over]
  · split
    · simp only [Over]; omega
    · split <;> simp [Over]
theorem K_le (x : Nat) : (K x).1 ≤ 3 := by
  unfold K key
  split <;> simp
theorem order_K (x y : Nat) : FloatKind.f64.format.order x y = if (K x).1 = 3 ∨ (K y).1 = 3 then none
      else some (if (K x).1 < (K y).1 ∨ ((K x).1 = (K y).1 ∧ (K x).2 < (K y).2) then .lt
        else if (K x).1 = (K y).1 ∧ (K x).2 = (K y).2 then .eq else .gt) :=
  order_key _ _ _ (over_read x) (over_read y)
theorem key_nan (b : Int) (d : Datum) (h : (key b d).1 = 3) : (key b d).2 = 0 := by
  revert h
  unfold key
  split <;> simp
theorem cmp_K (x y : Nat) : cmp x y = if (K x).1 < (K y).1 ∨ ((K x).1 = (K y).1 ∧ (K x).2 < (K y).2) then -1
    else if (K x).1 = (K y).1 ∧ (K x).2 = (K y).2 then 0 else 1 := by
  have hx := K_le x
  have hy := K_le y
  have nx : (K x).1 = 3 → (K x).2 = 0 := key_nan _ _
  have ny : (K y).1 = 3 → (K y).2 = 0 := key_nan _ _
  unfold cmp
  rw [order_K x y, order_K x x, order_K y y]
  by_cases h1 : (K x).1 = 3
  · have h3 := nx h1
    by_cases h2 : (K y).1 = 3
    · have h4 := ny h2
      simp [h1, h2, h3, h4]
    · have : (K y).1 < 3 := by omega
      have h5 : ¬ (3 : Int) < (K y).1 := by omega
      have h6 : ¬ (3 : Int) = (K y).1 := by omega
      simp [h1, h2, h5, h6]
  · by_cases h2 : (K y).1 = 3
    · have h5 : (K x).1 < 3 := by omega
      simp [h1, h2, h5]
    · simp only [h1, h2, or_self, if_false]
      by_cases h3 : (K x).1 < (K y).1 ∨ ((K x).1 = (K y).1 ∧ (K x).2 < (K y).2)
      · simp only [if_pos h3]
      · simp only [if_neg h3]
        by_cases h4 : (K x).1 = (K y).1 ∧ (K x).2 = (K y).2
        · simp only [if_pos h4]
        · simp only [if_neg h4]
theorem cmp_anti (x y : Nat) : cmp y x = - cmp x y := by
  rw [cmp_K, cmp_K]
  repeat' split
  all_goals omega
theorem cmp_trans (x y z : Nat) (h1 : cmp x y ≤ 0) (h2 : cmp y z ≤ 0) : cmp x z ≤ 0 := by
  rw [cmp_K] at h1 h2 ⊢
  revert h1 h2
  repeat' split
  all_goals omega
theorem cmp_three (x y : Nat) : cmp x y = -1 ∨ cmp x y = 0 ∨ cmp x y = 1 := by
  rw [cmp_K]
  repeat' split
  all_goals omega
theorem self (x : Nat) : (FloatKind.f64.format.order x x = some .eq ∧ (K x).1 ≠ 3) ∨ (FloatKind.f64.format.order x x = none ∧ (K x).1 = 3) := by
  rw [order_K]
  by_cases h : (K x).1 = 3 <;> simp [h]
/-- what the eight ways through a comparison are told apart by -/
inductive Way (x y : Nat) : Int → Prop
  | lt : FloatKind.f64.format.order x x = some .eq → FloatKind.f64.format.order y y = some .eq → FloatKind.f64.format.order x y = some .lt → Way x y (-1)
  | gt : FloatKind.f64.format.order x x = some .eq → FloatKind.f64.format.order y y = some .eq → FloatKind.f64.format.order x y = some .gt → Way x y 1
  | eq : FloatKind.f64.format.order x x = some .eq → FloatKind.f64.format.order y y = some .eq → FloatKind.f64.format.order x y = some .eq → Way x y 0
  | nx : FloatKind.f64.format.order x x = none → FloatKind.f64.format.order y y = some .eq → FloatKind.f64.format.order x y = none → Way x y 1
  | ny : FloatKind.f64.format.order x x = some .eq → FloatKind.f64.format.order y y = none → FloatKind.f64.format.order x y = none → Way x y (-1)
  | nn : FloatKind.f64.format.order x x = none → FloatKind.f64.format.order y y = none → FloatKind.f64.format.order x y = none → Way x y 0
theorem way (x y : Nat) : Way x y (cmp x y) := by
  have h := order_K x y
  rcases self x with ⟨h1, k1⟩ | ⟨h1, k1⟩ <;> rcases self y with ⟨h2, k2⟩ | ⟨h2, k2⟩
  · rw [if_neg (by simp [k1, k2])] at h
    by_cases h3 : (K x).1 < (K y).1 ∨ ((K x).1 = (K y).1 ∧ (K x).2 < (K y).2)
    · rw [if_pos h3] at h
      have : cmp x y = -1 := by unfold cmp; rw [h]
      rw [this]; exact .lt h1 h2 h
    · rw [if_neg h3] at h
      by_cases h4 : (K x).1 = (K y).1 ∧ (K x).2 = (K y).2
      · rw [if_pos h4] at h
        have : cmp x y = 0 := by unfold cmp; rw [h]
        rw [this]; exact .eq h1 h2 h
      · rw [if_neg h4] at h
        have : cmp x y = 1 := by unfold cmp; rw [h]
        rw [this]; exact .gt h1 h2 h
  · rw [if_pos (.inr k2)] at h
    have : cmp x y = -1 := by unfold cmp; rw [h]; simp [h1]
    rw [this]; exact .ny h1 h2 h
  · rw [if_pos (.inl k1)] at h
    have : cmp x y = 1 := by unfold cmp; rw [h]; simp [h1, h2]
    rw [this]; exact .nx h1 h2 h
  · rw [if_pos (.inl k1)] at h
    have : cmp x y = 0 := by unfold cmp; rw [h]; simp [h1, h2]
    rw [this]; exact .nn h1 h2 h
end Rl
end Go.Proofs.YtdaindihobfokaaGreatDoor
