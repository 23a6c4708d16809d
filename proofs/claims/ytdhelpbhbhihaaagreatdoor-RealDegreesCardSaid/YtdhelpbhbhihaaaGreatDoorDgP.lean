/-
  DgP: plain: millionths of a degree and their texts. No program in sight.
-/
import Derived.Test.YtdhelpbhbhihaaaGreatDoorMem
import Derived.Lib.ItoaNum
import Derived.Lib.AtoiAll
import Derived.Lib.SlTrimSet
import Derived.Lib.Repeat
import Derived.Lib.IndexMore
namespace Go.Proofs.YtdhelpbhbhihaaaGreatDoor
open Go.Lib
set_option linter.unusedVariables false
namespace Dg
def isD (b : UInt8) : Bool := decide (48 ≤ b.toNat) && decide (b.toNat ≤ 57)
theorem isD_iff (b : UInt8) : isD b = true ↔ 48 ≤ b.toNat ∧ b.toNat ≤ 57 := by simp [isD]
/-- digits read on behind a number; what is no digit is passed over -/
def num (v : Nat) (l : List UInt8) : Nat := l.foldl (fun v b => if isD b then v * 10 + (b.toNat - 48) else v) v
theorem num_nil (v : Nat) : num v [] = v := rfl
theorem num_cons (v : Nat) (b : UInt8) (l : List UInt8) : num v (b :: l) = num (if isD b then v * 10 + (b.toNat - 48) else v) l := rfl
theorem num_app (v : Nat) (a b : List UInt8) : num v (a ++ b) = num (num v a) b := by simp [num]
theorem num_mono {u v : Nat} (h : u ≤ v) (l : List UInt8) : num u l ≤ num v l := by
  induction l generalizing u v with
  | nil => exact h
  | cons b l ih =>
    rw [num_cons, num_cons]
    refine ih ?_
    split <;> omega
theorem num_ge (v : Nat) (l : List UInt8) : v ≤ num v l := by
  induction l generalizing v with
  | nil => exact Nat.le_refl _
  | cons b l ih =>
    rw [num_cons]
    by_cases h : isD b = true
    · rw [if_pos h]
      have := ih (v * 10 + (b.toNat - 48))
      omega
    · rw [if_neg h]
      exact ih v
/-- a value told, or why not -/
def fin (neg : Bool) (v : Nat) : Int × Int := if 180000000 < v then (0, 21) else (if neg then -(v : Int) else (v : Int), 0)
theorem fin_big {b : Bool} {v : Nat} (h : 180000000 < v) : fin b v = (0, 21) := by unfold fin; rw [if_pos h]
theorem fin_ok {b : Bool} {v : Nat} (h : v ≤ 180000000) : fin b v = (if b then -(v : Int) else (v : Int), 0) := by unfold fin; rw [if_neg (by omega)]
theorem pow_pos10 (k : Nat) : 0 < 10 ^ k := Nat.pow_pos (by omega)
def micV (A B : List UInt8) : Nat := num (num 0 A) B * 10 ^ (6 - B.length)
def negOf (t : List UInt8) : Bool := t.head? == some 45
def body (t : List UInt8) : List UInt8 := if negOf t then t.drop 1 else t
def ahd (t : List UInt8) : List UInt8 := (body t).takeWhile isD
def rst (t : List UInt8) : List UInt8 := (body t).dropWhile isD
/-- the millionths that a text says -/
def mic (t : List UInt8) : Int × Int :=
  if 64 < t.length then (0, 4)
  else if ahd t = [] then (0, 22)
  else match rst t with
    | [] => fin (negOf t) (micV (ahd t) [])
    | c :: B => if c = 46 ∧ B ≠ [] ∧ B.all isD = true ∧ B.length ≤ 6 then fin (negOf t) (micV (ahd t) B) else (0, 22)
theorem mic_in (t : List UInt8) : -180000000 ≤ (mic t).1 ∧ (mic t).1 ≤ 180000000 := by
  have hf : ∀ b v, -180000000 ≤ (fin b v).1 ∧ (fin b v).1 ≤ 180000000 := by
    intro b v
    unfold fin
    split
    · simp
    · split <;> simp <;> omega
  unfold mic
  split
  · simp
  · split
    · simp
    · split
      · exact hf _ _
      · split
        · exact hf _ _
        · simp
theorem ofNat_toNat {k : Nat} (h : k < 256) : (UInt8.ofNat k).toNat = k := by
  simp [UInt8.toNat_ofNat']
  omega
theorem dig_isD {d : Nat} (h : d < 10) : isD (UInt8.ofNat (48 + d)) = true := by
  rw [isD_iff, ofNat_toNat (by omega)]
  omega
theorem num_dig (v : Nat) {d : Nat} (h : d < 10) : num v [UInt8.ofNat (48 + d)] = v * 10 + d := by
  rw [num_cons, if_pos (dig_isD h), num_nil, ofNat_toNat (by omega)]
  omega
theorem dec_small {u : Nat} (h : u < 10) : decDigits u = [UInt8.ofNat (48 + u)] := by rw [decDigits, dif_pos h]
theorem dec_big {u : Nat} (h : ¬ u < 10) : decDigits u = decDigits (u / 10) ++ [UInt8.ofNat (48 + u % 10)] := by rw [decDigits, dif_neg h]
theorem dec_all (u : Nat) : (decDigits u).all isD = true := by
  induction u using Nat.strongRecOn with
  | ind u ih =>
    by_cases h : u < 10
    · rw [dec_small h]; simp only [List.all_cons, List.all_nil, Bool.and_true, dig_isD h]
    · rw [dec_big h, List.all_append, ih (u / 10) (by omega)]
      simp only [List.all_cons, List.all_nil, Bool.and_true, dig_isD (Nat.mod_lt u (by omega : 0 < 10))]
theorem dec_ne (u : Nat) : decDigits u ≠ [] := by
  by_cases h : u < 10
  · rw [dec_small h]; simp
  · rw [dec_big h]; simp
theorem num_dec (u : Nat) : num 0 (decDigits u) = u := by
  induction u using Nat.strongRecOn with
  | ind u ih =>
    by_cases h : u < 10
    · rw [dec_small h, num_dig 0 h]; omega
    · rw [dec_big h, num_app, ih (u / 10) (by omega), num_dig _ (Nat.mod_lt u (by omega))]
      omega
/-- the digit j of six behind the point -/
def dg6 (p j : Nat) : UInt8 := UInt8.ofNat (48 + p / 10 ^ (5 - j) % 10)
def D6 (p : Nat) : List UInt8 := [dg6 p 0, dg6 p 1, dg6 p 2, dg6 p 3, dg6 p 4, dg6 p 5]
theorem dec_million {p : Nat} (h : p < 1000000) : decDigits (1000000 + p) = 49 :: D6 p := by
  have e (u : Nat) (hu : 10 ≤ u) : decDigits u = decDigits (u / 10) ++ [UInt8.ofNat (48 + u % 10)] := dec_big (by omega)
  rw [e _ (by omega), e ((1000000 + p) / 10) (by omega), e ((1000000 + p) / 10 / 10) (by omega), e ((1000000 + p) / 10 / 10 / 10) (by omega), e ((1000000 + p) / 10 / 10 / 10 / 10) (by omega), e ((1000000 + p) / 10 / 10 / 10 / 10 / 10) (by omega), dec_small (u := (1000000 + p) / 10 / 10 / 10 / 10 / 10 / 10) (by omega)]
  have h0 : (1000000 + p) / 10 / 10 / 10 / 10 / 10 / 10 = 1 := by omega
  have h1 : (1000000 + p) / 10 / 10 / 10 / 10 / 10 % 10 = p / 100000 % 10 := by omega
  have h2 : (1000000 + p) / 10 / 10 / 10 / 10 % 10 = p / 10000 % 10 := by omega
  have h3 : (1000000 + p) / 10 / 10 / 10 % 10 = p / 1000 % 10 := by omega
  have h4 : (1000000 + p) / 10 / 10 % 10 = p / 100 % 10 := by omega
  have h5 : (1000000 + p) / 10 % 10 = p / 10 % 10 := by omega
  have h6 : (1000000 + p) % 10 = p / 1 % 10 := by omega
  rw [h0, h1, h2, h3, h4, h5, h6]
  rfl
/-- how many of the six digits are told: up to the last that is not 0 -/
def cut6 (p : Nat) : Nat :=
  if p = 0 then 0 else if p % 100000 = 0 then 1 else if p % 10000 = 0 then 2 else if p % 1000 = 0 then 3 else if p % 100 = 0 then 4 else if p % 10 = 0 then 5 else 6
/-- a number of millionths as a text -/
def deg (m : Int) : List UInt8 :=
  (if m < 0 then [45] else []) ++ decDigits (m.natAbs / 1000000) ++ (if m.natAbs % 1000000 = 0 then [] else 46 :: (D6 (m.natAbs % 1000000)).take (cut6 (m.natAbs % 1000000)))
theorem dg6_zero {p j : Nat} (h : p / 10 ^ (5 - j) % 10 = 0) : dg6 p j = 48 := by unfold dg6; rw [h]; rfl
theorem dg6_not {p j : Nat} (h : p / 10 ^ (5 - j) % 10 ≠ 0) : dg6 p j ≠ 48 := by
  unfold dg6
  intro e
  have := congrArg UInt8.toNat e
  rw [ofNat_toNat (by omega)] at this
  simp at this
  omega
theorem cut6_le (p : Nat) : cut6 p ≤ 6 := by unfold cut6; (repeat' split) <;> omega
theorem trim_D6 {p : Nat} (h0 : p ≠ 0) (h : p < 1000000) : trimRightS (D6 p) [48] = (D6 p).take (cut6 p) := by
  have hc (b : UInt8) : ([48] : List UInt8).contains b = (b == 48) := by simp only [List.contains, List.elem]; cases (b == 48) <;> rfl
  have z (j : Nat) (hz : p / 10 ^ (5 - j) % 10 = 0) : (dg6 p j == 48) = true := by simpa using dg6_zero hz
  have n (j : Nat) (hz : p / 10 ^ (5 - j) % 10 ≠ 0) : (dg6 p j == 48) = false := by simpa using dg6_not hz
  have e5 : p / 10 ^ (5 - 5) = p := by simp
  have e4 : p / 10 ^ (5 - 4) = p / 10 := by simp
  have e3 : p / 10 ^ (5 - 3) = p / 100 := by simp
  have e2 : p / 10 ^ (5 - 2) = p / 1000 := by simp
  have e1 : p / 10 ^ (5 - 1) = p / 10000 := by simp
  have e0 : p / 10 ^ (5 - 0) = p / 100000 := by simp
  unfold trimRightS D6 cut6
  simp only [List.reverse_cons, List.reverse_nil, List.nil_append, List.cons_append, List.dropWhile_cons, hc]
  rw [if_neg h0]
  by_cases c5 : p % 10 = 0
  · have d5 := z 5 (by rw [e5]; omega)
    by_cases c4 : p % 100 = 0
    · have d4 := z 4 (by rw [e4]; omega)
      by_cases c3 : p % 1000 = 0
      · have d3 := z 3 (by rw [e3]; omega)
        by_cases c2 : p % 10000 = 0
        · have d2 := z 2 (by rw [e2]; omega)
          by_cases c1 : p % 100000 = 0
          · have d1 := z 1 (by rw [e1]; omega)
            have d0 := n 0 (by rw [e0]; omega)
            simp [d5, d4, d3, d2, d1, d0, c1]
          · have d1 := n 1 (by rw [e1]; omega)
            simp [d5, d4, d3, d2, d1, c1, c2]
        · have d2 := n 2 (by rw [e2]; omega)
          simp [d5, d4, d3, d2, c2, c3, show ¬ p % 100000 = 0 by omega]
      · have d3 := n 3 (by rw [e3]; omega)
        simp [d5, d4, d3, c3, c4, show ¬ p % 100000 = 0 by omega, show ¬ p % 10000 = 0 by omega]
    · have d4 := n 4 (by rw [e4]; omega)
      simp [d5, d4, c4, c5, show ¬ p % 100000 = 0 by omega, show ¬ p % 10000 = 0 by omega, show ¬ p % 1000 = 0 by omega]
  · have d5 := n 5 (by rw [e5]; omega)
    simp [d5, c5, show ¬ p % 100000 = 0 by omega, show ¬ p % 10000 = 0 by omega, show ¬ p % 1000 = 0 by omega, show ¬ p % 100 = 0 by omega]
theorem dg6_num (v p j : Nat) : num v [dg6 p j] = v * 10 + p / 10 ^ (5 - j) % 10 := num_dig v (Nat.mod_lt _ (by omega))
theorem num_cut {q p : Nat} (h0 : p ≠ 0) (h : p < 1000000) : num q ((D6 p).take (cut6 p)) * 10 ^ (6 - cut6 p) = q * 1000000 + p := by
  have c (v : Nat) (b : UInt8) (l : List UInt8) : num v (b :: l) = num (num v [b]) l := num_app v [b] l
  unfold D6 cut6
  rw [if_neg h0]
  split
  · simp only [List.take_succ_cons, List.take_zero, dg6_num]; simp; omega
  · split
    · simp only [List.take_succ_cons, List.take_zero]; rw [c, dg6_num, dg6_num]; simp; omega
    · split
      · simp only [List.take_succ_cons, List.take_zero]; rw [c, dg6_num, c, dg6_num, dg6_num]; simp; omega
      · split
        · simp only [List.take_succ_cons, List.take_zero]; rw [c, dg6_num, c, dg6_num, c, dg6_num, dg6_num]; simp; omega
        · split
          · simp only [List.take_succ_cons, List.take_zero]; rw [c, dg6_num, c, dg6_num, c, dg6_num, c, dg6_num, dg6_num]; simp; omega
          · simp only [List.take_succ_cons, List.take_nil]; rw [c, dg6_num, c, dg6_num, c, dg6_num, c, dg6_num, c, dg6_num, dg6_num]; simp; omega
theorem D6_all (p : Nat) : (D6 p).all isD = true := by
  simp only [D6, dg6, List.all_cons, List.all_nil, Bool.and_true, dig_isD (Nat.mod_lt _ (by omega : 0 < 10))]
theorem dec_len {q : Nat} (h : q < 10000) : (decDigits q).length ≤ 4 := by
  by_cases h1 : q < 10
  · rw [dec_small h1]; simp
  · rw [dec_big h1]
    by_cases h2 : q / 10 < 10
    · rw [dec_small h2]; simp
    · rw [dec_big h2]
      by_cases h3 : q / 10 / 10 < 10
      · rw [dec_small h3]; simp
      · rw [dec_big h3, dec_small (u := q / 10 / 10 / 10) (by omega)]; simp
/-- what is told is read as it was -/
theorem mic_deg {m : Int} (h1 : -180000000 ≤ m) (h2 : m ≤ 180000000) : mic (deg m) = (m, 0) := by
  obtain ⟨q, hq⟩ : ∃ q, q = m.natAbs / 1000000 := ⟨_, rfl⟩
  obtain ⟨p, hp⟩ : ∃ p, p = m.natAbs % 1000000 := ⟨_, rfl⟩
  have hm : m.natAbs = q * 1000000 + p := by omega
  have hp1 : p < 1000000 := by omega
  have hq1 : q < 10000 := by omega
  have hl := dec_len hq1
  obtain ⟨R, hR⟩ : ∃ R, R = (if p = 0 then ([] : List UInt8) else 46 :: (D6 p).take (cut6 p)) := ⟨_, rfl⟩
  have hRl : R.length ≤ 7 := by
    rw [hR]
    have := cut6_le p
    split
    · simp
    · simp [D6]; omega
  have hRd : R.takeWhile isD = [] ∧ R.dropWhile isD = R := by
    rw [hR]
    split
    · simp
    · have : isD 46 = false := by decide
      exact ⟨by rw [List.takeWhile_cons, this]; rfl, by rw [List.dropWhile_cons, this]; rfl⟩
  have hd : deg m = (if m < 0 then [45] else []) ++ decDigits q ++ R := by unfold deg; rw [← hq, ← hp, ← hR]
  have hall : ∀ a ∈ decDigits q, isD a = true := List.all_eq_true.1 (dec_all q)
  have hng : negOf (deg m) = decide (m < 0) := by
    rw [hd]
    unfold negOf
    by_cases h : m < 0
    · simp [h]
    · cases hdq : decDigits q with
      | nil => exact absurd hdq (dec_ne q)
      | cons a l =>
        have := hall a (by rw [hdq]; simp)
        rw [isD_iff] at this
        have h45 : a ≠ 45 := by rintro rfl; simp at this
        simp [h, h45]
  have hb : body (deg m) = decDigits q ++ R := by
    unfold body
    rw [hng, hd]
    by_cases h : m < 0 <;> simp [h]
  have hah : ahd (deg m) = decDigits q := by
    unfold ahd
    rw [hb, List.takeWhile_append_of_pos hall, hRd.1, List.append_nil]
  have hrs : rst (deg m) = R := by
    unfold rst
    rw [hb, List.dropWhile_append_of_pos hall, hRd.2]
  have hfin : ∀ v : Nat, v = m.natAbs → fin (decide (m < 0)) v = (m, 0) := by
    rintro v rfl
    unfold fin
    rw [if_neg (by omega)]
    by_cases h : m < 0
    · simp only [h, decide_true, if_true, Prod.mk.injEq, and_true]; omega
    · simp only [h, decide_false, Bool.false_eq_true, if_false, Prod.mk.injEq, and_true]; omega
  unfold mic
  rw [if_neg (by rw [hd]; simp only [List.length_append]; split <;> simp <;> omega), hah, if_neg (dec_ne q), hrs, hng]
  by_cases h0 : p = 0
  · rw [hR, if_pos h0]
    simp only []
    refine hfin _ ?_
    unfold micV
    rw [num_dec, num_nil]
    simp
    omega
  · rw [hR, if_neg h0]
    simp only []
    have hk : 0 < cut6 p := by unfold cut6; rw [if_neg h0]; (repeat' split) <;> omega
    have hlen : ((D6 p).take (cut6 p)).length = cut6 p := by
      have := cut6_le p
      rw [List.length_take]
      simp [D6]
      omega
    have hne : (D6 p).take (cut6 p) ≠ [] := by
      intro e
      rw [e] at hlen
      have : (0 : Nat) = cut6 p := hlen
      omega
    have hal : ((D6 p).take (cut6 p)).all isD = true := List.all_eq_true.2 fun a ha => List.all_eq_true.1 (D6_all p) a (List.mem_of_mem_take ha)
    rw [if_pos ⟨trivial, hne, hal, by rw [hlen]; exact cut6_le p⟩]
    refine hfin _ ?_
    unfold micV
    rw [num_dec, hlen, num_cut h0 hp1]
    omega
end Dg
end Go.Proofs.YtdhelpbhbhihaaaGreatDoor
