/-
  DgQ: plain: the package's way of reading millionths comes to the same. No program in sight.
-/
import Derived.Test.YtdhelpbhbhihaaaGreatDoorDgP
namespace Go.Proofs.YtdhelpbhbhihaaaGreatDoor
open Go.Lib
set_option linter.unusedVariables false
namespace Dg
def np (b : UInt8) : Bool := b != 46
def cutA (b : List UInt8) : List UInt8 := b.takeWhile np
def cutR (b : List UInt8) : List UInt8 := b.dropWhile np
theorem cut_app (b : List UInt8) : cutA b ++ cutR b = b := List.takeWhile_append_dropWhile
theorem cutR_head (b : List UInt8) : cutR b = [] ∨ ∃ B, cutR b = 46 :: B := by
  unfold cutR
  induction b with
  | nil => exact .inl rfl
  | cons x b ih =>
    rw [List.dropWhile_cons]
    by_cases h : np x = true
    · rw [if_pos h]; exact ih
    · rw [if_neg h]
      have : x = 46 := by simpa [np] using h
      exact .inr ⟨b, by rw [this]⟩
theorem not_dot {x : UInt8} (h : isD x = true) : np x = true := by
  have h1 := (isD_iff x).1 h
  unfold np
  rw [bne_iff_ne]
  rintro rfl
  have : (46 : UInt8).toNat = 46 := rfl
  omega
theorem isD_dot : isD 46 = false := by decide
/-- where all ahead of the point is digits, the digits end there -/
theorem ahd_cut {b : List UInt8} (h : (cutA b).all isD = true) : b.takeWhile isD = cutA b ∧ b.dropWhile isD = cutR b := by
  have hall := List.all_eq_true.1 h
  have hb := cut_app b
  have h1 : (cutA b ++ cutR b).takeWhile isD = cutA b ++ (cutR b).takeWhile isD := List.takeWhile_append_of_pos hall
  have h2 : (cutA b ++ cutR b).dropWhile isD = (cutR b).dropWhile isD := List.dropWhile_append_of_pos hall
  rw [hb] at h1 h2
  rcases cutR_head b with e | ⟨B, e⟩
  · rw [e] at h1 h2 ⊢
    exact ⟨by rw [h1]; simp, by rw [h2]; simp⟩
  · rw [e] at h1 h2 ⊢
    exact ⟨by rw [h1, List.takeWhile_cons, isD_dot]; simp, by rw [h2, List.dropWhile_cons, isD_dot]; simp⟩
/-- else the first that is no digit is no point -/
theorem ahd_bad : ∀ {b : List UInt8}, (cutA b).all isD = false → ∃ c r, b.dropWhile isD = c :: r ∧ c ≠ 46 := by
  intro b
  induction b with
  | nil => intro h; simp [cutA] at h
  | cons x b ih =>
    intro h
    unfold cutA at h
    rw [List.takeWhile_cons] at h
    by_cases hn : np x = true
    · rw [if_pos hn, List.all_cons] at h
      by_cases hd : isD x = true
      · rw [hd, Bool.true_and] at h
        obtain ⟨c, r, h1, h2⟩ := ih h
        exact ⟨c, r, by rw [List.dropWhile_cons, if_pos hd]; exact h1, h2⟩
      · refine ⟨x, b, by rw [List.dropWhile_cons, if_neg hd], ?_⟩
        simpa [np] using hn
    · rw [if_neg hn] at h
      simp at h
theorem cutA_nil {b : List UInt8} (h : cutA b = []) : b.takeWhile isD = [] := by
  cases b with
  | nil => rfl
  | cons x b =>
    unfold cutA at h
    rw [List.takeWhile_cons] at h
    by_cases hn : np x = true
    · rw [if_pos hn] at h; cases h
    · rw [List.takeWhile_cons]
      by_cases hd : isD x = true
      · exact absurd (not_dot hd) hn
      · rw [if_neg hd]
/-- wrong ahead of the point -/
theorem mic_bad {t : List UInt8} (hl : t.length ≤ 64) (h : cutA (body t) = [] ∨ (cutA (body t)).all isD = false) : mic t = (0, 22) := by
  unfold mic
  rw [if_neg (by omega)]
  rcases h with h | h
  · have : ahd t = [] := cutA_nil h
    rw [if_pos this]
  · obtain ⟨c, r, h1, h2⟩ := ahd_bad h
    have h3 : rst t = c :: r := h1
    split
    · rfl
    · rw [h3]
      simp only []
      rw [if_neg (fun x => h2 x.1)]
theorem mic_none {t : List UInt8} (hl : t.length ≤ 64) (h0 : cutA (body t) ≠ []) (h : (cutA (body t)).all isD = true) (hr : cutR (body t) = []) : mic t = fin (negOf t) (micV (cutA (body t)) []) := by
  obtain ⟨h1, h2⟩ := ahd_cut h
  have e1 : ahd t = cutA (body t) := h1
  have e2 : rst t = [] := h2.trans hr
  unfold mic
  rw [if_neg (by omega), e1, if_neg h0, e2]
theorem mic_some {t B : List UInt8} (hl : t.length ≤ 64) (h0 : cutA (body t) ≠ []) (h : (cutA (body t)).all isD = true) (hr : cutR (body t) = 46 :: B) : mic t = if B ≠ [] ∧ B.all isD = true ∧ B.length ≤ 6 then fin (negOf t) (micV (cutA (body t)) B) else (0, 22) := by
  obtain ⟨h1, h2⟩ := ahd_cut h
  have e1 : ahd t = cutA (body t) := h1
  have e2 : rst t = 46 :: B := h2.trans hr
  unfold mic
  rw [if_neg (by omega), e1, if_neg h0, e2]
  simp only [true_and]
/-- zeros ahead count nothing -/
theorem num_zeros (A : List UInt8) : num 0 (A.dropWhile fun b => ([48] : List UInt8).contains b) = num 0 A := by
  induction A with
  | nil => rfl
  | cons x A ih =>
    rw [List.dropWhile_cons]
    by_cases h : ([48] : List UInt8).contains x = true
    · rw [if_pos h, ih]
      have hx : x = 48 := by simpa using h
      subst hx
      rfl
    · rw [if_neg h]
theorem dropZ_all {A : List UInt8} (h : A.all isD = true) : (A.dropWhile fun b => ([48] : List UInt8).contains b).all isD = true :=
  List.all_eq_true.2 fun a ha => List.all_eq_true.1 h a ((List.dropWhile_sublist _).mem ha)
theorem num_lt {l : List UInt8} (v : Nat) : num v l < (v + 1) * 10 ^ l.length := by
  induction l generalizing v with
  | nil => rw [num_nil, List.length_nil, Nat.pow_zero]; omega
  | cons b l ih =>
    rw [num_cons, List.length_cons, Nat.pow_succ]
    by_cases h : isD b = true
    · rw [if_pos h]
      have h1 := (isD_iff b).1 h
      have h2 := ih (v * 10 + (b.toNat - 48))
      have h3 : (v * 10 + (b.toNat - 48) + 1) * 10 ^ l.length ≤ ((v + 1) * 10) * 10 ^ l.length := Nat.mul_le_mul_right _ (by omega)
      rw [show (v + 1) * (10 ^ l.length * 10) = ((v + 1) * 10) * 10 ^ l.length by rw [Nat.mul_comm (10 ^ l.length) 10, Nat.mul_assoc]]
      omega
    · rw [if_neg h]
      have h2 := ih v
      have h3 : (v + 1) * 10 ^ l.length ≤ (v + 1) * (10 ^ l.length * 10) := Nat.mul_le_mul_left _ (by omega)
      omega
/-- a first digit that is no zero -/
theorem num_big {l : List UInt8} (h : l.all isD = true) (h0 : ∀ x r, l = x :: r → x ≠ 48) (h3 : 3 < l.length) : 1000 ≤ num 0 l := by
  match l, h3 with
  | a :: b :: c :: d :: r, _ =>
    have ha := h0 a _ rfl
    simp only [List.all_cons, Bool.and_eq_true] at h
    obtain ⟨h1, h2, h3, h4, _⟩ := h
    have e1 := (isD_iff a).1 h1
    have hne : a.toNat ≠ 48 := fun e => ha (UInt8.toNat_inj.1 (by rw [e]; rfl))
    rw [num_cons, if_pos h1, num_cons, if_pos h2, num_cons, if_pos h3, num_cons, if_pos h4]
    refine Nat.le_trans ?_ (num_ge _ r)
    omega
theorem dropZ_head (A : List UInt8) : ∀ x r, (A.dropWhile fun b => ([48] : List UInt8).contains b) = x :: r → x ≠ 48 := by
  induction A with
  | nil => intro x r h; simp at h
  | cons y A ih =>
    intro x r h
    rw [List.dropWhile_cons] at h
    by_cases hy : ([48] : List UInt8).contains y = true
    · rw [if_pos hy] at h; exact ih x r h
    · rw [if_neg hy] at h
      have e := (List.cons.inj h).1
      subst e
      rintro rfl
      exact hy (by decide)
theorem num_rep (v k : Nat) : num v (repeatL [48] k) = v * 10 ^ k := by
  induction k generalizing v with
  | zero => simp [repeatL, num_nil]
  | succ k ih =>
    have : repeatL [48] (k + 1) = 48 :: repeatL [48] k := rfl
    rw [this, num_cons, if_pos (by decide), Nat.pow_succ]
    have : (48 : UInt8).toNat = 48 := rfl
    rw [this, Nat.sub_self, Nat.add_zero, ih, Nat.mul_assoc, Nat.mul_comm 10 (10 ^ k)]
theorem rep_all (k : Nat) : (repeatL [48] k).all isD = true := by
  induction k with
  | zero => rfl
  | succ k ih =>
    have : repeatL [48] (k + 1) = 48 :: repeatL [48] k := rfl
    rw [this, List.all_cons, ih]
    decide
theorem parse_num {l : List UInt8} (h : l.all isD = true) (v : Nat) (hb : num v l < 1000000000000000000) : parseUint10 v l = .ok (num v l) := by
  induction l generalizing v with
  | nil => rfl
  | cons b l ih =>
    rw [List.all_cons, Bool.and_eq_true] at h
    have h1 := (isD_iff b).1 h.1
    rw [num_cons, if_pos h.1] at hb ⊢
    have h2 := num_ge (v * 10 + (b.toNat - 48)) l
    unfold parseUint10
    rw [if_pos h1, if_neg (by omega), if_neg (by omega)]
    exact ih h.2 _ hb
/-- what the library makes of the digits -/
theorem atoi_mic {A B : List UInt8} (hA : A.all isD = true) (hB : B.all isD = true) (hA3 : A.length ≤ 3) (hB6 : B.length ≤ 6) : atoiAll (48 :: (A ++ B ++ repeatL [48] (6 - B.length))) = .ok ((micV A B : Nat) : Int) ∧ micV A B < 1000000000 := by
  have hall : (A ++ B ++ repeatL [48] (6 - B.length)).all isD = true := by rw [List.all_append, List.all_append, hA, hB, rep_all]; rfl
  have hv : num 0 (A ++ B ++ repeatL [48] (6 - B.length)) = micV A B := by rw [num_app, num_app, num_rep]; rfl
  have hl : (A ++ B ++ repeatL [48] (6 - B.length)).length ≤ 9 := by
    rw [List.length_append, List.length_append, repeatL_length]
    simp
    omega
  have hlt := num_lt (l := A ++ B ++ repeatL [48] (6 - B.length)) 0
  have hp : 10 ^ (A ++ B ++ repeatL [48] (6 - B.length)).length ≤ 10 ^ 9 := Nat.pow_le_pow_right (by omega) hl
  have e9 : (10 : Nat) ^ 9 = 1000000000 := by decide
  rw [hv] at hlt
  have hlt2 : micV A B < 1000000000 := by omega
  refine ⟨?_, hlt2⟩
  generalize hL : A ++ B ++ repeatL [48] (6 - B.length) = L at hall hv
  have h48 : (48 : UInt8).toNat = 48 := rfl
  have hp2 : parseMag (48 :: L) = .ok (micV A B) := by
    unfold parseMag
    rw [if_neg (by simp)]
    have := parse_num (l := 48 :: L) (by rw [List.all_cons, hall]; decide) 0 (by
      rw [num_cons, if_pos (by decide), h48]
      simp only [Nat.sub_self, Nat.zero_mul, Nat.add_zero]
      rw [hv]; omega)
    rw [this, num_cons, if_pos (by decide), h48]
    simp only [Nat.sub_self, Nat.zero_mul, Nat.add_zero]
    rw [hv]
  unfold atoiAll
  simp only [h48]
  rw [if_neg (by omega), hp2]
  simp only []
  rw [if_neg (by omega)]
  simp
end Dg
end Go.Proofs.YtdhelpbhbhihaaaGreatDoor
