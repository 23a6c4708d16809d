/-
  FlP: plain: floats of 64 bits as whole numbers of units of 2 ^ -1074: what a sum is, what rounding gives. No program in sight.
-/
import Derived.Test.YtdhelpbhbhihaaaGreatDoorRlP
import Derived.Laws.FloatBits
import Derived.KernelRfl
namespace Go.Proofs.YtdhelpbhbhihaaaGreatDoor
set_option linter.unusedVariables false
namespace Fl
open Ieee Rl
theorem signed_abs (s : Bool) (m k : Nat) : (signed s m k).natAbs = m * 2 ^ k := by
  unfold signed
  rw [Nat.shiftLeft_eq]
  generalize m * 2 ^ k = q
  cases s <;> simp
theorem signed_pos (s : Bool) (m k : Nat) : signed false m k = ((signed s m k).natAbs : Int) := by
  rw [signed_abs]
  unfold signed
  rw [Nat.shiftLeft_eq]
  simp
theorem log2_up {n : Nat} (h : n ≠ 0) (k : Nat) : (n * 2 ^ k).log2 = n.log2 + k := by
  have hp := Nat.two_pow_pos k
  refine (Nat.log2_eq_iff (Nat.mul_ne_zero h (by omega))).2 ⟨?_, ?_⟩
  · rw [Nat.pow_add]
    exact Nat.mul_le_mul_right _ (Nat.log2_self_le h)
  · rw [show n.log2 + k + 1 = (n.log2 + 1) + k by omega, Nat.pow_add]
    exact Nat.mul_lt_mul_of_pos_right Nat.lt_log2_self hp
theorem cut_shift (neg : Bool) {n : Nat} (h : n ≠ 0) (d k : Nat) : Toward.even.cut neg (n * 2 ^ k) (d + k) = Toward.even.cut neg n d := by
  have hp := Nat.two_pow_pos k
  unfold Toward.cut
  rw [log2_up h]
  have e : min (d + k) (n.log2 + k + 2) = min d (n.log2 + 2) + k := by omega
  rw [e]
  generalize min d (n.log2 + 2) = g
  simp only [Nat.shiftLeft_eq, Nat.one_mul, Nat.pow_add]
  have e1 : n * 2 ^ k / (2 ^ g * 2 ^ k) = n / 2 ^ g := Nat.mul_div_mul_right n (2 ^ g) hp
  have e2 : n * 2 ^ k % (2 ^ g * 2 ^ k) = n % 2 ^ g * 2 ^ k := Nat.mul_mod_mul_right (2 ^ k) n (2 ^ g)
  rw [e1, e2]
  have e3 : 2 * (n % 2 ^ g * 2 ^ k) = (2 * (n % 2 ^ g)) * 2 ^ k := by rw [Nat.mul_assoc]
  rw [e3]
  have e4 : (2 ^ g * 2 ^ k < 2 * (n % 2 ^ g) * 2 ^ k) ↔ (2 ^ g < 2 * (n % 2 ^ g)) := Nat.mul_lt_mul_right hp
  have e5 : (2 ^ g * 2 ^ k == 2 * (n % 2 ^ g) * 2 ^ k) = (2 ^ g == 2 * (n % 2 ^ g)) := by
    rw [Bool.eq_iff_iff]
    simp only [beq_iff_eq]
    exact Nat.mul_left_inj (by omega)
  simp only [e4, e5]
theorem cut_zero (neg : Bool) (n : Nat) : Toward.even.cut neg n 0 = n := by
  unfold Toward.cut
  simp [Nat.shiftLeft_eq, Nat.mod_one]
theorem cut_exact (neg : Bool) {n : Nat} (h : n ≠ 0) (d : Nat) : Toward.even.cut neg (n * 2 ^ d) d = n := by
  have := cut_shift neg h 0 d
  rw [Nat.zero_add] at this
  rw [this, cut_zero]
/-- a number may be told in smaller units -/
theorem nearest_shift (f : Format) (neg : Bool) (m k : Nat) (place : Int) : f.nearest neg (m * 2 ^ k) (place - k) = f.nearest neg m place := by
  by_cases h : m = 0
  · subst h; simp [Format.nearest]
  have hm : m * 2 ^ k ≠ 0 := Nat.mul_ne_zero h (by have := Nat.two_pow_pos k; omega)
  unfold Format.nearest
  rw [if_neg h, if_neg hm, log2_up h]
  have e : place - (k : Int) + ((m.log2 + k : Nat) : Int) - f.fractionBits = place + m.log2 - f.fractionBits := by omega
  simp only [e]
  generalize max (place + (m.log2 : Int) - f.fractionBits) f.leastPlace = last
  have hc : Toward.even.cut neg ((m * 2 ^ k) <<< (place - k - last).toNat) (last - (place - k)).toNat = Toward.even.cut neg (m <<< (place - last).toNat) (last - place).toNat := by
    simp only [Nat.shiftLeft_eq]
    by_cases h1 : place < last
    · have a1 : (place - k - last).toNat = 0 := by omega
      have a2 : (place - last).toNat = 0 := by omega
      have a3 : (last - (place - k)).toNat = (last - place).toNat + k := by omega
      rw [a1, a2, a3, Nat.pow_zero, Nat.mul_one, Nat.mul_one]
      exact cut_shift neg h _ _
    · have b2 : (last - place).toNat = 0 := by omega
      rw [b2, cut_zero]
      by_cases h2 : (k : Int) ≤ place - last
      · have a1 : (last - (place - k)).toNat = 0 := by omega
        have a2 : (place - last).toNat = k + (place - k - last).toNat := by omega
        rw [a1, cut_zero, a2, Nat.pow_add, Nat.mul_assoc]
      · have a1 : (place - k - last).toNat = 0 := by omega
        have a2 : k = (place - last).toNat + (last - (place - k)).toNat := by omega
        rw [a1, Nat.pow_zero, Nat.mul_one]
        have a3 : m * 2 ^ k = m * 2 ^ (place - last).toNat * 2 ^ (last - (place - k)).toNat := by
          rw [Nat.mul_assoc, ← Nat.pow_add, ← a2]
        rw [a3]
        exact cut_exact neg (Nat.mul_ne_zero h (by have := Nat.two_pow_pos (place - last).toNat; omega)) _
  rw [hc]
abbrev F : Format := FloatKind.f64.format
theorem least_eq : F.leastPlace = -1074 := by decide
theorem frac_eq : F.fractionBits = 52 := rfl
theorem binade_eq : F.binade = 4503599627370496 := by decide
theorem inf_eq : F.infRung = 9218868437227405312 := by decide
theorem weight_eq : F.signWeight = 9223372036854775808 := by decide
theorem read_word (neg : Bool) {r : Nat} (h : r < F.infRung) : K (F.word neg r) = (1, signed neg (if r < F.binade then r else F.binade + r % F.binade) (r / F.binade - 1)) := by
  have hw : r < F.signWeight := Nat.lt_trans h F.infRung_lt
  have h1 : (F.word neg r / F.signWeight % 2 == 1) = neg := by
    unfold Format.word
    rw [weight_eq] at hw ⊢
    cases neg
    · simp; omega
    · simp; omega
  have h2 : F.word neg r % F.signWeight = r := by
    unfold Format.word
    rw [weight_eq] at hw ⊢
    cases neg
    · simp; omega
    · simp; omega
  unfold K Format.read
  simp only []
  rw [h2]
  by_cases hb : r < F.binade
  · rw [if_pos hb, if_pos hb]
    have : r / F.binade - 1 = 0 := by rw [binade_eq] at hb ⊢; omega
    rw [this]
    show key _ _ = _
    rw [show (F.word neg r / F.signWeight % 2 == 1) = neg from h1]
    simp [key]
  · rw [if_neg hb, if_neg hb, if_pos h]
    rw [show (F.word neg r / F.signWeight % 2 == 1) = neg from h1]
    show (1, signed neg _ _) = _
    congr 2
    show (F.leastPlace + ((r / F.binade - 1 : Nat) : Int) - F.leastPlace).toNat = _
    omega
theorem signed_eq (s : Bool) (m k : Nat) : signed s m k = if s then -((m * 2 ^ k : Nat) : Int) else ((m * 2 ^ k : Nat) : Int) := by
  unfold signed
  rw [Nat.shiftLeft_eq]
theorem cut_eq (neg : Bool) {n d : Nat} (h : d ≤ n.log2 + 2) : Toward.even.cut neg n d = n / 2 ^ d + (decide (2 ^ d < 2 * (n % 2 ^ d)) || (2 ^ d == 2 * (n % 2 ^ d) && n / 2 ^ d % 2 == 1)).toNat := by
  unfold Toward.cut
  have e : min d (n.log2 + 2) = d := by omega
  simp only [e, Nat.shiftLeft_eq, Nat.one_mul]
theorem toNat_le (b : Bool) : b.toNat ≤ 1 := by cases b <;> simp
theorem kept_in (neg : Bool) {n : Nat} (h : n ≠ 0) (hd : 0 < n.log2 - 52) : 4503599627370496 ≤ Toward.even.cut neg n (n.log2 - 52) ∧ Toward.even.cut neg n (n.log2 - 52) ≤ 9007199254740992 := by
  rw [cut_eq neg (by omega)]
  generalize hb : (decide (2 ^ (n.log2 - 52) < 2 * (n % 2 ^ (n.log2 - 52))) || (2 ^ (n.log2 - 52) == 2 * (n % 2 ^ (n.log2 - 52)) && n / 2 ^ (n.log2 - 52) % 2 == 1)) = b
  have hb := toNat_le b
  have hp := Nat.two_pow_pos (n.log2 - 52)
  have h1 : 4503599627370496 ≤ n / 2 ^ (n.log2 - 52) := by
    rw [Nat.le_div_iff_mul_le hp]
    have := Nat.log2_self_le h
    rw [show n.log2 = 52 + (n.log2 - 52) by omega, Nat.pow_add] at this
    simpa using this
  have h2 : n / 2 ^ (n.log2 - 52) < 9007199254740992 := by
    rw [Nat.div_lt_iff_lt_mul hp]
    have := @Nat.lt_log2_self n
    rw [show n.log2 + 1 = 53 + (n.log2 - 52) by omega, Nat.pow_add] at this
    simpa using this
  omega
theorem K_nearest (sg : Bool) {n : Nat} (h : n ≠ 0) (hL : n.log2 < 2098) (hq : n.log2 < 2097 ∨ Toward.even.cut sg n (n.log2 - 52) < 9007199254740992) : K (F.nearest sg n F.leastPlace) = (1, signed sg (Toward.even.cut sg n (n.log2 - 52)) (n.log2 - 52)) := by
  unfold Format.nearest
  rw [if_neg h, frac_eq]
  have e1 : (F.leastPlace - max (F.leastPlace + (n.log2 : Int) - ((52 : Nat) : Int)) F.leastPlace).toNat = 0 := by omega
  have e2 : (max (F.leastPlace + (n.log2 : Int) - ((52 : Nat) : Int)) F.leastPlace - F.leastPlace).toNat = n.log2 - 52 := by omega
  simp only [e1, e2, Nat.shiftLeft_zero]
  by_cases hd : n.log2 - 52 = 0
  · rw [hd, cut_zero]
    have hn : n < 9007199254740992 := by
      have := @Nat.lt_log2_self n
      have h2 : 2 ^ (n.log2 + 1) ≤ 2 ^ 53 := Nat.pow_le_pow_right (by omega) (by omega)
      have h3 : (2 : Nat) ^ 53 = 9007199254740992 := by decide
      omega
    have e3 : min (0 * F.binade + n) F.infRung = n := by rw [inf_eq]; omega
    rw [e3, read_word sg (by rw [inf_eq]; omega)]
    rw [binade_eq]
    by_cases hb : n < 4503599627370496
    · rw [if_pos hb, show n / 4503599627370496 - 1 = 0 by omega]
    · rw [if_neg hb, show n / 4503599627370496 - 1 = 0 by omega, show 4503599627370496 + n % 4503599627370496 = n by omega]
  · obtain ⟨k1, k2⟩ := kept_in sg h (by omega)
    generalize Toward.even.cut sg n (n.log2 - 52) = q at k1 k2 hq
    have hd2 : n.log2 - 52 ≤ 2044 ∨ (n.log2 - 52 ≤ 2045 ∧ q < 9007199254740992) := by omega
    generalize n.log2 - 52 = d at hd hd2
    have e3 : min (d * F.binade + q) F.infRung = d * F.binade + q := by rw [inf_eq, binade_eq]; omega
    rw [e3, read_word sg (by rw [inf_eq, binade_eq]; omega), binade_eq, if_neg (by omega)]
    by_cases hq : q = 9007199254740992
    · subst hq
      rw [show (d * 4503599627370496 + 9007199254740992) / 4503599627370496 - 1 = d + 1 by omega, show 4503599627370496 + (d * 4503599627370496 + 9007199254740992) % 4503599627370496 = 4503599627370496 by omega]
      rw [signed_eq, signed_eq, Nat.pow_succ, show 4503599627370496 * (2 ^ d * 2) = 9007199254740992 * 2 ^ d by omega]
    · rw [show (d * 4503599627370496 + q) / 4503599627370496 - 1 = d by omega, show 4503599627370496 + (d * 4503599627370496 + q) % 4503599627370496 = q by omega]
/-- a number of no more than 53 digits is kept as it is -/
theorem K_exact (sg : Bool) {m k : Nat} (h : m ≠ 0) (hm : m < 9007199254740992) (hL : m.log2 + k < 2098) : K (F.nearest sg (m * 2 ^ k) F.leastPlace) = (1, signed sg m k) := by
  have hn : m * 2 ^ k ≠ 0 := Nat.mul_ne_zero h (by have := Nat.two_pow_pos k; omega)
  have hl := log2_up h k
  have h52 : m.log2 < 53 := (Nat.log2_lt h).2 (by simpa using hm)
  have e : m * 2 ^ k = (m * 2 ^ (k - (m.log2 + k - 52))) * 2 ^ (m.log2 + k - 52) := by
    rw [Nat.mul_assoc, ← Nat.pow_add, show k - (m.log2 + k - 52) + (m.log2 + k - 52) = k by omega]
  have hc : Toward.even.cut sg (m * 2 ^ k) (m.log2 + k - 52) = m * 2 ^ (k - (m.log2 + k - 52)) := by
    rw [e]; exact cut_exact sg (Nat.mul_ne_zero h (by have := Nat.two_pow_pos (k - (m.log2 + k - 52)); omega)) _
  have hq : m * 2 ^ (k - (m.log2 + k - 52)) < 9007199254740992 := by
    have h1 := log2_up h (k - (m.log2 + k - 52))
    have h2 : (m * 2 ^ (k - (m.log2 + k - 52))).log2 < 53 := by omega
    simpa using (Nat.log2_lt (Nat.mul_ne_zero h (by have := Nat.two_pow_pos (k - (m.log2 + k - 52)); omega))).1 h2
  rw [K_nearest sg hn (by omega) (.inr (by rw [hl, hc]; exact hq)), hl, hc, signed_eq, signed_eq, ← e]
theorem K_zero (sg : Bool) (p : Int) : K (F.nearest sg 0 p) = (1, 0) := by
  have : F.nearest sg 0 p = F.word sg 0 := by simp [Format.nearest]
  rw [this, read_word sg (by rw [inf_eq]; omega), binade_eq, if_pos (by omega), signed_eq]
  cases sg <;> simp
theorem fin_of {x : Nat} {a : Int} (h : K x = (1, a)) : ∃ s m i, F.read x = .number s m i ∧ F.leastPlace ≤ i ∧ a = signed s m (i - F.leastPlace).toNat := by
  have ho := over_read x
  unfold K at h
  cases hr : F.read x with
  | nan s t => rw [hr] at h; simp [key] at h
  | infinity s => rw [hr] at h; cases s <;> simp [key] at h
  | number s m i =>
    rw [hr] at h ho
    simp only [key, Prod.mk.injEq, true_and] at h
    exact ⟨s, m, i, rfl, ho, h.symm⟩
theorem scale_to (sg : Bool) (t : Nat) {base : Int} (hb : F.leastPlace ≤ base) : F.nearest sg t base = F.nearest sg (t * 2 ^ (base - F.leastPlace).toNat) F.leastPlace := by
  have := nearest_shift F sg t (base - F.leastPlace).toNat base
  rw [show base - ((base - F.leastPlace).toNat : Int) = F.leastPlace by omega] at this
  exact this.symm
theorem natAbs_up (t : Int) (k : Nat) : (t * (2 ^ k : Nat)).natAbs = t.natAbs * 2 ^ k := by rw [Int.natAbs_mul]; rfl
theorem add_K {x y : Nat} {a b : Int} (hx : K x = (1, a)) (hy : K y = (1, b)) : ∃ sg, F.add x y = some (F.nearest sg (a + b).natAbs F.leastPlace) ∧ (a + b ≠ 0 → sg = decide (a + b < 0)) := by
  obtain ⟨s, m, i, h1, h2, h3⟩ := fin_of hx
  obtain ⟨t, n, j, h4, h5, h6⟩ := fin_of hy
  have hi : (i - F.leastPlace).toNat = (i - min i j).toNat + (min i j - F.leastPlace).toNat := by omega
  have hj : (j - F.leastPlace).toNat = (j - min i j).toNat + (min i j - F.leastPlace).toNat := by omega
  rw [hi, signed_up] at h3
  rw [hj, signed_up] at h6
  have hs : a + b = (signed s m (i - min i j).toNat + signed t n (j - min i j).toNat) * (2 ^ (min i j - F.leastPlace).toNat : Nat) := by rw [h3, h6, Int.add_mul]
  unfold Format.add
  rw [h1, h4]
  simp only [Datum.sum, Option.map_some, Format.write]
  generalize signed s m (i - min i j).toNat + signed t n (j - min i j).toNat = q at hs
  refine ⟨if q = 0 then s && t else decide (q < 0), ?_, ?_⟩
  · rw [scale_to _ q.natAbs (by omega), hs, natAbs_up]
  · intro hne
    have hp := pow2_pos (min i j - F.leastPlace).toNat
    have hq : q ≠ 0 := by rintro rfl; simp at hs; exact hne hs
    rw [if_neg hq, hs]
    congr 1
    rw [eq_iff_iff]
    constructor
    · intro h; exact Int.mul_neg_of_neg_of_pos h hp
    · intro h
      by_cases h0 : q < 0
      · exact h0
      · have : 0 ≤ q * ((2 ^ (min i j - F.leastPlace).toNat : Nat) : Int) := Int.mul_nonneg (by omega) (by omega)
        omega
theorem opp_key (b : Int) (d : Datum) {a : Int} (h : key b d = (1, a)) : key b d.opposite = (1, -a) := by
  cases d with
  | nan s t => simp [key] at h
  | infinity s => cases s <;> simp [key] at h
  | number s m i =>
    simp only [key, Prod.mk.injEq, true_and, Datum.opposite] at h ⊢
    rw [← h, signed_eq, signed_eq]
    cases s <;> simp
/-- a difference is a sum -/
theorem sub_K {x y : Nat} {a b : Int} (hx : K x = (1, a)) (hy : K y = (1, b)) : ∃ sg, F.sub x y = some (F.nearest sg (a - b).natAbs F.leastPlace) ∧ (a - b ≠ 0 → sg = decide (a - b < 0)) := by
  obtain ⟨s, m, i, h1, h2, h3⟩ := fin_of hx
  obtain ⟨t, n, j, h4, h5, h6⟩ := fin_of hy
  have hi : (i - F.leastPlace).toNat = (i - min i j).toNat + (min i j - F.leastPlace).toNat := by omega
  have hj : (j - F.leastPlace).toNat = (j - min i j).toNat + (min i j - F.leastPlace).toNat := by omega
  have h7 : -b = signed (!t) n (j - F.leastPlace).toNat := by rw [h6, signed_eq, signed_eq]; cases t <;> simp
  rw [hi, signed_up] at h3
  rw [hj, signed_up] at h7
  have hs : a - b = (signed s m (i - min i j).toNat + signed (!t) n (j - min i j).toNat) * (2 ^ (min i j - F.leastPlace).toNat : Nat) := by rw [Int.add_mul, ← h3, ← h7]; omega
  unfold Format.sub
  rw [h1, h4]
  simp only [Datum.opposite, Datum.sum, Option.map_some, Format.write]
  generalize signed s m (i - min i j).toNat + signed (!t) n (j - min i j).toNat = q at hs
  refine ⟨if q = 0 then s && !t else decide (q < 0), ?_, ?_⟩
  · rw [scale_to _ q.natAbs (by omega), hs, natAbs_up]
  · intro hne
    have hp := pow2_pos (min i j - F.leastPlace).toNat
    have hq : q ≠ 0 := by rintro rfl; simp at hs; exact hne hs
    rw [if_neg hq, hs]
    congr 1
    rw [eq_iff_iff]
    constructor
    · intro h; exact Int.mul_neg_of_neg_of_pos h hp
    · intro h
      by_cases h0 : q < 0
      · exact h0
      · have : 0 ≤ q * ((2 ^ (min i j - F.leastPlace).toNat : Nat) : Int) := Int.mul_nonneg (by omega) (by omega)
        omega
/-- a number that a float holds as it is -/
def Rep (N : Int) : Prop := N = 0 ∨ ∃ m k : Nat, m ≠ 0 ∧ m < 9007199254740992 ∧ m.log2 + k < 2098 ∧ N.natAbs = m * 2 ^ k
theorem K_rep {sg : Bool} {N : Int} (h : Rep N) (hs : N ≠ 0 → sg = decide (N < 0)) : K (F.nearest sg N.natAbs F.leastPlace) = (1, N) := by
  rcases h with rfl | ⟨m, k, h1, h2, h3, h4⟩
  · exact K_zero sg _
  · have hN : N ≠ 0 := by
      rintro rfl
      have := Nat.mul_ne_zero h1 (show 2 ^ k ≠ 0 by have := Nat.two_pow_pos k; omega)
      simp at h4; omega
    rw [h4, K_exact sg h1 h2 h3, signed_eq, ← h4, hs hN]
    by_cases h0 : N < 0
    · simp [h0]; omega
    · simp [h0]; omega
/-- a sum that a float holds is exact -/
theorem add_rep {x y : Nat} {a b : Int} (hx : K x = (1, a)) (hy : K y = (1, b)) (h : Rep (a + b)) : ∃ r, F.add x y = some r ∧ K r = (1, a + b) := by
  obtain ⟨sg, h1, h2⟩ := add_K hx hy
  exact ⟨_, h1, K_rep h h2⟩
theorem sub_rep {x y : Nat} {a b : Int} (hx : K x = (1, a)) (hy : K y = (1, b)) (h : Rep (a - b)) : ∃ r, F.sub x y = some r ∧ K r = (1, a - b) := by
  obtain ⟨sg, h1, h2⟩ := sub_K hx hy
  exact ⟨_, h1, K_rep h h2⟩
/-- what a float holds, a float holds -/
theorem rep_of {x : Nat} {a : Int} (h : K x = (1, a)) : Rep a := by
  unfold K at h
  have hw : x % F.signWeight < F.signWeight := Nat.mod_lt _ (by rw [weight_eq]; omega)
  unfold Format.read at h
  simp only [] at h
  generalize (x / F.signWeight % 2 == 1) = sg at h
  generalize x % F.signWeight = r at h hw
  split at h
  · rename_i hb
    simp only [key, Prod.mk.injEq, true_and] at h
    rw [show (F.leastPlace - F.leastPlace).toNat = 0 by omega, signed_eq] at h
    by_cases h0 : r = 0
    · subst h0; exact .inl (by rw [← h]; cases sg <;> simp)
    · rw [binade_eq] at hb
      refine .inr ⟨r, 0, h0, by omega, ?_, by rw [← h]; cases sg <;> simp⟩
      have := (Nat.log2_lt h0 (k := 52)).2 (by simpa using hb)
      omega
  · split at h
    · rename_i hb hi
      rw [binade_eq] at hb
      rw [inf_eq] at hi
      simp only [key, Prod.mk.injEq, true_and] at h
      rw [show (F.leastPlace + ((r / F.binade - 1 : Nat) : Int) - F.leastPlace).toNat = r / F.binade - 1 by omega] at h
      refine .inr ⟨F.binade + r % F.binade, r / F.binade - 1, by rw [binade_eq]; omega, by rw [binade_eq]; omega, ?_, by rw [← h, signed_abs]⟩
      rw [binade_eq]
      have h53 : (2 : Nat) ^ 53 = 9007199254740992 := by decide
      have := (Nat.log2_lt (n := 4503599627370496 + r % 4503599627370496) (k := 53) (by omega)).2 (by omega)
      omega
    · split at h
      · cases sg <;> simp [key] at h
      · simp [key] at h
theorem rep_neg {a : Int} (h : Rep a) : Rep (-a) := by
  rcases h with rfl | ⟨m, k, h1, h2, h3, h4⟩
  · exact .inl (by simp)
  · exact .inr ⟨m, k, h1, h2, h3, by rw [Int.natAbs_neg]; exact h4⟩
/-- the sign taken away -/
theorem K_abs (x : Nat) : K (x % 9223372036854775808) = match K x with
    | (0, _) => (2, 0)
    | (1, a) => (1, (a.natAbs : Int))
    | p => p := by
  have e1 : x % 9223372036854775808 / F.signWeight % 2 = 0 := by rw [weight_eq]; omega
  have e2 : x % 9223372036854775808 % F.signWeight = x % F.signWeight := by rw [weight_eq]; omega
  unfold K Format.read
  simp only []
  rw [e1, e2]
  generalize (x / F.signWeight % 2 == 1) = sg
  generalize x % F.signWeight = r
  by_cases h1 : r < F.binade
  · rw [if_pos h1, if_pos h1]
    simp only [key]
    exact congrArg _ (signed_pos sg _ _)
  · rw [if_neg h1, if_neg h1]
    by_cases h2 : r < F.infRung
    · rw [if_pos h2, if_pos h2]
      simp only [key]
      exact congrArg _ (signed_pos sg _ _)
    · rw [if_neg h2, if_neg h2]
      by_cases h3 : r = F.infRung
      · rw [if_pos h3, if_pos h3]
        cases sg <;> simp [key]
      · rw [if_neg h3, if_neg h3]
        simp [key]
theorem order_congr {x x' y y' : Nat} (h1 : K x = K x') (h2 : K y = K y') : F.order x y = F.order x' y' := by
  rw [order_K, order_K, h1, h2]
theorem K_nought : K 0 = (1, 0) := by
  have := K_zero false 0
  rwa [show F.nearest false 0 0 = 0 by simp [Format.nearest, Format.word]] at this
theorem pow53 {n : Nat} (h : n = 9007199254740992) (k : Nat) : n * 2 ^ k = 1 * 2 ^ (53 + k) := by
  subst h
  have e53 : (2 : Nat) ^ 53 = 9007199254740992 := by decide
  rw [Nat.one_mul, Nat.pow_add, e53]
/-- a whole number of at most 2 ^ 53, as a float -/
theorem K_int {n : Int} (h : n.natAbs ≤ 9007199254740992) : K (FloatKind.f64.nearest n) = (1, n * (2 ^ 1074 : Nat)) := by
  have h0 : FloatKind.f64.nearest n = F.nearest (decide (n < 0)) n.natAbs 0 := rfl
  have h1 := scale_to (decide (n < 0)) n.natAbs (base := 0) (by rw [least_eq]; omega)
  have h2 : ((0 : Int) - F.leastPlace).toNat = 1074 := by rw [least_eq]; rfl
  refine (congrArg K (h0.trans (h1.trans (congrArg (fun t => F.nearest (decide (n < 0)) (n.natAbs * 2 ^ t) F.leastPlace) h2)))).trans ?_
  refine (congrArg (fun t => K (F.nearest (decide (n < 0)) t F.leastPlace)) (natAbs_up n 1074).symm).trans (K_rep ?_ ?_)
  · by_cases hn : n = 0
    · subst hn; exact .inl (Int.zero_mul _)
    · by_cases hm : n.natAbs = 9007199254740992
      · refine .inr ⟨1, 53 + 1074, by omega, by omega, by decide, ?_⟩
        exact (natAbs_up n 1074).trans (pow53 hm 1074)
      · refine .inr ⟨n.natAbs, 1074, by omega, by omega, ?_, natAbs_up n 1074⟩
        have h53 : (2 : Nat) ^ 53 = 9007199254740992 := by decide
        have := (Nat.log2_lt (n := n.natAbs) (k := 53) (by omega)).2 (by omega)
        omega
  · intro hne
    have hp := pow2_pos 1074
    congr 1
    rw [eq_iff_iff]
    constructor
    · intro h; exact Int.mul_neg_of_neg_of_pos h hp
    · intro h
      by_cases h0 : n < 0
      · exact h0
      · have : 0 ≤ n * ((2 ^ 1074 : Nat) : Int) := Int.mul_nonneg (by omega) (by omega)
        omega
end Fl
end Go.Proofs.YtdhelpbhbhihaaaGreatDoor
