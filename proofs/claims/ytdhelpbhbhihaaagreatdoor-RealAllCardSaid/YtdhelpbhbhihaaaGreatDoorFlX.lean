/-
  FlX: plain: whole numbers whose sizes together are at most 2 ^ 53 are added up exactly. No program in sight.
-/
import Derived.Test.YtdhelpbhbhihaaaGreatDoorFlT
namespace Go.Proofs.YtdhelpbhbhihaaaGreatDoor
set_option linter.unusedVariables false
namespace Fl
open Rl
/-- one, in the units of the floats -/
def U : Int := ((2 ^ 1074 : Nat) : Int)
theorem K_U {n : Int} (h : n.natAbs ≤ 9007199254740992) : K (floatOfInt .f64 n) = (1, n * U) := K_int h
theorem rep_U {n : Int} (h : n.natAbs ≤ 9007199254740992) : Rep (n * U) := rep_of (K_U h)
theorem opO_add {x y r : Nat} (h : F.add x y = some r) : opO .add (some x) (some y) = some r := h
theorem opO_sub {x y r : Nat} (h : F.sub x y = some r) : opO .sub (some x) (some y) = some r := h
theorem cls_int {n : Int} (h : n.natAbs ≤ 9007199254740992) : cls (floatOfInt .f64 n) = some (floatOfInt .f64 n) := by
  unfold cls
  rw [K_U h]
  rfl
/-- exact so far -/
def Exact (p : Option Nat × Option Nat) (S : Int) : Prop := ∃ s c, p = (some s, some c) ∧ K s = (1, S * U) ∧ K c = (1, 0)
theorem exact_step {p : Option Nat × Option Nat} {S n : Int} (h : Exact p S) (h1 : S.natAbs ≤ 9007199254740992) (h2 : n.natAbs ≤ 9007199254740992) (h3 : (S + n).natAbs ≤ 9007199254740992) : Exact (stepO p (cls (floatOfInt .f64 n))) (S + n) := by
  obtain ⟨s, c, rfl, hs, hc⟩ := h
  rw [cls_int h2]
  have hx := K_U h2
  generalize floatOfInt .f64 n = x at hx
  have e1 : S * U + n * U = (S + n) * U := (Int.add_mul S n U).symm
  obtain ⟨t, t1, t2⟩ := add_rep hs hx (by rw [e1]; exact rep_U h3)
  rw [e1] at t2
  have r0 : Rep 0 := .inl rfl
  simp only [stepO]
  rw [opO_add t1]
  cases geC (some s) (some x)
  · have e2 : n * U - (S + n) * U = (-S) * U := by rw [← Int.sub_mul]; congr 1; omega
    obtain ⟨d, d1, d2⟩ := sub_rep hx t2 (by rw [e2]; exact rep_U (by omega))
    rw [e2] at d2
    have e3 : (-S) * U + S * U = 0 := by rw [← Int.add_mul, show -S + S = 0 by omega, Int.zero_mul]
    obtain ⟨e, g1, g2⟩ := add_rep d2 hs (by rw [e3]; exact r0)
    rw [e3] at g2
    obtain ⟨k, k1, k2⟩ := add_rep hc g2 (by exact r0)
    refine ⟨t, k, ?_, t2, k2⟩
    rw [opO_sub d1, opO_add g1, opO_add k1]
    rfl
  · have e2 : S * U - (S + n) * U = (-n) * U := by rw [← Int.sub_mul]; congr 1; omega
    obtain ⟨d, d1, d2⟩ := sub_rep hs t2 (by rw [e2]; exact rep_U (by omega))
    rw [e2] at d2
    have e3 : (-n) * U + n * U = 0 := by rw [← Int.add_mul, show -n + n = 0 by omega, Int.zero_mul]
    obtain ⟨e, g1, g2⟩ := add_rep d2 hx (by rw [e3]; exact r0)
    rw [e3] at g2
    obtain ⟨k, k1, k2⟩ := add_rep hc g2 (by exact r0)
    refine ⟨t, k, ?_, t2, k2⟩
    rw [opO_sub d1, opO_add g1, opO_add k1]
    rfl
/-- the sum, and the sizes' sum -/
def tot (l : List Int) : Int := l.foldr (fun n a => n + a) 0
def siz (l : List Int) : Nat := l.foldr (fun n a => n.natAbs + a) 0
theorem tot_app (a b : List Int) : tot (a ++ b) = tot a + tot b := by
  induction a with
  | nil => simp [tot]
  | cons x a ih =>
    have : tot (x :: (a ++ b)) = x + tot (a ++ b) := rfl
    rw [List.cons_append, this, ih]
    have : tot (x :: a) = x + tot a := rfl
    omega
theorem siz_app (a b : List Int) : siz (a ++ b) = siz a + siz b := by
  induction a with
  | nil => simp [siz]
  | cons x a ih =>
    have : siz (x :: (a ++ b)) = x.natAbs + siz (a ++ b) := rfl
    rw [List.cons_append, this, ih]
    have : siz (x :: a) = x.natAbs + siz a := rfl
    omega
theorem tot_one (x : Int) : tot [x] = x := by simp [tot]
theorem siz_one (x : Int) : siz [x] = x.natAbs := by simp [siz]
theorem tot_le (l : List Int) : (tot l).natAbs ≤ siz l := by
  induction l with
  | nil => simp [tot, siz]
  | cons x l ih =>
    have h1 : tot (x :: l) = x + tot l := rfl
    have h2 : siz (x :: l) = x.natAbs + siz l := rfl
    omega
theorem tot_rev (l : List Int) : tot l.reverse = tot l := by
  induction l with
  | nil => rfl
  | cons x l ih =>
    have h1 : tot (x :: l) = x + tot l := rfl
    rw [List.reverse_cons, tot_app, ih, tot_one]
    omega
theorem siz_rev (l : List Int) : siz l.reverse = siz l := by
  induction l with
  | nil => rfl
  | cons x l ih =>
    have h1 : siz (x :: l) = x.natAbs + siz l := rfl
    rw [List.reverse_cons, siz_app, ih, siz_one]
    omega
theorem tot_turn (l : List Int) (k : Nat) : tot (l.drop k ++ l.take k) = tot l := by
  have : tot (l.take k ++ l.drop k) = tot l := by rw [List.take_append_drop]
  rw [tot_app] at this ⊢
  omega
theorem siz_turn (l : List Int) (k : Nat) : siz (l.drop k ++ l.take k) = siz l := by
  have : siz (l.take k ++ l.drop k) = siz l := by rw [List.take_append_drop]
  rw [siz_app] at this ⊢
  omega
theorem exact_run (a : List Int) : ∀ (b : List Int), siz (a ++ b) ≤ 9007199254740992 → ∀ p, Exact p (tot a) → Exact ((b.map fun n => cls (floatOfInt .f64 n)).foldl stepO p) (tot (a ++ b)) := by
  intro b
  induction b generalizing a with
  | nil => intro _ p h; simpa using h
  | cons x b ih =>
    intro hz p h
    have e : a ++ x :: b = (a ++ [x]) ++ b := by simp
    rw [e] at hz ⊢
    refine ih (a ++ [x]) hz _ ?_
    have h1 := tot_le a
    rw [siz_app, siz_app, siz_one] at hz
    have h2 := tot_le (a ++ [x])
    rw [siz_app, siz_one] at h2
    rw [tot_app, tot_one] at h2 ⊢
    exact exact_step h (by omega) (by omega) (by omega)
/-- the sum of whole numbers -/
theorem sum_exact (l : List Int) (h : siz l ≤ 9007199254740992) (r : Nat) (hr : cls r = sumO ((l.map (floatOfInt .f64)).map cls)) : FloatKind.f64.format.order r (floatOfInt .f64 (tot l)) = some .eq := by
  have h0 : Exact (cls 0, cls 0) (tot []) := ⟨0, 0, by unfold cls; rw [K_nought]; rfl, by rw [K_nought]; simp [tot], K_nought⟩
  have h1 := exact_run [] l (by simpa using h) _ h0
  rw [List.nil_append] at h1
  obtain ⟨s, c, hp, hs, hc⟩ := h1
  have h2 : sumO ((l.map (floatOfInt .f64)).map cls) = opO .add (some s) (some c) := by
    unfold sumO runO
    rw [List.map_map]
    have : (l.map (cls ∘ floatOfInt .f64)) = (l.map fun n => cls (floatOfInt .f64 n)) := rfl
    rw [this, hp]
  have hl := tot_le l
  have e : tot l * U + 0 = tot l * U := by omega
  obtain ⟨q, q1, q2⟩ := add_rep hs hc (by rw [e]; exact rep_U (by omega))
  rw [e] at q2
  rw [h2, opO_add q1] at hr
  have hrq : r = q := by
    unfold cls at hr
    split at hr
    · cases hr
    · exact Option.some.inj hr
  rw [hrq, order_K, q2, K_U (by omega)]
  simp
end Fl
end Go.Proofs.YtdhelpbhbhihaaaGreatDoor
