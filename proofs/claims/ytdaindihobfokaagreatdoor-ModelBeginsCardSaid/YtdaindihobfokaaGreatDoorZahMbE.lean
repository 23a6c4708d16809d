/-
MbE: slices.EqualFunc with like, All, walked.
-/
import Derived.Test.YtdaindihobfokaaGreatDoorZagMbD
namespace Go.Proofs.YtdaindihobfokaaGreatDoor
open Go.RowKit
set_option linter.unusedVariables false
set_option linter.unusedSimpArgs false
attribute [local go_sem] Oper.semAt_some Mb.run_store_float
namespace Mb
open Mem
/-- are two lists alike -/
def allB (A B : List Pk) : Bool := decide (A.length = B.length) && pref likeB A B
set_option maxHeartbeats 4000000 in
set_option maxRecDepth 100000 in
theorem equal_t (w : World) (a b : Option Addr) (n m c d : Nat) (A B : List Pk) (h1 : Pl w (.slice a n c) A) (h2 : Pl w (.slice b m d) B) (hn : n = A.length) (hm : m = B.length) (hl : n ≤ 4611686018427387904) : Calls Tryz.prog 13 #[.slice a n c, .slice b m d, (.func (.func 11) #[] #[])] w fun e w' => e = .returned (.bool (allB A B)) ∧ Keeps (fun _ => False) w w' := by
  have HA := Lib.hid h1
  have HB := Lib.hid h2
  have HN := Lib.hid (And.intro hn hm)
  have hnI : (n : Int) ≤ 4611686018427387904 := by omega
  clear h1 h2 hn hm hl
  go_enter Tryz.func13, Tryz.ntmps13
  by_cases hne : n = m
  · subst hne
    go_wp2
    go_loopw [17] (fun q wr => ∃ i : Nat, q = .int .i64 (i : Int) ∧ i ≤ n ∧ (∀ k x y, k < i → A[k]? = some x → B[k]? = some y → likeB x y = true) ∧ Keeps (fun _ => False) w wr) (fun q _ => n - (intOf q).toNat)
    case atStart => exact ⟨0, rfl, Nat.zero_le _, fun k x y h => absurd h (Nat.not_lt_zero _), Keeps.refl _ _⟩
    case round =>
      obtain ⟨i, rfl, hi, hA, hK⟩ := hrel
      have HL := Lib.hid hA
      have HKR := Lib.hid hK
      by_cases hlt : i < n
      · have hltI : (i : Int) < (n : Int) := by omega
        obtain ⟨p, hp⟩ : ∃ p, A[i]? = some p := ⟨_, List.getElem?_eq_getElem (by have := HN.out; omega)⟩
        obtain ⟨q, hq⟩ : ∃ q, B[i]? = some q := ⟨_, List.getElem?_eq_getElem (by have := HN.out; omega)⟩
        obtain ⟨g, off, rfl, c0, c1, c2, c3, c4, c5, c6, c7, c8, c9, c10⟩ := (HA.out.kd hK).row hp
        obtain ⟨g', off', rfl, -⟩ := (HB.out.kd hK).row hq
        have hd : ∀ o, ((wr.alloc o).cell? ⟨g', off' + i * 11, none⟩ = some (.int .i64 q.slot) ∧ (wr.alloc o).cell? ⟨g', off' + i * 11 + 1, none⟩ = some (.int .u32 (q.ep : Int)) ∧ (wr.alloc o).cell? ⟨g', off' + i * 11 + 2, none⟩ = some (.int .u64 q.num) ∧ (wr.alloc o).cell? ⟨g', off' + i * 11 + 3, none⟩ = some (.int .u8 q.kd) ∧ (wr.alloc o).cell? ⟨g', off' + i * 11 + 4, none⟩ = some (.int .u32 q.ob) ∧ (wr.alloc o).cell? ⟨g', off' + i * 11 + 5, none⟩ = some (.int .u32 q.fe) ∧ (wr.alloc o).cell? ⟨g', off' + i * 11 + 6, none⟩ = some (.int .u32 q.nu) ∧ (wr.alloc o).cell? ⟨g', off' + i * 11 + 7, none⟩ = some (.int .i32 q.x) ∧ (wr.alloc o).cell? ⟨g', off' + i * 11 + 8, none⟩ = some (.int .i32 q.y) ∧ (wr.alloc o).cell? ⟨g', off' + i * 11 + 9, none⟩ = some (.int .u32 q.ck) ∧ (wr.alloc o).cell? ⟨g', off' + i * 11 + 10, none⟩ = some (.float .f64 q.sp)) := fun o => by
          obtain ⟨g2, o2, e2, c2⟩ := (HB.out.kd (hK.alloc o)).row hq
          cases e2; exact c2
        have d0 := fun o => (hd o).1
        have d1 := fun o => (hd o).2.1
        have d2 := fun o => (hd o).2.2.1
        have d3 := fun o => (hd o).2.2.2.1
        have d4 := fun o => (hd o).2.2.2.2.1
        have d5 := fun o => (hd o).2.2.2.2.2.1
        have d6 := fun o => (hd o).2.2.2.2.2.2.1
        have d7 := fun o => (hd o).2.2.2.2.2.2.2.1
        have d8 := fun o => (hd o).2.2.2.2.2.2.2.2.1
        have d9 := fun o => (hd o).2.2.2.2.2.2.2.2.2.1
        have d10 := fun o => (hd o).2.2.2.2.2.2.2.2.2.2
        clear hd
        obtain ⟨cv, hcv⟩ : ∃ cv, cv = likeB p q := ⟨_, rfl⟩
        have zb := fun W => like_t p q W
        rw [← hcv] at zb
        have HZ := Lib.hid zb
        have HI := Lib.hid (And.intro hcv (And.intro hp hq))
        clear hA hK zb hp hq hcv
        cases cv with
        | true =>
          go_wp2_with (first | (go_at_call 11; (with_reducible refine (HZ.out _).mono ?_); rintro e w2 ⟨rfl, hk2⟩; have HK2 := Lib.hid (Keeps.trans (show Keeps (fun _ => False) wr _ from by (repeat (first | exact Keeps.refl _ _ | refine Keeps.alloc ?_ _ | refine Keeps.drew ?_))) hk2); clear hk2))
          go_roundw
          case rel =>
            refine ⟨i + 1, by rw [Int.natCast_add]; rfl, by omega, fun k x y h1 h2 h3 => ?_, HKR.out.trans HK2.out⟩
            by_cases hk : k = i
            · subst hk
              have h4 := HI.out.2.1
              have h5 := HI.out.2.2
              rw [h2] at h4
              rw [h3] at h5
              cases h4; cases h5
              exact HI.out.1.symm
            · exact HL.out k x y (by omega) h2 h3
          case measure => simp only [intOf]; omega
        | false =>
          go_wp2_with (first | (go_at_call 11; (with_reducible refine (HZ.out _).mono ?_); rintro e w2 ⟨rfl, hk2⟩; have HK2 := Lib.hid (Keeps.trans (show Keeps (fun _ => False) wr _ from by (repeat (first | exact Keeps.refl _ _ | refine Keeps.alloc ?_ _ | refine Keeps.drew ?_))) hk2); clear hk2))
          go_ret
          have hr : allB A B = false := by
            unfold allB
            rw [Bool.and_eq_false_iff]
            refine .inr ?_
            rw [← Bool.not_eq_true]
            intro ht
            have := (pref_iff likeB).1 ht
            have h6 := this.2 i p q HI.out.2.1 HI.out.2.2
            rw [← HI.out.1] at h6
            exact absurd h6 (by simp)
          rw [hr]
          exact ⟨rfl, HKR.out.trans HK2.out⟩
      · obtain rfl : i = n := by omega
        clear hA hK
        go_wp2
        go_ret
        have hr : allB A B = true := by
          unfold allB
          rw [Bool.and_eq_true, decide_eq_true_iff]
          have h8 := HN.out
          refine ⟨by omega, (pref_iff likeB).2 ⟨by omega, fun k x y h1 h2 => HL.out k x y ?_ h1 h2⟩⟩
          have := (List.getElem?_eq_some_iff.1 h1).1
          omega
        rw [hr]
        exact ⟨rfl, HKR.out⟩
  · have hneI : ¬ (n : Int) = (m : Int) := by omega
    go_wp2
    go_ret
    have hr : allB A B = false := by
      unfold allB
      rw [Bool.and_eq_false_iff, decide_eq_false_iff_not]
      have := HN.out
      exact .inl (by omega)
    rw [hr]
    exact ⟨rfl, Keeps.refl _ _⟩
set_option maxHeartbeats 2000000 in
theorem all_t (w : World) (a b : Option Addr) (n m c d : Nat) (A B : List Pk) (h1 : Pl w (.slice a n c) A) (h2 : Pl w (.slice b m d) B) (hn : n = A.length) (hm : m = B.length) (hl : n ≤ 4611686018427387904) : Calls Tryz.prog 6 #[.slice a n c, .slice b m d] w fun e w' => e = .returned (.bool (allB A B)) ∧ Keeps (fun _ => False) w w' := by
  have hz := equal_t w a b n m c d A B h1 h2 hn hm hl
  have HZ := Lib.hid hz
  clear hz h1 h2 hn hm hl
  go_enter Tryz.func6, Tryz.ntmps6
  go_wp2_with (first | (go_at_call 13; (with_reducible refine (HZ.out).mono ?_); rintro e w2 ⟨rfl, hk2⟩; have HK2 := Lib.hid hk2; clear hk2))
  go_ret
  exact ⟨rfl, HK2.out⟩
end Mb
end Go.Proofs.YtdaindihobfokaaGreatDoor
