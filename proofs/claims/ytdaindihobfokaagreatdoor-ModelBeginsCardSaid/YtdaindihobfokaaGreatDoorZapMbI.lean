/-
MbI: the document's packets alike, and lists of them, walked.
-/
import Derived.Test.YtdaindihobfokaaGreatDoorZaoMbH
namespace Go.Proofs.YtdaindihobfokaaGreatDoor
open Go.RowKit
set_option linter.unusedVariables false
set_option linter.unusedSimpArgs false
attribute [local go_sem] Oper.semAt_some Mb.run_store_float
namespace Mb
open Mem Wi
theorem same_like (p q : Pk) : (decide (p.slot = q.slot) && (decide ((p.ep : Int) = (q.ep : Int)) && (decide (p.num = q.num) && sameE p q))) = likeB p q := by
  have h := like_canon p.sp q.sp
  unfold likeB sameI sameE
  rw [h]
  simp only [Bool.and_assoc]
set_option maxHeartbeats 4000000 in
set_option maxRecDepth 100000 in
theorem same_t (p q : Pk) (hp : p.sp < 18446744073709551616) (hq : q.sp < 18446744073709551616) (w : World) : Calls Tryz.prog 14 #[(.agg #[.int .i64 p.slot, .int .u32 (p.ep : Int), .int .u64 p.num, .int .u8 p.kd, .int .u32 p.ob, .int .u32 p.fe, .int .u32 p.nu, .int .i32 p.x, .int .i32 p.y, .int .u32 p.ck, .float .f64 p.sp]), (.agg #[.int .i64 q.slot, .int .u32 (q.ep : Int), .int .u64 q.num, .int .u8 q.kd, .int .u32 q.ob, .int .u32 q.fe, .int .u32 q.nu, .int .i32 q.x, .int .i32 q.y, .int .u32 q.ck, .float .f64 q.sp])] w fun e w' => e = .returned (.bool (likeB p q)) ∧ Keeps (fun _ => False) w w' := by
  have HL := Lib.hid (same_like p q)
  have HV := Lib.hid (event_t p q hp hq)
  clear hp hq
  obtain ⟨se, hse⟩ : ∃ se, se = sameE p q := ⟨_, rfl⟩
  rw [← hse] at HL HV
  rw [← HL.out]
  clear hse HL
  go_enter Tryz.func14, Tryz.ntmps14
  go_wp2_with (go_at_call 18; (with_reducible refine (HV.out _).mono ?_); rintro e w1 ⟨rfl, hk⟩; have K1 := Lib.hid hk; clear hk)
  all_goals
    go_ret
    refine ⟨?_, by first | exact Keeps.trans (by (repeat (first | exact Keeps.refl _ _ | refine Keeps.alloc ?_ _ | refine Keeps.drew ?_))) K1.out | ((repeat (first | exact Keeps.refl _ _ | refine Keeps.alloc ?_ _ | refine Keeps.drew ?_)); done)⟩
    simp_all
set_option maxHeartbeats 8000000 in
set_option maxRecDepth 100000 in
theorem rall_t (w : World) (a b : Option Addr) (n m c d : Nat) (A B : List Pk) (h1 : Pl w (.slice a n c) A) (h2 : Pl w (.slice b m d) B) (hn : n = A.length) (hm : m = B.length) (hl : n ≤ 4611686018427387904) (hA : ∀ p ∈ A, p.sp < 18446744073709551616) (hB : ∀ p ∈ B, p.sp < 18446744073709551616) : Calls Tryz.prog 7 #[.slice a n c, .slice b m d] w fun e w' => e = .returned (.bool (allB A B)) ∧ Keeps (fun _ => False) w w' := by
  have HA := Lib.hid h1
  have HB := Lib.hid h2
  have HS := Lib.hid (And.intro hA hB)
  have HN := Lib.hid (And.intro hn hm)
  have hnI : (n : Int) ≤ 4611686018427387904 := by omega
  clear h1 h2 hn hm hl hA hB
  go_enter Tryz.func7, Tryz.ntmps7
  by_cases hne : n = m
  · subst hne
    go_wp2
    go_loopw [5] (fun q wr => ∃ i : Nat, q = .int .i64 (i : Int) ∧ i ≤ n ∧ (∀ k x y, k < i → A[k]? = some x → B[k]? = some y → likeB x y = true) ∧ Keeps (fun _ => False) w wr) (fun q _ => n - (intOf q).toNat)
    case atStart => exact ⟨0, rfl, Nat.zero_le _, fun k x y h => absurd h (Nat.not_lt_zero _), Keeps.refl _ _⟩
    case round =>
      obtain ⟨i, rfl, hi, hA, hK⟩ := hrel
      have HL := Lib.hid hA
      have HKR := Lib.hid hK
      by_cases hlt : i < n
      · have hltI : (i : Int) < (n : Int) := by omega
        obtain ⟨p, hp⟩ : ∃ p, A[i]? = some p := ⟨_, List.getElem?_eq_getElem (by have := HN.out; omega)⟩
        obtain ⟨q, hq⟩ : ∃ q, B[i]? = some q := ⟨_, List.getElem?_eq_getElem (by have := HN.out; omega)⟩
        have hPA := HA.out.kd hK
        have hPB := HB.out.kd hK
        obtain ⟨g, off, rfl, cp⟩ := hPA.row hp
        obtain ⟨g', off', rfl, cq⟩ := hPB.row hq
        have hSR : ∀ W', Keeps (fun _ => False) wr W' → ((W'.cell? ⟨g, off + i * 11, none⟩ = some (.int .i64 p.slot) ∧ W'.cell? ⟨g, off + i * 11 + 1, none⟩ = some (.int .u32 (p.ep : Int)) ∧ W'.cell? ⟨g, off + i * 11 + 2, none⟩ = some (.int .u64 p.num) ∧ W'.cell? ⟨g, off + i * 11 + 3, none⟩ = some (.int .u8 p.kd) ∧ W'.cell? ⟨g, off + i * 11 + 4, none⟩ = some (.int .u32 p.ob) ∧ W'.cell? ⟨g, off + i * 11 + 5, none⟩ = some (.int .u32 p.fe) ∧ W'.cell? ⟨g, off + i * 11 + 6, none⟩ = some (.int .u32 p.nu) ∧ W'.cell? ⟨g, off + i * 11 + 7, none⟩ = some (.int .i32 p.x) ∧ W'.cell? ⟨g, off + i * 11 + 8, none⟩ = some (.int .i32 p.y) ∧ W'.cell? ⟨g, off + i * 11 + 9, none⟩ = some (.int .u32 p.ck) ∧ W'.cell? ⟨g, off + i * 11 + 10, none⟩ = some (.float .f64 p.sp)) ∧ (W'.cell? ⟨g', off' + i * 11, none⟩ = some (.int .i64 q.slot) ∧ W'.cell? ⟨g', off' + i * 11 + 1, none⟩ = some (.int .u32 (q.ep : Int)) ∧ W'.cell? ⟨g', off' + i * 11 + 2, none⟩ = some (.int .u64 q.num) ∧ W'.cell? ⟨g', off' + i * 11 + 3, none⟩ = some (.int .u8 q.kd) ∧ W'.cell? ⟨g', off' + i * 11 + 4, none⟩ = some (.int .u32 q.ob) ∧ W'.cell? ⟨g', off' + i * 11 + 5, none⟩ = some (.int .u32 q.fe) ∧ W'.cell? ⟨g', off' + i * 11 + 6, none⟩ = some (.int .u32 q.nu) ∧ W'.cell? ⟨g', off' + i * 11 + 7, none⟩ = some (.int .i32 q.x) ∧ W'.cell? ⟨g', off' + i * 11 + 8, none⟩ = some (.int .i32 q.y) ∧ W'.cell? ⟨g', off' + i * 11 + 9, none⟩ = some (.int .u32 q.ck) ∧ W'.cell? ⟨g', off' + i * 11 + 10, none⟩ = some (.float .f64 q.sp))) := fun W' hk => by
          obtain ⟨g1, o1, e1, c1⟩ := (hPA.kd hk).row hp
          obtain ⟨g2, o2, e2, c2⟩ := (hPB.kd hk).row hq
          cases e1; cases e2
          exact ⟨c1, c2⟩
        have HSR := Lib.hid hSR
        obtain ⟨cv, hcv⟩ : ∃ cv, cv = likeB p q := ⟨_, rfl⟩
        have zb := same_t p q (HS.out.1 p (List.mem_of_getElem? hp)) (HS.out.2 q (List.mem_of_getElem? hq))
        rw [← hcv] at zb
        have HZ := Lib.hid zb
        have HI := Lib.hid (And.intro hcv (And.intro hp hq))
        clear hA hK zb hp hq hcv hPA hPB hSR
        go_wp2
        rename_i Kx hKx
        have cpq : ((wr.cell? ⟨g, off + i * 11, none⟩ = some (.int .i64 p.slot) ∧ wr.cell? ⟨g, off + i * 11 + 1, none⟩ = some (.int .u32 (p.ep : Int)) ∧ wr.cell? ⟨g, off + i * 11 + 2, none⟩ = some (.int .u64 p.num) ∧ wr.cell? ⟨g, off + i * 11 + 3, none⟩ = some (.int .u8 p.kd) ∧ wr.cell? ⟨g, off + i * 11 + 4, none⟩ = some (.int .u32 p.ob) ∧ wr.cell? ⟨g, off + i * 11 + 5, none⟩ = some (.int .u32 p.fe) ∧ wr.cell? ⟨g, off + i * 11 + 6, none⟩ = some (.int .u32 p.nu) ∧ wr.cell? ⟨g, off + i * 11 + 7, none⟩ = some (.int .i32 p.x) ∧ wr.cell? ⟨g, off + i * 11 + 8, none⟩ = some (.int .i32 p.y) ∧ wr.cell? ⟨g, off + i * 11 + 9, none⟩ = some (.int .u32 p.ck) ∧ wr.cell? ⟨g, off + i * 11 + 10, none⟩ = some (.float .f64 p.sp)) ∧ (wr.cell? ⟨g', off' + i * 11, none⟩ = some (.int .i64 q.slot) ∧ wr.cell? ⟨g', off' + i * 11 + 1, none⟩ = some (.int .u32 (q.ep : Int)) ∧ wr.cell? ⟨g', off' + i * 11 + 2, none⟩ = some (.int .u64 q.num) ∧ wr.cell? ⟨g', off' + i * 11 + 3, none⟩ = some (.int .u8 q.kd) ∧ wr.cell? ⟨g', off' + i * 11 + 4, none⟩ = some (.int .u32 q.ob) ∧ wr.cell? ⟨g', off' + i * 11 + 5, none⟩ = some (.int .u32 q.fe) ∧ wr.cell? ⟨g', off' + i * 11 + 6, none⟩ = some (.int .u32 q.nu) ∧ wr.cell? ⟨g', off' + i * 11 + 7, none⟩ = some (.int .i32 q.x) ∧ wr.cell? ⟨g', off' + i * 11 + 8, none⟩ = some (.int .i32 q.y) ∧ wr.cell? ⟨g', off' + i * 11 + 9, none⟩ = some (.int .u32 q.ck) ∧ wr.cell? ⟨g', off' + i * 11 + 10, none⟩ = some (.float .f64 q.sp))) := ⟨cp, cq⟩
        clear cp cq
        go_region_held3 (fun W => ((W.cell? ⟨g, off + i * 11, none⟩ = some (.int .i64 p.slot) ∧ W.cell? ⟨g, off + i * 11 + 1, none⟩ = some (.int .u32 (p.ep : Int)) ∧ W.cell? ⟨g, off + i * 11 + 2, none⟩ = some (.int .u64 p.num) ∧ W.cell? ⟨g, off + i * 11 + 3, none⟩ = some (.int .u8 p.kd) ∧ W.cell? ⟨g, off + i * 11 + 4, none⟩ = some (.int .u32 p.ob) ∧ W.cell? ⟨g, off + i * 11 + 5, none⟩ = some (.int .u32 p.fe) ∧ W.cell? ⟨g, off + i * 11 + 6, none⟩ = some (.int .u32 p.nu) ∧ W.cell? ⟨g, off + i * 11 + 7, none⟩ = some (.int .i32 p.x) ∧ W.cell? ⟨g, off + i * 11 + 8, none⟩ = some (.int .i32 p.y) ∧ W.cell? ⟨g, off + i * 11 + 9, none⟩ = some (.int .u32 p.ck) ∧ W.cell? ⟨g, off + i * 11 + 10, none⟩ = some (.float .f64 p.sp)) ∧ (W.cell? ⟨g', off' + i * 11, none⟩ = some (.int .i64 q.slot) ∧ W.cell? ⟨g', off' + i * 11 + 1, none⟩ = some (.int .u32 (q.ep : Int)) ∧ W.cell? ⟨g', off' + i * 11 + 2, none⟩ = some (.int .u64 q.num) ∧ W.cell? ⟨g', off' + i * 11 + 3, none⟩ = some (.int .u8 q.kd) ∧ W.cell? ⟨g', off' + i * 11 + 4, none⟩ = some (.int .u32 q.ob) ∧ W.cell? ⟨g', off' + i * 11 + 5, none⟩ = some (.int .u32 q.fe) ∧ W.cell? ⟨g', off' + i * 11 + 6, none⟩ = some (.int .u32 q.nu) ∧ W.cell? ⟨g', off' + i * 11 + 7, none⟩ = some (.int .i32 q.x) ∧ W.cell? ⟨g', off' + i * 11 + 8, none⟩ = some (.int .i32 q.y) ∧ W.cell? ⟨g', off' + i * 11 + 9, none⟩ = some (.int .u32 q.ck) ∧ W.cell? ⟨g', off' + i * 11 + 10, none⟩ = some (.float .f64 q.sp)))) (first | with_reducible assumption | exact HSR.out _ (by first | exact HK2.out | (refine HK2.out.trans ?_; (repeat (first | exact Keeps.refl _ _ | refine Keeps.alloc ?_ _ | refine Keeps.drew ?_)); done) | (repeat (first | exact Keeps.refl _ _ | refine Keeps.alloc ?_ _ | refine Keeps.drew ?_)))) (first | (go_at_call 14; (with_reducible refine (HZ.out _).mono ?_); rintro e w2 ⟨rfl, hk2⟩; have HK2 := Lib.hid (Keeps.trans (show Keeps (fun _ => False) wr _ from by (repeat (first | exact Keeps.refl _ _ | refine Keeps.alloc ?_ _ | refine Keeps.drew ?_))) hk2); clear hk2))
        refine hKx _ _ ?_
        clear hKx
        cases cv with
        | true =>
          go_wp2
          go_roundw
          case rel =>
            refine ⟨i + 1, by rw [Int.natCast_add]; rfl, by omega, fun k x y h1 h2 h3 => ?_, HKR.out.trans HK2.out⟩
            by_cases hk : k = i
            · subst hk
              have h4 := HI.out.2.1
              have h5 := HI.out.2.2
              rw [h2] at h4
              rw [h3] at h5
              cases h4; cases h5
              exact HI.out.1.symm
            · exact HL.out k x y (by omega) h2 h3
          case measure => simp only [intOf]; omega
        | false =>
          go_wp2
          go_ret
          have hr : allB A B = false := by
            unfold allB
            rw [Bool.and_eq_false_iff]
            refine .inr ?_
            rw [← Bool.not_eq_true]
            intro ht
            have := (pref_iff likeB).1 ht
            have h6 := this.2 i p q HI.out.2.1 HI.out.2.2
            rw [← HI.out.1] at h6
            exact absurd h6 (by simp)
          rw [hr]
          exact ⟨rfl, HKR.out.trans HK2.out⟩
      · obtain rfl : i = n := by omega
        clear hA hK
        go_wp2
        go_ret
        have hr : allB A B = true := by
          unfold allB
          rw [Bool.and_eq_true, decide_eq_true_iff]
          have h8 := HN.out
          refine ⟨by omega, (pref_iff likeB).2 ⟨by omega, fun k x y h1 h2 => HL.out k x y ?_ h1 h2⟩⟩
          have := (List.getElem?_eq_some_iff.1 h1).1
          omega
        rw [hr]
        exact ⟨rfl, HKR.out⟩
  · have hneI : ¬ (n : Int) = (m : Int) := by omega
    go_wp2
    go_ret
    have hr : allB A B = false := by
      unfold allB
      rw [Bool.and_eq_false_iff, decide_eq_false_iff_not]
      have := HN.out
      exact .inl (by omega)
    rw [hr]
    exact ⟨rfl, Keeps.refl _ _⟩
end Mb
end Go.Proofs.YtdaindihobfokaaGreatDoor
