/-
MbD: do the epochs of a list not fall, walked.
-/
import Derived.Test.YtdaindihobfokaaGreatDoorZacMbB
import Derived.Test.YtdaindihobfokaaGreatDoorZafMbC
namespace Go.Proofs.YtdaindihobfokaaGreatDoor
open Go.RowKit
set_option linter.unusedVariables false
set_option linter.unusedSimpArgs false
attribute [local go_sem] Oper.semAt_some
namespace Mb
open Mem
set_option maxHeartbeats 4000000 in
set_option maxRecDepth 100000 in
theorem sorted_t (w : World) (a : Option Addr) (n c : Nat) (L : List Pk) (h : Pl w (.slice a n c) L) (hn : n = L.length) (hl : n ≤ 4611686018427387904) (hE : ∀ p ∈ L, p.ep < 4294967296) : Calls Tryz.prog 9 #[.slice a n c, (.func (.func 10) #[] #[])] w fun e w' => e = .returned (.bool (rises (·.ep) L)) ∧ Keeps (fun _ => False) w w' := by
  have H := Lib.hid h
  have HN := Lib.hid hn
  have HE := Lib.hid hE
  have hnI : (n : Int) ≤ 4611686018427387904 := by omega
  clear h hn hE hl
  have hw0 : IntKind.i64.wrap ((n : Int) - 1) = (n : Int) - 1 := IntWalk.i64_in _ (by omega)
  go_enter Tryz.func9, Tryz.ntmps9
  go_wp2
  go_loopw [5] (fun q wr => ∃ m : Nat, q = .int .i64 ((m : Int) - 1) ∧ m ≤ n ∧ (∀ k x y, m ≤ k + 1 → L[k]? = some x → L[k + 1]? = some y → x.ep ≤ y.ep) ∧ Keeps (fun _ => False) w wr) (fun q _ => (intOf q + 1).toNat)
  case atStart => exact ⟨n, rfl, Nat.le_refl _, fun k x y h1 h2 h3 => absurd (List.getElem?_eq_some_iff.1 h3).1 (by have := HN.out; omega), Keeps.refl _ _⟩
  case round =>
    obtain ⟨m, rfl, hm, hA, hK⟩ := hrel
    have HA := Lib.hid hA
    have HKR := Lib.hid hK
    by_cases h2 : m ≤ 1
    · have hneg : ¬ (0 : Int) < (m : Int) - 1 := by omega
      clear hA hK
      go_wp2
      go_ret
      have hr : rises (·.ep) L = true := (rises_get (·.ep)).2 (fun k x y h1 h3 => HA.out k x y (by omega) h1 h3)
      rw [hr]
      exact ⟨rfl, HKR.out⟩
    · obtain ⟨j, rfl⟩ : ∃ j, m = j + 2 := ⟨m - 2, by omega⟩
      obtain ⟨i, hi⟩ : ∃ i : Nat, i = j + 1 := ⟨_, rfl⟩
      have e1 : ((j + 2 : Nat) : Int) - 1 = (i : Int) := by omega
      rw [e1]
      have hlt : (i : Int) < (n : Int) := by omega
      have hlt2 : (j : Int) < (n : Int) := by omega
      have hpos : (0 : Int) < (i : Int) := by omega
      have hwj : IntKind.i64.wrap ((i : Int) - 1) = (j : Int) := by rw [show (i : Int) - 1 = (j : Int) by omega]; exact IntWalk.i64_in _ (by omega)
      obtain ⟨p, hp⟩ : ∃ p, L[i]? = some p := ⟨_, List.getElem?_eq_getElem (by have := HN.out; omega)⟩
      obtain ⟨q, hq⟩ : ∃ q, L[j]? = some q := ⟨_, List.getElem?_eq_getElem (by have := HN.out; omega)⟩
      have hP := H.out.kd hK
      obtain ⟨g, off, rfl, cp⟩ := hP.row hp
      have hSR : ∀ W', Keeps (fun _ => False) wr W' → (W'.cell? ⟨g, off + i * 11, none⟩ = some (.int .i64 p.slot) ∧ W'.cell? ⟨g, off + i * 11 + 1, none⟩ = some (.int .u32 (p.ep : Int)) ∧ W'.cell? ⟨g, off + i * 11 + 2, none⟩ = some (.int .u64 p.num) ∧ W'.cell? ⟨g, off + i * 11 + 3, none⟩ = some (.int .u8 p.kd) ∧ W'.cell? ⟨g, off + i * 11 + 4, none⟩ = some (.int .u32 p.ob) ∧ W'.cell? ⟨g, off + i * 11 + 5, none⟩ = some (.int .u32 p.fe) ∧ W'.cell? ⟨g, off + i * 11 + 6, none⟩ = some (.int .u32 p.nu) ∧ W'.cell? ⟨g, off + i * 11 + 7, none⟩ = some (.int .i32 p.x) ∧ W'.cell? ⟨g, off + i * 11 + 8, none⟩ = some (.int .i32 p.y) ∧ W'.cell? ⟨g, off + i * 11 + 9, none⟩ = some (.int .u32 p.ck) ∧ W'.cell? ⟨g, off + i * 11 + 10, none⟩ = some (.float .f64 p.sp)) ∧ (W'.cell? ⟨g, off + j * 11, none⟩ = some (.int .i64 q.slot) ∧ W'.cell? ⟨g, off + j * 11 + 1, none⟩ = some (.int .u32 (q.ep : Int)) ∧ W'.cell? ⟨g, off + j * 11 + 2, none⟩ = some (.int .u64 q.num) ∧ W'.cell? ⟨g, off + j * 11 + 3, none⟩ = some (.int .u8 q.kd) ∧ W'.cell? ⟨g, off + j * 11 + 4, none⟩ = some (.int .u32 q.ob) ∧ W'.cell? ⟨g, off + j * 11 + 5, none⟩ = some (.int .u32 q.fe) ∧ W'.cell? ⟨g, off + j * 11 + 6, none⟩ = some (.int .u32 q.nu) ∧ W'.cell? ⟨g, off + j * 11 + 7, none⟩ = some (.int .i32 q.x) ∧ W'.cell? ⟨g, off + j * 11 + 8, none⟩ = some (.int .i32 q.y) ∧ W'.cell? ⟨g, off + j * 11 + 9, none⟩ = some (.int .u32 q.ck) ∧ W'.cell? ⟨g, off + j * 11 + 10, none⟩ = some (.float .f64 q.sp)) := fun W' hk => by
        obtain ⟨g1, o1, e1, c1⟩ := (hP.kd hk).row hp
        obtain ⟨g2, o2, e2, c2⟩ := (hP.kd hk).row hq
        cases e1; cases e2
        exact ⟨c1, c2⟩
      have HSR := Lib.hid hSR
      have zb := fun W => beg1_t p q (HE.out p (List.mem_of_getElem? hp)) (HE.out q (List.mem_of_getElem? hq)) W
      have HZ := Lib.hid zb
      have HI := Lib.hid (And.intro hi (And.intro hp hq))
      clear hA hK hP cp hSR zb hi hp hq e1 hm h2
      go_wp2
      rename_i Kx hKx
      go_region_held3 (fun W => (W.cell? ⟨g, off + i * 11, none⟩ = some (.int .i64 p.slot) ∧ W.cell? ⟨g, off + i * 11 + 1, none⟩ = some (.int .u32 (p.ep : Int)) ∧ W.cell? ⟨g, off + i * 11 + 2, none⟩ = some (.int .u64 p.num) ∧ W.cell? ⟨g, off + i * 11 + 3, none⟩ = some (.int .u8 p.kd) ∧ W.cell? ⟨g, off + i * 11 + 4, none⟩ = some (.int .u32 p.ob) ∧ W.cell? ⟨g, off + i * 11 + 5, none⟩ = some (.int .u32 p.fe) ∧ W.cell? ⟨g, off + i * 11 + 6, none⟩ = some (.int .u32 p.nu) ∧ W.cell? ⟨g, off + i * 11 + 7, none⟩ = some (.int .i32 p.x) ∧ W.cell? ⟨g, off + i * 11 + 8, none⟩ = some (.int .i32 p.y) ∧ W.cell? ⟨g, off + i * 11 + 9, none⟩ = some (.int .u32 p.ck) ∧ W.cell? ⟨g, off + i * 11 + 10, none⟩ = some (.float .f64 p.sp)) ∧ (W.cell? ⟨g, off + j * 11, none⟩ = some (.int .i64 q.slot) ∧ W.cell? ⟨g, off + j * 11 + 1, none⟩ = some (.int .u32 (q.ep : Int)) ∧ W.cell? ⟨g, off + j * 11 + 2, none⟩ = some (.int .u64 q.num) ∧ W.cell? ⟨g, off + j * 11 + 3, none⟩ = some (.int .u8 q.kd) ∧ W.cell? ⟨g, off + j * 11 + 4, none⟩ = some (.int .u32 q.ob) ∧ W.cell? ⟨g, off + j * 11 + 5, none⟩ = some (.int .u32 q.fe) ∧ W.cell? ⟨g, off + j * 11 + 6, none⟩ = some (.int .u32 q.nu) ∧ W.cell? ⟨g, off + j * 11 + 7, none⟩ = some (.int .i32 q.x) ∧ W.cell? ⟨g, off + j * 11 + 8, none⟩ = some (.int .i32 q.y) ∧ W.cell? ⟨g, off + j * 11 + 9, none⟩ = some (.int .u32 q.ck) ∧ W.cell? ⟨g, off + j * 11 + 10, none⟩ = some (.float .f64 q.sp))) (first | with_reducible assumption | exact HSR.out _ (by first | exact HK2.out | (refine HK2.out.trans ?_; (repeat (first | exact Keeps.refl _ _ | refine Keeps.alloc ?_ _ | refine Keeps.drew ?_)); done) | (repeat (first | exact Keeps.refl _ _ | refine Keeps.alloc ?_ _ | refine Keeps.drew ?_)))) (first | (go_at_call 10; (with_reducible refine (HZ.out _).mono ?_); rintro e w2 ⟨rfl, hk2⟩; have HK2 := Lib.hid (Keeps.trans (show Keeps (fun _ => False) wr _ from by (repeat (first | exact Keeps.refl _ _ | refine Keeps.alloc ?_ _ | refine Keeps.drew ?_))) hk2); clear hk2))
      refine hKx _ _ ?_
      clear hKx
      by_cases hc : (p.ep : Int) - (q.ep : Int) < 0
      · go_wp2
        go_ret
        have hr : rises (·.ep) L = false := by
          rw [← Bool.not_eq_true]
          intro ht
          have : q.ep ≤ p.ep := (rises_get (·.ep)).1 ht j q p HI.out.2.2 (by rw [← HI.out.1]; exact HI.out.2.1)
          omega
        rw [hr]
        exact ⟨rfl, HKR.out.trans HK2.out⟩
      · go_wp2
        go_roundw
        case rel =>
          refine ⟨j + 1, congrArg _ (by omega), by have := HI.out.1; omega, fun k x y h1 h2 h3 => ?_, HKR.out.trans HK2.out⟩
          by_cases hk : k = j
          · subst hk
            have h4 := HI.out.2.2
            have h5 := HI.out.2.1
            rw [HI.out.1] at h5
            rw [h2] at h4
            rw [h3] at h5
            cases h4; cases h5
            omega
          · exact HA.out k x y (by omega) h2 h3
        case measure => simp only [intOf]; have := HI.out.1; omega
end Mb
end Go.Proofs.YtdaindihobfokaaGreatDoor
